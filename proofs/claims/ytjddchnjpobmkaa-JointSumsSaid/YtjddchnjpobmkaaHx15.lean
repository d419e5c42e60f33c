/- A part of the proof: an interpreter over abstract values, shown right against the model, and what the functions of the chapter compute on it. -/
import Derived.Test.YtjddchnjpobmkaaHx14
set_option linter.unusedVariables false
set_option linter.unusedSimpArgs false
set_option linter.unnecessarySimpa false
section
namespace Hx
open Go
noncomputable section
structure DBl (D:ND) (n i:Nat) (num:Nat->Nat):Prop where
 c:∀u,u<n->D.c u=2\/D.c u=3
 p:∀u,u<n->(D.P u).length<=3/\∀y∈D.P u,0<=y/\y<n
 m:∀u,u<n->D.m u<=64
 o:∀u,D.o u=0
 f:∀k,i<=k->k<n->D.P (num k)=[]/\D.m (num k)=0
structure DL (r0:List AV) (n q:Nat) (gr:Int) (r5:AV) (num:Nat->Nat) (i:Nat) (t:T) (g:G):Prop where
 st:St t (LDA n q r5)
 hd:∃V E D,DN X1 r0 n q 1000 gr V E D g/\DBl D n i num/\DOk gr D n i num
theorem Ks {n:Nat}{D:ND}:∀k,LNX X1 n D k->LNX X2 n D k:=fun k h=>by
 rcases h with h | h
 ·exact .inl h
 ·exact .inr (.inl h)
theorem J5 {d n q kk:Nat}{x:tS}{gr:Int}{a b r5:AV}{pl:List Int}{num:Nat->Nat}{Q:QT}{t:T}{g:G}(hd:0<d)(hgr:0<=gr/\gr<=60)(hn:1<=n/\n<=5)(ha:SlR NoP kk .nil x.2.1 a)(h5:IT 0 pl r5)(hN:Num n pl num)
  (h0:DL [u8v x.1,a,b] n q gr r5 num 0 t g) (h10:tat t 10=.int .i64 0)
  (fin:∀t g,DL [u8v x.1,a,b] n q gr r5 num n t g->Q (.exit 2) t [] g):wpL (wp C0 d none d9) Q t [] g:=by
 obtain ⟨pr,r1,r2,r3,r4⟩:=ha.all
 have r1:∀h',am h' 3 a=some pr:=r1
 have la:=ha.len
 have hal:=ha.1
 have r5i:∀h,am h 1 r5=some (pl.map ci):=fun h=>(h5.sl h).ints
 simp only[d9,ip]
 refine gX n (by omega) (fun j t df g=>df=[]/\DL [u8v x.1,a,b] n q gr r5 num j t g) ⟨rfl,h0⟩ h10 (by decide) ?_ ?_ ?_ ?_
 ·rintro j t df g v s (rfl | rfl | rfl) ⟨a1,⟨b1,b2,b3,b4,b5,-⟩,c3⟩<;>exact ⟨a1,by simp[St,LDA,sx,b1,b2,b3,b4,b5],c3⟩
 ·rintro j t df g hj ⟨rfl,⟨h1,h2,h3,h4,h5,-⟩,hD⟩ h10
  simp only[sz,simprocAttr,h10,h3]
  exact ⟨by simp[St,LDA,sx,h1,h2,h3,h4,h5],hD⟩
 ·rintro j t df g hj ⟨rfl,⟨h1,h2,h3,h4,h5',-⟩,V,E,D,hD,hb,hok⟩ h10
  obtain ⟨p,hp⟩:∃p,p=g.nx:=⟨_,rfl⟩
  have hnx:=hD.hp.nx
  refine cV (P:=fun t' df g'=>df=[]/\g'=g.new (.cells 3 [[.int .u8 0,.int .u8 0,.nils]] 0 false false)/\St t' ((10,.int .i64 (j:Int))::(11,.hptr p 0 0 0)::LDA n q r5)) ?_ ?_
  ·simp only[sz,simprocAttr]
   simp[St,LDA,sx,h1,h2,h3,h4,h5',h10,hp]
  clear h1 h2 h3 h4 h5' h10
  rintro t df g1 ⟨rfl,hg1,⟨h10,h11,h1,h2,h3,h4,h5',-⟩⟩
  have f1:Fr g g1:=by rw[hg1];exact Fr.new _ _
  have k8:g1.h.get p=.cells 3 [[.int .u8 0,.int .u8 0,.nils]] 0 false false:=by rw[hg1,hp];simp[H.get_put]
  have n1:p<g1.nx:=by rw[hg1,hp];simp
  clear hg1
  have hD1:=hD.same f1
  have e0:=hD1.h0
  refine cV (P:=fun t' df g'=>df=[]/\Fr g g'/\St t' ((10,.int .i64 (j:Int))::(11,.hptr p 0 0 0)::LDA n q r5)/\p<g'.nx/\∃(y1 y2:UInt8) (W:List UInt8) (wv:AV),SlR NoP kk .nil W wv/\g'.h.get p=.cells 3 [[u8v y1,u8v y2,wv]] 0 false false) ?_ ?_
  ·simp only[sz,simprocAttr,h10,h1,e0,la]
   refine iT (fun hb=>?_) (fun hb=>?_)
   ·have hb:j<x.2.1.length:=by simpa using hb
    obtain ⟨y,hy,-,-⟩:=au hb
    obtain ⟨row,q1,q2⟩:=r3 j y hy
    obtain ⟨wv,rfl,hwv⟩:=yG.1 q2
    have hlt:j<pr.length:=by omega
    have hry:=r4 (by omega)
    simp only[sz,simprocAttr,h10,h1,e0,r1,hlt,q1,h11,k8]
    refine ⟨?_,by simp[St,LDA,sx,h1,h2,h3,h4,h5',h10,h11],by simpa using n1,y.1,y.2.1,y.2.2,wv,hwv,by simp[H.get_put]⟩
    exact ⟨Nat.le_trans f1.1 (by simp),fun i hi=>by simp[H.get_put,show ¬i=p by omega];exact f1.2 i hi⟩
   ·simp only[sx,sy]
    exact ⟨f1,by simp[St,LDA,sx,h1,h2,h3,h4,h5',h10,h11],n1,0,0,[],.nils,⟨by show 0<9223372036854775808;decide,rfl⟩,k8⟩
  clear h1 h2 h3 h4 h5' h10 h11 e0 hD1 k8 n1 f1
  rintro t df g2 ⟨rfl,f2,⟨h10,h11,h1,h2,h3,h4,h5',-⟩,n2,y1,y2,W,wv,hwv,k8⟩
  have hH:=hD.hp.add (g':=g2) (k:=(0,2)) (L':=LNX X2 n D) (v':=.hptr p 0 0 0) (e':=.bx [u8v y1,u8v y2,wv]) (by
   rintro (h | h)
   ·rcases h with h | ⟨i',q',h,-,-⟩<;>simp at h
   ·simp[X1] at h) ⟨p,by omega,n2,rfl,k8⟩ f2.1 (fun i _ hi=>f2.2 i hi) (fun i hi=>by injection hi with hi;omega) (fun k hk=>by
   rcases hk with h | h | h
   ·exact .inl (.inl h)
   ·exact .inl (.inr h)
   ·exact .inr h)
  have hfj:=hb.f j (Nat.le_refl _) hj
  have hvn:=hN.lt j hj
  have hvi:∀k,j<k->k<n->num k≠num j:=fun k h1 h2 e=>by
   have:=hN.inj k j h2 hj e
   omega
  have hvl:∀k,k<j->num k≠num j:=fun k h1 e=>by
   have:=hN.inj k j (by omega) hj e
   omega
  have hDP:DP [u8v x.1,a,b] [u8v y1,u8v y2,wv] n q j p (num j) gr r5 num g2 (ups V (0,2) (.hptr p 0 0 0)) (ups E (0,2) (.bx [u8v y1,u8v y2,wv])) D:=by
   refine ⟨⟨hH,⟨?_,fun u hu=>?_,fun u hu=>?_,fun u r hu hr=>?_⟩,?_,?_,by rw[f2.2 0 (by omega),hD.h0],by rw[f2.2 1 (by omega),hD.h1]⟩,⟨aD _ _ _,aD _ _ _⟩,⟨hb.c,hb.p,hb.m,hb.o,fun k h1 h2=>hb.f k (by omega) h2⟩,hfj.2,hok⟩
   ·rw[ac _ _ (by simp),hD.bn.ns]
    exact congrArg (En.sl 3) (List.map_congr_left fun u _=>by simp[fC,ac])
   ·rw[ac _ _ (by simp)];exact hD.bn.ps u hu
   ·rw[ac _ _ (by simp)]
    have:=hD.bn.rs u hu
    refine ⟨?_,this.2⟩
    rw[this.1]
    exact congrArg (En.sl 1) (List.map_congr_left fun r _=>by simp[C9,ac])
   ·rw[ac _ _ (by simp),ac _ _ (by simp)];exact hD.bn.rr u r hu hr
   ·rw[ac _ _ (by simp)];exact hD.vb
   ·rw[ac _ _ (by simp),ac _ _ (by simp)];exact hD.bx
  have u1:j<(pl.map ci).length:=by rw[List.length_map,hN.len];exact hj
  have u2:(pl.map ci)[j]?=some (ci (num j:Int)):=by rw[List.getElem?_map,hN.at_ j hj];rfl
  simp only[sz,simprocAttr,ij,h5',h10,r5i,u1,u2,ci]
  refine Ms (n:=n) (q:=q) (i:=j) (p:=p) (v:=num j) (r5:=r5) (num:=num) hn h5 hN hj rfl ⟨by simp[St,LDB,sx,h1,h2,h3,h4,h5',h10,h11],_,_,_,hDP,fun y hy=>by rw[hfj.1] at hy;simp at hy⟩ (by simp[sx]) ?_
  clear h1 h2 h3 h4 h5' h10 h11 hDP hH
  rintro t g3 ⟨⟨h1,h2,h3,h4,h5',h10,h11,h12,-⟩,V3,E3,D3,hP3,-⟩
  simp only[sz,simprocAttr,je]
  refine L1 (n:=n) (q:=q) (i:=j) (p:=p) (v:=num j) (r5:=r5) (num:=num) (P0:=D3.P (num j)) (c0:=D3.c) hd hn hvn hvi hvl hgr hwv ⟨by simp[St,LDB,sx,h1,h2,h3,h4,h5',h10,h11,h12],V3,E3,D3,hP3.dn,hP3.pb,hP3.db,hP3.mv,rfl,rfl,hP3.ok⟩ (by simp[sx]) ?_
  clear h1 h2 h3 h4 h5' h10 h11 h12 hP3
  rintro t g4 M hMp ⟨⟨h1,h2,h3,h4,h5',h10,h11,h12,-⟩,V4,E4,D4,hQ4⟩
  simp only[sx,sy,↓reduceIte]
  have hd4:=hQ4.dn
  refine ⟨⟨by simp[St,LDA,h1,h2,h3,h4,h5'],V4,E4,D4,⟨hd4.hp.sub Ks,hd4.bn,hd4.vb,hd4.bx,hd4.h0,hd4.h1⟩,⟨hQ4.db.c,hQ4.db.p,hQ4.db.m,hQ4.db.o,fun k hk hkn=>hQ4.db.f k hk hkn⟩,⟨hQ4.ok.s,hQ4.ok.a,fun k hk=>?_,hQ4.ok.r⟩⟩,h10⟩
  by_cases e:k=j
  ·rw[e,hQ4.mv,hQ4.pv,hQ4.cv,hMp]
  ·exact hQ4.ok.w k (by omega)
 ·rintro t df g ⟨rfl,h⟩
  exact fin t g h
structure Drafted (m:Net):Prop where
 l:1<=m.nodes.length/\m.nodes.length<=5
 c:∀x∈m.nodes,x.card=2\/x.card=3
 b:∀x∈m.nodes,x.parents.length<=1000/\x.rows.length<=1000/\∀r∈x.rows,r.length<=1000
 nr:NR m
theorem qC {l:List Int}{n:Int}(hs:l.Pairwise (·<·))(hb:∀y∈l,0<=y/\y<n):S.ax l n=true:=by
 simp only[S.ax,S.bw,List.all_eq_true,List.mem_range,Bool.and_eq_true,Bool.or_eq_true,decide_eq_true_eq,beq_iff_eq]
 intro i hi
 obtain ⟨x,hx⟩:∃x,l[i]?=some x:=⟨_,List.getElem?_eq_getElem hi⟩
 have:=hb x (List.mem_of_getElem? hx)
 rw[hx,Option.getD_some]
 refine ⟨this,?_⟩
 by_cases e:i=0
 ·exact .inl e
 ·right
  obtain ⟨y,hy⟩:∃y,l[i - 1]?=some y:=⟨_,List.getElem?_eq_getElem (by omega)⟩
  rw[hy,Option.getD_some]
  have h1:=(List.getElem?_eq_some_iff.1 hx).2
  have h2:=(List.getElem?_eq_some_iff.1 hy).2
  rw[<-h1,<-h2]
  exact List.pairwise_iff_getElem.1 hs (i - 1) i (by omega) hi (by omega)
def JD (num:Nat->Nat):Nat->Nat
 | 0=>0
 | k+1=>JD num k ||| S.aD (num k)
theorem Al {n:Nat}{pl:List Int}{num:Nat->Nat}(hN:Num n pl num)(hn:n<=64)(v:Nat):∀k,k<=n->((JD num k).testBit v=true↔∃k',k'<k/\num k'=v)
 | 0,_=>by simp[JD]
 | k+1,hk=>by
  have hlt:=hN.lt k (by omega)
  rw[JD,lJ,pL (by omega),Bool.or_eq_true,decide_eq_true_eq,Al hN hn v k (by omega)]
  constructor
  ·rintro (⟨k',h1,h2⟩ | h)
   ·exact ⟨k',by omega,h2⟩
   ·exact ⟨k,by omega,h⟩
  ·rintro ⟨k',h1,h2⟩
   by_cases e:k'=k
   ·subst e;exact .inr h2
   ·exact .inl ⟨k',by omega,h2⟩
theorem MC {gr:Int}{D:ND}{n:Nat}{pl:List Int}{num:Nat->Nat}(hN:Num n pl num)(hn:1<=n/\n<=5)(hgr:1<=gr/\gr<=60)(hb:DBl D n n num)(hok:DOk gr D n n num):NR ⟨gr,(List.range n).map D.node⟩:=by
 have hcl:(S.ac ⟨gr,(List.range n).map D.node⟩)=(List.range n).map D.c:=by
  unfold S.ac
  rw[List.map_map];rfl
 refine ⟨hgr.1,hgr.2,by simpa using hn.1,by simp;omega,fun x hx=>?_,fun x hx=>?_,?_,?_,fun x hx=>?_,fun x hx r hr=>?_⟩
 ·obtain ⟨u,hu,rfl⟩:=List.mem_map.1 hx
  have:=hb.c u (List.mem_range.1 hu)
  show 1<=D.c u/\D.c u<=4
  omega
 ·obtain ⟨u,hu,rfl⟩:=List.mem_map.1 hx
  have hu:=List.mem_range.1 hu
  refine qC (hok.s u hu) fun y hy=>?_
  have:=(hb.p u hu).2 y hy
  simpa using this
 ·rw[hcl]
  have h1:∀c∈(List.range n).map D.c,1<=c/\c<=4:=fun c hc=>by
   obtain ⟨u,hu,rfl⟩:=List.mem_map.1 hc
   have:=hb.c u (List.mem_range.1 hu)
   omega
  have h2:=bE h1
  have h3:=cz (a:=((List.range n).map D.c).length) (b:=5) (by simpa using hn.2)
  have h4:(4:Int) ^ 5=1024:=by decide
  omega
 ·have hpl:(S.am ⟨gr,(List.range n).map D.node⟩).length=n:=by simp[S.am]
  have hpar:∀v,v<n->Par (S.am ⟨gr,(List.range n).map D.node⟩) v=S.aq (D.P v):=fun v hv=>by
   simp[Par,S.am,hv,ND.node]
  have hgood:∀k,k<=n->Gv (S.am ⟨gr,(List.range n).map D.node⟩) (JD num k):=fun k=>by
   induction k with
   | zero=>exact fun _=>yB
   | succ k ih =>
    intro hk
    have hlt:=hN.lt k (by omega)
    refine Be (ih (by omega)) (by omega) fun u hu=>?_
    rw[hpar _ hlt] at hu
    have hu:=(qH fun x hx=>by have:=(hb.p _ hlt).2 x hx;omega).1 hu
    obtain ⟨k',h1,h2⟩:=hok.a k (by omega) _ hu
    exact (Al hN (by omega) u k (by omega)).2 ⟨k',h1,by omega⟩
  refine sI (hgood n (Nat.le_refl _)) fun v hv=>?_
  rw[hpl] at hv
  exact (Al hN (by omega) v n (Nat.le_refl _)).2 (hN.sur v hv)
 ·obtain ⟨u,hu,rfl⟩:=List.mem_map.1 hx
  have hu:=List.mem_range.1 hu
  obtain ⟨k,hk,rfl⟩:=hN.sur u hu
  show (((List.range (D.m (num k))).map (D.R (num k))).length:Int)=S.aa (S.ae _ (D.P (num k)))
  rw[DW hu (hb.p _ hu).2]
  have:=hok.w k hk
  unfold S.a_ at this
  rw[<-this];simp
 ·obtain ⟨u,hu,rfl⟩:=List.mem_map.1 hx
  have hu:=List.mem_range.1 hu
  obtain ⟨r',hr',rfl⟩:=List.mem_map.1 hr
  exact hok.r u r' hu (List.mem_range.1 hr')
def HQ:VS:=fun P k h v=>∃m:Net,Drafted m/\Agg m P k h v
def V0 (W:AV)(q:Nat):Ky->AV:=fun k=>match k with
 | (0,0)=>W
 | (0,1)=>.hptr q 0 0 0
 | _=>.nils
def E0 (W:AV)(n:Nat)(gr:Int):Ky->En:=fun k=>match k with
 | (0,0)=>.sl 3 (List.replicate n [.int .i64 0,.nils,.nils])
 | (0,1)=>.bx [.int .i64 gr,W]
 | _=>.sl 1 []
def D0:ND:=⟨fun _=>0,fun _=>[],fun _=>0,fun _ _=>[],fun _=>0⟩
theorem hp0 {W:AV}{n q:Nat}{gr:Int}{g:G}(hW:Own g 2 W 3 (List.replicate n [.int .i64 0,.nils,.nils]))(hq:g.h.get q=.cells 2 [[.int .i64 gr,W]] 0 false false)(h2:2<=q/\q<g.nx)(hne:vid W≠some q):Hp g 2 (LNX X1 n D0) (V0 W q) (E0 W n gr):=by
 have hk:∀k,LNX X1 n D0 k->k=(0,0)\/k=(0,1)\/∃i s,k=(i+1,s):=fun k h=>by
  rcases h with h | h
  ·rcases h with h | ⟨i,s,h,-⟩
   ·exact .inl h
   ·exact .inr (.inr ⟨i,s,h⟩)
  ·exact .inr (.inl h)
 refine ⟨fun k h=>?_,fun k l h h' hkl id h1 h3=>?_,by omega⟩
 ·rcases hk k h with rfl | rfl | ⟨i,s,rfl⟩
  ·exact hW
  ·exact ⟨q,h2.1,h2.2,rfl,hq⟩
  ·exact .inl ⟨rfl,rfl⟩
 ·rcases hk k h with rfl | rfl | ⟨i,s,rfl⟩<;>rcases hk l h' with rfl | rfl | ⟨i',s',rfl⟩
  ·exact hkl rfl
  ·have h1:eid W=some id:=h1
   have h3:some q=some id:=h3
   rw[cY hW] at h1
   injection h3 with h3;subst h3
   exact hne h1
  ·cases h3
  ·have h3:eid W=some id:=h3
   have h1:some q=some id:=h1
   rw[cY hW] at h3
   injection h1 with h1;subst h1
   exact hne h3
  ·exact hkl rfl
  ·cases h3
  ·cases h1
  ·cases h1
  ·cases h1
theorem J0 {x:Int}{w:AV}(h:w.cells=[w])(h2:w.isTup=false):dv [.int .i64 0,.nils] [((0,1),.int .i64 x),((1,1),w)]=some [.int .i64 x,w]:=by
 have k1:(AV.int .i64 x).cells=[.int .i64 x]:=rfl
 have k2:(AV.int .i64 x).isTup=false:=rfl
 simp[dv,h,h2,cU,k1,k2]
 rfl
theorem Kh {a b:AV}(ha:a.cells=[a]/\a.isTup=false)(hb:b.cells=[b]/\b.isTup=false):dv [.nils,.int .u16 0,.nils] [((0,1),a),((2,1),b)]=some [a,.int .u16 0,b]:=by
 simp[dv,ha,hb,cU]
 rfl
theorem KT {d k:Nat}{g:G}{P:Nat->Prop}{v:AV}{x:tS}(hd:0<d)(hm:Agg x P k g.h v):∃r,an C0 d N.bg [v] g=.val r/\HQ NoP 0 .nil r:=by
 obtain ⟨v',e,cs,rfl,hc⟩:=pp (dy x) (by decide) d hm
 obtain ⟨a,b,rfl,ha,hb⟩:=yP.1 hc
 have ha:=ha.tree (h':=.nil) (Nat.le_refl _)
 have hb:=hb.tree (h':=.nil) (Nat.le_refl _)
 rw[qg]
 refine ba sg (xs:=[.agg [u8v x.1,a,b]]) (by simp only[aB,e]) (by simp[h_]) (jN fun m=>dy _) (by decide) hd ?_
 simp only[sz,simprocAttr,h_]
 obtain ⟨g0,hg0⟩:∃g0,g0=(G.empty.new (.cells 3 [[u8v x.1,a,b]] 0 false false)).new (.cells 2 [[.int .i64 0,.nils]] 0 false false):=⟨_,rfl⟩
 rw[<-hg0]
 have f0:g0.h.get 0=.cells 3 [[u8v x.1,a,b]] 0 false false:=by rw[hg0];simp[sx,H.get_put]
 have f1:g0.h.get 1=.cells 2 [[.int .i64 0,.nils]] 0 false false:=by rw[hg0];simp[sx]
 have f2:g0.nx=2:=by rw[hg0];simp[sx]
 clear hg0
 have la:=ha.len
 have hal:=ha.1
 unfold jI
 obtain ⟨n,hn,hnb⟩:∃n:Nat,n=min (max x.2.1.length 1) 5/\1<=n/\n<=5:=⟨_,rfl,by omega⟩
 refine cV (P:=fun t' df g'=>df=[]/\g'=g0/\St t' [(1,.hptr 0 0 0 0),(2,.hptr 1 0 0 0),(3,.int .i64 (n:Int))]) ?_ ?_
 ·simp only[sz,simprocAttr,f0,la]
  simp[St,sx]
  omega
 rintro t df g1 ⟨rfl,rfl,h1,h2,h3,-⟩
 obtain ⟨gr,hgr,hgb⟩:∃gr:Int,gr=1+(x.1.toNat:Int) % 60/\0<=gr/\gr<=60:=⟨_,rfl,by omega,by omega⟩
 have q1:=n0 .u8 (a:=(x.1.toNat:Int)) (b:=60) (by omega) (by omega)
 have w1:IntKind.wrap .i64 ((x.1.toNat:Int) % 60)=(x.1.toNat:Int) % 60:=aC (by omega) (by omega)
 have w2:IntKind.wrap .i64 (1+(x.1.toNat:Int) % 60)=gr:=by rw[hgr,aC (by omega) (by omega)]
 refine cV (P:=fun t' df g'=>df=[]/\∃q V E D,St t' [(1,.hptr 0 0 0 0),(2,.hptr 1 0 0 0),(3,.int .i64 (n:Int)),(4,.hptr q 0 0 0)]/\DN X1 [u8v x.1,a,b] n q 1000 gr V E D g'/\(∀u,D.P u=[]/\D.m u=0/\D.o u=0)) ?_ ?_
 ·simp only[sz,simprocAttr,sf,h1,h3,f0,u8v,q1,w1,w2]
  refine jd (b:=2) (n:=n) (by unfold a_;omega) (by unfold a_;omega) (by first | (simp;done) | (simp;omega)) fun W g2 hW n2 f2' vW lg2=>?_
  simp only[sy] at n2 f2' vW lg2
  simp only[sz,simprocAttr,sf,J0 hW.cell.1 hW.cell.2,lg2]
  have n2':g1.nx+7=g2.nx:=by omega
  have k0:g2.h.get 0=.cells 3 [[u8v x.1,a,b]] 0 false false:=by rw[f2' 0 (by omega),f0]
  have k1:g2.h.get 1=.cells 2 [[.int .i64 0,.nils]] 0 false false:=by rw[f2' 1 (by omega),f1]
  refine ⟨?_,g2.nx+1+1,V0 W (g2.nx+1+1),E0 W n gr,D0,by simp[St,sx,h1,h2,h3],⟨hp0 ?_ ?_ ⟨by omega,by simp⟩ ?_,⟨?_,fun u _=>⟨rfl,by show 0<=1000;omega⟩,fun u _=>⟨rfl,by show 0<=1000;omega⟩,fun u r _ hr=>by cases hr⟩,rfl,rfl,?_,?_⟩,fun u=>⟨rfl,rfl,rfl⟩⟩
  ·simp only[List.reverse_cons,List.reverse_nil,List.nil_append,List.cons_append,G.new_lg,G.put_lg,setLog_lg]
   refine aL [false,false,false,false,false,false,true,false,true,true] [(0,6),(1,6),(2,6),(3,6),(4,6),(0,8),(1,8),(2,8),(3,8),(4,8),(5,8),(6,8),(7,8)] (by simp[All2,ae,aA]) (by decide) ?_
   rintro p hp' x y hx hy
   simp only[List.mem_cons,List.not_mem_nil,or_false] at hp'
   rcases hp' with rfl | rfl | rfl | rfl | rfl | rfl | rfl | rfl | rfl | rfl | rfl | rfl | rfl<;>(simp at hx hy;subst hx;subst hy;refine eH rfl rfl rfl rfl ?_ ?_ ?_<;>simp[ae,aA,ak]<;>omega)
  ·refine hW.fr (by simp;omega) fun i hi=>?_
   have:=br vW hi
   simp[H.get_put,show ¬i=g2.nx+1+1 by omega]
  ·simp[H.get_put]
  ·intro e
   have:=br vW e
   omega
  ·show En.sl 3 (List.replicate n [.int .i64 0,.nils,.nils])=En.sl 3 ((List.range n).map fun _=>[.int .i64 0,.nils,.nils])
   congr 1
   rw[List.map_const',List.length_range]
  ·simp[H.get_put,k0];rfl
  ·simp[H.get_put,k1]
 clear h1 h2 h3
 rintro t df g2 ⟨rfl,q,V,E,D,⟨h1,h2,h3,h4,-⟩,hD,hD0⟩
 obtain ⟨num,hN⟩:=L8 x.2.2 n
 refine cV (P:=fun t' df g'=>df=[]/\Fr g2 g'/\∃r5,IT 0 (S.aE x.2.2 n) r5/\St t' (LDA n q r5)) ?_ ?_
 ·simp only[sz,simprocAttr,sf,h3]
  refine jd (b:=2) (n:=n) (by unfold a_;omega) (by unfold a_;omega) (by have:=hD.hp.nx;first | (simp;done) | (simp;omega)) fun U g3 hU n3 f3 vU lg3=>?_
  simp only[sy] at n3 f3 vU lg3
  have e0:g3.h.get 0=.cells 3 [[u8v x.1,a,b]] 0 false false:=by rw[f3 0 (by have:=hD.hp.nx;omega),hD.h0]
  simp only[sz,simprocAttr,sf,h1,e0,Kh hU.cell hb.cell]
  have hU':Own g3 2 U 1 ((List.replicate n (0:UInt8)).map fun y=>[u8v y]):=by simpa [u8v] using hU
  have hpm:∀g4:G,g4.h=g3.h->∃r,an C0 (d+1) N.aG [.agg [U,.int .u16 0,b]] g4=.val r/\IT 0 (S.aE x.2.2 n) r:=fun g4 h=>by
   have:=wo (d:=d+1) (g:=g4) (k:=max k d) (P:=fun _=>True) (x:=(List.replicate n (0:UInt8),(0:UInt16),x.2.2)) (v:=.agg [U,.int .u16 0,b]) (Nat.succ_pos d) ⟨_,rfl,qL.2 ⟨U,b,rfl,?_,?_⟩⟩
   ·have e:min (List.replicate n (0:UInt8)).length 5=n:=by simp;omega
    rw[e] at this
    exact this
   ·rw[h]
    exact Own.sl (α:=UInt8) hU' (by simp;omega) (All2.of_map (fun y=>gB.2 rfl) _) fun _ _=>trivial
   ·exact (hb.tree (h':=g4.h) (Nat.le_refl _)).wd fun _ h=>h.elim
  refine cI (hpm _ (by simp)) fun r hr=>?_
  simp only[sz,simprocAttr,sf,jv]
  refine ⟨?_,⟨?_,fun i hi=>?_⟩,r,hr,?_⟩
  ·simp only[List.reverse_cons,List.reverse_nil,List.nil_append,List.cons_append]
   refine aL [false,true,false,false,false,false,false] [(1,2),(1,3)] (by simp[All2,ae,aA]) (by decide) ?_
   rintro p hp' x y hx hy
   simp only[List.mem_cons,List.not_mem_nil,or_false] at hp'
   rcases hp' with rfl | rfl<;>(simp at hx hy;subst hx;subst hy;refine eH rfl rfl rfl rfl ?_ ?_ ?_<;>simp[ae,aA,ak,lg3])
  ·simp;omega
  ·simp
   exact f3 i (by omega)
  ·simp[St,LDA,sx,h1,h2,h3,h4]
 clear h1 h2 h3 h4
 rintro t df g3 ⟨rfl,f3,r5,hr5,⟨h1,h2,h3,h4,h5,-⟩⟩
 have hD3:=hD.same f3
 simp only[sz,simprocAttr]
 refine Mw (n:=n) (q:=q) (x:=x) (gr:=gr) (r5:=r5) (num:=num) hnb ha hr5 hN ⟨by simp[St,LDA,sx,h1,h2,h3,h4,h5],⟨1,by simp[sx],by decide⟩,V,E,D,hD3,fun v _=>⟨(hD0 v).1,(hD0 v).2.1⟩,fun k hk=>by omega,fun u=>(hD0 u).2.2⟩ (by simp[sx]) ?_
 clear h1 h2 h3 h4 h5 hD3
 rintro t g4 ⟨⟨h1,h2,h3,h4,h5,-⟩,-,V4,E4,D4,hD4,hok⟩
 simp only[sz,simprocAttr,im]
 refine J5 (n:=n) (q:=q) (x:=x) (gr:=gr) (r5:=r5) (num:=num) (Nat.succ_pos d) hgb hnb ha hr5 hN ⟨by simp[St,LDA,sx,h1,h2,h3,h4,h5],V4,E4,D4,hD4,⟨fun u hu=>?_,fun u hu=>?_,fun u hu=>?_,?_,fun k _ hk=>hok.e _ (hN.lt k hk)⟩,⟨fun u hu=>by rw[(hok.e u hu).1];exact .nil,fun k hk y hy=>by rw[(hok.e _ (hN.lt k hk)).1] at hy;simp at hy,fun k hk=>by omega,fun u r hu hr=>by rw[(hok.e u hu).2] at hr;omega⟩⟩ (by simp[sx]) ?_
 ·obtain ⟨k,hk,rfl⟩:=hN.sur u hu
  exact hok.c k hk
 ·rw[(hok.e u hu).1];simp
 ·rw[(hok.e u hu).2];omega
 ·exact hok.o
 clear h1 h2 h3 h4 h5
 rintro t g5 ⟨⟨h1,h2,h3,h4,h5,-⟩,V5,E5,D5,hD5,hb5,hk5⟩
 obtain ⟨kq,q2a,q2b⟩:=hD5.q rfl
 simp only[sz,simprocAttr,iz,h4,kq,h2,hD5.h1]
 have hnodes:=hD5.bn.nodes hD5.hp (fun k h=>.inl h) (by omega) (by omega)
 refine ⟨fun _=>True,⟨gr,(List.range n).map D5.node⟩,⟨by simpa using hnb,fun y hy=>?_,fun y hy=>?_,MC hN hnb (by omega) hb5 hk5⟩,⟨_,rfl,kH.2 ⟨_,rfl,hnodes.wd fun i hi=>⟨trivial,by simp[H.get_put,show ¬i=1 by omega]⟩⟩⟩⟩
 ·obtain ⟨u,hu,rfl⟩:=List.mem_map.1 hy
  exact hb5.c u (List.mem_range.1 hu)
 ·obtain ⟨u,hu,rfl⟩:=List.mem_map.1 hy
  have hu:=List.mem_range.1 hu
  refine ⟨(hD5.bn.ps u hu).2,?_,fun r hr=>?_⟩
  ·show ((List.range (D5.m u)).map (D5.R u)).length<=1000
   simpa using (hD5.bn.rs u hu).2
  ·obtain ⟨r',hr',rfl⟩:=List.mem_map.1 hr
   exact (hD5.bn.rr u r' hu (List.mem_range.1 hr')).1
def EvV (n:Net):VS:=fun P k h v=>∃l:List Int,S.aJ n l=true/\One l P k h v
theorem Mh (n:Net):Snb (EvV n) 0:=by
 refine ⟨fun {P k h v n} d r hn=>?_,fun {k h v n} r hn=>?_⟩
 ·obtain ⟨m,hm,r⟩:=r
  obtain ⟨v',e,r'⟩:=(aO m).snap d r hn
  exact ⟨v',e,m,hm,r'⟩
 ·obtain ⟨m,hm,r⟩:=r
  exact (aO m).tag r hn
def evP (n:Net)(l:List Int):Prop:=∀(i:Nat) (x:Int) (c:Node),l[i]?=some x->n.nodes[i]?=some c->-1<=x/\x<c.card
theorem JR {n:Net}{l:List Int}(hl:l.length=n.nodes.length)(h:evP n l):S.aJ n l=true:=by
 simp only[S.aJ,Bool.and_eq_true,decide_eq_true_eq,List.all_eq_true,List.mem_range]
 refine ⟨hl,fun i hi=>?_⟩
 obtain ⟨x,hx⟩:∃x,l[i]?=some x:=⟨_,List.getElem?_eq_getElem hi⟩
 obtain ⟨c,hc⟩:∃c,n.nodes[i]?=some c:=⟨_,List.getElem?_eq_getElem (by omega)⟩
 have:=h i x c hx hc
 simpa [S.ac,hx,hc] using this
theorem HO {d k:Nat}{g:G}{P:Nat->Prop}{w:AV}{m:Net}{vs:List UInt8}(hd:0<d)(hv:vs.length=9)(hm:Agg m P k g.h w)(hn:m.nodes.length<=8)(hc:∀x∈m.nodes,0<x.card) :
  ∃r,an C0 d N.bp [.agg (vs.map u8v),w] g=.val r/\EvV m NoP 0 .nil r:=by
 obtain ⟨v',e,cs,rfl,hcs⟩:=pp (dy m) (by decide) d hm
 obtain ⟨b,rfl,hN⟩:=kH.1 hcs
 obtain ⟨rows,r1,r2,r3,r4⟩:=hN.all
 have r1:∀h',am h' 3 b=some rows:=r1
 rw[qT]
 refine ba tj (xs:=[.agg (vs.map u8v),.agg [.int .i64 m.grain,b]]) (by simp only[aB,e,Ik]) (by simp[iB]) (Mh m) (by decide) hd ?_
 obtain ⟨cu8,hcu⟩:∃c,c=vs.map u8v:=⟨_,rfl⟩
 have hcl:cu8.length=9:=by rw[hcu,List.length_map,hv]
 simp only[sz,simprocAttr,iB,<-hcu]
 generalize hg0:((G.empty.new (AObj.cells cu8.length [cu8] 0 false false)).new (AObj.cells 2 [[AV.int IntKind.i64 m.grain,b]] 0 false false))=g0
 have f0:g0.h.get 0=.cells 9 [cu8] 0 false false:=by rw[<-hg0,hcl];simp[sx,H.get_put]
 have f1:g0.h.get 1=.cells 2 [[.int .i64 m.grain,b]] 0 false false:=by rw[<-hg0];simp[sx]
 have f2:2<=g0.nx:=by rw[<-hg0];simp[sx]
 clear hg0
 simp only[sz,simprocAttr,kV]
 refine gX m.nodes.length (by omega) (fun j t df g=>df=[]/\St t [(2,.hptr 0 0 0 0),(3,.hptr 1 0 0 0)]/\g.h.get 0=.cells 9 [cu8] 0 false false/\g.h.get 1=.cells 2 [[.int .i64 m.grain,b]] 0 false false/\2<=g.nx/\∃u L,tat t 5=u/\L.length=j/\evP m L/\Own g 2 u 1 (L.map ci))
  ⟨rfl,by simp[sx,St],f0,f1,f2,_,[],rfl,rfl,fun i x c hx=>by simp at hx,.inl ⟨by simp[sx],rfl⟩⟩ (by simp[sx]) (by decide) (by rintro j t df g v s (rfl | rfl | rfl)<;>simp[sx,St]) ?_ ?_ ?_
 ·rintro j t df g hj ⟨rfl,⟨h2,h3,-⟩,e0,e1,hnx,u,L,h5,hu⟩ h6
  simp only[sz,simprocAttr,h2,h3,h6,e0,e1,hN.len,St]
  exact ⟨hnx,u,L,h5,hu⟩
 ·rintro j t df g hj ⟨rfl,⟨h2,h3,-⟩,e0,e1,hnx,u,L,h5,hLl,hLp,hu⟩ h6
  obtain ⟨x,hx,htk,hm⟩:=au hj
  obtain ⟨row,z1,z2⟩:=r3 j x hx
  obtain ⟨fa,fb,rfl,-⟩:=dx.1 z2
  have hlt:j<rows.length:=by omega
  have hry:=r4 (by omega)
  have hj8:j<8:=by omega
  obtain ⟨y0,hy0⟩:∃y,vs[0]?=some y:=⟨_,List.getElem?_eq_getElem (by omega)⟩
  have hc0:cu8[0]?=some (.int .u8 (y0.toNat:Int)):=by rw[hcu,List.getElem?_map,hy0];rfl
  obtain ⟨y,hy⟩:∃y,vs[1+j]?=some y:=⟨_,List.getElem?_eq_getElem (by omega)⟩
  have hcy:cu8[1+j]?=some (.int .u8 (y.toNat:Int)):=by rw[hcu,List.getElem?_map,hy];rfl
  have hy8:y.toNat<256:=y.toNat_lt
  have hcx:=hc x hm
  obtain ⟨z,hz⟩:=zk y0.toNat j
  obtain ⟨z',hz'⟩:=yT z 1
  have hz':ct .and (.int .u8 (z:Int)) (.int .u8 1)=.val (.int .u8 z'):=hz'
  have w8:IntKind.wrap .i64 (y.toNat:Int)=(y.toNat:Int):=aC (by omega) (by omega)
  have w9:IntKind.wrap .u64 (j:Int)=(j:Int):=vy (by omega) (by omega)
  have key:∀(t:T) (X:Int),-1<=X->X<x.card->St t [(2,.hptr 0 0 0 0),(3,.hptr 1 0 0 0),(5,u),(6,.int .i64 (j:Int)),(7,.int .i64 X)] ->
    wp C0 (d+1) none fE (fun e t df g=>e=.norm/\(df=[]/\St t [(2,.hptr 0 0 0 0),(3,.hptr 1 0 0 0)]/\g.h.get 0=.cells 9 [cu8] 0 false false/\g.h.get 1=.cells 2 [[.int .i64 m.grain,b]] 0 false false/\2<=g.nx/\∃u L,tat t 5=u/\L.length=j+1/\evP m L/\Own g 2 u 1 (L.map ci))/\tat t 6=.int .i64 (j:Int)) t [] g:=by
   rintro t X hX1 hX2 ⟨h2,h3,h5,h6,h7,-⟩
   simp only[sz,simprocAttr,fE,h5,h7]
   refine bZ (new:=[ci X]) (hu.step (Fr.new _ _)) (by simp[sx,sy,ci]) (by simp;omega) (by simp[a_,hLl];omega) fun v2 g2 hv2 n2 f2 _ l2=>?_
   simp only[sz,simprocAttr,h2,h3,h6,St]
   refine ⟨?_,?_,?_,_,L++[X],rfl,by simp[hLl],?_,?_⟩
   ·rw[f2 0 (by simp) (fun e=>by have:=(hu.lt e).1;omega),G.new_h,aV _ _ _ (by omega),e0]
   ·rw[f2 1 (by simp;omega) (fun e=>by have:=(hu.lt e).1;omega),G.new_h,aV _ _ _ (by omega),e1]
   ·simp at n2;omega
   ·intro i a c ha hc'
    by_cases e:i=j
    ·subst e
     rw[hx] at hc';injection hc' with hc';subst hc'
     rw[<-hLl,List.getElem?_concat_length] at ha
     injection ha with ha;subst ha
     exact ⟨hX1,hX2⟩
    ·have hil:i<L.length:=by
      have:=(List.getElem?_eq_some_iff.1 ha).1
      simp at this;omega
     rw[List.getElem?_append_left hil] at ha
     exact hLp i a c ha hc'
   ·simpa [ci] using hv2
  simp only[sz,simprocAttr,h2,h6,e0,hc0,w9,hz,hz']
  refine iT (fun hb=>?_) (fun hb=>?_)
  ·have hm0:0<=(y.toNat:Int) % x.card:=Int.emod_nonneg _ (by omega)
   have hm1:(y.toNat:Int) % x.card<x.card:=Int.emod_lt_of_pos _ (by omega)
   simp only[sz,simprocAttr,h2,h3,h6,e0,e1,MU 8 1 _ _ _ _ _ hj8,Nat.mul_one,hcy,w8,r1,hlt,z1,hry,n0 .i64 (show 0<=(y.toNat:Int) by omega) hcx]
   refine bY _ (key _ ((y.toNat:Int) % x.card) (by omega) hm1 (by simp[St,sx,h2,h3,h5,h6])) ?_
   rintro e t df g ⟨rfl,h⟩
   exact h
  ·simp only[sx]
   refine bY _ (key _ (-1) (by omega) (by omega) (by simp[St,sx,h2,h3,h5,h6])) ?_
   rintro e t df g ⟨rfl,h⟩
   exact h
 ·rintro t df g ⟨rfl,⟨h2,h3,-⟩,e0,e1,hnx,u,L,h5,hLl,hLp,hu⟩
  simp only[sz,simprocAttr,jF,h5]
  exact ⟨_,L,JR hLl hLp,hu.ints (by omega)⟩
def LW (V:Ky->AV)(i:Nat)(c:Int):List AV:=[.int .i64 c,V (i+1,0),V (i+1,1)]
structure NdOk (K:Nat) (V:Ky->AV) (E:Ky->En) (i:Nat) (x:Node):Prop where
 ps:E (i+1,0)=.sl 1 (x.parents.map ci)
 rs:∃rws,E (i+1,1)=.sl 1 rws/\rws.length=x.rows.length/\∀(r:Nat) (y:List Int),x.rows[r]?=some y->rws[r]?=some [V (i+1,2+r)]
 rr:∀(r:Nat) (y:List Int),x.rows[r]?=some y->E (i+1,2+r)=.sl 1 (y.map ci)
 len:x.parents.length<=K/\x.rows.length<=K/\∀y∈x.rows,y.length<=K
def LS (L:List Node):Ky->Prop:=fun k=>k=(0,0)\/∃i q x,k=(i+1,q)/\L[i]?=some x/\q<2+x.rows.length
structure BLs (K:Nat) (V:Ky->AV) (E:Ky->En) (L:List Node):Prop where
 ns:∃rows,E (0,0)=.sl 3 rows/\rows.length=L.length/\∀(i:Nat) (x:Node),L[i]?=some x->rows[i]?=some (LW V i x.card)
 nd:∀(i:Nat) (x:Node),L[i]?=some x->NdOk K V E i x
def BBn (g:G)(brow:List AV)(gr:Int)(b:AV):Prop:=g.h.get 0=.cells 4 [brow] 0 false false/\g.h.get 1=.cells 2 [[.int .i64 gr,b]] 0 false false/\g.h.get 2=.cells 2 [[.int .i64 0,.nils]] 0 false false
def LX (L:List Node)(x:Node):Ky->Prop:=fun k=>LS L k\/k=(0,1)\/∃q,k=(L.length+1,q)/\q<2+x.rows.length
structure NB (K p:Nat) (L:List Node) (x:Node) (g:G) (brow:List AV) (gr:Int) (b W:AV) (V:Ky->AV) (E:Ky->En):Prop where
 hp:Hp g 3 (LX L x) V E
 bb:BBn g brow gr b
 vb:V (0,1)=.hptr p 0 0 0
 bx:E (0,1)=.bx (LW V L.length x.card)
 nd:NdOk K V E L.length x
 bl:BLs K V E L
 vw:V (0,0)=W
structure Oth (K:Nat) (L:List Node) (J:Nat) (V:Ky->AV) (E:Ky->En) (rows:List (List AV)):Prop where
 len:rows.length=L.length
 ns:∀(i:Nat) (y:Node),i≠J->L[i]?=some y->rows[i]?=some (LW V i y.card)
 nd:∀(i:Nat) (y:Node),i≠J->L[i]?=some y->NdOk K V E i y
structure BS (K J:Nat) (L:List Node) (x:Node) (bx:E8) (gr Rw:Int) (t:T) (g:G) (V:Ky->AV) (E:Ky->En):Prop where
 st:St t [(2,.hptr 0 0 0 0),(3,.hptr 1 0 0 0),(4,.hptr 2 0 0 0),(10,mC 3 (V (0,0)) J 0),(11,.int .i64 Rw)]
 hp:Hp g 3 (LS L) V E
 f0:g.h.get 0=.cells 4 [[u8v bx.1,u8v bx.2.1,u8v bx.2.2.1,.int .i64 bx.2.2.2]] 0 false false
 f1:g.h.get 1=.cells 2 [[.int .i64 gr,V (0,0)]] 0 false false
 f2:g.h.get 2=.cells 2 [[.int .i64 0,.nils]] 0 false false
 bl:BLs K V E L
 hx:L[J]?=some x
 hR:(Rw = -1/\x.rows.length=0)\/∃r:Nat,Rw=(r:Int)/\r<x.rows.length
 hK:K<=1000000
 hl:L.length<=K
structure BT (K J:Nat) (L:List Node) (x:Node) (g:G) (V:Ky->AV) (E:Ky->En) (rows:List (List AV)):Prop where
 own:Own g 3 (V (0,0)) 3 rows
 e0:E (0,0)=.sl 3 rows
 ry:qf (V (0,0))=true
 hlt:J<rows.length
 row:rows[J]?=some [.int .i64 x.card,V (J+1,0),V (J+1,1)]
 oth:Oth K L J V E rows
 nd:NdOk K V E J x
section
variable {d K J:Nat}{L:List Node}{x:Node}{bx:E8}{gr Rw:Int}{t:T}{g:G}{V:Ky->AV}{E:Ky->En}{Q:QT}
end
end
end Hx
end
section
namespace Hx
open Go
noncomputable section
structure BW (x:Node) (J:Nat) (g:G) (V:Ky->AV) (E:Ky->En) (rws:List (List AV)):Prop where
 own:Own g 3 (V (J+1,1)) 1 rws
 e1:E (J+1,1)=.sl 1 rws
 len:rws.length=x.rows.length
 at_:∀(r:Nat) (y:List Int),x.rows[r]?=some y->rws[r]?=some [V (J+1,2+r)]
section
variable {d K J:Nat}{L:List Node}{x:Node}{bx:E8}{gr Rw:Int}{t:T}{g:G}{V:Ky->AV}{E:Ky->En}{Q:QT}
end
end
end Hx
end
section
namespace Hx
open Go
noncomputable section
def Node.wr (x:Node)(r:Nat)(y:List Int):Node:=⟨x.card,x.parents,x.rows.set r y⟩
section
variable {d K J r:Nat}{L:List Node}{x:Node}{bx:E8}{gr Rw:Int}{t t':T}{g gb:G}{V:Ky->AV}{E:Ky->En}{Q:QT}{y y':List Int}
structure BR (x:Node) (J r:Nat) (y:List Int) (g:G) (V:Ky->AV) (E:Ky->En) (rws:List (List AV)):Prop where
 wr:am g.h 1 (V (J+1,1))=some rws
 rl:r<rws.length
 rw_:rws[r]?=some [V (J+1,2+r)]
 ry:qf (V (J+1,1))=true
 yr:am g.h 1 (V (J+1,2+r))=some (y.map ci)
 ye:E (J+1,2+r)=.sl 1 (y.map ci)
 yl:y.length<=K
end
end
end Hx
end
section
namespace Hx
open Go
noncomputable section
theorem Ea {α:Type} [Rp α]{x:α}{P:Nat->Prop}{cs:List AV}(h:Rp.rp NoP 0 .nil x cs)(h':H):Agg x P 0 h' (.agg cs):=⟨_,rfl,Rp.tree h (Nat.le_refl _)⟩
def K3:Nat->Prop:=fun k=>k<=2
def LT1 (w z:AV)(p:Nat):List (Nat×AV):=[(1,w),(2,z),(6,.hptr 1 0 0 0),(8,.hptr 3 0 0 0),(11,.hptr 4 0 0 0),(14,.hptr p 0 0 0)]
structure TbH (l cl:List Int) (p:Nat) (V:Nat->AV) (E:Nat->En) (g:G):Prop where
 hp:Hp g 5 K3 V E
 v0:V 0=.hptr p 0 0 0
 e0:E 0=.bx [V 1,V 2,.nils]
 e1:E 1=.sl 1 (l.map ci)
 e2:E 2=.sl 1 (cl.map ci)
theorem TbH.box {l cl:List Int}{p:Nat}{V:Nat->AV}{E:Nat->En}{g:G}(h:TbH l cl p V E g):g.h.get p=.cells 3 [[V 1,V 2,.nils]] 0 false false/\5<=p/\p<g.nx:=by
 obtain ⟨id,h1,h2,h3,h4⟩:=h.hp.box (k:=0) (by simp[K3]) h.e0
 rw[h.v0] at h3;injection h3 with h3;subst h3
 exact ⟨h4,h1,h2⟩
structure TbB (g0:G) (cs vars:List Int) (w z:AV) (p j:Nat) (t:T) (g:G):Prop where
 st:St t (LT1 w z p)
 h15:tat t 15=.int .i64 (S.aa (S.ae cs (vars.take j)))
 h57:tat t 57=z
 hd:∃V E,TbH (vars.take j) (S.ae cs (vars.take j)) p V E g
 fr:∀i,i<5->g.h.get i=g0.h.get i
theorem IZ (c:Int):S.aa [c]=c:=by simp[S.aa]
theorem LH {d kz:Nat}{n:Net}{vars:List Int}{b fl S_ w z:AV}{p:Nat}{Q:QT}{t:T}{g g0:G}(hr:NR n)(hN:SlR NoP 0 .nil n.nodes b)(hz:SlR NoP kz .nil vars z)(hpl:S.ax vars n.nodes.length=true)
  (k3:g0.h.get 3=.cells 4 [[.int .i64 n.grain,b,fl,S_]] 0 false false)
  (h0:TbB g0 (S.ac n) vars w z p 0 t g) (h58:tat t 58=.int .i64 (vars.length:Int)) (h59:tat t 59=.int .i64 0)
  (fin:∀t g,TbB g0 (S.ac n) vars w z p vars.length t g->Q (.exit 2) t [] g):wpL (wp C0 d none iE) Q t [] g:=by
 have rz:=fun h=>(hz.tree (h':=h) (Nat.le_refl _):SlR NoP kz h vars z).ints
 have hvl:=b_ hpl (by omega)
 have hl8:=hr.l2
 have hin:=bh hpl
 obtain ⟨rows,r1,r2,r3,r4⟩:=hN.all
 have r1:∀h',am h' 3 b=some rows:=r1
 simp only[iE]
 refine aJ (m:=vars.length) (by omega) (fun j t df g=>df=[]/\TbB g0 (S.ac n) vars w z p j t g) ⟨rfl,h0⟩ h59 h58 (by decide)
  (by
   rintro j t df g v s (rfl | rfl | rfl) ⟨a1,⟨a2,a3,a4,a5,a6⟩⟩<;>(obtain ⟨b1,b2,b3,b4,b5,b6,-⟩:=a2;exact ⟨a1,by simp[St,LT1,sx,b1,b2,b3,b4,b5,b6],by simp[sx,a3],by simp[sx,a4],a5,a6⟩)) ?_ ?_
 ·rintro j t df g hj ⟨rfl,⟨⟨h1,h2,h6,h8,h11,h14,-⟩,h15,h57,⟨V,E,hT⟩,hfr⟩⟩ h59 h58
  obtain ⟨v,hv,htk,hm⟩:=au hj
  have hvi:=hin v hm
  obtain ⟨vn,hvn⟩:∃vn:Nat,v=(vn:Int):=Int.eq_ofNat_of_zero_le hvi.1
  obtain ⟨x,hx,-,-⟩:=au (l:=n.nodes) (j:=vn) (by omega)
  obtain ⟨row,q1,q2⟩:=r3 vn x hx
  obtain ⟨fa,fb,rfl,-⟩:=dx.1 q2
  have hlt:vn<rows.length:=by omega
  have hryb:=r4 (by omega)
  have u1:j<(vars.map ci).length:=by simpa using hj
  have u2:(vars.map ci)[j]?=some (ci v):=by rw[List.getElem?_map,hv];rfl
  have hry:qf z=true:=nW (rz .nil) u1
  have hcx:S.ae (S.ac n) (vars.take (j+1))=S.ae (S.ac n) (vars.take j)++[x.card]:=by
   rw[htk,bF]
   congr 1
   simp[S.ae,hvn,S.ac,hx]
  have hcard:=hr.card x (List.mem_of_getElem? hx)
  have hcb:∀k,∀c∈S.ae (S.ac n) (vars.take k),1<=c/\c<=4:=fun k=>aN hr.cs fun y hy=>by rw[aG];exact hin y (List.mem_of_mem_take hy)
  have hp1:=bE (hcb (j+1))
  have hp2:=cz (a:=(S.ae (S.ac n) (vars.take (j+1))).length) (b:=8) (by rw[dX,List.length_take];omega)
  have hp3:(4:Int) ^ 8=65536:=by decide
  have hprod:S.aa (S.ae (S.ac n) (vars.take j))*x.card=S.aa (S.ae (S.ac n) (vars.take (j+1))):=by rw[hcx,fN,IZ]
  have w1:IntKind.wrap .i64 (S.aa (S.ae (S.ac n) (vars.take j))*x.card)=S.aa (S.ae (S.ac n) (vars.take (j+1))):=by rw[hprod,aC (by omega) (by omega)]
  refine bk (P:=fun t' df g'=>df=[]/\g'=g/\St t' ((17,.int .i64 v)::(15,.int .i64 (S.aa (S.ae (S.ac n) (vars.take j))))::(57,z)::(58,.int .i64 (vars.length:Int))::(59,.int .i64 (j:Int))::LT1 w z p)) ?_ ?_
  ·simp only[sz,simprocAttr,h57,h59,rz,u1,u2,ci]
   simp[St,LT1,sx,h1,h2,h6,h8,h11,h14,h15,h57,h58,h59]
  clear h1 h2 h6 h8 h11 h14 h15 h57 h58 h59
  rintro t df g' ⟨rfl,rfl,ht⟩
  refine bk (P:=fun t' df g''=>df=[]/\St t' ((17,.int .i64 v)::(15,.int .i64 (S.aa (S.ae (S.ac n) (vars.take j))))::(57,z)::(58,.int .i64 (vars.length:Int))::(59,.int .i64 (j:Int))::LT1 w z p)/\(∃V E,TbH (vars.take (j+1)) (S.ae (S.ac n) (vars.take j)) p V E g'')/\∀i,i<5->g''.h.get i=g0.h.get i) ?_ ?_
  ·obtain ⟨h17,h15,h57,h58,h59,h1,h2,h6,h8,h11,h14,-⟩:=ht
   obtain ⟨kb,hp5,hpn⟩:=hT.box
   have hnx:=hT.hp.nx
   simp only[sz,simprocAttr,h14,h17,kb]
   refine (hT.hp.step (g':=_) (by simp) (fun i hi hi2=>?_)).app (k:=1) (by simp[K3]) hT.e1 (new:=[ci v]) (by simp[sx,sy,ci]) (by simp[a_];omega) fun v1 g1 hH1 n1 fb1 fo1 _ vc vt=>?_
   ·simp[H.get_put];omega
   simp only[sx,sy] at n1 fb1 fo1
   obtain ⟨id,b1,b2,b3,b4⟩:=hH1.box (k:=0) (by simp[K3]) (by rw[ac _ _ (by simp)];exact hT.e0)
   rw[ac _ _ (by simp),hT.v0] at b3;injection b3 with b3;subst b3
   have b4:g1.h.get p=.cells 3 [[V 1,V 2,.nils]] 0 false false:=b4
   simp only[sz,simprocAttr,h14,b4,vc,vt]
   have hHb:=hH1.putb (k:=0) (by simp[K3]) (row:=[V 1,V 2,.nils]) (row':=[v1,V 2,.nils]) (by rw[ac _ _ (by simp)];exact hT.e0) (by rw[ac _ _ (by simp)];exact hT.v0) rfl
   refine ⟨by simp[St,LT1,sx,h17,h15,h57,h58,h59,h1,h2,h6,h8,h11,h14],⟨_,_,hHb,by rw[ac _ _ (by simp)];exact hT.v0,by rw[aD,aD,ac _ _ (by simp)],?_,by rw[ac _ _ (by simp),ac _ _ (by simp)];exact hT.e2⟩,fun i hi=>?_⟩
   ·rw[ac _ _ (by simp),aD,htk];simp
   ·simp[show ¬i=p by omega]
    rw[fb1 i (by omega),if_neg (by omega),hfr i hi]
  clear ht hT hfr
  rintro t df g1 ⟨rfl,ht,⟨V,E,hT⟩,hfr⟩
  refine cV (P:=fun t' df g''=>df=[]/\St t' ((17,.int .i64 v)::(15,.int .i64 (S.aa (S.ae (S.ac n) (vars.take j))))::(57,z)::(58,.int .i64 (vars.length:Int))::(59,.int .i64 (j:Int))::LT1 w z p)/\(∃V E,TbH (vars.take (j+1)) (S.ae (S.ac n) (vars.take (j+1))) p V E g'')/\∀i,i<5->g''.h.get i=g0.h.get i) ?_ ?_
  ·obtain ⟨h17,h15,h57,h58,h59,h1,h2,h6,h8,h11,h14,-⟩:=ht
   obtain ⟨kb,hp5,hpn⟩:=hT.box
   have hnx:=hT.hp.nx
   have kq:g1.h.get 3=.cells 4 [[.int .i64 n.grain,b,fl,S_]] 0 false false:=by rw[hfr 3 (by omega),k3]
   rw[hvn] at h17
   simp only[sz,simprocAttr,sf,h8,h14,h17,kb,kq,r1,hlt,q1,hryb]
   refine (hT.hp.step (g':=_) (by simp;omega) (fun i hi hi2=>?_)).app2 (k:=2) (by simp[K3]) hT.e2 (new:=[ci x.card]) (by simp[sx,sy,ci]) (by simp[a_,dX];omega) fun v1 g2 hH1 n1 fb1 fo1 lg1 vc vt=>?_
   ·simp[H.get_put];omega
   simp only[sx,sy] at n1 fb1 fo1 lg1
   obtain ⟨id,b1,b2,b3,b4⟩:=hH1.box (k:=0) (by simp[K3]) (by rw[ac _ _ (by simp)];exact hT.e0)
   rw[ac _ _ (by simp),hT.v0] at b3;injection b3 with b3;subst b3
   have b4:g2.h.get p=.cells 3 [[V 1,V 2,.nils]] 0 false false:=b4
   simp only[sz,simprocAttr,sf,h14,b4,vc,vt]
   have hHb:=(hH1.same (g':=aM (kw (aM (kw g2 []) []) []) []) (by simp) (by simp;omega)).putb (k:=0) (by simp[K3]) (row:=[V 1,V 2,.nils]) (row':=[V 1,v1,.nils]) (by rw[ac _ _ (by simp)];exact hT.e0) (by rw[ac _ _ (by simp)];exact hT.v0) rfl
   refine ⟨?_,by rw[<-hvn] at h17;simp[St,LT1,sx,h17,h15,h57,h58,h59,h1,h2,h6,h8,h11,h14],⟨_,_,hHb.same (by simp) (by simp),by rw[ac _ _ (by simp)];exact hT.v0,by rw[aD,aD,ac _ _ (by simp)],by rw[ac _ _ (by simp),ac _ _ (by simp)];exact hT.e1,?_⟩,fun i hi=>?_⟩
   ·simp only[List.reverse_cons,List.reverse_nil,List.nil_append,List.cons_append]
    refine aL [false,false,false,false,false,false,false,false,false,true,true,false,true] [(0,9),(1,9)] (by simp[All2,ae,aA]) (by decide) ?_
    rintro q hp' x y hx hy
    simp only[List.mem_cons,List.not_mem_nil,or_false] at hp'
    rcases hp' with rfl | rfl<;>(simp at hx hy;subst hx;subst hy;refine eH rfl rfl rfl rfl ?_ ?_ ?_<;>simp[ae,aA,ak]<;>omega)
   ·rw[ac _ _ (by simp),aD,hcx];simp
   ·simp[show ¬i=p by omega]
    rw[fb1 i (by omega),if_neg (by omega),hfr i hi]
  clear ht hT hfr
  rintro t df g2 ⟨rfl,⟨h17,h15,h57,h58,h59,h1,h2,h6,h8,h11,h14,-⟩,hT,hfr⟩
  have kq:g2.h.get 3=.cells 4 [[.int .i64 n.grain,b,fl,S_]] 0 false false:=by rw[hfr 3 (by omega),k3]
  rw[hvn] at h17
  simp only[sz,simprocAttr,h8,h15,h17,kq,r1,hlt,q1,hryb,w1]
  exact ⟨⟨by simp[St,LT1,sx,h1,h2,h6,h8,h11,h14],by simp[sx],by simp[sx,h57],hT,hfr⟩,h59,h58⟩
 ·rintro t df g ⟨rfl,h⟩
  exact fin t g h
def PC (h:H):Nat->Prop:=fun i=>5<=i/\∃sz rows ep lo fz,h.get i=.cells sz rows ep lo fz
theorem Own.pc {g:G}{v:AV}{l:List Int}(h:Own g 5 v 1 (l.map ci))(hl:l.length<9223372036854775808):SlR (PC g.h) 0 g.h l v:=by
 refine Own.sl (α:=Int) h hl (All2.of_map (fun a=>ay.2 rfl) _) fun i hi=>⟨(h.lt hi).1,?_⟩
 rcases h with ⟨rfl,-⟩ | ⟨id,ep,lo,-,-,rfl,h3⟩
 ·cases hi
 ·injection hi with hi;subst hi;exact ⟨_,_,_,_,_,h3⟩
def K4:Nat->Prop:=fun k=>k<=3
structure TbW (g0:G) (l cl W:List Int) (p r m:Nat) (V:Nat->AV) (E:Nat->En) (g:G):Prop where
 hp:Hp g 5 K4 V E
 v0:V 0=.hptr p 0 0 0
 e0:E 0=.bx [V 1,V 2,V 3]
 e1:E 1=.sl 1 (l.map ci)
 e2:E 2=.sl 1 (cl.map ci)
 e3:E 3=.sl 1 (W.map ci)
 nw:∀i,eid (V 3)=some i->g0.nx<=i
 fr:∀i,i<g0.nx->i≠p->g.h.get i=g0.h.get i
theorem TbW.box {g0:G}{l cl W:List Int}{p r m:Nat}{V:Nat->AV}{E:Nat->En}{g:G}(h:TbW g0 l cl W p r m V E g):g.h.get p=.cells 3 [[V 1,V 2,V 3]] 0 false false/\5<=p/\p<g.nx:=by
 obtain ⟨id,h1,h2,h3,h4⟩:=h.hp.box (k:=0) (by simp[K4]) h.e0
 rw[h.v0] at h3;injection h3 with h3;subst h3
 exact ⟨h4,h1,h2⟩
theorem LF {d:Nat}{l cl:List Int}{w z:AV}{p r m sz:Nat}{Q:QT}{t:T}{g0:G}{dl:List ADf}{V:Nat->AV}{E:Nat->En}{L:List (Int×Int)}{W:List Int}(hl:l.length<=1000)(hcl:cl.length<=1000)(hsz:sz<=65536)
  (ht:St t ((18,.hptr r 0 0 0)::(15,.int .i64 (sz:Int))::LT1 w z p)) (hT:TbH l cl p V E g0) (hr:g0.h.get r=.cells 1 [[.hmap m]] 0 false false) (hm:g0.h.get m=.map (mcl ik L)) (hrp:r≠p/\r<g0.nx) (hmp:m≠p/\m<g0.nx)
  (hW:W.length=sz) (hWg:∀i,i<sz->W[i]?.getD 0=mgt L (i:Int)) (h1:g0.h.get 1=.cells 3 [[.nils,.nils,.nils]] 0 false false)
  (fin:∀t g a1 a2 a3,tat t 6=.hptr 1 0 0 0->tat t 7=.int .i64 0->g.h.get 1=.cells 3 [[a1,a2,a3]] 0 false false->SlR (PC g.h) 0 g.h l a1->SlR (PC g.h) 0 g.h cl a2->SlR (PC g.h) 0 g.h W a3->(∀i,i<g0.nx->i≠1->i≠p->g.h.get i=g0.h.get i)->Q .ret t dl g) :
  wp C0 d none iG Q t dl g0:=by
 unfold iG
 obtain ⟨kb,hp5,hpn⟩:=hT.box
 have hnx:=hT.hp.nx
 refine bk (P:=fun t' df g'=>dl=df/\St t' ((18,.hptr r 0 0 0)::LT1 w z p)/\∃V E,TbW g0 l cl (List.replicate sz 0) p r m V E g') ?_ ?_
 ·obtain ⟨h18,h15,h1',h2,h6,h8,h11,h14,-⟩:=ht
  simp only[sx,SO.run,↓reduceIte,h15]
  refine jK (b:=5) (n:=sz) (by unfold a_;omega) (by unfold a_;omega) hnx fun U g1 hU n1 f1 vU=>?_
  have hH:=hT.hp.add (g':=g1) (k:=3) (L':=K4) (v':=U) (e':=.sl 1 ((List.replicate sz (0:Int)).map ci)) (by simp[K3]) (by rw[List.map_replicate];exact hU) (by omega) (fun i _ hi=>f1 i (by omega)) (fun i hi=>by rw[cY hU] at hi;have:=br vU hi;omega) (fun k hk=>by
   have hk:k<=3:=hk
   by_cases e:k=3
   ·exact .inr e
   ·exact .inl (by show k<=2;omega))
  have kb1:g1.h.get p=.cells 3 [[V 1,V 2,.nils]] 0 false false:=by rw[f1 p (by omega),kb]
  simp only[sx,sy,SO.run,↓reduceIte,Nat.reduceEqDiff,Nat.reduceAdd,Nat.reduceLeDiff,h14,kb1,hU.cell.1,hU.cell.2]
  have hHb:=hH.putb (k:=0) (by simp[K4]) (row:=[V 1,V 2,.nils]) (row':=[V 1,V 2,U]) (by rw[ac _ _ (by simp)];exact hT.e0) (by rw[ac _ _ (by simp)];exact hT.v0) rfl
  refine ⟨by simp[St,LT1,sx,h18,h1',h2,h6,h8,h11,h14],_,_,hHb,by rw[ac _ _ (by simp)];exact hT.v0,by rw[aD,aD,ac _ _ (by simp),ac _ _ (by simp)],by rw[ac _ _ (by simp),ac _ _ (by simp)];exact hT.e1,by rw[ac _ _ (by simp),ac _ _ (by simp)];exact hT.e2,by rw[ac _ _ (by simp),aD],fun i hi=>?_,fun i hi hip=>?_⟩
  ·rw[aD,cY hU] at hi
   have:=br vU hi;omega
  ·simp[H.get_put,hip];exact f1 i hi
 clear ht
 rintro t df g1 ⟨rfl,⟨h18,h1',h2,h6,h8,h11,h14,-⟩,V,E,hT⟩
 obtain ⟨FR,hFR⟩:∃FR,FR=iK:=⟨_,rfl⟩
 rw[<-hFR]
 refine cV (P:=fun t' df g'=>dl=df/\St t' ((18,.hptr r 0 0 0)::LT1 w z p)/\∃V E,TbW g0 l cl W p r m V E g') ?_ ?_
 ·obtain ⟨kb1,-,-⟩:=hT.box
  have o3:=hT.hp.own (k:=3) (by simp[K4]) hT.e3
  have l3:=gG o3.rows
  rw[List.length_map,List.length_replicate] at l3
  simp only[sx,sy,SO.run,↓reduceIte,h14,kb1,l3]
  simp only[mL]
  refine aJ (m:=sz) (by omega) (fun j t df g=>dl=df/\St t ((18,.hptr r 0 0 0)::LT1 w z p)/\∃V E,TbW g0 l cl (W.take j++List.replicate (sz - j) 0) p r m V E g) ⟨rfl,by simp[St,LT1,sx,h18,h1',h2,h6,h8,h11,h14],V,E,by simpa using hT⟩ (by simp[sx]) (by simp[sx]) (by decide)
   (by rintro j t df g v s (rfl | rfl | rfl) ⟨a1,⟨b0,b1,b2,b3,b4,b5,b6,-⟩,a3⟩<;>exact ⟨a1,by simp[St,LT1,sx,b0,b1,b2,b3,b4,b5,b6],a3⟩) ?_ ?_
  ·clear h18 h1' h2 h6 h8 h11 h14 hT kb1 o3 l3
   rintro j t df g hj ⟨rfl,⟨h18,h1',h2,h6,h8,h11,h14,-⟩,V,E,hT⟩ h112 h111
   obtain ⟨kb1,-,-⟩:=hT.box
   have o3:=hT.hp.own (k:=3) (by simp[K4]) hT.e3
   have kr:g.h.get r=.cells 1 [[.hmap m]] 0 false false:=by rw[hT.fr r hrp.2 hrp.1,hr]
   have km:g.h.get m=.map (mcl ik L):=by rw[hT.fr m hmp.2 hmp.1,hm]
   have hlen:(W.take j++List.replicate (sz - j) (0:Int)).length=sz:=by simp;omega
   have u1:j<((W.take j++List.replicate (sz - j) (0:Int)).map ci).length:=by rw[List.length_map,hlen];exact hj
   obtain ⟨y,hy⟩:∃y,(W.take j++List.replicate (sz - j) (0:Int))[j]?=some y:=⟨_,List.getElem?_eq_getElem (by omega)⟩
   have u2:((W.take j++List.replicate (sz - j) (0:Int)).map ci)[j]?=some (ci y):=by rw[List.getElem?_map,hy];rfl
   have hset:(W.take j++List.replicate (sz - j) (0:Int)).set j (mgt L (j:Int))=W.take (j+1)++List.replicate (sz - (j+1)) 0:=by
    have hWj:W[j]?=some (mgt L (j:Int)):=by
     have:=hWg j hj
     rw[List.getElem?_eq_getElem (by omega),Option.getD_some] at this
     rw[List.getElem?_eq_getElem (by omega),this]
    rw[List.set_append_right _ _ (by simp;omega)]
    have e1:j - (W.take j).length=0:=by simp;omega
    have e2:List.replicate (sz - j) (0:Int)=0::List.replicate (sz - (j+1)) 0:=by rw[<-List.replicate_succ];congr 1;omega
    rw[e1,e2,List.set_cons_zero,List.take_add_one,hWj]
    simp
   refine bk (P:=fun t' df g'=>dl=df/\g'=g/\St t' ((20,.int .i64 (j:Int))::(111,.int .i64 (sz:Int))::(112,.int .i64 (j:Int))::(18,.hptr r 0 0 0)::LT1 w z p)) ?_ ?_
   ·simp only[sx,sy,SO.run,↓reduceIte,h112]
    simp[St,LT1,sx,h18,h1',h2,h6,h8,h11,h14,h111,h112]
   clear h18 h1' h2 h6 h8 h11 h14 h111 h112
   rintro t df g' ⟨rfl,rfl,h20,h111,h112,h18,h1',h2,h6,h8,h11,h14,-⟩
   have lk:∀(t:T) (g:G),tat t 118=.hmap m->tat t 119=.int .i64 (j:Int)->g.h.get m=.map (mcl ik L)->(cm C0 (.lookup tII (.tmp 118) (.tmp 119) false)).run (I C0) d none t g=.val (.int .i64 (mgt L (j:Int))):=fun t g a b c=>EX a b c
   simp only[sx,sy,SO.run,↓reduceIte,Nat.reduceEqDiff,h14,h20,h18,kb1,kr,km,lk,o3.rows,u1,Option.isSome_some,Option.getD_some]
   refine hT.hp.put (k:=3) (i:=j) (off:=0) (n:=1) (row:=ci y) (row':=ci (mgt L (j:Int))) (by simp[K4]) hT.e3 u2 rfl rfl rfl fun g3 hH n3 f3 fo=>?_
   simp only[sx,sy,↓reduceIte,Nat.reduceEqDiff]
   rw[<-List.map_set,hset] at hH
   have hp5':=hT.nw
   refine ⟨⟨by simp[St,LT1,sx,h18,h1',h2,h6,h8,h11,h14],V,_,hH,hT.v0,by rw[ac _ _ (by simp)];exact hT.e0,by rw[ac _ _ (by simp)];exact hT.e1,by rw[ac _ _ (by simp)];exact hT.e2,aD _ _ _,hT.nw,fun i hi hip=>?_⟩,h112,h111⟩
   rw[fo i fun e=>by have:=hT.nw i e;omega]
   exact hT.fr i hi hip
  ·rintro t df g ⟨rfl,ht,V,E,hT⟩
   rw[List.take_of_length_le (by omega),Nat.sub_self,List.replicate_zero,List.append_nil] at hT
   simp only[oh,if_true]
   exact ⟨trivial,trivial,ht,V,E,hT⟩
 rintro t df g2 ⟨rfl,⟨h18,h1',h2,h6,h8,h11,h14,-⟩,V,E,hT⟩
 rw[hFR]
 obtain ⟨kb2,-,-⟩:=hT.box
 have g1e:g2.h.get 1=.cells 3 [[.nils,.nils,.nils]] 0 false false:=by rw[hT.fr 1 (by omega) (by omega),h1]
 simp only[iK,sx,sy,SO.run,↓reduceIte,Nat.reduceEqDiff,Nat.reduceAdd,Nat.reduceLeDiff,h14,h6,kb2,g1e]
 have far:∀{l:List Int} {k:Nat} (g':G),(∀i,i≠1->g'.h.get i=g2.h.get i)->k<=3->E k=.sl 1 (l.map ci)->l.length<=100000->SlR (PC g'.h) 0 g'.h l (V k):=fun {l k} g' hg hk he hl =>
  ((hT.hp.own (k:=k) hk he).pc (by omega)).wd fun i hi=>by
    obtain ⟨h5,h6⟩:=hi
    have e:=hg i (by omega)
    exact ⟨⟨h5,by rw[e];exact h6⟩,e⟩
 have hf:∀i,i≠1->(g2.put 1 (.cells 3 [[V 1,V 2,V 3]] 0 false false)).h.get i=g2.h.get i:=fun i hi=>by simp[H.get_put,hi]
 refine fin _ _ (V 1) (V 2) (V 3) (by simp[sx,h6]) (by simp[sx]) (by simp[H.get_put]) (far _ hf (by omega) hT.e1 (by omega)) (far _ hf (by omega) hT.e2 (by omega)) (far _ hf (by omega) hT.e3 (by omega)) fun i hi h1 h2=>?_
 simp[H.get_put,h1]
 exact hT.fr i hi h2
def S.pk (n:Net)(e vars:List Int)(i:Int)(w:Nat):Bool:=S.pe n e w&&decide (S.ah (S.ae (S.ac n) vars) (S.ae (S.ak (S.ac n) (w:Int)) vars)=i)
def S.aG (n:Net)(e vars:List Int)(j:Nat):List Int:=(List.range (S.aa (S.ae (S.ac n) vars)).toNat).map fun i:Nat=>S.ap n (S.pk n e vars (i:Int)) j
def S.ba (n:Net)(e vars:List Int):Int:=if S.aB n e=0 then (if S.ax vars n.nodes.length then 0 else 2) else S.aB n e
def S.bh (n:Net)(e vars:List Int):Factor:=if S.ba n e vars=0 then ⟨vars,S.ae (S.ac n) vars,S.aG n e vars (S.an n)⟩ else ⟨[],[],[]⟩
theorem AH (P:Nat->Prop)(h:H):Agg (⟨[],[],[]⟩:Factor) P 0 h (.agg [.nils,.nils,.nils]):=⟨_,rfl,aX.2 ⟨.nils,.nils,.nils,rfl,⟨by show 0<9223372036854775808;decide,rfl⟩,⟨by show 0<9223372036854775808;decide,rfl⟩,⟨by show 0<9223372036854775808;decide,rfl⟩⟩⟩
structure TbJ (g0:G) (n:Net) (e vars:List Int) (m j:Nat) (h:H):Prop where
 fr:∀i,i<g0.nx->i≠m->h.get i=g0.h.get i
 hm:∃L:List (Int×Int),h.get m=.map (mcl ik L)/\∀k,mgt L k=S.ap n (S.pk n e vars k) j
set_option maxRecDepth 20000 in
theorem yR {d ka kb:Nat}{Pa Pb:Nat->Prop}{g:G}{v w0 z0:AV}{n:Net}{e vars:List Int}(hd:0<d)(hm:Agg n NoP 0 g.h v)(he:SlR Pa ka g.h e w0)(hvs:SlR Pb kb g.h vars z0)(hka:ka<=d:=by omega)(hkb:kb<=d:=by omega) :
  ∃r,an C0 d N.aI [v,w0,z0] g=.val r/\nJ (Agg (S.bh n e vars)) (One (S.ba n e vars)) NoP 0 .nil r:=by
 obtain ⟨b,rows,rfl,e1,hm',hN,r1,r2,r3,r4⟩:=jk d hm
 obtain ⟨w,ew,hw⟩:=dR he d
 rw[Nat.max_eq_right hka] at hw
 have hw:=hw .nil
 obtain ⟨z,ez,hz⟩:=dR hvs d
 rw[Nat.max_eq_right hkb] at hz
 have hz:=hz .nil
 have hbd:tX [.nils,.nils,.nils] [] []=.val (.agg [.nils,.nils,.nils]):=rfl
 rw[tJ]
 refine ba xE (xs:=[.agg [.int .i64 n.grain,b],w,z]) (by simp only[aB,e1,ew,ez]) (by simp[lZ]) (bN (m:=2) (dy _) (aO _) (by decide) (by decide)) (by decide) hd ?_
 simp only[lZ,sx,sy,SO.run,↓reduceIte,Nat.reduceEqDiff,Nat.reduceAdd]
 obtain ⟨g0,hg0⟩:∃g0,g0=(G.empty.new (.cells 2 [[.int .i64 n.grain,b]] 0 false false)).new (.cells 3 [[.nils,.nils,.nils]] 0 false false):=⟨_,rfl⟩
 rw[<-hg0]
 have f0:g0.h.get 0=.cells 2 [[.int .i64 n.grain,b]] 0 false false:=by rw[hg0];simp[sx,H.get_put]
 have f1:g0.h.get 1=.cells 3 [[.nils,.nils,.nils]] 0 false false:=by rw[hg0];simp[sx]
 have f3:g0.nx=2:=by rw[hg0];simp[sx]
 clear hg0
 unfold oU
 simp only[sx,sy,SO.run,↓reduceIte,Nat.reduceEqDiff,Nat.reduceAdd,Nat.reduceLeDiff,f0,hw.cell.1,hw.cell.2]
 refine cI (IM (n:=n) (ls:=[e]) (Nat.succ_pos d) (hm' _) (MN hw (by simp[H.get_put]))) fun v hv=>?_
 obtain ⟨y,cs,rfl,hy,hc,a1,a2,a3,a4,rfl⟩:=wQ hv
 rw[uI] at hy ⊢
 by_cases h0:S.aB n e=0
 ·have hyo:=hy h0
  obtain ⟨h1,h2⟩:=p_.1 h0
  have hr:=dW.1 h1
  obtain ⟨el,ege⟩:=wF h2
  obtain ⟨W1,W2,W3⟩:=hr.wl
  have lz:=hz.len
  obtain ⟨b',b2,b3,ecs,hb',hb2,hb3⟩:=rm.1 hc
  injection ecs with ec1 ecs
  injection ecs with ec2 ecs
  rw[hyo.net] at ec1 hb'
  subst ec1 ec2
  have hN':SlR NoP 0 .nil n.nodes a2:=hb'.tree (Nat.le_refl _)
  simp only[sx,sy,SO.run,↓reduceIte,Nat.reduceEqDiff,Nat.reduceAdd,Nat.reduceLeDiff,f3,h0,decide_true,Bool.not_true,lz]
  refine CV (fun t g=>∃g1:G,g=g1/\g1.nx=5/\g1.h.get 1=.cells 3 [[.nils,.nils,.nils]] 0 false false/\g1.h.get 3=.cells 4 [[.int .i64 n.grain,a2,a3,a4]] 0 false false/\g1.h.get 4=.cells 1 [[.int .u64 0]] 0 false false/\St t ((10,.int .i64 (-1))::(32,z)::(33,.int .i64 (vars.length:Int))::(34,.int .i64 0)::LT0 w z)) ?_ ?_
  ·refine ⟨_,rfl,by simp[f3],by simp[H.get_put,f3,f1],by simp[H.get_put,f3],by simp[H.get_put,f3],by simp[St,LT0,sx]⟩
  rintro t g1 ⟨_,rfl,n1,k1,k3,k4,h10,h32,h33,h34,ht0⟩
  refine LZ (n:=n) (gr:=n.grain) (b:=a2) (fl:=a3) (S_:=a4) (g0:=g1) hr.l2 hN' hz (by omega) k3 k1 ⟨ht0,by rw[h10];rfl,h32,⟨fun j p hj=>by omega,fun j p q hj=>by omega⟩,Nat.le_refl _,fun _ _ _=>rfl,by rw[k4];rfl⟩ h33 h34 ?_ ?_
  ·intro t g hpl h6 h7 kg
   have hE:S.ba n e vars=2:=by rw[S.ba,if_pos h0,hpl];rfl
   have hj:S.bh n e vars=⟨[],[],[]⟩:=by rw[S.bh,hE,if_neg (by decide)]
   simp only[sx,sy,h6,h7,kg]
   rw[hE,hj]
   exact ⟨fun _=>True,_,_,rfl,AH _ _,ay.2 rfl⟩
  clear ht0 h10 h32 h33 h34
  rintro t g2 hpl ⟨⟨h1,h2',h3,h6,h7,h8,h11,-⟩,-,-,-,hnx2,hfr2,hk4⟩
  rw[List.take_length] at hk4
  have hE:S.ba n e vars=0:=by rw[S.ba,if_pos h0,hpl];rfl
  have hj:S.bh n e vars=⟨vars,S.ae (S.ac n) vars,S.aG n e vars (S.an n)⟩:=by rw[S.bh,hE,if_pos rfl]
  have hbits:=xx hpl (by have:=hr.l2;omega)
  have hvl:=b_ hpl (by omega)
  have hl8:=hr.l2
  have hin:=bh hpl
  have hcb:∀c∈S.ae (S.ac n) vars,1<=c/\c<=4:=aN hr.cs fun y hy=>by rw[aG];exact hin y hy
  have hp1:=bE hcb
  have hp2:=cz (a:=(S.ae (S.ac n) vars).length) (b:=8) (by rw[dX];omega)
  have hp3:(4:Int) ^ 8=65536:=by decide
  obtain ⟨sz,hsz⟩:=Int.eq_ofNat_of_zero_le (show 0<=S.aa (S.ae (S.ac n) vars) by omega)
  simp only[np,sx,sy,SO.run,↓reduceIte,Nat.reduceEqDiff,Nat.reduceAdd,Nat.reduceLeDiff,h2',lz]
  obtain ⟨p,hp⟩:∃p,p=g2.nx:=⟨_,rfl⟩
  refine CV (fun t g=>∃g3:G,g=g3/\TbB g2 (S.ac n) vars w z p 0 t g3/\tat t 58=.int .i64 (vars.length:Int)/\tat t 59=.int .i64 0) ?_ ?_
  ·have hH:Hp ((g2.new (.cells 3 [[.nils,.nils,.nils]] 0 false false)).put g2.nx (.cells 3 [[.nils,.nils,.nils]] 0 false false)) 5 K3 (fun k=>if k=0 then .hptr p 0 0 0 else .nils) (fun k=>if k=0 then .bx [.nils,.nils,.nils] else .sl 1 []):=by
    refine ⟨fun k hk=>?_,fun k l hk hl hne id h h'=>?_,by simp;omega⟩
    ·by_cases e:k=0
     ·simp only[if_pos e]
      exact ⟨p,by omega,by simp;omega,rfl,by rw[hp];simp[H.get_put]⟩
     ·simp only[if_neg e];exact .inl ⟨rfl,rfl⟩
    ·by_cases e:k=0
     ·by_cases e':l=0
      ·omega
      ·simp only[if_neg e'] at h';cases h'
     ·simp only[if_neg e] at h;cases h
   refine ⟨_,rfl,⟨by simp[St,LT1,sx,h1,h2',h6,h8,h11,hp],by simp[sx,S.ae,S.aa],by simp[sx],⟨_,_,hH,rfl,rfl,rfl,rfl⟩,fun i hi=>by simp[H.get_put,show ¬i=g2.nx by omega]⟩,by simp[sx],by simp[sx]⟩
  clear h1 h2' h3 h6 h7 h8 h11
  rintro t g3 ⟨_,rfl,hB,h58,h59⟩
  have k3':g2.h.get 3=.cells 4 [[.int .i64 n.grain,a2,a3,a4]] 0 false false:=by rw[hfr2 3 (by omega) (by omega),k3]
  have k1':g2.h.get 1=.cells 3 [[.nils,.nils,.nils]] 0 false false:=by rw[hfr2 1 (by omega) (by omega),k1]
  refine LH hr hN' hz hpl k3' hB h58 h59 ?_
  clear hB h58 h59
  rintro t g4 ⟨⟨h1,h2',h6,h8,h11,h14,-⟩,h15,-,⟨V,E,hT⟩,hfr4⟩
  rw[List.take_length] at h15 hT
  obtain ⟨kb,hp5,hpn⟩:=hT.box
  have q3:g4.h.get 3=.cells 4 [[.int .i64 n.grain,a2,a3,a4]] 0 false false:=by rw[hfr4 3 (by omega),k3']
  have q1:g4.h.get 1=.cells 3 [[.nils,.nils,.nils]] 0 false false:=by rw[hfr4 1 (by omega),k1']
  have q4:g4.h.get 4=.cells 1 [[.int .u64 (S.aq vars:Int)]] 0 false false:=by rw[hfr4 4 (by omega),hk4]
  have hrm:∀(d:Nat) (rd:Option Nat) (t:T) (g:G),(cm C0 (.makeMap tII none)).run (I C0) d rd t g=.upd (.hmap g.nx) (g.new (.map [])):=fun d rd t g=>HG d rd t g
  have hst:∀(g:G) (i m:Nat),nq (.cells 1 [[.nilm]] 0 false false) g i 0 0 1 0 (.hmap m)=.upd .undef (g.put i (.cells 1 [[.hmap m]] 0 false false)):=fun g i m=>rfl
  simp only[m7,sx,sy,SO.run,↓reduceIte,Nat.reduceEqDiff,Nat.reduceAdd,Nat.reduceLeDiff,h8,h1,hrm,hst,q3,show ¬3=g4.nx by omega,show ¬3=g4.nx+1 by omega]
  refine cI (Q:=fun r=>∃cs z t1 t2,r=.clo N.am [] [.tptr t1 4 [cs] 0 0,.tptr t2 1 [[z]] 0 0]/\Rp.rp NoP d .nil y cs/\SlR NoP d .nil e z) ?_ ?_
  ·obtain ⟨cs',z',t1,t2,ez,h1,h2⟩:=uy (d:=d+1) (y:=y) (e:=e) (v:=.agg [.int .i64 n.grain,a2,a3,a4]) (w:=w) (Nat.succ_pos d) ⟨_,rfl,Rp.tree hc (Nat.le_refl _)⟩ (hw.tree (Nat.le_refl _))
   exact ⟨_,ez,cs',z',t1,t2,rfl,h1,h2⟩
  rintro _ ⟨cs',z',t1,t2,rfl,hcs',hz'⟩
  simp only[sx]
  refine CV (fun t g=>∃g5:G,g=g5/\g5.nx=g4.nx+2/\g5.h.get g4.nx=.map []/\g5.h.get (g4.nx+1)=.cells 1 [[.hmap g4.nx]] 0 false false/\(∀i,i<g4.nx->g5.h.get i=g4.h.get i)/\St t ((94,.clo N.am [] [.tptr t1 4 [cs'] 0 0,.tptr t2 1 [[z']] 0 0])::(18,.hptr (g4.nx+1) 0 0 0)::(15,.int .i64 (sz:Int))::LT1 w z p)) ?_ ?_
  ·refine ⟨_,rfl,by simp,by simp[H.get_put],by simp[H.get_put],fun i hi=>by simp[H.get_put,show ¬i=g4.nx by omega,show ¬i=g4.nx+1 by omega],by simp[St,LT1,sx,h1,h2',h6,h8,h11,h14,h15,hsz]⟩
  clear h1 h2' h6 h8 h11 h14 h15
  rintro t g5 ⟨_,rfl,n5,m0,m1,f5,h94,ht⟩
  obtain ⟨h18,h15,h1,h2',h6,h8,h11,h14,-⟩:=ht
  refine yO (t1:=t1) (t2:=t2) (n:=n) (y:=y) (e:=e) (cs:=cs') (w:=z') (Nat.succ_pos d) hr hyo hcs' hz' (by omega) h94 (by decide)
   (fun j h=>TbJ g5 n e vars g4.nx j h) (fun _=>False) (fun j h h' hh hg=>⟨fun i h1 h2=>by rw[hh i h1,hg.fr i h1 h2],by obtain ⟨L,l1,l2⟩:=hg.hm;exact ⟨L,by rw[hh _ (by omega),l1],l2⟩⟩) (fun _ _ _ h=>h) ⟨fun _ _ _=>rfl,[],m0,fun k=>rfl⟩ ?_ ?_ ?_ (fun _ h=>h.elim)
  ·intro j h hj hmt hg
   have hp:∀k,S.pk n e vars k j=false:=fun k=>by rw[S.pk,S.pe,<-D8 ege,hmt];rfl
   obtain ⟨L,l1,l2⟩:=hg.hm
   exact ⟨hg.fr,L,l1,fun k=>by rw[S.ap,hp];simp[l2]⟩
  ·intro j u g6 hj hmt hg hn hu
   obtain ⟨L,l1,l2⟩:=hg.hm
   have hpe:S.pe n e j=true:=by rw[S.pe,<-D8 ege,hmt]
   have hinC:=gf (fun c hc=>(hr.cs c hc).1) (j:Int)
   simp only[na,sx,sy,SO.run,↓reduceIte,Nat.reduceEqDiff,Nat.reduceAdd,Nat.reduceLeDiff]
   refine ⟨Li _ _ _,?_⟩
   intro g7 n7 f7
   have j12:g7.h.get g6.nx=.cells 3 [[.int .i64 (j:Int),.int .i64 (S.wt n j),u]] 0 false false:=by rw[f7 _ (by omega),if_pos rfl];rfl
   have jo:∀i,i<g5.nx->g7.h.get i=g6.h.get i:=fun i hi=>by rw[f7 i (by omega),if_neg (by omega),if_neg (by omega)]
   have j18:g7.h.get (g4.nx+1)=.cells 1 [[.hmap g4.nx]] 0 false false:=by rw[jo _ (by omega),hg.fr _ (by omega) (by omega),m1]
   have jm:g7.h.get g4.nx=.map (mcl ik L):=by rw[jo _ (by omega),l1]
   have j3:g7.h.get 3=.cells 4 [[.int .i64 n.grain,a2,a3,a4]] 0 false false:=by rw[jo 3 (by omega),hg.fr 3 (by omega) (by omega),f5 3 (by omega),q3]
   have j4:g7.h.get 4=.cells 1 [[.int .u64 (S.aq vars:Int)]] 0 false false:=by rw[jo 4 (by omega),hg.fr 4 (by omega) (by omega),f5 4 (by omega),q4]
   have hu3:SlR (fun _=>True) 0 g7.h (S.ak (S.ac n) (j:Int)) u:=hu.wd fun i hi=>⟨trivial,by rw[f7 i (by omega),if_neg (by omega),if_neg (by omega)]⟩
   obtain ⟨K,hK⟩:∃K,K=S.ah (S.ae (S.ac n) vars) (S.ae (S.ak (S.ac n) (j:Int)) vars):=⟨_,rfl⟩
   have kn:∀g:G,g.h=g7.h->an C0 (d+1) N.aJ [.agg [.int .i64 n.grain,a2,a3,a4],u,.int .u64 (S.aq vars:Int)] g=.val (.int .i64 K):=fun g hgh=>by
    have:=F0 (d:=d+1) (g:=g) (v:=.agg [.int .i64 n.grain,a2,a3,a4]) (w:=u) (s:=S.aq vars) (Nat.succ_pos d) hr ⟨_,rfl,Rp.tree hc (Nat.le_refl _)⟩ hyo (hgh ▸ hu3) hinC (qN vars)
    rw[this,S.aH,hbits,hK]
   have hb:=Aw hr (p:=S.pk n e vars K) (j:=j+1) (by omega)
   have hpkK:S.pk n e vars K j=true:=by rw[S.pk,hpe,hK];simp
   have hs:S.ap n (S.pk n e vars K) (j+1)=mgt L K+S.wt n j:=by rw[S.ap,hpkK,l2];simp[S.wt]
   have w1:IntKind.wrap .i64 (mgt L K+S.wt n j)=mgt L K+S.wt n j:=by rw[<-hs,aC (by omega) (by omega)]
   have lk:∀(t:T) (g:G),tat t 96=.hmap g4.nx->tat t 101=.int .i64 K->g.h.get g4.nx=.map (mcl ik L)->(cm C0 (.lookup tII (.tmp 96) (.tmp 101) false)).run (I C0) (d+1) (some (g5.nx+1)) t g=.val (.int .i64 (mgt L K)):=fun t g a b c=>EX a b c
   have up:∀(t:T) (g:G),tat t 96=.hmap g4.nx->tat t 101=.int .i64 K->tat t 105=.int .i64 (mgt L K+S.wt n j)->g.h.get g4.nx=.map (mcl ik L)->(cm C0 (.mapUpdate tII (.tmp 96) (.tmp 101) (.tmp 105))).run (I C0) (d+1) (some (g5.nx+1)) t g=.upd .undef (g.put g4.nx (.map (mcl ik (mst K (mgt L K+S.wt n j) L)))):=fun t g a b c e=>L5 a b c e
   simp only[nf,sx,sy,sf,SO.run,↓reduceIte,Nat.reduceEqDiff,Nat.reduceAdd,Nat.reduceLeDiff,h18,h8,h11,j12,j18,j3,j4,kn,jm,lk,up,w1,GJ,Ga,kX]
   refine ⟨?_,by simp<;>omega,fun i h1 h2=>by simp[H.get_put,show ¬i=g4.nx by omega],.inl ⟨rfl,fun i h1 h2=>?_,mst K (mgt L K+S.wt n j) L,by simp[H.get_put],fun k=>?_⟩⟩
   ·simp only[List.reverse_cons,List.reverse_nil,List.nil_append,List.cons_append]
    exact Bq [(false,false),(false,false),(false,false),(false,false),(false,false),(false,false),(false,true),(false,false),(false,false),(false,false),(true,false)] [] (by simp[All2,ae,aA]) (by decide) (by decide) (by simp)
   ·simp[H.get_put,h2]
    rw[jo i h1,hg.fr i h1 h2]
   ·rw[Fh]
    by_cases hk:k=K
    ·subst hk
     rw[if_pos rfl,hs]
    ·rw[if_neg hk,l2,S.ap,if_neg,Int.add_zero]
     rw[S.pk,hpe,<-hK]
     simp[Ne.symm hk]
  ·intro g' hg hn hdf
   obtain ⟨L,l1,l2⟩:=hg.hm
   refine LF (p:=p) (r:=g4.nx+1) (m:=g4.nx) (sz:=sz) (l:=vars) (cl:=S.ae (S.ac n) vars) (w:=w) (z:=z) (V:=V) (E:=E) (L:=L) (W:=S.aG n e vars (S.an n)) (by omega) (by rw[dX];omega) (by omega) ⟨h18,h15,h1,h2',h6,h8,h11,h14,trivial⟩ ⟨hT.hp.step (by omega) fun i h5 hi=>by rw[hg.fr i (by omega) (by omega),f5 i hi],hT.v0,hT.e0,hT.e1,hT.e2⟩ (by rw[hg.fr _ (by omega) (by omega),m1]) l1 ⟨by omega,by omega⟩ ⟨by omega,by omega⟩ (by simp[S.aG,hsz]) (fun i hi=>?_) (by rw[hg.fr 1 (by omega) (by omega),f5 1 (by omega),q1]) ?_
   ·simp[S.aG,hsz,hi,l2]
   ·intro t g8 a1 a2 a3 h6 h7 k8 s1 s2 s3 fr8
    have hd8:g8.h.get g5.nx=.dfr true:=by rw[fr8 _ (by omega) (by omega) (by omega),hdf]
    rw[Ab]
    refine iL hd8 ?_
    simp only[sx,sy,↓reduceIte,h6,h7,k8,show ¬1=g5.nx by omega,Nat.reduceAdd,Nat.reduceLeDiff]
    rw[hE,hj]
    have far:∀{l:List Int} {v:AV},SlR (PC g8.h) 0 g8.h l v->SlR (fun _=>True) 0 (g8.put g5.nx (.dfr false)).h l v:=fun h=>h.wd fun i hi=>⟨trivial,by
     obtain ⟨-,a,b,c,e,f,hi⟩:=hi
     have:i≠g5.nx:=fun e'=>by rw[e',hd8] at hi;cases hi
     simp[H.get_put,this]⟩
    exact ⟨fun _=>True,_,_,rfl,⟨_,rfl,aX.2 ⟨a1,a2,a3,rfl,far s1,far s2,far s3⟩⟩,ay.2 rfl⟩
 ·have hE:S.ba n e vars=S.aB n e:=by rw[S.ba,if_neg h0]
  have hj:S.bh n e vars=⟨[],[],[]⟩:=by rw[S.bh,hE,if_neg h0]
  simp only[sx,sy,SO.run,↓reduceIte,Nat.reduceEqDiff,Nat.reduceAdd,Nat.reduceLeDiff,f3,h0,decide_false,Bool.not_false,f1]
  rw[hj,hE]
  exact ⟨fun _=>True,_,_,rfl,AH _ _,ay.2 rfl⟩
end
end Hx
end
section
namespace Hx
open Go
theorem Hb {n:Net}(hr:NR n):∀x∈S.am n,x<2 ^ (S.am n).length:=by
 intro x hx
 obtain ⟨y,hy,rfl⟩:=List.mem_map.1 hx
 have hl:=hr.l2
 have:(S.am n).length=n.nodes.length:=by simp[S.am]
 rw[this]
 exact BA (by omega) fun p hp=>by have:=bh (hr.places y hy) p hp;omega
theorem Mi {n:Net}(hr:NR n){v:Nat}{x:Node}(hx:n.nodes[v]?=some x)(w:Nat):(Par (S.am n) v).testBit w=true↔(w:Int)∈x.parents:=by
 have hl:=hr.l2
 have:Par (S.am n) v=S.aq x.parents:=by simp[Par,S.am,hx]
 rw[this]
 exact qH fun p hp=>by have:=bh (hr.places x (List.mem_of_getElem? hx)) p hp;omega
theorem KJ {n:Net}(hr:NR n){v:Nat}{x:Node}(hx:n.nodes[v]?=some x)(hnp:∀p∈x.parents,p.toNat≠v){vs:List Int}(hv:InC (S.ac n) vs) :
  S.sm (fun y=>S.aw n (vs.set v (y:Int)) v) x.card.toNat=n.grain:=by
 have hxm:=List.mem_of_getElem? hx
 have hi:=bV (aN hr.cs (hr.pin hxm)) (du hv (hr.pin hxm))
 rw[<-hr.rows x hxm] at hi
 obtain ⟨i,he⟩:=Int.eq_ofNat_of_zero_le hi.1
 have hil:i<x.rows.length:=by omega
 obtain ⟨r1,r2,r3⟩:=hr.row x hxm x.rows[i] (List.getElem_mem hil)
 have hlen:=hv.len
 rw[aG] at hlen
 have hvl:=(List.getElem?_eq_some_iff.1 hx).1
 rw[<-r3,<-LL,show x.card.toNat=(x.rows[i]).length by omega]
 refine cJ fun y hy=>?_
 simp only[S.aw,hx,wT (y:Int) hnp,he,Int.toNat_natCast,List.getElem?_eq_getElem hil,Option.getD_some]
 rw[List.getElem?_set_self (by omega)]
 rfl
theorem FX {n:Net}(hr:NR n):S.au (S.ac n) (S.aI n)=S.bm n:=by
 have hl:=hr.l2
 have hcl:=aG n
 have hpl:(S.am n).length=n.nodes.length:=by simp[S.am]
 have hprod:=aW fun c hc=>(hr.cs c hc).1
 have key:∀m T:Nat,2 ^ n.nodes.length - T<=m->T<2 ^ n.nodes.length->(∀u,u<n.nodes.length->T.testBit u=true->Sub (Par (S.am n) u) T) ->
   S.au (S.ac n) (fun vs=>S.pT T n.nodes.length (S.aw n vs))*S.pT T n.nodes.length (fun u=>(S.ac n)[u]?.getD 0)=S.pT T n.nodes.length (fun _=>n.grain)*S.aa (S.ac n) ->
   S.au (S.ac n) (S.aI n)=S.bm n:=by
  intro m
  induction m with
  | zero=>intro T h1 h2;omega
  | succ m ih =>
   intro T h1 h2 hg he
   by_cases hst:∀v,v<n.nodes.length->T.testBit v=false->¬Sub (Par (S.am n) v) T
   ·have hall:=sX (Hb hr) hr.acyc (T:=T) (fun v hv=>hst v (by omega))
    rw[hpl] at hall
    have e1:∀vs,S.pT T n.nodes.length (S.aw n vs)=S.aI n vs:=fun vs=>zU hall
    have e2:S.pT T n.nodes.length (fun u=>(S.ac n)[u]?.getD 0)=S.aa (S.ac n):=by
     rw[zU hall]
     congr 1
     refine List.ext_getElem (by simp[hcl]) fun i h1 h2=>?_
     simp[List.getElem?_eq_getElem h2]
    have e3:S.pT T n.nodes.length (fun _=>n.grain)=S.bm n:=by
     rw[zU hall,S.bm]
     congr 1
     refine List.ext_getElem (by simp) fun i h1 h2=>?_
     simp
    simp only[e1] at he
    rw[e2,e3] at he
    exact Int.eq_of_mul_eq_mul_right (by omega) he
   ·simp only[Classical.not_forall,Classical.not_not] at hst
    obtain ⟨v,hv,hb,hs⟩:=hst
    obtain ⟨x,hx,-,-⟩:=au hv
    have hnT:∀u,T.testBit u=true->u≠v:=fun u hu e=>by rw[e,hb] at hu;cases hu
    have hpos:∀(u:Nat) (y:Node),n.nodes[u]?=some y->Sub (Par (S.am n) u) T->∀p∈y.parents,p.toNat≠v:=fun u y hy hsu p hp=>by
     have h0:=bh (hr.places y (List.mem_of_getElem? hy)) p hp
     refine hnT _ (hsu _ ((Mi hr hy p.toNat).2 ?_))
     rw[Int.toNat_of_nonneg h0.1];exact hp
    have hv64:v<64:=by omega
    have t1:(T ||| S.aD v).testBit v=true:=by rw[lJ,pL hv64];simp
    have t2:∀u,u≠v->(T ||| S.aD v).testBit u=T.testBit u:=fun u hu=>by rw[lJ,pL hv64];simp[hu,Ne.symm hu]
    have hlt:T<T ||| S.aD v:=Nat.lt_of_le_of_ne Nat.left_le_or fun e=>by rw[<-e,hb] at t1;cases t1
    have hbl:S.aD v<2 ^ n.nodes.length:=by
     refine Nat.lt_pow_two_of_testBit _ fun i hi=>?_
     rw[pL hv64];simp;omega
    have hor:T ||| S.aD v<2 ^ n.nodes.length:=Nat.or_lt_two_pow h2 hbl
    have hc:(S.ac n)[v]?=some x.card:=by simp[S.ac,hx]
    have hcx:=hr.card x (List.mem_of_getElem? hx)
    refine ih (T ||| S.aD v) (by omega) hor (fun u hu hb' w hw=>?_) ?_
    ·rw[lJ,Bool.or_eq_true]
     by_cases e:u=v
     ·subst e;exact .inl (hs w hw)
     ·rw[t2 u e] at hb'
      exact .inl (hg u hu hb' w hw)
    ·have e1:S.au (S.ac n) (fun vs=>S.pT (T ||| S.aD v) n.nodes.length (S.aw n vs))=S.au (S.ac n) fun vs=>S.pT T n.nodes.length (S.aw n vs)*S.aw n vs v :=
      m_ fun vs _=>As hb t1 t2 hv
     have e2:=yw n.grain (cs:=S.ac n) (v:=v) (c:=x.card) (G:=fun vs=>S.pT T n.nodes.length (S.aw n vs)) (f:=fun vs=>S.aw n vs v) hc (by omega)
      (fun vs y _=>Bj fun u hu hb'=>Ke y (hnT u hb') fun z hz p hp=>hpos u z hz (hg u hu hb') p hp)
      (fun vs hvs=>KJ hr hx (hpos v x hx hs) hvs)
     rw[e1,As hb t1 t2 hv,As hb t1 t2 hv,hc,Option.getD_some]
     generalize S.au (S.ac n) (fun vs=>S.pT T n.nodes.length (S.aw n vs)*S.aw n vs v)=A at *
     generalize S.au (S.ac n) (fun vs=>S.pT T n.nodes.length (S.aw n vs))=B at *
     generalize S.pT T n.nodes.length (fun u=>(S.ac n)[u]?.getD 0)=C at *
     generalize S.pT T n.nodes.length (fun _=>n.grain)=D at *
     have h1:A*(C*x.card)=C*(x.card*A):=by ac_rfl
     rw[h1,e2]
     have h2:C*(n.grain*B)=n.grain*(B*C):=by ac_rfl
     rw[h2,he]
     ac_rfl
 refine key (2 ^ n.nodes.length) 0 (Nat.sub_le _ _) (Nat.two_pow_pos _) (fun u _ h=>by simp at h) ?_
 simp only[DZ]
 rw[Fn fun c hc=>(hr.cs c hc).1]
 omega
theorem EA (n:Net)(p:Nat->Bool):∀k,S.ap n p k=S.sm (fun j=>if p j then S.aI n (S.ak (S.ac n) (j:Int)) else 0) k
 | 0=>rfl
 | k+1=>by rw[S.ap,S.sm,EA n p k]
theorem HY {n:Net}(hr:NR n):S.ap n (fun _=>true) (S.an n)=S.bm n:=by
 rw[EA,<-FX hr]
 have:=xH (cs:=S.ac n) (pre:=[]) (pv:=[]) (S.aI n) (fun c hc=>(hr.cs c (by simpa using hc)).1) trivial
 simp only[List.nil_append,S.ah,Int.zero_mul,Int.zero_add] at this
 rw[<-this]
 rfl
theorem Fs {n:Net}(hr:NR n){p q:Nat->Bool}(h:∀i,p i=true->q i=true):∀k,S.ap n p k<=S.ap n q k
 | 0=>Int.le_refl _
 | k+1=>by
  have ih:=Fs hr h k
  have hw:=rf hr (gf (fun c hc=>(hr.cs c hc).1) (k:Int))
  rw[S.ap,S.ap]
  cases hp:p k with
  | true=>rw[h k hp];simp only[if_true];omega
  | false =>
   cases q k<;>simp only[if_true,Bool.false_eq_true,if_false]<;>omega
theorem Jl {n:Net}(hr:NR n)(e:List Int):S.aY n e<=S.bm n:=by
 rw[<-HY hr]
 exact Fs hr (fun _ _=>rfl) _
theorem G8 {k:Nat}(h:k<=5):(60:Int) ^ k<=777600000:=by
 have hk:k=0\/k=1\/k=2\/k=3\/k=4\/k=5:=by omega
 rcases hk with rfl | rfl | rfl | rfl | rfl | rfl<;>decide
theorem GG {n:Net}(hr:NR n)(hl:n.nodes.length<=5):S.bm n<=777600000:=by
 have h1:=hr.g1
 have h2:=ol (l:=List.replicate n.nodes.length n.grain) fun x hx=>by
  obtain ⟨-,rfl⟩:=List.mem_replicate.1 hx
  exact ⟨by omega,hr.g2⟩
 rw[List.length_replicate] at h2
 have:=G8 hl
 unfold S.bm
 omega
end Hx
end
section
namespace Hx
open Go
noncomputable section
def S.bI (n:Net)(s:Nat)(w:Nat):Int:=S.aH n (S.ak (S.ac n) (w:Int)) s n.nodes.length
def S.bO (n:Net)(s:Nat)(K:Int)(j:Nat):Int:=S.ap n (fun u=>decide (S.bI n s u=K)) j
def S.bY (x:Nat):Nat:=x % 18446744073709551616
section
variable {α:Type} [DecidableEq α]
end
def pk (a:Int×Int):AV:=.agg [.int .i64 a.1,.int .i64 a.2]
def S.pq (n:Net)(e:List Int)(v:Nat)(x:Int)(w:Nat):Bool:=S.pe n e w&&decide ((S.ak (S.ac n) (w:Int))[v]?=some x)
end
end Hx
end
section
namespace Hx
open Go
noncomputable section
structure RtH (l W:List Int) (C:AV) (V:Nat->AV) (E:Nat->En) (g:G):Prop where
 hp:Hp g 2 K4 V E
 v0:V 0=.hptr 2 0 0 0
 e0:E 0=.bx [V 1,C,V 3]
 e1:E 1=.sl 1 (l.map ci)
 e3:E 3=.sl 1 (W.map ci)
structure PoM (n:Net) (e vals:List Int) (j k m:Nat) (h:H):Prop where
 hm:∃L:List ((Int×Int)×Int),h.get m=.map (mcl pk L)/\∀(v:Nat) (x:Int),mgt L ((v:Int),x)=S.ap n (S.pq n e v x) j+if v<k/\vals[v]?=some x then S.wt n j else 0
structure PoK (g0:G) (m:Nat) (g:G):Prop where
 nx:g0.nx<=g.nx
 fr:∀i,i≠m->i<g0.nx->g.h.get i=g0.h.get i
set_option maxRecDepth 20000 in
structure PoH (n:Net) (e:List Int) (cs:List AV) (p pm pq m lo:Nat) (g:G):Prop where
 kp:g.h.get p=.cells 4 [cs] 0 false false
 km:g.h.get pm=.cells 1 [[.hmap m]] 0 false false
 kq:g.h.get pq=.cells 1 [[.int .i64 (S.aY n e)]] 0 false false
 hm:∃L:List ((Int×Int)×Int),g.h.get m=.map (mcl pk L)/\∀(v:Nat) (x:Int),mgt L ((v:Int),x)=S.ap n (S.pq n e v x) (S.an n)
 lo:lo<=p/\lo<=pm/\lo<=pq/\lo<=m
 hi:p<g.nx/\pm<g.nx/\pq<g.nx/\m<g.nx
structure PoJ (g1:G) (n:Net) (e:List Int) (m pq j:Nat) (h:H):Prop where
 fr:∀i,i<g1.nx->i≠m->i≠pq->h.get i=g1.h.get i
 kq:h.get pq=.cells 1 [[.int .i64 (S.ap n (S.pe n e) j)]] 0 false false
 hm:PoM n e [] j 0 m h
set_option maxRecDepth 20000 in
end
end Hx
end
section
namespace Hx
open Go
theorem Fl (a:Int)(y:Nat):∀c:Nat,S.sm (fun x=>if x=y then a else 0) c=if y<c then a else 0
 | 0=>by simp[S.sm]
 | c+1=>by
  rw[S.sm,Fl a y c]
  by_cases h:c=y
  ·subst h;simp
  ·rw[if_neg h]
   by_cases h2:y<c
   ·rw[if_pos h2,if_pos (by omega)];omega
   ·rw[if_neg h2,if_neg (by omega)];omega
def S.bU (k v:Nat)(x:Int):List Int:=(List.replicate k (-1)).set v x
end Hx
end
section
namespace Hx
open Go
theorem sE {l:List Int}{k:Int}(h:S.ax l k=true)(i:Nat):S.ax (l.eraseIdx i) k=true :=
 qC ((tP h).sublist (List.eraseIdx_sublist ..)) fun y hy=>bh h y (List.mem_of_mem_eraseIdx hy)
theorem Gz {l:List Int}{k m:Int}(h:S.ax l k=true)(hm:k<=m):S.ax l m=true :=
 qC (tP h) fun y hy=>by have:=bh h y hy;omega
theorem Ax (s:Nat):∀j,(S.aA s j).Pairwise (·<·)
 | 0=>List.Pairwise.nil
 | j+1=>by
  rw[dS]
  cases hb:s.testBit j with
  | false=>simpa using Ax s j
  | true =>
   rw[if_pos rfl,List.pairwise_append]
   refine ⟨Ax s j,List.pairwise_singleton ..,fun a ha b hb=>?_⟩
   rw[List.mem_singleton] at hb
   have:=xB a ha
   omega
theorem B4 (s j:Nat):S.ax (S.aA s j) j=true:=qC (Ax s j) fun y hy=>xB y hy
theorem ym {cs:List Int}(hc:∀c∈cs,1<=c)(s:Nat):∀j,j<=cs.length->1<=S.aa (S.ae cs (S.aA s j))/\S.aa (S.ae cs (S.aA s j))<=S.aa (cs.take j)
 | 0,_=>by
  have h:S.ae cs (S.aA s 0)=[]:=rfl
  rw[h,List.take_zero];decide
 | j+1,hj=>by
  obtain ⟨h1,h2⟩:=ym hc s j (by omega)
  obtain ⟨c,hcj⟩:∃c,cs[j]?=some c:=⟨_,List.getElem?_eq_getElem (by omega)⟩
  have hc1:=hc c (List.mem_of_getElem? hcj)
  have ht:cs.take (j+1)=cs.take j++[c]:=by rw[List.take_add_one,hcj];rfl
  rw[dS,bF,fN,ht,gz]
  cases s.testBit j with
  | false =>
   have e:S.aa (S.ae cs (if false=true then [(j:Int)] else []))=1:=rfl
   rw[e,Int.mul_one]
   have:=Int.mul_le_mul_of_nonneg_left hc1 (show 0<=S.aa (cs.take j) by omega)
   omega
  | true =>
   have e:S.aa (S.ae cs (if true=true then [(j:Int)] else []))=c:=by simp[S.ae,hcj,S.aa]
   rw[e]
   have h3:=Int.mul_le_mul_of_nonneg_right h2 (show 0<=c by omega)
   have h4:=Int.mul_le_mul_of_nonneg_right h1 (show 0<=c by omega)
   omega
theorem DS {n:Net}(hr:NR n){vars:List Int}(hv:S.ax vars n.nodes.length=true):CdOk (S.ae (S.ac n) vars):=by
 have hl:=hr.l2
 have hvl:=b_ hv (by omega)
 have hcl:=aG n
 have hin:∀p∈vars,0<=p/\p<(S.ac n).length:=fun p hp=>by rw[hcl];exact bh hv p hp
 refine ⟨aN hr.cs hin,by rw[S.ae,List.length_map];omega,?_⟩
 have hb:=xx hv (by omega)
 have:=ym (fun c hc=>(hr.cs c hc).1) (S.aq vars) n.nodes.length (by omega)
 rw[hb,List.take_of_length_le (by omega)] at this
 have:=hr.worlds
 omega
def S.bc (n:Net)(vars:List Int)(w:Nat):Int:=S.ah (S.ae (S.ac n) vars) (S.ae (S.ak (S.ac n) (w:Int)) vars)
theorem yu {n:Net}(hr:NR n){vars:List Int}(hv:S.ax vars n.nodes.length=true)(w:Nat):0<=S.bc n vars w/\S.bc n vars w<S.aa (S.ae (S.ac n) vars):=by
 have hin:∀p∈vars,0<=p/\p<(S.ac n).length:=fun p hp=>by rw[aG];exact bh hv p hp
 exact bV (aN hr.cs hin) (du (gf (fun c hc=>(hr.cs c hc).1) (w:Int)) hin)
theorem B0 {n:Net}{e vars:List Int}{j i:Nat}(hi:i<(S.aa (S.ae (S.ac n) vars)).toNat):(S.aG n e vars j)[i]?=some (S.ap n (S.pk n e vars (i:Int)) j):=by
 simp[S.aG,hi]
theorem uq (n:Net)(e vars:List Int)(j:Nat):(S.aG n e vars j).length=(S.aa (S.ae (S.ac n) vars)).toNat:=by simp[S.aG]
def S.tb (n:Net)(e vars:List Int):Factor:=⟨vars,S.ae (S.ac n) vars,S.aG n e vars (S.an n)⟩
theorem zS {n:Net}(hr:NR n)(e:List Int){vars:List Int}(hv:S.ax vars n.nodes.length=true):FcOk (S.tb n e vars):=by
 have hc:=DS hr hv
 have hp:=aW fun c h=>(hc.c c h).1
 refine ⟨hc,by simp[S.tb,S.ae],Gz hv (by have:=hr.l2;omega),?_,fun x hx=>?_⟩
 ·show ((S.aG n e vars (S.an n)).length:Int)=_
  rw[uq]
  show _=S.aa (S.ae (S.ac n) vars)
  omega
 ·obtain ⟨i,hi,rfl⟩:=List.mem_map.1 (show x∈S.aG n e vars (S.an n) from hx)
  exact Aw hr hr.wl.2.1
theorem HE {n:Net}(hr:NR n)(e:List Int){vars:List Int}(hv:S.ax vars n.nodes.length=true)(F:Nat->Bool):∀j,S.sm (fun i=>if F i then S.ap n (S.pk n e vars (i:Int)) j else 0) (S.aa (S.ae (S.ac n) vars)).toNat=S.ap n (fun w=>S.pe n e w&&F (S.bc n vars w).toNat) j
 | 0=>by
  rw[cJ (G:=fun _=>0) fun i _=>by rw[S.ap];split<;>rfl,pR]
  simp[S.ap]
 | j+1=>by
  have ih:=HE hr e hv F j
  obtain ⟨v0,v1⟩:=yu hr hv j
  obtain ⟨y,hy⟩:=Int.eq_ofNat_of_zero_le v0
  rw[S.ap,<-ih]
  have e1:∀i:Nat,(if F i then S.ap n (S.pk n e vars (i:Int)) (j+1) else 0)=(if F i then S.ap n (S.pk n e vars (i:Int)) j else 0)+if i=y then (if S.pe n e j&&F y then S.aI n (S.ak (S.ac n) (j:Int)) else 0) else 0:=fun i=>by
   have hpk:S.pk n e vars (i:Int) j=(S.pe n e j&&decide (i=y)):=by
    rw[S.pk]
    congr 1
    have:S.ah (S.ae (S.ac n) vars) (S.ae (S.ak (S.ac n) (j:Int)) vars)=(y:Int):=hy
    rw[this]
    by_cases h:i=y
    ·subst h;simp
    ·have:¬((y:Int)=(i:Int)):=by omega
     simp[h,this]
   rw[S.ap,hpk]
   by_cases h:i=y
   ·subst h
    cases F i<;>cases S.pe n e j<;>simp
   ·cases F i<;>simp[h]
  rw[cJ (fun i _=>e1 i),CT,Fl,if_pos (by omega)]
  have:F (S.bc n vars j).toNat=F y:=by rw[hy];rfl
  rw[this]
theorem Fd {n:Net}(hr:NR n)(e:List Int){vars:List Int}(hv:S.ax vars n.nodes.length=true)(F:Nat->Bool):S.sm (fun i=>if F i then (S.tb n e vars).w[i]?.getD 0 else 0) (S.tb n e vars).w.length=S.ap n (fun w=>S.pe n e w&&F (S.bc n vars w).toNat) (S.an n):=by
 have hl:(S.tb n e vars).w.length=(S.aa (S.ae (S.ac n) vars)).toNat:=uq n e vars _
 rw[hl,<-HE hr e hv F]
 refine cJ fun i hi=>?_
 have:(S.tb n e vars).w[i]?=some (S.ap n (S.pk n e vars (i:Int)) (S.an n)):=B0 hi
 rw[this];rfl
theorem uh {n:Net}(hr:NR n)(e:List Int){vars:List Int}(hv:S.ax vars n.nodes.length=true):S.sm (fun i=>(S.tb n e vars).w[i]?.getD 0) (S.tb n e vars).w.length=S.aY n e:=by
 have:=Fd hr e hv (fun _=>true)
 simp only[if_true,Bool.and_true] at this
 rw[this,Bi]
theorem FC {α β:Type}(f:α->β)(l:List α)(k:Nat):(l.map f).eraseIdx k=(l.eraseIdx k).map f:=by
 refine List.ext_getElem? fun i=>?_
 simp only[List.getElem?_eraseIdx,List.getElem?_map]
 split<;>rfl
theorem HV (cs vars:List Int)(k:Nat):(S.ae cs vars).eraseIdx k=S.ae cs (vars.eraseIdx k):=FC _ _ _
theorem BJ (cs vars:List Int)(k:Nat):S.af (S.ae cs vars) (S.aF vars.length k)=S.ae cs (vars.eraseIdx k):=by
 have:=CJ (l:=S.ae cs vars) (k:=k)
 rw[show (S.ae cs vars).length=vars.length by simp[S.ae]] at this
 rw[this,HV]
theorem LI {n:Net}(hr:NR n)(e:List Int){vars:List Int}(hv:S.ax vars n.nodes.length=true)(k:Nat):PsOk (S.tb n e vars) (S.aF vars.length k):=by
 refine ⟨fun p hp=>?_,?_,?_⟩
 ·have:=List.mem_of_mem_eraseIdx hp
  exact List.mem_range.1 this
 ·exact List.nodup_range.sublist (List.eraseIdx_sublist ..)
 ·show CdOk (S.af (S.ae (S.ac n) vars) (S.aF vars.length k))
  rw[BJ]
  exact DS hr (sE hv k)
theorem J7 {n:Net}(hr:NR n)(e:List Int){vars:List Int}(hv:S.ax vars n.nodes.length=true)(k w:Nat):S.bu (S.tb n e vars) (S.aF vars.length k) (S.bc n vars w).toNat=S.bc n (vars.eraseIdx k) w:=by
 obtain ⟨v0,v1⟩:=yu hr hv w
 have hin:∀p∈vars,0<=p/\p<(S.ac n).length:=fun p hp=>by rw[aG];exact bh hv p hp
 have hval:S.ak (S.ae (S.ac n) vars) (S.bc n vars w)=S.ae (S.ak (S.ac n) (w:Int)) vars :=
  nY (fun c hc=>(aN hr.cs hin c hc).1) (du (gf (fun c hc=>(hr.cs c hc).1) (w:Int)) hin)
 show S.ah (S.af (S.ae (S.ac n) vars) (S.aF vars.length k)) (S.af (S.ak (S.ae (S.ac n) vars) (((S.bc n vars w).toNat:Nat):Int)) (S.aF vars.length k))=_
 rw[Int.toNat_of_nonneg v0,hval,BJ,BJ]
 rfl
theorem Ml {n:Net}(hr:NR n)(e:List Int){vars:List Int}(hv:S.ax vars n.nodes.length=true)(k:Nat):S.gl (S.tb n e vars) (S.aF vars.length k) (S.tb n e vars).w.length=S.aG n e (vars.eraseIdx k) (S.an n):=by
 have hc:S.af (S.tb n e vars).cards (S.aF vars.length k)=S.ae (S.ac n) (vars.eraseIdx k):=BJ _ _ _
 rw[S.gl,hc,S.aG]
 refine List.map_congr_left fun q _=>?_
 rw[S.aL]
 have:=Fd hr e hv fun i=>decide (S.bu (S.tb n e vars) (S.aF vars.length k) i=(q:Int))
 simp only[decide_eq_true_eq] at this
 rw[this]
 refine wL fun w _=>?_
 rw[J7 hr e hv]
 rfl
theorem yj {s:Nat}:∀{j:Nat},(S.aA s j).length=j->∀v,v<j->s.testBit v=true
 | 0,_,v,h=>absurd h (Nat.not_lt_zero v)
 | j+1,h,v,hv=>by
  rw[dS,List.length_append] at h
  have hl:=qw s j
  cases hb:s.testBit j with
  | false=>rw[hb] at h;simp at h;omega
  | true =>
   rw[hb] at h
   simp at h
   by_cases e:v=j
   ·rw[e,hb]
   ·exact yj h v (by omega)
theorem Bt {s:Nat}:∀{j:Nat},(∀v,v<j->s.testBit v=true)->S.aA s j=(List.range j).map fun v:Nat=>(v:Int)
 | 0,_=>rfl
 | j+1,h=>by
  rw[dS,Bt fun v hv=>h v (by omega),h j (by omega),List.range_succ,List.map_append]
  rfl
theorem zH (l:List Int):S.ae l ((List.range l.length).map fun v:Nat=>(v:Int))=l:=by
 refine List.ext_getElem (by simp[S.ae]) fun i h1 h2=>?_
 simp[S.ae,List.getElem?_eq_getElem h2]
theorem Ay:∀{cs:List Int},(∀c∈cs,1<=c)->∀w:Nat,S.ah cs (S.ak cs (w:Int))=((w % (S.aa cs).toNat:Nat):Int)
 | [],_,w=>by
  show (0:Int)=((w % 1:Nat):Int)
  rw[Nat.mod_one];rfl
 | c::cs,hc,w=>by
  have hc1:=hc c (by simp)
  have hcs:∀x∈cs,1<=x:=fun x hx=>hc x (by simp[hx])
  have hP:=aW hcs
  obtain ⟨P,hPe⟩:=Int.eq_ofNat_of_zero_le (show 0<=S.aa cs by omega)
  obtain ⟨C,hCe⟩:=Int.eq_ofNat_of_zero_le (show 0<=c by omega)
  have e1:S.ak (c::cs) (w:Int)=(S.bk cs (w:Int) % c)::S.ak cs (w:Int):=by
   rw[S.ak,S.ak,List.length_cons,List.range_succ_eq_map,List.map_cons,List.map_map]
   rfl
  have e2:(S.aa (c::cs)).toNat=P*C:=by rw[bG,hPe,hCe,<-Int.natCast_mul,Int.toNat_natCast,Nat.mul_comm]
  have e3:(S.aa cs).toNat=P:=by rw[hPe,Int.toNat_natCast]
  rw[e1,S.ah,Ay hcs w,zg fun x hx=>by have:=hcs x hx;omega,e2,e3,hPe,hCe,Nat.mod_mul]
  have e4:(w:Int) / (P:Int) % (C:Int)=((w / P % C:Nat):Int):=by rw[<-Int.natCast_ediv,<-Int.natCast_emod]
  rw[e4,<-Int.natCast_mul,<-Int.natCast_add]
  congr 1
  rw[Nat.mul_comm,Nat.add_comm]
theorem JO {n:Net}(hr:NR n){w:Nat}(hw:w<S.an n):S.bc n ((List.range n.nodes.length).map fun v:Nat=>(v:Int)) w=(w:Int):=by
 have hc1:=fun c hc=>(hr.cs c hc).1
 have hv:=gi (S.ac n) (w:Int)
 rw[aG] at hv
 have e1:S.ae (S.ac n) ((List.range n.nodes.length).map fun v:Nat=>(v:Int))=S.ac n:=by
  rw[<-aG n];exact zH _
 have e2:S.ae (S.ak (S.ac n) (w:Int)) ((List.range n.nodes.length).map fun v:Nat=>(v:Int))=S.ak (S.ac n) (w:Int):=by
  have:=zH (S.ak (S.ac n) (w:Int))
  rw[hv] at this
  exact this
 rw[S.bc,e1,e2,Ay hc1]
 congr 1
 exact Nat.mod_eq_of_lt hw
theorem KP {n:Net}(hr:NR n)(e:List Int){w:Nat}(hw:w<S.an n):(S.aG n e ((List.range n.nodes.length).map fun v:Nat=>(v:Int)) (S.an n))[w]?=some (if S.pe n e w then S.wt n w else 0):=by
 have e1:S.ae (S.ac n) ((List.range n.nodes.length).map fun v:Nat=>(v:Int))=S.ac n:=by
  rw[<-aG n];exact zH _
 rw[B0 (by rw[e1];exact hw)]
 congr 1
 have key:∀j,j<=S.an n->S.ap n (S.pk n e ((List.range n.nodes.length).map fun v:Nat=>(v:Int)) (w:Int)) j=if w<j then (if S.pe n e w then S.wt n w else 0) else 0:=by
  intro j
  induction j with
  | zero=>intro _;simp[S.ap]
  | succ j ih =>
   intro hj
   have hpk:S.pk n e ((List.range n.nodes.length).map fun v:Nat=>(v:Int)) (w:Int) j=(S.pe n e j&&decide (j=w)):=by
    rw[S.pk]
    congr 1
    have:S.ah (S.ae (S.ac n) ((List.range n.nodes.length).map fun v:Nat=>(v:Int))) (S.ae (S.ak (S.ac n) (j:Int)) ((List.range n.nodes.length).map fun v:Nat=>(v:Int)))=(j:Int):=JO hr (w:=j) (by omega)
    rw[this]
    by_cases h:j=w
    ·subst h;simp
    ·have:¬((j:Int)=(w:Int)):=by omega
     simp[h,this]
   rw[S.ap,ih (by omega),hpk]
   by_cases h:j=w
   ·subst h
    have c2:j<j+1:=by omega
    have c1:¬j<j:=by omega
    simp only[if_neg c1,if_pos c2]
    cases S.pe n e j<;>simp[S.wt]
   ·by_cases h2:w<j
    ·have c2:w<j+1:=by omega
     simp[h,h2,c2]
    ·have c2:¬w<j+1:=by omega
     simp[h,h2,c2]
 rw[key _ (Nat.le_refl _),if_pos hw]
end Hx
end
section
namespace Hx
open Go
noncomputable section
def IpV (q:Int):VS:=fun P k h p=>(∃id,p=.hptr id 0 0 0/\P id/\h.get id=.cells 1 [[.int .i64 q]] 0 false false)\/∃t,p=.tptr t 1 [[.int .i64 q]] 0 0/\t<=k
def IiV (q:Int):VS:=fun P k h v=>∃p,v=.clo N.an [] [p]/\IpV q P k h p
theorem JY {h:H}{id:Nat}{q:Int}(d j:Nat)(hg:h.get id=.cells 1 [[.int .i64 q]] 0 false false):Hx.snap h d (j+3) (.hptr id 0 0 0)=some (.tptr (Nat.max d 0) 1 [[.int .i64 q]] 0 0):=by
 simp only[Hx.snap,hg,show Nat.beq 0 0=true from rfl,aB]
 rfl
theorem Kr {q:Int}{P:Nat->Prop}{k:Nat}{h:H}{p:AV}(d j:Nat)(r:IpV q P k h p):∃p',Hx.snap h d (j+3) p=some p'/\IpV q NoP (max k d) .nil p':=by
 rcases r with ⟨id,rfl,-,hg⟩ | ⟨t,rfl,ht⟩
 ·exact ⟨_,JY d j hg,.inr ⟨_,rfl,by show max d 0<=_;omega⟩⟩
 ·exact ⟨_,rfl,.inr ⟨t,rfl,by omega⟩⟩
theorem L_ (q:Int):Snb (IiV q) 4:=by
 refine ⟨fun {P k h v j} d r hn=>?_,fun {k h v j} r hn=>?_⟩
 ·obtain ⟨p,rfl,r1⟩:=r
  obtain ⟨j,rfl⟩:∃i,j=i+4:=⟨j - 4,by omega⟩
  obtain ⟨p',e1,s1⟩:=Kr d j r1
  refine ⟨.clo N.an [] [p'],?_,p',rfl,s1⟩
  show (match aB (Hx.snap h d (j+3)) [],aB (Hx.snap h d (j+3)) [p] with | some as',some cs=>some (AV.clo N.an as' cs) | _,_=>none)=_
  simp only[aB,e1]
 ·obtain ⟨p,rfl,r1⟩:=r
  obtain ⟨j,rfl⟩:∃i,j=i+4:=⟨j - 4,by omega⟩
  rcases r1 with ⟨id,rfl,hP,-⟩ | ⟨t,rfl,ht⟩
  ·exact hP.elim
  exact ⟨Nat.max t 0,rfl,by show max t 0<=k;omega⟩
theorem Jv {d:Nat}{g:G}{q:Int}(hd:0<d):an C0 d N.ax [.int .i64 q] g=.val (.clo N.an [] [.tptr 0 1 [[.int .i64 q]] 0 0]):=by
 have key:∃r,an C0 d N.ax [.int .i64 q] g=.val r/\IiV q NoP 0 .nil r:=by
  rw[tL]
  refine ba xq (xs:=[.int .i64 q]) rfl (by simp[mD]) (L_ q) (by decide) hd ?_
  simp only[sz,simprocAttr,mD,o9]
  exact ⟨fun _=>True,_,rfl,.inl ⟨0,rfl,trivial,by simp[sx]⟩⟩
 obtain ⟨r,h1,p,rfl,h2⟩:=key
 rcases h2 with ⟨id,rfl,hP,-⟩ | ⟨t,rfl,ht⟩
 ·exact hP.elim
 rw[h1,show t=0 by omega]
theorem GD (d:Nat)(a b p:AV)(g:G):gM C0 (I C0) d (.clo N.an [] [p]) [a,b] g=orF ((I C0).call d N.an [a,b,p] g):=by kernel_rfl
theorem EF {d:Nat}{g:G}{q:Int}{K:AV->G->Prop}{D:ADf->Prop}(kk:∀g',Fr g g'->(∀i∈g'.lg,i∈g.lg\/g.nx<=i)->K (.bool true) g') :
  (gM C0 (I C0) d (.clo N.an [] [.tptr 0 1 [[.int .i64 q]] 0 0]) [.int .i64 q,.int .i64 0] g).sat K g D:=by
 rw[GD]
 refine te t_ (by simp[ju]) ?_
 simp only[sz,simprocAttr,ju,cC,decide_true]
 exact kk _ (Fr.refl g) fun i hi=>.inl hi
theorem Cp {d k k2:Nat}{P P2:Nat->Prop}{g:G}{v w:AV}{l:List Int}(hd:0<d)(hl:SlR P k g.h l v)(hl2:SlR P2 k2 g.h l w)(hk:k<=d)(hk2:k2<=d):an C0 d N.ah [v,w] g=.val (.bool true):=by
 obtain ⟨v',ev,hv⟩:=dR hl d
 obtain ⟨w',ew,hw⟩:=dR hl2 d
 rw[Nat.max_eq_right hk] at hv
 rw[Nat.max_eq_right hk2] at hw
 have rv:=fun h=>(hv h).ints
 have rw':=fun h=>(hw h).ints
 have lv:=(hv .nil).len
 have lw:=(hw .nil).len
 have hn:=hl.1
 rw[nz]
 refine mY pg (xs:=[v',w']) (by simp only[aB,ev,ew]) (by simp[eQ]) hd ?_
 simp only[sz,simprocAttr,eQ,lv,lw]
 simp only[gC]
 refine aJ (m:=l.length) (by omega) (fun j t df g=>df=[]/\St t [(0,v'),(1,w'),(11,v')]) ⟨rfl,by simp[St,sx]⟩ (by simp[sx]) (by simp[sx]) (by decide) (by rintro j t df g v s (rfl | rfl | rfl)<;>simp[St,sx]) ?_ ?_
 ·rintro j t df g hj ⟨rfl,h0,h1,h11,-⟩ h13 h12
  obtain ⟨y,hy,-,-⟩:=au hj
  have u1:j<(l.map ci).length:=by simpa using hj
  have u2:(l.map ci)[j]?=some (ci y):=by rw[List.getElem?_map,hy];rfl
  simp only[sz,simprocAttr,h0,h1,h11,h13,rv,rw',u1,u2,ci]
  simp[St,sx,h0,h1,h11,h12,h13]
 ·rintro t df g ⟨rfl,-⟩
  simp only[sz,simprocAttr,gv]
theorem GC {d id0 ep0:Nat}{lo0:Bool}{g:G}{l:List Int}{K:AV->G->Prop}{D:ADf->Prop}(hg:g.h.get id0=.cells 1 (l.map ci) ep0 lo0 false)(hid:id0<g.nx)(hl:0<l.length)(hl2:l.length<=1000)
  (kk:∀(id ep:Nat) (lo:Bool) (g':G),g'.h.get id=.cells 1 (l.map ci) ep lo false->g.nx<=id->id<g'.nx->(∀i,i<g.nx->g'.h.get i=g.h.get i)->(∀i∈g'.lg,i∈g.lg\/(g.nx<=i/\i<g'.nx))->K (.hsl id ep 0 l.length none) g') :
  (an C0 d N.ac [.hsl id0 ep0 0 l.length none] g).sat K g D:=by
 have e0:([.hsl id0 ep0 0 l.length none]:List AV).flatMap (ah g.h af)=[id0]:=by
  rw[List.flatMap_cons,s_ hg (l:=l) (by rw[List.drop_zero,List.take_of_length_le (by simp)])]
  rfl
 have er:∀k,(eh g.h [id0]).get k=if k=id0 then g.h.get k else .none:=fun k=>by
  rw[gF];simp
 have hne:zZ false .slice (.hsl id0 ep0 0 l.length none) .nils=.val (.bool false):=rfl
 rw[dH]
 refine zF CX (K':=fun u g''=>Own g'' g.nx u 1 (l.map ci)/\(∀i,i<g.nx->g''.h.get i=(eh g.h [id0]).get i)/\∀i∈g''.lg,g.nx<=i) (D2:=fun _=>True) (by rw[e0];intro k hk;rw[List.mem_singleton.1 hk];exact hid) ?_ ?_
 ·rw[e0]
  refine te dT (by simp[be]) ?_
  simp only[sz,simprocAttr,be,hne]
  have hr:am (eh g.h [id0]) 1 (.hsl id0 ep0 0 l.length none)=some (l.map ci):=by
   rw[cE,er,if_pos rfl,hg,<-List.length_map (f:=ci),qm]
  refine bZ (b:=g.nx) (v:=.hsl g.nx 0 0 0 none) (rows:=[]) (new:=l.map ci) (.inr ⟨g.nx,0,false,Nat.le_refl _,by simp,rfl,by simp[H.get_put]⟩) (by rw[<-hr];simp[cE,H.get_put,show ¬id0=g.nx by omega]) (by simp) (by simp[a_];omega) fun u g1 hu n1 f1 _ lg1=>?_
  simp only[sz,simprocAttr]
  refine ⟨by simpa using hu,fun i hi=>?_,fun i hi=>?_⟩
  ·rw[f1 i (by simp;omega) (by simp[vid];omega)];simp[H.get_put,show ¬i=g.nx by omega]
  ·rcases lg1 i hi with h | h
   ·simp at h;omega
   ·exact h
 ·rintro v g'' ⟨hu,hf,hL⟩ hn hlg ho
  rw[e0] at hlg ho
  rcases hu with ⟨-,e⟩ | ⟨id,ep,lo,h1,h2,rfl,h3⟩
  ·have:=congrArg List.length e
   rw[List.length_map,List.length_nil] at this
   omega
  ·rw[List.length_map]
   refine kk id ep lo _ ?_ h1 h2 (fun i hi=>?_) fun k hk=>?_
   ·show (fD _ _ _).get id=_
    rw[dm,if_pos,h3]
    by_cases hin:id∈g''.lg
    ·exact hin
    ·have:=ho id hin
     rw[er,if_neg (by omega),h3] at this
     cases this
   ·show (fD _ _ _).get i=_
    rw[dm,if_neg]
    intro hin
    have:=hL i hin
    omega
   ·rcases List.mem_append.1 hk with h | h
    ·exact .inr ⟨hL k h,(hlg k h).1⟩
    ·exact .inl h
theorem FF {x y:Foot}(hbx:x.lk.big=false)(hby:y.lk.big=false)(hsx:x.lk.sr=[])(hsy:y.lk.sr=[])(h1:∀i∈x.wr,∀j∈y.wr,i≠j)(h2:∀i∈x.wr,∀j∈y.lk.rd,i≠j)(h3:∀i∈y.wr,∀j∈x.lk.rd,i≠j):bm x y=true:=by
 have m1:=da h1
 have m2:=da h2
 have m3:=da h3
 have m4:meets y.wr x.wr=false:=da fun i hi j hj e=>h1 j hj i hi e.symm
 have m5:∀l:List Nat,meets l []=false:=fun l=>by simp[meets]
 simp only[bm,eU,dO,hbx,hby,hsx,hsy,m1,m2,m3,m4,m5,fst1,List.map_nil,Bool.not_false,Bool.and_self,Bool.true_or]
 split<;>split<;>rfl
theorem Gr {cs vs:List Int}{ps:List Int}{j:Nat}{p c v:Int}(ht:ps.take (j+1)=ps.take j++[p])(hc:cs[p.toNat]?=some c)(hv:vs[p.toNat]?=some v) :
  S.ah (S.ae cs (ps.take (j+1))) (S.ae vs (ps.take (j+1)))=S.ah (S.ae cs (ps.take j)) (S.ae vs (ps.take j))*c+v:=by
 rw[ht,bF,bF,lR _ _ (by simp[S.ae])]
 simp[S.ae,hc,hv,S.ah,S.aa]
theorem pF {n:Net}(hr:NR n){vals:List Int}(hv:InC (S.ac n) vals){x:Node}(hx:x∈n.nodes)(j:Nat) :
  0<=S.ah (S.ae (S.ac n) (x.parents.take j)) (S.ae vals (x.parents.take j))/\S.ah (S.ae (S.ac n) (x.parents.take j)) (S.ae vals (x.parents.take j))<=65536:=by
 have hpin:∀p∈x.parents.take j,0<=p/\p<(S.ac n).length:=fun p hp=>hr.pin hx p (List.mem_of_mem_take hp)
 have h1:=bV (aN hr.cs hpin) (du hv hpin)
 have h2:=bE (l:=S.ae (S.ac n) (x.parents.take j)) (aN hr.cs hpin)
 have hl:=hr.l2
 have hpl:=b_ (hr.places x hx) (by omega)
 have h3:=cz (a:=(S.ae (S.ac n) (x.parents.take j)).length) (b:=8) (by simp[S.ae];omega)
 have h48:(4:Int) ^ 8=65536:=by decide
 omega
def LWt (q:Nat)(rv b:AV)(p:Int)(v len:Nat):List (Nat×AV):=[(6,.hptr 1 0 0 0),(8,rv),(9,.int .i64 p),(35,b),(36,.int .i64 (len:Int)),(37,.int .i64 (v:Int)),(10,.int .i64 (v:Int)),(11,.hptr q 0 0 0)]
theorem MF {d q v len:Nat}{n:Net}{x:Node}{vals:List Int}{b cv sv oz rv pa:AV}{p:Int}{Q:QT}{t:T}{g:G}(hr:NR n)(hx:x∈n.nodes)(hv:InC (S.ac n) vals)(rp:∀h,am h 1 pa=some (x.parents.map ci))(rc:∀h,am h 1 cv=some ((S.ac n).map ci))(ri:∀h,am h 1 rv=some (vals.map ci))
  (ht:St t (LWt q rv b p v len)) (h12:tat t 12=.int .i64 0) (h43:tat t 43=pa) (h44:tat t 44=.int .i64 (x.parents.length:Int)) (h45:tat t 45=.int .i64 0) (k1:g.h.get 1=.cells 5 [[.int .i64 n.grain,b,cv,sv,oz]] 0 false false)
  (fin:∀t,St t (LWt q rv b p v len)->tat t 12=.int .i64 (S.ah (S.ae (S.ac n) x.parents) (S.ae vals x.parents))->Q (.exit 2) t [] g):wpL (wp C0 d none jp) Q t [] g:=by
 have hl2:=hr.l2
 have hpl:=b_ (hr.places x hx) (by omega)
 have hcl:=aG n
 have hvl:=hv.len
 simp only[jp]
 refine aJ (m:=x.parents.length) (by omega) (fun j t df g'=>df=[]/\g'=g/\St t (LWt q rv b p v len)/\tat t 12=.int .i64 (S.ah (S.ae (S.ac n) (x.parents.take j)) (S.ae vals (x.parents.take j)))/\tat t 43=pa)
  ⟨rfl,rfl,ht,h12,h43⟩ h45 h44 (by decide) ?_ ?_ ?_
 ·rintro j t df g' v s hs ⟨a1,a2,⟨b1,b2,b3,b4,b5,b6,b7,b8,-⟩,a4,a5⟩
  refine ⟨a1,a2,?_,?_,?_⟩<;>rcases hs with rfl | rfl | rfl<;>simp[St,LWt,sx, *]
 ·rintro j t df g' hj ⟨rfl,rfl,⟨h6,h8,h9,h35,h36,h37,h10,h11,-⟩,h12,h43⟩ h45 h44
  obtain ⟨y,hy,htk,hym⟩:=au hj
  obtain ⟨y0,y1⟩:=hr.pin hx y hym
  obtain ⟨yn,rfl⟩:=Int.eq_ofNat_of_zero_le y0
  obtain ⟨c,hc⟩:∃c,(S.ac n)[yn]?=some c:=⟨_,List.getElem?_eq_getElem (by omega)⟩
  obtain ⟨z,hz,hz0,hz1⟩:=hv.get hc
  have hc4:=hr.cs c (List.mem_of_getElem? hc)
  have u1:j<(x.parents.map ci).length:=by simpa using hj
  have u2:(x.parents.map ci)[j]?=some (ci (yn:Int)):=by rw[List.getElem?_map,hy];rfl
  have u3:yn<((S.ac n).map ci).length:=by simp;omega
  have u4:((S.ac n).map ci)[yn]?=some (ci c):=by rw[List.getElem?_map,hc];rfl
  have u5:yn<(vals.map ci).length:=by simp;omega
  have u6:(vals.map ci)[yn]?=some (ci z):=by rw[List.getElem?_map,hz];rfl
  have e1:=Gr (cs:=S.ac n) (vs:=vals) htk (p:=(yn:Int)) (by rw[Int.toNat_natCast];exact hc) (by rw[Int.toNat_natCast];exact hz)
  have hb1:=pF hr hv hx j
  have hb2:=pF hr hv hx (j+1)
  rw[e1] at hb2
  have hmb:S.ah (S.ae (S.ac n) (x.parents.take j)) (S.ae vals (x.parents.take j))*c<=65536/\0<=S.ah (S.ae (S.ac n) (x.parents.take j)) (S.ae vals (x.parents.take j))*c:=⟨by omega,Int.mul_nonneg hb1.1 (by omega)⟩
  have w1:IntKind.wrap .i64 (S.ah (S.ae (S.ac n) (x.parents.take j)) (S.ae vals (x.parents.take j))*c)=S.ah (S.ae (S.ac n) (x.parents.take j)) (S.ae vals (x.parents.take j))*c:=aC (by omega) (by omega)
  have w2:IntKind.wrap .i64 (S.ah (S.ae (S.ac n) (x.parents.take j)) (S.ae vals (x.parents.take j))*c+z)=S.ah (S.ae (S.ac n) (x.parents.take (j+1))) (S.ae vals (x.parents.take (j+1))):=by rw[e1,aC (by omega) (by omega)]
  simp only[sz,simprocAttr,h6,h8,h12,h43,h45,k1,rp,rc,ri,u1,u2,u3,u4,u5,u6,ci,w1,w2]
  simp[St,LWt,sx,h6,h8,h9,h35,h36,h37,h10,h11,h43,h44,h45]
 ·rintro t df g' ⟨rfl,rfl,ht,h12,-⟩
  rw[List.take_length] at h12
  exact fin t ht h12
theorem CO {d:Nat}{g:G}{v:AV}{n:Net}{w:Nat}(hd:0<d)(hm:Agg n NoP 0 g.h v)(hr:NR n)(hw:w<S.an n):an C0 d N.ay [v,.int .i64 (w:Int)] g=.val (.tup [.int .i64 (S.wt n w),.int .i64 0]):=by
 have key:∃r,an C0 d N.ay [v,.int .i64 (w:Int)] g=.val r/\nJ (One (S.wt n w)) (One (0:Int)) NoP 0 .nil r:=by
  obtain ⟨b,rows,rfl,e1,hm',hN,r1,r2,r3,r4⟩:=jk d hm
  have hv:=gf (fun c hc=>(hr.cs c hc).1) (w:Int)
  have hvl:=gi (S.ac n) (w:Int)
  rw[aG] at hvl
  have hl2:=hr.l2
  rw[vv]
  refine ba yh (xs:=[.agg [.int .i64 n.grain,b],.int .i64 (w:Int)]) (by simp only[aB,e1,cZ 0]) (by simp[ox]) (bN (m:=1) (aO _) (aO _) (by decide) (by decide)) (by decide) hd ?_
  simp only[sz,simprocAttr,ox,qk]
  obtain ⟨z,ez,hz⟩:=vC (d:=d+1) (g:=G.empty.new (.cells 2 [[.int .i64 n.grain,b]] 0 false false)) (Nat.succ_pos d) (n:=n) (v:=.agg [.int .i64 n.grain,b]) (hm' _)
  rcases lP hz with ⟨hn,-⟩ | ⟨hn,b',cv,sv,oz,o,rfl,hb,hcv,hsv,hoz⟩
  ·rw[dW.2 hr] at hn;cases hn
  have rc:=fun h=>(hcv.tree (h':=h) (Nat.le_refl 0):SlR NoP 0 h _ cv).ints
  obtain ⟨rows,r1,r2,r3,r4⟩:=hb.all
  have r1:∀h',am h' 3 b'=some rows:=r1
  simp only[sz,simprocAttr,ez]
  refine cI (wg (d:=d+1) (i:=(w:Int)) (Nat.succ_pos d) (hcv.tree (Nat.le_refl 0)) (by omega) (EI hr) (by omega) (by have:=hr.wl;omega)) ?_
  rintro _ ⟨rv,rfl,hrv⟩
  simp only[sz,simprocAttr,hb.len]
  unfold S.wt
  generalize S.ak (S.ac n) (w:Int)=vals at *
  have ri:=fun h=>hrv.rows h
  simp only[oY,oS,oT]
  refine aJ (m:=n.nodes.length) (by omega) (fun j t df g=>df=[]/\St t [(6,.hptr 1 0 0 0),(8,rv),(9,.int .i64 (S.aa ((List.range j).map (S.aw n vals)))),(35,b')]/\g.h.get 1=.cells 5 [[.int .i64 n.grain,b',cv,sv,oz]] 0 false false/\2<=g.nx)
   ⟨rfl,by simp[St,sx,S.aa],by simp[sx,H.get_put],by simp[sx]⟩ (by simp[sx]) (by simp[sx]) (by decide) (by rintro j t df g v s (rfl | rfl | rfl)<;>simp[St,sx]) ?_ ?_
  ·rintro j t df g hj ⟨rfl,⟨h6,h8,h9,h35,-⟩,k1,hnx⟩ h37 h36
   obtain ⟨x,hx,-,-⟩:=au hj
   have hxm:=List.mem_of_getElem? hx
   obtain ⟨i,r,c,y,f1,f2,f3,f4,f5,f6,f7,f8,-,-⟩:=wH hr hv hx
   obtain ⟨c,rfl⟩:=Int.eq_ofNat_of_zero_le f5
   rw[Int.toNat_natCast] at f7
   obtain ⟨row,q1,q2⟩:=r3 j x hx
   obtain ⟨pa,ra,rfl,hpa,hra⟩:=dx.1 q2
   have hlt:j<rows.length:=by omega
   have hry:=r4 (by omega)
   have rp:=fun h=>(hpa.tree (h':=h) (Nat.le_refl 0):SlR NoP 0 h _ pa).ints
   obtain ⟨rr,s1,s2,s3,s4⟩:=zD (k:=0) (hra.tree (h':=.nil) (Nat.le_refl 0))
   obtain ⟨z,q3,hlt2,hz⟩:=s3 i r f3
   have hpl:=b_ (hr.places x hxm) (by omega)
   have hlp:=hpa.len
   refine bk (P:=fun t' df g'=>df=[]/\g'.nx=g.nx+1/\g'.h.get 1=.cells 5 [[.int .i64 n.grain,b',cv,sv,oz]] 0 false false/\g'.h.get g.nx=.cells 3 [[.int .i64 x.card,pa,ra]] 0 false false/\St t' (LWt g.nx rv b' (S.aa ((List.range j).map (S.aw n vals))) j n.nodes.length)) ?_ ?_
   ·simp only[sz,simprocAttr,h35,h37,r1,hlt,q1,hry]
    simp[St,LWt,sx,H.get_put,h6,h8,h9,h35,h37,h36,k1,show ¬1=g.nx by omega]
   rintro t' df g1 ⟨rfl,n1,k1,kq,ht⟩
   clear h6 h8 h9 h35 h37 h36
   refine bk (P:=fun t' df g'=>df=[]/\g'=g1/\St t' (LWt g.nx rv b' (S.aa ((List.range j).map (S.aw n vals))) j n.nodes.length)/\tat t' 12=.int .i64 0) ?_ ?_
   ·obtain ⟨b1,b2,b3,b4,b5,b6,b7,b8,-⟩:=ht
    simp only[sz,simprocAttr]
    simp[St,LWt,sx, *]
   clear ht
   rintro t2 df g2 ⟨rfl,hg2,⟨b1,b2,b3,b4,b5,b6,b7,b8,-⟩,h12⟩
   rw[hg2];clear hg2
   simp only[sz,simprocAttr,b8,kq,hlp]
   refine MF (q:=g.nx) (v:=j) (len:=n.nodes.length) (b:=b') (sv:=sv) (oz:=oz) (p:=S.aa ((List.range j).map (S.aw n vals))) hr hxm hv rp rc ri (by simp[St,LWt,sx, *]) (by simp[sx,h12]) (by simp[sx]) (by simp[sx]) (by simp[sx]) k1 ?_
   rintro t3 ⟨h6,h8,h9,h35,h36,h37,h10,h11,-⟩ h12
   rw[f1] at h12
   have u1:j<(vals.map ci).length:=by rw[List.length_map];omega
   have u2:(vals.map ci)[j]?=some (ci (c:Int)):=by rw[List.getElem?_map,f4];rfl
   have u3:c<(r.map ci).length:=by rw[List.length_map];exact (List.getElem?_eq_some_iff.1 f7).1
   have u4:(r.map ci)[c]?=some (ci y):=by rw[List.getElem?_map,f7];rfl
   have rz:=fun h=>(hz.tree (h':=h) (Nat.le_refl 0):SlR NoP 0 h _ z).ints
   have wb:=lY hr hv (j:=j+1) (by omega)
   rw[rJ,f8] at wb
   have w1:IntKind.wrap .i64 (S.aa ((List.range j).map (S.aw n vals))*y)=S.aa ((List.range (j+1)).map (S.aw n vals)):=by rw[rJ,f8,aC (by omega) (by omega)]
   simp only[sz,simprocAttr,h8,h9,h10,h11,h12,kq,s1,hlt2,q3,ri,u1,u2,rz,u3,u4,ci,w1]
   simp[St,sx,h6,h8,h35,h36,h37,k1,n1]
   omega
  ·rintro t df g ⟨rfl,⟨h6,h8,h9,h35,-⟩,k1,hnx⟩
   simp only[sz,simprocAttr,o8,h9]
   exact ⟨NoP,_,_,rfl,ay.2 rfl,ay.2 rfl⟩
 obtain ⟨r,hr,a,b,rfl,ha,hb⟩:=key
 have ha:=ay.1 ha
 injection ha with ha
 have hb:=ay.1 hb
 injection hb with hb
 rw[hr,ha,hb]
def S.bB (xs ys zs:Nat):List Nat:=[xs ||| ys ||| zs,zs,xs ||| zs,ys ||| zs]
def S.bP (n:Net)(xs ys zs i w:Nat):Int:=S.bI n ((S.bB xs ys zs)[i]?.getD 0) w
structure DpM (n:Net) (xs ys zs mb j k:Nat) (h:H):Prop where
 hm:∀i,i<4->∃L:List (Int×Int),h.get (mb+i)=.map (mcl ik L)/\∀K,mgt L K=S.bO n ((S.bB xs ys zs)[i]?.getD 0) K j+if i<k/\S.bP n xs ys zs i j=K then S.wt n j else 0
structure DpK (g0:G) (mb:Nat) (g:G):Prop where
 nx:g0.nx<=g.nx
 fr:∀i,(i<mb\/mb+4<=i)->i<g0.nx->g.h.get i=g0.h.get i
set_option maxRecDepth 20000 in
structure DpL (n:Net) (U V:AV) (g:G):Prop where
 u:∃rows,Own g 1 U 1 rows/\All2 (Rp.rp NoP 0 .nil) ((List.range (S.an n)).map fun w:Nat=>S.ak (S.ac n) (w:Int)) rows
 v:Own g 1 V 1 ((List.range (S.an n)).map fun w:Nat=>[AV.int .i64 (S.aI n (S.ak (S.ac n) (w:Int)))])
structure DpS (n:Net) (xs ys zs:Nat) (b a3 a4:AV) (g:G):Prop where
 h1:g.h.get 1=.cells 1 [[.bool false]] 0 false false
 h2:g.h.get 2=.cells 1 [[.int .i64 0]] 0 false false
 h3:g.h.get 3=.cells 4 [[.int .i64 n.grain,b,a3,a4]] 0 false false
 h4:g.h.get 4=.cells 4 [[.int .u64 (((S.bB xs ys zs)[0]?.getD 0:Nat):Int),.int .u64 (((S.bB xs ys zs)[1]?.getD 0:Nat):Int),.int .u64 (((S.bB xs ys zs)[2]?.getD 0:Nat):Int),.int .u64 (((S.bB xs ys zs)[3]?.getD 0:Nat):Int)]] 0 false false
 h9:g.h.get 9=.cells 4 [[.hmap 5,.hmap (5+1),.hmap (5+2),.hmap (5+3)]] 0 false false
set_option maxRecDepth 20000 in
structure DpJ (g0:G) (n:Net) (xs ys zs j:Nat) (h:H):Prop where
 fr:∀i,i<10->(i<5\/9<=i)->h.get i=g0.h.get i
 m:DpM n xs ys zs 5 j 0 h
theorem Bb (g:G):an C0 1 N.bw [] g=.val (.bool true):=by kernel_rfl
theorem C3 (C:Cfg)(t:T)(g:G)(f:Od)(xs:List Od):(SO.foot C t g (.dyn f xs)).sr=[]:=by
 simp only[SO.foot]
 split
 ·rw[aa];split<;>rfl
 ·rfl
theorem ld9 {A:List AV}(h:A.length=9):aI (.cells 9 [A] 0 false false) 0 0 true 9 0=.val (.agg A):=by
 match A,h with
 | [a,b,c,d,e,f,g,h,i],_=>rfl
def S.mt (vals e:List Int)(j:Nat):Bool:=(List.range j).all (S.bj vals e)
theorem Kl (vals e:List Int)(j:Nat):S.mt vals e (j+1)=(S.mt vals e j&&S.bj vals e j):=by simp[S.mt,List.range_succ]
end
end Hx
end
