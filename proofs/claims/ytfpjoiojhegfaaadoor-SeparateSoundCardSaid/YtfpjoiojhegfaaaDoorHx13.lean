/- A part of the proof: an interpreter over abstract values, shown right against the model, and what the functions of the chapter compute on it. -/
import Derived.Test.YtfpjoiojhegfaaaDoorHx12
set_option linter.unusedVariables false
set_option linter.unusedSimpArgs false
set_option linter.unnecessarySimpa false
section
namespace Hx
open Go
noncomputable section
structure DBl (D:ND) (n i:Nat) (num:Nat->Nat):Prop where
 c:∀u,u<n->D.c u=2\/D.c u=3
 p:∀u,u<n->(D.P u).length<=3/\∀y∈D.P u,0<=y/\y<n
 m:∀u,u<n->D.m u<=64
 o:∀u,D.o u=0
 f:∀k,i<=k->k<n->D.P (num k)=[]/\D.m (num k)=0
structure DL (r0:List AV) (n q:Nat) (gr:Int) (r5:AV) (num:Nat->Nat) (i:Nat) (t:T) (g:G):Prop where
 st:St t (LDA n q r5)
 hd:∃V E D,DN X1 r0 n q 1000 gr V E D g/\DBl D n i num/\DOk gr D n i num
theorem Is {n:Nat}{D:ND}:∀k,LNX X1 n D k->LNX X2 n D k:=fun k h=>by
 rcases h with h | h
 ·exact .inl h
 ·exact .inr (.inl h)
theorem Ix {d n q kk:Nat}{x:sF}{gr:Int}{a b r5:AV}{pl:List Int}{num:Nat->Nat}{Q:QT}{t:T}{g:G}(hd:0<d)(hgr:0<=gr/\gr<=60)(hn:1<=n/\n<=5)(ha:SlR NoP kk .nil x.2.1 a)(h5:IT 0 pl r5)(hN:Num n pl num)
  (h0:DL [u8v x.1,a,b] n q gr r5 num 0 t g) (h10:tat t 10=.int .i64 0)
  (fin:∀t g,DL [u8v x.1,a,b] n q gr r5 num n t g->Q (.exit 2) t [] g):wpL (wp C0 d none dL) Q t [] g:=by
 obtain ⟨pr,r1,r2,r3,r4⟩:=ha.all
 have r1:∀h',af h' 3 a=some pr:=r1
 have la:=ha.len
 have hal:=ha.1
 have r5i:∀h,af h 1 r5=some (pl.map ci):=fun h=>(h5.sl h).ints
 simp only[dL,ig]
 refine iI n (by omega) (fun j t df g=>df=[]/\DL [u8v x.1,a,b] n q gr r5 num j t g) ⟨rfl,h0⟩ h10 (by decide) ?_ ?_ ?_ ?_
 ·rintro j t df g v s (rfl | rfl | rfl) ⟨a1,⟨b1,b2,b3,b4,b5,-⟩,c3⟩<;>exact ⟨a1,by simp[St,LDA,sx,b1,b2,b3,b4,b5],c3⟩
 ·rintro j t df g hj ⟨rfl,⟨h1,h2,h3,h4,h5,-⟩,hD⟩ h10
  simp only[sz,simprocAttr,h10,h3]
  exact ⟨by simp[St,LDA,sx,h1,h2,h3,h4,h5],hD⟩
 ·rintro j t df g hj ⟨rfl,⟨h1,h2,h3,h4,h5',-⟩,V,E,D,hD,hb,hok⟩ h10
  obtain ⟨p,hp⟩:∃p,p=g.nx:=⟨_,rfl⟩
  have hnx:=hD.hp.nx
  refine eU (P:=fun t' df g'=>df=[]/\g'=g.new (.cells 3 [[.int .u8 0,.int .u8 0,.nils]] 0 false false)/\St t' ((10,.int .i64 (j:Int))::(11,.hptr p 0 0 0)::LDA n q r5)) ?_ ?_
  ·simp only[sz,simprocAttr]
   simp[St,LDA,sx,h1,h2,h3,h4,h5',h10,hp]
  clear h1 h2 h3 h4 h5' h10
  rintro t df g1 ⟨rfl,hg1,⟨h10,h11,h1,h2,h3,h4,h5',-⟩⟩
  have f1:Fr g g1:=by rw[hg1];exact Fr.new _ _
  have k8:g1.h.get p=.cells 3 [[.int .u8 0,.int .u8 0,.nils]] 0 false false:=by rw[hg1,hp];simp[H.get_put]
  have n1:p<g1.nx:=by rw[hg1,hp];simp
  clear hg1
  have hD1:=hD.same f1
  have e0:=hD1.h0
  refine eU (P:=fun t' df g'=>df=[]/\Fr g g'/\St t' ((10,.int .i64 (j:Int))::(11,.hptr p 0 0 0)::LDA n q r5)/\p<g'.nx/\∃(y1 y2:UInt8) (W:List UInt8) (wv:AV),SlR NoP kk .nil W wv/\g'.h.get p=.cells 3 [[u8v y1,u8v y2,wv]] 0 false false) ?_ ?_
  ·simp only[sz,simprocAttr,h10,h1,e0,la]
   refine jz (fun hb=>?_) (fun hb=>?_)
   ·have hb:j<x.2.1.length:=by simpa using hb
    obtain ⟨y,hy,-,-⟩:=aw hb
    obtain ⟨row,q1,q2⟩:=r3 j y hy
    obtain ⟨wv,rfl,hwv⟩:=wP.1 q2
    have hlt:j<pr.length:=by omega
    have hry:=r4 (by omega)
    simp only[sz,simprocAttr,h10,h1,e0,r1,hlt,q1,h11,k8]
    refine ⟨?_,by simp[St,LDA,sx,h1,h2,h3,h4,h5',h10,h11],by simpa using n1,y.1,y.2.1,y.2.2,wv,hwv,by simp[H.get_put]⟩
    exact ⟨Nat.le_trans f1.1 (by simp),fun i hi=>by simp[H.get_put,show ¬i=p by omega];exact f1.2 i hi⟩
   ·simp only[sx,sy]
    exact ⟨f1,by simp[St,LDA,sx,h1,h2,h3,h4,h5',h10,h11],n1,0,0,[],.nils,⟨by show 0<9223372036854775808;decide,rfl⟩,k8⟩
  clear h1 h2 h3 h4 h5' h10 h11 e0 hD1 k8 n1 f1
  rintro t df g2 ⟨rfl,f2,⟨h10,h11,h1,h2,h3,h4,h5',-⟩,n2,y1,y2,W,wv,hwv,k8⟩
  have hH:=hD.hp.add (g':=g2) (k:=(0,2)) (L':=LNX X2 n D) (v':=.hptr p 0 0 0) (e':=.bx [u8v y1,u8v y2,wv]) (by
   rintro (h | h)
   ·rcases h with h | ⟨i',q',h,-,-⟩<;>simp at h
   ·simp[X1] at h) ⟨p,by omega,n2,rfl,k8⟩ f2.1 (fun i _ hi=>f2.2 i hi) (fun i hi=>by injection hi with hi;omega) (fun k hk=>by
   rcases hk with h | h | h
   ·exact .inl (.inl h)
   ·exact .inl (.inr h)
   ·exact .inr h)
  have hfj:=hb.f j (Nat.le_refl _) hj
  have hvn:=hN.lt j hj
  have hvi:∀k,j<k->k<n->num k≠num j:=fun k h1 h2 e=>by
   have:=hN.inj k j h2 hj e
   omega
  have hvl:∀k,k<j->num k≠num j:=fun k h1 e=>by
   have:=hN.inj k j (by omega) hj e
   omega
  have hDP:DP [u8v x.1,a,b] [u8v y1,u8v y2,wv] n q j p (num j) gr r5 num g2 (ups V (0,2) (.hptr p 0 0 0)) (ups E (0,2) (.bx [u8v y1,u8v y2,wv])) D:=by
   refine ⟨⟨hH,⟨?_,fun u hu=>?_,fun u hu=>?_,fun u r hu hr=>?_⟩,?_,?_,by rw[f2.2 0 (by omega),hD.h0],by rw[f2.2 1 (by omega),hD.h1]⟩,⟨aF _ _ _,aF _ _ _⟩,⟨hb.c,hb.p,hb.m,hb.o,fun k h1 h2=>hb.f k (by omega) h2⟩,hfj.2,hok⟩
   ·rw[ah _ _ (by simp),hD.bn.ns]
    exact congrArg (En.sl 3) (List.map_congr_left fun u _=>by simp[fm,ah])
   ·rw[ah _ _ (by simp)];exact hD.bn.ps u hu
   ·rw[ah _ _ (by simp)]
    have:=hD.bn.rs u hu
    refine ⟨?_,this.2⟩
    rw[this.1]
    exact congrArg (En.sl 1) (List.map_congr_left fun r _=>by simp[A0,ah])
   ·rw[ah _ _ (by simp),ah _ _ (by simp)];exact hD.bn.rr u r hu hr
   ·rw[ah _ _ (by simp)];exact hD.vb
   ·rw[ah _ _ (by simp),ah _ _ (by simp)];exact hD.bx
  have u1:j<(pl.map ci).length:=by rw[List.length_map,hN.len];exact hj
  have u2:(pl.map ci)[j]?=some (ci (num j:Int)):=by rw[List.getElem?_map,hN.at_ j hj];rfl
  simp only[sz,simprocAttr,il,h5',h10,r5i,u1,u2,ci]
  refine J3 (n:=n) (q:=q) (i:=j) (p:=p) (v:=num j) (r5:=r5) (num:=num) hn h5 hN hj rfl ⟨by simp[St,LDB,sx,h1,h2,h3,h4,h5',h10,h11],_,_,_,hDP,fun y hy=>by rw[hfj.1] at hy;simp at hy⟩ (by simp[sx]) ?_
  clear h1 h2 h3 h4 h5' h10 h11 hDP hH
  rintro t g3 ⟨⟨h1,h2,h3,h4,h5',h10,h11,h12,-⟩,V3,E3,D3,hP3,-⟩
  simp only[sz,simprocAttr,iV]
  refine J_ (n:=n) (q:=q) (i:=j) (p:=p) (v:=num j) (r5:=r5) (num:=num) (P0:=D3.P (num j)) (c0:=D3.c) hd hn hvn hvi hvl hgr hwv ⟨by simp[St,LDB,sx,h1,h2,h3,h4,h5',h10,h11,h12],V3,E3,D3,hP3.dn,hP3.pb,hP3.db,hP3.mv,rfl,rfl,hP3.ok⟩ (by simp[sx]) ?_
  clear h1 h2 h3 h4 h5' h10 h11 h12 hP3
  rintro t g4 M hMp ⟨⟨h1,h2,h3,h4,h5',h10,h11,h12,-⟩,V4,E4,D4,hQ4⟩
  simp only[sx,sy,↓reduceIte]
  have hd4:=hQ4.dn
  refine ⟨⟨by simp[St,LDA,h1,h2,h3,h4,h5'],V4,E4,D4,⟨hd4.hp.sub Is,hd4.bn,hd4.vb,hd4.bx,hd4.h0,hd4.h1⟩,⟨hQ4.db.c,hQ4.db.p,hQ4.db.m,hQ4.db.o,fun k hk hkn=>hQ4.db.f k hk hkn⟩,⟨hQ4.ok.s,hQ4.ok.a,fun k hk=>?_,hQ4.ok.r⟩⟩,h10⟩
  by_cases e:k=j
  ·rw[e,hQ4.mv,hQ4.pv,hQ4.cv,hMp]
  ·exact hQ4.ok.w k (by omega)
 ·rintro t df g ⟨rfl,h⟩
  exact fin t g h
structure Drafted (m:Net):Prop where
 l:1<=m.nodes.length/\m.nodes.length<=5
 c:∀x∈m.nodes,x.card=2\/x.card=3
 b:∀x∈m.nodes,x.parents.length<=1000/\x.rows.length<=1000/\∀r∈x.rows,r.length<=1000
 nr:NR m
theorem EA {l:List Int}{n:Int}(hs:l.Pairwise (·<·))(hb:∀y∈l,0<=y/\y<n):S.bf l n=true:=by
 simp only[S.bf,S.bF,List.all_eq_true,List.mem_range,Bool.and_eq_true,Bool.or_eq_true,decide_eq_true_eq,beq_iff_eq]
 intro i hi
 obtain ⟨x,hx⟩:∃x,l[i]?=some x:=⟨_,List.getElem?_eq_getElem hi⟩
 have:=hb x (List.mem_of_getElem? hx)
 rw[hx,Option.getD_some]
 refine ⟨this,?_⟩
 by_cases e:i=0
 ·exact .inl e
 ·right
  obtain ⟨y,hy⟩:∃y,l[i - 1]?=some y:=⟨_,List.getElem?_eq_getElem (by omega)⟩
  rw[hy,Option.getD_some]
  have h1:=(List.getElem?_eq_some_iff.1 hx).2
  have h2:=(List.getElem?_eq_some_iff.1 hy).2
  rw[<-h1,<-h2]
  exact List.pairwise_iff_getElem.1 hs (i - 1) i (by omega) hi (by omega)
def F4 (num:Nat->Nat):Nat->Nat
 | 0=>0
 | k+1=>F4 num k ||| S.au (num k)
theorem xV {n:Nat}{pl:List Int}{num:Nat->Nat}(hN:Num n pl num)(hn:n<=64)(v:Nat):∀k,k<=n->((F4 num k).testBit v=true↔∃k',k'<k/\num k'=v)
 | 0,_=>by simp[F4]
 | k+1,hk=>by
  have hlt:=hN.lt k (by omega)
  rw[F4,fY,ki (by omega),Bool.or_eq_true,decide_eq_true_eq,xV hN hn v k (by omega)]
  constructor
  ·rintro (⟨k',h1,h2⟩ | h)
   ·exact ⟨k',by omega,h2⟩
   ·exact ⟨k,by omega,h⟩
  ·rintro ⟨k',h1,h2⟩
   by_cases e:k'=k
   ·subst e;exact .inr h2
   ·exact .inl ⟨k',by omega,h2⟩
theorem KF {gr:Int}{D:ND}{n:Nat}{pl:List Int}{num:Nat->Nat}(hN:Num n pl num)(hn:1<=n/\n<=5)(hgr:1<=gr/\gr<=60)(hb:DBl D n n num)(hok:DOk gr D n n num):NR ⟨gr,(List.range n).map D.node⟩:=by
 have hcl:(S.aa ⟨gr,(List.range n).map D.node⟩)=(List.range n).map D.c:=by
  unfold S.aa
  rw[List.map_map];rfl
 refine ⟨hgr.1,hgr.2,by simpa using hn.1,by simp;omega,fun x hx=>?_,fun x hx=>?_,?_,?_,fun x hx=>?_,fun x hx r hr=>?_⟩
 ·obtain ⟨u,hu,rfl⟩:=List.mem_map.1 hx
  have:=hb.c u (List.mem_range.1 hu)
  show 1<=D.c u/\D.c u<=4
  omega
 ·obtain ⟨u,hu,rfl⟩:=List.mem_map.1 hx
  have hu:=List.mem_range.1 hu
  refine EA (hok.s u hu) fun y hy=>?_
  have:=(hb.p u hu).2 y hy
  simpa using this
 ·rw[hcl]
  have h1:∀c∈(List.range n).map D.c,1<=c/\c<=4:=fun c hc=>by
   obtain ⟨u,hu,rfl⟩:=List.mem_map.1 hc
   have:=hb.c u (List.mem_range.1 hu)
   omega
  have h2:=bX h1
  have h3:=dG (a:=((List.range n).map D.c).length) (b:=5) (by simpa using hn.2)
  have h4:(4:Int) ^ 5=1024:=by decide
  omega
 ·have hpl:(S.ak ⟨gr,(List.range n).map D.node⟩).length=n:=by simp[S.ak]
  have hpar:∀v,v<n->Par (S.ak ⟨gr,(List.range n).map D.node⟩) v=S.ax (D.P v):=fun v hv=>by
   simp[Par,S.ak,hv,ND.node]
  have hgood:∀k,k<=n->yw (S.ak ⟨gr,(List.range n).map D.node⟩) (F4 num k):=fun k=>by
   induction k with
   | zero=>exact fun _=>sE
   | succ k ih =>
    intro hk
    have hlt:=hN.lt k (by omega)
    refine uG (ih (by omega)) (by omega) fun u hu=>?_
    rw[hpar _ hlt] at hu
    have hu:=(rL fun x hx=>by have:=(hb.p _ hlt).2 x hx;omega).1 hu
    obtain ⟨k',h1,h2⟩:=hok.a k (by omega) _ hu
    exact (xV hN (by omega) u k (by omega)).2 ⟨k',h1,by omega⟩
  refine nE (hgood n (Nat.le_refl _)) fun v hv=>?_
  rw[hpl] at hv
  exact (xV hN (by omega) v n (Nat.le_refl _)).2 (hN.sur v hv)
 ·obtain ⟨u,hu,rfl⟩:=List.mem_map.1 hx
  have hu:=List.mem_range.1 hu
  obtain ⟨k,hk,rfl⟩:=hN.sur u hu
  show (((List.range (D.m (num k))).map (D.R (num k))).length:Int)=S.ae (S.af _ (D.P (num k)))
  rw[CT hu (hb.p _ hu).2]
  have:=hok.w k hk
  unfold S.bk at this
  rw[<-this];simp
 ·obtain ⟨u,hu,rfl⟩:=List.mem_map.1 hx
  have hu:=List.mem_range.1 hu
  obtain ⟨r',hr',rfl⟩:=List.mem_map.1 hr
  exact hok.r u r' hu (List.mem_range.1 hr')
def GF:VS:=fun P k h v=>∃m:Net,Drafted m/\Agg m P k h v
def V0 (W:AV)(q:Nat):Ky->AV:=fun k=>match k with
 | (0,0)=>W
 | (0,1)=>.hptr q 0 0 0
 | _=>.nils
def E0 (W:AV)(n:Nat)(gr:Int):Ky->En:=fun k=>match k with
 | (0,0)=>.sl 3 (List.replicate n [.int .i64 0,.nils,.nils])
 | (0,1)=>.bx [.int .i64 gr,W]
 | _=>.sl 1 []
def D0:ND:=⟨fun _=>0,fun _=>[],fun _=>0,fun _ _=>[],fun _=>0⟩
theorem hp0 {W:AV}{n q:Nat}{gr:Int}{g:G}(hW:Own g 2 W 3 (List.replicate n [.int .i64 0,.nils,.nils]))(hq:g.h.get q=.cells 2 [[.int .i64 gr,W]] 0 false false)(h2:2<=q/\q<g.nx)(hne:vid W≠some q):Hp g 2 (LNX X1 n D0) (V0 W q) (E0 W n gr):=by
 have hk:∀k,LNX X1 n D0 k->k=(0,0)\/k=(0,1)\/∃i s,k=(i+1,s):=fun k h=>by
  rcases h with h | h
  ·rcases h with h | ⟨i,s,h,-⟩
   ·exact .inl h
   ·exact .inr (.inr ⟨i,s,h⟩)
  ·exact .inr (.inl h)
 refine ⟨fun k h=>?_,fun k l h h' hkl id h1 h3=>?_,by omega⟩
 ·rcases hk k h with rfl | rfl | ⟨i,s,rfl⟩
  ·exact hW
  ·exact ⟨q,h2.1,h2.2,rfl,hq⟩
  ·exact .inl ⟨rfl,rfl⟩
 ·rcases hk k h with rfl | rfl | ⟨i,s,rfl⟩<;>rcases hk l h' with rfl | rfl | ⟨i',s',rfl⟩
  ·exact hkl rfl
  ·have h1:eid W=some id:=h1
   have h3:some q=some id:=h3
   rw[gI hW] at h1
   injection h3 with h3;subst h3
   exact hne h1
  ·cases h3
  ·have h3:eid W=some id:=h3
   have h1:some q=some id:=h1
   rw[gI hW] at h3
   injection h1 with h1;subst h1
   exact hne h3
  ·exact hkl rfl
  ·cases h3
  ·cases h1
  ·cases h1
  ·cases h1
theorem IM {x:Int}{w:AV}(h:w.cells=[w])(h2:w.isTup=false):dk [.int .i64 0,.nils] [((0,1),.int .i64 x),((1,1),w)]=some [.int .i64 x,w]:=by
 have k1:(AV.int .i64 x).cells=[.int .i64 x]:=rfl
 have k2:(AV.int .i64 x).isTup=false:=rfl
 simp[dk,h,h2,eC,k1,k2]
 rfl
theorem H7 {a b:AV}(ha:a.cells=[a]/\a.isTup=false)(hb:b.cells=[b]/\b.isTup=false):dk [.nils,.int .u16 0,.nils] [((0,1),a),((2,1),b)]=some [a,.int .u16 0,b]:=by
 simp[dk,ha,hb,eC]
 rfl
theorem Io {d k:Nat}{g:G}{P:Nat->Prop}{v:AV}{x:sF}(hd:0<d)(hm:Agg x P k g.h v):∃r,aA C0 d N.aW [v] g=.val r/\GF NoP 0 .nil r:=by
 obtain ⟨v',e,cs,rfl,hc⟩:=qv (gu x) (by decide) d hm
 obtain ⟨a,b,rfl,ha,hb⟩:=wS.1 hc
 have ha:=ha.tree (h':=.nil) (Nat.le_refl _)
 have hb:=hb.tree (h':=.nil) (Nat.le_refl _)
 rw[pi]
 refine bD qs (xs:=[.agg [u8v x.1,a,b]]) (by simp only[aG,e]) (by simp[gH]) (lB fun m=>gu _) (by decide) hd ?_
 simp only[sz,simprocAttr,gH]
 obtain ⟨g0,hg0⟩:∃g0,g0=(G.empty.new (.cells 3 [[u8v x.1,a,b]] 0 false false)).new (.cells 2 [[.int .i64 0,.nils]] 0 false false):=⟨_,rfl⟩
 rw[<-hg0]
 have f0:g0.h.get 0=.cells 3 [[u8v x.1,a,b]] 0 false false:=by rw[hg0];simp[sx,H.get_put]
 have f1:g0.h.get 1=.cells 2 [[.int .i64 0,.nils]] 0 false false:=by rw[hg0];simp[sx]
 have f2:g0.nx=2:=by rw[hg0];simp[sx]
 clear hg0
 have la:=ha.len
 have hal:=ha.1
 unfold jp
 obtain ⟨n,hn,hnb⟩:∃n:Nat,n=min (max x.2.1.length 1) 5/\1<=n/\n<=5:=⟨_,rfl,by omega⟩
 refine eU (P:=fun t' df g'=>df=[]/\g'=g0/\St t' [(1,.hptr 0 0 0 0),(2,.hptr 1 0 0 0),(3,.int .i64 (n:Int))]) ?_ ?_
 ·simp only[sz,simprocAttr,f0,la]
  simp[St,sx]
  omega
 rintro t df g1 ⟨rfl,rfl,h1,h2,h3,-⟩
 obtain ⟨gr,hgr,hgb⟩:∃gr:Int,gr=1+(x.1.toNat:Int) % 60/\0<=gr/\gr<=60:=⟨_,rfl,by omega,by omega⟩
 have q1:=pO .u8 (a:=(x.1.toNat:Int)) (b:=60) (by omega) (by omega)
 have w1:IntKind.wrap .i64 ((x.1.toNat:Int) % 60)=(x.1.toNat:Int) % 60:=aH (by omega) (by omega)
 have w2:IntKind.wrap .i64 (1+(x.1.toNat:Int) % 60)=gr:=by rw[hgr,aH (by omega) (by omega)]
 refine eU (P:=fun t' df g'=>df=[]/\∃q V E D,St t' [(1,.hptr 0 0 0 0),(2,.hptr 1 0 0 0),(3,.int .i64 (n:Int)),(4,.hptr q 0 0 0)]/\DN X1 [u8v x.1,a,b] n q 1000 gr V E D g'/\(∀u,D.P u=[]/\D.m u=0/\D.o u=0)) ?_ ?_
 ·simp only[sz,simprocAttr,sf,h1,h3,f0,u8v,q1,w1,w2]
  refine mw (b:=2) (n:=n) (by unfold bh;omega) (by unfold bh;omega) (by first | (simp;done) | (simp;omega)) fun W g2 hW n2 f2' vW lg2=>?_
  simp only[sy] at n2 f2' vW lg2
  simp only[sz,simprocAttr,sf,IM hW.cell.1 hW.cell.2,lg2]
  have n2':g1.nx+7=g2.nx:=by omega
  have k0:g2.h.get 0=.cells 3 [[u8v x.1,a,b]] 0 false false:=by rw[f2' 0 (by omega),f0]
  have k1:g2.h.get 1=.cells 2 [[.int .i64 0,.nils]] 0 false false:=by rw[f2' 1 (by omega),f1]
  refine ⟨?_,g2.nx+1+1,V0 W (g2.nx+1+1),E0 W n gr,D0,by simp[St,sx,h1,h2,h3],⟨hp0 ?_ ?_ ⟨by omega,by simp⟩ ?_,⟨?_,fun u _=>⟨rfl,by show 0<=1000;omega⟩,fun u _=>⟨rfl,by show 0<=1000;omega⟩,fun u r _ hr=>by cases hr⟩,rfl,rfl,?_,?_⟩,fun u=>⟨rfl,rfl,rfl⟩⟩
  ·simp only[List.reverse_cons,List.reverse_nil,List.nil_append,List.cons_append,G.new_lg,G.put_lg,setLog_lg]
   refine bj [false,false,false,false,false,false,true,false,true,true] [(0,6),(1,6),(2,6),(3,6),(4,6),(0,8),(1,8),(2,8),(3,8),(4,8),(5,8),(6,8),(7,8)] (by simp[All2,am,aD]) (by decide) ?_
   rintro p hp' x y hx hy
   simp only[List.mem_cons,List.not_mem_nil,or_false] at hp'
   rcases hp' with rfl | rfl | rfl | rfl | rfl | rfl | rfl | rfl | rfl | rfl | rfl | rfl | rfl<;>(simp at hx hy;subst hx;subst hy;refine iT rfl rfl rfl rfl ?_ ?_ ?_<;>simp[am,aD,ae]<;>omega)
  ·refine hW.fr (by simp;omega) fun i hi=>?_
   have:=eW vW hi
   simp[H.get_put,show ¬i=g2.nx+1+1 by omega]
  ·simp[H.get_put]
  ·intro e
   have:=eW vW e
   omega
  ·show En.sl 3 (List.replicate n [.int .i64 0,.nils,.nils])=En.sl 3 ((List.range n).map fun _=>[.int .i64 0,.nils,.nils])
   congr 1
   rw[List.map_const',List.length_range]
  ·simp[H.get_put,k0];rfl
  ·simp[H.get_put,k1]
 clear h1 h2 h3
 rintro t df g2 ⟨rfl,q,V,E,D,⟨h1,h2,h3,h4,-⟩,hD,hD0⟩
 obtain ⟨num,hN⟩:=Ke x.2.2 n
 refine eU (P:=fun t' df g'=>df=[]/\Fr g2 g'/\∃r5,IT 0 (S.aH x.2.2 n) r5/\St t' (LDA n q r5)) ?_ ?_
 ·simp only[sz,simprocAttr,sf,h3]
  refine mw (b:=2) (n:=n) (by unfold bh;omega) (by unfold bh;omega) (by have:=hD.hp.nx;first | (simp;done) | (simp;omega)) fun U g3 hU n3 f3 vU lg3=>?_
  simp only[sy] at n3 f3 vU lg3
  have e0:g3.h.get 0=.cells 3 [[u8v x.1,a,b]] 0 false false:=by rw[f3 0 (by have:=hD.hp.nx;omega),hD.h0]
  simp only[sz,simprocAttr,sf,h1,e0,H7 hU.cell hb.cell]
  have hU':Own g3 2 U 1 ((List.replicate n (0:UInt8)).map fun y=>[u8v y]):=by simpa [u8v] using hU
  have hpm:∀g4:G,g4.h=g3.h->∃r,aA C0 (d+1) N.aw [.agg [U,.int .u16 0,b]] g4=.val r/\IT 0 (S.aH x.2.2 n) r:=fun g4 h=>by
   have:=ug (d:=d+1) (g:=g4) (k:=max k d) (P:=fun _=>True) (x:=(List.replicate n (0:UInt8),(0:UInt16),x.2.2)) (v:=.agg [U,.int .u16 0,b]) (Nat.succ_pos d) ⟨_,rfl,pJ.2 ⟨U,b,rfl,?_,?_⟩⟩
   ·have e:min (List.replicate n (0:UInt8)).length 5=n:=by simp;omega
    rw[e] at this
    exact this
   ·rw[h]
    exact Own.sl (α:=UInt8) hU' (by simp;omega) (All2.of_map (fun y=>oE.2 rfl) _) fun _ _=>trivial
   ·exact (hb.tree (h':=g4.h) (Nat.le_refl _)).wd fun _ h=>h.elim
  refine pu (hpm _ (by simp)) fun r hr=>?_
  simp only[sz,simprocAttr,sf,jk]
  refine ⟨?_,⟨?_,fun i hi=>?_⟩,r,hr,?_⟩
  ·simp only[List.reverse_cons,List.reverse_nil,List.nil_append,List.cons_append]
   refine bj [false,true,false,false,false,false,false] [(1,2),(1,3)] (by simp[All2,am,aD]) (by decide) ?_
   rintro p hp' x y hx hy
   simp only[List.mem_cons,List.not_mem_nil,or_false] at hp'
   rcases hp' with rfl | rfl<;>(simp at hx hy;subst hx;subst hy;refine iT rfl rfl rfl rfl ?_ ?_ ?_<;>simp[am,aD,ae,lg3])
  ·simp;omega
  ·simp
   exact f3 i (by omega)
  ·simp[St,LDA,sx,h1,h2,h3,h4]
 clear h1 h2 h3 h4
 rintro t df g3 ⟨rfl,f3,r5,hr5,⟨h1,h2,h3,h4,h5,-⟩⟩
 have hD3:=hD.same f3
 simp only[sz,simprocAttr]
 refine J8 (n:=n) (q:=q) (x:=x) (gr:=gr) (r5:=r5) (num:=num) hnb ha hr5 hN ⟨by simp[St,LDA,sx,h1,h2,h3,h4,h5],⟨1,by simp[sx],by decide⟩,V,E,D,hD3,fun v _=>⟨(hD0 v).1,(hD0 v).2.1⟩,fun k hk=>by omega,fun u=>(hD0 u).2.2⟩ (by simp[sx]) ?_
 clear h1 h2 h3 h4 h5 hD3
 rintro t g4 ⟨⟨h1,h2,h3,h4,h5,-⟩,-,V4,E4,D4,hD4,hok⟩
 simp only[sz,simprocAttr,h_]
 refine Ix (n:=n) (q:=q) (x:=x) (gr:=gr) (r5:=r5) (num:=num) (Nat.succ_pos d) hgb hnb ha hr5 hN ⟨by simp[St,LDA,sx,h1,h2,h3,h4,h5],V4,E4,D4,hD4,⟨fun u hu=>?_,fun u hu=>?_,fun u hu=>?_,?_,fun k _ hk=>hok.e _ (hN.lt k hk)⟩,⟨fun u hu=>by rw[(hok.e u hu).1];exact .nil,fun k hk y hy=>by rw[(hok.e _ (hN.lt k hk)).1] at hy;simp at hy,fun k hk=>by omega,fun u r hu hr=>by rw[(hok.e u hu).2] at hr;omega⟩⟩ (by simp[sx]) ?_
 ·obtain ⟨k,hk,rfl⟩:=hN.sur u hu
  exact hok.c k hk
 ·rw[(hok.e u hu).1];simp
 ·rw[(hok.e u hu).2];omega
 ·exact hok.o
 clear h1 h2 h3 h4 h5
 rintro t g5 ⟨⟨h1,h2,h3,h4,h5,-⟩,V5,E5,D5,hD5,hb5,hk5⟩
 obtain ⟨kq,q2a,q2b⟩:=hD5.q rfl
 simp only[sz,simprocAttr,g9,h4,kq,h2,hD5.h1]
 have hnodes:=hD5.bn.nodes hD5.hp (fun k h=>.inl h) (by omega) (by omega)
 refine ⟨fun _=>True,⟨gr,(List.range n).map D5.node⟩,⟨by simpa using hnb,fun y hy=>?_,fun y hy=>?_,KF hN hnb (by omega) hb5 hk5⟩,⟨_,rfl,lT.2 ⟨_,rfl,hnodes.wd fun i hi=>⟨trivial,by simp[H.get_put,show ¬i=1 by omega]⟩⟩⟩⟩
 ·obtain ⟨u,hu,rfl⟩:=List.mem_map.1 hy
  exact hb5.c u (List.mem_range.1 hu)
 ·obtain ⟨u,hu,rfl⟩:=List.mem_map.1 hy
  have hu:=List.mem_range.1 hu
  refine ⟨(hD5.bn.ps u hu).2,?_,fun r hr=>?_⟩
  ·show ((List.range (D5.m u)).map (D5.R u)).length<=1000
   simpa using (hD5.bn.rs u hu).2
  ·obtain ⟨r',hr',rfl⟩:=List.mem_map.1 hr
   exact (hD5.bn.rr u r' hu (List.mem_range.1 hr')).1
def Kb (V:Ky->AV)(i:Nat)(c:Int):List AV:=[.int .i64 c,V (i+1,0),V (i+1,1)]
structure NdOk (K:Nat) (V:Ky->AV) (E:Ky->En) (i:Nat) (x:Node):Prop where
 ps:E (i+1,0)=.sl 1 (x.parents.map ci)
 rs:∃rws,E (i+1,1)=.sl 1 rws/\rws.length=x.rows.length/\∀(r:Nat) (y:List Int),x.rows[r]?=some y->rws[r]?=some [V (i+1,2+r)]
 rr:∀(r:Nat) (y:List Int),x.rows[r]?=some y->E (i+1,2+r)=.sl 1 (y.map ci)
 len:x.parents.length<=K/\x.rows.length<=K/\∀y∈x.rows,y.length<=K
def LS (L:List Node):Ky->Prop:=fun k=>k=(0,0)\/∃i q x,k=(i+1,q)/\L[i]?=some x/\q<2+x.rows.length
structure BLs (K:Nat) (V:Ky->AV) (E:Ky->En) (L:List Node):Prop where
 ns:∃rows,E (0,0)=.sl 3 rows/\rows.length=L.length/\∀(i:Nat) (x:Node),L[i]?=some x->rows[i]?=some (Kb V i x.card)
 nd:∀(i:Nat) (x:Node),L[i]?=some x->NdOk K V E i x
def BBn (g:G)(brow:List AV)(gr:Int)(b:AV):Prop:=g.h.get 0=.cells 4 [brow] 0 false false/\g.h.get 1=.cells 2 [[.int .i64 gr,b]] 0 false false/\g.h.get 2=.cells 2 [[.int .i64 0,.nils]] 0 false false
def LX (L:List Node)(x:Node):Ky->Prop:=fun k=>LS L k\/k=(0,1)\/∃q,k=(L.length+1,q)/\q<2+x.rows.length
structure NB (K p:Nat) (L:List Node) (x:Node) (g:G) (brow:List AV) (gr:Int) (b W:AV) (V:Ky->AV) (E:Ky->En):Prop where
 hp:Hp g 3 (LX L x) V E
 bb:BBn g brow gr b
 vb:V (0,1)=.hptr p 0 0 0
 bx:E (0,1)=.bx (Kb V L.length x.card)
 nd:NdOk K V E L.length x
 bl:BLs K V E L
 vw:V (0,0)=W
structure Oth (K:Nat) (L:List Node) (J:Nat) (V:Ky->AV) (E:Ky->En) (rows:List (List AV)):Prop where
 len:rows.length=L.length
 ns:∀(i:Nat) (y:Node),i≠J->L[i]?=some y->rows[i]?=some (Kb V i y.card)
 nd:∀(i:Nat) (y:Node),i≠J->L[i]?=some y->NdOk K V E i y
structure BS (K J:Nat) (L:List Node) (x:Node) (bx:CD) (gr Rw:Int) (t:T) (g:G) (V:Ky->AV) (E:Ky->En):Prop where
 st:St t [(2,.hptr 0 0 0 0),(3,.hptr 1 0 0 0),(4,.hptr 2 0 0 0),(10,nK 3 (V (0,0)) J 0),(11,.int .i64 Rw)]
 hp:Hp g 3 (LS L) V E
 f0:g.h.get 0=.cells 4 [[u8v bx.1,u8v bx.2.1,u8v bx.2.2.1,.int .i64 bx.2.2.2]] 0 false false
 f1:g.h.get 1=.cells 2 [[.int .i64 gr,V (0,0)]] 0 false false
 f2:g.h.get 2=.cells 2 [[.int .i64 0,.nils]] 0 false false
 bl:BLs K V E L
 hx:L[J]?=some x
 hR:(Rw = -1/\x.rows.length=0)\/∃r:Nat,Rw=(r:Int)/\r<x.rows.length
 hK:K<=1000000
 hl:L.length<=K
structure BT (K J:Nat) (L:List Node) (x:Node) (g:G) (V:Ky->AV) (E:Ky->En) (rows:List (List AV)):Prop where
 own:Own g 3 (V (0,0)) 3 rows
 e0:E (0,0)=.sl 3 rows
 ry:ph (V (0,0))=true
 hlt:J<rows.length
 row:rows[J]?=some [.int .i64 x.card,V (J+1,0),V (J+1,1)]
 oth:Oth K L J V E rows
 nd:NdOk K V E J x
section
variable {d K J:Nat}{L:List Node}{x:Node}{bx:CD}{gr Rw:Int}{t:T}{g:G}{V:Ky->AV}{E:Ky->En}{Q:QT}
end
end
end Hx
end
section
namespace Hx
open Go
noncomputable section
structure BW (x:Node) (J:Nat) (g:G) (V:Ky->AV) (E:Ky->En) (rws:List (List AV)):Prop where
 own:Own g 3 (V (J+1,1)) 1 rws
 e1:E (J+1,1)=.sl 1 rws
 len:rws.length=x.rows.length
 at_:∀(r:Nat) (y:List Int),x.rows[r]?=some y->rws[r]?=some [V (J+1,2+r)]
section
variable {d K J:Nat}{L:List Node}{x:Node}{bx:CD}{gr Rw:Int}{t:T}{g:G}{V:Ky->AV}{E:Ky->En}{Q:QT}
end
end
end Hx
end
section
namespace Hx
open Go
noncomputable section
def Node.wr (x:Node)(r:Nat)(y:List Int):Node:=⟨x.card,x.parents,x.rows.set r y⟩
section
variable {d K J r:Nat}{L:List Node}{x:Node}{bx:CD}{gr Rw:Int}{t t':T}{g gb:G}{V:Ky->AV}{E:Ky->En}{Q:QT}{y y':List Int}
structure BR (x:Node) (J r:Nat) (y:List Int) (g:G) (V:Ky->AV) (E:Ky->En) (rws:List (List AV)):Prop where
 wr:af g.h 1 (V (J+1,1))=some rws
 rl:r<rws.length
 rw_:rws[r]?=some [V (J+1,2+r)]
 ry:ph (V (J+1,1))=true
 yr:af g.h 1 (V (J+1,2+r))=some (y.map ci)
 ye:E (J+1,2+r)=.sl 1 (y.map ci)
 yl:y.length<=K
end
end
end Hx
end
section
namespace Hx
open Go
noncomputable section
theorem C4 {α:Type} [Rp α]{x:α}{P:Nat->Prop}{cs:List AV}(h:Rp.rp NoP 0 .nil x cs)(h':H):Agg x P 0 h' (.agg cs):=⟨_,rfl,Rp.tree h (Nat.le_refl _)⟩
def L3 (R:List (Nat×AV))(p:Nat)(w:AV)(no mass:Int)(c97:AV)(j:Nat):List (Nat×AV):=(15,.hptr p 0 0 0)::(17,w)::(18,.int .i64 no)::(19,.int .i64 mass)::(97,c97)::(98,.int .i64 (j:Int))::R
end
end Hx
end
section
section
namespace Hx
open Go
noncomputable section
theorem rg {a b:Nat}(h:a*b<18446744073709551616):bA .mul (.int .u64 (a:Int)) (.int .u64 (b:Int))=.val (.int .u64 ((a*b:Nat):Int)):=by
 rw[tN,<-Int.natCast_mul]
 generalize a*b=z at h
 rw[lF (by omega) (by omega)]
theorem CQ {a b:Nat}(h:a+b<18446744073709551616):bA .add (.int .u64 (a:Int)) (.int .u64 (b:Int))=.val (.int .u64 ((a+b:Nat):Int)):=by
 rw[tP,<-Int.natCast_add,lF (by omega) (by omega)]
theorem DT {x y:Nat}(h:x*y<18446744073709551616):∃x0 x1 y0 y1 p qa qb:Nat,x / 4294967296=x1/\x % 4294967296=x0/\y / 4294967296=y1/\y % 4294967296=y0/\x1*y1=0/\x0*y0=p/\x1*y0=qa/\x0*y1=qb /\
  p<18446744073709551616/\qa<4294967296/\qb<4294967296/\(qa+p / 4294967296) / 4294967296=0/\((qa+p / 4294967296) % 4294967296+qb) / 4294967296=0:=by
 obtain ⟨B,hB⟩:∃B:Nat,B=4294967296:=⟨_,rfl⟩
 have dx:=Nat.div_add_mod x B
 have dy:=Nat.div_add_mod y B
 have mx:=Nat.mod_lt x (show 0<B by omega)
 have my:=Nat.mod_lt y (show 0<B by omega)
 rw[<-hB]
 refine ⟨_,_,_,_,_,_,_,rfl,rfl,rfl,rfl,?_,rfl,rfl,rfl,?_⟩
 ·generalize x / B=x1 at *
  generalize x % B=x0 at *
  generalize y / B=y1 at *
  generalize y % B=y0 at *
  rcases Nat.eq_zero_or_pos (x1*y1) with h0 | h0
  ·exact h0
  ·exfalso
   have e1:B*x1*(B*y1)=B*B*(x1*y1):=Nat.mul_mul_mul_comm _ _ _ _
   have e4:B*x1*(B*y1)<=x*y:=Nat.mul_le_mul (by omega) (by omega)
   have e5:B*B*1<=B*B*(x1*y1):=Nat.mul_le_mul_left _ h0
   have e6:B*B=18446744073709551616:=by rw[hB]
   omega
 ·generalize x / B=x1 at *
  generalize x % B=x0 at *
  generalize y / B=y1 at *
  generalize y % B=y0 at *
  have e2:B*x1*y0=B*(x1*y0):=Nat.mul_assoc _ _ _
  have e3:x0*(B*y1)=B*(x0*y1):=Nat.mul_left_comm _ _ _
  have exy:x*y=B*x1*(B*y1)+B*(x1*y0)+(B*(x0*y1)+x0*y0):=by
   rw[<-dx,<-dy,Nat.mul_add,Nat.add_mul,Nat.add_mul,e2,e3];omega
  have hp:x0*y0<=(B - 1)*(B - 1):=Nat.mul_le_mul (by omega) (by omega)
  generalize x1*y0=qa at *
  generalize x0*y1=qb at *
  generalize x0*y0=p at *
  generalize B*x1*(B*y1)=z at *
  generalize x*y=w at *
  subst hB
  have hp2:p<=18446744065119617025:=hp
  clear hp mx my dx dy
  have k1:4294967296*qa+(4294967296*qb+p)<18446744073709551616:=by omega
  refine ⟨by omega,by omega,by omega,by omega,by omega⟩
theorem GB {d:Nat}{g:G}{x y:Nat}(hd:0<d)(h:x*y<18446744073709551616)(hx:x<18446744073709551616)(hy:y<18446744073709551616) :
  aA C0 d N.aa [.int .u64 (x:Int),.int .u64 (y:Int)] g=.val (.tup [.int .u64 0,.int .u64 ((x*y:Nat):Int)]):=by
 have key:∃r,aA C0 d N.aa [.int .u64 (x:Int),.int .u64 (y:Int)] g=.val r/\rA (One (0:Nat)) (One (x*y:Nat)) NoP 0 .nil r:=by
  rw[jn]
  refine bD lG (xs:=[.int .u64 (x:Int),.int .u64 (y:Int)]) (by simp only[aG,dT 0]) (by simp[cX]) (eI (m:=1) (bc _) (bc _) (by decide) (by decide)) (by decide) hd ?_
  obtain ⟨x0,x1,y0,y1,p,qa,qb,hx1,hx0,hy1,hy0,h11,hP,hA,hB,lp,la,lb,z2,z3⟩:=DT h
  have m1:=rg (a:=x0) (b:=y0) (by rw[hP];exact lp)
  have m2:=rg (a:=x1) (b:=y0) (by rw[hA];omega)
  have m3:=rg (a:=x0) (b:=y1) (by rw[hB];omega)
  have m4:=rg (a:=x1) (b:=y1) (by rw[h11];omega)
  have m5:=rg h
  rw[hP] at m1;rw[hA] at m2;rw[hB] at m3;rw[h11] at m4
  have s1:=lS p lp
  have a1:=CQ (a:=qa) (b:=p / 4294967296) (by omega)
  have n1:=mE (qa+p / 4294967296) (by omega)
  have s2:=lS (qa+p / 4294967296) (by omega)
  have a2:=CQ (a:=(qa+p / 4294967296) % 4294967296) (b:=qb) (by omega)
  rw[z2] at s2
  have a3:bA .add (.int .u64 ((0:Nat):Int)) (.int .u64 ((0:Nat):Int))=.val (.int .u64 ((0:Nat):Int)):=rfl
  have s3:=lS ((qa+p / 4294967296) % 4294967296+qb) (by omega)
  rw[z3] at s3
  have nx:=mE x hx
  have ny:=mE y hy
  have sx':=lS x hx
  have sy':=lS y hy
  rw[hx0] at nx;rw[hy0] at ny;rw[hx1] at sx';rw[hy1] at sy'
  clear z2 z3 lp la lb h11 hP hA hB
  simp only[cX,sx,SO.run,↓reduceIte,Nat.reduceEqDiff,nx,ny,sx',sy',m1,m2,m3,m4,m5,s1,s2,s3,n1,a1,a2,a3,jy]
  exact ⟨NoP,_,_,rfl,jU.2 ⟨rfl,by decide⟩,jU.2 ⟨rfl,h⟩⟩
 obtain ⟨r,h1,a,b,rfl,h2,h3⟩:=key
 have h2:=(jU.1 h2).1
 have h3:=(jU.1 h3).1
 injection h2 with h2
 injection h3 with h3
 rw[h1,h2,h3];rfl
end
end Hx
end
end
section
namespace Hx
open Go
noncomputable section
theorem JS {E:Nat->Nat->Prop}{Z X:Nat->Prop}{v t:Nat}(h:Ds E v t):∀d,Rs E Z X v d->(∀w,Ds E v w->¬Z w)->∃d',Rs E Z X t d':=by
 induction h with
 | rf=>exact fun d h _=>⟨d,h⟩
 | st e _ ih =>
  intro d hr hz
  exact ih true (.dn hr (by cases d<;>exact hz _ (.rf _)) e) fun w hw=>hz w (.st e hw)
theorem J9 {E:Nat->Nat->Prop}{Z X:Nat->Prop}{v t:Nat}(ht:X t)(h:Ds E v t)(hz:¬An E Z v):Rs E Z X v false:=by
 induction h with
 | rf=>exact .st ht
 | st e _ ih =>
  have h1:=ih ht fun h=>hz (An.up e h)
  exact .up h1 (fun h=>hz (An.up e (An.of h))) e
theorem JU {E:Nat->Nat->Prop}{Z X Y:Nat->Prop}(hap:∀v,Y v->¬Re E Z X v){v m m':Nat}(hA:An E (fun u=>X u\/Y u\/Z u) v)(hm:m=v\/E m v)(hP:Re E Z X m)(hm':m'=v\/E m' v)(hz:¬Z m'):Re E Z X m':=by
 have own:∀d,Rs E Z X v d->¬Z v->Re E Z X m':=by
  intro d hd hzv
  rcases hm' with rfl | e
  ·exact ⟨⟨d,hd⟩,hz⟩
  ·cases d with
   | false=>exact ⟨⟨false,.up hd hzv e⟩,hz⟩
   | true =>
    by_cases han:An E Z v
    ·exact ⟨⟨false,.up hd han e⟩,hz⟩
    ·obtain ⟨t,ht,hds⟩:=hA
     rcases ht with ht | ht | ht
     ·exact ⟨⟨false,.up (J9 ht hds han) hzv e⟩,hz⟩
     ·have hnz:∀w,Ds E v w->¬Z w:=fun w hw hw'=>han ⟨w,hw',hw⟩
      obtain ⟨d',h'⟩:=JS hds true hd hnz
      exact absurd ⟨⟨d',h'⟩,hnz t hds⟩ (hap t ht)
     ·exact absurd ⟨t,ht,hds⟩ han
 rcases hm with rfl | e
 ·obtain ⟨⟨d,hd⟩,hz'⟩:=hP
  exact own d hd hz'
 ·obtain ⟨⟨d,hd⟩,hz'⟩:=hP
  have h1:Rs E Z X v true:=.dn hd (by cases d<;>exact hz') e
  by_cases hzv:Z v
  ·rcases hm' with rfl | e'
   ·exact absurd hzv hz
   ·exact ⟨⟨false,.up h1 (An.of hzv) e'⟩,hz⟩
  ·exact own true h1 hzv
theorem Fq (g:G){x y:Nat}(h:x*y<18446744073709551616)(hx:x<18446744073709551616)(hy:y<18446744073709551616):S.aT x y=(0,x*y):=by
 have h1:=su (d:=1) (g:=g) (by decide) hx hy
 rw[GB (by decide) h hx hy] at h1
 injection h1 with h1
 injection h1 with h1
 injection h1 with h1 h2
 injection h2 with h2 _
 injection h1 with _ h1
 injection h2 with _ h2
 exact Prod.ext (by omega) (by show _=x*y;omega)
theorem IR {α ν β D M0 M1 M2 M3 T0 T1 T2 T3 a a0 b b0:Int}(hα:0<α)(hν:0<ν)
  (b0':M0*α=T0*β) (b1:M1*α=T1*β) (b2:M2*α=T2*β) (b3:M3*α=T3*β)
  (t0:T0*ν=D*(a*b)) (t1:T1*ν=D*(a0*b0)) (t2:T2*ν=D*(a*b0)) (t3:T3*ν=D*(a0*b)):M0*M1=M2*M3:=by
 have e:∀{M M' T T':Int},M*α=T*β->M'*α=T'*β->(M*M')*(α*α*(ν*ν))=((T*ν)*(T'*ν))*(β*β):=by
  intro M M' T T' h h'
  have h1:(M*M')*(α*α*(ν*ν))=(M*α)*(M'*α)*(ν*ν):=by ac_rfl
  rw[h1,h,h'];ac_rfl
 have k1:=e b0' b1
 have k2:=e b2 b3
 rw[t0,t1] at k1
 rw[t2,t3] at k2
 have h2:D*(a*b)*(D*(a0*b0))=D*(a*b0)*(D*(a0*b)):=by ac_rfl
 rw[h2,<-k2] at k1
 have hp:α*α*(ν*ν)≠0:=by
  have:=Int.mul_pos (Int.mul_pos hα hα) (Int.mul_pos hν hν)
  omega
 exact Int.eq_of_mul_eq_mul_right hp k1
theorem KD {n:Net}(g:G)(hr:NR n)(h5:n.nodes.length<=5){x y z:Nat}(hx:x<2 ^ n.nodes.length)(hy:y<2 ^ n.nodes.length)(hz:z<2 ^ n.nodes.length)(zx:z &&& x=0)(zy:z &&& y=0)(yx:y &&& x=0)
  (hap:Apt (S.ak n) x y z):S.bh n x y z=false:=by
 have hpl:(S.ak n).length=n.nodes.length:=by simp[S.ak]
 have hplt:=qZ hr
 have hu:x ||| y ||| z<2 ^ (S.ak n).length:=by rw[hpl];exact Nat.or_lt_two_pow (Nat.or_lt_two_pow hx hy) hz
 obtain ⟨A,hA⟩:∃A,A=S.up (S.ak n) (x ||| y ||| z) (S.ak n).length:=⟨_,rfl⟩
 have hAn:∀v,A.testBit v=true↔An (Eg (S.ak n)) (Bt (x ||| y ||| z)) v:=fun v=>by rw[hA];exact Ja hplt hu v
 have hAlt:A<2 ^ n.nodes.length:=by
  refine Nat.lt_pow_two_of_testBit _ fun i hi=>?_
  cases hb:A.testBit i with
  | false=>rfl
  | true =>
   obtain ⟨t,ht,hd⟩:=(hAn i).1 hb
   have htl:=qi hu ht
   rw[hpl] at htl
   cases hd with
   | rf=>omega
   | st e _ =>
    have:=(s_ hplt e).1
    omega
 have hcl:∀u,u<n.nodes.length->A.testBit u=true->Sub (Par (S.ak n) u) A:=fun u hu' hb=>by
  have:=r_ hplt hu u (by omega)
  rw[<-hA] at this
  exact this hb
 have hsubA:∀v,(x ||| y ||| z).testBit v=true->A.testBit v=true:=fun v hv=>(hAn v).2 (An.of hv)
 obtain ⟨P,hP⟩:∃P:Nat->Prop,P=Re (Eg (S.ak n)) (Bt z) (Bt x):=⟨_,rfl⟩
 obtain ⟨q,hq⟩:∃q:Nat->Prop,q=fun v=>∃m,(m=v\/Eg (S.ak n) m v)/\P m:=⟨_,rfl⟩
 obtain ⟨AP,hAP⟩:∃AP,AP=S.aq (fun v=>Bt A v/\q v) n.nodes.length:=⟨_,rfl⟩
 obtain ⟨AQ,hAQ⟩:∃AQ,AQ=S.aq (fun v=>Bt A v/\¬q v) n.nodes.length:=⟨_,rfl⟩
 have bP:∀v,AP.testBit v=true↔v<n.nodes.length/\A.testBit v=true/\q v:=fun v=>by rw[hAP,iF];exact Iff.rfl
 have bQ:∀v,AQ.testBit v=true↔v<n.nodes.length/\A.testBit v=true/\¬q v:=fun v=>by rw[hAQ,iF];exact Iff.rfl
 have hAor:A=AP ||| AQ:=by
  refine Nat.eq_of_testBit_eq fun v=>?_
  rw[Bool.eq_iff_iff,Nat.testBit_or,Bool.or_eq_true,bP,bQ]
  constructor
  ·intro h
   have:=qi hAlt h
   by_cases hh:q v
   ·exact .inl ⟨this,h,hh⟩
   ·exact .inr ⟨this,h,hh⟩
  ·rintro (⟨_,h,_⟩ | ⟨_,h,_⟩)<;>exact h
 have hAand:AP &&& AQ=0:=ii.2 fun v ⟨h1,h2⟩=>((bQ v).1 h2).2.2 ((bP v).1 h1).2.2
 have hAe:∀f:Nat->Int,S.pT A n.nodes.length f=S.pT AP n.nodes.length f*S.pT AQ n.nodes.length f:=fun f=>by
  rw[<-Cs hAand,<-hAor]
 have hgP:∀u v,AP.testBit u=true->(v=u\/Eg (S.ak n) v u)->z.testBit v=false->P v:=by
  intro u v hb hv hzv
  obtain ⟨-,h1,h2⟩:=(bP u).1 hb
  rw[hq] at h2
  obtain ⟨m,hm,hpm⟩:=h2
  rw[hP] at hpm ⊢
  refine JU (Y:=Bt y) hap ?_ hm hpm hv (by rw[Bt,hzv];decide)
  refine An.mono (fun w hw=>?_) ((hAn u).1 h1)
  rcases Dc.1 hw with hw | hw
  ·rcases Dc.1 hw with hw | hw
   ·exact .inl hw
   ·exact .inr (.inl hw)
  ·exact .inr (.inr hw)
 have hgQ:∀u v,AQ.testBit u=true->(v=u\/Eg (S.ak n) v u)->¬P v:=by
  intro u v hb hv hpv
  have:=((bQ u).1 hb).2.2
  rw[hq] at this
  exact this ⟨v,hv,hpv⟩
 have hPZ:∀v,P v->z.testBit v=false:=fun v h=>by
  rw[hP] at h
  have:=h.2
  rw[Bt,Bool.not_eq_true] at this
  exact this
 have hxP:∀v,x.testBit v=true->P v:=fun v hv=>by
  rw[hP]
  exact JR (by rw[Nat.and_comm];exact zx) hv
 have hyP:∀v,y.testBit v=true->¬P v:=fun v hv=>by rw[hP];exact hap v hv
 have hyZ:∀v,y.testBit v=true->z.testBit v=false:=fun v hv=>by
  cases h:z.testBit v with
  | false=>rfl
  | true=>exact absurd ⟨h,hv⟩ (ii.1 zy v)
 have hany:∀w:Nat,S.bu n x y z w=false:=by
  intro w
  obtain ⟨ws,hws⟩:∃ws,ws=S.aw (S.aa n) (w:Int):=⟨_,rfl⟩
  have one:∀a b:Nat,(∀v,a.testBit v=true->x.testBit v=true)->(∀v,b.testBit v=true->y.testBit v=true) ->
    ∃T,S.aM n (z ||| a ||| b) w*(S.ae (S.aa n)*S.pT A n.nodes.length (fun _=>n.grain))=T*(S.pT A n.nodes.length (fun u=>(S.aa n)[u]?.getD 0)*S.be n) /\
     T*(S.ae (S.aa n)*S.ae (S.aa n))=S.ah (S.aa n) (fun vs=>S.pT z n.nodes.length (S.dl ws vs))*(S.ah (S.aa n) (fun vs=>S.pT a n.nodes.length (S.dl ws (S.ap z ws vs))*S.pT AP n.nodes.length (S.am n (S.ap z ws vs)))*S.ah (S.aa n) (fun vs=>S.pT b n.nodes.length (S.dl ws (S.ap z ws vs))*S.pT AQ n.nodes.length (S.am n (S.ap z ws vs)))):=by
   intro a b ha hb
   refine ⟨_,?_,KG (P:=P) hr hAe ?_ ?_ hz (fun v hv=>hxP v (ha v hv)) (fun v hv=>hyP v (hb v hv)) (fun v hv=>hyZ v (hb v hv)) hgP hgQ hPZ⟩
   ·rw[Dt hr,<-hws]
    refine JZ hr hAlt hcl fun v hv=>hsubA v ?_
    rw[fY,fY,Bool.or_eq_true,Bool.or_eq_true] at hv ⊢
    rcases hv with (hv | hv) | hv
    ·exact .inr hv
    ·exact .inl (.inl (ha v hv))
    ·exact .inl (.inr (hb v hv))
   ·exact ii.2 fun v ⟨h1,h2⟩=>ii.1 zx v ⟨h1,ha v h2⟩
   ·refine ii.2 fun v ⟨h1,h2⟩=>?_
    rcases Dc.1 h1 with h1 | h1
    ·exact ii.1 zy v ⟨h1,hb v h2⟩
    ·exact ii.1 yx v ⟨hb v h2,ha v h1⟩
  have z0:∀(s:Nat) v,(0:Nat).testBit v=true->s.testBit v=true:=fun s v h=>by rw[Nat.zero_testBit] at h;cases h
  obtain ⟨T0,b0,t0⟩:=one x y (fun _ h=>h) (fun _ h=>h)
  obtain ⟨T1,b1,t1⟩:=one 0 0 (z0 x) (z0 y)
  obtain ⟨T2,b2,t2⟩:=one x 0 (fun _ h=>h) (z0 y)
  obtain ⟨T3,b3,t3⟩:=one 0 y (z0 x) (fun _ h=>h)
  have hN:0<S.ae (S.aa n):=by
   have:=eT (cs:=S.aa n) fun c hc=>(hr.cs c hc).1
   omega
  have hG:0<S.pT A n.nodes.length (fun _=>n.grain):=GO fun _ _ _=>by have:=hr.g1;omega
  have key:=IR (Int.mul_pos hN hG) (Int.mul_pos hN hN) b0 b1 b2 b3 t0 t1 t2 t3
  have s0:z ||| x ||| y=x ||| y ||| z:=by ac_rfl
  have s1:z ||| 0 ||| 0=z:=by simp
  have s2:z ||| x ||| 0=x ||| z:=by rw[Nat.or_zero,Nat.or_comm]
  have s3:z ||| 0 ||| y=y ||| z:=by rw[Nat.or_zero,Nat.or_comm]
  rw[s0,s1,s2,s3] at key
  have bd:∀s,0<=S.aM n s w/\S.aM n s w<=777600000:=fun s=>by
   refine ⟨(sS hr s w).1,Int.le_trans ?_ (Er hr h5)⟩
   rw[<-GN hr]
   exact CZ hr (fun _ _=>rfl) _
  have mm:∀s s',S.aT (S.aM n s w).toNat (S.aM n s' w).toNat=(0,((S.aM n s w)*(S.aM n s' w)).toNat):=by
   intro s s'
   have h1:=bd s
   have h2:=bd s'
   have h3:(S.aM n s w).toNat*(S.aM n s' w).toNat<=777600000*777600000:=Nat.mul_le_mul (by omega) (by omega)
   rw[Fq g (by omega) (by omega) (by omega),<-Int.toNat_mul h1.1 h2.1]
  have d0:S.aG n x y z 0 w=(S.aM n (x ||| y ||| z) w).toNat:=rfl
  have d1:S.aG n x y z 1 w=(S.aM n z w).toNat:=rfl
  have d2:S.aG n x y z 2 w=(S.aM n (x ||| z) w).toNat:=rfl
  have d3:S.aG n x y z 3 w=(S.aM n (y ||| z) w).toNat:=rfl
  rw[S.bu,d0,d1,d2,d3,mm,mm,key]
  simp
 rw[S.bh,List.any_eq_false]
 intro w _
 rw[hany w];decide
def S.bX (x:Nat):Nat->Nat
 | 0=>8
 | k+1=>if x.testBit (7 - k) then 7 - k else S.bX x k
def S.tz (x:Nat):Nat:=S.bX x 8
theorem J6:∀x:Nat,x<256->x≠0->x &&& (18446744073709551616 - x)=2 ^ S.tz x/\S.tz x<8/\x &&& (x - 1)=x ^^^ 2 ^ S.tz x/\x.testBit (S.tz x)=true:=by decide +kernel
def v6:List (List AV):=[[.int .u8 0,.int .u8 1,.int .u8 56,.int .u8 2,.int .u8 57,.int .u8 49,.int .u8 28,.int .u8 3,.int .u8 61,.int .u8 58,.int .u8 42,.int .u8 50,.int .u8 38,.int .u8 29,.int .u8 17,.int .u8 4,.int .u8 62,.int .u8 47,.int .u8 59,.int .u8 36,.int .u8 45,.int .u8 43,.int .u8 51,.int .u8 22,.int .u8 53,.int .u8 39,.int .u8 33,.int .u8 30,.int .u8 24,.int .u8 18,.int .u8 12,.int .u8 5,.int .u8 63,.int .u8 55,.int .u8 48,.int .u8 27,.int .u8 60,.int .u8 41,.int .u8 37,.int .u8 16,.int .u8 46,.int .u8 35,.int .u8 44,.int .u8 21,.int .u8 52,.int .u8 32,.int .u8 23,.int .u8 11,.int .u8 54,.int .u8 26,.int .u8 40,.int .u8 15,.int .u8 34,.int .u8 20,.int .u8 31,.int .u8 10,.int .u8 25,.int .u8 14,.int .u8 19,.int .u8 9,.int .u8 13,.int .u8 8,.int .u8 7,.int .u8 6]]
theorem JI (b:Nat)(hb:b<8):∃i p,bA .shr (.int .u64 (IntKind.u64.wrap (((2 ^ b:Nat):Int)*285870213051353865))) (.int .u64 58)=.val i/\qz 64 1 (.tptr 0 64 v6 0 0) i=.val p/\∀g,mB false 1 p g=.val (.int .u8 (b:Int)):=by
 match b,hb with
 | 0,_=>exact ⟨.int .u64 0,.tptr 0 64 v6 0 0,by kernel_rfl,by kernel_rfl,fun g=>by kernel_rfl⟩
 | 1,_=>exact ⟨.int .u64 1,.tptr 0 64 v6 0 1,by kernel_rfl,by kernel_rfl,fun g=>by kernel_rfl⟩
 | 2,_=>exact ⟨.int .u64 3,.tptr 0 64 v6 0 3,by kernel_rfl,by kernel_rfl,fun g=>by kernel_rfl⟩
 | 3,_=>exact ⟨.int .u64 7,.tptr 0 64 v6 0 7,by kernel_rfl,by kernel_rfl,fun g=>by kernel_rfl⟩
 | 4,_=>exact ⟨.int .u64 15,.tptr 0 64 v6 0 15,by kernel_rfl,by kernel_rfl,fun g=>by kernel_rfl⟩
 | 5,_=>exact ⟨.int .u64 31,.tptr 0 64 v6 0 31,by kernel_rfl,by kernel_rfl,fun g=>by kernel_rfl⟩
 | 6,_=>exact ⟨.int .u64 63,.tptr 0 64 v6 0 63,by kernel_rfl,by kernel_rfl,fun g=>by kernel_rfl⟩
 | 7,_=>exact ⟨.int .u64 62,.tptr 0 64 v6 0 62,by kernel_rfl,by kernel_rfl,fun g=>by kernel_rfl⟩
theorem IQ {d x:Nat}{g:G}(hd:0<d)(hx:x<256)(h0:x≠0):aA C0 d N.aV [.int .u64 (x:Int)] g=.val (.int .i64 (S.tz x:Int)):=by
 obtain ⟨h1,h2,-⟩:=J6 x hx h0
 rw[iU]
 refine np jt (xs:=[.int .u64 (x:Int)]) (by simp only[aG,dT 0]) (by simp[cy]) hd ?_
 have c0:¬(x:Int)=0:=by omega
 have hneg:unV .neg (.int .u64 (x:Int))=.val (.int .u64 ((18446744073709551616 - x:Nat):Int)):=by
  show OR.val (.int .u64 (IntKind.wrap .u64 (0 - (x:Int))))=_
  have:IntKind.wrap .u64 (0 - (x:Int))=((18446744073709551616 - x:Nat):Int):=by
   show (0 - (x:Int)) % 18446744073709551616=_
   omega
  rw[this]
 have hand:bA .and (.int .u64 (x:Int)) (.int .u64 ((18446744073709551616 - x:Nat):Int))=.val (.int .u64 ((2 ^ S.tz x:Nat):Int)):=by
  rw[dm x (18446744073709551616 - x) (by omega) (by omega),h1]
 simp only[sz,simprocAttr,cy,c0,hneg,hand]
 obtain ⟨b,hb⟩:∃b,b=S.tz x:=⟨_,rfl⟩
 rw[<-hb] at h2 ⊢
 clear hand hb h1
 obtain ⟨i,p,t1,t2,t3⟩:=JI b h2
 rw[v6] at t2
 simp only[sz,simprocAttr,t1,t2,t3]
 rw[aH (by omega) (by omega)]
theorem Bg {C:Cfg}{d:Nat}{r:List SR}{t:T}{g:G}{K:AV->G->Prop}{i j:Nat}(hi:g.h.get i=.dfr true)(hj:g.h.get j=.dfr true)(hij:i≠j)(h:qF r t ((g.put i (.dfr false)).put j (.dfr false)) fun vs=>K (eJ vs) ((g.put i (.dfr false)).put j (.dfr false))):oQ C d r t [.mark i,.mark j] g K:=by
 unfold oQ
 have:cW (I C) d [.mark i,.mark j] g=some ((g.put i (.dfr false)).put j (.dfr false)):=by
  have hj':(g.put i (.dfr false)).h.get j=.dfr true:=by simp[H.get_put,show ¬j=i by omega,hj]
  simp only[cW,G.get_eq,hi,hj']
 rw[this];exact h
def S.aB (s:Nat):List Nat:=(List.range 8).filter fun v=>s.testBit v
theorem EL:∀x:Nat,x<256->x≠0->S.aB x=S.tz x::S.aB (x &&& (x - 1))/\x &&& (x - 1)<256:=by decide +kernel
theorem pd {s v:Nat}(hs:s<256):v∈S.aB s↔s.testBit v=true:=by
 rw[S.aB,List.mem_filter,List.mem_range]
 exact ⟨fun h=>h.2,fun h=>⟨qi (n:=8) hs h,h⟩⟩
theorem Kj {d x:Nat}{g:G}(hd:0<d)(hx:x<256)(h0:x≠0):aA C0 d N.aO [.int .u64 (x:Int)] g=.val (.int .i64 (S.tz x:Int)):=by
 rw[jx]
 refine np lj (xs:=[.int .u64 (x:Int)]) (by simp only[aG,dT 0]) (by simp[cN]) hd ?_
 have k:=fun g=>IQ (d:=d+1) (g:=g) (Nat.succ_pos d) hx h0
 simp only[sz,simprocAttr,cN,k]
def MbV (s:Nat):VS:=fun P k h v=>∃p,v=.clo N.an [] [p]/\((∃id,p=.hptr id 0 0 0/\P id/\h.get id=.cells 1 [[.int .u64 (s:Int)]] 0 false false)\/∃t,p=.tptr t 1 [[.int .u64 (s:Int)]] 0 0/\t<=k)
theorem HW {h:H}{id:Nat}{x:AV}{k:IntKind}{q:Int}(hx:x=.int k q)(d j:Nat)(hg:h.get id=.cells 1 [[x]] 0 false false):Hx.snap h d (j+3) (.hptr id 0 0 0)=some (.tptr (Nat.max d 0) 1 [[x]] 0 0):=by
 subst hx
 simp only[Hx.snap,hg,show Nat.beq 0 0=true from rfl,aG]
 rfl
theorem Kn (s:Nat):Snb (MbV s) 4:=by
 refine ⟨fun {P k h v j} d r hn=>?_,fun {k h v j} r hn=>?_⟩
 ·obtain ⟨p,rfl,r1⟩:=r
  obtain ⟨j,rfl⟩:∃i,j=i+4:=⟨j - 4,by omega⟩
  obtain ⟨p',e1,s1⟩:∃p',Hx.snap h d (j+3) p=some p'/\∃t,p'=.tptr t 1 [[.int .u64 (s:Int)]] 0 0/\t<=max k d:=by
   rcases r1 with ⟨id,rfl,-,hg⟩ | ⟨t,rfl,ht⟩
   ·exact ⟨_,HW rfl d j hg,_,rfl,by show max d 0<=_;omega⟩
   ·exact ⟨_,rfl,_,rfl,by omega⟩
  refine ⟨.clo N.an [] [p'],?_,p',rfl,.inr s1⟩
  show (match aG (Hx.snap h d (j+3)) [],aG (Hx.snap h d (j+3)) [p] with | some as',some cs=>some (AV.clo N.an as' cs) | _,_=>none)=_
  simp only[aG,e1]
 ·obtain ⟨p,rfl,r1⟩:=r
  obtain ⟨j,rfl⟩:∃i,j=i+4:=⟨j - 4,by omega⟩
  rcases r1 with ⟨id,rfl,hP,-⟩ | ⟨t,rfl,ht⟩
  ·exact hP.elim
  exact ⟨Nat.max t 0,rfl,by show max t 0<=k;omega⟩
def mbC (s:Nat):AV:=.clo N.an [] [.tptr 0 1 [[.int .u64 (s:Int)]] 0 0]
theorem nG {d s:Nat}{g:G}(hd:0<d):aA C0 d N.ae [.int .u64 (s:Int)] g=.val (mbC s):=by
 have key:∃r,aA C0 d N.ae [.int .u64 (s:Int)] g=.val r/\MbV s NoP 0 .nil r:=by
  rw[nZ]
  refine bD pV (xs:=[.int .u64 (s:Int)]) rfl (by simp[fL]) (Kn s) (by decide) hd ?_
  simp only[sz,simprocAttr,fL,i4]
  exact ⟨fun _=>True,_,rfl,.inl ⟨0,rfl,trivial,by simp[sx]⟩⟩
 obtain ⟨r,h1,p,rfl,h2⟩:=key
 rcases h2 with ⟨id,rfl,hP,-⟩ | ⟨t,rfl,ht⟩
 ·exact hP.elim
 rw[h1,show t=0 by omega];rfl
theorem H_ {d id s:Nat}{g0:G}{K:AV->G->Prop}(hd:0<d)(hs:s<256)(J:Nat->H->Prop)
  (step:∀(j v:Nat) (g:G) (K':AV->G->Prop) (D:ADf->Prop),(S.aB s)[j]?=some v->g0.nx<=g.nx->J j g.h ->
   (∀g',J (j+1) g'.h->g.nx<=g'.nx->K' (.bool true) g')->(cj (I C0) d id [.int .i64 (v:Int)] g).sat K' g D)
  (h0:J 0 g0.h) (fin:∀g',J (S.aB s).length g'.h->g0.nx<=g'.nx->K (.tup []) g') :
  wp C0 d none bm.code (fnQ C0 d bm.res K) (bY 0 [.yld id,.tptr 0 1 [[.int .u64 (s:Int)]] 0 0] .nil) [] g0:=by
 simp only[sz,simprocAttr,bm,iC]
 refine nH (fun n t df g=>df=[]/\∃j x:Nat,n=(S.aB s).length - j/\j<=(S.aB s).length/\x<256/\S.aB x=(S.aB s).drop j/\St t [(0,.yld id),(3,.int .u64 (x:Int))]/\J j g.h/\g0.nx<=g.nx) (S.aB s).length
  ⟨rfl,0,s,by omega,by omega,hs,by simp,by simp[St,sx],h0,Nat.le_refl _⟩ ?_
 rintro n t df g ⟨rfl,j,x,rfl,hj,hx,hm,⟨t0,t3,-⟩,hJ,hn⟩
 simp only[gk]
 by_cases hx0:x=0
 ·have hjl:j=(S.aB s).length:=by
   have:(S.aB x).length=0:=by rw[hx0];rfl
   rw[hm,List.length_drop] at this
   omega
  subst hx0
  simp only[sz,simprocAttr,t0,t3]
  rw[hjl] at hJ
  exact fin g hJ hn
 ·obtain ⟨e1,e2⟩:=EL x hx hx0
  have c0:¬(x:Int)=0:=by omega
  have k:=fun g=>Kj (d:=d) (g:=g) hd hx hx0
  have hv:(S.aB s)[j]?=some (S.tz x):=by
   have:((S.aB s).drop j)[0]?=some (S.tz x):=by rw[<-hm,e1];rfl
   rwa [List.getElem?_drop] at this
  simp only[sz,simprocAttr,t0,t3,c0,k]
  show (cj (I C0) d id [.int .i64 (S.tz x:Int)] g).sat _ _ _
  refine step j (S.tz x) g _ _ hv hn hJ (fun g' hJ' hn'=>?_)
  have w1:IntKind.wrap .u64 ((x:Int) - 1)=((x - 1:Nat):Int):=by rw[lF (by omega) (by omega)];omega
  have w2:bA .and (.int .u64 (x:Int)) (.int .u64 ((x - 1:Nat):Int))=.val (.int .u64 ((x &&& (x - 1):Nat):Int)):=dm x (x - 1) (by omega) (by omega)
  simp only[sz,simprocAttr,t0,t3,w1,w2]
  have hjl:j<(S.aB s).length:=(List.getElem?_eq_some_iff.1 hv).1
  refine ⟨(S.aB s).length - (j+1),by omega,j+1,x &&& (x - 1),rfl,by omega,e2,?_,by simp[St,sx,t0],hJ',by omega⟩
  have h3:(S.aB x).tail=((S.aB s).drop j).tail:=by rw[hm]
  rw[e1,List.tail_drop] at h3
  exact h3
theorem Dv:C0.ext N.an=none:=by kernel_rfl
theorem xK {d nt y p s:Nat}{ca cb:SC}{Q:QT}{t:T}{df:List ADf}{g:G}(hd:0<d)(hs:s<256)(hv:tat t y=mbC s)(hp:p<nt)
  (J:Nat->H->Prop) (hJ:∀j h h',(∀i,i<g.nx->h'.get i=h.get i)->J j h->J j h') (h0:J 0 g.h)
  (step:∀(j v:Nat) (g1:G),(S.aB s)[j]?=some v->J j g1.h->g.nx+2<=g1.nx ->
   wp C0 d (some (g.nx+1)) ca (fun e t1 df g1'=>e=.norm/\df=[]/\g1'=g1/\∀g2:G,g2.nx=g1.nx->(∀i,i≠g.nx+1->g2.h.get i=g1.h.get i) ->
    wp C0 d (some (g.nx+1)) cb (fun e _ df g3=>df=[]/\RowQ g.nx g2 g3 e (J (j+1) g3.h) False) t1 [] g2)
    (dW t p (.int .i64 (v:Int))) [] g1)
  (fin:∀g',J (S.aB s).length g'.h->g.nx+2<=g'.nx->g'.h.get g.nx=.dfr true->Q .norm t (.mark g.nx::df) g') :
  wp C0 d none (.rng nt (.t y) [p] ca cb) Q t df g:=by
 refine qQ (fn:=N.an) (first:=[]) (cap:=[.tptr 0 1 [[.int .u64 (s:Int)]] 0 0]) (s:=bm) hv Dv od (by simp[bm]) ?_
 intro assign body ha hb
 have e1:((g.new (.dfr true)).new (.loop nt t [p] assign body g.nx .ready none)).nx=g.nx+2:=by simp
 refine H_ (g0:=(g.new (.dfr true)).new (.loop nt t [p] assign body g.nx .ready none)) (id:=g.nx+1) hd hs
  (fun j h=>J j h/\h.get g.nx=.dfr true/\h.get (g.nx+1)=.loop nt t [p] assign body g.nx .ready none) ?_ ?_ ?_
 ·rintro j v g1 K' D hj hn ⟨a1,a2,a3⟩ kk
  rw[e1] at hn
  refine wC a3 ha hb (t':=dW t p (.int .i64 (v:Int))) ?_ ?_
  ·simp only[cG,aa,Nat.blt_eq,if_pos hp];rfl
  ·refine cJ _ (step j v g1 hj a1 (by omega)) ?_
   rintro e t1 df g1' ⟨rfl,rfl,rfl,h⟩
   refine ⟨rfl,rfl,rfl,?_⟩
   have hl:g.nx+1<g1'.nx:=by omega
   refine cJ _ (h (g1'.put (g.nx+1) (.loop nt t [p] assign body g.nx .busy none)) (by simp) (fun i hi=>by simp[H.get_put,hi])) ?_
   rintro e t2 df g3 ⟨rfl,⟨b2,b3,b1⟩⟩
   have b4:g3.h.get (g.nx+1)=.loop nt t [p] assign body g.nx .busy none:=by rw[b3 _ (by omega) (by simpa using hl)];simp[H.get_put]
   have b5:g3.h.get g.nx=.dfr true:=by
    rw[b3 _ (by omega) (by simp;omega)];simp[H.get_put,a2]
   refine ⟨rfl,b4,?_⟩
   rcases b1 with ⟨rfl,b1⟩ | ⟨rfl,b1⟩
   ·refine .inl ⟨rfl,kk _ ⟨hJ _ g3.h _ (fun i hi=>by simp[H.get_put,show ¬i=g.nx+1 by omega]) b1,?_,?_⟩ (by simpa using b2)⟩
    ·simp[H.get_put,b5]
    ·simp[H.get_put]
   ·exact b1.elim
 ·refine ⟨hJ 0 g.h _ (fun i hi=>?_) h0,?_,?_⟩
  ·simp[H.get_put,show ¬i=g.nx+1 by omega,show ¬i=g.nx by omega]
  ·simp[H.get_put]
  ·simp[H.get_put]
 ·rintro g' ⟨a1,a2,a3⟩ hn
  rw[e1] at hn
  refine ⟨_,_,_,_,_,_,.inl ⟨a3,fin _ (hJ _ g'.h _ (fun i hi=>by simp[H.get_put,show ¬i=g.nx+1 by omega]) a1) (by simpa using hn) ?_⟩⟩
  simp[H.get_put,a2]
def sk (s:Nat×Bool):AV:=.agg [.int .i64 (s.1:Int),.bool s.2]
theorem Jn (a b:Nat×Bool):fW (sk a) (sk b)=some (decide (a=b)):=by
 obtain ⟨a1,a2⟩:=a
 obtain ⟨b1,b2⟩:=b
 have e:fW (sk (a1,a2)) (sk (b1,b2))=some (ak (Bu (a1:Int) (b1:Int)) (ak (a2 == b2) true false) false):=by
  cases a2<;>cases b2<;>rfl
 rw[e,pH]
 by_cases h1:a1=b1
 ·subst h1
  cases a2<;>cases b2<;>simp[ak]
 ·have:¬(a1:Int)=(b1:Int):=by omega
  simp[h1,this,ak]
def bcl (L:List (Nat×Bool)):List (AV×AV):=L.map fun s=>(sk s,.bool true)
theorem BC (s:Nat×Bool):∀L:List (Nat×Bool),ia (sk s) (bcl L)=some (if s∈L then some (.bool true) else none)
 | []=>rfl
 | a::r=>by
  rw[bcl,List.map_cons,ia,Jn]
  by_cases e:s=a
  ·subst e;simp
  ·have ih:=BC s r
   rw[bcl] at ih
   simp only[decide_eq_false e]
   rw[ih]
   simp[e]
theorem Gq {s:Nat×Bool}:∀{L:List (Nat×Bool)},s ∉ L->uj (sk s) (.bool true) (bcl L)=some (bcl (L++[s]))
 | [],_=>rfl
 | a::r,h=>by
  rw[bcl,List.map_cons,uj,Jn]
  have e:s≠a:=fun e=>h (e ▸ List.mem_cons_self ..)
  have ih:=Gq (L:=r) fun h'=>h (List.mem_cons_of_mem _ h')
  rw[bcl] at ih
  rw[show decide (s=a)=false from decide_eq_false e]
  show (match uj (sk s) (AV.bool true) (List.map (fun s=>(sk s,AV.bool true)) r) with | some r=>some ((sk a,AV.bool true)::r) | none=>none)=_
  rw[ih]
  rfl
def ktS:Nat:=match C0.P.underlying 144 with | some (.map k _)=>k | _=>0
theorem Js:C0.P.underlying 144=some (.map ktS 4):=by kernel_rfl
theorem KJ (s:Nat×Bool):iL (bE C0.P ktS) (sk s)=true:=by
 have e:bE C0.P ktS=.flat [.int .i64,.bool]:=by kernel_rfl
 rw[e];rfl
theorem J7:o7 C0.P 4=some (.bool false):=by kernel_rfl
theorem JA (d:Nat)(rd:Option Nat)(t:T)(g:G):(bM C0 (.makeMap 144 none)).run (I C0) d rd t g=.upd (.hmap g.nx) (g.new (.map [])):=by kernel_rfl
theorem Fh {d:Nat}{rd:Option Nat}{t:T}{g:G}{a b id:Nat}{s:Nat×Bool}{L:List (Nat×Bool)}(h1:tat t a=.hmap id)(h2:tat t b=sk s)(hg:g.h.get id=.map (bcl L)):(bM C0 (.lookup 144 (.tmp a) (.tmp b) false)).run (I C0) d rd t g=.val (.bool (decide (s∈L))):=by
 have:=uC (C:=C0) (a:=a) (b:=b) (ok:=false) Js J7 d rd t g
 rw[show (SO.raw (.lookup 144 (.tmp a) (.tmp b) false)).run C0 d rd t g=(bM C0 (.lookup 144 (.tmp a) (.tmp b) false)).run (I C0) d rd t g from rfl] at this
 rw[this]
 unfold bC
 simp only[h1,h2,KJ,G.get_eq,hg,BC]
 by_cases h:s∈L
 ·simp[h,ak]
 ·simp[h,ak]
theorem Fz {C:Cfg}{ty kt et a b:Nat}(hu:C.P.underlying ty=some (.map kt et))(d:Nat)(rd:Option Nat)(t:T)(g:G):(bM C (.mapUpdate ty (.tmp a) (.tmp b) (.const (.bool true)))).run (I C) d rd t g=bg (bE C.P kt) (fun t=>tat t a) (fun t=>tat t b) (fun _=>.bool true) t g:=by
 obtain ⟨s1,e1,r1⟩:=aO (C:=C) (x:=.tmp a) (o:=.t a) rfl
 obtain ⟨s2,e2,r2⟩:=aO (C:=C) (x:=.tmp b) (o:=.t b) rfl
 obtain ⟨s3,e3,r3⟩:=aO (C:=C) (x:=.const (.bool true)) (o:=.k (.bool true)) rfl
 rw[bi (s:=⟨bg (bE C.P kt) s1.run s2.run s3.run⟩) rfl (by simp only[bI,e1,e2,e3,hu])]
 rw[show s1.run=fun t=>tat t a from funext r1,show s2.run=fun t=>tat t b from funext r2,show s3.run=fun _=>.bool true from funext r3]
theorem KI {d:Nat}{rd:Option Nat}{t:T}{g:G}{a b id:Nat}{s:Nat×Bool}{L:List (Nat×Bool)}(h1:tat t a=.hmap id)(h2:tat t b=sk s)(hg:g.h.get id=.map (bcl L))(hs:s ∉ L):(bM C0 (.mapUpdate 144 (.tmp a) (.tmp b) (.const (.bool true)))).run (I C0) d rd t g=.upd .undef (g.put id (.map (bcl (L++[s])))):=by
 rw[Fz Js]
 unfold bg
 simp only[h1,h2,KJ,G.get_eq,hg,Gq hs]
def Hb:AV:=.clo N.aT [] [.hptr 5 0 0 0,.hptr 1 0 0 0,.hptr 4 0 0 0,.hptr 0 0 0 0,.hptr 6 0 0 0,.hptr 2 0 0 0]
structure GrI (p c:List Nat) (pa ch:AV) (Zs:Nat):Prop where
 hp:∀x∈p,x<2 ^ p.length
 n8:p.length<=8
 rp:∀h,af h 1 pa=some (p.map cu)
 rc:∀h,af h 1 ch=some (c.map cu)
 yp:0<p.length->ph pa=true
 yc:0<p.length->ph ch=true
 cl:c.length=p.length
 cb:∀v u,(c[v]?.getD 0).testBit u=true↔Eg p v u
 zs:Zs<2 ^ p.length
structure VI (p:List Nat) (pa ch:AV) (Zs:Nat) (L:List (Nat×Bool)) (h:H):Prop where
 g0:h.get 0=.cells 2 [[pa,ch]] 0 false false
 z:h.get 1=.cells 1 [[.int .u64 (Zs:Int)]] 0 false false
 a:h.get 2=.cells 1 [[.int .u64 (S.up p Zs p.length:Int)]] 0 false false
 m:h.get 3=.map (bcl L)
 r:h.get 4=.cells 1 [[.int .u64 (S.aq (m9 (Bt Zs) L) p.length:Int)]] 0 false false
 p:h.get 5=.cells 1 [[.hmap 3]] 0 false false
 v:h.get 6=.cells 1 [[Hb]] 0 false false
theorem VI.fr {p:List Nat}{pa ch:AV}{Zs:Nat}{L:List (Nat×Bool)}{h h':H}(hi:VI p pa ch Zs L h)(hh:∀i,i<7->h'.get i=h.get i):VI p pa ch Zs L h' :=
 ⟨by rw[hh 0 (by omega),hi.g0],by rw[hh 1 (by omega),hi.z],by rw[hh 2 (by omega),hi.a],by rw[hh 3 (by omega),hi.m],by rw[hh 4 (by omega),hi.r],by rw[hh 5 (by omega),hi.p],by rw[hh 6 (by omega),hi.v]⟩
theorem GrI.cb8 {p c:List Nat}{pa ch:AV}{Zs:Nat}(h:GrI p c pa ch Zs)(v:Nat):c[v]?.getD 0<256:=by
 have:c[v]?.getD 0<2 ^ p.length:=Nat.lt_pow_two_of_testBit _ fun u hu=>by
  cases hb:(c[v]?.getD 0).testBit u with
  | false=>rfl
  | true =>
   have:=(s_ h.hp ((h.cb v u).1 hb)).2
   omega
 have h2:=Nat.pow_le_pow_right (show 0<2 by decide) h.n8
 omega
theorem GrI.pb8 {p c:List Nat}{pa ch:AV}{Zs:Nat}(h:GrI p c pa ch Zs)(v:Nat):Par p v<256:=by
 have:=uf h.hp (v:=v)
 have h2:=Nat.pow_le_pow_right (show 0<2 by decide) h.n8
 omega
theorem It (d:Nat)(s:AV)(g:G):iN C0 (I C0) d Hb [s] g=orF ((I C0).call d N.aT [s,.hptr 5 0 0 0,.hptr 1 0 0 0,.hptr 4 0 0 0,.hptr 0 0 0 0,.hptr 6 0 0 0,.hptr 2 0 0 0] g):=by kernel_rfl
abbrev RX (p:List Nat)(Zs:Nat):=Sx (Eg p) (Bt Zs) (An (Eg p) (Bt Zs))
def LVs (q:Nat):List (Nat×AV):=[(1,.hptr 5 0 0 0),(2,.hptr 1 0 0 0),(3,.hptr 4 0 0 0),(4,.hptr 0 0 0 0),(5,.hptr 6 0 0 0),(6,.hptr 2 0 0 0),(7,.hptr q 0 0 0)]
def Aj (p:List Nat)(pa ch:AV)(Zs:Nat)(Gd:Nat×Bool->Prop)(d k:Nat):Prop :=
 ∀(L:List (Nat×Bool)) (s:Nat×Bool) (g:G) (K:AV->G->Prop) (D:ADf->Prop),S.aV p.length L<=k->Gd s->(∀s∈L,Gd s)->7<=g.nx->VI p pa ch Zs L g.h ->
  (∀g' L',VI p pa ch Zs L' g'.h->g.nx<=g'.nx->(∀i,7<=i->i<g.nx->g'.h.get i=g.h.get i)->Dst (RX p Zs) Gd L L'->s∈L'->K (.tup []) g') ->
  (iN C0 (I C0) d Hb [sk s] g).sat K g D
structure VJ (p:List Nat) (pa ch:AV) (Zs:Nat) (Gd:Nat×Bool->Prop) (L:List (Nat×Bool)) (b:Bool) (l:List Nat) (g0:G) (j:Nat) (h:H):Prop where
 ex:∃L',VI p pa ch Zs L' h/\Dst (RX p Zs) Gd L L'/\∀i v,i<j->l[i]?=some v->(v,b)∈L'
 fr:∀i,7<=i->i<g0.nx->h.get i=g0.h.get i
theorem GC {p:List Nat}{pa ch:AV}{Zs:Nat}{Gd:Nat×Bool->Prop}{d k q set:Nat}{L:List (Nat×Bool)}{Q:QT}{t:T}{df:List ADf}{g:G}(hd:0<d)(hv:Aj p pa ch Zs Gd d k)(hk:S.aV p.length L<=k)(hs:set<256)
  (hg:∀v∈S.aB set,Gd (v,true)) (hL:∀s∈L,Gd s) (hI:VI p pa ch Zs L g.h) (hn:7<=g.nx) (ht:St t (LVs q)) (hy:tat t 32=mbC set)
  (fin:∀g' L',VI p pa ch Zs L' g'.h->g.nx+2<=g'.nx->g'.h.get g.nx=.dfr true->(∀i,7<=i->i<g.nx->g'.h.get i=g.h.get i)->Dst (RX p Zs) Gd L L'->(∀v∈S.aB set,(v,true)∈L')->Q .norm t (.mark g.nx::df) g') :
  wp C0 d none (.rng 74 (.t 32) [33] bw br) Q t df g:=by
 obtain ⟨h1,h2,h3,h4,h5,h6,h7,-⟩:=ht
 refine xK hd hs hy (by decide) (fun j h=>VJ p pa ch Zs Gd L true (S.aB set) g j h) ?_ ⟨⟨L,hI,Dst.refl hL,fun i v h=>absurd h (Nat.not_lt_zero i)⟩,fun _ _ _=>rfl⟩ ?_ ?_
 ·rintro j h h' hh ⟨⟨L1,i1,i2,i3⟩,f1⟩
  exact ⟨⟨L1,i1.fr fun i hi=>hh i (by omega),i2,i3⟩,fun i h1 h2=>by rw[hh i h2,f1 i h1 h2]⟩
 ·rintro j v g1 hj ⟨⟨L1,i1,i2,i3⟩,f1⟩ hn1
  simp only[sz,simprocAttr,bw]
  intro g2 hn2 hf2
  have i1':VI p pa ch Zs L1 g2.h:=i1.fr fun i hi=>hf2 i (by omega)
  simp only[sz,simprocAttr,br,h5,i1'.v]
  refine hv L1 (v,true) g2 _ _ (Nat.le_trans (tG i2.pre) hk) (hg v (List.mem_of_getElem? hj)) i2.good (by omega) i1' fun g3 L2 j1 j2 j3 j4 j5=>?_
  simp only[sz,simprocAttr]
  refine ⟨j2,fun i a b=>j3 i (by omega) b,.inl ⟨rfl,⟨L2,j1,i2.tr j4,fun i u hi hu=>?_⟩,fun i a b=>?_⟩⟩
  ·by_cases e:i=j
   ·subst e
    rw[hj] at hu
    injection hu with hu
    subst hu
    exact j5
   ·exact j4.pre _ (i3 i u (by omega) hu)
  ·rw[j3 i a (by omega),hf2 i (by omega),f1 i a b]
 ·rintro g' ⟨⟨L1,i1,i2,i3⟩,f1⟩ hn' hdf
  refine fin g' L1 i1 hn' hdf f1 i2 fun v hv=>?_
  obtain ⟨i,hi,e⟩:=List.mem_iff_getElem.1 hv
  exact i3 i v hi (by rw[List.getElem?_eq_getElem hi,e])
theorem FY {p:List Nat}{pa ch:AV}{Zs:Nat}{Gd:Nat×Bool->Prop}{d k q set:Nat}{L:List (Nat×Bool)}{Q:QT}{t:T}{df:List ADf}{g:G}(hd:0<d)(hv:Aj p pa ch Zs Gd d k)(hk:S.aV p.length L<=k)(hs:set<256)
  (hg:∀v∈S.aB set,Gd (v,false)) (hL:∀s∈L,Gd s) (hI:VI p pa ch Zs L g.h) (hn:7<=g.nx) (ht:St t (LVs q)) (hy:tat t 68=mbC set)
  (fin:∀g' L',VI p pa ch Zs L' g'.h->g.nx+2<=g'.nx->g'.h.get g.nx=.dfr true->(∀i,7<=i->i<g.nx->g'.h.get i=g.h.get i)->Dst (RX p Zs) Gd L L'->(∀v∈S.aB set,(v,false)∈L')->Q .norm t (.mark g.nx::df) g') :
  wp C0 d none (.rng 74 (.t 68) [69] bp bu) Q t df g:=by
 obtain ⟨h1,h2,h3,h4,h5,h6,h7,-⟩:=ht
 refine xK hd hs hy (by decide) (fun j h=>VJ p pa ch Zs Gd L false (S.aB set) g j h) ?_ ⟨⟨L,hI,Dst.refl hL,fun i v h=>absurd h (Nat.not_lt_zero i)⟩,fun _ _ _=>rfl⟩ ?_ ?_
 ·rintro j h h' hh ⟨⟨L1,i1,i2,i3⟩,f1⟩
  exact ⟨⟨L1,i1.fr fun i hi=>hh i (by omega),i2,i3⟩,fun i h1 h2=>by rw[hh i h2,f1 i h1 h2]⟩
 ·rintro j v g1 hj ⟨⟨L1,i1,i2,i3⟩,f1⟩ hn1
  simp only[sz,simprocAttr,bp]
  intro g2 hn2 hf2
  have i1':VI p pa ch Zs L1 g2.h:=i1.fr fun i hi=>hf2 i (by omega)
  simp only[sz,simprocAttr,bu,h5,i1'.v]
  refine hv L1 (v,false) g2 _ _ (Nat.le_trans (tG i2.pre) hk) (hg v (List.mem_of_getElem? hj)) i2.good (by omega) i1' fun g3 L2 j1 j2 j3 j4 j5=>?_
  simp only[sz,simprocAttr]
  refine ⟨j2,fun i a b=>j3 i (by omega) b,.inl ⟨rfl,⟨L2,j1,i2.tr j4,fun i u hi hu=>?_⟩,fun i a b=>?_⟩⟩
  ·by_cases e:i=j
   ·subst e
    rw[hj] at hu
    injection hu with hu
    subst hu
    exact j5
   ·exact j4.pre _ (i3 i u (by omega) hu)
  ·rw[j3 i a (by omega),hf2 i (by omega),f1 i a b]
 ·rintro g' ⟨⟨L1,i1,i2,i3⟩,f1⟩ hn' hdf
  refine fin g' L1 i1 hn' hdf f1 i2 fun v hv=>?_
  obtain ⟨i,hi,e⟩:=List.mem_iff_getElem.1 hv
  exact i3 i v hi (by rw[List.getElem?_eq_getElem hi,e])
theorem t_ {s v:Nat}:decide (((s / 2 ^ v &&& 1:Nat):Int)=0) = !s.testBit v:=by
 rw[Nat.and_one_is_mod,Nat.testBit_eq_decide_div_mod_eq]
 have:=Nat.mod_lt (s / 2 ^ v) (show 0<2 by decide)
 by_cases h:s / 2 ^ v % 2=1
 ·rw[h];decide
 ·rw[show s / 2 ^ v % 2=0 by omega];decide
theorem ul {s v:Nat}(h:s<18446744073709551616):bA .and (.int .u64 ((s / 2 ^ v:Nat):Int)) (.int .u64 1)=.val (.int .u64 ((s / 2 ^ v &&& 1:Nat):Int)) :=
 dm (s / 2 ^ v) 1 (Nat.lt_of_le_of_lt (Nat.div_le_self _ _) h) (by decide)
theorem zh {n:Nat}(h:n<=8):2 ^ n<=256:=by
 have:=Nat.pow_le_pow_right (show 0<2 by decide) h
 omega
theorem JL {p c:List Nat}{pa ch:AV}{Zs:Nat}{Gd:Nat×Bool->Prop}{d k q v:Nat}{dn:Bool}{L:List (Nat×Bool)}{Q:QT}{t:T}{df:List ADf}{g:G}(hd:0<d)(hG:GrI p c pa ch Zs)(hv:Aj p pa ch Zs Gd d k)(hk:S.aV p.length L<=k)(hvn:v<p.length)
  (hg:∀u,RX p Zs (v,dn) (u,false)->Gd (u,false)) (hL:∀s∈L,Gd s) (hI:VI p pa ch Zs L g.h) (ht:St t (LVs q)) (hq:g.h.get q=.cells 2 [[.int .i64 (v:Int),.bool dn]] 0 false false) (hq7:7<=q) (hqn:q<g.nx)
  (fin:∀e t' df' g' L',(e=.ret\/e=.norm)->(df'=df\/∃m,df'=.mark m::df/\g'.h.get m=.dfr true/\g.nx<=m)->VI p pa ch Zs L' g'.h->g.nx<=g'.nx->(∀i,7<=i->i<g.nx->g'.h.get i=g.h.get i)->Dst (RX p Zs) Gd L L'->(∀u,RX p Zs (v,dn) (u,false)->(u,false)∈L')->Q e t' df' g') :
  wp C0 d none bo Q t df g:=by
 obtain ⟨h1,h2,h3,h4,h5,h6,h7,-⟩:=ht
 have h256:=zh hG.n8
 have hz:=hG.zs
 have hup:=xS hG.hp hG.zs p.length
 have lq1:aN (.cells 2 [[.int .i64 (v:Int),.bool dn]] 0 false false) 0 0 false 1 0=.val (.int .i64 (v:Int)):=rfl
 have lq2:aN (.cells 2 [[.int .i64 (v:Int),.bool dn]] 0 false false) 0 0 false 1 1=.val (.bool dn):=rfl
 have lg1:aN (.cells 2 [[pa,ch]] 0 false false) 0 0 false 1 0=.val pa:=rfl
 have hpv:p[v]?=some (Par p v):=by simp[Par,List.getElem?_eq_getElem hvn]
 have u1:v<(p.map cu).length:=by simpa using hvn
 have u2:(p.map cu)[v]?=some (cu (Par p v)):=by rw[List.getElem?_map,hpv];rfl
 have hyp:=hG.yp (by omega)
 have kM:=fun g=>nG (d:=d) (s:=Par p v) (g:=g) hd
 obtain ⟨As,hAs⟩:∃As,As=S.up p Zs p.length:=⟨_,rfl⟩
 have hA:=hI.a
 rw[<-hAs] at hA hup
 have hAn:As.testBit v=true↔An (Eg p) (Bt Zs) v:=by rw[hAs];exact Ja hG.hp hG.zs v
 obtain ⟨stop,hstop,hst,hgo⟩:∃stop:Bool,(stop=if dn then !As.testBit v else Zs.testBit v)/\(stop=true->∀u,¬RX p Zs (v,dn) (u,false))/\(stop=false->∀u,Eg p u v->RX p Zs (v,dn) (u,false)):=by
  refine ⟨_,rfl,fun h u hr=>?_,fun h u hu=>?_⟩
  rotate_left
  ·refine .up (fun hd=>?_) (fun hd hz=>?_) hu
   ·rw[if_pos hd,Bool.not_eq_false'] at h
    exact hAn.1 h
   ·subst hd
    rw[if_neg (by decide)] at h
    have:Zs.testBit v=true:=hz
    rw[h] at this;cases this
  cases hr with
  | up a b e =>
   cases dn with
   | true =>
    rw[if_pos rfl,Bool.not_eq_true'] at h
    have:=hAn.2 (a rfl)
    rw[h] at this;cases this
   | false =>
    rw[if_neg (by decide)] at h
    exact b rfl h
 have rest:stop=false->∀t,St t (LVs q)->wp C0 d none (sQ [oF 61 0 4,oF 62 0 61,oL 63 62,oF 64 0 7,oL 65 64,oX 66 63 65,oL 67 66,o 68 (.call N.ae [.t 67])] (.blk 2 (.rng 74 (.t 68) [69] bp bu))) Q t df g:=by
  intro hns t ht
  obtain ⟨h1,h2,h3,h4,h5,h6,h7,-⟩:=ht
  simp only[sz,simprocAttr,h4,h7,hq,lq1,hI.g0,lg1,hG.rp,u1,u2,cu,hyp,kM]
  refine FY (q:=q) (L:=L) (set:=Par p v) hd hv hk (hG.pb8 v) (fun u hu=>?_) hL hI (by omega) (by simp[St,LVs,sx,h1,h2,h3,h4,h5,h6,h7]) (by simp[sx]) ?_
  ·exact hg u (hgo hns u ((pd (hG.pb8 v)).1 hu))
  ·intro g' L' hI' hn' hdf hfr hD hall
   simp only[sz,simprocAttr]
   exact fin .norm _ _ g' L' (.inr rfl) (.inr ⟨g.nx,rfl,hdf,Nat.le_refl _⟩) hI' (by omega) hfr hD fun u hu=>hall u ((pd (hG.pb8 v)).2 (by cases hu with | up _ _ e=>exact e))
 simp only[bo]
 cases dn with
 | true =>
  rw[if_pos rfl] at hstop
  cases hb:As.testBit v with
  | false =>
   rw[hb] at hstop
   simp only[sz,simprocAttr,h2,h4,h6,h7,hq,lq1,lq2,hA,bJ _ _ _ (show As<18446744073709551616 by omega),ul (show As<18446744073709551616 by omega),t_,hb]
   exact fin .ret _ df g L (.inl rfl) (.inl rfl) hI (Nat.le_refl _) (fun _ _ _=>rfl) (Dst.refl hL) fun u hu=>absurd hu (hst hstop u)
  | true =>
   rw[hb] at hstop
   refine eU (P:=fun t' df' g'=>df'=df/\g'=g/\St t' (LVs q)) ?_ ?_
   ·simp only[sz,simprocAttr,h2,h4,h6,h7,hq,lq1,lq2,hA,bJ _ _ _ (show As<18446744073709551616 by omega),ul (show As<18446744073709551616 by omega),t_,hb]
    simp[St,LVs,sx,h1,h2,h3,h4,h5,h6,h7]
   ·rintro t df g ⟨rfl,rfl,ht⟩
    exact rest hstop t ht
 | false =>
  rw[if_neg (by decide)] at hstop
  cases hb:Zs.testBit v with
  | true =>
   rw[hb] at hstop
   simp only[sz,simprocAttr,h2,h4,h6,h7,hq,lq1,lq2,hI.z,bJ _ _ _ (show Zs<18446744073709551616 by omega),ul (show Zs<18446744073709551616 by omega),BK,hb]
   exact fin .ret _ df g L (.inl rfl) (.inl rfl) hI (Nat.le_refl _) (fun _ _ _=>rfl) (Dst.refl hL) fun u hu=>absurd hu (hst hstop u)
  | false =>
   rw[hb] at hstop
   refine eU (P:=fun t' df' g'=>df'=df/\g'=g/\St t' (LVs q)) ?_ ?_
   ·simp only[sz,simprocAttr,h2,h4,h6,h7,hq,lq1,lq2,hI.z,bJ _ _ _ (show Zs<18446744073709551616 by omega),ul (show Zs<18446744073709551616 by omega),BK,hb]
    simp[St,LVs,sx,h1,h2,h3,h4,h5,h6,h7]
   ·rintro t df g ⟨rfl,rfl,ht⟩
    exact rest hstop t ht
theorem sj {α:Type} [Rp α]{k:Nat}{l:List α}{v:AV}(hl:SlR NoP k .nil l v)(h0:0<l.length):ph v=true:=by
 have h:=hl.2
 unfold SlV at h
 split at h
 ·rw[h] at h0;simp at h0
 ·rw[h] at h0;simp at h0
 ·rfl
 ·exact h.1.elim
 ·exact h.elim
def GrV (p:List Nat):VS:=rA (Agg (S.gr p)) (One (if S.bg p then (0:Int) else 70))
structure GrB (pa cv:AV) (q:Nat) (Y:List Nat) (g:G):Prop where
 h0:g.h.get 0=.cells 2 [[.nils,.nils]] 0 false false
 hq:g.h.get q=.cells 2 [[pa,cv]] 0 false false
 hs:Own g 1 cv 1 (Y.map cu)
 q1:1<=q
 qn:q<g.nx
 d1:vid cv≠some q
def LRg (pa:AV)(q:Nat):List (Nat×AV):=[(0,pa),(2,.hptr 0 0 0 0),(4,.hptr q 0 0 0)]
section
variable {d:Nat}{p:List Nat}{pa cv:AV}{q:Nat}
theorem Fw {Q:QT}{t:T}{g:G}{j x:Nat}(n8:p.length<=8)(hx:p[j]?=some x)(hxl:x<18446744073709551616)
  (h0:GrB pa cv q (S.aI p j 0) g) (ht:St t ((28,pa)::(29,.int .i64 (p.length:Int))::(30,.int .i64 (j:Int))::(5,.int .i64 (j:Int))::(6,.int .u64 (x:Int))::LRg pa q)) (h43:tat t 43=.int .i64 0) (h42:tat t 42=.int .i64 (p.length:Int))
  (fin:∀t g',St t ((28,pa)::(29,.int .i64 (p.length:Int))::(30,.int .i64 (j:Int))::(5,.int .i64 (j:Int))::(6,.int .u64 (x:Int))::LRg pa q)->GrB pa cv q (S.aI p j p.length) g'->Q (.exit 2) t [] g'):wpL (wp C0 d none fI) Q t [] g:=by
 have hjl:=(List.getElem?_eq_some_iff.1 hx).1
 simp only[fI]
 refine aS (m:=p.length) (by omega) (fun i t df g'=>df=[]/\St t ((28,pa)::(29,.int .i64 (p.length:Int))::(30,.int .i64 (j:Int))::(5,.int .i64 (j:Int))::(6,.int .u64 (x:Int))::LRg pa q)/\GrB pa cv q (S.aI p j i) g') ⟨rfl,ht,h0⟩ h43 h42 (by decide)
  (by rintro i t df g v s (rfl | rfl | rfl) ⟨a1,⟨b1,b2,b3,b4,b5,b6,b7,b8,-⟩,c1⟩<;>exact ⟨a1,by simp[St,LRg,sx,b1,b2,b3,b4,b5,b6,b7,b8],c1⟩) ?_ ?_
 ·rintro i t df g hi ⟨rfl,⟨h28,h29,h30,h5,h6,h0,h2,h4,-⟩,hB⟩ h43 h42
  obtain ⟨old,hold⟩:∃old,old=S.aq (fun v=>Eg p i v/\(v<j\/v=j/\i<i)) p.length:=⟨_,rfl⟩
  have hst:=EU hi hjl n8 hx
  have hYg:(S.aI p j i)[i]?=some old:=by rw[hold];exact rK hi
  rw[<-hold] at hst
  have hol:old<18446744073709551616:=by
   have:=tS (fun v=>Eg p i v/\(v<j\/v=j/\i<i)) p.length
   have:=zh n8
   omega
  clear hold
  obtain ⟨ad,had⟩:∃ad,ad=(x / 2 ^ i &&& 1)*2 ^ j % 18446744073709551616:=⟨_,rfl⟩
  have hsl:=BJ .i64 (x / 2 ^ i &&& 1) j
  have hadl:ad<18446744073709551616:=by rw[had];exact Nat.mod_lt _ (by decide)
  rw[<-had] at hst hsl
  clear had
  have hYr:((S.aI p j i).map cu)[i]?=some (cu old):=by rw[List.getElem?_map,hYg];rfl
  have hYl:i<((S.aI p j i).map cu).length:=by simp[rI,hi]
  have hsr:=hB.hs.rows
  have hor:=gC old ad hol hadl
  simp only[sz,simprocAttr,sf,h4,h5,h6,h43,hB.hq,hsr,hYl,hYr,cu,bJ _ _ _ hxl,ul hxl,hsl,hor]
  refine cq (v:=cv) (sz:=1) (n:=1) (i:=i) (off:=0) (x:=.int .u64 ((old ||| ad:Nat):Int)) (row':=cu (old ||| ad)) (hB.hs.fr (by simp;omega) fun i _=>by simp) hYr rfl rfl rfl fun g4 hu4 n4 f4=>?_
  rw[show (((S.aI p j i).map cu).set i (cu (old ||| ad)))=(S.aI p j (i+1)).map cu from by rw[<-List.map_set,hst]] at hu4
  have f4':∀i,vid cv≠some i->g4.h.get i=g.h.get i:=fun i hi=>by rw[f4 i hi];simp
  have n4':g.nx<=g4.nx:=by rw[n4];simp;omega
  have q1:=hB.q1
  have qn:=hB.qn
  simp only[sx,sy,↓reduceIte,Nat.reduceEqDiff]
  refine ⟨?_,⟨by simp[St,LRg,sx,h0,h2,h4,h5,h6,h28,h29,h30],⟨?_,?_,?_,q1,?_,hB.d1⟩⟩,h43,h42⟩
  ·simp only[List.reverse_cons,List.reverse_nil,List.nil_append,List.cons_append]
   exact bj [false,false,false,false,false,false,false,false,false,false,false,false,false,true] [] (by simp[All2,am,aD]) (by decide) (by simp)
  ·simp only[bumpG_h]
   rw[f4' 0 fun e=>by have:=(hB.hs.lt e).1;omega,hB.h0]
  ·simp only[bumpG_h]
   rw[f4' q hB.d1,hB.hq]
  ·exact hu4.fr (by simp) fun i _=>by simp
  ·simp;omega
 ·rintro t df g ⟨rfl,ht,h⟩
  exact fin t g ht h
theorem xT {h:H}(hn:¬GOk p):∃P,GrV p P 0 h (.tup [.agg [.nils,.nils],.int .i64 70]):=by
 have hf:=J5 hn
 refine ⟨fun _=>True,_,_,rfl,⟨_,rfl,?_⟩,?_⟩
 ·rw[S.gr,hf]
  exact rh.2 ⟨_,_,rfl,cA.2 ⟨.nils,rfl,by show 0<9223372036854775808;decide,rfl⟩,cA.2 ⟨.nils,rfl,by show 0<9223372036854775808;decide,rfl⟩⟩
 ·rw[hf];exact aX.2 rfl
theorem Gi {Q:QT}{t:T}{g:G}(n8:p.length<=8)(hlt:∀x∈p,x<18446744073709551616)(vl:∀g,gT .slice pa g=.val (.int .i64 (p.length:Int)))(rp:∀h,af h 1 pa=some (p.map cu))(yp:ph pa=true)
  (h0:GrB pa cv q (S.aI p 0 0) g) (ht:St t (LRg pa q)) (h28:tat t 28=pa) (h30:tat t 30=.int .i64 0) (h29:tat t 29=.int .i64 (p.length:Int))
  (bad:∀t g,¬GOk p->g.h.get 0=.cells 2 [[.nils,.nils]] 0 false false->tat t 2=.hptr 0 0 0 0->tat t 3=.int .i64 70->Q .ret t [] g)
  (fin:∀t g,St t (LRg pa q)->GrB pa cv q (S.aI p p.length 0) g->(∀x∈p,x<2 ^ p.length)->Q (.exit 0) t [] g):wpL (wp C0 d none fN) Q t [] g:=by
 simp only[fN,kU]
 refine aS (m:=p.length) (by omega) (fun j t df g'=>df=[]/\St t ((28,pa)::LRg pa q)/\GrB pa cv q (S.aI p j 0) g'/\∀x∈p.take j,x<2 ^ p.length) ⟨rfl,⟨h28,ht⟩,h0,by simp⟩ h30 h29 (by decide)
  (by rintro j t df g v s (rfl | rfl | rfl) ⟨a1,⟨b1,b2,b3,b4,-⟩,c1⟩<;>exact ⟨a1,by simp[St,LRg,sx,b1,b2,b3,b4],c1⟩) ?_ ?_
 ·rintro j t df g hj ⟨rfl,⟨h28,h0,h2,h4,-⟩,hB,hok⟩ h30 h29
  obtain ⟨x,hx,htk,hxm⟩:=aw hj
  have u1:j<(p.map cu).length:=by simpa using hj
  have u2:(p.map cu)[j]?=some (cu x):=by rw[List.getElem?_map,hx];rfl
  have hxl:=hlt x hxm
  by_cases c1:((x / 2 ^ p.length:Nat):Int)=0
  ·have hx2:x<2 ^ p.length:=by
    have h0:x / 2 ^ p.length=0:=by omega
    rcases Nat.div_eq_zero_iff.1 h0 with h | h
    ·exact absurd h (Nat.ne_of_gt (Nat.pow_pos (by decide)))
    ·exact h
   simp only[sz,simprocAttr,h28,h30,rp,u1,u2,cu,vl,h0,bJ _ _ _ hxl,c1]
   refine Fw (pa:=pa) (cv:=cv) (q:=q) n8 hx hxl hB (by simp[St,LRg,sx,h0,h2,h4,h28,h29,h30]) (by simp[sx]) (by simp[sx]) ?_
   rintro t g' ⟨h28,h29,h30,h5,h6,h0,h2,h4,-⟩ hB
   simp only[sz,simprocAttr]
   refine ⟨⟨by simp[St,LRg,sx,h0,h2,h4,h28],by rw[<-F2];exact hB,fun y hy=>?_⟩,h30,h29⟩
   rw[htk] at hy
   rcases List.mem_append.1 hy with h | h
   ·exact hok y h
   ·rw[List.mem_singleton.1 h];exact hx2
  ·simp only[sz,simprocAttr,h28,h30,h2,rp,u1,u2,cu,vl,h0,bJ _ _ _ hxl,c1,hB.h0]
   refine bad _ _ (fun hG=>c1 ?_) (by simp[H.get_put]) (by simp[sx,h2]) (by simp[sx])
   rw[Nat.div_eq_of_lt (hG.hp x hxm)];rfl
 ·rintro t df g ⟨rfl,⟨h28,ht⟩,h,hok⟩
  rw[List.take_length] at hok
  exact fin t g ht h hok
end
end
end Hx
end
section
namespace Hx
open Go
noncomputable section
section
variable {d:Nat}{p:List Nat}{pa cv:AV}{q:Nat}
theorem Gz {Q:QT}{t:T}{g:G}{L:List Nat}{D j0:Nat}(n8:p.length<=8)(hlt:∀x∈p,x<18446744073709551616)(rp:∀h,af h 1 pa=some (p.map cu))(hO:xI p L)(hD:Eq D L)(hG:yw p D)
  (ht:St t ((8,.int .u64 (D:Int))::(64,.int .i64 (p.length:Int))::(65,.int .i64 (j0:Int))::LRg pa q)) (h69:tat t 69=pa) (h71:tat t 71=.int .i64 0) (h70:tat t 70=.int .i64 (p.length:Int))
  (yes:∀t v,St t ((8,.int .u64 ((D ||| S.au v:Nat):Int))::(64,.int .i64 (p.length:Int))::(65,.int .i64 (j0:Int))::LRg pa q)->xI p (L++[v])->Eq (D ||| S.au v) (L++[v])->yw p (D ||| S.au v)->Q (.exit 5) t [] g)
  (no:∀t,St t (LRg pa q)->(∀v,v<p.length->D.testBit v=true\/¬Sub (Par p v) D)->Q (.exit 6) t [] g):wpL (wp C0 d none fH) Q t [] g:=by
 simp only[fH]
 refine aS (m:=p.length) (by omega) (fun j t df g'=>df=[]/\g'=g/\St t ((69,pa)::(8,.int .u64 (D:Int))::(64,.int .i64 (p.length:Int))::(65,.int .i64 (j0:Int))::LRg pa q)/\∀v,v<j->D.testBit v=true\/¬Sub (Par p v) D)
  ⟨rfl,rfl,⟨h69,ht⟩,fun v hv=>by omega⟩ h71 h70 (by decide)
  (by rintro j t df g v s (rfl | rfl | rfl) ⟨a1,a2,⟨b1,b2,b3,b4,b5,b6,b7,-⟩,c1⟩<;>exact ⟨a1,a2,by simp[St,LRg,sx,b1,b2,b3,b4,b5,b6,b7],c1⟩) ?_ ?_
 ·rintro j t df g' hj ⟨rfl,rfl,⟨h69,h8,h64,h65,h0,h2,h4,-⟩,hall⟩ h71 h70
  obtain ⟨x,hx,-,hxm⟩:=aw hj
  have hpj:Par p j=x:=by simp[Par,hx]
  have hxl:=hlt x hxm
  have u1:j<(p.map cu).length:=by simpa using hj
  have u2:(p.map cu)[j]?=some (cu x):=by rw[List.getElem?_map,hx];rfl
  have b3:=jZ x D hxl hD.1
  have next:(D.testBit j=true\/¬Sub (Par p j) D)->∀v,v<j+1->D.testBit v=true\/¬Sub (Par p v) D:=fun h v hv=>by
   by_cases e:v=j
   ·subst e;exact h
   ·exact hall v (by omega)
  cases hb:D.testBit j with
  | true =>
   simp only[sz,simprocAttr,h69,h71,h8,rp,u1,u2,cu,bJ _ _ _ hD.1,ul hD.1,t_,hb]
   exact ⟨⟨by simp[St,LRg,sx,h0,h2,h4,h8,h64,h65,h69],next (.inl hb)⟩,h70⟩
  | false =>
   by_cases c2:((x ^^^ (x &&& D):Nat):Int)=0
   ·have hd0:S.bB x D=0:=by simpa [S.bB] using c2
    have hsub:=pL.1 hd0
    have hjL:j ∉ L:=fun h=>by
     have:=(hD.2 j).2 h
     rw[hb] at this;cases this
    have hone:bA .shl (.int .u64 1) (.int .i64 (j:Int))=.val (.int .u64 (S.au j:Int)):=gg .i64 j
    simp only[sz,simprocAttr,h69,h71,h8,rp,u1,u2,cu,bJ _ _ _ hD.1,ul hD.1,t_,hb,b3,c2,hone,gC _ _ hD.1 (oR j)]
    refine yes _ j (by simp[St,LRg,sx,h0,h2,h4,h64,h65]) (wj hO hjL hj fun u hu=>?_) (xi hD (by omega)) (uG hG (by omega) (by rw[hpj];exact hsub))
    rw[hpj] at hu;exact (hD.2 u).1 (hsub u hu)
   ·have hns:¬Sub (Par p j) D:=fun h=>c2 (by
     have:=pL.2 h
     rw[hpj] at this
     simp[S.bB] at this
     simp[this])
    simp only[sz,simprocAttr,h69,h71,h8,rp,u1,u2,cu,bJ _ _ _ hD.1,ul hD.1,t_,hb,b3,c2]
    exact ⟨⟨by simp[St,LRg,sx,h0,h2,h4,h8,h64,h65,h69],next (.inr hns)⟩,h70⟩
 ·rintro t df g' ⟨rfl,rfl,⟨-,-,-,-,ht⟩,hall⟩
  exact no t ht hall
theorem F5 {Q:QT}{t:T}{g:G}(n8:p.length<=8)(hp:∀x∈p,x<2 ^ p.length)(hlt:∀x∈p,x<18446744073709551616)(vl:∀g,gT .slice pa g=.val (.int .i64 (p.length:Int)))(rp:∀h,af h 1 pa=some (p.map cu))
  (hB:GrB pa cv q (S.bz p) g) (ht:St t ((8,.int .u64 0)::LRg pa q)) (h65:tat t 65=.int .i64 0) (h64:tat t 64=.int .i64 (p.length:Int))
  (bad:∀t g,¬GOk p->g.h.get 0=.cells 2 [[.nils,.nils]] 0 false false->tat t 2=.hptr 0 0 0 0->tat t 3=.int .i64 70->Q .ret t [] g)
  (fin:∀t,St t (LRg pa q)->S.aZ p=true->Q (.exit 4) t [] g):wpL (wp C0 d none fK) Q t [] g:=by
 simp only[fK,kK]
 refine aS (m:=p.length) (by omega) (fun j t df g'=>df=[]/\g'=g/\∃(L:List Nat) (D:Nat),L.length=j/\xI p L/\Eq D L/\yw p D/\St t ((8,.int .u64 (D:Int))::LRg pa q))
  ⟨rfl,rfl,[],0,rfl,⟨by simp,by simp⟩,⟨by decide,by simp⟩,sE,ht⟩ h65 h64 (by decide)
  (by rintro j t df g v s (rfl | rfl | rfl) ⟨a1,a2,L,D,a3,a4,a5,a6,⟨b1,b2,b3,b4,-⟩⟩<;>exact ⟨a1,a2,L,D,a3,a4,a5,a6,by simp[St,LRg,sx,b1,b2,b3,b4]⟩) ?_ ?_
 ·rintro j t df g' hj ⟨rfl,rfl,L,D,hL,hO,hD,hG,h8,h0,h2,h4,-⟩ h65 h64
  have lg1:aN (.cells 2 [[pa,cv]] 0 false false) 0 0 false 1 0=.val pa:=rfl
  simp only[sz,simprocAttr,h4,hB.hq,lg1,vl]
  refine Gz (pa:=pa) (q:=q) (L:=L) (D:=D) (j0:=j) n8 hlt rp hO hD hG (by simp[St,LRg,sx,h0,h2,h4,h8,h64,h65]) (by simp[sx]) (by simp[sx]) (by simp[sx]) ?_ ?_
  ·rintro t v ⟨h8,h64,h65,ht⟩ hO2 hD2 hG2
   simp only[sz,simprocAttr]
   exact ⟨⟨L++[v],D ||| S.au v,by simp[hL],hO2,hD2,hG2,h8,ht⟩,h65,h64⟩
  ·rintro t ⟨h0,h2,h4,-⟩ hall
   simp only[sz,simprocAttr,kW,h2,hB.h0]
   refine bad _ _ (fun hg=>?_) (by simp[H.get_put]) (by simp[sx,h2]) (by simp[sx])
   obtain ⟨v0,hv0,hv0'⟩:=Co hO (by omega)
   have:=jC hp hg.ac (T:=D) (fun v hv hb=>by
    rcases hall v hv with h | h
    ·rw[h] at hb;cases hb
    ·exact h) v0 hv0
   exact hv0' ((hD.2 v0).1 this)
 ·rintro t df g' ⟨rfl,rfl,L,D,hL,hO,hD,hG,-,ht⟩
  have hfull:=wK hO (by omega)
  exact fin t ht (nE hG fun v hv=>(hD.2 v).2 (hfull.1 v hv))
theorem IJ {a b:AV}{i:Nat}(ha:ph a=true)(hb:vid b=some i):dk [.nils,.nils] [((0,1),.agg [a]),((1,1),b)]=some [a,b]:=by
 cases b<;>first | rfl | cases hb
theorem Gb {g:G}{v':AV}(hd:0<d)(hv:SlR NoP 0 .nil p v'):∃z,aA C0 d N.aN [v'] g=.val z/\GrV p NoP 0 .nil z:=by
 have r1:∀h,SlR NoP 0 h p v':=fun h=>hv.tree (Nat.le_refl 0)
 have e:=tD (h:=g.h) d (r1 g.h)
 have hlt:=nJ hv
 rw[qR]
 refine bD rZ (xs:=[v']) (by simp only[aG,e]) (by simp[dF]) (eI (m:=2) (gu _) (bc _) (by decide) (by decide)) (by decide) hd ?_
 have vl:∀g,gT .slice v' g=.val (.int .i64 (p.length:Int)):=fun g=>(r1 .nil).len g
 have ra:∀h,af h 1 v'=some (p.map cu):=fun h=>(r1 h).nats
 by_cases c1:p.length<1
 ·simp only[sz,simprocAttr,dF,dV,vl,show ((p.length:Int)<1) from by omega]
  exact xT (fun h=>by have:=h.l1;omega)
 by_cases c2:8<p.length
 ·simp only[sz,simprocAttr,dF,dV,vl,show ¬((p.length:Int)<1) from by omega,show ((8:Int)<p.length) from by omega]
  exact xT (fun h=>by have:=h.l8;omega)
 have yp:ph v'=true:=sj (r1 .nil) (by omega)
 have fl:dk [.nils] [((0,1),v')]=some [v']:=by cases v'<;>first | rfl | cases yp
 simp only[sz,simprocAttr,dF,dV,vl,show ¬((p.length:Int)<1) from by omega,show ¬((8:Int)<p.length) from by omega,fl]
 refine q8 (b:=1) (n:=p.length) (bytes:=8) (sz:=1) (zero:=[.int .u64 0]) (by unfold bh;omega) (by unfold bh;omega) ?_ fun cv g1 hu n1 f1 hvid=>?_
 ·simp
 have fl2:dk [.nils,.nils] [((0,1),.agg [v']),((1,1),cv)]=some [v',cv]:=IJ yp hvid
 have n1':g1.nx=2:=by rw[n1];rfl
 simp only[sz,simprocAttr,fl2,n1']
 have hB:GrB v' cv 2 (S.aI p 0 0) ((g1.new (.cells 2 [[.nils,.nils]] 0 false false)).put 2 (.cells 2 [[v',cv]] 0 false false)):=by
  have hne:vid cv≠some 2:=fun e=>by have:=(hu.lt e).2;omega
  refine ⟨?_,by simp[H.get_put],?_,by decide,by simp[n1'],hne⟩
  ·simp[H.get_put,n1']
   rw[f1 0 (by decide)];rfl
  ·rw[FS,List.map_replicate]
   refine hu.fr (by simp) fun i hi=>?_
   have:=(hu.lt hi).2
   simp[H.get_put,n1',show ¬i=2 by omega]
 obtain ⟨g2,hg2⟩:∃g2,g2=((g1.new (.cells 2 [[.nils,.nils]] 0 false false)).put 2 (.cells 2 [[v',cv]] 0 false false)):=⟨_,rfl⟩
 rw[<-hg2] at hB ⊢
 clear hg2 hu f1 hvid n1' n1
 simp only[sz,simprocAttr,vl]
 refine Gi (pa:=v') (cv:=cv) (q:=2) (by omega) hlt vl ra yp hB (by simp[St,LRg,sx]) (by simp[sx]) (by simp[sx]) (by simp[sx]) ?_ ?_
 ·intro t g hn a1 a2 a3
  simp only[sz,simprocAttr,a1,a2,a3]
  exact xT hn
 ·rintro t g ⟨h0,h2,h4,-⟩ hB hp
  rw[HK] at hB
  have lg1:aN (.cells 2 [[v',cv]] 0 false false) 0 0 false 1 0=.val v':=rfl
  simp only[sz,simprocAttr,j7,h4,hB.hq,lg1,vl]
  refine F5 (pa:=v') (cv:=cv) (q:=2) (by omega) hp hlt vl ra hB (by simp[St,LRg,sx,h0,h2,h4]) (by simp[sx]) (by simp[sx]) ?_ ?_
  ·intro t g hn a1 a2 a3
   simp only[sz,simprocAttr,a1,a2,a3]
   exact xT hn
  ·rintro t ⟨h0,h2,h4,-⟩ hac
   have hG:S.bg p=true:=rO.2 ⟨by omega,by omega,hp,hac⟩
   have hs2:Own (g.put 0 (.cells 2 [[v',cv]] 0 false false)) 1 cv 1 ((S.bz p).map cu):=hB.hs.fr (by simp) fun i hi=>by
    have:=(hB.hs.lt hi).1
    simp[H.get_put,show ¬i=0 by omega]
   have hsl:=hs2.nats' (by rw[yA];omega) fun y hy=>by
    obtain ⟨u,-,rfl⟩:=List.mem_map.1 hy
    have:=tS (Eg p u) p.length
    have:=zh (show p.length<=8 by omega)
    omega
   have hld:aN (.cells 2 [[v',cv]] 0 false false) 0 0 true 2 0=.val (.agg [v',cv]):=rfl
   simp only[sz,simprocAttr,ko,h2,h4,hB.hq,hB.h0,hld]
   refine ⟨fun _=>True,_,_,rfl,⟨_,rfl,?_⟩,?_⟩
   ·rw[S.gr,hG]
    exact rh.2 ⟨[v'],[cv],rfl,cA.2 ⟨v',rfl,(r1 .nil).wide (Nat.le_refl _)⟩,cA.2 ⟨cv,rfl,hsl⟩⟩
   ·rw[hG];exact aX.2 rfl
end
end
end Hx
end
section
namespace Hx
open Go
noncomputable section
def S.aN (n:Nat):List Nat->Nat->Bool
 | [],_=>true
 | x::l,a=>decide (x<2 ^ n)&&decide (x &&& a=0)&&S.aN n l (a ||| x)
theorem E_ {n x a:Nat}{l:List Nat}(h:¬x<2 ^ n):S.aN n (x::l) a=false:=by simp[S.aN,h]
theorem GA {n x a:Nat}{l:List Nat}(h:¬x &&& a=0):S.aN n (x::l) a=false:=by simp[S.aN,h]
theorem DI {n x a:Nat}{l:List Nat}(h:x<2 ^ n)(h2:x &&& a=0):S.aN n (x::l) a=S.aN n l (a ||| x):=by simp[S.aN,h,h2]
theorem uM {x n:Nat}:((x / 2 ^ n:Nat):Int)=0↔x<2 ^ n:=by
 constructor
 ·intro h
  have h0:x / 2 ^ n=0:=by omega
  rcases Nat.div_eq_zero_iff.1 h0 with h | h
  ·exact absurd h (Nat.ne_of_gt (Nat.pow_pos (by decide)))
  ·exact h
 ·intro h
  rw[Nat.div_eq_of_lt h];rfl
theorem DV {α:Type}{l:List α}{j:Nat}{x:α}(h:l[j]?=some x):l.drop j=x::l.drop (j+1):=by
 obtain ⟨h1,rfl⟩:=List.getElem?_eq_some_iff.1 h
 exact List.drop_eq_getElem_cons h1
def S.aX (p l:List Nat):Int:=if S.bg p then (if S.aN p.length l 0 then 0 else 2) else 70
theorem FQ (a b c d e f g:AV):bY 0 [a,b,c,d,e,f,g] .nil=dW (dW (dW (dW (dW (dW (dW .nil 0 a) 1 b) 2 c) 3 d) 4 e) 5 f) 6 g:=rfl
theorem EF {C:Cfg}{d:Nat}{r:List SR}{t:T}{g:G}{K:AV->G->Prop}(h:qF r t g fun vs=>K (eJ vs) g):oQ C d r t [] g K:=by
 unfold oQ
 have:cW (I C) d [] g=some g:=rfl
 rw[this];exact h
def tV:SC:=.seq (.feet [0,0,2,6,15,31] [oL 21 3,oF 22 0 7,oL 23 22,o 24 (.bin .shl (.k (.int .u64 1)) (.t 23)),o 25 (.bin .or (.t 21) (.t 24)),oz (.store 1 (.t 3) (.t 25))]) (sQ [oF 26 1 4,oL 27 26,oF 28 0 7,oL 29 28,oX 30 27 29,oL 31 30,o 32 (.call N.ae [.t 31])] (.blk 0 (.rng 74 (.t 32) [33] bw br)))
theorem HB:eB=.seq (sQ [oL 10 1,o 11 (.load true 2 (.t 7)),o 12 (.raw (.lookup 144 (.tmp 10) (.tmp 11) false))] (.cond (.t 12) (.ret) (.skip))) (sQ [oL 13 1,o 14 (.load true 2 (.t 7)),oz (.raw (.mapUpdate 144 (.tmp 13) (.tmp 14) (.const (.bool true))))] (.seq (sQ [oL 15 2,oF 16 0 7,oL 17 16,o 18 (.bin .shr (.t 15) (.t 17)),o 19 (.bin .and (.t 18) (.k (.int .u64 1))),o 20 (.bin .eql (.t 19) (.k (.int .u64 0)))] (.cond (.t 20) tV (.skip))) bo)):=rfl
theorem JE {p c:List Nat}{pa ch:AV}{Zs:Nat}{Gd:Nat×Bool->Prop}{d k q v:Nat}{dn:Bool}{L:List (Nat×Bool)}{Q:QT}{t:T}{g:G}(hd:0<d)(hG:GrI p c pa ch Zs)(hv:Aj p pa ch Zs Gd d k)(hk:S.aV p.length (L++[(v,dn)])<=k)(hvn:v<p.length)(hnz:¬Bt Zs v)
  (hg:∀u,Eg p v u->Gd (u,true)) (hL:∀s∈L++[(v,dn)],Gd s) (hX:∀h':H,(∀i,i<7->i≠4->h'.get i=g.h.get i)->h'.get 4=.cells 1 [[.int .u64 (S.aq (m9 (Bt Zs) (L++[(v,dn)])) p.length:Int)]] 0 false false->VI p pa ch Zs (L++[(v,dn)]) h') (hr4:g.h.get 4=.cells 1 [[.int .u64 (S.aq (m9 (Bt Zs) L) p.length:Int)]] 0 false false) (hg0:g.h.get 0=.cells 2 [[pa,ch]] 0 false false) (ht:St t (LVs q)) (hq:g.h.get q=.cells 2 [[.int .i64 (v:Int),.bool dn]] 0 false false) (hq7:7<=q) (hqn:q<g.nx)
  (fin:∀t' g' L' m,St t' (LVs q)->VI p pa ch Zs L' g'.h->g.nx<=g'.nx->g.nx<=m->m<g'.nx->g'.h.get m=.dfr true->(∀i,7<=i->i<g.nx->g'.h.get i=g.h.get i)->Dst (RX p Zs) Gd (L++[(v,dn)]) L'->(∀u,Eg p v u->(u,true)∈L')->Q .norm t' [.mark m] g'):wp C0 d none tV Q t [] g:=by
 obtain ⟨h1,h2,h3,h4,h5,h6,h7,-⟩:=ht
 have h256:=zh hG.n8
 have hn8:=hG.n8
 have lq1:aN (.cells 2 [[.int .i64 (v:Int),.bool dn]] 0 false false) 0 0 false 1 0=.val (.int .i64 (v:Int)):=rfl
 have lg2:aN (.cells 2 [[pa,ch]] 0 false false) 0 0 false 1 1=.val ch:=rfl
 have hR:=tS (m9 (Bt Zs) L) p.length
 have hor:=gC (S.aq (m9 (Bt Zs) L) p.length) (S.au v) (by omega) (oR v)
 rw[sG (by omega),<-G2 (d:=dn) hvn hnz] at hor
 have hsh:bA .shl (.int .u64 1) (.int .i64 (v:Int))=.val (.int .u64 ((2 ^ v:Nat):Int)):=by rw[gg,sG (by omega)]
 have hcv:c[v]?=some (c[v]?.getD 0):=by rw[List.getElem?_eq_getElem (by rw[hG.cl];exact hvn)];rfl
 have u1:v<(c.map cu).length:=by rw[List.length_map,hG.cl];exact hvn
 have u2:(c.map cu)[v]?=some (cu (c[v]?.getD 0)):=by rw[List.getElem?_map,hcv];rfl
 have hyc:=hG.yc (by omega)
 have kM:=fun g=>nG (d:=d) (s:=c[v]?.getD 0) (g:=g) hd
 have hcm:∀u,u∈S.aB (c[v]?.getD 0)↔Eg p v u:=fun u=>by rw[pd (hG.cb8 v),hG.cb v u]
 unfold tV
 refine eU (P:=fun t' df' g'=>df'=[]/\g.nx<=g'.nx/\(∀i,i≠4->g'.h.get i=g.h.get i)/\g'.h.get 4=.cells 1 [[.int .u64 (S.aq (m9 (Bt Zs) (L++[(v,dn)])) p.length:Int)]] 0 false false/\St t' (LVs q)) ?_ ?_
 ·simp only[sz,simprocAttr,sf,h3,h7,hq,lq1,hr4,hsh,hor]
  refine ⟨?_,by omega,fun i hi=>by simp[H.get_put,hi],by simp[St,LVs,sx,h1,h2,h3,h4,h5,h6,h7]⟩
  simp only[List.reverse_cons,List.reverse_nil,List.nil_append,List.cons_append]
  exact bj [false,false,false,false,false,true] [] (by simp[All2,am,aD]) (by decide) (by simp)
 clear h1 h2 h3 h4 h5 h6 h7
 rintro t df g1 ⟨rfl,n1,f1,r1,h1,h2,h3,h4,h5,h6,h7,-⟩
 have hI:=hX g1.h (fun i _ hi=>f1 i hi) r1
 have hq1:g1.h.get q=.cells 2 [[.int .i64 (v:Int),.bool dn]] 0 false false:=by rw[f1 q (by omega),hq]
 have g01:g1.h.get 0=.cells 2 [[pa,ch]] 0 false false:=by rw[f1 0 (by omega),hg0]
 simp only[sz,simprocAttr,h4,h7,g01,lg2,hq1,lq1,hG.rc,u1,u2,cu,hyc,kM]
 refine GC (q:=q) (L:=L++[(v,dn)]) (set:=c[v]?.getD 0) hd hv hk (hG.cb8 v) (fun u hu=>hg u ((hcm u).1 hu)) hL hI (by omega) (by simp[St,LVs,sx,h1,h2,h3,h4,h5,h6,h7]) (by simp[sx]) ?_
 intro g' L' hI' hn' hdf hfr hD hall
 simp only[sz,simprocAttr]
 exact fin _ g' L' g1.nx (by simp[St,LVs,sx,h1,h2,h3,h4,h5,h6,h7]) hI' (by omega) n1 (by omega) hdf (fun i a b=>by rw[hfr i a (by omega),f1 i (by omega)]) hD fun u hu=>hall u ((hcm u).2 hu)
theorem FM {p c:List Nat}{pa ch:AV}{Zs:Nat}{Gd:Nat×Bool->Prop}{d:Nat}(hd:0<d)(hG:GrI p c pa ch Zs)(hgc:∀s t,Gd s->RX p Zs s t->Gd t)(hgl:∀s,Gd s->s.1<p.length):∀k,Aj p pa ch Zs Gd d k:=by
 intro k
 induction k using Nat.strongRecOn with
 | _ k ih =>
  rintro L ⟨v,dn⟩ g K D hk hs hL hn hI kk
  have hvn:v<p.length:=hgl _ hs
  have h256:=zh hG.n8
  have hz:=hG.zs
  have hn8:=hG.n8
  rw[It]
  refine B4 kZ (by simp[cO]) ?_
  simp only[sz,simprocAttr,cO,sk,FQ]
  obtain ⟨g1,hg1⟩:∃g1,g1=g.new (.cells 2 [[.int .i64 (v:Int),.bool dn]] 0 false false):=⟨_,rfl⟩
  rw[<-hg1]
  have n1:g1.nx=g.nx+1:=by rw[hg1];simp
  have f1:∀i,i<g.nx->g1.h.get i=g.h.get i:=fun i hi=>by rw[hg1];simp[H.get_put,show ¬i=g.nx by omega]
  have hq:g1.h.get g.nx=.cells 2 [[.int .i64 (v:Int),.bool dn]] 0 false false:=by rw[hg1];simp[H.get_put]
  have hI1:VI p pa ch Zs L g1.h:=hI.fr fun i hi=>f1 i (by omega)
  clear hg1
  have lq:aN (.cells 2 [[.int .i64 (v:Int),.bool dn]] 0 false false) 0 0 true 2 0=.val (sk (v,dn)):=rfl
  have lq1:aN (.cells 2 [[.int .i64 (v:Int),.bool dn]] 0 false false) 0 0 false 1 0=.val (.int .i64 (v:Int)):=rfl
  have lg2:aN (.cells 2 [[pa,ch]] 0 false false) 0 0 false 1 1=.val ch:=rfl
  rw[HB]
  by_cases hin:(v,dn)∈L
  ·simp only[sz,simprocAttr,hI1.p,hq,lq]
   rw[Fh (id:=3) (s:=(v,dn)) (L:=L) (by simp[sx]) (by simp[sx]) hI1.m,decide_eq_true hin]
   simp only[sz,simprocAttr]
   exact kk g1 L hI1 (by omega) (fun i _ hi=>f1 i hi) (Dst.refl hL) hin
  ·have hlt:=HP (n:=p.length) hin hvn
   obtain ⟨L1,hL1⟩:∃L1,L1=L++[(v,dn)]:=⟨_,rfl⟩
   rw[<-hL1] at hlt
   have hgL1:∀s∈L1,Gd s:=fun s hs'=>by
    rw[hL1] at hs'
    rcases List.mem_append.1 hs' with h | h
    ·exact hL s h
    ·rw[List.mem_singleton.1 h];exact hs
   refine eU (P:=fun t' df' g'=>df'=[]/\g'=g1/\St t' (LVs g.nx)) ?_ ?_
   ·simp only[sz,simprocAttr,hI1.p,hq,lq]
    rw[Fh (id:=3) (s:=(v,dn)) (L:=L) (by simp[sx]) (by simp[sx]) hI1.m,decide_eq_false hin]
    simp only[sz,simprocAttr]
    simp[St,LVs,sx]
   rintro t df g2 ⟨rfl,hg,h1,h2,h3,h4,h5,h6,h7,-⟩
   rw[hg];clear hg
   refine bS (P:=fun t' df' g'=>df'=[]/\g'.nx=g1.nx/\(∀i,i≠3->g'.h.get i=g1.h.get i)/\g'.h.get 3=.map (bcl L1)/\St t' (LVs g.nx)) ?_ ?_
   ·simp only[sz,simprocAttr,h1,h7,hI1.p,hq,lq]
    rw[KI (id:=3) (s:=(v,dn)) (L:=L) (by simp[sx]) (by simp[sx]) hI1.m hin]
    simp only[sz,simprocAttr]
    exact ⟨fun i hi=>by simp[H.get_put,hi],by simp[H.get_put,hL1],by simp[St,LVs,sx,h1,h2,h3,h4,h5,h6,h7]⟩
   clear h1 h2 h3 h4 h5 h6 h7
   rintro t df g2 ⟨rfl,n2,f2,m2,h1,h2,h3,h4,h5,h6,h7,-⟩
   have f2':∀i,7<=i->i<g1.nx->g2.h.get i=g1.h.get i:=fun i a b=>f2 i (by omega)
   have hq2:g2.h.get g.nx=.cells 2 [[.int .i64 (v:Int),.bool dn]] 0 false false:=by rw[f2 _ (by omega),hq]
   have z2:g2.h.get 1=.cells 1 [[.int .u64 (Zs:Int)]] 0 false false:=by rw[f2 1 (by omega),hI1.z]
   have r2:g2.h.get 4=.cells 1 [[.int .u64 (S.aq (m9 (Bt Zs) L) p.length:Int)]] 0 false false:=by rw[f2 4 (by omega),hI1.r]
   have hI2:S.aq (m9 (Bt Zs) L) p.length=S.aq (m9 (Bt Zs) L1) p.length->VI p pa ch Zs L1 g2.h:=fun e =>
    ⟨by rw[f2 0 (by omega),hI1.g0],z2,by rw[f2 2 (by omega),hI1.a],m2,by rw[<-e,r2],by rw[f2 5 (by omega),hI1.p],by rw[f2 6 (by omega),hI1.v]⟩
   have zq:Zs<18446744073709551616:=by omega
   refine eU (P:=fun t' df' g'=>(df'=[]\/∃m,df'=[.mark m]/\g'.h.get m=.dfr true/\g1.nx<=m/\m<g'.nx)/\St t' (LVs g.nx)/\g1.nx<=g'.nx/\(∀i,7<=i->i<g1.nx->g'.h.get i=g1.h.get i)/\∃L2,VI p pa ch Zs L2 g'.h/\Dst (RX p Zs) Gd L1 L2/\∀u,RX p Zs (v,dn) (u,true)->(u,true)∈L2) ?_ ?_
   ·cases hb:Zs.testBit v with
    | true =>
     have hI3:=hI2 (by rw[hL1,H5 (show Bt Zs v from hb)])
     simp only[sz,simprocAttr,h2,h7,hq2,lq1,z2,bJ _ _ _ zq,ul zq,t_,hb]
     exact ⟨.inl trivial,by simp[St,LVs,sx,h1,h2,h3,h4,h5,h6,h7],by omega,f2',L1,hI3,Dst.refl hgL1,fun u hu=>by cases hu with | dn hz' _=>exact absurd hb hz'⟩
    | false =>
     have hnz:¬Bt Zs v:=fun h=>by have h:Zs.testBit v=true:=h;rw[hb] at h;cases h
     have hR:=tS (m9 (Bt Zs) L) p.length
     have hor:=gC (S.aq (m9 (Bt Zs) L) p.length) (S.au v) (by omega) (oR v)
     rw[sG (by omega),<-G2 (d:=dn) hvn hnz,<-hL1] at hor
     have hsh:bA .shl (.int .u64 1) (.int .i64 (v:Int))=.val (.int .u64 ((2 ^ v:Nat):Int)):=by rw[gg,sG (by omega)]
     have hcv:c[v]?=some (c[v]?.getD 0):=by rw[List.getElem?_eq_getElem (by rw[hG.cl];exact hvn)];rfl
     have u1:v<(c.map cu).length:=by rw[List.length_map,hG.cl];exact hvn
     have u2:(c.map cu)[v]?=some (cu (c[v]?.getD 0)):=by rw[List.getElem?_map,hcv];rfl
     have hyc:=hG.yc (by omega)
     have kM:=fun g=>nG (d:=d) (s:=c[v]?.getD 0) (g:=g) hd
     simp only[sz,simprocAttr,h2,h7,hq2,lq1,z2,bJ _ _ _ zq,ul zq,t_,hb]
     rw[hL1] at hgL1 m2 hlt ⊢
     refine JE (q:=g.nx) (L:=L) (k:=S.aV p.length (L++[(v,dn)])) hd hG (ih _ (by omega)) (Nat.le_refl _) hvn hnz (fun u hu=>hgc (v,dn) (u,true) hs (.dn hnz hu)) hgL1 (fun h' hh hr=>⟨by rw[hh 0 (by omega) (by omega),f2 0 (by omega),hI1.g0],by rw[hh 1 (by omega) (by omega),z2],by rw[hh 2 (by omega) (by omega),f2 2 (by omega),hI1.a],by rw[hh 3 (by omega) (by omega),m2],hr,by rw[hh 5 (by omega) (by omega),f2 5 (by omega),hI1.p],by rw[hh 6 (by omega) (by omega),f2 6 (by omega),hI1.v]⟩) r2 (by rw[f2 0 (by omega),hI1.g0]) (by simp[St,LVs,sx,h1,h2,h3,h4,h5,h6,h7]) hq2 hn (by omega) ?_
     intro t' g' L' m ht' hI' n' hm1 hm2 hdf hfr hD hall
     exact ⟨rfl,.inr ⟨m,rfl,hdf,by omega,hm2⟩,ht',by omega,fun i a b=>by rw[hfr i a (by omega),f2' i a b],L',hI',hD,fun u hu=>hall u (by cases hu with | dn _ e=>exact e)⟩
   ·rintro t df g3 ⟨hdf,ht,n3,f3,L2,hI3,hD,hch⟩
    refine JL (q:=g.nx) (v:=v) (dn:=dn) (L:=L2) (k:=S.aV p.length L2) hd hG (ih _ (by have:=tG (n:=p.length) hD.pre;omega)) (Nat.le_refl _) hvn (fun u hu=>hgc (v,dn) (u,false) hs hu) hD.good hI3 ht (by rw[f3 _ hn (by omega),hq]) hn (by omega) ?_
    rintro e t' df' g4 L3 he hdf' hI4 n4 f4 hD2 hpa
    have hfin:Dst (RX p Zs) Gd L L3/\(v,dn)∈L3:=by
     have hD3:=hD.tr hD2
     rw[hL1] at hD3
     refine hD3.visit fun u hu=>?_
     obtain ⟨w,b⟩:=u
     cases b with
     | true=>exact hD2.pre _ (hch w hu)
     | false=>exact hpa w hu
    have hfr:∀i,7<=i->i<g.nx->g4.h.get i=g.h.get i:=fun i a b=>by rw[f4 i a (by omega),f3 i a (by omega),f1 i b]
    have hend:fnQ C0 d [] K .ret t' df' g4=oQ C0 d [] t' df' g4 K:=rfl
    have hend2:fnQ C0 d [] K .norm t' df' g4=oQ C0 d [] t' df' g4 K:=rfl
    have goal:oQ C0 d [] t' df' g4 K:=by
     have one:∀g5:G,g5.nx=g4.nx->(∀i,i<7->g5.h.get i=g4.h.get i)->(∀i,i<g.nx->g5.h.get i=g4.h.get i)->K (.tup []) g5:=fun g5 n5 f5 f6 =>
      kk g5 L3 (hI4.fr f5) (by omega) (fun i a b=>by rw[f6 i b,hfr i a b]) hfin.1 hfin.2
     rcases hdf with rfl | ⟨m,rfl,hm,hm1,hm2⟩
     ·rcases hdf' with rfl | ⟨m2,rfl,hm2,hm3⟩
      ·exact EF (one g4 rfl (fun _ _=>rfl) fun _ _=>rfl)
      ·exact jG hm2 (one _ (by simp) (fun i hi=>by simp[H.get_put,show ¬i=m2 by omega]) fun i hi=>by simp[H.get_put,show ¬i=m2 by omega])
     ·have hm4:g4.h.get m=.dfr true:=by rw[f4 m (by omega) hm2,hm]
      rcases hdf' with rfl | ⟨m2,rfl,hm5,hm3⟩
      ·exact jG hm4 (one _ (by simp) (fun i hi=>by simp[H.get_put,show ¬i=m by omega]) fun i hi=>by simp[H.get_put,show ¬i=m by omega])
      ·exact Bg hm5 hm4 (by omega) (one _ (by simp) (fun i hi=>by simp[H.get_put,show ¬i=m by omega,show ¬i=m2 by omega]) fun i hi=>by simp[H.get_put,show ¬i=m by omega,show ¬i=m2 by omega])
    rcases he with rfl | rfl
    ·rw[hend];exact goal
    ·rw[hend2];exact goal
def S.a_ (p:List Nat)(xs zs:Nat):Nat:=S.aq (Re (Eg p) (Bt zs) (Bt xs)) p.length
structure Chl (p c:List Nat):Prop where
 cl:c.length=p.length
 cb:∀v u,(c[v]?.getD 0).testBit u=true↔Eg p v u
theorem HD (Z:Nat->Prop)(n:Nat):S.aq (m9 Z []) n=0:=by
 refine Nat.eq_of_testBit_eq fun i=>?_
 rw[Nat.zero_testBit]
 cases h:(S.aq (m9 Z []) n).testBit i with
 | false=>rfl
 | true =>
  obtain ⟨-,⟨d,hd⟩,-⟩:=iF.1 h
  cases hd
theorem IS {p:List Nat}{Z:Nat->Prop}{xs v:Nat}{b:Bool}(hp:∀x∈p,x<2 ^ p.length)(hx:xs<2 ^ p.length)(h:Rs (Eg p) Z (Bt xs) v b):v<p.length:=by
 cases h with
 | st h=>exact qi hx h
 | dn _ _ e=>exact (s_ hp e).2
 | up _ _ e=>exact (s_ hp e).1
set_option maxRecDepth 5000 in
theorem Fv {d xs zs:Nat}{g:G}{v:AV}{p c:List Nat}(hd:0<d)(hm:Agg ((p,c):List Nat×List Nat) NoP 0 g.h v)(hp:∀x∈p,x<2 ^ p.length)(h1:1<=p.length)(n8:p.length<=8)(hc:Chl p c)(hxs:xs<2 ^ p.length)(hzs:zs<2 ^ p.length) :
  aA C0 d N.aL [v,.int .u64 (xs:Int),.int .u64 (zs:Int)] g=.val (.int .u64 (S.a_ p xs zs:Int)):=by
 have e0:=gU d hm
 obtain ⟨cs,rfl,hcs⟩:=hm
 obtain ⟨_,_,rfl,ha,hb⟩:=rh.1 hcs
 obtain ⟨pa,rfl,hpa⟩:=cA.1 ha
 obtain ⟨ch,rfl,hch⟩:=cA.1 hb
 have h256:=zh n8
 have hpa:SlR NoP 0 .nil p pa:=hpa.tree (Nat.le_refl 0)
 have hch:SlR NoP 0 .nil c ch:=hch.tree (Nat.le_refl 0)
 have rp:∀h,af h 1 pa=some (p.map cu):=fun h=>(hpa.tree (h':=h) (Nat.le_refl 0):SlR NoP 0 h _ pa).nats
 have rc:∀h,af h 1 ch=some (c.map cu):=fun h=>(hch.tree (h':=h) (Nat.le_refl 0):SlR NoP 0 h _ ch).nats
 have hG:GrI p c pa ch zs:=⟨hp,n8,rp,rc,sj hpa,fun h=>sj hch (by rw[hc.cl];exact h),hc.cl,hc.cb,hzs⟩
 have lp:=hpa.len
 have lg1:aN (.cells 2 [[pa,ch]] 0 false false) 0 0 false 1 0=.val pa:=rfl
 have hlt:∀x∈p,x<18446744073709551616:=fun x hx=>by have:=hp x hx;omega
 rw[k_]
 refine np mD (xs:=[.agg ([pa]++[ch]),.int .u64 (xs:Int),.int .u64 (zs:Int)]) (by simp only[aG,e0,dT]) (by simp[dw]) hd ?_
 simp only[sz,simprocAttr,dw,fu,List.cons_append,List.nil_append,lg1,lp]
 have go:∀t g',St t [(1,.int .u64 (xs:Int)),(3,.hptr 0 0 0 0),(5,.hptr 1 0 0 0),(7,.hptr 2 0 0 0)]->g'.nx=3->g'.h.get 0=.cells 2 [[pa,ch]] 0 false false->g'.h.get 1=.cells 1 [[.int .u64 (zs:Int)]] 0 false false->g'.h.get 2=.cells 1 [[.int .u64 (S.up p zs p.length:Int)]] 0 false false ->
   wp C0 (d+1) none bF (fnQ C0 (d+1) [SR.tm 6] fun v _=>v=AV.int IntKind.u64 ↑(S.a_ p xs zs)) t [] g':=by
  rintro t g1 ⟨t1,t3,t5,t7,-⟩ n1 g0 gz ga
  have xn:xs<256:=by omega
  have st1:∀g,eS (.cells 1 [[.nilm]] 0 false false) g 5 0 0 1 0 (.hmap 3)=.upd .undef (g.put 5 (.cells 1 [[.hmap 3]] 0 false false)):=fun g=>rfl
  have st2:∀g,eS (.cells 1 [[.nilf]] 0 false false) g 6 0 0 1 0 (.clo N.aT [] [.hptr 5 0 0 0,.hptr 1 0 0 0,.hptr 4 0 0 0,.hptr 0 0 0 0,.hptr 6 0 0 0,.hptr 2 0 0 0])=.upd .undef (g.put 6 (.cells 1 [[Hb]] 0 false false)):=fun g=>rfl
  have kM:=fun g=>nG (d:=d+1) (s:=xs) (g:=g) (Nat.succ_pos d)
  simp only[sz,simprocAttr,bF,JA,t1,t3,t5,t7,kM,n1,st1,st2]
  obtain ⟨g2,hg2⟩:∃g2,g2=(((((((g1.new (AObj.map [])).new (AObj.cells 1 [[AV.int IntKind.u64 0]] 0 false false)).new (AObj.cells 1 [[AV.nilm]] 0 false false)).put 4 (AObj.cells 1 [[AV.int IntKind.u64 0]] 0 false false)).put 5 (AObj.cells 1 [[AV.hmap 3]] 0 false false)).new (AObj.cells 1 [[AV.nilf]] 0 false false)).put 6 (AObj.cells 1 [[Hb]] 0 false false)):=⟨_,rfl⟩
  rw[<-hg2]
  have n2:g2.nx=7:=by rw[hg2];simp[n1]
  have hz0:S.aq (m9 (Bt zs) []) p.length=0:=HD _ _
  have hI:VI p pa ch zs [] g2.h:=by
   rw[hg2]
   refine ⟨?_,?_,?_,?_,?_,?_,?_⟩
   ·simp[H.get_put,n1,g0]
   ·simp[H.get_put,n1,gz]
   ·simp[H.get_put,n1,ga]
   ·simp[H.get_put,n1];rfl
   ·simp[H.get_put,n1,hz0]
   ·simp[H.get_put,n1]
   ·simp[H.get_put,n1]
  clear hg2 g0 gz ga
  have hgc:∀s t,Rs (Eg p) (Bt zs) (Bt xs) s.1 s.2->RX p zs s t->Rs (Eg p) (Bt zs) (Bt xs) t.1 t.2:=fun s t h1 h2=>HF h1 h2
  have hgl:∀s:Nat×Bool,Rs (Eg p) (Bt zs) (Bt xs) s.1 s.2->s.1<p.length:=fun s h=>IS hp hxs h
  have hv:=FM (Gd:=fun s=>Rs (Eg p) (Bt zs) (Bt xs) s.1 s.2) (Nat.succ_pos d) hG hgc hgl (S.aV p.length [])
  refine xK (Nat.succ_pos d) xn (by simp[sx]) (by decide) (fun j h=>VJ p pa ch zs (fun s=>Rs (Eg p) (Bt zs) (Bt xs) s.1 s.2) [] false (S.aB xs) g2 j h) ?_ ⟨⟨[],hI,Dst.refl (fun s h=>by cases h),fun i v h=>absurd h (Nat.not_lt_zero i)⟩,fun _ _ _=>rfl⟩ ?_ ?_
  ·rintro j h h' hh ⟨⟨L1,i1,i2,i3⟩,f1⟩
   exact ⟨⟨L1,i1.fr fun i hi=>hh i (by omega),i2,i3⟩,fun i h1 h2=>by rw[hh i h2,f1 i h1 h2]⟩
  ·rintro j v g1 hj ⟨⟨L1,i1,i2,i3⟩,f1⟩ hn1
   simp only[sz,simprocAttr,ff]
   intro g3 hn3 hf3
   have i1':VI p pa ch zs L1 g3.h:=i1.fr fun i hi=>hf3 i (by omega)
   simp only[sz,simprocAttr,eZ,i1'.v]
   refine hv L1 (v,false) g3 _ _ (tG i2.pre) (.st ((pd xn).1 (List.mem_of_getElem? hj))) i2.good (by omega) i1' fun g4 L2 j1 j2 j3 j4 j5=>?_
   simp only[sz,simprocAttr]
   refine ⟨j2,fun i a b=>j3 i (by omega) b,.inl ⟨rfl,⟨L2,j1,i2.tr j4,fun i u hi hu=>?_⟩,fun i a b=>?_⟩⟩
   ·by_cases e:i=j
    ·subst e
     rw[hj] at hu
     injection hu with hu
     subst hu
     exact j5
    ·exact j4.pre _ (i3 i u (by omega) hu)
   ·omega
  ·rintro g' ⟨⟨L1,i1,i2,i3⟩,f1⟩ hn' hdf
   have hall:∀x,Bt xs x->(x,false)∈L1:=fun x hx=>by
    obtain ⟨i,hi,e⟩:=List.mem_iff_getElem.1 ((pd xn).2 hx)
    exact i3 i x hi (by rw[List.getElem?_eq_getElem hi,e])
   have hval:S.aq (m9 (Bt zs) L1) p.length=S.a_ p xs zs:=jD fun y _=>by
    constructor
    ·rintro ⟨⟨b,h⟩,hz⟩;exact ⟨⟨b,(BF i2 hall y b).1 h⟩,hz⟩
    ·rintro ⟨⟨b,h⟩,hz⟩;exact ⟨⟨b,(BF i2 hall y b).2 h⟩,hz⟩
   have hr:=i1.r
   rw[hval] at hr
   simp only[sz,simprocAttr,e_,hr]
   refine jG hdf ?_
   simp only[sz,simprocAttr]
 have go2:∀t df g',(df=[]/\St t [(1,.int .u64 (xs:Int)),(3,.hptr 0 0 0 0),(5,.hptr 1 0 0 0),(7,.hptr 2 0 0 0)]/\g'.nx=3/\g'.h.get 0=.cells 2 [[pa,ch]] 0 false false/\g'.h.get 1=.cells 1 [[.int .u64 (zs:Int)]] 0 false false/\g'.h.get 2=.cells 1 [[.int .u64 (S.up p zs p.length:Int)]] 0 false false) ->
   wp C0 (d+1) none bF (fnQ C0 (d+1) [SR.tm 6] fun v _=>v=AV.int IntKind.u64 ↑(S.a_ p xs zs)) t df g':=by
  rintro t df g' ⟨rfl,a1,a2,a3,a4,a5⟩
  exact go t g' a1 a2 a3 a4 a5
 refine aS (m:=p.length) (by omega) (fun j t df g'=>df=[]/\St t [(1,.int .u64 (xs:Int)),(3,.hptr 0 0 0 0),(5,.hptr 1 0 0 0),(7,.hptr 2 0 0 0)]/\g'.nx=3/\g'.h.get 0=.cells 2 [[pa,ch]] 0 false false/\g'.h.get 1=.cells 1 [[.int .u64 (zs:Int)]] 0 false false/\g'.h.get 2=.cells 1 [[.int .u64 (S.up p zs j:Int)]] 0 false false)
  ⟨rfl,by simp[St,sx],by simp[sx],by simp[sx,H.get_put],by simp[sx,H.get_put],by simp[sx,H.get_put];rfl⟩ (by simp[sx]) (by simp[sx]) (by decide) ?_ ?_ ?_
 ·rintro j t df g v s hs ⟨a1,⟨b1,b2,b3,b4,-⟩,a3⟩
  refine ⟨a1,?_,a3⟩
  rcases hs with rfl | rfl | rfl<;>simp[St,sx, *]
 ·rintro j t df g hj ⟨rfl,⟨h1,h3,h5,h7,-⟩,n3,g0,gz,ga⟩ h19 h18
  have hup:=xS hp hzs j
  simp only[sz,simprocAttr,h3,g0,lg1,lp]
  simp only[fg,fc]
  refine aS (m:=p.length) (by omega) (fun i t df g'=>df=[]/\St t [(1,.int .u64 (xs:Int)),(3,.hptr 0 0 0 0),(5,.hptr 1 0 0 0),(7,.hptr 2 0 0 0),(18,.int .i64 (p.length:Int)),(19,.int .i64 (j:Int)),(23,pa)]/\g'.nx=3/\g'.h.get 0=.cells 2 [[pa,ch]] 0 false false/\g'.h.get 1=.cells 1 [[.int .u64 (zs:Int)]] 0 false false/\g'.h.get 2=.cells 1 [[.int .u64 (S.aR p (S.up p zs j) i:Int)]] 0 false false)
   ⟨rfl,by simp[St,sx,h1,h3,h5,h7,h18,h19],n3,g0,gz,by rw[ga];rfl⟩ (by simp[sx]) (by simp[sx]) (by decide) ?_ ?_ ?_
  ·rintro j t df g v s hs ⟨a1,⟨b1,b2,b3,b4,b5,b6,b7,-⟩,a3⟩
   refine ⟨a1,?_,a3⟩
   rcases hs with rfl | rfl | rfl<;>simp[St,sx, *]
  ·rintro i t df g hi ⟨rfl,⟨h1,h3,h5,h7,h18,h19,h23,-⟩,n3,g0,gz,ga⟩ h25 h24
   have hr:=sD hp hup i
   obtain ⟨x,hx,-,hxm⟩:=aw hi
   have u1:i<(p.map cu).length:=by simpa using hi
   have u2:(p.map cu)[i]?=some (cu x):=by rw[List.getElem?_map,hx];rfl
   have hxl:=hlt x hxm
   have hrl:S.aR p (S.up p zs j) i<18446744073709551616:=by omega
   have us:=iv p (S.up p zs j) i
   rw[pS,hx,Option.getD_some] at us
   simp only[sz,simprocAttr,h7,h23,h25,rp,u1,u2,cu,ga,bJ _ _ _ hrl,ul hrl,BK]
   cases hb:(S.aR p (S.up p zs j) i).testBit i with
   | true =>
    rw[hb,if_pos rfl] at us
    simp only[sz,simprocAttr,h7,ga,gC _ _ hrl hxl]
    exact ⟨⟨by simp[St,sx,h1,h3,h5,h7,h18,h19,h23],by simp[n3],by simp[H.get_put,g0],by simp[H.get_put,gz],by simp[H.get_put];rw[us]⟩,h25,h24⟩
   | false =>
    rw[hb,if_neg (by decide)] at us
    simp only[sz,simprocAttr]
    exact ⟨⟨by simp[St,sx,h1,h3,h5,h7,h18,h19,h23],n3,g0,gz,by rw[us];exact ga⟩,h25,h24⟩
  ·rintro t df g ⟨rfl,⟨h1,h3,h5,h7,h18,h19,h23,-⟩,n3,g0,gz,ga⟩
   simp only[sz,simprocAttr]
   have ga2:=ga
   rw[<-lC] at ga2
   exact ⟨⟨⟨h1,h3,h5,h7,trivial⟩,n3,g0,gz,ga2⟩,h19,h18⟩
 ·intro t df g h
  simp only[sz,simprocAttr]
  exact go2 t df g h
theorem If {d k2:Nat}{g:G}{P2:Nat->Prop}{v w:AV}{p c l:List Nat}(hd:0<d)(hm:Agg ((p,c):List Nat×List Nat) NoP 0 g.h v)(hw:SlR P2 k2 g.h l w)(n8:p.length<=8) :
  aA C0 d N.ay [v,w] g=.val (.bool (S.aN p.length l 0)):=by
 have e0:=gU d hm
 obtain ⟨cs,rfl,hcs⟩:=hm
 obtain ⟨_,_,rfl,ha,hb⟩:=rh.1 hcs
 obtain ⟨pa,rfl,hpa⟩:=cA.1 ha
 obtain ⟨ch,rfl,hch⟩:=cA.1 hb
 obtain ⟨w',e2,r2⟩:=jM hw d
 have hlt:=nJ hw
 have hl:=hw.1
 have hpa:SlR NoP 0 .nil p pa:=hpa.tree (Nat.le_refl 0)
 have lp:=hpa.len
 have wl:=(r2 .nil).len
 have lg1:aN (.cells 2 [[pa,ch]] 0 false false) 0 0 false 1 0=.val pa:=rfl
 rw[ja]
 refine mP jV (xs:=[.agg ([pa]++[ch]),w']) (by simp only[aG,e0,e2]) (by simp[cF]) hd ?_
 simp only[sz,simprocAttr,cF,dQ,List.cons_append,List.nil_append,wl]
 simp only[dD]
 refine aS (m:=l.length) hl (fun j t df g=>df=[]/\g.h.get 0=.cells 2 [[pa,ch]] 0 false false/\∃a:Nat,a<18446744073709551616/\S.aN p.length (l.drop j) a=S.aN p.length l 0/\St t [(2,.hptr 0 0 0 0),(8,w'),(5,.int .u64 (a:Int))]) ⟨rfl,by simp[sx,H.get_put],0,by decide,rfl,by simp[St,sx]⟩ (by simp[sx]) (by simp[sx]) (by decide)
  (by rintro j t df g v s (rfl | rfl | rfl)<;>simp[sx,St]) ?_ ?_
 ·rintro j t df g hj ⟨rfl,g0,a,ha,hS,h2,h8,h5,-⟩ h10 h9
  obtain ⟨x,hx,-,hm⟩:=aw hj
  have hxl:=hlt x hm
  have z1:j<(l.map cu).length:=by simpa using hj
  have z2:(l.map cu)[j]?=some (cu x):=by rw[List.getElem?_map,hx];rfl
  have rt:=fun h=>(r2 h).nats
  rw[DV hx] at hS
  by_cases c:x<2 ^ p.length
  ·by_cases c2:x &&& a=0
   ·simp only[sz,simprocAttr,h2,h5,h8,h10,g0,lg1,lp,rt,z1,z2,cu,bJ _ _ _ hxl,uM,c,dm x a hxl ha,c2,gC a x ha hxl]
    refine ⟨⟨a ||| x,sX ha hxl,?_,by simp[St,sx,h2,h8]⟩,h9⟩
    rw[<-hS,DI c c2]
   ·simp only[sz,simprocAttr,h2,h5,h8,h10,g0,lg1,lp,rt,z1,z2,cu,bJ _ _ _ hxl,uM,c,dm x a hxl ha,show ¬((x &&& a:Nat):Int)=0 from by omega]
    rw[<-hS,GA c2]
  ·simp only[sz,simprocAttr,h2,h5,h8,h10,g0,lg1,lp,rt,z1,z2,cu,bJ _ _ _ hxl,uM,c]
   rw[<-hS,E_ c]
 ·rintro t df g ⟨rfl,g0,a,-,hS,-⟩
  simp only[sz,simprocAttr,dA]
  rw[<-hS,List.drop_length];rfl
theorem HH {p:List Nat}(hp:∀x∈p,x<2 ^ p.length):Chl p (S.bz p):=by
 refine ⟨yA,fun v u=>?_⟩
 by_cases h:v<p.length
 ·have:(S.bz p)[v]?.getD 0=S.aq (Eg p v) p.length:=by simp[S.bz,h]
  rw[this,iF]
  exact ⟨fun h=>h.2,fun h=>⟨(s_ hp h).2,h⟩⟩
 ·have:(S.bz p)[v]?=none:=List.getElem?_eq_none (by rw[yA];omega)
  rw[this]
  constructor
  ·intro h';simp at h'
  ·intro h';exact absurd (s_ hp h').1 h
def cn (i:Nat):Int:=(i:Int)
end
end Hx
end
