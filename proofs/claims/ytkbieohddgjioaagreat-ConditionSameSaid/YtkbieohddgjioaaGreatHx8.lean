/- A part of the proof: what the functions of the chapter compute. -/
import Derived.Test.YtkbieohddgjioaaGreatHx7
set_option linter.all false
section
namespace Hx
open Go
noncomputable section
section
variable {d:Nat}{n:Net}{b cv sv:AV}{q:Nat}{rows:List (List AV)}
structure Rd4 (n:Net) (b cv sv:AV) (q j:Nat) (t:T) (g:G):Prop where
 st:St t ((80,b)::LRd q)
 hp:RdH n b cv sv q (S.aa n) ((S.ak n).take j++List.replicate (n.nodes.length - j) 0) g
 ok:∀x∈n.nodes.take j,S.bP x.parents n.nodes.length=true/\S.bK n.grain (S.aa n) x=true
theorem Pf(n:Net)(j m:Nat)(hm:m<18446744073709551616):∀y∈S.be n j m,y<18446744073709551616:=λy hy=>by
 simp only[S.be,SG,Sq]at hy;rcases hy with hy|rfl|hy
 ·obtain⟨x,-,rfl⟩:=SX.1 (SM hy);exact mr _
 ·exact hm
 ·rw[(UK.1 hy).2];decide
theorem Own.natsV{g:G}{b:Nat}{v:AV}{l:List Nat}(h:Own g b v 1 (l.map cu))(hl:l.length<9223372036854775808)(hb:∀y∈l,y<18446744073709551616):SlR (λi=>vid v=some i) 0 g.h l v :=
 Own.sl (α:=Nat) h hl (by
  have:∀l:List Nat,(∀y∈l,y<18446744073709551616)->All2 (Rp.rp (α:=Nat) (λi=>vid v=some i) 0 g.h) l (l.map cu):=λl=>by
   induction l with
   |nil=>intro _;trivial
   |cons y l ih=>intro h;exact⟨GB.2 ⟨rfl,h y (by simp)⟩,ih λz hz=>h z (by simp[hz])⟩
  exact this l hb) λ_ h=>h
theorem Own.nats'{g:G}{b:Nat}{v:AV}{l:List Nat}(h:Own g b v 1 (l.map cu))(hl:l.length<9223372036854775808)(hb:∀y∈l,y<18446744073709551616):SlR (λ_=>True) 0 g.h l v :=
 (h.natsV hl hb).wd λ_ _=>⟨trivial,rfl⟩
theorem Own.intsV{g:G}{b:Nat}{v:AV}{l:List Int}(h:Own g b v 1 (l.map ci))(hl:l.length<9223372036854775808):SlR (λi=>vid v=some i) 0 g.h l v :=
 Own.sl (α:=Int) h hl (RS (λa=>aI.2 rfl) _) λ_ h=>h
theorem N2{n:Net}(h:NR n){x:Node}(hx:x∈n.nodes):S.bK n.grain (S.aa n) x=true:=by simp only[S.bK,S.bA,R7,Sg,Sy];exact⟨h.rows x hx,λr hr=>⟨⟨(h.row x hx r hr).1,(h.row x hx r hr).2.1⟩,(h.row x hx r hr).2.2⟩⟩
theorem OM{Q:QT}{t:T}{g:G}(hd:0<d)(hl:n.nodes.length<=8)(hg1:1<=n.grain/\n.grain<=60)(hcard:∀c∈S.aa n,1<=c/\c<=4)(hN:SlR NoP 0 .nil n.nodes b)(r1:∀h,ak h 3 b=some rows)(r2:rows.length=n.nodes.length)
  (r3:∀(i:Nat) (x:Node),n.nodes[i]?=some x->∃pa ra,rows[i]?=some [.int .i64 x.card,pa,ra]/\i<rows.length/\SlR NoP 0 .nil x.parents pa/\SlR NoP 0 .nil x.rows ra) (r4:0<n.nodes.length->Ak b=true)
  (h0:Rd4 n b cv sv q 0 t g) (h82:tat t 82=.int .i64 0) (h81:tat t 81=.int .i64 (n.nodes.length:Int))
  (bad:∀t g,¬NR n->g.h.get 1=VG 5 [[.int .i64 0,.nils,.nils,.nils,.nils]]->tat t 2=.hptr 1 0 0 0->tat t 3=.int .i64 50->Q .ret t [] g)
  (fin:∀t g,Rd4 n b cv sv q n.nodes.length t g->Q (.exit 2) t [] g):wpL (wp C0 d none pf) Q t [] g:=by
 simp only[pf,ue];refine aK (m:=n.nodes.length) (by omega) (λj t df g=>df=[]/\Rd4 n b cv sv q j t g) ⟨rfl,h0⟩ h82 h81 (by decide)
  (by rintro j t df g v s (rfl|rfl|rfl) ⟨a1,⟨b1,b2,b3,b4,-⟩,c1,c2⟩<;>exact⟨a1,by simp[St,LRd,sx,b1,b2,b3,b4],c1,c2⟩) ?_ ?_
 ·rintro j t df g hj ⟨rfl,⟨⟨h80,h1,h2,h4,-⟩,hp,hok⟩⟩ h82 h81;obtain⟨x,hx,htk,hxm⟩:=an hj;obtain⟨pa,ra,q1,hlt,hpa,hra⟩:=r3 j x hx;have hry:=r4 (by omega);have q2:=hp.q2;have qn:=hp.qn;have hpsl:(S.ak n).length=n.nodes.length:=by simp[S.ak]
  have hpj:(S.ak n)[j]?=some (S.aw x.parents):=by simp[S.ak,hx]
  obtain⟨g2,hg2⟩:∃g2,g2=(g.new (VG 3 [[.int .i64 0,.nils,.nils]])).put g.nx (VG 3 [[.int .i64 x.card,pa,ra]]):=⟨_,rfl⟩;have f2:Fr g g2:=by rw[hg2];exact Pn (by simp) λi hi=>by simp[RW,show ¬i=g.nx by omega]
  have n2:g.nx<g2.nx:=by rw[hg2];simp
  have hp3:=hp.fr f2;have f9:g2.h.get g.nx=VG 3 [[.int .i64 x.card,pa,ra]]:=by rw[hg2];simp[RW]
  have eY:(S.ak n).take j++List.replicate (n.nodes.length - j) 0=S.be n j (S.aw (x.parents.take 0)):=by rw[S.be,show n.nodes.length - j=(n.nodes.length - (j+1))+1 by omega,Ue];rfl
  have eY2:S.be n j (S.aw x.parents)=(S.ak n).take (j+1)++List.replicate (n.nodes.length - (j+1)) 0:=by rw[S.be,UC,hpj,S7];rfl
  rw[eY]at hp3;refine be (P:=λt' df g'=>df=[]/\g'=g2/\St t' ((80,b)::(81,.int .i64 (n.nodes.length:Int))::(82,.int .i64 (j:Int))::(8,.int .i64 (j:Int))::(9,.hptr g.nx 0 0 0)::LRd q)) ?_ ?_
  ·simp only[sz,simprocAttr,h80,h82,r1,hlt,q1];rw[hg2];simp[St,LRd,sx,h1,h2,h4,h80,h81,h82]
  clear h1 h2 h4 h80 h81 h82;rintro t df g3 ⟨rfl,rfl,⟨h80,h81,h82,h8,h9,h1,h2,h4,-⟩⟩;have pl:=λg=>hpa.len g;simp only[sz,simprocAttr,h9,f9,pl];refine OL (j:=j) (p9:=g.nx) (x:=x) (pa:=pa) (b:=b) (cv:=cv) (sv:=sv) (q:=q) hl hN hx hpa ⟨by simp[St,LRd,sx,kN,h1,h2,h4,h8,h9,h80,h81,h82],hp3,⟨λi p hi=>by omega,λi p r hi=>by omega⟩⟩ (by simp[sx]) (by simp[sx]) f9 (λe=>by have:=(hp.hs.lt e).2;omega) ?_ ?_
  ·intro t g hn a1 a2 a3;simp only[sx,sy];exact bad t g hn a1 a2 a3
  ·rintro t g4 ⟨⟨h80,h81,h82,h88,h8,h9,h10,h1,h2,h4,-⟩,hp4,hpl⟩ f94 n4;rw[S1]at hp4;have hplc:=Gr hpl;have hpin:∀p∈x.parents,0<=p/\p<((S.aa n).length:Int):=λp hp=>by rw[aX];exact gR hplc p hp
   have hpll:=gH hplc (by omega);have hyl:(S.be n j (S.aw x.parents)).length<=8:=by simp[S.be,hpsl];omega
   have hm:Agg ((n,S.aa n,S.be n j (S.aw x.parents),[]):NwM) (λ_=>True) 0 g4.h (.agg [.int .i64 n.grain,b,cv,sv,.nils]) :=
    ⟨_,rfl,ww.2 ⟨b,cv,sv,.nils,rfl,hN.wide (R5 0),Own.sl (α:=Int) hp4.hc (by rw[aX];omega) (RS (λa=>aI.2 rfl) _) λ_ _=>trivial,hp4.hs.nats' (by omega) (Pf n j _ (mr _)),⟨by show 0<9223372036854775808;decide,rfl⟩⟩⟩
   have hxa:Agg x NoP 0 g4.h (.agg [.int .i64 x.card,pa,ra]):=⟨_,rfl,cK.2 ⟨pa,ra,rfl,hpa.tree (R5 0),hra.tree (R5 0)⟩⟩;have hfl:=Jf (d:=d) (g:=g4) hd hm hxa ⟨rfl,rfl⟩ hg1 hcard hpin (by omega);have hfl:am C0 d N.aO [.agg [.int .i64 n.grain,b,cv,sv,.nils],.agg [.int .i64 x.card,pa,ra]] g4=.val (.bool (S.bK n.grain (S.aa n) x)):=hfl;cases hf:S.bK n.grain (S.aa n) x with
   | false =>
    rw[hf]at hfl;simp only[sz,simprocAttr,pg,h2,h4,h9,hp4.hq,hp4.h1,f94,hfl];refine bad _ _ (λhr=>?_) (by simp[RW]) (by simp[sx,h2]) (by simp[sx]);have:=N2 hr hxm;rw[hf]at this;cases this
   | true =>
    rw[hf]at hfl;simp only[sz,simprocAttr,pg,h4,h9,hp4.hq,f94,hfl];rw[eY2]at hp4;refine⟨⟨by simp[St,LRd,sx,h1,h2,h4,h80],hp4,λy hy=>?_⟩,by simp[h82],by simp[h81]⟩;rw[htk]at hy;rcases SG.1 hy with h|h
    ·exact hok y h
    ·rw[SK.1 h];exact⟨hplc,hf⟩
 ·rintro t df g ⟨rfl,h⟩;exact fin t g h
end
theorem M5(n:Net):Snb (Da n) 2:=lj λo=>gJ (m:=2) (dF _) (bm _) (by decide) (by decide)
theorem wm{d:Nat}{g:G}{v:AV}{n:Net}(hd:0<d)(hm:Agg n NoP 0 g.h v):∃r,am C0 d N.ak [v] g=.val r/\Da n NoP 0 .nil r:=by
 obtain⟨b,rows,rfl,e,hm',hN,r1,r2,r3,r4⟩:=gG d hm;rw[AF];refine bC DE (xs:=[.agg [.int .i64 n.grain,b]]) (by simp only[aJ,e]) (by simp[m7]) (M5 n) (by decide) hd ?_;have nl:=λg=>hN.len g;simp only[sz,simprocAttr,m7];obtain⟨g0,hg0⟩:∃g0,g0=(G.empty.new (VG 2 [[.int .i64 n.grain,b]])).new (VG 5 [[.int .i64 0,.nils,.nils,.nils,.nils]]):=⟨_,rfl⟩;rw[<-hg0];have f0:g0.h.get 0=VG 2 [[.int .i64 n.grain,b]]:=by rw[hg0];simp[sx,RW]
 have f1:g0.h.get 1=VG 5 [[.int .i64 0,.nils,.nils,.nils,.nils]]:=by rw[hg0];simp[sx]
 have f2:g0.nx=2:=by rw[hg0];simp[sx]
 clear hg0;obtain⟨Qf,hQf⟩:∃Qf,Qf=fnQ C0 (d+1) [SR.cell true 5 2,SR.tm 3] (λv g'=>∃P,Da n P 0 g'.h v):=⟨_,rfl⟩;have bad:∀(t:T) (g:G),¬NR n->g.h.get 1=VG 5 [[.int .i64 0,.nils,.nils,.nils,.nils]]->tat t 2=.hptr 1 0 0 0->tat t 3=.int .i64 50->Qf .ret t [] g:=λt g hn a1 a2 a3=>by rw[hQf];exact QJ hn a1 a2 a3
 rw[<-hQf];simp only[vI]
 by_cases c1:n.grain<1
 ·rw[eM];simp only[sz,simprocAttr,f0,f1,c1];exact bad _ _ (λh=>by have:=h.g1;omega) (by simp[RW]) (by simp[sx]) (by simp[sx])
 by_cases c2:60<n.grain
 ·rw[eM];simp only[sz,simprocAttr,f0,f1,c1,c2];exact bad _ _ (λh=>by have:=h.g2;omega) (by simp[RW]) (by simp[sx]) (by simp[sx])
 by_cases c3:(n.nodes.length:Int)<1
 ·rw[eM];simp only[sz,simprocAttr,f0,f1,c1,c2,c3,nl];exact bad _ _ (λh=>by have:=h.l1;omega) (by simp[RW]) (by simp[sx]) (by simp[sx])
 by_cases c4:8<(n.nodes.length:Int)
 ·rw[eM];simp only[sz,simprocAttr,f0,f1,c1,c2,c3,c4,nl];exact bad _ _ (λh=>by have:=h.l2;omega) (by simp[RW]) (by simp[sx]) (by simp[sx])
 refine bI (P:=λt' df g'=>df=[]/\g'=g0/\St t' [(1,.hptr 0 0 0 0),(2,.hptr 1 0 0 0)]) ?_ ?_
 ·simp only[sz,simprocAttr,f0,c1,c2,c3,c4,nl];simp[St,sx]
 rintro t df g1 ⟨rfl,rfl,h1,h2,-⟩;have hl8:n.nodes.length<=8:=by omega
 refine bI (P:=λt' df g'=>df=[]/\∃cv sv q,St t' (LRd q)/\RdH n b cv sv q (List.replicate n.nodes.length 0) (List.replicate n.nodes.length 0) g') ?_ ?_
 ·simp only[sz,simprocAttr,sf,h1,f0,nl];refine jS (b:=2) (n:=n.nodes.length) (by unfold aY;omega) (by unfold aY;omega) (by first| (simp;done)| (simp;omega)) λcv g2 hcv n2 fr2 v2 lg2=>?_;simp only[sy]at n2 fr2 v2 lg2;have k0:g2.h.get 0=VG 2 [[.int .i64 n.grain,b]]:=by rw[fr2 0 (by omega),f0]
  simp only[sz,simprocAttr,sf,h1,k0,nl,lg2];refine jS (b:=2) (n:=n.nodes.length) (by unfold aY;omega) (by unfold aY;omega) (by first| (simp;done)| (simp;omega)) λsv g3 hsv n3 fr3 v3 lg3=>?_;simp only[sy]at n3 fr3 v3 lg3;simp only[sz,simprocAttr,sf,lg3,hcv.cell.1,hcv.cell.2,hsv.cell.1,hsv.cell.2];refine⟨?_,cv,sv,g3.nx+1+1,?_,?_⟩
  ·simp only[Si,Sl,Sf,Sd,G.new_lg,G.put_lg,setLog_lg];refine aA [false,false,false,false,true,false,false,false,true,false,true,true] [(0,4),(4,5),(4,6),(4,7),(0,8),(1,8),(2,8),(3,8),(4,8),(0,10),(1,10),(2,10),(3,10),(4,10),(5,10),(6,10),(7,10),(8,10),(9,10)] (by simp[All2,ac,ap]) (by decide) ?_;rintro p hp x y hx hy;simp only[Sq,Sk,Ui]at hp;rcases hp with rfl|rfl|rfl|rfl|rfl|rfl|rfl|rfl|rfl|rfl|rfl|rfl|rfl|rfl|rfl|rfl|rfl|rfl|rfl<;>(simp at hx hy;subst hx;subst hy;refine bH rfl rfl rfl rfl ?_ ?_ ?_<;>simp[ac,ap,ae]<;>omega)
  ·simp[St,LRd,sx,h1,h2]
  ·have fa:∀i,i<g2.nx->g3.h.get i=g2.h.get i:=λi hi=>by have:=fr3 i (by omega);simpa using this
   have fb:∀i,i<g1.nx->g2.h.get i=g1.h.get i:=λi hi=>by have:=fr2 i (by omega);simpa using this
   have hcv':Own g2 2 cv 1 ((List.replicate n.nodes.length (0:Int)).map ci):=by simpa [ci] using hcv
   have hsv':Own g3 2 sv 1 ((List.replicate n.nodes.length (0:Nat)).map cu):=by simpa [cu] using hsv
   have hne:∀i,i<g3.nx->¬i=g3.nx+1+1:=λi hi=>by omega
   refine⟨?_,?_,?_,hcv'.fr (by simp;omega) λi hi=>?_,hsv'.fr (by simp;omega) λi hi=>?_,by omega,by first| (simp;done)| (simp;omega),λe=>?_,λe=>?_,λi hi hi2=>?_⟩
   ·simp[RW];rw[fa 0 (by omega),k0]
   ·simp[RW];rw[fa 1 (by omega),fb 1 (by omega),f1]
   ·simp[RW]
   ·have:=di v2 hi;simp[RW,hne i (by omega)];rw[fa i (by omega)]
   ·have:=di v3 hi;simp[RW,hne i (by omega)]
   ·have:=di v2 e;omega
   ·have:=di v3 e;omega
   ·have:=di v2 hi;have:=di v3 hi2;omega
 rintro t df g ⟨rfl,cv,sv,q,⟨h1,h2,h4,-⟩,hp⟩;clear f0 f1 f2;have nlen:=nl g;simp only[sz,simprocAttr,h4,hp.hq,nl];refine OK (b:=b) (cv:=cv) (sv:=sv) (q:=q) hl8 hN r1 r2 r3 r4 ⟨by simp[St,LRd,sx,S.ae,h1,h2,h4],by simpa using hp,by simp⟩ (by simp[sx]) (by simp[sx]) ?_ ?_
 ·intro t g hn a1 a2 a3;simp only[sx];exact bad t g hn a1 a2 a3
 clear h1 h2 h4 hp nlen;rintro t g ⟨⟨h48,h5,h1,h2,h4,-⟩,hp,hok⟩;rw[S5 (by rw[aX];exact R5 _)]at h5 hp;rw[Th,List.replicate_zero,Su]at hp;rw[S1]at hok;have hcb:∀c∈S.aa n,1<=c/\c<=4:=λc hc=>by obtain⟨y,hy,rfl⟩:=SX.1 hc;exact hok y hy
 simp only[sz,simprocAttr,uf]
 by_cases d1:1024<S.ae (S.aa n)
 ·simp only[sz,simprocAttr,h2,h5,hp.h1,d1];exact bad _ _ (λh=>by have:=h.worlds;omega) (by simp[RW]) (by simp[sx,h2]) (by simp[sx])
 simp only[sz,simprocAttr,h4,h5,hp.hq,nl,d1];refine OM (b:=b) (cv:=cv) (sv:=sv) (q:=q) (SH d) hl8 (by omega) hcb hN r1 r2 r3 r4 ⟨by simp[St,LRd,sx,h1,h2,h4],by simpa using hp,by simp⟩ (by simp[sx]) (by simp[sx]) ?_ ?_
 ·intro t g hn a1 a2 a3;simp only[sx];exact bad t g hn a1 a2 a3
 clear h1 h2 h4 h48 h5 hp;rintro t g ⟨⟨h80,h1,h2,h4,-⟩,hp,hok2⟩;rw[S5 (by simp[S.ak])]at hp;rw[Th,List.replicate_zero,Su]at hp;rw[S1]at hok2;have hpsl:(S.ak n).length=n.nodes.length:=by simp[S.ak]
 have hplt:∀y∈S.ak n,y<18446744073709551616:=λy hy=>by obtain⟨x,-,rfl⟩:=SX.1 hy;exact mr _
 have hplt2:∀y∈S.ak n,y<2 ^ (S.ak n).length:=λy hy=>by obtain⟨x,hx,rfl⟩:=SX.1 hy;rw[hpsl];exact L_ (by omega) λz hz=>gR (hok2 x hx).1 z hz
 obtain⟨z,ez,o,-,oz,az,rfl,hoz,haz⟩:=JZ (d:=d+1) (g:=g) (SH d) (hp.hs.nats' (by omega) hplt) (by omega) hplt2;have haz:=mz.1 haz;injection haz with haz;subst haz;obtain⟨_,e1,hoz⟩:=hoz;injection e1 with e1;subst e1;cases hac:S.bW (S.ak n) with
 | false =>
  rw[hac]at ez;simp only[sz,simprocAttr,ph,h2,h4,hp.hq,hp.h1,ez];exact bad _ _ (λh=>by have:=h.acyc;rw[hac]at this;cases this) (by simp[RW]) (by simp[sx,h2]) (by simp[sx])
 | true =>
  rw[hac]at ez;have hnr:S.aM n=true:=cY.2 ⟨by omega,by omega,by omega,by omega,hok,λx hx=>(hok2 x hx).1,by omega,hac,λx hx=>by
   have:=(hok2 x hx).2;simp only[S.bK,R7,Sg]at this;exact this.1,λx hx r hr=>by
   have:=(hok2 x hx).2;simp only[S.bK,S.bA,R7,Sg,Sy]at this;have:=this.2 r hr;exact⟨this.1.1,this.1.2,this.2⟩⟩
  have q2:=hp.q2;have hq1:¬(1=q):=by omega
  have hq0:¬(q=1):=by omega
  have oc:=hoz.cell;rw[hQf];simp only[sz,simprocAttr,ph,h2,h4,hp.hq,hp.h1,ez,hq1,oc.1,oc.2];have fh:∀i,¬i=1->¬i=q->((g.h.put q (VG 5 [[.int .i64 n.grain,b,cv,sv,oz]])).put 1 (VG 5 [[.int .i64 n.grain,b,cv,sv,oz]])).get i=g.h.get i:=λi hi hi2=>by simp[RW,hi,hi2]
  refine⟨λ_=>True,o,trivial,_,_,rfl,⟨_,rfl,?_⟩,?_⟩
  ·rw[S.cp,Sb hnr];refine ww.2 ⟨b,cv,sv,oz,rfl,hN.wide (R5 0),(hp.hc.intsV (by rw[aX];omega)).wd λi hi=>⟨trivial,fh i (by have:=(hp.hc.lt hi).1;omega) λe=>hp.d1 (by rw[hi,e])⟩,(hp.hs.natsV (by omega) hplt).wd λi hi=>⟨trivial,fh i (by have:=(hp.hs.lt hi).1;omega) λe=>hp.d2 (by rw[hi,e])⟩,hoz.wide (R5 0)⟩
  ·rw[Sb hnr];exact aI.2 rfl
end
end Hx
end
section
namespace Hx
open Go
noncomputable section
theorem Gf{n:Net}{o:List Int}(h:S.aM n=true):S.cp n o=(n,S.aa n,S.ak n,o):=by rw[S.cp,Sb h]
theorem oE{n:Net}{P:Nat->Prop}{k:Nat}{h:H}{v:AV}(hv:Da n P k h v) :
  (S.aM n=false/\∃cs,v=.tup [.agg cs,.int .i64 50]/\cs.length=5) \/
  (S.aM n=true/\∃b cv sv oz o,v=.tup [.agg [.int .i64 n.grain,b,cv,sv,oz],.int .i64 0]/\SlR P k h n.nodes b/\SlR P k h (S.aa n) cv/\SlR P k h (S.ak n) sv/\SlR P k h (o:List Int) oz):=by
 obtain⟨o,-,a,c,rfl,⟨cs,rfl,hc⟩,hi⟩:=hv;have hi:=aI.1 hi;injection hi with hi;subst hi;cases hn:S.aM n with
 | false =>
  refine .inl ⟨rfl,cs,rfl,?_⟩;obtain⟨a,b,c,e,rfl,-⟩:=ww.1 hc
  rfl
 | true =>
  rw[Gf hn]at hc;obtain⟨a,b,c,e,rfl,h1,h2,h3,h4⟩:=ww.1 hc;exact .inr ⟨rfl,a,b,c,e,o,rfl,h1,h2,h3,h4⟩
theorem Dm{d k2:Nat}{g:G}{P2:Nat->Prop}{v w:AV}{n:Net}{e:List Int}(hd:0<d)(hm:Agg n NoP 0 g.h v)(he:SlR P2 k2 g.h e w):am C0 d N.aM [v,w] g=.val (.int .i64 (S.aN n e)):=by
 obtain⟨w',e2,hw'⟩:=fU he d;obtain⟨b,rows,rfl,e1,hm',hN,r1,r2,r3,r4⟩:=gG d hm;have n2:=λg=>(hw' .nil).len g;have rb:=λh=>(hw' h).ints;rw[qs];refine jR se (xs:=[.agg [.int .i64 n.grain,b],w']) (by simp only[aJ,e1,e2]) (by simp[ij]) hd ?_;have hle:=he.1;simp only[sz,simprocAttr,ij,j4,jH];obtain⟨z,ez,hz⟩:=wm (d:=d+1) (g:=G.empty.new (VG 2 [[.int .i64 n.grain,b]])) (SH d) (n:=n) (v:=.agg [.int .i64 n.grain,b]) (hm' _);rcases oE hz with⟨hn,cs,rfl,hcs⟩|⟨hn,b',cv,sv,oz,o,rfl,hb,hcv,-,-⟩
 ·have hs:S.aN n e=50:=by rw[S.aN,hn];rfl
  obtain⟨a1,a2,a3,a4,a5,rfl⟩:∃a1 a2 a3 a4 a5,cs=[a1,a2,a3,a4,a5]:=by
   match cs,hcs with
   |[a1,a2,a3,a4,a5],_=>exact⟨a1,a2,a3,a4,a5,rfl⟩
  simp only[sz,simprocAttr,ez,hs,show ¬((50:Int)=0) from by decide]
 ·have nb:=λg=>(hb.tree (h':=g) (R5 0)).len;have hbl:=hb.1;have rc:=λh=>(hcv.tree (h':=h) (R5 0)).ints;have hcl:=aX n
  by_cases hl:e.length=n.nodes.length
  ·have hl':(e.length:Int)=(n.nodes.length:Int):=by rw[hl]
   simp only[sz,simprocAttr,ez,n2,hb.len,hl];refine aK (m:=n.nodes.length) (by omega) (λj t df g=>df=[]/\St t [(24,w'),(5,.hptr 1 0 0 0),(4,.int .i64 0)]/\g.h.get 1=VG 5 [[.int .i64 n.grain,b',cv,sv,oz]]/\((List.range j).all λv=>decide (-1<=e[v]?.getD 0)&&decide (e[v]?.getD 0<(S.aa n)[v]?.getD 0))=true)
    ⟨rfl,by simp[St,sx],by simp[sx],by simp⟩ (by simp[sx]) (by simp[sx]) (by decide) (by rintro j t df g v s (rfl|rfl|rfl)<;>simp[St,sx]) ?_ ?_
   ·rintro j t df g hj ⟨rfl,⟨h24,h5,h4,-⟩,hg,ha⟩ h26 h25;obtain⟨y,hy,-,-⟩:=an (l:=e) (j:=j) (by omega);obtain⟨c,hc,-,-⟩:=an (l:=S.aa n) (j:=j) (by omega);have u1:j<(e.map ci).length:=by simp;omega
    have u2:(e.map ci)[j]?=some (ci y):=by rw[R_,hy];rfl
    have u3:j<((S.aa n).map ci).length:=by simp;omega
    have u4:((S.aa n).map ci)[j]?=some (ci c):=by rw[R_,hc];rfl
    have hst:((List.range (j+1)).all λv=>decide (-1<=e[v]?.getD 0)&&decide (e[v]?.getD 0<(S.aa n)[v]?.getD 0))=(decide (-1<=y)&&decide (y<c)):=by rw[Tw,List.all_append,ha];simp[hy,hc]
    have bad:(decide (-1<=y)&&decide (y<c))=false->S.aN n e=2:=λh=>by
     have h1:S.aJ n e=false:=by
      rw[S.aJ];have:((List.range e.length).all λv=>decide (-1<=e[v]?.getD 0)&&decide (e[v]?.getD 0<(S.aa n)[v]?.getD 0))=false:=by rw[<-Ub,Sy];intro h2;have:=h2 j (Sm.2 (by omega));rw[hy,hc,Se,Se,h]at this;cases this
      rw[this,Bool.and_false]
     rw[S.aN,hn,h1];rfl
    by_cases c1:y < -1
    ·have:=bad (by simp;omega);simp only[sz,simprocAttr,h24,h26,rb,u1,u2,ci,c1,this]
    ·by_cases c2:c<=y
     ·have:=bad (by simp;omega);simp only[sz,simprocAttr,h24,h5,h26,hg,rb,rc,u1,u2,u3,u4,ci,c1,c2,this]
     ·have h3:((List.range (j+1)).all λv=>decide (-1<=e[v]?.getD 0)&&decide (e[v]?.getD 0<(S.aa n)[v]?.getD 0))=true:=by rw[hst];simp;omega
      simp only[sz,simprocAttr,h24,h5,h4,h26,h25,hg,rb,rc,u1,u2,u3,u4,ci,c1,c2,St,h3]
   ·rintro t df g ⟨rfl,⟨h24,h5,h4,-⟩,hg,ha⟩;have h1:S.aJ n e=true:=by rw[S.aJ,hl,Tx rfl,ha];rfl
    have hs:S.aN n e=0:=by rw[S.aN,hn,h1];rfl
    simp only[sz,simprocAttr,jI,hs]
  ·have hl':¬((e.length:Int)=(n.nodes.length:Int)):=by omega
   have h1:S.aJ n e=false:=by rw[S.aJ,S6 hl];rfl
   have hs:S.aN n e=2:=by rw[S.aN,hn,h1];rfl
   simp only[sz,simprocAttr,ez,n2,hb.len,hl',hs]
theorem qR{n:Net}(hr:NR n):∀j,j<=8->0<=S.ae (List.replicate j n.grain)/\S.ae (List.replicate j n.grain)<=167961600000000:=λj hj=>by
 have hg1:=hr.g1;have hg2:=hr.g2;have h1:=mu (l:=List.replicate j n.grain) λx hx=>by have:=(UK.1 hx).2;omega
 have h2:=MF (k:=(List.replicate j n.grain).length) (by simpa using hj);omega
theorem Lv{i j:Nat}(h:i+j<9223372036854775808):bU .shr (.int .u64 ((i+j:Nat):Int)) (.int .u64 1)=.val (.int .u64 (((i+j) / 2:Nat):Int)):=tB .u64 (i+j) 1 (by omega)
def CloneR(b:Nat)(l:List Int)(u:AV)(g:G):Prop:=(l=[]/\u=.nils)\/∃id lo,b<=id/\id<g.nx/\u=.hsl id 0 0 l.length none/\g.h.get id=.cells 1 (l.map ci) 0 lo false/\(0<l.length->lo=true)/\(l.length=0->lo=false)
theorem CloneR.fr{b:Nat}{l:List Int}{u:AV}{g g':G}(h:CloneR b l u g)(f:Fr g g'):CloneR b l u g':=by
 rcases h with h|⟨id,lo,h1,h2,h3,h4,h5⟩
 ·exact .inl h
 ·exact .inr ⟨id,lo,h1,SB h2 f.1,h3,by rw[f.2 id h2,h4],h5⟩
theorem u_{g:G}{id:Nat}{x:AV}{l:List Int}{K:AV->G->Prop}{D:ADf->Prop}(hx:ak g.h 1 x=some (l.map ci))(h3:g.h.get id=VG 1 [])(hid:id<g.nx)(hr:l.length<=1000)
  (k:∀u g',CloneR id l u g'->Fr g g'->K u g'):(dC 1 8 (.hsl id 0 0 0 none) x g).sat K g D:=by
 unfold dC;rw[hx];cases l with
 | nil =>
  simp only[bf,G.get_eq,h3,ay,aa,SQ,Td,SS,R7,TP,T8];rw[Sb ⟨by simp,by simp⟩,Sb (by simp)];exact k _ _ (.inr ⟨id,false,R5 _,hid,rfl,by simpa using h3,by simp,by simp⟩) (Fr.refl g)
 | cons y l =>
  simp only[bf,G.get_eq,h3,ay,aa,SQ,Td,SS,R7,Te,SJ,T8,Ss,SU,Un,Uu];rw[Sb ⟨by omega,by unfold aY;simp at hr;omega⟩,Sa (by omega),Sb (by rfl)];refine k _ _ (.inr ⟨g.nx,true,by omega,by simp,by simp,?_,by simp,by simp⟩) (Fr.new g _);simp[aS,bh,bg]
theorem FC{d k:Nat}{g:G}{l:List Int}{v:AV}{K:AV->G->Prop}{D:ADf->Prop}(hv:SlR NoP k .nil l v)(hl2:l.length<=1000)(kk:∀u g',CloneR g.nx l u g'->Fr g g'->(∀i∈g'.lg,i∈g.lg\/g.nx<=i)->K u g') :
  (am C0 d N.aa [v] g).sat K g D:=by
 rw[ja];refine Lz (K':=λu g''=>CloneR g.nx l u g'') (D2:=λ_=>True) ?_ ?_ λv g'' g' hv hf hn hg hlg=>kk v g' ?_ hf hlg
 ·rw[Tc,Ap (hv.tree (h':=g.h) (R5 k))];rfl
 ·refine dc jC (by simp[bu]) ?_
  by_cases hn:v=.nils
  ·subst hn;have hl:l=[]:=by have h:=hv.2;unfold SlV at h;exact h
   have hne:yc false .slice .nils .nils=.val (.bool true):=rfl;simp only[sz,simprocAttr,bu,hne];exact .inl ⟨hl,rfl⟩
  ·have hne:yc false .slice v .nils=.val (.bool false):=by
    have h:=hv.2;unfold SlV at h
    split at h
    ·exact absurd rfl hn
    ·rfl
    ·rfl
    ·exact h.1.elim
    ·exact h.elim
   simp only[sz,simprocAttr,bu,hne];refine u_ (l:=l) ((hv.tree (R5 _)).ints) (by simp[RW]) (by simp) hl2 λu g1 hu f1=>?_;simp only[sz,simprocAttr];exact hu
 ·rcases hv with h|⟨id,lo,h1,h2,h3,h4,h5⟩
  ·exact .inl h
  ·exact .inr ⟨id,lo,h1,by omega,h3,by rw[hg id (by rw[h4];simp),h4],h5⟩
theorem tC(ps:List Int)(k:Nat)(v:Int)(hk:k<=ps.length):(S.aH ps k v).length=ps.length+1:=by simp[S.aH];omega
structure FacH (bx nd:List AV) (w u:AV) (vars cards:List Int) (beh:Int) (q:Nat) (g:G):Prop where
 h0:g.h.get 0=VG 5 [bx]
 h1:g.h.get 1=VG 3 [[.nils,.nils,.nils]]
 h2:g.h.get 2=VG 3 [nd]
 h8:g.h.get q=VG 3 [[w,u,.nils]]
 h9:g.h.get (q+1)=VG 1 [[.int .i64 beh]]
 hw:Own g 3 w 1 (vars.map ci)
 hu:Own g (q+2) u 1 (cards.map ci)
 wq:∀i,vid w=some i->i<q
 q3:3<=q
 qn:q+2<=g.nx
def oI(q:Nat):List (Nat×AV):=[(2,.hptr 0 0 0 0),(4,.hptr 1 0 0 0),(5,.hptr 2 0 0 0),(8,.hptr q 0 0 0),(9,.hptr (q+1) 0 0 0)]
structure FacJ (gr:Int) (b cv sv oz:AV) (nd:List AV) (w:AV) (cs vars:List Int) (pl q j:Nat) (t:T) (g:G):Prop where
 st:St t ((38,w)::(6,.int .i64 (pl:Int))::oI q)
 hp:∃u,FacH [.int .i64 gr,b,cv,sv,oz] nd w u vars (S.ac cs (vars.take j)) (S.ae (S.ac cs ((vars.take j).drop (pl+1)))) q g
theorem zf{l:List Int}{j k:Nat}{p:Int}(hp:l.take (j+1)=l.take j++[p])(hj:j<l.length)(h:k<j):(l.take (j+1)).drop (k+1)=(l.take j).drop (k+1)++[p]:=by rw[hp,List.drop_append_of_le_length (by simp;omega)]
theorem ze{l:List Int}{j k:Nat}(h:j<=k):(l.take (j+1)).drop (k+1)=(l.take j).drop (k+1):=by rw[U3 (by simp;omega),U3 (by simp;omega)]
def GH(h:H)(n:Nat):G:=⟨h,n,[]⟩
@[simp] theorem GH_h (h:H) (n:Nat):(GH h n).h=h:=rfl
@[simp] theorem GH_nx (h:H) (n:Nat):(GH h n).nx=n:=rfl
theorem Own.gh{g:G}{b sz i:Nat}{v:AV}{rows:List (List AV)}(h:Own g b v sz rows)(hv:vid v=some i):Own (GH g.h (i+1)) b v sz rows:=by
 rcases h with h|⟨id,ep,lo,h1,h2,rfl,h3⟩
 ·exact .inl h
 ·injection hv with hv;subst hv;exact .inr ⟨id,ep,lo,h1,by simp,rfl,h3⟩
structure FacG (g0:G) (iw:Nat) (W:AV) (rws:List (List Int)) (B C t:Nat) (h:H):Prop where
 fr:∀i,i<g0.nx->i≠iw->h.get i=g0.h.get i
 ow:Own (GH h (iw+1)) 3 W 1 ((S.aY rws B C t).map ci)
theorem FacG.up{g0:G}{iw:Nat}{W:AV}{rws:List (List Int)}{B C t:Nat}{h h':H}(hf:FacG g0 iw W rws B C t h)(hv:vid W=some iw)(hi:iw<g0.nx)(hh:∀i,i<g0.nx->h'.get i=h.get i):FacG g0 iw W rws B C t h' :=
 ⟨λi h1 h2=>by rw[hh i h1,hf.fr i h1 h2],hf.ow.fr (by simp) λi h=>by rw[hv]at h;injection h with h;subst h;exact hh _ hi⟩
structure FacI (g0 g2:G) (iw:Nat) (W z:AV) (r:List Int) (rws:List (List Int)) (B C q j i:Nat) (t:T) (g:G):Prop where
 st:St t ((78,z)::(12,.int .i64 (j:Int))::oI q)
 hp:FacG g0 iw W rws B C (j*C+i) g.h
 nx:g2.nx<=g.nx
 fr:∀i,g0.nx<=i->i<g2.nx->g.h.get i=g2.h.get i
def S.bi(n:Net)(i:Nat)(x:Node)(p:Nat):Factor:=⟨S.aH x.parents p (i:Int),S.ac (S.aa n) (S.aH x.parents p (i:Int)),S.cw x.rows (S.ae (S.ac (S.aa n) (x.parents.drop p))).toNat x.card.toNat⟩
def RG(n:Net)(i:Nat)(x:Node):VS:=λP k h v=>∃p:Nat,p<=x.parents.length/\Agg (S.bi n i x p) P k h v
theorem FN{ps:List Int}{k:Nat}{v:Int}(hk:k<=ps.length):(S.aH ps k v).drop (k+1)=ps.drop k:=by
 have h1:S.aH ps k v=(ps.take k++[v])++ps.drop k:=by simp[S.aH]
 rw[h1,List.drop_left' (by simp;omega)]
theorem Own.low{g:G}{b b':Nat}{v:AV}{sz:Nat}{rows:List (List AV)}(h:Own g b v sz rows)(hb:b'<=b):Own g b' v sz rows:=by
 rcases h with h|⟨id,ep,lo,h1,h2⟩
 ·exact .inl h
 ·exact .inr ⟨id,ep,lo,by omega,h2⟩
theorem K3{w:AV}(h:w.cells=[w])(h2:w.isTup=false):eH [.nils,.nils,.nils] [((0,1),w)]=some [w,.nils,.nils]:=by
 simp[eH,h,h2,gI]
 rfl
def S.cQ(n:Net)(l:List Factor):Prop:=∀(i:Nat) (x:Node),i<l.length->n.nodes[i]?=some x->∃p,p<=x.parents.length/\l[i]?=some (S.bi n i x p)
def Q5(n:Net):VS:=λP k h v=>∃l:List Factor,((S.aM n=true->l.length=n.nodes.length)/\S.cQ n l)/\wI (One l) (One (if S.aM n then (0:Int) else 50)) P k h v
structure FasJ (n:Net) (W b cv sv oz:AV) (j:Nat) (t:T) (g:G):Prop where
 st:St t [(4,.hptr 1 0 0 0),(6,W)]
 hg:g.h.get 1=VG 5 [[.int .i64 n.grain,b,cv,sv,oz]]
 hW:∃(rows:List (List AV)) (l:List Factor),Own g 2 W 3 rows/\rows.length=n.nodes.length/\l.length=j/\All2 (Rp.rp NoP 0 .nil) l (rows.take j)/\S.cQ n l/\∀i,j<=i->i<n.nodes.length->rows[i]?=some [.nils,.nils,.nils]
end
end Hx
end
section
namespace Hx
open Go
abbrev QnM:Type:=Net×List Factor×List (List Int)
theorem xP{P:Nat->Prop}{k:Nat}{h:H}{x:QnM}{cs:List AV}:Rp.rp P k h x cs↔∃a b c,cs=[.int .i64 x.1.grain,a,b,c]/\SlR P k h x.1.nodes a/\SlR P k h x.2.1 b/\SlR P k h x.2.2 c:=by
 constructor
 ·rintro⟨c1,c2,rfl,h1,c3,c4,rfl,⟨b,rfl,hb⟩,⟨c,rfl,hc⟩⟩;obtain⟨a,rfl,ha⟩:=nJ.1 h1;exact⟨a,b,c,rfl,ha,hb,hc⟩
 ·rintro⟨a,b,c,rfl,ha,hb,hc⟩;exact⟨[_,a],[b,c],rfl,nJ.2 ⟨a,rfl,ha⟩,[b],[c],rfl,⟨b,rfl,hb⟩,⟨c,rfl,hc⟩⟩
theorem MU{n:Net}(h:NR n){k:Nat}{x:Node}(hx:n.nodes[k]?=some x):(k:Int) ∉ x.parents:=λhm=>by
 have hk:=(R6.1 hx).1;have hl:=h.l2;have h1:=uX.1 h.acyc k (by simp[S.ak];exact hk);have h2:Par (S.ak n) k=S.aw x.parents:=by simp[Par,S.ak,hx]
 have h3:(S.aw x.parents).testBit k=true:=(vX λy hy=>by have:=gR (h.places x (R9 hx)) y hy;omega).2 hm;have h4:=yJ (p:=S.ak n) (s:=Par (S.ak n) k) (S.ak n).length k (by rw[h2];exact h3);rw[h1]at h4;cases h4
theorem JF{l:List Int}{k:Int}(h:S.bP l k=true):l.Nodup:=by rw[List.Nodup,TG];intro i j hi hj hij e;have:=JE h (R4 hi) (R4 hj) hij;omega
theorem Lr{n:Net}(h:NR n){k:Nat}{x:Node}(hx:n.nodes[k]?=some x)(p:Nat):(S.aH x.parents p (k:Int)).Nodup:=by unfold S.aH;rw[List.perm_middle.nodup_iff,SW,U7];exact⟨MU h hx,JF (h.places x (R9 hx))⟩
theorem zz{n:Net}(h:NR n){k:Nat}{x:Node}(hx:n.nodes[k]?=some x)(p:Nat):∀y∈S.aH x.parents p (k:Int),0<=y/\y<n.nodes.length:=λy hy=>by
 have hk:=(R6.1 hx).1;have hp:=gR (h.places x (R9 hx));simp only[S.aH,SG,Sq]at hy;rcases hy with hy|rfl|hy
 ·exact hp y (SM hy)
 ·omega
 ·exact hp y (Tv hy)
theorem uO(cs ps:List Int):(S.ac cs ps).length=ps.length:=by simp[S.ac]
theorem Ja{n:Net}(h:NR n){k:Nat}{x:Node}(hx:n.nodes[k]?=some x)(p:Nat):∀c∈(S.bi n k x p).cards,1<=c/\c<=4 :=
 bM h.cs λy hy=>by rw[aX];exact zz h hx p y hy
def S.cI(m:Nat)(f:Factor)(i:Nat)(R:List Int):Prop:=R.length=m/\∀(j:Nat) (y:Int),i<=j->f.vars[j]?=some y->R[y.toNat]?=some (S.ae (f.cards.drop (j+1)))
theorem GL{m i:Nat}{f:Factor}{R:List Int}{y:Int}(h:S.cI m f (i+1) R)(hnd:f.vars.Nodup)(hin:∀y∈f.vars,0<=y/\y<m)(hy:f.vars[i]?=some y):S.cI m f i (R.set y.toNat (S.ae (f.cards.drop (i+1)))):=by
 refine⟨by simp[h.1],λj z hij hz=>?_⟩;have hyi:=hin y (R9 hy);have hzi:=hin z (R9 hz)
 by_cases e:j=i
 ·subst e;rw[hy]at hz;injection hz with hz;subst hz;rw[Tu (by rw[h.1];omega)]
 ·rw[Ty]
  ·exact h.2 j z (by omega) hz
  ·intro e2;have e3:y=z:=by omega
   subst e3;exact e ((List.getElem?_inj (R6.1 hz).1 hnd).1 (by rw[hz,hy]))
structure QnOk (n:Net) (y:QnM):Prop where
 net:y.1=n
 fl:y.2.1.length=n.nodes.length
 fs:S.cQ n y.2.1
 sl:y.2.2.length=n.nodes.length
 st:∀(k:Nat) (f:Factor) (R:List Int),y.2.1[k]?=some f->y.2.2[k]?=some R->S.cI n.nodes.length f 0 R
def S.bQ(n:Net)(ls:List (List Int)):Int:=if S.aM n then (if ls.all (S.aJ n) then 0 else 2) else 50
def Nw(n:Net)(ls:List (List Int)):VS:=λP k h v=>∃y:QnM,(S.bQ n ls=0->QnOk n y)/\wI (Agg y) (One (S.bQ n ls)) P k h v
end Hx
end
section
namespace Hx
open Go
noncomputable section
def C_(fl:AV)(m q k:Nat):List (Nat×AV):=[(11,.hptr q 0 0 0),(2,.hptr 0 0 0 0),(4,.hptr 1 0 0 0),(45,fl),(46,.int .i64 (m:Int)),(47,.int .i64 (k:Int))]
structure AskI (fl:AV) (m q k:Nat) (g0:G) (iR:Nat) (R:AV) (f:Factor) (fb j:Nat) (t:T) (g:G):Prop where
 st:St t ((13,.hptr fb 0 0 0)::(12,.int .i64 (k:Int))::(14,.int .i64 (S.ae (f.cards.drop j)))::C_ fl m q k)
 nx:g0.nx<=g.nx
 fr:∀i,i<g0.nx->i≠iR->g.h.get i=g0.h.get i
 ow:∃X:List Int,Own g 2 R 1 (X.map ci)/\S.cI m f j X
structure FOk (m:Nat) (f:Factor):Prop where
 cl:f.cards.length=f.vars.length
 vl:f.vars.length<=16
 cb:∀c∈f.cards,1<=c/\c<=4
 nd:f.vars.Nodup
 vr:∀y∈f.vars,0<=y/\y<m
theorem KX{n:Net}(h:NR n){k:Nat}{x:Node}(hx:n.nodes[k]?=some x){p:Nat}(hp:p<=x.parents.length):FOk n.nodes.length (S.bi n k x p):=by have h1:=gH (h.places x (R9 hx)) (by omega);have h2:=h.l2;have h3:=tC x.parents p (k:Int) hp;exact⟨uO _ _,by show (S.aH x.parents p (k:Int)).length<=16;omega,Ja h hx p,Lr h hx p,zz h hx p⟩
structure AskH (gr:Int) (b fl S_:AV) (m q:Nat) (fs:List Factor) (k:Nat) (g:G):Prop where
 h0:g.h.get 0=VG 2 [[.int .i64 gr,b]]
 h1:g.h.get 1=VG 4 [[.int .i64 0,.nils,.nils,.nils]]
 hq:g.h.get q=VG 4 [[.int .i64 gr,b,fl,S_]]
 q2:2<=q/\q<g.nx
 sq:∀i,vid S_=some i->i<q
 hS:∃(Vs:List AV) (l:List (List Int)),Own g 2 S_ 1 (Vs.map λv=>[v])/\Vs.length=m/\l.length=k/\All2 (λX v=>Own g (q+1) v 1 (X.map ci)) l (Vs.take k)/\∀(i:Nat) (f:Factor) (X:List Int),fs[i]?=some f->l[i]?=some X->S.cI m f 0 X
structure AskJ (gr:Int) (b fl S_:AV) (m q:Nat) (fs:List Factor) (k:Nat) (t:T) (g:G):Prop where
 st:St t [(11,.hptr q 0 0 0),(2,.hptr 0 0 0 0),(4,.hptr 1 0 0 0),(45,fl)]
 hp:AskH gr b fl S_ m q fs k g
theorem O2(n:Net)(ls:List (List Int)):Snb (Nw n ls) 2:=lj λy=>gJ (m:=2) (dF _) (bm _) (by decide) (by decide)
def qn0:QnM:=(⟨0,[]⟩,[],[])
theorem MN(P:Nat->Prop)(h:H):Agg qn0 P 0 h (.agg [.int .i64 0,.nils,.nils,.nils]):=⟨_,rfl,xP.2 ⟨.nils,.nils,.nils,rfl,⟨by show 0<9223372036854775808;decide,rfl⟩,⟨by show 0<9223372036854775808;decide,rfl⟩,⟨by show 0<9223372036854775808;decide,rfl⟩⟩⟩
theorem FI{a b c w:AV}(h:w.cells=[w])(h2:w.isTup=false)(h3:b.cells=[b])(h4:b.isTup=false):eH [.int .i64 0,.nils,.nils,.nils] [((0,2),.agg [a,c]),((2,1),b),((3,1),w)]=some [a,c,b,w]:=by
 have k1:(AV.agg [a,c]).cells=[a,c]:=rfl;have k2:(AV.agg [a,c]).isTup=false:=rfl;simp[eH,h,h2,h3,h4,gI,k1,k2]
 rfl
theorem Cm{α:Type}{l:List α}{i:Nat}{x y:α}(h1:l[i]?=some x)(h2:l[i]?=some y):x=y:=by rw[h1]at h2;injection h2
structure WtI (y:QnM) (b fl S_ wv va ca wa:AV) (gr wt:Int) (p:Int) (cards pv:List Int) (m k fb i:Nat) (t:T) (g:G):Prop where
 st:St t [(1,wv),(2,.hptr 0 0 0 0),(12,fl),(13,.int .i64 (m:Int)),(14,.int .i64 (k:Int)),(5,.int .i64 wt),(6,.int .i64 (k:Int)),(7,.hptr fb 0 0 0),(20,va),(8,.int .i64 (p - S.ah (cards.drop i) (pv.drop i)))]
 h0:g.h.get 0=VG 4 [[.int .i64 gr,b,fl,S_]]
 hf:g.h.get fb=VG 3 [[va,ca,wa]]
 nn:0<=p - S.ah (cards.drop i) (pv.drop i)
 nx:1<=g.nx
structure WtJ (n:Net) (vals:List Int) (b fl S_ wv:AV) (k:Nat) (t:T) (g:G):Prop where
 st:St t [(1,wv),(2,.hptr 0 0 0 0),(12,fl),(5,.int .i64 (S.ae ((List.range k).map (S.aC n vals))))]
 h0:g.h.get 0=VG 4 [[.int .i64 n.grain,b,fl,S_]]
 nx:1<=g.nx
def S.cz(vals e:List Int)(i:Nat):Bool:=decide (e[i]?.getD 0 = -1) || decide (e[i]?.getD 0=vals[i]?.getD 0)
def S.jm(vals e:List Int):Bool:=(List.range e.length).all (S.cz vals e)
theorem Px{vals e:List Int}(h:∀x∈e,-1<=x):S.jm vals e=S.bO vals e:=by
 have key:S.cz vals e=S.cP vals e:=by
  funext i;have h1:-1<=e[i]?.getD 0:=by
   cases hx:e[i]? with
   |none=>decide
   |some x=>exact h x (R9 hx)
  unfold S.cz S.cP;generalize e[i]?.getD 0=x at h1;congr 1;rw[decide_eq_decide];omega
 rw[S.jm,S.bO,key]
theorem P8{α:Type} [Rp α]{P:Nat->Prop}{k:Nat}{h:H}{l:List α}{w:AV}(hw:SlR P k h l w)(g:G):xW w g=.upd (.hptr g.nx 0 0 0) (g.new (VG 1 [[w]])):=by rw[BZ _ _ hw.cell.2,hw.cell.1];rfl
def Kh{α:Type} [Rp α](x:α)(sz:Nat):VS:=λP k h v=>(∃id cs,v=.hptr id 0 0 0/\P id/\h.get id=VG sz [cs]/\Rp.rp P k h x cs)\/∃t cs,v=.tptr t sz [cs] 0 0/\t<=k/\Rp.rp NoP k .nil x cs
theorem EL{α:Type} [Rp α]{x:α}{sz:Nat}{P:Nat->Prop}{k:Nat}{h:H}{v:AV}{n:Nat}(d:Nat)(r:Kh x sz P k h v)(hn:Rp.dp α<=n)(hd:Rp.dp α<=20:=by decide):∃v',Hx.snap h d (n+1) v=some v'/\Kh x sz NoP (max k d) .nil v':=by
 rcases r with⟨id,cs,rfl,-,hg,r⟩|⟨t,cs,rfl,ht,r⟩
 ·obtain⟨cs',e,r'⟩:=Rp.snap (n:=n) d r hn (by show _<=24;omega);obtain⟨m,e2,l2⟩:=Rp.tag (n:=aE) r' (by show _<=24;omega);refine⟨.tptr (Nat.max d (Nat.max m 0)) sz [cs'] 0 0,?_,.inr ⟨_,cs',rfl,?_,r'⟩⟩
  ·simp only[Hx.snap,hg,show Nat.beq 0 0=true from rfl,aJ,e,gW,iK,e2]
  ·show max d (max m 0)<=max k d;omega
 ·exact⟨.tptr t sz [cs] 0 0,rfl,.inr ⟨t,cs,rfl,by omega,Rp.mono r (λi hi=>hi.elim) (by omega)⟩⟩
theorem H_{α:Type} [Rp α]{x:α}{sz:Nat}{k:Nat}{h:H}{v:AV}{n:Nat}(r:Kh x sz NoP k h v):∃m,fp (n+1) v=some m/\m<=k:=by
 rcases r with⟨id,cs,rfl,hP,-⟩|⟨t,cs,rfl,ht,r⟩
 ·exact hP.elim
 ·exact⟨t,rfl,ht⟩
theorem Eu{cs vs:List Int}(h:InC cs vs)(hc:∀c∈cs,1<=c){i:Nat}{x c:Int}(hi:vs[i]?=some x)(hci:cs[i]?=some c)(hx:x≠c - 1):InC cs (vs.take i++(x+1)::List.replicate (vs.length - (i+1)) 0):=by
 have hil:=(R6.1 hi).1;have hl:=h.len;refine zE (by simp;omega) λj c' v hj hv=>?_;obtain⟨v',h1,h2,h3⟩:=h.get hj;have hcp:=hc c' (R9 hj)
 by_cases h4:j<i
 ·rw[So (by simp;omega),SN h4]at hv;rw[h1]at hv;injection hv with hv;omega
 ·rw[Sj (by simp;omega)]at hv;rw[SL,T_ (by omega)]at hv
  by_cases h5:j=i
  ·subst h5;rw[Th]at hv;simp at hv;rw[hi]at h1;injection h1 with h1;rw[hci]at hj;injection hj with hj;omega
  ·obtain⟨m,hm⟩:∃m,j - i=m+1:=⟨j - i - 1,by omega⟩;rw[hm,TF]at hv;have:=R9 hv;rw[UK]at this;omega
theorem Fm{cs:List Int}(hc:∀c∈cs,1<=c):InC cs (List.replicate cs.length 0) :=
 zE (by simp) λj c v hj hv=>by have:=R9 hv;rw[UK]at this;have:=hc c (R9 hj);omega
theorem wC{vs:List Int}{m:Nat}(h:m<vs.length):(vs.take (m+1)++List.replicate (vs.length - (m+1)) 0).set m 0=vs.take m++List.replicate (vs.length - m) 0:=by
 rw[TT h,S7,TE _ _ (by simp;omega),SL,T_ (by omega),Th];rw[show vs.length - m=(vs.length - (m+1))+1 by omega,Ue]
 rfl
theorem wB{vs:List Int}{m:Nat}(h:m<vs.length)(y:Int):(vs.take (m+1)++List.replicate (vs.length - (m+1)) 0).set m y=vs.take m++y::List.replicate (vs.length - (m+1)) 0:=by
 rw[TT h,S7,TE _ _ (by simp;omega),SL,T_ (by omega),Th]
 rfl
structure OdoJ (n:Net) (vs:List Int) (L:List (Nat×AV)) (u:AV) (g0:G) (m:Nat) (t:T) (g:G):Prop where
 st:tat t 6=.int .i64 ((m:Int) - 1)
 ss:St t L
 ow:Own g g0.nx u 1 ((vs.take m++List.replicate (vs.length - m) 0).map ci)
 mx:∀(j:Nat) (c:Int),m<=j->(S.aa n)[j]?=some c->vs[j]?.getD 0=c - 1
def LM(id:Nat)(gr:Int)(b fl S_ w u:AV)(k t1 t2:Nat):List (Nat×AV):=[(0,.yld id),(1,.tptr t1 4 [[.int .i64 gr,b,fl,S_]] 0 0),(2,.tptr t2 1 [[w]] 0 0),(4,u),(5,.int .i64 (k:Int))]
theorem Qg{a b u:AV}(ha:a.cells=[a]/\a.isTup=false)(hb:b.cells=[b]/\b.isTup=false)(hu:u.cells=[u]/\u.isTup=false):eH [.int .i64 0,.int .i64 0,.nils] [((0,1),a),((1,1),b),((2,1),u)]=some [a,b,u]:=by
 simp[eH,ha,hb,hu,gI]
 rfl
theorem xn{C:Cfg}{d id nt:Nat}{t:T}{ps:List Nat}{assign body:Code}{a b:SC}{dfr:Nat}{args:List AV}{g:G}{K:AV->G->Prop}{D:ADf->Prop}{t':T}
  (hg:g.h.get id=.loop nt t ps assign body dfr .ready none) (ha:fk C nt assign=a) (hb:fk C nt body=b) (hp:cP t nt ps args=some t')
  (h:wp C d (some id) a (λe t1 df g1=>e=.norm/\df=[]/\g1.h.get id=.loop nt t ps assign body dfr .ready none /\
   wp C d (some id) b (λe _ df g2=>df=[]/\g2.h.get id=.loop nt t ps assign body dfr .busy none/\((e=.norm/\K (.bool true) (g2.put id (.loop nt t ps assign body dfr .ready none)))\/(e=.ret/\K (.bool false) (g2.put id (.loop nt t ps assign body dfr .done (some .ret))))))
    t1 [] (g1.put id (.loop nt t ps assign body dfr .busy none))) t' [] g) :
  (cp (I C) d id args g).sat K g D:=by
 subst ha;subst hb;unfold cp;rw[show g.get id=_ from hg];dsimp only;rw[hp];dsimp only;have h1:=tA h;cases hc:(I C).code nt d (some id) assign t' [] g with
 |fail=>rw[hc]at h1;exact h1.elim
 | ok e t1 df g1 =>
  rw[hc]at h1;obtain⟨rfl,rfl,hg1,h2⟩:=h1;dsimp only;rw[show g1.get id=_ from hg1];dsimp only;have h3:=tA h2;cases hc2:(I C).code nt d (some id) body t1 [] (g1.put id (.loop nt t ps assign body dfr .busy none)) with
  |fail=>rw[hc2]at h3;exact h3.elim
  | ok e t2 df2 g2 =>
   rw[hc2]at h3;obtain⟨rfl,h4,h5⟩:=h3;dsimp only;rw[show g2.get id=_ from h4];rcases h5 with⟨rfl,h5⟩|⟨rfl,h5⟩<;>exact h5
structure CsOk (cs:List Int):Prop where
 b:∀c∈cs,1<=c/\c<=4
 l:cs.length<=8
def S.nc(cs:List Int):Nat:=(S.ae cs).toNat
theorem CsOk.nc{cs:List Int}(h:CsOk cs):1<=S.nc cs/\S.nc cs<=65536/\((S.nc cs:Nat):Int)=S.ae cs:=by
 obtain⟨h1,h2⟩:=cg h.b;have h3:(4:Int) ^ cs.length<=4 ^ 8:=by
  have:(4:Nat) ^ cs.length<=4 ^ 8:=Vg (by decide) h.l
  exact_mod_cast this
 have h4:(4:Int) ^ 8=65536:=by decide
 unfold S.nc;omega
def Up(B:Nat)(g g':G):Prop:=(∀i,i<B->g'.h.get i=g.h.get i)/\∀i∈g'.lg,i∈g.lg\/B<=i
theorem Up.refl(B:Nat)(g:G):Up B g g:=⟨λ_ _=>rfl,λ_ h=>.inl h⟩
theorem Up.trans{B:Nat}{g g1 g2:G}(h:Up B g g1)(h2:Up B g1 g2):Up B g g2:=⟨λi hi=>by rw[h2.1 i hi,h.1 i hi],λi hi=>(h2.2 i hi).elim (λh3=>h.2 i h3) .inr⟩
theorem Up.mono{B B':Nat}{g g':G}(h:Up B g g')(hb:B'<=B):Up B' g g':=⟨λi hi=>h.1 i (by omega),λi hi=>(h.2 i hi).imp id λh=>by omega⟩
theorem Up.new{B:Nat}{g:G}(hb:B<=g.nx)(o:AObj):Up B g (g.new o):=⟨λi hi=>by rw[G.new_h,af _ _ _ (by omega)],λi hi=>by simp at hi;rcases hi with rfl|hi;exact .inr hb;exact .inl hi⟩
theorem Up.put{B:Nat}{g:G}{j:Nat}(hb:B<=j)(o:AObj):Up B g (g.put j o):=⟨λi hi=>by rw[G.put_h,af _ _ _ (by omega)],λi hi=>by simp at hi;rcases hi with rfl|hi;exact .inr hb;exact .inl hi⟩
theorem Ax{g:G}{b:Nat}{v:AV}{sz n i off:Nat}{rows:List (List AV)}{row row':List AV}{x:AV}{K:AV->G->Prop}{D:ADf->Prop}(hv:Own g b v sz rows)(hr:rows[i]?=some row)
  (hl:x.cells.length=n) (ht:x.isTup=false) (hp:bw row off x.cells=some row')
  (k:∀g',Own g' b v sz (rows.set i row')->g'.nx=g.nx->(∀i,vid v≠some i->g'.h.get i=g.h.get i)->Up b g g'->K .undef g'):(kW n (jV sz v i off) x g).sat K g D:=by
 rcases hv with⟨rfl,rfl⟩|⟨id,ep,lo,h1,h2,rfl,h3⟩
 ·simp at hr
 ·simp only[jV,SU];rw[qV h3 hr rfl ht hl hp];refine k _ (.inr ⟨id,ep,lo,h1,by simpa using h2,by simp,by simp[aS]⟩) (by simp) (λi hne=>?_) (Up.put h1 _);rw[G.put_h,af _ _ _ (λe=>hne (by rw[e];rfl))]
def Uo(B:Nat)(g g':G):Prop:=Up B g g'/\g.nx<=g'.nx/\∀i,i≠B->i<g.nx->g'.h.get i=g.h.get i
theorem Uo.refl(B:Nat)(g:G):Uo B g g:=⟨Up.refl _ _,R5 _,λ_ _ _=>rfl⟩
theorem Uo.trans{B:Nat}{g g1 g2:G}(h:Uo B g g1)(h2:Uo B g1 g2):Uo B g g2:=⟨h.1.trans h2.1,Sz h.2.1 h2.2.1,λi hi hn=>by rw[h2.2.2 i hi (SB hn h.2.1),h.2.2 i hi hn]⟩
def Ul(B:Nat)(g g':G):Prop:=Up B g g'/\g.nx<=g'.nx/\∀i,(i<B\/B+3<=i)->i<g.nx->g'.h.get i=g.h.get i
theorem Ul.put{B:Nat}{g:G}{j:Nat}(hb:B<=j)(hb2:j<B+3)(o:AObj):Ul B g (g.put j o):=⟨Up.put hb o,by simp,λi hi _=>by rw[G.put_h,af _ _ _ (by omega)]⟩
def LMc(id bx:Nat)(u:AV)(k:Nat):List (Nat×AV):=[(0,.yld id),(1,.hptr bx 0 0 0),(3,u),(4,.int .i64 (k:Int))]
structure CA (bx:Nat) (w:AV) (cs:List Int) (g:G):Prop where
 b:g.h.get bx=VG 1 [[w]]
 r:ak g.h 1 w=some (cs.map ci)
 l:∀g':G,dO .slice w g'=.val (.int .i64 (cs.length:Int))
structure OdoC (cs vs:List Int) (L:List (Nat×AV)) (u:AV) (g0:G) (m:Nat) (t:T) (g:G):Prop where
 st:tat t 5=.int .i64 ((m:Int) - 1)
 ss:St t L
 ow:Own g g0.nx u 1 ((vs.take m++List.replicate (vs.length - m) 0).map ci)
 mx:∀(j:Nat) (c:Int),m<=j->cs[j]?=some c->vs[j]?.getD 0=c - 1
theorem NO{d id bx k m:Nat}{cs vs:List Int}{w u:AV}{Q:QT}{t:T}{g g0:G}(hb:CsOk cs)(hA:∀g',g.nx<=g'.nx->Uo g0.nx g g'->CA bx w cs g')(hc:InC cs vs)(hm:m<=cs.length)
  (h0:OdoC cs vs (LMc id bx u k) u g0 m t g) (hvu:vid u=some g0.nx)
  (fin:∀m' t g',m'<=cs.length->OdoC cs vs (LMc id bx u k) u g0 m' t g'->g.nx<=g'.nx->Uo g0.nx g g'->(m'=0\/∃x c,vs[m' - 1]?=some x/\cs[m' - 1]?=some c/\x≠c - 1/\0<m')->Q (.exit 2) t [] g') :
  wpL (wp C0 d none bW) Q t [] g:=by
 have hvl:=hc.len;have hl8:=hb.l;refine jZ (λm t df g'=>df=[]/\m<=cs.length/\OdoC cs vs (LMc id bx u k) u g0 m t g'/\g.nx<=g'.nx/\Uo g0.nx g g') m ⟨rfl,hm,h0,R5 _,Uo.refl _ _⟩ ?_;rintro m t df g1 ⟨rfl,hm,⟨h5,⟨h0,h1,h3,h4,-⟩,how,hmx⟩,hnx,hfr⟩;obtain⟨kx,ri,-⟩:=hA g1 hnx hfr;simp only[bW];cases m with
 | zero =>
  have c1:¬((0:Int)<=((0:Nat):Int) - 1):=by omega
  simp only[sz,simprocAttr,h5,c1];refine fin 0 _ _ (S2 _) ⟨?_,?_,?_,hmx⟩ ?_ ?_ (.inl rfl)
  ·simp[sx,h5]
  ·simp[St,LMc,sx,h0,h1,h3,h4]
  ·exact how
  ·exact hnx
  ·exact hfr
 | succ m =>
  have c1:(0:Int)<=((m+1:Nat):Int) - 1:=by omega
  have e1:((m+1:Nat):Int) - 1=(m:Int):=by omega
  rw[e1]at c1 h5;obtain⟨x,hx,-,hxm⟩:=an (l:=cs) (j:=m) (by omega);obtain⟨v,hv,hv0,hv1⟩:=hc.get hx;have hcx:=hb.b x hxm;have u1:m<((vs.take (m+1)++List.replicate (vs.length - (m+1)) 0).map ci).length:=by simp;omega
  have u2:((vs.take (m+1)++List.replicate (vs.length - (m+1)) 0).map ci)[m]?=some (ci v):=by rw[R_,So (by simp;omega),SN (by omega),hv];rfl
  have z1:m<(cs.map ci).length:=by simp;omega
  have z2:(cs.map ci)[m]?=some (ci x):=by rw[R_,hx];rfl
  have ru:=how.rows;have w1:IntKind.wrap .i64 (x - 1)=x - 1:=ax (by omega) (by omega)
  by_cases c2:v=x - 1
  ·simp only[sz,simprocAttr,h5,h1,h3,c1,ru,u1,u2,kx,ri,z1,z2,ci,w1,c2];refine Ax (v:=u) (sz:=1) (n:=1) (i:=m) (off:=0) (x:=.int .i64 0) (row':=ci 0) how u2 rfl rfl rfl λg4 hu4 n4 f4 p4=>?_;rw[<-TQ,wC (by omega)]at hu4;have w2:IntKind.wrap .i64 ((m:Int) - 1)=(m:Int) - 1:=ax (by omega) (by omega);simp only[sz,simprocAttr,h5,w2];refine⟨m,by omega,by omega,⟨by simp[sx],by simp[St,LMc,sx,h0,h1,h3,h4],hu4,λj c hj hc'=>?_⟩,by omega,hfr.trans ⟨p4,by omega,λi hi _=>f4 i λe=>hi (by rw[hvu]at e;injection e with e;exact e.symm)⟩⟩
   by_cases e:j=m
   ·subst e;rw[hx]at hc';injection hc' with hc';rw[hv,Se];omega
   ·exact hmx j c (by omega) hc'
  ·simp only[sz,simprocAttr,h5,h1,h3,c1,ru,u1,u2,kx,ri,z1,z2,ci,w1,c2];refine fin (m+1) _ _ hm ⟨?_,?_,?_,hmx⟩ ?_ ?_ (.inr ⟨v,x,hv,hx,c2,by omega⟩)
   ·simp[sx,h5]
   ·simp[St,LMc,sx,h0,h1,h3,h4]
   ·exact how
   ·exact hnx
   ·exact hfr
theorem NP{d id bx:Nat}{cs:List Int}{w:AV}{g0:G}{K:AV->G->Prop}(hb:CsOk cs)
  (J:Nat->G->Prop) (E:G->Prop) (hA:∀j g,J j g->CA bx w cs g) (hJ:∀j g g',Uo g0.nx g g'->J j g->J j g')
  (step:∀(j:Nat) (u:AV) (g:G) (K':AV->G->Prop) (D:ADf->Prop),j<S.nc cs->g0.nx+1<=g.nx->J j g->SlR (λi=>g0.nx<=i/\i<g.nx) 0 g.h (S.aD cs j) u ->
   (∀g',J (j+1) g'->g.nx<=g'.nx->(∀i,g0.nx<=i->i<g.nx->g'.h.get i=g.h.get i)->K' (.bool true) g')->(∀g',E g'->K' (.bool false) g')->(cp (I C0) d id [.int .i64 (j:Int),u] g).sat K' g D)
  (h0:J 0 g0) (fin:∀g',J (S.nc cs) g'->g0.nx<=g'.nx->K (.tup []) g') (finE:∀g',E g'->K (.tup []) g') :
  wp C0 d none aR.code (fnQ C0 d aR.res K) (co 0 [.yld id,.hptr bx 0 0 0] .nil) [] g0:=by
 have hl8:=hb.l;obtain⟨W1,W2,W3⟩:=hb.nc;have hcs1:=λc hc=>(hb.b c hc).1;obtain⟨kx0,-,nl⟩:=hA 0 g0 h0;obtain⟨Qf,hQf⟩:∃Qf,Qf=fnQ C0 d aR.res K:=⟨_,rfl⟩;rw[<-hQf];simp only[sz,simprocAttr,aR,kx0,nl];refine jS (b:=g0.nx) (n:=cs.length) (by unfold aY;omega) (by unfold aY;omega) (R5 _) λu g1 hu n1 fr1 v1 l1=>?_;simp only[sz,simprocAttr];obtain⟨INV,hINV⟩:∃INV:Nat->PT,INV=(λm t df g=>df=[]/\∃(j:Nat) (vs:List Int),m=S.nc cs - j/\j<S.nc cs/\InC cs vs/\S.ah cs vs=(j:Int)/\St t (LMc id bx u j)/\Own g g0.nx u 1 (vs.map ci)/\J j g/\g0.nx+1<=g.nx):=⟨_,rfl⟩;refine jZ INV (S.nc cs) ?_ ?_
 ·rw[hINV];exact⟨rfl,0,List.replicate cs.length 0,rfl,by omega,Fm hcs1,by rw[vP];rfl,by simp[St,LMc,sx],by simpa [ci] using hu,hJ 0 _ _ ⟨⟨fr1,λi hi=>by rw[l1]at hi;rcases Sq.1 hi with rfl|hi;exact .inr (R5 _);exact .inl hi⟩,by omega,λi _ hn=>fr1 i hn⟩ h0,by omega⟩
 intro m t df g hI;have hI2:=hI;rw[hINV]at hI2;obtain⟨rfl,j,vs,rfl,hj,hin,hidx,⟨h0,h1,h3,h4,-⟩,ho,hJj,hnx⟩:=hI2;clear hI;have hvl:=hin.len;have hval:S.aD cs (j:Int)=vs:=by rw[<-hidx];exact uV hcs1 hin
 have hvu:vid u=some g0.nx:=v1;have hsl:SlR (λi=>g0.nx<=i/\i<g.nx) 0 g.h vs u:=Own.sl (α:=Int) ho (by omega) (RS (λa=>aI.2 rfl) _) λi hi=>ho.lt hi;have w1:IntKind.wrap .i64 ((cs.length:Int) - 1)=(cs.length:Int) - 1:=ax (by omega) (by omega);obtain⟨R,hR⟩:∃R,R=(SC.seq (.blk 1 (sQ [oL 15 1,oN 16 15,VI 17 .sub 16 1,oM 5 17] (.seq (.blk 2 (.loop bW)) bX))) dz):=⟨_,rfl⟩;simp only[ib];rw[<-hR,eM];obtain⟨Q1,hQ1⟩:∃Q1,Q1=kL INV (S.nc cs - j) (kB 0 Qf):=⟨_,rfl⟩;rw[<-hQ1];have rest:∀(t:T) (g:G),St t (LMc id bx u j)->Own g g0.nx u 1 (vs.map ci)->J (j+1) g->g0.nx+1<=g.nx->wp C0 d none R Q1 t [] g:=by
  rintro t g ⟨h0,h1,h3,h4,-⟩ ho hJj hnx;rw[hR,hQ1];obtain⟨kx,-,-⟩:=hA _ _ hJj;simp only[sz,simprocAttr,h1,kx,nl,w1];refine NO (id:=id) (k:=j) (m:=cs.length) (w:=w) (u:=u) (vs:=vs) (g0:=g0) hb (λg' _ hU=>hA _ _ (hJ _ _ _ hU hJj)) hin (R5 _) ⟨by simp[sx],by simp[St,LMc,sx,h0,h1,h3,h4],?_,λi c hi hc=>?_⟩ hvu ?_
  ·rw[S5 (by omega),show vs.length - cs.length=0 by omega];simpa using ho
  ·have:=(R6.1 hc).1;omega
  rintro m' t2 g2 hm' ⟨h5,⟨h0,h1,h3,h4,-⟩,ho2,hmx⟩ hn2 hf2 hcase;have hJ2:J (j+1) g2:=hJ _ _ _ hf2 hJj;rcases hcase with rfl|⟨x,c,hx,hc,hxc,hm0⟩
  ·have hlast:j+1=S.nc cs:=by have:=yx (cs:=cs) (vs:=vs) hin.len.symm λi c hc=>hmx i c (S2 _) hc;omega
   have c1:(((0:Nat):Int) - 1<0):=by omega
   rw[hQf];simp only[sz,simprocAttr,bX,aR,h5,c1];rw[hlast]at hJ2;exact fin g2 hJ2 (by omega)
  ·obtain⟨i,rfl⟩:∃i,m'=i+1:=⟨m' - 1,by omega⟩;rw[U5]at hx hc;have hil:=(R6.1 hx).1;have e1:((i+1:Nat):Int) - 1=(i:Int):=by omega
   rw[e1]at h5;have c1:¬((i:Int)<0):=by omega
   have u1:i<((vs.take (i+1)++List.replicate (vs.length - (i+1)) 0).map ci).length:=by simp;omega
   have u2:((vs.take (i+1)++List.replicate (vs.length - (i+1)) 0).map ci)[i]?=some (ci x):=by rw[R_,So (by simp;omega),SN (by omega),hx];rfl
   have ru:=ho2.rows;obtain⟨x',hx',hx0,hx1⟩:=hin.get hc;rw[Cm hx' hx]at hx0 hx1;have hcb:=hb.b c (R9 hc);have w2:IntKind.wrap .i64 (x+1)=x+1:=ax (by omega) (by omega);simp only[sz,simprocAttr,bX,h5,c1,h3,ru,u1,u2,ci,w2];refine Ax (v:=u) (sz:=1) (n:=1) (i:=i) (off:=0) (x:=.int .i64 (x+1)) (row':=ci (x+1)) ho2 u2 rfl rfl rfl λg4 hu4 n4 f4 p4=>?_;rw[<-TQ,wB hil]at hu4;have hin2:=Eu hin hcs1 hx hc hxc;have hidx2:=D9 (cs:=cs) (vs:=vs) hin.len.symm hx λk c hk hc=>hmx k c (by omega) hc;rw[hidx]at hidx2;have hlt2:=dB hb.b hin2;have w3:IntKind.wrap .i64 ((j:Int)+1)=((j+1:Nat):Int):=by rw[ax (by omega) (by omega)];rfl
   simp only[sz,simprocAttr,dz,h4,w3];refine⟨S.nc cs - (j+1),by omega,?_⟩;rw[hINV];refine⟨rfl,j+1,_,rfl,by omega,hin2,by rw[hidx2];rfl,by simp[St,LMc,sx,h0,h1,h3],hu4,hJ _ _ _ ⟨p4,by omega,λi hi _=>f4 i λe=>hi (by rw[hvu]at e;injection e with e;exact e.symm)⟩ hJ2,by omega⟩
 simp only[sz,simprocAttr,h0,h3,h4];have st:=λK' D=>step j u g K' D hj hnx hJj (by rw[hval];exact hsl);show (cp (I C0) d id [.int .i64 (j:Int),u] g).sat _ _ _;refine st _ _ (λg' hJ' hn' hf'=>?_) λg' hE=>?_
 ·simp only[sz,simprocAttr];exact rest _ _ (by simp[St,LMc,sx,h0,h1,h3,h4]) (ho.fr hn' λi hi=>hf' i (ho.lt hi).1 (ho.lt hi).2) hJ' (by omega)
 ·rw[hQ1,hQf];simp only[sz,simprocAttr,aR];exact finE g' hE
theorem KW:C0.ext N.aV=none:=by kernel_rfl
theorem JL{d nt p q r bx:Nat}{cs:List Int}{w:AV}{ca cb:SC}{Q:QT}{t:T}{df:List ADf}{g:G}(hb:CsOk cs)
  (hv:tat t r=.clo N.aV [] [.hptr bx 0 0 0]) (hp:p<nt) (hq:q<nt)
  (J:Nat->G->Prop) (E:G->Prop) (hA:∀j g1,J j g1->CA bx w cs g1) (hJ:∀j g1 g2,Ul g.nx g1 g2->J j g1->J j g2) (hE:∀g1 g2,Ul g.nx g1 g2->E g1->E g2) (h0:J 0 g)
  (step:∀(j:Nat) (u:AV) (g1:G),j<S.nc cs->J j g1->g.nx+3<=g1.nx->SlR (λi=>g.nx+2<=i/\i<g1.nx) 0 g1.h (S.aD cs j) u ->
   wp C0 d (some (g.nx+1)) ca (λe t1 df g1'=>e=.norm/\df=[]/\Fr g1 g1'/\∀g2:G,g2.nx=g1'.nx->(∀i,i≠g.nx+1->g2.h.get i=g1'.h.get i)->Up g.nx g1' g2 ->
    wp C0 d (some (g.nx+1)) cb (λe _ df g3=>df=[]/\RowQ g.nx g2 g3 e (J (j+1) g3) (E g3)) t1 [] g2)
    (fq (fq t p (.int .i64 (j:Int))) q u) [] g1)
  (fin:∀g',J (S.nc cs) g'->g.nx+2<=g'.nx->g'.h.get g.nx=.dfr true->Q .norm t (.mark g.nx::df) g')
  (finE:∀g',E g'->g.nx+2<=g'.nx->g'.h.get g.nx=.dfr true->Q .ret t (.mark g.nx::df) g') :
  wp C0 d none (.rng nt (.t r) [p,q] ca cb) Q t df g:=by
 refine qY (fn:=N.aV) (first:=[]) (cap:=[.hptr bx 0 0 0]) (s:=aR) hv KW pQ (by simp[aR]) ?_;intro assign body ha hb';have e1:((g.new (.dfr true)).new (.loop nt t [p,q] assign body g.nx .ready none)).nx=g.nx+2:=by simp
 refine NP (g0:=(g.new (.dfr true)).new (.loop nt t [p,q] assign body g.nx .ready none)) (id:=g.nx+1) (bx:=bx) (w:=w) hb
  (λj g'=>J j g'/\g'.h.get g.nx=.dfr true/\g'.h.get (g.nx+1)=.loop nt t [p,q] assign body g.nx .ready none)
  (λg'=>E g'/\g'.h.get g.nx=.dfr true/\g'.h.get (g.nx+1)=.loop nt t [p,q] assign body g.nx .done (some .ret)/\g.nx+2<=g'.nx) (λj g' h=>hA j g' h.1) ?_ ?_ ?_ ?_ ?_
 ·rintro j h h' hh ⟨a1,a2,a3⟩;rw[e1]at hh;exact⟨hJ j h h' ⟨hh.1.mono (by omega),hh.2.1,λi hi hn=>hh.2.2 i (by omega) hn⟩ a1,by rw[hh.1.1 _ (by omega),a2],by rw[hh.1.1 _ (by omega),a3]⟩
 ·rintro j u g1 K' D hj hn ⟨a1,a2,a3⟩ hsl kk kE;rw[e1]at hn kk hsl;refine xn a3 ha hb' (t':=fq (fq t p (.int .i64 (j:Int))) q u) ?_ ?_
  ·simp only[cP,aa,Tg,Sb hp,Sb hq];rfl
  ·refine cw _ (step j u g1 hj a1 (by omega) hsl) ?_;rintro e t1 df g1' ⟨rfl,rfl,hfr,h⟩;have hl0:g.nx+1<g1.nx:=by omega
   have hl:g.nx+1<g1'.nx:=SB hl0 hfr.1;have a2':g1'.h.get g.nx=.dfr true:=by rw[hfr.2 _ (by omega),a2]
   have a3':g1'.h.get (g.nx+1)=.loop nt t [p,q] assign body g.nx .ready none:=by rw[hfr.2 _ hl0,a3]
   refine⟨rfl,rfl,a3',?_⟩;refine cw _ (h (g1'.put (g.nx+1) (.loop nt t [p,q] assign body g.nx .busy none)) (by simp) (λi hi=>by simp[RW,hi]) (Up.put (by omega) _)) ?_;rintro e t2 df g3 ⟨rfl,⟨b2,b3,b1⟩⟩;have b4:g3.h.get (g.nx+1)=.loop nt t [p,q] assign body g.nx .busy none:=by rw[b3 _ (by omega) (by simpa using hl)];simp[RW]
   have b5:g3.h.get g.nx=.dfr true:=by rw[b3 _ (by omega) (by simp;omega)];simp[RW,a2']
   refine⟨rfl,b4,?_⟩;have b2':g1'.nx<=g3.nx:=by simpa using b2
   have hf1:=hfr.1;rcases b1 with⟨rfl,b1⟩|⟨rfl,b1⟩
   ·refine .inl ⟨rfl,kk _ ⟨hJ _ g3 _ (Ul.put (by omega) (by omega) _) b1,?_,?_⟩ (by simp;omega) λi h1 h2=>?_⟩
    ·simp[RW,b5]
    ·simp[RW]
    ·have hne:¬i=g.nx+1:=by omega
     have:=b3 i (by omega) (by simp;omega);simp[RW,hne]at this ⊢;rw[this,hfr.2 i h2]
   ·refine .inr ⟨rfl,kE _ ⟨hE g3 _ (Ul.put (by omega) (by omega) _) b1,?_,?_,?_⟩⟩
    ·simp[RW,b5]
    ·simp[RW]
    ·simp;omega
 ·refine⟨hJ 0 g _ ⟨(Up.new (R5 _) _).trans (Up.new (by simp) _),by simp;omega,λi hi hn=>by simp[RW,show ¬i=g.nx by omega,show ¬i=g.nx+1 by omega]⟩ h0,?_,?_⟩
  ·simp[RW]
  ·simp[RW]
 ·rintro g' ⟨a1,a2,a3⟩ hn;rw[e1]at hn;refine⟨_,_,_,_,_,_,.inl ⟨a3,fin _ (hJ _ g' _ (Ul.put (by omega) (by omega) _) a1) (by simpa using hn) ?_⟩⟩;simp[RW,a2]
 ·rintro g' ⟨a1,a2,a3,hn⟩;refine⟨_,_,_,_,_,_,.inr ⟨a3,finE _ (hE g' _ (Ul.put (by omega) (by omega) _) a1) (by simpa using hn) ?_⟩⟩;simp[RW,a2]
theorem KI{d:Nat}{g:G}{w:AV}{K:AV->G->Prop}{D:ADf->Prop}(hc:w.cells=[w])(ht:w.isTup=false)
  (kk:K (.clo N.aV [] [.hptr g.nx 0 0 0]) (g.new (VG 1 [[w]]))):(am C0 d N.bJ [w] g).sat K g D:=by
 rw[pJ];refine dc rJ (by simp[gv]) ?_;have hbx:∀g:G,xW w g=.upd (.hptr g.nx 0 0 0) (g.new (VG 1 [[w]])):=λg=>by rw[BZ w g ht,hc];rfl
 simp only[sz,simprocAttr,gv,jP,hbx];exact kk
theorem KU{n:Net}{e:List Int}(h:S.aJ n e=true):e.length=n.nodes.length/\∀x∈e,-1<=x:=by simp only[S.aJ,R7,Sg,Sy]at h;refine⟨h.1,λx hx=>?_⟩;obtain⟨i,hi,he⟩:=Tl.1 hx;have:=(h.2 i (Sm.2 hi)).1;rw[R4 hi,he]at this;exact this
def S.pe(n:Net)(e:List Int)(w:Nat):Bool:=S.bO (S.aD (S.aa n) (w:Int)) e
theorem Ml(n:Net)(e:List Int):S.bF n e=S.bc n (S.pe n e) (S.ba n):=rfl
theorem O_{n:Net}(h:NR n){p:Nat->Bool}{j:Nat}(hj:j<=1024):0<=S.bc n p j/\S.bc n p j<=171992678400000000:=by have:=uS h p j;omega
theorem Ra(g:G)(o o':AObj):Fr g ((g.new o).put g.nx o'):=⟨by simp,λi hi=>by simp[RW,show ¬i=g.nx by omega]⟩
theorem MM{k:Nat}{l:List Int}{v:AV}{h:H}(hl:SlR NoP k .nil l v):Rp.rp (λ_=>True) k h l [v]:=by obtain⟨w,hw,q⟩:=Rp.tree (P:=λ_=>True) (k':=k) (h':=h) (show Rp.rp NoP k .nil l [v] from ⟨v,rfl,hl⟩) (R5 _);exact⟨w,hw,q⟩
theorem RM{a:List Int}{va:AV}{q k:Nat}{h:H}(ha:SlR NoP k .nil a va)(hq:h.get q=VG 1 [[va]]):SlR (λ_=>True) k h [a] (.hsl q 0 0 1 none):=by refine⟨by show 1<_;decide,trivial,[[va]],?_,MM ha,trivial⟩;show ak h 1 _=_;simp only[ak,hq];rfl
theorem Ft{n:Net}{ls:List (List Int)}{P:Nat->Prop}{k:Nat}{h:H}{v:AV}(hv:Nw n ls P k h v) :
  ∃y cs,v=.tup [.agg cs,.int .i64 (S.bQ n ls)]/\(S.bQ n ls=0->QnOk n y)/\Rp.rp P k h y cs/\∃a1 a2 a3 a4,cs=[a1,a2,a3,a4]:=by
 obtain⟨y,hy,a,c,rfl,⟨cs,rfl,hc⟩,hi⟩:=hv;have hi:=aI.1 hi;injection hi with hi;subst hi;obtain⟨a2,a3,a4,rfl,-⟩:=xP.1 hc;exact⟨y,_,rfl,hy,hc,_,_,_,_,rfl⟩
theorem ER(n:Net)(e:List Int):S.bQ n [e]=S.aN n e:=by rw[S.bQ,S.aN];simp
theorem oG{n:Net}{e:List Int}:S.aN n e=0↔S.aM n=true/\S.aJ n e=true:=by rw[S.aN];cases S.aM n<;>cases S.aJ n e<;>simp
def S.ch(n:Net)(e:List Int):QI:=if S.aN n e=0 then S.a_ (S.bF n e).toNat (S.bE n).toNat else (0,0)
theorem Gi{n:Net}(hr:NR n):1<=S.bE n/\S.bE n<=167961600000000:=by
 have h1:=qR hr n.nodes.length hr.l2;have h2:1<=S.bE n:=gT λc hc=>by have:=(UK.1 hc).2;have:=hr.g1;omega
 exact⟨h2,h1.2⟩
structure GvJ (g0:G) (q:Nat) (s:Int) (h:H):Prop where
 fr:∀i,i<g0.nx->i≠q->h.get i=g0.h.get i
 hq:h.get q=VG 1 [[.int .i64 s]]
structure ND where
 c:Nat->Int
 P:Nat->List Int
 m:Nat->Nat
 R:Nat->Nat->List Int
 o:Nat->Nat
def LN(n:Nat)(D:ND):Ky->Prop:=λk=>k=(0,0)\/∃i q,k=(i+1,q)/\i<n/\q<2+D.o i
theorem LN.z{n:Nat}{D:ND}:LN n D (0,0):=.inl rfl
theorem LN.s{n:Nat}{D:ND}{i q:Nat}(h:i<n)(hq:q<2+D.o i):LN n D (i+1,q):=.inr ⟨i,q,rfl,h,hq⟩
theorem LN.p{n:Nat}{D:ND}{i:Nat}(h:i<n):LN n D (i+1,0):=LN.s h (by omega)
theorem LN.r{n:Nat}{D:ND}{i:Nat}(h:i<n):LN n D (i+1,1):=LN.s h (by omega)
def ip(D:ND)(V:Ky->AV)(i:Nat):List AV:=[.int .i64 (D.c i),V (i+1,0),V (i+1,1)]
def GD(V:Ky->AV)(i r:Nat):List AV:=[V (i+1,2+r)]
structure BN (K n:Nat) (V:Ky->AV) (E:Ky->En) (D:ND):Prop where
 ns:E (0,0)=.sl 3 ((List.range n).map (ip D V))
 ps:∀i,i<n->E (i+1,0)=.sl 1 ((D.P i).map ci)/\(D.P i).length<=K
 rs:∀i,i<n->E (i+1,1)=.sl 1 ((List.range (D.m i)).map (GD V i))/\D.m i<=K
 rr:∀i r,i<n->r<D.m i->(D.R i r).length<=K/\((r<D.o i/\E (i+1,2+r)=.sl 1 ((D.R i r).map ci))\/SlR NoP 0 .nil (D.R i r) (V (i+1,2+r)))
def ND.node(D:ND)(i:Nat):Node:=⟨D.c i,D.P i,(List.range (D.m i)).map (D.R i)⟩
theorem Io{g:G}{b:Nat}{v:AV}{l:List Int}{P:Nat->Prop}(h:Own g b v 1 (l.map ci))(hl:l.length<9223372036854775808)(hp:∀i,b<=i->P i):SlR P 0 g.h l v :=
 Own.sl (α:=Int) h hl (RS (λa=>aI.2 rfl) _) λi hi=>hp i (h.lt hi).1
theorem BN.rows{g:G}{b K n i:Nat}{V:Ky->AV}{E:Ky->En}{D:ND}{L:Ky->Prop}(hB:BN K n V E D)(hH:Hp g b L V E)(hL:∀k,LN n D k->L k)(hK:K<=1000000)(hi:i<n):SlR (λj=>b<=j) 0 g.h ((List.range (D.m i)).map (D.R i)) (V (i+1,1)):=by
 obtain⟨h1,h2⟩:=hB.rs i hi;have ho:=hH.own (hL _ (LN.r hi)) h1;refine Own.sl (α:=List Int) ho (by simp;omega) (wJ λr hr=>?_) λj hj=>(ho.lt hj).1;have hr:=Sm.1 hr;obtain⟨h4,h3⟩:=hB.rr i r hi hr;rcases h3 with⟨h5,h3⟩|h3
 ·exact mA.2 ⟨_,rfl,Io (hH.own (hL _ (LN.s hi (by omega))) h3) (by omega) λ_ h=>h⟩
 ·exact mA.2 ⟨_,rfl,(h3.tree (h':=g.h) (R5 0)).wd λ_ h=>h.elim⟩
theorem Hp.off{κ:Type} [DecidableEq κ]{g:G}{b:Nat}{L:κ->Prop}{V:κ->AV}{E:κ->En}{k:κ}{x:AV}(h:Hp g b L V E)(hk:¬L k):Hp g b L (ups V k x) E:=by have ne:∀j,L j->j≠k:=λj hj e=>hk (by rw[<-e];exact hj);exact⟨λj hj=>by rw[aw V x (ne j hj)];exact h.ok j hj,λj l hj hl hne id=>by rw[aw V x (ne j hj),aw V x (ne l hl)];exact h.sep j l hj hl hne id,h.nx⟩
theorem BN.pars{g:G}{b K n i:Nat}{V:Ky->AV}{E:Ky->En}{D:ND}{L:Ky->Prop}(hB:BN K n V E D)(hH:Hp g b L V E)(hL:∀k,LN n D k->L k)(hK:K<=1000000)(hi:i<n):SlR (λj=>b<=j) 0 g.h (D.P i) (V (i+1,0)):=by obtain⟨h1,h2⟩:=hB.ps i hi;exact Io (hH.own (hL _ (LN.p hi)) h1) (by omega) λ_ h=>h
theorem BN.nodes{g:G}{b K n:Nat}{V:Ky->AV}{E:Ky->En}{D:ND}{L:Ky->Prop}(hB:BN K n V E D)(hH:Hp g b L V E)(hL:∀k,LN n D k->L k)(hK:K<=1000000)(hn:n<=1000000):SlR (λj=>b<=j) 0 g.h ((List.range n).map D.node) (V (0,0)):=by have ho:=hH.own (hL _ LN.z) hB.ns;refine Own.sl (α:=Node) ho (by simp;omega) (wJ λi hi=>?_) λj hj=>(ho.lt hj).1;have hi:=Sm.1 hi;exact cK.2 ⟨_,_,rfl,hB.pars hH hL hK hi,hB.rows hH hL hK hi⟩
theorem py{α:Type}(f:Nat->α){n i:Nat}(x:α)(hi:i<n):((List.range n).map f).set i x=(List.range n).map (ups f i x):=by
 refine Vj (by simp) λj h1 h2=>?_;rw[List.getElem_set]
 by_cases e:i=j
 ·subst e;simp[aM]
 ·rw[Sa e];simp[aw _ _ (To e)]
theorem iJ{α:Type}(f:Nat->α){n i:Nat}(hi:i<n):((List.range n).map f)[i]?=some (f i):=by simp[hi]
theorem zW{D D':ND}{V V':Ky->AV}{n i:Nat}{row:List AV}(h0:row=ip D' V' i)(h:∀j,j<n->j≠i->ip D V j=ip D' V' j):(List.range n).map (ups (ip D V) i row)=(List.range n).map (ip D' V'):=by
 refine Ti λj hj=>?_;have hj:=Sm.1 hj
 by_cases e:j=i
 ·subst e;rw[aM,h0]
 ·rw[aw _ _ e,h j hj e]
def Nx(gr c:Int)(l:List Int):Prop:=(l.length:Int)=c/\(∀y∈l,0<=y/\y<=gr)/\l.sum=gr
def RJ(gr:Int)(C:Nat):VS:=λP k h v=>∃l:List Int,(l.length=C/\Nx gr C l)/\One l P k h v
def S.rq(gr s x:Int):Int:=gr*x / s
theorem Ic(gr s:Int):S.rq gr s 0=0:=by simp[S.rq]
theorem GC{gr s:Int}(hs:0<=s)(hg:0<=gr):∀l:List Int,(∀x∈l,0<=x/\x<=s)->0<=(l.map (S.rq gr s)).sum/\(l.map (S.rq gr s)).sum*s<=gr*l.sum
 |[],_=>by simp
 | x::l,h=>by
  have ih:=GC hs hg l λy hy=>h y (Tj _ hy);have hx:=h x (Ts ..);have h1:0<=S.rq gr s x:=Int.ediv_nonneg (UI hg hx.1) hs;have h2:S.rq gr s x*s<=gr*x:=by
   by_cases e:s=0
   ·have:x=0:=by omega
    subst this;simp[S.rq,e]
   ·exact Int.ediv_mul_le _ e
  simp only[Te,UG];refine⟨by omega,?_⟩;rw[Vf,Int.mul_add];omega
theorem yz:∀(l:List Int),(∀x∈l,0<=x)->0<=l.sum/\∀x∈l,x<=l.sum
 |[],_=>by simp
 | a::l,h=>by
  have ih:=yz l λy hy=>h y (Tj _ hy);have ha:=h a (Ts ..);simp only[UG];refine⟨by omega,λx hx=>?_⟩;rcases Sq.1 hx with rfl|hx
  ·omega
  ·have:=ih.2 x hx;omega
theorem Ir:∀(l:List Int) (i:Nat) (x y:Int),l[i]?=some x->(l.set i y).sum=l.sum - x+y
 |[],i,x,y,h=>by simp at h
 | a::l,0,x,y,h=>by simp at h;subst h;simp only[Uk,UG];omega
 | a::l,i+1,x,y,h=>by rw[U4,UG,UG,Ir l i x y (by simpa using h)];omega
theorem OP{gr s:Int}{X:List Int}{la:Nat}(hg:0<=gr)(hX:∀x∈X,0<=x/\x<=s)(hs:s=X.sum)(hla:la<X.length){x:Int}(hx:(X.map (S.rq gr s))[la]?=some x):Nx gr X.length ((X.map (S.rq gr s)).set la (x+(gr - (X.map (S.rq gr s)).sum)))/\0<=x+(gr - (X.map (S.rq gr s)).sum)/\x+(gr - (X.map (S.rq gr s)).sum)<=gr:=by
 have hs0:0<=s:=by rw[hs];exact (yz X λx hx=>(hX x hx).1).1
 have hq:=GC hs0 hg X hX;have hle:(X.map (S.rq gr s)).sum<=gr:=by
  by_cases e:s=0
  ·have h0:∀x∈X,x=0:=λx hx=>by have:=hX x hx;omega
   have:X.map (S.rq gr s)=List.replicate X.length 0:=by rw[List.eq_replicate_iff];refine⟨by simp,λy hy=>?_⟩;obtain⟨z,hz,rfl⟩:=SX.1 hy;rw[h0 z hz,Ic]
   rw[this];have:∀n:Nat,(List.replicate n (0:Int)).sum=0:=λn=>by induction n with
    |zero=>rfl
    |succ n ih=>rw[Ue,UG,ih];rfl
   rw[this];exact hg
  ·have h1:=hq.2;rw[<-hs]at h1;exact Int.le_of_mul_le_mul_right h1 (by omega)
 have hn:∀y∈X.map (S.rq gr s),0<=y:=λy hy=>by obtain⟨z,hz,rfl⟩:=SX.1 hy;exact Int.ediv_nonneg (UI hg (hX z hz).1) hs0
 have hx0:=hn x (R9 hx);have hsum:((X.map (S.rq gr s)).set la (x+(gr - (X.map (S.rq gr s)).sum))).sum=gr:=by rw[Ir _ _ _ _ hx];omega
 have hn2:∀y∈(X.map (S.rq gr s)).set la (x+(gr - (X.map (S.rq gr s)).sum)),0<=y:=λy hy=>by
  rcases List.mem_or_eq_of_mem_set hy with h|rfl
  ·exact hn y h
  ·omega
 have hb:=yz _ hn2;rw[hsum]at hb;refine⟨⟨by simp,λy hy=>⟨hn2 y hy,hb.2 y hy⟩,hsum⟩,by omega,hb.2 _ ?_⟩;exact List.mem_set (by simpa using hla) _
structure Rw1 (gr:Int) (nv u:AV) (C F j:Nat) (t:T) (g:G):Prop where
 st:St t [(0,.int .i64 gr),(1,.int .i64 (C:Int)),(2,nv),(3,.int .i64 (F:Int)),(9,u)]
 hX:∃(X:List Int) (s:Int),tat t 10=.int .i64 s/\X.length=C/\Own g 0 u 1 (X.map ci)/\(∀x∈X,0<=x/\x<=7)/\s=(X.take j).sum/\0<=s/\s<=7*j
theorem QL{d C F kk:Nat}{gr:Int}{nv u:AV}{l:List UInt8}{Q:QT}{t:T}{g:G}(hC:C<=3)(hF:F<=1000)(hl:SlR NoP kk .nil l nv)(h0:Rw1 gr nv u C F 0 t g)(h11:tat t 11=.int .i64 0)
  (fin:∀t g,Rw1 gr nv u C F C t g->Q (.exit 0) t [] g):wpL (wp C0 d none m9) Q t [] g:=by
 obtain⟨nr,r1,r2,r3,r4⟩:=hl.all;have r1:∀h',ak h' 1 nv=some nr:=r1;have hll:=hl.1;have ll:=hl.len;simp only[m9,sO];refine fc C (by omega) (λj t df g=>df=[]/\Rw1 gr nv u C F j t g) ⟨rfl,h0⟩ h11 (by decide) ?_ ?_ ?_ ?_
 ·rintro j t df g v s (rfl|rfl|rfl) ⟨a1,⟨b1,b2,b3,b4,b5,-⟩,X,s',c1,c2⟩<;>exact⟨a1,by simp[St,sx,b1,b2,b3,b4,b5],X,s',by simp[sx,c1],c2⟩
 ·rintro j t df g hj ⟨rfl,⟨h0,h1,h2,h3,h9,-⟩,X,s,h10,hX⟩ h11;simp only[sz,simprocAttr,h11,h1];exact⟨by simp[St,sx,h0,h1,h2,h3,h9],X,s,by simp[sx,h10],hX⟩
 ·rintro j t df g hj ⟨rfl,⟨h0,h1,h2,h3,h9,-⟩,X,s,h10,hXl,hX,hXb,hXs,hs0,hs1⟩ h11;refine bI (P:=λt' df g'=>df=[]/\∃(X':List Int) (x':Int),St t' [(0,.int .i64 gr),(1,.int .i64 (C:Int)),(2,nv),(3,.int .i64 (F:Int)),(9,u),(10,.int .i64 s),(11,.int .i64 (j:Int))]/\X'.length=C/\Own g' 0 u 1 (X'.map ci)/\(∀x∈X',0<=x/\x<=7)/\X'[j]?=some x'/\∀i,i≠j->X'[i]?=X[i]?) ?_ ?_
  ·have hXj:X[j]?=some X[j]:=R4 (by omega);simp only[sz,simprocAttr,h2,ll];refine fI (λhb=>?_) (λhb=>?_)
   ·have hb:0<l.length:=by simpa using hb
    have w1:IntKind.wrap .i64 ((F:Int)+(j:Int))=((F+j:Nat):Int):=by rw[ax (by omega) (by omega)];simp
    have q1:=CN (x:=F+j) (y:=l.length) hb;have hmod:=TD (F+j) hb;generalize (F+j) % l.length=a at q1 hmod;obtain⟨y,hy,-,-⟩:=an (l:=l) (j:=a) hmod;obtain⟨row,z1,z2⟩:=r3 a y hy;rw[dR.1 z2]at z1;have hlt:a<nr.length:=by omega
    have q2:=eP .u8 (a:=(y.toNat:Int)) (b:=8) (by omega) (by omega);have hm0:0<=(y.toNat:Int) % 8:=Int.emod_nonneg _ (by decide);have hm1:(y.toNat:Int) % 8<8:=Vt _ (by decide);have w2:IntKind.wrap .i64 ((y.toNat:Int) % 8)=(y.toNat:Int) % 8:=ax (by omega) (by omega);generalize (y.toNat:Int) % 8=z at q2 hm0 hm1 w2;have u1:j<(X.map ci).length:=by simp;omega
    have u2:(X.map ci)[j]?=some (ci X[j]):=by rw[R_,hXj];rfl
    have rX:=hX.rows;simp only[sz,simprocAttr,h2,h3,h9,h11,ll,w1,q1,r1,hlt,z1,q2,w2,rX,u1];refine cQ (v:=u) (sz:=1) (n:=1) (i:=j) (off:=0) (x:=.int .i64 z) (row':=ci z) hX u2 rfl rfl rfl λg4 hu4 n4 f4=>?_;rw[<-TQ]at hu4;simp only[sx,sy];refine⟨X.set j z,z,by simp[St,sx,h0,h1,h2,h3,h9,h10,h11],by simp[hXl],hu4,λx hx=>?_,by rw[Tu (by omega)],λi hi=>by rw[Ty (To hi)]⟩;rcases List.mem_or_eq_of_mem_set hx with h|rfl
    ·exact hXb x h
    ·omega
   ·simp only[sx,sy];exact⟨X,X[j],by simp[St,sx,h0,h1,h2,h3,h9,h10,h11],hXl,hX,hXb,hXj,λ_ _=>rfl⟩
  clear h0 h1 h2 h3 h9 h10 h11 hX;rintro t df g ⟨rfl,X',x',⟨h0,h1,h2,h3,h9,h10,h11,-⟩,hXl',hX',hXb',hxj,hXo⟩;have u1:j<(X'.map ci).length:=by simp;omega
  have u2:(X'.map ci)[j]?=some (ci x'):=by rw[R_,hxj];rfl
  have rX:=hX'.rows;have hx':=hXb' x' (R9 hxj);have w1:IntKind.wrap .i64 (s+x')=s+x':=ax (by omega) (by omega);simp only[sz,simprocAttr,sN,h10,h9,h11,rX,u1,u2,ci,w1];have ht:X'.take j=X.take j:=Ur λi=>by
   by_cases e:i<j
   ·rw[SN e,SN e,hXo i (by omega)]
   ·rw[T0 (by simp;omega),T0 (by simp;omega)]
  refine⟨by simp[St,sx,h0,h1,h2,h3,h9],X',s+x',by simp[sx],hXl',hX',hXb',?_,by omega,by omega⟩;rw[UC,hxj,ht,List.sum_append,<-hXs];simp
 ·rintro t df g ⟨rfl,h⟩;exact fin t g h
structure Rw2 (gr s:Int) (u:AV) (C:Nat) (X:List Int) (j:Nat) (t:T) (g:G):Prop where
 st:St t [(0,.int .i64 gr),(1,.int .i64 (C:Int)),(9,u),(10,.int .i64 s)]
 hX:∃(la:Nat),tat t 12=.int .i64 (gr - ((X.take j).map (S.rq gr s)).sum)/\tat t 13=.int .i64 (la:Int)/\la<C/\Own g 0 u 1 (((X.take j).map (S.rq gr s)++X.drop j).map ci)
theorem OS{gr s:Int}{X:List Int}{j:Nat}(h:j<X.length):((X.take j).map (S.rq gr s)++X.drop j).set j (S.rq gr s X[j])=(X.take (j+1)).map (S.rq gr s)++X.drop (j+1):=by
 have hl:((X.take j).map (S.rq gr s)).length=j:=by simp;omega
 rw[TE _ _ (by omega),hl,Th,Tf h,Uk,TT h,TA,S7]
 rfl
theorem QM{d C:Nat}{gr s:Int}{u:AV}{X:List Int}{Q:QT}{t:T}{g:G}(hC:C<=3)(hg:0<=gr/\gr<=60)(hXl:X.length=C)(hXb:∀x∈X,0<=x/\x<=7/\x<=s)(h0:Rw2 gr s u C X 0 t g)(h14:tat t 14=.int .i64 0)
  (fin:∀t g,Rw2 gr s u C X C t g->Q (.exit 2) t [] g):wpL (wp C0 d none m_) Q t [] g:=by
 simp only[m_,sR];refine fc C (by omega) (λj t df g=>df=[]/\Rw2 gr s u C X j t g) ⟨rfl,h0⟩ h14 (by decide) ?_ ?_ ?_ ?_
 ·rintro j t df g v s (rfl|rfl|rfl) ⟨a1,⟨b1,b2,b3,b4,-⟩,la,c1,c2,c3⟩<;>exact⟨a1,by simp[St,sx,b1,b2,b3,b4],la,by simp[sx,c1],by simp[sx,c2],c3⟩
 ·rintro j t df g hj ⟨rfl,⟨h0,h1,h9,h10,-⟩,la,h12,h13,hX⟩ h14;simp only[sz,simprocAttr,h14,h1];exact⟨by simp[St,sx,h0,h1,h9,h10],la,by simp[sx,h12],by simp[sx,h13],hX⟩
 ·rintro j t df g hj ⟨rfl,⟨h0,h1,h9,h10,-⟩,la,h12,h13,hla,hX⟩ h14;have hjl:j<X.length:=by omega
  obtain⟨b0,b1,b2⟩:=hXb X[j] (Ta hjl);have hYl:((X.take j).map (S.rq gr s)++X.drop j).length=C:=by simp;omega
  have hYj:((X.take j).map (S.rq gr s)++X.drop j)[j]?=some X[j]:=by rw[Sj (by simp;omega)];simp[show min j X.length=j by omega,hjl]
  have u1:j<(((X.take j).map (S.rq gr s)++X.drop j).map ci).length:=by rw[Ss,hYl];exact hj
  have u2:(((X.take j).map (S.rq gr s)++X.drop j).map ci)[j]?=some (ci X[j]):=by rw[R_,hYj];rfl
  have rX:=hX.rows;have hgx:0<=gr*X[j]:=UI hg.1 b0;have hgx2:gr*X[j]<=60*7:=Vy hg.2 b1 b0 (by decide);have hset:=OS (gr:=gr) (s:=s) hjl;have hsq:(X.take (j+1)).map (S.rq gr s)=(X.take j).map (S.rq gr s)++[S.rq gr s X[j]]:=by rw[TT hjl,TA];rfl
  have hsb:=GC (gr:=gr) (s:=s) (by omega) hg.1 (X.take j) λy hy=>by have:=hXb y (SM hy);omega
  have hqb:∀x∈X,0<=S.rq gr s x/\S.rq gr s x<=420:=λx hx=>by obtain⟨c0,c1,c2⟩:=hXb x hx;have h1:0<=gr*x:=UI hg.1 c0;have h2:gr*x<=60*7:=Vy hg.2 c1 c0 (by decide);refine⟨Int.ediv_nonneg h1 (by omega),?_⟩;have:=Int.ediv_le_self (b:=s) h1;unfold S.rq;omega
  have hqs:∀l:List Int,(∀x∈l,x∈X)->(l.map (S.rq gr s)).sum<=420*l.length:=λl=>by
   induction l with
   |nil=>intro _;simp
   | cons a l ih =>
    intro h;have h1:=hqb a (h a (Ts ..));have h2:=ih λy hy=>h y (Tj _ hy);simp only[Te,UG,SJ]
    push_cast
    omega
  have hql:=hqs (X.take j) λx hx=>SM hx;have hql2:(X.take j).length<=3:=by simp;omega
  have hqj:=hqb X[j] (Ta hjl);refine bI (P:=λt' df g'=>df=[]/\∃(la':Nat),St t' [(0,.int .i64 gr),(1,.int .i64 (C:Int)),(9,u),(10,.int .i64 s),(12,.int .i64 (gr - ((X.take j).map (S.rq gr s)).sum)),(13,.int .i64 (la':Int)),(14,.int .i64 (j:Int))]/\la'<C/\Own g' 0 u 1 (((X.take (j+1)).map (S.rq gr s)++X.drop (j+1)).map ci)) ?_ ?_
  ·simp only[sz,simprocAttr,h9,h14,rX,u1,u2,ci];refine fI (λhb=>?_) (λhb=>?_)
   ·have hb:0<X[j]:=by simpa using hb
    have w1:IntKind.wrap .i64 (gr*X[j])=gr*X[j]:=ax (by omega) (by omega);have q1:bU .quo (.int .i64 (gr*X[j])) (.int .i64 s)=.val (.int .i64 (S.rq gr s X[j])):=Kp (x:=gr*X[j]) (y:=s) hgx (by omega) (by omega);simp only[sz,simprocAttr,h0,h9,h10,h14,rX,u1,u2,ci,w1,q1];refine cQ (v:=u) (sz:=1) (n:=1) (i:=j) (off:=0) (x:=.int .i64 (S.rq gr s X[j])) (row':=ci (S.rq gr s X[j])) hX u2 rfl rfl rfl λg4 hu4 n4 f4=>?_;rw[<-TQ,hset]at hu4;simp only[sz,simprocAttr,h14];exact⟨j,by simp[St,sx,h0,h1,h9,h10,h12,h14],by omega,hu4⟩
   ·have hb:X[j]=0:=by
     have:¬0<X[j]:=by simpa using hb
     omega
    simp only[sx,sy];refine⟨la,by simp[St,sx,h0,h1,h9,h10,h12,h13,h14],hla,?_⟩;rw[<-hset,hb,Ic,<-hb];have:((X.take j).map (S.rq gr s)++X.drop j).set j X[j]=(X.take j).map (S.rq gr s)++X.drop j:=by
     refine Ur λi=>?_
     by_cases e:j=i
     ·subst e;rw[Tu (by omega),hYj]
     ·rw[Ty e]
    rw[this];exact hX
  clear h0 h1 h9 h10 h12 h13 h14 hX rX hla u1 u2;rintro t df g ⟨rfl,la',⟨h0,h1,h9,h10,h12,h13,h14,-⟩,hla,hX'⟩;have hYl':((X.take (j+1)).map (S.rq gr s)++X.drop (j+1)).length=C:=by simp;omega
  have hYj':((X.take (j+1)).map (S.rq gr s)++X.drop (j+1))[j]?=some (S.rq gr s X[j]):=by rw[So (by simp;omega),hsq,Sj (by simp;omega)];simp[show min j X.length=j by omega]
  have u1:j<(((X.take (j+1)).map (S.rq gr s)++X.drop (j+1)).map ci).length:=by rw[Ss,hYl'];exact hj
  have u2:(((X.take (j+1)).map (S.rq gr s)++X.drop (j+1)).map ci)[j]?=some (ci (S.rq gr s X[j])):=by rw[R_,hYj'];rfl
  have rX:=hX'.rows;have w1:IntKind.wrap .i64 (gr - ((X.take j).map (S.rq gr s)).sum - S.rq gr s X[j])=gr - ((X.take (j+1)).map (S.rq gr s)).sum:=by rw[hsq,List.sum_append,ax (by omega) (by omega)];simp;omega
  simp only[sz,simprocAttr,sP,h12,h9,h14,rX,u1,u2,ci,w1];exact⟨by simp[St,sx,h0,h1,h9,h10],la',by simp[sx],by simp[sx,h13],hla,hX'⟩
 ·rintro t df g ⟨rfl,h⟩;exact fin t g h
theorem QN{d C F kk:Nat}{g:G}{nv:AV}{gr:Int}{l:List UInt8}(hd:0<d)(hC:1<=C/\C<=3)(hF:F<=1000)(hg:0<=gr/\gr<=60)(hl:SlR NoP kk .nil l nv) :
  ∃r,am C0 d N.ap [.int .i64 gr,.int .i64 (C:Int),nv,.int .i64 (F:Int)] g=.val r/\RJ gr C NoP 0 .nil r:=by
 rw[y7];refine bC Cd (xs:=[.int .i64 gr,.int .i64 (C:Int),nv,.int .i64 (F:Int)]) (by simp only[aJ,wy d (hl.tree (h':=g.h) (R5 _)),dS 0]) (by simp[sM]) (lj λo=>bm _) (by decide) hd ?_;simp only[sz,simprocAttr,sM];refine yA (b:=0) (n:=C) (by unfold aY;omega) (by unfold aY;omega) (S2 _) λu g1 hu n1 f1 vu=>?_;simp only[sz,simprocAttr];refine QL (gr:=gr) (nv:=nv) (u:=u) (C:=C) (F:=F) hC.2 hF hl ⟨by simp[St,sx],List.replicate C 0,0,by simp[sx],by simp,by simpa [ci] using hu,λx hx=>by rw[(UK.1 hx).2];decide,by simp,by omega,by omega⟩ (by simp[sx]) ?_;rintro t g2 ⟨⟨h0,h1,h2,h3,h9,-⟩,X,s,h10,hXl,hX,hXb,hXs,hs0,hs1⟩;rw[S5 (by omega)]at hXs;have hms:=yz X λx hx=>(hXb x hx).1;simp only[sz,simprocAttr,sT,h0];refine QM (gr:=gr) (s:=s) (u:=u) (C:=C) (X:=X) hC.2 hg hXl (λx hx=>⟨(hXb x hx).1,(hXb x hx).2,by rw[hXs];exact hms.2 x hx⟩) ⟨by simp[St,sx,h0,h1,h9,h10],0,by simp[sx],by simp[sx],by omega,by simpa using hX⟩ (by simp[sx]) ?_;clear h0 h1 h2 h3 h9 h10 hX;rintro t g3 ⟨⟨h0,h1,h9,h10,-⟩,la,h12,h13,hla,hX⟩;rw[S5 (by omega)]at h12 hX;rw[List.drop_eq_nil_of_le (by omega),Su]at hX;obtain⟨x,hx⟩:∃x,(X.map (S.rq gr s))[la]?=some x:=⟨_,R4 (by simp;omega)⟩;obtain⟨f1,f2,f3⟩:=OP (gr:=gr) (s:=s) (X:=X) (la:=la) hg.1 (λx hx=>⟨(hXb x hx).1,by rw[hXs];exact hms.2 x hx⟩) hXs (by omega) hx;have u1:la<((X.map (S.rq gr s)).map ci).length:=by simp;omega
 have u2:((X.map (S.rq gr s)).map ci)[la]?=some (ci x):=by rw[R_,hx];rfl
 have rX:=hX.rows;have w1:IntKind.wrap .i64 (x+(gr - (X.map (S.rq gr s)).sum))=x+(gr - (X.map (S.rq gr s)).sum):=ax (by omega) (by omega);simp only[sz,simprocAttr,sS,h9,h13,h12,rX,u1,u2,ci,w1];refine cQ (v:=u) (sz:=1) (n:=1) (i:=la) (off:=0) (x:=.int .i64 (x+(gr - (X.map (S.rq gr s)).sum))) (row':=ci (x+(gr - (X.map (S.rq gr s)).sum))) hX u2 rfl rfl rfl λg4 hu4 n4 f4=>?_;rw[<-TQ]at hu4;simp only[sz,simprocAttr,h9];exact⟨λ_=>True,_,⟨by simp[hXl],by rw[<-hXl];exact f1⟩,hu4.ints (by simp;omega)⟩
theorem Af(os:List UInt8):∀k,(S.aR os k).Perm ((List.range k).map λi:Nat=>(i:Int))
 |0=>.refl _
 | k+1=>by rw[Tw,TA,S.aR];refine List.perm_middle.trans ?_;rw[SW];exact ((Af os k).cons _).trans (List.perm_append_comm (l₁:=[(k:Int)]))
structure Num (n:Nat) (pl:List Int) (num:Nat->Nat):Prop where
 len:pl.length=n
 at_:∀k,k<n->pl[k]?=some (num k:Int)
 lt:∀k,k<n->num k<n
 inj:∀i j,i<n->j<n->num i=num j->i=j
 sur:∀u,u<n->∃k,k<n/\num k=u
theorem QC(os:List UInt8)(n:Nat):∃num,Num n (S.aR os n) num:=by
 have hp:=Af os n;have hl:=qg os n;have hmem:∀x∈S.aR os n,∃i:Nat,i<n/\x=(i:Int):=λx hx=>by have:=hp.mem_iff.1 hx;obtain⟨i,hi,rfl⟩:=SX.1 this;exact⟨i,Sm.1 hi,rfl⟩
 have hnd:(S.aR os n).Nodup:=by rw[hp.nodup_iff];refine List.Pairwise.map _ ?_ (Vk (n:=n));intro a b h e;exact h (by omega)
 have hat:∀k,k<n->(S.aR os n)[k]?=some (((S.aR os n)[k]?.getD 0).toNat:Int)/\((S.aR os n)[k]?.getD 0).toNat<n:=λk hk=>by
  have hk':k<(S.aR os n).length:=by omega
  have e:=R4 hk';obtain⟨i,hi,h⟩:=hmem _ (Ta hk');rw[e,Se,h];simp[hi]
 refine⟨λk=>((S.aR os n)[k]?.getD 0).toNat,hl,λk hk=>(hat k hk).1,λk hk=>(hat k hk).2,λi j hi hj h=>?_,λu hu=>?_⟩
 ·have h1:=(hat i hi).1;have h2:=(hat j hj).1;refine (List.getElem?_inj (by omega) hnd).1 ?_;rw[h1,h2];exact congrArg (λx:Nat=>some (x:Int)) h
 ·have:(u:Int)∈S.aR os n:=hp.mem_iff.2 (SX.2 ⟨u,Sm.2 hu,rfl⟩);obtain⟨k,hk,he⟩:=Tl.1 this;refine⟨k,by omega,?_⟩;rw[R4 hk,he];rfl
theorem OX(m n:Nat):∃z:Int,bU .shl (.int .i64 (m:Int)) (.int .u64 (n:Int))=.val (.int .i64 z):=⟨_,rfl⟩
def LNX(X:Ky->Prop)(n:Nat)(D:ND):Ky->Prop:=λk=>LN n D k\/X k
def X1:Ky->Prop:=λk=>k=(0,1)
def X2:Ky->Prop:=λk=>k=(0,1)\/k=(0,2)
structure DN (X:Ky->Prop) (r0:List AV) (n q K:Nat) (gr:Int) (V:Ky->AV) (E:Ky->En) (D:ND) (g:G):Prop where
 hp:Hp g 2 (LNX X n D) V E
 bn:BN K n V E D
 vb:V (0,1)=.hptr q 0 0 0
 bx:E (0,1)=.bx [.int .i64 gr,V (0,0)]
 h0:g.h.get 0=VG 3 [r0]
 h1:g.h.get 1=VG 2 [[.int .i64 0,.nils]]
theorem DN.q{X:Ky->Prop}{r0:List AV}{n q K:Nat}{gr:Int}{V:Ky->AV}{E:Ky->En}{D:ND}{g:G}(h:DN X r0 n q K gr V E D g)(hX:X (0,1)):g.h.get q=VG 2 [[.int .i64 gr,V (0,0)]]/\2<=q/\q<g.nx:=by obtain⟨id,h1,h2,h3,h4⟩:=h.hp.box (k:=(0,1)) (.inr hX) h.bx;rw[h.vb]at h3;injection h3 with h3;subst h3;exact⟨h4,h1,h2⟩
theorem DN.ns{X:Ky->Prop}{r0:List AV}{n q K:Nat}{gr:Int}{V:Ky->AV}{E:Ky->En}{D:ND}{g:G}(h:DN X r0 n q K gr V E D g):Own g 2 (V (0,0)) 3 ((List.range n).map (ip D V)):=h.hp.own (.inl LN.z) h.bn.ns
theorem DN.same{X:Ky->Prop}{r0:List AV}{n q K:Nat}{gr:Int}{V:Ky->AV}{E:Ky->En}{D:ND}{g g':G}(h:DN X r0 n q K gr V E D g)(hf:Fr g g'):DN X r0 n q K gr V E D g':=by have:=h.hp.nx;exact⟨h.hp.step hf.1 λi _ hi=>hf.2 i hi,h.bn,h.vb,h.bx,by rw[hf.2 0 (by omega),h.h0],by rw[hf.2 1 (by omega),h.h1]⟩
theorem we{g:G}{b:Nat}{v:AV}{sz:Nat}{rows:List (List AV)}(h:Own g b v sz rows)(hr:0<rows.length):Ak v=true:=by
 rcases h with⟨rfl,rfl⟩|⟨id,ep,lo,-,-,rfl,-⟩
 ·simp at hr
 ·rfl
theorem DN.card{X:Ky->Prop}{r0:List AV}{n q K i:Nat}{gr c:Int}{V:Ky->AV}{E:Ky->En}{D:ND}{g:G}{KK:AV->G->Prop}{DD:ADf->Prop}(h:DN X r0 n q K gr V E D g)(hi:i<n)(hX:∀k,X k->k≠(0,0))
  (kk:∀g' E',DN X r0 n q K gr V E' { D with c:=ups D.c i c } g'->g'.nx=g.nx->KK .undef g'):(kW 1 (jV 3 (V (0,0)) i 0) (.int .i64 c) g).sat KK g DD:=by
 refine h.hp.put (k:=(0,0)) (row:=ip D V i) (row':=[.int .i64 c,V (i+1,0),V (i+1,1)]) (.inl LN.z) h.bn.ns (iJ _ hi) rfl rfl rfl λg' hH hn hf1 hf2=>?_;refine kk g' _ ⟨hH.sub λk hk=>hk,⟨?_,λj hj=>?_,λj hj=>?_,λj r hj hr=>?_⟩,h.vb,?_,by rw[hf1 0 (by omega),h.h0],by rw[hf1 1 (by omega),h.h1]⟩ hn
 ·rw[aM,py _ _ hi];congr 1;refine zW (by simp[ip,aM]) λj hj hne=>by simp[ip,aw _ _ hne]
 ·rw[aw _ _ (by simp)];exact h.bn.ps j hj
 ·rw[aw _ _ (by simp)];exact h.bn.rs j hj
 ·rw[aw _ _ (by simp)];exact h.bn.rr j r hj hr
 ·rw[aw _ _ (by simp)];exact h.bx
structure DAok (D:ND) (n i:Nat) (num:Nat->Nat):Prop where
 e:∀v,v<n->D.P v=[]/\D.m v=0
 c:∀k,k<i->D.c (num k)=2\/D.c (num k)=3
 o:∀u,D.o u=0
def LDA(n q:Nat)(r5:AV):List (Nat×AV):=[(1,.hptr 0 0 0 0),(2,.hptr 1 0 0 0),(3,.int .i64 (n:Int)),(4,.hptr q 0 0 0),(5,r5)]
structure DA (r0:List AV) (n q:Nat) (gr:Int) (r5:AV) (num:Nat->Nat) (i:Nat) (t:T) (g:G):Prop where
 st:St t (LDA n q r5)
 w:∃w:Nat,tat t 6=.int .i64 (w:Int)/\w<=3 ^ i
 hd:∃V E D,DN X1 r0 n q 1000 gr V E D g/\DAok D n i num
theorem RN{i:Nat}(h:i<=5):3 ^ i<=243:=by
 have:i=0\/i=1\/i=2\/i=3\/i=4\/i=5:=by omega
 rcases this with rfl|rfl|rfl|rfl|rfl|rfl<;>decide
theorem Qw{d n q kk:Nat}{x:wH}{gr:Int}{a b r5:AV}{pl:List Int}{num:Nat->Nat}{Q:QT}{t:T}{g:G}(hn:1<=n/\n<=5)(ha:SlR NoP kk .nil x.2.1 a)(h5:IT 0 pl r5)(hN:Num n pl num)
  (h0:DA [u8v x.1,a,b] n q gr r5 num 0 t g) (h7:tat t 7=.int .i64 0)
  (fin:∀t g,DA [u8v x.1,a,b] n q gr r5 num n t g->Q (.exit 0) t [] g):wpL (wp C0 d none gm) Q t [] g:=by
 obtain⟨pr,r1,r2,r3,r4⟩:=ha.all;have r1:∀h',ak h' 3 a=some pr:=r1;have la:=ha.len;have hal:=ha.1;have r5i:∀h,ak h 1 r5=some (pl.map ci):=λh=>(h5.sl h).ints;simp only[gm,lC];refine fc n (by omega) (λj t df g=>df=[]/\DA [u8v x.1,a,b] n q gr r5 num j t g) ⟨rfl,h0⟩ h7 (by decide) ?_ ?_ ?_ ?_
 ·rintro j t df g v s (rfl|rfl|rfl) ⟨a1,⟨b1,b2,b3,b4,b5,-⟩,⟨w,c1,c2⟩,c3⟩<;>exact⟨a1,by simp[St,LDA,sx,b1,b2,b3,b4,b5],⟨w,by simp[sx,c1],c2⟩,c3⟩
 ·rintro j t df g hj ⟨rfl,⟨h1,h2,h3,h4,h5,-⟩,⟨w,h6,hw⟩,hD⟩ h7;simp only[sz,simprocAttr,h7,h3];exact⟨by simp[St,LDA,sx,h1,h2,h3,h4,h5],⟨w,by simp[sx,h6],hw⟩,hD⟩
 ·rintro j t df g hj ⟨rfl,⟨h1,h2,h3,h4,h5,-⟩,⟨w,h6,hw⟩,V,E,D,hD,hok⟩ h7;obtain⟨p8,hp8⟩:∃p8,p8=g.nx:=⟨_,rfl⟩;have hnx:=hD.hp.nx;refine bI (P:=λt' df g'=>df=[]/\g'=g.new (VG 3 [[.int .u8 0,.int .u8 0,.nils]])/\St t' ((6,.int .i64 (w:Int))::(7,.int .i64 (j:Int))::(8,.hptr p8 0 0 0)::LDA n q r5)) ?_ ?_
  ·simp only[sz,simprocAttr];simp[St,LDA,sx,h1,h2,h3,h4,h5,h6,h7,hp8]
  clear h1 h2 h3 h4 h5 h6 h7;rintro t df g1 ⟨rfl,hg1,⟨h6,h7,h8,h1,h2,h3,h4,h5,-⟩⟩;have f1:Fr g g1:=by rw[hg1];exact Fr.new _ _
  have k8:g1.h.get p8=VG 3 [[.int .u8 0,.int .u8 0,.nils]]:=by rw[hg1,hp8];simp[RW]
  have n1:p8<g1.nx:=by rw[hg1,hp8];simp
  clear hg1;have hD1:=hD.same f1;have e0:=hD1.h0;refine bI (P:=λt' df g'=>df=[]/\Fr g g'/\St t' ((6,.int .i64 (w:Int))::(7,.int .i64 (j:Int))::(8,.hptr p8 0 0 0)::LDA n q r5)/\p8<g'.nx/\∃(y:UInt8) (z1 z2:AV),g'.h.get p8=VG 3 [[u8v y,z1,z2]]) ?_ ?_
  ·simp only[sz,simprocAttr,h7,h1,e0,la];refine fI (λhb=>?_) (λhb=>?_)
   ·have hb:j<x.2.1.length:=by simpa using hb
    obtain⟨y,hy,-,-⟩:=an hb;obtain⟨row,q1,q2⟩:=r3 j y hy;obtain⟨wv,rfl,hwv⟩:=BH.1 q2;have hlt:j<pr.length:=by omega
    have hry:=r4 (by omega);simp only[sz,simprocAttr,h7,h1,e0,r1,hlt,q1,h8,k8];refine⟨?_,by simp[St,LDA,sx,h1,h2,h3,h4,h5,h6,h7,h8],by simpa using n1,y.1,u8v y.2.1,wv,by simp[RW]⟩;exact⟨Sz f1.1 (by simp),λi hi=>by simp[RW,show ¬i=p8 by omega];exact f1.2 i hi⟩
   ·simp only[sx,sy];exact⟨f1,by simp[St,LDA,sx,h1,h2,h3,h4,h5,h6,h7,h8],n1,0,.int .u8 0,.nils,k8⟩
  clear h1 h2 h3 h4 h5 h6 h7 h8 e0 hD1 k8 n1 f1;rintro t df g2 ⟨rfl,f2,⟨h6,h7,h8,h1,h2,h3,h4,h5,-⟩,n2,y,z1,z2,k8⟩;have hD2:=hD.same f2;have q2:=eP .u8 (a:=(y.toNat:Int)) (b:=2) (by omega) (by omega);obtain⟨m,hm⟩:∃m:Nat,(y.toNat:Int) % 2=(m:Int):=R8 (Int.emod_nonneg _ (by decide));have hm2:m<2:=by have:=Vt (y.toNat:Int) (show (0:Int)<2 by decide);omega
  rw[hm]at q2;have w2:IntKind.wrap .i64 (m:Int)=(m:Int):=ax (by omega) (by omega);have w3:IntKind.wrap .i64 (2+(m:Int))=((2+m:Nat):Int):=by rw[ax (by omega) (by omega)];rfl
  have hp3:=RN (i:=j) (by omega);have hwc:w*(2+m)<=243*3:=VA (by omega) (by omega);have w4:IntKind.wrap .i64 ((w:Int)*((2+m:Nat):Int))=((w*(2+m):Nat):Int):=by rw[<-Tt,ax (by omega) (by omega)]
  have w5:IntKind.wrap .i64 ((n:Int) - 1)=((n - 1:Nat):Int):=by rw[ax (by omega) (by omega)];omega
  have w6:IntKind.wrap .i64 (((n - 1:Nat):Int) - (j:Int))=((n - 1 - j:Nat):Int):=by rw[ax (by omega) (by omega)];omega
  have w7:IntKind.wrap .u64 ((n - 1 - j:Nat):Int)=((n - 1 - j:Nat):Int):=q7 (by omega) (by omega);obtain⟨z,hz⟩:=OX (w*(2+m)) (n - 1 - j);refine bI (P:=λt' df g'=>df=[]/\g'=g2/\St t' ((6,.int .i64 (w:Int))::(7,.int .i64 (j:Int))::(9,.int .i64 ((2+m:Nat):Int))::LDA n q r5)) ?_ ?_
  ·simp only[sz,simprocAttr,h8,k8,u8v,q2,w2,w3];simp[St,LDA,sx,h1,h2,h3,h4,h5,h6,h7]
  clear h1 h2 h3 h4 h5 h6 h7 h8;rintro t df g3 ⟨rfl,rfl,⟨h6,h7,h9,h1,h2,h3,h4,h5,-⟩⟩;refine bI (P:=λt' df g'=>df=[]/\g'=g3/\∃C:Nat,(C=2\/C=3)/\St t' ((6,.int .i64 (w:Int))::(7,.int .i64 (j:Int))::(9,.int .i64 (C:Int))::LDA n q r5)) ?_ ?_
  ·simp only[sz,simprocAttr,h6,h7,h9,h3,w4,w5,w6,w7,hz];refine fI (λhb=>?_) (λhb=>?_)
   ·simp only[sz,simprocAttr];refine⟨2,.inl rfl,?_⟩;simp[St,LDA,sx,h1,h2,h3,h4,h5,h6,h7]
   ·simp only[sx,sy];refine⟨2+m,by omega,?_⟩;simp[St,LDA,sx,h1,h2,h3,h4,h5,h6,h7,h9]
  clear h1 h2 h3 h4 h5 h6 h7 h9 hwc w4 hz w3;rintro t df g4 ⟨rfl,rfl,C,hC,⟨h6,h7,h9,h1,h2,h3,h4,h5,-⟩⟩;have hwc:w*C<=3 ^ j*3:=VA hw (by omega);have hwc2:w*C<=243*3:=VA (by omega) (by omega);have w4:IntKind.wrap .i64 ((w:Int)*(C:Int))=((w*C:Nat):Int):=by rw[<-Tt,ax (by omega) (by omega)]
  refine bI (P:=λt' df g'=>df=[]/\g'=g4/\St t' ((6,.int .i64 ((w*C:Nat):Int))::(7,.int .i64 (j:Int))::(9,.int .i64 (C:Int))::LDA n q r5)) ?_ ?_
  ·simp only[sz,simprocAttr,h6,h9,w4];simp[St,LDA,sx,h1,h2,h3,h4,h5,h7,h9]
  clear h1 h2 h3 h4 h5 h6 h7 h9;rintro t df g5 ⟨rfl,rfl,⟨h6,h7,h9,h1,h2,h3,h4,h5,-⟩⟩;obtain⟨kq,q2a,q2b⟩:=hD2.q rfl;have rns:=hD2.ns.rows;have hry:=we hD2.ns (by simp;omega);have hnj:=hN.lt j hj;have u1:j<(pl.map ci).length:=by rw[Ss,hN.len];exact hj
  have u2:(pl.map ci)[j]?=some (ci (num j:Int)):=by rw[R_,hN.at_ j hj];rfl
  have u3:num j<((List.range n).map (ip D V)).length:=by simpa using hnj
  have u4:=iJ (ip D V) hnj;simp only[sz,simprocAttr,sf,h4,kq,h5,h7,h9,r5i,u1,u2,rns,u3,hry,ci];refine (hD2.same (g':=_) ⟨?_,?_⟩).card (i:=num j) (c:=(C:Int)) hnj (λk hk=>by rw[hk];simp) λg6 E' hD6 n6=>?_
  ·simp;omega
  ·intro i hi;simp
  simp only[sx,sy,↓reduceIte,Nat.reduceEqDiff];refine⟨?_,⟨by simp[St,LDA,sx,h1,h2,h3,h4,h5],⟨w*C,by simp[sx,h6],by rw[Nat.pow_succ];exact hwc⟩,V,E',_,hD6.same ⟨by simp,λi _=>by simp⟩,hok.e,λk hk=>?_,hok.o⟩,by simp[h7]⟩
  ·simp only[Si,Sl,Sf,Sd];exact aA [false,false,false,false,false,false,false,false,false,true] [] (by simp[All2,ac,ap]) (by decide) (by simp)
  ·by_cases e:num k=num j
   ·simp[e,aM];omega
   ·show ups D.c (num j) (C:Int) (num k)=2\/ups D.c (num j) (C:Int) (num k)=3;rw[aw _ _ e];refine hok.c k ?_;have:k≠j:=λh=>e (by rw[h]);omega
 ·rintro t df g ⟨rfl,h⟩;exact fin t g h
theorem Dc{g:G}{b:Nat}{v x:AV}{sz bytes:Nat}{rows new:List (List AV)}{K:AV->G->Prop}{D:ADf->Prop}(hv:Own g b v sz rows)(hx:ak g.h sz x=some new)(hb:b<=g.nx)
  (hr:(rows.length+new.length)*bytes<=aY)
  (k:∀v' g',Own g' b v' sz (rows++new)->g.nx<=g'.nx->(∀i,i<g.nx->vid v≠some i->g'.h.get i=g.h.get i)->(vid v'=vid v\/∃i,vid v'=some i/\g.nx<=i)->(∀i∈g'.lg,i∈g.lg\/vid v=some i\/g.nx<=i)->K v' g') :
  (dC sz bytes v x g).sat K g D:=by
 unfold dC;rw[hx];dsimp only;rcases hv with⟨rfl,rfl⟩|⟨id,ep,lo,h1,h2,rfl,h3⟩
 ·cases new with
  |nil=>exact k _ _ (.inl ⟨rfl,rfl⟩) (R5 _) (λ_ _ _=>rfl) (.inl rfl) (λi hi=>.inl hi)
  | cons r new =>
   simp only[bf,ay,aa,SS];rw[Sb (by simpa using hr)];refine k _ _ (.inr ⟨g.nx,0,true,hb,by simp,rfl,by simp[aS]⟩) (by simp) (λi hi _=>?_) (.inr ⟨g.nx,rfl,R5 _⟩) (λi hi=>by simp at hi;rcases hi with rfl|hi;exact .inr (.inr (R5 _));exact .inl hi);rw[G.new_h,af _ _ _ (by omega)]
 ·simp only[bf,G.get_eq,h3,ay,aa,show Nat.beq ep ep=true from SQ ep,show Nat.beq sz sz=true from SQ sz,Td,SS,R7,SU,Un,Uu];rw[Sb ⟨R5 _,hr⟩];cases new with
  | nil =>
   rw[Sb (by simp)];refine k _ _ (.inr ⟨id,ep,lo,h1,h2,by simp,by simpa using h3⟩) (R5 _) (λ_ _ _=>rfl) (.inl rfl) (λi hi=>.inl hi)
  | cons r new =>
   rw[Sa (by simp)];have ht:kg rows.length (jz 0 rows)=rows:=by rw[bh,bg];simp
   cases lo with
   | false =>
    rw[Sb (by simp)];refine k _ _ (.inr ⟨g.nx,0,true,by omega,by simp,by simp,by simp[aS,ht]⟩) (by simp) (λi hi _=>?_) (.inr ⟨g.nx,rfl,R5 _⟩) (λi hi=>by simp at hi;rcases hi with rfl|hi;exact .inr (.inr (R5 _));exact .inl hi);rw[G.new_h,af _ _ _ (by omega)]
   | true =>
    rw[Sa (by simp)];refine k _ _ (.inr ⟨id,ep+1,true,h1,by simpa using h2,by simp,by simp[aS,ht]⟩) (by simp) (λi hi hne=>?_) (.inl rfl) (λi hi=>by simp at hi;rcases hi with rfl|hi;exact .inr (.inl rfl);exact .inl hi);rw[G.put_h,af _ _ _ (λe=>hne (by rw[e];rfl))]
section
variable {κ:Type} [DecidableEq κ]{g:G}{b:Nat}{L:κ->Prop}{V:κ->AV}{E:κ->En}{k:κ}
theorem Hp.app2(h:Hp g b L V E)(hk:L k){sz bytes:Nat}{rows new:List (List AV)}(he:E k=.sl sz rows){x:AV}{K:AV->G->Prop}{D:ADf->Prop}(hx:ak g.h sz x=some new)
  (hr:(rows.length+new.length)*bytes<=aY)
  (kk:∀v' g',Hp g' b L (ups V k v') (ups E k (.sl sz (rows++new)))->g.nx<=g'.nx->(∀i,i<b->g'.h.get i=g.h.get i)->(∀i,i<g.nx->eid (V k)≠some i->g'.h.get i=g.h.get i)->(∀i∈g'.lg,i∈g.lg\/eid (V k)=some i\/g.nx<=i)->v'.cells=[v']->v'.isTup=false->K v' g') :
  (dC sz bytes (V k) x g).sat K g D:=by
 have ho:=h.own hk he;refine Dc ho hx h.nx hr λv' g' hv' hn hf hvid hlg=>?_;refine kk v' g' (h.set hk (e':=.sl sz (rows++new)) hv' hn (λi _ hi hne=>hf i hi (by rw[<-jB ho];exact hne)) ?_) hn (λi hi=>hf i (SB hi h.nx) λe=>by have:=(ho.lt e).1;omega)
  (λi hi hne=>hf i hi (by rw[<-jB ho];exact hne)) (λi hi=>by rw[jB ho];exact hlg i hi) hv'.cell.1 hv'.cell.2
 rw[jB hv',jB ho];exact hvid
theorem Hp.putv(h:Hp g b L V E)(hk:L k){v0:AV}(hv:V k=v0){sz n i off:Nat}{rows:List (List AV)}{row row':List AV}(he:E k=.sl sz rows){x:AV}{K:AV->G->Prop}{D:ADf->Prop}(hr:rows[i]?=some row)
  (hl:x.cells.length=n) (ht:x.isTup=false) (hp:bw row off x.cells=some row')
  (kk:∀g',Hp g' b L V (ups E k (.sl sz (rows.set i row')))->g'.nx=g.nx->(∀i,i<b->g'.h.get i=g.h.get i)->(∀i,eid (V k)≠some i->g'.h.get i=g.h.get i)->K .undef g'):(kW n (jV sz v0 i off) x g).sat K g D:=by
 subst hv;exact h.put hk he hr hl ht hp kk
end
theorem A8(m n:Nat):∃z:Nat,bU .shr (.int .u8 (m:Int)) (.int .u64 (n:Int))=.val (.int .u8 (z:Int)) :=
 ⟨m / 2 ^ (Nat.min n 8),rfl⟩
theorem A7(m n:Nat):∃z:Int,bU .and (.int .u8 (m:Int)) (.int .u8 (n:Int))=.val (.int .u8 z):=by have:∃z:Int,Op.intBits .and .u8 (.ofNat m) (.ofNat n)=.pure (.int .u8 z):=⟨_,rfl⟩;obtain⟨z,hz⟩:=this;refine⟨z,?_⟩;show orV (qi (Op.intBits .and .u8 (.ofNat m) (.ofNat n)))=_;rw[hz];rfl
structure DB (D:ND) (n i v:Nat) (num:Nat->Nat):Prop where
 c:∀u,u<n->D.c u=2\/D.c u=3
 p:∀u,u<n->(D.P u).length<=3/\∀y∈D.P u,0<=y/\y<n
 m:∀u,u<n->D.m u<=64
 o:∀u,D.o u=0
 f:∀k,i<k->k<n->D.P (num k)=[]/\D.m (num k)=0
def S.bT(P0:List Int)(c0:Nat->Int):Int:=S.ae (P0.map λy=>c0 y.toNat)
structure DOk (gr:Int) (D:ND) (n i:Nat) (num:Nat->Nat):Prop where
 s:∀u,u<n->(D.P u).Pairwise (·<·)
 a:∀k,k<n->∀y∈D.P (num k),∃k',k'<k/\y=(num k':Int)
 w:∀k,k<i->(D.m (num k):Int)=S.bT (D.P (num k)) D.c
 r:∀u r,u<n->r<D.m u->Nx gr (D.c u) (D.R u r)
def LDB(n q i p v:Nat)(r5:AV):List (Nat×AV):=[(1,.hptr 0 0 0 0),(2,.hptr 1 0 0 0),(3,.int .i64 (n:Int)),(4,.hptr q 0 0 0),(5,r5),(10,.int .i64 (i:Int)),(11,.hptr p 0 0 0),(12,.int .i64 (v:Int))]
structure DP (r0 prow:List AV) (n q i p v:Nat) (gr:Int) (r5:AV) (num:Nat->Nat) (g:G) (V:Ky->AV) (E:Ky->En) (D:ND):Prop where
 dn:DN X2 r0 n q 1000 gr V E D g
 pb:V (0,2)=.hptr p 0 0 0/\E (0,2)=.bx prow
 db:DB D n i v num
 mv:D.m v=0
 ok:DOk gr D n i num
theorem DP.p{r0 prow:List AV}{n q i p v:Nat}{gr:Int}{r5:AV}{num:Nat->Nat}{g:G}{V:Ky->AV}{E:Ky->En}{D:ND}(h:DP r0 prow n q i p v gr r5 num g V E D):g.h.get p=VG prow.length [prow]/\2<=p/\p<g.nx:=by obtain⟨id,h1,h2,h3,h4⟩:=h.dn.hp.box (k:=(0,2)) (.inr (.inr rfl)) h.pb.2;rw[h.pb.1]at h3;injection h3 with h3;subst h3;exact⟨h4,h1,h2⟩
theorem Cr{X:Ky->Prop}{n:Nat}{D:ND}{V:Ky->AV}{E:Ky->En}{g:G}(h:Hp g 2 (LNX X n D) V E){j k:Ky}(hj:LNX X n D j)(hk:LNX X n D k)(hne:j≠k){id:Nat}(he:eid (V j)=some id):eid (V k)≠some id:=h.sep j k hj hk hne id he
def Ae:SC:=.feet [0,1,0,0,8,0,56,120,248,0,512,2040,4095,8191,16383] [oF 131 1 4,oL 132 131,oM 133 12,oF 134 1 4,oL 135 134,oM 136 12,VP 137 3 135 136,oF 138 1 137,oL 139 138,oM 140 13,o 141 (.bsl 1 1 [.int .i64 0] [0] [.t 140]),o 142 (.app 1 8 (.t 139) (.t 141)),VP 143 3 132 133,oF 144 1 143,VL 1 144 142]
theorem OB{d n q i p v u:Nat}{gr:Int}{r0 prow:List AV}{r5:AV}{num:Nat->Nat}{Q:QT}{t:T}{g:G}{V:Ky->AV}{E:Ky->En}{D:ND}{rest:List (Nat×AV)}(hn:1<=n/\n<=5)(hv:v<n)(hvi:∀k,i<k->k<n->num k≠v)(hu:u<n)(hvl:∀k,k<i->num k≠v)(hua:∃k',k'<i/\u=num k')(hlt:∀y∈D.P v,y<(u:Int))
  (h4:tat t 4=.hptr q 0 0 0) (h12:tat t 12=.int .i64 (v:Int)) (h13:tat t 13=.int .i64 (u:Int)) (hP:DP r0 prow n q i p v gr r5 num g V E D) (hl:(D.P v).length<3)
  (fin:∀t' g' V' E' D',(∀s,(s<131\/144<s)->tat t' s=tat t s)->D'.P v=D.P v++[(u:Int)]->DP r0 prow n q i p v gr r5 num g' V' E' D'->Q .norm t' [] g') :
  wp C0 d none Ae Q t [] g:=by
 have hD:=hP.dn;obtain⟨kq,q2a,q2b⟩:=hD.q (.inl rfl);unfold Ae;have rns:=hD.ns.rows;have hry:=we hD.ns (by simp;omega);have u3:v<((List.range n).map (ip D V)).length:=by simpa using hv
 have u4:=iJ (ip D V) hv;have hps:=hD.bn.ps v hv;have hnx:=hD.hp.nx;simp only[sz,simprocAttr,sf,h4,h12,h13,kq,rns,u3,u4,hry,ip];refine (hD.hp.step (g':=_) ?_ ?_).app2 (k:=(v+1,0)) (.inl (LN.p hv)) hps.1 (new:=[ci (u:Int)]) (by simp[sx,sy,ci]) (by unfold aY;simp;omega) λv1 g1 hH1 n1 fb1 fo1 lg1 vc vt=>?_
 ·simp;omega
 ·intro i _ hi;simp[RW];omega
 simp only[sx,sy]at n1 fb1 fo1 lg1;have e00:ups V (v+1,0) v1 (0,0)=V (0,0):=aw _ _ (by simp);have hE00:ups E (v+1,0) (.sl 1 ((D.P v).map ci++[ci (u:Int)])) (0,0)=.sl 3 ((List.range n).map (ip D V)):=by rw[aw _ _ (by simp)];exact hD.bn.ns
 have rns1:ak g1.h 3 (V (0,0))=some ((List.range n).map (ip D V)):=by rw[<-e00];exact (hH1.own (k:=(0,0)) (.inl LN.z) hE00).rows
 have u4':((List.range n).map (ip D V))[v]?=some [.int .i64 (D.c v),V (v+1,0),V (v+1,1)]:=u4;simp only[sz,simprocAttr,sf,rns1,u3,hry];refine (hH1.same (g':=_) ?_ ?_).putv (k:=(0,0)) (.inl LN.z) e00 (row':=[.int .i64 (D.c v),v1,V (v+1,1)]) hE00 u4 (by rw[vc];rfl) vt (by rw[vc];rfl) λg2 hH2 n2 fb2 fo2=>?_
 ·simp
 ·simp;omega
 simp only[sy];refine⟨?_,?_⟩
 ·simp only[Si,Sl,Sf,Sd];refine aA [false,false,false,false,false,false,false,false,false,false,true,true,false,false,true] [(0,10),(1,10),(2,10),(3,10),(4,10),(5,10),(6,10),(7,10),(8,10),(0,11),(1,11),(2,11)] (by simp[All2,ac,ap]) (by decide) ?_;have hlg:∀i∈g1.lg,i≠q:=λi hi e=>by
   rcases lg1 i hi with h|h|h
   ·simp at h
   ·exact Cr hD.hp (.inl (LN.p hv)) (.inr (.inl rfl)) (by simp) h (by rw[hD.vb,e];rfl)
   ·omega
  obtain⟨id0,ep0,hid0,hv0⟩:∃id ep,id<g.nx/\V (0,0)=.hsl id ep 0 ((List.range n).map (ip D V)).length none:=by
   rcases hD.ns with⟨h,e⟩|⟨id,ep,lo,-,h1,h2,-⟩
   ·have:=congrArg List.length e;simp at this;omega
   ·exact⟨id,ep,h1,h2⟩
  have hlg2:∀i∈g1.lg,i≠id0:=λi hi e=>by
   rcases lg1 i hi with h|h|h
   ·simp at h
   ·exact Cr hD.hp (.inl (LN.p hv)) (.inl LN.z) (by simp) h (by rw[hv0,e];rfl)
   ·omega
  rintro p hp' x y hx hy;simp only[Sq,Sk,Ui]at hp';rcases hp' with rfl|rfl|rfl|rfl|rfl|rfl|rfl|rfl|rfl|rfl|rfl|rfl<;>(simp at hx hy;subst hx;subst hy;refine bH rfl rfl rfl rfl ?_ ?_ ?_<;>simp[ac,ap,ae,hv0,jV]<;>first|omega|exact hlg|exact hlg2|exact λi hi e=>hlg i hi e.symm|exact λi hi e=>hlg2 i hi e.symm)
 refine fin _ _ (ups V (v+1,0) v1) _ { D with P:=ups D.P v (D.P v++[(u:Int)]) } (λs hs=>?_) (aM _ _ _) ⟨⟨(hH2.same (g':=_) (by simp) (by simp)).sub λk hk=>hk,⟨?_,λj hj=>?_,λj hj=>?_,λj r hj hr=>?_⟩,?_,?_,?_,?_⟩,⟨?_,?_⟩,⟨hP.db.c,λw hw=>?_,hP.db.m,hP.db.o,λk hk hkn=>?_⟩,hP.mv,?_⟩
 ·simp only[lJ]
  repeat rw[Sa (by omega)]
 ·rw[aM,py _ _ hv];congr 1;refine zW (by simp[ip,aM,aw]) λj hj hne=>by simp[ip,aw,hne]
 ·by_cases e:j=v
  ·subst e;rw[aw _ _ (by simp),aM];show En.sl 1 _=En.sl 1 ((ups D.P j (D.P j++[(u:Int)]) j).map ci)/\(ups D.P j (D.P j++[(u:Int)]) j).length<=1000;rw[aM];exact⟨by simp,by simp;omega⟩
  ·rw[aw _ _ (by simp),aw _ _ (by simp[e])];show E (j+1,0)=En.sl 1 ((ups D.P v (D.P v++[(u:Int)]) j).map ci)/\(ups D.P v (D.P v++[(u:Int)]) j).length<=1000;rw[aw _ _ e];exact hD.bn.ps j hj
 ·rw[aw _ _ (by simp),aw _ _ (by simp)];have:=hD.bn.rs j hj;refine⟨?_,this.2⟩;rw[this.1];congr 1;exact Ti λr _=>by simp[GD,aw]
 ·rw[aw _ _ (by simp),aw _ _ (by simp),aw _ _ (by simp)];exact hD.bn.rr j r hj hr
 ·rw[aw _ _ (by simp)];exact hD.vb
 ·rw[aw _ _ (by simp),aw _ _ (by simp),aw _ _ (by simp)];exact hD.bx
 ·simp only[bumpG_h];rw[fb2 0 (by omega)];simp;rw[fb1 0 (by omega),Sa (by omega),hD.h0]
 ·simp only[bumpG_h];rw[fb2 1 (by omega)];simp;rw[fb1 1 (by omega),Sa (by omega),hD.h1]
 ·rw[aw _ _ (by simp)];exact hP.pb.1
 ·rw[aw _ _ (by simp),aw _ _ (by simp)];exact hP.pb.2
 ·by_cases e:w=v
  ·subst e;show (ups D.P w (D.P w++[(u:Int)]) w).length<=3/\∀y∈ups D.P w (D.P w++[(u:Int)]) w,0<=y/\y<n;rw[aM];refine⟨by simp;omega,λy hy=>?_⟩;rcases SG.1 hy with h|h
   ·exact (hP.db.p w hw).2 y h
   ·rw[SK.1 h];omega
  ·show (ups D.P v (D.P v++[(u:Int)]) w).length<=3/\∀y∈ups D.P v (D.P v++[(u:Int)]) w,0<=y/\y<n;rw[aw _ _ e];exact hP.db.p w hw
 ·show ups D.P v (D.P v++[(u:Int)]) (num k)=[]/\D.m (num k)=0;rw[aw _ _ (hvi k hk hkn)];exact hP.db.f k hk hkn
 ·have hok:=hP.ok;refine⟨λw hw=>?_,λk hk y hy=>?_,λk hk=>?_,hok.r⟩
  ·show (ups D.P v (D.P v++[(u:Int)]) w).Pairwise (·<·)
   by_cases e:w=v
   ·rw[e,aM];rw[List.pairwise_append];exact⟨hok.s v hv,List.pairwise_singleton _ _,λa ha b hb=>by rw[SK.1 hb];exact hlt a ha⟩
   ·rw[aw _ _ e];exact hok.s w hw
  ·have hy:y∈ups D.P v (D.P v++[(u:Int)]) (num k):=hy
   by_cases e:num k=v
   ·rw[e,aM]at hy;rcases SG.1 hy with h|h
    ·rw[<-e]at h;exact hok.a k hk y h
    ·obtain⟨k',h1,h2⟩:=hua;have:¬k<i:=λh=>hvl k h e;exact⟨k',by omega,by rw[SK.1 h,h2]⟩
   ·rw[aw _ _ e]at hy;exact hok.a k hk y hy
  ·show (D.m (num k):Int)=S.bT (ups D.P v (D.P v++[(u:Int)]) (num k)) D.c;rw[aw _ _ (hvl k hk)];exact hok.w k hk
end
end Hx
end
section
namespace Hx
open Go
noncomputable section
structure DJ (r0 prow:List AV) (n q i p v u:Nat) (gr:Int) (r5:AV) (num:Nat->Nat) (j:Nat) (t:T) (g:G):Prop where
 st:St t ((13,.int .i64 (u:Int))::LDB n q i p v r5)
 hd:∃V E D,DP r0 prow n q i p v gr r5 num g V E D/\(∀y∈D.P v,y<=(u:Int))/\((∃k,k<j/\num k=u)\/∀y∈D.P v,y<(u:Int))
theorem Qx{d n q i p v u:Nat}{gr:Int}{r0:List AV}{y1 y2:UInt8}{wv r5:AV}{pl:List Int}{num:Nat->Nat}{Q:QT}{t:T}{g:G}(hn:1<=n/\n<=5)(h5:IT 0 pl r5)(hN:Num n pl num)(hi:i<n)(hv:v=num i)(hu:u<n)
  (h0:DJ r0 [u8v y1,u8v y2,wv] n q i p v u gr r5 num 0 t g) (h14:tat t 14=.int .i64 0)
  (fin:∀t g,DJ r0 [u8v y1,u8v y2,wv] n q i p v u gr r5 num i t g->Q (.exit 6) t [] g):wpL (wp C0 d none gq) Q t [] g:=by
 have r5i:∀h,ak h 1 r5=some (pl.map ci):=λh=>(h5.sl h).ints;have hvn:v<n:=by rw[hv];exact hN.lt i hi
 have hvi:∀k,i<k->k<n->num k≠v:=λk h1 h2 e=>by have:=hN.inj k i h2 hi (by rw[e,hv]);omega
 have hvl:∀k,k<i->num k≠v:=λk h1 e=>by have:=hN.inj k i (by omega) hi (by rw[e,hv]);omega
 obtain⟨FR,hFR⟩:∃FR,FR=Ae:=⟨_,rfl⟩;simp only[gq,lD];rw[show (SC.feet [0,1,0,0,8,0,56,120,248,0,512,2040,4095,8191,16383] [oF 131 1 4,oL 132 131,oM 133 12,oF 134 1 4,oL 135 134,oM 136 12,VP 137 3 135 136,oF 138 1 137,oL 139 138,oM 140 13,o 141 (.bsl 1 1 [.int .i64 0] [0] [.t 140]),o 142 (.app 1 8 (.t 139) (.t 141)),VP 143 3 132 133,oF 144 1 143,VL 1 144 142])=FR from hFR.symm];refine fc i (by omega) (λj t df g=>df=[]/\DJ r0 [u8v y1,u8v y2,wv] n q i p v u gr r5 num j t g) ⟨rfl,h0⟩ h14 (by decide) ?_ ?_ ?_ ?_
 ·rintro j t df g w s (rfl|rfl|rfl) ⟨a1,⟨b1,b2,b3,b4,b5,b6,b7,b8,b9,-⟩,c⟩<;>exact⟨a1,by simp[St,LDB,sx,b1,b2,b3,b4,b5,b6,b7,b8,b9],c⟩
 ·rintro j t df g hj ⟨rfl,⟨h13,h1,h2,h3,h4,h5,h10,h11,h12,-⟩,hD⟩ h14;simp only[sz,simprocAttr,h14,h10];exact⟨by simp[St,LDB,sx,h13,h1,h2,h3,h4,h5,h10,h11,h12],hD⟩
 ·rintro j t df g hj ⟨rfl,⟨h13,h1,h2,h3,h4,h5,h10,h11,h12,-⟩,V,E,D,hP,hle,hcs⟩ h14;obtain⟨kp,-,-⟩:=hP.p;have kp:g.h.get p=VG 3 [[u8v y1,u8v y2,wv]]:=kp;obtain⟨kq,q2a,q2b⟩:=hP.dn.q (.inl rfl);have rns:=hP.dn.ns.rows;have hry:=we hP.dn.ns (by simp;omega);have u1:j<(pl.map ci).length:=by rw[Ss,hN.len];omega
  have u2:(pl.map ci)[j]?=some (ci (num j:Int)):=by rw[R_,hN.at_ j (by omega)];rfl
  have u3:v<((List.range n).map (ip D V)).length:=by simpa using hvn
  have u4:((List.range n).map (ip D V))[v]?=some [.int .i64 (D.c v),V (v+1,0),V (v+1,1)]:=iJ (ip D V) hvn;have hps:=hP.dn.bn.ps v hvn;have hlen:∀g2:G,dO .slice (V (v+1,0)) g2=.val (.int .i64 ((D.P v).length:Int)):=λg2=>by have:=(hP.dn.hp.own (.inl (LN.p hvn)) hps.1).rows;rw[qf this];simp
  have w1:IntKind.wrap .u64 (j:Int)=(j:Int):=q7 (by omega) (by omega);obtain⟨z1,hz1⟩:=A8 y2.toNat j;obtain⟨z2,hz2⟩:=A7 z1 1;have hcs':(∃k,k<j+1/\num k=u)\/∀y∈D.P v,y<(u:Int):=by
   rcases hcs with⟨k,h1,h2⟩|h
   ·exact .inl ⟨k,by omega,h2⟩
   ·exact .inr h
  have hz2':bU .and (.int .u8 (z1:Int)) (.int .u8 1)=.val (.int .u8 z2):=hz2
  by_cases c1:(num j:Int)=(u:Int)
  ·by_cases c2:z2=1
   ·by_cases c3:((D.P v).length:Int)<3
    ·simp only[sz,simprocAttr,h14,h5,h13,r5i,u1,u2,ci,c1,h11,kp,u8v,w1,hz1,hz2',c2,h4,kq,h12,rns,u3,u4,hry,hlen,c3];rw[hFR];refine OB (n:=n) (q:=q) (i:=i) (p:=p) (v:=v) (u:=u) (r5:=r5) (num:=num) hn hvn hvi hu hvl ⟨j,hj,by omega⟩ ?_ ?_ ?_ ?_ hP (by omega) (rest:=[]) ?_
     ·rcases hcs with⟨k,h1,h2⟩|h
      ·have:=hN.inj k j (by omega) (by omega) (by omega);omega
      ·exact h
     ·simp[sx,h4]
     ·simp[sx,h12]
     ·simp[sx,h13]
     intro t' g' V' E' D' hst hPv hP';simp only[sy];have hs:∀s,s<131->tat t' s=_:=λs h=>hst s (.inl h);refine⟨⟨?_,V',E',D',hP',λy hy=>?_,.inl ⟨j,by omega,by omega⟩⟩,?_⟩
     ·simp[St,LDB,hs,sx,h13,h1,h2,h3,h4,h5,h10,h11,h12]
     ·rw[hPv]at hy;rcases SG.1 hy with h|h
      ·exact hle y h
      ·rw[SK.1 h];exact VD _
     ·simp[hs,sx,h14]
    ·simp only[sz,simprocAttr,h14,h5,h13,r5i,u1,u2,ci,c1,h11,kp,u8v,w1,hz1,hz2',c2,h4,kq,h12,rns,u3,u4,hry,hlen,c3];exact⟨by simp[St,LDB,sx,h13,h1,h2,h3,h4,h5,h10,h11,h12],V,E,D,hP,hle,hcs'⟩
   ·simp only[sz,simprocAttr,h14,h5,h13,r5i,u1,u2,ci,c1,h11,kp,u8v,w1,hz1,hz2',c2];exact⟨by simp[St,LDB,sx,h13,h1,h2,h3,h4,h5,h10,h11,h12],V,E,D,hP,hle,hcs'⟩
  ·simp only[sz,simprocAttr,h14,h5,h13,r5i,u1,u2,ci,c1];exact⟨by simp[St,LDB,sx,h13,h1,h2,h3,h4,h5,h10,h11,h12],V,E,D,hP,hle,hcs'⟩
 ·rintro t df g ⟨rfl,h⟩;exact fin t g h
structure DK (r0 prow:List AV) (n q i p v:Nat) (gr:Int) (r5:AV) (num:Nat->Nat) (j:Nat) (t:T) (g:G):Prop where
 st:St t (LDB n q i p v r5)
 hd:∃V E D,DP r0 prow n q i p v gr r5 num g V E D/\∀y∈D.P v,y<(j:Int)
theorem Qy{d n q i p v:Nat}{gr:Int}{r0:List AV}{y1 y2:UInt8}{wv r5:AV}{pl:List Int}{num:Nat->Nat}{Q:QT}{t:T}{g:G}(hn:1<=n/\n<=5)(h5:IT 0 pl r5)(hN:Num n pl num)(hi:i<n)(hv:v=num i)
  (h0:DK r0 [u8v y1,u8v y2,wv] n q i p v gr r5 num 0 t g) (h13:tat t 13=.int .i64 0)
  (fin:∀t g,DK r0 [u8v y1,u8v y2,wv] n q i p v gr r5 num n t g->Q (.exit 4) t [] g):wpL (wp C0 d none gt) Q t [] g:=by
 simp only[gt,lE];refine fc n (by omega) (λj t df g=>df=[]/\DK r0 [u8v y1,u8v y2,wv] n q i p v gr r5 num j t g) ⟨rfl,h0⟩ h13 (by decide) ?_ ?_ ?_ ?_
 ·rintro j t df g w s (rfl|rfl|rfl) ⟨a1,⟨b1,b2,b3,b4,b5,b6,b7,b8,-⟩,c⟩<;>exact⟨a1,by simp[St,LDB,sx,b1,b2,b3,b4,b5,b6,b7,b8],c⟩
 ·rintro j t df g hj ⟨rfl,⟨h1,h2,h3,h4,h5,h10,h11,h12,-⟩,hD⟩ h13;simp only[sz,simprocAttr,h13,h3];exact⟨by simp[St,LDB,sx,h1,h2,h3,h4,h5,h10,h11,h12],hD⟩
 ·rintro j t df g hj ⟨rfl,⟨h1,h2,h3,h4,h5',h10,h11,h12,-⟩,V,E,D,hD,hlt⟩ h13;simp only[sz,simprocAttr];refine Qx (u:=j) hn h5 hN hi hv hj ⟨by simp[St,LDB,sx,h13,h1,h2,h3,h4,h5',h10,h11,h12],V,E,D,hD,λy hy=>Int.le_of_lt (hlt y hy),.inr hlt⟩ (by simp[sx]) ?_;rintro t2 g2 ⟨⟨k13,k1,k2,k3,k4,k5,k10,k11,k12,-⟩,V2,E2,D2,hD2,hle2,-⟩;simp only[sx,sy,↓reduceIte];exact⟨⟨by simp[St,LDB,k1,k2,k3,k4,k5,k10,k11,k12],V2,E2,D2,hD2,λy hy=>by have:=hle2 y hy;omega⟩,k13⟩
 ·rintro t df g ⟨rfl,h⟩;exact fin t g h
def Aj:SC:=.feet [0,1,0,0,8,0,56,120,248,0,512,0,2048,0,14336,30720,63488,0,131072,0,0,1048576,0,7340032,15728640,32505856,66060288,133693440,268434944,536870400,1073741816,2147483647,4294967295,8589934591] [oF 153 1 4,oL 154 153,oM 155 12,oF 156 1 4,oL 157 156,oM 158 12,VP 159 3 157 158,oF 160 2 159,oL 161 160,oF 162 0 4,oL 163 162,oF 164 1 4,oL 165 164,oM 166 12,VP 167 3 165 166,oF 168 0 167,oL 169 168,oF 170 2 11,oL 171 170,oM 172 15,oF 173 1 4,oL 174 173,oM 175 12,VP 176 3 174 175,oF 177 0 176,oL 178 177,oA 179 178,VH 180 .mul 172 179,o 181 (.call N.ap [.t 163,.t 169,.t 171,.t 180]),o 182 (.bsl 1 1 [.nils] [0] [.t 181]),o 183 (.app 1 24 (.t 161) (.t 182)),VP 184 3 154 155,oF 185 2 184,VL 1 185 183]
structure DQ (r0 prow:List AV) (n q i p v j:Nat) (gr:Int) (r5:AV) (num:Nat->Nat) (P0:List Int) (c0:Nat->Int) (g:G) (V:Ky->AV) (E:Ky->En) (D:ND):Prop where
 dn:DN X2 r0 n q 1000 gr V E D g
 pb:V (0,2)=.hptr p 0 0 0/\E (0,2)=.bx prow
 db:DB D n i v num
 mv:D.m v=j
 pv:D.P v=P0
 cv:D.c=c0
 ok:DOk gr D n i num
theorem DQ.p{r0 prow:List AV}{n q i p v j:Nat}{gr:Int}{r5:AV}{num:Nat->Nat}{P0:List Int}{c0:Nat->Int}{g:G}{V:Ky->AV}{E:Ky->En}{D:ND}(h:DQ r0 prow n q i p v j gr r5 num P0 c0 g V E D):g.h.get p=VG prow.length [prow]/\2<=p/\p<g.nx:=by obtain⟨id,h1,h2,h3,h4⟩:=h.dn.hp.box (k:=(0,2)) (.inr (.inr rfl)) h.pb.2;rw[h.pb.1]at h3;injection h3 with h3;subst h3;exact⟨h4,h1,h2⟩
theorem OC{d n q i p v j kk:Nat}{gr:Int}{r0:List AV}{y1 y2:UInt8}{W:List UInt8}{wv r5:AV}{num:Nat->Nat}{P0:List Int}{c0:Nat->Int}{Q:QT}{t:T}{g:G}{V:Ky->AV}{E:Ky->En}{D:ND}(hd:0<d)(hn:1<=n/\n<=5)(hv:v<n)(hvi:∀k,i<k->k<n->num k≠v)(hvl:∀k,k<i->num k≠v)(hj:j<64)(hgr:0<=gr/\gr<=60)(hwv:SlR NoP kk .nil W wv)
  (h4:tat t 4=.hptr q 0 0 0) (h11:tat t 11=.hptr p 0 0 0) (h12:tat t 12=.int .i64 (v:Int)) (h15:tat t 15=.int .i64 (j:Int)) (hP:DQ r0 [u8v y1,u8v y2,wv] n q i p v j gr r5 num P0 c0 g V E D)
  (fin:∀t' g' V' E' D',(∀s,(s<153\/185<s)->tat t' s=tat t s)->DQ r0 [u8v y1,u8v y2,wv] n q i p v (j+1) gr r5 num P0 c0 g' V' E' D'->Q .norm t' [] g') :
  wp C0 d none Aj Q t [] g:=by
 have hD:=hP.dn;obtain⟨kq,q2a,q2b⟩:=hD.q (.inl rfl);obtain⟨kp,-,hpx⟩:=hP.p;have kp:g.h.get p=VG 3 [[u8v y1,u8v y2,wv]]:=kp;unfold Aj;have rns:=hD.ns.rows;have hry:=we hD.ns (by simp;omega);have u3:v<((List.range n).map (ip D V)).length:=by simpa using hv
 have u4:=iJ (ip D V) hv;have u4':((List.range n).map (ip D V))[v]?=some [.int .i64 (D.c v),V (v+1,0),V (v+1,1)]:=u4;have hrs:=hD.bn.rs v hv;have hnx:=hD.hp.nx;obtain⟨C,hC,hCb⟩:∃C:Nat,D.c v=(C:Int)/\(C=2\/C=3):=by
  rcases hP.db.c v hv with h|h
  ·exact⟨2,h,.inl rfl⟩
  ·exact⟨3,h,.inr rfl⟩
 have hjC:j*(C+1)<=64*4:=VA (by omega) (by omega);have w1:IntKind.wrap .i64 ((C:Int)+1)=((C+1:Nat):Int):=by rw[ax (by omega) (by omega)];rfl
 have w2:IntKind.wrap .i64 ((j:Int)*((C+1:Nat):Int))=((j*(C+1):Nat):Int):=by rw[<-Tt,ax (by omega) (by omega)]
 rw[hC]at u4';simp only[sz,simprocAttr,sf,h4,h11,h12,h15,kq,kp,rns,u3,u4',hry,w1,w2,zx];refine kU (QN (C:=C) (F:=j*(C+1)) (gr:=gr) (l:=W) hd (by omega) (by omega) hgr hwv) ?_;rintro r ⟨l,⟨hl,hlg'⟩,_,e1,hr⟩;injection e1 with e1;subst e1;have hrc:=hr.cell;simp only[sz,simprocAttr,sf,hrc.1,hrc.2];refine (hD.hp.step (g':=_) ?_ ?_).app2 (k:=(v+1,1)) (.inl (LN.r hv)) hrs.1 (new:=[[r]]) (by simp[sx,sy]) (by unfold aY;simp;rw[hP.mv];omega) λv1 g1 hH1 n1 fb1 fo1 lg1 vc vt=>?_
 ·simp;omega
 ·intro i _ hi;simp[RW];omega
 simp only[sx,sy]at n1 fb1 fo1 lg1;have hnk:¬LNX X2 n D (v+1,2+j):=by
  rintro (h|h)
  ·rcases h with h|⟨i',q',h,-,hq⟩
   ·simp at h
   ·rw[hP.db.o]at hq;simp only[Prod.mk.injEq]at h;omega
  ·rcases h with h|h<;>simp at h
 have hH1:=hH1.off (x:=r) hnk;have e00:ups (ups V (v+1,1) v1) (v+1,2+j) r (0,0)=V (0,0):=by rw[aw _ _ (by simp),aw _ _ (by simp)]
 have hE00:ups E (v+1,1) (.sl 1 ((List.range (D.m v)).map (GD V v)++[[r]])) (0,0)=.sl 3 ((List.range n).map (ip D V)):=by rw[aw _ _ (by simp)];exact hD.bn.ns
 have rns1:ak g1.h 3 (V (0,0))=some ((List.range n).map (ip D V)):=by rw[<-e00];exact (hH1.own (k:=(0,0)) (.inl LN.z) hE00).rows
 simp only[sz,simprocAttr,sf,rns1,u3,hry];refine (hH1.same (g':=_) ?_ ?_).putv (k:=(0,0)) (.inl LN.z) e00 (row':=[.int .i64 (C:Int),V (v+1,0),v1]) hE00 u4 (by rw[vc];rfl) vt (by rw[vc,ip,hC];rfl) λg2 hH2 n2 fb2 fo2=>?_
 ·simp
 ·simp;omega
 simp only[sy];refine⟨?_,?_⟩
 ·simp only[Si,Sl,Sf,Sd];refine aA [false,false,false,false,false,false,false,false,false,false,false,false,false,false,false,false,false,false,false,false,false,false,false,false,false,false,false,false,false,true,true,false,false,true] [(0,29),(1,29),(2,29),(3,29),(4,29),(5,29),(6,29),(7,29),(8,29),(0,30),(1,30),(2,30)] (by simp[All2,ac,ap]) (by decide) ?_;have hlg:∀i∈g1.lg,i≠q:=λi hi e=>by
   rcases lg1 i hi with h|h|h
   ·simp at h
   ·exact Cr hD.hp (.inl (LN.r hv)) (.inr (.inl rfl)) (by simp) h (by rw[hD.vb,e];rfl)
   ·omega
  obtain⟨id0,ep0,hid0,hv0⟩:∃id ep,id<g.nx/\V (0,0)=.hsl id ep 0 ((List.range n).map (ip D V)).length none:=by
   rcases hD.ns with⟨h,e⟩|⟨id,ep,lo,-,h1,h2,-⟩
   ·have:=congrArg List.length e;simp at this;omega
   ·exact⟨id,ep,h1,h2⟩
  have hlg2:∀i∈g1.lg,i≠id0:=λi hi e=>by
   rcases lg1 i hi with h|h|h
   ·simp at h
   ·exact Cr hD.hp (.inl (LN.r hv)) (.inl LN.z) (by simp) h (by rw[hv0,e];rfl)
   ·omega
  rintro p hp' x y hx hy;simp only[Sq,Sk,Ui]at hp';rcases hp' with rfl|rfl|rfl|rfl|rfl|rfl|rfl|rfl|rfl|rfl|rfl|rfl<;>(simp at hx hy;subst hx;subst hy;refine bH rfl rfl rfl rfl ?_ ?_ ?_<;>simp[ac,ap,ae,hv0,jV]<;>first|omega|exact hlg|exact hlg2|exact λi hi e=>hlg i hi e.symm|exact λi hi e=>hlg2 i hi e.symm)
 have hmv:=hP.mv;refine fin _ _ (ups (ups V (v+1,1) v1) (v+1,2+j) r) _ { D with m:=ups D.m v (j+1),R:=ups D.R v (ups (D.R v) j l) } (λs hs=>?_) ⟨⟨(hH2.same (g':=_) (by simp) (by simp)).sub λk hk=>hk,⟨?_,λu hu=>?_,λu hu=>?_,λu r' hu hr'=>?_⟩,?_,?_,?_,?_⟩,⟨?_,?_⟩,⟨hP.db.c,hP.db.p,λu hu=>?_,hP.db.o,λk hk hkn=>?_⟩,aM _ _ _,hP.pv,hP.cv,?_⟩
 ·simp only[lJ]
  repeat rw[Sa (by omega)]
 ·rw[aM,py _ _ hv];congr 1;refine zW ?_ λj hj hne=>by simp[ip,aw,hne]
  show _=[AV.int .i64 (D.c v),ups (ups V (v+1,1) v1) (v+1,2+j) r (v+1,0),ups (ups V (v+1,1) v1) (v+1,2+j) r (v+1,1)];rw[hC,aw _ _ (by first| (simp;done)| (simp;omega)),aw _ _ (by first| (simp;done)| (simp;omega)),aw _ _ (by first| (simp;done)| (simp;omega)),aM]
 ·rw[aw _ _ (by simp),aw _ _ (by simp)];exact hD.bn.ps u hu
 ·by_cases e:u=v
  ·subst e;rw[aw _ _ (by simp),aM];show En.sl 1 _=En.sl 1 ((List.range (ups D.m u (j+1) u)).map _)/\ups D.m u (j+1) u<=1000;rw[aM];refine⟨?_,by omega⟩;rw[hmv,Tw,TA];congr 2
   ·exact Ti λr' hr'=>by have:=Sm.1 hr';simp[GD,aw,show ¬r'=j by omega,show ¬2+r'=1 by omega]
   ·simp[GD,aM]
  ·rw[aw _ _ (by simp),aw _ _ (by simp[e])];show E (u+1,1)=En.sl 1 ((List.range (ups D.m v (j+1) u)).map _)/\ups D.m v (j+1) u<=1000;rw[aw _ _ e];have:=hD.bn.rs u hu;refine⟨?_,this.2⟩;rw[this.1];congr 1;exact Ti λr' _=>by simp[GD,aw,e]
 ·by_cases e:u=v
  ·subst e;have hr':r'<ups D.m u (j+1) u:=hr';rw[aM]at hr';show (ups D.R u (ups (D.R u) j l) u r').length<=1000/\((r'<D.o u/\_=En.sl 1 ((ups D.R u (ups (D.R u) j l) u r').map ci))\/SlR NoP 0 .nil (ups D.R u (ups (D.R u) j l) u r') _);rw[aM]
   by_cases e2:r'=j
   ·subst e2;rw[aM,aM];exact⟨by omega,.inr hr⟩
   ·rw[aw _ _ e2,aw _ _ (by first| (simp;done)| (simp;omega)),aw _ _ (by first| (simp;done)| (simp;omega)),aw _ _ (by simp[e2]),aw _ _ (by first| (simp;done)| (simp;omega))];exact hD.bn.rr u r' hu (by omega)
  ·have hr':r'<ups D.m v (j+1) u:=hr';rw[aw _ _ e]at hr';show (ups D.R v (ups (D.R v) j l) u r').length<=1000/\((r'<D.o u/\_=En.sl 1 ((ups D.R v (ups (D.R v) j l) u r').map ci))\/SlR NoP 0 .nil (ups D.R v (ups (D.R v) j l) u r') _);rw[aw _ _ e,aw _ _ (by first| (simp;done)| (simp;omega)),aw _ _ (by first| (simp;done)| (simp;omega)),aw _ _ (by simp[e]),aw _ _ (by simp[e])];exact hD.bn.rr u r' hu hr'
 ·rw[aw _ _ (by simp),aw _ _ (by simp)];exact hD.vb
 ·rw[aw _ _ (by simp),aw _ _ (by simp),aw _ _ (by simp),aw _ _ (by simp)];exact hD.bx
 ·simp only[bumpG_h];rw[fb2 0 (by omega)];simp;rw[fb1 0 (by omega),Sa (by omega),hD.h0]
 ·simp only[bumpG_h];rw[fb2 1 (by omega)];simp;rw[fb1 1 (by omega),Sa (by omega),hD.h1]
 ·rw[aw _ _ (by simp),aw _ _ (by simp)];exact hP.pb.1
 ·rw[aw _ _ (by simp),aw _ _ (by simp)];exact hP.pb.2
 ·show ups D.m v (j+1) u<=64
  by_cases e:u=v
  ·rw[e,aM];omega
  ·rw[aw _ _ e];exact hP.db.m u hu
 ·show D.P (num k)=[]/\ups D.m v (j+1) (num k)=0;rw[aw _ _ (hvi k hk hkn)];exact hP.db.f k hk hkn
 ·have hok:=hP.ok;refine⟨hok.s,hok.a,λk hk=>?_,λu r' hu hr'=>?_⟩
  ·show ((ups D.m v (j+1) (num k):Nat):Int)=_;rw[aw _ _ (hvl k hk)];exact hok.w k hk
  ·show Nx gr (D.c u) (ups D.R v (ups (D.R v) j l) u r');have hr':r'<ups D.m v (j+1) u:=hr'
   by_cases e:u=v
   ·rw[e,aM]at hr' ⊢
    by_cases e2:r'=j
    ·rw[e2,aM,hC];exact hlg'
    ·rw[aw _ _ e2];exact hok.r v r' hv (by omega)
   ·rw[aw _ _ e]at hr' ⊢;exact hok.r u r' hu hr'
theorem H3{gr:Int}{n v:Nat}{D:ND}(hv:v<n)(hp:∀y∈D.P v,0<=y/\y<n):S.ac (S.aa ⟨gr,(List.range n).map D.node⟩) (D.P v)=(D.P v).map λy=>D.c y.toNat:=by
 unfold S.ac S.aa;refine Ti λy hy=>?_;have:=hp y hy;rw[List.map_map];have h:y.toNat<n:=by omega
 simp[h,ND.node]
theorem zV{n v:Nat}{D:ND}(hv:v<n)(hc:∀u,u<n->D.c u=2\/D.c u=3)(hp:(D.P v).length<=3/\∀y∈D.P v,0<=y/\y<n):(∀c∈(D.P v).map λy=>D.c y.toNat,1<=c/\c<=4)/\1<=S.bT (D.P v) D.c/\S.bT (D.P v) D.c<=64:=by
 have h1:∀c∈(D.P v).map λy=>D.c y.toNat,1<=c/\c<=4:=λc h=>by obtain⟨y,hy,rfl⟩:=SX.1 h;have:=hp.2 y hy;have:=hc y.toNat (by omega);omega
 have h2:=cg h1;have h3:=gS (a:=((D.P v).map λy=>D.c y.toNat).length) (b:=3) (by simpa using hp.1);have h4:(4:Int) ^ 3=64:=by decide
 refine⟨h1,h2.1,?_⟩;unfold S.bT;omega
structure DRw (r0 prow:List AV) (n q i p v j:Nat) (gr:Int) (r5:AV) (num:Nat->Nat) (P0:List Int) (c0:Nat->Int) (t:T) (g:G):Prop where
 st:St t (LDB n q i p v r5)
 hd:∃V E D,DQ r0 prow n q i p v j gr r5 num P0 c0 g V E D
theorem Qz{d n q i p v kk:Nat}{gr:Int}{r0:List AV}{y1 y2:UInt8}{W:List UInt8}{wv r5:AV}{num:Nat->Nat}{P0:List Int}{c0:Nat->Int}{Q:QT}{t:T}{g:G}(hd:0<d)(hn:1<=n/\n<=5)(hv:v<n)(hvi:∀k,i<k->k<n->num k≠v)(hvl:∀k,k<i->num k≠v)(hgr:0<=gr/\gr<=60)(hwv:SlR NoP kk .nil W wv)
  (h0:DRw r0 [u8v y1,u8v y2,wv] n q i p v 0 gr r5 num P0 c0 t g) (h15:tat t 15=.int .i64 0)
  (fin:∀(t:T) (g:G) (j:Nat),(j:Int)=S.bT P0 c0->DRw r0 [u8v y1,u8v y2,wv] n q i p v j gr r5 num P0 c0 t g->Q (.exit 8) t [] g):wpL (wp C0 d none gu) Q t [] g:=by
 have hM:1<=S.bT P0 c0/\S.bT P0 c0<=64:=by obtain⟨-,V,E,D,hQ⟩:=h0;have:=(zV hv hQ.db.c (hQ.db.p v hv)).2;rw[hQ.pv,hQ.cv]at this;exact this
 obtain⟨M,hMe⟩:=R8 (show 0<=S.bT P0 c0 by omega);obtain⟨FR,hFR⟩:∃FR,FR=Aj:=⟨_,rfl⟩;simp only[gu];rw[show (SC.feet [0,1,0,0,8,0,56,120,248,0,512,0,2048,0,14336,30720,63488,0,131072,0,0,1048576,0,7340032,15728640,32505856,66060288,133693440,268434944,536870400,1073741816,2147483647,4294967295,8589934591] [oF 153 1 4,oL 154 153,oM 155 12,oF 156 1 4,oL 157 156,oM 158 12,VP 159 3 157 158,oF 160 2 159,oL 161 160,oF 162 0 4,oL 163 162,oF 164 1 4,oL 165 164,oM 166 12,VP 167 3 165 166,oF 168 0 167,oL 169 168,oF 170 2 11,oL 171 170,oM 172 15,oF 173 1 4,oL 174 173,oM 175 12,VP 176 3 174 175,oF 177 0 176,oL 178 177,oA 179 178,VH 180 .mul 172 179,o 181 (.call N.ap [.t 163,.t 169,.t 171,.t 180]),o 182 (.bsl 1 1 [.nils] [0] [.t 181]),o 183 (.app 1 24 (.t 161) (.t 182)),VP 184 3 154 155,oF 185 2 184,VL 1 185 183])=FR from hFR.symm];refine fc M (by omega) (λj t df g=>df=[]/\DRw r0 [u8v y1,u8v y2,wv] n q i p v j gr r5 num P0 c0 t g) ⟨rfl,h0⟩ h15 (by decide) ?_ ?_ ?_ ?_
 ·rintro j t df g w s (rfl|rfl|rfl) ⟨a1,⟨b1,b2,b3,b4,b5,b6,b7,b8,-⟩,c⟩<;>exact⟨a1,by simp[St,LDB,sx,b1,b2,b3,b4,b5,b6,b7,b8],c⟩
 ·rintro j t df g hj ⟨rfl,⟨h1,h2,h3,h4,h5,h10,h11,h12,-⟩,V,E,D,hQ⟩ h15;obtain⟨kq,q2a,q2b⟩:=hQ.dn.q (.inl rfl);have hnodes:=hQ.dn.bn.nodes hQ.dn.hp (λk h=>.inl h) (by omega) (by omega);have hnet:Agg (⟨gr,(List.range n).map D.node⟩:Net) (λj=>2<=j) 0 g.h (.agg [.int .i64 gr,V (0,0)]):=⟨_,rfl,nJ.2 ⟨_,rfl,hnodes⟩⟩;have hpv:=hQ.db.p v hv;obtain⟨r,er,hr⟩:=JD (d:=d) (g:=g) (i:=v) (x:=D.node v) hd hnet (by simp;omega) (by simp[hv]) (by show (D.P v).length<_;omega) (λy hy=>by have:=hpv.2 y hy;simp;omega);have hpar:=H3 (gr:=gr) hv hpv.2;have hb:=zV hv hQ.db.c hpv;have hsz:=MQ (d:=d) (g:=g) hd (hr.sl g.h);have hse:S.bV (S.ac (S.aa ⟨gr,(List.range n).map D.node⟩) (D.node v).parents)=(M:Int):=by show S.bV (S.ac (S.aa ⟨gr,(List.range n).map D.node⟩) (D.P v))=(M:Int);rw[hpar,JW hb.1 (by simp;omega),<-hMe,S.bT,<-hQ.pv,<-hQ.cv]
  rw[hse]at hsz;simp only[sz,simprocAttr,h15,h4,kq,h12,er,hsz];exact⟨by simp[St,LDB,sx,h1,h2,h3,h4,h5,h10,h11,h12],V,E,D,hQ⟩
 ·rintro j t df g hj ⟨rfl,⟨h1,h2,h3,h4,h5,h10,h11,h12,-⟩,V,E,D,hQ⟩ h15;rw[hFR];refine OC (n:=n) (q:=q) (i:=i) (p:=p) (v:=v) (j:=j) (r5:=r5) (num:=num) hd hn hv hvi hvl (by omega) hgr hwv h4 h11 h12 h15 hQ ?_;intro t' g' V' E' D' hst hQ';have hs:∀s,s<153->tat t' s=tat t s:=λs h=>hst s (.inl h);rw[Cs];exact⟨⟨rfl,by simp[St,LDB,hs,h1,h2,h3,h4,h5,h10,h11,h12],V',E',D',hQ'⟩,by rw[hs 15 (by omega),h15]⟩
 ·rintro t df g ⟨rfl,h⟩;exact fin t g M hMe.symm h
structure DBl (D:ND) (n i:Nat) (num:Nat->Nat):Prop where
 c:∀u,u<n->D.c u=2\/D.c u=3
 p:∀u,u<n->(D.P u).length<=3/\∀y∈D.P u,0<=y/\y<n
 m:∀u,u<n->D.m u<=64
 o:∀u,D.o u=0
 f:∀k,i<=k->k<n->D.P (num k)=[]/\D.m (num k)=0
structure DL (r0:List AV) (n q:Nat) (gr:Int) (r5:AV) (num:Nat->Nat) (i:Nat) (t:T) (g:G):Prop where
 st:St t (LDA n q r5)
 hd:∃V E D,DN X1 r0 n q 1000 gr V E D g/\DBl D n i num/\DOk gr D n i num
theorem Ol{n:Nat}{D:ND}:∀k,LNX X1 n D k->LNX X2 n D k:=λk h=>by
 rcases h with h|h
 ·exact .inl h
 ·exact .inr (.inl h)
theorem OA{d n q kk:Nat}{x:wH}{gr:Int}{a b r5:AV}{pl:List Int}{num:Nat->Nat}{Q:QT}{t:T}{g:G}(hd:0<d)(hgr:0<=gr/\gr<=60)(hn:1<=n/\n<=5)(ha:SlR NoP kk .nil x.2.1 a)(h5:IT 0 pl r5)(hN:Num n pl num)
  (h0:DL [u8v x.1,a,b] n q gr r5 num 0 t g) (h10:tat t 10=.int .i64 0)
  (fin:∀t g,DL [u8v x.1,a,b] n q gr r5 num n t g->Q (.exit 2) t [] g):wpL (wp C0 d none fH) Q t [] g:=by
 obtain⟨pr,r1,r2,r3,r4⟩:=ha.all;have r1:∀h',ak h' 3 a=some pr:=r1;have la:=ha.len;have hal:=ha.1;have r5i:∀h,ak h 1 r5=some (pl.map ci):=λh=>(h5.sl h).ints;simp only[fH,j7];refine fc n (by omega) (λj t df g=>df=[]/\DL [u8v x.1,a,b] n q gr r5 num j t g) ⟨rfl,h0⟩ h10 (by decide) ?_ ?_ ?_ ?_
 ·rintro j t df g v s (rfl|rfl|rfl) ⟨a1,⟨b1,b2,b3,b4,b5,-⟩,c3⟩<;>exact⟨a1,by simp[St,LDA,sx,b1,b2,b3,b4,b5],c3⟩
 ·rintro j t df g hj ⟨rfl,⟨h1,h2,h3,h4,h5,-⟩,hD⟩ h10;simp only[sz,simprocAttr,h10,h3];exact⟨by simp[St,LDA,sx,h1,h2,h3,h4,h5],hD⟩
 ·rintro j t df g hj ⟨rfl,⟨h1,h2,h3,h4,h5',-⟩,V,E,D,hD,hb,hok⟩ h10;obtain⟨p,hp⟩:∃p,p=g.nx:=⟨_,rfl⟩;have hnx:=hD.hp.nx;refine bI (P:=λt' df g'=>df=[]/\g'=g.new (VG 3 [[.int .u8 0,.int .u8 0,.nils]])/\St t' ((10,.int .i64 (j:Int))::(11,.hptr p 0 0 0)::LDA n q r5)) ?_ ?_
  ·simp only[sz,simprocAttr];simp[St,LDA,sx,h1,h2,h3,h4,h5',h10,hp]
  clear h1 h2 h3 h4 h5' h10;rintro t df g1 ⟨rfl,hg1,⟨h10,h11,h1,h2,h3,h4,h5',-⟩⟩;have f1:Fr g g1:=by rw[hg1];exact Fr.new _ _
  have k8:g1.h.get p=VG 3 [[.int .u8 0,.int .u8 0,.nils]]:=by rw[hg1,hp];simp[RW]
  have n1:p<g1.nx:=by rw[hg1,hp];simp
  clear hg1;have hD1:=hD.same f1;have e0:=hD1.h0;refine bI (P:=λt' df g'=>df=[]/\Fr g g'/\St t' ((10,.int .i64 (j:Int))::(11,.hptr p 0 0 0)::LDA n q r5)/\p<g'.nx/\∃(y1 y2:UInt8) (W:List UInt8) (wv:AV),SlR NoP kk .nil W wv/\g'.h.get p=VG 3 [[u8v y1,u8v y2,wv]]) ?_ ?_
  ·simp only[sz,simprocAttr,h10,h1,e0,la];refine fI (λhb=>?_) (λhb=>?_)
   ·have hb:j<x.2.1.length:=by simpa using hb
    obtain⟨y,hy,-,-⟩:=an hb;obtain⟨row,q1,q2⟩:=r3 j y hy;obtain⟨wv,rfl,hwv⟩:=BH.1 q2;have hlt:j<pr.length:=by omega
    have hry:=r4 (by omega);simp only[sz,simprocAttr,h10,h1,e0,r1,hlt,q1,h11,k8];refine⟨?_,by simp[St,LDA,sx,h1,h2,h3,h4,h5',h10,h11],by simpa using n1,y.1,y.2.1,y.2.2,wv,hwv,by simp[RW]⟩;exact⟨Sz f1.1 (by simp),λi hi=>by simp[RW,show ¬i=p by omega];exact f1.2 i hi⟩
   ·simp only[sx,sy];exact⟨f1,by simp[St,LDA,sx,h1,h2,h3,h4,h5',h10,h11],n1,0,0,[],.nils,⟨by show 0<9223372036854775808;decide,rfl⟩,k8⟩
  clear h1 h2 h3 h4 h5' h10 h11 e0 hD1 k8 n1 f1;rintro t df g2 ⟨rfl,f2,⟨h10,h11,h1,h2,h3,h4,h5',-⟩,n2,y1,y2,W,wv,hwv,k8⟩;have hH:=hD.hp.add (g':=g2) (k:=(0,2)) (L':=LNX X2 n D) (v':=.hptr p 0 0 0) (e':=.bx [u8v y1,u8v y2,wv]) (by
   rintro (h|h)
   ·rcases h with h|⟨i',q',h,-,-⟩<;>simp at h
   ·simp[X1]at h) ⟨p,by omega,n2,rfl,k8⟩ f2.1 (λi _ hi=>f2.2 i hi) (λi hi=>by injection hi with hi;omega) (λk hk=>by
   rcases hk with h|h|h
   ·exact .inl (.inl h)
   ·exact .inl (.inr h)
   ·exact .inr h)
  have hfj:=hb.f j (R5 _) hj;have hvn:=hN.lt j hj;have hvi:∀k,j<k->k<n->num k≠num j:=λk h1 h2 e=>by have:=hN.inj k j h2 hj e;omega
  have hvl:∀k,k<j->num k≠num j:=λk h1 e=>by have:=hN.inj k j (by omega) hj e;omega
  have hDP:DP [u8v x.1,a,b] [u8v y1,u8v y2,wv] n q j p (num j) gr r5 num g2 (ups V (0,2) (.hptr p 0 0 0)) (ups E (0,2) (.bx [u8v y1,u8v y2,wv])) D:=by
   refine⟨⟨hH,⟨?_,λu hu=>?_,λu hu=>?_,λu r hu hr=>?_⟩,?_,?_,by rw[f2.2 0 (by omega),hD.h0],by rw[f2.2 1 (by omega),hD.h1]⟩,⟨aM _ _ _,aM _ _ _⟩,⟨hb.c,hb.p,hb.m,hb.o,λk h1 h2=>hb.f k (by omega) h2⟩,hfj.2,hok⟩
   ·rw[aw _ _ (by simp),hD.bn.ns];exact congrArg (En.sl 3) (Ti λu _=>by simp[ip,aw])
   ·rw[aw _ _ (by simp)];exact hD.bn.ps u hu
   ·rw[aw _ _ (by simp)];have:=hD.bn.rs u hu;refine⟨?_,this.2⟩;rw[this.1];exact congrArg (En.sl 1) (Ti λr _=>by simp[GD,aw])
   ·rw[aw _ _ (by simp),aw _ _ (by simp)];exact hD.bn.rr u r hu hr
   ·rw[aw _ _ (by simp)];exact hD.vb
   ·rw[aw _ _ (by simp),aw _ _ (by simp)];exact hD.bx
  have u1:j<(pl.map ci).length:=by rw[Ss,hN.len];exact hj
  have u2:(pl.map ci)[j]?=some (ci (num j:Int)):=by rw[R_,hN.at_ j hj];rfl
  simp only[sz,simprocAttr,j6,h5',h10,r5i,u1,u2,ci];refine Qy (n:=n) (q:=q) (i:=j) (p:=p) (v:=num j) (r5:=r5) (num:=num) hn h5 hN hj rfl ⟨by simp[St,LDB,sx,h1,h2,h3,h4,h5',h10,h11],_,_,_,hDP,λy hy=>by rw[hfj.1]at hy;simp at hy⟩ (by simp[sx]) ?_;clear h1 h2 h3 h4 h5' h10 h11 hDP hH;rintro t g3 ⟨⟨h1,h2,h3,h4,h5',h10,h11,h12,-⟩,V3,E3,D3,hP3,-⟩;simp only[sz,simprocAttr,lF];refine Qz (n:=n) (q:=q) (i:=j) (p:=p) (v:=num j) (r5:=r5) (num:=num) (P0:=D3.P (num j)) (c0:=D3.c) hd hn hvn hvi hvl hgr hwv ⟨by simp[St,LDB,sx,h1,h2,h3,h4,h5',h10,h11,h12],V3,E3,D3,hP3.dn,hP3.pb,hP3.db,hP3.mv,rfl,rfl,hP3.ok⟩ (by simp[sx]) ?_;clear h1 h2 h3 h4 h5' h10 h11 h12 hP3;rintro t g4 M hMp ⟨⟨h1,h2,h3,h4,h5',h10,h11,h12,-⟩,V4,E4,D4,hQ4⟩;simp only[sx,sy,↓reduceIte];have hd4:=hQ4.dn;refine⟨⟨by simp[St,LDA,h1,h2,h3,h4,h5'],V4,E4,D4,⟨hd4.hp.sub Ol,hd4.bn,hd4.vb,hd4.bx,hd4.h0,hd4.h1⟩,⟨hQ4.db.c,hQ4.db.p,hQ4.db.m,hQ4.db.o,λk hk hkn=>hQ4.db.f k hk hkn⟩,⟨hQ4.ok.s,hQ4.ok.a,λk hk=>?_,hQ4.ok.r⟩⟩,h10⟩
  by_cases e:k=j
  ·rw[e,hQ4.mv,hQ4.pv,hQ4.cv,hMp]
  ·exact hQ4.ok.w k (by omega)
 ·rintro t df g ⟨rfl,h⟩;exact fin t g h
structure Drafted (m:Net):Prop where
 l:1<=m.nodes.length/\m.nodes.length<=5
 c:∀x∈m.nodes,x.card=2\/x.card=3
 b:∀x∈m.nodes,x.parents.length<=1000/\x.rows.length<=1000/\∀r∈x.rows,r.length<=1000
 nr:NR m
theorem JG{l:List Int}{n:Int}(hs:l.Pairwise (·<·))(hb:∀y∈l,0<=y/\y<n):S.bP l n=true:=by
 simp only[S.bP,S.cH,Sy,Sm,R7,SY,Sg,beq_iff_eq];intro i hi;obtain⟨x,hx⟩:∃x,l[i]?=some x:=⟨_,R4 hi⟩;have:=hb x (R9 hx);rw[hx,Se];refine⟨this,?_⟩
 by_cases e:i=0
 ·exact .inl e
 ·right;obtain⟨y,hy⟩:∃y,l[i - 1]?=some y:=⟨_,R4 (by omega)⟩;rw[hy,Se];have h1:=(R6.1 hx).2;have h2:=(R6.1 hy).2;rw[<-h1,<-h2];exact TG.1 hs (i - 1) i (by omega) hi (by omega)
def Mm(num:Nat->Nat):Nat->Nat
 |0=>0
 |k+1=>Mm num k ||| S.aG (num k)
theorem CG{n:Nat}{pl:List Int}{num:Nat->Nat}(hN:Num n pl num)(hn:n<=64)(v:Nat):∀k,k<=n->((Mm num k).testBit v=true↔∃k',k'<k/\num k'=v)
 |0,_=>by simp[Mm]
 | k+1,hk=>by
  have hlt:=hN.lt k (by omega);rw[Mm,dQ,wN (by omega),SY,Sg,CG hN hn v k (by omega)];constructor
  ·rintro (⟨k',h1,h2⟩|h)
   ·exact⟨k',by omega,h2⟩
   ·exact⟨k,by omega,h⟩
  ·rintro⟨k',h1,h2⟩
   by_cases e:k'=k
   ·subst e;exact .inr h2
   ·exact .inl ⟨k',by omega,h2⟩
theorem Rq{gr:Int}{D:ND}{n:Nat}{pl:List Int}{num:Nat->Nat}(hN:Num n pl num)(hn:1<=n/\n<=5)(hgr:1<=gr/\gr<=60)(hb:DBl D n n num)(hok:DOk gr D n n num):NR ⟨gr,(List.range n).map D.node⟩:=by
 have hcl:(S.aa ⟨gr,(List.range n).map D.node⟩)=(List.range n).map D.c:=by unfold S.aa;rw[List.map_map];rfl
 refine⟨hgr.1,hgr.2,by simpa using hn.1,by simp;omega,λx hx=>?_,λx hx=>?_,?_,?_,λx hx=>?_,λx hx r hr=>?_⟩
 ·obtain⟨u,hu,rfl⟩:=SX.1 hx;have:=hb.c u (Sm.1 hu);show 1<=D.c u/\D.c u<=4;omega
 ·obtain⟨u,hu,rfl⟩:=SX.1 hx;have hu:=Sm.1 hu;refine JG (hok.s u hu) λy hy=>?_;have:=(hb.p u hu).2 y hy;simpa using this
 ·rw[hcl];have h1:∀c∈(List.range n).map D.c,1<=c/\c<=4:=λc hc=>by obtain⟨u,hu,rfl⟩:=SX.1 hc;have:=hb.c u (Sm.1 hu);omega
  have h2:=cg h1;have h3:=gS (a:=((List.range n).map D.c).length) (b:=5) (by simpa using hn.2);have h4:(4:Int) ^ 5=1024:=by decide
  omega
 ·have hpl:(S.ak ⟨gr,(List.range n).map D.node⟩).length=n:=by simp[S.ak]
  have hpar:∀v,v<n->Par (S.ak ⟨gr,(List.range n).map D.node⟩) v=S.aw (D.P v):=λv hv=>by simp[Par,S.ak,hv,ND.node]
  have hgood:∀k,k<=n->IB (S.ak ⟨gr,(List.range n).map D.node⟩) (Mm num k):=λk=>by
   induction k with
   |zero=>exact λ_=>Bq
   | succ k ih =>
    intro hk;have hlt:=hN.lt k (by omega);refine D8 (ih (by omega)) (by omega) λu hu=>?_;rw[hpar _ hlt]at hu;have hu:=(vX λx hx=>by have:=(hb.p _ hlt).2 x hx;omega).1 hu;obtain⟨k',h1,h2⟩:=hok.a k (by omega) _ hu;exact (CG hN (by omega) u k (by omega)).2 ⟨k',h1,by omega⟩
  refine uY (hgood n (R5 _)) λv hv=>?_;rw[hpl]at hv;exact (CG hN (by omega) v n (R5 _)).2 (hN.sur v hv)
 ·obtain⟨u,hu,rfl⟩:=SX.1 hx;have hu:=Sm.1 hu;obtain⟨k,hk,rfl⟩:=hN.sur u hu;show (((List.range (D.m (num k))).map (D.R (num k))).length:Int)=S.ae (S.ac _ (D.P (num k)));rw[H3 hu (hb.p _ hu).2];have:=hok.w k hk;unfold S.bT at this;rw[<-this];simp
 ·obtain⟨u,hu,rfl⟩:=SX.1 hx;have hu:=Sm.1 hu;obtain⟨r',hr',rfl⟩:=SX.1 hr;exact hok.r u r' hu (Sm.1 hr')
def Ke:VS:=λP k h v=>∃m:Net,Drafted m/\Agg m P k h v
def V0(W:AV)(q:Nat):Ky->AV:=λk=>match k with
 | (0,0)=>W
 | (0,1)=>.hptr q 0 0 0
 |_=>.nils
def E0(W:AV)(n:Nat)(gr:Int):Ky->En:=λk=>match k with
 | (0,0)=>.sl 3 (List.replicate n [.int .i64 0,.nils,.nils])
 | (0,1)=>.bx [.int .i64 gr,W]
 |_=>.sl 1 []
def D0:ND:=⟨λ_=>0,λ_=>[],λ_=>0,λ_ _=>[],λ_=>0⟩
theorem hp0{W:AV}{n q:Nat}{gr:Int}{g:G}(hW:Own g 2 W 3 (List.replicate n [.int .i64 0,.nils,.nils]))(hq:g.h.get q=VG 2 [[.int .i64 gr,W]])(h2:2<=q/\q<g.nx)(hne:vid W≠some q):Hp g 2 (LNX X1 n D0) (V0 W q) (E0 W n gr):=by
 have hk:∀k,LNX X1 n D0 k->k=(0,0)\/k=(0,1)\/∃i s,k=(i+1,s):=λk h=>by
  rcases h with h|h
  ·rcases h with h|⟨i,s,h,-⟩
   ·exact .inl h
   ·exact .inr (.inr ⟨i,s,h⟩)
  ·exact .inr (.inl h)
 refine⟨λk h=>?_,λk l h h' hkl id h1 h3=>?_,by omega⟩
 ·rcases hk k h with rfl|rfl|⟨i,s,rfl⟩
  ·exact hW
  ·exact⟨q,h2.1,h2.2,rfl,hq⟩
  ·exact .inl ⟨rfl,rfl⟩
 ·rcases hk k h with rfl|rfl|⟨i,s,rfl⟩<;>rcases hk l h' with rfl|rfl|⟨i',s',rfl⟩
  ·exact hkl rfl
  ·have h1:eid W=some id:=h1;have h3:some q=some id:=h3;rw[jB hW]at h1;injection h3 with h3;subst h3;exact hne h1
  ·cases h3
  ·have h3:eid W=some id:=h3;have h1:some q=some id:=h1;rw[jB hW]at h3;injection h1 with h1;subst h1;exact hne h3
  ·exact hkl rfl
  ·cases h3
  ·cases h1
  ·cases h1
  ·cases h1
theorem N1{x:Int}{w:AV}(h:w.cells=[w])(h2:w.isTup=false):eH [.int .i64 0,.nils] [((0,1),.int .i64 x),((1,1),w)]=some [.int .i64 x,w]:=by
 have k1:(AV.int .i64 x).cells=[.int .i64 x]:=rfl;have k2:(AV.int .i64 x).isTup=false:=rfl;simp[eH,h,h2,gI,k1,k2]
 rfl
theorem N0{a b:AV}(ha:a.cells=[a]/\a.isTup=false)(hb:b.cells=[b]/\b.isTup=false):eH [.nils,.int .u16 0,.nils] [((0,1),a),((2,1),b)]=some [a,.int .u16 0,b]:=by
 simp[eH,ha,hb,gI]
 rfl
theorem NT{d k:Nat}{g:G}{P:Nat->Prop}{v:AV}{x:wH}(hd:0<d)(hm:Agg x P k g.h v):∃r,am C0 d N.bC [v] g=.val r/\Ke NoP 0 .nil r:=by
 obtain⟨v',e,cs,rfl,hc⟩:=rP (dF x) (by decide) d hm;obtain⟨a,b,rfl,ha,hb⟩:=BG.1 hc;have ha:=ha.tree (h':=.nil) (R5 _);have hb:=hb.tree (h':=.nil) (R5 _);rw[rT];refine bC uB (xs:=[.agg [u8v x.1,a,b]]) (by simp only[aJ,e]) (by simp[jM]) (lj λm=>dF _) (by decide) hd ?_;simp only[sz,simprocAttr,jM];obtain⟨g0,hg0⟩:∃g0,g0=(G.empty.new (VG 3 [[u8v x.1,a,b]])).new (VG 2 [[.int .i64 0,.nils]]):=⟨_,rfl⟩;rw[<-hg0];have f0:g0.h.get 0=VG 3 [[u8v x.1,a,b]]:=by rw[hg0];simp[sx,RW]
 have f1:g0.h.get 1=VG 2 [[.int .i64 0,.nils]]:=by rw[hg0];simp[sx]
 have f2:g0.nx=2:=by rw[hg0];simp[sx]
 clear hg0;have la:=ha.len;have hal:=ha.1;unfold me;obtain⟨n,hn,hnb⟩:∃n:Nat,n=min (max x.2.1.length 1) 5/\1<=n/\n<=5:=⟨_,rfl,by omega⟩;refine bI (P:=λt' df g'=>df=[]/\g'=g0/\St t' [(1,.hptr 0 0 0 0),(2,.hptr 1 0 0 0),(3,.int .i64 (n:Int))]) ?_ ?_
 ·simp only[sz,simprocAttr,f0,la];simp[St,sx];omega
 rintro t df g1 ⟨rfl,rfl,h1,h2,h3,-⟩;obtain⟨gr,hgr,hgb⟩:∃gr:Int,gr=1+(x.1.toNat:Int) % 60/\0<=gr/\gr<=60:=⟨_,rfl,by omega,by omega⟩;have q1:=eP .u8 (a:=(x.1.toNat:Int)) (b:=60) (by omega) (by omega);have w1:IntKind.wrap .i64 ((x.1.toNat:Int) % 60)=(x.1.toNat:Int) % 60:=ax (by omega) (by omega);have w2:IntKind.wrap .i64 (1+(x.1.toNat:Int) % 60)=gr:=by rw[hgr,ax (by omega) (by omega)]
 refine bI (P:=λt' df g'=>df=[]/\∃q V E D,St t' [(1,.hptr 0 0 0 0),(2,.hptr 1 0 0 0),(3,.int .i64 (n:Int)),(4,.hptr q 0 0 0)]/\DN X1 [u8v x.1,a,b] n q 1000 gr V E D g'/\(∀u,D.P u=[]/\D.m u=0/\D.o u=0)) ?_ ?_
 ·simp only[sz,simprocAttr,sf,h1,h3,f0,u8v,q1,w1,w2];refine jS (b:=2) (n:=n) (by unfold aY;omega) (by unfold aY;omega) (by first| (simp;done)| (simp;omega)) λW g2 hW n2 f2' vW lg2=>?_;simp only[sy]at n2 f2' vW lg2;simp only[sz,simprocAttr,sf,N1 hW.cell.1 hW.cell.2,lg2];have n2':g1.nx+7=g2.nx:=by omega
  have k0:g2.h.get 0=VG 3 [[u8v x.1,a,b]]:=by rw[f2' 0 (by omega),f0]
  have k1:g2.h.get 1=VG 2 [[.int .i64 0,.nils]]:=by rw[f2' 1 (by omega),f1]
  refine⟨?_,g2.nx+1+1,V0 W (g2.nx+1+1),E0 W n gr,D0,by simp[St,sx,h1,h2,h3],⟨hp0 ?_ ?_ ⟨by omega,by simp⟩ ?_,⟨?_,λu _=>⟨rfl,by show 0<=1000;omega⟩,λu _=>⟨rfl,by show 0<=1000;omega⟩,λu r _ hr=>by cases hr⟩,rfl,rfl,?_,?_⟩,λu=>⟨rfl,rfl,rfl⟩⟩
  ·simp only[Si,Sl,Sf,Sd,G.new_lg,G.put_lg,setLog_lg];refine aA [false,false,false,false,false,false,true,false,true,true] [(0,6),(1,6),(2,6),(3,6),(4,6),(0,8),(1,8),(2,8),(3,8),(4,8),(5,8),(6,8),(7,8)] (by simp[All2,ac,ap]) (by decide) ?_;rintro p hp' x y hx hy;simp only[Sq,Sk,Ui]at hp';rcases hp' with rfl|rfl|rfl|rfl|rfl|rfl|rfl|rfl|rfl|rfl|rfl|rfl|rfl<;>(simp at hx hy;subst hx;subst hy;refine bH rfl rfl rfl rfl ?_ ?_ ?_<;>simp[ac,ap,ae]<;>omega)
  ·refine hW.fr (by simp;omega) λi hi=>?_;have:=di vW hi;simp[RW,show ¬i=g2.nx+1+1 by omega]
  ·simp[RW]
  ·intro e;have:=di vW e;omega
  ·show En.sl 3 (List.replicate n [.int .i64 0,.nils,.nils])=En.sl 3 ((List.range n).map λ_=>[.int .i64 0,.nils,.nils]);congr 1;rw[List.map_const',List.length_range]
  ·simp[RW,k0];rfl
  ·simp[RW,k1]
 clear h1 h2 h3;rintro t df g2 ⟨rfl,q,V,E,D,⟨h1,h2,h3,h4,-⟩,hD,hD0⟩;obtain⟨num,hN⟩:=QC x.2.2 n;refine bI (P:=λt' df g'=>df=[]/\Fr g2 g'/\∃r5,IT 0 (S.aR x.2.2 n) r5/\St t' (LDA n q r5)) ?_ ?_
 ·simp only[sz,simprocAttr,sf,h3];refine jS (b:=2) (n:=n) (by unfold aY;omega) (by unfold aY;omega) (by have:=hD.hp.nx;first| (simp;done)| (simp;omega)) λU g3 hU n3 f3 vU lg3=>?_;simp only[sy]at n3 f3 vU lg3;have e0:g3.h.get 0=VG 3 [[u8v x.1,a,b]]:=by rw[f3 0 (by have:=hD.hp.nx;omega),hD.h0]
  simp only[sz,simprocAttr,sf,h1,e0,N0 hU.cell hb.cell];have hU':Own g3 2 U 1 ((List.replicate n (0:UInt8)).map λy=>[u8v y]):=by simpa [u8v] using hU
  have hpm:∀g4:G,g4.h=g3.h->∃r,am C0 (d+1) N.aB [.agg [U,.int .u16 0,b]] g4=.val r/\IT 0 (S.aR x.2.2 n) r:=λg4 h=>by
   have:=Ag (d:=d+1) (g:=g4) (k:=max k d) (P:=λ_=>True) (x:=(List.replicate n (0:UInt8),(0:UInt16),x.2.2)) (v:=.agg [U,.int .u16 0,b]) (SH d) ⟨_,rfl,tM.2 ⟨U,b,rfl,?_,?_⟩⟩
   ·have e:min (List.replicate n (0:UInt8)).length 5=n:=by simp;omega
    rw[e]at this;exact this
   ·rw[h];exact Own.sl (α:=UInt8) hU' (by simp;omega) (RS (λy=>dR.2 rfl) _) λ_ _=>trivial
   ·exact (hb.tree (h':=g4.h) (R5 _)).wd λ_ h=>h.elim
  refine kU (hpm _ (by simp)) λr hr=>?_;simp only[sz,simprocAttr,sf,lY];refine⟨?_,⟨?_,λi hi=>?_⟩,r,hr,?_⟩
  ·simp only[Si,Sl,Sf,Sd];refine aA [false,true,false,false,false,false,false] [(1,2),(1,3)] (by simp[All2,ac,ap]) (by decide) ?_;rintro p hp' x y hx hy;simp only[Sq,Sk,Ui]at hp';rcases hp' with rfl|rfl<;>(simp at hx hy;subst hx;subst hy;refine bH rfl rfl rfl rfl ?_ ?_ ?_<;>simp[ac,ap,ae,lg3])
  ·simp;omega
  ·simp;exact f3 i (by omega)
  ·simp[St,LDA,sx,h1,h2,h3,h4]
 clear h1 h2 h3 h4;rintro t df g3 ⟨rfl,f3,r5,hr5,⟨h1,h2,h3,h4,h5,-⟩⟩;have hD3:=hD.same f3;simp only[sz,simprocAttr];refine Qw (n:=n) (q:=q) (x:=x) (gr:=gr) (r5:=r5) (num:=num) hnb ha hr5 hN ⟨by simp[St,LDA,sx,h1,h2,h3,h4,h5],⟨1,by simp[sx],by decide⟩,V,E,D,hD3,λv _=>⟨(hD0 v).1,(hD0 v).2.1⟩,λk hk=>by omega,λu=>(hD0 u).2.2⟩ (by simp[sx]) ?_;clear h1 h2 h3 h4 h5 hD3;rintro t g4 ⟨⟨h1,h2,h3,h4,h5,-⟩,-,V4,E4,D4,hD4,hok⟩;simp only[sz,simprocAttr,j9];refine OA (n:=n) (q:=q) (x:=x) (gr:=gr) (r5:=r5) (num:=num) (SH d) hgb hnb ha hr5 hN ⟨by simp[St,LDA,sx,h1,h2,h3,h4,h5],V4,E4,D4,hD4,⟨λu hu=>?_,λu hu=>?_,λu hu=>?_,?_,λk _ hk=>hok.e _ (hN.lt k hk)⟩,⟨λu hu=>by rw[(hok.e u hu).1];exact .nil,λk hk y hy=>by rw[(hok.e _ (hN.lt k hk)).1]at hy;simp at hy,λk hk=>by omega,λu r hu hr=>by rw[(hok.e u hu).2]at hr;omega⟩⟩ (by simp[sx]) ?_
 ·obtain⟨k,hk,rfl⟩:=hN.sur u hu;exact hok.c k hk
 ·rw[(hok.e u hu).1];simp
 ·rw[(hok.e u hu).2];omega
 ·exact hok.o
 clear h1 h2 h3 h4 h5;rintro t g5 ⟨⟨h1,h2,h3,h4,h5,-⟩,V5,E5,D5,hD5,hb5,hk5⟩;obtain⟨kq,q2a,q2b⟩:=hD5.q rfl;simp only[sz,simprocAttr,j8,h4,kq,h2,hD5.h1];have hnodes:=hD5.bn.nodes hD5.hp (λk h=>.inl h) (by omega) (by omega);refine⟨λ_=>True,⟨gr,(List.range n).map D5.node⟩,⟨by simpa using hnb,λy hy=>?_,λy hy=>?_,Rq hN hnb (by omega) hb5 hk5⟩,⟨_,rfl,nJ.2 ⟨_,rfl,hnodes.wd λi hi=>⟨trivial,by simp[RW,show ¬i=1 by omega]⟩⟩⟩⟩
 ·obtain⟨u,hu,rfl⟩:=SX.1 hy;exact hb5.c u (Sm.1 hu)
 ·obtain⟨u,hu,rfl⟩:=SX.1 hy;have hu:=Sm.1 hu;refine⟨(hD5.bn.ps u hu).2,?_,λr hr=>?_⟩
  ·show ((List.range (D5.m u)).map (D5.R u)).length<=1000;simpa using (hD5.bn.rs u hu).2
  ·obtain⟨r',hr',rfl⟩:=SX.1 hr;exact (hD5.bn.rr u r' hu (Sm.1 hr')).1
def EvV(n:Net):VS:=λP k h v=>∃l:List Int,S.aJ n l=true/\One l P k h v
theorem QP(n:Net):Snb (EvV n) 0:=by
 refine⟨λ{P k h v n} d r hn=>?_,λ{k h v n} r hn=>?_⟩
 ·obtain⟨m,hm,r⟩:=r;obtain⟨v',e,r'⟩:=(bm m).snap d r hn;exact⟨v',e,m,hm,r'⟩
 ·obtain⟨m,hm,r⟩:=r;exact (bm m).tag r hn
def evP(n:Net)(l:List Int):Prop:=∀(i:Nat) (x:Int) (c:Node),l[i]?=some x->n.nodes[i]?=some c->-1<=x/\x<c.card
theorem NV{n:Net}{l:List Int}(hl:l.length=n.nodes.length)(h:evP n l):S.aJ n l=true:=by simp only[S.aJ,R7,Sg,Sy,Sm];refine⟨hl,λi hi=>?_⟩;obtain⟨x,hx⟩:∃x,l[i]?=some x:=⟨_,R4 hi⟩;obtain⟨c,hc⟩:∃c,n.nodes[i]?=some c:=⟨_,R4 (by omega)⟩;have:=h i x c hx hc;simpa [S.aa,hx,hc] using this
theorem LY{d k:Nat}{g:G}{P:Nat->Prop}{w:AV}{m:Net}{vs:List UInt8}(hd:0<d)(hv:vs.length=9)(hm:Agg m P k g.h w)(hn:m.nodes.length<=8)(hc:∀x∈m.nodes,0<x.card) :
  ∃r,am C0 d N.bD [.agg (vs.map u8v),w] g=.val r/\EvV m NoP 0 .nil r:=by
 obtain⟨v',e,cs,rfl,hcs⟩:=rP (dF m) (by decide) d hm;obtain⟨b,rfl,hN⟩:=nJ.1 hcs;obtain⟨rows,r1,r2,r3,r4⟩:=hN.all;have r1:∀h',ak h' 3 b=some rows:=r1;rw[tU];refine bC vD (xs:=[.agg (vs.map u8v),.agg [.int .i64 m.grain,b]]) (by simp only[aJ,e,Au]) (by simp[kJ]) (QP m) (by decide) hd ?_;obtain⟨cu8,hcu⟩:∃c,c=vs.map u8v:=⟨_,rfl⟩;have hcl:cu8.length=9:=by rw[hcu,Ss,hv]
 simp only[sz,simprocAttr,kJ,<-hcu];generalize hg0:((G.empty.new (VG cu8.length [cu8])).new (VG 2 [[AV.int IntKind.i64 m.grain,b]]))=g0;have f0:g0.h.get 0=VG 9 [cu8]:=by rw[<-hg0,hcl];simp[sx,RW]
 have f1:g0.h.get 1=VG 2 [[.int .i64 m.grain,b]]:=by rw[<-hg0];simp[sx]
 have f2:2<=g0.nx:=by rw[<-hg0];simp[sx]
 clear hg0;simp only[sz,simprocAttr,m8];refine fc m.nodes.length (by omega) (λj t df g=>df=[]/\St t [(2,.hptr 0 0 0 0),(3,.hptr 1 0 0 0)]/\g.h.get 0=VG 9 [cu8]/\g.h.get 1=VG 2 [[.int .i64 m.grain,b]]/\2<=g.nx/\∃u L,tat t 5=u/\L.length=j/\evP m L/\Own g 2 u 1 (L.map ci))
  ⟨rfl,by simp[sx,St],f0,f1,f2,_,[],rfl,rfl,λi x c hx=>by simp at hx,.inl ⟨by simp[sx],rfl⟩⟩ (by simp[sx]) (by decide) (by rintro j t df g v s (rfl|rfl|rfl)<;>simp[sx,St]) ?_ ?_ ?_
 ·rintro j t df g hj ⟨rfl,⟨h2,h3,-⟩,e0,e1,hnx,u,L,h5,hu⟩ h6;simp only[sz,simprocAttr,h2,h3,h6,e0,e1,hN.len,St];exact⟨hnx,u,L,h5,hu⟩
 ·rintro j t df g hj ⟨rfl,⟨h2,h3,-⟩,e0,e1,hnx,u,L,h5,hLl,hLp,hu⟩ h6;obtain⟨x,hx,htk,hm⟩:=an hj;obtain⟨row,z1,z2⟩:=r3 j x hx;obtain⟨fa,fb,rfl,-⟩:=cK.1 z2;have hlt:j<rows.length:=by omega
  have hry:=r4 (by omega);have hj8:j<8:=by omega
  obtain⟨y0,hy0⟩:∃y,vs[0]?=some y:=⟨_,R4 (by omega)⟩;have hc0:cu8[0]?=some (.int .u8 (y0.toNat:Int)):=by rw[hcu,R_,hy0];rfl
  obtain⟨y,hy⟩:∃y,vs[1+j]?=some y:=⟨_,R4 (by omega)⟩;have hcy:cu8[1+j]?=some (.int .u8 (y.toNat:Int)):=by rw[hcu,R_,hy];rfl
  have hy8:y.toNat<256:=y.toNat_lt;have hcx:=hc x hm;obtain⟨z,hz⟩:=A8 y0.toNat j;obtain⟨z',hz'⟩:=A7 z 1;have hz':bU .and (.int .u8 (z:Int)) (.int .u8 1)=.val (.int .u8 z'):=hz';have w8:IntKind.wrap .i64 (y.toNat:Int)=(y.toNat:Int):=ax (by omega) (by omega);have w9:IntKind.wrap .u64 (j:Int)=(j:Int):=q7 (by omega) (by omega);have key:∀(t:T) (X:Int),-1<=X->X<x.card->St t [(2,.hptr 0 0 0 0),(3,.hptr 1 0 0 0),(5,u),(6,.int .i64 (j:Int)),(7,.int .i64 X)] ->
    wp C0 (d+1) none il (λe t df g=>e=.norm/\(df=[]/\St t [(2,.hptr 0 0 0 0),(3,.hptr 1 0 0 0)]/\g.h.get 0=VG 9 [cu8]/\g.h.get 1=VG 2 [[.int .i64 m.grain,b]]/\2<=g.nx/\∃u L,tat t 5=u/\L.length=j+1/\evP m L/\Own g 2 u 1 (L.map ci))/\tat t 6=.int .i64 (j:Int)) t [] g:=by
   rintro t X hX1 hX2 ⟨h2,h3,h5,h6,h7,-⟩;simp only[sz,simprocAttr,il,h5,h7];refine aW (new:=[ci X]) (hu.step (Fr.new _ _)) (by simp[sx,sy,ci]) (by simp;omega) (by simp[aY,hLl];omega) λv2 g2 hv2 n2 f2 _ l2=>?_;simp only[sz,simprocAttr,h2,h3,h6,St];refine⟨?_,?_,?_,_,L++[X],rfl,by simp[hLl],?_,?_⟩
   ·rw[f2 0 (by simp) (λe=>by have:=(hu.lt e).1;omega),G.new_h,af _ _ _ (by omega),e0]
   ·rw[f2 1 (by simp;omega) (λe=>by have:=(hu.lt e).1;omega),G.new_h,af _ _ _ (by omega),e1]
   ·simp at n2;omega
   ·intro i a c ha hc'
    by_cases e:i=j
    ·subst e;rw[hx]at hc';injection hc' with hc';subst hc';rw[<-hLl,List.getElem?_concat_length]at ha;injection ha with ha;subst ha;exact⟨hX1,hX2⟩
    ·have hil:i<L.length:=by have:=(R6.1 ha).1;simp at this;omega
     rw[So hil]at ha;exact hLp i a c ha hc'
   ·simpa [ci] using hv2
  simp only[sz,simprocAttr,h2,h6,e0,hc0,w9,hz,hz'];refine fI (λhb=>?_) (λhb=>?_)
  ·have hm0:0<=(y.toNat:Int) % x.card:=Int.emod_nonneg _ (by omega);have hm1:(y.toNat:Int) % x.card<x.card:=Vt _ (by omega);simp only[sz,simprocAttr,h2,h3,h6,e0,e1,zL 8 1 _ _ _ _ _ hj8,VE,hcy,w8,r1,hlt,z1,hry,eP .i64 (show 0<=(y.toNat:Int) by omega) hcx];refine cw _ (key _ ((y.toNat:Int) % x.card) (by omega) hm1 (by simp[St,sx,h2,h3,h5,h6])) ?_;rintro e t df g ⟨rfl,h⟩;exact h
  ·simp only[sx];refine cw _ (key _ (-1) (by omega) (by omega) (by simp[St,sx,h2,h3,h5,h6])) ?_;rintro e t df g ⟨rfl,h⟩;exact h
 ·rintro t df g ⟨rfl,⟨h2,h3,-⟩,e0,e1,hnx,u,L,h5,hLl,hLp,hu⟩;simp only[sz,simprocAttr,mf,h5];exact⟨_,L,NV hLl hLp,hu.ints (by omega)⟩
def Q4(V:Ky->AV)(i:Nat)(c:Int):List AV:=[.int .i64 c,V (i+1,0),V (i+1,1)]
structure NdOk (K:Nat) (V:Ky->AV) (E:Ky->En) (i:Nat) (x:Node):Prop where
 ps:E (i+1,0)=.sl 1 (x.parents.map ci)
 rs:∃rws,E (i+1,1)=.sl 1 rws/\rws.length=x.rows.length/\∀(r:Nat) (y:List Int),x.rows[r]?=some y->rws[r]?=some [V (i+1,2+r)]
 rr:∀(r:Nat) (y:List Int),x.rows[r]?=some y->E (i+1,2+r)=.sl 1 (y.map ci)
 len:x.parents.length<=K/\x.rows.length<=K/\∀y∈x.rows,y.length<=K
def LS(L:List Node):Ky->Prop:=λk=>k=(0,0)\/∃i q x,k=(i+1,q)/\L[i]?=some x/\q<2+x.rows.length
structure BLs (K:Nat) (V:Ky->AV) (E:Ky->En) (L:List Node):Prop where
 ns:∃rows,E (0,0)=.sl 3 rows/\rows.length=L.length/\∀(i:Nat) (x:Node),L[i]?=some x->rows[i]?=some (Q4 V i x.card)
 nd:∀(i:Nat) (x:Node),L[i]?=some x->NdOk K V E i x
def BBn(g:G)(brow:List AV)(gr:Int)(b:AV):Prop:=g.h.get 0=VG 4 [brow]/\g.h.get 1=VG 2 [[.int .i64 gr,b]]/\g.h.get 2=VG 2 [[.int .i64 0,.nils]]
def LX(L:List Node)(x:Node):Ky->Prop:=λk=>LS L k\/k=(0,1)\/∃q,k=(L.length+1,q)/\q<2+x.rows.length
structure NB (K p:Nat) (L:List Node) (x:Node) (g:G) (brow:List AV) (gr:Int) (b W:AV) (V:Ky->AV) (E:Ky->En):Prop where
 hp:Hp g 3 (LX L x) V E
 bb:BBn g brow gr b
 vb:V (0,1)=.hptr p 0 0 0
 bx:E (0,1)=.bx (Q4 V L.length x.card)
 nd:NdOk K V E L.length x
 bl:BLs K V E L
 vw:V (0,0)=W
theorem OZ{α:Type} [Rp α]{g:G}{b:Nat}{u:AV}{rows:List (List AV)}(hu:Own g b u (Rp.sz α) rows)(hne:rows≠[]){n:Nat}(hn:n<=rows.length) :
  ∃y,yk (Rp.sz α) u none (some (.int .i64 (n:Int))) g=.val y/\(y.cells=[y]/\y.isTup=false)/\∀(P:Nat->Prop) (k:Nat) (l:List α) (h':H),(∀i,vid u=some i->h'.get i=g.h.get i)->SlR P k h' l u->SlR P k h' (l.take n) y:=by
 rcases hu with⟨rfl,rfl⟩|⟨id,ep,lo,h1,h2,rfl,h3⟩
 ·exact absurd rfl hne
 ·simp only[yk,nM,h3,SQ,Td,ay,SU,aa,SS,R5,if_true,bo,Un,Uu];simp only[dP];rw[show aB (n.ble rows.length) (some n) none=some n from by rw[aa,Sb (by simpa using hn)]];dsimp only;have hb:rows.length.beq 0=false:=by cases rows with|nil=>exact absurd rfl hne|cons a l=>rfl
  rw[hb];refine⟨_,rfl,⟨rfl,rfl⟩,λP k l h' hh h=>?_⟩;have h3':=hh id rfl;rw[h3]at h3';obtain⟨hl,hp,rr,q1,q2⟩:=h;rw[e_,h3',xF]at q1;injection q1 with q1;subst q1;refine⟨by rw[SL];omega,hp,rows.take n,?_,q2.take n⟩;rw[e_,h3',cM,Sb (by omega),Uz]
structure Oth (K:Nat) (L:List Node) (J:Nat) (V:Ky->AV) (E:Ky->En) (rows:List (List AV)):Prop where
 len:rows.length=L.length
 ns:∀(i:Nat) (y:Node),i≠J->L[i]?=some y->rows[i]?=some (Q4 V i y.card)
 nd:∀(i:Nat) (y:Node),i≠J->L[i]?=some y->NdOk K V E i y
structure BS (K J:Nat) (L:List Node) (x:Node) (bx:Pg) (gr Rw:Int) (t:T) (g:G) (V:Ky->AV) (E:Ky->En):Prop where
 st:St t [(2,.hptr 0 0 0 0),(3,.hptr 1 0 0 0),(4,.hptr 2 0 0 0),(10,jV 3 (V (0,0)) J 0),(11,.int .i64 Rw)]
 hp:Hp g 3 (LS L) V E
 f0:g.h.get 0=VG 4 [[u8v bx.1,u8v bx.2.1,u8v bx.2.2.1,.int .i64 bx.2.2.2]]
 f1:g.h.get 1=VG 2 [[.int .i64 gr,V (0,0)]]
 f2:g.h.get 2=VG 2 [[.int .i64 0,.nils]]
 bl:BLs K V E L
 hx:L[J]?=some x
 hR:(Rw = -1/\x.rows.length=0)\/∃r:Nat,Rw=(r:Int)/\r<x.rows.length
 hK:K<=1000000
 hl:L.length<=K
structure BT (K J:Nat) (L:List Node) (x:Node) (g:G) (V:Ky->AV) (E:Ky->En) (rows:List (List AV)):Prop where
 own:Own g 3 (V (0,0)) 3 rows
 e0:E (0,0)=.sl 3 rows
 ry:Ak (V (0,0))=true
 hlt:J<rows.length
 row:rows[J]?=some [.int .i64 x.card,V (J+1,0),V (J+1,1)]
 oth:Oth K L J V E rows
 nd:NdOk K V E J x
section
variable {d K J:Nat}{L:List Node}{x:Node}{bx:Pg}{gr Rw:Int}{t:T}{g:G}{V:Ky->AV}{E:Ky->En}{Q:QT}
end
end
end Hx
end
section
namespace Hx
open Go
noncomputable section
def cs3(x:Sp):List AV:=[.int .i64 x.1,.int .i64 x.2.1,.int .i64 x.2.2]
def cb(x:Bool):List AV:=[.bool x]
theorem PL{P:Nat->Prop}{k:Nat}{h:H}{x:Sp}{cs:List AV}:Rp.rp P k h x cs↔cs=cs3 x:=by
 obtain⟨a,b,c⟩:=x;rw[wx];constructor
 ·rintro⟨p,q,rfl,h1,h2⟩;obtain⟨q1,q2,rfl,h3,h4⟩:=wx.1 h2;rw[aI.1 h1,aI.1 h3,aI.1 h4];rfl
 ·rintro rfl;exact⟨[.int .i64 a],_,rfl,aI.2 rfl,wx.2 ⟨[.int .i64 b],[.int .i64 c],rfl,aI.2 rfl,aI.2 rfl⟩⟩
theorem SlR.sps{P:Nat->Prop}{k:Nat}{h:H}{l:List Sp}{v:AV}(r:SlR P k h l v):ak h 3 v=some (l.map cs3):=by obtain⟨rows,h1,h2⟩:=r.rows;rw[show (3:Nat)=Rp.sz Sp from rfl,h1,h2.eq_map (f:=cs3) λa b r=>PL.1 r]
theorem SlR.bools{P:Nat->Prop}{k:Nat}{h:H}{l:List Bool}{v:AV}(r:SlR P k h l v):ak h 1 v=some (l.map cb):=by obtain⟨rows,h1,h2⟩:=r.rows;rw[show (1:Nat)=Rp.sz Bool from rfl,h1,h2.eq_map (f:=cb) λa b r=>mz.1 r]
theorem Own.sps{g:G}{b:Nat}{v:AV}{l:List Sp}{k:Nat}(h:Own g b v 3 (l.map cs3))(hl:l.length<9223372036854775808):One l (λ_=>True) k g.h v :=
 ⟨v,rfl,Own.sl (α:=Sp) h hl (RS (λa=>PL.2 rfl) l) λ_ _=>trivial⟩
theorem Own.bools{g:G}{b:Nat}{v:AV}{l:List Bool}(h:Own g b v 1 (l.map cb))(hl:l.length<9223372036854775808):SlR (λi=>vid v=some i) 0 g.h l v :=
 Own.sl (α:=Bool) h hl (RS (λa=>mz.2 rfl) l) λ_ h=>h
theorem KT(b:Bool):yc false .bool (.bool false) (.bool b)=.val (.bool (!b)):=by cases b<;>rfl
theorem kX{g:G}{b:Nat}{v:AV}{sz n i off:Nat}{rows:List (List AV)}{row row':List AV}{x:AV}{K:AV->G->Prop}{D:ADf->Prop}(hv:Own g b v sz rows)(hr:rows[i]?=some row)
  (hl:x.cells.length=n) (ht:x.isTup=false) (hp:bw row off x.cells=some row')
  (k:∀g',Own g' b v sz (rows.set i row')->g'.nx=g.nx->(∀i,vid v≠some i->g'.h.get i=g.h.get i)->(∀j∈g'.lg,j∈g.lg\/vid v=some j)->K .undef g'):(kW n (jV sz v i off) x g).sat K g D:=by
 rcases hv with⟨rfl,rfl⟩|⟨id,ep,lo,h1,h2,rfl,h3⟩
 ·simp at hr
 ·simp only[jV,SU];rw[qV h3 hr rfl ht hl hp];refine k _ (.inr ⟨id,ep,lo,h1,by simpa using h2,by simp,by simp[aS]⟩) (by simp) (λi hne=>?_) (λj hj=>?_)
  ·rw[G.put_h,af _ _ _ (λe=>hne (by rw[e];rfl))]
  ·simp at hj;rcases hj with rfl|hj
   ·exact .inr rfl
   ·exact .inl hj
def S.cy(l:List Bool):Int:=if false∈l then (l.idxOf false:Int) else -1
theorem K2{l:List Bool}:(0:Int)<=S.cy l↔false∈l:=by
 unfold S.cy
 split
 ·rename_i h;simp[h]
 ·rename_i h;simp[h]
theorem IG{d k:Nat}{g:G}{P:Nat->Prop}{v:AV}{l:List Bool}(hd:0<d)(hv:SlR P k g.h l v):am C0 d N.bG [v,.bool false] g=.val (.int .i64 (S.cy l)):=by
 obtain⟨v',e,r1⟩:=fU hv d;have vl:∀g,dO .slice v' g=.val (.int .i64 (l.length:Int)):=λg=>(r1 .nil).len g;have ri:=λh=>(r1 h).bools;rw[nS];refine jR pP (xs:=[v',.bool false]) (by simp only[aJ,e];rfl) (by simp[eS]) hd ?_;simp only[sz,simprocAttr,eS,vl,hZ];refine aK (m:=l.length) hv.1 (λj t df g=>df=[]/\St t [(0,v'),(1,.bool false)]/\false ∉ l.take j) ⟨rfl,by simp[St,sx],by simp⟩ (by simp[sx]) (by simp[sx]) (by decide)
  (by rintro j t df g v s (rfl|rfl|rfl)<;>simp[sx,St]) ?_ ?_
 ·rintro j t df g hj ⟨rfl,⟨h0,h1,-⟩,hno⟩ h8 h7;obtain⟨y,hy,htk,hm⟩:=an hj;have z1:j<(l.map cb).length:=by simpa using hj
  have z2:(l.map cb)[j]?=some (cb y):=by rw[R_,hy];rfl
  cases y with
  | false =>
   have hl:l=l.take j++false::l.drop (j+1):=by
    have:l.drop j=false::l.drop (j+1):=by rw[Tf hj];congr 1;rw[R4 hj]at hy;injection hy
    rw[<-this,SW]
   have hf:S.cy l=(j:Int):=by
    unfold S.cy;rw[Sb hm];have:l.idxOf false=j:=by
     conv=>lhs;rw[hl]
     rw[List.idxOf_append,Sa hno,List.idxOf_cons_self,SL];omega
    rw[this]
   simp only[sz,simprocAttr,h0,h1,h8,ri,z1,z2,cb,KT,hf]
  | true =>
   simp only[sz,simprocAttr,h0,h1,h8,ri,z1,z2,cb,KT];simp[St,sx,h0,h1,h7,h8,htk,hno]
 ·rintro t df g ⟨rfl,-,hno⟩;rw[S1]at hno;simp only[sz,simprocAttr,h_,S.cy,hno]
theorem vd{d k:Nat}{g:G}{P:Nat->Prop}{v:AV}{l:List Bool}(hd:0<d)(hv:SlR P k g.h l v):am C0 d N.aS [v,.bool false] g=.val (.bool (decide (false∈l))):=by obtain⟨v',e,r1⟩:=fU hv d;have ki:=λg=>IG (d:=d+1) (g:=g) (SH d) (r1 g.h);have hd2:decide ((0:Int)<=S.cy l)=decide (false∈l):=decide_eq_decide.2 K2;rw[lO];refine nA mU (xs:=[v',.bool false]) (by simp only[aJ,e];rfl) (by simp[dy]) hd ?_;simp only[sz,simprocAttr,dy,ki,<-hd2]
theorem Jw{d:Nat}{g:G}{v:AV}{n:Net}(hd:0<d)(hm:Agg n NoP 0 g.h v):am C0 d N.bo [v] g=.val (.int .i64 (if S.aM n then 0 else 50)):=by
 obtain⟨b,rows,rfl,e1,hm',-⟩:=gG d hm;rw[y5];refine jR Cb (xs:=[.agg [.int .i64 n.grain,b]]) (by simp only[aJ,e1]) (by simp[sF]) hd ?_;simp only[sz,simprocAttr,sF];obtain⟨g0,hg0⟩:∃g0,g0=G.empty.new (VG 2 [[.int .i64 n.grain,b]]):=⟨_,rfl⟩;rw[<-hg0];have f0:g0.h.get 0=VG 2 [[.int .i64 n.grain,b]]:=by rw[hg0];simp[sx]
 have n0:g0.nx=1:=by rw[hg0];simp[sx]
 clear hg0;have ld:bK (VG 2 [[.int .i64 n.grain,b]]) 0 0 true 2 0=.val (.agg [.int .i64 n.grain,b]):=rfl;simp only[sz,simprocAttr,uc,f0,ld];refine kU (wm (SH d) (n:=n) (hm' _)) λz hz=>?_;rcases oE hz with⟨hn,cs,rfl,hcs⟩|⟨hn,b',cv,sv,oz,o,rfl,hb,hcv,hsv,hoz⟩
 ·obtain⟨a1,a2,a3,a4,a5,rfl⟩:∃a1 a2 a3 a4 a5,cs=[a1,a2,a3,a4,a5]:=by
   match cs,hcs with
   |[a1,a2,a3,a4,a5],_=>exact⟨a1,a2,a3,a4,a5,rfl⟩
  simp only[sz,simprocAttr,n0,hn]
 ·have st:∀g:G,cN (VG 5 [[.int .i64 0,.nils,.nils,.nils,.nils]]) g 1 0 0 5 0 (.agg [.int .i64 n.grain,b',cv,sv,oz])=.upd .undef (g.put 1 (VG 5 [[.int .i64 n.grain,b',cv,sv,oz]])):=λg=>by
   have h1:=hb.2;have h2:=hcv.2;have h3:=hsv.2;have h4:=hoz.2;unfold SlV at h1 h2 h3 h4
   split at h1<;>split at h2<;>split at h3<;>split at h4<;>first|rfl|exact h1.elim|exact h2.elim|exact h3.elim|exact h4.elim
  simp only[sz,simprocAttr,n0,st,hn]
theorem Ly{cs vs:List Int}{c v:Int}(h:cs.length=vs.length):S.ah (cs++[c]) (vs++[v])=S.ah cs vs*c+v:=by
 have h1:=uH (cs++[c]) (vs++[v]) 0 (by simp[h]);have h2:=uH cs vs 0 h;have h3:S.cE (cs++[c]) (vs++[v]) 0=S.cE cs vs 0*c+v:=by
  unfold S.cE;rw[List.zip_append h,UP]
  rfl
 rw[Int.zero_mul,Int.zero_add]at h1 h2;rw[<-h1,h3,h2]
theorem rG{cs:List Int}(hc:∀c∈cs,1<=c/\c<=4)(hl:cs.length<=8)(j:Nat):S.ae (cs.take j)<=65536:=by
 obtain⟨-,h2⟩:=cg (l:=cs.take j) λc h=>hc c (SM h);have h3:(4:Int) ^ (cs.take j).length<=4 ^ 8:=by
  have:(4:Nat) ^ (cs.take j).length<=4 ^ 8:=Vg (by decide) (by rw[SL];omega)
  exact_mod_cast this
 have h4:(4:Int) ^ 8=65536:=by decide
 omega
theorem Nu{d k2 i:Nat}{g:G}{P2:Nat->Prop}{v w:AV}{n:Net}{x:Node}{vals:List Int}(hd:0<d)(hv:SlR NoP 0 .nil n.nodes v)(hr:NR n)(hx:n.nodes[i]?=some x)(hw:SlR P2 k2 g.h vals w)(hvl:vals.length=n.nodes.length)(hC:InC (S.ac (S.aa n) x.parents) (S.ac vals x.parents)) :
  am C0 d N.aW [v,.int .i64 (i:Int),w] g=.val (.int .i64 (S.ah (S.ac (S.aa n) x.parents) (S.ac vals x.parents))):=by
 obtain⟨w',e2,hw'⟩:=fU hw d;have e1:=wy (h:=g.h) d (hv.tree (h':=g.h) (R5 0));obtain⟨rows,r1,r2,r3,r4⟩:=hv.all;have r1:∀h',ak h' 3 v=some rows:=r1;have hil:=(R6.1 hx).1;have hxm:=R9 hx;obtain⟨row,q1,q2⟩:=r3 i x hx;obtain⟨pa,ra,rfl,hpa,-⟩:=cK.1 q2;have hlt:i<rows.length:=by omega
 have hry:=r4 (by omega);have hl8:=hr.l2;have hpl:=gH (hr.places x hxm) (by omega);have hpin:=hr.pin hxm;have lpa:=hpa.len;have rpa:=λh=>(hpa.tree (h':=h) (R5 0)).ints;have rw':=λh=>(hw' h).ints;have hb:=bM hr.cs hpin;have hll:(S.ac (S.aa n) x.parents).length=x.parents.length:=by simp[S.ac]
 have hlv:(S.ac vals x.parents).length=x.parents.length:=by simp[S.ac]
 rw[y8];refine jR Ce (xs:=[v,.int .i64 (i:Int),w']) (by simp only[aJ,e1,e2,dS 0]) (by simp[sW]) hd ?_;simp only[sz,simprocAttr,sW,r1,hlt,q1,hry,lpa,sX];refine aK (m:=x.parents.length) (by omega) (λj t df g=>df=[]/\St t [(0,v),(2,w'),(14,pa),(7,.int .i64 (S.ah ((S.ac (S.aa n) x.parents).take j) ((S.ac vals x.parents).take j)))]) ⟨rfl,by simp[St,sx,S.ah]⟩ (by simp[sx]) (by simp[sx]) (by decide)
  (by rintro j t df g v s (rfl|rfl|rfl)<;>simp[sx,St]) ?_ ?_
 ·rintro j t df g hj ⟨rfl,h0,h2,h14,h7,-⟩ h16 h15;obtain⟨p,hp,-,hpm⟩:=an hj;obtain⟨p0,p1⟩:=hpin p hpm;rw[aX]at p1;obtain⟨pn,rfl⟩:=R8 p0;have hpn:pn<n.nodes.length:=by omega
  obtain⟨y,hy,-,hym⟩:=an (l:=n.nodes) (j:=pn) hpn;obtain⟨row2,s1,s2⟩:=r3 pn y hy;obtain⟨pa2,ra2,rfl,-,-⟩:=cK.1 s2;have hlt2:pn<rows.length:=by omega
  obtain⟨z,hz,-,-⟩:=an (l:=vals) (j:=pn) (by omega);have a1:j<(x.parents.map ci).length:=by simpa using hj
  have a2:(x.parents.map ci)[j]?=some (ci (pn:Int)):=by rw[R_,hp];rfl
  have b1:pn<(vals.map ci).length:=by rw[Ss];omega
  have b2:(vals.map ci)[pn]?=some (ci z):=by rw[R_,hz];rfl
  have c1:(S.ac (S.aa n) x.parents).take (j+1)=(S.ac (S.aa n) x.parents).take j++[y.card]:=by
   rw[TT (by omega)];congr 1;simp only[S.ac,UX];have:x.parents[j]=(pn:Int):=by rw[R4 hj]at hp;injection hp
   rw[this];simp[S.aa,hy]
  have c2:(S.ac vals x.parents).take (j+1)=(S.ac vals x.parents).take j++[z]:=by
   rw[TT (by omega)];congr 1;simp only[S.ac,UX];have:x.parents[j]=(pn:Int):=by rw[R4 hj]at hp;injection hp
   rw[this];simp[hz]
  have hsn:S.ah ((S.ac (S.aa n) x.parents).take (j+1)) ((S.ac vals x.parents).take (j+1))=S.ah ((S.ac (S.aa n) x.parents).take j) ((S.ac vals x.parents).take j)*y.card+z:=by rw[c1,c2];exact Ly (by simp[hll,hlv])
  have i1:=dB (λc h=>hb c (SM h)) (hC.take j);have i2:=dB (λc h=>hb c (SM h)) (hC.take (j+1));have p1:=rG hb (by rw[hll];omega) j;have p2:=rG hb (by rw[hll];omega) (j+1);rw[hsn]at i2 ⊢;have hyc:=hr.card y hym;obtain⟨A,hA⟩:∃A,A=S.ah ((S.ac (S.aa n) x.parents).take j) ((S.ac vals x.parents).take j):=⟨_,rfl⟩;rw[<-hA]at h7 i1 i2 ⊢;have hm0:0<=A*y.card:=UI i1.1 (by omega);have hm1:A*y.card<=65536*4:=Vy (by omega) (by omega) (by omega) (by omega);have w1:IntKind.wrap .i64 (A*y.card)=A*y.card:=ax (by omega) (by omega);have w2:IntKind.wrap .i64 (A*y.card+z)=A*y.card+z:=ax (by omega) (by omega);simp only[sz,simprocAttr,h0,h2,h14,h7,h16,rpa,a1,a2,ci,r1,hlt2,s1,hry,rw',b1,b2,w1,w2];simp[St,sx,h0,h2,h14,h15,h16]
 ·rintro t df g ⟨rfl,h0,h2,h14,h7,-⟩;rw[S5 (by omega),S5 (by omega)]at h7;simp only[sz,simprocAttr,sY,h7]
theorem MG{d:Nat}{g:G}{x y:Nat}(hd:0<d)(hx:x<=4611686018427387903)(hy0:0<y)(hy:y<=4611686018427387903) :
  am C0 d N.aC [.int .i64 (x:Int),.int .i64 (y:Int)] g=.val (.agg [.int .i64 (S.a_ x y).1,.int .i64 (S.a_ x y).2]):=by
 have key:∃r,am C0 d N.aC [.int .i64 (x:Int),.int .i64 (y:Int)] g=.val r/\Agg (S.a_ x y) NoP 0 .nil r:=by
  obtain⟨q0,q1,q2,q3⟩:=Ji (x:=x) hy0;rw[wU];refine bC zp (xs:=[.int .i64 (x:Int),.int .i64 (y:Int)]) (by simp only[aJ,dS 0]) (by simp[pj]) (dF _) (by decide) hd ?_;have hm:max (x:Int) (-(x:Int))=(x:Int):=by omega
  simp only[sz,simprocAttr,pj,rE,Oz (show x<9223372036854775808 by omega),hm];refine jZ (λb t df g=>df=[]/\∃a:Nat,St t [(0,.int .i64 (x:Int)),(1,.int .i64 (y:Int)),(4,.hptr 0 0 0 0),(5,.int .i64 (a:Int)),(6,.int .i64 (b:Int))]/\Nat.gcd a b=Nat.gcd x y/\a<9223372036854775808/\b<=y/\g.h.get 0=VG 2 [[.int .i64 0,.int .i64 0]]/\g.nx=1) y
   ⟨rfl,x,by simp[St,sx],rfl,by omega,R5 _,by simp[RW,show G.empty.nx=0 from rfl],by simp[show G.empty.nx=0 from rfl]⟩ ?_
  rintro b t df g ⟨rfl,a,⟨h0,h1,h4,h5,h6,-⟩,hgc,ha,hby,g0,gn⟩
  by_cases hb:b=0
  ·subst hb;rw[Nat.gcd_zero_right]at hgc;subst hgc;have fw:eH [.int .i64 0,.int .i64 0] [((0,1),.int .i64 ((x / Nat.gcd x y:Nat):Int)),((1,1),.int .i64 ((y / Nat.gcd x y:Nat):Int))]=some [.int .i64 ((x / Nat.gcd x y:Nat):Int),.int .i64 ((y / Nat.gcd x y:Nat):Int)]:=rfl;simp only[kK,pZ,sz,simprocAttr,sf,h0,h1,h4,h5,h6,yE (show x<9223372036854775808 by omega) q0,yE (show y<9223372036854775808 by omega) q0,fw,g0];refine⟨?_,⟨λ_=>True,nX.2 rfl⟩⟩;simp only[Si,Sl,Sf,Sd];exact aA [false,false,false,false,false,false,false,true] [] (by simp[All2,ac,ap]) (by decide) (by simp)
  ·have hb':¬(b:Int)=0:=by omega
   have hlt:=TD a (Nat.pos_of_ne_zero hb);simp only[kK,sz,simprocAttr,h5,h6,hb',CN (x:=a) (Nat.pos_of_ne_zero hb)];refine⟨a % b,hlt,b,?_,?_,by omega,by omega,g0,gn⟩
   ·simp[St,sx,h0,h1,h4,h5,h6]
   ·rw[<-hgc,Nat.gcd_comm a b,Nat.gcd_comm b (a % b),<-Nat.gcd_rec]
 obtain⟨r,hr,hc⟩:=key;rw[hr,nX.1 hc]
theorem nY{g:G}{b:Nat}{v x:AV}{sz bytes:Nat}{rows new:List (List AV)}{K:AV->G->Prop}{D:ADf->Prop}(hv:Own g b v sz rows)(hx:ak g.h sz x=some new)(hb:b<=g.nx)
  (hr:(rows.length+new.length)*bytes<=aY)
  (k:∀v' g',Own g' b v' sz (rows++new)->g.nx<=g'.nx->(∀i,i<g.nx->vid v≠some i->g'.h.get i=g.h.get i)->(vid v'=vid v\/∃i,vid v'=some i/\g.nx<=i)->(∀i∈g'.lg,i∈g.lg\/vid v=some i\/g.nx<=i/\i<g'.nx)->K v' g') :
  (dC sz bytes v x g).sat K g D:=by
 unfold dC;rw[hx];dsimp only;rcases hv with⟨rfl,rfl⟩|⟨id,ep,lo,h1,h2,rfl,h3⟩
 ·cases new with
  |nil=>exact k _ _ (.inl ⟨rfl,rfl⟩) (R5 _) (λ_ _ _=>rfl) (.inl rfl) (λi hi=>.inl hi)
  | cons r new =>
   simp only[bf,ay,aa,SS];rw[Sb (by simpa using hr)];refine k _ _ (.inr ⟨g.nx,0,true,hb,by simp,rfl,by simp[aS]⟩) (by simp) (λi hi _=>?_) (.inr ⟨g.nx,rfl,R5 _⟩) (λi hi=>by simp at hi;rcases hi with rfl|hi;exact .inr (.inr ⟨R5 _,by simp⟩);exact .inl hi);rw[G.new_h,af _ _ _ (by omega)]
 ·simp only[bf,G.get_eq,h3,ay,aa,show Nat.beq ep ep=true from SQ ep,show Nat.beq sz sz=true from SQ sz,Td,SS,R7,SU,Un,Uu];rw[Sb ⟨R5 _,hr⟩];cases new with
  | nil =>
   rw[Sb (by simp)];refine k _ _ (.inr ⟨id,ep,lo,h1,h2,by simp,by simpa using h3⟩) (R5 _) (λ_ _ _=>rfl) (.inl rfl) (λi hi=>.inl hi)
  | cons r new =>
   rw[Sa (by simp)];have ht:kg rows.length (jz 0 rows)=rows:=by rw[bh,bg];simp
   cases lo with
   | false =>
    rw[Sb (by simp)];refine k _ _ (.inr ⟨g.nx,0,true,by omega,by simp,by simp,by simp[aS,ht]⟩) (by simp) (λi hi _=>?_) (.inr ⟨g.nx,rfl,R5 _⟩) (λi hi=>by simp at hi;rcases hi with rfl|hi;exact .inr (.inr ⟨R5 _,by simp⟩);exact .inl hi);rw[G.new_h,af _ _ _ (by omega)]
   | true =>
    rw[Sa (by simp)];refine k _ _ (.inr ⟨id,ep+1,true,h1,by simpa using h2,by simp,by simp[aS,ht]⟩) (by simp) (λi hi hne=>?_) (.inl rfl) (λi hi=>by simp at hi;rcases hi with rfl|hi;exact .inr (.inl rfl);exact .inl hi);rw[G.put_h,af _ _ _ (λe=>hne (by rw[e];rfl))]
theorem EF{g:G}{b sz:Nat}{v:AV}{rows:List (List AV)}(h:Own g b v sz rows):∀i∈ae v,vid v=some i:=by
 rcases h with⟨rfl,-⟩|⟨id,ep,lo,h1,h2,rfl,h3⟩
 ·intro i hi;simp[EQ]at hi
 ·intro i hi;rw[qT,SK]at hi;rw[hi];rfl
structure Fx (A:Nat->Prop) (g g':G):Prop where
 nx:g.nx<=g'.nx
 fr:∀j,j<g.nx->¬A j->g'.h.get j=g.h.get j
 lg:∀j∈g'.lg,j∈g.lg\/A j\/g.nx<=j
theorem Fx.refl(A:Nat->Prop)(g:G):Fx A g g:=⟨R5 _,λ_ _ _=>rfl,λ_ h=>.inl h⟩
theorem Fx.trans{A:Nat->Prop}{g g1 g2:G}(h:Fx A g g1)(h':Fx A g1 g2):Fx A g g2 :=
 ⟨Sz h.nx h'.nx,λj hj hn=>by rw[h'.fr j (SB hj h.nx) hn,h.fr j hj hn],λj hj=>by
  rcases h'.lg j hj with a|a|a
  ·exact h.lg j a
  ·exact .inr (.inl a)
  ·exact .inr (.inr (Sz h.nx a))⟩
theorem Fx.new(A:Nat->Prop)(g:G)(o:AObj):Fx A g (g.new o) :=
 ⟨by simp,λj hj _=>by rw[G.new_h,af _ _ _ (by omega)],λj hj=>by simp at hj;rcases hj with rfl|hj;exact .inr (.inr (R5 _));exact .inl hj⟩
theorem Fx.put{A:Nat->Prop}{g g1:G}{i:Nat}(h:Fx A g g1)(hi:A i\/g.nx<=i)(o:AObj):Fx A g (g1.put i o) :=
 ⟨by simpa using h.nx,λj hj hn=>by
  have:¬j=i:=λe=>by subst e;rcases hi with hi|hi;exact hn hi;omega
  rw[G.put_h,af _ _ _ this,h.fr j hj hn],λj hj=>by
  simp at hj;rcases hj with rfl|hj
  ·exact .inr hi
  ·exact h.lg j hj⟩
theorem Fx.mono{A B:Nat->Prop}{g g':G}(h:Fx A g g')(hab:∀i,A i->i<g.nx->B i):Fx B g g':=⟨h.nx,λj hj hn=>h.fr j hj λa=>hn (hab j a hj),λj hj=>(h.lg j hj).imp id λa=>by
 by_cases hlt:j<g.nx
 ·rcases a with a|a
  ·exact .inl (hab j a hlt)
  ·omega
 ·exact .inr (by omega)⟩
theorem Ka{d:Nat}{g:G}{gr:Int}{m:Nat}(hd:0<d)(hg:0<=gr/\gr<=60)(hm:m<=8):am C0 d N.aX [.int .i64 gr,.int .i64 (m:Int)] g=.val (.int .i64 (S.ae (List.replicate m gr))):=by
 rw[wV];refine jR zq (xs:=[.int .i64 gr,.int .i64 (m:Int)]) (by simp only[aJ,dS 0]) (by simp[pk]) hd ?_;simp only[sz,simprocAttr,pk,p_];refine aK (m:=m) (by omega) (λj t df g=>df=[]/\St t [(0,.int .i64 gr),(5,.int .i64 (S.ae (List.replicate j gr)))]) ⟨rfl,by simp[St,sx,S.ae]⟩ (by simp[sx]) (by simp[sx]) (by decide)
  (by rintro j t df g v s (rfl|rfl|rfl)<;>simp[sx,St]) ?_ ?_
 ·rintro j t df g hj ⟨rfl,h0,h5,-⟩ h7 h6;have e1:S.ae (List.replicate (j+1) gr)=S.ae (List.replicate j gr)*gr:=by rw[List.replicate_succ',mF]
  have b1:=mu (l:=List.replicate (j+1) gr) λx hx=>by rw[List.eq_of_mem_replicate hx];exact hg
  have b2:=MF (k:=j+1) (by omega);rw[Vb,e1]at b1;have w1:IntKind.wrap .i64 (S.ae (List.replicate j gr)*gr)=S.ae (List.replicate j gr)*gr:=ax (by omega) (by omega);simp only[sz,simprocAttr,h0,h5,w1];simp[St,sx,h0,h6,h7,e1]
 ·rintro t df g ⟨rfl,h0,h5,-⟩;simp only[sz,simprocAttr,qa,h5]
end
end Hx
end
