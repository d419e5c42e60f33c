/- A part of the proof: an interpreter over abstract values, shown right against the model, and what the functions of the chapter compute on it. -/
import Derived.Test.YteaikmdilmfbeaaGreatHx13
set_option linter.unusedVariables false
set_option linter.unusedSimpArgs false
set_option linter.unnecessarySimpa false
section
namespace Hx
open Go
noncomputable section
section
variable {d:Nat}{n:Net}{b cv sv:AV}{q:Nat}{rows:List (List AV)}
structure Rd4 (n:Net) (b cv sv:AV) (q j:Nat) (t:T) (g:G):Prop where
 st:St t ((80,b)::LRd q)
 hp:RdH n b cv sv q (S.aa n) ((S.au n).take j++List.replicate (n.nodes.length - j) 0) g
 ok:∀x∈n.nodes.take j,S.aw x.parents n.nodes.length=true/\S.aX n.grain (S.aa n) x=true
theorem Mh (n:Net)(j m:Nat)(hm:m<18446744073709551616):∀y∈S.aK n j m,y<18446744073709551616:=λy hy=>by
 simp only[S.aK,List.mem_append,List.mem_cons] at hy;rcases hy with hy | rfl | hy
 ·obtain ⟨x,-,rfl⟩:=List.mem_map.1 (List.mem_of_mem_take hy);exact sZ _
 ·exact hm
 ·rw[(List.mem_replicate.1 hy).2];decide
theorem Own.natsV {g:G}{b:Nat}{v:AV}{l:List Nat}(h:Own g b v 1 (l.map cu))(hl:l.length<9223372036854775808)(hb:∀y∈l,y<18446744073709551616):SlR (λi=>vid v=some i) 0 g.h l v :=
 Own.sl (α:=Nat) h hl (by
  have:∀l:List Nat,(∀y∈l,y<18446744073709551616)->All2 (Rp.rp (α:=Nat) (λi=>vid v=some i) 0 g.h) l (l.map cu):=λl=>by
   induction l with
   | nil=>intro _;trivial
   | cons y l ih=>intro h;exact ⟨CI.2 ⟨rfl,h y (by simp)⟩,ih λz hz=>h z (by simp[hz])⟩
  exact this l hb) λ_ h=>h
theorem Own.nats' {g:G}{b:Nat}{v:AV}{l:List Nat}(h:Own g b v 1 (l.map cu))(hl:l.length<9223372036854775808)(hb:∀y∈l,y<18446744073709551616):SlR (λ_=>True) 0 g.h l v :=
 (h.natsV hl hb).wd λ_ _=>⟨trivial,rfl⟩
theorem Own.intsV {g:G}{b:Nat}{v:AV}{l:List Int}(h:Own g b v 1 (l.map ci))(hl:l.length<9223372036854775808):SlR (λi=>vid v=some i) 0 g.h l v :=
 Own.sl (α:=Int) h hl (All2.of_map (λa=>aV.2 rfl) _) λ_ h=>h
theorem Ml {n:Net}(h:NR n){x:Node}(hx:x∈n.nodes):S.aX n.grain (S.aa n) x=true:=by simp only[S.aX,S.aB,Bool.and_eq_true,decide_eq_true_eq,List.all_eq_true];exact ⟨h.rows x hx,λr hr=>⟨⟨(h.row x hx r hr).1,(h.row x hx r hr).2.1⟩,(h.row x hx r hr).2.2⟩⟩
theorem L8 {Q:QT}{t:T}{g:G}(hd:0<d)(hl:n.nodes.length<=8)(hg1:1<=n.grain/\n.grain<=60)(hcard:∀c∈S.aa n,1<=c/\c<=4)(hN:SlR NoP 0 .nil n.nodes b)(r1:∀h,ak h 3 b=some rows)(r2:rows.length=n.nodes.length)
  (r3:∀(i:Nat) (x:Node),n.nodes[i]?=some x->∃pa ra,rows[i]?=some [.int .i64 x.card,pa,ra]/\i<rows.length/\SlR NoP 0 .nil x.parents pa/\SlR NoP 0 .nil x.rows ra) (r4:0<n.nodes.length->mD b=true)
  (h0:Rd4 n b cv sv q 0 t g) (h82:tat t 82=.int .i64 0) (h81:tat t 81=.int .i64 (n.nodes.length:Int))
  (bad:∀t g,¬NR n->g.h.get 1=.cells 5 [[.int .i64 0,.nils,.nils,.nils,.nils]] 0 false false->tat t 2=.hptr 1 0 0 0->tat t 3=.int .i64 50->Q .ret t [] g)
  (fin:∀t g,Rd4 n b cv sv q n.nodes.length t g->Q (.exit 2) t [] g):wpL (wp C0 d none nN) Q t [] g:=by
 simp only[nN,tH];refine bk (m:=n.nodes.length) (by omega) (λj t df g=>df=[]/\Rd4 n b cv sv q j t g) ⟨rfl,h0⟩ h82 h81 (by decide)
  (by rintro j t df g v s (rfl | rfl | rfl) ⟨a1,⟨b1,b2,b3,b4,-⟩,c1,c2⟩<;>exact ⟨a1,by simp[St,LRd,sx,b1,b2,b3,b4],c1,c2⟩) ?_ ?_
 ·rintro j t df g hj ⟨rfl,⟨⟨h80,h1,h2,h4,-⟩,hp,hok⟩⟩ h82 h81;obtain ⟨x,hx,htk,hxm⟩:=af hj;obtain ⟨pa,ra,q1,hlt,hpa,hra⟩:=r3 j x hx;have hry:=r4 (by omega);have q2:=hp.q2;have qn:=hp.qn;have hpsl:(S.au n).length=n.nodes.length:=by simp[S.au]
  have hpj:(S.au n)[j]?=some (S.aq x.parents):=by simp[S.au,hx]
  obtain ⟨g2,hg2⟩:∃g2,g2=(g.new (.cells 3 [[.int .i64 0,.nils,.nils]] 0 false false)).put g.nx (.cells 3 [[.int .i64 x.card,pa,ra]] 0 false false):=⟨_,rfl⟩;have f2:Fr g g2:=by rw[hg2];exact MZ (by simp) λi hi=>by simp[H.get_put,show ¬i=g.nx by omega]
  have n2:g.nx<g2.nx:=by rw[hg2];simp
  have hp3:=hp.fr f2;have f9:g2.h.get g.nx=.cells 3 [[.int .i64 x.card,pa,ra]] 0 false false:=by rw[hg2];simp[H.get_put]
  have eY:(S.au n).take j++List.replicate (n.nodes.length - j) 0=S.aK n j (S.aq (x.parents.take 0)):=by rw[S.aK,show n.nodes.length - j=(n.nodes.length - (j+1))+1 by omega,List.replicate_succ];rfl
  have eY2:S.aK n j (S.aq x.parents)=(S.au n).take (j+1)++List.replicate (n.nodes.length - (j+1)) 0:=by rw[S.aK,List.take_add_one,hpj,List.append_assoc];rfl
  rw[eY] at hp3;refine eF (P:=λt' df g'=>df=[]/\g'=g2/\St t' ((80,b)::(81,.int .i64 (n.nodes.length:Int))::(82,.int .i64 (j:Int))::(8,.int .i64 (j:Int))::(9,.hptr g.nx 0 0 0)::LRd q)) ?_ ?_
  ·simp only[sz,simprocAttr,h80,h82,r1,hlt,q1];rw[hg2];simp[St,LRd,sx,h1,h2,h4,h80,h81,h82]
  clear h1 h2 h4 h80 h81 h82;rintro t df g3 ⟨rfl,rfl,⟨h80,h81,h82,h8,h9,h1,h2,h4,-⟩⟩;have pl:=λg=>hpa.len g;simp only[sz,simprocAttr,h9,f9,pl];refine LQ (j:=j) (p9:=g.nx) (x:=x) (pa:=pa) (b:=b) (cv:=cv) (sv:=sv) (q:=q) hl hN hx hpa ⟨by simp[St,LRd,sx,h_,h1,h2,h4,h8,h9,h80,h81,h82],hp3,⟨λi p hi=>by omega,λi p r hi=>by omega⟩⟩ (by simp[sx]) (by simp[sx]) f9 (λe=>by have:=(hp.hs.lt e).2;omega) ?_ ?_
  ·intro t g hn a1 a2 a3;simp only[sx,sy];exact bad t g hn a1 a2 a3
  ·rintro t g4 ⟨⟨h80,h81,h82,h88,h8,h9,h10,h1,h2,h4,-⟩,hp4,hpl⟩ f94 n4;rw[List.take_length] at hp4;have hplc:=Gi hpl;have hpin:∀p∈x.parents,0<=p/\p<((S.aa n).length:Int):=λp hp=>by rw[aB];exact bD hplc p hp
   have hpll:=dl hplc (by omega);have hyl:(S.aK n j (S.aq x.parents)).length<=8:=by simp[S.aK,hpsl];omega
   have hm:Agg ((n,S.aa n,S.aK n j (S.aq x.parents),[]):NwM) (λ_=>True) 0 g4.h (.agg [.int .i64 n.grain,b,cv,sv,.nils]) :=
    ⟨_,rfl,Bs.2 ⟨b,cv,sv,.nils,rfl,hN.wide (Nat.le_refl 0),Own.sl (α:=Int) hp4.hc (by rw[aB];omega) (All2.of_map (λa=>aV.2 rfl) _) λ_ _=>trivial,hp4.hs.nats' (by omega) (Mh n j _ (sZ _)),⟨by show 0<9223372036854775808;decide,rfl⟩⟩⟩
   have hxa:Agg x NoP 0 g4.h (.agg [.int .i64 x.card,pa,ra]):=⟨_,rfl,bO.2 ⟨pa,ra,rfl,hpa.tree (Nat.le_refl 0),hra.tree (Nat.le_refl 0)⟩⟩;have hfl:=If (d:=d) (g:=g4) hd hm hxa ⟨rfl,rfl⟩ hg1 hcard hpin (by omega);have hfl:am C0 d N.aJ [.agg [.int .i64 n.grain,b,cv,sv,.nils],.agg [.int .i64 x.card,pa,ra]] g4=.val (.bool (S.aX n.grain (S.aa n) x)):=hfl;cases hf:S.aX n.grain (S.aa n) x with
   | false =>
    rw[hf] at hfl;simp only[sz,simprocAttr,nT,h2,h4,h9,hp4.hq,hp4.h1,f94,hfl];refine bad _ _ (λhr=>?_) (by simp[H.get_put]) (by simp[sx,h2]) (by simp[sx]);have:=Ml hr hxm;rw[hf] at this;cases this
   | true =>
    rw[hf] at hfl;simp only[sz,simprocAttr,nT,h4,h9,hp4.hq,f94,hfl];rw[eY2] at hp4;refine ⟨⟨by simp[St,LRd,sx,h1,h2,h4,h80],hp4,λy hy=>?_⟩,by simp[h82],by simp[h81]⟩;rw[htk] at hy;rcases List.mem_append.1 hy with h | h
    ·exact hok y h
    ·rw[List.mem_singleton.1 h];exact ⟨hplc,hf⟩
 ·rintro t df g ⟨rfl,h⟩;exact fin t g h
end
theorem JO (n:Net):Snb (EZ n) 2:=nq λo=>gg (m:=2) (bZ _) (aJ _) (by decide) (by decide)
theorem LO {d:Nat}{g:G}{v:AV}{n:Net}(hd:0<d)(hm:Agg n NoP 0 g.h v):∃r,am C0 d N.bQ [v] g=.val r/\EZ n NoP 0 .nil r:=by
 obtain ⟨b,rows,rfl,e,hm',hN,r1,r2,r3,r4⟩:=cX d hm;rw[AW];refine aO C_ (xs:=[.agg [.int .i64 n.grain,b]]) (by simp only[aE,e]) (by simp[lA]) (JO n) (by decide) hd ?_;have nl:=λg=>hN.len g;simp only[sz,simprocAttr,lA];obtain ⟨g0,hg0⟩:∃g0,g0=(G.empty.new (.cells 2 [[.int .i64 n.grain,b]] 0 false false)).new (.cells 5 [[.int .i64 0,.nils,.nils,.nils,.nils]] 0 false false):=⟨_,rfl⟩;rw[<-hg0];have f0:g0.h.get 0=.cells 2 [[.int .i64 n.grain,b]] 0 false false:=by rw[hg0];simp[sx,H.get_put]
 have f1:g0.h.get 1=.cells 5 [[.int .i64 0,.nils,.nils,.nils,.nils]] 0 false false:=by rw[hg0];simp[sx]
 have f2:g0.nx=2:=by rw[hg0];simp[sx]
 clear hg0;obtain ⟨Qf,hQf⟩:∃Qf,Qf=fnQ C0 (d+1) [SR.cell true 5 2,SR.tm 3] (λv g'=>∃P,EZ n P 0 g'.h v):=⟨_,rfl⟩;have bad:∀(t:T) (g:G),¬NR n->g.h.get 1=.cells 5 [[.int .i64 0,.nils,.nils,.nils,.nils]] 0 false false->tat t 2=.hptr 1 0 0 0->tat t 3=.int .i64 50->Qf .ret t [] g:=λt g hn a1 a2 a3=>by rw[hQf];exact NE hn a1 a2 a3
 rw[<-hQf];simp only[vA]
 by_cases c1:n.grain<1
 ·rw[dG];simp only[sz,simprocAttr,f0,f1,c1];exact bad _ _ (λh=>by have:=h.g1;omega) (by simp[H.get_put]) (by simp[sx]) (by simp[sx])
 by_cases c2:60<n.grain
 ·rw[dG];simp only[sz,simprocAttr,f0,f1,c1,c2];exact bad _ _ (λh=>by have:=h.g2;omega) (by simp[H.get_put]) (by simp[sx]) (by simp[sx])
 by_cases c3:(n.nodes.length:Int)<1
 ·rw[dG];simp only[sz,simprocAttr,f0,f1,c1,c2,c3,nl];exact bad _ _ (λh=>by have:=h.l1;omega) (by simp[H.get_put]) (by simp[sx]) (by simp[sx])
 by_cases c4:8<(n.nodes.length:Int)
 ·rw[dG];simp only[sz,simprocAttr,f0,f1,c1,c2,c3,c4,nl];exact bad _ _ (λh=>by have:=h.l2;omega) (by simp[H.get_put]) (by simp[sx]) (by simp[sx])
 refine jJ (P:=λt' df g'=>df=[]/\g'=g0/\St t' [(1,.hptr 0 0 0 0),(2,.hptr 1 0 0 0)]) ?_ ?_
 ·simp only[sz,simprocAttr,f0,c1,c2,c3,c4,nl];simp[St,sx]
 rintro t df g1 ⟨rfl,rfl,h1,h2,-⟩;have hl8:n.nodes.length<=8:=by omega
 refine jJ (P:=λt' df g'=>df=[]/\∃cv sv q,St t' (LRd q)/\RdH n b cv sv q (List.replicate n.nodes.length 0) (List.replicate n.nodes.length 0) g') ?_ ?_
 ·simp only[sz,simprocAttr,sf,h1,f0,nl];refine oS (b:=2) (n:=n.nodes.length) (by unfold aM;omega) (by unfold aM;omega) (by first | (simp;done) | (simp;omega)) λcv g2 hcv n2 fr2 v2 lg2=>?_;simp only[sy] at n2 fr2 v2 lg2;have k0:g2.h.get 0=.cells 2 [[.int .i64 n.grain,b]] 0 false false:=by rw[fr2 0 (by omega),f0]
  simp only[sz,simprocAttr,sf,h1,k0,nl,lg2];refine oS (b:=2) (n:=n.nodes.length) (by unfold aM;omega) (by unfold aM;omega) (by first | (simp;done) | (simp;omega)) λsv g3 hsv n3 fr3 v3 lg3=>?_;simp only[sy] at n3 fr3 v3 lg3;simp only[sz,simprocAttr,sf,lg3,hcv.cell.1,hcv.cell.2,hsv.cell.1,hsv.cell.2];refine ⟨?_,cv,sv,g3.nx+1+1,?_,?_⟩
  ·simp only[List.reverse_cons,List.reverse_nil,List.nil_append,List.cons_append,G.new_lg,G.put_lg,setLog_lg];refine aK [false,false,false,false,true,false,false,false,true,false,true,true] [(0,4),(4,5),(4,6),(4,7),(0,8),(1,8),(2,8),(3,8),(4,8),(0,10),(1,10),(2,10),(3,10),(4,10),(5,10),(6,10),(7,10),(8,10),(9,10)] (by simp[All2,ap,aC]) (by decide) ?_;rintro p hp x y hx hy;simp only[List.mem_cons,List.not_mem_nil,or_false] at hp;rcases hp with rfl | rfl | rfl | rfl | rfl | rfl | rfl | rfl | rfl | rfl | rfl | rfl | rfl | rfl | rfl | rfl | rfl | rfl | rfl<;>(simp at hx hy;subst hx;subst hy;refine dD rfl rfl rfl rfl ?_ ?_ ?_<;>simp[ap,aC,an]<;>omega)
  ·simp[St,LRd,sx,h1,h2]
  ·have fa:∀i,i<g2.nx->g3.h.get i=g2.h.get i:=λi hi=>by have:=fr3 i (by omega);simpa using this
   have fb:∀i,i<g1.nx->g2.h.get i=g1.h.get i:=λi hi=>by have:=fr2 i (by omega);simpa using this
   have hcv':Own g2 2 cv 1 ((List.replicate n.nodes.length (0:Int)).map ci):=by simpa [ci] using hcv
   have hsv':Own g3 2 sv 1 ((List.replicate n.nodes.length (0:Nat)).map cu):=by simpa [cu] using hsv
   have hne:∀i,i<g3.nx->¬i=g3.nx+1+1:=λi hi=>by omega
   refine ⟨?_,?_,?_,hcv'.fr (by simp;omega) λi hi=>?_,hsv'.fr (by simp;omega) λi hi=>?_,by omega,by first | (simp;done) | (simp;omega),λe=>?_,λe=>?_,λi hi hi2=>?_⟩
   ·simp[H.get_put];rw[fa 0 (by omega),k0]
   ·simp[H.get_put];rw[fa 1 (by omega),fb 1 (by omega),f1]
   ·simp[H.get_put]
   ·have:=nz v2 hi;simp[H.get_put,hne i (by omega)];rw[fa i (by omega)]
   ·have:=nz v3 hi;simp[H.get_put,hne i (by omega)]
   ·have:=nz v2 e;omega
   ·have:=nz v3 e;omega
   ·have:=nz v2 hi;have:=nz v3 hi2;omega
 rintro t df g ⟨rfl,cv,sv,q,⟨h1,h2,h4,-⟩,hp⟩;clear f0 f1 f2;have nlen:=nl g;simp only[sz,simprocAttr,h4,hp.hq,nl];refine MG (b:=b) (cv:=cv) (sv:=sv) (q:=q) hl8 hN r1 r2 r3 r4 ⟨by simp[St,LRd,sx,S.af,h1,h2,h4],by simpa using hp,by simp⟩ (by simp[sx]) (by simp[sx]) ?_ ?_
 ·intro t g hn a1 a2 a3;simp only[sx];exact bad t g hn a1 a2 a3
 clear h1 h2 h4 hp nlen;rintro t g ⟨⟨h48,h5,h1,h2,h4,-⟩,hp,hok⟩;rw[List.take_of_length_le (by rw[aB];exact Nat.le_refl _)] at h5 hp;rw[Nat.sub_self,List.replicate_zero,List.append_nil] at hp;rw[List.take_length] at hok;have hcb:∀c∈S.aa n,1<=c/\c<=4:=λc hc=>by obtain ⟨y,hy,rfl⟩:=List.mem_map.1 hc;exact hok y hy
 simp only[sz,simprocAttr,tJ]
 by_cases d1:1024<S.af (S.aa n)
 ·simp only[sz,simprocAttr,h2,h5,hp.h1,d1];exact bad _ _ (λh=>by have:=h.worlds;omega) (by simp[H.get_put]) (by simp[sx,h2]) (by simp[sx])
 simp only[sz,simprocAttr,h4,h5,hp.hq,nl,d1];refine L8 (b:=b) (cv:=cv) (sv:=sv) (q:=q) (Nat.succ_pos d) hl8 (by omega) hcb hN r1 r2 r3 r4 ⟨by simp[St,LRd,sx,h1,h2,h4],by simpa using hp,by simp⟩ (by simp[sx]) (by simp[sx]) ?_ ?_
 ·intro t g hn a1 a2 a3;simp only[sx];exact bad t g hn a1 a2 a3
 clear h1 h2 h4 h48 h5 hp;rintro t g ⟨⟨h80,h1,h2,h4,-⟩,hp,hok2⟩;rw[List.take_of_length_le (by simp[S.au])] at hp;rw[Nat.sub_self,List.replicate_zero,List.append_nil] at hp;rw[List.take_length] at hok2;have hpsl:(S.au n).length=n.nodes.length:=by simp[S.au]
 have hplt:∀y∈S.au n,y<18446744073709551616:=λy hy=>by obtain ⟨x,-,rfl⟩:=List.mem_map.1 hy;exact sZ _
 have hplt2:∀y∈S.au n,y<2 ^ (S.au n).length:=λy hy=>by obtain ⟨x,hx,rfl⟩:=List.mem_map.1 hy;rw[hpsl];exact K7 (by omega) λz hz=>bD (hok2 x hx).1 z hz
 obtain ⟨z,ez,o,-,oz,az,rfl,hoz,haz⟩:=Im (d:=d+1) (g:=g) (Nat.succ_pos d) (hp.hs.nats' (by omega) hplt) (by omega) hplt2;have haz:=gq.1 haz;injection haz with haz;subst haz;obtain ⟨_,e1,hoz⟩:=hoz;injection e1 with e1;subst e1;cases hac:S.aR (S.au n) with
 | false =>
  rw[hac] at ez;simp only[sz,simprocAttr,nY,h2,h4,hp.hq,hp.h1,ez];exact bad _ _ (λh=>by have:=h.acyc;rw[hac] at this;cases this) (by simp[H.get_put]) (by simp[sx,h2]) (by simp[sx])
 | true =>
  rw[hac] at ez;have hnr:S.aE n=true:=jl.2 ⟨by omega,by omega,by omega,by omega,hok,λx hx=>(hok2 x hx).1,by omega,hac,λx hx=>by
   have:=(hok2 x hx).2;simp only[S.aX,Bool.and_eq_true,decide_eq_true_eq] at this;exact this.1,λx hx r hr=>by
   have:=(hok2 x hx).2;simp only[S.aX,S.aB,Bool.and_eq_true,decide_eq_true_eq,List.all_eq_true] at this;have:=this.2 r hr;exact ⟨this.1.1,this.1.2,this.2⟩⟩
  have q2:=hp.q2;have hq1:¬(1=q):=by omega
  have hq0:¬(q=1):=by omega
  have oc:=hoz.cell;rw[hQf];simp only[sz,simprocAttr,nY,h2,h4,hp.hq,hp.h1,ez,hq1,oc.1,oc.2];have fh:∀i,¬i=1->¬i=q->((g.h.put q (.cells 5 [[.int .i64 n.grain,b,cv,sv,oz]] 0 false false)).put 1 (.cells 5 [[.int .i64 n.grain,b,cv,sv,oz]] 0 false false)).get i=g.h.get i:=λi hi hi2=>by simp[H.get_put,hi,hi2]
  refine ⟨λ_=>True,o,trivial,_,_,rfl,⟨_,rfl,?_⟩,?_⟩
  ·rw[S.bO,if_pos hnr];refine Bs.2 ⟨b,cv,sv,oz,rfl,hN.wide (Nat.le_refl 0),(hp.hc.intsV (by rw[aB];omega)).wd λi hi=>⟨trivial,fh i (by have:=(hp.hc.lt hi).1;omega) λe=>hp.d1 (by rw[hi,e])⟩,(hp.hs.natsV (by omega) hplt).wd λi hi=>⟨trivial,fh i (by have:=(hp.hs.lt hi).1;omega) λe=>hp.d2 (by rw[hi,e])⟩,hoz.wide (Nat.le_refl 0)⟩
  ·rw[if_pos hnr];exact aV.2 rfl
end
end Hx
end
section
namespace Hx
open Go
noncomputable section
theorem F3 {n:Net}{o:List Int}(h:S.aE n=true):S.bO n o=(n,S.aa n,S.au n,o):=by rw[S.bO,if_pos h]
theorem Ey {n:Net}{P:Nat->Prop}{k:Nat}{h:H}{v:AV}(hv:EZ n P k h v) :
  (S.aE n=false/\∃cs,v=.tup [.agg cs,.int .i64 50]/\cs.length=5) \/
  (S.aE n=true/\∃b cv sv oz o,v=.tup [.agg [.int .i64 n.grain,b,cv,sv,oz],.int .i64 0]/\SlR P k h n.nodes b/\SlR P k h (S.aa n) cv/\SlR P k h (S.au n) sv/\SlR P k h (o:List Int) oz):=by
 obtain ⟨o,-,a,c,rfl,⟨cs,rfl,hc⟩,hi⟩:=hv;have hi:=aV.1 hi;injection hi with hi;subst hi;cases hn:S.aE n with
 | false =>
  refine .inl ⟨rfl,cs,rfl,?_⟩;obtain ⟨a,b,c,e,rfl,-⟩:=Bs.1 hc
  rfl
 | true =>
  rw[F3 hn] at hc;obtain ⟨a,b,c,e,rfl,h1,h2,h3,h4⟩:=Bs.1 hc;exact .inr ⟨rfl,a,b,c,e,o,rfl,h1,h2,h3,h4⟩
theorem I3 {d k2:Nat}{g:G}{P2:Nat->Prop}{v w:AV}{n:Net}{e:List Int}(hd:0<d)(hm:Agg n NoP 0 g.h v)(he:SlR P2 k2 g.h e w):am C0 d N.bT [v,w] g=.val (.int .i64 (S.aN n e)):=by
 obtain ⟨w',e2,hw'⟩:=aN he d;obtain ⟨b,rows,rfl,e1,hm',hN,r1,r2,r3,r4⟩:=cX d hm;have n2:=λg=>(hw' .nil).len g;have rb:=λh=>(hw' h).ints;rw[pT];refine dT rR (xs:=[.agg [.int .i64 n.grain,b],w']) (by simp only[aE,e1,e2]) (by simp[fM]) hd ?_;have hle:=he.1;simp only[sz,simprocAttr,fM,jh,iO];obtain ⟨z,ez,hz⟩:=LO (d:=d+1) (g:=G.empty.new (.cells 2 [[.int .i64 n.grain,b]] 0 false false)) (Nat.succ_pos d) (n:=n) (v:=.agg [.int .i64 n.grain,b]) (hm' _);rcases Ey hz with ⟨hn,cs,rfl,hcs⟩ | ⟨hn,b',cv,sv,oz,o,rfl,hb,hcv,-,-⟩
 ·have hs:S.aN n e=50:=by rw[S.aN,hn];rfl
  obtain ⟨a1,a2,a3,a4,a5,rfl⟩:∃a1 a2 a3 a4 a5,cs=[a1,a2,a3,a4,a5]:=by
   match cs,hcs with
   | [a1,a2,a3,a4,a5],_=>exact ⟨a1,a2,a3,a4,a5,rfl⟩
  simp only[sz,simprocAttr,ez,hs,show ¬((50:Int)=0) from by decide]
 ·have nb:=λg=>(hb.tree (h':=g) (Nat.le_refl 0)).len;have hbl:=hb.1;have rc:=λh=>(hcv.tree (h':=h) (Nat.le_refl 0)).ints;have hcl:=aB n
  by_cases hl:e.length=n.nodes.length
  ·have hl':(e.length:Int)=(n.nodes.length:Int):=by rw[hl]
   simp only[sz,simprocAttr,ez,n2,hb.len,hl];refine bk (m:=n.nodes.length) (by omega) (λj t df g=>df=[]/\St t [(24,w'),(5,.hptr 1 0 0 0),(4,.int .i64 0)]/\g.h.get 1=.cells 5 [[.int .i64 n.grain,b',cv,sv,oz]] 0 false false/\((List.range j).all λv=>decide (-1<=e[v]?.getD 0)&&decide (e[v]?.getD 0<(S.aa n)[v]?.getD 0))=true)
    ⟨rfl,by simp[St,sx],by simp[sx],by simp⟩ (by simp[sx]) (by simp[sx]) (by decide) (by rintro j t df g v s (rfl | rfl | rfl)<;>simp[St,sx]) ?_ ?_
   ·rintro j t df g hj ⟨rfl,⟨h24,h5,h4,-⟩,hg,ha⟩ h26 h25;obtain ⟨y,hy,-,-⟩:=af (l:=e) (j:=j) (by omega);obtain ⟨c,hc,-,-⟩:=af (l:=S.aa n) (j:=j) (by omega);have u1:j<(e.map ci).length:=by simp;omega
    have u2:(e.map ci)[j]?=some (ci y):=by rw[List.getElem?_map,hy];rfl
    have u3:j<((S.aa n).map ci).length:=by simp;omega
    have u4:((S.aa n).map ci)[j]?=some (ci c):=by rw[List.getElem?_map,hc];rfl
    have hst:((List.range (j+1)).all λv=>decide (-1<=e[v]?.getD 0)&&decide (e[v]?.getD 0<(S.aa n)[v]?.getD 0))=(decide (-1<=y)&&decide (y<c)):=by rw[List.range_succ,List.all_append,ha];simp[hy,hc]
    have bad:(decide (-1<=y)&&decide (y<c))=false->S.aN n e=2:=λh=>by
     have h1:S.aD n e=false:=by
      rw[S.aD];have:((List.range e.length).all λv=>decide (-1<=e[v]?.getD 0)&&decide (e[v]?.getD 0<(S.aa n)[v]?.getD 0))=false:=by rw[<-Bool.not_eq_true,List.all_eq_true];intro h2;have:=h2 j (List.mem_range.2 (by omega));rw[hy,hc,Option.getD_some,Option.getD_some,h] at this;cases this
      rw[this,Bool.and_false]
     rw[S.aN,hn,h1];rfl
    by_cases c1:y < -1
    ·have:=bad (by simp;omega);simp only[sz,simprocAttr,h24,h26,rb,u1,u2,ci,c1,this]
    ·by_cases c2:c<=y
     ·have:=bad (by simp;omega);simp only[sz,simprocAttr,h24,h5,h26,hg,rb,rc,u1,u2,u3,u4,ci,c1,c2,this]
     ·have h3:((List.range (j+1)).all λv=>decide (-1<=e[v]?.getD 0)&&decide (e[v]?.getD 0<(S.aa n)[v]?.getD 0))=true:=by rw[hst];simp;omega
      simp only[sz,simprocAttr,h24,h5,h4,h26,h25,hg,rb,rc,u1,u2,u3,u4,ci,c1,c2,St,h3]
   ·rintro t df g ⟨rfl,⟨h24,h5,h4,-⟩,hg,ha⟩;have h1:S.aD n e=true:=by rw[S.aD,hl,decide_eq_true rfl,ha];rfl
    have hs:S.aN n e=0:=by rw[S.aN,hn,h1];rfl
    simp only[sz,simprocAttr,ic,hs]
  ·have hl':¬((e.length:Int)=(n.nodes.length:Int)):=by omega
   have h1:S.aD n e=false:=by rw[S.aD,decide_eq_false hl];rfl
   have hs:S.aN n e=2:=by rw[S.aN,hn,h1];rfl
   simp only[sz,simprocAttr,ez,n2,hb.len,hl',hs]
structure FacH (bx nd:List AV) (w u:AV) (vars cards:List Int) (beh:Int) (q:Nat) (g:G):Prop where
 h0:g.h.get 0=.cells 5 [bx] 0 false false
 h1:g.h.get 1=.cells 3 [[.nils,.nils,.nils]] 0 false false
 h2:g.h.get 2=.cells 3 [nd] 0 false false
 h8:g.h.get q=.cells 3 [[w,u,.nils]] 0 false false
 h9:g.h.get (q+1)=.cells 1 [[.int .i64 beh]] 0 false false
 hw:Own g 3 w 1 (vars.map ci)
 hu:Own g (q+2) u 1 (cards.map ci)
 wq:∀i,vid w=some i->i<q
 q3:3<=q
 qn:q+2<=g.nx
def On (q:Nat):List (Nat×AV):=[(2,.hptr 0 0 0 0),(4,.hptr 1 0 0 0),(5,.hptr 2 0 0 0),(8,.hptr q 0 0 0),(9,.hptr (q+1) 0 0 0)]
structure FacJ (gr:Int) (b cv sv oz:AV) (nd:List AV) (w:AV) (cs vars:List Int) (pl q j:Nat) (t:T) (g:G):Prop where
 st:St t ((38,w)::(6,.int .i64 (pl:Int))::On q)
 hp:∃u,FacH [.int .i64 gr,b,cv,sv,oz] nd w u vars (S.ae cs (vars.take j)) (S.af (S.ae cs ((vars.take j).drop (pl+1)))) q g
def GH (h:H)(n:Nat):G:=⟨h,n,[]⟩
@[simp] theorem GH_h (h:H) (n:Nat):(GH h n).h=h:=rfl
@[simp] theorem GH_nx (h:H) (n:Nat):(GH h n).nx=n:=rfl
structure FacG (g0:G) (iw:Nat) (W:AV) (rws:List (List Int)) (B C t:Nat) (h:H):Prop where
 fr:∀i,i<g0.nx->i≠iw->h.get i=g0.h.get i
 ow:Own (GH h (iw+1)) 3 W 1 ((S.cp rws B C t).map ci)
structure FacI (g0 g2:G) (iw:Nat) (W z:AV) (r:List Int) (rws:List (List Int)) (B C q j i:Nat) (t:T) (g:G):Prop where
 st:St t ((78,z)::(12,.int .i64 (j:Int))::On q)
 hp:FacG g0 iw W rws B C (j*C+i) g.h
 nx:g2.nx<=g.nx
 fr:∀i,g0.nx<=i->i<g2.nx->g.h.get i=g2.h.get i
def S.b_ (n:Net)(i:Nat)(x:Node)(p:Nat):Factor:=⟨S.bX x.parents p (i:Int),S.ae (S.aa n) (S.bX x.parents p (i:Int)),S.co x.rows (S.af (S.ae (S.aa n) (x.parents.drop p))).toNat x.card.toNat⟩
def S.bW (n:Net)(l:List Factor):Prop:=∀(i:Nat) (x:Node),i<l.length->n.nodes[i]?=some x->∃p,p<=x.parents.length/\l[i]?=some (S.b_ n i x p)
structure FasJ (n:Net) (W b cv sv oz:AV) (j:Nat) (t:T) (g:G):Prop where
 st:St t [(4,.hptr 1 0 0 0),(6,W)]
 hg:g.h.get 1=.cells 5 [[.int .i64 n.grain,b,cv,sv,oz]] 0 false false
 hW:∃(rows:List (List AV)) (l:List Factor),Own g 2 W 3 rows/\rows.length=n.nodes.length/\l.length=j/\All2 (Rp.rp NoP 0 .nil) l (rows.take j)/\S.bW n l/\∀i,j<=i->i<n.nodes.length->rows[i]?=some [.nils,.nils,.nils]
end
end Hx
end
section
namespace Hx
open Go
abbrev QnM:Type:=Net×List Factor×List (List Int)
def S.bS (m:Nat)(f:Factor)(i:Nat)(R:List Int):Prop:=R.length=m/\∀(j:Nat) (y:Int),i<=j->f.vars[j]?=some y->R[y.toNat]?=some (S.af (f.cards.drop (j+1)))
structure QnOk (n:Net) (y:QnM):Prop where
 net:y.1=n
 fl:y.2.1.length=n.nodes.length
 fs:S.bW n y.2.1
 sl:y.2.2.length=n.nodes.length
 st:∀(k:Nat) (f:Factor) (R:List Int),y.2.1[k]?=some f->y.2.2[k]?=some R->S.bS n.nodes.length f 0 R
end Hx
end
section
namespace Hx
open Go
noncomputable section
def OY (fl:AV)(m q k:Nat):List (Nat×AV):=[(11,.hptr q 0 0 0),(2,.hptr 0 0 0 0),(4,.hptr 1 0 0 0),(45,fl),(46,.int .i64 (m:Int)),(47,.int .i64 (k:Int))]
structure AskI (fl:AV) (m q k:Nat) (g0:G) (iR:Nat) (R:AV) (f:Factor) (fb j:Nat) (t:T) (g:G):Prop where
 st:St t ((13,.hptr fb 0 0 0)::(12,.int .i64 (k:Int))::(14,.int .i64 (S.af (f.cards.drop j)))::OY fl m q k)
 nx:g0.nx<=g.nx
 fr:∀i,i<g0.nx->i≠iR->g.h.get i=g0.h.get i
 ow:∃X:List Int,Own g 2 R 1 (X.map ci)/\S.bS m f j X
structure FOk (m:Nat) (f:Factor):Prop where
 cl:f.cards.length=f.vars.length
 vl:f.vars.length<=16
 cb:∀c∈f.cards,1<=c/\c<=4
 nd:f.vars.Nodup
 vr:∀y∈f.vars,0<=y/\y<m
structure AskH (gr:Int) (b fl S_:AV) (m q:Nat) (fs:List Factor) (k:Nat) (g:G):Prop where
 h0:g.h.get 0=.cells 2 [[.int .i64 gr,b]] 0 false false
 h1:g.h.get 1=.cells 4 [[.int .i64 0,.nils,.nils,.nils]] 0 false false
 hq:g.h.get q=.cells 4 [[.int .i64 gr,b,fl,S_]] 0 false false
 q2:2<=q/\q<g.nx
 sq:∀i,vid S_=some i->i<q
 hS:∃(Vs:List AV) (l:List (List Int)),Own g 2 S_ 1 (Vs.map λv=>[v])/\Vs.length=m/\l.length=k/\All2 (λX v=>Own g (q+1) v 1 (X.map ci)) l (Vs.take k)/\∀(i:Nat) (f:Factor) (X:List Int),fs[i]?=some f->l[i]?=some X->S.bS m f 0 X
structure AskJ (gr:Int) (b fl S_:AV) (m q:Nat) (fs:List Factor) (k:Nat) (t:T) (g:G):Prop where
 st:St t [(11,.hptr q 0 0 0),(2,.hptr 0 0 0 0),(4,.hptr 1 0 0 0),(45,fl)]
 hp:AskH gr b fl S_ m q fs k g
theorem LR {α:Type}{l:List α}{i:Nat}{x y:α}(h1:l[i]?=some x)(h2:l[i]?=some y):x=y:=by rw[h1] at h2;injection h2
structure WtI (y:QnM) (b fl S_ wv va ca wa:AV) (gr wt:Int) (p:Int) (cards pv:List Int) (m k fb i:Nat) (t:T) (g:G):Prop where
 st:St t [(1,wv),(2,.hptr 0 0 0 0),(12,fl),(13,.int .i64 (m:Int)),(14,.int .i64 (k:Int)),(5,.int .i64 wt),(6,.int .i64 (k:Int)),(7,.hptr fb 0 0 0),(20,va),(8,.int .i64 (p - S.ak (cards.drop i) (pv.drop i)))]
 h0:g.h.get 0=.cells 4 [[.int .i64 gr,b,fl,S_]] 0 false false
 hf:g.h.get fb=.cells 3 [[va,ca,wa]] 0 false false
 nn:0<=p - S.ak (cards.drop i) (pv.drop i)
 nx:1<=g.nx
structure WtJ (n:Net) (vals:List Int) (b fl S_ wv:AV) (k:Nat) (t:T) (g:G):Prop where
 st:St t [(1,wv),(2,.hptr 0 0 0 0),(12,fl),(5,.int .i64 (S.af ((List.range k).map (S.aH n vals))))]
 h0:g.h.get 0=.cells 4 [[.int .i64 n.grain,b,fl,S_]] 0 false false
 nx:1<=g.nx
theorem Ec {d k:Nat}{g:G}{P:Nat->Prop}{v:AV}{l:List Int}(hd:0<d)(hv:SlR P k g.h l v):am C0 d N.aG [v] g=.val (.int .i64 (S.aT l)):=by
 obtain ⟨v',e,r1⟩:=aN hv d;have vl:∀g,dt .slice v' g=.val (.int .i64 (l.length:Int)):=λg=>(r1 .nil).len g;have ri:=λh=>(r1 h).ints;rw[xM];refine dT AC (xs:=[v']) (by simp only[aE,e]) (by simp[pR]) hd ?_;simp only[sz,simprocAttr,pR,vl,qK];refine bk (m:=l.length) hv.1 (λj t df g=>df=[]/\St t [(6,v'),(3,.int .i64 (S.aT (l.take j)))]) ⟨rfl,by simp[St,sx,S.aT]⟩ (by simp[sx]) (by simp[sx]) (by decide)
  (by rintro j t df g v s (rfl | rfl | rfl)<;>simp[sx,St]) ?_ ?_
 ·rintro j t df g hj ⟨rfl,h6,h3,-⟩ h8 h7;obtain ⟨x,hx,htk,hm⟩:=af hj;have z1:j<(l.map ci).length:=by simpa using hj
  have z2:(l.map ci)[j]?=some (ci x):=by rw[List.getElem?_map,hx];rfl
  simp only[sz,simprocAttr,h6,h8,h3,ri,z1,z2,ci];simp[St,sx,h6,h7,h8,htk,S.aT,List.foldl_append]
 ·rintro t df g ⟨rfl,h6,h3,-⟩;rw[List.take_length] at h3;simp only[sz,simprocAttr,qC,h3]
theorem wH {d k:Nat}{g:G}{P:Nat->Prop}{v:AV}{n:Net}(hd:0<d)(hv:SlR P k g.h n.nodes v)(hn:n.nodes.length<1073741824):∃r,am C0 d N.au [v] g=.val r/\IT 0 (S.aa n) r:=by
 obtain ⟨v',e,r0⟩:=aN hv d;obtain ⟨rows,r1,r2,r3,r4⟩:=(r0 .nil).all;have r1:∀h',ak h' 3 v'=some rows:=r1;have vl:∀g,dt .slice v' g=.val (.int .i64 (n.nodes.length:Int)):=λg=>(r0 .nil).len g;rw[w_];refine aO zS (xs:=[v']) (by simp only[aE,e]) (by simp[n_]) (aJ _) (by decide) hd ?_;simp only[sz,simprocAttr,n_,vl];refine qg (b:=0) (n:=n.nodes.length) (by unfold aM;omega) (by unfold aM;omega) (Nat.zero_le _) λu g1 hu n1 f1 v1=>?_;simp only[sz,simprocAttr,vl,oO];refine bk (m:=n.nodes.length) (by omega) (λj t df g=>df=[]/\St t [(9,v'),(3,u)]/\Own g 0 u 1 ((((S.aa n).take j)++List.replicate (n.nodes.length - j) 0).map ci)) ⟨rfl,by simp[St,sx],?_⟩ (by simp[sx]) (by simp[sx]) (by decide)
  (by rintro j t df g v s (rfl | rfl | rfl)<;>simp[sx,St]) ?_ ?_
 ·simpa [ci] using hu
 ·rintro j t df g hj ⟨rfl,⟨h9,h3,-⟩,hO⟩ h11 h10;obtain ⟨x,hx,-,hm⟩:=af hj;obtain ⟨row,q1,q2⟩:=r3 j x hx;obtain ⟨a',b',rfl,ha',hb'⟩:=bO.1 q2;have hlt:j<rows.length:=by omega
  have hry:=r4 (by omega);have hcl:(S.aa n).length=n.nodes.length:=aB n;have hcj:(S.aa n)[j]?=some x.card:=by simp[S.aa,hx]
  have z1:j<((((S.aa n).take j)++List.replicate (n.nodes.length - j) 0).map ci).length:=by simp;omega
  have z2:((((S.aa n).take j)++List.replicate (n.nodes.length - j) 0).map ci)[j]?=some (ci 0):=by rw[List.getElem?_map,List.getElem?_append_right (by simp;omega),List.getElem?_replicate];simp;omega
  have e2:((((S.aa n).take j)++List.replicate (n.nodes.length - j) 0).map ci).set j (ci x.card)=(((S.aa n).take (j+1))++List.replicate (n.nodes.length - (j+1)) 0).map ci:=by
   rw[<-List.map_set,List.set_append_right _ _ (by simp;omega),List.length_take,Nat.min_eq_left (by omega),Nat.sub_self,List.take_succ_eq_append_getElem (by omega),show n.nodes.length - j=(n.nodes.length - (j+1))+1 by omega,List.replicate_succ,List.set_cons_zero,List.append_assoc];have:(S.aa n)[j]=x.card:=by rw[List.getElem?_eq_getElem (by omega)] at hcj;injection hcj
   rw[this];rfl
  have fw:d8 [.int .i64 0,.nils,.nils] [((0,3),.agg [.int .i64 x.card,a',b'])]=some [.int .i64 x.card,a',b']:=rfl;simp only[sz,simprocAttr,h9,h11,r1,hlt,q1,hry];have hO2:Own ((g.new (.cells 3 [[.int .i64 0,.nils,.nils]] 0 false false)).put g.nx (.cells 3 [[.int .i64 x.card,a',b']] 0 false false)) 0 u 1 ((((S.aa n).take j)++List.replicate (n.nodes.length - j) 0).map ci) :=
   hO.fr (by simp) λi hi=>by have:=(hO.lt hi).2;simp[H.get_put,show ¬i=g.nx by omega]
  generalize (g.new (.cells 3 [[.int .i64 0,.nils,.nils]] 0 false false)).put g.nx (.cells 3 [[.int .i64 x.card,a',b']] 0 false false)=g2 at hO2 ⊢;simp only[sz,simprocAttr,h3,hO2.rows,z1];refine bS (v:=u) (sz:=1) (n:=1) (i:=j) (off:=0) (x:=.int .i64 x.card) (row:=ci 0) (row':=ci x.card) hO2 z2 rfl rfl rfl λg3 o3 n3 f3=>?_;rw[e2] at o3;simp only[sz,simprocAttr];simpa [St,sx,h9,h3,h10,h11] using o3
 ·rintro t df g ⟨rfl,⟨h9,h3,-⟩,hO⟩;rw[List.take_of_length_le (by rw[aB];omega),Nat.sub_self] at hO;simp only[sz,simprocAttr,oB,h3];exact ⟨_,(by simpa using hO:Own g 0 u 1 ((S.aa n).map ci)).ints (by rw[aB];omega)⟩
def S.bJ (l:List Int)(x:Int):Int:=if x∈l then (l.idxOf x:Int) else -1
theorem Kp {l:List Int}{x:Int}:(0:Int)<=S.bJ l x↔x∈l:=by
 unfold S.bJ
 split
 ·rename_i h;simp[h]
 ·rename_i h;simp[h]
theorem IM {d k:Nat}{g:G}{P:Nat->Prop}{v:AV}{l:List Int}{x:Int}(hd:0<d)(hv:SlR P k g.h l v):am C0 d N.bo [v,.int .i64 x] g=.val (.int .i64 (S.bJ l x)):=by
 obtain ⟨v',e,r1⟩:=aN hv d;have vl:∀g,dt .slice v' g=.val (.int .i64 (l.length:Int)):=λg=>(r1 .nil).len g;have ri:=λh=>(r1 h).ints;rw[oZ];refine dT q8 (xs:=[v',.int .i64 x]) (by simp only[aE,e,dh 0]) (by simp[eU]) hd ?_;simp only[sz,simprocAttr,eU,vl,gZ];refine bk (m:=l.length) hv.1 (λj t df g=>df=[]/\St t [(0,v'),(1,.int .i64 x)]/\x ∉ l.take j) ⟨rfl,by simp[St,sx],by simp⟩ (by simp[sx]) (by simp[sx]) (by decide)
  (by rintro j t df g v s (rfl | rfl | rfl)<;>simp[sx,St]) ?_ ?_
 ·rintro j t df g hj ⟨rfl,⟨h0,h1,-⟩,hno⟩ h8 h7;obtain ⟨y,hy,htk,hm⟩:=af hj;have z1:j<(l.map ci).length:=by simpa using hj
  have z2:(l.map ci)[j]?=some (ci y):=by rw[List.getElem?_map,hy];rfl
  by_cases c:x=y
  ·subst c;have hl:l=l.take j++x::l.drop (j+1):=by
    have:l.drop j=x::l.drop (j+1):=by rw[List.drop_eq_getElem_cons hj];congr 1;rw[List.getElem?_eq_getElem hj] at hy;injection hy
    rw[<-this,List.take_append_drop]
   have hf:S.bJ l x=(j:Int):=by
    unfold S.bJ;rw[if_pos hm];have:l.idxOf x=j:=by
     conv=>lhs;rw[hl]
     rw[List.idxOf_append,if_neg hno,List.idxOf_cons_self,List.length_take];omega
    rw[this]
   simp only[sz,simprocAttr,h0,h1,h8,ri,z1,z2,ci,hf]
  ·simp only[sz,simprocAttr,h0,h1,h8,ri,z1,z2,ci,c];simp[St,sx,h0,h1,h7,h8,htk,hno,c]
 ·rintro t df g ⟨rfl,-,hno⟩;rw[List.take_length] at hno;simp only[sz,simprocAttr,gN,S.bJ,hno]
theorem CG {d k:Nat}{g:G}{P:Nat->Prop}{v:AV}{l:List Int}{x:Int}(hd:0<d)(hv:SlR P k g.h l v):am C0 d N.bP [v,.int .i64 x] g=.val (.bool (decide (x∈l))):=by obtain ⟨v',e,r1⟩:=aN hv d;have ki:=λg=>IM (d:=d+1) (g:=g) (x:=x) (Nat.succ_pos d) (r1 g.h);have hd2:decide ((0:Int)<=S.bJ l x)=decide (x∈l):=decide_eq_decide.2 Kp;rw[lC];refine gf nM (xs:=[v',.int .i64 x]) (by simp only[aE,e,dh 0]) (by simp[dB]) hd ?_;simp only[sz,simprocAttr,dB,ki,<-hd2]
theorem FX {α:Type} [Rp α]{P:Nat->Prop}{k:Nat}{h:H}{l:List α}{w:AV}(hw:SlR P k h l w)(g:G):Dd w g=.upd (.hptr g.nx 0 0 0) (g.new (.cells 1 [[w]] 0 false false)):=by rw[Fv _ _ hw.cell.2,hw.cell.1];rfl
def FE {α:Type} [Rp α](x:α)(sz:Nat):VS:=λP k h v=>(∃id cs,v=.hptr id 0 0 0/\P id/\h.get id=.cells sz [cs] 0 false false/\Rp.rp P k h x cs)\/∃t cs,v=.tptr t sz [cs] 0 0/\t<=k/\Rp.rp NoP k .nil x cs
theorem Dt {α:Type} [Rp α]{x:α}{sz:Nat}{P:Nat->Prop}{k:Nat}{h:H}{v:AV}{n:Nat}(d:Nat)(r:FE x sz P k h v)(hn:Rp.dp α<=n)(hd:Rp.dp α<=20:=by decide):∃v',Hx.snap h d (n+1) v=some v'/\FE x sz NoP (max k d) .nil v':=by
 rcases r with ⟨id,cs,rfl,-,hg,r⟩ | ⟨t,cs,rfl,ht,r⟩
 ·obtain ⟨cs',e,r'⟩:=Rp.snap (n:=n) d r hn (by show _<=24;omega);obtain ⟨m,e2,l2⟩:=Rp.tag (n:=aG) r' (by show _<=24;omega);refine ⟨.tptr (Nat.max d (Nat.max m 0)) sz [cs'] 0 0,?_,.inr ⟨_,cs',rfl,?_,r'⟩⟩
  ·simp only[Hx.snap,hg,show Nat.beq 0 0=true from rfl,aE,e,eB,fu,e2]
  ·show max d (max m 0)<=max k d;omega
 ·exact ⟨.tptr t sz [cs] 0 0,rfl,.inr ⟨t,cs,rfl,by omega,Rp.mono r (λi hi=>hi.elim) (by omega)⟩⟩
theorem Hw {α:Type} [Rp α]{x:α}{sz:Nat}{k:Nat}{h:H}{v:AV}{n:Nat}(r:FE x sz NoP k h v):∃m,dS (n+1) v=some m/\m<=k:=by
 rcases r with ⟨id,cs,rfl,hP,-⟩ | ⟨t,cs,rfl,ht,r⟩
 ·exact hP.elim
 ·exact ⟨t,rfl,ht⟩
theorem Dn {cs vs:List Int}(h:InC cs vs)(hc:∀c∈cs,1<=c){i:Nat}{x c:Int}(hi:vs[i]?=some x)(hci:cs[i]?=some c)(hx:x≠c - 1):InC cs (vs.take i++(x+1)::List.replicate (vs.length - (i+1)) 0):=by
 have hil:=(List.getElem?_eq_some_iff.1 hi).1;have hl:=h.len;refine Cx (by simp;omega) λj c' v hj hv=>?_;obtain ⟨v',h1,h2,h3⟩:=h.get hj;have hcp:=hc c' (List.mem_of_getElem? hj)
 by_cases h4:j<i
 ·rw[List.getElem?_append_left (by simp;omega),List.getElem?_take_of_lt h4] at hv;rw[h1] at hv;injection hv with hv;omega
 ·rw[List.getElem?_append_right (by simp;omega)] at hv;rw[List.length_take,Nat.min_eq_left (by omega)] at hv
  by_cases h5:j=i
  ·subst h5;rw[Nat.sub_self] at hv;simp at hv;rw[hi] at h1;injection h1 with h1;rw[hci] at hj;injection hj with hj;omega
  ·obtain ⟨m,hm⟩:∃m,j - i=m+1:=⟨j - i - 1,by omega⟩;rw[hm,List.getElem?_cons_succ] at hv;have:=List.mem_of_getElem? hv;rw[List.mem_replicate] at this;omega
theorem vR {cs:List Int}(hc:∀c∈cs,1<=c):InC cs (List.replicate cs.length 0) :=
 Cx (by simp) λj c v hj hv=>by have:=List.mem_of_getElem? hv;rw[List.mem_replicate] at this;have:=hc c (List.mem_of_getElem? hj);omega
theorem uO {vs:List Int}{m:Nat}(h:m<vs.length):(vs.take (m+1)++List.replicate (vs.length - (m+1)) 0).set m 0=vs.take m++List.replicate (vs.length - m) 0:=by
 rw[List.take_succ_eq_append_getElem h,List.append_assoc,List.set_append_right _ _ (by simp;omega),List.length_take,Nat.min_eq_left (by omega),Nat.sub_self];rw[show vs.length - m=(vs.length - (m+1))+1 by omega,List.replicate_succ]
 rfl
theorem vH {vs:List Int}{m:Nat}(h:m<vs.length)(y:Int):(vs.take (m+1)++List.replicate (vs.length - (m+1)) 0).set m y=vs.take m++y::List.replicate (vs.length - (m+1)) 0:=by
 rw[List.take_succ_eq_append_getElem h,List.append_assoc,List.set_append_right _ _ (by simp;omega),List.length_take,Nat.min_eq_left (by omega),Nat.sub_self]
 rfl
structure OdoJ (n:Net) (vs:List Int) (L:List (Nat×AV)) (u:AV) (g0:G) (m:Nat) (t:T) (g:G):Prop where
 st:tat t 6=.int .i64 ((m:Int) - 1)
 ss:St t L
 ow:Own g g0.nx u 1 ((vs.take m++List.replicate (vs.length - m) 0).map ci)
 mx:∀(j:Nat) (c:Int),m<=j->(S.aa n)[j]?=some c->vs[j]?.getD 0=c - 1
theorem BA {C:Cfg}{d id nt:Nat}{t:T}{ps:List Nat}{assign body:Code}{a b:SC}{dfr:Nat}{args:List AV}{g:G}{K:AV->G->Prop}{D:ADf->Prop}{t':T}
  (hg:g.h.get id=.loop nt t ps assign body dfr .ready none) (ha:d6 C nt assign=a) (hb:d6 C nt body=b) (hp:cT t nt ps args=some t')
  (h:wp C d (some id) a (λe t1 df g1=>e=.norm/\df=[]/\g1.h.get id=.loop nt t ps assign body dfr .ready none /\
   wp C d (some id) b (λe _ df g2=>df=[]/\g2.h.get id=.loop nt t ps assign body dfr .busy none/\((e=.norm/\K (.bool true) (g2.put id (.loop nt t ps assign body dfr .ready none)))\/(e=.ret/\K (.bool false) (g2.put id (.loop nt t ps assign body dfr .done (some .ret))))))
    t1 [] (g1.put id (.loop nt t ps assign body dfr .busy none))) t' [] g) :
  (cB (I C) d id args g).sat K g D:=by
 subst ha;subst hb;unfold cB;rw[show g.get id=_ from hg];dsimp only;rw[hp];dsimp only;have h1:=tb h;cases hc:(I C).code nt d (some id) assign t' [] g with
 | fail=>rw[hc] at h1;exact h1.elim
 | ok e t1 df g1 =>
  rw[hc] at h1;obtain ⟨rfl,rfl,hg1,h2⟩:=h1;dsimp only;rw[show g1.get id=_ from hg1];dsimp only;have h3:=tb h2;cases hc2:(I C).code nt d (some id) body t1 [] (g1.put id (.loop nt t ps assign body dfr .busy none)) with
  | fail=>rw[hc2] at h3;exact h3.elim
  | ok e t2 df2 g2 =>
   rw[hc2] at h3;obtain ⟨rfl,h4,h5⟩:=h3;dsimp only;rw[show g2.get id=_ from h4];rcases h5 with ⟨rfl,h5⟩ | ⟨rfl,h5⟩<;>exact h5
structure CsOk (cs:List Int):Prop where
 b:∀c∈cs,1<=c/\c<=4
 l:cs.length<=8
def S.nc (cs:List Int):Nat:=(S.af cs).toNat
theorem CsOk.nc {cs:List Int}(h:CsOk cs):1<=S.nc cs/\S.nc cs<=65536/\((S.nc cs:Nat):Int)=S.af cs:=by
 obtain ⟨h1,h2⟩:=ck h.b;have h3:(4:Int) ^ cs.length<=4 ^ 8:=by
  have:(4:Nat) ^ cs.length<=4 ^ 8:=Nat.pow_le_pow_right (by decide) h.l
  exact_mod_cast this
 have h4:(4:Int) ^ 8=65536:=by decide
 unfold S.nc;omega
def Up (B:Nat)(g g':G):Prop:=(∀i,i<B->g'.h.get i=g.h.get i)/\∀i∈g'.lg,i∈g.lg\/B<=i
theorem Up.refl (B:Nat)(g:G):Up B g g:=⟨λ_ _=>rfl,λ_ h=>.inl h⟩
theorem Up.trans {B:Nat}{g g1 g2:G}(h:Up B g g1)(h2:Up B g1 g2):Up B g g2:=⟨λi hi=>by rw[h2.1 i hi,h.1 i hi],λi hi=>(h2.2 i hi).elim (λh3=>h.2 i h3) .inr⟩
theorem Up.mono {B B':Nat}{g g':G}(h:Up B g g')(hb:B'<=B):Up B' g g':=⟨λi hi=>h.1 i (by omega),λi hi=>(h.2 i hi).imp id λh=>by omega⟩
theorem Up.new {B:Nat}{g:G}(hb:B<=g.nx)(o:AObj):Up B g (g.new o):=⟨λi hi=>by rw[G.new_h,aq _ _ _ (by omega)],λi hi=>by simp at hi;rcases hi with rfl | hi;exact .inr hb;exact .inl hi⟩
theorem Up.put {B:Nat}{g:G}{j:Nat}(hb:B<=j)(o:AObj):Up B g (g.put j o):=⟨λi hi=>by rw[G.put_h,aq _ _ _ (by omega)],λi hi=>by simp at hi;rcases hi with rfl | hi;exact .inr hb;exact .inl hi⟩
theorem qa {g:G}{b:Nat}{v:AV}{sz n i off:Nat}{rows:List (List AV)}{row row':List AV}{x:AV}{K:AV->G->Prop}{D:ADf->Prop}(hv:Own g b v sz rows)(hr:rows[i]?=some row)
  (hl:x.cells.length=n) (ht:x.isTup=false) (hp:bX row off x.cells=some row')
  (k:∀g',Own g' b v sz (rows.set i row')->g'.nx=g.nx->(∀i,vid v≠some i->g'.h.get i=g.h.get i)->Up b g g'->K .undef g'):(lI n (iH sz v i off) x g).sat K g D:=by
 rcases hv with ⟨rfl,rfl⟩ | ⟨id,ep,lo,h1,h2,rfl,h3⟩
 ·simp at hr
 ·simp only[iH,Nat.zero_add];rw[zN h3 hr rfl ht hl hp];refine k _ (.inr ⟨id,ep,lo,h1,by simpa using h2,by simp,by simp[aU]⟩) (by simp) (λi hne=>?_) (Up.put h1 _);rw[G.put_h,aq _ _ _ (λe=>hne (by rw[e];rfl))]
def Uo (B:Nat)(g g':G):Prop:=Up B g g'/\g.nx<=g'.nx/\∀i,i≠B->i<g.nx->g'.h.get i=g.h.get i
theorem Uo.refl (B:Nat)(g:G):Uo B g g:=⟨Up.refl _ _,Nat.le_refl _,λ_ _ _=>rfl⟩
theorem Uo.trans {B:Nat}{g g1 g2:G}(h:Uo B g g1)(h2:Uo B g1 g2):Uo B g g2:=⟨h.1.trans h2.1,Nat.le_trans h.2.1 h2.2.1,λi hi hn=>by rw[h2.2.2 i hi (Nat.lt_of_lt_of_le hn h.2.1),h.2.2 i hi hn]⟩
def Ul (B:Nat)(g g':G):Prop:=Up B g g'/\g.nx<=g'.nx/\∀i,(i<B\/B+3<=i)->i<g.nx->g'.h.get i=g.h.get i
theorem Ul.put {B:Nat}{g:G}{j:Nat}(hb:B<=j)(hb2:j<B+3)(o:AObj):Ul B g (g.put j o):=⟨Up.put hb o,by simp,λi hi _=>by rw[G.put_h,aq _ _ _ (by omega)]⟩
def LMc (id:Nat)(w u:AV)(k:Nat):List (Nat×AV):=[(0,.yld id),(1,.tptr 0 1 [[w]] 0 0),(3,u),(4,.int .i64 (k:Int))]
structure OdoC (cs vs:List Int) (L:List (Nat×AV)) (u:AV) (g0:G) (m:Nat) (t:T) (g:G):Prop where
 st:tat t 5=.int .i64 ((m:Int) - 1)
 ss:St t L
 ow:Own g g0.nx u 1 ((vs.take m++List.replicate (vs.length - m) 0).map ci)
 mx:∀(j:Nat) (c:Int),m<=j->cs[j]?=some c->vs[j]?.getD 0=c - 1
theorem MK {d id k m:Nat}{cs vs:List Int}{w u:AV}{Q:QT}{t:T}{g g0:G}(hb:CsOk cs)(hw:SlR NoP 0 .nil cs w)(hc:InC cs vs)(hm:m<=cs.length)
  (h0:OdoC cs vs (LMc id w u k) u g0 m t g) (hvu:vid u=some g0.nx)
  (fin:∀m' t g',m'<=cs.length->OdoC cs vs (LMc id w u k) u g0 m' t g'->g.nx<=g'.nx->Uo g0.nx g g'->(m'=0\/∃x c,vs[m' - 1]?=some x/\cs[m' - 1]?=some c/\x≠c - 1/\0<m')->Q (.exit 2) t [] g') :
  wpL (wp C0 d none bN) Q t [] g:=by
 have hvl:=hc.len;have hl8:=hb.l;have ri:=λh=>(hw.tree (h':=h) (Nat.le_refl 0):SlR NoP 0 h cs w).ints;refine eH (λm t df g'=>df=[]/\m<=cs.length/\OdoC cs vs (LMc id w u k) u g0 m t g'/\g.nx<=g'.nx/\Uo g0.nx g g') m ⟨rfl,hm,h0,Nat.le_refl _,Uo.refl _ _⟩ ?_;rintro m t df g1 ⟨rfl,hm,⟨h5,⟨h0,h1,h3,h4,-⟩,how,hmx⟩,hnx,hfr⟩;simp only[bN];cases m with
 | zero =>
  have c1:¬((0:Int)<=((0:Nat):Int) - 1):=by omega
  simp only[sz,simprocAttr,h5,c1];refine fin 0 _ _ (Nat.zero_le _) ⟨?_,?_,?_,hmx⟩ ?_ ?_ (.inl rfl)
  ·simp[sx,h5]
  ·simp[St,LMc,sx,h0,h1,h3,h4]
  ·exact how
  ·exact hnx
  ·exact hfr
 | succ m =>
  have c1:(0:Int)<=((m+1:Nat):Int) - 1:=by omega
  have e1:((m+1:Nat):Int) - 1=(m:Int):=by omega
  rw[e1] at c1 h5;obtain ⟨x,hx,-,hxm⟩:=af (l:=cs) (j:=m) (by omega);obtain ⟨v,hv,hv0,hv1⟩:=hc.get hx;have hcx:=hb.b x hxm;have u1:m<((vs.take (m+1)++List.replicate (vs.length - (m+1)) 0).map ci).length:=by simp;omega
  have u2:((vs.take (m+1)++List.replicate (vs.length - (m+1)) 0).map ci)[m]?=some (ci v):=by rw[List.getElem?_map,List.getElem?_append_left (by simp;omega),List.getElem?_take_of_lt (by omega),hv];rfl
  have z1:m<(cs.map ci).length:=by simp;omega
  have z2:(cs.map ci)[m]?=some (ci x):=by rw[List.getElem?_map,hx];rfl
  have ru:=how.rows;have w1:IntKind.wrap .i64 (x - 1)=x - 1:=ax (by omega) (by omega)
  by_cases c2:v=x - 1
  ·simp only[sz,simprocAttr,h5,h1,h3,c1,ru,u1,u2,ri,z1,z2,bC,ci,w1,c2];refine qa (v:=u) (sz:=1) (n:=1) (i:=m) (off:=0) (x:=.int .i64 0) (row':=ci 0) how u2 rfl rfl rfl λg4 hu4 n4 f4 p4=>?_;rw[<-List.map_set,uO (by omega)] at hu4;have w2:IntKind.wrap .i64 ((m:Int) - 1)=(m:Int) - 1:=ax (by omega) (by omega);simp only[sz,simprocAttr,h5,w2];refine ⟨m,by omega,by omega,⟨by simp[sx],by simp[St,LMc,sx,h0,h1,h3,h4],hu4,λj c hj hc'=>?_⟩,by omega,hfr.trans ⟨p4,by omega,λi hi _=>f4 i λe=>hi (by rw[hvu] at e;injection e with e;exact e.symm)⟩⟩
   by_cases e:j=m
   ·subst e;rw[hx] at hc';injection hc' with hc';rw[hv,Option.getD_some];omega
   ·exact hmx j c (by omega) hc'
  ·simp only[sz,simprocAttr,h5,h1,h3,c1,ru,u1,u2,ri,z1,z2,bC,ci,w1,c2];refine fin (m+1) _ _ hm ⟨?_,?_,?_,hmx⟩ ?_ ?_ (.inr ⟨v,x,hv,hx,c2,by omega⟩)
   ·simp[sx,h5]
   ·simp[St,LMc,sx,h0,h1,h3,h4]
   ·exact how
   ·exact hnx
   ·exact hfr
theorem MM {d id:Nat}{cs:List Int}{w:AV}{g0:G}{K:AV->G->Prop}(hb:CsOk cs)(hw:SlR NoP 0 .nil cs w)
  (J:Nat->G->Prop) (E:G->Prop) (hJ:∀j g g',Uo g0.nx g g'->J j g->J j g')
  (step:∀(j:Nat) (u:AV) (g:G) (K':AV->G->Prop) (D:ADf->Prop),j<S.nc cs->g0.nx+1<=g.nx->J j g->SlR (λi=>g0.nx<=i/\i<g.nx) 0 g.h (S.ah cs j) u ->
   (∀g',J (j+1) g'->g.nx<=g'.nx->(∀i,g0.nx<=i->i<g.nx->g'.h.get i=g.h.get i)->K' (.bool true) g')->(∀g',E g'->K' (.bool false) g')->(cB (I C0) d id [.int .i64 (j:Int),u] g).sat K' g D)
  (h0:J 0 g0) (fin:∀g',J (S.nc cs) g'->g0.nx<=g'.nx->K (.tup []) g') (finE:∀g',E g'->K (.tup []) g') :
  wp C0 d none aT.code (fnQ C0 d aT.res K) (bQ 0 [.yld id,.tptr 0 1 [[w]] 0 0] .nil) [] g0:=by
 have hl8:=hb.l;obtain ⟨W1,W2,W3⟩:=hb.nc;have hcs1:=λc hc=>(hb.b c hc).1;have nl:=hw.len;have ri:=λh=>(hw.tree (h':=h) (Nat.le_refl 0):SlR NoP 0 h cs w).ints;obtain ⟨Qf,hQf⟩:∃Qf,Qf=fnQ C0 d aT.res K:=⟨_,rfl⟩;rw[<-hQf];simp only[sz,simprocAttr,aT,bC,nl];refine oS (b:=g0.nx) (n:=cs.length) (by unfold aM;omega) (by unfold aM;omega) (Nat.le_refl _) λu g1 hu n1 fr1 v1 l1=>?_;simp only[sz,simprocAttr];obtain ⟨INV,hINV⟩:∃INV:Nat->PT,INV=(λm t df g=>df=[]/\∃(j:Nat) (vs:List Int),m=S.nc cs - j/\j<S.nc cs/\InC cs vs/\S.ak cs vs=(j:Int)/\St t (LMc id w u j)/\Own g g0.nx u 1 (vs.map ci)/\J j g/\g0.nx+1<=g.nx):=⟨_,rfl⟩;refine eH INV (S.nc cs) ?_ ?_
 ·rw[hINV];exact ⟨rfl,0,List.replicate cs.length 0,rfl,by omega,vR hcs1,by rw[jV];rfl,by simp[St,LMc,sx],by simpa [ci] using hu,hJ 0 _ _ ⟨⟨fr1,λi hi=>by rw[l1] at hi;rcases List.mem_cons.1 hi with rfl | hi;exact .inr (Nat.le_refl _);exact .inl hi⟩,by omega,λi _ hn=>fr1 i hn⟩ h0,by omega⟩
 intro m t df g hI;have hI2:=hI;rw[hINV] at hI2;obtain ⟨rfl,j,vs,rfl,hj,hin,hidx,⟨h0,h1,h3,h4,-⟩,ho,hJj,hnx⟩:=hI2;clear hI;have hvl:=hin.len;have hval:S.ah cs (j:Int)=vs:=by rw[<-hidx];exact gE hcs1 hin
 have hvu:vid u=some g0.nx:=v1;have hsl:SlR (λi=>g0.nx<=i/\i<g.nx) 0 g.h vs u:=Own.sl (α:=Int) ho (by omega) (All2.of_map (λa=>aV.2 rfl) _) λi hi=>ho.lt hi;have w1:IntKind.wrap .i64 ((cs.length:Int) - 1)=(cs.length:Int) - 1:=ax (by omega) (by omega);obtain ⟨R,hR⟩:∃R,R=(SC.seq (.blk 1 (sQ [oL 15 1,oN 16 15,o 17 (.bin .sub (.t 16) (qI 1)),oM 5 17] (.seq (.blk 2 (.loop bN)) bP))) cP):=⟨_,rfl⟩;simp only[fF];rw[<-hR,dG];obtain ⟨Q1,hQ1⟩:∃Q1,Q1=kL INV (S.nc cs - j) (kB 0 Qf):=⟨_,rfl⟩;rw[<-hQ1];have rest:∀(t:T) (g:G),St t (LMc id w u j)->Own g g0.nx u 1 (vs.map ci)->J (j+1) g->g0.nx+1<=g.nx->wp C0 d none R Q1 t [] g:=by
  rintro t g ⟨h0,h1,h3,h4,-⟩ ho hJj hnx;rw[hR,hQ1];simp only[sz,simprocAttr,h1,bC,nl,w1];refine MK (id:=id) (k:=j) (m:=cs.length) (w:=w) (u:=u) (vs:=vs) (g0:=g0) hb hw hin (Nat.le_refl _) ⟨by simp[sx],by simp[St,LMc,sx,h0,h1,h3,h4],?_,λi c hi hc=>?_⟩ hvu ?_
  ·rw[List.take_of_length_le (by omega),show vs.length - cs.length=0 by omega];simpa using ho
  ·have:=(List.getElem?_eq_some_iff.1 hc).1;omega
  rintro m' t2 g2 hm' ⟨h5,⟨h0,h1,h3,h4,-⟩,ho2,hmx⟩ hn2 hf2 hcase;have hJ2:J (j+1) g2:=hJ _ _ _ hf2 hJj;rcases hcase with rfl | ⟨x,c,hx,hc,hxc,hm0⟩
  ·have hlast:j+1=S.nc cs:=by have:=yh (cs:=cs) (vs:=vs) hin.len.symm λi c hc=>hmx i c (Nat.zero_le _) hc;omega
   have c1:(((0:Nat):Int) - 1<0):=by omega
   rw[hQf];simp only[sz,simprocAttr,bP,aT,h5,c1];rw[hlast] at hJ2;exact fin g2 hJ2 (by omega)
  ·obtain ⟨i,rfl⟩:∃i,m'=i+1:=⟨m' - 1,by omega⟩;rw[Nat.add_sub_cancel] at hx hc;have hil:=(List.getElem?_eq_some_iff.1 hx).1;have e1:((i+1:Nat):Int) - 1=(i:Int):=by omega
   rw[e1] at h5;have c1:¬((i:Int)<0):=by omega
   have u1:i<((vs.take (i+1)++List.replicate (vs.length - (i+1)) 0).map ci).length:=by simp;omega
   have u2:((vs.take (i+1)++List.replicate (vs.length - (i+1)) 0).map ci)[i]?=some (ci x):=by rw[List.getElem?_map,List.getElem?_append_left (by simp;omega),List.getElem?_take_of_lt (by omega),hx];rfl
   have ru:=ho2.rows;obtain ⟨x',hx',hx0,hx1⟩:=hin.get hc;rw[LR hx' hx] at hx0 hx1;have hcb:=hb.b c (List.mem_of_getElem? hc);have w2:IntKind.wrap .i64 (x+1)=x+1:=ax (by omega) (by omega);simp only[sz,simprocAttr,bP,h5,c1,h3,ru,u1,u2,ci,w2];refine qa (v:=u) (sz:=1) (n:=1) (i:=i) (off:=0) (x:=.int .i64 (x+1)) (row':=ci (x+1)) ho2 u2 rfl rfl rfl λg4 hu4 n4 f4 p4=>?_;rw[<-List.map_set,vH hil] at hu4;have hin2:=Dn hin hcs1 hx hc hxc;have hidx2:=Dh (cs:=cs) (vs:=vs) hin.len.symm hx λk c hk hc=>hmx k c (by omega) hc;rw[hidx] at hidx2;have hlt2:=cF hb.b hin2;have w3:IntKind.wrap .i64 ((j:Int)+1)=((j+1:Nat):Int):=by rw[ax (by omega) (by omega)];rfl
   simp only[sz,simprocAttr,cP,h4,w3];refine ⟨S.nc cs - (j+1),by omega,?_⟩;rw[hINV];refine ⟨rfl,j+1,_,rfl,by omega,hin2,by rw[hidx2];rfl,by simp[St,LMc,sx,h0,h1,h3],hu4,hJ _ _ _ ⟨p4,by omega,λi hi _=>f4 i λe=>hi (by rw[hvu] at e;injection e with e;exact e.symm)⟩ hJ2,by omega⟩
 simp only[sz,simprocAttr,h0,h3,h4];have st:=λK' D=>step j u g K' D hj hnx hJj (by rw[hval];exact hsl);show (cB (I C0) d id [.int .i64 (j:Int),u] g).sat _ _ _;refine st _ _ (λg' hJ' hn' hf'=>?_) λg' hE=>?_
 ·simp only[sz,simprocAttr];exact rest _ _ (by simp[St,LMc,sx,h0,h1,h3,h4]) (ho.fr hn' λi hi=>hf' i (ho.lt hi).1 (ho.lt hi).2) hJ' (by omega)
 ·rw[hQ1,hQf];simp only[sz,simprocAttr,aT];exact finE g' hE
theorem Lm:C0.ext N.ae=none:=by kernel_rfl
theorem B0 {d nt p q r:Nat}{cs:List Int}{w:AV}{ca cb:SC}{Q:QT}{t:T}{df:List ADf}{g:G}(hb:CsOk cs)(hw:SlR NoP 0 .nil cs w)
  (hv:tat t r=.clo N.ae [] [.tptr 0 1 [[w]] 0 0]) (hp:p<nt) (hq:q<nt)
  (J:Nat->G->Prop) (E:G->Prop) (hJ:∀j g1 g2,Ul g.nx g1 g2->J j g1->J j g2) (hE:∀g1 g2,Ul g.nx g1 g2->E g1->E g2) (h0:J 0 g)
  (step:∀(j:Nat) (u:AV) (g1:G),j<S.nc cs->J j g1->g.nx+3<=g1.nx->SlR (λi=>g.nx+2<=i/\i<g1.nx) 0 g1.h (S.ah cs j) u ->
   wp C0 d (some (g.nx+1)) ca (λe t1 df g1'=>e=.norm/\df=[]/\Fr g1 g1'/\∀g2:G,g2.nx=g1'.nx->(∀i,i≠g.nx+1->g2.h.get i=g1'.h.get i)->Up g.nx g1' g2 ->
    wp C0 d (some (g.nx+1)) cb (λe _ df g3=>df=[]/\RowQ g.nx g2 g3 e (J (j+1) g3) (E g3)) t1 [] g2)
    (eT (eT t p (.int .i64 (j:Int))) q u) [] g1)
  (fin:∀g',J (S.nc cs) g'->g.nx+2<=g'.nx->g'.h.get g.nx=.dfr true->Q .norm t (.mark g.nx::df) g')
  (finE:∀g',E g'->g.nx+2<=g'.nx->g'.h.get g.nx=.dfr true->Q .ret t (.mark g.nx::df) g') :
  wp C0 d none (.rng nt (.t r) [p,q] ca cb) Q t df g:=by
 refine ui (fn:=N.ae) (first:=[]) (cap:=[.tptr 0 1 [[w]] 0 0]) (s:=aT) hv Lm oV (by simp[aT]) ?_;intro assign body ha hb';have e1:((g.new (.dfr true)).new (.loop nt t [p,q] assign body g.nx .ready none)).nx=g.nx+2:=by simp
 refine MM (g0:=(g.new (.dfr true)).new (.loop nt t [p,q] assign body g.nx .ready none)) (id:=g.nx+1) hb hw
  (λj g'=>J j g'/\g'.h.get g.nx=.dfr true/\g'.h.get (g.nx+1)=.loop nt t [p,q] assign body g.nx .ready none)
  (λg'=>E g'/\g'.h.get g.nx=.dfr true/\g'.h.get (g.nx+1)=.loop nt t [p,q] assign body g.nx .done (some .ret)/\g.nx+2<=g'.nx) ?_ ?_ ?_ ?_ ?_
 ·rintro j h h' hh ⟨a1,a2,a3⟩;rw[e1] at hh;exact ⟨hJ j h h' ⟨hh.1.mono (by omega),hh.2.1,λi hi hn=>hh.2.2 i (by omega) hn⟩ a1,by rw[hh.1.1 _ (by omega),a2],by rw[hh.1.1 _ (by omega),a3]⟩
 ·rintro j u g1 K' D hj hn ⟨a1,a2,a3⟩ hsl kk kE;rw[e1] at hn kk hsl;refine BA a3 ha hb' (t':=eT (eT t p (.int .i64 (j:Int))) q u) ?_ ?_
  ·simp only[cT,aa,Nat.blt_eq,if_pos hp,if_pos hq];rfl
  ·refine bM _ (step j u g1 hj a1 (by omega) hsl) ?_;rintro e t1 df g1' ⟨rfl,rfl,hfr,h⟩;have hl0:g.nx+1<g1.nx:=by omega
   have hl:g.nx+1<g1'.nx:=Nat.lt_of_lt_of_le hl0 hfr.1;have a2':g1'.h.get g.nx=.dfr true:=by rw[hfr.2 _ (by omega),a2]
   have a3':g1'.h.get (g.nx+1)=.loop nt t [p,q] assign body g.nx .ready none:=by rw[hfr.2 _ hl0,a3]
   refine ⟨rfl,rfl,a3',?_⟩;refine bM _ (h (g1'.put (g.nx+1) (.loop nt t [p,q] assign body g.nx .busy none)) (by simp) (λi hi=>by simp[H.get_put,hi]) (Up.put (by omega) _)) ?_;rintro e t2 df g3 ⟨rfl,⟨b2,b3,b1⟩⟩;have b4:g3.h.get (g.nx+1)=.loop nt t [p,q] assign body g.nx .busy none:=by rw[b3 _ (by omega) (by simpa using hl)];simp[H.get_put]
   have b5:g3.h.get g.nx=.dfr true:=by rw[b3 _ (by omega) (by simp;omega)];simp[H.get_put,a2']
   refine ⟨rfl,b4,?_⟩;have b2':g1'.nx<=g3.nx:=by simpa using b2
   have hf1:=hfr.1;rcases b1 with ⟨rfl,b1⟩ | ⟨rfl,b1⟩
   ·refine .inl ⟨rfl,kk _ ⟨hJ _ g3 _ (Ul.put (by omega) (by omega) _) b1,?_,?_⟩ (by simp;omega) λi h1 h2=>?_⟩
    ·simp[H.get_put,b5]
    ·simp[H.get_put]
    ·have hne:¬i=g.nx+1:=by omega
     have:=b3 i (by omega) (by simp;omega);simp[H.get_put,hne] at this ⊢;rw[this,hfr.2 i h2]
   ·refine .inr ⟨rfl,kE _ ⟨hE g3 _ (Ul.put (by omega) (by omega) _) b1,?_,?_,?_⟩⟩
    ·simp[H.get_put,b5]
    ·simp[H.get_put]
    ·simp;omega
 ·refine ⟨hJ 0 g _ ⟨(Up.new (Nat.le_refl _) _).trans (Up.new (by simp) _),by simp;omega,λi hi hn=>by simp[H.get_put,show ¬i=g.nx by omega,show ¬i=g.nx+1 by omega]⟩ h0,?_,?_⟩
  ·simp[H.get_put]
  ·simp[H.get_put]
 ·rintro g' ⟨a1,a2,a3⟩ hn;rw[e1] at hn;refine ⟨_,_,_,_,_,_,.inl ⟨a3,fin _ (hJ _ g' _ (Ul.put (by omega) (by omega) _) a1) (by simpa using hn) ?_⟩⟩;simp[H.get_put,a2]
 ·rintro g' ⟨a1,a2,a3,hn⟩;refine ⟨_,_,_,_,_,_,.inr ⟨a3,finE _ (hE g' _ (Ul.put (by omega) (by omega) _) a1) (by simpa using hn) ?_⟩⟩;simp[H.get_put,a2]
theorem zW {d nt p q r:Nat}{cs:List Int}{w:AV}{ca cb:SC}{Q:QT}{t:T}{df:List ADf}{g:G}(hb:CsOk cs)(hw:SlR NoP 0 .nil cs w)
  (hv:tat t r=.clo N.ae [] [.tptr 0 1 [[w]] 0 0]) (hp:p<nt) (hq:q<nt)
  (J:Nat->G->Prop) (E:G->Prop) (hJ:∀j g1 g2,Up g.nx g1 g2->J j g1->J j g2) (hE:∀g1 g2,Up g.nx g1 g2->E g1->E g2) (h0:J 0 g)
  (step:∀(j:Nat) (u:AV) (g1:G),j<S.nc cs->J j g1->g.nx+2<=g1.nx->SlR (λi=>g.nx+2<=i/\i<g1.nx) 0 g1.h (S.ah cs j) u ->
   wp C0 d (some (g.nx+1)) ca (λe t1 df g1'=>e=.norm/\df=[]/\Fr g1 g1'/\∀g2:G,g2.nx=g1'.nx->(∀i,i≠g.nx+1->g2.h.get i=g1'.h.get i)->Up g.nx g1' g2 ->
    wp C0 d (some (g.nx+1)) cb (λe _ df g3=>df=[]/\RowQ g.nx g2 g3 e (J (j+1) g3) (E g3)) t1 [] g2)
    (eT (eT t p (.int .i64 (j:Int))) q u) [] g1)
  (fin:∀g',J (S.nc cs) g'->g.nx+2<=g'.nx->g'.h.get g.nx=.dfr true->Q .norm t (.mark g.nx::df) g')
  (finE:∀g',E g'->g.nx+2<=g'.nx->g'.h.get g.nx=.dfr true->Q .ret t (.mark g.nx::df) g') :
  wp C0 d none (.rng nt (.t r) [p,q] ca cb) Q t df g :=
 B0 hb hw hv hp hq J E (λj g1 g2 h=>hJ j g1 g2 h.1) (λg1 g2 h=>hE g1 g2 h.1) h0 (λj u g1 hj hJj hn=>step j u g1 hj hJj (by omega)) fin finE
def CbV (cs:List Int):VS:=λP k h v=>∃p,v=.clo N.ae [] [p]/\FE cs 1 P k h p
theorem N_ (cs:List Int):Snb (CbV cs) 2:=by
 refine ⟨λ{P k h v n} d r hn=>?_,λ{k h v n} r hn=>?_⟩
 ·obtain ⟨p,rfl,r1⟩:=r;obtain ⟨n,rfl⟩:∃q,n=q+2:=⟨n - 2,by omega⟩;obtain ⟨p',e1,r1'⟩:=Dt (n:=n) d r1 (Nat.le_trans (show Rp.dp (List Int)<=20 by decide) (by omega));refine ⟨.clo N.ae [] [p'],?_,p',rfl,r1'⟩;simp only[Hx.snap,aE] at e1 ⊢;rw[e1]
 ·obtain ⟨p,rfl,r1⟩:=r;obtain ⟨n,rfl⟩:∃q,n=q+2:=⟨n - 2,by omega⟩;obtain ⟨m1,e1,l1⟩:=Hw (n:=n) r1;refine ⟨Nat.max m1 0,?_,by show max m1 0<=k;omega⟩;show fu (dS (n+1)) [p]=_;simp only[fu,e1]
theorem yw {d:Nat}{g:G}{w:AV}{cs:List Int}(hd:0<d)(hw:SlR NoP 0 g.h cs w) :
  ∃z,am C0 d N.am [w] g=.val (.clo N.ae [] [.tptr 0 1 [[z]] 0 0])/\SlR NoP 0 .nil cs z:=by
 have key:∃r,am C0 d N.am [w] g=.val r/\CbV cs NoP 0 .nil r:=by rw[pH];refine aO rm (xs:=[w]) (by simp only[aE,jE d hw]) (by simp[e_]) (N_ cs) (by decide) hd ?_;simp only[sz,simprocAttr,e_,iQ,FX hw];refine ⟨λ_=>True,_,rfl,.inl ⟨0,[w],rfl,trivial,by simp[sx,H.get_put],?_⟩⟩;exact ⟨w,rfl,hw.wide (Nat.le_refl 0)⟩
 obtain ⟨r,hr,p,rfl,r1⟩:=key;rcases r1 with ⟨id,cs,rfl,hP,-⟩ | ⟨t,cs2,rfl,ht,r1⟩
 ·exact hP.elim
 obtain ⟨z,rfl,hz⟩:=cY.1 r1;have:t=0:=by omega
 subst this;exact ⟨z,hr,hz⟩
theorem As {cs vs:List Int}{c v:Int}(h:cs.length=vs.length):S.ak (cs++[c]) (vs++[v])=S.ak cs vs*c+v:=by
 have h1:=um (cs++[c]) (vs++[v]) 0 (by simp[h]);have h2:=um cs vs 0 h;have h3:S.bM (cs++[c]) (vs++[v]) 0=S.bM cs vs 0*c+v:=by
  unfold S.bM;rw[List.zip_append h,List.foldl_append]
  rfl
 rw[Int.zero_mul,Int.zero_add] at h1 h2;rw[<-h1,h3,h2]
theorem cV {cs:List Int}(hc:∀c∈cs,1<=c/\c<=4)(hl:cs.length<=8)(j:Nat):S.af (cs.take j)<=65536:=by
 obtain ⟨-,h2⟩:=ck (l:=cs.take j) λc h=>hc c (List.mem_of_mem_take h);have h3:(4:Int) ^ (cs.take j).length<=4 ^ 8:=by
  have:(4:Nat) ^ (cs.take j).length<=4 ^ 8:=Nat.pow_le_pow_right (by decide) (by rw[List.length_take];omega)
  exact_mod_cast this
 have h4:(4:Int) ^ 8=65536:=by decide
 omega
theorem Lw {d k2 i:Nat}{g:G}{P2:Nat->Prop}{v w:AV}{n:Net}{x:Node}{vals:List Int}(hd:0<d)(hv:SlR NoP 0 .nil n.nodes v)(hr:NR n)(hx:n.nodes[i]?=some x)(hw:SlR P2 k2 g.h vals w)(hin:InC (S.aa n) vals) :
  am C0 d N.bz [v,.int .i64 (i:Int),w] g=.val (.int .i64 (S.ak (S.ae (S.aa n) x.parents) (S.ae vals x.parents))):=by
 obtain ⟨w',e2,hw'⟩:=aN hw d;have e1:=jE (h:=g.h) d (hv.tree (h':=g.h) (Nat.le_refl 0));obtain ⟨rows,r1,r2,r3,r4⟩:=hv.all;have r1:∀h',ak h' 3 v=some rows:=r1;have hil:=(List.getElem?_eq_some_iff.1 hx).1;have hxm:=List.mem_of_getElem? hx;obtain ⟨row,q1,q2⟩:=r3 i x hx;obtain ⟨pa,ra,rfl,hpa,-⟩:=bO.1 q2;have hlt:i<rows.length:=by omega
 have hry:=r4 (by omega);have hl8:=hr.l2;have hvl:=hin.len;rw[aB] at hvl;have hpl:=dl (hr.places x hxm) (by omega);have hpin:=hr.pin hxm;have lpa:=hpa.len;have rpa:=λh=>(hpa.tree (h':=h) (Nat.le_refl 0)).ints;have rw':=λh=>(hw' h).ints;have hC:=gG hin hpin;have hb:=bJ hr.cs hpin;have hll:(S.ae (S.aa n) x.parents).length=x.parents.length:=by simp[S.ae]
 have hlv:(S.ae vals x.parents).length=x.parents.length:=by simp[S.ae]
 rw[zu];refine dT Co (xs:=[v,.int .i64 (i:Int),w']) (by simp only[aE,e1,e2,dh 0]) (by simp[sN]) hd ?_;simp only[sz,simprocAttr,sN,r1,hlt,q1,hry,lpa,rL];refine bk (m:=x.parents.length) (by omega) (λj t df g=>df=[]/\St t [(0,v),(2,w'),(14,pa),(7,.int .i64 (S.ak ((S.ae (S.aa n) x.parents).take j) ((S.ae vals x.parents).take j)))]) ⟨rfl,by simp[St,sx,S.ak]⟩ (by simp[sx]) (by simp[sx]) (by decide)
  (by rintro j t df g v s (rfl | rfl | rfl)<;>simp[sx,St]) ?_ ?_
 ·rintro j t df g hj ⟨rfl,h0,h2,h14,h7,-⟩ h16 h15;obtain ⟨p,hp,-,hpm⟩:=af hj;obtain ⟨p0,p1⟩:=hpin p hpm;rw[aB] at p1;obtain ⟨pn,rfl⟩:=Int.eq_ofNat_of_zero_le p0;have hpn:pn<n.nodes.length:=by omega
  obtain ⟨y,hy,-,hym⟩:=af (l:=n.nodes) (j:=pn) hpn;obtain ⟨row2,s1,s2⟩:=r3 pn y hy;obtain ⟨pa2,ra2,rfl,-,-⟩:=bO.1 s2;have hlt2:pn<rows.length:=by omega
  obtain ⟨z,hz,-,-⟩:=af (l:=vals) (j:=pn) (by omega);have a1:j<(x.parents.map ci).length:=by simpa using hj
  have a2:(x.parents.map ci)[j]?=some (ci (pn:Int)):=by rw[List.getElem?_map,hp];rfl
  have b1:pn<(vals.map ci).length:=by rw[List.length_map];omega
  have b2:(vals.map ci)[pn]?=some (ci z):=by rw[List.getElem?_map,hz];rfl
  have c1:(S.ae (S.aa n) x.parents).take (j+1)=(S.ae (S.aa n) x.parents).take j++[y.card]:=by
   rw[List.take_succ_eq_append_getElem (by omega)];congr 1;simp only[S.ae,List.getElem_map];have:x.parents[j]=(pn:Int):=by rw[List.getElem?_eq_getElem hj] at hp;injection hp
   rw[this];simp[S.aa,hy]
  have c2:(S.ae vals x.parents).take (j+1)=(S.ae vals x.parents).take j++[z]:=by
   rw[List.take_succ_eq_append_getElem (by omega)];congr 1;simp only[S.ae,List.getElem_map];have:x.parents[j]=(pn:Int):=by rw[List.getElem?_eq_getElem hj] at hp;injection hp
   rw[this];simp[hz]
  have hsn:S.ak ((S.ae (S.aa n) x.parents).take (j+1)) ((S.ae vals x.parents).take (j+1))=S.ak ((S.ae (S.aa n) x.parents).take j) ((S.ae vals x.parents).take j)*y.card+z:=by rw[c1,c2];exact As (by simp[hll,hlv])
  have i1:=cF (λc h=>hb c (List.mem_of_mem_take h)) (hC.take j);have i2:=cF (λc h=>hb c (List.mem_of_mem_take h)) (hC.take (j+1));have p1:=cV hb (by rw[hll];omega) j;have p2:=cV hb (by rw[hll];omega) (j+1);rw[hsn] at i2 ⊢;have hyc:=hr.card y hym;obtain ⟨A,hA⟩:∃A,A=S.ak ((S.ae (S.aa n) x.parents).take j) ((S.ae vals x.parents).take j):=⟨_,rfl⟩;rw[<-hA] at h7 i1 i2 ⊢;have hm0:0<=A*y.card:=Int.mul_nonneg i1.1 (by omega);have hm1:A*y.card<=65536*4:=Int.mul_le_mul (by omega) (by omega) (by omega) (by omega);have w1:IntKind.wrap .i64 (A*y.card)=A*y.card:=ax (by omega) (by omega);have w2:IntKind.wrap .i64 (A*y.card+z)=A*y.card+z:=ax (by omega) (by omega);simp only[sz,simprocAttr,h0,h2,h14,h7,h16,rpa,a1,a2,ci,r1,hlt2,s1,hry,rw',b1,b2,w1,w2];simp[St,sx,h0,h2,h14,h15,h16]
 ·rintro t df g ⟨rfl,h0,h2,h14,h7,-⟩;rw[List.take_of_length_le (by omega),List.take_of_length_le (by omega)] at h7;simp only[sz,simprocAttr,sn,h7]
theorem Nz {g:G}{n:Nat}{K:AV->G->Prop}{D:ADf->Prop}(hn:n<=65536)(k:∀g',g'.h.get g.nx=.cells 1 ((List.replicate n 0).map ci) 0 false false->g'.nx=g.nx+1->Up g.nx g g'->K (.hsl g.nx 0 0 0 none) g') :
  (yU 1 8 [.int .i64 0] (.int .i64 0) (.int .i64 (n:Int)) g).sat K g D:=by
 have h1:n<=aM:=by unfold aM;omega
 have h2:n*8<=aM:=by unfold aM;omega
 have key:yU 1 8 [.int .i64 0] (.int .i64 0) (.int .i64 (n:Int)) g=.upd (.hsl g.nx 0 0 0 none) (g.new (.cells 1 (eG n [.int .i64 0]) 0 false false)):=by
  show (match bT aM (.int .i64 (.ofNat n)) with
   | some cn=>match bT cn (.int .i64 0) with
    | some ln=>aw (Nat.ble (cn*8) aM) (OR.upd (.hsl g.nx 0 0 ln none) (g.new (.cells 1 (eG cn [.int .i64 0]) 0 false false))) .fail
    | none=>.fail
   | none=>.fail)=_
  have a1:bT aM (.int .i64 (.ofNat n))=some n:=by show aw (Nat.ble n aM) (some n) none=_;rw[aa,if_pos (by simpa using h1)]
  have a2:bT n (.int .i64 0)=some 0:=by show aw (Nat.ble 0 n) (some 0) none=_;rw[aa,if_pos (by simp)]
  rw[a1];dsimp only;rw[a2];dsimp only;rw[aa,if_pos (by simpa using h2)]
 rw[key];refine k _ ?_ (by simp) (Up.new (Nat.le_refl _) _);simp[aU,eG,ci]
theorem H6 {g:G}{id:Nat}{l tl:List Int}{x y:Int}{w:AV}{K:AV->G->Prop}{D:ADf->Prop}(hv:g.h.get id=.cells 1 (l.map ci++(y::tl).map ci) 0 false false)(hx:ak g.h 1 w=some [ci x])(hr:l.length<=65536)
  (k:K (.hsl id 0 0 (l++[x]).length none) (g.put id (.cells 1 ((l++[x]).map ci++tl.map ci) 0 false false))):(di 1 8 (.hsl id 0 0 l.length none) w g).sat K g D:=by
 unfold di;rw[hx];simp only[bo,G.get_eq,hv,aA,aa,Nat.beq_refl,Bool.true_and,Nat.ble_eq,Bool.and_eq_true,Nat.zero_add,Option.getD_none,Nat.sub_zero,List.length_append,List.length_map,List.length_cons,List.length_nil];rw[if_pos ⟨by omega,by unfold aM;omega⟩,if_pos (by omega)];have hnb:iX false=true:=rfl;rw[if_pos ⟨by omega,hnb⟩];have e:iI (l.map ci++(y::tl).map ci) l.length [ci x]=(l++[x]).map ci++tl.map ci:=by simp only[iI,gm];rw[List.map_append,List.append_assoc,List.map_cons,List.set_append_right _ _ (by simp)];simp
 rw[e];have e3:l.length+1=(l++[x]).length:=by simp
 rw[e3];exact k
def S.wt (n:Net)(w:Nat):Int:=S.bH n (S.ah (S.aa n) (w:Int))
def S.ay (n:Net)(j:Nat):List Int:=(List.range j).map (S.wt n)
theorem Kr (n:Net)(j:Nat):S.ay n (j+1)=S.ay n j++[S.wt n j]:=by simp[S.ay,List.range_succ]
theorem GC (n:Net)(j:Nat):(S.ay n j).length=j:=by simp[S.ay]
def LWt (B:Nat):List (Nat×AV):=[(1,.hptr B 0 0 0),(4,.hptr (B+2) 0 0 0)]
theorem Fj {d B:Nat}{n:Net}{b u:AV}{vals:List Int}{P:Nat->Prop}{rd:Option Nat}{Q:QT}{t:T}{g:G}(hd:0<d)(hr:NR n)(hN:SlR NoP 0 .nil n.nodes b)(hin:InC (S.aa n) vals)(hu:SlR P 0 g.h vals u)(hP:∀i,P i->i<g.nx)(hB:B<g.nx)
  (gB:g.h.get B=.cells 2 [[.int .i64 n.grain,b]] 0 false false)
  (ht:St t ((6,u)::(21,b)::LWt B)) (h7:tat t 7=.int .i64 1) (h23:tat t 23=.int .i64 0) (h22:tat t 22=.int .i64 (n.nodes.length:Int))
  (fin:∀t g',St t ((7,.int .i64 (S.bH n vals))::(6,u)::LWt B)->Fr g g'->Up g.nx g g'->Q (.exit 2) t [] g'):wpL (wp C0 d rd gy) Q t [] g:=by
 obtain ⟨rows,r1,r2,r3,r4⟩:=hN.all;have r1:∀h',ak h' 3 b=some rows:=r1;have hl8:=hr.l2;have hvl:=hin.len;rw[aB] at hvl;simp only[gy];refine bk (m:=n.nodes.length) (by omega) (λk t df g'=>df=[]/\St t ((7,.int .i64 (S.af ((List.range k).map (S.aH n vals))))::(6,u)::(21,b)::LWt B)/\Fr g g'/\Up g.nx g g') ⟨rfl,by
   obtain ⟨h6,h21,h1,h4,-⟩:=ht;simp[St,LWt,h1,h4,h6,h7,h21,S.af],Fr.refl _,Up.refl _ _⟩ h23 h22 (by decide)
  (by rintro j t df g v s (rfl | rfl | rfl) ⟨a1,⟨b1,b2,b3,b4,b5,-⟩,c1,c2⟩<;>exact ⟨a1,by simp[St,LWt,sx,b1,b2,b3,b4,b5],c1,c2⟩) ?_ ?_
 ·rintro k t df g1 hk ⟨rfl,⟨h7,h6,h21,h1,h4,-⟩,hF,hU⟩ h23 h22;obtain ⟨x,hx,-,-⟩:=af hk;obtain ⟨row,q1,q2⟩:=r3 k x hx;obtain ⟨pa,ra,rfl,hpa,hra⟩:=bO.1 q2;obtain ⟨i,r,c,y,i1,i2,i3,i4,i5,i6,i7,i8,i9⟩:=yQ hr hin hx;obtain ⟨cn,rfl⟩:=Int.eq_ofNat_of_zero_le i5;rw[Int.toNat_natCast] at i7;obtain ⟨rr,s1,s2,s3,s4⟩:=yy hra;obtain ⟨z,t1,t2,hz⟩:=s3 i r i3;have hlt:k<rows.length:=by omega
  have hry:=r4 (by omega);have hry2:=s4 (by omega);have hu1:∀g2:G,Fr g1 g2->SlR P 0 g2.h vals u:=λg2 hF2=>hu.far8 λi hi=>by have:=hP i hi;rw[hF2.2 i (Nat.lt_of_lt_of_le this hF.1),hF.2 i this]
  have hB1:B<g1.nx:=Nat.lt_of_lt_of_le hB hF.1;have gB1:g1.h.get B=.cells 2 [[.int .i64 n.grain,b]] 0 false false:=by rw[hF.2 B hB,gB]
  have rz:=λh=>(hz.tree (h':=h) (Nat.le_refl 0)).ints;have u1:k<(vals.map ci).length:=by rw[List.length_map];exact (List.getElem?_eq_some_iff.1 i4).1
  have u2:(vals.map ci)[k]?=some (ci (cn:Int)):=by rw[List.getElem?_map,i4];rfl
  have v1:cn<(r.map ci).length:=by rw[List.length_map];exact (List.getElem?_eq_some_iff.1 i7).1
  have v2:(r.map ci)[cn]?=some (ci y):=by rw[List.getElem?_map,i7];rfl
  have wb:=nZ hr hin (j:=k+1) (by omega);have ws:=uh n vals k;rw[i8] at ws;have w1:IntKind.wrap .i64 (S.af ((List.range k).map (S.aH n vals))*y)=S.af ((List.range (k+1)).map (S.aH n vals)):=by rw[<-ws,ax (by omega) (by omega)]
  refine eF (P:=λt' df g'=>df=[]/\g'=(g1.new (.cells 3 [[.int .i64 0,.nils,.nils]] 0 false false)).put g1.nx (.cells 3 [[.int .i64 x.card,pa,ra]] 0 false false)/\St t' ((9,.hptr g1.nx 0 0 0)::(8,.int .i64 (k:Int))::(23,.int .i64 (k:Int))::(22,.int .i64 (n.nodes.length:Int))::(7,.int .i64 (S.af ((List.range k).map (S.aH n vals))))::(6,u)::(21,b)::LWt B)) ?_ ?_
  ·have fw:d8 [.int .i64 0,.nils,.nils] [((0,3),.agg [.int .i64 x.card,pa,ra])]=some [.int .i64 x.card,pa,ra]:=rfl;simp only[sz,simprocAttr,h23,h21,r1,hlt,q1,hry];simp[St,LWt,sx,h1,h4,h6,h7,h21,h22,h23]
  clear h1 h4 h6 h7 h21 h22 h23;rintro t df g2 ⟨rfl,hg2,h9,h8,h23,h22,h7,h6,h21,h1,h4,-⟩;have hF2:Fr g1 g2:=by rw[hg2];exact ⟨by simp,λi hi=>by simp[H.get_put,show ¬i=g1.nx by omega]⟩
  have hU2:Up g.nx g1 g2:=by rw[hg2];exact (Up.new hF.1 _).trans (Up.put hF.1 _)
  have g9:g2.h.get g1.nx=.cells 3 [[.int .i64 x.card,pa,ra]] 0 false false:=by rw[hg2];simp[H.get_put]
  have gB2:g2.h.get B=.cells 2 [[.int .i64 n.grain,b]] 0 false false:=by rw[hF2.2 B hB1,gB1]
  have kr:=Lw (d:=d) (i:=k) (g:=aI g2 []) (P2:=P) (k2:=0) (v:=b) (w:=u) (x:=x) (vals:=vals) hd hN hr hx (by simpa using hu1 g2 hF2) hin;rw[i1] at kr;have ru:=(hu1 g2 hF2).ints;simp only[sz,simprocAttr,h7,h9,g9,h1,gB2,h8,h6,kr,s1,t1,t2,hry2,ru,u1,u2,ci,rz,v1,v2,w1];exact ⟨⟨by simp[St,LWt,sx,h1,h4,h6,h21],hF.trans hF2,hU.trans hU2⟩,h23,h22⟩
 ·rintro t df g' ⟨rfl,⟨h7,h6,h21,h1,h4,-⟩,hF,hU⟩;exact fin t g' ⟨h7,h6,h1,h4,trivial⟩ hF hU
theorem E6 {d:Nat}{g:G}{n:Net}{v:AV}{K:AV->G->Prop}{D:ADf->Prop}(hd:0<d)(hr:NR n)(hm:Agg n NoP 0 .nil v)
  (kk:∀g',g'.h.get (g.nx+1)=.cells 1 ((S.ay n (S.an n)).map ci) 0 false false->g.nx+2<=g'.nx->Fr g g'->Up g.nx g g'->K (.hsl (g.nx+1) 0 0 (S.an n) none) g') :
  (am C0 d N.aW [v] g).sat K g D:=by
 obtain ⟨cs,rfl,hc⟩:=hm;obtain ⟨b,rfl,hN⟩:=cz.1 hc;have hl8:=hr.l2;obtain ⟨W1,W2,W3⟩:=hr.wl;have hcs:CsOk (S.aa n):=⟨hr.cs,by rw[aB];omega⟩;have hnc:S.nc (S.aa n)=S.an n:=rfl;obtain ⟨B,hB⟩:∃B,B=g.nx:=⟨_,rfl⟩;have hrow:∀h,SlR NoP 0 h n.nodes b:=λh=>hN.tree (Nat.le_refl 0);have lb:∀g:G,dt .slice b g=.val (.int .i64 (n.nodes.length:Int)):=λg=>(hrow .nil).len g;rw[tZ];refine CT wh (by simp[j4]) ?_;simp only[sz,simprocAttr,j4];unfold mW;refine eF (P:=λt' df g'=>df=[]/\g'=g.new (.cells 2 [[.int .i64 n.grain,b]] 0 false false)/\∃rc,IT 0 (S.aa n) rc/\St t' [(1,.hptr B 0 0 0),(3,rc)]) ?_ ?_
 ·simp only[sz,simprocAttr,<-hB];refine aQ (wH hd (hrow _) (by omega)) λrc hrc=>?_;simp only[sz,simprocAttr];exact ⟨rc,hrc,by simp[St,sx,CQ]⟩
 rintro t df g1 ⟨rfl,hg1,rc,hrc,h1,h3,-⟩;have k1:=Ec (d:=d) (g:=g1) hd (hrc.sl g1.h);rw[oW hr.cs (by rw[aB];omega),<-W3] at k1;have n1:g1.nx=B+1:=by rw[hg1,hB];simp
 have gB:g1.h.get B=.cells 2 [[.int .i64 n.grain,b]] 0 false false:=by rw[hg1,hB];simp[H.get_put]
 have F1:Fr g g1:=by rw[hg1];exact Fr.new _ _
 have U1:Up B g g1:=by rw[hg1];exact Up.new (by omega) _
 clear hg1;refine eF (P:=λt' df g'=>df=[]/\g'.nx=B+3/\g'.h.get B=.cells 2 [[.int .i64 n.grain,b]] 0 false false/\g'.h.get (B+1)=.cells 1 ((List.replicate (S.an n) 0).map ci) 0 false false/\g'.h.get (B+2)=.cells 1 [[.hsl (B+1) 0 0 0 none]] 0 false false/\Fr g g'/\Up B g g'/\St t' [(1,.hptr B 0 0 0),(3,rc),(4,.hptr (B+2) 0 0 0)]) ?_ ?_
 ·simp only[sz,simprocAttr,h3,k1];refine Nz (by omega) λg2 m2 n2 u2=>?_;rw[n1] at m2 n2 u2 ⊢;simp only[sz,simprocAttr,n2];refine ⟨?_,?_,?_,?_,by simp[St,sx,h1,h3]⟩
  ·rw[if_neg (by omega),if_neg (by omega),u2.1 B (by omega),gB]
  ·rw[if_neg (by omega),if_neg (by omega),m2]
  ·exact ⟨by have:=F1.1;simp[n2];omega,λi hi=>by
    have:=F1.2 i hi;simp[H.get_put,show ¬i=B+1+1 by omega,show ¬i=g2.nx by omega,u2.1 i (by omega),this]⟩
  ·exact (U1.trans (u2.mono (by omega))).trans ((Up.new (by omega) _).trans (Up.put (by omega) _))
 clear h1 h3 k1 n1 gB F1 U1;rintro t df g2 ⟨rfl,n2,gB,gA,gS,F2,U2,h1,h3,h4,-⟩;obtain ⟨z,kz,hz⟩:=yw (d:=d) (g:=g2) (w:=rc) (cs:=S.aa n) hd (hrc.sl g2.h);rw[dG,dG];simp only[sz,simprocAttr,h3,kz];refine zW (cs:=S.aa n) (w:=z) hcs hz (by simp[sx]) (by decide) (by decide)
  (λj g'=>g'.h.get B=.cells 2 [[.int .i64 n.grain,b]] 0 false false/\g'.h.get (B+1)=.cells 1 ((S.ay n j).map ci++(List.replicate (S.an n - j) 0).map ci) 0 false false/\g'.h.get (B+2)=.cells 1 [[.hsl (B+1) 0 0 (S.ay n j).length none]] 0 false false/\(∀i,i<B->g'.h.get i=g.h.get i)/\Up B g g')
  (λ_=>False) ?_ (λ_ _ _ h=>h) ?_ ?_ ?_ (λ_ h=>h.elim)
 ·rintro j g3 g4 hU ⟨a1,a2,a3,a4,a5⟩;rw[n2] at hU;exact ⟨by rw[hU.1 _ (by omega),a1],by rw[hU.1 _ (by omega),a2],by rw[hU.1 _ (by omega),a3],λi hi=>by rw[hU.1 i (by omega),a4 i hi],a5.trans (hU.mono (by omega))⟩
 ·exact ⟨gB,by simpa [S.ay] using gA,by simpa [S.ay] using gS,λi hi=>F2.2 i (by omega),U2⟩
 ·rintro j u g3 hj ⟨a1,a2,a3,a4,a5⟩ hn3 hu;rw[n2] at hn3 hu;simp only[sz,simprocAttr,mm];refine ⟨Fr.refl _,λg4 n4 f4 u4=>?_⟩;rw[n2] at f4 u4;have hin:=dq (λc hc=>(hr.cs c hc).1) (j:Int);have b1:g4.h.get B=.cells 2 [[.int .i64 n.grain,b]] 0 false false:=by rw[f4 _ (by omega),a1]
  have b2:g4.h.get (B+1)=.cells 1 ((S.ay n j).map ci++(List.replicate (S.an n - j) 0).map ci) 0 false false:=by rw[f4 _ (by omega),a2]
  have b3:g4.h.get (B+2)=.cells 1 [[.hsl (B+1) 0 0 (S.ay n j).length none]] 0 false false:=by rw[f4 _ (by omega),a3]
  have hu4:SlR (λi=>B+3+2<=i/\i<g3.nx) 0 g4.h (S.ah (S.aa n) (j:Int)) u:=hu.far8 λi hi=>f4 i (by omega);rw[hnc] at hj;simp only[sz,simprocAttr,lH,h1,b1,lb];refine Fj (n:=n) (b:=b) (u:=u) (B:=B) hd hr hN hin hu4 (λi hi=>by omega) (by omega) b1 (by simp[St,LWt,sx,h1,h4]) (by simp[sx]) (by simp[sx]) (by simp[sx]) ?_;rintro t5 g5 ⟨h7,-,h1',h4',-⟩ F5 U5;have c3:g5.h.get (B+2)=.cells 1 [[.hsl (B+1) 0 0 (S.ay n j).length none]] 0 false false:=by rw[F5.2 _ (by omega),b3]
  have c2:g5.h.get (B+1)=.cells 1 ((S.ay n j).map ci++((0:Int)::List.replicate (S.an n - (j+1)) 0).map ci) 0 false false:=by rw[F5.2 _ (by omega),b2,show S.an n - j=(S.an n - (j+1))+1 by omega,List.replicate_succ]
  simp only[sz,simprocAttr,mB,h4',c3,h7];have hl5:B+2<g5.nx:=Nat.lt_of_lt_of_le (by omega) F5.1;refine H6 (x:=S.wt n j) (g:=g5.new (.cells 1 [[.int .i64 (S.wt n j)]] 0 false false)) (l:=S.ay n j) (y:=0) (tl:=List.replicate (S.an n - (j+1)) 0) ?_ ?_ (by rw[GC];omega) ?_
  ·rw[G.new_h,aq _ _ _ (by omega),c2]
  ·simp only[ak,G.new_h,aU,ci];rfl
  rw[<-Kr];have c6:((g5.new (.cells 1 [[.int .i64 (S.wt n j)]] 0 false false)).put (B+1) (.cells 1 ((S.ay n (j+1)).map ci++(List.replicate (S.an n - (j+1)) 0).map ci) 0 false false)).h.get (B+2)=.cells 1 [[.hsl (B+1) 0 0 (S.ay n j).length none]] 0 false false:=by rw[G.put_h,aq _ _ _ (by omega),G.new_h,aq _ _ _ (by omega),c3]
  have d1:Up B g5 ((g5.new (.cells 1 [[.int .i64 (S.wt n j)]] 0 false false)).put (B+1) (.cells 1 ((S.ay n (j+1)).map ci++(List.replicate (S.an n - (j+1)) 0).map ci) 0 false false)):=(Up.new (by omega) _).trans (Up.put (by omega) _);have d2:∀i,B+3<=i->i<g5.nx->((g5.new (.cells 1 [[.int .i64 (S.wt n j)]] 0 false false)).put (B+1) (.cells 1 ((S.ay n (j+1)).map ci++(List.replicate (S.an n - (j+1)) 0).map ci) 0 false false)).h.get i=g5.h.get i:=λi h1 h2=>by rw[G.put_h,aq _ _ _ (by omega),G.new_h,aq _ _ _ (by omega)]
  have d3:((g5.new (.cells 1 [[.int .i64 (S.wt n j)]] 0 false false)).put (B+1) (.cells 1 ((S.ay n (j+1)).map ci++(List.replicate (S.an n - (j+1)) 0).map ci) 0 false false)).nx=g5.nx+1:=by simp
  have d4:((g5.new (.cells 1 [[.int .i64 (S.wt n j)]] 0 false false)).put (B+1) (.cells 1 ((S.ay n (j+1)).map ci++(List.replicate (S.an n - (j+1)) 0).map ci) 0 false false)).h.get (B+1)=.cells 1 ((S.ay n (j+1)).map ci++(List.replicate (S.an n - (j+1)) 0).map ci) 0 false false:=by rw[G.put_h,aU]
  have d5:((g5.new (.cells 1 [[.int .i64 (S.wt n j)]] 0 false false)).put (B+1) (.cells 1 ((S.ay n (j+1)).map ci++(List.replicate (S.an n - (j+1)) 0).map ci) 0 false false)).h.get B=g5.h.get B:=by rw[G.put_h,aq _ _ _ (by omega),G.new_h,aq _ _ _ (by omega)]
  generalize (g5.new (.cells 1 [[.int .i64 (S.wt n j)]] 0 false false)).put (B+1) (.cells 1 ((S.ay n (j+1)).map ci++(List.replicate (S.an n - (j+1)) 0).map ci) 0 false false)=g6 at c6 d1 d2 d3 d4 d5 ⊢;simp only[sz,simprocAttr,h4',c6];have hl4:g4.nx<=g5.nx:=F5.1;refine ⟨by simp[d3];omega,λi h1 h2=>?_,.inl ⟨rfl,?_,?_,λi hi=>?_,?_⟩⟩
  ·rw[n2] at h1;rw[G.put_h,aq _ _ _ (by omega),d2 i h1 (by omega),F5.2 i h2]
  ·rw[if_neg (by omega),d5,F5.2 B (by omega),b1]
  ·rw[if_neg (by omega),d4]
  ·rw[if_neg (by omega),d1.1 i hi,F5.2 i (by omega),f4 i (by omega),a4 i hi]
  ·exact ((a5.trans (u4.mono (by omega))).trans (U5.mono (by omega))).trans (d1.trans (Up.put (by omega) _))
 ·rintro g' ⟨a1,a2,a3,a4,a5⟩ hn hdf;rw[hnc,Nat.sub_self] at a2;rw[hnc,GC] at a3;simp only[sz,simprocAttr,my,h4,a3];refine ox hdf ?_;simp only[sx,↓reduceIte];rw[hB];have e1:∀i,i<B+3->(g'.put g2.nx (.dfr false)).h.get i=g'.h.get i:=λi hi=>by rw[G.put_h,aq _ _ _ (by omega)]
  refine kk _ ?_ (by simp;omega) ⟨by simp;omega,λi hi=>?_⟩ (by rw[<-hB];exact a5.trans (Up.put (by omega) _))
  ·rw[<-hB,e1 _ (by omega),a2];simp
  ·rw[e1 i (by omega),a4 i (by omega)]
theorem D7 {n:Net}{e:List Int}(h:S.aD n e=true):e.length=n.nodes.length/\∀x∈e,-1<=x:=by simp only[S.aD,Bool.and_eq_true,decide_eq_true_eq,List.all_eq_true] at h;refine ⟨h.1,λx hx=>?_⟩;obtain ⟨i,hi,he⟩:=List.mem_iff_getElem.1 hx;have:=(h.2 i (List.mem_range.2 hi)).1;rw[List.getElem?_eq_getElem hi,he] at this;exact this
def S.pe (n:Net)(e:List Int)(w:Nat):Bool:=S.aM (S.ah (S.aa n) (w:Int)) e
theorem sV {n:Net}(h:NR n){p:Nat->Bool}{j:Nat}(hj:j<=1024):0<=S.ap n p j/\S.ap n p j<=171992678400000000:=by have:=qs h p j;omega
theorem OA (g:G)(o o':AObj):Fr g ((g.new o).put g.nx o'):=⟨by simp,λi hi=>by simp[H.get_put,show ¬i=g.nx by omega]⟩
theorem rA {n:Net}{e:List Int}:S.aN n e=0↔S.aE n=true/\S.aD n e=true:=by rw[S.aN];cases S.aE n<;>cases S.aD n e<;>simp
structure GvJ (g0:G) (q:Nat) (s:Int) (h:H):Prop where
 fr:∀i,i<g0.nx->i≠q->h.get i=g0.h.get i
 hq:h.get q=.cells 1 [[.int .i64 s]] 0 false false
structure ND where
 c:Nat->Int
 P:Nat->List Int
 m:Nat->Nat
 R:Nat->Nat->List Int
 o:Nat->Nat
def LN (n:Nat)(D:ND):Ky->Prop:=λk=>k=(0,0)\/∃i q,k=(i+1,q)/\i<n/\q<2+D.o i
theorem LN.z {n:Nat}{D:ND}:LN n D (0,0):=.inl rfl
theorem LN.s {n:Nat}{D:ND}{i q:Nat}(h:i<n)(hq:q<2+D.o i):LN n D (i+1,q):=.inr ⟨i,q,rfl,h,hq⟩
theorem LN.p {n:Nat}{D:ND}{i:Nat}(h:i<n):LN n D (i+1,0):=LN.s h (by omega)
theorem LN.r {n:Nat}{D:ND}{i:Nat}(h:i<n):LN n D (i+1,1):=LN.s h (by omega)
def fO (D:ND)(V:Ky->AV)(i:Nat):List AV:=[.int .i64 (D.c i),V (i+1,0),V (i+1,1)]
def Fy (V:Ky->AV)(i r:Nat):List AV:=[V (i+1,2+r)]
structure BN (K n:Nat) (V:Ky->AV) (E:Ky->En) (D:ND):Prop where
 ns:E (0,0)=.sl 3 ((List.range n).map (fO D V))
 ps:∀i,i<n->E (i+1,0)=.sl 1 ((D.P i).map ci)/\(D.P i).length<=K
 rs:∀i,i<n->E (i+1,1)=.sl 1 ((List.range (D.m i)).map (Fy V i))/\D.m i<=K
 rr:∀i r,i<n->r<D.m i->(D.R i r).length<=K/\((r<D.o i/\E (i+1,2+r)=.sl 1 ((D.R i r).map ci))\/SlR NoP 0 .nil (D.R i r) (V (i+1,2+r)))
def ND.node (D:ND)(i:Nat):Node:=⟨D.c i,D.P i,(List.range (D.m i)).map (D.R i)⟩
theorem tj {g:G}{b:Nat}{v:AV}{l:List Int}{P:Nat->Prop}(h:Own g b v 1 (l.map ci))(hl:l.length<9223372036854775808)(hp:∀i,b<=i->P i):SlR P 0 g.h l v :=
 Own.sl (α:=Int) h hl (All2.of_map (λa=>aV.2 rfl) _) λi hi=>hp i (h.lt hi).1
theorem BN.rows {g:G}{b K n i:Nat}{V:Ky->AV}{E:Ky->En}{D:ND}{L:Ky->Prop}(hB:BN K n V E D)(hH:Hp g b L V E)(hL:∀k,LN n D k->L k)(hK:K<=1000000)(hi:i<n):SlR (λj=>b<=j) 0 g.h ((List.range (D.m i)).map (D.R i)) (V (i+1,1)):=by
 obtain ⟨h1,h2⟩:=hB.rs i hi;have ho:=hH.own (hL _ (LN.r hi)) h1;refine Own.sl (α:=List Int) ho (by simp;omega) (wL λr hr=>?_) λj hj=>(ho.lt hj).1;have hr:=List.mem_range.1 hr;obtain ⟨h4,h3⟩:=hB.rr i r hi hr;rcases h3 with ⟨h5,h3⟩ | h3
 ·exact cY.2 ⟨_,rfl,tj (hH.own (hL _ (LN.s hi (by omega))) h3) (by omega) λ_ h=>h⟩
 ·exact cY.2 ⟨_,rfl,(h3.tree (h':=g.h) (Nat.le_refl 0)).wd λ_ h=>h.elim⟩
theorem Hp.off {κ:Type} [DecidableEq κ]{g:G}{b:Nat}{L:κ->Prop}{V:κ->AV}{E:κ->En}{k:κ}{x:AV}(h:Hp g b L V E)(hk:¬L k):Hp g b L (ups V k x) E:=by have ne:∀j,L j->j≠k:=λj hj e=>hk (by rw[<-e];exact hj);exact ⟨λj hj=>by rw[ae V x (ne j hj)];exact h.ok j hj,λj l hj hl hne id=>by rw[ae V x (ne j hj),ae V x (ne l hl)];exact h.sep j l hj hl hne id,h.nx⟩
theorem BN.pars {g:G}{b K n i:Nat}{V:Ky->AV}{E:Ky->En}{D:ND}{L:Ky->Prop}(hB:BN K n V E D)(hH:Hp g b L V E)(hL:∀k,LN n D k->L k)(hK:K<=1000000)(hi:i<n):SlR (λj=>b<=j) 0 g.h (D.P i) (V (i+1,0)):=by obtain ⟨h1,h2⟩:=hB.ps i hi;exact tj (hH.own (hL _ (LN.p hi)) h1) (by omega) λ_ h=>h
theorem BN.nodes {g:G}{b K n:Nat}{V:Ky->AV}{E:Ky->En}{D:ND}{L:Ky->Prop}(hB:BN K n V E D)(hH:Hp g b L V E)(hL:∀k,LN n D k->L k)(hK:K<=1000000)(hn:n<=1000000):SlR (λj=>b<=j) 0 g.h ((List.range n).map D.node) (V (0,0)):=by have ho:=hH.own (hL _ LN.z) hB.ns;refine Own.sl (α:=Node) ho (by simp;omega) (wL λi hi=>?_) λj hj=>(ho.lt hj).1;have hi:=List.mem_range.1 hi;exact bO.2 ⟨_,_,rfl,hB.pars hH hL hK hi,hB.rows hH hL hK hi⟩
theorem nR {α:Type}(f:Nat->α){n i:Nat}(x:α)(hi:i<n):((List.range n).map f).set i x=(List.range n).map (ups f i x):=by
 refine List.ext_getElem (by simp) λj h1 h2=>?_;rw[List.getElem_set]
 by_cases e:i=j
 ·subst e;simp[au]
 ·rw[if_neg e];simp[ae _ _ (Ne.symm e)]
theorem gc {α:Type}(f:Nat->α){n i:Nat}(hi:i<n):((List.range n).map f)[i]?=some (f i):=by simp[hi]
theorem zC {D D':ND}{V V':Ky->AV}{n i:Nat}{row:List AV}(h0:row=fO D' V' i)(h:∀j,j<n->j≠i->fO D V j=fO D' V' j):(List.range n).map (ups (fO D V) i row)=(List.range n).map (fO D' V'):=by
 refine List.map_congr_left λj hj=>?_;have hj:=List.mem_range.1 hj
 by_cases e:j=i
 ·subst e;rw[au,h0]
 ·rw[ae _ _ e,h j hj e]
def O1 (C:Nat):VS:=λP k h v=>∃l:List Int,l.length=C/\One l P k h v
structure Rw1 (gr:Int) (nv u:AV) (C F j:Nat) (t:T) (g:G):Prop where
 st:St t [(0,.int .i64 gr),(1,.int .i64 (C:Int)),(2,nv),(3,.int .i64 (F:Int)),(9,u)]
 hX:∃(X:List Int) (s:Int),tat t 10=.int .i64 s/\X.length=C/\Own g 0 u 1 (X.map ci)/\(∀x∈X,0<=x/\x<=7)/\(∀(i:Nat) (x:Int),i<j->X[i]?=some x->x<=s)/\0<=s/\s<=7*j
theorem NX {d C F kk:Nat}{gr:Int}{nv u:AV}{l:List UInt8}{Q:QT}{t:T}{g:G}(hC:C<=3)(hF:F<=1000)(hl:SlR NoP kk .nil l nv)(h0:Rw1 gr nv u C F 0 t g)(h11:tat t 11=.int .i64 0)
  (fin:∀t g,Rw1 gr nv u C F C t g->Q (.exit 0) t [] g):wpL (wp C0 d none mb) Q t [] g:=by
 obtain ⟨nr,r1,r2,r3,r4⟩:=hl.all;have r1:∀h',ak h' 1 nv=some nr:=r1;have hll:=hl.1;have ll:=hl.len;simp only[mb,rZ];refine bz C (by omega) (λj t df g=>df=[]/\Rw1 gr nv u C F j t g) ⟨rfl,h0⟩ h11 (by decide) ?_ ?_ ?_ ?_
 ·rintro j t df g v s (rfl | rfl | rfl) ⟨a1,⟨b1,b2,b3,b4,b5,-⟩,X,s',c1,c2⟩<;>exact ⟨a1,by simp[St,sx,b1,b2,b3,b4,b5],X,s',by simp[sx,c1],c2⟩
 ·rintro j t df g hj ⟨rfl,⟨h0,h1,h2,h3,h9,-⟩,X,s,h10,hX⟩ h11;simp only[sz,simprocAttr,h11,h1];exact ⟨by simp[St,sx,h0,h1,h2,h3,h9],X,s,by simp[sx,h10],hX⟩
 ·rintro j t df g hj ⟨rfl,⟨h0,h1,h2,h3,h9,-⟩,X,s,h10,hXl,hX,hXb,hXs,hs0,hs1⟩ h11;refine jJ (P:=λt' df g'=>df=[]/\∃(X':List Int) (x':Int),St t' [(0,.int .i64 gr),(1,.int .i64 (C:Int)),(2,nv),(3,.int .i64 (F:Int)),(9,u),(10,.int .i64 s),(11,.int .i64 (j:Int))]/\X'.length=C/\Own g' 0 u 1 (X'.map ci)/\(∀x∈X',0<=x/\x<=7)/\X'[j]?=some x'/\∀i,i≠j->X'[i]?=X[i]?) ?_ ?_
  ·have hXj:X[j]?=some X[j]:=List.getElem?_eq_getElem (by omega);simp only[sz,simprocAttr,h2,ll];refine ba (λhb=>?_) (λhb=>?_)
   ·have hb:0<l.length:=by simpa using hb
    have w1:IntKind.wrap .i64 ((F:Int)+(j:Int))=((F+j:Nat):Int):=by rw[ax (by omega) (by omega)];simp
    have q1:=yv (x:=F+j) (y:=l.length) hb;have hmod:=Nat.mod_lt (F+j) hb;generalize (F+j) % l.length=a at q1 hmod;obtain ⟨y,hy,-,-⟩:=af (l:=l) (j:=a) hmod;obtain ⟨row,z1,z2⟩:=r3 a y hy;rw[dA.1 z2] at z1;have hlt:a<nr.length:=by omega
    have q2:=iT .u8 (a:=(y.toNat:Int)) (b:=8) (by omega) (by omega);have hm0:0<=(y.toNat:Int) % 8:=Int.emod_nonneg _ (by decide);have hm1:(y.toNat:Int) % 8<8:=Int.emod_lt_of_pos _ (by decide);have w2:IntKind.wrap .i64 ((y.toNat:Int) % 8)=(y.toNat:Int) % 8:=ax (by omega) (by omega);generalize (y.toNat:Int) % 8=z at q2 hm0 hm1 w2;have u1:j<(X.map ci).length:=by simp;omega
    have u2:(X.map ci)[j]?=some (ci X[j]):=by rw[List.getElem?_map,hXj];rfl
    have rX:=hX.rows;simp only[sz,simprocAttr,h2,h3,h9,h11,ll,w1,q1,r1,hlt,z1,q2,w2,rX,u1];refine bS (v:=u) (sz:=1) (n:=1) (i:=j) (off:=0) (x:=.int .i64 z) (row':=ci z) hX u2 rfl rfl rfl λg4 hu4 n4 f4=>?_;rw[<-List.map_set] at hu4;simp only[sx,sy];refine ⟨X.set j z,z,by simp[St,sx,h0,h1,h2,h3,h9,h10,h11],by simp[hXl],hu4,λx hx=>?_,by rw[List.getElem?_set_self (by omega)],λi hi=>by rw[List.getElem?_set_ne (Ne.symm hi)]⟩;rcases List.mem_or_eq_of_mem_set hx with h | rfl
    ·exact hXb x h
    ·omega
   ·simp only[sx,sy];exact ⟨X,X[j],by simp[St,sx,h0,h1,h2,h3,h9,h10,h11],hXl,hX,hXb,hXj,λ_ _=>rfl⟩
  clear h0 h1 h2 h3 h9 h10 h11 hX;rintro t df g ⟨rfl,X',x',⟨h0,h1,h2,h3,h9,h10,h11,-⟩,hXl',hX',hXb',hxj,hXo⟩;have u1:j<(X'.map ci).length:=by simp;omega
  have u2:(X'.map ci)[j]?=some (ci x'):=by rw[List.getElem?_map,hxj];rfl
  have rX:=hX'.rows;have hx':=hXb' x' (List.mem_of_getElem? hxj);have w1:IntKind.wrap .i64 (s+x')=s+x':=ax (by omega) (by omega);simp only[sz,simprocAttr,sD,h10,h9,h11,rX,u1,u2,ci,w1];refine ⟨by simp[St,sx,h0,h1,h2,h3,h9],X',s+x',by simp[sx],hXl',hX',hXb',λi x hi hx=>?_,by omega,by omega⟩
  by_cases e:i=j
  ·subst e;rw[hxj] at hx;injection hx with hx;omega
  ·rw[hXo i e] at hx;have:=hXs i x (by omega) hx;omega
 ·rintro t df g ⟨rfl,h⟩;exact fin t g h
structure Rw2 (gr s:Int) (u:AV) (C j:Nat) (t:T) (g:G):Prop where
 st:St t [(0,.int .i64 gr),(1,.int .i64 (C:Int)),(9,u),(10,.int .i64 s)]
 hX:∃(X:List Int) (left:Int) (la:Nat),tat t 12=.int .i64 left/\tat t 13=.int .i64 (la:Int)/\la<C/\X.length=C/\Own g 0 u 1 (X.map ci)/\∀(i:Nat) (x:Int),j<=i->X[i]?=some x->0<=x/\x<=7/\x<=s
theorem Of {d C:Nat}{gr s:Int}{u:AV}{Q:QT}{t:T}{g:G}(hC:C<=3)(hg:0<=gr/\gr<=60)(h0:Rw2 gr s u C 0 t g)(h14:tat t 14=.int .i64 0)
  (fin:∀t g,Rw2 gr s u C C t g->Q (.exit 2) t [] g):wpL (wp C0 d none mF) Q t [] g:=by
 simp only[mF,rF];refine bz C (by omega) (λj t df g=>df=[]/\Rw2 gr s u C j t g) ⟨rfl,h0⟩ h14 (by decide) ?_ ?_ ?_ ?_
 ·rintro j t df g v s (rfl | rfl | rfl) ⟨a1,⟨b1,b2,b3,b4,-⟩,X,s',la,c1,c2,c3⟩<;>exact ⟨a1,by simp[St,sx,b1,b2,b3,b4],X,s',la,by simp[sx,c1],by simp[sx,c2],c3⟩
 ·rintro j t df g hj ⟨rfl,⟨h0,h1,h9,h10,-⟩,X,left,la,h12,h13,hX⟩ h14;simp only[sz,simprocAttr,h14,h1];exact ⟨by simp[St,sx,h0,h1,h9,h10],X,left,la,by simp[sx,h12],by simp[sx,h13],hX⟩
 ·rintro j t df g hj ⟨rfl,⟨h0,h1,h9,h10,-⟩,X,left,la,h12,h13,hla,hXl,hX,hXb⟩ h14;have hXj:X[j]?=some X[j]:=List.getElem?_eq_getElem (by omega);obtain ⟨b0,b1,b2⟩:=hXb j _ (Nat.le_refl _) hXj;have u1:j<(X.map ci).length:=by simp;omega
  have u2:(X.map ci)[j]?=some (ci X[j]):=by rw[List.getElem?_map,hXj];rfl
  have rX:=hX.rows;refine jJ (P:=λt' df g'=>df=[]/\∃(X':List Int) (la':Nat),St t' [(0,.int .i64 gr),(1,.int .i64 (C:Int)),(9,u),(10,.int .i64 s),(12,.int .i64 left),(13,.int .i64 (la':Int)),(14,.int .i64 (j:Int))]/\la'<C/\X'.length=C/\Own g' 0 u 1 (X'.map ci)/\∀i,i≠j->X'[i]?=X[i]?) ?_ ?_
  ·simp only[sz,simprocAttr,h9,h14,rX,u1,u2,ci];generalize X[j]=x at *;refine ba (λhb=>?_) (λhb=>?_)
   ·have hb:0<x:=by simpa using hb
    have hgx:0<=gr*x:=Int.mul_nonneg hg.1 b0;have hgx2:gr*x<=60*7:=Int.mul_le_mul hg.2 b1 b0 (by decide);have w1:IntKind.wrap .i64 (gr*x)=gr*x:=ax (by omega) (by omega);have q1:=uU (x:=gr*x) (y:=s) hgx (by omega) (by omega);simp only[sz,simprocAttr,h0,h9,h10,h14,rX,u1,u2,ci,w1,q1];refine bS (v:=u) (sz:=1) (n:=1) (i:=j) (off:=0) (x:=.int .i64 (gr*x / s)) (row':=ci (gr*x / s)) hX u2 rfl rfl rfl λg4 hu4 n4 f4=>?_;rw[<-List.map_set] at hu4;simp only[sz,simprocAttr,h14];exact ⟨X.set j (gr*x / s),j,by simp[St,sx,h0,h1,h9,h10,h12,h14],by omega,by simp[hXl],hu4,λi hi=>by rw[List.getElem?_set_ne (Ne.symm hi)]⟩
   ·simp only[sx,sy];exact ⟨X,la,by simp[St,sx,h0,h1,h9,h10,h12,h13,h14],hla,hXl,hX,λ_ _=>rfl⟩
  clear h0 h1 h9 h10 h12 h13 h14 hX rX hla;rintro t df g ⟨rfl,X',la',⟨h0,h1,h9,h10,h12,h13,h14,-⟩,hla,hXl',hX',hXo⟩;have hXj':X'[j]?=some X'[j]:=List.getElem?_eq_getElem (by omega);have u1:j<(X'.map ci).length:=by simp;omega
  have u2:(X'.map ci)[j]?=some (ci X'[j]):=by rw[List.getElem?_map,hXj'];rfl
  have rX:=hX'.rows;simp only[sz,simprocAttr,rG,h12,h9,h14,rX,u1,u2,ci];refine ⟨by simp[St,sx,h0,h1,h9,h10],X',_,la',by simp[sx];rfl,by simp[sx,h13],hla,hXl',hX',λi x hi hx=>?_⟩;rw[hXo i (by omega)] at hx;exact hXb i x (by omega) hx
 ·rintro t df g ⟨rfl,h⟩;exact fin t g h
theorem NJ {d C F kk:Nat}{g:G}{nv:AV}{gr:Int}{l:List UInt8}(hd:0<d)(hC:1<=C/\C<=3)(hF:F<=1000)(hg:0<=gr/\gr<=60)(hl:SlR NoP kk .nil l nv) :
  ∃r,am C0 d N.ap [.int .i64 gr,.int .i64 (C:Int),nv,.int .i64 (F:Int)] g=.val r/\O1 C NoP 0 .nil r:=by
 rw[zw];refine aO C8 (xs:=[.int .i64 gr,.int .i64 (C:Int),nv,.int .i64 (F:Int)]) (by simp only[aE,jE d (hl.tree (h':=g.h) (Nat.le_refl _)),dh 0]) (by simp[rx]) (nq λo=>aJ _) (by decide) hd ?_;simp only[sz,simprocAttr,rx];refine qg (b:=0) (n:=C) (by unfold aM;omega) (by unfold aM;omega) (Nat.zero_le _) λu g1 hu n1 f1 vu=>?_;simp only[sz,simprocAttr];refine NX (gr:=gr) (nv:=nv) (u:=u) (C:=C) (F:=F) hC.2 hF hl ⟨by simp[St,sx],List.replicate C 0,0,by simp[sx],by simp,by simpa [ci] using hu,λx hx=>by rw[(List.mem_replicate.1 hx).2];decide,λi x hi=>by omega,by omega,by omega⟩ (by simp[sx]) ?_;rintro t g2 ⟨⟨h0,h1,h2,h3,h9,-⟩,X,s,h10,hXl,hX,hXb,hXs,hs0,hs1⟩;simp only[sz,simprocAttr,rH,h0];refine Of (gr:=gr) (s:=s) (u:=u) (C:=C) hC.2 hg ⟨by simp[St,sx,h0,h1,h9,h10],X,gr,0,by simp[sx],by simp[sx],by omega,hXl,hX,λi x hi hx=>?_⟩ (by simp[sx]) ?_
 ·have h1:=(List.getElem?_eq_some_iff.1 hx).1;have h2:=hXb x (List.mem_of_getElem? hx);exact ⟨h2.1,h2.2,hXs i x (by omega) hx⟩
 clear h0 h1 h2 h3 h9 h10 hX hXl hXb hXs;rintro t g3 ⟨⟨h0,h1,h9,h10,-⟩,X,left,la,h12,h13,hla,hXl,hX,-⟩;have hXj':X[la]?=some X[la]:=List.getElem?_eq_getElem (by omega);have u1:la<(X.map ci).length:=by simp;omega
 have u2:(X.map ci)[la]?=some (ci X[la]):=by rw[List.getElem?_map,hXj'];rfl
 have rX:=hX.rows;simp only[sz,simprocAttr,sB,h9,h13,h12,rX,u1,u2,ci];refine bS (v:=u) (sz:=1) (n:=1) (i:=la) (off:=0) (x:=.int .i64 (IntKind.wrap .i64 (X[la]+left))) (row':=ci (IntKind.wrap .i64 (X[la]+left))) hX u2 rfl rfl rfl λg4 hu4 n4 f4=>?_;rw[<-List.map_set] at hu4;simp only[sz,simprocAttr,h9];exact ⟨λ_=>True,_,by simp[hXl],hu4.ints (by simp;omega)⟩
theorem Ad (os:List UInt8):∀k,(S.aC os k).Perm ((List.range k).map λi:Nat=>(i:Int))
 | 0=>.refl _
 | k+1=>by rw[List.range_succ,List.map_append,S.aC];refine List.perm_middle.trans ?_;rw[List.take_append_drop];exact ((Ad os k).cons _).trans (List.perm_append_comm (l₁:=[(k:Int)]))
structure Num (n:Nat) (pl:List Int) (num:Nat->Nat):Prop where
 len:pl.length=n
 at_:∀k,k<n->pl[k]?=some (num k:Int)
 lt:∀k,k<n->num k<n
 inj:∀i j,i<n->j<n->num i=num j->i=j
 sur:∀u,u<n->∃k,k<n/\num k=u
theorem Nx (os:List UInt8)(n:Nat):∃num,Num n (S.aC os n) num:=by
 have hp:=Ad os n;have hl:=o_ os n;have hmem:∀x∈S.aC os n,∃i:Nat,i<n/\x=(i:Int):=λx hx=>by have:=hp.mem_iff.1 hx;obtain ⟨i,hi,rfl⟩:=List.mem_map.1 this;exact ⟨i,List.mem_range.1 hi,rfl⟩
 have hnd:(S.aC os n).Nodup:=by rw[hp.nodup_iff];refine List.Pairwise.map _ ?_ (List.nodup_range (n:=n));intro a b h e;exact h (by omega)
 have hat:∀k,k<n->(S.aC os n)[k]?=some (((S.aC os n)[k]?.getD 0).toNat:Int)/\((S.aC os n)[k]?.getD 0).toNat<n:=λk hk=>by
  have hk':k<(S.aC os n).length:=by omega
  have e:=List.getElem?_eq_getElem hk';obtain ⟨i,hi,h⟩:=hmem _ (List.getElem_mem hk');rw[e,Option.getD_some,h];simp[hi]
 refine ⟨λk=>((S.aC os n)[k]?.getD 0).toNat,hl,λk hk=>(hat k hk).1,λk hk=>(hat k hk).2,λi j hi hj h=>?_,λu hu=>?_⟩
 ·have h1:=(hat i hi).1;have h2:=(hat j hj).1;refine (List.getElem?_inj (by omega) hnd).1 ?_;rw[h1,h2];exact congrArg (λx:Nat=>some (x:Int)) h
 ·have:(u:Int)∈S.aC os n:=hp.mem_iff.2 (List.mem_map.2 ⟨u,List.mem_range.2 hu,rfl⟩);obtain ⟨k,hk,he⟩:=List.mem_iff_getElem.1 this;refine ⟨k,by omega,?_⟩;rw[List.getElem?_eq_getElem hk,he];rfl
theorem Mx (m n:Nat):∃z:Int,cL .shl (.int .i64 (m:Int)) (.int .u64 (n:Int))=.val (.int .i64 z):=⟨_,rfl⟩
def LNX (X:Ky->Prop)(n:Nat)(D:ND):Ky->Prop:=λk=>LN n D k\/X k
def X1:Ky->Prop:=λk=>k=(0,1)
def X2:Ky->Prop:=λk=>k=(0,1)\/k=(0,2)
structure DN (X:Ky->Prop) (r0:List AV) (n q K:Nat) (gr:Int) (V:Ky->AV) (E:Ky->En) (D:ND) (g:G):Prop where
 hp:Hp g 2 (LNX X n D) V E
 bn:BN K n V E D
 vb:V (0,1)=.hptr q 0 0 0
 bx:E (0,1)=.bx [.int .i64 gr,V (0,0)]
 h0:g.h.get 0=.cells 3 [r0] 0 false false
 h1:g.h.get 1=.cells 2 [[.int .i64 0,.nils]] 0 false false
theorem DN.q {X:Ky->Prop}{r0:List AV}{n q K:Nat}{gr:Int}{V:Ky->AV}{E:Ky->En}{D:ND}{g:G}(h:DN X r0 n q K gr V E D g)(hX:X (0,1)):g.h.get q=.cells 2 [[.int .i64 gr,V (0,0)]] 0 false false/\2<=q/\q<g.nx:=by obtain ⟨id,h1,h2,h3,h4⟩:=h.hp.box (k:=(0,1)) (.inr hX) h.bx;rw[h.vb] at h3;injection h3 with h3;subst h3;exact ⟨h4,h1,h2⟩
theorem DN.ns {X:Ky->Prop}{r0:List AV}{n q K:Nat}{gr:Int}{V:Ky->AV}{E:Ky->En}{D:ND}{g:G}(h:DN X r0 n q K gr V E D g):Own g 2 (V (0,0)) 3 ((List.range n).map (fO D V)):=h.hp.own (.inl LN.z) h.bn.ns
theorem DN.same {X:Ky->Prop}{r0:List AV}{n q K:Nat}{gr:Int}{V:Ky->AV}{E:Ky->En}{D:ND}{g g':G}(h:DN X r0 n q K gr V E D g)(hf:Fr g g'):DN X r0 n q K gr V E D g':=by have:=h.hp.nx;exact ⟨h.hp.step hf.1 λi _ hi=>hf.2 i hi,h.bn,h.vb,h.bx,by rw[hf.2 0 (by omega),h.h0],by rw[hf.2 1 (by omega),h.h1]⟩
theorem eV {g:G}{b:Nat}{v:AV}{sz:Nat}{rows:List (List AV)}(h:Own g b v sz rows)(hr:0<rows.length):mD v=true:=by
 rcases h with ⟨rfl,rfl⟩ | ⟨id,ep,lo,-,-,rfl,-⟩
 ·simp at hr
 ·rfl
theorem DN.card {X:Ky->Prop}{r0:List AV}{n q K i:Nat}{gr c:Int}{V:Ky->AV}{E:Ky->En}{D:ND}{g:G}{KK:AV->G->Prop}{DD:ADf->Prop}(h:DN X r0 n q K gr V E D g)(hi:i<n)(hX:∀k,X k->k≠(0,0))
  (kk:∀g' E',DN X r0 n q K gr V E' { D with c:=ups D.c i c } g'->g'.nx=g.nx->KK .undef g'):(lI 1 (iH 3 (V (0,0)) i 0) (.int .i64 c) g).sat KK g DD:=by
 refine h.hp.put (k:=(0,0)) (row:=fO D V i) (row':=[.int .i64 c,V (i+1,0),V (i+1,1)]) (.inl LN.z) h.bn.ns (gc _ hi) rfl rfl rfl λg' hH hn hf1 hf2=>?_;refine kk g' _ ⟨hH.sub λk hk=>hk,⟨?_,λj hj=>?_,λj hj=>?_,λj r hj hr=>?_⟩,h.vb,?_,by rw[hf1 0 (by omega),h.h0],by rw[hf1 1 (by omega),h.h1]⟩ hn
 ·rw[au,nR _ _ hi];congr 1;refine zC (by simp[fO,au]) λj hj hne=>by simp[fO,ae _ _ hne]
 ·rw[ae _ _ (by simp)];exact h.bn.ps j hj
 ·rw[ae _ _ (by simp)];exact h.bn.rs j hj
 ·rw[ae _ _ (by simp)];exact h.bn.rr j r hj hr
 ·rw[ae _ _ (by simp)];exact h.bx
structure DAok (D:ND) (n i:Nat) (num:Nat->Nat):Prop where
 e:∀v,v<n->D.P v=[]/\D.m v=0
 c:∀k,k<i->D.c (num k)=2\/D.c (num k)=3
 o:∀u,D.o u=0
def LDA (n q:Nat)(r5:AV):List (Nat×AV):=[(1,.hptr 0 0 0 0),(2,.hptr 1 0 0 0),(3,.int .i64 (n:Int)),(4,.hptr q 0 0 0),(5,r5)]
structure DA (r0:List AV) (n q:Nat) (gr:Int) (r5:AV) (num:Nat->Nat) (i:Nat) (t:T) (g:G):Prop where
 st:St t (LDA n q r5)
 w:∃w:Nat,tat t 6=.int .i64 (w:Int)/\w<=3 ^ i
 hd:∃V E D,DN X1 r0 n q 1000 gr V E D g/\DAok D n i num
theorem OV {i:Nat}(h:i<=5):3 ^ i<=243:=by
 have:i=0\/i=1\/i=2\/i=3\/i=4\/i=5:=by omega
 rcases this with rfl | rfl | rfl | rfl | rfl | rfl<;>decide
theorem NM {d n q kk:Nat}{x:uG}{gr:Int}{a b r5:AV}{pl:List Int}{num:Nat->Nat}{Q:QT}{t:T}{g:G}(hn:1<=n/\n<=5)(ha:SlR NoP kk .nil x.2.1 a)(h5:IT 0 pl r5)(hN:Num n pl num)
  (h0:DA [u8v x.1,a,b] n q gr r5 num 0 t g) (h7:tat t 7=.int .i64 0)
  (fin:∀t g,DA [u8v x.1,a,b] n q gr r5 num n t g->Q (.exit 0) t [] g):wpL (wp C0 d none eQ) Q t [] g:=by
 obtain ⟨pr,r1,r2,r3,r4⟩:=ha.all;have r1:∀h',ak h' 3 a=some pr:=r1;have la:=ha.len;have hal:=ha.1;have r5i:∀h,ak h 1 r5=some (pl.map ci):=λh=>(h5.sl h).ints;simp only[eQ,jW];refine bz n (by omega) (λj t df g=>df=[]/\DA [u8v x.1,a,b] n q gr r5 num j t g) ⟨rfl,h0⟩ h7 (by decide) ?_ ?_ ?_ ?_
 ·rintro j t df g v s (rfl | rfl | rfl) ⟨a1,⟨b1,b2,b3,b4,b5,-⟩,⟨w,c1,c2⟩,c3⟩<;>exact ⟨a1,by simp[St,LDA,sx,b1,b2,b3,b4,b5],⟨w,by simp[sx,c1],c2⟩,c3⟩
 ·rintro j t df g hj ⟨rfl,⟨h1,h2,h3,h4,h5,-⟩,⟨w,h6,hw⟩,hD⟩ h7;simp only[sz,simprocAttr,h7,h3];exact ⟨by simp[St,LDA,sx,h1,h2,h3,h4,h5],⟨w,by simp[sx,h6],hw⟩,hD⟩
 ·rintro j t df g hj ⟨rfl,⟨h1,h2,h3,h4,h5,-⟩,⟨w,h6,hw⟩,V,E,D,hD,hok⟩ h7;obtain ⟨p8,hp8⟩:∃p8,p8=g.nx:=⟨_,rfl⟩;have hnx:=hD.hp.nx;refine jJ (P:=λt' df g'=>df=[]/\g'=g.new (.cells 3 [[.int .u8 0,.int .u8 0,.nils]] 0 false false)/\St t' ((6,.int .i64 (w:Int))::(7,.int .i64 (j:Int))::(8,.hptr p8 0 0 0)::LDA n q r5)) ?_ ?_
  ·simp only[sz,simprocAttr];simp[St,LDA,sx,h1,h2,h3,h4,h5,h6,h7,hp8]
  clear h1 h2 h3 h4 h5 h6 h7;rintro t df g1 ⟨rfl,hg1,⟨h6,h7,h8,h1,h2,h3,h4,h5,-⟩⟩;have f1:Fr g g1:=by rw[hg1];exact Fr.new _ _
  have k8:g1.h.get p8=.cells 3 [[.int .u8 0,.int .u8 0,.nils]] 0 false false:=by rw[hg1,hp8];simp[H.get_put]
  have n1:p8<g1.nx:=by rw[hg1,hp8];simp
  clear hg1;have hD1:=hD.same f1;have e0:=hD1.h0;refine jJ (P:=λt' df g'=>df=[]/\Fr g g'/\St t' ((6,.int .i64 (w:Int))::(7,.int .i64 (j:Int))::(8,.hptr p8 0 0 0)::LDA n q r5)/\p8<g'.nx/\∃(y:UInt8) (z1 z2:AV),g'.h.get p8=.cells 3 [[u8v y,z1,z2]] 0 false false) ?_ ?_
  ·simp only[sz,simprocAttr,h7,h1,e0,la];refine ba (λhb=>?_) (λhb=>?_)
   ·have hb:j<x.2.1.length:=by simpa using hb
    obtain ⟨y,hy,-,-⟩:=af hb;obtain ⟨row,q1,q2⟩:=r3 j y hy;obtain ⟨wv,rfl,hwv⟩:=BC.1 q2;have hlt:j<pr.length:=by omega
    have hry:=r4 (by omega);simp only[sz,simprocAttr,h7,h1,e0,r1,hlt,q1,h8,k8];refine ⟨?_,by simp[St,LDA,sx,h1,h2,h3,h4,h5,h6,h7,h8],by simpa using n1,y.1,u8v y.2.1,wv,by simp[H.get_put]⟩;exact ⟨Nat.le_trans f1.1 (by simp),λi hi=>by simp[H.get_put,show ¬i=p8 by omega];exact f1.2 i hi⟩
   ·simp only[sx,sy];exact ⟨f1,by simp[St,LDA,sx,h1,h2,h3,h4,h5,h6,h7,h8],n1,0,.int .u8 0,.nils,k8⟩
  clear h1 h2 h3 h4 h5 h6 h7 h8 e0 hD1 k8 n1 f1;rintro t df g2 ⟨rfl,f2,⟨h6,h7,h8,h1,h2,h3,h4,h5,-⟩,n2,y,z1,z2,k8⟩;have hD2:=hD.same f2;have q2:=iT .u8 (a:=(y.toNat:Int)) (b:=2) (by omega) (by omega);obtain ⟨m,hm⟩:∃m:Nat,(y.toNat:Int) % 2=(m:Int):=Int.eq_ofNat_of_zero_le (Int.emod_nonneg _ (by decide));have hm2:m<2:=by have:=Int.emod_lt_of_pos (y.toNat:Int) (show (0:Int)<2 by decide);omega
  rw[hm] at q2;have w2:IntKind.wrap .i64 (m:Int)=(m:Int):=ax (by omega) (by omega);have w3:IntKind.wrap .i64 (2+(m:Int))=((2+m:Nat):Int):=by rw[ax (by omega) (by omega)];rfl
  have hp3:=OV (i:=j) (by omega);have hwc:w*(2+m)<=243*3:=Nat.mul_le_mul (by omega) (by omega);have w4:IntKind.wrap .i64 ((w:Int)*((2+m:Nat):Int))=((w*(2+m):Nat):Int):=by rw[<-Int.natCast_mul,ax (by omega) (by omega)]
  have w5:IntKind.wrap .i64 ((n:Int) - 1)=((n - 1:Nat):Int):=by rw[ax (by omega) (by omega)];omega
  have w6:IntKind.wrap .i64 (((n - 1:Nat):Int) - (j:Int))=((n - 1 - j:Nat):Int):=by rw[ax (by omega) (by omega)];omega
  have w7:IntKind.wrap .u64 ((n - 1 - j:Nat):Int)=((n - 1 - j:Nat):Int):=td (by omega) (by omega);obtain ⟨z,hz⟩:=Mx (w*(2+m)) (n - 1 - j);refine jJ (P:=λt' df g'=>df=[]/\g'=g2/\St t' ((6,.int .i64 (w:Int))::(7,.int .i64 (j:Int))::(9,.int .i64 ((2+m:Nat):Int))::LDA n q r5)) ?_ ?_
  ·simp only[sz,simprocAttr,h8,k8,u8v,q2,w2,w3];simp[St,LDA,sx,h1,h2,h3,h4,h5,h6,h7]
  clear h1 h2 h3 h4 h5 h6 h7 h8;rintro t df g3 ⟨rfl,rfl,⟨h6,h7,h9,h1,h2,h3,h4,h5,-⟩⟩;refine jJ (P:=λt' df g'=>df=[]/\g'=g3/\∃C:Nat,(C=2\/C=3)/\St t' ((6,.int .i64 (w:Int))::(7,.int .i64 (j:Int))::(9,.int .i64 (C:Int))::LDA n q r5)) ?_ ?_
  ·simp only[sz,simprocAttr,h6,h7,h9,h3,w4,w5,w6,w7,hz];refine ba (λhb=>?_) (λhb=>?_)
   ·simp only[sz,simprocAttr];refine ⟨2,.inl rfl,?_⟩;simp[St,LDA,sx,h1,h2,h3,h4,h5,h6,h7]
   ·simp only[sx,sy];refine ⟨2+m,by omega,?_⟩;simp[St,LDA,sx,h1,h2,h3,h4,h5,h6,h7,h9]
  clear h1 h2 h3 h4 h5 h6 h7 h9 hwc w4 hz w3;rintro t df g4 ⟨rfl,rfl,C,hC,⟨h6,h7,h9,h1,h2,h3,h4,h5,-⟩⟩;have hwc:w*C<=3 ^ j*3:=Nat.mul_le_mul hw (by omega);have hwc2:w*C<=243*3:=Nat.mul_le_mul (by omega) (by omega);have w4:IntKind.wrap .i64 ((w:Int)*(C:Int))=((w*C:Nat):Int):=by rw[<-Int.natCast_mul,ax (by omega) (by omega)]
  refine jJ (P:=λt' df g'=>df=[]/\g'=g4/\St t' ((6,.int .i64 ((w*C:Nat):Int))::(7,.int .i64 (j:Int))::(9,.int .i64 (C:Int))::LDA n q r5)) ?_ ?_
  ·simp only[sz,simprocAttr,h6,h9,w4];simp[St,LDA,sx,h1,h2,h3,h4,h5,h7,h9]
  clear h1 h2 h3 h4 h5 h6 h7 h9;rintro t df g5 ⟨rfl,rfl,⟨h6,h7,h9,h1,h2,h3,h4,h5,-⟩⟩;obtain ⟨kq,q2a,q2b⟩:=hD2.q rfl;have rns:=hD2.ns.rows;have hry:=eV hD2.ns (by simp;omega);have hnj:=hN.lt j hj;have u1:j<(pl.map ci).length:=by rw[List.length_map,hN.len];exact hj
  have u2:(pl.map ci)[j]?=some (ci (num j:Int)):=by rw[List.getElem?_map,hN.at_ j hj];rfl
  have u3:num j<((List.range n).map (fO D V)).length:=by simpa using hnj
  have u4:=gc (fO D V) hnj;simp only[sz,simprocAttr,sf,h4,kq,h5,h7,h9,r5i,u1,u2,rns,u3,hry,ci];refine (hD2.same (g':=_) ⟨?_,?_⟩).card (i:=num j) (c:=(C:Int)) hnj (λk hk=>by rw[hk];simp) λg6 E' hD6 n6=>?_
  ·simp;omega
  ·intro i hi;simp
  simp only[sx,sy,↓reduceIte,Nat.reduceEqDiff];refine ⟨?_,⟨by simp[St,LDA,sx,h1,h2,h3,h4,h5],⟨w*C,by simp[sx,h6],by rw[Nat.pow_succ];exact hwc⟩,V,E',_,hD6.same ⟨by simp,λi _=>by simp⟩,hok.e,λk hk=>?_,hok.o⟩,by simp[h7]⟩
  ·simp only[List.reverse_cons,List.reverse_nil,List.nil_append,List.cons_append];exact aK [false,false,false,false,false,false,false,false,false,true] [] (by simp[All2,ap,aC]) (by decide) (by simp)
  ·by_cases e:num k=num j
   ·simp[e,au];omega
   ·show ups D.c (num j) (C:Int) (num k)=2\/ups D.c (num j) (C:Int) (num k)=3;rw[ae _ _ e];refine hok.c k ?_;have:k≠j:=λh=>e (by rw[h]);omega
 ·rintro t df g ⟨rfl,h⟩;exact fin t g h
end
end Hx
end
