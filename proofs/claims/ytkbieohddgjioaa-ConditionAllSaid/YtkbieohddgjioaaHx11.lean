/- A part of the proof: an interpreter over abstract values, shown right against the model, and what the functions of the chapter compute on it. -/
import Derived.Test.YtkbieohddgjioaaHx10
set_option linter.unusedVariables false
set_option linter.unusedSimpArgs false
set_option linter.unnecessarySimpa false
section
namespace Hx
open Go
noncomputable section
section
variable {d:Nat}{n:Net}{b cv sv:AV}{q:Nat}{rows:List (List AV)}
structure Rd4 (n:Net) (b cv sv:AV) (q j:Nat) (t:T) (g:G):Prop where
 st:St t ((80,b)::LRd q)
 hp:RdH n b cv sv q (S.ac n) ((S.aD n).take j++List.replicate (n.nodes.length - j) 0) g
 ok:∀x∈n.nodes.take j,S.bJ x.parents n.nodes.length=true/\S.br n.grain (S.ac n) x=true
theorem Ms (n:Net)(j m:Nat)(hm:m<18446744073709551616):∀y∈S.aW n j m,y<18446744073709551616:=λy hy=>by
 simp only[S.aW,List.mem_append,List.mem_cons] at hy;rcases hy with hy | rfl | hy
 ·obtain ⟨x,-,rfl⟩:=List.mem_map.1 (List.mem_of_mem_take hy);exact vB _
 ·exact hm
 ·rw[(List.mem_replicate.1 hy).2];decide
theorem Own.natsV {g:G}{b:Nat}{v:AV}{l:List Nat}(h:Own g b v 1 (l.map cu))(hl:l.length<9223372036854775808)(hb:∀y∈l,y<18446744073709551616):SlR (λi=>vid v=some i) 0 g.h l v :=
 Own.sl (α:=Nat) h hl (by
  have:∀l:List Nat,(∀y∈l,y<18446744073709551616)->All2 (Rp.rp (α:=Nat) (λi=>vid v=some i) 0 g.h) l (l.map cu):=λl=>by
   induction l with
   | nil=>intro _;trivial
   | cons y l ih=>intro h;exact ⟨DX.2 ⟨rfl,h y (by simp)⟩,ih λz hz=>h z (by simp[hz])⟩
  exact this l hb) λ_ h=>h
theorem Own.nats' {g:G}{b:Nat}{v:AV}{l:List Nat}(h:Own g b v 1 (l.map cu))(hl:l.length<9223372036854775808)(hb:∀y∈l,y<18446744073709551616):SlR (λ_=>True) 0 g.h l v :=
 (h.natsV hl hb).wd λ_ _=>⟨trivial,rfl⟩
theorem Own.intsV {g:G}{b:Nat}{v:AV}{l:List Int}(h:Own g b v 1 (l.map ci))(hl:l.length<9223372036854775808):SlR (λi=>vid v=some i) 0 g.h l v :=
 Own.sl (α:=Int) h hl (All2.of_map (λa=>bc.2 rfl) _) λ_ h=>h
theorem Ln {n:Net}(h:NR n){x:Node}(hx:x∈n.nodes):S.br n.grain (S.ac n) x=true:=by simp only[S.br,S.bf,Bool.and_eq_true,decide_eq_true_eq,List.all_eq_true];exact ⟨h.rows x hx,λr hr=>⟨⟨(h.row x hx r hr).1,(h.row x hx r hr).2.1⟩,(h.row x hx r hr).2.2⟩⟩
theorem L1 {Q:QT}{t:T}{g:G}(hd:0<d)(hl:n.nodes.length<=8)(hg1:1<=n.grain/\n.grain<=60)(hcard:∀c∈S.ac n,1<=c/\c<=4)(hN:SlR NoP 0 .nil n.nodes b)(r1:∀h,ah h 3 b=some rows)(r2:rows.length=n.nodes.length)
  (r3:∀(i:Nat) (x:Node),n.nodes[i]?=some x->∃pa ra,rows[i]?=some [.int .i64 x.card,pa,ra]/\i<rows.length/\SlR NoP 0 .nil x.parents pa/\SlR NoP 0 .nil x.rows ra) (r4:0<n.nodes.length->yz b=true)
  (h0:Rd4 n b cv sv q 0 t g) (h82:tat t 82=.int .i64 0) (h81:tat t 81=.int .i64 (n.nodes.length:Int))
  (bad:∀t g,¬NR n->g.h.get 1=.cells 5 [[.int .i64 0,.nils,.nils,.nils,.nils]] 0 false false->tat t 2=.hptr 1 0 0 0->tat t 3=.int .i64 50->Q .ret t [] g)
  (fin:∀t g,Rd4 n b cv sv q n.nodes.length t g->Q (.exit 2) t [] g):wpL (wp C0 d none mr) Q t [] g:=by
 simp only[mr,qX];refine bk (m:=n.nodes.length) (by omega) (λj t df g=>df=[]/\Rd4 n b cv sv q j t g) ⟨rfl,h0⟩ h82 h81 (by decide)
  (by rintro j t df g v s (rfl | rfl | rfl) ⟨a1,⟨b1,b2,b3,b4,-⟩,c1,c2⟩<;>exact ⟨a1,by simp[St,LRd,sx,b1,b2,b3,b4],c1,c2⟩) ?_ ?_
 ·rintro j t df g hj ⟨rfl,⟨⟨h80,h1,h2,h4,-⟩,hp,hok⟩⟩ h82 h81;obtain ⟨x,hx,htk,hxm⟩:=ak hj;obtain ⟨pa,ra,q1,hlt,hpa,hra⟩:=r3 j x hx;have hry:=r4 (by omega);have q2:=hp.q2;have qn:=hp.qn;have hpsl:(S.aD n).length=n.nodes.length:=by simp[S.aD]
  have hpj:(S.aD n)[j]?=some (S.aE x.parents):=by simp[S.aD,hx]
  obtain ⟨g2,hg2⟩:∃g2,g2=(g.new (.cells 3 [[.int .i64 0,.nils,.nils]] 0 false false)).put g.nx (.cells 3 [[.int .i64 x.card,pa,ra]] 0 false false):=⟨_,rfl⟩;have f2:Fr g g2:=by rw[hg2];exact MC (by simp) λi hi=>by simp[H.get_put,show ¬i=g.nx by omega]
  have n2:g.nx<g2.nx:=by rw[hg2];simp
  have hp3:=hp.fr f2;have f9:g2.h.get g.nx=.cells 3 [[.int .i64 x.card,pa,ra]] 0 false false:=by rw[hg2];simp[H.get_put]
  have eY:(S.aD n).take j++List.replicate (n.nodes.length - j) 0=S.aW n j (S.aE (x.parents.take 0)):=by rw[S.aW,show n.nodes.length - j=(n.nodes.length - (j+1))+1 by omega,List.replicate_succ];rfl
  have eY2:S.aW n j (S.aE x.parents)=(S.aD n).take (j+1)++List.replicate (n.nodes.length - (j+1)) 0:=by rw[S.aW,List.take_add_one,hpj,List.append_assoc];rfl
  rw[eY] at hp3;refine be (P:=λt' df g'=>df=[]/\g'=g2/\St t' ((80,b)::(81,.int .i64 (n.nodes.length:Int))::(82,.int .i64 (j:Int))::(8,.int .i64 (j:Int))::(9,.hptr g.nx 0 0 0)::LRd q)) ?_ ?_
  ·simp only[sz,simprocAttr,h80,h82,r1,hlt,q1];rw[hg2];simp[St,LRd,sx,h1,h2,h4,h80,h81,h82]
  clear h1 h2 h4 h80 h81 h82;rintro t df g3 ⟨rfl,rfl,⟨h80,h81,h82,h8,h9,h1,h2,h4,-⟩⟩;have pl:=λg=>hpa.len g;simp only[sz,simprocAttr,h9,f9,pl];refine L0 (j:=j) (p9:=g.nx) (x:=x) (pa:=pa) (b:=b) (cv:=cv) (sv:=sv) (q:=q) hl hN hx hpa ⟨by simp[St,LRd,sx,iJ,h1,h2,h4,h8,h9,h80,h81,h82],hp3,⟨λi p hi=>by omega,λi p r hi=>by omega⟩⟩ (by simp[sx]) (by simp[sx]) f9 (λe=>by have:=(hp.hs.lt e).2;omega) ?_ ?_
  ·intro t g hn a1 a2 a3;simp only[sx,sy];exact bad t g hn a1 a2 a3
  ·rintro t g4 ⟨⟨h80,h81,h82,h88,h8,h9,h10,h1,h2,h4,-⟩,hp4,hpl⟩ f94 n4;rw[List.take_length] at hp4;have hplc:=DG hpl;have hpin:∀p∈x.parents,0<=p/\p<((S.ac n).length:Int):=λp hp=>by rw[ba];exact iK hplc p hp
   have hpll:=lj hplc (by omega);have hyl:(S.aW n j (S.aE x.parents)).length<=8:=by simp[S.aW,hpsl];omega
   have hm:Agg ((n,S.ac n,S.aW n j (S.aE x.parents),[]):NwM) (λ_=>True) 0 g4.h (.agg [.int .i64 n.grain,b,cv,sv,.nils]) :=
    ⟨_,rfl,zt.2 ⟨b,cv,sv,.nils,rfl,hN.wide (Nat.le_refl 0),Own.sl (α:=Int) hp4.hc (by rw[ba];omega) (All2.of_map (λa=>bc.2 rfl) _) λ_ _=>trivial,hp4.hs.nats' (by omega) (Ms n j _ (vB _)),⟨by show 0<9223372036854775808;decide,rfl⟩⟩⟩
   have hxa:Agg x NoP 0 g4.h (.agg [.int .i64 x.card,pa,ra]):=⟨_,rfl,dh.2 ⟨pa,ra,rfl,hpa.tree (Nat.le_refl 0),hra.tree (Nat.le_refl 0)⟩⟩;have hfl:=GL (d:=d) (g:=g4) hd hm hxa ⟨rfl,rfl⟩ hg1 hcard hpin (by omega);have hfl:ax C0 d N.aI [.agg [.int .i64 n.grain,b,cv,sv,.nils],.agg [.int .i64 x.card,pa,ra]] g4=.val (.bool (S.br n.grain (S.ac n) x)):=hfl;cases hf:S.br n.grain (S.ac n) x with
   | false =>
    rw[hf] at hfl;simp only[sz,simprocAttr,mu,h2,h4,h9,hp4.hq,hp4.h1,f94,hfl];refine bad _ _ (λhr=>?_) (by simp[H.get_put]) (by simp[sx,h2]) (by simp[sx]);have:=Ln hr hxm;rw[hf] at this;cases this
   | true =>
    rw[hf] at hfl;simp only[sz,simprocAttr,mu,h4,h9,hp4.hq,f94,hfl];rw[eY2] at hp4;refine ⟨⟨by simp[St,LRd,sx,h1,h2,h4,h80],hp4,λy hy=>?_⟩,by simp[h82],by simp[h81]⟩;rw[htk] at hy;rcases List.mem_append.1 hy with h | h
    ·exact hok y h
    ·rw[List.mem_singleton.1 h];exact ⟨hplc,hf⟩
 ·rintro t df g ⟨rfl,h⟩;exact fin t g h
end
theorem Ko (n:Net):Snb (A8 n) 2:=tz λo=>jm (m:=2) (dN _) (bj _) (by decide) (by decide)
theorem FF {d:Nat}{g:G}{v:AV}{n:Net}(hd:0<d)(hm:Agg n NoP 0 g.h v):∃r,ax C0 d N.aJ [v] g=.val r/\A8 n NoP 0 .nil r:=by
 obtain ⟨b,rows,rfl,e,hm',hN,r1,r2,r3,r4⟩:=qj d hm;rw[ya];refine bu BA (xs:=[.agg [.int .i64 n.grain,b]]) (by simp only[aI,e]) (by simp[ky]) (Ko n) (by decide) hd ?_;have nl:=λg=>hN.len g;simp only[sz,simprocAttr,ky];obtain ⟨g0,hg0⟩:∃g0,g0=(G.empty.new (.cells 2 [[.int .i64 n.grain,b]] 0 false false)).new (.cells 5 [[.int .i64 0,.nils,.nils,.nils,.nils]] 0 false false):=⟨_,rfl⟩;rw[<-hg0];have f0:g0.h.get 0=.cells 2 [[.int .i64 n.grain,b]] 0 false false:=by rw[hg0];simp[sx,H.get_put]
 have f1:g0.h.get 1=.cells 5 [[.int .i64 0,.nils,.nils,.nils,.nils]] 0 false false:=by rw[hg0];simp[sx]
 have f2:g0.nx=2:=by rw[hg0];simp[sx]
 clear hg0;obtain ⟨Qf,hQf⟩:∃Qf,Qf=fnQ C0 (d+1) [SR.cell true 5 2,SR.tm 3] (λv g'=>∃P,A8 n P 0 g'.h v):=⟨_,rfl⟩;have bad:∀(t:T) (g:G),¬NR n->g.h.get 1=.cells 5 [[.int .i64 0,.nils,.nils,.nils,.nils]] 0 false false->tat t 2=.hptr 1 0 0 0->tat t 3=.int .i64 50->Qf .ret t [] g:=λt g hn a1 a2 a3=>by rw[hQf];exact NT hn a1 a2 a3
 rw[<-hQf];simp only[sO]
 by_cases c1:n.grain<1
 ·rw[iP];simp only[sz,simprocAttr,f0,f1,c1];exact bad _ _ (λh=>by have:=h.g1;omega) (by simp[H.get_put]) (by simp[sx]) (by simp[sx])
 by_cases c2:60<n.grain
 ·rw[iP];simp only[sz,simprocAttr,f0,f1,c1,c2];exact bad _ _ (λh=>by have:=h.g2;omega) (by simp[H.get_put]) (by simp[sx]) (by simp[sx])
 by_cases c3:(n.nodes.length:Int)<1
 ·rw[iP];simp only[sz,simprocAttr,f0,f1,c1,c2,c3,nl];exact bad _ _ (λh=>by have:=h.l1;omega) (by simp[H.get_put]) (by simp[sx]) (by simp[sx])
 by_cases c4:8<(n.nodes.length:Int)
 ·rw[iP];simp only[sz,simprocAttr,f0,f1,c1,c2,c3,c4,nl];exact bad _ _ (λh=>by have:=h.l2;omega) (by simp[H.get_put]) (by simp[sx]) (by simp[sx])
 refine bM (P:=λt' df g'=>df=[]/\g'=g0/\St t' [(1,.hptr 0 0 0 0),(2,.hptr 1 0 0 0)]) ?_ ?_
 ·simp only[sz,simprocAttr,f0,c1,c2,c3,c4,nl];simp[St,sx]
 rintro t df g1 ⟨rfl,rfl,h1,h2,-⟩;have hl8:n.nodes.length<=8:=by omega
 refine bM (P:=λt' df g'=>df=[]/\∃cv sv q,St t' (LRd q)/\RdH n b cv sv q (List.replicate n.nodes.length 0) (List.replicate n.nodes.length 0) g') ?_ ?_
 ·simp only[sz,simprocAttr,sf,h1,f0,nl];refine k_ (b:=2) (n:=n.nodes.length) (by unfold aW;omega) (by unfold aW;omega) (by first | (simp;done) | (simp;omega)) λcv g2 hcv n2 fr2 v2 lg2=>?_;simp only[sy] at n2 fr2 v2 lg2;have k0:g2.h.get 0=.cells 2 [[.int .i64 n.grain,b]] 0 false false:=by rw[fr2 0 (by omega),f0]
  simp only[sz,simprocAttr,sf,h1,k0,nl,lg2];refine k_ (b:=2) (n:=n.nodes.length) (by unfold aW;omega) (by unfold aW;omega) (by first | (simp;done) | (simp;omega)) λsv g3 hsv n3 fr3 v3 lg3=>?_;simp only[sy] at n3 fr3 v3 lg3;simp only[sz,simprocAttr,sf,lg3,hcv.cell.1,hcv.cell.2,hsv.cell.1,hsv.cell.2];refine ⟨?_,cv,sv,g3.nx+1+1,?_,?_⟩
  ·simp only[List.reverse_cons,List.reverse_nil,List.nil_append,List.cons_append,G.new_lg,G.put_lg,setLog_lg];refine aF [false,false,false,false,true,false,false,false,true,false,true,true] [(0,4),(4,5),(4,6),(4,7),(0,8),(1,8),(2,8),(3,8),(4,8),(0,10),(1,10),(2,10),(3,10),(4,10),(5,10),(6,10),(7,10),(8,10),(9,10)] (by simp[All2,ac,ay]) (by decide) ?_;rintro p hp x y hx hy;simp only[List.mem_cons,List.not_mem_nil,or_false] at hp;rcases hp with rfl | rfl | rfl | rfl | rfl | rfl | rfl | rfl | rfl | rfl | rfl | rfl | rfl | rfl | rfl | rfl | rfl | rfl | rfl<;>(simp at hx hy;subst hx;subst hy;refine bV rfl rfl rfl rfl ?_ ?_ ?_<;>simp[ac,ay,af]<;>omega)
  ·simp[St,LRd,sx,h1,h2]
  ·have fa:∀i,i<g2.nx->g3.h.get i=g2.h.get i:=λi hi=>by have:=fr3 i (by omega);simpa using this
   have fb:∀i,i<g1.nx->g2.h.get i=g1.h.get i:=λi hi=>by have:=fr2 i (by omega);simpa using this
   have hcv':Own g2 2 cv 1 ((List.replicate n.nodes.length (0:Int)).map ci):=by simpa [ci] using hcv
   have hsv':Own g3 2 sv 1 ((List.replicate n.nodes.length (0:Nat)).map cu):=by simpa [cu] using hsv
   have hne:∀i,i<g3.nx->¬i=g3.nx+1+1:=λi hi=>by omega
   refine ⟨?_,?_,?_,hcv'.fr (by simp;omega) λi hi=>?_,hsv'.fr (by simp;omega) λi hi=>?_,by omega,by first | (simp;done) | (simp;omega),λe=>?_,λe=>?_,λi hi hi2=>?_⟩
   ·simp[H.get_put];rw[fa 0 (by omega),k0]
   ·simp[H.get_put];rw[fa 1 (by omega),fb 1 (by omega),f1]
   ·simp[H.get_put]
   ·have:=fp v2 hi;simp[H.get_put,hne i (by omega)];rw[fa i (by omega)]
   ·have:=fp v3 hi;simp[H.get_put,hne i (by omega)]
   ·have:=fp v2 e;omega
   ·have:=fp v3 e;omega
   ·have:=fp v2 hi;have:=fp v3 hi2;omega
 rintro t df g ⟨rfl,cv,sv,q,⟨h1,h2,h4,-⟩,hp⟩;clear f0 f1 f2;have nlen:=nl g;simp only[sz,simprocAttr,h4,hp.hq,nl];refine LZ (b:=b) (cv:=cv) (sv:=sv) (q:=q) hl8 hN r1 r2 r3 r4 ⟨by simp[St,LRd,sx,S.ae,h1,h2,h4],by simpa using hp,by simp⟩ (by simp[sx]) (by simp[sx]) ?_ ?_
 ·intro t g hn a1 a2 a3;simp only[sx];exact bad t g hn a1 a2 a3
 clear h1 h2 h4 hp nlen;rintro t g ⟨⟨h48,h5,h1,h2,h4,-⟩,hp,hok⟩;rw[List.take_of_length_le (by rw[ba];exact Nat.le_refl _)] at h5 hp;rw[Nat.sub_self,List.replicate_zero,List.append_nil] at hp;rw[List.take_length] at hok;have hcb:∀c∈S.ac n,1<=c/\c<=4:=λc hc=>by obtain ⟨y,hy,rfl⟩:=List.mem_map.1 hc;exact hok y hy
 simp only[sz,simprocAttr,qY]
 by_cases d1:1024<S.ae (S.ac n)
 ·simp only[sz,simprocAttr,h2,h5,hp.h1,d1];exact bad _ _ (λh=>by have:=h.worlds;omega) (by simp[H.get_put]) (by simp[sx,h2]) (by simp[sx])
 simp only[sz,simprocAttr,h4,h5,hp.hq,nl,d1];refine L1 (b:=b) (cv:=cv) (sv:=sv) (q:=q) (Nat.succ_pos d) hl8 (by omega) hcb hN r1 r2 r3 r4 ⟨by simp[St,LRd,sx,h1,h2,h4],by simpa using hp,by simp⟩ (by simp[sx]) (by simp[sx]) ?_ ?_
 ·intro t g hn a1 a2 a3;simp only[sx];exact bad t g hn a1 a2 a3
 clear h1 h2 h4 h48 h5 hp;rintro t g ⟨⟨h80,h1,h2,h4,-⟩,hp,hok2⟩;rw[List.take_of_length_le (by simp[S.aD])] at hp;rw[Nat.sub_self,List.replicate_zero,List.append_nil] at hp;rw[List.take_length] at hok2;have hpsl:(S.aD n).length=n.nodes.length:=by simp[S.aD]
 have hplt:∀y∈S.aD n,y<18446744073709551616:=λy hy=>by obtain ⟨x,-,rfl⟩:=List.mem_map.1 hy;exact vB _
 have hplt2:∀y∈S.aD n,y<2 ^ (S.aD n).length:=λy hy=>by obtain ⟨x,hx,rfl⟩:=List.mem_map.1 hy;rw[hpsl];exact Jr (by omega) λz hz=>iK (hok2 x hx).1 z hz
 obtain ⟨z,ez,o,-,oz,az,rfl,hoz,haz⟩:=Ht (d:=d+1) (g:=g) (Nat.succ_pos d) (hp.hs.nats' (by omega) hplt) (by omega) hplt2;have haz:=dM.1 haz;injection haz with haz;subst haz;obtain ⟨_,e1,hoz⟩:=hoz;injection e1 with e1;subst e1;cases hac:S.bF (S.aD n) with
 | false =>
  rw[hac] at ez;simp only[sz,simprocAttr,mw,h2,h4,hp.hq,hp.h1,ez];exact bad _ _ (λh=>by have:=h.acyc;rw[hac] at this;cases this) (by simp[H.get_put]) (by simp[sx,h2]) (by simp[sx])
 | true =>
  rw[hac] at ez;have hnr:S.a_ n=true:=li.2 ⟨by omega,by omega,by omega,by omega,hok,λx hx=>(hok2 x hx).1,by omega,hac,λx hx=>by
   have:=(hok2 x hx).2;simp only[S.br,Bool.and_eq_true,decide_eq_true_eq] at this;exact this.1,λx hx r hr=>by
   have:=(hok2 x hx).2;simp only[S.br,S.bf,Bool.and_eq_true,decide_eq_true_eq,List.all_eq_true] at this;have:=this.2 r hr;exact ⟨this.1.1,this.1.2,this.2⟩⟩
  have q2:=hp.q2;have hq1:¬(1=q):=by omega
  have hq0:¬(q=1):=by omega
  have oc:=hoz.cell;rw[hQf];simp only[sz,simprocAttr,mw,h2,h4,hp.hq,hp.h1,ez,hq1,oc.1,oc.2];have fh:∀i,¬i=1->¬i=q->((g.h.put q (.cells 5 [[.int .i64 n.grain,b,cv,sv,oz]] 0 false false)).put 1 (.cells 5 [[.int .i64 n.grain,b,cv,sv,oz]] 0 false false)).get i=g.h.get i:=λi hi hi2=>by simp[H.get_put,hi,hi2]
  refine ⟨λ_=>True,o,trivial,_,_,rfl,⟨_,rfl,?_⟩,?_⟩
  ·rw[S.b_,if_pos hnr];refine zt.2 ⟨b,cv,sv,oz,rfl,hN.wide (Nat.le_refl 0),(hp.hc.intsV (by rw[ba];omega)).wd λi hi=>⟨trivial,fh i (by have:=(hp.hc.lt hi).1;omega) λe=>hp.d1 (by rw[hi,e])⟩,(hp.hs.natsV (by omega) hplt).wd λi hi=>⟨trivial,fh i (by have:=(hp.hs.lt hi).1;omega) λe=>hp.d2 (by rw[hi,e])⟩,hoz.wide (Nat.le_refl 0)⟩
  ·rw[if_pos hnr];exact bc.2 rfl
end
end Hx
end
section
namespace Hx
open Go
noncomputable section
theorem Dt {n:Net}{o:List Int}(h:S.a_ n=true):S.b_ n o=(n,S.ac n,S.aD n,o):=by rw[S.b_,if_pos h]
theorem uE {n:Net}{P:Nat->Prop}{k:Nat}{h:H}{v:AV}(hv:A8 n P k h v) :
  (S.a_ n=false/\∃cs,v=.tup [.agg cs,.int .i64 50]/\cs.length=5) \/
  (S.a_ n=true/\∃b cv sv oz o,v=.tup [.agg [.int .i64 n.grain,b,cv,sv,oz],.int .i64 0]/\SlR P k h n.nodes b/\SlR P k h (S.ac n) cv/\SlR P k h (S.aD n) sv/\SlR P k h (o:List Int) oz):=by
 obtain ⟨o,-,a,c,rfl,⟨cs,rfl,hc⟩,hi⟩:=hv;have hi:=bc.1 hi;injection hi with hi;subst hi;cases hn:S.a_ n with
 | false =>
  refine .inl ⟨rfl,cs,rfl,?_⟩;obtain ⟨a,b,c,e,rfl,-⟩:=zt.1 hc
  rfl
 | true =>
  rw[Dt hn] at hc;obtain ⟨a,b,c,e,rfl,h1,h2,h3,h4⟩:=zt.1 hc;exact .inr ⟨rfl,a,b,c,e,o,rfl,h1,h2,h3,h4⟩
theorem HY {d k2:Nat}{g:G}{P2:Nat->Prop}{v w:AV}{n:Net}{e:List Int}(hd:0<d)(hm:Agg n NoP 0 g.h v)(he:SlR P2 k2 g.h e w):ax C0 d N.aY [v,w] g=.val (.int .i64 (S.bh n e)):=by
 obtain ⟨w',e2,hw'⟩:=dV he d;obtain ⟨b,rows,rfl,e1,hm',hN,r1,r2,r3,r4⟩:=qj d hm;have n2:=λg=>(hw' .nil).len g;have rb:=λh=>(hw' h).ints;rw[nQ];refine l8 pC (xs:=[.agg [.int .i64 n.grain,b],w']) (by simp only[aI,e1,e2]) (by simp[fD]) hd ?_;have hle:=he.1;simp only[sz,simprocAttr,fD,il,gP];obtain ⟨z,ez,hz⟩:=FF (d:=d+1) (g:=G.empty.new (.cells 2 [[.int .i64 n.grain,b]] 0 false false)) (Nat.succ_pos d) (n:=n) (v:=.agg [.int .i64 n.grain,b]) (hm' _);rcases uE hz with ⟨hn,cs,rfl,hcs⟩ | ⟨hn,b',cv,sv,oz,o,rfl,hb,hcv,-,-⟩
 ·have hs:S.bh n e=50:=by rw[S.bh,hn];rfl
  obtain ⟨a1,a2,a3,a4,a5,rfl⟩:∃a1 a2 a3 a4 a5,cs=[a1,a2,a3,a4,a5]:=by
   match cs,hcs with
   | [a1,a2,a3,a4,a5],_=>exact ⟨a1,a2,a3,a4,a5,rfl⟩
  simp only[sz,simprocAttr,ez,hs,show ¬((50:Int)=0) from by decide]
 ·have nb:=λg=>(hb.tree (h':=g) (Nat.le_refl 0)).len;have hbl:=hb.1;have rc:=λh=>(hcv.tree (h':=h) (Nat.le_refl 0)).ints;have hcl:=ba n
  by_cases hl:e.length=n.nodes.length
  ·have hl':(e.length:Int)=(n.nodes.length:Int):=by rw[hl]
   simp only[sz,simprocAttr,ez,n2,hb.len,hl];refine bk (m:=n.nodes.length) (by omega) (λj t df g=>df=[]/\St t [(24,w'),(5,.hptr 1 0 0 0),(4,.int .i64 0)]/\g.h.get 1=.cells 5 [[.int .i64 n.grain,b',cv,sv,oz]] 0 false false/\((List.range j).all λv=>decide (-1<=e[v]?.getD 0)&&decide (e[v]?.getD 0<(S.ac n)[v]?.getD 0))=true)
    ⟨rfl,by simp[St,sx],by simp[sx],by simp⟩ (by simp[sx]) (by simp[sx]) (by decide) (by rintro j t df g v s (rfl | rfl | rfl)<;>simp[St,sx]) ?_ ?_
   ·rintro j t df g hj ⟨rfl,⟨h24,h5,h4,-⟩,hg,ha⟩ h26 h25;obtain ⟨y,hy,-,-⟩:=ak (l:=e) (j:=j) (by omega);obtain ⟨c,hc,-,-⟩:=ak (l:=S.ac n) (j:=j) (by omega);have u1:j<(e.map ci).length:=by simp;omega
    have u2:(e.map ci)[j]?=some (ci y):=by rw[List.getElem?_map,hy];rfl
    have u3:j<((S.ac n).map ci).length:=by simp;omega
    have u4:((S.ac n).map ci)[j]?=some (ci c):=by rw[List.getElem?_map,hc];rfl
    have hst:((List.range (j+1)).all λv=>decide (-1<=e[v]?.getD 0)&&decide (e[v]?.getD 0<(S.ac n)[v]?.getD 0))=(decide (-1<=y)&&decide (y<c)):=by rw[List.range_succ,List.all_append,ha];simp[hy,hc]
    have bad:(decide (-1<=y)&&decide (y<c))=false->S.bh n e=2:=λh=>by
     have h1:S.aP n e=false:=by
      rw[S.aP];have:((List.range e.length).all λv=>decide (-1<=e[v]?.getD 0)&&decide (e[v]?.getD 0<(S.ac n)[v]?.getD 0))=false:=by rw[<-Bool.not_eq_true,List.all_eq_true];intro h2;have:=h2 j (List.mem_range.2 (by omega));rw[hy,hc,Option.getD_some,Option.getD_some,h] at this;cases this
      rw[this,Bool.and_false]
     rw[S.bh,hn,h1];rfl
    by_cases c1:y < -1
    ·have:=bad (by simp;omega);simp only[sz,simprocAttr,h24,h26,rb,u1,u2,ci,c1,this]
    ·by_cases c2:c<=y
     ·have:=bad (by simp;omega);simp only[sz,simprocAttr,h24,h5,h26,hg,rb,rc,u1,u2,u3,u4,ci,c1,c2,this]
     ·have h3:((List.range (j+1)).all λv=>decide (-1<=e[v]?.getD 0)&&decide (e[v]?.getD 0<(S.ac n)[v]?.getD 0))=true:=by rw[hst];simp;omega
      simp only[sz,simprocAttr,h24,h5,h4,h26,h25,hg,rb,rc,u1,u2,u3,u4,ci,c1,c2,St,h3]
   ·rintro t df g ⟨rfl,⟨h24,h5,h4,-⟩,hg,ha⟩;have h1:S.aP n e=true:=by rw[S.aP,hl,decide_eq_true rfl,ha];rfl
    have hs:S.bh n e=0:=by rw[S.bh,hn,h1];rfl
    simp only[sz,simprocAttr,gQ,hs]
  ·have hl':¬((e.length:Int)=(n.nodes.length:Int)):=by omega
   have h1:S.aP n e=false:=by rw[S.aP,decide_eq_false hl];rfl
   have hs:S.bh n e=2:=by rw[S.bh,hn,h1];rfl
   simp only[sz,simprocAttr,ez,n2,hb.len,hl',hs]
theorem AB {n:Net}(hr:NR n):∀j,j<=8->0<=S.ae (List.replicate j n.grain)/\S.ae (List.replicate j n.grain)<=167961600000000:=λj hj=>by
 have hg1:=hr.g1;have hg2:=hr.g2;have h1:=jQ (l:=List.replicate j n.grain) λx hx=>by have:=(List.mem_replicate.1 hx).2;omega
 have h2:=JY (k:=(List.replicate j n.grain).length) (by simpa using hj);omega
def CloneR (b:Nat)(l:List Int)(u:AV)(g:G):Prop:=(l=[]/\u=.nils)\/∃id lo,b<=id/\id<g.nx/\u=.hsl id 0 0 l.length none/\g.h.get id=.cells 1 (l.map ci) 0 lo false/\(0<l.length->lo=true)/\(l.length=0->lo=false)
theorem zK {g:G}{id:Nat}{x:AV}{l:List Int}{K:AV->G->Prop}{D:ADf->Prop}(hx:ah g.h 1 x=some (l.map ci))(h3:g.h.get id=.cells 1 [] 0 false false)(hid:id<g.nx)(hr:l.length<=1000)
  (k:∀u g',CloneR id l u g'->Fr g g'->K u g'):(cP 1 8 (.hsl id 0 0 0 none) x g).sat K g D:=by
 unfold cP;rw[hx];cases l with
 | nil =>
  simp only[aU,G.get_eq,h3,aB,aa,Nat.beq_refl,Bool.true_and,Nat.ble_eq,Bool.and_eq_true,List.map_nil,List.length_nil];rw[if_pos ⟨by simp,by simp⟩,if_pos (by simp)];exact k _ _ (.inr ⟨id,false,Nat.le_refl _,hid,rfl,by simpa using h3,by simp,by simp⟩) (Fr.refl g)
 | cons y l =>
  simp only[aU,G.get_eq,h3,aB,aa,Nat.beq_refl,Bool.true_and,Nat.ble_eq,Bool.and_eq_true,List.map_cons,List.length_cons,List.length_nil,List.length_map,Nat.zero_add,Option.getD_none,Nat.sub_zero];rw[if_pos ⟨by omega,by unfold aW;simp at hr;omega⟩,if_neg (by omega),if_pos (by rfl)];refine k _ _ (.inr ⟨g.nx,true,by omega,by simp,by simp,?_,by simp,by simp⟩) (Fr.new g _);simp[aJ,aY,aX]
structure FacH (bx nd:List AV) (w u:AV) (vars cards:List Int) (beh:Int) (q:Nat) (g:G):Prop where
 h0:g.h.get 0=.cells 5 [bx] 0 false false
 h1:g.h.get 1=.cells 3 [[.nils,.nils,.nils]] 0 false false
 h2:g.h.get 2=.cells 3 [nd] 0 false false
 h8:g.h.get q=.cells 3 [[w,u,.nils]] 0 false false
 h9:g.h.get (q+1)=.cells 1 [[.int .i64 beh]] 0 false false
 hw:Own g 3 w 1 (vars.map ci)
 hu:Own g (q+2) u 1 (cards.map ci)
 wq:∀i,vid w=some i->i<q
 q3:3<=q
 qn:q+2<=g.nx
def Ob (q:Nat):List (Nat×AV):=[(2,.hptr 0 0 0 0),(4,.hptr 1 0 0 0),(5,.hptr 2 0 0 0),(8,.hptr q 0 0 0),(9,.hptr (q+1) 0 0 0)]
structure FacJ (gr:Int) (b cv sv oz:AV) (nd:List AV) (w:AV) (cs vars:List Int) (pl q j:Nat) (t:T) (g:G):Prop where
 st:St t ((38,w)::(6,.int .i64 (pl:Int))::Ob q)
 hp:∃u,FacH [.int .i64 gr,b,cv,sv,oz] nd w u vars (S.ah cs (vars.take j)) (S.ae (S.ah cs ((vars.take j).drop (pl+1)))) q g
def GH (h:H)(n:Nat):G:=⟨h,n,[]⟩
@[simp] theorem GH_h (h:H) (n:Nat):(GH h n).h=h:=rfl
@[simp] theorem GH_nx (h:H) (n:Nat):(GH h n).nx=n:=rfl
structure FacG (g0:G) (iw:Nat) (W:AV) (rws:List (List Int)) (B C t:Nat) (h:H):Prop where
 fr:∀i,i<g0.nx->i≠iw->h.get i=g0.h.get i
 ow:Own (GH h (iw+1)) 3 W 1 ((S.cM rws B C t).map ci)
structure FacI (g0 g2:G) (iw:Nat) (W z:AV) (r:List Int) (rws:List (List Int)) (B C q j i:Nat) (t:T) (g:G):Prop where
 st:St t ((78,z)::(12,.int .i64 (j:Int))::Ob q)
 hp:FacG g0 iw W rws B C (j*C+i) g.h
 nx:g2.nx<=g.nx
 fr:∀i,g0.nx<=i->i<g2.nx->g.h.get i=g2.h.get i
def S.cL (n:Net)(i:Nat)(x:Node)(p:Nat):Factor:=⟨S.cD x.parents p (i:Int),S.ah (S.ac n) (S.cD x.parents p (i:Int)),S.cN x.rows (S.ae (S.ah (S.ac n) (x.parents.drop p))).toNat x.card.toNat⟩
theorem Own.low {g:G}{b b':Nat}{v:AV}{sz:Nat}{rows:List (List AV)}(h:Own g b v sz rows)(hb:b'<=b):Own g b' v sz rows:=by
 rcases h with h | ⟨id,ep,lo,h1,h2⟩
 ·exact .inl h
 ·exact .inr ⟨id,ep,lo,by omega,h2⟩
def S.cE (n:Net)(l:List Factor):Prop:=∀(i:Nat) (x:Node),i<l.length->n.nodes[i]?=some x->∃p,p<=x.parents.length/\l[i]?=some (S.cL n i x p)
structure FasJ (n:Net) (W b cv sv oz:AV) (j:Nat) (t:T) (g:G):Prop where
 st:St t [(4,.hptr 1 0 0 0),(6,W)]
 hg:g.h.get 1=.cells 5 [[.int .i64 n.grain,b,cv,sv,oz]] 0 false false
 hW:∃(rows:List (List AV)) (l:List Factor),Own g 2 W 3 rows/\rows.length=n.nodes.length/\l.length=j/\All2 (Rp.rp NoP 0 .nil) l (rows.take j)/\S.cE n l/\∀i,j<=i->i<n.nodes.length->rows[i]?=some [.nils,.nils,.nils]
end
end Hx
end
section
namespace Hx
open Go
abbrev QnM:Type:=Net×List Factor×List (List Int)
def S.cy (m:Nat)(f:Factor)(i:Nat)(R:List Int):Prop:=R.length=m/\∀(j:Nat) (y:Int),i<=j->f.vars[j]?=some y->R[y.toNat]?=some (S.ae (f.cards.drop (j+1)))
structure QnOk (n:Net) (y:QnM):Prop where
 net:y.1=n
 fl:y.2.1.length=n.nodes.length
 fs:S.cE n y.2.1
 sl:y.2.2.length=n.nodes.length
 st:∀(k:Nat) (f:Factor) (R:List Int),y.2.1[k]?=some f->y.2.2[k]?=some R->S.cy n.nodes.length f 0 R
end Hx
end
section
namespace Hx
open Go
noncomputable section
def OE (fl:AV)(m q k:Nat):List (Nat×AV):=[(11,.hptr q 0 0 0),(2,.hptr 0 0 0 0),(4,.hptr 1 0 0 0),(45,fl),(46,.int .i64 (m:Int)),(47,.int .i64 (k:Int))]
structure AskI (fl:AV) (m q k:Nat) (g0:G) (iR:Nat) (R:AV) (f:Factor) (fb j:Nat) (t:T) (g:G):Prop where
 st:St t ((13,.hptr fb 0 0 0)::(12,.int .i64 (k:Int))::(14,.int .i64 (S.ae (f.cards.drop j)))::OE fl m q k)
 nx:g0.nx<=g.nx
 fr:∀i,i<g0.nx->i≠iR->g.h.get i=g0.h.get i
 ow:∃X:List Int,Own g 2 R 1 (X.map ci)/\S.cy m f j X
structure FOk (m:Nat) (f:Factor):Prop where
 cl:f.cards.length=f.vars.length
 vl:f.vars.length<=16
 cb:∀c∈f.cards,1<=c/\c<=4
 nd:f.vars.Nodup
 vr:∀y∈f.vars,0<=y/\y<m
structure AskH (gr:Int) (b fl S_:AV) (m q:Nat) (fs:List Factor) (k:Nat) (g:G):Prop where
 h0:g.h.get 0=.cells 2 [[.int .i64 gr,b]] 0 false false
 h1:g.h.get 1=.cells 4 [[.int .i64 0,.nils,.nils,.nils]] 0 false false
 hq:g.h.get q=.cells 4 [[.int .i64 gr,b,fl,S_]] 0 false false
 q2:2<=q/\q<g.nx
 sq:∀i,vid S_=some i->i<q
 hS:∃(Vs:List AV) (l:List (List Int)),Own g 2 S_ 1 (Vs.map λv=>[v])/\Vs.length=m/\l.length=k/\All2 (λX v=>Own g (q+1) v 1 (X.map ci)) l (Vs.take k)/\∀(i:Nat) (f:Factor) (X:List Int),fs[i]?=some f->l[i]?=some X->S.cy m f 0 X
structure AskJ (gr:Int) (b fl S_:AV) (m q:Nat) (fs:List Factor) (k:Nat) (t:T) (g:G):Prop where
 st:St t [(11,.hptr q 0 0 0),(2,.hptr 0 0 0 0),(4,.hptr 1 0 0 0),(45,fl)]
 hp:AskH gr b fl S_ m q fs k g
theorem Lp {α:Type}{l:List α}{i:Nat}{x y:α}(h1:l[i]?=some x)(h2:l[i]?=some y):x=y:=by rw[h1] at h2;injection h2
structure WtI (y:QnM) (b fl S_ wv va ca wa:AV) (gr wt:Int) (p:Int) (cards pv:List Int) (m k fb i:Nat) (t:T) (g:G):Prop where
 st:St t [(1,wv),(2,.hptr 0 0 0 0),(12,fl),(13,.int .i64 (m:Int)),(14,.int .i64 (k:Int)),(5,.int .i64 wt),(6,.int .i64 (k:Int)),(7,.hptr fb 0 0 0),(20,va),(8,.int .i64 (p - S.ak (cards.drop i) (pv.drop i)))]
 h0:g.h.get 0=.cells 4 [[.int .i64 gr,b,fl,S_]] 0 false false
 hf:g.h.get fb=.cells 3 [[va,ca,wa]] 0 false false
 nn:0<=p - S.ak (cards.drop i) (pv.drop i)
 nx:1<=g.nx
structure WtJ (n:Net) (vals:List Int) (b fl S_ wv:AV) (k:Nat) (t:T) (g:G):Prop where
 st:St t [(1,wv),(2,.hptr 0 0 0 0),(12,fl),(5,.int .i64 (S.ae ((List.range k).map (S.aH n vals))))]
 h0:g.h.get 0=.cells 4 [[.int .i64 n.grain,b,fl,S_]] 0 false false
 nx:1<=g.nx
theorem JE {cs vs:List Int}(h:InC cs vs)(hc:∀c∈cs,1<=c){i:Nat}{x c:Int}(hi:vs[i]?=some x)(hci:cs[i]?=some c)(hx:x≠c - 1):InC cs (vs.take i++(x+1)::List.replicate (vs.length - (i+1)) 0):=by
 have hil:=(List.getElem?_eq_some_iff.1 hi).1;have hl:=h.len;refine wY (by simp;omega) λj c' v hj hv=>?_;obtain ⟨v',h1,h2,h3⟩:=h.get hj;have hcp:=hc c' (List.mem_of_getElem? hj)
 by_cases h4:j<i
 ·rw[List.getElem?_append_left (by simp;omega),List.getElem?_take_of_lt h4] at hv;rw[h1] at hv;injection hv with hv;omega
 ·rw[List.getElem?_append_right (by simp;omega)] at hv;rw[List.length_take,Nat.min_eq_left (by omega)] at hv
  by_cases h5:j=i
  ·subst h5;rw[Nat.sub_self] at hv;simp at hv;rw[hi] at h1;injection h1 with h1;rw[hci] at hj;injection hj with hj;omega
  ·obtain ⟨m,hm⟩:∃m,j - i=m+1:=⟨j - i - 1,by omega⟩;rw[hm,List.getElem?_cons_succ] at hv;have:=List.mem_of_getElem? hv;rw[List.mem_replicate] at this;omega
theorem KQ {cs:List Int}(hc:∀c∈cs,1<=c):InC cs (List.replicate cs.length 0) :=
 wY (by simp) λj c v hj hv=>by have:=List.mem_of_getElem? hv;rw[List.mem_replicate] at this;have:=hc c (List.mem_of_getElem? hj);omega
theorem AX {vs:List Int}{m:Nat}(h:m<vs.length):(vs.take (m+1)++List.replicate (vs.length - (m+1)) 0).set m 0=vs.take m++List.replicate (vs.length - m) 0:=by
 rw[List.take_succ_eq_append_getElem h,List.append_assoc,List.set_append_right _ _ (by simp;omega),List.length_take,Nat.min_eq_left (by omega),Nat.sub_self];rw[show vs.length - m=(vs.length - (m+1))+1 by omega,List.replicate_succ]
 rfl
theorem AW {vs:List Int}{m:Nat}(h:m<vs.length)(y:Int):(vs.take (m+1)++List.replicate (vs.length - (m+1)) 0).set m y=vs.take m++y::List.replicate (vs.length - (m+1)) 0:=by
 rw[List.take_succ_eq_append_getElem h,List.append_assoc,List.set_append_right _ _ (by simp;omega),List.length_take,Nat.min_eq_left (by omega),Nat.sub_self]
 rfl
structure OdoJ (n:Net) (vs:List Int) (L:List (Nat×AV)) (u:AV) (g0:G) (m:Nat) (t:T) (g:G):Prop where
 st:tat t 6=.int .i64 ((m:Int) - 1)
 ss:St t L
 ow:Own g g0.nx u 1 ((vs.take m++List.replicate (vs.length - m) 0).map ci)
 mx:∀(j:Nat) (c:Int),m<=j->(S.ac n)[j]?=some c->vs[j]?.getD 0=c - 1
theorem zn {C:Cfg}{d id nt:Nat}{t:T}{ps:List Nat}{assign body:Code}{a b:SC}{dfr:Nat}{args:List AV}{g:G}{K:AV->G->Prop}{D:ADf->Prop}{t':T}
  (hg:g.h.get id=.loop nt t ps assign body dfr .ready none) (ha:dQ C nt assign=a) (hb:dQ C nt body=b) (hp:cN t nt ps args=some t')
  (h:wp C d (some id) a (λe t1 df g1=>e=.norm/\df=[]/\g1.h.get id=.loop nt t ps assign body dfr .ready none /\
   wp C d (some id) b (λe _ df g2=>df=[]/\g2.h.get id=.loop nt t ps assign body dfr .busy none/\((e=.norm/\K (.bool true) (g2.put id (.loop nt t ps assign body dfr .ready none)))\/(e=.ret/\K (.bool false) (g2.put id (.loop nt t ps assign body dfr .done (some .ret))))))
    t1 [] (g1.put id (.loop nt t ps assign body dfr .busy none))) t' [] g) :
  (cg (I C) d id args g).sat K g D:=by
 subst ha;subst hb;unfold cg;rw[show g.get id=_ from hg];dsimp only;rw[hp];dsimp only;have h1:=qv h;cases hc:(I C).code nt d (some id) assign t' [] g with
 | fail=>rw[hc] at h1;exact h1.elim
 | ok e t1 df g1 =>
  rw[hc] at h1;obtain ⟨rfl,rfl,hg1,h2⟩:=h1;dsimp only;rw[show g1.get id=_ from hg1];dsimp only;have h3:=qv h2;cases hc2:(I C).code nt d (some id) body t1 [] (g1.put id (.loop nt t ps assign body dfr .busy none)) with
  | fail=>rw[hc2] at h3;exact h3.elim
  | ok e t2 df2 g2 =>
   rw[hc2] at h3;obtain ⟨rfl,h4,h5⟩:=h3;dsimp only;rw[show g2.get id=_ from h4];rcases h5 with ⟨rfl,h5⟩ | ⟨rfl,h5⟩<;>exact h5
structure CsOk (cs:List Int):Prop where
 b:∀c∈cs,1<=c/\c<=4
 l:cs.length<=8
def S.nc (cs:List Int):Nat:=(S.ae cs).toNat
theorem CsOk.nc {cs:List Int}(h:CsOk cs):1<=S.nc cs/\S.nc cs<=65536/\((S.nc cs:Nat):Int)=S.ae cs:=by
 obtain ⟨h1,h2⟩:=dK h.b;have h3:(4:Int) ^ cs.length<=4 ^ 8:=by
  have:(4:Nat) ^ cs.length<=4 ^ 8:=Nat.pow_le_pow_right (by decide) h.l
  exact_mod_cast this
 have h4:(4:Int) ^ 8=65536:=by decide
 unfold S.nc;omega
def Up (B:Nat)(g g':G):Prop:=(∀i,i<B->g'.h.get i=g.h.get i)/\∀i∈g'.lg,i∈g.lg\/B<=i
theorem Up.refl (B:Nat)(g:G):Up B g g:=⟨λ_ _=>rfl,λ_ h=>.inl h⟩
theorem Up.trans {B:Nat}{g g1 g2:G}(h:Up B g g1)(h2:Up B g1 g2):Up B g g2:=⟨λi hi=>by rw[h2.1 i hi,h.1 i hi],λi hi=>(h2.2 i hi).elim (λh3=>h.2 i h3) .inr⟩
theorem Up.mono {B B':Nat}{g g':G}(h:Up B g g')(hb:B'<=B):Up B' g g':=⟨λi hi=>h.1 i (by omega),λi hi=>(h.2 i hi).imp id λh=>by omega⟩
theorem Up.new {B:Nat}{g:G}(hb:B<=g.nx)(o:AObj):Up B g (g.new o):=⟨λi hi=>by rw[G.new_h,ae _ _ _ (by omega)],λi hi=>by simp at hi;rcases hi with rfl | hi;exact .inr hb;exact .inl hi⟩
theorem Up.put {B:Nat}{g:G}{j:Nat}(hb:B<=j)(o:AObj):Up B g (g.put j o):=⟨λi hi=>by rw[G.put_h,ae _ _ _ (by omega)],λi hi=>by simp at hi;rcases hi with rfl | hi;exact .inr hb;exact .inl hi⟩
theorem xU {g:G}{b:Nat}{v:AV}{sz n i off:Nat}{rows:List (List AV)}{row row':List AV}{x:AV}{K:AV->G->Prop}{D:ADf->Prop}(hv:Own g b v sz rows)(hr:rows[i]?=some row)
  (hl:x.cells.length=n) (ht:x.isTup=false) (hp:bg row off x.cells=some row')
  (k:∀g',Own g' b v sz (rows.set i row')->g'.nx=g.nx->(∀i,vid v≠some i->g'.h.get i=g.h.get i)->Up b g g'->K .undef g'):(iO n (ik sz v i off) x g).sat K g D:=by
 rcases hv with ⟨rfl,rfl⟩ | ⟨id,ep,lo,h1,h2,rfl,h3⟩
 ·simp at hr
 ·simp only[ik,Nat.zero_add];rw[oG h3 hr rfl ht hl hp];refine k _ (.inr ⟨id,ep,lo,h1,by simpa using h2,by simp,by simp[aJ]⟩) (by simp) (λi hne=>?_) (Up.put h1 _);rw[G.put_h,ae _ _ _ (λe=>hne (by rw[e];rfl))]
def Uo (B:Nat)(g g':G):Prop:=Up B g g'/\g.nx<=g'.nx/\∀i,i≠B->i<g.nx->g'.h.get i=g.h.get i
theorem Uo.refl (B:Nat)(g:G):Uo B g g:=⟨Up.refl _ _,Nat.le_refl _,λ_ _ _=>rfl⟩
theorem Uo.trans {B:Nat}{g g1 g2:G}(h:Uo B g g1)(h2:Uo B g1 g2):Uo B g g2:=⟨h.1.trans h2.1,Nat.le_trans h.2.1 h2.2.1,λi hi hn=>by rw[h2.2.2 i hi (Nat.lt_of_lt_of_le hn h.2.1),h.2.2 i hi hn]⟩
def Ul (B:Nat)(g g':G):Prop:=Up B g g'/\g.nx<=g'.nx/\∀i,(i<B\/B+3<=i)->i<g.nx->g'.h.get i=g.h.get i
theorem Ul.put {B:Nat}{g:G}{j:Nat}(hb:B<=j)(hb2:j<B+3)(o:AObj):Ul B g (g.put j o):=⟨Up.put hb o,by simp,λi hi _=>by rw[G.put_h,ae _ _ _ (by omega)]⟩
def LMc (id bx:Nat)(u:AV)(k:Nat):List (Nat×AV):=[(0,.yld id),(1,.hptr bx 0 0 0),(3,u),(4,.int .i64 (k:Int))]
structure CA (bx:Nat) (w:AV) (cs:List Int) (g:G):Prop where
 b:g.h.get bx=.cells 1 [[w]] 0 false false
 r:ah g.h 1 w=some (cs.map ci)
 l:∀g':G,eB .slice w g'=.val (.int .i64 (cs.length:Int))
structure OdoC (cs vs:List Int) (L:List (Nat×AV)) (u:AV) (g0:G) (m:Nat) (t:T) (g:G):Prop where
 st:tat t 5=.int .i64 ((m:Int) - 1)
 ss:St t L
 ow:Own g g0.nx u 1 ((vs.take m++List.replicate (vs.length - m) 0).map ci)
 mx:∀(j:Nat) (c:Int),m<=j->cs[j]?=some c->vs[j]?.getD 0=c - 1
theorem K5 {d id bx k m:Nat}{cs vs:List Int}{w u:AV}{Q:QT}{t:T}{g g0:G}(hb:CsOk cs)(hA:∀g',g.nx<=g'.nx->Uo g0.nx g g'->CA bx w cs g')(hc:InC cs vs)(hm:m<=cs.length)
  (h0:OdoC cs vs (LMc id bx u k) u g0 m t g) (hvu:vid u=some g0.nx)
  (fin:∀m' t g',m'<=cs.length->OdoC cs vs (LMc id bx u k) u g0 m' t g'->g.nx<=g'.nx->Uo g0.nx g g'->(m'=0\/∃x c,vs[m' - 1]?=some x/\cs[m' - 1]?=some c/\x≠c - 1/\0<m')->Q (.exit 2) t [] g') :
  wpL (wp C0 d none bE) Q t [] g:=by
 have hvl:=hc.len;have hl8:=hb.l;refine fI (λm t df g'=>df=[]/\m<=cs.length/\OdoC cs vs (LMc id bx u k) u g0 m t g'/\g.nx<=g'.nx/\Uo g0.nx g g') m ⟨rfl,hm,h0,Nat.le_refl _,Uo.refl _ _⟩ ?_;rintro m t df g1 ⟨rfl,hm,⟨h5,⟨h0,h1,h3,h4,-⟩,how,hmx⟩,hnx,hfr⟩;obtain ⟨kx,ri,-⟩:=hA g1 hnx hfr;simp only[bE];cases m with
 | zero =>
  have c1:¬((0:Int)<=((0:Nat):Int) - 1):=by omega
  simp only[sz,simprocAttr,h5,c1];refine fin 0 _ _ (Nat.zero_le _) ⟨?_,?_,?_,hmx⟩ ?_ ?_ (.inl rfl)
  ·simp[sx,h5]
  ·simp[St,LMc,sx,h0,h1,h3,h4]
  ·exact how
  ·exact hnx
  ·exact hfr
 | succ m =>
  have c1:(0:Int)<=((m+1:Nat):Int) - 1:=by omega
  have e1:((m+1:Nat):Int) - 1=(m:Int):=by omega
  rw[e1] at c1 h5;obtain ⟨x,hx,-,hxm⟩:=ak (l:=cs) (j:=m) (by omega);obtain ⟨v,hv,hv0,hv1⟩:=hc.get hx;have hcx:=hb.b x hxm;have u1:m<((vs.take (m+1)++List.replicate (vs.length - (m+1)) 0).map ci).length:=by simp;omega
  have u2:((vs.take (m+1)++List.replicate (vs.length - (m+1)) 0).map ci)[m]?=some (ci v):=by rw[List.getElem?_map,List.getElem?_append_left (by simp;omega),List.getElem?_take_of_lt (by omega),hv];rfl
  have z1:m<(cs.map ci).length:=by simp;omega
  have z2:(cs.map ci)[m]?=some (ci x):=by rw[List.getElem?_map,hx];rfl
  have ru:=how.rows;have w1:IntKind.wrap .i64 (x - 1)=x - 1:=an (by omega) (by omega)
  by_cases c2:v=x - 1
  ·simp only[sz,simprocAttr,h5,h1,h3,c1,ru,u1,u2,kx,ri,z1,z2,ci,w1,c2];refine xU (v:=u) (sz:=1) (n:=1) (i:=m) (off:=0) (x:=.int .i64 0) (row':=ci 0) how u2 rfl rfl rfl λg4 hu4 n4 f4 p4=>?_;rw[<-List.map_set,AX (by omega)] at hu4;have w2:IntKind.wrap .i64 ((m:Int) - 1)=(m:Int) - 1:=an (by omega) (by omega);simp only[sz,simprocAttr,h5,w2];refine ⟨m,by omega,by omega,⟨by simp[sx],by simp[St,LMc,sx,h0,h1,h3,h4],hu4,λj c hj hc'=>?_⟩,by omega,hfr.trans ⟨p4,by omega,λi hi _=>f4 i λe=>hi (by rw[hvu] at e;injection e with e;exact e.symm)⟩⟩
   by_cases e:j=m
   ·subst e;rw[hx] at hc';injection hc' with hc';rw[hv,Option.getD_some];omega
   ·exact hmx j c (by omega) hc'
  ·simp only[sz,simprocAttr,h5,h1,h3,c1,ru,u1,u2,kx,ri,z1,z2,ci,w1,c2];refine fin (m+1) _ _ hm ⟨?_,?_,?_,hmx⟩ ?_ ?_ (.inr ⟨v,x,hv,hx,c2,by omega⟩)
   ·simp[sx,h5]
   ·simp[St,LMc,sx,h0,h1,h3,h4]
   ·exact how
   ·exact hnx
   ·exact hfr
theorem K6 {d id bx:Nat}{cs:List Int}{w:AV}{g0:G}{K:AV->G->Prop}(hb:CsOk cs)
  (J:Nat->G->Prop) (E:G->Prop) (hA:∀j g,J j g->CA bx w cs g) (hJ:∀j g g',Uo g0.nx g g'->J j g->J j g')
  (step:∀(j:Nat) (u:AV) (g:G) (K':AV->G->Prop) (D:ADf->Prop),j<S.nc cs->g0.nx+1<=g.nx->J j g->SlR (λi=>g0.nx<=i/\i<g.nx) 0 g.h (S.aG cs j) u ->
   (∀g',J (j+1) g'->g.nx<=g'.nx->(∀i,g0.nx<=i->i<g.nx->g'.h.get i=g.h.get i)->K' (.bool true) g')->(∀g',E g'->K' (.bool false) g')->(cg (I C0) d id [.int .i64 (j:Int),u] g).sat K' g D)
  (h0:J 0 g0) (fin:∀g',J (S.nc cs) g'->g0.nx<=g'.nx->K (.tup []) g') (finE:∀g',E g'->K (.tup []) g') :
  wp C0 d none aO.code (fnQ C0 d aO.res K) (bT 0 [.yld id,.hptr bx 0 0 0] .nil) [] g0:=by
 have hl8:=hb.l;obtain ⟨W1,W2,W3⟩:=hb.nc;have hcs1:=λc hc=>(hb.b c hc).1;obtain ⟨kx0,-,nl⟩:=hA 0 g0 h0;obtain ⟨Qf,hQf⟩:∃Qf,Qf=fnQ C0 d aO.res K:=⟨_,rfl⟩;rw[<-hQf];simp only[sz,simprocAttr,aO,kx0,nl];refine k_ (b:=g0.nx) (n:=cs.length) (by unfold aW;omega) (by unfold aW;omega) (Nat.le_refl _) λu g1 hu n1 fr1 v1 l1=>?_;simp only[sz,simprocAttr];obtain ⟨INV,hINV⟩:∃INV:Nat->PT,INV=(λm t df g=>df=[]/\∃(j:Nat) (vs:List Int),m=S.nc cs - j/\j<S.nc cs/\InC cs vs/\S.ak cs vs=(j:Int)/\St t (LMc id bx u j)/\Own g g0.nx u 1 (vs.map ci)/\J j g/\g0.nx+1<=g.nx):=⟨_,rfl⟩;refine fI INV (S.nc cs) ?_ ?_
 ·rw[hINV];exact ⟨rfl,0,List.replicate cs.length 0,rfl,by omega,KQ hcs1,by rw[wW];rfl,by simp[St,LMc,sx],by simpa [ci] using hu,hJ 0 _ _ ⟨⟨fr1,λi hi=>by rw[l1] at hi;rcases List.mem_cons.1 hi with rfl | hi;exact .inr (Nat.le_refl _);exact .inl hi⟩,by omega,λi _ hn=>fr1 i hn⟩ h0,by omega⟩
 intro m t df g hI;have hI2:=hI;rw[hINV] at hI2;obtain ⟨rfl,j,vs,rfl,hj,hin,hidx,⟨h0,h1,h3,h4,-⟩,ho,hJj,hnx⟩:=hI2;clear hI;have hvl:=hin.len;have hval:S.aG cs (j:Int)=vs:=by rw[<-hidx];exact xY hcs1 hin
 have hvu:vid u=some g0.nx:=v1;have hsl:SlR (λi=>g0.nx<=i/\i<g.nx) 0 g.h vs u:=Own.sl (α:=Int) ho (by omega) (All2.of_map (λa=>bc.2 rfl) _) λi hi=>ho.lt hi;have w1:IntKind.wrap .i64 ((cs.length:Int) - 1)=(cs.length:Int) - 1:=an (by omega) (by omega);obtain ⟨R,hR⟩:∃R,R=(SC.seq (.blk 1 (sQ [oL 15 1,oN 16 15,o 17 (.bin .sub (.t 16) (qI 1)),oM 5 17] (.seq (.blk 2 (.loop bE)) bF))) cK):=⟨_,rfl⟩;simp only[fB];rw[<-hR,iP];obtain ⟨Q1,hQ1⟩:∃Q1,Q1=kL INV (S.nc cs - j) (kB 0 Qf):=⟨_,rfl⟩;rw[<-hQ1];have rest:∀(t:T) (g:G),St t (LMc id bx u j)->Own g g0.nx u 1 (vs.map ci)->J (j+1) g->g0.nx+1<=g.nx->wp C0 d none R Q1 t [] g:=by
  rintro t g ⟨h0,h1,h3,h4,-⟩ ho hJj hnx;rw[hR,hQ1];obtain ⟨kx,-,-⟩:=hA _ _ hJj;simp only[sz,simprocAttr,h1,kx,nl,w1];refine K5 (id:=id) (k:=j) (m:=cs.length) (w:=w) (u:=u) (vs:=vs) (g0:=g0) hb (λg' _ hU=>hA _ _ (hJ _ _ _ hU hJj)) hin (Nat.le_refl _) ⟨by simp[sx],by simp[St,LMc,sx,h0,h1,h3,h4],?_,λi c hi hc=>?_⟩ hvu ?_
  ·rw[List.take_of_length_le (by omega),show vs.length - cs.length=0 by omega];simpa using ho
  ·have:=(List.getElem?_eq_some_iff.1 hc).1;omega
  rintro m' t2 g2 hm' ⟨h5,⟨h0,h1,h3,h4,-⟩,ho2,hmx⟩ hn2 hf2 hcase;have hJ2:J (j+1) g2:=hJ _ _ _ hf2 hJj;rcases hcase with rfl | ⟨x,c,hx,hc,hxc,hm0⟩
  ·have hlast:j+1=S.nc cs:=by have:=Ag (cs:=cs) (vs:=vs) hin.len.symm λi c hc=>hmx i c (Nat.zero_le _) hc;omega
   have c1:(((0:Nat):Int) - 1<0):=by omega
   rw[hQf];simp only[sz,simprocAttr,bF,aO,h5,c1];rw[hlast] at hJ2;exact fin g2 hJ2 (by omega)
  ·obtain ⟨i,rfl⟩:∃i,m'=i+1:=⟨m' - 1,by omega⟩;rw[Nat.add_sub_cancel] at hx hc;have hil:=(List.getElem?_eq_some_iff.1 hx).1;have e1:((i+1:Nat):Int) - 1=(i:Int):=by omega
   rw[e1] at h5;have c1:¬((i:Int)<0):=by omega
   have u1:i<((vs.take (i+1)++List.replicate (vs.length - (i+1)) 0).map ci).length:=by simp;omega
   have u2:((vs.take (i+1)++List.replicate (vs.length - (i+1)) 0).map ci)[i]?=some (ci x):=by rw[List.getElem?_map,List.getElem?_append_left (by simp;omega),List.getElem?_take_of_lt (by omega),hx];rfl
   have ru:=ho2.rows;obtain ⟨x',hx',hx0,hx1⟩:=hin.get hc;rw[Lp hx' hx] at hx0 hx1;have hcb:=hb.b c (List.mem_of_getElem? hc);have w2:IntKind.wrap .i64 (x+1)=x+1:=an (by omega) (by omega);simp only[sz,simprocAttr,bF,h5,c1,h3,ru,u1,u2,ci,w2];refine xU (v:=u) (sz:=1) (n:=1) (i:=i) (off:=0) (x:=.int .i64 (x+1)) (row':=ci (x+1)) ho2 u2 rfl rfl rfl λg4 hu4 n4 f4 p4=>?_;rw[<-List.map_set,AW hil] at hu4;have hin2:=JE hin hcs1 hx hc hxc;have hidx2:=IY (cs:=cs) (vs:=vs) hin.len.symm hx λk c hk hc=>hmx k c (by omega) hc;rw[hidx] at hidx2;have hlt2:=jX hb.b hin2;have w3:IntKind.wrap .i64 ((j:Int)+1)=((j+1:Nat):Int):=by rw[an (by omega) (by omega)];rfl
   simp only[sz,simprocAttr,cK,h4,w3];refine ⟨S.nc cs - (j+1),by omega,?_⟩;rw[hINV];refine ⟨rfl,j+1,_,rfl,by omega,hin2,by rw[hidx2];rfl,by simp[St,LMc,sx,h0,h1,h3],hu4,hJ _ _ _ ⟨p4,by omega,λi hi _=>f4 i λe=>hi (by rw[hvu] at e;injection e with e;exact e.symm)⟩ hJ2,by omega⟩
 simp only[sz,simprocAttr,h0,h3,h4];have st:=λK' D=>step j u g K' D hj hnx hJj (by rw[hval];exact hsl);show (cg (I C0) d id [.int .i64 (j:Int),u] g).sat _ _ _;refine st _ _ (λg' hJ' hn' hf'=>?_) λg' hE=>?_
 ·simp only[sz,simprocAttr];exact rest _ _ (by simp[St,LMc,sx,h0,h1,h3,h4]) (ho.fr hn' λi hi=>hf' i (ho.lt hi).1 (ho.lt hi).2) hJ' (by omega)
 ·rw[hQ1,hQf];simp only[sz,simprocAttr,aO];exact finE g' hE
theorem Iq:C0.ext N.aQ=none:=by kernel_rfl
theorem Hj {d nt p q r bx:Nat}{cs:List Int}{w:AV}{ca cb:SC}{Q:QT}{t:T}{df:List ADf}{g:G}(hb:CsOk cs)
  (hv:tat t r=.clo N.aQ [] [.hptr bx 0 0 0]) (hp:p<nt) (hq:q<nt)
  (J:Nat->G->Prop) (E:G->Prop) (hA:∀j g1,J j g1->CA bx w cs g1) (hJ:∀j g1 g2,Ul g.nx g1 g2->J j g1->J j g2) (hE:∀g1 g2,Ul g.nx g1 g2->E g1->E g2) (h0:J 0 g)
  (step:∀(j:Nat) (u:AV) (g1:G),j<S.nc cs->J j g1->g.nx+3<=g1.nx->SlR (λi=>g.nx+2<=i/\i<g1.nx) 0 g1.h (S.aG cs j) u ->
   wp C0 d (some (g.nx+1)) ca (λe t1 df g1'=>e=.norm/\df=[]/\Fr g1 g1'/\∀g2:G,g2.nx=g1'.nx->(∀i,i≠g.nx+1->g2.h.get i=g1'.h.get i)->Up g.nx g1' g2 ->
    wp C0 d (some (g.nx+1)) cb (λe _ df g3=>df=[]/\RowQ g.nx g2 g3 e (J (j+1) g3) (E g3)) t1 [] g2)
    (eV (eV t p (.int .i64 (j:Int))) q u) [] g1)
  (fin:∀g',J (S.nc cs) g'->g.nx+2<=g'.nx->g'.h.get g.nx=.dfr true->Q .norm t (.mark g.nx::df) g')
  (finE:∀g',E g'->g.nx+2<=g'.nx->g'.h.get g.nx=.dfr true->Q .ret t (.mark g.nx::df) g') :
  wp C0 d none (.rng nt (.t r) [p,q] ca cb) Q t df g:=by
 refine rY (fn:=N.aQ) (first:=[]) (cap:=[.hptr bx 0 0 0]) (s:=aO) hv Iq m9 (by simp[aO]) ?_;intro assign body ha hb';have e1:((g.new (.dfr true)).new (.loop nt t [p,q] assign body g.nx .ready none)).nx=g.nx+2:=by simp
 refine K6 (g0:=(g.new (.dfr true)).new (.loop nt t [p,q] assign body g.nx .ready none)) (id:=g.nx+1) (bx:=bx) (w:=w) hb
  (λj g'=>J j g'/\g'.h.get g.nx=.dfr true/\g'.h.get (g.nx+1)=.loop nt t [p,q] assign body g.nx .ready none)
  (λg'=>E g'/\g'.h.get g.nx=.dfr true/\g'.h.get (g.nx+1)=.loop nt t [p,q] assign body g.nx .done (some .ret)/\g.nx+2<=g'.nx) (λj g' h=>hA j g' h.1) ?_ ?_ ?_ ?_ ?_
 ·rintro j h h' hh ⟨a1,a2,a3⟩;rw[e1] at hh;exact ⟨hJ j h h' ⟨hh.1.mono (by omega),hh.2.1,λi hi hn=>hh.2.2 i (by omega) hn⟩ a1,by rw[hh.1.1 _ (by omega),a2],by rw[hh.1.1 _ (by omega),a3]⟩
 ·rintro j u g1 K' D hj hn ⟨a1,a2,a3⟩ hsl kk kE;rw[e1] at hn kk hsl;refine zn a3 ha hb' (t':=eV (eV t p (.int .i64 (j:Int))) q u) ?_ ?_
  ·simp only[cN,aa,Nat.blt_eq,if_pos hp,if_pos hq];rfl
  ·refine bP _ (step j u g1 hj a1 (by omega) hsl) ?_;rintro e t1 df g1' ⟨rfl,rfl,hfr,h⟩;have hl0:g.nx+1<g1.nx:=by omega
   have hl:g.nx+1<g1'.nx:=Nat.lt_of_lt_of_le hl0 hfr.1;have a2':g1'.h.get g.nx=.dfr true:=by rw[hfr.2 _ (by omega),a2]
   have a3':g1'.h.get (g.nx+1)=.loop nt t [p,q] assign body g.nx .ready none:=by rw[hfr.2 _ hl0,a3]
   refine ⟨rfl,rfl,a3',?_⟩;refine bP _ (h (g1'.put (g.nx+1) (.loop nt t [p,q] assign body g.nx .busy none)) (by simp) (λi hi=>by simp[H.get_put,hi]) (Up.put (by omega) _)) ?_;rintro e t2 df g3 ⟨rfl,⟨b2,b3,b1⟩⟩;have b4:g3.h.get (g.nx+1)=.loop nt t [p,q] assign body g.nx .busy none:=by rw[b3 _ (by omega) (by simpa using hl)];simp[H.get_put]
   have b5:g3.h.get g.nx=.dfr true:=by rw[b3 _ (by omega) (by simp;omega)];simp[H.get_put,a2']
   refine ⟨rfl,b4,?_⟩;have b2':g1'.nx<=g3.nx:=by simpa using b2
   have hf1:=hfr.1;rcases b1 with ⟨rfl,b1⟩ | ⟨rfl,b1⟩
   ·refine .inl ⟨rfl,kk _ ⟨hJ _ g3 _ (Ul.put (by omega) (by omega) _) b1,?_,?_⟩ (by simp;omega) λi h1 h2=>?_⟩
    ·simp[H.get_put,b5]
    ·simp[H.get_put]
    ·have hne:¬i=g.nx+1:=by omega
     have:=b3 i (by omega) (by simp;omega);simp[H.get_put,hne] at this ⊢;rw[this,hfr.2 i h2]
   ·refine .inr ⟨rfl,kE _ ⟨hE g3 _ (Ul.put (by omega) (by omega) _) b1,?_,?_,?_⟩⟩
    ·simp[H.get_put,b5]
    ·simp[H.get_put]
    ·simp;omega
 ·refine ⟨hJ 0 g _ ⟨(Up.new (Nat.le_refl _) _).trans (Up.new (by simp) _),by simp;omega,λi hi hn=>by simp[H.get_put,show ¬i=g.nx by omega,show ¬i=g.nx+1 by omega]⟩ h0,?_,?_⟩
  ·simp[H.get_put]
  ·simp[H.get_put]
 ·rintro g' ⟨a1,a2,a3⟩ hn;rw[e1] at hn;refine ⟨_,_,_,_,_,_,.inl ⟨a3,fin _ (hJ _ g' _ (Ul.put (by omega) (by omega) _) a1) (by simpa using hn) ?_⟩⟩;simp[H.get_put,a2]
 ·rintro g' ⟨a1,a2,a3,hn⟩;refine ⟨_,_,_,_,_,_,.inr ⟨a3,finE _ (hE g' _ (Ul.put (by omega) (by omega) _) a1) (by simpa using hn) ?_⟩⟩;simp[H.get_put,a2]
theorem H_ {d:Nat}{g:G}{w:AV}{K:AV->G->Prop}{D:ADf->Prop}(hc:w.cells=[w])(ht:w.isTup=false)
  (kk:K (.clo N.aQ [] [.hptr g.nx 0 0 0]) (g.new (.cells 1 [[w]] 0 false false))):(ax C0 d N.bk [w] g).sat K g D:=by
 rw[mV];refine gK pj (by simp[eP]) ?_;have hbx:∀g:G,vX w g=.upd (.hptr g.nx 0 0 0) (g.new (.cells 1 [[w]] 0 false false)):=λg=>by rw[C4 w g ht,hc];rfl
 simp only[sz,simprocAttr,eP,g_,hbx];exact kk
theorem uG {n:Net}{e:List Int}:S.bh n e=0↔S.a_ n=true/\S.aP n e=true:=by rw[S.bh];cases S.a_ n<;>cases S.aP n e<;>simp
structure GvJ (g0:G) (q:Nat) (s:Int) (h:H):Prop where
 fr:∀i,i<g0.nx->i≠q->h.get i=g0.h.get i
 hq:h.get q=.cells 1 [[.int .i64 s]] 0 false false
structure ND where
 c:Nat->Int
 P:Nat->List Int
 m:Nat->Nat
 R:Nat->Nat->List Int
 o:Nat->Nat
def LN (n:Nat)(D:ND):Ky->Prop:=λk=>k=(0,0)\/∃i q,k=(i+1,q)/\i<n/\q<2+D.o i
theorem LN.z {n:Nat}{D:ND}:LN n D (0,0):=.inl rfl
theorem LN.s {n:Nat}{D:ND}{i q:Nat}(h:i<n)(hq:q<2+D.o i):LN n D (i+1,q):=.inr ⟨i,q,rfl,h,hq⟩
theorem LN.p {n:Nat}{D:ND}{i:Nat}(h:i<n):LN n D (i+1,0):=LN.s h (by omega)
theorem LN.r {n:Nat}{D:ND}{i:Nat}(h:i<n):LN n D (i+1,1):=LN.s h (by omega)
def fH (D:ND)(V:Ky->AV)(i:Nat):List AV:=[.int .i64 (D.c i),V (i+1,0),V (i+1,1)]
def DZ (V:Ky->AV)(i r:Nat):List AV:=[V (i+1,2+r)]
structure BN (K n:Nat) (V:Ky->AV) (E:Ky->En) (D:ND):Prop where
 ns:E (0,0)=.sl 3 ((List.range n).map (fH D V))
 ps:∀i,i<n->E (i+1,0)=.sl 1 ((D.P i).map ci)/\(D.P i).length<=K
 rs:∀i,i<n->E (i+1,1)=.sl 1 ((List.range (D.m i)).map (DZ V i))/\D.m i<=K
 rr:∀i r,i<n->r<D.m i->(D.R i r).length<=K/\((r<D.o i/\E (i+1,2+r)=.sl 1 ((D.R i r).map ci))\/SlR NoP 0 .nil (D.R i r) (V (i+1,2+r)))
def ND.node (D:ND)(i:Nat):Node:=⟨D.c i,D.P i,(List.range (D.m i)).map (D.R i)⟩
theorem FY {g:G}{b:Nat}{v:AV}{l:List Int}{P:Nat->Prop}(h:Own g b v 1 (l.map ci))(hl:l.length<9223372036854775808)(hp:∀i,b<=i->P i):SlR P 0 g.h l v :=
 Own.sl (α:=Int) h hl (All2.of_map (λa=>bc.2 rfl) _) λi hi=>hp i (h.lt hi).1
theorem BN.rows {g:G}{b K n i:Nat}{V:Ky->AV}{E:Ky->En}{D:ND}{L:Ky->Prop}(hB:BN K n V E D)(hH:Hp g b L V E)(hL:∀k,LN n D k->L k)(hK:K<=1000000)(hi:i<n):SlR (λj=>b<=j) 0 g.h ((List.range (D.m i)).map (D.R i)) (V (i+1,1)):=by
 obtain ⟨h1,h2⟩:=hB.rs i hi;have ho:=hH.own (hL _ (LN.r hi)) h1;refine Own.sl (α:=List Int) ho (by simp;omega) (tK λr hr=>?_) λj hj=>(ho.lt hj).1;have hr:=List.mem_range.1 hr;obtain ⟨h4,h3⟩:=hB.rr i r hi hr;rcases h3 with ⟨h5,h3⟩ | h3
 ·exact AH.2 ⟨_,rfl,FY (hH.own (hL _ (LN.s hi (by omega))) h3) (by omega) λ_ h=>h⟩
 ·exact AH.2 ⟨_,rfl,(h3.tree (h':=g.h) (Nat.le_refl 0)).wd λ_ h=>h.elim⟩
theorem Hp.off {κ:Type} [DecidableEq κ]{g:G}{b:Nat}{L:κ->Prop}{V:κ->AV}{E:κ->En}{k:κ}{x:AV}(h:Hp g b L V E)(hk:¬L k):Hp g b L (ups V k x) E:=by have ne:∀j,L j->j≠k:=λj hj e=>hk (by rw[<-e];exact hj);exact ⟨λj hj=>by rw[am V x (ne j hj)];exact h.ok j hj,λj l hj hl hne id=>by rw[am V x (ne j hj),am V x (ne l hl)];exact h.sep j l hj hl hne id,h.nx⟩
theorem BN.pars {g:G}{b K n i:Nat}{V:Ky->AV}{E:Ky->En}{D:ND}{L:Ky->Prop}(hB:BN K n V E D)(hH:Hp g b L V E)(hL:∀k,LN n D k->L k)(hK:K<=1000000)(hi:i<n):SlR (λj=>b<=j) 0 g.h (D.P i) (V (i+1,0)):=by obtain ⟨h1,h2⟩:=hB.ps i hi;exact FY (hH.own (hL _ (LN.p hi)) h1) (by omega) λ_ h=>h
theorem BN.nodes {g:G}{b K n:Nat}{V:Ky->AV}{E:Ky->En}{D:ND}{L:Ky->Prop}(hB:BN K n V E D)(hH:Hp g b L V E)(hL:∀k,LN n D k->L k)(hK:K<=1000000)(hn:n<=1000000):SlR (λj=>b<=j) 0 g.h ((List.range n).map D.node) (V (0,0)):=by have ho:=hH.own (hL _ LN.z) hB.ns;refine Own.sl (α:=Node) ho (by simp;omega) (tK λi hi=>?_) λj hj=>(ho.lt hj).1;have hi:=List.mem_range.1 hi;exact dh.2 ⟨_,_,rfl,hB.pars hH hL hK hi,hB.rows hH hL hK hi⟩
theorem mK {α:Type}(f:Nat->α){n i:Nat}(x:α)(hi:i<n):((List.range n).map f).set i x=(List.range n).map (ups f i x):=by
 refine List.ext_getElem (by simp) λj h1 h2=>?_;rw[List.getElem_set]
 by_cases e:i=j
 ·subst e;simp[aG]
 ·rw[if_neg e];simp[am _ _ (Ne.symm e)]
theorem fU {α:Type}(f:Nat->α){n i:Nat}(hi:i<n):((List.range n).map f)[i]?=some (f i):=by simp[hi]
theorem xA {D D':ND}{V V':Ky->AV}{n i:Nat}{row:List AV}(h0:row=fH D' V' i)(h:∀j,j<n->j≠i->fH D V j=fH D' V' j):(List.range n).map (ups (fH D V) i row)=(List.range n).map (fH D' V'):=by
 refine List.map_congr_left λj hj=>?_;have hj:=List.mem_range.1 hj
 by_cases e:j=i
 ·subst e;rw[aG,h0]
 ·rw[am _ _ e,h j hj e]
def KS (gr c:Int)(l:List Int):Prop:=(l.length:Int)=c/\(∀y∈l,0<=y/\y<=gr)/\l.sum=gr
def OF (gr:Int)(C:Nat):VS:=λP k h v=>∃l:List Int,(l.length=C/\KS gr C l)/\One l P k h v
def S.rq (gr s x:Int):Int:=gr*x / s
theorem FL (gr s:Int):S.rq gr s 0=0:=by simp[S.rq]
theorem DY {gr s:Int}(hs:0<=s)(hg:0<=gr):∀l:List Int,(∀x∈l,0<=x/\x<=s)->0<=(l.map (S.rq gr s)).sum/\(l.map (S.rq gr s)).sum*s<=gr*l.sum
 | [],_=>by simp
 | x::l,h=>by
  have ih:=DY hs hg l λy hy=>h y (List.mem_cons_of_mem _ hy);have hx:=h x (List.mem_cons_self ..);have h1:0<=S.rq gr s x:=Int.ediv_nonneg (Int.mul_nonneg hg hx.1) hs;have h2:S.rq gr s x*s<=gr*x:=by
   by_cases e:s=0
   ·have:x=0:=by omega
    subst this;simp[S.rq,e]
   ·exact Int.ediv_mul_le _ e
  simp only[List.map_cons,List.sum_cons];refine ⟨by omega,?_⟩;rw[Int.add_mul,Int.mul_add];omega
theorem vC:∀(l:List Int),(∀x∈l,0<=x)->0<=l.sum/\∀x∈l,x<=l.sum
 | [],_=>by simp
 | a::l,h=>by
  have ih:=vC l λy hy=>h y (List.mem_cons_of_mem _ hy);have ha:=h a (List.mem_cons_self ..);simp only[List.sum_cons];refine ⟨by omega,λx hx=>?_⟩;rcases List.mem_cons.1 hx with rfl | hx
  ·omega
  ·have:=ih.2 x hx;omega
theorem F8:∀(l:List Int) (i:Nat) (x y:Int),l[i]?=some x->(l.set i y).sum=l.sum - x+y
 | [],i,x,y,h=>by simp at h
 | a::l,0,x,y,h=>by simp at h;subst h;simp only[List.set_cons_zero,List.sum_cons];omega
 | a::l,i+1,x,y,h=>by rw[List.set_cons_succ,List.sum_cons,List.sum_cons,F8 l i x y (by simpa using h)];omega
theorem L5 {gr s:Int}{X:List Int}{la:Nat}(hg:0<=gr)(hX:∀x∈X,0<=x/\x<=s)(hs:s=X.sum)(hla:la<X.length){x:Int}(hx:(X.map (S.rq gr s))[la]?=some x):KS gr X.length ((X.map (S.rq gr s)).set la (x+(gr - (X.map (S.rq gr s)).sum)))/\0<=x+(gr - (X.map (S.rq gr s)).sum)/\x+(gr - (X.map (S.rq gr s)).sum)<=gr:=by
 have hs0:0<=s:=by rw[hs];exact (vC X λx hx=>(hX x hx).1).1
 have hq:=DY hs0 hg X hX;have hle:(X.map (S.rq gr s)).sum<=gr:=by
  by_cases e:s=0
  ·have h0:∀x∈X,x=0:=λx hx=>by have:=hX x hx;omega
   have:X.map (S.rq gr s)=List.replicate X.length 0:=by rw[List.eq_replicate_iff];refine ⟨by simp,λy hy=>?_⟩;obtain ⟨z,hz,rfl⟩:=List.mem_map.1 hy;rw[h0 z hz,FL]
   rw[this];have:∀n:Nat,(List.replicate n (0:Int)).sum=0:=λn=>by induction n with
    | zero=>rfl
    | succ n ih=>rw[List.replicate_succ,List.sum_cons,ih];rfl
   rw[this];exact hg
  ·have h1:=hq.2;rw[<-hs] at h1;exact Int.le_of_mul_le_mul_right h1 (by omega)
 have hn:∀y∈X.map (S.rq gr s),0<=y:=λy hy=>by obtain ⟨z,hz,rfl⟩:=List.mem_map.1 hy;exact Int.ediv_nonneg (Int.mul_nonneg hg (hX z hz).1) hs0
 have hx0:=hn x (List.mem_of_getElem? hx);have hsum:((X.map (S.rq gr s)).set la (x+(gr - (X.map (S.rq gr s)).sum))).sum=gr:=by rw[F8 _ _ _ _ hx];omega
 have hn2:∀y∈(X.map (S.rq gr s)).set la (x+(gr - (X.map (S.rq gr s)).sum)),0<=y:=λy hy=>by
  rcases List.mem_or_eq_of_mem_set hy with h | rfl
  ·exact hn y h
  ·omega
 have hb:=vC _ hn2;rw[hsum] at hb;refine ⟨⟨by simp,λy hy=>⟨hn2 y hy,hb.2 y hy⟩,hsum⟩,by omega,hb.2 _ ?_⟩;exact List.mem_set (by simpa using hla) _
structure Rw1 (gr:Int) (nv u:AV) (C F j:Nat) (t:T) (g:G):Prop where
 st:St t [(0,.int .i64 gr),(1,.int .i64 (C:Int)),(2,nv),(3,.int .i64 (F:Int)),(9,u)]
 hX:∃(X:List Int) (s:Int),tat t 10=.int .i64 s/\X.length=C/\Own g 0 u 1 (X.map ci)/\(∀x∈X,0<=x/\x<=7)/\s=(X.take j).sum/\0<=s/\s<=7*j
theorem NW {d C F kk:Nat}{gr:Int}{nv u:AV}{l:List UInt8}{Q:QT}{t:T}{g:G}(hC:C<=3)(hF:F<=1000)(hl:SlR NoP kk .nil l nv)(h0:Rw1 gr nv u C F 0 t g)(h11:tat t 11=.int .i64 0)
  (fin:∀t g,Rw1 gr nv u C F C t g->Q (.exit 0) t [] g):wpL (wp C0 d none kJ) Q t [] g:=by
 obtain ⟨nr,r1,r2,r3,r4⟩:=hl.all;have r1:∀h',ah h' 1 nv=some nr:=r1;have hll:=hl.1;have ll:=hl.len;simp only[kJ,pS];refine eA C (by omega) (λj t df g=>df=[]/\Rw1 gr nv u C F j t g) ⟨rfl,h0⟩ h11 (by decide) ?_ ?_ ?_ ?_
 ·rintro j t df g v s (rfl | rfl | rfl) ⟨a1,⟨b1,b2,b3,b4,b5,-⟩,X,s',c1,c2⟩<;>exact ⟨a1,by simp[St,sx,b1,b2,b3,b4,b5],X,s',by simp[sx,c1],c2⟩
 ·rintro j t df g hj ⟨rfl,⟨h0,h1,h2,h3,h9,-⟩,X,s,h10,hX⟩ h11;simp only[sz,simprocAttr,h11,h1];exact ⟨by simp[St,sx,h0,h1,h2,h3,h9],X,s,by simp[sx,h10],hX⟩
 ·rintro j t df g hj ⟨rfl,⟨h0,h1,h2,h3,h9,-⟩,X,s,h10,hXl,hX,hXb,hXs,hs0,hs1⟩ h11;refine bM (P:=λt' df g'=>df=[]/\∃(X':List Int) (x':Int),St t' [(0,.int .i64 gr),(1,.int .i64 (C:Int)),(2,nv),(3,.int .i64 (F:Int)),(9,u),(10,.int .i64 s),(11,.int .i64 (j:Int))]/\X'.length=C/\Own g' 0 u 1 (X'.map ci)/\(∀x∈X',0<=x/\x<=7)/\X'[j]?=some x'/\∀i,i≠j->X'[i]?=X[i]?) ?_ ?_
  ·have hXj:X[j]?=some X[j]:=List.getElem?_eq_getElem (by omega);simp only[sz,simprocAttr,h2,ll];refine eZ (λhb=>?_) (λhb=>?_)
   ·have hb:0<l.length:=by simpa using hb
    have w1:IntKind.wrap .i64 ((F:Int)+(j:Int))=((F+j:Nat):Int):=by rw[an (by omega) (by omega)];simp
    have q1:=tu (x:=F+j) (y:=l.length) hb;have hmod:=Nat.mod_lt (F+j) hb;generalize (F+j) % l.length=a at q1 hmod;obtain ⟨y,hy,-,-⟩:=ak (l:=l) (j:=a) hmod;obtain ⟨row,z1,z2⟩:=r3 a y hy;rw[ic.1 z2] at z1;have hlt:a<nr.length:=by omega
    have q2:=e6 .u8 (a:=(y.toNat:Int)) (b:=8) (by omega) (by omega);have hm0:0<=(y.toNat:Int) % 8:=Int.emod_nonneg _ (by decide);have hm1:(y.toNat:Int) % 8<8:=Int.emod_lt_of_pos _ (by decide);have w2:IntKind.wrap .i64 ((y.toNat:Int) % 8)=(y.toNat:Int) % 8:=an (by omega) (by omega);generalize (y.toNat:Int) % 8=z at q2 hm0 hm1 w2;have u1:j<(X.map ci).length:=by simp;omega
    have u2:(X.map ci)[j]?=some (ci X[j]):=by rw[List.getElem?_map,hXj];rfl
    have rX:=hX.rows;simp only[sz,simprocAttr,h2,h3,h9,h11,ll,w1,q1,r1,hlt,z1,q2,w2,rX,u1];refine cO (v:=u) (sz:=1) (n:=1) (i:=j) (off:=0) (x:=.int .i64 z) (row':=ci z) hX u2 rfl rfl rfl λg4 hu4 n4 f4=>?_;rw[<-List.map_set] at hu4;simp only[sx,sy];refine ⟨X.set j z,z,by simp[St,sx,h0,h1,h2,h3,h9,h10,h11],by simp[hXl],hu4,λx hx=>?_,by rw[List.getElem?_set_self (by omega)],λi hi=>by rw[List.getElem?_set_ne (Ne.symm hi)]⟩;rcases List.mem_or_eq_of_mem_set hx with h | rfl
    ·exact hXb x h
    ·omega
   ·simp only[sx,sy];exact ⟨X,X[j],by simp[St,sx,h0,h1,h2,h3,h9,h10,h11],hXl,hX,hXb,hXj,λ_ _=>rfl⟩
  clear h0 h1 h2 h3 h9 h10 h11 hX;rintro t df g ⟨rfl,X',x',⟨h0,h1,h2,h3,h9,h10,h11,-⟩,hXl',hX',hXb',hxj,hXo⟩;have u1:j<(X'.map ci).length:=by simp;omega
  have u2:(X'.map ci)[j]?=some (ci x'):=by rw[List.getElem?_map,hxj];rfl
  have rX:=hX'.rows;have hx':=hXb' x' (List.mem_of_getElem? hxj);have w1:IntKind.wrap .i64 (s+x')=s+x':=an (by omega) (by omega);simp only[sz,simprocAttr,pR,h10,h9,h11,rX,u1,u2,ci,w1];have ht:X'.take j=X.take j:=List.ext_getElem? λi=>by
   by_cases e:i<j
   ·rw[List.getElem?_take_of_lt e,List.getElem?_take_of_lt e,hXo i (by omega)]
   ·rw[List.getElem?_eq_none (by simp;omega),List.getElem?_eq_none (by simp;omega)]
  refine ⟨by simp[St,sx,h0,h1,h2,h3,h9],X',s+x',by simp[sx],hXl',hX',hXb',?_,by omega,by omega⟩;rw[List.take_add_one,hxj,ht,List.sum_append,<-hXs];simp
 ·rintro t df g ⟨rfl,h⟩;exact fin t g h
structure Rw2 (gr s:Int) (u:AV) (C:Nat) (X:List Int) (j:Nat) (t:T) (g:G):Prop where
 st:St t [(0,.int .i64 gr),(1,.int .i64 (C:Int)),(9,u),(10,.int .i64 s)]
 hX:∃(la:Nat),tat t 12=.int .i64 (gr - ((X.take j).map (S.rq gr s)).sum)/\tat t 13=.int .i64 (la:Int)/\la<C/\Own g 0 u 1 (((X.take j).map (S.rq gr s)++X.drop j).map ci)
theorem L7 {gr s:Int}{X:List Int}{j:Nat}(h:j<X.length):((X.take j).map (S.rq gr s)++X.drop j).set j (S.rq gr s X[j])=(X.take (j+1)).map (S.rq gr s)++X.drop (j+1):=by
 have hl:((X.take j).map (S.rq gr s)).length=j:=by simp;omega
 rw[List.set_append_right _ _ (by omega),hl,Nat.sub_self,List.drop_eq_getElem_cons h,List.set_cons_zero,List.take_succ_eq_append_getElem h,List.map_append,List.append_assoc]
 rfl
theorem NX {d C:Nat}{gr s:Int}{u:AV}{X:List Int}{Q:QT}{t:T}{g:G}(hC:C<=3)(hg:0<=gr/\gr<=60)(hXl:X.length=C)(hXb:∀x∈X,0<=x/\x<=7/\x<=s)(h0:Rw2 gr s u C X 0 t g)(h14:tat t 14=.int .i64 0)
  (fin:∀t g,Rw2 gr s u C X C t g->Q (.exit 2) t [] g):wpL (wp C0 d none kK) Q t [] g:=by
 simp only[kK,pU];refine eA C (by omega) (λj t df g=>df=[]/\Rw2 gr s u C X j t g) ⟨rfl,h0⟩ h14 (by decide) ?_ ?_ ?_ ?_
 ·rintro j t df g v s (rfl | rfl | rfl) ⟨a1,⟨b1,b2,b3,b4,-⟩,la,c1,c2,c3⟩<;>exact ⟨a1,by simp[St,sx,b1,b2,b3,b4],la,by simp[sx,c1],by simp[sx,c2],c3⟩
 ·rintro j t df g hj ⟨rfl,⟨h0,h1,h9,h10,-⟩,la,h12,h13,hX⟩ h14;simp only[sz,simprocAttr,h14,h1];exact ⟨by simp[St,sx,h0,h1,h9,h10],la,by simp[sx,h12],by simp[sx,h13],hX⟩
 ·rintro j t df g hj ⟨rfl,⟨h0,h1,h9,h10,-⟩,la,h12,h13,hla,hX⟩ h14;have hjl:j<X.length:=by omega
  obtain ⟨b0,b1,b2⟩:=hXb X[j] (List.getElem_mem hjl);have hYl:((X.take j).map (S.rq gr s)++X.drop j).length=C:=by simp;omega
  have hYj:((X.take j).map (S.rq gr s)++X.drop j)[j]?=some X[j]:=by rw[List.getElem?_append_right (by simp;omega)];simp[show min j X.length=j by omega,hjl]
  have u1:j<(((X.take j).map (S.rq gr s)++X.drop j).map ci).length:=by rw[List.length_map,hYl];exact hj
  have u2:(((X.take j).map (S.rq gr s)++X.drop j).map ci)[j]?=some (ci X[j]):=by rw[List.getElem?_map,hYj];rfl
  have rX:=hX.rows;have hgx:0<=gr*X[j]:=Int.mul_nonneg hg.1 b0;have hgx2:gr*X[j]<=60*7:=Int.mul_le_mul hg.2 b1 b0 (by decide);have hset:=L7 (gr:=gr) (s:=s) hjl;have hsq:(X.take (j+1)).map (S.rq gr s)=(X.take j).map (S.rq gr s)++[S.rq gr s X[j]]:=by rw[List.take_succ_eq_append_getElem hjl,List.map_append];rfl
  have hsb:=DY (gr:=gr) (s:=s) (by omega) hg.1 (X.take j) λy hy=>by have:=hXb y (List.mem_of_mem_take hy);omega
  have hqb:∀x∈X,0<=S.rq gr s x/\S.rq gr s x<=420:=λx hx=>by obtain ⟨c0,c1,c2⟩:=hXb x hx;have h1:0<=gr*x:=Int.mul_nonneg hg.1 c0;have h2:gr*x<=60*7:=Int.mul_le_mul hg.2 c1 c0 (by decide);refine ⟨Int.ediv_nonneg h1 (by omega),?_⟩;have:=Int.ediv_le_self (b:=s) h1;unfold S.rq;omega
  have hqs:∀l:List Int,(∀x∈l,x∈X)->(l.map (S.rq gr s)).sum<=420*l.length:=λl=>by
   induction l with
   | nil=>intro _;simp
   | cons a l ih =>
    intro h;have h1:=hqb a (h a (List.mem_cons_self ..));have h2:=ih λy hy=>h y (List.mem_cons_of_mem _ hy);simp only[List.map_cons,List.sum_cons,List.length_cons]
    push_cast
    omega
  have hql:=hqs (X.take j) λx hx=>List.mem_of_mem_take hx;have hql2:(X.take j).length<=3:=by simp;omega
  have hqj:=hqb X[j] (List.getElem_mem hjl);refine bM (P:=λt' df g'=>df=[]/\∃(la':Nat),St t' [(0,.int .i64 gr),(1,.int .i64 (C:Int)),(9,u),(10,.int .i64 s),(12,.int .i64 (gr - ((X.take j).map (S.rq gr s)).sum)),(13,.int .i64 (la':Int)),(14,.int .i64 (j:Int))]/\la'<C/\Own g' 0 u 1 (((X.take (j+1)).map (S.rq gr s)++X.drop (j+1)).map ci)) ?_ ?_
  ·simp only[sz,simprocAttr,h9,h14,rX,u1,u2,ci];refine eZ (λhb=>?_) (λhb=>?_)
   ·have hb:0<X[j]:=by simpa using hb
    have w1:IntKind.wrap .i64 (gr*X[j])=gr*X[j]:=an (by omega) (by omega);have q1:bA .quo (.int .i64 (gr*X[j])) (.int .i64 s)=.val (.int .i64 (S.rq gr s X[j])):=sA (x:=gr*X[j]) (y:=s) hgx (by omega) (by omega);simp only[sz,simprocAttr,h0,h9,h10,h14,rX,u1,u2,ci,w1,q1];refine cO (v:=u) (sz:=1) (n:=1) (i:=j) (off:=0) (x:=.int .i64 (S.rq gr s X[j])) (row':=ci (S.rq gr s X[j])) hX u2 rfl rfl rfl λg4 hu4 n4 f4=>?_;rw[<-List.map_set,hset] at hu4;simp only[sz,simprocAttr,h14];exact ⟨j,by simp[St,sx,h0,h1,h9,h10,h12,h14],by omega,hu4⟩
   ·have hb:X[j]=0:=by
     have:¬0<X[j]:=by simpa using hb
     omega
    simp only[sx,sy];refine ⟨la,by simp[St,sx,h0,h1,h9,h10,h12,h13,h14],hla,?_⟩;rw[<-hset,hb,FL,<-hb];have:((X.take j).map (S.rq gr s)++X.drop j).set j X[j]=(X.take j).map (S.rq gr s)++X.drop j:=by
     refine List.ext_getElem? λi=>?_
     by_cases e:j=i
     ·subst e;rw[List.getElem?_set_self (by omega),hYj]
     ·rw[List.getElem?_set_ne e]
    rw[this];exact hX
  clear h0 h1 h9 h10 h12 h13 h14 hX rX hla u1 u2;rintro t df g ⟨rfl,la',⟨h0,h1,h9,h10,h12,h13,h14,-⟩,hla,hX'⟩;have hYl':((X.take (j+1)).map (S.rq gr s)++X.drop (j+1)).length=C:=by simp;omega
  have hYj':((X.take (j+1)).map (S.rq gr s)++X.drop (j+1))[j]?=some (S.rq gr s X[j]):=by rw[List.getElem?_append_left (by simp;omega),hsq,List.getElem?_append_right (by simp;omega)];simp[show min j X.length=j by omega]
  have u1:j<(((X.take (j+1)).map (S.rq gr s)++X.drop (j+1)).map ci).length:=by rw[List.length_map,hYl'];exact hj
  have u2:(((X.take (j+1)).map (S.rq gr s)++X.drop (j+1)).map ci)[j]?=some (ci (S.rq gr s X[j])):=by rw[List.getElem?_map,hYj'];rfl
  have rX:=hX'.rows;have w1:IntKind.wrap .i64 (gr - ((X.take j).map (S.rq gr s)).sum - S.rq gr s X[j])=gr - ((X.take (j+1)).map (S.rq gr s)).sum:=by rw[hsq,List.sum_append,an (by omega) (by omega)];simp;omega
  simp only[sz,simprocAttr,pT,h12,h9,h14,rX,u1,u2,ci,w1];exact ⟨by simp[St,sx,h0,h1,h9,h10],la',by simp[sx],by simp[sx,h13],hla,hX'⟩
 ·rintro t df g ⟨rfl,h⟩;exact fin t g h
theorem NY {d C F kk:Nat}{g:G}{nv:AV}{gr:Int}{l:List UInt8}(hd:0<d)(hC:1<=C/\C<=3)(hF:F<=1000)(hg:0<=gr/\gr<=60)(hl:SlR NoP kk .nil l nv) :
  ∃r,ax C0 d N.aw [.int .i64 gr,.int .i64 (C:Int),nv,.int .i64 (F:Int)] g=.val r/\OF gr C NoP 0 .nil r:=by
 rw[wm];refine bu z0 (xs:=[.int .i64 gr,.int .i64 (C:Int),nv,.int .i64 (F:Int)]) (by simp only[aI,ig d (hl.tree (h':=g.h) (Nat.le_refl _)),iQ 0]) (by simp[pQ]) (tz λo=>bj _) (by decide) hd ?_;simp only[sz,simprocAttr,pQ];refine Ar (b:=0) (n:=C) (by unfold aW;omega) (by unfold aW;omega) (Nat.zero_le _) λu g1 hu n1 f1 vu=>?_;simp only[sz,simprocAttr];refine NW (gr:=gr) (nv:=nv) (u:=u) (C:=C) (F:=F) hC.2 hF hl ⟨by simp[St,sx],List.replicate C 0,0,by simp[sx],by simp,by simpa [ci] using hu,λx hx=>by rw[(List.mem_replicate.1 hx).2];decide,by simp,by omega,by omega⟩ (by simp[sx]) ?_;rintro t g2 ⟨⟨h0,h1,h2,h3,h9,-⟩,X,s,h10,hXl,hX,hXb,hXs,hs0,hs1⟩;rw[List.take_of_length_le (by omega)] at hXs;have hms:=vC X λx hx=>(hXb x hx).1;simp only[sz,simprocAttr,pW,h0];refine NX (gr:=gr) (s:=s) (u:=u) (C:=C) (X:=X) hC.2 hg hXl (λx hx=>⟨(hXb x hx).1,(hXb x hx).2,by rw[hXs];exact hms.2 x hx⟩) ⟨by simp[St,sx,h0,h1,h9,h10],0,by simp[sx],by simp[sx],by omega,by simpa using hX⟩ (by simp[sx]) ?_;clear h0 h1 h2 h3 h9 h10 hX;rintro t g3 ⟨⟨h0,h1,h9,h10,-⟩,la,h12,h13,hla,hX⟩;rw[List.take_of_length_le (by omega)] at h12 hX;rw[List.drop_eq_nil_of_le (by omega),List.append_nil] at hX;obtain ⟨x,hx⟩:∃x,(X.map (S.rq gr s))[la]?=some x:=⟨_,List.getElem?_eq_getElem (by simp;omega)⟩;obtain ⟨f1,f2,f3⟩:=L5 (gr:=gr) (s:=s) (X:=X) (la:=la) hg.1 (λx hx=>⟨(hXb x hx).1,by rw[hXs];exact hms.2 x hx⟩) hXs (by omega) hx;have u1:la<((X.map (S.rq gr s)).map ci).length:=by simp;omega
 have u2:((X.map (S.rq gr s)).map ci)[la]?=some (ci x):=by rw[List.getElem?_map,hx];rfl
 have rX:=hX.rows;have w1:IntKind.wrap .i64 (x+(gr - (X.map (S.rq gr s)).sum))=x+(gr - (X.map (S.rq gr s)).sum):=an (by omega) (by omega);simp only[sz,simprocAttr,pV,h9,h13,h12,rX,u1,u2,ci,w1];refine cO (v:=u) (sz:=1) (n:=1) (i:=la) (off:=0) (x:=.int .i64 (x+(gr - (X.map (S.rq gr s)).sum))) (row':=ci (x+(gr - (X.map (S.rq gr s)).sum))) hX u2 rfl rfl rfl λg4 hu4 n4 f4=>?_;rw[<-List.map_set] at hu4;simp only[sz,simprocAttr,h9];exact ⟨λ_=>True,_,⟨by simp[hXl],by rw[<-hXl];exact f1⟩,hu4.ints (by simp;omega)⟩
theorem xI (os:List UInt8):∀k,(S.aM os k).Perm ((List.range k).map λi:Nat=>(i:Int))
 | 0=>.refl _
 | k+1=>by rw[List.range_succ,List.map_append,S.aM];refine List.perm_middle.trans ?_;rw[List.take_append_drop];exact ((xI os k).cons _).trans (List.perm_append_comm (l₁:=[(k:Int)]))
structure Num (n:Nat) (pl:List Int) (num:Nat->Nat):Prop where
 len:pl.length=n
 at_:∀k,k<n->pl[k]?=some (num k:Int)
 lt:∀k,k<n->num k<n
 inj:∀i j,i<n->j<n->num i=num j->i=j
 sur:∀u,u<n->∃k,k<n/\num k=u
theorem NN (os:List UInt8)(n:Nat):∃num,Num n (S.aM os n) num:=by
 have hp:=xI os n;have hl:=nH os n;have hmem:∀x∈S.aM os n,∃i:Nat,i<n/\x=(i:Int):=λx hx=>by have:=hp.mem_iff.1 hx;obtain ⟨i,hi,rfl⟩:=List.mem_map.1 this;exact ⟨i,List.mem_range.1 hi,rfl⟩
 have hnd:(S.aM os n).Nodup:=by rw[hp.nodup_iff];refine List.Pairwise.map _ ?_ (List.nodup_range (n:=n));intro a b h e;exact h (by omega)
 have hat:∀k,k<n->(S.aM os n)[k]?=some (((S.aM os n)[k]?.getD 0).toNat:Int)/\((S.aM os n)[k]?.getD 0).toNat<n:=λk hk=>by
  have hk':k<(S.aM os n).length:=by omega
  have e:=List.getElem?_eq_getElem hk';obtain ⟨i,hi,h⟩:=hmem _ (List.getElem_mem hk');rw[e,Option.getD_some,h];simp[hi]
 refine ⟨λk=>((S.aM os n)[k]?.getD 0).toNat,hl,λk hk=>(hat k hk).1,λk hk=>(hat k hk).2,λi j hi hj h=>?_,λu hu=>?_⟩
 ·have h1:=(hat i hi).1;have h2:=(hat j hj).1;refine (List.getElem?_inj (by omega) hnd).1 ?_;rw[h1,h2];exact congrArg (λx:Nat=>some (x:Int)) h
 ·have:(u:Int)∈S.aM os n:=hp.mem_iff.2 (List.mem_map.2 ⟨u,List.mem_range.2 hu,rfl⟩);obtain ⟨k,hk,he⟩:=List.mem_iff_getElem.1 this;refine ⟨k,by omega,?_⟩;rw[List.getElem?_eq_getElem hk,he];rfl
theorem Ma (m n:Nat):∃z:Int,bA .shl (.int .i64 (m:Int)) (.int .u64 (n:Int))=.val (.int .i64 z):=⟨_,rfl⟩
def LNX (X:Ky->Prop)(n:Nat)(D:ND):Ky->Prop:=λk=>LN n D k\/X k
def X1:Ky->Prop:=λk=>k=(0,1)
def X2:Ky->Prop:=λk=>k=(0,1)\/k=(0,2)
structure DN (X:Ky->Prop) (r0:List AV) (n q K:Nat) (gr:Int) (V:Ky->AV) (E:Ky->En) (D:ND) (g:G):Prop where
 hp:Hp g 2 (LNX X n D) V E
 bn:BN K n V E D
 vb:V (0,1)=.hptr q 0 0 0
 bx:E (0,1)=.bx [.int .i64 gr,V (0,0)]
 h0:g.h.get 0=.cells 3 [r0] 0 false false
 h1:g.h.get 1=.cells 2 [[.int .i64 0,.nils]] 0 false false
theorem DN.q {X:Ky->Prop}{r0:List AV}{n q K:Nat}{gr:Int}{V:Ky->AV}{E:Ky->En}{D:ND}{g:G}(h:DN X r0 n q K gr V E D g)(hX:X (0,1)):g.h.get q=.cells 2 [[.int .i64 gr,V (0,0)]] 0 false false/\2<=q/\q<g.nx:=by obtain ⟨id,h1,h2,h3,h4⟩:=h.hp.box (k:=(0,1)) (.inr hX) h.bx;rw[h.vb] at h3;injection h3 with h3;subst h3;exact ⟨h4,h1,h2⟩
theorem DN.ns {X:Ky->Prop}{r0:List AV}{n q K:Nat}{gr:Int}{V:Ky->AV}{E:Ky->En}{D:ND}{g:G}(h:DN X r0 n q K gr V E D g):Own g 2 (V (0,0)) 3 ((List.range n).map (fH D V)):=h.hp.own (.inl LN.z) h.bn.ns
theorem DN.same {X:Ky->Prop}{r0:List AV}{n q K:Nat}{gr:Int}{V:Ky->AV}{E:Ky->En}{D:ND}{g g':G}(h:DN X r0 n q K gr V E D g)(hf:Fr g g'):DN X r0 n q K gr V E D g':=by have:=h.hp.nx;exact ⟨h.hp.step hf.1 λi _ hi=>hf.2 i hi,h.bn,h.vb,h.bx,by rw[hf.2 0 (by omega),h.h0],by rw[hf.2 1 (by omega),h.h1]⟩
theorem tf {g:G}{b:Nat}{v:AV}{sz:Nat}{rows:List (List AV)}(h:Own g b v sz rows)(hr:0<rows.length):yz v=true:=by
 rcases h with ⟨rfl,rfl⟩ | ⟨id,ep,lo,-,-,rfl,-⟩
 ·simp at hr
 ·rfl
theorem DN.card {X:Ky->Prop}{r0:List AV}{n q K i:Nat}{gr c:Int}{V:Ky->AV}{E:Ky->En}{D:ND}{g:G}{KK:AV->G->Prop}{DD:ADf->Prop}(h:DN X r0 n q K gr V E D g)(hi:i<n)(hX:∀k,X k->k≠(0,0))
  (kk:∀g' E',DN X r0 n q K gr V E' { D with c:=ups D.c i c } g'->g'.nx=g.nx->KK .undef g'):(iO 1 (ik 3 (V (0,0)) i 0) (.int .i64 c) g).sat KK g DD:=by
 refine h.hp.put (k:=(0,0)) (row:=fH D V i) (row':=[.int .i64 c,V (i+1,0),V (i+1,1)]) (.inl LN.z) h.bn.ns (fU _ hi) rfl rfl rfl λg' hH hn hf1 hf2=>?_;refine kk g' _ ⟨hH.sub λk hk=>hk,⟨?_,λj hj=>?_,λj hj=>?_,λj r hj hr=>?_⟩,h.vb,?_,by rw[hf1 0 (by omega),h.h0],by rw[hf1 1 (by omega),h.h1]⟩ hn
 ·rw[aG,mK _ _ hi];congr 1;refine xA (by simp[fH,aG]) λj hj hne=>by simp[fH,am _ _ hne]
 ·rw[am _ _ (by simp)];exact h.bn.ps j hj
 ·rw[am _ _ (by simp)];exact h.bn.rs j hj
 ·rw[am _ _ (by simp)];exact h.bn.rr j r hj hr
 ·rw[am _ _ (by simp)];exact h.bx
structure DAok (D:ND) (n i:Nat) (num:Nat->Nat):Prop where
 e:∀v,v<n->D.P v=[]/\D.m v=0
 c:∀k,k<i->D.c (num k)=2\/D.c (num k)=3
 o:∀u,D.o u=0
def LDA (n q:Nat)(r5:AV):List (Nat×AV):=[(1,.hptr 0 0 0 0),(2,.hptr 1 0 0 0),(3,.int .i64 (n:Int)),(4,.hptr q 0 0 0),(5,r5)]
structure DA (r0:List AV) (n q:Nat) (gr:Int) (r5:AV) (num:Nat->Nat) (i:Nat) (t:T) (g:G):Prop where
 st:St t (LDA n q r5)
 w:∃w:Nat,tat t 6=.int .i64 (w:Int)/\w<=3 ^ i
 hd:∃V E D,DN X1 r0 n q 1000 gr V E D g/\DAok D n i num
theorem OI {i:Nat}(h:i<=5):3 ^ i<=243:=by
 have:i=0\/i=1\/i=2\/i=3\/i=4\/i=5:=by omega
 rcases this with rfl | rfl | rfl | rfl | rfl | rfl<;>decide
theorem NG {d n q kk:Nat}{x:tJ}{gr:Int}{a b r5:AV}{pl:List Int}{num:Nat->Nat}{Q:QT}{t:T}{g:G}(hn:1<=n/\n<=5)(ha:SlR NoP kk .nil x.2.1 a)(h5:IT 0 pl r5)(hN:Num n pl num)
  (h0:DA [u8v x.1,a,b] n q gr r5 num 0 t g) (h7:tat t 7=.int .i64 0)
  (fin:∀t g,DA [u8v x.1,a,b] n q gr r5 num n t g->Q (.exit 0) t [] g):wpL (wp C0 d none eL) Q t [] g:=by
 obtain ⟨pr,r1,r2,r3,r4⟩:=ha.all;have r1:∀h',ah h' 3 a=some pr:=r1;have la:=ha.len;have hal:=ha.1;have r5i:∀h,ah h 1 r5=some (pl.map ci):=λh=>(h5.sl h).ints;simp only[eL,jc];refine eA n (by omega) (λj t df g=>df=[]/\DA [u8v x.1,a,b] n q gr r5 num j t g) ⟨rfl,h0⟩ h7 (by decide) ?_ ?_ ?_ ?_
 ·rintro j t df g v s (rfl | rfl | rfl) ⟨a1,⟨b1,b2,b3,b4,b5,-⟩,⟨w,c1,c2⟩,c3⟩<;>exact ⟨a1,by simp[St,LDA,sx,b1,b2,b3,b4,b5],⟨w,by simp[sx,c1],c2⟩,c3⟩
 ·rintro j t df g hj ⟨rfl,⟨h1,h2,h3,h4,h5,-⟩,⟨w,h6,hw⟩,hD⟩ h7;simp only[sz,simprocAttr,h7,h3];exact ⟨by simp[St,LDA,sx,h1,h2,h3,h4,h5],⟨w,by simp[sx,h6],hw⟩,hD⟩
 ·rintro j t df g hj ⟨rfl,⟨h1,h2,h3,h4,h5,-⟩,⟨w,h6,hw⟩,V,E,D,hD,hok⟩ h7;obtain ⟨p8,hp8⟩:∃p8,p8=g.nx:=⟨_,rfl⟩;have hnx:=hD.hp.nx;refine bM (P:=λt' df g'=>df=[]/\g'=g.new (.cells 3 [[.int .u8 0,.int .u8 0,.nils]] 0 false false)/\St t' ((6,.int .i64 (w:Int))::(7,.int .i64 (j:Int))::(8,.hptr p8 0 0 0)::LDA n q r5)) ?_ ?_
  ·simp only[sz,simprocAttr];simp[St,LDA,sx,h1,h2,h3,h4,h5,h6,h7,hp8]
  clear h1 h2 h3 h4 h5 h6 h7;rintro t df g1 ⟨rfl,hg1,⟨h6,h7,h8,h1,h2,h3,h4,h5,-⟩⟩;have f1:Fr g g1:=by rw[hg1];exact Fr.new _ _
  have k8:g1.h.get p8=.cells 3 [[.int .u8 0,.int .u8 0,.nils]] 0 false false:=by rw[hg1,hp8];simp[H.get_put]
  have n1:p8<g1.nx:=by rw[hg1,hp8];simp
  clear hg1;have hD1:=hD.same f1;have e0:=hD1.h0;refine bM (P:=λt' df g'=>df=[]/\Fr g g'/\St t' ((6,.int .i64 (w:Int))::(7,.int .i64 (j:Int))::(8,.hptr p8 0 0 0)::LDA n q r5)/\p8<g'.nx/\∃(y:UInt8) (z1 z2:AV),g'.h.get p8=.cells 3 [[u8v y,z1,z2]] 0 false false) ?_ ?_
  ·simp only[sz,simprocAttr,h7,h1,e0,la];refine eZ (λhb=>?_) (λhb=>?_)
   ·have hb:j<x.2.1.length:=by simpa using hb
    obtain ⟨y,hy,-,-⟩:=ak hb;obtain ⟨row,q1,q2⟩:=r3 j y hy;obtain ⟨wv,rfl,hwv⟩:=zu.1 q2;have hlt:j<pr.length:=by omega
    have hry:=r4 (by omega);simp only[sz,simprocAttr,h7,h1,e0,r1,hlt,q1,h8,k8];refine ⟨?_,by simp[St,LDA,sx,h1,h2,h3,h4,h5,h6,h7,h8],by simpa using n1,y.1,u8v y.2.1,wv,by simp[H.get_put]⟩;exact ⟨Nat.le_trans f1.1 (by simp),λi hi=>by simp[H.get_put,show ¬i=p8 by omega];exact f1.2 i hi⟩
   ·simp only[sx,sy];exact ⟨f1,by simp[St,LDA,sx,h1,h2,h3,h4,h5,h6,h7,h8],n1,0,.int .u8 0,.nils,k8⟩
  clear h1 h2 h3 h4 h5 h6 h7 h8 e0 hD1 k8 n1 f1;rintro t df g2 ⟨rfl,f2,⟨h6,h7,h8,h1,h2,h3,h4,h5,-⟩,n2,y,z1,z2,k8⟩;have hD2:=hD.same f2;have q2:=e6 .u8 (a:=(y.toNat:Int)) (b:=2) (by omega) (by omega);obtain ⟨m,hm⟩:∃m:Nat,(y.toNat:Int) % 2=(m:Int):=Int.eq_ofNat_of_zero_le (Int.emod_nonneg _ (by decide));have hm2:m<2:=by have:=Int.emod_lt_of_pos (y.toNat:Int) (show (0:Int)<2 by decide);omega
  rw[hm] at q2;have w2:IntKind.wrap .i64 (m:Int)=(m:Int):=an (by omega) (by omega);have w3:IntKind.wrap .i64 (2+(m:Int))=((2+m:Nat):Int):=by rw[an (by omega) (by omega)];rfl
  have hp3:=OI (i:=j) (by omega);have hwc:w*(2+m)<=243*3:=Nat.mul_le_mul (by omega) (by omega);have w4:IntKind.wrap .i64 ((w:Int)*((2+m:Nat):Int))=((w*(2+m):Nat):Int):=by rw[<-Int.natCast_mul,an (by omega) (by omega)]
  have w5:IntKind.wrap .i64 ((n:Int) - 1)=((n - 1:Nat):Int):=by rw[an (by omega) (by omega)];omega
  have w6:IntKind.wrap .i64 (((n - 1:Nat):Int) - (j:Int))=((n - 1 - j:Nat):Int):=by rw[an (by omega) (by omega)];omega
  have w7:IntKind.wrap .u64 ((n - 1 - j:Nat):Int)=((n - 1 - j:Nat):Int):=A5 (by omega) (by omega);obtain ⟨z,hz⟩:=Ma (w*(2+m)) (n - 1 - j);refine bM (P:=λt' df g'=>df=[]/\g'=g2/\St t' ((6,.int .i64 (w:Int))::(7,.int .i64 (j:Int))::(9,.int .i64 ((2+m:Nat):Int))::LDA n q r5)) ?_ ?_
  ·simp only[sz,simprocAttr,h8,k8,u8v,q2,w2,w3];simp[St,LDA,sx,h1,h2,h3,h4,h5,h6,h7]
  clear h1 h2 h3 h4 h5 h6 h7 h8;rintro t df g3 ⟨rfl,rfl,⟨h6,h7,h9,h1,h2,h3,h4,h5,-⟩⟩;refine bM (P:=λt' df g'=>df=[]/\g'=g3/\∃C:Nat,(C=2\/C=3)/\St t' ((6,.int .i64 (w:Int))::(7,.int .i64 (j:Int))::(9,.int .i64 (C:Int))::LDA n q r5)) ?_ ?_
  ·simp only[sz,simprocAttr,h6,h7,h9,h3,w4,w5,w6,w7,hz];refine eZ (λhb=>?_) (λhb=>?_)
   ·simp only[sz,simprocAttr];refine ⟨2,.inl rfl,?_⟩;simp[St,LDA,sx,h1,h2,h3,h4,h5,h6,h7]
   ·simp only[sx,sy];refine ⟨2+m,by omega,?_⟩;simp[St,LDA,sx,h1,h2,h3,h4,h5,h6,h7,h9]
  clear h1 h2 h3 h4 h5 h6 h7 h9 hwc w4 hz w3;rintro t df g4 ⟨rfl,rfl,C,hC,⟨h6,h7,h9,h1,h2,h3,h4,h5,-⟩⟩;have hwc:w*C<=3 ^ j*3:=Nat.mul_le_mul hw (by omega);have hwc2:w*C<=243*3:=Nat.mul_le_mul (by omega) (by omega);have w4:IntKind.wrap .i64 ((w:Int)*(C:Int))=((w*C:Nat):Int):=by rw[<-Int.natCast_mul,an (by omega) (by omega)]
  refine bM (P:=λt' df g'=>df=[]/\g'=g4/\St t' ((6,.int .i64 ((w*C:Nat):Int))::(7,.int .i64 (j:Int))::(9,.int .i64 (C:Int))::LDA n q r5)) ?_ ?_
  ·simp only[sz,simprocAttr,h6,h9,w4];simp[St,LDA,sx,h1,h2,h3,h4,h5,h7,h9]
  clear h1 h2 h3 h4 h5 h6 h7 h9;rintro t df g5 ⟨rfl,rfl,⟨h6,h7,h9,h1,h2,h3,h4,h5,-⟩⟩;obtain ⟨kq,q2a,q2b⟩:=hD2.q rfl;have rns:=hD2.ns.rows;have hry:=tf hD2.ns (by simp;omega);have hnj:=hN.lt j hj;have u1:j<(pl.map ci).length:=by rw[List.length_map,hN.len];exact hj
  have u2:(pl.map ci)[j]?=some (ci (num j:Int)):=by rw[List.getElem?_map,hN.at_ j hj];rfl
  have u3:num j<((List.range n).map (fH D V)).length:=by simpa using hnj
  have u4:=fU (fH D V) hnj;simp only[sz,simprocAttr,sf,h4,kq,h5,h7,h9,r5i,u1,u2,rns,u3,hry,ci];refine (hD2.same (g':=_) ⟨?_,?_⟩).card (i:=num j) (c:=(C:Int)) hnj (λk hk=>by rw[hk];simp) λg6 E' hD6 n6=>?_
  ·simp;omega
  ·intro i hi;simp
  simp only[sx,sy,↓reduceIte,Nat.reduceEqDiff];refine ⟨?_,⟨by simp[St,LDA,sx,h1,h2,h3,h4,h5],⟨w*C,by simp[sx,h6],by rw[Nat.pow_succ];exact hwc⟩,V,E',_,hD6.same ⟨by simp,λi _=>by simp⟩,hok.e,λk hk=>?_,hok.o⟩,by simp[h7]⟩
  ·simp only[List.reverse_cons,List.reverse_nil,List.nil_append,List.cons_append];exact aF [false,false,false,false,false,false,false,false,false,true] [] (by simp[All2,ac,ay]) (by decide) (by simp)
  ·by_cases e:num k=num j
   ·simp[e,aG];omega
   ·show ups D.c (num j) (C:Int) (num k)=2\/ups D.c (num j) (C:Int) (num k)=3;rw[am _ _ e];refine hok.c k ?_;have:k≠j:=λh=>e (by rw[h]);omega
 ·rintro t df g ⟨rfl,h⟩;exact fin t g h
theorem A_ {g:G}{b:Nat}{v x:AV}{sz bytes:Nat}{rows new:List (List AV)}{K:AV->G->Prop}{D:ADf->Prop}(hv:Own g b v sz rows)(hx:ah g.h sz x=some new)(hb:b<=g.nx)
  (hr:(rows.length+new.length)*bytes<=aW)
  (k:∀v' g',Own g' b v' sz (rows++new)->g.nx<=g'.nx->(∀i,i<g.nx->vid v≠some i->g'.h.get i=g.h.get i)->(vid v'=vid v\/∃i,vid v'=some i/\g.nx<=i)->(∀i∈g'.lg,i∈g.lg\/vid v=some i\/g.nx<=i)->K v' g') :
  (cP sz bytes v x g).sat K g D:=by
 unfold cP;rw[hx];dsimp only;rcases hv with ⟨rfl,rfl⟩ | ⟨id,ep,lo,h1,h2,rfl,h3⟩
 ·cases new with
  | nil=>exact k _ _ (.inl ⟨rfl,rfl⟩) (Nat.le_refl _) (λ_ _ _=>rfl) (.inl rfl) (λi hi=>.inl hi)
  | cons r new =>
   simp only[aU,aB,aa,Nat.ble_eq];rw[if_pos (by simpa using hr)];refine k _ _ (.inr ⟨g.nx,0,true,hb,by simp,rfl,by simp[aJ]⟩) (by simp) (λi hi _=>?_) (.inr ⟨g.nx,rfl,Nat.le_refl _⟩) (λi hi=>by simp at hi;rcases hi with rfl | hi;exact .inr (.inr (Nat.le_refl _));exact .inl hi);rw[G.new_h,ae _ _ _ (by omega)]
 ·simp only[aU,G.get_eq,h3,aB,aa,show Nat.beq ep ep=true from Nat.beq_refl ep,show Nat.beq sz sz=true from Nat.beq_refl sz,Bool.true_and,Nat.ble_eq,Bool.and_eq_true,Nat.zero_add,Option.getD_none,Nat.sub_zero];rw[if_pos ⟨Nat.le_refl _,hr⟩];cases new with
  | nil =>
   rw[if_pos (by simp)];refine k _ _ (.inr ⟨id,ep,lo,h1,h2,by simp,by simpa using h3⟩) (Nat.le_refl _) (λ_ _ _=>rfl) (.inl rfl) (λi hi=>.inl hi)
  | cons r new =>
   rw[if_neg (by simp)];have ht:gG rows.length (fJ 0 rows)=rows:=by rw[aY,aX];simp
   cases lo with
   | false =>
    rw[if_pos (by simp)];refine k _ _ (.inr ⟨g.nx,0,true,by omega,by simp,by simp,by simp[aJ,ht]⟩) (by simp) (λi hi _=>?_) (.inr ⟨g.nx,rfl,Nat.le_refl _⟩) (λi hi=>by simp at hi;rcases hi with rfl | hi;exact .inr (.inr (Nat.le_refl _));exact .inl hi);rw[G.new_h,ae _ _ _ (by omega)]
   | true =>
    rw[if_neg (by simp)];refine k _ _ (.inr ⟨id,ep+1,true,h1,by simpa using h2,by simp,by simp[aJ,ht]⟩) (by simp) (λi hi hne=>?_) (.inl rfl) (λi hi=>by simp at hi;rcases hi with rfl | hi;exact .inr (.inl rfl);exact .inl hi);rw[G.put_h,ae _ _ _ (λe=>hne (by rw[e];rfl))]
section
variable {κ:Type} [DecidableEq κ]{g:G}{b:Nat}{L:κ->Prop}{V:κ->AV}{E:κ->En}{k:κ}
theorem Hp.app2 (h:Hp g b L V E)(hk:L k){sz bytes:Nat}{rows new:List (List AV)}(he:E k=.sl sz rows){x:AV}{K:AV->G->Prop}{D:ADf->Prop}(hx:ah g.h sz x=some new)
  (hr:(rows.length+new.length)*bytes<=aW)
  (kk:∀v' g',Hp g' b L (ups V k v') (ups E k (.sl sz (rows++new)))->g.nx<=g'.nx->(∀i,i<b->g'.h.get i=g.h.get i)->(∀i,i<g.nx->eid (V k)≠some i->g'.h.get i=g.h.get i)->(∀i∈g'.lg,i∈g.lg\/eid (V k)=some i\/g.nx<=i)->v'.cells=[v']->v'.isTup=false->K v' g') :
  (cP sz bytes (V k) x g).sat K g D:=by
 have ho:=h.own hk he;refine A_ ho hx h.nx hr λv' g' hv' hn hf hvid hlg=>?_;refine kk v' g' (h.set hk (e':=.sl sz (rows++new)) hv' hn (λi _ hi hne=>hf i hi (by rw[<-gM ho];exact hne)) ?_) hn (λi hi=>hf i (Nat.lt_of_lt_of_le hi h.nx) λe=>by have:=(ho.lt e).1;omega)
  (λi hi hne=>hf i hi (by rw[<-gM ho];exact hne)) (λi hi=>by rw[gM ho];exact hlg i hi) hv'.cell.1 hv'.cell.2
 rw[gM hv',gM ho];exact hvid
theorem Hp.putv (h:Hp g b L V E)(hk:L k){v0:AV}(hv:V k=v0){sz n i off:Nat}{rows:List (List AV)}{row row':List AV}(he:E k=.sl sz rows){x:AV}{K:AV->G->Prop}{D:ADf->Prop}(hr:rows[i]?=some row)
  (hl:x.cells.length=n) (ht:x.isTup=false) (hp:bg row off x.cells=some row')
  (kk:∀g',Hp g' b L V (ups E k (.sl sz (rows.set i row')))->g'.nx=g.nx->(∀i,i<b->g'.h.get i=g.h.get i)->(∀i,eid (V k)≠some i->g'.h.get i=g.h.get i)->K .undef g'):(iO n (ik sz v0 i off) x g).sat K g D:=by
 subst hv;exact h.put hk he hr hl ht hp kk
end
theorem yM (m n:Nat):∃z:Nat,bA .shr (.int .u8 (m:Int)) (.int .u64 (n:Int))=.val (.int .u8 (z:Int)) :=
 ⟨m / 2 ^ (Nat.min n 8),rfl⟩
theorem yL (m n:Nat):∃z:Int,bA .and (.int .u8 (m:Int)) (.int .u8 (n:Int))=.val (.int .u8 z):=by have:∃z:Int,Op.intBits .and .u8 (.ofNat m) (.ofNat n)=.pure (.int .u8 z):=⟨_,rfl⟩;obtain ⟨z,hz⟩:=this;refine ⟨z,?_⟩;show orV (nJ (Op.intBits .and .u8 (.ofNat m) (.ofNat n)))=_;rw[hz];rfl
structure DB (D:ND) (n i v:Nat) (num:Nat->Nat):Prop where
 c:∀u,u<n->D.c u=2\/D.c u=3
 p:∀u,u<n->(D.P u).length<=3/\∀y∈D.P u,0<=y/\y<n
 m:∀u,u<n->D.m u<=64
 o:∀u,D.o u=0
 f:∀k,i<k->k<n->D.P (num k)=[]/\D.m (num k)=0
def S.bB (P0:List Int)(c0:Nat->Int):Int:=S.ae (P0.map λy=>c0 y.toNat)
structure DOk (gr:Int) (D:ND) (n i:Nat) (num:Nat->Nat):Prop where
 s:∀u,u<n->(D.P u).Pairwise (·<·)
 a:∀k,k<n->∀y∈D.P (num k),∃k',k'<k/\y=(num k':Int)
 w:∀k,k<i->(D.m (num k):Int)=S.bB (D.P (num k)) D.c
 r:∀u r,u<n->r<D.m u->KS gr (D.c u) (D.R u r)
def LDB (n q i p v:Nat)(r5:AV):List (Nat×AV):=[(1,.hptr 0 0 0 0),(2,.hptr 1 0 0 0),(3,.int .i64 (n:Int)),(4,.hptr q 0 0 0),(5,r5),(10,.int .i64 (i:Int)),(11,.hptr p 0 0 0),(12,.int .i64 (v:Int))]
structure DP (r0 prow:List AV) (n q i p v:Nat) (gr:Int) (r5:AV) (num:Nat->Nat) (g:G) (V:Ky->AV) (E:Ky->En) (D:ND):Prop where
 dn:DN X2 r0 n q 1000 gr V E D g
 pb:V (0,2)=.hptr p 0 0 0/\E (0,2)=.bx prow
 db:DB D n i v num
 mv:D.m v=0
 ok:DOk gr D n i num
theorem DP.p {r0 prow:List AV}{n q i p v:Nat}{gr:Int}{r5:AV}{num:Nat->Nat}{g:G}{V:Ky->AV}{E:Ky->En}{D:ND}(h:DP r0 prow n q i p v gr r5 num g V E D):g.h.get p=.cells prow.length [prow] 0 false false/\2<=p/\p<g.nx:=by obtain ⟨id,h1,h2,h3,h4⟩:=h.dn.hp.box (k:=(0,2)) (.inr (.inr rfl)) h.pb.2;rw[h.pb.1] at h3;injection h3 with h3;subst h3;exact ⟨h4,h1,h2⟩
theorem Ai {X:Ky->Prop}{n:Nat}{D:ND}{V:Ky->AV}{E:Ky->En}{g:G}(h:Hp g 2 (LNX X n D) V E){j k:Ky}(hj:LNX X n D j)(hk:LNX X n D k)(hne:j≠k){id:Nat}(he:eid (V j)=some id):eid (V k)≠some id:=h.sep j k hj hk hne id he
def xH:SC:=.feet [0,1,0,0,8,0,56,120,248,0,512,2040,4095,8191,16383] [oF 131 1 4,oL 132 131,oM 133 12,oF 134 1 4,oL 135 134,oM 136 12,o 137 (.ixs 3 (.t 135) (.t 136)),oF 138 1 137,oL 139 138,oM 140 13,o 141 (.bsl 1 1 [.int .i64 0] [0] [.t 140]),o 142 (.app 1 8 (.t 139) (.t 141)),o 143 (.ixs 3 (.t 132) (.t 133)),oF 144 1 143,oz (.store 1 (.t 144) (.t 142))]
theorem LL {d n q i p v u:Nat}{gr:Int}{r0 prow:List AV}{r5:AV}{num:Nat->Nat}{Q:QT}{t:T}{g:G}{V:Ky->AV}{E:Ky->En}{D:ND}{rest:List (Nat×AV)}(hn:1<=n/\n<=5)(hv:v<n)(hvi:∀k,i<k->k<n->num k≠v)(hu:u<n)(hvl:∀k,k<i->num k≠v)(hua:∃k',k'<i/\u=num k')(hlt:∀y∈D.P v,y<(u:Int))
  (h4:tat t 4=.hptr q 0 0 0) (h12:tat t 12=.int .i64 (v:Int)) (h13:tat t 13=.int .i64 (u:Int)) (hP:DP r0 prow n q i p v gr r5 num g V E D) (hl:(D.P v).length<3)
  (fin:∀t' g' V' E' D',(∀s,(s<131\/144<s)->tat t' s=tat t s)->D'.P v=D.P v++[(u:Int)]->DP r0 prow n q i p v gr r5 num g' V' E' D'->Q .norm t' [] g') :
  wp C0 d none xH Q t [] g:=by
 have hD:=hP.dn;obtain ⟨kq,q2a,q2b⟩:=hD.q (.inl rfl);unfold xH;have rns:=hD.ns.rows;have hry:=tf hD.ns (by simp;omega);have u3:v<((List.range n).map (fH D V)).length:=by simpa using hv
 have u4:=fU (fH D V) hv;have hps:=hD.bn.ps v hv;have hnx:=hD.hp.nx;simp only[sz,simprocAttr,sf,h4,h12,h13,kq,rns,u3,u4,hry,fH];refine (hD.hp.step (g':=_) ?_ ?_).app2 (k:=(v+1,0)) (.inl (LN.p hv)) hps.1 (new:=[ci (u:Int)]) (by simp[sx,sy,ci]) (by unfold aW;simp;omega) λv1 g1 hH1 n1 fb1 fo1 lg1 vc vt=>?_
 ·simp;omega
 ·intro i _ hi;simp[H.get_put];omega
 simp only[sx,sy] at n1 fb1 fo1 lg1;have e00:ups V (v+1,0) v1 (0,0)=V (0,0):=am _ _ (by simp);have hE00:ups E (v+1,0) (.sl 1 ((D.P v).map ci++[ci (u:Int)])) (0,0)=.sl 3 ((List.range n).map (fH D V)):=by rw[am _ _ (by simp)];exact hD.bn.ns
 have rns1:ah g1.h 3 (V (0,0))=some ((List.range n).map (fH D V)):=by rw[<-e00];exact (hH1.own (k:=(0,0)) (.inl LN.z) hE00).rows
 have u4':((List.range n).map (fH D V))[v]?=some [.int .i64 (D.c v),V (v+1,0),V (v+1,1)]:=u4;simp only[sz,simprocAttr,sf,rns1,u3,hry];refine (hH1.same (g':=_) ?_ ?_).putv (k:=(0,0)) (.inl LN.z) e00 (row':=[.int .i64 (D.c v),v1,V (v+1,1)]) hE00 u4 (by rw[vc];rfl) vt (by rw[vc];rfl) λg2 hH2 n2 fb2 fo2=>?_
 ·simp
 ·simp;omega
 simp only[sy];refine ⟨?_,?_⟩
 ·simp only[List.reverse_cons,List.reverse_nil,List.nil_append,List.cons_append];refine aF [false,false,false,false,false,false,false,false,false,false,true,true,false,false,true] [(0,10),(1,10),(2,10),(3,10),(4,10),(5,10),(6,10),(7,10),(8,10),(0,11),(1,11),(2,11)] (by simp[All2,ac,ay]) (by decide) ?_;have hlg:∀i∈g1.lg,i≠q:=λi hi e=>by
   rcases lg1 i hi with h | h | h
   ·simp at h
   ·exact Ai hD.hp (.inl (LN.p hv)) (.inr (.inl rfl)) (by simp) h (by rw[hD.vb,e];rfl)
   ·omega
  obtain ⟨id0,ep0,hid0,hv0⟩:∃id ep,id<g.nx/\V (0,0)=.hsl id ep 0 ((List.range n).map (fH D V)).length none:=by
   rcases hD.ns with ⟨h,e⟩ | ⟨id,ep,lo,-,h1,h2,-⟩
   ·have:=congrArg List.length e;simp at this;omega
   ·exact ⟨id,ep,h1,h2⟩
  have hlg2:∀i∈g1.lg,i≠id0:=λi hi e=>by
   rcases lg1 i hi with h | h | h
   ·simp at h
   ·exact Ai hD.hp (.inl (LN.p hv)) (.inl LN.z) (by simp) h (by rw[hv0,e];rfl)
   ·omega
  rintro p hp' x y hx hy;simp only[List.mem_cons,List.not_mem_nil,or_false] at hp';rcases hp' with rfl | rfl | rfl | rfl | rfl | rfl | rfl | rfl | rfl | rfl | rfl | rfl<;>(simp at hx hy;subst hx;subst hy;refine bV rfl rfl rfl rfl ?_ ?_ ?_<;>simp[ac,ay,af,hv0,ik]<;>first | omega | exact hlg | exact hlg2 | exact λi hi e=>hlg i hi e.symm | exact λi hi e=>hlg2 i hi e.symm)
 refine fin _ _ (ups V (v+1,0) v1) _ { D with P:=ups D.P v (D.P v++[(u:Int)]) } (λs hs=>?_) (aG _ _ _) ⟨⟨(hH2.same (g':=_) (by simp) (by simp)).sub λk hk=>hk,⟨?_,λj hj=>?_,λj hj=>?_,λj r hj hr=>?_⟩,?_,?_,?_,?_⟩,⟨?_,?_⟩,⟨hP.db.c,λw hw=>?_,hP.db.m,hP.db.o,λk hk hkn=>?_⟩,hP.mv,?_⟩
 ·simp only[jo]
  repeat rw[if_neg (by omega)]
 ·rw[aG,mK _ _ hv];congr 1;refine xA (by simp[fH,aG,am]) λj hj hne=>by simp[fH,am,hne]
 ·by_cases e:j=v
  ·subst e;rw[am _ _ (by simp),aG];show En.sl 1 _=En.sl 1 ((ups D.P j (D.P j++[(u:Int)]) j).map ci)/\(ups D.P j (D.P j++[(u:Int)]) j).length<=1000;rw[aG];exact ⟨by simp,by simp;omega⟩
  ·rw[am _ _ (by simp),am _ _ (by simp[e])];show E (j+1,0)=En.sl 1 ((ups D.P v (D.P v++[(u:Int)]) j).map ci)/\(ups D.P v (D.P v++[(u:Int)]) j).length<=1000;rw[am _ _ e];exact hD.bn.ps j hj
 ·rw[am _ _ (by simp),am _ _ (by simp)];have:=hD.bn.rs j hj;refine ⟨?_,this.2⟩;rw[this.1];congr 1;exact List.map_congr_left λr _=>by simp[DZ,am]
 ·rw[am _ _ (by simp),am _ _ (by simp),am _ _ (by simp)];exact hD.bn.rr j r hj hr
 ·rw[am _ _ (by simp)];exact hD.vb
 ·rw[am _ _ (by simp),am _ _ (by simp),am _ _ (by simp)];exact hD.bx
 ·simp only[bumpG_h];rw[fb2 0 (by omega)];simp;rw[fb1 0 (by omega),if_neg (by omega),hD.h0]
 ·simp only[bumpG_h];rw[fb2 1 (by omega)];simp;rw[fb1 1 (by omega),if_neg (by omega),hD.h1]
 ·rw[am _ _ (by simp)];exact hP.pb.1
 ·rw[am _ _ (by simp),am _ _ (by simp)];exact hP.pb.2
 ·by_cases e:w=v
  ·subst e;show (ups D.P w (D.P w++[(u:Int)]) w).length<=3/\∀y∈ups D.P w (D.P w++[(u:Int)]) w,0<=y/\y<n;rw[aG];refine ⟨by simp;omega,λy hy=>?_⟩;rcases List.mem_append.1 hy with h | h
   ·exact (hP.db.p w hw).2 y h
   ·rw[List.mem_singleton.1 h];omega
  ·show (ups D.P v (D.P v++[(u:Int)]) w).length<=3/\∀y∈ups D.P v (D.P v++[(u:Int)]) w,0<=y/\y<n;rw[am _ _ e];exact hP.db.p w hw
 ·show ups D.P v (D.P v++[(u:Int)]) (num k)=[]/\D.m (num k)=0;rw[am _ _ (hvi k hk hkn)];exact hP.db.f k hk hkn
 ·have hok:=hP.ok;refine ⟨λw hw=>?_,λk hk y hy=>?_,λk hk=>?_,hok.r⟩
  ·show (ups D.P v (D.P v++[(u:Int)]) w).Pairwise (·<·)
   by_cases e:w=v
   ·rw[e,aG];rw[List.pairwise_append];exact ⟨hok.s v hv,List.pairwise_singleton _ _,λa ha b hb=>by rw[List.mem_singleton.1 hb];exact hlt a ha⟩
   ·rw[am _ _ e];exact hok.s w hw
  ·have hy:y∈ups D.P v (D.P v++[(u:Int)]) (num k):=hy
   by_cases e:num k=v
   ·rw[e,aG] at hy;rcases List.mem_append.1 hy with h | h
    ·rw[<-e] at h;exact hok.a k hk y h
    ·obtain ⟨k',h1,h2⟩:=hua;have:¬k<i:=λh=>hvl k h e;exact ⟨k',by omega,by rw[List.mem_singleton.1 h,h2]⟩
   ·rw[am _ _ e] at hy;exact hok.a k hk y hy
  ·show (D.m (num k):Int)=S.bB (ups D.P v (D.P v++[(u:Int)]) (num k)) D.c;rw[am _ _ (hvl k hk)];exact hok.w k hk
end
end Hx
end
section
namespace Hx
open Go
noncomputable section
structure DJ (r0 prow:List AV) (n q i p v u:Nat) (gr:Int) (r5:AV) (num:Nat->Nat) (j:Nat) (t:T) (g:G):Prop where
 st:St t ((13,.int .i64 (u:Int))::LDB n q i p v r5)
 hd:∃V E D,DP r0 prow n q i p v gr r5 num g V E D/\(∀y∈D.P v,y<=(u:Int))/\((∃k,k<j/\num k=u)\/∀y∈D.P v,y<(u:Int))
theorem NI {d n q i p v u:Nat}{gr:Int}{r0:List AV}{y1 y2:UInt8}{wv r5:AV}{pl:List Int}{num:Nat->Nat}{Q:QT}{t:T}{g:G}(hn:1<=n/\n<=5)(h5:IT 0 pl r5)(hN:Num n pl num)(hi:i<n)(hv:v=num i)(hu:u<n)
  (h0:DJ r0 [u8v y1,u8v y2,wv] n q i p v u gr r5 num 0 t g) (h14:tat t 14=.int .i64 0)
  (fin:∀t g,DJ r0 [u8v y1,u8v y2,wv] n q i p v u gr r5 num i t g->Q (.exit 6) t [] g):wpL (wp C0 d none eM) Q t [] g:=by
 have r5i:∀h,ah h 1 r5=some (pl.map ci):=λh=>(h5.sl h).ints;have hvn:v<n:=by rw[hv];exact hN.lt i hi
 have hvi:∀k,i<k->k<n->num k≠v:=λk h1 h2 e=>by have:=hN.inj k i h2 hi (by rw[e,hv]);omega
 have hvl:∀k,k<i->num k≠v:=λk h1 e=>by have:=hN.inj k i (by omega) hi (by rw[e,hv]);omega
 obtain ⟨FR,hFR⟩:∃FR,FR=xH:=⟨_,rfl⟩;simp only[eM,jd];rw[show (SC.feet [0,1,0,0,8,0,56,120,248,0,512,2040,4095,8191,16383] [oF 131 1 4,oL 132 131,oM 133 12,oF 134 1 4,oL 135 134,oM 136 12,o 137 (.ixs 3 (.t 135) (.t 136)),oF 138 1 137,oL 139 138,oM 140 13,o 141 (.bsl 1 1 [.int .i64 0] [0] [.t 140]),o 142 (.app 1 8 (.t 139) (.t 141)),o 143 (.ixs 3 (.t 132) (.t 133)),oF 144 1 143,oz (.store 1 (.t 144) (.t 142))])=FR from hFR.symm];refine eA i (by omega) (λj t df g=>df=[]/\DJ r0 [u8v y1,u8v y2,wv] n q i p v u gr r5 num j t g) ⟨rfl,h0⟩ h14 (by decide) ?_ ?_ ?_ ?_
 ·rintro j t df g w s (rfl | rfl | rfl) ⟨a1,⟨b1,b2,b3,b4,b5,b6,b7,b8,b9,-⟩,c⟩<;>exact ⟨a1,by simp[St,LDB,sx,b1,b2,b3,b4,b5,b6,b7,b8,b9],c⟩
 ·rintro j t df g hj ⟨rfl,⟨h13,h1,h2,h3,h4,h5,h10,h11,h12,-⟩,hD⟩ h14;simp only[sz,simprocAttr,h14,h10];exact ⟨by simp[St,LDB,sx,h13,h1,h2,h3,h4,h5,h10,h11,h12],hD⟩
 ·rintro j t df g hj ⟨rfl,⟨h13,h1,h2,h3,h4,h5,h10,h11,h12,-⟩,V,E,D,hP,hle,hcs⟩ h14;obtain ⟨kp,-,-⟩:=hP.p;have kp:g.h.get p=.cells 3 [[u8v y1,u8v y2,wv]] 0 false false:=kp;obtain ⟨kq,q2a,q2b⟩:=hP.dn.q (.inl rfl);have rns:=hP.dn.ns.rows;have hry:=tf hP.dn.ns (by simp;omega);have u1:j<(pl.map ci).length:=by rw[List.length_map,hN.len];omega
  have u2:(pl.map ci)[j]?=some (ci (num j:Int)):=by rw[List.getElem?_map,hN.at_ j (by omega)];rfl
  have u3:v<((List.range n).map (fH D V)).length:=by simpa using hvn
  have u4:((List.range n).map (fH D V))[v]?=some [.int .i64 (D.c v),V (v+1,0),V (v+1,1)]:=fU (fH D V) hvn;have hps:=hP.dn.bn.ps v hvn;have hlen:∀g2:G,eB .slice (V (v+1,0)) g2=.val (.int .i64 ((D.P v).length:Int)):=λg2=>by have:=(hP.dn.hp.own (.inl (LN.p hvn)) hps.1).rows;rw[jY this];simp
  have w1:IntKind.wrap .u64 (j:Int)=(j:Int):=A5 (by omega) (by omega);obtain ⟨z1,hz1⟩:=yM y2.toNat j;obtain ⟨z2,hz2⟩:=yL z1 1;have hcs':(∃k,k<j+1/\num k=u)\/∀y∈D.P v,y<(u:Int):=by
   rcases hcs with ⟨k,h1,h2⟩ | h
   ·exact .inl ⟨k,by omega,h2⟩
   ·exact .inr h
  have hz2':bA .and (.int .u8 (z1:Int)) (.int .u8 1)=.val (.int .u8 z2):=hz2
  by_cases c1:(num j:Int)=(u:Int)
  ·by_cases c2:z2=1
   ·by_cases c3:((D.P v).length:Int)<3
    ·simp only[sz,simprocAttr,h14,h5,h13,r5i,u1,u2,ci,c1,h11,kp,u8v,w1,hz1,hz2',c2,h4,kq,h12,rns,u3,u4,hry,hlen,c3];rw[hFR];refine LL (n:=n) (q:=q) (i:=i) (p:=p) (v:=v) (u:=u) (r5:=r5) (num:=num) hn hvn hvi hu hvl ⟨j,hj,by omega⟩ ?_ ?_ ?_ ?_ hP (by omega) (rest:=[]) ?_
     ·rcases hcs with ⟨k,h1,h2⟩ | h
      ·have:=hN.inj k j (by omega) (by omega) (by omega);omega
      ·exact h
     ·simp[sx,h4]
     ·simp[sx,h12]
     ·simp[sx,h13]
     intro t' g' V' E' D' hst hPv hP';simp only[sy];have hs:∀s,s<131->tat t' s=_:=λs h=>hst s (.inl h);refine ⟨⟨?_,V',E',D',hP',λy hy=>?_,.inl ⟨j,by omega,by omega⟩⟩,?_⟩
     ·simp[St,LDB,hs,sx,h13,h1,h2,h3,h4,h5,h10,h11,h12]
     ·rw[hPv] at hy;rcases List.mem_append.1 hy with h | h
      ·exact hle y h
      ·rw[List.mem_singleton.1 h];exact Int.le_refl _
     ·simp[hs,sx,h14]
    ·simp only[sz,simprocAttr,h14,h5,h13,r5i,u1,u2,ci,c1,h11,kp,u8v,w1,hz1,hz2',c2,h4,kq,h12,rns,u3,u4,hry,hlen,c3];exact ⟨by simp[St,LDB,sx,h13,h1,h2,h3,h4,h5,h10,h11,h12],V,E,D,hP,hle,hcs'⟩
   ·simp only[sz,simprocAttr,h14,h5,h13,r5i,u1,u2,ci,c1,h11,kp,u8v,w1,hz1,hz2',c2];exact ⟨by simp[St,LDB,sx,h13,h1,h2,h3,h4,h5,h10,h11,h12],V,E,D,hP,hle,hcs'⟩
  ·simp only[sz,simprocAttr,h14,h5,h13,r5i,u1,u2,ci,c1];exact ⟨by simp[St,LDB,sx,h13,h1,h2,h3,h4,h5,h10,h11,h12],V,E,D,hP,hle,hcs'⟩
 ·rintro t df g ⟨rfl,h⟩;exact fin t g h
structure DK (r0 prow:List AV) (n q i p v:Nat) (gr:Int) (r5:AV) (num:Nat->Nat) (j:Nat) (t:T) (g:G):Prop where
 st:St t (LDB n q i p v r5)
 hd:∃V E D,DP r0 prow n q i p v gr r5 num g V E D/\∀y∈D.P v,y<(j:Int)
theorem NJ {d n q i p v:Nat}{gr:Int}{r0:List AV}{y1 y2:UInt8}{wv r5:AV}{pl:List Int}{num:Nat->Nat}{Q:QT}{t:T}{g:G}(hn:1<=n/\n<=5)(h5:IT 0 pl r5)(hN:Num n pl num)(hi:i<n)(hv:v=num i)
  (h0:DK r0 [u8v y1,u8v y2,wv] n q i p v gr r5 num 0 t g) (h13:tat t 13=.int .i64 0)
  (fin:∀t g,DK r0 [u8v y1,u8v y2,wv] n q i p v gr r5 num n t g->Q (.exit 4) t [] g):wpL (wp C0 d none eN) Q t [] g:=by
 simp only[eN,je];refine eA n (by omega) (λj t df g=>df=[]/\DK r0 [u8v y1,u8v y2,wv] n q i p v gr r5 num j t g) ⟨rfl,h0⟩ h13 (by decide) ?_ ?_ ?_ ?_
 ·rintro j t df g w s (rfl | rfl | rfl) ⟨a1,⟨b1,b2,b3,b4,b5,b6,b7,b8,-⟩,c⟩<;>exact ⟨a1,by simp[St,LDB,sx,b1,b2,b3,b4,b5,b6,b7,b8],c⟩
 ·rintro j t df g hj ⟨rfl,⟨h1,h2,h3,h4,h5,h10,h11,h12,-⟩,hD⟩ h13;simp only[sz,simprocAttr,h13,h3];exact ⟨by simp[St,LDB,sx,h1,h2,h3,h4,h5,h10,h11,h12],hD⟩
 ·rintro j t df g hj ⟨rfl,⟨h1,h2,h3,h4,h5',h10,h11,h12,-⟩,V,E,D,hD,hlt⟩ h13;simp only[sz,simprocAttr];refine NI (u:=j) hn h5 hN hi hv hj ⟨by simp[St,LDB,sx,h13,h1,h2,h3,h4,h5',h10,h11,h12],V,E,D,hD,λy hy=>Int.le_of_lt (hlt y hy),.inr hlt⟩ (by simp[sx]) ?_;rintro t2 g2 ⟨⟨k13,k1,k2,k3,k4,k5,k10,k11,k12,-⟩,V2,E2,D2,hD2,hle2,-⟩;simp only[sx,sy,↓reduceIte];exact ⟨⟨by simp[St,LDB,k1,k2,k3,k4,k5,k10,k11,k12],V2,E2,D2,hD2,λy hy=>by have:=hle2 y hy;omega⟩,k13⟩
 ·rintro t df g ⟨rfl,h⟩;exact fin t g h
end
end Hx
end
