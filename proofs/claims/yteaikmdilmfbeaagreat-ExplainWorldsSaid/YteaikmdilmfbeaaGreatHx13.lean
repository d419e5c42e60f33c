/- A part of the proof: an interpreter over abstract values, shown right against the model, and what the functions of the chapter compute on it. -/
import Derived.Test.YteaikmdilmfbeaaGreatHx12
set_option linter.unusedVariables false
set_option linter.unusedSimpArgs false
set_option linter.unnecessarySimpa false
section
namespace Hx
open Go
noncomputable section
section
variable {d:Nat}{n:Net}{b cv sv:AV}{q:Nat}{rows:List (List AV)}
structure Rd4 (n:Net) (b cv sv:AV) (q j:Nat) (t:T) (g:G):Prop where
 st:St t ((80,b)::LRd q)
 hp:RdH n b cv sv q (S.OG n) ((S.OO n).take j++List.replicate (n.nodes.length - j) 0) g
 ok:∀x∈n.nodes.take j,S.OS x.parents n.nodes.length=true/\S.Pi n.grain (S.OG n) x=true
theorem Ms (n:Net)(j m:Nat)(hm:m<18446744073709551616):∀y∈S.O7 n j m,y<18446744073709551616:=λy hy=>by
 simp only[S.O7,List.mem_append,List.mem_cons] at hy;rcases hy with hy | rfl | hy
 ·obtain ⟨x,-,rfl⟩:=List.mem_map.1 (List.mem_of_mem_take hy);exact rQ _
 ·exact hm
 ·rw[(List.mem_replicate.1 hy).2];decide
theorem Own.natsV {g:G}{b:Nat}{v:AV}{l:List Nat}(h:Own g b v 1 (l.map cu))(hl:l.length<9223372036854775808)(hb:∀y∈l,y<18446744073709551616):SlR (λi=>vid v=some i) 0 g.h l v :=
 Own.sl (α:=Nat) h hl (by
  have:∀l:List Nat,(∀y∈l,y<18446744073709551616)->All2 (Rp.rp (α:=Nat) (λi=>vid v=some i) 0 g.h) l (l.map cu):=λl=>by
   induction l with
   | nil=>intro _;trivial
   | cons y l ih=>intro h;exact ⟨B2.2 ⟨rfl,h y (by simp)⟩,ih λz hz=>h z (by simp[hz])⟩
  exact this l hb) λ_ h=>h
theorem Own.nats' {g:G}{b:Nat}{v:AV}{l:List Nat}(h:Own g b v 1 (l.map cu))(hl:l.length<9223372036854775808)(hb:∀y∈l,y<18446744073709551616):SlR (λ_=>True) 0 g.h l v :=
 (h.natsV hl hb).wd λ_ _=>⟨trivial,rfl⟩
theorem Own.intsV {g:G}{b:Nat}{v:AV}{l:List Int}(h:Own g b v 1 (l.map ci))(hl:l.length<9223372036854775808):SlR (λi=>vid v=some i) 0 g.h l v :=
 Own.sl (α:=Int) h hl (All2.of_map (λa=>aL.2 rfl) _) λ_ h=>h
theorem Lo {n:Net}(h:NR n){x:Node}(hx:x∈n.nodes):S.Pi n.grain (S.OG n) x=true:=by simp only[S.Pi,S.OW,Bool.and_eq_true,decide_eq_true_eq,List.all_eq_true];exact ⟨h.rows x hx,λr hr=>⟨⟨(h.row x hx r hr).1,(h.row x hx r hr).2.1⟩,(h.row x hx r hr).2.2⟩⟩
theorem LV {Q:QT}{t:T}{g:G}(hd:0<d)(hl:n.nodes.length<=8)(hg1:1<=n.grain/\n.grain<=60)(hcard:∀c∈S.OG n,1<=c/\c<=4)(hN:SlR NoP 0 .nil n.nodes b)(r1:∀h,ah h 3 b=some rows)(r2:rows.length=n.nodes.length)
  (r3:∀(i:Nat) (x:Node),n.nodes[i]?=some x->∃pa ra,rows[i]?=some [.int .i64 x.card,pa,ra]/\i<rows.length/\SlR NoP 0 .nil x.parents pa/\SlR NoP 0 .nil x.rows ra) (r4:0<n.nodes.length->jS b=true)
  (h0:Rd4 n b cv sv q 0 t g) (h82:tat t 82=.int .i64 0) (h81:tat t 81=.int .i64 (n.nodes.length:Int))
  (bad:∀t g,¬NR n->g.h.get 1=.cells 5 [[.int .i64 0,.nils,.nils,.nils,.nils]] 0 false false->tat t 2=.hptr 1 0 0 0->tat t 3=.int .i64 50->Q .ret t [] g)
  (fin:∀t g,Rd4 n b cv sv q n.nodes.length t g->Q (.exit 2) t [] g):wpL (wp C0 d none mG) Q t [] g:=by
 simp only[mG,sI];refine bj (m:=n.nodes.length) (by omega) (λj t df g=>df=[]/\Rd4 n b cv sv q j t g) ⟨rfl,h0⟩ h82 h81 (by decide)
  (by rintro j t df g v s (rfl | rfl | rfl) ⟨a1,⟨b1,b2,b3,b4,-⟩,c1,c2⟩<;>exact ⟨a1,by simp[St,LRd,sx,b1,b2,b3,b4],c1,c2⟩) ?_ ?_
 ·rintro j t df g hj ⟨rfl,⟨⟨h80,h1,h2,h4,-⟩,hp,hok⟩⟩ h82 h81;obtain ⟨x,hx,htk,hxm⟩:=ae hj;obtain ⟨pa,ra,q1,hlt,hpa,hra⟩:=r3 j x hx;have hry:=r4 (by omega);have q2:=hp.q2;have qn:=hp.qn;have hpsl:(S.OO n).length=n.nodes.length:=by simp[S.OO]
  have hpj:(S.OO n)[j]?=some (S.OP x.parents):=by simp[S.OO,hx]
  obtain ⟨g2,hg2⟩:∃g2,g2=(g.new (.cells 3 [[.int .i64 0,.nils,.nils]] 0 false false)).put g.nx (.cells 3 [[.int .i64 x.card,pa,ra]] 0 false false):=⟨_,rfl⟩;have f2:Fr g g2:=by rw[hg2];exact Mz (by simp) λi hi=>by simp[H.get_put,show ¬i=g.nx by omega]
  have n2:g.nx<g2.nx:=by rw[hg2];simp
  have hp3:=hp.fr f2;have f9:g2.h.get g.nx=.cells 3 [[.int .i64 x.card,pa,ra]] 0 false false:=by rw[hg2];simp[H.get_put]
  have eY:(S.OO n).take j++List.replicate (n.nodes.length - j) 0=S.O7 n j (S.OP (x.parents.take 0)):=by rw[S.O7,show n.nodes.length - j=(n.nodes.length - (j+1))+1 by omega,List.replicate_succ];rfl
  have eY2:S.O7 n j (S.OP x.parents)=(S.OO n).take (j+1)++List.replicate (n.nodes.length - (j+1)) 0:=by rw[S.O7,List.take_add_one,hpj,List.append_assoc];rfl
  rw[eY] at hp3;refine iO (P:=λt' df g'=>df=[]/\g'=g2/\St t' ((80,b)::(81,.int .i64 (n.nodes.length:Int))::(82,.int .i64 (j:Int))::(8,.int .i64 (j:Int))::(9,.hptr g.nx 0 0 0)::LRd q)) ?_ ?_
  ·simp only[sz,simprocAttr,h80,h82,r1,hlt,q1];rw[hg2];simp[St,LRd,sx,h1,h2,h4,h80,h81,h82]
  clear h1 h2 h4 h80 h81 h82;rintro t df g3 ⟨rfl,rfl,⟨h80,h81,h82,h8,h9,h1,h2,h4,-⟩⟩;have pl:=λg=>hpa.len g;simp only[sz,simprocAttr,h9,f9,pl];refine LU (j:=j) (p9:=g.nx) (x:=x) (pa:=pa) (b:=b) (cv:=cv) (sv:=sv) (q:=q) hl hN hx hpa ⟨by simp[St,LRd,sx,gT,h1,h2,h4,h8,h9,h80,h81,h82],hp3,⟨λi p hi=>by omega,λi p r hi=>by omega⟩⟩ (by simp[sx]) (by simp[sx]) f9 (λe=>by have:=(hp.hs.lt e).2;omega) ?_ ?_
  ·intro t g hn a1 a2 a3;simp only[sx,sy];exact bad t g hn a1 a2 a3
  ·rintro t g4 ⟨⟨h80,h81,h82,h88,h8,h9,h10,h1,h2,h4,-⟩,hp4,hpl⟩ f94 n4;rw[List.take_length] at hp4;have hplc:=EU hpl;have hpin:∀p∈x.parents,0<=p/\p<((S.OG n).length:Int):=λp hp=>by rw[aG];exact dP hplc p hp
   have hpll:=iE hplc (by omega);have hyl:(S.O7 n j (S.OP x.parents)).length<=8:=by simp[S.O7,hpsl];omega
   have hm:Agg ((n,S.OG n,S.O7 n j (S.OP x.parents),[]):NwM) (λ_=>True) 0 g4.h (.agg [.int .i64 n.grain,b,cv,sv,.nils]) :=
    ⟨_,rfl,AY.2 ⟨b,cv,sv,.nils,rfl,hN.wide (Nat.le_refl 0),Own.sl (α:=Int) hp4.hc (by rw[aG];omega) (All2.of_map (λa=>aL.2 rfl) _) λ_ _=>trivial,hp4.hs.nats' (by omega) (Ms n j _ (rQ _)),⟨by show 0<9223372036854775808;decide,rfl⟩⟩⟩
   have hxa:Agg x NoP 0 g4.h (.agg [.int .i64 x.card,pa,ra]):=⟨_,rfl,bI.2 ⟨pa,ra,rfl,hpa.tree (Nat.le_refl 0),hra.tree (Nat.le_refl 0)⟩⟩;have hfl:=Hs (d:=d) (g:=g4) hd hm hxa ⟨rfl,rfl⟩ hg1 hcard hpin (by omega);have hfl:am C0 d N.O2 [.agg [.int .i64 n.grain,b,cv,sv,.nils],.agg [.int .i64 x.card,pa,ra]] g4=.val (.bool (S.Pi n.grain (S.OG n) x)):=hfl;cases hf:S.Pi n.grain (S.OG n) x with
   | false =>
    rw[hf] at hfl;simp only[sz,simprocAttr,mH,h2,h4,h9,hp4.hq,hp4.h1,f94,hfl];refine bad _ _ (λhr=>?_) (by simp[H.get_put]) (by simp[sx,h2]) (by simp[sx]);have:=Lo hr hxm;rw[hf] at this;cases this
   | true =>
    rw[hf] at hfl;simp only[sz,simprocAttr,mH,h4,h9,hp4.hq,f94,hfl];rw[eY2] at hp4;refine ⟨⟨by simp[St,LRd,sx,h1,h2,h4,h80],hp4,λy hy=>?_⟩,by simp[h82],by simp[h81]⟩;rw[htk] at hy;rcases List.mem_append.1 hy with h | h
    ·exact hok y h
    ·rw[List.mem_singleton.1 h];exact ⟨hplc,hf⟩
 ·rintro t df g ⟨rfl,h⟩;exact fin t g h
end
theorem Kt (n:Net):Snb (Cj n) 2:=jV λo=>jh (m:=2) (ch _) (aS _) (by decide) (by decide)
theorem LW {d:Nat}{g:G}{v:AV}{n:Net}(hd:0<d)(hm:Agg n NoP 0 g.h v):∃r,am C0 d N.Pj [v] g=.val r/\Cj n NoP 0 .nil r:=by
 obtain ⟨b,rows,rfl,e,hm',hN,r1,r2,r3,r4⟩:=fj d hm;rw[zB];refine aX CI (xs:=[.agg [.int .i64 n.grain,b]]) (by simp only[aE,e]) (by simp[kw]) (Kt n) (by decide) hd ?_;have nl:=λg=>hN.len g;simp only[sz,simprocAttr,kw];obtain ⟨g0,hg0⟩:∃g0,g0=(G.empty.new (.cells 2 [[.int .i64 n.grain,b]] 0 false false)).new (.cells 5 [[.int .i64 0,.nils,.nils,.nils,.nils]] 0 false false):=⟨_,rfl⟩;rw[<-hg0];have f0:g0.h.get 0=.cells 2 [[.int .i64 n.grain,b]] 0 false false:=by rw[hg0];simp[sx,H.get_put]
 have f1:g0.h.get 1=.cells 5 [[.int .i64 0,.nils,.nils,.nils,.nils]] 0 false false:=by rw[hg0];simp[sx]
 have f2:g0.nx=2:=by rw[hg0];simp[sx]
 clear hg0;obtain ⟨Qf,hQf⟩:∃Qf,Qf=fnQ C0 (d+1) [SR.cell true 5 2,SR.tm 3] (λv g'=>∃P,Cj n P 0 g'.h v):=⟨_,rfl⟩;have bad:∀(t:T) (g:G),¬NR n->g.h.get 1=.cells 5 [[.int .i64 0,.nils,.nils,.nils,.nils]] 0 false false->tat t 2=.hptr 1 0 0 0->tat t 3=.int .i64 50->Qf .ret t [] g:=λt g hn a1 a2 a3=>by rw[hQf];exact Nx hn a1 a2 a3
 rw[<-hQf];simp only[uv]
 by_cases c1:n.grain<1
 ·rw[dU];simp only[sz,simprocAttr,f0,f1,c1];exact bad _ _ (λh=>by have:=h.g1;omega) (by simp[H.get_put]) (by simp[sx]) (by simp[sx])
 by_cases c2:60<n.grain
 ·rw[dU];simp only[sz,simprocAttr,f0,f1,c1,c2];exact bad _ _ (λh=>by have:=h.g2;omega) (by simp[H.get_put]) (by simp[sx]) (by simp[sx])
 by_cases c3:(n.nodes.length:Int)<1
 ·rw[dU];simp only[sz,simprocAttr,f0,f1,c1,c2,c3,nl];exact bad _ _ (λh=>by have:=h.l1;omega) (by simp[H.get_put]) (by simp[sx]) (by simp[sx])
 by_cases c4:8<(n.nodes.length:Int)
 ·rw[dU];simp only[sz,simprocAttr,f0,f1,c1,c2,c3,c4,nl];exact bad _ _ (λh=>by have:=h.l2;omega) (by simp[H.get_put]) (by simp[sx]) (by simp[sx])
 refine jN (P:=λt' df g'=>df=[]/\g'=g0/\St t' [(1,.hptr 0 0 0 0),(2,.hptr 1 0 0 0)]) ?_ ?_
 ·simp only[sz,simprocAttr,f0,c1,c2,c3,c4,nl];simp[St,sx]
 rintro t df g1 ⟨rfl,rfl,h1,h2,-⟩;have hl8:n.nodes.length<=8:=by omega
 refine jN (P:=λt' df g'=>df=[]/\∃cv sv q,St t' (LRd q)/\RdH n b cv sv q (List.replicate n.nodes.length 0) (List.replicate n.nodes.length 0) g') ?_ ?_
 ·simp only[sz,simprocAttr,sf,h1,f0,nl];refine oo (b:=2) (n:=n.nodes.length) (by unfold aP;omega) (by unfold aP;omega) (by first | (simp;done) | (simp;omega)) λcv g2 hcv n2 fr2 v2 lg2=>?_;simp only[sy] at n2 fr2 v2 lg2;have k0:g2.h.get 0=.cells 2 [[.int .i64 n.grain,b]] 0 false false:=by rw[fr2 0 (by omega),f0]
  simp only[sz,simprocAttr,sf,h1,k0,nl,lg2];refine oo (b:=2) (n:=n.nodes.length) (by unfold aP;omega) (by unfold aP;omega) (by first | (simp;done) | (simp;omega)) λsv g3 hsv n3 fr3 v3 lg3=>?_;simp only[sy] at n3 fr3 v3 lg3;simp only[sz,simprocAttr,sf,lg3,hcv.cell.1,hcv.cell.2,hsv.cell.1,hsv.cell.2];refine ⟨?_,cv,sv,g3.nx+1+1,?_,?_⟩
  ·simp only[List.reverse_cons,List.reverse_nil,List.nil_append,List.cons_append,G.new_lg,G.put_lg,setLog_lg];refine aO [false,false,false,false,true,false,false,false,true,false,true,true] [(0,4),(4,5),(4,6),(4,7),(0,8),(1,8),(2,8),(3,8),(4,8),(0,10),(1,10),(2,10),(3,10),(4,10),(5,10),(6,10),(7,10),(8,10),(9,10)] (by simp[All2,ap,aF]) (by decide) ?_;rintro p hp x y hx hy;simp only[List.mem_cons,List.not_mem_nil,or_false] at hp;rcases hp with rfl | rfl | rfl | rfl | rfl | rfl | rfl | rfl | rfl | rfl | rfl | rfl | rfl | rfl | rfl | rfl | rfl | rfl | rfl<;>(simp at hx hy;subst hx;subst hy;refine dI rfl rfl rfl rfl ?_ ?_ ?_<;>simp[ap,aF,ak]<;>omega)
  ·simp[St,LRd,sx,h1,h2]
  ·have fa:∀i,i<g2.nx->g3.h.get i=g2.h.get i:=λi hi=>by have:=fr3 i (by omega);simpa using this
   have fb:∀i,i<g1.nx->g2.h.get i=g1.h.get i:=λi hi=>by have:=fr2 i (by omega);simpa using this
   have hcv':Own g2 2 cv 1 ((List.replicate n.nodes.length (0:Int)).map ci):=by simpa [ci] using hcv
   have hsv':Own g3 2 sv 1 ((List.replicate n.nodes.length (0:Nat)).map cu):=by simpa [cu] using hsv
   have hne:∀i,i<g3.nx->¬i=g3.nx+1+1:=λi hi=>by omega
   refine ⟨?_,?_,?_,hcv'.fr (by simp;omega) λi hi=>?_,hsv'.fr (by simp;omega) λi hi=>?_,by omega,by first | (simp;done) | (simp;omega),λe=>?_,λe=>?_,λi hi hi2=>?_⟩
   ·simp[H.get_put];rw[fa 0 (by omega),k0]
   ·simp[H.get_put];rw[fa 1 (by omega),fb 1 (by omega),f1]
   ·simp[H.get_put]
   ·have:=my v2 hi;simp[H.get_put,hne i (by omega)];rw[fa i (by omega)]
   ·have:=my v3 hi;simp[H.get_put,hne i (by omega)]
   ·have:=my v2 e;omega
   ·have:=my v3 e;omega
   ·have:=my v2 hi;have:=my v3 hi2;omega
 rintro t df g ⟨rfl,cv,sv,q,⟨h1,h2,h4,-⟩,hp⟩;clear f0 f1 f2;have nlen:=nl g;simp only[sz,simprocAttr,h4,hp.hq,nl];refine LT (b:=b) (cv:=cv) (sv:=sv) (q:=q) hl8 hN r1 r2 r3 r4 ⟨by simp[St,LRd,sx,S.OH,h1,h2,h4],by simpa using hp,by simp⟩ (by simp[sx]) (by simp[sx]) ?_ ?_
 ·intro t g hn a1 a2 a3;simp only[sx];exact bad t g hn a1 a2 a3
 clear h1 h2 h4 hp nlen;rintro t g ⟨⟨h48,h5,h1,h2,h4,-⟩,hp,hok⟩;rw[List.take_of_length_le (by rw[aG];exact Nat.le_refl _)] at h5 hp;rw[Nat.sub_self,List.replicate_zero,List.append_nil] at hp;rw[List.take_length] at hok;have hcb:∀c∈S.OG n,1<=c/\c<=4:=λc hc=>by obtain ⟨y,hy,rfl⟩:=List.mem_map.1 hc;exact hok y hy
 simp only[sz,simprocAttr,sJ]
 by_cases d1:1024<S.OH (S.OG n)
 ·simp only[sz,simprocAttr,h2,h5,hp.h1,d1];exact bad _ _ (λh=>by have:=h.worlds;omega) (by simp[H.get_put]) (by simp[sx,h2]) (by simp[sx])
 simp only[sz,simprocAttr,h4,h5,hp.hq,nl,d1];refine LV (b:=b) (cv:=cv) (sv:=sv) (q:=q) (Nat.succ_pos d) hl8 (by omega) hcb hN r1 r2 r3 r4 ⟨by simp[St,LRd,sx,h1,h2,h4],by simpa using hp,by simp⟩ (by simp[sx]) (by simp[sx]) ?_ ?_
 ·intro t g hn a1 a2 a3;simp only[sx];exact bad t g hn a1 a2 a3
 clear h1 h2 h4 h48 h5 hp;rintro t g ⟨⟨h80,h1,h2,h4,-⟩,hp,hok2⟩;rw[List.take_of_length_le (by simp[S.OO])] at hp;rw[Nat.sub_self,List.replicate_zero,List.append_nil] at hp;rw[List.take_length] at hok2;have hpsl:(S.OO n).length=n.nodes.length:=by simp[S.OO]
 have hplt:∀y∈S.OO n,y<18446744073709551616:=λy hy=>by obtain ⟨x,-,rfl⟩:=List.mem_map.1 hy;exact rQ _
 have hplt2:∀y∈S.OO n,y<2 ^ (S.OO n).length:=λy hy=>by obtain ⟨x,hx,rfl⟩:=List.mem_map.1 hy;rw[hpsl];exact Ju (by omega) λz hz=>dP (hok2 x hx).1 z hz
 obtain ⟨z,ez,o,-,oz,az,rfl,hoz,haz⟩:=H0 (d:=d+1) (g:=g) (Nat.succ_pos d) (hp.hs.nats' (by omega) hplt) (by omega) hplt2;have haz:=jT.1 haz;injection haz with haz;subst haz;obtain ⟨_,e1,hoz⟩:=hoz;injection e1 with e1;subst e1;cases hac:S.Pb (S.OO n) with
 | false =>
  rw[hac] at ez;simp only[sz,simprocAttr,mJ,h2,h4,hp.hq,hp.h1,ez];exact bad _ _ (λh=>by have:=h.acyc;rw[hac] at this;cases this) (by simp[H.get_put]) (by simp[sx,h2]) (by simp[sx])
 | true =>
  rw[hac] at ez;have hnr:S.O2 n=true:=fL.2 ⟨by omega,by omega,by omega,by omega,hok,λx hx=>(hok2 x hx).1,by omega,hac,λx hx=>by
   have:=(hok2 x hx).2;simp only[S.Pi,Bool.and_eq_true,decide_eq_true_eq] at this;exact this.1,λx hx r hr=>by
   have:=(hok2 x hx).2;simp only[S.Pi,S.OW,Bool.and_eq_true,decide_eq_true_eq,List.all_eq_true] at this;have:=this.2 r hr;exact ⟨this.1.1,this.1.2,this.2⟩⟩
  have q2:=hp.q2;have hq1:¬(1=q):=by omega
  have hq0:¬(q=1):=by omega
  have oc:=hoz.cell;rw[hQf];simp only[sz,simprocAttr,mJ,h2,h4,hp.hq,hp.h1,ez,hq1,oc.1,oc.2];have fh:∀i,¬i=1->¬i=q->((g.h.put q (.cells 5 [[.int .i64 n.grain,b,cv,sv,oz]] 0 false false)).put 1 (.cells 5 [[.int .i64 n.grain,b,cv,sv,oz]] 0 false false)).get i=g.h.get i:=λi hi hi2=>by simp[H.get_put,hi,hi2]
  refine ⟨λ_=>True,o,trivial,_,_,rfl,⟨_,rfl,?_⟩,?_⟩
  ·rw[S.PG,if_pos hnr];refine AY.2 ⟨b,cv,sv,oz,rfl,hN.wide (Nat.le_refl 0),(hp.hc.intsV (by rw[aG];omega)).wd λi hi=>⟨trivial,fh i (by have:=(hp.hc.lt hi).1;omega) λe=>hp.d1 (by rw[hi,e])⟩,(hp.hs.natsV (by omega) hplt).wd λi hi=>⟨trivial,fh i (by have:=(hp.hs.lt hi).1;omega) λe=>hp.d2 (by rw[hi,e])⟩,hoz.wide (Nat.le_refl 0)⟩
  ·rw[if_pos hnr];exact aL.2 rfl
end
end Hx
end
section
namespace Hx
open Go
noncomputable section
theorem EN {n:Net}{o:List Int}(h:S.O2 n=true):S.PG n o=(n,S.OG n,S.OO n,o):=by rw[S.PG,if_pos h]
theorem DE {n:Net}{P:Nat->Prop}{k:Nat}{h:H}{v:AV}(hv:Cj n P k h v) :
  (S.O2 n=false/\∃cs,v=.tup [.agg cs,.int .i64 50]/\cs.length=5) \/
  (S.O2 n=true/\∃b cv sv oz o,v=.tup [.agg [.int .i64 n.grain,b,cv,sv,oz],.int .i64 0]/\SlR P k h n.nodes b/\SlR P k h (S.OG n) cv/\SlR P k h (S.OO n) sv/\SlR P k h (o:List Int) oz):=by
 obtain ⟨o,-,a,c,rfl,⟨cs,rfl,hc⟩,hi⟩:=hv;have hi:=aL.1 hi;injection hi with hi;subst hi;cases hn:S.O2 n with
 | false =>
  refine .inl ⟨rfl,cs,rfl,?_⟩;obtain ⟨a,b,c,e,rfl,-⟩:=AY.1 hc
  rfl
 | true =>
  rw[EN hn] at hc;obtain ⟨a,b,c,e,rfl,h1,h2,h3,h4⟩:=AY.1 hc;exact .inr ⟨rfl,a,b,c,e,o,rfl,h1,h2,h3,h4⟩
theorem In {d k2:Nat}{g:G}{P2:Nat->Prop}{v w:AV}{n:Net}{e:List Int}(hd:0<d)(hm:Agg n NoP 0 g.h v)(he:SlR P2 k2 g.h e w):am C0 d N.Pi [v,w] g=.val (.int .i64 (S.OY n e)):=by
 obtain ⟨w',e2,hw'⟩:=be he d;obtain ⟨b,rows,rfl,e1,hm',hN,r1,r2,r3,r4⟩:=fj d hm;have n2:=λg=>(hw' .nil).len g;have rb:=λh=>(hw' h).ints;rw[oG];refine dE qo (xs:=[.agg [.int .i64 n.grain,b],w']) (by simp only[aE,e1,e2]) (by simp[eP]) hd ?_;have hle:=he.1;simp only[sz,simprocAttr,eP,g8,gE];obtain ⟨z,ez,hz⟩:=LW (d:=d+1) (g:=G.empty.new (.cells 2 [[.int .i64 n.grain,b]] 0 false false)) (Nat.succ_pos d) (n:=n) (v:=.agg [.int .i64 n.grain,b]) (hm' _);rcases DE hz with ⟨hn,cs,rfl,hcs⟩ | ⟨hn,b',cv,sv,oz,o,rfl,hb,hcv,-,-⟩
 ·have hs:S.OY n e=50:=by rw[S.OY,hn];rfl
  obtain ⟨a1,a2,a3,a4,a5,rfl⟩:∃a1 a2 a3 a4 a5,cs=[a1,a2,a3,a4,a5]:=by
   match cs,hcs with
   | [a1,a2,a3,a4,a5],_=>exact ⟨a1,a2,a3,a4,a5,rfl⟩
  simp only[sz,simprocAttr,ez,hs,show ¬((50:Int)=0) from by decide]
 ·have nb:=λg=>(hb.tree (h':=g) (Nat.le_refl 0)).len;have hbl:=hb.1;have rc:=λh=>(hcv.tree (h':=h) (Nat.le_refl 0)).ints;have hcl:=aG n
  by_cases hl:e.length=n.nodes.length
  ·have hl':(e.length:Int)=(n.nodes.length:Int):=by rw[hl]
   simp only[sz,simprocAttr,ez,n2,hb.len,hl];refine bj (m:=n.nodes.length) (by omega) (λj t df g=>df=[]/\St t [(24,w'),(5,.hptr 1 0 0 0),(4,.int .i64 0)]/\g.h.get 1=.cells 5 [[.int .i64 n.grain,b',cv,sv,oz]] 0 false false/\((List.range j).all λv=>decide (-1<=e[v]?.getD 0)&&decide (e[v]?.getD 0<(S.OG n)[v]?.getD 0))=true)
    ⟨rfl,by simp[St,sx],by simp[sx],by simp⟩ (by simp[sx]) (by simp[sx]) (by decide) (by rintro j t df g v s (rfl | rfl | rfl)<;>simp[St,sx]) ?_ ?_
   ·rintro j t df g hj ⟨rfl,⟨h24,h5,h4,-⟩,hg,ha⟩ h26 h25;obtain ⟨y,hy,-,-⟩:=ae (l:=e) (j:=j) (by omega);obtain ⟨c,hc,-,-⟩:=ae (l:=S.OG n) (j:=j) (by omega);have u1:j<(e.map ci).length:=by simp;omega
    have u2:(e.map ci)[j]?=some (ci y):=by rw[List.getElem?_map,hy];rfl
    have u3:j<((S.OG n).map ci).length:=by simp;omega
    have u4:((S.OG n).map ci)[j]?=some (ci c):=by rw[List.getElem?_map,hc];rfl
    have hst:((List.range (j+1)).all λv=>decide (-1<=e[v]?.getD 0)&&decide (e[v]?.getD 0<(S.OG n)[v]?.getD 0))=(decide (-1<=y)&&decide (y<c)):=by rw[List.range_succ,List.all_append,ha];simp[hy,hc]
    have bad:(decide (-1<=y)&&decide (y<c))=false->S.OY n e=2:=λh=>by
     have h1:S.O0 n e=false:=by
      rw[S.O0];have:((List.range e.length).all λv=>decide (-1<=e[v]?.getD 0)&&decide (e[v]?.getD 0<(S.OG n)[v]?.getD 0))=false:=by rw[<-Bool.not_eq_true,List.all_eq_true];intro h2;have:=h2 j (List.mem_range.2 (by omega));rw[hy,hc,Option.getD_some,Option.getD_some,h] at this;cases this
      rw[this,Bool.and_false]
     rw[S.OY,hn,h1];rfl
    by_cases c1:y < -1
    ·have:=bad (by simp;omega);simp only[sz,simprocAttr,h24,h26,rb,u1,u2,ci,c1,this]
    ·by_cases c2:c<=y
     ·have:=bad (by simp;omega);simp only[sz,simprocAttr,h24,h5,h26,hg,rb,rc,u1,u2,u3,u4,ci,c1,c2,this]
     ·have h3:((List.range (j+1)).all λv=>decide (-1<=e[v]?.getD 0)&&decide (e[v]?.getD 0<(S.OG n)[v]?.getD 0))=true:=by rw[hst];simp;omega
      simp only[sz,simprocAttr,h24,h5,h4,h26,h25,hg,rb,rc,u1,u2,u3,u4,ci,c1,c2,St,h3]
   ·rintro t df g ⟨rfl,⟨h24,h5,h4,-⟩,hg,ha⟩;have h1:S.O0 n e=true:=by rw[S.O0,hl,decide_eq_true rfl,ha];rfl
    have hs:S.OY n e=0:=by rw[S.OY,hn,h1];rfl
    simp only[sz,simprocAttr,gF,hs]
  ·have hl':¬((e.length:Int)=(n.nodes.length:Int)):=by omega
   have h1:S.O0 n e=false:=by rw[S.O0,decide_eq_false hl];rfl
   have hs:S.OY n e=2:=by rw[S.OY,hn,h1];rfl
   simp only[sz,simprocAttr,ez,n2,hb.len,hl',hs]
structure FacH (bx nd:List AV) (w u:AV) (vars cards:List Int) (beh:Int) (q:Nat) (g:G):Prop where
 h0:g.h.get 0=.cells 5 [bx] 0 false false
 h1:g.h.get 1=.cells 3 [[.nils,.nils,.nils]] 0 false false
 h2:g.h.get 2=.cells 3 [nd] 0 false false
 h8:g.h.get q=.cells 3 [[w,u,.nils]] 0 false false
 h9:g.h.get (q+1)=.cells 1 [[.int .i64 beh]] 0 false false
 hw:Own g 3 w 1 (vars.map ci)
 hu:Own g (q+2) u 1 (cards.map ci)
 wq:∀i,vid w=some i->i<q
 q3:3<=q
 qn:q+2<=g.nx
def NU (q:Nat):List (Nat×AV):=[(2,.hptr 0 0 0 0),(4,.hptr 1 0 0 0),(5,.hptr 2 0 0 0),(8,.hptr q 0 0 0),(9,.hptr (q+1) 0 0 0)]
structure FacJ (gr:Int) (b cv sv oz:AV) (nd:List AV) (w:AV) (cs vars:List Int) (pl q j:Nat) (t:T) (g:G):Prop where
 st:St t ((38,w)::(6,.int .i64 (pl:Int))::NU q)
 hp:∃u,FacH [.int .i64 gr,b,cv,sv,oz] nd w u vars (S.OJ cs (vars.take j)) (S.OH (S.OJ cs ((vars.take j).drop (pl+1)))) q g
def GH (h:H)(n:Nat):G:=⟨h,n,[]⟩
@[simp] theorem GH_h (h:H) (n:Nat):(GH h n).h=h:=rfl
@[simp] theorem GH_nx (h:H) (n:Nat):(GH h n).nx=n:=rfl
structure FacG (g0:G) (iw:Nat) (W:AV) (rws:List (List Int)) (B C t:Nat) (h:H):Prop where
 fr:∀i,i<g0.nx->i≠iw->h.get i=g0.h.get i
 ow:Own (GH h (iw+1)) 3 W 1 ((S.PX rws B C t).map ci)
structure FacI (g0 g2:G) (iw:Nat) (W z:AV) (r:List Int) (rws:List (List Int)) (B C q j i:Nat) (t:T) (g:G):Prop where
 st:St t ((78,z)::(12,.int .i64 (j:Int))::NU q)
 hp:FacG g0 iw W rws B C (j*C+i) g.h
 nx:g2.nx<=g.nx
 fr:∀i,g0.nx<=i->i<g2.nx->g.h.get i=g2.h.get i
def S.PW (n:Net)(i:Nat)(x:Node)(p:Nat):Factor:=⟨S.PO x.parents p (i:Int),S.OJ (S.OG n) (S.PO x.parents p (i:Int)),S.PY x.rows (S.OH (S.OJ (S.OG n) (x.parents.drop p))).toNat x.card.toNat⟩
def S.PP (n:Net)(l:List Factor):Prop:=∀(i:Nat) (x:Node),i<l.length->n.nodes[i]?=some x->∃p,p<=x.parents.length/\l[i]?=some (S.PW n i x p)
structure FasJ (n:Net) (W b cv sv oz:AV) (j:Nat) (t:T) (g:G):Prop where
 st:St t [(4,.hptr 1 0 0 0),(6,W)]
 hg:g.h.get 1=.cells 5 [[.int .i64 n.grain,b,cv,sv,oz]] 0 false false
 hW:∃(rows:List (List AV)) (l:List Factor),Own g 2 W 3 rows/\rows.length=n.nodes.length/\l.length=j/\All2 (Rp.rp NoP 0 .nil) l (rows.take j)/\S.PP n l/\∀i,j<=i->i<n.nodes.length->rows[i]?=some [.nils,.nils,.nils]
end
end Hx
end
section
namespace Hx
open Go
abbrev QnM:Type:=Net×List Factor×List (List Int)
def S.PM (m:Nat)(f:Factor)(i:Nat)(R:List Int):Prop:=R.length=m/\∀(j:Nat) (y:Int),i<=j->f.vars[j]?=some y->R[y.toNat]?=some (S.OH (f.cards.drop (j+1)))
structure QnOk (n:Net) (y:QnM):Prop where
 net:y.1=n
 fl:y.2.1.length=n.nodes.length
 fs:S.PP n y.2.1
 sl:y.2.2.length=n.nodes.length
 st:∀(k:Nat) (f:Factor) (R:List Int),y.2.1[k]?=some f->y.2.2[k]?=some R->S.PM n.nodes.length f 0 R
end Hx
end
section
namespace Hx
open Go
noncomputable section
def Ov (fl:AV)(m q k:Nat):List (Nat×AV):=[(11,.hptr q 0 0 0),(2,.hptr 0 0 0 0),(4,.hptr 1 0 0 0),(45,fl),(46,.int .i64 (m:Int)),(47,.int .i64 (k:Int))]
structure AskI (fl:AV) (m q k:Nat) (g0:G) (iR:Nat) (R:AV) (f:Factor) (fb j:Nat) (t:T) (g:G):Prop where
 st:St t ((13,.hptr fb 0 0 0)::(12,.int .i64 (k:Int))::(14,.int .i64 (S.OH (f.cards.drop j)))::Ov fl m q k)
 nx:g0.nx<=g.nx
 fr:∀i,i<g0.nx->i≠iR->g.h.get i=g0.h.get i
 ow:∃X:List Int,Own g 2 R 1 (X.map ci)/\S.PM m f j X
structure FOk (m:Nat) (f:Factor):Prop where
 cl:f.cards.length=f.vars.length
 vl:f.vars.length<=16
 cb:∀c∈f.cards,1<=c/\c<=4
 nd:f.vars.Nodup
 vr:∀y∈f.vars,0<=y/\y<m
structure AskH (gr:Int) (b fl S_:AV) (m q:Nat) (fs:List Factor) (k:Nat) (g:G):Prop where
 h0:g.h.get 0=.cells 2 [[.int .i64 gr,b]] 0 false false
 h1:g.h.get 1=.cells 4 [[.int .i64 0,.nils,.nils,.nils]] 0 false false
 hq:g.h.get q=.cells 4 [[.int .i64 gr,b,fl,S_]] 0 false false
 q2:2<=q/\q<g.nx
 sq:∀i,vid S_=some i->i<q
 hS:∃(Vs:List AV) (l:List (List Int)),Own g 2 S_ 1 (Vs.map λv=>[v])/\Vs.length=m/\l.length=k/\All2 (λX v=>Own g (q+1) v 1 (X.map ci)) l (Vs.take k)/\∀(i:Nat) (f:Factor) (X:List Int),fs[i]?=some f->l[i]?=some X->S.PM m f 0 X
structure AskJ (gr:Int) (b fl S_:AV) (m q:Nat) (fs:List Factor) (k:Nat) (t:T) (g:G):Prop where
 st:St t [(11,.hptr q 0 0 0),(2,.hptr 0 0 0 0),(4,.hptr 1 0 0 0),(45,fl)]
 hp:AskH gr b fl S_ m q fs k g
theorem Ls {α:Type}{l:List α}{i:Nat}{x y:α}(h1:l[i]?=some x)(h2:l[i]?=some y):x=y:=by rw[h1] at h2;injection h2
structure WtI (y:QnM) (b fl S_ wv va ca wa:AV) (gr wt:Int) (p:Int) (cards pv:List Int) (m k fb i:Nat) (t:T) (g:G):Prop where
 st:St t [(1,wv),(2,.hptr 0 0 0 0),(12,fl),(13,.int .i64 (m:Int)),(14,.int .i64 (k:Int)),(5,.int .i64 wt),(6,.int .i64 (k:Int)),(7,.hptr fb 0 0 0),(20,va),(8,.int .i64 (p - S.OK (cards.drop i) (pv.drop i)))]
 h0:g.h.get 0=.cells 4 [[.int .i64 gr,b,fl,S_]] 0 false false
 hf:g.h.get fb=.cells 3 [[va,ca,wa]] 0 false false
 nn:0<=p - S.OK (cards.drop i) (pv.drop i)
 nx:1<=g.nx
structure WtJ (n:Net) (vals:List Int) (b fl S_ wv:AV) (k:Nat) (t:T) (g:G):Prop where
 st:St t [(1,wv),(2,.hptr 0 0 0 0),(12,fl),(5,.int .i64 (S.OH ((List.range k).map (S.O3 n vals))))]
 h0:g.h.get 0=.cells 4 [[.int .i64 n.grain,b,fl,S_]] 0 false false
 nx:1<=g.nx
theorem KR {d k:Nat}{g:G}{P:Nat->Prop}{v:AV}{l:List Int}(hd:0<d)(hv:SlR P k g.h l v):am C0 d N.PL [v] g=.val (.int .i64 (S.Pd l)):=by
 obtain ⟨v',e,r1⟩:=be hv d;have vl:∀g,cV .slice v' g=.val (.int .i64 (l.length:Int)):=λg=>(r1 .nil).len g;have ri:=λh=>(r1 h).ints;rw[wU];refine dE zR (xs:=[v']) (by simp only[aE,e]) (by simp[o4]) hd ?_;simp only[sz,simprocAttr,o4,vl,pK];refine bj (m:=l.length) hv.1 (λj t df g=>df=[]/\St t [(6,v'),(3,.int .i64 (S.Pd (l.take j)))]) ⟨rfl,by simp[St,sx,S.Pd]⟩ (by simp[sx]) (by simp[sx]) (by decide)
  (by rintro j t df g v s (rfl | rfl | rfl)<;>simp[sx,St]) ?_ ?_
 ·rintro j t df g hj ⟨rfl,h6,h3,-⟩ h8 h7;obtain ⟨x,hx,htk,hm⟩:=ae hj;have z1:j<(l.map ci).length:=by simpa using hj
  have z2:(l.map ci)[j]?=some (ci x):=by rw[List.getElem?_map,hx];rfl
  simp only[sz,simprocAttr,h6,h8,h3,ri,z1,z2,ci];simp[St,sx,h6,h7,h8,htk,S.Pd,List.foldl_append]
 ·rintro t df g ⟨rfl,h6,h3,-⟩;rw[List.take_length] at h3;simp only[sz,simprocAttr,pL,h3]
theorem A9 {d k:Nat}{g:G}{P:Nat->Prop}{v:AV}{n:Net}(hd:0<d)(hv:SlR P k g.h n.nodes v)(hn:n.nodes.length<1073741824):∃r,am C0 d N.Pc [v] g=.val r/\IT 0 (S.OG n) r:=by
 obtain ⟨v',e,r0⟩:=be hv d;obtain ⟨rows,r1,r2,r3,r4⟩:=(r0 .nil).all;have r1:∀h',ah h' 3 v'=some rows:=r1;have vl:∀g,cV .slice v' g=.val (.int .i64 (n.nodes.length:Int)):=λg=>(r0 .nil).len g;rw[vB];refine aX yA (xs:=[v']) (by simp only[aE,e]) (by simp[mT]) (aS _) (by decide) hd ?_;simp only[sz,simprocAttr,mT,vl];refine rR (b:=0) (n:=n.nodes.length) (by unfold aP;omega) (by unfold aP;omega) (Nat.zero_le _) λu g1 hu n1 f1 v1=>?_;simp only[sz,simprocAttr,vl,nZ];refine bj (m:=n.nodes.length) (by omega) (λj t df g=>df=[]/\St t [(9,v'),(3,u)]/\Own g 0 u 1 ((((S.OG n).take j)++List.replicate (n.nodes.length - j) 0).map ci)) ⟨rfl,by simp[St,sx],?_⟩ (by simp[sx]) (by simp[sx]) (by decide)
  (by rintro j t df g v s (rfl | rfl | rfl)<;>simp[sx,St]) ?_ ?_
 ·simpa [ci] using hu
 ·rintro j t df g hj ⟨rfl,⟨h9,h3,-⟩,hO⟩ h11 h10;obtain ⟨x,hx,-,hm⟩:=ae hj;obtain ⟨row,q1,q2⟩:=r3 j x hx;obtain ⟨a',b',rfl,ha',hb'⟩:=bI.1 q2;have hlt:j<rows.length:=by omega
  have hry:=r4 (by omega);have hcl:(S.OG n).length=n.nodes.length:=aG n;have hcj:(S.OG n)[j]?=some x.card:=by simp[S.OG,hx]
  have z1:j<((((S.OG n).take j)++List.replicate (n.nodes.length - j) 0).map ci).length:=by simp;omega
  have z2:((((S.OG n).take j)++List.replicate (n.nodes.length - j) 0).map ci)[j]?=some (ci 0):=by rw[List.getElem?_map,List.getElem?_append_right (by simp;omega),List.getElem?_replicate];simp;omega
  have e2:((((S.OG n).take j)++List.replicate (n.nodes.length - j) 0).map ci).set j (ci x.card)=(((S.OG n).take (j+1))++List.replicate (n.nodes.length - (j+1)) 0).map ci:=by
   rw[<-List.map_set,List.set_append_right _ _ (by simp;omega),List.length_take,Nat.min_eq_left (by omega),Nat.sub_self,List.take_succ_eq_append_getElem (by omega),show n.nodes.length - j=(n.nodes.length - (j+1))+1 by omega,List.replicate_succ,List.set_cons_zero,List.append_assoc];have:(S.OG n)[j]=x.card:=by rw[List.getElem?_eq_getElem (by omega)] at hcj;injection hcj
   rw[this];rfl
  have fw:eg [.int .i64 0,.nils,.nils] [((0,3),.agg [.int .i64 x.card,a',b'])]=some [.int .i64 x.card,a',b']:=rfl;simp only[sz,simprocAttr,h9,h11,r1,hlt,q1,hry];have hO2:Own ((g.new (.cells 3 [[.int .i64 0,.nils,.nils]] 0 false false)).put g.nx (.cells 3 [[.int .i64 x.card,a',b']] 0 false false)) 0 u 1 ((((S.OG n).take j)++List.replicate (n.nodes.length - j) 0).map ci) :=
   hO.fr (by simp) λi hi=>by have:=(hO.lt hi).2;simp[H.get_put,show ¬i=g.nx by omega]
  generalize (g.new (.cells 3 [[.int .i64 0,.nils,.nils]] 0 false false)).put g.nx (.cells 3 [[.int .i64 x.card,a',b']] 0 false false)=g2 at hO2 ⊢;simp only[sz,simprocAttr,h3,hO2.rows,z1];refine cN (v:=u) (sz:=1) (n:=1) (i:=j) (off:=0) (x:=.int .i64 x.card) (row:=ci 0) (row':=ci x.card) hO2 z2 rfl rfl rfl λg3 o3 n3 f3=>?_;rw[e2] at o3;simp only[sz,simprocAttr];simpa [St,sx,h9,h3,h10,h11] using o3
 ·rintro t df g ⟨rfl,⟨h9,h3,-⟩,hO⟩;rw[List.take_of_length_le (by rw[aG];omega),Nat.sub_self] at hO;simp only[sz,simprocAttr,n_,h3];exact ⟨_,(by simpa using hO:Own g 0 u 1 ((S.OG n).map ci)).ints (by rw[aG];omega)⟩
def S.PA (l:List Int)(x:Int):Int:=if x∈l then (l.idxOf x:Int) else -1
theorem IL {l:List Int}{x:Int}:(0:Int)<=S.PA l x↔x∈l:=by
 unfold S.PA
 split
 ·rename_i h;simp[h]
 ·rename_i h;simp[h]
theorem H8 {d k:Nat}{g:G}{P:Nat->Prop}{v:AV}{l:List Int}{x:Int}(hd:0<d)(hv:SlR P k g.h l v):am C0 d N.PJ [v,.int .i64 x] g=.val (.int .i64 (S.PA l x)):=by
 obtain ⟨v',e,r1⟩:=be hv d;have vl:∀g,cV .slice v' g=.val (.int .i64 (l.length:Int)):=λg=>(r1 .nil).len g;have ri:=λh=>(r1 h).ints;rw[nu];refine dE pU (xs:=[v',.int .i64 x]) (by simp only[aE,e,bD 0]) (by simp[ea]) hd ?_;simp only[sz,simprocAttr,ea,vl,f_];refine bj (m:=l.length) hv.1 (λj t df g=>df=[]/\St t [(0,v'),(1,.int .i64 x)]/\x ∉ l.take j) ⟨rfl,by simp[St,sx],by simp⟩ (by simp[sx]) (by simp[sx]) (by decide)
  (by rintro j t df g v s (rfl | rfl | rfl)<;>simp[sx,St]) ?_ ?_
 ·rintro j t df g hj ⟨rfl,⟨h0,h1,-⟩,hno⟩ h8 h7;obtain ⟨y,hy,htk,hm⟩:=ae hj;have z1:j<(l.map ci).length:=by simpa using hj
  have z2:(l.map ci)[j]?=some (ci y):=by rw[List.getElem?_map,hy];rfl
  by_cases c:x=y
  ·subst c;have hl:l=l.take j++x::l.drop (j+1):=by
    have:l.drop j=x::l.drop (j+1):=by rw[List.drop_eq_getElem_cons hj];congr 1;rw[List.getElem?_eq_getElem hj] at hy;injection hy
    rw[<-this,List.take_append_drop]
   have hf:S.PA l x=(j:Int):=by
    unfold S.PA;rw[if_pos hm];have:l.idxOf x=j:=by
     conv=>lhs;rw[hl]
     rw[List.idxOf_append,if_neg hno,List.idxOf_cons_self,List.length_take];omega
    rw[this]
   simp only[sz,simprocAttr,h0,h1,h8,ri,z1,z2,ci,hf]
  ·simp only[sz,simprocAttr,h0,h1,h8,ri,z1,z2,ci,c];simp[St,sx,h0,h1,h7,h8,htk,hno,c]
 ·rintro t df g ⟨rfl,-,hno⟩;rw[List.take_length] at hno;simp only[sz,simprocAttr,gc,S.PA,hno]
theorem Ce {d k:Nat}{g:G}{P:Nat->Prop}{v:AV}{l:List Int}{x:Int}(hd:0<d)(hv:SlR P k g.h l v):am C0 d N.PG [v,.int .i64 x] g=.val (.bool (decide (x∈l))):=by obtain ⟨v',e,r1⟩:=be hv d;have ki:=λg=>H8 (d:=d+1) (g:=g) (x:=x) (Nat.succ_pos d) (r1 g.h);have hd2:decide ((0:Int)<=S.PA l x)=decide (x∈l):=decide_eq_decide.2 IL;rw[j8];refine ej mD (xs:=[v',.int .i64 x]) (by simp only[aE,e,bD 0]) (by simp[dl]) hd ?_;simp only[sz,simprocAttr,dl,ki,<-hd2]
theorem Ek {α:Type} [Rp α]{P:Nat->Prop}{k:Nat}{h:H}{l:List α}{w:AV}(hw:SlR P k h l w)(g:G):Ih w g=.upd (.hptr g.nx 0 0 0) (g.new (.cells 1 [[w]] 0 false false)):=by rw[Ej _ _ hw.cell.2,hw.cell.1];rfl
def Ec {α:Type} [Rp α](x:α)(sz:Nat):VS:=λP k h v=>(∃id cs,v=.hptr id 0 0 0/\P id/\h.get id=.cells sz [cs] 0 false false/\Rp.rp P k h x cs)\/∃t cs,v=.tptr t sz [cs] 0 0/\t<=k/\Rp.rp NoP k .nil x cs
theorem Dw {α:Type} [Rp α]{x:α}{sz:Nat}{P:Nat->Prop}{k:Nat}{h:H}{v:AV}{n:Nat}(d:Nat)(r:Ec x sz P k h v)(hn:Rp.dp α<=n)(hd:Rp.dp α<=20:=by decide):∃v',Hx.snap h d (n+1) v=some v'/\Ec x sz NoP (max k d) .nil v':=by
 rcases r with ⟨id,cs,rfl,-,hg,r⟩ | ⟨t,cs,rfl,ht,r⟩
 ·obtain ⟨cs',e,r'⟩:=Rp.snap (n:=n) d r hn (by show _<=24;omega);obtain ⟨m,e2,l2⟩:=Rp.tag (n:=aB) r' (by show _<=24;omega);refine ⟨.tptr (Nat.max d (Nat.max m 0)) sz [cs'] 0 0,?_,.inr ⟨_,cs',rfl,?_,r'⟩⟩
  ·simp only[Hx.snap,hg,show Nat.beq 0 0=true from rfl,aE,e,eL,eT,e2]
  ·show max d (max m 0)<=max k d;omega
 ·exact ⟨.tptr t sz [cs] 0 0,rfl,.inr ⟨t,cs,rfl,by omega,Rp.mono r (λi hi=>hi.elim) (by omega)⟩⟩
theorem GA {α:Type} [Rp α]{x:α}{sz:Nat}{k:Nat}{h:H}{v:AV}{n:Nat}(r:Ec x sz NoP k h v):∃m,dH (n+1) v=some m/\m<=k:=by
 rcases r with ⟨id,cs,rfl,hP,-⟩ | ⟨t,cs,rfl,ht,r⟩
 ·exact hP.elim
 ·exact ⟨t,rfl,ht⟩
theorem JB {cs vs:List Int}(h:InC cs vs)(hc:∀c∈cs,1<=c){i:Nat}{x c:Int}(hi:vs[i]?=some x)(hci:cs[i]?=some c)(hx:x≠c - 1):InC cs (vs.take i++(x+1)::List.replicate (vs.length - (i+1)) 0):=by
 have hil:=(List.getElem?_eq_some_iff.1 hi).1;have hl:=h.len;refine Bz (by simp;omega) λj c' v hj hv=>?_;obtain ⟨v',h1,h2,h3⟩:=h.get hj;have hcp:=hc c' (List.mem_of_getElem? hj)
 by_cases h4:j<i
 ·rw[List.getElem?_append_left (by simp;omega),List.getElem?_take_of_lt h4] at hv;rw[h1] at hv;injection hv with hv;omega
 ·rw[List.getElem?_append_right (by simp;omega)] at hv;rw[List.length_take,Nat.min_eq_left (by omega)] at hv
  by_cases h5:j=i
  ·subst h5;rw[Nat.sub_self] at hv;simp at hv;rw[hi] at h1;injection h1 with h1;rw[hci] at hj;injection hj with hj;omega
  ·obtain ⟨m,hm⟩:∃m,j - i=m+1:=⟨j - i - 1,by omega⟩;rw[hm,List.getElem?_cons_succ] at hv;have:=List.mem_of_getElem? hv;rw[List.mem_replicate] at this;omega
theorem KU {cs:List Int}(hc:∀c∈cs,1<=c):InC cs (List.replicate cs.length 0) :=
 Bz (by simp) λj c v hj hv=>by have:=List.mem_of_getElem? hv;rw[List.mem_replicate] at this;have:=hc c (List.mem_of_getElem? hj);omega
theorem Cc {vs:List Int}{m:Nat}(h:m<vs.length):(vs.take (m+1)++List.replicate (vs.length - (m+1)) 0).set m 0=vs.take m++List.replicate (vs.length - m) 0:=by
 rw[List.take_succ_eq_append_getElem h,List.append_assoc,List.set_append_right _ _ (by simp;omega),List.length_take,Nat.min_eq_left (by omega),Nat.sub_self];rw[show vs.length - m=(vs.length - (m+1))+1 by omega,List.replicate_succ]
 rfl
theorem Cb {vs:List Int}{m:Nat}(h:m<vs.length)(y:Int):(vs.take (m+1)++List.replicate (vs.length - (m+1)) 0).set m y=vs.take m++y::List.replicate (vs.length - (m+1)) 0:=by
 rw[List.take_succ_eq_append_getElem h,List.append_assoc,List.set_append_right _ _ (by simp;omega),List.length_take,Nat.min_eq_left (by omega),Nat.sub_self]
 rfl
structure OdoJ (n:Net) (vs:List Int) (L:List (Nat×AV)) (u:AV) (g0:G) (m:Nat) (t:T) (g:G):Prop where
 st:tat t 6=.int .i64 ((m:Int) - 1)
 ss:St t L
 ow:Own g g0.nx u 1 ((vs.take m++List.replicate (vs.length - m) 0).map ci)
 mx:∀(j:Nat) (c:Int),m<=j->(S.OG n)[j]?=some c->vs[j]?.getD 0=c - 1
theorem HO {C:Cfg}{d id nt:Nat}{t:T}{ps:List Nat}{assign body:Code}{a b:SC}{dfr:Nat}{args:List AV}{g:G}{K:AV->G->Prop}{D:ADf->Prop}{t':T}
  (hg:g.h.get id=.loop nt t ps assign body dfr .ready none) (ha:dM C nt assign=a) (hb:dM C nt body=b) (hp:dw t nt ps args=some t')
  (h:wp C d (some id) a (λe t1 df g1=>e=.norm/\df=[]/\g1.h.get id=.loop nt t ps assign body dfr .ready none /\
   wp C d (some id) b (λe _ df g2=>df=[]/\g2.h.get id=.loop nt t ps assign body dfr .busy none/\((e=.norm/\K (.bool true) (g2.put id (.loop nt t ps assign body dfr .ready none)))\/(e=.ret/\K (.bool false) (g2.put id (.loop nt t ps assign body dfr .done (some .ret))))))
    t1 [] (g1.put id (.loop nt t ps assign body dfr .busy none))) t' [] g) :
  (cI (I C) d id args g).sat K g D:=by
 subst ha;subst hb;unfold cI;rw[show g.get id=_ from hg];dsimp only;rw[hp];dsimp only;have h1:=rK h;cases hc:(I C).code nt d (some id) assign t' [] g with
 | fail=>rw[hc] at h1;exact h1.elim
 | ok e t1 df g1 =>
  rw[hc] at h1;obtain ⟨rfl,rfl,hg1,h2⟩:=h1;dsimp only;rw[show g1.get id=_ from hg1];dsimp only;have h3:=rK h2;cases hc2:(I C).code nt d (some id) body t1 [] (g1.put id (.loop nt t ps assign body dfr .busy none)) with
  | fail=>rw[hc2] at h3;exact h3.elim
  | ok e t2 df2 g2 =>
   rw[hc2] at h3;obtain ⟨rfl,h4,h5⟩:=h3;dsimp only;rw[show g2.get id=_ from h4];rcases h5 with ⟨rfl,h5⟩ | ⟨rfl,h5⟩<;>exact h5
structure CsOk (cs:List Int):Prop where
 b:∀c∈cs,1<=c/\c<=4
 l:cs.length<=8
def S.nc (cs:List Int):Nat:=(S.OH cs).toNat
theorem CsOk.nc {cs:List Int}(h:CsOk cs):1<=S.nc cs/\S.nc cs<=65536/\((S.nc cs:Nat):Int)=S.OH cs:=by
 obtain ⟨h1,h2⟩:=bV h.b;have h3:(4:Int) ^ cs.length<=4 ^ 8:=by
  have:(4:Nat) ^ cs.length<=4 ^ 8:=Nat.pow_le_pow_right (by decide) h.l
  exact_mod_cast this
 have h4:(4:Int) ^ 8=65536:=by decide
 unfold S.nc;omega
def Up (B:Nat)(g g':G):Prop:=(∀i,i<B->g'.h.get i=g.h.get i)/\∀i∈g'.lg,i∈g.lg\/B<=i
theorem Up.refl (B:Nat)(g:G):Up B g g:=⟨λ_ _=>rfl,λ_ h=>.inl h⟩
theorem Up.trans {B:Nat}{g g1 g2:G}(h:Up B g g1)(h2:Up B g1 g2):Up B g g2:=⟨λi hi=>by rw[h2.1 i hi,h.1 i hi],λi hi=>(h2.2 i hi).elim (λh3=>h.2 i h3) .inr⟩
theorem Up.mono {B B':Nat}{g g':G}(h:Up B g g')(hb:B'<=B):Up B' g g':=⟨λi hi=>h.1 i (by omega),λi hi=>(h.2 i hi).imp id λh=>by omega⟩
theorem Up.new {B:Nat}{g:G}(hb:B<=g.nx)(o:AObj):Up B g (g.new o):=⟨λi hi=>by rw[G.new_h,aq _ _ _ (by omega)],λi hi=>by simp at hi;rcases hi with rfl | hi;exact .inr hb;exact .inl hi⟩
theorem Up.put {B:Nat}{g:G}{j:Nat}(hb:B<=j)(o:AObj):Up B g (g.put j o):=⟨λi hi=>by rw[G.put_h,aq _ _ _ (by omega)],λi hi=>by simp at hi;rcases hi with rfl | hi;exact .inr hb;exact .inl hi⟩
theorem tR {g:G}{b:Nat}{v:AV}{sz n i off:Nat}{rows:List (List AV)}{row row':List AV}{x:AV}{K:AV->G->Prop}{D:ADf->Prop}(hv:Own g b v sz rows)(hr:rows[i]?=some row)
  (hl:x.cells.length=n) (ht:x.isTup=false) (hp:bL row off x.cells=some row')
  (k:∀g',Own g' b v sz (rows.set i row')->g'.nx=g.nx->(∀i,vid v≠some i->g'.h.get i=g.h.get i)->Up b g g'->K .undef g'):(lJ n (iH sz v i off) x g).sat K g D:=by
 rcases hv with ⟨rfl,rfl⟩ | ⟨id,ep,lo,h1,h2,rfl,h3⟩
 ·simp at hr
 ·simp only[iH,Nat.zero_add];rw[zp h3 hr rfl ht hl hp];refine k _ (.inr ⟨id,ep,lo,h1,by simpa using h2,by simp,by simp[aR]⟩) (by simp) (λi hne=>?_) (Up.put h1 _);rw[G.put_h,aq _ _ _ (λe=>hne (by rw[e];rfl))]
def Uo (B:Nat)(g g':G):Prop:=Up B g g'/\g.nx<=g'.nx/\∀i,i≠B->i<g.nx->g'.h.get i=g.h.get i
theorem Uo.refl (B:Nat)(g:G):Uo B g g:=⟨Up.refl _ _,Nat.le_refl _,λ_ _ _=>rfl⟩
theorem Uo.trans {B:Nat}{g g1 g2:G}(h:Uo B g g1)(h2:Uo B g1 g2):Uo B g g2:=⟨h.1.trans h2.1,Nat.le_trans h.2.1 h2.2.1,λi hi hn=>by rw[h2.2.2 i hi (Nat.lt_of_lt_of_le hn h.2.1),h.2.2 i hi hn]⟩
def Ul (B:Nat)(g g':G):Prop:=Up B g g'/\g.nx<=g'.nx/\∀i,(i<B\/B+3<=i)->i<g.nx->g'.h.get i=g.h.get i
theorem Ul.put {B:Nat}{g:G}{j:Nat}(hb:B<=j)(hb2:j<B+3)(o:AObj):Ul B g (g.put j o):=⟨Up.put hb o,by simp,λi hi _=>by rw[G.put_h,aq _ _ _ (by omega)]⟩
def LMc (id:Nat)(w u:AV)(k:Nat):List (Nat×AV):=[(0,.yld id),(1,.tptr 0 1 [[w]] 0 0),(3,u),(4,.int .i64 (k:Int))]
structure OdoC (cs vs:List Int) (L:List (Nat×AV)) (u:AV) (g0:G) (m:Nat) (t:T) (g:G):Prop where
 st:tat t 5=.int .i64 ((m:Int) - 1)
 ss:St t L
 ow:Own g g0.nx u 1 ((vs.take m++List.replicate (vs.length - m) 0).map ci)
 mx:∀(j:Nat) (c:Int),m<=j->cs[j]?=some c->vs[j]?.getD 0=c - 1
theorem Ld {d id k m:Nat}{cs vs:List Int}{w u:AV}{Q:QT}{t:T}{g g0:G}(hb:CsOk cs)(hw:SlR NoP 0 .nil cs w)(hc:InC cs vs)(hm:m<=cs.length)
  (h0:OdoC cs vs (LMc id w u k) u g0 m t g) (hvu:vid u=some g0.nx)
  (fin:∀m' t g',m'<=cs.length->OdoC cs vs (LMc id w u k) u g0 m' t g'->g.nx<=g'.nx->Uo g0.nx g g'->(m'=0\/∃x c,vs[m' - 1]?=some x/\cs[m' - 1]?=some c/\x≠c - 1/\0<m')->Q (.exit 2) t [] g') :
  wpL (wp C0 d none bE) Q t [] g:=by
 have hvl:=hc.len;have hl8:=hb.l;have ri:=λh=>(hw.tree (h':=h) (Nat.le_refl 0):SlR NoP 0 h cs w).ints;refine eW (λm t df g'=>df=[]/\m<=cs.length/\OdoC cs vs (LMc id w u k) u g0 m t g'/\g.nx<=g'.nx/\Uo g0.nx g g') m ⟨rfl,hm,h0,Nat.le_refl _,Uo.refl _ _⟩ ?_;rintro m t df g1 ⟨rfl,hm,⟨h5,⟨h0,h1,h3,h4,-⟩,how,hmx⟩,hnx,hfr⟩;simp only[bE];cases m with
 | zero =>
  have c1:¬((0:Int)<=((0:Nat):Int) - 1):=by omega
  simp only[sz,simprocAttr,h5,c1];refine fin 0 _ _ (Nat.zero_le _) ⟨?_,?_,?_,hmx⟩ ?_ ?_ (.inl rfl)
  ·simp[sx,h5]
  ·simp[St,LMc,sx,h0,h1,h3,h4]
  ·exact how
  ·exact hnx
  ·exact hfr
 | succ m =>
  have c1:(0:Int)<=((m+1:Nat):Int) - 1:=by omega
  have e1:((m+1:Nat):Int) - 1=(m:Int):=by omega
  rw[e1] at c1 h5;obtain ⟨x,hx,-,hxm⟩:=ae (l:=cs) (j:=m) (by omega);obtain ⟨v,hv,hv0,hv1⟩:=hc.get hx;have hcx:=hb.b x hxm;have u1:m<((vs.take (m+1)++List.replicate (vs.length - (m+1)) 0).map ci).length:=by simp;omega
  have u2:((vs.take (m+1)++List.replicate (vs.length - (m+1)) 0).map ci)[m]?=some (ci v):=by rw[List.getElem?_map,List.getElem?_append_left (by simp;omega),List.getElem?_take_of_lt (by omega),hv];rfl
  have z1:m<(cs.map ci).length:=by simp;omega
  have z2:(cs.map ci)[m]?=some (ci x):=by rw[List.getElem?_map,hx];rfl
  have ru:=how.rows;have w1:IntKind.wrap .i64 (x - 1)=x - 1:=ay (by omega) (by omega)
  by_cases c2:v=x - 1
  ·simp only[sz,simprocAttr,h5,h1,h3,c1,ru,u1,u2,ri,z1,z2,eJ,ci,w1,c2];refine tR (v:=u) (sz:=1) (n:=1) (i:=m) (off:=0) (x:=.int .i64 0) (row':=ci 0) how u2 rfl rfl rfl λg4 hu4 n4 f4 p4=>?_;rw[<-List.map_set,Cc (by omega)] at hu4;have w2:IntKind.wrap .i64 ((m:Int) - 1)=(m:Int) - 1:=ay (by omega) (by omega);simp only[sz,simprocAttr,h5,w2];refine ⟨m,by omega,by omega,⟨by simp[sx],by simp[St,LMc,sx,h0,h1,h3,h4],hu4,λj c hj hc'=>?_⟩,by omega,hfr.trans ⟨p4,by omega,λi hi _=>f4 i λe=>hi (by rw[hvu] at e;injection e with e;exact e.symm)⟩⟩
   by_cases e:j=m
   ·subst e;rw[hx] at hc';injection hc' with hc';rw[hv,Option.getD_some];omega
   ·exact hmx j c (by omega) hc'
  ·simp only[sz,simprocAttr,h5,h1,h3,c1,ru,u1,u2,ri,z1,z2,eJ,ci,w1,c2];refine fin (m+1) _ _ hm ⟨?_,?_,?_,hmx⟩ ?_ ?_ (.inr ⟨v,x,hv,hx,c2,by omega⟩)
   ·simp[sx,h5]
   ·simp[St,LMc,sx,h0,h1,h3,h4]
   ·exact how
   ·exact hnx
   ·exact hfr
theorem Le {d id:Nat}{cs:List Int}{w:AV}{g0:G}{K:AV->G->Prop}(hb:CsOk cs)(hw:SlR NoP 0 .nil cs w)
  (J:Nat->G->Prop) (E:G->Prop) (hJ:∀j g g',Uo g0.nx g g'->J j g->J j g')
  (step:∀(j:Nat) (u:AV) (g:G) (K':AV->G->Prop) (D:ADf->Prop),j<S.nc cs->g0.nx+1<=g.nx->J j g->SlR (λi=>g0.nx<=i/\i<g.nx) 0 g.h (S.ON cs j) u ->
   (∀g',J (j+1) g'->g.nx<=g'.nx->(∀i,g0.nx<=i->i<g.nx->g'.h.get i=g.h.get i)->K' (.bool true) g')->(∀g',E g'->K' (.bool false) g')->(cI (I C0) d id [.int .i64 (j:Int),u] g).sat K' g D)
  (h0:J 0 g0) (fin:∀g',J (S.nc cs) g'->g0.nx<=g'.nx->K (.tup []) g') (finE:∀g',E g'->K (.tup []) g') :
  wp C0 d none aN.code (fnQ C0 d aN.res K) (bK 0 [.yld id,.tptr 0 1 [[w]] 0 0] .nil) [] g0:=by
 have hl8:=hb.l;obtain ⟨W1,W2,W3⟩:=hb.nc;have hcs1:=λc hc=>(hb.b c hc).1;have nl:=hw.len;have ri:=λh=>(hw.tree (h':=h) (Nat.le_refl 0):SlR NoP 0 h cs w).ints;obtain ⟨Qf,hQf⟩:∃Qf,Qf=fnQ C0 d aN.res K:=⟨_,rfl⟩;rw[<-hQf];simp only[sz,simprocAttr,aN,eJ,nl];refine oo (b:=g0.nx) (n:=cs.length) (by unfold aP;omega) (by unfold aP;omega) (Nat.le_refl _) λu g1 hu n1 fr1 v1 l1=>?_;simp only[sz,simprocAttr];obtain ⟨INV,hINV⟩:∃INV:Nat->PT,INV=(λm t df g=>df=[]/\∃(j:Nat) (vs:List Int),m=S.nc cs - j/\j<S.nc cs/\InC cs vs/\S.OK cs vs=(j:Int)/\St t (LMc id w u j)/\Own g g0.nx u 1 (vs.map ci)/\J j g/\g0.nx+1<=g.nx):=⟨_,rfl⟩;refine eW INV (S.nc cs) ?_ ?_
 ·rw[hINV];exact ⟨rfl,0,List.replicate cs.length 0,rfl,by omega,KU hcs1,by rw[yH];rfl,by simp[St,LMc,sx],by simpa [ci] using hu,hJ 0 _ _ ⟨⟨fr1,λi hi=>by rw[l1] at hi;rcases List.mem_cons.1 hi with rfl | hi;exact .inr (Nat.le_refl _);exact .inl hi⟩,by omega,λi _ hn=>fr1 i hn⟩ h0,by omega⟩
 intro m t df g hI;have hI2:=hI;rw[hINV] at hI2;obtain ⟨rfl,j,vs,rfl,hj,hin,hidx,⟨h0,h1,h3,h4,-⟩,ho,hJj,hnx⟩:=hI2;clear hI;have hvl:=hin.len;have hval:S.ON cs (j:Int)=vs:=by rw[<-hidx];exact Fk hcs1 hin
 have hvu:vid u=some g0.nx:=v1;have hsl:SlR (λi=>g0.nx<=i/\i<g.nx) 0 g.h vs u:=Own.sl (α:=Int) ho (by omega) (All2.of_map (λa=>aL.2 rfl) _) λi hi=>ho.lt hi;have w1:IntKind.wrap .i64 ((cs.length:Int) - 1)=(cs.length:Int) - 1:=ay (by omega) (by omega);obtain ⟨R,hR⟩:∃R,R=(SC.seq (.blk 1 (sQ [oL 15 1,oN 16 15,o 17 (.bin .sub (.t 16) (qI 1)),oM 5 17] (.seq (.blk 2 (.loop bE)) bF))) cH):=⟨_,rfl⟩;simp only[eM];rw[<-hR,dU];obtain ⟨Q1,hQ1⟩:∃Q1,Q1=kL INV (S.nc cs - j) (kB 0 Qf):=⟨_,rfl⟩;rw[<-hQ1];have rest:∀(t:T) (g:G),St t (LMc id w u j)->Own g g0.nx u 1 (vs.map ci)->J (j+1) g->g0.nx+1<=g.nx->wp C0 d none R Q1 t [] g:=by
  rintro t g ⟨h0,h1,h3,h4,-⟩ ho hJj hnx;rw[hR,hQ1];simp only[sz,simprocAttr,h1,eJ,nl,w1];refine Ld (id:=id) (k:=j) (m:=cs.length) (w:=w) (u:=u) (vs:=vs) (g0:=g0) hb hw hin (Nat.le_refl _) ⟨by simp[sx],by simp[St,LMc,sx,h0,h1,h3,h4],?_,λi c hi hc=>?_⟩ hvu ?_
  ·rw[List.take_of_length_le (by omega),show vs.length - cs.length=0 by omega];simpa using ho
  ·have:=(List.getElem?_eq_some_iff.1 hc).1;omega
  rintro m' t2 g2 hm' ⟨h5,⟨h0,h1,h3,h4,-⟩,ho2,hmx⟩ hn2 hf2 hcase;have hJ2:J (j+1) g2:=hJ _ _ _ hf2 hJj;rcases hcase with rfl | ⟨x,c,hx,hc,hxc,hm0⟩
  ·have hlast:j+1=S.nc cs:=by have:=By (cs:=cs) (vs:=vs) hin.len.symm λi c hc=>hmx i c (Nat.zero_le _) hc;omega
   have c1:(((0:Nat):Int) - 1<0):=by omega
   rw[hQf];simp only[sz,simprocAttr,bF,aN,h5,c1];rw[hlast] at hJ2;exact fin g2 hJ2 (by omega)
  ·obtain ⟨i,rfl⟩:∃i,m'=i+1:=⟨m' - 1,by omega⟩;rw[Nat.add_sub_cancel] at hx hc;have hil:=(List.getElem?_eq_some_iff.1 hx).1;have e1:((i+1:Nat):Int) - 1=(i:Int):=by omega
   rw[e1] at h5;have c1:¬((i:Int)<0):=by omega
   have u1:i<((vs.take (i+1)++List.replicate (vs.length - (i+1)) 0).map ci).length:=by simp;omega
   have u2:((vs.take (i+1)++List.replicate (vs.length - (i+1)) 0).map ci)[i]?=some (ci x):=by rw[List.getElem?_map,List.getElem?_append_left (by simp;omega),List.getElem?_take_of_lt (by omega),hx];rfl
   have ru:=ho2.rows;obtain ⟨x',hx',hx0,hx1⟩:=hin.get hc;rw[Ls hx' hx] at hx0 hx1;have hcb:=hb.b c (List.mem_of_getElem? hc);have w2:IntKind.wrap .i64 (x+1)=x+1:=ay (by omega) (by omega);simp only[sz,simprocAttr,bF,h5,c1,h3,ru,u1,u2,ci,w2];refine tR (v:=u) (sz:=1) (n:=1) (i:=i) (off:=0) (x:=.int .i64 (x+1)) (row':=ci (x+1)) ho2 u2 rfl rfl rfl λg4 hu4 n4 f4 p4=>?_;rw[<-List.map_set,Cb hil] at hu4;have hin2:=JB hin hcs1 hx hc hxc;have hidx2:=Jb (cs:=cs) (vs:=vs) hin.len.symm hx λk c hk hc=>hmx k c (by omega) hc;rw[hidx] at hidx2;have hlt2:=iD hb.b hin2;have w3:IntKind.wrap .i64 ((j:Int)+1)=((j+1:Nat):Int):=by rw[ay (by omega) (by omega)];rfl
   simp only[sz,simprocAttr,cH,h4,w3];refine ⟨S.nc cs - (j+1),by omega,?_⟩;rw[hINV];refine ⟨rfl,j+1,_,rfl,by omega,hin2,by rw[hidx2];rfl,by simp[St,LMc,sx,h0,h1,h3],hu4,hJ _ _ _ ⟨p4,by omega,λi hi _=>f4 i λe=>hi (by rw[hvu] at e;injection e with e;exact e.symm)⟩ hJ2,by omega⟩
 simp only[sz,simprocAttr,h0,h3,h4];have st:=λK' D=>step j u g K' D hj hnx hJj (by rw[hval];exact hsl);show (cI (I C0) d id [.int .i64 (j:Int),u] g).sat _ _ _;refine st _ _ (λg' hJ' hn' hf'=>?_) λg' hE=>?_
 ·simp only[sz,simprocAttr];exact rest _ _ (by simp[St,LMc,sx,h0,h1,h3,h4]) (ho.fr hn' λi hi=>hf' i (ho.lt hi).1 (ho.lt hi).2) hJ' (by omega)
 ·rw[hQ1,hQf];simp only[sz,simprocAttr,aN];exact finE g' hE
theorem II:C0.ext N.OJ=none:=by kernel_rfl
theorem HM {d nt p q r:Nat}{cs:List Int}{w:AV}{ca cb:SC}{Q:QT}{t:T}{df:List ADf}{g:G}(hb:CsOk cs)(hw:SlR NoP 0 .nil cs w)
  (hv:tat t r=.clo N.OJ [] [.tptr 0 1 [[w]] 0 0]) (hp:p<nt) (hq:q<nt)
  (J:Nat->G->Prop) (E:G->Prop) (hJ:∀j g1 g2,Ul g.nx g1 g2->J j g1->J j g2) (hE:∀g1 g2,Ul g.nx g1 g2->E g1->E g2) (h0:J 0 g)
  (step:∀(j:Nat) (u:AV) (g1:G),j<S.nc cs->J j g1->g.nx+3<=g1.nx->SlR (λi=>g.nx+2<=i/\i<g1.nx) 0 g1.h (S.ON cs j) u ->
   wp C0 d (some (g.nx+1)) ca (λe t1 df g1'=>e=.norm/\df=[]/\Fr g1 g1'/\∀g2:G,g2.nx=g1'.nx->(∀i,i≠g.nx+1->g2.h.get i=g1'.h.get i)->Up g.nx g1' g2 ->
    wp C0 d (some (g.nx+1)) cb (λe _ df g3=>df=[]/\RowQ g.nx g2 g3 e (J (j+1) g3) (E g3)) t1 [] g2)
    (fO (fO t p (.int .i64 (j:Int))) q u) [] g1)
  (fin:∀g',J (S.nc cs) g'->g.nx+2<=g'.nx->g'.h.get g.nx=.dfr true->Q .norm t (.mark g.nx::df) g')
  (finE:∀g',E g'->g.nx+2<=g'.nx->g'.h.get g.nx=.dfr true->Q .ret t (.mark g.nx::df) g') :
  wp C0 d none (.rng nt (.t r) [p,q] ca cb) Q t df g:=by
 refine zx (fn:=N.OJ) (first:=[]) (cap:=[.tptr 0 1 [[w]] 0 0]) (s:=aN) hv II nB (by simp[aN]) ?_;intro assign body ha hb';have e1:((g.new (.dfr true)).new (.loop nt t [p,q] assign body g.nx .ready none)).nx=g.nx+2:=by simp
 refine Le (g0:=(g.new (.dfr true)).new (.loop nt t [p,q] assign body g.nx .ready none)) (id:=g.nx+1) hb hw
  (λj g'=>J j g'/\g'.h.get g.nx=.dfr true/\g'.h.get (g.nx+1)=.loop nt t [p,q] assign body g.nx .ready none)
  (λg'=>E g'/\g'.h.get g.nx=.dfr true/\g'.h.get (g.nx+1)=.loop nt t [p,q] assign body g.nx .done (some .ret)/\g.nx+2<=g'.nx) ?_ ?_ ?_ ?_ ?_
 ·rintro j h h' hh ⟨a1,a2,a3⟩;rw[e1] at hh;exact ⟨hJ j h h' ⟨hh.1.mono (by omega),hh.2.1,λi hi hn=>hh.2.2 i (by omega) hn⟩ a1,by rw[hh.1.1 _ (by omega),a2],by rw[hh.1.1 _ (by omega),a3]⟩
 ·rintro j u g1 K' D hj hn ⟨a1,a2,a3⟩ hsl kk kE;rw[e1] at hn kk hsl;refine HO a3 ha hb' (t':=fO (fO t p (.int .i64 (j:Int))) q u) ?_ ?_
  ·simp only[dw,aa,Nat.blt_eq,if_pos hp,if_pos hq];rfl
  ·refine bQ _ (step j u g1 hj a1 (by omega) hsl) ?_;rintro e t1 df g1' ⟨rfl,rfl,hfr,h⟩;have hl0:g.nx+1<g1.nx:=by omega
   have hl:g.nx+1<g1'.nx:=Nat.lt_of_lt_of_le hl0 hfr.1;have a2':g1'.h.get g.nx=.dfr true:=by rw[hfr.2 _ (by omega),a2]
   have a3':g1'.h.get (g.nx+1)=.loop nt t [p,q] assign body g.nx .ready none:=by rw[hfr.2 _ hl0,a3]
   refine ⟨rfl,rfl,a3',?_⟩;refine bQ _ (h (g1'.put (g.nx+1) (.loop nt t [p,q] assign body g.nx .busy none)) (by simp) (λi hi=>by simp[H.get_put,hi]) (Up.put (by omega) _)) ?_;rintro e t2 df g3 ⟨rfl,⟨b2,b3,b1⟩⟩;have b4:g3.h.get (g.nx+1)=.loop nt t [p,q] assign body g.nx .busy none:=by rw[b3 _ (by omega) (by simpa using hl)];simp[H.get_put]
   have b5:g3.h.get g.nx=.dfr true:=by rw[b3 _ (by omega) (by simp;omega)];simp[H.get_put,a2']
   refine ⟨rfl,b4,?_⟩;have b2':g1'.nx<=g3.nx:=by simpa using b2
   have hf1:=hfr.1;rcases b1 with ⟨rfl,b1⟩ | ⟨rfl,b1⟩
   ·refine .inl ⟨rfl,kk _ ⟨hJ _ g3 _ (Ul.put (by omega) (by omega) _) b1,?_,?_⟩ (by simp;omega) λi h1 h2=>?_⟩
    ·simp[H.get_put,b5]
    ·simp[H.get_put]
    ·have hne:¬i=g.nx+1:=by omega
     have:=b3 i (by omega) (by simp;omega);simp[H.get_put,hne] at this ⊢;rw[this,hfr.2 i h2]
   ·refine .inr ⟨rfl,kE _ ⟨hE g3 _ (Ul.put (by omega) (by omega) _) b1,?_,?_,?_⟩⟩
    ·simp[H.get_put,b5]
    ·simp[H.get_put]
    ·simp;omega
 ·refine ⟨hJ 0 g _ ⟨(Up.new (Nat.le_refl _) _).trans (Up.new (by simp) _),by simp;omega,λi hi hn=>by simp[H.get_put,show ¬i=g.nx by omega,show ¬i=g.nx+1 by omega]⟩ h0,?_,?_⟩
  ·simp[H.get_put]
  ·simp[H.get_put]
 ·rintro g' ⟨a1,a2,a3⟩ hn;rw[e1] at hn;refine ⟨_,_,_,_,_,_,.inl ⟨a3,fin _ (hJ _ g' _ (Ul.put (by omega) (by omega) _) a1) (by simpa using hn) ?_⟩⟩;simp[H.get_put,a2]
 ·rintro g' ⟨a1,a2,a3,hn⟩;refine ⟨_,_,_,_,_,_,.inr ⟨a3,finE _ (hE g' _ (Ul.put (by omega) (by omega) _) a1) (by simpa using hn) ?_⟩⟩;simp[H.get_put,a2]
theorem DM {d nt p q r:Nat}{cs:List Int}{w:AV}{ca cb:SC}{Q:QT}{t:T}{df:List ADf}{g:G}(hb:CsOk cs)(hw:SlR NoP 0 .nil cs w)
  (hv:tat t r=.clo N.OJ [] [.tptr 0 1 [[w]] 0 0]) (hp:p<nt) (hq:q<nt)
  (J:Nat->G->Prop) (E:G->Prop) (hJ:∀j g1 g2,Up g.nx g1 g2->J j g1->J j g2) (hE:∀g1 g2,Up g.nx g1 g2->E g1->E g2) (h0:J 0 g)
  (step:∀(j:Nat) (u:AV) (g1:G),j<S.nc cs->J j g1->g.nx+2<=g1.nx->SlR (λi=>g.nx+2<=i/\i<g1.nx) 0 g1.h (S.ON cs j) u ->
   wp C0 d (some (g.nx+1)) ca (λe t1 df g1'=>e=.norm/\df=[]/\Fr g1 g1'/\∀g2:G,g2.nx=g1'.nx->(∀i,i≠g.nx+1->g2.h.get i=g1'.h.get i)->Up g.nx g1' g2 ->
    wp C0 d (some (g.nx+1)) cb (λe _ df g3=>df=[]/\RowQ g.nx g2 g3 e (J (j+1) g3) (E g3)) t1 [] g2)
    (fO (fO t p (.int .i64 (j:Int))) q u) [] g1)
  (fin:∀g',J (S.nc cs) g'->g.nx+2<=g'.nx->g'.h.get g.nx=.dfr true->Q .norm t (.mark g.nx::df) g')
  (finE:∀g',E g'->g.nx+2<=g'.nx->g'.h.get g.nx=.dfr true->Q .ret t (.mark g.nx::df) g') :
  wp C0 d none (.rng nt (.t r) [p,q] ca cb) Q t df g :=
 HM hb hw hv hp hq J E (λj g1 g2 h=>hJ j g1 g2 h.1) (λg1 g2 h=>hE g1 g2 h.1) h0 (λj u g1 hj hJj hn=>step j u g1 hj hJj (by omega)) fin finE
def CbV (cs:List Int):VS:=λP k h v=>∃p,v=.clo N.OJ [] [p]/\Ec cs 1 P k h p
theorem NH (cs:List Int):Snb (CbV cs) 2:=by
 refine ⟨λ{P k h v n} d r hn=>?_,λ{k h v n} r hn=>?_⟩
 ·obtain ⟨p,rfl,r1⟩:=r;obtain ⟨n,rfl⟩:∃q,n=q+2:=⟨n - 2,by omega⟩;obtain ⟨p',e1,r1'⟩:=Dw (n:=n) d r1 (Nat.le_trans (show Rp.dp (List Int)<=20 by decide) (by omega));refine ⟨.clo N.OJ [] [p'],?_,p',rfl,r1'⟩;simp only[Hx.snap,aE] at e1 ⊢;rw[e1]
 ·obtain ⟨p,rfl,r1⟩:=r;obtain ⟨n,rfl⟩:∃q,n=q+2:=⟨n - 2,by omega⟩;obtain ⟨m1,e1,l1⟩:=GA (n:=n) r1;refine ⟨Nat.max m1 0,?_,by show max m1 0<=k;omega⟩;show eT (dH (n+1)) [p]=_;simp only[eT,e1]
theorem FO {d:Nat}{g:G}{w:AV}{cs:List Int}(hd:0<d)(hw:SlR NoP 0 g.h cs w) :
  ∃z,am C0 d N.OY [w] g=.val (.clo N.OJ [] [.tptr 0 1 [[z]] 0 0])/\SlR NoP 0 .nil cs z:=by
 have key:∃r,am C0 d N.OY [w] g=.val r/\CbV cs NoP 0 .nil r:=by rw[ny];refine aX pV (xs:=[w]) (by simp only[aE,iP d hw]) (by simp[ef]) (NH cs) (by decide) hd ?_;simp only[sz,simprocAttr,ef,gP,Ek hw];refine ⟨λ_=>True,_,rfl,.inl ⟨0,[w],rfl,trivial,by simp[sx,H.get_put],?_⟩⟩;exact ⟨w,rfl,hw.wide (Nat.le_refl 0)⟩
 obtain ⟨r,hr,p,rfl,r1⟩:=key;rcases r1 with ⟨id,cs,rfl,hP,-⟩ | ⟨t,cs2,rfl,ht,r1⟩
 ·exact hP.elim
 obtain ⟨z,rfl,hz⟩:=da.1 r1;have:t=0:=by omega
 subst this;exact ⟨z,hr,hz⟩
theorem Jc {cs vs:List Int}{c v:Int}(h:cs.length=vs.length):S.OK (cs++[c]) (vs++[v])=S.OK cs vs*c+v:=by
 have h1:=tE (cs++[c]) (vs++[v]) 0 (by simp[h]);have h2:=tE cs vs 0 h;have h3:S.PC (cs++[c]) (vs++[v]) 0=S.PC cs vs 0*c+v:=by
  unfold S.PC;rw[List.zip_append h,List.foldl_append]
  rfl
 rw[Int.zero_mul,Int.zero_add] at h1 h2;rw[<-h1,h3,h2]
theorem pO {cs:List Int}(hc:∀c∈cs,1<=c/\c<=4)(hl:cs.length<=8)(j:Nat):S.OH (cs.take j)<=65536:=by
 obtain ⟨-,h2⟩:=bV (l:=cs.take j) λc h=>hc c (List.mem_of_mem_take h);have h3:(4:Int) ^ (cs.take j).length<=4 ^ 8:=by
  have:(4:Nat) ^ (cs.take j).length<=4 ^ 8:=Nat.pow_le_pow_right (by decide) (by rw[List.length_take];omega)
  exact_mod_cast this
 have h4:(4:Int) ^ 8=65536:=by decide
 omega
theorem Mr {d k2 i:Nat}{g:G}{P2:Nat->Prop}{v w:AV}{n:Net}{x:Node}{vals:List Int}(hd:0<d)(hv:SlR NoP 0 .nil n.nodes v)(hr:NR n)(hx:n.nodes[i]?=some x)(hw:SlR P2 k2 g.h vals w)(hin:InC (S.OG n) vals) :
  am C0 d N.PK [v,.int .i64 (i:Int),w] g=.val (.int .i64 (S.OK (S.OJ (S.OG n) x.parents) (S.OJ vals x.parents))):=by
 obtain ⟨w',e2,hw'⟩:=be hw d;have e1:=iP (h:=g.h) d (hv.tree (h':=g.h) (Nat.le_refl 0));obtain ⟨rows,r1,r2,r3,r4⟩:=hv.all;have r1:∀h',ah h' 3 v=some rows:=r1;have hil:=(List.getElem?_eq_some_iff.1 hx).1;have hxm:=List.mem_of_getElem? hx;obtain ⟨row,q1,q2⟩:=r3 i x hx;obtain ⟨pa,ra,rfl,hpa,-⟩:=bI.1 q2;have hlt:i<rows.length:=by omega
 have hry:=r4 (by omega);have hl8:=hr.l2;have hvl:=hin.len;rw[aG] at hvl;have hpl:=iE (hr.places x hxm) (by omega);have hpin:=hr.pin hxm;have lpa:=hpa.len;have rpa:=λh=>(hpa.tree (h':=h) (Nat.le_refl 0)).ints;have rw':=λh=>(hw' h).ints;have hC:=tK hin hpin;have hb:=gU hr.cs hpin;have hll:(S.OJ (S.OG n) x.parents).length=x.parents.length:=by simp[S.OJ]
 have hlv:(S.OJ vals x.parents).length=x.parents.length:=by simp[S.OJ]
 rw[x9];refine dE Bt (xs:=[v,.int .i64 (i:Int),w']) (by simp only[aE,e1,e2,bD 0]) (by simp[qR]) hd ?_;simp only[sz,simprocAttr,qR,r1,hlt,q1,hry,lpa,qS];refine bj (m:=x.parents.length) (by omega) (λj t df g=>df=[]/\St t [(0,v),(2,w'),(14,pa),(7,.int .i64 (S.OK ((S.OJ (S.OG n) x.parents).take j) ((S.OJ vals x.parents).take j)))]) ⟨rfl,by simp[St,sx,S.OK]⟩ (by simp[sx]) (by simp[sx]) (by decide)
  (by rintro j t df g v s (rfl | rfl | rfl)<;>simp[sx,St]) ?_ ?_
 ·rintro j t df g hj ⟨rfl,h0,h2,h14,h7,-⟩ h16 h15;obtain ⟨p,hp,-,hpm⟩:=ae hj;obtain ⟨p0,p1⟩:=hpin p hpm;rw[aG] at p1;obtain ⟨pn,rfl⟩:=Int.eq_ofNat_of_zero_le p0;have hpn:pn<n.nodes.length:=by omega
  obtain ⟨y,hy,-,hym⟩:=ae (l:=n.nodes) (j:=pn) hpn;obtain ⟨row2,s1,s2⟩:=r3 pn y hy;obtain ⟨pa2,ra2,rfl,-,-⟩:=bI.1 s2;have hlt2:pn<rows.length:=by omega
  obtain ⟨z,hz,-,-⟩:=ae (l:=vals) (j:=pn) (by omega);have a1:j<(x.parents.map ci).length:=by simpa using hj
  have a2:(x.parents.map ci)[j]?=some (ci (pn:Int)):=by rw[List.getElem?_map,hp];rfl
  have b1:pn<(vals.map ci).length:=by rw[List.length_map];omega
  have b2:(vals.map ci)[pn]?=some (ci z):=by rw[List.getElem?_map,hz];rfl
  have c1:(S.OJ (S.OG n) x.parents).take (j+1)=(S.OJ (S.OG n) x.parents).take j++[y.card]:=by
   rw[List.take_succ_eq_append_getElem (by omega)];congr 1;simp only[S.OJ,List.getElem_map];have:x.parents[j]=(pn:Int):=by rw[List.getElem?_eq_getElem hj] at hp;injection hp
   rw[this];simp[S.OG,hy]
  have c2:(S.OJ vals x.parents).take (j+1)=(S.OJ vals x.parents).take j++[z]:=by
   rw[List.take_succ_eq_append_getElem (by omega)];congr 1;simp only[S.OJ,List.getElem_map];have:x.parents[j]=(pn:Int):=by rw[List.getElem?_eq_getElem hj] at hp;injection hp
   rw[this];simp[hz]
  have hsn:S.OK ((S.OJ (S.OG n) x.parents).take (j+1)) ((S.OJ vals x.parents).take (j+1))=S.OK ((S.OJ (S.OG n) x.parents).take j) ((S.OJ vals x.parents).take j)*y.card+z:=by rw[c1,c2];exact Jc (by simp[hll,hlv])
  have i1:=iD (λc h=>hb c (List.mem_of_mem_take h)) (hC.take j);have i2:=iD (λc h=>hb c (List.mem_of_mem_take h)) (hC.take (j+1));have p1:=pO hb (by rw[hll];omega) j;have p2:=pO hb (by rw[hll];omega) (j+1);rw[hsn] at i2 ⊢;have hyc:=hr.card y hym;obtain ⟨A,hA⟩:∃A,A=S.OK ((S.OJ (S.OG n) x.parents).take j) ((S.OJ vals x.parents).take j):=⟨_,rfl⟩;rw[<-hA] at h7 i1 i2 ⊢;have hm0:0<=A*y.card:=Int.mul_nonneg i1.1 (by omega);have hm1:A*y.card<=65536*4:=Int.mul_le_mul (by omega) (by omega) (by omega) (by omega);have w1:IntKind.wrap .i64 (A*y.card)=A*y.card:=ay (by omega) (by omega);have w2:IntKind.wrap .i64 (A*y.card+z)=A*y.card+z:=ay (by omega) (by omega);simp only[sz,simprocAttr,h0,h2,h14,h7,h16,rpa,a1,a2,ci,r1,hlt2,s1,hry,rw',b1,b2,w1,w2];simp[St,sx,h0,h2,h14,h15,h16]
 ·rintro t df g ⟨rfl,h0,h2,h14,h7,-⟩;rw[List.take_of_length_le (by omega),List.take_of_length_le (by omega)] at h7;simp only[sz,simprocAttr,qT,h7]
theorem Nm {g:G}{n:Nat}{K:AV->G->Prop}{D:ADf->Prop}(hn:n<=65536)(k:∀g',g'.h.get g.nx=.cells 1 ((List.replicate n 0).map ci) 0 false false->g'.nx=g.nx+1->Up g.nx g g'->K (.hsl g.nx 0 0 0 none) g') :
  (Db 1 8 [.int .i64 0] (.int .i64 0) (.int .i64 (n:Int)) g).sat K g D:=by
 have h1:n<=aP:=by unfold aP;omega
 have h2:n*8<=aP:=by unfold aP;omega
 have key:Db 1 8 [.int .i64 0] (.int .i64 0) (.int .i64 (n:Int)) g=.upd (.hsl g.nx 0 0 0 none) (g.new (.cells 1 (eV n [.int .i64 0]) 0 false false)):=by
  show (match bZ aP (.int .i64 (.ofNat n)) with
   | some cn=>match bZ cn (.int .i64 0) with
    | some ln=>au (Nat.ble (cn*8) aP) (OR.upd (.hsl g.nx 0 0 ln none) (g.new (.cells 1 (eV cn [.int .i64 0]) 0 false false))) .fail
    | none=>.fail
   | none=>.fail)=_
  have a1:bZ aP (.int .i64 (.ofNat n))=some n:=by show au (Nat.ble n aP) (some n) none=_;rw[aa,if_pos (by simpa using h1)]
  have a2:bZ n (.int .i64 0)=some 0:=by show au (Nat.ble 0 n) (some 0) none=_;rw[aa,if_pos (by simp)]
  rw[a1];dsimp only;rw[a2];dsimp only;rw[aa,if_pos (by simpa using h2)]
 rw[key];refine k _ ?_ (by simp) (Up.new (Nat.le_refl _) _);simp[aR,eV,ci]
theorem G6 {g:G}{id:Nat}{l tl:List Int}{x y:Int}{w:AV}{K:AV->G->Prop}{D:ADf->Prop}(hv:g.h.get id=.cells 1 (l.map ci++(y::tl).map ci) 0 false false)(hx:ah g.h 1 w=some [ci x])(hr:l.length<=65536)
  (k:K (.hsl id 0 0 (l++[x]).length none) (g.put id (.cells 1 ((l++[x]).map ci++tl.map ci) 0 false false))):(cW 1 8 (.hsl id 0 0 l.length none) w g).sat K g D:=by
 unfold cW;rw[hx];simp only[bk,G.get_eq,hv,aw,aa,Nat.beq_refl,Bool.true_and,Nat.ble_eq,Bool.and_eq_true,Nat.zero_add,Option.getD_none,Nat.sub_zero,List.length_append,List.length_map,List.length_cons,List.length_nil];rw[if_pos ⟨by omega,by unfold aP;omega⟩,if_pos (by omega)];have hnb:gZ false=true:=rfl;rw[if_pos ⟨by omega,hnb⟩];have e:gV (l.map ci++(y::tl).map ci) l.length [ci x]=(l++[x]).map ci++tl.map ci:=by simp only[gV,fA];rw[List.map_append,List.append_assoc,List.map_cons,List.set_append_right _ _ (by simp)];simp
 rw[e];have e3:l.length+1=(l++[x]).length:=by simp
 rw[e3];exact k
def S.wt (n:Net)(w:Nat):Int:=S.Py n (S.ON (S.OG n) (w:Int))
def S.OU (n:Net)(j:Nat):List Int:=(List.range j).map (S.wt n)
theorem KT (n:Net)(j:Nat):S.OU n (j+1)=S.OU n j++[S.wt n j]:=by simp[S.OU,List.range_succ]
theorem G0 (n:Net)(j:Nat):(S.OU n j).length=j:=by simp[S.OU]
def LWt (B:Nat):List (Nat×AV):=[(1,.hptr B 0 0 0),(4,.hptr (B+2) 0 0 0)]
theorem Fm {d B:Nat}{n:Net}{b u:AV}{vals:List Int}{P:Nat->Prop}{rd:Option Nat}{Q:QT}{t:T}{g:G}(hd:0<d)(hr:NR n)(hN:SlR NoP 0 .nil n.nodes b)(hin:InC (S.OG n) vals)(hu:SlR P 0 g.h vals u)(hP:∀i,P i->i<g.nx)(hB:B<g.nx)
  (gB:g.h.get B=.cells 2 [[.int .i64 n.grain,b]] 0 false false)
  (ht:St t ((6,u)::(21,b)::LWt B)) (h7:tat t 7=.int .i64 1) (h23:tat t 23=.int .i64 0) (h22:tat t 22=.int .i64 (n.nodes.length:Int))
  (fin:∀t g',St t ((7,.int .i64 (S.Py n vals))::(6,u)::LWt B)->Fr g g'->Up g.nx g g'->Q (.exit 2) t [] g'):wpL (wp C0 d rd fI) Q t [] g:=by
 obtain ⟨rows,r1,r2,r3,r4⟩:=hN.all;have r1:∀h',ah h' 3 b=some rows:=r1;have hl8:=hr.l2;have hvl:=hin.len;rw[aG] at hvl;simp only[fI];refine bj (m:=n.nodes.length) (by omega) (λk t df g'=>df=[]/\St t ((7,.int .i64 (S.OH ((List.range k).map (S.O3 n vals))))::(6,u)::(21,b)::LWt B)/\Fr g g'/\Up g.nx g g') ⟨rfl,by
   obtain ⟨h6,h21,h1,h4,-⟩:=ht;simp[St,LWt,h1,h4,h6,h7,h21,S.OH],Fr.refl _,Up.refl _ _⟩ h23 h22 (by decide)
  (by rintro j t df g v s (rfl | rfl | rfl) ⟨a1,⟨b1,b2,b3,b4,b5,-⟩,c1,c2⟩<;>exact ⟨a1,by simp[St,LWt,sx,b1,b2,b3,b4,b5],c1,c2⟩) ?_ ?_
 ·rintro k t df g1 hk ⟨rfl,⟨h7,h6,h21,h1,h4,-⟩,hF,hU⟩ h23 h22;obtain ⟨x,hx,-,-⟩:=ae hk;obtain ⟨row,q1,q2⟩:=r3 k x hx;obtain ⟨pa,ra,rfl,hpa,hra⟩:=bI.1 q2;obtain ⟨i,r,c,y,i1,i2,i3,i4,i5,i6,i7,i8,i9⟩:=yC hr hin hx;obtain ⟨cn,rfl⟩:=Int.eq_ofNat_of_zero_le i5;rw[Int.toNat_natCast] at i7;obtain ⟨rr,s1,s2,s3,s4⟩:=xB hra;obtain ⟨z,t1,t2,hz⟩:=s3 i r i3;have hlt:k<rows.length:=by omega
  have hry:=r4 (by omega);have hry2:=s4 (by omega);have hu1:∀g2:G,Fr g1 g2->SlR P 0 g2.h vals u:=λg2 hF2=>hu.far8 λi hi=>by have:=hP i hi;rw[hF2.2 i (Nat.lt_of_lt_of_le this hF.1),hF.2 i this]
  have hB1:B<g1.nx:=Nat.lt_of_lt_of_le hB hF.1;have gB1:g1.h.get B=.cells 2 [[.int .i64 n.grain,b]] 0 false false:=by rw[hF.2 B hB,gB]
  have rz:=λh=>(hz.tree (h':=h) (Nat.le_refl 0)).ints;have u1:k<(vals.map ci).length:=by rw[List.length_map];exact (List.getElem?_eq_some_iff.1 i4).1
  have u2:(vals.map ci)[k]?=some (ci (cn:Int)):=by rw[List.getElem?_map,i4];rfl
  have v1:cn<(r.map ci).length:=by rw[List.length_map];exact (List.getElem?_eq_some_iff.1 i7).1
  have v2:(r.map ci)[cn]?=some (ci y):=by rw[List.getElem?_map,i7];rfl
  have wb:=nh hr hin (j:=k+1) (by omega);have ws:=tT n vals k;rw[i8] at ws;have w1:IntKind.wrap .i64 (S.OH ((List.range k).map (S.O3 n vals))*y)=S.OH ((List.range (k+1)).map (S.O3 n vals)):=by rw[<-ws,ay (by omega) (by omega)]
  refine iO (P:=λt' df g'=>df=[]/\g'=(g1.new (.cells 3 [[.int .i64 0,.nils,.nils]] 0 false false)).put g1.nx (.cells 3 [[.int .i64 x.card,pa,ra]] 0 false false)/\St t' ((9,.hptr g1.nx 0 0 0)::(8,.int .i64 (k:Int))::(23,.int .i64 (k:Int))::(22,.int .i64 (n.nodes.length:Int))::(7,.int .i64 (S.OH ((List.range k).map (S.O3 n vals))))::(6,u)::(21,b)::LWt B)) ?_ ?_
  ·have fw:eg [.int .i64 0,.nils,.nils] [((0,3),.agg [.int .i64 x.card,pa,ra])]=some [.int .i64 x.card,pa,ra]:=rfl;simp only[sz,simprocAttr,h23,h21,r1,hlt,q1,hry];simp[St,LWt,sx,h1,h4,h6,h7,h21,h22,h23]
  clear h1 h4 h6 h7 h21 h22 h23;rintro t df g2 ⟨rfl,hg2,h9,h8,h23,h22,h7,h6,h21,h1,h4,-⟩;have hF2:Fr g1 g2:=by rw[hg2];exact ⟨by simp,λi hi=>by simp[H.get_put,show ¬i=g1.nx by omega]⟩
  have hU2:Up g.nx g1 g2:=by rw[hg2];exact (Up.new hF.1 _).trans (Up.put hF.1 _)
  have g9:g2.h.get g1.nx=.cells 3 [[.int .i64 x.card,pa,ra]] 0 false false:=by rw[hg2];simp[H.get_put]
  have gB2:g2.h.get B=.cells 2 [[.int .i64 n.grain,b]] 0 false false:=by rw[hF2.2 B hB1,gB1]
  have kr:=Mr (d:=d) (i:=k) (g:=aH g2 []) (P2:=P) (k2:=0) (v:=b) (w:=u) (x:=x) (vals:=vals) hd hN hr hx (by simpa using hu1 g2 hF2) hin;rw[i1] at kr;have ru:=(hu1 g2 hF2).ints;simp only[sz,simprocAttr,h7,h9,g9,h1,gB2,h8,h6,kr,s1,t1,t2,hry2,ru,u1,u2,ci,rz,v1,v2,w1];exact ⟨⟨by simp[St,LWt,sx,h1,h4,h6,h21],hF.trans hF2,hU.trans hU2⟩,h23,h22⟩
 ·rintro t df g' ⟨rfl,⟨h7,h6,h21,h1,h4,-⟩,hF,hU⟩;exact fin t g' ⟨h7,h6,h1,h4,trivial⟩ hF hU
theorem Fn {d:Nat}{g:G}{n:Net}{v:AV}{K:AV->G->Prop}{D:ADf->Prop}(hd:0<d)(hr:NR n)(hm:Agg n NoP 0 .nil v)
  (kk:∀g',g'.h.get (g.nx+1)=.cells 1 ((S.OU n (S.OL n)).map ci) 0 false false->g.nx+2<=g'.nx->Fr g g'->Up g.nx g g'->K (.hsl (g.nx+1) 0 0 (S.OL n) none) g') :
  (am C0 d N.Pd [v] g).sat K g D:=by
 obtain ⟨cs,rfl,hc⟩:=hm;obtain ⟨b,rfl,hN⟩:=cg.1 hc;have hl8:=hr.l2;obtain ⟨W1,W2,W3⟩:=hr.wl;have hcs:CsOk (S.OG n):=⟨hr.cs,by rw[aG];omega⟩;have hnc:S.nc (S.OG n)=S.OL n:=rfl;obtain ⟨B,hB⟩:∃B,B=g.nx:=⟨_,rfl⟩;have hrow:∀h,SlR NoP 0 h n.nodes b:=λh=>hN.tree (Nat.le_refl 0);have lb:∀g:G,cV .slice b g=.val (.int .i64 (n.nodes.length:Int)):=λg=>(hrow .nil).len g;rw[s7];refine Bm vM (by simp[jv]) ?_;simp only[sz,simprocAttr,jv];unfold mf;refine iO (P:=λt' df g'=>df=[]/\g'=g.new (.cells 2 [[.int .i64 n.grain,b]] 0 false false)/\∃rc,IT 0 (S.OG n) rc/\St t' [(1,.hptr B 0 0 0),(3,rc)]) ?_ ?_
 ·simp only[sz,simprocAttr,<-hB];refine a_ (A9 hd (hrow _) (by omega)) λrc hrc=>?_;simp only[sz,simprocAttr];exact ⟨rc,hrc,by simp[St,sx,BY]⟩
 rintro t df g1 ⟨rfl,hg1,rc,hrc,h1,h3,-⟩;have k1:=KR (d:=d) (g:=g1) hd (hrc.sl g1.h);rw[se hr.cs (by rw[aG];omega),<-W3] at k1;have n1:g1.nx=B+1:=by rw[hg1,hB];simp
 have gB:g1.h.get B=.cells 2 [[.int .i64 n.grain,b]] 0 false false:=by rw[hg1,hB];simp[H.get_put]
 have F1:Fr g g1:=by rw[hg1];exact Fr.new _ _
 have U1:Up B g g1:=by rw[hg1];exact Up.new (by omega) _
 clear hg1;refine iO (P:=λt' df g'=>df=[]/\g'.nx=B+3/\g'.h.get B=.cells 2 [[.int .i64 n.grain,b]] 0 false false/\g'.h.get (B+1)=.cells 1 ((List.replicate (S.OL n) 0).map ci) 0 false false/\g'.h.get (B+2)=.cells 1 [[.hsl (B+1) 0 0 0 none]] 0 false false/\Fr g g'/\Up B g g'/\St t' [(1,.hptr B 0 0 0),(3,rc),(4,.hptr (B+2) 0 0 0)]) ?_ ?_
 ·simp only[sz,simprocAttr,h3,k1];refine Nm (by omega) λg2 m2 n2 u2=>?_;rw[n1] at m2 n2 u2 ⊢;simp only[sz,simprocAttr,n2];refine ⟨?_,?_,?_,?_,by simp[St,sx,h1,h3]⟩
  ·rw[if_neg (by omega),if_neg (by omega),u2.1 B (by omega),gB]
  ·rw[if_neg (by omega),if_neg (by omega),m2]
  ·exact ⟨by have:=F1.1;simp[n2];omega,λi hi=>by
    have:=F1.2 i hi;simp[H.get_put,show ¬i=B+1+1 by omega,show ¬i=g2.nx by omega,u2.1 i (by omega),this]⟩
  ·exact (U1.trans (u2.mono (by omega))).trans ((Up.new (by omega) _).trans (Up.put (by omega) _))
 clear h1 h3 k1 n1 gB F1 U1;rintro t df g2 ⟨rfl,n2,gB,gA,gS,F2,U2,h1,h3,h4,-⟩;obtain ⟨z,kz,hz⟩:=FO (d:=d) (g:=g2) (w:=rc) (cs:=S.OG n) hd (hrc.sl g2.h);rw[dU,dU];simp only[sz,simprocAttr,h3,kz];refine DM (cs:=S.OG n) (w:=z) hcs hz (by simp[sx]) (by decide) (by decide)
  (λj g'=>g'.h.get B=.cells 2 [[.int .i64 n.grain,b]] 0 false false/\g'.h.get (B+1)=.cells 1 ((S.OU n j).map ci++(List.replicate (S.OL n - j) 0).map ci) 0 false false/\g'.h.get (B+2)=.cells 1 [[.hsl (B+1) 0 0 (S.OU n j).length none]] 0 false false/\(∀i,i<B->g'.h.get i=g.h.get i)/\Up B g g')
  (λ_=>False) ?_ (λ_ _ _ h=>h) ?_ ?_ ?_ (λ_ h=>h.elim)
 ·rintro j g3 g4 hU ⟨a1,a2,a3,a4,a5⟩;rw[n2] at hU;exact ⟨by rw[hU.1 _ (by omega),a1],by rw[hU.1 _ (by omega),a2],by rw[hU.1 _ (by omega),a3],λi hi=>by rw[hU.1 i (by omega),a4 i hi],a5.trans (hU.mono (by omega))⟩
 ·exact ⟨gB,by simpa [S.OU] using gA,by simpa [S.OU] using gS,λi hi=>F2.2 i (by omega),U2⟩
 ·rintro j u g3 hj ⟨a1,a2,a3,a4,a5⟩ hn3 hu;rw[n2] at hn3 hu;simp only[sz,simprocAttr,lf];refine ⟨Fr.refl _,λg4 n4 f4 u4=>?_⟩;rw[n2] at f4 u4;have hin:=lK (λc hc=>(hr.cs c hc).1) (j:Int);have b1:g4.h.get B=.cells 2 [[.int .i64 n.grain,b]] 0 false false:=by rw[f4 _ (by omega),a1]
  have b2:g4.h.get (B+1)=.cells 1 ((S.OU n j).map ci++(List.replicate (S.OL n - j) 0).map ci) 0 false false:=by rw[f4 _ (by omega),a2]
  have b3:g4.h.get (B+2)=.cells 1 [[.hsl (B+1) 0 0 (S.OU n j).length none]] 0 false false:=by rw[f4 _ (by omega),a3]
  have hu4:SlR (λi=>B+3+2<=i/\i<g3.nx) 0 g4.h (S.ON (S.OG n) (j:Int)) u:=hu.far8 λi hi=>f4 i (by omega);rw[hnc] at hj;simp only[sz,simprocAttr,li,h1,b1,lb];refine Fm (n:=n) (b:=b) (u:=u) (B:=B) hd hr hN hin hu4 (λi hi=>by omega) (by omega) b1 (by simp[St,LWt,sx,h1,h4]) (by simp[sx]) (by simp[sx]) (by simp[sx]) ?_;rintro t5 g5 ⟨h7,-,h1',h4',-⟩ F5 U5;have c3:g5.h.get (B+2)=.cells 1 [[.hsl (B+1) 0 0 (S.OU n j).length none]] 0 false false:=by rw[F5.2 _ (by omega),b3]
  have c2:g5.h.get (B+1)=.cells 1 ((S.OU n j).map ci++((0:Int)::List.replicate (S.OL n - (j+1)) 0).map ci) 0 false false:=by rw[F5.2 _ (by omega),b2,show S.OL n - j=(S.OL n - (j+1))+1 by omega,List.replicate_succ]
  simp only[sz,simprocAttr,lj,h4',c3,h7];have hl5:B+2<g5.nx:=Nat.lt_of_lt_of_le (by omega) F5.1;refine G6 (x:=S.wt n j) (g:=g5.new (.cells 1 [[.int .i64 (S.wt n j)]] 0 false false)) (l:=S.OU n j) (y:=0) (tl:=List.replicate (S.OL n - (j+1)) 0) ?_ ?_ (by rw[G0];omega) ?_
  ·rw[G.new_h,aq _ _ _ (by omega),c2]
  ·simp only[ah,G.new_h,aR,ci];rfl
  rw[<-KT];have c6:((g5.new (.cells 1 [[.int .i64 (S.wt n j)]] 0 false false)).put (B+1) (.cells 1 ((S.OU n (j+1)).map ci++(List.replicate (S.OL n - (j+1)) 0).map ci) 0 false false)).h.get (B+2)=.cells 1 [[.hsl (B+1) 0 0 (S.OU n j).length none]] 0 false false:=by rw[G.put_h,aq _ _ _ (by omega),G.new_h,aq _ _ _ (by omega),c3]
  have d1:Up B g5 ((g5.new (.cells 1 [[.int .i64 (S.wt n j)]] 0 false false)).put (B+1) (.cells 1 ((S.OU n (j+1)).map ci++(List.replicate (S.OL n - (j+1)) 0).map ci) 0 false false)):=(Up.new (by omega) _).trans (Up.put (by omega) _);have d2:∀i,B+3<=i->i<g5.nx->((g5.new (.cells 1 [[.int .i64 (S.wt n j)]] 0 false false)).put (B+1) (.cells 1 ((S.OU n (j+1)).map ci++(List.replicate (S.OL n - (j+1)) 0).map ci) 0 false false)).h.get i=g5.h.get i:=λi h1 h2=>by rw[G.put_h,aq _ _ _ (by omega),G.new_h,aq _ _ _ (by omega)]
  have d3:((g5.new (.cells 1 [[.int .i64 (S.wt n j)]] 0 false false)).put (B+1) (.cells 1 ((S.OU n (j+1)).map ci++(List.replicate (S.OL n - (j+1)) 0).map ci) 0 false false)).nx=g5.nx+1:=by simp
  have d4:((g5.new (.cells 1 [[.int .i64 (S.wt n j)]] 0 false false)).put (B+1) (.cells 1 ((S.OU n (j+1)).map ci++(List.replicate (S.OL n - (j+1)) 0).map ci) 0 false false)).h.get (B+1)=.cells 1 ((S.OU n (j+1)).map ci++(List.replicate (S.OL n - (j+1)) 0).map ci) 0 false false:=by rw[G.put_h,aR]
  have d5:((g5.new (.cells 1 [[.int .i64 (S.wt n j)]] 0 false false)).put (B+1) (.cells 1 ((S.OU n (j+1)).map ci++(List.replicate (S.OL n - (j+1)) 0).map ci) 0 false false)).h.get B=g5.h.get B:=by rw[G.put_h,aq _ _ _ (by omega),G.new_h,aq _ _ _ (by omega)]
  generalize (g5.new (.cells 1 [[.int .i64 (S.wt n j)]] 0 false false)).put (B+1) (.cells 1 ((S.OU n (j+1)).map ci++(List.replicate (S.OL n - (j+1)) 0).map ci) 0 false false)=g6 at c6 d1 d2 d3 d4 d5 ⊢;simp only[sz,simprocAttr,h4',c6];have hl4:g4.nx<=g5.nx:=F5.1;refine ⟨by simp[d3];omega,λi h1 h2=>?_,.inl ⟨rfl,?_,?_,λi hi=>?_,?_⟩⟩
  ·rw[n2] at h1;rw[G.put_h,aq _ _ _ (by omega),d2 i h1 (by omega),F5.2 i h2]
  ·rw[if_neg (by omega),d5,F5.2 B (by omega),b1]
  ·rw[if_neg (by omega),d4]
  ·rw[if_neg (by omega),d1.1 i hi,F5.2 i (by omega),f4 i (by omega),a4 i hi]
  ·exact ((a5.trans (u4.mono (by omega))).trans (U5.mono (by omega))).trans (d1.trans (Up.put (by omega) _))
 ·rintro g' ⟨a1,a2,a3,a4,a5⟩ hn hdf;rw[hnc,Nat.sub_self] at a2;rw[hnc,G0] at a3;simp only[sz,simprocAttr,lp,h4,a3];refine rN hdf ?_;simp only[sx,↓reduceIte];rw[hB];have e1:∀i,i<B+3->(g'.put g2.nx (.dfr false)).h.get i=g'.h.get i:=λi hi=>by rw[G.put_h,aq _ _ _ (by omega)]
  refine kk _ ?_ (by simp;omega) ⟨by simp;omega,λi hi=>?_⟩ (by rw[<-hB];exact a5.trans (Up.put (by omega) _))
  ·rw[<-hB,e1 _ (by omega),a2];simp
  ·rw[e1 i (by omega),a4 i (by omega)]
theorem IF {n:Net}{e:List Int}(h:S.O0 n e=true):e.length=n.nodes.length/\∀x∈e,-1<=x:=by simp only[S.O0,Bool.and_eq_true,decide_eq_true_eq,List.all_eq_true] at h;refine ⟨h.1,λx hx=>?_⟩;obtain ⟨i,hi,he⟩:=List.mem_iff_getElem.1 hx;have:=(h.2 i (List.mem_range.2 hi)).1;rw[List.getElem?_eq_getElem hi,he] at this;exact this
def S.pe (n:Net)(e:List Int)(w:Nat):Bool:=S.O8 (S.ON (S.OG n) (w:Int)) e
theorem GO {n:Net}(h:NR n){p:Nat->Bool}{j:Nat}(hj:j<=1024):0<=S.OQ n p j/\S.OQ n p j<=171992678400000000:=by have:=po h p j;omega
theorem mr {n:Net}{e:List Int}:S.OY n e=0↔S.O2 n=true/\S.O0 n e=true:=by rw[S.OY];cases S.O2 n<;>cases S.O0 n e<;>simp
structure GvJ (g0:G) (q:Nat) (s:Int) (h:H):Prop where
 fr:∀i,i<g0.nx->i≠q->h.get i=g0.h.get i
 hq:h.get q=.cells 1 [[.int .i64 s]] 0 false false
structure ND where
 c:Nat->Int
 P:Nat->List Int
 m:Nat->Nat
 R:Nat->Nat->List Int
 o:Nat->Nat
def LN (n:Nat)(D:ND):Ky->Prop:=λk=>k=(0,0)\/∃i q,k=(i+1,q)/\i<n/\q<2+D.o i
theorem LN.z {n:Nat}{D:ND}:LN n D (0,0):=.inl rfl
theorem LN.s {n:Nat}{D:ND}{i q:Nat}(h:i<n)(hq:q<2+D.o i):LN n D (i+1,q):=.inr ⟨i,q,rfl,h,hq⟩
theorem LN.p {n:Nat}{D:ND}{i:Nat}(h:i<n):LN n D (i+1,0):=LN.s h (by omega)
theorem LN.r {n:Nat}{D:ND}{i:Nat}(h:i<n):LN n D (i+1,1):=LN.s h (by omega)
def eU (D:ND)(V:Ky->AV)(i:Nat):List AV:=[.int .i64 (D.c i),V (i+1,0),V (i+1,1)]
def E_ (V:Ky->AV)(i r:Nat):List AV:=[V (i+1,2+r)]
structure BN (K n:Nat) (V:Ky->AV) (E:Ky->En) (D:ND):Prop where
 ns:E (0,0)=.sl 3 ((List.range n).map (eU D V))
 ps:∀i,i<n->E (i+1,0)=.sl 1 ((D.P i).map ci)/\(D.P i).length<=K
 rs:∀i,i<n->E (i+1,1)=.sl 1 ((List.range (D.m i)).map (E_ V i))/\D.m i<=K
 rr:∀i r,i<n->r<D.m i->(D.R i r).length<=K/\((r<D.o i/\E (i+1,2+r)=.sl 1 ((D.R i r).map ci))\/SlR NoP 0 .nil (D.R i r) (V (i+1,2+r)))
def ND.node (D:ND)(i:Nat):Node:=⟨D.c i,D.P i,(List.range (D.m i)).map (D.R i)⟩
theorem sg {g:G}{b:Nat}{v:AV}{l:List Int}{P:Nat->Prop}(h:Own g b v 1 (l.map ci))(hl:l.length<9223372036854775808)(hp:∀i,b<=i->P i):SlR P 0 g.h l v :=
 Own.sl (α:=Int) h hl (All2.of_map (λa=>aL.2 rfl) _) λi hi=>hp i (h.lt hi).1
theorem BN.rows {g:G}{b K n i:Nat}{V:Ky->AV}{E:Ky->En}{D:ND}{L:Ky->Prop}(hB:BN K n V E D)(hH:Hp g b L V E)(hL:∀k,LN n D k->L k)(hK:K<=1000000)(hi:i<n):SlR (λj=>b<=j) 0 g.h ((List.range (D.m i)).map (D.R i)) (V (i+1,1)):=by
 obtain ⟨h1,h2⟩:=hB.rs i hi;have ho:=hH.own (hL _ (LN.r hi)) h1;refine Own.sl (α:=List Int) ho (by simp;omega) (uV λr hr=>?_) λj hj=>(ho.lt hj).1;have hr:=List.mem_range.1 hr;obtain ⟨h4,h3⟩:=hB.rr i r hi hr;rcases h3 with ⟨h5,h3⟩ | h3
 ·exact da.2 ⟨_,rfl,sg (hH.own (hL _ (LN.s hi (by omega))) h3) (by omega) λ_ h=>h⟩
 ·exact da.2 ⟨_,rfl,(h3.tree (h':=g.h) (Nat.le_refl 0)).wd λ_ h=>h.elim⟩
theorem Hp.off {κ:Type} [DecidableEq κ]{g:G}{b:Nat}{L:κ->Prop}{V:κ->AV}{E:κ->En}{k:κ}{x:AV}(h:Hp g b L V E)(hk:¬L k):Hp g b L (ups V k x) E:=by have ne:∀j,L j->j≠k:=λj hj e=>hk (by rw[<-e];exact hj);exact ⟨λj hj=>by rw[ac V x (ne j hj)];exact h.ok j hj,λj l hj hl hne id=>by rw[ac V x (ne j hj),ac V x (ne l hl)];exact h.sep j l hj hl hne id,h.nx⟩
theorem BN.pars {g:G}{b K n i:Nat}{V:Ky->AV}{E:Ky->En}{D:ND}{L:Ky->Prop}(hB:BN K n V E D)(hH:Hp g b L V E)(hL:∀k,LN n D k->L k)(hK:K<=1000000)(hi:i<n):SlR (λj=>b<=j) 0 g.h (D.P i) (V (i+1,0)):=by obtain ⟨h1,h2⟩:=hB.ps i hi;exact sg (hH.own (hL _ (LN.p hi)) h1) (by omega) λ_ h=>h
theorem BN.nodes {g:G}{b K n:Nat}{V:Ky->AV}{E:Ky->En}{D:ND}{L:Ky->Prop}(hB:BN K n V E D)(hH:Hp g b L V E)(hL:∀k,LN n D k->L k)(hK:K<=1000000)(hn:n<=1000000):SlR (λj=>b<=j) 0 g.h ((List.range n).map D.node) (V (0,0)):=by have ho:=hH.own (hL _ LN.z) hB.ns;refine Own.sl (α:=Node) ho (by simp;omega) (uV λi hi=>?_) λj hj=>(ho.lt hj).1;have hi:=List.mem_range.1 hi;exact bI.2 ⟨_,_,rfl,hB.pars hH hL hK hi,hB.rows hH hL hK hi⟩
theorem mY {α:Type}(f:Nat->α){n i:Nat}(x:α)(hi:i<n):((List.range n).map f).set i x=(List.range n).map (ups f i x):=by
 refine List.ext_getElem (by simp) λj h1 h2=>?_;rw[List.getElem_set]
 by_cases e:i=j
 ·subst e;simp[an]
 ·rw[if_neg e];simp[ac _ _ (Ne.symm e)]
theorem fg {α:Type}(f:Nat->α){n i:Nat}(hi:i<n):((List.range n).map f)[i]?=some (f i):=by simp[hi]
theorem yW {D D':ND}{V V':Ky->AV}{n i:Nat}{row:List AV}(h0:row=eU D' V' i)(h:∀j,j<n->j≠i->eU D V j=eU D' V' j):(List.range n).map (ups (eU D V) i row)=(List.range n).map (eU D' V'):=by
 refine List.map_congr_left λj hj=>?_;have hj:=List.mem_range.1 hj
 by_cases e:j=i
 ·subst e;rw[an,h0]
 ·rw[ac _ _ e,h j hj e]
def KW (gr c:Int)(l:List Int):Prop:=(l.length:Int)=c/\(∀y∈l,0<=y/\y<=gr)/\l.sum=gr
def Oy (gr:Int)(C:Nat):VS:=λP k h v=>∃l:List Int,(l.length=C/\KW gr C l)/\One l P k h v
def S.rq (gr s x:Int):Int:=gr*x / s
theorem GE (gr s:Int):S.rq gr s 0=0:=by simp[S.rq]
theorem E9 {gr s:Int}(hs:0<=s)(hg:0<=gr):∀l:List Int,(∀x∈l,0<=x/\x<=s)->0<=(l.map (S.rq gr s)).sum/\(l.map (S.rq gr s)).sum*s<=gr*l.sum
 | [],_=>by simp
 | x::l,h=>by
  have ih:=E9 hs hg l λy hy=>h y (List.mem_cons_of_mem _ hy);have hx:=h x (List.mem_cons_self ..);have h1:0<=S.rq gr s x:=Int.ediv_nonneg (Int.mul_nonneg hg hx.1) hs;have h2:S.rq gr s x*s<=gr*x:=by
   by_cases e:s=0
   ·have:x=0:=by omega
    subst this;simp[S.rq,e]
   ·exact Int.ediv_mul_le _ e
  simp only[List.map_cons,List.sum_cons];refine ⟨by omega,?_⟩;rw[Int.add_mul,Int.mul_add];omega
theorem xx:∀(l:List Int),(∀x∈l,0<=x)->0<=l.sum/\∀x∈l,x<=l.sum
 | [],_=>by simp
 | a::l,h=>by
  have ih:=xx l λy hy=>h y (List.mem_cons_of_mem _ hy);have ha:=h a (List.mem_cons_self ..);simp only[List.sum_cons];refine ⟨by omega,λx hx=>?_⟩;rcases List.mem_cons.1 hx with rfl | hx
  ·omega
  ·have:=ih.2 x hx;omega
theorem GP:∀(l:List Int) (i:Nat) (x y:Int),l[i]?=some x->(l.set i y).sum=l.sum - x+y
 | [],i,x,y,h=>by simp at h
 | a::l,0,x,y,h=>by simp at h;subst h;simp only[List.set_cons_zero,List.sum_cons];omega
 | a::l,i+1,x,y,h=>by rw[List.set_cons_succ,List.sum_cons,List.sum_cons,GP l i x y (by simpa using h)];omega
theorem L3 {gr s:Int}{X:List Int}{la:Nat}(hg:0<=gr)(hX:∀x∈X,0<=x/\x<=s)(hs:s=X.sum)(hla:la<X.length){x:Int}(hx:(X.map (S.rq gr s))[la]?=some x):KW gr X.length ((X.map (S.rq gr s)).set la (x+(gr - (X.map (S.rq gr s)).sum)))/\0<=x+(gr - (X.map (S.rq gr s)).sum)/\x+(gr - (X.map (S.rq gr s)).sum)<=gr:=by
 have hs0:0<=s:=by rw[hs];exact (xx X λx hx=>(hX x hx).1).1
 have hq:=E9 hs0 hg X hX;have hle:(X.map (S.rq gr s)).sum<=gr:=by
  by_cases e:s=0
  ·have h0:∀x∈X,x=0:=λx hx=>by have:=hX x hx;omega
   have:X.map (S.rq gr s)=List.replicate X.length 0:=by rw[List.eq_replicate_iff];refine ⟨by simp,λy hy=>?_⟩;obtain ⟨z,hz,rfl⟩:=List.mem_map.1 hy;rw[h0 z hz,GE]
   rw[this];have:∀n:Nat,(List.replicate n (0:Int)).sum=0:=λn=>by induction n with
    | zero=>rfl
    | succ n ih=>rw[List.replicate_succ,List.sum_cons,ih];rfl
   rw[this];exact hg
  ·have h1:=hq.2;rw[<-hs] at h1;exact Int.le_of_mul_le_mul_right h1 (by omega)
 have hn:∀y∈X.map (S.rq gr s),0<=y:=λy hy=>by obtain ⟨z,hz,rfl⟩:=List.mem_map.1 hy;exact Int.ediv_nonneg (Int.mul_nonneg hg (hX z hz).1) hs0
 have hx0:=hn x (List.mem_of_getElem? hx);have hsum:((X.map (S.rq gr s)).set la (x+(gr - (X.map (S.rq gr s)).sum))).sum=gr:=by rw[GP _ _ _ _ hx];omega
 have hn2:∀y∈(X.map (S.rq gr s)).set la (x+(gr - (X.map (S.rq gr s)).sum)),0<=y:=λy hy=>by
  rcases List.mem_or_eq_of_mem_set hy with h | rfl
  ·exact hn y h
  ·omega
 have hb:=xx _ hn2;rw[hsum] at hb;refine ⟨⟨by simp,λy hy=>⟨hn2 y hy,hb.2 y hy⟩,hsum⟩,by omega,hb.2 _ ?_⟩;exact List.mem_set (by simpa using hla) _
structure Rw1 (gr:Int) (nv u:AV) (C F j:Nat) (t:T) (g:G):Prop where
 st:St t [(0,.int .i64 gr),(1,.int .i64 (C:Int)),(2,nv),(3,.int .i64 (F:Int)),(9,u)]
 hX:∃(X:List Int) (s:Int),tat t 10=.int .i64 s/\X.length=C/\Own g 0 u 1 (X.map ci)/\(∀x∈X,0<=x/\x<=7)/\s=(X.take j).sum/\0<=s/\s<=7*j
theorem Nz {d C F kk:Nat}{gr:Int}{nv u:AV}{l:List UInt8}{Q:QT}{t:T}{g:G}(hC:C<=3)(hF:F<=1000)(hl:SlR NoP kk .nil l nv)(h0:Rw1 gr nv u C F 0 t g)(h11:tat t 11=.int .i64 0)
  (fin:∀t g,Rw1 gr nv u C F C t g->Q (.exit 0) t [] g):wpL (wp C0 d none k_) Q t [] g:=by
 obtain ⟨nr,r1,r2,r3,r4⟩:=hl.all;have r1:∀h',ah h' 1 nv=some nr:=r1;have hll:=hl.1;have ll:=hl.len;simp only[k_,qM];refine bp C (by omega) (λj t df g=>df=[]/\Rw1 gr nv u C F j t g) ⟨rfl,h0⟩ h11 (by decide) ?_ ?_ ?_ ?_
 ·rintro j t df g v s (rfl | rfl | rfl) ⟨a1,⟨b1,b2,b3,b4,b5,-⟩,X,s',c1,c2⟩<;>exact ⟨a1,by simp[St,sx,b1,b2,b3,b4,b5],X,s',by simp[sx,c1],c2⟩
 ·rintro j t df g hj ⟨rfl,⟨h0,h1,h2,h3,h9,-⟩,X,s,h10,hX⟩ h11;simp only[sz,simprocAttr,h11,h1];exact ⟨by simp[St,sx,h0,h1,h2,h3,h9],X,s,by simp[sx,h10],hX⟩
 ·rintro j t df g hj ⟨rfl,⟨h0,h1,h2,h3,h9,-⟩,X,s,h10,hXl,hX,hXb,hXs,hs0,hs1⟩ h11;refine jN (P:=λt' df g'=>df=[]/\∃(X':List Int) (x':Int),St t' [(0,.int .i64 gr),(1,.int .i64 (C:Int)),(2,nv),(3,.int .i64 (F:Int)),(9,u),(10,.int .i64 s),(11,.int .i64 (j:Int))]/\X'.length=C/\Own g' 0 u 1 (X'.map ci)/\(∀x∈X',0<=x/\x<=7)/\X'[j]?=some x'/\∀i,i≠j->X'[i]?=X[i]?) ?_ ?_
  ·have hXj:X[j]?=some X[j]:=List.getElem?_eq_getElem (by omega);simp only[sz,simprocAttr,h2,ll];refine aZ (λhb=>?_) (λhb=>?_)
   ·have hb:0<l.length:=by simpa using hb
    have w1:IntKind.wrap .i64 ((F:Int)+(j:Int))=((F+j:Nat):Int):=by rw[ay (by omega) (by omega)];simp
    have q1:=xA (x:=F+j) (y:=l.length) hb;have hmod:=Nat.mod_lt (F+j) hb;generalize (F+j) % l.length=a at q1 hmod;obtain ⟨y,hy,-,-⟩:=ae (l:=l) (j:=a) hmod;obtain ⟨row,z1,z2⟩:=r3 a y hy;rw[du.1 z2] at z1;have hlt:a<nr.length:=by omega
    have q2:=gk .u8 (a:=(y.toNat:Int)) (b:=8) (by omega) (by omega);have hm0:0<=(y.toNat:Int) % 8:=Int.emod_nonneg _ (by decide);have hm1:(y.toNat:Int) % 8<8:=Int.emod_lt_of_pos _ (by decide);have w2:IntKind.wrap .i64 ((y.toNat:Int) % 8)=(y.toNat:Int) % 8:=ay (by omega) (by omega);generalize (y.toNat:Int) % 8=z at q2 hm0 hm1 w2;have u1:j<(X.map ci).length:=by simp;omega
    have u2:(X.map ci)[j]?=some (ci X[j]):=by rw[List.getElem?_map,hXj];rfl
    have rX:=hX.rows;simp only[sz,simprocAttr,h2,h3,h9,h11,ll,w1,q1,r1,hlt,z1,q2,w2,rX,u1];refine cN (v:=u) (sz:=1) (n:=1) (i:=j) (off:=0) (x:=.int .i64 z) (row':=ci z) hX u2 rfl rfl rfl λg4 hu4 n4 f4=>?_;rw[<-List.map_set] at hu4;simp only[sx,sy];refine ⟨X.set j z,z,by simp[St,sx,h0,h1,h2,h3,h9,h10,h11],by simp[hXl],hu4,λx hx=>?_,by rw[List.getElem?_set_self (by omega)],λi hi=>by rw[List.getElem?_set_ne (Ne.symm hi)]⟩;rcases List.mem_or_eq_of_mem_set hx with h | rfl
    ·exact hXb x h
    ·omega
   ·simp only[sx,sy];exact ⟨X,X[j],by simp[St,sx,h0,h1,h2,h3,h9,h10,h11],hXl,hX,hXb,hXj,λ_ _=>rfl⟩
  clear h0 h1 h2 h3 h9 h10 h11 hX;rintro t df g ⟨rfl,X',x',⟨h0,h1,h2,h3,h9,h10,h11,-⟩,hXl',hX',hXb',hxj,hXo⟩;have u1:j<(X'.map ci).length:=by simp;omega
  have u2:(X'.map ci)[j]?=some (ci x'):=by rw[List.getElem?_map,hxj];rfl
  have rX:=hX'.rows;have hx':=hXb' x' (List.mem_of_getElem? hxj);have w1:IntKind.wrap .i64 (s+x')=s+x':=ay (by omega) (by omega);simp only[sz,simprocAttr,qL,h10,h9,h11,rX,u1,u2,ci,w1];have ht:X'.take j=X.take j:=List.ext_getElem? λi=>by
   by_cases e:i<j
   ·rw[List.getElem?_take_of_lt e,List.getElem?_take_of_lt e,hXo i (by omega)]
   ·rw[List.getElem?_eq_none (by simp;omega),List.getElem?_eq_none (by simp;omega)]
  refine ⟨by simp[St,sx,h0,h1,h2,h3,h9],X',s+x',by simp[sx],hXl',hX',hXb',?_,by omega,by omega⟩;rw[List.take_add_one,hxj,ht,List.sum_append,<-hXs];simp
 ·rintro t df g ⟨rfl,h⟩;exact fin t g h
structure Rw2 (gr s:Int) (u:AV) (C:Nat) (X:List Int) (j:Nat) (t:T) (g:G):Prop where
 st:St t [(0,.int .i64 gr),(1,.int .i64 (C:Int)),(9,u),(10,.int .i64 s)]
 hX:∃(la:Nat),tat t 12=.int .i64 (gr - ((X.take j).map (S.rq gr s)).sum)/\tat t 13=.int .i64 (la:Int)/\la<C/\Own g 0 u 1 (((X.take j).map (S.rq gr s)++X.drop j).map ci)
theorem L4 {gr s:Int}{X:List Int}{j:Nat}(h:j<X.length):((X.take j).map (S.rq gr s)++X.drop j).set j (S.rq gr s X[j])=(X.take (j+1)).map (S.rq gr s)++X.drop (j+1):=by
 have hl:((X.take j).map (S.rq gr s)).length=j:=by simp;omega
 rw[List.set_append_right _ _ (by omega),hl,Nat.sub_self,List.drop_eq_getElem_cons h,List.set_cons_zero,List.take_succ_eq_append_getElem h,List.map_append,List.append_assoc]
 rfl
theorem NA {d C:Nat}{gr s:Int}{u:AV}{X:List Int}{Q:QT}{t:T}{g:G}(hC:C<=3)(hg:0<=gr/\gr<=60)(hXl:X.length=C)(hXb:∀x∈X,0<=x/\x<=7/\x<=s)(h0:Rw2 gr s u C X 0 t g)(h14:tat t 14=.int .i64 0)
  (fin:∀t g,Rw2 gr s u C X C t g->Q (.exit 2) t [] g):wpL (wp C0 d none ld) Q t [] g:=by
 simp only[ld,qO];refine bp C (by omega) (λj t df g=>df=[]/\Rw2 gr s u C X j t g) ⟨rfl,h0⟩ h14 (by decide) ?_ ?_ ?_ ?_
 ·rintro j t df g v s (rfl | rfl | rfl) ⟨a1,⟨b1,b2,b3,b4,-⟩,la,c1,c2,c3⟩<;>exact ⟨a1,by simp[St,sx,b1,b2,b3,b4],la,by simp[sx,c1],by simp[sx,c2],c3⟩
 ·rintro j t df g hj ⟨rfl,⟨h0,h1,h9,h10,-⟩,la,h12,h13,hX⟩ h14;simp only[sz,simprocAttr,h14,h1];exact ⟨by simp[St,sx,h0,h1,h9,h10],la,by simp[sx,h12],by simp[sx,h13],hX⟩
 ·rintro j t df g hj ⟨rfl,⟨h0,h1,h9,h10,-⟩,la,h12,h13,hla,hX⟩ h14;have hjl:j<X.length:=by omega
  obtain ⟨b0,b1,b2⟩:=hXb X[j] (List.getElem_mem hjl);have hYl:((X.take j).map (S.rq gr s)++X.drop j).length=C:=by simp;omega
  have hYj:((X.take j).map (S.rq gr s)++X.drop j)[j]?=some X[j]:=by rw[List.getElem?_append_right (by simp;omega)];simp[show min j X.length=j by omega,hjl]
  have u1:j<(((X.take j).map (S.rq gr s)++X.drop j).map ci).length:=by rw[List.length_map,hYl];exact hj
  have u2:(((X.take j).map (S.rq gr s)++X.drop j).map ci)[j]?=some (ci X[j]):=by rw[List.getElem?_map,hYj];rfl
  have rX:=hX.rows;have hgx:0<=gr*X[j]:=Int.mul_nonneg hg.1 b0;have hgx2:gr*X[j]<=60*7:=Int.mul_le_mul hg.2 b1 b0 (by decide);have hset:=L4 (gr:=gr) (s:=s) hjl;have hsq:(X.take (j+1)).map (S.rq gr s)=(X.take j).map (S.rq gr s)++[S.rq gr s X[j]]:=by rw[List.take_succ_eq_append_getElem hjl,List.map_append];rfl
  have hsb:=E9 (gr:=gr) (s:=s) (by omega) hg.1 (X.take j) λy hy=>by have:=hXb y (List.mem_of_mem_take hy);omega
  have hqb:∀x∈X,0<=S.rq gr s x/\S.rq gr s x<=420:=λx hx=>by obtain ⟨c0,c1,c2⟩:=hXb x hx;have h1:0<=gr*x:=Int.mul_nonneg hg.1 c0;have h2:gr*x<=60*7:=Int.mul_le_mul hg.2 c1 c0 (by decide);refine ⟨Int.ediv_nonneg h1 (by omega),?_⟩;have:=Int.ediv_le_self (b:=s) h1;unfold S.rq;omega
  have hqs:∀l:List Int,(∀x∈l,x∈X)->(l.map (S.rq gr s)).sum<=420*l.length:=λl=>by
   induction l with
   | nil=>intro _;simp
   | cons a l ih =>
    intro h;have h1:=hqb a (h a (List.mem_cons_self ..));have h2:=ih λy hy=>h y (List.mem_cons_of_mem _ hy);simp only[List.map_cons,List.sum_cons,List.length_cons]
    push_cast
    omega
  have hql:=hqs (X.take j) λx hx=>List.mem_of_mem_take hx;have hql2:(X.take j).length<=3:=by simp;omega
  have hqj:=hqb X[j] (List.getElem_mem hjl);refine jN (P:=λt' df g'=>df=[]/\∃(la':Nat),St t' [(0,.int .i64 gr),(1,.int .i64 (C:Int)),(9,u),(10,.int .i64 s),(12,.int .i64 (gr - ((X.take j).map (S.rq gr s)).sum)),(13,.int .i64 (la':Int)),(14,.int .i64 (j:Int))]/\la'<C/\Own g' 0 u 1 (((X.take (j+1)).map (S.rq gr s)++X.drop (j+1)).map ci)) ?_ ?_
  ·simp only[sz,simprocAttr,h9,h14,rX,u1,u2,ci];refine aZ (λhb=>?_) (λhb=>?_)
   ·have hb:0<X[j]:=by simpa using hb
    have w1:IntKind.wrap .i64 (gr*X[j])=gr*X[j]:=ay (by omega) (by omega);have q1:cq .quo (.int .i64 (gr*X[j])) (.int .i64 s)=.val (.int .i64 (S.rq gr s X[j])):=t8 (x:=gr*X[j]) (y:=s) hgx (by omega) (by omega);simp only[sz,simprocAttr,h0,h9,h10,h14,rX,u1,u2,ci,w1,q1];refine cN (v:=u) (sz:=1) (n:=1) (i:=j) (off:=0) (x:=.int .i64 (S.rq gr s X[j])) (row':=ci (S.rq gr s X[j])) hX u2 rfl rfl rfl λg4 hu4 n4 f4=>?_;rw[<-List.map_set,hset] at hu4;simp only[sz,simprocAttr,h14];exact ⟨j,by simp[St,sx,h0,h1,h9,h10,h12,h14],by omega,hu4⟩
   ·have hb:X[j]=0:=by
     have:¬0<X[j]:=by simpa using hb
     omega
    simp only[sx,sy];refine ⟨la,by simp[St,sx,h0,h1,h9,h10,h12,h13,h14],hla,?_⟩;rw[<-hset,hb,GE,<-hb];have:((X.take j).map (S.rq gr s)++X.drop j).set j X[j]=(X.take j).map (S.rq gr s)++X.drop j:=by
     refine List.ext_getElem? λi=>?_
     by_cases e:j=i
     ·subst e;rw[List.getElem?_set_self (by omega),hYj]
     ·rw[List.getElem?_set_ne e]
    rw[this];exact hX
  clear h0 h1 h9 h10 h12 h13 h14 hX rX hla u1 u2;rintro t df g ⟨rfl,la',⟨h0,h1,h9,h10,h12,h13,h14,-⟩,hla,hX'⟩;have hYl':((X.take (j+1)).map (S.rq gr s)++X.drop (j+1)).length=C:=by simp;omega
  have hYj':((X.take (j+1)).map (S.rq gr s)++X.drop (j+1))[j]?=some (S.rq gr s X[j]):=by rw[List.getElem?_append_left (by simp;omega),hsq,List.getElem?_append_right (by simp;omega)];simp[show min j X.length=j by omega]
  have u1:j<(((X.take (j+1)).map (S.rq gr s)++X.drop (j+1)).map ci).length:=by rw[List.length_map,hYl'];exact hj
  have u2:(((X.take (j+1)).map (S.rq gr s)++X.drop (j+1)).map ci)[j]?=some (ci (S.rq gr s X[j])):=by rw[List.getElem?_map,hYj'];rfl
  have rX:=hX'.rows;have w1:IntKind.wrap .i64 (gr - ((X.take j).map (S.rq gr s)).sum - S.rq gr s X[j])=gr - ((X.take (j+1)).map (S.rq gr s)).sum:=by rw[hsq,List.sum_append,ay (by omega) (by omega)];simp;omega
  simp only[sz,simprocAttr,qN,h12,h9,h14,rX,u1,u2,ci,w1];exact ⟨by simp[St,sx,h0,h1,h9,h10],la',by simp[sx],by simp[sx,h13],hla,hX'⟩
 ·rintro t df g ⟨rfl,h⟩;exact fin t g h
theorem NC {d C F kk:Nat}{g:G}{nv:AV}{gr:Int}{l:List UInt8}(hd:0<d)(hC:1<=C/\C<=3)(hF:F<=1000)(hg:0<=gr/\gr<=60)(hl:SlR NoP kk .nil l nv) :
  ∃r,am C0 d N.OM [.int .i64 gr,.int .i64 (C:Int),nv,.int .i64 (F:Int)] g=.val r/\Oy gr C NoP 0 .nil r:=by
 rw[xZ];refine aX Bs (xs:=[.int .i64 gr,.int .i64 (C:Int),nv,.int .i64 (F:Int)]) (by simp only[aE,iP d (hl.tree (h':=g.h) (Nat.le_refl _)),bD 0]) (by simp[qK]) (jV λo=>aS _) (by decide) hd ?_;simp only[sz,simprocAttr,qK];refine rR (b:=0) (n:=C) (by unfold aP;omega) (by unfold aP;omega) (Nat.zero_le _) λu g1 hu n1 f1 vu=>?_;simp only[sz,simprocAttr];refine Nz (gr:=gr) (nv:=nv) (u:=u) (C:=C) (F:=F) hC.2 hF hl ⟨by simp[St,sx],List.replicate C 0,0,by simp[sx],by simp,by simpa [ci] using hu,λx hx=>by rw[(List.mem_replicate.1 hx).2];decide,by simp,by omega,by omega⟩ (by simp[sx]) ?_;rintro t g2 ⟨⟨h0,h1,h2,h3,h9,-⟩,X,s,h10,hXl,hX,hXb,hXs,hs0,hs1⟩;rw[List.take_of_length_le (by omega)] at hXs;have hms:=xx X λx hx=>(hXb x hx).1;simp only[sz,simprocAttr,qQ,h0];refine NA (gr:=gr) (s:=s) (u:=u) (C:=C) (X:=X) hC.2 hg hXl (λx hx=>⟨(hXb x hx).1,(hXb x hx).2,by rw[hXs];exact hms.2 x hx⟩) ⟨by simp[St,sx,h0,h1,h9,h10],0,by simp[sx],by simp[sx],by omega,by simpa using hX⟩ (by simp[sx]) ?_;clear h0 h1 h2 h3 h9 h10 hX;rintro t g3 ⟨⟨h0,h1,h9,h10,-⟩,la,h12,h13,hla,hX⟩;rw[List.take_of_length_le (by omega)] at h12 hX;rw[List.drop_eq_nil_of_le (by omega),List.append_nil] at hX;obtain ⟨x,hx⟩:∃x,(X.map (S.rq gr s))[la]?=some x:=⟨_,List.getElem?_eq_getElem (by simp;omega)⟩;obtain ⟨f1,f2,f3⟩:=L3 (gr:=gr) (s:=s) (X:=X) (la:=la) hg.1 (λx hx=>⟨(hXb x hx).1,by rw[hXs];exact hms.2 x hx⟩) hXs (by omega) hx;have u1:la<((X.map (S.rq gr s)).map ci).length:=by simp;omega
 have u2:((X.map (S.rq gr s)).map ci)[la]?=some (ci x):=by rw[List.getElem?_map,hx];rfl
 have rX:=hX.rows;have w1:IntKind.wrap .i64 (x+(gr - (X.map (S.rq gr s)).sum))=x+(gr - (X.map (S.rq gr s)).sum):=ay (by omega) (by omega);simp only[sz,simprocAttr,qP,h9,h13,h12,rX,u1,u2,ci,w1];refine cN (v:=u) (sz:=1) (n:=1) (i:=la) (off:=0) (x:=.int .i64 (x+(gr - (X.map (S.rq gr s)).sum))) (row':=ci (x+(gr - (X.map (S.rq gr s)).sum))) hX u2 rfl rfl rfl λg4 hu4 n4 f4=>?_;rw[<-List.map_set] at hu4;simp only[sz,simprocAttr,h9];exact ⟨λ_=>True,_,⟨by simp[hXl],by rw[<-hXl];exact f1⟩,hu4.ints (by simp;omega)⟩
theorem y7 (os:List UInt8):∀k,(S.OX os k).Perm ((List.range k).map λi:Nat=>(i:Int))
 | 0=>.refl _
 | k+1=>by rw[List.range_succ,List.map_append,S.OX];refine List.perm_middle.trans ?_;rw[List.take_append_drop];exact ((y7 os k).cons _).trans (List.perm_append_comm (l₁:=[(k:Int)]))
structure Num (n:Nat) (pl:List Int) (num:Nat->Nat):Prop where
 len:pl.length=n
 at_:∀k,k<n->pl[k]?=some (num k:Int)
 lt:∀k,k<n->num k<n
 inj:∀i j,i<n->j<n->num i=num j->i=j
 sur:∀u,u<n->∃k,k<n/\num k=u
theorem Nr (os:List UInt8)(n:Nat):∃num,Num n (S.OX os n) num:=by
 have hp:=y7 os n;have hl:=ox os n;have hmem:∀x∈S.OX os n,∃i:Nat,i<n/\x=(i:Int):=λx hx=>by have:=hp.mem_iff.1 hx;obtain ⟨i,hi,rfl⟩:=List.mem_map.1 this;exact ⟨i,List.mem_range.1 hi,rfl⟩
 have hnd:(S.OX os n).Nodup:=by rw[hp.nodup_iff];refine List.Pairwise.map _ ?_ (List.nodup_range (n:=n));intro a b h e;exact h (by omega)
 have hat:∀k,k<n->(S.OX os n)[k]?=some (((S.OX os n)[k]?.getD 0).toNat:Int)/\((S.OX os n)[k]?.getD 0).toNat<n:=λk hk=>by
  have hk':k<(S.OX os n).length:=by omega
  have e:=List.getElem?_eq_getElem hk';obtain ⟨i,hi,h⟩:=hmem _ (List.getElem_mem hk');rw[e,Option.getD_some,h];simp[hi]
 refine ⟨λk=>((S.OX os n)[k]?.getD 0).toNat,hl,λk hk=>(hat k hk).1,λk hk=>(hat k hk).2,λi j hi hj h=>?_,λu hu=>?_⟩
 ·have h1:=(hat i hi).1;have h2:=(hat j hj).1;refine (List.getElem?_inj (by omega) hnd).1 ?_;rw[h1,h2];exact congrArg (λx:Nat=>some (x:Int)) h
 ·have:(u:Int)∈S.OX os n:=hp.mem_iff.2 (List.mem_map.2 ⟨u,List.mem_range.2 hu,rfl⟩);obtain ⟨k,hk,he⟩:=List.mem_iff_getElem.1 this;refine ⟨k,by omega,?_⟩;rw[List.getElem?_eq_getElem hk,he];rfl
theorem L9 (m n:Nat):∃z:Int,cq .shl (.int .i64 (m:Int)) (.int .u64 (n:Int))=.val (.int .i64 z):=⟨_,rfl⟩
def LNX (X:Ky->Prop)(n:Nat)(D:ND):Ky->Prop:=λk=>LN n D k\/X k
def X1:Ky->Prop:=λk=>k=(0,1)
def X2:Ky->Prop:=λk=>k=(0,1)\/k=(0,2)
structure DN (X:Ky->Prop) (r0:List AV) (n q K:Nat) (gr:Int) (V:Ky->AV) (E:Ky->En) (D:ND) (g:G):Prop where
 hp:Hp g 2 (LNX X n D) V E
 bn:BN K n V E D
 vb:V (0,1)=.hptr q 0 0 0
 bx:E (0,1)=.bx [.int .i64 gr,V (0,0)]
 h0:g.h.get 0=.cells 3 [r0] 0 false false
 h1:g.h.get 1=.cells 2 [[.int .i64 0,.nils]] 0 false false
theorem DN.q {X:Ky->Prop}{r0:List AV}{n q K:Nat}{gr:Int}{V:Ky->AV}{E:Ky->En}{D:ND}{g:G}(h:DN X r0 n q K gr V E D g)(hX:X (0,1)):g.h.get q=.cells 2 [[.int .i64 gr,V (0,0)]] 0 false false/\2<=q/\q<g.nx:=by obtain ⟨id,h1,h2,h3,h4⟩:=h.hp.box (k:=(0,1)) (.inr hX) h.bx;rw[h.vb] at h3;injection h3 with h3;subst h3;exact ⟨h4,h1,h2⟩
theorem DN.ns {X:Ky->Prop}{r0:List AV}{n q K:Nat}{gr:Int}{V:Ky->AV}{E:Ky->En}{D:ND}{g:G}(h:DN X r0 n q K gr V E D g):Own g 2 (V (0,0)) 3 ((List.range n).map (eU D V)):=h.hp.own (.inl LN.z) h.bn.ns
theorem DN.same {X:Ky->Prop}{r0:List AV}{n q K:Nat}{gr:Int}{V:Ky->AV}{E:Ky->En}{D:ND}{g g':G}(h:DN X r0 n q K gr V E D g)(hf:Fr g g'):DN X r0 n q K gr V E D g':=by have:=h.hp.nx;exact ⟨h.hp.step hf.1 λi _ hi=>hf.2 i hi,h.bn,h.vb,h.bx,by rw[hf.2 0 (by omega),h.h0],by rw[hf.2 1 (by omega),h.h1]⟩
theorem eo {g:G}{b:Nat}{v:AV}{sz:Nat}{rows:List (List AV)}(h:Own g b v sz rows)(hr:0<rows.length):jS v=true:=by
 rcases h with ⟨rfl,rfl⟩ | ⟨id,ep,lo,-,-,rfl,-⟩
 ·simp at hr
 ·rfl
theorem DN.card {X:Ky->Prop}{r0:List AV}{n q K i:Nat}{gr c:Int}{V:Ky->AV}{E:Ky->En}{D:ND}{g:G}{KK:AV->G->Prop}{DD:ADf->Prop}(h:DN X r0 n q K gr V E D g)(hi:i<n)(hX:∀k,X k->k≠(0,0))
  (kk:∀g' E',DN X r0 n q K gr V E' { D with c:=ups D.c i c } g'->g'.nx=g.nx->KK .undef g'):(lJ 1 (iH 3 (V (0,0)) i 0) (.int .i64 c) g).sat KK g DD:=by
 refine h.hp.put (k:=(0,0)) (row:=eU D V i) (row':=[.int .i64 c,V (i+1,0),V (i+1,1)]) (.inl LN.z) h.bn.ns (fg _ hi) rfl rfl rfl λg' hH hn hf1 hf2=>?_;refine kk g' _ ⟨hH.sub λk hk=>hk,⟨?_,λj hj=>?_,λj hj=>?_,λj r hj hr=>?_⟩,h.vb,?_,by rw[hf1 0 (by omega),h.h0],by rw[hf1 1 (by omega),h.h1]⟩ hn
 ·rw[an,mY _ _ hi];congr 1;refine yW (by simp[eU,an]) λj hj hne=>by simp[eU,ac _ _ hne]
 ·rw[ac _ _ (by simp)];exact h.bn.ps j hj
 ·rw[ac _ _ (by simp)];exact h.bn.rs j hj
 ·rw[ac _ _ (by simp)];exact h.bn.rr j r hj hr
 ·rw[ac _ _ (by simp)];exact h.bx
end
end Hx
end
