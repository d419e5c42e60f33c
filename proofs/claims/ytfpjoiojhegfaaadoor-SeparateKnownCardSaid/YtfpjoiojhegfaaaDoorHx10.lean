/- A part of the proof: an interpreter over abstract values, shown right against the model, and what the functions of the chapter compute on it. -/
import Derived.Test.YtfpjoiojhegfaaaDoorHx9
set_option linter.unusedVariables false
set_option linter.unusedSimpArgs false
set_option linter.unnecessarySimpa false
section
namespace Hx
open Go
noncomputable section
def fj (ps:List Int)(i:Nat):Int:=if i=0 then -1 else ps[i - 1]?.getD 0
theorem nE {ps:List Int}{i:Nat}{p:Int}(h:ps[i]?=some p):fj ps (i+1)=p:=by
 unfold fj;rw[if_neg (by omega),Nat.add_sub_cancel,h];rfl
structure PlI (ps:List Int) (k:Int) (v i:Nat):Prop where
 rng:∀(j:Nat) (p:Int),j<i->ps[j]?=some p->0<=p/\p<k/\p≠(v:Int)
 inc:∀(j:Nat) (p q:Int),j+1<i->ps[j]?=some p->ps[j+1]?=some q->p<q
theorem AC {ps:List Int}{k:Int}{v i:Nat}{p:Int}(h:PlI ps k v i)(hp:ps[i]?=some p)(h1:fj ps i<p)(h2:p<k)(h3:p≠(v:Int)):PlI ps k v (i+1):=by
 refine ⟨fun j q hj hq=>?_,fun j a c hj ha hc=>?_⟩
 ·by_cases e:j=i
  ·subst e
   rw[hp] at hq
   injection hq with hq
   subst hq
   refine ⟨?_,h2,h3⟩
   by_cases e0:j=0
   ·subst e0;unfold fj at h1;simp at h1;omega
   ·have hj1:j - 1<ps.length:=by have:=(List.getElem?_eq_some_iff.1 hp).1;omega
    have:=h.rng (j - 1) ps[j - 1] (by omega) (List.getElem?_eq_getElem hj1)
    unfold fj at h1
    rw[if_neg e0,List.getElem?_eq_getElem hj1,Option.getD_some] at h1
    omega
  ·exact h.rng j q (by omega) hq
 ·by_cases e:j+1=i
  ·subst e
   rw[hp] at hc
   injection hc with hc
   subst hc
   rw[nE ha] at h1
   exact h1
  ·exact h.inc j a c (by omega) ha hc
theorem vB {ps:List Int}{k:Int}{v:Nat}(h:PlI ps k v ps.length):S.a8 ps k=true:=by
 unfold S.a8
 rw[List.all_eq_true]
 intro i hi
 have hi:=List.mem_range.1 hi
 have hp:ps[i]?=some ps[i]:=List.getElem?_eq_getElem hi
 obtain ⟨r1,r2,-⟩:=h.rng i _ hi hp
 by_cases e:i=0
 ·subst e
  simp only[S.bi,hp,Option.getD_some]
  simp;omega
 ·have hq:ps[i - 1]?=some ps[i - 1]:=List.getElem?_eq_getElem (by omega)
  have:=h.inc (i - 1) _ ps[i] (by omega) hq (by rw[show i - 1+1=i by omega];exact hp)
  simp only[S.bi,hp,hq,Option.getD_some]
  simp;omega
theorem NR.pl {n:Net}(h:NR n){v:Nat}{x:Node}(hx:n.nodes[v]?=some x){i:Nat}{p:Int}(hp:x.parents[i]?=some p):fj x.parents i<p/\p<n.nodes.length/\p≠(v:Int):=by
 have hm:=List.mem_of_getElem? hx
 have hpl:=h.places x hm
 have h1:=dq hpl p (List.mem_of_getElem? hp)
 have hl2:=h.l2
 refine ⟨?_,h1.2,fun e=>?_⟩
 ·unfold fj
  split
  ·omega
  ·rename_i e
   have hil:=(List.getElem?_eq_some_iff.1 hp).1
   have hq:x.parents[i - 1]?=some x.parents[i - 1]:=List.getElem?_eq_getElem (by omega)
   rw[hq,Option.getD_some]
   exact lN hpl hq (by rw[show i - 1+1=i by omega];exact hp)
 ·have hv:=(List.getElem?_eq_some_iff.1 hx).1
  have ha:=ma.1 h.acyc v (by simp[S.ak];exact hv)
  have hpar:Par (S.ak n) v=S.am x.parents:=by simp[Par,S.ak,hx]
  have hb:(Par (S.ak n) v).testBit v=true:=by
   rw[hpar,rH fun y hy=>by have:=dq hpl y hy;omega,<-e]
   exact List.mem_of_getElem? hp
  have:=nY (p:=S.ak n) (s:=Par (S.ak n) v) (S.ak n).length v hb
  rw[this] at ha;cases ha
section
variable {d:Nat}{n:Net}{b cv sv:AV}{q:Nat}{rows:List (List AV)}
def S.aC (n:Net)(j:Nat)(m:Nat):List Nat:=(S.ak n).take j++m::List.replicate (n.nodes.length - (j+1)) 0
structure Rd1 (n:Net) (x:Node) (b cv sv pa:AV) (q j p9 i:Nat) (t:T) (g:G):Prop where
 st:St t ((80,b)::(81,.int .i64 (n.nodes.length:Int))::(82,.int .i64 (j:Int))::(88,pa)::(8,.int .i64 (j:Int))::(9,.hptr p9 0 0 0)::(10,.int .i64 (fj x.parents i))::LRd q)
 hp:RdH n b cv sv q (S.aa n) (S.aC n j (S.am (x.parents.take i))) g
 ok:PlI x.parents n.nodes.length j i
theorem Bn {Q:QT}{t:T}{g:G}{x:Node}{pa:AV}{j p9:Nat}{c9:List AV}(hl:n.nodes.length<=8)(hN:SlR NoP 0 .nil n.nodes b)(hx:n.nodes[j]?=some x)(hpa:SlR NoP 0 .nil x.parents pa)
  (h0:Rd1 n x b cv sv pa q j p9 0 t g) (h90:tat t 90=.int .i64 0) (h89:tat t 89=.int .i64 (x.parents.length:Int)) (e9:g.h.get p9=.cells 3 [c9] 0 false false) (p9s:vid sv≠some p9)
  (bad:∀t g,¬NR n->g.h.get 1=.cells 5 [[.int .i64 0,.nils,.nils,.nils,.nils]] 0 false false->tat t 2=.hptr 1 0 0 0->tat t 3=.int .i64 50->Q .ret t [] g)
  (fin:∀t g',Rd1 n x b cv sv pa q j p9 x.parents.length t g'->g'.h.get p9=.cells 3 [c9] 0 false false->g.nx<=g'.nx->Q (.exit 4) t [] g'):wpL (wp C0 d none io) Q t [] g:=by
 have hjl:=(List.getElem?_eq_some_iff.1 hx).1
 have nl:=fun g=>hN.len g
 have rp:=fun h=>(hpa.tree (h':=h) (Nat.le_refl 0)).ints
 have hpsl:(S.ak n).length=n.nodes.length:=by simp[S.ak]
 have hypl:((S.ak n).take j).length=j:=by rw[List.length_take,hpsl];omega
 simp only[io]
 refine a7 (m:=x.parents.length) hpa.1 (fun i t df g'=>df=[]/\Rd1 n x b cv sv pa q j p9 i t g'/\g'.h.get p9=.cells 3 [c9] 0 false false/\g.nx<=g'.nx) ⟨rfl,h0,e9,Nat.le_refl _⟩ h90 h89 (by decide)
  (by rintro i t df g v s (rfl | rfl | rfl) ⟨a1,⟨⟨b1,b2,b3,b4,b5,b6,b7,b8,b9,b10,-⟩,c1,c2⟩,c3⟩<;>exact ⟨a1,⟨by simp[St,LRd,sx,b1,b2,b3,b4,b5,b6,b7,b8,b9,b10],c1,c2⟩,c3⟩) ?_ ?_
 ·rintro i t df g hi ⟨rfl,⟨⟨h80,h81,h82,h88,h8,h9,h10,h1,h2,h4,-⟩,hp,hok⟩,e9,en⟩ h90 h89
  obtain ⟨p,hpi,htk,-⟩:=aG hi
  have u1:i<(x.parents.map ci).length:=by simpa using hi
  have u2:(x.parents.map ci)[i]?=some (ci p):=by rw[List.getElem?_map,hpi];rfl
  have badn:¬(fj x.parents i<p/\p<n.nodes.length/\p≠(j:Int))->¬NR n:=fun h hr=>h (hr.pl hx hpi)
  have q2:=hp.q2
  by_cases c1:p<=fj x.parents i
  ·simp only[sz,simprocAttr,h2,h10,h88,h90,rp,u1,u2,ci,hp.h1,c1]
   exact bad _ _ (badn (by omega)) (by simp[H.get_put]) (by simp[sx,h2]) (by simp[sx])
  by_cases c2:(n.nodes.length:Int)<=p
  ·simp only[sz,simprocAttr,h2,h4,h10,h88,h90,rp,u1,u2,ci,hp.hq,nl,hp.h1,c1,c2]
   exact bad _ _ (badn (by omega)) (by simp[H.get_put]) (by simp[sx,h2]) (by simp[sx])
  by_cases c3:p=(j:Int)
  ·subst c3
   simp only[sz,simprocAttr,h2,h4,h8,h10,h88,h90,rp,u1,u2,ci,hp.hq,nl,hp.h1,c1,c2,eq_self]
   exact bad _ _ (badn (by omega)) (by simp[H.get_put]) (by simp[sx,h2]) (by simp[sx])
  have hok2:=AC hok hpi (by omega) (by omega) c3
  obtain ⟨p0,-,-⟩:=hok2.rng i p (by omega) hpi
  obtain ⟨p,rfl⟩:=Int.eq_ofNat_of_zero_le p0
  have hYr:((S.aC n j (S.am (x.parents.take i))).map cu)[j]?=some (cu (S.am (x.parents.take i))):=by
   rw[List.getElem?_map,S.aC,List.getElem?_append_right (by omega),hypl,Nat.sub_self];rfl
  have hYl:j<((S.aC n j (S.am (x.parents.take i))).map cu).length:=by simp[S.aC,hpsl];omega
  have hYs:(S.aC n j (S.am (x.parents.take i))).set j (S.am (x.parents.take (i+1)))=S.aC n j (S.am (x.parents.take (i+1))):=by
   simp only[S.aC]
   rw[List.set_append_right _ _ (by omega),hypl,Nat.sub_self,List.set_cons_zero]
  have em:S.am (x.parents.take (i+1))=S.am (x.parents.take i) ||| S.aK p:=by rw[htk,yb];rfl
  have hshl:cD .shl (.int .u64 1) (.int .i64 (p:Int))=.val (.int .u64 (S.aK p:Int)):=nK .i64 p
  have hor:=jQ (S.am (x.parents.take i)) (S.aK p) (ol _) (oZ p)
  rw[<-em] at hor
  have hsr:=hp.hs.rows
  have hls:=nE hpi
  refine kV (P:=fun t' df g'=>df=[]/\g'=g/\St t' ((80,b)::(81,.int .i64 (n.nodes.length:Int))::(82,.int .i64 (j:Int))::(88,pa)::(8,.int .i64 (j:Int))::(9,.hptr p9 0 0 0)::(10,.int .i64 (fj x.parents i))::LRd q)/\tat t' 12=.int .i64 (p:Int)/\tat t' 90=.int .i64 (i:Int)/\tat t' 89=.int .i64 (x.parents.length:Int)) ?_ ?_
  ·simp only[sz,simprocAttr,h88,h90,rp,u1,u2,ci]
   simp[St,LRd,sx,h1,h2,h4,h8,h9,h10,h80,h81,h82,h88,h89]
  clear h1 h2 h4 h8 h9 h10 h80 h81 h82 h88 h89 h90
  rintro t df g' ⟨rfl,rfl,⟨h80,h81,h82,h88,h8,h9,h10,h1,h2,h4,-⟩,h12,h90,h89⟩
  refine kV (P:=fun t' df g''=>df=[]/\g''=g'/\St t' ((80,b)::(81,.int .i64 (n.nodes.length:Int))::(82,.int .i64 (j:Int))::(88,pa)::(8,.int .i64 (j:Int))::(9,.hptr p9 0 0 0)::(10,.int .i64 (fj x.parents i))::LRd q)/\tat t' 12=.int .i64 (p:Int)/\tat t' 90=.int .i64 (i:Int)/\tat t' 89=.int .i64 (x.parents.length:Int)) ?_ ?_
  ·simp only[sz,simprocAttr,h4,h8,h10,h12,h89,h90,hp.hq,nl,c1,c2,c3]
   simp[St,LRd,sx,h1,h2,h4,h8,h9,h10,h80,h81,h82,h88]
  clear h1 h2 h4 h8 h9 h10 h12 h80 h81 h82 h88 h89 h90
  rintro t df g'' ⟨rfl,rfl,⟨h80,h81,h82,h88,h8,h9,h10,h1,h2,h4,-⟩,h12,h90,h89⟩
  simp only[sz,simprocAttr,sf,h4,h8,h12,hp.hq,hsr,hYl,hYr,cu,hshl,hor]
  refine dR (v:=sv) (sz:=1) (n:=1) (i:=j) (off:=0) (x:=.int .u64 (S.am (x.parents.take (i+1)):Int)) (row':=cu (S.am (x.parents.take (i+1)))) (hp.hs.fr (by simp;omega) fun i _=>by simp) hYr rfl rfl rfl fun g4 hu4 n4 f4=>?_
  rw[show (((S.aC n j (S.am (x.parents.take i))).map cu).set j (cu (S.am (x.parents.take (i+1)))))=(S.aC n j (S.am (x.parents.take (i+1)))).map cu from by rw[<-List.map_set,hYs]] at hu4
  have f4':∀i,vid sv≠some i->g4.h.get i=g''.h.get i:=fun i hi=>by rw[f4 i hi];simp
  have n4':g''.nx<=g4.nx:=by rw[n4];simp;omega
  simp only[sx,sy,↓reduceIte,Nat.reduceEqDiff]
  refine ⟨?_,⟨⟨?_,⟨?_,?_,?_,?_,?_,q2,?_,hp.d1,hp.d2,hp.d3⟩,hok2⟩,?_,?_⟩,h90,h89⟩
  ·simp only[List.reverse_cons,List.reverse_nil,List.nil_append,List.cons_append]
   exact dh [false,false,false,false,false,false,false,false,false,true] [] (by simp[All2,an,aH]) (by decide) (by simp)
  ·rw[hls]
   simp[St,LRd,sx,h1,h2,h4,h8,h9,h80,h81,h82,h88]
  ·simp only[bumpG_h]
   rw[f4' 0 fun e=>by have:=(hp.hs.lt e).1;omega,hp.h0]
  ·simp only[bumpG_h]
   rw[f4' 1 fun e=>by have:=(hp.hs.lt e).1;omega,hp.h1]
  ·simp only[bumpG_h]
   rw[f4' q hp.d2,hp.hq]
  ·exact hp.hc.fr (by simp;omega) fun i hi=>by simp only[bumpG_h];exact f4' i (hp.d3 i hi)
  ·exact hu4.fr (by simp) fun i _=>by simp
  ·have:=hp.qn
   simp;omega
  ·rw[f4' p9 p9s,e9]
  ·omega
 ·rintro t df g' ⟨rfl,h,e9,en⟩
  exact fin t g' h e9 en
end
end
end Hx
end
section
namespace Hx
open Go
noncomputable section
section
variable {d:Nat}{n:Net}{b cv sv:AV}{q:Nat}{rows:List (List AV)}
structure Rd4 (n:Net) (b cv sv:AV) (q j:Nat) (t:T) (g:G):Prop where
 st:St t ((80,b)::LRd q)
 hp:RdH n b cv sv q (S.aa n) ((S.ak n).take j++List.replicate (n.nodes.length - j) 0) g
 ok:∀x∈n.nodes.take j,S.a8 x.parents n.nodes.length=true/\S.aR n.grain (S.aa n) x=true
theorem Bl (n:Net)(j m:Nat)(hm:m<18446744073709551616):∀y∈S.aC n j m,y<18446744073709551616:=fun y hy=>by
 simp only[S.aC,List.mem_append,List.mem_cons] at hy
 rcases hy with hy | rfl | hy
 ·obtain ⟨x,-,rfl⟩:=List.mem_map.1 (List.mem_of_mem_take hy)
  exact ol _
 ·exact hm
 ·rw[(List.mem_replicate.1 hy).2];decide
theorem Own.natsV {g:G}{b:Nat}{v:AV}{l:List Nat}(h:Own g b v 1 (l.map cu))(hl:l.length<9223372036854775808)(hb:∀y∈l,y<18446744073709551616):SlR (fun i=>vid v=some i) 0 g.h l v :=
 Own.sl (α:=Nat) h hl (by
  have:∀l:List Nat,(∀y∈l,y<18446744073709551616)->All2 (Rp.rp (α:=Nat) (fun i=>vid v=some i) 0 g.h) l (l.map cu):=fun l=>by
   induction l with
   | nil=>intro _;trivial
   | cons y l ih=>intro h;exact ⟨lQ.2 ⟨rfl,h y (by simp)⟩,ih fun z hz=>h z (by simp[hz])⟩
  exact this l hb) fun _ h=>h
theorem Own.nats' {g:G}{b:Nat}{v:AV}{l:List Nat}(h:Own g b v 1 (l.map cu))(hl:l.length<9223372036854775808)(hb:∀y∈l,y<18446744073709551616):SlR (fun _=>True) 0 g.h l v :=
 (h.natsV hl hb).wd fun _ _=>⟨trivial,rfl⟩
theorem Own.intsV {g:G}{b:Nat}{v:AV}{l:List Int}(h:Own g b v 1 (l.map ci))(hl:l.length<9223372036854775808):SlR (fun i=>vid v=some i) 0 g.h l v :=
 Own.sl (α:=Int) h hl (All2.of_map (fun a=>a9.2 rfl) _) fun _ h=>h
theorem BL {n:Net}(h:NR n){x:Node}(hx:x∈n.nodes):S.aR n.grain (S.aa n) x=true:=by
 simp only[S.aR,S.aH,Bool.and_eq_true,decide_eq_true_eq,List.all_eq_true]
 exact ⟨h.rows x hx,fun r hr=>⟨⟨(h.row x hx r hr).1,(h.row x hx r hr).2.1⟩,(h.row x hx r hr).2.2⟩⟩
theorem Cv {Q:QT}{t:T}{g:G}(hd:0<d)(hl:n.nodes.length<=8)(hg1:1<=n.grain/\n.grain<=60)(hcard:∀c∈S.aa n,1<=c/\c<=4)(hN:SlR NoP 0 .nil n.nodes b)(r1:∀h,ax h 3 b=some rows)(r2:rows.length=n.nodes.length)
  (r3:∀(i:Nat) (x:Node),n.nodes[i]?=some x->∃pa ra,rows[i]?=some [.int .i64 x.card,pa,ra]/\i<rows.length/\SlR NoP 0 .nil x.parents pa/\SlR NoP 0 .nil x.rows ra) (r4:0<n.nodes.length->nS b=true)
  (h0:Rd4 n b cv sv q 0 t g) (h82:tat t 82=.int .i64 0) (h81:tat t 81=.int .i64 (n.nodes.length:Int))
  (bad:∀t g,¬NR n->g.h.get 1=.cells 5 [[.int .i64 0,.nils,.nils,.nils,.nils]] 0 false false->tat t 2=.hptr 1 0 0 0->tat t 3=.int .i64 50->Q .ret t [] g)
  (fin:∀t g,Rd4 n b cv sv q n.nodes.length t g->Q (.exit 2) t [] g):wpL (wp C0 d none iy) Q t [] g:=by
 simp only[iy,k_]
 refine a7 (m:=n.nodes.length) (by omega) (fun j t df g=>df=[]/\Rd4 n b cv sv q j t g) ⟨rfl,h0⟩ h82 h81 (by decide)
  (by rintro j t df g v s (rfl | rfl | rfl) ⟨a1,⟨b1,b2,b3,b4,-⟩,c1,c2⟩<;>exact ⟨a1,by simp[St,LRd,sx,b1,b2,b3,b4],c1,c2⟩) ?_ ?_
 ·rintro j t df g hj ⟨rfl,⟨⟨h80,h1,h2,h4,-⟩,hp,hok⟩⟩ h82 h81
  obtain ⟨x,hx,htk,hxm⟩:=aG hj
  obtain ⟨pa,ra,q1,hlt,hpa,hra⟩:=r3 j x hx
  have hry:=r4 (by omega)
  have q2:=hp.q2
  have qn:=hp.qn
  have hpsl:(S.ak n).length=n.nodes.length:=by simp[S.ak]
  have hpj:(S.ak n)[j]?=some (S.am x.parents):=by simp[S.ak,hx]
  obtain ⟨g2,hg2⟩:∃g2,g2=(g.new (.cells 3 [[.int .i64 0,.nils,.nils]] 0 false false)).put g.nx (.cells 3 [[.int .i64 x.card,pa,ra]] 0 false false):=⟨_,rfl⟩
  have f2:Fr g g2:=by rw[hg2];exact CT (by simp) fun i hi=>by simp[H.get_put,show ¬i=g.nx by omega]
  have n2:g.nx<g2.nx:=by rw[hg2];simp
  have hp3:=hp.fr f2
  have f9:g2.h.get g.nx=.cells 3 [[.int .i64 x.card,pa,ra]] 0 false false:=by rw[hg2];simp[H.get_put]
  have eY:(S.ak n).take j++List.replicate (n.nodes.length - j) 0=S.aC n j (S.am (x.parents.take 0)):=by
   rw[S.aC,show n.nodes.length - j=(n.nodes.length - (j+1))+1 by omega,List.replicate_succ];rfl
  have eY2:S.aC n j (S.am x.parents)=(S.ak n).take (j+1)++List.replicate (n.nodes.length - (j+1)) 0:=by
   rw[S.aC,List.take_add_one,hpj,List.append_assoc];rfl
  rw[eY] at hp3
  refine bV (P:=fun t' df g'=>df=[]/\g'=g2/\St t' ((80,b)::(81,.int .i64 (n.nodes.length:Int))::(82,.int .i64 (j:Int))::(8,.int .i64 (j:Int))::(9,.hptr g.nx 0 0 0)::LRd q)) ?_ ?_
  ·simp only[sz,simprocAttr,h80,h82,r1,hlt,q1]
   rw[hg2]
   simp[St,LRd,sx,h1,h2,h4,h80,h81,h82]
  clear h1 h2 h4 h80 h81 h82
  rintro t df g3 ⟨rfl,rfl,⟨h80,h81,h82,h8,h9,h1,h2,h4,-⟩⟩
  have pl:=fun g=>hpa.len g
  simp only[sz,simprocAttr,h9,f9,pl]
  refine Bn (j:=j) (p9:=g.nx) (x:=x) (pa:=pa) (b:=b) (cv:=cv) (sv:=sv) (q:=q) hl hN hx hpa ⟨by simp[St,LRd,sx,fj,h1,h2,h4,h8,h9,h80,h81,h82],hp3,⟨fun i p hi=>by omega,fun i p r hi=>by omega⟩⟩ (by simp[sx]) (by simp[sx]) f9 (fun e=>by have:=(hp.hs.lt e).2;omega) ?_ ?_
  ·intro t g hn a1 a2 a3
   simp only[sx,sy]
   exact bad t g hn a1 a2 a3
  ·rintro t g4 ⟨⟨h80,h81,h82,h88,h8,h9,h10,h1,h2,h4,-⟩,hp4,hpl⟩ f94 n4
   rw[List.take_length] at hp4
   have hplc:=vB hpl
   have hpin:∀p∈x.parents,0<=p/\p<((S.aa n).length:Int):=fun p hp=>by rw[aS];exact dq hplc p hp
   have hpll:=iZ hplc (by omega)
   have hyl:(S.aC n j (S.am x.parents)).length<=8:=by simp[S.aC,hpsl];omega
   have hm:Agg ((n,S.aa n,S.aC n j (S.am x.parents),[]):NwM) (fun _=>True) 0 g4.h (.agg [.int .i64 n.grain,b,cv,sv,.nils]) :=
    ⟨_,rfl,nI.2 ⟨b,cv,sv,.nils,rfl,hN.wide (Nat.le_refl 0),Own.sl (α:=Int) hp4.hc (by rw[aS];omega) (All2.of_map (fun a=>a9.2 rfl) _) fun _ _=>trivial,hp4.hs.nats' (by omega) (Bl n j _ (ol _)),⟨by show 0<9223372036854775808;decide,rfl⟩⟩⟩
   have hxa:Agg x NoP 0 g4.h (.agg [.int .i64 x.card,pa,ra]):=⟨_,rfl,eR.2 ⟨pa,ra,rfl,hpa.tree (Nat.le_refl 0),hra.tree (Nat.le_refl 0)⟩⟩
   have hfl:=yI (d:=d) (g:=g4) hd hm hxa ⟨rfl,rfl⟩ hg1 hcard hpin (by omega)
   have hfl:aO C0 d N.aw [.agg [.int .i64 n.grain,b,cv,sv,.nils],.agg [.int .i64 x.card,pa,ra]] g4=.val (.bool (S.aR n.grain (S.aa n) x)):=hfl
   cases hf:S.aR n.grain (S.aa n) x with
   | false =>
    rw[hf] at hfl
    simp only[sz,simprocAttr,h_,h2,h4,h9,hp4.hq,hp4.h1,f94,hfl]
    refine bad _ _ (fun hr=>?_) (by simp[H.get_put]) (by simp[sx,h2]) (by simp[sx])
    have:=BL hr hxm
    rw[hf] at this;cases this
   | true =>
    rw[hf] at hfl
    simp only[sz,simprocAttr,h_,h4,h9,hp4.hq,f94,hfl]
    rw[eY2] at hp4
    refine ⟨⟨by simp[St,LRd,sx,h1,h2,h4,h80],hp4,fun y hy=>?_⟩,by simp[h82],by simp[h81]⟩
    rw[htk] at hy
    rcases List.mem_append.1 hy with h | h
    ·exact hok y h
    ·rw[List.mem_singleton.1 h];exact ⟨hplc,hf⟩
 ·rintro t df g ⟨rfl,h⟩
  exact fin t g h
end
theorem z7 (n:Net):Snb (tP n) 2:=ko fun o=>gN (m:=2) (oe _) (dt _) (by decide) (by decide)
theorem wL {d:Nat}{g:G}{v:AV}{n:Net}(hd:0<d)(hm:Agg n NoP 0 g.h v):∃r,aO C0 d N.aq [v] g=.val r/\tP n NoP 0 .nil r:=by
 obtain ⟨b,rows,rfl,e,hm',hN,r1,r2,r3,r4⟩:=j5 d hm
 rw[qe]
 refine fy tM (xs:=[.agg [.int .i64 n.grain,b]]) (by simp only[aD,e]) (by simp[gz]) (z7 n) (by decide) hd ?_
 have nl:=fun g=>hN.len g
 simp only[sz,simprocAttr,gz]
 obtain ⟨g0,hg0⟩:∃g0,g0=(G.empty.new (.cells 2 [[.int .i64 n.grain,b]] 0 false false)).new (.cells 5 [[.int .i64 0,.nils,.nils,.nils,.nils]] 0 false false):=⟨_,rfl⟩
 rw[<-hg0]
 have f0:g0.h.get 0=.cells 2 [[.int .i64 n.grain,b]] 0 false false:=by rw[hg0];simp[sx,H.get_put]
 have f1:g0.h.get 1=.cells 5 [[.int .i64 0,.nils,.nils,.nils,.nils]] 0 false false:=by rw[hg0];simp[sx]
 have f2:g0.nx=2:=by rw[hg0];simp[sx]
 clear hg0
 obtain ⟨Qf,hQf⟩:∃Qf,Qf=fnQ C0 (d+1) [SR.cell true 5 2,SR.tm 3] (fun v g'=>∃P,tP n P 0 g'.h v):=⟨_,rfl⟩
 have bad:∀(t:T) (g:G),¬NR n->g.h.get 1=.cells 5 [[.int .i64 0,.nils,.nils,.nils,.nils]] 0 false false->tat t 2=.hptr 1 0 0 0->tat t 3=.int .i64 50->Qf .ret t [] g:=fun t g hn a1 a2 a3=>by
  rw[hQf];exact DX hn a1 a2 a3
 rw[<-hQf]
 simp only[mD]
 by_cases c1:n.grain<1
 ·rw[cM]
  simp only[sz,simprocAttr,f0,f1,c1]
  exact bad _ _ (fun h=>by have:=h.g1;omega) (by simp[H.get_put]) (by simp[sx]) (by simp[sx])
 by_cases c2:60<n.grain
 ·rw[cM]
  simp only[sz,simprocAttr,f0,f1,c1,c2]
  exact bad _ _ (fun h=>by have:=h.g2;omega) (by simp[H.get_put]) (by simp[sx]) (by simp[sx])
 by_cases c3:(n.nodes.length:Int)<1
 ·rw[cM]
  simp only[sz,simprocAttr,f0,f1,c1,c2,c3,nl]
  exact bad _ _ (fun h=>by have:=h.l1;omega) (by simp[H.get_put]) (by simp[sx]) (by simp[sx])
 by_cases c4:8<(n.nodes.length:Int)
 ·rw[cM]
  simp only[sz,simprocAttr,f0,f1,c1,c2,c3,c4,nl]
  exact bad _ _ (fun h=>by have:=h.l2;omega) (by simp[H.get_put]) (by simp[sx]) (by simp[sx])
 refine kV (P:=fun t' df g'=>df=[]/\g'=g0/\St t' [(1,.hptr 0 0 0 0),(2,.hptr 1 0 0 0)]) ?_ ?_
 ·simp only[sz,simprocAttr,f0,c1,c2,c3,c4,nl]
  simp[St,sx]
 rintro t df g1 ⟨rfl,rfl,h1,h2,-⟩
 have hl8:n.nodes.length<=8:=by omega
 refine kV (P:=fun t' df g'=>df=[]/\∃cv sv q,St t' (LRd q)/\RdH n b cv sv q (List.replicate n.nodes.length 0) (List.replicate n.nodes.length 0) g') ?_ ?_
 ·simp only[sz,simprocAttr,sf,h1,f0,nl]
  refine md (b:=2) (n:=n.nodes.length) (by unfold bF;omega) (by unfold bF;omega) (by first | (simp;done) | (simp;omega)) fun cv g2 hcv n2 fr2 v2 lg2=>?_
  simp only[sy] at n2 fr2 v2 lg2
  have k0:g2.h.get 0=.cells 2 [[.int .i64 n.grain,b]] 0 false false:=by rw[fr2 0 (by omega),f0]
  simp only[sz,simprocAttr,sf,h1,k0,nl,lg2]
  refine md (b:=2) (n:=n.nodes.length) (by unfold bF;omega) (by unfold bF;omega) (by first | (simp;done) | (simp;omega)) fun sv g3 hsv n3 fr3 v3 lg3=>?_
  simp only[sy] at n3 fr3 v3 lg3
  simp only[sz,simprocAttr,sf,lg3,hcv.cell.1,hcv.cell.2,hsv.cell.1,hsv.cell.2]
  refine ⟨?_,cv,sv,g3.nx+1+1,?_,?_⟩
  ·simp only[List.reverse_cons,List.reverse_nil,List.nil_append,List.cons_append,G.new_lg,G.put_lg,setLog_lg]
   refine dh [false,false,false,false,true,false,false,false,true,false,true,true] [(0,4),(4,5),(4,6),(4,7),(0,8),(1,8),(2,8),(3,8),(4,8),(0,10),(1,10),(2,10),(3,10),(4,10),(5,10),(6,10),(7,10),(8,10),(9,10)] (by simp[All2,an,aH]) (by decide) ?_
   rintro p hp x y hx hy
   simp only[List.mem_cons,List.not_mem_nil,or_false] at hp
   rcases hp with rfl | rfl | rfl | rfl | rfl | rfl | rfl | rfl | rfl | rfl | rfl | rfl | rfl | rfl | rfl | rfl | rfl | rfl | rfl<;>(simp at hx hy;subst hx;subst hy;refine mO rfl rfl rfl rfl ?_ ?_ ?_<;>simp[an,aH,ae]<;>omega)
  ·simp[St,LRd,sx,h1,h2]
  ·have fa:∀i,i<g2.nx->g3.h.get i=g2.h.get i:=fun i hi=>by have:=fr3 i (by omega);simpa using this
   have fb:∀i,i<g1.nx->g2.h.get i=g1.h.get i:=fun i hi=>by have:=fr2 i (by omega);simpa using this
   have hcv':Own g2 2 cv 1 ((List.replicate n.nodes.length (0:Int)).map ci):=by simpa [ci] using hcv
   have hsv':Own g3 2 sv 1 ((List.replicate n.nodes.length (0:Nat)).map cu):=by simpa [cu] using hsv
   have hne:∀i,i<g3.nx->¬i=g3.nx+1+1:=fun i hi=>by omega
   refine ⟨?_,?_,?_,hcv'.fr (by simp;omega) fun i hi=>?_,hsv'.fr (by simp;omega) fun i hi=>?_,by omega,by first | (simp;done) | (simp;omega),fun e=>?_,fun e=>?_,fun i hi hi2=>?_⟩
   ·simp[H.get_put]
    rw[fa 0 (by omega),k0]
   ·simp[H.get_put]
    rw[fa 1 (by omega),fb 1 (by omega),f1]
   ·simp[H.get_put]
   ·have:=eE v2 hi
    simp[H.get_put,hne i (by omega)]
    rw[fa i (by omega)]
   ·have:=eE v3 hi
    simp[H.get_put,hne i (by omega)]
   ·have:=eE v2 e;omega
   ·have:=eE v3 e;omega
   ·have:=eE v2 hi
    have:=eE v3 hi2
    omega
 rintro t df g ⟨rfl,cv,sv,q,⟨h1,h2,h4,-⟩,hp⟩
 clear f0 f1 f2
 have nlen:=nl g
 simp only[sz,simprocAttr,h4,hp.hq,nl]
 refine B0 (b:=b) (cv:=cv) (sv:=sv) (q:=q) hl8 hN r1 r2 r3 r4 ⟨by simp[St,LRd,sx,S.af,h1,h2,h4],by simpa using hp,by simp⟩ (by simp[sx]) (by simp[sx]) ?_ ?_
 ·intro t g hn a1 a2 a3
  simp only[sx]
  exact bad t g hn a1 a2 a3
 clear h1 h2 h4 hp nlen
 rintro t g ⟨⟨h48,h5,h1,h2,h4,-⟩,hp,hok⟩
 rw[List.take_of_length_le (by rw[aS];exact Nat.le_refl _)] at h5 hp
 rw[Nat.sub_self,List.replicate_zero,List.append_nil] at hp
 rw[List.take_length] at hok
 have hcb:∀c∈S.aa n,1<=c/\c<=4:=fun c hc=>by
  obtain ⟨y,hy,rfl⟩:=List.mem_map.1 hc
  exact hok y hy
 simp only[sz,simprocAttr,kX]
 by_cases d1:1024<S.af (S.aa n)
 ·simp only[sz,simprocAttr,h2,h5,hp.h1,d1]
  exact bad _ _ (fun h=>by have:=h.worlds;omega) (by simp[H.get_put]) (by simp[sx,h2]) (by simp[sx])
 simp only[sz,simprocAttr,h4,h5,hp.hq,nl,d1]
 refine Cv (b:=b) (cv:=cv) (sv:=sv) (q:=q) (Nat.succ_pos d) hl8 (by omega) hcb hN r1 r2 r3 r4 ⟨by simp[St,LRd,sx,h1,h2,h4],by simpa using hp,by simp⟩ (by simp[sx]) (by simp[sx]) ?_ ?_
 ·intro t g hn a1 a2 a3
  simp only[sx]
  exact bad t g hn a1 a2 a3
 clear h1 h2 h4 h48 h5 hp
 rintro t g ⟨⟨h80,h1,h2,h4,-⟩,hp,hok2⟩
 rw[List.take_of_length_le (by simp[S.ak])] at hp
 rw[Nat.sub_self,List.replicate_zero,List.append_nil] at hp
 rw[List.take_length] at hok2
 have hpsl:(S.ak n).length=n.nodes.length:=by simp[S.ak]
 have hplt:∀y∈S.ak n,y<18446744073709551616:=fun y hy=>by
  obtain ⟨x,-,rfl⟩:=List.mem_map.1 hy
  exact ol _
 have hplt2:∀y∈S.ak n,y<2 ^ (S.ak n).length:=fun y hy=>by
  obtain ⟨x,hx,rfl⟩:=List.mem_map.1 hy
  rw[hpsl]
  exact zU (by omega) fun z hz=>dq (hok2 x hx).1 z hz
 obtain ⟨z,ez,o,-,oz,az,rfl,hoz,haz⟩:=yg (d:=d+1) (g:=g) (Nat.succ_pos d) (hp.hs.nats' (by omega) hplt) (by omega) hplt2
 have haz:=dJ.1 haz
 injection haz with haz
 subst haz
 obtain ⟨_,e1,hoz⟩:=hoz
 injection e1 with e1;subst e1
 cases hac:S.aT (S.ak n) with
 | false =>
  rw[hac] at ez
  simp only[sz,simprocAttr,ia,h2,h4,hp.hq,hp.h1,ez]
  exact bad _ _ (fun h=>by have:=h.acyc;rw[hac] at this;cases this) (by simp[H.get_put]) (by simp[sx,h2]) (by simp[sx])
 | true =>
  rw[hac] at ez
  have hnr:S.aF n=true:=gW.2 ⟨by omega,by omega,by omega,by omega,hok,fun x hx=>(hok2 x hx).1,by omega,hac,fun x hx=>by
   have:=(hok2 x hx).2
   simp only[S.aR,Bool.and_eq_true,decide_eq_true_eq] at this
   exact this.1,fun x hx r hr=>by
   have:=(hok2 x hx).2
   simp only[S.aR,S.aH,Bool.and_eq_true,decide_eq_true_eq,List.all_eq_true] at this
   have:=this.2 r hr
   exact ⟨this.1.1,this.1.2,this.2⟩⟩
  have q2:=hp.q2
  have hq1:¬(1=q):=by omega
  have hq0:¬(q=1):=by omega
  have oc:=hoz.cell
  rw[hQf]
  simp only[sz,simprocAttr,ia,h2,h4,hp.hq,hp.h1,ez,hq1,oc.1,oc.2]
  have fh:∀i,¬i=1->¬i=q->((g.h.put q (.cells 5 [[.int .i64 n.grain,b,cv,sv,oz]] 0 false false)).put 1 (.cells 5 [[.int .i64 n.grain,b,cv,sv,oz]] 0 false false)).get i=g.h.get i:=fun i hi hi2=>by simp[H.get_put,hi,hi2]
  refine ⟨fun _=>True,o,trivial,_,_,rfl,⟨_,rfl,?_⟩,?_⟩
  ·rw[S.bg,if_pos hnr]
   refine nI.2 ⟨b,cv,sv,oz,rfl,hN.wide (Nat.le_refl 0),(hp.hc.intsV (by rw[aS];omega)).wd fun i hi=>⟨trivial,fh i (by have:=(hp.hc.lt hi).1;omega) fun e=>hp.d1 (by rw[hi,e])⟩,(hp.hs.natsV (by omega) hplt).wd fun i hi=>⟨trivial,fh i (by have:=(hp.hs.lt hi).1;omega) fun e=>hp.d2 (by rw[hi,e])⟩,hoz.wide (Nat.le_refl 0)⟩
  ·rw[if_pos hnr];exact a9.2 rfl
end
end Hx
end
section
namespace Hx
open Go
noncomputable section
theorem vq {n:Net}{o:List Int}(h:S.aF n=true):S.bg n o=(n,S.aa n,S.ak n,o):=by rw[S.bg,if_pos h]
theorem nC {n:Net}{P:Nat->Prop}{k:Nat}{h:H}{v:AV}(hv:tP n P k h v) :
  (S.aF n=false/\∃cs,v=.tup [.agg cs,.int .i64 50]/\cs.length=5) \/
  (S.aF n=true/\∃b cv sv oz o,v=.tup [.agg [.int .i64 n.grain,b,cv,sv,oz],.int .i64 0]/\SlR P k h n.nodes b/\SlR P k h (S.aa n) cv/\SlR P k h (S.ak n) sv/\SlR P k h (o:List Int) oz):=by
 obtain ⟨o,-,a,c,rfl,⟨cs,rfl,hc⟩,hi⟩:=hv
 have hi:=a9.1 hi
 injection hi with hi
 subst hi
 cases hn:S.aF n with
 | false =>
  refine .inl ⟨rfl,cs,rfl,?_⟩
  obtain ⟨a,b,c,e,rfl,-⟩:=nI.1 hc
  rfl
 | true =>
  rw[vq hn] at hc
  obtain ⟨a,b,c,e,rfl,h1,h2,h3,h4⟩:=nI.1 hc
  exact .inr ⟨rfl,a,b,c,e,o,rfl,h1,h2,h3,h4⟩
theorem Au {d k2:Nat}{g:G}{P2:Nat->Prop}{v w:AV}{n:Net}{e:List Int}(hd:0<d)(hm:Agg n NoP 0 g.h v)(he:SlR P2 k2 g.h e w):aO C0 d N.aF [v,w] g=.val (.int .i64 (S.aP n e)):=by
 obtain ⟨w',e2,hw'⟩:=jG he d
 obtain ⟨b,rows,rfl,e1,hm',hN,r1,r2,r3,r4⟩:=j5 d hm
 have n2:=fun g=>(hw' .nil).len g
 have rb:=fun h=>(hw' h).ints
 rw[jg]
 refine sw jE (xs:=[.agg [.int .i64 n.grain,b],w']) (by simp only[aD,e1,e2]) (by simp[dA]) hd ?_
 have hle:=he.1
 simp only[sz,simprocAttr,dA,eV,d9]
 obtain ⟨z,ez,hz⟩:=wL (d:=d+1) (g:=G.empty.new (.cells 2 [[.int .i64 n.grain,b]] 0 false false)) (Nat.succ_pos d) (n:=n) (v:=.agg [.int .i64 n.grain,b]) (hm' _)
 rcases nC hz with ⟨hn,cs,rfl,hcs⟩ | ⟨hn,b',cv,sv,oz,o,rfl,hb,hcv,-,-⟩
 ·have hs:S.aP n e=50:=by rw[S.aP,hn];rfl
  obtain ⟨a1,a2,a3,a4,a5,rfl⟩:∃a1 a2 a3 a4 a5,cs=[a1,a2,a3,a4,a5]:=by
   match cs,hcs with
   | [a1,a2,a3,a4,a5],_=>exact ⟨a1,a2,a3,a4,a5,rfl⟩
  simp only[sz,simprocAttr,ez,hs,show ¬((50:Int)=0) from by decide]
 ·have nb:=fun g=>(hb.tree (h':=g) (Nat.le_refl 0)).len
  have hbl:=hb.1
  have rc:=fun h=>(hcv.tree (h':=h) (Nat.le_refl 0)).ints
  have hcl:=aS n
  by_cases hl:e.length=n.nodes.length
  ·have hl':(e.length:Int)=(n.nodes.length:Int):=by rw[hl]
   simp only[sz,simprocAttr,ez,n2,hb.len,hl]
   refine a7 (m:=n.nodes.length) (by omega) (fun j t df g=>df=[]/\St t [(24,w'),(5,.hptr 1 0 0 0),(4,.int .i64 0)]/\g.h.get 1=.cells 5 [[.int .i64 n.grain,b',cv,sv,oz]] 0 false false/\((List.range j).all fun v=>decide (-1<=e[v]?.getD 0)&&decide (e[v]?.getD 0<(S.aa n)[v]?.getD 0))=true)
    ⟨rfl,by simp[St,sx],by simp[sx],by simp⟩ (by simp[sx]) (by simp[sx]) (by decide) (by rintro j t df g v s (rfl | rfl | rfl)<;>simp[St,sx]) ?_ ?_
   ·rintro j t df g hj ⟨rfl,⟨h24,h5,h4,-⟩,hg,ha⟩ h26 h25
    obtain ⟨y,hy,-,-⟩:=aG (l:=e) (j:=j) (by omega)
    obtain ⟨c,hc,-,-⟩:=aG (l:=S.aa n) (j:=j) (by omega)
    have u1:j<(e.map ci).length:=by simp;omega
    have u2:(e.map ci)[j]?=some (ci y):=by rw[List.getElem?_map,hy];rfl
    have u3:j<((S.aa n).map ci).length:=by simp;omega
    have u4:((S.aa n).map ci)[j]?=some (ci c):=by rw[List.getElem?_map,hc];rfl
    have hst:((List.range (j+1)).all fun v=>decide (-1<=e[v]?.getD 0)&&decide (e[v]?.getD 0<(S.aa n)[v]?.getD 0))=(decide (-1<=y)&&decide (y<c)):=by
     rw[List.range_succ,List.all_append,ha]
     simp[hy,hc]
    have bad:(decide (-1<=y)&&decide (y<c))=false->S.aP n e=2:=fun h=>by
     have h1:S.aY n e=false:=by
      rw[S.aY]
      have:((List.range e.length).all fun v=>decide (-1<=e[v]?.getD 0)&&decide (e[v]?.getD 0<(S.aa n)[v]?.getD 0))=false:=by
       rw[<-Bool.not_eq_true,List.all_eq_true]
       intro h2
       have:=h2 j (List.mem_range.2 (by omega))
       rw[hy,hc,Option.getD_some,Option.getD_some,h] at this
       cases this
      rw[this,Bool.and_false]
     rw[S.aP,hn,h1];rfl
    by_cases c1:y < -1
    ·have:=bad (by simp;omega)
     simp only[sz,simprocAttr,h24,h26,rb,u1,u2,ci,c1,this]
    ·by_cases c2:c<=y
     ·have:=bad (by simp;omega)
      simp only[sz,simprocAttr,h24,h5,h26,hg,rb,rc,u1,u2,u3,u4,ci,c1,c2,this]
     ·have h3:((List.range (j+1)).all fun v=>decide (-1<=e[v]?.getD 0)&&decide (e[v]?.getD 0<(S.aa n)[v]?.getD 0))=true:=by rw[hst];simp;omega
      simp only[sz,simprocAttr,h24,h5,h4,h26,h25,hg,rb,rc,u1,u2,u3,u4,ci,c1,c2,St,h3]
   ·rintro t df g ⟨rfl,⟨h24,h5,h4,-⟩,hg,ha⟩
    have h1:S.aY n e=true:=by rw[S.aY,hl,decide_eq_true rfl,ha];rfl
    have hs:S.aP n e=0:=by rw[S.aP,hn,h1];rfl
    simp only[sz,simprocAttr,eS,hs]
  ·have hl':¬((e.length:Int)=(n.nodes.length:Int)):=by omega
   have h1:S.aY n e=false:=by rw[S.aY,decide_eq_false hl];rfl
   have hs:S.aP n e=2:=by rw[S.aP,hn,h1];rfl
   simp only[sz,simprocAttr,ez,n2,hb.len,hl',hs]
theorem Br {d:Nat}{g:G}{x:Int}(hd:0<d):aO C0 d N.au [.int .i64 x] g=.val (.bool false):=by
 rw[l9]
 refine jL nX (xs:=[.int .i64 x]) (by simp only[aD,ji 0]) (by simp[gU]) hd ?_
 simp only[sz,simprocAttr,gU]
theorem B8 {d:Nat}{g:G}{x:Int}(hd:0<d):aO C0 d N.ap [.int .i64 x] g=.val (.bool false):=by
 rw[jO]
 refine jL lJ (xs:=[.int .i64 x]) (by simp only[aD,ji 0]) (by simp[eh]) hd ?_
 simp only[sz,simprocAttr,eh]
theorem BH {d:Nat}{g:G}{x y:Int}(hd:0<d):aO C0 d N.aE [.int .i64 x,.int .i64 y] g=.val (.bool (decide (x<y))):=by
 rw[nj]
 refine jL pc (xs:=[.int .i64 x,.int .i64 y]) (by simp only[aD,ji 0]) (by simp[ib]) hd ?_
 simp only[sz,simprocAttr,ib,Br (Nat.succ_pos d)]
theorem zG {i j:Nat}(h:i+j<9223372036854775808):cD .shr (.int .u64 ((i+j:Nat):Int)) (.int .u64 1)=.val (.int .u64 (((i+j) / 2:Nat):Int)):=mh .u64 (i+j) 1 (by omega)
theorem yC {d k:Nat}{g:G}{P:Nat->Prop}{v:AV}{l:List Int}{x:Int}(hd:0<d)(hv:SlR P k g.h l v)(hl:l.length<=1000):∃(p:Nat) (b:Bool),p<=l.length/\aO C0 d N.ax [v,.int .i64 x] g=.val (.tup [.int .i64 (p:Int),.bool b]):=by
 obtain ⟨v',e,hv'⟩:=jG hv d
 have nl:=fun g=>(hv' .nil).len g
 have rl:=fun h=>(hv' h).ints
 have key:∃r,aO C0 d N.ax [v,.int .i64 x] g=.val r/\(fun P k h v=>∃o:Nat×Bool,o.1<=l.length/\rK (One (o.1:Int)) (One o.2) P k h v) NoP 0 .nil r:=by
  rw[fk]
  refine fy fN (xs:=[v',.int .i64 x]) (by simp only[aD,e,ji 0]) (by simp[bB]) (ko fun o=>gN (m:=1) (dt _) (dt _) (by decide) (by decide)) (by decide) hd ?_
  simp only[sz,simprocAttr,bB,nl]
  refine lE (fun m t df g=>df=[]/\∃i j:Nat,m=j - i/\i<=j/\j<=l.length/\St t [(0,v'),(1,.int .i64 x),(6,.int .i64 (l.length:Int)),(7,.int .i64 (i:Int)),(8,.int .i64 (j:Int))]) l.length
   ⟨rfl,0,l.length,rfl,Nat.zero_le _,Nat.le_refl _,by simp[St,sx]⟩ ?_
  rintro m t df g ⟨rfl,i,j,rfl,hij,hj,h0,h1,h6,h7,h8,-⟩
  simp only[sz,simprocAttr,cj,h7,h8]
  refine sF (fun hb=>?_) (fun hb=>?_)
  ·have hb:i<j:=by simpa using hb
   have w1:IntKind.wrap .i64 ((i:Int)+(j:Int))=((i+j:Nat):Int):=by rw[bc (by omega) (by omega)];simp
   have w2:IntKind.wrap .u64 ((i+j:Nat):Int)=((i+j:Nat):Int):=we (by omega) (by omega)
   have hm:(i+j) / 2<l.length:=by omega
   have hm1:i<=(i+j) / 2:=by omega
   have hm2:(i+j) / 2<j:=by omega
   have hsh:=zG (i:=i) (j:=j) (by omega)
   generalize (i+j) / 2=c at hm hm1 hm2 hsh
   have w3:IntKind.wrap .i64 (c:Int)=(c:Int):=bc (by omega) (by omega)
   have w4:IntKind.wrap .i64 ((c:Int)+1)=((c+1:Nat):Int):=by rw[bc (by omega) (by omega)];simp
   obtain ⟨y,hy,-,-⟩:=aG (l:=l) (j:=c) hm
   have u1:c<(l.map ci).length:=by simpa using hm
   have u2:(l.map ci)[c]?=some (ci y):=by rw[List.getElem?_map,hy];rfl
   simp only[sz,simprocAttr,h0,h1,h7,h8,w1,w2,hsh,w3,rl,u1,u2,ci,BH (Nat.succ_pos d)]
   refine sF (fun hb=>?_) (fun hb=>?_)
   ·simp only[sz,simprocAttr,w4]
    exact ⟨j - (c+1),by omega,c+1,j,rfl,by omega,hj,by simp[St,sx,h0,h1,h6,h8]⟩
   ·simp only[sz,simprocAttr]
    exact ⟨c - i,by omega,i,c,rfl,by omega,by omega,by simp[St,sx,h0,h1,h6,h7]⟩
  ·simp only[sz,simprocAttr,cx,h6,h7]
   have hil:i<=l.length:=by omega
   by_cases c1:i<l.length
   ·obtain ⟨y,hy,-,-⟩:=aG (l:=l) (j:=i) c1
    have u1:i<(l.map ci).length:=by simpa using c1
    have u2:(l.map ci)[i]?=some (ci y):=by rw[List.getElem?_map,hy];rfl
    have c2:(i:Int)<(l.length:Int):=by omega
    cases hq:decide (y=x) with
    | true =>
     simp only[sz,simprocAttr,h0,h1,h7,c2,rl,u1,u2,ci,hq]
     exact ⟨fun _=>True,(i,true),hil,_,_,rfl,a9.2 rfl,dJ.2 rfl⟩
    | false =>
     simp only[sz,simprocAttr,h0,h1,h7,c2,rl,u1,u2,ci,hq,B8 (Nat.succ_pos d)]
     exact ⟨fun _=>True,(i,false),hil,_,_,rfl,a9.2 rfl,dJ.2 rfl⟩
   ·have c2:¬((i:Int)<(l.length:Int)):=by omega
    simp only[sz,simprocAttr,c2]
    exact ⟨fun _=>True,(i,false),hil,_,_,rfl,a9.2 rfl,dJ.2 rfl⟩
 obtain ⟨r,hr,⟨p,b⟩,hp,a,c,rfl,ha,hc⟩:=key
 have ha:=a9.1 ha
 have hc:=dJ.1 hc
 injection ha with ha
 injection hc with hc
 exact ⟨p,b,hp,by rw[hr,ha,hc]⟩
theorem iz (d:Nat)(xs:List AV)(g:G):aO C0 d N.aI xs g=fA d xs g:=by kernel_rfl
def CloneR (b:Nat)(l:List Int)(u:AV)(g:G):Prop:=(l=[]/\u=.nils)\/∃id lo,b<=id/\id<g.nx/\u=.hsl id 0 0 l.length none/\g.h.get id=.cells 1 (l.map ci) 0 lo false/\(0<l.length->lo=true)/\(l.length=0->lo=false)
theorem CloneR.fr {b:Nat}{l:List Int}{u:AV}{g g':G}(h:CloneR b l u g)(f:Fr g g'):CloneR b l u g':=by
 rcases h with h | ⟨id,lo,h1,h2,h3,h4,h5⟩
 ·exact .inl h
 ·exact .inr ⟨id,lo,h1,Nat.lt_of_lt_of_le h2 f.1,h3,by rw[f.2 id h2,h4],h5⟩
theorem rB {g:G}{id:Nat}{x:AV}{l:List Int}{K:AV->G->Prop}{D:ADf->Prop}(hx:ax g.h 1 x=some (l.map ci))(h3:g.h.get id=.cells 1 [] 0 false false)(hid:id<g.nx)(hr:l.length<=1000)
  (k:∀u g',CloneR id l u g'->Fr g g'->K u g'):(dH 1 8 (.hsl id 0 0 0 none) x g).sat K g D:=by
 unfold dH
 rw[hx]
 cases l with
 | nil =>
  simp only[aW,G.get_eq,h3,am,aa,Nat.beq_refl,Bool.true_and,Nat.ble_eq,Bool.and_eq_true,List.map_nil,List.length_nil]
  rw[if_pos ⟨by simp,by simp⟩,if_pos (by simp)]
  exact k _ _ (.inr ⟨id,false,Nat.le_refl _,hid,rfl,by simpa using h3,by simp,by simp⟩) (Fr.refl g)
 | cons y l =>
  simp only[aW,G.get_eq,h3,am,aa,Nat.beq_refl,Bool.true_and,Nat.ble_eq,Bool.and_eq_true,List.map_cons,List.length_cons,List.length_nil,List.length_map,Nat.zero_add,Option.getD_none,Nat.sub_zero]
  rw[if_pos ⟨by omega,by unfold bF;simp at hr;omega⟩,if_neg (by omega),if_pos (by rfl)]
  refine k _ _ (.inr ⟨g.nx,true,by omega,by simp,by simp,?_,by simp,by simp⟩) (Fr.new g _)
  simp[bh,aP,aQ]
theorem yv {d:Nat}{g:G}{l:List Int}{v:AV}{K:AV->G->Prop}{D:ADf->Prop}(hv:SlR NoP 0 .nil l v)(hl2:l.length<=1000)(kk:∀u g',CloneR g.nx l u g'->Fr g g'->K u g') :
  (aO C0 d N.aB [v] g).sat K g D:=by
 rw[iE]
 refine AA (K':=fun u g''=>CloneR g.nx l u g'') (D2:=fun _=>True) ?_ ?_ fun v g'' g' hv hf hn hg _=>kk v g' ?_ hf
 ·rw[List.flatMap_cons,Dc (hv.tree (h':=g.h) (Nat.le_refl 0))];rfl
 ·refine B1 iY (by simp[bT]) ?_
  by_cases hn:v=.nils
  ·subst hn
   have hl:l=[]:=by
    have h:=hv.2
    unfold SlV at h
    exact h
   have hne:AX false .slice .nils .nils=.val (.bool true):=rfl
   simp only[sz,simprocAttr,bT,hne]
   exact .inl ⟨hl,rfl⟩
  ·have hne:AX false .slice v .nils=.val (.bool false):=by
    have h:=hv.2
    unfold SlV at h
    split at h
    ·exact absurd rfl hn
    ·rfl
    ·rfl
    ·exact h.1.elim
    ·exact h.elim
   simp only[sz,simprocAttr,bT,hne]
   refine rB (l:=l) ((hv.tree (Nat.le_refl _)).ints) (by simp[H.get_put]) (by simp) hl2 fun u g1 hu f1=>?_
   simp only[sz,simprocAttr]
   exact hu
 ·rcases hv with h | ⟨id,lo,h1,h2,h3,h4,h5⟩
  ·exact .inl h
  ·exact .inr ⟨id,lo,h1,by omega,h3,by rw[hg id (by rw[h4];simp),h4],h5⟩
theorem kw (ps:List Int)(k:Nat)(v:Int)(hk:k<=ps.length):(S.aq ps k v).length=ps.length+1:=by simp[S.aq];omega
theorem vg {d b p id2 ep2:Nat}{g:G}{l:List Int}{u:AV}{x:Int}{lim:Option Nat}{lo fz:Bool}(hu:CloneR b l u g)(hl:l.length<=1000)(hp:p<=l.length)(h2:g.h.get id2=.cells 1 [ci x] ep2 lo fz)(hne:∀i,vid u=some i->i≠id2)(hb:b<=g.nx) :
  ∃w g',aO C0 d N.aI [u,.int .i64 (p:Int),.hsl id2 ep2 0 1 lim] g=.upd w g'/\Own g' b w 1 ((S.aq l p x).map ci)/\g.nx<=g'.nx/\(∀i,i<g.nx->vid u≠some i->g'.h.get i=g.h.get i):=by
 rw[iz]
 have e0:fA d [u,.int .i64 (p:Int),.hsl id2 ep2 0 1 lim] g=nT id2 p u [ci x] g:=by
  show (match g.get id2 with
   | .cells sz2 vrows ep2' _ _=>af ((((Nat.beq sz2 1&&Nat.beq ep2 ep2')&&Nat.beq 0 0)&&Nat.beq 1 (aV vrows))&&Nat.ble 1 1) (nT id2 p u vrows g) .fail
   | _=>.fail)=_
  rw[G.get_eq,h2]
  dsimp only
  rw[aa,if_pos]
  simp[am]
 rw[e0]
 have hnew:p=0->l=[]->∃w g',iX p [ci x] g=.upd w g'/\Own g' b w 1 ((S.aq l p x).map ci)/\g.nx<=g'.nx/\(∀i,i<g.nx->vid u≠some i->g'.h.get i=g.h.get i):=fun h1 h2=>by
  subst h1;subst h2
  refine ⟨.hsl g.nx 0 0 1 none,g.new (.cells 1 [ci x] 0 true false),?_,.inr ⟨g.nx,0,true,hb,by simp,rfl,by simp[bh,S.aq]⟩,by simp,fun i hi _=>?_⟩
  ·unfold iX
   rw[aa,if_pos]
   ·rfl
   ·simp[am]
  ·rw[G.new_h,bw _ _ _ (by omega)]
 rcases hu with ⟨rfl,rfl⟩ | ⟨id,lo2,h3,h4,rfl,h5,h6,h7⟩
 ·exact hnew (by simpa using hp) rfl
 ·cases l with
  | nil =>
   have e1:nT id2 p (.hsl id 0 0 ([]:List Int).length none) [ci x] g=iX p [ci x] g:=by
    rw[h7 rfl] at h5
    simp only[nT,G.get_eq,h5,List.map_nil]
    rw[aa,if_pos]
    simp
   rw[e1]
   exact hnew (by simpa using hp) rfl
  | cons y l =>
   rw[h6 (by simp)] at h5
   have hid:=hne id rfl
   have e1:nT id2 p (.hsl id 0 0 (y::l).length none) [ci x] g=.upd (.hsl id 1 0 ((y::l).length+1) none) (g.put id (.cells 1 ((S.aq (y::l) p x).map ci) 1 true false)):=by
    simp only[nT,G.get_eq,h5,List.map_cons]
    rw[aa,if_pos]
    ·simp[am,aP,aQ,S.aq]
    ·rw[show Nat.beq 1 1=true from rfl]
     have hb1:Nat.beq id id2=false:=by
      rw[<-Bool.not_eq_true,Nat.beq_eq];exact hid
     simp only[hb1,eD,am,Nat.beq_refl,Bool.and_eq_true,Nat.ble_eq,List.length_cons,List.length_map,List.length_nil,true_and,and_true]
     simp at hp hl
     (repeat' apply And.intro)<;>first | omega | (simp;done)
   rw[e1]
   refine ⟨_,_,rfl,.inr ⟨id,1,true,h3,by simpa using h4,?_,by simp[bh]⟩,by simp,fun i hi hv=>?_⟩
   ·rw[List.length_map,kw _ _ _ hp]
   ·rw[G.put_h,bw _ _ _ (fun e=>hv (by rw[e];rfl))]
structure FacH (bx nd:List AV) (w u:AV) (vars cards:List Int) (beh:Int) (q:Nat) (g:G):Prop where
 h0:g.h.get 0=.cells 5 [bx] 0 false false
 h1:g.h.get 1=.cells 3 [[.nils,.nils,.nils]] 0 false false
 h2:g.h.get 2=.cells 3 [nd] 0 false false
 h8:g.h.get q=.cells 3 [[w,u,.nils]] 0 false false
 h9:g.h.get (q+1)=.cells 1 [[.int .i64 beh]] 0 false false
 hw:Own g 3 w 1 (vars.map ci)
 hu:Own g (q+2) u 1 (cards.map ci)
 wq:∀i,vid w=some i->i<q
 q3:3<=q
 qn:q+2<=g.nx
def iA (q:Nat):List (Nat×AV):=[(2,.hptr 0 0 0 0),(4,.hptr 1 0 0 0),(5,.hptr 2 0 0 0),(8,.hptr q 0 0 0),(9,.hptr (q+1) 0 0 0)]
structure FacJ (gr:Int) (b cv sv oz:AV) (nd:List AV) (w:AV) (cs vars:List Int) (pl q j:Nat) (t:T) (g:G):Prop where
 st:St t ((38,w)::(6,.int .i64 (pl:Int))::iA q)
 hp:∃u,FacH [.int .i64 gr,b,cv,sv,oz] nd w u vars (S.ae cs (vars.take j)) (S.af (S.ae cs ((vars.take j).drop (pl+1)))) q g
theorem oS {l:List Int}{j k:Nat}{p:Int}(hp:l.take (j+1)=l.take j++[p])(hj:j<l.length)(h:k<j):(l.take (j+1)).drop (k+1)=(l.take j).drop (k+1)++[p]:=by
 rw[hp,List.drop_append_of_le_length (by simp;omega)]
theorem oC {l:List Int}{j k:Nat}(h:j<=k):(l.take (j+1)).drop (k+1)=(l.take j).drop (k+1):=by
 rw[List.drop_of_length_le (by simp;omega),List.drop_of_length_le (by simp;omega)]
theorem Df {d pl q:Nat}{gr:Int}{b cv sv oz w:AV}{nd:List AV}{cs vars:List Int}{Q:QT}{t:T}{g:G}(rc:∀h,ax h 1 cv=some (cs.map ci))(hvl:vars.length<=16)(hvp:∀p∈vars,0<=p/\p<cs.length)(hcb:∀c∈cs,1<=c/\c<=4)(hpl:pl<=1000)
  (h0:FacJ gr b cv sv oz nd w cs vars pl q 0 t g) (h40:tat t 40=.int .i64 0) (h39:tat t 39=.int .i64 (vars.length:Int))
  (fin:∀t g,FacJ gr b cv sv oz nd w cs vars pl q vars.length t g->Q (.exit 0) t [] g):wpL (wp C0 d none cg) Q t [] g:=by
 simp only[cg,dV]
 refine a7 (m:=vars.length) (by omega) (fun j t df g=>df=[]/\FacJ gr b cv sv oz nd w cs vars pl q j t g) ⟨rfl,h0⟩ h40 h39 (by decide)
  (by rintro j t df g v s (rfl | rfl | rfl) ⟨a1,⟨b1,b2,b3,b4,b5,b6,b7,-⟩,c1⟩<;>exact ⟨a1,by simp[St,iA,sx,b1,b2,b3,b4,b5,b6,b7],c1⟩) ?_ ?_
 ·rintro j t df g hj ⟨rfl,⟨h38,h6,h2,h4,h5,h8,h9,-⟩,u,hp⟩ h40 h39
  obtain ⟨p,hpj,htk,hpm⟩:=aG hj
  obtain ⟨hp0,hpc⟩:=hvp p hpm
  obtain ⟨pn,rfl⟩:=Int.eq_ofNat_of_zero_le hp0
  have hpn:pn<cs.length:=by omega
  have hcp:cs[pn]?=some cs[pn]:=List.getElem?_eq_getElem hpn
  have hcb1:=hcb _ (List.getElem_mem hpn)
  generalize cs[pn]=c at hcp hcb1
  have u1:j<(vars.map ci).length:=by simpa using hj
  have u2:(vars.map ci)[j]?=some (ci (pn:Int)):=by rw[List.getElem?_map,hpj];rfl
  have u3:pn<(cs.map ci).length:=by simpa using hpn
  have u4:(cs.map ci)[pn]?=some (ci c):=by rw[List.getElem?_map,hcp];rfl
  have rw_:=hp.hw.rows
  have q3:=hp.q3
  have qn:=hp.qn
  have epc:S.ae cs (vars.take (j+1))=S.ae cs (vars.take j)++[c]:=by rw[htk,bH];simp[S.ae,hcp]
  have hle:(S.ae cs (vars.take j)).length<=16:=by simp[S.ae];omega
  have nq1:¬q=q+1:=by omega
  have nq2:¬q+1=q:=by omega
  refine bV (P:=fun t' df g'=>df=[]/\g'=g/\St t' ((40,.int .i64 (j:Int))::(39,.int .i64 (vars.length:Int))::(10,.int .i64 (j:Int))::(11,.int .i64 (pn:Int))::(38,w)::(6,.int .i64 (pl:Int))::iA q)) ?_ ?_
  ·simp only[sz,simprocAttr,h38,h40,rw_,u1,u2,ci]
   simp[St,iA,sx,h38,h6,h2,h4,h5,h8,h9,h40,h39]
  clear h38 h6 h2 h4 h5 h8 h9 h40 h39
  rintro t df g1 ⟨rfl,rfl,⟨h40,h39,h10,h11,h38,h6,h2,h4,h5,h8,h9,-⟩⟩
  refine kV (P:=fun t' df g'=>df=[]/\St t' ((40,.int .i64 (j:Int))::(39,.int .i64 (vars.length:Int))::(10,.int .i64 (j:Int))::(11,.int .i64 (pn:Int))::(38,w)::(6,.int .i64 (pl:Int))::iA q) /\
   ∃u,FacH [.int .i64 gr,b,cv,sv,oz] nd w u vars (S.ae cs (vars.take (j+1))) (S.af (S.ae cs ((vars.take j).drop (pl+1)))) q g') ?_ ?_
  ·simp only[sz,simprocAttr,sf,h8,h2,h11,hp.h8,hp.h0,rc,u3,u4,ci]
   refine uN (b:=q+2) (rows:=(S.ae cs (vars.take j)).map ci) (new:=[[.int .i64 c]]) (hp.hu.fr (by simp;omega) fun i hi=>?_) (by simp[sx,sy]) (by simp;omega) (by unfold bF;simp;omega) fun u' ga hu' n1 f1 vid1 lg1=>?_
   ·have:=(hp.hu.lt hi).2
    simp[H.get_put];omega
   simp only[sx,sy] at n1 f1 vid1 lg1
   have hq8:ga.h.get q=.cells 3 [[w,u,.nils]] 0 false false:=by
    rw[f1 q (by omega) (fun e=>by have:=(hp.hu.lt e).1;omega),if_neg (by omega),hp.h8]
   simp only[sz,simprocAttr,sf,h8,hq8,hu'.cell.1,hu'.cell.2]
   refine ⟨?_,?_,u',?_⟩
   ·simp only[List.reverse_cons,List.reverse_nil,List.nil_append,List.cons_append]
    refine dh [false,false,false,false,false,false,false,true,true,false,true] [(0,7),(1,7)] (by simp[All2,an,aH]) (by decide) ?_
    rintro p hp' x y hx hy
    simp only[List.mem_cons,List.not_mem_nil,or_false] at hp'
    rcases hp' with rfl | rfl<;>(simp at hx hy;subst hx;subst hy;refine mO rfl rfl rfl rfl ?_ ?_ ?_<;>simp[an,aH,ae]<;>omega)
   ·simp[St,iA,sx,h38,h6,h2,h4,h5,h8,h9,h40,h39,h10,h11]
   ·have keep:∀i,i<q+2->i≠q->(ga.h.put q (.cells 3 [[w,u',.nils]] 0 false false)).get i=g1.h.get i:=fun i hi hne=>by
     simp only[H.get_put,if_neg hne]
     rw[f1 i (by omega) (fun e=>by have:=(hp.hu.lt e).1;omega),if_neg (by omega)]
    refine ⟨(keep 0 (by omega) (by omega)).trans hp.h0,(keep 1 (by omega) (by omega)).trans hp.h1,(keep 2 (by omega) (by omega)).trans hp.h2,by simp[H.get_put],(keep (q+1) (by omega) (by omega)).trans hp.h9,hp.hw.fr (by simp;omega) fun i hi=>keep i (by have:=hp.wq i hi;omega) (by have:=hp.wq i hi;omega),?_,hp.wq,q3,by simp;omega⟩
    rw[epc,List.map_append]
    exact hu'.fr (by simp;omega) fun i hi=>by have:=(hu'.lt hi).1;simp[H.get_put,show ¬i=q by omega]
  clear hp qn rw_ h40 h39 h10 h11 h38 h6 h2 h4 h5 h8 h9
  rintro t df g ⟨rfl,⟨h40,h39,h10,h11,h38,h6,h2,h4,h5,h8,h9,-⟩,u,hp⟩
  by_cases hk:pl<j
  ·have hk':(pl:Int)<(j:Int):=by omega
   have ed:S.af (S.ae cs ((vars.take (j+1)).drop (pl+1)))=S.af (S.ae cs ((vars.take j).drop (pl+1)))*c:=by
    rw[oS htk hj hk,bH,iO]
    simp[S.ae,hcp,S.af]
   have hpb:=cE (l:=S.ae cs ((vars.take (j+1)).drop (pl+1))) (aY hcb fun p hp=>hvp p (List.mem_of_mem_take (List.mem_of_mem_drop hp)))
   have hp4:=fe (a:=(S.ae cs ((vars.take (j+1)).drop (pl+1))).length) (b:=16) (by simp[S.ae];omega)
   have h48:(4:Int) ^ 16=4294967296:=by decide
   have w1:IntKind.wrap .i64 (S.af (S.ae cs ((vars.take j).drop (pl+1)))*c)=S.af (S.ae cs ((vars.take (j+1)).drop (pl+1))):=by rw[<-ed,bc (by omega) (by omega)]
   simp only[sz,simprocAttr,sf,h10,h6,hk',h9,hp.h9,h2,hp.h0,h11,rc,u3,u4,ci,w1]
   refine ⟨?_,⟨?_,u,?_⟩,h40,h39⟩
   ·simp only[List.reverse_cons,List.reverse_nil,List.nil_append,List.cons_append]
    exact dh [false,false,false,false,false,false,false,true] [] (by simp[All2,an,aH]) (by decide) (by simp)
   ·simp[St,iA,sx,h38,h6,h2,h4,h5,h8,h9]
   ·have qn:=hp.qn
    have keep:∀i,i≠q+1->(g.h.put (q+1) (.cells 1 [[.int .i64 (S.af (S.ae cs ((vars.take (j+1)).drop (pl+1))))]] 0 false false)).get i=g.h.get i:=fun i hne=>by
     simp only[H.get_put,if_neg hne]
    exact ⟨(keep 0 (by omega)).trans hp.h0,(keep 1 (by omega)).trans hp.h1,(keep 2 (by omega)).trans hp.h2,(keep q (by omega)).trans hp.h8,by simp[H.get_put],hp.hw.fr (by simp;omega) fun i hi=>keep i (by have:=hp.wq i hi;omega),hp.hu.fr (by simp;omega) fun i hi=>keep i (by have:=(hp.hu.lt hi).1;omega),hp.wq,q3,by simp;omega⟩
  ·have hk':¬((pl:Int)<(j:Int)):=by omega
   have ed:(vars.take (j+1)).drop (pl+1)=(vars.take j).drop (pl+1):=oC (by omega)
   simp only[sz,simprocAttr,h10,h6,hk']
   refine ⟨⟨by simp[St,iA,sx,h38,h6,h2,h4,h5,h8,h9],u,?_⟩,h40,h39⟩
   rw[ed]
   exact hp
 ·rintro t df g ⟨rfl,h⟩
  exact fin t g h
def GH (h:H)(n:Nat):G:=⟨h,n,[]⟩
@[simp] theorem GH_h (h:H) (n:Nat):(GH h n).h=h:=rfl
@[simp] theorem GH_nx (h:H) (n:Nat):(GH h n).nx=n:=rfl
theorem Own.gh {g:G}{b sz i:Nat}{v:AV}{rows:List (List AV)}(h:Own g b v sz rows)(hv:vid v=some i):Own (GH g.h (i+1)) b v sz rows:=by
 rcases h with h | ⟨id,ep,lo,h1,h2,rfl,h3⟩
 ·exact .inl h
 ·injection hv with hv
  subst hv
  exact .inr ⟨id,ep,lo,h1,by simp,rfl,h3⟩
structure FacG (g0:G) (iw:Nat) (W:AV) (rws:List (List Int)) (B C t:Nat) (h:H):Prop where
 fr:∀i,i<g0.nx->i≠iw->h.get i=g0.h.get i
 ow:Own (GH h (iw+1)) 3 W 1 ((S.aA rws B C t).map ci)
theorem FacG.up {g0:G}{iw:Nat}{W:AV}{rws:List (List Int)}{B C t:Nat}{h h':H}(hf:FacG g0 iw W rws B C t h)(hv:vid W=some iw)(hi:iw<g0.nx)(hh:∀i,i<g0.nx->h'.get i=h.get i):FacG g0 iw W rws B C t h' :=
 ⟨fun i h1 h2=>by rw[hh i h1,hf.fr i h1 h2],hf.ow.fr (by simp) fun i h=>by rw[hv] at h;injection h with h;subst h;exact hh _ hi⟩
structure FacI (g0 g2:G) (iw:Nat) (W z:AV) (r:List Int) (rws:List (List Int)) (B C q j i:Nat) (t:T) (g:G):Prop where
 st:St t ((78,z)::(12,.int .i64 (j:Int))::iA q)
 hp:FacG g0 iw W rws B C (j*C+i) g.h
 nx:g2.nx<=g.nx
 fr:∀i,g0.nx<=i->i<g2.nx->g.h.get i=g2.h.get i
theorem Di {d A B C q j iw:Nat}{w u W z:AV}{r:List Int}{rws:List (List Int)}{pa ra:AV}{rd:Option Nat}{Q:QT}{t:T}{g g0 g2:G}(hz:SlR NoP 0 .nil r z)(hr:rws[j]?=some r)(hrl:r.length=C)(hB:0<B)(hA:rws.length=A*B)(hsz:rws.length*C<=1000000)
  (e8:g0.h.get q=.cells 3 [[w,u,W]] 0 false false) (e2:g0.h.get 2=.cells 3 [[.int .i64 (C:Int),pa,ra]] 0 false false) (e9:g0.h.get (q+1)=.cells 1 [[.int .i64 (B:Int)]] 0 false false) (hq:q+1<g0.nx) (hq3:3<=q) (hiw:iw<g0.nx) (hvw:vid W=some iw) (hiq:q+1<iw) (hg2:g0.nx<=g2.nx)
  (h0:FacI g0 g2 iw W z r rws B C q j 0 t g) (h80:tat t 80=.int .i64 0) (h79:tat t 79=.int .i64 (r.length:Int))
  (fin:∀t g,FacI g0 g2 iw W z r rws B C q j r.length t g->Q (.exit 4) t [] g):wpL (wp C0 d rd cy) Q t [] g:=by
 simp only[cy]
 refine a7 (m:=r.length) hz.1 (fun i t df g=>df=[]/\FacI g0 g2 iw W z r rws B C q j i t g) ⟨rfl,h0⟩ h80 h79 (by decide)
  (by rintro j t df g v s (rfl | rfl | rfl) ⟨a1,⟨b1,b2,b3,b4,b5,b6,b7,-⟩,c1,c2,c3⟩<;>exact ⟨a1,by simp[St,iA,sx,b1,b2,b3,b4,b5,b6,b7],c1,c2,c3⟩) ?_ ?_
 ·rintro i t df g hi ⟨rfl,⟨h78,h12,h2,h4,h5,h8,h9,-⟩,hp,hnx,hfr⟩ h80 h79
  obtain ⟨x,hx,-,-⟩:=aG hi
  have rz:=fun h=>(hz.tree (h':=h) (Nat.le_refl 0)).ints
  have u1:i<(r.map ci).length:=by simpa using hi
  have u2:(r.map ci)[i]?=some (ci x):=by rw[List.getElem?_map,hx];rfl
  have hj:=(List.getElem?_eq_some_iff.1 hr).1
  have hiC:i<C:=by omega
  have hpl:=rZ (A:=A) (b:=B) (card:=C) (i:=j) (x:=i) hB (by omega) hiC
  rw[<-hA] at hpl
  have hst:=yq (b:=B) (card:=C) (A:=A) (i:=j) (x:=i) hB hA hr hiC hx
  have k8:g.h.get q=.cells 3 [[w,u,W]] 0 false false:=by rw[hp.fr q (by omega) (by omega),e8]
  have k2:g.h.get 2=.cells 3 [[.int .i64 (C:Int),pa,ra]] 0 false false:=by rw[hp.fr 2 (by omega) (by omega),e2]
  have k9:g.h.get (q+1)=.cells 1 [[.int .i64 (B:Int)]] 0 false false:=by rw[hp.fr (q+1) (by omega) (by omega),e9]
  have hwr:=hp.ow.rows
  rw[GH_h] at hwr
  have hjl:j<1000001:=by
   have:rws.length*1<=rws.length*C:=Nat.mul_le_mul_left _ (by omega)
   omega
  have q1:=Ca (x:=j) (y:=B) (by omega) hB
  have q2:=Cu (x:=j) (y:=B) hB
  have l1:j / B*C<=S.au B C j i:=by
   unfold S.au
   have:(j / B*C+i)*1<=(j / B*C+i)*B:=Nat.mul_le_mul_left _ hB
   omega
  have l2:(j / B*C+i)<=S.au B C j i:=by
   unfold S.au
   have:(j / B*C+i)*1<=(j / B*C+i)*B:=Nat.mul_le_mul_left _ hB
   omega
  have l3:(j / B*C+i)*B<=S.au B C j i:=by unfold S.au;omega
  have w1:IntKind.wrap .i64 (((j / B:Nat):Int)*(C:Int))=((j / B*C:Nat):Int):=by
   rw[<-Int.natCast_mul,bc (by omega) (by omega)]
  have w2:IntKind.wrap .i64 (((j / B*C:Nat):Int)+(i:Int))=((j / B*C+i:Nat):Int):=by
   rw[bc (by omega) (by omega)];simp
  have w3:IntKind.wrap .i64 (((j / B*C+i:Nat):Int)*(B:Int))=(((j / B*C+i)*B:Nat):Int):=by
   rw[<-Int.natCast_mul,bc (by omega) (by omega)]
  have w4:IntKind.wrap .i64 ((((j / B*C+i)*B:Nat):Int)+((j % B:Nat):Int))=((S.au B C j i:Nat):Int):=by
   rw[<-Int.natCast_add]
   show IntKind.wrap .i64 ((S.au B C j i:Nat):Int)=_
   rw[bc (by omega) (by omega)]
  have hfl:=tV rws B C (j*C+i)
  have u3:S.au B C j i<((S.aA rws B C (j*C+i)).map ci).length:=by rw[List.length_map,hfl];exact hpl
  have u4:((S.aA rws B C (j*C+i)).map ci)[S.au B C j i]?=some (((S.aA rws B C (j*C+i)).map ci)[S.au B C j i]):=List.getElem?_eq_getElem u3
  have hone:∃y:Int,((S.aA rws B C (j*C+i)).map ci)[S.au B C j i]=ci y:=⟨_,List.getElem_map ..⟩
  obtain ⟨y,hy⟩:=hone
  rw[hy] at u4
  have hge:g0.nx<=g.nx:=by omega
  refine bV (P:=fun t' df g'=>df=[]/\g'=g/\St t' ((80,.int .i64 (i:Int))::(79,.int .i64 (r.length:Int))::(14,.int .i64 (i:Int))::(15,.int .i64 x)::(78,z)::(12,.int .i64 (j:Int))::iA q)) ?_ ?_
  ·simp only[sz,simprocAttr,h78,h80,rz,u1,u2,ci]
   simp[St,iA,sx,h78,h12,h2,h4,h5,h8,h9,h80,h79]
  clear h78 h12 h2 h4 h5 h8 h9 h80 h79
  rintro t df g1 ⟨rfl,rfl,⟨h80,h79,h14,h15,h78,h12,h2,h4,h5,h8,h9,-⟩⟩
  simp only[sz,simprocAttr,sf,h8,h12,h9,h5,h14,h15,k8,k2,k9,q1,q2,w1,w2,w3,w4,hwr,u3]
  refine dR (v:=W) (sz:=1) (n:=1) (i:=S.au B C j i) (off:=0) (x:=.int .i64 x) (row':=ci x) ((hp.ow.fr (g':=g1) (by simp;omega) fun i _=>rfl).fr (by simp;omega) fun i _=>by simp) u4 rfl rfl rfl fun g4 hu4 n4 f4=>?_
  rw[<-List.map_set,hst] at hu4
  have f4':∀i,i≠iw->g4.h.get i=g1.h.get i:=fun i hi=>by rw[f4 i (by rw[hvw];intro e;injection e with e;exact hi e.symm)];simp
  have n4':g1.nx<=g4.nx:=by rw[n4];simp;omega
  simp only[sx,sy,↓reduceIte,Nat.reduceEqDiff]
  refine ⟨?_,⟨?_,⟨fun i h1 h2=>?_,?_⟩,?_,fun i h1 h2=>?_⟩,h80,h79⟩
  ·simp only[List.reverse_cons,List.reverse_nil,List.nil_append,List.cons_append]
   exact dh [false,false,false,false,false,false,false,false,false,false,false,false,false,false,false,false,false,false,true] [] (by simp[All2,an,aH]) (by decide) (by simp)
  ·simp[St,iA,sx,h78,h12,h2,h4,h5,h8,h9]
  ·simp only[bumpG_h]
   rw[f4' i h2,hp.fr i h1 h2]
  ·exact hu4.gh hvw
  ·simp;omega
  ·simp only[bumpG_h]
   rw[f4' i (by omega),hfr i h1 h2]
 ·rintro t df g ⟨rfl,h⟩
  exact fin t g h
theorem zL {d A B C q iw:Nat}{w u W pa ra pa' ra':AV}{rws:List (List Int)}{Q:QT}{t:T}{g0:G}(hra:SlR NoP 0 .nil rws ra')(hrl:∀r∈rws,r.length=C)(hB:0<B)(hA:rws.length=A*B)(hsz:rws.length*C<=1000000)
  (h75:tat t 75=.clo N.ae [] [.tptr 0 3 [[.int .i64 (C:Int),pa',ra']] 0 0])
  (e8:g0.h.get q=.cells 3 [[w,u,W]] 0 false false) (e2:g0.h.get 2=.cells 3 [[.int .i64 (C:Int),pa,ra]] 0 false false) (e9:g0.h.get (q+1)=.cells 1 [[.int .i64 (B:Int)]] 0 false false) (hq:q+1<g0.nx) (hq3:3<=q) (hiw:iw<g0.nx) (hvw:vid W=some iw) (hiq:q+1<iw)
  (ht:St t (iA q)) (hW:Own g0 3 W 1 ((List.replicate (rws.length*C) (0:Int)).map ci))
  (fin:∀g',FacG g0 iw W rws B C (rws.length*C) g'.h->g0.nx+2<=g'.nx->g'.h.get g0.nx=.dfr true->Q .norm t [.mark g0.nx] g') :
  wp C0 d none (.rng 105 (.t 75) [76,77] b_ ct) Q t [] g0:=by
 obtain ⟨h2,h4,h5,h8,h9,-⟩:=ht
 refine tk (c:=(C:Int)) (pa:=pa') hra h75 (by decide) (by decide) (fun j h=>FacG g0 iw W rws B C (j*C) h) (fun _=>False) ?_ ?_ ?_ ?_ fin ?_
 ·intro j h h' hh hf
  exact hf.up hvw hiw hh
 ·intro h h' _ hf
  exact hf
 ·refine ⟨fun i _ _=>rfl,?_⟩
  rw[Nat.zero_mul,x8]
  exact hW.gh hvw
 ·intro j r z g1 hr hz hf hn
  have hrm:=hrl r (List.mem_of_getElem? hr)
  simp only[sz,simprocAttr,b_]
  intro g2 hg2n hg2
  have hf2:FacG g0 iw W rws B C (j*C) g2.h:=hf.up hvw hiw fun i hi=>hg2 i (by omega)
  simp only[sz,simprocAttr,ct,hz.len]
  refine Di (g2:=g2) (A:=A) (q:=q) (iw:=iw) (w:=w) (u:=u) (W:=W) (z:=z) (r:=r) (rws:=rws) hz hr hrm hB hA hsz e8 e2 e9 hq hq3 hiw hvw hiq (by omega) ⟨by simp[St,iA,sx,h2,h4,h5,h8,h9],by simpa using hf2,Nat.le_refl _,fun _ _ _=>rfl⟩ (by simp[sx]) (by simp[sx]) ?_
  rintro t g ⟨-,hp,hnx,hfr⟩
  simp only[sx,sy,↓reduceIte]
  refine ⟨hnx,hfr,.inl ⟨rfl,?_⟩⟩
  rw[hrm,show j*C+C=(j+1)*C by rw[Nat.add_mul,Nat.one_mul]] at hp
  exact hp
 ·intro g' hf
  exact hf.elim
def S.aG (n:Net)(i:Nat)(x:Node)(p:Nat):Factor:=⟨S.aq x.parents p (i:Int),S.ae (S.aa n) (S.aq x.parents p (i:Int)),S.a_ x.rows (S.af (S.ae (S.aa n) (x.parents.drop p))).toNat x.card.toNat⟩
def El (n:Net)(i:Nat)(x:Node):VS:=fun P k h v=>∃p:Nat,p<=x.parents.length/\Agg (S.aG n i x p) P k h v
theorem vy {ps:List Int}{k:Nat}{v:Int}(hk:k<=ps.length):(S.aq ps k v).drop (k+1)=ps.drop k:=by
 have h1:S.aq ps k v=(ps.take k++[v])++ps.drop k:=by simp[S.aq]
 rw[h1,List.drop_left' (by simp;omega)]
theorem Own.low {g:G}{b b':Nat}{v:AV}{sz:Nat}{rows:List (List AV)}(h:Own g b v sz rows)(hb:b'<=b):Own g b' v sz rows:=by
 rcases h with h | ⟨id,ep,lo,h1,h2⟩
 ·exact .inl h
 ·exact .inr ⟨id,ep,lo,by omega,h2⟩
theorem Ar {w:AV}(h:w.cells=[w])(h2:w.isTup=false):eG [.nils,.nils,.nils] [((0,1),w)]=some [w,.nils,.nils]:=by
 simp[eG,h,h2,fK]
 rfl
theorem x3 {d i:Nat}{g:G}{v:AV}{n:Net}{x:Node}{o:List Int}(hd:0<d)(hr:NR n)(hm:Agg ((n,S.aa n,S.ak n,o):NwM) NoP 0 g.h v)(hx:n.nodes[i]?=some x) :
  ∃r,aO C0 d N.aG [v,.int .i64 (i:Int)] g=.val r/\El n i x NoP 0 .nil r:=by
 have e0:=gZ d hm
 obtain ⟨cs,rfl,hc⟩:=hm
 obtain ⟨b,cv,sv,oz,rfl,hN,hcv,-,-⟩:=nI.1 hc
 have hN:SlR NoP 0 .nil n.nodes b:=hN.tree (h':=.nil) (Nat.le_refl 0)
 have hcv:SlR NoP 0 .nil (S.aa n) cv:=hcv.tree (h':=.nil) (Nat.le_refl 0)
 obtain ⟨rows,r1,r2,r3,r4⟩:=hN.all
 obtain ⟨row,q1,q2⟩:=r3 i x hx
 obtain ⟨pa,ra,rfl,hpa,hra⟩:=eR.1 q2
 have hxm:=List.mem_of_getElem? hx
 have hil:=(List.getElem?_eq_some_iff.1 hx).1
 have hl8:=hr.l2
 have hlt:i<rows.length:=by omega
 have hry:=r4 (by omega)
 have hpl:=iZ (hr.places x hxm) (by omega)
 have hpin:=hr.pin hxm
 have r1:∀h',ax h' 3 b=some rows:=r1
 have rc:=fun h=>(hcv.tree (h':=h) (Nat.le_refl 0)).ints
 rw[iF]
 refine fy jx (xs:=[.agg [.int .i64 n.grain,b,cv,sv,oz],.int .i64 (i:Int)]) (by simp only[aD,e0,ji 0]) (by simp[cX]) (ko fun o=>oe _) (by decide) hd ?_
 simp only[sz,simprocAttr,cX]
 obtain ⟨g0,hg0⟩:∃g0,g0=(G.empty.new (.cells 5 [[.int .i64 n.grain,b,cv,sv,oz]] 0 false false)).new (.cells 3 [[.nils,.nils,.nils]] 0 false false):=⟨_,rfl⟩
 rw[<-hg0]
 have f0:g0.h.get 0=.cells 5 [[.int .i64 n.grain,b,cv,sv,oz]] 0 false false:=by rw[hg0];simp[sx,H.get_put]
 have f1:g0.h.get 1=.cells 3 [[.nils,.nils,.nils]] 0 false false:=by rw[hg0];simp[sx]
 have f2:g0.nx=2:=by rw[hg0];simp[sx]
 clear hg0
 simp only[ew]
 refine kV (P:=fun t' df g'=>df=[]/\g'.nx=3/\g'.h.get 0=.cells 5 [[.int .i64 n.grain,b,cv,sv,oz]] 0 false false/\g'.h.get 1=.cells 3 [[.nils,.nils,.nils]] 0 false false/\g'.h.get 2=.cells 3 [[.int .i64 x.card,pa,ra]] 0 false false/\St t' [(1,.int .i64 (i:Int)),(2,.hptr 0 0 0 0),(4,.hptr 1 0 0 0),(5,.hptr 2 0 0 0)]) ?_ ?_
 ·simp only[sz,simprocAttr,f0,r1,hlt,q1]
  simp[St,sx,f1,f2]
 rintro t df g1 ⟨rfl,n1,k0,k1,k2,h1,h2,h4,h5,-⟩
 obtain ⟨p,sb,hp,es⟩:=yC (d:=d+1) (g:=g1) (x:=(i:Int)) (Nat.succ_pos d) (hpa.tree (Nat.le_refl 0)) (by omega)
 refine kV (P:=fun t' df g'=>df=[]/\g'=g1/\St t' [(1,.int .i64 (i:Int)),(2,.hptr 0 0 0 0),(4,.hptr 1 0 0 0),(5,.hptr 2 0 0 0),(6,.int .i64 (p:Int))]) ?_ ?_
 ·simp only[sz,simprocAttr,h5,h1,k2,es]
  simp[St,sx,h1,h2,h4,h5]
 clear h1 h2 h4 h5
 rintro t df g2 ⟨rfl,rfl,h1,h2,h4,h5,h6,-⟩
 refine kV (P:=fun t' df g'=>df=[]/\∃w q,w.cells=[w]/\FacH [.int .i64 n.grain,b,cv,sv,oz] [.int .i64 x.card,pa,ra] w .nils (S.aq x.parents p (i:Int)) [] 1 q (g'.new (.cells 1 [[.int .i64 1]] 0 false false))/\g'.nx=q+1/\St t' [(2,.hptr 0 0 0 0),(4,.hptr 1 0 0 0),(5,.hptr 2 0 0 0),(6,.int .i64 (p:Int)),(8,.hptr q 0 0 0)]) ?_ ?_
 ·simp only[sz,simprocAttr,h5,k2]
  refine yv (l:=x.parents) hpa (by omega) fun u ga hu fa=>?_
  simp only[sz,simprocAttr,h6,h1]
  have hun:∀i,vid u=some i->g2.nx<=i/\i<ga.nx:=fun i hi=>by
   rcases hu with ⟨-,rfl⟩ | ⟨id,lo,a1,a2,rfl,-⟩
   ·cases hi
   ·injection hi with hi;subst hi;exact ⟨a1,a2⟩
  have fa1:=fa.1
  obtain ⟨w,g3,e3,hw,n3,f3⟩:=vg (d:=d+1) (b:=g2.nx) (p:=p) (id2:=ga.nx) (ep2:=0) (x:=(i:Int)) (lim:=none) (hu.fr (Fr.new ga (.cells 1 [[.int .i64 (i:Int)]] 0 false false))) (by omega) hp (by simp[H.get_put];exact ⟨rfl,rfl,rfl⟩) (fun j hj=>by have:=hun j hj;omega) (by simp;omega)
  rw[e3]
  simp only[sz,simprocAttr,Ar hw.cell.1 hw.cell.2]
  have n3':ga.nx+1<=g3.nx:=by simpa using n3
  have keep:∀j,j<3->g3.h.get j=g2.h.get j:=fun j hj=>by
   rw[f3 j (by simp;omega) (fun e=>by have:=hun j e;omega),<-fa.2 j (by omega)]
   simp[H.get_put,show ¬j=ga.nx by omega]
  have hwl:∀j,vid w=some j->3<=j/\j<g3.nx:=fun j hj=>by have:=hw.lt hj;omega
  have ne1:∀j,j<g3.nx->¬j=g3.nx/\¬j=g3.nx+1:=fun j hj=>by omega
  refine ⟨w,g3.nx,hw.cell.1,⟨?_,?_,?_,?_,?_,?_,?_,?_,?_,?_⟩,?_,?_⟩
  ·simp[H.get_put,ne1 0 (by omega),keep 0 (by omega),k0,show ¬g3.nx=0 by omega]
  ·simp[H.get_put,ne1 1 (by omega),keep 1 (by omega),k1,show ¬g3.nx=0 by omega]
  ·simp[H.get_put,ne1 2 (by omega),keep 2 (by omega),k2]
  ·simp[H.get_put]
  ·simp[H.get_put]
  ·refine (Own.low hw (b':=3) (by omega)).fr (by simp;omega) fun j hj=>?_
   have:=ne1 j (hwl j hj).2
   simp[H.get_put,this]
  ·exact .inl ⟨rfl,rfl⟩
  ·exact fun j hj=>(hwl j hj).2
  ·omega
  ·simp
  ·simp
  ·simp[St,sx,h2,h4,h5,h6]
 clear h1 h2 h4 h5 h6 es
 rintro t df g3 ⟨rfl,w,q,hwc,hp3,hnq,h2,h4,h5,h6,h8,-⟩
 have hfl:=kw x.parents p (i:Int) hp
 have fa:=hp3.hw.rows
 refine kV (P:=fun t' df g'=>df=[]/\g'=(g3.new (.cells 1 [[.int .i64 0]] 0 false false)).put (q+1) (.cells 1 [[.int .i64 1]] 0 false false)/\St t' ((6,.int .i64 (p:Int))::iA q)) ?_ ?_
 ·simp only[sz,simprocAttr,hnq]
  simp[St,iA,sx,h2,h4,h5,h6,h8]
 clear h2 h4 h5 h6 h8
 rintro t df g4 ⟨rfl,hg4,h6,h2,h4,h5,h8,h9,-⟩
 have hp4:FacH [.int .i64 n.grain,b,cv,sv,oz] [.int .i64 x.card,pa,ra] w .nils (S.aq x.parents p (i:Int)) [] 1 q g4:=by
  have e:∀j,g4.h.get j=(g3.new (.cells 1 [[.int .i64 1]] 0 false false)).h.get j:=fun j=>by
   rw[hg4]
   by_cases hj:j=q+1<;>simp[H.get_put,hnq,hj]
  have en:g4.nx=(g3.new (.cells 1 [[.int .i64 1]] 0 false false)).nx:=by rw[hg4];simp
  exact ⟨by rw[e,hp3.h0],by rw[e,hp3.h1],by rw[e,hp3.h2],by rw[e,hp3.h8],by rw[e,hp3.h9],hp3.hw.fr (by omega) fun j _=>e j,hp3.hu.fr (by omega) fun j _=>e j,hp3.wq,hp3.q3,by rw[en];exact hp3.qn⟩
 clear hg4 hp3
 have hwl:∀g,gM .slice w g=.val (.int .i64 (((S.aq x.parents p (i:Int)).length:Nat):Int)):=fun g=>by
  rcases hp4.hw with ⟨-,e⟩ | ⟨id,ep,lo,-,-,rfl,-⟩
  ·have:((S.aq x.parents p (i:Int)).map ci).length=0:=by rw[e];rfl
   rw[List.length_map] at this;omega
  ·rw[List.length_map];rfl
 simp only[sz,simprocAttr,h8,hp4.h8,hwl]
 refine Df (gr:=n.grain) (b:=b) (cv:=cv) (sv:=sv) (oz:=oz) (nd:=[.int .i64 x.card,pa,ra]) (w:=w) (cs:=S.aa n) (vars:=S.aq x.parents p (i:Int)) (pl:=p) (q:=q) rc (by omega) ?_ hr.cs (by omega) ⟨by simp[St,iA,sx,h2,h4,h5,h6,h8,h9],.nils,by simpa [S.ae,S.af] using hp4⟩ (by simp[sx]) (by simp[sx]) ?_
 ·intro y hy
  simp only[S.aq,List.mem_append,List.mem_cons] at hy
  rcases hy with hy | rfl | hy
  ·exact hpin y (List.mem_of_mem_take hy)
  ·rw[aS];omega
  ·exact hpin y (List.mem_of_mem_drop hy)
 clear h2 h4 h5 h6 h8 h9 hp4
 rintro t g ⟨⟨h38,h6,h2,h4,h5,h8,h9,-⟩,u,hp5⟩
 rw[List.take_length,vy hp] at hp5
 have hcx:=hr.card x hxm
 have hd1:∀c∈S.ae (S.aa n) (x.parents.drop p),1<=c/\c<=4:=aY hr.cs fun p hp=>hpin p (List.mem_of_mem_drop hp)
 have ht1:∀c∈S.ae (S.aa n) (x.parents.take p),1<=c/\c<=4:=aY hr.cs fun p hp=>hpin p (List.mem_of_mem_take hp)
 have er:(x.rows.length:Int)=S.af (S.ae (S.aa n) (x.parents.take p))*S.af (S.ae (S.aa n) (x.parents.drop p)):=by
  rw[hr.rows x hxm]
  conv=>lhs;rw[<-List.take_append_drop p x.parents,bH,iO]
 have hB1:=gu fun c hc=>(hd1 c hc).1
 have hA1:=gu fun c hc=>(ht1 c hc).1
 have hpb:=cE (l:=S.ae (S.aa n) x.parents) (aY hr.cs hpin)
 have hp4:=fe (a:=(S.ae (S.aa n) x.parents).length) (b:=8) (by simp[S.ae];omega)
 have h48:(4:Int) ^ 8=65536:=by decide
 have hrows:=hr.rows x hxm
 obtain ⟨B,hB⟩:=Int.eq_ofNat_of_zero_le (show 0<=S.af (S.ae (S.aa n) (x.parents.drop p)) by omega)
 obtain ⟨A,hA⟩:=Int.eq_ofNat_of_zero_le (show 0<=S.af (S.ae (S.aa n) (x.parents.take p)) by omega)
 obtain ⟨C,hC⟩:=Int.eq_ofNat_of_zero_le (show 0<=x.card by omega)
 have hAB:x.rows.length=A*B:=by
  have:((x.rows.length:Nat):Int)=((A*B:Nat):Int):=by rw[er,Int.natCast_mul,hA,hB]
  omega
 have hsz:x.rows.length*C<=1000000:=by
  have h1:x.rows.length<=65536:=by omega
  have h2:C<=4:=by omega
  have:=Nat.mul_le_mul h1 h2
  omega
 have rl:=fun g=>(hra.tree (h':=g) (Nat.le_refl 0)).len
 have rl:=fun g=>(hra).len g
 have w1:IntKind.wrap .i64 ((x.rows.length:Int)*(C:Int))=((x.rows.length*C:Nat):Int):=by
  rw[<-Int.natCast_mul,bc (by omega) (by omega)]
 rw[hB] at hp5
 simp only[dX,hC] at hp5 ⊢
 obtain ⟨pa',ra',er',hpa',hra'⟩:=oE (d:=d+1) (g:=.empty) (x:=x) (v:=.agg [.int .i64 (C:Int),pa,ra]) (Nat.succ_pos d) ⟨_,rfl,eR.2 ⟨pa,ra,by rw[hC],hpa.tree (Nat.le_refl 0),hra.tree (Nat.le_refl 0)⟩⟩
 have q3:=hp5.q3
 have qn:=hp5.qn
 refine kV (P:=fun t' df g'=>df=[]/\∃W,vid W=some g.nx/\g'.nx=g.nx+1/\(∀i,i<g.nx->i≠q->g'.h.get i=g.h.get i)/\g'.h.get q=.cells 3 [[w,u,W]] 0 false false/\Own g' 3 W 1 ((List.replicate (x.rows.length*C) (0:Int)).map ci)/\St t' (iA q)) ?_ ?_
 ·simp only[sz,simprocAttr,h5,hp5.h2,rl,w1]
  refine sP (b:=3) (n:=x.rows.length*C) (by unfold bF;omega) (by unfold bF;omega) (by omega) fun W g1 hW n1 f1 vW=>?_
  have k8:g1.h.get q=.cells 3 [[w,u,.nils]] 0 false false:=by rw[f1 q (by omega),hp5.h8]
  simp only[sz,simprocAttr,h8,k8,hW.cell.1,hW.cell.2]
  refine ⟨W,vW,by simpa using n1,fun i h1 h2=>?_,by simp[H.get_put],?_,by simp[St,iA,sx,h2,h4,h5,h8,h9]⟩
  ·simp[h2]
   exact f1 i h1
  ·have hW':Own g1 3 W 1 ((List.replicate (x.rows.length*C) (0:Int)).map ci):=by simpa [ci] using hW
   exact hW'.fr (by simp) fun i hi=>by
    have:=eE vW hi
    simp[H.get_put,show ¬i=q by omega]
 clear h38 h6 h2 h4 h5 h8 h9
 rintro t df g1 ⟨rfl,W,vW,n1,f1,k8,hW,h2,h4,h5,h8,h9,-⟩
 have k2:g1.h.get 2=.cells 3 [[.int .i64 (C:Int),pa,ra]] 0 false false:=by rw[f1 2 (by omega) (by omega),hp5.h2]
 have k9:g1.h.get (q+1)=.cells 1 [[.int .i64 (B:Int)]] 0 false false:=by rw[f1 (q+1) (by omega) (by omega),hp5.h9]
 have k1:g1.h.get 1=.cells 3 [[.nils,.nils,.nils]] 0 false false:=by rw[f1 1 (by omega) (by omega),hp5.h1]
 obtain ⟨pa',ra',er',hpa',hra'⟩:=oE (d:=d+1) (g:=g1) (x:=x) (v:=.agg [.int .i64 (C:Int),pa,ra]) (Nat.succ_pos d) ⟨_,rfl,eR.2 ⟨pa,ra,by rw[hC],hpa.tree (Nat.le_refl 0),hra.tree (Nat.le_refl 0)⟩⟩
 rw[hC] at er'
 rw[cM,cM]
 simp only[sz,simprocAttr,h5,k2,er']
 refine zL (A:=A) (B:=B) (C:=C) (q:=q) (iw:=g.nx) (w:=w) (u:=u) (W:=W) (pa:=pa) (ra:=ra) (pa':=pa') hra' (fun r hrm=>by have:=(hr.row x hxm r hrm).1;omega) (by omega) hAB hsz (by simp[sx]) k8 k2 k9 (by omega) q3 (by omega) vW (by omega) (by simp[St,iA,sx,h2,h4,h5,h8,h9]) hW ?_
 intro g' hf hn hdf
 have k8':g'.h.get q=.cells 3 [[w,u,W]] 0 false false:=by rw[hf.fr q (by omega) (by omega),k8]
 have k1':g'.h.get 1=.cells 3 [[.nils,.nils,.nils]] 0 false false:=by rw[hf.fr 1 (by omega) (by omega),k1]
 simp only[sz,simprocAttr,dQ,h8,k8',h4,k1']
 refine mZ (by simp[H.get_put,show ¬g1.nx=1 by omega,hdf]) ?_
 simp only[sx,sy,↓reduceIte,Nat.reduceEqDiff,h4]
 rw[if_neg (by omega)]
 simp only[sx,sy,↓reduceIte,Nat.reduceAdd,Nat.reduceLeDiff]
 have lw:=hp5.hw
 have lu:=hp5.hu
 have lW:=hf.ow
 have hne:∀i,i<g1.nx->i≠1->((g'.h.put 1 (.cells 3 [[w,u,W]] 0 false false)).put g1.nx (.dfr false)).get i=g'.h.get i:=fun i h1 h2=>by
  simp[H.get_put,h2,show ¬i=g1.nx by omega]
 have oW:Own (GH ((g'.h.put 1 (.cells 3 [[w,u,W]] 0 false false)).put g1.nx (.dfr false)) (g.nx+1)) 3 W 1 ((S.aA x.rows B C (x.rows.length*C)).map ci):=lW.fr (by simp) fun i hi=>by
  have:=eE vW hi
  exact hne i (by omega) (by omega)
 have ow:Own (GH ((g'.h.put 1 (.cells 3 [[w,u,W]] 0 false false)).put g1.nx (.dfr false)) (g.nx+1)) 3 w 1 ((S.aq x.parents p (i:Int)).map ci):=lw.fr (by simp) fun j hj=>by
  have:=hp5.wq j hj
  have:=(lw.lt hj).1
  show ((g'.h.put 1 (.cells 3 [[w,u,W]] 0 false false)).put g1.nx (.dfr false)).get j=_
  rw[hne j (by omega) (by omega),hf.fr j (by omega) (by omega),f1 j (by omega) (by omega)]
 have ou:Own (GH ((g'.h.put 1 (.cells 3 [[w,u,W]] 0 false false)).put g1.nx (.dfr false)) (g.nx+1)) (q+2) u 1 ((S.ae (S.aa n) (S.aq x.parents p (i:Int))).map ci):=lu.fr (by simp) fun j hj=>by
  have:=lu.lt hj
  show ((g'.h.put 1 (.cells 3 [[w,u,W]] 0 false false)).put g1.nx (.dfr false)).get j=_
  rw[hne j (by omega) (by omega),hf.fr j (by omega) (by omega),f1 j (by omega) (by omega)]
 have hfw:(S.aA x.rows B C (x.rows.length*C))=S.a_ x.rows (S.af (S.ae (S.aa n) (x.parents.drop p))).toNat x.card.toNat:=by
  rw[hB,hC,Int.toNat_natCast,Int.toNat_natCast]
  exact z9 (A:=A) (by omega) hAB
 refine ⟨fun _=>True,p,hp,_,rfl,iQ.2 ⟨w,u,W,rfl,?_,?_,?_⟩⟩
 ·obtain ⟨_,e1,h⟩:=ow.ints (k:=0) (by omega);injection e1 with e1;subst e1;exact h
 ·obtain ⟨_,e1,h⟩:=ou.ints (k:=0) (by simp[S.ae];omega);injection e1 with e1;subst e1;exact h
 ·rw[hfw] at oW
  obtain ⟨_,e1,h⟩:=oW.ints (k:=0) (by rw[<-hfw,tV];omega);injection e1 with e1;subst e1;exact h
def S.bF (n:Net)(l:List Factor):Prop:=∀(i:Nat) (x:Node),i<l.length->n.nodes[i]?=some x->∃p,p<=x.parents.length/\l[i]?=some (S.aG n i x p)
def Ej (n:Net):VS:=fun P k h v=>∃l:List Factor,((S.aF n=true->l.length=n.nodes.length)/\S.bF n l)/\rK (One l) (One (if S.aF n then (0:Int) else 50)) P k h v
structure FasJ (n:Net) (W b cv sv oz:AV) (j:Nat) (t:T) (g:G):Prop where
 st:St t [(4,.hptr 1 0 0 0),(6,W)]
 hg:g.h.get 1=.cells 5 [[.int .i64 n.grain,b,cv,sv,oz]] 0 false false
 hW:∃(rows:List (List AV)) (l:List Factor),Own g 2 W 3 rows/\rows.length=n.nodes.length/\l.length=j/\All2 (Rp.rp NoP 0 .nil) l (rows.take j)/\S.bF n l/\∀i,j<=i->i<n.nodes.length->rows[i]?=some [.nils,.nils,.nils]
theorem BU {d:Nat}{g:G}{v:AV}{n:Net}(hd:0<d)(hm:Agg n NoP 0 g.h v):∃r,aO C0 d N.aA [v] g=.val r/\Ej n NoP 0 .nil r:=by
 obtain ⟨b,rows,rfl,e1,hm',hN,r1,r2,r3,r4⟩:=j5 d hm
 rw[m6]
 refine fy pK (xs:=[.agg [.int .i64 n.grain,b]]) (by simp only[aD,e1]) (by simp[ic]) (ko fun o=>gN (m:=2) (dt _) (dt _) (by decide) (by decide)) (by decide) hd ?_
 simp only[sz,simprocAttr,ic,jk]
 obtain ⟨z,ez,hz⟩:=wL (d:=d+1) (g:=G.empty.new (.cells 2 [[.int .i64 n.grain,b]] 0 false false)) (Nat.succ_pos d) (n:=n) (v:=.agg [.int .i64 n.grain,b]) (hm' _)
 rcases nC hz with ⟨hn,cs,rfl,hcs⟩ | ⟨hn,b',cv,sv,oz,o,rfl,hb,hcv,hsv,hoz⟩
 ·obtain ⟨a1,a2,a3,a4,a5,rfl⟩:∃a1 a2 a3 a4 a5,cs=[a1,a2,a3,a4,a5]:=by
   match cs,hcs with
   | [a1,a2,a3,a4,a5],_=>exact ⟨a1,a2,a3,a4,a5,rfl⟩
  simp only[sz,simprocAttr,ez,show ¬((50:Int)=0) from by decide]
  refine ⟨NoP,[],⟨fun h=>(by rw[hn] at h;cases h),fun i x hi=>(by simp at hi)⟩,_,_,rfl,⟨_,rfl,⟨by show 0<9223372036854775808;decide,rfl⟩⟩,?_⟩
  rw[hn];exact a9.2 rfl
 ·have hr:=gW.1 hn
  have hl8:=hr.l2
  simp only[sz,simprocAttr,ez,hb.len]
  refine sP (b:=2) (n:=n.nodes.length) (by unfold bF;omega) (by unfold bF;omega) (by simp) fun W g1 hW n1 f1 vW=>?_
  have k1:g1.h.get 1=.cells 5 [[.int .i64 n.grain,b',cv,sv,oz]] 0 false false:=by rw[f1 1 (by simp)];simp[H.get_put]
  have hWl:∀(g:G) (rows:List (List AV)),rows.length=n.nodes.length->Own g 2 W 3 rows->gM .slice W g=.val (.int .i64 (n.nodes.length:Int)):=fun g rows h1 h=>by
   rcases h with ⟨rfl,e⟩ | ⟨id,ep,lo,-,-,rfl,-⟩
   ·cases vW
   ·rw[h1];rfl
  have hlW:=hWl g1 _ (by simp) hW
  have hryW:nS W=true:=by
   rcases hW with ⟨rfl,e⟩ | ⟨id,ep,lo,-,-,rfl,-⟩
   ·cases vW
   ·rfl
  simp only[sz,simprocAttr,hlW]
  simp only[iL]
  refine a7 (m:=n.nodes.length) (by omega) (fun j t df g=>df=[]/\FasJ n W b' cv sv oz j t g) ⟨rfl,by simp[St,sx],k1,_,[],hW,by simp,rfl,trivial,fun i x hi=>(by simp at hi),fun i _ hi=>by simp[hi]⟩ (by simp[sx]) (by simp[sx]) (by decide)
   (by rintro j t df g v s (rfl | rfl | rfl) ⟨a1,⟨b1,b2,-⟩,c1,c2⟩<;>exact ⟨a1,by simp[St,sx,b1,b2],c1,c2⟩) ?_ ?_
  ·rintro j t df g hj ⟨rfl,⟨h4,h6,-⟩,hg,rows',l,hW,hrl,hll,hal,hfs,hnil⟩ h23 h22
   obtain ⟨x,hx,-,-⟩:=aG hj
   have hm5:Agg ((n,S.aa n,S.ak n,o):NwM) NoP 0 g.h (.agg [.int .i64 n.grain,b',cv,sv,oz]):=⟨_,rfl,nI.2 ⟨b',cv,sv,oz,rfl,hb.tree (Nat.le_refl 0),hcv.tree (Nat.le_refl 0),hsv.tree (Nat.le_refl 0),hoz.tree (Nat.le_refl 0)⟩⟩
   obtain ⟨f,ef,p,hp,cs,rfl,hcs⟩:=x3 (d:=d+1) (g:=g) (i:=j) (Nat.succ_pos d) hr hm5 hx
   obtain ⟨a1,a2,a3,rfl,ha1,ha2,ha3⟩:=iQ.1 hcs
   have hrj:=hnil j (Nat.le_refl _) hj
   have hWr:=hW.rows
   have hjr:j<rows'.length:=by omega
   simp only[sz,simprocAttr,h23,h6,h4,hg,ef,hWr,hjr]
   refine dR (v:=W) (sz:=3) (n:=3) (i:=j) (off:=0) (x:=.agg [a1,a2,a3]) (row':=[a1,a2,a3]) hW hrj (by rfl) rfl ?_ fun g4 hW4 n4 f4=>?_
   ·rfl
   have htk:(rows'.set j [a1,a2,a3]).take (j+1)=rows'.take j++[[a1,a2,a3]]:=by
    rw[List.take_add_one,List.take_set_of_le (Nat.le_refl _),List.getElem?_set_self hjr]
    rfl
   simp only[sx,sy,↓reduceIte,Nat.reduceEqDiff]
   refine ⟨⟨by simp[St,sx,h4,h6],?_,_,l++[S.aG n j x p],hW4,by simpa using hrl,by simp[hll],?_,?_,fun i h1 h2=>by rw[List.getElem?_set_ne (by omega),hnil i (by omega) h2]⟩,h23,h22⟩
   ·rw[f4 1 fun e=>by have:=(hW.lt e).1;omega,hg]
   ·rw[htk]
    exact hal.append ⟨iQ.2 ⟨a1,a2,a3,rfl,ha1,ha2,ha3⟩,trivial⟩
   ·intro i y hi hy
    by_cases hij:i<l.length
    ·rw[List.getElem?_append_left hij]
     exact hfs i y hij hy
    ·have hi:i=j:=by simp at hi;omega
     subst hi
     rw[hx] at hy
     injection hy with hy
     subst hy
     exact ⟨p,hp,by rw[List.getElem?_append_right (by omega),hll];simp⟩
  ·rintro t df g ⟨rfl,⟨h4,h6,-⟩,hg,rows',l,hW,hrl,hll,hal,hfs,hnil⟩
   rw[List.take_of_length_le (by omega)] at hal
   simp only[sz,simprocAttr,iM,h6]
   refine ⟨fun _=>True,l,⟨fun _=>hll,hfs⟩,_,_,rfl,⟨W,rfl,Own.sl (α:=Factor) hW (by omega) (hal.mono fun a b r=>Rp.tree r (Nat.le_refl 0)) fun _ _=>trivial⟩,?_⟩
   rw[hn];exact a9.2 rfl
end
end Hx
end
section
namespace Hx
open Go
abbrev QnM:Type:=Net×List Factor×List (List Int)
theorem mu {P:Nat->Prop}{k:Nat}{h:H}{x:QnM}{cs:List AV}:Rp.rp P k h x cs↔∃a b c,cs=[.int .i64 x.1.grain,a,b,c]/\SlR P k h x.1.nodes a/\SlR P k h x.2.1 b/\SlR P k h x.2.2 c:=by
 constructor
 ·rintro ⟨c1,c2,rfl,h1,c3,c4,rfl,⟨b,rfl,hb⟩,⟨c,rfl,hc⟩⟩
  obtain ⟨a,rfl,ha⟩:=mX.1 h1
  exact ⟨a,b,c,rfl,ha,hb,hc⟩
 ·rintro ⟨a,b,c,rfl,ha,hb,hc⟩
  exact ⟨[_,a],[b,c],rfl,mX.2 ⟨a,rfl,ha⟩,[b],[c],rfl,⟨b,rfl,hb⟩,⟨c,rfl,hc⟩⟩
theorem AM {n:Net}(h:NR n){k:Nat}{x:Node}(hx:n.nodes[k]?=some x):(k:Int) ∉ x.parents:=fun hm=>by
 have hk:=(List.getElem?_eq_some_iff.1 hx).1
 have hl:=h.l2
 have h1:=ma.1 h.acyc k (by simp[S.ak];exact hk)
 have h2:Par (S.ak n) k=S.am x.parents:=by simp[Par,S.ak,hx]
 have h3:(S.am x.parents).testBit k=true:=(rH fun y hy=>by have:=dq (h.places x (List.mem_of_getElem? hx)) y hy;omega).2 hm
 have h4:=nY (p:=S.ak n) (s:=Par (S.ak n) k) (S.ak n).length k (by rw[h2];exact h3)
 rw[h1] at h4;cases h4
theorem yS {l:List Int}{k:Int}(h:S.a8 l k=true):l.Nodup:=by
 rw[List.Nodup,List.pairwise_iff_getElem]
 intro i j hi hj hij e
 have:=yh h (List.getElem?_eq_getElem hi) (List.getElem?_eq_getElem hj) hij
 omega
theorem AS {n:Net}(h:NR n){k:Nat}{x:Node}(hx:n.nodes[k]?=some x)(p:Nat):(S.aq x.parents p (k:Int)).Nodup:=by
 unfold S.aq
 rw[List.perm_middle.nodup_iff,List.take_append_drop,List.nodup_cons]
 exact ⟨AM h hx,yS (h.places x (List.mem_of_getElem? hx))⟩
theorem oq {n:Net}(h:NR n){k:Nat}{x:Node}(hx:n.nodes[k]?=some x)(p:Nat):∀y∈S.aq x.parents p (k:Int),0<=y/\y<n.nodes.length:=fun y hy=>by
 have hk:=(List.getElem?_eq_some_iff.1 hx).1
 have hp:=dq (h.places x (List.mem_of_getElem? hx))
 simp only[S.aq,List.mem_append,List.mem_cons] at hy
 rcases hy with hy | rfl | hy
 ·exact hp y (List.mem_of_mem_take hy)
 ·omega
 ·exact hp y (List.mem_of_mem_drop hy)
theorem gK (cs ps:List Int):(S.ae cs ps).length=ps.length:=by simp[S.ae]
theorem yN {n:Net}(h:NR n){k:Nat}{x:Node}(hx:n.nodes[k]?=some x)(p:Nat):∀c∈(S.aG n k x p).cards,1<=c/\c<=4 :=
 aY h.cs fun y hy=>by rw[aS];exact oq h hx p y hy
def S.be (m:Nat)(f:Factor)(i:Nat)(R:List Int):Prop:=R.length=m/\∀(j:Nat) (y:Int),i<=j->f.vars[j]?=some y->R[y.toNat]?=some (S.af (f.cards.drop (j+1)))
theorem ve {m i:Nat}{f:Factor}{R:List Int}{y:Int}(h:S.be m f (i+1) R)(hnd:f.vars.Nodup)(hin:∀y∈f.vars,0<=y/\y<m)(hy:f.vars[i]?=some y):S.be m f i (R.set y.toNat (S.af (f.cards.drop (i+1)))):=by
 refine ⟨by simp[h.1],fun j z hij hz=>?_⟩
 have hyi:=hin y (List.mem_of_getElem? hy)
 have hzi:=hin z (List.mem_of_getElem? hz)
 by_cases e:j=i
 ·subst e
  rw[hy] at hz;injection hz with hz;subst hz
  rw[List.getElem?_set_self (by rw[h.1];omega)]
 ·rw[List.getElem?_set_ne]
  ·exact h.2 j z (by omega) hz
  ·intro e2
   have e3:y=z:=by omega
   subst e3
   exact e ((List.getElem?_inj (List.getElem?_eq_some_iff.1 hz).1 hnd).1 (by rw[hz,hy]))
structure QnOk (n:Net) (y:QnM):Prop where
 net:y.1=n
 fl:y.2.1.length=n.nodes.length
 fs:S.bF n y.2.1
 sl:y.2.2.length=n.nodes.length
 st:∀(k:Nat) (f:Factor) (R:List Int),y.2.1[k]?=some f->y.2.2[k]?=some R->S.be n.nodes.length f 0 R
def S.aO (n:Net)(ls:List (List Int)):Int:=if S.aF n then (if ls.all (S.aY n) then 0 else 2) else 50
def BP (n:Net)(ls:List (List Int)):VS:=fun P k h v=>∃y:QnM,(S.aO n ls=0->QnOk n y)/\rK (Agg y) (One (S.aO n ls)) P k h v
end Hx
end
section
namespace Hx
open Go
noncomputable section
def tS (fl:AV)(m q k:Nat):List (Nat×AV):=[(11,.hptr q 0 0 0),(2,.hptr 0 0 0 0),(4,.hptr 1 0 0 0),(45,fl),(46,.int .i64 (m:Int)),(47,.int .i64 (k:Int))]
structure AskI (fl:AV) (m q k:Nat) (g0:G) (iR:Nat) (R:AV) (f:Factor) (fb j:Nat) (t:T) (g:G):Prop where
 st:St t ((13,.hptr fb 0 0 0)::(12,.int .i64 (k:Int))::(14,.int .i64 (S.af (f.cards.drop j)))::tS fl m q k)
 nx:g0.nx<=g.nx
 fr:∀i,i<g0.nx->i≠iR->g.h.get i=g0.h.get i
 ow:∃X:List Int,Own g 2 R 1 (X.map ci)/\S.be m f j X
theorem Dk {d m q k fb iR:Nat}{gr:Int}{va ca wa S_ R b fl fl':AV}{f:Factor}{rowsS:List (List AV)}{Q:QT}{t:T}{g g0:G}(hva:SlR NoP 0 .nil f.vars va)(hca:SlR NoP 0 .nil f.cards ca)(hcl:f.cards.length=f.vars.length)(hvl:f.vars.length<=16)(hcb:∀c∈f.cards,1<=c/\c<=4)(hnd:f.vars.Nodup)(hin:∀y∈f.vars,0<=y/\y<m)
  (e11:g0.h.get q=.cells 4 [[.int .i64 gr,b,fl',S_]] 0 false false) (e13:g0.h.get fb=.cells 3 [[va,ca,wa]] 0 false false) (hS:Own g0 2 S_ 1 rowsS) (hk:rowsS[k]?=some [R]) (vR:vid R=some iR) (vS:vid S_≠some iR) (n1:q≠iR/\fb≠iR) (n2:q<g0.nx/\fb<g0.nx/\iR<g0.nx)
  (h0:AskI fl m q k g0 iR R f fb f.vars.length t g) (h15:tat t 15=.int .i64 ((f.vars.length:Int) - 1))
  (fin:∀t g,AskI fl m q k g0 iR R f fb 0 t g->Q (.exit 4) t [] g):wpL (wp C0 d none gP) Q t [] g:=by
 have rva:=fun h=>(hva.tree (h':=h) (Nat.le_refl 0)).ints
 have rca:=fun h=>(hca.tree (h':=h) (Nat.le_refl 0)).ints
 simp only[gP]
 refine Am (m:=f.vars.length) (by omega) (fun j t df g=>df=[]/\AskI fl m q k g0 iR R f fb j t g) ⟨rfl,h0⟩ h15 (by decide)
  (by rintro j t df g v s (rfl | rfl | rfl | rfl | rfl) ⟨a1,⟨b1,b2,b3,b4,b5,b6,b7,b8,b9,-⟩,c1,c2,c3⟩<;>exact ⟨a1,by simp[St,tS,sx,b1,b2,b3,b4,b5,b6,b7,b8,b9],c1,c2,c3⟩) ?_ ?_
 ·rintro j t df g hj ⟨rfl,⟨h13,h12,h14,h11,h2,h4,h45,h46,h47,-⟩,hnx,hfr,X,hX,hst⟩ h15
  obtain ⟨y,hy,-,hym⟩:=aG hj
  obtain ⟨hy0,hym⟩:=hin y hym
  obtain ⟨yn,rfl⟩:=Int.eq_ofNat_of_zero_le hy0
  have hcj:f.cards[j]?=some f.cards[j]:=List.getElem?_eq_getElem (by omega)
  have hcb1:=hcb _ (List.getElem_mem (show j<f.cards.length by omega))
  have hdr:f.cards.drop j=f.cards[j]::f.cards.drop (j+1):=List.drop_eq_getElem_cons (by omega)
  generalize f.cards[j]=c at hcj hcb1 hdr
  have u1:j<(f.vars.map ci).length:=by simpa using hj
  have u2:(f.vars.map ci)[j]?=some (ci (yn:Int)):=by rw[List.getElem?_map,hy];rfl
  have u3:j<(f.cards.map ci).length:=by simp;omega
  have u4:(f.cards.map ci)[j]?=some (ci c):=by rw[List.getElem?_map,hcj];rfl
  have hXl:=hst.1
  have hylt:yn<X.length:=by omega
  have u5:yn<(X.map ci).length:=by simpa using hylt
  have u6:(X.map ci)[yn]?=some (ci X[yn]):=by rw[List.getElem?_map,List.getElem?_eq_getElem hylt];rfl
  have k11:g.h.get q=.cells 4 [[.int .i64 gr,b,fl',S_]] 0 false false:=by rw[hfr q n2.1 n1.1,e11]
  have k13:g.h.get fb=.cells 3 [[va,ca,wa]] 0 false false:=by rw[hfr fb n2.2.1 n1.2,e13]
  have hS':Own g 2 S_ 1 rowsS:=hS.fr hnx fun i hi=>hfr i (hS.lt hi).2 fun e=>vS (by rw[hi,e])
  have rS:=hS'.rows
  have rX:=hX.rows
  have kl:k<rowsS.length:=(List.getElem?_eq_some_iff.1 hk).1
  have w0:S.af (f.cards.drop j)=S.af (f.cards.drop (j+1))*c:=by rw[hdr,cC,Int.mul_comm]
  have hpb:=cE (l:=f.cards.drop j) fun c hc=>hcb c (List.mem_of_mem_drop hc)
  have hp4:=fe (a:=(f.cards.drop j).length) (b:=16) (by simp;omega)
  have h48:(4:Int) ^ 16=4294967296:=by decide
  have w1:IntKind.wrap .i64 (S.af (f.cards.drop (j+1))*c)=S.af (f.cards.drop j):=by rw[<-w0,bc (by omega) (by omega)]
  have hst':=ve hst hnd hin hy
  rw[Int.toNat_natCast] at hst'
  simp only[sz,simprocAttr,sf,h11,h12,h13,h14,h15,k11,k13,rva,u1,u2,rS,kl,hk,rX,u5,ci]
  refine dR (v:=R) (sz:=1) (n:=1) (i:=yn) (off:=0) (x:=.int .i64 (S.af (f.cards.drop (j+1)))) (row':=ci (S.af (f.cards.drop (j+1)))) (hX.fr (by simp;omega) fun i _=>by simp) u6 rfl rfl rfl fun g4 hu4 n4 f4=>?_
  rw[<-List.map_set] at hu4
  have f4':∀i,i≠iR->g4.h.get i=g.h.get i:=fun i hi=>by rw[f4 i (by rw[vR];intro e;injection e with e;exact hi e.symm)];simp
  have n4':g.nx<=g4.nx:=by rw[n4];simp;omega
  simp only[sz,simprocAttr]
  refine ⟨?_,?_⟩
  ·simp only[List.reverse_cons,List.reverse_nil,List.nil_append,List.cons_append]
   exact dh [false,false,false,false,false,false,false,false,false,false,false,false,true] [] (by simp[All2,an,aH]) (by decide) (by simp)
  have k13':g4.h.get fb=.cells 3 [[va,ca,wa]] 0 false false:=by rw[f4' fb n1.2,k13]
  simp only[sz,simprocAttr,h13,h14,h15,k13',rca,u3,u4,ci,w1]
  refine ⟨by simp[St,tS,sx,h13,h12,h11,h2,h4,h45,h46,h47],?_,fun i h1 h2=>?_,_,hu4.fr (by simp) fun i _=>by simp,hst'⟩
  ·simp;omega
  ·simp only[bumpG_h]
   rw[f4' i h2,hfr i h1 h2]
 ·rintro t df g ⟨rfl,h⟩
  exact fin t g h
structure FOk (m:Nat) (f:Factor):Prop where
 cl:f.cards.length=f.vars.length
 vl:f.vars.length<=16
 cb:∀c∈f.cards,1<=c/\c<=4
 nd:f.vars.Nodup
 vr:∀y∈f.vars,0<=y/\y<m
theorem zh {n:Net}(h:NR n){k:Nat}{x:Node}(hx:n.nodes[k]?=some x){p:Nat}(hp:p<=x.parents.length):FOk n.nodes.length (S.aG n k x p):=by
 have h1:=iZ (h.places x (List.mem_of_getElem? hx)) (by omega)
 have h2:=h.l2
 have h3:=kw x.parents p (k:Int) hp
 exact ⟨gK _ _,by show (S.aq x.parents p (k:Int)).length<=16;omega,yN h hx p,AS h hx p,oq h hx p⟩
structure AskH (gr:Int) (b fl S_:AV) (m q:Nat) (fs:List Factor) (k:Nat) (g:G):Prop where
 h0:g.h.get 0=.cells 2 [[.int .i64 gr,b]] 0 false false
 h1:g.h.get 1=.cells 4 [[.int .i64 0,.nils,.nils,.nils]] 0 false false
 hq:g.h.get q=.cells 4 [[.int .i64 gr,b,fl,S_]] 0 false false
 q2:2<=q/\q<g.nx
 sq:∀i,vid S_=some i->i<q
 hS:∃(Vs:List AV) (l:List (List Int)),Own g 2 S_ 1 (Vs.map fun v=>[v])/\Vs.length=m/\l.length=k/\All2 (fun X v=>Own g (q+1) v 1 (X.map ci)) l (Vs.take k)/\∀(i:Nat) (f:Factor) (X:List Int),fs[i]?=some f->l[i]?=some X->S.be m f 0 X
structure AskJ (gr:Int) (b fl S_:AV) (m q:Nat) (fs:List Factor) (k:Nat) (t:T) (g:G):Prop where
 st:St t [(11,.hptr q 0 0 0),(2,.hptr 0 0 0 0),(4,.hptr 1 0 0 0),(45,fl)]
 hp:AskH gr b fl S_ m q fs k g
theorem C7 {d m q:Nat}{gr:Int}{b fl S_:AV}{fs:List Factor}{Q:QT}{t:T}{g:G}(hb:∀g,gM .slice b g=.val (.int .i64 (m:Int)))(hm:m<=8)(hfl:SlR NoP 0 .nil fs fl)(hfm:fs.length=m)(hok:∀(i:Nat) (f:Factor),fs[i]?=some f->FOk m f)
  (h0:AskJ gr b fl S_ m q fs 0 t g) (h47:tat t 47=.int .i64 0) (h46:tat t 46=.int .i64 (m:Int))
  (fin:∀t g,AskJ gr b fl S_ m q fs m t g->Q (.exit 2) t [] g):wpL (wp C0 d none gF) Q t [] g:=by
 obtain ⟨rows,r1,r2,r3,r4⟩:=hfl.all
 have r1:∀h',ax h' 3 fl=some rows:=r1
 simp only[gF,jJ]
 refine a7 (m:=m) (by omega) (fun k t df g=>df=[]/\AskJ gr b fl S_ m q fs k t g) ⟨rfl,h0⟩ h47 h46 (by decide)
  (by rintro j t df g v s (rfl | rfl | rfl) ⟨a1,⟨b1,b2,b3,b4,-⟩,c1⟩<;>exact ⟨a1,by simp[St,sx,b1,b2,b3,b4],c1⟩) ?_ ?_
 ·rintro k t df g hk ⟨rfl,⟨h11,h2,h4,h45,-⟩,hp⟩ h47 h46
  obtain ⟨f,hf,-,-⟩:=aG (l:=fs) (j:=k) (by omega)
  obtain ⟨row,q1,q2⟩:=r3 k f hf
  obtain ⟨va,ca,wa,rfl,hva,hca,hwa⟩:=iQ.1 q2
  have hF:=hok k f hf
  have hlt:k<rows.length:=by omega
  have hry:=r4 (by omega)
  obtain ⟨Vs,l,hS,hVl,hll,hal,hst⟩:=hp.hS
  obtain ⟨q2a,q2b⟩:=hp.q2
  have ne0:∀i,i<g.nx->¬i=g.nx:=fun i hi=>by omega
  refine bV (P:=fun t' df g'=>df=[]/\g'=(g.new (.cells 3 [[.nils,.nils,.nils]] 0 false false)).put g.nx (.cells 3 [[va,ca,wa]] 0 false false)/\St t' ((13,.hptr g.nx 0 0 0)::(12,.int .i64 (k:Int))::tS fl m q k)) ?_ ?_
  ·simp only[sz,simprocAttr,h45,h47,r1,hlt,q1]
   simp[St,tS,sx,h11,h2,h4,h45,h47,h46]
  clear h11 h2 h4 h45 h47 h46
  rintro t df g1 ⟨rfl,hg1,⟨h13,h12,h11,h2,h4,h45,h46,h47,-⟩⟩
  have f1:∀i,i<g.nx->g1.h.get i=g.h.get i:=fun i hi=>by rw[hg1];simp[H.get_put,ne0 i hi]
  have n1:g1.nx=g.nx+1:=by rw[hg1];simp
  have k1:g1.h.get g.nx=.cells 3 [[va,ca,wa]] 0 false false:=by rw[hg1];simp[H.get_put]
  clear hg1
  have e0:g1.h.get 0=.cells 2 [[.int .i64 gr,b]] 0 false false:=by rw[f1 0 (by omega),hp.h0]
  have eq:g1.h.get q=.cells 4 [[.int .i64 gr,b,fl,S_]] 0 false false:=by rw[f1 q (by omega),hp.hq]
  have hS1:Own g1 2 S_ 1 (Vs.map fun v=>[v]):=hS.fr (by omega) fun i hi=>f1 i (hS.lt hi).2
  have rS:=hS1.rows
  have hkV:k<(Vs.map fun v=>[v]).length:=by simp;omega
  have hgV:(Vs.map fun v=>[v])[k]?=some [Vs[k]'(by omega)]:=by rw[List.getElem?_map,List.getElem?_eq_getElem (by omega)];rfl
  refine kV (P:=fun t' df g'=>df=[]/\St t' ((13,.hptr g.nx 0 0 0)::(12,.int .i64 (k:Int))::tS fl m q k)/\g1.nx<g'.nx/\∃R iR,vid R=some iR/\g1.nx<=iR/\iR<g'.nx/\Own g' 2 S_ 1 ((Vs.set k R).map fun v=>[v])/\Own g' (q+1) R 1 ((List.replicate m (0:Int)).map ci)/\∀i,i<g1.nx->vid S_≠some i->g'.h.get i=g1.h.get i) ?_ ?_
  ·simp only[sz,simprocAttr,sf,h11,h2,h12,e0,eq,hb]
   refine md (b:=q+1) (n:=m) (by unfold bF;omega) (by unfold bF;omega) (by simp;omega) fun R g2 hR n2 f2 vR lg2=>?_
   simp only[sy] at n2 f2 vR lg2
   have hS2:Own g2 2 S_ 1 (Vs.map fun v=>[v]):=hS1.fr (by omega) fun i hi=>by
    have:=hS1.lt hi
    rw[f2 i (by omega)]
   have rS2:=hS2.rows
   simp only[sz,simprocAttr,sf,rS2,hkV]
   refine dR (v:=S_) (sz:=1) (n:=1) (i:=k) (off:=0) (x:=R) (row':=[R]) (hS2.fr (by simp;omega) fun i _=>by simp) hgV (by rw[hR.cell.1];rfl) hR.cell.2 (by rw[hR.cell.1];rfl) fun g4 hu4 n4 f4=>?_
   rw[show (Vs.map fun v=>[v]).set k [R]=(Vs.set k R).map fun v=>[v] from by rw[List.map_set]] at hu4
   have f4':∀i,vid S_≠some i->g4.h.get i=g2.h.get i:=fun i hi=>by rw[f4 i hi];simp
   have n4':g2.nx<=g4.nx:=by rw[n4];simp;omega
   simp only[sy,lg2]
   refine ⟨?_,?_,?_,R,g1.nx+6,vR,by omega,?_,?_,?_,fun i h1 h2=>?_⟩
   ·simp only[List.reverse_cons,List.reverse_nil,List.nil_append,List.cons_append]
    refine dh [false,false,false,false,false,false,true,false,true] [(0,6),(1,6),(2,6)] (by simp[All2,an,aH]) (by decide) ?_
    rintro p hp' x y hx hy
    simp only[List.mem_cons,List.not_mem_nil,or_false] at hp'
    rcases hp' with rfl | rfl | rfl<;>(simp at hx hy;subst hx;subst hy;refine mO rfl rfl rfl rfl ?_ ?_ ?_<;>simp[an,aH,ae]<;>omega)
   ·simp[St,tS,sx,h13,h12,h11,h2,h4,h45,h46,h47]
   ·omega
   ·omega
   ·exact hu4.fr (by simp) fun i _=>by simp
   ·have hR':Own g2 (q+1) R 1 ((List.replicate m (0:Int)).map ci):=by simpa [ci] using hR
    refine hR'.fr (by simp;omega) fun i hi=>?_
    have:=eE vR hi
    simp only[bumpG_h]
    exact f4' i fun e=>by have:=hS1.lt e;omega
   ·rw[f4' i h2,f2 i (by omega)]
  clear h13 h12 h11 h2 h4 h45 h46 h47
  rintro t df g2 ⟨rfl,⟨h13,h12,h11,h2,h4,h45,h46,h47,-⟩,n2,R,iR,vR,hiR,hiR2,hS2,hR,f2⟩
  have e13:g2.h.get g.nx=.cells 3 [[va,ca,wa]] 0 false false:=by rw[f2 g.nx (by omega) (fun e=>by have:=hp.sq _ e;omega),k1]
  have e11:g2.h.get q=.cells 4 [[.int .i64 gr,b,fl,S_]] 0 false false:=by rw[f2 q (by omega) (fun e=>by have:=hp.sq _ e;omega),eq]
  have lva:=hva.len
  have hvl:=hF.vl
  have hR2:Own g2 2 R 1 ((List.replicate m (0:Int)).map ci):=Own.low hR (by omega)
  have w1:IntKind.wrap .i64 ((f.vars.length:Int) - 1)=(f.vars.length:Int) - 1:=bc (by omega) (by omega)
  have hgV2:((Vs.set k R).map fun v=>[v])[k]?=some [R]:=by rw[List.getElem?_map,List.getElem?_set_self (by omega)];rfl
  simp only[sz,simprocAttr,h13,e13,lva,w1]
  refine Dk (g0:=g2) (fl:=fl) (fl':=fl) (m:=m) (q:=q) (k:=k) (fb:=g.nx) (iR:=iR) (R:=R) (S_:=S_) (b:=b) (gr:=gr) (va:=va) (ca:=ca) (wa:=wa) (f:=f) (rowsS:=(Vs.set k R).map fun v=>[v]) hva hca hF.cl hF.vl hF.cb hF.nd hF.vr e11 e13 hS2 hgV2 vR (fun e=>by have:=hp.sq _ e;omega) ⟨by omega,by omega⟩ ⟨by omega,by omega,by omega⟩
   ⟨by simp[St,tS,sx,h13,h12,h11,h2,h4,h45,h46,h47,S.af,List.drop_of_length_le (show f.cards.length<=f.vars.length by rw[hF.cl];exact Nat.le_refl _)],Nat.le_refl _,fun _ _ _=>rfl,List.replicate m 0,hR2,by simp,fun j y hj hy=>?_⟩ (by simp[sx]) ?_
  ·have:=(List.getElem?_eq_some_iff.1 hy).1
   omega
  clear h13 h12 h11 h2 h4 h45 h46 h47
  rintro t g3 ⟨⟨h13,h12,h14,h11,h2,h4,h45,h46,h47,-⟩,n3,f3,X,hX,hXo⟩
  simp only[sx,sy,↓reduceIte]
  have hfin:∀i,i<g.nx->vid S_≠some i->g3.h.get i=g.h.get i:=fun i h1 h2=>by
   rw[f3 i (by omega) (by omega),f2 i (by omega) h2,f1 i h1]
  refine ⟨⟨by simp[St,h11,h2,h4,h45],?_⟩,h47,h46⟩
  have hsl:∀i,i<2\/i=q->vid S_≠some i:=fun i hi e=>by
   have:=hp.sq i e
   have:=(hS.lt e).1
   omega
  refine ⟨by rw[hfin 0 (by omega) (hsl 0 (by omega)),hp.h0],by rw[hfin 1 (by omega) (hsl 1 (by omega)),hp.h1],by rw[hfin q q2b (hsl q (by omega)),hp.hq],⟨q2a,by omega⟩,hp.sq,Vs.set k R,l++[X],hS2.fr n3 fun i hi=>f3 i (hS2.lt hi).2 fun e=>by have:=hp.sq i hi;omega,by simpa using hVl,by simp[hll],?_,?_⟩
  ·have htk:(Vs.set k R).take (k+1)=Vs.take k++[R]:=by
    rw[List.take_add_one,List.take_set_of_le (Nat.le_refl _),List.getElem?_set_self (by omega)]
    rfl
   rw[htk]
   refine (hal.mono fun X' v r=>?_).append ⟨?_,trivial⟩
   ·exact r.fr (by omega) fun i hi=>by
     have:=r.lt hi
     exact hfin i this.2 fun e=>by have:=hp.sq i e;omega
   ·rcases hX with h | ⟨id,ep,lo,p1,p2,rfl,p4⟩
    ·exact .inl h
    ·injection vR with vR
     exact .inr ⟨id,ep,lo,by omega,p2,rfl,p4⟩
  ·intro i f' X' hf' hX'
   by_cases hi:i<l.length
   ·rw[List.getElem?_append_left hi] at hX'
    exact hst i f' X' hf' hX'
   ·have h1:=(List.getElem?_eq_some_iff.1 hX').1
    have:i=k:=by simp at h1;omega
    subst this
    rw[hf] at hf';injection hf' with hf';subst hf'
    rw[List.getElem?_append_right (by omega),hll,Nat.sub_self] at hX'
    simp at hX'
    subst hX'
    exact hXo
 ·rintro t df g ⟨rfl,h⟩
  exact fin t g h
theorem BG (n:Net)(ls:List (List Int)):Snb (BP n ls) 2:=ko fun y=>gN (m:=2) (oe _) (dt _) (by decide) (by decide)
def qn0:QnM:=(⟨0,[]⟩,[],[])
theorem za (P:Nat->Prop)(h:H):Agg qn0 P 0 h (.agg [.int .i64 0,.nils,.nils,.nils]):=⟨_,rfl,mu.2 ⟨.nils,.nils,.nils,rfl,⟨by show 0<9223372036854775808;decide,rfl⟩,⟨by show 0<9223372036854775808;decide,rfl⟩,⟨by show 0<9223372036854775808;decide,rfl⟩⟩⟩
theorem vD {a b c w:AV}(h:w.cells=[w])(h2:w.isTup=false)(h3:b.cells=[b])(h4:b.isTup=false):eG [.int .i64 0,.nils,.nils,.nils] [((0,2),.agg [a,c]),((2,1),b),((3,1),w)]=some [a,c,b,w]:=by
 have k1:(AV.agg [a,c]).cells=[a,c]:=rfl
 have k2:(AV.agg [a,c]).isTup=false:=rfl
 simp[eG,h,h2,h3,h4,fK,k1,k2]
 rfl
theorem Dd {d kk:Nat}{P:Nat->Prop}{g:G}{v w:AV}{n:Net}{ls:List (List Int)}(hd:0<d)(hm:Agg n NoP 0 g.h v)(hw:SlR P kk g.h ls w):∃r,aO C0 d N.aC [v,w] g=.val r/\BP n ls NoP 0 .nil r:=by
 obtain ⟨b,rows,rfl,e1,hm',hN,r1,r2,r3,r4⟩:=j5 d hm
 obtain ⟨w',e2,hw'⟩:=jG hw d
 obtain ⟨wrows,p1,p2,p3,p4⟩:=(hw' .nil).all
 have p1:∀h',ax h' 1 w'=some wrows:=p1
 have hwl:=hw.1
 have wl:=fun g=>(hw' .nil).len g
 rw[pO]
 refine fy rT (xs:=[.agg [.int .i64 n.grain,b],w']) (by simp only[aD,e1,e2]) (by simp[j6]) (BG n ls) (by decide) hd ?_
 simp only[sz,simprocAttr,j6]
 obtain ⟨g0,hg0⟩:∃g0,g0=(G.empty.new (.cells 2 [[.int .i64 n.grain,b]] 0 false false)).new (.cells 4 [[.int .i64 0,.nils,.nils,.nils]] 0 false false):=⟨_,rfl⟩
 rw[<-hg0]
 have f0:g0.h.get 0=.cells 2 [[.int .i64 n.grain,b]] 0 false false:=by rw[hg0];simp[sx,H.get_put]
 have f1:g0.h.get 1=.cells 4 [[.int .i64 0,.nils,.nils,.nils]] 0 false false:=by rw[hg0];simp[sx]
 have f2:g0.nx=2:=by rw[hg0];simp[sx]
 clear hg0
 simp only[lj]
 obtain ⟨z,ez,fs,⟨hfl,hfs⟩,fl,er,rfl,hfl2,her⟩:=BU (d:=d+1) (g:=g0) (Nat.succ_pos d) (hm' g0.h)
 have her:=a9.1 her
 injection her with her
 subst her
 obtain ⟨_,e3,hfl2⟩:=hfl2
 injection e3 with e3;subst e3
 cases hn:S.aF n with
 | false =>
  have hs:S.aO n ls=50:=by rw[S.aO,hn];rfl
  rw[hn] at ez
  simp only[Bool.false_eq_true,↓reduceIte] at ez
  simp only[sz,simprocAttr,f0,ez,show ¬((50:Int)=0) from by decide,f1]
  refine ⟨fun _=>True,qn0,?_,_,_,rfl,?_,?_⟩
  ·rw[hs];intro h;cases h
  ·exact za _ _
  ·rw[hs];exact a9.2 rfl
 | true =>
  have hr:=gW.1 hn
  have hfl:=hfl hn
  rw[hn] at ez
  simp only[↓reduceIte] at ez
  refine kV (P:=fun t' df g'=>df=[]/\g'=g0/\St t' [(1,w'),(2,.hptr 0 0 0 0),(4,.hptr 1 0 0 0),(6,fl),(7,.int .i64 0)]) ?_ ?_
  ·simp only[sz,simprocAttr,f0,ez]
   simp[St,sx]
  rintro t df g1 ⟨rfl,rfl,h1,h2,h4,h6,h7,-⟩
  obtain ⟨Qf,hQf⟩:∃Qf,Qf=fnQ C0 (d+1) [SR.cell true 4 4,SR.tm 5] (fun v g'=>∃P,BP n ls P 0 g'.h v):=⟨_,rfl⟩
  rw[<-hQf]
  simp only[sz,simprocAttr,h1,h7,wl,jP]
  refine a7 (m:=ls.length) hwl (fun j t df g=>df=[]/\St t [(25,w'),(2,.hptr 0 0 0 0),(4,.hptr 1 0 0 0),(6,fl)]/\g=g1/\∀e∈ls.take j,S.aY n e=true) ⟨rfl,by simp[St,sx,h2,h4,h6],rfl,by simp⟩ (by simp[sx]) (by simp[sx]) (by decide)
   (by rintro j t df g v s (rfl | rfl | rfl) ⟨a1,⟨b1,b2,b3,b4,-⟩,c1,c2⟩<;>exact ⟨a1,by simp[St,sx,b1,b2,b3,b4],c1,c2⟩) ?_ ?_
  ·rintro j t df g hj ⟨rfl,⟨h25,h2,h4,h6,-⟩,rfl,hall⟩ h27 h26
   obtain ⟨e,he,htk,hem⟩:=aG hj
   obtain ⟨row,q1,q2⟩:=p3 j e he
   obtain ⟨z,rfl,hz⟩:=mE.1 q2
   have hlt:j<wrows.length:=by omega
   have hch:=Au (d:=d+1) (g:=g) (e:=e) (w:=z) (Nat.succ_pos d) (hm' g.h) (hz.tree (h':=g.h) (Nat.le_refl _))
   cases hev:S.aY n e with
   | true =>
    have hs:S.aP n e=0:=by rw[S.aP,hn,hev];rfl
    rw[hs] at hch
    simp only[sz,simprocAttr,h25,h27,h26,h2,p1,hlt,q1,f0,hch]
    refine ⟨by simp[St,sx,h2,h4,h6,h25],fun y hy=>?_⟩
    rw[htk] at hy
    rcases List.mem_append.1 hy with h | h
    ·exact hall y h
    ·rw[List.mem_singleton.1 h];exact hev
   | false =>
    have hs:S.aP n e=2:=by rw[S.aP,hn,hev];rfl
    have hs2:S.aO n ls=2:=by
     have:ls.all (S.aY n)=false:=by
      rw[<-Bool.not_eq_true,List.all_eq_true]
      intro h
      rw[h e hem] at hev;cases hev
     rw[S.aO,hn,this];rfl
    rw[hs] at hch
    rw[hQf]
    simp only[sz,simprocAttr,h25,h27,h2,h4,p1,hlt,q1,f0,f1,hch,show ¬((2:Int)=0) from by decide]
    refine ⟨fun _=>True,qn0,?_,_,_,rfl,?_,?_⟩
    ·rw[hs2];intro h;cases h
    ·exact za _ _
    ·rw[hs2];exact a9.2 rfl
  ·rintro t df g ⟨rfl,⟨h25,h2,h4,h6,-⟩,rfl,hall⟩
   rw[List.take_length] at hall
   have hs:S.aO n ls=0:=by rw[S.aO,hn,List.all_eq_true.2 hall];rfl
   have hl8:=hr.l2
   have fll:=fun g=>hfl2.len g
   simp only[sx,↓reduceIte]
   unfold jH
   refine kV (P:=fun t' df g'=>df=[]/\∃S_ q,St t' [(2,.hptr 0 0 0 0),(4,.hptr 1 0 0 0),(6,fl),(11,.hptr q 0 0 0)]/\AskH n.grain b fl S_ n.nodes.length q fs 0 g') ?_ ?_
   ·simp only[sz,simprocAttr,sf,h2,h6,f0,fll,hfl]
    refine md (b:=2) (n:=n.nodes.length) (by unfold bF;omega) (by unfold bF;omega) (by first | (simp;done) | (simp;omega)) fun S_ g2 hS n2 f2' vS lg2=>?_
    simp only[sy] at n2 f2' vS lg2
    have hflc:fl.cells=[fl]/\fl.isTup=false:=by
     have h:=hfl2.2
     unfold SlV at h
     split at h<;>first | exact ⟨rfl,rfl⟩ | exact h.elim
    simp only[sz,simprocAttr,sf,vD hS.cell.1 hS.cell.2 hflc.1 hflc.2,lg2]
    have n2':g.nx+5=g2.nx:=by omega
    have k0:g2.h.get 0=.cells 2 [[.int .i64 n.grain,b]] 0 false false:=by rw[f2' 0 (by omega),f0]
    have k1:g2.h.get 1=.cells 4 [[.int .i64 0,.nils,.nils,.nils]] 0 false false:=by rw[f2' 1 (by omega),f1]
    refine ⟨?_,S_,g2.nx+1+1,by simp[St,sx,h2,h4,h6],⟨?_,?_,?_,⟨by omega,by simp⟩,fun i hi=>by have:=eE vS hi;omega,List.replicate n.nodes.length .nils,[],?_,by simp,rfl,trivial,fun i f X _ h=>by simp at h⟩⟩
    ·simp only[List.reverse_cons,List.reverse_nil,List.nil_append,List.cons_append,G.new_lg,G.put_lg,setLog_lg]
     refine dh [false,false,false,false,true,false,true,true] [(0,4),(1,4),(0,6),(1,6),(2,6),(3,6),(4,6),(5,6)] (by simp[All2,an,aH]) (by decide) ?_
     rintro p hp' x y hx hy
     simp only[List.mem_cons,List.not_mem_nil,or_false] at hp'
     rcases hp' with rfl | rfl | rfl | rfl | rfl | rfl | rfl | rfl<;>(simp at hx hy;subst hx;subst hy;refine mO rfl rfl rfl rfl ?_ ?_ ?_<;>simp[an,aH,ae]<;>omega)
    ·simp[H.get_put,k0]
    ·simp[H.get_put,k1]
    ·simp[H.get_put]
    ·have hS':Own g2 2 S_ 1 ((List.replicate n.nodes.length AV.nils).map fun v=>[v]):=by simpa using hS
     refine hS'.fr (by simp;omega) fun i hi=>?_
     have:=eE vS hi
     simp[H.get_put,show ¬i=g2.nx+1+1 by omega]
   clear h25 h2 h4 h6
   rintro t df g2 ⟨rfl,S_,q,⟨h2,h4,h6,h11,-⟩,hp⟩
   have hbl:=hN.len
   simp only[sz,simprocAttr,h6,fll,hfl]
   refine C7 (m:=n.nodes.length) (q:=q) (gr:=n.grain) (b:=b) (fl:=fl) (S_:=S_) (fs:=fs) hbl hl8 hfl2 hfl (fun i f hf=>?_) ⟨by simp[St,sx,h2,h4,h11],hp⟩ (by simp[sx]) (by simp[sx]) ?_
   ·have hi:=(List.getElem?_eq_some_iff.1 hf).1
    obtain ⟨x,hx,-,-⟩:=aG (l:=n.nodes) (j:=i) (by omega)
    obtain ⟨p,hpp,hf2⟩:=hfs i x hi hx
    rw[hf] at hf2;injection hf2 with hf2;subst hf2
    exact zh hr hx hpp
   clear h2 h4 h6 h11 hp
   rintro t g3 ⟨⟨h11,h2,h4,h45,-⟩,hp⟩
   obtain ⟨Vs,l,hS,hVl,hll,hal,hst⟩:=hp.hS
   rw[List.take_of_length_le (by omega)] at hal
   rw[hQf]
   have q2:=hp.q2.1
   simp only[sz,simprocAttr,jR,h11,h4,hp.hq,hp.h1]
   have hne:∀i,i≠1->(g3.h.put 1 (.cells 4 [[.int .i64 n.grain,b,fl,S_]] 0 false false)).get i=g3.h.get i:=fun i hi=>by simp[H.get_put,hi]
   refine ⟨fun _=>True,(n,fs,l),fun _=>⟨rfl,hfl,hfs,hll,hst⟩,_,_,rfl,⟨_,rfl,mu.2 ⟨b,fl,S_,rfl,hN.wide (Nat.le_refl 0),hfl2.wide (Nat.le_refl 0),?_⟩⟩,?_⟩
   ·have hS':Own (g3.put 1 (.cells 4 [[.int .i64 n.grain,b,fl,S_]] 0 false false)) 2 S_ 1 (Vs.map fun v=>[v]):=hS.fr (by simp) fun i hi=>by
     have:=(hS.lt hi).1
     simp[H.get_put,show ¬i=1 by omega]
    refine Own.sl (α:=List Int) hS' (by show l.length<_;omega) ?_ fun _ _=>trivial
    have hal2:∀(l:List (List Int)) (Vs:List AV),All2 (fun X v=>Own g3 (q+1) v 1 (X.map ci)) l Vs->(∀X∈l,X.length<9223372036854775808)->All2 (Rp.rp (fun _=>True) 0 (g3.put 1 (.cells 4 [[.int .i64 n.grain,b,fl,S_]] 0 false false)).h) l (Vs.map fun v=>[v]):=by
     intro l
     induction l with
     | nil=>intro Vs h _;cases Vs with
      | nil=>trivial
      | cons v Vs=>exact h.elim
     | cons X l ih=>intro Vs h hX;cases Vs with
      | nil=>exact h.elim
      | cons v Vs =>
       refine ⟨?_,ih Vs h.2 fun Y hY=>hX Y (by simp[hY])⟩
       have ho:Own (g3.put 1 (.cells 4 [[.int .i64 n.grain,b,fl,S_]] 0 false false)) (q+1) v 1 (X.map ci):=h.1.fr (by simp) fun i hi=>by
        have:=(h.1.lt hi).1
        simp[H.get_put,show ¬i=1 by omega]
       obtain ⟨_,e1,hh⟩:=ho.ints (k:=0) (hX X (by simp))
       exact mE.2 ⟨_,e1,hh⟩
    refine hal2 l Vs hal fun X hX=>?_
    obtain ⟨i,hi,he⟩:=List.mem_iff_getElem.1 hX
    have:=(hst i _ X (List.getElem?_eq_getElem (show i<fs.length by omega)) (by rw[List.getElem?_eq_getElem hi,he])).1
    omega
   ·rw[hs];exact a9.2 rfl
end
end Hx
end
