/- A part of the proof: an interpreter over abstract values, shown right against the model, and what the functions of the chapter compute on it. -/
import Derived.Test.YtkbieohddgjioaaHx13
set_option linter.unusedVariables false
set_option linter.unusedSimpArgs false
set_option linter.unnecessarySimpa false
section
namespace Hx
open Go
noncomputable section
section
variable {d f:Nat}{n:Net}{l:List Sp}{cut ctx vr ab:List Nat}{sz:Int}{b lv:AV}{pq pv pm pc px b1 b2:Nat}
theorem e_ (a s v:Nat):(S.am a s).testBit v=(a.testBit v&&!s.testBit v):=by rw[S.am,Nat.testBit_xor,Nat.testBit_and];cases a.testBit v<;>cases s.testBit v<;>rfl
theorem ET {a s m:Nat}(h:a<2 ^ m):S.am a s<2 ^ m:=An λv hv=>by rw[e_,Bool.and_eq_true] at hv;exact CQ h hv.1
theorem ew {vr:List Nat}{m:Nat}(h:∀x∈vr,x<2 ^ m)(i:Nat):vr[i]?.getD 0<2 ^ m:=by
 cases hg:vr[i]? with
 | none=>simpa using Nat.two_pow_pos m
 | some x=>exact h x (List.mem_of_getElem? hg)
theorem Of {q:Nat}(h1:q≠pv)(h2:q≠pq)(h3:q≠pm):¬As pq pv pm q:=by rintro (h | h | h)<;>contradiction
set_option maxHeartbeats 1000000 in
set_option maxRecDepth 20000 in
theorem JI {i:Nat}(hC:Srs n l cut ctx b lv pq pv pm pc px)(hL:LOk n l vr)(hT:Sta l vr cut ctx ab)(hb:(b1≠pv/\b1≠pq/\b1≠pm)/\b2≠pv/\b2≠pq/\b2≠pm)(hi:i<l.length)(hx:(S.sp l i).1 = -1)
  (ih:∀j,j<i->Gj d n l cut ctx vr ab sz b lv pq pv pm pc px b1 b2 f j):Gj d n l cut ctx vr ab sz b lv pq pv pm pc px b1 b2 (f+1) i:=by
 intro w st g0 K D hN hW hO hM kk;have hr:=hC.nr;have hl8:=hr.l2;obtain ⟨y1,y2,y3,y4⟩:=hL.j i hi hx;have t1:=hT.s1 i hi;have t2:=hT.s2 i hi hx;have t3:=hT.s3 i hi hx;have t4:=hT.s4 i hi hx;have hu:=hL.u i hi hx;obtain ⟨⟨xa,xb,xc⟩,hsp⟩:∃x,S.sp l i=x:=⟨_,rfl⟩;rw[hsp] at y1 y2 y3 y4 t2 t3 t4 hu;dsimp only at y1 y2 y3 y4 t2 t3 t4 hu;obtain ⟨le,rfl⟩:=Int.eq_ofNat_of_zero_le y1;obtain ⟨ri,rfl⟩:=Int.eq_ofNat_of_zero_le y3;rw[Int.toNat_natCast] at t2 t3 t4 hu;rw[Int.toNat_natCast] at t2 hu;have hxa:xa = -1:=by rw[hsp] at hx;exact hx
 subst hxa;obtain ⟨c,hc⟩:∃c,c=cut[i]?.getD 0:=⟨_,rfl⟩;rw[<-hc] at t2 t3 t4;obtain ⟨k,hk⟩:∃k:Key,k=((i:Int),S.aN w (ctx[i]?.getD 0)):=⟨_,rfl⟩;have hk8:K8 k:=by rw[hk];exact Je _ _ _
 have hk2:((i:Int),S.aN w (vr[i]?.getD 0 &&& ab[i]?.getD 0))=k:=by rw[hk,t1]
 have hcl:c<2 ^ n.nodes.length:=by rw[hc];exact ew hC.cb i
 have hnum:S.ax n l vr sz (f+1) i w (ab[i]?.getD 0) st=if eC st.1 k then (mgt st.1 k,st) else
   ((S.bw (S.ax n l vr sz f) n w (S.aa n c) le ri (ab[i]?.getD 0 ||| c) (st.1,w64 (st.2+1)) (S.aC n (S.aa n c))).1,
     Ju k (S.bw (S.ax n l vr sz f) n w (S.aa n c) le ri (ab[i]?.getD 0 ||| c) (st.1,w64 (st.2+1)) (S.aC n (S.aa n c))).1 sz (S.bw (S.ax n l vr sz f) n w (S.aa n c) le ri (ab[i]?.getD 0 ||| c) (st.1,w64 (st.2+1)) (S.aC n (S.aa n c))).2.1,
     (S.bw (S.ax n l vr sz f) n w (S.aa n c) le ri (ab[i]?.getD 0 ||| c) (st.1,w64 (st.2+1)) (S.aC n (S.aa n c))).2.2):=by
  rw[S.ax,if_pos hx,hk2];simp only[hsp,Int.toNat_natCast];rw[<-t2]
  rfl
 obtain ⟨n1,n2,n3,n4,n5⟩:=hN.s.nx;obtain ⟨d1a,d1b,d1c,d1d⟩:=hC.d1;obtain ⟨d2a,d2b,d2c⟩:=hC.d2;have hl12:=hN.l;rw[EU];refine gK fq (by simp[bo]) ?_;simp only[bo];refine be (P:=λt' df g'=>df=[]/\g'=g0/\St t' [(0,.int .i64 (i:Int)),(1,.hptr b1 0 0 0),(2,.hptr b2 0 0 0)]) ?_ ?_
 ·simp only[_root_.Hx.sz,simprocAttr];simp[St,sx]
 rintro t df g0 ⟨rfl,rfl,ht⟩;refine LQ hC hi hx hN ht λt g B6 hJ=>?_;rw[hsp,<-hk] at hJ;have hF1:=hJ.f;have hF1n:=hF1.nx;rw[iP];cases hh:eC st.1 k with
 | true =>
  rw[hh,if_pos rfl] at hnum;rw[hnum] at kk;refine Jo hk8 hM hJ hh λt h4=>?_;simp only[_root_.Hx.sz,simprocAttr,h4];exact kk g hJ.nh (hF1.mono λ_ h=>h.elim)
 | false =>
  rw[hh,if_neg (by simp)] at hnum;rw[hnum] at kk;obtain ⟨B5,hB5⟩:∃B5,B5=g0.nx:=⟨_,rfl⟩;have hb5:=hJ.b5;have hb6:=hJ.b6;have hln:=hJ.ln;refine LB hk8 hM hJ hh λt ht=>?_;rw[Ak];refine HW hC hb n1 hl12 hJ ht λt g3 n3' f3 l3 hN3 k9 ht=>?_;rw[<-hB5] at hb5 hln ht;clear hJ;obtain ⟨h9,h0,h1,h2,h5,h6,-⟩:=ht;have F3:Fx (As pq pv pm) g0 g3:=⟨by omega,λj hj hA=>by rw[f3 j (by omega) (λe=>hA (.inr (.inl e))),hF1.fr j hj id],λj hj=>by
   rcases l3 j hj with h | h | h
   ·rcases hF1.lg j h with h | h | h
    ·exact .inl h
    ·exact h.elim
    ·exact .inr (.inr h)
   ·exact .inr (.inl (.inr (.inl h)))
   ·exact .inr (.inr (by omega))⟩
  have k5:g3.h.get B5=.cells 3 [cs3 (-1,(le:Int),(ri:Int))] 0 false false:=by rw[f3 _ (by omega) (by omega),hb5]
  have k6:g3.h.get B6=kO9 k.1 k.2:=by rw[f3 _ (by omega) (by omega),hb6]
  obtain ⟨S0,hS0⟩:∃S0,S0=g.nx:=⟨_,rfl⟩;rw[<-hS0] at k9 h9;clear f3 l3 hb5 hb6;have e1:=hN3.e1;have q3:=hN3.s.q;obtain ⟨x1,x2⟩:=ja (l:=cut) (i:=i) (by rw[hC.cl];exact hi);rw[<-hc] at x2;have rx:=cq (sz:=1) (m:=cut.length) hN3.s.c (by simp);have hB6n:B6<g3.nx:=by omega
  have hS0n:S0<g3.nx:=by omega
  have hB5n:B5<g3.nx:=by omega
  obtain ⟨rr,hrr⟩:∃rr:Nat->Int×MSt,rr=S.bw (S.ax n l vr sz f) n w (S.aa n c) le ri (ab[i]?.getD 0 ||| c) (st.1,w64 (st.2+1)):=⟨_,rfl⟩;rw[<-hrr] at kk;have rr0:rr 0=(0,(st.1,w64 (st.2+1))):=by rw[hrr];rfl
  refine bM (P:=λt df g'=>∃M,df=[.mark M]/\g3.nx<=M/\M<g'.nx/\g'.h.get M=.dfr true/\NH n cut ctx sz b lv pq pv pm pc px b1 b2 (rr (S.aC n (S.aa n c))).2 w g'/\g'.h.get B6=kO9 k.1 k.2/\g'.h.get S0=.cells 1 [[.int .i64 (rr (S.aC n (S.aa n c))).1]] 0 false false/\Fx (As pq pv pm) g0 g'/\St t [(1,.hptr b1 0 0 0),(6,.hptr B6 0 0 0),(9,.hptr S0 0 0 0)]) ?_ ?_
  rotate_left
  ·rintro t df g5 ⟨M,rfl,m1,m2,m3,hN5,k65,k95,F5,h1,h6,h9,-⟩;have hMk:Mok (rr (S.aC n (S.aa n c))).2.1:=by rw[hrr];exact vE (rec:=S.ax n l vr sz f) (st:=(st.1,w64 (st.2+1))) (λi w ab st h=>vD f i w ab st h) hM _
   have n1m:pm<g3.nx:=by omega
   refine Oh hC hb hk8 hMk hN5 k65 k95 (by omega) h1 h6 h9 λt g6 h4 hN6 F6 f6=>?_;have F6n:=F6.nx;simp only[_root_.Hx.sz,simprocAttr];refine mZ (by rw[f6 M (by omega),m3]) ?_;simp only[_root_.Hx.sz,simprocAttr,h4];refine kk _ (hN6.set (S0:=M) (by omega) (by simp) λj hj=>by rw[G.put_h,ae _ _ _ hj]) ?_;exact ((F5.trans (F6.mono λi hi _=>(.inr (.inr hi):As pq pv pm i)))).put (.inr (by omega)) _
  refine bM (P:=λt df g'=>df=[]/\∃a1,g3.nx<=a1/\a1+1<g'.nx/\g'.h.get a1=.cells 1 [[.hptr pq 0 0 0]] 0 false false/\g'.h.get (a1+1)=.cells 1 [[.int .u64 (c:Int)]] 0 false false/\(∀j,j<g3.nx->g'.h.get j=g3.h.get j)/\(∀j∈g'.lg,j∈g3.lg\/g3.nx<=j)/\tat t 61=.clo N.ay [] [.hptr a1 0 0 0,.hptr (a1+1) 0 0 0]/\St t ((9,.hptr S0 0 0 0)::LJo i b1 b2 B5 B6)) ?_ ?_
  ·simp only[_root_.Hx.sz,simprocAttr,sf,h0,h1,e1,q3,N3,bm,rx,x1,x2,cu];refine yK ?_;simp only[_root_.Hx.sz,simprocAttr,sf,jA];refine ⟨?_,g3.nx+1+1+1+1+1+1+1+1,by omega,by omega,by simp,by simp,λj hj=>?_,λj hj=>?_,?_⟩
   ·simp only[List.reverse_cons,List.reverse_nil,List.nil_append,List.cons_append];exact aF [false,false,false,false,false,false,false,false,true] [] (by simp[All2,ac,ay,cD]) (by decide) (by simp)
   ·rw[if_neg (by omega),if_neg (by omega)]
   ·simp at hj;rcases hj with h | h | h
    ·exact .inr (by omega)
    ·exact .inr (by omega)
    ·exact .inl h
   ·simp[St,LJo,sx,h0,h1,h2,h5,h6,h9]
  clear h0 h1 h2 h5 h6 h9;rintro t df g4 ⟨rfl,a1,a2,a3,a4,a5,f4,l4,h61,h9,h0,h1,h2,h5,h6,-⟩;have hMr:∀j,Mok (rr j).2.1:=λj=>by rw[hrr];exact vE (rec:=S.ax n l vr sz f) (st:=(st.1,w64 (st.2+1))) (λi w ab st h=>vD f i w ab st h) hM _
  have rrs:∀j,rr (j+1)=(w64 ((rr j).1+w64 ((S.ax n l vr sz f le (S.aw n w (S.aa n c) j) (ab[le]?.getD 0) (rr j).2).1*(S.ax n l vr sz f ri (S.aw n w (S.aa n c) j) (ab[ri]?.getD 0) (S.ax n l vr sz f le (S.aw n w (S.aa n c) j) (ab[le]?.getD 0) (rr j).2).2).1)),(S.ax n l vr sz f ri (S.aw n w (S.aa n c) j) (ab[ri]?.getD 0) (S.ax n l vr sz f le (S.aw n w (S.aa n c) j) (ab[le]?.getD 0) (rr j).2).2).2):=λj=>by rw[hrr,t3,t4];rfl
  have hN4:=hN3.fr (g':=g4) (by omega) f4;have F4:Fx (As pq pv pm) g0 g4:=⟨by omega,λj hj hA=>by rw[f4 j (by omega),F3.fr j hj hA],λj hj=>by
   rcases l4 j hj with h | h
   ·exact F3.lg j h
   ·exact .inr (.inr (by omega))⟩
  have hs0:b2≠S0/\B5≠S0/\pv≠S0/\pq≠S0/\pm≠S0/\pc≠S0/\px≠S0/\b1≠S0:=by omega
  have hb5n:(B5≠pv/\B5≠pq/\B5≠pm)/\S0≠pv/\S0≠pq/\S0≠pm:=by omega
  have hnA:∀q,q=a1\/q=a1+1\/q=B5\/q=B6\/q=b1\/q=b2->¬As pq pv pm q/\q≠S0/\q<g4.nx:=by rintro q (rfl | rfl | rfl | rfl | rfl | rfl)<;>exact ⟨Of (by omega) (by omega) (by omega),by omega,by omega⟩
  have hWo:∀(x j:Nat),x=le\/x=ri->Wo vr ab (S.aw n w (S.aa n c) j) x:=by
   intro x j hxx v hv1 hv2;have hab:ab[x]?.getD 0=ab[i]?.getD 0 ||| c:=by rcases hxx with rfl | rfl;exact t3;exact t4
   rw[hab,da,Bool.or_eq_false_iff] at hv2;have hvi:(vr[i]?.getD 0).testBit v=true:=by
    rw[hu,da,Bool.or_eq_true];rcases hxx with rfl | rfl
    ·exact .inl hv1
    ·exact .inr hv1
   rw[tv]
   ·exact hO v hvi hv2.1
   ·intro hm;have:=(jC.1 hm).2;rw[this] at hv2;exact absurd hv2.2 (by simp)
  simp only[_root_.Hx.sz,simprocAttr,dZ];refine FH (b1:=a1) (b2:=a1+1) (pq:=pq) (pv:=pv) (pm:=pm) (s:=c) (size:=sz) (w:=w) (b:=b) (lv:=lv) (cv:=.hsl pc 0 0 cut.length none) (xv:=.hsl px 0 0 ctx.length none) hr hC.nb hcl h61 (by decide) ⟨by omega,by omega,by omega⟩ (λu hu2=>?_)
   (λj g'=>Srh n cut ctx sz b lv pq pv pm pc px (rr j).2 g'/\(∀q,q=a1\/q=a1+1\/q=B5\/q=B6\/q=b1\/q=b2->g'.h.get q=g4.h.get q)/\g'.h.get S0=.cells 1 [[.int .i64 (rr j).1]] 0 false false/\Fx (As pq pv pm) g0 g') ?_ ⟨by omega,by omega,Ne.symm d1a,by omega⟩ ?_ ⟨by rw[rr0];exact hN4.s,λ_ _=>rfl,by rw[f4 _ (by omega),k9,rr0],F4⟩ hN4.v ?_ ?_
  ·have hub:=(jC.1 hu2).2;rw[t2,e_,Bool.and_eq_true,Bool.not_eq_true',Nat.testBit_and,Bool.and_eq_true] at hub;exact hO u (by rw[hu,da,Bool.or_eq_true];exact .inl hub.1.1) hub.2
  ·rintro j g' ⟨q1,q2,q3,q4⟩;exact ⟨by rw[q2 _ (.inl rfl),a4],by rw[q2 _ (.inr (.inl rfl)),a5],_,q1.q⟩
  ·rintro j ga gb hn hf hl ⟨q1,q2,q3,q4⟩;refine ⟨q1.fr hn λi hi=>?_,λq hq=>by rw[hf q (by omega) (by omega),q2 q hq],by rw[hf _ (by omega) (by omega),q3],⟨by have:=q4.nx;omega,λi hi hp=>by rw[hf i (by omega) (λe=>hp (.inl e)),q4.fr i hi hp],λi hi=>?_⟩⟩
   ·rcases hi with rfl | rfl | rfl | rfl
    ·exact hf _ (by omega) (Ne.symm d1a)
    ·exact hf _ (by omega) d2a
    ·exact hf _ (by omega) d2b
    ·exact hf _ (by omega) d2c
   ·rcases hl i hi with h | h | h
    ·exact q4.lg i h
    ·exact .inr (.inl (.inl h))
    ·exact .inr (.inr (by omega))
  ·rintro j ga hj ⟨q1,q2,q3,q4⟩ hVj hn;have hNj:NH n cut ctx sz b lv pq pv pm pc px b1 b2 (rr j).2 (S.aw n w (S.aa n c) j) ga:=⟨q1,hVj,by rw[q2 _ (by omega),hN4.e1],by rw[q2 _ (by omega),hN4.e2],by have:=q4.nx;omega⟩;refine Og (B5:=B5) (S0:=S0) (le:=le) (ri:=ri) (st:=(rr j).2) (s:=(rr j).1) hb5n hs0 hNj (J4 hr hW c j) (hMr j) (ih le (by omega)) (ih ri (by omega)) (hWo le j (.inl rfl)) (hWo ri j (.inr rfl)) (by rw[q2 _ (by omega),f4 _ hB5n,k5]) q3 ⟨by omega,by omega⟩ (by simp[sx,h2]) (by simp[sx,h5]) (by simp[sx,h9]) rfl rfl λt' gb hNb k9b Fb=>?_;have Fbn:=Fb.nx;have fb:∀q,q<ga.nx->¬As pq pv pm q->q≠S0->gb.h.get q=ga.h.get q:=λq h1 h2 h3=>Fb.fr q h1 λh=>h.elim h2 h3;have hAs:∀q,As pq pv pm q->q<g0.nx:=λq hq=>by rcases hq with rfl | rfl | rfl<;>assumption
   refine ⟨rfl,rfl,Fbn,λq h1 h2=>fb q h2 (λh=>by have:=hAs q h;omega) (by omega),⟨by rw[rrs];exact hNb.s,λq hq=>?_,by rw[rrs];exact k9b,⟨by omega,λq hq hA=>by rw[fb q (by omega) hA (by omega),q4.fr q hq hA],λq hq=>?_⟩⟩,hNb.v⟩
   ·obtain ⟨w1,w2,w3⟩:=hnA q hq;rw[fb q (by omega) w1 w2,q2 q hq]
   ·rcases Fb.lg q hq with h | (h | h) | h
    ·exact q4.lg q h
    ·exact .inr (.inl h)
    ·exact .inr (.inr (by omega))
    ·exact .inr (.inr (by omega))
  ·rintro g' ⟨q1,q2,q3,q4⟩ hV' hn hdf;simp only[_root_.Hx.sz,simprocAttr];have hN6:NH n cut ctx sz b lv pq pv pm pc px b1 b2 (rr (S.aC n (S.aa n c))).2 w g':=⟨q1,hV',by rw[q2 _ (by omega),hN4.e1],by rw[q2 _ (by omega),hN4.e2],by have:=q4.nx;omega⟩;exact ⟨_,rfl,by omega,by omega,hdf,hN6,by rw[q2 _ (by omega),f4 _ hB6n,k6],q3,q4,by simp[St,h1,h6,h9]⟩
theorem NO (hd:0<d)(hC:Srs n l cut ctx b lv pq pv pm pc px)(hL:LOk n l vr)(hT:Sta l vr cut ctx ab)(hb:(b1≠pv/\b1≠pq/\b1≠pm)/\b2≠pv/\b2≠pq/\b2≠pm):∀f i,i<f->i<l.length->Gj d n l cut ctx vr ab sz b lv pq pv pm pc px b1 b2 f i:=by
 intro f
 induction f with
 | zero=>intro i h;omega
 | succ f ihf =>
  intro i h hi
  by_cases hx:(S.sp l i).1 = -1
  ·exact JI hC hL hT hb hi hx λj hj=>ihf j (by omega) (by omega)
  ·exact JJ hd hC hL hb hi hx
set_option maxRecDepth 20000 in
theorem L8 {w:List Int}{g:G}{K:AV->G->Prop}{D:ADf->Prop}(hd:0<d)(hC:Srs n l cut ctx b lv pq pv pm pc px)(hL:LOk n l vr)(hT:Sta l vr cut ctx ab)(hl:0<l.length)(hS:Srh n cut ctx sz b lv pq pv pm pc px ([],0) g)(hW:Wv n w)(hV:Vs n pv w g)(hO:Wo vr ab w (l.length - 1))
  (kk:∀g',Srh n cut ctx sz b lv pq pv pm pc px (S.ax n l vr sz l.length (l.length - 1) w 0 ([],0)).2 g'->Fx (As pq pv pm) g g'->K (.int .i64 (S.ax n l vr sz l.length (l.length - 1) w 0 ([],0)).1) g') :
  (ax C0 d N.aV [.hptr pq 0 0 0] g).sat K g D:=by
 obtain ⟨n1,n2,n3,n4,n5⟩:=hS.nx;have hll:=hC.ll;rw[lF];refine gK m7 (by simp[dF]) ?_;have hbx:∀g:G,vX (.hptr pq 0 0 0) g=.upd (.hptr g.nx 0 0 0) (g.new (.cells 1 [[.hptr pq 0 0 0]] 0 false false)):=λg=>rfl;have hcs:∀(g:G) (a b:Nat),cM (.cells 1 [[.nilf]] 0 false false) g b 0 0 1 0 (.clo N.aW [] [.hptr a 0 0 0,.hptr b 0 0 0])=.upd .undef (g.put b (.cells 1 [[H4 a b]] 0 false false)):=λg a b=>by
  rw[br 1 _ 0 false g b 0 1 0 _ rfl rfl]
  rfl
 simp only[dF];refine be (P:=λt' df g'=>df=[]/\g'.nx=g.nx+1/\g'.h.get g.nx=.cells 1 [[.hptr pq 0 0 0]] 0 false false/\Fx (λ_=>False) g g'/\St t' [(1,.hptr g.nx 0 0 0)]) ?_ ?_
 ·simp only[_root_.Hx.sz,simprocAttr,hbx];exact ⟨Fx.new _ _ _,by simp[St,sx]⟩
 rintro t df g1 ⟨rfl,k1,kB,F1,h1,-⟩;simp only[fP];refine be (P:=λt' df g'=>df=[]/\g'.nx=g.nx+2/\g'.h.get g.nx=.cells 1 [[.hptr pq 0 0 0]] 0 false false/\g'.h.get (g.nx+1)=.cells 1 [[.nilf]] 0 false false/\Fx (λ_=>False) g g'/\St t' [(1,.hptr g.nx 0 0 0),(3,.hptr (g.nx+1) 0 0 0)]) ?_ ?_
 ·simp only[_root_.Hx.sz,simprocAttr,k1];exact ⟨by simp[kB],F1.trans (Fx.new _ _ _),by simp[St,sx,h1]⟩
 clear h1;rintro t df g2 ⟨rfl,k2,kB2,kB12,F2,h1,h3,-⟩;refine be (P:=λt' df g'=>df=[]/\g'.nx=g.nx+2/\g'.h.get g.nx=.cells 1 [[.hptr pq 0 0 0]] 0 false false/\g'.h.get (g.nx+1)=.cells 1 [[H4 g.nx (g.nx+1)]] 0 false false/\Fx (λ_=>False) g g'/\St t' [(1,.hptr g.nx 0 0 0),(3,.hptr (g.nx+1) 0 0 0)]) ?_ ?_
 ·simp only[_root_.Hx.sz,simprocAttr,h1,h3,kB12,hcs];exact ⟨k2,by simp[kB2],F2.put (.inr (by omega)) _,by simp[St,sx,h1,h3]⟩
 clear h1 h3;rintro t df g3 ⟨rfl,k3,kB3,kB13,F3,h1,h3,-⟩;have hS3:Srh n cut ctx sz b lv pq pv pm pc px ([],0) g3:=hS.fr F3.nx λi hi=>F3.fr i (by rcases hi with rfl | rfl | rfl | rfl<;>assumption) id;have hV3:Vs n pv w g3:=hV.fr (F3.fr pv n2 id);have q3:=hS3.q;have lvl:∀g:G,eB .slice lv g=.val (.int .i64 (l.length:Int)):=λg=>hC.sl.len g;have w1:IntKind.wrap .i64 ((l.length:Int) - 1)=((l.length - 1:Nat):Int):=by rw[an (by omega) (by omega)];omega
 have hb:(g.nx≠pv/\g.nx≠pq/\g.nx≠pm)/\g.nx+1≠pv/\g.nx+1≠pq/\g.nx+1≠pm:=by omega
 simp only[_root_.Hx.sz,simprocAttr,sf,h1,h3,kB3,kB13,q3,N2,bm,lvl,w1];refine NO hd hC hL hT hb l.length (l.length - 1) (by omega) (by omega) w ([],0) _ _ _ (NH.fr ⟨hS3,hV3,kB3,kB13,by omega⟩ (by simp;omega) λj hj=>by simp) hW hO (λp hp=>by simp at hp) λg4 hN4 F4=>?_;have e0:ab[l.length - 1]?.getD 0=0:=hT.s0;rw[e0] at hN4 ⊢;simp only[_root_.Hx.sz,simprocAttr,sf];have F4n:g3.nx<=g4.nx:=by have:=F4.nx;simp at this;omega
 refine ⟨?_,?_⟩
 ·simp only[List.reverse_cons,List.reverse_nil,List.nil_append,List.cons_append];exact aF [false,false,false,false,false,false,false,true,false] [] (by simp[All2,ac,ay,Ij]) (by decide) (by simp)
 ·refine kk _ (hN4.s.fr (by simp;omega) λi hi=>by simp) ⟨by simp;omega,λj hj hA=>?_,λj hj=>?_⟩
  ·have:=F4.fr j (by simp;omega) hA;simp at this;simp[this,F3.fr j hj id]
  ·simp at hj;rcases hj with h | h
   ·have:=F4.lg j h;simp at this;rcases this with h | h
    ·exact .inr (.inl h)
    ·exact .inr (.inr (by omega))
   ·exact (F3.lg j h).imp id λh=>h.elim False.elim .inr
end
end
end Hx
end
section
namespace Hx
open Go
noncomputable section
theorem nN {g:G}{id m i:Nat}{x:Nat}{V:List Nat}{lo:Bool}(h:g.h.get id=.cells 1 (V.map cu) 0 lo false)(hi:i<V.length):iO 1 (ik 1 (.hsl id 0 0 m none) i 0) (.int .u64 (x:Int)) g=.upd .undef (g.put id (.cells 1 ((V.set i x).map cu) 0 lo false)):=by obtain ⟨-,hr⟩:=ja hi;simp only[ik,Nat.zero_add];exact (oG (n:=1) (off:=0) (ep:=0) h hr rfl rfl rfl (row':=cu x) rfl).trans (by rw[List.map_set])
def jL (ev lv:AV)(pq iv ia m:Nat):List (Nat×AV):=[(1,ev),(2,lv),(9,.hptr pq 0 0 0),(10,.hsl iv 0 0 m none),(11,.hsl ia 0 0 m none)]
set_option maxRecDepth 20000 in
theorem Oo {d k iv ia pq i:Nat}{n:Net}{e fam:List Int}{V:List Nat}{ev lv fv ll:AV}{m:Nat}{Q:QT}{t:T}{g:G}(hfm:∀p∈fam,0<=p/\p<(n.nodes.length:Int))(hfl:fam.length<=9)(hn8:n.nodes.length<=8)(he:∀h,SlR NoP k h e ev)(hel:e.length=n.nodes.length)
  (hV:g.h.get iv=.cells 1 (V.map cu) 0 false false) (hm:m=V.length) (hi:i<V.length) (hFv:∀g':G,(∀j,j≠iv->g'.h.get j=g.h.get j)->ah g'.h 1 fv=some (fam.map ci)) (hz:V[i]?.getD 0=0)
  (ht:St t (jL ev lv pq iv ia m)) (h12:tat t 12=.int .i64 (i:Int)) (h82:tat t 82=fv) (h83:tat t 83=.int .i64 (fam.length:Int)) (h84:tat t 84=.int .i64 0) (h44:tat t 44=ll) (h45:tat t 45=.int .i64 (m:Int)) (h46:tat t 46=.int .i64 (i:Int))
  (fin:∀t g',St t (jL ev lv pq iv ia m)->tat t 44=ll->tat t 45=.int .i64 (m:Int)->tat t 46=.int .i64 (i:Int)->g'.h.get iv=.cells 1 ((V.set i (S.aQ e fam)).map cu) 0 false false->(∀j,j≠iv->g'.h.get j=g.h.get j)->g.nx<=g'.nx->(∀j∈g'.lg,j∈g.lg\/j=iv)->Q (.exit 2) t [] g') :
  wpL (wp C0 d none cY) Q t [] g:=by
 have re:=λh=>(he h).ints;have key:∀l:List Int,(∀p∈l,0<=p/\p<(n.nodes.length:Int))->S.aQ e l<256:=λl hl=>by
  have:S.aQ e l<2 ^ 8:=An λu hu=>by obtain ⟨p,h1,h2,-⟩:=(vy (λp hp=>by have:=hl p hp;omega) u).1 hu;have:=hl p h1;omega
  exact this
 have hset0:V.set i 0=V:=by
  refine List.ext_getElem? λj=>?_;rw[List.getElem?_set]
  by_cases c:i=j
  ·subst c;rw[if_pos rfl,if_pos hi,List.getElem?_eq_getElem hi];rw[List.getElem?_eq_getElem hi,Option.getD_some] at hz;rw[hz]
  ·rw[if_neg c]
 simp only[cY,fK];refine bk (m:=fam.length) (by omega) (λj t df g'=>df=[]/\St t ((12,.int .i64 (i:Int))::(82,fv)::(44,ll)::(45,.int .i64 (m:Int))::(46,.int .i64 (i:Int))::jL ev lv pq iv ia m)/\g'.h.get iv=.cells 1 ((V.set i (S.aQ e (fam.take j))).map cu) 0 false false/\(∀j,j≠iv->g'.h.get j=g.h.get j)/\g.nx<=g'.nx/\(∀j∈g'.lg,j∈g.lg\/j=iv))
  ⟨rfl,⟨h12,h82,h44,h45,h46,ht⟩,by simpa [S.aQ,hset0] using hV,λ_ _=>rfl,Nat.le_refl _,λ_ h=>.inl h⟩ h84 h83 (by decide)
  (by rintro j t df g v s (rfl | rfl | rfl) ⟨rfl,⟨a1,a2,a3,a4,a5,a6,a7,a8,a9,a10,-⟩,r⟩<;>exact ⟨rfl,by simp[St,jL,sx,a1,a2,a3,a4,a5,a6,a7,a8,a9,a10],r⟩) ?_ ?_
 ·clear ht h12 h82 h83 h84 h44 h45 h46;rintro j t df g1 hj ⟨rfl,⟨h12,h82,h44,h45,h46,h1,h2,h9,h10,h11,-⟩,hv,hf,hn,hlg⟩ h84 h83;obtain ⟨p,hp,hpt,hpm⟩:=ak hj;obtain ⟨p0,p1⟩:=hfm p hpm;obtain ⟨v,rfl⟩:=Int.eq_ofNat_of_zero_le p0;have rf:=hFv g1 hf;have a1:j<(fam.map ci).length:=by simpa using hj
  have a2:(fam.map ci)[j]?=some (ci (v:Int)):=by rw[List.getElem?_map,hp];rfl
  obtain ⟨b1,b2⟩:=EL (l:=e) (i:=v) (by omega);have k1:=key (fam.take j) λq hq=>hfm q (List.mem_of_mem_take hq);have e1:=y8 e (fam.take j) (v:Int);rw[<-hpt,Int.toNat_natCast] at e1;have rv:=cq (sz:=1) (m:=m) hv (by simp[hm]);have hil:i<(V.set i (S.aQ e (fam.take j))).length:=by simpa using hi
  obtain ⟨c1,c2⟩:=ja hil;rw[List.getElem?_set_self hi,Option.getD_some] at c2
  by_cases c:e[v]?.getD 0 = -1
  ·rw[if_pos c] at e1;have or1:=tP (S.aQ e (fam.take j)) (S.aO v) (by omega) (ro v);rw[<-e1] at or1;have sc:=λ(g':G) (h:g'.h.get iv=.cells 1 ((V.set i (S.aQ e (fam.take j))).map cu) 0 false false)=>nN (m:=m) (x:=S.aQ e (fam.take (j+1))) h hil;simp only[sz,simprocAttr,sf,h1,h10,h12,h82,h84,rf,a1,a2,re,b1,b2,ci,c,rv,c1,c2,cu,lL,or1,sc,hv,List.set_set];refine ⟨?_,?_⟩
   ·simp only[List.reverse_cons,List.reverse_nil,List.nil_append,List.cons_append];exact aF [false,false,false,false,false,false,false,false,true] [] (by simp[All2,ac,ay]) (by decide) (by simp)
   ·refine ⟨⟨by simp[St,jL,sx,h1,h2,h9,h10,h11,h12,h82,h44,h45,h46],λj hj=>by rw[if_neg hj,hf j hj],by omega,λj hj=>?_⟩,h83⟩;simp at hj;rcases hj with rfl | hj
    ·exact .inr rfl
    ·exact hlg j hj
  ·rw[if_neg c] at e1;rw[<-e1] at hv;simp only[sz,simprocAttr,sf,h1,h10,h12,h82,h84,rf,a1,a2,re,b1,b2,ci,c];exact ⟨⟨by simp[St,jL,sx,h1,h2,h9,h10,h11,h12,h82,h44,h45,h46],hv,hf,hn,hlg⟩,h83⟩
 ·rintro t df g' ⟨rfl,⟨h12,h82,h44,h45,h46,ht⟩,hv,hf,hn,hlg⟩;rw[List.take_length] at hv;exact fin t g' ht h44 h45 h46 hv hf hn hlg
set_option maxRecDepth 20000 in
theorem Ot {d i v iv ia pq B13:Nat}{n:Net}{gr size c:Int}{b lv vv cv xv ev ll:AV}{pm m:Nat}{x:Sp}{t:T}{g:G}(hr:NR n)(hnb:SlR NoP 0 .nil n.nodes b)(hv:v<n.nodes.length)(hq:g.h.get pq=srO gr size c b lv vv cv xv pm)(hB:g.h.get B13=.cells 3 [cs3 ((v:Int),x.2.1,x.2.2)] 0 false false)(hlt:pq<g.nx/\B13<g.nx)
  (ht:St t (jL ev lv pq iv ia m)) (h12:tat t 12=.int .i64 (i:Int)) (h13:tat t 13=.hptr B13 0 0 0) (h44:tat t 44=ll) (h45:tat t 45=.int .i64 (m:Int)) (h46:tat t 46=.int .i64 (i:Int)) {Q:QT}
  (fin:∀t g' fv,St t (jL ev lv pq iv ia m)->tat t 12=.int .i64 (i:Int)->tat t 44=ll->tat t 45=.int .i64 (m:Int)->tat t 46=.int .i64 (i:Int)->tat t 82=fv->tat t 83=.int .i64 ((S.aI n v).length:Int)->tat t 84=.int .i64 0->Own g' g.nx fv 1 ((S.aI n v).map ci)->Fx (λ_=>False) g g'->Q .norm t [] g') :
  wp C0 d none (.feet [0,1,3,7,15,0,32,127,255,511,1023,0,2048,6144,16383,32767,0] [oM 68 9,o 69 (.nilc (.t 68)),oF 70 0 69,oF 71 1 70,oL 72 71,oF 73 0 13,oL 74 73,o 75 (.ixs 3 (.t 72) (.t 74)),oF 76 1 75,oL 77 76,o 78 (.call N.ah [.t 77]),oF 79 0 13,oL 80 79,o 81 (.bsl 1 1 [.int .i64 0] [0] [.t 80]),o 82 (.app 1 8 (.t 78) (.t 81)),oN 83 82,oK 84 0]) Q t [] g:=by
 obtain ⟨h1,h2,h9,h10,h11,-⟩:=ht;obtain ⟨rows,r1,r2,r3,r4⟩:=hnb.all;have r1:∀h',ah h' 3 b=some rows:=r1;obtain ⟨y,hy,-,hym⟩:=ak hv;obtain ⟨row,q1,q2⟩:=r3 v y hy;obtain ⟨pa,ra,rfl,hpa,-⟩:=dh.1 q2;have hlt2:v<rows.length:=by omega
 have hry:=r4 (by omega);have hpl:=lj (hr.places y hym) (by omega);have hl8:=hr.l2;have hfl:S.aI n v=y.parents++[(v:Int)]:=by simp[S.aI,hy]
 simp only[sz,simprocAttr,sf,h9,h13,hB,cs3,hq,OK,bm,r1,hlt2,q1,hry];refine tZ hpa (by omega) λu g1 hu hf hlg=>?_;have oU:=hu.own;have n1:g.nx+10<=g1.nx:=by have:=hf.1;simp at this;omega
 have f1:∀i,i<g.nx+10->g1.h.get i=g.h.get i:=λi hi=>by have:=hf.2 i (by simp;omega);simpa using this
 have l1:∀i∈g1.lg,g.nx+10<=i/\i<g1.nx:=λi hi=>by have:=hlg i hi;simp at this;omega
 have oU:Own g1 (g.nx+10) u 1 (y.parents.map ci):=by simpa using oU
 clear hf hlg hu;have b1':g1.h.get B13=.cells 3 [[.int .i64 (v:Int),.int .i64 x.2.1,.int .i64 x.2.2]] 0 false false:=by rw[f1 _ (by omega),hB];rfl
 simp only[sz,simprocAttr,sf,h13,b1',vp];refine lK (new:=[ci (v:Int)]) (oU.fr (by simp;omega) λi hi=>?_) (by simp[sx,sy,ci]) (by simp;omega) (by simp[aW];omega) λv2 g2 hv2 n2 f2 c2 l2=>?_
 ·have:=(oU.lt hi).2;simp[H.get_put];omega
 simp only[sz,simprocAttr] at n2 f2 l2;have l2':∀i∈g2.lg,vid u=some i\/g1.nx+1+1+1+1+1<=i/\i<g2.nx:=λi hi=>by simpa using l2 i hi
 have vl:=hv2.sat_len;have rb:=hnb.refs;have rp1:∀i,af (ik 3 b v i)=[]:=λi=>by rw[uF hry,rb]
 have rpa:=hpa.refs;have spa:=λh:H=>AK (hpa.tree (h':=h) (Nat.le_refl 0));have pn:=hlt.1;simp only[sz,simprocAttr,sf,vl,dy];refine ⟨?_,?_⟩
 ·simp only[List.reverse_cons,List.reverse_nil,List.nil_append,List.cons_append];refine aF [false,false,false,false,false,false,false,false,false,false,true,false,false,true,true,false,false] [(0,13),(1,13),(2,13),(3,13),(4,13),(5,13),(6,13),(7,13),(8,13),(9,13),(10,13),(10,11),(10,12),(10,16),(13,16),(14,16)] (by simp[All2,ac,ay]) (by decide) ?_;intro p hp y z hx hy;simp only[List.mem_cons,List.not_mem_nil,or_false] at hp;rcases hp with rfl | rfl | rfl | rfl | rfl | rfl | rfl | rfl | rfl | rfl | rfl | rfl | rfl | rfl | rfl | rfl<;>(simp only[List.getElem?_cons_zero,List.getElem?_cons_succ,Option.some.injEq] at hx hy;subst hx;subst hy;refine bV rfl rfl rfl rfl ?_ ?_ ?_<;>simp[ac,ay,gE,oB,rb,rp1,rpa,spa])
  all_goals first | omega | exact λi hi=>by have:=l1 i hi;omega
 ·refine fin _ _ v2 (by simp[St,jL,sx,h1,h2,h9,h10,h11]) (by simp[sx,h12]) (by simp[sx,h44]) (by simp[sx,h45]) (by simp[sx,h46]) (by simp[sx]) (by simp[sx];rw[hfl];simp) (by simp[sx]) ?_ ⟨by simp;omega,λi hi _=>?_,λi hi=>?_⟩
  ·rw[hfl,List.map_append];exact Co (hv2.fr (by simp;omega) λi hi=>by simp) (by omega)
  ·have h2:=f2 i (by omega) (λe=>by have:=oU.lt e;omega);rw[if_neg (by omega)] at h2;simp[h2,f1 i (by omega)]
  ·simp at hi;rcases hi with hi | rfl | hi | hi
   ·rcases l2' i hi with h | h
    ·have:=oU.lt h;exact .inr (.inr (by omega))
    ·exact .inr (.inr (by omega))
   ·exact .inr (.inr (by omega))
   ·have:=l1 i hi;exact .inr (.inr (by omega))
   ·exact .inl hi
end
end Hx
end
section
namespace Hx
open Go
structure LEl (n:Net) (l:List Sp):Prop where
 j:∀i,i<l.length->(S.sp l i).1 = -1->0<=(S.sp l i).2.1/\(S.sp l i).2.1<(i:Int)/\0<=(S.sp l i).2.2/\(S.sp l i).2.2<(i:Int)
 f:∀i,i<l.length->(S.sp l i).1≠-1->0<=(S.sp l i).1/\(S.sp l i).1<(n.nodes.length:Int)
theorem ij (n:Net)(e:List Int)(l:List Sp):∀j,(S.aJ n e l j).length=j
 | 0=>rfl
 | j+1=>by rw[S.aJ,List.length_append,ij n e l j];rfl
theorem Em {n:Net}{e:List Int}{l:List Sp}(hr:NR n)(hl:LEl n l):∀j,j<=l.length->∀x∈S.aJ n e l j,x<2 ^ n.nodes.length
 | 0,_,x,hx=>by simp[S.aJ] at hx
 | j+1,hj,x,hx=>by
  have ih:=Em (e:=e) hr hl j (by omega);rw[S.aJ,List.mem_append,List.mem_singleton] at hx;rcases hx with hx | rfl
  ·exact ih x hx
  ·split
   ·exact Nat.or_lt_two_pow (ew ih _) (ew ih _)
   ·rename_i c;have:=hl.f j (by omega) c;exact EY hr (by omega) e
def S.aU (n:Net)(e:List Int)(l:List Sp)(j:Nat):List Nat:=S.aJ n e l j++List.replicate (l.length - j) 0
theorem Mq {n:Net}{e:List Int}{l:List Sp}{j:Nat}(h:j<=l.length):(S.aU n e l j).length=l.length:=by rw[S.aU,List.length_append,ij,List.length_replicate];omega
theorem Mp {n:Net}{e:List Int}{l:List Sp}{j i:Nat}(h:i<j):(S.aU n e l j)[i]?.getD 0=(S.aJ n e l j)[i]?.getD 0:=by rw[S.aU,List.getElem?_append_left (by rw[ij];exact h)]
theorem KG {n:Net}{e:List Int}{l:List Sp}{j:Nat}(h:j<l.length):(S.aU n e l j)[j]?.getD 0=0:=by rw[S.aU,List.getElem?_append_right (by rw[ij];exact Nat.le_refl _),ij,Nat.sub_self,List.getElem?_replicate,if_pos (by omega)];rfl
theorem F_ {n:Net}{e:List Int}{l:List Sp}{j x:Nat}(h:j<l.length)(hx:S.aJ n e l (j+1)=S.aJ n e l j++[x]):(S.aU n e l j).set j x=S.aU n e l (j+1):=by
 have h1:l.length - j=(l.length - (j+1))+1:=by omega
 rw[S.aU,List.set_append_right _ _ (by rw[ij];exact Nat.le_refl _),ij,Nat.sub_self,h1,List.replicate_succ,List.set_cons_zero,S.aU,hx,List.append_assoc]
 rfl
noncomputable section
set_option maxRecDepth 20000 in
theorem Oq {d k iv ia pq:Nat}{n:Net}{gr size c:Int}{b lv vv cv xv ev:AV}{pm:Nat}{l:List Sp}{e:List Int}{Q:QT}{t:T}{g:G}(hr:NR n)(hnb:SlR NoP 0 .nil n.nodes b)(hsl:SlR NoP 0 .nil l lv)(hl:LEl n l)(hll:l.length<=15)(he:∀h,SlR NoP k h e ev)(hel:e.length=n.nodes.length)
  (hq:g.h.get pq=srO gr size c b lv vv cv xv pm) (hV:g.h.get iv=.cells 1 ((List.replicate l.length 0).map cu) 0 false false) (hn:pq<g.nx/\iv<g.nx/\pq≠iv)
  (ht:St t (jL ev lv pq iv ia l.length)) (h44:tat t 44=lv) (h45:tat t 45=.int .i64 (l.length:Int)) (h46:tat t 46=.int .i64 0)
  (fin:∀t g',St t (jL ev lv pq iv ia l.length)->g'.h.get iv=.cells 1 ((S.vr n e l).map cu) 0 false false->Fx (λi=>i=iv) g g'->Q (.exit 0) t [] g') :
  wpL (wp C0 d none cZ) Q t [] g:=by
 have hl8:=hr.l2;have rl:=λh=>(hsl.tree (h':=h) (Nat.le_refl 0)).sps;simp only[cZ,fL];refine bk (m:=l.length) (by omega) (λj t df g'=>df=[]/\St t ((44,lv)::jL ev lv pq iv ia l.length)/\g'.h.get iv=.cells 1 ((S.aU n e l j).map cu) 0 false false/\Fx (λi=>i=iv) g g')
  ⟨rfl,⟨h44,ht⟩,by simpa [S.aU,S.aJ] using hV,Fx.refl _ _⟩ h46 h45 (by decide)
  (by rintro j t df g v s (rfl | rfl | rfl) ⟨rfl,⟨a1,a2,a3,a4,a5,a6,-⟩,r⟩<;>exact ⟨rfl,by simp[St,jL,sx,a1,a2,a3,a4,a5,a6],r⟩) ?_ ?_
 ·clear ht h44 h45 h46;rintro i t df g1 hi ⟨rfl,⟨h44,h1,h2,h9,h10,h11,-⟩,hv,hF⟩ h46 h45;have hFn:=hF.nx;obtain ⟨a1,a2⟩:=AO hi;obtain ⟨⟨xa,xb,xc⟩,hsp⟩:∃x,S.sp l i=x:=⟨_,rfl⟩;rw[hsp] at a2;have hvl:=Mq (n:=n) (e:=e) (l:=l) (j:=i) (by omega);refine be (P:=λt' df g'=>df=[]/\g'.nx=g1.nx+1/\g'.h.get g1.nx=.cells 3 [cs3 (xa,xb,xc)] 0 false false/\Fx (λ_=>False) g1 g'/\St t' ((12,.int .i64 (i:Int))::(13,.hptr g1.nx 0 0 0)::(44,lv)::(45,.int .i64 (l.length:Int))::(46,.int .i64 (i:Int))::jL ev lv pq iv ia l.length)) ?_ ?_
  ·simp only[sz,simprocAttr,h44,h46,rl,a1,a2,cs3];exact ⟨(Fx.new _ _ _).put (.inr (Nat.le_refl _)) _,by simp[St,jL,sx,h1,h2,h9,h10,h11,h44,h45,h46]⟩
  clear h1 h2 h9 h10 h11 h44 h45 h46;rintro t df g2 ⟨rfl,k2,kB,F2,h12,h13,h44,h45,h46,h1,h2,h9,h10,h11,-⟩;have hv2:g2.h.get iv=.cells 1 ((S.aU n e l i).map cu) 0 false false:=by rw[F2.fr _ (by omega) id,hv]
  have hF2:=hF.trans (F2.mono λ_ h=>h.elim);have hq2:g2.h.get pq=srO gr size c b lv vv cv xv pm:=by rw[hF2.fr pq hn.1 hn.2.2,hq]
  by_cases hx:xa = -1
  ·subst hx;obtain ⟨y1,y2,y3,y4⟩:=hl.j i hi (by rw[hsp]);rw[hsp] at y1 y2 y3 y4;dsimp only at y1 y2 y3 y4;obtain ⟨le,rfl⟩:=Int.eq_ofNat_of_zero_le y1;obtain ⟨ri,rfl⟩:=Int.eq_ofNat_of_zero_le y3;have hb:=Em (e:=e) hr hl i (by omega);obtain ⟨c1,c2⟩:=ja (l:=S.aU n e l i) (i:=le) (by omega);obtain ⟨c3,c4⟩:=ja (l:=S.aU n e l i) (i:=ri) (by omega);rw[Mp (by omega)] at c2 c4;obtain ⟨c5,-⟩:=ja (l:=S.aU n e l i) (i:=i) (by omega);have rv:=cq (sz:=1) (m:=l.length) hv2 (by simp[hvl]);have b1:=mO (ew hb le) hl8;have b2:=mO (ew hb ri) hl8;have or1:=tP ((S.aJ n e l i)[le]?.getD 0) ((S.aJ n e l i)[ri]?.getD 0) (by omega) (by omega);have sc:=λ(g':G) (h:g'.h.get iv=.cells 1 ((S.aU n e l i).map cu) 0 false false)=>nN (m:=l.length) (x:=(S.aJ n e l i)[le]?.getD 0 ||| (S.aJ n e l i)[ri]?.getD 0) h (i:=i) (by omega);rw[F_ hi (by rw[S.aJ,hsp,if_pos rfl];rfl)] at sc;simp only[sz,simprocAttr,sf,h10,h12,h13,kB,cs3,rv,c1,c2,c3,c4,c5,cu,or1,sc,hv2];refine ⟨?_,?_⟩
   ·simp only[List.reverse_cons,List.reverse_nil,List.nil_append,List.cons_append];exact aF [false,false,false,false,false,false,false,false,false,false,false,false,false,false,true] [] (by simp[All2,ac,ay]) (by decide) (by simp)
   ·refine ⟨⟨by simp[St,jL,sx,h1,h2,h9,h10,h11,h44],⟨by simp;omega,λj hj hp=>?_,λj hj=>?_⟩⟩,h46,h45⟩
    ·simp[H.get_put,hp,hF2.fr j hj hp]
    ·simp at hj;rcases hj with rfl | hj
     ·exact .inr (.inl rfl)
     ·exact hF2.lg j hj
  ·obtain ⟨y1,y2⟩:=hl.f i hi (by rw[hsp];exact hx);rw[hsp] at y1 y2;dsimp only at y1 y2;obtain ⟨v,rfl⟩:=Int.eq_ofNat_of_zero_le y1;refine bM (P:=λt' df g'=>df=[]/\g'=g2/\St t' ((12,.int .i64 (i:Int))::(13,.hptr g1.nx 0 0 0)::(44,lv)::(45,.int .i64 (l.length:Int))::(46,.int .i64 (i:Int))::jL ev lv pq iv ia l.length)) ?_ ?_
   ·simp only[sz,simprocAttr,h13,kB,cs3,hx];simp[St,jL,sx,h1,h2,h9,h10,h11,h12,h13,h44,h45,h46]
   clear h1 h2 h9 h10 h11 h12 h13 h44 h45 h46;rintro t df g2 ⟨rfl,rfl,h12,h13,h44,h45,h46,ht⟩;refine bM (P:=λt' df g'=>df=[]/\∃fv,St t' (jL ev lv pq iv ia l.length)/\tat t' 12=.int .i64 (i:Int)/\tat t' 44=lv/\tat t' 45=.int .i64 (l.length:Int)/\tat t' 46=.int .i64 (i:Int)/\tat t' 82=fv/\tat t' 83=.int .i64 ((S.aI n v).length:Int)/\tat t' 84=.int .i64 0/\Own g' g2.nx fv 1 ((S.aI n v).map ci)/\Fx (λ_=>False) g2 g') ?_ ?_
   ·exact Ot (x:=((v:Int),xb,xc)) hr hnb (by omega) hq2 kB ⟨by have:=F2.nx;omega,by omega⟩ ht h12 h13 h44 h45 h46 λt g' fv a1 a2 a3 a4 a5 a6 a7 a8 a9 a10=>⟨rfl,rfl,fv,a1,a2,a3,a4,a5,a6,a7,a8,a9,a10⟩
   clear ht h12 h13 h44 h45 h46;rintro t df g3 ⟨rfl,fv,ht,h12,h44,h45,h46,h82,h83,h84,oF,F3⟩;have hv3:g3.h.get iv=.cells 1 ((S.aU n e l i).map cu) 0 false false:=by rw[F3.fr _ (by omega) id,hv2]
   have F3n:=F3.nx;simp only[sz,simprocAttr];refine Oo (ev:=ev) (fv:=fv) (e:=e) (V:=S.aU n e l i) (m:=l.length) (ll:=lv) (i:=i) (lZ hr (by omega)) (BJ hr (by omega)) hl8 he hel hv3 hvl.symm (by omega) (λg' hg'=>(oF.fr (g':=⟨g'.h,g3.nx,[]⟩) (Nat.le_refl _) λj hj=>hg' j (by have:=(oF.lt hj).1;omega)).rows) (KG hi) ht h12 h82 h83 h84 h44 h45 h46 λt g4 ht h44 h45 h46 hv4 hf4 hn4 hl4=>?_;rw[F_ hi (by rw[S.aJ,hsp,if_neg hx,Int.toNat_natCast];rfl)] at hv4;simp only[sz,simprocAttr];have F4:Fx (λi=>i=iv) g3 g4:=⟨hn4,λj _ hj=>hf4 j hj,λj hj=>(hl4 j hj).imp id .inl⟩;exact ⟨⟨⟨h44,ht⟩,hv4,(hF2.trans (F3.mono λ_ h=>h.elim)).trans F4⟩,h46,h45⟩
 ·rintro t df g' ⟨rfl,⟨h44,ht⟩,hv,hF⟩;have:S.aU n e l l.length=S.vr n e l:=by simp[S.aU,S.vr]
  rw[this] at hv;exact fin t g' ht hv hF
end
end Hx
end
section
namespace Hx
open Go
structure NsOk (L m:Nat) (s:NsT):Prop where
 l1:s.1.length=L
 l2:s.2.1.length=L
 l3:s.2.2.length=L
 b1:∀x∈s.1,x<2 ^ m
 b2:∀x∈s.2.1,x<2 ^ m
 b3:∀x∈s.2.2,x<2 ^ m
theorem AI {V:List Nat}{m i x:Nat}(h:∀y∈V,y<2 ^ m)(hx:x<2 ^ m):∀y∈V.set i x,y<2 ^ m:=λy hy=>by
 rcases List.mem_or_eq_of_mem_set hy with h1 | h1
 ·exact h y h1
 ·rw[h1];exact hx
theorem vg {a b m:Nat}(h:a<2 ^ m):a &&& b<2 ^ m:=Nat.lt_of_le_of_lt Nat.and_le_left h
theorem NM {l:List Sp}{vr:List Nat}{L m i:Nat}{s:NsT}(hv:∀x∈vr,x<2 ^ m)(h:NsOk L m s):NsOk L m (S.bN l vr i s):=by
 obtain ⟨l1,l2,l3,b1,b2,b3⟩:=h;have h2:∀x∈s.2.1.set i (vr[i]?.getD 0 &&& s.2.2[i]?.getD 0),x<2 ^ m:=AI b2 (vg (ew hv i));unfold S.bN
 split
 ·have hd:S.am (vr[(S.sp l i).2.1.toNat]?.getD 0 &&& vr[(S.sp l i).2.2.toNat]?.getD 0) (s.2.2[i]?.getD 0)<2 ^ m:=ET (vg (ew hv _));have ho:s.2.2[i]?.getD 0 ||| S.am (vr[(S.sp l i).2.1.toNat]?.getD 0 &&& vr[(S.sp l i).2.2.toNat]?.getD 0) (s.2.2[i]?.getD 0)<2 ^ m:=Nat.or_lt_two_pow (ew b3 _) hd;exact ⟨by simp[l1],by simp[l2],by simp[l3],AI b1 hd,h2,AI (AI b3 ho) ho⟩
 ·exact ⟨l1,by simp[l2],l3,b1,h2,b3⟩
theorem Du {l:List Sp}{vr:List Nat}{m:Nat}(hv:∀x∈vr,x<2 ^ m):∀j,NsOk l.length m (S.aL l vr j)
 | 0=>by
  have:∀x∈List.replicate l.length 0,x<2 ^ m:=λx hx=>by rw[List.eq_of_mem_replicate hx];exact Nat.two_pow_pos m
  exact ⟨by simp[S.aL],by simp[S.aL],by simp[S.aL],this,this,this⟩
 | j+1=>NM hv (Du hv j)
noncomputable section
theorem HO (m n:Nat)(h:m<256)(h':n<256):bA .andNot (.int .u64 (m:Int)) (.int .u64 (n:Int))=.val (.int .u64 (S.am m n:Int)):=vV m n (by omega) (by omega)
structure NsH (gr size c:Int) (b lv vv:AV) (pq pm iv ia pc px L:Nat) (vr:List Nat) (s:NsT) (g:G):Prop where
 q:g.h.get pq=srO gr size c b lv vv (.hsl pc 0 0 L none) (.hsl px 0 0 L none) pm
 v:g.h.get iv=.cells 1 (vr.map cu) 0 false false
 a:g.h.get ia=.cells 1 (s.2.2.map cu) 0 false false
 c:g.h.get pc=.cells 1 (s.1.map cu) 0 false false
 x:g.h.get px=.cells 1 (s.2.1.map cu) 0 false false
structure NsD (pq iv ia pc px B:Nat):Prop where
 n:pq<B/\iv<B/\ia<B/\pc<B/\px<B
 d1:pq≠iv/\pq≠ia/\pq≠pc/\pq≠px
 d2:iv≠ia/\iv≠pc/\iv≠px
 d3:ia≠pc/\ia≠px/\pc≠px
section
variable {gr size c:Int}{b lv vv:AV}{pq pm iv ia pc px L B:Nat}{vr:List Nat}{s:NsT}{g g':G}
theorem NsH.setX (hD:NsD pq iv ia pc px B)(h:NsH gr size c b lv vv pq pm iv ia pc px L vr s g){W:List Nat}(hf:∀j,j≠px->j<B->g'.h.get j=g.h.get j)(hx:g'.h.get px=.cells 1 (W.map cu) 0 false false):NsH gr size c b lv vv pq pm iv ia pc px L vr (s.1,W,s.2.2) g':=by obtain ⟨⟨n1,n2,n3,n4,n5⟩,⟨d1,d2,d3,d4⟩,⟨d5,d6,d7⟩,d8,d9,d10⟩:=hD;exact ⟨by rw[hf _ d4 n1,h.q],by rw[hf _ d7 n2,h.v],by rw[hf _ d9 n3,h.a],by rw[hf _ d10 n4,h.c],hx⟩
theorem NsH.setC (hD:NsD pq iv ia pc px B)(h:NsH gr size c b lv vv pq pm iv ia pc px L vr s g){W:List Nat}(hf:∀j,j≠pc->j<B->g'.h.get j=g.h.get j)(hx:g'.h.get pc=.cells 1 (W.map cu) 0 false false):NsH gr size c b lv vv pq pm iv ia pc px L vr (W,s.2.1,s.2.2) g':=by obtain ⟨⟨n1,n2,n3,n4,n5⟩,⟨d1,d2,d3,d4⟩,⟨d5,d6,d7⟩,d8,d9,d10⟩:=hD;exact ⟨by rw[hf _ d3 n1,h.q],by rw[hf _ d6 n2,h.v],by rw[hf _ d8 n3,h.a],hx,by rw[hf _ (Ne.symm d10) n5,h.x]⟩
theorem NsH.setA (hD:NsD pq iv ia pc px B)(h:NsH gr size c b lv vv pq pm iv ia pc px L vr s g){W:List Nat}(hf:∀j,j≠ia->j<B->g'.h.get j=g.h.get j)(hx:g'.h.get ia=.cells 1 (W.map cu) 0 false false):NsH gr size c b lv vv pq pm iv ia pc px L vr (s.1,s.2.1,W) g':=by obtain ⟨⟨n1,n2,n3,n4,n5⟩,⟨d1,d2,d3,d4⟩,⟨d5,d6,d7⟩,d8,d9,d10⟩:=hD;exact ⟨by rw[hf _ d2 n1,h.q],by rw[hf _ d5 n2,h.v],hx,by rw[hf _ (Ne.symm d8) n4,h.c],by rw[hf _ (Ne.symm d9) n5,h.x]⟩
theorem NsH.same (hD:NsD pq iv ia pc px B)(h:NsH gr size c b lv vv pq pm iv ia pc px L vr s g)(hf:∀j,j<B->g'.h.get j=g.h.get j):NsH gr size c b lv vv pq pm iv ia pc px L vr s g':=by obtain ⟨⟨n1,n2,n3,n4,n5⟩,-,-,-⟩:=hD;exact ⟨by rw[hf _ n1,h.q],by rw[hf _ n2,h.v],by rw[hf _ n3,h.a],by rw[hf _ n4,h.c],by rw[hf _ n5,h.x]⟩
end
def pk (lv:AV)(pq iv ia m:Nat):List (Nat×AV):=[(2,lv),(9,.hptr pq 0 0 0),(10,.hsl iv 0 0 m none),(11,.hsl ia 0 0 m none)]
theorem OL (gr size c:Int)(b lv vv cv xv:AV)(pm:Nat):bH (srO gr size c b lv vv cv xv pm) 0 0 false 1 5=.val xv:=rfl
set_option maxHeartbeats 1000000 in
set_option maxRecDepth 20000 in
theorem Or {d iv ia pq pc px pm mm:Nat}{gr size c:Int}{b lv vv:AV}{l:List Sp}{vr:List Nat}{n:Net}{Q:QT}{t:T}{g:G}(hsl:SlR NoP 0 .nil l lv)(hl:LEl n l)(hll:l.length<=15)(hm:mm<=8)(hvl:vr.length=l.length)(hvr:∀x∈vr,x<2 ^ mm)
  (hD:NsD pq iv ia pc px g.nx) (hH:NsH gr size c b lv vv pq pm iv ia pc px l.length vr (S.aL l vr 0) g)
  (ht:St t (pk lv pq iv ia l.length)) (h16:tat t 16=.int .i64 ((l.length:Int) - 1))
  (fin:∀t g',St t (pk lv pq iv ia l.length)->NsH gr size c b lv vv pq pm iv ia pc px l.length vr (S.aL l vr l.length) g'->Fx (λi=>i=ia\/i=pc\/i=px) g g'->Q (.exit 4) t [] g') :
  wpL (wp C0 d none c7) Q t [] g:=by
 have rl:=λh=>(hsl.tree (h':=h) (Nat.le_refl 0)).sps;have hD0:=hD;obtain ⟨⟨n1,n2,n3,n4,n5⟩,⟨d1,d2,d3,d4⟩,⟨d5,d6,d7⟩,d8,d9,d10⟩:=hD;simp only[c7,fM];refine tG (m:=l.length) (by omega) (λj t df g'=>df=[]/\St t (pk lv pq iv ia l.length)/\NsH gr size c b lv vv pq pm iv ia pc px l.length vr (S.aL l vr (l.length - j)) g'/\Fx (λi=>i=ia\/i=pc\/i=px) g g')
  ⟨rfl,ht,by rw[Nat.sub_self];exact hH,Fx.refl _ _⟩ h16 (by decide)
  (by rintro j t df g v s (rfl | rfl | rfl | rfl | rfl) ⟨rfl,⟨a1,a2,a3,a4,-⟩,r⟩<;>exact ⟨rfl,by simp[St,pk,sx,a1,a2,a3,a4],r⟩) ?_ ?_
 ·clear ht h16 hH;rintro i t df g1 hi ⟨rfl,⟨h2,h9,h10,h11,-⟩,hH,hF⟩ h16;have hFn:=hF.nx;have hok:=Du (l:=l) hvr (l.length - (i+1));have hst:S.aL l vr (l.length - i)=S.bN l vr i (S.aL l vr (l.length - (i+1))):=by rw[show l.length - i=(l.length - (i+1))+1 by omega,S.aL,show l.length - 1 - (l.length - (i+1))=i by omega]
  rw[hst];obtain ⟨s,hs⟩:∃s,s=S.aL l vr (l.length - (i+1)):=⟨_,rfl⟩;rw[<-hs] at hok hH ⊢;have hH1:=hH;obtain ⟨eq,ev,ea,ec,ex⟩:=hH1;obtain ⟨l1,l2,l3,b1,b2,b3⟩:=hok;have z1:=mO (ew hvr i) hm;have z2:=mO (ew b3 i) hm;obtain ⟨u1,u2⟩:=ja (l:=vr) (i:=i) (by omega);obtain ⟨u3,u4⟩:=ja (l:=s.2.2) (i:=i) (by omega);obtain ⟨u5,-⟩:=ja (l:=s.2.1) (i:=i) (by omega);have rv:=cq (sz:=1) (m:=l.length) ev (by simp[hvl]);have ra:=cq (sz:=1) (m:=l.length) ea (by simp[l3]);have rx:=cq (sz:=1) (m:=l.length) ex (by simp[l2]);have an1:=sw (vr[i]?.getD 0) (s.2.2[i]?.getD 0) (by omega) (by omega);have sc:=λ(g':G) (h:g'.h.get px=.cells 1 (s.2.1.map cu) 0 false false)=>nN (m:=l.length) (x:=vr[i]?.getD 0 &&& s.2.2[i]?.getD 0) h (i:=i) (by omega);obtain ⟨cx,hcx⟩:∃cx,cx=s.2.1.set i (vr[i]?.getD 0 &&& s.2.2[i]?.getD 0):=⟨_,rfl⟩;rw[<-hcx] at sc;refine bM (P:=λt' df g'=>df=[]/\NsH gr size c b lv vv pq pm iv ia pc px l.length vr (s.1,cx,s.2.2) g'/\Fx (λi=>i=ia\/i=pc\/i=px) g g'/\St t' ((16,.int .i64 (i:Int))::pk lv pq iv ia l.length)) ?_ ?_
  ·simp only[sz,simprocAttr,sf,h9,h10,h11,h16,eq,OL,bm,rv,ra,rx,u1,u2,u3,u4,u5,cu,an1,sc,ex];refine ⟨?_,?_⟩
   ·simp only[List.reverse_cons,List.reverse_nil,List.nil_append,List.cons_append];exact aF [false,false,false,false,false,false,false,false,false,false,false,false,false,false,false,true] [] (by simp[All2,ac,ay]) (by decide) (by simp)
   ·refine ⟨hH.setX hD0 (λj hj _=>by simp[H.get_put,hj]) (by simp[H.get_put]),⟨by simp;omega,λj hj hA=>?_,λj hj=>?_⟩,by simp[St,pk,sx,h2,h9,h10,h11,h16]⟩
    ·have hjx:¬j=px:=λe=>hA (.inr (.inr e));simp[H.get_put,hjx,hF.fr j hj hA]
    ·simp at hj;rcases hj with rfl | hj
     ·exact .inr (.inl (.inr (.inr rfl)))
     ·exact hF.lg j hj
  clear h2 h9 h10 h11 h16 hH eq ev ea ec ex hF;rintro t df g2 ⟨rfl,hH,hF,h16,h2,h9,h10,h11,-⟩;have hFn2:=hF.nx;obtain ⟨a1,a2⟩:=AO hi;obtain ⟨⟨xa,xb,xc⟩,hsp⟩:∃x,S.sp l i=x:=⟨_,rfl⟩;rw[hsp] at a2;refine be (P:=λt' df g'=>df=[]/\g'.h.get g2.nx=.cells 3 [cs3 (xa,xb,xc)] 0 false false/\g'.nx=g2.nx+1/\NsH gr size c b lv vv pq pm iv ia pc px l.length vr (s.1,cx,s.2.2) g'/\Fx (λi=>i=ia\/i=pc\/i=px) g g'/\St t' ((17,.hptr g2.nx 0 0 0)::(16,.int .i64 (i:Int))::pk lv pq iv ia l.length)) ?_ ?_
  ·simp only[sz,simprocAttr,h2,h16,rl,a1,a2,cs3];exact ⟨hH.same hD0 λj hj=>by rw[G.put_h,ae _ _ _ (by omega),G.new_h,ae _ _ _ (by omega)],(hF.trans (Fx.new _ _ _)).put (.inr (by omega)) _,by simp[St,pk,sx,h2,h9,h10,h11,h16]⟩
  clear h2 h9 h10 h11 h16;obtain ⟨B17,hB17⟩:∃B17,B17=g2.nx:=⟨_,rfl⟩;rw[<-hB17];clear hH hF;rintro t df g3 ⟨rfl,kB,k3,hH,hF,h17,h16,h2,h9,h10,h11,-⟩
  by_cases hx:xa = -1
  ·subst hx;obtain ⟨y1,y2,y3,y4⟩:=hl.j i hi (by rw[hsp]);have hS:=hsp;rw[hsp] at y1 y2 y3 y4;dsimp only at y1 y2 y3 y4;obtain ⟨le,rfl⟩:=Int.eq_ofNat_of_zero_le y1;obtain ⟨ri,rfl⟩:=Int.eq_ofNat_of_zero_le y3;obtain ⟨cc,hcc⟩:∃cc,cc=S.am (vr[le]?.getD 0 &&& vr[ri]?.getD 0) (s.2.2[i]?.getD 0):=⟨_,rfl⟩;have hns:S.bN l vr i s=(s.1.set i cc,cx,(s.2.2.set le (s.2.2[i]?.getD 0 ||| cc)).set ri (s.2.2[i]?.getD 0 ||| cc)):=by unfold S.bN;rw[hsp,if_pos rfl];simp only[Int.toNat_natCast];rw[<-hcc,<-hcx]
   rw[hns];have hccl:cc<256:=mO (by rw[hcc];exact ET (vg (ew hvr _))) hm;have w1:=mO (ew hvr le) hm;have w2:=mO (ew hvr ri) hm;obtain ⟨p1,p2⟩:=ja (l:=vr) (i:=le) (by omega);obtain ⟨p3,p4⟩:=ja (l:=vr) (i:=ri) (by omega);obtain ⟨p5,-⟩:=ja (l:=s.1) (i:=i) (by omega);have hBn:B17<g3.nx:=by omega
   have hBD:B17≠ia/\B17≠pc/\B17≠px:=by omega
   refine be (P:=λt' df g'=>df=[]/\g'=g3/\tat t' 131=.bool true/\St t' ((17,.hptr B17 0 0 0)::(16,.int .i64 (i:Int))::pk lv pq iv ia l.length)) ?_ ?_
   ·simp only[sz,simprocAttr,h17,kB,cs3];simp[St,pk,sx,h2,h9,h10,h11,h16,h17]
   clear h2 h9 h10 h11 h16 h17;rintro t df g3 ⟨rfl,rfl,h131,h17,h16,h2,h9,h10,h11,-⟩;simp only[A2,IU,h131,xZ,tN];have hFn3:=hF.nx;obtain ⟨eq,ev,ea,ec,ex⟩:=hH;have rv:=cq (sz:=1) (m:=l.length) ev (by simp[hvl]);have ra:=cq (sz:=1) (m:=l.length) ea (by simp[l3]);have rc:=cq (sz:=1) (m:=l.length) ec (by simp[l1]);have an2:=sw (vr[le]?.getD 0) (vr[ri]?.getD 0) (by omega) (by omega);have hand:vr[le]?.getD 0 &&& vr[ri]?.getD 0<256:=mO (vg (ew hvr _)) hm;have df2:=HO (vr[le]?.getD 0 &&& vr[ri]?.getD 0) (s.2.2[i]?.getD 0) hand z2;rw[<-hcc] at df2;have sc2:=λ(g':G) (h:g'.h.get pc=.cells 1 (s.1.map cu) 0 false false)=>nN (m:=l.length) (x:=cc) h (i:=i) (by omega);refine bM (P:=λt' df g'=>df=[]/\NsH gr size c b lv vv pq pm iv ia pc px l.length vr (s.1.set i cc,cx,s.2.2) g'/\Fx (λi=>i=ia\/i=pc\/i=px) g g'/\g'.h.get B17=.cells 3 [cs3 (-1,(le:Int),(ri:Int))] 0 false false/\St t' ((17,.hptr B17 0 0 0)::(16,.int .i64 (i:Int))::pk lv pq iv ia l.length)) ?_ ?_
   ·simp only[sz,simprocAttr,sf,h9,h10,h11,h16,h17,kB,cs3,eq,N3,bm,rv,ra,rc,p1,p2,p3,p4,p5,u3,u4,cu,an2,df2,sc2,ec];refine ⟨?_,?_⟩
    ·simp only[List.reverse_cons,List.reverse_nil,List.nil_append,List.cons_append];exact aF [false,false,false,false,false,false,false,false,false,false,false,false,false,false,false,false,false,false,false,false,false,false,true] [] (by simp[All2,ac,ay]) (by decide) (by simp)
    ·refine ⟨NsH.setC (s:=(s.1,cx,s.2.2)) hD0 ⟨eq,ev,ea,ec,ex⟩ (λj hj _=>by simp[H.get_put,hj]) (by simp[H.get_put]),⟨by simp;omega,λj hj hA=>?_,λj hj=>?_⟩,by simp[H.get_put,hBD.2.1,kB,cs3],by simp[St,pk,sx,h2,h9,h10,h11,h16,h17]⟩
     ·have hjx:¬j=pc:=λe=>hA (.inr (.inl e));simp[H.get_put,hjx,hF.fr j hj hA]
     ·simp at hj;rcases hj with rfl | hj
      ·exact .inr (.inl (.inr (.inl rfl)))
      ·exact hF.lg j hj
   clear h2 h9 h10 h11 h16 h17 eq ev ea ec ex hF kB rv ra rc sc2;rintro t df g4 ⟨rfl,⟨eq,ev,ea,ec,ex⟩,hF,kB,h17,h16,h2,h9,h10,h11,-⟩;have hFn4:=hF.nx;have rv:=cq (sz:=1) (m:=l.length) ev (by simp[hvl]);have ra:=cq (sz:=1) (m:=l.length) ea (by simp[l3]);have rc:=cq (sz:=1) (m:=l.length) ec (by simp[l1]);obtain ⟨p6,p7⟩:=ja (l:=s.1.set i cc) (i:=i) (by rw[List.length_set];omega);rw[List.getElem?_set_self (by omega),Option.getD_some] at p7;obtain ⟨p8,-⟩:=ja (l:=s.2.2) (i:=le) (by omega);have or2:=tP (s.2.2[i]?.getD 0) cc (by omega) (by omega);have sc3:=λ(g':G) (h:g'.h.get ia=.cells 1 (s.2.2.map cu) 0 false false)=>nN (m:=l.length) (x:=s.2.2[i]?.getD 0 ||| cc) h (i:=le) (by omega);refine bM (P:=λt' df g'=>df=[]/\NsH gr size c b lv vv pq pm iv ia pc px l.length vr (s.1.set i cc,cx,s.2.2.set le (s.2.2[i]?.getD 0 ||| cc)) g'/\Fx (λi=>i=ia\/i=pc\/i=px) g g'/\g'.h.get B17=.cells 3 [cs3 (-1,(le:Int),(ri:Int))] 0 false false/\St t' ((17,.hptr B17 0 0 0)::(16,.int .i64 (i:Int))::pk lv pq iv ia l.length)) ?_ ?_
   ·simp only[sz,simprocAttr,sf,h9,h10,h11,h16,h17,kB,cs3,eq,N3,bm,rv,ra,rc,p6,p7,p8,u3,u4,cu,or2,sc3,ea];refine ⟨?_,?_⟩
    ·simp only[List.reverse_cons,List.reverse_nil,List.nil_append,List.cons_append];exact aF [false,false,false,false,false,false,false,false,false,false,false,false,false,false,false,false,true] [] (by simp[All2,ac,ay]) (by decide) (by simp)
    ·refine ⟨NsH.setA (s:=(s.1.set i cc,cx,s.2.2)) hD0 ⟨eq,ev,ea,ec,ex⟩ (λj hj _=>by simp[H.get_put,hj]) (by simp[H.get_put]),⟨by simp;omega,λj hj hA=>?_,λj hj=>?_⟩,by simp[H.get_put,hBD.1,kB,cs3],by simp[St,pk,sx,h2,h9,h10,h11,h16,h17]⟩
     ·have hjx:¬j=ia:=λe=>hA (.inl e);simp[H.get_put,hjx,hF.fr j hj hA]
     ·simp at hj;rcases hj with rfl | hj
      ·exact .inr (.inl (.inl rfl))
      ·exact hF.lg j hj
   clear h2 h9 h10 h11 h16 h17 eq ev ea ec ex hF kB rv ra rc sc3 p6 p7;rintro t df g5 ⟨rfl,⟨eq,ev,ea,ec,ex⟩,hF,kB,h17,h16,h2,h9,h10,h11,-⟩;have hFn5:=hF.nx;have ra:=cq (sz:=1) (m:=l.length) ea (by simp[l3]);obtain ⟨p6,p7⟩:=ja (l:=s.2.2.set le (s.2.2[i]?.getD 0 ||| cc)) (i:=le) (by rw[List.length_set];omega);rw[List.getElem?_set_self (by omega),Option.getD_some] at p7;obtain ⟨p9,-⟩:=ja (l:=s.2.2.set le (s.2.2[i]?.getD 0 ||| cc)) (i:=ri) (by rw[List.length_set];omega);have sc4:=λ(g':G) (h:g'.h.get ia=.cells 1 ((s.2.2.set le (s.2.2[i]?.getD 0 ||| cc)).map cu) 0 false false)=>nN (m:=l.length) (x:=s.2.2[i]?.getD 0 ||| cc) h (i:=ri) (by rw[List.length_set];omega);simp only[sz,simprocAttr,sf,h11,h16,h17,kB,cs3,ra,p6,p7,p9,cu,sc4,ea];refine ⟨?_,?_⟩
   ·simp only[List.reverse_cons,List.reverse_nil,List.nil_append,List.cons_append];exact aF [false,false,false,false,false,false,false,false,false,true] [] (by simp[All2,ac,ay]) (by decide) (by simp)
   ·refine ⟨by simp[St,pk,sx,h2,h9,h10,h11],NsH.setA (s:=(s.1.set i cc,cx,s.2.2.set le (s.2.2[i]?.getD 0 ||| cc))) hD0 ⟨eq,ev,ea,ec,ex⟩ (λj hj _=>by simp[H.get_put,hj]) (by simp[H.get_put]),⟨by simp;omega,λj hj hA=>?_,λj hj=>?_⟩⟩
    ·have hjx:¬j=ia:=λe=>hA (.inl e);simp[H.get_put,hjx,hF.fr j hj hA]
    ·simp at hj;rcases hj with rfl | hj
     ·exact .inr (.inl (.inl rfl))
     ·exact hF.lg j hj
  ·have hns:S.bN l vr i s=(s.1,cx,s.2.2):=by unfold S.bN;rw[hsp,if_neg hx,<-hcx]
   rw[hns];simp only[sz,simprocAttr,h17,kB,cs3,hx];exact ⟨⟨by simp[St,pk,sx,h2,h9,h10,h11],hH,hF⟩,h16⟩
 ·rintro t df g' ⟨rfl,ht,hH,hF⟩;rw[Nat.sub_zero] at hH;exact fin t g' ht hH hF
end
end Hx
end
section
namespace Hx
open Go
noncomputable section
theorem Kq (gr size c:Int)(b lv vv cv cv' xv:AV)(pm:Nat)(g:G)(pq:Nat)(hc:cv'.cells=[cv'])(ht:cv'.isTup=false):cM (srO gr size c b lv vv cv xv pm) g pq 0 0 1 4 cv'=.upd .undef (g.put pq (srO gr size c b lv vv cv' xv pm)):=by
 unfold srO;rw[br 9 _ 0 false g pq 0 1 4 cv' (by rw[hc];rfl) ht,List.getElem?_cons_zero,hc];dsimp only;rw[jR (by simp)]
 rfl
theorem Kr (gr size c:Int)(b lv vv cv xv xv':AV)(pm:Nat)(g:G)(pq:Nat)(hc:xv'.cells=[xv'])(ht:xv'.isTup=false):cM (srO gr size c b lv vv cv xv pm) g pq 0 0 1 5 xv'=.upd .undef (g.put pq (srO gr size c b lv vv cv xv' pm)):=by
 unfold srO;rw[br 9 _ 0 false g pq 0 1 5 xv' (by rw[hc];rfl) ht,List.getElem?_cons_zero,hc];dsimp only;rw[jR (by simp)]
 rfl
theorem Lo (t:T)(g:G):SO.foot C0 t g (.raw (.makeMap 115 none))=ay:=by kernel_rfl
set_option maxRecDepth 20000 in
theorem Ou {d k B:Nat}{gr size:Int}{b lv ev:AV}{e:List Int}{l:List Sp}{t:T}{g:G}{Q:QT}(he:SlR NoP k .nil e ev)(he0:0<e.length)(he8:e.length<=8)(hb:b.cells=[b]/\b.isTup=false)(hlv:lv.cells=[lv]/\lv.isTup=false)
  (hB:g.h.get B=.cells 2 [[.int .i64 gr,b]] 0 false false) (hBn:B<g.nx) (h1:tat t 1=ev) (h2:tat t 2=lv) (h3:tat t 3=.int .i64 size) (h4:tat t 4=.hptr B 0 0 0)
  (fin:∀t g' pv pm pq,tat t 1=ev->tat t 2=lv->tat t 9=.hptr pq 0 0 0->g.nx<=pv->g.nx<=pm->g.nx<=pq->pv<g'.nx->pm<g'.nx->pq<g'.nx->pv≠pq->pm≠pq->pm≠pv->g'.h.get pq=srO gr size 0 b lv (.hsl pv 0 0 e.length none) .nils .nils pm->g'.h.get pm=.map []->(∃lo,g'.h.get pv=.cells 1 (e.map ci) 0 lo false)->Fx (λ_=>False) g g'->Q .norm t [] g') :
  wp C0 d none (.feet [0,0,0,4,0,0,63,127,255] [o 18 (.load true 2 (.t 4)),oM 19 2,oM 20 1,o 21 (.call N.ah [.t 20]),o 22 (.raw (.makeMap 115 none)),oM 23 3,o 24 (.build [.int .i64 0,.nils,.nils,.nils,.nils,.nils,.nilm,.int .i64 0,.int .i64 0] [(0,2),(2,1),(3,1),(6,1),(7,1)] [.t 18,.t 19,.t 21,.t 22,.t 23]),o 25 (.box (.t 24)),oM 9 25]) Q t [] g:=by
 have mk:=NC d none;simp only[sz,simprocAttr,sf,h1,h2,h3,h4,hB];refine tZ he (by omega) λu g1 hu hf hlg=>?_;have n1:g.nx+3<=g1.nx:=by have:=hf.1;simp at this;omega
 have f1:∀i,i<g.nx+3->g1.h.get i=g.h.get i:=λi hi=>by have:=hf.2 i (by simp;omega);simpa using this
 have l1:∀i∈g1.lg,g.nx+3<=i/\i<g1.nx:=λi hi=>by have:=hlg i hi;simp at this;omega
 rcases hu with ⟨h,-⟩ | ⟨pv,lo,p1,p2,rfl,p4,-⟩
 ·rw[h] at he0;simp at he0
 have p1:g.nx+3<=pv:=by simpa using p1
 clear hf hlg;obtain ⟨hl1,hl2⟩:=hlv;simp only[sz,simprocAttr,sf,mk,h3,hl1,hl2,tY,ue,show (AV.hmap (g1.nx+1)).cells=[.hmap (g1.nx+1)] from rfl,show (AV.hmap (g1.nx+1)).isTup=false from rfl,Lo,dy];have sp:=AK (he.tree (h':=g.h) (Nat.le_refl k));refine ⟨?_,?_⟩
 ·simp only[List.reverse_cons,List.reverse_nil,List.nil_append,List.cons_append];refine aF [false,false,false,true,true,false,false,true,false] [(0,3),(1,3),(0,4),(1,4),(2,4),(3,4),(3,5),(4,5)] (by simp[All2,ac,ay]) (by decide) ?_;intro p hp x y hx hy;simp only[List.mem_cons,List.not_mem_nil,or_false] at hp;rcases hp with rfl | rfl | rfl | rfl | rfl | rfl | rfl | rfl<;>(simp only[List.getElem?_cons_zero,List.getElem?_cons_succ,Option.some.injEq] at hx hy;subst hx;subst hy;refine bV rfl rfl rfl rfl ?_ ?_ ?_<;>simp[ac,ay,gE,sp])
  all_goals first | omega | exact λi hi=>by have:=l1 i hi;omega
 ·refine fin _ _ pv (g1.nx+1) (g1.nx+1+1+1+1+1) (by simp[sx,h1]) (by simp[sx,h2]) (by simp[sx]) (by omega) (by omega) (by omega) (by first | (simp;done) | (simp;omega)) (by first | (simp;done) | (simp;omega)) (by first | (simp;done) | (simp;omega)) (by omega) (by omega) (by omega) ?_ ?_ ⟨lo,?_⟩ ⟨by simp;omega,λj hj _=>?_,λj hj=>?_⟩
  ·simp[H.get_put,srO]
  ·simp[H.get_put]
  ·simp[H.get_put,show ¬pv=g1.nx+1 by omega,show ¬pv=g1.nx+1+1+1+1+1 by omega,p4]
  ·simp[H.get_put,show ¬j=g1.nx+1 by omega,show ¬j=g1.nx+1+1+1+1+1 by omega,f1 j (by omega)]
  ·simp at hj;rcases hj with h | h | h | h
   ·exact .inr (.inr (by omega))
   ·exact .inr (.inr (by omega))
   ·have:=l1 j h;exact .inr (.inr (by omega))
   ·exact .inl h
theorem Jx {L:Nat}(hL:L<=15)(g:G):Dq 1 8 [.int .u64 0] (.int .i64 (L:Int)) (.int .i64 (L:Int)) g=.upd (.hsl g.nx 0 0 L none) (g.new (.cells 1 ((List.replicate L 0).map cu) 0 false false)):=by
 have h:L=0\/L=1\/L=2\/L=3\/L=4\/L=5\/L=6\/L=7\/L=8\/L=9\/L=10\/L=11\/L=12\/L=13\/L=14\/L=15:=by omega
 rcases h with rfl | rfl | rfl | rfl | rfl | rfl | rfl | rfl | rfl | rfl | rfl | rfl | rfl | rfl | rfl | rfl<;>rfl
set_option maxRecDepth 20000 in
theorem Ov {d L pq pm:Nat}{gr size:Int}{b lv ev vv:AV}{t:T}{g:G}{Q:QT}(hL:L<=15)(hlen:∀g:G,eB .slice lv g=.val (.int .i64 (L:Int)))(hq:g.h.get pq=srO gr size 0 b lv vv .nils .nils pm)(hqn:pq<g.nx)(h1:tat t 1=ev)(h2:tat t 2=lv)(h9:tat t 9=.hptr pq 0 0 0)
  (fin:∀t g' pc px,tat t 1=ev->tat t 2=lv->tat t 9=.hptr pq 0 0 0->g.nx<=pc->g.nx<=px->pc<g'.nx->px<g'.nx->pc≠px->g'.h.get pq=srO gr size 0 b lv vv (.hsl pc 0 0 L none) (.hsl px 0 0 L none) pm->g'.h.get pc=.cells 1 ((List.replicate L 0).map cu) 0 false false->g'.h.get px=.cells 1 ((List.replicate L 0).map cu) 0 false false->Fx (λi=>i=pq) g g'->Q .norm t [] g') :
  wp C0 d none (.feet [0,0,0,4,12,0,32,96,29,285,797,2047,4095,8191] [oM 26 9,oM 27 9,oM 28 2,oN 29 28,o 30 (.mks 1 8 [.int .u64 0] (.t 29) (.t 29)),oM 31 2,oN 32 31,o 33 (.mks 1 8 [.int .u64 0] (.t 32) (.t 32)),o 34 (.nilc (.t 26)),oF 35 4 34,oz (.store 1 (.t 35) (.t 30)),o 36 (.nilc (.t 27)),oF 37 5 36,oz (.store 1 (.t 37) (.t 33))]) Q t [] g:=by
 have mk:=Jx hL;have s4:=λ(g:G) (id:Nat)=>Kq gr size 0 b lv vv .nils (.hsl id 0 0 L none) .nils pm g pq rfl rfl;have s5:=λ(g:G) (id id2:Nat)=>Kr gr size 0 b lv vv (.hsl id2 0 0 L none) .nils (.hsl id 0 0 L none) pm g pq rfl rfl;have e1:¬pq=g.nx+1+1+1+1+1+1+1+1:=by omega
 have e2:¬pq=g.nx+1+1+1+1:=by omega
 simp only[sz,simprocAttr,sf,h2,h9,hlen,mk,hq,bm,e1,e2,s4,s5];refine ⟨?_,?_⟩
 ·simp only[List.reverse_cons,List.reverse_nil,List.nil_append,List.cons_append];refine aF [false,false,false,false,true,false,false,true,false,false,true,false,false,true] [(0,4),(1,4),(4,5),(4,6),(0,7),(1,7),(2,7),(3,7),(4,7),(7,8),(7,9),(1,10),(5,10),(6,10),(7,10)] (by simp[All2,ac,ay]) (by decide) ?_;intro p hp x y hx hy;simp only[List.mem_cons,List.not_mem_nil,or_false] at hp;rcases hp with rfl | rfl | rfl | rfl | rfl | rfl | rfl | rfl | rfl | rfl | rfl | rfl | rfl | rfl | rfl<;>(simp only[List.getElem?_cons_zero,List.getElem?_cons_succ,Option.some.injEq] at hx hy;subst hx;subst hy;refine bV rfl rfl rfl rfl ?_ ?_ ?_<;>simp[ac,ay,gE])
  all_goals omega
 ·refine fin _ _ (g.nx+1+1+1+1) (g.nx+1+1+1+1+1+1+1+1) (by simp[sx,h1]) (by simp[sx,h2]) (by simp[sx,h9]) (by omega) (by omega) (by first | (simp;done) | (simp;omega)) (by first | (simp;done) | (simp;omega)) (by omega) ?_ ?_ ?_ ⟨by simp;omega,λj hj hA=>?_,λj hj=>?_⟩
  ·simp[H.get_put]
  ·simp[H.get_put,Ne.symm e2]
  ·simp[H.get_put,Ne.symm e1]
  ·have hA:¬j=pq:=hA;simp[H.get_put,hA,show ¬j=g.nx+1+1+1+1 by omega,show ¬j=g.nx+1+1+1+1+1+1+1+1 by omega]
  ·simp at hj;rcases hj with h | h | h | h
   all_goals first | exact .inl h | exact .inr (.inl h) | exact .inr (.inr (by omega))
set_option maxRecDepth 20000 in
theorem Ow {d L pq:Nat}{ev lv:AV}{t:T}{g:G}{Q:QT}(hL:L<=15)(hlen:∀g:G,eB .slice lv g=.val (.int .i64 (L:Int)))(h1:tat t 1=ev)(h2:tat t 2=lv)(h9:tat t 9=.hptr pq 0 0 0)
  (fin:∀t g' iv ia,St t (jL ev lv pq iv ia L)->g.nx<=iv->g.nx<=ia->iv<g'.nx->ia<g'.nx->iv≠ia->g'.h.get iv=.cells 1 ((List.replicate L 0).map cu) 0 false false->g'.h.get ia=.cells 1 ((List.replicate L 0).map cu) 0 false false->Fx (λ_=>False) g g'->Q .norm t [] g') :
  wp C0 d none (.feet [0,1,3,0,8,24,7,127] [oM 38 2,oN 39 38,o 40 (.mks 1 8 [.int .u64 0] (.t 39) (.t 39)),oM 41 2,oN 42 41,o 43 (.mks 1 8 [.int .u64 0] (.t 42) (.t 42)),oM 10 40,oM 11 43]) Q t [] g:=by
 have mk:=Jx hL;simp only[sz,simprocAttr,sf,h2,hlen,mk];refine ⟨?_,?_⟩
 ·simp only[List.reverse_cons,List.reverse_nil,List.nil_append,List.cons_append];refine aF [false,false,true,false,false,true,false,false] [(2,3),(2,4),(2,5),(0,5),(1,5),(5,6)] (by simp[All2,ac,ay]) (by decide) ?_;intro p hp x y hx hy;simp only[List.mem_cons,List.not_mem_nil,or_false] at hp;rcases hp with rfl | rfl | rfl | rfl | rfl | rfl<;>(simp only[List.getElem?_cons_zero,List.getElem?_cons_succ,Option.some.injEq] at hx hy;subst hx;subst hy;refine bV rfl rfl rfl rfl ?_ ?_ ?_<;>simp[ay])
  all_goals omega
 ·refine fin _ _ (g.nx+1+1) (g.nx+1+1+1+1+1+1) (by simp[St,jL,sx,h1,h2,h9]) (by omega) (by omega) (by first | (simp;done) | (simp;omega)) (by first | (simp;done) | (simp;omega)) (by omega) ?_ ?_ ⟨by simp;omega,λj hj hA=>?_,λj hj=>?_⟩
  ·simp[H.get_put]
  ·simp[H.get_put]
  ·simp[H.get_put,show ¬j=g.nx+1+1 by omega,show ¬j=g.nx+1+1+1+1+1+1 by omega]
  ·simp at hj;rcases hj with h | h | h
   all_goals first | exact .inl h | exact .inr (.inr (by omega))
def S.ch (n:Net)(e:List Int)(l:List Sp):List Nat:=(S.aL l (S.vr n e l) l.length).1
def S.cm (n:Net)(e:List Int)(l:List Sp):List Nat:=(S.aL l (S.vr n e l) l.length).2.1
def S.cI (n:Net)(e:List Int)(l:List Sp):List Nat:=(S.aL l (S.vr n e l) l.length).2.2
theorem N7 (n:Net)(e:List Int)(l:List Sp):(S.vr n e l).length=l.length:=ij n e l _
theorem M7 {n:Net}{e:List Int}{l:List Sp}(hr:NR n)(hl:LEl n l):∀x∈S.vr n e l,x<2 ^ n.nodes.length:=Em hr hl _ (Nat.le_refl _)
set_option maxRecDepth 20000 in
theorem Aw {d k:Nat}{n:Net}{b lv ev:AV}{l:List Sp}{e:List Int}{size:Int}{g:G}{K:AV->G->Prop}{D:ADf->Prop}(hr:NR n)(hnb:SlR NoP 0 .nil n.nodes b)(hsl:SlR NoP 0 .nil l lv)(hl:LEl n l)(hll:l.length<=15)(he:∀h,SlR NoP k h e ev)(hel:e.length=n.nodes.length)
  (kk:∀g' pq pv pm pc px,Srs n l (S.ch n e l) (S.cm n e l) b lv pq pv pm pc px->Srh n (S.ch n e l) (S.cm n e l) size b lv pq pv pm pc px ([],0) g'->Vs n pv e g'->Fx (λ_=>False) g g'->g.nx<=pq->K (.hptr pq 0 0 0) g') :
  (ax C0 d N.aU [.agg [.int .i64 n.grain,b],ev,lv,.int .i64 size] g).sat K g D:=by
 have hl8:=hr.l2;have hl1:=hr.l1;have hlen:∀g:G,eB .slice lv g=.val (.int .i64 (l.length:Int)):=λg=>hsl.len g;have hbx:∀g:G,vX (.agg [.int .i64 n.grain,b]) g=.upd (.hptr g.nx 0 0 0) (g.new (.cells 2 [[.int .i64 n.grain,b]] 0 false false)):=λg=>rfl;have hvr:=M7 (e:=e) hr hl;have hvl:=N7 n e l;rw[mh];refine gK nY (by simp[dW]) ?_;simp only[dW];refine be (P:=λt' df g'=>df=[]/\g'.h.get g.nx=.cells 2 [[.int .i64 n.grain,b]] 0 false false/\g'.nx=g.nx+1/\Fx (λ_=>False) g g'/\St t' [(1,ev),(2,lv),(3,.int .i64 size),(4,.hptr g.nx 0 0 0)]) ?_ ?_
 ·simp only[sz,simprocAttr,hbx];exact ⟨Fx.new _ _ _,by simp[St,sx]⟩
 rintro t df g1 ⟨rfl,kB,k1,F1,h1,h2,h3,h4,-⟩;simp only[gm];refine bM (P:=λt' df g'=>df=[]/\∃pv pm pq,tat t' 1=ev/\tat t' 2=lv/\tat t' 9=.hptr pq 0 0 0/\g1.nx<=pv/\g1.nx<=pm/\g1.nx<=pq/\pv<g'.nx/\pm<g'.nx/\pq<g'.nx/\pv≠pq/\pm≠pq/\pm≠pv/\g'.h.get pq=srO n.grain size 0 b lv (.hsl pv 0 0 e.length none) .nils .nils pm/\g'.h.get pm=.map []/\(∃lo,g'.h.get pv=.cells 1 (e.map ci) 0 lo false)/\Fx (λ_=>False) g1 g') ?_ ?_
 ·refine Ou (B:=g.nx) (l:=l) (he .nil) (by omega) (by omega) hnb.cell hsl.cell kB (by omega) h1 h2 h3 h4 λt g' pv pm pq a1 a2 a3 a4 a5 a6 a7 a8 a9 a10 a11 a12 a13 a14 a15 a16=>⟨rfl,rfl,pv,pm,pq,a1,a2,a3,a4,a5,a6,a7,a8,a9,a10,a11,a12,a13,a14,a15,a16⟩
 clear h1 h2 h3 h4;rintro t df g2 ⟨rfl,pv,pm,pq,h1,h2,h9,v1,v2,v3,v4,v5,v6,v7,v8,v9,eq,em,⟨lo,ep⟩,F2⟩;refine bM (P:=λt' df g'=>df=[]/\∃pc px,tat t' 1=ev/\tat t' 2=lv/\tat t' 9=.hptr pq 0 0 0/\g2.nx<=pc/\g2.nx<=px/\pc<g'.nx/\px<g'.nx/\pc≠px/\g'.h.get pq=srO n.grain size 0 b lv (.hsl pv 0 0 e.length none) (.hsl pc 0 0 l.length none) (.hsl px 0 0 l.length none) pm/\g'.h.get pc=.cells 1 ((List.replicate l.length 0).map cu) 0 false false/\g'.h.get px=.cells 1 ((List.replicate l.length 0).map cu) 0 false false/\Fx (λi=>i=pq) g2 g') ?_ ?_
 ·exact Ov hll hlen eq v6 h1 h2 h9 λt g' pc px a1 a2 a3 a4 a5 a6 a7 a8 a9 a10 a11 a12=>⟨rfl,rfl,pc,px,a1,a2,a3,a4,a5,a6,a7,a8,a9,a10,a11,a12⟩
 clear h1 h2 h9 eq;rintro t df g3 ⟨rfl,pc,px,h1,h2,h9,w1,w2,w3,w4,w5,eq,ec,ex,F3⟩;refine bM (P:=λt' df g'=>df=[]/\∃iv ia,St t' (jL ev lv pq iv ia l.length)/\g3.nx<=iv/\g3.nx<=ia/\iv<g'.nx/\ia<g'.nx/\iv≠ia/\g'.h.get iv=.cells 1 ((List.replicate l.length 0).map cu) 0 false false/\g'.h.get ia=.cells 1 ((List.replicate l.length 0).map cu) 0 false false/\Fx (λ_=>False) g3 g') ?_ ?_
 ·exact Ow hll hlen h1 h2 h9 λt g' iv ia a1 a2 a3 a4 a5 a6 a7 a8 a9=>⟨rfl,rfl,iv,ia,a1,a2,a3,a4,a5,a6,a7,a8,a9⟩
 clear h1 h2 h9;rintro t df g4 ⟨rfl,iv,ia,ht,x1,x2,x3,x4,x5,ev4,ea4,F4⟩;have n2:=F2.nx;have n3:=F3.nx;have n4:=F4.nx;have n1:=F1.nx;have eq4:g4.h.get pq=srO n.grain size 0 b lv (.hsl pv 0 0 e.length none) (.hsl pc 0 0 l.length none) (.hsl px 0 0 l.length none) pm:=by rw[F4.fr _ (by omega) id,eq]
 have ec4:g4.h.get pc=.cells 1 ((List.replicate l.length 0).map cu) 0 false false:=by rw[F4.fr _ (by omega) id,ec]
 have ex4:g4.h.get px=.cells 1 ((List.replicate l.length 0).map cu) 0 false false:=by rw[F4.fr _ (by omega) id,ex]
 have em4:g4.h.get pm=.map []:=by rw[F4.fr _ (by omega) id,F3.fr _ (by omega) (by omega),em]
 have ep4:g4.h.get pv=.cells 1 (e.map ci) 0 lo false:=by rw[F4.fr _ (by omega) id,F3.fr _ (by omega) (by omega),ep]
 have F14:Fx (λi=>i=pq) g g4:=((F1.mono λ_ h=>h.elim).trans (F2.mono λ_ h=>h.elim)).trans (F3.trans (F4.mono λ_ h=>h.elim));clear eq ec ex em ep;refine bM (P:=λt' df g'=>df=[]/\St t' (jL ev lv pq iv ia l.length)/\g'.h.get iv=.cells 1 ((S.vr n e l).map cu) 0 false false/\Fx (λi=>i=iv) g4 g') ?_ ?_
 ·obtain ⟨h1,h2,h9,h10,h11,-⟩:=ht;simp only[sz,simprocAttr,h2,hlen];refine Oq (k:=k) (ia:=ia) hr hnb hsl hl hll he hel eq4 ev4 ⟨by omega,by omega,by omega⟩ (by simp[St,jL,sx,h1,h2,h9,h10,h11]) (by simp[sx]) (by simp[sx]) (by simp[sx]) λt g' ht hv hF=>?_;simp only[sz,simprocAttr];exact ⟨ht,hv,hF⟩
 rintro t df g5 ⟨rfl,⟨h1,h2,h9,h10,h11,-⟩,ev5,F5⟩;have n5:=F5.nx;have w15:IntKind.wrap .i64 ((l.length:Int) - 1)=(l.length:Int) - 1:=an (by omega) (by omega);simp only[sz,simprocAttr,fO,h2,hlen,w15];have hD:NsD pq iv ia pc px g5.nx:=⟨by omega,by omega,by omega,by omega⟩;refine Or (mm:=n.nodes.length) (vr:=S.vr n e l) (n:=n) (iv:=iv) (ia:=ia) (pq:=pq) (pc:=pc) (px:=px) (pm:=pm) (gr:=n.grain) (size:=size) (c:=0) (b:=b) (lv:=lv) (vv:=.hsl pv 0 0 e.length none) hsl hl hll hl8 hvl hvr hD ⟨by rw[F5.fr _ (by omega) (by omega),eq4],ev5,by rw[F5.fr _ (by omega) (by omega),ea4];rfl,by rw[F5.fr _ (by omega) (by omega),ec4];rfl,by rw[F5.fr _ (by omega) (by omega),ex4];rfl⟩ (by simp[St,pk,sx,h2,h9,h10,h11]) (by simp[sx]) λt g6 ht hH F6=>?_;obtain ⟨h2,h9,h10,h11,-⟩:=ht;simp only[sz,simprocAttr,fN,h9];have n6:=F6.nx;obtain ⟨l1,l2,l3,b1,b2,b3⟩:=Du (l:=l) hvr l.length;refine kk g6 pq pv pm pc px ⟨hr,hnb,hsl,l1,l2,hll,b1,b2,⟨v7,v8,by omega,by omega⟩,⟨v9,by omega,by omega⟩,by omega⟩ ⟨?_,?_,hH.c,hH.x,by omega⟩ ⟨hel,lo,?_⟩ ⟨by omega,λj hj _=>?_,λj hj=>?_⟩ (by omega)
 ·rw[hH.q,S.ch,S.cm,l1,l2,hel]
 ·rw[F6.fr _ (by omega) (by omega),F5.fr _ (by omega) (by omega),em4];rfl
 ·rw[F6.fr _ (by omega) (by omega),F5.fr _ (by omega) (by omega),ep4]
 ·rw[F6.fr _ (by omega) (by omega),F5.fr _ (by omega) (by omega),F14.fr _ hj (by omega)]
 ·rcases F6.lg j hj with h | h | h
  ·rcases F5.lg j h with h | h | h
   ·rcases F14.lg j h with h | h | h
    ·exact .inl h
    ·exact .inr (.inr (by omega))
    ·exact .inr (.inr h)
   ·exact .inr (.inr (by omega))
   ·exact .inr (.inr (by omega))
  ·exact .inr (.inr (by omega))
  ·exact .inr (.inr (by omega))
end
end Hx
end
section
namespace Hx
open Go
theorem dD {V:List Nat}{a i x:Nat}(h:i≠a):(V.set a x)[i]?.getD 0=V[i]?.getD 0:=by rw[List.getElem?_set_ne (Ne.symm h)]
theorem eQ {V:List Nat}{a x:Nat}(h:a<V.length):(V.set a x)[a]?.getD 0=x:=by rw[List.getElem?_set_self h];rfl
structure LUq (l:List Sp):Prop where
 ne:∀i,i<l.length->(S.sp l i).1 = -1->(S.sp l i).2.1≠(S.sp l i).2.2
 uq:∀i j,i<l.length->j<i->(S.sp l i).1 = -1->(S.sp l j).1 = -1->(S.sp l i).2.1≠(S.sp l j).2.1/\(S.sp l i).2.1≠(S.sp l j).2.2/\(S.sp l i).2.2≠(S.sp l j).2.1/\(S.sp l i).2.2≠(S.sp l j).2.2
theorem H3 {n:Net}{l:List Sp}(h:S.ck l n.nodes.length=true):(l.length:Int)=2*(n.nodes.length:Int) - 1/\LEl n l/\LUq l:=by
 simp only[S.ck,Bool.and_eq_true,decide_eq_true_eq,List.all_eq_true,List.mem_range] at h;obtain ⟨⟨⟨h1,h2⟩,-⟩,-⟩:=h;have key:∀i,i<l.length->(S.sp l i).1 = -1->S.bz l i=true/\S.ay l i (S.sp l i).2.1=false/\S.ay l i (S.sp l i).2.2=false:=λi hi hx=>by have:=h2 i hi;rw[S.bg,if_pos hx,Bool.and_eq_true,Bool.and_eq_true,Bool.not_eq_true',Bool.not_eq_true'] at this;exact ⟨this.1.1,this.1.2,this.2⟩
 refine ⟨h1,⟨λi hi hx=>?_,λi hi hx=>?_⟩,⟨λi hi hx=>?_,λi j hi hj hx hy=>?_⟩⟩
 ·have:=qf.1 (key i hi hx).1;exact ⟨this.1,this.2.1,this.2.2.1,this.2.2.2.1⟩
 ·have:=h2 i hi;rw[S.bg,if_neg hx,Bool.and_eq_true] at this;have:=xn.1 this.1;exact ⟨this.1,this.2.1⟩
 ·exact (qf.1 (key i hi hx).1).2.2.2.2
 ·obtain ⟨-,k1,k2⟩:=key i hi hx;have n1:∀e,S.ay l i e=false->(S.sp l j).2.1≠e/\(S.sp l j).2.2≠e:=λe he=>by
   refine ⟨λc=>?_,λc=>?_⟩
   ·rw[iY.2 ⟨j,hj,hy,.inl c⟩] at he;cases he
   ·rw[iY.2 ⟨j,hj,hy,.inr c⟩] at he;cases he
  have a:=n1 _ k1;have b:=n1 _ k2;exact ⟨Ne.symm a.1,Ne.symm a.2,Ne.symm b.1,Ne.symm b.2⟩
structure NsI (l:List Sp) (vr:List Nat) (p:Nat) (s:NsT):Prop where
 s0:s.2.2[l.length - 1]?.getD 0=0
 s1:∀i,p<=i->i<l.length->s.2.1[i]?.getD 0=vr[i]?.getD 0 &&& s.2.2[i]?.getD 0
 s2:∀i,p<=i->i<l.length->(S.sp l i).1 = -1->s.1[i]?.getD 0=S.am (vr[(S.sp l i).2.1.toNat]?.getD 0 &&& vr[(S.sp l i).2.2.toNat]?.getD 0) (s.2.2[i]?.getD 0)
 s3:∀i,p<=i->i<l.length->(S.sp l i).1 = -1->s.2.2[(S.sp l i).2.1.toNat]?.getD 0=s.2.2[i]?.getD 0 ||| s.1[i]?.getD 0
 s4:∀i,p<=i->i<l.length->(S.sp l i).1 = -1->s.2.2[(S.sp l i).2.2.toNat]?.getD 0=s.2.2[i]?.getD 0 ||| s.1[i]?.getD 0
theorem MT {n:Net}{l:List Sp}{vr:List Nat}(hl:LEl n l)(hu:LUq l)(hL:0<l.length):∀j,j<=l.length->(S.aL l vr j).1.length=l.length/\(S.aL l vr j).2.1.length=l.length/\(S.aL l vr j).2.2.length=l.length/\NsI l vr (l.length - j) (S.aL l vr j)
 | 0,_=>by refine ⟨by simp[S.aL],by simp[S.aL],by simp[S.aL],⟨?_,λi h1 h2=>by omega,λi h1 h2=>by omega,λi h1 h2=>by omega,λi h1 h2=>by omega⟩⟩;show (List.replicate l.length 0)[l.length - 1]?.getD 0=0;rw[List.getElem?_replicate];split<;>rfl
 | j+1,hj=>by
  obtain ⟨l1,l2,l3,⟨s0,s1,s2,s3,s4⟩⟩:=MT (vr:=vr) hl hu hL j (by omega);obtain ⟨s,hs⟩:∃s,s=S.aL l vr j:=⟨_,rfl⟩;rw[<-hs] at l1 l2 l3 s0 s1 s2 s3 s4;obtain ⟨p,hp⟩:∃p,p=l.length - 1 - j:=⟨_,rfl⟩;rw[show l.length - (j+1)=p by omega,S.aL,<-hs,<-hp];rw[show l.length - j=p+1 by omega] at s1 s2 s3 s4;have hpl:p<l.length:=by omega
  unfold S.bN
  by_cases hx:(S.sp l p).1 = -1
  ·rw[if_pos hx];obtain ⟨y1,y2,y3,y4⟩:=hl.j p hpl hx;obtain ⟨le,hle⟩:=Int.eq_ofNat_of_zero_le y1;obtain ⟨ri,hri⟩:=Int.eq_ofNat_of_zero_le y3;have hne:=hu.ne p hpl hx;have huq:=λi (hi:i<l.length) (hpi:p<i) (hxi:(S.sp l i).1 = -1)=>hu.uq i p hi hpi hxi hx;rw[hle] at y2 hne huq;rw[hri] at y4 hne huq;simp only[hle,hri,Int.toNat_natCast];obtain ⟨cc,hcc⟩:∃cc,cc=S.am (vr[le]?.getD 0 &&& vr[ri]?.getD 0) (s.2.2[p]?.getD 0):=⟨_,rfl⟩;rw[<-hcc];have hner:ri≠le:=λe=>hne (by rw[e]);have ab1:∀i,i≠le->i≠ri->((s.2.2.set le (s.2.2[p]?.getD 0 ||| cc)).set ri (s.2.2[p]?.getD 0 ||| cc))[i]?.getD 0=s.2.2[i]?.getD 0:=λi h1 h2=>by rw[dD h2,dD h1]
   have ab2:((s.2.2.set le (s.2.2[p]?.getD 0 ||| cc)).set ri (s.2.2[p]?.getD 0 ||| cc))[le]?.getD 0=s.2.2[p]?.getD 0 ||| cc:=by rw[dD (Ne.symm hner),eQ (by omega)]
   have ab3:((s.2.2.set le (s.2.2[p]?.getD 0 ||| cc)).set ri (s.2.2[p]?.getD 0 ||| cc))[ri]?.getD 0=s.2.2[p]?.getD 0 ||| cc:=by rw[eQ (by rw[List.length_set];omega)]
   have child:∀i,p<i->i<l.length->(S.sp l i).1 = -1->((S.sp l i).2.1.toNat≠le/\(S.sp l i).2.1.toNat≠ri)/\(S.sp l i).2.2.toNat≠le/\(S.sp l i).2.2.toNat≠ri:=λi h1 h2 h3=>by obtain ⟨z1,z2,z3,z4⟩:=huq i h2 h1 h3;obtain ⟨w1,-,w3,-⟩:=hl.j i h2 h3;omega
   refine ⟨by simp[l1],by simp[l2],by simp[l3],⟨?_,λi h1 h2=>?_,λi h1 h2 h3=>?_,λi h1 h2 h3=>?_,λi h1 h2 h3=>?_⟩⟩
   ·show ((s.2.2.set le _).set ri _)[l.length - 1]?.getD 0=0;rw[ab1 _ (by omega) (by omega),s0]
   ·show (s.2.1.set p _)[i]?.getD 0=vr[i]?.getD 0 &&& ((s.2.2.set le _).set ri _)[i]?.getD 0;rw[ab1 i (by omega) (by omega)]
    by_cases e:i=p
    ·subst e;rw[eQ (by omega)]
    ·rw[dD e,s1 i (by omega) h2]
   ·show (s.1.set p cc)[i]?.getD 0=S.am _ (((s.2.2.set le _).set ri _)[i]?.getD 0);rw[ab1 i (by omega) (by omega)]
    by_cases e:i=p
    ·subst e;rw[eQ (by omega),hle,hri,Int.toNat_natCast,Int.toNat_natCast,hcc]
    ·rw[dD e,s2 i (by omega) h2 h3]
   ·show ((s.2.2.set le _).set ri _)[(S.sp l i).2.1.toNat]?.getD 0=((s.2.2.set le _).set ri _)[i]?.getD 0 ||| (s.1.set p cc)[i]?.getD 0;rw[ab1 i (by omega) (by omega)]
    by_cases e:i=p
    ·subst e;rw[hle,Int.toNat_natCast,ab2,eQ (by omega)]
    ·have hc:=child i (by omega) h2 h3;rw[dD e,ab1 _ hc.1.1 hc.1.2,s3 i (by omega) h2 h3]
   ·show ((s.2.2.set le _).set ri _)[(S.sp l i).2.2.toNat]?.getD 0=((s.2.2.set le _).set ri _)[i]?.getD 0 ||| (s.1.set p cc)[i]?.getD 0;rw[ab1 i (by omega) (by omega)]
    by_cases e:i=p
    ·subst e;rw[hri,Int.toNat_natCast,ab3,eQ (by omega)]
    ·have hc:=child i (by omega) h2 h3;rw[dD e,ab1 _ hc.2.1 hc.2.2,s4 i (by omega) h2 h3]
  ·rw[if_neg hx];refine ⟨l1,by simp[l2],l3,⟨s0,λi h1 h2=>?_,λi h1 h2 h3=>?_,λi h1 h2 h3=>?_,λi h1 h2 h3=>?_⟩⟩
   ·show (s.2.1.set p _)[i]?.getD 0=vr[i]?.getD 0 &&& s.2.2[i]?.getD 0
    by_cases e:i=p
    ·subst e;rw[eQ (by omega)]
    ·rw[dD e,s1 i (by omega) h2]
   ·exact s2 i (by have:i≠p:=λe=>hx (by rw[<-e];exact h3);omega) h2 h3
   ·exact s3 i (by have:i≠p:=λe=>hx (by rw[<-e];exact h3);omega) h2 h3
   ·exact s4 i (by have:i≠p:=λe=>hx (by rw[<-e];exact h3);omega) h2 h3
theorem Ku {n:Net}{e:List Int}{l:List Sp}(hl:LEl n l)(hu:LUq l)(hL:0<l.length):Sta l (S.vr n e l) (S.ch n e l) (S.cm n e l) (S.cI n e l):=by obtain ⟨-,-,-,⟨s0,s1,s2,s3,s4⟩⟩:=MT (vr:=S.vr n e l) hl hu hL l.length (Nat.le_refl _);exact ⟨s0,λi hi=>s1 i (by omega) hi,λi hi=>s2 i (by omega) hi,λi hi=>s3 i (by omega) hi,λi hi=>s4 i (by omega) hi⟩
theorem tD {n:Net}{e:List Int}{l:List Sp}:∀{j i:Nat},i<j->(S.aJ n e l j)[i]?=some (if (S.sp l i).1 = -1 then (S.aJ n e l i)[(S.sp l i).2.1.toNat]?.getD 0 ||| (S.aJ n e l i)[(S.sp l i).2.2.toNat]?.getD 0 else S.aA n e (S.sp l i).1.toNat)
 | 0,i,h=>by omega
 | j+1,i,h=>by
  by_cases c:i=j
  ·subst c;rw[S.aJ,List.getElem?_append_right (by rw[ij];exact Nat.le_refl _),ij,Nat.sub_self];rfl
  ·rw[S.aJ,List.getElem?_append_left (by rw[ij];omega),tD (by omega)]
theorem tE {n:Net}{e:List Int}{l:List Sp}(hl:LEl n l){i:Nat}(hi:i<l.length)(hx:(S.sp l i).1 = -1):(S.vr n e l)[i]?.getD 0=(S.vr n e l)[(S.sp l i).2.1.toNat]?.getD 0 ||| (S.vr n e l)[(S.sp l i).2.2.toNat]?.getD 0:=by
 obtain ⟨y1,y2,y3,y4⟩:=hl.j i hi hx;have key:∀a,a<i->(S.aJ n e l i)[a]?=(S.vr n e l)[a]?:=λa ha=>by rw[S.vr,tD ha];exact (tD (by omega)).symm
 rw[S.vr,tD hi,if_pos hx,Option.getD_some,key _ (by omega),key _ (by omega),S.vr]
theorem vK {n:Net}{e:List Int}{l:List Sp}{i:Nat}(hi:i<l.length)(hx:(S.sp l i).1≠-1):(S.vr n e l)[i]?.getD 0=S.aA n e (S.sp l i).1.toNat:=by rw[S.vr,tD hi,if_neg hx];rfl
theorem Nz {n:Net}{e:List Int}{l:List Sp}(hr:NR n)(hl:LEl n l):LOk n l (S.vr n e l) :=
 ⟨hl.j,hl.f,λi hi hx=>tE hl hi hx,M7 hr hl⟩
theorem tF {n:Net}{e:List Int}{l:List Sp}(hr:NR n)(hl:LEl n l):∀i,i<l.length->∀v,((S.vr n e l)[i]?.getD 0).testBit v=true->e[v]?.getD 0 = -1:=by
 intro i
 induction i using Nat.strongRecOn with
 | _ i ih =>
  intro hi v hv
  by_cases hx:(S.sp l i).1 = -1
  ·obtain ⟨y1,y2,y3,y4⟩:=hl.j i hi hx;rw[tE hl hi hx,da,Bool.or_eq_true] at hv;rcases hv with hv | hv
   ·exact ih _ (by omega) (by omega) v hv
   ·exact ih _ (by omega) (by omega) v hv
  ·have:=hl.f i hi hx;rw[vK hi hx] at hv;exact ((od hr (by omega) e v).1 hv).2
end Hx
end
section
namespace Hx
open Go
section
variable {M:Type}{op:M->M->M}{u:M}
def S.fo (op:M->M->M)(u:M)(F:Nat->M):Nat->M
 | 0=>u
 | k+1=>op (S.fo op u F k) (F k)
theorem kT {F G:Nat->M}:∀{k:Nat},(∀j,j<k->F j=G j)->S.fo op u F k=S.fo op u G k
 | 0,_=>rfl
 | k+1,h=>by rw[S.fo,S.fo,kT λj hj=>h j (by omega),h k (by omega)]
theorem Ad (h1:∀a,op a u=a){F:Nat->M}:∀{k:Nat},(∀j,j<k->F j=u)->S.fo op u F k=u
 | 0,_=>rfl
 | k+1,h=>by rw[S.fo,Ad h1 λj hj=>h j (by omega),h k (by omega),h1]
theorem Ab (h1:∀a,op a u=a)(hc:∀a b,op a b=op b a)(ha:∀a b c,op (op a b) c=op a (op b c)){F:Nat->M}{a:Nat}:∀{k:Nat},a<k->S.fo op u F k=op (S.fo op u (λj=>if j=a then u else F j) k) (F a)
 | 0,h=>by omega
 | k+1,h=>by
  rw[S.fo,S.fo]
  by_cases e:a=k
  ·subst e;rw[if_pos rfl,h1];congr 1;exact kT λj hj=>(if_neg (by omega)).symm
  ·rw[Ab h1 hc ha (by omega:a<k),if_neg (λh=>e h.symm),ha,ha,hc (F a)]
def S.bM (op:M->M->M)(wt:Nat->M)(l:List Sp):Nat->Nat->M
 | 0,i=>wt i
 | f+1,i=>if (S.sp l i).1 = -1 then op (op (S.bM op wt l f (S.sp l i).2.1.toNat) (S.bM op wt l f (S.sp l i).2.2.toNat)) (wt i) else wt i
def S.ev (op:M->M->M)(wt:Nat->M)(l:List Sp)(i:Nat):M:=S.bM op wt l (i+1) i
theorem Ik {wt:Nat->M}{n:Net}{l:List Sp}(hl:LEl n l):∀{i f f':Nat},i<l.length->i<f->i<f'->S.bM op wt l f i=S.bM op wt l f' i:=by
 intro i
 induction i using Nat.strongRecOn with
 | _ i ih =>
  intro f f' hi h h';obtain ⟨f,rfl⟩:∃k,f=k+1:=⟨f - 1,by omega⟩;obtain ⟨f',rfl⟩:∃k,f'=k+1:=⟨f' - 1,by omega⟩;rw[S.bM,S.bM]
  by_cases hx:(S.sp l i).1 = -1
  ·obtain ⟨y1,y2,y3,y4⟩:=hl.j i hi hx;rw[if_pos hx,if_pos hx,ih (S.sp l i).2.1.toNat (by omega) (f:=f) (f':=f') (by omega) (by omega) (by omega),ih (S.sp l i).2.2.toNat (by omega) (f:=f) (f':=f') (by omega) (by omega) (by omega)]
  ·rw[if_neg hx,if_neg hx]
theorem sM {wt:Nat->M}{n:Net}{l:List Sp}(hl:LEl n l){i:Nat}(hi:i<l.length)(hx:(S.sp l i).1 = -1):S.ev op wt l i=op (op (S.ev op wt l (S.sp l i).2.1.toNat) (S.ev op wt l (S.sp l i).2.2.toNat)) (wt i):=by obtain ⟨y1,y2,y3,y4⟩:=hl.j i hi hx;rw[S.ev,S.bM,if_pos hx,S.ev,S.ev,Ik hl (f:=i) (f':=(S.sp l i).2.1.toNat+1) (by omega) (by omega) (by omega),Ik hl (f:=i) (f':=(S.sp l i).2.2.toNat+1) (by omega) (by omega) (by omega)]
theorem sN {wt:Nat->M}{l:List Sp}{i:Nat}(hx:(S.sp l i).1≠-1):S.ev op wt l i=wt i:=by rw[S.ev,S.bM,if_neg hx]
end
structure LCk (n:Net) (l:List Sp):Prop where
 len:(l.length:Int)=2*(n.nodes.length:Int) - 1
 el:LEl n l
 uq:LUq l
 nu:∀i,i<l.length->(S.sp l i).1 = -1->S.ay l i (S.sp l i).2.1=false/\S.ay l i (S.sp l i).2.2=false
 nl:∀i,i<l.length->(S.sp l i).1≠-1->S.aR l i (S.sp l i).1=false
 al:∀v:Nat,v<n.nodes.length->S.aR l l.length (v:Int)=true
 au:∀e:Nat,e<l.length - 1->S.ay l l.length (e:Int)=true
theorem Jg {n:Net}{l:List Sp}(h:S.ck l n.nodes.length=true):LCk n l:=by
 obtain ⟨h1,h2,h3⟩:=H3 h;simp only[S.ck,Bool.and_eq_true,decide_eq_true_eq,List.all_eq_true,List.mem_range] at h;obtain ⟨⟨⟨-,h4⟩,h5⟩,h6⟩:=h;refine ⟨h1,h2,h3,λi hi hx=>?_,λi hi hx=>?_,h5,h6⟩
 ·have:=h4 i hi;rw[S.bg,if_pos hx,Bool.and_eq_true,Bool.and_eq_true,Bool.not_eq_true',Bool.not_eq_true'] at this;exact ⟨this.1.2,this.2⟩
 ·have:=h4 i hi;rw[S.bg,if_neg hx,Bool.and_eq_true,Bool.not_eq_true'] at this;exact this.2
theorem Ek {n:Net}{l:List Sp}(hl:LEl n l){i:Nat}(hi:i<=l.length){e:Nat}(he:i<=e+1):S.ay l i (e:Int)=false:=by
 cases h:S.ay l i (e:Int) with
 | false=>rfl
 | true =>
  obtain ⟨j,hj,hx,h2⟩:=iY.1 h;obtain ⟨y1,y2,y3,y4⟩:=hl.j j (by omega) hx;omega
section
variable {M:Type}{op:M->M->M}{u:M}{n:Net}{l:List Sp}
theorem xE (h1:∀a,op a u=a)(hc:∀a b,op a b=op b a)(ha:∀a b c,op (op a b) c=op a (op b c))(hl:LCk n l)(wt:Nat->M) :
  ∀{i:Nat},i<=l.length->S.fo op u (λj=>if S.ay l i (j:Int)=true then u else S.ev op wt l j) i=S.fo op u wt i
 | 0,_=>rfl
 | i+1,hi=>by
  have ih:=xE h1 hc ha hl wt (i:=i) (by omega);have hui:S.ay l (i+1) (i:Int)=false:=Ek hl.el hi (by omega);rw[S.fo,S.fo,if_neg (by rw[hui];exact Bool.false_ne_true),<-ih]
  by_cases hx:(S.sp l i).1 = -1
  ·obtain ⟨y1,y2,y3,y4⟩:=hl.el.j i (by omega) hx;obtain ⟨a,ea⟩:=Int.eq_ofNat_of_zero_le y1;obtain ⟨b,eb⟩:=Int.eq_ofNat_of_zero_le y3;have hne:=hl.uq.ne i (by omega) hx;obtain ⟨n1,n2⟩:=hl.nu i (by omega) hx;rw[sM hl.el (by omega) hx];rw[ea] at y2 hne n1;rw[eb] at y4 hne n2;rw[ea,eb,Int.toNat_natCast,Int.toNat_natCast];have e1:S.fo op u (λj=>if S.ay l (i+1) (j:Int)=true then u else S.ev op wt l j) i=S.fo op u (λj=>if j=b then u else if j=a then u else if S.ay l i (j:Int)=true then u else S.ev op wt l j) i:=kT λj hj=>by
    rw[tC,hx,ea,eb]
    by_cases c1:j=b
    ·subst c1;simp
    ·by_cases c2:j=a
     ·subst c2;simp
     ·have:¬(a:Int)=(j:Int):=by omega
      have:¬(b:Int)=(j:Int):=by omega
      simp[*]
   rw[e1]
   conv=>rhs;rw[Ab h1 hc ha (show a<i by omega)]
   rw[Ab (F:=λj=>if j=a then u else if S.ay l i (j:Int)=true then u else S.ev op wt l j) (a:=b) h1 hc ha (show b<i by omega)];simp only[n1,n2,Bool.false_eq_true,if_false];rw[if_neg (show ¬b=a from λe=>hne (by rw[e]))];rw[<-ha,<-ha];congr 1;rw[ha,ha,hc (S.ev op wt l b)]
  ·rw[sN hx];congr 1;exact kT λj hj=>by rw[tC];simp[hx]
theorem xN (h1:∀a,op a u=a)(hc:∀a b,op a b=op b a)(ha:∀a b c,op (op a b) c=op a (op b c))(hl:LCk n l)(h0:0<l.length)(wt:Nat->M) :
  S.ev op wt l (l.length - 1)=S.fo op u wt l.length:=by
 rw[<-xE h1 hc ha hl wt (Nat.le_refl _)];obtain ⟨m,hm⟩:∃m,l.length=m+1:=⟨l.length - 1,by omega⟩;have hui:S.ay l (m+1) (m:Int)=false:=Ek hl.el (by omega) (by omega);rw[hm,Nat.add_sub_cancel,S.fo,if_neg (by rw[hui];exact Bool.false_ne_true),Ad h1,hc,h1];intro j hj;rw[if_pos];rw[<-hm];exact hl.au j (by omega)
theorem B2 (h1:∀a,op a u=a)(hc:∀a b,op a b=op b a)(ha:∀a b c,op (op a b) c=op a (op b c))(hl:LCk n l)(F:Nat->M) :
  S.fo op u (λj=>if (S.sp l j).1 = -1 then u else F (S.sp l j).1.toNat) l.length=S.fo op u F n.nodes.length:=by
 have key:∀i,i<=l.length->S.fo op u (λj=>if (S.sp l j).1 = -1 then u else F (S.sp l j).1.toNat) i=S.fo op u (λv=>if S.aR l i (v:Int)=true then F v else u) n.nodes.length:=by
  intro i
  induction i with
  | zero=>intro _;exact (Ad h1 λj _=>by simp[S.aR]).symm
  | succ i ih =>
   intro hi;rw[S.fo,ih (by omega)]
   by_cases hx:(S.sp l i).1 = -1
   ·rw[if_pos hx,h1];refine kT λj hj=>?_;rw[qg,hx];have:¬(-1:Int)=(j:Int):=by omega
    simp[this]
   ·obtain ⟨y1,y2⟩:=hl.el.f i (by omega) hx;have hn:=hl.nl i (by omega) hx;obtain ⟨v,ev⟩:=Int.eq_ofNat_of_zero_le y1;rw[if_neg hx];rw[ev] at y2 hn;rw[ev,Int.toNat_natCast]
    conv=>rhs;rw[Ab (a:=v) h1 hc ha (by omega)]
    rw[qg,ev,if_pos (by simp)];congr 1;refine kT λj hj=>?_
    by_cases c:j=v
    ·subst c;rw[if_pos rfl,if_neg (by rw[hn];exact Bool.false_ne_true)]
    ·have:¬(v:Int)=(j:Int):=by omega
     rw[if_neg c,qg,ev];simp[this]
 rw[key _ (Nat.le_refl _)];exact kT λv hv=>if_pos (hl.al v hv)
end
def S.bp (l:List Sp)(i:Nat):Nat:=S.ev (·+·) (λ_=>1) l i
def S.aZ (l:List Sp)(e i:Nat):Nat:=S.ev (·+·) (λj=>if j=e then 1 else 0) l i
theorem MA {F:Nat->Nat}{a:Nat}:∀{k:Nat},a<k->F a<=S.fo (·+·) 0 F k
 | 0,h=>by omega
 | k+1,h=>by
  rw[S.fo]
  by_cases e:a=k
  ·subst e;omega
  ·have:=MA (F:=F) (show a<k by omega);omega
theorem Iz (e:Nat):∀k:Nat,S.fo (·+·) 0 (λj=>if j=e then 1 else 0) k<=1/\(k<=e->S.fo (·+·) 0 (λj=>if j=e then 1 else 0) k=0)
 | 0=>⟨by simp[S.fo],λ_=>rfl⟩
 | k+1=>by
  obtain ⟨h1,h2⟩:=Iz e k;simp only[S.fo]
  by_cases c:k=e
  ·subst c;have:=h2 (Nat.le_refl _);rw[if_pos rfl];omega
  ·rw[if_neg c];exact ⟨by omega,λh=>by rw[h2 (by omega)]⟩
theorem IA:∀k:Nat,S.fo (·+·) 0 (λ_=>1) k=k
 | 0=>rfl
 | k+1=>by rw[S.fo,IA k]
theorem wA {n:Net}{l:List Sp}(hl:LCk n l)(h0:0<l.length):S.bp l (l.length - 1)=l.length:=by rw[S.bp,xN (u:=0) (λa=>Nat.add_zero a) Nat.add_comm Nat.add_assoc hl h0,IA]
theorem wy {n:Net}{l:List Sp}(hl:LEl n l){i:Nat}(hi:i<l.length)(hx:(S.sp l i).1 = -1):S.bp l i=S.bp l (S.sp l i).2.1.toNat+S.bp l (S.sp l i).2.2.toNat+1:=sM hl hi hx
theorem wz {l:List Sp}{i:Nat}(hx:(S.sp l i).1≠-1):S.bp l i=1:=sN hx
theorem wX {n:Net}{l:List Sp}(hl:LEl n l){i e:Nat}(hi:i<l.length)(hx:(S.sp l i).1 = -1):S.aZ l e i=S.aZ l e (S.sp l i).2.1.toNat+S.aZ l e (S.sp l i).2.2.toNat+if i=e then 1 else 0:=sM hl hi hx
theorem Nw {n:Net}{l:List Sp}(hl:LCk n l){i:Nat}(hi:i<l.length)(e:Nat):S.aZ l e i<=1:=by have h:S.fo (·+·) 0 (λj=>if S.ay l (i+1) (j:Int)=true then 0 else S.ev (·+·) (λj=>if j=e then 1 else 0) l j) (i+1)=S.fo (·+·) 0 (λj=>if j=e then 1 else 0) (i+1):=xE (λa=>Nat.add_zero a) Nat.add_comm Nat.add_assoc hl _ (by omega);have h2:=Iz e (i+1);have hui:S.ay l (i+1) (i:Int)=false:=Ek hl.el (by omega) (by omega);have h3:=MA (F:=λj=>if S.ay l (i+1) (j:Int)=true then 0 else S.ev (·+·) (λj=>if j=e then 1 else 0) l j) (show i<i+1 by omega);rw[h] at h3;simp only[hui,Bool.false_eq_true,if_false] at h3;rw[S.aZ];omega
theorem GQ {n:Net}{l:List Sp}(hl:LCk n l){i e:Nat}(hi:i<l.length)(hx:(S.sp l i).1 = -1)(h:0<S.aZ l e (S.sp l i).2.1.toNat):S.aZ l e (S.sp l i).2.2.toNat=0/\e≠i:=by
 have h1:=Nw hl hi e;rw[wX hl.el hi hx] at h1
 by_cases c:i=e
 ·rw[if_pos c] at h1;omega
 ·exact ⟨by omega,λh=>c h.symm⟩
theorem BU {n:Net}{l:List Sp}(hl:LEl n l){i:Nat}(hi:i<l.length):0<S.aZ l i i:=by
 by_cases hx:(S.sp l i).1 = -1
 ·rw[wX hl hi hx,if_pos rfl];omega
 ·rw[S.aZ,sN hx,if_pos rfl];omega
end Hx
end
section
namespace Hx
open Go
theorem N8 {x y:Int}(h:x % 18446744073709551616=y % 18446744073709551616):w64 x=w64 y:=by
 have h':x % (2 ^ 64:Int)=y % (2 ^ 64:Int):=by omega
 simp only[w64,IntKind.wrap,IntKind.bits,IntKind.signed,Bool.true_and,decide_eq_true_eq,h'];simp
theorem vM (x:Int):w64 x % 18446744073709551616=x % 18446744073709551616:=by
 simp only[w64,IntKind.wrap,IntKind.bits,IntKind.signed,Bool.true_and,decide_eq_true_eq]
 split<;>omega
theorem KH (s x y:Int):w64 (w64 s+w64 (w64 x*w64 y))=w64 (s+x*y):=N8 (by
 rw[Int.add_emod,vM,vM,Int.mul_emod,vM,vM,<-Int.mul_emod,<-Int.add_emod])
def S.gw (n:Net)(l:List Sp)(w:List Int)(j:Nat):Int:=if (S.sp l j).1 = -1 then 1 else S.aH n w (S.sp l j).1.toNat
def S.ba (n:Net)(l:List Sp)(i:Nat)(w:List Int):Int:=S.ev (·*·) (S.gw n l w) l i
theorem wT {n:Net}{l:List Sp}(hl:LEl n l){i:Nat}(hi:i<l.length)(hx:(S.sp l i).1 = -1)(w:List Int):S.ba n l i w=S.ba n l (S.sp l i).2.1.toNat w*S.ba n l (S.sp l i).2.2.toNat w:=by have h:S.ba n l i w=S.ba n l (S.sp l i).2.1.toNat w*S.ba n l (S.sp l i).2.2.toNat w*S.gw n l w i:=sM hl hi hx;rw[h,S.gw,if_pos hx,Int.mul_one]
theorem wU {n:Net}{l:List Sp}{i:Nat}(hx:(S.sp l i).1≠-1)(w:List Int):S.ba n l i w=S.aH n w (S.sp l i).1.toNat:=by have h:S.ba n l i w=S.gw n l w i:=sN hx;rw[h,S.gw,if_neg hx]
theorem Lk {n:Net}{w w':List Int}{u:Nat}(h:∀p∈S.aI n u,w[p.toNat]?.getD 0=w'[p.toNat]?.getD 0):S.aH n w u=S.aH n w' u:=by
 unfold S.aH
 split
 ·rfl
 ·rename_i x hx;have hfl:S.aI n u=x.parents++[(u:Int)]:=by simp[S.aI,hx]
  rw[hfl] at h;have e1:S.ah w x.parents=S.ah w' x.parents:=List.map_congr_left λp hp=>h p (by simp[hp]);have e2:=h (u:Int) (by simp);rw[Int.toNat_natCast] at e2;rw[e1,e2]
theorem Ae {n:Net}{l:List Sp}{e:List Int}(hr:NR n)(hl:LEl n l){w w':List Int}:∀{i:Nat},i<l.length->(∀v:Nat,v<n.nodes.length->(e[v]?.getD 0≠-1\/((S.vr n e l)[i]?.getD 0).testBit v=true)->w[v]?.getD 0=w'[v]?.getD 0)->S.ba n l i w=S.ba n l i w':=by
 intro i
 induction i using Nat.strongRecOn with
 | _ i ih =>
  intro hi h
  by_cases hx:(S.sp l i).1 = -1
  ·obtain ⟨y1,y2,y3,y4⟩:=hl.j i hi hx;rw[wT hl hi hx,wT hl hi hx];rw[tE hl hi hx] at h;rw[ih _ (by omega) (by omega) λv hv hh=>h v hv (hh.imp id λhb=>by rw[da,hb,Bool.true_or]),
    ih _ (by omega) (by omega) λv hv hh=>h v hv (hh.imp id λhb=>by rw[da,hb,Bool.or_true])]
  ·obtain ⟨y1,y2⟩:=hl.f i hi hx;rw[wU hx,wU hx];rw[vK hi hx] at h;refine Lk λp hp=>?_;have hb:=lZ hr (by omega) p hp;refine h _ (by omega) ?_
   by_cases c:e[p.toNat]?.getD 0 = -1
   ·exact .inr ((od hr (by omega) e _).2 ⟨by rw[Int.toNat_of_nonneg hb.1];exact hp,c⟩)
   ·exact .inl c
theorem sV {w:List Int}{a i:Nat}{x:Int}(h:i≠a):(w.set a x)[i]?.getD 0=w[i]?.getD 0:=by rw[List.getElem?_set_ne (Ne.symm h)]
def S.nm (n:Net)(l:List Sp)(i s:Nat)(w:List Int):Int:=S.ap (S.ac n) (S.aa n s) (S.ba n l i) w
theorem LO {n:Net}{l:List Sp}{e:List Int}(hr:NR n)(hl:LEl n l){i ab:Nat}(hi:i<l.length)(hx:(S.sp l i).1 = -1){va vb c:Nat}(hva:va=(S.vr n e l)[(S.sp l i).2.1.toNat]?.getD 0)(hvb:vb=(S.vr n e l)[(S.sp l i).2.2.toNat]?.getD 0)(hc:c=S.am (va &&& vb) ab)(w:List Int) :
  S.nm n l i (S.am ((S.vr n e l)[i]?.getD 0) ab) w=S.ap (S.ac n) (S.aa n c) (λw=>S.nm n l (S.sp l i).2.1.toNat (S.am va (ab ||| c)) w*S.nm n l (S.sp l i).2.2.toNat (S.am vb (ab ||| c)) w) w:=by
 obtain ⟨y1,y2,y3,y4⟩:=hl.j i hi hx;have ho:=tF (e:=e) hr hl;have e1:S.aa n (S.am ((S.vr n e l)[i]?.getD 0) ab)=(List.range n.nodes.length).filter λv=>c.testBit v || ((S.am va (ab ||| c)).testBit v || (S.am vb (ab ||| c)).testBit v):=by rw[S.aa];refine List.filter_congr λv _=>?_;rw[tE hl hi hx,<-hva,<-hvb,hc];simp only[e_,da,Nat.testBit_and];cases va.testBit v<;>cases vb.testBit v<;>cases ab.testBit v<;>rfl
 rw[S.nm,e1,vR (λv h=>?_) List.nodup_range]
 ·show S.ap (S.ac n) (S.aa n c) _ w=_;congr 1;refine funext λw=>?_;rw[vR (λv h=>?_) List.nodup_range]
  ·rw[show (S.ba n l i)=λw=>S.ba n l (S.sp l i).2.1.toNat w*S.ba n l (S.sp l i).2.2.toNat w from funext λw=>wT hl hi hx w];refine HK (λv hv hv2=>?_) (λv hv x w=>?_) (λv hv x w=>?_)
   ·rw[List.mem_filter] at hv hv2;have h1:=hv.2;have h2:=hv2.2;rw[hc] at h1 h2;simp only[e_,da,Nat.testBit_and] at h1 h2;revert h1 h2;cases va.testBit v<;>cases vb.testBit v<;>cases ab.testBit v<;>simp
   ·rw[List.mem_filter] at hv;have h2:=hv.2;refine Ae (e:=e) hr hl (by omega) λu hu hh=>sV λeq=>?_;subst eq;rw[hc] at h2;simp only[e_,da,Nat.testBit_and] at h2;rcases hh with hh | hh
    ·refine hh (ho _ (show (S.sp l i).2.2.toNat<l.length by omega) u ?_);rw[<-hvb];revert h2;cases va.testBit u<;>cases vb.testBit u<;>simp
    ·rw[<-hva] at hh;revert h2;rw[hh];cases vb.testBit u<;>cases ab.testBit u<;>simp
   ·rw[List.mem_filter] at hv;have h2:=hv.2;refine Ae (e:=e) hr hl (by omega) λu hu hh=>sV λeq=>?_;subst eq;rw[hc] at h2;simp only[e_,da,Nat.testBit_and] at h2;rcases hh with hh | hh
    ·refine hh (ho _ (show (S.sp l i).2.1.toNat<l.length by omega) u ?_);rw[<-hva];revert h2;cases va.testBit u<;>cases vb.testBit u<;>simp
    ·rw[<-hvb] at hh;revert h2;rw[hh];cases va.testBit u<;>cases ab.testBit u<;>simp
  ·rw[hc] at h ⊢;simp only[e_,da,Nat.testBit_and] at h ⊢;revert h;cases va.testBit v<;>cases vb.testBit v<;>cases ab.testBit v<;>simp
 ·rw[hc] at h ⊢;simp only[e_,da,Nat.testBit_and] at h ⊢;revert h;cases va.testBit v<;>cases vb.testBit v<;>cases ab.testBit v<;>simp
structure Ev (n:Net) (e:List Int) (ab:Nat) (w:List Int):Prop where
 l:w.length=n.nodes.length
 k:∀v:Nat,v<n.nodes.length->e[v]?.getD 0≠-1->w[v]?.getD 0=e[v]?.getD 0
 o:∀v:Nat,v<n.nodes.length->e[v]?.getD 0 = -1->(w[v]?.getD 0 = -1↔ab.testBit v=false)
theorem FU {v:Nat}:∀{L:List Nat} {w w' xs:List Int},w.length=w'.length->xs.length=L.length->(v∈L\/w[v]?=w'[v]?)->(S.aB w L xs)[v]?=(S.aB w' L xs)[v]?
 | [],w,w',xs,_,_,h=>by
  rcases h with h | h
  ·simp at h
  ·simpa [S.aB] using h
 | u::r,w,w',[],_,h2,_=>by simp at h2
 | u::r,w,w',x::xs,h1,h2,h=>by
  rw[S.aB,S.aB];refine FU (by simp[h1]) (by simpa using h2) ?_
  by_cases c:u=v
  ·subst c;right;rw[List.getElem?_set,List.getElem?_set,h1];simp
  ·rcases h with h | h
   ·exact .inl ((List.mem_cons.1 h).resolve_left λe=>c e.symm)
   ·right;rw[List.getElem?_set_ne c,List.getElem?_set_ne c,h]
theorem NL {n:Net}{l:List Sp}{e:List Int}(hr:NR n)(hl:LEl n l){i ab:Nat}(hi:i<l.length){w w':List Int}(hw:Ev n e ab w)(hw':Ev n e ab w')(hk:S.aN w ((S.vr n e l)[i]?.getD 0 &&& ab)=S.aN w' ((S.vr n e l)[i]?.getD 0 &&& ab)) :
  S.nm n l i (S.am ((S.vr n e l)[i]?.getD 0) ab) w=S.nm n l i (S.am ((S.vr n e l)[i]?.getD 0) ab) w':=by
 have h8:=hr.l2;rw[S.nm,S.nm,vo,vo];refine nO λxs hxs=>Ae (e:=e) hr hl hi λv hv hh=>?_;have hlen:xs.length=(S.aa n (S.am ((S.vr n e l)[i]?.getD 0) ab)).length:=by simpa using hxs.len
 by_cases c:v∈S.aa n (S.am ((S.vr n e l)[i]?.getD 0) ab)
 ·exact congrArg (λo=>Option.getD o 0) (FU (hw.l.trans hw'.l.symm) hlen (.inl c))
 ·rw[nL c,nL c]
  by_cases hv1:e[v]?.getD 0 = -1
  ·rcases hh with hh | hh
   ·exact absurd hv1 hh
   ·have hab:ab.testBit v=true:=by
     cases hb:ab.testBit v with
     | true=>rfl
     | false=>exact absurd (jC.2 ⟨hv,by rw[e_,hh,hb];rfl⟩) c
    have h1:=congrArg (λL:List Int=>L[v]?) hk;simp only[S.aN,List.getElem?_map,List.getElem?_range (show v<8 by omega),Option.map_some,Nat.testBit_and,hh,hab,Bool.and_self,if_true,Option.some.injEq] at h1;exact h1
  ·rw[hw.k v hv hv1,hw'.k v hv hv1]
theorem NU {n:Net}{e:List Int}(hr:NR n){ab c:Nat}(hc:∀v:Nat,c.testBit v=true->e[v]?.getD 0 = -1){w:List Int}(hw:Ev n e ab w)(j:Nat):Ev n e (ab ||| c) (S.aw n w (S.aa n c) j):=by
 refine ⟨by rw[S.aw,qo];exact hw.l,λv hv h=>?_,λv hv h=>?_⟩
 ·have:v ∉ S.aa n c:=λhm=>h (hc v (jC.1 hm).2);rw[tv this];exact hw.k v hv h
 ·by_cases hm:v∈S.aa n c
  ·obtain ⟨x,h1,h2,h3⟩:=DU hr hw.l (j:=j) hm;rw[h1,da,(jC.1 hm).2,Bool.or_true,Option.getD_some];constructor
   ·intro hx;omega
   ·intro hx;cases hx
  ·rw[tv hm,hw.o v hv h,da];have:c.testBit v=false:=by
    cases hb:c.testBit v with
    | false=>rfl
    | true=>exact absurd (jC.2 ⟨hv,hb⟩) hm
   rw[this,Bool.or_false]
theorem Kl {n:Net}(hr:NR n)(s:Nat)(F:List Int->Int)(w:List Int):S.sm (λj=>F (S.aw n w (S.aa n s) j)) (S.aC n (S.aa n s))=S.ap (S.ac n) (S.aa n s) F w:=by refine C1 λv hv=>?_;have:=(jC.1 hv).1;rw[List.getElem?_eq_getElem (by rw[ba];exact this),Option.getD_some];exact (hr.cs _ (List.getElem_mem _)).1
theorem Ny {n:Net}{l:List Sp}{e:List Int}(hr:NR n)(hl:LEl n l){i ab:Nat}(hi:i<l.length)(hx:(S.sp l i).1≠-1){w:List Int}(hw:Ev n e ab w):S.bX n w (S.sp l i).1.toNat=S.nm n l i (S.am ((S.vr n e l)[i]?.getD 0) ab) w:=by
 obtain ⟨y1,y2⟩:=hl.f i hi hx;have e1:S.aa n (S.aA n w (S.sp l i).1.toNat)=S.aa n (S.am ((S.vr n e l)[i]?.getD 0) ab):=by
  rw[S.aa,S.aa,vK hi hx];refine List.filter_congr λv hv=>?_;have hv:=List.mem_range.1 hv;rw[Bool.eq_iff_iff,od hr (by omega),e_,Bool.and_eq_true,od hr (by omega),Bool.not_eq_true']
  by_cases c:e[v]?.getD 0 = -1
  ·rw[hw.o v hv c];constructor
   ·rintro ⟨a,b⟩;exact ⟨⟨a,c⟩,b⟩
   ·rintro ⟨⟨a,-⟩,b⟩;exact ⟨a,b⟩
  ·rw[hw.k v hv c];constructor
   ·rintro ⟨a,b⟩;exact absurd b c
   ·rintro ⟨⟨-,b⟩,-⟩;exact absurd b c
 rw[S.bX,Kl hr _ (λw=>S.aH n w (S.sp l i).1.toNat),e1,S.nm];congr 1;exact funext λw=>(wU hx w).symm
end Hx
end
section
namespace Hx
open Go
section
variable {α:Type} [DecidableEq α]
theorem xw (k:α)(v:Int):∀(L:List (α×Int)) (a:α),eC (mst k v L) a=(decide (a=k) || eC L a)
 | [],a=>by simp[mst,eC]
 | (b,w)::r,a=>by
  rw[mst]
  split
  ·rename_i h;subst h;simp[eC]
  ·have ih:=xw k v r a;simp only[eC] at ih;simp only[eC,List.any_cons,ih];cases decide (a=b)<;>cases decide (a=k)<;>rfl
theorem Ft (k:α)(v:Int):∀(L:List (α×Int)) (a:α),mgt (mst k v L) a=if a=k then v else mgt L a
 | [],a=>by simp[mst,mgt]
 | (b,w)::r,a=>by
  rw[mst]
  split
  ·rename_i h;subst h
   by_cases c:a=k
   ·simp[mgt,c]
   ·simp[mgt,c]
  ·rename_i h;have ih:=Ft k v r a;simp only[mgt,ih]
   by_cases c:a=b
   ·subst c;rw[if_pos rfl,if_neg λe=>h e.symm,if_pos rfl]
   ·simp[c]
end
theorem vH {rec:Rec}{n:Net}{w:List Int}{cu:List Nat}{a b ab:Nat}{st:MSt}{P:Nat->Int×MSt->Prop}(h0:P 0 (0,st)):∀{k:Nat},(∀j s,j<k->P j s->P (j+1) (w64 (s.1+w64 ((rec a (S.aw n w cu j) ab s.2).1*(rec b (S.aw n w cu j) ab (rec a (S.aw n w cu j) ab s.2).2).1)),(rec b (S.aw n w cu j) ab (rec a (S.aw n w cu j) ab s.2).2).2))->P k (S.bw rec n w cu a b ab st k)
 | 0,_=>h0
 | k+1,hs=>hs k _ (by omega) (vH h0 λj s hj=>hs j s (by omega))
def GM (n:Net)(e:List Int)(l:List Sp)(ab:List Nat)(M:Mem):Prop:=∀(i:Nat) (k:List Int),i<l.length->eC M ((i:Int),k)=true->∀w,Ev n e (ab[i]?.getD 0) w->S.aN w ((S.vr n e l)[i]?.getD 0 &&& ab[i]?.getD 0)=k->mgt M ((i:Int),k)=w64 (S.nm n l i (S.am ((S.vr n e l)[i]?.getD 0) (ab[i]?.getD 0)) w)
theorem Nu (n:Net)(e:List Int)(l:List Sp)(ab:List Nat):GM n e l ab []:=λi k _ h=>by simp[eC] at h
theorem AA {n:Net}{e:List Int}{l:List Sp}{cut ctx ab:List Nat}{size:Int}(hr:NR n)(hl:LEl n l)(hT:Sta l (S.vr n e l) cut ctx ab):∀(f i:Nat) (w:List Int) (st:MSt),i<f->i<l.length->Wv n w->Ev n e (ab[i]?.getD 0) w->GM n e l ab st.1 ->
  (S.ax n l (S.vr n e l) size f i w (ab[i]?.getD 0) st).1=w64 (S.nm n l i (S.am ((S.vr n e l)[i]?.getD 0) (ab[i]?.getD 0)) w)/\GM n e l ab (S.ax n l (S.vr n e l) size f i w (ab[i]?.getD 0) st).2.1
 | 0,i,w,st,h,_,_,_,_=>by omega
 | f+1,i,w,st,h,hi,hW,hE,hM=>by
  rw[S.ax]
  by_cases hx:(S.sp l i).1 = -1
  ·rw[if_pos hx];obtain ⟨y1,y2,y3,y4⟩:=hl.j i hi hx
   by_cases hm:eC st.1 ((i:Int),S.aN w ((S.vr n e l)[i]?.getD 0 &&& ab[i]?.getD 0))=true
   ·rw[if_pos hm];exact ⟨hM i _ hi hm w hE rfl,hM⟩
   ·rw[if_neg hm];have hc:=hT.s2 i hi hx;have h3:=hT.s3 i hi hx;have h4:=hT.s4 i hi hx;rw[hc] at h3 h4;obtain ⟨c,hcc⟩:∃c,c=S.am ((S.vr n e l)[(S.sp l i).2.1.toNat]?.getD 0 &&& (S.vr n e l)[(S.sp l i).2.2.toNat]?.getD 0) (ab[i]?.getD 0):=⟨_,rfl⟩;rw[<-hcc] at h3 h4 ⊢;dsimp only;have hco:∀v:Nat,c.testBit v=true->e[v]?.getD 0 = -1:=λv hv=>by rw[hcc,e_,Nat.testBit_and,Bool.and_eq_true,Bool.and_eq_true] at hv;exact tF hr hl _ (show (S.sp l i).2.1.toNat<l.length by omega) v hv.1.1
    have hJ:=LO hr hl (ab:=ab[i]?.getD 0) hi hx rfl rfl hcc w;rw[<-Kl hr c (λw=>S.nm n l (S.sp l i).2.1.toNat (S.am ((S.vr n e l)[(S.sp l i).2.1.toNat]?.getD 0) (ab[i]?.getD 0 ||| c)) w*S.nm n l (S.sp l i).2.2.toNat (S.am ((S.vr n e l)[(S.sp l i).2.2.toNat]?.getD 0) (ab[i]?.getD 0 ||| c)) w) w] at hJ;obtain ⟨k,hk⟩:∃k,k=S.aC n (S.aa n c):=⟨_,rfl⟩;rw[<-hk] at hJ ⊢;obtain ⟨r,hr'⟩:∃r,r=S.bw (S.ax n l (S.vr n e l) size f) n w (S.aa n c) (S.sp l i).2.1.toNat (S.sp l i).2.2.toNat (ab[i]?.getD 0 ||| c) (st.1,w64 (st.2+1)) k:=⟨_,rfl⟩;have key:r.1=w64 (S.nm n l i (S.am ((S.vr n e l)[i]?.getD 0) (ab[i]?.getD 0)) w)/\GM n e l ab r.2.1:=by rw[hJ,hr'];refine vH (rec:=S.ax n l (S.vr n e l) size f) (st:=(st.1,w64 (st.2+1))) (P:=λj s=>s.1=w64 (S.sm (λj=>S.nm n l (S.sp l i).2.1.toNat (S.am ((S.vr n e l)[(S.sp l i).2.1.toNat]?.getD 0) (ab[i]?.getD 0 ||| c)) (S.aw n w (S.aa n c) j)*S.nm n l (S.sp l i).2.2.toNat (S.am ((S.vr n e l)[(S.sp l i).2.2.toNat]?.getD 0) (ab[i]?.getD 0 ||| c)) (S.aw n w (S.aa n c) j)) j)/\GM n e l ab s.2.1) ⟨rfl,hM⟩ ?_;intro j s hj ⟨p1,p2⟩;have hE':=NU hr hco hE j;have hW':=J4 hr hW c j;obtain ⟨a1,a2⟩:=AA hr hl hT f (S.sp l i).2.1.toNat (S.aw n w (S.aa n c) j) s.2 (by omega) (by omega) hW' (by rw[h3];exact hE') p2;rw[h3] at a1 a2;obtain ⟨b1,b2⟩:=AA hr hl hT f (S.sp l i).2.2.toNat (S.aw n w (S.aa n c) j) (S.ax n l (S.vr n e l) size f (S.sp l i).2.1.toNat (S.aw n w (S.aa n c) j) (ab[i]?.getD 0 ||| c) s.2).2 (by omega) (by omega) hW' (by rw[h4];exact hE') a2;rw[h4] at b1 b2;refine ⟨?_,b2⟩;dsimp only;rw[a1,b1,p1,KH,S.sm]
    rw[<-hr'];refine ⟨key.1,?_⟩
    split
    ·intro i' k' hi' hm' w' hw' hk';rw[Ft]
     split
     ·rename_i heq;have e1:(i':Int)=(i:Int):=congrArg Prod.fst heq;have e2:k'=_:=congrArg Prod.snd heq;have e1:i'=i:=by omega
      subst e1;dsimp only at e2;rw[key.1,NL hr hl hi hE hw' (by rw[hk',e2])]
     ·rename_i hne;rw[xw,decide_eq_false hne,Bool.false_or] at hm';exact key.2 i' k' hi' hm' w' hw' hk'
    ·exact key.2
  ·rw[if_neg hx];obtain ⟨y1,y2⟩:=hl.f i hi hx;refine ⟨?_,hM⟩;dsimp only;rw[<-Ny hr hl hi hx hE,S.bX];obtain ⟨b1,b2⟩:=uf hr hW (v:=(S.sp l i).1.toNat) (by omega) (S.aC n (S.aa n (S.aA n w (S.sp l i).1.toNat)));have hcs:=qi hr (S.aA n w (S.sp l i).1.toNat);obtain ⟨W1,W2,W3⟩:=hcs.nc;have hW3:S.aC n (S.aa n (S.aA n w (S.sp l i).1.toNat))<=65536:=W2;exact (an (by omega) (by omega)).symm
end Hx
end
section
namespace Hx
open Go
theorem AS (n:Net)(p:Nat->Bool):∀k,S.bS n p k=S.sm (λj=>if p j then S.bC n (S.aG (S.ac n) (j:Int)) else 0) k
 | 0=>rfl
 | k+1=>by rw[S.bS,S.sm,AS n p k]
theorem pF {n:Net}{e:List Int}(h:S.aP n e=true):e.length=n.nodes.length/\∀(i:Nat) (x:Int),e[i]?=some x->x = -1\/0<=x/\x<(S.ac n)[i]?.getD 0:=by simp only[S.aP,Bool.and_eq_true,decide_eq_true_eq,List.all_eq_true,List.mem_range] at h;refine ⟨h.1,λi x hx=>?_⟩;have:=h.2 i (List.getElem?_eq_some_iff.1 hx).1;rw[hx,Option.getD_some] at this;omega
theorem EX {n:Net}{e:List Int}(h:S.aP n e=true):Wv n e:=by obtain ⟨h1,h2⟩:=pF h;refine ⟨h1,λv hv=>?_⟩;have:=h2 v e[v] (List.getElem?_eq_getElem (by omega));rw[List.getElem?_eq_getElem (by omega),Option.getD_some];exact this
theorem Lh {n:Net}{e:List Int}(h:S.aP n e=true):Ev n e 0 e:=⟨(pF h).1,λ_ _ _=>rfl,λv _ hv=>by simp[hv]⟩
theorem G7 {n:Net}(hr:NR n){e:List Int}(h:S.aP n e=true):S.aV n e=S.ap (S.ac n) ((List.range n.nodes.length).filter λv=>decide (e[v]?.getD 0 = -1)) (S.bC n) e:=by
 obtain ⟨h1,h2⟩:=pF h;have t1:=CT (F:=S.bC n) (cs:=S.ac n) (e:=e) (pc:=[]) (pv:=[]) (by rw[ba,h1]) rfl h2;simp only[List.nil_append,List.length_nil,ba] at t1;rw[List.range_eq_range',<-t1,S.aV,AS];have t2:=rU (cs:=S.ac n) (pre:=[]) (pv:=[]) (λvs=>if S.bu vs e then S.bC n vs else 0) (λc hc=>(hr.cs c (by simpa using hc)).1) trivial;simp only[List.nil_append,S.ak,Int.zero_mul,Int.zero_add] at t2;rw[<-t2]
 rfl
theorem E6 (F:Nat->Int):∀k,S.fo (·*·) 1 F k=S.ae ((List.range k).map F)
 | 0=>rfl
 | k+1=>by rw[S.fo,E6 F k,List.range_succ,List.map_append,List.map_singleton,qD]
theorem IS {n:Net}{l:List Sp}(hl:LCk n l)(h0:0<l.length)(w:List Int):S.ba n l (l.length - 1) w=S.bC n w:=by have h:S.ba n l (l.length - 1) w=S.fo (·*·) 1 (S.gw n l w) l.length:=xN (λa=>Int.mul_one a) Int.mul_comm Int.mul_assoc hl h0 _;have h2:S.fo (·*·) 1 (S.gw n l w) l.length=S.fo (·*·) 1 (S.aH n w) n.nodes.length:=B2 (λa=>Int.mul_one a) Int.mul_comm Int.mul_assoc hl _;rw[h,h2,E6];rfl
theorem MB {F:Nat->Bool}{u:Nat}(hu:F u=true):∀{k:Nat},u<k->S.fo (· || ·) false F k=true
 | 0,h=>by omega
 | k+1,h=>by
  rw[S.fo]
  by_cases e:u=k
  ·subst e;rw[hu,Bool.or_true]
  ·rw[MB hu (by omega:u<k),Bool.true_or]
theorem OC {n:Net}{e:List Int}{l:List Sp}(hl:LEl n l)(v:Nat):∀{i:Nat},i<l.length->((S.vr n e l)[i]?.getD 0).testBit v=S.ev (· || ·) (λj=>if (S.sp l j).1 = -1 then false else (S.aA n e (S.sp l j).1.toNat).testBit v) l i:=by
 intro i
 induction i using Nat.strongRecOn with
 | _ i ih =>
  intro hi
  by_cases hx:(S.sp l i).1 = -1
  ·obtain ⟨y1,y2,y3,y4⟩:=hl.j i hi hx;rw[tE hl hi hx,da,sM hl hi hx,if_pos hx,Bool.or_false,ih _ (by omega) (by omega),ih _ (by omega) (by omega)]
  ·rw[vK hi hx,sN hx,if_neg hx]
theorem Mr {n:Net}{e:List Int}{l:List Sp}(hr:NR n)(hl:LCk n l)(h0:0<l.length){v:Nat}(hv:v<n.nodes.length):((S.vr n e l)[l.length - 1]?.getD 0).testBit v=decide (e[v]?.getD 0 = -1):=by
 cases hb:((S.vr n e l)[l.length - 1]?.getD 0).testBit v with
 | true =>
  have:=tF hr hl.el _ (by omega) v hb;rw[decide_eq_true this]
 | false =>
  rw[eq_comm,decide_eq_false_iff_not];intro he;have h:S.ev (· || ·) (λj=>if (S.sp l j).1 = -1 then false else (S.aA n e (S.sp l j).1.toNat).testBit v) l (l.length - 1)=S.fo (· || ·) false (λj=>if (S.sp l j).1 = -1 then false else (S.aA n e (S.sp l j).1.toNat).testBit v) l.length:=xN Bool.or_false Bool.or_comm Bool.or_assoc hl h0 _;have h2:S.fo (· || ·) false (λj=>if (S.sp l j).1 = -1 then false else (S.aA n e (S.sp l j).1.toNat).testBit v) l.length=S.fo (· || ·) false (λu=>(S.aA n e u).testBit v) n.nodes.length:=B2 Bool.or_false Bool.or_comm Bool.or_assoc hl (λu=>(S.aA n e u).testBit v);have h3:=h2.symm.trans (h.symm.trans ((OC hl.el v (by omega)).symm.trans hb));have h4:S.fo (· || ·) false (λu=>(S.aA n e u).testBit v) n.nodes.length=true:=MB (F:=λu=>(S.aA n e u).testBit v) (u:=v) ((od hr hv e v).2 ⟨by simp[S.aI],he⟩) hv;exact Bool.false_ne_true (h3.symm.trans h4)
theorem Kt {n:Net}{e:List Int}{l:List Sp}(hr:NR n)(hl:LCk n l)(he:S.aP n e=true)(size:Int):(S.bo n e l size).1=S.aV n e:=by
 have hl1:=hr.l1;have hlen:=hl.len;have h0:0<l.length:=by omega
 have hT:=Ku (e:=e) hl.el hl.uq h0;have hs0:=hT.s0;have h:=(AA (size:=size) hr hl.el hT l.length (l.length - 1) e ([],0) (by omega) (by omega) (EX he) (by rw[hs0];exact Lh he) (Nu _ _ _ _)).1;rw[hs0] at h;rw[S.bo,h,S.nm];have e1:S.aa n (S.am ((S.vr n e l)[l.length - 1]?.getD 0) 0)=(List.range n.nodes.length).filter λv=>decide (e[v]?.getD 0 = -1):=by rw[S.aa];refine List.filter_congr λv hv=>?_;rw[e_,Mr hr hl h0 (List.mem_range.1 hv)];simp
 rw[e1,show S.ba n l (l.length - 1)=S.bC n from funext λw=>IS hl h0 w,<-G7 hr he];have:=ji hr e;exact an (by omega) (by omega)
end Hx
end
