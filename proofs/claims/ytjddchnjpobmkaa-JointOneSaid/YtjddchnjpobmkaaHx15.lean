/- A part of the proof: an interpreter over abstract values, shown right against the model, and what the functions of the chapter compute on it. -/
import Derived.OpenShut
import Derived.DataReads
import Derived.Test.YtjddchnjpobmkaaHx14
set_option linter.unusedVariables false
set_option linter.unusedSimpArgs false
set_option linter.unnecessarySimpa false
section
namespace Hx
open Go
noncomputable section
structure PoH (n:Net) (e:List Int) (cs:List AV) (p pm pq m lo:Nat) (g:G):Prop where
 kp:g.h.get p=.cells 4 [cs] 0 false false
 km:g.h.get pm=.cells 1 [[.hmap m]] 0 false false
 kq:g.h.get pq=.cells 1 [[.int .i64 (S.aB n e)]] 0 false false
 hm:∃L:List ((Int×Int)×Int),g.h.get m=.map (mcl pk L)/\∀(v:Nat) (x:Int),mgt L ((v:Int),x)=S.af n (S.pq n e v x) (S.au n)
 lo:lo<=p/\lo<=pm/\lo<=pq/\lo<=m
 hi:p<g.nx/\pm<g.nx/\pq<g.nx/\m<g.nx
theorem PoH.step {n:Net}{e:List Int}{cs:List AV}{p pm pq m lo:Nat}{g g':G}(h:PoH n e cs p pm pq m lo g)(f:Fr g g'):PoH n e cs p pm pq m lo g':=by
 obtain ⟨a1,a2,a3,⟨L,a4,a5⟩,a6,b1,b2,b3,b4⟩:=h
 have:=f.1
 exact ⟨by rw[f.2 _ b1,a1],by rw[f.2 _ b2,a2],by rw[f.2 _ b3,a3],⟨L,by rw[f.2 _ b4,a4],a5⟩,a6,by omega,by omega,by omega,by omega⟩
structure PoJ (g1:G) (n:Net) (e:List Int) (m pq j:Nat) (h:H):Prop where
 fr:∀i,i<g1.nx->i≠m->i≠pq->h.get i=g1.h.get i
 kq:h.get pq=.cells 1 [[.int .i64 (S.af n (S.pe n e) j)]] 0 false false
 hm:PoM n e [] j 0 m h
set_option maxRecDepth 20000 in
theorem r_ {d:Nat}{g:G}{w b fl S_:AV}{n:Net}{y:QnM}{e:List Int}{K:AV->G->Prop}{D:ADf->Prop}(hd:0<d)(hr:NR n)(hc:Rp.rp NoP 0 .nil y [.int .i64 n.grain,b,fl,S_])(hq:QnOk n y)(he:SlR NoP 0 .nil e w)(hev:S.aA n e=true)
  (k0:S.aB n e=0->∀g',Fr g g'->K (.tup [.nilf,.int .i64 7]) g')
  (k1:S.aB n e≠0->∀g' p pm pq m,Fr g g'->PoH n e [.int .i64 n.grain,b,fl,S_] p pm pq m g.nx g'->K (.tup [.clo N.aI [] [.hptr p 0 0 0,.hptr pm 0 0 0,.hptr pq 0 0 0],.int .i64 0]) g') :
  (ac C0 d N.aT [.agg [.int .i64 n.grain,b,fl,S_],w] g).sat K g D:=by
 obtain ⟨el,ege⟩:=kJ hev
 obtain ⟨W1,W2,W3⟩:=hr.wl
 rw[iM]
 refine lO jl (by simp[cd]) ?_
 have hst:∀(g:G) (i m:Nat),jK (.cells 1 [[.nilm]] 0 false false) g i 0 0 1 0 (.hmap m)=.upd .undef (g.put i (.cells 1 [[.hmap m]] 0 false false)):=fun g i m=>rfl
 have w0:∀(d:Nat) (rd:Option Nat) (t:T) (g:G),(bp C0 (.makeMap tPP none)).run (I C0) d rd t g=.upd (.hmap g.nx) (g.new (.map [])):=Gp
 simp only[sz,simprocAttr,cd]
 unfold dG
 refine bo (P:=fun t' df g'=>df=[]/\g'.nx=g.nx+4/\(∀i,i<g.nx->g'.h.get i=g.h.get i)/\g'.h.get g.nx=.cells 4 [[.int .i64 n.grain,b,fl,S_]] 0 false false/\g'.h.get (g.nx+1)=.map []/\g'.h.get (g.nx+2)=.cells 1 [[.hmap (g.nx+1)]] 0 false false/\g'.h.get (g.nx+3)=.cells 1 [[.int .i64 0]] 0 false false/\St t' [(1,w),(2,.hptr g.nx 0 0 0),(6,.hptr (g.nx+2) 0 0 0),(7,.hptr (g.nx+3) 0 0 0)]) ?_ ?_
 ·simp only[sz,simprocAttr,w0,hst,show ¬g.nx=g.nx+1 by omega,show ¬g.nx+1=g.nx by omega]
  refine ⟨fun i hi=>?_,?_⟩
  ·rw[if_neg (by omega),if_neg (by omega),if_neg (by omega),if_neg (by omega),if_neg (by omega),if_neg (by omega)]
  ·simp[St,sx,show ¬g.nx=g.nx+2 by omega,show ¬g.nx=g.nx+1+1+1 by omega]
 rintro t df g1 ⟨rfl,n1,f1,kp,km,k2,k3,h1,h2,h6,h7,-⟩
 obtain ⟨cs,z,t1,t2,ez,hcs',hz⟩:=lS (d:=d) (g:=g1) (y:=y) (e:=e) (v:=.agg [.int .i64 n.grain,b,fl,S_]) (w:=w) hd ⟨_,rfl,Rp.tree hc (Nat.le_refl _)⟩ (he.tree (Nat.le_refl _))
 rw[dK]
 simp only[sz,simprocAttr,h1,h2,kp,ez]
 refine qG (t1:=t1) (t2:=t2) (n:=n) (y:=y) (e:=e) (cs:=cs) (w:=z) hd hr hq hcs' hz (by omega) (by simp[sx]) (by decide)
  (fun j h=>PoJ g1 n e (g.nx+1) (g.nx+3) j h) (fun _=>False) (fun j h h' hh hg=>⟨fun i h1 h2 h3=>by rw[hh i h1,hg.fr i h1 h2 h3],by rw[hh _ (by omega),hg.kq],by obtain ⟨L,l1,l2⟩:=hg.hm;exact ⟨L,by rw[hh _ (by omega),l1],l2⟩⟩) (fun _ _ _ h=>h) ⟨fun _ _ _ _=>rfl,k3,[],km,fun v x=>by simp[mgt,S.af]⟩ ?_ ?_ ?_ (fun _ h=>h.elim)
 ·intro j h hj hmt hg
  have hp:S.pe n e j=false:=by rw[S.pe,<-tG ege];exact hmt
  obtain ⟨L,l1,l2⟩:=hg.hm
  refine ⟨hg.fr,by rw[hg.kq,S.af,hp];simp,L,l1,fun v x=>?_⟩
  rw[l2,S.af,S.pq,hp];simp
 ·intro j u g2 hj hmt hg hn hu
  have hp:S.pe n e j=true:=by rw[S.pe,<-tG ege];exact hmt
  have hb:=qQ hr (p:=S.pe n e) (j:=j+1) (by omega)
  have hs:S.af n (S.pe n e) (j+1)=S.af n (S.pe n e) j+S.wt n j:=by rw[S.af,hp];simp[S.wt]
  have w1:IntKind.wrap .i64 (S.af n (S.pe n e) j+S.wt n j)=S.af n (S.pe n e) (j+1):=by rw[<-hs,aG (by omega) (by omega)]
  obtain ⟨vals,hvals⟩:∃vals,vals=S.am (S.aa n) (j:Int):=⟨_,rfl⟩
  rw[<-hvals] at hu
  simp only[sz,simprocAttr,dv]
  refine ⟨FD _ _ _,?_⟩
  intro g3 n3 f3
  have j8:g3.h.get g2.nx=.cells 3 [[.int .i64 (j:Int),.int .i64 (S.wt n j),u]] 0 false false:=by rw[f3 _ (by omega),if_pos rfl];rfl
  have jo:∀i,i<g1.nx->g3.h.get i=g2.h.get i:=fun i hi=>by rw[f3 i (by omega),if_neg (by omega),if_neg (by omega)]
  have j7:g3.h.get (g.nx+3)=.cells 1 [[.int .i64 (S.af n (S.pe n e) j)]] 0 false false:=by rw[jo _ (by omega),hg.kq]
  have j6:g3.h.get (g.nx+2)=.cells 1 [[.hmap (g.nx+1)]] 0 false false:=by rw[jo _ (by omega),hg.fr _ (by omega) (by omega) (by omega),k2]
  have hu3:SlR (fun i=>g1.nx+2<=i/\i<g3.nx) 0 g3.h vals u:=hu.wd fun i hi=>⟨⟨hi.1,by rw[n3];omega⟩,by rw[f3 i (by omega),if_neg (by omega),if_neg (by omega)]⟩
  simp only[dj]
  rw[As]
  refine bo (P:=fun t' df g'=>df=[]/\g'=g3.put (g.nx+3) (.cells 1 [[.int .i64 (S.af n (S.pe n e) (j+1))]] 0 false false)/\St t' [(6,.hptr (g.nx+2) 0 0 0),(8,.hptr g2.nx 0 0 0)]) ?_ ?_
  ·simp only[sz,simprocAttr,h7,j8,j7,w1]
   simp[St,sx,h6]
  rintro t df g4 ⟨rfl,rfl,h6,h8,-⟩
  have q8:(g3.put (g.nx+3) (.cells 1 [[.int .i64 (S.af n (S.pe n e) (j+1))]] 0 false false)).h.get g2.nx=.cells 3 [[.int .i64 (j:Int),.int .i64 (S.wt n j),u]] 0 false false:=by simp[H.get_put,show ¬g2.nx=g.nx+3 by omega];exact j8
  have hu4:SlR (fun i=>g1.nx+2<=i/\i<g3.nx) 0 (g3.put (g.nx+3) (.cells 1 [[.int .i64 (S.af n (S.pe n e) (j+1))]] 0 false false)).h vals u:=hu3.wd fun i hi=>⟨hi,by simp[H.get_put,show ¬i=g.nx+3 by omega]⟩
  have lu:=hu4.len
  simp only[sz,simprocAttr,h8,q8,lu,show ¬g2.nx=g.nx+3 by omega,j8]
  refine KU (lo:=g1.nx+2) (pm:=g.nx+2) (pw:=g2.nx) (m:=g.nx+1) (j:=j) (n:=n) (e:=e) (vals:=vals) (u:=u) hr hp hvals (by omega) (hu4.wd fun i hi=>⟨⟨hi.1,by simpa using hi.2⟩,rfl⟩) (by omega) ⟨by omega,by simp;omega⟩ ⟨by omega,by rw[G.put_nx,n3];simp⟩ (by simp[H.get_put,j6]) q8 ?_ (by simp[sx,h6]) (by simp[sx,h8]) (by simp[sx]) (by simp[sx]) (by simp[sx]) ?_
  ·obtain ⟨L,l1,l2⟩:=hg.hm
   refine ⟨L,by simp[H.get_put];rw[jo _ (by omega),l1],fun v x=>?_⟩
   rw[l2];simp
  ·rintro t g5 hK ⟨L,l1,l2⟩
   simp only[iN,if_true]
   have hnx5:g3.nx<=g5.nx:=by simpa using hK.nx
   refine ⟨rfl,by omega,fun i h1 h2=>?_,.inl ⟨rfl,fun i h1 h2 h3=>?_,?_,L,l1,fun v x=>?_⟩⟩
   ·rw[hK.fr i (by omega) (by simpa using h2)];simp[H.get_put,show ¬i=g.nx+3 by omega]
   ·rw[hK.fr i h2 (by simp;omega)];simp[H.get_put,h3];rw[jo i h1,hg.fr i h1 h2 h3]
   ·rw[hK.fr _ (by omega) (by simp;omega)];simp[H.get_put]
   ·rw[l2,S.af,S.pq,hp,<-hvals]
    simp only[Bool.true_and,decide_eq_true_eq,Nat.not_lt_zero,false_and,if_false,Int.add_zero]
    congr 1
    by_cases hx:vals[v]?=some x
    ·have hl:=(List.getElem?_eq_some_iff.1 hx).1
     rw[if_pos ⟨hl,hx⟩,if_pos hx,hvals];rfl
    ·rw[if_neg fun h=>hx h.2,if_neg hx]
 ·intro g' hg hn hdf
  have f':Fr g (g'.put g1.nx (.dfr false)):=⟨by simp;omega,fun i hi=>by simp[H.get_put,show ¬i=g1.nx by omega];rw[hg.fr i (by omega) (by omega) (by omega),f1 i hi]⟩
  by_cases hz0:S.aB n e=0
  ·have kq:=hg.kq
   rw[<-pV,hz0] at kq
   simp only[sz,simprocAttr,bM,h7,kq]
   refine gi hdf ?_
   simp only[sx,↓reduceIte]
   exact k0 hz0 _ f'
  ·have kq:=hg.kq
   rw[<-pV] at kq
   simp only[sz,simprocAttr,bM,h7,kq,hz0,h2,h6]
   refine gi hdf ?_
   simp only[sx,↓reduceIte]
   obtain ⟨L,l1,l2⟩:=hg.hm
   refine k1 hz0 _ g.nx (g.nx+2) (g.nx+3) (g.nx+1) f' ⟨?_,?_,?_,⟨L,?_,fun v x=>by rw[l2];simp⟩,⟨by omega,by omega,by omega,by omega⟩,by simp;omega⟩
   ·simp[H.get_put,show ¬g.nx=g1.nx by omega];rw[hg.fr _ (by omega) (by omega) (by omega),kp]
   ·simp[H.get_put,show ¬g.nx+2=g1.nx by omega];rw[hg.fr _ (by omega) (by omega) (by omega),k2]
   ·simp[H.get_put,show ¬g.nx+3=g1.nx by omega];exact kq
   ·simp[H.get_put,show ¬g.nx+1=g1.nx by omega];exact l1
def cq (q:QI):List AV:=[.int .i64 q.1,.int .i64 q.2]
theorem CO (d:Nat)(a b c v:AV)(g:G):cY C0 (I C0) d (.clo N.aI [] [a,b,c]) [v] g=orF ((I C0).call d N.aI [v,a,b,c] g):=by kernel_rfl
theorem y6 (n:Net)(e:List Int)(v:Nat):(S.aw n e v).length=((S.aa n)[v]?.getD 0).toNat:=by simp[S.aw]
theorem Ia {n:Net}{e:List Int}{v k:Nat}(h:k<((S.aa n)[v]?.getD 0).toNat):(S.aw n e v)[k]?=some (S.an (S.af n (S.pq n e v (k:Int)) (S.au n)).toNat (S.aB n e).toNat):=by simp[S.aw,h]
set_option maxRecDepth 20000 in
theorem AZ {d v p pm pq m lo:Nat}{g:G}{b fl S_:AV}{n:Net}{e:List Int}{K:AV->G->Prop}{D:ADf->Prop}(hd:0<d)(hr:NR n)(hN:SlR NoP 0 .nil n.nodes b)(hP:PoH n e [.int .i64 n.grain,b,fl,S_] p pm pq m lo g)(hv:v<n.nodes.length)(hz0:S.aB n e≠0)
  (kk:∀U g',Own g' g.nx U 2 ((S.aw n e v).map cq)->Fr g g'->K (.tup [U,.int .i64 0]) g') :
  (cY C0 (I C0) d (.clo N.aI [] [.hptr p 0 0 0,.hptr pm 0 0 0,.hptr pq 0 0 0]) [.int .i64 (v:Int)] g).sat K g D:=by
 obtain ⟨rows,r1,r2,r3,r4⟩:=hN.all
 have r1:∀h',ak h' 3 b=some rows:=r1
 obtain ⟨W1,W2,W3⟩:=hr.wl
 obtain ⟨x,hx,-,hmem⟩:=au hv
 obtain ⟨row,q1,q2⟩:=r3 v x hx
 obtain ⟨fa,fb,rfl,-⟩:=cT.1 q2
 have hlt:v<rows.length:=by omega
 have hryb:=r4 (by omega)
 have hcard:=hr.card x hmem
 obtain ⟨c,hc⟩:∃c:Nat,x.card=(c:Int):=Int.eq_ofNat_of_zero_le (by omega)
 have hcv:((S.aa n)[v]?.getD 0).toNat=c:=by simp[S.aa,hx,hc]
 have hb0:=po hr e
 have hlen:(S.aw n e v).length=c:=by rw[y6,hcv]
 rw[CO]
 refine lO iE (by simp[bP]) ?_
 have kp:=hP.kp
 rw[hc] at q1
 simp only[sz,simprocAttr,bP,kp,r1,hlt,q1,hryb]
 refine nL (b:=g.nx) (n:=c) (by unfold aX;omega) (by unfold aX;omega) (Nat.le_refl _) fun U g1 hU n1 f1 vU=>?_
 have lU:=eV hU.rows
 rw[List.length_replicate] at lU
 simp only[sz,simprocAttr,lU,cN]
 refine aL (m:=c) (by omega) (fun k t df g'=>df=[]/\St t [(0,.int .i64 (v:Int)),(2,.hptr pm 0 0 0),(3,.hptr pq 0 0 0),(7,U)]/\Fr g g'/\Own g' g.nx U 2 (((S.aw n e v).take k).map cq++List.replicate (c - k) [.int .i64 0,.int .i64 0])) ⟨rfl,by simp[St,sx],⟨by omega,fun i hi=>f1 i hi⟩,by simpa using hU⟩ (by simp[sx]) (by simp[sx]) (by decide)
  (by rintro k t df g v s (rfl | rfl | rfl) ⟨a1,⟨b1,b2,b3,b4,-⟩,a3⟩<;>exact ⟨a1,by simp[St,sx,b1,b2,b3,b4],a3⟩) ?_ ?_
 ·rintro k t df g2 hk ⟨rfl,⟨h0,h2,h3,h7,-⟩,hf,hO⟩ h21 h20
  obtain ⟨-,km,kq,⟨L,l1,l2⟩,-,-,bm,bq,bL⟩:=hP.step hf
  obtain ⟨A,hA⟩:=Int.eq_ofNat_of_zero_le (iJ hr (S.pq n e v (k:Int)) (S.au n)).1
  have hA2:=(iJ hr (S.pq n e v (k:Int)) (S.au n)).2
  obtain ⟨M,hM⟩:=Int.eq_ofNat_of_zero_le hb0.1
  have hat:=Ia (n:=n) (e:=e) (v:=v) (k:=k) (by omega)
  obtain ⟨q,hq⟩:∃q,q=S.an A M:=⟨_,rfl⟩
  rw[hA,hM] at hat
  have hat:(S.aw n e v)[k]?=some q:=by rw[hat,hq];rfl
  refine bo (P:=fun t' df g'=>df=[]/\g'=g2/\St t' [(8,.int .i64 (k:Int)),(0,.int .i64 (v:Int)),(2,.hptr pm 0 0 0),(3,.hptr pq 0 0 0),(7,U),(20,.int .i64 (c:Int)),(21,.int .i64 (k:Int))]) ?_ ?_
  ·simp only[sz,simprocAttr,h21]
   simp[St,sx,h0,h2,h3,h7,h20,h21]
  clear h0 h2 h3 h7 h20 h21
  rintro t df g3 ⟨rfl,rfl,h8,h0,h2,h3,h7,h20,h21,-⟩
  obtain ⟨KK,hKd⟩:∃K:Int×Int,K=((v:Int),(k:Int)):=⟨_,rfl⟩
  have hmK:mgt L KK=(A:Int):=by rw[hKd,l2,hA]
  have epk:AV.agg [.int .i64 (v:Int),.int .i64 (k:Int)]=pk KK:=by rw[hKd];rfl
  have hbd:∀a b:Int,n0 [.int .i64 0,.int .i64 0] [(0,1),(1,1)] [.int .i64 a,.int .i64 b]=.val (.agg [.int .i64 a,.int .i64 b]):=fun a b=>rfl
  have lk:∀(t:T) (g:G),tat t 25=.hmap m->tat t 28=pk KK->g.h.get m=.map (mcl pk L)->(bp C0 (.lookup tPP (.tmp 25) (.tmp 28) false)).run (I C0) d none t g=.val (.int .i64 (A:Int)):=fun t g a b c=>by rw[<-hmK];exact ET a b c
  have kM:∀g,ac C0 d N.ah [.int .i64 (A:Int),.int .i64 (M:Int)] g=.val (.tup [.agg [.int .i64 q.1,.int .i64 q.2],.int .i64 0]):=fun g=>by rw[hq];exact vJ hd (by omega) (by omega) (by omega)
  rw[hM] at kq
  obtain ⟨r,hr'⟩:∃r,r=g3.nx+10:=⟨_,rfl⟩
  have nm:¬g3.nx+1+1+1+1+1+1+1+1+1+1=m/\¬g3.nx+1+1+1+1+1+1+1+1+1+1=pm/\¬g3.nx+1+1+1+1+1+1+1+1+1+1=pq:=by omega
  have si:∀h (z:Int),aB h aA (.int .i64 z)=[]:=fun _ _=>rfl
  refine d_ (P:=fun t' df g'=>df=[]/\Fr g3 g'/\r<g'.nx/\g'.h.get r=.cells 2 [[.int .i64 q.1,.int .i64 q.2]] 0 false false/\St t' [(9,.hptr r 0 0 0),(10,.int .i64 0),(8,.int .i64 (k:Int)),(0,.int .i64 (v:Int)),(2,.hptr pm 0 0 0),(3,.hptr pq 0 0 0),(7,U),(20,.int .i64 (c:Int)),(21,.int .i64 (k:Int))]) ?_ ?_
  ·simp only[sz,simprocAttr,sf,h0,h2,h3,h8,km,kq,hbd,epk,lk,l1,kM,qX,o_]
   refine ⟨?_,⟨by simp;omega,fun i hi=>?_⟩,?_,?_,?_⟩
   ·simp only[List.reverse_cons,List.reverse_nil,List.nil_append,List.cons_append]
    refine uH [false,false,false,false,false,false,false,false,false,false,true,true,false] [(0,10),(1,10),(2,10),(3,10),(4,10),(5,10),(6,10),(7,10),(8,10),(9,10),(9,11)] (by simp[All2,af,aw]) ?_ (by decide) ?_
    ·simp[ej,bB,meets,fst1,af,aw,ah,an,nm]
     rfl
    rintro q hq x y hx hy
    simp only[List.mem_cons,List.not_mem_nil,or_false] at hq
    rcases hq with rfl | rfl | rfl | rfl | rfl | rfl | rfl | rfl | rfl | rfl | rfl<;>(simp at hx hy;subst hx;subst hy;simp[bk,eO,di,meets,fst1,aw,af,ah,si,dQ,nm])
   ·simp[H.get_put,show ¬i=g3.nx+1+1+1+1+1+1+1+1+1+1 by omega]
   ·omega
   ·simp[H.get_put,hr']
   ·simp[St,sx,h0,h2,h3,h7,h8,h20,h21,hr']
  clear h0 h2 h3 h7 h8 h20 h21
  rintro t df g4 ⟨rfl,f4,hrn,kr,h9,h10,h8,h0,h2,h3,h7,h20,h21,-⟩
  have hO4:=hO.step f4
  have hln:(((S.aw n e v).take k).map cq).length=k:=by rw[List.length_map,List.length_take];omega
  have hll:(((S.aw n e v).take k).map cq++List.replicate (c - k) [AV.int .i64 0,.int .i64 0]).length=c:=by rw[List.length_append,hln,List.length_replicate];omega
  obtain ⟨y,hy⟩:∃y,(((S.aw n e v).take k).map cq++List.replicate (c - k) [AV.int .i64 0,.int .i64 0])[k]?=some y/\y=[AV.int .i64 0,.int .i64 0]:=⟨_,by rw[List.getElem?_append_right (by omega),hln,List.getElem?_replicate,if_pos (by omega)],rfl⟩
  obtain ⟨hy,rfl⟩:=hy
  have u1:k<(((S.aw n e v).take k).map cq++List.replicate (c - k) [AV.int .i64 0,.int .i64 0]).length:=by omega
  have hset:(((S.aw n e v).take k).map cq++List.replicate (c - k) [AV.int .i64 0,.int .i64 0]).set k (cq q)=((S.aw n e v).take (k+1)).map cq++List.replicate (c - (k+1)) [AV.int .i64 0,.int .i64 0]:=by
   rw[List.set_append_right _ _ (by omega),hln,Nat.sub_self]
   have e2:List.replicate (c - k) [AV.int .i64 0,.int .i64 0]=[AV.int .i64 0,.int .i64 0]::List.replicate (c - (k+1)) [AV.int .i64 0,.int .i64 0]:=by rw[<-List.replicate_succ];congr 1;omega
   rw[e2,List.set_cons_zero,List.take_add_one,hat]
   simp
  have hry:om U=true:=nI hO4.rows u1
  have ru:=hO4.rows
  simp only[sz,simprocAttr,h10,h9,h7,h8,kr,ru,u1,hy]
  refine bI (v:=U) (sz:=2) (n:=2) (i:=k) (off:=0) (x:=.agg [.int .i64 q.1,.int .i64 q.2]) (row':=cq q) hO4 hy rfl rfl rfl fun g5 hO5 n5 f5=>?_
  rw[hset] at hO5
  simp only[sz,simprocAttr]
  refine ⟨⟨by simp[St,sx,h0,h2,h3,h7],⟨by have:=hf.1;have:=f4.1;omega,fun i hi=>?_⟩,hO5⟩,h21,h20⟩
  rw[f5 i fun e=>by have:=(hO.lt e).1;omega,f4.2 i (Nat.lt_of_lt_of_le hi hf.1),hf.2 i hi]
 ·rintro t df g' ⟨rfl,⟨-,-,-,h7,-⟩,hf,hO⟩
  rw[List.take_of_length_le (by omega),Nat.sub_self,List.replicate_zero,List.append_nil] at hO
  simp only[iN,if_true,sz,simprocAttr,cU,h7]
  exact kk U g' hO hf
def S.aP (n:Net)(e:List Int):Int:=if S.ay n e=0 then (if S.aB n e=0 then 7 else 0) else S.ay n e
def S.aS (n:Net)(e:List Int):List (List QI):=if S.aP n e=0 then (List.range n.nodes.length).map (S.aw n e) else []
def S.aX (n:Net)(e:List Int)(v:Int):Int:=if S.ay n e=0 then (if 0<=v/\v<n.nodes.length then (if S.aB n e=0 then 7 else 0) else 2) else S.ay n e
def S.a_ (n:Net)(e:List Int)(v:Int):List QI:=if S.aX n e v=0 then S.aw n e v.toNat else []
theorem LL {P:Nat->Prop}{k:Nat}{h:H}(q:QI):Rp.rp P k h q (cq q):=qR.2 ⟨[.int .i64 q.1],[.int .i64 q.2],rfl,aC.2 rfl,aC.2 rfl⟩
theorem BU {n:Net}{e:List Int}(hr:NR n)(v:Nat):(S.aw n e v).length<=4:=by
 rw[y6]
 cases h:(S.aa n)[v]? with
 | none=>simp
 | some c=>have:=hr.cs c (List.mem_of_getElem? h);simp;omega
theorem Jh {g:G}{b:Nat}{U:AV}{n:Net}{e:List Int}{v:Nat}{P:Nat->Prop}(hr:NR n)(h:Own g b U 2 ((S.aw n e v).map cq))(hP:∀i,b<=i->i<g.nx->P i):SlR P 0 g.h (S.aw n e v) U:=by
 have:=BU (e:=e) hr v
 exact Own.sl (α:=QI) h (by omega) (All2.of_map (fun q=>LL q) _) fun i hi=>hP i (h.lt hi).1 (h.lt hi).2
theorem yv {d:Nat}{g:G}{v w:AV}{n:Net}{e:List Int}{z:Int}(hd:0<d)(hm:Agg n NoP 0 g.h v)(he:SlR NoP 0 g.h e w) :
  ∃r,ac C0 d N.aJ [v,w,.int .i64 z] g=.val r/\o4 (One (S.a_ n e z)) (One (S.aX n e z)) NoP 0 .nil r:=by
 obtain ⟨b,rows,rfl,e1,hm',hN,r1,r2,r3,r4⟩:=gE d hm
 have ew:=qV d he
 have hw:SlR NoP 0 .nil e w:=he.tree (Nat.le_refl 0)
 rw[qC]
 refine aP sH (xs:=[.agg [.int .i64 n.grain,b],w,.int .i64 z]) (by simp only[aE,e1,ew,c_]) (by simp[gM]) (bQ (m:=2) (aQ _) (aQ _) (by decide) (by decide)) (by decide) hd ?_
 simp only[sz,simprocAttr,gM]
 obtain ⟨g0,hg0⟩:∃g0,g0=G.empty.new (.cells 2 [[.int .i64 n.grain,b]] 0 false false):=⟨_,rfl⟩
 rw[<-hg0]
 have f0:g0.h.get 0=.cells 2 [[.int .i64 n.grain,b]] 0 false false:=by rw[hg0];simp[sx,H.get_put]
 have f3:g0.nx=1:=by rw[hg0];simp[sx]
 clear hg0
 unfold jv
 simp only[sz,simprocAttr,f0,hw.cell.1,hw.cell.2]
 refine dJ (wV (n:=n) (ls:=[e]) (Nat.succ_pos d) (hm' _) (KX hw (by simp[H.get_put]))) fun v hv=>?_
 obtain ⟨y,cs,rfl,hy,hc,a1,a2,a3,a4,rfl⟩:=jT hv
 rw[lL] at hy ⊢
 by_cases h0:S.ay n e=0
 ·have hyo:=hy h0
  obtain ⟨h1,h2⟩:=gy.1 h0
  have hr:=bZ.1 h1
  obtain ⟨b',b2,b3,ecs,hb',hb2,hb3⟩:=oJ.1 hc
  injection ecs with ec1 ecs
  injection ecs with ec2 ecs
  rw[hyo.net] at ec1 hb'
  subst ec1 ec2
  have hN':SlR NoP 0 .nil n.nodes a2:=hb'.tree (Nat.le_refl 0)
  have lb:∀g,gB .slice a2 g=.val (.int .i64 (n.nodes.length:Int)):=hN'.len
  by_cases hz:0<=z/\z<n.nodes.length
  ·obtain ⟨vn,rfl⟩:=Int.eq_ofNat_of_zero_le hz.1
   have c1:decide ((vn:Int)<0)=false:=by simp
   have c2:decide ((n.nodes.length:Int)<=(vn:Int))=false:=by simp;omega
   simp only[sz,simprocAttr,f3,h0,c1,lb,c2]
   refine r_ (n:=n) (y:=y) (e:=e) (Nat.succ_pos d) hr hc hyo hw h2 (fun hz0 g' hf=>?_) (fun hz0 g' p pm pq m hf hP=>?_)
   ·have hE:S.aX n e (vn:Int)=7:=by rw[S.aX,if_pos h0,if_pos hz,if_pos hz0]
    have hj:S.a_ n e (vn:Int)=[]:=by rw[S.a_,hE,if_neg (by decide)]
    simp only[sz,simprocAttr]
    rw[hE,hj]
    exact ⟨fun _=>True,_,_,rfl,cP.2 ⟨_,rfl,by show 0<9223372036854775808;decide,rfl⟩,aC.2 rfl⟩
   ·have hE:S.aX n e (vn:Int)=0:=by rw[S.aX,if_pos h0,if_pos hz,if_neg hz0]
    have hj:S.a_ n e (vn:Int)=S.aw n e vn:=by rw[S.a_,hE,if_pos rfl];rfl
    simp only[sz,simprocAttr]
    refine AZ (Nat.succ_pos d) hr hN' hP (by omega) hz0 fun U g2 hU hf2=>?_
    simp only[sz,simprocAttr]
    rw[hE,hj]
    exact ⟨fun _=>True,_,_,rfl,cP.2 ⟨_,rfl,Jh hr hU fun _ _ _=>trivial⟩,aC.2 rfl⟩
  ·have hE:S.aX n e z=2:=by rw[S.aX,if_pos h0,if_neg hz]
   have hj:S.a_ n e z=[]:=by rw[S.a_,hE,if_neg (by decide)]
   rw[hE,hj]
   by_cases c1:z<0
   ·simp only[sz,simprocAttr,f3,h0,c1]
    exact ⟨fun _=>True,_,_,rfl,cP.2 ⟨_,rfl,by show 0<9223372036854775808;decide,rfl⟩,aC.2 rfl⟩
   ·have c2:(n.nodes.length:Int)<=z:=by omega
    simp only[sz,simprocAttr,f3,h0,c1,lb,c2]
    exact ⟨fun _=>True,_,_,rfl,cP.2 ⟨_,rfl,by show 0<9223372036854775808;decide,rfl⟩,aC.2 rfl⟩
 ·have hE:S.aX n e z=S.ay n e:=by rw[S.aX,if_neg h0]
  have hj:S.a_ n e z=[]:=by rw[S.a_,hE,if_neg h0]
  simp only[sz,simprocAttr,f3,h0]
  rw[hj,hE]
  exact ⟨fun _=>True,_,_,rfl,cP.2 ⟨_,rfl,by show 0<9223372036854775808;decide,rfl⟩,aC.2 rfl⟩
def S.bj (n:Net)(e:List Int)(j:Nat):List (List QI):=((List.range n.nodes.length).map (S.aw n e)).take j++List.replicate (n.nodes.length - j) []
theorem Ji {n:Net}{e:List Int}{j:Nat}(h:j<n.nodes.length):(S.bj n e j).set j (S.aw n e j)=S.bj n e (j+1):=by
 unfold S.bj
 have hln:(((List.range n.nodes.length).map (S.aw n e)).take j).length=j:=by simp;omega
 rw[List.set_append_right _ _ (by omega),hln,Nat.sub_self]
 have e2:List.replicate (n.nodes.length - j) ([]:List QI)=[]::List.replicate (n.nodes.length - (j+1)) []:=by rw[<-List.replicate_succ];congr 1;omega
 rw[e2,List.set_cons_zero,List.take_add_one]
 simp[h]
theorem Bp {α β:Type}{R:α->β->Prop}{a:α}{b:β}(h:R a b):∀n:Nat,All2 R (List.replicate n a) (List.replicate n b)
 | 0=>trivial
 | n+1=>⟨h,Bp h n⟩
theorem Kp {d:Nat}{g:G}{v w:AV}{n:Net}{e:List Int}(hd:0<d)(hm:Agg n NoP 0 g.h v)(he:SlR NoP 0 g.h e w) :
  ∃r,ac C0 d N.bD [v,w] g=.val r/\o4 (One (S.aS n e)) (One (S.aP n e)) NoP 0 .nil r:=by
 obtain ⟨b,rows,rfl,e1,hm',hN,r1,r2,r3,r4⟩:=gE d hm
 have ew:=qV d he
 have hw:SlR NoP 0 .nil e w:=he.tree (Nat.le_refl 0)
 rw[xR]
 refine aP Aw (xs:=[.agg [.int .i64 n.grain,b],w]) (by simp only[aE,e1,ew]) (by simp[qm]) (bQ (m:=2) (aQ _) (aQ _) (by decide) (by decide)) (by decide) hd ?_
 simp only[sz,simprocAttr,qm]
 obtain ⟨g0,hg0⟩:∃g0,g0=G.empty.new (.cells 2 [[.int .i64 n.grain,b]] 0 false false):=⟨_,rfl⟩
 rw[<-hg0]
 have f0:g0.h.get 0=.cells 2 [[.int .i64 n.grain,b]] 0 false false:=by rw[hg0];simp[sx,H.get_put]
 have f3:g0.nx=1:=by rw[hg0];simp[sx]
 clear hg0
 unfold rD
 simp only[sz,simprocAttr,f0,hw.cell.1,hw.cell.2]
 refine dJ (wV (n:=n) (ls:=[e]) (Nat.succ_pos d) (hm' _) (KX hw (by simp[H.get_put]))) fun v hv=>?_
 obtain ⟨y,cs,rfl,hy,hc,a1,a2,a3,a4,rfl⟩:=jT hv
 rw[lL] at hy ⊢
 by_cases h0:S.ay n e=0
 ·have hyo:=hy h0
  obtain ⟨h1,h2⟩:=gy.1 h0
  have hr:=bZ.1 h1
  have hl8:=hr.l2
  obtain ⟨b',b2,b3,ecs,hb',hb2,hb3⟩:=oJ.1 hc
  injection ecs with ec1 ecs
  injection ecs with ec2 ecs
  rw[hyo.net] at ec1 hb'
  subst ec1 ec2
  have hN':SlR NoP 0 .nil n.nodes a2:=hb'.tree (Nat.le_refl 0)
  have lb:∀g,gB .slice a2 g=.val (.int .i64 (n.nodes.length:Int)):=hN'.len
  simp only[sz,simprocAttr,f3,h0]
  refine r_ (n:=n) (y:=y) (e:=e) (Nat.succ_pos d) hr hc hyo hw h2 (fun hz0 g' hf=>?_) (fun hz0 gP p pm pq m hf hP=>?_)
  ·have hE:S.aP n e=7:=by rw[S.aP,if_pos h0,if_pos hz0]
   have hj:S.aS n e=[]:=by rw[S.aS,hE,if_neg (by decide)]
   simp only[sz,simprocAttr]
   rw[hE,hj]
   exact ⟨fun _=>True,_,_,rfl,cP.2 ⟨_,rfl,by show 0<9223372036854775808;decide,rfl⟩,aC.2 rfl⟩
  ·have hE:S.aP n e=0:=by rw[S.aP,if_pos h0,if_neg hz0]
   have hj:S.aS n e=(List.range n.nodes.length).map (S.aw n e):=by rw[S.aS,hE,if_pos rfl]
   have k2:gP.h.get 2=.cells 4 [[.int .i64 n.grain,a2,a3,a4]] 0 false false:=by rw[hf.2 2 (by simp[f3])];simp[H.get_put,f3]
   simp only[sz,simprocAttr,k2,lb]
   refine nL (b:=gP.nx) (n:=n.nodes.length) (by unfold aX;omega) (by unfold aX;omega) (Nat.le_refl _) fun A g1 hA n1 f1 vA=>?_
   have lA:=eV hA.rows
   rw[List.length_replicate] at lA
   simp only[sz,simprocAttr,lA,qg]
   refine aL (m:=n.nodes.length) (by omega) (fun j t df g'=>df=[]/\St t [(8,.clo N.aI [] [.hptr p 0 0 0,.hptr pm 0 0 0,.hptr pq 0 0 0]),(9,A)]/\Fr gP g'/\gP.nx<g'.nx/\∃rows,Own g' gP.nx A 1 rows/\All2 (Rp.rp (fun i=>gP.nx<i/\i<g'.nx) 0 g'.h) (S.bj n e j) rows) ⟨rfl,by simp[St,sx],⟨by omega,fun i hi=>f1 i hi⟩,by omega,_,hA,?_⟩ (by simp[sx]) (by simp[sx]) (by decide)
    (by rintro k t df g v s (rfl | rfl | rfl) ⟨a1,⟨b1,b2,-⟩,a3⟩<;>exact ⟨a1,by simp[St,sx,b1,b2],a3⟩) ?_ ?_
   ·rw[show S.bj n e 0=List.replicate n.nodes.length [] by simp[S.bj]]
    refine Bp (a:=([]:List QI)) (b:=[AV.nils]) ?_ _
    exact cP.2 ⟨_,rfl,by show 0<9223372036854775808;decide,rfl⟩
   ·rintro j t df g2 hj ⟨rfl,⟨h8,h9,-⟩,hf2,hnx,rows2,hO,hall⟩ h37 h36
    simp only[sz,simprocAttr,h37,h8,h9]
    refine AZ (v:=j) (Nat.succ_pos d) hr hN' (hP.step hf2) hj hz0 fun U g3 hU hf3=>?_
    have hO3:=hO.step hf3
    have hlr:=hall.len
    have hpl:(S.bj n e j).length=n.nodes.length:=by simp[S.bj];omega
    have u1:j<rows2.length:=by omega
    obtain ⟨cs0,hcs0⟩:∃cs0,rows2[j]?=some cs0:=⟨_,List.getElem?_eq_getElem u1⟩
    obtain ⟨l0,hl0,v0,rfl,-⟩:=hall.get' hcs0
    have ru:=hO3.rows
    have hry:om A=true:=nI ru u1
    simp only[sz,simprocAttr,h9,h37,ru,u1,hcs0,hU.cell.1,hU.cell.2]
    refine bI (v:=A) (sz:=1) (n:=1) (i:=j) (off:=0) (x:=U) (row':=[U]) hO3 hcs0 (by rw[hU.cell.1];rfl) hU.cell.2 (by rw[hU.cell.1];rfl) fun g5 hO5 n5 f5=>?_
    simp only[sz,simprocAttr]
    have fA:∀i,gP.nx<i->g5.h.get i=g3.h.get i:=fun i hi=>f5 i (by rw[vA];intro h;injection h with h;omega)
    have n3:=hf3.1
    refine ⟨⟨by simp[St,sx,h8,h9],⟨by have:=hf2.1;omega,fun i hi=>?_⟩,by omega,_,hO5,?_⟩,h37,h36⟩
    ·rw[f5 i (by rw[vA];intro h;injection h with h;omega),hf3.2 i (by omega),hf2.2 i hi]
    ·rw[<-Ji hj]
     refine All2.set (All2.mono (fun a b h=>?_) hall) ⟨U,rfl,?_⟩
     ·obtain ⟨v,rfl,hs⟩:=h
      exact ⟨v,rfl,hs.wd fun i hi=>⟨⟨hi.1,by omega⟩,by rw[fA i hi.1,hf3.2 i hi.2]⟩⟩
     ·exact (Jh (P:=fun i=>gP.nx<i/\i<g5.nx) hr hU fun i h1 h2=>⟨by omega,by omega⟩).wd fun i hi=>⟨hi,fA i hi.1⟩
   ·rintro t df g' ⟨rfl,⟨h8,h9,-⟩,hf2,hnx,rows2,hO,hall⟩
    rw[show S.bj n e n.nodes.length=(List.range n.nodes.length).map (S.aw n e) by rw[S.bj,List.take_of_length_le (by simp),Nat.sub_self,List.replicate_zero,List.append_nil]] at hall
    simp only[iN,if_true,sz,simprocAttr,pE,h9]
    rw[hE,hj]
    refine ⟨fun _=>True,_,_,rfl,cP.2 ⟨_,rfl,Own.sl (α:=List QI) hO (by simp;omega) (All2.mono (fun a b h=>?_) hall) fun _ _=>trivial⟩,aC.2 rfl⟩
    obtain ⟨v,rfl,hs⟩:=h
    exact ⟨v,rfl,hs.wd fun i hi=>⟨trivial,rfl⟩⟩
 ·have hE:S.aP n e=S.ay n e:=by rw[S.aP,if_neg h0]
  have hj:S.aS n e=[]:=by rw[S.aS,hE,if_neg h0]
  simp only[sz,simprocAttr,f3,h0]
  rw[hj,hE]
  exact ⟨fun _=>True,_,_,rfl,cP.2 ⟨_,rfl,by show 0<9223372036854775808;decide,rfl⟩,aC.2 rfl⟩
theorem MX {P:Nat->Prop}{k:Nat}{h:H}{q:QI}{cs:List AV}:Rp.rp P k h q cs↔cs=cq q:=by
 constructor
 ·intro hc
  obtain ⟨a,b,rfl,ha,hb⟩:=qR.1 hc
  rw[aC.1 ha,aC.1 hb];rfl
 ·rintro rfl;exact LL q
theorem pB {k:Nat}{l:List QI}{v:AV}(hl:SlR NoP k .nil l v):∀h,ak h 2 v=some (l.map cq):=by
 obtain ⟨rows,r1,r2,r3,r4⟩:=hl.all
 have e:rows=l.map cq:=by
  refine List.ext_getElem? fun i=>?_
  rw[List.getElem?_map]
  cases hx:l[i]? with
  | none=>rw[List.getElem?_eq_none_iff] at hx;simp;omega
  | some x =>
   obtain ⟨row,q1,q2⟩:=r3 i x hx
   rw[q1,MX.1 q2];rfl
 intro h
 rw[<-e];exact r1 h
theorem tP {k:Nat}{l:List QI}{v:AV}(hl:SlR NoP k .nil l v)(h0:0<l.length):om v=true:=by
 obtain ⟨rows,r1,r2,r3,r4⟩:=hl.all
 exact r4 h0
theorem IS {M:Nat}(h:0<M):S.an 0 M=(0,1):=by
 have h1:Nat.gcd 0 M=M:=Nat.gcd_zero_left M
 simp only[S.an,h1,Nat.zero_div,Nat.div_self h]
 rfl
theorem CE {M:Nat}(h:0<M):S.an M M=(1,1):=by
 have h1:Nat.gcd M M=M:=Nat.gcd_self M
 simp only[S.an,h1,Nat.div_self h]
 rfl
theorem oB:∀(l:List Nat) (j:Nat),(l.take j).sum<=l.sum
 | [],j=>by simp
 | a::l,0=>by simp
 | a::l,j+1=>by have:=oB l j;simp;exact this
theorem Kh {d k:Nat}{g:G}{v:AV}{qs:List Nat}{M:Nat}(hd:0<d)(hl:SlR NoP k g.h (qs.map fun a=>S.an a M) v)(hk:k<=d)(hM:0<M)(hM2:M<=3000000000)(hs:qs.sum<=M)(hq:qs.length<=1000) :
  ac C0 d N.aA [v] g=.val (.agg [.int .i64 (S.an qs.sum M).1,.int .i64 (S.an qs.sum M).2]):=by
 have key:∃r,ac C0 d N.aA [v] g=.val r/\Agg (S.an qs.sum M) NoP 0 .nil r:=by
  obtain ⟨w,ew,hw⟩:=dX hl d
  rw[Nat.max_eq_right hk] at hw
  have hw:=hw .nil
  have rq:=pB hw
  have lw:=hw.len
  rw[List.length_map] at lw
  have kO:=fun g=>Lw (d:=d+1) (g:=g) (a:=0) (b:=1) (Nat.succ_pos d)
  rw[we]
  refine aP AP (xs:=[w]) (by simp only[aE,ew]) (by simp[qr]) (bu _) (by decide) hd ?_
  simp only[sz,simprocAttr,qr,rO,kO,lw]
  simp only[pi]
  refine aL (m:=qs.length) (by omega) (fun j t df g=>df=[]/\St t [(2,.hptr 0 0 0 0),(3,.hptr 1 0 0 0),(9,w)]/\2<=g.nx/\g.h.get 0=.cells 2 [[.int .i64 0,.int .i64 0]] 0 false false/\g.h.get 1=.cells 2 [[.int .i64 (S.an (qs.take j).sum M).1,.int .i64 (S.an (qs.take j).sum M).2]] 0 false false)
   ⟨rfl,by simp[St,sx],by simp[sx],by simp[sx,H.get_put],by simp[sx,H.get_put,IS hM]⟩ (by simp[sx]) (by simp[sx]) (by decide) (by rintro j t df g v s (rfl | rfl | rfl)<;>simp[St,sx]) ?_ ?_
  ·rintro j t df g hj ⟨rfl,⟨h2,h3,h9,-⟩,hnx,k0,k1⟩ h11 h10
   obtain ⟨y,hy,htk,-⟩:=au hj
   have u1:j<((qs.map fun a=>S.an a M).map cq).length:=by simpa using hj
   have u2:((qs.map fun a=>S.an a M).map cq)[j]?=some (cq (S.an y M)):=by rw[List.getElem?_map,List.getElem?_map,hy];rfl
   have hry:=tP hw (by simp;omega)
   have hse:(qs.take (j+1)).sum=(qs.take j).sum+y:=by rw[htk,List.sum_append];simp
   have hle:=oB qs (j+1)
   have kA:=fun g=>Lf (d:=d+1) (g:=g) (c:=(qs.take j).sum) (s:=y) (w:=M) (Nat.succ_pos d) hM hM2 (by omega)
   rw[<-hse] at kA
   obtain ⟨X,hX⟩:∃X,X=S.an (qs.take j).sum M:=⟨_,rfl⟩
   obtain ⟨Y,hY⟩:∃Y,Y=S.an y M:=⟨_,rfl⟩
   obtain ⟨Z,hZ⟩:∃Z,Z=S.an (qs.take (j+1)).sum M:=⟨_,rfl⟩
   rw[<-hX] at k1 kA
   rw[<-hY] at u2 kA
   rw[<-hZ] at kA ⊢
   simp only[cq] at u2
   simp only[sz,simprocAttr,h2,h3,h9,h11,rq,u1,u2,hry,k1,kA,show ¬1=g.nx by omega,show ¬1=g.nx+1 by omega]
   refine ⟨⟨by simp[St,sx,h2,h3,h9],?_⟩,h10⟩
   rw[if_neg (by omega),if_neg (by omega)];exact k0
  ·rintro t df g ⟨rfl,⟨h2,h3,h9,-⟩,hnx,k0,k1⟩
   rw[List.take_length] at k1
   simp only[sz,simprocAttr,pC,h2,h3,k0,k1]
   exact ⟨fun _=>True,gf.2 rfl⟩
 obtain ⟨r,h1,h2⟩:=key
 rw[h1,gf.1 h2]
theorem Mv {d k k2:Nat}{g:G}{v w:AV}{l:List QI}(hd:0<d)(hl:SlR NoP k g.h l v)(hl2:SlR NoP k2 g.h l w)(hk:k<=d)(hk2:k2<=d)(hn:l.length<=1000):ac C0 d N.bu [v,w] g=.val (.bool true):=by
 obtain ⟨v',ev,hv⟩:=dX hl d
 obtain ⟨w',ew,hw⟩:=dX hl2 d
 rw[Nat.max_eq_right hk] at hv
 rw[Nat.max_eq_right hk2] at hw
 have hv:=hv .nil
 have hw:=hw .nil
 have rv:=pB hv
 have rw':=pB hw
 have lv:=hv.len
 have lw:=hw.len
 rw[jG]
 refine mQ lH (xs:=[v',w']) (by simp only[aE,ev,ew]) (by simp[cX]) hd ?_
 simp only[sz,simprocAttr,cX,lv,lw]
 simp only[d8]
 refine aL (m:=l.length) (by omega) (fun j t df g=>df=[]/\St t [(0,v'),(1,w'),(11,v')]) ⟨rfl,by simp[St,sx]⟩ (by simp[sx]) (by simp[sx]) (by decide) (by rintro j t df g v s (rfl | rfl | rfl)<;>simp[St,sx]) ?_ ?_
 ·rintro j t df g hj ⟨rfl,h0,h1,h11,-⟩ h13 h12
  obtain ⟨y,hy,-,-⟩:=au hj
  have u1:j<(l.map cq).length:=by simpa using hj
  have u2:(l.map cq)[j]?=some (cq y):=by rw[List.getElem?_map,hy];rfl
  have r1:=tP hv (by omega)
  have r2:=tP hw (by omega)
  have eq:=I5 y.1 y.2
  simp only[cq] at u2
  simp only[sz,simprocAttr,h0,h1,h11,h13,rv,rw',u1,u2,r1,r2,eq]
  simp[St,sx,h0,h1,h11,h12,h13]
 ·rintro t df g ⟨rfl,-⟩
  simp only[sz,simprocAttr,d7]
end
end Hx
end
section
namespace Hx
open Go
def S.qv (n:Net)(e:List Int)(v x:Nat):Nat:=(S.af n (S.pq n e v (x:Int)) (S.au n)).toNat
def S.qs (n:Net)(e:List Int)(v c:Nat):List Nat:=(List.range c).map (S.qv n e v)
theorem A9 (n:Net)(e:List Int)(v:Nat):S.aw n e v=(S.qs n e v ((S.aa n)[v]?.getD 0).toNat).map fun a=>S.an a (S.aB n e).toNat:=by
 simp only[S.aw,S.qs,List.map_map]
 rfl
theorem H8 {n:Net}(hr:NR n)(e:List Int)(v x:Nat):((S.qv n e v x:Nat):Int)=S.af n (S.pq n e v (x:Int)) (S.au n) :=
 Int.toNat_of_nonneg (iJ hr _ _).1
theorem ER (a:Int)(y:Nat):∀c:Nat,S.sm (fun x=>if x=y then a else 0) c=if y<c then a else 0
 | 0=>by simp[S.sm]
 | c+1=>by
  rw[S.sm,ER a y c]
  by_cases h:c=y
  ·subst h;simp
  ·rw[if_neg h]
   by_cases h2:y<c
   ·rw[if_pos h2,if_pos (by omega)];omega
   ·rw[if_neg h2,if_neg (by omega)];omega
theorem Ll {n:Net}(hr:NR n)(e:List Int){v:Nat}{c:Nat}(hc:(S.aa n)[v]?=some (c:Int)):∀j,S.sm (fun x=>S.af n (S.pq n e v (x:Int)) j) c=S.af n (S.pe n e) j
 | 0=>by
  show S.sm (fun _=>0) c=0
  rw[p_];simp
 | j+1=>by
  have ih:=Ll hr e hc j
  obtain ⟨y,hy,y0,y1⟩:=(iy (fun c hc=>(hr.cs c hc).1) (j:Int)).get hc
  obtain ⟨y,rfl⟩:=Int.eq_ofNat_of_zero_le y0
  have e1:∀x:Nat,S.af n (S.pq n e v (x:Int)) (j+1)=S.af n (S.pq n e v (x:Int)) j+if x=y then (if S.pe n e j then S.aG n (S.am (S.aa n) (j:Int)) else 0) else 0:=fun x=>by
   rw[S.af]
   congr 1
   simp only[S.pq,hy]
   by_cases h:x=y
   ·subst h;simp
   ·have:¬((y:Int)=(x:Int)):=by omega
    simp[h,this]
  rw[cJ (G:=fun x=>S.af n (S.pq n e v (x:Int)) j+if x=y then (if S.pe n e j then S.aG n (S.am (S.aa n) (j:Int)) else 0) else 0) (fun x _=>e1 x),Dr,ih,ER,if_pos (by omega),S.af]
theorem Cs (f:Nat->Nat):∀c:Nat,((((List.range c).map f).sum:Nat):Int)=S.sm (fun x=>(f x:Int)) c
 | 0=>rfl
 | c+1=>by
  rw[List.range_succ,List.map_append,List.sum_append,S.sm,<-Cs f c]
  simp
theorem Jq {n:Net}(hr:NR n)(e:List Int){v:Nat}{c:Nat}(hc:(S.aa n)[v]?=some (c:Int)):(S.qs n e v c).sum=(S.aB n e).toNat:=by
 have h:(((S.qs n e v c).sum:Nat):Int)=S.aB n e:=by
  rw[S.qs,Cs,pV,<-Ll hr e hc]
  exact cJ fun x _=>H8 hr e v x
 omega
theorem LY {n:Net}{e:List Int}{v x:Nat}(hl:e.length=n.nodes.length)(hv:v<e.length)(he:e[v]?=some (x:Int)):S.qv n e v x=(S.aB n e).toNat:=by
 have:=JY (n:=n) (e:=e) (v:=v) (x:=(x:Int)) hv hl (by omega)
 rw[he,Option.getD_some] at this
 simp only[decide_true,Bool.or_true,if_true] at this
 have es:e.set v (x:Int)=e:=by
  obtain ⟨h1,h2⟩:=List.getElem?_eq_some_iff.1 he
  rw[<-h2];exact List.set_getElem_self h1
 rw[es] at this
 rw[S.qv,this]
theorem Fv {n:Net}(hr:NR n){e:List Int}{v c:Nat}(hc:(S.aa n)[v]?=some (c:Int)):S.bc n e [(v:Int)] (S.au n)=(S.qs n e v c).map fun a=>((a:Nat):Int):=by
 have hp:S.ae (S.ac (S.aa n) [(v:Int)])=(c:Int):=by simp[S.ac,hc,S.ae]
 rw[S.bc,hp,S.qs,List.map_map,Int.toNat_natCast]
 refine List.map_congr_left fun x _=>?_
 show _=((S.qv n e v x:Nat):Int)
 rw[H8 hr]
 refine nG fun w _=>?_
 obtain ⟨y,hy,y0,y1⟩:=(iy (fun c hc=>(hr.cs c hc).1) (w:Int)).get hc
 simp only[S.pk,S.pq,hy]
 congr 1
 have:S.ah (S.ac (S.aa n) [(v:Int)]) (S.ac (S.am (S.aa n) (w:Int)) [(v:Int)])=y:=by simp[S.ac,hc,hy,S.ah,S.ae]
 rw[this]
 simp
def S.aV (k v:Nat)(x:Int):List Int:=(List.replicate k (-1)).set v x
theorem AB (k v:Nat)(x:Int):(S.aV k v x).length=k:=by simp[S.aV]
theorem Dt {k v u:Nat}(x:Int)(hu:u<k):(S.aV k v x)[u]?=some (if v=u then x else -1):=by
 rw[S.aV,List.getElem?_set,List.getElem?_replicate]
 by_cases h:v=u
 ·subst h;simp[hu]
 ·simp[h,hu]
theorem Jg {n:Net}{v c x:Nat}(hc:(S.aa n)[v]?=some (c:Int))(hx:x<c)(hr:NR n):S.aA n (S.aV n.nodes.length v (x:Int))=true:=by
 have hv:=(List.getElem?_eq_some_iff.1 hc).1
 rw[aI] at hv
 simp only[S.aA,Bool.and_eq_true,decide_eq_true_eq,List.all_eq_true,AB,true_and]
 intro u hu
 have hu:=List.mem_range.1 hu
 rw[Dt _ hu,Option.getD_some]
 by_cases h:v=u
 ·subst h
  rw[if_pos rfl,hc,Option.getD_some];omega
 ·obtain ⟨c',hc'⟩:∃c',(S.aa n)[u]?=some c':=⟨_,List.getElem?_eq_getElem (by rw[aI];exact hu)⟩
  have:=hr.cs c' (List.mem_of_getElem? hc')
  rw[if_neg h,hc',Option.getD_some];omega
theorem GV {k v x:Nat}{vals:List Int}(hv:v<k):S.aW vals (S.aV k v (x:Int))=decide (vals[v]?.getD 0=(x:Int)):=by
 rw[Bool.eq_iff_iff,decide_eq_true_eq,S.aW,List.all_eq_true]
 simp only[AB,List.mem_range,S.bE,Bool.or_eq_true,decide_eq_true_eq]
 constructor
 ·intro h
  have:=h v hv
  rw[Dt _ hv,if_pos rfl,Option.getD_some] at this
  omega
 ·intro h u hu
  rw[Dt _ hu,Option.getD_some]
  by_cases e:v=u
  ·subst e;right;rw[if_pos rfl,h]
  ·left;rw[if_neg e];omega
theorem HC {n:Net}(hr:NR n){e:List Int}{v c x:Nat}(hc:(S.aa n)[v]?=some (c:Int)):(S.bI n e (S.aV n.nodes.length v (x:Int))).toNat=S.qv n e v x:=by
 have hv:=(List.getElem?_eq_some_iff.1 hc).1
 rw[aI] at hv
 rw[S.qv]
 congr 1
 refine nG fun w _=>?_
 obtain ⟨y,hy,y0,y1⟩:=(iy (fun c hc=>(hr.cs c hc).1) (w:Int)).get hc
 rw[S.pb,GV hv,hy]
 simp[S.pq,S.pe,hy]
end Hx
end
section
namespace Hx
open Go
noncomputable section
def ArV (l:List QI):VS:=fun P k h v=>∃p,v=.clo N.au [] [p]/\F6 l 1 P k h p
theorem Mn (l:List QI):Snb (ArV l) 3:=by
 refine ⟨fun {P k h v n} d r hn=>?_,fun {k h v n} r hn=>?_⟩
 ·obtain ⟨p,rfl,r1⟩:=r
  obtain ⟨n,rfl⟩:∃q,n=q+2:=⟨n - 2,by omega⟩
  obtain ⟨p',e1,r1'⟩:=wT (n:=n) d r1 (Nat.le_trans (show Rp.dp (List QI)<=20 by decide) (by omega))
  refine ⟨.clo N.au [] [p'],?_,p',rfl,r1'⟩
  simp only[Hx.snap,aE] at e1 ⊢
  rw[e1]
 ·obtain ⟨p,rfl,r1⟩:=r
  obtain ⟨n,rfl⟩:∃q,n=q+2:=⟨n - 2,by omega⟩
  obtain ⟨m1,e1,l1⟩:=Am (n:=n) r1
  refine ⟨Nat.max m1 0,?_,by show max m1 0<=k;omega⟩
  show fj (dO (n+1)) [p]=_
  simp only[fj,e1]
theorem Mq {d kk:Nat}{g:G}{v:AV}{l:List QI}(hd:0<d)(hl:SlR NoP kk g.h l v)(hk:kk<d):∃r,ac C0 d N.aD [v] g=.val r/\∃t z,r=.clo N.au [] [.tptr t 1 [[z]] 0 0]/\SlR NoP kk .nil l z:=by
 have key:∃r,ac C0 d N.aD [v] g=.val r/\ArV l NoP kk .nil r:=by
  rw[xz]
  refine aP AL (xs:=[v]) (by simp only[aE,qV d hl]) (by simp[pM]) (Mn l) (by decide) hk ?_
  simp only[sz,simprocAttr,pM,rP,Dj hl]
  refine ⟨fun _=>True,_,rfl,.inl ⟨0,[v],rfl,trivial,by simp[sx,H.get_put],?_⟩⟩
  exact ⟨v,rfl,hl.wide (Nat.le_refl _)⟩
 obtain ⟨r,hr,p,rfl,r1⟩:=key
 rcases r1 with ⟨id,cs,rfl,hP,-⟩ | ⟨t,cs,rfl,ht,r1⟩
 ·exact hP.elim
 obtain ⟨z,rfl,hz⟩:=cP.1 r1
 exact ⟨_,hr,t,z,rfl,hz⟩
theorem G7 (d:Nat)(a b p:AV)(g:G):cY C0 (I C0) d (.clo N.au [] [p]) [a,b] g=orF ((I C0).call d N.au [a,b,p] g):=by kernel_rfl
theorem Fy {d t k k2:Nat}{g:G}{l:List QI}{u z:AV}{K:AV->G->Prop}{D:ADf->Prop}(hd:0<d)(hu:SlR NoP k .nil l u)(hz:SlR NoP k2 .nil l z)(hk:k<=d)(hk2:k2<=d)(hn:l.length<=1000)(kk:∀g',Fr g g'->K (.bool true) g') :
  (cY C0 (I C0) d (.clo N.au [] [.tptr t 1 [[z]] 0 0]) [u,.int .i64 0] g).sat K g D:=by
 have kE:=fun g:G=>Mv (d:=d) (g:=g) hd (hu.tree (h':=g.h) (Nat.le_refl _)) (hz.tree (h':=g.h) (Nat.le_refl _)) hk hk2 hn
 rw[G7]
 refine lO vY (by simp[mq]) ?_
 simp only[sz,simprocAttr,mq,dT,kE]
 exact kk _ (Fr.refl g)
def S.bC (xs ys zs:Nat):List Nat:=[xs ||| ys ||| zs,zs,xs ||| zs,ys ||| zs]
def S.bP (n:Net)(xs ys zs i w:Nat):Int:=S.bN n ((S.bC xs ys zs)[i]?.getD 0) w
structure DpM (n:Net) (xs ys zs mb j k:Nat) (h:H):Prop where
 hm:∀i,i<4->∃L:List (Int×Int),h.get (mb+i)=.map (mcl ik L)/\∀K,mgt L K=S.bO n ((S.bC xs ys zs)[i]?.getD 0) K j+if i<k/\S.bP n xs ys zs i j=K then S.wt n j else 0
structure DpK (g0:G) (mb:Nat) (g:G):Prop where
 nx:g0.nx<=g.nx
 fr:∀i,(i<mb\/mb+4<=i)->i<g0.nx->g.h.get i=g0.h.get i
set_option maxRecDepth 20000 in
structure DpL (n:Net) (U V:AV) (g:G):Prop where
 u:∃rows,Own g 1 U 1 rows/\All2 (Rp.rp NoP 0 .nil) ((List.range (S.au n)).map fun w:Nat=>S.am (S.aa n) (w:Int)) rows
 v:Own g 1 V 1 ((List.range (S.au n)).map fun w:Nat=>[AV.int .i64 (S.aG n (S.am (S.aa n) (w:Int)))])
structure DpS (n:Net) (xs ys zs:Nat) (b a3 a4:AV) (g:G):Prop where
 h1:g.h.get 1=.cells 1 [[.bool false]] 0 false false
 h2:g.h.get 2=.cells 1 [[.int .i64 0]] 0 false false
 h3:g.h.get 3=.cells 4 [[.int .i64 n.grain,b,a3,a4]] 0 false false
 h4:g.h.get 4=.cells 4 [[.int .u64 (((S.bC xs ys zs)[0]?.getD 0:Nat):Int),.int .u64 (((S.bC xs ys zs)[1]?.getD 0:Nat):Int),.int .u64 (((S.bC xs ys zs)[2]?.getD 0:Nat):Int),.int .u64 (((S.bC xs ys zs)[3]?.getD 0:Nat):Int)]] 0 false false
 h9:g.h.get 9=.cells 4 [[.hmap 5,.hmap (5+1),.hmap (5+2),.hmap (5+3)]] 0 false false
set_option maxRecDepth 20000 in
structure DpJ (g0:G) (n:Net) (xs ys zs j:Nat) (h:H):Prop where
 fr:∀i,i<10->(i<5\/9<=i)->h.get i=g0.h.get i
 m:DpM n xs ys zs 5 j 0 h
theorem Cz (g:G):ac C0 1 N.bJ [] g=.val (.bool true):=by kernel_rfl
theorem CN (C:Cfg)(t:T)(g:G)(f:Od)(xs:List Od):(SO.foot C t g (.dyn f xs)).sr=[]:=by
 simp only[SO.foot]
 split
 ·rw[aa];split<;>rfl
 ·rfl
def LOo (w lt:AV)(M:Int)(v k:Nat):List (Nat×AV):=[(5,.hptr 2 0 0 0),(6,w),(9,.int .i64 M),(62,lt),(63,.int .i64 (k:Int)),(64,.int .i64 (v:Int))]
def LOn (w lt pt:AV)(M:Int)(v k c q:Nat):List (Nat×AV):=[(11,.int .i64 (v:Int)),(13,.hptr q 0 0 0),(134,pt),(135,.int .i64 (c:Int)),(5,.hptr 2 0 0 0),(6,w),(9,.int .i64 M),(62,lt),(63,.int .i64 (k:Int)),(64,.int .i64 (v:Int))]
theorem L7 {n:Net}{e:List Int}{b w lt pt a1 a2 a3:AV}{v k c q M:Nat}{Q:QT}{t:T}{g:G}(hm:∀h,Agg n NoP 0 h (.agg [.int .i64 n.grain,b]))(hb:SlR NoP 0 .nil n.nodes b)(hr:NR n)(hl5:n.nodes.length<=5)(he:S.aA n e=true)(hw:SlR NoP 0 .nil e w)(hM:S.aB n e=(M:Int))(hM0:0<M)(hMb:M<=3000000000)
  (hc:(S.aa n)[v]?=some (c:Int)) (hp:SlR NoP 0 .nil (S.aw n e v) pt) (ha3:SlR NoP 0 .nil (S.bc n e [(v:Int)] (S.au n)) a3)
  (ht:St t (LOn w lt pt M v k c q)) (h136:tat t 136=.int .i64 0) (k2:g.h.get 2=.cells 2 [[.int .i64 n.grain,b]] 0 false false) (kq:g.h.get q=.cells 3 [[a1,a2,a3]] 0 false false) (hq:2<q) (hqn:q<g.nx)
  (fin:∀t g',St t (LOo w lt M v k)->(∀i,i<=q->g'.h.get i=g.h.get i)->g.nx<=g'.nx->Q (.exit 2) t [] g'):wpL (wp C0 1 none fq) Q t [] g:=by
 have hv:=(List.getElem?_eq_some_iff.1 hc).1
 rw[aI] at hv
 have hl8:=hr.l2
 have hl1:=hr.l1
 have hcc:=hr.cs _ (List.mem_of_getElem? hc)
 have hjl:S.aw n e v=(S.qs n e v c).map fun a=>S.an a M:=by rw[A9,hc,hM];rfl
 have hql:(S.qs n e v c).length=c:=by simp[S.qs]
 rw[hjl] at hp
 have rp:=pB hp
 have rW:∀h,ak h 1 a3=some ((S.bc n e [(v:Int)] (S.au n)).map ci):=fun h=>(ha3.tree (h':=h) (Nat.le_refl 0):SlR NoP 0 h _ a3).ints
 rw[Fv hr hc] at rW
 have lb:=hb.len
 have ld2:ct (.cells 2 [[.int .i64 n.grain,b]] 0 false false) 0 0 true 2 0=.val (.agg [.int .i64 n.grain,b]):=rfl
 have hmt:(S.aB n e).toNat=M:=by omega
 simp only[fq]
 refine aL (m:=c) (by omega) (fun j t df g'=>df=[]/\St t ([(11,.int .i64 (v:Int)),(13,.hptr q 0 0 0),(134,pt)]++LOo w lt M v k)/\(∀i,i<=q->g'.h.get i=g.h.get i)/\g.nx<=g'.nx) ⟨rfl,?_,fun _ _=>rfl,Nat.le_refl _⟩ h136 ht.2.2.2.1 (by decide) ?_ ?_ ?_
 ·obtain ⟨h11,h13,h134,h135,h5⟩:=ht
  exact ⟨h11,h13,h134,h5⟩
 ·rintro j t df g' v s hs ⟨a1,⟨b1,b2,b3,b4,b5,b6,b7,b8,b9,-⟩,a3,a4⟩
  refine ⟨a1,?_,a3,a4⟩
  rcases hs with rfl | rfl | rfl<;>simp[St,LOo,sx,b1,b2,b3,b4,b5,b6,b7,b8,b9]
 ·rintro x t df g1 hx ⟨rfl,⟨h11,h13,h134,h5,h6,h9,h62,h63,h64,-⟩,hfr,hnx⟩ h136 h135
  obtain ⟨y,hy⟩:∃y,y=S.qv n e v x:=⟨_,rfl⟩
  have hyx:(S.qs n e v c)[x]?=some y:=by rw[hy];simp[S.qs,hx]
  have u1:x<(((S.qs n e v c).map fun a=>S.an a M).map cq).length:=by simp[hql,hx]
  have u2:(((S.qs n e v c).map fun a=>S.an a M).map cq)[x]?=some (cq (S.an y M)):=by rw[List.getElem?_map,List.getElem?_map,hyx];rfl
  have u3:x<(((S.qs n e v c).map fun a=>((a:Nat):Int)).map ci).length:=by simp[hql,hx]
  have u4:(((S.qs n e v c).map fun a=>((a:Nat):Int)).map ci)[x]?=some (ci (y:Int)):=by rw[List.getElem?_map,List.getElem?_map,hyx];rfl
  have hry:=tP hp (by simp[hql];omega)
  have hym:y<=M:=by
   have h1:=oB (S.qs n e v c) (x+1)
   have h2:((S.qs n e v c).take (x+1)).sum=((S.qs n e v c).take x).sum+y:=by
    rw[List.take_add_one,hyx,List.sum_append];simp
   have h3:=Jq hr e hc
   omega
  obtain ⟨X,hX⟩:∃X,X=S.an y M:=⟨_,rfl⟩
  rw[<-hX] at u2
  simp only[cq] at u2
  refine bo (P:=fun t' df g'=>df=[]/\(∀i,i<=q->g'.h.get i=g.h.get i)/\g'.nx=g1.nx+1/\g'.h.get g1.nx=.cells 2 [[.int .i64 X.1,.int .i64 X.2]] 0 false false/\St t' ((136,.int .i64 (x:Int))::(15,.int .i64 (x:Int))::(16,.hptr g1.nx 0 0 0)::LOn w lt pt M v k c q)) ?_ ?_
  ·simp only[sz,simprocAttr,h134,h136,rp,u1,u2,hry]
   refine ⟨fun i hi=>?_,by simp[St,LOn,sx,h62,h63,h64,h5,h6,h9,h11,h13,h134,h135,h136]⟩
   rw[<-hfr i hi]
   simp[H.get_put,show ¬i=g1.nx by omega]
  clear h62 h63 h64 h5 h6 h9 h11 h13 h134 h135 h136 hfr
  rintro t df g2 ⟨rfl,hfr,n2,kx,h136,h15,h16,h11,h13,h134,h135,h5,h6,h9,h62,h63,h64,-⟩
  have k2':g2.h.get 2=.cells 2 [[.int .i64 n.grain,b]] 0 false false:=by rw[hfr 2 (by omega),k2]
  refine bo (P:=fun t' df g'=>df=[]/\(∀i,i<=g1.nx->g'.h.get i=g2.h.get i)/\g2.nx<g'.nx/\(∃u,Own g' (g2.nx+1) u 1 ((List.replicate n.nodes.length (-1)).map ci)/\tat t' 17=u)/\St t' ((136,.int .i64 (x:Int))::(15,.int .i64 (x:Int))::(16,.hptr g1.nx 0 0 0)::LOn w lt pt M v k c q)) ?_ ?_
  ·have ldf:ct (.cells 2 [[.int .i64 n.grain,b]] 0 false false) 0 0 false 1 1=.val b:=rfl
   simp only[sz,simprocAttr,h5,k2',lb,show ¬2=g2.nx by omega,ldf]
   refine K6 (d:=1) (by decide) (by omega) (by omega) (by simp[H.get_put]) (by simp) fun u g3 hu f3=>?_
   simp only[sz,simprocAttr]
   have f31:=f3.1
   simp only[G.new_nx] at f31
   refine ⟨fun i hi=>?_,by omega,by simpa using hu,by simp[St,LOn,sx,h62,h63,h64,h5,h6,h9,h11,h13,h134,h135,h136,h15,h16]⟩
   rw[f3.2 i (by simp;omega)];simp[H.get_put,show ¬i=g2.nx by omega]
  clear h62 h63 h64 h5 h6 h9 h11 h13 h134 h135 h136 h15 h16
  rintro t df g3 ⟨rfl,hf3,n3,⟨u,hu,h17⟩,h136,h15,h16,h11,h13,h134,h135,h5,h6,h9,h62,h63,h64,-⟩
  refine bo (P:=fun t' df g'=>df=[]/\(∀i,i<=g1.nx->g'.h.get i=g2.h.get i)/\g2.nx<g'.nx/\Own g' (g2.nx+1) u 1 ((S.aV n.nodes.length v (x:Int)).map ci)/\St t' ((136,.int .i64 (x:Int))::(15,.int .i64 (x:Int))::(16,.hptr g1.nx 0 0 0)::(17,u)::LOn w lt pt M v k c q)) ?_ ?_
  ·have rU:=hu.rows
   have v1:v<((List.replicate n.nodes.length (-1:Int)).map ci).length:=by simpa using hv
   have v2:((List.replicate n.nodes.length (-1:Int)).map ci)[v]?=some (ci (-1)):=by rw[List.getElem?_map,List.getElem?_replicate,if_pos hv];rfl
   have hryu:om u=true:=nI rU v1
   simp only[sz,simprocAttr,h17,h11,h15,rU,v1,hryu]
   refine bI (v:=u) (sz:=1) (n:=1) (i:=v) (off:=0) (x:=.int .i64 (x:Int)) (row':=ci (x:Int)) hu v2 rfl rfl rfl fun g4 hu4 n4 f4=>?_
   rw[<-List.map_set] at hu4
   simp only[sz,simprocAttr]
   refine ⟨fun i hi=>?_,by omega,hu4,by simp[St,LOn,sx,h62,h63,h64,h5,h6,h9,h11,h13,h134,h135,h136,h15,h16,h17]⟩
   rw[f4 i fun e=>by have:=(hu.lt e).1;omega,hf3 i hi]
  clear h62 h63 h64 h5 h6 h9 h11 h13 h134 h135 h136 h15 h16 h17 hu hf3 n3
  rintro t df g4 ⟨rfl,hf4,n4,hu,h136,h15,h16,h17,h11,h13,h134,h135,h5,h6,h9,h62,h63,h64,-⟩
  have k2':g4.h.get 2=.cells 2 [[.int .i64 n.grain,b]] 0 false false:=by rw[hf4 2 (by omega),k2']
  have kx':g4.h.get g1.nx=.cells 2 [[.int .i64 X.1,.int .i64 X.2]] 0 false false:=by rw[hf4 g1.nx (by omega),kx]
  have kq':g4.h.get q=.cells 3 [[a1,a2,a3]] 0 false false:=by rw[hf4 q (by omega),hfr q (by omega),kq]
  have hev:=Jg hc hx hr
  have hrL:S.aM n [e,S.aV n.nodes.length v (x:Int)]=0:=uE.2 ⟨bZ.2 hr,he,hev⟩
  have hgE:S.aZ n e (S.aV n.nodes.length v (x:Int))=0:=by rw[S.aZ,if_pos hrL,if_neg (by omega)]
  have hgv:S.a9 n e (S.aV n.nodes.length v (x:Int))=X:=by rw[S.a9,if_pos hgE,HC hr hc,hmt,<-hy,hX]
  obtain ⟨u',eu,hsl⟩:=hu.ints (l:=S.aV n.nodes.length v (x:Int)) (k:=0) (by rw[AB];omega)
  injection eu with eu
  subst eu
  have kG:∀g:G,g.h=g4.h->ac C0 1 N.aE [.agg [.int .i64 n.grain,b],w,u] g=.val (.tup [.agg [.int .i64 X.1,.int .i64 X.2],.int .i64 0]):=fun g hg=>by
   have:=GW (d:=1) (g:=g) (n:=n) (e:=e) (f:=S.aV n.nodes.length v (x:Int)) (z0:=u) (by decide) (hm _) (hw.tree (h':=g.h) (Nat.le_refl 0)) (by rw[hg];exact hsl)
   rw[hgE,hgv] at this
   exact this
  have kF:∀g,ac C0 1 N.ah [.int .i64 (y:Int),.int .i64 (M:Int)] g=.val (.tup [.agg [.int .i64 X.1,.int .i64 X.2],.int .i64 0]):=fun g=>by
   have:=vJ (d:=1) (g:=g) (n:=y) (m:=M) (by decide) (by omega) hM0 (by omega)
   rw[<-hX] at this
   exact this
  have kI:=fun g=>Mj (d:=1) (g:=g) (q:=X) (by decide)
  have lX:ct (.cells 2 [[.int .i64 X.1,.int .i64 X.2]] 0 false false) 0 0 true 2 0=.val (.agg [.int .i64 X.1,.int .i64 X.2]):=rfl
  have l3:ct (.cells 3 [[a1,a2,a3]] 0 false false) 0 0 false 1 2=.val a3:=rfl
  simp only[sz,simprocAttr,sf,h16,h5,h6,h17,kx',k2',lX,ld2,kI]
  rw[kG _ (by simp)]
  simp only[sz,simprocAttr,sf]
  refine FK (q:=X) fun g5 f5 l5=>?_
  have q5:∀i,i<g4.nx->g5.h.get i=g4.h.get i:=fun i hi=>by rw[f5.2 i (by simp;omega)];simp
  have kx5:g5.h.get g1.nx=.cells 2 [[.int .i64 X.1,.int .i64 X.2]] 0 false false:=by rw[q5 _ (by omega),kx']
  have kq5:g5.h.get q=.cells 3 [[a1,a2,a3]] 0 false false:=by rw[q5 _ (by omega),kq']
  simp only[sz,simprocAttr,sf,h16,h9,h13,h15,kx5,kq5,lX,l3,kI,rW,u3,u4,ci,kF]
  refine FK (q:=X) fun g6 f6 l6=>?_
  simp only[sz,simprocAttr,sf,sG,o_,ue]
  have f51:=f5.1
  have f61:=f6.1
  simp only[bumpG_nx,setLog_nx] at f51 f61
  refine ⟨?_,⟨by simp[St,LOo,sx,h5,h6,h9,h11,h13,h134,h62,h63,h64],fun i hi=>?_,by omega⟩,h136,h135⟩
  ·simp only[List.reverse_cons,List.reverse_nil,List.nil_append,List.cons_append]
   exact aR [false,false,false,false,false,false,false,false,true,false,false,false,false,false,false,false,false,false,false,false,false,false,true,false,false] [] (by simp[All2,af,aw,CN]) (by decide) (by simp)
  ·rw[f6.2 i (by simp;omega)]
   simp only[bumpG_h,setLog_h]
   rw[q5 i (by omega),hf4 i (by omega),hfr i hi]
 ·rintro t df g' ⟨rfl,⟨-,-,-,h5⟩,hfr,hnx⟩
  exact fin t g' h5 hfr hnx
theorem IV {k:Nat}{l:List (List QI)}{b:AV}(hb:SlR NoP k .nil l b):∃rows:List (List AV),(∀h,ak h 1 b=some rows)/\rows.length=l.length/\(∀(i:Nat) (r:List QI),l[i]?=some r->∃z,rows[i]?=some [z]/\i<rows.length/\SlR NoP k .nil r z)/\(0<l.length->om b=true):=by
 obtain ⟨rows,r1,r2,r3,r4⟩:=hb.all
 refine ⟨rows,r1,r2,fun i r hr=>?_,r4⟩
 obtain ⟨row,q1,q2⟩:=r3 i r hr
 obtain ⟨z,rfl,hz⟩:=cP.1 q2
 exact ⟨z,q1,by rw[r2];exact (List.getElem?_eq_some_iff.1 hr).1,hz⟩
theorem M6 {v:Nat}{q:Nat}{h:H}(hq:h.get q=.cells 1 [[.int .i64 (v:Int)]] 0 false false):SlR (fun _=>True) 0 h [(v:Int)] (.hsl q 0 0 1 none):=by
 refine ⟨by show 1<_;decide,trivial,[[.int .i64 (v:Int)]],?_,aC.2 rfl,trivial⟩
 show ak h 1 _=_
 simp only[ak,hq];rfl
theorem Ml {n:Net}{e:List Int}{b w lt:AV}{M:Nat}{Q:QT}{t:T}{g:G}(hm:∀h,Agg n NoP 0 h (.agg [.int .i64 n.grain,b]))(hb:SlR NoP 0 .nil n.nodes b)(hr:NR n)(hl5:n.nodes.length<=5)(he:S.aA n e=true)(hw:SlR NoP 0 .nil e w)(hM:S.aB n e=(M:Int))(hM0:0<M)(hMb:M<=3000000000)
  (hL:SlR NoP 0 .nil (S.aS n e) lt) (ht:St t (LOo w lt M 0 n.nodes.length)) (k2:g.h.get 2=.cells 2 [[.int .i64 n.grain,b]] 0 false false) (hgn:3<=g.nx)
  (fin:∀t g',Q (.exit 0) t [] g'):wpL (wp C0 1 none fm) Q t [] g:=by
 have l1:=kJ he
 have hl1:=hr.l1
 have hn:=bZ.2 hr
 have r1:S.ay n e=0:=gy.2 ⟨hn,he⟩
 have hE:S.aP n e=0:=by rw[S.aP,if_pos r1,if_neg (by omega)]
 have hjl:S.aS n e=(List.range n.nodes.length).map (S.aw n e):=by rw[S.aS,if_pos hE]
 obtain ⟨rl,L1,L2,L3,L4⟩:=IV hL
 obtain ⟨rn,N1,N2,N3,N4⟩:=hb.all
 have N1:∀h',ak h' 3 b=some rn:=N1
 have re:∀h,ak h 1 w=some (e.map ci):=fun h=>(hw.tree (h':=h) (Nat.le_refl 0):SlR NoP 0 h e w).ints
 have ld2:ct (.cells 2 [[.int .i64 n.grain,b]] 0 false false) 0 0 true 2 0=.val (.agg [.int .i64 n.grain,b]):=rfl
 have ldf:ct (.cells 2 [[.int .i64 n.grain,b]] 0 false false) 0 0 false 1 1=.val b:=rfl
 simp only[fm]
 refine aL (m:=n.nodes.length) (by omega) (fun j t df g'=>df=[]/\St t [(5,.hptr 2 0 0 0),(6,w),(9,.int .i64 (M:Int)),(62,lt)]/\g'.h.get 2=.cells 2 [[.int .i64 n.grain,b]] 0 false false/\3<=g'.nx) ⟨rfl,?_,k2,hgn⟩ ht.2.2.2.2.2.1 ht.2.2.2.2.1 (by decide) ?_ ?_ ?_
 ·obtain ⟨h5,h6,h9,h62,-⟩:=ht
  exact ⟨h5,h6,h9,h62,trivial⟩
 ·rintro j t df g' v s hs ⟨a1,⟨b1,b2,b3,b4,-⟩,a3⟩
  refine ⟨a1,?_,a3⟩
  rcases hs with rfl | rfl | rfl<;>simp[St,sx,b1,b2,b3,b4]
 ·rintro v t df g1 hv ⟨rfl,⟨h5,h6,h9,h62,-⟩,k2,hgn⟩ h64 h63
  obtain ⟨x,hx,-,-⟩:=au hv
  have hxc:=hr.card x (List.mem_of_getElem? hx)
  obtain ⟨c,hcx⟩:=Int.eq_ofNat_of_zero_le (show 0<=x.card by omega)
  have hc:(S.aa n)[v]?=some (c:Int):=by rw[<-hcx];simp[S.aa,hx]
  obtain ⟨pt,L5,L6,hp⟩:=L3 v (S.aw n e v) (by rw[hjl];simp[hv])
  have hryl:=L4 (by rw[hjl];simp;omega)
  obtain ⟨row,N5,N6⟩:=N3 v x hx
  obtain ⟨na,nb,rfl,-,-⟩:=cT.1 N6
  have hvn:v<rn.length:=by omega
  have hryn:=N4 (by omega)
  rw[hcx] at N5
  refine bo (P:=fun t' df g'=>df=[]/\g'=g1/\St t' ((11,.int .i64 (v:Int))::(12,pt)::LOo w lt M v n.nodes.length)) ?_ ?_
  ·simp only[sz,simprocAttr,h62,h64,L1,L5,L6,hryl]
   simp[St,LOo,sx,h5,h6,h9,h62,h63,h64]
  clear h5 h6 h9 h62 h63 h64
  rintro t df g2 ⟨rfl,hg,h11,h12,h5,h6,h9,h62,h63,h64,-⟩
  rw[hg];clear hg
  have hpl:S.aH [(v:Int)] n.nodes.length=true:=by simp[S.aH,S.br];omega
  have hTE:S.bg n e [(v:Int)]=0:=by rw[S.bg,if_pos r1,if_pos hpl]
  have hT:S.bk n e [(v:Int)]=⟨[(v:Int)],S.ac (S.aa n) [(v:Int)],S.bc n e [(v:Int)] (S.au n)⟩:=by rw[S.bk,if_pos hTE]
  refine bo (P:=fun t' df g'=>df=[]/\∃a1 a2 a3 q,SlR NoP 0 .nil (S.bc n e [(v:Int)] (S.au n)) a3/\2<q/\q<g'.nx/\g'.h.get 2=.cells 2 [[.int .i64 n.grain,b]] 0 false false/\g'.h.get q=.cells 3 [[a1,a2,a3]] 0 false false/\St t' ((11,.int .i64 (v:Int))::(12,pt)::(13,.hptr q 0 0 0)::(14,.int .i64 0)::LOo w lt M v n.nodes.length)) ?_ ?_
  ·simp only[sz,simprocAttr,h5,h6,h11,k2,ld2]
   refine dJ (F3 (d:=1) (n:=n) (e:=e) (vars:=[(v:Int)]) (kb:=0) (Pb:=fun _=>True) (by decide) (hm _) (hw.tree (Nat.le_refl 0)) (M6 (by simp[H.get_put]))) ?_
   rintro _ ⟨z1,z2,rfl,⟨cs,rfl,hcs⟩,hz2⟩
   rw[hTE] at hz2
   rw[hT] at hcs
   obtain ⟨a1,a2,a3,rfl,-,-,ha3⟩:=gx.1 hcs
   rw[show z2=.int .i64 0 by have:=aC.1 hz2;injection this]
   simp only[sz,simprocAttr]
   refine ⟨a1,a2,a3,g1.nx+1,ha3.tree (Nat.le_refl 0),by omega,by simp,by simp[H.get_put,show ¬g1.nx=1 by omega,show ¬2=g1.nx by omega,k2],by simp[H.get_put],by simp[St,LOo,sx,h5,h6,h9,h62,h63,h64,h11,h12]⟩
  clear h5 h6 h9 h62 h63 h64 h11 h12
  rintro t df g2 ⟨rfl,a1,a2,a3,q,ha3,hq2,hqn,k2,kq,h11,h12,h13,h14,h5,h6,h9,h62,h63,h64,-⟩
  have hjp:S.aw n e v=(S.qs n e v c).map fun a=>S.an a M:=by rw[A9,hc,hM];rfl
  have hql:(S.qs n e v c).length=c:=by simp[S.qs]
  have hps:(S.aw n e v).length=c:=by rw[hjp,List.length_map,hql]
  have lp:=hp.len
  rw[hps] at lp
  have l3:ct (.cells 3 [[a1,a2,a3]] 0 false false) 0 0 false 1 2=.val a3:=rfl
  have la:=ha3.len
  rw[Fv hr hc,List.length_map,hql] at la
  have hsum:=Jq hr e hc
  rw[hM] at hsum
  have kS:∀g,ac C0 1 N.aA [pt] g=.val (.agg [.int .i64 1,.int .i64 1]):=fun g=>by
   have:=Kh (d:=1) (g:=g) (k:=0) (v:=pt) (qs:=S.qs n e v c) (M:=M) (by decide) (by rw[<-hjp];exact hp.tree (Nat.le_refl 0)) (by omega) hM0 hMb (by rw[hsum];simp) (by omega)
   rw[hsum,Int.toNat_natCast,CE hM0] at this
   exact this
  have kO:=fun g=>Lw (d:=1) (g:=g) (a:=1) (b:=1) (by decide)
  have hq11:=I5 1 1
  have hpE:S.aX n e (v:Int)=0:=by rw[S.aX,if_pos r1,if_pos ⟨by omega,by omega⟩,if_neg (by omega)]
  have hpv:S.a_ n e (v:Int)=S.aw n e v:=by rw[S.a_,if_pos hpE];rfl
  have hvl:v<e.length:=by omega
  obtain ⟨ev,hev⟩:∃ev,e[v]?=some ev:=⟨_,List.getElem?_eq_getElem hvl⟩
  have hev1:=l1.2 ev (List.mem_of_getElem? hev)
  have u1:v<(e.map ci).length:=by simpa using hvl
  have u2:(e.map ci)[v]?=some (ci ev):=by rw[List.getElem?_map,hev];rfl
  refine d_ (P:=fun t' df g'=>df=[]/\q<g'.nx/\g'.h.get 2=.cells 2 [[.int .i64 n.grain,b]] 0 false false/\g'.h.get q=.cells 3 [[a1,a2,a3]] 0 false false/\St t' ((11,.int .i64 (v:Int))::(12,pt)::(13,.hptr q 0 0 0)::LOo w lt M v n.nodes.length)) ?_ ?_
  ·have rp:=pB hp
   have tail:∀g3:G,q<g3.nx->g3.h.get 2=.cells 2 [[.int .i64 n.grain,b]] 0 false false->g3.h.get q=.cells 3 [[a1,a2,a3]] 0 false false->True:=fun _ _ _ _=>trivial
   have kI:∀g:G,∃r,ac C0 1 N.aD [pt] g=.val r/\∃t z,r=.clo N.au [] [.tptr t 1 [[z]] 0 0]/\SlR NoP 0 .nil (S.aw n e v) z:=fun g=>Mq (by decide) (hp.tree (Nat.le_refl 0)) (by decide)
   have kP:∀g:G,∃r,ac C0 1 N.aJ [.agg [.int .i64 n.grain,b],w,.int .i64 (v:Int)] g=.val r/\∃z,r=.tup [z,.int .i64 0]/\SlR NoP 0 .nil (S.aw n e v) z:=fun g=>by
    obtain ⟨r,h1,z1,z2,rfl,⟨z,ez,hz1⟩,hz2⟩:=yv (d:=1) (g:=g) (n:=n) (e:=e) (z:=(v:Int)) (by decide) (hm _) (hw.tree (Nat.le_refl 0))
    injection ez with ez
    subst ez
    rw[hpE] at hz2
    rw[hpv] at hz1
    exact ⟨_,h1,z1,by have:=aC.1 hz2;injection this with this;rw[this],hz1.tree (Nat.le_refl 0)⟩
   by_cases hneg:0<=ev
   ·obtain ⟨y,rfl⟩:=Int.eq_ofNat_of_zero_le hneg
    have hyc:y<c:=by
     simp only[S.aA,Bool.and_eq_true,decide_eq_true_eq,List.all_eq_true] at he
     have:=(he.2 v (List.mem_range.2 hvl)).2
     rw[hev,hc,Option.getD_some,Option.getD_some] at this
     omega
    have u3:y<((S.aw n e v).map cq).length:=by rw[List.length_map,hps];exact hyc
    have u4:((S.aw n e v).map cq)[y]?=some [.int .i64 1,.int .i64 1]:=by
     rw[hjp,List.getElem?_map,List.getElem?_map]
     have:(S.qs n e v c)[y]?=some M:=by
      have:=LY l1.1 hvl hev
      rw[hM,Int.toNat_natCast] at this
      simp[S.qs,hyc,this]
     rw[this,Option.map_some,Option.map_some,CE hM0];rfl
    simp only[sz,simprocAttr,sf,h5,h6,h9,h11,h12,h13,h14,k2,kq,ldf,ld2,l3,lp,la,N1,hvn,N5,hryn,kS,kO,hq11,re,u1,u2,ci,hneg,rp,u3,u4]
    refine dJ (kI _) ?_
    rintro _ ⟨t1,z,rfl,hz⟩
    simp only[sz,simprocAttr,sf,h5,h6,h11,k2,ld2]
    refine dJ (kP _) ?_
    rintro _ ⟨z2,rfl,hz2⟩
    simp only[sz,simprocAttr,sf]
    refine Fy (k:=0) (k2:=0) (by decide) hz2 hz (by omega) (by omega) (by omega) fun g5 f5=>?_
    have f51:=f5.1
    simp only[bumpG_nx,setLog_nx] at f51
    simp only[sz,simprocAttr,sf,qz,iZ,rV,py]
    refine ⟨?_,by omega,?_,?_,by simp[St,LOo,sx,h5,h6,h9,h62,h63,h64,h11,h12,h13]⟩
    ·simp only[List.reverse_cons,List.reverse_nil,List.nil_append,List.cons_append]
     exact aR (List.replicate 54 false++[true,false,false]) [] (by simp[All2,af,aw,CN,List.replicate]) (by decide) (by simp)
    ·rw[f5.2 2 (by simp)];simp[k2]
    ·rw[f5.2 q (by simp;omega)];simp[kq]
   ·simp only[sz,simprocAttr,sf,h5,h6,h9,h11,h12,h13,h14,k2,kq,ldf,ld2,l3,lp,la,N1,hvn,N5,hryn,kS,kO,hq11,re,u1,u2,ci,hneg]
    refine dJ (kI _) ?_
    rintro _ ⟨t1,z,rfl,hz⟩
    simp only[sz,simprocAttr,sf,h5,h6,h11,k2,ld2]
    refine dJ (kP _) ?_
    rintro _ ⟨z2,rfl,hz2⟩
    simp only[sz,simprocAttr,sf]
    refine Fy (k:=0) (k2:=0) (by decide) hz2 hz (by omega) (by omega) (by omega) fun g5 f5=>?_
    have f51:=f5.1
    simp only[bumpG_nx,setLog_nx] at f51
    simp only[sz,simprocAttr,sf,qz,iZ,rV,py]
    refine ⟨?_,by omega,?_,?_,by simp[St,LOo,sx,h5,h6,h9,h62,h63,h64,h11,h12,h13]⟩
    ·simp only[List.reverse_cons,List.reverse_nil,List.nil_append,List.cons_append]
     exact aR (List.replicate 54 false++[true,false,false]) [] (by simp[All2,af,aw,CN,List.replicate]) (by decide) (by simp)
    ·rw[f5.2 2 (by simp)];simp[k2]
    ·rw[f5.2 q (by simp;omega)];simp[kq]
  clear h5 h6 h9 h62 h63 h64 h11 h12 h13 h14 k2 kq hqn
  rintro t df g3 ⟨rfl,hqn,k2,kq,h11,h12,h13,h5,h6,h9,h62,h63,h64,-⟩
  simp only[sz,simprocAttr,h12,lp]
  refine L7 (n:=n) (e:=e) (b:=b) (w:=w) (lt:=lt) (pt:=pt) (a1:=a1) (a2:=a2) (a3:=a3) (v:=v) (k:=n.nodes.length) (c:=c) (q:=q) (M:=M) hm hb hr hl5 he hw hM hM0 hMb hc hp ha3 (by simp[St,LOn,sx,h5,h6,h9,h62,h63,h64,h11,h12,h13]) (by simp[sx]) k2 kq hq2 hqn ?_
  rintro t4 g4 ⟨h5,h6,h9,h62,h63,h64,-⟩ hfr hnx
  simp only[sz,simprocAttr]
  exact ⟨⟨by simp[St,sx,h5,h6,h9,h62],by rw[hfr 2 (by omega),k2],by omega⟩,h64,h63⟩
 ·rintro t df g' ⟨rfl,-⟩
  exact fin t g'
theorem ld9 {A:List AV}(h:A.length=9):ct (.cells 9 [A] 0 false false) 0 0 true 9 0=.val (.agg A):=by
 match A,h with
 | [a,b,c,d,e,f,g,h,i],_=>rfl
theorem yf {x:uh}{u1:AV}{vs:List UInt8}(hx:Agg x NoP 0 .nil u1)(hv:vs.length=9):∃g',(I C0).call 1 N.bH [u1,.agg (vs.map u8v)] G.empty=.ok (.bool true) g':=by
 obtain ⟨xs,rfl,qx⟩:=hx
 obtain ⟨a1',a2',e1,-⟩:=yU.1 qx
 have hxl:xs.length=3:=by rw[e1];rfl
 clear e1 a1' a2'
 obtain ⟨A,hA⟩:∃A,A=vs.map u8v:=⟨_,rfl⟩
 have hAl:A.length=9:=by rw[hA];simpa using hv
 rw[<-hA]
 have key:=nV (C:=C0) (d:=1) (f:=N.bH) («as»:=[.agg xs,.agg A]) (g:=G.empty) (K:=fun v g'=>v=.bool true) tZ (by simp[ir]) ?_
 ·cases hc':(I C0).call 1 N.bH [.agg xs,.agg A] G.empty with
  | fail=>rw[hc'] at key;exact key.elim
  | ok v g'=>rw[hc'] at key;exact ⟨g',by rw[show v=.bool true from key]⟩
 simp only[sz,simprocAttr,ir,xf]
 obtain ⟨g0,hg0⟩:∃g0,g0=(G.empty.new (AObj.cells xs.length [xs] 0 false false)).new (AObj.cells A.length [A] 0 false false):=⟨_,rfl⟩
 rw[<-hg0]
 have f0:g0.h.get 0=.cells 3 [xs] 0 false false:=by rw[hg0,hxl];simp[sx,H.get_put]
 have f1:g0.h.get 1=.cells 9 [A] 0 false false:=by rw[hg0,hAl];simp[sx]
 have f3:g0.nx=2:=by rw[hg0];simp[sx]
 clear hg0
 have ld0:ct (.cells 3 [xs] 0 false false) 0 0 true 3 0=.val (.agg xs):=by
  match xs,hxl with
  | [a,b,c],_=>rfl
 have lA:=ld9 hAl
 simp only[kV]
 refine d_ (P:=fun t' df g'=>df=[]/\g'=g0/\St t' [(2,.hptr 0 0 0 0),(3,.hptr 1 0 0 0)]) ?_ ?_
 ·simp only[sz,simprocAttr,Cz]
  simp[St,sx]
 rintro t df g1 ⟨rfl,rfl,h2,h3,-⟩
 obtain ⟨rn,en,n,hdr,cn,rfl,hcn⟩:=JZ (g:=g1) (d:=1) (by decide) (Ee (P:=NoP) qx g1.h)
 obtain ⟨b,rfl,hNb⟩:=kU.1 hcn
 have hM':∀h,Agg n NoP 0 h (.agg [.int .i64 n.grain,b]):=fun h=>Ee hcn h
 have hr:=hdr.nr
 have hl8:=hr.l2
 have hcard:∀x∈n.nodes,0<x.card:=fun x hx=>by have:=hr.card x hx;omega
 refine bo (P:=fun t' df g'=>df=[]/\g'.nx=3/\St t' [(3,.hptr 1 0 0 0),(5,.hptr 2 0 0 0)]/\g'.h.get 1=.cells 9 [A] 0 false false/\g'.h.get 2=.cells 2 [[.int .i64 n.grain,b]] 0 false false) ?_ ?_
 ·simp only[sz,simprocAttr,h2,f0,ld0,en]
  simp[St,sx,h3,f1,f3]
 clear f0 f1 f3 h2 h3 en
 rintro t df g2 ⟨rfl,n2,⟨h3,h5,-⟩,f1,f2⟩
 have ld2:ct (.cells 2 [[.int .i64 n.grain,b]] 0 false false) 0 0 true 2 0=.val (.agg [.int .i64 n.grain,b]):=rfl
 refine bo (P:=fun t' df g'=>df=[]/\g'=g2/\∃(e:List Int) (w:AV),S.aA n e=true/\SlR NoP 0 .nil e w/\St t' [(5,.hptr 2 0 0 0),(6,w)]) ?_ ?_
 ·simp only[sz,simprocAttr,sf,h3,h5,f1,f2,lA,ld2]
  rw[hA]
  refine dJ (HP (m:=n) (d:=1) (by decide) hv (hM' _) (by omega) hcard) ?_
  rintro w ⟨e,he,hw⟩
  have hw:SlR NoP 0 .nil e w:=IT.sl (k:=0) hw .nil
  simp only[sz,simprocAttr,sf]
  exact ⟨e,w,he,hw,by simp[St,sx,h5]⟩
 clear h3 h5 f1
 rintro t df g3 ⟨rfl,rfl,e,w,he,hw,h5,h6,-⟩
 have hn:=bZ.2 hr
 have l1:=kJ he
 have r1:S.ay n e=0:=gy.2 ⟨hn,he⟩
 have hmb:=po hr e
 obtain ⟨M,hM⟩:=Int.eq_ofNat_of_zero_le hmb.1
 have hl5:=hdr.l.2
 have hMb:M<=3000000000:=by have:=Jd hr e;have:=GB hr hl5;omega
 have hb:SlR NoP 0 .nil n.nodes b:=hNb.tree (Nat.le_refl 0)
 have kM:∀g,ac C0 1 N.aN [.agg [.int .i64 n.grain,b],w] g=.val (.tup [.int .i64 (M:Int),.int .i64 0]):=fun g=>by
  have:=HF (d:=1) (g:=g) (n:=n) (by decide) (hM' _) (hw.tree (h':=g.h) (Nat.le_refl 0))
  rw[S.bu,if_pos r1,r1,hM] at this
  exact this
 refine bo (P:=fun t' df g'=>df=[]/\g'=g3/\∃lt,SlR NoP 0 .nil (S.aS n e) lt/\St t' [(5,.hptr 2 0 0 0),(6,w),(7,lt),(8,.int .i64 (S.aP n e))]) ?_ ?_
 ·simp only[sz,simprocAttr,h5,h6,f2,ld2]
  refine dJ (Kp (d:=1) (n:=n) (e:=e) (by decide) (hM' _) (hw.tree (Nat.le_refl 0))) ?_
  rintro _ ⟨z1,z2,rfl,⟨z,ez,hz1⟩,hz2⟩
  injection ez with ez
  subst ez
  rw[show z2=.int .i64 (S.aP n e) by have:=aC.1 hz2;injection this]
  simp only[sz,simprocAttr]
  exact ⟨z1,hz1.tree (Nat.le_refl 0),by simp[St,sx,h5,h6]⟩
 clear h5 h6
 rintro t df g4 ⟨rfl,hg,lt,hlt,h5,h6,h7,h8,-⟩
 rw[hg];clear hg
 refine bo (P:=fun t' df g'=>df=[]/\g'=g3/\St t' [(5,.hptr 2 0 0 0),(6,w),(7,lt),(8,.int .i64 (S.aP n e)),(9,.int .i64 (M:Int)),(10,.int .i64 0)]) ?_ ?_
 ·simp only[sz,simprocAttr,h5,h6,f2,ld2,kM]
  simp[St,sx,h5,h6,h7,h8]
 clear h5 h6 h7 h8
 rintro t df g4 ⟨rfl,hg,h5,h6,h7,h8,h9,h10,-⟩
 rw[hg];clear hg
 have c1:¬(M:Int)<0:=by omega
 refine d_ (P:=fun t' df g'=>df=[]/\g'=g3/\St t' [(5,.hptr 2 0 0 0),(6,w),(7,lt),(8,.int .i64 (S.aP n e)),(9,.int .i64 (M:Int))]) ?_ ?_
 ·simp only[sz,simprocAttr,h9,h10,c1]
  simp[St,sx,h5,h6,h7,h8,h9]
 clear h5 h6 h7 h8 h9 h10
 rintro t df g4 ⟨rfl,hg,h5,h6,h7,h8,h9,-⟩
 rw[hg];clear hg
 have ll:=hlt.len
 by_cases hz:M=0
 ·have e1:S.aP n e=7:=by rw[S.aP,if_pos r1,if_pos (by omega)]
  have e2:S.aS n e=[]:=by rw[S.aS,if_neg (by rw[e1];decide)]
  rw[e2] at ll
  rw[e1] at h8
  rw[hz] at h9
  have ll0:∀g,gB .slice lt g=.val (.int .i64 0):=ll
  simp only[sz,simprocAttr,h7,h8,h9,ll0]
 ·have e1:S.aP n e=0:=by rw[S.aP,if_pos r1,if_neg (by omega)]
  have e2:(S.aS n e).length=n.nodes.length:=by rw[S.aS,if_pos e1];simp
  rw[e2] at ll
  rw[e1] at h8
  have lb:=hb.len
  have ldf:ct (.cells 2 [[.int .i64 n.grain,b]] 0 false false) 0 0 false 1 1=.val b:=rfl
  have hM0:¬(M:Int)=0:=by omega
  refine d_ (P:=fun t' df g'=>df=[]/\g'=g3/\St t' [(5,.hptr 2 0 0 0),(6,w),(7,lt),(8,.int .i64 0),(9,.int .i64 (M:Int))]) ?_ ?_
  ·simp only[sz,simprocAttr,h9,hM0]
   simp[St,sx,h5,h6,h7,h8,h9]
  clear h5 h6 h7 h8 h9
  rintro t df g4 ⟨rfl,hg,h5,h6,h7,h8,h9,-⟩
  rw[hg];clear hg
  refine d_ (P:=fun t' df g'=>df=[]/\g'=g3/\St t' [(5,.hptr 2 0 0 0),(6,w),(7,lt),(9,.int .i64 (M:Int))]) ?_ ?_
  ·simp only[sz,simprocAttr,h5,h7,h8,ll,f2,ldf,lb]
   simp[St,sx,h5,h6,h7,h9]
  clear h5 h6 h7 h8 h9
  rintro t df g4 ⟨rfl,hg,h5,h6,h7,h9,-⟩
  rw[hg];clear hg
  simp only[sz,simprocAttr,h7,ll]
  refine Ml (n:=n) (e:=e) (b:=b) (w:=w) (lt:=lt) (M:=M) hM' hb hr hl5 he hw hM (by omega) hMb hlt (by simp[St,LOo,sx,h5,h6,h7,h9]) f2 (by omega) ?_
  intro t g'
  simp only[sz,simprocAttr,jD]
end
end Hx
end
section
namespace Hx
open Go Go.RowKit Go.ChangeShapes Go.WideShapes
def sN (P:Program):List Field->Nat->Option Nat
 | [],k=>some k
 | f::fs,k=>if f.offset=k then sN P fs (k+P.cellsOf f.type) else none
def sD (P:Program):Nat->TypeId->Bool
 | 0,_=>false
 | n+1,t=>match P.underlying t with
  | some .bool=>true
  | some (.int _)=>true
  | some (.slice e)=>decide (0<P.cellsOf e)&&sD P n e
  | some (.struct fs)=>(sN P fs.toList 0 == some (P.cellsOf t))&&fs.toList.all (fun f=>sD P n f.type)
  | some (.array m e)=>decide (m*P.cellsOf e=P.cellsOf t)&&sD P n e
  | _=>false
def Sh (P:Program):Nat->TypeId->List AV->Prop
 | 0,_,_=>False
 | n+1,t,xs=>match P.underlying t with
  | some .bool=>∃b,xs=[.bool b]
  | some (.int k)=>∃z,xs=[.int k z]/\(Lit.int k z).wf=true
  | some (.slice e)=>xs=[.nils]\/∃rows,xs=[.tsl 0 (P.cellsOf e) rows]/\rows.length<9223372036854775808/\∀row∈rows,Sh P n e row
  | some (.struct fs)=>∃xss,xs=xss.flatten/\All2 (fun (f:Field) ys=>Sh P n f.type ys) fs.toList xss
  | some (.array m e)=>∃xss:List (List AV),xs=xss.flatten/\xss.length=m/\∀ys∈xss,Sh P n e ys
  | _=>False
def Bv (P:Program)(w:World)(n:Nat)(t:TypeId)(xs:List AV)(cs:List Value):Prop :=
 RVs0 w xs cs/\(∀y∈xs,y.one=true/\Closed y)/\Sh P n t xs
theorem RVs0.append {w:World}{xs ys:List AV}{cs ds:List Value}(h:RVs0 w xs cs)(h':RVs0 w ys ds):RVs0 w (xs++ys) (cs++ds):=by
 refine ⟨by rw[List.length_append,List.length_append,h.1,h'.1],fun i x v hx hv=>?_⟩
 rcases Nat.lt_or_ge i xs.length with hi | hi
 ·rw[List.getElem?_append_left hi] at hx
  rw[List.getElem?_append_left (by rw[<-h.1];exact hi)] at hv
  exact h.2 i x v hx hv
 ·rw[List.getElem?_append_right hi] at hx
  rw[List.getElem?_append_right (by rw[<-h.1];exact hi),<-h.1] at hv
  exact h'.2 _ x v hx hv
theorem FI (b o n:Nat):(⟨b,o,none⟩:Addr).add n=adr b (o+n):=by
 unfold Addr.add
 split
 ·rename_i h;subst h;rfl
 ·rfl
variable {H:Type}{enc:TypeId×Value->H}{P:Program}{w:World}
theorem y7:∀{fl:List Field} {k K:Nat},sN P fl k=some K->k<=K
 | [],k,K,h=>by injection h with h;omega
 | f::fl,k,K,h=>by
  unfold sN at h
  split at h
  ·have:=y7 h;omega
  ·cases h
theorem HA {n:Nat}{cs:List Value}:∀{fl:List Field} {k K:Nat},sN P fl k=some K ->
  (∀f∈fl,∃xs,Bv P w n f.type xs ((cs.drop f.offset).take (P.cellsOf f.type))) ->
  ∃xss,All2 (fun (f:Field) ys=>Sh P n f.type ys) fl xss/\RVs0 w xss.flatten ((cs.drop k).take (K - k))/\∀y∈xss.flatten,y.one=true/\Closed y
 | [],k,K,h,_=>by
  injection h with h;subst h
  exact ⟨[],trivial,by rw[Nat.sub_self,List.take_zero];exact ⟨rfl,fun i x v hx=>by simp at hx⟩,fun y hy=>by simp at hy⟩
 | f::fl,k,K,h,hg=>by
  unfold sN at h
  split at h
  ·rename_i ho
   subst ho
   obtain ⟨xs,h1,h2,h3⟩:=hg f (by simp)
   obtain ⟨xss,a1,a2,a3⟩:=HA h fun f' hf'=>hg f' (by simp[hf'])
   have hle:=y7 h
   refine ⟨xs::xss,⟨h3,a1⟩,?_,fun y hy=>?_⟩
   ·have e:(cs.drop f.offset).take (K - f.offset)=(cs.drop f.offset).take (P.cellsOf f.type)++(cs.drop (f.offset+P.cellsOf f.type)).take (K - (f.offset+P.cellsOf f.type)):=by
     rw[show K - f.offset=P.cellsOf f.type+(K - (f.offset+P.cellsOf f.type)) by omega,List.take_add,List.drop_drop]
    rw[e,List.flatten_cons]
    exact h1.append a2
   ·rw[List.flatten_cons,List.mem_append] at hy
    rcases hy with hy | hy
    ·exact h2 y hy
    ·exact a3 y hy
  ·cases h
theorem Eh {n:Nat}{e:TypeId}{cs:List Value}:∀{m k:Nat},
  (∀i,i<m->∃xs,Bv P w n e xs ((cs.drop ((k+i)*P.cellsOf e)).take (P.cellsOf e))) ->
  ∃xss:List (List AV),xss.length=m/\(∀ys∈xss,Sh P n e ys)/\RVs0 w xss.flatten ((cs.drop (k*P.cellsOf e)).take (m*P.cellsOf e))/\∀y∈xss.flatten,y.one=true/\Closed y
 | 0,k,_=>⟨[],rfl,fun y hy=>by simp at hy,by rw[Nat.zero_mul,List.take_zero];exact ⟨rfl,fun i x v hx=>by simp at hx⟩,fun y hy=>by simp at hy⟩
 | m+1,k,hg=>by
  obtain ⟨xs,h1,h2,h3⟩:=hg 0 (by omega)
  rw[Nat.add_zero] at h1
  obtain ⟨xss,a0,a1,a2,a3⟩:=Eh (m:=m) (k:=k+1) fun i hi=>by
   have:=hg (i+1) (by omega)
   rwa [show k+(i+1)=k+1+i by omega] at this
  refine ⟨xs::xss,by simp[a0],fun ys hy=>?_,?_,fun y hy=>?_⟩
  ·rcases List.mem_cons.1 hy with rfl | hy
   ·exact h3
   ·exact a1 ys hy
  ·have e:(cs.drop (k*P.cellsOf e)).take ((m+1)*P.cellsOf e)=(cs.drop (k*P.cellsOf e)).take (P.cellsOf e)++(cs.drop ((k+1)*P.cellsOf e)).take (m*P.cellsOf e):=by
    rw[show (m+1)*P.cellsOf e=P.cellsOf e+m*P.cellsOf e by rw[Nat.add_mul];omega,List.take_add,List.drop_drop,Nat.add_mul,Nat.one_mul]
   rw[e,List.flatten_cons]
   exact h1.append a2
  ·rw[List.flatten_cons,List.mem_append] at hy
   rcases hy with hy | hy
   ·exact h2 y hy
   ·exact a3 y hy
theorem Jo:∀(n:Nat) (t:TypeId),sD P n t=true->∀(fuel:Nat) (cs:List Value) (x:DataW H×List MemPlace),DataW.trod enc P w 0 (fun _=>true) true fuel t cs=some x->∃xs,Bv P w n t xs cs:=by
 intro n
 induction n with
 | zero=>intro t h;simp[sD] at h
 | succ n ih =>
  intro t h fuel cs x hx
  unfold sD at h
  split at h
  ·rename_i hu
   obtain ⟨b,rfl,-⟩:=DataW.trod_bool hu hx
   refine ⟨[.bool b],⟨rfl,fun i x v h1 h2=>?_⟩,fun y hy=>?_,?_⟩
   ·cases i with
    | zero=>simp at h1 h2;subst h1;subst h2;exact .bool _ _
    | succ i=>simp at h1
   ·simp at hy;subst hy;exact ⟨rfl,.bool _⟩
   ·unfold Sh;rw[hu];exact ⟨b,rfl⟩
  ·rename_i k hu
   obtain ⟨z,rfl,-,hwf⟩:=DataW.trod_int hu hx
   refine ⟨[.int k z],⟨rfl,fun i x v h1 h2=>?_⟩,fun y hy=>?_,?_⟩
   ·cases i with
    | zero=>simp at h1 h2;subst h1;subst h2;exact .int _ _ _
    | succ i=>simp at h1
   ·simp at hy;subst hy;exact ⟨rfl,.int _ _⟩
   ·unfold Sh;rw[hu];exact ⟨z,rfl,hwf⟩
  ·rename_i e hu
   rw[Bool.and_eq_true,decide_eq_true_eq] at h
   obtain ⟨hpos,hp⟩:=h
   rcases DataW.trod_slice hu hx with ⟨rfl,-⟩ | ⟨a,len,cap,elems,rest,m,-,rfl,-,-,hlc,hcm,hlen,hel,-,-⟩
   ·refine ⟨[.nils],⟨rfl,fun i x v h1 h2=>?_⟩,fun y hy=>?_,?_⟩
    ·cases i with
     | zero=>simp at h1 h2;subst h1;subst h2;exact .nils _
     | succ i=>simp at h1
    ·simp at hy;subst hy;exact ⟨rfl,.nils⟩
    ·unfold Sh;rw[hu];exact .inl rfl
   ·have each:∀i,i<len->∃xs vs,w.cells? 0 (a.add (i*P.cellsOf e)) (P.cellsOf e)=some vs/\Bv P w n e xs vs:=by
     intro i hi
     have:=hel i hi
     rw[List.getElem?_eq_getElem (show i<elems.length by omega),Option.bind_eq_some_iff] at this
     obtain ⟨vs,h1,h2⟩:=this
     obtain ⟨xs,hg⟩:=ih e hp _ _ _ h2
     exact ⟨xs,vs,h1,hg⟩
    let rowf:Nat->List AV:=fun i=>if hi:i<len then Classical.choose (each i hi) else []
    let valf:Nat->List Value:=fun i=>if hi:i<len then Classical.choose (Classical.choose_spec (each i hi)) else []
    have hrow:∀i,i<len->w.cells? 0 (a.add (i*P.cellsOf e)) (P.cellsOf e)=some (valf i)/\Bv P w n e (rowf i) (valf i):=by
     intro i hi
     have:=Classical.choose_spec (Classical.choose_spec (each i hi))
     simpa only[rowf,valf,dif_pos hi] using this
    have hget:∀(i:Nat) (row:List AV),((List.range len).map rowf)[i]?=some row->i<len/\row=rowf i:=by
     intro i row h1
     rw[List.getElem?_map] at h1
     rcases Nat.lt_or_ge i len with hi | hi
     ·rw[List.getElem?_range hi] at h1
      injection h1 with h1
      exact ⟨hi,h1.symm⟩
     ·rw[List.getElem?_eq_none (by simpa using hi)] at h1;cases h1
    refine ⟨[.tsl 0 (P.cellsOf e) ((List.range len).map rowf)],⟨rfl,fun i x v h1 h2=>?_⟩,fun y hy=>?_,?_⟩
    ·cases i with
     | succ i=>simp at h1
     | zero =>
      simp at h1 h2;subst h1;subst h2
      rcases Nat.eq_zero_or_pos len with h0 | h0
      ·subst h0
       exact .tnil 0 0 _ a cap (Nat.le_refl _)
      ·obtain ⟨b,o,spot⟩:=a
       have hc0:=World.cells?_some (hrow 0 h0).1
       have hv0:(valf 0)[0]?=some (valf 0)[0]:=List.getElem?_eq_getElem (by rw[hc0.2.1];exact hpos)
       have h00:=hc0.2.2 0 hpos
       rw[hv0] at h00
       have hspot:spot=none:=by simpa [Addr.add] using World.cell?_spot h00
       subst hspot
       have cellat:∀i j row x,((List.range len).map rowf)[i]?=some row->row[j]?=some x->∃v,(valf i)[j]?=some v/\w.cell? (adr b (o+i*P.cellsOf e+j))=some v/\RV w gm0 av0 0 x v:=by
        intro i j row x hr hxj
        obtain ⟨hi,rfl⟩:=hget i row hr
        obtain ⟨q1,q2⟩:=hrow i hi
        have hj:j<(rowf i).length:=(List.getElem?_eq_some_iff.1 hxj).1
        have hj':j<(valf i).length:=by rw[<-q2.1.1];exact hj
        have hcs:=World.cells?_some q1
        have hcell:=hcs.2.2 j (by rw[<-hcs.2.1];exact hj')
        rw[List.getElem?_eq_getElem hj'] at hcell
        refine ⟨_,List.getElem?_eq_getElem hj',?_,q2.1.2 j x _ hxj (List.getElem?_eq_getElem hj')⟩
        rw[FI,show adr b (o+i*P.cellsOf e)=(⟨b,o+i*P.cellsOf e,none⟩:Addr) from rfl,FI] at hcell
        exact hcell
       have hb:b<w.heap.size:=by
        have:=DU h00
        simpa [Addr.add] using this
       have hrl:((List.range len).map rowf).length=len:=by simp
       have key:=RV.tsl (w:=w) (γ:=gm0) (A:=av0) 0 0 (P.cellsOf e) ((List.range len).map rowf) b o cap (fun i j=>(valf i)[j]?.getD undef) (Nat.le_refl _) (by rw[hrl];exact hlc) hb (MU b) (fun h=>h)
        (fun i row hr=>by
         obtain ⟨hi,rfl⟩:=hget i row hr
         obtain ⟨q1,q2⟩:=hrow i hi
         rw[q2.1.1,(World.cells?_some q1).2.1])
        (fun i j row x hr hxj=>by
         obtain ⟨hi,rfl⟩:=hget i row hr
         exact ((hrow i hi).2.2.1 x (List.mem_of_getElem? hxj)).1)
        (fun i j row x hr hxj=>by
         obtain ⟨v,v1,v2,v3⟩:=cellat i j row x hr hxj
         rw[v2,v1];rfl)
        (fun i j row x hr hxj=>by
         obtain ⟨v,v1,v2,v3⟩:=cellat i j row x hr hxj
         rw[v1];exact v3)
        (fun row hr x hx=>by
         obtain ⟨i,hi⟩:=List.getElem?_of_mem hr
         obtain ⟨hi2,rfl⟩:=hget i row hi
         exact ((hrow i hi2).2.2.1 x hx).2)
       rw[hrl] at key
       exact key
    ·simp only[List.mem_singleton] at hy;subst hy
     refine ⟨rfl,.tsl _ _ _ fun row hr x hx=>?_⟩
     obtain ⟨i,hi⟩:=List.getElem?_of_mem hr
     obtain ⟨hi2,rfl⟩:=hget i row hi
     exact ((hrow i hi2).2.2.1 x hx).2
    ·unfold Sh;rw[hu]
     refine .inr ⟨_,rfl,?_,fun row hr=>?_⟩
     ·rw[List.length_map,List.length_range]
      have:maxLen<9223372036854775808:=by decide
      omega
     ·obtain ⟨i,hi⟩:=List.getElem?_of_mem hr
      obtain ⟨hi2,rfl⟩:=hget i row hi
      exact (hrow i hi2).2.2.2
  ·rename_i fs hu
   rw[Bool.and_eq_true] at h
   obtain ⟨hc,hp⟩:=h
   have hc:sN P fs.toList 0=some (P.cellsOf t):=eq_of_beq hc
   obtain ⟨ys,m,-,-,hl,hyl,hel⟩:=DataW.trod_struct hu hx
   obtain ⟨xss,a1,a2,a3⟩:=HA (w:=w) (n:=n) (cs:=cs) hc fun f hf=>by
    obtain ⟨i,hi,e⟩:=List.mem_iff_getElem.1 hf
    have hfi:fs[i]?=some f:=by rw[<-Array.getElem?_toList,List.getElem?_eq_getElem hi,e]
    have:=hel i f hfi
    rw[List.getElem?_eq_getElem (show i<ys.length by rw[hyl];simpa using hi)] at this
    exact ih f.type (List.all_eq_true.1 hp f hf) _ _ _ this
   rw[List.drop_zero,Nat.sub_zero,<-hl,List.take_length] at a2
   refine ⟨xss.flatten,a2,a3,?_⟩
   unfold Sh;rw[hu];exact ⟨xss,rfl,a1⟩
  ·rename_i m e hu
   rw[Bool.and_eq_true,decide_eq_true_eq] at h
   obtain ⟨hc,hp⟩:=h
   obtain ⟨ys,q,-,-,hl,hyl,hel⟩:=DataW.trod_array hu hx
   obtain ⟨xss,a0,a1,a2,a3⟩:=Eh (w:=w) (n:=n) (e:=e) (cs:=cs) (m:=m) (k:=0) fun i hi=>by
    have:=hel i hi
    rw[List.getElem?_eq_getElem (show i<ys.length by omega)] at this
    rw[Nat.zero_add]
    exact ih e hp _ _ _ this
   rw[Nat.zero_mul,List.drop_zero,hc,<-hl,List.take_length] at a2
   refine ⟨xss.flatten,a2,a3,?_⟩
   unfold Sh;rw[hu];exact ⟨xss,rfl,a0,a1⟩
  ·cases h
theorem lP {n:Nat}{t:TypeId}{xs:List AV}(hu:P.underlying t=some (.int .u8))(h:Sh P n t xs):∃x:UInt8,Rp.rp NoP 0 .nil x xs:=by
 cases n with
 | zero=>exact h.elim
 | succ n =>
  unfold Sh at h;rw[hu] at h
  obtain ⟨z,rfl,hw⟩:=h
  simp only[Lit.wf,IntKind.min,IntKind.max,IntKind.signed,IntKind.bits,Bool.and_eq_true] at hw
  refine ⟨UInt8.ofNat z.toNat,f8.2 ?_⟩
  have h1:0<=z:=by simpa using hw.1
  have h2:z<=255:=by simpa using hw.2
  have h3:(UInt8.ofNat z.toNat).toNat=z.toNat:=UInt8.toNat_ofNat_of_lt' (by show z.toNat<256;omega)
  rw[h3,Int.toNat_of_nonneg h1]
theorem Ap {α:Type} [Rp α]{n:Nat}{t e:TypeId}{xs:List AV}(hu:P.underlying t=some (.slice e))(hsz:P.cellsOf e=Rp.sz α)(hel:∀ys,Sh P n e ys->∃y:α,Rp.rp NoP 0 .nil y ys)(h:Sh P (n+1) t xs) :
  ∃l:List α,Rp.rp NoP 0 .nil l xs:=by
 unfold Sh at h;rw[hu] at h
 rcases h with rfl | ⟨rows,rfl,hl,hr⟩
 ·exact ⟨[],.nils,rfl,by simp,rfl⟩
 ·have:∀rows:List (List AV),(∀row∈rows,Sh P n e row)->∃l:List α,All2 (Rp.rp NoP 0 .nil) l rows:=by
   intro rows
   induction rows with
   | nil=>intro _;exact ⟨[],trivial⟩
   | cons r rows ih =>
    intro h
    obtain ⟨y,hy⟩:=hel r (h r (by simp))
    obtain ⟨l,hl⟩:=ih fun row hrow=>h row (by simp[hrow])
    exact ⟨y::l,hy,hl⟩
  obtain ⟨l,ha⟩:=this rows hr
  exact ⟨l,_,rfl,by rw[ha.len];exact hl,Nat.le_refl _,.inl hsz,ha⟩
theorem Jc {n m:Nat}{t e:TypeId}{xs:List AV}(hu:P.underlying t=some (.array m e))(h:Sh P (n+1) t xs):∃xss:List (List AV),xs=xss.flatten/\xss.length=m/\∀ys∈xss,Sh P n e ys:=by
 unfold Sh at h;rw[hu] at h;exact h
theorem uz {n:Nat}{t:TypeId}{fs:Array Field}{xs:List AV}(hu:P.underlying t=some (.struct fs))(h:Sh P (n+1) t xs):∃xss,xs=xss.flatten/\All2 (fun (f:Field) ys=>Sh P n f.type ys) fs.toList xss:=by
 unfold Sh at h;rw[hu] at h;exact h
end Hx
end
