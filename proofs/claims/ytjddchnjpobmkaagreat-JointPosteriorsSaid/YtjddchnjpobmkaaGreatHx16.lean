/- A part of the proof: an interpreter over abstract values, shown right against the model, and what the functions of the chapter compute on it. -/
import Derived.KernelRfl
import Derived.Test.YtjddchnjpobmkaaGreatHx15
set_option linter.unusedVariables false
set_option linter.unusedSimpArgs false
set_option linter.unnecessarySimpa false
section
namespace Hx
open Go
noncomputable section
def Kp:VS:=fun P k h v=>∃m:Net,True/\Agg m P k h v
theorem Lc:Snb Kp 1:=i4 fun m=>bE _
theorem bk5 {d:Nat}{t:T}{g:G}{gr:Int}{nv:AV}{nds:List Node}(h3:tat t 3=.hptr 1 0 0 0)(h4:tat t 4=.hptr 2 0 0 0)(e1:g.h.get 1=.cells 2 [[.int .i64 gr,nv]] 0 false false)(e2:g.h.get 2=.cells 2 [[.int .i64 0,.nils]] 0 false false)
  (hn:SlR P3 0 g.h nds nv):wp C0 d none dT (fnQ C0 d [SR.cell true 2 4] fun v g'=>∃P,Kp P 0 g'.h v) t [] g:=by
 simp only[sz,simprocAttr,dT,h3,h4,e1,e2]
 refine ⟨P3,⟨gr,nds⟩,trivial,_,rfl,?_⟩
 exact Rp.mono (P:=P3) (h:=g.h) (dh.2 ⟨nv,rfl,hn⟩) (fun i hi=>⟨hi,by rw[aD _ _ _ (by have:3<=i:=hi;omega)]⟩) (Nat.le_refl _)
theorem bk6 {d K J:Nat}{L:List Node}{x:Node}{bx:jO}{gr Rw:Int}{t:T}{g:G}{V:Ky->AV}{E:Ky->En}{Q:QT}(hS:BS K J L x bx gr Rw t g V E)
  (last:tx (kB 4 (kS (wp C0 d none dT Q) Q))):wp C0 d none gq Q t [] g:=by
 have w8:bx.1.toNat<256:=bx.1.toNat_lt
 obtain ⟨h2,h3,h4,h10,h11,-⟩:=hS.st
 have mv:∀{t':T},St t' (LBS (V (0,0)) J Rw)->BS K J L x bx gr Rw t' g V E:=fun h=>hS.mv rfl (Nat.le_refl _) h
 simp only[sz,simprocAttr,gq,h2,hS.f0,u8v,fk .u8 (show (0:Int)<=(bx.1.toNat:Int) by omega) (show (0:Int)<12 by decide)]
 refine aT (fun hb=>?_) (fun hb=>?_)
 ·exact bc0 (mv (by simp[St,sx,h2,h3,h4,h10,h11])) last
 simp only[sz,simprocAttr]
 refine aT (fun hb=>?_) (fun hb=>?_)
 ·exact bc1 (mv (by simp[St,sx,h2,h3,h4,h10,h11])) last
 simp only[sz,simprocAttr]
 refine aT (fun hb=>?_) (fun hb=>?_)
 ·exact bc2 (mv (by simp[St,sx,h2,h3,h4,h10,h11])) last
 simp only[sz,simprocAttr]
 refine aT (fun hb=>?_) (fun hb=>?_)
 ·exact bc3 (mv (by simp[St,sx,h2,h3,h4,h10,h11])) last
 simp only[sz,simprocAttr]
 refine aT (fun hb=>?_) (fun hb=>?_)
 ·exact bc4 (mv (by simp[St,sx,h2,h3,h4,h10,h11])) last
 simp only[sz,simprocAttr]
 refine aT (fun hb=>?_) (fun hb=>?_)
 ·exact bc5 (mv (by simp[St,sx,h2,h3,h4,h10,h11])) last
 simp only[sz,simprocAttr]
 refine aT (fun hb=>?_) (fun hb=>?_)
 ·exact bc6 (mv (by simp[St,sx,h2,h3,h4,h10,h11])) last
 simp only[sz,simprocAttr]
 refine aT (fun hb=>?_) (fun hb=>?_)
 ·exact bc7 (mv (by simp[St,sx,h2,h3,h4,h10,h11])) last
 simp only[sz,simprocAttr]
 refine aT (fun hb=>?_) (fun hb=>?_)
 ·exact bc8 (mv (by simp[St,sx,h2,h3,h4,h10,h11])) last
 simp only[sz,simprocAttr]
 refine aT (fun hb=>?_) (fun hb=>?_)
 ·exact bc9 (mv (by simp[St,sx,h2,h3,h4,h10,h11])) last
 simp only[sz,simprocAttr]
 refine aT (fun hb=>?_) (fun hb=>?_)
 ·exact Nx (mv (by simp[St,sx,h2,h3,h4,h10,h11])) last
 exact NA (mv (by simp[St,sx,h2,h3,h4,h10,h11])) last
theorem bk7 {d K:Nat}{bx:jO}{gr:Int}{b:AV}{L:List Node}{t:T}{g:G}{V:Ky->AV}{E:Ky->En}(hK:K<=1000000)(hl:L.length<=K)
  (ht:St t [(2,.hptr 0 0 0 0),(3,.hptr 1 0 0 0),(4,.hptr 2 0 0 0)]) (h5:tat t 5=V (0,0)) (hH:Hp g 3 (LS L) V E) (hB:BBn g [u8v bx.1,u8v bx.2.1,u8v bx.2.2.1,.int .i64 bx.2.2.2] gr b) (hD:BLs K V E L) :
  wp C0 d none gu (fnQ C0 d [SR.cell true 2 4] fun v g'=>∃P,Kp P 0 g'.h v) t [] g:=by
 obtain ⟨h2,h3,h4,-⟩:=ht
 obtain ⟨b0,b1,b2⟩:=hB
 obtain ⟨rows,e1,e2,e3⟩:=hD.ns
 have o1:=hH.own LS.z e1
 have len1:=bO o1.rows
 rw[e2] at len1
 have hnx:=hH.nx
 unfold gu
 refine be (P:=fun t df g'=>df=[]/\Hp g' 3 (LS L) V E/\St t [(2,.hptr 0 0 0 0),(3,.hptr 1 0 0 0),(4,.hptr 2 0 0 0),(5,V (0,0))]/\g'.h.get 0=.cells 4 [[u8v bx.1,u8v bx.2.1,u8v bx.2.2.1,.int .i64 bx.2.2.2]] 0 false false/\g'.h.get 1=.cells 2 [[.int .i64 gr,V (0,0)]] 0 false false/\g'.h.get 2=.cells 2 [[.int .i64 0,.nils]] 0 false false) ?_ ?_
 ·simp only[sz,simprocAttr,h3,h5,b1,o1.cell.1,o1.cell.2]
  exact ⟨hH.step (by simp) fun i hi _=>by simp[H.get_put];omega,by simp[St,sx,h2,h3,h4,h5],by simp[b0],by simp[b2]⟩
 clear b0 b1 b2 h2 h3 h4 h5 hH o1 hnx
 rintro t df g1 hg
 obtain ⟨rfl,hH,⟨h2,h3,h4,h5,-⟩,f0,f1,f2⟩:=hg
 have o1:=hH.own LS.z e1
 have hsl:=hD.sl hH (by omega) (by omega)
 simp only[sz,simprocAttr,h5,len1]
 refine aT (fun hb=>?_) (fun hb=>?_)
 ·simp only[sz,simprocAttr,h3,h4,f1,f2]
  refine ⟨P3,⟨gr,L⟩,trivial,_,rfl,?_⟩
  exact Rp.mono (P:=P3) (h:=g1.h) (dh.2 ⟨_,rfl,hsl⟩) (fun i hi=>⟨hi,by rw[aD _ _ _ (by have:3<=i:=hi;omega)]⟩) (Nat.le_refl _)
 have hn0:0<L.length:=by have:=of_decide_eq_false hb;omega
 have at8:bx.2.1.toNat<256:=bx.2.1.toNat_lt
 have em:((bx.2.1.toNat:Int) % (L.length:Int))=((bx.2.1.toNat % L.length:Nat):Int):=by omega
 have hJ:bx.2.1.toNat % L.length<L.length:=Nat.mod_lt _ hn0
 obtain ⟨J,hJe⟩:∃J,J=bx.2.1.toNat % L.length:=⟨_,rfl⟩
 rw[<-hJe] at em hJ
 obtain ⟨x,hx⟩:∃x,L[J]?=some x:=⟨_,List.getElem?_eq_getElem hJ⟩
 have hJr:J<rows.length:=by omega
 have hrow:rows[J]?=some [.int .i64 x.card,V (J+1,0),V (J+1,1)]:=e3 J x hx
 have hry:iX (V (0,0))=true:=eX o1 (by omega)
 obtain ⟨rws,q1,q2,q3⟩:=(hD.nd J x hx).rs
 have hlen:=(hD.nd J x hx).len
 have o2:=hH.own (LS.s hx (by omega)) q1
 have len2:=bO o2.rows
 rw[q2] at len2
 rw[A3,tQ]
 refine be (P:=fun t df g'=>df=[]/\g'=g1/\St t [(2,.hptr 0 0 0 0),(3,.hptr 1 0 0 0),(4,.hptr 2 0 0 0),(10,jI 3 (V (0,0)) J 0)]) ?_ ?_
 ·simp only[sz,simprocAttr,h2,h3,h4,h5,f0,len1,u8v,aq (show -9223372036854775808<=(bx.2.1.toNat:Int) by omega) (show (bx.2.1.toNat:Int)<9223372036854775808 by omega),fk .i64 (show (0:Int)<=(bx.2.1.toNat:Int) by omega) (show 0<(L.length:Int) by omega),em,o1.rows,hJr,St]
 clear h2 h3 h4 h5
 rintro t df g' ⟨rfl,rfl,h2,h3,h4,h10,-⟩
 have r8:bx.2.2.1.toNat<256:=bx.2.2.1.toNat_lt
 refine be (P:=fun t df g''=>df=[]/\g''=g'/\St t (LBS (V (0,0)) J (-1))) ?_ ?_
 ·simp only[sz,simprocAttr,h2,h3,h4,h10,St]
 clear h2 h3 h4 h10
 rintro t df g'' ⟨rfl,rfl,h2,h3,h4,h10,h11,-⟩
 refine dU (P:=fun t df g3=>df=[]/\g3=g''/\∃Rw:Int,((Rw = -1/\x.rows.length=0)\/∃r:Nat,Rw=(r:Int)/\r<x.rows.length)/\St t (LBS (V (0,0)) J Rw)) ?_ ?_
 ·simp only[sz,simprocAttr,h10,bp hry,bA hry,o1.rows,hJr,hrow,len2]
  refine aT (fun hb=>?_) (fun hb=>?_)
  ·have hpos:0<x.rows.length:=by simpa using hb
   have em2:((bx.2.2.1.toNat:Int) % (x.rows.length:Int))=((bx.2.2.1.toNat % x.rows.length:Nat):Int):=by omega
   have hm:=Nat.mod_lt bx.2.2.1.toNat hpos
   simp only[sz,simprocAttr,h2,h10,f0,u8v,aq (show -9223372036854775808<=(bx.2.2.1.toNat:Int) by omega) (show (bx.2.2.1.toNat:Int)<9223372036854775808 by omega),bp hry,bA hry,o1.rows,hJr,hrow,len2,fk .i64 (show (0:Int)<=(bx.2.2.1.toNat:Int) by omega) (show 0<(x.rows.length:Int) by omega),em2]
   exact ⟨_,.inr ⟨_,rfl,hm⟩,by simp[St,sx,h2,h3,h4,h10]⟩
  ·have h0:x.rows.length=0:=by have:=of_decide_eq_false hb;omega
   simp only[sx,sy]
   exact ⟨-1,.inl ⟨rfl,h0⟩,by simp[St,sx,h2,h3,h4,h10,h11]⟩
 clear h2 h3 h4 h10 h11
 rintro t df g3 ⟨rfl,rfl,Rw,hR,ht⟩
 refine bk6 (K:=K) (L:=L) (x:=x) (bx:=bx) (gr:=gr) ⟨ht,hH,f0,f1,f2,hD,hx,hR,hK,hl⟩ ?_
 intro t g gr nv nds h3 h4 e1 e2 s1
 rw[Bf,tQ]
 exact bk5 h3 h4 e1 e2 s1
theorem KT {d K:Nat}{g:G}{x:jO}{m:Net}{v w:AV}(hd:0<d)(hx:Agg x NoP 0 g.h v)(hm:Agg m NoP 0 g.h w)(hK:K<=1000000)(hl:m.nodes.length<=K)
  (hb:∀y∈m.nodes,y.parents.length<=K/\y.rows.length<=K/\∀r∈y.rows,r.length<=K):∃r,ah C0 d N.a7 [v,w] g=.val r/\Kp NoP 0 .nil r:=by
 have e0:=fU d hx
 have e1:=fU d hm
 obtain ⟨cs,rfl,hc⟩:=hx
 have hc:=x_.1 hc
 subst hc
 obtain ⟨cs,rfl,hc⟩:=hm
 obtain ⟨b,rfl,hN⟩:=dh.1 hc
 rw[sB]
 refine aN uU (xs:=[.agg [u8v x.1,u8v x.2.1,u8v x.2.2.1,.int .i64 x.2.2.2],.agg [.int .i64 m.grain,b]]) (by simp only[aB,e0,e1]) (by simp[jr]) Lc (by decide) hd ?_
 clear e0 e1 hc
 have hN:=hN.tree (h':=.nil) (Nat.le_refl _)
 simp only[sz,simprocAttr,jr]
 obtain ⟨g0,hg0⟩:∃g0,g0=((G.empty.new (.cells 4 [[u8v x.1,u8v x.2.1,u8v x.2.2.1,.int .i64 x.2.2.2]] 0 false false)).new (.cells 2 [[.int .i64 m.grain,b]] 0 false false)).new (.cells 2 [[.int .i64 0,.nils]] 0 false false):=⟨_,rfl⟩
 rw[<-hg0]
 have f0:BBn g0 [u8v x.1,u8v x.2.1,u8v x.2.2.1,.int .i64 x.2.2.2] m.grain b:=by rw[hg0];exact ⟨by simp[sx,H.get_put],by simp[sx,H.get_put],by simp[sx]⟩
 have f3:g0.nx=3:=by rw[hg0];simp[sx]
 clear hg0
 have hH:Hp g0 3 (LS []) (fun _=>.nils) (fun k=>.sl 3 []):=⟨fun k _=>.inl ⟨rfl,rfl⟩,fun k l _ _ _ id h=>(by cases h),by omega⟩
 simp only[sz,simprocAttr,mw]
 refine Na (V:=fun _=>.nils) hK hN hl hb (by simp[St,sx]) (by simp[sx]) (by simp[sx]) hH f0 ⟨⟨[],rfl,rfl,fun i y hy=>by simp at hy⟩,fun i y hy=>by simp at hy⟩ ?_
 clear hH
 intro t g V E ht h5 hH hB hD
 simp only[sx,↓reduceIte]
 exact bk7 hK hl ht h5 hH hB hD
theorem Lz {d v:Nat}{g:G}{w:AV}{e:List Int}{x:Int}(hd:0<d)(he:SlR NoP 0 .nil e w)(hv:v<e.length)(hl:e.length<=1000) :
  ∃r,ah C0 d N.bj [w,.int .i64 (v:Int),.int .i64 x] g=.val r/\rI (One (e.set v x)) (One (decide (e[v]?.getD 0<0) || decide (e[v]?.getD 0=x))) NoP 0 .nil r:=by
 have e1:=cM (h:=g.h) d (he.tree (Nat.le_refl 0))
 have re:∀h,af h 1 w=some (e.map ci):=fun h=>(he.tree (h':=h) (Nat.le_refl 0):SlR NoP 0 h e w).ints
 have u1:v<(e.map ci).length:=by simpa using hv
 have u2:(e.map ci)[v]?=some (ci (e[v]?.getD 0)):=by rw[List.getElem?_map,List.getElem?_eq_getElem hv];rfl
 have hry:iX w=true:=ma (re .nil) u1
 rw[wH]
 refine aN ze (xs:=[w,.int .i64 (v:Int),.int .i64 x]) (by simp only[aB,e1,bG]) (by simp[oI]) (cG (m:=1) (aK _) (aK _) (by decide) (by decide)) (by decide) hd ?_
 simp only[sz,simprocAttr,oI]
 refine ba (b:=0) (rows:=[]) (new:=e.map ci) (.inl ⟨rfl,rfl⟩) (re _) (by simp) (by simp[aR];omega) fun u g1 hu n1 _ _ _=>?_
 have hu:Own g1 0 u 1 (e.map ci):=hu
 have ru:=hu.rows
 simp only[sz,simprocAttr,ru,u1]
 refine bu (v:=u) (sz:=1) (n:=1) (i:=v) (off:=0) (x:=.int .i64 x) (row':=ci x) hu u2 rfl rfl rfl fun g2 hu2 n2 f2=>?_
 rw[<-List.map_set] at hu2
 simp only[sz,simprocAttr,re,u1,u2,ci]
 have hres:One (e.set v x) (fun _=>True) 0 g2.h u:=hu2.ints (by simpa using (by omega:e.length<9223372036854775808))
 by_cases hc:e[v]?.getD 0<0
 ·simp only[sz,simprocAttr,hc]
  exact ⟨fun _=>True,_,_,rfl,hres,dq.2 (by simp)⟩
 ·simp only[sz,simprocAttr,hc,re,u1,u2,ci]
  exact ⟨fun _=>True,_,_,rfl,hres,dq.2 (by simp)⟩
theorem DG {d:Nat}{g:G}{v w:AV}{n:Net}{e:List Int}(hd:0<d)(hm:Agg n NoP 0 g.h v)(he:SlR NoP 0 .nil e w):ah C0 d N.an [v,w] g=.val (.int .i64 (S.an n e)):=by
 obtain ⟨b,rows,rfl,e1,hm',hN,r1,r2,r3,r4⟩:=cJ d hm
 have e2:=cM (h:=g.h) d (he.tree (Nat.le_refl 0))
 rw[sV]
 refine fF vg (xs:=[.agg [.int .i64 n.grain,b],w]) (by simp only[aB,e1,e2]) (by simp[jG]) hd ?_
 simp only[sz,simprocAttr,jG,mr]
 rw[GC (Nat.succ_pos d) (hm' _)]
 rw[S.an]
 cases hr:S.aA n with
 | false=>simp only[sz,simprocAttr,Bool.false_eq_true]
 | true =>
  simp only[sz,simprocAttr]
  rw[J5 (n:=n) (e:=e) (Nat.succ_pos d) (hm' _) (he.tree (k':=0) (Nat.le_refl 0):SlR NoP 0 _ e w)]
  cases S.aB n e<;>simp only[sz,simprocAttr,Bool.false_eq_true]
def S.bk (no:Int)(n:Net)(e:List Int):Int:=if no=0/\S.aC n e=0 then 7 else no
theorem wj {d:Nat}{g:G}{v w:AV}{n:Net}{e:List Int}{no:Int}(hd:0<d)(hm:Agg n NoP 0 g.h v)(he:SlR NoP 0 .nil e w)(h0:no=0->S.aA n=true/\S.aB n e=true):ah C0 d N.ae [.int .i64 no,v,w] g=.val (.int .i64 (S.bk no n e)):=by
 obtain ⟨b,rows,rfl,e1,hm',hN,r1,r2,r3,r4⟩:=cJ d hm
 have e2:=cM (h:=g.h) d (he.tree (Nat.le_refl 0))
 rw[rD]
 refine fF ue (xs:=[.int .i64 no,.agg [.int .i64 n.grain,b],w]) (by simp only[aB,e1,e2,bG]) (by simp[iV]) hd ?_
 simp only[sz,simprocAttr,iV,ku]
 by_cases hc:no=0
 ·obtain ⟨a1,a2⟩:=h0 hc
  subst hc
  simp only[sz,simprocAttr]
  rw[xe (n:=n) (e:=e) (Nat.succ_pos d) (hm' _) (di.1 a1) (he.tree (k':=0) (Nat.le_refl 0):SlR NoP 0 _ e w) (ub a2).1]
  by_cases hz:S.aC n e=0
  ·simp only[sz,simprocAttr,hz,S.bk,and_self]
  ·simp only[sz,simprocAttr,hz,S.bk,and_false]
 ·simp only[sz,simprocAttr,hc,S.bk,false_and]
def Np (raw:List Int):VS:=fun P k h v=>∃x:(Net×Net)×List Int,(Drafted x.1.1/\S.aB x.1.1 x.2=true)/\rI (Agg x.1) (Agg (raw.take 9,x.2)) P k h v
theorem lY {α:Type} [Rp α]{x:α}{P:Nat->Prop}{cs:List AV}(h:Rp.rp NoP 0 .nil x cs)(h':H):Agg x P 0 h' (.agg cs):=⟨_,rfl,Rp.tree h (Nat.le_refl _)⟩
theorem Jz {d:Nat}{g:G}{x:sX}{y:jO}{raw:List Int}{vs:List UInt8}{w:AV}{xs ys:List AV}(hd:0<d)(hx:Rp.rp NoP 0 .nil x xs)(hy:Rp.rp NoP 0 .nil y ys)(hw:SlR NoP 0 .nil raw w)(hraw:Raw w)(hv:vs.length=9) :
  ∃r,ah C0 d N.bJ [.agg xs,.agg ys,w,.agg (vs.map u8v)] g=.val r/\Np raw NoP 0 .nil r:=by
 have e1:=fU d (lY (P:=NoP) hx g.h)
 have e2:=fU d (lY (P:=NoP) hy g.h)
 have e3:=cM (h:=g.h) d (hw.tree (Nat.le_refl 0))
 obtain ⟨a1,a2,ex,-⟩:=uV.1 hx
 have hxl:xs.length=3:=by rw[ex];rfl
 have hyl:ys.length=4:=by rw[x_.1 hy];rfl
 clear ex a1 a2
 obtain ⟨A,hA⟩:∃A,A=vs.map u8v:=⟨_,rfl⟩
 have hAl:A.length=9:=by rw[hA,List.length_map,hv]
 have e4:Hx.snap g.h d aE (.agg A)=some (.agg A):=by rw[hA];exact C1 _ _ _
 rw[uZ,<-hA]
 refine aN wZ (xs:=[.agg xs,.agg ys,w,.agg A]) (by simp only[aB,e1,e2,e3,e4]) (by simp[mz]) (i4 fun o=>cG (m:=2) (bE _) (bE _) (by decide) (by decide)) (by decide) hd ?_
 simp only[sz,simprocAttr,mz]
 obtain ⟨g0,hg0⟩:∃g0,g0=((((G.empty.new (AObj.cells xs.length [xs] 0 false false)).new (AObj.cells ys.length [ys] 0 false false)).new (AObj.cells A.length [A] 0 false false)).new (.cells 4 [[.int .i64 0,.nils,.int .i64 0,.nils]] 0 false false)).new (.cells 2 [[.nils,.nils]] 0 false false):=⟨_,rfl⟩
 rw[<-hg0]
 have f0:g0.h.get 0=.cells 3 [xs] 0 false false:=by rw[hg0,hxl];simp[sx,H.get_put]
 have f1:g0.h.get 1=.cells 4 [ys] 0 false false:=by rw[hg0,hyl];simp[sx,H.get_put]
 have f2:g0.h.get 2=.cells 9 [A] 0 false false:=by rw[hg0,hAl];simp[sx,H.get_put]
 have f3:g0.h.get 3=.cells 4 [[.int .i64 0,.nils,.int .i64 0,.nils]] 0 false false:=by rw[hg0];simp[sx,H.get_put]
 have f4:g0.h.get 4=.cells 2 [[.nils,.nils]] 0 false false:=by rw[hg0];simp[sx]
 have f5:g0.nx=5:=by rw[hg0];simp[sx]
 clear hg0
 have ld0:fT (.cells 3 [xs] 0 false false) 0 0 true 3 0=.val (.agg xs):=by
  match xs,hxl with
  | [a,b,c],_=>rfl
 have ld1:fT (.cells 4 [ys] 0 false false) 0 0 true 4 0=.val (.agg ys):=by
  match ys,hyl with
  | [a,b,c,d],_=>rfl
 have ld2:fT (.cells 9 [A] 0 false false) 0 0 true 9 0=.val (.agg A):=by
  match A,hAl with
  | [a,b,c,d,e,f,g,h,i],_=>rfl
 obtain ⟨rn,en,n,hdr,cn,rfl,hcn⟩:=K1 (g:=g0) (d:=d+1) (Nat.succ_pos d) (lY (P:=NoP) hx g0.h)
 obtain ⟨b,rfl,hNb⟩:=dh.1 hcn
 unfold pj
 refine be (P:=fun t' df g'=>df=[]/\St t' [(2,w),(5,.hptr 1 0 0 0),(7,.hptr 2 0 0 0),(8,.hptr 3 0 0 0),(9,.hptr 4 0 0 0),(10,.hptr 5 0 0 0)]/\g'.nx=6/\g'.h.get 1=.cells 4 [ys] 0 false false/\g'.h.get 2=.cells 9 [A] 0 false false/\g'.h.get 3=.cells 4 [[.int .i64 0,.nils,.int .i64 0,.nils]] 0 false false/\g'.h.get 4=.cells 2 [[.nils,.nils]] 0 false false/\g'.h.get 5=.cells 2 [[.int .i64 n.grain,b]] 0 false false) ?_ ?_
 ·simp only[sz,simprocAttr,f0,ld0,en]
  simp[St,sx,f1,f2,f3,f4,f5]
 clear f0 f1 f2 f3 f4 f5 en ld0
 rintro t df g1 ⟨rfl,⟨h2,h5,h7,h8,h9,h10,-⟩,n1,f1,f2,f3,f4,f5⟩
 obtain ⟨w',hw1,hw2⟩:=M9 hw hraw 9
 have lw:=hw.len
 have hbd:∀y∈n.nodes,y.parents.length<=1000/\y.rows.length<=1000/\∀r∈y.rows,r.length<=1000:=hdr.b
 have hn5:=hdr.l
 have hcard:∀x∈n.nodes,0<x.card:=fun x hx=>by rcases hdr.c x hx with h | h<;>omega
 have mn9:min (raw.length:Int) 9=min (raw.length:Int) ((9:Nat):Int):=rfl
 simp only[sz,simprocAttr,sf,h5,h10,f1,f5,ld1,te]
 refine bi (KT (K:=1000) (Nat.succ_pos d) (lY (P:=NoP) hy _) (lY (P:=NoP) hcn _) (by decide) (by omega) hbd) ?_
 rintro r ⟨m,-,cm,rfl,hcm⟩
 obtain ⟨b2,rfl,hNm⟩:=dh.1 hcm
 have hw1':∀g,sP 1 w none (some (.int .i64 (min (raw.length:Int) 9))) g=.val w':=hw1
 simp only[sz,simprocAttr,sf,h2,h7,h10,f2,f5,ld2,lw,List.head?_nil,List.head?_cons,hw1']
 rw[hA]
 refine bi (IR (m:=n) (Nat.succ_pos d) hv (lY (P:=NoP) hcn _) (by omega) hcard) ?_
 rintro z ⟨ev,hev,hz⟩
 have hz:SlR NoP 0 .nil ev z:=IT.sl (k:=0) hz .nil
 have fw:eE [.nils,.nils] [((0,1),w'),((1,1),z)]=some [w',z]:=by
  simp[eE,hw2.cell,hz.cell,dQ]
  rfl
 simp only[sz,simprocAttr,sf,h8,h9,f3,f4,fw,rF]
 refine ⟨?_,?_⟩
 ·simp only[List.reverse_cons,List.reverse_nil,List.nil_append,List.cons_append]
  refine aO [false,false,false,false,false,false,false,false,false,false,false,false,false,false,true,true] [(5,14),(6,14),(7,14),(8,14),(9,14),(13,14)] (by simp[All2,an,ay]) (by decide) ?_
  rintro p hp' x y hx hy
  simp only[List.mem_cons,List.not_mem_nil,or_false] at hp'
  have rw0:=hw.refs
  rcases hp' with rfl | rfl | rfl | rfl | rfl | rfl<;>(simp at hx hy;subst hx;subst hy;refine cU rfl rfl rfl rfl ?_ ?_ ?_<;>simp[an,ay,Cr,E2,rw0])
 refine ⟨NoP,((n,m),ev),⟨hdr,hev⟩,_,_,rfl,⟨_,rfl,_,_,rfl,Rp.tree hcn (Nat.le_refl _),Rp.tree hcm (Nat.le_refl _)⟩,⟨_,rfl,[w'],[z],rfl,a8.2 ⟨_,rfl,hw2.tree (Nat.le_refl 0)⟩,a8.2 ⟨_,rfl,hz.tree (Nat.le_refl 0)⟩⟩⟩
def LR (q12 q13:Nat)(c50 i51 c54 i55:AV):List (Nat×AV):=[(12,.hptr q12 0 0 0),(13,.hptr q13 0 0 0),(50,c50),(51,i51),(54,c54),(55,i55)]
def MY (pm:List Nat)(ws:List (Bool×Bool)):Bool:=(List.range ws.length).all fun j=>(List.range j).all fun i=>!(ws.getD i (false,false)).2 || !(ws.getD j (false,false)).1 || (pm.getD j 0).testBit i
theorem vZ {pm:List Nat}{i:Nat}{x:Foot}:∀{r:List Foot} {j:Nat},(∀b y,r[b]?=some y->y.wr=[]\/(pm.getD (j+b) 0).testBit i=true)->bI pm i x j r=0
 | [],_,_=>rfl
 | y::r,j,h=>by
  have h0:=h 0 y rfl
  have ih:bI pm i x (Nat.succ j) r=0:=vZ fun b z hz=>by
   have:=h (b+1) z (by simpa using hz)
   rwa [show j+(b+1)=Nat.succ j+b by omega] at this
  have hc:((pm.getD j 0).testBit i || !meets y.wr (fst1 x.lk.sr))=true:=by
   rcases h0 with h0 | h0
   ·rw[h0];simp[meets]
   ·rw[Nat.add_zero] at h0;rw[h0,Bool.true_or]
  rw[bI,aa,if_pos hc,ih]
theorem zQ {pm:List Nat}:∀{l:List Foot} {i:Nat},(∀a x,l[a]?=some x->x.lk.sr=[]\/∀b y,a<b->l[b]?=some y->y.wr=[]\/(pm.getD (i+b) 0).testBit (i+a)=true)->fc pm i l=true
 | [],_,_=>rfl
 | x::r,i,h=>by
  have ih:fc pm (Nat.succ i) r=true:=zQ fun a y hy=>by
   rcases h (a+1) y (by simpa using hy) with h' | h'
   ·exact .inl h'
   ·refine .inr fun b z hb hz=>?_
    have:=h' (b+1) z (by omega) (by simpa using hz)
    rwa [show i+(b+1)=Nat.succ i+b by omega,show i+(a+1)=Nat.succ i+a by omega] at this
  rw[fc,ih]
  rcases h 0 x rfl with h' | h'
  ·rw[h'];first | done | rfl
  ·have hc:bI pm i x (Nat.succ i) r=0:=vZ fun b y hy=>by
    have:=h' (b+1) y (by omega) (by simpa using hy)
    rwa [show i+(b+1)=Nat.succ i+b by omega,Nat.add_zero] at this
   rw[hc]
   cases x.lk.sr<;>rfl
theorem CL {pm:List Nat}{fs:List Foot}(ws:List (Bool×Bool))(L:List (Nat×Nat))(hw:All2 (fun (f:Foot) (w:Bool×Bool)=>(w.2=false->f.lk.sr=[])/\(w.1=false->f.wr=[])) fs ws)(hs:MY pm ws=true)(hd:Bp pm (ws.map (·.1)) L=true)
  (hL:∀p∈L,∀x y,fs[p.1]?=some x->fs[p.2]?=some y->bz x y=true):gZ pm fs=true:=by
 unfold gZ
 rw[aa,if_pos]
 ·refine zQ fun a x ha=>?_
  obtain ⟨wa,hwa,ka⟩:=hw.get ha
  cases e:wa.2 with
  | false=>exact .inl (ka.1 e)
  | true =>
   refine .inr fun b y hab hb=>?_
   obtain ⟨wb,hwb,kb⟩:=hw.get hb
   have hbl:=(List.getElem?_eq_some_iff.1 hwb).1
   have:=List.all_eq_true.1 (List.all_eq_true.1 hs b (List.mem_range.2 hbl)) a (List.mem_range.2 hab)
   simp only[List.getD_eq_getElem?_getD,hwa,hwb,Option.getD_some,e,Bool.not_true,Bool.false_or,Bool.or_eq_true,Bool.not_eq_true'] at this
   rcases this with h | h
   ·exact .inl (kb.2 h)
   ·refine .inr ?_
    rw[Nat.zero_add,Nat.zero_add,List.getD_eq_getElem?_getD];exact h
 ·refine me fun a b x y hab ha hb=>?_
  simp only[Nat.zero_add]
  obtain ⟨wa,hwa,ka⟩:=hw.get ha
  obtain ⟨wb,hwb,kb⟩:=hw.get hb
  have hbl:=(List.getElem?_eq_some_iff.1 hwb).1
  have:=List.all_eq_true.1 (List.all_eq_true.1 hd b (List.mem_range.2 (by simpa using hbl))) a (List.mem_range.2 hab)
  simp only[AN,Bool.or_eq_true] at this
  rcases this with (h | h) | h
  ·rw[h,Bool.true_or]
  ·simp only[List.getD_eq_getElem?_getD,List.getElem?_map,hwa,hwb,Option.map_some,Option.getD_some,Bool.and_eq_true,Bool.not_eq_true'] at h
   have ex:=ka.2 h.1
   have ey:=kb.2 h.2
   simp only[bz,eH,dA,ex,ey,Bool.and_self,Bool.or_true]
  ·rw[hL (a,b) (List.contains_iff_mem.1 h) x y ha hb,Bool.or_true]
section
variable {α:Type} [DecidableEq α]
def mgt (L:List (α×Int))(k:α):Int:=match L with
 | []=>0
 | (a,v)::r=>if k=a then v else mgt r k
def mst (k:α)(v:Int):List (α×Int)->List (α×Int)
 | []=>[(k,v)]
 | (a,w)::r=>if k=a then (k,v)::r else (a,w)::mst k v r
theorem FI (k j:α)(v:Int):∀L:List (α×Int),mgt (mst k v L) j=if j=k then v else mgt L j
 | []=>by simp only[mst,mgt]
 | (a,w)::r=>by
  rw[mst]
  by_cases e:k=a
  ·subst e
   rw[if_pos rfl,mgt,mgt]
   by_cases e2:j=k
   ·rw[if_pos e2,if_pos e2]
   ·rw[if_neg e2,if_neg e2,if_neg e2]
  ·rw[if_neg e,mgt,FI k j v r,mgt]
   by_cases e2:j=a
   ·rw[if_pos e2,if_pos e2,if_neg (fun h=>e (by rw[<-h,e2]))]
   ·rw[if_neg e2,if_neg e2]
def mcl (kf:α->AV)(L:List (α×Int)):List (AV×AV):=L.map fun p=>(kf p.1,.int .i64 p.2)
theorem FD {kf:α->AV}(hk:∀a b,jp (kf a) (kf b)=some (decide (a=b)))(k:α):∀L:List (α×Int),jT (kf k) (mcl kf L)=some (if L.any (fun p=>decide (k=p.1)) then some (.int .i64 (mgt L k)) else none)
 | []=>rfl
 | (a,w)::r=>by
  rw[mcl,List.map_cons,jT,hk]
  by_cases e:k=a
  ·subst e;simp[mgt]
  ·have ih:=FD hk k r
   rw[mcl] at ih
   simp only[decide_eq_false e]
   rw[ih,List.any_cons,mgt,if_neg e,decide_eq_false e,Bool.false_or]
theorem CU (k:α):∀L:List (α×Int),L.any (fun p=>decide (k=p.1))=false->mgt L k=0
 | [],_=>rfl
 | (a,w)::r,h=>by
  rw[List.any_cons,Bool.or_eq_false_iff] at h
  rw[mgt,if_neg (of_decide_eq_false h.1),CU k r h.2]
theorem H8 {kf:α->AV}(hk:∀a b,jp (kf a) (kf b)=some (decide (a=b))){kk:KeyKind}{m k:T->AV}{t:T}{g:G}{id:Nat}{a:α}{L:List (α×Int)}(h1:m t=.hmap id)(h2:k t=kf a)(ho:jM kk (kf a)=true)(hg:g.h.get id=.map (mcl kf L)) :
  bY kk (.int .i64 0) false m k t g=.val (.int .i64 (mgt L a)):=by
 unfold bY
 rw[h1,h2,ho]
 simp only[G.get_eq,hg,FD hk]
 cases h:L.any (fun p=>decide (a=p.1)) with
 | true=>simp
 | false=>simp[CU a L h]
end
theorem D_ {C:Cfg}{ty kt et a b:Nat}{z:AV}{ok:Bool}(hu:C.P.underlying ty=some (.map kt et))(hz:qR C.P et=some z)(d:Nat)(rd:Option Nat)(t:T)(g:G):(SO.raw (.lookup ty (.tmp a) (.tmp b) ok)).run C d rd t g=bY (cw C.P kt) z ok (fun t=>tat t a) (fun t=>tat t b) t g:=by
 obtain ⟨s1,e1,r1⟩:=aV (C:=C) (x:=.tmp a) (o:=.t a) rfl
 obtain ⟨s2,e2,r2⟩:=aV (C:=C) (x:=.tmp b) (o:=.t b) rfl
 show (bK C _).run (I C) d rd t g=_
 rw[bB (s:=⟨bY (cw C.P kt) z ok s1.run s2.run⟩) rfl (by simp only[bV,e1,e2,hu,hz])]
 rw[show s1.run=fun t=>tat t a from funext r1,show s2.run=fun t=>tat t b from funext r2]
theorem vv {C:Cfg}{ty a b:Nat}(t:T)(g:G):SO.foot C t g (.raw (.lookup ty (.tmp a) (.tmp b) false))=⟨[],(ak (tat t a)).map (·,ty),[],false⟩:=by
 obtain ⟨s1,e1,r1⟩:=aV (C:=C) (x:=.tmp a) (o:=.t a) rfl
 show (aH C _).run t g=_
 simp only[aH,e1,r1]
 rfl
theorem H5:qR C0.P 3=some (.int .i64 0):=by kernel_rfl
end
end Hx
end
section
namespace Hx
open Go
set_option maxRecDepth 100000
noncomputable section
def dN:SC:=.ops [o 8 (.alloc [.int .i64 0,.int .i64 0,.nils]),oz (.store 3 (.t 8) (.t 15))]
def bQ:SC:=sQ [o 24 (.bin .lss (.t 23) (.t 22))] (.seq (.cond (.t 24) (.skip) (.exit 2)) (.seq (.blk 3 (sQ [oM 25 23,oX 26 21 23,oL 27 26,oM 9 25,oM 10 27] (.feet [0,0,0,6,15,0,32,127,111,367,1023] [oL 28 6,oM 29 9,oM 30 10,o 31 (.build [.int .i64 0,.int .i64 0] [(0,1),(1,1)] [.t 29,.t 30]),o 32 (.raw (.lookup 165 (.tmp 28) (.tmp 31) false)),oF 33 1 8,oL 34 33,o 35 (.bin .add (.t 32) (.t 34)),o 36 (.raw (.mapEntry 165 (.tmp 28) (.tmp 31))),o 37 (.ext (.t 36) 1),oz (.raw (.entryStore 165 (.tmp 28) (.tmp 37) (.tmp 35)))]))) (.ops [oA 38 23,oM 23 38])))
def dH:SC:=.blk 1 (sQ [oL 16 7,oF 17 1 8,oL 18 17,o 19 (.bin .add (.t 16) (.t 18)),oz (.store 1 (.t 7) (.t 19))] (sQ [oF 20 2 8,oL 21 20,oN 22 21,oK 23 0] (.blk 2 (.loop bQ))))
def bS:SC:=.seq (sQ [oL 39 7,o 40 (.bin .eql (.t 39) (qI 0))] (.cond (.t 40) (sQ [o 4 (.mv (.k (.nilf))),oK 5 7] (.ret)) (.skip))) (sQ [o 41 (.mkf N.aH [] [.t 2,.t 6,.t 7]),oM 4 41,oK 5 0] (.ret))
def dR:SC:=sQ [o 11 (.raw (.makeMap 165 none)),o 6 (.alloc [.nilm]),o 7 (.alloc [.int .i64 0]),oz (.store 1 (.t 6) (.t 11)),oz (.store 1 (.t 7) (qI 0))] (.seq (sQ [o 12 (.load true 4 (.t 2)),oM 13 1,o 14 (.call N.aL [.t 12,.t 13])] (.blk 0 (.rng 42 (.t 14) [15] dN dH))) bS)
def cp:SF:=⟨42,[.tm 4,.tm 5],sQ [o 2 (.box (.t 0)),o 4 (.mv (.k (.nilf))),oK 5 0] dR⟩
def da:SC:=sQ [o 22 (.bin .lss (.t 21) (.t 20))] (.seq (.cond (.t 22) (.skip) (.exit 0)) (.seq (.blk 1 (sQ [oM 23 21,oM 8 23] (.seq (.feet [0,0,0,6,15,0,63,127,255,255,0,1535,4095] [oL 25 2,oM 26 0,oM 27 8,o 28 (.build [.int .i64 0,.int .i64 0] [(0,1),(1,1)] [.t 26,.t 27]),o 29 (.raw (.lookup 165 (.tmp 25) (.tmp 28) false)),oL 30 3,o 31 (.call N.au [.t 29,.t 30]),oM 24 31,o 32 (.ext (.t 24) 0),o 33 (.ext (.t 24) 1),o 9 (.alloc [.int .i64 0,.int .i64 0]),oz (.store 2 (.t 9) (.t 32)),oM 10 33]) (.seq (sQ [oM 34 10,o 35 (.bin .neq (.t 34) (qI 0))] (.cond (.t 35) (sQ [oM 36 10,o 5 (.mv (.k (.nils))),oM 6 36] (.ret)) (.skip))) (.ops [oM 37 7,oM 38 8,o 39 (.load true 2 (.t 9)),o 40 (.ixs 2 (.t 37) (.t 38)),oz (.store 2 (.t 40) (.t 39))]))))) (.ops [oA 41 21,oM 21 41])))
def cW:SC:=sQ [oM 42 7,oM 5 42,oK 6 0] (.ret)
def bX:SF:=⟨43,[.tm 5,.tm 6],sQ [o 5 (.mv (.k (.nils))),oK 6 0] (sQ [oF 11 0 1,oF 12 1 11,oL 13 12,oM 14 0,o 15 (.ixs 3 (.t 13) (.t 14)),oF 16 0 15,oL 17 16,o 18 (.mks 2 16 [.int .i64 0,.int .i64 0] (.t 17) (.t 17)),oM 7 18] (.seq (sQ [oM 19 7,oN 20 19,oK 21 0] (.blk 0 (.loop da))) cW))⟩
theorem jy:nFn C0 N.aM=some cp:=by kernel_rfl
theorem iC (d:Nat)(xs:List AV)(g:G):ah C0 d N.aM xs g=orF ((I C0).call d N.aM xs g):=by kernel_rfl
theorem iU:nFn C0 N.aH=some bX:=by kernel_rfl
section
variable {α:Type} [DecidableEq α]
def mix (k:α):List (α×Int)->Nat
 | []=>0
 | (a,_)::r=>if k=a then 0 else mix k r+1
def wG (k:α):List (α×Int)->List (α×Int)
 | []=>[(k,0)]
 | (a,w)::r=>if k=a then (a,w)::r else (a,w)::wG k r
theorem FA (k:α):∀L:List (α×Int),(wG k L)[mix k L]?=some (k,mgt L k)
 | []=>rfl
 | (a,w)::r=>by
  rw[wG,mix,mgt]
  by_cases e:k=a
  ·subst e;simp
  ·simp[e,FA k r]
theorem B_ (k:α)(x:Int):∀L:List (α×Int),(wG k L).set (mix k L) (k,x)=mst k x L
 | []=>rfl
 | (a,w)::r=>by
  rw[wG,mix,mst]
  by_cases e:k=a
  ·subst e;simp
  ·simp[e,B_ k x r]
theorem Gg (k:α):∀L:List (α×Int),L.any (fun p=>decide (k=p.1))=true->wG k L=L
 | [],h=>by cases h
 | (a,w)::r,h=>by
  rw[wG]
  by_cases e:k=a
  ·rw[if_pos e]
  ·rw[if_neg e,Gg k r (by simpa [e] using h)]
theorem CM (k:α):∀L:List (α×Int),L.any (fun p=>decide (k=p.1))=false->wG k L=L++[(k,0)]/\mix k L=L.length
 | [],_=>⟨rfl,rfl⟩
 | (a,w)::r,h=>by
  rw[List.any_cons,Bool.or_eq_false_iff] at h
  have e:=of_decide_eq_false h.1
  obtain ⟨h1,h2⟩:=CM k r h.2
  rw[wG,mix,if_neg e,if_neg e,h1,h2]
  exact ⟨rfl,rfl⟩
theorem xX {kf:α->AV}(hk:∀a b,jp (kf a) (kf b)=some (decide (a=b)))(k:α):∀(L:List (α×Int)) (s:Nat),fD (kf k) s (mcl kf L)=some (if L.any (fun p=>decide (k=p.1)) then some (s+mix k L,.int .i64 (mgt L k)) else none)
 | [],s=>rfl
 | (a,w)::r,s=>by
  rw[mcl,List.map_cons,fD,hk]
  by_cases e:k=a
  ·subst e;simp[mgt,mix]
  ·have ih:=xX hk k r (Nat.succ s)
   rw[mcl] at ih
   simp only[decide_eq_false e]
   rw[ih,List.any_cons,mgt,if_neg e,decide_eq_false e,Bool.false_or,mix,if_neg e,show Nat.succ s+mix k r=s+(mix k r+1) by omega]
end
theorem JZ {α:Type}{kf:α->AV}{m st x:T->AV}{t:T}{g:G}{id i:Nat}{a:α}{y v:Int}{L:List (α×Int)}(h1:m t=.hmap id)(h2:st t=.int .i64 (i:Int))(h3:x t=.int .i64 v)(hg:g.h.get id=.map (mcl kf L))(hi:L[i]?=some (a,y)) :
  cy m st x t g=.upd .undef (g.put id (.map (mcl kf (L.set i (a,v))))):=by
 have e:uD i (mcl kf L)=some (kf a,.int .i64 y):=by rw[c_,mcl,List.getElem?_map,hi];rfl
 have e2:zg i (kf a,AV.int .i64 v) (mcl kf L)=mcl kf (L.set i (a,v)):=by rw[gf,mcl,mcl,List.map_set]
 unfold cy
 simp only[h1,h2,h3,G.get_eq,hg]
 show (match uD i (mcl kf L) with | some (k,_)=>OR.upd .undef (g.put id (.map (zg i (k,AV.int .i64 v) (mcl kf L)))) | none=>.fail)=_
 rw[e]
 show OR.upd .undef (g.put id (.map (zg i (kf a,AV.int .i64 v) (mcl kf L))))=_
 rw[e2]
def pk (a:Int×Int):AV:=.agg [.int .i64 a.1,.int .i64 a.2]
theorem JF (a b:Int×Int):jp (pk a) (pk b)=some (decide (a=b)):=by
 show (match lR (.int .i64 a.1) (.int .i64 b.1),dk [.int .i64 a.2] [.int .i64 b.2] with | some x,some y=>some (au x y false) | _,_=>none)=_
 show some (au (AR a.1 b.1) (au (AR a.2 b.2) true false) false)=_
 rw[mi,mi]
 obtain ⟨a1,a2⟩:=a
 obtain ⟨b1,b2⟩:=b
 by_cases h1:a1=b1<;>by_cases h2:a2=b2<;>simp[h1,h2,au]
def ktP:Nat:=match C0.P.underlying 165 with | some (.map k _)=>k | _=>0
theorem EL:C0.P.underlying 165=some (.map ktP 3):=by kernel_rfl
theorem HP (a:Int×Int):jM (cw C0.P ktP) (pk a)=true:=by
 have e:cw C0.P ktP=.flat [.int .i64,.int .i64]:=by kernel_rfl
 rw[e];rfl
theorem Gz (d:Nat)(rd:Option Nat)(t:T)(g:G):(bK C0 (.makeMap 165 none)).run (I C0) d rd t g=.upd (.hmap g.nx) (g.new (.map [])):=by kernel_rfl
theorem z_ {C:Cfg}{ty kt et a b:Nat}{z:AV}(hu:C.P.underlying ty=some (.map kt et))(hz:qR C.P et=some z)(d:Nat)(rd:Option Nat)(t:T)(g:G):(bK C (.mapEntry ty (.tmp a) (.tmp b))).run (I C) d rd t g=cD (cw C.P kt) z (fun t=>tat t a) (fun t=>tat t b) t g:=by
 obtain ⟨s1,e1,r1⟩:=aV (C:=C) (x:=.tmp a) (o:=.t a) rfl
 obtain ⟨s2,e2,r2⟩:=aV (C:=C) (x:=.tmp b) (o:=.t b) rfl
 rw[bB (s:=⟨cD (cw C.P kt) z s1.run s2.run⟩) rfl (by simp only[bV,e1,e2,hu,hz])]
 rw[show s1.run=fun t=>tat t a from funext r1,show s2.run=fun t=>tat t b from funext r2]
theorem DX {C:Cfg}{ty a b c:Nat}(d:Nat)(rd:Option Nat)(t:T)(g:G):(bK C (.entryStore ty (.tmp a) (.tmp b) (.tmp c))).run (I C) d rd t g=cy (fun t=>tat t a) (fun t=>tat t b) (fun t=>tat t c) t g:=by
 obtain ⟨s1,e1,r1⟩:=aV (C:=C) (x:=.tmp a) (o:=.t a) rfl
 obtain ⟨s2,e2,r2⟩:=aV (C:=C) (x:=.tmp b) (o:=.t b) rfl
 obtain ⟨s3,e3,r3⟩:=aV (C:=C) (x:=.tmp c) (o:=.t c) rfl
 rw[bB (s:=⟨cy s1.run s2.run s3.run⟩) rfl (by simp only[bV,e1,e2,e3])]
 rw[show s1.run=fun t=>tat t a from funext r1,show s2.run=fun t=>tat t b from funext r2,show s3.run=fun t=>tat t c from funext r3]
theorem CO {C:Cfg}{ty a b:Nat}(t:T)(g:G):SO.foot C t g (.raw (.mapEntry ty (.tmp a) (.tmp b)))=⟨ak (tat t a),[],(ak (tat t a)).map (·,ty),false⟩:=by
 obtain ⟨s1,e1,r1⟩:=aV (C:=C) (x:=.tmp a) (o:=.t a) rfl
 show (aH C _).run t g=_
 simp only[aH,e1,r1]
 rfl
theorem AH {C:Cfg}{ty a b c:Nat}(t:T)(g:G):SO.foot C t g (.raw (.entryStore ty (.tmp a) (.tmp b) (.tmp c)))=an (ak (tat t a)):=by
 obtain ⟨s1,e1,r1⟩:=aV (C:=C) (x:=.tmp a) (o:=.t a) rfl
 show (aH C _).run t g=_
 simp only[aH,e1,r1]
 rfl
theorem F9 {d:Nat}{rd:Option Nat}{t:T}{g:G}{a b id:Nat}{k:Int×Int}{L:List ((Int×Int)×Int)}(h1:tat t a=.hmap id)(h2:tat t b=pk k)(hg:g.h.get id=.map (mcl pk L)):(bK C0 (.lookup 165 (.tmp a) (.tmp b) false)).run (I C0) d rd t g=.val (.int .i64 (mgt L k)):=by
 have:=D_ (C:=C0) (a:=a) (b:=b) (ok:=false) EL H5 d rd t g
 rw[show (SO.raw (.lookup 165 (.tmp a) (.tmp b) false)).run C0 d rd t g=(bK C0 (.lookup 165 (.tmp a) (.tmp b) false)).run (I C0) d rd t g from rfl] at this
 rw[this]
 exact H8 JF h1 h2 (HP k) hg
theorem I5 {d:Nat}{rd:Option Nat}{a b id:Nat}{k:Int×Int}(L:List ((Int×Int)×Int)) :
  (∀(t:T) (g:G),tat t a=.hmap id->tat t b=pk k->g.h.get id=.map (mcl pk L)->(bK C0 (.mapEntry 165 (.tmp a) (.tmp b))).run (I C0) d rd t g=.val (.tup [.int .i64 (mgt L k),.int .i64 (mix k L:Int)]))/\wG k L=L \/
  (∀(t:T) (g:G),tat t a=.hmap id->tat t b=pk k->g.h.get id=.map (mcl pk L)->(bK C0 (.mapEntry 165 (.tmp a) (.tmp b))).run (I C0) d rd t g=.upd (.tup [.int .i64 0,.int .i64 (mix k L:Int)]) (g.put id (.map (mcl pk (wG k L))))):=by
 cases h:L.any (fun p=>decide (k=p.1)) with
 | true =>
  refine .inl ⟨fun t g h1 h2 hg=>?_,Gg k L h⟩
  rw[z_ EL H5]
  unfold cD
  simp only[h1,h2,HP,G.get_eq,hg,xX JF,h]
  simp
 | false =>
  obtain ⟨e1,e2⟩:=CM k L h
  refine .inr fun t g h1 h2 hg=>?_
  rw[z_ EL H5,e1,e2]
  unfold cD
  simp only[h1,h2,HP,G.get_eq,hg,xX JF,h]
  simp[mcl,au,aw]
theorem Hf {d:Nat}{rd:Option Nat}{t:T}{g:G}{a b c id i:Nat}{k:Int×Int}{y x:Int}{L:List ((Int×Int)×Int)}(h1:tat t a=.hmap id)(h2:tat t b=.int .i64 (i:Int))(h3:tat t c=.int .i64 x)(hg:g.h.get id=.map (mcl pk L))(hi:L[i]?=some (k,y)):(bK C0 (.entryStore 165 (.tmp a) (.tmp b) (.tmp c))).run (I C0) d rd t g=.upd .undef (g.put id (.map (mcl pk (L.set i (k,x))))):=by
 rw[DX]
 exact JZ (kf:=pk) h1 h2 h3 hg hi
def S.pq (n:Net)(e:List Int)(v:Nat)(x:Int)(w:Nat):Bool:=S.pe n e w&&decide ((S.ak (S.aa n) (w:Int))[v]?=some x)
def S.aq (n:Net)(e:List Int)(v:Nat):List QI:=(List.range ((S.aa n)[v]?.getD 0).toNat).map fun x:Nat=>S.aG (S.am n (S.pq n e v (x:Int)) (S.ax n)).toNat (S.aC n e).toNat
theorem Lx {n:Net}{e:List Int}{v:Nat}{x:Int}(hv:v<e.length)(hl:e.length=n.nodes.length)(hx:0<=x) :
  S.am n (S.pq n e v x) (S.ax n)=if (decide (e[v]?.getD 0<0) || decide (e[v]?.getD 0=x))=true then S.aC n (e.set v x) else 0:=by
 have hvals:∀w:Nat,(S.ak (S.aa n) (w:Int)).length=n.nodes.length:=fun w=>by rw[oG,aL]
 split
 ·rename_i hc
  rw[yT]
  refine xF fun w _=>?_
  obtain ⟨vals,hvs⟩:∃vals,vals=S.ak (S.aa n) (w:Int):=⟨_,rfl⟩
  have hvl:v<vals.length:=by rw[hvs,hvals];omega
  rw[S.pq,S.pe,S.pe,<-hvs,Bool.eq_iff_iff,Bool.and_eq_true,decide_eq_true_eq,A8,A8,List.getElem?_eq_getElem hvl,Option.some.injEq]
  simp only[Bool.or_eq_true,decide_eq_true_eq] at hc
  constructor
  ·rintro ⟨h1,h2⟩ i hi
   rw[List.length_set] at hi
   by_cases hiv:v=i
   ·subst hiv
    rw[List.getElem?_set_self hv,List.getElem?_eq_getElem hvl,h2];simp
   ·rw[List.getElem?_set_ne hiv];exact h1 i hi
  ·intro h
   have h0:=h v (by simpa using hv)
   rw[List.getElem?_set_self hv,List.getElem?_eq_getElem hvl] at h0
   simp only[Option.getD_some] at h0
   have hx2:vals[v]=x:=by omega
   refine ⟨fun i hi=>?_,hx2⟩
   by_cases hiv:v=i
   ·subst hiv
    rw[List.getElem?_eq_getElem hvl,Option.getD_some,hx2]
    exact hc
   ·have:=h i (by simpa using hi)
    rwa [List.getElem?_set_ne hiv] at this
 ·rename_i hc
  have:∀j,S.am n (S.pq n e v x) j=0:=fun j=>by
   induction j with
   | zero=>rfl
   | succ j ih =>
    rw[S.am,ih,if_neg,Int.add_zero]
    intro hp
    rw[S.pq,S.pe,Bool.and_eq_true,A8,decide_eq_true_eq] at hp
    have h1:=hp.1 v hv
    rw[hp.2,Option.getD_some] at h1
    exact hc (by simpa using h1)
  exact this _
end
end Hx
end
section
namespace Hx
open Go
noncomputable section
def S.wt (n:Net)(w:Nat):Int:=S.aX n (S.ak (S.aa n) (w:Int))
structure BeJ (g0:G) (w m b:Int) (h:H):Prop where
 fr:∀i,i<g0.nx->i≠1->i≠5->i≠6->h.get i=g0.h.get i
 h1:h.get 1=.cells 1 [[.int .i64 w]] 0 false false
 h5:h.get 5=.cells 1 [[.int .i64 m]] 0 false false
 h6:h.get 6=.cells 1 [[.int .i64 b]] 0 false false
theorem wk {pm:List Nat}{fs:List Foot}(ws:List Bool)(L:List (Nat×Nat))(hw:All2 (fun (f:Foot) (w:Bool)=>w=false->f.wr=[]) fs ws)(hs:fc pm 0 fs=true)(hd:Bp pm ws L=true)
  (hL:∀p∈L,∀x y,fs[p.1]?=some x->fs[p.2]?=some y->bz x y=true):gZ pm fs=true:=by
 unfold gZ
 rw[aa,if_pos]
 ·exact hs
 ·refine me fun a b x y hab ha hb=>?_
  simp only[Nat.zero_add]
  obtain ⟨wa,hwa,ka⟩:=hw.get ha
  obtain ⟨wb,hwb,kb⟩:=hw.get hb
  have hbl:=(List.getElem?_eq_some_iff.1 hwb).1
  have:=List.all_eq_true.1 (List.all_eq_true.1 hd b (List.mem_range.2 hbl)) a (List.mem_range.2 hab)
  simp only[AN,Bool.or_eq_true] at this
  rcases this with (h | h) | h
  ·rw[h,Bool.true_or]
  ·simp only[List.getD_eq_getElem?_getD,hwa,hwb,Option.getD_some,Bool.and_eq_true,Bool.not_eq_true'] at h
   have ex:=ka h.1
   have ey:=kb h.2
   simp only[bz,eH,dA,ex,ey,Bool.and_self,Bool.or_true]
  ·rw[hL (a,b) (List.contains_iff_mem.1 h) x y ha hb,Bool.or_true]
structure PoM (n:Net) (e vals:List Int) (j k m:Nat) (h:H):Prop where
 hm:∃L:List ((Int×Int)×Int),h.get m=.map (mcl pk L)/\∀(v:Nat) (x:Int),mgt L ((v:Int),x)=S.am n (S.pq n e v x) j+if v<k/\vals[v]?=some x then S.wt n j else 0
structure PoK (g0:G) (m:Nat) (g:G):Prop where
 nx:g0.nx<=g.nx
 fr:∀i,i≠m->i<g0.nx->g.h.get i=g0.h.get i
set_option maxRecDepth 20000 in
theorem KZ {d lo pm pw m j:Nat}{rd:Option Nat}{n:Net}{e vals:List Int}{u:AV}{Q:QT}{t:T}{g0:G}(hr:NR n)(hpe:S.pe n e j=true)(hvals:vals=S.ak (S.aa n) (j:Int))(hj:j<1024)
  (hu:SlR (fun i=>lo<=i/\i<g0.nx) 0 g0.h vals u) (hlo:m<lo) (hp:pm≠m/\pm<g0.nx) (hw:pw≠m/\pw<g0.nx)
  (k6:g0.h.get pm=.cells 1 [[.hmap m]] 0 false false) (k8:g0.h.get pw=.cells 3 [[.int .i64 (j:Int),.int .i64 (S.wt n j),u]] 0 false false)
  (h0:PoM n e vals j 0 m g0.h) (h6:tat t 6=.hptr pm 0 0 0) (h8:tat t 8=.hptr pw 0 0 0) (h21:tat t 21=u) (h22:tat t 22=.int .i64 (vals.length:Int)) (h23:tat t 23=.int .i64 0)
  (fin:∀t g,PoK g0 m g->PoM n e vals j vals.length m g.h->Q (.exit 2) t [] g):wpL (wp C0 d rd bQ) Q t [] g0:=by
 have hvl:vals.length<=8:=by rw[hvals,oG,aL];exact hr.l2
 have hru:∀g,PoK g0 m g->af g.h 1 u=some (vals.map ci):=fun g hk=>(hu.wd fun i hi=>⟨hi,hk.fr i (by omega) hi.2⟩:SlR (fun i=>lo<=i/\i<g0.nx) 0 g.h vals u).ints
 simp only[bQ]
 refine bk (m:=vals.length) (by omega) (fun k t df g=>df=[]/\St t [(6,.hptr pm 0 0 0),(8,.hptr pw 0 0 0),(21,u)]/\PoK g0 m g/\PoM n e vals j k m g.h) ⟨rfl,⟨h6,h8,h21,trivial⟩,⟨Nat.le_refl _,fun _ _ _=>rfl⟩,h0⟩ h23 h22 (by decide)
  (by rintro k t df g v s (rfl | rfl | rfl) ⟨a1,⟨b1,b2,b3,-⟩,a3⟩<;>exact ⟨a1,by simp[St,sx,b1,b2,b3],a3⟩) ?_ ?_
 ·clear h6 h8 h21 h22 h23 h0
  rintro k t df g hk ⟨rfl,⟨h6,h8,h21,-⟩,hK,L,l1,l2⟩ h23 h22
  have ru:=hru g hK
  obtain ⟨x,hx,-,-⟩:=ae hk
  have u1:k<(vals.map ci).length:=by simpa using hk
  have u2:(vals.map ci)[k]?=some (ci x):=by rw[List.getElem?_map,hx];rfl
  have hry:iX u=true:=ma ru u1
  refine be (P:=fun t' df g'=>df=[]/\g'=g/\St t' [(9,.int .i64 (k:Int)),(10,.int .i64 x),(6,.hptr pm 0 0 0),(8,.hptr pw 0 0 0),(21,u),(22,.int .i64 (vals.length:Int)),(23,.int .i64 (k:Int))]) ?_ ?_
  ·simp only[sz,simprocAttr,h21,h23,ru,u1,u2,ci]
   simp[St,sx,h6,h8,h21,h22,h23]
  clear h6 h8 h21 h22 h23
  rintro t df g' ⟨rfl,rfl,h9,h10,h6,h8,h21,h22,h23,-⟩
  obtain ⟨K,hKd⟩:∃K:Int×Int,K=((k:Int),x):=⟨_,rfl⟩
  have hb:=Fj hr (p:=S.pq n e k x) (j:=j+1) (by omega)
  have hpq:S.pq n e k x j=true:=by rw[S.pq,hpe,<-hvals,hx];simp
  have hmK:mgt L K=S.am n (S.pq n e k x) j:=by rw[hKd,l2];simp
  have hs:S.am n (S.pq n e k x) (j+1)=mgt L K+S.wt n j:=by rw[S.am,hpq,hmK];simp[S.wt]
  have w1:IntKind.wrap .i64 (mgt L K+S.wt n j)=mgt L K+S.wt n j:=by rw[<-hs,aq (by omega) (by omega)]
  have g6:g'.h.get pm=.cells 1 [[.hmap m]] 0 false false:=by rw[hK.fr pm hp.1 hp.2,k6]
  have g8:g'.h.get pw=.cells 3 [[.int .i64 (j:Int),.int .i64 (S.wt n j),u]] 0 false false:=by rw[hK.fr pw hw.1 hw.2,k8]
  have epk:AV.agg [.int .i64 (k:Int),.int .i64 x]=pk K:=by rw[hKd];rfl
  have hbd:∀a b:Int,sC [.int .i64 0,.int .i64 0] [(0,1),(1,1)] [.int .i64 a,.int .i64 b]=.val (.agg [.int .i64 a,.int .i64 b]):=fun a b=>rfl
  have lk:∀(t:T) (g:G),tat t 28=.hmap m->tat t 31=pk K->g.h.get m=.map (mcl pk L)->(bK C0 (.lookup 165 (.tmp 28) (.tmp 31) false)).run (I C0) d rd t g=.val (.int .i64 (mgt L K)):=fun t g a b c=>F9 a b c
  have es:∀(t:T) (g:G),tat t 28=.hmap m->tat t 37=.int .i64 (mix K L:Int)->tat t 35=.int .i64 (mgt L K+S.wt n j)->g.h.get m=.map (mcl pk (wG K L))->(bK C0 (.entryStore 165 (.tmp 28) (.tmp 37) (.tmp 35))).run (I C0) d rd t g=.upd .undef (g.put m (.map (mcl pk (mst K (mgt L K+S.wt n j) L)))):=fun t g a b c e=>by rw[Hf a b c e (FA K L),B_]
  have res:∀(v:Nat) (y:Int),mgt (mst K (mgt L K+S.wt n j) L) ((v:Int),y)=S.am n (S.pq n e v y) j+if v<k+1/\vals[v]?=some y then S.wt n j else 0:=fun v y=>by
   rw[FI]
   by_cases hvy:((v:Int),y)=K
   ·rw[if_pos hvy]
    rw[hKd] at hvy
    injection hvy with e1 e2
    have e1:v=k:=by omega
    subst e1 e2
    rw[hmK,if_pos ⟨by omega,hx⟩]
   ·rw[if_neg hvy,l2]
    congr 1
    have:(v<k+1/\vals[v]?=some y)↔(v<k/\vals[v]?=some y):=by
     constructor
     ·rintro ⟨h1,h2⟩
      refine ⟨?_,h2⟩
      by_cases hvk:v=k
      ·subst hvk
       rw[hx] at h2
       injection h2 with h2
       exact absurd (by rw[hKd,h2]) hvy
      ·omega
     ·rintro ⟨h1,h2⟩;exact ⟨by omega,h2⟩
    simp only[this]
  have hnx:=hK.nx
  rcases I5 (d:=d) (rd:=rd) (a:=28) (b:=31) (id:=m) (k:=K) L with ⟨en,em⟩ | en
  ·rw[em] at es
   simp only[sz,simprocAttr,sf,h6,h8,h9,h10,g6,g8,hbd,epk,lk,l1,w1,en,es,vv,CO,AH]
   refine ⟨?_,⟨by simp[St,sx,h6,h8,h21],⟨by simp;omega,fun i h1 h2=>by simp[H.get_put,h1];exact hK.fr i h1 h2⟩,_,by simp[H.get_put],res⟩,h23,h22⟩
   simp only[List.reverse_cons,List.reverse_nil,List.nil_append,List.cons_append]
   exact CL [(false,false),(false,false),(false,false),(false,false),(false,true),(false,false),(false,false),(false,false),(false,false),(false,false),(true,false)] [] (by simp[All2,an,ay]) (by decide) (by decide) (by simp)
  ·simp only[sz,simprocAttr,sf,h6,h8,h9,h10,g6,g8,hbd,epk,lk,l1,w1,en,es,vv,CO,AH]
   refine ⟨?_,⟨by simp[St,sx,h6,h8,h21],⟨by simp;omega,fun i h1 h2=>by simp[H.get_put,h1];exact hK.fr i h1 h2⟩,_,by simp[H.get_put],res⟩,h23,h22⟩
   simp only[List.reverse_cons,List.reverse_nil,List.nil_append,List.cons_append]
   refine wk [false,false,false,false,false,false,false,false,true,false,true] [(4,8),(7,8)] (by simp[All2,an,ay]) ?_ (by decide) ?_
   ·simp[fc,bI,meets,fst1,an,ay,ak,au]
    rfl
   ·rintro q hq x y hx hy
    simp only[List.mem_cons,List.not_mem_nil,or_false] at hq
    rcases hq with rfl | rfl<;>(simp at hx hy;subst hx;subst hy;simp[bz,eH,dA,meets,fst1,xr,ak,au,ay,an])
 ·rintro t df g ⟨rfl,-,hK,hM⟩
  exact fin t g hK hM
structure PoH (n:Net) (e:List Int) (cs:List AV) (p pm pq m lo:Nat) (g:G):Prop where
 kp:g.h.get p=.cells 4 [cs] 0 false false
 km:g.h.get pm=.cells 1 [[.hmap m]] 0 false false
 kq:g.h.get pq=.cells 1 [[.int .i64 (S.aC n e)]] 0 false false
 hm:∃L:List ((Int×Int)×Int),g.h.get m=.map (mcl pk L)/\∀(v:Nat) (x:Int),mgt L ((v:Int),x)=S.am n (S.pq n e v x) (S.ax n)
 lo:lo<=p/\lo<=pm/\lo<=pq/\lo<=m
 hi:p<g.nx/\pm<g.nx/\pq<g.nx/\m<g.nx
theorem PoH.step {n:Net}{e:List Int}{cs:List AV}{p pm pq m lo:Nat}{g g':G}(h:PoH n e cs p pm pq m lo g)(f:Fr g g'):PoH n e cs p pm pq m lo g':=by
 obtain ⟨a1,a2,a3,⟨L,a4,a5⟩,a6,b1,b2,b3,b4⟩:=h
 have:=f.1
 exact ⟨by rw[f.2 _ b1,a1],by rw[f.2 _ b2,a2],by rw[f.2 _ b3,a3],⟨L,by rw[f.2 _ b4,a4],a5⟩,a6,by omega,by omega,by omega,by omega⟩
structure PoJ (g1:G) (n:Net) (e:List Int) (m pq j:Nat) (h:H):Prop where
 fr:∀i,i<g1.nx->i≠m->i≠pq->h.get i=g1.h.get i
 kq:h.get pq=.cells 1 [[.int .i64 (S.am n (S.pe n e) j)]] 0 false false
 hm:PoM n e [] j 0 m h
set_option maxRecDepth 20000 in
theorem rP {d:Nat}{g:G}{w b fl S_:AV}{n:Net}{y:QnM}{e:List Int}{K:AV->G->Prop}{D:ADf->Prop}(hd:0<d)(hr:NR n)(hc:Rp.rp NoP 0 .nil y [.int .i64 n.grain,b,fl,S_])(hq:QnOk n y)(he:SlR NoP 0 .nil e w)(hev:S.aB n e=true)
  (k0:S.aC n e=0->∀g',Fr g g'->K (.tup [.nilf,.int .i64 7]) g')
  (k1:S.aC n e≠0->∀g' p pm pq m,Fr g g'->PoH n e [.int .i64 n.grain,b,fl,S_] p pm pq m g.nx g'->K (.tup [.clo N.aH [] [.hptr p 0 0 0,.hptr pm 0 0 0,.hptr pq 0 0 0],.int .i64 0]) g') :
  (ah C0 d N.aM [.agg [.int .i64 n.grain,b,fl,S_],w] g).sat K g D:=by
 obtain ⟨el,ege⟩:=ub hev
 obtain ⟨W1,W2,W3⟩:=hr.wl
 rw[iC]
 refine tN jy (by simp[cp]) ?_
 have hst:∀(g:G) (i m:Nat),nY (.cells 1 [[.nilm]] 0 false false) g i 0 0 1 0 (.hmap m)=.upd .undef (g.put i (.cells 1 [[.hmap m]] 0 false false)):=fun g i m=>rfl
 have w0:∀(d:Nat) (rd:Option Nat) (t:T) (g:G),(bK C0 (.makeMap 165 none)).run (I C0) d rd t g=.upd (.hmap g.nx) (g.new (.map [])):=Gz
 simp only[sz,simprocAttr,cp]
 unfold dR
 refine be (P:=fun t' df g'=>df=[]/\g'.nx=g.nx+4/\(∀i,i<g.nx->g'.h.get i=g.h.get i)/\g'.h.get g.nx=.cells 4 [[.int .i64 n.grain,b,fl,S_]] 0 false false/\g'.h.get (g.nx+1)=.map []/\g'.h.get (g.nx+2)=.cells 1 [[.hmap (g.nx+1)]] 0 false false/\g'.h.get (g.nx+3)=.cells 1 [[.int .i64 0]] 0 false false/\St t' [(1,w),(2,.hptr g.nx 0 0 0),(6,.hptr (g.nx+2) 0 0 0),(7,.hptr (g.nx+3) 0 0 0)]) ?_ ?_
 ·simp only[sz,simprocAttr,w0,hst,show ¬g.nx=g.nx+1 by omega,show ¬g.nx+1=g.nx by omega]
  refine ⟨fun i hi=>?_,?_⟩
  ·rw[if_neg (by omega),if_neg (by omega),if_neg (by omega),if_neg (by omega),if_neg (by omega),if_neg (by omega)]
  ·simp[St,sx,show ¬g.nx=g.nx+2 by omega,show ¬g.nx=g.nx+1+1+1 by omega]
 rintro t df g1 ⟨rfl,n1,f1,kp,km,k2,k3,h1,h2,h6,h7,-⟩
 obtain ⟨cs,z,ez,hcs',hz⟩:=CS (d:=d) (g:=g1) (y:=y) (e:=e) (v:=.agg [.int .i64 n.grain,b,fl,S_]) (w:=w) hd ⟨_,rfl,Rp.tree hc (Nat.le_refl 0)⟩ (he.tree (Nat.le_refl 0))
 rw[ej]
 simp only[sz,simprocAttr,h1,h2,kp,ez]
 refine GN (n:=n) (y:=y) (e:=e) (cs:=cs) (w:=z) hd hr hq hcs' hz (by omega) (by simp[sx]) (by decide)
  (fun j h=>PoJ g1 n e (g.nx+1) (g.nx+3) j h) (fun _=>False) (fun j h h' hh hg=>⟨fun i h1 h2 h3=>by rw[hh i h1,hg.fr i h1 h2 h3],by rw[hh _ (by omega),hg.kq],by obtain ⟨L,l1,l2⟩:=hg.hm;exact ⟨L,by rw[hh _ (by omega),l1],l2⟩⟩) (fun _ _ _ h=>h) ⟨fun _ _ _ _=>rfl,k3,[],km,fun v x=>by simp[mgt,S.am]⟩ ?_ ?_ ?_ (fun _ h=>h.elim)
 ·intro j h hj hmt hg
  have hp:S.pe n e j=false:=by rw[S.pe,<-LV ege];exact hmt
  obtain ⟨L,l1,l2⟩:=hg.hm
  refine ⟨hg.fr,by rw[hg.kq,S.am,hp];simp,L,l1,fun v x=>?_⟩
  rw[l2,S.am,S.pq,hp];simp
 ·intro j u g2 hj hmt hg hn hu
  have hp:S.pe n e j=true:=by rw[S.pe,<-LV ege];exact hmt
  have hb:=Fj hr (p:=S.pe n e) (j:=j+1) (by omega)
  have hs:S.am n (S.pe n e) (j+1)=S.am n (S.pe n e) j+S.wt n j:=by rw[S.am,hp];simp[S.wt]
  have w1:IntKind.wrap .i64 (S.am n (S.pe n e) j+S.wt n j)=S.am n (S.pe n e) (j+1):=by rw[<-hs,aq (by omega) (by omega)]
  obtain ⟨vals,hvals⟩:∃vals,vals=S.ak (S.aa n) (j:Int):=⟨_,rfl⟩
  rw[<-hvals] at hu
  simp only[sz,simprocAttr,dN]
  refine ⟨Me _ _ _,?_⟩
  intro g3 n3 f3
  have j8:g3.h.get g2.nx=.cells 3 [[.int .i64 (j:Int),.int .i64 (S.wt n j),u]] 0 false false:=by rw[f3 _ (by omega),if_pos rfl];rfl
  have jo:∀i,i<g1.nx->g3.h.get i=g2.h.get i:=fun i hi=>by rw[f3 i (by omega),if_neg (by omega),if_neg (by omega)]
  have j7:g3.h.get (g.nx+3)=.cells 1 [[.int .i64 (S.am n (S.pe n e) j)]] 0 false false:=by rw[jo _ (by omega),hg.kq]
  have j6:g3.h.get (g.nx+2)=.cells 1 [[.hmap (g.nx+1)]] 0 false false:=by rw[jo _ (by omega),hg.fr _ (by omega) (by omega) (by omega),k2]
  have hu3:SlR (fun i=>g1.nx+2<=i/\i<g3.nx) 0 g3.h vals u:=hu.wd fun i hi=>⟨⟨hi.1,by rw[n3];omega⟩,by rw[f3 i (by omega),if_neg (by omega),if_neg (by omega)]⟩
  simp only[dH]
  rw[sM]
  refine be (P:=fun t' df g'=>df=[]/\g'=g3.put (g.nx+3) (.cells 1 [[.int .i64 (S.am n (S.pe n e) (j+1))]] 0 false false)/\St t' [(6,.hptr (g.nx+2) 0 0 0),(8,.hptr g2.nx 0 0 0)]) ?_ ?_
  ·simp only[sz,simprocAttr,h7,j8,j7,w1]
   simp[St,sx,h6]
  rintro t df g4 ⟨rfl,rfl,h6,h8,-⟩
  have q8:(g3.put (g.nx+3) (.cells 1 [[.int .i64 (S.am n (S.pe n e) (j+1))]] 0 false false)).h.get g2.nx=.cells 3 [[.int .i64 (j:Int),.int .i64 (S.wt n j),u]] 0 false false:=by simp[H.get_put,show ¬g2.nx=g.nx+3 by omega];exact j8
  have hu4:SlR (fun i=>g1.nx+2<=i/\i<g3.nx) 0 (g3.put (g.nx+3) (.cells 1 [[.int .i64 (S.am n (S.pe n e) (j+1))]] 0 false false)).h vals u:=hu3.wd fun i hi=>⟨hi,by simp[H.get_put,show ¬i=g.nx+3 by omega]⟩
  have lu:=hu4.len
  simp only[sz,simprocAttr,h8,q8,lu,show ¬g2.nx=g.nx+3 by omega,j8]
  refine KZ (lo:=g1.nx+2) (pm:=g.nx+2) (pw:=g2.nx) (m:=g.nx+1) (j:=j) (n:=n) (e:=e) (vals:=vals) (u:=u) hr hp hvals (by omega) (hu4.wd fun i hi=>⟨⟨hi.1,by simpa using hi.2⟩,rfl⟩) (by omega) ⟨by omega,by simp;omega⟩ ⟨by omega,by rw[G.put_nx,n3];simp⟩ (by simp[H.get_put,j6]) q8 ?_ (by simp[sx,h6]) (by simp[sx,h8]) (by simp[sx]) (by simp[sx]) (by simp[sx]) ?_
  ·obtain ⟨L,l1,l2⟩:=hg.hm
   refine ⟨L,by simp[H.get_put];rw[jo _ (by omega),l1],fun v x=>?_⟩
   rw[l2];simp
  ·rintro t g5 hK ⟨L,l1,l2⟩
   simp only[fG,if_true]
   have hnx5:g3.nx<=g5.nx:=by simpa using hK.nx
   refine ⟨rfl,by omega,fun i h1 h2=>?_,.inl ⟨rfl,fun i h1 h2 h3=>?_,?_,L,l1,fun v x=>?_⟩⟩
   ·rw[hK.fr i (by omega) (by simpa using h2)];simp[H.get_put,show ¬i=g.nx+3 by omega]
   ·rw[hK.fr i h2 (by simp;omega)];simp[H.get_put,h3];rw[jo i h1,hg.fr i h1 h2 h3]
   ·rw[hK.fr _ (by omega) (by simp;omega)];simp[H.get_put]
   ·rw[l2,S.am,S.pq,hp,<-hvals]
    simp only[Bool.true_and,decide_eq_true_eq,Nat.not_lt_zero,false_and,if_false,Int.add_zero]
    congr 1
    by_cases hx:vals[v]?=some x
    ·have hl:=(List.getElem?_eq_some_iff.1 hx).1
     rw[if_pos ⟨hl,hx⟩,if_pos hx,hvals];rfl
    ·rw[if_neg fun h=>hx h.2,if_neg hx]
 ·intro g' hg hn hdf
  have f':Fr g (g'.put g1.nx (.dfr false)):=⟨by simp;omega,fun i hi=>by simp[H.get_put,show ¬i=g1.nx by omega];rw[hg.fr i (by omega) (by omega) (by omega),f1 i hi]⟩
  by_cases hz0:S.aC n e=0
  ·have kq:=hg.kq
   rw[<-yT,hz0] at kq
   simp only[sz,simprocAttr,bS,h7,kq]
   refine nG hdf ?_
   simp only[sx,↓reduceIte]
   exact k0 hz0 _ f'
  ·have kq:=hg.kq
   rw[<-yT] at kq
   simp only[sz,simprocAttr,bS,h7,kq,hz0,h2,h6]
   refine nG hdf ?_
   simp only[sx,↓reduceIte]
   obtain ⟨L,l1,l2⟩:=hg.hm
   refine k1 hz0 _ g.nx (g.nx+2) (g.nx+3) (g.nx+1) f' ⟨?_,?_,?_,⟨L,?_,fun v x=>by rw[l2];simp⟩,⟨by omega,by omega,by omega,by omega⟩,by simp;omega⟩
   ·simp[H.get_put,show ¬g.nx=g1.nx by omega];rw[hg.fr _ (by omega) (by omega) (by omega),kp]
   ·simp[H.get_put,show ¬g.nx+2=g1.nx by omega];rw[hg.fr _ (by omega) (by omega) (by omega),k2]
   ·simp[H.get_put,show ¬g.nx+3=g1.nx by omega];exact kq
   ·simp[H.get_put,show ¬g.nx+1=g1.nx by omega];exact l1
def cq (q:QI):List AV:=[.int .i64 q.1,.int .i64 q.2]
theorem Ej (d:Nat)(a b c v:AV)(g:G):gJ C0 (I C0) d (.clo N.aH [] [a,b,c]) [v] g=orF ((I C0).call d N.aH [v,a,b,c] g):=by kernel_rfl
theorem vD (n:Net)(e:List Int)(v:Nat):(S.aq n e v).length=((S.aa n)[v]?.getD 0).toNat:=by simp[S.aq]
theorem Cd {n:Net}{e:List Int}{v k:Nat}(h:k<((S.aa n)[v]?.getD 0).toNat):(S.aq n e v)[k]?=some (S.aG (S.am n (S.pq n e v (k:Int)) (S.ax n)).toNat (S.aC n e).toNat):=by simp[S.aq,h]
set_option maxRecDepth 20000 in
theorem De {d v p pm pq m lo:Nat}{g:G}{b fl S_:AV}{n:Net}{e:List Int}{K:AV->G->Prop}{D:ADf->Prop}(hd:0<d)(hr:NR n)(hN:SlR NoP 0 .nil n.nodes b)(hP:PoH n e [.int .i64 n.grain,b,fl,S_] p pm pq m lo g)(hv:v<n.nodes.length)(hz0:S.aC n e≠0)
  (kk:∀U g',Own g' g.nx U 2 ((S.aq n e v).map cq)->Fr g g'->K (.tup [U,.int .i64 0]) g') :
  (gJ C0 (I C0) d (.clo N.aH [] [.hptr p 0 0 0,.hptr pm 0 0 0,.hptr pq 0 0 0]) [.int .i64 (v:Int)] g).sat K g D:=by
 obtain ⟨rows,r1,r2,r3,r4⟩:=hN.all
 have r1:∀h',af h' 3 b=some rows:=r1
 obtain ⟨W1,W2,W3⟩:=hr.wl
 obtain ⟨x,hx,-,hmem⟩:=ae hv
 obtain ⟨row,q1,q2⟩:=r3 v x hx
 obtain ⟨fa,fb,rfl,-⟩:=bM.1 q2
 have hlt:v<rows.length:=by omega
 have hryb:=r4 (by omega)
 have hcard:=hr.card x hmem
 obtain ⟨c,hc⟩:∃c:Nat,x.card=(c:Int):=Int.eq_ofNat_of_zero_le (by omega)
 have hcv:((S.aa n)[v]?.getD 0).toNat=c:=by simp[S.aa,hx,hc]
 have hb0:=wc hr e
 have hlen:(S.aq n e v).length=c:=by rw[vD,hcv]
 rw[Ej]
 refine tN iU (by simp[bX]) ?_
 have kp:=hP.kp
 rw[hc] at q1
 simp only[sz,simprocAttr,bX,kp,r1,hlt,q1,hryb]
 refine j5 (b:=g.nx) (n:=c) (by unfold aR;omega) (by unfold aR;omega) (Nat.le_refl _) fun U g1 hU n1 f1 vU=>?_
 have lU:=bO hU.rows
 rw[List.length_replicate] at lU
 simp only[sz,simprocAttr,lU,da]
 refine bk (m:=c) (by omega) (fun k t df g'=>df=[]/\St t [(0,.int .i64 (v:Int)),(2,.hptr pm 0 0 0),(3,.hptr pq 0 0 0),(7,U)]/\Fr g g'/\Own g' g.nx U 2 (((S.aq n e v).take k).map cq++List.replicate (c - k) [.int .i64 0,.int .i64 0])) ⟨rfl,by simp[St,sx],⟨by omega,fun i hi=>f1 i hi⟩,by simpa using hU⟩ (by simp[sx]) (by simp[sx]) (by decide)
  (by rintro k t df g v s (rfl | rfl | rfl) ⟨a1,⟨b1,b2,b3,b4,-⟩,a3⟩<;>exact ⟨a1,by simp[St,sx,b1,b2,b3,b4],a3⟩) ?_ ?_
 ·rintro k t df g2 hk ⟨rfl,⟨h0,h2,h3,h7,-⟩,hf,hO⟩ h21 h20
  obtain ⟨-,km,kq,⟨L,l1,l2⟩,-,-,bm,bq,bL⟩:=hP.step hf
  obtain ⟨A,hA⟩:=Int.eq_ofNat_of_zero_le (gA hr (S.pq n e v (k:Int)) (S.ax n)).1
  have hA2:=(gA hr (S.pq n e v (k:Int)) (S.ax n)).2
  obtain ⟨M,hM⟩:=Int.eq_ofNat_of_zero_le hb0.1
  have hat:=Cd (n:=n) (e:=e) (v:=v) (k:=k) (by omega)
  obtain ⟨q,hq⟩:∃q,q=S.aG A M:=⟨_,rfl⟩
  rw[hA,hM] at hat
  have hat:(S.aq n e v)[k]?=some q:=by rw[hat,hq];rfl
  refine be (P:=fun t' df g'=>df=[]/\g'=g2/\St t' [(8,.int .i64 (k:Int)),(0,.int .i64 (v:Int)),(2,.hptr pm 0 0 0),(3,.hptr pq 0 0 0),(7,U),(20,.int .i64 (c:Int)),(21,.int .i64 (k:Int))]) ?_ ?_
  ·simp only[sz,simprocAttr,h21]
   simp[St,sx,h0,h2,h3,h7,h20,h21]
  clear h0 h2 h3 h7 h20 h21
  rintro t df g3 ⟨rfl,rfl,h8,h0,h2,h3,h7,h20,h21,-⟩
  obtain ⟨KK,hKd⟩:∃K:Int×Int,K=((v:Int),(k:Int)):=⟨_,rfl⟩
  have hmK:mgt L KK=(A:Int):=by rw[hKd,l2,hA]
  have epk:AV.agg [.int .i64 (v:Int),.int .i64 (k:Int)]=pk KK:=by rw[hKd];rfl
  have hbd:∀a b:Int,sC [.int .i64 0,.int .i64 0] [(0,1),(1,1)] [.int .i64 a,.int .i64 b]=.val (.agg [.int .i64 a,.int .i64 b]):=fun a b=>rfl
  have lk:∀(t:T) (g:G),tat t 25=.hmap m->tat t 28=pk KK->g.h.get m=.map (mcl pk L)->(bK C0 (.lookup 165 (.tmp 25) (.tmp 28) false)).run (I C0) d none t g=.val (.int .i64 (A:Int)):=fun t g a b c=>by rw[<-hmK];exact F9 a b c
  have kM:∀g,ah C0 d N.au [.int .i64 (A:Int),.int .i64 (M:Int)] g=.val (.tup [.agg [.int .i64 q.1,.int .i64 q.2],.int .i64 0]):=fun g=>by rw[hq];exact Iv hd (by omega) (by omega) (by omega)
  rw[hM] at kq
  obtain ⟨r,hr'⟩:∃r,r=g3.nx+10:=⟨_,rfl⟩
  have nm:¬g3.nx+1+1+1+1+1+1+1+1+1+1=m/\¬g3.nx+1+1+1+1+1+1+1+1+1+1=pm/\¬g3.nx+1+1+1+1+1+1+1+1+1+1=pq:=by omega
  have si:∀h (z:Int),aG h aE (.int .i64 z)=[]:=fun _ _=>rfl
  refine dU (P:=fun t' df g'=>df=[]/\Fr g3 g'/\r<g'.nx/\g'.h.get r=.cells 2 [[.int .i64 q.1,.int .i64 q.2]] 0 false false/\St t' [(9,.hptr r 0 0 0),(10,.int .i64 0),(8,.int .i64 (k:Int)),(0,.int .i64 (v:Int)),(2,.hptr pm 0 0 0),(3,.hptr pq 0 0 0),(7,U),(20,.int .i64 (c:Int)),(21,.int .i64 (k:Int))]) ?_ ?_
  ·simp only[sz,simprocAttr,sf,h0,h2,h3,h8,km,kq,hbd,epk,lk,l1,kM,vv,yj]
   refine ⟨?_,⟨by simp;omega,fun i hi=>?_⟩,?_,?_,?_⟩
   ·simp only[List.reverse_cons,List.reverse_nil,List.nil_append,List.cons_append]
    refine wk [false,false,false,false,false,false,false,false,false,false,true,true,false] [(0,10),(1,10),(2,10),(3,10),(4,10),(5,10),(6,10),(7,10),(8,10),(9,10),(9,11)] (by simp[All2,an,ay]) ?_ (by decide) ?_
    ·simp[fc,bI,meets,fst1,an,ay,ak,au,nm]
     rfl
    rintro q hq x y hx hy
    simp only[List.mem_cons,List.not_mem_nil,or_false] at hq
    rcases hq with rfl | rfl | rfl | rfl | rfl | rfl | rfl | rfl | rfl | rfl | rfl<;>(simp at hx hy;subst hx;subst hy;simp[bz,eH,dA,meets,fst1,ay,an,ak,si,gn,nm])
   ·simp[H.get_put,show ¬i=g3.nx+1+1+1+1+1+1+1+1+1+1 by omega]
   ·omega
   ·simp[H.get_put,hr']
   ·simp[St,sx,h0,h2,h3,h7,h8,h20,h21,hr']
  clear h0 h2 h3 h7 h8 h20 h21
  rintro t df g4 ⟨rfl,f4,hrn,kr,h9,h10,h8,h0,h2,h3,h7,h20,h21,-⟩
  have hO4:=hO.step f4
  have hln:(((S.aq n e v).take k).map cq).length=k:=by rw[List.length_map,List.length_take];omega
  have hll:(((S.aq n e v).take k).map cq++List.replicate (c - k) [AV.int .i64 0,.int .i64 0]).length=c:=by rw[List.length_append,hln,List.length_replicate];omega
  obtain ⟨y,hy⟩:∃y,(((S.aq n e v).take k).map cq++List.replicate (c - k) [AV.int .i64 0,.int .i64 0])[k]?=some y/\y=[AV.int .i64 0,.int .i64 0]:=⟨_,by rw[List.getElem?_append_right (by omega),hln,List.getElem?_replicate,if_pos (by omega)],rfl⟩
  obtain ⟨hy,rfl⟩:=hy
  have u1:k<(((S.aq n e v).take k).map cq++List.replicate (c - k) [AV.int .i64 0,.int .i64 0]).length:=by omega
  have hset:(((S.aq n e v).take k).map cq++List.replicate (c - k) [AV.int .i64 0,.int .i64 0]).set k (cq q)=((S.aq n e v).take (k+1)).map cq++List.replicate (c - (k+1)) [AV.int .i64 0,.int .i64 0]:=by
   rw[List.set_append_right _ _ (by omega),hln,Nat.sub_self]
   have e2:List.replicate (c - k) [AV.int .i64 0,.int .i64 0]=[AV.int .i64 0,.int .i64 0]::List.replicate (c - (k+1)) [AV.int .i64 0,.int .i64 0]:=by rw[<-List.replicate_succ];congr 1;omega
   rw[e2,List.set_cons_zero,List.take_add_one,hat]
   simp
  have hry:iX U=true:=ma hO4.rows u1
  have ru:=hO4.rows
  simp only[sz,simprocAttr,h10,h9,h7,h8,kr,ru,u1,hy]
  refine bu (v:=U) (sz:=2) (n:=2) (i:=k) (off:=0) (x:=.agg [.int .i64 q.1,.int .i64 q.2]) (row':=cq q) hO4 hy rfl rfl rfl fun g5 hO5 n5 f5=>?_
  rw[hset] at hO5
  simp only[sz,simprocAttr]
  refine ⟨⟨by simp[St,sx,h0,h2,h3,h7],⟨by have:=hf.1;have:=f4.1;omega,fun i hi=>?_⟩,hO5⟩,h21,h20⟩
  rw[f5 i fun e=>by have:=(hO.lt e).1;omega,f4.2 i (Nat.lt_of_lt_of_le hi hf.1),hf.2 i hi]
 ·rintro t df g' ⟨rfl,⟨-,-,-,h7,-⟩,hf,hO⟩
  rw[List.take_of_length_le (by omega),Nat.sub_self,List.replicate_zero,List.append_nil] at hO
  simp only[fG,if_true,sz,simprocAttr,cW,h7]
  exact kk U g' hO hf
def S.aO (n:Net)(e:List Int):Int:=if S.an n e=0 then (if S.aC n e=0 then 7 else 0) else S.an n e
def S.a8 (n:Net)(e:List Int):List (List QI):=if S.aO n e=0 then (List.range n.nodes.length).map (S.aq n e) else []
def S.aL (n:Net)(e:List Int)(v:Int):Int:=if S.an n e=0 then (if 0<=v/\v<n.nodes.length then (if S.aC n e=0 then 7 else 0) else 2) else S.an n e
def S.aU (n:Net)(e:List Int)(v:Int):List QI:=if S.aL n e v=0 then S.aq n e v.toNat else []
theorem Nf {P:Nat->Prop}{k:Nat}{h:H}(q:QI):Rp.rp P k h q (cq q):=wR.2 ⟨[.int .i64 q.1],[.int .i64 q.2],rfl,aI.2 rfl,aI.2 rfl⟩
theorem vM {n:Net}{e:List Int}(hr:NR n)(v:Nat):(S.aq n e v).length<=4:=by
 rw[vD]
 cases h:(S.aa n)[v]? with
 | none=>simp
 | some c=>have:=hr.cs c (List.mem_of_getElem? h);simp;omega
theorem El {g:G}{b:Nat}{U:AV}{n:Net}{e:List Int}{v:Nat}{P:Nat->Prop}(hr:NR n)(h:Own g b U 2 ((S.aq n e v).map cq))(hP:∀i,b<=i->i<g.nx->P i):SlR P 0 g.h (S.aq n e v) U:=by
 have:=vM (e:=e) hr v
 exact Own.sl (α:=QI) h (by omega) (All2.of_map (fun q=>Nf q) _) fun i hi=>hP i (h.lt hi).1 (h.lt hi).2
theorem zi {d:Nat}{g:G}{v w:AV}{n:Net}{e:List Int}{z:Int}(hd:0<d)(hm:Agg n NoP 0 g.h v)(he:SlR NoP 0 g.h e w) :
  ∃r,ah C0 d N.bB [v,w,.int .i64 z] g=.val r/\rI (One (S.aU n e z)) (One (S.aL n e z)) NoP 0 .nil r:=by
 obtain ⟨b,rows,rfl,e1,hm',hN,r1,r2,r3,r4⟩:=cJ d hm
 have ew:=cM d he
 have hw:SlR NoP 0 .nil e w:=he.tree (Nat.le_refl 0)
 rw[qF]
 refine aN tv (xs:=[.agg [.int .i64 n.grain,b],w,.int .i64 z]) (by simp only[aB,e1,ew,bG]) (by simp[g_]) (cG (m:=2) (aK _) (aK _) (by decide) (by decide)) (by decide) hd ?_
 simp only[sz,simprocAttr,g_]
 obtain ⟨g0,hg0⟩:∃g0,g0=G.empty.new (.cells 2 [[.int .i64 n.grain,b]] 0 false false):=⟨_,rfl⟩
 rw[<-hg0]
 have f0:g0.h.get 0=.cells 2 [[.int .i64 n.grain,b]] 0 false false:=by rw[hg0];simp[sx,H.get_put]
 have f3:g0.nx=1:=by rw[hg0];simp[sx]
 clear hg0
 unfold jP
 simp only[sz,simprocAttr,f0,hw.cell.1,hw.cell.2]
 refine bi (JY (n:=n) (ls:=[e]) (Nat.succ_pos d) (hm' _) (Nn hw (by simp[H.get_put]))) fun v hv=>?_
 obtain ⟨y,cs,rfl,hy,hc,a1,a2,a3,a4,rfl⟩:=yu hv
 rw[vQ] at hy ⊢
 by_cases h0:S.an n e=0
 ·have hyo:=hy h0
  obtain ⟨h1,h2⟩:=gE.1 h0
  have hr:=di.1 h1
  obtain ⟨b',b2,b3,ecs,hb',hb2,hb3⟩:=tG.1 hc
  injection ecs with ec1 ecs
  injection ecs with ec2 ecs
  rw[hyo.net] at ec1 hb'
  subst ec1 ec2
  have hN':SlR NoP 0 .nil n.nodes a2:=hb'.tree (Nat.le_refl 0)
  have lb:∀g,eG .slice a2 g=.val (.int .i64 (n.nodes.length:Int)):=hN'.len
  by_cases hz:0<=z/\z<n.nodes.length
  ·obtain ⟨vn,rfl⟩:=Int.eq_ofNat_of_zero_le hz.1
   have c1:decide ((vn:Int)<0)=false:=by simp
   have c2:decide ((n.nodes.length:Int)<=(vn:Int))=false:=by simp;omega
   simp only[sz,simprocAttr,f3,h0,c1,lb,c2]
   refine rP (n:=n) (y:=y) (e:=e) (Nat.succ_pos d) hr hc hyo hw h2 (fun hz0 g' hf=>?_) (fun hz0 g' p pm pq m hf hP=>?_)
   ·have hE:S.aL n e (vn:Int)=7:=by rw[S.aL,if_pos h0,if_pos hz,if_pos hz0]
    have hj:S.aU n e (vn:Int)=[]:=by rw[S.aU,hE,if_neg (by decide)]
    simp only[sz,simprocAttr]
    rw[hE,hj]
    exact ⟨fun _=>True,_,_,rfl,a8.2 ⟨_,rfl,by show 0<9223372036854775808;decide,rfl⟩,aI.2 rfl⟩
   ·have hE:S.aL n e (vn:Int)=0:=by rw[S.aL,if_pos h0,if_pos hz,if_neg hz0]
    have hj:S.aU n e (vn:Int)=S.aq n e vn:=by rw[S.aU,hE,if_pos rfl];rfl
    simp only[sz,simprocAttr]
    refine De (Nat.succ_pos d) hr hN' hP (by omega) hz0 fun U g2 hU hf2=>?_
    simp only[sz,simprocAttr]
    rw[hE,hj]
    exact ⟨fun _=>True,_,_,rfl,a8.2 ⟨_,rfl,El hr hU fun _ _ _=>trivial⟩,aI.2 rfl⟩
  ·have hE:S.aL n e z=2:=by rw[S.aL,if_pos h0,if_neg hz]
   have hj:S.aU n e z=[]:=by rw[S.aU,hE,if_neg (by decide)]
   rw[hE,hj]
   by_cases c1:z<0
   ·simp only[sz,simprocAttr,f3,h0,c1]
    exact ⟨fun _=>True,_,_,rfl,a8.2 ⟨_,rfl,by show 0<9223372036854775808;decide,rfl⟩,aI.2 rfl⟩
   ·have c2:(n.nodes.length:Int)<=z:=by omega
    simp only[sz,simprocAttr,f3,h0,c1,lb,c2]
    exact ⟨fun _=>True,_,_,rfl,a8.2 ⟨_,rfl,by show 0<9223372036854775808;decide,rfl⟩,aI.2 rfl⟩
 ·have hE:S.aL n e z=S.an n e:=by rw[S.aL,if_neg h0]
  have hj:S.aU n e z=[]:=by rw[S.aU,hE,if_neg h0]
  simp only[sz,simprocAttr,f3,h0]
  rw[hj,hE]
  exact ⟨fun _=>True,_,_,rfl,a8.2 ⟨_,rfl,by show 0<9223372036854775808;decide,rfl⟩,aI.2 rfl⟩
def S.bc (n:Net)(e:List Int)(j:Nat):List (List QI):=((List.range n.nodes.length).map (S.aq n e)).take j++List.replicate (n.nodes.length - j) []
theorem Jj {n:Net}{e:List Int}{j:Nat}(h:j<n.nodes.length):(S.bc n e j).set j (S.aq n e j)=S.bc n e (j+1):=by
 unfold S.bc
 have hln:(((List.range n.nodes.length).map (S.aq n e)).take j).length=j:=by simp;omega
 rw[List.set_append_right _ _ (by omega),hln,Nat.sub_self]
 have e2:List.replicate (n.nodes.length - j) ([]:List QI)=[]::List.replicate (n.nodes.length - (j+1)) []:=by rw[<-List.replicate_succ];congr 1;omega
 rw[e2,List.set_cons_zero,List.take_add_one]
 simp[h]
theorem Db {α β:Type}{R:α->β->Prop}{a:α}{b:β}(h:R a b):∀n:Nat,All2 R (List.replicate n a) (List.replicate n b)
 | 0=>trivial
 | n+1=>⟨h,Db h n⟩
theorem Kt {d:Nat}{g:G}{v w:AV}{n:Net}{e:List Int}(hd:0<d)(hm:Agg n NoP 0 g.h v)(he:SlR NoP 0 g.h e w) :
  ∃r,ah C0 d N.ba [v,w] g=.val r/\rI (One (S.a8 n e)) (One (S.aO n e)) NoP 0 .nil r:=by
 obtain ⟨b,rows,rfl,e1,hm',hN,r1,r2,r3,r4⟩:=cJ d hm
 have ew:=cM d he
 have hw:SlR NoP 0 .nil e w:=he.tree (Nat.le_refl 0)
 rw[xM]
 refine aN BF (xs:=[.agg [.int .i64 n.grain,b],w]) (by simp only[aB,e1,ew]) (by simp[qU]) (cG (m:=2) (aK _) (aK _) (by decide) (by decide)) (by decide) hd ?_
 simp only[sz,simprocAttr,qU]
 obtain ⟨g0,hg0⟩:∃g0,g0=G.empty.new (.cells 2 [[.int .i64 n.grain,b]] 0 false false):=⟨_,rfl⟩
 rw[<-hg0]
 have f0:g0.h.get 0=.cells 2 [[.int .i64 n.grain,b]] 0 false false:=by rw[hg0];simp[sx,H.get_put]
 have f3:g0.nx=1:=by rw[hg0];simp[sx]
 clear hg0
 unfold rO
 simp only[sz,simprocAttr,f0,hw.cell.1,hw.cell.2]
 refine bi (JY (n:=n) (ls:=[e]) (Nat.succ_pos d) (hm' _) (Nn hw (by simp[H.get_put]))) fun v hv=>?_
 obtain ⟨y,cs,rfl,hy,hc,a1,a2,a3,a4,rfl⟩:=yu hv
 rw[vQ] at hy ⊢
 by_cases h0:S.an n e=0
 ·have hyo:=hy h0
  obtain ⟨h1,h2⟩:=gE.1 h0
  have hr:=di.1 h1
  have hl8:=hr.l2
  obtain ⟨b',b2,b3,ecs,hb',hb2,hb3⟩:=tG.1 hc
  injection ecs with ec1 ecs
  injection ecs with ec2 ecs
  rw[hyo.net] at ec1 hb'
  subst ec1 ec2
  have hN':SlR NoP 0 .nil n.nodes a2:=hb'.tree (Nat.le_refl 0)
  have lb:∀g,eG .slice a2 g=.val (.int .i64 (n.nodes.length:Int)):=hN'.len
  simp only[sz,simprocAttr,f3,h0]
  refine rP (n:=n) (y:=y) (e:=e) (Nat.succ_pos d) hr hc hyo hw h2 (fun hz0 g' hf=>?_) (fun hz0 gP p pm pq m hf hP=>?_)
  ·have hE:S.aO n e=7:=by rw[S.aO,if_pos h0,if_pos hz0]
   have hj:S.a8 n e=[]:=by rw[S.a8,hE,if_neg (by decide)]
   simp only[sz,simprocAttr]
   rw[hE,hj]
   exact ⟨fun _=>True,_,_,rfl,a8.2 ⟨_,rfl,by show 0<9223372036854775808;decide,rfl⟩,aI.2 rfl⟩
  ·have hE:S.aO n e=0:=by rw[S.aO,if_pos h0,if_neg hz0]
   have hj:S.a8 n e=(List.range n.nodes.length).map (S.aq n e):=by rw[S.a8,hE,if_pos rfl]
   have k2:gP.h.get 2=.cells 4 [[.int .i64 n.grain,a2,a3,a4]] 0 false false:=by rw[hf.2 2 (by simp[f3])];simp[H.get_put,f3]
   simp only[sz,simprocAttr,k2,lb]
   refine j5 (b:=gP.nx) (n:=n.nodes.length) (by unfold aR;omega) (by unfold aR;omega) (Nat.le_refl _) fun A g1 hA n1 f1 vA=>?_
   have lA:=bO hA.rows
   rw[List.length_replicate] at lA
   simp only[sz,simprocAttr,lA,pM]
   refine bk (m:=n.nodes.length) (by omega) (fun j t df g'=>df=[]/\St t [(8,.clo N.aH [] [.hptr p 0 0 0,.hptr pm 0 0 0,.hptr pq 0 0 0]),(9,A)]/\Fr gP g'/\gP.nx<g'.nx/\∃rows,Own g' gP.nx A 1 rows/\All2 (Rp.rp (fun i=>gP.nx<i/\i<g'.nx) 0 g'.h) (S.bc n e j) rows) ⟨rfl,by simp[St,sx],⟨by omega,fun i hi=>f1 i hi⟩,by omega,_,hA,?_⟩ (by simp[sx]) (by simp[sx]) (by decide)
    (by rintro k t df g v s (rfl | rfl | rfl) ⟨a1,⟨b1,b2,-⟩,a3⟩<;>exact ⟨a1,by simp[St,sx,b1,b2],a3⟩) ?_ ?_
   ·rw[show S.bc n e 0=List.replicate n.nodes.length [] by simp[S.bc]]
    refine Db (a:=([]:List QI)) (b:=[AV.nils]) ?_ _
    exact a8.2 ⟨_,rfl,by show 0<9223372036854775808;decide,rfl⟩
   ·rintro j t df g2 hj ⟨rfl,⟨h8,h9,-⟩,hf2,hnx,rows2,hO,hall⟩ h37 h36
    simp only[sz,simprocAttr,h37,h8,h9]
    refine De (v:=j) (Nat.succ_pos d) hr hN' (hP.step hf2) hj hz0 fun U g3 hU hf3=>?_
    have hO3:=hO.step hf3
    have hlr:=hall.len
    have hpl:(S.bc n e j).length=n.nodes.length:=by simp[S.bc];omega
    have u1:j<rows2.length:=by omega
    obtain ⟨cs0,hcs0⟩:∃cs0,rows2[j]?=some cs0:=⟨_,List.getElem?_eq_getElem u1⟩
    obtain ⟨l0,hl0,v0,rfl,-⟩:=hall.get' hcs0
    have ru:=hO3.rows
    have hry:iX A=true:=ma ru u1
    simp only[sz,simprocAttr,h9,h37,ru,u1,hcs0,hU.cell.1,hU.cell.2]
    refine bu (v:=A) (sz:=1) (n:=1) (i:=j) (off:=0) (x:=U) (row':=[U]) hO3 hcs0 (by rw[hU.cell.1];rfl) hU.cell.2 (by rw[hU.cell.1];rfl) fun g5 hO5 n5 f5=>?_
    simp only[sz,simprocAttr]
    have fA:∀i,gP.nx<i->g5.h.get i=g3.h.get i:=fun i hi=>f5 i (by rw[vA];intro h;injection h with h;omega)
    have n3:=hf3.1
    refine ⟨⟨by simp[St,sx,h8,h9],⟨by have:=hf2.1;omega,fun i hi=>?_⟩,by omega,_,hO5,?_⟩,h37,h36⟩
    ·rw[f5 i (by rw[vA];intro h;injection h with h;omega),hf3.2 i (by omega),hf2.2 i hi]
    ·rw[<-Jj hj]
     refine All2.set (All2.mono (fun a b h=>?_) hall) ⟨U,rfl,?_⟩
     ·obtain ⟨v,rfl,hs⟩:=h
      exact ⟨v,rfl,hs.wd fun i hi=>⟨⟨hi.1,by omega⟩,by rw[fA i hi.1,hf3.2 i hi.2]⟩⟩
     ·exact (El (P:=fun i=>gP.nx<i/\i<g5.nx) hr hU fun i h1 h2=>⟨by omega,by omega⟩).wd fun i hi=>⟨hi,fA i hi.1⟩
   ·rintro t df g' ⟨rfl,⟨h8,h9,-⟩,hf2,hnx,rows2,hO,hall⟩
    rw[show S.bc n e n.nodes.length=(List.range n.nodes.length).map (S.aq n e) by rw[S.bc,List.take_of_length_le (by simp),Nat.sub_self,List.replicate_zero,List.append_nil]] at hall
    simp only[fG,if_true,sz,simprocAttr,pY,h9]
    rw[hE,hj]
    refine ⟨fun _=>True,_,_,rfl,a8.2 ⟨_,rfl,Own.sl (α:=List QI) hO (by simp;omega) (All2.mono (fun a b h=>?_) hall) fun _ _=>trivial⟩,aI.2 rfl⟩
    obtain ⟨v,rfl,hs⟩:=h
    exact ⟨v,rfl,hs.wd fun i hi=>⟨trivial,rfl⟩⟩
 ·have hE:S.aO n e=S.an n e:=by rw[S.aO,if_neg h0]
  have hj:S.a8 n e=[]:=by rw[S.a8,hE,if_neg h0]
  simp only[sz,simprocAttr,f3,h0]
  rw[hj,hE]
  exact ⟨fun _=>True,_,_,rfl,a8.2 ⟨_,rfl,by show 0<9223372036854775808;decide,rfl⟩,aI.2 rfl⟩
theorem Nu (a b:Int):za true (.flat [.int .i64,.int .i64]) (.agg [.int .i64 a,.int .i64 b]) (.agg [.int .i64 a,.int .i64 b])=.val (.bool false):=by
 have ha:AR a a=true:=by rw[mi];simp
 have hb:AR b b=true:=by rw[mi];simp
 simp only[za,eqA,dl,dk,lR,ha,hb]
 rfl
theorem Nv {P:Nat->Prop}{k:Nat}{h:H}{q:QI}{cs:List AV}(hc:Rp.rp P k h q cs):cs=[.int .i64 q.1,.int .i64 q.2]:=by
 obtain ⟨a,b,rfl,h1,h2⟩:=wR.1 hc
 rw[aI.1 h1,aI.1 h2];rfl
theorem Do {d:Nat}{g:G}{v w:AV}{l:List QI}(hd:0<d)(hv:SlR NoP 0 .nil l v)(hw:SlR NoP 0 .nil l w):ah C0 d N.ax [v,w] g=.val (.bool true):=by
 have e1:=cM (h:=g.h) d (hv.tree (Nat.le_refl 0))
 have e2:=cM (h:=g.h) d (hw.tree (Nat.le_refl 0))
 obtain ⟨rs,a1,a2,a3,a4⟩:=hv.all
 obtain ⟨rs',b1,b2,b3,b4⟩:=hw.all
 have a1:∀h,af h 2 v=some rs:=a1
 have b1:∀h,af h 2 w=some rs':=b1
 have lv:=hv.len
 have lw:=hw.len
 have hl:=hv.1
 rw[wC]
 refine du y7 (xs:=[v,w]) (by simp only[aB,e1,e2]) (by simp[oU]) hd ?_
 simp only[sz,simprocAttr,oU,lv,lw]
 refine bh l.length hl (fun j t df g=>df=[]/\tat t 0=v/\tat t 1=w) ⟨rfl,by simp[sx],by simp[sx]⟩ (by simp[sx]) (by decide) (by rintro j t df g v s (rfl | rfl | rfl)<;>simp[sx]) ?_ ?_ ?_
 ·rintro j t df g hj ⟨rfl,h0,h1⟩ h5
  simp only[sz,simprocAttr,h0,h1,h5,lv]
 ·rintro j t df g hj ⟨rfl,h0,h1⟩ h5
  obtain ⟨q,hq,-,-⟩:=ae hj
  obtain ⟨c1,x1,y1⟩:=a3 j q hq
  obtain ⟨c2,x2,y2⟩:=b3 j q hq
  rw[Nv y1] at x1
  rw[Nv y2] at x2
  have u1:j<rs.length:=by omega
  have u2:j<rs'.length:=by omega
  have ry:=a4 (by omega)
  have ry2:=b4 (by omega)
  simp only[sz,simprocAttr,h0,h1,h5,a1,b1,u1,u2,x1,x2,ry,ry2,Nu]
 ·rintro t df g ⟨rfl,h0,h1⟩
  simp only[sz,simprocAttr,o6]
theorem Dm {d:Nat}{g:G}{v w:AV}{l:List (List QI)}(hd:0<d)(hv:SlR NoP 0 .nil l v)(hw:SlR NoP 0 .nil l w):ah C0 d N.aB [v,w] g=.val (.bool true):=by
 have e1:=cM (h:=g.h) d (hv.tree (Nat.le_refl 0))
 have e2:=cM (h:=g.h) d (hw.tree (Nat.le_refl 0))
 obtain ⟨rs,a1,a2,a3,a4⟩:=hv.all
 obtain ⟨rs',b1,b2,b3,b4⟩:=hw.all
 have a1:∀h,af h 1 v=some rs:=a1
 have b1:∀h,af h 1 w=some rs':=b1
 have lv:=hv.len
 have lw:=hw.len
 have hl:=hv.1
 rw[sL]
 refine du uI (xs:=[v,w]) (by simp only[aB,e1,e2]) (by simp[js]) hd ?_
 simp only[sz,simprocAttr,js,lv,lw]
 refine bh l.length hl (fun j t df g=>df=[]/\tat t 0=v/\tat t 1=w) ⟨rfl,by simp[sx],by simp[sx]⟩ (by simp[sx]) (by decide) (by rintro j t df g v s (rfl | rfl | rfl)<;>simp[sx]) ?_ ?_ ?_
 ·rintro j t df g hj ⟨rfl,h0,h1⟩ h5
  simp only[sz,simprocAttr,h0,h1,h5,lv]
 ·rintro j t df g hj ⟨rfl,h0,h1⟩ h5
  obtain ⟨q,hq,-,-⟩:=ae hj
  obtain ⟨c1,x1,z1,rfl,y1⟩:=a3 j q hq
  obtain ⟨c2,x2,z2,rfl,y2⟩:=b3 j q hq
  have u1:j<rs.length:=by omega
  have u2:j<rs'.length:=by omega
  have ry:=a4 (by omega)
  have ry2:=b4 (by omega)
  have kS:∀g,ah C0 (d+1) N.ax [z1,z2] g=.val (.bool true):=fun g=>Do (Nat.succ_pos d) (y1.tree (Nat.le_refl 0)) (y2.tree (Nat.le_refl 0))
  simp only[sz,simprocAttr,h0,h1,h5,a1,b1,u1,u2,x1,x2,ry,ry2,kS]
 ·rintro t df g ⟨rfl,h0,h1⟩
  simp only[sz,simprocAttr,kW]
theorem rW {d v:Nat}{g:G}{u w:AV}{n:Net}{e:List Int}(hd:0<d)(hm:Agg n NoP 0 g.h u)(hr:NR n)(he:SlR NoP 0 .nil e w)(hel:e.length=n.nodes.length)(hv:v<n.nodes.length)(hz0:S.aC n e≠0) :
  ∃r,ah C0 d N.aU [u,w,.int .i64 (v:Int)] g=.val r/\One (S.aq n e v) NoP 0 .nil r:=by
 obtain ⟨b,rows,rfl,e1,hm',hN,r1,r2,r3,r4⟩:=cJ d hm
 have ew:=cM (h:=g.h) d (he.tree (Nat.le_refl 0))
 have he':∀h,SlR NoP 0 h e w:=fun h=>he.tree (Nat.le_refl 0)
 have hl8:=hr.l2
 obtain ⟨x,hx,-,hmem⟩:=ae hv
 obtain ⟨pa,ra,q1,hlt,-⟩:=r3 v x hx
 have hryb:=r4 (by omega)
 have hcard:=hr.card x hmem
 obtain ⟨c,hc⟩:∃c:Nat,x.card=(c:Int):=Int.eq_ofNat_of_zero_le (by omega)
 have hcv:((S.aa n)[v]?.getD 0).toNat=c:=by simp[S.aa,hx,hc]
 rw[hc] at q1
 have hb0:=wc hr e
 obtain ⟨M,hM⟩:=Int.eq_ofNat_of_zero_le hb0.1
 have kM:∀g,ah C0 (d+1) N.ah [.agg [.int .i64 n.grain,b],w] g=.val (.int .i64 (M:Int)):=fun g=>by rw[<-hM];exact xe (Nat.succ_pos d) (hm' _) hr (he' g.h) hel
 rw[qV]
 refine aN sG (xs:=[.agg [.int .i64 n.grain,b],w,.int .i64 (v:Int)]) (by simp only[aB,e1,ew,bG]) (by simp[ib]) (aK _) (by decide) hd ?_
 simp only[sz,simprocAttr,ib,jW,kM]
 refine bh c (by omega) (fun j t df g=>df=[]/\g.h.get 0=.cells 2 [[.int .i64 n.grain,b]] 0 false false/\St t [(1,w),(2,.int .i64 (v:Int)),(3,.hptr 0 0 0 0),(7,.int .i64 (M:Int))]/\1<=g.nx/\∃U,tat t 8=U/\Own g 1 U 2 (((S.aq n e v).map cq).take j)) ⟨rfl,by simp[sx],by simp[St,sx],by simp[sx],.nils,by simp[sx],.inl ⟨rfl,by simp⟩⟩ (by simp[sx]) (by decide) (by
   rintro j t df g z s (rfl | rfl | rfl)<;>simp[St,sx]) ?_ ?_ ?_
 ·rintro j t df g hj ⟨rfl,g0,⟨h1,h2,h3,h7,-⟩,hn,U,h8,hU⟩ h9
  simp only[sz,simprocAttr,h1,h2,h3,h7,h8,h9,g0,r1,hlt,q1,hryb]
  simp[St,sx,h1,h2,h3,h7,h8,h9,g0,hn,hU]
 ·rintro j t df g hj ⟨rfl,g0,⟨h1,h2,h3,h7,-⟩,hn,U,h8,hU⟩ h9
  have hat:=Cd (n:=n) (e:=e) (v:=v) (k:=j) (by omega)
  have hpw:=Lx (n:=n) (e:=e) (v:=v) (x:=(j:Int)) (by omega) hel (by omega)
  have hsb:=gA hr (S.pq n e v (j:Int)) (S.ax n)
  obtain ⟨W1,W2,W3⟩:=hr.wl
  obtain ⟨A,hA⟩:=Int.eq_ofNat_of_zero_le hsb.1
  have hA2:=hsb.2
  rw[hA,hM] at hat
  rw[hA] at hpw
  have hat:(S.aq n e v)[j]?=some (S.aG A M):=hat
  obtain ⟨q,hq⟩:∃q,q=S.aG A M:=⟨_,rfl⟩
  rw[<-hq] at hat
  have kO:∀g,ah C0 (d+1) N.aJ [.int .i64 (A:Int),.int .i64 (M:Int)] g=.val (.agg [.int .i64 q.1,.int .i64 q.2]):=fun g=>by rw[hq];exact MT (Nat.succ_pos d) (by omega) (by omega) (by omega)
  refine be (P:=fun t' df g'=>df=[]/\Fr g g'/\St t' [(1,w),(2,.int .i64 (v:Int)),(3,.hptr 0 0 0 0),(7,.int .i64 (M:Int)),(8,U),(9,.int .i64 (j:Int))]/\(∃z,tat t' 10=z/\SlR NoP 0 .nil (e.set v (j:Int)) z)/\tat t' 11=.bool (decide (e[v]?.getD 0<0) || decide (e[v]?.getD 0=(j:Int)))) ?_ ?_
  ·simp only[sz,simprocAttr,h1,h2,h9]
   refine bi (Lz (Nat.succ_pos d) he (by omega) (by omega)) ?_
   rintro r ⟨a,c2,rfl,ha,hc2⟩
   have hc2:=dq.1 hc2
   injection hc2 with hc2
   subst hc2
   simp only[sz,simprocAttr]
   exact ⟨Fr.refl _,by simp[St,sx,h1,h2,h3,h7,h8,h9],a,rfl,IT.sl (k:=0) ha _⟩
  clear h1 h2 h3 h7 h8 h9
  rintro t df g2 ⟨rfl,hf,⟨h1,h2,h3,h7,h8,h9,-⟩,⟨z,h10,hz⟩,h11⟩
  have g02:g2.h.get 0=.cells 2 [[.int .i64 n.grain,b]] 0 false false:=by rw[hf.2 0 (by omega),g0]
  refine be (P:=fun t' df g'=>df=[]/\g'=g2/\St t' [(1,w),(2,.int .i64 (v:Int)),(3,.hptr 0 0 0 0),(7,.int .i64 (M:Int)),(8,U),(9,.int .i64 (j:Int)),(10,z),(11,.bool (decide (e[v]?.getD 0<0) || decide (e[v]?.getD 0=(j:Int)))),(12,.int .i64 0)]) ?_ ?_
  ·simp only[sz,simprocAttr]
   simp[St,sx,h1,h2,h3,h7,h8,h9,h10,h11]
  clear h1 h2 h3 h7 h8 h9 h10 h11
  rintro t df g3 ⟨rfl,rfl,h1,h2,h3,h7,h8,h9,h10,h11,h12,-⟩
  refine dU (P:=fun t' df g'=>df=[]/\g'=g3/\St t' [(1,w),(2,.int .i64 (v:Int)),(3,.hptr 0 0 0 0),(7,.int .i64 (M:Int)),(8,U),(9,.int .i64 (j:Int)),(12,.int .i64 (A:Int))]) ?_ ?_
  ·cases hb:(decide (e[v]?.getD 0<0) || decide (e[v]?.getD 0=(j:Int))) with
   | true =>
    rw[hb] at h11 hpw
    have kM2:∀g,ah C0 (d+1) N.ah [.agg [.int .i64 n.grain,b],z] g=.val (.int .i64 (A:Int)):=fun g=>by rw[hpw,if_pos rfl];exact xe (Nat.succ_pos d) (hm' _) hr (hz.tree (h':=g.h) (Nat.le_refl 0)) (by rw[List.length_set,hel])
    simp only[sz,simprocAttr,h11,h3,h10,g02,kM2]
    simp[St,sx,h1,h2,h3,h7,h8,h9]
   | false =>
    rw[hb] at h11 hpw
    rw[if_neg (by simp)] at hpw
    simp only[sz,simprocAttr,h11]
    simp[St,sx,h1,h2,h3,h7,h8,h9,h12,hpw]
  clear h1 h2 h3 h7 h8 h9 h10 h11 h12
  rintro t df g3 ⟨rfl,rfl,h1,h2,h3,h7,h8,h9,h12,-⟩
  have hU3:=hU.step hf
  have hle:(S.aq n e v).length<=4:=vM hr v
  simp only[sz,simprocAttr,i8,h7,h8,h12,kO]
  refine ba (new:=[cq q]) (hU3.step (Fr.new _ _)) (by simp[sx,sy,cq]) (by simp) (by simp[aR];omega) fun v2 g4 hv2 n4 f4 _ l4=>?_
  simp only[sz,simprocAttr]
  have hn2:=hf.1
  have h40:g4.h.get 0=.cells 2 [[.int .i64 n.grain,b]] 0 false false:=by
   rw[f4 0 (by simp) (fun h=>by have:=(hU3.lt h).1;omega)]
   simp[H.get_put,show ¬0=g3.nx by omega,g02]
  have hat2:((S.aq n e v).map cq)[j]?=some (cq q):=by rw[List.getElem?_map,hat];rfl
  refine ⟨⟨h40,by simp[St,sx,h1,h2,h3,h7],?_,v2,rfl,?_⟩,h9⟩
  ·simp at n4;omega
  ·rw[List.take_add_one,hat2];exact hv2
 ·rintro t df g ⟨rfl,g0,⟨h1,h2,h3,h7,-⟩,hn,U,h8,hU⟩
  simp only[sz,simprocAttr,jh,h8]
  rw[List.take_of_length_le (by rw[List.length_map,vD];omega)] at hU
  exact ⟨fun _=>True,a8.2 ⟨_,rfl,El hr hU fun _ _ _=>trivial⟩⟩
theorem Kr {d:Nat}{g:G}{u w:AV}{n:Net}{e:List Int}(hd:0<d)(hm:Agg n NoP 0 g.h u)(hr:NR n)(he:SlR NoP 0 .nil e w)(hel:e.length=n.nodes.length)(hz0:S.aC n e≠0) :
  ∃r,ah C0 d N.aV [u,w] g=.val r/\One ((List.range n.nodes.length).map (S.aq n e)) NoP 0 .nil r:=by
 obtain ⟨b,rows,rfl,e1,hm',hN,r1,r2,r3,r4⟩:=cJ d hm
 have ew:=cM (h:=g.h) d (he.tree (Nat.le_refl 0))
 have hl8:=hr.l2
 have lb:∀g,eG .slice b g=.val (.int .i64 (n.nodes.length:Int)):=hN.len
 rw[yY]
 refine aN A9 (xs:=[.agg [.int .i64 n.grain,b],w]) (by simp only[aB,e1,ew]) (by simp[qO]) (aK _) (by decide) hd ?_
 simp only[sz,simprocAttr,qO,sg]
 refine bh n.nodes.length (by omega) (fun j t df g=>df=[]/\g.h.get 0=.cells 2 [[.int .i64 n.grain,b]] 0 false false/\St t [(1,w),(2,.hptr 0 0 0 0)]/\1<=g.nx/\∃U rows,tat t 5=U/\Own g 1 U 1 rows/\All2 (Rp.rp NoP 0 .nil) (((List.range n.nodes.length).map (S.aq n e)).take j) rows) ⟨rfl,by simp[sx],by simp[St,sx],by simp[sx],.nils,[],by simp[sx],.inl ⟨rfl,rfl⟩,by simp[All2]⟩ (by simp[sx]) (by decide) (by
   rintro j t df g z s (rfl | rfl | rfl)<;>simp[St,sx]) ?_ ?_ ?_
 ·rintro j t df g hj ⟨rfl,g0,⟨h1,h2,-⟩,hn,U,rows2,h5,hU,hall⟩ h6
  simp only[sz,simprocAttr,h1,h2,h5,h6,g0,lb]
  exact ⟨by simp[St,sx,h1,h2],hn,U,rows2,rfl,hU,hall⟩
 ·rintro j t df g hj ⟨rfl,g0,⟨h1,h2,-⟩,hn,U,rows2,h5,hU,hall⟩ h6
  simp only[sz,simprocAttr,h1,h2,h5,h6,g0]
  refine bi (rW (v:=j) (Nat.succ_pos d) (hm' _) hr he hel hj hz0) ?_
  rintro r hr2
  obtain ⟨z,hz,hzs⟩:=a8.1 hr2
  injection hz with hz;subst hz
  have hrl:=hall.len
  rw[List.length_take,List.length_map,List.length_range] at hrl
  simp only[sz,simprocAttr,hzs.cell.1,hzs.cell.2]
  refine ba (new:=[[r]]) (hU.step (Fr.new _ _)) (by simp[sx,sy]) (by simp) (by simp[aR];omega) fun v2 g4 hv2 n4 f4 _ l4=>?_
  simp only[sz,simprocAttr]
  have h40:g4.h.get 0=.cells 2 [[.int .i64 n.grain,b]] 0 false false:=by
   rw[f4 0 (by simp) (fun h=>by have:=(hU.lt h).1;omega)]
   simp[H.get_put,show ¬0=g.nx by omega,g0]
  have hat:((List.range n.nodes.length).map (S.aq n e))[j]?=some (S.aq n e j):=by simp[hj]
  refine ⟨⟨h40,by simp[St,sx,h1,h2],?_,v2,_,rfl,hv2,?_⟩,h6⟩
  ·simp at n4;omega
  ·rw[List.take_add_one,hat]
   exact All2.append hall ⟨hr2,trivial⟩
 ·rintro t df g ⟨rfl,g0,⟨h1,h2,-⟩,hn,U,rows2,h5,hU,hall⟩
  simp only[sz,simprocAttr,qc,h5]
  rw[List.take_of_length_le (by simp)] at hall
  refine ⟨fun _=>True,a8.2 ⟨_,rfl,Own.sl (α:=List QI) hU (by simp;omega) (All2.mono (fun a b h=>?_) hall) fun _ _=>trivial⟩⟩
  obtain ⟨z,rfl,hz⟩:=h
  exact ⟨z,rfl,(hz.tree (h':=g.h) (Nat.le_refl 0):SlR NoP 0 g.h a z).wd fun i hi=>hi.elim⟩
end
end Hx
end
section
namespace Hx
open Go
set_option maxRecDepth 100000
noncomputable section
def cF:SC:=sQ [oM 105 25,o 106 (.load true 2 (.t 16)),oM 107 18,o 108 (.call N.ae [.t 105,.t 106,.t 107]),oM 25 108] (sQ [o 110 (.load true 2 (.t 16)),oM 111 18,oM 112 24,o 113 (.call N.bB [.t 110,.t 111,.t 112]),oM 109 113,o 114 (.ext (.t 109) 0),o 115 (.ext (.t 109) 1),oM 26 114,oM 27 115] (sQ [oM 116 27,oM 117 25,o 118 (.bin .neq (.t 116) (.t 117)),oM 119 118,og 120 119 false (.mv (.t 25)),og 121 119 false (.bin .neq (.t 120) (qI 0)),og 122 119 false (.mv (.t 121)),og 123 122 true (.mv (.t 26)),og 124 122 true (.len .slice (.t 123)),og 125 122 true (.bin .neq (.t 124) (qI 0)),og 126 119 false (.pick (.t 122) (.t 125) (.k (.bool false))),o 127 (.pick (.t 119) (.k (.bool true)) (.t 126)),oM 128 127,og 129 128 false (.mv (.t 25)),og 130 128 false (.bin .eql (.t 129) (qI 0)),og 131 128 false (.mv (.t 130)),og 132 131 true (.mv (.t 26)),og 133 131 true (.load true 2 (.t 16)),og 134 131 true (.mv (.t 18)),og 135 131 true (.mv (.t 24)),og 136 131 true (.call N.aU [.t 133,.t 134,.t 135]),og 137 131 true (.call N.ax [.t 132,.t 136]),og 138 131 true (.not (.t 137)),og 139 128 false (.pick (.t 131) (.t 138) (.k (.bool false))),o 140 (.pick (.t 128) (.k (.bool true)) (.t 139))] (.cond (.t 140) (sQ [o 12 (.mv (.k (.bool false)))] (.ret)) (.skip))))
def ff:SC:=.ops [oA 141 88,oM 88 141]
def cI:SC:=sQ [o 89 (.bin .lss (.t 88) (qI 2))] (.seq (.cond (.t 89) (.skip) (.exit 4)) (.seq (.blk 5 (sQ [o 90 (.ix false 2 1 (.t 87) (.t 88)),oM 24 90] (sQ [oM 91 19,oM 25 91] (.seq (sQ [oM 92 25,o 93 (.bin .eql (.t 92) (qI 0)),oM 94 93,og 95 94 true (.mv (.t 24)),og 96 94 true (.bin .lss (.t 95) (qI 0)),og 97 94 true (.mv (.t 96)),og 98 97 false (.mv (.t 24)),og 99 97 false (.fad 1 (.t 16)),og 100 97 false (.load false 1 (.t 99)),og 101 97 false (.len .slice (.t 100)),og 102 97 false (.bin .geq (.t 98) (.t 101)),og 103 94 true (.pick (.t 97) (.k (.bool true)) (.t 102)),o 104 (.pick (.t 94) (.t 103) (.k (.bool false)))] (.cond (.t 104) (.ops [oK 25 2]) (.skip))) cF)))) ff))
def eJ:SC:=.ops [oA 142 43,oM 43 142]
def cH:SC:=sQ [o 44 (.bin .lss (.t 43) (qI 2))] (.seq (.cond (.t 44) (.skip) (.exit 2)) (.seq (.blk 3 (sQ [o 45 (.ix false 2 1 (.t 42) (.t 43)),oM 18 45] (sQ [o 46 (.load true 2 (.t 16)),oM 47 18,o 48 (.call N.an [.t 46,.t 47]),oM 19 48] (sQ [o 50 (.load true 2 (.t 16)),oM 51 18,o 52 (.call N.ba [.t 50,.t 51]),oM 49 52,o 53 (.ext (.t 49) 0),o 54 (.ext (.t 49) 1),oM 20 53,oM 21 54] (sQ [oM 55 19,o 56 (.load true 2 (.t 16)),oM 57 18,o 58 (.call N.ae [.t 55,.t 56,.t 57]),oM 22 58] (.seq (sQ [oM 59 21,oM 60 22,o 61 (.bin .neq (.t 59) (.t 60)),oM 62 61,og 63 62 false (.mv (.t 22)),og 64 62 false (.bin .neq (.t 63) (qI 0)),og 65 62 false (.mv (.t 64)),og 66 65 true (.mv (.t 20)),og 67 65 true (.len .slice (.t 66)),og 68 65 true (.bin .neq (.t 67) (qI 0)),og 69 62 false (.pick (.t 65) (.t 68) (.k (.bool false))),o 70 (.pick (.t 62) (.k (.bool true)) (.t 69)),oM 71 70,og 72 71 false (.mv (.t 22)),og 73 71 false (.bin .eql (.t 72) (qI 0)),og 74 71 false (.mv (.t 73)),og 75 74 true (.mv (.t 20)),og 76 74 true (.load true 2 (.t 16)),og 77 74 true (.mv (.t 18)),og 78 74 true (.call N.aV [.t 76,.t 77]),og 79 74 true (.call N.aB [.t 75,.t 78]),og 80 74 true (.not (.t 79)),og 81 71 false (.pick (.t 74) (.t 80) (.k (.bool false))),o 82 (.pick (.t 71) (.k (.bool true)) (.t 81))] (.cond (.t 82) (sQ [o 12 (.mv (.k (.bool false)))] (.ret)) (.skip))) (sQ [oM 83 4,oM 84 5,o 85 (.bin .rem (.t 84) (.k (.int .u8 5))),o 86 (.conv .i64 (.t 85)),o 87 (.build [.int .i64 0,.int .i64 0] [(0,1),(1,1)] [.t 83,.t 86]),oK 88 0] (.blk 4 (.loop cI))))))))) eJ))
def fg:SC:=.ops [oA 143 39,oM 39 143]
def fd:SC:=sQ [o 40 (.bin .lss (.t 39) (qI 2))] (.seq (.cond (.t 40) (.skip) (.exit 0)) (.seq (.blk 1 (sQ [o 41 (.ix true 2 2 (.t 38) (.t 39)),o 16 (.alloc [.int .i64 0,.nils]),oz (.store 2 (.t 16) (.t 41))] (sQ [o 42 (.load true 2 (.t 14)),oK 43 0] (.blk 2 (.loop cH))))) fg))
def eI:SC:=sQ [o 12 (.mv (.k (.bool true)))] (.ret)
def fH:SC:=.seq (sQ [o 28 (.call N.bU []),o 29 (.not (.t 28))] (.cond (.t 29) (sQ [o 12 (.mv (.k (.bool false)))] (.ret)) (.skip))) (sQ [o 31 (.load true 3 (.t 6)),o 32 (.load true 4 (.t 7)),oM 33 2,o 34 (.load true 9 (.t 9)),o 35 (.call N.bJ [.t 31,.t 32,.t 33,.t 34]),oM 30 35,o 36 (.ext (.t 30) 0),o 37 (.ext (.t 30) 1),o 13 (.alloc [.int .i64 0,.nils,.int .i64 0,.nils]),o 14 (.alloc [.nils,.nils]),oz (.store 4 (.t 13) (.t 36)),oz (.store 2 (.t 14) (.t 37))] (.seq (sQ [o 38 (.load true 4 (.t 13)),oK 39 0] (.blk 0 (.loop fd))) eI))
def dO:SF:=⟨144,[.tm 12],sQ [o 6 (.box (.t 0)),o 7 (.box (.t 1)),o 9 (.box (.t 3)),o 12 (.mv (.k (.bool false)))] fH⟩
theorem mM:nFn C0 N.bS=some dO:=by kernel_rfl
def L2 (q12 q13:Nat)(c50 i51 c54:AV)(p j:Nat):List (Nat×AV):=(15,.hptr p 0 0 0)::LR q12 q13 c50 i51 c54 (.int .i64 (j:Int))
theorem B0 (g:G):ah C0 1 N.bU [] g=.val (.bool true):=by kernel_rfl
theorem Ih (n:Net)(e:List Int):S.bk (S.an n e) n e=S.aO n e:=by
 unfold S.bk S.aO
 by_cases h:S.an n e=0
 ·rw[if_pos h]
  by_cases h2:S.aC n e=0
  ·rw[if_pos ⟨h,h2⟩,if_pos h2]
  ·rw[if_neg fun hh=>h2 hh.2,if_neg h2,h]
 ·rw[if_neg fun hh=>h hh.1,if_neg h]
theorem IA (n:Net)(e:List Int)(z:Int):S.bk (if S.an n e=0/\¬(0<=z/\z<n.nodes.length) then 2 else S.an n e) n e=S.aL n e z:=by
 unfold S.bk S.aL
 by_cases h:S.an n e=0<;>by_cases hz:0<=z/\z<n.nodes.length<;>by_cases h2:S.aC n e=0<;>simp only[h,hz,h2,not_true_eq_false,not_false_eq_true,and_self,and_true,true_and,false_and,and_false,if_true,if_false,reduceCtorEq]<;>first | rfl | simp[h]
def IV:SC:=sQ [o 90 (.ix false 2 1 (.t 87) (.t 88)),oM 24 90] (sQ [oM 91 19,oM 25 91] (.seq (sQ [oM 92 25,o 93 (.bin .eql (.t 92) (qI 0)),oM 94 93,og 95 94 true (.mv (.t 24)),og 96 94 true (.bin .lss (.t 95) (qI 0)),og 97 94 true (.mv (.t 96)),og 98 97 false (.mv (.t 24)),og 99 97 false (.fad 1 (.t 16)),og 100 97 false (.load false 1 (.t 99)),og 101 97 false (.len .slice (.t 100)),og 102 97 false (.bin .geq (.t 98) (.t 101)),og 103 94 true (.pick (.t 97) (.k (.bool true)) (.t 102)),o 104 (.pick (.t 94) (.t 103) (.k (.bool false)))] (.cond (.t 104) (.ops [oK 25 2]) (.skip))) cF))
def LPq (R:List (Nat×AV))(p:Nat)(w:AV)(no:Int)(c87:AV)(j:Nat):List (Nat×AV):=(16,.hptr p 0 0 0)::(18,w)::(19,.int .i64 no)::(87,c87)::(88,.int .i64 (j:Int))::R
def LRp (v4 v5 c38 i39 c42 i43:AV):List (Nat×AV):=[(4,v4),(5,v5),(13,.hptr 3 0 0 0),(14,.hptr 4 0 0 0),(38,c38),(39,i39),(42,c42),(43,i43)]
theorem Nd {n:Net}{e:List Int}{b w c87 v4 v5 c38 i39 c42 i43:AV}{p j:Nat}{z no:Int}{Q:QT}{t:T}{g:G}(hm:∀h,Agg n NoP 0 h (.agg [.int .i64 n.grain,b]))(he:SlR NoP 0 .nil e w)
  (hno:no=S.an n e)
  (ht:St t (LPq (LRp v4 v5 c38 i39 c42 i43) p w no c87 j)) (hix:ixV false 2 1 c87 (.int .i64 (j:Int))=.val (.int .i64 z)) (hg:g.h.get p=.cells 2 [[.int .i64 n.grain,b]] 0 false false) (hp:p<g.nx)
  (fin:∀t g',St t (LPq (LRp v4 v5 c38 i39 c42 i43) p w no c87 j)->Fr g g'->Q .norm t [] g'):wp C0 1 none IV Q t [] g:=by
 have he':∀h,SlR NoP 0 h e w:=fun h=>he.tree (Nat.le_refl 0)
 have lb:∀g,eG .slice b g=.val (.int .i64 (n.nodes.length:Int)):=by
  obtain ⟨b',rows,eb,e1,hm',hN,r1,r2,r3,r4⟩:=cJ (g:=g) 0 (hm _)
  injection eb with eb;injection eb with _ eb;injection eb with eb _
  subst eb
  exact hN.len
 obtain ⟨no2,hno2⟩:∃no2,no2=if S.an n e=0/\¬(0<=z/\z<n.nodes.length) then 2 else S.an n e:=⟨_,rfl⟩
 have kP:∀g,ah C0 1 N.ae [.int .i64 no2,.agg [.int .i64 n.grain,b],w] g=.val (.int .i64 (S.aL n e z)):=fun g=>by
  rw[wj (by decide) (hm _) he fun h=>?_,hno2,IA]
  refine gE.1 ?_
  rw[hno2] at h
  by_cases hc:S.an n e=0/\¬(0<=z/\z<n.nodes.length)
  ·rw[if_pos hc] at h;cases h
  ·rw[if_neg hc] at h;exact h
 unfold IV
 refine be (P:=fun t' df g'=>df=[]/\g'=g/\St t' ((24,.int .i64 z)::LPq (LRp v4 v5 c38 i39 c42 i43) p w no c87 j)) ?_ ?_
 ·obtain ⟨h16,h18,h19,h87,h88,h4,h5,h13,h14,h38,h39,h42,h43,-⟩:=ht
  simp only[sz,simprocAttr,h87,h88,hix]
  simp[St,LPq,LRp,sx,h16,h18,h19,h87,h88,h4,h5,h13,h14,h38,h39,h42,h43]
 clear ht
 rintro t df g1 ⟨rfl,rfl,ht⟩
 refine be (P:=fun t' df g'=>df=[]/\g'=g1/\St t' ((24,.int .i64 z)::(25,.int .i64 no)::LPq (LRp v4 v5 c38 i39 c42 i43) p w no c87 j)) ?_ ?_
 ·obtain ⟨h24,h16,h18,h19,h87,h88,h4,h5,h13,h14,h38,h39,h42,h43,-⟩:=ht
  simp only[sz,simprocAttr,h19]
  simp[St,LPq,LRp,sx,h24,h16,h18,h19,h87,h88,h4,h5,h13,h14,h38,h39,h42,h43]
 clear ht
 rintro t df g2 ⟨rfl,rfl,ht⟩
 refine dU (P:=fun t' df g'=>df=[]/\g'=g2/\St t' ((24,.int .i64 z)::(25,.int .i64 no2)::LPq (LRp v4 v5 c38 i39 c42 i43) p w no c87 j)) ?_ ?_
 ·obtain ⟨h24,h25,h16,h18,h19,h87,h88,h4,h5,h13,h14,h38,h39,h42,h43,-⟩:=ht
  by_cases h0:no=0
  ·have hz0:S.an n e=0:=by rw[<-hno,h0]
   by_cases c1:z<0
   ·have hN2:no2=2:=by rw[hno2,if_pos ⟨hz0,by omega⟩]
    simp only[sz,simprocAttr,h25,h0,h24,c1]
    simp[St,LPq,LRp,sx,h24,h16,h18,h19,h87,h88,h4,h5,h13,h14,h38,h39,h42,h43,hN2,h0]
   ·by_cases c2:(n.nodes.length:Int)<=z
    ·have hN2:no2=2:=by rw[hno2,if_pos ⟨hz0,by omega⟩]
     simp only[sz,simprocAttr,h25,h0,h24,c1,h16,hg,lb,c2]
     simp[St,LPq,LRp,sx,h24,h16,h18,h19,h87,h88,h4,h5,h13,h14,h38,h39,h42,h43,hN2,h0]
    ·have hN2:no2=0:=by rw[hno2,if_neg (fun hh=>hh.2 (by omega)),hz0]
     simp only[sz,simprocAttr,h25,h0,h24,c1,h16,hg,lb,c2]
     simp[St,LPq,LRp,sx,h24,h16,h18,h19,h25,h87,h88,h4,h5,h13,h14,h38,h39,h42,h43,hN2,h0]
  ·have hN2:no2=no:=by rw[hno2,if_neg (fun hh=>h0 (by rw[hno];exact hh.1)),hno]
   simp only[sz,simprocAttr,h25,h0]
   simp[St,LPq,LRp,sx,h24,h25,h16,h18,h19,h87,h88,h4,h5,h13,h14,h38,h39,h42,h43,hN2]
 clear ht
 rintro t df g3 ⟨rfl,rfl,ht⟩
 unfold cF
 refine be (P:=fun t' df g'=>df=[]/\g'=g3/\St t' ((24,.int .i64 z)::(25,.int .i64 (S.aL n e z))::LPq (LRp v4 v5 c38 i39 c42 i43) p w no c87 j)) ?_ ?_
 ·obtain ⟨h24,h25,h16,h18,h19,h87,h88,h4,h5,h13,h14,h38,h39,h42,h43,-⟩:=ht
  simp only[sz,simprocAttr,h25,h16,h18,hg,kP]
  simp[St,LPq,LRp,sx,h24,h16,h18,h19,h87,h88,h4,h5,h13,h14,h38,h39,h42,h43]
 clear ht
 rintro t df g4 ⟨rfl,rfl,ht⟩
 refine be (P:=fun t' df g'=>df=[]/\g'=g4/\∃u,SlR NoP 0 .nil (S.aU n e z) u/\St t' ((24,.int .i64 z)::(25,.int .i64 (S.aL n e z))::(26,u)::(27,.int .i64 (S.aL n e z))::LPq (LRp v4 v5 c38 i39 c42 i43) p w no c87 j)) ?_ ?_
 ·obtain ⟨h24,h25,h16,h18,h19,h87,h88,h4,h5,h13,h14,h38,h39,h42,h43,-⟩:=ht
  simp only[sz,simprocAttr,h24,h16,h18,hg]
  refine bi (zi (by decide) (hm _) (he' _)) ?_
  rintro _ ⟨u,c,rfl,hu,hc⟩
  rw[aI.1 hc |> List.cons.inj |>.1]
  simp only[sz,simprocAttr]
  obtain ⟨u',hu',hu⟩:=a8.1 hu
  injection hu' with hu';subst hu'
  exact ⟨u,hu,by simp[St,LPq,LRp,sx,h24,h25,h16,h18,h19,h87,h88,h4,h5,h13,h14,h38,h39,h42,h43]⟩
 clear ht
 rintro t df g5 ⟨rfl,rfl,u,hu,h24,h25,h26,h27,h16,h18,h19,h87,h88,h4,h5,h13,h14,h38,h39,h42,h43,-⟩
 have lu:=hu.len
 by_cases hE:S.aL n e z=0
 ·have hz0:S.an n e=0/\(0<=z/\z<n.nodes.length)/\S.aC n e≠0:=by
   unfold S.aL at hE
   by_cases ha:S.an n e=0
   ·rw[if_pos ha] at hE
    by_cases hb:0<=z/\z<n.nodes.length
    ·rw[if_pos hb] at hE
     by_cases hc:S.aC n e=0
     ·rw[if_pos hc] at hE;cases hE
     ·exact ⟨ha,hb,hc⟩
    ·rw[if_neg hb] at hE;cases hE
   ·rw[if_neg ha] at hE;exact absurd hE ha
  obtain ⟨b1,b2⟩:=gE.1 hz0.1
  have hnr:=di.1 b1
  obtain ⟨el,-⟩:=ub b2
  obtain ⟨vn,rfl⟩:=Int.eq_ofNat_of_zero_le hz0.2.1.1
  have hj:S.aU n e (vn:Int)=S.aq n e vn:=by rw[S.aU,if_pos hE];rfl
  rw[hj] at hu
  rw[hE] at h25 h27
  obtain ⟨r,er,hr⟩:=rW (d:=1) (g:=g5) (by decide) (hm _) hnr he el (v:=vn) (by omega) hz0.2.2
  obtain ⟨u2,hu2,hr2⟩:=a8.1 hr
  injection hu2 with hu2;subst hu2
  have kS:∀g,ah C0 1 N.ax [u,r] g=.val (.bool true):=fun g=>Do (by decide) hu hr2
  simp only[sz,simprocAttr,h27,h25,h26,h16,h18,h24,hg,er,kS]
  exact fin _ _ (by simp[St,LPq,LRp,sx,h16,h18,h19,h87,h88,h4,h5,h13,h14,h38,h39,h42,h43]) (Fr.refl _)
 ·have hj:S.aU n e z=[]:=by rw[S.aU,if_neg hE]
  rw[hj] at lu
  simp only[sz,simprocAttr,h27,h25,h26,hE,lu,List.length_nil]
  exact fin _ _ (by simp[St,LPq,LRp,sx,h16,h18,h19,h87,h88,h4,h5,h13,h14,h38,h39,h42,h43]) (Fr.refl _)
end
end Hx
end
