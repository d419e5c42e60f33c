/- A part of the proof: an interpreter over abstract values, shown right against the model, and what the functions of the chapter compute on it. -/
import Derived.Test.YteaikmdilmfbeaaGreatHx11
set_option linter.unusedVariables false
set_option linter.unusedSimpArgs false
set_option linter.unnecessarySimpa false
section
namespace Hx
open Go
noncomputable section
structure FOk (m:Nat) (f:Factor):Prop where
 cl:f.cards.length=f.vars.length
 vl:f.vars.length<=16
 cb:∀c∈f.cards,1<=c/\c<=4
 nd:f.vars.Nodup
 vr:∀y∈f.vars,0<=y/\y<m
theorem FG {n:Net}(h:NR n){k:Nat}{x:Node}(hx:n.nodes[k]?=some x){p:Nat}(hp:p<=x.parents.length):FOk n.nodes.length (S.aL n k x p):=by have h1:=dK (h.places x (List.mem_of_getElem? hx)) (by omega);have h2:=h.l2;have h3:=qe x.parents p (k:Int) hp;exact ⟨rt _ _,by show (S.aw x.parents p (k:Int)).length<=16;omega,Eg h hx p,Ga h hx p,vo h hx p⟩
structure AskH (gr:Int) (b fl S_:AV) (m q:Nat) (fs:List Factor) (k:Nat) (g:G):Prop where
 h0:g.h.get 0=.cells 2 [[.int .i64 gr,b]] 0 false false
 h1:g.h.get 1=.cells 4 [[.int .i64 0,.nils,.nils,.nils]] 0 false false
 hq:g.h.get q=.cells 4 [[.int .i64 gr,b,fl,S_]] 0 false false
 q2:2<=q/\q<g.nx
 sq:∀i,vid S_=some i->i<q
 hS:∃(Vs:List AV) (l:List (List Int)),Own g 2 S_ 1 (Vs.map λv=>[v])/\Vs.length=m/\l.length=k/\All2 (λX v=>Own g (q+1) v 1 (X.map ci)) l (Vs.take k)/\∀(i:Nat) (f:Factor) (X:List Int),fs[i]?=some f->l[i]?=some X->S.bI m f 0 X
structure AskJ (gr:Int) (b fl S_:AV) (m q:Nat) (fs:List Factor) (k:Nat) (t:T) (g:G):Prop where
 st:St t [(11,.hptr q 0 0 0),(2,.hptr 0 0 0 0),(4,.hptr 1 0 0 0),(45,fl)]
 hp:AskH gr b fl S_ m q fs k g
theorem JF {d m q:Nat}{gr:Int}{b fl S_:AV}{fs:List Factor}{Q:QT}{t:T}{g:G}(hb:∀g,dz .slice b g=.val (.int .i64 (m:Int)))(hm:m<=8)(hfl:SlR NoP 0 .nil fs fl)(hfm:fs.length=m)(hok:∀(i:Nat) (f:Factor),fs[i]?=some f->FOk m f)
  (h0:AskJ gr b fl S_ m q fs 0 t g) (h47:tat t 47=.int .i64 0) (h46:tat t 46=.int .i64 (m:Int))
  (fin:∀t g,AskJ gr b fl S_ m q fs m t g->Q (.exit 2) t [] g):wpL (wp C0 d none km) Q t [] g:=by
 obtain ⟨rows,r1,r2,r3,r4⟩:=hfl.all;have r1:∀h',ae h' 3 fl=some rows:=r1;simp only[km,pp];refine aI (m:=m) (by omega) (λk t df g=>df=[]/\AskJ gr b fl S_ m q fs k t g) ⟨rfl,h0⟩ h47 h46 (by decide)
  (by rintro j t df g v s (rfl | rfl | rfl) ⟨a1,⟨b1,b2,b3,b4,-⟩,c1⟩<;>exact ⟨a1,by simp[St,sx,b1,b2,b3,b4],c1⟩) ?_ ?_
 ·rintro k t df g hk ⟨rfl,⟨h11,h2,h4,h45,-⟩,hp⟩ h47 h46;obtain ⟨f,hf,-,-⟩:=ac (l:=fs) (j:=k) (by omega);obtain ⟨row,q1,q2⟩:=r3 k f hf;obtain ⟨va,ca,wa,rfl,hva,hca,hwa⟩:=nj.1 q2;have hF:=hok k f hf;have hlt:k<rows.length:=by omega
  have hry:=r4 (by omega);obtain ⟨Vs,l,hS,hVl,hll,hal,hst⟩:=hp.hS;obtain ⟨q2a,q2b⟩:=hp.q2;have ne0:∀i,i<g.nx->¬i=g.nx:=λi hi=>by omega
  refine dM (P:=λt' df g'=>df=[]/\g'=(g.new (.cells 3 [[.nils,.nils,.nils]] 0 false false)).put g.nx (.cells 3 [[va,ca,wa]] 0 false false)/\St t' ((13,.hptr g.nx 0 0 0)::(12,.int .i64 (k:Int))::zq fl m q k)) ?_ ?_
  ·simp only[sz,simprocAttr,h45,h47,r1,hlt,q1];simp[St,zq,sx,h11,h2,h4,h45,h47,h46]
  clear h11 h2 h4 h45 h47 h46;rintro t df g1 ⟨rfl,hg1,⟨h13,h12,h11,h2,h4,h45,h46,h47,-⟩⟩;have f1:∀i,i<g.nx->g1.h.get i=g.h.get i:=λi hi=>by rw[hg1];simp[H.get_put,ne0 i hi]
  have n1:g1.nx=g.nx+1:=by rw[hg1];simp
  have k1:g1.h.get g.nx=.cells 3 [[va,ca,wa]] 0 false false:=by rw[hg1];simp[H.get_put]
  clear hg1;have e0:g1.h.get 0=.cells 2 [[.int .i64 gr,b]] 0 false false:=by rw[f1 0 (by omega),hp.h0]
  have eq:g1.h.get q=.cells 4 [[.int .i64 gr,b,fl,S_]] 0 false false:=by rw[f1 q (by omega),hp.hq]
  have hS1:Own g1 2 S_ 1 (Vs.map λv=>[v]):=hS.fr (by omega) λi hi=>f1 i (hS.lt hi).2;have rS:=hS1.rows;have hkV:k<(Vs.map λv=>[v]).length:=by simp;omega
  have hgV:(Vs.map λv=>[v])[k]?=some [Vs[k]'(by omega)]:=by rw[List.getElem?_map,List.getElem?_eq_getElem (by omega)];rfl
  refine gY (P:=λt' df g'=>df=[]/\St t' ((13,.hptr g.nx 0 0 0)::(12,.int .i64 (k:Int))::zq fl m q k)/\g1.nx<g'.nx/\∃R iR,vid R=some iR/\g1.nx<=iR/\iR<g'.nx/\Own g' 2 S_ 1 ((Vs.set k R).map λv=>[v])/\Own g' (q+1) R 1 ((List.replicate m (0:Int)).map ci)/\∀i,i<g1.nx->vid S_≠some i->g'.h.get i=g1.h.get i) ?_ ?_
  ·simp only[sz,simprocAttr,sf,h11,h2,h12,e0,eq,hb];refine kX (b:=q+1) (n:=m) (by unfold aQ;omega) (by unfold aQ;omega) (by simp;omega) λR g2 hR n2 f2 vR lg2=>?_;simp only[sy] at n2 f2 vR lg2;have hS2:Own g2 2 S_ 1 (Vs.map λv=>[v]):=hS1.fr (by omega) λi hi=>by have:=hS1.lt hi;rw[f2 i (by omega)]
   have rS2:=hS2.rows;simp only[sz,simprocAttr,sf,rS2,hkV];refine bB (v:=S_) (sz:=1) (n:=1) (i:=k) (off:=0) (x:=R) (row':=[R]) (hS2.fr (by simp;omega) λi _=>by simp) hgV (by rw[hR.cell.1];rfl) hR.cell.2 (by rw[hR.cell.1];rfl) λg4 hu4 n4 f4=>?_;rw[show (Vs.map λv=>[v]).set k [R]=(Vs.set k R).map λv=>[v] from by rw[List.map_set]] at hu4;have f4':∀i,vid S_≠some i->g4.h.get i=g2.h.get i:=λi hi=>by rw[f4 i hi];simp
   have n4':g2.nx<=g4.nx:=by rw[n4];simp;omega
   simp only[sy,lg2];refine ⟨?_,?_,?_,R,g1.nx+6,vR,by omega,?_,?_,?_,λi h1 h2=>?_⟩
   ·simp only[List.reverse_cons,List.reverse_nil,List.nil_append,List.cons_append];refine aZ [false,false,false,false,false,false,true,false,true] [(0,6),(1,6),(2,6)] (by simp[All2,an,aD]) (by decide) ?_;rintro p hp' x y hx hy;simp only[List.mem_cons,List.not_mem_nil,or_false] at hp';rcases hp' with rfl | rfl | rfl<;>(simp at hx hy;subst hx;subst hy;refine gP rfl rfl rfl rfl ?_ ?_ ?_<;>simp[an,aD,af]<;>omega)
   ·simp[St,zq,sx,h13,h12,h11,h2,h4,h45,h46,h47]
   ·omega
   ·omega
   ·exact hu4.fr (by simp) λi _=>by simp
   ·have hR':Own g2 (q+1) R 1 ((List.replicate m (0:Int)).map ci):=by simpa [ci] using hR
    refine hR'.fr (by simp;omega) λi hi=>?_;have:=ff vR hi;simp only[bumpG_h];exact f4' i λe=>by have:=hS1.lt e;omega
   ·rw[f4' i h2,f2 i (by omega)]
  clear h13 h12 h11 h2 h4 h45 h46 h47;rintro t df g2 ⟨rfl,⟨h13,h12,h11,h2,h4,h45,h46,h47,-⟩,n2,R,iR,vR,hiR,hiR2,hS2,hR,f2⟩;have e13:g2.h.get g.nx=.cells 3 [[va,ca,wa]] 0 false false:=by rw[f2 g.nx (by omega) (λe=>by have:=hp.sq _ e;omega),k1]
  have e11:g2.h.get q=.cells 4 [[.int .i64 gr,b,fl,S_]] 0 false false:=by rw[f2 q (by omega) (λe=>by have:=hp.sq _ e;omega),eq]
  have lva:=hva.len;have hvl:=hF.vl;have hR2:Own g2 2 R 1 ((List.replicate m (0:Int)).map ci):=Own.low hR (by omega);have w1:IntKind.wrap .i64 ((f.vars.length:Int) - 1)=(f.vars.length:Int) - 1:=aB (by omega) (by omega);have hgV2:((Vs.set k R).map λv=>[v])[k]?=some [R]:=by rw[List.getElem?_map,List.getElem?_set_self (by omega)];rfl
  simp only[sz,simprocAttr,h13,e13,lva,w1];refine JE (g0:=g2) (fl:=fl) (fl':=fl) (m:=m) (q:=q) (k:=k) (fb:=g.nx) (iR:=iR) (R:=R) (S_:=S_) (b:=b) (gr:=gr) (va:=va) (ca:=ca) (wa:=wa) (f:=f) (rowsS:=(Vs.set k R).map λv=>[v]) hva hca hF.cl hF.vl hF.cb hF.nd hF.vr e11 e13 hS2 hgV2 vR (λe=>by have:=hp.sq _ e;omega) ⟨by omega,by omega⟩ ⟨by omega,by omega,by omega⟩
   ⟨by simp[St,zq,sx,h13,h12,h11,h2,h4,h45,h46,h47,S.ae,List.drop_of_length_le (show f.cards.length<=f.vars.length by rw[hF.cl];exact Nat.le_refl _)],Nat.le_refl _,λ_ _ _=>rfl,List.replicate m 0,hR2,by simp,λj y hj hy=>?_⟩ (by simp[sx]) ?_
  ·have:=(List.getElem?_eq_some_iff.1 hy).1;omega
  clear h13 h12 h11 h2 h4 h45 h46 h47;rintro t g3 ⟨⟨h13,h12,h14,h11,h2,h4,h45,h46,h47,-⟩,n3,f3,X,hX,hXo⟩;simp only[sx,sy,↓reduceIte];have hfin:∀i,i<g.nx->vid S_≠some i->g3.h.get i=g.h.get i:=λi h1 h2=>by rw[f3 i (by omega) (by omega),f2 i (by omega) h2,f1 i h1]
  refine ⟨⟨by simp[St,h11,h2,h4,h45],?_⟩,h47,h46⟩;have hsl:∀i,i<2\/i=q->vid S_≠some i:=λi hi e=>by have:=hp.sq i e;have:=(hS.lt e).1;omega
  refine ⟨by rw[hfin 0 (by omega) (hsl 0 (by omega)),hp.h0],by rw[hfin 1 (by omega) (hsl 1 (by omega)),hp.h1],by rw[hfin q q2b (hsl q (by omega)),hp.hq],⟨q2a,by omega⟩,hp.sq,Vs.set k R,l++[X],hS2.fr n3 λi hi=>f3 i (hS2.lt hi).2 λe=>by have:=hp.sq i hi;omega,by simpa using hVl,by simp[hll],?_,?_⟩
  ·have htk:(Vs.set k R).take (k+1)=Vs.take k++[R]:=by
    rw[List.take_add_one,List.take_set_of_le (Nat.le_refl _),List.getElem?_set_self (by omega)]
    rfl
   rw[htk];refine (hal.mono λX' v r=>?_).append ⟨?_,trivial⟩
   ·exact r.fr (by omega) λi hi=>by have:=r.lt hi;exact hfin i this.2 λe=>by have:=hp.sq i e;omega
   ·rcases hX with h | ⟨id,ep,lo,p1,p2,rfl,p4⟩
    ·exact .inl h
    ·injection vR with vR;exact .inr ⟨id,ep,lo,by omega,p2,rfl,p4⟩
  ·intro i f' X' hf' hX'
   by_cases hi:i<l.length
   ·rw[List.getElem?_append_left hi] at hX';exact hst i f' X' hf' hX'
   ·have h1:=(List.getElem?_eq_some_iff.1 hX').1;have:i=k:=by simp at h1;omega
    subst this;rw[hf] at hf';injection hf' with hf';subst hf';rw[List.getElem?_append_right (by omega),hll,Nat.sub_self] at hX';simp at hX';subst hX';exact hXo
 ·rintro t df g ⟨rfl,h⟩;exact fin t g h
theorem IU (n:Net)(ls:List (List Int)):Snb (HJ n ls) 2:=jR λy=>iG (m:=2) (iF _) (be _) (by decide) (by decide)
def qn0:QnM:=(⟨0,[]⟩,[],[])
theorem G9 (P:Nat->Prop)(h:H):Agg qn0 P 0 h (.agg [.int .i64 0,.nils,.nils,.nils]):=⟨_,rfl,tH.2 ⟨.nils,.nils,.nils,rfl,⟨by show 0<9223372036854775808;decide,rfl⟩,⟨by show 0<9223372036854775808;decide,rfl⟩,⟨by show 0<9223372036854775808;decide,rfl⟩⟩⟩
theorem Bt {a b c w:AV}(h:w.cells=[w])(h2:w.isTup=false)(h3:b.cells=[b])(h4:b.isTup=false):ea [.int .i64 0,.nils,.nils,.nils] [((0,2),.agg [a,c]),((2,1),b),((3,1),w)]=some [a,c,b,w]:=by
 have k1:(AV.agg [a,c]).cells=[a,c]:=rfl;have k2:(AV.agg [a,c]).isTup=false:=rfl;simp[ea,h,h2,h3,h4,eQ,k1,k2]
 rfl
theorem JG {d kk:Nat}{P:Nat->Prop}{g:G}{v w:AV}{n:Net}{ls:List (List Int)}(hd:0<d)(hm:Agg n NoP 0 g.h v)(hw:SlR P kk g.h ls w):∃r,ax C0 d N.aO [v,w] g=.val r/\HJ n ls NoP 0 .nil r:=by
 obtain ⟨b,rows,rfl,e1,hm',hN,r1,r2,r3,r4⟩:=kY d hm;obtain ⟨w',e2,hw'⟩:=ch hw d;obtain ⟨wrows,p1,p2,p3,p4⟩:=(hw' .nil).all;have p1:∀h',ae h' 1 w'=some wrows:=p1;have hwl:=hw.1;have wl:=λg=>(hw' .nil).len g;rw[uJ];refine br yH (xs:=[.agg [.int .i64 n.grain,b],w']) (by simp only[aE,e1,e2]) (by simp[pj]) (IU n ls) (by decide) hd ?_;simp only[sz,simprocAttr,pj];obtain ⟨g0,hg0⟩:∃g0,g0=(G.empty.new (.cells 2 [[.int .i64 n.grain,b]] 0 false false)).new (.cells 4 [[.int .i64 0,.nils,.nils,.nils]] 0 false false):=⟨_,rfl⟩;rw[<-hg0];have f0:g0.h.get 0=.cells 2 [[.int .i64 n.grain,b]] 0 false false:=by rw[hg0];simp[sx,H.get_put]
 have f1:g0.h.get 1=.cells 4 [[.int .i64 0,.nils,.nils,.nils]] 0 false false:=by rw[hg0];simp[sx]
 have f2:g0.nx=2:=by rw[hg0];simp[sx]
 clear hg0;simp only[qD];obtain ⟨z,ez,fs,⟨hfl,hfs⟩,fl,er,rfl,hfl2,her⟩:=H8 (d:=d+1) (g:=g0) (Nat.succ_pos d) (hm' g0.h);have her:=aF.1 her;injection her with her;subst her;obtain ⟨_,e3,hfl2⟩:=hfl2;injection e3 with e3;subst e3;cases hn:S.aN n with
 | false =>
  have hs:S.a9 n ls=50:=by rw[S.a9,hn];rfl
  rw[hn] at ez;simp only[Bool.false_eq_true,↓reduceIte] at ez;simp only[sz,simprocAttr,f0,ez,show ¬((50:Int)=0) from by decide,f1];refine ⟨λ_=>True,qn0,?_,_,_,rfl,?_,?_⟩
  ·rw[hs];intro h;cases h
  ·exact G9 _ _
  ·rw[hs];exact aF.2 rfl
 | true =>
  have hr:=dI.1 hn;have hfl:=hfl hn;rw[hn] at ez;simp only[↓reduceIte] at ez;refine gY (P:=λt' df g'=>df=[]/\g'=g0/\St t' [(1,w'),(2,.hptr 0 0 0 0),(4,.hptr 1 0 0 0),(6,fl),(7,.int .i64 0)]) ?_ ?_
  ·simp only[sz,simprocAttr,f0,ez];simp[St,sx]
  rintro t df g1 ⟨rfl,rfl,h1,h2,h4,h6,h7,-⟩;obtain ⟨Qf,hQf⟩:∃Qf,Qf=fnQ C0 (d+1) [SR.cell true 4 4,SR.tm 5] (λv g'=>∃P,HJ n ls P 0 g'.h v):=⟨_,rfl⟩;rw[<-hQf];simp only[sz,simprocAttr,h1,h7,wl,po];refine aI (m:=ls.length) hwl (λj t df g=>df=[]/\St t [(25,w'),(2,.hptr 0 0 0 0),(4,.hptr 1 0 0 0),(6,fl)]/\g=g1/\∀e∈ls.take j,S.aD n e=true) ⟨rfl,by simp[St,sx,h2,h4,h6],rfl,by simp⟩ (by simp[sx]) (by simp[sx]) (by decide)
   (by rintro j t df g v s (rfl | rfl | rfl) ⟨a1,⟨b1,b2,b3,b4,-⟩,c1,c2⟩<;>exact ⟨a1,by simp[St,sx,b1,b2,b3,b4],c1,c2⟩) ?_ ?_
  ·rintro j t df g hj ⟨rfl,⟨h25,h2,h4,h6,-⟩,rfl,hall⟩ h27 h26;obtain ⟨e,he,htk,hem⟩:=ac hj;obtain ⟨row,q1,q2⟩:=p3 j e he;obtain ⟨z,rfl,hz⟩:=dL.1 q2;have hlt:j<wrows.length:=by omega
   have hch:=zG (d:=d+1) (g:=g) (e:=e) (w:=z) (Nat.succ_pos d) (hm' g.h) (hz.tree (h':=g.h) (Nat.le_refl _));cases hev:S.aD n e with
   | true =>
    have hs:S.aB n e=0:=by rw[S.aB,hn,hev];rfl
    rw[hs] at hch;simp only[sz,simprocAttr,h25,h27,h26,h2,p1,hlt,q1,f0,hch];refine ⟨by simp[St,sx,h2,h4,h6,h25],λy hy=>?_⟩;rw[htk] at hy;rcases List.mem_append.1 hy with h | h
    ·exact hall y h
    ·rw[List.mem_singleton.1 h];exact hev
   | false =>
    have hs:S.aB n e=2:=by rw[S.aB,hn,hev];rfl
    have hs2:S.a9 n ls=2:=by
     have:ls.all (S.aD n)=false:=by rw[<-Bool.not_eq_true,List.all_eq_true];intro h;rw[h e hem] at hev;cases hev
     rw[S.a9,hn,this];rfl
    rw[hs] at hch;rw[hQf];simp only[sz,simprocAttr,h25,h27,h2,h4,p1,hlt,q1,f0,f1,hch,show ¬((2:Int)=0) from by decide];refine ⟨λ_=>True,qn0,?_,_,_,rfl,?_,?_⟩
    ·rw[hs2];intro h;cases h
    ·exact G9 _ _
    ·rw[hs2];exact aF.2 rfl
  ·rintro t df g ⟨rfl,⟨h25,h2,h4,h6,-⟩,rfl,hall⟩;rw[List.take_length] at hall;have hs:S.a9 n ls=0:=by rw[S.a9,hn,List.all_eq_true.2 hall];rfl
   have hl8:=hr.l2;have fll:=λg=>hfl2.len g;simp only[sx,↓reduceIte];unfold pt;refine gY (P:=λt' df g'=>df=[]/\∃S_ q,St t' [(2,.hptr 0 0 0 0),(4,.hptr 1 0 0 0),(6,fl),(11,.hptr q 0 0 0)]/\AskH n.grain b fl S_ n.nodes.length q fs 0 g') ?_ ?_
   ·simp only[sz,simprocAttr,sf,h2,h6,f0,fll,hfl];refine kX (b:=2) (n:=n.nodes.length) (by unfold aQ;omega) (by unfold aQ;omega) (by first | (simp;done) | (simp;omega)) λS_ g2 hS n2 f2' vS lg2=>?_;simp only[sy] at n2 f2' vS lg2;have hflc:fl.cells=[fl]/\fl.isTup=false:=by
     have h:=hfl2.2;unfold SlV at h
     split at h<;>first | exact ⟨rfl,rfl⟩ | exact h.elim
    simp only[sz,simprocAttr,sf,Bt hS.cell.1 hS.cell.2 hflc.1 hflc.2,lg2];have n2':g.nx+5=g2.nx:=by omega
    have k0:g2.h.get 0=.cells 2 [[.int .i64 n.grain,b]] 0 false false:=by rw[f2' 0 (by omega),f0]
    have k1:g2.h.get 1=.cells 4 [[.int .i64 0,.nils,.nils,.nils]] 0 false false:=by rw[f2' 1 (by omega),f1]
    refine ⟨?_,S_,g2.nx+1+1,by simp[St,sx,h2,h4,h6],⟨?_,?_,?_,⟨by omega,by simp⟩,λi hi=>by have:=ff vS hi;omega,List.replicate n.nodes.length .nils,[],?_,by simp,rfl,trivial,λi f X _ h=>by simp at h⟩⟩
    ·simp only[List.reverse_cons,List.reverse_nil,List.nil_append,List.cons_append,G.new_lg,G.put_lg,setLog_lg];refine aZ [false,false,false,false,true,false,true,true] [(0,4),(1,4),(0,6),(1,6),(2,6),(3,6),(4,6),(5,6)] (by simp[All2,an,aD]) (by decide) ?_;rintro p hp' x y hx hy;simp only[List.mem_cons,List.not_mem_nil,or_false] at hp';rcases hp' with rfl | rfl | rfl | rfl | rfl | rfl | rfl | rfl<;>(simp at hx hy;subst hx;subst hy;refine gP rfl rfl rfl rfl ?_ ?_ ?_<;>simp[an,aD,af]<;>omega)
    ·simp[H.get_put,k0]
    ·simp[H.get_put,k1]
    ·simp[H.get_put]
    ·have hS':Own g2 2 S_ 1 ((List.replicate n.nodes.length AV.nils).map λv=>[v]):=by simpa using hS
     refine hS'.fr (by simp;omega) λi hi=>?_;have:=ff vS hi;simp[H.get_put,show ¬i=g2.nx+1+1 by omega]
   clear h25 h2 h4 h6;rintro t df g2 ⟨rfl,S_,q,⟨h2,h4,h6,h11,-⟩,hp⟩;have hbl:=hN.len;simp only[sz,simprocAttr,h6,fll,hfl];refine JF (m:=n.nodes.length) (q:=q) (gr:=n.grain) (b:=b) (fl:=fl) (S_:=S_) (fs:=fs) hbl hl8 hfl2 hfl (λi f hf=>?_) ⟨by simp[St,sx,h2,h4,h11],hp⟩ (by simp[sx]) (by simp[sx]) ?_
   ·have hi:=(List.getElem?_eq_some_iff.1 hf).1;obtain ⟨x,hx,-,-⟩:=ac (l:=n.nodes) (j:=i) (by omega);obtain ⟨p,hpp,hf2⟩:=hfs i x hi hx;rw[hf] at hf2;injection hf2 with hf2;subst hf2;exact FG hr hx hpp
   clear h2 h4 h6 h11 hp;rintro t g3 ⟨⟨h11,h2,h4,h45,-⟩,hp⟩;obtain ⟨Vs,l,hS,hVl,hll,hal,hst⟩:=hp.hS;rw[List.take_of_length_le (by omega)] at hal;rw[hQf];have q2:=hp.q2.1;simp only[sz,simprocAttr,pq,h11,h4,hp.hq,hp.h1];have hne:∀i,i≠1->(g3.h.put 1 (.cells 4 [[.int .i64 n.grain,b,fl,S_]] 0 false false)).get i=g3.h.get i:=λi hi=>by simp[H.get_put,hi]
   refine ⟨λ_=>True,(n,fs,l),λ_=>⟨rfl,hfl,hfs,hll,hst⟩,_,_,rfl,⟨_,rfl,tH.2 ⟨b,fl,S_,rfl,hN.wide (Nat.le_refl 0),hfl2.wide (Nat.le_refl 0),?_⟩⟩,?_⟩
   ·have hS':Own (g3.put 1 (.cells 4 [[.int .i64 n.grain,b,fl,S_]] 0 false false)) 2 S_ 1 (Vs.map λv=>[v]):=hS.fr (by simp) λi hi=>by have:=(hS.lt hi).1;simp[H.get_put,show ¬i=1 by omega]
    refine Own.sl (α:=List Int) hS' (by show l.length<_;omega) ?_ λ_ _=>trivial;have hal2:∀(l:List (List Int)) (Vs:List AV),All2 (λX v=>Own g3 (q+1) v 1 (X.map ci)) l Vs->(∀X∈l,X.length<9223372036854775808)->All2 (Rp.rp (λ_=>True) 0 (g3.put 1 (.cells 4 [[.int .i64 n.grain,b,fl,S_]] 0 false false)).h) l (Vs.map λv=>[v]):=by
     intro l
     induction l with
     | nil=>intro Vs h _;cases Vs with
      | nil=>trivial
      | cons v Vs=>exact h.elim
     | cons X l ih=>intro Vs h hX;cases Vs with
      | nil=>exact h.elim
      | cons v Vs =>
       refine ⟨?_,ih Vs h.2 λY hY=>hX Y (by simp[hY])⟩;have ho:Own (g3.put 1 (.cells 4 [[.int .i64 n.grain,b,fl,S_]] 0 false false)) (q+1) v 1 (X.map ci):=h.1.fr (by simp) λi hi=>by have:=(h.1.lt hi).1;simp[H.get_put,show ¬i=1 by omega]
       obtain ⟨_,e1,hh⟩:=ho.ints (k:=0) (hX X (by simp));exact dL.2 ⟨_,e1,hh⟩
    refine hal2 l Vs hal λX hX=>?_;obtain ⟨i,hi,he⟩:=List.mem_iff_getElem.1 hX;have:=(hst i _ X (List.getElem?_eq_getElem (show i<fs.length by omega)) (by rw[List.getElem?_eq_getElem hi,he])).1;omega
   ·rw[hs];exact aF.2 rfl
theorem yN {α:Type}{l:List α}{i:Nat}{x y:α}(h1:l[i]?=some x)(h2:l[i]?=some y):x=y:=by rw[h1] at h2;injection h2
structure WtI (y:QnM) (b fl S_ wv va ca wa:AV) (gr wt:Int) (p:Int) (cards pv:List Int) (m k fb i:Nat) (t:T) (g:G):Prop where
 st:St t [(1,wv),(2,.hptr 0 0 0 0),(12,fl),(13,.int .i64 (m:Int)),(14,.int .i64 (k:Int)),(5,.int .i64 wt),(6,.int .i64 (k:Int)),(7,.hptr fb 0 0 0),(20,va),(8,.int .i64 (p - S.af (cards.drop i) (pv.drop i)))]
 h0:g.h.get 0=.cells 4 [[.int .i64 gr,b,fl,S_]] 0 false false
 hf:g.h.get fb=.cells 3 [[va,ca,wa]] 0 false false
 nn:0<=p - S.af (cards.drop i) (pv.drop i)
 nx:1<=g.nx
theorem E6 {d m k fb kv kz:Nat}{y:QnM}{b fl S_ wv va ca wa:AV}{gr wt p:Int}{f:Factor}{R vals:List Int}{mm:Nat}{Q:QT}{t:T}{g:G}(hva:SlR NoP kv .nil f.vars va)(hF:FOk mm f)(hR:S.bI mm f 0 R)(hvl:vals.length=mm)
  (hS:∃(srows:List (List AV)) (z:AV),(∀h,ae h 1 S_=some srows)/\srows[k]?=some [z]/\k<srows.length/\SlR NoP kz .nil R z) (rv:∀h,ae h 1 wv=some (vals.map ci)) (hp:p=S.af f.cards (S.aa vals f.vars)) (hin:InC f.cards (S.aa vals f.vars)) (hpb:p<=10000000)
  (h0:WtI y b fl S_ wv va ca wa gr wt p f.cards (S.aa vals f.vars) m k fb 0 t g) (h22:tat t 22=.int .i64 0) (h21:tat t 21=.int .i64 (f.vars.length:Int))
  (fin:∀t g,WtI y b fl S_ wv va ca wa gr wt p f.cards (S.aa vals f.vars) m k fb f.vars.length t g->Q (.exit 2) t [] g):wpL (wp C0 d none cA) Q t [] g:=by
 obtain ⟨srows,z,s1,s2,s3,hz⟩:=hS;have rva:=λh=>(hva.tree (h':=h) (Nat.le_refl _)).ints;have rz:=λh=>(hz.tree (h':=h) (Nat.le_refl _)).ints;simp only[cA];refine aI (m:=f.vars.length) hva.1 (λi t df g=>df=[]/\WtI y b fl S_ wv va ca wa gr wt p f.cards (S.aa vals f.vars) m k fb i t g) ⟨rfl,h0⟩ h22 h21 (by decide)
  (by rintro j t df g v s (rfl | rfl | rfl) ⟨a1,⟨b1,b2,b3,b4,b5,b6,b7,b8,b9,b10,-⟩,c1,c2,c3,c4⟩<;>exact ⟨a1,by simp[St,sx,b1,b2,b3,b4,b5,b6,b7,b8,b9,b10],c1,c2,c3,c4⟩) ?_ ?_
 ·rintro i t df g hi ⟨rfl,⟨h1,h2,h12,h13,h14,h5,h6,h7,h20,h8,-⟩,e0,ef,hnn,hnx⟩ h22 h21;obtain ⟨u,hu,-,hum⟩:=ac hi;obtain ⟨hu0,hum⟩:=hF.vr u hum;obtain ⟨un,rfl⟩:=Int.eq_ofNat_of_zero_le hu0;have hcl:=hF.cl;have hdr:f.cards.drop i=f.cards[i]::f.cards.drop (i+1):=List.drop_eq_getElem_cons (by omega);have hval:vals[un]?=some vals[un]:=List.getElem?_eq_getElem (by omega);have hpvi:(S.aa vals f.vars)[i]?=some vals[un]:=by simp[S.aa,hu,hval]
  have hdp:(S.aa vals f.vars).drop i=vals[un]::(S.aa vals f.vars).drop (i+1):=by
   have hl:i<(S.aa vals f.vars).length:=by rw[rt];exact hi
   rw[List.drop_eq_getElem_cons hl];rw[List.getElem?_eq_getElem hl] at hpvi;injection hpvi with hpvi;rw[hpvi]
  have hv0:0<=vals[un]:=by obtain ⟨v',h1,h2,-⟩:=hin.get (i:=i) (c:=f.cards[i]) (List.getElem?_eq_getElem (by omega));rw[yN hpvi h1];exact h2
  generalize vals[un]=x at hval hpvi hdp hv0;have hRu:=hR.2 i (un:Int) (Nat.zero_le _) hu;rw[Int.toNat_natCast] at hRu;have hRl:=(List.getElem?_eq_some_iff.1 hRu).1;have u1:i<(f.vars.map ci).length:=by simpa using hi
  have u2:(f.vars.map ci)[i]?=some (ci (un:Int)):=by rw[List.getElem?_map,hu];rfl
  have u3:un<(vals.map ci).length:=by simp;omega
  have u4:(vals.map ci)[un]?=some (ci x):=by rw[List.getElem?_map,hval];rfl
  have u5:un<(R.map ci).length:=by simpa using hRl
  have u6:(R.map ci)[un]?=some (ci (S.ae (f.cards.drop (i+1)))):=by rw[List.getElem?_map,hRu];rfl
  have hidx:S.af (f.cards.drop i) ((S.aa vals f.vars).drop i)=x*S.ae (f.cards.drop (i+1))+S.af (f.cards.drop (i+1)) ((S.aa vals f.vars).drop (i+1)):=by rw[hdr,hdp,S.af]
  have hb1:=bA (cards:=f.cards.drop (i+1)) (vals:=(S.aa vals f.vars).drop (i+1)) (λc hc=>hF.cb c (List.mem_of_mem_drop hc)) (hin.drop (i+1));have hb2:=bA (cards:=f.cards.drop i) (vals:=(S.aa vals f.vars).drop i) (λc hc=>hF.cb c (List.mem_of_mem_drop hc)) (hin.drop i);have hpp:=jU (cs:=f.cards.drop (i+1)) λc hc=>(hF.cb c (List.mem_of_mem_drop hc)).1;have hxs:0<=x*S.ae (f.cards.drop (i+1)):=Int.mul_nonneg hv0 (by omega);have w1:IntKind.wrap .i64 (x*S.ae (f.cards.drop (i+1)))=x*S.ae (f.cards.drop (i+1)):=aB (by omega) (by omega);have w2:IntKind.wrap .i64 (p - S.af (f.cards.drop i) ((S.aa vals f.vars).drop i)+x*S.ae (f.cards.drop (i+1)))=p - S.af (f.cards.drop (i+1)) ((S.aa vals f.vars).drop (i+1)):=by rw[aB (by omega) (by omega)];omega
  simp only[sz,simprocAttr,h1,h2,h6,h8,h20,h22,h21,e0,rva,u1,u2,rv,u3,u4,s1,s2,s3,rz,u5,u6,ci,w1,w2];refine ⟨by simp[St,sx,h1,h2,h12,h13,h14,h5,h6,h7,h20],e0,ef,by omega,by first | exact hnx | (simp;done) | (simp;omega)⟩
 ·rintro t df g ⟨rfl,h⟩;exact fin t g h
structure WtJ (n:Net) (vals:List Int) (b fl S_ wv:AV) (k:Nat) (t:T) (g:G):Prop where
 st:St t [(1,wv),(2,.hptr 0 0 0 0),(12,fl),(5,.int .i64 (S.ae ((List.range k).map (S.aE n vals))))]
 h0:g.h.get 0=.cells 4 [[.int .i64 n.grain,b,fl,S_]] 0 false false
 nx:1<=g.nx
theorem E7 {d kk ky:Nat}{P:Nat->Prop}{g:G}{v w:AV}{n:Net}{y:QnM}{vals:List Int}(hd:0<d)(hr:NR n)(hm:Agg y NoP ky g.h v)(hq:QnOk n y)(hv:SlR P kk g.h vals w)(hc:InC (S.ac n) vals) :
  ax C0 d N.aR [v,w] g=.val (.int .i64 (S.aX n vals)):=by
 have e0:=jZ d hm;obtain ⟨cs,rfl,hcs⟩:=hm;obtain ⟨b,fl,S_,rfl,hN,hfl,hS⟩:=tH.1 hcs;have hfl:SlR NoP ky .nil y.2.1 fl:=hfl.tree (Nat.le_refl _);have hS:SlR NoP ky .nil y.2.2 S_:=hS.tree (Nat.le_refl _);obtain ⟨w',e2,hw'⟩:=ch hv d;have hgr:y.1.grain=n.grain:=by rw[hq.net]
 obtain ⟨frows,f1,f2,f3,f4⟩:=hfl.all;have f1:∀h',ae h' 3 fl=some frows:=f1;obtain ⟨srows,s1,s2,s3,s4⟩:=za hS;have rv:=λh=>(hw' h).ints;have hvl:=hc.len;rw[aw] at hvl;have hl8:=hr.l2;have hfll:=hq.fl;rw[j6];refine lJ lV (xs:=[.agg [.int .i64 y.1.grain,b,fl,S_],w']) (by simp only[aE,e0,e2]) (by simp[da]) hd ?_;rw[hgr];have ll:=hfl.len;simp only[sz,simprocAttr,da,fA,ll,hfll];simp only[eo,eB];refine aI (m:=n.nodes.length) (by omega) (λk t df g=>df=[]/\WtJ n vals b fl S_ w' k t g) ⟨rfl,by simp[St,sx,S.ae],by simp[sx],by simp⟩ (by simp[sx]) (by simp[sx]) (by decide)
  (by rintro j t df g v s (rfl | rfl | rfl) ⟨a1,⟨b1,b2,b3,b4,-⟩,c1,c2⟩<;>exact ⟨a1,by simp[St,sx,b1,b2,b3,b4],c1,c2⟩) ?_ ?_
 ·rintro k t df g hk ⟨rfl,⟨h1,h2,h12,h5,-⟩,g0,hnx⟩ h14 h13;obtain ⟨x,hx,-,-⟩:=ac hk;obtain ⟨p,hp,hf⟩:=hq.fs k x (by omega) hx;obtain ⟨row,q1,q2⟩:=f3 k _ hf;obtain ⟨va,ca,wa,rfl,hva,hca,hwa⟩:=nj.1 q2;have hF:=FG hr hx hp;obtain ⟨pn,i1,i2,i3⟩:=JM hr hc hx p;have hlt:k<frows.length:=by omega
  have hry:=f4 (by omega);obtain ⟨R,hR,-,-⟩:=ac (l:=y.2.2) (j:=k) (by rw[hq.sl];exact hk);obtain ⟨z,z1,z2,z3⟩:=s3 k R hR;have hinp:InC (S.aL n k x p).cards (S.aa vals (S.aL n k x p).vars):=cC hc λu hu=>by rw[aw];exact vo hr hx p u hu
  have hib:=bA hF.cb hinp;have hpb:=bz (l:=(S.aL n k x p).cards) hF.cb;have hfv:=hF.vl;have hp4:=fe (a:=(S.aL n k x p).cards.length) (b:=9) (by
   have h1:=dK (hr.places x (List.mem_of_getElem? hx)) (by omega);have h3:=qe x.parents p (k:Int) hp;show (S.aa _ _).length<=9;rw[rt];omega)
  have h48:(4:Int) ^ 9=262144:=by decide
  have ei:S.af (S.aL n k x p).cards (S.aa vals (S.aL n k x p).vars)=(pn:Int):=i1;have lva:=hva.len;have rwa:=λh=>(hwa.tree (h':=h) (Nat.le_refl _)).ints;refine dM (P:=λt' df g'=>df=[]/\g'=(g.new (.cells 3 [[.nils,.nils,.nils]] 0 false false)).put g.nx (.cells 3 [[va,ca,wa]] 0 false false)/\St t' [(1,w'),(2,.hptr 0 0 0 0),(12,fl),(13,.int .i64 (n.nodes.length:Int)),(14,.int .i64 (k:Int)),(5,.int .i64 (S.ae ((List.range k).map (S.aE n vals)))),(6,.int .i64 (k:Int)),(7,.hptr g.nx 0 0 0)]) ?_ ?_
  ·simp only[sz,simprocAttr,h14,h12,f1,hlt,q1];simp[St,sx,h1,h2,h12,h13,h14,h5]
  clear h1 h2 h12 h5 h14 h13;rintro t df g1 ⟨rfl,hg1,⟨h1,h2,h12,h13,h14,h5,h6,h7,-⟩⟩;have k0:g1.h.get 0=.cells 4 [[.int .i64 n.grain,b,fl,S_]] 0 false false:=by rw[hg1];simp[H.get_put,show ¬0=g.nx by omega,g0]
  have k1:g1.h.get g.nx=.cells 3 [[va,ca,wa]] 0 false false:=by rw[hg1];simp[H.get_put]
  have kn:g1.nx=g.nx+1:=by rw[hg1];simp
  simp only[sz,simprocAttr,h7,k1,lva];refine E6 (y:=y) (b:=b) (fl:=fl) (S_:=S_) (wv:=w') (va:=va) (ca:=ca) (wa:=wa) (gr:=n.grain) (wt:=S.ae ((List.range k).map (S.aE n vals))) (p:=(pn:Int)) (f:=S.aL n k x p) (R:=R) (vals:=vals) (mm:=n.nodes.length) (m:=n.nodes.length) (k:=k) (fb:=g.nx) hva hF (hq.st k _ R hf hR) hvl ⟨srows,z,s1,z1,z2,z3⟩ rv ei.symm hinp (by omega)
   ⟨by simp[St,sx,h1,h2,h12,h13,h14,h5,h6,h7,ei],by simpa using k0,by simpa using k1,by simp[ei],by omega⟩ (by simp[sx]) (by simp[sx]) ?_
  clear h1 h2 h12 h13 h14 h5 h6 h7;rintro t g2 ⟨⟨h1,h2,h12,h13,h14,h5,h6,h7,h20,h8,-⟩,k0,k1,-,hnx2⟩;have hnil:S.af ((S.aL n k x p).cards.drop (S.aL n k x p).vars.length) ((S.aa vals (S.aL n k x p).vars).drop (S.aL n k x p).vars.length)=0:=by rw[List.drop_of_length_le (by rw[hF.cl];exact Nat.le_refl _)];rfl
  rw[hnil,Int.sub_zero] at h8;have u1:pn<((S.aL n k x p).w.map ci).length:=by rw[List.length_map];exact (List.getElem?_eq_some_iff.1 i3).1
  have u2:((S.aL n k x p).w.map ci)[pn]?=some (ci (S.aE n vals k)):=by rw[List.getElem?_map];exact congrArg (Option.map ci) i3
  have wb:=mu hr hc (j:=k+1) (by omega);have ws:=wI n vals k;have w1:IntKind.wrap .i64 (S.ae ((List.range k).map (S.aE n vals))*S.aE n vals k)=S.ae ((List.range (k+1)).map (S.aE n vals)):=by rw[<-ws,aB (by omega) (by omega)]
  simp only[sz,simprocAttr,eA,h5,h7,k1,h8,rwa,u1,u2,ci,w1];exact ⟨⟨by simp[St,sx,h1,h2,h12],k0,hnx2⟩,h14,h13⟩
 ·rintro t df g ⟨rfl,⟨h1,h2,h12,h5,-⟩,g0,hnx⟩;simp only[sz,simprocAttr,eC,h5]
  rfl
def S.bz (vals e:List Int)(i:Nat):Bool:=decide (e[i]?.getD 0 = -1) || decide (e[i]?.getD 0=vals[i]?.getD 0)
def S.jm (vals e:List Int):Bool:=(List.range e.length).all (S.bz vals e)
theorem Jm {vals e:List Int}(h:∀x∈e,-1<=x):S.jm vals e=S.bo vals e:=by
 have key:S.bz vals e=S.bA vals e:=by
  funext i;have h1:-1<=e[i]?.getD 0:=by
   cases hx:e[i]? with
   | none=>decide
   | some x=>exact h x (List.mem_of_getElem? hx)
  unfold S.bz S.bA;generalize e[i]?.getD 0=x at h1;congr 1;rw[decide_eq_decide];omega
 rw[S.jm,S.bo,key]
theorem BK {d k k2:Nat}{g:G}{P P2:Nat->Prop}{v w:AV}{vals e:List Int}(hd:0<d)(hv:SlR P k g.h vals v)(hw:SlR P2 k2 g.h e w)(hl:e.length<=vals.length) :
  ax C0 d N.aP [v,w] g=.val (.bool (S.jm vals e)):=by
 obtain ⟨v',e1,r1⟩:=ch hv d;obtain ⟨w',e2,r2⟩:=ch hw d;have ra:∀h',ae h' 1 v'=some (vals.map ci):=λh'=>(r1 h').ints;have rb:∀h',ae h' 1 w'=some (e.map ci):=λh'=>(r2 h').ints;have n2:=λg=>(r2 .nil).len g;rw[qP];refine jr sW (xs:=[v',w']) (by simp only[aE,e1,e2]) (by simp[jC]) hd ?_;simp only[sz,simprocAttr,jC,ks,n2];refine aI (m:=e.length) hw.1 (λj t df g=>df=[]/\St t [(0,v'),(8,w'),(5,.bool true)]/\(List.range j).all (S.bz vals e)=true) ⟨rfl,by simp[St,sx],rfl⟩ (by simp[sx]) (by simp[sx]) (by decide) (by rintro j t df g v s (rfl | rfl | rfl)<;>simp[St,sx]) ?_ ?_
 ·rintro j t df g hj ⟨rfl,⟨h0,h8,h5,-⟩,hA⟩ h10 h9;obtain ⟨x,hx,-,-⟩:=ac hj;obtain ⟨z,hz,-,-⟩:=ac (l:=vals) (j:=j) (by omega);have q1:j<(e.map ci).length:=by simpa using hj
  have q2:j<(vals.map ci).length:=by rw[List.length_map];omega
  have q3:(e.map ci)[j]?=some (ci x):=by rw[List.getElem?_map,hx];rfl
  have q4:(vals.map ci)[j]?=some (ci z):=by rw[List.getElem?_map,hz];rfl
  have hat:S.bz vals e j=(decide (x = -1) || decide (x=z)):=by simp[S.bz,hx,hz]
  by_cases c1:x = -1
  ·subst c1;simp only[sz,simprocAttr,h10,h9,h8,rb,q1,q3,ci];refine ⟨by simp[St,sx,h0,h8,h5],?_⟩;rw[cw,hA,hat];simp
  ·by_cases c2:x=z
   ·subst c2;simp only[sz,simprocAttr,h10,h9,h8,h0,ra,rb,q1,q2,q3,q4,ci,c1];refine ⟨by simp[St,sx,h0,h8,h5],?_⟩;rw[cw,hA,hat];simp
   ·have:S.bz vals e j=false:=by rw[hat];simp[c1,c2]
    have hf:S.jm vals e=false:=by rw[S.jm,tN hj this]
    simp only[sz,simprocAttr,h10,h8,h0,ra,rb,q1,q2,q3,q4,ci,c1,c2,fZ,hf]
 ·rintro t df g ⟨rfl,⟨h0,h8,h5,-⟩,hA⟩;simp only[sz,simprocAttr,fZ,h5];rw[S.jm,hA]
theorem A8 {d k:Nat}{g:G}{P:Nat->Prop}{v:AV}{l:List Int}(hd:0<d)(hv:SlR P k g.h l v):ax C0 d N.aH [v] g=.val (.int .i64 (S.aV l)):=by
 obtain ⟨v',e,r1⟩:=ch hv d;have vl:∀g,dz .slice v' g=.val (.int .i64 (l.length:Int)):=λg=>(r1 .nil).len g;have ri:=λh=>(r1 h).ints;rw[tS];refine lJ wX (xs:=[v']) (by simp only[aE,e]) (by simp[nI]) hd ?_;simp only[sz,simprocAttr,nI,vl,oB];refine aI (m:=l.length) hv.1 (λj t df g=>df=[]/\St t [(6,v'),(3,.int .i64 (S.aV (l.take j)))]) ⟨rfl,by simp[St,sx,S.aV]⟩ (by simp[sx]) (by simp[sx]) (by decide)
  (by rintro j t df g v s (rfl | rfl | rfl)<;>simp[sx,St]) ?_ ?_
 ·rintro j t df g hj ⟨rfl,h6,h3,-⟩ h8 h7;obtain ⟨x,hx,htk,hm⟩:=ac hj;have z1:j<(l.map ci).length:=by simpa using hj
  have z2:(l.map ci)[j]?=some (ci x):=by rw[List.getElem?_map,hx];rfl
  simp only[sz,simprocAttr,h6,h8,h3,ri,z1,z2,ci];simp[St,sx,h6,h7,h8,htk,S.aV,List.foldl_append]
 ·rintro t df g ⟨rfl,h6,h3,-⟩;rw[List.take_length] at h3;simp only[sz,simprocAttr,oD,h3]
theorem te {d k:Nat}{g:G}{P:Nat->Prop}{v:AV}{n:Net}(hd:0<d)(hv:SlR P k g.h n.nodes v)(hn:n.nodes.length<1073741824):∃r,ax C0 d N.aq [v] g=.val r/\IT 0 (S.ac n) r:=by
 obtain ⟨v',e,r0⟩:=ch hv d;obtain ⟨rows,r1,r2,r3,r4⟩:=(r0 .nil).all;have r1:∀h',ae h' 3 v'=some rows:=r1;have vl:∀g,dz .slice v' g=.val (.int .i64 (n.nodes.length:Int)):=λg=>(r0 .nil).len g;rw[sT];refine br u9 (xs:=[v']) (by simp only[aE,e]) (by simp[mb]) (be _) (by decide) hd ?_;simp only[sz,simprocAttr,mb,vl];refine qh (b:=0) (n:=n.nodes.length) (by unfold aQ;omega) (by unfold aQ;omega) (Nat.zero_le _) λu g1 hu n1 f1 v1=>?_;simp only[sz,simprocAttr,vl,mW];refine aI (m:=n.nodes.length) (by omega) (λj t df g=>df=[]/\St t [(9,v'),(3,u)]/\Own g 0 u 1 ((((S.ac n).take j)++List.replicate (n.nodes.length - j) 0).map ci)) ⟨rfl,by simp[St,sx],?_⟩ (by simp[sx]) (by simp[sx]) (by decide)
  (by rintro j t df g v s (rfl | rfl | rfl)<;>simp[sx,St]) ?_ ?_
 ·simpa [ci] using hu
 ·rintro j t df g hj ⟨rfl,⟨h9,h3,-⟩,hO⟩ h11 h10;obtain ⟨x,hx,-,hm⟩:=ac hj;obtain ⟨row,q1,q2⟩:=r3 j x hx;obtain ⟨a',b',rfl,ha',hb'⟩:=cH.1 q2;have hlt:j<rows.length:=by omega
  have hry:=r4 (by omega);have hcl:(S.ac n).length=n.nodes.length:=aw n;have hcj:(S.ac n)[j]?=some x.card:=by simp[S.ac,hx]
  have z1:j<((((S.ac n).take j)++List.replicate (n.nodes.length - j) 0).map ci).length:=by simp;omega
  have z2:((((S.ac n).take j)++List.replicate (n.nodes.length - j) 0).map ci)[j]?=some (ci 0):=by rw[List.getElem?_map,List.getElem?_append_right (by simp;omega),List.getElem?_replicate];simp;omega
  have e2:((((S.ac n).take j)++List.replicate (n.nodes.length - j) 0).map ci).set j (ci x.card)=(((S.ac n).take (j+1))++List.replicate (n.nodes.length - (j+1)) 0).map ci:=by
   rw[<-List.map_set,List.set_append_right _ _ (by simp;omega),List.length_take,Nat.min_eq_left (by omega),Nat.sub_self,List.take_succ_eq_append_getElem (by omega),show n.nodes.length - j=(n.nodes.length - (j+1))+1 by omega,List.replicate_succ,List.set_cons_zero,List.append_assoc];have:(S.ac n)[j]=x.card:=by rw[List.getElem?_eq_getElem (by omega)] at hcj;injection hcj
   rw[this];rfl
  have fw:ea [.int .i64 0,.nils,.nils] [((0,3),.agg [.int .i64 x.card,a',b'])]=some [.int .i64 x.card,a',b']:=rfl;simp only[sz,simprocAttr,h9,h11,r1,hlt,q1,hry];have hO2:Own ((g.new (.cells 3 [[.int .i64 0,.nils,.nils]] 0 false false)).put g.nx (.cells 3 [[.int .i64 x.card,a',b']] 0 false false)) 0 u 1 ((((S.ac n).take j)++List.replicate (n.nodes.length - j) 0).map ci) :=
   hO.fr (by simp) λi hi=>by have:=(hO.lt hi).2;simp[H.get_put,show ¬i=g.nx by omega]
  generalize (g.new (.cells 3 [[.int .i64 0,.nils,.nils]] 0 false false)).put g.nx (.cells 3 [[.int .i64 x.card,a',b']] 0 false false)=g2 at hO2 ⊢;simp only[sz,simprocAttr,h3,hO2.rows,z1];refine bB (v:=u) (sz:=1) (n:=1) (i:=j) (off:=0) (x:=.int .i64 x.card) (row:=ci 0) (row':=ci x.card) hO2 z2 rfl rfl rfl λg3 o3 n3 f3=>?_;rw[e2] at o3;simp only[sz,simprocAttr];simpa [St,sx,h9,h3,h10,h11] using o3
 ·rintro t df g ⟨rfl,⟨h9,h3,-⟩,hO⟩;rw[List.take_of_length_le (by rw[aw];omega),Nat.sub_self] at hO;simp only[sz,simprocAttr,mX,h3];exact ⟨_,(by simpa using hO:Own g 0 u 1 ((S.ac n).map ci)).ints (by rw[aw];omega)⟩
def S.bw (l:List Int)(x:Int):Int:=if x∈l then (l.idxOf x:Int) else -1
theorem FM {l:List Int}{x:Int}:(0:Int)<=S.bw l x↔x∈l:=by
 unfold S.bw
 split
 ·rename_i h;simp[h]
 ·rename_i h;simp[h]
theorem E8 {d k:Nat}{g:G}{P:Nat->Prop}{v:AV}{l:List Int}{x:Int}(hd:0<d)(hv:SlR P k g.h l v):ax C0 d N.ba [v,.int .i64 x] g=.val (.int .i64 (S.bw l x)):=by
 obtain ⟨v',e,r1⟩:=ch hv d;have vl:∀g,dz .slice v' g=.val (.int .i64 (l.length:Int)):=λg=>(r1 .nil).len g;have ri:=λh=>(r1 h).ints;rw[mF];refine lJ oQ (xs:=[v',.int .i64 x]) (by simp only[aE,e,gR 0]) (by simp[eK]) hd ?_;simp only[sz,simprocAttr,eK,vl,gK];refine aI (m:=l.length) hv.1 (λj t df g=>df=[]/\St t [(0,v'),(1,.int .i64 x)]/\x ∉ l.take j) ⟨rfl,by simp[St,sx],by simp⟩ (by simp[sx]) (by simp[sx]) (by decide)
  (by rintro j t df g v s (rfl | rfl | rfl)<;>simp[sx,St]) ?_ ?_
 ·rintro j t df g hj ⟨rfl,⟨h0,h1,-⟩,hno⟩ h8 h7;obtain ⟨y,hy,htk,hm⟩:=ac hj;have z1:j<(l.map ci).length:=by simpa using hj
  have z2:(l.map ci)[j]?=some (ci y):=by rw[List.getElem?_map,hy];rfl
  by_cases c:x=y
  ·subst c;have hl:l=l.take j++x::l.drop (j+1):=by
    have:l.drop j=x::l.drop (j+1):=by rw[List.drop_eq_getElem_cons hj];congr 1;rw[List.getElem?_eq_getElem hj] at hy;injection hy
    rw[<-this,List.take_append_drop]
   have hf:S.bw l x=(j:Int):=by
    unfold S.bw;rw[if_pos hm];have:l.idxOf x=j:=by
     conv=>lhs;rw[hl]
     rw[List.idxOf_append,if_neg hno,List.idxOf_cons_self,List.length_take];omega
    rw[this]
   simp only[sz,simprocAttr,h0,h1,h8,ri,z1,z2,ci,hf]
  ·simp only[sz,simprocAttr,h0,h1,h8,ri,z1,z2,ci,c];simp[St,sx,h0,h1,h7,h8,htk,hno,c]
 ·rintro t df g ⟨rfl,-,hno⟩;rw[List.take_length] at hno;simp only[sz,simprocAttr,gL,S.bw,hno]
theorem zl {d k:Nat}{g:G}{P:Nat->Prop}{v:AV}{l:List Int}{x:Int}(hd:0<d)(hv:SlR P k g.h l v):ax C0 d N.a9 [v,.int .i64 x] g=.val (.bool (decide (x∈l))):=by obtain ⟨v',e,r1⟩:=ch hv d;have ki:=λg=>E8 (d:=d+1) (g:=g) (x:=x) (Nat.succ_pos d) (r1 g.h);have hd2:decide ((0:Int)<=S.bw l x)=decide (x∈l):=decide_eq_decide.2 FM;rw[j7];refine jr lX (xs:=[v',.int .i64 x]) (by simp only[aE,e,gR 0]) (by simp[dv]) hd ?_;simp only[sz,simprocAttr,dv,ki,<-hd2]
theorem uD {α:Type} [Rp α]{P:Nat->Prop}{k:Nat}{h:H}{l:List α}{w:AV}(hw:SlR P k h l w)(g:G):Bg w g=.upd (.hptr g.nx 0 0 0) (g.new (.cells 1 [[w]] 0 false false)):=by rw[Bh _ _ hw.cell.2,hw.cell.1];rfl
def ym {α:Type} [Rp α](x:α)(sz:Nat):VS:=λP k h v=>(∃id cs,v=.hptr id 0 0 0/\P id/\h.get id=.cells sz [cs] 0 false false/\Rp.rp P k h x cs)\/∃t cs,v=.tptr t sz [cs] 0 0/\t<=k/\Rp.rp NoP k .nil x cs
theorem sn {α:Type} [Rp α]{x:α}{sz:Nat}{P:Nat->Prop}{k:Nat}{h:H}{v:AV}{n:Nat}(d:Nat)(r:ym x sz P k h v)(hn:Rp.dp α<=n)(hd:Rp.dp α<=20:=by decide):∃v',Hx.snap h d (n+1) v=some v'/\ym x sz NoP (max k d) .nil v':=by
 rcases r with ⟨id,cs,rfl,-,hg,r⟩ | ⟨t,cs,rfl,ht,r⟩
 ·obtain ⟨cs',e,r'⟩:=Rp.snap (n:=n) d r hn (by show _<=24;omega);obtain ⟨m,e2,l2⟩:=Rp.tag (n:=aH) r' (by show _<=24;omega);refine ⟨.tptr (Nat.max d (Nat.max m 0)) sz [cs'] 0 0,?_,.inr ⟨_,cs',rfl,?_,r'⟩⟩
  ·simp only[Hx.snap,hg,show Nat.beq 0 0=true from rfl,aE,e,eg,fc,e2]
  ·show max d (max m 0)<=max k d;omega
 ·exact ⟨.tptr t sz [cs] 0 0,rfl,.inr ⟨t,cs,rfl,by omega,Rp.mono r (λi hi=>hi.elim) (by omega)⟩⟩
theorem uj {α:Type} [Rp α]{x:α}{sz:Nat}{k:Nat}{h:H}{v:AV}{n:Nat}(r:ym x sz NoP k h v):∃m,dU (n+1) v=some m/\m<=k:=by
 rcases r with ⟨id,cs,rfl,hP,-⟩ | ⟨t,cs,rfl,ht,r⟩
 ·exact hP.elim
 ·exact ⟨t,rfl,ht⟩
def MtV (y:QnM)(e:List Int):VS:=λP k h v=>∃p q,v=.clo N.af [] [p,q]/\ym y 4 P k h p/\ym e 1 P k h q
theorem Kb (y:QnM)(e:List Int):Snb (MtV y e) 2:=by
 refine ⟨λ{P k h v n} d r hn=>?_,λ{k h v n} r hn=>?_⟩
 ·obtain ⟨p,q,rfl,r1,r2⟩:=r;obtain ⟨n,rfl⟩:∃q,n=q+2:=⟨n - 2,by omega⟩;obtain ⟨p',e1,r1'⟩:=sn (n:=n) d r1 (Nat.le_trans (show Rp.dp QnM<=20 by decide) (by omega));obtain ⟨q',e2,r2'⟩:=sn (n:=n) d r2 (Nat.le_trans (show Rp.dp (List Int)<=20 by decide) (by omega));refine ⟨.clo N.af [] [p',q'],?_,p',q',rfl,r1',r2'⟩;simp only[Hx.snap,aE] at e1 e2 ⊢;rw[e1,e2]
 ·obtain ⟨p,q,rfl,r1,r2⟩:=r;obtain ⟨n,rfl⟩:∃q,n=q+2:=⟨n - 2,by omega⟩;obtain ⟨m1,e1,l1⟩:=uj (n:=n) r1;obtain ⟨m2,e2,l2⟩:=uj (n:=n) r2;refine ⟨Nat.max m1 (Nat.max m2 0),?_,by show max m1 (max m2 0)<=k;omega⟩;show fc (dU (n+1)) [p,q]=_;simp only[fc,e1,e2]
theorem Ap {d kk:Nat}{g:G}{v w:AV}{y:QnM}{e:List Int}(hd:0<d)(hm:Agg y NoP 0 g.h v)(hw:SlR NoP kk g.h e w)(hk:kk<d:=by omega) :
  ∃cs z t1 t2,ax C0 d N.aA [v,w] g=.val (.clo N.af [] [.tptr t1 4 [cs] 0 0,.tptr t2 1 [[z]] 0 0])/\Rp.rp NoP kk .nil y cs/\SlR NoP kk .nil e z:=by
 have e0:=jZ d hm;obtain ⟨cs,rfl,hc⟩:=hm;obtain ⟨a,b,c,rfl,h1,h2,h3⟩:=tH.1 hc;have key:∃r,ax C0 d N.aA [.agg [.int .i64 y.1.grain,a,b,c],w] g=.val r/\MtV y e NoP kk .nil r:=by rw[jx];refine br j9 (xs:=[.agg [.int .i64 y.1.grain,a,b,c],w]) (by simp only[aE,e0,qp d hw]) (by simp[cJ]) (Kb y e) (by decide) hk ?_;simp only[sz,simprocAttr,cJ,d9,uD hw];refine ⟨λ_=>True,_,_,rfl,.inl ⟨0,_,rfl,trivial,by simp[sx,H.get_put],Rp.tree hc (Nat.zero_le _)⟩,.inl ⟨1,[w],rfl,trivial,by simp[sx],?_⟩⟩;exact ⟨w,rfl,hw.wide (Nat.le_refl _)⟩
 obtain ⟨r,hr,p,q,rfl,r1,r2⟩:=key;rcases r1 with ⟨id,cs,rfl,hP,-⟩ | ⟨t,cs,rfl,ht,r1⟩
 ·exact hP.elim
 rcases r2 with ⟨id,cs,rfl,hP,-⟩ | ⟨t2,cs2,rfl,ht2,r2⟩
 ·exact hP.elim
 obtain ⟨z,rfl,hz⟩:=dL.1 r2;exact ⟨cs,z,t,t2,hr,r1,hz⟩
theorem vN {cs vs:List Int}(h:InC cs vs)(hc:∀c∈cs,1<=c){i:Nat}{x c:Int}(hi:vs[i]?=some x)(hci:cs[i]?=some c)(hx:x≠c - 1):InC cs (vs.take i++(x+1)::List.replicate (vs.length - (i+1)) 0):=by
 have hil:=(List.getElem?_eq_some_iff.1 hi).1;have hl:=h.len;refine yO (by simp;omega) λj c' v hj hv=>?_;obtain ⟨v',h1,h2,h3⟩:=h.get hj;have hcp:=hc c' (List.mem_of_getElem? hj)
 by_cases h4:j<i
 ·rw[List.getElem?_append_left (by simp;omega),List.getElem?_take_of_lt h4] at hv;rw[h1] at hv;injection hv with hv;omega
 ·rw[List.getElem?_append_right (by simp;omega)] at hv;rw[List.length_take,Nat.min_eq_left (by omega)] at hv
  by_cases h5:j=i
  ·subst h5;rw[Nat.sub_self] at hv;simp at hv;rw[hi] at h1;injection h1 with h1;rw[hci] at hj;injection hj with hj;omega
  ·obtain ⟨m,hm⟩:∃m,j - i=m+1:=⟨j - i - 1,by omega⟩;rw[hm,List.getElem?_cons_succ] at hv;have:=List.mem_of_getElem? hv;rw[List.mem_replicate] at this;omega
theorem wJ {cs:List Int}(hc:∀c∈cs,1<=c):InC cs (List.replicate cs.length 0) :=
 yO (by simp) λj c v hj hv=>by have:=List.mem_of_getElem? hv;rw[List.mem_replicate] at this;have:=hc c (List.mem_of_getElem? hj);omega
theorem nW {vs:List Int}{m:Nat}(h:m<vs.length):(vs.take (m+1)++List.replicate (vs.length - (m+1)) 0).set m 0=vs.take m++List.replicate (vs.length - m) 0:=by
 rw[List.take_succ_eq_append_getElem h,List.append_assoc,List.set_append_right _ _ (by simp;omega),List.length_take,Nat.min_eq_left (by omega),Nat.sub_self];rw[show vs.length - m=(vs.length - (m+1))+1 by omega,List.replicate_succ]
 rfl
theorem nV {vs:List Int}{m:Nat}(h:m<vs.length)(y:Int):(vs.take (m+1)++List.replicate (vs.length - (m+1)) 0).set m y=vs.take m++y::List.replicate (vs.length - (m+1)) 0:=by
 rw[List.take_succ_eq_append_getElem h,List.append_assoc,List.set_append_right _ _ (by simp;omega),List.length_take,Nat.min_eq_left (by omega),Nat.sub_self]
 rfl
structure OdoJ (n:Net) (vs:List Int) (L:List (Nat×AV)) (u:AV) (g0:G) (m:Nat) (t:T) (g:G):Prop where
 st:tat t 6=.int .i64 ((m:Int) - 1)
 ss:St t L
 ow:Own g g0.nx u 1 ((vs.take m++List.replicate (vs.length - m) 0).map ci)
 mx:∀(j:Nat) (c:Int),m<=j->(S.ac n)[j]?=some c->vs[j]?.getD 0=c - 1
def LM (id:Nat)(gr:Int)(b fl S_ w u:AV)(k t1 t2:Nat):List (Nat×AV):=[(0,.yld id),(1,.tptr t1 4 [[.int .i64 gr,b,fl,S_]] 0 0),(2,.tptr t2 1 [[w]] 0 0),(4,u),(5,.int .i64 (k:Int))]
theorem Es {d id k m t1 t2 ky:Nat}{n:Net}{b fl S_ w u:AV}{vs:List Int}{Q:QT}{t:T}{g g0:G}(hr:NR n)(hN:SlR NoP ky .nil n.nodes b)(hc:InC (S.ac n) vs)(hm:m<=n.nodes.length)
  (h0:OdoJ n vs (LM id n.grain b fl S_ w u k t1 t2) u g0 m t g)
  (fin:∀m' t g',m'<=n.nodes.length->OdoJ n vs (LM id n.grain b fl S_ w u k t1 t2) u g0 m' t g'->g.nx<=g'.nx->(∀i,vid u≠some i->g'.h.get i=g.h.get i)->(m'=0\/∃x c,vs[m' - 1]?=some x/\(S.ac n)[m' - 1]?=some c/\x≠c - 1/\0<m')->Q (.exit 2) t [] g') :
  wpL (wp C0 d none bi) Q t [] g:=by
 obtain ⟨rows,r1,r2,r3,r4⟩:=hN.all;have r1:∀h',ae h' 3 b=some rows:=r1;have hvl:=hc.len;rw[aw] at hvl;have hl8:=hr.l2;refine n0 (λm t df g'=>df=[]/\m<=n.nodes.length/\OdoJ n vs (LM id n.grain b fl S_ w u k t1 t2) u g0 m t g'/\g.nx<=g'.nx/\∀i,vid u≠some i->g'.h.get i=g.h.get i) m ⟨rfl,hm,h0,Nat.le_refl _,λ_ _=>rfl⟩ ?_;rintro m t df g1 ⟨rfl,hm,⟨h6,⟨h0,h1,h2,h4,h5,-⟩,how,hmx⟩,hnx,hfr⟩;simp only[bi];cases m with
 | zero =>
  have c1:¬((0:Int)<=((0:Nat):Int) - 1):=by omega
  simp only[sz,simprocAttr,h6,c1];refine fin 0 _ _ (Nat.zero_le _) ⟨?_,?_,?_,hmx⟩ ?_ ?_ (.inl rfl)
  ·simp[sx,h6]
  ·simp[St,LM,sx,h0,h1,h2,h4,h5]
  ·exact how
  ·exact hnx
  ·exact hfr
 | succ m =>
  have c1:(0:Int)<=((m+1:Nat):Int) - 1:=by omega
  have e1:((m+1:Nat):Int) - 1=(m:Int):=by omega
  rw[e1] at c1 h6;obtain ⟨x,hx,-,-⟩:=ac (l:=n.nodes) (j:=m) (by omega);obtain ⟨row,q1,q2⟩:=r3 m x hx;obtain ⟨pa,ra,rfl,-,-⟩:=cH.1 q2;have hlt:m<rows.length:=by omega
  have hry:=r4 (by omega);have hci:(S.ac n)[m]?=some x.card:=by simp[S.ac,hx]
  obtain ⟨v,hv,hv0,hv1⟩:=hc.get hci;have hcx:=hr.card x (List.mem_of_getElem? hx);have u1:m<((vs.take (m+1)++List.replicate (vs.length - (m+1)) 0).map ci).length:=by simp;omega
  have u2:((vs.take (m+1)++List.replicate (vs.length - (m+1)) 0).map ci)[m]?=some (ci v):=by rw[List.getElem?_map,List.getElem?_append_left (by simp;omega),List.getElem?_take_of_lt (by omega),hv];rfl
  have ru:=how.rows;have w1:IntKind.wrap .i64 (x.card - 1)=x.card - 1:=aB (by omega) (by omega)
  by_cases c2:v=x.card - 1
  ·simp only[sz,simprocAttr,h6,h1,h4,c1,ru,u1,u2,r1,hlt,q1,hry,cd,aX,ci,w1,c2];refine bB (v:=u) (sz:=1) (n:=1) (i:=m) (off:=0) (x:=.int .i64 0) (row':=ci 0) how u2 rfl rfl rfl λg4 hu4 n4 f4=>?_;rw[<-List.map_set,nW (by omega)] at hu4;have w2:IntKind.wrap .i64 ((m:Int) - 1)=(m:Int) - 1:=aB (by omega) (by omega);simp only[sz,simprocAttr,h6,w2];refine ⟨m,by omega,by omega,⟨by simp[sx],by simp[St,LM,sx,h0,h1,h2,h4,h5],hu4,λj c hj hc'=>?_⟩,by omega,λi hi=>by rw[f4 i hi,hfr i hi]⟩
   by_cases e:j=m
   ·subst e;rw[hci] at hc';injection hc' with hc';rw[hv,Option.getD_some];omega
   ·exact hmx j c (by omega) hc'
  ·simp only[sz,simprocAttr,h6,h1,h4,c1,ru,u1,u2,r1,hlt,q1,hry,cd,aX,ci,w1,c2];refine fin (m+1) _ _ hm ⟨?_,?_,?_,hmx⟩ ?_ ?_ (.inr ⟨v,x.card,hv,hci,c2,by omega⟩)
   ·simp[sx,h6]
   ·simp[St,LM,sx,h0,h1,h2,h4,h5]
   ·exact how
   ·exact hnx
   ·exact hfr
theorem JP {a b u:AV}(ha:a.cells=[a]/\a.isTup=false)(hb:b.cells=[b]/\b.isTup=false)(hu:u.cells=[u]/\u.isTup=false):ea [.int .i64 0,.int .i64 0,.nils] [((0,1),a),((1,1),b),((2,1),u)]=some [a,b,u]:=by
 simp[ea,ha,hb,hu,eQ]
 rfl
theorem Et {d id t1 t2 ky ke:Nat}{n:Net}{y:QnM}{e:List Int}{b fl S_ w:AV}{g0:G}{K:AV->G->Prop}(hd:0<d)(hr:NR n)(hq:QnOk n y)(hcs:Rp.rp NoP ky .nil y [.int .i64 n.grain,b,fl,S_])(hw:SlR NoP ke .nil e w)(hel:e.length<=n.nodes.length)
  (J:Nat->H->Prop) (E:G->Prop) (hJ:∀j h h',(∀i,i<g0.nx->h'.get i=h.get i)->J j h->J j h')
  (skip:∀(j:Nat) (h:H),j<S.ah n->S.jm (S.ak (S.ac n) j) e=false->J j h->J (j+1) h)
  (step:∀(j:Nat) (u:AV) (g:G) (K':AV->G->Prop) (D:ADf->Prop),j<S.ah n->S.jm (S.ak (S.ac n) j) e=true->g0.nx<=g.nx->J j g.h->SlR (λi=>g0.nx<=i/\i<g.nx) 0 g.h (S.ak (S.ac n) j) u ->
   (∀g',J (j+1) g'.h->g.nx<=g'.nx->(∀i,g0.nx<=i->i<g.nx->g'.h.get i=g.h.get i)->K' (.bool true) g')->(∀g',E g'->K' (.bool false) g')->(bN (I C0) d id [.agg [.int .i64 (j:Int),.int .i64 (S.aX n (S.ak (S.ac n) j)),u]] g).sat K' g D)
  (h0:J 0 g0.h) (fin:∀g',J (S.ah n) g'.h->g0.nx<=g'.nx->K (.tup []) g') (finE:∀g',E g'->K (.tup []) g') :
  wp C0 d none aC.code (fnQ C0 d aC.res K) (bD 0 [.yld id,.tptr t1 4 [[.int .i64 n.grain,b,fl,S_]] 0 0,.tptr t2 1 [[w]] 0 0] .nil) [] g0:=by
 obtain ⟨b',fl',S',e1,hN,hfl,hS⟩:=tH.1 hcs;injection e1 with e1 e2;injection e2 with e2 e3;injection e3 with e3 e4;injection e4 with e4 e5;subst e2;subst e3;subst e4;have hN:SlR NoP ky .nil n.nodes b:=by rw[<-hq.net];exact hN
 have hl8:=hr.l2;have hl1:=hr.l1;obtain ⟨W1,W2,W3⟩:=hr.wl;have hcs1:=λc hc=>(hr.cs c hc).1;have nl:=hN.len;have hcl:=aw n;obtain ⟨Qf,hQf⟩:∃Qf,Qf=fnQ C0 d aC.res K:=⟨_,rfl⟩;rw[<-hQf];simp only[sz,simprocAttr,aC,cd,aX,nl];refine qh (b:=g0.nx) (n:=n.nodes.length) (by unfold aQ;omega) (by unfold aQ;omega) (Nat.le_refl _) λu g1 hu n1 fr1 v1=>?_;simp only[sz,simprocAttr];have hul:∀(g:G) (l:List Int),l.length=n.nodes.length->Own g g0.nx u 1 (l.map ci)->∀g2:G,dz .slice u g2=.val (.int .i64 (n.nodes.length:Int)):=λg l hl ho g2=>by rw[na ho.rows];simp[hl]
 obtain ⟨INV,hINV⟩:∃INV:Nat->PT,INV=(λm t df g=>df=[]/\∃(j:Nat) (vs:List Int),m=S.ah n - j/\j<S.ah n/\InC (S.ac n) vs/\S.af (S.ac n) vs=(j:Int)/\St t (LM id n.grain b fl S_ w u j t1 t2)/\Own g g0.nx u 1 (vs.map ci)/\J j g.h/\g0.nx<=g.nx):=⟨_,rfl⟩;refine n0 INV (S.ah n) ?_ ?_
 ·rw[hINV];exact ⟨rfl,0,List.replicate n.nodes.length 0,rfl,by omega,by rw[<-hcl];exact wJ hcs1,by rw[m6];rfl,by simp[St,LM,sx],by simpa [ci] using hu,hJ 0 _ _ (λi hi=>fr1 i hi) h0,by omega⟩
 intro m t df g hI;have hI2:=hI;rw[hINV] at hI2;obtain ⟨rfl,j,vs,rfl,hj,hin,hidx,⟨h0,h1,h2,h4,h5,-⟩,ho,hJj,hnx⟩:=hI2;clear hI;have hvl:=hin.len;rw[aw] at hvl;have hval:S.ak (S.ac n) (j:Int)=vs:=by rw[<-hidx];exact jb hcs1 hin
 have hvu:vid u=some g0.nx:=v1;have hsl:SlR (λi=>g0.nx<=i/\i<g.nx) 0 g.h vs u:=Own.sl (α:=Int) ho (by omega) (All2.of_map (λa=>aF.2 rfl) _) λi hi=>ho.lt hi;have hmt:=BK (d:=d) (g:=g) (v:=u) (w:=w) (vals:=vs) (e:=e) hd hsl (hw.tree (h':=g.h) (Nat.le_refl _)) (by omega);have hlu:=hul g vs hvl ho;have w1:IntKind.wrap .i64 ((n.nodes.length:Int) - 1)=(n.nodes.length:Int) - 1:=aB (by omega) (by omega);obtain ⟨R,hR⟩:∃R,R=sQ [oM 28 4,oN 29 28,o 30 (.bin .sub (.t 29) (qI 1)),oM 6 30] (.seq (.blk 2 (.loop bi)) bj):=⟨_,rfl⟩;simp only[c_];rw[<-hR,co,Cm];obtain ⟨Q1,hQ1⟩:∃Q1,Q1=kB 1 (kS (wp C0 d none bI (kL INV (S.ah n - j) (kB 0 Qf))) (kL INV (S.ah n - j) (kB 0 Qf))):=⟨_,rfl⟩;rw[<-hQ1];have rest:∀(t:T) (g:G),St t (LM id n.grain b fl S_ w u j t1 t2)->Own g g0.nx u 1 (vs.map ci)->J (j+1) g.h->g0.nx<=g.nx->wp C0 d none R Q1 t [] g:=by
  rintro t g ⟨h0,h1,h2,h4,h5,-⟩ ho hJj hnx;rw[hR,hQ1];simp only[sz,simprocAttr,h4,hlu,w1];refine Es (t1:=t1) (t2:=t2) (id:=id) (k:=j) (m:=n.nodes.length) (n:=n) (b:=b) (fl:=fl) (S_:=S_) (w:=w) (u:=u) (vs:=vs) (g0:=g0) hr hN hin (Nat.le_refl _) ⟨by simp[sx],by simp[St,LM,sx,h0,h1,h2,h4,h5],?_,λi c hi hc=>?_⟩ ?_
  ·rw[List.take_of_length_le (by omega),show vs.length - n.nodes.length=0 by omega];simpa using ho
  ·have:=(List.getElem?_eq_some_iff.1 hc).1;omega
  rintro m' t2 g2 hm' ⟨h6,⟨h0,h1,h2,h4,h5,-⟩,ho2,hmx⟩ hn2 hf2 hcase;have hJ2:J (j+1) g2.h:=hJ _ _ _ (λi hi=>hf2 i λe=>by rw[hvu] at e;injection e with e;omega) hJj;rcases hcase with rfl | ⟨x,c,hx,hc,hxc,hm0⟩
  ·have hlast:j+1=S.ah n:=by have:=rU (cs:=S.ac n) (vs:=vs) hin.len.symm λi c hc=>hmx i c (Nat.zero_le _) hc;omega
   have c1:(((0:Nat):Int) - 1<0):=by omega
   rw[hQf];simp only[sz,simprocAttr,bj,aC,h6,c1];rw[hlast] at hJ2;exact fin g2 hJ2 (by omega)
  ·obtain ⟨i,rfl⟩:∃i,m'=i+1:=⟨m' - 1,by omega⟩;rw[Nat.add_sub_cancel] at hx hc;have hil:=(List.getElem?_eq_some_iff.1 hx).1;have e1:((i+1:Nat):Int) - 1=(i:Int):=by omega
   rw[e1] at h6;have c1:¬((i:Int)<0):=by omega
   have u1:i<((vs.take (i+1)++List.replicate (vs.length - (i+1)) 0).map ci).length:=by simp;omega
   have u2:((vs.take (i+1)++List.replicate (vs.length - (i+1)) 0).map ci)[i]?=some (ci x):=by rw[List.getElem?_map,List.getElem?_append_left (by simp;omega),List.getElem?_take_of_lt (by omega),hx];rfl
   have ru:=ho2.rows;obtain ⟨x',hx',hx0,hx1⟩:=hin.get hc;rw[yN hx' hx] at hx0 hx1;have hcb:=hr.cs c (List.mem_of_getElem? hc);have w2:IntKind.wrap .i64 (x+1)=x+1:=aB (by omega) (by omega);simp only[sz,simprocAttr,bj,h6,c1,h4,ru,u1,u2,ci,w2];refine bB (v:=u) (sz:=1) (n:=1) (i:=i) (off:=0) (x:=.int .i64 (x+1)) (row':=ci (x+1)) ho2 u2 rfl rfl rfl λg4 hu4 n4 f4=>?_;rw[<-List.map_set,nV hil] at hu4;have hin2:=vN hin hcs1 hx hc hxc;have hidx2:=vq (cs:=S.ac n) (vs:=vs) hin.len.symm hx λk c hk hc=>hmx k c (by omega) hc;rw[hidx] at hidx2;have hlt2:=bA hr.cs hin2;have w3:IntKind.wrap .i64 ((j:Int)+1)=((j+1:Nat):Int):=by rw[aB (by omega) (by omega)];rfl
   simp only[sz,simprocAttr,bI,h5,w3];refine ⟨S.ah n - (j+1),by omega,?_⟩;rw[hINV];refine ⟨rfl,j+1,_,rfl,by omega,hin2,by rw[hidx2];rfl,by simp[St,LM,sx,h0,h1,h2,h4],hu4,hJ _ _ _ (λi hi=>f4 i λe=>by rw[hvu] at e;injection e with e;omega) hJ2,by omega⟩
 cases hm:S.jm vs e with
 | false =>
  rw[hm] at hmt;rw[co];simp only[sz,simprocAttr,h4,h2,aX,hmt];exact rest _ _ (by simp[St,LM,sx,h0,h1,h2,h4,h5]) ho (skip j _ hj (by rw[hval];exact hm) hJj) hnx
 | true =>
  rw[hm] at hmt;rw[co];have hwt:=E7 (d:=d) (g:=g) (v:=.agg [.int .i64 n.grain,b,fl,S_]) (w:=u) (vals:=vs) (y:=y) hd hr ⟨_,rfl,Rp.tree hcs (Nat.le_refl _)⟩ hq hsl hin;simp only[sz,simprocAttr,h0,h1,h5,h4,h2,aX,hmt,hwt,JP (a:=.int .i64 (j:Int)) (b:=.int .i64 (S.aX n vs)) ⟨rfl,rfl⟩ ⟨rfl,rfl⟩ ho.cell];have st:=λK' D=>step j u g K' D hj (by rw[hval];exact hm) hnx hJj (by rw[hval];exact hsl);rw[hval] at st;show (bN (I C0) d id [.agg [.int .i64 (j:Int),.int .i64 (S.aX n vs),u]] g).sat _ _ _;refine st _ _ (λg' hJ' hn' hf'=>?_) λg' hE=>?_
  ·simp only[sz,simprocAttr];exact rest _ _ (by simp[St,LM,sx,h0,h1,h2,h4,h5]) (ho.fr hn' λi hi=>hf' i (ho.lt hi).1 (ho.lt hi).2) hJ' (by omega)
  ·rw[hQ1,hQf];simp only[sz,simprocAttr,aC];exact finE g' hE
theorem s7 {C:Cfg}{d id nt:Nat}{t:T}{ps:List Nat}{assign body:Code}{a b:SC}{dfr:Nat}{args:List AV}{g:G}{K:AV->G->Prop}{D:ADf->Prop}{t':T}
  (hg:g.h.get id=.loop nt t ps assign body dfr .ready none) (ha:dT C nt assign=a) (hb:dT C nt body=b) (hp:ct t nt ps args=some t')
  (h:wp C d (some id) a (λe t1 df g1=>e=.norm/\df=[]/\g1.h.get id=.loop nt t ps assign body dfr .ready none /\
   wp C d (some id) b (λe _ df g2=>df=[]/\g2.h.get id=.loop nt t ps assign body dfr .busy none/\((e=.norm/\K (.bool true) (g2.put id (.loop nt t ps assign body dfr .ready none)))\/(e=.ret/\K (.bool false) (g2.put id (.loop nt t ps assign body dfr .done (some .ret))))))
    t1 [] (g1.put id (.loop nt t ps assign body dfr .busy none))) t' [] g) :
  (bN (I C) d id args g).sat K g D:=by
 subst ha;subst hb;unfold bN;rw[show g.get id=_ from hg];dsimp only;rw[hp];dsimp only;have h1:=qb h;cases hc:(I C).code nt d (some id) assign t' [] g with
 | fail=>rw[hc] at h1;exact h1.elim
 | ok e t1 df g1 =>
  rw[hc] at h1;obtain ⟨rfl,rfl,hg1,h2⟩:=h1;dsimp only;rw[show g1.get id=_ from hg1];dsimp only;have h3:=qb h2;cases hc2:(I C).code nt d (some id) body t1 [] (g1.put id (.loop nt t ps assign body dfr .busy none)) with
  | fail=>rw[hc2] at h3;exact h3.elim
  | ok e t2 df2 g2 =>
   rw[hc2] at h3;obtain ⟨rfl,h4,h5⟩:=h3;dsimp only;rw[show g2.get id=_ from h4];rcases h5 with ⟨rfl,h5⟩ | ⟨rfl,h5⟩<;>exact h5
theorem zS:C0.ext N.af=none:=by kernel_rfl
theorem EL {d nt p r t1 t2 ky ke:Nat}{n:Net}{y:QnM}{e:List Int}{cs:List AV}{w:AV}{ca cb:SC}{Q:QT}{t:T}{df:List ADf}{g:G}(hd:0<d)(hr:NR n)(hq:QnOk n y)(hcs:Rp.rp NoP ky .nil y cs)(hw:SlR NoP ke .nil e w)(hel:e.length<=n.nodes.length)
  (hv:tat t r=.clo N.af [] [.tptr t1 4 [cs] 0 0,.tptr t2 1 [[w]] 0 0]) (hp:p<nt)
  (J:Nat->H->Prop) (E:H->Prop) (hJ:∀j h h',(∀i,i<g.nx->h'.get i=h.get i)->J j h->J j h') (hE:∀h h',(∀i,i<g.nx->h'.get i=h.get i)->E h->E h') (h0:J 0 g.h)
  (skip:∀(j:Nat) (h:H),j<S.ah n->S.jm (S.ak (S.ac n) j) e=false->J j h->J (j+1) h)
  (step:∀(j:Nat) (u:AV) (g1:G),j<S.ah n->S.jm (S.ak (S.ac n) j) e=true->J j g1.h->g.nx+2<=g1.nx->SlR (λi=>g.nx+2<=i/\i<g1.nx) 0 g1.h (S.ak (S.ac n) j) u ->
   wp C0 d (some (g.nx+1)) ca (λe t1 df g1'=>e=.norm/\df=[]/\Fr g1 g1'/\∀g2:G,g2.nx=g1'.nx->(∀i,i≠g.nx+1->g2.h.get i=g1'.h.get i) ->
    wp C0 d (some (g.nx+1)) cb (λe _ df g3=>df=[]/\RowQ g.nx g2 g3 e (J (j+1) g3.h) (E g3.h)) t1 [] g2)
    (ej t p (.agg [.int .i64 (j:Int),.int .i64 (S.aX n (S.ak (S.ac n) j)),u])) [] g1)
  (fin:∀g',J (S.ah n) g'.h->g.nx+2<=g'.nx->g'.h.get g.nx=.dfr true->Q .norm t (.mark g.nx::df) g')
  (finE:∀g',E g'.h->g.nx+2<=g'.nx->g'.h.get g.nx=.dfr true->Q .ret t (.mark g.nx::df) g') :
  wp C0 d none (.rng nt (.t r) [p] ca cb) Q t df g:=by
 obtain ⟨b,fl,S_,rfl,-,-,-⟩:=tH.1 hcs;rw[hq.net] at hv hcs;refine n_ (fn:=N.af) (first:=[]) (cap:=[.tptr t1 4 [[.int .i64 n.grain,b,fl,S_]] 0 0,.tptr t2 1 [[w]] 0 0]) (s:=aC) hv zS jz (by simp[aC]) ?_;intro assign body ha hb;have e1:((g.new (.dfr true)).new (.loop nt t [p] assign body g.nx .ready none)).nx=g.nx+2:=by simp
 refine Et (g0:=(g.new (.dfr true)).new (.loop nt t [p] assign body g.nx .ready none)) (id:=g.nx+1) hd hr hq hcs hw hel
  (λj h=>J j h/\h.get g.nx=.dfr true/\h.get (g.nx+1)=.loop nt t [p] assign body g.nx .ready none)
  (λg'=>E g'.h/\g'.h.get g.nx=.dfr true/\g'.h.get (g.nx+1)=.loop nt t [p] assign body g.nx .done (some .ret)/\g.nx+2<=g'.nx) ?_ ?_ ?_ ?_ ?_ ?_
 ·rintro j h h' hh ⟨a1,a2,a3⟩;rw[e1] at hh;exact ⟨hJ j h h' (λi hi=>hh i (by omega)) a1,by rw[hh _ (by omega),a2],by rw[hh _ (by omega),a3]⟩
 ·rintro j h hj hm ⟨a1,a2,a3⟩;exact ⟨skip j h hj hm a1,a2,a3⟩
 ·rintro j u g1 K' D hj hm hn ⟨a1,a2,a3⟩ hsl kk kE;rw[e1] at hn kk hsl;refine s7 a3 ha hb (t':=ej t p (.agg [.int .i64 (j:Int),.int .i64 (S.aX n (S.ak (S.ac n) j)),u])) ?_ ?_
  ·simp only[ct,aa,Nat.blt_eq,if_pos hp];rfl
  ·refine bL _ (step j u g1 hj hm a1 (by omega) hsl) ?_;rintro e t1 df g1' ⟨rfl,rfl,hfr,h⟩;have hl0:g.nx+1<g1.nx:=by omega
   have hl:g.nx+1<g1'.nx:=Nat.lt_of_lt_of_le hl0 hfr.1;have a2':g1'.h.get g.nx=.dfr true:=by rw[hfr.2 _ (by omega),a2]
   have a3':g1'.h.get (g.nx+1)=.loop nt t [p] assign body g.nx .ready none:=by rw[hfr.2 _ hl0,a3]
   refine ⟨rfl,rfl,a3',?_⟩;refine bL _ (h (g1'.put (g.nx+1) (.loop nt t [p] assign body g.nx .busy none)) (by simp) (λi hi=>by simp[H.get_put,hi])) ?_;rintro e t2 df g3 ⟨rfl,⟨b2,b3,b1⟩⟩;have b4:g3.h.get (g.nx+1)=.loop nt t [p] assign body g.nx .busy none:=by rw[b3 _ (by omega) (by simpa using hl)];simp[H.get_put]
   have b5:g3.h.get g.nx=.dfr true:=by rw[b3 _ (by omega) (by simp;omega)];simp[H.get_put,a2']
   refine ⟨rfl,b4,?_⟩;have b2':g1'.nx<=g3.nx:=by simpa using b2
   have hf1:=hfr.1;rcases b1 with ⟨rfl,b1⟩ | ⟨rfl,b1⟩
   ·refine .inl ⟨rfl,kk _ ⟨hJ _ g3.h _ (λi hi=>by simp[H.get_put,show ¬i=g.nx+1 by omega]) b1,?_,?_⟩ (by simp;omega) λi h1 h2=>?_⟩
    ·simp[H.get_put,b5]
    ·simp[H.get_put]
    ·have hne:¬i=g.nx+1:=by omega
     have:=b3 i (by omega) (by simp;omega);simp[H.get_put,hne] at this ⊢;rw[this,hfr.2 i h2]
   ·refine .inr ⟨rfl,kE _ ⟨hE g3.h _ (λi hi=>by simp[H.get_put,show ¬i=g.nx+1 by omega]) b1,?_,?_,?_⟩⟩
    ·simp[H.get_put,b5]
    ·simp[H.get_put]
    ·simp;omega
 ·refine ⟨hJ 0 g.h _ (λi hi=>?_) h0,?_,?_⟩
  ·simp[H.get_put,show ¬i=g.nx+1 by omega,show ¬i=g.nx by omega]
  ·simp[H.get_put]
  ·simp[H.get_put]
 ·rintro g' ⟨a1,a2,a3⟩ hn;rw[e1] at hn;refine ⟨_,_,_,_,_,_,.inl ⟨a3,fin _ (hJ _ g'.h _ (λi hi=>by simp[H.get_put,show ¬i=g.nx+1 by omega]) a1) (by simpa using hn) ?_⟩⟩;simp[H.get_put,a2]
 ·rintro g' ⟨a1,a2,a3,hn⟩;refine ⟨_,_,_,_,_,_,.inr ⟨a3,finE _ (hE g'.h _ (λi hi=>by simp[H.get_put,show ¬i=g.nx+1 by omega]) a1) (by simpa using hn) ?_⟩⟩;simp[H.get_put,a2]
structure CsOk (cs:List Int):Prop where
 b:∀c∈cs,1<=c/\c<=4
 l:cs.length<=8
def S.nc (cs:List Int):Nat:=(S.ae cs).toNat
theorem CsOk.nc {cs:List Int}(h:CsOk cs):1<=S.nc cs/\S.nc cs<=65536/\((S.nc cs:Nat):Int)=S.ae cs:=by
 obtain ⟨h1,h2⟩:=bz h.b;have h3:(4:Int) ^ cs.length<=4 ^ 8:=by
  have:(4:Nat) ^ cs.length<=4 ^ 8:=Nat.pow_le_pow_right (by decide) h.l
  exact_mod_cast this
 have h4:(4:Int) ^ 8=65536:=by decide
 unfold S.nc;omega
def Up (B:Nat)(g g':G):Prop:=(∀i,i<B->g'.h.get i=g.h.get i)/\∀i∈g'.lg,i∈g.lg\/B<=i
theorem Up.refl (B:Nat)(g:G):Up B g g:=⟨λ_ _=>rfl,λ_ h=>.inl h⟩
theorem Up.trans {B:Nat}{g g1 g2:G}(h:Up B g g1)(h2:Up B g1 g2):Up B g g2:=⟨λi hi=>by rw[h2.1 i hi,h.1 i hi],λi hi=>(h2.2 i hi).elim (λh3=>h.2 i h3) .inr⟩
theorem Up.mono {B B':Nat}{g g':G}(h:Up B g g')(hb:B'<=B):Up B' g g':=⟨λi hi=>h.1 i (by omega),λi hi=>(h.2 i hi).imp id λh=>by omega⟩
theorem Up.new {B:Nat}{g:G}(hb:B<=g.nx)(o:AObj):Up B g (g.new o):=⟨λi hi=>by rw[G.new_h,aq _ _ _ (by omega)],λi hi=>by simp at hi;rcases hi with rfl | hi;exact .inr hb;exact .inl hi⟩
theorem Up.put {B:Nat}{g:G}{j:Nat}(hb:B<=j)(o:AObj):Up B g (g.put j o):=⟨λi hi=>by rw[G.put_h,aq _ _ _ (by omega)],λi hi=>by simp at hi;rcases hi with rfl | hi;exact .inr hb;exact .inl hi⟩
theorem nU {g:G}{b:Nat}{v:AV}{sz n i off:Nat}{rows:List (List AV)}{row row':List AV}{x:AV}{K:AV->G->Prop}{D:ADf->Prop}(hv:Own g b v sz rows)(hr:rows[i]?=some row)
  (hl:x.cells.length=n) (ht:x.isTup=false) (hp:bM row off x.cells=some row')
  (k:∀g',Own g' b v sz (rows.set i row')->g'.nx=g.nx->(∀i,vid v≠some i->g'.h.get i=g.h.get i)->Up b g g'->K .undef g'):(lj n (mi sz v i off) x g).sat K g D:=by
 rcases hv with ⟨rfl,rfl⟩ | ⟨id,ep,lo,h1,h2,rfl,h3⟩
 ·simp at hr
 ·simp only[mi,Nat.zero_add];rw[wB h3 hr rfl ht hl hp];refine k _ (.inr ⟨id,ep,lo,h1,by simpa using h2,by simp,by simp[aS]⟩) (by simp) (λi hne=>?_) (Up.put h1 _);rw[G.put_h,aq _ _ _ (λe=>hne (by rw[e];rfl))]
def Uo (B:Nat)(g g':G):Prop:=Up B g g'/\g.nx<=g'.nx/\∀i,i≠B->i<g.nx->g'.h.get i=g.h.get i
theorem Uo.refl (B:Nat)(g:G):Uo B g g:=⟨Up.refl _ _,Nat.le_refl _,λ_ _ _=>rfl⟩
theorem Uo.trans {B:Nat}{g g1 g2:G}(h:Uo B g g1)(h2:Uo B g1 g2):Uo B g g2:=⟨h.1.trans h2.1,Nat.le_trans h.2.1 h2.2.1,λi hi hn=>by rw[h2.2.2 i hi (Nat.lt_of_lt_of_le hn h.2.1),h.2.2 i hi hn]⟩
def Ul (B:Nat)(g g':G):Prop:=Up B g g'/\g.nx<=g'.nx/\∀i,(i<B\/B+3<=i)->i<g.nx->g'.h.get i=g.h.get i
theorem Ul.put {B:Nat}{g:G}{j:Nat}(hb:B<=j)(hb2:j<B+3)(o:AObj):Ul B g (g.put j o):=⟨Up.put hb o,by simp,λi hi _=>by rw[G.put_h,aq _ _ _ (by omega)]⟩
def LMc (id:Nat)(w u:AV)(k:Nat):List (Nat×AV):=[(0,.yld id),(1,.tptr 0 1 [[w]] 0 0),(3,u),(4,.int .i64 (k:Int))]
structure OdoC (cs vs:List Int) (L:List (Nat×AV)) (u:AV) (g0:G) (m:Nat) (t:T) (g:G):Prop where
 st:tat t 5=.int .i64 ((m:Int) - 1)
 ss:St t L
 ow:Own g g0.nx u 1 ((vs.take m++List.replicate (vs.length - m) 0).map ci)
 mx:∀(j:Nat) (c:Int),m<=j->cs[j]?=some c->vs[j]?.getD 0=c - 1
theorem H3 {d id k m:Nat}{cs vs:List Int}{w u:AV}{Q:QT}{t:T}{g g0:G}(hb:CsOk cs)(hw:SlR NoP 0 .nil cs w)(hc:InC cs vs)(hm:m<=cs.length)
  (h0:OdoC cs vs (LMc id w u k) u g0 m t g) (hvu:vid u=some g0.nx)
  (fin:∀m' t g',m'<=cs.length->OdoC cs vs (LMc id w u k) u g0 m' t g'->g.nx<=g'.nx->Uo g0.nx g g'->(m'=0\/∃x c,vs[m' - 1]?=some x/\cs[m' - 1]?=some c/\x≠c - 1/\0<m')->Q (.exit 2) t [] g') :
  wpL (wp C0 d none bF) Q t [] g:=by
 have hvl:=hc.len;have hl8:=hb.l;have ri:=λh=>(hw.tree (h':=h) (Nat.le_refl 0):SlR NoP 0 h cs w).ints;refine n0 (λm t df g'=>df=[]/\m<=cs.length/\OdoC cs vs (LMc id w u k) u g0 m t g'/\g.nx<=g'.nx/\Uo g0.nx g g') m ⟨rfl,hm,h0,Nat.le_refl _,Uo.refl _ _⟩ ?_;rintro m t df g1 ⟨rfl,hm,⟨h5,⟨h0,h1,h3,h4,-⟩,how,hmx⟩,hnx,hfr⟩;simp only[bF];cases m with
 | zero =>
  have c1:¬((0:Int)<=((0:Nat):Int) - 1):=by omega
  simp only[sz,simprocAttr,h5,c1];refine fin 0 _ _ (Nat.zero_le _) ⟨?_,?_,?_,hmx⟩ ?_ ?_ (.inl rfl)
  ·simp[sx,h5]
  ·simp[St,LMc,sx,h0,h1,h3,h4]
  ·exact how
  ·exact hnx
  ·exact hfr
 | succ m =>
  have c1:(0:Int)<=((m+1:Nat):Int) - 1:=by omega
  have e1:((m+1:Nat):Int) - 1=(m:Int):=by omega
  rw[e1] at c1 h5;obtain ⟨x,hx,-,hxm⟩:=ac (l:=cs) (j:=m) (by omega);obtain ⟨v,hv,hv0,hv1⟩:=hc.get hx;have hcx:=hb.b x hxm;have u1:m<((vs.take (m+1)++List.replicate (vs.length - (m+1)) 0).map ci).length:=by simp;omega
  have u2:((vs.take (m+1)++List.replicate (vs.length - (m+1)) 0).map ci)[m]?=some (ci v):=by rw[List.getElem?_map,List.getElem?_append_left (by simp;omega),List.getElem?_take_of_lt (by omega),hv];rfl
  have z1:m<(cs.map ci).length:=by simp;omega
  have z2:(cs.map ci)[m]?=some (ci x):=by rw[List.getElem?_map,hx];rfl
  have ru:=how.rows;have w1:IntKind.wrap .i64 (x - 1)=x - 1:=aB (by omega) (by omega)
  by_cases c2:v=x - 1
  ·simp only[sz,simprocAttr,h5,h1,h3,c1,ru,u1,u2,ri,z1,z2,aX,ci,w1,c2];refine nU (v:=u) (sz:=1) (n:=1) (i:=m) (off:=0) (x:=.int .i64 0) (row':=ci 0) how u2 rfl rfl rfl λg4 hu4 n4 f4 p4=>?_;rw[<-List.map_set,nW (by omega)] at hu4;have w2:IntKind.wrap .i64 ((m:Int) - 1)=(m:Int) - 1:=aB (by omega) (by omega);simp only[sz,simprocAttr,h5,w2];refine ⟨m,by omega,by omega,⟨by simp[sx],by simp[St,LMc,sx,h0,h1,h3,h4],hu4,λj c hj hc'=>?_⟩,by omega,hfr.trans ⟨p4,by omega,λi hi _=>f4 i λe=>hi (by rw[hvu] at e;injection e with e;exact e.symm)⟩⟩
   by_cases e:j=m
   ·subst e;rw[hx] at hc';injection hc' with hc';rw[hv,Option.getD_some];omega
   ·exact hmx j c (by omega) hc'
  ·simp only[sz,simprocAttr,h5,h1,h3,c1,ru,u1,u2,ri,z1,z2,aX,ci,w1,c2];refine fin (m+1) _ _ hm ⟨?_,?_,?_,hmx⟩ ?_ ?_ (.inr ⟨v,x,hv,hx,c2,by omega⟩)
   ·simp[sx,h5]
   ·simp[St,LMc,sx,h0,h1,h3,h4]
   ·exact how
   ·exact hnx
   ·exact hfr
theorem H4 {d id:Nat}{cs:List Int}{w:AV}{g0:G}{K:AV->G->Prop}(hb:CsOk cs)(hw:SlR NoP 0 .nil cs w)
  (J:Nat->G->Prop) (E:G->Prop) (hJ:∀j g g',Uo g0.nx g g'->J j g->J j g')
  (step:∀(j:Nat) (u:AV) (g:G) (K':AV->G->Prop) (D:ADf->Prop),j<S.nc cs->g0.nx+1<=g.nx->J j g->SlR (λi=>g0.nx<=i/\i<g.nx) 0 g.h (S.ak cs j) u ->
   (∀g',J (j+1) g'->g.nx<=g'.nx->(∀i,g0.nx<=i->i<g.nx->g'.h.get i=g.h.get i)->K' (.bool true) g')->(∀g',E g'->K' (.bool false) g')->(bN (I C0) d id [.int .i64 (j:Int),u] g).sat K' g D)
  (h0:J 0 g0) (fin:∀g',J (S.nc cs) g'->g0.nx<=g'.nx->K (.tup []) g') (finE:∀g',E g'->K (.tup []) g') :
  wp C0 d none aP.code (fnQ C0 d aP.res K) (bD 0 [.yld id,.tptr 0 1 [[w]] 0 0] .nil) [] g0:=by
 have hl8:=hb.l;obtain ⟨W1,W2,W3⟩:=hb.nc;have hcs1:=λc hc=>(hb.b c hc).1;have nl:=hw.len;have ri:=λh=>(hw.tree (h':=h) (Nat.le_refl 0):SlR NoP 0 h cs w).ints;obtain ⟨Qf,hQf⟩:∃Qf,Qf=fnQ C0 d aP.res K:=⟨_,rfl⟩;rw[<-hQf];simp only[sz,simprocAttr,aP,aX,nl];refine kX (b:=g0.nx) (n:=cs.length) (by unfold aQ;omega) (by unfold aQ;omega) (Nat.le_refl _) λu g1 hu n1 fr1 v1 l1=>?_;simp only[sz,simprocAttr];obtain ⟨INV,hINV⟩:∃INV:Nat->PT,INV=(λm t df g=>df=[]/\∃(j:Nat) (vs:List Int),m=S.nc cs - j/\j<S.nc cs/\InC cs vs/\S.af cs vs=(j:Int)/\St t (LMc id w u j)/\Own g g0.nx u 1 (vs.map ci)/\J j g/\g0.nx+1<=g.nx):=⟨_,rfl⟩;refine n0 INV (S.nc cs) ?_ ?_
 ·rw[hINV];exact ⟨rfl,0,List.replicate cs.length 0,rfl,by omega,wJ hcs1,by rw[m6];rfl,by simp[St,LMc,sx],by simpa [ci] using hu,hJ 0 _ _ ⟨⟨fr1,λi hi=>by rw[l1] at hi;rcases List.mem_cons.1 hi with rfl | hi;exact .inr (Nat.le_refl _);exact .inl hi⟩,by omega,λi _ hn=>fr1 i hn⟩ h0,by omega⟩
 intro m t df g hI;have hI2:=hI;rw[hINV] at hI2;obtain ⟨rfl,j,vs,rfl,hj,hin,hidx,⟨h0,h1,h3,h4,-⟩,ho,hJj,hnx⟩:=hI2;clear hI;have hvl:=hin.len;have hval:S.ak cs (j:Int)=vs:=by rw[<-hidx];exact jb hcs1 hin
 have hvu:vid u=some g0.nx:=v1;have hsl:SlR (λi=>g0.nx<=i/\i<g.nx) 0 g.h vs u:=Own.sl (α:=Int) ho (by omega) (All2.of_map (λa=>aF.2 rfl) _) λi hi=>ho.lt hi;have w1:IntKind.wrap .i64 ((cs.length:Int) - 1)=(cs.length:Int) - 1:=aB (by omega) (by omega);obtain ⟨R,hR⟩:∃R,R=(SC.seq (.blk 1 (sQ [oL 15 1,oN 16 15,o 17 (.bin .sub (.t 16) (qI 1)),oM 5 17] (.seq (.blk 2 (.loop bF)) bG))) cL):=⟨_,rfl⟩;simp only[fB];rw[<-hR,co];obtain ⟨Q1,hQ1⟩:∃Q1,Q1=kL INV (S.nc cs - j) (kB 0 Qf):=⟨_,rfl⟩;rw[<-hQ1];have rest:∀(t:T) (g:G),St t (LMc id w u j)->Own g g0.nx u 1 (vs.map ci)->J (j+1) g->g0.nx+1<=g.nx->wp C0 d none R Q1 t [] g:=by
  rintro t g ⟨h0,h1,h3,h4,-⟩ ho hJj hnx;rw[hR,hQ1];simp only[sz,simprocAttr,h1,aX,nl,w1];refine H3 (id:=id) (k:=j) (m:=cs.length) (w:=w) (u:=u) (vs:=vs) (g0:=g0) hb hw hin (Nat.le_refl _) ⟨by simp[sx],by simp[St,LMc,sx,h0,h1,h3,h4],?_,λi c hi hc=>?_⟩ hvu ?_
  ·rw[List.take_of_length_le (by omega),show vs.length - cs.length=0 by omega];simpa using ho
  ·have:=(List.getElem?_eq_some_iff.1 hc).1;omega
  rintro m' t2 g2 hm' ⟨h5,⟨h0,h1,h3,h4,-⟩,ho2,hmx⟩ hn2 hf2 hcase;have hJ2:J (j+1) g2:=hJ _ _ _ hf2 hJj;rcases hcase with rfl | ⟨x,c,hx,hc,hxc,hm0⟩
  ·have hlast:j+1=S.nc cs:=by have:=rU (cs:=cs) (vs:=vs) hin.len.symm λi c hc=>hmx i c (Nat.zero_le _) hc;omega
   have c1:(((0:Nat):Int) - 1<0):=by omega
   rw[hQf];simp only[sz,simprocAttr,bG,aP,h5,c1];rw[hlast] at hJ2;exact fin g2 hJ2 (by omega)
  ·obtain ⟨i,rfl⟩:∃i,m'=i+1:=⟨m' - 1,by omega⟩;rw[Nat.add_sub_cancel] at hx hc;have hil:=(List.getElem?_eq_some_iff.1 hx).1;have e1:((i+1:Nat):Int) - 1=(i:Int):=by omega
   rw[e1] at h5;have c1:¬((i:Int)<0):=by omega
   have u1:i<((vs.take (i+1)++List.replicate (vs.length - (i+1)) 0).map ci).length:=by simp;omega
   have u2:((vs.take (i+1)++List.replicate (vs.length - (i+1)) 0).map ci)[i]?=some (ci x):=by rw[List.getElem?_map,List.getElem?_append_left (by simp;omega),List.getElem?_take_of_lt (by omega),hx];rfl
   have ru:=ho2.rows;obtain ⟨x',hx',hx0,hx1⟩:=hin.get hc;rw[yN hx' hx] at hx0 hx1;have hcb:=hb.b c (List.mem_of_getElem? hc);have w2:IntKind.wrap .i64 (x+1)=x+1:=aB (by omega) (by omega);simp only[sz,simprocAttr,bG,h5,c1,h3,ru,u1,u2,ci,w2];refine nU (v:=u) (sz:=1) (n:=1) (i:=i) (off:=0) (x:=.int .i64 (x+1)) (row':=ci (x+1)) ho2 u2 rfl rfl rfl λg4 hu4 n4 f4 p4=>?_;rw[<-List.map_set,nV hil] at hu4;have hin2:=vN hin hcs1 hx hc hxc;have hidx2:=vq (cs:=cs) (vs:=vs) hin.len.symm hx λk c hk hc=>hmx k c (by omega) hc;rw[hidx] at hidx2;have hlt2:=bA hb.b hin2;have w3:IntKind.wrap .i64 ((j:Int)+1)=((j+1:Nat):Int):=by rw[aB (by omega) (by omega)];rfl
   simp only[sz,simprocAttr,cL,h4,w3];refine ⟨S.nc cs - (j+1),by omega,?_⟩;rw[hINV];refine ⟨rfl,j+1,_,rfl,by omega,hin2,by rw[hidx2];rfl,by simp[St,LMc,sx,h0,h1,h3],hu4,hJ _ _ _ ⟨p4,by omega,λi hi _=>f4 i λe=>hi (by rw[hvu] at e;injection e with e;exact e.symm)⟩ hJ2,by omega⟩
 simp only[sz,simprocAttr,h0,h3,h4];have st:=λK' D=>step j u g K' D hj hnx hJj (by rw[hval];exact hsl);show (bN (I C0) d id [.int .i64 (j:Int),u] g).sat _ _ _;refine st _ _ (λg' hJ' hn' hf'=>?_) λg' hE=>?_
 ·simp only[sz,simprocAttr];exact rest _ _ (by simp[St,LMc,sx,h0,h1,h3,h4]) (ho.fr hn' λi hi=>hf' i (ho.lt hi).1 (ho.lt hi).2) hJ' (by omega)
 ·rw[hQ1,hQf];simp only[sz,simprocAttr,aP];exact finE g' hE
theorem FF:C0.ext N.ae=none:=by kernel_rfl
theorem EK {d nt p q r:Nat}{cs:List Int}{w:AV}{ca cb:SC}{Q:QT}{t:T}{df:List ADf}{g:G}(hb:CsOk cs)(hw:SlR NoP 0 .nil cs w)
  (hv:tat t r=.clo N.ae [] [.tptr 0 1 [[w]] 0 0]) (hp:p<nt) (hq:q<nt)
  (J:Nat->G->Prop) (E:G->Prop) (hJ:∀j g1 g2,Ul g.nx g1 g2->J j g1->J j g2) (hE:∀g1 g2,Ul g.nx g1 g2->E g1->E g2) (h0:J 0 g)
  (step:∀(j:Nat) (u:AV) (g1:G),j<S.nc cs->J j g1->g.nx+3<=g1.nx->SlR (λi=>g.nx+2<=i/\i<g1.nx) 0 g1.h (S.ak cs j) u ->
   wp C0 d (some (g.nx+1)) ca (λe t1 df g1'=>e=.norm/\df=[]/\Fr g1 g1'/\∀g2:G,g2.nx=g1'.nx->(∀i,i≠g.nx+1->g2.h.get i=g1'.h.get i)->Up g.nx g1' g2 ->
    wp C0 d (some (g.nx+1)) cb (λe _ df g3=>df=[]/\RowQ g.nx g2 g3 e (J (j+1) g3) (E g3)) t1 [] g2)
    (ej (ej t p (.int .i64 (j:Int))) q u) [] g1)
  (fin:∀g',J (S.nc cs) g'->g.nx+2<=g'.nx->g'.h.get g.nx=.dfr true->Q .norm t (.mark g.nx::df) g')
  (finE:∀g',E g'->g.nx+2<=g'.nx->g'.h.get g.nx=.dfr true->Q .ret t (.mark g.nx::df) g') :
  wp C0 d none (.rng nt (.t r) [p,q] ca cb) Q t df g:=by
 refine n_ (fn:=N.ae) (first:=[]) (cap:=[.tptr 0 1 [[w]] 0 0]) (s:=aP) hv FF mN (by simp[aP]) ?_;intro assign body ha hb';have e1:((g.new (.dfr true)).new (.loop nt t [p,q] assign body g.nx .ready none)).nx=g.nx+2:=by simp
 refine H4 (g0:=(g.new (.dfr true)).new (.loop nt t [p,q] assign body g.nx .ready none)) (id:=g.nx+1) hb hw
  (λj g'=>J j g'/\g'.h.get g.nx=.dfr true/\g'.h.get (g.nx+1)=.loop nt t [p,q] assign body g.nx .ready none)
  (λg'=>E g'/\g'.h.get g.nx=.dfr true/\g'.h.get (g.nx+1)=.loop nt t [p,q] assign body g.nx .done (some .ret)/\g.nx+2<=g'.nx) ?_ ?_ ?_ ?_ ?_
 ·rintro j h h' hh ⟨a1,a2,a3⟩;rw[e1] at hh;exact ⟨hJ j h h' ⟨hh.1.mono (by omega),hh.2.1,λi hi hn=>hh.2.2 i (by omega) hn⟩ a1,by rw[hh.1.1 _ (by omega),a2],by rw[hh.1.1 _ (by omega),a3]⟩
 ·rintro j u g1 K' D hj hn ⟨a1,a2,a3⟩ hsl kk kE;rw[e1] at hn kk hsl;refine s7 a3 ha hb' (t':=ej (ej t p (.int .i64 (j:Int))) q u) ?_ ?_
  ·simp only[ct,aa,Nat.blt_eq,if_pos hp,if_pos hq];rfl
  ·refine bL _ (step j u g1 hj a1 (by omega) hsl) ?_;rintro e t1 df g1' ⟨rfl,rfl,hfr,h⟩;have hl0:g.nx+1<g1.nx:=by omega
   have hl:g.nx+1<g1'.nx:=Nat.lt_of_lt_of_le hl0 hfr.1;have a2':g1'.h.get g.nx=.dfr true:=by rw[hfr.2 _ (by omega),a2]
   have a3':g1'.h.get (g.nx+1)=.loop nt t [p,q] assign body g.nx .ready none:=by rw[hfr.2 _ hl0,a3]
   refine ⟨rfl,rfl,a3',?_⟩;refine bL _ (h (g1'.put (g.nx+1) (.loop nt t [p,q] assign body g.nx .busy none)) (by simp) (λi hi=>by simp[H.get_put,hi]) (Up.put (by omega) _)) ?_;rintro e t2 df g3 ⟨rfl,⟨b2,b3,b1⟩⟩;have b4:g3.h.get (g.nx+1)=.loop nt t [p,q] assign body g.nx .busy none:=by rw[b3 _ (by omega) (by simpa using hl)];simp[H.get_put]
   have b5:g3.h.get g.nx=.dfr true:=by rw[b3 _ (by omega) (by simp;omega)];simp[H.get_put,a2']
   refine ⟨rfl,b4,?_⟩;have b2':g1'.nx<=g3.nx:=by simpa using b2
   have hf1:=hfr.1;rcases b1 with ⟨rfl,b1⟩ | ⟨rfl,b1⟩
   ·refine .inl ⟨rfl,kk _ ⟨hJ _ g3 _ (Ul.put (by omega) (by omega) _) b1,?_,?_⟩ (by simp;omega) λi h1 h2=>?_⟩
    ·simp[H.get_put,b5]
    ·simp[H.get_put]
    ·have hne:¬i=g.nx+1:=by omega
     have:=b3 i (by omega) (by simp;omega);simp[H.get_put,hne] at this ⊢;rw[this,hfr.2 i h2]
   ·refine .inr ⟨rfl,kE _ ⟨hE g3 _ (Ul.put (by omega) (by omega) _) b1,?_,?_,?_⟩⟩
    ·simp[H.get_put,b5]
    ·simp[H.get_put]
    ·simp;omega
 ·refine ⟨hJ 0 g _ ⟨(Up.new (Nat.le_refl _) _).trans (Up.new (by simp) _),by simp;omega,λi hi hn=>by simp[H.get_put,show ¬i=g.nx by omega,show ¬i=g.nx+1 by omega]⟩ h0,?_,?_⟩
  ·simp[H.get_put]
  ·simp[H.get_put]
 ·rintro g' ⟨a1,a2,a3⟩ hn;rw[e1] at hn;refine ⟨_,_,_,_,_,_,.inl ⟨a3,fin _ (hJ _ g' _ (Ul.put (by omega) (by omega) _) a1) (by simpa using hn) ?_⟩⟩;simp[H.get_put,a2]
 ·rintro g' ⟨a1,a2,a3,hn⟩;refine ⟨_,_,_,_,_,_,.inr ⟨a3,finE _ (hE g' _ (Ul.put (by omega) (by omega) _) a1) (by simpa using hn) ?_⟩⟩;simp[H.get_put,a2]
theorem wj {d nt p q r:Nat}{cs:List Int}{w:AV}{ca cb:SC}{Q:QT}{t:T}{df:List ADf}{g:G}(hb:CsOk cs)(hw:SlR NoP 0 .nil cs w)
  (hv:tat t r=.clo N.ae [] [.tptr 0 1 [[w]] 0 0]) (hp:p<nt) (hq:q<nt)
  (J:Nat->G->Prop) (E:G->Prop) (hJ:∀j g1 g2,Up g.nx g1 g2->J j g1->J j g2) (hE:∀g1 g2,Up g.nx g1 g2->E g1->E g2) (h0:J 0 g)
  (step:∀(j:Nat) (u:AV) (g1:G),j<S.nc cs->J j g1->g.nx+2<=g1.nx->SlR (λi=>g.nx+2<=i/\i<g1.nx) 0 g1.h (S.ak cs j) u ->
   wp C0 d (some (g.nx+1)) ca (λe t1 df g1'=>e=.norm/\df=[]/\Fr g1 g1'/\∀g2:G,g2.nx=g1'.nx->(∀i,i≠g.nx+1->g2.h.get i=g1'.h.get i)->Up g.nx g1' g2 ->
    wp C0 d (some (g.nx+1)) cb (λe _ df g3=>df=[]/\RowQ g.nx g2 g3 e (J (j+1) g3) (E g3)) t1 [] g2)
    (ej (ej t p (.int .i64 (j:Int))) q u) [] g1)
  (fin:∀g',J (S.nc cs) g'->g.nx+2<=g'.nx->g'.h.get g.nx=.dfr true->Q .norm t (.mark g.nx::df) g')
  (finE:∀g',E g'->g.nx+2<=g'.nx->g'.h.get g.nx=.dfr true->Q .ret t (.mark g.nx::df) g') :
  wp C0 d none (.rng nt (.t r) [p,q] ca cb) Q t df g :=
 EK hb hw hv hp hq J E (λj g1 g2 h=>hJ j g1 g2 h.1) (λg1 g2 h=>hE g1 g2 h.1) h0 (λj u g1 hj hJj hn=>step j u g1 hj hJj (by omega)) fin finE
def CbV (cs:List Int):VS:=λP k h v=>∃p,v=.clo N.ae [] [p]/\ym cs 1 P k h p
theorem J_ (cs:List Int):Snb (CbV cs) 2:=by
 refine ⟨λ{P k h v n} d r hn=>?_,λ{k h v n} r hn=>?_⟩
 ·obtain ⟨p,rfl,r1⟩:=r;obtain ⟨n,rfl⟩:∃q,n=q+2:=⟨n - 2,by omega⟩;obtain ⟨p',e1,r1'⟩:=sn (n:=n) d r1 (Nat.le_trans (show Rp.dp (List Int)<=20 by decide) (by omega));refine ⟨.clo N.ae [] [p'],?_,p',rfl,r1'⟩;simp only[Hx.snap,aE] at e1 ⊢;rw[e1]
 ·obtain ⟨p,rfl,r1⟩:=r;obtain ⟨n,rfl⟩:∃q,n=q+2:=⟨n - 2,by omega⟩;obtain ⟨m1,e1,l1⟩:=uj (n:=n) r1;refine ⟨Nat.max m1 0,?_,by show max m1 0<=k;omega⟩;show fc (dU (n+1)) [p]=_;simp only[fc,e1]
theorem yD {d:Nat}{g:G}{w:AV}{cs:List Int}(hd:0<d)(hw:SlR NoP 0 g.h cs w) :
  ∃z,ax C0 d N.ak [w] g=.val (.clo N.ae [] [.tptr 0 1 [[z]] 0 0])/\SlR NoP 0 .nil cs z:=by
 have key:∃r,ax C0 d N.ak [w] g=.val r/\CbV cs NoP 0 .nil r:=by rw[mG];refine br oR (xs:=[w]) (by simp only[aE,qp d hw]) (by simp[eL]) (J_ cs) (by decide) hd ?_;simp only[sz,simprocAttr,eL,iv,uD hw];refine ⟨λ_=>True,_,rfl,.inl ⟨0,[w],rfl,trivial,by simp[sx,H.get_put],?_⟩⟩;exact ⟨w,rfl,hw.wide (Nat.le_refl 0)⟩
 obtain ⟨r,hr,p,rfl,r1⟩:=key;rcases r1 with ⟨id,cs,rfl,hP,-⟩ | ⟨t,cs2,rfl,ht,r1⟩
 ·exact hP.elim
 obtain ⟨z,rfl,hz⟩:=dL.1 r1;have:t=0:=by omega
 subst this;exact ⟨z,hr,hz⟩
theorem Ae {cs vs:List Int}{c v:Int}(h:cs.length=vs.length):S.af (cs++[c]) (vs++[v])=S.af cs vs*c+v:=by
 have h1:=q8 (cs++[c]) (vs++[v]) 0 (by simp[h]);have h2:=q8 cs vs 0 h;have h3:S.bF (cs++[c]) (vs++[v]) 0=S.bF cs vs 0*c+v:=by
  unfold S.bF;rw[List.zip_append h,List.foldl_append]
  rfl
 rw[Int.zero_mul,Int.zero_add] at h1 h2;rw[<-h1,h3,h2]
theorem fX {cs:List Int}(hc:∀c∈cs,1<=c/\c<=4)(hl:cs.length<=8)(j:Nat):S.ae (cs.take j)<=65536:=by
 obtain ⟨-,h2⟩:=bz (l:=cs.take j) λc h=>hc c (List.mem_of_mem_take h);have h3:(4:Int) ^ (cs.take j).length<=4 ^ 8:=by
  have:(4:Nat) ^ (cs.take j).length<=4 ^ 8:=Nat.pow_le_pow_right (by decide) (by rw[List.length_take];omega)
  exact_mod_cast this
 have h4:(4:Int) ^ 8=65536:=by decide
 omega
theorem I5 {d k2 i:Nat}{g:G}{P2:Nat->Prop}{v w:AV}{n:Net}{x:Node}{vals:List Int}(hd:0<d)(hv:SlR NoP 0 .nil n.nodes v)(hr:NR n)(hx:n.nodes[i]?=some x)(hw:SlR P2 k2 g.h vals w)(hin:InC (S.ac n) vals) :
  ax C0 d N.bc [v,.int .i64 (i:Int),w] g=.val (.int .i64 (S.af (S.aa (S.ac n) x.parents) (S.aa vals x.parents))):=by
 obtain ⟨w',e2,hw'⟩:=ch hw d;have e1:=qp (h:=g.h) d (hv.tree (h':=g.h) (Nat.le_refl 0));obtain ⟨rows,r1,r2,r3,r4⟩:=hv.all;have r1:∀h',ae h' 3 v=some rows:=r1;have hil:=(List.getElem?_eq_some_iff.1 hx).1;have hxm:=List.mem_of_getElem? hx;obtain ⟨row,q1,q2⟩:=r3 i x hx;obtain ⟨pa,ra,rfl,hpa,-⟩:=cH.1 q2;have hlt:i<rows.length:=by omega
 have hry:=r4 (by omega);have hl8:=hr.l2;have hvl:=hin.len;rw[aw] at hvl;have hpl:=dK (hr.places x hxm) (by omega);have hpin:=hr.pin hxm;have lpa:=hpa.len;have rpa:=λh=>(hpa.tree (h':=h) (Nat.le_refl 0)).ints;have rw':=λh=>(hw' h).ints;have hC:=cC hin hpin;have hb:=a8 hr.cs hpin;have hll:(S.aa (S.ac n) x.parents).length=x.parents.length:=by simp[S.aa]
 have hlv:(S.aa vals x.parents).length=x.parents.length:=by simp[S.aa]
 rw[uL];refine lJ yJ (xs:=[v,.int .i64 (i:Int),w']) (by simp only[aE,e1,e2,gR 0]) (by simp[pF]) hd ?_;simp only[sz,simprocAttr,pF,r1,hlt,q1,hry,lpa,pG];refine aI (m:=x.parents.length) (by omega) (λj t df g=>df=[]/\St t [(0,v),(2,w'),(14,pa),(7,.int .i64 (S.af ((S.aa (S.ac n) x.parents).take j) ((S.aa vals x.parents).take j)))]) ⟨rfl,by simp[St,sx,S.af]⟩ (by simp[sx]) (by simp[sx]) (by decide)
  (by rintro j t df g v s (rfl | rfl | rfl)<;>simp[sx,St]) ?_ ?_
 ·rintro j t df g hj ⟨rfl,h0,h2,h14,h7,-⟩ h16 h15;obtain ⟨p,hp,-,hpm⟩:=ac hj;obtain ⟨p0,p1⟩:=hpin p hpm;rw[aw] at p1;obtain ⟨pn,rfl⟩:=Int.eq_ofNat_of_zero_le p0;have hpn:pn<n.nodes.length:=by omega
  obtain ⟨y,hy,-,hym⟩:=ac (l:=n.nodes) (j:=pn) hpn;obtain ⟨row2,s1,s2⟩:=r3 pn y hy;obtain ⟨pa2,ra2,rfl,-,-⟩:=cH.1 s2;have hlt2:pn<rows.length:=by omega
  obtain ⟨z,hz,-,-⟩:=ac (l:=vals) (j:=pn) (by omega);have a1:j<(x.parents.map ci).length:=by simpa using hj
  have a2:(x.parents.map ci)[j]?=some (ci (pn:Int)):=by rw[List.getElem?_map,hp];rfl
  have b1:pn<(vals.map ci).length:=by rw[List.length_map];omega
  have b2:(vals.map ci)[pn]?=some (ci z):=by rw[List.getElem?_map,hz];rfl
  have c1:(S.aa (S.ac n) x.parents).take (j+1)=(S.aa (S.ac n) x.parents).take j++[y.card]:=by
   rw[List.take_succ_eq_append_getElem (by omega)];congr 1;simp only[S.aa,List.getElem_map];have:x.parents[j]=(pn:Int):=by rw[List.getElem?_eq_getElem hj] at hp;injection hp
   rw[this];simp[S.ac,hy]
  have c2:(S.aa vals x.parents).take (j+1)=(S.aa vals x.parents).take j++[z]:=by
   rw[List.take_succ_eq_append_getElem (by omega)];congr 1;simp only[S.aa,List.getElem_map];have:x.parents[j]=(pn:Int):=by rw[List.getElem?_eq_getElem hj] at hp;injection hp
   rw[this];simp[hz]
  have hsn:S.af ((S.aa (S.ac n) x.parents).take (j+1)) ((S.aa vals x.parents).take (j+1))=S.af ((S.aa (S.ac n) x.parents).take j) ((S.aa vals x.parents).take j)*y.card+z:=by rw[c1,c2];exact Ae (by simp[hll,hlv])
  have i1:=bA (λc h=>hb c (List.mem_of_mem_take h)) (hC.take j);have i2:=bA (λc h=>hb c (List.mem_of_mem_take h)) (hC.take (j+1));have p1:=fX hb (by rw[hll];omega) j;have p2:=fX hb (by rw[hll];omega) (j+1);rw[hsn] at i2 ⊢;have hyc:=hr.card y hym;obtain ⟨A,hA⟩:∃A,A=S.af ((S.aa (S.ac n) x.parents).take j) ((S.aa vals x.parents).take j):=⟨_,rfl⟩;rw[<-hA] at h7 i1 i2 ⊢;have hm0:0<=A*y.card:=Int.mul_nonneg i1.1 (by omega);have hm1:A*y.card<=65536*4:=Int.mul_le_mul (by omega) (by omega) (by omega) (by omega);have w1:IntKind.wrap .i64 (A*y.card)=A*y.card:=aB (by omega) (by omega);have w2:IntKind.wrap .i64 (A*y.card+z)=A*y.card+z:=aB (by omega) (by omega);simp only[sz,simprocAttr,h0,h2,h14,h7,h16,rpa,a1,a2,ci,r1,hlt2,s1,hry,rw',b1,b2,w1,w2];simp[St,sx,h0,h2,h14,h15,h16]
 ·rintro t df g ⟨rfl,h0,h2,h14,h7,-⟩;rw[List.take_of_length_le (by omega),List.take_of_length_le (by omega)] at h7;simp only[sz,simprocAttr,pH,h7]
theorem JT {g:G}{n:Nat}{K:AV->G->Prop}{D:ADf->Prop}(hn:n<=65536)(k:∀g',g'.h.get g.nx=.cells 1 ((List.replicate n 0).map ci) 0 false false->g'.nx=g.nx+1->Up g.nx g g'->K (.hsl g.nx 0 0 0 none) g') :
  (vK 1 8 [.int .i64 0] (.int .i64 0) (.int .i64 (n:Int)) g).sat K g D:=by
 have h1:n<=aQ:=by unfold aQ;omega
 have h2:n*8<=aQ:=by unfold aQ;omega
 have key:vK 1 8 [.int .i64 0] (.int .i64 0) (.int .i64 (n:Int)) g=.upd (.hsl g.nx 0 0 0 none) (g.new (.cells 1 (eh n [.int .i64 0]) 0 false false)):=by
  show (match bJ aQ (.int .i64 (.ofNat n)) with
   | some cn=>match bJ cn (.int .i64 0) with
    | some ln=>am (Nat.ble (cn*8) aQ) (OR.upd (.hsl g.nx 0 0 ln none) (g.new (.cells 1 (eh cn [.int .i64 0]) 0 false false))) .fail
    | none=>.fail
   | none=>.fail)=_
  have a1:bJ aQ (.int .i64 (.ofNat n))=some n:=by show am (Nat.ble n aQ) (some n) none=_;rw[aa,if_pos (by simpa using h1)]
  have a2:bJ n (.int .i64 0)=some 0:=by show am (Nat.ble 0 n) (some 0) none=_;rw[aa,if_pos (by simp)]
  rw[a1];dsimp only;rw[a2];dsimp only;rw[aa,if_pos (by simpa using h2)]
 rw[key];refine k _ ?_ (by simp) (Up.new (Nat.le_refl _) _);simp[aS,eh,ci]
theorem DO {g:G}{id:Nat}{l tl:List Int}{x y:Int}{w:AV}{K:AV->G->Prop}{D:ADf->Prop}(hv:g.h.get id=.cells 1 (l.map ci++(y::tl).map ci) 0 false false)(hx:ae g.h 1 w=some [ci x])(hr:l.length<=65536)
  (k:K (.hsl id 0 0 (l++[x]).length none) (g.put id (.cells 1 ((l++[x]).map ci++tl.map ci) 0 false false))):(cP 1 8 (.hsl id 0 0 l.length none) w g).sat K g D:=by
 unfold cP;rw[hx];simp only[aY,G.get_eq,hv,ap,aa,Nat.beq_refl,Bool.true_and,Nat.ble_eq,Bool.and_eq_true,Nat.zero_add,Option.getD_none,Nat.sub_zero,List.length_append,List.length_map,List.length_cons,List.length_nil];rw[if_pos ⟨by omega,by unfold aQ;omega⟩,if_pos (by omega)];have hnb:iB false=true:=rfl;rw[if_pos ⟨by omega,hnb⟩];have e:iD (l.map ci++(y::tl).map ci) l.length [ci x]=(l++[x]).map ci++tl.map ci:=by simp only[iD,fY];rw[List.map_append,List.append_assoc,List.map_cons,List.set_append_right _ _ (by simp)];simp
 rw[e];have e3:l.length+1=(l++[x]).length:=by simp
 rw[e3];exact k
def S.wt (n:Net)(w:Nat):Int:=S.aX n (S.ak (S.ac n) (w:Int))
def S.aC (n:Net)(j:Nat):List Int:=(List.range j).map (S.wt n)
theorem HI (n:Net)(j:Nat):S.aC n (j+1)=S.aC n j++[S.wt n j]:=by simp[S.aC,List.range_succ]
theorem DG (n:Net)(j:Nat):(S.aC n j).length=j:=by simp[S.aC]
def LWt (B:Nat):List (Nat×AV):=[(1,.hptr B 0 0 0),(4,.hptr (B+2) 0 0 0)]
theorem Cj {d B:Nat}{n:Net}{b u:AV}{vals:List Int}{P:Nat->Prop}{rd:Option Nat}{Q:QT}{t:T}{g:G}(hd:0<d)(hr:NR n)(hN:SlR NoP 0 .nil n.nodes b)(hin:InC (S.ac n) vals)(hu:SlR P 0 g.h vals u)(hP:∀i,P i->i<g.nx)(hB:B<g.nx)
  (gB:g.h.get B=.cells 2 [[.int .i64 n.grain,b]] 0 false false)
  (ht:St t ((6,u)::(21,b)::LWt B)) (h7:tat t 7=.int .i64 1) (h23:tat t 23=.int .i64 0) (h22:tat t 22=.int .i64 (n.nodes.length:Int))
  (fin:∀t g',St t ((7,.int .i64 (S.aX n vals))::(6,u)::LWt B)->Fr g g'->Up g.nx g g'->Q (.exit 2) t [] g'):wpL (wp C0 d rd f_) Q t [] g:=by
 obtain ⟨rows,r1,r2,r3,r4⟩:=hN.all;have r1:∀h',ae h' 3 b=some rows:=r1;have hl8:=hr.l2;have hvl:=hin.len;rw[aw] at hvl;simp only[f_];refine aI (m:=n.nodes.length) (by omega) (λk t df g'=>df=[]/\St t ((7,.int .i64 (S.ae ((List.range k).map (S.aE n vals))))::(6,u)::(21,b)::LWt B)/\Fr g g'/\Up g.nx g g') ⟨rfl,by
   obtain ⟨h6,h21,h1,h4,-⟩:=ht;simp[St,LWt,h1,h4,h6,h7,h21,S.ae],Fr.refl _,Up.refl _ _⟩ h23 h22 (by decide)
  (by rintro j t df g v s (rfl | rfl | rfl) ⟨a1,⟨b1,b2,b3,b4,b5,-⟩,c1,c2⟩<;>exact ⟨a1,by simp[St,LWt,sx,b1,b2,b3,b4,b5],c1,c2⟩) ?_ ?_
 ·rintro k t df g1 hk ⟨rfl,⟨h7,h6,h21,h1,h4,-⟩,hF,hU⟩ h23 h22;obtain ⟨x,hx,-,-⟩:=ac hk;obtain ⟨row,q1,q2⟩:=r3 k x hx;obtain ⟨pa,ra,rfl,hpa,hra⟩:=cH.1 q2;obtain ⟨i,r,c,y,i1,i2,i3,i4,i5,i6,i7,i8,i9⟩:=u_ hr hin hx;obtain ⟨cn,rfl⟩:=Int.eq_ofNat_of_zero_le i5;rw[Int.toNat_natCast] at i7;obtain ⟨rr,s1,s2,s3,s4⟩:=za hra;obtain ⟨z,t1,t2,hz⟩:=s3 i r i3;have hlt:k<rows.length:=by omega
  have hry:=r4 (by omega);have hry2:=s4 (by omega);have hu1:∀g2:G,Fr g1 g2->SlR P 0 g2.h vals u:=λg2 hF2=>hu.far8 λi hi=>by have:=hP i hi;rw[hF2.2 i (Nat.lt_of_lt_of_le this hF.1),hF.2 i this]
  have hB1:B<g1.nx:=Nat.lt_of_lt_of_le hB hF.1;have gB1:g1.h.get B=.cells 2 [[.int .i64 n.grain,b]] 0 false false:=by rw[hF.2 B hB,gB]
  have rz:=λh=>(hz.tree (h':=h) (Nat.le_refl 0)).ints;have u1:k<(vals.map ci).length:=by rw[List.length_map];exact (List.getElem?_eq_some_iff.1 i4).1
  have u2:(vals.map ci)[k]?=some (ci (cn:Int)):=by rw[List.getElem?_map,i4];rfl
  have v1:cn<(r.map ci).length:=by rw[List.length_map];exact (List.getElem?_eq_some_iff.1 i7).1
  have v2:(r.map ci)[cn]?=some (ci y):=by rw[List.getElem?_map,i7];rfl
  have wb:=mu hr hin (j:=k+1) (by omega);have ws:=wI n vals k;rw[i8] at ws;have w1:IntKind.wrap .i64 (S.ae ((List.range k).map (S.aE n vals))*y)=S.ae ((List.range (k+1)).map (S.aE n vals)):=by rw[<-ws,aB (by omega) (by omega)]
  refine dM (P:=λt' df g'=>df=[]/\g'=(g1.new (.cells 3 [[.int .i64 0,.nils,.nils]] 0 false false)).put g1.nx (.cells 3 [[.int .i64 x.card,pa,ra]] 0 false false)/\St t' ((9,.hptr g1.nx 0 0 0)::(8,.int .i64 (k:Int))::(23,.int .i64 (k:Int))::(22,.int .i64 (n.nodes.length:Int))::(7,.int .i64 (S.ae ((List.range k).map (S.aE n vals))))::(6,u)::(21,b)::LWt B)) ?_ ?_
  ·have fw:ea [.int .i64 0,.nils,.nils] [((0,3),.agg [.int .i64 x.card,pa,ra])]=some [.int .i64 x.card,pa,ra]:=rfl;simp only[sz,simprocAttr,h23,h21,r1,hlt,q1,hry];simp[St,LWt,sx,h1,h4,h6,h7,h21,h22,h23]
  clear h1 h4 h6 h7 h21 h22 h23;rintro t df g2 ⟨rfl,hg2,h9,h8,h23,h22,h7,h6,h21,h1,h4,-⟩;have hF2:Fr g1 g2:=by rw[hg2];exact ⟨by simp,λi hi=>by simp[H.get_put,show ¬i=g1.nx by omega]⟩
  have hU2:Up g.nx g1 g2:=by rw[hg2];exact (Up.new hF.1 _).trans (Up.put hF.1 _)
  have g9:g2.h.get g1.nx=.cells 3 [[.int .i64 x.card,pa,ra]] 0 false false:=by rw[hg2];simp[H.get_put]
  have gB2:g2.h.get B=.cells 2 [[.int .i64 n.grain,b]] 0 false false:=by rw[hF2.2 B hB1,gB1]
  have kr:=I5 (d:=d) (i:=k) (g:=aK g2 []) (P2:=P) (k2:=0) (v:=b) (w:=u) (x:=x) (vals:=vals) hd hN hr hx (by simpa using hu1 g2 hF2) hin;rw[i1] at kr;have ru:=(hu1 g2 hF2).ints;simp only[sz,simprocAttr,h7,h9,g9,h1,gB2,h8,h6,kr,s1,t1,t2,hry2,ru,u1,u2,ci,rz,v1,v2,w1];exact ⟨⟨by simp[St,LWt,sx,h1,h4,h6,h21],hF.trans hF2,hU.trans hU2⟩,h23,h22⟩
 ·rintro t df g' ⟨rfl,⟨h7,h6,h21,h1,h4,-⟩,hF,hU⟩;exact fin t g' ⟨h7,h6,h1,h4,trivial⟩ hF hU
theorem Ck {d:Nat}{g:G}{n:Net}{v:AV}{K:AV->G->Prop}{D:ADf->Prop}(hd:0<d)(hr:NR n)(hm:Agg n NoP 0 .nil v)
  (kk:∀g',g'.h.get (g.nx+1)=.cells 1 ((S.aC n (S.ah n)).map ci) 0 false false->g.nx+2<=g'.nx->Fr g g'->Up g.nx g g'->K (.hsl (g.nx+1) 0 0 (S.ah n) none) g') :
  (ax C0 d N.aI [v] g).sat K g D:=by
 obtain ⟨cs,rfl,hc⟩:=hm;obtain ⟨b,rfl,hN⟩:=gf.1 hc;have hl8:=hr.l2;obtain ⟨W1,W2,W3⟩:=hr.wl;have hcs:CsOk (S.ac n):=⟨hr.cs,by rw[aw];omega⟩;have hnc:S.nc (S.ac n)=S.ah n:=rfl;obtain ⟨B,hB⟩:∃B,B=g.nx:=⟨_,rfl⟩;have hrow:∀h,SlR NoP 0 h n.nodes b:=λh=>hN.tree (Nat.le_refl 0);have lb:∀g:G,dz .slice b g=.val (.int .i64 (n.nodes.length:Int)):=λg=>(hrow .nil).len g;rw[qQ];refine yF sX (by simp[jF]) ?_;simp only[sz,simprocAttr,jF];unfold lH;refine dM (P:=λt' df g'=>df=[]/\g'=g.new (.cells 2 [[.int .i64 n.grain,b]] 0 false false)/\∃rc,IT 0 (S.ac n) rc/\St t' [(1,.hptr B 0 0 0),(3,rc)]) ?_ ?_
 ·simp only[sz,simprocAttr,<-hB];refine gi (te hd (hrow _) (by omega)) λrc hrc=>?_;simp only[sz,simprocAttr];exact ⟨rc,hrc,by simp[St,sx,y7]⟩
 rintro t df g1 ⟨rfl,hg1,rc,hrc,h1,h3,-⟩;have k1:=A8 (d:=d) (g:=g1) hd (hrc.sl g1.h);rw[s8 hr.cs (by rw[aw];omega),<-W3] at k1;have n1:g1.nx=B+1:=by rw[hg1,hB];simp
 have gB:g1.h.get B=.cells 2 [[.int .i64 n.grain,b]] 0 false false:=by rw[hg1,hB];simp[H.get_put]
 have F1:Fr g g1:=by rw[hg1];exact Fr.new _ _
 have U1:Up B g g1:=by rw[hg1];exact Up.new (by omega) _
 clear hg1;refine dM (P:=λt' df g'=>df=[]/\g'.nx=B+3/\g'.h.get B=.cells 2 [[.int .i64 n.grain,b]] 0 false false/\g'.h.get (B+1)=.cells 1 ((List.replicate (S.ah n) 0).map ci) 0 false false/\g'.h.get (B+2)=.cells 1 [[.hsl (B+1) 0 0 0 none]] 0 false false/\Fr g g'/\Up B g g'/\St t' [(1,.hptr B 0 0 0),(3,rc),(4,.hptr (B+2) 0 0 0)]) ?_ ?_
 ·simp only[sz,simprocAttr,h3,k1];refine JT (by omega) λg2 m2 n2 u2=>?_;rw[n1] at m2 n2 u2 ⊢;simp only[sz,simprocAttr,n2];refine ⟨?_,?_,?_,?_,by simp[St,sx,h1,h3]⟩
  ·rw[if_neg (by omega),if_neg (by omega),u2.1 B (by omega),gB]
  ·rw[if_neg (by omega),if_neg (by omega),m2]
  ·exact ⟨by have:=F1.1;simp[n2];omega,λi hi=>by
    have:=F1.2 i hi;simp[H.get_put,show ¬i=B+1+1 by omega,show ¬i=g2.nx by omega,u2.1 i (by omega),this]⟩
  ·exact (U1.trans (u2.mono (by omega))).trans ((Up.new (by omega) _).trans (Up.put (by omega) _))
 clear h1 h3 k1 n1 gB F1 U1;rintro t df g2 ⟨rfl,n2,gB,gA,gS,F2,U2,h1,h3,h4,-⟩;obtain ⟨z,kz,hz⟩:=yD (d:=d) (g:=g2) (w:=rc) (cs:=S.ac n) hd (hrc.sl g2.h);rw[co,co];simp only[sz,simprocAttr,h3,kz];refine wj (cs:=S.ac n) (w:=z) hcs hz (by simp[sx]) (by decide) (by decide)
  (λj g'=>g'.h.get B=.cells 2 [[.int .i64 n.grain,b]] 0 false false/\g'.h.get (B+1)=.cells 1 ((S.aC n j).map ci++(List.replicate (S.ah n - j) 0).map ci) 0 false false/\g'.h.get (B+2)=.cells 1 [[.hsl (B+1) 0 0 (S.aC n j).length none]] 0 false false/\(∀i,i<B->g'.h.get i=g.h.get i)/\Up B g g')
  (λ_=>False) ?_ (λ_ _ _ h=>h) ?_ ?_ ?_ (λ_ h=>h.elim)
 ·rintro j g3 g4 hU ⟨a1,a2,a3,a4,a5⟩;rw[n2] at hU;exact ⟨by rw[hU.1 _ (by omega),a1],by rw[hU.1 _ (by omega),a2],by rw[hU.1 _ (by omega),a3],λi hi=>by rw[hU.1 i (by omega),a4 i hi],a5.trans (hU.mono (by omega))⟩
 ·exact ⟨gB,by simpa [S.aC] using gA,by simpa [S.aC] using gS,λi hi=>F2.2 i (by omega),U2⟩
 ·rintro j u g3 hj ⟨a1,a2,a3,a4,a5⟩ hn3 hu;rw[n2] at hn3 hu;simp only[sz,simprocAttr,kG];refine ⟨Fr.refl _,λg4 n4 f4 u4=>?_⟩;rw[n2] at f4 u4;have hin:=bZ (λc hc=>(hr.cs c hc).1) (j:Int);have b1:g4.h.get B=.cells 2 [[.int .i64 n.grain,b]] 0 false false:=by rw[f4 _ (by omega),a1]
  have b2:g4.h.get (B+1)=.cells 1 ((S.aC n j).map ci++(List.replicate (S.ah n - j) 0).map ci) 0 false false:=by rw[f4 _ (by omega),a2]
  have b3:g4.h.get (B+2)=.cells 1 [[.hsl (B+1) 0 0 (S.aC n j).length none]] 0 false false:=by rw[f4 _ (by omega),a3]
  have hu4:SlR (λi=>B+3+2<=i/\i<g3.nx) 0 g4.h (S.ak (S.ac n) (j:Int)) u:=hu.far8 λi hi=>f4 i (by omega);rw[hnc] at hj;simp only[sz,simprocAttr,kH,h1,b1,lb];refine Cj (n:=n) (b:=b) (u:=u) (B:=B) hd hr hN hin hu4 (λi hi=>by omega) (by omega) b1 (by simp[St,LWt,sx,h1,h4]) (by simp[sx]) (by simp[sx]) (by simp[sx]) ?_;rintro t5 g5 ⟨h7,-,h1',h4',-⟩ F5 U5;have c3:g5.h.get (B+2)=.cells 1 [[.hsl (B+1) 0 0 (S.aC n j).length none]] 0 false false:=by rw[F5.2 _ (by omega),b3]
  have c2:g5.h.get (B+1)=.cells 1 ((S.aC n j).map ci++((0:Int)::List.replicate (S.ah n - (j+1)) 0).map ci) 0 false false:=by rw[F5.2 _ (by omega),b2,show S.ah n - j=(S.ah n - (j+1))+1 by omega,List.replicate_succ]
  simp only[sz,simprocAttr,kI,h4',c3,h7];have hl5:B+2<g5.nx:=Nat.lt_of_lt_of_le (by omega) F5.1;refine DO (x:=S.wt n j) (g:=g5.new (.cells 1 [[.int .i64 (S.wt n j)]] 0 false false)) (l:=S.aC n j) (y:=0) (tl:=List.replicate (S.ah n - (j+1)) 0) ?_ ?_ (by rw[DG];omega) ?_
  ·rw[G.new_h,aq _ _ _ (by omega),c2]
  ·simp only[ae,G.new_h,aS,ci];rfl
  rw[<-HI];have c6:((g5.new (.cells 1 [[.int .i64 (S.wt n j)]] 0 false false)).put (B+1) (.cells 1 ((S.aC n (j+1)).map ci++(List.replicate (S.ah n - (j+1)) 0).map ci) 0 false false)).h.get (B+2)=.cells 1 [[.hsl (B+1) 0 0 (S.aC n j).length none]] 0 false false:=by rw[G.put_h,aq _ _ _ (by omega),G.new_h,aq _ _ _ (by omega),c3]
  have d1:Up B g5 ((g5.new (.cells 1 [[.int .i64 (S.wt n j)]] 0 false false)).put (B+1) (.cells 1 ((S.aC n (j+1)).map ci++(List.replicate (S.ah n - (j+1)) 0).map ci) 0 false false)):=(Up.new (by omega) _).trans (Up.put (by omega) _);have d2:∀i,B+3<=i->i<g5.nx->((g5.new (.cells 1 [[.int .i64 (S.wt n j)]] 0 false false)).put (B+1) (.cells 1 ((S.aC n (j+1)).map ci++(List.replicate (S.ah n - (j+1)) 0).map ci) 0 false false)).h.get i=g5.h.get i:=λi h1 h2=>by rw[G.put_h,aq _ _ _ (by omega),G.new_h,aq _ _ _ (by omega)]
  have d3:((g5.new (.cells 1 [[.int .i64 (S.wt n j)]] 0 false false)).put (B+1) (.cells 1 ((S.aC n (j+1)).map ci++(List.replicate (S.ah n - (j+1)) 0).map ci) 0 false false)).nx=g5.nx+1:=by simp
  have d4:((g5.new (.cells 1 [[.int .i64 (S.wt n j)]] 0 false false)).put (B+1) (.cells 1 ((S.aC n (j+1)).map ci++(List.replicate (S.ah n - (j+1)) 0).map ci) 0 false false)).h.get (B+1)=.cells 1 ((S.aC n (j+1)).map ci++(List.replicate (S.ah n - (j+1)) 0).map ci) 0 false false:=by rw[G.put_h,aS]
  have d5:((g5.new (.cells 1 [[.int .i64 (S.wt n j)]] 0 false false)).put (B+1) (.cells 1 ((S.aC n (j+1)).map ci++(List.replicate (S.ah n - (j+1)) 0).map ci) 0 false false)).h.get B=g5.h.get B:=by rw[G.put_h,aq _ _ _ (by omega),G.new_h,aq _ _ _ (by omega)]
  generalize (g5.new (.cells 1 [[.int .i64 (S.wt n j)]] 0 false false)).put (B+1) (.cells 1 ((S.aC n (j+1)).map ci++(List.replicate (S.ah n - (j+1)) 0).map ci) 0 false false)=g6 at c6 d1 d2 d3 d4 d5 ⊢;simp only[sz,simprocAttr,h4',c6];have hl4:g4.nx<=g5.nx:=F5.1;refine ⟨by simp[d3];omega,λi h1 h2=>?_,.inl ⟨rfl,?_,?_,λi hi=>?_,?_⟩⟩
  ·rw[n2] at h1;rw[G.put_h,aq _ _ _ (by omega),d2 i h1 (by omega),F5.2 i h2]
  ·rw[if_neg (by omega),d5,F5.2 B (by omega),b1]
  ·rw[if_neg (by omega),d4]
  ·rw[if_neg (by omega),d1.1 i hi,F5.2 i (by omega),f4 i (by omega),a4 i hi]
  ·exact ((a5.trans (u4.mono (by omega))).trans (U5.mono (by omega))).trans (d1.trans (Up.put (by omega) _))
 ·rintro g' ⟨a1,a2,a3,a4,a5⟩ hn hdf;rw[hnc,Nat.sub_self] at a2;rw[hnc,DG] at a3;simp only[sz,simprocAttr,kJ,h4,a3];refine gq hdf ?_;simp only[sx,↓reduceIte];rw[hB];have e1:∀i,i<B+3->(g'.put g2.nx (.dfr false)).h.get i=g'.h.get i:=λi hi=>by rw[G.put_h,aq _ _ _ (by omega)]
  refine kk _ ?_ (by simp;omega) ⟨by simp;omega,λi hi=>?_⟩ (by rw[<-hB];exact a5.trans (Up.put (by omega) _))
  ·rw[<-hB,e1 _ (by omega),a2];simp
  ·rw[e1 i (by omega),a4 i (by omega)]
theorem pg {n:Net}{e:List Int}(h:S.aD n e=true):e.length=n.nodes.length/\∀x∈e,-1<=x:=by simp only[S.aD,Bool.and_eq_true,decide_eq_true_eq,List.all_eq_true] at h;refine ⟨h.1,λx hx=>?_⟩;obtain ⟨i,hi,he⟩:=List.mem_iff_getElem.1 hx;have:=(h.2 i (List.mem_range.2 hi)).1;rw[List.getElem?_eq_getElem hi,he] at this;exact this
def S.pe (n:Net)(e:List Int)(w:Nat):Bool:=S.bo (S.ak (S.ac n) (w:Int)) e
theorem As (n:Net)(e:List Int):S.bC n e=S.an n (S.pe n e) (S.ah n):=rfl
theorem zh {n:Net}(h:NR n){p:Nat->Bool}{j:Nat}(hj:j<=1024):0<=S.an n p j/\S.an n p j<=171992678400000000:=by have:=wC h p j;omega
theorem Ja (g:G)(o o':AObj):Fr g ((g.new o).put g.nx o'):=⟨by simp,λi hi=>by simp[H.get_put,show ¬i=g.nx by omega]⟩
theorem Im {d kk:Nat}{g:G}{v w:AV}{n:Net}{y:QnM}{e:List Int}(hd:0<d)(hr:NR n)(hm:Agg y NoP 0 g.h v)(hq:QnOk n y)(he:SlR NoP kk g.h e w)(hev:S.aD n e=true)(hk:kk<=d:=by omega) :
  ax C0 d N.aQ [v,w] g=.val (.int .i64 (S.bC n e)):=by
 have e0:=jZ d hm;have ew:=qp d he;obtain ⟨cs,rfl,hcs⟩:=hm;obtain ⟨b,fl,S_,rfl,-,-,-⟩:=tH.1 hcs;obtain ⟨el,ege⟩:=pg hev;obtain ⟨W1,W2,W3⟩:=hr.wl;rw[lR];refine lJ nC (xs:=[.agg [.int .i64 y.1.grain,b,fl,S_],w]) (by simp only[aE,e0,ew]) (by simp[dZ]) hd ?_;simp only[sz,simprocAttr,dZ];unfold gu;refine gY (P:=λt' df g'=>df=[]/\g'.nx=2/\g'.h.get 0=.cells 4 [[.int .i64 y.1.grain,b,fl,S_]] 0 false false/\g'.h.get 1=.cells 1 [[.int .i64 0]] 0 false false/\St t' [(1,w),(2,.hptr 0 0 0 0),(5,.hptr 1 0 0 0)]) ?_ ?_
 ·simp only[sz,simprocAttr];simp[St,sx]
 rintro t df g0 ⟨rfl,f2,f0,f1,h1,h2,h5,-⟩;obtain ⟨cs,z,t1,t2,ez,hcs',hz⟩:=Ap (d:=d+1) (g:=g0) (y:=y) (e:=e) (v:=.agg [.int .i64 y.1.grain,b,fl,S_]) (w:=w) (Nat.succ_pos d) ⟨_,rfl,Rp.tree hcs (Nat.le_refl _)⟩ (he.tree (Nat.le_refl _));rw[co,co];simp only[sz,simprocAttr,h1,h2,f0,ez];refine EL (t1:=t1) (t2:=t2) (n:=n) (y:=y) (e:=e) (cs:=cs) (w:=z) (Nat.succ_pos d) hr hq hcs' hz (by omega) (by simp[sx]) (by decide)
  (λj h=>h.get 1=.cells 1 [[.int .i64 (S.an n (S.pe n e) j)]] 0 false false) (λ_=>False) (λj h h' hh h1=>by rw[hh 1 (by omega),h1]) (λ_ _ _ h=>h) f1 ?_ ?_ ?_ (λ_ h=>h.elim)
 ·intro j h hj hmt h1;have hp:S.pe n e j=false:=by rw[S.pe,<-Jm ege];exact hmt
  rw[h1,S.an,hp];simp
 ·intro j u g1 hj hmt h1 hn hu;have hp:S.pe n e j=true:=by rw[S.pe,<-Jm ege];exact hmt
  have hb:=zh hr (p:=S.pe n e) (j:=j+1) (by omega);have hs:S.an n (S.pe n e) (j+1)=S.an n (S.pe n e) j+S.aX n (S.ak (S.ac n) (j:Int)):=by rw[S.an,hp];simp
  have w1:IntKind.wrap .i64 (S.an n (S.pe n e) j+S.aX n (S.ak (S.ac n) (j:Int)))=S.an n (S.pe n e) (j+1):=by rw[<-hs,aB (by omega) (by omega)]
  simp only[sz,simprocAttr,fK];refine ⟨Ja _ _ _,?_⟩;intro g2 n2 f2';have k6:g2.h.get g1.nx=.cells 3 [[.int .i64 (j:Int),.int .i64 (S.aX n (S.ak (S.ac n) (j:Int))),u]] 0 false false:=by rw[f2' _ (by omega),if_pos rfl]
  have k1:g2.h.get 1=.cells 1 [[.int .i64 (S.an n (S.pe n e) j)]] 0 false false:=by rw[f2' 1 (by omega),if_neg (by omega),if_neg (by omega),h1]
  simp only[sz,simprocAttr,fL,h5,k1,k6,w1];exact ⟨by simp,λi h1 h2=>by simp[H.get_put,show ¬i=1 by omega],.inl ⟨rfl,by simp[H.get_put]⟩⟩
 ·intro g' h1 hn hdf;simp only[sz,simprocAttr,fM,h5,h1];refine gq hdf ?_;simp only[sx,↓reduceIte];rw[As]
theorem G8 {k:Nat}{l:List Int}{v:AV}{h:H}(hl:SlR NoP k .nil l v):Rp.rp (λ_=>True) k h l [v]:=by obtain ⟨w,hw,q⟩:=Rp.tree (P:=λ_=>True) (k':=k) (h':=h) (show Rp.rp NoP k .nil l [v] from ⟨v,rfl,hl⟩) (Nat.le_refl _);exact ⟨w,hw,q⟩
theorem KW {a:List Int}{va:AV}{q k:Nat}{h:H}(ha:SlR NoP k .nil a va)(hq:h.get q=.cells 1 [[va]] 0 false false):SlR (λ_=>True) k h [a] (.hsl q 0 0 1 none):=by refine ⟨by show 1<_;decide,trivial,[[va]],?_,G8 ha,trivial⟩;show ae h 1 _=_;simp only[ae,hq];rfl
theorem Bc {n:Net}{ls:List (List Int)}{P:Nat->Prop}{k:Nat}{h:H}{v:AV}(hv:HJ n ls P k h v) :
  ∃y cs,v=.tup [.agg cs,.int .i64 (S.a9 n ls)]/\(S.a9 n ls=0->QnOk n y)/\Rp.rp P k h y cs/\∃a1 a2 a3 a4,cs=[a1,a2,a3,a4]:=by
 obtain ⟨y,hy,a,c,rfl,⟨cs,rfl,hc⟩,hi⟩:=hv;have hi:=aF.1 hi;injection hi with hi;subst hi;obtain ⟨a2,a3,a4,rfl,-⟩:=tH.1 hc;exact ⟨y,_,rfl,hy,hc,_,_,_,_,rfl⟩
theorem AM (n:Net)(e:List Int):S.a9 n [e]=S.aB n e:=by rw[S.a9,S.aB];simp
theorem js {n:Net}{e:List Int}:S.aB n e=0↔S.aN n=true/\S.aD n e=true:=by rw[S.aB];cases S.aN n<;>cases S.aD n e<;>simp
def S.bm (n:Net)(e:List Int):Int:=if S.aB n e=0 then S.bC n e else 0
theorem Gp {d k0:Nat}{P:Nat->Prop}{g:G}{v w0:AV}{n:Net}{e:List Int}(hd:0<d)(hm:Agg n NoP 0 g.h v)(he:SlR P k0 g.h e w0)(hk:k0<=d:=by omega) :
  ax C0 d N.ay [v,w0] g=.val (.tup [.int .i64 (S.bm n e),.int .i64 (S.aB n e)]):=by
 have key:∃r,ax C0 d N.ay [v,w0] g=.val r/\wL (One (S.bm n e)) (One (S.aB n e)) NoP 0 .nil r:=by
  obtain ⟨b,rows,rfl,e1,hm',hN,r1,r2,r3,r4⟩:=kY d hm;obtain ⟨w,ew,hw⟩:=ch he d;rw[Nat.max_eq_right hk] at hw;have hw:=hw .nil;rw[tP];refine br wT (xs:=[.agg [.int .i64 n.grain,b],w]) (by simp only[aE,e1,ew]) (by simp[nE]) (iG (m:=1) (be _) (be _) (by decide) (by decide)) (by decide) hd ?_;simp only[sz,simprocAttr,nE,pi,hw.cell.1,hw.cell.2];refine gi (JG (n:=n) (ls:=[e]) (Nat.succ_pos d) (hm' _) (KW hw (by simp[sx]))) λz hz=>?_;obtain ⟨y,cs,rfl,hy,hc,a1,a2,a3,a4,rfl⟩:=Bc hz;rw[AM] at hy ⊢
  by_cases h0:S.aB n e=0
  ·have hyo:=hy h0;obtain ⟨h1,h2⟩:=js.1 h0;have hr:=dI.1 h1;have hj:S.bm n e=S.bC n e:=by rw[S.bm,if_pos h0]
   simp only[sz,simprocAttr,h0];rw[Im (y:=y) (n:=n) (e:=e) (Nat.succ_pos d) hr ⟨_,rfl,Rp.tree hc (Nat.le_refl _)⟩ hyo (hw.tree (Nat.le_refl _)) h2];simp only[sz,simprocAttr];rw[hj];exact ⟨λ_=>True,_,_,rfl,aF.2 rfl,aF.2 rfl⟩
  ·have hj:S.bm n e=0:=by rw[S.bm,if_neg h0]
   simp only[sz,simprocAttr,h0];rw[hj];exact ⟨λ_=>True,_,_,rfl,aF.2 rfl,aF.2 rfl⟩
 obtain ⟨r,hr,a,c,rfl,ha,hc⟩:=key;have ha:=aF.1 ha;have hc:=aF.1 hc;injection ha with ha;injection hc with hc;rw[hr,ha,hc]
structure GvJ (g0:G) (q:Nat) (s:Int) (h:H):Prop where
 fr:∀i,i<g0.nx->i≠q->h.get i=g0.h.get i
 hq:h.get q=.cells 1 [[.int .i64 s]] 0 false false
end
end Hx
end
