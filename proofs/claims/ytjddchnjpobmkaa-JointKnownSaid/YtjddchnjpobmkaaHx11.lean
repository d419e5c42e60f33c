/- A part of the proof: an interpreter over abstract values, shown right against the model, and what the functions of the chapter compute on it. -/
import Derived.Test.YtjddchnjpobmkaaHx10
set_option linter.unusedVariables false
set_option linter.unusedSimpArgs false
set_option linter.unnecessarySimpa false
section
namespace Hx
open Go
noncomputable section
theorem DD (n:Net)(ls:List (List Int)):Snb (Dq n ls) 2:=me fun y=>cz (m:=2) (fS _) (bc _) (by decide) (by decide)
def qn0:QnM:=(⟨0,[]⟩,[],[])
theorem A9 (P:Nat->Prop)(h:H):Agg qn0 P 0 h (.agg [.int .i64 0,.nils,.nils,.nils]):=⟨_,rfl,mK.2 ⟨.nils,.nils,.nils,rfl,⟨by show 0<9223372036854775808;decide,rfl⟩,⟨by show 0<9223372036854775808;decide,rfl⟩,⟨by show 0<9223372036854775808;decide,rfl⟩⟩⟩
theorem xl {a b c w:AV}(h:w.cells=[w])(h2:w.isTup=false)(h3:b.cells=[b])(h4:b.isTup=false):eR [.int .i64 0,.nils,.nils,.nils] [((0,2),.agg [a,c]),((2,1),b),((3,1),w)]=some [a,c,b,w]:=by
 have k1:(AV.agg [a,c]).cells=[a,c]:=rfl
 have k2:(AV.agg [a,c]).isTup=false:=rfl
 simp[eR,h,h2,h3,h4,gk,k1,k2]
 rfl
theorem rQ {d kk:Nat}{P:Nat->Prop}{g:G}{v w:AV}{n:Net}{ls:List (List Int)}(hd:0<d)(hm:Agg n NoP 0 g.h v)(hw:SlR P kk g.h ls w):∃r,aw C0 d N.aw [v,w] g=.val r/\Dq n ls NoP 0 .nil r:=by
 obtain ⟨b,rows,rfl,e1,hm',hN,r1,r2,r3,r4⟩:=dL d hm
 obtain ⟨w',e2,hw'⟩:=fH hw d
 obtain ⟨wrows,p1,p2,p3,p4⟩:=(hw' .nil).all
 have p1:∀h',au h' 1 w'=some wrows:=p1
 have hwl:=hw.1
 have wl:=fun g=>(hw' .nil).len g
 rw[qo]
 refine bN uD (xs:=[.agg [.int .i64 n.grain,b],w']) (by simp only[aC,e1,e2]) (by simp[lX]) (DD n ls) (by decide) hd ?_
 simp only[sz,simprocAttr,lX]
 obtain ⟨g0,hg0⟩:∃g0,g0=(G.empty.new (.cells 2 [[.int .i64 n.grain,b]] 0 false false)).new (.cells 4 [[.int .i64 0,.nils,.nils,.nils]] 0 false false):=⟨_,rfl⟩
 rw[<-hg0]
 have f0:g0.h.get 0=.cells 2 [[.int .i64 n.grain,b]] 0 false false:=by rw[hg0];simp[sx,H.get_put]
 have f1:g0.h.get 1=.cells 4 [[.int .i64 0,.nils,.nils,.nils]] 0 false false:=by rw[hg0];simp[sx]
 have f2:g0.nx=2:=by rw[hg0];simp[sx]
 clear hg0
 simp only[mT]
 obtain ⟨z,ez,fs,⟨hfl,hfs⟩,fl,er,rfl,hfl2,her⟩:=DH (d:=d+1) (g:=g0) (Nat.succ_pos d) (hm' g0.h)
 have her:=ax.1 her
 injection her with her
 subst her
 obtain ⟨_,e3,hfl2⟩:=hfl2
 injection e3 with e3;subst e3
 cases hn:S.aE n with
 | false =>
  have hs:S.aF n ls=50:=by rw[S.aF,hn];rfl
  rw[hn] at ez
  simp only[Bool.false_eq_true,↓reduceIte] at ez
  simp only[sz,simprocAttr,f0,ez,show ¬((50:Int)=0) from by decide,f1]
  refine ⟨fun _=>True,qn0,?_,_,_,rfl,?_,?_⟩
  ·rw[hs];intro h;cases h
  ·exact A9 _ _
  ·rw[hs];exact ax.2 rfl
 | true =>
  have hr:=b_.1 hn
  have hfl:=hfl hn
  rw[hn] at ez
  simp only[↓reduceIte] at ez
  refine kV (P:=fun t' df g'=>df=[]/\g'=g0/\St t' [(1,w'),(2,.hptr 0 0 0 0),(4,.hptr 1 0 0 0),(6,fl),(7,.int .i64 0)]) ?_ ?_
  ·simp only[sz,simprocAttr,f0,ez]
   simp[St,sx]
  rintro t df g1 ⟨rfl,rfl,h1,h2,h4,h6,h7,-⟩
  obtain ⟨Qf,hQf⟩:∃Qf,Qf=fnQ C0 (d+1) [SR.cell true 4 4,SR.tm 5] (fun v g'=>∃P,Dq n ls P 0 g'.h v):=⟨_,rfl⟩
  rw[<-hQf]
  simp only[sz,simprocAttr,h1,h7,wl,kZ]
  refine aZ (m:=ls.length) hwl (fun j t df g=>df=[]/\St t [(25,w'),(2,.hptr 0 0 0 0),(4,.hptr 1 0 0 0),(6,fl)]/\g=g1/\∀e∈ls.take j,S.aC n e=true) ⟨rfl,by simp[St,sx,h2,h4,h6],rfl,by simp⟩ (by simp[sx]) (by simp[sx]) (by decide)
   (by rintro j t df g v s (rfl | rfl | rfl) ⟨a1,⟨b1,b2,b3,b4,-⟩,c1,c2⟩<;>exact ⟨a1,by simp[St,sx,b1,b2,b3,b4],c1,c2⟩) ?_ ?_
  ·rintro j t df g hj ⟨rfl,⟨h25,h2,h4,h6,-⟩,rfl,hall⟩ h27 h26
   obtain ⟨e,he,htk,hem⟩:=aI hj
   obtain ⟨row,q1,q2⟩:=p3 j e he
   obtain ⟨z,rfl,hz⟩:=nL.1 q2
   have hlt:j<wrows.length:=by omega
   have hch:=Cn (d:=d+1) (g:=g) (e:=e) (w:=z) (Nat.succ_pos d) (hm' g.h) (hz.tree (h':=g.h) (Nat.le_refl _))
   cases hev:S.aC n e with
   | true =>
    have hs:S.au n e=0:=by rw[S.au,hn,hev];rfl
    rw[hs] at hch
    simp only[sz,simprocAttr,h25,h27,h26,h2,p1,hlt,q1,f0,hch]
    refine ⟨by simp[St,sx,h2,h4,h6,h25],fun y hy=>?_⟩
    rw[htk] at hy
    rcases List.mem_append.1 hy with h | h
    ·exact hall y h
    ·rw[List.mem_singleton.1 h];exact hev
   | false =>
    have hs:S.au n e=2:=by rw[S.au,hn,hev];rfl
    have hs2:S.aF n ls=2:=by
     have:ls.all (S.aC n)=false:=by
      rw[<-Bool.not_eq_true,List.all_eq_true]
      intro h
      rw[h e hem] at hev;cases hev
     rw[S.aF,hn,this];rfl
    rw[hs] at hch
    rw[hQf]
    simp only[sz,simprocAttr,h25,h27,h2,h4,p1,hlt,q1,f0,f1,hch,show ¬((2:Int)=0) from by decide]
    refine ⟨fun _=>True,qn0,?_,_,_,rfl,?_,?_⟩
    ·rw[hs2];intro h;cases h
    ·exact A9 _ _
    ·rw[hs2];exact ax.2 rfl
  ·rintro t df g ⟨rfl,⟨h25,h2,h4,h6,-⟩,rfl,hall⟩
   rw[List.take_length] at hall
   have hs:S.aF n ls=0:=by rw[S.aF,hn,List.all_eq_true.2 hall];rfl
   have hl8:=hr.l2
   have fll:=fun g=>hfl2.len g
   simp only[sx,↓reduceIte]
   unfold lS
   refine kV (P:=fun t' df g'=>df=[]/\∃S_ q,St t' [(2,.hptr 0 0 0 0),(4,.hptr 1 0 0 0),(6,fl),(11,.hptr q 0 0 0)]/\AskH n.grain b fl S_ n.nodes.length q fs 0 g') ?_ ?_
   ·simp only[sz,simprocAttr,sf,h2,h6,f0,fll,hfl]
    refine nV (b:=2) (n:=n.nodes.length) (by unfold bF;omega) (by unfold bF;omega) (by first | (simp;done) | (simp;omega)) fun S_ g2 hS n2 f2' vS lg2=>?_
    simp only[sy] at n2 f2' vS lg2
    have hflc:fl.cells=[fl]/\fl.isTup=false:=by
     have h:=hfl2.2
     unfold SlV at h
     split at h<;>first | exact ⟨rfl,rfl⟩ | exact h.elim
    simp only[sz,simprocAttr,sf,xl hS.cell.1 hS.cell.2 hflc.1 hflc.2,lg2]
    have n2':g.nx+5=g2.nx:=by omega
    have k0:g2.h.get 0=.cells 2 [[.int .i64 n.grain,b]] 0 false false:=by rw[f2' 0 (by omega),f0]
    have k1:g2.h.get 1=.cells 4 [[.int .i64 0,.nils,.nils,.nils]] 0 false false:=by rw[f2' 1 (by omega),f1]
    refine ⟨?_,S_,g2.nx+1+1,by simp[St,sx,h2,h4,h6],⟨?_,?_,?_,⟨by omega,by simp⟩,fun i hi=>by have:=eI vS hi;omega,List.replicate n.nodes.length .nils,[],?_,by simp,rfl,trivial,fun i f X _ h=>by simp at h⟩⟩
    ·simp only[List.reverse_cons,List.reverse_nil,List.nil_append,List.cons_append,G.new_lg,G.put_lg,setLog_lg]
     refine bH [false,false,false,false,true,false,true,true] [(0,4),(1,4),(0,6),(1,6),(2,6),(3,6),(4,6),(5,6)] (by simp[All2,af,aD]) (by decide) ?_
     rintro p hp' x y hx hy
     simp only[List.mem_cons,List.not_mem_nil,or_false] at hp'
     rcases hp' with rfl | rfl | rfl | rfl | rfl | rfl | rfl | rfl<;>(simp at hx hy;subst hx;subst hy;refine ji rfl rfl rfl rfl ?_ ?_ ?_<;>simp[af,aD,ac]<;>omega)
    ·simp[H.get_put,k0]
    ·simp[H.get_put,k1]
    ·simp[H.get_put]
    ·have hS':Own g2 2 S_ 1 ((List.replicate n.nodes.length AV.nils).map fun v=>[v]):=by simpa using hS
     refine hS'.fr (by simp;omega) fun i hi=>?_
     have:=eI vS hi
     simp[H.get_put,show ¬i=g2.nx+1+1 by omega]
   clear h25 h2 h4 h6
   rintro t df g2 ⟨rfl,S_,q,⟨h2,h4,h6,h11,-⟩,hp⟩
   have hbl:=hN.len
   simp only[sz,simprocAttr,h6,fll,hfl]
   refine Fl (m:=n.nodes.length) (q:=q) (gr:=n.grain) (b:=b) (fl:=fl) (S_:=S_) (fs:=fs) hbl hl8 hfl2 hfl (fun i f hf=>?_) ⟨by simp[St,sx,h2,h4,h11],hp⟩ (by simp[sx]) (by simp[sx]) ?_
   ·have hi:=(List.getElem?_eq_some_iff.1 hf).1
    obtain ⟨x,hx,-,-⟩:=aI (l:=n.nodes) (j:=i) (by omega)
    obtain ⟨p,hpp,hf2⟩:=hfs i x hi hx
    rw[hf] at hf2;injection hf2 with hf2;subst hf2
    exact Dg hr hx hpp
   clear h2 h4 h6 h11 hp
   rintro t g3 ⟨⟨h11,h2,h4,h45,-⟩,hp⟩
   obtain ⟨Vs,l,hS,hVl,hll,hal,hst⟩:=hp.hS
   rw[List.take_of_length_le (by omega)] at hal
   rw[hQf]
   have q2:=hp.q2.1
   simp only[sz,simprocAttr,lY,h11,h4,hp.hq,hp.h1]
   have hne:∀i,i≠1->(g3.h.put 1 (.cells 4 [[.int .i64 n.grain,b,fl,S_]] 0 false false)).get i=g3.h.get i:=fun i hi=>by simp[H.get_put,hi]
   refine ⟨fun _=>True,(n,fs,l),fun _=>⟨rfl,hfl,hfs,hll,hst⟩,_,_,rfl,⟨_,rfl,mK.2 ⟨b,fl,S_,rfl,hN.wide (Nat.le_refl 0),hfl2.wide (Nat.le_refl 0),?_⟩⟩,?_⟩
   ·have hS':Own (g3.put 1 (.cells 4 [[.int .i64 n.grain,b,fl,S_]] 0 false false)) 2 S_ 1 (Vs.map fun v=>[v]):=hS.fr (by simp) fun i hi=>by
     have:=(hS.lt hi).1
     simp[H.get_put,show ¬i=1 by omega]
    refine Own.sl (α:=List Int) hS' (by show l.length<_;omega) ?_ fun _ _=>trivial
    have hal2:∀(l:List (List Int)) (Vs:List AV),All2 (fun X v=>Own g3 (q+1) v 1 (X.map ci)) l Vs->(∀X∈l,X.length<9223372036854775808)->All2 (Rp.rp (fun _=>True) 0 (g3.put 1 (.cells 4 [[.int .i64 n.grain,b,fl,S_]] 0 false false)).h) l (Vs.map fun v=>[v]):=by
     intro l
     induction l with
     | nil=>intro Vs h _;cases Vs with
      | nil=>trivial
      | cons v Vs=>exact h.elim
     | cons X l ih=>intro Vs h hX;cases Vs with
      | nil=>exact h.elim
      | cons v Vs =>
       refine ⟨?_,ih Vs h.2 fun Y hY=>hX Y (by simp[hY])⟩
       have ho:Own (g3.put 1 (.cells 4 [[.int .i64 n.grain,b,fl,S_]] 0 false false)) (q+1) v 1 (X.map ci):=h.1.fr (by simp) fun i hi=>by
        have:=(h.1.lt hi).1
        simp[H.get_put,show ¬i=1 by omega]
       obtain ⟨_,e1,hh⟩:=ho.ints (k:=0) (hX X (by simp))
       exact nL.2 ⟨_,e1,hh⟩
    refine hal2 l Vs hal fun X hX=>?_
    obtain ⟨i,hi,he⟩:=List.mem_iff_getElem.1 hX
    have:=(hst i _ X (List.getElem?_eq_getElem (show i<fs.length by omega)) (by rw[List.getElem?_eq_getElem hi,he])).1
    omega
   ·rw[hs];exact ax.2 rfl
theorem yB {α:Type}{l:List α}{i:Nat}{x y:α}(h1:l[i]?=some x)(h2:l[i]?=some y):x=y:=by rw[h1] at h2;injection h2
structure WtI (y:QnM) (b fl S_ wv va ca wa:AV) (gr wt:Int) (p:Int) (cards pv:List Int) (m k fb i:Nat) (t:T) (g:G):Prop where
 st:St t [(1,wv),(2,.hptr 0 0 0 0),(12,fl),(13,.int .i64 (m:Int)),(14,.int .i64 (k:Int)),(5,.int .i64 wt),(6,.int .i64 (k:Int)),(7,.hptr fb 0 0 0),(20,va),(8,.int .i64 (p - S.af (cards.drop i) (pv.drop i)))]
 h0:g.h.get 0=.cells 4 [[.int .i64 gr,b,fl,S_]] 0 false false
 hf:g.h.get fb=.cells 3 [[va,ca,wa]] 0 false false
 nn:0<=p - S.af (cards.drop i) (pv.drop i)
 nx:1<=g.nx
theorem Av {d m k fb kv kz:Nat}{y:QnM}{b fl S_ wv va ca wa:AV}{gr wt p:Int}{f:Factor}{R vals:List Int}{mm:Nat}{Q:QT}{t:T}{g:G}(hva:SlR NoP kv .nil f.vars va)(hF:FOk mm f)(hR:S.bw mm f 0 R)(hvl:vals.length=mm)
  (hS:∃(srows:List (List AV)) (z:AV),(∀h,au h 1 S_=some srows)/\srows[k]?=some [z]/\k<srows.length/\SlR NoP kz .nil R z) (rv:∀h,au h 1 wv=some (vals.map ci)) (hp:p=S.af f.cards (S.ac vals f.vars)) (hin:InC f.cards (S.ac vals f.vars)) (hpb:p<=10000000)
  (h0:WtI y b fl S_ wv va ca wa gr wt p f.cards (S.ac vals f.vars) m k fb 0 t g) (h22:tat t 22=.int .i64 0) (h21:tat t 21=.int .i64 (f.vars.length:Int))
  (fin:∀t g,WtI y b fl S_ wv va ca wa gr wt p f.cards (S.ac vals f.vars) m k fb f.vars.length t g->Q (.exit 2) t [] g):wpL (wp C0 d none bL) Q t [] g:=by
 obtain ⟨srows,z,s1,s2,s3,hz⟩:=hS
 have rva:=fun h=>(hva.tree (h':=h) (Nat.le_refl _)).ints
 have rz:=fun h=>(hz.tree (h':=h) (Nat.le_refl _)).ints
 simp only[bL]
 refine aZ (m:=f.vars.length) hva.1 (fun i t df g=>df=[]/\WtI y b fl S_ wv va ca wa gr wt p f.cards (S.ac vals f.vars) m k fb i t g) ⟨rfl,h0⟩ h22 h21 (by decide)
  (by rintro j t df g v s (rfl | rfl | rfl) ⟨a1,⟨b1,b2,b3,b4,b5,b6,b7,b8,b9,b10,-⟩,c1,c2,c3,c4⟩<;>exact ⟨a1,by simp[St,sx,b1,b2,b3,b4,b5,b6,b7,b8,b9,b10],c1,c2,c3,c4⟩) ?_ ?_
 ·rintro i t df g hi ⟨rfl,⟨h1,h2,h12,h13,h14,h5,h6,h7,h20,h8,-⟩,e0,ef,hnn,hnx⟩ h22 h21
  obtain ⟨u,hu,-,hum⟩:=aI hi
  obtain ⟨hu0,hum⟩:=hF.vr u hum
  obtain ⟨un,rfl⟩:=Int.eq_ofNat_of_zero_le hu0
  have hcl:=hF.cl
  have hdr:f.cards.drop i=f.cards[i]::f.cards.drop (i+1):=List.drop_eq_getElem_cons (by omega)
  have hval:vals[un]?=some vals[un]:=List.getElem?_eq_getElem (by omega)
  have hpvi:(S.ac vals f.vars)[i]?=some vals[un]:=by simp[S.ac,hu,hval]
  have hdp:(S.ac vals f.vars).drop i=vals[un]::(S.ac vals f.vars).drop (i+1):=by
   have hl:i<(S.ac vals f.vars).length:=by rw[io];exact hi
   rw[List.drop_eq_getElem_cons hl]
   rw[List.getElem?_eq_getElem hl] at hpvi
   injection hpvi with hpvi
   rw[hpvi]
  have hv0:0<=vals[un]:=by
   obtain ⟨v',h1,h2,-⟩:=hin.get (i:=i) (c:=f.cards[i]) (List.getElem?_eq_getElem (by omega))
   rw[yB hpvi h1];exact h2
  generalize vals[un]=x at hval hpvi hdp hv0
  have hRu:=hR.2 i (un:Int) (Nat.zero_le _) hu
  rw[Int.toNat_natCast] at hRu
  have hRl:=(List.getElem?_eq_some_iff.1 hRu).1
  have u1:i<(f.vars.map ci).length:=by simpa using hi
  have u2:(f.vars.map ci)[i]?=some (ci (un:Int)):=by rw[List.getElem?_map,hu];rfl
  have u3:un<(vals.map ci).length:=by simp;omega
  have u4:(vals.map ci)[un]?=some (ci x):=by rw[List.getElem?_map,hval];rfl
  have u5:un<(R.map ci).length:=by simpa using hRl
  have u6:(R.map ci)[un]?=some (ci (S.ae (f.cards.drop (i+1)))):=by rw[List.getElem?_map,hRu];rfl
  have hidx:S.af (f.cards.drop i) ((S.ac vals f.vars).drop i)=x*S.ae (f.cards.drop (i+1))+S.af (f.cards.drop (i+1)) ((S.ac vals f.vars).drop (i+1)):=by rw[hdr,hdp,S.af]
  have hb1:=dx (cards:=f.cards.drop (i+1)) (vals:=(S.ac vals f.vars).drop (i+1)) (fun c hc=>hF.cb c (List.mem_of_mem_drop hc)) (hin.drop (i+1))
  have hb2:=dx (cards:=f.cards.drop i) (vals:=(S.ac vals f.vars).drop i) (fun c hc=>hF.cb c (List.mem_of_mem_drop hc)) (hin.drop i)
  have hpp:=fL (cs:=f.cards.drop (i+1)) fun c hc=>(hF.cb c (List.mem_of_mem_drop hc)).1
  have hxs:0<=x*S.ae (f.cards.drop (i+1)):=Int.mul_nonneg hv0 (by omega)
  have w1:IntKind.wrap .i64 (x*S.ae (f.cards.drop (i+1)))=x*S.ae (f.cards.drop (i+1)):=aT (by omega) (by omega)
  have w2:IntKind.wrap .i64 (p - S.af (f.cards.drop i) ((S.ac vals f.vars).drop i)+x*S.ae (f.cards.drop (i+1)))=p - S.af (f.cards.drop (i+1)) ((S.ac vals f.vars).drop (i+1)):=by
   rw[aT (by omega) (by omega)];omega
  simp only[sz,simprocAttr,h1,h2,h6,h8,h20,h22,h21,e0,rva,u1,u2,rv,u3,u4,s1,s2,s3,rz,u5,u6,ci,w1,w2]
  refine ⟨by simp[St,sx,h1,h2,h12,h13,h14,h5,h6,h7,h20],e0,ef,by omega,by first | exact hnx | (simp;done) | (simp;omega)⟩
 ·rintro t df g ⟨rfl,h⟩
  exact fin t g h
structure WtJ (n:Net) (vals:List Int) (b fl S_ wv:AV) (k:Nat) (t:T) (g:G):Prop where
 st:St t [(1,wv),(2,.hptr 0 0 0 0),(12,fl),(5,.int .i64 (S.ae ((List.range k).map (S.aH n vals))))]
 h0:g.h.get 0=.cells 4 [[.int .i64 n.grain,b,fl,S_]] 0 false false
 nx:1<=g.nx
theorem AS {d kk ky:Nat}{P:Nat->Prop}{g:G}{v w:AV}{n:Net}{y:QnM}{vals:List Int}(hd:0<d)(hr:NR n)(hm:Agg y NoP ky g.h v)(hq:QnOk n y)(hv:SlR P kk g.h vals w)(hc:InC (S.aa n) vals) :
  aw C0 d N.aN [v,w] g=.val (.int .i64 (S.aK n vals)):=by
 have e0:=fW d hm
 obtain ⟨cs,rfl,hcs⟩:=hm
 obtain ⟨b,fl,S_,rfl,hN,hfl,hS⟩:=mK.1 hcs
 have hfl:SlR NoP ky .nil y.2.1 fl:=hfl.tree (Nat.le_refl _)
 have hS:SlR NoP ky .nil y.2.2 S_:=hS.tree (Nat.le_refl _)
 obtain ⟨w',e2,hw'⟩:=fH hv d
 have hgr:y.1.grain=n.grain:=by rw[hq.net]
 obtain ⟨frows,f1,f2,f3,f4⟩:=hfl.all
 have f1:∀h',au h' 3 fl=some frows:=f1
 obtain ⟨srows,s1,s2,s3,s4⟩:=zH hS
 have rv:=fun h=>(hw' h).ints
 have hvl:=hc.len
 rw[aP] at hvl
 have hl8:=hr.l2
 have hfll:=hq.fl
 rw[ii]
 refine mA iU (xs:=[.agg [.int .i64 y.1.grain,b,fl,S_],w']) (by simp only[aC,e0,e2]) (by simp[cy]) hd ?_
 rw[hgr]
 have ll:=hfl.len
 simp only[sz,simprocAttr,cy,dA,ll,hfll]
 simp only[cW,dc]
 refine aZ (m:=n.nodes.length) (by omega) (fun k t df g=>df=[]/\WtJ n vals b fl S_ w' k t g) ⟨rfl,by simp[St,sx,S.ae],by simp[sx],by simp⟩ (by simp[sx]) (by simp[sx]) (by decide)
  (by rintro j t df g v s (rfl | rfl | rfl) ⟨a1,⟨b1,b2,b3,b4,-⟩,c1,c2⟩<;>exact ⟨a1,by simp[St,sx,b1,b2,b3,b4],c1,c2⟩) ?_ ?_
 ·rintro k t df g hk ⟨rfl,⟨h1,h2,h12,h5,-⟩,g0,hnx⟩ h14 h13
  obtain ⟨x,hx,-,-⟩:=aI hk
  obtain ⟨p,hp,hf⟩:=hq.fs k x (by omega) hx
  obtain ⟨row,q1,q2⟩:=f3 k _ hf
  obtain ⟨va,ca,wa,rfl,hva,hca,hwa⟩:=i6.1 q2
  have hF:=Dg hr hx hp
  obtain ⟨pn,i1,i2,i3⟩:=Fn hr hc hx p
  have hlt:k<frows.length:=by omega
  have hry:=f4 (by omega)
  obtain ⟨R,hR,-,-⟩:=aI (l:=y.2.2) (j:=k) (by rw[hq.sl];exact hk)
  obtain ⟨z,z1,z2,z3⟩:=s3 k R hR
  have hinp:InC (S.aL n k x p).cards (S.ac vals (S.aL n k x p).vars):=fC hc fun u hu=>by rw[aP];exact qA hr hx p u hu
  have hib:=dx hF.cb hinp
  have hpb:=cM (l:=(S.aL n k x p).cards) hF.cb
  have hfv:=hF.vl
  have hp4:=fF (a:=(S.aL n k x p).cards.length) (b:=9) (by
   have h1:=jN (hr.places x (List.mem_of_getElem? hx)) (by omega)
   have h3:=mh x.parents p (k:Int) hp
   show (S.ac _ _).length<=9
   rw[io];omega)
  have h48:(4:Int) ^ 9=262144:=by decide
  have ei:S.af (S.aL n k x p).cards (S.ac vals (S.aL n k x p).vars)=(pn:Int):=i1
  have lva:=hva.len
  have rwa:=fun h=>(hwa.tree (h':=h) (Nat.le_refl _)).ints
  refine bV (P:=fun t' df g'=>df=[]/\g'=(g.new (.cells 3 [[.nils,.nils,.nils]] 0 false false)).put g.nx (.cells 3 [[va,ca,wa]] 0 false false)/\St t' [(1,w'),(2,.hptr 0 0 0 0),(12,fl),(13,.int .i64 (n.nodes.length:Int)),(14,.int .i64 (k:Int)),(5,.int .i64 (S.ae ((List.range k).map (S.aH n vals)))),(6,.int .i64 (k:Int)),(7,.hptr g.nx 0 0 0)]) ?_ ?_
  ·simp only[sz,simprocAttr,h14,h12,f1,hlt,q1]
   simp[St,sx,h1,h2,h12,h13,h14,h5]
  clear h1 h2 h12 h5 h14 h13
  rintro t df g1 ⟨rfl,hg1,⟨h1,h2,h12,h13,h14,h5,h6,h7,-⟩⟩
  have k0:g1.h.get 0=.cells 4 [[.int .i64 n.grain,b,fl,S_]] 0 false false:=by rw[hg1];simp[H.get_put,show ¬0=g.nx by omega,g0]
  have k1:g1.h.get g.nx=.cells 3 [[va,ca,wa]] 0 false false:=by rw[hg1];simp[H.get_put]
  have kn:g1.nx=g.nx+1:=by rw[hg1];simp
  simp only[sz,simprocAttr,h7,k1,lva]
  refine Av (y:=y) (b:=b) (fl:=fl) (S_:=S_) (wv:=w') (va:=va) (ca:=ca) (wa:=wa) (gr:=n.grain) (wt:=S.ae ((List.range k).map (S.aH n vals))) (p:=(pn:Int)) (f:=S.aL n k x p) (R:=R) (vals:=vals) (mm:=n.nodes.length) (m:=n.nodes.length) (k:=k) (fb:=g.nx) hva hF (hq.st k _ R hf hR) hvl ⟨srows,z,s1,z1,z2,z3⟩ rv ei.symm hinp (by omega)
   ⟨by simp[St,sx,h1,h2,h12,h13,h14,h5,h6,h7,ei],by simpa using k0,by simpa using k1,by simp[ei],by omega⟩ (by simp[sx]) (by simp[sx]) ?_
  clear h1 h2 h12 h13 h14 h5 h6 h7
  rintro t g2 ⟨⟨h1,h2,h12,h13,h14,h5,h6,h7,h20,h8,-⟩,k0,k1,-,hnx2⟩
  have hnil:S.af ((S.aL n k x p).cards.drop (S.aL n k x p).vars.length) ((S.ac vals (S.aL n k x p).vars).drop (S.aL n k x p).vars.length)=0:=by
   rw[List.drop_of_length_le (by rw[hF.cl];exact Nat.le_refl _)];rfl
  rw[hnil,Int.sub_zero] at h8
  have u1:pn<((S.aL n k x p).w.map ci).length:=by
   rw[List.length_map]
   exact (List.getElem?_eq_some_iff.1 i3).1
  have u2:((S.aL n k x p).w.map ci)[pn]?=some (ci (S.aH n vals k)):=by rw[List.getElem?_map];exact congrArg (Option.map ci) i3
  have wb:=mG hr hc (j:=k+1) (by omega)
  have ws:=x9 n vals k
  have w1:IntKind.wrap .i64 (S.ae ((List.range k).map (S.aH n vals))*S.aH n vals k)=S.ae ((List.range (k+1)).map (S.aH n vals)):=by rw[<-ws,aT (by omega) (by omega)]
  simp only[sz,simprocAttr,dh,h5,h7,k1,h8,rwa,u1,u2,ci,w1]
  exact ⟨⟨by simp[St,sx,h1,h2,h12],k0,hnx2⟩,h14,h13⟩
 ·rintro t df g ⟨rfl,⟨h1,h2,h12,h5,-⟩,g0,hnx⟩
  simp only[sz,simprocAttr,cV,h5]
  rfl
def S.bm (vals e:List Int)(i:Nat):Bool:=decide (e[i]?.getD 0 = -1) || decide (e[i]?.getD 0=vals[i]?.getD 0)
def S.jm (vals e:List Int):Bool:=(List.range e.length).all (S.bm vals e)
theorem ql {vals e:List Int}(h:∀x∈e,-1<=x):S.jm vals e=S.bk vals e:=by
 have key:S.bm vals e=S.bK vals e:=by
  funext i
  have h1:-1<=e[i]?.getD 0:=by
   cases hx:e[i]? with
   | none=>decide
   | some x=>exact h x (List.mem_of_getElem? hx)
  unfold S.bm S.bK
  generalize e[i]?.getD 0=x at h1
  congr 1
  rw[decide_eq_decide]
  omega
 rw[S.jm,S.bk,key]
theorem rB {d k k2:Nat}{g:G}{P P2:Nat->Prop}{v w:AV}{vals e:List Int}(hd:0<d)(hv:SlR P k g.h vals v)(hw:SlR P2 k2 g.h e w)(hl:e.length<=vals.length) :
  aw C0 d N.aK [v,w] g=.val (.bool (S.jm vals e)):=by
 obtain ⟨v',e1,r1⟩:=fH hv d
 obtain ⟨w',e2,r2⟩:=fH hw d
 have ra:∀h',au h' 1 v'=some (vals.map ci):=fun h'=>(r1 h').ints
 have rb:∀h',au h' 1 w'=some (e.map ci):=fun h'=>(r2 h').ints
 have n2:=fun g=>(r2 .nil).len g
 rw[ni]
 refine lD o8 (xs:=[v',w']) (by simp only[aC,e1,e2]) (by simp[gv]) hd ?_
 simp only[sz,simprocAttr,gv,gV,n2]
 refine aZ (m:=e.length) hw.1 (fun j t df g=>df=[]/\St t [(0,v'),(8,w'),(5,.bool true)]/\(List.range j).all (S.bm vals e)=true) ⟨rfl,by simp[St,sx],rfl⟩ (by simp[sx]) (by simp[sx]) (by decide) (by rintro j t df g v s (rfl | rfl | rfl)<;>simp[St,sx]) ?_ ?_
 ·rintro j t df g hj ⟨rfl,⟨h0,h8,h5,-⟩,hA⟩ h10 h9
  obtain ⟨x,hx,-,-⟩:=aI hj
  obtain ⟨z,hz,-,-⟩:=aI (l:=vals) (j:=j) (by omega)
  have q1:j<(e.map ci).length:=by simpa using hj
  have q2:j<(vals.map ci).length:=by rw[List.length_map];omega
  have q3:(e.map ci)[j]?=some (ci x):=by rw[List.getElem?_map,hx];rfl
  have q4:(vals.map ci)[j]?=some (ci z):=by rw[List.getElem?_map,hz];rfl
  have hat:S.bm vals e j=(decide (x = -1) || decide (x=z)):=by simp[S.bm,hx,hz]
  by_cases c1:x = -1
  ·subst c1
   simp only[sz,simprocAttr,h10,h9,h8,rb,q1,q3,ci]
   refine ⟨by simp[St,sx,h0,h8,h5],?_⟩
   rw[lR,hA,hat];simp
  ·by_cases c2:x=z
   ·subst c2
    simp only[sz,simprocAttr,h10,h9,h8,h0,ra,rb,q1,q2,q3,q4,ci,c1]
    refine ⟨by simp[St,sx,h0,h8,h5],?_⟩
    rw[lR,hA,hat];simp
   ·have:S.bm vals e j=false:=by rw[hat];simp[c1,c2]
    have hf:S.jm vals e=false:=by rw[S.jm,pJ hj this]
    simp only[sz,simprocAttr,h10,h8,h0,ra,rb,q1,q2,q3,q4,ci,c1,c2,dS,hf]
 ·rintro t df g ⟨rfl,⟨h0,h8,h5,-⟩,hA⟩
  simp only[sz,simprocAttr,dS,h5]
  rw[S.jm,hA]
theorem C3 {α:Type} [Rp α]{P:Nat->Prop}{k:Nat}{h:H}{l:List α}{w:AV}(hw:SlR P k h l w)(g:G):CC w g=.upd (.hptr g.nx 0 0 0) (g.new (.cells 1 [[w]] 0 false false)):=by
 rw[yd _ _ hw.cell.2,hw.cell.1];rfl
def Bw {α:Type} [Rp α](x:α)(sz:Nat):VS:=fun P k h v=>(∃id cs,v=.hptr id 0 0 0/\P id/\h.get id=.cells sz [cs] 0 false false/\Rp.rp P k h x cs)\/∃t cs,v=.tptr t sz [cs] 0 0/\t<=k/\Rp.rp NoP k .nil x cs
theorem vM {α:Type} [Rp α]{x:α}{sz:Nat}{P:Nat->Prop}{k:Nat}{h:H}{v:AV}{n:Nat}(d:Nat)(r:Bw x sz P k h v)(hn:Rp.dp α<=n)(hd:Rp.dp α<=20:=by decide):∃v',Hx.snap h d (n+1) v=some v'/\Bw x sz NoP (max k d) .nil v':=by
 rcases r with ⟨id,cs,rfl,-,hg,r⟩ | ⟨t,cs,rfl,ht,r⟩
 ·obtain ⟨cs',e,r'⟩:=Rp.snap (n:=n) d r hn (by show _<=24;omega)
  obtain ⟨m,e2,l2⟩:=Rp.tag (n:=aq) r' (by show _<=24;omega)
  refine ⟨.tptr (Nat.max d (Nat.max m 0)) sz [cs'] 0 0,?_,.inr ⟨_,cs',rfl,?_,r'⟩⟩
  ·simp only[Hx.snap,hg,show Nat.beq 0 0=true from rfl,aC,e,du,dN,e2]
  ·show max d (max m 0)<=max k d
   omega
 ·exact ⟨.tptr t sz [cs] 0 0,rfl,.inr ⟨t,cs,rfl,by omega,Rp.mono r (fun i hi=>hi.elim) (by omega)⟩⟩
theorem yR {α:Type} [Rp α]{x:α}{sz:Nat}{k:Nat}{h:H}{v:AV}{n:Nat}(r:Bw x sz NoP k h v):∃m,cL (n+1) v=some m/\m<=k:=by
 rcases r with ⟨id,cs,rfl,hP,-⟩ | ⟨t,cs,rfl,ht,r⟩
 ·exact hP.elim
 ·exact ⟨t,rfl,ht⟩
def MtV (y:QnM)(e:List Int):VS:=fun P k h v=>∃p q,v=.clo N.aa [] [p,q]/\Bw y 4 P k h p/\Bw e 1 P k h q
theorem Fw (y:QnM)(e:List Int):Snb (MtV y e) 2:=by
 refine ⟨fun {P k h v n} d r hn=>?_,fun {k h v n} r hn=>?_⟩
 ·obtain ⟨p,q,rfl,r1,r2⟩:=r
  obtain ⟨n,rfl⟩:∃q,n=q+2:=⟨n - 2,by omega⟩
  obtain ⟨p',e1,r1'⟩:=vM (n:=n) d r1 (Nat.le_trans (show Rp.dp QnM<=20 by decide) (by omega))
  obtain ⟨q',e2,r2'⟩:=vM (n:=n) d r2 (Nat.le_trans (show Rp.dp (List Int)<=20 by decide) (by omega))
  refine ⟨.clo N.aa [] [p',q'],?_,p',q',rfl,r1',r2'⟩
  simp only[Hx.snap,aC] at e1 e2 ⊢
  rw[e1,e2]
 ·obtain ⟨p,q,rfl,r1,r2⟩:=r
  obtain ⟨n,rfl⟩:∃q,n=q+2:=⟨n - 2,by omega⟩
  obtain ⟨m1,e1,l1⟩:=yR (n:=n) r1
  obtain ⟨m2,e2,l2⟩:=yR (n:=n) r2
  refine ⟨Nat.max m1 (Nat.max m2 0),?_,by show max m1 (max m2 0)<=k;omega⟩
  show dN (cL (n+1)) [p,q]=_
  simp only[dN,e1,e2]
theorem fY {d kk:Nat}{g:G}{v w:AV}{y:QnM}{e:List Int}(hd:0<d)(hm:Agg y NoP 0 g.h v)(hw:SlR NoP kk g.h e w)(hk:kk<d:=by omega) :
  ∃cs z t1 t2,aw C0 d N.ah [v,w] g=.val (.clo N.aa [] [.tptr t1 4 [cs] 0 0,.tptr t2 1 [[z]] 0 0])/\Rp.rp NoP kk .nil y cs/\SlR NoP kk .nil e z:=by
 have e0:=fW d hm
 obtain ⟨cs,rfl,hc⟩:=hm
 obtain ⟨a,b,c,rfl,h1,h2,h3⟩:=mK.1 hc
 have key:∃r,aw C0 d N.ah [.agg [.int .i64 y.1.grain,a,b,c],w] g=.val r/\MtV y e NoP kk .nil r:=by
  rw[gx]
  refine bN im (xs:=[.agg [.int .i64 y.1.grain,a,b,c],w]) (by simp only[aC,e0,zw d hw]) (by simp[bS]) (Fw y e) (by decide) hk ?_
  simp only[sz,simprocAttr,bS,cU,C3 hw]
  refine ⟨fun _=>True,_,_,rfl,.inl ⟨0,_,rfl,trivial,by simp[sx,H.get_put],Rp.tree hc (Nat.zero_le _)⟩,.inl ⟨1,[w],rfl,trivial,by simp[sx],?_⟩⟩
  exact ⟨w,rfl,hw.wide (Nat.le_refl _)⟩
 obtain ⟨r,hr,p,q,rfl,r1,r2⟩:=key
 rcases r1 with ⟨id,cs,rfl,hP,-⟩ | ⟨t,cs,rfl,ht,r1⟩
 ·exact hP.elim
 rcases r2 with ⟨id,cs,rfl,hP,-⟩ | ⟨t2,cs2,rfl,ht2,r2⟩
 ·exact hP.elim
 obtain ⟨z,rfl,hz⟩:=nL.1 r2
 exact ⟨cs,z,t,t2,hr,r1,hz⟩
theorem BL {cs vs:List Int}(h:InC cs vs)(hc:∀c∈cs,1<=c){i:Nat}{x c:Int}(hi:vs[i]?=some x)(hci:cs[i]?=some c)(hx:x≠c - 1):InC cs (vs.take i++(x+1)::List.replicate (vs.length - (i+1)) 0):=by
 have hil:=(List.getElem?_eq_some_iff.1 hi).1
 have hl:=h.len
 refine t9 (by simp;omega) fun j c' v hj hv=>?_
 obtain ⟨v',h1,h2,h3⟩:=h.get hj
 have hcp:=hc c' (List.mem_of_getElem? hj)
 by_cases h4:j<i
 ·rw[List.getElem?_append_left (by simp;omega),List.getElem?_take_of_lt h4] at hv
  rw[h1] at hv;injection hv with hv;omega
 ·rw[List.getElem?_append_right (by simp;omega)] at hv
  rw[List.length_take,Nat.min_eq_left (by omega)] at hv
  by_cases h5:j=i
  ·subst h5
   rw[Nat.sub_self] at hv
   simp at hv
   rw[hi] at h1;injection h1 with h1
   rw[hci] at hj;injection hj with hj
   omega
  ·obtain ⟨m,hm⟩:∃m,j - i=m+1:=⟨j - i - 1,by omega⟩
   rw[hm,List.getElem?_cons_succ] at hv
   have:=List.mem_of_getElem? hv
   rw[List.mem_replicate] at this
   omega
theorem A_ {cs:List Int}(hc:∀c∈cs,1<=c):InC cs (List.replicate cs.length 0) :=
 t9 (by simp) fun j c v hj hv=>by
  have:=List.mem_of_getElem? hv
  rw[List.mem_replicate] at this
  have:=hc c (List.mem_of_getElem? hj)
  omega
theorem uq {vs:List Int}{m:Nat}(h:m<vs.length):(vs.take (m+1)++List.replicate (vs.length - (m+1)) 0).set m 0=vs.take m++List.replicate (vs.length - m) 0:=by
 rw[List.take_succ_eq_append_getElem h,List.append_assoc,List.set_append_right _ _ (by simp;omega),List.length_take,Nat.min_eq_left (by omega),Nat.sub_self]
 rw[show vs.length - m=(vs.length - (m+1))+1 by omega,List.replicate_succ]
 rfl
theorem um {vs:List Int}{m:Nat}(h:m<vs.length)(y:Int):(vs.take (m+1)++List.replicate (vs.length - (m+1)) 0).set m y=vs.take m++y::List.replicate (vs.length - (m+1)) 0:=by
 rw[List.take_succ_eq_append_getElem h,List.append_assoc,List.set_append_right _ _ (by simp;omega),List.length_take,Nat.min_eq_left (by omega),Nat.sub_self]
 rfl
structure OdoJ (n:Net) (vs:List Int) (L:List (Nat×AV)) (u:AV) (g0:G) (m:Nat) (t:T) (g:G):Prop where
 st:tat t 6=.int .i64 ((m:Int) - 1)
 ss:St t L
 ow:Own g g0.nx u 1 ((vs.take m++List.replicate (vs.length - m) 0).map ci)
 mx:∀(j:Nat) (c:Int),m<=j->(S.aa n)[j]?=some c->vs[j]?.getD 0=c - 1
def LM (id:Nat)(gr:Int)(b fl S_ w u:AV)(k t1 t2:Nat):List (Nat×AV):=[(0,.yld id),(1,.tptr t1 4 [[.int .i64 gr,b,fl,S_]] 0 0),(2,.tptr t2 1 [[w]] 0 0),(4,u),(5,.int .i64 (k:Int))]
theorem Ag {d id k m t1 t2 ky:Nat}{n:Net}{b fl S_ w u:AV}{vs:List Int}{Q:QT}{t:T}{g g0:G}(hr:NR n)(hN:SlR NoP ky .nil n.nodes b)(hc:InC (S.aa n) vs)(hm:m<=n.nodes.length)
  (h0:OdoJ n vs (LM id n.grain b fl S_ w u k t1 t2) u g0 m t g)
  (fin:∀m' t g',m'<=n.nodes.length->OdoJ n vs (LM id n.grain b fl S_ w u k t1 t2) u g0 m' t g'->g.nx<=g'.nx->(∀i,vid u≠some i->g'.h.get i=g.h.get i)->(m'=0\/∃x c,vs[m' - 1]?=some x/\(S.aa n)[m' - 1]?=some c/\x≠c - 1/\0<m')->Q (.exit 2) t [] g') :
  wpL (wp C0 d none aU) Q t [] g:=by
 obtain ⟨rows,r1,r2,r3,r4⟩:=hN.all
 have r1:∀h',au h' 3 b=some rows:=r1
 have hvl:=hc.len
 rw[aP] at hvl
 have hl8:=hr.l2
 refine lM (fun m t df g'=>df=[]/\m<=n.nodes.length/\OdoJ n vs (LM id n.grain b fl S_ w u k t1 t2) u g0 m t g'/\g.nx<=g'.nx/\∀i,vid u≠some i->g'.h.get i=g.h.get i) m ⟨rfl,hm,h0,Nat.le_refl _,fun _ _=>rfl⟩ ?_
 rintro m t df g1 ⟨rfl,hm,⟨h6,⟨h0,h1,h2,h4,h5,-⟩,how,hmx⟩,hnx,hfr⟩
 simp only[aU]
 cases m with
 | zero =>
  have c1:¬((0:Int)<=((0:Nat):Int) - 1):=by omega
  simp only[sz,simprocAttr,h6,c1]
  refine fin 0 _ _ (Nat.zero_le _) ⟨?_,?_,?_,hmx⟩ ?_ ?_ (.inl rfl)
  ·simp[sx,h6]
  ·simp[St,LM,sx,h0,h1,h2,h4,h5]
  ·exact how
  ·exact hnx
  ·exact hfr
 | succ m =>
  have c1:(0:Int)<=((m+1:Nat):Int) - 1:=by omega
  have e1:((m+1:Nat):Int) - 1=(m:Int):=by omega
  rw[e1] at c1 h6
  obtain ⟨x,hx,-,-⟩:=aI (l:=n.nodes) (j:=m) (by omega)
  obtain ⟨row,q1,q2⟩:=r3 m x hx
  obtain ⟨pa,ra,rfl,-,-⟩:=eG.1 q2
  have hlt:m<rows.length:=by omega
  have hry:=r4 (by omega)
  have hci:(S.aa n)[m]?=some x.card:=by simp[S.aa,hx]
  obtain ⟨v,hv,hv0,hv1⟩:=hc.get hci
  have hcx:=hr.card x (List.mem_of_getElem? hx)
  have u1:m<((vs.take (m+1)++List.replicate (vs.length - (m+1)) 0).map ci).length:=by simp;omega
  have u2:((vs.take (m+1)++List.replicate (vs.length - (m+1)) 0).map ci)[m]?=some (ci v):=by
   rw[List.getElem?_map,List.getElem?_append_left (by simp;omega),List.getElem?_take_of_lt (by omega),hv];rfl
  have ru:=how.rows
  have w1:IntKind.wrap .i64 (x.card - 1)=x.card - 1:=aT (by omega) (by omega)
  by_cases c2:v=x.card - 1
  ·simp only[sz,simprocAttr,h6,h1,h4,c1,ru,u1,u2,r1,hlt,q1,hry,ox,fD,ci,w1,c2]
   refine dZ (v:=u) (sz:=1) (n:=1) (i:=m) (off:=0) (x:=.int .i64 0) (row':=ci 0) how u2 rfl rfl rfl fun g4 hu4 n4 f4=>?_
   rw[<-List.map_set,uq (by omega)] at hu4
   have w2:IntKind.wrap .i64 ((m:Int) - 1)=(m:Int) - 1:=aT (by omega) (by omega)
   simp only[sz,simprocAttr,h6,w2]
   refine ⟨m,by omega,by omega,⟨by simp[sx],by simp[St,LM,sx,h0,h1,h2,h4,h5],hu4,fun j c hj hc'=>?_⟩,by omega,fun i hi=>by rw[f4 i hi,hfr i hi]⟩
   by_cases e:j=m
   ·subst e
    rw[hci] at hc';injection hc' with hc'
    rw[hv,Option.getD_some];omega
   ·exact hmx j c (by omega) hc'
  ·simp only[sz,simprocAttr,h6,h1,h4,c1,ru,u1,u2,r1,hlt,q1,hry,ox,fD,ci,w1,c2]
   refine fin (m+1) _ _ hm ⟨?_,?_,?_,hmx⟩ ?_ ?_ (.inr ⟨v,x.card,hv,hci,c2,by omega⟩)
   ·simp[sx,h6]
   ·simp[St,LM,sx,h0,h1,h2,h4,h5]
   ·exact how
   ·exact hnx
   ·exact hfr
theorem Ff {a b u:AV}(ha:a.cells=[a]/\a.isTup=false)(hb:b.cells=[b]/\b.isTup=false)(hu:u.cells=[u]/\u.isTup=false):eR [.int .i64 0,.int .i64 0,.nils] [((0,1),a),((1,1),b),((2,1),u)]=some [a,b,u]:=by
 simp[eR,ha,hb,hu,gk]
 rfl
theorem AH {d id t1 t2 ky ke:Nat}{n:Net}{y:QnM}{e:List Int}{b fl S_ w:AV}{g0:G}{K:AV->G->Prop}(hd:0<d)(hr:NR n)(hq:QnOk n y)(hcs:Rp.rp NoP ky .nil y [.int .i64 n.grain,b,fl,S_])(hw:SlR NoP ke .nil e w)(hel:e.length<=n.nodes.length)
  (J:Nat->H->Prop) (E:G->Prop) (hJ:∀j h h',(∀i,i<g0.nx->h'.get i=h.get i)->J j h->J j h')
  (skip:∀(j:Nat) (h:H),j<S.am n->S.jm (S.ak (S.aa n) j) e=false->J j h->J (j+1) h)
  (step:∀(j:Nat) (u:AV) (g:G) (K':AV->G->Prop) (D:ADf->Prop),j<S.am n->S.jm (S.ak (S.aa n) j) e=true->g0.nx<=g.nx->J j g.h->SlR (fun i=>g0.nx<=i/\i<g.nx) 0 g.h (S.ak (S.aa n) j) u ->
   (∀g',J (j+1) g'.h->g.nx<=g'.nx->(∀i,g0.nx<=i->i<g.nx->g'.h.get i=g.h.get i)->K' (.bool true) g')->(∀g',E g'->K' (.bool false) g')->(bP (I C0) d id [.agg [.int .i64 (j:Int),.int .i64 (S.aK n (S.ak (S.aa n) j)),u]] g).sat K' g D)
  (h0:J 0 g0.h) (fin:∀g',J (S.am n) g'.h->g0.nx<=g'.nx->K (.tup []) g') (finE:∀g',E g'->K (.tup []) g') :
  wp C0 d none ay.code (fnQ C0 d ay.res K) (bK 0 [.yld id,.tptr t1 4 [[.int .i64 n.grain,b,fl,S_]] 0 0,.tptr t2 1 [[w]] 0 0] .nil) [] g0:=by
 obtain ⟨b',fl',S',e1,hN,hfl,hS⟩:=mK.1 hcs
 injection e1 with e1 e2
 injection e2 with e2 e3
 injection e3 with e3 e4
 injection e4 with e4 e5
 subst e2;subst e3;subst e4
 have hN:SlR NoP ky .nil n.nodes b:=by rw[<-hq.net];exact hN
 have hl8:=hr.l2
 have hl1:=hr.l1
 obtain ⟨W1,W2,W3⟩:=hr.wl
 have hcs1:=fun c hc=>(hr.cs c hc).1
 have nl:=hN.len
 have hcl:=aP n
 obtain ⟨Qf,hQf⟩:∃Qf,Qf=fnQ C0 d ay.res K:=⟨_,rfl⟩
 rw[<-hQf]
 simp only[sz,simprocAttr,ay,ox,fD,nl]
 refine uM (b:=g0.nx) (n:=n.nodes.length) (by unfold bF;omega) (by unfold bF;omega) (Nat.le_refl _) fun u g1 hu n1 fr1 v1=>?_
 simp only[sz,simprocAttr]
 have hul:∀(g:G) (l:List Int),l.length=n.nodes.length->Own g g0.nx u 1 (l.map ci)->∀g2:G,gX .slice u g2=.val (.int .i64 (n.nodes.length:Int)):=fun g l hl ho g2=>by rw[mo ho.rows];simp[hl]
 obtain ⟨INV,hINV⟩:∃INV:Nat->PT,INV=(fun m t df g=>df=[]/\∃(j:Nat) (vs:List Int),m=S.am n - j/\j<S.am n/\InC (S.aa n) vs/\S.af (S.aa n) vs=(j:Int)/\St t (LM id n.grain b fl S_ w u j t1 t2)/\Own g g0.nx u 1 (vs.map ci)/\J j g.h/\g0.nx<=g.nx):=⟨_,rfl⟩
 refine lM INV (S.am n) ?_ ?_
 ·rw[hINV]
  exact ⟨rfl,0,List.replicate n.nodes.length 0,rfl,by omega,by rw[<-hcl];exact A_ hcs1,by rw[ro];rfl,by simp[St,LM,sx],by simpa [ci] using hu,hJ 0 _ _ (fun i hi=>fr1 i hi) h0,by omega⟩
 intro m t df g hI
 have hI2:=hI
 rw[hINV] at hI2
 obtain ⟨rfl,j,vs,rfl,hj,hin,hidx,⟨h0,h1,h2,h4,h5,-⟩,ho,hJj,hnx⟩:=hI2
 clear hI
 have hvl:=hin.len
 rw[aP] at hvl
 have hval:S.ak (S.aa n) (j:Int)=vs:=by rw[<-hidx];exact xH hcs1 hin
 have hvu:vid u=some g0.nx:=v1
 have hsl:SlR (fun i=>g0.nx<=i/\i<g.nx) 0 g.h vs u:=Own.sl (α:=Int) ho (by omega) (All2.of_map (fun a=>ax.2 rfl) _) fun i hi=>ho.lt hi
 have hmt:=rB (d:=d) (g:=g) (v:=u) (w:=w) (vals:=vs) (e:=e) hd hsl (hw.tree (h':=g.h) (Nat.le_refl _)) (by omega)
 have hlu:=hul g vs hvl ho
 have w1:IntKind.wrap .i64 ((n.nodes.length:Int) - 1)=(n.nodes.length:Int) - 1:=aT (by omega) (by omega)
 obtain ⟨R,hR⟩:∃R,R=sQ [oM 28 4,oN 29 28,o 30 (.bin .sub (.t 29) (qI 1)),oM 6 30] (.seq (.blk 2 (.loop aU)) aV):=⟨_,rfl⟩
 simp only[cq]
 rw[<-hR,cG,nE]
 obtain ⟨Q1,hQ1⟩:∃Q1,Q1=kB 1 (kS (wp C0 d none bi (kL INV (S.am n - j) (kB 0 Qf))) (kL INV (S.am n - j) (kB 0 Qf))):=⟨_,rfl⟩
 rw[<-hQ1]
 have rest:∀(t:T) (g:G),St t (LM id n.grain b fl S_ w u j t1 t2)->Own g g0.nx u 1 (vs.map ci)->J (j+1) g.h->g0.nx<=g.nx->wp C0 d none R Q1 t [] g:=by
  rintro t g ⟨h0,h1,h2,h4,h5,-⟩ ho hJj hnx
  rw[hR,hQ1]
  simp only[sz,simprocAttr,h4,hlu,w1]
  refine Ag (t1:=t1) (t2:=t2) (id:=id) (k:=j) (m:=n.nodes.length) (n:=n) (b:=b) (fl:=fl) (S_:=S_) (w:=w) (u:=u) (vs:=vs) (g0:=g0) hr hN hin (Nat.le_refl _) ⟨by simp[sx],by simp[St,LM,sx,h0,h1,h2,h4,h5],?_,fun i c hi hc=>?_⟩ ?_
  ·rw[List.take_of_length_le (by omega),show vs.length - n.nodes.length=0 by omega]
   simpa using ho
  ·have:=(List.getElem?_eq_some_iff.1 hc).1
   omega
  rintro m' t2 g2 hm' ⟨h6,⟨h0,h1,h2,h4,h5,-⟩,ho2,hmx⟩ hn2 hf2 hcase
  have hJ2:J (j+1) g2.h:=hJ _ _ _ (fun i hi=>hf2 i fun e=>by rw[hvu] at e;injection e with e;omega) hJj
  rcases hcase with rfl | ⟨x,c,hx,hc,hxc,hm0⟩
  ·have hlast:j+1=S.am n:=by
    have:=t6 (cs:=S.aa n) (vs:=vs) hin.len.symm fun i c hc=>hmx i c (Nat.zero_le _) hc
    omega
   have c1:(((0:Nat):Int) - 1<0):=by omega
   rw[hQf]
   simp only[sz,simprocAttr,aV,ay,h6,c1]
   rw[hlast] at hJ2
   exact fin g2 hJ2 (by omega)
  ·obtain ⟨i,rfl⟩:∃i,m'=i+1:=⟨m' - 1,by omega⟩
   rw[Nat.add_sub_cancel] at hx hc
   have hil:=(List.getElem?_eq_some_iff.1 hx).1
   have e1:((i+1:Nat):Int) - 1=(i:Int):=by omega
   rw[e1] at h6
   have c1:¬((i:Int)<0):=by omega
   have u1:i<((vs.take (i+1)++List.replicate (vs.length - (i+1)) 0).map ci).length:=by simp;omega
   have u2:((vs.take (i+1)++List.replicate (vs.length - (i+1)) 0).map ci)[i]?=some (ci x):=by
    rw[List.getElem?_map,List.getElem?_append_left (by simp;omega),List.getElem?_take_of_lt (by omega),hx];rfl
   have ru:=ho2.rows
   obtain ⟨x',hx',hx0,hx1⟩:=hin.get hc
   rw[yB hx' hx] at hx0 hx1
   have hcb:=hr.cs c (List.mem_of_getElem? hc)
   have w2:IntKind.wrap .i64 (x+1)=x+1:=aT (by omega) (by omega)
   simp only[sz,simprocAttr,aV,h6,c1,h4,ru,u1,u2,ci,w2]
   refine dZ (v:=u) (sz:=1) (n:=1) (i:=i) (off:=0) (x:=.int .i64 (x+1)) (row':=ci (x+1)) ho2 u2 rfl rfl rfl fun g4 hu4 n4 f4=>?_
   rw[<-List.map_set,um hil] at hu4
   have hin2:=BL hin hcs1 hx hc hxc
   have hidx2:=Bj (cs:=S.aa n) (vs:=vs) hin.len.symm hx fun k c hk hc=>hmx k c (by omega) hc
   rw[hidx] at hidx2
   have hlt2:=dx hr.cs hin2
   have w3:IntKind.wrap .i64 ((j:Int)+1)=((j+1:Nat):Int):=by rw[aT (by omega) (by omega)];rfl
   simp only[sz,simprocAttr,bi,h5,w3]
   refine ⟨S.am n - (j+1),by omega,?_⟩
   rw[hINV]
   refine ⟨rfl,j+1,_,rfl,by omega,hin2,by rw[hidx2];rfl,by simp[St,LM,sx,h0,h1,h2,h4],hu4,hJ _ _ _ (fun i hi=>f4 i fun e=>by rw[hvu] at e;injection e with e;omega) hJ2,by omega⟩
 cases hm:S.jm vs e with
 | false =>
  rw[hm] at hmt
  rw[cG]
  simp only[sz,simprocAttr,h4,h2,fD,hmt]
  exact rest _ _ (by simp[St,LM,sx,h0,h1,h2,h4,h5]) ho (skip j _ hj (by rw[hval];exact hm) hJj) hnx
 | true =>
  rw[hm] at hmt
  rw[cG]
  have hwt:=AS (d:=d) (g:=g) (v:=.agg [.int .i64 n.grain,b,fl,S_]) (w:=u) (vals:=vs) (y:=y) hd hr ⟨_,rfl,Rp.tree hcs (Nat.le_refl _)⟩ hq hsl hin
  simp only[sz,simprocAttr,h0,h1,h5,h4,h2,fD,hmt,hwt,Ff (a:=.int .i64 (j:Int)) (b:=.int .i64 (S.aK n vs)) ⟨rfl,rfl⟩ ⟨rfl,rfl⟩ ho.cell]
  have st:=fun K' D=>step j u g K' D hj (by rw[hval];exact hm) hnx hJj (by rw[hval];exact hsl)
  rw[hval] at st
  show (bP (I C0) d id [.agg [.int .i64 (j:Int),.int .i64 (S.aK n vs),u]] g).sat _ _ _
  refine st _ _ (fun g' hJ' hn' hf'=>?_) fun g' hE=>?_
  ·simp only[sz,simprocAttr]
   exact rest _ _ (by simp[St,LM,sx,h0,h1,h2,h4,h5]) (ho.fr hn' fun i hi=>hf' i (ho.lt hi).1 (ho.lt hi).2) hJ' (by omega)
  ·rw[hQ1,hQf]
   simp only[sz,simprocAttr,ay]
   exact finE g' hE
theorem Ao {C:Cfg}{d id nt:Nat}{t:T}{ps:List Nat}{assign body:Code}{a b:SC}{dfr:Nat}{args:List AV}{g:G}{K:AV->G->Prop}{D:ADf->Prop}{t':T}
  (hg:g.h.get id=.loop nt t ps assign body dfr .ready none) (ha:cN C nt assign=a) (hb:cN C nt body=b) (hp:cj t nt ps args=some t')
  (h:wp C d (some id) a (fun e t1 df g1=>e=.norm/\df=[]/\g1.h.get id=.loop nt t ps assign body dfr .ready none /\
   wp C d (some id) b (fun e _ df g2=>df=[]/\g2.h.get id=.loop nt t ps assign body dfr .busy none/\((e=.norm/\K (.bool true) (g2.put id (.loop nt t ps assign body dfr .ready none)))\/(e=.ret/\K (.bool false) (g2.put id (.loop nt t ps assign body dfr .done (some .ret))))))
    t1 [] (g1.put id (.loop nt t ps assign body dfr .busy none))) t' [] g) :
  (bP (I C) d id args g).sat K g D:=by
 subst ha;subst hb
 unfold bP
 rw[show g.get id=_ from hg]
 dsimp only
 rw[hp]
 dsimp only
 have h1:=mr h
 cases hc:(I C).code nt d (some id) assign t' [] g with
 | fail=>rw[hc] at h1;exact h1.elim
 | ok e t1 df g1 =>
  rw[hc] at h1
  obtain ⟨rfl,rfl,hg1,h2⟩:=h1
  dsimp only
  rw[show g1.get id=_ from hg1]
  dsimp only
  have h3:=mr h2
  cases hc2:(I C).code nt d (some id) body t1 [] (g1.put id (.loop nt t ps assign body dfr .busy none)) with
  | fail=>rw[hc2] at h3;exact h3.elim
  | ok e t2 df2 g2 =>
   rw[hc2] at h3
   obtain ⟨rfl,h4,h5⟩:=h3
   dsimp only
   rw[show g2.get id=_ from h4]
   rcases h5 with ⟨rfl,h5⟩ | ⟨rfl,h5⟩<;>exact h5
theorem vp:C0.ext N.aa=none:=by kernel_rfl
theorem jq {d nt p r t1 t2 ky ke:Nat}{n:Net}{y:QnM}{e:List Int}{cs:List AV}{w:AV}{ca cb:SC}{Q:QT}{t:T}{df:List ADf}{g:G}(hd:0<d)(hr:NR n)(hq:QnOk n y)(hcs:Rp.rp NoP ky .nil y cs)(hw:SlR NoP ke .nil e w)(hel:e.length<=n.nodes.length)
  (hv:tat t r=.clo N.aa [] [.tptr t1 4 [cs] 0 0,.tptr t2 1 [[w]] 0 0]) (hp:p<nt)
  (J:Nat->H->Prop) (E:H->Prop) (hJ:∀j h h',(∀i,i<g.nx->h'.get i=h.get i)->J j h->J j h') (hE:∀h h',(∀i,i<g.nx->h'.get i=h.get i)->E h->E h') (h0:J 0 g.h)
  (skip:∀(j:Nat) (h:H),j<S.am n->S.jm (S.ak (S.aa n) j) e=false->J j h->J (j+1) h)
  (step:∀(j:Nat) (u:AV) (g1:G),j<S.am n->S.jm (S.ak (S.aa n) j) e=true->J j g1.h->g.nx+2<=g1.nx->SlR (fun i=>g.nx+2<=i/\i<g1.nx) 0 g1.h (S.ak (S.aa n) j) u ->
   wp C0 d (some (g.nx+1)) ca (fun e t1 df g1'=>e=.norm/\df=[]/\Fr g1 g1'/\∀g2:G,g2.nx=g1'.nx->(∀i,i≠g.nx+1->g2.h.get i=g1'.h.get i) ->
    wp C0 d (some (g.nx+1)) cb (fun e _ df g3=>df=[]/\RowQ g.nx g2 g3 e (J (j+1) g3.h) (E g3.h)) t1 [] g2)
    (gz t p (.agg [.int .i64 (j:Int),.int .i64 (S.aK n (S.ak (S.aa n) j)),u])) [] g1)
  (fin:∀g',J (S.am n) g'.h->g.nx+2<=g'.nx->g'.h.get g.nx=.dfr true->Q .norm t (.mark g.nx::df) g')
  (finE:∀g',E g'.h->g.nx+2<=g'.nx->g'.h.get g.nx=.dfr true->Q .ret t (.mark g.nx::df) g') :
  wp C0 d none (.rng nt (.t r) [p] ca cb) Q t df g:=by
 obtain ⟨b,fl,S_,rfl,-,-,-⟩:=mK.1 hcs
 rw[hq.net] at hv hcs
 refine rh (fn:=N.aa) (first:=[]) (cap:=[.tptr t1 4 [[.int .i64 n.grain,b,fl,S_]] 0 0,.tptr t2 1 [[w]] 0 0]) (s:=ay) hv vp gu (by simp[ay]) ?_
 intro assign body ha hb
 have e1:((g.new (.dfr true)).new (.loop nt t [p] assign body g.nx .ready none)).nx=g.nx+2:=by simp
 refine AH (g0:=(g.new (.dfr true)).new (.loop nt t [p] assign body g.nx .ready none)) (id:=g.nx+1) hd hr hq hcs hw hel
  (fun j h=>J j h/\h.get g.nx=.dfr true/\h.get (g.nx+1)=.loop nt t [p] assign body g.nx .ready none)
  (fun g'=>E g'.h/\g'.h.get g.nx=.dfr true/\g'.h.get (g.nx+1)=.loop nt t [p] assign body g.nx .done (some .ret)/\g.nx+2<=g'.nx) ?_ ?_ ?_ ?_ ?_ ?_
 ·rintro j h h' hh ⟨a1,a2,a3⟩
  rw[e1] at hh
  exact ⟨hJ j h h' (fun i hi=>hh i (by omega)) a1,by rw[hh _ (by omega),a2],by rw[hh _ (by omega),a3]⟩
 ·rintro j h hj hm ⟨a1,a2,a3⟩
  exact ⟨skip j h hj hm a1,a2,a3⟩
 ·rintro j u g1 K' D hj hm hn ⟨a1,a2,a3⟩ hsl kk kE
  rw[e1] at hn kk hsl
  refine Ao a3 ha hb (t':=gz t p (.agg [.int .i64 (j:Int),.int .i64 (S.aK n (S.ak (S.aa n) j)),u])) ?_ ?_
  ·simp only[cj,aa,Nat.blt_eq,if_pos hp];rfl
  ·refine gH _ (step j u g1 hj hm a1 (by omega) hsl) ?_
   rintro e t1 df g1' ⟨rfl,rfl,hfr,h⟩
   have hl0:g.nx+1<g1.nx:=by omega
   have hl:g.nx+1<g1'.nx:=Nat.lt_of_lt_of_le hl0 hfr.1
   have a2':g1'.h.get g.nx=.dfr true:=by rw[hfr.2 _ (by omega),a2]
   have a3':g1'.h.get (g.nx+1)=.loop nt t [p] assign body g.nx .ready none:=by rw[hfr.2 _ hl0,a3]
   refine ⟨rfl,rfl,a3',?_⟩
   refine gH _ (h (g1'.put (g.nx+1) (.loop nt t [p] assign body g.nx .busy none)) (by simp) (fun i hi=>by simp[H.get_put,hi])) ?_
   rintro e t2 df g3 ⟨rfl,⟨b2,b3,b1⟩⟩
   have b4:g3.h.get (g.nx+1)=.loop nt t [p] assign body g.nx .busy none:=by rw[b3 _ (by omega) (by simpa using hl)];simp[H.get_put]
   have b5:g3.h.get g.nx=.dfr true:=by
    rw[b3 _ (by omega) (by simp;omega)];simp[H.get_put,a2']
   refine ⟨rfl,b4,?_⟩
   have b2':g1'.nx<=g3.nx:=by simpa using b2
   have hf1:=hfr.1
   rcases b1 with ⟨rfl,b1⟩ | ⟨rfl,b1⟩
   ·refine .inl ⟨rfl,kk _ ⟨hJ _ g3.h _ (fun i hi=>by simp[H.get_put,show ¬i=g.nx+1 by omega]) b1,?_,?_⟩ (by simp;omega) fun i h1 h2=>?_⟩
    ·simp[H.get_put,b5]
    ·simp[H.get_put]
    ·have hne:¬i=g.nx+1:=by omega
     have:=b3 i (by omega) (by simp;omega)
     simp[H.get_put,hne] at this ⊢
     rw[this,hfr.2 i h2]
   ·refine .inr ⟨rfl,kE _ ⟨hE g3.h _ (fun i hi=>by simp[H.get_put,show ¬i=g.nx+1 by omega]) b1,?_,?_,?_⟩⟩
    ·simp[H.get_put,b5]
    ·simp[H.get_put]
    ·simp;omega
 ·refine ⟨hJ 0 g.h _ (fun i hi=>?_) h0,?_,?_⟩
  ·simp[H.get_put,show ¬i=g.nx+1 by omega,show ¬i=g.nx by omega]
  ·simp[H.get_put]
  ·simp[H.get_put]
 ·rintro g' ⟨a1,a2,a3⟩ hn
  rw[e1] at hn
  refine ⟨_,_,_,_,_,_,.inl ⟨a3,fin _ (hJ _ g'.h _ (fun i hi=>by simp[H.get_put,show ¬i=g.nx+1 by omega]) a1) (by simpa using hn) ?_⟩⟩
  simp[H.get_put,a2]
 ·rintro g' ⟨a1,a2,a3,hn⟩
  refine ⟨_,_,_,_,_,_,.inr ⟨a3,finE _ (hE g'.h _ (fun i hi=>by simp[H.get_put,show ¬i=g.nx+1 by omega]) a1) (by simpa using hn) ?_⟩⟩
  simp[H.get_put,a2]
theorem oI {n:Net}{e:List Int}(h:S.aC n e=true):e.length=n.nodes.length/\∀x∈e,-1<=x:=by
 simp only[S.aC,Bool.and_eq_true,decide_eq_true_eq,List.all_eq_true] at h
 refine ⟨h.1,fun x hx=>?_⟩
 obtain ⟨i,hi,he⟩:=List.mem_iff_getElem.1 hx
 have:=(h.2 i (List.mem_range.2 hi)).1
 rw[List.getElem?_eq_getElem hi,he] at this
 exact this
def S.pe (n:Net)(e:List Int)(w:Nat):Bool:=S.bk (S.ak (S.aa n) (w:Int)) e
theorem vg (n:Net)(e:List Int):S.aD n e=S.ah n (S.pe n e) (S.am n):=rfl
theorem mw {n:Net}(h:NR n){p:Nat->Bool}{j:Nat}(hj:j<=1024):0<=S.ah n p j/\S.ah n p j<=171992678400000000:=by
 have:=m6 h p j
 omega
theorem wK (g:G)(o o':AObj):Fr g ((g.new o).put g.nx o'):=⟨by simp,fun i hi=>by simp[H.get_put,show ¬i=g.nx by omega]⟩
theorem ux {d kk:Nat}{g:G}{v w:AV}{n:Net}{y:QnM}{e:List Int}(hd:0<d)(hr:NR n)(hm:Agg y NoP 0 g.h v)(hq:QnOk n y)(he:SlR NoP kk g.h e w)(hev:S.aC n e=true)(hk:kk<=d:=by omega) :
  aw C0 d N.aB [v,w] g=.val (.int .i64 (S.aD n e)):=by
 have e0:=fW d hm
 have ew:=zw d he
 obtain ⟨cs,rfl,hcs⟩:=hm
 obtain ⟨b,fl,S_,rfl,-,-,-⟩:=mK.1 hcs
 obtain ⟨el,ege⟩:=oI hev
 obtain ⟨W1,W2,W3⟩:=hr.wl
 rw[i4]
 refine mA jG (xs:=[.agg [.int .i64 y.1.grain,b,fl,S_],w]) (by simp only[aC,e0,ew]) (by simp[cR]) hd ?_
 simp only[sz,simprocAttr,cR]
 unfold d_
 refine kV (P:=fun t' df g'=>df=[]/\g'.nx=2/\g'.h.get 0=.cells 4 [[.int .i64 y.1.grain,b,fl,S_]] 0 false false/\g'.h.get 1=.cells 1 [[.int .i64 0]] 0 false false/\St t' [(1,w),(2,.hptr 0 0 0 0),(5,.hptr 1 0 0 0)]) ?_ ?_
 ·simp only[sz,simprocAttr]
  simp[St,sx]
 rintro t df g0 ⟨rfl,f2,f0,f1,h1,h2,h5,-⟩
 obtain ⟨cs,z,t1,t2,ez,hcs',hz⟩:=fY (d:=d+1) (g:=g0) (y:=y) (e:=e) (v:=.agg [.int .i64 y.1.grain,b,fl,S_]) (w:=w) (Nat.succ_pos d) ⟨_,rfl,Rp.tree hcs (Nat.le_refl _)⟩ (he.tree (Nat.le_refl _))
 rw[cG,cG]
 simp only[sz,simprocAttr,h1,h2,f0,ez]
 refine jq (t1:=t1) (t2:=t2) (n:=n) (y:=y) (e:=e) (cs:=cs) (w:=z) (Nat.succ_pos d) hr hq hcs' hz (by omega) (by simp[sx]) (by decide)
  (fun j h=>h.get 1=.cells 1 [[.int .i64 (S.ah n (S.pe n e) j)]] 0 false false) (fun _=>False) (fun j h h' hh h1=>by rw[hh 1 (by omega),h1]) (fun _ _ _ h=>h) f1 ?_ ?_ ?_ (fun _ h=>h.elim)
 ·intro j h hj hmt h1
  have hp:S.pe n e j=false:=by rw[S.pe,<-ql ege];exact hmt
  rw[h1,S.ah,hp];simp
 ·intro j u g1 hj hmt h1 hn hu
  have hp:S.pe n e j=true:=by rw[S.pe,<-ql ege];exact hmt
  have hb:=mw hr (p:=S.pe n e) (j:=j+1) (by omega)
  have hs:S.ah n (S.pe n e) (j+1)=S.ah n (S.pe n e) j+S.aK n (S.ak (S.aa n) (j:Int)):=by rw[S.ah,hp];simp
  have w1:IntKind.wrap .i64 (S.ah n (S.pe n e) j+S.aK n (S.ak (S.aa n) (j:Int)))=S.ah n (S.pe n e) (j+1):=by rw[<-hs,aT (by omega) (by omega)]
  simp only[sz,simprocAttr,dI]
  refine ⟨wK _ _ _,?_⟩
  intro g2 n2 f2'
  have k6:g2.h.get g1.nx=.cells 3 [[.int .i64 (j:Int),.int .i64 (S.aK n (S.ak (S.aa n) (j:Int))),u]] 0 false false:=by rw[f2' _ (by omega),if_pos rfl]
  have k1:g2.h.get 1=.cells 1 [[.int .i64 (S.ah n (S.pe n e) j)]] 0 false false:=by rw[f2' 1 (by omega),if_neg (by omega),if_neg (by omega),h1]
  simp only[sz,simprocAttr,dM,h5,k1,k6,w1]
  exact ⟨by simp,fun i h1 h2=>by simp[H.get_put,show ¬i=1 by omega],.inl ⟨rfl,by simp[H.get_put]⟩⟩
 ·intro g' h1 hn hdf
  simp only[sz,simprocAttr,dE,h5,h1]
  refine fB hdf ?_
  simp only[sx,↓reduceIte]
  rw[vg]
def Fi (pm:List Nat)(ws:List (Bool×Bool)):Bool:=(List.range ws.length).all fun j=>(List.range j).all fun i=>!(ws.getD i (false,false)).2 || !(ws.getD j (false,false)).1 || (pm.getD j 0).testBit i
theorem pB {pm:List Nat}{i:Nat}{x:Foot}:∀{r:List Foot} {j:Nat},(∀b y,r[b]?=some y->y.wr=[]\/(pm.getD (j+b) 0).testBit i=true)->bo pm i x j r=0
 | [],_,_=>rfl
 | y::r,j,h=>by
  have h0:=h 0 y rfl
  have ih:bo pm i x (Nat.succ j) r=0:=pB fun b z hz=>by
   have:=h (b+1) z (by simpa using hz)
   rwa [show j+(b+1)=Nat.succ j+b by omega] at this
  have hc:((pm.getD j 0).testBit i || !meets y.wr (fst1 x.lk.sr))=true:=by
   rcases h0 with h0 | h0
   ·rw[h0];simp[meets]
   ·rw[Nat.add_zero] at h0;rw[h0,Bool.true_or]
  rw[bo,aa,if_pos hc,ih]
theorem s_ {pm:List Nat}:∀{l:List Foot} {i:Nat},(∀a x,l[a]?=some x->x.lk.sr=[]\/∀b y,a<b->l[b]?=some y->y.wr=[]\/(pm.getD (i+b) 0).testBit (i+a)=true)->ge pm i l=true
 | [],_,_=>rfl
 | x::r,i,h=>by
  have ih:ge pm (Nat.succ i) r=true:=s_ fun a y hy=>by
   rcases h (a+1) y (by simpa using hy) with h' | h'
   ·exact .inl h'
   ·refine .inr fun b z hb hz=>?_
    have:=h' (b+1) z (by omega) (by simpa using hz)
    rwa [show i+(b+1)=Nat.succ i+b by omega,show i+(a+1)=Nat.succ i+a by omega] at this
  rw[ge,ih]
  rcases h 0 x rfl with h' | h'
  ·rw[h'];first | done | rfl
  ·have hc:bo pm i x (Nat.succ i) r=0:=pB fun b y hy=>by
    have:=h' (b+1) y (by omega) (by simpa using hy)
    rwa [show i+(b+1)=Nat.succ i+b by omega,Nat.add_zero] at this
   rw[hc]
   cases x.lk.sr<;>rfl
theorem pp {pm:List Nat}{fs:List Foot}(ws:List (Bool×Bool))(L:List (Nat×Nat))(hw:All2 (fun (f:Foot) (w:Bool×Bool)=>(w.2=false->f.lk.sr=[])/\(w.1=false->f.wr=[])) fs ws)(hs:Fi pm ws=true)(hd:yz pm (ws.map (·.1)) L=true)
  (hL:∀p∈L,∀x y,fs[p.1]?=some x->fs[p.2]?=some y->bz x y=true):gM pm fs=true:=by
 unfold gM
 rw[aa,if_pos]
 ·refine s_ fun a x ha=>?_
  obtain ⟨wa,hwa,ka⟩:=hw.get ha
  cases e:wa.2 with
  | false=>exact .inl (ka.1 e)
  | true =>
   refine .inr fun b y hab hb=>?_
   obtain ⟨wb,hwb,kb⟩:=hw.get hb
   have hbl:=(List.getElem?_eq_some_iff.1 hwb).1
   have:=List.all_eq_true.1 (List.all_eq_true.1 hs b (List.mem_range.2 hbl)) a (List.mem_range.2 hab)
   simp only[List.getD_eq_getElem?_getD,hwa,hwb,Option.getD_some,e,Bool.not_true,Bool.false_or,Bool.or_eq_true,Bool.not_eq_true'] at this
   rcases this with h | h
   ·exact .inl (kb.2 h)
   ·refine .inr ?_
    rw[Nat.zero_add,Nat.zero_add,List.getD_eq_getElem?_getD];exact h
 ·refine lT fun a b x y hab ha hb=>?_
  simp only[Nat.zero_add]
  obtain ⟨wa,hwa,ka⟩:=hw.get ha
  obtain ⟨wb,hwb,kb⟩:=hw.get hb
  have hbl:=(List.getElem?_eq_some_iff.1 hwb).1
  have:=List.all_eq_true.1 (List.all_eq_true.1 hd b (List.mem_range.2 (by simpa using hbl))) a (List.mem_range.2 hab)
  simp only[xL,Bool.or_eq_true] at this
  rcases this with (h | h) | h
  ·rw[h,Bool.true_or]
  ·simp only[List.getD_eq_getElem?_getD,List.getElem?_map,hwa,hwb,Option.map_some,Option.getD_some,Bool.and_eq_true,Bool.not_eq_true'] at h
   have ex:=ka.2 h.1
   have ey:=kb.2 h.2
   simp only[bz,f8,ej,ex,ey,Bool.and_self,Bool.or_true]
  ·rw[hL (a,b) (List.contains_iff_mem.1 h) x y ha hb,Bool.or_true]
section
variable {α:Type} [DecidableEq α]
def mgt (L:List (α×Int))(k:α):Int:=match L with
 | []=>0
 | (a,v)::r=>if k=a then v else mgt r k
def mst (k:α)(v:Int):List (α×Int)->List (α×Int)
 | []=>[(k,v)]
 | (a,w)::r=>if k=a then (k,v)::r else (a,w)::mst k v r
theorem zl (k j:α)(v:Int):∀L:List (α×Int),mgt (mst k v L) j=if j=k then v else mgt L j
 | []=>by simp only[mst,mgt]
 | (a,w)::r=>by
  rw[mst]
  by_cases e:k=a
  ·subst e
   rw[if_pos rfl,mgt,mgt]
   by_cases e2:j=k
   ·rw[if_pos e2,if_pos e2]
   ·rw[if_neg e2,if_neg e2,if_neg e2]
  ·rw[if_neg e,mgt,zl k j v r,mgt]
   by_cases e2:j=a
   ·rw[if_pos e2,if_pos e2,if_neg (fun h=>e (by rw[<-h,e2]))]
   ·rw[if_neg e2,if_neg e2]
def mcl (kf:α->AV)(L:List (α×Int)):List (AV×AV):=L.map fun p=>(kf p.1,.int .i64 p.2)
theorem zJ {kf:α->AV}(hk:∀a b,fu (kf a) (kf b)=some (decide (a=b)))(k:α):∀L:List (α×Int),gD (kf k) (mcl kf L)=some (if L.any (fun p=>decide (k=p.1)) then some (.int .i64 (mgt L k)) else none)
 | []=>rfl
 | (a,w)::r=>by
  rw[mcl,List.map_cons,gD,hk]
  by_cases e:k=a
  ·subst e;simp[mgt]
  ·have ih:=zJ hk k r
   rw[mcl] at ih
   simp only[decide_eq_false e]
   rw[ih,List.any_cons,mgt,if_neg e,decide_eq_false e,Bool.false_or]
theorem v8 (k:α):∀L:List (α×Int),L.any (fun p=>decide (k=p.1))=false->mgt L k=0
 | [],_=>rfl
 | (a,w)::r,h=>by
  rw[List.any_cons,Bool.or_eq_false_iff] at h
  rw[mgt,if_neg (of_decide_eq_false h.1),v8 k r h.2]
theorem Bf {kf:α->AV}(hk:∀a b,fu (kf a) (kf b)=some (decide (a=b)))(k:α)(x:Int):∀L:List (α×Int),wF (kf k) (.int .i64 x) (mcl kf L)=some (mcl kf (mst k x L))
 | []=>rfl
 | (a,w)::r=>by
  rw[mcl,List.map_cons,wF,hk,mst]
  by_cases e:k=a
  ·subst e;simp[mcl]
  ·have ih:=Bf hk k x r
   rw[mcl] at ih
   simp only[decide_eq_false e,if_neg e,ih]
   rfl
theorem A4 {kf:α->AV}(hk:∀a b,fu (kf a) (kf b)=some (decide (a=b))){kk:KeyKind}{m k:T->AV}{t:T}{g:G}{id:Nat}{a:α}{L:List (α×Int)}(h1:m t=.hmap id)(h2:k t=kf a)(ho:gF kk (kf a)=true)(hg:g.h.get id=.map (mcl kf L)) :
  bj kk (.int .i64 0) false m k t g=.val (.int .i64 (mgt L a)):=by
 unfold bj
 rw[h1,h2,ho]
 simp only[G.get_eq,hg,zJ hk]
 cases h:L.any (fun p=>decide (a=p.1)) with
 | true=>simp
 | false=>simp[v8 a L h]
theorem BH {kf:α->AV}(hk:∀a b,fu (kf a) (kf b)=some (decide (a=b))){kk:KeyKind}{m k x:T->AV}{t:T}{g:G}{id:Nat}{a:α}{v:Int}{L:List (α×Int)}(h1:m t=.hmap id)(h2:k t=kf a)(h3:x t=.int .i64 v)(ho:gF kk (kf a)=true)(hg:g.h.get id=.map (mcl kf L)) :
  bg kk m k x t g=.upd .undef (g.put id (.map (mcl kf (mst a v L)))):=by
 unfold bg
 rw[h1,h2,h3,ho]
 simp only[G.get_eq,hg,Bf hk]
end
def ik (a:Int):AV:=.int .i64 a
theorem EK (a b:Int):fu (ik a) (ik b)=some (decide (a=b)):=by
 show some (yq a b)=_
 rw[my]
theorem BM (d:Nat)(rd:Option Nat)(t:T)(g:G):(SO.raw (.makeMap tII none)).run C0 d rd t g=.upd (.hmap g.nx) (g.new (.map [])):=by kernel_rfl
theorem xe {d:Nat}{rd:Option Nat}{t:T}{g:G}{a b id:Nat}{k:Int}{L:List (Int×Int)}{op:Op}(hr:(SO.raw op).run C0 d rd t g=bj (.one (.int .i64)) (.int .i64 0) false (fun t=>tat t a) (fun t=>tat t b) t g)(h1:tat t a=.hmap id)(h2:tat t b=.int .i64 k)(hg:g.h.get id=.map (mcl ik L)):(SO.raw op).run C0 d rd t g=.val (.int .i64 (mgt L k)):=by
 rw[hr];exact A4 EK h1 h2 rfl hg
theorem xh {d:Nat}{rd:Option Nat}{t:T}{g:G}{a b c id:Nat}{k x:Int}{L:List (Int×Int)}{op:Op}(hr:(SO.raw op).run C0 d rd t g=bg (.one (.int .i64)) (fun t=>tat t a) (fun t=>tat t b) (fun t=>tat t c) t g)(h1:tat t a=.hmap id)(h2:tat t b=.int .i64 k)(h3:tat t c=.int .i64 x)(hg:g.h.get id=.map (mcl ik L)):(SO.raw op).run C0 d rd t g=.upd .undef (g.put id (.map (mcl ik (mst k x L)))):=by
 rw[hr];exact BH EK h1 h2 h3 rfl hg
theorem x7 {C:Cfg}{ty kt et a b:Nat}{z:AV}{ok:Bool}(hu:C.P.underlying ty=some (.map kt et))(hz:mN C.P et=some z)(d:Nat)(rd:Option Nat)(t:T)(g:G):(SO.raw (.lookup ty (.tmp a) (.tmp b) ok)).run C d rd t g=bj (bM C.P kt) z ok (fun t=>tat t a) (fun t=>tat t b) t g:=by
 obtain ⟨s1,e1,r1⟩:=aM (C:=C) (x:=.tmp a) (o:=.t a) rfl
 obtain ⟨s2,e2,r2⟩:=aM (C:=C) (x:=.tmp b) (o:=.t b) rfl
 show (bB C _).run (I C) d rd t g=_
 rw[a8 (s:=⟨bj (bM C.P kt) z ok s1.run s2.run⟩) rfl (by simp only[bm,e1,e2,hu,hz])]
 rw[show s1.run=fun t=>tat t a from funext r1,show s2.run=fun t=>tat t b from funext r2]
theorem xZ {C:Cfg}{ty kt et a b c:Nat}(hu:C.P.underlying ty=some (.map kt et))(d:Nat)(rd:Option Nat)(t:T)(g:G):(SO.raw (.mapUpdate ty (.tmp a) (.tmp b) (.tmp c))).run C d rd t g=bg (bM C.P kt) (fun t=>tat t a) (fun t=>tat t b) (fun t=>tat t c) t g:=by
 obtain ⟨s1,e1,r1⟩:=aM (C:=C) (x:=.tmp a) (o:=.t a) rfl
 obtain ⟨s2,e2,r2⟩:=aM (C:=C) (x:=.tmp b) (o:=.t b) rfl
 obtain ⟨s3,e3,r3⟩:=aM (C:=C) (x:=.tmp c) (o:=.t c) rfl
 show (bB C _).run (I C) d rd t g=_
 rw[a8 (s:=⟨bg (bM C.P kt) s1.run s2.run s3.run⟩) rfl (by simp only[bm,e1,e2,e3,hu])]
 rw[show s1.run=fun t=>tat t a from funext r1,show s2.run=fun t=>tat t b from funext r2,show s3.run=fun t=>tat t c from funext r3]
theorem tA {C:Cfg}{ty a b:Nat}(t:T)(g:G):SO.foot C t g (.raw (.lookup ty (.tmp a) (.tmp b) false))=⟨[],(ac (tat t a)).map (·,ty),[],false⟩:=by
 obtain ⟨s1,e1,r1⟩:=aM (C:=C) (x:=.tmp a) (o:=.t a) rfl
 show (aA C _).run t g=_
 simp only[aA,e1,r1]
 rfl
theorem zW {C:Cfg}{ty a b c:Nat}(t:T)(g:G):SO.foot C t g (.raw (.mapUpdate ty (.tmp a) (.tmp b) (.tmp c)))=af (ac (tat t a)):=by
 obtain ⟨s1,e1,r1⟩:=aM (C:=C) (x:=.tmp a) (o:=.t a) rfl
 show (aA C _).run t g=_
 simp only[aA,e1,r1]
 rfl
theorem Br:bM C0.P 3=.one (.int .i64):=by kernel_rfl
theorem C9:C0.P.underlying tII=some (.map 3 3):=by kernel_rfl
theorem FM:mN C0.P 3=some (.int .i64 0):=by kernel_rfl
theorem y5 {d:Nat}{rd:Option Nat}{t:T}{g:G}{a b id:Nat}{k:Int}{L:List (Int×Int)}(h1:tat t a=.hmap id)(h2:tat t b=.int .i64 k)(hg:g.h.get id=.map (mcl ik L)):(SO.raw (.lookup tII (.tmp a) (.tmp b) false)).run C0 d rd t g=.val (.int .i64 (mgt L k)) :=
 xe (by rw[x7 C9 FM,Br]) h1 h2 hg
theorem E4 {d:Nat}{rd:Option Nat}{t:T}{g:G}{a b c id:Nat}{k x:Int}{L:List (Int×Int)}(h1:tat t a=.hmap id)(h2:tat t b=.int .i64 k)(h3:tat t c=.int .i64 x)(hg:g.h.get id=.map (mcl ik L)):(SO.raw (.mapUpdate tII (.tmp a) (.tmp b) (.tmp c))).run C0 d rd t g=.upd .undef (g.put id (.map (mcl ik (mst k x L)))) :=
 xh (by rw[xZ C9,Br]) h1 h2 h3 hg
end
end Hx
end
section
namespace Hx
open Go
noncomputable section
def S.aZ (s j:Nat):List Int:=((List.range j).filter fun v=>s.testBit v).map fun v:Nat=>(v:Int)
theorem rD (s j:Nat):S.aZ s (j+1)=S.aZ s j++if s.testBit j then [(j:Int)] else []:=by
 rw[S.aZ,List.range_succ,List.filter_append,List.map_append]
 congr 1
 cases hb:s.testBit j<;>simp[List.filter,hb]
theorem Bk {s j:Nat}:∀y∈S.aZ s j,0<=y/\y<j:=fun y hy=>by
 obtain ⟨v,hv,rfl⟩:=List.mem_map.1 hy
 have:=List.mem_range.1 (List.mem_filter.1 hv).1
 omega
def S.aI (n:Net)(vals:List Int)(s j:Nat):Int:=S.af (S.ac (S.aa n) (S.aZ s j)) (S.ac vals (S.aZ s j))
theorem zS {n:Net}{vals:List Int}{s j:Nat}:S.aI n vals s (j+1)=if s.testBit j then S.aI n vals s j*((S.aa n)[j]?.getD 0)+vals[j]?.getD 0 else S.aI n vals s j:=by
 rw[S.aI,rD,bJ,bJ,mB _ _ (by simp[io])]
 cases s.testBit j with
 | true=>simp[S.ac,S.af,S.ae,S.aI]
 | false=>simp[S.ac,S.af,S.ae,S.aI]
theorem sX (s:Nat):∀j,(S.aZ s j).length<=j
 | 0=>by simp[S.aZ]
 | j+1=>by
  have:=sX s j
  rw[rD,List.length_append]
  split<;>simp<;>omega
theorem qu {n:Net}(h:NR n){vals:List Int}(hv:InC (S.aa n) vals){s j:Nat}(hj:j<=n.nodes.length):0<=S.aI n vals s j/\S.aI n vals s j<65536:=by
 have hin:∀p∈S.aZ s j,0<=p/\p<(S.aa n).length:=fun p hp=>by have:=Bk p hp;rw[aP];omega
 have h1:=dx (a7 h.cs hin) (fC hv hin)
 have h2:=cM (l:=S.ac (S.aa n) (S.aZ s j)) (a7 h.cs hin)
 have h3:=fF (a:=(S.ac (S.aa n) (S.aZ s j)).length) (b:=8) (by rw[io];have:=sX s j;have:=h.l2;omega)
 have h4:(4:Int) ^ 8=65536:=by decide
 unfold S.aI
 omega
theorem FZ {s v:Nat}:decide (((s / 2 ^ v &&& 1:Nat):Int)=1)=s.testBit v:=by
 rw[Nat.and_one_is_mod,Nat.testBit_eq_decide_div_mod_eq]
 rw[Bool.eq_iff_iff,decide_eq_true_iff,decide_eq_true_iff]
 omega
theorem tD {d kk s:Nat}{P:Nat->Prop}{g:G}{v w:AV}{n:Net}{y:QnM}{vals:List Int}(hd:0<d)(hr:NR n)(hm:Agg y NoP 0 g.h v)(hq:QnOk n y)(hv:SlR P kk g.h vals w)(hc:InC (S.aa n) vals)(hs:s<18446744073709551616) :
  aw C0 d N.au [v,w,.int .u64 (s:Int)] g=.val (.int .i64 (S.aI n vals s n.nodes.length)):=by
 have e0:=fW d hm
 obtain ⟨cs,rfl,hcs⟩:=hm
 obtain ⟨b,fl,S_,rfl,hN,hfl,hS⟩:=mK.1 hcs
 have hN:SlR NoP 0 .nil y.1.nodes b:=hN.tree (Nat.le_refl 0)
 rw[hq.net] at hN
 obtain ⟨w',e2,hw'⟩:=fH hv d
 have hgr:y.1.grain=n.grain:=by rw[hq.net]
 obtain ⟨rows,r1,r2,r3,r4⟩:=hN.all
 have r1:∀h',au h' 3 b=some rows:=r1
 have rv:=fun h=>(hw' h).ints
 have lv:∀g:G,gX .slice w' g=.val (.int .i64 (vals.length:Int)):=fun g=>by rw[mo (rv g.h),List.length_map]
 have hvl:=hc.len
 rw[aP] at hvl
 have hl8:=hr.l2
 rw[g7]
 refine mA iW (xs:=[.agg [.int .i64 y.1.grain,b,fl,S_],w',.int .u64 (s:Int)]) (by simp only[aC,e0,e2,gK]) (by simp[ct]) hd ?_
 rw[hgr]
 simp only[sz,simprocAttr,ct,dB,lv]
 simp only[c_,cY]
 refine aZ (m:=n.nodes.length) (by omega) (fun k t df g=>df=[]/\St t [(2,.int .u64 (s:Int)),(3,.hptr 0 0 0 0),(10,w'),(7,.int .i64 (S.aI n vals s k))]/\g.h.get 0=.cells 4 [[.int .i64 n.grain,b,fl,S_]] 0 false false) ⟨rfl,by simp[St,sx,S.aI,S.aZ,S.ac,S.af],by simp[sx]⟩ (by simp[sx]) (by simp[sx,hvl]) (by decide)
  (by rintro j t df g v s' (rfl | rfl | rfl) ⟨a1,⟨b1,b2,b3,b4,-⟩,c1⟩<;>exact ⟨a1,by simp[St,sx,b1,b2,b3,b4],c1⟩) ?_ ?_
 ·rintro k t df g hk ⟨rfl,⟨h2,h3,h10,h7,-⟩,g0⟩ h12 h11
  obtain ⟨x,hx,-,-⟩:=aI hk
  obtain ⟨row,q1,q2⟩:=r3 k x hx
  obtain ⟨fa,fb,rfl,-⟩:=eG.1 q2
  have hlt:k<rows.length:=by omega
  have hry:=r4 (by omega)
  have u1:k<(vals.map ci).length:=by simp;omega
  have u2:(vals.map ci)[k]?=some (ci (vals[k]?.getD 0)):=by rw[List.getElem?_map,List.getElem?_eq_getElem (by omega)];rfl
  have h2n:s / 2 ^ k<18446744073709551616:=Nat.lt_of_le_of_lt (Nat.div_le_self _ _) hs
  have ha:cd .and (.int .u64 ((s / 2 ^ k:Nat):Int)) (.int .u64 1)=.val (.int .u64 ((s / 2 ^ k &&& 1:Nat):Int)):=l_ (s / 2 ^ k) 1 h2n (by decide)
  have hn:=zS (n:=n) (vals:=vals) (s:=s) (j:=k)
  have hcx:(S.aa n)[k]?.getD 0=x.card:=by simp[S.aa,hx]
  rw[hcx] at hn
  have hb0:=qu hr hc (s:=s) (j:=k) (by omega)
  have hb1:=qu hr hc (s:=s) (j:=k+1) (by omega)
  have hcard:=hr.card x (List.mem_of_getElem? hx)
  simp only[sz,simprocAttr,h2,h10,h12,rv,u1,u2,ci,od _ _ _ hs,ha,FZ]
  cases hbt:s.testBit k with
  | true =>
   rw[hbt,if_pos rfl] at hn
   have hp:0<=S.aI n vals s k*x.card/\S.aI n vals s k*x.card<=65536*4:=⟨Int.mul_nonneg hb0.1 (by omega),Int.mul_le_mul (by omega) hcard.2 (by omega) (by omega)⟩
   have w1:IntKind.wrap .i64 (S.aI n vals s k*x.card)=S.aI n vals s k*x.card:=aT (by omega) (by omega)
   have w2:IntKind.wrap .i64 (S.aI n vals s k*x.card+vals[k]?.getD 0)=S.aI n vals s (k+1):=by rw[<-hn,aT (by omega) (by omega)]
   simp only[sz,simprocAttr,h3,h7,g0,r1,hlt,q1,hry,w1,w2]
   exact ⟨by simp[St,sx,h2,h3,h10],h12,h11⟩
  | false =>
   rw[hbt,if_neg (by simp)] at hn
   simp only[sx,sy,↓reduceIte,Nat.reduceEqDiff]
   exact ⟨⟨by simp[St,sx,h2,h3,h10,h7,hn],g0⟩,h12,h11⟩
 ·rintro t df g ⟨rfl,⟨h2,h3,h10,h7,-⟩,g0⟩
  simp only[sz,simprocAttr,dl,h7]
def S.aU (n:Net)(s:Nat)(w:Nat):Int:=S.aI n (S.ak (S.aa n) (w:Int)) s n.nodes.length
def S.aT (n:Net)(s:Nat)(K:Int)(j:Nat):Int:=S.ah n (fun u=>decide (S.aU n s u=K)) j
def S.bp (n:Net)(s w:Nat):Int:=S.aT n s (S.aU n s w) (S.am n)
theorem vF {n:Net}(h:NR n)(s w:Nat):0<=S.bp n s w/\S.bp n s w<=171992678400000000:=mw h h.wl.2.1
def S.aB (x:Nat):Nat:=x % 18446744073709551616
def S.aR (x y:Nat):Nat×Nat :=
 let x0:=x % 4294967296
 let x1:=x / 4294967296
 let y0:=y % 4294967296
 let y1:=y / 4294967296
 let w0:=S.aB (x0*y0)
 let t:=S.aB (S.aB (x1*y0)+w0 / 4294967296)
 let w1:=S.aB (t % 4294967296+S.aB (x0*y1))
 let w2:=t / 4294967296
 (S.aB (S.aB (S.aB (x1*y1)+w2)+w1 / 4294967296),S.aB (x*y))
theorem qS (x:Nat):S.aB x<18446744073709551616:=Nat.mod_lt _ (by decide)
theorem q7 (a b:Nat):cd .mul (.int .u64 (a:Int)) (.int .u64 (b:Int))=.val (.int .u64 (S.aB (a*b):Int)):=by
 rw[tR]
 congr 2
theorem ua (a b:Nat):cd .add (.int .u64 (a:Int)) (.int .u64 (b:Int))=.val (.int .u64 (S.aB (a+b):Int)):=by
 rw[tT]
 congr 2
theorem qX (m:Nat)(h:m<18446744073709551616):cd .and (.int .u64 (m:Int)) (.int .u64 4294967295)=.val (.int .u64 ((m % 4294967296:Nat):Int)):=by
 have:=l_ m 4294967295 h (by decide)
 have e:m &&& 4294967295=m % 4294967296:=Nat.and_two_pow_sub_one_eq_mod m 32
 rw[e] at this
 exact this
theorem qH (m:Nat)(h:m<18446744073709551616):cd .shr (.int .u64 (m:Int)) (.int .u64 32)=.val (.int .u64 ((m / 4294967296:Nat):Int)):=od .u64 m 32 h
theorem sR {d:Nat}{g:G}{x y:Nat}(hd:0<d)(hx:x<18446744073709551616)(hy:y<18446744073709551616) :
  aw C0 d N.aq [.int .u64 (x:Int),.int .u64 (y:Int)] g=.val (.tup [.int .u64 ((S.aR x y).1:Int),.int .u64 ((S.aR x y).2:Int)]):=by
 have key:∃r,aw C0 d N.aq [.int .u64 (x:Int),.int .u64 (y:Int)] g=.val r/\nC (One (S.aR x y).1) (One (S.aR x y).2) NoP 0 .nil r:=by
  rw[mD]
  refine bN nK (xs:=[.int .u64 (x:Int),.int .u64 (y:Int)]) rfl (by simp[fy]) (cz (m:=1) (bc _) (bc _) (by decide) (by decide)) (by decide) hd ?_
  have nx:=qX x hx
  have ny:=qX y hy
  have sx':=qH x hx
  have sy':=qH y hy
  have m5:=q7 x y
  unfold S.aR
  simp only
  generalize x % 4294967296=x0 at *
  generalize x / 4294967296=x1 at *
  generalize y % 4294967296=y0 at *
  generalize y / 4294967296=y1 at *
  have m1:=q7 x0 y0
  have m2:=q7 x1 y0
  have m3:=q7 x0 y1
  have m4:=q7 x1 y1
  have s1:=qH (S.aB (x0*y0)) (qS _)
  have a1:=ua (S.aB (x1*y0)) (S.aB (x0*y0) / 4294967296)
  generalize S.aB (x0*y0) / 4294967296=w0 at *
  have ht:=qS (S.aB (x1*y0)+w0)
  generalize S.aB (S.aB (x1*y0)+w0)=tt at *
  have n1:=qX tt ht
  have s2:=qH tt ht
  have a2:=ua (tt % 4294967296) (S.aB (x0*y1))
  have a3:=ua (S.aB (x1*y1)) (tt / 4294967296)
  have hw:=qS (tt % 4294967296+S.aB (x0*y1))
  generalize S.aB (tt % 4294967296+S.aB (x0*y1))=w1 at *
  have s3:=qH w1 hw
  have a4:=ua (S.aB (S.aB (x1*y1)+tt / 4294967296)) (w1 / 4294967296)
  simp only[fy,sx,SO.run,↓reduceIte,Nat.reduceEqDiff,nx,ny,sx',sy',m1,m2,m3,m4,m5,s1,s2,s3,n1,a1,a2,a3,a4,jF]
  exact ⟨NoP,_,_,rfl,m9.2 ⟨rfl,qS _⟩,m9.2 ⟨rfl,qS _⟩⟩
 obtain ⟨r,hr,a,c,rfl,ha,hc⟩:=key
 have ha:=m9.1 ha
 have hc:=m9.1 hc
 rw[hr]
 rw[List.cons.inj ha.1 |>.1,List.cons.inj hc.1 |>.1]
def S.ay (xs ys zs:Nat):List Nat:=[xs ||| ys ||| zs,zs,xs ||| zs,ys ||| zs]
def S.ax (n:Net)(xs ys zs k w:Nat):Nat:=(S.bp n ((S.ay xs ys zs)[k]?.getD 0) w).toNat
def S.be (n:Net)(xs ys zs w:Nat):Bool:=!decide (S.aR (S.ax n xs ys zs 0 w) (S.ax n xs ys zs 1 w)=S.aR (S.ax n xs ys zs 2 w) (S.ax n xs ys zs 3 w))
def S.ba (n:Net)(xs ys zs:Nat):Bool:=(List.range (S.am n)).any (S.be n xs ys zs)
theorem yF {xs ys zs:Nat}(hx:xs<18446744073709551616)(hy:ys<18446744073709551616)(hz:zs<18446744073709551616):∀s∈S.ay xs ys zs,s<18446744073709551616:=by
 have o:=fun {a b:Nat} (ha:a<2 ^ 64) (hb:b<2 ^ 64)=>Nat.or_lt_two_pow ha hb
 intro s hs
 simp only[S.ay,List.mem_cons,List.not_mem_nil,or_false] at hs
 rcases hs with rfl | rfl | rfl | rfl
 ·exact o (o hx hy) hz
 ·exact hz
 ·exact o hx hz
 ·exact o hy hz
theorem qJ {k:Nat}{l:List Int}{v:AV}{h:H}(hl:SlR NoP k .nil l v):Rp.rp (fun _=>True) k h l [v]:=by
 obtain ⟨w,hw,q⟩:=Rp.tree (P:=fun _=>True) (k':=k) (h':=h) (show Rp.rp NoP k .nil l [v] from ⟨v,rfl,hl⟩) (Nat.le_refl _)
 exact ⟨w,hw,q⟩
theorem FK {k:Nat}{a b:List Int}{va vb:AV}{q:Nat}{h:H}(ha:SlR NoP k .nil a va)(hb:SlR NoP k .nil b vb)(hq:h.get q=.cells 1 [[va],[vb]] 0 false false):SlR (fun _=>True) k h [a,b] (.hsl q 0 0 2 none):=by
 refine ⟨by show 2<_;decide,trivial,[[va],[vb]],?_,qJ ha,qJ hb,trivial⟩
 show au h 1 _=_
 simp only[au,hq];rfl
theorem E9 {a:List Int}{va:AV}{q k:Nat}{h:H}(ha:SlR NoP k .nil a va)(hq:h.get q=.cells 1 [[va]] 0 false false):SlR (fun _=>True) k h [a] (.hsl q 0 0 1 none):=by
 refine ⟨by show 1<_;decide,trivial,[[va]],?_,qJ ha,trivial⟩
 show au h 1 _=_
 simp only[au,hq];rfl
theorem hU {n:Net}{ls:List (List Int)}{P:Nat->Prop}{k:Nat}{h:H}{v:AV}(hv:Dq n ls P k h v) :
  ∃y cs,v=.tup [.agg cs,.int .i64 (S.aF n ls)]/\(S.aF n ls=0->QnOk n y)/\Rp.rp P k h y cs/\∃a1 a2 a3 a4,cs=[a1,a2,a3,a4]:=by
 obtain ⟨y,hy,a,c,rfl,⟨cs,rfl,hc⟩,hi⟩:=hv
 have hi:=ax.1 hi
 injection hi with hi
 subst hi
 obtain ⟨a2,a3,a4,rfl,-⟩:=mK.1 hc
 exact ⟨y,_,rfl,hy,hc,_,_,_,_,rfl⟩
theorem lp (n:Net)(e:List Int):S.aF n [e]=S.au n e:=by
 rw[S.aF,S.au];simp
theorem iA {n:Net}{e:List Int}:S.au n e=0↔S.aE n=true/\S.aC n e=true:=by
 rw[S.au]
 cases S.aE n<;>cases S.aC n e<;>simp
def S.br (n:Net)(e:List Int):Int:=if S.au n e=0 then S.aD n e else 0
theorem BF {d k0:Nat}{P:Nat->Prop}{g:G}{v w0:AV}{n:Net}{e:List Int}(hd:0<d)(hm:Agg n NoP 0 g.h v)(he:SlR P k0 g.h e w0)(hk:k0<=d:=by omega) :
  aw C0 d N.ae [v,w0] g=.val (.tup [.int .i64 (S.br n e),.int .i64 (S.au n e)]):=by
 have key:∃r,aw C0 d N.ae [v,w0] g=.val r/\nC (One (S.br n e)) (One (S.au n e)) NoP 0 .nil r:=by
  obtain ⟨b,rows,rfl,e1,hm',hN,r1,r2,r3,r4⟩:=dL d hm
  obtain ⟨w,ew,hw⟩:=fH he d
  rw[Nat.max_eq_right hk] at hw
  have hw:=hw .nil
  rw[kh]
  refine bN su (xs:=[.agg [.int .i64 n.grain,b],w]) (by simp only[aC,e1,ew]) (by simp[jE]) (cz (m:=1) (bc _) (bc _) (by decide) (by decide)) (by decide) hd ?_
  simp only[sz,simprocAttr,jE,l9,hw.cell.1,hw.cell.2]
  refine pc (rQ (n:=n) (ls:=[e]) (Nat.succ_pos d) (hm' _) (E9 hw (by simp[sx]))) fun z hz=>?_
  obtain ⟨y,cs,rfl,hy,hc,a1,a2,a3,a4,rfl⟩:=hU hz
  rw[lp] at hy ⊢
  by_cases h0:S.au n e=0
  ·have hyo:=hy h0
   obtain ⟨h1,h2⟩:=iA.1 h0
   have hr:=b_.1 h1
   have hj:S.br n e=S.aD n e:=by rw[S.br,if_pos h0]
   simp only[sz,simprocAttr,h0]
   rw[ux (y:=y) (n:=n) (e:=e) (Nat.succ_pos d) hr ⟨_,rfl,Rp.tree hc (Nat.le_refl _)⟩ hyo (hw.tree (Nat.le_refl _)) h2]
   simp only[sz,simprocAttr]
   rw[hj]
   exact ⟨fun _=>True,_,_,rfl,ax.2 rfl,ax.2 rfl⟩
  ·have hj:S.br n e=0:=by rw[S.br,if_neg h0]
   simp only[sz,simprocAttr,h0]
   rw[hj]
   exact ⟨fun _=>True,_,_,rfl,ax.2 rfl,ax.2 rfl⟩
 obtain ⟨r,hr,a,c,rfl,ha,hc⟩:=key
 have ha:=ax.1 ha
 have hc:=ax.1 hc
 injection ha with ha
 injection hc with hc
 rw[hr,ha,hc]
def S.bj (n:Net)(e:List Int):QI:=if S.au n e=0 then S.aP (S.aD n e).toNat (S.bi n).toNat else (0,0)
theorem yi {n:Net}(hr:NR n):1<=S.bi n/\S.bi n<=167961600000000:=by
 have h1:=oH hr n.nodes.length hr.l2
 have h2:1<=S.bi n:=fL fun c hc=>by have:=(List.mem_replicate.1 hc).2;have:=hr.g1;omega
 exact ⟨h2,h1.2⟩
theorem BA {d k0:Nat}{P:Nat->Prop}{g:G}{v w0:AV}{n:Net}{e:List Int}(hd:0<d)(hm:Agg n NoP 0 g.h v)(he:SlR P k0 g.h e w0)(hk:k0<=d:=by omega) :
  aw C0 d N.ap [v,w0] g=.val (.tup [.agg [.int .i64 (S.bj n e).1,.int .i64 (S.bj n e).2],.int .i64 (S.au n e)]):=by
 have key:∃r,aw C0 d N.ap [v,w0] g=.val r/\nC (Agg (S.bj n e)) (One (S.au n e)) NoP 0 .nil r:=by
  obtain ⟨b,rows,rfl,e1,hm',hN,r1,r2,r3,r4⟩:=dL d hm
  obtain ⟨w,ew,hw⟩:=fH he d
  rw[Nat.max_eq_right hk] at hw
  have hw:=hw .nil
  rw[jZ]
  refine bN sB (xs:=[.agg [.int .i64 n.grain,b],w]) (by simp only[aC,e1,ew]) (by simp[jU]) (cz (m:=2) (fS _) (bc _) (by decide) (by decide)) (by decide) hd ?_
  simp only[sz,simprocAttr,jU,lO,hw.cell.1,hw.cell.2]
  refine pc (rQ (n:=n) (ls:=[e]) (Nat.succ_pos d) (hm' _) (E9 hw (by simp[sx]))) fun z hz=>?_
  obtain ⟨y,cs,rfl,hy,hc,a1,a2,a3,a4,rfl⟩:=hU hz
  rw[lp] at hy ⊢
  by_cases h0:S.au n e=0
  ·have hyo:=hy h0
   obtain ⟨h1,h2⟩:=iA.1 h0
   have hr:=b_.1 h1
   have hj:S.bj n e=S.aP (S.aD n e).toNat (S.bi n).toNat:=by rw[S.bj,if_pos h0]
   simp only[sz,simprocAttr,h0]
   rw[BZ (n:=n) (Nat.succ_pos d) (hm' _) hr]
   simp only[sz,simprocAttr]
   rw[ux (y:=y) (n:=n) (e:=e) (Nat.succ_pos d) hr ⟨_,rfl,Rp.tree hc (Nat.le_refl _)⟩ hyo (hw.tree (Nat.le_refl _)) h2]
   simp only[sz,simprocAttr]
   have hb1:=lV hr e
   have hb2:=yi hr
   obtain ⟨a,ha⟩:=Int.eq_ofNat_of_zero_le hb1.1
   obtain ⟨c,hc'⟩:=Int.eq_ofNat_of_zero_le (show 0<=S.bi n by omega)
   rw[ha,hc'] at hj ⊢
   rw[rn (Nat.succ_pos d) (by omega) (by omega) (by omega)]
   simp only[sz,simprocAttr]
   rw[hj]
   exact ⟨fun _=>True,_,_,rfl,fZ.2 rfl,ax.2 rfl⟩
  ·have hj:S.bj n e=(0,0):=by rw[S.bj,if_neg h0]
   have hbd:na [.int .i64 0,.int .i64 0] [] []=.val (.agg [.int .i64 0,.int .i64 0]):=rfl
   simp only[sz,simprocAttr,h0]
   rw[hj]
   exact ⟨fun _=>True,_,_,rfl,fZ.2 rfl,ax.2 rfl⟩
 obtain ⟨r,hr,a,c,rfl,ha,hc⟩:=key
 have hc:=ax.1 hc
 injection hc with hc
 rw[hr,fZ.1 ha,hc]
def S.pb (n:Net)(e f:List Int)(w:Nat):Bool:=S.bk (S.ak (S.aa n) (w:Int)) e&&S.bk (S.ak (S.aa n) (w:Int)) f
def S.bF (n:Net)(e f:List Int):Int:=S.ah n (S.pb n e f) (S.am n)
def S.a_ (n:Net)(e f:List Int):Int:=if S.aF n [e,f]=0 then (if S.aD n e=0 then 7 else 0) else S.aF n [e,f]
def S.a8 (n:Net)(e f:List Int):QI:=if S.a_ n e f=0 then S.aP (S.bF n e f).toNat (S.aD n e).toNat else (0,0)
theorem py {n:Net}{e f:List Int}:S.aF n [e,f]=0↔S.aE n=true/\S.aC n e=true/\S.aC n f=true:=by
 rw[S.aF]
 cases S.aE n<;>cases h1:S.aC n e<;>cases h2:S.aC n f<;>simp[h1,h2]
theorem Ft {a b:AV}(ha:a.cells=[a]/\a.isTup=false)(hb:b.cells=[b]/\b.isTup=false)(g:G):Am 1 2 [.nils] [0,1] [a,b] g=.upd (.hsl g.nx 0 0 2 none) (g.new (.cells 1 [[a],[b]] 0 false false)):=by
 simp[Am,cX,ha,hb]
 rfl
theorem CB {A:PT}{t:T}{df:List ADf}{g:G}(p:T->G->Prop)(hp:p t g)(h:∀t1 g1,p t1 g1->A t1 df g1):A t df g:=h t g hp
structure GvJ (g0:G) (q:Nat) (s:Int) (h:H):Prop where
 fr:∀i,i<g0.nx->i≠q->h.get i=g0.h.get i
 hq:h.get q=.cells 1 [[.int .i64 s]] 0 false false
theorem z7 {d ka kb:Nat}{Pa Pb:Nat->Prop}{g:G}{v w0 z0:AV}{n:Net}{e f:List Int}(hd:0<d)(hm:Agg n NoP 0 g.h v)(he:SlR Pa ka g.h e w0)(hf:SlR Pb kb g.h f z0)(hka:ka<=d:=by omega)(hkb:kb<=d:=by omega) :
  aw C0 d N.an [v,w0,z0] g=.val (.tup [.agg [.int .i64 (S.a8 n e f).1,.int .i64 (S.a8 n e f).2],.int .i64 (S.a_ n e f)]):=by
 have key:∃r,aw C0 d N.an [v,w0,z0] g=.val r/\nC (Agg (S.a8 n e f)) (One (S.a_ n e f)) NoP 0 .nil r:=by
  obtain ⟨b,rows,rfl,e1,hm',hN,r1,r2,r3,r4⟩:=dL d hm
  obtain ⟨w,ew,hw⟩:=fH he d
  rw[Nat.max_eq_right hka] at hw
  have hw:=hw .nil
  obtain ⟨z,ez,hz⟩:=fH hf d
  rw[Nat.max_eq_right hkb] at hz
  have hz:=hz .nil
  have hbd:na [.int .i64 0,.int .i64 0] [] []=.val (.agg [.int .i64 0,.int .i64 0]):=rfl
  rw[js]
  refine bN rC (xs:=[.agg [.int .i64 n.grain,b],w,z]) (by simp only[aC,e1,ew,ez]) (by simp[iG]) (cz (m:=2) (fS _) (bc _) (by decide) (by decide)) (by decide) hd ?_
  simp only[sz,simprocAttr,iG,C3 hz]
  obtain ⟨g0,hg0⟩:∃g0,g0=((G.empty.new (.cells 2 [[.int .i64 n.grain,b]] 0 false false)).new (.cells 1 [[z]] 0 false false)).new (.cells 2 [[.int .i64 0,.int .i64 0]] 0 false false):=⟨_,rfl⟩
  rw[<-hg0]
  have f0:g0.h.get 0=.cells 2 [[.int .i64 n.grain,b]] 0 false false:=by rw[hg0];simp[sx,H.get_put]
  have f1:g0.h.get 1=.cells 1 [[z]] 0 false false:=by rw[hg0];simp[sx,H.get_put]
  have f2:g0.h.get 2=.cells 2 [[.int .i64 0,.int .i64 0]] 0 false false:=by rw[hg0];simp[sx]
  have f3:g0.nx=3:=by rw[hg0];simp[sx]
  clear hg0
  unfold j8
  simp only[sz,simprocAttr,f0,f1,Ft hw.cell hz.cell]
  refine pc (rQ (n:=n) (ls:=[e,f]) (Nat.succ_pos d) (hm' _) (FK hw hz (by simp[H.get_put]))) fun v hv=>?_
  obtain ⟨y,cs,rfl,hy,hc,a1,a2,a3,a4,rfl⟩:=hU hv
  by_cases h0:S.aF n [e,f]=0
  ·have hyo:=hy h0
   obtain ⟨h1,h2,h3⟩:=py.1 h0
   have hr:=b_.1 h1
   obtain ⟨el,ege⟩:=oI h2
   obtain ⟨fl,fge⟩:=oI h3
   obtain ⟨W1,W2,W3⟩:=hr.wl
   simp only[sz,simprocAttr,f3,h0]
   rw[ux (y:=y) (n:=n) (e:=e) (Nat.succ_pos d) hr ⟨_,rfl,Rp.tree hc (Nat.le_refl _)⟩ hyo (hw.tree (Nat.le_refl _)) h2]
   by_cases hm0:S.aD n e=0
   ·have hE:S.a_ n e f=7:=by rw[S.a_,if_pos h0,if_pos hm0]
    have hj:S.a8 n e f=(0,0):=by rw[S.a8,hE];rfl
    simp only[sz,simprocAttr,f3,hm0,f2]
    rw[hj,hE]
    exact ⟨fun _=>True,_,_,rfl,fZ.2 rfl,ax.2 rfl⟩
   ·have hE:S.a_ n e f=0:=by rw[S.a_,if_pos h0,if_neg hm0]
    have hj:S.a8 n e f=S.aP (S.bF n e f).toNat (S.aD n e).toNat:=by rw[S.a8,hE];rfl
    simp only[sz,simprocAttr,f3,hm0]
    refine pc (Q:=fun r=>∃cs z t1 t2,r=.clo N.aa [] [.tptr t1 4 [cs] 0 0,.tptr t2 1 [[z]] 0 0]/\Rp.rp NoP d .nil y cs/\SlR NoP d .nil e z) ?_ ?_
    ·obtain ⟨cs',z',t1,t2,ez,h1,h2⟩:=fY (d:=d+1) (y:=y) (e:=e) (v:=.agg [a1,a2,a3,a4]) (w:=w) (Nat.succ_pos d) ⟨_,rfl,Rp.tree hc (Nat.le_refl _)⟩ (hw.tree (Nat.le_refl _))
     exact ⟨_,ez,cs',z',t1,t2,rfl,h1,h2⟩
    rintro _ ⟨cs',z',t1,t2,rfl,hcs',hz'⟩
    simp only[sx]
    refine CB (fun t g=>g.nx=6/\g.h.get 1=.cells 1 [[z]] 0 false false/\g.h.get 2=.cells 2 [[.int .i64 0,.int .i64 0]] 0 false false/\g.h.get 5=.cells 1 [[.int .i64 0]] 0 false false/\St t [(5,.hptr 1 0 0 0),(6,.hptr 2 0 0 0),(10,.int .i64 (S.aD n e)),(11,.hptr 5 0 0 0),(33,.clo N.aa [] [.tptr t1 4 [cs'] 0 0,.tptr t2 1 [[z']] 0 0])]) ?_ ?_
    ·refine ⟨by simp[f3],by simp[H.get_put,f3,f1],by simp[H.get_put,f3,f2],by simp[H.get_put],by simp[St,sx]⟩
    rintro t g1 ⟨n1,k1,k2,k5,h5,h6,h10,h11,h33,-⟩
    refine jq (t1:=t1) (t2:=t2) (n:=n) (y:=y) (e:=e) (cs:=cs') (w:=z') (Nat.succ_pos d) hr hyo hcs' hz' (by omega) h33 (by decide)
     (fun j h=>GvJ g1 5 (S.ah n (S.pb n e f) j) h) (fun _=>False) (fun j h h' hh hg=>⟨fun i h1 h2=>by rw[hh i h1,hg.fr i h1 h2],by rw[hh 5 (by omega),hg.hq]⟩) (fun _ _ _ h=>h) ⟨fun _ _ _=>rfl,k5⟩ ?_ ?_ ?_ (fun _ h=>h.elim)
    ·intro j h hj hmt hg
     have hp:S.pb n e f j=false:=by rw[S.pb,<-ql ege,hmt];rfl
     refine ⟨hg.fr,?_⟩
     rw[hg.hq,S.ah,hp];simp
    ·intro j u g2 hj hmt hg hn hu
     have hb:=mw hr (p:=S.pb n e f) (j:=j+1) (by omega)
     have hvl:(S.ak (S.aa n) (j:Int)).length=n.nodes.length:=by simp[S.ak,aP]
     simp only[sz,simprocAttr,jc]
     refine ⟨wK _ _ _,?_⟩
     intro g3 n3 f3'
     have j12:g3.h.get g2.nx=.cells 3 [[.int .i64 (j:Int),.int .i64 (S.aK n (S.ak (S.aa n) (j:Int))),u]] 0 false false:=by rw[f3' _ (by omega),if_pos rfl]
     have jo:∀i,i<6->g3.h.get i=g2.h.get i:=fun i hi=>by rw[f3' i (by omega),if_neg (by omega),if_neg (by omega)]
     have j1:g3.h.get 1=.cells 1 [[z]] 0 false false:=by rw[jo 1 (by omega),hg.fr 1 (by omega) (by omega),k1]
     have j5:g3.h.get 5=.cells 1 [[.int .i64 (S.ah n (S.pb n e f) j)]] 0 false false:=by rw[jo 5 (by omega),hg.hq]
     have hu3:SlR (fun _=>True) 0 g3.h (S.ak (S.aa n) (j:Int)) u:=hu.wd fun i hi=>⟨trivial,by rw[f3' i (by omega),if_neg (by omega),if_neg (by omega)]⟩
     have hmt3:=rB (d:=d+1) (g:=g3) (v:=u) (w:=z) (vals:=S.ak (S.aa n) (j:Int)) (e:=f) (Nat.succ_pos d) hu3 (hz.tree (h':=g3.h) (Nat.le_refl _)) (by omega)
     rw[ql fge] at hmt3
     cases hmf:S.bk (S.ak (S.aa n) (j:Int)) f with
     | true =>
      rw[hmf] at hmt3
      have hp:S.pb n e f j=true:=by rw[S.pb,<-ql ege,hmt,hmf];rfl
      have hs:S.ah n (S.pb n e f) (j+1)=S.ah n (S.pb n e f) j+S.aK n (S.ak (S.aa n) (j:Int)):=by rw[S.ah,hp];simp
      have w1:IntKind.wrap .i64 (S.ah n (S.pb n e f) j+S.aK n (S.ak (S.aa n) (j:Int)))=S.ah n (S.pb n e f) (j+1):=by rw[<-hs,aT (by omega) (by omega)]
      simp only[sz,simprocAttr,fN,h5,h11,j12,j1,j5,hmt3,w1]
      exact ⟨by simp,fun i h1 h2=>by simp[H.get_put,show ¬i=5 by omega],.inl ⟨rfl,fun i h1 h2=>by simp[H.get_put,h2];rw[jo i (by omega),hg.fr i h1 h2],by simp[H.get_put]⟩⟩
     | false =>
      rw[hmf] at hmt3
      have hp:S.pb n e f j=false:=by rw[S.pb,hmf,Bool.and_false]
      have hs:S.ah n (S.pb n e f) (j+1)=S.ah n (S.pb n e f) j:=by rw[S.ah,hp];simp
      simp only[sz,simprocAttr,fN,h5,j12,j1,hmt3]
      exact ⟨Nat.le_refl _,fun i h1 h2=>rfl,.inl ⟨rfl,fun i h1 h2=>by rw[jo i (by omega),hg.fr i h1 h2],by rw[hs];exact j5⟩⟩
    ·intro g' hg hn hdf
     have hb:=mw hr (p:=S.pb n e f) (j:=S.am n) (by omega)
     have hb1:=lV hr e
     obtain ⟨a,ha⟩:=Int.eq_ofNat_of_zero_le hb.1
     obtain ⟨c,hc'⟩:=Int.eq_ofNat_of_zero_le hb1.1
     have hq5:=hg.hq
     have q2:g'.h.get 2=.cells 2 [[.int .i64 0,.int .i64 0]] 0 false false:=by rw[hg.fr 2 (by omega) (by omega),k2]
     have hbo:S.bF n e f=(a:Int):=ha
     rw[ha] at hq5
     rw[hc'] at h10 hm0
     have hmk:=rn (d:=d+1) (g:=g') (n:=a) (m:=c) (Nat.succ_pos d) (by omega) (by omega) (by omega)
     simp only[sz,simprocAttr,jf,h11,h10,h6,hq5,hmk,q2]
     refine fB (by simp[H.get_put,show ¬g1.nx=2 by omega,hdf]) ?_
     simp only[sx,sy,↓reduceIte,Nat.reduceEqDiff,h6]
     rw[if_neg (by omega)]
     simp only[sx,sy,↓reduceIte,Nat.reduceAdd,Nat.reduceLeDiff]
     rw[hj,hE,hbo,hc']
     exact ⟨fun _=>True,_,_,rfl,fZ.2 rfl,ax.2 rfl⟩
  ·have hE:S.a_ n e f=S.aF n [e,f]:=by rw[S.a_,if_neg h0]
   have hj:S.a8 n e f=(0,0):=by rw[S.a8,hE,if_neg h0]
   simp only[sz,simprocAttr,f3,h0,f2]
   rw[hj,hE]
   exact ⟨fun _=>True,_,_,rfl,fZ.2 rfl,ax.2 rfl⟩
 obtain ⟨r,hr,a,c,rfl,ha,hc⟩:=key
 have hc:=ax.1 hc
 injection hc with hc
 rw[hr,fZ.1 ha,hc]
def S.wt (n:Net)(w:Nat):Int:=S.aK n (S.ak (S.aa n) (w:Int))
def S.aq (n:Net)(e:List Int)(w0:Int):Nat->Int×Int
 | 0=>(w0,0)
 | j+1=>if S.pe n e j=true/\(S.aq n e w0 j).2<S.wt n j then ((j:Int),S.wt n j) else S.aq n e w0 j
theorem Da {n:Net}(h:NR n)(w:Nat):0<=S.wt n w/\S.wt n w<=167961600000000:=mJ h (jC (fun c hc=>(h.cs c hc).1) (w:Int))
theorem tP {n:Net}(h:NR n)(e:List Int)(w0:Int):∀j,0<=(S.aq n e w0 j).2/\(S.aq n e w0 j).2<=167961600000000/\((S.aq n e w0 j).1=w0\/0<=(S.aq n e w0 j).1/\(S.aq n e w0 j).1<j)
 | 0=>⟨by simp[S.aq],by simp[S.aq],.inl rfl⟩
 | j+1=>by
  have ih:=tP h e w0 j
  have hw:=Da h j
  rw[S.aq]
  split
  ·exact ⟨hw.1,hw.2,.inr ⟨by omega,by show (j:Int)<_;omega⟩⟩
  ·exact ⟨ih.1,ih.2.1,by omega⟩
def S.aW (n:Net)(e:List Int):Int:=if S.au n e=0 then (if S.aD n e=0 then 7 else 0) else S.au n e
def S.bg (n:Net)(e:List Int):Int:=if S.aW n e=0 then (S.aq n e 0 (S.am n)).1 else 0
def S.a9 (n:Net)(e:List Int):QI:=if S.aW n e=0 then S.aP (S.aq n e 0 (S.am n)).2.toNat (S.aD n e).toNat else (0,0)
structure BeJ (g0:G) (w m b:Int) (h:H):Prop where
 fr:∀i,i<g0.nx->i≠1->i≠5->i≠6->h.get i=g0.h.get i
 h1:h.get 1=.cells 1 [[.int .i64 w]] 0 false false
 h5:h.get 5=.cells 1 [[.int .i64 m]] 0 false false
 h6:h.get 6=.cells 1 [[.int .i64 b]] 0 false false
theorem vA {d ka:Nat}{Pa:Nat->Prop}{g:G}{v w0:AV}{n:Net}{e:List Int}(hd:0<d)(hm:Agg n NoP 0 g.h v)(he:SlR Pa ka g.h e w0)(hka:ka<=d:=by omega) :
  aw C0 d N.af [v,w0] g=.val (.tup [.int .i64 (S.bg n e),.agg [.int .i64 (S.a9 n e).1,.int .i64 (S.a9 n e).2],.int .i64 (S.aW n e)]):=by
 have key:∃r,aw C0 d N.af [v,w0] g=.val r/\FE (One (S.bg n e)) (Agg (S.a9 n e)) (One (S.aW n e)) NoP 0 .nil r:=by
  obtain ⟨b,rows,rfl,e1,hm',hN,r1,r2,r3,r4⟩:=dL d hm
  obtain ⟨w,ew,hw⟩:=fH he d
  rw[Nat.max_eq_right hka] at hw
  have hw:=hw .nil
  have hbd:na [.int .i64 0,.int .i64 0] [] []=.val (.agg [.int .i64 0,.int .i64 0]):=rfl
  rw[gy]
  refine bN sA (xs:=[.agg [.int .i64 n.grain,b],w]) (by simp only[aC,e1,ew]) (by simp[jX]) (C_ (m:=2) (bc _) (fS _) (bc _) (by decide) (by decide) (by decide)) (by decide) hd ?_
  simp only[sz,simprocAttr,jX]
  obtain ⟨g0,hg0⟩:∃g0,g0=((G.empty.new (.cells 2 [[.int .i64 n.grain,b]] 0 false false)).new (.cells 1 [[.int .i64 0]] 0 false false)).new (.cells 2 [[.int .i64 0,.int .i64 0]] 0 false false):=⟨_,rfl⟩
  rw[<-hg0]
  have f0:g0.h.get 0=.cells 2 [[.int .i64 n.grain,b]] 0 false false:=by rw[hg0];simp[sx,H.get_put]
  have f1:g0.h.get 1=.cells 1 [[.int .i64 0]] 0 false false:=by rw[hg0];simp[sx,H.get_put]
  have f2:g0.h.get 2=.cells 2 [[.int .i64 0,.int .i64 0]] 0 false false:=by rw[hg0];simp[sx]
  have f3:g0.nx=3:=by rw[hg0];simp[sx]
  clear hg0
  unfold li
  simp only[sz,simprocAttr,f0,hw.cell.1,hw.cell.2]
  refine pc (rQ (n:=n) (ls:=[e]) (Nat.succ_pos d) (hm' _) (E9 hw (by simp[H.get_put]))) fun v hv=>?_
  obtain ⟨y,cs,rfl,hy,hc,a1,a2,a3,a4,rfl⟩:=hU hv
  rw[lp] at hy ⊢
  by_cases h0:S.au n e=0
  ·have hyo:=hy h0
   obtain ⟨h1,h2⟩:=iA.1 h0
   have hr:=b_.1 h1
   obtain ⟨el,ege⟩:=oI h2
   obtain ⟨W1,W2,W3⟩:=hr.wl
   simp only[sz,simprocAttr,f3,h0]
   refine pc (Q:=fun r=>∃cs z t1 t2,r=.clo N.aa [] [.tptr t1 4 [cs] 0 0,.tptr t2 1 [[z]] 0 0]/\Rp.rp NoP d .nil y cs/\SlR NoP d .nil e z) ?_ ?_
   ·obtain ⟨cs',z',t1,t2,ez,h1,h2⟩:=fY (d:=d+1) (y:=y) (e:=e) (v:=.agg [a1,a2,a3,a4]) (w:=w) (Nat.succ_pos d) ⟨_,rfl,Rp.tree hc (Nat.le_refl _)⟩ (hw.tree (Nat.le_refl _))
    exact ⟨_,ez,cs',z',t1,t2,rfl,h1,h2⟩
   rintro _ ⟨cs',z',t1,t2,rfl,hcs',hz'⟩
   simp only[sx]
   refine CB (fun t g=>g.nx=7/\g.h.get 1=.cells 1 [[.int .i64 0]] 0 false false/\g.h.get 2=.cells 2 [[.int .i64 0,.int .i64 0]] 0 false false/\g.h.get 5=.cells 1 [[.int .i64 0]] 0 false false/\g.h.get 6=.cells 1 [[.int .i64 0]] 0 false false/\St t [(4,.hptr 1 0 0 0),(5,.hptr 2 0 0 0),(9,.hptr 5 0 0 0),(10,.hptr 6 0 0 0),(25,.clo N.aa [] [.tptr t1 4 [cs'] 0 0,.tptr t2 1 [[z']] 0 0])]) ?_ ?_
   ·refine ⟨by simp[f3],by simp[H.get_put,f3,f1],by simp[H.get_put,f3,f2],by simp[H.get_put,f3],by simp[H.get_put,f3],by simp[St,sx]⟩
   rintro t g1 ⟨n1,k1,k2,k5,k6,h4,h5,h9,h10,h25,-⟩
   refine jq (t1:=t1) (t2:=t2) (n:=n) (y:=y) (e:=e) (cs:=cs') (w:=z') (Nat.succ_pos d) hr hyo hcs' hz' (by omega) h25 (by decide)
    (fun j h=>BeJ g1 (S.aq n e 0 j).1 (S.ah n (S.pe n e) j) (S.aq n e 0 j).2 h) (fun _=>False) (fun j h h' hh hg=>⟨fun i h1 h2 h3 h4=>by rw[hh i h1,hg.fr i h1 h2 h3 h4],by rw[hh 1 (by omega),hg.h1],by rw[hh 5 (by omega),hg.h5],by rw[hh 6 (by omega),hg.h6]⟩) (fun _ _ _ h=>h) ⟨fun _ _ _ _ _=>rfl,k1,k5,k6⟩ ?_ ?_ ?_ (fun _ h=>h.elim)
   ·intro j h hj hmt hg
    have hp:S.pe n e j=false:=by rw[S.pe,<-ql ege,hmt]
    have hs:S.ah n (S.pe n e) (j+1)=S.ah n (S.pe n e) j:=by rw[S.ah,hp];simp
    have hb:S.aq n e 0 (j+1)=S.aq n e 0 j:=by rw[S.aq,if_neg (by rw[hp];simp)]
    rw[hs,hb];exact hg
   ·intro j u g2 hj hmt hg hn hu
    have hp:S.pe n e j=true:=by rw[S.pe,<-ql ege,hmt]
    have hb:=mw hr (p:=S.pe n e) (j:=j+1) (by omega)
    have hs:S.ah n (S.pe n e) (j+1)=S.ah n (S.pe n e) j+S.wt n j:=by rw[S.ah,hp];simp[S.wt]
    have w1:IntKind.wrap .i64 (S.ah n (S.pe n e) j+S.wt n j)=S.ah n (S.pe n e) (j+1):=by rw[<-hs,aT (by omega) (by omega)]
    simp only[sz,simprocAttr,kw]
    refine ⟨wK _ _ _,?_⟩
    intro g3 n3 f3'
    have hnx2:g1.nx+2<=g2.nx:=hn
    have j12:g3.h.get g2.nx=.cells 3 [[.int .i64 (j:Int),.int .i64 (S.wt n j),u]] 0 false false:=by rw[f3' _ (by omega),if_pos rfl];rfl
    have jo:∀i,i<7->g3.h.get i=g2.h.get i:=fun i hi=>by rw[f3' i (by omega),if_neg (by omega),if_neg (by omega)]
    have j1:g3.h.get 1=.cells 1 [[.int .i64 (S.aq n e 0 j).1]] 0 false false:=by rw[jo 1 (by omega),hg.h1]
    have j5:g3.h.get 5=.cells 1 [[.int .i64 (S.ah n (S.pe n e) j)]] 0 false false:=by rw[jo 5 (by omega),hg.h5]
    have j6:g3.h.get 6=.cells 1 [[.int .i64 (S.aq n e 0 j).2]] 0 false false:=by rw[jo 6 (by omega),hg.h6]
    simp only[sz,simprocAttr,kg,h9,h10,j12,j5,j6,w1,show ¬g2.nx=5 by omega,show ¬6=5 by omega]
    refine mz (fun hb=>?_) (fun hb=>?_)
    ·have hb:(S.aq n e 0 j).2<S.wt n j:=by have:=of_decide_eq_true hb;omega
     have hbs:S.aq n e 0 (j+1)=((j:Int),S.wt n j):=by rw[S.aq,if_pos ⟨hp,hb⟩]
     simp only[sz,simprocAttr,sf,h4,h10,j12,j1,j6,show ¬g2.nx=5 by omega,show ¬g2.nx=1 by omega,show ¬6=5 by omega,show ¬1=5 by omega,show ¬6=1 by omega]
     rw[hbs]
     refine ⟨?_,by simp<;>omega,fun i h1 h2=>?_,.inl ⟨rfl,fun i h1 h2 h3 h4=>?_,?_,?_,?_⟩⟩
     ·simp only[List.reverse_cons,List.reverse_nil,List.nil_append,List.cons_append]
      refine bH [false,false,false,false,true,true] [(2,4),(3,4)] (by simp[All2,af,aD]) (by decide) ?_
      rintro p hp' x y hx hy
      simp only[List.mem_cons,List.not_mem_nil,or_false] at hp'
      rcases hp' with rfl | rfl<;>(simp at hx hy;subst hx;subst hy;refine ji rfl rfl rfl rfl ?_ ?_ ?_<;>simp[af,aD,ac]<;>omega)
     ·simp[H.get_put,show ¬i=5 by omega,show ¬i=6 by omega,show ¬i=1 by omega]
     ·simp[H.get_put,h2,h3,h4];rw[jo i (by omega),hg.fr i h1 h2 h3 h4]
     ·simp[H.get_put]
     ·simp[H.get_put]
     ·simp[H.get_put]
    ·have hb:¬(S.aq n e 0 j).2<S.wt n j:=by have:=of_decide_eq_false hb;omega
     have hbs:S.aq n e 0 (j+1)=S.aq n e 0 j:=by rw[S.aq,if_neg fun h=>hb h.2]
     simp only[sx,sy]
     rw[hbs]
     refine ⟨by simp,fun i h1 h2=>by simp[H.get_put,show ¬i=5 by omega],.inl ⟨rfl,fun i h1 h2 h3 h4=>?_,?_,?_,?_⟩⟩
     ·simp[H.get_put,h3];rw[jo i (by omega),hg.fr i h1 h2 h3 h4]
     ·simp[H.get_put,j1]
     ·simp[H.get_put]
     ·simp[H.get_put,j6]
   ·intro g' hg hn hdf
    have hmass:S.ah n (S.pe n e) (S.am n)=S.aD n e:=(vg n e).symm
    have g5:=hg.h5
    have g6:=hg.h6
    have g1':=hg.h1
    rw[hmass] at g5
    have q2:g'.h.get 2=.cells 2 [[.int .i64 0,.int .i64 0]] 0 false false:=by rw[hg.fr 2 (by omega) (by omega) (by omega) (by omega),k2]
    by_cases hm0:S.aD n e=0
    ·have hE:S.aW n e=7:=by rw[S.aW,if_pos h0,if_pos hm0]
     have hW:S.bg n e=0:=by rw[S.bg,hE];rfl
     have hQ:S.a9 n e=(0,0):=by rw[S.a9,hE];rfl
     rw[hm0] at g5
     simp only[sz,simprocAttr,gq,h4,h5,h9,g5,g1',q2,show ¬2=1 by omega]
     refine fB (by simp[H.get_put,show ¬g1.nx=2 by omega,show ¬g1.nx=1 by omega,hdf]) ?_
     simp only[sx,sy,↓reduceIte,Nat.reduceEqDiff,h4,h5,show ¬1=g1.nx by omega,show ¬2=g1.nx by omega,show ¬1=2 by omega,Nat.reduceAdd,Nat.reduceLeDiff]
     rw[hW,hQ,hE]
     exact ⟨fun _=>True,_,_,_,rfl,ax.2 rfl,fZ.2 rfl,ax.2 rfl⟩
    ·have hE:S.aW n e=0:=by rw[S.aW,if_pos h0,if_neg hm0]
     have hW:S.bg n e=(S.aq n e 0 (S.am n)).1:=by rw[S.bg,hE];rfl
     have hQ:S.a9 n e=S.aP (S.aq n e 0 (S.am n)).2.toNat (S.aD n e).toNat:=by rw[S.a9,hE];rfl
     have hb:=tP hr e 0 (S.am n)
     have hb1:=lV hr e
     obtain ⟨a,ha⟩:=Int.eq_ofNat_of_zero_le hb.1
     obtain ⟨c,hc'⟩:=Int.eq_ofNat_of_zero_le hb1.1
     rw[ha] at g6
     rw[hc'] at g5 hm0
     have hmk:=rn (d:=d+1) (g:=g') (n:=a) (m:=c) (Nat.succ_pos d) (by omega) (by omega) (by omega)
     simp only[sz,simprocAttr,gq,sf,h4,h5,h9,h10,g5,g6,g1',hm0,hmk,q2,show ¬2=1 by omega,show ¬1=2 by omega]
     refine ⟨?_,?_⟩
     ·simp only[List.reverse_cons,List.reverse_nil,List.nil_append,List.cons_append]
      refine bH [false,false,false,true,true,false] [(1,3),(2,3),(2,4)] (by simp[All2,af,aD]) (by decide) ?_
      rintro p hp' x y hx hy
      simp only[List.mem_cons,List.not_mem_nil,or_false] at hp'
      rcases hp' with rfl | rfl | rfl<;>(simp at hx hy;subst hx;subst hy;refine ji rfl rfl rfl rfl ?_ ?_ ?_<;>simp[af,aD,ac])
     refine fB (by simp[H.get_put,show ¬g1.nx=2 by omega,show ¬g1.nx=1 by omega,hdf]) ?_
     simp only[sx,sy,↓reduceIte,Nat.reduceEqDiff,h4,h5,show ¬1=g1.nx by omega,show ¬2=g1.nx by omega,show ¬1=2 by omega,Nat.reduceAdd,Nat.reduceLeDiff]
     rw[hW,hQ,hE,ha,hc']
     exact ⟨fun _=>True,_,_,_,rfl,ax.2 rfl,fZ.2 rfl,ax.2 rfl⟩
  ·have hE:S.aW n e=S.au n e:=by rw[S.aW,if_neg h0]
   have hW:S.bg n e=0:=by rw[S.bg,hE,if_neg h0]
   have hQ:S.a9 n e=(0,0):=by rw[S.a9,hE,if_neg h0]
   simp only[sz,simprocAttr,f3,h0,f1,f2]
   rw[hW,hQ,hE]
   exact ⟨fun _=>True,_,_,_,rfl,ax.2 rfl,fZ.2 rfl,ax.2 rfl⟩
 obtain ⟨r,hr,a,b,c,rfl,ha,hb,hc⟩:=key
 have ha:=ax.1 ha
 injection ha with ha
 have hc:=ax.1 hc
 injection hc with hc
 rw[hr,fZ.1 hb,ha,hc]
def S.bu (n:Net)(xs ys zs i w:Nat):Int:=S.aU n ((S.ay xs ys zs)[i]?.getD 0) w
structure DpM (n:Net) (xs ys zs mb j k:Nat) (h:H):Prop where
 hm:∀i,i<4->∃L:List (Int×Int),h.get (mb+i)=.map (mcl ik L)/\∀K,mgt L K=S.aT n ((S.ay xs ys zs)[i]?.getD 0) K j+if i<k/\S.bu n xs ys zs i j=K then S.wt n j else 0
structure DpK (g0:G) (mb:Nat) (g:G):Prop where
 nx:g0.nx<=g.nx
 fr:∀i,(i<mb\/mb+4<=i)->i<g0.nx->g.h.get i=g0.h.get i
theorem ixm (mb p k:Nat)(h:k<4):ff (.cells 4 [[.hmap mb,.hmap (mb+1),.hmap (mb+2),.hmap (mb+3)]] 0 false false) 0 0 false 1 k=.val (.hmap (mb+k)):=by
 have:k=0\/k=1\/k=2\/k=3:=by omega
 rcases this with rfl | rfl | rfl | rfl<;>rfl
theorem FG (f:Nat->Int)(k:Nat)(h:k<4):ixV false 4 1 (.agg [.int .u64 (f 0),.int .u64 (f 1),.int .u64 (f 2),.int .u64 (f 3)]) (.int .i64 (k:Int))=.val (.int .u64 (f k)):=by
 have:k=0\/k=1\/k=2\/k=3:=by omega
 rcases this with rfl | rfl | rfl | rfl<;>rfl
def se (xs ys zs:Nat):AV:=.agg [.int .u64 (((S.ay xs ys zs)[0]?.getD 0:Nat):Int),.int .u64 (((S.ay xs ys zs)[1]?.getD 0:Nat):Int),.int .u64 (((S.ay xs ys zs)[2]?.getD 0:Nat):Int),.int .u64 (((S.ay xs ys zs)[3]?.getD 0:Nat):Int)]
def LDm (xs ys zs p q r:Nat):List (Nat×AV):=[(10,.hptr q 0 0 0),(13,.hptr p 0 0 0),(14,.hptr r 0 0 0),(83,se xs ys zs)]
set_option maxRecDepth 20000 in
theorem E1 {d lo xs ys zs p q r mb j:Nat}{rd:Option Nat}{n:Net}{y:QnM}{b fl S_ u:AV}{Q:QT}{t:T}{g0:G}(hd:0<d)(hr:NR n)(hx:xs<18446744073709551616)(hy:ys<18446744073709551616)(hz:zs<18446744073709551616)(hj:j<1024)
  (hc:Rp.rp NoP 0 .nil y [.int .i64 n.grain,b,fl,S_]) (hq:QnOk n y)
  (hu:SlR (fun i=>lo<=i/\i<g0.nx) 0 g0.h (S.ak (S.aa n) (j:Int)) u) (hlo:mb+4<=lo)
  (hp:(p<mb\/mb+4<=p)/\p<g0.nx) (hq':(q<mb\/mb+4<=q)/\q<g0.nx) (hr':(r<mb\/mb+4<=r)/\r<g0.nx)
  (k13:g0.h.get p=.cells 4 [[.hmap mb,.hmap (mb+1),.hmap (mb+2),.hmap (mb+3)]] 0 false false) (k10:g0.h.get q=.cells 4 [[.int .i64 n.grain,b,fl,S_]] 0 false false) (k14:g0.h.get r=.cells 3 [[.int .i64 (j:Int),.int .i64 (S.wt n j),u]] 0 false false)
  (h0:DpM n xs ys zs mb j 0 g0.h) (ht:St t (LDm xs ys zs p q r)) (h84:tat t 84=.int .i64 0)
  (fin:∀t g,DpK g0 mb g->DpM n xs ys zs mb j 4 g.h->Q (.exit 2) t [] g):wpL (wp C0 d rd fm) Q t [] g0:=by
 simp only[fm]
 refine pA (m:=4) rfl (by omega) (fun k t df g=>df=[]/\St t (LDm xs ys zs p q r)/\DpK g0 mb g/\DpM n xs ys zs mb j k g.h) ⟨rfl,ht,⟨Nat.le_refl _,fun _ _ _=>rfl⟩,h0⟩ h84 (by decide) (by rintro i t df g v s (rfl | rfl | rfl)<;>simp[St,LDm,sx]) ?_ ?_
 ·rintro k t df g hk ⟨rfl,⟨h10,h13,h14,h83,-⟩,hK,hM⟩ h84
  obtain ⟨L,l1,l2⟩:=hM.hm k hk
  have ix:=FG (fun i=>(((S.ay xs ys zs)[i]?.getD 0:Nat):Int)) k hk
  have hds:(S.ay xs ys zs)[k]?.getD 0<18446744073709551616:=by
   obtain ⟨s,hs⟩:∃s,(S.ay xs ys zs)[k]?=some s:=⟨_,List.getElem?_eq_getElem (by simp[S.ay];omega)⟩
   rw[hs];exact yF hx hy hz s (List.mem_of_getElem? hs)
  obtain ⟨sk,hsk⟩:∃sk,sk=(S.ay xs ys zs)[k]?.getD 0:=⟨_,rfl⟩
  rw[<-hsk] at hds
  refine bV (P:=fun t' df g'=>df=[]/\g'=g/\St t' ((15,.int .i64 (k:Int))::(16,.int .u64 (sk:Int))::(84,.int .i64 (k:Int))::LDm xs ys zs p q r)) ?_ ?_
  ·simp only[sz,simprocAttr,h83,h84,se,ix]
   simp[St,LDm,se,sx,h10,h13,h14,h83,h84,hsk]
  clear h10 h13 h14 h83 h84
  rintro t df g' ⟨rfl,rfl,h15,h16,h84,h10,h13,h14,h83,-⟩
  have hinC:=jC (fun c hc=>(hr.cs c hc).1) (j:Int)
  obtain ⟨K,hKd⟩:∃K,K=S.bu n xs ys zs k j:=⟨_,rfl⟩
  have hu':SlR (fun _=>True) 0 g'.h (S.ak (S.aa n) (j:Int)) u:=hu.wd fun i hi=>⟨trivial,hK.fr i (by omega) hi.2⟩
  have kn:∀g:G,g.h=g'.h->aw C0 d N.au [.agg [.int .i64 n.grain,b,fl,S_],u,.int .u64 (sk:Int)] g=.val (.int .i64 K):=fun g hgh=>by
   have:=tD (d:=d) (g:=g) (v:=.agg [.int .i64 n.grain,b,fl,S_]) (w:=u) (s:=sk) hd hr ⟨_,rfl,Rp.tree hc (Nat.le_refl 0)⟩ hq (hgh ▸ hu') hinC hds
   rw[this,hKd,S.bu,hsk,S.aU]
  have hb:=mw hr (p:=fun u=>decide (S.aU n sk u=K)) (j:=j+1) (by omega)
  have hmK:mgt L K=S.aT n sk K j:=by rw[l2,hsk];simp
  have hs:S.aT n sk K (j+1)=mgt L K+S.wt n j:=by
   rw[hmK,S.aT,S.aT,S.ah,if_pos];· rfl
   ·rw[hKd,S.bu,<-hsk];simp
  have w1:IntKind.wrap .i64 (mgt L K+S.wt n j)=mgt L K+S.wt n j:=by rw[<-hs,aT (by have:=hb.1;unfold S.aT;omega) (by have:=hb.2;unfold S.aT;omega)]
  have g13:g'.h.get p=.cells 4 [[.hmap mb,.hmap (mb+1),.hmap (mb+2),.hmap (mb+3)]] 0 false false:=by rw[hK.fr p hp.1 hp.2,k13]
  have g10:g'.h.get q=.cells 4 [[.int .i64 n.grain,b,fl,S_]] 0 false false:=by rw[hK.fr q hq'.1 hq'.2,k10]
  have g14:g'.h.get r=.cells 3 [[.int .i64 (j:Int),.int .i64 (S.wt n j),u]] 0 false false:=by rw[hK.fr r hr'.1 hr'.2,k14]
  have i1:oQ 4 1 (.hptr p 0 0 0) (.int .i64 (k:Int))=.val (.hptr p 0 0 k):=by have:=te 4 1 p 0 0 0 .i64 hk;simpa using this
  have i2:=ixm mb p k hk
  have lk:∀(t:T) (g:G),tat t 90=.hmap (mb+k)->tat t 95=.int .i64 K->g.h.get (mb+k)=.map (mcl ik L)->(bB C0 (.lookup 118 (.tmp 90) (.tmp 95) false)).run (I C0) d rd t g=.val (.int .i64 (mgt L K)):=fun t g a b c=>y5 a b c
  have up:∀(t:T) (g:G),tat t 90=.hmap (mb+k)->tat t 95=.int .i64 K->tat t 99=.int .i64 (mgt L K+S.wt n j)->g.h.get (mb+k)=.map (mcl ik L)->(bB C0 (.mapUpdate 118 (.tmp 90) (.tmp 95) (.tmp 99))).run (I C0) d rd t g=.upd .undef (g.put (mb+k) (.map (mcl ik (mst K (mgt L K+S.wt n j) L)))):=fun t g a b c e=>E4 a b c e
  simp only[sz,simprocAttr,sf,h10,h13,h14,h15,h16,g10,g13,g14,i1,i2,kn,lk,l1,w1,up,tA,zW,dk]
  have hnx:=hK.nx
  refine ⟨?_,⟨by simp[St,LDm,se,sx,h10,h13,h14,h83],⟨by simp;omega,fun i h1 h2=>?_⟩,⟨fun i hi=>?_⟩⟩,?_⟩
  ·simp only[List.reverse_cons,List.reverse_nil,List.nil_append,List.cons_append]
   exact pp [(false,false),(false,false),(false,false),(false,false),(false,false),(false,false),(false,false),(false,false),(false,true),(false,false),(false,false),(false,false),(true,false)] [] (by simp[All2,af,aD]) (by decide) (by decide) (by simp)
  ·simp[H.get_put,show ¬i=mb+k by omega];exact hK.fr i h1 h2
  ·by_cases hik:i=k
   ·subst hik
    refine ⟨mst K (mgt L K+S.wt n j) L,by simp[H.get_put],fun K'=>?_⟩
    rw[zl]
    by_cases e:K'=K
    ·rw[if_pos e,e,hmK,hsk,if_pos ⟨by omega,hKd.symm⟩]
    ·rw[if_neg e,l2,if_neg (fun h=>by omega),if_neg (fun h=>e (by rw[<-h.2,hKd]))]
   ·obtain ⟨L',m1,m2⟩:=hM.hm i hi
    refine ⟨L',by simp[H.get_put,hik];exact m1,fun K'=>?_⟩
    rw[m2]
    have:i<k+1↔i<k:=by omega
    simp only[this]
  ·exact h84
 ·rintro t df g ⟨rfl,-,hK,hM⟩
  exact fin t g hK hM
def kJ (c:Int->AV)(f:Nat->Int):List AV:=[c (f 0),c (f 1),c (f 2),c (f 3)]
def m_ (x:Int):AV:=.int .u64 x
theorem ld4 (c:Int->AV)(f:Nat->Int)(k:Nat)(h:k<4):ff (.cells 4 [kJ c f] 0 false false) 0 0 false 1 k=.val (c (f k)):=by
 have:k=0\/k=1\/k=2\/k=3:=by omega
 rcases this with rfl | rfl | rfl | rfl<;>rfl
def S.bM (n:Net)(xs ys zs w i u:Nat):Int:=S.aT n ((S.ay xs ys zs)[i]?.getD 0) (S.aU n ((S.ay xs ys zs)[i]?.getD 0) w) u
structure DpL (n:Net) (U V:AV) (g:G):Prop where
 u:∃rows,Own g 1 U 1 rows/\All2 (Rp.rp NoP 0 .nil) ((List.range (S.am n)).map fun w:Nat=>S.ak (S.aa n) (w:Int)) rows
 v:Own g 1 V 1 ((List.range (S.am n)).map fun w:Nat=>[AV.int .i64 (S.aK n (S.ak (S.aa n) (w:Int)))])
theorem xU {c:Int->AV}{f f':Nat->Int}(h:∀i,i<4->f i=f' i):kJ c f=kJ c f':=by
 unfold kJ
 rw[h 0 (by omega),h 1 (by omega),h 2 (by omega),h 3 (by omega)]
theorem kK {n:Net}(hr:NR n)(xs ys zs k w:Nat):S.bM n xs ys zs w k (S.am n)=((S.ax n xs ys zs k w:Nat):Int)/\S.ax n xs ys zs k w<18446744073709551616:=by
 have hb:=vF hr ((S.ay xs ys zs)[k]?.getD 0) w
 have e:S.bM n xs ys zs w k (S.am n)=S.bp n ((S.ay xs ys zs)[k]?.getD 0) w:=rfl
 rw[e,S.ax]
 omega
end
end Hx
end
