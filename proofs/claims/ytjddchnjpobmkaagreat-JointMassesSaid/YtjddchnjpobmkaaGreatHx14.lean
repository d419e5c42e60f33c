/- A part of the proof: an interpreter over abstract values, shown right against the model, and what the functions of the chapter compute on it. -/
import Derived.Test.YtjddchnjpobmkaaGreatHx13
set_option linter.unusedVariables false
set_option linter.unusedSimpArgs false
set_option linter.unnecessarySimpa false
section
namespace Hx
open Go
noncomputable section
theorem Kr (n:Net)(ls:List (List Int)):Snb (KQ n ls) 2:=gJ fun y=>bJ (m:=2) (bj _) (aI _) (by decide) (by decide)
def qn0:QnM:=(⟨0,[]⟩,[],[])
theorem HJ (P:Nat->Prop)(h:H):Agg qn0 P 0 h (.agg [.int .i64 0,.nils,.nils,.nils]):=⟨_,rfl,vG.2 ⟨.nils,.nils,.nils,rfl,⟨by show 0<9223372036854775808;decide,rfl⟩,⟨by show 0<9223372036854775808;decide,rfl⟩,⟨by show 0<9223372036854775808;decide,rfl⟩⟩⟩
theorem DY {a b c w:AV}(h:w.cells=[w])(h2:w.isTup=false)(h3:b.cells=[b])(h4:b.isTup=false):dz [.int .i64 0,.nils,.nils,.nils] [((0,2),.agg [a,c]),((2,1),b),((3,1),w)]=some [a,c,b,w]:=by
 have k1:(AV.agg [a,c]).cells=[a,c]:=rfl
 have k2:(AV.agg [a,c]).isTup=false:=rfl
 simp[dz,h,h2,h3,h4,cL,k1,k2]
 rfl
theorem Dd {d kk:Nat}{P:Nat->Prop}{g:G}{v w:AV}{n:Net}{ls:List (List Int)}(hd:0<d)(hm:Agg n NoP 0 g.h v)(hw:SlR P kk g.h ls w):∃r,ae C0 d N.aI [v,w] g=.val r/\KQ n ls NoP 0 .nil r:=by
 obtain ⟨b,rows,rfl,e1,hm',hN,r1,r2,r3,r4⟩:=cM d hm
 obtain ⟨w',e2,hw'⟩:=bF hw d
 obtain ⟨wrows,p1,p2,p3,p4⟩:=(hw' .nil).all
 have p1:∀h',af h' 1 w'=some wrows:=p1
 have hwl:=hw.1
 have wl:=fun g=>(hw' .nil).len g
 rw[xu]
 refine aM Ax (xs:=[.agg [.int .i64 n.grain,b],w']) (by simp only[aB,e1,e2]) (by simp[pP]) (Kr n ls) (by decide) hd ?_
 simp only[pP,sx,sy,SO.run,↓reduceIte,Nat.reduceEqDiff,Nat.reduceAdd]
 obtain ⟨g0,hg0⟩:∃g0,g0=(G.empty.new (.cells 2 [[.int .i64 n.grain,b]] 0 false false)).new (.cells 4 [[.int .i64 0,.nils,.nils,.nils]] 0 false false):=⟨_,rfl⟩
 rw[<-hg0]
 have f0:g0.h.get 0=.cells 2 [[.int .i64 n.grain,b]] 0 false false:=by rw[hg0];simp[sx,H.get_put]
 have f1:g0.h.get 1=.cells 4 [[.int .i64 0,.nils,.nils,.nils]] 0 false false:=by rw[hg0];simp[sx]
 have f2:g0.nx=2:=by rw[hg0];simp[sx]
 clear hg0
 simp only[rH]
 obtain ⟨z,ez,fs,⟨hfl,hfs⟩,fl,er,rfl,hfl2,her⟩:=Km (d:=d+1) (g:=g0) (Nat.succ_pos d) (hm' g0.h)
 have her:=aH.1 her
 injection her with her
 subst her
 obtain ⟨_,e3,hfl2⟩:=hfl2
 injection e3 with e3;subst e3
 cases hn:S.ay n with
 | false =>
  have hs:S.aI n ls=50:=by rw[S.aI,hn];rfl
  rw[hn] at ez
  simp only[Bool.false_eq_true,↓reduceIte] at ez
  simp only[sx,sy,SO.run,↓reduceIte,Nat.reduceEqDiff,Nat.reduceAdd,Nat.reduceLeDiff,f0,ez,show ¬((50:Int)=0) from by decide,decide_false,Bool.not_false,f1]
  refine ⟨fun _=>True,qn0,?_,_,_,rfl,?_,?_⟩
  ·rw[hs];intro h;cases h
  ·exact HJ _ _
  ·rw[hs];exact aH.2 rfl
 | true =>
  have hr:=bz.1 hn
  have hfl:=hfl hn
  rw[hn] at ez
  simp only[↓reduceIte] at ez
  refine cW (P:=fun t' df g'=>df=[]/\g'=g0/\St t' [(1,w'),(2,.hptr 0 0 0 0),(4,.hptr 1 0 0 0),(6,fl),(7,.int .i64 0)]) ?_ ?_
  ·simp only[sx,sy,SO.run,↓reduceIte,Nat.reduceEqDiff,Nat.reduceAdd,Nat.reduceLeDiff,f0,ez]
   simp[St,sx]
  rintro t df g1 ⟨rfl,rfl,h1,h2,h4,h6,h7,-⟩
  obtain ⟨Qf,hQf⟩:∃Qf,Qf=fnQ C0 (d+1) [SR.cell true 4 4,SR.tm 5] (fun v g'=>∃P,KQ n ls P 0 g'.h v):=⟨_,rfl⟩
  rw[<-hQf]
  simp only[sx,SO.run,↓reduceIte,Nat.reduceEqDiff,h1,h7,decide_true,Bool.not_true,wl,qA]
  refine bA (m:=ls.length) hwl (fun j t df g=>df=[]/\St t [(25,w'),(2,.hptr 0 0 0 0),(4,.hptr 1 0 0 0),(6,fl)]/\g=g1/\∀e∈ls.take j,S.aq n e=true) ⟨rfl,by simp[St,sx,h2,h4,h6],rfl,by simp⟩ (by simp[sx]) (by simp[sx]) (by decide)
   (by rintro j t df g v s (rfl | rfl | rfl) ⟨a1,⟨b1,b2,b3,b4,-⟩,c1,c2⟩<;>exact ⟨a1,by simp[St,sx,b1,b2,b3,b4],c1,c2⟩) ?_ ?_
  ·rintro j t df g hj ⟨rfl,⟨h25,h2,h4,h6,-⟩,rfl,hall⟩ h27 h26
   obtain ⟨e,he,htk,hem⟩:=ah hj
   obtain ⟨row,q1,q2⟩:=p3 j e he
   obtain ⟨z,rfl,hz⟩:=cK.1 q2
   have hlt:j<wrows.length:=by omega
   have hch:=HE (d:=d+1) (g:=g) (e:=e) (w:=z) (Nat.succ_pos d) (hm' g.h) (hz.tree (h':=g.h) (Nat.le_refl _))
   cases hev:S.aq n e with
   | true =>
    have hs:S.an n e=0:=by rw[S.an,hn,hev];rfl
    rw[hs] at hch
    simp only[sx,sy,SO.run,↓reduceIte,Nat.reduceEqDiff,Nat.reduceAdd,Nat.reduceLeDiff,h25,h27,h26,h2,p1,hlt,q1,f0,hch,decide_true,Bool.not_true,Option.isSome_some,Option.getD_some]
    refine ⟨by simp[St,sx,h2,h4,h6,h25],fun y hy=>?_⟩
    rw[htk] at hy
    rcases List.mem_append.1 hy with h | h
    ·exact hall y h
    ·rw[List.mem_singleton.1 h];exact hev
   | false =>
    have hs:S.an n e=2:=by rw[S.an,hn,hev];rfl
    have hs2:S.aI n ls=2:=by
     have:ls.all (S.aq n)=false:=by
      rw[<-Bool.not_eq_true,List.all_eq_true]
      intro h
      rw[h e hem] at hev;cases hev
     rw[S.aI,hn,this];rfl
    rw[hs] at hch
    rw[hQf]
    simp only[sx,sy,SO.run,↓reduceIte,Nat.reduceEqDiff,Nat.reduceAdd,Nat.reduceLeDiff,h25,h27,h2,h4,p1,hlt,q1,f0,f1,hch,show ¬((2:Int)=0) from by decide,decide_false,Bool.not_false,Option.isSome_some,Option.getD_some]
    refine ⟨fun _=>True,qn0,?_,_,_,rfl,?_,?_⟩
    ·rw[hs2];intro h;cases h
    ·exact HJ _ _
    ·rw[hs2];exact aH.2 rfl
  ·rintro t df g ⟨rfl,⟨h25,h2,h4,h6,-⟩,rfl,hall⟩
   rw[List.take_length] at hall
   have hs:S.aI n ls=0:=by rw[S.aI,hn,List.all_eq_true.2 hall];rfl
   have hl8:=hr.l2
   have fll:=fun g=>hfl2.len g
   simp only[sx,↓reduceIte]
   unfold pH
   refine cW (P:=fun t' df g'=>df=[]/\∃S_ q,St t' [(2,.hptr 0 0 0 0),(4,.hptr 1 0 0 0),(6,fl),(11,.hptr q 0 0 0)]/\AskH n.grain b fl S_ n.nodes.length q fs 0 g') ?_ ?_
   ·simp only[sx,sy,SO.run,↓reduceIte,Nat.reduceEqDiff,Nat.reduceAdd,Nat.reduceLeDiff,sf,h2,h6,f0,fll,hfl]
    refine km (b:=2) (n:=n.nodes.length) (by unfold aT;omega) (by unfold aT;omega) (by first | (simp;done) | (simp;omega)) fun S_ g2 hS n2 f2' vS lg2=>?_
    simp only[sy] at n2 f2' vS lg2
    have hflc:fl.cells=[fl]/\fl.isTup=false:=by
     have h:=hfl2.2
     unfold SlV at h
     split at h<;>first | exact ⟨rfl,rfl⟩ | exact h.elim
    simp only[sx,sy,SO.run,↓reduceIte,Nat.reduceEqDiff,Nat.reduceAdd,Nat.reduceLeDiff,sf,DY hS.cell.1 hS.cell.2 hflc.1 hflc.2,lg2]
    have n2':g.nx+5=g2.nx:=by omega
    have k0:g2.h.get 0=.cells 2 [[.int .i64 n.grain,b]] 0 false false:=by rw[f2' 0 (by omega),f0]
    have k1:g2.h.get 1=.cells 4 [[.int .i64 0,.nils,.nils,.nils]] 0 false false:=by rw[f2' 1 (by omega),f1]
    refine ⟨?_,S_,g2.nx+1+1,by simp[St,sx,h2,h4,h6],⟨?_,?_,?_,⟨by omega,by simp⟩,fun i hi=>by have:=eP vS hi;omega,List.replicate n.nodes.length .nils,[],?_,by simp,rfl,trivial,fun i f X _ h=>by simp at h⟩⟩
    ·simp only[List.reverse_cons,List.reverse_nil,List.nil_append,List.cons_append,G.new_lg,G.put_lg,setLog_lg]
     refine aL [false,false,false,false,true,false,true,true] [(0,4),(1,4),(0,6),(1,6),(2,6),(3,6),(4,6),(5,6)] (by simp[All2,an,ay]) (by decide) ?_
     rintro p hp' x y hx hy
     simp only[List.mem_cons,List.not_mem_nil,or_false] at hp'
     rcases hp' with rfl | rfl | rfl | rfl | rfl | rfl | rfl | rfl<;>(simp at hx hy;subst hx;subst hy;refine cq rfl rfl rfl rfl ?_ ?_ ?_<;>simp[an,ay,am]<;>omega)
    ·simp[H.get_put,k0]
    ·simp[H.get_put,k1]
    ·simp[H.get_put]
    ·have hS':Own g2 2 S_ 1 ((List.replicate n.nodes.length AV.nils).map fun v=>[v]):=by simpa using hS
     refine hS'.fr (by simp;omega) fun i hi=>?_
     have:=eP vS hi
     simp[H.get_put,show ¬i=g2.nx+1+1 by omega]
   clear h25 h2 h4 h6
   rintro t df g2 ⟨rfl,S_,q,⟨h2,h4,h6,h11,-⟩,hp⟩
   have hbl:=hN.len
   simp only[sx,SO.run,↓reduceIte,h6,fll,hfl]
   refine Mg (m:=n.nodes.length) (q:=q) (gr:=n.grain) (b:=b) (fl:=fl) (S_:=S_) (fs:=fs) hbl hl8 hfl2 hfl (fun i f hf=>?_) ⟨by simp[St,sx,h2,h4,h11],hp⟩ (by simp[sx]) (by simp[sx]) ?_
   ·have hi:=(List.getElem?_eq_some_iff.1 hf).1
    obtain ⟨x,hx,-,-⟩:=ah (l:=n.nodes) (j:=i) (by omega)
    obtain ⟨p,hpp,hf2⟩:=hfs i x hi hx
    rw[hf] at hf2;injection hf2 with hf2;subst hf2
    exact Hw hr hx hpp
   clear h2 h4 h6 h11 hp
   rintro t g3 ⟨⟨h11,h2,h4,h45,-⟩,hp⟩
   obtain ⟨Vs,l,hS,hVl,hll,hal,hst⟩:=hp.hS
   rw[List.take_of_length_le (by omega)] at hal
   rw[hQf]
   have q2:=hp.q2.1
   simp only[sx,sy,SO.run,↓reduceIte,Nat.reduceEqDiff,Nat.reduceAdd,Nat.reduceLeDiff,qu,h11,h4,hp.hq,hp.h1]
   have hne:∀i,i≠1->(g3.h.put 1 (.cells 4 [[.int .i64 n.grain,b,fl,S_]] 0 false false)).get i=g3.h.get i:=fun i hi=>by simp[H.get_put,hi]
   refine ⟨fun _=>True,(n,fs,l),fun _=>⟨rfl,hfl,hfs,hll,hst⟩,_,_,rfl,⟨_,rfl,vG.2 ⟨b,fl,S_,rfl,hN.wide (Nat.le_refl 0),hfl2.wide (Nat.le_refl 0),?_⟩⟩,?_⟩
   ·have hS':Own (g3.put 1 (.cells 4 [[.int .i64 n.grain,b,fl,S_]] 0 false false)) 2 S_ 1 (Vs.map fun v=>[v]):=hS.fr (by simp) fun i hi=>by
     have:=(hS.lt hi).1
     simp[H.get_put,show ¬i=1 by omega]
    refine Own.sl (α:=List Int) hS' (by show l.length<_;omega) ?_ fun _ _=>trivial
    have hal2:∀(l:List (List Int)) (Vs:List AV),All2 (fun X v=>Own g3 (q+1) v 1 (X.map ci)) l Vs->(∀X∈l,X.length<9223372036854775808)->All2 (Rp.rp (fun _=>True) 0 (g3.put 1 (.cells 4 [[.int .i64 n.grain,b,fl,S_]] 0 false false)).h) l (Vs.map fun v=>[v]):=by
     intro l
     induction l with
     | nil=>intro Vs h _;cases Vs with
      | nil=>trivial
      | cons v Vs=>exact h.elim
     | cons X l ih=>intro Vs h hX;cases Vs with
      | nil=>exact h.elim
      | cons v Vs =>
       refine ⟨?_,ih Vs h.2 fun Y hY=>hX Y (by simp[hY])⟩
       have ho:Own (g3.put 1 (.cells 4 [[.int .i64 n.grain,b,fl,S_]] 0 false false)) (q+1) v 1 (X.map ci):=h.1.fr (by simp) fun i hi=>by
        have:=(h.1.lt hi).1
        simp[H.get_put,show ¬i=1 by omega]
       obtain ⟨_,e1,hh⟩:=ho.ints (k:=0) (hX X (by simp))
       exact cK.2 ⟨_,e1,hh⟩
    refine hal2 l Vs hal fun X hX=>?_
    obtain ⟨i,hi,he⟩:=List.mem_iff_getElem.1 hX
    have:=(hst i _ X (List.getElem?_eq_getElem (show i<fs.length by omega)) (by rw[List.getElem?_eq_getElem hi,he])).1
    omega
   ·rw[hs];exact aH.2 rfl
end
end Hx
end
section
namespace Hx
open Go
noncomputable section
theorem Ev {α:Type}{l:List α}{i:Nat}{x y:α}(h1:l[i]?=some x)(h2:l[i]?=some y):x=y:=by rw[h1] at h2;injection h2
structure WtI (y:QnM) (b fl S_ wv va ca wa:AV) (gr wt:Int) (p:Int) (cards pv:List Int) (m k fb i:Nat) (t:T) (g:G):Prop where
 st:St t [(1,wv),(2,.hptr 0 0 0 0),(12,fl),(13,.int .i64 (m:Int)),(14,.int .i64 (k:Int)),(5,.int .i64 wt),(6,.int .i64 (k:Int)),(7,.hptr fb 0 0 0),(20,va),(8,.int .i64 (p - S.ah (cards.drop i) (pv.drop i)))]
 h0:g.h.get 0=.cells 4 [[.int .i64 gr,b,fl,S_]] 0 false false
 hf:g.h.get fb=.cells 3 [[va,ca,wa]] 0 false false
 nn:0<=p - S.ah (cards.drop i) (pv.drop i)
 nx:1<=g.nx
theorem GF {d m k fb:Nat}{y:QnM}{b fl S_ wv va ca wa:AV}{gr wt p:Int}{f:Factor}{R vals:List Int}{mm:Nat}{Q:QT}{t:T}{g:G}(hva:SlR NoP 0 .nil f.vars va)(hF:FOk mm f)(hR:S.bB mm f 0 R)(hvl:vals.length=mm)
  (hS:∃(srows:List (List AV)) (z:AV),(∀h,af h 1 S_=some srows)/\srows[k]?=some [z]/\k<srows.length/\SlR NoP 0 .nil R z) (rv:∀h,af h 1 wv=some (vals.map ci)) (hp:p=S.ah f.cards (S.ae vals f.vars)) (hin:InC f.cards (S.ae vals f.vars)) (hpb:p<=10000000)
  (h0:WtI y b fl S_ wv va ca wa gr wt p f.cards (S.ae vals f.vars) m k fb 0 t g) (h22:tat t 22=.int .i64 0) (h21:tat t 21=.int .i64 (f.vars.length:Int))
  (fin:∀t g,WtI y b fl S_ wv va ca wa gr wt p f.cards (S.ae vals f.vars) m k fb f.vars.length t g->Q (.exit 2) t [] g):wpL (wp C0 d none ct) Q t [] g:=by
 obtain ⟨srows,z,s1,s2,s3,hz⟩:=hS
 have rva:=fun h=>(hva.tree (h':=h) (Nat.le_refl 0)).ints
 have rz:=fun h=>(hz.tree (h':=h) (Nat.le_refl 0)).ints
 simp only[ct]
 refine bA (m:=f.vars.length) hva.1 (fun i t df g=>df=[]/\WtI y b fl S_ wv va ca wa gr wt p f.cards (S.ae vals f.vars) m k fb i t g) ⟨rfl,h0⟩ h22 h21 (by decide)
  (by rintro j t df g v s (rfl | rfl | rfl) ⟨a1,⟨b1,b2,b3,b4,b5,b6,b7,b8,b9,b10,-⟩,c1,c2,c3,c4⟩<;>exact ⟨a1,by simp[St,sx,b1,b2,b3,b4,b5,b6,b7,b8,b9,b10],c1,c2,c3,c4⟩) ?_ ?_
 ·rintro i t df g hi ⟨rfl,⟨h1,h2,h12,h13,h14,h5,h6,h7,h20,h8,-⟩,e0,ef,hnn,hnx⟩ h22 h21
  obtain ⟨u,hu,-,hum⟩:=ah hi
  obtain ⟨hu0,hum⟩:=hF.vr u hum
  obtain ⟨un,rfl⟩:=Int.eq_ofNat_of_zero_le hu0
  have hcl:=hF.cl
  have hdr:f.cards.drop i=f.cards[i]::f.cards.drop (i+1):=List.drop_eq_getElem_cons (by omega)
  have hval:vals[un]?=some vals[un]:=List.getElem?_eq_getElem (by omega)
  have hpvi:(S.ae vals f.vars)[i]?=some vals[un]:=by simp[S.ae,hu,hval]
  have hdp:(S.ae vals f.vars).drop i=vals[un]::(S.ae vals f.vars).drop (i+1):=by
   have hl:i<(S.ae vals f.vars).length:=by rw[sC];exact hi
   rw[List.drop_eq_getElem_cons hl]
   rw[List.getElem?_eq_getElem hl] at hpvi
   injection hpvi with hpvi
   rw[hpvi]
  have hv0:0<=vals[un]:=by
   obtain ⟨v',h1,h2,-⟩:=hin.get (i:=i) (c:=f.cards[i]) (List.getElem?_eq_getElem (by omega))
   rw[Ev hpvi h1];exact h2
  generalize vals[un]=x at hval hpvi hdp hv0
  have hRu:=hR.2 i (un:Int) (Nat.zero_le _) hu
  rw[Int.toNat_natCast] at hRu
  have hRl:=(List.getElem?_eq_some_iff.1 hRu).1
  have u1:i<(f.vars.map ci).length:=by simpa using hi
  have u2:(f.vars.map ci)[i]?=some (ci (un:Int)):=by rw[List.getElem?_map,hu];rfl
  have u3:un<(vals.map ci).length:=by simp;omega
  have u4:(vals.map ci)[un]?=some (ci x):=by rw[List.getElem?_map,hval];rfl
  have u5:un<(R.map ci).length:=by simpa using hRl
  have u6:(R.map ci)[un]?=some (ci (S.ac (f.cards.drop (i+1)))):=by rw[List.getElem?_map,hRu];rfl
  have hidx:S.ah (f.cards.drop i) ((S.ae vals f.vars).drop i)=x*S.ac (f.cards.drop (i+1))+S.ah (f.cards.drop (i+1)) ((S.ae vals f.vars).drop (i+1)):=by rw[hdr,hdp,S.ah]
  have hb1:=dP (cards:=f.cards.drop (i+1)) (vals:=(S.ae vals f.vars).drop (i+1)) (fun c hc=>hF.cb c (List.mem_of_mem_drop hc)) (hin.drop (i+1))
  have hb2:=dP (cards:=f.cards.drop i) (vals:=(S.ae vals f.vars).drop i) (fun c hc=>hF.cb c (List.mem_of_mem_drop hc)) (hin.drop i)
  have hpp:=iC (cs:=f.cards.drop (i+1)) fun c hc=>(hF.cb c (List.mem_of_mem_drop hc)).1
  have hxs:0<=x*S.ac (f.cards.drop (i+1)):=Int.mul_nonneg hv0 (by omega)
  have w1:IntKind.wrap .i64 (x*S.ac (f.cards.drop (i+1)))=x*S.ac (f.cards.drop (i+1)):=ap (by omega) (by omega)
  have w2:IntKind.wrap .i64 (p - S.ah (f.cards.drop i) ((S.ae vals f.vars).drop i)+x*S.ac (f.cards.drop (i+1)))=p - S.ah (f.cards.drop (i+1)) ((S.ae vals f.vars).drop (i+1)):=by
   rw[ap (by omega) (by omega)];omega
  simp only[sx,sy,SO.run,↓reduceIte,Nat.reduceEqDiff,h1,h2,h6,h8,h20,h22,h21,e0,rva,u1,u2,rv,u3,u4,s1,s2,s3,rz,u5,u6,ci,Option.isSome_some,Option.getD_some,w1,w2]
  refine ⟨by simp[St,sx,h1,h2,h12,h13,h14,h5,h6,h7,h20],e0,ef,by omega,by first | exact hnx | (simp;done) | (simp;omega)⟩
 ·rintro t df g ⟨rfl,h⟩
  exact fin t g h
structure WtJ (n:Net) (vals:List Int) (b fl S_ wv:AV) (k:Nat) (t:T) (g:G):Prop where
 st:St t [(1,wv),(2,.hptr 0 0 0 0),(12,fl),(5,.int .i64 (S.ac ((List.range k).map (S.aH n vals))))]
 h0:g.h.get 0=.cells 4 [[.int .i64 n.grain,b,fl,S_]] 0 false false
 nx:1<=g.nx
theorem GE {d kk:Nat}{P:Nat->Prop}{g:G}{v w:AV}{n:Net}{y:QnM}{vals:List Int}(hd:0<d)(hr:NR n)(hm:Agg y NoP 0 g.h v)(hq:QnOk n y)(hv:SlR P kk g.h vals w)(hc:InC (S.aa n) vals) :
  ae C0 d N.bu [v,w] g=.val (.int .i64 (S.aP n vals)):=by
 have e0:=ea d hm
 obtain ⟨cs,rfl,hcs⟩:=hm
 obtain ⟨b,fl,S_,rfl,hN,hfl,hS⟩:=vG.1 hcs
 have hfl:SlR NoP 0 .nil y.2.1 fl:=hfl.tree (Nat.le_refl 0)
 have hS:SlR NoP 0 .nil y.2.2 S_:=hS.tree (Nat.le_refl 0)
 obtain ⟨w',e2,hw'⟩:=bF hv d
 have hgr:y.1.grain=n.grain:=by rw[hq.net]
 obtain ⟨frows,f1,f2,f3,f4⟩:=hfl.all
 have f1:∀h',af h' 3 fl=some frows:=f1
 obtain ⟨srows,s1,s2,s3,s4⟩:=wy hS
 have rv:=fun h=>(hw' h).ints
 have hvl:=hc.len
 rw[aO] at hvl
 have hl8:=hr.l2
 have hfll:=hq.fl
 rw[kg]
 refine dH mP (xs:=[.agg [.int .i64 y.1.grain,b,fl,S_],w']) (by simp only[aB,e0,e2]) (by simp[dw]) hd ?_
 rw[hgr]
 have ll:=hfl.len
 simp only[dw,eX,sx,sy,SO.run,↓reduceIte,Nat.reduceEqDiff,Nat.reduceAdd,ll,hfll]
 simp only[eC,eH]
 refine bA (m:=n.nodes.length) (by omega) (fun k t df g=>df=[]/\WtJ n vals b fl S_ w' k t g) ⟨rfl,by simp[St,sx,S.ac],by simp[sx],by simp⟩ (by simp[sx]) (by simp[sx]) (by decide)
  (by rintro j t df g v s (rfl | rfl | rfl) ⟨a1,⟨b1,b2,b3,b4,-⟩,c1,c2⟩<;>exact ⟨a1,by simp[St,sx,b1,b2,b3,b4],c1,c2⟩) ?_ ?_
 ·rintro k t df g hk ⟨rfl,⟨h1,h2,h12,h5,-⟩,g0,hnx⟩ h14 h13
  obtain ⟨x,hx,-,-⟩:=ah hk
  obtain ⟨p,hp,hf⟩:=hq.fs k x (by omega) hx
  obtain ⟨row,q1,q2⟩:=f3 k _ hf
  obtain ⟨va,ca,wa,rfl,hva,hca,hwa⟩:=nG.1 q2
  have hF:=Hw hr hx hp
  obtain ⟨pn,i1,i2,i3⟩:=LQ hr hc hx p
  have hlt:k<frows.length:=by omega
  have hry:=f4 (by omega)
  obtain ⟨R,hR,-,-⟩:=ah (l:=y.2.2) (j:=k) (by rw[hq.sl];exact hk)
  obtain ⟨z,z1,z2,z3⟩:=s3 k R hR
  have hinp:InC (S.aN n k x p).cards (S.ae vals (S.aN n k x p).vars):=iF hc fun u hu=>by rw[aO];exact wG hr hx p u hu
  have hib:=dP hF.cb hinp
  have hpb:=bK (l:=(S.aN n k x p).cards) hF.cb
  have hfv:=hF.vl
  have hp4:=dR (a:=(S.aN n k x p).cards.length) (b:=9) (by
   have h1:=iH (hr.places x (List.mem_of_getElem? hx)) (by omega)
   have h3:=qY x.parents p (k:Int) hp
   show (S.ae _ _).length<=9
   rw[sC];omega)
  have h48:(4:Int) ^ 9=262144:=by decide
  have ei:S.ah (S.aN n k x p).cards (S.ae vals (S.aN n k x p).vars)=(pn:Int):=i1
  have lva:=hva.len
  have rwa:=fun h=>(hwa.tree (h':=h) (Nat.le_refl 0)).ints
  refine bu (P:=fun t' df g'=>df=[]/\g'=(g.new (.cells 3 [[.nils,.nils,.nils]] 0 false false)).put g.nx (.cells 3 [[va,ca,wa]] 0 false false)/\St t' [(1,w'),(2,.hptr 0 0 0 0),(12,fl),(13,.int .i64 (n.nodes.length:Int)),(14,.int .i64 (k:Int)),(5,.int .i64 (S.ac ((List.range k).map (S.aH n vals)))),(6,.int .i64 (k:Int)),(7,.hptr g.nx 0 0 0)]) ?_ ?_
  ·simp only[sx,sy,SO.run,↓reduceIte,Nat.reduceEqDiff,Nat.reduceAdd,Nat.reduceLeDiff,h14,h12,f1,hlt,q1,Option.isSome_some,Option.getD_some]
   simp[St,sx,h1,h2,h12,h13,h14,h5]
  clear h1 h2 h12 h5 h14 h13
  rintro t df g1 ⟨rfl,hg1,⟨h1,h2,h12,h13,h14,h5,h6,h7,-⟩⟩
  have k0:g1.h.get 0=.cells 4 [[.int .i64 n.grain,b,fl,S_]] 0 false false:=by rw[hg1];simp[H.get_put,show ¬0=g.nx by omega,g0]
  have k1:g1.h.get g.nx=.cells 3 [[va,ca,wa]] 0 false false:=by rw[hg1];simp[H.get_put]
  have kn:g1.nx=g.nx+1:=by rw[hg1];simp
  simp only[sx,sy,SO.run,↓reduceIte,Nat.reduceEqDiff,h7,k1,lva]
  refine GF (y:=y) (b:=b) (fl:=fl) (S_:=S_) (wv:=w') (va:=va) (ca:=ca) (wa:=wa) (gr:=n.grain) (wt:=S.ac ((List.range k).map (S.aH n vals))) (p:=(pn:Int)) (f:=S.aN n k x p) (R:=R) (vals:=vals) (mm:=n.nodes.length) (m:=n.nodes.length) (k:=k) (fb:=g.nx) hva hF (hq.st k _ R hf hR) hvl ⟨srows,z,s1,z1,z2,z3⟩ rv ei.symm hinp (by omega)
   ⟨by simp[St,sx,h1,h2,h12,h13,h14,h5,h6,h7,ei],by simpa using k0,by simpa using k1,by simp[ei],by omega⟩ (by simp[sx]) (by simp[sx]) ?_
  clear h1 h2 h12 h13 h14 h5 h6 h7
  rintro t g2 ⟨⟨h1,h2,h12,h13,h14,h5,h6,h7,h20,h8,-⟩,k0,k1,-,hnx2⟩
  have hnil:S.ah ((S.aN n k x p).cards.drop (S.aN n k x p).vars.length) ((S.ae vals (S.aN n k x p).vars).drop (S.aN n k x p).vars.length)=0:=by
   rw[List.drop_of_length_le (by rw[hF.cl];exact Nat.le_refl _)];rfl
  rw[hnil,Int.sub_zero] at h8
  have u1:pn<((S.aN n k x p).w.map ci).length:=by
   rw[List.length_map]
   exact (List.getElem?_eq_some_iff.1 i3).1
  have u2:((S.aN n k x p).w.map ci)[pn]?=some (ci (S.aH n vals k)):=by rw[List.getElem?_map];exact congrArg (Option.map ci) i3
  have wb:=mo hr hc (j:=k+1) (by omega)
  have ws:=sL n vals k
  have w1:IntKind.wrap .i64 (S.ac ((List.range k).map (S.aH n vals))*S.aH n vals k)=S.ac ((List.range (k+1)).map (S.aH n vals)):=by rw[<-ws,ap (by omega) (by omega)]
  simp only[eF,sx,sy,SO.run,↓reduceIte,Nat.reduceEqDiff,h5,h7,k1,h8,rwa,u1,u2,ci,Option.isSome_some,Option.getD_some,w1]
  exact ⟨⟨by simp[St,sx,h1,h2,h12],k0,hnx2⟩,h14,h13⟩
 ·rintro t df g ⟨rfl,⟨h1,h2,h12,h5,-⟩,g0,hnx⟩
  simp only[eD,sx,SO.run,↓reduceIte,h5]
  rfl
def S.bu (vals e:List Int)(i:Nat):Bool:=decide (e[i]?.getD 0 = -1) || decide (e[i]?.getD 0=vals[i]?.getD 0)
def S.jm (vals e:List Int):Bool:=(List.range e.length).all (S.bu vals e)
theorem Bz {vals e:List Int}(h:∀x∈e,-1<=x):S.jm vals e=S.aC vals e:=by
 have key:S.bu vals e=S.bj vals e:=by
  funext i
  have h1:-1<=e[i]?.getD 0:=by
   cases hx:e[i]? with
   | none=>decide
   | some x=>exact h x (List.mem_of_getElem? hx)
  unfold S.bu S.bj
  generalize e[i]?.getD 0=x at h1
  congr 1
  rw[decide_eq_decide]
  omega
 rw[S.jm,S.aC,key]
theorem xE {d k k2:Nat}{g:G}{P P2:Nat->Prop}{v w:AV}{vals e:List Int}(hd:0<d)(hv:SlR P k g.h vals v)(hw:SlR P2 k2 g.h e w)(hl:e.length<=vals.length) :
  ae C0 d N.a7 [v,w] g=.val (.bool (S.jm vals e)):=by
 obtain ⟨v',e1,r1⟩:=bF hv d
 obtain ⟨w',e2,r2⟩:=bF hw d
 have ra:∀h',af h' 1 v'=some (vals.map ci):=fun h'=>(r1 h').ints
 have rb:∀h',af h' 1 w'=some (e.map ci):=fun h'=>(r2 h').ints
 have n2:=fun g=>(r2 .nil).len g
 rw[sw]
 refine dL uz (xs:=[v',w']) (by simp only[aB,e1,e2]) (by simp[jt]) hd ?_
 simp only[jt,kH,sx,SO.run,↓reduceIte,Nat.reduceEqDiff,n2]
 refine bA (m:=e.length) hw.1 (fun j t df g=>df=[]/\St t [(0,v'),(8,w'),(5,.bool true)]/\(List.range j).all (S.bu vals e)=true) ⟨rfl,by simp[St,sx],rfl⟩ (by simp[sx]) (by simp[sx]) (by decide) (by rintro j t df g v s (rfl | rfl | rfl)<;>simp[St,sx]) ?_ ?_
 ·rintro j t df g hj ⟨rfl,⟨h0,h8,h5,-⟩,hA⟩ h10 h9
  obtain ⟨x,hx,-,-⟩:=ah hj
  obtain ⟨z,hz,-,-⟩:=ah (l:=vals) (j:=j) (by omega)
  have q1:j<(e.map ci).length:=by simpa using hj
  have q2:j<(vals.map ci).length:=by rw[List.length_map];omega
  have q3:(e.map ci)[j]?=some (ci x):=by rw[List.getElem?_map,hx];rfl
  have q4:(vals.map ci)[j]?=some (ci z):=by rw[List.getElem?_map,hz];rfl
  have hat:S.bu vals e j=(decide (x = -1) || decide (x=z)):=by simp[S.bu,hx,hz]
  by_cases c1:x = -1
  ·subst c1
   simp only[sx,sy,SO.run,↓reduceIte,Nat.reduceEqDiff,h10,h9,h8,rb,q1,q3,ci,Option.isSome_some,Option.getD_some,decide_true]
   refine ⟨by simp[St,sx,h0,h8,h5],?_⟩
   rw[cX,hA,hat];simp
  ·by_cases c2:x=z
   ·subst c2
    simp only[sx,sy,SO.run,↓reduceIte,Nat.reduceEqDiff,h10,h9,h8,h0,ra,rb,q1,q2,q3,q4,ci,Option.isSome_some,Option.getD_some,c1,decide_true,decide_false]
    refine ⟨by simp[St,sx,h0,h8,h5],?_⟩
    rw[cX,hA,hat];simp
   ·have:S.bu vals e j=false:=by rw[hat];simp[c1,c2]
    have hf:S.jm vals e=false:=by rw[S.jm,fI hj this]
    simp only[sx,sy,SO.run,↓reduceIte,Nat.reduceEqDiff,h10,h8,h0,ra,rb,q1,q2,q3,q4,ci,Option.isSome_some,Option.getD_some,c1,c2,decide_false,fN,hf]
 ·rintro t df g ⟨rfl,⟨h0,h8,h5,-⟩,hA⟩
  simp only[fN,sx,SO.run,↓reduceIte,h5]
  rw[S.jm,hA]
end
end Hx
end
section
namespace Hx
open Go
noncomputable section
theorem JK {α:Type} [Rp α]{P:Nat->Prop}{k:Nat}{h:H}{l:List α}{w:AV}(hw:SlR P k h l w)(g:G):HC w g=.upd (.hptr g.nx 0 0 0) (g.new (.cells 1 [[w]] 0 false false)):=by
 rw[Dj _ _ hw.cell.2,hw.cell.1];rfl
def Ia {α:Type} [Rp α](x:α)(sz:Nat):VS:=fun P k h v=>(∃id cs,v=.hptr id 0 0 0/\P id/\h.get id=.cells sz [cs] 0 false false/\Rp.rp P k h x cs)\/∃t cs,v=.tptr t sz [cs] 0 0/\t<=k/\Rp.rp NoP k .nil x cs
theorem Bv {α:Type} [Rp α]{x:α}{sz:Nat}{P:Nat->Prop}{k:Nat}{h:H}{v:AV}{n:Nat}(d:Nat)(r:Ia x sz P k h v)(hn:Rp.dp α<=n)(hd:Rp.dp α<=20:=by decide):∃v',Hx.snap h d (n+1) v=some v'/\Ia x sz NoP (max k d) .nil v':=by
 rcases r with ⟨id,cs,rfl,-,hg,r⟩ | ⟨t,cs,rfl,ht,r⟩
 ·obtain ⟨cs',e,r'⟩:=Rp.snap (n:=n) d r hn (by show _<=24;omega)
  obtain ⟨m,e2,l2⟩:=Rp.tag (n:=aC) r' (by show _<=24;omega)
  refine ⟨.tptr (Nat.max d (Nat.max m 0)) sz [cs'] 0 0,?_,.inr ⟨_,cs',rfl,?_,r'⟩⟩
  ·simp only[Hx.snap,hg,show Nat.beq 0 0=true from rfl,aB,e,eW,fW,e2]
  ·show max d (max m 0)<=max k d
   omega
 ·exact ⟨.tptr t sz [cs] 0 0,rfl,.inr ⟨t,cs,rfl,by omega,Rp.mono r (fun i hi=>hi.elim) (by omega)⟩⟩
theorem Fp {α:Type} [Rp α]{x:α}{sz:Nat}{k:Nat}{h:H}{v:AV}{n:Nat}(r:Ia x sz NoP k h v):∃m,dU (n+1) v=some m/\m<=k:=by
 rcases r with ⟨id,cs,rfl,hP,-⟩ | ⟨t,cs,rfl,ht,r⟩
 ·exact hP.elim
 ·exact ⟨t,rfl,ht⟩
def MtV (y:QnM)(e:List Int):VS:=fun P k h v=>∃p q,v=.clo N.ah [] [p,q]/\Ia y 4 P k h p/\Ia e 1 P k h q
theorem Mk (y:QnM)(e:List Int):Snb (MtV y e) 2:=by
 refine ⟨fun {P k h v n} d r hn=>?_,fun {k h v n} r hn=>?_⟩
 ·obtain ⟨p,q,rfl,r1,r2⟩:=r
  obtain ⟨n,rfl⟩:∃q,n=q+2:=⟨n - 2,by omega⟩
  obtain ⟨p',e1,r1'⟩:=Bv (n:=n) d r1 (Nat.le_trans (show Rp.dp QnM<=20 by decide) (by omega))
  obtain ⟨q',e2,r2'⟩:=Bv (n:=n) d r2 (Nat.le_trans (show Rp.dp (List Int)<=20 by decide) (by omega))
  refine ⟨.clo N.ah [] [p',q'],?_,p',q',rfl,r1',r2'⟩
  simp only[Hx.snap,aB] at e1 e2 ⊢
  rw[e1,e2]
 ·obtain ⟨p,q,rfl,r1,r2⟩:=r
  obtain ⟨n,rfl⟩:∃q,n=q+2:=⟨n - 2,by omega⟩
  obtain ⟨m1,e1,l1⟩:=Fp (n:=n) r1
  obtain ⟨m2,e2,l2⟩:=Fp (n:=n) r2
  refine ⟨Nat.max m1 (Nat.max m2 0),?_,by show max m1 (max m2 0)<=k;omega⟩
  show fW (dU (n+1)) [p,q]=_
  simp only[fW,e1,e2]
theorem vM {d:Nat}{g:G}{v w:AV}{y:QnM}{e:List Int}(hd:0<d)(hm:Agg y NoP 0 g.h v)(hw:SlR NoP 0 g.h e w) :
  ∃cs z,ae C0 d N.aO [v,w] g=.val (.clo N.ah [] [.tptr 0 4 [cs] 0 0,.tptr 0 1 [[z]] 0 0])/\Rp.rp NoP 0 .nil y cs/\SlR NoP 0 .nil e z:=by
 have e0:=ea d hm
 obtain ⟨cs,rfl,hc⟩:=hm
 obtain ⟨a,b,c,rfl,h1,h2,h3⟩:=vG.1 hc
 have key:∃r,ae C0 d N.aO [.agg [.int .i64 y.1.grain,a,b,c],w] g=.val r/\MtV y e NoP 0 .nil r:=by
  rw[jv]
  refine aM j3 (xs:=[.agg [.int .i64 y.1.grain,a,b,c],w]) (by simp only[aB,e0,cG d hw]) (by simp[cz]) (Mk y e) (by decide) hd ?_
  simp only[cz,d6,sx,sy,SO.run,↓reduceIte,Nat.reduceEqDiff,Nat.reduceAdd,JK hw]
  refine ⟨fun _=>True,_,_,rfl,.inl ⟨0,_,rfl,trivial,by simp[sx,H.get_put],Rp.tree hc (Nat.le_refl _)⟩,.inl ⟨1,[w],rfl,trivial,by simp[sx],?_⟩⟩
  exact ⟨w,rfl,hw.wide (Nat.le_refl 0)⟩
 obtain ⟨r,hr,p,q,rfl,r1,r2⟩:=key
 rcases r1 with ⟨id,cs,rfl,hP,-⟩ | ⟨t,cs,rfl,ht,r1⟩
 ·exact hP.elim
 rcases r2 with ⟨id,cs,rfl,hP,-⟩ | ⟨t2,cs2,rfl,ht2,r2⟩
 ·exact hP.elim
 obtain ⟨z,rfl,hz⟩:=cK.1 r2
 have:t=0:=by omega
 subst this
 have:t2=0:=by omega
 subst this
 exact ⟨cs,z,hr,r1,hz⟩
theorem Hf {cs vs:List Int}(h:InC cs vs)(hc:∀c∈cs,1<=c){i:Nat}{x c:Int}(hi:vs[i]?=some x)(hci:cs[i]?=some c)(hx:x≠c - 1):InC cs (vs.take i++(x+1)::List.replicate (vs.length - (i+1)) 0):=by
 have hil:=(List.getElem?_eq_some_iff.1 hi).1
 have hl:=h.len
 refine AT (by simp;omega) fun j c' v hj hv=>?_
 obtain ⟨v',h1,h2,h3⟩:=h.get hj
 have hcp:=hc c' (List.mem_of_getElem? hj)
 by_cases h4:j<i
 ·rw[List.getElem?_append_left (by simp;omega),List.getElem?_take_of_lt h4] at hv
  rw[h1] at hv;injection hv with hv;omega
 ·rw[List.getElem?_append_right (by simp;omega)] at hv
  rw[List.length_take,Nat.min_eq_left (by omega)] at hv
  by_cases h5:j=i
  ·subst h5
   rw[Nat.sub_self] at hv
   simp at hv
   rw[hi] at h1;injection h1 with h1
   rw[hci] at hj;injection hj with hj
   omega
  ·obtain ⟨m,hm⟩:∃m,j - i=m+1:=⟨j - i - 1,by omega⟩
   rw[hm,List.getElem?_cons_succ] at hv
   have:=List.mem_of_getElem? hv
   rw[List.mem_replicate] at this
   omega
theorem Iy {cs:List Int}(hc:∀c∈cs,1<=c):InC cs (List.replicate cs.length 0) :=
 AT (by simp) fun j c v hj hv=>by
  have:=List.mem_of_getElem? hv
  rw[List.mem_replicate] at this
  have:=hc c (List.mem_of_getElem? hj)
  omega
end
end Hx
end
section
namespace Hx
open Go
noncomputable section
theorem Av {vs:List Int}{m:Nat}(h:m<vs.length):(vs.take (m+1)++List.replicate (vs.length - (m+1)) 0).set m 0=vs.take m++List.replicate (vs.length - m) 0:=by
 rw[List.take_succ_eq_append_getElem h,List.append_assoc,List.set_append_right _ _ (by simp;omega),List.length_take,Nat.min_eq_left (by omega),Nat.sub_self]
 rw[show vs.length - m=(vs.length - (m+1))+1 by omega,List.replicate_succ]
 rfl
theorem AS {vs:List Int}{m:Nat}(h:m<vs.length)(y:Int):(vs.take (m+1)++List.replicate (vs.length - (m+1)) 0).set m y=vs.take m++y::List.replicate (vs.length - (m+1)) 0:=by
 rw[List.take_succ_eq_append_getElem h,List.append_assoc,List.set_append_right _ _ (by simp;omega),List.length_take,Nat.min_eq_left (by omega),Nat.sub_self]
 rfl
structure OdoJ (n:Net) (vs:List Int) (L:List (Nat×AV)) (u:AV) (g0:G) (m:Nat) (t:T) (g:G):Prop where
 st:tat t 6=.int .i64 ((m:Int) - 1)
 ss:St t L
 ow:Own g g0.nx u 1 ((vs.take m++List.replicate (vs.length - m) 0).map ci)
 mx:∀(j:Nat) (c:Int),m<=j->(S.aa n)[j]?=some c->vs[j]?.getD 0=c - 1
def LM (id:Nat)(gr:Int)(b fl S_ w u:AV)(k:Nat):List (Nat×AV):=[(0,.yld id),(1,.tptr 0 4 [[.int .i64 gr,b,fl,S_]] 0 0),(2,.tptr 0 1 [[w]] 0 0),(4,u),(5,.int .i64 (k:Int))]
theorem GR {d id k m:Nat}{n:Net}{b fl S_ w u:AV}{vs:List Int}{Q:QT}{t:T}{g g0:G}(hr:NR n)(hN:SlR NoP 0 .nil n.nodes b)(hc:InC (S.aa n) vs)(hm:m<=n.nodes.length)
  (h0:OdoJ n vs (LM id n.grain b fl S_ w u k) u g0 m t g)
  (fin:∀m' t g',m'<=n.nodes.length->OdoJ n vs (LM id n.grain b fl S_ w u k) u g0 m' t g'->g.nx<=g'.nx->(∀i,vid u≠some i->g'.h.get i=g.h.get i)->(m'=0\/∃x c,vs[m' - 1]?=some x/\(S.aa n)[m' - 1]?=some c/\x≠c - 1/\0<m')->Q (.exit 2) t [] g') :
  wpL (wp C0 d none bi) Q t [] g:=by
 obtain ⟨rows,r1,r2,r3,r4⟩:=hN.all
 have r1:∀h',af h' 3 b=some rows:=r1
 have hvl:=hc.len
 rw[aO] at hvl
 have hl8:=hr.l2
 refine e_ (fun m t df g'=>df=[]/\m<=n.nodes.length/\OdoJ n vs (LM id n.grain b fl S_ w u k) u g0 m t g'/\g.nx<=g'.nx/\∀i,vid u≠some i->g'.h.get i=g.h.get i) m ⟨rfl,hm,h0,Nat.le_refl _,fun _ _=>rfl⟩ ?_
 rintro m t df g1 ⟨rfl,hm,⟨h6,⟨h0,h1,h2,h4,h5,-⟩,how,hmx⟩,hnx,hfr⟩
 simp only[bi]
 cases m with
 | zero =>
  have c1:¬((0:Int)<=((0:Nat):Int) - 1):=by omega
  simp only[sx,sy,SO.run,↓reduceIte,Nat.reduceEqDiff,h6,c1,decide_false]
  refine fin 0 _ _ (Nat.zero_le _) ⟨?_,?_,?_,hmx⟩ ?_ ?_ (.inl rfl)
  ·simp[sx,h6]
  ·simp[St,LM,sx,h0,h1,h2,h4,h5]
  ·exact how
  ·exact hnx
  ·exact hfr
 | succ m =>
  have c1:(0:Int)<=((m+1:Nat):Int) - 1:=by omega
  have e1:((m+1:Nat):Int) - 1=(m:Int):=by omega
  rw[e1] at c1 h6
  obtain ⟨x,hx,-,-⟩:=ah (l:=n.nodes) (j:=m) (by omega)
  obtain ⟨row,q1,q2⟩:=r3 m x hx
  obtain ⟨pa,ra,rfl,-,-⟩:=bO.1 q2
  have hlt:m<rows.length:=by omega
  have hry:=r4 (by omega)
  have hci:(S.aa n)[m]?=some x.card:=by simp[S.aa,hx]
  obtain ⟨v,hv,hv0,hv1⟩:=hc.get hci
  have hcx:=hr.card x (List.mem_of_getElem? hx)
  have u1:m<((vs.take (m+1)++List.replicate (vs.length - (m+1)) 0).map ci).length:=by simp;omega
  have u2:((vs.take (m+1)++List.replicate (vs.length - (m+1)) 0).map ci)[m]?=some (ci v):=by
   rw[List.getElem?_map,List.getElem?_append_left (by simp;omega),List.getElem?_take_of_lt (by omega),hv];rfl
  have ru:=how.rows
  have w1:IntKind.wrap .i64 (x.card - 1)=x.card - 1:=ap (by omega) (by omega)
  by_cases c2:v=x.card - 1
  ·simp only[sx,sy,SO.run,↓reduceIte,Nat.reduceEqDiff,h6,h1,h4,c1,decide_true,ru,u1,u2,r1,hlt,q1,hry,tW,it,ci,Option.isSome_some,Option.getD_some,w1,c2]
   refine bC (v:=u) (sz:=1) (n:=1) (i:=m) (off:=0) (x:=.int .i64 0) (row':=ci 0) how u2 rfl rfl rfl fun g4 hu4 n4 f4=>?_
   rw[<-List.map_set,Av (by omega)] at hu4
   have w2:IntKind.wrap .i64 ((m:Int) - 1)=(m:Int) - 1:=ap (by omega) (by omega)
   simp only[sx,sy,SO.run,↓reduceIte,Nat.reduceEqDiff,h6,w2]
   refine ⟨m,by omega,by omega,⟨by simp[sx],by simp[St,LM,sx,h0,h1,h2,h4,h5],hu4,fun j c hj hc'=>?_⟩,by omega,fun i hi=>by rw[f4 i hi,hfr i hi]⟩
   by_cases e:j=m
   ·subst e
    rw[hci] at hc';injection hc' with hc'
    rw[hv,Option.getD_some];omega
   ·exact hmx j c (by omega) hc'
  ·simp only[sx,sy,SO.run,↓reduceIte,Nat.reduceEqDiff,h6,h1,h4,c1,decide_true,decide_false,ru,u1,u2,r1,hlt,q1,hry,tW,it,ci,Option.isSome_some,Option.getD_some,w1,c2]
   refine fin (m+1) _ _ hm ⟨?_,?_,?_,hmx⟩ ?_ ?_ (.inr ⟨v,x.card,hv,hci,c2,by omega⟩)
   ·simp[sx,h6]
   ·simp[St,LM,sx,h0,h1,h2,h4,h5]
   ·exact how
   ·exact hnx
   ·exact hfr
theorem Mu {a b u:AV}(ha:a.cells=[a]/\a.isTup=false)(hb:b.cells=[b]/\b.isTup=false)(hu:u.cells=[u]/\u.isTup=false):dz [.int .i64 0,.int .i64 0,.nils] [((0,1),a),((1,1),b),((2,1),u)]=some [a,b,u]:=by
 simp[dz,ha,hb,hu,cL]
 rfl
theorem Gw {d id:Nat}{n:Net}{y:QnM}{e:List Int}{b fl S_ w:AV}{g0:G}{K:AV->G->Prop}(hd:0<d)(hr:NR n)(hq:QnOk n y)(hcs:Rp.rp NoP 0 .nil y [.int .i64 n.grain,b,fl,S_])(hw:SlR NoP 0 .nil e w)(hel:e.length<=n.nodes.length)
  (J:Nat->H->Prop) (E:G->Prop) (hJ:∀j h h',(∀i,i<g0.nx->h'.get i=h.get i)->J j h->J j h')
  (skip:∀(j:Nat) (h:H),j<S.aF n->S.jm (S.ak (S.aa n) j) e=false->J j h->J (j+1) h)
  (step:∀(j:Nat) (u:AV) (g:G) (K':AV->G->Prop) (D:ADf->Prop),j<S.aF n->S.jm (S.ak (S.aa n) j) e=true->g0.nx<=g.nx->J j g.h->SlR (fun i=>g0.nx<=i/\i<g.nx) 0 g.h (S.ak (S.aa n) j) u ->
   (∀g',J (j+1) g'.h->g.nx<=g'.nx->(∀i,g0.nx<=i->i<g.nx->g'.h.get i=g.h.get i)->K' (.bool true) g')->(∀g',E g'->K' (.bool false) g')->(cC (I C0) d id [.agg [.int .i64 (j:Int),.int .i64 (S.aP n (S.ak (S.aa n) j)),u]] g).sat K' g D)
  (h0:J 0 g0.h) (fin:∀g',J (S.aF n) g'.h->g0.nx<=g'.nx->K (.tup []) g') (finE:∀g',E g'->K (.tup []) g') :
  wp C0 d none aG.code (fnQ C0 d aG.res K) (bZ 0 [.yld id,.tptr 0 4 [[.int .i64 n.grain,b,fl,S_]] 0 0,.tptr 0 1 [[w]] 0 0] .nil) [] g0:=by
 obtain ⟨b',fl',S',e1,hN,hfl,hS⟩:=vG.1 hcs
 injection e1 with e1 e2
 injection e2 with e2 e3
 injection e3 with e3 e4
 injection e4 with e4 e5
 subst e2;subst e3;subst e4
 have hN:SlR NoP 0 .nil n.nodes b:=by rw[<-hq.net];exact hN
 have hl8:=hr.l2
 have hl1:=hr.l1
 obtain ⟨W1,W2,W3⟩:=hr.wl
 have hcs1:=fun c hc=>(hr.cs c hc).1
 have nl:=hN.len
 have hcl:=aO n
 obtain ⟨Qf,hQf⟩:∃Qf,Qf=fnQ C0 d aG.res K:=⟨_,rfl⟩
 rw[<-hQf]
 simp only[aG,sx,sy,SO.run,↓reduceIte,Nat.reduceEqDiff,tW,it,nl]
 refine ol (b:=g0.nx) (n:=n.nodes.length) (by unfold aT;omega) (by unfold aT;omega) (Nat.le_refl _) fun u g1 hu n1 fr1 v1=>?_
 simp only[sx,SO.run,↓reduceIte]
 have hul:∀(g:G) (l:List Int),l.length=n.nodes.length->Own g g0.nx u 1 (l.map ci)->∀g2:G,fu .slice u g2=.val (.int .i64 (n.nodes.length:Int)):=fun g l hl ho g2=>by rw[ck ho.rows];simp[hl]
 obtain ⟨INV,hINV⟩:∃INV:Nat->PT,INV=(fun m t df g=>df=[]/\∃(j:Nat) (vs:List Int),m=S.aF n - j/\j<S.aF n/\InC (S.aa n) vs/\S.ah (S.aa n) vs=(j:Int)/\St t (LM id n.grain b fl S_ w u j)/\Own g g0.nx u 1 (vs.map ci)/\J j g.h/\g0.nx<=g.nx):=⟨_,rfl⟩
 refine e_ INV (S.aF n) ?_ ?_
 ·rw[hINV]
  exact ⟨rfl,0,List.replicate n.nodes.length 0,rfl,by omega,by rw[<-hcl];exact Iy hcs1,by rw[xW];rfl,by simp[St,LM,sx],by simpa [ci] using hu,hJ 0 _ _ (fun i hi=>fr1 i hi) h0,by omega⟩
 intro m t df g hI
 have hI2:=hI
 rw[hINV] at hI2
 obtain ⟨rfl,j,vs,rfl,hj,hin,hidx,⟨h0,h1,h2,h4,h5,-⟩,ho,hJj,hnx⟩:=hI2
 clear hI
 have hvl:=hin.len
 rw[aO] at hvl
 have hval:S.ak (S.aa n) (j:Int)=vs:=by rw[<-hidx];exact DX hcs1 hin
 have hvu:vid u=some g0.nx:=v1
 have hsl:SlR (fun i=>g0.nx<=i/\i<g.nx) 0 g.h vs u:=Own.sl (α:=Int) ho (by omega) (All2.of_map (fun a=>aH.2 rfl) _) fun i hi=>ho.lt hi
 have hmt:=xE (d:=d) (g:=g) (v:=u) (w:=w) (vals:=vs) (e:=e) hd hsl (hw.tree (h':=g.h) (Nat.le_refl 0)) (by omega)
 have hlu:=hul g vs hvl ho
 have w1:IntKind.wrap .i64 ((n.nodes.length:Int) - 1)=(n.nodes.length:Int) - 1:=ap (by omega) (by omega)
 obtain ⟨R,hR⟩:∃R,R=SC.seq (.ops [o 28 (.mv (.t 4)),o 29 (.len .slice (.t 28)),o 30 (.bin .sub (.t 29) (.k (.int .i64 1))),o 6 (.mv (.t 30))]) (.seq (.blk 2 (.loop bi)) bf):=⟨_,rfl⟩
 simp only[cV]
 rw[<-hR,dB,uI]
 obtain ⟨Q1,hQ1⟩:∃Q1,Q1=kB 1 (kS (wp C0 d none bL (kL INV (S.aF n - j) (kB 0 Qf))) (kL INV (S.aF n - j) (kB 0 Qf))):=⟨_,rfl⟩
 rw[<-hQ1]
 have rest:∀(t:T) (g:G),St t (LM id n.grain b fl S_ w u j)->Own g g0.nx u 1 (vs.map ci)->J (j+1) g.h->g0.nx<=g.nx->wp C0 d none R Q1 t [] g:=by
  rintro t g ⟨h0,h1,h2,h4,h5,-⟩ ho hJj hnx
  rw[hR,hQ1]
  simp only[sx,SO.run,↓reduceIte,h4,hlu,w1]
  refine GR (id:=id) (k:=j) (m:=n.nodes.length) (n:=n) (b:=b) (fl:=fl) (S_:=S_) (w:=w) (u:=u) (vs:=vs) (g0:=g0) hr hN hin (Nat.le_refl _) ⟨by simp[sx],by simp[St,LM,sx,h0,h1,h2,h4,h5],?_,fun i c hi hc=>?_⟩ ?_
  ·rw[List.take_of_length_le (by omega),show vs.length - n.nodes.length=0 by omega]
   simpa using ho
  ·have:=(List.getElem?_eq_some_iff.1 hc).1
   omega
  rintro m' t2 g2 hm' ⟨h6,⟨h0,h1,h2,h4,h5,-⟩,ho2,hmx⟩ hn2 hf2 hcase
  have hJ2:J (j+1) g2.h:=hJ _ _ _ (fun i hi=>hf2 i fun e=>by rw[hvu] at e;injection e with e;omega) hJj
  rcases hcase with rfl | ⟨x,c,hx,hc,hxc,hm0⟩
  ·have hlast:j+1=S.aF n:=by
    have:=Bm (cs:=S.aa n) (vs:=vs) hin.len.symm fun i c hc=>hmx i c (Nat.zero_le _) hc
    omega
   have c1:(((0:Nat):Int) - 1<0):=by omega
   rw[hQf]
   simp only[bf,aG,sx,SO.run,↓reduceIte,h6,c1,decide_true]
   rw[hlast] at hJ2
   exact fin g2 hJ2 (by omega)
  ·obtain ⟨i,rfl⟩:∃i,m'=i+1:=⟨m' - 1,by omega⟩
   rw[Nat.add_sub_cancel] at hx hc
   have hil:=(List.getElem?_eq_some_iff.1 hx).1
   have e1:((i+1:Nat):Int) - 1=(i:Int):=by omega
   rw[e1] at h6
   have c1:¬((i:Int)<0):=by omega
   have u1:i<((vs.take (i+1)++List.replicate (vs.length - (i+1)) 0).map ci).length:=by simp;omega
   have u2:((vs.take (i+1)++List.replicate (vs.length - (i+1)) 0).map ci)[i]?=some (ci x):=by
    rw[List.getElem?_map,List.getElem?_append_left (by simp;omega),List.getElem?_take_of_lt (by omega),hx];rfl
   have ru:=ho2.rows
   obtain ⟨x',hx',hx0,hx1⟩:=hin.get hc
   rw[Ev hx' hx] at hx0 hx1
   have hcb:=hr.cs c (List.mem_of_getElem? hc)
   have w2:IntKind.wrap .i64 (x+1)=x+1:=ap (by omega) (by omega)
   simp only[bf,sx,SO.run,↓reduceIte,Nat.reduceEqDiff,h6,c1,decide_false,h4,ru,u1,u2,ci,Option.isSome_some,Option.getD_some,w2]
   refine bC (v:=u) (sz:=1) (n:=1) (i:=i) (off:=0) (x:=.int .i64 (x+1)) (row':=ci (x+1)) ho2 u2 rfl rfl rfl fun g4 hu4 n4 f4=>?_
   rw[<-List.map_set,AS hil] at hu4
   have hin2:=Hf hin hcs1 hx hc hxc
   have hidx2:=Im (cs:=S.aa n) (vs:=vs) hin.len.symm hx fun k c hk hc=>hmx k c (by omega) hc
   rw[hidx] at hidx2
   have hlt2:=dP hr.cs hin2
   have w3:IntKind.wrap .i64 ((j:Int)+1)=((j+1:Nat):Int):=by rw[ap (by omega) (by omega)];rfl
   simp only[bL,sx,SO.run,↓reduceIte,Nat.reduceEqDiff,h5,w3]
   refine ⟨S.aF n - (j+1),by omega,?_⟩
   rw[hINV]
   refine ⟨rfl,j+1,_,rfl,by omega,hin2,by rw[hidx2];rfl,by simp[St,LM,sx,h0,h1,h2,h4],hu4,hJ _ _ _ (fun i hi=>f4 i fun e=>by rw[hvu] at e;injection e with e;omega) hJ2,by omega⟩
 cases hm:S.jm vs e with
 | false =>
  rw[hm] at hmt
  rw[dB]
  simp only[sx,SO.run,↓reduceIte,Nat.reduceEqDiff,h4,h2,it,hmt]
  exact rest _ _ (by simp[St,LM,sx,h0,h1,h2,h4,h5]) ho (skip j _ hj (by rw[hval];exact hm) hJj) hnx
 | true =>
  rw[hm] at hmt
  rw[dB]
  have hwt:=GE (d:=d) (g:=g) (v:=.agg [.int .i64 n.grain,b,fl,S_]) (w:=u) (vals:=vs) (y:=y) hd hr ⟨_,rfl,Rp.tree hcs (Nat.le_refl 0)⟩ hq hsl hin
  simp only[sx,sy,SO.run,↓reduceIte,Nat.reduceEqDiff,Nat.reduceAdd,Nat.reduceLeDiff,h0,h1,h5,h4,h2,it,hmt,hwt,Mu (a:=.int .i64 (j:Int)) (b:=.int .i64 (S.aP n vs)) ⟨rfl,rfl⟩ ⟨rfl,rfl⟩ ho.cell]
  have st:=fun K' D=>step j u g K' D hj (by rw[hval];exact hm) hnx hJj (by rw[hval];exact hsl)
  rw[hval] at st
  show (cC (I C0) d id [.agg [.int .i64 (j:Int),.int .i64 (S.aP n vs),u]] g).sat _ _ _
  refine st _ _ (fun g' hJ' hn' hf'=>?_) fun g' hE=>?_
  ·simp only[sx,SO.run,↓reduceIte,Nat.reduceEqDiff,Bool.not_true]
   exact rest _ _ (by simp[St,LM,sx,h0,h1,h2,h4,h5]) (ho.fr hn' fun i hi=>hf' i (ho.lt hi).1 (ho.lt hi).2) hJ' (by omega)
  ·rw[hQ1,hQf]
   simp only[aG,sx,SO.run,↓reduceIte,Nat.reduceEqDiff,Bool.not_false]
   exact finE g' hE
theorem FV {C:Cfg}{d id nt:Nat}{t:T}{ps:List Nat}{assign body:Code}{a b:SC}{dfr:Nat}{args:List AV}{g:G}{K:AV->G->Prop}{D:ADf->Prop}{t':T}
  (hg:g.h.get id=.loop nt t ps assign body dfr .ready none) (ha:dO C nt assign=a) (hb:dO C nt body=b) (hp:dj t nt ps args=some t')
  (h:wp C d (some id) a (fun e t1 df g1=>e=.norm/\df=[]/\g1.h.get id=.loop nt t ps assign body dfr .ready none /\
   wp C d (some id) b (fun e _ df g2=>df=[]/\g2.h.get id=.loop nt t ps assign body dfr .busy none/\((e=.norm/\K (.bool true) (g2.put id (.loop nt t ps assign body dfr .ready none)))\/(e=.ret/\K (.bool false) (g2.put id (.loop nt t ps assign body dfr .done (some .ret))))))
    t1 [] (g1.put id (.loop nt t ps assign body dfr .busy none))) t' [] g) :
  (cC (I C) d id args g).sat K g D:=by
 subst ha;subst hb
 unfold cC
 rw[show g.get id=_ from hg]
 dsimp only
 rw[hp]
 dsimp only
 have h1:=q7 h
 cases hc:(I C).code nt d (some id) assign t' [] g with
 | fail=>rw[hc] at h1;exact h1.elim
 | ok e t1 df g1 =>
  rw[hc] at h1
  obtain ⟨rfl,rfl,hg1,h2⟩:=h1
  dsimp only
  rw[show g1.get id=_ from hg1]
  dsimp only
  have h3:=q7 h2
  cases hc2:(I C).code nt d (some id) body t1 [] (g1.put id (.loop nt t ps assign body dfr .busy none)) with
  | fail=>rw[hc2] at h3;exact h3.elim
  | ok e t2 df2 g2 =>
   rw[hc2] at h3
   obtain ⟨rfl,h4,h5⟩:=h3
   dsimp only
   rw[show g2.get id=_ from h4]
   rcases h5 with ⟨rfl,h5⟩ | ⟨rfl,h5⟩<;>exact h5
theorem CL:C0.ext N.ah=none:=by kernel_rfl
theorem Am {d nt p r:Nat}{n:Net}{y:QnM}{e:List Int}{cs:List AV}{w:AV}{ca cb:SC}{Q:QT}{t:T}{g:G}(hd:0<d)(hr:NR n)(hq:QnOk n y)(hcs:Rp.rp NoP 0 .nil y cs)(hw:SlR NoP 0 .nil e w)(hel:e.length<=n.nodes.length)
  (hv:tat t r=.clo N.ah [] [.tptr 0 4 [cs] 0 0,.tptr 0 1 [[w]] 0 0]) (hp:p<nt)
  (J:Nat->H->Prop) (E:H->Prop) (hJ:∀j h h',(∀i,i<g.nx->h'.get i=h.get i)->J j h->J j h') (hE:∀h h',(∀i,i<g.nx->h'.get i=h.get i)->E h->E h') (h0:J 0 g.h)
  (skip:∀(j:Nat) (h:H),j<S.aF n->S.jm (S.ak (S.aa n) j) e=false->J j h->J (j+1) h)
  (step:∀(j:Nat) (u:AV) (g1:G),j<S.aF n->S.jm (S.ak (S.aa n) j) e=true->J j g1.h->g.nx+2<=g1.nx->SlR (fun i=>g.nx+2<=i/\i<g1.nx) 0 g1.h (S.ak (S.aa n) j) u ->
   wp C0 d (some (g.nx+1)) ca (fun e t1 df g1'=>e=.norm/\df=[]/\Fr g1 g1'/\∀g2:G,g2.nx=g1'.nx->(∀i,i≠g.nx+1->g2.h.get i=g1'.h.get i) ->
    wp C0 d (some (g.nx+1)) cb (fun e _ df g3=>df=[]/\RowQ g.nx g2 g3 e (J (j+1) g3.h) (E g3.h)) t1 [] g2)
    (fj t p (.agg [.int .i64 (j:Int),.int .i64 (S.aP n (S.ak (S.aa n) j)),u])) [] g1)
  (fin:∀g',J (S.aF n) g'.h->g.nx+2<=g'.nx->g'.h.get g.nx=.dfr true->Q .norm t [.mark g.nx] g')
  (finE:∀g',E g'.h->g.nx+2<=g'.nx->g'.h.get g.nx=.dfr true->Q .ret t [.mark g.nx] g') :
  wp C0 d none (.rng nt (.t r) [p] ca cb) Q t [] g:=by
 obtain ⟨b,fl,S_,rfl,-,-,-⟩:=vG.1 hcs
 rw[hq.net] at hv hcs
 refine xP (fn:=N.ah) (first:=[]) (cap:=[.tptr 0 4 [[.int .i64 n.grain,b,fl,S_]] 0 0,.tptr 0 1 [[w]] 0 0]) (s:=aG) hv CL ju (by simp[aG]) ?_
 intro assign body ha hb
 have e1:((g.new (.dfr true)).new (.loop nt t [p] assign body g.nx .ready none)).nx=g.nx+2:=by simp
 refine Gw (g0:=(g.new (.dfr true)).new (.loop nt t [p] assign body g.nx .ready none)) (id:=g.nx+1) hd hr hq hcs hw hel
  (fun j h=>J j h/\h.get g.nx=.dfr true/\h.get (g.nx+1)=.loop nt t [p] assign body g.nx .ready none)
  (fun g'=>E g'.h/\g'.h.get g.nx=.dfr true/\g'.h.get (g.nx+1)=.loop nt t [p] assign body g.nx .done (some .ret)/\g.nx+2<=g'.nx) ?_ ?_ ?_ ?_ ?_ ?_
 ·rintro j h h' hh ⟨a1,a2,a3⟩
  rw[e1] at hh
  exact ⟨hJ j h h' (fun i hi=>hh i (by omega)) a1,by rw[hh _ (by omega),a2],by rw[hh _ (by omega),a3]⟩
 ·rintro j h hj hm ⟨a1,a2,a3⟩
  exact ⟨skip j h hj hm a1,a2,a3⟩
 ·rintro j u g1 K' D hj hm hn ⟨a1,a2,a3⟩ hsl kk kE
  rw[e1] at hn kk hsl
  refine FV a3 ha hb (t':=fj t p (.agg [.int .i64 (j:Int),.int .i64 (S.aP n (S.ak (S.aa n) j)),u])) ?_ ?_
  ·simp only[dj,aa,Nat.blt_eq,if_pos hp];rfl
  ·refine bX _ (step j u g1 hj hm a1 (by omega) hsl) ?_
   rintro e t1 df g1' ⟨rfl,rfl,hfr,h⟩
   have hl0:g.nx+1<g1.nx:=by omega
   have hl:g.nx+1<g1'.nx:=Nat.lt_of_lt_of_le hl0 hfr.1
   have a2':g1'.h.get g.nx=.dfr true:=by rw[hfr.2 _ (by omega),a2]
   have a3':g1'.h.get (g.nx+1)=.loop nt t [p] assign body g.nx .ready none:=by rw[hfr.2 _ hl0,a3]
   refine ⟨rfl,rfl,a3',?_⟩
   refine bX _ (h (g1'.put (g.nx+1) (.loop nt t [p] assign body g.nx .busy none)) (by simp) (fun i hi=>by simp[H.get_put,hi])) ?_
   rintro e t2 df g3 ⟨rfl,⟨b2,b3,b1⟩⟩
   have b4:g3.h.get (g.nx+1)=.loop nt t [p] assign body g.nx .busy none:=by rw[b3 _ (by omega) (by simpa using hl)];simp[H.get_put]
   have b5:g3.h.get g.nx=.dfr true:=by
    rw[b3 _ (by omega) (by simp;omega)];simp[H.get_put,a2']
   refine ⟨rfl,b4,?_⟩
   have b2':g1'.nx<=g3.nx:=by simpa using b2
   have hf1:=hfr.1
   rcases b1 with ⟨rfl,b1⟩ | ⟨rfl,b1⟩
   ·refine .inl ⟨rfl,kk _ ⟨hJ _ g3.h _ (fun i hi=>by simp[H.get_put,show ¬i=g.nx+1 by omega]) b1,?_,?_⟩ (by simp;omega) fun i h1 h2=>?_⟩
    ·simp[H.get_put,b5]
    ·simp[H.get_put]
    ·have hne:¬i=g.nx+1:=by omega
     have:=b3 i (by omega) (by simp;omega)
     simp[H.get_put,hne] at this ⊢
     rw[this,hfr.2 i h2]
   ·refine .inr ⟨rfl,kE _ ⟨hE g3.h _ (fun i hi=>by simp[H.get_put,show ¬i=g.nx+1 by omega]) b1,?_,?_,?_⟩⟩
    ·simp[H.get_put,b5]
    ·simp[H.get_put]
    ·simp;omega
 ·refine ⟨hJ 0 g.h _ (fun i hi=>?_) h0,?_,?_⟩
  ·simp[H.get_put,show ¬i=g.nx+1 by omega,show ¬i=g.nx by omega]
  ·simp[H.get_put]
  ·simp[H.get_put]
 ·rintro g' ⟨a1,a2,a3⟩ hn
  rw[e1] at hn
  refine ⟨_,_,_,_,_,_,.inl ⟨a3,fin _ (hJ _ g'.h _ (fun i hi=>by simp[H.get_put,show ¬i=g.nx+1 by omega]) a1) (by simpa using hn) ?_⟩⟩
  simp[H.get_put,a2]
 ·rintro g' ⟨a1,a2,a3,hn⟩
  refine ⟨_,_,_,_,_,_,.inr ⟨a3,finE _ (hE g'.h _ (fun i hi=>by simp[H.get_put,show ¬i=g.nx+1 by omega]) a1) (by simpa using hn) ?_⟩⟩
  simp[H.get_put,a2]
end
end Hx
end
section
namespace Hx
open Go
noncomputable section
theorem j9 {n:Net}{e:List Int}(h:S.aq n e=true):e.length=n.nodes.length/\∀x∈e,-1<=x:=by
 simp only[S.aq,Bool.and_eq_true,decide_eq_true_eq,List.all_eq_true] at h
 refine ⟨h.1,fun x hx=>?_⟩
 obtain ⟨i,hi,he⟩:=List.mem_iff_getElem.1 hx
 have:=(h.2 i (List.mem_range.2 hi)).1
 rw[List.getElem?_eq_getElem hi,he] at this
 exact this
def S.pe (n:Net)(e:List Int)(w:Nat):Bool:=S.aC (S.ak (S.aa n) (w:Int)) e
theorem CO (n:Net)(e:List Int):S.aA n e=S.am n (S.pe n e) (S.aF n):=rfl
theorem wE {n:Net}(h:NR n){p:Nat->Bool}{j:Nat}(hj:j<=1024):0<=S.am n p j/\S.am n p j<=171992678400000000:=by
 have:=oQ h p j
 omega
theorem CX (g:G)(o o':AObj):Fr g ((g.new o).put g.nx o'):=⟨by simp,fun i hi=>by simp[H.get_put,show ¬i=g.nx by omega]⟩
theorem Ao {d:Nat}{g:G}{v w:AV}{n:Net}{y:QnM}{e:List Int}(hd:0<d)(hr:NR n)(hm:Agg y NoP 0 g.h v)(hq:QnOk n y)(he:SlR NoP 0 g.h e w)(hev:S.aq n e=true) :
  ae C0 d N.aP [v,w] g=.val (.int .i64 (S.aA n e)):=by
 have e0:=ea d hm
 have ew:=cG d he
 obtain ⟨cs,rfl,hcs⟩:=hm
 obtain ⟨b,fl,S_,rfl,-,-,-⟩:=vG.1 hcs
 obtain ⟨el,ege⟩:=j9 hev
 obtain ⟨W1,W2,W3⟩:=hr.wl
 rw[mD]
 refine dH oH (xs:=[.agg [.int .i64 y.1.grain,b,fl,S_],w]) (by simp only[aB,e0,ew]) (by simp[dV]) hd ?_
 simp only[dV,sx,sy,SO.run,↓reduceIte,Nat.reduceEqDiff,Nat.reduceAdd]
 unfold gq
 refine cW (P:=fun t' df g'=>df=[]/\g'.nx=2/\g'.h.get 0=.cells 4 [[.int .i64 y.1.grain,b,fl,S_]] 0 false false/\g'.h.get 1=.cells 1 [[.int .i64 0]] 0 false false/\St t' [(1,w),(2,.hptr 0 0 0 0),(5,.hptr 1 0 0 0)]) ?_ ?_
 ·simp only[sx,sy,SO.run,↓reduceIte,Nat.reduceEqDiff,Nat.reduceAdd,Nat.reduceLeDiff]
  simp[St,sx]
 rintro t df g0 ⟨rfl,f2,f0,f1,h1,h2,h5,-⟩
 obtain ⟨cs,z,ez,hcs',hz⟩:=vM (d:=d+1) (g:=g0) (y:=y) (e:=e) (v:=.agg [.int .i64 y.1.grain,b,fl,S_]) (w:=w) (Nat.succ_pos d) ⟨_,rfl,Rp.tree hcs (Nat.le_refl 0)⟩ (he.tree (Nat.le_refl 0))
 rw[dB,dB]
 simp only[sx,sy,SO.run,↓reduceIte,Nat.reduceEqDiff,Nat.reduceAdd,Nat.reduceLeDiff,h1,h2,f0,ez]
 refine Am (n:=n) (y:=y) (e:=e) (cs:=cs) (w:=z) (Nat.succ_pos d) hr hq hcs' hz (by omega) (by simp[sx]) (by decide)
  (fun j h=>h.get 1=.cells 1 [[.int .i64 (S.am n (S.pe n e) j)]] 0 false false) (fun _=>False) (fun j h h' hh h1=>by rw[hh 1 (by omega),h1]) (fun _ _ _ h=>h) f1 ?_ ?_ ?_ (fun _ h=>h.elim)
 ·intro j h hj hmt h1
  have hp:S.pe n e j=false:=by rw[S.pe,<-Bz ege];exact hmt
  rw[h1,S.am,hp];simp
 ·intro j u g1 hj hmt h1 hn hu
  have hp:S.pe n e j=true:=by rw[S.pe,<-Bz ege];exact hmt
  have hb:=wE hr (p:=S.pe n e) (j:=j+1) (by omega)
  have hs:S.am n (S.pe n e) (j+1)=S.am n (S.pe n e) j+S.aP n (S.ak (S.aa n) (j:Int)):=by rw[S.am,hp];simp
  have w1:IntKind.wrap .i64 (S.am n (S.pe n e) j+S.aP n (S.ak (S.aa n) (j:Int)))=S.am n (S.pe n e) (j+1):=by rw[<-hs,ap (by omega) (by omega)]
  simp only[fD,sx,sy,SO.run,↓reduceIte,Nat.reduceEqDiff,Nat.reduceAdd,Nat.reduceLeDiff]
  refine ⟨CX _ _ _,?_⟩
  intro g2 n2 f2'
  have k6:g2.h.get g1.nx=.cells 3 [[.int .i64 (j:Int),.int .i64 (S.aP n (S.ak (S.aa n) (j:Int))),u]] 0 false false:=by rw[f2' _ (by omega),if_pos rfl]
  have k1:g2.h.get 1=.cells 1 [[.int .i64 (S.am n (S.pe n e) j)]] 0 false false:=by rw[f2' 1 (by omega),if_neg (by omega),if_neg (by omega),h1]
  simp only[fB,sx,sy,SO.run,↓reduceIte,Nat.reduceEqDiff,Nat.reduceLeDiff,h5,k1,k6,w1]
  exact ⟨by simp,fun i h1 h2=>by simp[H.get_put,show ¬i=1 by omega],.inl ⟨rfl,by simp[H.get_put]⟩⟩
 ·intro g' h1 hn hdf
  simp only[fA,sx,SO.run,↓reduceIte,Nat.reduceEqDiff,h5,h1]
  refine nI hdf ?_
  simp only[sx,↓reduceIte]
  rw[CO]
end
end Hx
end
section
namespace Hx
open Go
noncomputable section
theorem Mz {a:List Int}{va:AV}{q:Nat}{h:H}(ha:SlR NoP 0 .nil a va)(hq:h.get q=.cells 1 [[va]] 0 false false):SlR (fun _=>True) 0 h [a] (.hsl q 0 0 1 none):=by
 refine ⟨by show 1<_;decide,trivial,[[va]],?_,Az ha,trivial⟩
 show af h 1 _=_
 simp only[af,hq];rfl
theorem sA {n:Net}{ls:List (List Int)}{P:Nat->Prop}{k:Nat}{h:H}{v:AV}(hv:KQ n ls P k h v) :
  ∃y cs,v=.tup [.agg cs,.int .i64 (S.aI n ls)]/\(S.aI n ls=0->QnOk n y)/\Rp.rp P k h y cs/\∃a1 a2 a3 a4,cs=[a1,a2,a3,a4]:=by
 obtain ⟨y,hy,a,c,rfl,⟨cs,rfl,hc⟩,hi⟩:=hv
 have hi:=aH.1 hi
 injection hi with hi
 subst hi
 obtain ⟨a2,a3,a4,rfl,-⟩:=vG.1 hc
 exact ⟨y,_,rfl,hy,hc,_,_,_,_,rfl⟩
theorem u9 (n:Net)(e:List Int):S.aI n [e]=S.an n e:=by
 rw[S.aI,S.an];simp
theorem eG {n:Net}{e:List Int}:S.an n e=0↔S.ay n=true/\S.aq n e=true:=by
 rw[S.an]
 cases S.ay n<;>cases S.aq n e<;>simp
def S.bk (n:Net)(e:List Int):Int:=if S.an n e=0 then S.aA n e else 0
theorem H0 {d:Nat}{g:G}{v w:AV}{n:Net}{e:List Int}(hd:0<d)(hm:Agg n NoP 0 g.h v)(he:SlR NoP 0 g.h e w) :
  ae C0 d N.aJ [v,w] g=.val (.tup [.int .i64 (S.bk n e),.int .i64 (S.an n e)]):=by
 have key:∃r,ae C0 d N.aJ [v,w] g=.val r/\oN (One (S.bk n e)) (One (S.an n e)) NoP 0 .nil r:=by
  obtain ⟨b,rows,rfl,e1,hm',hN,r1,r2,r3,r4⟩:=cM d hm
  have ew:=cG d he
  have hw:SlR NoP 0 .nil e w:=he.tree (Nat.le_refl 0)
  rw[vP]
  refine aM zl (xs:=[.agg [.int .i64 n.grain,b],w]) (by simp only[aB,e1,ew]) (by simp[n_]) (bJ (m:=1) (aI _) (aI _) (by decide) (by decide)) (by decide) hd ?_
  simp only[n_,qs,sx,sy,SO.run,↓reduceIte,Nat.reduceEqDiff,Nat.reduceAdd,Nat.reduceLeDiff,hw.cell.1,hw.cell.2]
  refine ba (Dd (n:=n) (ls:=[e]) (Nat.succ_pos d) (hm' _) (Mz hw (by simp[sx]))) fun z hz=>?_
  obtain ⟨y,cs,rfl,hy,hc,a1,a2,a3,a4,rfl⟩:=sA hz
  rw[u9] at hy ⊢
  by_cases h0:S.an n e=0
  ·have hyo:=hy h0
   obtain ⟨h1,h2⟩:=eG.1 h0
   have hr:=bz.1 h1
   have hj:S.bk n e=S.aA n e:=by rw[S.bk,if_pos h0]
   simp only[sx,sy,SO.run,↓reduceIte,Nat.reduceEqDiff,Nat.reduceAdd,Nat.reduceLeDiff,h0,decide_true,Bool.not_true]
   rw[Ao (y:=y) (n:=n) (e:=e) (Nat.succ_pos d) hr ⟨_,rfl,Rp.tree hc (Nat.le_refl 0)⟩ hyo (hw.tree (Nat.le_refl 0)) h2]
   simp only[sx,sy,SO.run,↓reduceIte,Nat.reduceEqDiff,Nat.reduceAdd]
   rw[hj]
   exact ⟨fun _=>True,_,_,rfl,aH.2 rfl,aH.2 rfl⟩
  ·have hj:S.bk n e=0:=by rw[S.bk,if_neg h0]
   simp only[sx,sy,SO.run,↓reduceIte,Nat.reduceEqDiff,Nat.reduceAdd,Nat.reduceLeDiff,h0,decide_false,Bool.not_false]
   rw[hj]
   exact ⟨fun _=>True,_,_,rfl,aH.2 rfl,aH.2 rfl⟩
 obtain ⟨r,hr,a,c,rfl,ha,hc⟩:=key
 have ha:=aH.1 ha
 have hc:=aH.1 hc
 injection ha with ha
 injection hc with hc
 rw[hr,ha,hc]
def S.aQ (n:Net)(e:List Int):QI:=if S.an n e=0 then S.aE (S.aA n e).toNat (S.a9 n).toNat else (0,0)
theorem yd {n:Net}(hr:NR n):1<=S.a9 n/\S.a9 n<=167961600000000:=by
 have h1:=t8 hr n.nodes.length hr.l2
 have h2:1<=S.a9 n:=iC fun c hc=>by have:=(List.mem_replicate.1 hc).2;have:=hr.g1;omega
 exact ⟨h2,h1.2⟩
theorem IG {d:Nat}{g:G}{v w:AV}{n:Net}{e:List Int}(hd:0<d)(hm:Agg n NoP 0 g.h v)(he:SlR NoP 0 g.h e w) :
  ae C0 d N.aB [v,w] g=.val (.tup [.agg [.int .i64 (S.aQ n e).1,.int .i64 (S.aQ n e).2],.int .i64 (S.an n e)]):=by
 have key:∃r,ae C0 d N.aB [v,w] g=.val r/\oN (Agg (S.aQ n e)) (One (S.an n e)) NoP 0 .nil r:=by
  obtain ⟨b,rows,rfl,e1,hm',hN,r1,r2,r3,r4⟩:=cM d hm
  have ew:=cG d he
  have hw:SlR NoP 0 .nil e w:=he.tree (Nat.le_refl 0)
  rw[wi]
  refine aM yY (xs:=[.agg [.int .i64 n.grain,b],w]) (by simp only[aB,e1,ew]) (by simp[om]) (bJ (m:=2) (bj _) (aI _) (by decide) (by decide)) (by decide) hd ?_
  simp only[om,qL,sx,sy,SO.run,↓reduceIte,Nat.reduceEqDiff,Nat.reduceAdd,Nat.reduceLeDiff,hw.cell.1,hw.cell.2]
  refine ba (Dd (n:=n) (ls:=[e]) (Nat.succ_pos d) (hm' _) (Mz hw (by simp[sx]))) fun z hz=>?_
  obtain ⟨y,cs,rfl,hy,hc,a1,a2,a3,a4,rfl⟩:=sA hz
  rw[u9] at hy ⊢
  by_cases h0:S.an n e=0
  ·have hyo:=hy h0
   obtain ⟨h1,h2⟩:=eG.1 h0
   have hr:=bz.1 h1
   have hj:S.aQ n e=S.aE (S.aA n e).toNat (S.a9 n).toNat:=by rw[S.aQ,if_pos h0]
   simp only[sx,sy,SO.run,↓reduceIte,Nat.reduceEqDiff,Nat.reduceAdd,Nat.reduceLeDiff,h0,decide_true,Bool.not_true]
   rw[Jh (n:=n) (Nat.succ_pos d) (hm' _) hr]
   simp only[sx,sy,SO.run,↓reduceIte,Nat.reduceEqDiff,Nat.reduceAdd,Nat.reduceLeDiff,decide_true,Bool.not_true]
   rw[Ao (y:=y) (n:=n) (e:=e) (Nat.succ_pos d) hr ⟨_,rfl,Rp.tree hc (Nat.le_refl 0)⟩ hyo (hw.tree (Nat.le_refl 0)) h2]
   simp only[sx,SO.run,↓reduceIte,Nat.reduceEqDiff]
   have hb1:=lM hr e
   have hb2:=yd hr
   obtain ⟨a,ha⟩:=Int.eq_ofNat_of_zero_le hb1.1
   obtain ⟨c,hc'⟩:=Int.eq_ofNat_of_zero_le (show 0<=S.a9 n by omega)
   rw[ha,hc'] at hj ⊢
   rw[CS (Nat.succ_pos d) (by omega) (by omega) (by omega)]
   simp only[sx,sy,SO.run,↓reduceIte,Nat.reduceEqDiff,Nat.reduceAdd,Nat.reduceLeDiff]
   rw[hj]
   exact ⟨fun _=>True,_,_,rfl,gM.2 rfl,aH.2 rfl⟩
  ·have hj:S.aQ n e=(0,0):=by rw[S.aQ,if_neg h0]
   have hbd:sK [.int .i64 0,.int .i64 0] [] []=.val (.agg [.int .i64 0,.int .i64 0]):=rfl
   simp only[sx,sy,SO.run,↓reduceIte,Nat.reduceEqDiff,Nat.reduceAdd,Nat.reduceLeDiff,h0,decide_false,Bool.not_false]
   rw[hj]
   exact ⟨fun _=>True,_,_,rfl,gM.2 rfl,aH.2 rfl⟩
 obtain ⟨r,hr,a,c,rfl,ha,hc⟩:=key
 have hc:=aH.1 hc
 injection hc with hc
 rw[hr,gM.1 ha,hc]
end
end Hx
end
section
namespace Hx
open Go
noncomputable section
def S.pb (n:Net)(e f:List Int)(w:Nat):Bool:=S.aC (S.ak (S.aa n) (w:Int)) e&&S.aC (S.ak (S.aa n) (w:Int)) f
def S.bc (n:Net)(e f:List Int):Int:=S.am n (S.pb n e f) (S.aF n)
def S.aw (n:Net)(e f:List Int):Int:=if S.aI n [e,f]=0 then (if S.aA n e=0 then 7 else 0) else S.aI n [e,f]
def S.aJ (n:Net)(e f:List Int):QI:=if S.aw n e f=0 then S.aE (S.bc n e f).toNat (S.aA n e).toNat else (0,0)
theorem pG {n:Net}{e f:List Int}:S.aI n [e,f]=0↔S.ay n=true/\S.aq n e=true/\S.aq n f=true:=by
 rw[S.aI]
 cases S.ay n<;>cases h1:S.aq n e<;>cases h2:S.aq n f<;>simp[h1,h2]
theorem LU {a b:AV}(ha:a.cells=[a]/\a.isTup=false)(hb:b.cells=[b]/\b.isTup=false)(g:G):FZ 1 2 [.nils] [0,1] [a,b] g=.upd (.hsl g.nx 0 0 2 none) (g.new (.cells 1 [[a],[b]] 0 false false)):=by
 simp[FZ,eI,ha,hb]
 rfl
theorem Mh {A:PT}{t:T}{df:List ADf}{g:G}(p:T->G->Prop)(hp:p t g)(h:∀t1 g1,p t1 g1->A t1 df g1):A t df g:=h t g hp
structure GvJ (g0:G) (q:Nat) (s:Int) (h:H):Prop where
 fr:∀i,i<g0.nx->i≠q->h.get i=g0.h.get i
 hq:h.get q=.cells 1 [[.int .i64 s]] 0 false false
theorem Gx {d:Nat}{g:G}{v w z:AV}{n:Net}{e f:List Int}(hd:0<d)(hm:Agg n NoP 0 g.h v)(he:SlR NoP 0 g.h e w)(hf:SlR NoP 0 g.h f z) :
  ae C0 d N.aw [v,w,z] g=.val (.tup [.agg [.int .i64 (S.aJ n e f).1,.int .i64 (S.aJ n e f).2],.int .i64 (S.aw n e f)]):=by
 have key:∃r,ae C0 d N.aw [v,w,z] g=.val r/\oN (Agg (S.aJ n e f)) (One (S.aw n e f)) NoP 0 .nil r:=by
  obtain ⟨b,rows,rfl,e1,hm',hN,r1,r2,r3,r4⟩:=cM d hm
  have ew:=cG d he
  have ez:=cG d hf
  have hw:SlR NoP 0 .nil e w:=he.tree (Nat.le_refl 0)
  have hz:SlR NoP 0 .nil f z:=hf.tree (Nat.le_refl 0)
  have hbd:sK [.int .i64 0,.int .i64 0] [] []=.val (.agg [.int .i64 0,.int .i64 0]):=rfl
  rw[uk]
  refine aM xg (xs:=[.agg [.int .i64 n.grain,b],w,z]) (by simp only[aB,e1,ew,ez]) (by simp[mj]) (bJ (m:=2) (bj _) (aI _) (by decide) (by decide)) (by decide) hd ?_
  simp only[mj,sx,sy,SO.run,↓reduceIte,Nat.reduceEqDiff,Nat.reduceAdd,JK hz]
  obtain ⟨g0,hg0⟩:∃g0,g0=((G.empty.new (.cells 2 [[.int .i64 n.grain,b]] 0 false false)).new (.cells 1 [[z]] 0 false false)).new (.cells 2 [[.int .i64 0,.int .i64 0]] 0 false false):=⟨_,rfl⟩
  rw[<-hg0]
  have f0:g0.h.get 0=.cells 2 [[.int .i64 n.grain,b]] 0 false false:=by rw[hg0];simp[sx,H.get_put]
  have f1:g0.h.get 1=.cells 1 [[z]] 0 false false:=by rw[hg0];simp[sx,H.get_put]
  have f2:g0.h.get 2=.cells 2 [[.int .i64 0,.int .i64 0]] 0 false false:=by rw[hg0];simp[sx]
  have f3:g0.nx=3:=by rw[hg0];simp[sx]
  clear hg0
  unfold o6
  simp only[sx,sy,SO.run,↓reduceIte,Nat.reduceEqDiff,Nat.reduceAdd,Nat.reduceLeDiff,f0,f1,LU hw.cell hz.cell]
  refine ba (Dd (n:=n) (ls:=[e,f]) (Nat.succ_pos d) (hm' _) (MT hw hz (by simp[H.get_put]))) fun v hv=>?_
  obtain ⟨y,cs,rfl,hy,hc,a1,a2,a3,a4,rfl⟩:=sA hv
  by_cases h0:S.aI n [e,f]=0
  ·have hyo:=hy h0
   obtain ⟨h1,h2,h3⟩:=pG.1 h0
   have hr:=bz.1 h1
   obtain ⟨el,ege⟩:=j9 h2
   obtain ⟨fl,fge⟩:=j9 h3
   obtain ⟨W1,W2,W3⟩:=hr.wl
   simp only[sx,sy,SO.run,↓reduceIte,Nat.reduceEqDiff,Nat.reduceAdd,Nat.reduceLeDiff,f3,h0,decide_true,Bool.not_true]
   rw[Ao (y:=y) (n:=n) (e:=e) (Nat.succ_pos d) hr ⟨_,rfl,Rp.tree hc (Nat.le_refl 0)⟩ hyo (hw.tree (Nat.le_refl 0)) h2]
   by_cases hm0:S.aA n e=0
   ·have hE:S.aw n e f=7:=by rw[S.aw,if_pos h0,if_pos hm0]
    have hj:S.aJ n e f=(0,0):=by rw[S.aJ,hE];rfl
    simp only[sx,sy,SO.run,↓reduceIte,Nat.reduceEqDiff,Nat.reduceAdd,Nat.reduceLeDiff,f3,hm0,decide_true,f2]
    rw[hj,hE]
    exact ⟨fun _=>True,_,_,rfl,gM.2 rfl,aH.2 rfl⟩
   ·have hE:S.aw n e f=0:=by rw[S.aw,if_pos h0,if_neg hm0]
    have hj:S.aJ n e f=S.aE (S.bc n e f).toNat (S.aA n e).toNat:=by rw[S.aJ,hE];rfl
    simp only[sx,sy,SO.run,↓reduceIte,Nat.reduceEqDiff,Nat.reduceAdd,Nat.reduceLeDiff,f3,hm0,decide_false]
    refine ba (Q:=fun r=>∃cs z,r=.clo N.ah [] [.tptr 0 4 [cs] 0 0,.tptr 0 1 [[z]] 0 0]/\Rp.rp NoP 0 .nil y cs/\SlR NoP 0 .nil e z) ?_ ?_
    ·obtain ⟨cs',z',ez,h1,h2⟩:=vM (d:=d+1) (y:=y) (e:=e) (v:=.agg [a1,a2,a3,a4]) (w:=w) (Nat.succ_pos d) ⟨_,rfl,Rp.tree hc (Nat.le_refl 0)⟩ (hw.tree (Nat.le_refl 0))
     exact ⟨_,ez,cs',z',rfl,h1,h2⟩
    rintro _ ⟨cs',z',rfl,hcs',hz'⟩
    simp only[sx]
    refine Mh (fun t g=>g.nx=6/\g.h.get 1=.cells 1 [[z]] 0 false false/\g.h.get 2=.cells 2 [[.int .i64 0,.int .i64 0]] 0 false false/\g.h.get 5=.cells 1 [[.int .i64 0]] 0 false false/\St t [(5,.hptr 1 0 0 0),(6,.hptr 2 0 0 0),(10,.int .i64 (S.aA n e)),(11,.hptr 5 0 0 0),(33,.clo N.ah [] [.tptr 0 4 [cs'] 0 0,.tptr 0 1 [[z']] 0 0])]) ?_ ?_
    ·refine ⟨by simp[f3],by simp[H.get_put,f3,f1],by simp[H.get_put,f3,f2],by simp[H.get_put],by simp[St,sx]⟩
    rintro t g1 ⟨n1,k1,k2,k5,h5,h6,h10,h11,h33,-⟩
    refine Am (n:=n) (y:=y) (e:=e) (cs:=cs') (w:=z') (Nat.succ_pos d) hr hyo hcs' hz' (by omega) h33 (by decide)
     (fun j h=>GvJ g1 5 (S.am n (S.pb n e f) j) h) (fun _=>False) (fun j h h' hh hg=>⟨fun i h1 h2=>by rw[hh i h1,hg.fr i h1 h2],by rw[hh 5 (by omega),hg.hq]⟩) (fun _ _ _ h=>h) ⟨fun _ _ _=>rfl,k5⟩ ?_ ?_ ?_ (fun _ h=>h.elim)
    ·intro j h hj hmt hg
     have hp:S.pb n e f j=false:=by rw[S.pb,<-Bz ege,hmt];rfl
     refine ⟨hg.fr,?_⟩
     rw[hg.hq,S.am,hp];simp
    ·intro j u g2 hj hmt hg hn hu
     have hb:=wE hr (p:=S.pb n e f) (j:=j+1) (by omega)
     have hvl:(S.ak (S.aa n) (j:Int)).length=n.nodes.length:=by simp[S.ak,aO]
     simp only[mZ,sx,sy,SO.run,↓reduceIte,Nat.reduceEqDiff,Nat.reduceAdd,Nat.reduceLeDiff]
     refine ⟨CX _ _ _,?_⟩
     intro g3 n3 f3'
     have j12:g3.h.get g2.nx=.cells 3 [[.int .i64 (j:Int),.int .i64 (S.aP n (S.ak (S.aa n) (j:Int))),u]] 0 false false:=by rw[f3' _ (by omega),if_pos rfl]
     have jo:∀i,i<6->g3.h.get i=g2.h.get i:=fun i hi=>by rw[f3' i (by omega),if_neg (by omega),if_neg (by omega)]
     have j1:g3.h.get 1=.cells 1 [[z]] 0 false false:=by rw[jo 1 (by omega),hg.fr 1 (by omega) (by omega),k1]
     have j5:g3.h.get 5=.cells 1 [[.int .i64 (S.am n (S.pb n e f) j)]] 0 false false:=by rw[jo 5 (by omega),hg.hq]
     have hu3:SlR (fun _=>True) 0 g3.h (S.ak (S.aa n) (j:Int)) u:=hu.wd fun i hi=>⟨trivial,by rw[f3' i (by omega),if_neg (by omega),if_neg (by omega)]⟩
     have hmt3:=xE (d:=d+1) (g:=g3) (v:=u) (w:=z) (vals:=S.ak (S.aa n) (j:Int)) (e:=f) (Nat.succ_pos d) hu3 (hz.tree (h':=g3.h) (Nat.le_refl 0)) (by omega)
     rw[Bz fge] at hmt3
     cases hmf:S.aC (S.ak (S.aa n) (j:Int)) f with
     | true =>
      rw[hmf] at hmt3
      have hp:S.pb n e f j=true:=by rw[S.pb,<-Bz ege,hmt,hmf];rfl
      have hs:S.am n (S.pb n e f) (j+1)=S.am n (S.pb n e f) j+S.aP n (S.ak (S.aa n) (j:Int)):=by rw[S.am,hp];simp
      have w1:IntKind.wrap .i64 (S.am n (S.pb n e f) j+S.aP n (S.ak (S.aa n) (j:Int)))=S.am n (S.pb n e f) (j+1):=by rw[<-hs,ap (by omega) (by omega)]
      simp only[iJ,sx,sy,SO.run,↓reduceIte,Nat.reduceEqDiff,Nat.reduceLeDiff,h5,h11,j12,j1,j5,hmt3,w1]
      exact ⟨by simp,fun i h1 h2=>by simp[H.get_put,show ¬i=5 by omega],.inl ⟨rfl,fun i h1 h2=>by simp[H.get_put,h2];rw[jo i (by omega),hg.fr i h1 h2],by simp[H.get_put]⟩⟩
     | false =>
      rw[hmf] at hmt3
      have hp:S.pb n e f j=false:=by rw[S.pb,hmf,Bool.and_false]
      have hs:S.am n (S.pb n e f) (j+1)=S.am n (S.pb n e f) j:=by rw[S.am,hp];simp
      simp only[iJ,sx,sy,SO.run,↓reduceIte,Nat.reduceEqDiff,h5,j12,j1,hmt3]
      exact ⟨Nat.le_refl _,fun i h1 h2=>rfl,.inl ⟨rfl,fun i h1 h2=>by rw[jo i (by omega),hg.fr i h1 h2],by rw[hs];exact j5⟩⟩
    ·intro g' hg hn hdf
     have hb:=wE hr (p:=S.pb n e f) (j:=S.aF n) (by omega)
     have hb1:=lM hr e
     obtain ⟨a,ha⟩:=Int.eq_ofNat_of_zero_le hb.1
     obtain ⟨c,hc'⟩:=Int.eq_ofNat_of_zero_le hb1.1
     have hq5:=hg.hq
     have q2:g'.h.get 2=.cells 2 [[.int .i64 0,.int .i64 0]] 0 false false:=by rw[hg.fr 2 (by omega) (by omega),k2]
     have hbo:S.bc n e f=(a:Int):=ha
     rw[ha] at hq5
     rw[hc'] at h10 hm0
     have hmk:=CS (d:=d+1) (g:=g') (n:=a) (m:=c) (Nat.succ_pos d) (by omega) (by omega) (by omega)
     simp only[nh,sx,sy,SO.run,↓reduceIte,Nat.reduceEqDiff,Nat.reduceAdd,Nat.reduceLeDiff,h11,h10,h6,hq5,hmk,q2]
     refine nI (by simp[H.get_put,show ¬g1.nx=2 by omega,hdf]) ?_
     simp only[sx,sy,↓reduceIte,Nat.reduceEqDiff,h6]
     rw[if_neg (by omega)]
     simp only[sx,sy,↓reduceIte,Nat.reduceAdd,Nat.reduceLeDiff]
     rw[hj,hE,hbo,hc']
     exact ⟨fun _=>True,_,_,rfl,gM.2 rfl,aH.2 rfl⟩
  ·have hE:S.aw n e f=S.aI n [e,f]:=by rw[S.aw,if_neg h0]
   have hj:S.aJ n e f=(0,0):=by rw[S.aJ,hE,if_neg h0]
   simp only[sx,sy,SO.run,↓reduceIte,Nat.reduceEqDiff,Nat.reduceAdd,Nat.reduceLeDiff,f3,h0,decide_false,Bool.not_false,f2]
   rw[hj,hE]
   exact ⟨fun _=>True,_,_,rfl,gM.2 rfl,aH.2 rfl⟩
 obtain ⟨r,hr,a,c,rfl,ha,hc⟩:=key
 have hc:=aH.1 hc
 injection hc with hc
 rw[hr,gM.1 ha,hc]
end
end Hx
end
section
namespace Hx
open Go
noncomputable section
structure ND where
 c:Nat->Int
 P:Nat->List Int
 m:Nat->Nat
 R:Nat->Nat->List Int
 o:Nat->Nat
def LN (n:Nat)(D:ND):Ky->Prop:=fun k=>k=(0,0)\/∃i q,k=(i+1,q)/\i<n/\q<2+D.o i
theorem LN.z {n:Nat}{D:ND}:LN n D (0,0):=.inl rfl
theorem LN.s {n:Nat}{D:ND}{i q:Nat}(h:i<n)(hq:q<2+D.o i):LN n D (i+1,q):=.inr ⟨i,q,rfl,h,hq⟩
theorem LN.p {n:Nat}{D:ND}{i:Nat}(h:i<n):LN n D (i+1,0):=LN.s h (by omega)
theorem LN.r {n:Nat}{D:ND}{i:Nat}(h:i<n):LN n D (i+1,1):=LN.s h (by omega)
def fm (D:ND)(V:Ky->AV)(i:Nat):List AV:=[.int .i64 (D.c i),V (i+1,0),V (i+1,1)]
def D_ (V:Ky->AV)(i r:Nat):List AV:=[V (i+1,2+r)]
structure BN (K n:Nat) (V:Ky->AV) (E:Ky->En) (D:ND):Prop where
 ns:E (0,0)=.sl 3 ((List.range n).map (fm D V))
 ps:∀i,i<n->E (i+1,0)=.sl 1 ((D.P i).map ci)/\(D.P i).length<=K
 rs:∀i,i<n->E (i+1,1)=.sl 1 ((List.range (D.m i)).map (D_ V i))/\D.m i<=K
 rr:∀i r,i<n->r<D.m i->(D.R i r).length<=K/\((r<D.o i/\E (i+1,2+r)=.sl 1 ((D.R i r).map ci))\/SlR NoP 0 .nil (D.R i r) (V (i+1,2+r)))
def ND.node (D:ND)(i:Nat):Node:=⟨D.c i,D.P i,(List.range (D.m i)).map (D.R i)⟩
theorem qZ {g:G}{b:Nat}{v:AV}{l:List Int}{P:Nat->Prop}(h:Own g b v 1 (l.map ci))(hl:l.length<9223372036854775808)(hp:∀i,b<=i->P i):SlR P 0 g.h l v :=
 Own.sl (α:=Int) h hl (All2.of_map (fun a=>aH.2 rfl) _) fun i hi=>hp i (h.lt hi).1
theorem BN.rows {g:G}{b K n i:Nat}{V:Ky->AV}{E:Ky->En}{D:ND}{L:Ky->Prop}(hB:BN K n V E D)(hH:Hp g b L V E)(hL:∀k,LN n D k->L k)(hK:K<=1000000)(hi:i<n):SlR (fun j=>b<=j) 0 g.h ((List.range (D.m i)).map (D.R i)) (V (i+1,1)):=by
 obtain ⟨h1,h2⟩:=hB.rs i hi
 have ho:=hH.own (hL _ (LN.r hi)) h1
 refine Own.sl (α:=List Int) ho (by simp;omega) (uo fun r hr=>?_) fun j hj=>(ho.lt hj).1
 have hr:=List.mem_range.1 hr
 obtain ⟨h4,h3⟩:=hB.rr i r hi hr
 rcases h3 with ⟨h5,h3⟩ | h3
 ·exact cK.2 ⟨_,rfl,qZ (hH.own (hL _ (LN.s hi (by omega))) h3) (by omega) fun _ h=>h⟩
 ·exact cK.2 ⟨_,rfl,(h3.tree (h':=g.h) (Nat.le_refl 0)).wd fun _ h=>h.elim⟩
theorem Hp.off {κ:Type} [DecidableEq κ]{g:G}{b:Nat}{L:κ->Prop}{V:κ->AV}{E:κ->En}{k:κ}{x:AV}(h:Hp g b L V E)(hk:¬L k):Hp g b L (ups V k x) E:=by
 have ne:∀j,L j->j≠k:=fun j hj e=>hk (by rw[<-e];exact hj)
 exact ⟨fun j hj=>by rw[ac V x (ne j hj)];exact h.ok j hj,fun j l hj hl hne id=>by rw[ac V x (ne j hj),ac V x (ne l hl)];exact h.sep j l hj hl hne id,h.nx⟩
theorem BN.pars {g:G}{b K n i:Nat}{V:Ky->AV}{E:Ky->En}{D:ND}{L:Ky->Prop}(hB:BN K n V E D)(hH:Hp g b L V E)(hL:∀k,LN n D k->L k)(hK:K<=1000000)(hi:i<n):SlR (fun j=>b<=j) 0 g.h (D.P i) (V (i+1,0)):=by
 obtain ⟨h1,h2⟩:=hB.ps i hi
 exact qZ (hH.own (hL _ (LN.p hi)) h1) (by omega) fun _ h=>h
theorem BN.nodes {g:G}{b K n:Nat}{V:Ky->AV}{E:Ky->En}{D:ND}{L:Ky->Prop}(hB:BN K n V E D)(hH:Hp g b L V E)(hL:∀k,LN n D k->L k)(hK:K<=1000000)(hn:n<=1000000):SlR (fun j=>b<=j) 0 g.h ((List.range n).map D.node) (V (0,0)):=by
 have ho:=hH.own (hL _ LN.z) hB.ns
 refine Own.sl (α:=Node) ho (by simp;omega) (uo fun i hi=>?_) fun j hj=>(ho.lt hj).1
 have hi:=List.mem_range.1 hi
 exact bO.2 ⟨_,_,rfl,hB.pars hH hL hK hi,hB.rows hH hL hK hi⟩
theorem mz {α:Type}(f:Nat->α){n i:Nat}(x:α)(hi:i<n):((List.range n).map f).set i x=(List.range n).map (ups f i x):=by
 refine List.ext_getElem (by simp) fun j h1 h2=>?_
 rw[List.getElem_set]
 by_cases e:i=j
 ·subst e;simp[aq]
 ·rw[if_neg e];simp[ac _ _ (Ne.symm e)]
theorem fF {α:Type}(f:Nat->α){n i:Nat}(hi:i<n):((List.range n).map f)[i]?=some (f i):=by simp[hi]
theorem yu {D D':ND}{V V':Ky->AV}{n i:Nat}{row:List AV}(h0:row=fm D' V' i)(h:∀j,j<n->j≠i->fm D V j=fm D' V' j):(List.range n).map (ups (fm D V) i row)=(List.range n).map (fm D' V'):=by
 refine List.map_congr_left fun j hj=>?_
 have hj:=List.mem_range.1 hj
 by_cases e:j=i
 ·subst e;rw[aq,h0]
 ·rw[ac _ _ e,h j hj e]
end
end Hx
end
section
namespace Hx
open Go
noncomputable section
def MU (C:Nat):VS:=fun P k h v=>∃l:List Int,l.length=C/\One l P k h v
structure Rw1 (gr:Int) (nv u:AV) (C F j:Nat) (t:T) (g:G):Prop where
 st:St t [(0,.int .i64 gr),(1,.int .i64 (C:Int)),(2,nv),(3,.int .i64 (F:Int)),(9,u)]
 hX:∃(X:List Int) (s:Int),tat t 10=.int .i64 s/\X.length=C/\Own g 0 u 1 (X.map ci)/\(∀x∈X,0<=x/\x<=7)/\(∀(i:Nat) (x:Int),i<j->X[i]?=some x->x<=s)/\0<=s/\s<=7*j
theorem LH {d C F kk:Nat}{gr:Int}{nv u:AV}{l:List UInt8}{Q:QT}{t:T}{g:G}(hC:C<=3)(hF:F<=1000)(hl:SlR NoP kk .nil l nv)(h0:Rw1 gr nv u C F 0 t g)(h11:tat t 11=.int .i64 0)
  (fin:∀t g,Rw1 gr nv u C F C t g->Q (.exit 0) t [] g):wpL (wp C0 d none j7) Q t [] g:=by
 obtain ⟨nr,r1,r2,r3,r4⟩:=hl.all
 have r1:∀h',af h' 1 nv=some nr:=r1
 have hll:=hl.1
 have ll:=hl.len
 simp only[j7,qj]
 refine bk C (by omega) (fun j t df g=>df=[]/\Rw1 gr nv u C F j t g) ⟨rfl,h0⟩ h11 (by decide) ?_ ?_ ?_ ?_
 ·rintro j t df g v s (rfl | rfl | rfl) ⟨a1,⟨b1,b2,b3,b4,b5,-⟩,X,s',c1,c2⟩<;>exact ⟨a1,by simp[St,sx,b1,b2,b3,b4,b5],X,s',by simp[sx,c1],c2⟩
 ·rintro j t df g hj ⟨rfl,⟨h0,h1,h2,h3,h9,-⟩,X,s,h10,hX⟩ h11
  simp only[sx,sy,SO.run,↓reduceIte,Nat.reduceEqDiff,h11,h1]
  exact ⟨by simp[St,sx,h0,h1,h2,h3,h9],X,s,by simp[sx,h10],hX⟩
 ·rintro j t df g hj ⟨rfl,⟨h0,h1,h2,h3,h9,-⟩,X,s,h10,hXl,hX,hXb,hXs,hs0,hs1⟩ h11
  refine cW (P:=fun t' df g'=>df=[]/\∃(X':List Int) (x':Int),St t' [(0,.int .i64 gr),(1,.int .i64 (C:Int)),(2,nv),(3,.int .i64 (F:Int)),(9,u),(10,.int .i64 s),(11,.int .i64 (j:Int))]/\X'.length=C/\Own g' 0 u 1 (X'.map ci)/\(∀x∈X',0<=x/\x<=7)/\X'[j]?=some x'/\∀i,i≠j->X'[i]?=X[i]?) ?_ ?_
  ·have hXj:X[j]?=some X[j]:=List.getElem?_eq_getElem (by omega)
   simp only[sx,SO.run,↓reduceIte,h2,ll]
   refine aS (fun hb=>?_) (fun hb=>?_)
   ·have hb:0<l.length:=by simpa using hb
    have w1:IntKind.wrap .i64 ((F:Int)+(j:Int))=((F+j:Nat):Int):=by rw[ap (by omega) (by omega)];simp
    have q1:=wB (x:=F+j) (y:=l.length) hb
    have hmod:=Nat.mod_lt (F+j) hb
    generalize (F+j) % l.length=a at q1 hmod
    obtain ⟨y,hy,-,-⟩:=ah (l:=l) (j:=a) hmod
    obtain ⟨row,z1,z2⟩:=r3 a y hy
    rw[dy.1 z2] at z1
    have hlt:a<nr.length:=by omega
    have q2:=fK .u8 (a:=(y.toNat:Int)) (b:=8) (by omega) (by omega)
    have hm0:0<=(y.toNat:Int) % 8:=Int.emod_nonneg _ (by decide)
    have hm1:(y.toNat:Int) % 8<8:=Int.emod_lt_of_pos _ (by decide)
    have w2:IntKind.wrap .i64 ((y.toNat:Int) % 8)=(y.toNat:Int) % 8:=ap (by omega) (by omega)
    generalize (y.toNat:Int) % 8=z at q2 hm0 hm1 w2
    have u1:j<(X.map ci).length:=by simp;omega
    have u2:(X.map ci)[j]?=some (ci X[j]):=by rw[List.getElem?_map,hXj];rfl
    have rX:=hX.rows
    simp only[sx,sy,SO.run,↓reduceIte,Nat.reduceEqDiff,h2,h3,h9,h11,ll,w1,q1,r1,hlt,z1,q2,w2,rX,u1,Option.isSome_some,Option.getD_some]
    refine bC (v:=u) (sz:=1) (n:=1) (i:=j) (off:=0) (x:=.int .i64 z) (row':=ci z) hX u2 rfl rfl rfl fun g4 hu4 n4 f4=>?_
    rw[<-List.map_set] at hu4
    simp only[sx,sy]
    refine ⟨X.set j z,z,by simp[St,sx,h0,h1,h2,h3,h9,h10,h11],by simp[hXl],hu4,fun x hx=>?_,by rw[List.getElem?_set_self (by omega)],fun i hi=>by rw[List.getElem?_set_ne (Ne.symm hi)]⟩
    rcases List.mem_or_eq_of_mem_set hx with h | rfl
    ·exact hXb x h
    ·omega
   ·simp only[sx,sy]
    exact ⟨X,X[j],by simp[St,sx,h0,h1,h2,h3,h9,h10,h11],hXl,hX,hXb,hXj,fun _ _=>rfl⟩
  clear h0 h1 h2 h3 h9 h10 h11 hX
  rintro t df g ⟨rfl,X',x',⟨h0,h1,h2,h3,h9,h10,h11,-⟩,hXl',hX',hXb',hxj,hXo⟩
  have u1:j<(X'.map ci).length:=by simp;omega
  have u2:(X'.map ci)[j]?=some (ci x'):=by rw[List.getElem?_map,hxj];rfl
  have rX:=hX'.rows
  have hx':=hXb' x' (List.mem_of_getElem? hxj)
  have w1:IntKind.wrap .i64 (s+x')=s+x':=ap (by omega) (by omega)
  simp only[pW,sx,sy,SO.run,↓reduceIte,Nat.reduceEqDiff,h10,h9,h11,rX,u1,u2,ci,Option.isSome_some,Option.getD_some,w1]
  refine ⟨by simp[St,sx,h0,h1,h2,h3,h9],X',s+x',by simp[sx],hXl',hX',hXb',fun i x hi hx=>?_,by omega,by omega⟩
  by_cases e:i=j
  ·subst e;rw[hxj] at hx;injection hx with hx;omega
  ·rw[hXo i e] at hx
   have:=hXs i x (by omega) hx
   omega
 ·rintro t df g ⟨rfl,h⟩
  exact fin t g h
structure Rw2 (gr s:Int) (u:AV) (C j:Nat) (t:T) (g:G):Prop where
 st:St t [(0,.int .i64 gr),(1,.int .i64 (C:Int)),(9,u),(10,.int .i64 s)]
 hX:∃(X:List Int) (left:Int) (la:Nat),tat t 12=.int .i64 left/\tat t 13=.int .i64 (la:Int)/\la<C/\X.length=C/\Own g 0 u 1 (X.map ci)/\∀(i:Nat) (x:Int),j<=i->X[i]?=some x->0<=x/\x<=7/\x<=s
theorem Mr {d C:Nat}{gr s:Int}{u:AV}{Q:QT}{t:T}{g:G}(hC:C<=3)(hg:0<=gr/\gr<=60)(h0:Rw2 gr s u C 0 t g)(h14:tat t 14=.int .i64 0)
  (fin:∀t g,Rw2 gr s u C C t g->Q (.exit 2) t [] g):wpL (wp C0 d none lA) Q t [] g:=by
 simp only[lA,pI]
 refine bk C (by omega) (fun j t df g=>df=[]/\Rw2 gr s u C j t g) ⟨rfl,h0⟩ h14 (by decide) ?_ ?_ ?_ ?_
 ·rintro j t df g v s (rfl | rfl | rfl) ⟨a1,⟨b1,b2,b3,b4,-⟩,X,s',la,c1,c2,c3⟩<;>exact ⟨a1,by simp[St,sx,b1,b2,b3,b4],X,s',la,by simp[sx,c1],by simp[sx,c2],c3⟩
 ·rintro j t df g hj ⟨rfl,⟨h0,h1,h9,h10,-⟩,X,left,la,h12,h13,hX⟩ h14
  simp only[sx,sy,SO.run,↓reduceIte,Nat.reduceEqDiff,h14,h1]
  exact ⟨by simp[St,sx,h0,h1,h9,h10],X,left,la,by simp[sx,h12],by simp[sx,h13],hX⟩
 ·rintro j t df g hj ⟨rfl,⟨h0,h1,h9,h10,-⟩,X,left,la,h12,h13,hla,hXl,hX,hXb⟩ h14
  have hXj:X[j]?=some X[j]:=List.getElem?_eq_getElem (by omega)
  obtain ⟨b0,b1,b2⟩:=hXb j _ (Nat.le_refl _) hXj
  have u1:j<(X.map ci).length:=by simp;omega
  have u2:(X.map ci)[j]?=some (ci X[j]):=by rw[List.getElem?_map,hXj];rfl
  have rX:=hX.rows
  refine cW (P:=fun t' df g'=>df=[]/\∃(X':List Int) (la':Nat),St t' [(0,.int .i64 gr),(1,.int .i64 (C:Int)),(9,u),(10,.int .i64 s),(12,.int .i64 left),(13,.int .i64 (la':Int)),(14,.int .i64 (j:Int))]/\la'<C/\X'.length=C/\Own g' 0 u 1 (X'.map ci)/\∀i,i≠j->X'[i]?=X[i]?) ?_ ?_
  ·simp only[sx,SO.run,↓reduceIte,Nat.reduceEqDiff,h9,h14,rX,u1,u2,ci,Option.isSome_some,Option.getD_some]
   generalize X[j]=x at *
   refine aS (fun hb=>?_) (fun hb=>?_)
   ·have hb:0<x:=by simpa using hb
    have hgx:0<=gr*x:=Int.mul_nonneg hg.1 b0
    have hgx2:gr*x<=60*7:=Int.mul_le_mul hg.2 b1 b0 (by decide)
    have w1:IntKind.wrap .i64 (gr*x)=gr*x:=ap (by omega) (by omega)
    have q1:=s_ (x:=gr*x) (y:=s) hgx (by omega) (by omega)
    simp only[sx,SO.run,↓reduceIte,Nat.reduceEqDiff,h0,h9,h10,h14,rX,u1,u2,ci,Option.isSome_some,Option.getD_some,w1,q1]
    refine bC (v:=u) (sz:=1) (n:=1) (i:=j) (off:=0) (x:=.int .i64 (gr*x / s)) (row':=ci (gr*x / s)) hX u2 rfl rfl rfl fun g4 hu4 n4 f4=>?_
    rw[<-List.map_set] at hu4
    simp only[sx,sy,SO.run,↓reduceIte,Nat.reduceEqDiff,h14]
    exact ⟨X.set j (gr*x / s),j,by simp[St,sx,h0,h1,h9,h10,h12,h14],by omega,by simp[hXl],hu4,fun i hi=>by rw[List.getElem?_set_ne (Ne.symm hi)]⟩
   ·simp only[sx,sy]
    exact ⟨X,la,by simp[St,sx,h0,h1,h9,h10,h12,h13,h14],hla,hXl,hX,fun _ _=>rfl⟩
  clear h0 h1 h9 h10 h12 h13 h14 hX rX hla
  rintro t df g ⟨rfl,X',la',⟨h0,h1,h9,h10,h12,h13,h14,-⟩,hla,hXl',hX',hXo⟩
  have hXj':X'[j]?=some X'[j]:=List.getElem?_eq_getElem (by omega)
  have u1:j<(X'.map ci).length:=by simp;omega
  have u2:(X'.map ci)[j]?=some (ci X'[j]):=by rw[List.getElem?_map,hXj'];rfl
  have rX:=hX'.rows
  simp only[pM,sx,sy,SO.run,↓reduceIte,Nat.reduceEqDiff,h12,h9,h14,rX,u1,u2,ci,Option.isSome_some,Option.getD_some]
  refine ⟨by simp[St,sx,h0,h1,h9,h10],X',_,la',by simp[sx];rfl,by simp[sx,h13],hla,hXl',hX',fun i x hi hx=>?_⟩
  rw[hXo i (by omega)] at hx
  exact hXb i x (by omega) hx
 ·rintro t df g ⟨rfl,h⟩
  exact fin t g h
theorem LL {d C F kk:Nat}{g:G}{nv:AV}{gr:Int}{l:List UInt8}(hd:0<d)(hC:1<=C/\C<=3)(hF:F<=1000)(hg:0<=gr/\gr<=60)(hl:SlR NoP kk .nil l nv) :
  ∃r,ae C0 d N.aq [.int .i64 gr,.int .i64 (C:Int),nv,.int .i64 (F:Int)] g=.val r/\MU C NoP 0 .nil r:=by
 rw[wS]
 refine aM Ap (xs:=[.int .i64 gr,.int .i64 (C:Int),nv,.int .i64 (F:Int)]) (by simp only[aB,cG d (hl.tree (h':=g.h) (Nat.le_refl _)),bI 0]) (by simp[qD]) (gJ fun o=>aI _) (by decide) hd ?_
 simp only[qD,sx,SO.run,↓reduceIte,Nat.reduceEqDiff]
 refine ol (b:=0) (n:=C) (by unfold aT;omega) (by unfold aT;omega) (Nat.zero_le _) fun u g1 hu n1 f1 vu=>?_
 simp only[sx,SO.run,↓reduceIte]
 refine LH (gr:=gr) (nv:=nv) (u:=u) (C:=C) (F:=F) hC.2 hF hl ⟨by simp[St,sx],List.replicate C 0,0,by simp[sx],by simp,by simpa [ci] using hu,fun x hx=>by rw[(List.mem_replicate.1 hx).2];decide,fun i x hi=>by omega,by omega,by omega⟩ (by simp[sx]) ?_
 rintro t g2 ⟨⟨h0,h1,h2,h3,h9,-⟩,X,s,h10,hXl,hX,hXb,hXs,hs0,hs1⟩
 simp only[qi,sx,SO.run,↓reduceIte,h0]
 refine Mr (gr:=gr) (s:=s) (u:=u) (C:=C) hC.2 hg ⟨by simp[St,sx,h0,h1,h9,h10],X,gr,0,by simp[sx],by simp[sx],by omega,hXl,hX,fun i x hi hx=>?_⟩ (by simp[sx]) ?_
 ·have h1:=(List.getElem?_eq_some_iff.1 hx).1
  have h2:=hXb x (List.mem_of_getElem? hx)
  exact ⟨h2.1,h2.2,hXs i x (by omega) hx⟩
 clear h0 h1 h2 h3 h9 h10 hX hXl hXb hXs
 rintro t g3 ⟨⟨h0,h1,h9,h10,-⟩,X,left,la,h12,h13,hla,hXl,hX,-⟩
 have hXj':X[la]?=some X[la]:=List.getElem?_eq_getElem (by omega)
 have u1:la<(X.map ci).length:=by simp;omega
 have u2:(X.map ci)[la]?=some (ci X[la]):=by rw[List.getElem?_map,hXj'];rfl
 have rX:=hX.rows
 simp only[qK,sx,SO.run,↓reduceIte,Nat.reduceEqDiff,h9,h13,h12,rX,u1,u2,ci,Option.isSome_some,Option.getD_some]
 refine bC (v:=u) (sz:=1) (n:=1) (i:=la) (off:=0) (x:=.int .i64 (IntKind.wrap .i64 (X[la]+left))) (row':=ci (IntKind.wrap .i64 (X[la]+left))) hX u2 rfl rfl rfl fun g4 hu4 n4 f4=>?_
 rw[<-List.map_set] at hu4
 simp only[sx,SO.run,↓reduceIte,Nat.reduceEqDiff,h9]
 exact ⟨fun _=>True,_,by simp[hXl],hu4.ints (by simp;omega)⟩
end
end Hx
end
section
namespace Hx
open Go
noncomputable section
theorem xX (os:List UInt8):∀k,(S.aG os k).Perm ((List.range k).map fun i:Nat=>(i:Int))
 | 0=>.refl _
 | k+1=>by
  rw[List.range_succ,List.map_append,S.aG]
  refine List.perm_middle.trans ?_
  rw[List.take_append_drop]
  exact ((xX os k).cons _).trans (List.perm_append_comm (l₁:=[(k:Int)]))
structure Num (n:Nat) (pl:List Int) (num:Nat->Nat):Prop where
 len:pl.length=n
 at_:∀k,k<n->pl[k]?=some (num k:Int)
 lt:∀k,k<n->num k<n
 inj:∀i j,i<n->j<n->num i=num j->i=j
 sur:∀u,u<n->∃k,k<n/\num k=u
theorem Mi (os:List UInt8)(n:Nat):∃num,Num n (S.aG os n) num:=by
 have hp:=xX os n
 have hl:=nm os n
 have hmem:∀x∈S.aG os n,∃i:Nat,i<n/\x=(i:Int):=fun x hx=>by
  have:=hp.mem_iff.1 hx
  obtain ⟨i,hi,rfl⟩:=List.mem_map.1 this
  exact ⟨i,List.mem_range.1 hi,rfl⟩
 have hnd:(S.aG os n).Nodup:=by
  rw[hp.nodup_iff]
  refine List.Pairwise.map _ ?_ (List.nodup_range (n:=n))
  intro a b h e
  exact h (by omega)
 have hat:∀k,k<n->(S.aG os n)[k]?=some (((S.aG os n)[k]?.getD 0).toNat:Int)/\((S.aG os n)[k]?.getD 0).toNat<n:=fun k hk=>by
  have hk':k<(S.aG os n).length:=by omega
  have e:=List.getElem?_eq_getElem hk'
  obtain ⟨i,hi,h⟩:=hmem _ (List.getElem_mem hk')
  rw[e,Option.getD_some,h]
  simp[hi]
 refine ⟨fun k=>((S.aG os n)[k]?.getD 0).toNat,hl,fun k hk=>(hat k hk).1,fun k hk=>(hat k hk).2,fun i j hi hj h=>?_,fun u hu=>?_⟩
 ·have h1:=(hat i hi).1
  have h2:=(hat j hj).1
  refine (List.getElem?_inj (by omega) hnd).1 ?_
  rw[h1,h2]
  exact congrArg (fun x:Nat=>some (x:Int)) h
 ·have:(u:Int)∈S.aG os n:=hp.mem_iff.2 (List.mem_map.2 ⟨u,List.mem_range.2 hu,rfl⟩)
  obtain ⟨k,hk,he⟩:=List.mem_iff_getElem.1 this
  refine ⟨k,by omega,?_⟩
  rw[List.getElem?_eq_getElem hk,he];rfl
theorem JX (m n:Nat):∃z:Int,ch .shl (.int .i64 (m:Int)) (.int .u64 (n:Int))=.val (.int .i64 z):=⟨_,rfl⟩
def LNX (X:Ky->Prop)(n:Nat)(D:ND):Ky->Prop:=fun k=>LN n D k\/X k
def X1:Ky->Prop:=fun k=>k=(0,1)
def X2:Ky->Prop:=fun k=>k=(0,1)\/k=(0,2)
structure DN (X:Ky->Prop) (r0:List AV) (n q K:Nat) (gr:Int) (V:Ky->AV) (E:Ky->En) (D:ND) (g:G):Prop where
 hp:Hp g 2 (LNX X n D) V E
 bn:BN K n V E D
 vb:V (0,1)=.hptr q 0 0 0
 bx:E (0,1)=.bx [.int .i64 gr,V (0,0)]
 h0:g.h.get 0=.cells 3 [r0] 0 false false
 h1:g.h.get 1=.cells 2 [[.int .i64 0,.nils]] 0 false false
theorem DN.q {X:Ky->Prop}{r0:List AV}{n q K:Nat}{gr:Int}{V:Ky->AV}{E:Ky->En}{D:ND}{g:G}(h:DN X r0 n q K gr V E D g)(hX:X (0,1)):g.h.get q=.cells 2 [[.int .i64 gr,V (0,0)]] 0 false false/\2<=q/\q<g.nx:=by
 obtain ⟨id,h1,h2,h3,h4⟩:=h.hp.box (k:=(0,1)) (.inr hX) h.bx
 rw[h.vb] at h3;injection h3 with h3;subst h3
 exact ⟨h4,h1,h2⟩
theorem DN.ns {X:Ky->Prop}{r0:List AV}{n q K:Nat}{gr:Int}{V:Ky->AV}{E:Ky->En}{D:ND}{g:G}(h:DN X r0 n q K gr V E D g):Own g 2 (V (0,0)) 3 ((List.range n).map (fm D V)):=h.hp.own (.inl LN.z) h.bn.ns
theorem DN.same {X:Ky->Prop}{r0:List AV}{n q K:Nat}{gr:Int}{V:Ky->AV}{E:Ky->En}{D:ND}{g g':G}(h:DN X r0 n q K gr V E D g)(hf:Fr g g'):DN X r0 n q K gr V E D g':=by
 have:=h.hp.nx
 exact ⟨h.hp.step hf.1 fun i _ hi=>hf.2 i hi,h.bn,h.vb,h.bx,by rw[hf.2 0 (by omega),h.h0],by rw[hf.2 1 (by omega),h.h1]⟩
theorem eJ {g:G}{b:Nat}{v:AV}{sz:Nat}{rows:List (List AV)}(h:Own g b v sz rows)(hr:0<rows.length):jz v=true:=by
 rcases h with ⟨rfl,rfl⟩ | ⟨id,ep,lo,-,-,rfl,-⟩
 ·simp at hr
 ·rfl
theorem DN.card {X:Ky->Prop}{r0:List AV}{n q K i:Nat}{gr c:Int}{V:Ky->AV}{E:Ky->En}{D:ND}{g:G}{KK:AV->G->Prop}{DD:ADf->Prop}(h:DN X r0 n q K gr V E D g)(hi:i<n)(hX:∀k,X k->k≠(0,0))
  (kk:∀g' E',DN X r0 n q K gr V E' { D with c:=ups D.c i c } g'->g'.nx=g.nx->KK .undef g'):(md 1 (jr 3 (V (0,0)) i 0) (.int .i64 c) g).sat KK g DD:=by
 refine h.hp.put (k:=(0,0)) (row:=fm D V i) (row':=[.int .i64 c,V (i+1,0),V (i+1,1)]) (.inl LN.z) h.bn.ns (fF _ hi) rfl rfl rfl fun g' hH hn hf1 hf2=>?_
 refine kk g' _ ⟨hH.sub fun k hk=>hk,⟨?_,fun j hj=>?_,fun j hj=>?_,fun j r hj hr=>?_⟩,h.vb,?_,by rw[hf1 0 (by omega),h.h0],by rw[hf1 1 (by omega),h.h1]⟩ hn
 ·rw[aq,mz _ _ hi]
  congr 1
  refine yu (by simp[fm,aq]) fun j hj hne=>by simp[fm,ac _ _ hne]
 ·rw[ac _ _ (by simp)];exact h.bn.ps j hj
 ·rw[ac _ _ (by simp)];exact h.bn.rs j hj
 ·rw[ac _ _ (by simp)];exact h.bn.rr j r hj hr
 ·rw[ac _ _ (by simp)];exact h.bx
end
end Hx
end
section
namespace Hx
open Go
noncomputable section
structure DAok (D:ND) (n i:Nat) (num:Nat->Nat):Prop where
 e:∀v,v<n->D.P v=[]/\D.m v=0
 c:∀k,k<i->D.c (num k)=2\/D.c (num k)=3
 o:∀u,D.o u=0
def LDA (n q:Nat)(r5:AV):List (Nat×AV):=[(1,.hptr 0 0 0 0),(2,.hptr 1 0 0 0),(3,.int .i64 (n:Int)),(4,.hptr q 0 0 0),(5,r5)]
structure DA (r0:List AV) (n q:Nat) (gr:Int) (r5:AV) (num:Nat->Nat) (i:Nat) (t:T) (g:G):Prop where
 st:St t (LDA n q r5)
 w:∃w:Nat,tat t 6=.int .i64 (w:Int)/\w<=3 ^ i
 hd:∃V E D,DN X1 r0 n q 1000 gr V E D g/\DAok D n i num
theorem MY {i:Nat}(h:i<=5):3 ^ i<=243:=by
 have:i=0\/i=1\/i=2\/i=3\/i=4\/i=5:=by omega
 rcases this with rfl | rfl | rfl | rfl | rfl | rfl<;>decide
theorem Mm {d n q kk:Nat}{x:se}{gr:Int}{a b r5:AV}{pl:List Int}{num:Nat->Nat}{Q:QT}{t:T}{g:G}(hn:1<=n/\n<=5)(ha:SlR NoP kk .nil x.2.1 a)(h5:IT 0 pl r5)(hN:Num n pl num)
  (h0:DA [u8v x.1,a,b] n q gr r5 num 0 t g) (h7:tat t 7=.int .i64 0)
  (fin:∀t g,DA [u8v x.1,a,b] n q gr r5 num n t g->Q (.exit 0) t [] g):wpL (wp C0 d none eh) Q t [] g:=by
 obtain ⟨pr,r1,r2,r3,r4⟩:=ha.all
 have r1:∀h',af h' 3 a=some pr:=r1
 have la:=ha.len
 have hal:=ha.1
 have r5i:∀h,af h 1 r5=some (pl.map ci):=fun h=>(h5.sl h).ints
 simp only[eh,jc]
 refine bk n (by omega) (fun j t df g=>df=[]/\DA [u8v x.1,a,b] n q gr r5 num j t g) ⟨rfl,h0⟩ h7 (by decide) ?_ ?_ ?_ ?_
 ·rintro j t df g v s (rfl | rfl | rfl) ⟨a1,⟨b1,b2,b3,b4,b5,-⟩,⟨w,c1,c2⟩,c3⟩<;>exact ⟨a1,by simp[St,LDA,sx,b1,b2,b3,b4,b5],⟨w,by simp[sx,c1],c2⟩,c3⟩
 ·rintro j t df g hj ⟨rfl,⟨h1,h2,h3,h4,h5,-⟩,⟨w,h6,hw⟩,hD⟩ h7
  simp only[sx,sy,SO.run,↓reduceIte,Nat.reduceEqDiff,h7,h3]
  exact ⟨by simp[St,LDA,sx,h1,h2,h3,h4,h5],⟨w,by simp[sx,h6],hw⟩,hD⟩
 ·rintro j t df g hj ⟨rfl,⟨h1,h2,h3,h4,h5,-⟩,⟨w,h6,hw⟩,V,E,D,hD,hok⟩ h7
  obtain ⟨p8,hp8⟩:∃p8,p8=g.nx:=⟨_,rfl⟩
  have hnx:=hD.hp.nx
  refine cW (P:=fun t' df g'=>df=[]/\g'=g.new (.cells 3 [[.int .u8 0,.int .u8 0,.nils]] 0 false false)/\St t' ((6,.int .i64 (w:Int))::(7,.int .i64 (j:Int))::(8,.hptr p8 0 0 0)::LDA n q r5)) ?_ ?_
  ·simp only[sx,sy,SO.run,Nat.reduceAdd]
   simp[St,LDA,sx,h1,h2,h3,h4,h5,h6,h7,hp8]
  clear h1 h2 h3 h4 h5 h6 h7
  rintro t df g1 ⟨rfl,hg1,⟨h6,h7,h8,h1,h2,h3,h4,h5,-⟩⟩
  have f1:Fr g g1:=by rw[hg1];exact Fr.new _ _
  have k8:g1.h.get p8=.cells 3 [[.int .u8 0,.int .u8 0,.nils]] 0 false false:=by rw[hg1,hp8];simp[H.get_put]
  have n1:p8<g1.nx:=by rw[hg1,hp8];simp
  clear hg1
  have hD1:=hD.same f1
  have e0:=hD1.h0
  refine cW (P:=fun t' df g'=>df=[]/\Fr g g'/\St t' ((6,.int .i64 (w:Int))::(7,.int .i64 (j:Int))::(8,.hptr p8 0 0 0)::LDA n q r5)/\p8<g'.nx/\∃(y:UInt8) (z1 z2:AV),g'.h.get p8=.cells 3 [[u8v y,z1,z2]] 0 false false) ?_ ?_
  ·simp only[sx,sy,SO.run,↓reduceIte,Nat.reduceEqDiff,h7,h1,e0,la]
   refine aS (fun hb=>?_) (fun hb=>?_)
   ·have hb:j<x.2.1.length:=by simpa using hb
    obtain ⟨y,hy,-,-⟩:=ah hb
    obtain ⟨row,q1,q2⟩:=r3 j y hy
    obtain ⟨wv,rfl,hwv⟩:=zu.1 q2
    have hlt:j<pr.length:=by omega
    have hry:=r4 (by omega)
    simp only[sx,sy,SO.run,↓reduceIte,Nat.reduceEqDiff,Nat.reduceAdd,Nat.reduceLeDiff,h7,h1,e0,r1,hlt,q1,h8,k8,Option.isSome_some,Option.getD_some]
    refine ⟨?_,by simp[St,LDA,sx,h1,h2,h3,h4,h5,h6,h7,h8],by simpa using n1,y.1,u8v y.2.1,wv,by simp[H.get_put]⟩
    exact ⟨Nat.le_trans f1.1 (by simp),fun i hi=>by simp[H.get_put,show ¬i=p8 by omega];exact f1.2 i hi⟩
   ·simp only[sx,sy]
    exact ⟨f1,by simp[St,LDA,sx,h1,h2,h3,h4,h5,h6,h7,h8],n1,0,.int .u8 0,.nils,k8⟩
  clear h1 h2 h3 h4 h5 h6 h7 h8 e0 hD1 k8 n1 f1
  rintro t df g2 ⟨rfl,f2,⟨h6,h7,h8,h1,h2,h3,h4,h5,-⟩,n2,y,z1,z2,k8⟩
  have hD2:=hD.same f2
  have q2:=fK .u8 (a:=(y.toNat:Int)) (b:=2) (by omega) (by omega)
  obtain ⟨m,hm⟩:∃m:Nat,(y.toNat:Int) % 2=(m:Int):=Int.eq_ofNat_of_zero_le (Int.emod_nonneg _ (by decide))
  have hm2:m<2:=by have:=Int.emod_lt_of_pos (y.toNat:Int) (show (0:Int)<2 by decide);omega
  rw[hm] at q2
  have w2:IntKind.wrap .i64 (m:Int)=(m:Int):=ap (by omega) (by omega)
  have w3:IntKind.wrap .i64 (2+(m:Int))=((2+m:Nat):Int):=by rw[ap (by omega) (by omega)];rfl
  have hp3:=MY (i:=j) (by omega)
  have hwc:w*(2+m)<=243*3:=Nat.mul_le_mul (by omega) (by omega)
  have w4:IntKind.wrap .i64 ((w:Int)*((2+m:Nat):Int))=((w*(2+m):Nat):Int):=by rw[<-Int.natCast_mul,ap (by omega) (by omega)]
  have w5:IntKind.wrap .i64 ((n:Int) - 1)=((n - 1:Nat):Int):=by rw[ap (by omega) (by omega)];omega
  have w6:IntKind.wrap .i64 (((n - 1:Nat):Int) - (j:Int))=((n - 1 - j:Nat):Int):=by rw[ap (by omega) (by omega)];omega
  have w7:IntKind.wrap .u64 ((n - 1 - j:Nat):Int)=((n - 1 - j:Nat):Int):=l_ (by omega) (by omega)
  obtain ⟨z,hz⟩:=JX (w*(2+m)) (n - 1 - j)
  refine cW (P:=fun t' df g'=>df=[]/\g'=g2/\St t' ((6,.int .i64 (w:Int))::(7,.int .i64 (j:Int))::(9,.int .i64 ((2+m:Nat):Int))::LDA n q r5)) ?_ ?_
  ·simp only[sx,sy,SO.run,↓reduceIte,h8,k8,u8v,q2,w2,w3]
   simp[St,LDA,sx,h1,h2,h3,h4,h5,h6,h7]
  clear h1 h2 h3 h4 h5 h6 h7 h8
  rintro t df g3 ⟨rfl,rfl,⟨h6,h7,h9,h1,h2,h3,h4,h5,-⟩⟩
  refine cW (P:=fun t' df g'=>df=[]/\g'=g3/\∃C:Nat,(C=2\/C=3)/\St t' ((6,.int .i64 (w:Int))::(7,.int .i64 (j:Int))::(9,.int .i64 (C:Int))::LDA n q r5)) ?_ ?_
  ·simp only[sx,SO.run,↓reduceIte,Nat.reduceEqDiff,h6,h7,h9,h3,w4,w5,w6,w7,hz]
   refine aS (fun hb=>?_) (fun hb=>?_)
   ·simp only[sx,sy,SO.run]
    refine ⟨2,.inl rfl,?_⟩
    simp[St,LDA,sx,h1,h2,h3,h4,h5,h6,h7]
   ·simp only[sx,sy]
    refine ⟨2+m,by omega,?_⟩
    simp[St,LDA,sx,h1,h2,h3,h4,h5,h6,h7,h9]
  clear h1 h2 h3 h4 h5 h6 h7 h9 hwc w4 hz w3
  rintro t df g4 ⟨rfl,rfl,C,hC,⟨h6,h7,h9,h1,h2,h3,h4,h5,-⟩⟩
  have hwc:w*C<=3 ^ j*3:=Nat.mul_le_mul hw (by omega)
  have hwc2:w*C<=243*3:=Nat.mul_le_mul (by omega) (by omega)
  have w4:IntKind.wrap .i64 ((w:Int)*(C:Int))=((w*C:Nat):Int):=by rw[<-Int.natCast_mul,ap (by omega) (by omega)]
  refine cW (P:=fun t' df g'=>df=[]/\g'=g4/\St t' ((6,.int .i64 ((w*C:Nat):Int))::(7,.int .i64 (j:Int))::(9,.int .i64 (C:Int))::LDA n q r5)) ?_ ?_
  ·simp only[sx,sy,SO.run,↓reduceIte,Nat.reduceEqDiff,h6,h9,w4]
   simp[St,LDA,sx,h1,h2,h3,h4,h5,h7,h9]
  clear h1 h2 h3 h4 h5 h6 h7 h9
  rintro t df g5 ⟨rfl,rfl,⟨h6,h7,h9,h1,h2,h3,h4,h5,-⟩⟩
  obtain ⟨kq,q2a,q2b⟩:=hD2.q rfl
  have rns:=hD2.ns.rows
  have hry:=eJ hD2.ns (by simp;omega)
  have hnj:=hN.lt j hj
  have u1:j<(pl.map ci).length:=by rw[List.length_map,hN.len];exact hj
  have u2:(pl.map ci)[j]?=some (ci (num j:Int)):=by rw[List.getElem?_map,hN.at_ j hj];rfl
  have u3:num j<((List.range n).map (fm D V)).length:=by simpa using hnj
  have u4:=fF (fm D V) hnj
  simp only[sx,sy,SO.run,↓reduceIte,Nat.reduceEqDiff,sf,h4,kq,h5,h7,h9,r5i,u1,u2,rns,u3,hry,ci,Option.isSome_some,Option.getD_some]
  refine (hD2.same (g':=_) ⟨?_,?_⟩).card (i:=num j) (c:=(C:Int)) hnj (fun k hk=>by rw[hk];simp) fun g6 E' hD6 n6=>?_
  ·simp;omega
  ·intro i hi;simp
  simp only[sx,sy,↓reduceIte,Nat.reduceEqDiff]
  refine ⟨?_,⟨by simp[St,LDA,sx,h1,h2,h3,h4,h5],⟨w*C,by simp[sx,h6],by rw[Nat.pow_succ];exact hwc⟩,V,E',_,hD6.same ⟨by simp,fun i _=>by simp⟩,hok.e,fun k hk=>?_,hok.o⟩,by simp[h7]⟩
  ·simp only[List.reverse_cons,List.reverse_nil,List.nil_append,List.cons_append]
   exact aL [false,false,false,false,false,false,false,false,false,true] [] (by simp[All2,an,ay]) (by decide) (by simp)
  ·by_cases e:num k=num j
   ·simp[e,aq];omega
   ·show ups D.c (num j) (C:Int) (num k)=2\/ups D.c (num j) (C:Int) (num k)=3
    rw[ac _ _ e]
    refine hok.c k ?_
    have:k≠j:=fun h=>e (by rw[h])
    omega
 ·rintro t df g ⟨rfl,h⟩
  exact fin t g h
end
end Hx
end
section
namespace Hx
open Go
noncomputable section
theorem vE {g:G}{b:Nat}{v x:AV}{sz bytes:Nat}{rows new:List (List AV)}{K:AV->G->Prop}{D:ADf->Prop}(hv:Own g b v sz rows)(hx:af g.h sz x=some new)(hb:b<=g.nx)
  (hr:(rows.length+new.length)*bytes<=aT)
  (k:∀v' g',Own g' b v' sz (rows++new)->g.nx<=g'.nx->(∀i,i<g.nx->vid v≠some i->g'.h.get i=g.h.get i)->(vid v'=vid v\/∃i,vid v'=some i/\g.nx<=i)->(∀i∈g'.lg,i∈g.lg\/vid v=some i\/g.nx<=i)->K v' g') :
  (cR sz bytes v x g).sat K g D:=by
 unfold cR
 rw[hx]
 dsimp only
 rcases hv with ⟨rfl,rfl⟩ | ⟨id,ep,lo,h1,h2,rfl,h3⟩
 ·cases new with
  | nil=>exact k _ _ (.inl ⟨rfl,rfl⟩) (Nat.le_refl _) (fun _ _ _=>rfl) (.inl rfl) (fun i hi=>.inl hi)
  | cons r new =>
   simp only[a_,aw,aa,Nat.ble_eq]
   rw[if_pos (by simpa using hr)]
   refine k _ _ (.inr ⟨g.nx,0,true,hb,by simp,rfl,by simp[aW]⟩) (by simp) (fun i hi _=>?_) (.inr ⟨g.nx,rfl,Nat.le_refl _⟩) (fun i hi=>by simp at hi;rcases hi with rfl | hi;exact .inr (.inr (Nat.le_refl _));exact .inl hi)
   rw[G.new_h,aE _ _ _ (by omega)]
 ·simp only[a_,G.get_eq,h3,aw,aa,show Nat.beq ep ep=true from Nat.beq_refl ep,show Nat.beq sz sz=true from Nat.beq_refl sz,Bool.true_and,Nat.ble_eq,Bool.and_eq_true,Nat.zero_add,Option.getD_none,Nat.sub_zero]
  rw[if_pos ⟨Nat.le_refl _,hr⟩]
  cases new with
  | nil =>
   rw[if_pos (by simp)]
   refine k _ _ (.inr ⟨id,ep,lo,h1,h2,by simp,by simpa using h3⟩) (Nat.le_refl _) (fun _ _ _=>rfl) (.inl rfl) (fun i hi=>.inl hi)
  | cons r new =>
   rw[if_neg (by simp)]
   have ht:eZ rows.length (eo 0 rows)=rows:=by rw[aY,aZ];simp
   cases lo with
   | false =>
    rw[if_pos (by simp)]
    refine k _ _ (.inr ⟨g.nx,0,true,by omega,by simp,by simp,by simp[aW,ht]⟩) (by simp) (fun i hi _=>?_) (.inr ⟨g.nx,rfl,Nat.le_refl _⟩) (fun i hi=>by simp at hi;rcases hi with rfl | hi;exact .inr (.inr (Nat.le_refl _));exact .inl hi)
    rw[G.new_h,aE _ _ _ (by omega)]
   | true =>
    rw[if_neg (by simp)]
    refine k _ _ (.inr ⟨id,ep+1,true,h1,by simpa using h2,by simp,by simp[aW,ht]⟩) (by simp) (fun i hi hne=>?_) (.inl rfl) (fun i hi=>by simp at hi;rcases hi with rfl | hi;exact .inr (.inl rfl);exact .inl hi)
    rw[G.put_h,aE _ _ _ (fun e=>hne (by rw[e];rfl))]
section
variable {κ:Type} [DecidableEq κ]{g:G}{b:Nat}{L:κ->Prop}{V:κ->AV}{E:κ->En}{k:κ}
theorem Hp.app2 (h:Hp g b L V E)(hk:L k){sz bytes:Nat}{rows new:List (List AV)}(he:E k=.sl sz rows){x:AV}{K:AV->G->Prop}{D:ADf->Prop}(hx:af g.h sz x=some new)
  (hr:(rows.length+new.length)*bytes<=aT)
  (kk:∀v' g',Hp g' b L (ups V k v') (ups E k (.sl sz (rows++new)))->g.nx<=g'.nx->(∀i,i<b->g'.h.get i=g.h.get i)->(∀i,i<g.nx->eid (V k)≠some i->g'.h.get i=g.h.get i)->(∀i∈g'.lg,i∈g.lg\/eid (V k)=some i\/g.nx<=i)->v'.cells=[v']->v'.isTup=false->K v' g') :
  (cR sz bytes (V k) x g).sat K g D:=by
 have ho:=h.own hk he
 refine vE ho hx h.nx hr fun v' g' hv' hn hf hvid hlg=>?_
 refine kk v' g' (h.set hk (e':=.sl sz (rows++new)) hv' hn (fun i _ hi hne=>hf i hi (by rw[<-bN ho];exact hne)) ?_) hn (fun i hi=>hf i (Nat.lt_of_lt_of_le hi h.nx) fun e=>by have:=(ho.lt e).1;omega)
  (fun i hi hne=>hf i hi (by rw[<-bN ho];exact hne)) (fun i hi=>by rw[bN ho];exact hlg i hi) hv'.cell.1 hv'.cell.2
 rw[bN hv',bN ho];exact hvid
theorem Hp.putv (h:Hp g b L V E)(hk:L k){v0:AV}(hv:V k=v0){sz n i off:Nat}{rows:List (List AV)}{row row':List AV}(he:E k=.sl sz rows){x:AV}{K:AV->G->Prop}{D:ADf->Prop}(hr:rows[i]?=some row)
  (hl:x.cells.length=n) (ht:x.isTup=false) (hp:bW row off x.cells=some row')
  (kk:∀g',Hp g' b L V (ups E k (.sl sz (rows.set i row')))->g'.nx=g.nx->(∀i,i<b->g'.h.get i=g.h.get i)->(∀i,eid (V k)≠some i->g'.h.get i=g.h.get i)->K .undef g'):(md n (jr sz v0 i off) x g).sat K g D:=by
 subst hv
 exact h.put hk he hr hl ht hp kk
end
theorem zI (m n:Nat):∃z:Nat,ch .shr (.int .u8 (m:Int)) (.int .u64 (n:Int))=.val (.int .u8 (z:Int)) :=
 ⟨m / 2 ^ (Nat.min n 8),rfl⟩
theorem Al (m n:Nat):∃z:Int,ch .and (.int .u8 (m:Int)) (.int .u8 (n:Int))=.val (.int .u8 z):=by
 have:∃z:Int,Op.intBits .and .u8 (.ofNat m) (.ofNat n)=.pure (.int .u8 z):=⟨_,rfl⟩
 obtain ⟨z,hz⟩:=this
 refine ⟨z,?_⟩
 show orV (nK (Op.intBits .and .u8 (.ofNat m) (.ofNat n)))=_
 rw[hz];rfl
structure DB (D:ND) (n i v:Nat) (num:Nat->Nat):Prop where
 c:∀u,u<n->D.c u=2\/D.c u=3
 p:∀u,u<n->(D.P u).length<=3/\∀y∈D.P u,0<=y/\y<n
 m:∀u,u<n->D.m u<=64
 o:∀u,D.o u=0
 f:∀k,i<k->k<n->D.P (num k)=[]/\D.m (num k)=0
def LDB (n q i p v:Nat)(r5:AV):List (Nat×AV):=[(1,.hptr 0 0 0 0),(2,.hptr 1 0 0 0),(3,.int .i64 (n:Int)),(4,.hptr q 0 0 0),(5,r5),(10,.int .i64 (i:Int)),(11,.hptr p 0 0 0),(12,.int .i64 (v:Int))]
structure DP (r0 prow:List AV) (n q i p v:Nat) (gr:Int) (r5:AV) (num:Nat->Nat) (g:G) (V:Ky->AV) (E:Ky->En) (D:ND):Prop where
 dn:DN X2 r0 n q 1000 gr V E D g
 pb:V (0,2)=.hptr p 0 0 0/\E (0,2)=.bx prow
 db:DB D n i v num
 mv:D.m v=0
theorem DP.p {r0 prow:List AV}{n q i p v:Nat}{gr:Int}{r5:AV}{num:Nat->Nat}{g:G}{V:Ky->AV}{E:Ky->En}{D:ND}(h:DP r0 prow n q i p v gr r5 num g V E D):g.h.get p=.cells prow.length [prow] 0 false false/\2<=p/\p<g.nx:=by
 obtain ⟨id,h1,h2,h3,h4⟩:=h.dn.hp.box (k:=(0,2)) (.inr (.inr rfl)) h.pb.2
 rw[h.pb.1] at h3;injection h3 with h3;subst h3
 exact ⟨h4,h1,h2⟩
theorem A0 {X:Ky->Prop}{n:Nat}{D:ND}{V:Ky->AV}{E:Ky->En}{g:G}(h:Hp g 2 (LNX X n D) V E){j k:Ky}(hj:LNX X n D j)(hk:LNX X n D k)(hne:j≠k){id:Nat}(he:eid (V j)=some id):eid (V k)≠some id:=h.sep j k hj hk hne id he
def xA:SC:=.feet [0,1,0,0,8,0,56,120,248,0,512,2040,4095,8191,16383] [o 131 (.fad 1 (.t 4)),o 132 (.load false 1 (.t 131)),o 133 (.mv (.t 12)),o 134 (.fad 1 (.t 4)),o 135 (.load false 1 (.t 134)),o 136 (.mv (.t 12)),o 137 (.ixs 3 (.t 135) (.t 136)),o 138 (.fad 1 (.t 137)),o 139 (.load false 1 (.t 138)),o 140 (.mv (.t 13)),o 141 (.bsl 1 1 [.int .i64 0] [0] [.t 140]),o 142 (.app 1 8 (.t 139) (.t 141)),o 143 (.ixs 3 (.t 132) (.t 133)),o 144 (.fad 1 (.t 143)),oz (.store 1 (.t 144) (.t 142))]
theorem JR {d n q i p v u:Nat}{gr:Int}{r0 prow:List AV}{r5:AV}{num:Nat->Nat}{Q:QT}{t:T}{g:G}{V:Ky->AV}{E:Ky->En}{D:ND}{rest:List (Nat×AV)}(hn:1<=n/\n<=5)(hv:v<n)(hvi:∀k,i<k->k<n->num k≠v)(hu:u<n)
  (h4:tat t 4=.hptr q 0 0 0) (h12:tat t 12=.int .i64 (v:Int)) (h13:tat t 13=.int .i64 (u:Int)) (hP:DP r0 prow n q i p v gr r5 num g V E D) (hl:(D.P v).length<3)
  (fin:∀t' g' V' E' D',(∀s,(s<131\/144<s)->tat t' s=tat t s)->DP r0 prow n q i p v gr r5 num g' V' E' D'->Q .norm t' [] g') :
  wp C0 d none xA Q t [] g:=by
 have hD:=hP.dn
 obtain ⟨kq,q2a,q2b⟩:=hD.q (.inl rfl)
 unfold xA
 have rns:=hD.ns.rows
 have hry:=eJ hD.ns (by simp;omega)
 have u3:v<((List.range n).map (fm D V)).length:=by simpa using hv
 have u4:=fF (fm D V) hv
 have hps:=hD.bn.ps v hv
 have hnx:=hD.hp.nx
 simp only[sx,sy,SO.run,↓reduceIte,Nat.reduceEqDiff,sf,h4,h12,h13,kq,rns,u3,u4,hry,fm,Option.isSome_some,Option.getD_some]
 refine (hD.hp.step (g':=_) ?_ ?_).app2 (k:=(v+1,0)) (.inl (LN.p hv)) hps.1 (new:=[ci (u:Int)]) (by simp[sx,sy,ci]) (by unfold aT;simp;omega) fun v1 g1 hH1 n1 fb1 fo1 lg1 vc vt=>?_
 ·simp;omega
 ·intro i _ hi
  simp[H.get_put];omega
 simp only[sx,sy] at n1 fb1 fo1 lg1
 have e00:ups V (v+1,0) v1 (0,0)=V (0,0):=ac _ _ (by simp)
 have hE00:ups E (v+1,0) (.sl 1 ((D.P v).map ci++[ci (u:Int)])) (0,0)=.sl 3 ((List.range n).map (fm D V)):=by rw[ac _ _ (by simp)];exact hD.bn.ns
 have rns1:af g1.h 3 (V (0,0))=some ((List.range n).map (fm D V)):=by rw[<-e00];exact (hH1.own (k:=(0,0)) (.inl LN.z) hE00).rows
 have u4':((List.range n).map (fm D V))[v]?=some [.int .i64 (D.c v),V (v+1,0),V (v+1,1)]:=u4
 simp only[sx,sy,SO.run,↓reduceIte,Nat.reduceEqDiff,sf,rns1,u3,hry,Option.isSome_some,Option.getD_some]
 refine (hH1.same (g':=_) ?_ ?_).putv (k:=(0,0)) (.inl LN.z) e00 (row':=[.int .i64 (D.c v),v1,V (v+1,1)]) hE00 u4 (by rw[vc];rfl) vt (by rw[vc];rfl) fun g2 hH2 n2 fb2 fo2=>?_
 ·simp
 ·simp;omega
 simp only[sy]
 refine ⟨?_,?_⟩
 ·simp only[List.reverse_cons,List.reverse_nil,List.nil_append,List.cons_append]
  refine aL [false,false,false,false,false,false,false,false,false,false,true,true,false,false,true] [(0,10),(1,10),(2,10),(3,10),(4,10),(5,10),(6,10),(7,10),(8,10),(0,11),(1,11),(2,11)] (by simp[All2,an,ay]) (by decide) ?_
  have hlg:∀i∈g1.lg,i≠q:=fun i hi e=>by
   rcases lg1 i hi with h | h | h
   ·simp at h
   ·exact A0 hD.hp (.inl (LN.p hv)) (.inr (.inl rfl)) (by simp) h (by rw[hD.vb,e];rfl)
   ·omega
  obtain ⟨id0,ep0,hid0,hv0⟩:∃id ep,id<g.nx/\V (0,0)=.hsl id ep 0 ((List.range n).map (fm D V)).length none:=by
   rcases hD.ns with ⟨h,e⟩ | ⟨id,ep,lo,-,h1,h2,-⟩
   ·have:=congrArg List.length e
    simp at this;omega
   ·exact ⟨id,ep,h1,h2⟩
  have hlg2:∀i∈g1.lg,i≠id0:=fun i hi e=>by
   rcases lg1 i hi with h | h | h
   ·simp at h
   ·exact A0 hD.hp (.inl (LN.p hv)) (.inl LN.z) (by simp) h (by rw[hv0,e];rfl)
   ·omega
  rintro p hp' x y hx hy
  simp only[List.mem_cons,List.not_mem_nil,or_false] at hp'
  rcases hp' with rfl | rfl | rfl | rfl | rfl | rfl | rfl | rfl | rfl | rfl | rfl | rfl<;>(simp at hx hy;subst hx;subst hy;refine cq rfl rfl rfl rfl ?_ ?_ ?_<;>simp[an,ay,am,hv0,jr]<;>first | omega | exact hlg | exact hlg2 | exact fun i hi e=>hlg i hi e.symm | exact fun i hi e=>hlg2 i hi e.symm)
 refine fin _ _ (ups V (v+1,0) v1) _ { D with P:=ups D.P v (D.P v++[(u:Int)]) } (fun s hs=>?_) ⟨⟨(hH2.same (g':=_) (by simp) (by simp)).sub fun k hk=>hk,⟨?_,fun j hj=>?_,fun j hj=>?_,fun j r hj hr=>?_⟩,?_,?_,?_,?_⟩,⟨?_,?_⟩,⟨hP.db.c,fun w hw=>?_,hP.db.m,hP.db.o,fun k hk hkn=>?_⟩,hP.mv⟩
 ·simp only[i_]
  repeat rw[if_neg (by omega)]
 ·rw[aq,mz _ _ hv]
  congr 1
  refine yu (by simp[fm,aq,ac]) fun j hj hne=>by simp[fm,ac,hne]
 ·by_cases e:j=v
  ·subst e
   rw[ac _ _ (by simp),aq]
   show En.sl 1 _=En.sl 1 ((ups D.P j (D.P j++[(u:Int)]) j).map ci)/\(ups D.P j (D.P j++[(u:Int)]) j).length<=1000
   rw[aq]
   exact ⟨by simp,by simp;omega⟩
  ·rw[ac _ _ (by simp),ac _ _ (by simp[e])]
   show E (j+1,0)=En.sl 1 ((ups D.P v (D.P v++[(u:Int)]) j).map ci)/\(ups D.P v (D.P v++[(u:Int)]) j).length<=1000
   rw[ac _ _ e]
   exact hD.bn.ps j hj
 ·rw[ac _ _ (by simp),ac _ _ (by simp)]
  have:=hD.bn.rs j hj
  refine ⟨?_,this.2⟩
  rw[this.1]
  congr 1
  exact List.map_congr_left fun r _=>by simp[D_,ac]
 ·rw[ac _ _ (by simp),ac _ _ (by simp),ac _ _ (by simp)];exact hD.bn.rr j r hj hr
 ·rw[ac _ _ (by simp)];exact hD.vb
 ·rw[ac _ _ (by simp),ac _ _ (by simp),ac _ _ (by simp)];exact hD.bx
 ·simp only[bumpG_h]
  rw[fb2 0 (by omega)]
  simp
  rw[fb1 0 (by omega),if_neg (by omega),hD.h0]
 ·simp only[bumpG_h]
  rw[fb2 1 (by omega)]
  simp
  rw[fb1 1 (by omega),if_neg (by omega),hD.h1]
 ·rw[ac _ _ (by simp)];exact hP.pb.1
 ·rw[ac _ _ (by simp),ac _ _ (by simp)];exact hP.pb.2
 ·by_cases e:w=v
  ·subst e
   show (ups D.P w (D.P w++[(u:Int)]) w).length<=3/\∀y∈ups D.P w (D.P w++[(u:Int)]) w,0<=y/\y<n
   rw[aq]
   refine ⟨by simp;omega,fun y hy=>?_⟩
   rcases List.mem_append.1 hy with h | h
   ·exact (hP.db.p w hw).2 y h
   ·rw[List.mem_singleton.1 h];omega
  ·show (ups D.P v (D.P v++[(u:Int)]) w).length<=3/\∀y∈ups D.P v (D.P v++[(u:Int)]) w,0<=y/\y<n
   rw[ac _ _ e]
   exact hP.db.p w hw
 ·show ups D.P v (D.P v++[(u:Int)]) (num k)=[]/\D.m (num k)=0
  rw[ac _ _ (hvi k hk hkn)]
  exact hP.db.f k hk hkn
end
end Hx
end
