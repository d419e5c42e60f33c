/- A part of the proof: an interpreter over abstract values, shown right against the model, and what the functions of the chapter compute on it. -/
import Derived.Test.YtaebcalnodgpnaaHx10
set_option linter.unusedVariables false
set_option linter.unusedSimpArgs false
set_option linter.unnecessarySimpa false
section
namespace Hx
open Go
noncomputable section
theorem xf {d k:Nat}{g:G}{P:Nat->Prop}{v:AV}{l:List Int}{n:Int}(hd:0<d)(hv:SlR P k g.h l v) :
  ak C0 d N.aC [v,.int .i64 n] g=.val (.bool (S.aq l n)):=by
 obtain ⟨v',e,r1⟩:=be hv d
 rw[so]
 refine dE ve (xs:=[v',.int .i64 n]) (by simp only[aH,dB 0,e]) (by simp[km]) hd ?_
 simp only[km,sx,SO.run]
 have hl:=hv.1
 refine eA hl (r1 .nil).len (fun j t df g=>df=[]/\tat t 1=.int .i64 n/\(List.range j).all (S.aI l n)=true)
  ⟨rfl,by simp[sx],rfl⟩ (by simp[sx]) (by simp[sx]) (by decide) (by rintro j t df g v s (rfl | rfl | rfl | rfl | rfl | rfl | rfl)<;>simp[sx]) ?_ ?_
 ·rintro j t df g hj ⟨rfl,h1,hw⟩ h5 h0
  obtain ⟨x,hx,htk,hm⟩:=af hj
  have bad:S.aI l n j=false->S.aq l n=false:=fun h=>bL hj h
  have rr:=(r1 g.h).ints
  simp only[sx,sy,SO.run,↓reduceIte,Nat.reduceEqDiff,rr,h0,h5,hx,hj,Option.isSome_some,Option.getD_some,List.length_map,List.getElem?_map,Option.map_some,ci]
  refine aw (fun hb=>?_) (fun hb=>?_)
  ·simp only[sx,sy,SO.run,↓reduceIte,Nat.reduceEqDiff,hb]
   rw[bad (by simp[S.aI,hx] at *;omega)]
  ·simp only[sx,sy,SO.run,↓reduceIte,Nat.reduceEqDiff,rr,hb,h0,h1,h5,hx,hj,Option.isSome_some,Option.getD_some,List.length_map,List.getElem?_map,Option.map_some,ci]
   refine aw (fun hc=>?_) (fun hc=>?_)
   ·simp only[sx,sy,SO.run,↓reduceIte,Nat.reduceEqDiff,hc]
    rw[bad (by simp[S.aI,hx] at *;omega)]
   ·simp only[sx,SO.run,↓reduceIte,Nat.reduceEqDiff,hc,h5]
    refine aw (fun hd=>?_) (fun hd=>?_)
    ·obtain ⟨i,rfl⟩:∃i,j=i+1:=⟨j - 1,by simp at hd;omega⟩
     obtain ⟨y,hy,-,-⟩:=af (l:=l) (j:=i) (by omega)
     have hi:i<l.length:=by omega
     have e:IntKind.wrap .i64 (((i+1:Nat):Int) - 1)=(i:Int):=by rw[an (by omega) (by omega)];omega
     simp only[sx,sy,SO.run,↓reduceIte,Nat.reduceEqDiff,rr,hd,e,h0,h5,hx,hj,hy,hi,Option.isSome_some,Option.getD_some,List.length_map,List.getElem?_map,Option.map_some,ci]
     refine aw (fun he=>?_) (fun he=>?_)
     ·simp only[sx,sy,SO.run,↓reduceIte]
      rw[bad (by simp[S.aI,hx,hy] at *;omega)]
     ·simp only[sx,sy,↓reduceIte,Nat.reduceEqDiff,h0,h1,h5]
      rw[bn,hw]
      simp[S.aI,hx,hy] at *;omega
    ·have:j=0:=by simp at hd;omega
     subst this
     simp only[sx,sy,SO.run,↓reduceIte,Nat.reduceEqDiff,hd,h0,h1,h5]
     simp[S.aI,hx] at *;omega
 ·rintro t df g ⟨rfl,-,hw⟩ -
  simp only[kZ,sx,SO.run,↓reduceIte]
  rw[S.aq,hw]
def S.ap (m:Causal)(x:Mech):List Int:=x.frm.map (S.az m)++x.noise.map (S.aX m)
theorem tU {d k:Nat}{g:G}{P:Nat->Prop}{v:AV}{m:Causal}{i:Nat}{x:Mech}(hd:0<d)(hm:Agg m P k g.h v)(hx:m.nodes[i]?=some x)(hn5:m.nodes.length<=5)(hn8:m.roots.length<=8)
  (hf:S.aq x.frm m.nodes.length=true) (hn:S.aq x.noise m.roots.length=true) :
  ∃r,ak C0 d N.aQ [v,.int .i64 (i:Int)] g=.val r/\IT 0 (S.ap m x) r:=by
 obtain ⟨v',e,cs,rfl,hc⟩:=bP (aQ m) (by decide) d hm
 obtain ⟨a,b,rfl,hR,hN⟩:=aC.1 hc
 obtain ⟨rows,r1,r2,r3,r4⟩:=hN.all
 have r1:∀h',ah h' 4 b=some rows:=r1
 obtain ⟨row,q1,q2⟩:=r3 i x hx
 obtain ⟨fa,fb,fc,rfl,hfa,hfb,hfc⟩:=bW.1 q2
 have hi:=(List.getElem?_eq_some_iff.1 hx).1
 have hlt:i<rows.length:=by omega
 have hry:=r4 (by omega)
 have hms:∀g:G,Agg m NoP (max k d) g.h (.agg [.int .i64 m.grain,a,b]):=fun g=>⟨_,rfl,aC.2 ⟨a,b,rfl,hR.tree (Nat.le_refl _),hN.tree (Nat.le_refl _)⟩⟩
 rw[s7]
 refine aV wC (xs:=[.agg [.int .i64 m.grain,a,b],.int .i64 i]) (by simp only[aH,e,dB 0]) (by simp[lW]) (aU _) (by decide) hd ?_
 simp only[lW,sx,sy,SO.run,↓reduceIte,Nat.reduceEqDiff,Nat.reduceAdd]
 generalize hg0:(G.empty.new (AObj.cells 3 [[AV.int IntKind.i64 m.grain,a,b]] 0 false false))=g0
 have f0:g0.h.get 0=.cells 3 [[.int .i64 m.grain,a,b]] 0 false false:=by rw[<-hg0];simp[sx]
 have f1:1<=g0.nx:=by rw[<-hg0];simp[sx]
 clear hg0
 have ids0:∀g:G,aL g.h aK (.agg [.int .i64 m.grain,a,b])=[]:=fun g=>Jd (h:=g.h) (aC.2 ⟨a,b,rfl,hR.tree (Nat.le_refl _),hN.tree (Nat.le_refl _)⟩)
 simp only[nL,sx,sy,sf,SO.run,tQ,↓reduceIte,Nat.reduceEqDiff,Nat.reduceAdd,Nat.reduceLeDiff,f0]
 refine a_ (Gg (Nat.succ_pos d) (hms _) (by omega)) fun r hr=>?_
 simp only[sx,sy,sf,SO.run,h_,↓reduceIte,Nat.reduceEqDiff,f0,r1,hlt,q1,hry,Option.isSome_some,Option.getD_some,bM hry,bQ,hN.refs]
 have hcl:(m.nodes.map (·.card)).length=m.nodes.length:=by simp
 refine D3 (l:=m.nodes.map (·.card)) (p:=x.frm) (fun g' _=>hr.rows _) (fun g' _=>(hfa.tree (Nat.le_refl _)).ints) (by have:=ba hf;omega) (fun z hz=>by rw[hcl];exact aE hf z hz) fun u g1 hu fr1 lg1=>?_
 simp only[sy] at fr1 lg1
 have e0:g1.h.get 0=.cells 3 [[.int .i64 m.grain,a,b]] 0 false false:=by rw[fr1.2 0 (by simp)];simpa using f0
 simp only[sx,sy,sf,SO.run,qG,↓reduceIte,Nat.reduceEqDiff,Nat.reduceAdd,Nat.reduceLeDiff,e0]
 refine a_ (m9 (Nat.succ_pos d) (hms _) (by omega)) fun r' hr'=>?_
 simp only[sx,sy,sf,SO.run,h_,↓reduceIte,Nat.reduceEqDiff,e0,r1,hlt,q1,hry,Option.isSome_some,Option.getD_some,bM hry,bQ,hN.refs]
 have hrl:(m.roots.map fun r=>(r.length:Int)).length=m.roots.length:=by simp
 refine D3 (l:=m.roots.map fun r=>(r.length:Int)) (p:=x.noise) (fun g' _=>hr'.rows _) (fun g' _=>(hfb.tree (Nat.le_refl _)).ints) (by have:=ba hn;omega) (fun z hz=>by rw[hrl];exact aE hn z hz) fun w g2 hw fr2 lg2=>?_
 simp only[sy] at fr2 lg2
 simp only[sx,sy,sf,SO.run,↓reduceIte,Nat.reduceEqDiff]
 have m1:∀i∈g1.lg,0<i:=fun i hi=>by rcases lg1 i hi with h | h;simp at h;omega
 have hu2:Own (aI (dj g2 (g2.lg++(g1.lg++g0.lg))) []) 1 u 1 ((x.frm.map fun z=>(m.nodes.map (·.card))[z.toNat]?.getD 0).map ci):=by
  rcases hu with h | ⟨id,ep,lo,p1,p2,rfl,p3⟩
  ·exact .inl h
  ·refine .inr ⟨id,ep,lo,?_,?_,rfl,?_⟩
   ·simp at p1;omega
   ·have:=fr2.1;simp at this ⊢;omega
   ·have:=fr2.2 id (by simp;omega);simp only[bumpG_h,setLog_h] at this ⊢;rw[this,p3]
 refine aJ (new:=(x.noise.map fun z=>(m.roots.map fun r=>(r.length:Int))[z.toNat]?.getD 0).map ci) hu2 (by have:=hw.rows;simpa using this) (by simp) (by simp[aZ];have:=ba hf;have:=ba hn;omega) fun z g3 hz n3 f3 _ l3=>?_
 simp only[sx,sy,sf,SO.run,↓reduceIte]
 refine ⟨?_,?_⟩
 ·simp only[List.reverse_cons,List.reverse_nil,List.nil_append,List.cons_append]
  refine aX [false,false,false,false,false,false,false,false,true,false,false,false,false,false,false,false,false,true,true,false] [(8,9),(8,11),(8,12),(8,13),(8,14),(8,15),(8,16)] (by simp[All2,au,aF,bw]) (by decide) ?_
  rintro p hp x y hx hy
  simp only[List.mem_cons,List.not_mem_nil,or_false] at hp
  rcases hp with rfl | rfl | rfl | rfl | rfl | rfl | rfl<;>(simp at hx hy;subst hx;subst hy;exact uj (b:=1) (fun i hi=>m1 i hi) rfl rfl (by simp[au,aF]) rfl)
 ·refine ⟨fun _=>True,?_⟩
  have e:(x.frm.map fun z=>(m.nodes.map (·.card))[z.toNat]?.getD 0).map ci++(x.noise.map fun z=>(m.roots.map fun r=>(r.length:Int))[z.toNat]?.getD 0).map ci=(S.ap m x).map ci:=by
   simp only[List.getElem?_map];rw[S.ap,List.map_append];rfl
  rw[e] at hz
  have:=hz.ints (k:=0) (by simp[S.ap];have:=ba hf;have:=ba hn;omega)
  simpa using this
end
end Hx
end
section
namespace Hx
open Go
noncomputable section
def S.aZ (m:Causal)(x:Mech):Bool:=decide (1<=x.card)&&decide (x.card<=4)&&S.aq x.frm m.nodes.length&&S.aq x.noise m.roots.length
def S.bB (m:Causal)(x:Mech):Bool:=decide ((x.out.length:Int)=S.aa (S.ap m x))&&S.aV 0 (x.card - 1) x.out
def S.aB (m:Causal):Bool :=
 decide (1<=m.grain)&&decide (m.grain<=12)&&decide (m.roots.length<=8)&&decide (1<=m.nodes.length)&&decide (m.nodes.length<=5)&&m.roots.all (S.aJ m.grain)&&m.nodes.all (S.aZ m) &&
  decide (S.aa (m.roots.map fun r=>(r.length:Int))<=1024)&&decide (S.aa (m.nodes.map (·.card))<=1024)&&S.bE (S.ay m)&&m.nodes.all (S.bB m)
theorem A3 (l p:List Int):S.aa (l++p)=S.aa l*S.aa p:=by
 induction l with
 | nil=>simp[S.aa]
 | cons a l ih=>rw[List.cons_append,bV,bV,ih,Int.mul_assoc]
theorem xB (m:Causal)(x:Mech):S.aa (S.ap m x)=S.bc m x*S.bk m x:=by rw[S.ap,A3];rfl
section
variable {d k:Nat}{m:Causal}{a b:AV}
theorem Fm (hR:SlR NoP k .nil m.roots a)(hN:SlR NoP k .nil m.nodes b)(hs:S.Small m)(hg:1<=m.grain/\m.grain<=12)(h1n:1<=m.nodes.length)(hro:m.roots.all (S.aJ m.grain)=true)(hno:m.nodes.all (S.aZ m)=true)
  (t:T) (g:G) (h1:tat t 1=.hptr 0 0 0 0) (hg0:g.h.get 0=.cells 3 [[.int .i64 m.grain,a,b]] 0 false false) (hnx:1<=g.nx)
  (h3:tat t 3=.int .i64 (S.aa (m.roots.map fun r=>(r.length:Int)))) (h4:tat t 4=.int .i64 (S.aa (m.nodes.map (·.card)))) :
  wp C0 (d+1) none f7 (fnQ C0 (d+1) [SR.tm 2] fun v _=>v=.bool (S.aB m)) t [] g:=by
 obtain ⟨rows,r1,r2,r3,r4⟩:=hN.all
 have r1:∀h',ah h' 4 b=some rows:=r1
 have hms:∀g:G,Agg m NoP k g.h (.agg [.int .i64 m.grain,a,b]):=fun g=>⟨_,rfl,aC.2 ⟨a,b,rfl,hR.tree (Nat.le_refl _),hN.tree (Nat.le_refl _)⟩⟩
 have hpl:∀x∈m.nodes,S.aq x.frm m.nodes.length=true/\S.aq x.noise m.roots.length=true:=fun x hx=>by
  have:=List.all_eq_true.1 hno x hx
  simp only[S.aZ,Bool.and_eq_true] at this
  exact ⟨this.1.2,this.2⟩
 have bad:¬S.aB m=true->AV.bool false=AV.bool (S.aB m):=fun h=>by rw[Bool.not_eq_true] at h;rw[h]
 simp only[f7,sx,SO.run,↓reduceIte,h3]
 refine aw (fun hb=>?_) (fun hb=>?_)
 ·simp only[sx,SO.run,↓reduceIte,Nat.reduceEqDiff,hb]
  exact bad fun h=>by simp only[S.aB,Bool.and_eq_true,decide_eq_true_eq] at h;simp at hb;omega
 ·have c1:S.aa (m.roots.map fun r=>(r.length:Int))<=1024:=by simp at hb;omega
  simp only[sx,SO.run,↓reduceIte,Nat.reduceEqDiff,hb,h4]
  refine aw (fun hb=>?_) (fun hb=>?_)
  ·simp only[sx,SO.run,↓reduceIte,Nat.reduceEqDiff,hb]
   exact bad fun h=>by simp only[S.aB,Bool.and_eq_true,decide_eq_true_eq] at h;simp at hb;omega
  ·have c2:S.aa (m.nodes.map (·.card))<=1024:=by simp at hb;omega
   simp only[sx,sy,SO.run,↓reduceIte,Nat.reduceEqDiff,Nat.reduceAdd,Nat.reduceLeDiff,hb,h1,hg0]
   refine a_ (vP (Nat.succ_pos d) (hms g) (by have:=hs.nodes;omega) fun x hx y hy=>?_) fun r hr=>?_
   ·have:=aE (hpl x hx).1 y hy;have:=hs.nodes;omega
   simp only[sx,SO.run,↓reduceIte,Nat.reduceEqDiff,B6 (Nat.succ_pos d) (hr.sl g.h)]
   cases hac:S.bE (m.nodes.map fun x=>S.aL x.frm) with
   | false =>
    simp only[sx,SO.run,↓reduceIte,Bool.not_false]
    exact bad fun h=>by
     simp only[S.aB,Bool.and_eq_true] at h
     have:=h.1.2;rw[S.ay,hac] at this;cases this
   | true =>
    simp only[sx,SO.run,Bool.not_true]
    refine bB m.nodes.length (by have:=hs.nodes;omega) (fun j t df g=>df=[]/\tat t 1=.hptr 0 0 0 0/\g.h.get 0=.cells 3 [[.int .i64 m.grain,a,b]] 0 false false/\1<=g.nx/\(m.nodes.take j).all (S.bB m)=true)
     ⟨rfl,by simp[sx,h1],hg0,hnx,rfl⟩ (by simp[sx]) (by decide) (by rintro j t df g v s (rfl | rfl | rfl)<;>simp[sx]) ?_ ?_ ?_
    ·rintro j t df g hj ⟨rfl,h1,hg,hnx,hw⟩ h10
     simp only[sx,sy,SO.run,↓reduceIte,Nat.reduceEqDiff,h1,h10,hg,hN.len]
     exact ⟨hnx,hw⟩
    ·rintro j t df g hj ⟨rfl,h1,hg,hnx,hw⟩ h10
     obtain ⟨x,hx,htk,hm⟩:=af hj
     obtain ⟨row,q1,q2⟩:=r3 j x hx
     obtain ⟨fa,fb,fc,rfl,hfa,hfb,hfc⟩:=bW.1 q2
     have hlt:j<rows.length:=by omega
     have hry:=r4 (by omega)
     have hne:¬(0=g.nx):=by omega
     have bado:S.bB m x=false->AV.bool false=AV.bool (S.aB m):=fun h=>bad fun h2=>by
      simp only[S.aB,Bool.and_eq_true] at h2
      have:=List.all_eq_true.1 h2.2 x hm
      rw[h] at this;cases this
     simp only[sx,sy,SO.run,↓reduceIte,Nat.reduceEqDiff,Nat.reduceAdd,Nat.reduceLeDiff,h1,h10,hg,r1,hlt,q1,hne,Option.isSome_some,Option.getD_some]
     obtain ⟨g1,hg1⟩:∃g1,g1=(g.new (AObj.cells 4 [[AV.int IntKind.i64 0,AV.nils,AV.nils,AV.nils]] 0 false false)).put g.nx (AObj.cells 4 [[AV.int IntKind.i64 x.card,fa,fb,fc]] 0 false false):=⟨_,rfl⟩
     have f0:g1.h.get 0=.cells 3 [[.int .i64 m.grain,a,b]] 0 false false:=by rw[hg1];simp[H.get_put,hne,hg]
     have f1:g1.h.get g.nx=.cells 4 [[.int .i64 x.card,fa,fb,fc]] 0 false false:=by rw[hg1];simp[H.get_put]
     have f2:1<=g1.nx:=by rw[hg1];simp
     rw[<-hg1];clear hg1
     generalize g.nx=q at *
     obtain ⟨hpf,hpn⟩:=hpl x hm
     refine a_ (tU (Nat.succ_pos d) (hms g1) hx hs.nodes hs.roots hpf hpn) fun r' hr'=>?_
     simp only[sx,SO.run,↓reduceIte]
     have hb4:∀z∈S.ap m x,1<=z/\z<=4:=by
      intro z hz
      rcases List.mem_append.1 hz with hz | hz
      ·obtain ⟨y,hy,rfl⟩:=List.mem_map.1 hz;exact f8 hs (aE hpf y hy)
      ·obtain ⟨y,hy,rfl⟩:=List.mem_map.1 hz;exact ir hs (aE hpn y hy)
     have hl13:(S.ap m x).length<=13:=by have:=ba hpf;have:=ba hpn;have:=hs.nodes;have:=hs.roots;simp[S.ap];omega
     refine eA (by omega) hr'.len (fun i t df g=>df=[]/\g=g1/\St t [(1,.hptr 0 0 0 0),(10,.int .i64 j),(11,.hptr q 0 0 0),(12,.int .i64 (S.aa ((S.ap m x).take i)))])
      ⟨rfl,rfl,by simp[St,sx,S.aa,h1,h10]⟩ (by simp[sx]) (by simp[sx]) (by decide) (by rintro j t df g v s (rfl | rfl | rfl | rfl | rfl | rfl | rfl)<;>simp[St,sx]) ?_ ?_
     ·rintro i t df g hi ⟨rfl,rfl,h1,h10,h11,h12,-⟩ h14 h13
      obtain ⟨y,hy,htk2,hm2⟩:=af hi
      have b1:=bD (l:=(S.ap m x).take i) fun z hz=>hb4 z (List.mem_of_mem_take hz)
      have b1':=Int.le_trans b1.2 (ch (show ((S.ap m x).take i).length<=13 by simp;omega))
      have b2:=hb4 y hm2
      have b3:=Int.mul_le_mul b1' b2.2 (by omega) (by decide)
      have b4:=Int.mul_nonneg (show 0<=S.aa ((S.ap m x).take i) by omega) (show 0<=y by omega)
      simp only[sx,sy,SO.run,↓reduceIte,Nat.reduceEqDiff,h1,h10,h11,h12,h13,h14,hr'.rows,hi,hy,Option.isSome_some,Option.getD_some,List.length_map,List.getElem?_map,Option.map_some,ci,St,
       an (show -9223372036854775808<=S.aa ((S.ap m x).take i)*y by omega) (show S.aa ((S.ap m x).take i)*y<9223372036854775808 by omega)]
      rw[htk2,cV]
     ·rintro t df g ⟨rfl,rfl,h1,h10,h11,h12,-⟩ h13
      rw[List.take_length] at h12
      simp only[mC,sx,sy,SO.run,↓reduceIte,Nat.reduceEqDiff,h11,h12,f1,hfc.len]
      refine aw (fun hb=>?_) (fun hb=>?_)
      ·simp only[sx,sy,SO.run,↓reduceIte]
       exact bado (by simp at hb;simp[S.bB,hb])
      ·have ho:(x.out.length:Int)=S.aa (S.ap m x):=by simpa using hb
       simp only[sx,SO.run]
       refine bB x.out.length hfc.1 (fun i t df g'=>df=[]/\g'=g/\St t [(1,.hptr 0 0 0 0),(10,.int .i64 j),(11,.hptr q 0 0 0)]/\S.aV 0 (x.card - 1) (x.out.take i)=true)
        ⟨rfl,rfl,by simp[St,sx,h1,h10,h11],rfl⟩ (by simp[sx]) (by decide) (by rintro j t df g v s (rfl | rfl | rfl)<;>simp[St,sx]) ?_ ?_ ?_
       ·rintro i t df g' hi ⟨rfl,rfl,⟨h1,h10,h11,-⟩,hwi⟩ h15
        simp only[sx,sy,SO.run,↓reduceIte,Nat.reduceEqDiff,h1,h10,h11,h15,f1,hfc.len,St]
        exact hwi
       ·rintro i t df g' hi ⟨rfl,rfl,⟨h1,h10,h11,-⟩,hwi⟩ h15
        obtain ⟨y,hy,htk2,hm2⟩:=af hi
        simp only[sx,sy,SO.run,↓reduceIte,Nat.reduceEqDiff,h11,h15,f1,(hfc.tree (h':=g'.h) (Nat.le_refl _)).ints,hi,hy,Option.isSome_some,Option.getD_some,List.length_map,List.getElem?_map,Option.map_some,ci]
        have badw:¬(0<=y/\y<=x.card - 1)->AV.bool false=AV.bool (S.aB m):=fun h=>bado (by
         rw[S.bB,Bool.and_eq_false_iff];right
         rw[<-Bool.not_eq_true,jz]
         exact fun h2=>h (h2 y hm2))
        refine aw (fun hb=>?_) (fun hb=>?_)
        ·simp only[sx,sy,SO.run,↓reduceIte,Nat.reduceEqDiff,hb]
         exact badw (by simp at hb;omega)
        ·simp only[sx,sy,SO.run,↓reduceIte,Nat.reduceEqDiff,hb,h11,h15,f1,(hfc.tree (h':=g'.h) (Nat.le_refl _)).ints,hi,hy,Option.isSome_some,Option.getD_some,List.length_map,List.getElem?_map,Option.map_some,ci]
         refine aw (fun hc=>?_) (fun hc=>?_)
         ·simp only[sx,sy,SO.run,↓reduceIte]
          exact badw (by simp at hc;omega)
         ·simp only[sx,sy,↓reduceIte,Nat.reduceEqDiff,h1,h10,h11,h15,St]
          rw[htk2]
          simp[S.aV] at *
          exact ⟨hwi,by omega⟩
       ·rintro t df g' ⟨rfl,rfl,⟨h1,h10,h11,-⟩,hwi⟩
        rw[List.take_length] at hwi
        simp only[sx,sy,↓reduceIte,h1,h10,f0]
        refine ⟨f2,?_⟩
        rw[htk,List.all_append,hw]
        simp[S.bB,ho,hwi]
    ·rintro t df g ⟨rfl,h1,hg,hnx,hw⟩
     rw[List.take_length] at hw
     simp only[kW,sx,SO.run,↓reduceIte]
     have e1:=hs.nodes
     have e2:=hs.roots
     have e3:=hg
     congr 1
     simp only[S.aB,hro,hno,hw,S.ay,hac,c1,c2,e1,e2,h1n,decide_true]
     simp[*]
end
end
end Hx
end
section
namespace Hx
open Go
noncomputable section
variable {d k:Nat}{m:Causal}{a b:AV}
theorem E2 (hR:SlR NoP k .nil m.roots a)(hN:SlR NoP k .nil m.nodes b)(hg:1<=m.grain/\m.grain<=12)(h8:m.roots.length<=8)(h1n:1<=m.nodes.length)(h5:m.nodes.length<=5)(hro:m.roots.all (S.aJ m.grain)=true)
  (t:T) (g:G) (h1:tat t 1=.hptr 0 0 0 0) (hg0:g.h.get 0=.cells 3 [[.int .i64 m.grain,a,b]] 0 false false) (hnx:1<=g.nx)
  (h3:tat t 3=.int .i64 (S.aa (m.roots.map fun r=>(r.length:Int)))) (h4:tat t 4=.int .i64 1) :
  wp C0 (d+1) none gg (fnQ C0 (d+1) [SR.tm 2] fun v _=>v=.bool (S.aB m)) t [] g:=by
 obtain ⟨rows,r1,r2,r3,r4⟩:=hN.all
 have r1:∀h',ah h' 4 b=some rows:=r1
 have bad:¬S.aB m=true->AV.bool false=AV.bool (S.aB m):=fun h=>by rw[Bool.not_eq_true] at h;rw[h]
 have hlen:∀r∈m.roots,1<=r.length/\r.length<=4:=fun r hr=>by
  have:=List.all_eq_true.1 hro r hr
  simp[S.aJ] at this
  omega
 simp only[gg,sx,SO.run]
 refine bB m.nodes.length (by omega) (fun j t df g=>df=[]/\St t [(1,.hptr 0 0 0 0),(3,.int .i64 (S.aa (m.roots.map fun r=>(r.length:Int)))),(4,.int .i64 (S.aa ((m.nodes.take j).map (·.card))))]/\g.h.get 0=.cells 3 [[.int .i64 m.grain,a,b]] 0 false false/\1<=g.nx/\(m.nodes.take j).all (S.aZ m)=true)
  ⟨rfl,by simp[sx,St,S.aa,h1,h3,h4] ,hg0,hnx,rfl⟩ (by simp[sx]) (by decide) (by rintro j t df g v s (rfl | rfl | rfl)<;>simp[sx,St]) ?_ ?_ ?_
 ·rintro j t df g hj ⟨rfl,⟨h1,h3,h4,-⟩,hg,hnx,hw⟩ h8
  simp only[sx,sy,SO.run,↓reduceIte,Nat.reduceEqDiff,h1,h3,h4,h8,hg,hN.len,St]
  exact ⟨hnx,hw⟩
 ·rintro j t df g hj ⟨rfl,⟨h1,h3,h4,-⟩,hg,hnx,hw⟩ h8'
  obtain ⟨x,hx,htk,hm⟩:=af hj
  obtain ⟨row,q1,q2⟩:=r3 j x hx
  obtain ⟨fa,fb,fc,rfl,hfa,hfb,hfc⟩:=bW.1 q2
  have hlt:j<rows.length:=by omega
  have hry:=r4 (by omega)
  have hne:¬(0=g.nx):=by omega
  have badn:¬S.aZ m x=true->AV.bool false=AV.bool (S.aB m):=fun h=>bad fun h2=>by
   simp only[S.aB,Bool.and_eq_true] at h2
   exact h (List.all_eq_true.1 h2.1.1.1.1.2 x hm)
  have ia:∀(g:G) (n:Int),ak C0 (d+1) N.aC [fa,.int .i64 n] g=.val (.bool (S.aq x.frm n)):=fun g n=>xf (Nat.succ_pos d) (hfa.tree (h':=g.h) (Nat.le_refl _))
  have ib:∀(g:G) (n:Int),ak C0 (d+1) N.aC [fb,.int .i64 n] g=.val (.bool (S.aq x.noise n)):=fun g n=>xf (Nat.succ_pos d) (hfb.tree (h':=g.h) (Nat.le_refl _))
  simp only[sx,sy,SO.run,↓reduceIte,Nat.reduceEqDiff,Nat.reduceAdd,Nat.reduceLeDiff,h1,h8',hg,r1,hlt,q1,Option.isSome_some,Option.getD_some]
  obtain ⟨g1,hg1⟩:∃g1,g1=(g.new (AObj.cells 4 [[AV.int IntKind.i64 0,AV.nils,AV.nils,AV.nils]] 0 false false)).put g.nx (AObj.cells 4 [[AV.int IntKind.i64 x.card,fa,fb,fc]] 0 false false):=⟨_,rfl⟩
  have f0:g1.h.get 0=.cells 3 [[.int .i64 m.grain,a,b]] 0 false false:=by rw[hg1];simp[H.get_put,hne,hg]
  have f1:g1.h.get g.nx=.cells 4 [[.int .i64 x.card,fa,fb,fc]] 0 false false:=by rw[hg1];simp[H.get_put]
  have f2:1<=g1.nx:=by rw[hg1];simp
  rw[<-hg1];clear hg1
  generalize g.nx=q at *
  refine aw (fun hb=>?_) (fun hb=>?_)
  ·simp only[sx,sy,SO.run,↓reduceIte,Nat.reduceEqDiff,hb]
   exact badn fun h=>by simp[S.aZ] at h;simp at hb;omega
  ·simp only[sx,sy,SO.run,↓reduceIte,Nat.reduceEqDiff,hb,f1]
   refine aw (fun hc=>?_) (fun hc=>?_)
   ·simp only[sx,sy,SO.run,↓reduceIte,Nat.reduceEqDiff,hc]
    exact badn fun h=>by simp[S.aZ] at h;simp at hc;omega
   ·have hcard:1<=x.card/\x.card<=4:=by simp at hb hc;omega
    simp only[sx,sy,SO.run,↓reduceIte,Nat.reduceEqDiff,hc,h1,f0,f1,hN.len,ia]
    cases hpf:S.aq x.frm m.nodes.length with
    | false =>
     simp only[sx,sy,SO.run,↓reduceIte,Nat.reduceEqDiff,Bool.not_false]
     exact badn fun h=>by simp[S.aZ,hpf] at h
    | true =>
     simp only[sx,sy,SO.run,↓reduceIte,Nat.reduceEqDiff,Bool.not_true,h1,f0,f1,hR.len,ib]
     cases hpn:S.aq x.noise m.roots.length with
     | false =>
      simp only[sx,sy,SO.run,↓reduceIte,Bool.not_false]
      exact badn fun h=>by simp[S.aZ,hpn] at h
     | true =>
      have b1:=cT (f:=fun x=>x) (l:=(m.nodes.take j).map (·.card)) (n:=5) (fun z hz=>by
       obtain ⟨y,hy,rfl⟩:=List.mem_map.1 hz
       have:=List.all_eq_true.1 hw y hy
       simp[S.aZ] at this
       omega) (by simp;omega)
      rw[List.map_id'] at b1
      have b3:=Int.mul_le_mul b1.2 hcard.2 (by omega) (by decide)
      have b4:=Int.mul_nonneg (show 0<=S.aa ((m.nodes.take j).map (·.card)) by omega) (show 0<=x.card by omega)
      simp only[sx,sy,SO.run,↓reduceIte,Nat.reduceEqDiff,Bool.not_true,h1,h3,h4,h8',f0,f1,St,an (show -9223372036854775808<=S.aa ((m.nodes.take j).map (·.card))*x.card by omega) (show S.aa ((m.nodes.take j).map (·.card))*x.card<9223372036854775808 by omega)]
      refine ⟨?_,f2,?_⟩
      ·rw[htk,List.map_append,List.map_singleton,cV]
      ·rw[htk,List.all_append,hw]
       simp[S.aZ,hpf,hpn,hcard]
 ·rintro t df g ⟨rfl,⟨h1,h3,h4,-⟩,hg',hnx,hw⟩
  rw[List.take_length] at hw h4
  have hs:S.Small m:=⟨h5,h8,fun x hx=>by
   have:=List.all_eq_true.1 hw x hx
   simp[S.aZ] at this
   omega,hlen⟩
  simp only[sx]
  exact Fm hR hN hs hg h1n hro hw t g h1 hg' hnx h3 h4
theorem B9 {gr:Int}{l:List Int}(h:∀x∈l,0<=x/\x<=gr)(i:Nat):(l.take i).sum<=l.sum:=by
 have e:l.sum=(l.take i).sum+(l.drop i).sum:=by rw[<-List.sum_append,List.take_append_drop]
 have:0<=(l.drop i).sum:=by
  cases hl:l.drop i with
  | nil=>simp
  | cons y r =>
   have hy:=h y (List.mem_of_mem_drop (by rw[hl];simp))
   have:=(pR (b:=gr) (by omega) (l:=l.drop i) fun z hz=>h z (List.mem_of_mem_drop hz)).1
   rw[hl] at this;exact this
 omega
theorem Hc {g:G}{P:Nat->Prop}{v:AV}(hd:0<d)(hm:Agg m P k g.h v):ak C0 d N.bH [v] g=.val (.bool (S.aB m)):=by
 obtain ⟨v',e,cs,rfl,hc⟩:=bP (aQ m) (by decide) d hm
 obtain ⟨a,b,rfl,hR,hN⟩:=aC.1 hc
 obtain ⟨rows,r1,r2,r3,r4⟩:=hR.all
 have r1:∀h',ah h' 1 a=some rows:=r1
 have bad:¬S.aB m=true->AV.bool false=AV.bool (S.aB m):=fun h=>by rw[Bool.not_eq_true] at h;rw[h]
 rw[tc]
 refine dE wo (xs:=[.agg [.int .i64 m.grain,a,b]]) (by simp only[aH,e]) (by simp[lM]) hd ?_
 simp only[lM,sx,sy,SO.run,↓reduceIte,Nat.reduceAdd]
 generalize hg0:(G.empty.new (AObj.cells 3 [[AV.int IntKind.i64 m.grain,a,b]] 0 false false))=g0
 have f0:g0.h.get 0=.cells 3 [[.int .i64 m.grain,a,b]] 0 false false:=by rw[<-hg0];simp[sx]
 have f1:1<=g0.nx:=by rw[<-hg0];simp[sx]
 clear hg0
 simp only[nP,sx,sy,SO.run,↓reduceIte,Nat.reduceEqDiff,f0]
 refine aw (fun hb=>?_) (fun hb=>?_)
 ·simp only[sx,SO.run,↓reduceIte,Nat.reduceEqDiff,hb]
  exact bad fun h=>by simp only[S.aB,Bool.and_eq_true,decide_eq_true_eq] at h;simp at hb;omega
 simp only[sx,sy,SO.run,↓reduceIte,Nat.reduceEqDiff,hb,f0]
 refine aw (fun hc=>?_) (fun hc=>?_)
 ·simp only[sx,SO.run,↓reduceIte,Nat.reduceEqDiff,hc]
  exact bad fun h=>by simp only[S.aB,Bool.and_eq_true,decide_eq_true_eq] at h;simp at hc;omega
 simp only[sx,sy,SO.run,↓reduceIte,Nat.reduceEqDiff,hc,f0,hR.len]
 refine aw (fun hd=>?_) (fun hd=>?_)
 ·simp only[sx,SO.run,↓reduceIte,Nat.reduceEqDiff,hd]
  exact bad fun h=>by simp only[S.aB,Bool.and_eq_true,decide_eq_true_eq] at h;simp at hd;omega
 simp only[sx,sy,SO.run,↓reduceIte,Nat.reduceEqDiff,hd,f0,hN.len]
 refine aw (fun he=>?_) (fun he=>?_)
 ·simp only[sx,SO.run,↓reduceIte,Nat.reduceEqDiff,he]
  exact bad fun h=>by simp only[S.aB,Bool.and_eq_true,decide_eq_true_eq] at h;simp at he;omega
 simp only[sx,sy,SO.run,↓reduceIte,Nat.reduceEqDiff,he,f0,hN.len]
 refine aw (fun hf=>?_) (fun hf=>?_)
 ·simp only[sx,SO.run,↓reduceIte]
  exact bad fun h=>by simp only[S.aB,Bool.and_eq_true,decide_eq_true_eq] at h;simp at hf;omega
 have q1:1<=m.grain/\m.grain<=12:=by simp at hb hc;omega
 have q2:m.roots.length<=8:=by simp at hd;omega
 have q3:1<=m.nodes.length/\m.nodes.length<=5:=by simp at he hf;omega
 simp only[sx,SO.run]
 refine bB m.roots.length (by omega) (fun j t df g=>df=[]/\g=g0/\St t [(1,.hptr 0 0 0 0),(3,.int .i64 (S.aa ((m.roots.take j).map fun r=>(r.length:Int)))),(4,.int .i64 1)]/\(m.roots.take j).all (S.aJ m.grain)=true)
  ⟨rfl,rfl,by simp[sx,St,S.aa],rfl⟩ (by simp[sx]) (by decide) (by rintro j t df g v s (rfl | rfl | rfl)<;>simp[sx,St]) ?_ ?_ ?_
 ·rintro j t df g hj ⟨rfl,rfl,⟨h1,h3,h4,-⟩,hw⟩ h5
  simp only[sx,sy,SO.run,↓reduceIte,Nat.reduceEqDiff,h1,h3,h4,h5,f0,hR.len,St]
  exact hw
 ·rintro j t df g hj ⟨rfl,rfl,⟨h1,h3,h4,-⟩,hw⟩ h5
  obtain ⟨x,hx,htk,hm⟩:=af hj
  obtain ⟨row,q1',q2'⟩:=r3 j x hx
  obtain ⟨u,rfl,hu⟩:=dk.1 q2'
  have hlt:j<rows.length:=by omega
  have badr:¬S.aJ m.grain x=true->AV.bool false=AV.bool (S.aB m):=fun h=>bad fun h2=>by
   simp only[S.aB,Bool.and_eq_true] at h2
   exact h (List.all_eq_true.1 h2.1.1.1.1.1.2 x hm)
  simp only[sx,sy,SO.run,↓reduceIte,Nat.reduceEqDiff,h1,h5,f0,r1,hlt,q1',Option.isSome_some,Option.getD_some,hu.len]
  refine aw (fun hb=>?_) (fun hb=>?_)
  ·simp only[sx,sy,SO.run,↓reduceIte,Nat.reduceEqDiff,hb]
   exact badr fun h=>by simp[S.aJ] at h;simp at hb;omega
  simp only[sx,sy,SO.run,↓reduceIte,Nat.reduceEqDiff,h1,h5,f0,r1,hlt,q1',Option.isSome_some,Option.getD_some,hu.len,hb]
  refine aw (fun hc=>?_) (fun hc=>?_)
  ·simp only[sx,sy,SO.run,↓reduceIte]
   exact badr fun h=>by simp[S.aJ] at h;simp at hc;omega
  have hxl:1<=x.length/\x.length<=4:=by simp at hb hc;omega
  simp only[sx,sy,SO.run,↓reduceIte,Nat.reduceEqDiff,h1,f0]
  refine bB x.length (by omega) (fun i t df g'=>df=[]/\g'=g/\St t [(1,.hptr 0 0 0 0),(3,.int .i64 (S.aa ((m.roots.take j).map fun r=>(r.length:Int)))),(4,.int .i64 1),(5,.int .i64 j),(6,.int .i64 (m.grain - (x.take i).sum))]/\(∀y∈x.take i,0<=y/\y<=m.grain)/\(x.take i).sum<=m.grain)
   ⟨rfl,rfl,by simp[sx,St,h1,h3,h4,h5],by simp,by simp;omega⟩ (by simp[sx]) (by decide) (by rintro j t df g v s (rfl | rfl | rfl)<;>simp[sx,St]) ?_ ?_ ?_
  ·rintro i t df g' hi ⟨rfl,rfl,⟨h1,h3,h4,h5,h6,-⟩,hw1,hw2⟩ h7
   simp only[sx,sy,SO.run,↓reduceIte,Nat.reduceEqDiff,h1,h3,h4,h5,h6,h7,f0,r1,hlt,q1',Option.isSome_some,Option.getD_some,hu.len,St]
   exact ⟨hw1,hw2⟩
  ·rintro i t df g' hi ⟨rfl,rfl,⟨h1,h3,h4,h5,h6,-⟩,hw1,hw2⟩ h7
   obtain ⟨y,hy,htk2,hm2⟩:=af hi
   have hs0:=(pR (b:=m.grain) (by omega) hw1).1
   simp only[sx,sy,SO.run,↓reduceIte,Nat.reduceEqDiff,h1,h5,h7,f0,r1,hlt,q1',(hu.tree (h':=g'.h) (Nat.le_refl _)).ints,hi,hy,Option.isSome_some,Option.getD_some,List.length_map,List.getElem?_map,Option.map_some,ci]
   refine aw (fun hb=>?_) (fun hb=>?_)
   ·simp only[sx,sy,SO.run,↓reduceIte,Nat.reduceEqDiff,hb]
    exact badr fun h=>by
     simp only[S.aJ,Bool.and_eq_true] at h
     have:=jz.1 h.1.2 y hm2
     simp at hb;omega
   simp only[sx,sy,SO.run,↓reduceIte,Nat.reduceEqDiff,hb,h1,h5,h6,h7,f0,r1,hlt,q1',(hu.tree (h':=g'.h) (Nat.le_refl _)).ints,hi,hy,Option.isSome_some,Option.getD_some,List.length_map,List.getElem?_map,Option.map_some,ci]
   refine aw (fun hc=>?_) (fun hc=>?_)
   ·simp only[sx,sy,SO.run,↓reduceIte]
    exact badr fun h=>by
     simp only[S.aJ,Bool.and_eq_true,decide_eq_true_eq] at h
     have:=B9 (jz.1 h.1.2) (i+1)
     rw[htk2,xO] at this
     simp at hc;omega
   have hyb:0<=y/\y<=m.grain - (x.take i).sum:=by simp at hb hc;omega
   simp only[sx,sy,SO.run,↓reduceIte,Nat.reduceEqDiff,h1,h3,h4,h5,h6,h7,f0,r1,hlt,q1',(hu.tree (h':=g'.h) (Nat.le_refl _)).ints,hi,hy,Option.isSome_some,Option.getD_some,List.length_map,List.getElem?_map,Option.map_some,ci,St,
    an (show -9223372036854775808<=m.grain - (x.take i).sum - y by omega) (show m.grain - (x.take i).sum - y<9223372036854775808 by omega)]
   rw[htk2,xO]
   refine ⟨by congr 1;omega,fun z hz=>?_,by omega⟩
   rcases List.mem_append.1 hz with hz | hz
   ·exact hw1 z hz
   ·simp at hz;subst hz;omega
  ·rintro t df g' ⟨rfl,rfl,⟨h1,h3,h4,h5,h6,-⟩,hw1,hw2⟩
   rw[List.take_length] at h6 hw1 hw2
   simp only[mP,sx,SO.run,↓reduceIte,h6]
   refine aw (fun hb=>?_) (fun hb=>?_)
   ·simp only[sx,sy,SO.run,↓reduceIte]
    exact badr fun h=>by simp only[S.aJ,Bool.and_eq_true,decide_eq_true_eq] at h;simp at hb;omega
   have hs:x.sum=m.grain:=by simp at hb;omega
   have hlen:((m.roots.take j).map fun r=>(r.length:Int)).length<=8:=by simp;omega
   have b1:=bD (l:=(m.roots.take j).map fun r=>(r.length:Int)) (by
    intro y hy
    obtain ⟨r,hr,rfl⟩:=List.mem_map.1 hy
    have:=List.all_eq_true.1 hw r hr
    simp[S.aJ] at this
    omega)
   have b2:=Int.le_trans b1.2 (ch hlen)
   have b3:=Int.mul_le_mul b2 (show (x.length:Int)<=4 by omega) (by omega) (by decide)
   have b4:=Int.mul_nonneg (show 0<=S.aa ((m.roots.take j).map fun r=>(r.length:Int)) by omega) (show (0:Int)<=x.length by omega)
   simp only[sx,sy,SO.run,↓reduceIte,Nat.reduceEqDiff,h1,h3,h4,h5,f0,r1,hlt,q1',Option.isSome_some,Option.getD_some,hu.len,St,
    an (show -9223372036854775808<=S.aa ((m.roots.take j).map fun r=>(r.length:Int))*(x.length:Int) by omega) (show S.aa ((m.roots.take j).map fun r=>(r.length:Int))*(x.length:Int)<9223372036854775808 by omega)]
   rw[htk,List.map_append,List.map_singleton,cV,List.all_append,hw]
   refine ⟨rfl,?_⟩
   have:=jz.2 hw1
   simp[S.aJ,this,hs];omega
 ·rintro t df g ⟨rfl,rfl,⟨h1,h3,h4,-⟩,hw⟩
  rw[List.take_length] at hw h3
  simp only[sx]
  exact E2 hR hN q1 q2 q3.1 q3.2 hw t g h1 f0 f1 h3 h4
end
end Hx
end
section
namespace Hx
open Go
noncomputable section
def Els (g:G)(b:Nat)(v:AV):Nat->Prop:=fun i=>b<=i/\i<g.nx/\vid v≠some i
def OwnT {α:Type} [Rp α](g:G)(b:Nat)(k:Nat)(v:AV)(l:List α):Prop:=∃rows,Own g b v (Rp.sz α) rows/\All2 (Rp.rp (Els g b v) k g.h) l rows
variable {α:Type} [Rp α]{g g':G}{b k:Nat}{v:AV}{l:List α}
theorem OwnT.nils:OwnT g b k .nils ([]:List α):=⟨[],.inl ⟨rfl,rfl⟩,trivial⟩
theorem OwnT.sl (h:OwnT g b k v l)(hl:l.length<9223372036854775808):SlR (fun i=>b<=i/\i<g.nx) k g.h l v:=by
 obtain ⟨rows,h1,h2⟩:=h
 exact Own.sl h1 hl (h2.mono fun x cs r=>Rp.mono r (fun i hi=>⟨⟨hi.1,hi.2.1⟩,rfl⟩) (Nat.le_refl _)) fun i hi=>h1.lt hi
theorem OwnT.fr (h:OwnT g b k v l)(hn:g.nx<=g'.nx)(hf:∀i,b<=i->i<g.nx->g'.h.get i=g.h.get i):OwnT g' b k v l:=by
 obtain ⟨rows,h1,h2⟩:=h
 exact ⟨rows,h1.fr hn fun i hi=>hf i (h1.lt hi).1 (h1.lt hi).2,h2.mono fun x cs r=>Rp.mono r (fun i hi=>⟨⟨hi.1,Nat.lt_of_lt_of_le hi.2.1 hn,hi.2.2⟩,hf i hi.1 hi.2.1⟩) (Nat.le_refl _)⟩
theorem OwnT.step (h:OwnT g b k v l)(f:Fr g g'):OwnT g' b k v l:=h.fr f.1 fun i _ hi=>f.2 i hi
theorem OwnT.lt (h:OwnT g b k v l){i:Nat}(hi:vid v=some i):b<=i/\i<g.nx:=by obtain ⟨rows,h1,-⟩:=h;exact h1.lt hi
theorem OwnT.cell (h:OwnT g b k v l):v.cells=[v]/\v.isTup=false:=by obtain ⟨rows,h1,-⟩:=h;exact h1.cell
theorem OwnT.len (h:OwnT g b k v l)(g0:G):eD .slice v g0=.val (.int .i64 (l.length:Int)):=by
 obtain ⟨rows,h1,h2⟩:=h
 rw[bh h1.rows,h2.len]
theorem AT {x:AV}{y:α}{cs:List AV}{bytes:Nat}{K:AV->G->Prop}{D:ADf->Prop}(hv:OwnT g b k v l)(hx:ah g.h (Rp.sz α) x=some [cs])(hy:Rp.rp (Els g b v) k g.h y cs)(hb:b<=g.nx)
  (hr:(l.length+1)*bytes<=aZ)
  (kk:∀v' g',OwnT g' b k v' (l++[y])->g.nx<=g'.nx->(∀i,i<g.nx->vid v≠some i->g'.h.get i=g.h.get i)->(vid v'=vid v\/∃i,vid v'=some i/\g.nx<=i)->(∀i∈g'.lg,i∈g.lg\/b<=i)->K v' g') :
  (ic (Rp.sz α) bytes v x g).sat K g D:=by
 obtain ⟨rows,h1,h2⟩:=hv
 refine aJ (new:=[cs]) h1 hx hb (by rw[<-h2.len];exact hr) fun v' g' hv' hn hf hvid hlg=>kk v' g' ⟨rows++[cs],hv',?_⟩ hn hf hvid hlg
 have up:∀(z:α) (c:List AV),Rp.rp (Els g b v) k g.h z c->Rp.rp (Els g' b v') k g'.h z c:=fun z c r=>Rp.mono r (fun i hi=>⟨⟨hi.1,Nat.lt_of_lt_of_le hi.2.1 hn,fun e=>by
  rcases hvid with e2 | ⟨j,e2,hj⟩
  ·rw[e2] at e;exact hi.2.2 e
  ·rw[e2] at e;injection e with e;subst e;have:=hi.2.1;omega⟩,hf i hi.2.1 hi.2.2⟩) (Nat.le_refl _)
 exact (h2.mono up).append ⟨up y cs hy,trivial⟩
theorem OwnT.base {b':Nat}(h:OwnT g b k v l)(hb:b'<=b):OwnT g b' k v l:=by
 obtain ⟨rows,h1,h2⟩:=h
 refine ⟨rows,?_,h2.mono fun x cs r=>Rp.mono r (fun i hi=>⟨⟨by have:=hi.1;omega,hi.2⟩,rfl⟩) (Nat.le_refl _)⟩
 rcases h1 with h | ⟨id,ep,lo,p1,p2,p3,p4⟩
 ·exact .inl h
 ·exact .inr ⟨id,ep,lo,by omega,p2,p3,p4⟩
def FrW (b:Nat)(g g':G):Prop:=g.nx<=g'.nx/\(∀i,i<b->g'.h.get i=g.h.get i)/\∀i∈g'.lg,i∈g.lg\/b<=i
theorem FrW.refl (b:Nat)(g:G):FrW b g g:=⟨Nat.le_refl _,fun _ _=>rfl,fun _ h=>.inl h⟩
theorem FrW.trans {g1 g2 g3:G}(h:FrW b g1 g2)(h':FrW b g2 g3):FrW b g1 g3 :=
 ⟨Nat.le_trans h.1 h'.1,fun i hi=>by rw[h'.2.1 i hi,h.2.1 i hi],fun i hi=>by
  rcases h'.2.2 i hi with h1 | h1
  ·exact h.2.2 i h1
  ·exact .inr h1⟩
theorem FrW.new {g1:G}(o:AObj)(hb:b<=g1.nx):FrW b g1 (g1.new o) :=
 ⟨by simp,fun i hi=>by rw[G.new_h,aq _ _ _ (by omega)],fun i hi=>by
  simp at hi
  rcases hi with rfl | hi
  ·exact .inr hb
  ·exact .inl hi⟩
theorem FrW.put {g1:G}(id:Nat)(o:AObj)(hb:b<=id):FrW b g1 (g1.put id o) :=
 ⟨by simp,fun i hi=>by rw[G.put_h,aq _ _ _ (by omega)],fun i hi=>by
  simp at hi
  rcases hi with rfl | hi
  ·exact .inr hb
  ·exact .inl hi⟩
theorem FrW.fr {g1 g2:G}(h:FrW g1.nx g1 g2):Fr g1 g2:=⟨h.1,h.2.1⟩
end
end Hx
end
section
namespace Hx
open Go
noncomputable section
structure KnownM where
 m:Causal
 hidden:Int
instance : Rp KnownM:=Rp.via fun x:KnownM=>(x.m,x.hidden)
theorem iA {P:Nat->Prop}{k:Nat}{h:H}{x:KnownM}{cs:List AV}:Rp.rp P k h x cs↔∃a b,cs=[.int .i64 x.m.grain,a,b,.int .i64 x.hidden]/\SlR P k h x.m.roots a/\SlR P k h x.m.nodes b:=by
 constructor
 ·rintro ⟨c1,c2,rfl,h1,h2⟩
  obtain ⟨a,b,rfl,h3,h4⟩:=aC.1 h1
  rw[aS.1 h2];exact ⟨a,b,rfl,h3,h4⟩
 ·rintro ⟨a,b,rfl,h3,h4⟩
  exact ⟨[.int .i64 x.m.grain,a,b],[.int .i64 x.hidden],rfl,aC.2 ⟨a,b,rfl,h3,h4⟩,aS.2 rfl⟩
theorem Je {d k:Nat}{g:G}{P:Nat->Prop}{v:AV}{x:KnownM}(hd:0<d)(hm:Agg x P k g.h v)(hn:x.m.nodes.length<=5) :
  ∃r,ak C0 d N.bp [v] g=.val r/\IT 0 (List.replicate x.m.nodes.length (-1)) r:=by
 obtain ⟨v',e,cs,rfl,hcs⟩:=bP (aQ x) (by decide) d hm
 obtain ⟨a,b,rfl,hR,hN⟩:=iA.1 hcs
 rw[oP]
 refine aV rC (xs:=[.agg [.int .i64 x.m.grain,a,b,.int .i64 x.hidden]]) (by simp only[aH,e]) (by simp[gF]) (aU _) (by decide) hd ?_
 simp only[gF,sx,sy,SO.run,↓reduceIte,Nat.reduceAdd]
 generalize hg0:(G.empty.new (AObj.cells 4 [[AV.int IntKind.i64 x.m.grain,a,b,AV.int IntKind.i64 x.hidden]] 0 false false))=g0
 have f0:g0.h.get 0=.cells 4 [[.int .i64 x.m.grain,a,b,.int .i64 x.hidden]] 0 false false:=by rw[<-hg0];simp[sx]
 have f1:1<=g0.nx:=by rw[<-hg0];simp[sx]
 clear hg0
 simp only[iV,sx,sy,SO.run,↓reduceIte,Nat.reduceEqDiff,f0,hN.len]
 refine ji (b:=1) (n:=x.m.nodes.length) (by simp[aZ];omega) (by simp[aZ];omega) f1 fun w g1 hw n1 fr1 v1=>?_
 have wl:∀g,eD .slice w g=.val (.int .i64 (x.m.nodes.length:Int)):=fun g=>by rw[bh hw.rows,List.length_replicate]
 simp only[sx,SO.run,↓reduceIte,wl]
 refine bc (m:=x.m.nodes.length) (by omega) (fun j t df g=>df=[]/\tat t 3=w/\Own g 1 w 1 ((List.replicate j (-1)++List.replicate (x.m.nodes.length - j) 0:List Int).map ci))
  ⟨rfl,by simp[sx],by simpa [ci] using hw⟩ (by simp[sx]) (by simp[sx]) (by decide) (by rintro j t df g v s (rfl | rfl | rfl)<;>simp[sx]) ?_ ?_
 ·rintro j t df g hj ⟨rfl,h3,hu⟩ h12 h11
  have hlt:j<((List.replicate j (-1)++List.replicate (x.m.nodes.length - j) 0:List Int).map ci).length:=by rw[List.length_map,List.length_append,List.length_replicate,List.length_replicate];omega
  have hrow:((List.replicate j (-1)++List.replicate (x.m.nodes.length - j) 0:List Int).map ci)[j]?=some (ci 0):=by
   rw[List.getElem?_map,List.getElem?_append_right (by simp),List.length_replicate,Nat.sub_self,List.getElem?_replicate,if_pos (by omega)];rfl
  simp only[sx,SO.run,↓reduceIte,Nat.reduceEqDiff,h3,h12,hu.rows,Option.isSome_some,Option.getD_some,hlt]
  refine bp (row:=ci 0) (row':=ci (-1)) hu hrow rfl rfl rfl fun g2 hw2 n2 f2=>?_
  simp only[sx,sy,↓reduceIte,Nat.reduceEqDiff,h3,h11,h12]
  have e:((List.replicate j (-1)++List.replicate (x.m.nodes.length - j) 0:List Int).map ci).set j (ci (-1))=(List.replicate (j+1) (-1)++List.replicate (x.m.nodes.length - (j+1)) 0:List Int).map ci:=by
   rw[<-List.map_set]
   congr 1
   obtain ⟨q,hq⟩:∃q,x.m.nodes.length - j=q+1:=⟨x.m.nodes.length - j - 1,by omega⟩
   rw[hq,show x.m.nodes.length - (j+1)=q by omega,List.set_append_right _ _ (by simp),List.length_replicate,Nat.sub_self,List.replicate_succ,List.set_cons_zero,List.replicate_succ',List.append_assoc]
   rfl
  rw[e] at hw2;exact hw2
 ·rintro t df g ⟨rfl,h3,hu⟩
  simp only[ip,sx,SO.run,↓reduceIte,h3]
  rw[Nat.sub_self] at hu
  simp only[List.replicate_zero,List.append_nil] at hu
  exact ⟨_,hu.ints (by simp;omega)⟩
def S.bn (m:Causal)(l:List Int)(i:Nat):Bool:=decide (-1<=l[i]?.getD 0)&&decide (l[i]?.getD 0<=S.az m i - 1)
def S.ax (m:Causal)(l:List Int):Bool:=decide (l.length=m.nodes.length)&&(List.range l.length).all (S.bn m l)
def S.ak (m:Causal):Int:=S.aa (m.roots.map fun r=>(r.length:Int))
def S.bO:KnownM:=⟨⟨0,[],[]⟩,0⟩
def S.aw (m:Causal)(ls:List (List Int)):Int:=if S.am m then (if ls.all (S.ax m) then 0 else 2) else 330
def S.bz (m:Causal)(ls:List (List Int)):KnownM:=if S.aw m ls=0 then ⟨m,S.ak m⟩ else S.bO
theorem aN {m:Causal}(h:S.am m=true):S.Small m/\(1<=m.grain/\m.grain<=12)/\1<=m.nodes.length/\S.be m=true/\S.bp m=true:=by
 simp only[S.am,Bool.and_eq_true,decide_eq_true_eq] at h
 obtain ⟨⟨⟨⟨⟨⟨⟨⟨a1,a2⟩,a3⟩,a4⟩,a5⟩,hro⟩,hc⟩,hno⟩,hac⟩:=h
 exact ⟨Co a3 a5 hro fun x hx=>by have:=List.all_eq_true.1 hc x hx;simpa using this,⟨a1,a2⟩,a4,hro,hno⟩
theorem eF {m:Causal}(hs:S.Small m)(j:Nat):1<=S.aa ((m.roots.take j).map fun r=>(r.length:Int))/\S.aa ((m.roots.take j).map fun r=>(r.length:Int))<=4 ^ 8:=by
 have:=bD (l:=(m.roots.take j).map fun r=>(r.length:Int)) (by
  intro y hy
  obtain ⟨r,hr,rfl⟩:=List.mem_map.1 hy
  have:=hs.len r (List.mem_of_mem_take hr)
  omega)
 exact ⟨this.1,Int.le_trans this.2 (ch (by have:=hs.roots;simp;omega))⟩
theorem EH {d k k2:Nat}{g:G}{P2:Nat->Prop}{v w:AV}{m:Causal}{ls:List (List Int)}(hd:0<d)(hk:k<d)(hm:Agg m NoP k g.h v)(hw:SlR P2 k2 g.h ls w) :
  ∃r,ak C0 d N.ba [v,w] g=.val r/\sJ (Agg (S.bz m ls)) (One (S.aw m ls)) NoP k .nil r:=by
 have e:=cj d hm
 obtain ⟨cs,rfl,hc⟩:=hm
 obtain ⟨a,b,rfl,hR,hN⟩:=aC.1 hc
 obtain ⟨w',e2,hl⟩:=be hw d
 obtain ⟨rows,r1,r2,r3,r4⟩:=hN.all
 have r1:∀h',ah h' 4 b=some rows:=r1
 obtain ⟨lrows,l1,l2,l3,l4⟩:=(hl .nil).all
 have l1:∀h',ah h' 1 w'=some lrows:=l1
 obtain ⟨rrows,p1,p2,p3,p4⟩:=hR.all
 have p1:∀h',ah h' 1 a=some rrows:=p1
 have hms:∀g:G,Agg m NoP k g.h (.agg [.int .i64 m.grain,a,b]):=fun g=>⟨_,rfl,aC.2 ⟨a,b,rfl,hR.tree (Nat.le_refl _),hN.tree (Nat.le_refl _)⟩⟩
 rw[xD]
 refine aV Au (xs:=[.agg [.int .i64 m.grain,a,b],w']) (by simp only[aH,e,e2]) (by simp[oX]) (dC (m:=2) (aQ _) (aU _) (by decide) (by decide)) (by decide) hk ?_
 simp only[oX,sx,sy,SO.run,↓reduceIte,Nat.reduceEqDiff,Nat.reduceAdd]
 generalize hg0:(G.empty.new (AObj.cells 3 [[AV.int IntKind.i64 m.grain,a,b]] 0 false false)).new (AObj.cells 4 [[AV.int IntKind.i64 0,AV.nils,AV.nils,AV.int IntKind.i64 0]] 0 false false)=g0
 have f0:g0.h.get 0=.cells 3 [[.int .i64 m.grain,a,b]] 0 false false:=by rw[<-hg0];simp[sx,H.get_put]
 have f1:g0.h.get 1=.cells 4 [[.int .i64 0,.nils,.nils,.int .i64 0]] 0 false false:=by rw[<-hg0];simp[sx]
 have f2:2<=g0.nx:=by rw[<-hg0];simp[sx]
 clear hg0
 have bad:∀(hh:H) (z:Int),S.aw m ls=z->z≠0->∃P,sJ (Agg (S.bz m ls)) (One (S.aw m ls)) P k hh (.tup [.agg [.int .i64 0,.nils,.nils,.int .i64 0],.int .i64 z]):=fun hh z hz h=>by
  subst hz
  have:S.bz m ls=S.bO:=by rw[S.bz,if_neg h]
  rw[this]
  exact ⟨NoP,_,_,rfl,⟨_,rfl,iA.2 ⟨.nils,.nils,rfl,⟨by decide,rfl⟩,⟨by decide,rfl⟩⟩⟩,aS.2 rfl⟩
 simp only[qp,sx,sy,SO.run,↓reduceIte,Nat.reduceEqDiff,Nat.reduceAdd,Nat.reduceLeDiff,f0,Gt (Nat.succ_pos d) (hms _)]
 cases hck:S.am m with
 | false =>
  refine aw (fun hb=>?_) (fun hb=>by simp at hb)
  simp only[sx,sy,SO.run,↓reduceIte,Nat.reduceEqDiff,Nat.reduceAdd,Nat.reduceLeDiff,f1,reduceCtorEq]
  exact bad _ 330 (by simp[S.aw,hck]) (by decide)
 | true =>
  refine aw (fun hb=>by simp at hb) (fun hb=>?_)
  obtain ⟨hs,hgr,hn1,hro,hno⟩:=aN hck
  simp only[sx,SO.run,↓reduceIte,Nat.reduceEqDiff,(hl .nil).len]
  refine bc hw.1 (fun j t df g=>df=[]/\St t [(1,w'),(2,.hptr 0 0 0 0),(4,.hptr 1 0 0 0),(20,w')]/\g.h.get 0=.cells 3 [[.int .i64 m.grain,a,b]] 0 false false/\g.h.get 1=.cells 4 [[.int .i64 0,.nils,.nils,.int .i64 0]] 0 false false/\2<=g.nx/\(ls.take j).all (S.ax m)=true)
   ⟨rfl,by simp[St,sx],f0,f1,f2,rfl⟩ (by simp[sx]) (by simp[sx]) (by decide) (by rintro j t df g v s (rfl | rfl | rfl)<;>simp[St,sx]) ?_ ?_
  ·rintro j t df g hj ⟨rfl,⟨h1,h2,h4,h20,-⟩,hg,hg1,hnx,hwa⟩ h22 h21
   obtain ⟨l,hx,htk,hm⟩:=af hj
   obtain ⟨row,q1,q2⟩:=l3 j l hx
   obtain ⟨u,rfl,hu⟩:=dk.1 q2
   have hlt:j<lrows.length:=by omega
   have badl:S.ax m l=false->S.aw m ls=2:=fun h=>by
    rw[S.aw,if_pos hck,if_neg]
    intro h2
    have:=List.all_eq_true.1 h2 l hm
    rw[h] at this;cases this
   simp only[sx,sy,SO.run,↓reduceIte,Nat.reduceEqDiff,h2,h20,h22,hg,l1,hlt,q1,Option.isSome_some,Option.getD_some,hu.len,hN.len]
   refine aw (fun hb=>?_) (fun hb=>?_)
   ·simp only[sx,sy,SO.run,↓reduceIte,Nat.reduceEqDiff,Nat.reduceAdd,Nat.reduceLeDiff,h4,hg1]
    exact bad _ 2 (badl (by simp at hb;simp[S.ax];intro h;omega)) (by decide)
   ·have hll:l.length=m.nodes.length:=by simp at hb;omega
    simp only[sx,SO.run,↓reduceIte,Nat.reduceEqDiff,hu.len]
    refine bc (m:=l.length) (by have:=hs.nodes;omega) (fun i t df g=>df=[]/\St t [(1,w'),(2,.hptr 0 0 0 0),(4,.hptr 1 0 0 0),(20,w'),(21,.int .i64 ls.length),(22,.int .i64 j),(33,u)]/\g.h.get 0=.cells 3 [[.int .i64 m.grain,a,b]] 0 false false/\g.h.get 1=.cells 4 [[.int .i64 0,.nils,.nils,.int .i64 0]] 0 false false/\2<=g.nx/\(List.range i).all (S.bn m l)=true)
     ⟨rfl,by simp[St,sx,h1,h2,h4,h20,h21,h22],hg,hg1,hnx,rfl⟩ (by simp[sx]) (by simp[sx]) (by decide) (by rintro j t df g v s (rfl | rfl | rfl)<;>simp[St,sx]) ?_ ?_
    ·rintro i t df g hi ⟨rfl,⟨h1,h2,h4,h20,h21,h22,h33,-⟩,hg,hg1,hnx,hwi⟩ h35 h34
     obtain ⟨y,hy,-,-⟩:=af hi
     obtain ⟨x,hxn,-,hmn⟩:=af (l:=m.nodes) (j:=i) (by omega)
     obtain ⟨row,q3,q4⟩:=r3 i x hxn
     obtain ⟨fa,fb,fc,rfl,hfa,hfb,hfc⟩:=bW.1 q4
     have hlt2:i<rows.length:=by omega
     have hry:=r4 (by omega)
     have hcd:=hs.card x hmn
     have hca:S.az m (i:Int)=x.card:=by simp[S.az,hxn]
     simp only[sx,sy,SO.run,↓reduceIte,Nat.reduceEqDiff,h2,h33,h35,hg,r1,hlt2,q3,hry,Option.isSome_some,Option.getD_some,(hu.tree (h':=g.h) (Nat.le_refl _)).ints,hi,hy,List.length_map,List.getElem?_map,Option.map_some,ci,
      an (show -9223372036854775808<=x.card - 1 by omega) (show x.card - 1<9223372036854775808 by omega),gY (Nat.succ_pos d)]
     have e0:(g.new (AObj.cells 1 [[AV.int IntKind.i64 y]] 0 false false)).h.get 0=.cells 3 [[.int .i64 m.grain,a,b]] 0 false false:=by rw[G.new_h,aq _ _ _ (by omega),hg]
     have e1:(g.new (AObj.cells 1 [[AV.int IntKind.i64 y]] 0 false false)).h.get 1=.cells 4 [[.int .i64 0,.nils,.nils,.int .i64 0]] 0 false false:=by rw[G.new_h,aq _ _ _ (by omega),hg1]
     have e2:2<=(g.new (AObj.cells 1 [[AV.int IntKind.i64 y]] 0 false false)).nx:=by simp;omega
     have hat:S.bn m l i=(decide (-1<=y)&&decide (y<=x.card - 1)):=by simp[S.bn,hy,hca]
     rw[<-hat]
     generalize g.new (AObj.cells 1 [[AV.int IntKind.i64 y]] 0 false false)=g5 at *
     cases hac:S.bn m l i with
     | false =>
      simp only[sx,sy,SO.run,↓reduceIte,Nat.reduceEqDiff,Nat.reduceAdd,Nat.reduceLeDiff,Bool.not_false,h4,e1]
      exact bad _ 2 (badl (by rw[S.ax,bL hi hac,Bool.and_false])) (by decide)
     | true =>
      simp only[sx,sy,↓reduceIte,Nat.reduceEqDiff,Bool.not_true,St,h1,h2,h4,h20,h21,h22,h33,h34,h35,e0,e1]
      refine ⟨e2,?_⟩
      rw[bn,hwi,hac];rfl
    ·rintro t df g ⟨rfl,⟨h1,h2,h4,h20,h21,h22,h33,-⟩,hg,hg1,hnx,hwi⟩
     simp only[sx,sy,↓reduceIte,St,h1,h2,h4,h20,h21,h22,hg,hg1]
     refine ⟨hnx,?_⟩
     rw[htk,List.all_append,hwa]
     simp[S.ax,hll]
     rw[<-hll]
     exact fun z hz=>List.all_eq_true.1 hwi z (List.mem_range.2 hz)
  ·rintro t df g ⟨rfl,⟨h1,h2,h4,h20,-⟩,hg,hg1,hnx,hwa⟩
   rw[List.take_length] at hwa
   have hE:S.aw m ls=0:=by rw[S.aw,if_pos hck,if_pos hwa]
   have hK:S.bz m ls=⟨m,S.ak m⟩:=by rw[S.bz,if_pos hE]
   have hne1:¬(1=g.nx):=by omega
   have hne0:¬(0=g.nx):=by omega
   simp only[ox,sx,sy,SO.run,↓reduceIte,Nat.reduceEqDiff,Nat.reduceAdd,Nat.reduceLeDiff,h2,hg,hne0,hR.len]
   refine bc (m:=m.roots.length) (by have:=hs.roots;omega) (fun i t df g'=>df=[]/\St t [(4,.hptr 1 0 0 0),(11,.hptr g.nx 0 0 0),(57,a)]/\g'.h.get 1=.cells 4 [[.int .i64 0,.nils,.nils,.int .i64 0]] 0 false false/\g'.h.get g.nx=.cells 4 [[.int .i64 m.grain,a,b,.int .i64 (S.aa ((m.roots.take i).map fun r=>(r.length:Int)))]] 0 false false/\g'.nx=g.nx+1)
    ⟨rfl,by simp[St,sx,h4],by simp[H.get_put,hne1,hg1],by simp[H.get_put,S.aa],by simp⟩ (by simp[sx]) (by simp[sx]) (by decide) (by rintro j t df g v s (rfl | rfl | rfl)<;>simp[St,sx]) ?_ ?_
   ·rintro i t df g' hi ⟨rfl,⟨h4,h11,h57,-⟩,hg1,hgn,hn'⟩ h59 h58
    obtain ⟨x,hx,htk,hm⟩:=af hi
    obtain ⟨row,q1,q2⟩:=p3 i x hx
    obtain ⟨u,rfl,hu⟩:=dk.1 q2
    have hlt:i<rrows.length:=by omega
    have b1:=eF hs i
    have b2:=hs.len x hm
    have b3:=Int.mul_le_mul b1.2 (show (x.length:Int)<=4 by omega) (by omega) (by decide)
    have b4:=Int.mul_nonneg (show 0<=S.aa ((m.roots.take i).map fun r=>(r.length:Int)) by omega) (show (0:Int)<=x.length by omega)
    simp only[sx,sy,SO.run,↓reduceIte,Nat.reduceEqDiff,Nat.reduceAdd,Nat.reduceLeDiff,h4,h11,h57,h58,h59,hgn,p1,hlt,q1,Option.isSome_some,Option.getD_some,hu.len,St,hne1,hg1,hn',
     an (show -9223372036854775808<=S.aa ((m.roots.take i).map fun r=>(r.length:Int))*(x.length:Int) by omega) (show S.aa ((m.roots.take i).map fun r=>(r.length:Int))*(x.length:Int)<9223372036854775808 by omega)]
    rw[htk,List.map_append,List.map_singleton,cV]
   ·rintro t df g' ⟨rfl,⟨h4,h11,h57,-⟩,hg1,hgn,hn'⟩
    rw[List.take_length] at hgn
    simp only[o5,sx,sy,SO.run,↓reduceIte,Nat.reduceEqDiff,Nat.reduceAdd,Nat.reduceLeDiff,h4,h11,hgn,hg1]
    rw[hE,hK]
    exact ⟨NoP,_,_,rfl,⟨_,rfl,iA.2 ⟨a,b,rfl,hR.tree (Nat.le_refl _),hN.tree (Nat.le_refl _)⟩⟩,aS.2 rfl⟩
end
end Hx
end
section
namespace Hx
open Go
noncomputable section
def S.bP (m:Causal):Int:=S.aa (m.nodes.map (·.card))
end
end Hx
end
section
namespace Hx
open Go
def Sub (a s:Nat):Prop:=∀v,a.testBit v=true->s.testBit v=true
theorem rO (s v:Nat):S.bJ s v=s.testBit v:=by
 rw[Nat.testBit_eq_decide_div_mod_eq,S.bJ,Nat.and_one_is_mod]
 rw[Bool.eq_iff_iff,beq_iff_eq,decide_eq_true_iff]
theorem mi {a s:Nat}:S.ba a s=0↔Sub a s:=by
 constructor
 ·intro h v hv
  have:=congrArg (·.testBit v) h
  simp[S.ba,hv] at this
  exact this
 ·intro h
  refine Nat.eq_of_testBit_eq fun v=>?_
  have:=h v
  simp only[S.ba,Nat.testBit_xor,Nat.testBit_and,Nat.zero_testBit]
  cases ha:a.testBit v
  ·rfl
  ·rw[this ha];rfl
theorem jF (a b v:Nat):(a ||| b).testBit v=(a.testBit v || b.testBit v):=Nat.testBit_or a b v
theorem qF {n:Nat}(h:n<64)(v:Nat):(S.a9 n).testBit v=decide (n=v):=by rw[Dl h,Nat.testBit_two_pow]
section
variable {p:List Nat}
def Par (p:List Nat)(v:Nat):Nat:=p[v]?.getD 0
def Cl (p:List Nat)(s:Nat):Prop:=∀v,v<p.length->s.testBit v=true->Sub (Par p v) s
theorem zk {s t:Nat}(hc:Cl p t)(h:Sub s t):∀j,j<=p.length->Sub (S.aS p s j) t
 | 0,_=>h
 | j+1,hj=>by
  have ih:=zk hc h j (by omega)
  rw[fm]
  split
  ·rename_i hb
   rw[rO] at hb
   intro v hv
   rw[jF,Bool.or_eq_true] at hv
   rcases hv with hv | hv
   ·exact ih v hv
   ·exact hc j (by omega) (ih j hb) v hv
  ·exact ih
theorem C_ {s t:Nat}(hc:Cl p t)(h:Sub s t):∀j,Sub (S.up p s j) t
 | 0=>h
 | j+1=>by rw[kK];exact zk hc (C_ hc h j) _ (Nat.le_refl _)
def Kh (p:List Nat)(s:Nat):Prop:=Cl p s/\∀v,v<p.length->s.testBit v=true->(S.up p (Par p v) p.length).testBit v=false
theorem vO (hn:p.length<=5){s:Nat}(h:Kh p s):∀j,j<=p.length->Kh p (S.aH p s j)
 | 0,_=>h
 | j+1,hj=>by
  have ih:=vO hn h j (by omega)
  rw[cE]
  split
  ·rename_i hd
   have hd:Sub (Par p j) (S.aH p s j):=mi.1 hd
   generalize S.aH p s j=q at *
   refine ⟨fun v hv hb=>?_,fun v hv hb=>?_⟩
   ·intro u hu
    rw[jF,qF (by omega),Bool.or_eq_true,decide_eq_true_eq] at hb
    rw[jF,Bool.or_eq_true]
    rcases hb with hb | hb
    ·exact .inl (ih.1 v hv hb u hu)
    ·subst hb;exact .inl (hd u hu)
   ·rw[jF,qF (by omega),Bool.or_eq_true,decide_eq_true_eq] at hb
    cases hq:q.testBit v
    ·rw[hq] at hb
     simp at hb
     subst hb
     rw[<-Bool.not_eq_true]
     intro hu
     have:=C_ ih.1 hd p.length j hu
     rw[hq] at this;cases this
    ·exact ih.2 v hv hq
  ·exact ih
theorem uG (hn:p.length<=5):∀j,Kh p (S.aF p j)
 | 0=>⟨fun v _ hb=>by simp[S.aF] at hb,fun v _ hb=>by simp[S.aF] at hb⟩
 | j+1=>by rw[cK];exact vO hn (uG hn j) _ (Nat.le_refl _)
theorem xS:S.bE p=true↔∀v,v<p.length->(S.up p (Par p v) p.length).testBit v=false:=by
 unfold S.bE
 rw[List.all_eq_true]
 constructor
 ·intro h v hv
  have:=h v (List.mem_range.2 hv)
  rw[rO] at this
  simpa [Par] using this
 ·intro h v hv
  have:=h v (List.mem_range.1 hv)
  rw[rO]
  simpa [Par] using this
theorem z9 {n v:Nat}(h:v<n):(2 ^ n - 1).testBit v=true:=by rw[Nat.testBit_two_pow_sub_one];simpa using h
theorem wJ (hn:p.length<=5)(h:S.aF p p.length=2 ^ p.length - 1):S.bE p=true:=by
 rw[xS]
 intro v hv
 exact (uG hn p.length).2 v hv (by rw[h];exact z9 hv)
def bct (s:Nat):Nat->Nat
 | 0=>0
 | n+1=>bct s n+(if s.testBit n then 1 else 0)
theorem CF (s:Nat):∀n,bct s n<=n
 | 0=>Nat.le_refl _
 | n+1=>by have:=CF s n;unfold bct;split<;>omega
theorem A7 {a s:Nat}(h:Sub a s):∀n,bct a n<=bct s n
 | 0=>Nat.le_refl _
 | n+1=>by
  have:=A7 h n
  unfold bct
  split
  ·rename_i hb;rw[if_pos (h n hb)];omega
  ·split<;>omega
theorem HV {a s:Nat}(h:Sub a s){v:Nat}(hv:s.testBit v=true)(ha:a.testBit v=false):∀n,v<n->bct a n<bct s n
 | 0,h0=>by omega
 | n+1,hn=>by
  unfold bct
  by_cases hvn:v=n
  ·subst hvn
   have:=A7 h v
   rw[if_pos hv,ha];simp;omega
  ·have:=HV h hv ha n (by omega)
   split
   ·rename_i hb;rw[if_pos (h n hb)];omega
   ·split<;>omega
theorem Bu {s:Nat}:∀n,bct s n=n->∀v,v<n->s.testBit v=true
 | 0,_,v,h=>by omega
 | n+1,h,v,hv=>by
  unfold bct at h
  have:=CF s n
  split at h
  ·rename_i hb
   by_cases e:v=n
   ·subst e;exact hb
   ·exact Bu n (by omega) v (by omega)
  ·omega
theorem nl {a s:Nat}(h:Sub a s)(h':Sub s a):a=s:=Nat.eq_of_testBit_eq fun v=>by
 cases ha:a.testBit v
 ·cases hs:s.testBit v
  ·rfl
  ·rw[h' v hs] at ha;cases ha
 ·rw[h v ha]
theorem KC {a s:Nat}(h:Sub a s):a<=s:=by
 have:a ||| s=s:=Nat.eq_of_testBit_eq fun v=>by
  rw[jF]
  cases ha:a.testBit v
  ·simp
  ·rw[h v ha];rfl
 rw[<-this];exact Nat.left_le_or
theorem po (s:Nat):∀j,Sub s (S.aH p s j)
 | 0=>fun _ h=>h
 | j+1=>by
  have ih:=po s j
  rw[cE]
  split
  ·intro v hv;rw[jF,ih v hv];rfl
  ·exact ih
theorem mY (s:Nat):∀j,Sub s (S.aS p s j)
 | 0=>fun _ h=>h
 | j+1=>by
  have ih:=mY s j
  rw[fm]
  split
  ·intro v hv;rw[jF,ih v hv];rfl
  ·exact ih
theorem By {s:Nat}{j k:Nat}(h:j<=k):Sub (S.aH p s j) (S.aH p s k):=by
 induction h with
 | refl=>exact fun _ h=>h
 | step _ ih =>
  rw[cE]
  split
  ·intro v hv;rw[jF,ih v hv];rfl
  ·exact ih
theorem Cx {s:Nat}{j k:Nat}(h:j<=k):Sub (S.aS p s j) (S.aS p s k):=by
 induction h with
 | refl=>exact fun _ h=>h
 | step _ ih =>
  rw[fm]
  split
  ·intro v hv;rw[jF,ih v hv];rfl
  ·exact ih
theorem Ha {s:Nat}(hn:p.length<=5)(h:S.aH p s p.length=s){v:Nat}(hv:v<p.length)(hb:s.testBit v=false):¬Sub (Par p v) s:=by
 intro hs
 have h1:Sub (Par p v) (S.aH p s v):=fun u hu=>po s v u (hs u hu)
 have h2:(S.aH p s (v+1)).testBit v=true:=by
  rw[cE,if_pos (show S.ba (p[v]?.getD 0) (S.aH p s v)=0 from mi.2 h1),jF,qF (by omega)];simp
 have:=By (p:=p) (s:=s) (show v+1<=p.length by omega) v h2
 rw[h,hb] at this;cases this
theorem E_ {s:Nat}(h:S.aS p s p.length=s):Cl p s:=by
 intro v hv hb u hu
 have h1:(S.aS p s v).testBit v=true:=mY s v v hb
 have h2:(S.aS p s (v+1)).testBit u=true:=by
  rw[fm,rO,h1,if_pos rfl,jF]
  have:(p[v]?.getD 0).testBit u=true:=hu
  rw[this];simp
 have:=Cx (p:=p) (s:=s) (show v+1<=p.length by omega) u h2
 rwa [h] at this
theorem AW {s n v:Nat}(h:s<2 ^ n)(hv:s.testBit v=true):v<n:=by
 rcases Nat.lt_or_ge v n with h1 | h1
 ·exact h1
 ·rw[Nat.testBit_lt_two_pow (Nat.lt_of_lt_of_le h (Nat.pow_le_pow_right (by decide) h1))] at hv;cases hv
theorem JV {f:Nat->Nat}{n:Nat}(hm:∀j,Sub (f j) (f (j+1)))(hb:∀j,f j<2 ^ n)(hs:∀j,f (j+1)=f j->f (j+2)=f (j+1)):f (n+1)=f n:=by
 have key:∀j,j<=bct (f j) n\/f (j+1)=f j:=by
  intro j
  induction j with
  | zero=>exact .inl (Nat.zero_le _)
  | succ j ih =>
   rcases ih with ih | ih
   ·by_cases e:f (j+1)=f j
    ·exact .inr (hs j e)
    ·left
     have:∃v,(f (j+1)).testBit v=true/\(f j).testBit v=false:=by
      apply Classical.byContradiction
      intro hno
      apply e
      refine nl (fun v hv=>?_) (hm j)
      cases hc:(f j).testBit v
      ·exact absurd ⟨v,hv,hc⟩ hno
      ·rfl
     obtain ⟨v,h1,h2⟩:=this
     have:=HV (hm j) h1 h2 n (AW (hb _) h1)
     omega
   ·exact .inr (hs j ih)
 rcases key n with h | h
 ·have hc:bct (f n) n=n:=by have:=CF (f n) n;omega
  refine nl (fun v hv=>?_) (hm n)
  exact Bu n hc v (AW (hb _) hv)
 ·exact h
theorem Gx {a b n:Nat}(h:a<2 ^ n)(h':b<2 ^ n):a ||| b<2 ^ n:=Nat.or_lt_two_pow h h'
theorem wU (hn:p.length<=5){s:Nat}(hs:s<2 ^ p.length):∀j,j<=p.length->S.aH p s j<2 ^ p.length
 | 0,_=>hs
 | j+1,hj=>by
  have ih:=wU hn hs j (by omega)
  rw[cE]
  split
  ·exact Gx ih (by rw[Dl (by omega)];exact Nat.pow_lt_pow_right (by decide) hj)
  ·exact ih
theorem rB (hn:p.length<=5):∀j,S.aF p j<2 ^ p.length
 | 0=>Nat.pow_pos (by decide)
 | j+1=>by rw[cK];exact wU hn (rB hn j) _ (Nat.le_refl _)
theorem CE {v:Nat}(hp:∀x∈p,x<2 ^ p.length):Par p v<2 ^ p.length:=by
 unfold Par
 cases h:p[v]? with
 | none=>exact Nat.pow_pos (by decide)
 | some x=>exact hp x (List.mem_of_getElem? h)
theorem yW (hp:∀x∈p,x<2 ^ p.length){s:Nat}(hs:s<2 ^ p.length):∀j,S.aS p s j<2 ^ p.length
 | 0=>hs
 | j+1=>by
  have ih:=yW hp hs j
  rw[fm]
  split
  ·exact Gx ih (CE hp)
  ·exact ih
theorem HK (hp:∀x∈p,x<2 ^ p.length){s:Nat}(hs:s<2 ^ p.length):∀j,S.up p s j<2 ^ p.length
 | 0=>hs
 | j+1=>by rw[kK];exact yW hp (HK hp hs j) _
theorem FM (hp:∀x∈p,x<2 ^ p.length){s:Nat}(hs:s<2 ^ p.length):Cl p (S.up p s p.length):=by
 apply E_
 rw[<-kK]
 exact JV (f:=fun j=>S.up p s j) (fun j=>by rw[kK];exact mY _ _) (fun j=>HK hp hs j) (fun j e=>by
  have e:S.up p s (j+1)=S.up p s j:=e
  show S.up p s (j+1+1)=S.up p s (j+1)
  rw[kK,e,<-kK,e])
theorem zY {s:Nat}:∀j,Sub s (S.up p s j)
 | 0=>fun _ h=>h
 | j+1=>fun v hv=>by rw[kK];exact mY _ _ v (zY j v hv)
theorem wn (hn:p.length<=5)(hp:∀x∈p,x<2 ^ p.length)(h:S.bE p=true):S.aF p p.length=2 ^ p.length - 1:=by
 rw[xS] at h
 have hst:S.aH p (S.aF p p.length) p.length=S.aF p p.length:=by
  rw[<-cK]
  exact JV (f:=fun j=>S.aF p j) (fun j=>by rw[cK];exact po _ _) (fun j=>rB hn j) (fun j e=>by
   have e:S.aF p (j+1)=S.aF p j:=e
   show S.aF p (j+1+1)=S.aF p (j+1)
   rw[cK,e,<-cK,e])
 generalize hT:S.aF p p.length=T at hst
 have hTl:T<2 ^ p.length:=by rw[<-hT];exact rB hn _
 have none:∀r v,v<p.length->T.testBit v=false->S.up p (Par p v) p.length=r->False:=by
  intro r
  induction r using Nat.strongRecOn with
  | _ r ih =>
   intro v hv hb hr
   have hns:=Ha hn hst hv hb
   have:∃u,(Par p v).testBit u=true/\T.testBit u=false:=by
    apply Classical.byContradiction
    intro hno
    apply hns
    intro u hu
    cases hc:T.testBit u
    ·exact absurd ⟨u,hu,hc⟩ hno
    ·rfl
   obtain ⟨u,hu,hub⟩:=this
   have hul:u<p.length:=AW (CE hp) hu
   have hcl:=FM hp (s:=Par p v) (CE hp)
   have hin:(S.up p (Par p v) p.length).testBit u=true:=zY _ u hu
   have hsub:Sub (S.up p (Par p u) p.length) (S.up p (Par p v) p.length):=C_ hcl (hcl u hul hin) _
   have hlt:S.up p (Par p u) p.length<S.up p (Par p v) p.length:=by
    refine Nat.lt_of_le_of_ne (KC hsub) fun e=>?_
    have:=h u hul
    rw[e,hin] at this;cases this
   exact ih _ (by omega) u hul hub rfl
 refine nl (fun v hv=>z9 (AW hTl hv)) fun v hv=>?_
 have hvl:v<p.length:=AW (by have:=Nat.pow_pos (n:=p.length) (show 0<2 by decide);omega) hv
 cases hc:T.testBit v
 ·exact (none _ v hvl hc rfl).elim
 ·rfl
end
end Hx
end
section
namespace Hx
open Go
theorem vF {l:List Int}{n:Nat}(hn:n<=64)(h:∀x∈l,0<=x/\x<n)(v:Nat):(S.aL l).testBit v=l.contains (v:Int):=by
 have:∀(l:List Int) (s:Nat),(∀x∈l,0<=x/\x<n)->(l.foldl (fun s x=>s ||| S.a9 x.toNat) s).testBit v=(s.testBit v || l.contains (v:Int)):=by
  intro l
  induction l with
  | nil=>intro s _;simp
  | cons a l ih =>
   intro s h
   obtain ⟨h1,h2⟩:=h a (by simp)
   rw[List.foldl_cons,ih _ (fun x hx=>h x (by simp[hx])),jF,qF (by omega)]
   rw[Bool.eq_iff_iff]
   simp only[Bool.or_eq_true,decide_eq_true_eq,List.contains_cons,beq_iff_eq]
   constructor
   ·rintro ((h | h) | h)
    ·exact .inl h
    ·exact .inr (.inl (by omega))
    ·exact .inr (.inr h)
   ·rintro (h | h | h)
    ·exact .inl (.inl h)
    ·exact .inl (.inr (by omega))
    ·exact .inr h
 have:=this l 0 h
 rw[Nat.zero_testBit,Bool.false_or] at this
 exact this
theorem Iv {l:List Int}{n:Nat}(hn:n<=64)(h:∀x∈l,0<=x/\x<n):S.aL l<2 ^ n:=by
 apply Nat.lt_pow_two_of_testBit
 intro v hv
 rw[vF hn h]
 rw[<-Bool.not_eq_true,List.contains_iff_mem]
 intro hm
 have:=(h _ hm).2
 omega
theorem uz (m:Causal):S.am m=S.aB m:=by
 have h0:∀{b c:Bool},(b=true->c=true)->(c=true->b=true)->b=c:=fun h h'=>by
  rename_i b c
  cases b<;>cases c<;>simp_all
 have hpl:(S.ay m).length=m.nodes.length:=by simp[S.ay]
 have plt:m.nodes.length<=5->(∀x∈m.nodes,S.aq x.frm m.nodes.length=true)->∀q∈S.ay m,q<2 ^ (S.ay m).length:=fun h5 h q hq=>by
  obtain ⟨x,hx,rfl⟩:=List.mem_map.1 hq
  rw[hpl]
  exact Iv (by omega) (aE (h x hx))
 apply h0
 ·intro h
  simp only[S.am,Bool.and_eq_true,decide_eq_true_eq] at h
  obtain ⟨⟨⟨⟨⟨⟨⟨⟨a1,a2⟩,a3⟩,a4⟩,a5⟩,hro⟩,hc⟩,hno⟩,hac⟩:=h
  simp only[S.be,Bool.and_eq_true,decide_eq_true_eq] at hro
  have hno':=hno
  simp only[S.bp,Bool.and_eq_true,decide_eq_true_eq] at hno
  have hnode:∀x∈m.nodes,S.aq x.frm m.nodes.length=true/\S.aq x.noise m.roots.length=true/\(x.out.length:Int)=S.bc m x*S.bk m x/\S.aV 0 (x.card - 1) x.out=true:=fun x hx=>by
   obtain ⟨i,hi,rfl⟩:=List.mem_iff_getElem.1 hx
   have:=uk hno' (List.getElem?_eq_getElem hi)
   simp only[S.bg,Bool.and_eq_true,decide_eq_true_eq] at this
   exact ⟨this.1.1.1.1,this.1.1.1.2,this.1.2,this.2⟩
  have hcard:∀x∈m.nodes,1<=x.card/\x.card<=4:=fun x hx=>by have:=List.all_eq_true.1 hc x hx;simpa using this
  simp only[S.bK,decide_eq_true_eq] at hac
  rw[<-hpl] at hac
  have:=wJ (by rw[hpl];exact a5) hac
  simp only[S.aB,Bool.and_eq_true,decide_eq_true_eq]
  refine ⟨⟨⟨⟨⟨⟨⟨⟨⟨⟨a1,a2⟩,a3⟩,a4⟩,a5⟩,hro.1⟩,?_⟩,hro.2⟩,hno.2⟩,this⟩,?_⟩
  ·rw[List.all_eq_true]
   intro x hx
   obtain ⟨p1,p2,-,-⟩:=hnode x hx
   have:=hcard x hx
   simp[S.aZ,p1,p2,this]
  ·rw[List.all_eq_true]
   intro x hx
   obtain ⟨-,-,p3,p4⟩:=hnode x hx
   simp[S.bB,p4,xB,p3]
 ·intro h
  simp only[S.aB,Bool.and_eq_true,decide_eq_true_eq] at h
  obtain ⟨⟨⟨⟨⟨⟨⟨⟨⟨⟨a1,a2⟩,a3⟩,a4⟩,a5⟩,hro⟩,hno⟩,hp1⟩,hp2⟩,hac⟩,hou⟩:=h
  have hnode:∀x∈m.nodes,(1<=x.card/\x.card<=4)/\S.aq x.frm m.nodes.length=true/\S.aq x.noise m.roots.length=true:=fun x hx=>by
   have:=List.all_eq_true.1 hno x hx
   simp only[S.aZ,Bool.and_eq_true,decide_eq_true_eq] at this
   exact ⟨this.1.1,this.1.2,this.2⟩
  have hout:∀x∈m.nodes,(x.out.length:Int)=S.bc m x*S.bk m x/\S.aV 0 (x.card - 1) x.out=true:=fun x hx=>by
   have:=List.all_eq_true.1 hou x hx
   simp only[S.bB,Bool.and_eq_true,decide_eq_true_eq,xB] at this
   exact this
  have hpl2:=wn (by rw[hpl];exact a5) (plt a5 fun x hx=>(hnode x hx).2.1) hac
  have hself:∀(i:Nat) (x:Mech),m.nodes[i]?=some x->x.frm.contains (i:Int)=false:=by
   intro i x hx
   have hi:=(List.getElem?_eq_some_iff.1 hx).1
   have hm:=List.mem_of_getElem? hx
   have h1:=xS.1 hac i (by rw[hpl];exact hi)
   have hpar:Par (S.ay m) i=S.aL x.frm:=by simp[Par,S.ay,hx]
   rw[hpar] at h1
   rw[<-Bool.not_eq_true]
   intro hcn
   rw[<-vF (n:=m.nodes.length) (by omega) (aE (hnode x hm).2.1)] at hcn
   rw[zY _ i hcn] at h1;cases h1
  simp only[S.am,Bool.and_eq_true,decide_eq_true_eq]
  refine ⟨⟨⟨⟨⟨⟨⟨⟨a1,a2⟩,a3⟩,a4⟩,a5⟩,?_⟩,?_⟩,?_⟩,?_⟩
  ·simp only[S.be,Bool.and_eq_true,decide_eq_true_eq];exact ⟨hro,hp1⟩
  ·rw[List.all_eq_true];intro x hx;simpa using (hnode x hx).1
  ·simp only[S.bp,Bool.and_eq_true,decide_eq_true_eq]
   refine ⟨?_,hp2⟩
   rw[List.all_eq_true]
   intro i hi
   have hi:=List.mem_range.1 hi
   rw[List.getElem?_eq_getElem hi]
   have hm:=List.getElem_mem hi
   simp only[Option.map_some,Option.getD_some,S.bg,(hnode _ hm).2.1,(hnode _ hm).2.2,hself i _ (List.getElem?_eq_getElem hi),(hout _ hm).1,(hout _ hm).2,Bool.not_false,decide_true,Bool.and_self]
  ·simp only[S.bK,decide_eq_true_eq];rw[<-hpl];exact hpl2
end Hx
end
section
namespace Hx
open Go
noncomputable section
theorem KG {d k k2:Nat}{g:G}{P P2:Nat->Prop}{v w:AV}{m:Causal}{l:List Int}(hd:0<d)(hm:Agg m P k g.h v)(hw:SlR P2 k2 g.h l w)(hs:S.Small m) :
  ak C0 d N.bg [v,w] g=.val (.bool (S.ax m l)):=by
 obtain ⟨v',e,cs,rfl,hc⟩:=bP (aQ m) (by decide) d hm
 obtain ⟨a,b,rfl,hR,hN⟩:=aC.1 hc
 obtain ⟨rows,r1,r2,r3,r4⟩:=hN.all
 have r1:∀h',ah h' 4 b=some rows:=r1
 obtain ⟨w',e2,hu⟩:=be hw d
 rw[xR]
 refine dE z_ (xs:=[.agg [.int .i64 m.grain,a,b],w']) (by simp only[aH,e,e2]) (by simp[oV]) hd ?_
 simp only[oV,sx,sy,SO.run,↓reduceIte,Nat.reduceEqDiff,Nat.reduceAdd]
 generalize hg0:(G.empty.new (AObj.cells 3 [[AV.int IntKind.i64 m.grain,a,b]] 0 false false))=g0
 have f0:g0.h.get 0=.cells 3 [[.int .i64 m.grain,a,b]] 0 false false:=by rw[<-hg0];simp[sx]
 clear hg0
 simp only[p9,sx,sy,SO.run,↓reduceIte,Nat.reduceEqDiff,f0,(hu .nil).len,hN.len]
 refine aw (fun hb=>?_) (fun hb=>?_)
 ·simp only[sx,SO.run,↓reduceIte]
  have:S.ax m l=false:=by simp at hb;simp[S.ax];intro h;omega
  rw[this]
 ·have hl:l.length=m.nodes.length:=by simp at hb;omega
  simp only[sx,SO.run]
  refine eA hw.1 (hu .nil).len (fun j t df g=>df=[]/\g=g0/\tat t 2=.hptr 0 0 0 0/\(List.range j).all (S.bn m l)=true) ⟨rfl,rfl,by simp[sx],rfl⟩ (by simp[sx]) (by simp[sx]) (by decide)
   (by rintro j t df g v s (rfl | rfl | rfl | rfl | rfl | rfl | rfl)<;>simp[sx]) ?_ ?_
  ·rintro j t df g hj ⟨rfl,rfl,h2,hwi⟩ h5 h1
   obtain ⟨y,hy,-,-⟩:=af hj
   obtain ⟨x,hx,-,hm⟩:=af (l:=m.nodes) (j:=j) (by omega)
   obtain ⟨row,q1,q2⟩:=r3 j x hx
   obtain ⟨fa,fb,fc,rfl,-⟩:=bW.1 q2
   have hlt:j<rows.length:=by omega
   have hry:=r4 (by omega)
   have hca:S.az m (j:Int)=x.card:=by simp[S.az,hx]
   have hat:S.bn m l j=(decide (-1<=y)&&decide (y<=x.card - 1)):=by simp[S.bn,hy,hca]
   have bad:S.bn m l j=false->S.ax m l=false:=fun h=>by rw[S.ax,bL hj h,Bool.and_false]
   simp only[sx,sy,SO.run,↓reduceIte,Nat.reduceEqDiff,h1,h5,(hu g.h).ints,hj,hy,Option.isSome_some,Option.getD_some,List.length_map,List.getElem?_map,Option.map_some,ci]
   refine aw (fun hb=>?_) (fun hb=>?_)
   ·simp only[sx,sy,SO.run,↓reduceIte,Nat.reduceEqDiff,hb]
    rw[bad (by rw[hat];simp at hb ⊢;omega)]
   ·simp only[sx,sy,SO.run,↓reduceIte,Nat.reduceEqDiff,hb,h1,h2,h5,f0,(hu g.h).ints,hj,hy,r1,hlt,q1,hry,Option.isSome_some,Option.getD_some,List.length_map,List.getElem?_map,Option.map_some,ci]
    refine aw (fun hc=>?_) (fun hc=>?_)
    ·simp only[sx,sy,SO.run,↓reduceIte]
     rw[bad (by rw[hat];simp at hb hc ⊢;omega)]
    ·simp only[sx,sy,↓reduceIte,Nat.reduceEqDiff,h1,h2,h5]
     rw[bn,hwi,hat]
     simp at hb hc ⊢;omega
  ·rintro t df g ⟨rfl,rfl,h2,hwi⟩ -
   simp only[o6,sx,SO.run,↓reduceIte]
   rw[S.ax,hwi,hl];simp
theorem wv {d k k2:Nat}{g:G}{P P2:Nat->Prop}{v w:AV}{m:Causal}{ls:List (List Int)}(hd:0<d)(hm:Agg m P k g.h v)(hw:SlR P2 k2 g.h ls w) :
  ak C0 d N.aK [v,w] g=.val (.int .i64 (S.aw m ls)):=by
 obtain ⟨v',e,cs,rfl,hc⟩:=bP (aQ m) (by decide) d hm
 obtain ⟨a,b,rfl,hR,hN⟩:=aC.1 hc
 have hms:∀g:G,Agg m NoP (max k d) g.h (.agg [.int .i64 m.grain,a,b]):=fun g=>⟨_,rfl,aC.2 ⟨a,b,rfl,hR.tree (Nat.le_refl _),hN.tree (Nat.le_refl _)⟩⟩
 obtain ⟨w',e2,hl⟩:=be hw d
 obtain ⟨lrows,l1,l2,l3,l4⟩:=(hl .nil).all
 have l1:∀h',ah h' 1 w'=some lrows:=l1
 rw[qZ]
 refine ie te (xs:=[.agg [.int .i64 m.grain,a,b],w']) (by simp only[aH,e,e2]) (by simp[iH]) hd ?_
 simp only[iH,sx,sy,SO.run,↓reduceIte,Nat.reduceEqDiff,Nat.reduceAdd]
 generalize hg0:(G.empty.new (AObj.cells 3 [[AV.int IntKind.i64 m.grain,a,b]] 0 false false))=g0
 have f0:g0.h.get 0=.cells 3 [[.int .i64 m.grain,a,b]] 0 false false:=by rw[<-hg0];simp[sx]
 clear hg0
 simp only[kX,sx,sy,SO.run,↓reduceIte,Nat.reduceEqDiff,Nat.reduceAdd,Nat.reduceLeDiff,f0,Hc (Nat.succ_pos d) (hms _)]
 rw[<-uz]
 cases hck:S.am m with
 | false =>
  simp only[sx,SO.run,↓reduceIte,Bool.not_false]
  simp[S.aw,hck]
 | true =>
  obtain ⟨hs,hgr,hn1,hro,hno⟩:=aN hck
  simp only[sx,SO.run,↓reduceIte,Nat.reduceEqDiff,Bool.not_true,(hl .nil).len]
  refine bc hw.1 (fun j t df g=>df=[]/\g=g0/\St t [(2,.hptr 0 0 0 0),(10,w')]/\(ls.take j).all (S.ax m)=true)
   ⟨rfl,rfl,by simp[St,sx],rfl⟩ (by simp[sx]) (by simp[sx]) (by decide) (by rintro j t df g v s (rfl | rfl | rfl)<;>simp[St,sx]) ?_ ?_
  ·rintro j t df g hj ⟨rfl,rfl,⟨h2,h10,-⟩,hwa⟩ h12 h11
   obtain ⟨l,hx,htk,hm⟩:=af hj
   obtain ⟨row,q1,q2⟩:=l3 j l hx
   obtain ⟨u,rfl,hu⟩:=dk.1 q2
   have hlt:j<lrows.length:=by omega
   simp only[sx,sy,SO.run,↓reduceIte,Nat.reduceEqDiff,Nat.reduceAdd,Nat.reduceLeDiff,h2,h10,h12,f0,l1,hlt,q1,Option.isSome_some,Option.getD_some,KG (Nat.succ_pos d) (hms g) (hu.tree (h':=g.h) (Nat.le_refl _)) hs]
   cases hac:S.ax m l with
   | false =>
    simp only[sx,sy,SO.run,↓reduceIte,Bool.not_false]
    rw[S.aw,if_pos hck,if_neg]
    intro h2
    have:=List.all_eq_true.1 h2 l hm
    rw[hac] at this;cases this
   | true =>
    simp only[sx,sy,↓reduceIte,Nat.reduceEqDiff,Bool.not_true,h2,h10,h11,h12,St]
    rw[htk,List.all_append,hwa];simp[hac]
  ·rintro t df g ⟨rfl,rfl,-,hwa⟩
   rw[List.take_length] at hwa
   simp only[jV,sx,SO.run,↓reduceIte]
   simp[S.aw,hck]
   intro x hx
   exact List.all_eq_true.1 hwa x hx
end
end Hx
end
section
namespace Hx
open Go
noncomputable section
theorem ky {a b:List Nat}(h:∀i∈a,∀j∈b,i≠j):meets a b=false:=by
 simp only[meets,List.any_eq_false]
 intro i hi hc
 exact h i hi i (List.contains_iff_mem.1 hc) rfl
theorem dG {x y:Foot}(hb:x.lk.big=false)(hb2:y.lk.big=false)(hs:x.lk.sr=[])(hs2:y.lk.sr=[])(h1:∀i∈x.wr,∀j∈y.wr,i≠j)(h2:∀i∈x.wr,∀j∈y.lk.rd,i≠j)(h3:∀i∈y.wr,∀j∈x.lk.rd,i≠j) :
  bu x y=true:=by
 have m1:=ky h1
 have m2:=ky h2
 have m3:=ky h3
 have m4:meets y.wr x.wr=false:=ky fun i hi j hj e=>h1 j hj i hi e.symm
 have m5:∀l:List Nat,meets l []=false:=fun l=>by simp[meets]
 simp only[bu,eW,dL,hb,hb2,hs,hs2,m1,m2,m3,m4,m5,fst1,List.map_nil,Bool.not_false,Bool.and_self,Bool.true_or]
 split<;>split<;>rfl
instance : DecidableEq Node:=fun x y=>if h:x.card=y.card/\x.parents=y.parents/\x.rows=y.rows then .isTrue (by cases x;cases y;obtain ⟨h1,h2,h3⟩:=h;dsimp only at h1 h2 h3;subst h1;subst h2;subst h3;rfl) else .isFalse (fun e=>h (by subst e;exact ⟨rfl,rfl,rfl⟩))
instance : DecidableEq Net:=fun x y=>if h:x.grain=y.grain/\x.nodes=y.nodes then .isTrue (by cases x;cases y;obtain ⟨h1,h2⟩:=h;dsimp only at h1 h2;subst h1;subst h2;rfl) else .isFalse (fun e=>h (by subst e;exact ⟨rfl,rfl⟩))
end
end Hx
end
section
namespace Hx
open Go
noncomputable section
theorem AY {g:G}{b sz bytes:Nat}{zero:List AV}{k1 k2:IntKind}{n:Nat}{K:AV->G->Prop}{D:ADf->Prop}(hn:n<=aZ)(hb:n*bytes<=aZ)(hg:b<=g.nx)
  (k:∀v' g',Own g' b v' sz (List.replicate n zero)->g'.nx=g.nx+1->(∀i,i<g.nx->g'.h.get i=g.h.get i)->vid v'=some g.nx->g'.lg=g.nx::g.lg->K v' g') :
  (Jz sz bytes zero (.int k1 (n:Int)) (.int k2 (n:Int)) g).sat K g D:=by
 show (match dV aZ (.int k2 (.ofNat n)) with
  | some cn=>match dV cn (.int k1 (.ofNat n)) with
   | some ln=>az (Nat.ble (cn*bytes) aZ) (OR.upd (.hsl g.nx 0 0 ln none) (g.new (.cells sz (gO cn zero) 0 false false))) .fail
   | none=>.fail
  | none=>.fail).sat K g D
 simp only[dV,aa,Nat.ble_eq,if_pos hn,Nat.le_refl,if_pos hb,if_true]
 refine k _ _ (.inr ⟨g.nx,0,false,hg,by simp,by simp,by simp[bi,gO]⟩) (by simp) (fun i hi=>?_) rfl (by simp)
 rw[G.new_h,aq _ _ _ (by omega)]
end
end Hx
end
section
namespace Hx
open Go
noncomputable section
theorem qf (n sz id ep i off:Nat)(k:IntKind){j:Nat}(h:j<n):si n sz (.hptr id ep i off) (.int k (j:Int))=.val (.hptr id ep i (off+j*sz)):=by
 show az (Nat.blt j n) (OR.val (.hptr id ep i (off+j*sz))) .fail=_
 rw[aa,if_pos (by simpa using h)]
def u8v (x:UInt8):AV:=.int .u8 (x.toNat:Int)
theorem me (l:List UInt8)(h:H)(d:Nat):snap h d aK (.agg (l.map u8v))=some (.agg (l.map u8v)):=by
 have:∀l:List UInt8,aH (Hx.snap h d 23) (l.map u8v)=some (l.map u8v):=fun l=>by
  induction l with
  | nil=>rfl
  | cons x l ih =>
   simp only[List.map_cons,aH,ih,show Hx.snap h d 23 (u8v x)=some (u8v x) from rfl]
 show (match aH (Hx.snap h d 23) (l.map u8v) with | some ys=>some (AV.agg ys) | none=>none)=_
 rw[this]
def S.bL (vs:List UInt8)(m:Causal):List Int:=(List.range m.nodes.length).map fun j=>if ((vs[j]?.map UInt8.toNat).getD 0:Nat) % 3=0 then (((vs[j]?.map UInt8.toNat).getD 0 / 3:Nat):Int) % ((m.nodes[j]?.map (·.card)).getD 0) else -1
theorem xT {d k:Nat}{g:G}{P:Nat->Prop}{w:AV}{m:Causal}{vs:List UInt8}(hd:0<d)(hv:vs.length=5)(hm:Agg m P k g.h w)(hn:m.nodes.length<=5)(hc:∀x∈m.nodes,0<x.card) :
  ∃r,ak C0 d N.aa [.agg (vs.map u8v),w] g=.val r/\IT 0 (S.bL vs m) r:=by
 obtain ⟨v',e,cs,rfl,hcs⟩:=bP (aQ m) (by decide) d hm
 obtain ⟨a,b,rfl,hR,hN⟩:=aC.1 hcs
 obtain ⟨rows,r1,r2,r3,r4⟩:=hN.all
 have r1:∀h',ah h' 4 b=some rows:=r1
 rw[iZ]
 obtain ⟨L,hLd⟩:∃L,L=S.bL vs m:=⟨_,rfl⟩
 rw[<-hLd]
 have Ll:L.length=m.nodes.length:=by rw[hLd];simp[S.bL]
 have Lget:∀{j:Nat},j<m.nodes.length->L.take (j+1)=L.take j++[if ((vs[j]?.map UInt8.toNat).getD 0:Nat) % 3=0 then (((vs[j]?.map UInt8.toNat).getD 0 / 3:Nat):Int) % ((m.nodes[j]?.map (·.card)).getD 0) else -1]:=fun {j} hj=>by
  rw[List.take_add_one];congr 1;rw[hLd];simp only[S.bL,List.getElem?_map,List.getElem?_range hj,Option.map_some,Option.toList_some]
 refine aV rI (xs:=[.agg (vs.map u8v),.agg [.int .i64 m.grain,a,b]]) (by simp only[aH,e,me]) (by simp[gW]) (aU _) (by decide) hd ?_
 obtain ⟨cu8,hcu⟩:∃c,c=vs.map u8v:=⟨_,rfl⟩
 have hcl:cu8.length=5:=by rw[hcu,List.length_map,hv]
 simp only[gW,sx,sy,SO.run,↓reduceIte,Nat.reduceEqDiff,Nat.reduceAdd,<-hcu]
 generalize hg0:((G.empty.new (AObj.cells cu8.length [cu8] 0 false false)).new (AObj.cells 3 [[AV.int IntKind.i64 m.grain,a,b]] 0 false false))=g0
 have f0:g0.h.get 0=.cells 5 [cu8] 0 false false:=by rw[<-hg0,hcl];simp[sx,H.get_put]
 have f1:g0.h.get 1=.cells 3 [[.int .i64 m.grain,a,b]] 0 false false:=by rw[<-hg0];simp[sx]
 have f2:2<=g0.nx:=by rw[<-hg0];simp[sx]
 clear hg0
 simp only[ks,sx,SO.run]
 refine bB m.nodes.length (by omega) (fun j t df g=>df=[]/\St t [(2,.hptr 0 0 0 0),(3,.hptr 1 0 0 0)]/\g.h.get 0=.cells 5 [cu8] 0 false false/\g.h.get 1=.cells 3 [[.int .i64 m.grain,a,b]] 0 false false/\2<=g.nx/\∃u,tat t 5=u/\Own g 2 u 1 ((L.take j).map ci))
  ⟨rfl,by simp[sx,St],f0,f1,f2,_,rfl,.inl ⟨by simp[sx],rfl⟩⟩ (by simp[sx]) (by decide) (by rintro j t df g v s (rfl | rfl | rfl)<;>simp[sx,St]) ?_ ?_ ?_
 ·rintro j t df g hj ⟨rfl,⟨h2,h3,-⟩,e0,e1,hnx,u,h5,hu⟩ h6
  simp only[sx,sy,SO.run,↓reduceIte,Nat.reduceEqDiff,h2,h3,h6,e0,e1,hN.len,St]
  exact ⟨hnx,u,h5,hu⟩
 ·rintro j t df g hj ⟨rfl,⟨h2,h3,-⟩,e0,e1,hnx,u,h5,hu⟩ h6
  obtain ⟨x,hx,htk,hm⟩:=af hj
  obtain ⟨row,z1,z2⟩:=r3 j x hx
  obtain ⟨fa,fb,fc,rfl,-⟩:=bW.1 z2
  have hlt:j<rows.length:=by omega
  have hry:=r4 (by omega)
  have hj5:j<5:=by omega
  obtain ⟨y,hy⟩:∃y,vs[j]?=some y:=⟨_,List.getElem?_eq_getElem (by omega)⟩
  have hcy:cu8[j]?=some (.int .u8 (y.toNat:Int)):=by rw[hcu,List.getElem?_map,hy];rfl
  have hy8:y.toNat<256:=y.toNat_lt
  have hL:=Lget hj
  rw[hy,hx] at hL
  simp only[Option.map_some,Option.getD_some] at hL
  have hcx:=hc x hm
  simp only[sx,sy,SO.run,↓reduceIte,Nat.reduceEqDiff,h2,h6,e0,qf 5 1 _ _ _ _ _ hj5,Nat.mul_one,hcy,bC .u8 (show (0:Int)<=(y.toNat:Int) by omega) (show (0:Int)<3 by decide)]
  have w8:IntKind.wrap .u8 ((y.toNat:Int) / 3)=(y.toNat:Int) / 3:=GH (by omega) (by omega)
  refine aw (fun hb=>?_) (fun hb=>?_)
  ·have hz:y.toNat % 3=0:=by simp at hb;omega
   rw[if_pos hz] at hL
   simp only[sx,sy,SO.run,↓reduceIte,Nat.reduceEqDiff,h2,h3,h5,h6,e0,e1,qf 5 1 _ _ _ _ _ hj5,Nat.mul_one,hcy,pI .u8 (show (0:Int)<=(y.toNat:Int) by omega) (show (0:Int)<3 by decide),w8,an (show -9223372036854775808<=(y.toNat:Int) / 3 by omega) (show (y.toNat:Int) / 3<9223372036854775808 by omega),r1,hlt,z1,hry,Option.isSome_some,Option.getD_some,bC .i64 (show 0<=(y.toNat:Int) / 3 by omega) hcx,eH]
   refine aJ (new:=[ci ((y.toNat:Int) / 3 % x.card)]) (hu.step (Fr.new _ _)) (by simp[sx,sy,ci]) (by simp[Ll];omega) (by simp[aZ,Ll];omega) fun v2 g2 hv2 n2 f2 _ l2=>?_
   simp only[sx,sy,SO.run,↓reduceIte,Nat.reduceEqDiff,h2,h3,h6,St]
   refine ⟨?_,?_,?_,_,rfl,?_⟩
   ·rw[f2 0 (by simp) (fun e=>by have:=(hu.lt e).1;omega),G.new_h,aq _ _ _ (by omega),e0]
   ·rw[f2 1 (by simp;omega) (fun e=>by have:=(hu.lt e).1;omega),G.new_h,aq _ _ _ (by omega),e1]
   ·simp at n2;omega
   ·rw[hL]
    simpa [ci] using hv2
  ·have hz:¬y.toNat % 3=0:=by simp at hb;omega
   rw[if_neg hz] at hL
   simp only[sx,sy,SO.run,↓reduceIte,Nat.reduceEqDiff,h5,eH]
   refine aJ (new:=[ci (-1)]) (hu.step (Fr.new _ _)) (by simp[sx,sy,ci]) (by simp[Ll];omega) (by simp[aZ,Ll];omega) fun v2 g2 hv2 n2 f2 _ l2=>?_
   simp only[sx,sy,SO.run,↓reduceIte,Nat.reduceEqDiff,h2,h3,h6,St]
   refine ⟨?_,?_,?_,_,rfl,?_⟩
   ·rw[f2 0 (by simp) (fun e=>by have:=(hu.lt e).1;omega),G.new_h,aq _ _ _ (by omega),e0]
   ·rw[f2 1 (by simp;omega) (fun e=>by have:=(hu.lt e).1;omega),G.new_h,aq _ _ _ (by omega),e1]
   ·simp at n2;omega
   ·rw[hL]
    simpa [ci] using hv2
 ·rintro t df g ⟨rfl,⟨h2,h3,-⟩,e0,e1,hnx,u,h5,hu⟩
  rw[List.take_of_length_le (by simp[Ll])] at hu
  simp only[jf,sx,SO.run,↓reduceIte,h5]
  exact ⟨_,hu.ints (by simp[Ll];omega)⟩
end
end Hx
end
section
namespace Hx
open Go
noncomputable section
def Raw (w:AV):Prop:=w=.nils\/∃rows,w=.tsl 0 1 rows
theorem KI {w:AV}{l:List Int}(hw:SlR NoP 0 .nil l w)(hr:Raw w)(c:Nat) :
  ∃w',(∀g,rN 1 w none (some (.int .i64 (min (l.length:Int) (c:Int)))) g=.val w')/\SlR NoP 0 .nil (l.take c) w':=by
 have hm:min (l.length:Int) (c:Int)=((min l.length c:Nat):Int):=by omega
 rw[hm]
 have hlt:(l.take c).length<9223372036854775808:=by have:=hw.1;rw[List.length_take];omega
 rcases hr with rfl | ⟨rows,rfl⟩
 ·have hl:l=[]:=hw.2
  subst hl
  refine ⟨.nils,fun g=>?_,hlt,by simp[SlV]⟩
  have:min ([]:List Int).length c=0:=by simp
  rw[this];rfl
 ·obtain ⟨h0,h1,h2⟩:=(show 0<=0/\(1=Rp.sz Int\/rows=[])/\All2 (Rp.rp NoP 0 .nil) l rows from hw.2)
  have hlen:=h2.len
  refine ⟨.tsl 0 1 (rows.take (min l.length c)),fun g=>?_,hlt,?_⟩
  ·show orV (match aY (bj rows) (bj rows) (some (.int .i64 (.ofNat (min l.length c)))) with
    | none=>none
    | some h=>match aY 0 h none with
     | none=>none
     | some l=>az (Nat.beq 1 1) (some (.tsl 0 1 (fK (h - l) (eP l rows)))) none)=_
   have:aY (bj rows) (bj rows) (some (.int .i64 (.ofNat (min l.length c))))=some (min l.length c):=by
    show az (Nat.ble (min l.length c) (bj rows)) (some (min l.length c)) none=_
    rw[aa,if_pos]
    rw[aD,<-hlen];simp;omega
   rw[this]
   show orV (az (Nat.beq 1 1) (some (AV.tsl 0 1 (fK (min l.length c - 0) (eP 0 rows)))) none)=_
   rw[show Nat.beq 1 1=true from rfl,bif'_true,bg,bk,List.drop_zero,Nat.sub_zero];rfl
  ·refine ⟨Nat.le_refl _,h1.elim .inl (fun h=>.inr (by rw[h];simp)),?_⟩
   have:=h2.take (min l.length c)
   rwa [show l.take (min l.length c)=l.take c by rw[Nat.min_comm,<-List.take_take,List.take_length]] at this
theorem F_ {d:Nat}{g:G}{P:Nat->Prop}{k:Nat}{v w:AV}{m:Causal}{raw:List Int}{vs:List UInt8}(hd:0<d)(hm:Agg m P k g.h v)(hw:SlR NoP 0 .nil raw w)(hr:Raw w)
  (hv:vs.length=5) (hn:m.nodes.length<=5) (hc:∀x∈m.nodes,0<x.card) :
  ∃r,ak C0 d N.af [v,w,.agg (vs.map u8v)] g=.val r/\Agg ((raw.take 7,S.bL vs m):List Int×List Int) NoP 0 .nil r:=by
 obtain ⟨v',e,cs,rfl,hcs⟩:=bP (aQ m) (by decide) d hm
 obtain ⟨a,b,rfl,hR,hN⟩:=aC.1 hcs
 have hms:∀g:G,Agg m NoP (max k d) g.h (.agg [.int .i64 m.grain,a,b]):=fun g=>⟨_,rfl,aC.2 ⟨a,b,rfl,hR.tree (Nat.le_refl _),hN.tree (Nat.le_refl _)⟩⟩
 have e2:=cG d (hw.tree (k':=0) (h':=g.h) (Nat.le_refl _))
 rw[mQ]
 refine aV vW (xs:=[.agg [.int .i64 m.grain,a,b],w,.agg (vs.map u8v)]) (by simp only[aH,e,e2,me]) (by simp[lK]) (aQ _) (by decide) hd ?_
 obtain ⟨cu8,hcu⟩:∃c,c=vs.map u8v:=⟨_,rfl⟩
 have hcl:cu8.length=5:=by rw[hcu,List.length_map,hv]
 simp only[lK,sx,sy,SO.run,↓reduceIte,Nat.reduceEqDiff,Nat.reduceAdd,<-hcu]
 generalize hg0:(((G.empty.new (AObj.cells 3 [[AV.int IntKind.i64 m.grain,a,b]] 0 false false)).new (AObj.cells cu8.length [cu8] 0 false false)).new (AObj.cells 2 [[AV.nils,AV.nils]] 0 false false))=g0
 have f0:g0.h.get 0=.cells 3 [[.int .i64 m.grain,a,b]] 0 false false:=by rw[<-hg0];simp[sx,H.get_put]
 have f1:g0.h.get 1=.cells 5 [cu8] 0 false false:=by rw[<-hg0,hcl];simp[sx,H.get_put]
 have f2:g0.h.get 2=.cells 2 [[.nils,.nils]] 0 false false:=by rw[<-hg0];simp[sx]
 clear hg0
 obtain ⟨w',hslc,hw2⟩:=KI hw hr 7
 have hslc:∀g:G,rN 1 w none (some (.int .i64 (min (raw.length:Int) 7))) g=.val w':=hslc
 have hpa:bI true 5 cu8 0=some (.agg cu8):=by rw[A8 (by omega),List.drop_zero,List.take_of_length_le (by omega)]
 simp only[nT,sx,sy,sf,SO.run,↓reduceIte,Nat.reduceEqDiff,Nat.reduceAdd,Nat.reduceLeDiff,hw.len,f0,f1,List.head?_nil,List.head?_cons,hslc,hpa]
 refine a_ (hcu ▸ xT (Nat.succ_pos d) hv (hms _) hn hc) fun r hr=>?_
 have sc:∀{l:List Int} {v:AV},SlR NoP 0 .nil l v->v.cells=[v]/\v.isTup=false:=fun {l v} h=>by
  have:=h.2;unfold SlV at this
  split at this<;>first | exact ⟨rfl,rfl⟩ | exact this.elim
 obtain ⟨w1,w2⟩:=sc hw2
 obtain ⟨r1,r2⟩:=sc (hr.sl .nil)
 simp only[sx,sy,sf,SO.run,↓reduceIte,Nat.reduceEqDiff,Nat.reduceAdd,Nat.reduceLeDiff,f2,pV,w1,w2,r1,r2]
 refine ⟨?_,?_⟩
 ·simp only[List.reverse_cons,List.reverse_nil,List.nil_append,List.cons_append]
  exact aX [false,false,false,false,false,false,false,false,false,true] [] (by simp[All2,au,aF]) (by decide) (by simp)
 ·exact ⟨NoP,_,rfl,[w'],[r],rfl,⟨w',rfl,hw2.tree (Nat.le_refl _)⟩,⟨r,rfl,hr.sl _⟩⟩
end
end Hx
end
section
namespace Hx
open Go
noncomputable section
theorem Jy (z:AV)(k k':IntKind)(x y:Int)(g:G):BR 1 2 [z] [0,1] [.int k x,.int k' y] g=.upd (.hsl g.nx 0 0 2 none) (g.new (.cells 1 [[.int k x],[.int k' y]] 0 false false)):=rfl
theorem F6 (z:AV)(k k' k2:IntKind)(x y w:Int)(g:G):BR 1 3 [z] [0,1,2] [.int k x,.int k' y,.int k2 w] g=.upd (.hsl g.nx 0 0 3 none) (g.new (.cells 1 [[.int k x],[.int k' y],[.int k2 w]] 0 false false)):=rfl
def S.a_ (gr card n:Int):List Int :=
 if card=2 then [1+n % (gr - 1),gr - (1+n % (gr - 1))]
 else [1+n % (gr - 1),n / 12 % (gr - (1+n % (gr - 1))+1),gr - (1+n % (gr - 1)) - n / 12 % (gr - (1+n % (gr - 1))+1)]
theorem xn {d:Nat}{g:G}{gr card n:Int}(hd:0<d)(h1:2<=gr)(h2:gr<=12)(h3:0<=n)(h4:n<256) :
  ∃r,ak C0 d N.aR [.int .i64 gr,.int .i64 card,.int .u8 n] g=.val r/\IT 0 (S.a_ gr card n) r:=by
 rw[q_]
 refine aV tW (xs:=[.int .i64 gr,.int .i64 card,.int .u8 n]) (by simp only[aH,dB 0]) (by simp[iS]) (aU _) (by decide) hd ?_
 have b1:=Int.emod_nonneg n (show gr - 1≠0 by omega)
 have b2:=Int.emod_lt_of_pos n (show 0<gr - 1 by omega)
 have b3:=Int.emod_nonneg (n / 12) (show gr - (1+n % (gr - 1))+1≠0 by omega)
 have b4:=Int.emod_lt_of_pos (n / 12) (show 0<gr - (1+n % (gr - 1))+1 by omega)
 generalize hA:n % (gr - 1)=A at *
 generalize hB:n / 12 % (gr - (1+A)+1)=B at *
 simp only[iS,sx,SO.run,↓reduceIte,Nat.reduceEqDiff,
  an (show -9223372036854775808<=n by omega) (show n<9223372036854775808 by omega),
  an (show -9223372036854775808<=gr - 1 by omega) (show gr - 1<9223372036854775808 by omega),
  bC .i64 h3 (show 0<gr - 1 by omega),hA,
  an (show -9223372036854775808<=1+A by omega) (show 1+A<9223372036854775808 by omega)]
 refine aw (fun hb=>?_) (fun hb=>?_)
 ·have hc:card=2:=by simpa using hb
  simp only[sx,SO.run,↓reduceIte,Nat.reduceEqDiff,
   an (show -9223372036854775808<=gr - (1+A) by omega) (show gr - (1+A)<9223372036854775808 by omega)]
  simp only[Jy,sx,SO.run,↓reduceIte]
  have ho:Own ((G.empty).new (.cells 1 [[.int .i64 (1+A)],[.int .i64 (gr - (1+A))]] 0 false false)) 0 (.hsl G.empty.nx 0 0 2 none) 1 ([1+A,gr - (1+A)].map ci):=.inr ⟨_,0,false,Nat.zero_le _,by simp,rfl,by simp[bi,ci]⟩
  rw[S.a_,if_pos hc,hA]
  exact ⟨_,ho.ints (by simp)⟩
 ·have hc:¬card=2:=by simpa using hb
  simp only[sx,SO.run,↓reduceIte,Nat.reduceEqDiff,
   pI .u8 h3 (show (0:Int)<12 by decide),GH (show 0<=n / 12 by omega) (show n / 12<256 by omega),
   an (show -9223372036854775808<=n / 12 by omega) (show n / 12<9223372036854775808 by omega),
   an (show -9223372036854775808<=gr - (1+A) by omega) (show gr - (1+A)<9223372036854775808 by omega),
   an (show -9223372036854775808<=gr - (1+A)+1 by omega) (show gr - (1+A)+1<9223372036854775808 by omega),
   bC .i64 (show 0<=n / 12 by omega) (show 0<gr - (1+A)+1 by omega),hB,
   an (show -9223372036854775808<=gr - (1+A) - B by omega) (show gr - (1+A) - B<9223372036854775808 by omega)]
  simp only[F6,sx,SO.run,↓reduceIte]
  have ho:Own ((G.empty).new (.cells 1 [[.int .i64 (1+A)],[.int .i64 B],[.int .i64 (gr - (1+A) - B)]] 0 false false)) 0 (.hsl G.empty.nx 0 0 3 none) 1 ([1+A,B,gr - (1+A) - B].map ci):=.inr ⟨_,0,false,Nat.zero_le _,by simp,rfl,by simp[bi,ci]⟩
  rw[S.a_,if_neg hc,hA,hB]
  exact ⟨_,ho.ints (by simp)⟩
end
end Hx
end
section
namespace Hx
open Go
noncomputable section
theorem yJ (id ep i off:Nat):Eq (.hptr id ep i off)=.val (.hptr id ep i off):=rfl
theorem DQ {d:Nat}{g:G}{p:Nat}{l:AV}{us:List UInt8}{c:Int}{K:AV->G->Prop}{D:ADf->Prop}(hg:g.h.get p=.cells 2 [[l,.int .i64 c]] 0 false false)(hl:SlR NoP 0 .nil us l)(h0:0<=c)(h1:c<4611686018427387904)
  (kk:∀(z c':Int) (g':G),0<=z->z<256->0<=c'->c'<=c+1->g'.h.get p=.cells 2 [[l,.int .i64 c']] 0 false false->g'.nx=g.nx->(∀i,i≠p->g'.h.get i=g.h.get i)->(∀i∈g'.lg,i=p\/i∈g.lg)->K (.int .u8 z) g') :
  (ak C0 d N.aF [.hptr p 0 0 0] g).sat K g D:=by
 obtain ⟨rows,r1,r2,r3,r4⟩:=hl.all
 have r1:∀h',ah h' 1 l=some rows:=r1
 rw[mf]
 refine pT nW (by simp[ei]) ?_
 simp only[ei,sx,sy,SO.run,↓reduceIte,Nat.reduceEqDiff,hg,hl.len,yJ]
 refine aw (fun hb=>?_) (fun hb=>?_)
 ·simp only[sx,SO.run,↓reduceIte]
  exact kk 0 c g (by decide) (by decide) h0 (by omega) hg rfl (fun _ _=>rfl) (fun i hi=>.inr hi)
 ·have hp:0<us.length:=by simp at hb;cases us with | nil=>simp at hb | cons a b=>simp
  have hm1:=Int.emod_nonneg (c+1) (show (us.length:Int)≠0 by omega)
  have hm2:=Int.emod_lt_of_pos (c+1) (show 0<(us.length:Int) by omega)
  obtain ⟨j,hj⟩:=Int.eq_ofNat_of_zero_le hm1
  have hjl:j<us.length:=by omega
  obtain ⟨y,hy⟩:∃y,us[j]?=some y:=⟨_,List.getElem?_eq_getElem hjl⟩
  obtain ⟨row,z1,z2⟩:=r3 j y hy
  rw[cF.1 z2] at z1
  have hy8:y.toNat<256:=y.toNat_lt
  have hlt:j<rows.length:=by omega
  simp only[sx,sy,SO.run,↓reduceIte,Nat.reduceEqDiff,Nat.reduceAdd,Nat.le_refl,hg,yJ,hl.len,bC .i64 (show 0<=c+1 by omega) (show 0<(us.length:Int) by omega),hj,r1,hlt,z1,Option.isSome_some,Option.getD_some,an (show -9223372036854775808<=c+1 by omega) (show c+1<9223372036854775808 by omega)]
  refine kk _ (c+1) _ (by omega) (by omega) (by omega) (by omega) (by simp[H.get_put]) (by simp) (fun i hi=>by simp[H.get_put];intro e;exact absurd e hi) (fun i hi=>by simpa using hi)
end
end Hx
end
section
namespace Hx
open Go
noncomputable section
abbrev CL:Type:=List UInt8×UInt16×List UInt8
def S.bC (us:List UInt8):List Int:=(us.take 5).map fun u=>1+(u.toNat:Int) % 4
theorem Gq {P:Nat->Prop}{k:Nat}{h:H}{x:UInt16}{cs:List AV}:Rp.rp P k h x cs↔cs=[.int .u16 (x.toNat:Int)]:=by simp[Rp.rp]
theorem pK {P:Nat->Prop}{k:Nat}{h:H}{x:CL}{cs:List AV}:Rp.rp P k h x cs↔∃a b,cs=[a,.int .u16 (x.2.1.toNat:Int),b]/\SlR P k h x.1 a/\SlR P k h x.2.2 b:=by
 constructor
 ·rintro ⟨c1,c2,rfl,⟨a,rfl,h1⟩,c3,c4,rfl,h2,⟨b,rfl,h3⟩⟩
  rw[Gq.1 h2];exact ⟨a,b,rfl,h1,h3⟩
 ·rintro ⟨a,b,rfl,h1,h2⟩
  exact ⟨[a],[_,b],rfl,⟨a,rfl,h1⟩,[_],[b],rfl,Gq.2 rfl,⟨b,rfl,h2⟩⟩
theorem Fh {d k:Nat}{g:G}{P:Nat->Prop}{v:AV}{x:CL}(hd:0<d)(hm:Agg x P k g.h v) :
  ∃r,ak C0 d N.bk [v] g=.val r/\IT 0 (S.bC x.1) r:=by
 obtain ⟨v',e,cs,rfl,hc⟩:=bP (aQ x) (by decide) d hm
 obtain ⟨a,b,rfl,hA,hB⟩:=pK.1 hc
 obtain ⟨rows,r1,r2,r3,r4⟩:=hA.all
 have r1:∀h',ah h' 1 a=some rows:=r1
 rw[nw]
 refine aV pu (xs:=[.agg [a,.int .u16 (x.2.1.toNat:Int),b]]) (by simp only[aH,e]) (by simp[eM]) (aU _) (by decide) hd ?_
 have hL:(S.bC x.1).length=min x.1.length 5:=by simp[S.bC];omega
 simp only[eM,gL,sx,sy,SO.run,↓reduceIte,Nat.reduceAdd]
 refine bB (min x.1.length 5) (by omega) (fun j t df g=>df=[]/\tat t 1=.hptr 0 0 0 0/\g.h.get 0=.cells 3 [[a,.int .u16 (x.2.1.toNat:Int),b]] 0 false false/\1<=g.nx/\∃u,tat t 3=u/\Own g 1 u 1 (((S.bC x.1).take j).map ci))
  ⟨rfl,by simp[sx],by simp[sx],by simp[sx],_,rfl,.inl ⟨by simp[sx],rfl⟩⟩ (by simp[sx]) (by decide)
  (by rintro j t df g v s (rfl | rfl | rfl)<;>simp[sx]) ?_ ?_ ?_
 ·rintro j t df g hj ⟨rfl,h1,hg,hnx,u,h3,hu⟩ h4
  by_cases hlt:(j:Int)<(x.1.length:Int)
  ·have:decide ((j:Int)<((min x.1.length 5:Nat):Int))=decide ((j:Int)<5):=by congr 1;apply propext;omega
   simp only[sx,sy,SO.run,↓reduceIte,Nat.reduceEqDiff,h1,h4,hg,hA.len,hlt,decide_true,this]
   exact ⟨hnx,u,h3,hu⟩
  ·have:decide ((j:Int)<((min x.1.length 5:Nat):Int))=false:=decide_eq_false (by omega)
   simp only[sx,sy,SO.run,↓reduceIte,Nat.reduceEqDiff,h1,h4,hg,hA.len,hlt,decide_false,this]
   exact ⟨hnx,u,h3,hu⟩
 ·rintro j t df g hj ⟨rfl,h1,hg,hnx,u,h3,hu⟩ h4
  obtain ⟨y,hy,-,-⟩:=af (l:=x.1) (j:=j) (by omega)
  obtain ⟨z,hz,htk,-⟩:=af (l:=S.bC x.1) (j:=j) (by omega)
  have hzy:z=1+(y.toNat:Int) % 4:=by
   have:(S.bC x.1)[j]?=some (1+(y.toNat:Int) % 4):=by simp[S.bC,show j<5 by omega,hy]
   rw[this] at hz;injection hz with hz;exact hz.symm
  obtain ⟨row,z1,z2⟩:=r3 j y hy
  rw[cF.1 z2] at z1
  have hlt:j<rows.length:=by omega
  have hy8:y.toNat<256:=y.toNat_lt
  have m1:0<=(y.toNat:Int) % 4:=by omega
  have m2:(y.toNat:Int) % 4<4:=by omega
  simp only[sx,sy,SO.run,↓reduceIte,Nat.reduceEqDiff,h1,h3,h4,hg,r1,hlt,z1,Option.isSome_some,Option.getD_some,bC .u8 (show (0:Int)<=(y.toNat:Int) by omega) (show (0:Int)<4 by decide),
   an (show -9223372036854775808<=(y.toNat:Int) % 4 by omega) (show (y.toNat:Int) % 4<9223372036854775808 by omega),
   an (show -9223372036854775808<=1+(y.toNat:Int) % 4 by omega) (show 1+(y.toNat:Int) % 4<9223372036854775808 by omega)]
  refine aJ (new:=[ci (1+(y.toNat:Int) % 4)]) (hu.step (Fr.new _ _)) (by simp[sx,sy,ci]) (by simp) (by simp[aZ];omega) fun v2 g2 hv2 n2 f2 _ l2=>?_
  simp only[sx,sy,SO.run,↓reduceIte,Nat.reduceEqDiff,h1,h4]
  refine ⟨?_,?_,_,rfl,?_⟩
  ·rw[f2 0 (by simp) (fun e=>by have:=(hu.lt e).1;omega),G.new_h,aq _ _ _ (by omega),hg]
  ·simp at n2;omega
  ·rw[htk,hzy]
   simpa [ci] using hv2
 ·rintro t df g ⟨rfl,h1,hg,hnx,u,h3,hu⟩
  rw[List.take_of_length_le (by omega)] at hu
  simp only[fY,sx,SO.run,↓reduceIte,h3]
  exact ⟨_,hu.ints (by omega)⟩
end
end Hx
end
section
namespace Hx
open Go
noncomputable section
theorem Ds {g:G}{b sz:Nat}{u:AV}{rows:List (List AV)}(hu:Own g b u sz rows){n:Nat}(hn:n<=rows.length) :
  ∃y,rN sz u none (some (.int .i64 (n:Int))) g=.val y/\ah g.h sz y=some (rows.take n):=by
 rcases hu with ⟨rfl,rfl⟩ | ⟨id,ep,lo,h1,h2,rfl,h3⟩
 ·have:n=0:=by simpa using hn
  subst this
  exact ⟨.nils,rfl,rfl⟩
 ·simp only[rN,j9,h3,Nat.beq_refl,Nat.beq_refl,Bool.true_and,aD,Nat.zero_add,aa,Nat.ble_eq,Nat.le_refl,if_true,aY,Option.getD_none,Nat.sub_zero]
  simp only[dV]
  rw[show az (n.ble rows.length) (some n) none=some n from by rw[aa,if_pos (by simpa using hn)]]
  dsimp only
  by_cases h0:rows=[]
  ·subst h0
   have:n=0:=by simpa using hn
   subst this
   cases lo
   ·exact ⟨_,rfl,rfl⟩
   ·exact ⟨_,rfl,m_ _ _ _ _⟩
  ·have hb:rows.length.beq 0=false:=by cases rows with | nil=>exact absurd rfl h0 | cons a l=>rfl
   rw[hb]
   refine ⟨_,rfl,?_⟩
   rw[d5,h3,cN,if_pos (by omega),List.drop_zero]
theorem C4 {g:G}{b sz:Nat}{u:AV}{rows:List (List AV)}(hu:Own g b u sz rows){n:Nat}(hn:n<=rows.length) :
  ∃y,rN sz u (some (.int .i64 (n:Int))) none g=.val y/\ah g.h sz y=some (rows.drop n):=by
 rcases hu with ⟨rfl,rfl⟩ | ⟨id,ep,lo,h1,h2,rfl,h3⟩
 ·have:n=0:=by simpa using hn
  subst this
  exact ⟨.nils,rfl,rfl⟩
 ·simp only[rN,j9,h3,Nat.beq_refl,Nat.beq_refl,Bool.true_and,aD,Nat.zero_add,aa,Nat.ble_eq,Nat.le_refl,if_true,aY,Option.getD_none,Nat.sub_zero]
  simp only[dV]
  rw[show az (n.ble rows.length) (some n) none=some n from by rw[aa,if_pos (by simpa using hn)]]
  dsimp only
  by_cases h0:rows.length=n
  ·subst h0
   rw[if_pos (Nat.beq_refl _),List.drop_length]
   cases lo
   ·exact ⟨_,rfl,rfl⟩
   ·exact ⟨_,rfl,m_ _ _ _ _⟩
  ·rw[if_neg (fun e=>h0 (Nat.eq_of_beq_eq_true e))]
   refine ⟨_,rfl,?_⟩
   rw[d5,h3,cN,if_pos (by omega),List.take_of_length_le (by simp)]
def S.bm (os:List UInt8)(k:Nat):Nat:=if k<os.length then ((os[k]?.map UInt8.toNat).getD 0) % (k+1) else 0
def S.aG (os:List UInt8):Nat->List Int
 | 0=>[]
 | k+1=>(S.aG os k).take (S.bm os k)++(k:Int)::(S.aG os k).drop (S.bm os k)
theorem kv (os:List UInt8):∀k,(S.aG os k).length=k
 | 0=>rfl
 | k+1=>by simp only[S.aG,List.length_append,List.length_cons,List.length_take,List.length_drop,kv os k];omega
theorem zw (os:List UInt8):∀k,(S.aG os k).Perm ((List.range k).map fun i:Nat=>(i:Int))
 | 0=>.refl _
 | k+1=>by
  rw[List.range_succ,List.map_append,S.aG]
  refine List.perm_middle.trans ?_
  rw[List.take_append_drop]
  exact ((zw os k).cons _).trans (List.perm_append_comm (l₁:=[(k:Int)]))
theorem xC {d k:Nat}{g:G}{P:Nat->Prop}{v:AV}{x:CL}(hd:0<d)(hm:Agg x P k g.h v) :
  ∃r,ak C0 d N.a9 [v] g=.val r/\IT 0 (S.aG x.2.2 (min x.1.length 5)) r:=by
 obtain ⟨v',e,cs,rfl,hc⟩:=bP (aQ x) (by decide) d hm
 obtain ⟨a,b,rfl,hA,hB⟩:=pK.1 hc
 have hms:∀g:G,Agg x NoP (max k d) g.h (.agg [a,.int .u16 (x.2.1.toNat:Int),b]):=fun g=>⟨_,rfl,pK.2 ⟨a,b,rfl,hA.tree (Nat.le_refl _),hB.tree (Nat.le_refl _)⟩⟩
 obtain ⟨rows,r1,r2,r3,r4⟩:=hB.all
 have r1:∀h',ah h' 1 b=some rows:=r1
 rw[iK]
 refine aV j8 (xs:=[.agg [a,.int .u16 (x.2.1.toNat:Int),b]]) (by simp only[aH,e]) (by simp[cy]) (aU _) (by decide) hd ?_
 have hL:(S.bC x.1).length=min x.1.length 5:=by simp[S.bC];omega
 simp only[cy,dS,sx,sy,SO.run,↓reduceIte,Nat.reduceAdd]
 refine bB (min x.1.length 5) (by omega) (fun j t df g=>df=[]/\tat t 1=.hptr 0 0 0 0/\g.h.get 0=.cells 3 [[a,.int .u16 (x.2.1.toNat:Int),b]] 0 false false/\1<=g.nx/\∃u,tat t 3=u/\Own g 1 u 1 ((S.aG x.2.2 j).map ci))
  ⟨rfl,by simp[sx],by simp[sx],by simp[sx],_,rfl,.inl ⟨by simp[sx],rfl⟩⟩ (by simp[sx]) (by decide)
  (by rintro j t df g v s (rfl | rfl | rfl)<;>simp[sx]) ?_ ?_ ?_
 ·rintro j t df g hj ⟨rfl,h1,hg,hnx,u,h3,hu⟩ h4
  simp only[sx,sy,SO.run,↓reduceIte,Nat.reduceEqDiff,Nat.reduceAdd,Nat.reduceLeDiff,h1,h4,hg]
  refine a_ (Fh (Nat.succ_pos d) (hms _)) fun r hr=>?_
  simp only[sx,sy,SO.run,↓reduceIte,Nat.reduceEqDiff,h1,h4,hg,(hr.sl .nil).len,hL]
  exact ⟨hnx,u,h3,hu⟩
 ·rintro j t df g hj ⟨rfl,h1,hg,hnx,u,h3,hu⟩ h4
  have hpl:((S.aG x.2.2 j).map ci).length=j:=by rw[List.length_map,kv]
  have hle:S.bm x.2.2 j<=j:=by
   unfold S.bm;split
   ·have:=Nat.mod_lt (((x.2.2)[j]?.map UInt8.toNat).getD 0) (show 0<j+1 by omega);omega
   ·omega
  have key:∀(t:T) (Q:QT),tat t 1=.hptr 0 0 0 0->tat t 3=u->tat t 4=.int .i64 (j:Int)->tat t 5=.int .i64 (S.bm x.2.2 j:Int) ->
    (∀(t':T) (g':G),tat t' 1=.hptr 0 0 0 0->tat t' 4=.int .i64 (j:Int)->g'.h.get 0=.cells 3 [[a,.int .u16 (x.2.1.toNat:Int),b]] 0 false false->1<=g'.nx->(∃u,tat t' 3=u/\Own g' 1 u 1 ((S.aG x.2.2 (j+1)).map ci))->Q .norm t' [] g') ->
    wp C0 (d+1) none bX Q t [] g:=by
   intro t Q h1 h3 h4 h5 kk
   obtain ⟨y1,s1,w1⟩:=Ds hu (n:=S.bm x.2.2 j) (by omega)
   simp only[bX,sx,SO.run,↓reduceIte,Nat.reduceEqDiff,h3,h5,List.head?_nil,List.head?_cons,s1]
   refine aJ (rows:=[]) (b:=1) (.inl ⟨rfl,rfl⟩) w1 hnx (by simp[aZ];omega) fun v1 g1 hv1 n1 f1 vid1 _=>?_
   simp only[sx,sy,SO.run,↓reduceIte,Nat.reduceEqDiff,h4]
   refine aJ (new:=[ci (j:Int)]) (hv1.step (Fr.new _ _)) (by simp[sx,sy,ci]) (by simp) (by simp[aZ,kv];omega) fun v2 g2 hv2 n2 f2 vid2 _=>?_
   have hu1:Own g1 1 u 1 ((S.aG x.2.2 j).map ci):=hu.fr n1 fun i hi=>f1 i (hu.lt hi).2 (by simp[vid])
   have hnv:∀i,i<g.nx->vid v1≠some i:=fun i hi e=>by
    rcases vid1 with h | ⟨i',h,hi'⟩
    ·rw[h] at e;cases e
    ·rw[h] at e;injection e with e;omega
   have hu2:Own g2 1 u 1 ((S.aG x.2.2 j).map ci):=hu1.fr (by simp at n2;omega) fun i hi=>by
    have hlt:=(hu.lt hi).2
    rw[f2 i (by simp;omega) (hnv i hlt),G.new_h,aq _ _ _ (by omega)]
   obtain ⟨y2,s2,w2⟩:=C4 hu2 (n:=S.bm x.2.2 j) (by omega)
   simp only[sx,SO.run,↓reduceIte,Nat.reduceEqDiff,h3,h5,List.head?_nil,List.head?_cons,s2]
   refine aJ hv2 w2 (by simp at n2;omega) (by simp[aZ,kv];omega) fun v3 g3 hv3 n3 f3 _ _=>?_
   simp only[sx,SO.run,↓reduceIte]
   refine kk _ _ (by simp[sx,h1]) (by simp[sx,h4]) ?_ (by simp at n2;omega) ⟨_,rfl,?_⟩
   ·rw[f3 0 (by simp at n2;omega) (fun e=>by have:=(hv2.lt e).1;omega),f2 0 (by simp) (hnv 0 (by omega)),G.new_h,aq _ _ _ (by omega),f1 0 (by omega) (by simp[vid]),hg]
   ·simp only[sx,↓reduceIte]
    simpa [S.aG,List.map_take,List.map_drop] using hv3
  simp only[sx,sy,SO.run,↓reduceIte,Nat.reduceEqDiff,h1,h4,hg,hB.len]
  refine aw (fun hb=>?_) (fun hb=>?_)
  ·have hjo:j<x.2.2.length:=by simp at hb;omega
   obtain ⟨y,hy⟩:∃y,x.2.2[j]?=some y:=⟨_,List.getElem?_eq_getElem hjo⟩
   obtain ⟨row,z1,z2⟩:=r3 j y hy
   rw[cF.1 z2] at z1
   have hy8:y.toNat<256:=y.toNat_lt
   have hlt:j<rows.length:=by omega
   have hat:((S.bm x.2.2 j:Nat):Int)=(y.toNat:Int) % ((j:Int)+1):=by
    unfold S.bm;rw[if_pos hjo,hy];simp
   simp only[sx,sy,SO.run,↓reduceIte,Nat.reduceEqDiff,h1,h4,hg,r1,hlt,z1,Option.isSome_some,Option.getD_some,
    an (show -9223372036854775808<=(y.toNat:Int) by omega) (show (y.toNat:Int)<9223372036854775808 by omega),
    an (show -9223372036854775808<=(j:Int)+1 by omega) (show (j:Int)+1<9223372036854775808 by omega),
    bC .i64 (show (0:Int)<=(y.toNat:Int) by omega) (show 0<(j:Int)+1 by omega)]
   refine key _ _ (by simp[sx,h1]) (by simp[sx,h3]) (by simp[sx,h4]) (by simp[sx,hat]) fun t' g' e1 e4 e0 en eu=>?_
   simp only[sy,e1,e4,e0]
   exact ⟨en,eu⟩
  ·have hat:S.bm x.2.2 j=0:=by unfold S.bm;rw[if_neg];simp at hb;omega
   simp only[sx]
   refine key _ _ (by simp[sx,h1]) (by simp[sx,h3]) (by simp[sx,h4]) (by simp[sx,hat]) fun t' g' e1 e4 e0 en eu=>?_
   simp only[sy,e1,e4,e0]
   exact ⟨en,eu⟩
 ·rintro t df g ⟨rfl,h1,hg,hnx,u,h3,hu⟩
  simp only[dH,sx,SO.run,↓reduceIte,h3]
  exact ⟨_,hu.ints (by rw[kv];omega)⟩
end
end Hx
end
section
namespace Hx
open Go
noncomputable section
def S.bj (cards:List Int):List Int->Nat->List Int×Bool
 | vals,0=>(vals,false)
 | vals,k+1=>if (vals[k]?.getD 0)+1<(cards[k]?.getD 0) then (vals.set k ((vals[k]?.getD 0)+1),true) else S.bj cards (vals.set k 0) k
def S.bi (cards vals:List Int):List Int×Bool:=S.bj cards vals vals.length
theorem Ib {d k k2:Nat}{g:G}{P P2:Nat->Prop}{v w:AV}{cards vals:List Int}(hd:0<d)(hv:SlR P k g.h cards v)(hw:SlR P2 k2 g.h vals w)(hl:cards.length=vals.length)(hn:vals.length<=64)
  (hb:∀x∈vals,0<=x/\x<4294967296) :
  ∃r,ak C0 d N.bD [v,w] g=.val r/\sJ (One (S.bi cards vals).1) (One (S.bi cards vals).2) NoP 0 .nil r:=by
 obtain ⟨v',e,r1⟩:=be hv d
 obtain ⟨w',e2,r2⟩:=be hw d
 rw[uU]
 refine aV yF (xs:=[v',w']) (by simp only[aH,e,e2]) (by simp[nD]) (dC (m:=1) (aU _) (aU _) (by decide) (by decide)) (by decide) hd ?_
 simp only[nD,sx,SO.run,↓reduceIte,Nat.reduceEqDiff]
 refine aJ (rows:=[]) (b:=0) (new:=vals.map ci) (.inl ⟨rfl,rfl⟩) (r2 _).ints (by simp) (by simp[aZ];omega) fun u g1 hu n1 f1 _ _=>?_
 simp only[List.nil_append] at hu
 have ul:∀g,eD .slice u g=.val (.int .i64 (vals.length:Int)):=fun g=>by rw[bh hu.rows,List.length_map]
 simp only[sx,SO.run,↓reduceIte,ul,an (show -9223372036854775808<=(vals.length:Int) - 1 by omega) (show (vals.length:Int) - 1<9223372036854775808 by omega)]
 refine j4 (m:=vals.length) (by omega) (fun j t df g=>df=[]/\St t [(0,v'),(6,u)]/\∃l:List Int,l.length=vals.length/\(∀x∈l,0<=x/\x<4294967296)/\S.bi cards vals=S.bj cards l j/\Own g 0 u 1 (l.map ci))
  ⟨rfl,by simp[sx,St],vals,rfl,hb,rfl,hu⟩ (by simp[sx]) (by decide) (by rintro j t df g v s (rfl | rfl | rfl | rfl | rfl)<;>simp[sx,St]) ?_ ?_
 ·rintro j t df g hj ⟨rfl,⟨h0,h6,-⟩,l,hll,hbl,hnx,ho⟩ h7
  obtain ⟨x,hx,-,hm⟩:=af (l:=l) (j:=j) (by omega)
  obtain ⟨c,hc,-,hmc⟩:=af (l:=cards) (j:=j) (by omega)
  have hxb:=hbl x hm
  have hlt:j<(l.map ci).length:=by rw[List.length_map];omega
  have hlc:j<cards.length:=by omega
  have hrow:(l.map ci)[j]?=some (ci x):=by rw[List.getElem?_map,hx];rfl
  simp only[sx,SO.run,↓reduceIte,Nat.reduceEqDiff,h6,h7,ho.rows,hlt,hrow,ci,Option.isSome_some,Option.getD_some,an (show -9223372036854775808<=x+1 by omega) (show x+1<9223372036854775808 by omega)]
  refine bp (row:=ci x) (row':=ci (x+1)) ho hrow rfl rfl rfl fun g2 o2 n2 f2=>?_
  rw[<-List.map_set] at o2
  have hlt2:j<((l.set j (x+1)).map ci).length:=by rw[List.length_map,List.length_set];omega
  have hrow2:((l.set j (x+1)).map ci)[j]?=some (ci (x+1)):=by rw[List.getElem?_map,List.getElem?_set_self (by omega)];rfl
  have hlcm:j<(cards.map ci).length:=by rw[List.length_map];exact hlc
  have hcl:(cards.map ci)[j]?=some (ci c):=by rw[List.getElem?_map,hc];rfl
  simp only[sx,sy,SO.run,↓reduceIte,Nat.reduceEqDiff,h0,h6,h7,o2.rows,hlt2,hrow2,(r1 g2.h).ints,hcl,hlcm,ci,Option.isSome_some,Option.getD_some]
  refine aw (fun hq=>?_) (fun hq=>?_)
  ·simp only[sx,sy,SO.run,↓reduceIte,Nat.reduceEqDiff,h6]
   have hq:x+1<c:=by simpa using hq
   have:S.bi cards vals=(l.set j (x+1),true):=by rw[hnx,S.bj,hx,hc];simp[hq]
   rw[this]
   exact ⟨fun _=>True,_,_,rfl,o2.ints (by simp;omega),jo.2 rfl⟩
  ·simp only[sx,SO.run,↓reduceIte,Nat.reduceEqDiff,h6,h7,o2.rows,hlt2,Option.isSome_some,Option.getD_some]
   have hq:¬x+1<c:=by simpa using hq
   refine bp (row:=ci (x+1)) (row':=ci 0) o2 hrow2 rfl rfl rfl fun g3 o3 n3 f3=>?_
   rw[<-List.map_set,List.set_set] at o3
   simp only[sx,sy,↓reduceIte,Nat.reduceEqDiff,h0,h6,h7,St]
   refine ⟨l.set j 0,by simp[hll],fun y hy=>?_,?_,o3⟩
   ·rcases List.mem_or_eq_of_mem_set hy with h | h
    ·exact hbl y h
    ·subst h;decide
   ·rw[hnx,S.bj,hx,hc];simp[hq]
 ·rintro t df g ⟨rfl,⟨h0,h6,-⟩,l,hll,hbl,hnx,ho⟩
  simp only[nQ,sx,sy,SO.run,↓reduceIte,Nat.reduceEqDiff,h6]
  rw[hnx,S.bj]
  exact ⟨fun _=>True,_,_,rfl,ho.ints (by omega),jo.2 rfl⟩
end
end Hx
end
section
namespace Hx
open Go
noncomputable section
def S.aT:List Int->List Int->Int
 | _::cs,v::vs=>v*S.aa cs+S.aT cs vs
 | _,_=>0
def S.bh (cards vals:List Int):Prop:=cards.length=vals.length/\∀(i:Nat) (c v:Int),cards[i]?=some c->vals[i]?=some v->0<=v/\v<c
theorem vV:∀{cards l:List Int} {k:Nat} {v:Int} (x:Int),cards.length=l.length->l[k]?=some v->S.aT cards (l.set k x)=S.aT cards l+(x - v)*S.aa (cards.drop (k+1))
 | [],[],k,v,x,_,h=>by simp at h
 | [],a::l,k,v,x,hl,_=>by simp at hl
 | c::cs,[],k,v,x,hl,_=>by simp at hl
 | c::cs,a::l,0,v,x,hl,h=>by
  injection h with h;subst h
  simp only[List.set_cons_zero,S.aT,List.drop_succ_cons,List.drop_zero]
  rw[Int.sub_mul];omega
 | c::cs,a::l,k+1,v,x,hl,h=>by
  simp only[List.set_cons_succ,S.aT,List.drop_succ_cons]
  rw[vV (cards:=cs) x (by simpa using hl) (by simpa using h),Int.add_assoc]
theorem zD {cards l:List Int}(h:S.bh cards l){k:Nat}{c x:Int}(hc:cards[k]?=some c)(h0:0<=x)(h1:x<c):S.bh cards (l.set k x):=by
 refine ⟨by simpa using h.1,fun i c' v hi hv=>?_⟩
 by_cases e:k=i
 ·subst e
  have hk:k<l.length:=by have:=(List.getElem?_eq_some_iff.1 hc).1;have:=h.1;omega
  rw[List.getElem?_set_self hk] at hv
  injection hv with hv;subst hv
  rw[hc] at hi;injection hi with hi;subst hi
  exact ⟨h0,h1⟩
 ·rw[List.getElem?_set_ne e] at hv
  exact h.2 i c' v hi hv
theorem wY:∀{cards l:List Int},S.bh cards l->0<=S.aT cards l/\S.aT cards l<S.aa cards
 | [],[],_=>by simp[S.aT,S.aa]
 | [],a::l,h=>by have:=h.1;simp at this
 | c::cs,[],h=>by have:=h.1;simp at this
 | c::cs,a::l,h=>by
  have ih:=wY (cards:=cs) (l:=l) ⟨by have:=h.1;simpa using this,fun i c v hc hv=>h.2 (i+1) c v (by simpa using hc) (by simpa using hv)⟩
  have ha:=h.2 0 c a rfl rfl
  simp only[S.aT,bV]
  have m1:=Int.mul_nonneg ha.1 (show 0<=S.aa cs by omega)
  have m2:=Int.mul_le_mul_of_nonneg_right (show a+1<=c by omega) (show 0<=S.aa cs by omega)
  rw[Int.add_mul,Int.one_mul] at m2
  omega
theorem qo {cards:List Int}:∀{k:Nat} {l:List Int},S.bh cards l->k<=l.length->(S.bj cards l k).2=true->S.aT cards (S.bj cards l k).1=S.aT cards l+S.aa (cards.drop k)/\S.bh cards (S.bj cards l k).1
 | 0,l,_,_,h=>by simp[S.bj] at h
 | k+1,l,hco,hk,h=>by
  obtain ⟨v,hv⟩:∃v,l[k]?=some v:=⟨_,List.getElem?_eq_getElem (by omega)⟩
  obtain ⟨c,hc⟩:∃c,cards[k]?=some c:=⟨_,List.getElem?_eq_getElem (by have:=hco.1;omega)⟩
  have hb:=hco.2 k c v hc hv
  simp only[S.bj,hv,hc,Option.getD_some] at h ⊢
  split
  ·rename_i hq
   refine ⟨?_,zD hco hc (by omega) hq⟩
   rw[vV (v+1) hco.1 hv,show v+1 - v=1 by omega,Int.one_mul]
  ·rename_i hq
   rw[if_neg hq] at h
   have hco2:=zD hco hc (show (0:Int)<=0 by omega) (show (0:Int)<c by omega)
   obtain ⟨r1,r2⟩:=qo hco2 (by simp;omega) h
   refine ⟨?_,r2⟩
   rw[r1,vV 0 hco.1 hv]
   have hd:cards.drop k=c::cards.drop (k+1):=by
    obtain ⟨hk2,e⟩:=List.getElem?_eq_some_iff.1 hc
    rw[<-e];exact List.drop_eq_getElem_cons hk2
   have e:c=v+1:=by omega
   rw[hd,bV,e,Int.add_mul,Int.one_mul,Int.sub_mul,Int.zero_mul]
   omega
theorem y8 {cards l:List Int}(h:S.bh cards l)(hn:(S.bi cards l).2=true):S.aT cards (S.bi cards l).1=S.aT cards l+1/\S.bh cards (S.bi cards l).1:=by
 obtain ⟨r1,r2⟩:=qo h (Nat.le_refl _) hn
 refine ⟨?_,r2⟩
 show S.aT cards (S.bj cards l l.length).1=_
 rw[r1,<-h.1,List.drop_length];rfl
end
end Hx
end
