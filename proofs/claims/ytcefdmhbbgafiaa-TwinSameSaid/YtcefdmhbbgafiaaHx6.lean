/- A part of the proof: what the functions of the chapter compute. -/
import Derived.RangeFuncIn
import Derived.Laws.Sem
import Derived.Laws.Tables
import Derived.DeepKeys3
import Derived.AtR
import Derived.Orders
import Derived.Below
import Derived.Laws.Externs
import Derived.KernelRfl
import Derived.Test.YtcefdmhbbgafiaaHx5
set_option linter.all false
set_option maxHeartbeats 8000000
section
namespace Hx
open Go
noncomputable section
theorem AG(n sz id ep i off:Nat)(k:IntKind){j:Nat}(h:j<n):AF n sz (.hptr id ep i off) (.int k (j:Int))=.val (.hptr id ep i (off+j*sz)):=by show aA (Nat.blt j n) (OR.val (.hptr id ep i (off+j*sz))) .fail=_;rw[aa,TE (by simpa using h)]
def u8v(x:UInt8):AV:=.int .u8 (x.toNat:Int)
theorem NA(l:List UInt8)(h:H)(d:Nat):snap h d aD (.agg (l.map u8v))=some (.agg (l.map u8v)):=by
 have:∀l:List UInt8,aK (Hx.snap h d 23) (l.map u8v)=some (l.map u8v):=λl=>by
  induction l with
  |nil=>rfl
  | cons x l ih =>
   simp only[UV,aK,ih,show Hx.snap h d 23 (u8v x)=some (u8v x) from rfl]
 show (match aK (Hx.snap h d 23) (l.map u8v) with|some ys=>some (AV.agg ys)|none=>none)=_;rw[this]
def S.SX(vs:List UInt8)(m:Causal):List Int:=(List.range m.nodes.length).map λj=>if ((vs[j]?.map UInt8.toNat).getD 0:Nat) % 3=0 then (((vs[j]?.map UInt8.toNat).getD 0 / 3:Nat):Int) % ((m.nodes[j]?.map (·.card)).getD 0) else -1
theorem vO{d k:Nat}{g:G}{P:Nat->Prop}{w:AV}{m:Causal}{vs:List UInt8}(hd:0<d)(hv:vs.length=5)(hm:Agg m P k g.h w)(hn:m.nodes.length<=5)(hc:∀x∈m.nodes,0<x.card) :
  ∃r,an C0 d N.R3 [.agg (vs.map u8v),w] g=.val r/\IT 0 (S.SX vs m) r:=by
 obtain⟨v',e,cs,rfl,hcs⟩:=eZ (bz m) (by decide) d hm;obtain⟨a,b,rfl,hR,hN⟩:=aZ.1 hcs;obtain⟨rows,r1,r2,r3,r4⟩:=hN.all;have r1:∀h',ac h' 4 b=some rows:=r1;rw[uq];obtain⟨L,hLd⟩:∃L,L=S.SX vs m:=⟨_,rfl⟩;rw[<-hLd];have Ll:L.length=m.nodes.length:=by rw[hLd];simp[S.SX]
 have Lget:∀{j:Nat},j<m.nodes.length->L.take (j+1)=L.take j++[if ((vs[j]?.map UInt8.toNat).getD 0:Nat) % 3=0 then (((vs[j]?.map UInt8.toNat).getD 0 / 3:Nat):Int) % ((m.nodes[j]?.map (·.card)).getD 0) else -1]:=λ{j} hj=>by rw[U6];congr 1;rw[hLd];simp only[S.SX,Tt,U3 hj,TQ,Option.toList_some]
 refine bg wC (xs:=[.agg (vs.map u8v),.agg [.int .i64 m.grain,a,b]]) (by simp only[aK,e,NA]) (by simp[j7]) (a9 _) (by decide) hd ?_;obtain⟨cu8,hcu⟩:∃c,c=vs.map u8v:=⟨_,rfl⟩;have hcl:cu8.length=5:=by rw[hcu,Tz,hv]
 simp only[j7,sx,sy,SO.run,↓reduceIte,Nat.reduceEqDiff,Nat.reduceAdd,<-hcu];generalize hg0:((G.empty.new (We cu8.length [cu8])).new (We 3 [[AV.int IntKind.i64 m.grain,a,b]]))=g0;have f0:g0.h.get 0=We 5 [cu8]:=by rw[<-hg0,hcl];simp[sx,Q_]
 have f1:g0.h.get 1=We 3 [[.int .i64 m.grain,a,b]]:=by rw[<-hg0];simp[sx]
 have f2:2<=g0.nx:=by rw[<-hg0];simp[sx]
 clear hg0;simp only[nj,sx,SO.run];refine f_ m.nodes.length (by omega) (λj t df g=>df=[]/\St t [(2,.hptr 0 0 0 0),(3,.hptr 1 0 0 0)]/\g.h.get 0=We 5 [cu8]/\g.h.get 1=We 3 [[.int .i64 m.grain,a,b]]/\2<=g.nx/\∃u,tat t 5=u/\Own g 2 u 1 ((L.take j).map ci))
  ⟨rfl,by simp[sx,St],f0,f1,f2,_,rfl,.inl ⟨by simp[sx],rfl⟩⟩ (by simp[sx]) (by decide) (by rintro j t df g v s (rfl|rfl|rfl)<;>simp[sx,St]) ?_ ?_ ?_
 ·rintro j t df g hj ⟨rfl,⟨h2,h3,-⟩,e0,e1,hnx,u,h5,hu⟩ h6;simp only[sx,sy,SO.run,↓reduceIte,Nat.reduceEqDiff,h2,h3,h6,e0,e1,hN.len,St];exact⟨hnx,u,h5,hu⟩
 ·rintro j t df g hj ⟨rfl,⟨h2,h3,-⟩,e0,e1,hnx,u,h5,hu⟩ h6;obtain⟨x,hx,htk,hm⟩:=af hj;obtain⟨row,z1,z2⟩:=r3 j x hx;obtain⟨fa,fb,fc,rfl,-⟩:=dG.1 z2;have hlt:j<rows.length:=by omega
  have hry:=r4 (by omega);have hj5:j<5:=by omega
  obtain⟨y,hy⟩:∃y,vs[j]?=some y:=⟨_,Tn (by omega)⟩;have hcy:cu8[j]?=some (.int .u8 (y.toNat:Int)):=by rw[hcu,Tt,hy];rfl
  have hy8:y.toNat<256:=y.toNat_lt;have hL:=Lget hj;rw[hy,hx]at hL;simp only[TQ,Tq]at hL;have hcx:=hc x hm;simp only[sx,sy,SO.run,↓reduceIte,Nat.reduceEqDiff,h2,h6,e0,AG 5 1 _ _ _ _ _ hj5,Nat.mul_one,hcy,dc .u8 (show (0:Int)<=(y.toNat:Int) by omega) (show (0:Int)<3 by decide)];have w8:IntKind.wrap .u8 ((y.toNat:Int) / 3)=(y.toNat:Int) / 3:=NX (by omega) (by omega);refine aR (λhb=>?_) (λhb=>?_)
  ·have hz:y.toNat % 3=0:=by simp at hb;omega
   rw[TE hz]at hL;simp only[sx,sy,SO.run,↓reduceIte,Nat.reduceEqDiff,h2,h3,h5,h6,e0,e1,AG 5 1 _ _ _ _ _ hj5,Nat.mul_one,hcy,wj .u8 (show (0:Int)<=(y.toNat:Int) by omega) (show (0:Int)<3 by decide),w8,au (show -9223372036854775808<=(y.toNat:Int) / 3 by omega) (show (y.toNat:Int) / 3<9223372036854775808 by omega),r1,hlt,z1,hry,Tx,Tq,dc .i64 (show 0<=(y.toNat:Int) / 3 by omega) hcx,gt];refine aT (new:=[ci ((y.toNat:Int) / 3 % x.card)]) (hu.step (Fr.new _ _)) (by simp[sx,sy,ci]) (by simp[Ll];omega) (by simp[aQ,Ll];omega) λv2 g2 hv2 n2 f2 _ l2=>?_;simp only[sx,sy,SO.run,↓reduceIte,Nat.reduceEqDiff,h2,h3,h6,St];refine⟨?_,?_,?_,_,rfl,?_⟩
   ·rw[f2 0 (by simp) (λe=>by have:=(hu.lt e).1;omega),G.new_h,ah _ _ _ (by omega),e0]
   ·rw[f2 1 (by simp;omega) (λe=>by have:=(hu.lt e).1;omega),G.new_h,ah _ _ _ (by omega),e1]
   ·simp at n2;omega
   ·rw[hL];simpa [ci] using hv2
  ·have hz:¬y.toNat % 3=0:=by simp at hb;omega
   rw[TF hz]at hL;simp only[sx,sy,SO.run,↓reduceIte,Nat.reduceEqDiff,h5,gt];refine aT (new:=[ci (-1)]) (hu.step (Fr.new _ _)) (by simp[sx,sy,ci]) (by simp[Ll];omega) (by simp[aQ,Ll];omega) λv2 g2 hv2 n2 f2 _ l2=>?_;simp only[sx,sy,SO.run,↓reduceIte,Nat.reduceEqDiff,h2,h3,h6,St];refine⟨?_,?_,?_,_,rfl,?_⟩
   ·rw[f2 0 (by simp) (λe=>by have:=(hu.lt e).1;omega),G.new_h,ah _ _ _ (by omega),e0]
   ·rw[f2 1 (by simp;omega) (λe=>by have:=(hu.lt e).1;omega),G.new_h,ah _ _ _ (by omega),e1]
   ·simp at n2;omega
   ·rw[hL];simpa [ci] using hv2
 ·rintro t df g ⟨rfl,⟨h2,h3,-⟩,e0,e1,hnx,u,h5,hu⟩;rw[Ug (by simp[Ll])]at hu;simp only[mc,sx,SO.run,↓reduceIte,h5];exact⟨_,hu.ints (by simp[Ll];omega)⟩
theorem N8(z:AV)(k k':IntKind)(x y:Int)(g:G):BA 1 2 [z] [0,1] [.int k x,.int k' y] g=.upd (.hsl g.nx 0 0 2 none) (g.new (We 1 [[.int k x],[.int k' y]])):=rfl
theorem JI(z:AV)(k k' k2:IntKind)(x y w:Int)(g:G):BA 1 3 [z] [0,1,2] [.int k x,.int k' y,.int k2 w] g=.upd (.hsl g.nx 0 0 3 none) (g.new (We 1 [[.int k x],[.int k' y],[.int k2 w]])):=rfl
def S.Sf(gr card n:Int):List Int :=
 if card=2 then [1+n % (gr - 1),gr - (1+n % (gr - 1))]
 else [1+n % (gr - 1),n / 12 % (gr - (1+n % (gr - 1))+1),gr - (1+n % (gr - 1)) - n / 12 % (gr - (1+n % (gr - 1))+1)]
theorem Bs{d:Nat}{g:G}{gr card n:Int}(hd:0<d)(h1:2<=gr)(h2:gr<=12)(h3:0<=n)(h4:n<256) :
  ∃r,an C0 d N.RA [.int .i64 gr,.int .i64 card,.int .u8 n] g=.val r/\IT 0 (S.Sf gr card n) r:=by
 rw[ve];refine bg xP (xs:=[.int .i64 gr,.int .i64 card,.int .u8 n]) (by simp only[aK,fg 0]) (by simp[lV]) (a9 _) (by decide) hd ?_;have b1:=Vh n (show gr - 1≠0 by omega);have b2:=UY n (show 0<gr - 1 by omega);have b3:=Vh (n / 12) (show gr - (1+n % (gr - 1))+1≠0 by omega);have b4:=UY (n / 12) (show 0<gr - (1+n % (gr - 1))+1 by omega);generalize hA:n % (gr - 1)=A at *;generalize hB:n / 12 % (gr - (1+A)+1)=B at *;simp only[lV,sx,SO.run,↓reduceIte,Nat.reduceEqDiff,
  au (show -9223372036854775808<=n by omega) (show n<9223372036854775808 by omega),
  au (show -9223372036854775808<=gr - 1 by omega) (show gr - 1<9223372036854775808 by omega),
  dc .i64 h3 (show 0<gr - 1 by omega),hA,
  au (show -9223372036854775808<=1+A by omega) (show 1+A<9223372036854775808 by omega)]
 refine aR (λhb=>?_) (λhb=>?_)
 ·have hc:card=2:=by simpa using hb
  simp only[sx,SO.run,↓reduceIte,Nat.reduceEqDiff,
   au (show -9223372036854775808<=gr - (1+A) by omega) (show gr - (1+A)<9223372036854775808 by omega)]
  simp only[N8,sx,SO.run,↓reduceIte];have ho:Own ((G.empty).new (We 1 [[.int .i64 (1+A)],[.int .i64 (gr - (1+A))]])) 0 (.hsl G.empty.nx 0 0 2 none) 1 ([1+A,gr - (1+A)].map ci):=.inr ⟨_,0,false,Ue _,by simp,rfl,by simp[aU,ci]⟩;rw[S.Sf,TE hc,hA];exact⟨_,ho.ints (by simp)⟩
 ·have hc:¬card=2:=by simpa using hb
  simp only[sx,SO.run,↓reduceIte,Nat.reduceEqDiff,
   wj .u8 h3 (show (0:Int)<12 by decide),NX (show 0<=n / 12 by omega) (show n / 12<256 by omega),
   au (show -9223372036854775808<=n / 12 by omega) (show n / 12<9223372036854775808 by omega),
   au (show -9223372036854775808<=gr - (1+A) by omega) (show gr - (1+A)<9223372036854775808 by omega),
   au (show -9223372036854775808<=gr - (1+A)+1 by omega) (show gr - (1+A)+1<9223372036854775808 by omega),
   dc .i64 (show 0<=n / 12 by omega) (show 0<gr - (1+A)+1 by omega),hB,
   au (show -9223372036854775808<=gr - (1+A) - B by omega) (show gr - (1+A) - B<9223372036854775808 by omega)]
  simp only[JI,sx,SO.run,↓reduceIte];have ho:Own ((G.empty).new (We 1 [[.int .i64 (1+A)],[.int .i64 B],[.int .i64 (gr - (1+A) - B)]])) 0 (.hsl G.empty.nx 0 0 3 none) 1 ([1+A,B,gr - (1+A) - B].map ci):=.inr ⟨_,0,false,Ue _,by simp,rfl,by simp[aU,ci]⟩;rw[S.Sf,TF hc,hA,hB];exact⟨_,ho.ints (by simp)⟩
theorem ko(id ep i off:Nat):MQ (.hptr id ep i off)=.val (.hptr id ep i off):=rfl
theorem IW{d:Nat}{g:G}{p:Nat}{l:AV}{us:List UInt8}{c:Int}{K:AV->G->Prop}{D:ADf->Prop}(hg:g.h.get p=We 2 [[l,.int .i64 c]])(hl:SlR NoP 0 .nil us l)(h0:0<=c)(h1:c<4611686018427387904)
  (kk:∀(z c':Int) (g':G),0<=z->z<256->0<=c'->c'<=c+1->g'.h.get p=We 2 [[l,.int .i64 c']]->g'.nx=g.nx->(∀i,i≠p->g'.h.get i=g.h.get i)->(∀i∈g'.lg,i=p\/i∈g.lg)->K (.int .u8 z) g') :
  (an C0 d N.Rz [.hptr p 0 0 0] g).sat K g D:=by
 obtain⟨rows,r1,r2,r3,r4⟩:=hl.all;have r1:∀h',ac h' 1 l=some rows:=r1;rw[pC];refine mD rO (by simp[fH]) ?_;simp only[fH,sx,sy,SO.run,↓reduceIte,Nat.reduceEqDiff,hg,hl.len,ko];refine aR (λhb=>?_) (λhb=>?_)
 ·simp only[sx,SO.run,↓reduceIte];exact kk 0 c g (by decide) (by decide) h0 (by omega) hg rfl (λ_ _=>rfl) (λi hi=>.inr hi)
 ·have hp:0<us.length:=by simp at hb;cases us with|nil=>simp at hb|cons a b=>simp
  have hm1:=Vh (c+1) (show (us.length:Int)≠0 by omega);have hm2:=UY (c+1) (show 0<(us.length:Int) by omega);obtain⟨j,hj⟩:=Ty hm1;have hjl:j<us.length:=by omega
  obtain⟨y,hy⟩:∃y,us[j]?=some y:=⟨_,Tn hjl⟩;obtain⟨row,z1,z2⟩:=r3 j y hy;rw[fP.1 z2]at z1;have hy8:y.toNat<256:=y.toNat_lt;have hlt:j<rows.length:=by omega
  simp only[sx,sy,SO.run,↓reduceIte,Nat.reduceEqDiff,Nat.reduceAdd,Tp,hg,ko,hl.len,dc .i64 (show 0<=c+1 by omega) (show 0<(us.length:Int) by omega),hj,r1,hlt,z1,Tx,Tq,au (show -9223372036854775808<=c+1 by omega) (show c+1<9223372036854775808 by omega)];refine kk _ (c+1) _ (by omega) (by omega) (by omega) (by omega) (by simp[Q_]) (by simp) (λi hi=>by simp[Q_];intro e;exact absurd e hi) (λi hi=>by simpa using hi)
abbrev GN:Type:=List UInt8×UInt16×List UInt8
def S.ST(us:List UInt8):List Int:=(us.take 5).map λu=>1+(u.toNat:Int) % 4
theorem Nk{P:Nat->Prop}{k:Nat}{h:H}{x:UInt16}{cs:List AV}:Rp.rp P k h x cs↔cs=[.int .u16 (x.toNat:Int)]:=by simp[Rp.rp]
theorem ug{P:Nat->Prop}{k:Nat}{h:H}{x:GN}{cs:List AV}:Rp.rp P k h x cs↔∃a b,cs=[a,.int .u16 (x.2.1.toNat:Int),b]/\SlR P k h x.1 a/\SlR P k h x.2.2 b:=by
 constructor
 ·rintro⟨c1,c2,rfl,⟨a,rfl,h1⟩,c3,c4,rfl,h2,⟨b,rfl,h3⟩⟩;rw[Nk.1 h2];exact⟨a,b,rfl,h1,h3⟩
 ·rintro⟨a,b,rfl,h1,h2⟩;exact⟨[a],[_,b],rfl,⟨a,rfl,h1⟩,[_],[b],rfl,Nk.2 rfl,⟨b,rfl,h2⟩⟩
theorem JT{d k:Nat}{g:G}{P:Nat->Prop}{v:AV}{x:GN}(hd:0<d)(hm:Agg x P k g.h v) :
  ∃r,an C0 d N.RZ [v] g=.val r/\IT 0 (S.ST x.1) r:=by
 obtain⟨v',e,cs,rfl,hc⟩:=eZ (bz x) (by decide) d hm;obtain⟨a,b,rfl,hA,hB⟩:=ug.1 hc;obtain⟨rows,r1,r2,r3,r4⟩:=hA.all;have r1:∀h',ac h' 1 a=some rows:=r1;rw[qk];refine bg sF (xs:=[.agg [a,.int .u16 (x.2.1.toNat:Int),b]]) (by simp only[aK,e]) (by simp[gn]) (a9 _) (by decide) hd ?_;have hL:(S.ST x.1).length=min x.1.length 5:=by simp[S.ST];omega
 simp only[gn,jH,sx,sy,SO.run,↓reduceIte,Nat.reduceAdd];refine f_ (min x.1.length 5) (by omega) (λj t df g=>df=[]/\tat t 1=.hptr 0 0 0 0/\g.h.get 0=We 3 [[a,.int .u16 (x.2.1.toNat:Int),b]]/\1<=g.nx/\∃u,tat t 3=u/\Own g 1 u 1 (((S.ST x.1).take j).map ci))
  ⟨rfl,by simp[sx],by simp[sx],by simp[sx],_,rfl,.inl ⟨by simp[sx],rfl⟩⟩ (by simp[sx]) (by decide)
  (by rintro j t df g v s (rfl|rfl|rfl)<;>simp[sx]) ?_ ?_ ?_
 ·rintro j t df g hj ⟨rfl,h1,hg,hnx,u,h3,hu⟩ h4
  by_cases hlt:(j:Int)<(x.1.length:Int)
  ·have:decide ((j:Int)<((min x.1.length 5:Nat):Int))=decide ((j:Int)<5):=by congr 1;apply propext;omega
   simp only[sx,sy,SO.run,↓reduceIte,Nat.reduceEqDiff,h1,h4,hg,hA.len,hlt,decide_true,this];exact⟨hnx,u,h3,hu⟩
  ·have:decide ((j:Int)<((min x.1.length 5:Nat):Int))=false:=UU (by omega);simp only[sx,sy,SO.run,↓reduceIte,Nat.reduceEqDiff,h1,h4,hg,hA.len,hlt,decide_false,this];exact⟨hnx,u,h3,hu⟩
 ·rintro j t df g hj ⟨rfl,h1,hg,hnx,u,h3,hu⟩ h4;obtain⟨y,hy,-,-⟩:=af (l:=x.1) (j:=j) (by omega);obtain⟨z,hz,htk,-⟩:=af (l:=S.ST x.1) (j:=j) (by omega);have hzy:z=1+(y.toNat:Int) % 4:=by
   have:(S.ST x.1)[j]?=some (1+(y.toNat:Int) % 4):=by simp[S.ST,show j<5 by omega,hy]
   rw[this]at hz;injection hz with hz;exact hz.symm
  obtain⟨row,z1,z2⟩:=r3 j y hy;rw[fP.1 z2]at z1;have hlt:j<rows.length:=by omega
  have hy8:y.toNat<256:=y.toNat_lt;have m1:0<=(y.toNat:Int) % 4:=by omega
  have m2:(y.toNat:Int) % 4<4:=by omega
  simp only[sx,sy,SO.run,↓reduceIte,Nat.reduceEqDiff,h1,h3,h4,hg,r1,hlt,z1,Tx,Tq,dc .u8 (show (0:Int)<=(y.toNat:Int) by omega) (show (0:Int)<4 by decide),
   au (show -9223372036854775808<=(y.toNat:Int) % 4 by omega) (show (y.toNat:Int) % 4<9223372036854775808 by omega),
   au (show -9223372036854775808<=1+(y.toNat:Int) % 4 by omega) (show 1+(y.toNat:Int) % 4<9223372036854775808 by omega)]
  refine aT (new:=[ci (1+(y.toNat:Int) % 4)]) (hu.step (Fr.new _ _)) (by simp[sx,sy,ci]) (by simp) (by simp[aQ];omega) λv2 g2 hv2 n2 f2 _ l2=>?_;simp only[sx,sy,SO.run,↓reduceIte,Nat.reduceEqDiff,h1,h4];refine⟨?_,?_,_,rfl,?_⟩
  ·rw[f2 0 (by simp) (λe=>by have:=(hu.lt e).1;omega),G.new_h,ah _ _ _ (by omega),hg]
  ·simp at n2;omega
  ·rw[htk,hzy];simpa [ci] using hv2
 ·rintro t df g ⟨rfl,h1,hg,hnx,u,h3,hu⟩;rw[Ug (by omega)]at hu;simp only[jg,sx,SO.run,↓reduceIte,h3];exact⟨_,hu.ints (by omega)⟩
theorem HU{g:G}{b sz:Nat}{u:AV}{rows:List (List AV)}(hu:Own g b u sz rows){n:Nat}(hn:n<=rows.length) :
  ∃y,Ei sz u none (some (.int .i64 (n:Int))) g=.val y/\ac g.h sz y=some (rows.take n):=by
 rcases hu with⟨rfl,rfl⟩|⟨id,ep,lo,h1,h2,rfl,h3⟩
 ·have:n=0:=by simpa using hn
  subst this;exact⟨.nils,rfl,rfl⟩
 ·simp only[Ei,nR,h3,Uq,Uq,Up,ax,T6,aa,T8,Tp,if_true,bF,Vn,Vw];simp only[dA];rw[show aA (n.ble rows.length) (some n) none=some n from by rw[aa,TE (by simpa using hn)]];dsimp only
  by_cases h0:rows=[]
  ·subst h0;have:n=0:=by simpa using hn
   subst this;cases lo
   ·exact⟨_,rfl,rfl⟩
   ·exact⟨_,rfl,qN _ _ _ _⟩
  ·have hb:rows.length.beq 0=false:=by cases rows with|nil=>exact absurd rfl h0|cons a l=>rfl
   rw[hb];refine⟨_,rfl,?_⟩;rw[kG,h3,eT,TE (by omega),VD]
theorem HV{g:G}{b sz:Nat}{u:AV}{rows:List (List AV)}(hu:Own g b u sz rows){n:Nat}(hn:n<=rows.length) :
  ∃y,Ei sz u (some (.int .i64 (n:Int))) none g=.val y/\ac g.h sz y=some (rows.drop n):=by
 rcases hu with⟨rfl,rfl⟩|⟨id,ep,lo,h1,h2,rfl,h3⟩
 ·have:n=0:=by simpa using hn
  subst this;exact⟨.nils,rfl,rfl⟩
 ·simp only[Ei,nR,h3,Uq,Uq,Up,ax,T6,aa,T8,Tp,if_true,bF,Vn,Vw];simp only[dA];rw[show aA (n.ble rows.length) (some n) none=some n from by rw[aa,TE (by simpa using hn)]];dsimp only
  by_cases h0:rows.length=n
  ·subst h0;rw[TE (Uq _),List.drop_length];cases lo
   ·exact⟨_,rfl,rfl⟩
   ·exact⟨_,rfl,qN _ _ _ _⟩
  ·rw[TF (λe=>h0 (UX e))];refine⟨_,rfl,?_⟩;rw[kG,h3,eT,TE (by omega),Ug (by simp)]
def S.SK(os:List UInt8)(k:Nat):Nat:=if k<os.length then ((os[k]?.map UInt8.toNat).getD 0) % (k+1) else 0
def S.RD(os:List UInt8):Nat->List Int
 |0=>[]
 |k+1=>(S.RD os k).take (S.SK os k)++(k:Int)::(S.RD os k).drop (S.SK os k)
theorem nK(os:List UInt8):∀k,(S.RD os k).length=k
 |0=>rfl
 |k+1=>by simp only[S.RD,TP,Ud,Un,VT,nK os k];omega
theorem CV(os:List UInt8):∀k,(S.RD os k).Perm ((List.range k).map λi:Nat=>(i:Int))
 |0=>.refl _
 | k+1=>by rw[Uw,Ub,S.RD];refine List.perm_middle.trans ?_;rw[Us];exact ((CV os k).cons _).trans (List.perm_append_comm (l₁:=[(k:Int)]))
theorem A1{d k:Nat}{g:G}{P:Nat->Prop}{v:AV}{x:GN}(hd:0<d)(hm:Agg x P k g.h v) :
  ∃r,an C0 d N.Rv [v] g=.val r/\IT 0 (S.RD x.2.2 (min x.1.length 5)) r:=by
 obtain⟨v',e,cs,rfl,hc⟩:=eZ (bz x) (by decide) d hm;obtain⟨a,b,rfl,hA,hB⟩:=ug.1 hc;have hms:∀g:G,Agg x NoP (max k d) g.h (.agg [a,.int .u16 (x.2.1.toNat:Int),b]):=λg=>⟨_,rfl,ug.2 ⟨a,b,rfl,hA.tree (Tp _),hB.tree (Tp _)⟩⟩;obtain⟨rows,r1,r2,r3,r4⟩:=hB.all;have r1:∀h',ac h' 1 b=some rows:=r1;rw[lO];refine bg m7 (xs:=[.agg [a,.int .u16 (x.2.1.toNat:Int),b]]) (by simp only[aK,e]) (by simp[dk]) (a9 _) (by decide) hd ?_;have hL:(S.ST x.1).length=min x.1.length 5:=by simp[S.ST];omega
 simp only[dk,fk,sx,sy,SO.run,↓reduceIte,Nat.reduceAdd];refine f_ (min x.1.length 5) (by omega) (λj t df g=>df=[]/\tat t 1=.hptr 0 0 0 0/\g.h.get 0=We 3 [[a,.int .u16 (x.2.1.toNat:Int),b]]/\1<=g.nx/\∃u,tat t 3=u/\Own g 1 u 1 ((S.RD x.2.2 j).map ci))
  ⟨rfl,by simp[sx],by simp[sx],by simp[sx],_,rfl,.inl ⟨by simp[sx],rfl⟩⟩ (by simp[sx]) (by decide)
  (by rintro j t df g v s (rfl|rfl|rfl)<;>simp[sx]) ?_ ?_ ?_
 ·rintro j t df g hj ⟨rfl,h1,hg,hnx,u,h3,hu⟩ h4;simp only[sx,sy,SO.run,↓reduceIte,Nat.reduceEqDiff,Nat.reduceAdd,Nat.reduceLeDiff,h1,h4,hg];refine bH (JT (TG d) (hms _)) λr hr=>?_;simp only[sx,sy,SO.run,↓reduceIte,Nat.reduceEqDiff,h1,h4,hg,(hr.sl .nil).len,hL];exact⟨hnx,u,h3,hu⟩
 ·rintro j t df g hj ⟨rfl,h1,hg,hnx,u,h3,hu⟩ h4;have hpl:((S.RD x.2.2 j).map ci).length=j:=by rw[Tz,nK]
  have hle:S.SK x.2.2 j<=j:=by
   unfold S.SK;split
   ·have:=U4 (((x.2.2)[j]?.map UInt8.toNat).getD 0) (show 0<j+1 by omega);omega
   ·omega
  have key:∀(t:T) (Q:QT),tat t 1=.hptr 0 0 0 0->tat t 3=u->tat t 4=.int .i64 (j:Int)->tat t 5=.int .i64 (S.SK x.2.2 j:Int) ->
    (∀(t':T) (g':G),tat t' 1=.hptr 0 0 0 0->tat t' 4=.int .i64 (j:Int)->g'.h.get 0=We 3 [[a,.int .u16 (x.2.1.toNat:Int),b]]->1<=g'.nx->(∃u,tat t' 3=u/\Own g' 1 u 1 ((S.RD x.2.2 (j+1)).map ci))->Q .norm t' [] g') ->
    wp C0 (d+1) none cI Q t [] g:=by
   intro t Q h1 h3 h4 h5 kk;obtain⟨y1,s1,w1⟩:=HU hu (n:=S.SK x.2.2 j) (by omega);simp only[cI,sx,SO.run,↓reduceIte,Nat.reduceEqDiff,h3,h5,List.head?_nil,List.head?_cons,s1];refine aT (rows:=[]) (b:=1) (.inl ⟨rfl,rfl⟩) w1 hnx (by simp[aQ];omega) λv1 g1 hv1 n1 f1 vid1 _=>?_;simp only[sx,sy,SO.run,↓reduceIte,Nat.reduceEqDiff,h4];refine aT (new:=[ci (j:Int)]) (hv1.step (Fr.new _ _)) (by simp[sx,sy,ci]) (by simp) (by simp[aQ,nK];omega) λv2 g2 hv2 n2 f2 vid2 _=>?_;have hu1:Own g1 1 u 1 ((S.RD x.2.2 j).map ci):=hu.fr n1 λi hi=>f1 i (hu.lt hi).2 (by simp[vid]);have hnv:∀i,i<g.nx->vid v1≠some i:=λi hi e=>by
    rcases vid1 with h|⟨i',h,hi'⟩
    ·rw[h]at e;cases e
    ·rw[h]at e;injection e with e;omega
   have hu2:Own g2 1 u 1 ((S.RD x.2.2 j).map ci):=hu1.fr (by simp at n2;omega) λi hi=>by have hlt:=(hu.lt hi).2;rw[f2 i (by simp;omega) (hnv i hlt),G.new_h,ah _ _ _ (by omega)]
   obtain⟨y2,s2,w2⟩:=HV hu2 (n:=S.SK x.2.2 j) (by omega);simp only[sx,SO.run,↓reduceIte,Nat.reduceEqDiff,h3,h5,List.head?_nil,List.head?_cons,s2];refine aT hv2 w2 (by simp at n2;omega) (by simp[aQ,nK];omega) λv3 g3 hv3 n3 f3 _ _=>?_;simp only[sx,SO.run,↓reduceIte];refine kk _ _ (by simp[sx,h1]) (by simp[sx,h4]) ?_ (by simp at n2;omega) ⟨_,rfl,?_⟩
   ·rw[f3 0 (by simp at n2;omega) (λe=>by have:=(hv2.lt e).1;omega),f2 0 (by simp) (hnv 0 (by omega)),G.new_h,ah _ _ _ (by omega),f1 0 (by omega) (by simp[vid]),hg]
   ·simp only[sx,↓reduceIte];simpa [S.RD,List.map_take,List.map_drop] using hv3
  simp only[sx,sy,SO.run,↓reduceIte,Nat.reduceEqDiff,h1,h4,hg,hB.len];refine aR (λhb=>?_) (λhb=>?_)
  ·have hjo:j<x.2.2.length:=by simp at hb;omega
   obtain⟨y,hy⟩:∃y,x.2.2[j]?=some y:=⟨_,Tn hjo⟩;obtain⟨row,z1,z2⟩:=r3 j y hy;rw[fP.1 z2]at z1;have hy8:y.toNat<256:=y.toNat_lt;have hlt:j<rows.length:=by omega
   have hat:((S.SK x.2.2 j:Nat):Int)=(y.toNat:Int) % ((j:Int)+1):=by unfold S.SK;rw[TE hjo,hy];simp
   simp only[sx,sy,SO.run,↓reduceIte,Nat.reduceEqDiff,h1,h4,hg,r1,hlt,z1,Tx,Tq,
    au (show -9223372036854775808<=(y.toNat:Int) by omega) (show (y.toNat:Int)<9223372036854775808 by omega),
    au (show -9223372036854775808<=(j:Int)+1 by omega) (show (j:Int)+1<9223372036854775808 by omega),
    dc .i64 (show (0:Int)<=(y.toNat:Int) by omega) (show 0<(j:Int)+1 by omega)]
   refine key _ _ (by simp[sx,h1]) (by simp[sx,h3]) (by simp[sx,h4]) (by simp[sx,hat]) λt' g' e1 e4 e0 en eu=>?_;simp only[sy,e1,e4,e0];exact⟨en,eu⟩
  ·have hat:S.SK x.2.2 j=0:=by unfold S.SK;rw[TF];simp at hb;omega
   simp only[sx];refine key _ _ (by simp[sx,h1]) (by simp[sx,h3]) (by simp[sx,h4]) (by simp[sx,hat]) λt' g' e1 e4 e0 en eu=>?_;simp only[sy,e1,e4,e0];exact⟨en,eu⟩
 ·rintro t df g ⟨rfl,h1,hg,hnx,u,h3,hu⟩;simp only[eQ,sx,SO.run,↓reduceIte,h3];exact⟨_,hu.ints (by rw[nK];omega)⟩
def S.Sn(cards:List Int):List Int->Nat->List Int×Bool
 |vals,0=>(vals,false)
 |vals,k+1=>if (vals[k]?.getD 0)+1<(cards[k]?.getD 0) then (vals.set k ((vals[k]?.getD 0)+1),true) else S.Sn cards (vals.set k 0) k
def S.Sv(cards vals:List Int):List Int×Bool:=S.Sn cards vals vals.length
theorem Nc{d k k2:Nat}{g:G}{P P2:Nat->Prop}{v w:AV}{cards vals:List Int}(hd:0<d)(hv:SlR P k g.h cards v)(hw:SlR P2 k2 g.h vals w)(hl:cards.length=vals.length)(hn:vals.length<=64)
  (hb:∀x∈vals,0<=x/\x<4294967296) :
  ∃r,an C0 d N.R1 [v,w] g=.val r/\rK (One (S.Sv cards vals).1) (One (S.Sv cards vals).2) NoP 0 .nil r:=by
 obtain⟨v',e,r1⟩:=cX hv d;obtain⟨w',e2,r2⟩:=cX hw d;rw[yW];refine bg BO (xs:=[v',w']) (by simp only[aK,e,e2]) (by simp[qA]) (cO (m:=1) (a9 _) (a9 _) (by decide) (by decide)) (by decide) hd ?_;simp only[qA,sx,SO.run,↓reduceIte,Nat.reduceEqDiff];refine aT (rows:=[]) (b:=0) (new:=vals.map ci) (.inl ⟨rfl,rfl⟩) (r2 _).ints (by simp) (by simp[aQ];omega) λu g1 hu n1 f1 _ _=>?_;simp only[TL]at hu;have ul:∀g,dm .slice u g=.val (.int .i64 (vals.length:Int)):=λg=>by rw[bQ hu.rows,Tz]
 simp only[sx,SO.run,↓reduceIte,ul,au (show -9223372036854775808<=(vals.length:Int) - 1 by omega) (show (vals.length:Int) - 1<9223372036854775808 by omega)];refine Bu (m:=vals.length) (by omega) (λj t df g=>df=[]/\St t [(0,v'),(6,u)]/\∃l:List Int,l.length=vals.length/\(∀x∈l,0<=x/\x<4294967296)/\S.Sv cards vals=S.Sn cards l j/\Own g 0 u 1 (l.map ci))
  ⟨rfl,by simp[sx,St],vals,rfl,hb,rfl,hu⟩ (by simp[sx]) (by decide) (by rintro j t df g v s (rfl|rfl|rfl|rfl|rfl)<;>simp[sx,St]) ?_ ?_
 ·rintro j t df g hj ⟨rfl,⟨h0,h6,-⟩,l,hll,hbl,hnx,ho⟩ h7;obtain⟨x,hx,-,hm⟩:=af (l:=l) (j:=j) (by omega);obtain⟨c,hc,-,hmc⟩:=af (l:=cards) (j:=j) (by omega);have hxb:=hbl x hm;have hlt:j<(l.map ci).length:=by rw[Tz];omega
  have hlc:j<cards.length:=by omega
  have hrow:(l.map ci)[j]?=some (ci x):=by rw[Tt,hx];rfl
  simp only[sx,SO.run,↓reduceIte,Nat.reduceEqDiff,h6,h7,ho.rows,hlt,hrow,ci,Tx,Tq,au (show -9223372036854775808<=x+1 by omega) (show x+1<9223372036854775808 by omega)];refine bw (row:=ci x) (row':=ci (x+1)) ho hrow rfl rfl rfl λg2 o2 n2 f2=>?_;rw[<-UJ]at o2;have hlt2:j<((l.set j (x+1)).map ci).length:=by rw[Tz,List.length_set];omega
  have hrow2:((l.set j (x+1)).map ci)[j]?=some (ci (x+1)):=by rw[Tt,Ux (by omega)];rfl
  have hlcm:j<(cards.map ci).length:=by rw[Tz];exact hlc
  have hcl:(cards.map ci)[j]?=some (ci c):=by rw[Tt,hc];rfl
  simp only[sx,sy,SO.run,↓reduceIte,Nat.reduceEqDiff,h0,h6,h7,o2.rows,hlt2,hrow2,(r1 g2.h).ints,hcl,hlcm,ci,Tx,Tq];refine aR (λhq=>?_) (λhq=>?_)
  ·simp only[sx,sy,SO.run,↓reduceIte,Nat.reduceEqDiff,h6];have hq:x+1<c:=by simpa using hq
   have:S.Sv cards vals=(l.set j (x+1),true):=by rw[hnx,S.Sn,hx,hc];simp[hq]
   rw[this];exact⟨λ_=>True,_,_,rfl,o2.ints (by simp;omega),kT.2 rfl⟩
  ·simp only[sx,SO.run,↓reduceIte,Nat.reduceEqDiff,h6,h7,o2.rows,hlt2,Tx,Tq];have hq:¬x+1<c:=by simpa using hq
   refine bw (row:=ci (x+1)) (row':=ci 0) o2 hrow2 rfl rfl rfl λg3 o3 n3 f3=>?_;rw[<-UJ,List.set_set]at o3;simp only[sx,sy,↓reduceIte,Nat.reduceEqDiff,h0,h6,h7,St];refine⟨l.set j 0,by simp[hll],λy hy=>?_,?_,o3⟩
   ·rcases List.mem_or_eq_of_mem_set hy with h|h
    ·exact hbl y h
    ·subst h;decide
   ·rw[hnx,S.Sn,hx,hc];simp[hq]
 ·rintro t df g ⟨rfl,⟨h0,h6,-⟩,l,hll,hbl,hnx,ho⟩;simp only[ri,sx,sy,SO.run,↓reduceIte,Nat.reduceEqDiff,h6];rw[hnx,S.Sn];exact⟨λ_=>True,_,_,rfl,ho.ints (by omega),kT.2 rfl⟩
def S.RT:List Int->List Int->Int
 |_::cs,v::vs=>v*S.Q5 cs+S.RT cs vs
 |_,_=>0
def S.Sm(cards vals:List Int):Prop:=cards.length=vals.length/\∀(i:Nat) (c v:Int),cards[i]?=some c->vals[i]?=some v->0<=v/\v<c
theorem A7:∀{cards l:List Int} {k:Nat} {v:Int} (x:Int),cards.length=l.length->l[k]?=some v->S.RT cards (l.set k x)=S.RT cards l+(x - v)*S.Q5 (cards.drop (k+1))
 |[],[],k,v,x,_,h=>by simp at h
 |[],a::l,k,v,x,hl,_=>by simp at hl
 |c::cs,[],k,v,x,hl,_=>by simp at hl
 | c::cs,a::l,0,v,x,hl,h=>by injection h with h;subst h;simp only[Va,S.RT,VQ,VD];rw[Int.sub_mul];omega
 | c::cs,a::l,k+1,v,x,hl,h=>by simp only[VY,S.RT,VQ];rw[A7 (cards:=cs) x (by simpa using hl) (by simpa using h),Int.add_assoc]
theorem xK{cards l:List Int}(h:S.Sm cards l){k:Nat}{c x:Int}(hc:cards[k]?=some c)(h0:0<=x)(h1:x<c):S.Sm cards (l.set k x):=by
 refine⟨by simpa using h.1,λi c' v hi hv=>?_⟩
 by_cases e:k=i
 ·subst e;have hk:k<l.length:=by have:=(Tu.1 hc).1;have:=h.1;omega
  rw[Ux hk]at hv;injection hv with hv;subst hv;rw[hc]at hi;injection hi with hi;subst hi;exact⟨h0,h1⟩
 ·rw[U0 e]at hv;exact h.2 i c' v hi hv
theorem vV:∀{cards l:List Int},S.Sm cards l->0<=S.RT cards l/\S.RT cards l<S.Q5 cards
 |[],[],_=>by simp[S.RT,S.Q5]
 |[],a::l,h=>by have:=h.1;simp at this
 |c::cs,[],h=>by have:=h.1;simp at this
 | c::cs,a::l,h=>by have ih:=vV (cards:=cs) (l:=l) ⟨by have:=h.1;simpa using this,λi c v hc hv=>h.2 (i+1) c v (by simpa using hc) (by simpa using hv)⟩;have ha:=h.2 0 c a rfl rfl;simp only[S.RT,bu];have m1:=Ur ha.1 (show 0<=S.Q5 cs by omega);have m2:=Int.mul_le_mul_of_nonneg_right (show a+1<=c by omega) (show 0<=S.Q5 cs by omega);rw[Vz,VA]at m2;omega
theorem uS{cards:List Int}:∀{k:Nat} {l:List Int},S.Sm cards l->k<=l.length->(S.Sn cards l k).2=true->S.RT cards (S.Sn cards l k).1=S.RT cards l+S.Q5 (cards.drop k)/\S.Sm cards (S.Sn cards l k).1
 |0,l,_,_,h=>by simp[S.Sn]at h
 | k+1,l,hco,hk,h=>by
  obtain⟨v,hv⟩:∃v,l[k]?=some v:=⟨_,Tn (by omega)⟩;obtain⟨c,hc⟩:∃c,cards[k]?=some c:=⟨_,Tn (by have:=hco.1;omega)⟩;have hb:=hco.2 k c v hc hv;simp only[S.Sn,hv,hc,Tq]at h ⊢
  split
  ·rename_i hq;refine⟨?_,xK hco hc (by omega) hq⟩;rw[A7 (v+1) hco.1 hv,show v+1 - v=1 by omega,VA]
  ·rename_i hq;rw[TF hq]at h;have hco2:=xK hco hc (show (0:Int)<=0 by omega) (show (0:Int)<c by omega);obtain⟨r1,r2⟩:=uS hco2 (by simp;omega) h;refine⟨?_,r2⟩;rw[r1,A7 0 hco.1 hv];have hd:cards.drop k=c::cards.drop (k+1):=by obtain⟨hk2,e⟩:=Tu.1 hc;rw[<-e];exact UE hk2
   have e:c=v+1:=by omega
   rw[hd,bu,e,Vz,VA,Int.sub_mul,VX];omega
theorem xY{cards l:List Int}(h:S.Sm cards l)(hn:(S.Sv cards l).2=true):S.RT cards (S.Sv cards l).1=S.RT cards l+1/\S.Sm cards (S.Sv cards l).1:=by obtain⟨r1,r2⟩:=uS h (Tp _) hn;refine⟨?_,r2⟩;show S.RT cards (S.Sn cards l l.length).1=_;rw[r1,<-h.1,List.drop_length];rfl
def S.SG(cards:List Int):Nat->List Int->List (List Int)
 |0,_=>[]
 |f+1,v=>v::(if (S.Sv cards v).2 then S.SG cards f (S.Sv cards v).1 else [])
def S.SE(cards:List Int):List (List Int):=S.SG cards (S.Q5 cards).toNat (List.replicate cards.length 0)
theorem qq{cards:List Int}(h:∀c∈cards,1<=c):S.Sm cards (List.replicate cards.length 0):=by
 refine⟨by simp,λi c v hc hv=>?_⟩;rw[Uh]at hv
 split at hv
 ·injection hv with hv;subst hv;have:=h c (Tv hc);omega
 ·cases hv
theorem zE{cards:List Int}:∀{f:Nat} {v:List Int},S.Sm cards v->∀x∈S.SG cards f v,S.Sm cards x
 |0,v,h,x,hx=>by simp[S.SG]at hx
 | f+1,v,h,x,hx=>by
  simp only[S.SG,T3]at hx;rcases hx with rfl|hx
  ·exact h
  ·split at hx
   ·rename_i hn;exact zE (xY h hn).2 x hx
   ·simp at hx
theorem JD{cards:List Int}(h:∀c∈cards,1<=c):∀x∈S.SE cards,S.Sm cards x:=zE (qq h)
theorem uc:∀{cards:List Int},S.RT cards (List.replicate cards.length 0)=0
 |[]=>rfl
 |c::cs=>by simp only[Ud,Uu,S.RT,VX,Wb,uc]
theorem PM{d k:Nat}{g:G}{P:Nat->Prop}{v:AV}{cards:List Int}(hd:0<d)(hv:SlR P k g.h cards v)(hc:∀c∈cards,1<=c/\c<4294967296)(hn:cards.length<=64)(hp:S.Q5 cards<1048576) :
  ∃r,an C0 d N.RY [v] g=.val r/\One (S.SE cards) NoP 0 .nil r:=by
 obtain⟨v',e,r1⟩:=cX hv d;rw[zU];refine bg DF (xs:=[v']) (by simp only[aK,e]) (by simp[sP]) (a9 _) (by decide) hd ?_;simp only[sP,sx,SO.run,↓reduceIte,Nat.reduceEqDiff,(r1 .nil).len];refine jA (b:=0) (n:=cards.length) (by simp[aQ];omega) (by simp[aQ];omega) (by simp) λw g1 hw n1 fr1 v1=>?_;simp only[sx,SO.run,↓reduceIte];refine qV (λn t df g=>df=[]/\tat t 0=v'/\∃u done,tat t 3=u/\OwnT g 0 0 u done /\
   ((tat t 5=.bool false/\n=0/\S.SE cards=done/\(done.length:Int)<=S.Q5 cards) \/
    (tat t 5=.bool true/\∃(vals:List Int) (y:AV),tat t 4=y/\SlR (Els g 0 u) 0 g.h vals y/\S.Sm cards vals/\n=(S.Q5 cards - S.RT cards vals).toNat/\(done.length:Int)=S.RT cards vals/\S.SE cards=done++S.SG cards n vals)))
  (S.Q5 cards).toNat ⟨rfl,by simp[sx],.nils,[],by simp[sx],.nils,.inr ⟨by simp[sx],List.replicate cards.length 0,w,by simp[sx],?_,qq (λc h=>(hc c h).1),by rw[uc];simp,by rw[uc];rfl,rfl⟩⟩ ?_
 ·refine Own.sl (α:=Int) hw (by simp;omega) ?_ λi hi=>⟨Ue _,(hw.lt hi).2,by simp[vid]⟩;have:=Q6 (R:=Rp.rp (Els g1 0 .nils) 0 g1.h) (a:=(0:Int)) (b:=[AV.int .i64 0]) (aB.2 rfl) cards.length;exact this
 ·rintro n t df g ⟨rfl,h0,u,done,h3,hu,⟨h5,rfl,hall,hdl⟩|⟨h5,vals,y,h4,hy,hco,hnn,hdl,hall⟩⟩
  ·simp only[ni,sx,SO.run,↓reduceIte,h5];simp only[sR,sx,SO.run,↓reduceIte,Nat.reduceEqDiff,h3];rw[hall];exact⟨_,u,rfl,hu.sl (by omega)⟩
  ·simp only[ni,sx,SO.run,↓reduceIte,Nat.reduceEqDiff,h3,h4,h5];have yc:y.cells=[y]/\y.isTup=false:=by
    have:=hy.2;unfold SlV at this
    split at this<;>first|exact⟨rfl,rfl⟩|exact this.elim
   have hrb:=vV hco;have hlen:vals.length=cards.length:=hco.1.symm;rw[mC 1 [.nils] y g (by rw[yc.1];rfl) yc.2,yc.1];simp only[sx,SO.run,↓reduceIte,Nat.reduceEqDiff];have hy1:Rp.rp (Els (g.new (We 1 [[y]])) 0 u) 0 (g.new (We 1 [[y]])).h vals [y] :=
    Rp.mono (show Rp.rp (Els g 0 u) 0 g.h vals [y] from ⟨y,rfl,hy⟩) (λi hi=>⟨⟨hi.1,by have:=hi.2.1;simp;omega,hi.2.2⟩,by have:=hi.2.1;rw[G.new_h,ah _ _ _ (by omega)]⟩) (Tp _)
   refine yu (α:=List Int) (b:=0) (k:=0) (l:=done) (y:=vals) (cs:=[y]) (hu.step (Fr.new _ _)) (by simp[sy,Rp.sz]) hy1 (Ue _) (by simp[aQ];omega) λv2 g2 hv2 n2 f2 vid2 lg2=>?_;simp only[sx,SO.run,↓reduceIte,Nat.reduceEqDiff,h0,h4];have hy2:Rp.rp (λ_=>True) 0 g2.h vals [y] :=
    Rp.mono hy1 (λi hi=>⟨trivial,by rw[f2 i hi.2.1 hi.2.2]⟩) (Tp _)
   obtain⟨y',hyy,hy2⟩:=hy2;injection hyy with hyy;subst hyy;refine bH (Nc (TG d) (r1 g2.h) hy2 (by omega) (by omega) λx hx=>?_) λr hr=>?_
   ·obtain⟨i,hi,e⟩:=Ui.1 hx;obtain⟨c,hcc⟩:∃c,cards[i]?=some c:=⟨_,Tn (by omega)⟩;have:=hco.2 i c x hcc (by rw[Tn hi,e]);have:=hc c (Tv hcc);omega
   ·obtain⟨ra,rb,rfl,hra,hrb2⟩:=hr;obtain⟨rw',e',hra⟩:=hra;injection e' with e';subst e';have e'':=kT.1 hrb2;injection e'' with e'';subst e'';simp only[sx,sy,SO.run,↓reduceIte,Nat.reduceEqDiff];obtain⟨f,hf⟩:∃f,n=f+1:=⟨n - 1,by omega⟩;rw[hf,S.SG]at hall;cases hnx:(S.Sv cards vals).2 with
    | false =>
     rw[hnx,TF (by decide)]at hall;refine⟨0,by omega,h0,v2,done++[vals],rfl,hv2,.inl ⟨rfl,rfl,hall,by simp;omega⟩⟩
    | true =>
     rw[hnx,TE rfl]at hall;obtain⟨k1,k2⟩:=xY hco hnx;refine⟨f,by omega,h0,v2,done++[vals],rfl,hv2,.inr ⟨rfl,_,_,rfl,?_,k2,by omega,by simp;omega,by rw[hall,UO];rfl⟩⟩;have:=Rp.mono (P':=Els g2 0 v2) (h':=g2.h) (show Rp.rp NoP 0 .nil (S.Sv cards vals).1 [ra] from ⟨ra,rfl,hra⟩) (λi hi=>hi.elim) (Tp 0);obtain⟨z,ez,q⟩:=this;injection ez with ez;subst ez;exact q
theorem Ki{d:Nat}{g:G}{l:AV}{us:List UInt8}{K:AV->G->Prop}{D:ADf->Prop}(hl:SlR NoP 0 .nil us l)
  (kk:∀g',g'.h.get g.nx=We 2 [[l,.int .i64 0]]->g'.nx=g.nx+1->FrW g.nx g g'->K (.hptr g.nx 0 0 0) g') :
  (an C0 d N.R4 [l] g).sat K g D:=by
 have lc:l.cells=[l]/\l.isTup=false:=by
  have:=hl.2;unfold SlV at this
  split at this<;>first|exact⟨rfl,rfl⟩|exact this.elim
 rw[wn];refine mD y9 (by simp[nm]) ?_;simp only[nm,sx,sy,SO.run,↓reduceIte,Nat.reduceEqDiff,Nat.reduceAdd,Nat.reduceLeDiff,lc.1,lc.2];refine kk _ ?_ ?_ ?_
 ·simp[Q_]
 ·simp
 ·exact FrW.new _ (Tp _)
abbrev Cg:Type:=UInt8×UInt8×UInt8×List UInt8
abbrev Dn:Type:=UInt8×List Cg×List (UInt8×UInt8)×List UInt8×List UInt8
theorem Ni{P:Nat->Prop}{k:Nat}{h:H}{x:Cg}{cs:List AV}:Rp.rp P k h x cs↔∃a,cs=[u8v x.1,u8v x.2.1,u8v x.2.2.1,a]/\SlR P k h x.2.2.2 a:=by
 constructor
 ·rintro⟨c1,c2,rfl,h1,c3,c4,rfl,h2,c5,c6,rfl,h3,⟨a,rfl,h4⟩⟩;rw[fP.1 h1,fP.1 h2,fP.1 h3];exact⟨a,rfl,h4⟩
 ·rintro⟨a,rfl,h4⟩;exact⟨[_],[_,_,a],rfl,fP.2 rfl,[_],[_,a],rfl,fP.2 rfl,[_],[a],rfl,fP.2 rfl,⟨a,rfl,h4⟩⟩
theorem Qd{P:Nat->Prop}{k:Nat}{h:H}{x:UInt8×UInt8}{cs:List AV}:Rp.rp P k h x cs↔cs=[u8v x.1,u8v x.2]:=by
 constructor
 ·rintro⟨c1,c2,rfl,h1,h2⟩;rw[fP.1 h1,fP.1 h2];rfl
 ·rintro rfl;exact⟨[_],[_],rfl,fP.2 rfl,fP.2 rfl⟩
theorem C5{P:Nat->Prop}{k:Nat}{h:H}{x:Dn}{cs:List AV}:Rp.rp P k h x cs↔∃a b c e,cs=[u8v x.1,a,b,c,e]/\SlR P k h x.2.1 a/\SlR P k h x.2.2.1 b/\SlR P k h x.2.2.2.1 c/\SlR P k h x.2.2.2.2 e:=by
 constructor
 ·rintro⟨c1,c2,rfl,h1,c3,c4,rfl,⟨a,rfl,ha⟩,c5,c6,rfl,⟨b,rfl,hb⟩,c7,c8,rfl,⟨c,rfl,hc⟩,⟨e,rfl,he⟩⟩;rw[fP.1 h1];exact⟨a,b,c,e,rfl,ha,hb,hc,he⟩
 ·rintro⟨a,b,c,e,rfl,ha,hb,hc,he⟩;exact⟨[_],[a,b,c,e],rfl,fP.2 rfl,[a],[b,c,e],rfl,⟨a,rfl,ha⟩,[b],[c,e],rfl,⟨b,rfl,hb⟩,[c],[e],rfl,⟨c,rfl,hc⟩,⟨e,rfl,he⟩⟩
theorem mM{C:Cfg}{nt d:Nat}{rd:Option Nat}{c:Code}{t:T}{df:List ADf}{g:G}{Q:QT}(h:wp C d rd (dz C nt c) Q t df g):((I C).code nt d rd c t df g).sat Q:=by
 grind[GO,PF]
theorem Nd{C:Cfg}{d id nt:Nat}{t:T}{ps:List Nat}{assign body:Code}{a b:SC}{dfr:Nat}{args:List AV}{g:G}{K:AV->G->Prop}{D:ADf->Prop}{t':T}
  (hg:g.h.get id=.loop nt t ps assign body dfr .ready none) (ha:dz C nt assign=a) (hb:dz C nt body=b) (hp:cV t nt ps args=some t')
  (h:wp C d (some id) a (λe t1 df g1=>e=.norm/\df=[]/\g1=g /\
   wp C d (some id) b (λe _ df g2=>e=.norm/\df=[]/\g2.h.get id=.loop nt t ps assign body dfr .busy none/\K (.bool true) (g2.put id (.loop nt t ps assign body dfr .ready none))) t1 [] (g.put id (.loop nt t ps assign body dfr .busy none))) t' [] g) :
  (cz (I C) d id args g).sat K g D:=by
 subst ha;subst hb;unfold cz;rw[show g.get id=_ from hg];dsimp only;rw[hp];dsimp only;have h1:=mM h;cases hc:(I C).code nt d (some id) assign t' [] g with
 |fail=>rw[hc]at h1;exact h1.elim
 | ok e t1 df g1 =>
  rw[hc]at h1;obtain⟨rfl,rfl,rfl,h2⟩:=h1;dsimp only;rw[show g1.get id=_ from hg];dsimp only;have h3:=mM h2;cases hc2:(I C).code nt d (some id) body t1 [] (g1.put id (.loop nt t ps assign body dfr .busy none)) with
  |fail=>rw[hc2]at h3;exact h3.elim
  | ok e t2 df2 g2 =>
   rw[hc2]at h3;obtain⟨rfl,rfl,h4,h5⟩:=h3;dsimp only;rw[show g2.get id=_ from h4];exact h5
theorem K8{C:Cfg}{d nt:Nat}{f:Od}{ps:List Nat}{a b:SC}{Q:QT}{t:T}{df:List ADf}{g:G}{fn:Nat}{first cap:List AV}{s:SF}(hv:f.get t=.clo fn first cap)(he:C.ext fn=none)(hs:nFn C fn=some s)
  (hl:(first++(.yld (g.nx+1)::cap)).length<=s.nt)
  (h:∀assign body,dz C nt assign=a->dz C nt body=b ->
   wp C d none s.code (fnQ C d s.res λ_ g2=>∃nt' t' ps' as' bd' dfr',g2.h.get (g.nx+1)=.loop nt' t' ps' as' bd' dfr' .ready none /\
    Q .norm t (.mark g.nx::df) (g2.put (g.nx+1) (.loop nt' t' ps' as' bd' dfr' .exhausted none)))
    (cy 0 (first++(.yld (g.nx+1)::cap)) .nil) [] ((g.new (.dfr true)).new (.loop nt t ps assign body g.nx .ready none))) :
  wp C d none (.rng nt f ps a b) Q t df g:=by
 intro assign body ha hb;have h:=nZ hs hl (h assign body ha hb);show (co C (I C) nt d none (f.get t) ps assign body t (.mark g.nx::df) g.nx (g.new (.dfr true))).sat Q;rw[hv];unfold co;dsimp only;rw[he];show (match (I C).call d fn (first++(AV.yld (g.nx+1)::cap)) ((g.new (.dfr true)).new (.loop nt t ps assign body g.nx .ready none)) with
  |.ok _ g2=>cM (I C) nt d none (g.nx+1) t (.mark g.nx::df) g2
  |.fail=>.fail).sat Q
 cases hc:(I C).call d fn (first++(AV.yld (g.nx+1)::cap)) ((g.new (.dfr true)).new (.loop nt t ps assign body g.nx .ready none)) with
 |fail=>rw[hc]at h;exact h.elim
 | ok v g2 =>
  rw[hc]at h;obtain⟨nt',t',ps',as',bd',dfr',h1,h2⟩:=h;show (cM (I C) nt d none (g.nx+1) t (.mark g.nx::df) g2).sat Q;unfold cM;rw[show g2.get (g.nx+1)=_ from h1];exact h2
def S.Si(l:List Int)(h:Int):Int:=l.foldr (λc q=>q / c) h
def S.Sa(l:List Int)(h:Int)(i:Nat):Int:=S.Si (l.drop (i+1)) h % l[i]?.getD 1
def S.Rb(l:List Int)(h:Int):List Int:=(List.range l.length).map (S.Sa l h)
theorem I9{l:List Int}{h:Int}(hl:∀c∈l,0<c)(hh:0<=h):0<=S.Si l h/\S.Si l h<=h:=by
 induction l with
 |nil=>exact⟨hh,VW _⟩
 | cons c l ih =>
  obtain⟨a,b⟩:=ih λx hx=>hl x (by simp[hx]);have hc:=hl c (by simp);show 0<=S.Si l h / c/\S.Si l h / c<=h;exact⟨Int.ediv_nonneg a (by omega),VJ (Int.ediv_le_self _ a) b⟩
def S.Q9:List Int->List Int->Int
 |_::cs,v::vs=>v*S.Q5 cs+S.Q9 cs vs
 |_,_=>0
def InC(cards vals:List Int):Prop:=All2 (λc v=>(0:Int)<=v/\v<c) cards vals
theorem bY:∀{cards vals:List Int},(∀c∈cards,1<=c/\c<=4)->InC cards vals->0<=S.Q9 cards vals/\S.Q9 cards vals<S.Q5 cards
 |[],[],_,_=>⟨VW _,by decide⟩
 | c::cs,v::vs,hc,h=>by obtain⟨a,b⟩:=bY (cards:=cs) (vals:=vs) (λx hx=>hc x (by simp[hx])) h.2;obtain⟨p1,-⟩:=ba (l:=cs) λx hx=>hc x (by simp[hx]);have hv:=h.1;rw[bu];show 0<=v*S.Q5 cs+S.Q9 cs vs/\v*S.Q5 cs+S.Q9 cs vs<c*S.Q5 cs;have h1:0<=v*S.Q5 cs:=Ur hv.1 (by omega);have h2:(v+1)*S.Q5 cs<=c*S.Q5 cs:=Int.mul_le_mul_of_nonneg_right (by omega) (by omega);rw[Vz,VA]at h2;omega
 |[],_::_,_,h=>h.elim
 |_::_,[],_,h=>h.elim
theorem InC.drop:∀{cards vals:List Int} (j:Nat),InC cards vals->InC (cards.drop j) (vals.drop j)
 |_,_,0,h=>h
 |[],[],j+1,_=>trivial
 |_::_,_::_,j+1,h=>InC.drop j h.2
 |[],_::_,_,h=>h.elim
 |_::_,[],_,h=>h.elim
theorem InC.len{cards vals:List Int}(h:InC cards vals):vals.length=cards.length:=(All2.len h).symm
def S.Ra(m:Causal):List Int:=m.roots.map λr=>(r.length:Int)
def S.Sx(m:Causal)(h:Int)(r:Nat):Int:=(m.roots[r]?.getD [])[(S.Sa (S.Ra m) h r).toNat]?.getD 0
def S.R1(m:Causal)(h:Int):Int:=S.Q5 ((List.range m.roots.length).map (S.Sx m h))
theorem mJ:∀{l:List Int},(∀x∈l,0<=x/\x<=12)->0<=S.Q5 l/\S.Q5 l<=12 ^ l.length
 |[],_=>⟨by decide,by decide⟩
 | a::l,h=>by obtain⟨h1,h2⟩:=mJ (l:=l) λx hx=>h x (by simp[hx]);obtain⟨h3,h4⟩:=h a (by simp);rw[bu,Ud,Vr,VK (12 ^ l.length)];exact⟨Ur h3 h1,Uk h4 h2 h1 (by decide)⟩
theorem sB{l:List Int}(hl:∀c∈l,0<c){h:Int}(hh:0<=h){i:Nat}(hi:i<l.length):0<=S.Sa l h i/\S.Sa l h i<l[i]:=by have hc:=hl _ (TW hi);unfold S.Sa;rw[Tn hi];exact⟨Vh _ (by show l[i]≠0;omega),UY _ hc⟩
theorem h_{m:Causal}(hs:S.Small m):∀c∈S.Ra m,1<=c/\c<=4:=λc hc=>by obtain⟨x,hx,rfl⟩:=T4.1 hc;have:=hs.len x hx;omega
theorem bS(m:Causal):(S.Ra m).length=m.roots.length:=by simp[S.Ra]
theorem K2{m:Causal}(hck:S.Q_ m=true){h:Int}(hh:0<=h){r:Nat}(hr:r<m.roots.length):0<=S.Sx m h r/\S.Sx m h r<=12:=by
 obtain⟨hs,hgr,hn1,hro,hno⟩:=ap hck;simp only[S.Sq,Ts]at hro;have hx:=TC.1 hro.1 m.roots[r] (TW hr);simp only[S.Sc,Ts]at hx;have hw:=hx.1.2;have hb:=sB (l:=S.Ra m) (λc hc=>by have:=h_ hs c hc;omega) hh (i:=r) (by rw[bS];exact hr);simp only[S.Ra,UN]at hb;obtain⟨n,hn⟩:=Ty hb.1;have hn':S.Sa (S.Ra m) h r=(n:Int):=hn;have hl:n<m.roots[r].length:=by unfold S.Ra at hn';omega
 unfold S.Sx;rw[hn',Tn hr,Tq,TH,Tn hl,Tq];have:=TC.1 hw _ (TW hl);simp at this;omega
theorem QK{n:Nat}(h:n<=8):(12:Int) ^ n<=429981696:=by
 match n,h with
 |0,_=>decide
 |1,_=>decide
 |2,_=>decide
 |3,_=>decide
 |4,_=>decide
 |5,_=>decide
 |6,_=>decide
 |7,_=>decide
 |8,_=>decide
 |n+9,h=>omega
theorem GM{m:Causal}(hck:S.Q_ m=true){h:Int}(hh:0<=h){l:List Nat}(hl:∀r∈l,r<m.roots.length)(hn:l.length<=8):0<=S.Q5 (l.map (S.Sx m h))/\S.Q5 (l.map (S.Sx m h))<=429981696:=by
 have:=mJ (l:=l.map (S.Sx m h)) λx hx=>by obtain⟨r,hr,rfl⟩:=T4.1 hx;exact K2 hck hh (hl r hr)
 rw[Tz]at this;exact⟨this.1,VJ this.2 (QK hn)⟩
end
end Hx
end
section
namespace Hx
open Go
theorem cK{m:Causal}(hck:S.Q_ m=true){x:Mech}(hx:x∈m.nodes):S.Rc x.frm m.nodes.length=true/\S.Rc x.noise m.roots.length=true/\(x.out.length:Int)=S.Q5 (S.Rh m x)/\(∀y∈x.out,0<=y/\y<x.card):=by
 have hr:S.S7 m=true:=by rw[<-yw];exact hck
 simp only[S.S7,Ts]at hr;have h1:=TC.1 hr.1.1.1.1.2 x hx;simp only[S.Tc,Ts]at h1;have h2:=TC.1 hr.2 x hx;simp only[S.Te,Ts,TA]at h2;refine⟨h1.1.2,h1.2,h2.1,λy hy=>?_⟩;have:=TC.1 h2.2 y hy;simp at this;omega
def Rk(p:List Nat)(s:Nat)(r:Nat->Nat)(B:Nat):Prop:=∀v,s.testBit v=true->r v<B/\∀q,(Par p v).testBit q=true->s.testBit q=true/\r q<r v
theorem Ge{p:List Nat}(hn:p.length<=5){s:Nat}(h:∃r B,Rk p s r B):∀j,j<=p.length->∃r B,Rk p (S.RH p s j) r B
 |0,_=>h
 | j+1,hj=>by
  obtain⟨r,B,h⟩:=Ge hn h j (by omega);rw[dE]
  split
  ·rename_i hd;have hsub:=pG.1 hd;generalize S.RH p s j=s at h hsub
   by_cases hb:s.testBit j=true
   ·refine⟨r,B,λv hv=>?_⟩;have key:∀u,(s ||| S.RN j).testBit u=s.testBit u:=λu=>by
     rw[gR,mV (by omega)]
     by_cases e:j=u
     ·subst e;rw[hb];rfl
     ·simp[e]
    rw[key]at hv;obtain⟨h1,h2⟩:=h v hv;exact⟨h1,λq hq=>by rw[key];exact h2 q hq⟩
   ·refine⟨λx=>if x=j then B else r x,B+1,λv hv=>?_⟩;have key:∀u,(s ||| S.RN j).testBit u=(s.testBit u || decide (j=u)):=λu=>by rw[gR,mV (by omega)]
    rw[key,Uo,TA]at hv;have keep:∀q,s.testBit q=true->q≠j:=λq hq e=>hb (e ▸ hq);rcases hv with hv|rfl
    ·obtain⟨h1,h2⟩:=h v hv;dsimp only;rw[TF (keep v hv)];refine⟨by omega,λq hq=>?_⟩;obtain⟨h3,h4⟩:=h2 q hq;rw[key,h3,TF (keep q h3)];exact⟨rfl,h4⟩
    ·dsimp only;rw[TE rfl];refine⟨by omega,λq hq=>?_⟩;have h3:=hsub q hq;rw[key,h3,TF (keep q h3)];exact⟨rfl,(h q h3).1⟩
  ·exact⟨r,B,h⟩
theorem C2{p:List Nat}(hn:p.length<=5):∀j,∃r B,Rk p (S.RE p j) r B
 |0=>⟨λ_=>0,0,λv hv=>by simp[S.RE]at hv⟩
 |j+1=>by rw[dC];exact Ge hn (C2 hn j) _ (Tp _)
theorem C1{m:Causal}(hck:S.Q_ m=true):∃r:Nat->Nat,∀(i:Nat) (x:Mech),m.nodes[i]?=some x->∀q∈x.frm,r q.toNat<r i:=by
 have hs:=(ap hck).1;have hac:S.SZ m=true:=by simp only[S.Q_,Ts]at hck;exact hck.2
 have hpl:(S.Rq m).length=m.nodes.length:=by simp[S.Rq]
 have h5:=hs.nodes;obtain⟨r,B,h⟩:=C2 (p:=S.Rq m) (by omega) (S.Rq m).length;simp only[S.SZ,TA]at hac;rw[<-hpl]at hac;rw[hac]at h;refine⟨r,λi x hx q hq=>?_⟩;have hi:=(Tu.1 hx).1;have hpm:=cK hck (Tv hx);have hq':=aE hpm.1 q hq;refine ((h i (DX (by omega))).2 q.toNat ?_).2;rw[show Par (S.Rq m) i=S.Re x.frm by simp[Par,S.Rq,hx],tD (n:=m.nodes.length) (by omega) (aE hpm.1),U7,U2 hq'.1];exact hq
def S.RC(x:Mech)(roots:List Int)(V:Nat->Int):List Int:=(x.frm.map λq=>V q.toNat)++(x.noise.map λr=>roots[r.toNat]?.getD 0)
def S.SH(m:Causal)(roots act:List Int)(V:Nat->Int)(i:Nat)(x:Mech):Int:=if 0<=act[i]?.getD 0 then act[i]?.getD 0 else x.out[(S.Q9 (S.Rh m x) (S.RC x roots V)).toNat]?.getD 0
def Sol(m:Causal)(roots act:List Int)(V:Nat->Int):Prop:=∀(i:Nat) (x:Mech),m.nodes[i]?=some x->V i=S.SH m roots act V i x
def GJ(m:Causal)(roots act:List Int):Nat->Nat->Int
 |0,_=>0
 |f+1,i=>match m.nodes[i]? with|some x=>S.SH m roots act (GJ m roots act f) i x|none=>0
theorem mO{m:Causal}{roots act:List Int}{V W:Nat->Int}{i:Nat}{x:Mech}(h:∀q∈x.frm,V q.toNat=W q.toNat):S.SH m roots act V i x=S.SH m roots act W i x:=by
 have:S.RC x roots V=S.RC x roots W:=by unfold S.RC;rw[Ul h]
 unfold S.SH;rw[this]
theorem GK{m:Causal}(hck:S.Q_ m=true){roots act:List Int}{r:Nat->Nat}(hr:∀(i:Nat) (x:Mech),m.nodes[i]?=some x->∀q∈x.frm,r q.toNat<r i) :
  ∀n i f f',r i<=n->r i<f->r i<f'->GJ m roots act f i=GJ m roots act f' i:=by
 intro n
 induction n with
 | zero =>
  intro i f f' h0 h1 h2;obtain⟨f,rfl⟩:∃q,f=q+1:=⟨f - 1,by omega⟩;obtain⟨f',rfl⟩:∃q,f'=q+1:=⟨f' - 1,by omega⟩;unfold GJ
  split
  ·rename_i x hx;exact mO λq hq=>by have:=hr i x hx q hq;omega
  ·rfl
 | succ n ih =>
  intro i f f' h0 h1 h2;obtain⟨f,rfl⟩:∃q,f=q+1:=⟨f - 1,by omega⟩;obtain⟨f',rfl⟩:∃q,f'=q+1:=⟨f' - 1,by omega⟩;unfold GJ
  split
  ·rename_i x hx;exact mO λq hq=>by have:=hr i x hx q hq;exact ih _ _ _ (by omega) (by omega) (by omega)
  ·rfl
theorem Qk{m:Causal}(hck:S.Q_ m=true)(roots act:List Int):∃V,Sol m roots act V:=by obtain⟨r,hr⟩:=C1 hck;refine⟨λi=>GJ m roots act (r i+1) i,λi x hx=>?_⟩;show GJ m roots act (r i+1) i=_;rw[GJ,hx];exact mO λq hq=>GK hck hr (r q.toNat) _ _ _ (Tp _) (hr i x hx q hq) (Nat.lt_succ_self _)
noncomputable def S.V(m:Causal)(roots act:List Int):Nat->Int:=Classical.epsilon (Sol m roots act)
theorem Jp{m:Causal}(hck:S.Q_ m=true)(roots act:List Int):Sol m roots act (S.V m roots act):=Classical.epsilon_spec (Qk hck roots act)
noncomputable def S.Rg(m:Causal)(roots act:List Int):List Int:=(List.range m.nodes.length).map (S.V m roots act)
theorem jP{m:Causal}{l:List Int}(h:S.Rd m l=true):l.length=m.nodes.length/\∀(i:Nat) (x:Mech),m.nodes[i]?=some x->-1<=l[i]?.getD 0/\l[i]?.getD 0<x.card:=by
 simp only[S.Rd,Ts,TA]at h;refine⟨h.1,λi x hx=>?_⟩;have hi:=(Tu.1 hx).1;have:=TC.1 h.2 i (TK.2 (by omega));simp only[S.SM,Ts,TA]at this;have hc:S.Rf m (i:Int)=x.card:=by simp[S.Rf,hx]
 rw[hc]at this;omega
theorem xW{cards vals:List Int}(hl:cards.length=vals.length)(h:∀(i:Nat) c v,cards[i]?=some c->vals[i]?=some v->0<=v/\v<c):InC cards vals:=by
 induction cards generalizing vals with
 | nil=>cases vals with
  |nil=>trivial
  |cons v vals=>simp at hl
 | cons c cards ih=>cases vals with
  |nil=>simp at hl
  |cons v vals=>exact⟨h 0 c v rfl rfl,ih (by simpa using hl) λi c' v' h1 h2=>h (i+1) c' v' (by simpa using h1) (by simpa using h2)⟩
theorem InC.get{cards vals:List Int}(h:InC cards vals){i:Nat}{c:Int}(hc:cards[i]?=some c):∃v,vals[i]?=some v/\0<=v/\v<c:=All2.get h hc
theorem mS{m:Causal}(hck:S.Q_ m=true){roots:List Int}(hroots:InC (S.Ra m) roots){V:Nat->Int}{x:Mech}(hx:x∈m.nodes)(hV:∀q∈x.frm,0<=V q.toNat/\V q.toNat<S.Rf m q) :
  InC (S.Rh m x) (S.RC x roots V):=by
 obtain⟨h1,h2,-,-⟩:=cK hck hx;unfold S.Rh S.RC;refine All2.append ?_ ?_
 ·clear h1;generalize x.frm=l at hV
  induction l with
  |nil=>trivial
  |cons q l ih=>exact⟨hV q (by simp),ih λq hq=>hV q (by simp[hq])⟩
 ·have hm:=aE h2;clear h2;generalize x.noise=l at hm
  induction l with
  |nil=>trivial
  | cons q l ih =>
   refine⟨?_,ih λq hq=>hm q (by simp[hq])⟩;have hq:=hm q (by simp);have hc:(S.Ra m)[q.toNat]?=some (S.RS m q):=by
    have hql:q.toNat<m.roots.length:=by omega
    simp only[S.Ra,S.RS,Tt,Tn hql,TQ,Tq]
   obtain⟨v,e,hv⟩:=hroots.get hc;show 0<=roots[q.toNat]?.getD 0/\roots[q.toNat]?.getD 0<_;rw[e];exact hv
theorem cA{m:Causal}(hck:S.Q_ m=true){x:Mech}(hx:x∈m.nodes):(∀c∈S.Rh m x,1<=c/\c<=4)/\(S.Rh m x).length<=13:=by
 obtain⟨h1,h2,-,-⟩:=cK hck hx;have hs:=(ap hck).1;have a:=bD h1;have b:=bD h2;have:=hs.nodes;have:=hs.roots;refine⟨λc hc=>?_,by simp[S.Rh];omega⟩;unfold S.Rh at hc;rcases Uf.1 hc with hc|hc
 ·obtain⟨q,hq,rfl⟩:=T4.1 hc;exact iY hs (aE h1 q hq)
 ·obtain⟨q,hq,rfl⟩:=T4.1 hc;exact lG hs (aE h2 q hq)
theorem C_{m:Causal}(hck:S.Q_ m=true){roots act:List Int}(hroots:InC (S.Ra m) roots)(ha:S.Rd m act=true){V:Nat->Int}(hV:Sol m roots act V) :
  ∀(i:Nat) (x:Mech),m.nodes[i]?=some x->0<=V i/\V i<x.card:=by
 obtain⟨r,hr⟩:=C1 hck;have key:∀n i x,r i<=n->m.nodes[i]?=some x->0<=V i/\V i<x.card:=by
  intro n
  induction n with
  | zero =>
   intro i x hn hx;have hxm:=Tv hx;rw[hV i x hx,S.SH]
   split
   ·rename_i h;exact⟨h,((jP ha).2 i x hx).2⟩
   ·obtain⟨h1,h2,h3,h4⟩:=cK hck hxm;have hb:=bY (cA hck hxm).1 (mS hck hroots (V:=V) hxm λq hq=>by have:=hr i x hx q hq;omega);rw[<-h3]at hb;obtain⟨k,hk⟩:=Ty hb.1;rw[hk];have hkl:k<x.out.length:=by omega
    show 0<=(x.out[k]?).getD 0/\(x.out[k]?).getD 0<_;rw[Tn hkl];exact h4 _ (TW hkl)
  | succ n ih =>
   intro i x hn hx;have hxm:=Tv hx;rw[hV i x hx,S.SH]
   split
   ·rename_i h;exact⟨h,((jP ha).2 i x hx).2⟩
   ·obtain⟨h1,h2,h3,h4⟩:=cK hck hxm;have hb:=bY (cA hck hxm).1 (mS hck hroots (V:=V) hxm λq hq=>by
     have hrq:=hr i x hx q hq;have hql:=aE h1 q hq;have hq2:q.toNat<m.nodes.length:=by omega
     have:=ih q.toNat _ (by omega) (Tn hq2);have hc:S.Rf m q=(m.nodes[q.toNat]).card:=by simp[S.Rf,Tn hq2]
     rw[hc];exact this)
    rw[<-h3]at hb;obtain⟨k,hk⟩:=Ty hb.1;rw[hk];have hkl:k<x.out.length:=by omega
    show 0<=(x.out[k]?).getD 0/\(x.out[k]?).getD 0<_;rw[Tn hkl];exact h4 _ (TW hkl)
 exact λi x hx=>key (r i) i x (Tp _) hx
theorem HW{m:Causal}(hck:S.Q_ m=true){roots act:List Int}{V W:Nat->Int}(hV:Sol m roots act V)(hW:Sol m roots act W):∀i,i<m.nodes.length->V i=W i:=by
 obtain⟨r,hr⟩:=C1 hck;have key:∀n i,i<m.nodes.length->r i<=n->V i=W i:=by
  intro n
  induction n with
  | zero =>
   intro i hi hn;have hx:=Tn hi;rw[hV i _ hx,hW i _ hx];exact mO λq hq=>by have:=hr i _ hx q hq;omega
  | succ n ih =>
   intro i hi hn;have hx:=Tn hi;rw[hV i _ hx,hW i _ hx];refine mO λq hq=>ih _ ?_ (by have:=hr i _ hx q hq;omega);have:=aE (cK hck (TW hi)).1 q hq;omega
 exact λi hi=>key (r i) i hi (Tp _)
def S.Tb(cs vs:List Int)(a:Int):Int:=(cs.zip vs).foldl (λa p=>a*p.1+p.2) a
theorem vJ:∀(cs vs:List Int) (a:Int),cs.length=vs.length->S.Tb cs vs a=a*S.Q5 cs+S.Q9 cs vs
 |[],[],a,_=>by simp[S.Tb,S.Q5,S.Q9]
 | c::cs,v::vs,a,h=>by show S.Tb cs vs (a*c+v)=_;rw[vJ cs vs _ (by simpa using h),bu];show _=_+(v*S.Q5 cs+S.Q9 cs vs);rw[Vz,UK,Int.add_assoc]
 |[],_::_,_,h=>by simp at h
 |_::_,[],_,h=>by simp at h
end Hx
end
section
namespace Hx
open Go
noncomputable section
theorem PW(C:Cfg)(t:T)(g:G)(f:Od)(xs:List Od):(SO.foot C t g (.dyn f xs)).sr=[]:=by
 simp only[SO.foot]
 split
 ·rw[aa];split<;>rfl
 ·rfl
theorem JG{x y:Foot}(hx:x.wr=[])(hb:x.lk.big=false)(hs:x.lk.sr=[])(h:∀i∈y.wr,i ∉ x.lk.rd):bE x y=true:=by
 have m1:meets y.wr []=false:=by simp[meets]
 have m2:meets y.wr x.lk.rd=false:=by simp only[meets,List.any_eq_false];intro i hi hc;exact h i hi (U7.1 hc)
 simp only[bE,fI,d_,hx,hb,hs,m1,m2,fst1,Uv,T9,Vx,Wa,Up]
 split<;>rfl
def hz(cs vs:List Int)(j:Nat):Int:=((cs.zip vs).take j).foldl (λa p=>a*p.1+p.2) 0
theorem IE(cs vs:List Int):hz cs vs 0=0:=by simp[hz]
theorem DZ{cs vs:List Int}{j:Nat}{c v:Int}(h1:cs[j]?=some c)(h2:vs[j]?=some v):hz cs vs (j+1)=hz cs vs j*c+v:=by have:(cs.zip vs)[j]?=some (c,v):=List.getElem?_zip_eq_some.2 ⟨h1,h2⟩;unfold hz;rw[U6,this];simp
theorem Mi{cs vs:List Int}(h:cs.length=vs.length):hz cs vs cs.length=S.Q9 cs vs:=by unfold hz;rw[Ug (by simp[List.length_zip];omega)];have:=vJ cs vs 0 h;rw[VX,Wb]at this;exact this
theorem Ot{cs vs:List Int}(j:Nat):hz cs vs j=S.Tb (cs.take j) (vs.take j) 0:=by
 unfold hz S.Tb;congr 1
 induction j generalizing cs vs with
 |zero=>simp
 | succ j ih=>cases cs with
  |nil=>simp
  | cons c cs=>cases vs with
   |nil=>simp
   |cons v vs=>simp[ih]
theorem InC.take{cards vals:List Int}(h:InC cards vals)(j:Nat):InC (cards.take j) (vals.take j):=All2.take h j
theorem OG{n:Nat}(hn:n<=13):(4:Int) ^ n<=67108864:=by
 have:=bI hn;have e:(4:Int) ^ 13=67108864:=by decide
 omega
theorem qa{cs vs:List Int}(hc:∀c∈cs,1<=c/\c<=4)(hl:cs.length<=13)(h:InC cs vs)(j:Nat):0<=hz cs vs j/\hz cs vs j<=67108864:=by have hc':∀c∈cs.take j,1<=c/\c<=4:=λc hh=>hc c (Uc hh);rw[Ot,vJ _ _ _ (h.take j).len.symm,VX,Wb];have hb:=bY hc' (h.take j);have:=(ba hc').2;have:=OG (n:=(cs.take j).length) (by simp;omega);omega
def Oc(p1 p2 p3 p4:Nat):AV:=.clo N.Sf [] [.hptr p1 0 0 0,.hptr p2 0 0 0,.hptr p3 0 0 0,.hptr p4 0 0 0]
structure RI (g:G) (p1 p2 p3 p4:Nat) (gr hid:Int) (a b w u:AV) (iu:Nat) (L:List Int):Prop where
 b1:g.h.get p1=We 1 [[u]]
 b2:g.h.get p2=We 4 [[.int .i64 gr,a,b,.int .i64 hid]]
 b3:g.h.get p3=We 1 [[Oc p1 p2 p3 p4]]
 b4:g.h.get p4=We 1 [[w]]
 ow:Own g 0 u 1 (L.map ci)
 vi:vid u=some iu
 ne:iu≠p1/\iu≠p2/\iu≠p3/\iu≠p4
 lt:p1<g.nx/\p2<g.nx/\p3<g.nx/\p4<g.nx
theorem RI.fr{g g':G}{p1 p2 p3 p4:Nat}{gr hid:Int}{a b w u:AV}{iu:Nat}{L:List Int}(h:RI g p1 p2 p3 p4 gr hid a b w u iu L)(hn:g.nx<=g'.nx)(hf:∀j,j<g.nx->g'.h.get j=g.h.get j) :
  RI g' p1 p2 p3 p4 gr hid a b w u iu L :=
 ⟨by rw[hf _ h.lt.1,h.b1],by rw[hf _ h.lt.2.1,h.b2],by rw[hf _ h.lt.2.2.1,h.b3],by rw[hf _ h.lt.2.2.2,h.b4],h.ow.fr hn λi hi=>hf i (h.ow.lt hi).2,h.vi,h.ne,
  by have:=h.lt;omega⟩
def Frm(g0 g:G)(iu:Nat):Prop:=g0.nx<=g.nx/\(∀j,j<g0.nx->j≠iu->g.h.get j=g0.h.get j)/\∀j∈g.lg,j∈g0.lg\/j=iu\/g0.nx<=j
theorem Frm.refl(g:G)(iu:Nat):Frm g g iu:=⟨Tp _,λ_ _ _=>rfl,λ_ h=>.inl h⟩
theorem Frm.trans{g0 g1 g2:G}{iu:Nat}(h:Frm g0 g1 iu)(h':Frm g1 g2 iu):Frm g0 g2 iu :=
 ⟨TU h.1 h'.1,λj hj hne=>by rw[h'.2.1 j (TX hj h.1) hne,h.2.1 j hj hne],λj hj=>by
  rcases h'.2.2 j hj with h2|h2|h2
  ·exact h.2.2 j h2
  ·exact .inr (.inl h2)
  ·exact .inr (.inr (TU h.1 h2))⟩
theorem Frm.new(g:G)(o:AObj)(iu:Nat):Frm g (g.new o) iu :=
 ⟨by simp,λj hj _=>by rw[G.new_h,ah _ _ _ (by omega)],λj hj=>by simp at hj;rcases hj with rfl|hj;exact .inr (.inr (Tp _));exact .inl hj⟩
def OkL(m:Causal)(act:List Int)(V:Nat->Int)(L:List Int):Prop:=L.length=m.nodes.length/\∀i,i<m.nodes.length->L[i]?.getD 0=V i\/(L[i]?.getD 0<0/\act[i]?.getD 0<0)
def Keep(L L':List Int):Prop:=∀j:Nat,0<=L[j]?.getD 0->L'[j]?.getD 0=L[j]?.getD 0
theorem Keep.refl(L:List Int):Keep L L:=λ_ _=>rfl
theorem Keep.trans{L L' L'':List Int}(h:Keep L L')(h':Keep L' L''):Keep L L'':=λj hj=>by rw[h' j (by rw[h j hj];exact hj),h j hj]
theorem JV(d p1 p2 p3 p4:Nat)(v:AV)(g:G):io C0 (I C0) d (Oc p1 p2 p3 p4) [v] g=orF ((I C0).call d N.Sf [v,.hptr p1 0 0 0,.hptr p2 0 0 0,.hptr p3 0 0 0,.hptr p4 0 0 0] g):=by kernel_rfl
section
variable {d k:Nat}{m:Causal}{roots act:List Int}{V:Nat->Int}{a b w u:AV}{p1 p2 p3 p4 iu:Nat}{hid:Int}{r:Nat->Nat}
def Qu(d:Nat)(m:Causal)(act:List Int)(V:Nat->Int)(a b w u:AV)(p1 p2 p3 p4 iu:Nat)(hid:Int)(i:Nat):Prop :=
 ∀(L:List Int) (g:G) (K:AV->G->Prop) (D:ADf->Prop),RI g p1 p2 p3 p4 m.grain hid a b w u iu L->OkL m act V L ->
  (∀g' L',RI g' p1 p2 p3 p4 m.grain hid a b w u iu L'->OkL m act V L'->Keep L L'->L'[i]?.getD 0=V i->Frm g g' iu->K (.int .i64 (V i)) g') ->
  (io C0 (I C0) d (Oc p1 p2 p3 p4) [.int .i64 (i:Int)] g).sat K g D
theorem OO{i:Nat}{x:Mech}{fa:AV}{q:Nat}{L:List Int}{t:T}{g:G}{Q:QT}(hck:S.Q_ m=true)(hN:SlR NoP k .nil m.nodes b)(hroots:InC (S.Ra m) roots)(hx:m.nodes[i]?=some x)
  (hVb:∀(i:Nat) (x:Mech),m.nodes[i]?=some x->0<=V i/\V i<x.card) (hfa:SlR NoP k .nil x.frm fa)
  (ih:∀q∈x.frm,Qu d m act V a b w u p1 p2 p3 p4 iu hid q.toNat)
  (ht:St t [(0,.int .i64 (i:Int)),(1,.hptr p1 0 0 0),(2,.hptr p2 0 0 0),(3,.hptr p3 0 0 0),(4,.hptr p4 0 0 0),(7,.hptr q 0 0 0),(29,fa),(8,.int .i64 0)])
  (hi:tat t 31=.int .i64 0) (hn:tat t 30=.int .i64 (x.frm.length:Int)) (hI:RI g p1 p2 p3 p4 m.grain hid a b w u iu L) (hO:OkL m act V L) (hq:q<g.nx/\q≠iu)
  (fin:∀t g' L',St t [(0,.int .i64 (i:Int)),(1,.hptr p1 0 0 0),(2,.hptr p2 0 0 0),(3,.hptr p3 0 0 0),(4,.hptr p4 0 0 0),(7,.hptr q 0 0 0),(29,fa),(8,.int .i64 (hz (S.Rh m x) (S.RC x roots V) x.frm.length))] ->
   RI g' p1 p2 p3 p4 m.grain hid a b w u iu L'->OkL m act V L'->Keep L L'->Frm g g' iu->Q (.exit 0) t [] g') :
  wpL (wp C0 d none fe) Q t [] g:=by
 obtain⟨hs,hgr,hn1,hro,hno⟩:=ap hck;have hxm:=Tv hx;obtain⟨hpf,hpn,-,-⟩:=cK hck hxm;obtain⟨rows,r1,r2,r3,r4⟩:=hN.all;have r1:∀h',ac h' 4 b=some rows:=r1;have hry:=r4 (by omega);have hcl:(S.Rh m x).length<=13:=(cA hck hxm).2;have hin:=mS hck hroots (V:=V) hxm λq hq=>by
  have hql:=aE hpf q hq;have hq2:q.toNat<m.nodes.length:=by omega
  have:=hVb q.toNat _ (Tn hq2);have hc:S.Rf m q=(m.nodes[q.toNat]).card:=by simp[S.Rf,Tn hq2]
  rw[hc];exact this
 have hf5:=bD hpf;have hn5:=hs.nodes;simp only[fe];refine aq (m:=x.frm.length) (by omega) (λj t df g'=>df=[]/\St t [(0,.int .i64 (i:Int)),(1,.hptr p1 0 0 0),(2,.hptr p2 0 0 0),(3,.hptr p3 0 0 0),(4,.hptr p4 0 0 0),(7,.hptr q 0 0 0),(29,fa),(8,.int .i64 (hz (S.Rh m x) (S.RC x roots V) j))] /\
   ∃L',RI g' p1 p2 p3 p4 m.grain hid a b w u iu L'/\OkL m act V L'/\Keep L L'/\Frm g g' iu)
  ⟨rfl,by rw[IE];exact ht,L,hI,hO,Keep.refl L,Frm.refl g iu⟩ hi hn (by decide) (by rintro j t df g v s (rfl|rfl|rfl)<;>simp[St,sx]) ?_ ?_
 ·rintro j t df g' hj ⟨rfl,⟨h0,h1,h2,h3,h4,h7,h29,h8,-⟩,L',hI',hO',hK',hF'⟩ h31 h30;obtain⟨y,hy,-,hym⟩:=af hj;obtain⟨hy0,hy1⟩:=aE hpf y hym;obtain⟨n,rfl⟩:=Ty hy0;have hnl:n<m.nodes.length:=by omega
  obtain⟨z,hz',-,hzm⟩:=af hnl;obtain⟨row,q1,q2⟩:=r3 n z hz';obtain⟨ga,gb,gc,rfl,-,-,-⟩:=dG.1 q2;have hlt:n<rows.length:=by omega
  have hcd:=hs.card z hzm;have hVz:=hVb n z hz';have hlj:j<(x.frm.map ci).length:=by simpa using hj
  have hlr:(x.frm.map ci)[j]?=some (ci (n:Int)):=by rw[Tt,hy];rfl
  have hs1:(S.Rh m x)[j]?=some z.card:=by rw[S.Rh,TD (by simpa using hj),Tt,hy];simp[S.Rf,hz']
  have hs2:(S.RC x roots V)[j]?=some (V n):=by rw[S.RC,TD (by simpa using hj),Tt,hy];simp
  have hb:=qa (cA hck hxm).1 hcl hin j;have hb2:=qa (cA hck hxm).1 hcl hin (j+1);have hsuc:=DZ hs1 hs2;have hmul:0<=hz (S.Rh m x) (S.RC x roots V) j*z.card:=Ur hb.1 (by omega);have hmul2:hz (S.Rh m x) (S.RC x roots V) j*z.card<=67108864*4:=Uk hb.2 hcd.2 (by omega) (by decide);simp only[sx,sy,sf,SO.run,↓reduceIte,Nat.reduceEqDiff,h2,h3,h8,h29,h31,hI'.b2,hI'.b3,(hfa.tree (h':=g'.h) (Tp _)).ints,hlj,hlr,ci,r1,hlt,q1,hry,Tx,Tq,eE hry,dD,hN.refs,
   au (show -9223372036854775808<=hz (S.Rh m x) (S.RC x roots V) j*z.card by omega) (show hz (S.Rh m x) (S.RC x roots V) j*z.card<9223372036854775808 by omega)]
  have hy':=ih (n:Int) hym;rw[TH]at hy';refine hy' L' _ _ _ (hI'.fr (by simp;omega) (λj _=>by simp)) hO' λg2 L2 hI2 hO2 hK2 _ hF2=>?_;simp only[sx,sy,sf,SO.run,↓reduceIte,Nat.reduceEqDiff,h0,h1,h2,h3,h4,h7,h29,h30,h31,<-hsuc,
   au (show -9223372036854775808<=hz (S.Rh m x) (S.RC x roots V) (j+1) by omega) (show hz (S.Rh m x) (S.RC x roots V) (j+1)<9223372036854775808 by omega),St]
  have hw2:∀i∈g2.lg,i=iu\/g'.nx<=i:=λi hi=>by
   rcases hF2.2.2 i hi with h|h|h
   ·simp at h
   ·exact .inl h
   ·simp at h;exact .inr (by omega)
  refine⟨?_,L2,hI2.fr (by simp;omega) (λj _=>by simp),hO2,hK'.trans hK2,?_⟩
  ·simp only[TM,TS,TL,TJ];refine aI [false,false,false,false,false,false,false,false,false,false,false,true,false,false] [(0,11),(1,11),(2,11),(3,11),(4,11),(5,11),(6,11),(7,11),(8,11)] (by simp[All2,ae,aw,PW]) (by decide) ?_;rintro p hp x y hx hy;simp only[T3,TV,U_]at hp;rcases hp with rfl|rfl|rfl|rfl|rfl|rfl|rfl|rfl|rfl<;>(simp at hx hy;subst hx;subst hy;refine JG rfl rfl rfl λi hi hc=>?_)<;>simp[ae,aw]at hc;subst hc;have:=hI'.lt;have:=hI'.ne;rcases hw2 _ hi with h|h<;>omega
  ·refine hF'.trans ⟨?_,?_,?_⟩
   ·have:=hF2.1;simp at this ⊢;omega
   ·intro j hj hne;have:=hF2.2.1 j (by simp;omega) hne;simpa using this
   ·intro j hj;simp at hj;rcases hj with hj|hj
    ·rcases hw2 j hj with h|h
     ·exact .inr (.inl h)
     ·exact .inr (.inr h)
    ·exact .inl hj
 ·rintro t df g' ⟨rfl,ht',L',hI',hO',hK',hF'⟩;exact fin t g' L' ht' hI' hO' hK' hF'
end
end
end Hx
end
section
namespace Hx
open Go
noncomputable section
theorem Ku(a b c e p:AV)(t:T):cy 0 [a,b,c,e,p] t=fQ (fQ (fQ (fQ (fQ t 0 a) 1 b) 2 c) 3 e) 4 p:=rfl
theorem Cr(f:Nat)(xs cs:List AV):(AV.clo f xs cs).cells=[.clo f xs cs]:=rfl
theorem Kf(f:Nat)(xs cs:List AV):(AV.clo f xs cs).isTup=false:=rfl
theorem vZ{g:G}{b:Nat}{v:AV}{sz n i off:Nat}{rows:List (List AV)}{row row':List AV}{x:AV}{K:AV->G->Prop}{D:ADf->Prop}(hv:Own g b v sz rows)(hr:rows[i]?=some row)
  (hl:x.cells.length=n) (ht:x.isTup=false) (hp:cL row off x.cells=some row')
  (k:∀g',Own g' b v sz (rows.set i row')->g'.nx=g.nx->(∀i,vid v≠some i->g'.h.get i=g.h.get i)->(∀j∈g'.lg,j∈g.lg\/vid v=some j)->K .undef g'):(qQ n (nX sz v i off) x g).sat K g D:=by
 rcases hv with⟨rfl,rfl⟩|⟨id,ep,lo,h1,h2,rfl,h3⟩
 ·simp at hr
 ·simp only[nX,T6];rw[Bj h3 hr rfl ht hl hp];refine k _ (.inr ⟨id,ep,lo,h1,by simpa using h2,by simp,by simp[aU]⟩) (by simp) (λi hne=>?_) (λj hj=>?_)
  ·rw[G.put_h,ah _ _ _ (λe=>hne (by rw[e];rfl))]
  ·simp at hj;rcases hj with rfl|hj
   ·exact .inr rfl
   ·exact .inl hj
section
variable {d k:Nat}{m:Causal}{roots act:List Int}{V:Nat->Int}{a b w u:AV}{p1 p2 p3 p4 iu:Nat}{hid:Int}
theorem OP{i:Nat}{x:Mech}{fb:AV}{q:Nat}{t:T}{g:G}{Q:QT}(hck:S.Q_ m=true)(hR:SlR NoP k .nil m.roots a)(hw:SlR NoP k .nil roots w)(hroots:InC (S.Ra m) roots)(hx:m.nodes[i]?=some x)
  (hVb:∀(i:Nat) (x:Mech),m.nodes[i]?=some x->0<=V i/\V i<x.card) (hfb:SlR NoP k .nil x.noise fb)
  (ht:St t [(0,.int .i64 (i:Int)),(1,.hptr p1 0 0 0),(2,.hptr p2 0 0 0),(4,.hptr p4 0 0 0),(7,.hptr q 0 0 0),(50,fb),(8,.int .i64 (hz (S.Rh m x) (S.RC x roots V) x.frm.length))])
  (hi:tat t 52=.int .i64 0) (hn:tat t 51=.int .i64 (x.noise.length:Int)) (h2:g.h.get p2=We 4 [[.int .i64 m.grain,a,b,.int .i64 hid]]) (h4:g.h.get p4=We 1 [[w]])
  (fin:∀t,St t [(0,.int .i64 (i:Int)),(1,.hptr p1 0 0 0),(2,.hptr p2 0 0 0),(4,.hptr p4 0 0 0),(7,.hptr q 0 0 0),(50,fb),(8,.int .i64 (S.Q9 (S.Rh m x) (S.RC x roots V)))]->Q (.exit 2) t [] g) :
  wpL (wp C0 d none ff) Q t [] g:=by
 obtain⟨hs,hgr,hn1,hro,hno⟩:=ap hck;have hxm:=Tv hx;obtain⟨hpf,hpn,-,-⟩:=cK hck hxm;obtain⟨rows,r1,r2,r3,r4⟩:=hR.all;have r1:∀h',ac h' 1 a=some rows:=r1;have hcl:(S.Rh m x).length<=13:=(cA hck hxm).2;have hin:=mS hck hroots (V:=V) hxm λq hq=>by
  have hql:=aE hpf q hq;have hq2:q.toNat<m.nodes.length:=by omega
  have:=hVb q.toNat _ (Tn hq2);have hc:S.Rf m q=(m.nodes[q.toNat]).card:=by simp[S.Rf,Tn hq2]
  rw[hc];exact this
 have hf5:=bD hpn;have hn5:=hs.roots;have hrl:roots.length=m.roots.length:=by rw[hroots.len,bS]
 simp only[ff];refine aq (m:=x.noise.length) (by omega) (λj t df g'=>df=[]/\g'=g/\St t [(0,.int .i64 (i:Int)),(1,.hptr p1 0 0 0),(2,.hptr p2 0 0 0),(4,.hptr p4 0 0 0),(7,.hptr q 0 0 0),(50,fb),(8,.int .i64 (hz (S.Rh m x) (S.RC x roots V) (x.frm.length+j)))])
  ⟨rfl,rfl,ht⟩ hi hn (by decide) (by rintro j t df g v s (rfl|rfl|rfl)<;>simp[St,sx]) ?_ ?_
 ·rintro j t df g' hj ⟨rfl,rfl,⟨h0,h1,h2',h4',h7,h50,h8,-⟩⟩ h52 h51;obtain⟨y,hy,-,hym⟩:=af hj;obtain⟨hy0,hy1⟩:=aE hpn y hym;obtain⟨n,rfl⟩:=Ty hy0;have hnl:n<m.roots.length:=by omega
  obtain⟨z,hz',-,hzm⟩:=af hnl;obtain⟨row,q1,q2⟩:=r3 n z hz';obtain⟨zz,rfl,hzz⟩:=f6.1 q2;have hlt:n<rows.length:=by omega
  have hcd:=hs.len z hzm;have hlj:j<(x.noise.map ci).length:=by simpa using hj
  have hlr:(x.noise.map ci)[j]?=some (ci (n:Int)):=by rw[Tt,hy];rfl
  obtain⟨rv,hrv,hrv0⟩:=hroots.get (i:=n) (c:=(z.length:Int)) (by simp[S.Ra,hz']);have hrl1:(roots.map ci)[n]?=some (ci rv):=by rw[Tt,hrv];rfl
  have hrl2:n<(roots.map ci).length:=by rw[Tz];omega
  have hs1:(S.Rh m x)[x.frm.length+j]?=some (z.length:Int):=by rw[S.Rh,TB (by simp)];simp[hy,S.RS,hz']
  have hs2:(S.RC x roots V)[x.frm.length+j]?=some rv:=by rw[S.RC,TB (by simp)];simp[hy,hrv]
  have hb:=qa (cA hck hxm).1 hcl hin (x.frm.length+j);have hb2:=qa (cA hck hxm).1 hcl hin (x.frm.length+j+1);have hsuc:=DZ hs1 hs2;have hmul:0<=hz (S.Rh m x) (S.RC x roots V) (x.frm.length+j)*(z.length:Int):=Ur hb.1 (by omega);have hmul2:hz (S.Rh m x) (S.RC x roots V) (x.frm.length+j)*(z.length:Int)<=67108864*4:=Uk hb.2 (by omega) (by omega) (by decide);simp only[sx,sy,SO.run,↓reduceIte,Nat.reduceEqDiff,h0,h1,h2,h4,h2',h4',h7,h8,h50,h51,h52,(hfb.tree (h':=g'.h) (Tp _)).ints,(hw.tree (h':=g'.h) (Tp _)).ints,hlj,hlr,hrl1,hrl2,ci,r1,hlt,q1,hzz.len,Tx,Tq,
   au (show -9223372036854775808<=hz (S.Rh m x) (S.RC x roots V) (x.frm.length+j)*(z.length:Int) by omega) (show hz (S.Rh m x) (S.RC x roots V) (x.frm.length+j)*(z.length:Int)<9223372036854775808 by omega),<-hsuc,
   au (show -9223372036854775808<=hz (S.Rh m x) (S.RC x roots V) (x.frm.length+j+1) by omega) (show hz (S.Rh m x) (S.RC x roots V) (x.frm.length+j+1)<9223372036854775808 by omega),St]
  rfl
 ·rintro t df g' ⟨rfl,rfl,ht'⟩;have e:x.frm.length+x.noise.length=(S.Rh m x).length:=by simp[S.Rh]
  rw[e,Mi hin.len.symm]at ht';exact fin t ht'
theorem OQ(hck:S.Q_ m=true)(hR:SlR NoP k .nil m.roots a)(hN:SlR NoP k .nil m.nodes b)(hw:SlR NoP k .nil roots w)(hroots:InC (S.Ra m) roots)(hV:Sol m roots act V)
  (hVb:∀(i:Nat) (x:Mech),m.nodes[i]?=some x->0<=V i/\V i<x.card) {r:Nat->Nat} (hr:∀(i:Nat) (x:Mech),m.nodes[i]?=some x->∀q∈x.frm,r q.toNat<r i) :
  ∀n i,r i=n->i<m.nodes.length->Qu d m act V a b w u p1 p2 p3 p4 iu hid i:=by
 obtain⟨hs,hgr,hn1,hro,hno⟩:=ap hck;obtain⟨rows,r1,r2,r3,r4⟩:=hN.all;have r1:∀h',ac h' 4 b=some rows:=r1;have hry:=r4 (by omega);intro n
 induction n using Nat.strongRecOn with
 | _ n ih =>
  intro i hri hi L g K D hI hO kk;obtain⟨x,hx,-,hxm⟩:=af hi;obtain⟨hpf,hpn,hpo,hpc⟩:=cK hck hxm;obtain⟨row,q1,q2⟩:=r3 i x hx;obtain⟨fa,fb,fc,rfl,hfa,hfb,hfc⟩:=dG.1 q2;have hlt:i<rows.length:=by omega
  have hLi:i<(L.map ci).length:=by rw[Tz,hO.1];exact hi
  obtain⟨y,hy⟩:∃y,L[i]?=some y:=⟨_,Tn (by rw[hO.1];exact hi)⟩;have hLy:(L.map ci)[i]?=some (ci y):=by rw[Tt,hy];rfl
  have hOi:=hO.2 i hi;rw[hy,Tq]at hOi;have hVi:=hVb i x hx;rw[JV];refine mD uv (by simp[gZ]) ?_;simp only[gZ,Ku,sx,SO.run,↓reduceIte,Nat.reduceEqDiff,hI.b1,hI.ow.rows,hLi,hLy,ci,Tx,Tq];refine aR (λhb=>?_) (λhb=>?_)
  ·have hy0:0<=y:=by simpa using hb
   simp only[sx,SO.run,↓reduceIte,Nat.reduceEqDiff,hI.b1,hI.ow.rows,hLi,hLy,ci,Tx,Tq];have e:y=V i:=by omega
   rw[e];exact kk g L hI hO (Keep.refl L) (by rw[hy,e];rfl) (Frm.refl g iu)
  ·have hy0:¬0<=y:=by simpa using hb
   have hai:act[i]?.getD 0<0:=by omega
   have hqne:∀j,j<g.nx->¬j=g.nx:=λj hj=>by omega
   simp only[sx,sy,SO.run,↓reduceIte,Nat.reduceEqDiff,Nat.reduceAdd,Nat.reduceLeDiff,hI.b2,r1,hlt,q1,Tx,Tq,hfa.len];have hF0:=(Frm.new g (We 4 [[AV.int IntKind.i64 0,AV.nils,AV.nils,AV.nils]]) iu);have hiug:iu<g.nx:=(hI.ow.lt hI.vi).2;refine OO (i:=i) (x:=x) (q:=g.nx) (L:=L) (k:=k) (roots:=roots) hck hN hroots hx hVb hfa (λq hq=>ih (r q.toNat) (by have:=hr i x hx q hq;omega) q.toNat rfl (by have:=aE hpf q hq;omega)) (by simp[St,sx]) (by simp[sx]) (by simp[sx])
    (hI.fr (by simp) (λj hj=>by simp[Q_,show ¬j=g.nx by omega])) hO (by simp;omega) λt2 g2 L2 ht2 hI2 hO2 hK2 hF2=>?_
   obtain⟨h0,h1,h2,h3,h4,h7,h29,h8,-⟩:=ht2;have hq2:g2.h.get g.nx=We 4 [[.int .i64 x.card,fa,fb,fc]]:=by rw[hF2.2.1 g.nx (by simp) (by omega)];simp[Q_]
   have hgn2:g.nx<g2.nx:=by have:=hF2.1;simp at this;omega
   simp only[jK,sx,sy,SO.run,↓reduceIte,h7,hq2,hfb.len];refine OP (i:=i) (x:=x) (q:=g.nx) (k:=k) (p1:=p1) (p2:=p2) (p4:=p4) (b:=b) (hid:=hid) hck hR hw hroots hx hVb hfb (by simp[St,sx,h0,h1,h2,h4,h7,h8]) (by simp[sx]) (by simp[sx]) hI2.b2 hI2.b4 λt3 ht3=>?_;obtain⟨h0,h1,h2,h4,h7,h50,h8,-⟩:=ht3;have hin:=mS hck hroots (V:=V) hxm λq hq=>by
    have hql:=aE hpf q hq;have hq2:q.toNat<m.nodes.length:=by omega
    have:=hVb q.toNat _ (Tn hq2);have hc:S.Rf m q=(m.nodes[q.toNat]).card:=by simp[S.Rf,Tn hq2]
    rw[hc];exact this
   have hib:=bY (cA hck hxm).1 hin;rw[<-hpo]at hib;obtain⟨z,hz⟩:=Ty hib.1;have hzl:z<x.out.length:=by omega
   have hval:V i=x.out[z]:=by rw[hV i x hx,S.SH,TF (by omega),hz];show (x.out[z]?).getD 0=_;rw[Tn hzl];rfl
   have hol:z<(x.out.map ci).length:=by simpa using hzl
   have hor:(x.out.map ci)[z]?=some (ci (V i)):=by rw[Tt,Tn hzl,hval];rfl
   have hL2i:i<(L2.map ci).length:=by rw[Tz,hO2.1];exact hi
   obtain⟨y2,hy2⟩:∃y2,L2[i]?=some y2:=⟨_,Tn (by rw[hO2.1];exact hi)⟩;have hL2y:(L2.map ci)[i]?=some (ci y2):=by rw[Tt,hy2];rfl
   rw[hz]at h8;have how2:∀g':G,g2.nx<=g'.nx->g'.h=g2.h->Own g' 0 u 1 (L2.map ci):=λg' hn hh=>hI2.ow.fr hn λi _=>by rw[hh]
   have hru:rR u=true:=qO hI2.ow.rows hL2i;have hrfc:ak fc=[]:=(hfc.tree (h':=.nil) (Tp _)).refs;simp only[jJ,sx,sy,sf,SO.run,↓reduceIte,Nat.reduceEqDiff,h0,h1,h7,h8,hI2.b1,hq2,hI2.ow.rows,hL2i,(hfc.tree (h':=g2.h) (Tp _)).ints,hol,hor,ci,Tx,Tq];refine vZ (rows:=L2.map ci) (row:=ci y2) (row':=ci (V i)) (b:=0) (how2 _ (by simp;omega) (by simp)) hL2y rfl rfl rfl λg3 o3 n3 f3 l3=>?_;have eL:(L2.map ci).set i (ci (V i))=(L2.set i (V i)).map ci:=by rw[UJ]
   rw[eL]at o3;have hL3i:i<((L2.set i (V i)).map ci).length:=by simp;rw[hO2.1];exact hi
   have hL3y:((L2.set i (V i)).map ci)[i]?=some (ci (V i)):=by rw[Tt,Ux (by rw[hO2.1];exact hi)];rfl
   have hf3:∀j,j≠iu->g3.h.get j=g2.h.get j:=λj hj=>by rw[f3 j (λe=>hj (by rw[hI2.vi]at e;injection e with e;exact e.symm))];simp
   have hi1:=hI2.ne;have hi2:=hI2.lt;simp only[sx,sy,SO.run,↓reduceIte,Nat.reduceEqDiff,h0,h1,hf3 p1 (UP hi1.1),hI2.b1,o3.rows,hL3i,hL3y,ci,Tx,Tq];refine⟨?_,?_⟩
   ·simp only[TM,TS,TL,TJ];exact aI [false,false,false,false,false,false,false,false,true] [] (by simp[All2,ae,aw]) (by decide) (by simp)
   ·have hOi2:=hO2.2 i hi;rw[hy2,Tq]at hOi2;have hn3:g2.nx<=g3.nx:=by rw[n3];simp;omega
    have hset:∀j:Nat,(L2.set i (V i))[j]?.getD 0=if i=j then V i else L2[j]?.getD 0:=λj=>by
     rw[VL]
     by_cases e:i=j
     ·subst e;rw[TE rfl,TE rfl,TE (by rw[hO2.1];exact hi)];rfl
     ·rw[TF e,TF e]
    have keep:Keep L2 (L2.set i (V i)):=λj hj=>by
     rw[hset]
     split
     ·rename_i e;subst e;rw[hy2,Tq]at hj ⊢;omega
     ·rfl
    refine kk _ (L2.set i (V i)) ⟨?_,?_,?_,?_,?_,hI2.vi,hI2.ne,?_⟩ ⟨by rw[List.length_set];exact hO2.1,λj hj=>?_⟩ (hK2.trans keep) (by rw[hset,TE rfl]) ?_
    ·simp only[bumpG_h];rw[hf3 p1 (UP hi1.1),hI2.b1]
    ·simp only[bumpG_h];rw[hf3 p2 (UP hi1.2.1),hI2.b2]
    ·simp only[bumpG_h];rw[hf3 p3 (UP hi1.2.2.1),hI2.b3]
    ·simp only[bumpG_h];rw[hf3 p4 (UP hi1.2.2.2),hI2.b4]
    ·exact o3.fr (by simp) λj _=>by simp
    ·simp;omega
    ·rw[hset]
     split
     ·rename_i e;subst e;exact .inl rfl
     ·exact hO2.2 j hj
    ·have hF1:Frm g g2 iu:=by
      refine⟨by omega,λj hj hne=>?_,λj hj=>?_⟩
      ·rw[hF2.2.1 j (by simp;omega) hne];simp[Q_,show ¬j=g.nx by omega]
      ·rcases hF2.2.2 j hj with h|h|h
       ·simp at h;rcases h with h|h
        ·exact .inr (.inr (by omega))
        ·exact .inl h
       ·exact .inr (.inl h)
       ·simp at h;exact .inr (.inr (by omega))
     refine hF1.trans ⟨by simp;omega,λj hj hne=>?_,λj hj=>?_⟩
     ·simp only[bumpG_h];exact hf3 j hne
     ·simp at hj;rcases hj with hj|hj
      ·rcases l3 j hj with h|h
       ·simp at h
       ·rw[hI2.vi]at h;injection h with h;exact .inr (.inl h.symm)
      ·exact .inl hj
theorem HR{P Pw Pa:Nat->Prop}{kw ka:Nat}{g:G}{v rv av:AV}(hd:0<d)(hm:Agg (⟨m,hid⟩:KnownM) P k g.h v)(hrv:SlR Pw kw g.h roots rv)(hav:SlR Pa ka g.h act av)(hck:S.Q_ m=true)(hroots:InC (S.Ra m) roots)(ha:S.Rd m act=true) :
  ∃z,an C0 d N.Sa [v,rv,av] g=.val z/\IT 0 (S.Rg m roots act) z:=by
 obtain⟨v',e,cs,rfl,hc⟩:=eZ (bz _) (by decide) d hm;obtain⟨a,b,rfl,hR,hN⟩:=dF.1 hc;obtain⟨w',e2,r2⟩:=cX hrv d;obtain⟨u',e3,r3⟩:=cX hav d;obtain⟨hs,hgr,hn1,hro,hno⟩:=ap hck;have hal:=jP ha;have hn5:=hs.nodes;have hR':=hR.tree (h':=.nil) (k':=max (max k d) (max kw d)) (by omega);have hN':=hN.tree (h':=.nil) (k':=max (max k d) (max kw d)) (by omega);have hW':=(r2 .nil).tree (h':=.nil) (k':=max (max k d) (max kw d)) (by omega);obtain⟨rk,hrk⟩:=C1 hck;have hV:=Jp hck roots act;have hVb:=C_ hck hroots ha hV;rw[uu];refine bg wF (xs:=[.agg [.int .i64 m.grain,a,b,.int .i64 hid],w',u']) (by simp only[aK,e,e2,e3]) (by simp[j_]) (a9 _) (by decide) hd ?_;simp only[j_,nz,sx,sy,SO.run,↓reduceIte,Nat.reduceEqDiff,Nat.reduceAdd];have cw:=(r2 .nil).cell;simp only[sx,sy,SO.run,↓reduceIte,Nat.reduceEqDiff,Nat.reduceAdd,cw.1,cw.2];generalize hg0:((G.empty.new (We 4 [[AV.int IntKind.i64 m.grain,a,b,AV.int IntKind.i64 hid]])).new (We 1 [[w']])).new (We 1 [])=g0;have f0:g0.h.get 0=We 4 [[.int .i64 m.grain,a,b,.int .i64 hid]]:=by rw[<-hg0];simp[sx,Q_]
 have f1:g0.h.get 1=We 1 [[w']]:=by rw[<-hg0];simp[sx,Q_]
 have f2:g0.h.get 2=We 1 []:=by rw[<-hg0];simp[sx]
 have fn:g0.nx=3:=by rw[<-hg0];simp[sx]
 clear hg0;refine aT (b:=2) (v:=.hsl 2 0 0 0 none) (rows:=[]) (new:=act.map ci) (.inr ⟨2,0,false,by omega,by omega,rfl,f2⟩) (by have:=(r3 g0.h).ints;exact this) (by omega) (by simp[aQ];omega) λu g1 hu n1 fr1 vid1 _=>?_;rw[TL]at hu;have hne:∃iu,vid u=some iu:=by
  rcases hu with⟨-,e⟩|⟨id,ep,lo,-,-,rfl,-⟩
  ·have:=congrArg List.length e;simp at this;rw[this]at hal;simp at hal;omega
  ·exact⟨id,rfl⟩
 obtain⟨iu,hiu⟩:=hne;have hul:=hu.lt hiu;have cu:=hu.cell;have e0:g1.h.get 0=We 4 [[.int .i64 m.grain,a,b,.int .i64 hid]]:=by rw[fr1 0 (by omega) (by simp[vid]),f0]
 have e1:g1.h.get 1=We 1 [[w']]:=by rw[fr1 1 (by omega) (by simp[vid]),f1]
 have q0:¬(0:Nat)=g1.nx:=by omega
 have q1:¬(1:Nat)=g1.nx:=by omega
 have q2:¬g1.nx=g1.nx+1:=by omega
 have qi:¬iu=g1.nx:=by omega
 have qi2:¬iu=g1.nx+1:=by omega
 have hO0:OkL m act (S.V m roots act) act:=⟨hal.1,λi hi=>by
  have hx:=Tn hi
  by_cases h:0<=act[i]?.getD 0
  ·left;rw[hV i _ hx,S.SH,TE h]
  ·right;omega⟩
 have hul':dm .slice u g1=.val (.int .i64 (m.nodes.length:Int)):=by rw[FB hu.rows,Tz,hal.1]
 have hul2:∀g,dm .slice u g=.val (.int .i64 (m.nodes.length:Int)):=λg=>by rw[bQ hu.rows,Tz,hal.1]
 simp only[sx,sy,SO.run,↓reduceIte,Nat.reduceEqDiff,Nat.reduceLeDiff,cu.1,cu.2];rw[l5 _ _ _ _ _ _ _ _ _ _ (by simp only[Cr,Ud,Vi,T6]) (Kf _ _ _)];simp only[mi,sx,sy,SO.run,↓reduceIte,Nat.reduceEqDiff,Nat.reduceLeDiff,Cr,q2,hul2];refine aq (m:=m.nodes.length) (by omega) (λj t df g'=>df=[]/\St t [(7,.hptr g1.nx 0 0 0),(8,.hptr (g1.nx+1) 0 0 0)]/\∃L',RI g' g1.nx 0 (g1.nx+1) 1 m.grain hid a b w' u iu L'/\OkL m act (S.V m roots act) L'/\∀n,n<j->L'[n]?.getD 0=S.V m roots act n)
  ⟨rfl,by simp[St,sx],act,⟨?_,?_,?_,?_,?_,hiu,by omega,by simp;omega⟩,hO0,λn hn=>absurd hn (V1 n)⟩ (by simp[sx]) (by simp[sx]) (by decide) (by rintro j t df g v s (rfl|rfl|rfl)<;>simp[St,sx]) ?_ ?_
 ·simp[Q_]
 ·simp[Q_,q0,e0]
 ·simp[Q_,Oc]
 ·simp[Q_,q1,e1,show ¬g1.nx=0 by omega]
 ·exact (show Own g1 0 u 1 (act.map ci) from by
   rcases hu with h|⟨id,ep,lo,h1,h2,h3,h4⟩
   ·exact .inl h
   ·exact .inr ⟨id,ep,lo,by omega,h2,h3,h4⟩).fr (by simp;omega) λi hi=>by
    rw[hiu]at hi;injection hi with hi;subst hi;simp[Q_,qi,qi2]
 ·rintro j t df g' hj ⟨rfl,⟨h7,h8,-⟩,L',hI',hO',hd'⟩ h16 h15;simp only[sx,SO.run,↓reduceIte,Nat.reduceEqDiff,h8,h16,hI'.b3];refine OQ (k:=max (max k d) (max kw d)) hck hR' hN' hW' hroots hV hVb hrk (rk j) j rfl hj L' _ _ _ hI' hO' λg2 L2 hI2 hO2 hK2 hv2 _=>?_;simp only[sx,sy,↓reduceIte,Nat.reduceEqDiff,h7,h8,h15,h16,St];refine⟨L2,hI2,hO2,λn hn=>?_⟩
  by_cases e:n=j
  ·subst e;exact hv2
  ·have hn':n<j:=by omega
   rw[hK2 n (by rw[hd' n hn'];exact (hVb n _ (Tn (show n<m.nodes.length by omega))).1),hd' n hn']
 ·rintro t df g' ⟨rfl,⟨h7,h8,-⟩,L',hI',hO',hd'⟩;simp only[mj,sx,SO.run,↓reduceIte,h7,hI'.b1];have eL:L'=S.Rg m roots act:=by refine Uz (by rw[hO'.1];simp[S.Rg]) λn h1 h2=>?_;have:=hd' n (by rw[<-hO'.1];exact h1);rw[Tn h1,Tq]at this;rw[this];simp[S.Rg]
  have:=hI'.ow;rw[eL]at this;exact⟨_,this.ints (by simp[S.Rg];omega)⟩
end
end
end Hx
end
section
namespace Hx
open Go
noncomputable section
theorem KE(m:Causal)(al:List Int):S.Rs m [al]=if S.Q_ m then (if S.Rd m al then 0 else 2) else 330:=by unfold S.Rs;simp
def qr(l:List Int)(h:Int)(X:List Int)(j:Nat):List Int:=(List.range l.length).map λi=>if j<=i then S.Sa l h i else X[i]?.getD 0
theorem LD{l X:List Int}{h:Int}{j:Nat}:(qr l h X (j+1)).set j (S.Sa l h j)=qr l h X j:=by
 refine Uz (by simp[qr]) λi h1 h2=>?_;rw[List.getElem_set];simp only[qr,UN,U1]
 split
 ·rename_i hi;subst hi;rw[TE (Tp _)]
 ·rename_i hi
  by_cases hji:j+1<=i
  ·rw[TE hji,TE (by omega)]
  ·rw[TF hji,TF (by omega)]
theorem JU(l X:List Int)(h:Int):qr l h X 0=S.Rb l h:=by simp[qr,S.Rb]
theorem LE{l X:List Int}(h:Int)(hX:X.length=l.length):qr l h X l.length=X:=by
 refine Uz (by simp[qr,hX]) λi h1 h2=>?_;have:i<l.length:=by simpa [qr] using h1
 simp only[qr,UN,U1];rw[TF (by omega),Tn h2,Tq]
theorem wz(l X:List Int)(h:Int)(j:Nat):(qr l h X j).length=l.length:=by simp[qr]
theorem LC{l X:List Int}{h:Int}{j i:Nat}(hi:i<l.length):∃y,((qr l h X j).map ci)[i]?=some (ci y):=by exact⟨(qr l h X j)[i]'(by rw[wz];exact hi),by rw[Tt,Tn (by rw[wz];exact hi)];rfl⟩
theorem tU{l:List Int}(hl:∀c∈l,0<c){h:Int}(hh:0<=h):InC l (S.Rb l h):=by refine xW (by simp[S.Rb]) λi c v hc hv=>?_;have hi:=(Tu.1 hc).1;have hb:=sB hl hh hi;rw[S.Rb,Tt,U3 hi]at hv;injection hv with hv;rw[Tn hi]at hc;injection hc with hc;rw[<-hv,<-hc];exact hb
theorem KC{l:List Int}{h:Int}{j:Nat}{c:Int}(hc:l[j]?=some c):S.Si (l.drop j) h=S.Si (l.drop (j+1)) h / c/\S.Sa l h j=S.Si (l.drop (j+1)) h % c:=by
 have hj:=(Tu.1 hc).1;have:l.drop j=c::l.drop (j+1):=by rw[UE hj];congr 1;rw[Tn hj]at hc;injection hc
 exact⟨by rw[this];rfl,by rw[S.Sa,hc];rfl⟩
theorem OE{al:List Int}{l:AV}{q:Nat}{h:H}(hl:SlR NoP 0 .nil al l)(hq:h.get q=We 1 [[l]]):SlR (λ_=>True) 0 h [al] (.hsl q 0 0 1 none):=by
 refine⟨by show 1<_;decide,trivial,[[l]],?_,?_,trivial⟩
 ·show ac h 1 _=_;simp only[ac,hq];rfl
 ·obtain⟨w,hw,q⟩:=Rp.tree (P:=λ_=>True) (k':=0) (h':=h) (show Rp.rp NoP 0 .nil al [l] from ⟨l,rfl,hl⟩) (Tp _);exact⟨w,hw,q⟩
def WdV(x:KnownM):VS:=λP k h v=>∃p,v=.clo N.Q8 [] [p] /\
 ((∃id cs,p=.hptr id 0 0 0/\P id/\h.get id=We 4 [cs]/\Rp.rp P k h x cs)\/∃t cs,p=.tptr t 4 [cs] 0 0/\t<=k/\Rp.rp NoP k .nil x cs)
theorem Qi(x:KnownM):Snb (WdV x) 2:=by
 refine⟨λ{P k h v n} d r hn=>?_,λ{k h v n} r hn=>?_⟩
 ·obtain⟨p,rfl,r⟩:=r;obtain⟨n,rfl⟩:∃q,n=q+2:=⟨n - 2,by omega⟩;rcases r with⟨id,cs,rfl,-,hg,r⟩|⟨t,cs,rfl,ht,r⟩
  ·obtain⟨cs',e,r'⟩:=Rp.snap (n:=n) d r (by show (_:Nat)<=n;exact TU (show Rp.dp KnownM<=20 by decide) (by omega)) (by decide);obtain⟨m,e2,l2⟩:=Rp.tag (n:=aD) r' (by decide);refine⟨.clo N.Q8 [] [.tptr (Nat.max d (Nat.max m 0)) 4 [cs'] 0 0],?_,_,rfl,.inr ⟨_,cs',rfl,?_,r'⟩⟩
   ·have:Hx.snap h d (n+1) (.hptr id 0 0 0)=some (.tptr (Nat.max d (Nat.max m 0)) 4 [cs'] 0 0):=by simp only[Hx.snap,hg,show Nat.beq 0 0=true from rfl,aK,e,fq,gQ,e2]
    simp only[Hx.snap,aK]at this ⊢;rw[this]
   ·show max d (max m 0)<=max k d;omega
  ·refine⟨.clo N.Q8 [] [.tptr t 4 [cs] 0 0],rfl,_,rfl,.inr ⟨t,cs,rfl,by omega,Rp.mono r (λi hi=>hi.elim) (by omega)⟩⟩
 ·obtain⟨p,rfl,r⟩:=r;obtain⟨n,rfl⟩:∃q,n=q+2:=⟨n - 2,by omega⟩;rcases r with⟨id,cs,rfl,hP,-⟩|⟨t,cs,rfl,ht,r⟩
  ·exact hP.elim
  ·exact⟨Nat.max t 0,rfl,by show max t 0<=k;omega⟩
theorem Dl{d:Nat}{g:G}{v:AV}{x:KnownM}(hd:0<d)(hm:Agg x NoP 0 g.h v) :
  ∃cs,an C0 d N.RG [v] g=.val (.clo N.Q8 [] [.tptr 0 4 [cs] 0 0])/\Rp.rp NoP 0 .nil x cs:=by
 have e0:=cW d hm;obtain⟨cs,rfl,hc⟩:=hm;obtain⟨a,b,rfl,hR,hN⟩:=dF.1 hc;have key:∃r,an C0 d N.RG [.agg [.int .i64 x.m.grain,a,b,.int .i64 x.hidden]] g=.val r/\WdV x NoP 0 .nil r:=by rw[qo];refine bg sH (xs:=[.agg [.int .i64 x.m.grain,a,b,.int .i64 x.hidden]]) (by simp only[aK,e0]) (by simp[gx]) (Qi x) (by decide) hd ?_;simp only[gx,jM,sx,sy,SO.run,↓reduceIte,Nat.reduceEqDiff,Nat.reduceAdd];exact⟨λ_=>True,_,rfl,.inl ⟨0,_,rfl,trivial,by simp[sx],Rp.tree hc (Tp _)⟩⟩
 obtain⟨r,h1,p,rfl,h2⟩:=key;rcases h2 with⟨id,cs,rfl,hP,-⟩|⟨t,cs,rfl,ht,hr⟩
 ·exact hP.elim
 ·have:t=0:=by omega
  subst this;exact⟨cs,h1,hr⟩
theorem tX(fo l sz i off:Nat)(rows:List (List AV)):J6 fo (.tptr l sz rows i off)=.val (.tptr l sz rows i (off+fo)):=rfl
theorem eo(ag:Bool)(n l sz off:Nat)(row:List AV)(g:G):oy ag n (.tptr l sz [row] 0 off) g=orV (ch ag n row off):=rfl
def wts(m:Causal)(h:Int)(j:Nat):Int:=S.Q5 (((List.range m.roots.length).drop j).map (S.Sx m h))
theorem NZ(m:Causal)(h:Int):wts m h 0=S.R1 m h:=rfl
theorem O6(m:Causal)(h:Int):wts m h m.roots.length=1:=by unfold wts;rw[Ve (by simp)];rfl
theorem NY{m:Causal}(h:Int){j:Nat}(hj:j<m.roots.length):wts m h j=S.Sx m h j*wts m h (j+1):=by unfold wts;rw[UE (show j<(List.range m.roots.length).length by simpa using hj),UV,bu,U1]
theorem yq{m:Causal}(hck:S.Q_ m=true){h:Int}(hh:0<=h)(j:Nat):0<=wts m h j/\wts m h j<=429981696:=by have hs:=(ap hck).1.roots;exact GM hck hh (λr hr=>by have:=TK.1 (Uj hr);omega) (by simp;omega)
section
variable {d:Nat}{m:Causal}{a b:AV}
theorem H6{y u:AV}{h j14:Int}{bo:Nat}{X:List Int}{t:T}{g:G}{Q:QT}(hck:S.Q_ m=true)(hR:SlR NoP 0 .nil m.roots a)(hh:0<=h/\h<S.Q8 m)(hX:X.length=m.roots.length)
  (ht:St t [(0,y),(1,.tptr 0 4 [[.int .i64 m.grain,a,b,.int .i64 (S.Q8 m)]] 0 0),(3,u),(14,.int .i64 j14),(15,.int .i64 h),(5,.int .i64 1),(6,.int .i64 h)])
  (hi:tat t 7=.int .i64 ((m.roots.length:Int) - 1)) (hu:Own g bo u 1 (X.map ci))
  (fin:∀t g',St t [(0,y),(1,.tptr 0 4 [[.int .i64 m.grain,a,b,.int .i64 (S.Q8 m)]] 0 0),(3,u),(14,.int .i64 j14),(15,.int .i64 h),(5,.int .i64 (S.R1 m h))]->Own g' bo u 1 ((S.Rb (S.Ra m) h).map ci)->g'.nx=g.nx->(∀i,vid u≠some i->g'.h.get i=g.h.get i)->Q (.exit 2) t [] g') :
  wpL (wp C0 d none dJ) Q t [] g:=by
 obtain⟨hs,hgr,hn1,hro,hno⟩:=ap hck;have hr8:=hs.roots;have hlb:=h_ hs;have hll:=bS m;have hhb:=fY hs m.roots.length;rw[TO]at hhb;have hhb:1<=S.Q8 m/\S.Q8 m<=4 ^ 8:=hhb;obtain⟨rrows,p1,p2,p3,p4⟩:=hR.all;have p1:∀h',ac h' 1 a=some rrows:=p1;simp only[dJ];refine Bu (m:=m.roots.length) (by omega) (λj t df g'=>df=[]/\St t [(0,y),(1,.tptr 0 4 [[.int .i64 m.grain,a,b,.int .i64 (S.Q8 m)]] 0 0),(3,u),(14,.int .i64 j14),(15,.int .i64 h),(5,.int .i64 (wts m h j)),(6,.int .i64 (S.Si ((S.Ra m).drop j) h))] /\
   Own g' bo u 1 ((qr (S.Ra m) h X j).map ci)/\g'.nx=g.nx/\∀i,vid u≠some i->g'.h.get i=g.h.get i)
  ⟨rfl,?_,?_,rfl,λ_ _=>rfl⟩ hi (by decide) (by rintro j t df g v s (rfl|rfl|rfl|rfl|rfl)<;>simp[sx,St]) ?_ ?_
 ·rw[O6,<-hll,List.drop_length];exact ht
 ·rw[<-hll,LE h (by rw[hX,hll])];exact hu
 ·rintro j t df g' hj ⟨rfl,⟨h0,h1,h3,h14,h15,h5,h6,-⟩,ho,hn,hf⟩ h7;obtain⟨x,hx,-,hxm⟩:=af hj;obtain⟨row,q1,q2⟩:=p3 j x hx;obtain⟨z,rfl,hz⟩:=f6.1 q2;have hlt:j<rrows.length:=by omega
  have hc0:=hs.len x hxm;obtain⟨d1,d2⟩:=KC (l:=S.Ra m) (h:=h) (j:=j) (c:=(x.length:Int)) (by simp[S.Ra,hx]);obtain⟨b0,b1⟩:=I9 (l:=(S.Ra m).drop (j+1)) (h:=h) (λc hc=>by have:=hlb c (Uj hc);omega) (by omega);obtain⟨b2,b3⟩:=I9 (l:=(S.Ra m).drop j) (h:=h) (λc hc=>by have:=hlb c (Uj hc);omega) (by omega);obtain⟨e,he⟩:=LC (l:=S.Ra m) (X:=X) (h:=h) (j:=j+1) (i:=j) (by omega);have hlr:j<((qr (S.Ra m) h X (j+1)).map ci).length:=by rw[Tz,wz];omega
  simp only[sx,sy,SO.run,↓reduceIte,Nat.reduceEqDiff,h1,h3,h6,h7,tX,eo,p1,hlt,q1,hz.len,ho.rows,hlr,Tx,Tq,dc .i64 b0 (show (0:Int)<x.length by omega)];refine bw (row:=ci e) (row':=ci (S.Sa (S.Ra m) h j)) ho he rfl rfl (by rw[d2];rfl) λg2 o2 n2 f2'=>?_;rw[<-UJ,LD]at o2;have hb:=sB (l:=S.Ra m) (λc hc=>by have:=hlb c hc;omega) hh.1 (i:=j) (by omega);have hlj:(S.Ra m)[j]'(by omega)=(x.length:Int):=by simp only[S.Ra,UN];rw[Tn hj]at hx;injection hx with hx;rw[hx]
  rw[hlj]at hb;obtain⟨n,hn'⟩:=Ty hb.1;have hnl:n<x.length:=by omega
  have hval:((qr (S.Ra m) h X j).map ci)[j]?=some (ci (n:Int)):=by rw[Tt,qr,Tt,U3 (by omega)];show some (ci (if j<=j then S.Sa (S.Ra m) h j else _))=_;rw[TE (Tp _),hn']
  have hvl:j<((qr (S.Ra m) h X j).map ci).length:=by rw[Tz,wz];omega
  have hw:S.Sx m h j=x[n]:=by unfold S.Sx;rw[hx,Tq,hn'];show (x[(n:Int).toNat]?).getD 0=_;rw[TH,Tn hnl];rfl
  have hxl:(x.map ci)[n]?=some (ci (S.Sx m h j)):=by rw[Tt,Tn hnl,hw];rfl
  have hxn:n<(x.map ci).length:=by simpa using hnl
  have w1:=yq hck hh.1 (j+1);have w2:=yq hck hh.1 j;have w3:=NY (m:=m) h hj;rw[VK]at w3;simp only[sx,sy,SO.run,↓reduceIte,Nat.reduceEqDiff,h0,h1,h3,h5,h6,h7,h14,h15,tX,eo,p1,hlt,q1,hz.len,o2.rows,hvl,hval,(hz.tree (h':=g2.h) (Tp _)).ints,hxn,hxl,ci,Tx,Tq,wj .i64 b0 (show (0:Int)<x.length by omega),<-d1,St,<-w3,
   au (show -9223372036854775808<=S.Si ((S.Ra m).drop j) h by omega) (show S.Si ((S.Ra m).drop j) h<9223372036854775808 by omega),au (show -9223372036854775808<=wts m h j by omega) (show wts m h j<9223372036854775808 by omega)]
  exact⟨o2,by rw[n2,hn],λi hi=>by rw[f2' i hi,hf i hi]⟩
 ·rintro t df g' ⟨rfl,⟨h0,h1,h3,h14,h15,h5,h6,-⟩,ho,hn,hf⟩;rw[JU]at ho;exact fin t g' ⟨h0,h1,h3,h14,h15,h5,trivial⟩ ho hn hf
theorem H7{g0:G}{id:Nat}{K:AV->G->Prop}(hck:S.Q_ m=true)(hR:SlR NoP 0 .nil m.roots a)(J:Nat->H->Prop)(hJ:∀j h h',(∀i,i<g0.nx->h'.get i=h.get i)->J j h->J j h')
  (step:∀(j:Nat) (u:AV) (g:G) (K':AV->G->Prop) (D:ADf->Prop),(j:Int)<S.Q8 m->g0.nx<=g.nx->J j g.h->SlR (λi=>g0.nx<=i) 0 g.h (S.Rb (S.Ra m) j) u ->
   (∀g',J (j+1) g'.h->g.nx<=g'.nx->(∀i,g0.nx<=i->i<g.nx->g'.h.get i=g.h.get i)->K' (.bool true) g')->(cz (I C0) d id [u,.int .i64 (S.R1 m j)] g).sat K' g D)
  (h0:J 0 g0.h) (fin:∀g',J (S.Q8 m).toNat g'.h->g0.nx<=g'.nx->K (.tup []) g') :
  wp C0 d none bP.code (fnQ C0 d bP.res K) (cy 0 [.yld id,.tptr 0 4 [[.int .i64 m.grain,a,b,.int .i64 (S.Q8 m)]] 0 0] .nil) [] g0:=by
 obtain⟨hs,hgr,hn1,hro,hno⟩:=ap hck;have hr8:=hs.roots;have hll:=bS m;have hhb:=fY hs m.roots.length;rw[TO]at hhb;have hhb:1<=S.Q8 m/\S.Q8 m<=4 ^ 8:=hhb;have hhn:((S.Q8 m).toNat:Int)=S.Q8 m:=U2 (by omega);simp only[bP,sx,sy,SO.run,↓reduceIte,tX,eo,hR.len];refine jA (b:=g0.nx) (n:=m.roots.length) (by simp[aQ];omega) (by simp[aQ];omega) (Tp _) λu g1 hu n1 fr1 v1=>?_;simp only[sx,sy,SO.run,↓reduceIte,Nat.reduceEqDiff,tX,eo];simp only[gJ,gM];refine aq (m:=(S.Q8 m).toNat) (by omega) (λj t df g=>df=[]/\St t [(0,.yld id),(1,.tptr 0 4 [[.int .i64 m.grain,a,b,.int .i64 (S.Q8 m)]] 0 0),(3,u)]/\J j g.h/\g0.nx<g.nx/\∃X:List Int,X.length=m.roots.length/\Own g g0.nx u 1 (X.map ci))
  ⟨rfl,by simp[St,sx],hJ 0 _ _ (λi hi=>fr1 i hi) h0,by omega,List.replicate m.roots.length 0,by simp,by rw[VE];exact hu⟩ (by simp[sx]) (by simp[sx,hhn]) (by decide) (by rintro j t df g v s (rfl|rfl|rfl)<;>simp[St,sx]) ?_ ?_
 ·rintro j t df g hj ⟨rfl,⟨h0,h1,h3,-⟩,hJj,hnx,X,hX,ho⟩ h15 h14;have hul:∀g,dm .slice u g=.val (.int .i64 (m.roots.length:Int)):=λg=>by rw[bQ ho.rows];simp[hX]
  have hjh:(j:Int)<S.Q8 m:=by omega
  simp only[sx,SO.run,↓reduceIte,Nat.reduceEqDiff,h3,h15,hul,au (show -9223372036854775808<=(m.roots.length:Int) - 1 by omega) (show (m.roots.length:Int) - 1<9223372036854775808 by omega)];refine H6 (y:=.yld id) (u:=u) (h:=(j:Int)) (j14:=S.Q8 m) (bo:=g0.nx) (X:=X) (a:=a) (b:=b) hck hR ⟨US j,hjh⟩ hX (by simp[St,sx,h0,h1,h3,h14,h15,hhn]) (by simp[sx]) ho λt2 g2 ht2 ho2 hn2 hf2=>?_;obtain⟨h0,h1,h3,h14,h15,h5,-⟩:=ht2;have hvu:vid u=some g0.nx:=v1;have hJ2:J j g2.h:=hJ j _ _ (λi hi=>hf2 i (by rw[hvu];intro e;injection e with e;omega)) hJj;have hsl:SlR (λi=>g0.nx<=i) 0 g2.h (S.Rb (S.Ra m) j) u:=Own.sl (α:=Int) ho2 (by simp[S.Rb];omega) (Q5 (λa=>aB.2 rfl) _) λi hi=>(ho2.lt hi).1;simp only[gK,sx,SO.run,↓reduceIte,Nat.reduceEqDiff,h0,h3,h5];show (cz (I C0) d id [u,.int .i64 (S.R1 m j)] g2).sat _ _ _;refine step j u g2 _ _ hjh (by omega) hJ2 hsl λg3 hJ3 hn3 hf3=>?_;simp only[sx,sy,SO.run,↓reduceIte,Nat.reduceEqDiff,h0,h1,h3,h14,h15,Um,St,hhn];exact⟨hJ3,by omega,S.Rb (S.Ra m) j,by simp[S.Rb,hll],ho2.fr hn3 λi hi=>hf3 i (ho2.lt hi).1 (ho2.lt hi).2⟩
 ·rintro t df g ⟨rfl,-,hJj,hnx,-⟩;simp only[sx,↓reduceIte];exact fin g hJj (by omega)
end
end
end Hx
end
section
namespace Hx
open Go
noncomputable section
theorem fW{C:Cfg}{d:Nat}{r:List SR}{t:T}{g:G}{K:AV->G->Prop}{id:Nat}(hg:g.h.get id=.dfr true)(h:xZ r t (g.put id (.dfr false)) λvs=>K (jB vs) (g.put id (.dfr false))):BJ C d r t [.mark id] g K:=by
 unfold BJ;have:fp (I C) d [.mark id] g=some (g.put id (.dfr false)):=by simp only[fp,G.get_eq,hg]
 rw[this];exact h
theorem DO:C0.ext N.Q8=none:=by kernel_rfl
theorem A9{d nt:Nat}{m:Causal}{y p q:Nat}{ca cb:SC}{Q:QT}{t:T}{g:G}{cs:List AV}(hck:S.Q_ m=true)(hcs:Rp.rp NoP 0 .nil (⟨m,S.Q8 m⟩:KnownM) cs)
  (hv:tat t y=.clo N.Q8 [] [.tptr 0 4 [cs] 0 0]) (hp:p<nt) (hq:q<nt) (J:Nat->H->Prop) (hJ:∀j h h',(∀i,i<g.nx->h'.get i=h.get i)->J j h->J j h') (h0:J 0 g.h)
  (step:∀(j:Nat) (u:AV) (g1:G),(j:Int)<S.Q8 m->J j g1.h->g.nx+2<=g1.nx->SlR (λi=>g.nx+2<=i) 0 g1.h (S.Rb (S.Ra m) j) u ->
   wp C0 d (some (g.nx+1)) ca (λe t1 df g1'=>e=.norm/\df=[]/\g1'=g1/\∀g2:G,g2.nx=g1.nx->(∀i,i≠g.nx+1->g2.h.get i=g1.h.get i) ->
    wp C0 d (some (g.nx+1)) cb (λe _ df g3=>e=.norm/\df=[]/\J (j+1) g3.h/\g2.nx<=g3.nx/\∀i,g.nx<=i->i<g2.nx->g3.h.get i=g2.h.get i) t1 [] g2)
    (fQ (fQ t p u) q (.int .i64 (S.R1 m j))) [] g1)
  (fin:∀g',J (S.Q8 m).toNat g'.h->g.nx+2<=g'.nx->g'.h.get g.nx=.dfr true->Q .norm t [.mark g.nx] g') :
  wp C0 d none (.rng nt (.t y) [p,q] ca cb) Q t [] g:=by
 obtain⟨a,b,rfl,hR,hN⟩:=dF.1 hcs;refine K8 (fn:=N.Q8) (first:=[]) (cap:=[.tptr 0 4 [[.int .i64 m.grain,a,b,.int .i64 (S.Q8 m)]] 0 0]) (s:=bP) hv DO qw (by simp[bP]) ?_;intro assign body ha hb;have e1:((g.new (.dfr true)).new (.loop nt t [p,q] assign body g.nx .ready none)).nx=g.nx+2:=by simp
 refine H7 (g0:=(g.new (.dfr true)).new (.loop nt t [p,q] assign body g.nx .ready none)) (id:=g.nx+1) hck hR
  (λj h=>J j h/\h.get g.nx=.dfr true/\h.get (g.nx+1)=.loop nt t [p,q] assign body g.nx .ready none) ?_ ?_ ?_ ?_
 ·rintro j h h' hh ⟨a1,a2,a3⟩;rw[e1]at hh;exact⟨hJ j h h' (λi hi=>hh i (by omega)) a1,by rw[hh _ (by omega),a2],by rw[hh _ (by omega),a3]⟩
 ·rintro j u g1 K' D hj hn ⟨a1,a2,a3⟩ hsl kk;rw[e1]at hn kk hsl;refine Nd a3 ha hb (t':=fQ (fQ t p u) q (.int .i64 (S.R1 m j))) ?_ ?_
  ·simp only[cV,aa,UF,TE hp,TE hq];rfl
  ·refine cR _ (step j u g1 hj a1 (by omega) hsl) ?_;rintro e t1 df g1' ⟨rfl,rfl,rfl,h⟩;refine⟨rfl,rfl,rfl,?_⟩;have hl:g.nx+1<g1'.nx:=by omega
   refine cR _ (h (g1'.put (g.nx+1) (.loop nt t [p,q] assign body g.nx .busy none)) (by simp) (λi hi=>by simp[Q_,hi])) ?_;rintro e t2 df g3 ⟨rfl,rfl,b1,b2,b3⟩;have b4:g3.h.get (g.nx+1)=.loop nt t [p,q] assign body g.nx .busy none:=by rw[b3 _ (by omega) (by simpa using hl)];simp[Q_]
   have b5:g3.h.get g.nx=.dfr true:=by rw[b3 _ (by omega) (by simp;omega)];simp[Q_,a2]
   refine⟨rfl,rfl,b4,kk _ ⟨hJ _ g3.h _ (λi hi=>by simp[Q_,show ¬i=g.nx+1 by omega]) b1,?_,?_⟩ (by simpa using b2) λi h1 h2=>?_⟩
   ·simp[Q_,b5]
   ·simp[Q_]
   ·have hne:¬i=g.nx+1:=by omega
    have:=b3 i (by omega) (by simpa using h2);simp[Q_,hne]at this ⊢;exact this
 ·refine⟨hJ 0 g.h _ (λi hi=>?_) h0,?_,?_⟩
  ·simp[Q_,show ¬i=g.nx+1 by omega,show ¬i=g.nx by omega]
  ·simp[Q_]
  ·simp[Q_]
 ·rintro g' ⟨a1,a2,a3⟩ hn;rw[e1]at hn;refine⟨_,_,_,_,_,_,a3,fin _ (hJ _ g'.h _ (λi hi=>by simp[Q_,show ¬i=g.nx+1 by omega]) a1) (by simpa using hn) ?_⟩;simp[Q_,a2]
def aS{α:Type}(f:Nat->α)(k:Nat)(x:α):Nat->α:=λj=>if j=k then x else f j
theorem aG{α:Type}(f:Nat->α)(k:Nat)(x:α):aS f k x k=x:=TE rfl
theorem ay{α:Type}(f:Nat->α){k j:Nat}(x:α)(h:j≠k):aS f k x j=f j:=TF h
def Fam(g:G)(b K:Nat)(V:Nat->AV)(W:Nat->List (List AV)):Prop :=
 (∀k,k<K->Own g b (V k) 1 (W k))/\∀k l,k<K->l<K->k≠l->∀id,vid (V k)=some id->vid (V l)≠some id
theorem Fam.step{g g':G}{b K:Nat}{V:Nat->AV}{W:Nat->List (List AV)}(h:Fam g b K V W)(hn:g.nx<=g'.nx)(hf:∀i,b<=i->i<g.nx->g'.h.get i=g.h.get i):Fam g' b K V W :=
 ⟨λk hk=>(h.1 k hk).fr hn λi hi=>hf i ((h.1 k hk).lt hi).1 ((h.1 k hk).lt hi).2,h.2⟩
theorem Fam.set{g g':G}{b K:Nat}{V:Nat->AV}{W:Nat->List (List AV)}(h:Fam g b K V W){k:Nat}{v':AV}{rows':List (List AV)}(ho:Own g' b v' 1 rows')(hn:g.nx<=g'.nx)
  (hf:∀i,b<=i->i<g.nx->vid (V k)≠some i->g'.h.get i=g.h.get i) (hk:k<K) (hv:vid v'=vid (V k)\/∃i,vid v'=some i/\g.nx<=i):Fam g' b K (aS V k v') (aS W k rows'):=by
 refine⟨λj hj=>?_,λj l hj hl hne id e1 e2=>?_⟩
 ·by_cases e:j=k
  ·subst e;rw[aG,aG];exact ho
  ·rw[ay _ _ e,ay _ _ e];exact (h.1 j hj).fr hn λi hi=>hf i ((h.1 j hj).lt hi).1 ((h.1 j hj).lt hi).2 λe2=>h.2 j k hj hk e i hi e2
 ·have key:∀j,j<K->j≠k->∀id,vid (V j)=some id->vid v'≠some id:=λj hj hne id e1 e2=>by
   rcases hv with hv|⟨i,hv,hi⟩
   ·exact h.2 j k hj hk hne id e1 (hv ▸ e2)
   ·rw[hv]at e2;injection e2 with e2;have:=((h.1 j hj).lt e1).2;omega
  by_cases a:j=k
  ·subst a;rw[aG]at e1;rw[ay _ _ (UP hne)]at e2;exact key l hl (UP hne) id e2 e1
  ·rw[ay _ _ a]at e1
   by_cases c:l=k
   ·subst c;rw[aG]at e2;exact key j hj a id e1 e2
   ·rw[ay _ _ c]at e2;exact h.2 j l hj hl hne id e1 e2
def eN(c:Nat->Int)(V:Nat->AV)(i:Nat):List AV:=[.int .i64 (c i),V (3*i+1),V (3*i+2),V (3*i+3)]
def iQ(n:Nat)(c:Nat->Int)(V:Nat->AV):List (List AV):=(List.range n).map (eN c V)
theorem cF(n:Nat)(c:Nat->Int)(V:Nat->AV):(iQ n c V).length=n:=by simp[iQ]
theorem b_{n:Nat}(c:Nat->Int)(V:Nat->AV){i:Nat}(h:i<n):(iQ n c V)[i]?=some (eN c V i):=by simp[iQ,h]
theorem kC{n:Nat}{c c':Nat->Int}{V V':Nat->AV}{i:Nat}{row:List AV}(hr:row=eN c' V' i)(h:∀j,j≠i->eN c' V' j=eN c V j):(iQ n c V).set i row=iQ n c' V':=by
 apply List.ext_getElem?;intro j
 by_cases e:i=j
 ·subst e
  by_cases hi:i<n
  ·rw[Ux (by rw[cF];exact hi),b_ _ _ hi,hr]
  ·rw[UW (by simp[iQ];omega),UW (by simp[iQ];omega)]
 ·rw[U0 e]
  by_cases hj:j<n
  ·rw[b_ _ _ hj,b_ _ _ hj,h j (UP e)]
  ·rw[UW (by simp[iQ];omega),UW (by simp[iQ];omega)]
theorem zw{c:Nat->Int}{V:Nat->AV}{i j f:Nat}{v:AV}(hf:1<=f/\f<=3)(h:j≠i):eN c (aS V (3*i+f) v) j=eN c V j:=by unfold eN;rw[ay V _ (show 3*j+1≠3*i+f by omega),ay V _ (show 3*j+2≠3*i+f by omega),ay V _ (show 3*j+3≠3*i+f by omega)]
structure ME where
 (n p4 q i5 p7 i9 b:Nat)
 (nv w5 w9 e7:AV)
 (gr:Int)
 (row0:List AV)
 (prow:List (List AV))
 (us:List UInt8)
structure ME.Ok (e:ME):Prop where
 ord:1<e.q/\e.q<e.p4/\e.p4<e.i5/\e.i5<e.p7/\e.p7<e.i9/\e.i9<e.b
 n1:1<=e.n/\e.n<=4
 g1:2<=e.gr/\e.gr<=12
 vn:vid e.nv=some e.q
 v5:vid e.w5=some e.i5
 v9:vid e.w9=some e.i9
 l7:SlR NoP 0 .nil e.us e.e7
structure MI (e:ME) (g:G) (V:Nat->AV) (W:Nat->List (List AV)) (c:Nat->Int) (ow:List Bool) (cap:Nat):Prop where
 h0:g.h.get 0=We 5 [e.row0]
 h1:g.h.get 1=We 3 [[.int .i64 0,.nils,.nils]]
 hN:Own g 0 e.nv 4 (iQ e.n c V)
 h4:g.h.get e.p4=We 3 [[.int .i64 e.gr,V 0,e.nv]]
 h5:Own g 0 e.w5 4 e.prow
 h7:∃cc:Int,0<=cc/\cc<=(cap:Int)/\g.h.get e.p7=We 2 [[e.e7,.int .i64 cc]]
 h9:Own g 0 e.w9 1 (ow.map λx=>[.bool x])
 fam:Fam g e.b (3*e.n+1) V W
 nx:e.b<=g.nx
section
variable {e:ME}{g g':G}{V:Nat->AV}{W:Nat->List (List AV)}{c:Nat->Int}{ow:List Bool}{cap:Nat}
theorem bi{v:AV}{i j:Nat}(h:vid v=some i)(h':vid v=some j):i=j:=by rw[h]at h';injection h'
theorem MI.step(h:MI e g V W c ow cap)(he:e.Ok)(hn:g.nx<=g'.nx)(hf:∀i,i<g.nx->g'.h.get i=g.h.get i):MI e g' V W c ow cap:=by
 have hb:=h.nx;have ho:=he.ord
 exact { h0:=by rw[hf 0 (by omega),h.h0],h1:=by rw[hf 1 (by omega),h.h1],hN:=h.hN.fr hn λi hi=>hf i (h.hN.lt hi).2,h4:=by rw[hf _ (by omega),h.h4],
         h5:=h.h5.fr hn λi hi=>hf i (h.h5.lt hi).2,h7:=by obtain⟨cc,a1,a2,a3⟩:=h.h7;exact⟨cc,a1,a2,by rw[hf _ (by omega),a3]⟩,
         h9:=h.h9.fr hn λi hi=>hf i (h.h9.lt hi).2,fam:=h.fam.step hn λi _ hi=>hf i hi,nx:=by omega }
theorem MI.same(h:MI e g V W c ow cap)(he:e.Ok)(hf:g'.h=g.h)(hn:g.nx<=g'.nx):MI e g' V W c ow cap:=h.step he hn λi _=>by rw[hf]
structure MP (e:ME) (g:G) (V V':Nat->AV) (W:Nat->List (List AV)) (c:Nat->Int) (ow:List Bool) (cap:Nat):Prop where
 h0:g.h.get 0=We 5 [e.row0]
 h1:g.h.get 1=We 3 [[.int .i64 0,.nils,.nils]]
 hN:Own g 0 e.nv 4 (iQ e.n c V)
 h4:g.h.get e.p4=We 3 [[.int .i64 e.gr,V 0,e.nv]]
 h5:Own g 0 e.w5 4 e.prow
 h7:∃cc:Int,0<=cc/\cc<=(cap:Int)/\g.h.get e.p7=We 2 [[e.e7,.int .i64 cc]]
 h9:Own g 0 e.w9 1 (ow.map λx=>[.bool x])
 fam:Fam g e.b (3*e.n+1) V' W
 nx:e.b<=g.nx
theorem MI.grow(h:MI e g V W c ow cap)(he:e.Ok){k:Nat}(hk:k<3*e.n+1){v':AV}{rows':List (List AV)}(ho:Own g' e.b v' 1 rows')(hn:g.nx<=g'.nx)
  (hf:∀i,i<g.nx->vid (V k)≠some i->g'.h.get i=g.h.get i) (hv:vid v'=vid (V k)\/∃i,vid v'=some i/\g.nx<=i):MP e g' V (aS V k v') (aS W k rows') c ow cap:=by
 have hb:=h.nx;have hoo:=he.ord;have hf':∀i,i<e.b->g'.h.get i=g.h.get i:=λi hi=>hf i (by omega) λe2=>by have:=((h.fam.1 k hk).lt e2).1;omega
 exact { h0:=by rw[hf' 0 (by omega),h.h0],h1:=by rw[hf' 1 (by omega),h.h1],hN:=h.hN.fr hn λi hi=>hf' i (by have:=bi he.vn hi;omega),h4:=by rw[hf' _ (by omega),h.h4],
         h5:=h.h5.fr hn λi hi=>hf' i (by have:=bi he.v5 hi;omega),h7:=by obtain⟨cc,a1,a2,a3⟩:=h.h7;exact⟨cc,a1,a2,by rw[hf' _ (by omega),a3]⟩,
         h9:=h.h9.fr hn λi hi=>hf' i (by have:=bi he.v9 hi;omega),fam:=h.fam.set ho hn (λi _ hi=>hf i hi) hk hv,nx:=by omega }
theorem MP.step{V':Nat->AV}(h:MP e g V V' W c ow cap)(he:e.Ok)(hn:g.nx<=g'.nx)(hf:∀i,i<g.nx->g'.h.get i=g.h.get i):MP e g' V V' W c ow cap:=by
 have hb:=h.nx;have ho:=he.ord
 exact { h0:=by rw[hf 0 (by omega),h.h0],h1:=by rw[hf 1 (by omega),h.h1],hN:=h.hN.fr hn λi hi=>hf i (h.hN.lt hi).2,h4:=by rw[hf _ (by omega),h.h4],
         h5:=h.h5.fr hn λi hi=>hf i (h.h5.lt hi).2,h7:=by obtain⟨cc,a1,a2,a3⟩:=h.h7;exact⟨cc,a1,a2,by rw[hf _ (by omega),a3]⟩,
         h9:=h.h9.fr hn λi hi=>hf i (h.h9.lt hi).2,fam:=h.fam.step hn λi _ hi=>hf i hi,nx:=by omega }
theorem MP.same{V':Nat->AV}(h:MP e g V V' W c ow cap)(he:e.Ok)(hf:g'.h=g.h)(hn:g.nx<=g'.nx):MP e g' V V' W c ow cap:=h.step he hn λi _=>by rw[hf]
theorem MP.node{V':Nat->AV}{c':Nat->Int}(h:MP e g V V' W c ow cap)(he:e.Ok)(hN:Own g' 0 e.nv 4 (iQ e.n c' V'))(h0:V' 0=V 0)(hn:g.nx<=g'.nx)
  (hf:∀i,vid e.nv≠some i->g'.h.get i=g.h.get i):MI e g' V' W c' ow cap:=by
 have ho:=he.ord;have hb:=h.nx;have hf':∀i,i≠e.q->g'.h.get i=g.h.get i:=λi hi=>hf i (by rw[he.vn];intro e;injection e with e;exact hi e.symm)
 exact { h0:=by rw[hf' 0 (by omega),h.h0],h1:=by rw[hf' 1 (by omega),h.h1],hN:=hN,h4:=by rw[hf' _ (by omega),h.h4,h0],
         h5:=h.h5.fr (by omega) λi hi=>hf' i (by have:=bi he.v5 hi;omega),h7:=by obtain⟨cc,a1,a2,a3⟩:=h.h7;exact⟨cc,a1,a2,by rw[hf' _ (by omega),a3]⟩,
         h9:=h.h9.fr (by omega) λi hi=>hf' i (by have:=bi he.v9 hi;omega),fam:=h.fam.step (by omega) λi hi _=>hf' i (by omega),nx:=by omega }
theorem MP.root{v':AV}(h:MP e g V (aS V 0 v') W c ow cap)(he:e.Ok)(h4:g'.h.get e.p4=We 3 [[.int .i64 e.gr,v',e.nv]])(hn:g.nx<=g'.nx)
  (hf:∀i,i≠e.p4->g'.h.get i=g.h.get i):MI e g' (aS V 0 v') W c ow cap:=by
 have ho:=he.ord;have hb:=h.nx
 exact { h0:=by rw[hf 0 (by omega),h.h0],h1:=by rw[hf 1 (by omega),h.h1],
         hN:=by
          have:iQ e.n c (aS V 0 v')=iQ e.n c V:=by unfold iQ;exact Ul λi _=>by unfold eN;rw[ay _ _ (by omega),ay _ _ (by omega),ay _ _ (by omega)]
          rw[this];exact h.hN.fr (by omega) λi hi=>hf i (by have:=bi he.vn hi;omega),
         h4:=by rw[h4,aG],
         h5:=h.h5.fr (by omega) λi hi=>hf i (by have:=bi he.v5 hi;omega),h7:=by obtain⟨cc,a1,a2,a3⟩:=h.h7;exact⟨cc,a1,a2,by rw[hf _ (by omega),a3]⟩,
         h9:=h.h9.fr (by omega) λi hi=>hf i (by have:=bi he.v9 hi;omega),fam:=h.fam.step (by omega) λi hi _=>hf i (by omega),nx:=by omega }
theorem MI.num(h:MI e g V W c ow cap)(he:e.Ok){cc:Int}(h1:0<=cc)(h2:cc<=((cap+1:Nat):Int))(h7:g'.h.get e.p7=We 2 [[e.e7,.int .i64 cc]])(hn:g.nx<=g'.nx)
  (hf:∀i,i≠e.p7->g'.h.get i=g.h.get i):MI e g' V W c ow (cap+1):=by
 have ho:=he.ord;have hb:=h.nx
 exact { h0:=by rw[hf 0 (by omega),h.h0],h1:=by rw[hf 1 (by omega),h.h1],hN:=h.hN.fr (by omega) λi hi=>hf i (by have:=bi he.vn hi;omega),h4:=by rw[hf _ (by omega),h.h4],
         h5:=h.h5.fr (by omega) λi hi=>hf i (by have:=bi he.v5 hi;omega),h7:=⟨cc,h1,h2,h7⟩,
         h9:=h.h9.fr (by omega) λi hi=>hf i (by have:=bi he.v9 hi;omega),fam:=h.fam.step (by omega) λi hi _=>hf i (by omega),nx:=by omega }
theorem MI.own(h:MI e g V W c ow cap)(he:e.Ok){ow':List Bool}(h9:Own g' 0 e.w9 1 (ow'.map λx=>[.bool x]))(hn:g.nx<=g'.nx)
  (hf:∀i,vid e.w9≠some i->g'.h.get i=g.h.get i):MI e g' V W c ow' cap:=by
 have ho:=he.ord;have hb:=h.nx;have hf':∀i,i≠e.i9->g'.h.get i=g.h.get i:=λi hi=>hf i (by rw[he.v9];intro e;injection e with e;exact hi e.symm)
 exact { h0:=by rw[hf' 0 (by omega),h.h0],h1:=by rw[hf' 1 (by omega),h.h1],hN:=h.hN.fr (by omega) λi hi=>hf' i (by have:=bi he.vn hi;omega),h4:=by rw[hf' _ (by omega),h.h4],
         h5:=h.h5.fr (by omega) λi hi=>hf' i (by have:=bi he.v5 hi;omega),h7:=by obtain⟨cc,a1,a2,a3⟩:=h.h7;exact⟨cc,a1,a2,by rw[hf' _ (by omega),a3]⟩,
         h9:=h9,fam:=h.fam.step (by omega) λi hi _=>hf' i (by omega),nx:=by omega }
theorem F8{g:G}{b sz:Nat}{v:AV}{rows:List (List AV)}(h:Own g b v sz rows):ak v=match vid v with|some i=>[i]|none=>[]:=by rcases h with⟨rfl,-⟩|⟨id,ep,lo,h1,h2,rfl,h3⟩<;>rfl
theorem Own.refs_ltT{g:G}{b sz:Nat}{v:AV}{rows:List (List AV)}(h:Own g b v sz rows):∀i∈ak v,b<=i/\i<g.nx:=by
 rw[F8 h];intro i hi
 split at hi
 ·rename_i j hj;simp at hi;subst hi;exact h.lt hj
 ·simp at hi
theorem eW{g:G}{b sz i:Nat}{v:AV}{rows:List (List AV)}(h:Own g b v sz rows)(hv:vid v=some i):ak v=[i]:=by rw[F8 h,hv]
theorem gS{v:AV}{i:Nat}(h:vid v=some i):rR v=true:=by cases v<;>first|rfl|cases h
end
end
end Hx
end
section
namespace Hx
open Go
noncomputable section
theorem Ed{l:List Int}{y n:Int}{i:Nat}(h:i<l.length):S.RP (l++[y]) n i=S.RP l n i:=by
 have e:∀j,j<l.length->(l++[y])[j]?=l[j]?:=λj hj=>TD hj;unfold S.RP;rw[e i h]
 by_cases h0:i=0
 ·subst h0;rfl
 ·rw[e (i - 1) (by omega)]
theorem Ec{l:List Int}{n m:Int}{i:Nat}(h:S.RP l n i=true)(hm:n<=m):S.RP l m i=true:=by simp only[S.RP,Ts,TA]at h ⊢;exact⟨⟨h.1.1,by omega⟩,h.2⟩
theorem tG{l:List Int}{n m:Int}(h:S.Rc l n=true)(hm:n<=m):S.Rc l m=true:=by simp only[S.Rc,TC]at h ⊢;exact λi hi=>Ec (h i hi) hm
theorem tH{l:List Int}{y n m:Int}(h:S.Rc l n=true)(hy:∀x∈l,x<y)(h0:0<=y)(h1:y<m)(hm:n<=m):S.Rc (l++[y]) m=true:=by
 have h:=tG h hm;simp only[S.Rc,TP,List.length_singleton]at h ⊢;rw[ct,Ts];refine⟨?_,?_⟩
 ·simp only[TC,TK]at h ⊢;intro i hi;rw[Ed hi];exact h i hi
 ·have e:(l++[y])[l.length]?=some y:=by simp
  simp only[S.RP,e,Tq,Ts,TA,Uo,beq_iff_eq];refine⟨⟨h0,h1⟩,?_⟩
  by_cases hl:l.length=0
  ·exact .inl hl
  ·right;have e2:(l++[y])[l.length - 1]?=some (l[l.length - 1]'(by omega)):=by rw[TD (by omega),Tn (by omega)]
   rw[e2,Tq];exact hy _ (TW _)
structure MD (e:ME) (W:Nat->List (List AV)) (R:List (List Int)) (F N O:Nat->List Int):Prop where
 r:All2 (Rp.rp NoP 0 .nil) R (W 0)
 f:∀i,i<e.n->W (3*i+1)=(F i).map ci
 n:∀i,i<e.n->W (3*i+2)=(N i).map ci
 o:∀i,i<e.n->W (3*i+3)=(O i).map ci
theorem MD.setF{e:ME}{W:Nat->List (List AV)}{R:List (List Int)}{F N O:Nat->List Int}(h:MD e W R F N O)(i:Nat)(l:List Int):MD e (aS W (3*i+1) (l.map ci)) R (aS F i l) N O where
 r:=by rw[ay _ _ (by omega)];exact h.r
 f:=λj hj=>by
  by_cases e:j=i
  ·subst e;rw[aG,aG]
  ·rw[ay _ _ (by omega),ay _ _ e];exact h.f j hj
 n:=λj hj=>by rw[ay _ _ (by omega)];exact h.n j hj
 o:=λj hj=>by rw[ay _ _ (by omega)];exact h.o j hj
theorem MD.setN{e:ME}{W:Nat->List (List AV)}{R:List (List Int)}{F N O:Nat->List Int}(h:MD e W R F N O)(i:Nat)(l:List Int):MD e (aS W (3*i+2) (l.map ci)) R F (aS N i l) O where
 r:=by rw[ay _ _ (by omega)];exact h.r
 n:=λj hj=>by
  by_cases e:j=i
  ·subst e;rw[aG,aG]
  ·rw[ay _ _ (by omega),ay _ _ e];exact h.n j hj
 f:=λj hj=>by rw[ay _ _ (by omega)];exact h.f j hj
 o:=λj hj=>by rw[ay _ _ (by omega)];exact h.o j hj
theorem MD.setO{e:ME}{W:Nat->List (List AV)}{R:List (List Int)}{F N O:Nat->List Int}(h:MD e W R F N O)(i:Nat)(l:List Int):MD e (aS W (3*i+3) (l.map ci)) R F N (aS O i l) where
 r:=by rw[ay _ _ (by omega)];exact h.r
 o:=λj hj=>by
  by_cases e:j=i
  ·subst e;rw[aG,aG]
  ·rw[ay _ _ (by omega),ay _ _ e];exact h.o j hj
 f:=λj hj=>by rw[ay _ _ (by omega)];exact h.f j hj
 n:=λj hj=>by rw[ay _ _ (by omega)];exact h.n j hj
theorem MD.setR{e:ME}{W:Nat->List (List AV)}{R:List (List Int)}{F N O:Nat->List Int}(h:MD e W R F N O){x:List Int}{cs:List AV}(hx:Rp.rp NoP 0 .nil x cs):MD e (aS W 0 (W 0++[cs])) (R++[x]) F N O where
 r:=by rw[aG];exact h.r.append ⟨hx,trivial⟩
 o:=λj hj=>by rw[ay _ _ (by omega)];exact h.o j hj
 f:=λj hj=>by rw[ay _ _ (by omega)];exact h.f j hj
 n:=λj hj=>by rw[ay _ _ (by omega)];exact h.n j hj
theorem MD.len{e:ME}{W:Nat->List (List AV)}{R:List (List Int)}{F N O:Nat->List Int}(h:MD e W R F N O):(W 0).length=R.length:=h.r.len.symm
structure MF (e:ME) (c:Nat->Int) (R:List (List Int)) (N:Nat->List Int):Prop where
 card:∀i,i<e.n->c i=2\/c i=3
 roots:∀r∈R,∃q z:Int,(q=2\/q=3)/\0<=z/\z<256/\r=S.Sf e.gr q z
 inc:∀i,i<e.n->S.Rc (N i) R.length=true
theorem MF.root{e:ME}{c:Nat->Int}{R:List (List Int)}{N:Nat->List Int}(h:MF e c R N){q z:Int}(hq:q=2\/q=3)(h0:0<=z)(h1:z<256):MF e c (R++[S.Sf e.gr q z]) N where
 card:=h.card
 roots:=λr hr=>by
  rcases Uf.1 hr with hr|hr
  ·exact h.roots r hr
  ·simp at hr;exact⟨q,z,hq,h0,h1,hr⟩
 inc:=λi hi=>tG (h.inc i hi) (by simp;omega)
theorem MF.both{e:ME}{c:Nat->Int}{R:List (List Int)}{N:Nat->List Int}(h:MF e c R N){q z:Int}(hq:q=2\/q=3)(h0:0<=z)(h1:z<256){N':Nat->List Int}
  (hN:∀i,i<e.n->N' i=N i\/N' i=[(R.length:Int)]\/N' i=N i++[(R.length:Int)]):MF e c (R++[S.Sf e.gr q z]) N' where
 card:=h.card
 roots:=(h.root (q:=q) hq h0 h1).roots
 inc:=λi hi=>by
  have hm:=λx hx=>(aE (h.inc i hi) x hx).2;rcases hN i hi with ee|ee|ee<;>rw[ee]
  ·exact tG (h.inc i hi) (by simp;omega)
  ·exact tH (l:=[]) (n:=0) (y:=(R.length:Int)) (m:=((R++[S.Sf e.gr q z]).length:Int)) rfl (by simp) (by omega) (by simp;omega) (by simp;omega)
  ·exact tH (h.inc i hi) hm (by omega) (by simp;omega) (by simp;omega)
def MSt(e:ME)(r6:AV)(t:T):Prop :=
 St t [(1,.hptr 0 0 0 0),(2,.hptr 1 0 0 0),(3,.int .i64 (e.n:Int)),(4,.hptr e.p4 0 0 0),(5,e.w5),(6,r6),(7,.hptr e.p7 0 0 0),(9,e.w9)]
def MPr(e:ME):Prop:=e.prow.length=e.n/\∀i,i<e.n->∃(y:Cg) (oa:AV),e.prow[i]?=some [u8v y.1,u8v y.2.1,u8v y.2.2.1,oa]/\SlR NoP 0 .nil y.2.2.2 oa
theorem zG{x y:Foot}(hx:x.wr=[])(hb:x.lk.big=false)(hs:x.lk.sr=[])(h3:∀i∈y.wr,∀j∈x.lk.rd,i≠j):bE x y=true:=by
 have m3:=nJ h3;have m5:∀l:List Nat,meets l []=false:=λl=>by simp[meets]
 simp only[bE,fI,d_,hx,hb,hs,m3,m5,fst1,Uv,T9,Vx,Wa]
 split<;>rfl
theorem I4{g:G}{b:Nat}(hb:b<=g.nx)(cs:List AV):Own (g.new (We 1 [cs])) b (.hsl g.nx 0 0 1 none) 1 [cs] :=
 .inr ⟨g.nx,0,false,hb,by simp,rfl,by simp[aU]⟩
theorem QX{d:Nat}{e:ME}{r6:AV}{Q:QT}(hd:0<d)(he:e.Ok)(hpr:MPr e){t:T}{g:G}{V:Nat->AV}{W:Nat->List (List AV)}{c:Nat->Int}(ht:MSt e r6 t)(h10:tat t 10=.int .i64 0)
  (hI:MI e g V W c (List.replicate e.n false) 0) (hD:MD e W [] (λ_=>[]) (λ_=>[]) (λ_=>[])) (hc:∀i,i<e.n->c i=2\/c i=3)
  (fin:∀t g V W ow R N,MSt e r6 t->MI e g V W c ow R.length->MD e W R (λ_=>[]) N (λ_=>[])->MF e c R N->ow.length=e.n->(∀i,i<e.n->ow[i]?=some true->N i≠[])->R.length<=4->(∀i,(N i).length<=1)->Q (.exit 2) t [] g) :
  wpL (wp C0 d none eG) Q t [] g:=by
 have hoo:=he.ord;have hn1:=he.n1;have hg1:=he.g1;simp only[eG,ji];refine f_ e.n (by omega) (λj t df g=>df=[]/\MSt e r6 t/\∃V W ow R N,MI e g V W c ow R.length/\MD e W R (λ_=>[]) N (λ_=>[])/\MF e c R N/\ow.length=e.n/\(∀i,i<e.n->ow[i]?=some true->N i≠[])/\R.length<=j/\∀i,(N i).length<=1)
  ⟨rfl,ht,V,W,_,[],λ_=>[],hI,hD,⟨hc,by simp,λi hi=>rfl⟩,by simp,λi hi h=>by rw[Uh]at h;split at h<;>simp at h,Tp _,λi=>Ue _⟩ h10 (by decide)
  (by rintro j t df g v s (rfl|rfl|rfl)<;>simp[MSt,St,sx]) ?_ ?_ ?_
 ·rintro j t df g hj ⟨rfl,⟨h1,h2,h3,h4,h5,h6,h7,h9,-⟩,hx⟩ h10;simp only[sx,sy,SO.run,↓reduceIte,Nat.reduceEqDiff,h1,h2,h3,h4,h5,h6,h7,h9,h10,MSt,St];exact hx
 ·rintro j t df g hj ⟨rfl,⟨h1,h2,h3,h4,h5,h6,h7,h9,-⟩,V,W,ow,R,N,hI,hD,hF,hol,hon,hRj,hN1⟩ h10;obtain⟨y,oa,hy,hoa⟩:=hpr.2 j hj;have hy8:y.2.2.1.toNat<256:=y.2.2.1.toNat_lt;have hjp:j<e.prow.length:=by rw[hpr.1];exact hj
  have ry5:=gS he.v5;have ryn:=gS he.vn;simp only[sx,sy,SO.run,↓reduceIte,Nat.reduceEqDiff,h5,h10,hI.h5.rows,hjp,hy,ry5,Tx,Tq,u8v,dc .u8 (show 0<=(y.2.2.1.toNat:Int) by omega) (show (0:Int)<4 by decide)];refine aR (λhb=>?_) (λhb=>?_)
  ·have hol':j<(ow.map λx=>[AV.bool x]).length:=by rw[Tz,hol];exact hj
   have hrow:(ow.map λx=>[AV.bool x])[j]?=some [.bool (ow[j]'(by omega))]:=by rw[Tt,Tn (by omega)];rfl
   simp only[sx,SO.run,↓reduceIte,Nat.reduceEqDiff,h9,h10,hI.h9.rows,hol',Tx,Tq];refine bw (row:=[.bool (ow[j]'(by omega))]) (row':=[.bool true]) hI.h9 hrow rfl rfl rfl λg1 x1 n1 f1=>?_;have hI1:MI e g1 V W c (ow.set j true) R.length:=hI.own he (by rw[UJ];exact x1) (by omega) f1;clear x1 f1 n1 hI hol' hrow;have l0:=bQ (hI1.fam.1 0 (by omega)).rows;rw[hD.len]at l0;have hjN:j<(iQ e.n c V).length:=by rw[cF];exact hj
   have hI2:MP e (g1.new (We 1 [[.int .i64 (R.length:Int)]])) V (aS V (3*j+2) (.hsl g1.nx 0 0 1 none)) (aS W (3*j+2) ([(R.length:Int)].map ci)) c (ow.set j true) R.length :=
    hI1.grow he (by omega) (I4 hI1.nx _) (by simp) (λi hi _=>by rw[G.new_h,ah _ _ _ (by omega)]) (.inr ⟨g1.nx,rfl,Tp _⟩)
   simp only[sx,sy,SO.run,↓reduceIte,Nat.reduceEqDiff,h4,h10,hI1.h4,l0];have hNr:=hI2.hN.rows;simp only[sx]at hNr;simp only[sx,sy,SO.run,↓reduceIte,Nat.reduceEqDiff,hNr,hjN,ryn,Tx,Tq];refine bw (row:=eN c V j) (row':=eN c (aS V (3*j+2) (.hsl g1.nx 0 0 1 none)) j) hI2.hN (b_ _ _ hj) rfl rfl ?_ λg2 x2 n2 f2=>?_
   ·simp only[eN,cT,sy,↓reduceIte,Nat.reduceAdd,Nat.reduceLeDiff,aG,ay V (k:=3*j+2) (j:=3*j+1) _ (by omega),ay V (k:=3*j+2) (j:=3*j+3) _ (by omega)]
   rw[kC rfl (λi hi=>by unfold eN;rw[ay _ _ (by omega),ay _ _ (by omega),ay _ _ (by omega)])]at x2;have hI3:=hI2.node he x2 (ay _ _ (by omega)) (by omega) f2;have hD3:=hD.setN j [(R.length:Int)];clear hI2 hI1 x2 n2 f2 hNr;generalize aS V (3*j+2) (.hsl g1.nx 0 0 1 none)=V at *;generalize aS W (3*j+2) ([(R.length:Int)].map ci)=W at *;obtain⟨cc,cc0,cc1,h7'⟩:=hI3.h7;have hNr:=hI3.hN.rows;have hrf:=eW hI3.hN he.vn;simp only[sx,sy,sf,SO.run,↓reduceIte,Nat.reduceEqDiff,h4,h7,h10,hI3.h4,hNr,cF,hj,ryn,b_ c V hj,eN,Tx,Tq];refine IW (us:=e.us) (p:=e.p7) (l:=e.e7) (c:=cc) ?_ he.l7 cc0 (by omega) λz c' g4 z0 z1 c0 c1 g7 n4 f4 lg4=>?_
   ·simpa using h7'
   simp only[sy]at n4 f4 lg4;have lg4':∀i∈g4.lg,i=e.p7:=by simpa using lg4
   have hb3:=hI3.nx;have hI4:MI e g4 V W c (ow.set j true) (R.length+1):=hI3.num he c0 (by omega) g7 (by omega) f4;simp only[sx,sy,SO.run,↓reduceIte,Nat.reduceEqDiff];refine bH (Bs hd hg1.1 hg1.2 z0 z1) λr hr=>?_;simp only[sx,sy,sf,SO.run,↓reduceIte];rw[mC 1 [.nils] r _ (by rw[hr.cells];rfl) hr.tup,hr.cells];simp only[sx,sy,sf,SO.run,↓reduceIte,Nat.reduceEqDiff];have hO:=hI4.fam.1 0 (by omega);refine aT (b:=e.b) (new:=[[r]]) (rows:=W 0) (hO.fr (by simp;omega) (λi hi=>?_)) (by simp[sx,sy]) (by simp;have:=hI4.nx;omega) (by rw[hD3.len];simp[aQ];omega) λv' g5 hv' n5 f5 vid5 lg5=>?_
   ·have:=(hO.lt hi).2;simp[Q_];omega
   simp only[sx,sy]at n5 f5 vid5 lg5;have hI5:MP e g5 V (aS V 0 v') (aS W 0 (W 0++[[r]])) c (ow.set j true) (R.length+1) :=
    hI4.grow he (by omega) hv' (by omega) (λi hi hne=>by rw[f5 i (by omega) hne,TF (by omega)]) (by rcases vid5 with h|⟨i,h,hi⟩;exact .inl h;exact .inr ⟨i,h,by omega⟩)
   simp only[sx,sy,sf,SO.run,↓reduceIte,Nat.reduceEqDiff,Nat.reduceAdd,Nat.reduceLeDiff,h4,h10,hI5.h4,hv'.cell.1,hv'.cell.2,iL,nF];refine⟨?_,?_⟩
   ·simp only[TM,TS,TL,TJ,hrf];refine aI [false,false,false,false,false,false,false,false,false,false,false,true,false,true,true,false,true] [(0,11),(1,11),(2,11),(3,11),(4,11),(5,11),(6,11),(7,11),(8,11),(9,11),(0,13),(1,13)] (by simp[All2,ae,aw,bf]) (by decide) ?_;rintro p hp x y hx hy;simp only[T3,TV,U_]at hp;rcases hp with rfl|rfl|rfl|rfl|rfl|rfl|rfl|rfl|rfl|rfl|rfl|rfl
    case inr.inr.inr.inr.inr.inr.inr.inr.inr.inr.inl=>(simp at hx hy;subst hx;subst hy;refine bO rfl rfl rfl rfl ?_ ?_ ?_<;>simp[aw])
    case inr.inr.inr.inr.inr.inr.inr.inr.inr.inr.inr=>(simp at hx hy;subst hx;subst hy;refine bO rfl rfl rfl rfl ?_ ?_ ?_<;>simp[ae,aw,ak]<;>omega)
    all_goals (simp at hx hy;subst hx;subst hy;refine zG rfl rfl rfl ?_;intro i hi j hj;(have hi:=lg4' i hi);simp[ae,aw,dD,hrf,eE ryn]at hj<;>omega)
   ·have hI6:=hI5.root (g':=(aO (im (aO (im g5 []) []) []) []).put e.p4 (We 3 [[.int .i64 e.gr,v',e.nv]])) he
     (by simp[Q_]) (by simp;omega) (λi hi=>by simp[Q_];intro e;exact absurd e hi)
    have hD6:=hD3.setR (x:=S.Sf e.gr (c j) z) (cs:=[r]) hr;have hF6:=hF.both (q:=c j) (hc j hj) z0 z1 (N':=aS N j [(R.length:Int)]) λi hi=>by
     by_cases e:i=j
     ·subst e;exact .inr (.inl (aG _ _ _))
     ·exact .inl (ay _ _ e)
    simp only[sx,sy,↓reduceIte,Nat.reduceEqDiff,h1,h2,h3,h4,h5,h6,h7,h9,MSt,St];refine⟨aS V 0 v',aS W 0 (W 0++[[r]]),ow.set j true,R++[S.Sf e.gr (c j) z],aS N j [(R.length:Int)],?_,hD6,hF6,by simpa using hol,λi hi h=>?_,by simp;omega,λi=>?_⟩
    ·rw[TP];exact hI6.same he (by simp) (by simp)
    ·by_cases e:i=j
     ·subst e;rw[aG];simp
     ·rw[ay _ _ e];rw[U0 (UP e)]at h;exact hon i hi h
    ·by_cases e:i=j
     ·subst e;rw[aG];simp
     ·rw[ay _ _ e];exact hN1 i
  ·simp only[sx,sy,↓reduceIte,Nat.reduceEqDiff,h1,h2,h3,h4,h5,h6,h7,h9,h10,MSt,St];exact⟨V,W,ow,R,N,hI,hD,hF,hol,hon,by omega,hN1⟩
 ·rintro t df g ⟨rfl,ht,V,W,ow,R,N,hI,hD,hF,hol,hon,hRj,hN1⟩;exact fin t g V W ow R N ht hI hD hF hol hon (by omega) hN1
theorem FA{l sz i n m:Nat}{rows:List (List AV)}{off:Nat}{k:IntKind}(h:m<n):AF n 1 (.tptr l sz rows i off) (.int k (m:Int))=.val (.tptr l sz rows i (off+m)):=by show (aA (Nat.blt m n) (OR.val (.tptr l sz rows i (off+m*1))) .fail)=_;rw[aa,TE (by simpa using h),Nat.mul_one]
theorem KJ{α:Type} [Rp α]{k:Nat}{h h':H}{l:List α}{v:AV}{rows:List (List AV)}{s i off:Nat}(r:SlR NoP k h l v)(hr:ac h' s v=some rows)(hi:i<rows.length):∃t,nX s v i off=.tptr t s rows i off:=by
 have hb:=r.2;cases v with
 |nils=>simp[ac]at hr;subst hr;simp at hi
 |esl=>simp[ac]at hr;subst hr;simp at hi
 | tsl tg sz rws =>
  simp only[ac,aa]at hr
  split at hr
  ·injection hr with hr;subst hr;exact⟨tg,rfl⟩
  ·cases hr
 |hsl a b c d e=>exact hb.1.elim
 |_=>exact hb.elim
theorem QY{d:Nat}{e:ME}{r6 b1:AV}{us:List (UInt8×UInt8)}{g0 x0 c0 e0:AV}{Q:QT}(hd:0<d)(he:e.Ok)(hr0:e.row0=[g0,x0,b1,c0,e0])(hb1:SlR NoP 0 .nil us b1){t:T}{g:G}{V:Nat->AV}{W:Nat->List (List AV)}{c:Nat->Int}{ow:List Bool}{R:List (List Int)}{N:Nat->List Int}(ht:MSt e r6 t)(h11:tat t 11=.int .i64 0)
  (hI:MI e g V W c ow R.length) (hD:MD e W R (λ_=>[]) N (λ_=>[])) (hF:MF e c R N) (hon:∀i,i<e.n->ow[i]?=some true->N i≠[]) (hRj:R.length<=4) (hN1:∀i,(N i).length<=1)
  (fin:∀t g V W R N,MSt e r6 t->MI e g V W c ow R.length->MD e W R (λ_=>[]) N (λ_=>[])->MF e c R N->(∀i,i<e.n->ow[i]?=some true->N i≠[])->R.length<=6->(∀i,(N i).length<=3)->Q (.exit 4) t [] g) :
  wpL (wp C0 d none eH) Q t [] g:=by
 have hoo:=he.ord;have hn1:=he.n1;have hg1:=he.g1;obtain⟨srows,s1,s2,s3,s4⟩:=hb1.all;have s1:∀h',ac h' 2 b1=some srows:=s1;have ryn:=gS he.vn;simp only[eH,jk];refine f_ (min us.length 2) (by omega) (λj t df g=>df=[]/\MSt e r6 t/\∃V W R N,MI e g V W c ow R.length/\MD e W R (λ_=>[]) N (λ_=>[])/\MF e c R N/\(∀i,i<e.n->ow[i]?=some true->N i≠[])/\R.length<=4+j/\∀i,(N i).length<=1+j)
  ⟨rfl,ht,V,W,R,N,hI,hD,hF,hon,hRj,hN1⟩ h11 (by decide)
  (by rintro j t df g v s (rfl|rfl|rfl)<;>simp[MSt,St,sx]) ?_ ?_ ?_
 ·rintro j t df g hj ⟨rfl,⟨h1,h2,h3,h4,h5,h6,h7,h9,-⟩,V,W,R,N,hI,hx⟩ h11;have e0:=hI.h0;rw[hr0]at e0;simp only[sx,sy,SO.run,↓reduceIte,Nat.reduceEqDiff,h1,h11,e0,hb1.len];have fin:∀q:Bool,q=decide (j<min us.length 2)->AV.bool q=AV.bool (decide ((j:Int)<((min us.length 2:Nat):Int))):=λq h=>by rw[h];congr 1;simp
  refine aR (λhb=>?_) (λhb=>?_)
  ·have hb:j<us.length:=by simpa using hb
   have hq:decide ((j:Int)<(us.length:Int))=true:=by simpa using hb
   simp only[sx,sy,SO.run,↓reduceIte,Nat.reduceEqDiff,h1,h2,h3,h4,h5,h6,h7,h9,h11,MSt,St,hq];exact⟨fin _ (by simp;omega),V,W,R,N,hI,hx⟩
  ·have hb:¬j<us.length:=by simpa using hb
   have hq:decide ((j:Int)<(us.length:Int))=false:=by simpa using hb
   simp only[sx,sy,SO.run,↓reduceIte,Nat.reduceEqDiff,h1,h2,h3,h4,h5,h6,h7,h9,h11,MSt,St,hq];exact⟨fin _ (by simp;omega),V,W,R,N,hI,hx⟩
 ·rintro j t df g hj ⟨rfl,⟨h1,h2,h3,h4,h5,h6,h7,h9,-⟩,V,W,R,N,hI,hD,hF,hon,hRj,hN1⟩ h11;have hju:j<us.length:=by omega
  obtain⟨⟨ua,ub⟩,hu⟩:∃y,us[j]?=some y:=⟨_,Tn hju⟩;obtain⟨row,q1,q2⟩:=s3 j _ hu;rw[Qd.1 q2]at q1;have hjs:j<srows.length:=by omega
  have e0:=hI.h0;rw[hr0]at e0;have hpt:∃l,nX 2 b1 j 0=.tptr l 2 srows j 0:=KJ hb1 (s1 .nil) hjs;obtain⟨tl,hpt⟩:=hpt;have ua8:ua.toNat<256:=ua.toNat_lt;have ub8:ub.toNat<256:=ub.toNat_lt;have ld:∀(g:G) (k:Nat) (v:AV),[u8v ua,u8v ub][k]?=some v->oy false 1 (.tptr tl 2 srows j (0+k)) g=.val v:=λg k v hk=>by simp only[oy,mz,dB,q1,T6,A0,hk,orV]
  have ea:((ua.toNat:Int) % (e.n:Int))=((ua.toNat % e.n:Nat):Int):=by omega
  have eb:((ub.toNat:Int) % (e.n:Int))=((ub.toNat % e.n:Nat):Int):=by omega
  have la:ua.toNat % e.n<e.n:=U4 _ (by omega);have lb:ub.toNat % e.n<e.n:=U4 _ (by omega);generalize hA:ua.toNat % e.n=A at *;generalize hB:ub.toNat % e.n=B at *;have i0:∀k,AF 2 1 (.tptr tl 2 srows j 0) (.int k 0)=.val (.tptr tl 2 srows j (0+0)):=λk=>FA (m:=0) (by decide);have i1:∀k,AF 2 1 (.tptr tl 2 srows j 0) (.int k 1)=.val (.tptr tl 2 srows j (0+1)):=λk=>FA (m:=1) (by decide);simp only[sx,sy,SO.run,↓reduceIte,Nat.reduceEqDiff,h1,h3,h11,e0,s1,hjs,hpt,i0,i1,Tx,Tq,ld _ 0 _ rfl,ld _ 1 _ rfl,u8v,
   au (show -9223372036854775808<=(ua.toNat:Int) by omega) (show (ua.toNat:Int)<9223372036854775808 by omega),au (show -9223372036854775808<=(ub.toNat:Int) by omega) (show (ub.toNat:Int)<9223372036854775808 by omega),
   dc .i64 (show (0:Int)<=(ua.toNat:Int) by omega) (show 0<(e.n:Int) by omega),dc .i64 (show (0:Int)<=(ub.toNat:Int) by omega) (show 0<(e.n:Int) by omega),ea,eb]
  refine aR (λhb=>?_) (λhb=>?_)
  ·have hAB:A≠B:=λe=>by subst e;simp at hb
   have l0:=bQ (hI.fam.1 0 (by omega)).rows;rw[hD.len]at l0;have hNr:=hI.hN.rows;have hrf:=eW hI.hN he.vn;have hbb:=hI.nx;have hlb:=hN1 A;have hO:=hI.fam.1 (3*A+2) (by omega);simp only[sx,sy,sf,SO.run,↓reduceIte,Nat.reduceEqDiff,h4,l0,hI.h4,hNr,cF,la,ryn,b_ c (V) la,eN,Tx,Tq];refine aT (b:=e.b) (rows:=(W) (3*A+2)) (new:=[[.int .i64 ((R.length:Int))]]) (hO.fr (by simp;omega) (λi' hi'=>?_)) (by simp[sx,sy]) (by simp;omega) (by rw[hD.n A la];simp[aQ];omega) λv1 ga hv1 n1 f1 vid1 lg1=>?_
   ·have:=(hO.lt hi').2;simp[Q_];omega
   simp only[sx,sy]at n1 f1 vid1 lg1;have hP:=hI.grow (g':=ga) (k:=3*A+2) (rows':=(W) (3*A+2)++[[.int .i64 ((R.length:Int))]]) he (by omega) hv1 (by omega) (λi' hi' hne=>by rw[f1 i' (by omega) hne,TF (by omega)]) (by rcases vid1 with h|⟨i',h,hi'⟩;exact .inl h;exact .inr ⟨i',h,by omega⟩);have hNr2:=hP.hN.rows;have hrf2:=eW hP.hN he.vn;simp only[sx,sy,sf,SO.run,↓reduceIte,Nat.reduceEqDiff,hNr2,cF,la,ryn,Tx,Tq];refine bw (row:=eN c (V) A) (row':=eN c (aS (V) (3*A+2) v1) A) (hP.same he (by simp) (by simp;omega)).hN (b_ _ _ la) (by rw[hv1.cell.1];rfl) hv1.cell.2 ?_ λg1 x2 n2 f2=>?_
   ·simp only[eN,hv1.cell.1,cT,sy,↓reduceIte,Nat.reduceAdd,Nat.reduceLeDiff,aG,ay (V) (k:=3*A+2) (j:=3*A+1) _ (by omega),ay (V) (k:=3*A+2) (j:=3*A+3) _ (by omega)]
   rw[kC rfl (λi' hi'=>zw (by omega) hi')]at x2;simp only[sy]at n2 f2;have hI1:=hP.node (g':=g1) he x2 (ay _ _ (by omega)) (by omega) f2;have hI1D:=hD.setN A ((N) A++[(R.length:Int)]);rw[Ub,<-hD.n A la]at hI1D;simp only[UV,Uv,ci]at hI1D;simp only[sx,sy,sf,SO.run,↓reduceIte,Nat.reduceEqDiff,h4];refine⟨?_,?_⟩
   ·simp only[TM,TS,TL,TJ,hrf];refine aI [false,false,false,false,false,false,false,false,false,false,false,false,true,true,false,false,true] [(0,12),(1,12),(2,12),(3,12),(4,12),(5,12),(6,12),(7,12),(8,12),(0,13),(1,13),(2,13)] (by simp[All2,ae,aw]) (by decide) ?_;rintro p hp x y hx hy;simp only[T3,TV,U_]at hp;rcases hp with rfl|rfl|rfl|rfl|rfl|rfl|rfl|rfl|rfl|rfl|rfl|rfl<;>(simp at hx hy;subst hx;subst hy;refine bO rfl rfl rfl rfl ?_ ?_ ?_<;>simp[ae,aw,dD,hrf,eE ryn]<;>first|omega| (intro i' hi';rcases lg1 i' hi' with h|h<;>first|omega|simp at h)|skip)
   clear hNr hrf hbb hO hP hNr2 hrf2 x2 f2 n2 f1 n1 vid1 lg1 hlb;have l0:=bQ (hI1.fam.1 0 (by omega)).rows;rw[hI1D.len]at l0;have hNr:=hI1.hN.rows;have hrf:=eW hI1.hN he.vn;have hbb:=hI1.nx;have hlb:=(show ((aS N A (N A++[(R.length:Int)])) B).length<=100 from by have:=hN1 A;have:=hN1 B;unfold aS;split<;>simp<;>omega);have hO:=hI1.fam.1 (3*B+2) (by omega);simp only[sx,sy,sf,SO.run,↓reduceIte,Nat.reduceEqDiff,h4,l0,hI1.h4,hNr,cF,lb,ryn,b_ c (aS V (3*A+2) v1) lb,eN,Tx,Tq];refine aT (b:=e.b) (rows:=(aS W (3*A+2) (W (3*A+2)++[[.int .i64 (R.length:Int)]])) (3*B+2)) (new:=[[.int .i64 ((R.length:Int))]]) (hO.fr (by simp;omega) (λi' hi'=>?_)) (by simp[sx,sy]) (by simp;omega) (by rw[hI1D.n B lb];simp[aQ];omega) λv2 ga hv2 n1 f1 vid1 lg1=>?_
   ·have:=(hO.lt hi').2;simp[Q_];omega
   simp only[sx,sy]at n1 f1 vid1 lg1;have hP:=hI1.grow (g':=ga) (k:=3*B+2) (rows':=(aS W (3*A+2) (W (3*A+2)++[[.int .i64 (R.length:Int)]])) (3*B+2)++[[.int .i64 ((R.length:Int))]]) he (by omega) hv2 (by omega) (λi' hi' hne=>by rw[f1 i' (by omega) hne,TF (by omega)]) (by rcases vid1 with h|⟨i',h,hi'⟩;exact .inl h;exact .inr ⟨i',h,by omega⟩);have hNr2:=hP.hN.rows;have hrf2:=eW hP.hN he.vn;simp only[sx,sy,sf,SO.run,↓reduceIte,Nat.reduceEqDiff,hNr2,cF,lb,ryn,Tx,Tq];refine bw (row:=eN c (aS V (3*A+2) v1) B) (row':=eN c (aS (aS V (3*A+2) v1) (3*B+2) v2) B) (hP.same he (by simp) (by simp;omega)).hN (b_ _ _ lb) (by rw[hv2.cell.1];rfl) hv2.cell.2 ?_ λg2 x2 n2 f2=>?_
   ·simp only[eN,hv2.cell.1,cT,sy,↓reduceIte,Nat.reduceAdd,Nat.reduceLeDiff,aG,ay (aS V (3*A+2) v1) (k:=3*B+2) (j:=3*B+1) _ (by omega),ay (aS V (3*A+2) v1) (k:=3*B+2) (j:=3*B+3) _ (by omega)]
   rw[kC rfl (λi' hi'=>zw (by omega) hi')]at x2;simp only[sy]at n2 f2;have hI2:=hP.node (g':=g2) he x2 (ay _ _ (by omega)) (by omega) f2;have hI2D:=hI1D.setN B ((aS N A (N A++[(R.length:Int)])) B++[(R.length:Int)]);rw[Ub,<-hI1D.n B lb]at hI2D;simp only[UV,Uv,ci]at hI2D;simp only[sx,sy,sf,SO.run,↓reduceIte,Nat.reduceEqDiff,h4];refine⟨?_,?_⟩
   ·simp only[TM,TS,TL,TJ,hrf];refine aI [false,false,false,false,false,false,false,false,false,false,false,false,true,true,false,false,true] [(0,12),(1,12),(2,12),(3,12),(4,12),(5,12),(6,12),(7,12),(8,12),(0,13),(1,13),(2,13)] (by simp[All2,ae,aw]) (by decide) ?_;rintro p hp x y hx hy;simp only[T3,TV,U_]at hp;rcases hp with rfl|rfl|rfl|rfl|rfl|rfl|rfl|rfl|rfl|rfl|rfl|rfl<;>(simp at hx hy;subst hx;subst hy;refine bO rfl rfl rfl rfl ?_ ?_ ?_<;>simp[ae,aw,dD,hrf,eE ryn]<;>first|omega| (intro i' hi';rcases lg1 i' hi' with h|h<;>first|omega|simp at h)|skip)
   clear hNr hrf hbb hO hP hNr2 hrf2 x2 f2 n2 f1 n1 vid1 lg1 hlb;clear l0;obtain⟨cc,cc0,cc1,h7'⟩:=hI2.h7;have hNr:=hI2.hN.rows;have hrf:=eW hI2.hN he.vn;simp only[sx,sy,sf,SO.run,↓reduceIte,Nat.reduceEqDiff,h4,h7,hI2.h4];refine IW (us:=e.us) (p:=e.p7) (l:=e.e7) (c:=cc) ?_ he.l7 cc0 (by omega) λz c' g4 z0 z1 c0 c1 g7 n4 f4 lg4=>?_
   ·simpa using h7'
   simp only[sy]at n4 f4 lg4;have lg4':∀i∈g4.lg,i=e.p7:=by simpa using lg4
   have hb3:=hI2.nx;have hI4:MI e g4 (aS (aS V (3*A+2) v1) (3*B+2) v2) (aS (aS W (3*A+2) (W (3*A+2)++[[.int .i64 (R.length:Int)]])) (3*B+2) ((aS W (3*A+2) (W (3*A+2)++[[.int .i64 (R.length:Int)]])) (3*B+2)++[[.int .i64 (R.length:Int)]])) c ow (R.length+1):=hI2.num he c0 (by omega) g7 (by omega) f4;simp only[sx,sy,SO.run,↓reduceIte,Nat.reduceEqDiff];refine bH (Bs hd hg1.1 hg1.2 z0 z1) λr hr=>?_;simp only[sx,sy,sf,SO.run,↓reduceIte];rw[mC 1 [.nils] r _ (by rw[hr.cells];rfl) hr.tup,hr.cells];simp only[sx,sy,sf,SO.run,↓reduceIte,Nat.reduceEqDiff];have hO:=hI4.fam.1 0 (by omega);refine aT (b:=e.b) (new:=[[r]]) (rows:=(aS (aS W (3*A+2) (W (3*A+2)++[[.int .i64 (R.length:Int)]])) (3*B+2) ((aS W (3*A+2) (W (3*A+2)++[[.int .i64 (R.length:Int)]])) (3*B+2)++[[.int .i64 (R.length:Int)]])) 0) (hO.fr (by simp;omega) (λi hi=>?_)) (by simp[sx,sy]) (by simp;have:=hI4.nx;omega) (by rw[hI2D.len];simp[aQ];omega) λv' g5 hv' n5 f5 vid5 lg5=>?_
   ·have:=(hO.lt hi).2;simp[Q_];omega
   simp only[sx,sy]at n5 f5 vid5 lg5;have hI5:MP e g5 (aS (aS V (3*A+2) v1) (3*B+2) v2) (aS (aS (aS V (3*A+2) v1) (3*B+2) v2) 0 v') (aS (aS (aS W (3*A+2) (W (3*A+2)++[[.int .i64 (R.length:Int)]])) (3*B+2) ((aS W (3*A+2) (W (3*A+2)++[[.int .i64 (R.length:Int)]])) (3*B+2)++[[.int .i64 (R.length:Int)]])) 0 ((aS (aS W (3*A+2) (W (3*A+2)++[[.int .i64 (R.length:Int)]])) (3*B+2) ((aS W (3*A+2) (W (3*A+2)++[[.int .i64 (R.length:Int)]])) (3*B+2)++[[.int .i64 (R.length:Int)]])) 0++[[r]])) c ow (R.length+1) :=
    hI4.grow he (by omega) hv' (by omega) (λi hi hne=>by rw[f5 i (by omega) hne,TF (by omega)]) (by rcases vid5 with h|⟨i,h,hi⟩;exact .inl h;exact .inr ⟨i,h,by omega⟩)
   simp only[sx,sy,sf,SO.run,↓reduceIte,Nat.reduceEqDiff,Nat.reduceAdd,Nat.reduceLeDiff,h4,hI5.h4,hv'.cell.1,hv'.cell.2,iL,nF];refine⟨?_,?_⟩
   ·simp only[TM,TS,TL,TJ];refine aI [false,false,false,false,false,true,false,true,true,false,true] [(0,5),(1,5),(2,5),(3,5),(0,7),(1,7)] (by simp[All2,ae,aw,bf]) (by decide) ?_;rintro p hp x y hx hy;simp only[T3,TV,U_]at hp;rcases hp with rfl|rfl|rfl|rfl|rfl|rfl
    all_goals first
     | (simp at hx hy;subst hx;subst hy;refine bO rfl rfl rfl rfl ?_ ?_ ?_<;>simp[ae,aw,ak]<;>omega)
     | (simp at hx hy;subst hx;subst hy;refine bO rfl rfl rfl rfl ?_ ?_ ?_<;>simp[ae,aw,ak])
     | (simp at hx hy;subst hx;subst hy;refine zG rfl rfl rfl ?_;intro i hi j hj;(have hi:=lg4' i hi);simp[ae,aw,dD]at hj<;>omega)
   have hI3:=hI5.root (g':=(aO (im (aO (im g5 []) []) []) []).put e.p4 (We 3 [[.int .i64 e.gr,v',e.nv]])) he
    (by simp[Q_]) (by simp;omega) (λi hi=>by simp[Q_];intro e;exact absurd e hi)
   have hI3D:=hI2D.setR (x:=S.Sf e.gr (2) z) (cs:=[r]) hr;have hF6:=hF.both (q:=2) (.inl rfl) z0 z1 (N':=aS (aS N A (N A++[(R.length:Int)])) B ((aS N A (N A++[(R.length:Int)])) B++[(R.length:Int)])) λi hi=>by
    by_cases e1:i=B
    ·subst e1;rw[aG,ay _ _ (UP hAB)];exact .inr (.inr rfl)
    ·rw[ay _ _ e1]
     by_cases e2:i=A
     ·subst e2;rw[aG];exact .inr (.inr rfl)
     ·exact .inl (ay _ _ e2)
   simp only[sx,sy,↓reduceIte,Nat.reduceEqDiff,h1,h2,h3,h4,h5,h6,h7,h9,h11,MSt,St];refine⟨aS (aS (aS V (3*A+2) v1) (3*B+2) v2) 0 v',aS (aS (aS W (3*A+2) (W (3*A+2)++[[.int .i64 (R.length:Int)]])) (3*B+2) ((aS W (3*A+2) (W (3*A+2)++[[.int .i64 (R.length:Int)]])) (3*B+2)++[[.int .i64 (R.length:Int)]])) 0 ((aS (aS W (3*A+2) (W (3*A+2)++[[.int .i64 (R.length:Int)]])) (3*B+2) ((aS W (3*A+2) (W (3*A+2)++[[.int .i64 (R.length:Int)]])) (3*B+2)++[[.int .i64 (R.length:Int)]])) 0++[[r]]),R++[S.Sf e.gr 2 z],aS (aS N A (N A++[(R.length:Int)])) B ((aS N A (N A++[(R.length:Int)])) B++[(R.length:Int)]),?_,hI3D,hF6,λi hi h=>?_,by simp;omega,λi=>?_⟩
   ·rw[TP];exact hI3.same he (by simp) (by simp)
   ·have:=hon i hi h;unfold aS
    split
    ·simp
    ·split
     ·simp
     ·exact this
   ·have:=hN1 i;have:=hN1 A;have:=hN1 B
    by_cases e1:i=B
    ·subst e1;rw[aG,ay _ _ (UP hAB)];simp;omega
    ·rw[ay _ _ e1]
     by_cases e2:i=A
     ·subst e2;rw[aG];simp;omega
     ·rw[ay _ _ e2];omega
  ·simp only[sx,sy,↓reduceIte,Nat.reduceEqDiff,h1,h2,h3,h4,h5,h6,h7,h9,h11,MSt,St];exact⟨V,W,R,N,hI,hD,hF,hon,by omega,λi=>by have:=hN1 i;omega⟩
 ·rintro t df g ⟨rfl,ht,V,W,R,N,hI,hD,hF,hon,hRj,hN1⟩;exact fin t g V W R N ht hI hD hF hon (by omega) (λi=>by have:=hN1 i;omega)
theorem Lk(m n:Nat):∃z:Nat,dO .shr (.int .u8 (m:Int)) (.int .u64 (n:Int))=.val (.int .u8 (z:Int)) :=
 ⟨m / 2 ^ (Nat.min n 8),rfl⟩
theorem Lj(m n:Nat):∃z:Int,dO .and (.int .u8 (m:Int)) (.int .u8 (n:Int))=.val (.int .u8 z):=by have:∃z:Int,Op.intBits .and .u8 (.ofNat m) (.ofNat n)=.pure (.int .u8 z):=⟨_,rfl⟩;obtain⟨z,hz⟩:=this;refine⟨z,?_⟩;show orV (tL (Op.intBits .and .u8 (.ofNat m) (.ofNat n)))=_;rw[hz];rfl
structure MN (e:ME) (r6:AV) (pl:List Int) (num:Nat->Nat):Prop where
 r:IT 0 pl r6
 at_:∀k,k<e.n->pl[k]?=some (num k:Int)
 lt:∀k,k<e.n->num k<e.n
 inj:∀i j,i<e.n->j<e.n->num i=num j->i=j
 sur:∀u,u<e.n->∃k,k<e.n/\num k=u
theorem Ju{α:Type}{f:Nat->α}{k:Nat}{x:α}(h:f k=x):aS f k x=f:=by
 funext j;by_cases e:j=k
 ·subst e;rw[aG,h]
 ·exact ay _ _ e
theorem Dh{α:Type}{f:Nat->α}{k:Nat}{x y:α}:aS (aS f k x) k y=aS f k y:=by
 funext j;by_cases e:j=k
 ·subst e;rw[aG,aG]
 ·rw[ay _ _ e,ay _ _ e,ay _ _ e]
def uY(e:ME)(r6:AV)(i v:Nat)(t:T):Prop :=
 St t [(1,.hptr 0 0 0 0),(2,.hptr 1 0 0 0),(3,.int .i64 (e.n:Int)),(4,.hptr e.p4 0 0 0),(5,e.w5),(6,r6),(7,.hptr e.p7 0 0 0),(9,e.w9),(14,.int .i64 (i:Int)),(15,.int .i64 (v:Int))]
theorem QZ{d:Nat}{e:ME}{r6:AV}{pl:List Int}{num:Nat->Nat}{i v u cap:Nat}{Q:QT}(hd:0<d)(he:e.Ok)(hpr:MPr e)(hp:MN e r6 pl num)(hi:i<e.n)(hv:v<e.n)(hu:u<e.n)
  {t:T} {g:G} {V:Nat->AV} {W:Nat->List (List AV)} {c:Nat->Int} {ow:List Bool} {R:List (List Int)} {F N O:Nat->List Int} {l:List Int} (ht:uY e r6 i v t) (h16:tat t 16=.int .i64 (u:Int)) (h17:tat t 17=.int .i64 0)
  (hI:MI e g V W c ow cap) (hD:MD e W R (aS F v l) N O) (hll:l.length<=4)
  (fin:∀t g V W l',uY e r6 i v t->tat t 16=.int .i64 (u:Int)->MI e g V W c ow cap->MD e W R (aS F v l') N O->(l'=l\/(l'=l++[(u:Int)]/\∃k,k<i/\num k=u))->Q (.exit 10) t [] g) :
  wpL (wp C0 d none eI) Q t [] g:=by
 have hoo:=he.ord;have hn1:=he.n1;have ryn:=gS he.vn;have ry5:=gS he.v5;have hpr6:=hp.r.rows;simp only[eI,jl];refine f_ i (by omega) (λk t df g=>df=[]/\uY e r6 i v t/\tat t 16=.int .i64 (u:Int)/\∃V W l',MI e g V W c ow cap/\MD e W R (aS F v l') N O/\(l'=l\/(l'=l++[(u:Int)]/\∃k',k'<k/\num k'=u)))
  ⟨rfl,ht,h16,V,W,l,hI,hD,.inl rfl⟩ h17 (by decide) (by rintro j t df g v s (rfl|rfl|rfl)<;>simp[uY,St,sx]) ?_ ?_ ?_
 ·rintro j t df g hj ⟨rfl,⟨h1,h2,h3,h4,h5,h6,h7,h9,h14,h15,-⟩,h16,hx⟩ h17;simp only[sx,sy,SO.run,↓reduceIte,Nat.reduceEqDiff,h1,h2,h3,h4,h5,h6,h7,h9,h14,h15,h16,h17,uY,St];exact hx
 ·clear ht h16 h17 hI hD;rintro j t df g hj ⟨rfl,⟨h1,h2,h3,h4,h5,h6,h7,h9,h14,h15,-⟩,h16,V,W,l',hI,hD,hl'⟩ h17;obtain⟨y,oa,hy,hoa⟩:=hpr.2 i hi;have hip:i<e.prow.length:=by rw[hpr.1];exact hi
  have hjl:j<pl.length:=(Tu.1 (hp.at_ j (by omega))).1;have hnj:=hp.at_ j (by omega);simp only[sx,SO.run,↓reduceIte,Nat.reduceEqDiff,h6,h16,h17,hpr6,hjl,hnj,Tz,Tt,TQ,ci,Tx,Tq]
  by_cases hq:num j=u
  ·have hq1:decide (((num j:Nat):Int)=(u:Int))=true:=by simp[hq]
   obtain⟨z1,e1⟩:=Lk y.2.1.toNat j;obtain⟨z2,e2⟩:=Lj z1 1;have e2:dO .and (.int .u8 (z1:Int)) (.int .u8 1)=.val (.int .u8 z2):=e2;simp only[sx,sy,SO.run,↓reduceIte,Nat.reduceEqDiff,h5,h14,h17,hq1,hI.h5.rows,hip,hy,ry5,Tx,Tq,u8v,xu (show 0<=(j:Int) by omega) (show (j:Int)<18446744073709551616 by omega),e1,e2];refine aR (λhb=>?_) (λhb=>?_)
   ·have hl2:l'=l:=by
     rcases hl' with h|⟨h,k',hk',hk2⟩
     ·exact h
     ·have:=hp.inj k' j (by omega) (by omega) (by omega);omega
    rw[hl2]at hD;have hlF:(aS F v l v).length<=100:=by rw[aG];omega
    have hNr:=hI.hN.rows;have hrf:=eW hI.hN he.vn;have hbb:=hI.nx;have hlb:=hlF;have hO:=hI.fam.1 (3*v+1) (by omega);simp only[sx,sy,sf,SO.run,↓reduceIte,Nat.reduceEqDiff,h4,h15,h16,hI.h4,hNr,cF,hv,ryn,b_ c (V) hv,eN,Tx,Tq];refine aT (b:=e.b) (rows:=(W) (3*v+1)) (new:=[[.int .i64 ((u:Int))]]) (hO.fr (by simp;omega) (λi' hi'=>?_)) (by simp[sx,sy]) (by simp;omega) (by rw[hD.f v hv];simp[aQ];omega) λv1 ga hv1 n1 f1 vid1 lg1=>?_
    ·have:=(hO.lt hi').2;simp[Q_];omega
    simp only[sx,sy]at n1 f1 vid1 lg1;have hP:=hI.grow (g':=ga) (k:=3*v+1) (rows':=(W) (3*v+1)++[[.int .i64 ((u:Int))]]) he (by omega) hv1 (by omega) (λi' hi' hne=>by rw[f1 i' (by omega) hne,TF (by omega)]) (by rcases vid1 with h|⟨i',h,hi'⟩;exact .inl h;exact .inr ⟨i',h,by omega⟩);have hNr2:=hP.hN.rows;have hrf2:=eW hP.hN he.vn;simp only[sx,sy,sf,SO.run,↓reduceIte,Nat.reduceEqDiff,hNr2,cF,hv,ryn,Tx,Tq];refine bw (row:=eN c (V) v) (row':=eN c (aS (V) (3*v+1) v1) v) (hP.same he (by simp) (by simp;omega)).hN (b_ _ _ hv) (by rw[hv1.cell.1];rfl) hv1.cell.2 ?_ λg1 x2 n2 f2=>?_
    ·simp only[eN,hv1.cell.1,cT,sy,↓reduceIte,Nat.reduceAdd,Nat.reduceLeDiff,aG,ay (V) (k:=3*v+1) (j:=3*v+2) _ (by omega),ay (V) (k:=3*v+1) (j:=3*v+3) _ (by omega)]
    rw[kC rfl (λi' hi'=>zw (by omega) hi')]at x2;simp only[sy]at n2 f2;have hI1:=hP.node (g':=g1) he x2 (ay _ _ (by omega)) (by omega) f2;have hI1D:=hD.setF v (((aS F v l)) v++[(u:Int)]);rw[Ub,<-hD.f v hv]at hI1D;simp only[UV,Uv,ci]at hI1D;simp only[sx,sy,↓reduceIte,Nat.reduceEqDiff,h16];refine⟨?_,?_⟩
    ·simp only[TM,TS,TL,TJ,hrf];refine aI [false,false,false,false,false,false,false,false,false,false,true,true,false,false,true] [(0,10),(1,10),(2,10),(3,10),(4,10),(5,10),(6,10),(7,10),(8,10),(0,11),(1,11),(2,11)] (by simp[All2,ae,aw]) (by decide) ?_;rintro p hp x y hx hy;simp only[T3,TV,U_]at hp;rcases hp with rfl|rfl|rfl|rfl|rfl|rfl|rfl|rfl|rfl|rfl|rfl|rfl<;>(simp at hx hy;subst hx;subst hy;refine bO rfl rfl rfl rfl ?_ ?_ ?_<;>simp[ae,aw,dD,hrf,eE ryn]<;>first|omega| (intro i' hi';rcases lg1 i' hi' with h|h<;>first|omega|simp at h)|skip)
    clear hNr hrf hbb hO hP hNr2 hrf2 x2 f2 n2 f1 n1 vid1 lg1 hlb;rw[Dh,aG]at hI1D;simp only[sx,sy,↓reduceIte,Nat.reduceEqDiff,h1,h2,h3,h4,h5,h6,h7,h9,h14,h15,h17,uY,St];exact⟨_,_,l++[(u:Int)],hI1.same he (by simp) (by simp),hI1D,.inr ⟨rfl,j,by omega,hq⟩⟩
   ·simp only[sx,sy,↓reduceIte,Nat.reduceEqDiff,h1,h2,h3,h4,h5,h6,h7,h9,h14,h15,h16,h17,uY,St];refine⟨V,W,l',hI,hD,?_⟩;rcases hl' with h|⟨h,k',hk',hk2⟩
    ·exact .inl h
    ·exact .inr ⟨h,k',by omega,hk2⟩
  ·have hq1:decide (((num j:Nat):Int)=(u:Int))=false:=by simp;omega
   simp only[sx,sy,SO.run,↓reduceIte,Nat.reduceEqDiff,h1,h2,h3,h4,h5,h6,h7,h9,h14,h15,h16,h17,hq1,uY,St];refine⟨V,W,l',hI,hD,?_⟩;rcases hl' with h|⟨h,k',hk',hk2⟩
   ·exact .inl h
   ·exact .inr ⟨h,k',by omega,hk2⟩
 ·rintro t df g ⟨rfl,ht,h16,V,W,l',hI,hD,hl'⟩;exact fin t g V W l' ht h16 hI hD hl'
theorem Q0{d:Nat}{e:ME}{r6:AV}{pl:List Int}{num:Nat->Nat}{i v cap:Nat}{Q:QT}(hd:0<d)(he:e.Ok)(hpr:MPr e)(hp:MN e r6 pl num)(hi:i<e.n)(hv:v<e.n)
  {t:T} {g:G} {V:Nat->AV} {W:Nat->List (List AV)} {c:Nat->Int} {ow:List Bool} {R:List (List Int)} {F N O:Nat->List Int} (ht:uY e r6 i v t) (h16:tat t 16=.int .i64 0)
  (hI:MI e g V W c ow cap) (hD:MD e W R F N O) (hFv:F v=[])
  (fin:∀t g V W l,uY e r6 i v t->MI e g V W c ow cap->MD e W R (aS F v l) N O->S.Rc l e.n=true->(∀x∈l,∃k,k<i/\x=(num k:Int))->l.length<=4->Q (.exit 8) t [] g) :
  wpL (wp C0 d none eJ) Q t [] g:=by
 have hoo:=he.ord;have hn1:=he.n1;simp only[eJ,jn];refine f_ e.n (by omega) (λu t df g=>df=[]/\uY e r6 i v t/\∃V W l,MI e g V W c ow cap/\MD e W R (aS F v l) N O/\S.Rc l e.n=true/\(∀x∈l,x<(u:Int))/\(∀x∈l,∃k,k<i/\x=(num k:Int))/\l.length<=u)
  ⟨rfl,ht,V,W,[],hI,by rw[Ju hFv];exact hD,rfl,by simp,by simp,Tp _⟩ h16 (by decide) (by rintro j t df g v s (rfl|rfl|rfl)<;>simp[uY,St,sx]) ?_ ?_ ?_
 ·rintro j t df g hj ⟨rfl,⟨h1,h2,h3,h4,h5,h6,h7,h9,h14,h15,-⟩,hx⟩ h16;simp only[sx,sy,SO.run,↓reduceIte,Nat.reduceEqDiff,h1,h2,h3,h4,h5,h6,h7,h9,h14,h15,h16,uY,St];exact hx
 ·clear ht h16 hI hD;rintro j t df g hj ⟨rfl,ht,V,W,l,hI,hD,hl1,hl2,hl3,hl4⟩ h16;simp only[sx,SO.run];refine QZ hd he hpr hp hi hv hj (by obtain⟨h1,h2,h3,h4,h5,h6,h7,h9,h14,h15,-⟩:=ht;simp[uY,St,sx,h1,h2,h3,h4,h5,h6,h7,h9,h14,h15]) (by simp[sx,h16]) (by simp[sx]) hI hD (by omega) λt g V W l' ht h16 hI hD hl'=>?_;simp only[sx,sy,↓reduceIte];refine⟨⟨ht,V,W,l',hI,hD,?_⟩,h16⟩;rcases hl' with rfl|⟨rfl,k,hk,hk2⟩
  ·exact⟨hl1,λx hx=>by have:=hl2 x hx;omega,hl3,by omega⟩
  ·refine⟨tH hl1 hl2 (by omega) (by omega) (VW _),λx hx=>?_,λx hx=>?_,by simp;omega⟩
   ·rcases Uf.1 hx with h|h
    ·have:=hl2 x h;omega
    ·simp at h;omega
   ·rcases Uf.1 hx with h|h
    ·exact hl3 x h
    ·simp at h;exact⟨k,hk,by omega⟩
 ·rintro t df g ⟨rfl,ht,V,W,l,hI,hD,hl1,hl2,hl3,hl4⟩;exact fin t g V W l ht hI hD hl1 hl3 (by omega)
theorem Ci{α β γ:Type}{R:β->γ->Prop}{f:α->β}{h:α->γ}:∀{l:List α},(∀x∈l,R (f x) (h x))->All2 R (l.map f) (l.map h)
 |[],_=>trivial
 |a::l,hl=>⟨hl a (by simp),Ci λx hx=>hl x (by simp[hx])⟩
def mkM(e:ME)(c:Nat->Int)(R:List (List Int))(F N O:Nat->List Int):Causal:=⟨e.gr,R,(List.range e.n).map λi=>⟨c i,F i,N i,O i⟩⟩
theorem D6{e:ME}{c:Nat->Int}{R:List (List Int)}{F N O:Nat->List Int}{i:Nat}(h:i<e.n):(mkM e c R F N O).nodes[i]?=some ⟨c i,F i,N i,O i⟩:=by simp[mkM,h]
theorem MI.agg{e:ME}{g:G}{V:Nat->AV}{W:Nat->List (List AV)}{c:Nat->Int}{ow:List Bool}{cap:Nat}{R:List (List Int)}{F N O:Nat->List Int}(h:MI e g V W c ow cap)(he:e.Ok)(hD:MD e W R F N O)
  (hR:R.length<=1000) (hl:∀i,i<e.n->(F i).length<=1000000000/\(N i).length<=1000000000/\(O i).length<=1000000000):Agg (mkM e c R F N O) (λi=>1<i) 0 g.h (.agg [.int .i64 e.gr,V 0,e.nv]):=by
 have hn:=he.n1;have hoo:=he.ord;refine⟨_,rfl,aZ.2 ⟨V 0,e.nv,rfl,?_,?_⟩⟩
 ·exact Own.sl (α:=List Int) (h.fam.1 0 (by omega)) (by show R.length<_;omega) (hD.r.mono λa b r=>Rp.tree r (Tp _)) λi hi=>by have:=((h.fam.1 0 (by omega)).lt hi).1;omega
 ·refine Own.sl (α:=Mech) h.hN (by simp[mkM];omega) ?_ λi hi=>by have:=bi he.vn hi;omega
  refine Ci λi hi=>?_;have hi:i<e.n:=TK.1 hi;obtain⟨l1,l2,l3⟩:=hl i hi;refine dG.2 ⟨_,_,_,rfl,?_,?_,?_⟩
  ·have:=h.fam.1 (3*i+1) (by omega);rw[hD.f i hi]at this;exact Own.sl (α:=Int) this (by show (F i).length<_;omega) (Q5 (λa=>aB.2 rfl) _) λi hi=>by have:=(this.lt hi).1;omega
  ·have:=h.fam.1 (3*i+2) (by omega);rw[hD.n i hi]at this;exact Own.sl (α:=Int) this (by show (N i).length<_;omega) (Q5 (λa=>aB.2 rfl) _) λi hi=>by have:=(this.lt hi).1;omega
  ·have:=h.fam.1 (3*i+3) (by omega);rw[hD.o i hi]at this;exact Own.sl (α:=Int) this (by show (O i).length<_;omega) (Q5 (λa=>aB.2 rfl) _) λi hi=>by have:=(this.lt hi).1;omega
def iU(e:ME)(r6 r18:AV)(i v:Nat)(t:T):Prop :=
 St t [(1,.hptr 0 0 0 0),(2,.hptr 1 0 0 0),(3,.int .i64 (e.n:Int)),(4,.hptr e.p4 0 0 0),(5,e.w5),(6,r6),(7,.hptr e.p7 0 0 0),(9,e.w9),(14,.int .i64 (i:Int)),(15,.int .i64 (v:Int)),(18,r18)]
theorem QC{d:Nat}{e:ME}{r6 r18 xr:AV}{i v cc:Nat}{fst:Int}{x:List Int}{lrows:List (List AV)}{Q:QT}(hd:0<d)(hr:∀h',ac h' 1 r18=some lrows)(hc:lrows[cc]?=some [xr])(hx:IT 0 x xr)(hx6:x.length<=12)(hxv:∀y∈x,0<=y/\y<4)
  {t:T} {g:G} {B:Int} (ht:iU e r6 r18 i v t) (h19:tat t 19=.int .i64 (cc:Int)) (h20:tat t 20=.int .i64 B) (h21:tat t 21=.int .i64 fst) (h22:tat t 22=.int .i64 0) (h23:tat t 23=.int .i64 0)
  (fin:∀t key,iU e r6 r18 i v t->tat t 19=.int .i64 (cc:Int)->tat t 20=.int .i64 B->tat t 21=.int .i64 fst->tat t 22=.int .i64 key->0<=key->key<4 ^ 12->Q (.exit 14) t [] g) :
  wpL (wp C0 d none dX) Q t [] g:=by
 have hcl:cc<lrows.length:=(Tu.1 hc).1;simp only[dX,jp];refine f_ x.length (by omega) (λk t df g'=>df=[]/\g'=g/\iU e r6 r18 i v t/\tat t 19=.int .i64 (cc:Int)/\tat t 20=.int .i64 B/\tat t 21=.int .i64 fst/\∃key,tat t 22=.int .i64 key/\0<=key/\key<4 ^ k)
  ⟨rfl,rfl,ht,h19,h20,h21,0,h22,by decide,by decide⟩ h23 (by decide) (by rintro j t df g v s (rfl|rfl|rfl)<;>simp[iU,St,sx]) ?_ ?_ ?_
 ·rintro j t df g' hj ⟨rfl,rfl,⟨h1,h2,h3,h4,h5,h6,h7,h9,h14,h15,h18,-⟩,h19,h20,h21,hx2⟩ h23;simp only[sx,sy,SO.run,↓reduceIte,Nat.reduceEqDiff,h1,h2,h3,h4,h5,h6,h7,h9,h14,h15,h18,h19,h20,h21,h23,hr,hcl,hc,hx.len,Tx,Tq,iU,St];exact hx2
 ·rintro j t df g' hj ⟨rfl,rfl,⟨h1,h2,h3,h4,h5,h6,h7,h9,h14,h15,h18,-⟩,h19,h20,h21,key,h22,k0,k1⟩ h23;obtain⟨y,hy,-,hm⟩:=af hj;obtain⟨y0,y1⟩:=hxv y hm;have hp:(4:Int) ^ j<=4 ^ 12:=bI (by omega);have hp2:(4:Int) ^ 12=16777216:=by decide
  have hp3:(4:Int) ^ (j+1)=4 ^ j*4:=Vr ..;have xr:=hx.rows;simp only[sx,SO.run,↓reduceIte,Nat.reduceEqDiff,h21,h23];refine aR (λhb=>?_) (λhb=>?_)
  ·simp only[sx,sy,SO.run,↓reduceIte,Nat.reduceEqDiff,h1,h2,h3,h4,h5,h6,h7,h9,h14,h15,h18,h19,h20,h21,h22,h23,hr,hcl,hc,xr,hj,hy,ci,Tz,Tt,TQ,Tx,Tq,iU,St,
    au (show -9223372036854775808<=3*key by omega) (show 3*key<9223372036854775808 by omega),au (show -9223372036854775808<=3*key+y by omega) (show 3*key+y<9223372036854775808 by omega)]
   exact⟨_,rfl,by omega,by omega⟩
  ·simp only[sx,sy,↓reduceIte,Nat.reduceEqDiff,h1,h2,h3,h4,h5,h6,h7,h9,h14,h15,h18,h19,h20,h21,h22,h23,iU,St];exact⟨key,rfl,k0,by omega⟩
 ·rintro t df g' ⟨rfl,rfl,ht,h19,h20,h21,key,h22,k0,k1⟩;have hp:(4:Int) ^ x.length<=4 ^ 12:=bI (by omega);exact fin t key ht h19 h20 h21 h22 k0 (by omega)
theorem QF{d:Nat}{e:ME}{r6 r18:AV}{i v cc cap:Nat}{Q:QT}(he:e.Ok)(hv:v<e.n)
  {t:T} {g:G} {V:Nat->AV} {W:Nat->List (List AV)} {c:Nat->Int} {ow:List Bool} {R:List (List Int)} {F N O:Nat->List Int} {l:List Int} {B:Int} (ht:iU e r6 r18 i v t) (h19:tat t 19=.int .i64 (cc:Int)) (h20:tat t 20=.int .i64 B)
  (hB0:0<=B) (hcv:c v=2\/c v=3) (hI:MI e g V W c ow cap) (hD:MD e W R F N (aS O v l)) (hlO:l.length<=1000000)
  (fin:∀t g V W,iU e r6 r18 i v t->tat t 19=.int .i64 (cc:Int)->MI e g V W c ow cap->MD e W R F N (aS O v (l++[B % c v]))->Q .norm t [] g) :
  wp C0 d none bV Q t [] g:=by
 have hoo:=he.ord;have hn1:=he.n1;have ryn:=gS he.vn;have hrem:=dc .i64 hB0 (show 0<c v by omega);have hlO:(aS O v l v).length<=1000000:=by rw[aG];exact hlO
 obtain⟨h1,h2,h3,h4,h5,h6,h7,h9,h14,h15,h18,-⟩:=ht;simp only[bV];have hNr:=hI.hN.rows;have hrf:=eW hI.hN he.vn;have hbb:=hI.nx;have hlb:=hlO;have hO:=hI.fam.1 (3*v+3) (by omega);simp only[sx,sy,sf,SO.run,↓reduceIte,Nat.reduceEqDiff,h4,h15,h20,hrem,hI.h4,hNr,cF,hv,ryn,b_ c (V) hv,eN,Tx,Tq];refine aT (b:=e.b) (rows:=(W) (3*v+3)) (new:=[[.int .i64 (B % c v)]]) (hO.fr (by simp;omega) (λi' hi'=>?_)) (by simp[sx,sy]) (by simp;omega) (by rw[hD.o v hv];simp[aQ];omega) λv1 ga hv1 n1 f1 vid1 lg1=>?_
 ·have:=(hO.lt hi').2;simp[Q_];omega
 simp only[sx,sy]at n1 f1 vid1 lg1;have hP:=hI.grow (g':=ga) (k:=3*v+3) (rows':=(W) (3*v+3)++[[.int .i64 (B % c v)]]) he (by omega) hv1 (by omega) (λi' hi' hne=>by rw[f1 i' (by omega) hne,TF (by omega)]) (by rcases vid1 with h|⟨i',h,hi'⟩;exact .inl h;exact .inr ⟨i',h,by omega⟩);have hNr2:=hP.hN.rows;have hrf2:=eW hP.hN he.vn;simp only[sx,sy,sf,SO.run,↓reduceIte,Nat.reduceEqDiff,hNr2,cF,hv,ryn,Tx,Tq];refine bw (row:=eN c (V) v) (row':=eN c (aS (V) (3*v+3) v1) v) (hP.same he (by simp) (by simp;omega)).hN (b_ _ _ hv) (by rw[hv1.cell.1];rfl) hv1.cell.2 ?_ λg1 x2 n2 f2=>?_
 ·simp only[eN,hv1.cell.1,cT,sy,↓reduceIte,Nat.reduceAdd,Nat.reduceLeDiff,aG,ay (V) (k:=3*v+3) (j:=3*v+1) _ (by omega),ay (V) (k:=3*v+3) (j:=3*v+2) _ (by omega)]
 rw[kC rfl (λi' hi'=>zw (by omega) hi')]at x2;simp only[sy]at n2 f2;have hI1:=hP.node (g':=g1) he x2 (ay _ _ (by omega)) (by omega) f2;have hI1D:=hD.setO v (((aS O v l)) v++[B % c v]);rw[Ub,<-hD.o v hv]at hI1D;simp only[UV,Uv,ci]at hI1D;simp only[sy];refine⟨?_,?_⟩
 ·simp only[TM,TS,TL,TJ,hrf];refine aI [false,false,false,false,false,false,false,false,false,false,false,false,false,false,false,false,false,true,true,false,false,true] [(0,17),(1,17),(2,17),(3,17),(4,17),(5,17),(6,17),(7,17),(8,17),(0,18),(1,18),(2,18)] (by simp[All2,ae,aw]) (by decide) ?_;rintro p hp x y hx hy;simp only[T3,TV,U_]at hp;rcases hp with rfl|rfl|rfl|rfl|rfl|rfl|rfl|rfl|rfl|rfl|rfl|rfl<;>(simp at hx hy;subst hx;subst hy;refine bO rfl rfl rfl rfl ?_ ?_ ?_<;>simp[ae,aw,dD,hrf,eE ryn]<;>first|omega| (intro i' hi';rcases lg1 i' hi' with h|h<;>first|omega|simp at h)|skip)
 clear hNr hrf hbb hO hP hNr2 hrf2 x2 f2 n2 f1 n1 vid1 lg1 hlb;rw[Dh,aG]at hI1D;exact fin _ _ _ _ (by simp[sx,iU,St,h1,h2,h3,h4,h5,h6,h7,h9,h14,h15,h18]) (by simp[sx,h19]) (hI1.same he (by simp) (by simp)) hI1D
theorem QD{d:Nat}{e:ME}{r6 r18:AV}{i v cap:Nat}{cards:List Int}{Q:QT}(hd:0<d)(he:e.Ok)(hpr:MPr e)(hi:i<e.n)(hv:v<e.n)(hr18:One (S.SE cards) NoP 0 .nil r18)(hc1:∀x∈cards,1<=x/\x<=4)(hc6:cards.length<=12)(hlen:(S.SE cards).length<=1000000)
  {t:T} {g:G} {V:Nat->AV} {W:Nat->List (List AV)} {c:Nat->Int} {ow:List Bool} {R:List (List Int)} {F N O:Nat->List Int} (ht:iU e r6 r18 i v t) (h19:tat t 19=.int .i64 0)
  (hcv:c v=2\/c v=3) (hol:ow.length=e.n) (hon:ow[v]?=some true->(F v).length<cards.length) (hFl:(F v).length<=100)
  (hI:MI e g V W c ow cap) (hD:MD e W R F N O) (hOv:O v=[])
  (fin:∀t g V W l,iU e r6 r18 i v t->MI e g V W c ow cap->MD e W R F N (aS O v l)->l.length=(S.SE cards).length->(∀x∈l,0<=x/\x<c v)->Q (.exit 12) t [] g) :
  wpL (wp C0 d none dY) Q t [] g:=by
 have hoo:=he.ord;have hn1:=he.n1;have ryn:=gS he.vn;have ry5:=gS he.v5;obtain⟨z18,ez,hs18⟩:=hr18;injection ez with ez;subst ez;obtain⟨lrows,r1,r2,r3,r4⟩:=hs18.all;have r1:∀h',ac h' 1 r18=some lrows:=r1;simp only[dY,iE];refine f_ (S.SE cards).length (by omega) (λk t df g=>df=[]/\iU e r6 r18 i v t/\∃V W l,MI e g V W c ow cap/\MD e W R F N (aS O v l)/\l.length=k/\∀x∈l,0<=x/\x<c v)
  ⟨rfl,ht,V,W,[],hI,by rw[Ju hOv];exact hD,rfl,by simp⟩ h19 (by decide) (by rintro j t df g v s (rfl|rfl|rfl)<;>simp[iU,St,sx]) ?_ ?_ ?_
 ·rintro j t df g hj ⟨rfl,⟨h1,h2,h3,h4,h5,h6,h7,h9,h14,h15,h18,-⟩,hx⟩ h19;simp only[sx,sy,SO.run,↓reduceIte,Nat.reduceEqDiff,h1,h2,h3,h4,h5,h6,h7,h9,h14,h15,h18,h19,hs18.len,iU,St];exact hx
 ·clear ht h19 hI hD;rintro j t df g hj ⟨rfl,⟨h1,h2,h3,h4,h5,h6,h7,h9,h14,h15,h18,-⟩,V,W,l,hI,hD,hl1,hl2⟩ h19;obtain⟨x,hx,-,hm⟩:=af hj;obtain⟨row,q1,q2⟩:=r3 j x hx;obtain⟨xr,rfl,hxr⟩:=f6.1 q2;have hxr:IT 0 x xr:=⟨xr,rfl,hxr⟩;have hjr:j<lrows.length:=by omega
  have hco:=JD (λc h=>(hc1 c h).1) x hm;have hxl:x.length=cards.length:=hco.1.symm;have hxv:∀y∈x,0<=y/\y<4:=λy hy=>by obtain⟨k,hk,rfl⟩:=Ui.1 hy;obtain⟨cd,hcd⟩:∃cd,cards[k]?=some cd:=⟨_,Tn (by omega)⟩;have:=hco.2 k cd _ hcd (Tn hk);have:=hc1 cd (Tv hcd);omega
  obtain⟨y,oa,hy,hoa⟩:=hpr.2 i hi;have hip:i<e.prow.length:=by rw[hpr.1];exact hi
  obtain⟨orows,o1,o2,o3,o4⟩:=hoa.all;have o1:∀h',ac h' 1 oa=some orows:=o1;have hin:∀k:Nat,0<y.2.2.2.length->∃z:UInt8,orows[k % y.2.2.2.length]?=some [u8v z]/\k % y.2.2.2.length<orows.length:=λk hk=>by have hlt:=U4 k hk;obtain⟨z,hz⟩:∃z,y.2.2.2[k % y.2.2.2.length]?=some z:=⟨_,Tn hlt⟩;obtain⟨row,w1,w2⟩:=o3 _ z hz;rw[fP.1 w2]at w1;exact⟨z,w1,by omega⟩
  have last:∀(t:T) (B:Int),iU e r6 r18 i v t->tat t 19=.int .i64 (j:Int)->tat t 20=.int .i64 B->0<=B ->
    wp C0 d none bV (kR (λt df g=>(df=[]/\iU e r6 r18 i v t/\∃V W l,MI e g V W c ow cap/\MD e W R F N (aS O v l)/\l.length=j+1/\∀x∈l,0<=x/\x<c v)/\tat t 19=.int .i64 (j:Int)) 13 Q) t [] g:=λt B ht h19 h20 hB =>
   QF he hv ht h19 h20 hB hcv hI hD (by omega) λt g V W ht h19 hI hD=>by
    rw[zt];refine⟨⟨rfl,ht,V,W,_,hI,hD,by simp[hl1],λx hx=>?_⟩,h19⟩;rcases Uf.1 hx with h|h
    ·exact hl2 x h
    ·simp at h;subst h;exact⟨Vh _ (by omega),UY _ (by omega)⟩
  have mid:∀(t:T) (B:Int),iU e r6 r18 i v t->tat t 19=.int .i64 (j:Int)->tat t 20=.int .i64 B->0<=B->B<1000000 ->
    wp C0 d none d6 (kR (λt df g=>(df=[]/\iU e r6 r18 i v t/\∃V W l,MI e g V W c ow cap/\MD e W R F N (aS O v l)/\l.length=j+1/\∀x∈l,0<=x/\x<c v)/\tat t 19=.int .i64 (j:Int)) 13 Q) t [] g:=by
   rintro t B ⟨h1,h2,h3,h4,h5,h6,h7,h9,h14,h15,h18,-⟩ h19 h20 hB hBB;have hvo:v<(ow.map λx=>[AV.bool x]).length:=by rw[Tz,hol];exact hv
   have hvo2:v<ow.length:=by omega
   have hrow:(ow.map λx=>[AV.bool x])[v]?=some [.bool ow[v]]:=by rw[Tt,Tn hvo2];rfl
   simp only[d6,sx,SO.run,↓reduceIte,Nat.reduceEqDiff,h9,h15,hI.h9.rows,hvo,hrow,Tx,Tq];refine aR (λhb=>?_) (λhb=>?_)
   ·have hfl:=hon (by rw[Tn hvo2,hb]);have hOw:=hI.fam.1 (3*v+1) (by omega);rw[hD.f v hv]at hOw;have lF:=bQ hOw.rows;rw[Tz]at lF;simp only[sx,sy,SO.run,↓reduceIte,Nat.reduceEqDiff,h4,h15,hI.h4,hI.hN.rows,cF,hv,ryn,b_ c V hv,eN,lF,Tx,Tq];refine QC (B:=B) (cc:=j) (x:=x) (xr:=xr) (fst:=((F v).length:Int)) (e:=e) (r6:=r6) (r18:=r18) (i:=i) (v:=v) hd r1 q1 hxr (by omega) hxv (by simp[sx,iU,St,h1,h2,h3,h4,h5,h6,h7,h9,h14,h15,h18]) (by simp[sx,h19]) (by simp[sx,h20]) (by simp[sx]) (by simp[sx]) (by simp[sx]) ?_;rintro t key ⟨h1,h2,h3,h4,h5,h6,h7,h9,h14,h15,h18,-⟩ h19 h20 h21 h22 k0 k1;have hp2:(4:Int) ^ 12=16777216:=by decide
    obtain⟨kk,rfl⟩:=Ty k0;simp only[iD,sx,sy,SO.run,↓reduceIte,Nat.reduceEqDiff,h5,h14,hI.h5.rows,hip,hy,ry5,hoa.len,Tx,Tq];have fin2:∀(t:T) (B:Int),iU e r6 r18 i v t->tat t 19=.int .i64 (j:Int)->tat t 20=.int .i64 B->tat t 21=.int .i64 ((F v).length:Int)->0<=B->B<1000000 ->
      wp C0 d none d5 (kS (wp C0 d none bV (kR (λt df g=>(df=[]/\iU e r6 r18 i v t/\∃V W l,MI e g V W c ow cap/\MD e W R F N (aS O v l)/\l.length=j+1/\∀x∈l,0<=x/\x<c v)/\tat t 19=.int .i64 (j:Int)) 13 Q))
       (kR (λt df g=>(df=[]/\iU e r6 r18 i v t/\∃V W l,MI e g V W c ow cap/\MD e W R F N (aS O v l)/\l.length=j+1/\∀x∈l,0<=x/\x<c v)/\tat t 19=.int .i64 (j:Int)) 13 Q)) t [] g:=by
     rintro t B ⟨h1,h2,h3,h4,h5,h6,h7,h9,h14,h15,h18,-⟩ h19 h20 h21 hB hB2;have hfx:(F v).length<x.length:=by omega
     obtain⟨z,hz,-,hzm⟩:=af hfx;obtain⟨z0,z1⟩:=hxv z hzm;simp only[d5,sx,SO.run,↓reduceIte,Nat.reduceEqDiff,h18,h19,h20,h21,r1,hjr,q1,hxr.rows,hfx,hz,ci,Tz,Tt,TQ,Tx,Tq,
      au (show -9223372036854775808<=B+z by omega) (show B+z<9223372036854775808 by omega)]
     exact last _ (B+z) (by simp[sx,iU,St,h1,h2,h3,h4,h5,h6,h7,h9,h14,h15,h18]) (by simp[sx,h19]) (by simp[sx]) (by omega)
    refine aR (λhb=>?_) (λhb=>?_)
    ·have hpos:0<y.2.2.2.length:=by simpa using hb
     obtain⟨z,hz,hzl⟩:=hin kk hpos;have z8:z.toNat<256:=z.toNat_lt;have em:((kk:Int) % (y.2.2.2.length:Int))=((kk % y.2.2.2.length:Nat):Int):=by omega
     simp only[sx,sy,SO.run,↓reduceIte,Nat.reduceEqDiff,h5,h14,h22,hI.h5.rows,hip,hy,ry5,hoa.len,o1,hzl,hz,u8v,em,Tx,Tq,dc .i64 (show (0:Int)<=(kk:Int) by omega) (show 0<(y.2.2.2.length:Int) by omega),
      au (show -9223372036854775808<=(z.toNat:Int) by omega) (show (z.toNat:Int)<9223372036854775808 by omega)]
     exact fin2 _ (z.toNat:Int) (by simp[sx,iU,St,h1,h2,h3,h4,h5,h6,h7,h9,h14,h15,h18]) (by simp[sx,h19]) (by simp[sx]) (by simp[sx,h21]) (by omega) (by omega)
    ·simp only[sx];exact fin2 _ B (by simp[sx,iU,St,h1,h2,h3,h4,h5,h6,h7,h9,h14,h15,h18]) (by simp[sx,h19]) (by simp[sx,h20]) (by simp[sx,h21]) hB hBB
   ·simp only[sx];exact last _ B (by simp[sx,iU,St,h1,h2,h3,h4,h5,h6,h7,h9,h14,h15,h18]) (by simp[sx,h19]) (by simp[sx,h20]) hB
  simp only[sx,sy,SO.run,↓reduceIte,Nat.reduceEqDiff,h5,h14,hI.h5.rows,hip,hy,ry5,hoa.len,Tx,Tq];refine aR (λhb=>?_) (λhb=>?_)
  ·have hpos:0<y.2.2.2.length:=by simpa using hb
   obtain⟨z,hz,hzl⟩:=hin j hpos;have z8:z.toNat<256:=z.toNat_lt;have em:((j:Int) % (y.2.2.2.length:Int))=((j % y.2.2.2.length:Nat):Int):=by omega
   simp only[sx,sy,SO.run,↓reduceIte,Nat.reduceEqDiff,h5,h14,h19,hI.h5.rows,hip,hy,ry5,hoa.len,o1,hzl,hz,u8v,em,Tx,Tq,dc .i64 (show (0:Int)<=(j:Int) by omega) (show 0<(y.2.2.2.length:Int) by omega),
    au (show -9223372036854775808<=(z.toNat:Int) by omega) (show (z.toNat:Int)<9223372036854775808 by omega)]
   exact mid _ (z.toNat:Int) (by simp[sx,iU,St,h1,h2,h3,h4,h5,h6,h7,h9,h14,h15,h18]) (by simp[sx,h19]) (by simp[sx]) (by omega) (by omega)
  ·simp only[sx];exact mid _ 0 (by simp[sx,iU,St,h1,h2,h3,h4,h5,h6,h7,h9,h14,h15,h18]) (by simp[sx,h19]) (by simp[sx]) (by omega) (by omega)
 ·rintro t df g ⟨rfl,ht,V,W,l,hI,hD,hl1,hl2⟩;exact fin t g V W l ht hI hD hl1 hl2
end
end Hx
end
