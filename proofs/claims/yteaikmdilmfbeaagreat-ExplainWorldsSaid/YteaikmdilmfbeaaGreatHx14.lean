/- A part of the proof: an interpreter over abstract values, shown right against the model, and what the functions of the chapter compute on it. -/
import Derived.Test.YteaikmdilmfbeaaGreatHx13
set_option linter.unusedVariables false
set_option linter.unusedSimpArgs false
set_option linter.unnecessarySimpa false
section
namespace Hx
open Go
noncomputable section
structure DAok (D:ND) (n i:Nat) (num:Nat->Nat):Prop where
 e:∀v,v<n->D.P v=[]/\D.m v=0
 c:∀k,k<i->D.c (num k)=2\/D.c (num k)=3
 o:∀u,D.o u=0
def LDA (n q:Nat)(r5:AV):List (Nat×AV):=[(1,.hptr 0 0 0 0),(2,.hptr 1 0 0 0),(3,.int .i64 (n:Int)),(4,.hptr q 0 0 0),(5,r5)]
structure DA (r0:List AV) (n q:Nat) (gr:Int) (r5:AV) (num:Nat->Nat) (i:Nat) (t:T) (g:G):Prop where
 st:St t (LDA n q r5)
 w:∃w:Nat,tat t 6=.int .i64 (w:Int)/\w<=3 ^ i
 hd:∃V E D,DN X1 r0 n q 1000 gr V E D g/\DAok D n i num
theorem OE {i:Nat}(h:i<=5):3 ^ i<=243:=by
 have:i=0\/i=1\/i=2\/i=3\/i=4\/i=5:=by omega
 rcases this with rfl | rfl | rfl | rfl | rfl | rfl<;>decide
theorem Nn {d n q kk:Nat}{x:sT}{gr:Int}{a b r5:AV}{pl:List Int}{num:Nat->Nat}{Q:QT}{t:T}{g:G}(hn:1<=n/\n<=5)(ha:SlR NoP kk .nil x.2.1 a)(h5:IT 0 pl r5)(hN:Num n pl num)
  (h0:DA [u8v x.1,a,b] n q gr r5 num 0 t g) (h7:tat t 7=.int .i64 0)
  (fin:∀t g,DA [u8v x.1,a,b] n q gr r5 num n t g->Q (.exit 0) t [] g):wpL (wp C0 d none d7) Q t [] g:=by
 obtain ⟨pr,r1,r2,r3,r4⟩:=ha.all;have r1:∀h',ah h' 3 a=some pr:=r1;have la:=ha.len;have hal:=ha.1;have r5i:∀h,ah h 1 r5=some (pl.map ci):=λh=>(h5.sl h).ints;simp only[d7,iV];refine bp n (by omega) (λj t df g=>df=[]/\DA [u8v x.1,a,b] n q gr r5 num j t g) ⟨rfl,h0⟩ h7 (by decide) ?_ ?_ ?_ ?_
 ·rintro j t df g v s (rfl | rfl | rfl) ⟨a1,⟨b1,b2,b3,b4,b5,-⟩,⟨w,c1,c2⟩,c3⟩<;>exact ⟨a1,by simp[St,LDA,sx,b1,b2,b3,b4,b5],⟨w,by simp[sx,c1],c2⟩,c3⟩
 ·rintro j t df g hj ⟨rfl,⟨h1,h2,h3,h4,h5,-⟩,⟨w,h6,hw⟩,hD⟩ h7;simp only[sz,simprocAttr,h7,h3];exact ⟨by simp[St,LDA,sx,h1,h2,h3,h4,h5],⟨w,by simp[sx,h6],hw⟩,hD⟩
 ·rintro j t df g hj ⟨rfl,⟨h1,h2,h3,h4,h5,-⟩,⟨w,h6,hw⟩,V,E,D,hD,hok⟩ h7;obtain ⟨p8,hp8⟩:∃p8,p8=g.nx:=⟨_,rfl⟩;have hnx:=hD.hp.nx;refine jN (P:=λt' df g'=>df=[]/\g'=g.new (.cells 3 [[.int .u8 0,.int .u8 0,.nils]] 0 false false)/\St t' ((6,.int .i64 (w:Int))::(7,.int .i64 (j:Int))::(8,.hptr p8 0 0 0)::LDA n q r5)) ?_ ?_
  ·simp only[sz,simprocAttr];simp[St,LDA,sx,h1,h2,h3,h4,h5,h6,h7,hp8]
  clear h1 h2 h3 h4 h5 h6 h7;rintro t df g1 ⟨rfl,hg1,⟨h6,h7,h8,h1,h2,h3,h4,h5,-⟩⟩;have f1:Fr g g1:=by rw[hg1];exact Fr.new _ _
  have k8:g1.h.get p8=.cells 3 [[.int .u8 0,.int .u8 0,.nils]] 0 false false:=by rw[hg1,hp8];simp[H.get_put]
  have n1:p8<g1.nx:=by rw[hg1,hp8];simp
  clear hg1;have hD1:=hD.same f1;have e0:=hD1.h0;refine jN (P:=λt' df g'=>df=[]/\Fr g g'/\St t' ((6,.int .i64 (w:Int))::(7,.int .i64 (j:Int))::(8,.hptr p8 0 0 0)::LDA n q r5)/\p8<g'.nx/\∃(y:UInt8) (z1 z2:AV),g'.h.get p8=.cells 3 [[u8v y,z1,z2]] 0 false false) ?_ ?_
  ·simp only[sz,simprocAttr,h7,h1,e0,la];refine aZ (λhb=>?_) (λhb=>?_)
   ·have hb:j<x.2.1.length:=by simpa using hb
    obtain ⟨y,hy,-,-⟩:=ae hb;obtain ⟨row,q1,q2⟩:=r3 j y hy;obtain ⟨wv,rfl,hwv⟩:=AZ.1 q2;have hlt:j<pr.length:=by omega
    have hry:=r4 (by omega);simp only[sz,simprocAttr,h7,h1,e0,r1,hlt,q1,h8,k8];refine ⟨?_,by simp[St,LDA,sx,h1,h2,h3,h4,h5,h6,h7,h8],by simpa using n1,y.1,u8v y.2.1,wv,by simp[H.get_put]⟩;exact ⟨Nat.le_trans f1.1 (by simp),λi hi=>by simp[H.get_put,show ¬i=p8 by omega];exact f1.2 i hi⟩
   ·simp only[sx,sy];exact ⟨f1,by simp[St,LDA,sx,h1,h2,h3,h4,h5,h6,h7,h8],n1,0,.int .u8 0,.nils,k8⟩
  clear h1 h2 h3 h4 h5 h6 h7 h8 e0 hD1 k8 n1 f1;rintro t df g2 ⟨rfl,f2,⟨h6,h7,h8,h1,h2,h3,h4,h5,-⟩,n2,y,z1,z2,k8⟩;have hD2:=hD.same f2;have q2:=gk .u8 (a:=(y.toNat:Int)) (b:=2) (by omega) (by omega);obtain ⟨m,hm⟩:∃m:Nat,(y.toNat:Int) % 2=(m:Int):=Int.eq_ofNat_of_zero_le (Int.emod_nonneg _ (by decide));have hm2:m<2:=by have:=Int.emod_lt_of_pos (y.toNat:Int) (show (0:Int)<2 by decide);omega
  rw[hm] at q2;have w2:IntKind.wrap .i64 (m:Int)=(m:Int):=ay (by omega) (by omega);have w3:IntKind.wrap .i64 (2+(m:Int))=((2+m:Nat):Int):=by rw[ay (by omega) (by omega)];rfl
  have hp3:=OE (i:=j) (by omega);have hwc:w*(2+m)<=243*3:=Nat.mul_le_mul (by omega) (by omega);have w4:IntKind.wrap .i64 ((w:Int)*((2+m:Nat):Int))=((w*(2+m):Nat):Int):=by rw[<-Int.natCast_mul,ay (by omega) (by omega)]
  have w5:IntKind.wrap .i64 ((n:Int) - 1)=((n - 1:Nat):Int):=by rw[ay (by omega) (by omega)];omega
  have w6:IntKind.wrap .i64 (((n - 1:Nat):Int) - (j:Int))=((n - 1 - j:Nat):Int):=by rw[ay (by omega) (by omega)];omega
  have w7:IntKind.wrap .u64 ((n - 1 - j:Nat):Int)=((n - 1 - j:Nat):Int):=sn (by omega) (by omega);obtain ⟨z,hz⟩:=L9 (w*(2+m)) (n - 1 - j);refine jN (P:=λt' df g'=>df=[]/\g'=g2/\St t' ((6,.int .i64 (w:Int))::(7,.int .i64 (j:Int))::(9,.int .i64 ((2+m:Nat):Int))::LDA n q r5)) ?_ ?_
  ·simp only[sz,simprocAttr,h8,k8,u8v,q2,w2,w3];simp[St,LDA,sx,h1,h2,h3,h4,h5,h6,h7]
  clear h1 h2 h3 h4 h5 h6 h7 h8;rintro t df g3 ⟨rfl,rfl,⟨h6,h7,h9,h1,h2,h3,h4,h5,-⟩⟩;refine jN (P:=λt' df g'=>df=[]/\g'=g3/\∃C:Nat,(C=2\/C=3)/\St t' ((6,.int .i64 (w:Int))::(7,.int .i64 (j:Int))::(9,.int .i64 (C:Int))::LDA n q r5)) ?_ ?_
  ·simp only[sz,simprocAttr,h6,h7,h9,h3,w4,w5,w6,w7,hz];refine aZ (λhb=>?_) (λhb=>?_)
   ·simp only[sz,simprocAttr];refine ⟨2,.inl rfl,?_⟩;simp[St,LDA,sx,h1,h2,h3,h4,h5,h6,h7]
   ·simp only[sx,sy];refine ⟨2+m,by omega,?_⟩;simp[St,LDA,sx,h1,h2,h3,h4,h5,h6,h7,h9]
  clear h1 h2 h3 h4 h5 h6 h7 h9 hwc w4 hz w3;rintro t df g4 ⟨rfl,rfl,C,hC,⟨h6,h7,h9,h1,h2,h3,h4,h5,-⟩⟩;have hwc:w*C<=3 ^ j*3:=Nat.mul_le_mul hw (by omega);have hwc2:w*C<=243*3:=Nat.mul_le_mul (by omega) (by omega);have w4:IntKind.wrap .i64 ((w:Int)*(C:Int))=((w*C:Nat):Int):=by rw[<-Int.natCast_mul,ay (by omega) (by omega)]
  refine jN (P:=λt' df g'=>df=[]/\g'=g4/\St t' ((6,.int .i64 ((w*C:Nat):Int))::(7,.int .i64 (j:Int))::(9,.int .i64 (C:Int))::LDA n q r5)) ?_ ?_
  ·simp only[sz,simprocAttr,h6,h9,w4];simp[St,LDA,sx,h1,h2,h3,h4,h5,h7,h9]
  clear h1 h2 h3 h4 h5 h6 h7 h9;rintro t df g5 ⟨rfl,rfl,⟨h6,h7,h9,h1,h2,h3,h4,h5,-⟩⟩;obtain ⟨kq,q2a,q2b⟩:=hD2.q rfl;have rns:=hD2.ns.rows;have hry:=eo hD2.ns (by simp;omega);have hnj:=hN.lt j hj;have u1:j<(pl.map ci).length:=by rw[List.length_map,hN.len];exact hj
  have u2:(pl.map ci)[j]?=some (ci (num j:Int)):=by rw[List.getElem?_map,hN.at_ j hj];rfl
  have u3:num j<((List.range n).map (eU D V)).length:=by simpa using hnj
  have u4:=fg (eU D V) hnj;simp only[sz,simprocAttr,sf,h4,kq,h5,h7,h9,r5i,u1,u2,rns,u3,hry,ci];refine (hD2.same (g':=_) ⟨?_,?_⟩).card (i:=num j) (c:=(C:Int)) hnj (λk hk=>by rw[hk];simp) λg6 E' hD6 n6=>?_
  ·simp;omega
  ·intro i hi;simp
  simp only[sx,sy,↓reduceIte,Nat.reduceEqDiff];refine ⟨?_,⟨by simp[St,LDA,sx,h1,h2,h3,h4,h5],⟨w*C,by simp[sx,h6],by rw[Nat.pow_succ];exact hwc⟩,V,E',_,hD6.same ⟨by simp,λi _=>by simp⟩,hok.e,λk hk=>?_,hok.o⟩,by simp[h7]⟩
  ·simp only[List.reverse_cons,List.reverse_nil,List.nil_append,List.cons_append];exact aO [false,false,false,false,false,false,false,false,false,true] [] (by simp[All2,ap,aF]) (by decide) (by simp)
  ·by_cases e:num k=num j
   ·simp[e,an];omega
   ·show ups D.c (num j) (C:Int) (num k)=2\/ups D.c (num j) (C:Int) (num k)=3;rw[ac _ _ e];refine hok.c k ?_;have:k≠j:=λh=>e (by rw[h]);omega
 ·rintro t df g ⟨rfl,h⟩;exact fin t g h
theorem qc {g:G}{b:Nat}{v x:AV}{sz bytes:Nat}{rows new:List (List AV)}{K:AV->G->Prop}{D:ADf->Prop}(hv:Own g b v sz rows)(hx:ah g.h sz x=some new)(hb:b<=g.nx)
  (hr:(rows.length+new.length)*bytes<=aP)
  (k:∀v' g',Own g' b v' sz (rows++new)->g.nx<=g'.nx->(∀i,i<g.nx->vid v≠some i->g'.h.get i=g.h.get i)->(vid v'=vid v\/∃i,vid v'=some i/\g.nx<=i)->(∀i∈g'.lg,i∈g.lg\/vid v=some i\/g.nx<=i)->K v' g') :
  (cW sz bytes v x g).sat K g D:=by
 unfold cW;rw[hx];dsimp only;rcases hv with ⟨rfl,rfl⟩ | ⟨id,ep,lo,h1,h2,rfl,h3⟩
 ·cases new with
  | nil=>exact k _ _ (.inl ⟨rfl,rfl⟩) (Nat.le_refl _) (λ_ _ _=>rfl) (.inl rfl) (λi hi=>.inl hi)
  | cons r new =>
   simp only[bk,aw,aa,Nat.ble_eq];rw[if_pos (by simpa using hr)];refine k _ _ (.inr ⟨g.nx,0,true,hb,by simp,rfl,by simp[aR]⟩) (by simp) (λi hi _=>?_) (.inr ⟨g.nx,rfl,Nat.le_refl _⟩) (λi hi=>by simp at hi;rcases hi with rfl | hi;exact .inr (.inr (Nat.le_refl _));exact .inl hi);rw[G.new_h,aq _ _ _ (by omega)]
 ·simp only[bk,G.get_eq,h3,aw,aa,show Nat.beq ep ep=true from Nat.beq_refl ep,show Nat.beq sz sz=true from Nat.beq_refl sz,Bool.true_and,Nat.ble_eq,Bool.and_eq_true,Nat.zero_add,Option.getD_none,Nat.sub_zero];rw[if_pos ⟨Nat.le_refl _,hr⟩];cases new with
  | nil =>
   rw[if_pos (by simp)];refine k _ _ (.inr ⟨id,ep,lo,h1,h2,by simp,by simpa using h3⟩) (Nat.le_refl _) (λ_ _ _=>rfl) (.inl rfl) (λi hi=>.inl hi)
  | cons r new =>
   rw[if_neg (by simp)];have ht:eO rows.length (dZ 0 rows)=rows:=by rw[bh,bg];simp
   cases lo with
   | false =>
    rw[if_pos (by simp)];refine k _ _ (.inr ⟨g.nx,0,true,by omega,by simp,by simp,by simp[aR,ht]⟩) (by simp) (λi hi _=>?_) (.inr ⟨g.nx,rfl,Nat.le_refl _⟩) (λi hi=>by simp at hi;rcases hi with rfl | hi;exact .inr (.inr (Nat.le_refl _));exact .inl hi);rw[G.new_h,aq _ _ _ (by omega)]
   | true =>
    rw[if_neg (by simp)];refine k _ _ (.inr ⟨id,ep+1,true,h1,by simpa using h2,by simp,by simp[aR,ht]⟩) (by simp) (λi hi hne=>?_) (.inl rfl) (λi hi=>by simp at hi;rcases hi with rfl | hi;exact .inr (.inl rfl);exact .inl hi);rw[G.put_h,aq _ _ _ (λe=>hne (by rw[e];rfl))]
section
variable {κ:Type} [DecidableEq κ]{g:G}{b:Nat}{L:κ->Prop}{V:κ->AV}{E:κ->En}{k:κ}
theorem Hp.app2 (h:Hp g b L V E)(hk:L k){sz bytes:Nat}{rows new:List (List AV)}(he:E k=.sl sz rows){x:AV}{K:AV->G->Prop}{D:ADf->Prop}(hx:ah g.h sz x=some new)
  (hr:(rows.length+new.length)*bytes<=aP)
  (kk:∀v' g',Hp g' b L (ups V k v') (ups E k (.sl sz (rows++new)))->g.nx<=g'.nx->(∀i,i<b->g'.h.get i=g.h.get i)->(∀i,i<g.nx->eid (V k)≠some i->g'.h.get i=g.h.get i)->(∀i∈g'.lg,i∈g.lg\/eid (V k)=some i\/g.nx<=i)->v'.cells=[v']->v'.isTup=false->K v' g') :
  (cW sz bytes (V k) x g).sat K g D:=by
 have ho:=h.own hk he;refine qc ho hx h.nx hr λv' g' hv' hn hf hvid hlg=>?_;refine kk v' g' (h.set hk (e':=.sl sz (rows++new)) hv' hn (λi _ hi hne=>hf i hi (by rw[<-bH ho];exact hne)) ?_) hn (λi hi=>hf i (Nat.lt_of_lt_of_le hi h.nx) λe=>by have:=(ho.lt e).1;omega)
  (λi hi hne=>hf i hi (by rw[<-bH ho];exact hne)) (λi hi=>by rw[bH ho];exact hlg i hi) hv'.cell.1 hv'.cell.2
 rw[bH hv',bH ho];exact hvid
theorem Hp.putv (h:Hp g b L V E)(hk:L k){v0:AV}(hv:V k=v0){sz n i off:Nat}{rows:List (List AV)}{row row':List AV}(he:E k=.sl sz rows){x:AV}{K:AV->G->Prop}{D:ADf->Prop}(hr:rows[i]?=some row)
  (hl:x.cells.length=n) (ht:x.isTup=false) (hp:bL row off x.cells=some row')
  (kk:∀g',Hp g' b L V (ups E k (.sl sz (rows.set i row')))->g'.nx=g.nx->(∀i,i<b->g'.h.get i=g.h.get i)->(∀i,eid (V k)≠some i->g'.h.get i=g.h.get i)->K .undef g'):(lJ n (iH sz v0 i off) x g).sat K g D:=by
 subst hv;exact h.put hk he hr hl ht hp kk
end
theorem uZ (m n:Nat):∃z:Nat,cq .shr (.int .u8 (m:Int)) (.int .u64 (n:Int))=.val (.int .u8 (z:Int)) :=
 ⟨m / 2 ^ (Nat.min n 8),rfl⟩
theorem uY (m n:Nat):∃z:Int,cq .and (.int .u8 (m:Int)) (.int .u8 (n:Int))=.val (.int .u8 z):=by have:∃z:Int,Op.intBits .and .u8 (.ofNat m) (.ofNat n)=.pure (.int .u8 z):=⟨_,rfl⟩;obtain ⟨z,hz⟩:=this;refine ⟨z,?_⟩;show orV (oy (Op.intBits .and .u8 (.ofNat m) (.ofNat n)))=_;rw[hz];rfl
structure DB (D:ND) (n i v:Nat) (num:Nat->Nat):Prop where
 c:∀u,u<n->D.c u=2\/D.c u=3
 p:∀u,u<n->(D.P u).length<=3/\∀y∈D.P u,0<=y/\y<n
 m:∀u,u<n->D.m u<=64
 o:∀u,D.o u=0
 f:∀k,i<k->k<n->D.P (num k)=[]/\D.m (num k)=0
def S.Pl (P0:List Int)(c0:Nat->Int):Int:=S.OH (P0.map λy=>c0 y.toNat)
structure DOk (gr:Int) (D:ND) (n i:Nat) (num:Nat->Nat):Prop where
 s:∀u,u<n->(D.P u).Pairwise (·<·)
 a:∀k,k<n->∀y∈D.P (num k),∃k',k'<k/\y=(num k':Int)
 w:∀k,k<i->(D.m (num k):Int)=S.Pl (D.P (num k)) D.c
 r:∀u r,u<n->r<D.m u->KW gr (D.c u) (D.R u r)
def LDB (n q i p v:Nat)(r5:AV):List (Nat×AV):=[(1,.hptr 0 0 0 0),(2,.hptr 1 0 0 0),(3,.int .i64 (n:Int)),(4,.hptr q 0 0 0),(5,r5),(10,.int .i64 (i:Int)),(11,.hptr p 0 0 0),(12,.int .i64 (v:Int))]
structure DP (r0 prow:List AV) (n q i p v:Nat) (gr:Int) (r5:AV) (num:Nat->Nat) (g:G) (V:Ky->AV) (E:Ky->En) (D:ND):Prop where
 dn:DN X2 r0 n q 1000 gr V E D g
 pb:V (0,2)=.hptr p 0 0 0/\E (0,2)=.bx prow
 db:DB D n i v num
 mv:D.m v=0
 ok:DOk gr D n i num
theorem DP.p {r0 prow:List AV}{n q i p v:Nat}{gr:Int}{r5:AV}{num:Nat->Nat}{g:G}{V:Ky->AV}{E:Ky->En}{D:ND}(h:DP r0 prow n q i p v gr r5 num g V E D):g.h.get p=.cells prow.length [prow] 0 false false/\2<=p/\p<g.nx:=by obtain ⟨id,h1,h2,h3,h4⟩:=h.dn.hp.box (k:=(0,2)) (.inr (.inr rfl)) h.pb.2;rw[h.pb.1] at h3;injection h3 with h3;subst h3;exact ⟨h4,h1,h2⟩
theorem BE {X:Ky->Prop}{n:Nat}{D:ND}{V:Ky->AV}{E:Ky->En}{g:G}(h:Hp g 2 (LNX X n D) V E){j k:Ky}(hj:LNX X n D j)(hk:LNX X n D k)(hne:j≠k){id:Nat}(he:eid (V j)=some id):eid (V k)≠some id:=h.sep j k hj hk hne id he
def y6:SC:=.feet [0,1,0,0,8,0,56,120,248,0,512,2040,4095,8191,16383] [oF 131 1 4,oL 132 131,oM 133 12,oF 134 1 4,oL 135 134,oM 136 12,o 137 (.ixs 3 (.t 135) (.t 136)),oF 138 1 137,oL 139 138,oM 140 13,o 141 (.bsl 1 1 [.int .i64 0] [0] [.t 140]),o 142 (.app 1 8 (.t 139) (.t 141)),o 143 (.ixs 3 (.t 132) (.t 133)),oF 144 1 143,oz (.store 1 (.t 144) (.t 142))]
theorem LG {d n q i p v u:Nat}{gr:Int}{r0 prow:List AV}{r5:AV}{num:Nat->Nat}{Q:QT}{t:T}{g:G}{V:Ky->AV}{E:Ky->En}{D:ND}{rest:List (Nat×AV)}(hn:1<=n/\n<=5)(hv:v<n)(hvi:∀k,i<k->k<n->num k≠v)(hu:u<n)(hvl:∀k,k<i->num k≠v)(hua:∃k',k'<i/\u=num k')(hlt:∀y∈D.P v,y<(u:Int))
  (h4:tat t 4=.hptr q 0 0 0) (h12:tat t 12=.int .i64 (v:Int)) (h13:tat t 13=.int .i64 (u:Int)) (hP:DP r0 prow n q i p v gr r5 num g V E D) (hl:(D.P v).length<3)
  (fin:∀t' g' V' E' D',(∀s,(s<131\/144<s)->tat t' s=tat t s)->D'.P v=D.P v++[(u:Int)]->DP r0 prow n q i p v gr r5 num g' V' E' D'->Q .norm t' [] g') :
  wp C0 d none y6 Q t [] g:=by
 have hD:=hP.dn;obtain ⟨kq,q2a,q2b⟩:=hD.q (.inl rfl);unfold y6;have rns:=hD.ns.rows;have hry:=eo hD.ns (by simp;omega);have u3:v<((List.range n).map (eU D V)).length:=by simpa using hv
 have u4:=fg (eU D V) hv;have hps:=hD.bn.ps v hv;have hnx:=hD.hp.nx;simp only[sz,simprocAttr,sf,h4,h12,h13,kq,rns,u3,u4,hry,eU];refine (hD.hp.step (g':=_) ?_ ?_).app2 (k:=(v+1,0)) (.inl (LN.p hv)) hps.1 (new:=[ci (u:Int)]) (by simp[sx,sy,ci]) (by unfold aP;simp;omega) λv1 g1 hH1 n1 fb1 fo1 lg1 vc vt=>?_
 ·simp;omega
 ·intro i _ hi;simp[H.get_put];omega
 simp only[sx,sy] at n1 fb1 fo1 lg1;have e00:ups V (v+1,0) v1 (0,0)=V (0,0):=ac _ _ (by simp);have hE00:ups E (v+1,0) (.sl 1 ((D.P v).map ci++[ci (u:Int)])) (0,0)=.sl 3 ((List.range n).map (eU D V)):=by rw[ac _ _ (by simp)];exact hD.bn.ns
 have rns1:ah g1.h 3 (V (0,0))=some ((List.range n).map (eU D V)):=by rw[<-e00];exact (hH1.own (k:=(0,0)) (.inl LN.z) hE00).rows
 have u4':((List.range n).map (eU D V))[v]?=some [.int .i64 (D.c v),V (v+1,0),V (v+1,1)]:=u4;simp only[sz,simprocAttr,sf,rns1,u3,hry];refine (hH1.same (g':=_) ?_ ?_).putv (k:=(0,0)) (.inl LN.z) e00 (row':=[.int .i64 (D.c v),v1,V (v+1,1)]) hE00 u4 (by rw[vc];rfl) vt (by rw[vc];rfl) λg2 hH2 n2 fb2 fo2=>?_
 ·simp
 ·simp;omega
 simp only[sy];refine ⟨?_,?_⟩
 ·simp only[List.reverse_cons,List.reverse_nil,List.nil_append,List.cons_append];refine aO [false,false,false,false,false,false,false,false,false,false,true,true,false,false,true] [(0,10),(1,10),(2,10),(3,10),(4,10),(5,10),(6,10),(7,10),(8,10),(0,11),(1,11),(2,11)] (by simp[All2,ap,aF]) (by decide) ?_;have hlg:∀i∈g1.lg,i≠q:=λi hi e=>by
   rcases lg1 i hi with h | h | h
   ·simp at h
   ·exact BE hD.hp (.inl (LN.p hv)) (.inr (.inl rfl)) (by simp) h (by rw[hD.vb,e];rfl)
   ·omega
  obtain ⟨id0,ep0,hid0,hv0⟩:∃id ep,id<g.nx/\V (0,0)=.hsl id ep 0 ((List.range n).map (eU D V)).length none:=by
   rcases hD.ns with ⟨h,e⟩ | ⟨id,ep,lo,-,h1,h2,-⟩
   ·have:=congrArg List.length e;simp at this;omega
   ·exact ⟨id,ep,h1,h2⟩
  have hlg2:∀i∈g1.lg,i≠id0:=λi hi e=>by
   rcases lg1 i hi with h | h | h
   ·simp at h
   ·exact BE hD.hp (.inl (LN.p hv)) (.inl LN.z) (by simp) h (by rw[hv0,e];rfl)
   ·omega
  rintro p hp' x y hx hy;simp only[List.mem_cons,List.not_mem_nil,or_false] at hp';rcases hp' with rfl | rfl | rfl | rfl | rfl | rfl | rfl | rfl | rfl | rfl | rfl | rfl<;>(simp at hx hy;subst hx;subst hy;refine dI rfl rfl rfl rfl ?_ ?_ ?_<;>simp[ap,aF,ak,hv0,iH]<;>first | omega | exact hlg | exact hlg2 | exact λi hi e=>hlg i hi e.symm | exact λi hi e=>hlg2 i hi e.symm)
 refine fin _ _ (ups V (v+1,0) v1) _ { D with P:=ups D.P v (D.P v++[(u:Int)]) } (λs hs=>?_) (an _ _ _) ⟨⟨(hH2.same (g':=_) (by simp) (by simp)).sub λk hk=>hk,⟨?_,λj hj=>?_,λj hj=>?_,λj r hj hr=>?_⟩,?_,?_,?_,?_⟩,⟨?_,?_⟩,⟨hP.db.c,λw hw=>?_,hP.db.m,hP.db.o,λk hk hkn=>?_⟩,hP.mv,?_⟩
 ·simp only[ji]
  repeat rw[if_neg (by omega)]
 ·rw[an,mY _ _ hv];congr 1;refine yW (by simp[eU,an,ac]) λj hj hne=>by simp[eU,ac,hne]
 ·by_cases e:j=v
  ·subst e;rw[ac _ _ (by simp),an];show En.sl 1 _=En.sl 1 ((ups D.P j (D.P j++[(u:Int)]) j).map ci)/\(ups D.P j (D.P j++[(u:Int)]) j).length<=1000;rw[an];exact ⟨by simp,by simp;omega⟩
  ·rw[ac _ _ (by simp),ac _ _ (by simp[e])];show E (j+1,0)=En.sl 1 ((ups D.P v (D.P v++[(u:Int)]) j).map ci)/\(ups D.P v (D.P v++[(u:Int)]) j).length<=1000;rw[ac _ _ e];exact hD.bn.ps j hj
 ·rw[ac _ _ (by simp),ac _ _ (by simp)];have:=hD.bn.rs j hj;refine ⟨?_,this.2⟩;rw[this.1];congr 1;exact List.map_congr_left λr _=>by simp[E_,ac]
 ·rw[ac _ _ (by simp),ac _ _ (by simp),ac _ _ (by simp)];exact hD.bn.rr j r hj hr
 ·rw[ac _ _ (by simp)];exact hD.vb
 ·rw[ac _ _ (by simp),ac _ _ (by simp),ac _ _ (by simp)];exact hD.bx
 ·simp only[bumpG_h];rw[fb2 0 (by omega)];simp;rw[fb1 0 (by omega),if_neg (by omega),hD.h0]
 ·simp only[bumpG_h];rw[fb2 1 (by omega)];simp;rw[fb1 1 (by omega),if_neg (by omega),hD.h1]
 ·rw[ac _ _ (by simp)];exact hP.pb.1
 ·rw[ac _ _ (by simp),ac _ _ (by simp)];exact hP.pb.2
 ·by_cases e:w=v
  ·subst e;show (ups D.P w (D.P w++[(u:Int)]) w).length<=3/\∀y∈ups D.P w (D.P w++[(u:Int)]) w,0<=y/\y<n;rw[an];refine ⟨by simp;omega,λy hy=>?_⟩;rcases List.mem_append.1 hy with h | h
   ·exact (hP.db.p w hw).2 y h
   ·rw[List.mem_singleton.1 h];omega
  ·show (ups D.P v (D.P v++[(u:Int)]) w).length<=3/\∀y∈ups D.P v (D.P v++[(u:Int)]) w,0<=y/\y<n;rw[ac _ _ e];exact hP.db.p w hw
 ·show ups D.P v (D.P v++[(u:Int)]) (num k)=[]/\D.m (num k)=0;rw[ac _ _ (hvi k hk hkn)];exact hP.db.f k hk hkn
 ·have hok:=hP.ok;refine ⟨λw hw=>?_,λk hk y hy=>?_,λk hk=>?_,hok.r⟩
  ·show (ups D.P v (D.P v++[(u:Int)]) w).Pairwise (·<·)
   by_cases e:w=v
   ·rw[e,an];rw[List.pairwise_append];exact ⟨hok.s v hv,List.pairwise_singleton _ _,λa ha b hb=>by rw[List.mem_singleton.1 hb];exact hlt a ha⟩
   ·rw[ac _ _ e];exact hok.s w hw
  ·have hy:y∈ups D.P v (D.P v++[(u:Int)]) (num k):=hy
   by_cases e:num k=v
   ·rw[e,an] at hy;rcases List.mem_append.1 hy with h | h
    ·rw[<-e] at h;exact hok.a k hk y h
    ·obtain ⟨k',h1,h2⟩:=hua;have:¬k<i:=λh=>hvl k h e;exact ⟨k',by omega,by rw[List.mem_singleton.1 h,h2]⟩
   ·rw[ac _ _ e] at hy;exact hok.a k hk y hy
  ·show (D.m (num k):Int)=S.Pl (ups D.P v (D.P v++[(u:Int)]) (num k)) D.c;rw[ac _ _ (hvl k hk)];exact hok.w k hk
end
end Hx
end
section
namespace Hx
open Go
noncomputable section
structure DJ (r0 prow:List AV) (n q i p v u:Nat) (gr:Int) (r5:AV) (num:Nat->Nat) (j:Nat) (t:T) (g:G):Prop where
 st:St t ((13,.int .i64 (u:Int))::LDB n q i p v r5)
 hd:∃V E D,DP r0 prow n q i p v gr r5 num g V E D/\(∀y∈D.P v,y<=(u:Int))/\((∃k,k<j/\num k=u)\/∀y∈D.P v,y<(u:Int))
theorem No {d n q i p v u:Nat}{gr:Int}{r0:List AV}{y1 y2:UInt8}{wv r5:AV}{pl:List Int}{num:Nat->Nat}{Q:QT}{t:T}{g:G}(hn:1<=n/\n<=5)(h5:IT 0 pl r5)(hN:Num n pl num)(hi:i<n)(hv:v=num i)(hu:u<n)
  (h0:DJ r0 [u8v y1,u8v y2,wv] n q i p v u gr r5 num 0 t g) (h14:tat t 14=.int .i64 0)
  (fin:∀t g,DJ r0 [u8v y1,u8v y2,wv] n q i p v u gr r5 num i t g->Q (.exit 6) t [] g):wpL (wp C0 d none d8) Q t [] g:=by
 have r5i:∀h,ah h 1 r5=some (pl.map ci):=λh=>(h5.sl h).ints;have hvn:v<n:=by rw[hv];exact hN.lt i hi
 have hvi:∀k,i<k->k<n->num k≠v:=λk h1 h2 e=>by have:=hN.inj k i h2 hi (by rw[e,hv]);omega
 have hvl:∀k,k<i->num k≠v:=λk h1 e=>by have:=hN.inj k i (by omega) hi (by rw[e,hv]);omega
 obtain ⟨FR,hFR⟩:∃FR,FR=y6:=⟨_,rfl⟩;simp only[d8,iW];rw[show (SC.feet [0,1,0,0,8,0,56,120,248,0,512,2040,4095,8191,16383] [oF 131 1 4,oL 132 131,oM 133 12,oF 134 1 4,oL 135 134,oM 136 12,o 137 (.ixs 3 (.t 135) (.t 136)),oF 138 1 137,oL 139 138,oM 140 13,o 141 (.bsl 1 1 [.int .i64 0] [0] [.t 140]),o 142 (.app 1 8 (.t 139) (.t 141)),o 143 (.ixs 3 (.t 132) (.t 133)),oF 144 1 143,oz (.store 1 (.t 144) (.t 142))])=FR from hFR.symm];refine bp i (by omega) (λj t df g=>df=[]/\DJ r0 [u8v y1,u8v y2,wv] n q i p v u gr r5 num j t g) ⟨rfl,h0⟩ h14 (by decide) ?_ ?_ ?_ ?_
 ·rintro j t df g w s (rfl | rfl | rfl) ⟨a1,⟨b1,b2,b3,b4,b5,b6,b7,b8,b9,-⟩,c⟩<;>exact ⟨a1,by simp[St,LDB,sx,b1,b2,b3,b4,b5,b6,b7,b8,b9],c⟩
 ·rintro j t df g hj ⟨rfl,⟨h13,h1,h2,h3,h4,h5,h10,h11,h12,-⟩,hD⟩ h14;simp only[sz,simprocAttr,h14,h10];exact ⟨by simp[St,LDB,sx,h13,h1,h2,h3,h4,h5,h10,h11,h12],hD⟩
 ·rintro j t df g hj ⟨rfl,⟨h13,h1,h2,h3,h4,h5,h10,h11,h12,-⟩,V,E,D,hP,hle,hcs⟩ h14;obtain ⟨kp,-,-⟩:=hP.p;have kp:g.h.get p=.cells 3 [[u8v y1,u8v y2,wv]] 0 false false:=kp;obtain ⟨kq,q2a,q2b⟩:=hP.dn.q (.inl rfl);have rns:=hP.dn.ns.rows;have hry:=eo hP.dn.ns (by simp;omega);have u1:j<(pl.map ci).length:=by rw[List.length_map,hN.len];omega
  have u2:(pl.map ci)[j]?=some (ci (num j:Int)):=by rw[List.getElem?_map,hN.at_ j (by omega)];rfl
  have u3:v<((List.range n).map (eU D V)).length:=by simpa using hvn
  have u4:((List.range n).map (eU D V))[v]?=some [.int .i64 (D.c v),V (v+1,0),V (v+1,1)]:=fg (eU D V) hvn;have hps:=hP.dn.bn.ps v hvn;have hlen:∀g2:G,cV .slice (V (v+1,0)) g2=.val (.int .i64 ((D.P v).length:Int)):=λg2=>by have:=(hP.dn.hp.own (.inl (LN.p hvn)) hps.1).rows;rw[cL this];simp
  have w1:IntKind.wrap .u64 (j:Int)=(j:Int):=sn (by omega) (by omega);obtain ⟨z1,hz1⟩:=uZ y2.toNat j;obtain ⟨z2,hz2⟩:=uY z1 1;have hcs':(∃k,k<j+1/\num k=u)\/∀y∈D.P v,y<(u:Int):=by
   rcases hcs with ⟨k,h1,h2⟩ | h
   ·exact .inl ⟨k,by omega,h2⟩
   ·exact .inr h
  have hz2':cq .and (.int .u8 (z1:Int)) (.int .u8 1)=.val (.int .u8 z2):=hz2
  by_cases c1:(num j:Int)=(u:Int)
  ·by_cases c2:z2=1
   ·by_cases c3:((D.P v).length:Int)<3
    ·simp only[sz,simprocAttr,h14,h5,h13,r5i,u1,u2,ci,c1,h11,kp,u8v,w1,hz1,hz2',c2,h4,kq,h12,rns,u3,u4,hry,hlen,c3];rw[hFR];refine LG (n:=n) (q:=q) (i:=i) (p:=p) (v:=v) (u:=u) (r5:=r5) (num:=num) hn hvn hvi hu hvl ⟨j,hj,by omega⟩ ?_ ?_ ?_ ?_ hP (by omega) (rest:=[]) ?_
     ·rcases hcs with ⟨k,h1,h2⟩ | h
      ·have:=hN.inj k j (by omega) (by omega) (by omega);omega
      ·exact h
     ·simp[sx,h4]
     ·simp[sx,h12]
     ·simp[sx,h13]
     intro t' g' V' E' D' hst hPv hP';simp only[sy];have hs:∀s,s<131->tat t' s=_:=λs h=>hst s (.inl h);refine ⟨⟨?_,V',E',D',hP',λy hy=>?_,.inl ⟨j,by omega,by omega⟩⟩,?_⟩
     ·simp[St,LDB,hs,sx,h13,h1,h2,h3,h4,h5,h10,h11,h12]
     ·rw[hPv] at hy;rcases List.mem_append.1 hy with h | h
      ·exact hle y h
      ·rw[List.mem_singleton.1 h];exact Int.le_refl _
     ·simp[hs,sx,h14]
    ·simp only[sz,simprocAttr,h14,h5,h13,r5i,u1,u2,ci,c1,h11,kp,u8v,w1,hz1,hz2',c2,h4,kq,h12,rns,u3,u4,hry,hlen,c3];exact ⟨by simp[St,LDB,sx,h13,h1,h2,h3,h4,h5,h10,h11,h12],V,E,D,hP,hle,hcs'⟩
   ·simp only[sz,simprocAttr,h14,h5,h13,r5i,u1,u2,ci,c1,h11,kp,u8v,w1,hz1,hz2',c2];exact ⟨by simp[St,LDB,sx,h13,h1,h2,h3,h4,h5,h10,h11,h12],V,E,D,hP,hle,hcs'⟩
  ·simp only[sz,simprocAttr,h14,h5,h13,r5i,u1,u2,ci,c1];exact ⟨by simp[St,LDB,sx,h13,h1,h2,h3,h4,h5,h10,h11,h12],V,E,D,hP,hle,hcs'⟩
 ·rintro t df g ⟨rfl,h⟩;exact fin t g h
structure DK (r0 prow:List AV) (n q i p v:Nat) (gr:Int) (r5:AV) (num:Nat->Nat) (j:Nat) (t:T) (g:G):Prop where
 st:St t (LDB n q i p v r5)
 hd:∃V E D,DP r0 prow n q i p v gr r5 num g V E D/\∀y∈D.P v,y<(j:Int)
theorem Np {d n q i p v:Nat}{gr:Int}{r0:List AV}{y1 y2:UInt8}{wv r5:AV}{pl:List Int}{num:Nat->Nat}{Q:QT}{t:T}{g:G}(hn:1<=n/\n<=5)(h5:IT 0 pl r5)(hN:Num n pl num)(hi:i<n)(hv:v=num i)
  (h0:DK r0 [u8v y1,u8v y2,wv] n q i p v gr r5 num 0 t g) (h13:tat t 13=.int .i64 0)
  (fin:∀t g,DK r0 [u8v y1,u8v y2,wv] n q i p v gr r5 num n t g->Q (.exit 4) t [] g):wpL (wp C0 d none d9) Q t [] g:=by
 simp only[d9,iX];refine bp n (by omega) (λj t df g=>df=[]/\DK r0 [u8v y1,u8v y2,wv] n q i p v gr r5 num j t g) ⟨rfl,h0⟩ h13 (by decide) ?_ ?_ ?_ ?_
 ·rintro j t df g w s (rfl | rfl | rfl) ⟨a1,⟨b1,b2,b3,b4,b5,b6,b7,b8,-⟩,c⟩<;>exact ⟨a1,by simp[St,LDB,sx,b1,b2,b3,b4,b5,b6,b7,b8],c⟩
 ·rintro j t df g hj ⟨rfl,⟨h1,h2,h3,h4,h5,h10,h11,h12,-⟩,hD⟩ h13;simp only[sz,simprocAttr,h13,h3];exact ⟨by simp[St,LDB,sx,h1,h2,h3,h4,h5,h10,h11,h12],hD⟩
 ·rintro j t df g hj ⟨rfl,⟨h1,h2,h3,h4,h5',h10,h11,h12,-⟩,V,E,D,hD,hlt⟩ h13;simp only[sz,simprocAttr];refine No (u:=j) hn h5 hN hi hv hj ⟨by simp[St,LDB,sx,h13,h1,h2,h3,h4,h5',h10,h11,h12],V,E,D,hD,λy hy=>Int.le_of_lt (hlt y hy),.inr hlt⟩ (by simp[sx]) ?_;rintro t2 g2 ⟨⟨k13,k1,k2,k3,k4,k5,k10,k11,k12,-⟩,V2,E2,D2,hD2,hle2,-⟩;simp only[sx,sy,↓reduceIte];exact ⟨⟨by simp[St,LDB,k1,k2,k3,k4,k5,k10,k11,k12],V2,E2,D2,hD2,λy hy=>by have:=hle2 y hy;omega⟩,k13⟩
 ·rintro t df g ⟨rfl,h⟩;exact fin t g h
def zd:SC:=.feet [0,1,0,0,8,0,56,120,248,0,512,0,2048,0,14336,30720,63488,0,131072,0,0,1048576,0,7340032,15728640,32505856,66060288,133693440,268434944,536870400,1073741816,2147483647,4294967295,8589934591] [oF 153 1 4,oL 154 153,oM 155 12,oF 156 1 4,oL 157 156,oM 158 12,o 159 (.ixs 3 (.t 157) (.t 158)),oF 160 2 159,oL 161 160,oF 162 0 4,oL 163 162,oF 164 1 4,oL 165 164,oM 166 12,o 167 (.ixs 3 (.t 165) (.t 166)),oF 168 0 167,oL 169 168,oF 170 2 11,oL 171 170,oM 172 15,oF 173 1 4,oL 174 173,oM 175 12,o 176 (.ixs 3 (.t 174) (.t 175)),oF 177 0 176,oL 178 177,oA 179 178,o 180 (.bin .mul (.t 172) (.t 179)),o 181 (.call N.OM [.t 163,.t 169,.t 171,.t 180]),o 182 (.bsl 1 1 [.nils] [0] [.t 181]),o 183 (.app 1 24 (.t 161) (.t 182)),o 184 (.ixs 3 (.t 154) (.t 155)),oF 185 2 184,oz (.store 1 (.t 185) (.t 183))]
structure DQ (r0 prow:List AV) (n q i p v j:Nat) (gr:Int) (r5:AV) (num:Nat->Nat) (P0:List Int) (c0:Nat->Int) (g:G) (V:Ky->AV) (E:Ky->En) (D:ND):Prop where
 dn:DN X2 r0 n q 1000 gr V E D g
 pb:V (0,2)=.hptr p 0 0 0/\E (0,2)=.bx prow
 db:DB D n i v num
 mv:D.m v=j
 pv:D.P v=P0
 cv:D.c=c0
 ok:DOk gr D n i num
theorem DQ.p {r0 prow:List AV}{n q i p v j:Nat}{gr:Int}{r5:AV}{num:Nat->Nat}{P0:List Int}{c0:Nat->Int}{g:G}{V:Ky->AV}{E:Ky->En}{D:ND}(h:DQ r0 prow n q i p v j gr r5 num P0 c0 g V E D):g.h.get p=.cells prow.length [prow] 0 false false/\2<=p/\p<g.nx:=by obtain ⟨id,h1,h2,h3,h4⟩:=h.dn.hp.box (k:=(0,2)) (.inr (.inr rfl)) h.pb.2;rw[h.pb.1] at h3;injection h3 with h3;subst h3;exact ⟨h4,h1,h2⟩
theorem LH {d n q i p v j kk:Nat}{gr:Int}{r0:List AV}{y1 y2:UInt8}{W:List UInt8}{wv r5:AV}{num:Nat->Nat}{P0:List Int}{c0:Nat->Int}{Q:QT}{t:T}{g:G}{V:Ky->AV}{E:Ky->En}{D:ND}(hd:0<d)(hn:1<=n/\n<=5)(hv:v<n)(hvi:∀k,i<k->k<n->num k≠v)(hvl:∀k,k<i->num k≠v)(hj:j<64)(hgr:0<=gr/\gr<=60)(hwv:SlR NoP kk .nil W wv)
  (h4:tat t 4=.hptr q 0 0 0) (h11:tat t 11=.hptr p 0 0 0) (h12:tat t 12=.int .i64 (v:Int)) (h15:tat t 15=.int .i64 (j:Int)) (hP:DQ r0 [u8v y1,u8v y2,wv] n q i p v j gr r5 num P0 c0 g V E D)
  (fin:∀t' g' V' E' D',(∀s,(s<153\/185<s)->tat t' s=tat t s)->DQ r0 [u8v y1,u8v y2,wv] n q i p v (j+1) gr r5 num P0 c0 g' V' E' D'->Q .norm t' [] g') :
  wp C0 d none zd Q t [] g:=by
 have hD:=hP.dn;obtain ⟨kq,q2a,q2b⟩:=hD.q (.inl rfl);obtain ⟨kp,-,hpx⟩:=hP.p;have kp:g.h.get p=.cells 3 [[u8v y1,u8v y2,wv]] 0 false false:=kp;unfold zd;have rns:=hD.ns.rows;have hry:=eo hD.ns (by simp;omega);have u3:v<((List.range n).map (eU D V)).length:=by simpa using hv
 have u4:=fg (eU D V) hv;have u4':((List.range n).map (eU D V))[v]?=some [.int .i64 (D.c v),V (v+1,0),V (v+1,1)]:=u4;have hrs:=hD.bn.rs v hv;have hnx:=hD.hp.nx;obtain ⟨C,hC,hCb⟩:∃C:Nat,D.c v=(C:Int)/\(C=2\/C=3):=by
  rcases hP.db.c v hv with h | h
  ·exact ⟨2,h,.inl rfl⟩
  ·exact ⟨3,h,.inr rfl⟩
 have hjC:j*(C+1)<=64*4:=Nat.mul_le_mul (by omega) (by omega);have w1:IntKind.wrap .i64 ((C:Int)+1)=((C+1:Nat):Int):=by rw[ay (by omega) (by omega)];rfl
 have w2:IntKind.wrap .i64 ((j:Int)*((C+1:Nat):Int))=((j*(C+1):Nat):Int):=by rw[<-Int.natCast_mul,ay (by omega) (by omega)]
 rw[hC] at u4';simp only[sz,simprocAttr,sf,h4,h11,h12,h15,kq,kp,rns,u3,u4',hry,w1,w2,yF];refine a_ (NC (C:=C) (F:=j*(C+1)) (gr:=gr) (l:=W) hd (by omega) (by omega) hgr hwv) ?_;rintro r ⟨l,⟨hl,hlg'⟩,_,e1,hr⟩;injection e1 with e1;subst e1;have hrc:=hr.cell;simp only[sz,simprocAttr,sf,hrc.1,hrc.2];refine (hD.hp.step (g':=_) ?_ ?_).app2 (k:=(v+1,1)) (.inl (LN.r hv)) hrs.1 (new:=[[r]]) (by simp[sx,sy]) (by unfold aP;simp;rw[hP.mv];omega) λv1 g1 hH1 n1 fb1 fo1 lg1 vc vt=>?_
 ·simp;omega
 ·intro i _ hi;simp[H.get_put];omega
 simp only[sx,sy] at n1 fb1 fo1 lg1;have hnk:¬LNX X2 n D (v+1,2+j):=by
  rintro (h | h)
  ·rcases h with h | ⟨i',q',h,-,hq⟩
   ·simp at h
   ·rw[hP.db.o] at hq;simp only[Prod.mk.injEq] at h;omega
  ·rcases h with h | h<;>simp at h
 have hH1:=hH1.off (x:=r) hnk;have e00:ups (ups V (v+1,1) v1) (v+1,2+j) r (0,0)=V (0,0):=by rw[ac _ _ (by simp),ac _ _ (by simp)]
 have hE00:ups E (v+1,1) (.sl 1 ((List.range (D.m v)).map (E_ V v)++[[r]])) (0,0)=.sl 3 ((List.range n).map (eU D V)):=by rw[ac _ _ (by simp)];exact hD.bn.ns
 have rns1:ah g1.h 3 (V (0,0))=some ((List.range n).map (eU D V)):=by rw[<-e00];exact (hH1.own (k:=(0,0)) (.inl LN.z) hE00).rows
 simp only[sz,simprocAttr,sf,rns1,u3,hry];refine (hH1.same (g':=_) ?_ ?_).putv (k:=(0,0)) (.inl LN.z) e00 (row':=[.int .i64 (C:Int),V (v+1,0),v1]) hE00 u4 (by rw[vc];rfl) vt (by rw[vc,eU,hC];rfl) λg2 hH2 n2 fb2 fo2=>?_
 ·simp
 ·simp;omega
 simp only[sy];refine ⟨?_,?_⟩
 ·simp only[List.reverse_cons,List.reverse_nil,List.nil_append,List.cons_append];refine aO [false,false,false,false,false,false,false,false,false,false,false,false,false,false,false,false,false,false,false,false,false,false,false,false,false,false,false,false,false,true,true,false,false,true] [(0,29),(1,29),(2,29),(3,29),(4,29),(5,29),(6,29),(7,29),(8,29),(0,30),(1,30),(2,30)] (by simp[All2,ap,aF]) (by decide) ?_;have hlg:∀i∈g1.lg,i≠q:=λi hi e=>by
   rcases lg1 i hi with h | h | h
   ·simp at h
   ·exact BE hD.hp (.inl (LN.r hv)) (.inr (.inl rfl)) (by simp) h (by rw[hD.vb,e];rfl)
   ·omega
  obtain ⟨id0,ep0,hid0,hv0⟩:∃id ep,id<g.nx/\V (0,0)=.hsl id ep 0 ((List.range n).map (eU D V)).length none:=by
   rcases hD.ns with ⟨h,e⟩ | ⟨id,ep,lo,-,h1,h2,-⟩
   ·have:=congrArg List.length e;simp at this;omega
   ·exact ⟨id,ep,h1,h2⟩
  have hlg2:∀i∈g1.lg,i≠id0:=λi hi e=>by
   rcases lg1 i hi with h | h | h
   ·simp at h
   ·exact BE hD.hp (.inl (LN.r hv)) (.inl LN.z) (by simp) h (by rw[hv0,e];rfl)
   ·omega
  rintro p hp' x y hx hy;simp only[List.mem_cons,List.not_mem_nil,or_false] at hp';rcases hp' with rfl | rfl | rfl | rfl | rfl | rfl | rfl | rfl | rfl | rfl | rfl | rfl<;>(simp at hx hy;subst hx;subst hy;refine dI rfl rfl rfl rfl ?_ ?_ ?_<;>simp[ap,aF,ak,hv0,iH]<;>first | omega | exact hlg | exact hlg2 | exact λi hi e=>hlg i hi e.symm | exact λi hi e=>hlg2 i hi e.symm)
 have hmv:=hP.mv;refine fin _ _ (ups (ups V (v+1,1) v1) (v+1,2+j) r) _ { D with m:=ups D.m v (j+1),R:=ups D.R v (ups (D.R v) j l) } (λs hs=>?_) ⟨⟨(hH2.same (g':=_) (by simp) (by simp)).sub λk hk=>hk,⟨?_,λu hu=>?_,λu hu=>?_,λu r' hu hr'=>?_⟩,?_,?_,?_,?_⟩,⟨?_,?_⟩,⟨hP.db.c,hP.db.p,λu hu=>?_,hP.db.o,λk hk hkn=>?_⟩,an _ _ _,hP.pv,hP.cv,?_⟩
 ·simp only[ji]
  repeat rw[if_neg (by omega)]
 ·rw[an,mY _ _ hv];congr 1;refine yW ?_ λj hj hne=>by simp[eU,ac,hne]
  show _=[AV.int .i64 (D.c v),ups (ups V (v+1,1) v1) (v+1,2+j) r (v+1,0),ups (ups V (v+1,1) v1) (v+1,2+j) r (v+1,1)];rw[hC,ac _ _ (by first | (simp;done) | (simp;omega)),ac _ _ (by first | (simp;done) | (simp;omega)),ac _ _ (by first | (simp;done) | (simp;omega)),an]
 ·rw[ac _ _ (by simp),ac _ _ (by simp)];exact hD.bn.ps u hu
 ·by_cases e:u=v
  ·subst e;rw[ac _ _ (by simp),an];show En.sl 1 _=En.sl 1 ((List.range (ups D.m u (j+1) u)).map _)/\ups D.m u (j+1) u<=1000;rw[an];refine ⟨?_,by omega⟩;rw[hmv,List.range_succ,List.map_append];congr 2
   ·exact List.map_congr_left λr' hr'=>by have:=List.mem_range.1 hr';simp[E_,ac,show ¬r'=j by omega,show ¬2+r'=1 by omega]
   ·simp[E_,an]
  ·rw[ac _ _ (by simp),ac _ _ (by simp[e])];show E (u+1,1)=En.sl 1 ((List.range (ups D.m v (j+1) u)).map _)/\ups D.m v (j+1) u<=1000;rw[ac _ _ e];have:=hD.bn.rs u hu;refine ⟨?_,this.2⟩;rw[this.1];congr 1;exact List.map_congr_left λr' _=>by simp[E_,ac,e]
 ·by_cases e:u=v
  ·subst e;have hr':r'<ups D.m u (j+1) u:=hr';rw[an] at hr';show (ups D.R u (ups (D.R u) j l) u r').length<=1000/\((r'<D.o u/\_=En.sl 1 ((ups D.R u (ups (D.R u) j l) u r').map ci))\/SlR NoP 0 .nil (ups D.R u (ups (D.R u) j l) u r') _);rw[an]
   by_cases e2:r'=j
   ·subst e2;rw[an,an];exact ⟨by omega,.inr hr⟩
   ·rw[ac _ _ e2,ac _ _ (by first | (simp;done) | (simp;omega)),ac _ _ (by first | (simp;done) | (simp;omega)),ac _ _ (by simp[e2]),ac _ _ (by first | (simp;done) | (simp;omega))];exact hD.bn.rr u r' hu (by omega)
  ·have hr':r'<ups D.m v (j+1) u:=hr';rw[ac _ _ e] at hr';show (ups D.R v (ups (D.R v) j l) u r').length<=1000/\((r'<D.o u/\_=En.sl 1 ((ups D.R v (ups (D.R v) j l) u r').map ci))\/SlR NoP 0 .nil (ups D.R v (ups (D.R v) j l) u r') _);rw[ac _ _ e,ac _ _ (by first | (simp;done) | (simp;omega)),ac _ _ (by first | (simp;done) | (simp;omega)),ac _ _ (by simp[e]),ac _ _ (by simp[e])];exact hD.bn.rr u r' hu hr'
 ·rw[ac _ _ (by simp),ac _ _ (by simp)];exact hD.vb
 ·rw[ac _ _ (by simp),ac _ _ (by simp),ac _ _ (by simp),ac _ _ (by simp)];exact hD.bx
 ·simp only[bumpG_h];rw[fb2 0 (by omega)];simp;rw[fb1 0 (by omega),if_neg (by omega),hD.h0]
 ·simp only[bumpG_h];rw[fb2 1 (by omega)];simp;rw[fb1 1 (by omega),if_neg (by omega),hD.h1]
 ·rw[ac _ _ (by simp),ac _ _ (by simp)];exact hP.pb.1
 ·rw[ac _ _ (by simp),ac _ _ (by simp)];exact hP.pb.2
 ·show ups D.m v (j+1) u<=64
  by_cases e:u=v
  ·rw[e,an];omega
  ·rw[ac _ _ e];exact hP.db.m u hu
 ·show D.P (num k)=[]/\ups D.m v (j+1) (num k)=0;rw[ac _ _ (hvi k hk hkn)];exact hP.db.f k hk hkn
 ·have hok:=hP.ok;refine ⟨hok.s,hok.a,λk hk=>?_,λu r' hu hr'=>?_⟩
  ·show ((ups D.m v (j+1) (num k):Nat):Int)=_;rw[ac _ _ (hvl k hk)];exact hok.w k hk
  ·show KW gr (D.c u) (ups D.R v (ups (D.R v) j l) u r');have hr':r'<ups D.m v (j+1) u:=hr'
   by_cases e:u=v
   ·rw[e,an] at hr' ⊢
    by_cases e2:r'=j
    ·rw[e2,an,hC];exact hlg'
    ·rw[ac _ _ e2];exact hok.r v r' hv (by omega)
   ·rw[ac _ _ e] at hr' ⊢;exact hok.r u r' hu hr'
theorem Gt {gr:Int}{n v:Nat}{D:ND}(hv:v<n)(hp:∀y∈D.P v,0<=y/\y<n):S.OJ (S.OG ⟨gr,(List.range n).map D.node⟩) (D.P v)=(D.P v).map λy=>D.c y.toNat:=by
 unfold S.OJ S.OG;refine List.map_congr_left λy hy=>?_;have:=hp y hy;rw[List.map_map];have h:y.toNat<n:=by omega
 simp[h,ND.node]
theorem yV {n v:Nat}{D:ND}(hv:v<n)(hc:∀u,u<n->D.c u=2\/D.c u=3)(hp:(D.P v).length<=3/\∀y∈D.P v,0<=y/\y<n):(∀c∈(D.P v).map λy=>D.c y.toNat,1<=c/\c<=4)/\1<=S.Pl (D.P v) D.c/\S.Pl (D.P v) D.c<=64:=by
 have h1:∀c∈(D.P v).map λy=>D.c y.toNat,1<=c/\c<=4:=λc h=>by obtain ⟨y,hy,rfl⟩:=List.mem_map.1 h;have:=hp.2 y hy;have:=hc y.toNat (by omega);omega
 have h2:=bV h1;have h3:=iF (a:=((D.P v).map λy=>D.c y.toNat).length) (b:=3) (by simpa using hp.1);have h4:(4:Int) ^ 3=64:=by decide
 refine ⟨h1,h2.1,?_⟩;unfold S.Pl;omega
structure DRw (r0 prow:List AV) (n q i p v j:Nat) (gr:Int) (r5:AV) (num:Nat->Nat) (P0:List Int) (c0:Nat->Int) (t:T) (g:G):Prop where
 st:St t (LDB n q i p v r5)
 hd:∃V E D,DQ r0 prow n q i p v j gr r5 num P0 c0 g V E D
theorem Nq {d n q i p v kk:Nat}{gr:Int}{r0:List AV}{y1 y2:UInt8}{W:List UInt8}{wv r5:AV}{num:Nat->Nat}{P0:List Int}{c0:Nat->Int}{Q:QT}{t:T}{g:G}(hd:0<d)(hn:1<=n/\n<=5)(hv:v<n)(hvi:∀k,i<k->k<n->num k≠v)(hvl:∀k,k<i->num k≠v)(hgr:0<=gr/\gr<=60)(hwv:SlR NoP kk .nil W wv)
  (h0:DRw r0 [u8v y1,u8v y2,wv] n q i p v 0 gr r5 num P0 c0 t g) (h15:tat t 15=.int .i64 0)
  (fin:∀(t:T) (g:G) (j:Nat),(j:Int)=S.Pl P0 c0->DRw r0 [u8v y1,u8v y2,wv] n q i p v j gr r5 num P0 c0 t g->Q (.exit 8) t [] g):wpL (wp C0 d none d_) Q t [] g:=by
 have hM:1<=S.Pl P0 c0/\S.Pl P0 c0<=64:=by obtain ⟨-,V,E,D,hQ⟩:=h0;have:=(yV hv hQ.db.c (hQ.db.p v hv)).2;rw[hQ.pv,hQ.cv] at this;exact this
 obtain ⟨M,hMe⟩:=Int.eq_ofNat_of_zero_le (show 0<=S.Pl P0 c0 by omega);obtain ⟨FR,hFR⟩:∃FR,FR=zd:=⟨_,rfl⟩;simp only[d_];rw[show (SC.feet [0,1,0,0,8,0,56,120,248,0,512,0,2048,0,14336,30720,63488,0,131072,0,0,1048576,0,7340032,15728640,32505856,66060288,133693440,268434944,536870400,1073741816,2147483647,4294967295,8589934591] [oF 153 1 4,oL 154 153,oM 155 12,oF 156 1 4,oL 157 156,oM 158 12,o 159 (.ixs 3 (.t 157) (.t 158)),oF 160 2 159,oL 161 160,oF 162 0 4,oL 163 162,oF 164 1 4,oL 165 164,oM 166 12,o 167 (.ixs 3 (.t 165) (.t 166)),oF 168 0 167,oL 169 168,oF 170 2 11,oL 171 170,oM 172 15,oF 173 1 4,oL 174 173,oM 175 12,o 176 (.ixs 3 (.t 174) (.t 175)),oF 177 0 176,oL 178 177,oA 179 178,o 180 (.bin .mul (.t 172) (.t 179)),o 181 (.call N.OM [.t 163,.t 169,.t 171,.t 180]),o 182 (.bsl 1 1 [.nils] [0] [.t 181]),o 183 (.app 1 24 (.t 161) (.t 182)),o 184 (.ixs 3 (.t 154) (.t 155)),oF 185 2 184,oz (.store 1 (.t 185) (.t 183))])=FR from hFR.symm];refine bp M (by omega) (λj t df g=>df=[]/\DRw r0 [u8v y1,u8v y2,wv] n q i p v j gr r5 num P0 c0 t g) ⟨rfl,h0⟩ h15 (by decide) ?_ ?_ ?_ ?_
 ·rintro j t df g w s (rfl | rfl | rfl) ⟨a1,⟨b1,b2,b3,b4,b5,b6,b7,b8,-⟩,c⟩<;>exact ⟨a1,by simp[St,LDB,sx,b1,b2,b3,b4,b5,b6,b7,b8],c⟩
 ·rintro j t df g hj ⟨rfl,⟨h1,h2,h3,h4,h5,h10,h11,h12,-⟩,V,E,D,hQ⟩ h15;obtain ⟨kq,q2a,q2b⟩:=hQ.dn.q (.inl rfl);have hnodes:=hQ.dn.bn.nodes hQ.dn.hp (λk h=>.inl h) (by omega) (by omega);have hnet:Agg (⟨gr,(List.range n).map D.node⟩:Net) (λj=>2<=j) 0 g.h (.agg [.int .i64 gr,V (0,0)]):=⟨_,rfl,cg.2 ⟨_,rfl,hnodes⟩⟩;have hpv:=hQ.db.p v hv;obtain ⟨r,er,hr⟩:=vV (d:=d) (g:=g) (i:=v) (x:=D.node v) hd hnet (by simp;omega) (by simp[hv]) (by show (D.P v).length<_;omega) (λy hy=>by have:=hpv.2 y hy;simp;omega);have hpar:=Gt (gr:=gr) hv hpv.2;have hb:=yV hv hQ.db.c hpv;have hsz:=zf (d:=d) (g:=g) hd (hr.sl g.h);have hse:S.Pd (S.OJ (S.OG ⟨gr,(List.range n).map D.node⟩) (D.node v).parents)=(M:Int):=by show S.Pd (S.OJ (S.OG ⟨gr,(List.range n).map D.node⟩) (D.P v))=(M:Int);rw[hpar,se hb.1 (by simp;omega),<-hMe,S.Pl,<-hQ.pv,<-hQ.cv]
  rw[hse] at hsz;simp only[sz,simprocAttr,h15,h4,kq,h12,er,hsz];exact ⟨by simp[St,LDB,sx,h1,h2,h3,h4,h5,h10,h11,h12],V,E,D,hQ⟩
 ·rintro j t df g hj ⟨rfl,⟨h1,h2,h3,h4,h5,h10,h11,h12,-⟩,V,E,D,hQ⟩ h15;rw[hFR];refine LH (n:=n) (q:=q) (i:=i) (p:=p) (v:=v) (j:=j) (r5:=r5) (num:=num) hd hn hv hvi hvl (by omega) hgr hwv h4 h11 h12 h15 hQ ?_;intro t' g' V' E' D' hst hQ';have hs:∀s,s<153->tat t' s=tat t s:=λs h=>hst s (.inl h);rw[BG];exact ⟨⟨rfl,by simp[St,LDB,hs,h1,h2,h3,h4,h5,h10,h11,h12],V',E',D',hQ'⟩,by rw[hs 15 (by omega),h15]⟩
 ·rintro t df g ⟨rfl,h⟩;exact fin t g M hMe.symm h
structure DBl (D:ND) (n i:Nat) (num:Nat->Nat):Prop where
 c:∀u,u<n->D.c u=2\/D.c u=3
 p:∀u,u<n->(D.P u).length<=3/\∀y∈D.P u,0<=y/\y<n
 m:∀u,u<n->D.m u<=64
 o:∀u,D.o u=0
 f:∀k,i<=k->k<n->D.P (num k)=[]/\D.m (num k)=0
structure DL (r0:List AV) (n q:Nat) (gr:Int) (r5:AV) (num:Nat->Nat) (i:Nat) (t:T) (g:G):Prop where
 st:St t (LDA n q r5)
 hd:∃V E D,DN X1 r0 n q 1000 gr V E D g/\DBl D n i num/\DOk gr D n i num
theorem Lz {n:Nat}{D:ND}:∀k,LNX X1 n D k->LNX X2 n D k:=λk h=>by
 rcases h with h | h
 ·exact .inl h
 ·exact .inr (.inl h)
theorem LF {d n q kk:Nat}{x:sT}{gr:Int}{a b r5:AV}{pl:List Int}{num:Nat->Nat}{Q:QT}{t:T}{g:G}(hd:0<d)(hgr:0<=gr/\gr<=60)(hn:1<=n/\n<=5)(ha:SlR NoP kk .nil x.2.1 a)(h5:IT 0 pl r5)(hN:Num n pl num)
  (h0:DL [u8v x.1,a,b] n q gr r5 num 0 t g) (h10:tat t 10=.int .i64 0)
  (fin:∀t g,DL [u8v x.1,a,b] n q gr r5 num n t g->Q (.exit 2) t [] g):wpL (wp C0 d none dT) Q t [] g:=by
 obtain ⟨pr,r1,r2,r3,r4⟩:=ha.all;have r1:∀h',ah h' 3 a=some pr:=r1;have la:=ha.len;have hal:=ha.1;have r5i:∀h,ah h 1 r5=some (pl.map ci):=λh=>(h5.sl h).ints;simp only[dT,hZ];refine bp n (by omega) (λj t df g=>df=[]/\DL [u8v x.1,a,b] n q gr r5 num j t g) ⟨rfl,h0⟩ h10 (by decide) ?_ ?_ ?_ ?_
 ·rintro j t df g v s (rfl | rfl | rfl) ⟨a1,⟨b1,b2,b3,b4,b5,-⟩,c3⟩<;>exact ⟨a1,by simp[St,LDA,sx,b1,b2,b3,b4,b5],c3⟩
 ·rintro j t df g hj ⟨rfl,⟨h1,h2,h3,h4,h5,-⟩,hD⟩ h10;simp only[sz,simprocAttr,h10,h3];exact ⟨by simp[St,LDA,sx,h1,h2,h3,h4,h5],hD⟩
 ·rintro j t df g hj ⟨rfl,⟨h1,h2,h3,h4,h5',-⟩,V,E,D,hD,hb,hok⟩ h10;obtain ⟨p,hp⟩:∃p,p=g.nx:=⟨_,rfl⟩;have hnx:=hD.hp.nx;refine jN (P:=λt' df g'=>df=[]/\g'=g.new (.cells 3 [[.int .u8 0,.int .u8 0,.nils]] 0 false false)/\St t' ((10,.int .i64 (j:Int))::(11,.hptr p 0 0 0)::LDA n q r5)) ?_ ?_
  ·simp only[sz,simprocAttr];simp[St,LDA,sx,h1,h2,h3,h4,h5',h10,hp]
  clear h1 h2 h3 h4 h5' h10;rintro t df g1 ⟨rfl,hg1,⟨h10,h11,h1,h2,h3,h4,h5',-⟩⟩;have f1:Fr g g1:=by rw[hg1];exact Fr.new _ _
  have k8:g1.h.get p=.cells 3 [[.int .u8 0,.int .u8 0,.nils]] 0 false false:=by rw[hg1,hp];simp[H.get_put]
  have n1:p<g1.nx:=by rw[hg1,hp];simp
  clear hg1;have hD1:=hD.same f1;have e0:=hD1.h0;refine jN (P:=λt' df g'=>df=[]/\Fr g g'/\St t' ((10,.int .i64 (j:Int))::(11,.hptr p 0 0 0)::LDA n q r5)/\p<g'.nx/\∃(y1 y2:UInt8) (W:List UInt8) (wv:AV),SlR NoP kk .nil W wv/\g'.h.get p=.cells 3 [[u8v y1,u8v y2,wv]] 0 false false) ?_ ?_
  ·simp only[sz,simprocAttr,h10,h1,e0,la];refine aZ (λhb=>?_) (λhb=>?_)
   ·have hb:j<x.2.1.length:=by simpa using hb
    obtain ⟨y,hy,-,-⟩:=ae hb;obtain ⟨row,q1,q2⟩:=r3 j y hy;obtain ⟨wv,rfl,hwv⟩:=AZ.1 q2;have hlt:j<pr.length:=by omega
    have hry:=r4 (by omega);simp only[sz,simprocAttr,h10,h1,e0,r1,hlt,q1,h11,k8];refine ⟨?_,by simp[St,LDA,sx,h1,h2,h3,h4,h5',h10,h11],by simpa using n1,y.1,y.2.1,y.2.2,wv,hwv,by simp[H.get_put]⟩;exact ⟨Nat.le_trans f1.1 (by simp),λi hi=>by simp[H.get_put,show ¬i=p by omega];exact f1.2 i hi⟩
   ·simp only[sx,sy];exact ⟨f1,by simp[St,LDA,sx,h1,h2,h3,h4,h5',h10,h11],n1,0,0,[],.nils,⟨by show 0<9223372036854775808;decide,rfl⟩,k8⟩
  clear h1 h2 h3 h4 h5' h10 h11 e0 hD1 k8 n1 f1;rintro t df g2 ⟨rfl,f2,⟨h10,h11,h1,h2,h3,h4,h5',-⟩,n2,y1,y2,W,wv,hwv,k8⟩;have hH:=hD.hp.add (g':=g2) (k:=(0,2)) (L':=LNX X2 n D) (v':=.hptr p 0 0 0) (e':=.bx [u8v y1,u8v y2,wv]) (by
   rintro (h | h)
   ·rcases h with h | ⟨i',q',h,-,-⟩<;>simp at h
   ·simp[X1] at h) ⟨p,by omega,n2,rfl,k8⟩ f2.1 (λi _ hi=>f2.2 i hi) (λi hi=>by injection hi with hi;omega) (λk hk=>by
   rcases hk with h | h | h
   ·exact .inl (.inl h)
   ·exact .inl (.inr h)
   ·exact .inr h)
  have hfj:=hb.f j (Nat.le_refl _) hj;have hvn:=hN.lt j hj;have hvi:∀k,j<k->k<n->num k≠num j:=λk h1 h2 e=>by have:=hN.inj k j h2 hj e;omega
  have hvl:∀k,k<j->num k≠num j:=λk h1 e=>by have:=hN.inj k j (by omega) hj e;omega
  have hDP:DP [u8v x.1,a,b] [u8v y1,u8v y2,wv] n q j p (num j) gr r5 num g2 (ups V (0,2) (.hptr p 0 0 0)) (ups E (0,2) (.bx [u8v y1,u8v y2,wv])) D:=by
   refine ⟨⟨hH,⟨?_,λu hu=>?_,λu hu=>?_,λu r hu hr=>?_⟩,?_,?_,by rw[f2.2 0 (by omega),hD.h0],by rw[f2.2 1 (by omega),hD.h1]⟩,⟨an _ _ _,an _ _ _⟩,⟨hb.c,hb.p,hb.m,hb.o,λk h1 h2=>hb.f k (by omega) h2⟩,hfj.2,hok⟩
   ·rw[ac _ _ (by simp),hD.bn.ns];exact congrArg (En.sl 3) (List.map_congr_left λu _=>by simp[eU,ac])
   ·rw[ac _ _ (by simp)];exact hD.bn.ps u hu
   ·rw[ac _ _ (by simp)];have:=hD.bn.rs u hu;refine ⟨?_,this.2⟩;rw[this.1];exact congrArg (En.sl 1) (List.map_congr_left λr _=>by simp[E_,ac])
   ·rw[ac _ _ (by simp),ac _ _ (by simp)];exact hD.bn.rr u r hu hr
   ·rw[ac _ _ (by simp)];exact hD.vb
   ·rw[ac _ _ (by simp),ac _ _ (by simp)];exact hD.bx
  have u1:j<(pl.map ci).length:=by rw[List.length_map,hN.len];exact hj
  have u2:(pl.map ci)[j]?=some (ci (num j:Int)):=by rw[List.getElem?_map,hN.at_ j hj];rfl
  simp only[sz,simprocAttr,hY,h5',h10,r5i,u1,u2,ci];refine Np (n:=n) (q:=q) (i:=j) (p:=p) (v:=num j) (r5:=r5) (num:=num) hn h5 hN hj rfl ⟨by simp[St,LDB,sx,h1,h2,h3,h4,h5',h10,h11],_,_,_,hDP,λy hy=>by rw[hfj.1] at hy;simp at hy⟩ (by simp[sx]) ?_;clear h1 h2 h3 h4 h5' h10 h11 hDP hH;rintro t g3 ⟨⟨h1,h2,h3,h4,h5',h10,h11,h12,-⟩,V3,E3,D3,hP3,-⟩;simp only[sz,simprocAttr,iY];refine Nq (n:=n) (q:=q) (i:=j) (p:=p) (v:=num j) (r5:=r5) (num:=num) (P0:=D3.P (num j)) (c0:=D3.c) hd hn hvn hvi hvl hgr hwv ⟨by simp[St,LDB,sx,h1,h2,h3,h4,h5',h10,h11,h12],V3,E3,D3,hP3.dn,hP3.pb,hP3.db,hP3.mv,rfl,rfl,hP3.ok⟩ (by simp[sx]) ?_;clear h1 h2 h3 h4 h5' h10 h11 h12 hP3;rintro t g4 M hMp ⟨⟨h1,h2,h3,h4,h5',h10,h11,h12,-⟩,V4,E4,D4,hQ4⟩;simp only[sx,sy,↓reduceIte];have hd4:=hQ4.dn;refine ⟨⟨by simp[St,LDA,h1,h2,h3,h4,h5'],V4,E4,D4,⟨hd4.hp.sub Lz,hd4.bn,hd4.vb,hd4.bx,hd4.h0,hd4.h1⟩,⟨hQ4.db.c,hQ4.db.p,hQ4.db.m,hQ4.db.o,λk hk hkn=>hQ4.db.f k hk hkn⟩,⟨hQ4.ok.s,hQ4.ok.a,λk hk=>?_,hQ4.ok.r⟩⟩,h10⟩
  by_cases e:k=j
  ·rw[e,hQ4.mv,hQ4.pv,hQ4.cv,hMp]
  ·exact hQ4.ok.w k (by omega)
 ·rintro t df g ⟨rfl,h⟩;exact fin t g h
structure Drafted (m:Net):Prop where
 l:1<=m.nodes.length/\m.nodes.length<=5
 c:∀x∈m.nodes,x.card=2\/x.card=3
 b:∀x∈m.nodes,x.parents.length<=1000/\x.rows.length<=1000/\∀r∈x.rows,r.length<=1000
 nr:NR m
theorem HF {l:List Int}{n:Int}(hs:l.Pairwise (·<·))(hb:∀y∈l,0<=y/\y<n):S.OS l n=true:=by
 simp only[S.OS,S.O4,List.all_eq_true,List.mem_range,Bool.and_eq_true,Bool.or_eq_true,decide_eq_true_eq,beq_iff_eq];intro i hi;obtain ⟨x,hx⟩:∃x,l[i]?=some x:=⟨_,List.getElem?_eq_getElem hi⟩;have:=hb x (List.mem_of_getElem? hx);rw[hx,Option.getD_some];refine ⟨this,?_⟩
 by_cases e:i=0
 ·exact .inl e
 ·right;obtain ⟨y,hy⟩:∃y,l[i - 1]?=some y:=⟨_,List.getElem?_eq_getElem (by omega)⟩;rw[hy,Option.getD_some];have h1:=(List.getElem?_eq_some_iff.1 hx).2;have h2:=(List.getElem?_eq_some_iff.1 hy).2;rw[<-h1,<-h2];exact List.pairwise_iff_getElem.1 hs (i - 1) i (by omega) hi (by omega)
def JF (num:Nat->Nat):Nat->Nat
 | 0=>0
 | k+1=>JF num k ||| S.O9 (num k)
theorem BU {n:Nat}{pl:List Int}{num:Nat->Nat}(hN:Num n pl num)(hn:n<=64)(v:Nat):∀k,k<=n->((JF num k).testBit v=true↔∃k',k'<k/\num k'=v)
 | 0,_=>by simp[JF]
 | k+1,hk=>by
  have hlt:=hN.lt k (by omega);rw[JF,rt,xQ (by omega),Bool.or_eq_true,decide_eq_true_eq,BU hN hn v k (by omega)];constructor
  ·rintro (⟨k',h1,h2⟩ | h)
   ·exact ⟨k',by omega,h2⟩
   ·exact ⟨k,by omega,h⟩
  ·rintro ⟨k',h1,h2⟩
   by_cases e:k'=k
   ·subst e;exact .inr h2
   ·exact .inl ⟨k',by omega,h2⟩
theorem Ob {gr:Int}{D:ND}{n:Nat}{pl:List Int}{num:Nat->Nat}(hN:Num n pl num)(hn:1<=n/\n<=5)(hgr:1<=gr/\gr<=60)(hb:DBl D n n num)(hok:DOk gr D n n num):NR ⟨gr,(List.range n).map D.node⟩:=by
 have hcl:(S.OG ⟨gr,(List.range n).map D.node⟩)=(List.range n).map D.c:=by unfold S.OG;rw[List.map_map];rfl
 refine ⟨hgr.1,hgr.2,by simpa using hn.1,by simp;omega,λx hx=>?_,λx hx=>?_,?_,?_,λx hx=>?_,λx hx r hr=>?_⟩
 ·obtain ⟨u,hu,rfl⟩:=List.mem_map.1 hx;have:=hb.c u (List.mem_range.1 hu);show 1<=D.c u/\D.c u<=4;omega
 ·obtain ⟨u,hu,rfl⟩:=List.mem_map.1 hx;have hu:=List.mem_range.1 hu;refine HF (hok.s u hu) λy hy=>?_;have:=(hb.p u hu).2 y hy;simpa using this
 ·rw[hcl];have h1:∀c∈(List.range n).map D.c,1<=c/\c<=4:=λc hc=>by obtain ⟨u,hu,rfl⟩:=List.mem_map.1 hc;have:=hb.c u (List.mem_range.1 hu);omega
  have h2:=bV h1;have h3:=iF (a:=((List.range n).map D.c).length) (b:=5) (by simpa using hn.2);have h4:(4:Int) ^ 5=1024:=by decide
  omega
 ·have hpl:(S.OO ⟨gr,(List.range n).map D.node⟩).length=n:=by simp[S.OO]
  have hpar:∀v,v<n->Par (S.OO ⟨gr,(List.range n).map D.node⟩) v=S.OP (D.P v):=λv hv=>by simp[Par,S.OO,hv,ND.node]
  have hgood:∀k,k<=n->G2 (S.OO ⟨gr,(List.range n).map D.node⟩) (JF num k):=λk=>by
   induction k with
   | zero=>exact λ_=>AI
   | succ k ih =>
    intro hk;have hlt:=hN.lt k (by omega);refine CY (ih (by omega)) (by omega) λu hu=>?_;rw[hpar _ hlt] at hu;have hu:=(BK λx hx=>by have:=(hb.p _ hlt).2 x hx;omega).1 hu;obtain ⟨k',h1,h2⟩:=hok.a k (by omega) _ hu;exact (BU hN (by omega) u k (by omega)).2 ⟨k',h1,by omega⟩
  refine tW (hgood n (Nat.le_refl _)) λv hv=>?_;rw[hpl] at hv;exact (BU hN (by omega) v n (Nat.le_refl _)).2 (hN.sur v hv)
 ·obtain ⟨u,hu,rfl⟩:=List.mem_map.1 hx;have hu:=List.mem_range.1 hu;obtain ⟨k,hk,rfl⟩:=hN.sur u hu;show (((List.range (D.m (num k))).map (D.R (num k))).length:Int)=S.OH (S.OJ _ (D.P (num k)));rw[Gt hu (hb.p _ hu).2];have:=hok.w k hk;unfold S.Pl at this;rw[<-this];simp
 ·obtain ⟨u,hu,rfl⟩:=List.mem_map.1 hx;have hu:=List.mem_range.1 hu;obtain ⟨r',hr',rfl⟩:=List.mem_map.1 hr;exact hok.r u r' hu (List.mem_range.1 hr')
def H_:VS:=λP k h v=>∃m:Net,Drafted m/\Agg m P k h v
def V0 (W:AV)(q:Nat):Ky->AV:=λk=>match k with
 | (0,0)=>W
 | (0,1)=>.hptr q 0 0 0
 | _=>.nils
def E0 (W:AV)(n:Nat)(gr:Int):Ky->En:=λk=>match k with
 | (0,0)=>.sl 3 (List.replicate n [.int .i64 0,.nils,.nils])
 | (0,1)=>.bx [.int .i64 gr,W]
 | _=>.sl 1 []
def D0:ND:=⟨λ_=>0,λ_=>[],λ_=>0,λ_ _=>[],λ_=>0⟩
theorem hp0 {W:AV}{n q:Nat}{gr:Int}{g:G}(hW:Own g 2 W 3 (List.replicate n [.int .i64 0,.nils,.nils]))(hq:g.h.get q=.cells 2 [[.int .i64 gr,W]] 0 false false)(h2:2<=q/\q<g.nx)(hne:vid W≠some q):Hp g 2 (LNX X1 n D0) (V0 W q) (E0 W n gr):=by
 have hk:∀k,LNX X1 n D0 k->k=(0,0)\/k=(0,1)\/∃i s,k=(i+1,s):=λk h=>by
  rcases h with h | h
  ·rcases h with h | ⟨i,s,h,-⟩
   ·exact .inl h
   ·exact .inr (.inr ⟨i,s,h⟩)
  ·exact .inr (.inl h)
 refine ⟨λk h=>?_,λk l h h' hkl id h1 h3=>?_,by omega⟩
 ·rcases hk k h with rfl | rfl | ⟨i,s,rfl⟩
  ·exact hW
  ·exact ⟨q,h2.1,h2.2,rfl,hq⟩
  ·exact .inl ⟨rfl,rfl⟩
 ·rcases hk k h with rfl | rfl | ⟨i,s,rfl⟩<;>rcases hk l h' with rfl | rfl | ⟨i',s',rfl⟩
  ·exact hkl rfl
  ·have h1:eid W=some id:=h1;have h3:some q=some id:=h3;rw[bH hW] at h1;injection h3 with h3;subst h3;exact hne h1
  ·cases h3
  ·have h3:eid W=some id:=h3;have h1:some q=some id:=h1;rw[bH hW] at h3;injection h1 with h1;subst h1;exact hne h3
  ·exact hkl rfl
  ·cases h3
  ·cases h1
  ·cases h1
  ·cases h1
theorem Ln {x:Int}{w:AV}(h:w.cells=[w])(h2:w.isTup=false):eg [.int .i64 0,.nils] [((0,1),.int .i64 x),((1,1),w)]=some [.int .i64 x,w]:=by
 have k1:(AV.int .i64 x).cells=[.int .i64 x]:=rfl;have k2:(AV.int .i64 x).isTup=false:=rfl;simp[eg,h,h2,jd,k1,k2]
 rfl
theorem Lm {a b:AV}(ha:a.cells=[a]/\a.isTup=false)(hb:b.cells=[b]/\b.isTup=false):eg [.nils,.int .u16 0,.nils] [((0,1),a),((2,1),b)]=some [a,.int .u16 0,b]:=by
 simp[eg,ha,hb,jd]
 rfl
theorem FY {d k:Nat}{g:G}{P:Nat->Prop}{v:AV}{x:sT}(hd:0<d)(hm:Agg x P k g.h v):∃r,am C0 d N.O9 [v] g=.val r/\H_ NoP 0 .nil r:=by
 obtain ⟨v',e,cs,rfl,hc⟩:=jl (ch x) (by decide) d hm;obtain ⟨a,b,rfl,ha,hb⟩:=vY.1 hc;have ha:=ha.tree (h':=.nil) (Nat.le_refl _);have hb:=hb.tree (h':=.nil) (Nat.le_refl _);rw[qh];refine aX tj (xs:=[.agg [u8v x.1,a,b]]) (by simp only[aE,e]) (by simp[gM]) (jV λm=>ch _) (by decide) hd ?_;simp only[sz,simprocAttr,gM];obtain ⟨g0,hg0⟩:∃g0,g0=(G.empty.new (.cells 3 [[u8v x.1,a,b]] 0 false false)).new (.cells 2 [[.int .i64 0,.nils]] 0 false false):=⟨_,rfl⟩;rw[<-hg0];have f0:g0.h.get 0=.cells 3 [[u8v x.1,a,b]] 0 false false:=by rw[hg0];simp[sx,H.get_put]
 have f1:g0.h.get 1=.cells 2 [[.int .i64 0,.nils]] 0 false false:=by rw[hg0];simp[sx]
 have f2:g0.nx=2:=by rw[hg0];simp[sx]
 clear hg0;have la:=ha.len;have hal:=ha.1;unfold jI;obtain ⟨n,hn,hnb⟩:∃n:Nat,n=min (max x.2.1.length 1) 5/\1<=n/\n<=5:=⟨_,rfl,by omega⟩;refine jN (P:=λt' df g'=>df=[]/\g'=g0/\St t' [(1,.hptr 0 0 0 0),(2,.hptr 1 0 0 0),(3,.int .i64 (n:Int))]) ?_ ?_
 ·simp only[sz,simprocAttr,f0,la];simp[St,sx];omega
 rintro t df g1 ⟨rfl,rfl,h1,h2,h3,-⟩;obtain ⟨gr,hgr,hgb⟩:∃gr:Int,gr=1+(x.1.toNat:Int) % 60/\0<=gr/\gr<=60:=⟨_,rfl,by omega,by omega⟩;have q1:=gk .u8 (a:=(x.1.toNat:Int)) (b:=60) (by omega) (by omega);have w1:IntKind.wrap .i64 ((x.1.toNat:Int) % 60)=(x.1.toNat:Int) % 60:=ay (by omega) (by omega);have w2:IntKind.wrap .i64 (1+(x.1.toNat:Int) % 60)=gr:=by rw[hgr,ay (by omega) (by omega)]
 refine jN (P:=λt' df g'=>df=[]/\∃q V E D,St t' [(1,.hptr 0 0 0 0),(2,.hptr 1 0 0 0),(3,.int .i64 (n:Int)),(4,.hptr q 0 0 0)]/\DN X1 [u8v x.1,a,b] n q 1000 gr V E D g'/\(∀u,D.P u=[]/\D.m u=0/\D.o u=0)) ?_ ?_
 ·simp only[sz,simprocAttr,sf,h1,h3,f0,u8v,q1,w1,w2];refine oo (b:=2) (n:=n) (by unfold aP;omega) (by unfold aP;omega) (by first | (simp;done) | (simp;omega)) λW g2 hW n2 f2' vW lg2=>?_;simp only[sy] at n2 f2' vW lg2;simp only[sz,simprocAttr,sf,Ln hW.cell.1 hW.cell.2,lg2];have n2':g1.nx+7=g2.nx:=by omega
  have k0:g2.h.get 0=.cells 3 [[u8v x.1,a,b]] 0 false false:=by rw[f2' 0 (by omega),f0]
  have k1:g2.h.get 1=.cells 2 [[.int .i64 0,.nils]] 0 false false:=by rw[f2' 1 (by omega),f1]
  refine ⟨?_,g2.nx+1+1,V0 W (g2.nx+1+1),E0 W n gr,D0,by simp[St,sx,h1,h2,h3],⟨hp0 ?_ ?_ ⟨by omega,by simp⟩ ?_,⟨?_,λu _=>⟨rfl,by show 0<=1000;omega⟩,λu _=>⟨rfl,by show 0<=1000;omega⟩,λu r _ hr=>by cases hr⟩,rfl,rfl,?_,?_⟩,λu=>⟨rfl,rfl,rfl⟩⟩
  ·simp only[List.reverse_cons,List.reverse_nil,List.nil_append,List.cons_append,G.new_lg,G.put_lg,setLog_lg];refine aO [false,false,false,false,false,false,true,false,true,true] [(0,6),(1,6),(2,6),(3,6),(4,6),(0,8),(1,8),(2,8),(3,8),(4,8),(5,8),(6,8),(7,8)] (by simp[All2,ap,aF]) (by decide) ?_;rintro p hp' x y hx hy;simp only[List.mem_cons,List.not_mem_nil,or_false] at hp';rcases hp' with rfl | rfl | rfl | rfl | rfl | rfl | rfl | rfl | rfl | rfl | rfl | rfl | rfl<;>(simp at hx hy;subst hx;subst hy;refine dI rfl rfl rfl rfl ?_ ?_ ?_<;>simp[ap,aF,ak]<;>omega)
  ·refine hW.fr (by simp;omega) λi hi=>?_;have:=my vW hi;simp[H.get_put,show ¬i=g2.nx+1+1 by omega]
  ·simp[H.get_put]
  ·intro e;have:=my vW e;omega
  ·show En.sl 3 (List.replicate n [.int .i64 0,.nils,.nils])=En.sl 3 ((List.range n).map λ_=>[.int .i64 0,.nils,.nils]);congr 1;rw[List.map_const',List.length_range]
  ·simp[H.get_put,k0];rfl
  ·simp[H.get_put,k1]
 clear h1 h2 h3;rintro t df g2 ⟨rfl,q,V,E,D,⟨h1,h2,h3,h4,-⟩,hD,hD0⟩;obtain ⟨num,hN⟩:=Nr x.2.2 n;refine jN (P:=λt' df g'=>df=[]/\Fr g2 g'/\∃r5,IT 0 (S.OX x.2.2 n) r5/\St t' (LDA n q r5)) ?_ ?_
 ·simp only[sz,simprocAttr,sf,h3];refine oo (b:=2) (n:=n) (by unfold aP;omega) (by unfold aP;omega) (by have:=hD.hp.nx;first | (simp;done) | (simp;omega)) λU g3 hU n3 f3 vU lg3=>?_;simp only[sy] at n3 f3 vU lg3;have e0:g3.h.get 0=.cells 3 [[u8v x.1,a,b]] 0 false false:=by rw[f3 0 (by have:=hD.hp.nx;omega),hD.h0]
  simp only[sz,simprocAttr,sf,h1,e0,Lm hU.cell hb.cell];have hU':Own g3 2 U 1 ((List.replicate n (0:UInt8)).map λy=>[u8v y]):=by simpa [u8v] using hU
  have hpm:∀g4:G,g4.h=g3.h->∃r,am C0 (d+1) N.OU [.agg [U,.int .u16 0,b]] g4=.val r/\IT 0 (S.OX x.2.2 n) r:=λg4 h=>by
   have:=y8 (d:=d+1) (g:=g4) (k:=max k d) (P:=λ_=>True) (x:=(List.replicate n (0:UInt8),(0:UInt16),x.2.2)) (v:=.agg [U,.int .u16 0,b]) (Nat.succ_pos d) ⟨_,rfl,r_.2 ⟨U,b,rfl,?_,?_⟩⟩
   ·have e:min (List.replicate n (0:UInt8)).length 5=n:=by simp;omega
    rw[e] at this;exact this
   ·rw[h];exact Own.sl (α:=UInt8) hU' (by simp;omega) (All2.of_map (λy=>du.2 rfl) _) λ_ _=>trivial
   ·exact (hb.tree (h':=g4.h) (Nat.le_refl _)).wd λ_ h=>h.elim
  refine a_ (hpm _ (by simp)) λr hr=>?_;simp only[sz,simprocAttr,sf,jx];refine ⟨?_,⟨?_,λi hi=>?_⟩,r,hr,?_⟩
  ·simp only[List.reverse_cons,List.reverse_nil,List.nil_append,List.cons_append];refine aO [false,true,false,false,false,false,false] [(1,2),(1,3)] (by simp[All2,ap,aF]) (by decide) ?_;rintro p hp' x y hx hy;simp only[List.mem_cons,List.not_mem_nil,or_false] at hp';rcases hp' with rfl | rfl<;>(simp at hx hy;subst hx;subst hy;refine dI rfl rfl rfl rfl ?_ ?_ ?_<;>simp[ap,aF,ak,lg3])
  ·simp;omega
  ·simp;exact f3 i (by omega)
  ·simp[St,LDA,sx,h1,h2,h3,h4]
 clear h1 h2 h3 h4;rintro t df g3 ⟨rfl,f3,r5,hr5,⟨h1,h2,h3,h4,h5,-⟩⟩;have hD3:=hD.same f3;simp only[sz,simprocAttr];refine Nn (n:=n) (q:=q) (x:=x) (gr:=gr) (r5:=r5) (num:=num) hnb ha hr5 hN ⟨by simp[St,LDA,sx,h1,h2,h3,h4,h5],⟨1,by simp[sx],by decide⟩,V,E,D,hD3,λv _=>⟨(hD0 v).1,(hD0 v).2.1⟩,λk hk=>by omega,λu=>(hD0 u).2.2⟩ (by simp[sx]) ?_;clear h1 h2 h3 h4 h5 hD3;rintro t g4 ⟨⟨h1,h2,h3,h4,h5,-⟩,-,V4,E4,D4,hD4,hok⟩;simp only[sz,simprocAttr,ia];refine LF (n:=n) (q:=q) (x:=x) (gr:=gr) (r5:=r5) (num:=num) (Nat.succ_pos d) hgb hnb ha hr5 hN ⟨by simp[St,LDA,sx,h1,h2,h3,h4,h5],V4,E4,D4,hD4,⟨λu hu=>?_,λu hu=>?_,λu hu=>?_,?_,λk _ hk=>hok.e _ (hN.lt k hk)⟩,⟨λu hu=>by rw[(hok.e u hu).1];exact .nil,λk hk y hy=>by rw[(hok.e _ (hN.lt k hk)).1] at hy;simp at hy,λk hk=>by omega,λu r hu hr=>by rw[(hok.e u hu).2] at hr;omega⟩⟩ (by simp[sx]) ?_
 ·obtain ⟨k,hk,rfl⟩:=hN.sur u hu;exact hok.c k hk
 ·rw[(hok.e u hu).1];simp
 ·rw[(hok.e u hu).2];omega
 ·exact hok.o
 clear h1 h2 h3 h4 h5;rintro t g5 ⟨⟨h1,h2,h3,h4,h5,-⟩,V5,E5,D5,hD5,hb5,hk5⟩;obtain ⟨kq,q2a,q2b⟩:=hD5.q rfl;simp only[sz,simprocAttr,h_,h4,kq,h2,hD5.h1];have hnodes:=hD5.bn.nodes hD5.hp (λk h=>.inl h) (by omega) (by omega);refine ⟨λ_=>True,⟨gr,(List.range n).map D5.node⟩,⟨by simpa using hnb,λy hy=>?_,λy hy=>?_,Ob hN hnb (by omega) hb5 hk5⟩,⟨_,rfl,cg.2 ⟨_,rfl,hnodes.wd λi hi=>⟨trivial,by simp[H.get_put,show ¬i=1 by omega]⟩⟩⟩⟩
 ·obtain ⟨u,hu,rfl⟩:=List.mem_map.1 hy;exact hb5.c u (List.mem_range.1 hu)
 ·obtain ⟨u,hu,rfl⟩:=List.mem_map.1 hy;have hu:=List.mem_range.1 hu;refine ⟨(hD5.bn.ps u hu).2,?_,λr hr=>?_⟩
  ·show ((List.range (D5.m u)).map (D5.R u)).length<=1000;simpa using (hD5.bn.rs u hu).2
  ·obtain ⟨r',hr',rfl⟩:=List.mem_map.1 hr;exact (hD5.bn.rr u r' hu (List.mem_range.1 hr')).1
def EvV (n:Net):VS:=λP k h v=>∃l:List Int,S.O0 n l=true/\One l P k h v
theorem NI (n:Net):Snb (EvV n) 0:=by
 refine ⟨λ{P k h v n} d r hn=>?_,λ{k h v n} r hn=>?_⟩
 ·obtain ⟨m,hm,r⟩:=r;obtain ⟨v',e,r'⟩:=(aS m).snap d r hn;exact ⟨v',e,m,hm,r'⟩
 ·obtain ⟨m,hm,r⟩:=r;exact (aS m).tag r hn
def evP (n:Net)(l:List Int):Prop:=∀(i:Nat) (x:Int) (c:Node),l[i]?=some x->n.nodes[i]?=some c->-1<=x/\x<c.card
theorem Ll {n:Net}{l:List Int}(hl:l.length=n.nodes.length)(h:evP n l):S.O0 n l=true:=by simp only[S.O0,Bool.and_eq_true,decide_eq_true_eq,List.all_eq_true,List.mem_range];refine ⟨hl,λi hi=>?_⟩;obtain ⟨x,hx⟩:∃x,l[i]?=some x:=⟨_,List.getElem?_eq_getElem hi⟩;obtain ⟨c,hc⟩:∃c,n.nodes[i]?=some c:=⟨_,List.getElem?_eq_getElem (by omega)⟩;have:=h i x c hx hc;simpa [S.OG,hx,hc] using this
theorem Jq {d k:Nat}{g:G}{P:Nat->Prop}{w:AV}{m:Net}{vs:List UInt8}(hd:0<d)(hv:vs.length=9)(hm:Agg m P k g.h w)(hn:m.nodes.length<=8)(hc:∀x∈m.nodes,0<x.card) :
  ∃r,am C0 d N.Pt [.agg (vs.map u8v),w] g=.val r/\EvV m NoP 0 .nil r:=by
 obtain ⟨v',e,cs,rfl,hcs⟩:=jl (ch m) (by decide) d hm;obtain ⟨b,rfl,hN⟩:=cg.1 hcs;obtain ⟨rows,r1,r2,r3,r4⟩:=hN.all;have r1:∀h',ah h' 3 b=some rows:=r1;rw[sA];refine aX ut (xs:=[.agg (vs.map u8v),.agg [.int .i64 m.grain,b]]) (by simp only[aE,e,Kq]) (by simp[it]) (NI m) (by decide) hd ?_;obtain ⟨cu8,hcu⟩:∃c,c=vs.map u8v:=⟨_,rfl⟩;have hcl:cu8.length=9:=by rw[hcu,List.length_map,hv]
 simp only[sz,simprocAttr,it,<-hcu];generalize hg0:((G.empty.new (AObj.cells cu8.length [cu8] 0 false false)).new (AObj.cells 2 [[AV.int IntKind.i64 m.grain,b]] 0 false false))=g0;have f0:g0.h.get 0=.cells 9 [cu8] 0 false false:=by rw[<-hg0,hcl];simp[sx,H.get_put]
 have f1:g0.h.get 1=.cells 2 [[.int .i64 m.grain,b]] 0 false false:=by rw[<-hg0];simp[sx]
 have f2:2<=g0.nx:=by rw[<-hg0];simp[sx]
 clear hg0;simp only[sz,simprocAttr,kT];refine bp m.nodes.length (by omega) (λj t df g=>df=[]/\St t [(2,.hptr 0 0 0 0),(3,.hptr 1 0 0 0)]/\g.h.get 0=.cells 9 [cu8] 0 false false/\g.h.get 1=.cells 2 [[.int .i64 m.grain,b]] 0 false false/\2<=g.nx/\∃u L,tat t 5=u/\L.length=j/\evP m L/\Own g 2 u 1 (L.map ci))
  ⟨rfl,by simp[sx,St],f0,f1,f2,_,[],rfl,rfl,λi x c hx=>by simp at hx,.inl ⟨by simp[sx],rfl⟩⟩ (by simp[sx]) (by decide) (by rintro j t df g v s (rfl | rfl | rfl)<;>simp[sx,St]) ?_ ?_ ?_
 ·rintro j t df g hj ⟨rfl,⟨h2,h3,-⟩,e0,e1,hnx,u,L,h5,hu⟩ h6;simp only[sz,simprocAttr,h2,h3,h6,e0,e1,hN.len,St];exact ⟨hnx,u,L,h5,hu⟩
 ·rintro j t df g hj ⟨rfl,⟨h2,h3,-⟩,e0,e1,hnx,u,L,h5,hLl,hLp,hu⟩ h6;obtain ⟨x,hx,htk,hm⟩:=ae hj;obtain ⟨row,z1,z2⟩:=r3 j x hx;obtain ⟨fa,fb,rfl,-⟩:=bI.1 z2;have hlt:j<rows.length:=by omega
  have hry:=r4 (by omega);have hj8:j<8:=by omega
  obtain ⟨y0,hy0⟩:∃y,vs[0]?=some y:=⟨_,List.getElem?_eq_getElem (by omega)⟩;have hc0:cu8[0]?=some (.int .u8 (y0.toNat:Int)):=by rw[hcu,List.getElem?_map,hy0];rfl
  obtain ⟨y,hy⟩:∃y,vs[1+j]?=some y:=⟨_,List.getElem?_eq_getElem (by omega)⟩;have hcy:cu8[1+j]?=some (.int .u8 (y.toNat:Int)):=by rw[hcu,List.getElem?_map,hy];rfl
  have hy8:y.toNat<256:=y.toNat_lt;have hcx:=hc x hm;obtain ⟨z,hz⟩:=uZ y0.toNat j;obtain ⟨z',hz'⟩:=uY z 1;have hz':cq .and (.int .u8 (z:Int)) (.int .u8 1)=.val (.int .u8 z'):=hz';have w8:IntKind.wrap .i64 (y.toNat:Int)=(y.toNat:Int):=ay (by omega) (by omega);have w9:IntKind.wrap .u64 (j:Int)=(j:Int):=sn (by omega) (by omega);have key:∀(t:T) (X:Int),-1<=X->X<x.card->St t [(2,.hptr 0 0 0 0),(3,.hptr 1 0 0 0),(5,u),(6,.int .i64 (j:Int)),(7,.int .i64 X)] ->
    wp C0 (d+1) none eR (λe t df g=>e=.norm/\(df=[]/\St t [(2,.hptr 0 0 0 0),(3,.hptr 1 0 0 0)]/\g.h.get 0=.cells 9 [cu8] 0 false false/\g.h.get 1=.cells 2 [[.int .i64 m.grain,b]] 0 false false/\2<=g.nx/\∃u L,tat t 5=u/\L.length=j+1/\evP m L/\Own g 2 u 1 (L.map ci))/\tat t 6=.int .i64 (j:Int)) t [] g:=by
   rintro t X hX1 hX2 ⟨h2,h3,h5,h6,h7,-⟩;simp only[sz,simprocAttr,eR,h5,h7];refine aU (new:=[ci X]) (hu.step (Fr.new _ _)) (by simp[sx,sy,ci]) (by simp;omega) (by simp[aP,hLl];omega) λv2 g2 hv2 n2 f2 _ l2=>?_;simp only[sz,simprocAttr,h2,h3,h6,St];refine ⟨?_,?_,?_,_,L++[X],rfl,by simp[hLl],?_,?_⟩
   ·rw[f2 0 (by simp) (λe=>by have:=(hu.lt e).1;omega),G.new_h,aq _ _ _ (by omega),e0]
   ·rw[f2 1 (by simp;omega) (λe=>by have:=(hu.lt e).1;omega),G.new_h,aq _ _ _ (by omega),e1]
   ·simp at n2;omega
   ·intro i a c ha hc'
    by_cases e:i=j
    ·subst e;rw[hx] at hc';injection hc' with hc';subst hc';rw[<-hLl,List.getElem?_concat_length] at ha;injection ha with ha;subst ha;exact ⟨hX1,hX2⟩
    ·have hil:i<L.length:=by have:=(List.getElem?_eq_some_iff.1 ha).1;simp at this;omega
     rw[List.getElem?_append_left hil] at ha;exact hLp i a c ha hc'
   ·simpa [ci] using hv2
  simp only[sz,simprocAttr,h2,h6,e0,hc0,w9,hz,hz'];refine aZ (λhb=>?_) (λhb=>?_)
  ·have hm0:0<=(y.toNat:Int) % x.card:=Int.emod_nonneg _ (by omega);have hm1:(y.toNat:Int) % x.card<x.card:=Int.emod_lt_of_pos _ (by omega);simp only[sz,simprocAttr,h2,h3,h6,e0,e1,N3 8 1 _ _ _ _ _ hj8,Nat.mul_one,hcy,w8,r1,hlt,z1,hry,gk .i64 (show 0<=(y.toNat:Int) by omega) hcx];refine bQ _ (key _ ((y.toNat:Int) % x.card) (by omega) hm1 (by simp[St,sx,h2,h3,h5,h6])) ?_;rintro e t df g ⟨rfl,h⟩;exact h
  ·simp only[sx];refine bQ _ (key _ (-1) (by omega) (by omega) (by simp[St,sx,h2,h3,h5,h6])) ?_;rintro e t df g ⟨rfl,h⟩;exact h
 ·rintro t df g ⟨rfl,⟨h2,h3,-⟩,e0,e1,hnx,u,L,h5,hLl,hLp,hu⟩;simp only[sz,simprocAttr,jL,h5];exact ⟨_,L,Ll hLl hLp,hu.ints (by omega)⟩
theorem tY {α β:Type}{R:α->β->Prop}:∀{l:List α} {m:List β},l.length=m.length->(∀(i:Nat) (a:α) (b:β),l[i]?=some a->m[i]?=some b->R a b)->All2 R l m
 | [],[],_,_=>trivial
 | [],_::_,h,_=>by simp at h
 | _::_,[],h,_=>by simp at h
 | a::l,b::m,h,hr=>⟨hr 0 a b rfl rfl,tY (by simpa using h) λi x y hx hy=>hr (i+1) x y (by simpa using hx) (by simpa using hy)⟩
def jz (V:Ky->AV)(i:Nat)(c:Int):List AV:=[.int .i64 c,V (i+1,0),V (i+1,1)]
structure NdOk (K:Nat) (V:Ky->AV) (E:Ky->En) (i:Nat) (x:Node):Prop where
 ps:E (i+1,0)=.sl 1 (x.parents.map ci)
 rs:∃rws,E (i+1,1)=.sl 1 rws/\rws.length=x.rows.length/\∀(r:Nat) (y:List Int),x.rows[r]?=some y->rws[r]?=some [V (i+1,2+r)]
 rr:∀(r:Nat) (y:List Int),x.rows[r]?=some y->E (i+1,2+r)=.sl 1 (y.map ci)
 len:x.parents.length<=K/\x.rows.length<=K/\∀y∈x.rows,y.length<=K
theorem NdOk.congr {K i:Nat}{V V':Ky->AV}{E E':Ky->En}{x:Node}(h:NdOk K V E i x)(hv:∀q,V' (i+1,q)=V (i+1,q))(he:∀q,E' (i+1,q)=E (i+1,q)):NdOk K V' E' i x:=by obtain ⟨rws,h1,h2,h3⟩:=h.rs;exact ⟨by rw[he];exact h.ps,⟨rws,by rw[he];exact h1,h2,λr y hy=>by rw[hv];exact h3 r y hy⟩,λr y hy=>by rw[he];exact h.rr r y hy,h.len⟩
theorem NdOk.up {K K' i:Nat}{V:Ky->AV}{E:Ky->En}{x:Node}(h:NdOk K V E i x)(hk:K<=K'):NdOk K' V E i x :=
 ⟨h.ps,h.rs,h.rr,Nat.le_trans h.len.1 hk,Nat.le_trans h.len.2.1 hk,λy hy=>Nat.le_trans (h.len.2.2 y hy) hk⟩
theorem NdOk.rows {g:G}{K i:Nat}{V:Ky->AV}{E:Ky->En}{x:Node}{L:Ky->Prop}(h:NdOk K V E i x)(hH:Hp g 3 L V E)(hL:∀q,q<2+x.rows.length->L (i+1,q))(hK:K<=2000000):SlR P3 0 g.h x.rows (V (i+1,1)):=by obtain ⟨rws,h1,h2,h3⟩:=h.rs;have ho:=hH.own (hL 1 (by omega)) h1;refine Own.sl (α:=List Int) ho (by have:=h.len;omega) (tY h2.symm λr y row hy hr=>?_) λj hj=>(ho.lt hj).1;rw[h3 r y hy] at hr;injection hr with hr;subst hr;have hr:=(List.getElem?_eq_some_iff.1 hy).1;exact da.2 ⟨_,rfl,sg (hH.own (hL (2+r) (by omega)) (h.rr r y hy)) (by have:=h.len.2.2 y (List.mem_of_getElem? hy);omega) λ_ h=>h⟩
theorem NdOk.pars {g:G}{K i:Nat}{V:Ky->AV}{E:Ky->En}{x:Node}{L:Ky->Prop}(h:NdOk K V E i x)(hH:Hp g 3 L V E)(hL:L (i+1,0))(hK:K<=2000000):SlR P3 0 g.h x.parents (V (i+1,0)) :=
 sg (hH.own hL h.ps) (by have:=h.len;omega) λ_ h=>h
theorem NdOk.rd {g:G}{K i:Nat}{V:Ky->AV}{E:Ky->En}{x:Node}{L:Ky->Prop}(h:NdOk K V E i x)(hH:Hp g 3 L V E)(hL:∀q,q<2+x.rows.length->L (i+1,q))(hK:K<=2000000):Rp.rp P3 0 g.h x (jz V i x.card) :=
 bI.2 ⟨_,_,rfl,h.pars hH (hL 0 (by omega)) hK,h.rows hH hL hK⟩
def LS (L:List Node):Ky->Prop:=λk=>k=(0,0)\/∃i q x,k=(i+1,q)/\L[i]?=some x/\q<2+x.rows.length
theorem LS.z {L:List Node}:LS L (0,0):=.inl rfl
theorem LS.s {L:List Node}{i q:Nat}{x:Node}(h:L[i]?=some x)(hq:q<2+x.rows.length):LS L (i+1,q):=.inr ⟨i,q,x,rfl,h,hq⟩
theorem LS.nb {L:List Node}:¬LS L (0,1):=by rintro (h | ⟨i,q,x,h,-⟩)<;>simp at h
theorem LS.lt {L:List Node}{i q:Nat}(h:LS L (i+1,q)):i<L.length:=by
 rcases h with h | ⟨i',q',x,h,hx,-⟩
 ·simp at h
 ·simp only[Prod.mk.injEq] at h;have:=(List.getElem?_eq_some_iff.1 hx).1;omega
structure BLs (K:Nat) (V:Ky->AV) (E:Ky->En) (L:List Node):Prop where
 ns:∃rows,E (0,0)=.sl 3 rows/\rows.length=L.length/\∀(i:Nat) (x:Node),L[i]?=some x->rows[i]?=some (jz V i x.card)
 nd:∀(i:Nat) (x:Node),L[i]?=some x->NdOk K V E i x
theorem BLs.congr {K:Nat}{V V':Ky->AV}{E E':Ky->En}{L:List Node}(h:BLs K V E L)(hv:∀i q,i<L.length->V' (i+1,q)=V (i+1,q))(he:∀i q,i<L.length->E' (i+1,q)=E (i+1,q))(h0:E' (0,0)=E (0,0)):BLs K V' E' L:=by obtain ⟨rows,h1,h2,h3⟩:=h.ns;have lt:∀{i:Nat} {x:Node},L[i]?=some x->i<L.length:=λhx=>(List.getElem?_eq_some_iff.1 hx).1;exact ⟨⟨rows,by rw[h0];exact h1,h2,λi x hx=>by rw[h3 i x hx,jz,jz,hv i _ (lt hx),hv i _ (lt hx)]⟩,λi x hx=>(h.nd i x hx).congr (λq=>hv i q (lt hx)) λq=>he i q (lt hx)⟩
theorem De {g:G}{W:AV}{rows:List (List AV)}(ho:Own g 3 W 3 rows)(hl:rows.length<=2000000)(h:∀(i:Nat) (row:List AV),rows[i]?=some row->∃x:Node,Rp.rp P3 0 g.h x row):∃nds:List Node,nds.length=rows.length/\SlR P3 0 g.h nds W:=by
 have key:∀(rs:List (List AV)),(∀(i:Nat) (row:List AV),rs[i]?=some row->∃x:Node,Rp.rp P3 0 g.h x row)->∃nds:List Node,nds.length=rs.length/\All2 (Rp.rp P3 0 g.h) nds rs:=by
  intro rs
  induction rs with
  | nil=>intro _;exact ⟨[],rfl,trivial⟩
  | cons r rs ih =>
   intro hh;obtain ⟨x,hx⟩:=hh 0 r rfl;obtain ⟨nds,hn,ha⟩:=ih λi row hr=>hh (i+1) row (by simpa using hr);exact ⟨x::nds,by simp[hn],hx,ha⟩
 obtain ⟨nds,hn,ha⟩:=key rows h;exact ⟨nds,hn,Own.sl (α:=Node) ho (by omega) ha λi hi=>(ho.lt hi).1⟩
def BBn (g:G)(brow:List AV)(gr:Int)(b:AV):Prop:=g.h.get 0=.cells 4 [brow] 0 false false/\g.h.get 1=.cells 2 [[.int .i64 gr,b]] 0 false false/\g.h.get 2=.cells 2 [[.int .i64 0,.nils]] 0 false false
theorem BBn.fr {g g':G}{brow:List AV}{gr:Int}{b:AV}(h:BBn g brow gr b)(hf:∀i,i<3->g'.h.get i=g.h.get i):BBn g' brow gr b :=
 ⟨by rw[hf 0 (by omega),h.1],by rw[hf 1 (by omega),h.2.1],by rw[hf 2 (by omega),h.2.2]⟩
def LX (L:List Node)(x:Node):Ky->Prop:=λk=>LS L k\/k=(0,1)\/∃q,k=(L.length+1,q)/\q<2+x.rows.length
theorem LX.b {L:List Node}{x:Node}:LX L x (0,1):=.inr (.inl rfl)
theorem LX.n {L:List Node}{x:Node}{q:Nat}(h:q<2+x.rows.length):LX L x (L.length+1,q):=.inr (.inr ⟨q,rfl,h⟩)
structure NB (K p:Nat) (L:List Node) (x:Node) (g:G) (brow:List AV) (gr:Int) (b W:AV) (V:Ky->AV) (E:Ky->En):Prop where
 hp:Hp g 3 (LX L x) V E
 bb:BBn g brow gr b
 vb:V (0,1)=.hptr p 0 0 0
 bx:E (0,1)=.bx (jz V L.length x.card)
 nd:NdOk K V E L.length x
 bl:BLs K V E L
 vw:V (0,0)=W
theorem NB.box {K p:Nat}{L:List Node}{x:Node}{g:G}{brow:List AV}{gr:Int}{b W:AV}{V:Ky->AV}{E:Ky->En}(h:NB K p L x g brow gr b W V E):g.h.get p=.cells 3 [[.int .i64 x.card,V (L.length+1,0),V (L.length+1,1)]] 0 false false/\3<=p/\p<g.nx:=by obtain ⟨id,h1,h2,h3,h4⟩:=h.hp.box LX.b h.bx;rw[h.vb] at h3;injection h3 with h3;subst h3;exact ⟨h4,h1,h2⟩
def LNB (j p:Nat)(W:AV):List (Nat×AV):=[(2,.hptr 0 0 0 0),(3,.hptr 1 0 0 0),(4,.hptr 2 0 0 0),(5,W),(6,.int .i64 (j:Int)),(7,.hptr p 0 0 0)]
theorem M_ {d K p k:Nat}{L:List Node}{c:Int}{ps:List Int}{g:G}{brow:List AV}{gr:Int}{b W fa fb:AV}{rows:List (List AV)}{V:Ky->AV}{E:Ky->En}{Q:QT}{t:T}(hK:K<=1000000)
  (r1:∀h',ah h' 3 b=some rows) (z1:rows[L.length]?=some [.int .i64 c,fa,fb]) (hry:jS b=true) (hfa:SlR NoP k .nil ps fa) (hl:ps.length<=K)
  (ht:St t (LNB L.length p W)) (hN:NB K p L ⟨c,[],[]⟩ g brow gr b W V E)
  (kk:∀t g V E,St t (LNB L.length p W)->NB K p L ⟨c,ps,[]⟩ g brow gr b W V E->Q .norm t [] g) :
  wp C0 d none (.feet [0,1,0,4,0,28,60,124,255,511,1023] [oF 29 1 7,oL 30 29,oF 31 1 3,oL 32 31,oM 33 6,o 34 (.ixs 3 (.t 32) (.t 33)),oF 35 1 34,oL 36 35,o 37 (.app 1 8 (.t 30) (.t 36)),oF 38 1 7,oz (.store 1 (.t 38) (.t 37))]) Q t [] g:=by
 obtain ⟨h2,h3,h4,h5,h6,h7,-⟩:=ht;have hlt:L.length<rows.length:=(List.getElem?_eq_some_iff.1 z1).1;obtain ⟨hgx,hp1,hp2⟩:=hN.box;have hnx:=hN.hp.nx;have he1:E (L.length+1,0)=.sl 1 []:=hN.nd.ps;simp only[sz,simprocAttr,sf,h3,h6,h7,hN.bb.2.1,r1,hlt,z1,hry,hgx];refine (hN.hp.same (g':=_) (by simp) (by simp<;>omega)).app (k:=(L.length+1,0)) (LX.n (by omega)) he1 (new:=ps.map ci) (by simpa using (hfa.tree (h':=g.h) (Nat.le_refl _)).ints) (by simp[aP];omega) λv1 ga hHa na fra fsa lga vca vta=>?_;simp only[sy] at na fra fsa lga;have kb:(0,1)≠(L.length+1,0):=by simp
 obtain ⟨p',hp1',hp2',hp3',hgx'⟩:=hHa.box (k:=(0,1)) LX.b (by rw[ac _ _ (by simp<;>omega)];exact hN.bx);rw[ac _ _ (by simp<;>omega),hN.vb] at hp3';injection hp3' with hp3';subst hp3';have hgx':ga.h.get p=.cells 3 [[.int .i64 c,V (L.length+1,0),V (L.length+1,1)]] 0 false false:=hgx';simp only[sz,simprocAttr,sf,h7,hgx',vca,vta];refine ⟨?_,?_⟩
 ·simp only[List.reverse_cons,List.reverse_nil,List.nil_append,List.cons_append];exact aO [false,false,false,false,false,false,false,false,true,false,true] [] (by simp[All2,ap,aF]) (by decide) (by simp)
 have hHb:=(hHa.same (g':=aH (iU (aH (iU ga []) []) []) []) (by simp) (by simp<;>omega)).putb (k:=(0,1)) LX.b (row:=jz V L.length c) (row':=[.int .i64 c,v1,V (L.length+1,1)]) (by rw[ac _ _ (by simp<;>omega)];exact hN.bx) (by rw[ac _ _ (by simp<;>omega)];exact hN.vb) rfl;refine kk _ _ (ups V (L.length+1,0) v1) (ups (ups E (L.length+1,0) (En.sl 1 ([]++ps.map ci))) (0,1) (En.bx [.int .i64 c,v1,V (L.length+1,1)])) (by simp[St,LNB,sx,h2,h3,h4,h5,h6,h7]) ?_;refine ⟨hHb.same (by simp[jz]) (by simp),hN.bb.fr (λi hi=>by simp[H.get_put];rw[if_neg (by omega),fra i hi]),by rw[ac _ _ (by simp<;>omega)];exact hN.vb,?_,⟨?_,?_,λr y hr=>by simp at hr,hl,by show 0<=K;omega,λy hy=>by simp at hy⟩,?_,by rw[ac _ _ (by simp<;>omega)];exact hN.vw⟩
 ·rw[an,jz,an,ac V (k:=(L.length+1,0)) (j:=(L.length+1,1)) _ (by simp)]
 ·rw[ac _ _ (by simp<;>omega),an];rfl
 ·obtain ⟨rws,q1,q2,q3⟩:=hN.nd.rs;exact ⟨rws,by rw[ac _ _ (by simp<;>omega),ac _ _ (by simp<;>omega)];exact q1,q2,λr y hr=>by simp at hr⟩
 ·refine hN.bl.congr (λi q hi=>?_) (λi q hi=>?_) ?_
  ·rw[ac _ _ (by simp<;>omega)]
  ·rw[ac _ _ (by simp<;>omega),ac _ _ (by simp<;>omega)]
  ·rw[ac _ _ (by simp<;>omega),ac _ _ (by simp<;>omega)]
theorem Na {d K p k i:Nat}{L:List Node}{c:Int}{ps y:List Int}{R:List (List Int)}{g:G}{brow:List AV}{gr:Int}{b W fa fb fy:AV}{rows rws:List (List AV)}{V:Ky->AV}{E:Ky->En}{Q:QT}{t:T}(hK:K<=1000000)
  (r1:∀h',ah h' 3 b=some rows) (z1:rows[L.length]?=some [.int .i64 c,fa,fb]) (hry:jS b=true) (w1:∀h',ah h' 1 fb=some rws) (hryb:jS fb=true) (w2:rws[i]?=some [fy]) (hfy:SlR NoP k .nil y fy) (hl:y.length<=K) (hRl:R.length=i) (hi:i<K)
  (ht:St t (LNB L.length p W)) (h8:tat t 8=.int .i64 (i:Int)) (h9:tat t 9=.nils) (hN:NB K p L ⟨c,ps,R⟩ g brow gr b W V E)
  (kk:∀t g V E,St t (LNB L.length p W)->tat t 8=.int .i64 (i:Int)->NB K p L ⟨c,ps,R++[y]⟩ g brow gr b W V E->Q .norm t [] g) :
  wp C0 d none (.feet [0,1,0,0,8,0,56,120,248,0,1016,2040,4092,8188,16383,32767,65535] [oF 50 2 7,oL 51 50,oM 52 9,oF 53 1 3,oL 54 53,oM 55 6,o 56 (.ixs 3 (.t 54) (.t 55)),oF 57 2 56,oL 58 57,oM 59 8,oX 60 58 59,oL 61 60,o 62 (.app 1 8 (.t 52) (.t 61)),o 63 (.bsl 1 1 [.nils] [0] [.t 62]),o 64 (.app 1 24 (.t 51) (.t 63)),oF 65 2 7,oz (.store 1 (.t 65) (.t 64))]) Q t [] g:=by
 obtain ⟨h2,h3,h4,h5,h6,h7,-⟩:=ht;have hlt:L.length<rows.length:=(List.getElem?_eq_some_iff.1 z1).1;have hlt2:i<rws.length:=(List.getElem?_eq_some_iff.1 w2).1;obtain ⟨hgx,hp1,hp2⟩:=hN.box;have hnx:=hN.hp.nx;obtain ⟨rw0,e1,e2,e3⟩:=hN.nd.rs;have e2:rw0.length=i:=by rw[e2];exact hRl
 simp only[sz,simprocAttr,sf,h3,h6,h7,h8,h9,hN.bb.2.1,r1,hlt,z1,hry,w1,hlt2,w2,hgx];refine qc (b:=3) (rows:=[]) (new:=y.map ci) (.inl ⟨rfl,rfl⟩) (by simpa using (hfy.tree (h':=g.h) (Nat.le_refl _)).ints) (by simp<;>omega) (by simp[aP];omega) λv2 g2 hv2 n2 fr2 vid2 lg2=>?_;simp only[sy] at n2 fr2 vid2 lg2;have hnk:¬LX L ⟨c,ps,R⟩ (L.length+1,2+i):=by
  rintro (h | h | ⟨q,h,hq⟩)
  ·have:=h.lt;omega
  ·simp at h
  ·simp only[Prod.mk.injEq] at h;simp at hq;omega
 have hH2:=hN.hp.add (k:=(L.length+1,2+i)) (L':=LX L ⟨c,ps,R++[y]⟩) (v':=v2) (e':=.sl 1 (y.map ci)) hnk hv2 (by omega) (λj _ hj=>fr2 j (by omega) (by simp[vid])) (λj hj=>by
   rw[bH hv2] at hj;rcases vid2 with h | ⟨i',h,hi'⟩
   ·rw[h] at hj;cases hj
   ·rw[h] at hj;injection hj with hj;omega) (λk hk=>by
   rcases hk with h | h | ⟨q,h,hq⟩
   ·exact .inl (.inl h)
   ·exact .inl (.inr (.inl h))
   ·simp at hq
    by_cases e:q=2+i
    ·rw[e] at h;exact .inr h
    ·exact .inl (.inr (.inr ⟨q,h,by simp;omega⟩)))
 simp only[sz,simprocAttr,sf,hv2.cell.1,hv2.cell.2];have v1e:ups V (L.length+1,2+i) v2 (L.length+1,1)=V (L.length+1,1):=ac _ _ (by simp<;>omega);rw[<-v1e];refine (hH2.step (g':=_) ?_ ?_).app2 (k:=(L.length+1,1)) (LX.n (by omega)) (by rw[ac _ _ (by simp<;>omega)];exact e1) (new:=[[v2]]) (by simp[sx,sy]) (by simp[aP];omega) λv3 g3 hH3 n3 fb3 fo3 lg3 vc3 vt3=>?_
 ·simp;omega
 ·intro j _ hj;simp[H.get_put];omega
 simp only[sx,sy] at n3 fb3 fo3 lg3;obtain ⟨p',hp1',hp2',hp3',hgx'⟩:=hH3.box (k:=(0,1)) LX.b (by rw[ac _ _ (by simp<;>omega),ac _ _ (by simp<;>omega)];exact hN.bx);rw[ac _ _ (by simp<;>omega),ac _ _ (by simp<;>omega),hN.vb] at hp3';injection hp3' with hp3';subst hp3';have hgx':g3.h.get p=.cells 3 [[.int .i64 c,V (L.length+1,0),V (L.length+1,1)]] 0 false false:=hgx';simp only[sz,simprocAttr,sf,h7,hgx',vc3,vt3];refine ⟨?_,?_⟩
 ·simp only[List.reverse_cons,List.reverse_nil,List.nil_append,List.cons_append];refine aO [false,false,false,false,false,false,false,false,false,false,false,false,true,true,true,false,true] [(0,12),(1,12),(0,13),(1,13)] (by simp[All2,ap,aF]) (by decide) ?_;have hlg:∀i∈g2.lg,i≠p:=λi hi e=>by
   rcases lg2 i hi with h | h | h
   ·simp at h
   ·simp[vid] at h
   ·omega
  rintro q hp' x y hx hy;simp only[List.mem_cons,List.not_mem_nil,or_false] at hp';rcases hp' with rfl | rfl | rfl | rfl<;>(simp at hx hy;subst hx;subst hy;refine dI rfl rfl rfl rfl ?_ ?_ ?_<;>simp[ap,aF,ak]<;>first | omega | exact hlg | exact λi hi e=>hlg i hi e.symm)
 have hHb:=(hH3.same (g':=aH (iU (aH (iU g3 []) []) []) []) (by simp) (by simp<;>omega)).putb (k:=(0,1)) LX.b (row:=jz V L.length c) (row':=[.int .i64 c,V (L.length+1,0),v3]) (by rw[ac _ _ (by simp<;>omega),ac _ _ (by simp<;>omega)];exact hN.bx) (by rw[ac _ _ (by simp<;>omega),ac _ _ (by simp<;>omega)];exact hN.vb) rfl;refine kk _ _ _ _ (by simp[St,LNB,sx,h2,h3,h4,h5,h6,h7]) (by simp[sx,h8]) ⟨hHb.same (by simp[jz]) (by simp),hN.bb.fr (λj hj=>?_),?_,?_,⟨?_,?_,λr z hr=>?_,hN.nd.len.1,by simp;omega,λz hz=>?_⟩,?_,?_⟩
 ·simp[H.get_put];rw[if_neg (by omega),fb3 j hj]
  try simp[H.get_put]
  rw[if_neg (by omega),fr2 j (by omega) (by simp[vid])]
 ·rw[ac _ _ (by simp<;>omega),ac _ _ (by simp<;>omega)];exact hN.vb
 ·rw[an,jz,an,ac _ _ (by simp<;>omega),ac _ _ (by simp<;>omega)]
 ·rw[ac _ _ (by simp<;>omega),ac _ _ (by simp<;>omega),ac _ _ (by simp<;>omega)];exact hN.nd.ps
 ·refine ⟨rw0++[[v2]],by rw[ac _ _ (by simp<;>omega),an],by simp[e2,hRl],λr z hr=>?_⟩
  by_cases e:r=i
  ·subst e;rw[ac _ _ (by simp<;>omega),an,<-e2,List.getElem?_concat_length]
  ·have hr':r<i:=by have:=(List.getElem?_eq_some_iff.1 hr).1;simp at this;omega
   rw[ac _ _ (by simp<;>omega),ac _ _ (by simp<;>omega),List.getElem?_append_left (by omega)];have hr:(R++[y])[r]?=some z:=hr;rw[List.getElem?_append_left (by omega)] at hr;exact e3 r z hr
 ·rw[ac _ _ (by simp<;>omega),ac _ _ (by simp<;>omega)];have hr:(R++[y])[r]?=some z:=hr
  by_cases e:r=i
  ·subst e;rw[<-hRl,List.getElem?_concat_length] at hr;injection hr with hr;subst hr;rw[<-hRl,an]
  ·have hr':r<i:=by have:=(List.getElem?_eq_some_iff.1 hr).1;simp at this;omega
   rw[List.getElem?_append_left (by omega)] at hr;rw[ac _ _ (by simp<;>omega)];exact hN.nd.rr r z hr
 ·rcases List.mem_append.1 hz with h | h
  ·exact hN.nd.len.2.2 z h
  ·rw[List.mem_singleton.1 h];exact hl
 ·refine hN.bl.congr (λj q hj=>?_) (λj q hj=>?_) ?_
  ·rw[ac _ _ (by simp<;>omega),ac _ _ (by simp<;>omega)]
  ·rw[ac _ _ (by simp<;>omega),ac _ _ (by simp<;>omega),ac _ _ (by simp<;>omega)]
  ·rw[ac _ _ (by simp<;>omega),ac _ _ (by simp<;>omega),ac _ _ (by simp<;>omega)]
 ·rw[ac _ _ (by simp<;>omega),ac _ _ (by simp<;>omega)];exact hN.vw
theorem N0 {d K p k:Nat}{L:List Node}{x:Node}{g:G}{brow:List AV}{gr:Int}{b W fa fb:AV}{rows:List (List AV)}{V:Ky->AV}{E:Ky->En}{Q:QT}{t:T}(hK:K<=1000000)
  (r1:∀h',ah h' 3 b=some rows) (z1:rows[L.length]?=some [.int .i64 x.card,fa,fb]) (hry:jS b=true) (hfb:SlR NoP k .nil x.rows fb) (hl:x.rows.length<=K) (hll:∀y∈x.rows,y.length<=K)
  (ht:St t (LNB L.length p W)) (h8:tat t 8=.int .i64 0) (hN:NB K p L ⟨x.card,x.parents,[]⟩ g brow gr b W V E)
  (fin:∀t g V E,St t (LNB L.length p W)->NB K p L x g brow gr b W V E->Q (.exit 2) t [] g):wpL (wp C0 d none fC) Q t [] g:=by
 obtain ⟨rws,w1,w2,w3,w4⟩:=hfb.all;have w1:∀h',ah h' 1 fb=some rws:=w1;have lfb:=hfb.len;have hlt:L.length<rows.length:=(List.getElem?_eq_some_iff.1 z1).1;obtain ⟨FR,hFR⟩:∃FR,FR=SC.feet [0,1,0,0,8,0,56,120,248,0,1016,2040,4092,8188,16383,32767,65535] [oF 50 2 7,oL 51 50,oM 52 9,oF 53 1 3,oL 54 53,oM 55 6,o 56 (.ixs 3 (.t 54) (.t 55)),oF 57 2 56,oL 58 57,oM 59 8,oX 60 58 59,oL 61 60,o 62 (.app 1 8 (.t 52) (.t 61)),o 63 (.bsl 1 1 [.nils] [0] [.t 62]),o 64 (.app 1 24 (.t 51) (.t 63)),oF 65 2 7,oz (.store 1 (.t 65) (.t 64))]:=⟨_,rfl⟩;simp only[fC];rw[<-hFR];refine bp x.rows.length (by omega) (λj t df g=>df=[]/\St t (LNB L.length p W)/\∃V E,NB K p L ⟨x.card,x.parents,x.rows.take j⟩ g brow gr b W V E)
  ⟨rfl,ht,V,E,by simpa using hN⟩ h8 (by decide) (by rintro j t df g v s (rfl | rfl | rfl)<;>simp[St,LNB,sx]) ?_ ?_ ?_
 ·rintro j t df g hj ⟨rfl,⟨h2,h3,h4,h5,h6,h7,-⟩,V,E,hN⟩ h8;simp only[sz,simprocAttr,h3,h6,h8,hN.bb.2.1,r1,hlt,z1,hry,lfb];exact ⟨by simp[St,LNB,sx,h2,h3,h4,h5,h6,h7],V,E,hN⟩
 ·clear ht h8 hN;rintro j t df g hj ⟨rfl,⟨h2,h3,h4,h5,h6,h7,-⟩,V,E,hN⟩ h8;obtain ⟨y,hy,htk,hm⟩:=ae hj;obtain ⟨row,q1,q2⟩:=w3 j y hy;obtain ⟨fy,rfl,hfy⟩:=da.1 q2;simp only[sz,simprocAttr];rw[hFR];refine Na (i:=j) (y:=y) (R:=x.rows.take j) hK r1 z1 hry w1 (w4 (by omega)) q1 hfy (hll y hm) (by simp<;>omega) (by omega) (by simp[St,LNB,sx,h2,h3,h4,h5,h6,h7]) (by simp[sx,h8]) (by simp[sx]) hN ?_;clear h2 h3 h4 h5 h6 h7 h8 hN;intro t g V E ht h8 hN;rw[<-htk] at hN;exact ⟨⟨rfl,ht,V,E,hN⟩,h8⟩
 ·rintro t df g ⟨rfl,ht,V,E,hN⟩;rw[List.take_length] at hN;exact fin t g V E ht hN
theorem LS.snoc {L:List Node}{x:Node}{k:Ky}(h:LS (L++[x]) k):LX L x k:=by
 rcases h with h | ⟨i,q,y,h,hi,hq⟩
 ·exact .inl (.inl h)
 ·by_cases e:i<L.length
  ·rw[List.getElem?_append_left e] at hi;exact .inl (.inr ⟨i,q,y,h,hi,hq⟩)
  ·have hil:=(List.getElem?_eq_some_iff.1 hi).1;simp at hil;have e:i=L.length:=by omega
   subst e;rw[List.getElem?_concat_length] at hi;injection hi with hi;subst hi;exact .inr (.inr ⟨q,h,hq⟩)
theorem N1 {d K k:Nat}{m:Net}{g:G}{brow:List AV}{b:AV}{V:Ky->AV}{E:Ky->En}{Q:QT}{t:T}(hK:K<=1000000)(hS:SlR NoP k .nil m.nodes b)(hl:m.nodes.length<=K)
  (hb:∀x∈m.nodes,x.parents.length<=K/\x.rows.length<=K/\∀r∈x.rows,r.length<=K)
  (ht:St t [(2,.hptr 0 0 0 0),(3,.hptr 1 0 0 0),(4,.hptr 2 0 0 0)]) (h5:tat t 5=V (0,0)) (h6:tat t 6=.int .i64 0) (hH:Hp g 3 (LS []) V E) (hB:BBn g brow m.grain b) (hD:BLs K V E [])
  (fin:∀t g V E,St t [(2,.hptr 0 0 0 0),(3,.hptr 1 0 0 0),(4,.hptr 2 0 0 0)]->tat t 5=V (0,0)->Hp g 3 (LS m.nodes) V E->BBn g brow m.grain b->BLs K V E m.nodes->Q (.exit 0) t [] g):wpL (wp C0 d none fD) Q t [] g:=by
 obtain ⟨rows,r1,r2,r3,r4⟩:=hS.all;have r1:∀h',ah h' 3 b=some rows:=r1;have lS:=hS.len;obtain ⟨FR,hFR⟩:∃FR,FR=SC.feet [0,1,0,4,0,28,60,124,255,511,1023] [oF 29 1 7,oL 30 29,oF 31 1 3,oL 32 31,oM 33 6,o 34 (.ixs 3 (.t 32) (.t 33)),oF 35 1 34,oL 36 35,o 37 (.app 1 8 (.t 30) (.t 36)),oF 38 1 7,oz (.store 1 (.t 38) (.t 37))]:=⟨_,rfl⟩;simp only[fD,kP];rw[<-hFR];refine bp m.nodes.length (by omega) (λj t df g=>df=[]/\St t [(2,.hptr 0 0 0 0),(3,.hptr 1 0 0 0),(4,.hptr 2 0 0 0)]/\∃V E,tat t 5=V (0,0)/\Hp g 3 (LS (m.nodes.take j)) V E/\BBn g brow m.grain b/\BLs K V E (m.nodes.take j))
  ⟨rfl,ht,V,E,h5,by simpa using hH,hB,by simpa using hD⟩ h6 (by decide) (by rintro j t df g v s (rfl | rfl | rfl)<;>simp[St,sx]) ?_ ?_ ?_
 ·rintro j t df g hj ⟨rfl,⟨h2,h3,h4,-⟩,V,E,h5,hH,hB,hD⟩ h6;simp only[sz,simprocAttr,h2,h3,h4,h5,h6,hB.2.1,lS,St];exact ⟨V,E,rfl,hH,hB,hD⟩
 ·clear ht h5 h6 hH hB hD;rintro j t df g hj ⟨rfl,⟨h2,h3,h4,-⟩,V,E,h5,hH,hB,hD⟩ h6;obtain ⟨x,hx,htk,hm⟩:=ae hj;obtain ⟨row,q1,q2⟩:=r3 j x hx;obtain ⟨fa,fb,rfl,hfa,hfb⟩:=bI.1 q2;have hlt:j<rows.length:=by omega
  have hry:=r4 (by omega);obtain ⟨l1,l2,l3⟩:=hb x hm;have hnx:=hH.nx;obtain ⟨p,hp⟩:∃p,p=g.nx:=⟨_,rfl⟩;obtain ⟨L,hL⟩:∃L,L=m.nodes.take j:=⟨_,rfl⟩;have hLl:L.length=j:=by rw[hL];simp;omega
  rw[<-hL] at hH hD htk;obtain ⟨g1,hg1⟩:∃g1,g1=(g.new (.cells 3 [[.int .i64 0,.nils,.nils]] 0 false false)).put g.nx (.cells 3 [[.int .i64 x.card,.nils,.nils]] 0 false false):=⟨_,rfl⟩;have n1:g.nx+1=g1.nx:=by rw[hg1];simp
  have f1:∀i,i<g.nx->g1.h.get i=g.h.get i:=λi hi=>by rw[hg1,G.put_h,aq _ _ _ (by omega),G.new_h,aq _ _ _ (by omega)]
  have hH1:=hH.add (k:=(0,1)) (L':=λk=>LS L k\/k=(0,1)) (g':=g1) (v':=.hptr g.nx 0 0 0) (e':=.bx [.int .i64 x.card,.nils,.nils]) LS.nb ⟨g.nx,by omega,by omega,rfl,by rw[hg1];simp[aR]⟩ (by omega) (λi _ hi=>f1 i hi) (λi hi=>by injection hi with hi;omega) (λk hk=>hk);have hH2:=hH1.add (k:=(L.length+1,0)) (L':=λk=>(LS L k\/k=(0,1))\/k=(L.length+1,0)) (v':=.nils) (e':=.sl 1 []) (by rintro (h | h);exact absurd h.lt (by omega);simp at h) (.inl ⟨rfl,rfl⟩) (Nat.le_refl _) (λ_ _ _=>rfl) (λi hi=>by cases hi) (λk hk=>hk);have hH3:=hH2.add (k:=(L.length+1,1)) (L':=LX L ⟨x.card,[],[]⟩) (v':=.nils) (e':=.sl 1 []) (by rintro ((h | h) | h);exact absurd h.lt (by omega);simp at h;simp at h) (.inl ⟨rfl,rfl⟩) (Nat.le_refl _) (λ_ _ _=>rfl) (λi hi=>by cases hi) (λk hk=>by
   rcases hk with h | h | ⟨q,h,hq⟩
   ·exact .inl (.inl (.inl h))
   ·exact .inl (.inl (.inr h))
   ·have hq:q<2:=hq;have:q=0\/q=1:=by omega
    rcases this with e | e<;>subst e
    ·exact .inl (.inr h)
    ·exact .inr h)
  have hNB:NB K p L ⟨x.card,[],[]⟩ g1 brow m.grain b (V (0,0)) (ups (ups (ups V (0,1) (.hptr g.nx 0 0 0)) (L.length+1,0) .nils) (L.length+1,1) .nils) (ups (ups (ups E (0,1) (.bx [.int .i64 x.card,.nils,.nils])) (L.length+1,0) (.sl 1 [])) (L.length+1,1) (.sl 1 [])):=by
   refine ⟨hH3,hB.fr λi hi=>f1 i (by omega),by simp[ac,an,hp],by simp[ac,an,jz],⟨by simp[ac,an],⟨[],by simp[an],rfl,λr y hr=>by simp at hr⟩,λr y hr=>by simp at hr,by show 0<=K;omega,by show 0<=K;omega,λy hy=>by simp at hy⟩,hD.congr (λi q hi=>?_) (λi q hi=>?_) (by simp[ac]),by simp[ac]⟩
   ·rw[ac _ _ (by simp<;>omega),ac _ _ (by simp<;>omega),ac _ _ (by simp<;>omega)]
   ·rw[ac _ _ (by simp<;>omega),ac _ _ (by simp<;>omega),ac _ _ (by simp<;>omega)]
  clear hH1 hH2 hH3;have z1:rows[L.length]?=some [.int .i64 x.card,fa,fb]:=by rw[hLl];exact q1
  refine iO (P:=λt df g'=>df=[]/\g'=g1/\St t (LNB L.length p (V (0,0)))) ?_ ?_
  ·simp only[sz,simprocAttr,h3,h6,hB.2.1,r1,hlt,q1,hry];refine ⟨by rw[hg1],?_⟩;simp[St,LNB,sx,h2,h3,h4,h5,h6,hp,hLl]
  rintro t df g2 ⟨rfl,rfl,ht⟩;rw[dU,hFR];refine M_ hK r1 z1 hry hfa l1 ht hNB ?_;clear hNB ht;rintro t g V1 E1 ⟨h2,h3,h4,h5,h6,h7,-⟩ hNB;rw[rP];simp only[sz,simprocAttr];refine N0 (x:=x) hK r1 z1 hry hfb l2 l3 (by simp[St,LNB,sx,h2,h3,h4,h5,h6,h7]) (by simp[sx]) hNB ?_;clear hNB h2 h3 h4 h5 h6 h7;rintro t g V1 E1 ⟨h2,h3,h4,h5,h6,h7,-⟩ hNB;obtain ⟨hgx,hp1,hp2⟩:=hNB.box;obtain ⟨rw0,e1,e2,e3⟩:=hNB.bl.ns;simp only[sz,simprocAttr,kN,h5,h7,hgx];rw[<-hNB.vw];have hnx2:=hNB.hp.nx;refine (hNB.hp.step (g':=g.new (.cells 3 [[.int .i64 x.card,V1 (L.length+1,0),V1 (L.length+1,1)]] 0 false false)) (by simp) (λi _ hi=>by rw[G.new_h,aq _ _ _ (by omega)])).app (k:=(0,0)) (.inl LS.z) e1
   (new:=[[.int .i64 x.card,V1 (L.length+1,0),V1 (L.length+1,1)]]) (by simp[sx,sy]) (by simp[aP];omega) λv3 g3 hH4 n3 fr3 _ lg3 vc3 vt3=>?_
  simp only[sx,sy] at n3 fr3;simp only[sz,simprocAttr,h2,h3,h4,h6,St];rw[hLl];refine ⟨⟨ups V1 (0,0) v3,ups E1 (0,0) (.sl 3 (rw0++[[.int .i64 x.card,V1 (L.length+1,0),V1 (L.length+1,1)]])),(an _ _ _).symm,?_,hNB.bb.fr (λi hi=>by rw[fr3 i hi,if_neg (by omega)]),?_⟩,rfl⟩
  ·rw[htk];exact hH4.sub λk hk=>LS.snoc hk
  ·rw[htk];have hbl:=hNB.bl.congr (V':=ups V1 (0,0) v3) (E':=ups E1 (0,0) (.sl 3 rw0)) (λi q hi=>ac _ _ (by simp<;>omega)) (λi q hi=>ac _ _ (by simp<;>omega)) (by rw[an,e1]);have hnd:=hNB.nd.congr (V':=ups V1 (0,0) v3) (E':=ups E1 (0,0) (.sl 3 (rw0++[[.int .i64 x.card,V1 (L.length+1,0),V1 (L.length+1,1)]]))) (λq=>ac _ _ (by simp<;>omega)) (λq=>ac _ _ (by simp<;>omega));refine ⟨⟨_,an _ _ _,by simp[e2],λi y hy=>?_⟩,λi y hy=>?_⟩
   ·by_cases e:i<L.length
    ·rw[List.getElem?_append_left e] at hy;rw[List.getElem?_append_left (by omega),e3 i y hy,jz,jz,ac _ _ (by simp<;>omega),ac _ _ (by simp<;>omega)]
    ·have hil:=(List.getElem?_eq_some_iff.1 hy).1;simp at hil;have e:i=L.length:=by omega
     subst e;rw[List.getElem?_concat_length] at hy;injection hy with hy;subst hy;rw[<-e2,List.getElem?_concat_length,e2,jz,ac _ _ (by simp<;>omega),ac _ _ (by simp<;>omega)]
   ·by_cases e:i<L.length
    ·rw[List.getElem?_append_left e] at hy;exact (hbl.nd i y hy).congr (λq=>rfl) (λq=>by rw[ac _ _ (by simp<;>omega),ac _ _ (by simp<;>omega)])
    ·have hil:=(List.getElem?_eq_some_iff.1 hy).1;simp at hil;have e:i=L.length:=by omega
     subst e;rw[List.getElem?_concat_length] at hy;injection hy with hy;subst hy;exact hnd
 ·rintro t df g ⟨rfl,ht,V,E,h5,hH,hB,hD⟩;rw[List.take_length] at hH hD;exact fin t g V E ht h5 hH hB hD
theorem bo {sz:Nat}{v:AV}{i off:Nat}(h:jS v=true):Dd (iH sz v i off)=.val (iH sz v i off):=by cases v<;>first | rfl | cases h
theorem SlR.far {α:Type} [Rp α]{P:Nat->Prop}{k:Nat}{h h':H}{l:List α}{v:AV}(r:SlR P k h l v)(hf:∀i,P i->h'.get i=h.get i):SlR P k h' l v:=by obtain ⟨w,hw,q⟩:=Rp.mono (P':=P) (h':=h') (show Rp.rp P k h l [v] from ⟨v,rfl,r⟩) (λi hi=>⟨hi,hf i hi⟩) (Nat.le_refl _);injection hw with hw;subst hw;exact q
theorem SlR.heap {α:Type} [Rp α]{P:Nat->Prop}{k:Nat}{h h':H}{l:List α}{v:AV}(r:SlR P k h l v)(hf:h'=h):SlR P k h' l v:=by subst hf;exact r
theorem Own.refs_lt {g:G}{b sz:Nat}{v:AV}{rows:List (List AV)}(h:Own g b v sz rows):∀i∈ak v,b<=i/\i<g.nx:=by
 rcases h with ⟨rfl,-⟩ | ⟨id,ep,lo,h1,h2,rfl,-⟩
 ·intro i hi;simp[ak] at hi
 ·intro i hi;simp[ak] at hi;omega
theorem B3 {α:Type} [Rp α]{g:G}{b:Nat}{u:AV}{rows:List (List AV)}(hu:Own g b u (Rp.sz α) rows)(hne:rows≠[]){n:Nat}(hn:n<=rows.length) :
  ∃y,lR (Rp.sz α) u none (some (.int .i64 (n:Int))) g=.val y/\(y.cells=[y]/\y.isTup=false)/\∀(P:Nat->Prop) (k:Nat) (l:List α) (h':H),(∀i,vid u=some i->h'.get i=g.h.get i)->SlR P k h' l u->SlR P k h' (l.take n) y:=by
 rcases hu with ⟨rfl,rfl⟩ | ⟨id,ep,lo,h1,h2,rfl,h3⟩
 ·exact absurd rfl hne
 ·simp only[lR,iI,h3,Nat.beq_refl,Bool.true_and,aw,Nat.zero_add,aa,Nat.ble_eq,Nat.le_refl,if_true,aQ,Option.getD_none,Nat.sub_zero];simp only[bZ];rw[show au (n.ble rows.length) (some n) none=some n from by rw[aa,if_pos (by simpa using hn)]];dsimp only;have hb:rows.length.beq 0=false:=by cases rows with | nil=>exact absurd rfl hne | cons a l=>rfl
  rw[hb];refine ⟨_,rfl,⟨rfl,rfl⟩,λP k l h' hh h=>?_⟩;have h3':=hh id rfl;rw[h3] at h3';obtain ⟨hl,hp,rr,q1,q2⟩:=h;rw[dG,h3',wz] at q1;injection q1 with q1;subst q1;refine ⟨by rw[List.length_take];omega,hp,rows.take n,?_,q2.take n⟩;rw[dG,h3',co,if_pos (by omega),List.drop_zero]
structure Oth (K:Nat) (L:List Node) (J:Nat) (V:Ky->AV) (E:Ky->En) (rows:List (List AV)):Prop where
 len:rows.length=L.length
 ns:∀(i:Nat) (y:Node),i≠J->L[i]?=some y->rows[i]?=some (jz V i y.card)
 nd:∀(i:Nat) (y:Node),i≠J->L[i]?=some y->NdOk K V E i y
theorem Oth.of {K J:Nat}{L:List Node}{V:Ky->AV}{E:Ky->En}{rows:List (List AV)}(h1:rows.length=L.length)(h2:∀(i:Nat) (x:Node),L[i]?=some x->rows[i]?=some (jz V i x.card))(h:BLs K V E L):Oth K L J V E rows :=
 ⟨h1,λi y _ hy=>h2 i y hy,λi y _ hy=>h.nd i y hy⟩
theorem Oth.v {K J q:Nat}{L:List Node}{V:Ky->AV}{E:Ky->En}{rows:List (List AV)}{v:AV}(h:Oth K L J V E rows):Oth K L J (ups V (J+1,q) v) E rows :=
 ⟨h.len,λi y hi hy=>by rw[h.ns i y hi hy,jz,jz,ac _ _ (by simp<;>omega),ac _ _ (by simp<;>omega)],λi y hi hy=>(h.nd i y hi hy).congr (λs=>ac _ _ (by simp<;>omega)) λ_=>rfl⟩
theorem Oth.e {K J q:Nat}{L:List Node}{V:Ky->AV}{E:Ky->En}{rows:List (List AV)}{v:En}(h:Oth K L J V E rows):Oth K L J V (ups E (J+1,q) v) rows :=
 ⟨h.len,h.ns,λi y hi hy=>(h.nd i y hi hy).congr (λ_=>rfl) λs=>ac _ _ (by simp<;>omega)⟩
theorem Oth.z {K J:Nat}{L:List Node}{V:Ky->AV}{E:Ky->En}{rows:List (List AV)}{v:En}(h:Oth K L J V E rows):Oth K L J V (ups E (0,0) v) rows :=
 ⟨h.len,h.ns,λi y hi hy=>(h.nd i y hi hy).congr (λ_=>rfl) λs=>ac _ _ (by simp<;>omega)⟩
theorem tA {K J:Nat}{L:List Node}{V:Ky->AV}{E:Ky->En}{rows:List (List AV)}{row':List AV}{x':Node}{g:G}{M:Ky->Prop}{W:AV}(hH:Hp g 3 M V E)(hM:∀k,LS L k->M k)(hO:Oth K L J V E rows)(e0:E (0,0)=.sl 3 (rows.set J row'))
  (hw:V (0,0)=W) (hr:Rp.rp P3 0 g.h x' row') (hK:K<=1000001) (hl:L.length<=1000001):∃nds:List Node,SlR P3 0 g.h nds W:=by
 have ho:=hH.own (hM _ LS.z) e0;rw[hw] at ho;obtain ⟨nds,-,h⟩:=De ho (by simp[hO.len];omega) λi row hi=>by
  rw[List.getElem?_set] at hi
  by_cases e:J=i
  ·rw[if_pos e] at hi
   split at hi
   ·injection hi with hi;subst hi;exact ⟨x',hr⟩
   ·cases hi
  ·rw[if_neg e] at hi;have hil:=(List.getElem?_eq_some_iff.1 hi).1;obtain ⟨y,hy⟩:∃y,L[i]?=some y:=⟨_,List.getElem?_eq_getElem (by rw[<-hO.len];exact hil)⟩;rw[hO.ns i y (Ne.symm e) hy] at hi;injection hi with hi;subst hi;exact ⟨y,(hO.nd i y (Ne.symm e) hy).rd hH (λq hq=>hM _ (LS.s hy hq)) (by omega)⟩
 exact ⟨nds,h⟩
theorem BLs.sl {K:Nat}{L:List Node}{V:Ky->AV}{E:Ky->En}{g:G}(h:BLs K V E L)(hH:Hp g 3 (LS L) V E)(hK:K<=1000001)(hl:L.length<=1000001):SlR P3 0 g.h L (V (0,0)):=by obtain ⟨rows,h1,h2,h3⟩:=h.ns;have ho:=hH.own LS.z h1;refine Own.sl (α:=Node) ho (by omega) (tY h2.symm λi y row hy hr=>?_) λi hi=>(ho.lt hi).1;rw[h3 i y hy] at hr;injection hr with hr;subst hr;exact (h.nd i y hy).rd hH (λq hq=>LS.s hy hq) (by omega)
structure BS (K J:Nat) (L:List Node) (x:Node) (bx:jA) (gr Rw:Int) (t:T) (g:G) (V:Ky->AV) (E:Ky->En):Prop where
 st:St t [(2,.hptr 0 0 0 0),(3,.hptr 1 0 0 0),(4,.hptr 2 0 0 0),(10,iH 3 (V (0,0)) J 0),(11,.int .i64 Rw)]
 hp:Hp g 3 (LS L) V E
 f0:g.h.get 0=.cells 4 [[u8v bx.1,u8v bx.2.1,u8v bx.2.2.1,.int .i64 bx.2.2.2]] 0 false false
 f1:g.h.get 1=.cells 2 [[.int .i64 gr,V (0,0)]] 0 false false
 f2:g.h.get 2=.cells 2 [[.int .i64 0,.nils]] 0 false false
 bl:BLs K V E L
 hx:L[J]?=some x
 hR:(Rw = -1/\x.rows.length=0)\/∃r:Nat,Rw=(r:Int)/\r<x.rows.length
 hK:K<=1000000
 hl:L.length<=K
def tV (Q:QT):Prop:=∀t g gr nv nds,tat t 3=.hptr 1 0 0 0->tat t 4=.hptr 2 0 0 0->g.h.get 1=.cells 2 [[.int .i64 gr,nv]] 0 false false->g.h.get 2=.cells 2 [[.int .i64 0,.nils]] 0 false false->SlR (α:=Node) P3 0 g.h nds nv->Q .norm t [] g
structure BT (K J:Nat) (L:List Node) (x:Node) (g:G) (V:Ky->AV) (E:Ky->En) (rows:List (List AV)):Prop where
 own:Own g 3 (V (0,0)) 3 rows
 e0:E (0,0)=.sl 3 rows
 ry:jS (V (0,0))=true
 hlt:J<rows.length
 row:rows[J]?=some [.int .i64 x.card,V (J+1,0),V (J+1,1)]
 oth:Oth K L J V E rows
 nd:NdOk K V E J x
theorem BS.bt {K J:Nat}{L:List Node}{x:Node}{bx:jA}{gr Rw:Int}{t:T}{g:G}{V:Ky->AV}{E:Ky->En}(h:BS K J L x bx gr Rw t g V E):∃rows,BT K J L x g V E rows:=by obtain ⟨rows,h1,h2,h3⟩:=h.bl.ns;have hJ:=(List.getElem?_eq_some_iff.1 h.hx).1;have ho:=h.hp.own LS.z h1;exact ⟨rows,ho,h1,eo ho (by omega),by omega,h3 J x h.hx,Oth.of h2 h3 h.bl,h.bl.nd J x h.hx⟩
theorem BS.sl {K J:Nat}{L:List Node}{x:Node}{bx:jA}{gr Rw:Int}{t:T}{g:G}{V:Ky->AV}{E:Ky->En}(h:BS K J L x bx gr Rw t g V E):SlR P3 0 g.h L (V (0,0)):=h.bl.sl h.hp (by have:=h.hK;omega) (by have:=h.hK;have:=h.hl;omega)
theorem Nu {i:Nat}(h:P3 i):¬i=1/\¬i=2:=by have:3<=i:=h;omega
section
variable {d K J:Nat}{L:List Node}{x:Node}{bx:jA}{gr Rw:Int}{t:T}{g:G}{V:Ky->AV}{E:Ky->En}{Q:QT}
theorem bc0 (hS:BS K J L x bx gr Rw t g V E)(fin:tV Q) :
  wp C0 d none (.ops [oF 112 3 2,oL 113 112,oF 114 0 3,oz (.store 1 (.t 114) (.t 113))]) Q t [] g:=by
 obtain ⟨h2,h3,h4,h10,h11,-⟩:=hS.st;simp only[sz,simprocAttr,h2,h3,hS.f0,hS.f1];exact fin _ _ bx.2.2.2 _ _ (by simp[sx,h3]) (by simp[sx,h4]) (by simp[H.get_put]) (by simp[H.get_put,hS.f2]) (hS.sl.far λi hi=>by simp[H.get_put,Nu hi])
theorem bc1 (hS:BS K J L x bx gr Rw t g V E)(fin:tV Q) :
  wp C0 d none (.ops [oM 117 10,oF 118 3 2,oL 119 118,o 120 (.nilc (.t 117)),oF 121 0 120,oz (.store 1 (.t 121) (.t 119))]) Q t [] g:=by
 obtain ⟨h2,h3,h4,h10,h11,-⟩:=hS.st;obtain ⟨rows,hB⟩:=hS.bt;have hK:=hS.hK;have hl:=hS.hl;simp only[sz,simprocAttr,h2,h10,hS.f0,bo hB.ry,bu hB.ry];refine hS.hp.put LS.z (row':=[.int .i64 bx.2.2.2,V (J+1,0),V (J+1,1)]) hB.e0 hB.row rfl rfl rfl λgb hHb nb frb _=>?_;simp only[sx];have hnd:NdOk K V (ups E (0,0) (.sl 3 (rows.set J [.int .i64 bx.2.2.2,V (J+1,0),V (J+1,1)]))) J ⟨bx.2.2.2,x.parents,x.rows⟩:=by have:=hB.nd.congr (V':=V) (E':=ups E (0,0) (.sl 3 (rows.set J [.int .i64 bx.2.2.2,V (J+1,0),V (J+1,1)]))) (λ_=>rfl) (λq=>ac _ _ (by simp<;>omega));exact ⟨this.ps,this.rs,this.rr,this.len⟩
 obtain ⟨nds,hn⟩:=tA hHb (λk hk=>hk) hB.oth.z (an _ _ _) rfl (hnd.rd hHb (λq hq=>LS.s hS.hx hq) (by omega)) (by omega) (by omega);exact fin _ _ gr _ nds (by simp[sx,h3]) (by simp[sx,h4]) (by rw[frb 1 (by omega),hS.f1]) (by rw[frb 2 (by omega),hS.f2]) hn
theorem bc2 (hS:BS K J L x bx gr Rw t g V E)(fin:tV Q) :
  wp C0 d none (.feet [0,0,2,6,14,0,32,96,254,511,1023,2047] [oM 124 10,oM 125 10,o 126 (.nilc (.t 125)),oF 127 1 126,oL 128 127,oF 129 3 2,oL 130 129,o 131 (.bsl 1 1 [.int .i64 0] [0] [.t 130]),o 132 (.app 1 8 (.t 128) (.t 131)),o 133 (.nilc (.t 124)),oF 134 1 133,oz (.store 1 (.t 134) (.t 132))]) Q t [] g:=by
 obtain ⟨h2,h3,h4,h10,h11,-⟩:=hS.st;obtain ⟨rows,hB⟩:=hS.bt;have hK:=hS.hK;have hl:=hS.hl;have hnx:=hS.hp.nx;have hps:=hB.nd.ps;have hlen:=hB.nd.len;simp only[sz,simprocAttr,sf,h2,h10,hS.f0,bo hB.ry,bu hB.ry,hB.own.rows,hB.hlt,hB.row];refine (hS.hp.step (g':=_) (by simp<;>omega) (λi hi hi2=>?_)).app2 (k:=(J+1,0)) (LS.s hS.hx (by omega)) hps (new:=[[.int .i64 bx.2.2.2]]) (by simp[sx,sy]) (by simp[aP];omega) λv1 ga hHa na fra foa lga vca vta=>?_
 ·simp[H.get_put];omega
 simp only[sx,sy] at na fra foa lga;have e00:ups V (J+1,0) v1 (0,0)=V (0,0):=ac _ _ (by simp<;>omega);simp only[sz,simprocAttr,sf,bo hB.ry,bu hB.ry];refine (hHa.same (g':=_) (by simp) (by simp<;>omega)).putv (k:=(0,0)) LS.z e00 (row':=[.int .i64 x.card,v1,V (J+1,1)]) (by rw[ac _ _ (by simp<;>omega)];exact hB.e0) hB.row (by rw[vca];rfl) vta (by rw[vca];rfl) λgb hHb nb frb _=>?_;simp only[sy] at nb frb ⊢;refine ⟨?_,?_⟩
 ·simp only[List.reverse_cons,List.reverse_nil,List.nil_append,List.cons_append];refine aO [false,false,false,false,false,false,false,true,true,false,false,true] [(0,7),(1,7),(2,7),(3,7),(4,7),(0,8)] (by simp[All2,ap,aF]) (by decide) ?_;rintro p hp x y hx hy;simp only[List.mem_cons,List.not_mem_nil,or_false] at hp;have ro1:=hB.own.refs_lt;rcases hp with rfl | rfl | rfl | rfl | rfl | rfl<;>(simp at hx hy;subst hx;subst hy;refine dI rfl rfl rfl rfl ?_ ?_ ?_<;>simp[ap,aF,je hB.ry]<;>first | omega | (intro i' hi';have:=ro1 i' hi';omega) | (intro i' hi';rcases lga i' hi' with h | h<;>first | omega | simp at h) | skip)
 have hnd:NdOk (K+1) (ups V (J+1,0) v1) (ups (ups E (J+1,0) (.sl 1 (x.parents.map ci++[[.int .i64 bx.2.2.2]]))) (0,0) (.sl 3 (rows.set J [.int .i64 x.card,v1,V (J+1,1)]))) J ⟨x.card,x.parents++[bx.2.2.2],x.rows⟩:=by
  obtain ⟨rws,q1,q2,q3⟩:=hB.nd.rs;exact ⟨by rw[ac _ _ (by simp<;>omega),an];simp[ci],⟨rws,by rw[ac _ _ (by simp<;>omega),ac _ _ (by simp<;>omega)];exact q1,q2,λr y hy=>by rw[ac _ _ (by simp<;>omega)];exact q3 r y hy⟩,
   λr y hy=>by rw[ac _ _ (by simp<;>omega),ac _ _ (by simp<;>omega)];exact hB.nd.rr r y hy,by simp;omega,by show x.rows.length<=K+1;omega,λy hy=>by have:=hlen.2.2 y hy;omega⟩
 have hrd:=hnd.rd hHb (λq hq=>LS.s hS.hx hq) (by omega);rw[jz,an,ac _ _ (by simp<;>omega)] at hrd;obtain ⟨nds,hn⟩:=tA hHb (λk hk=>hk) hB.oth.v.e.z (an _ _ _) e00 hrd (by omega) (by omega);have g1e:gb.h.get 1=.cells 2 [[.int .i64 gr,V (0,0)]] 0 false false:=by rw[frb 1 (by omega)];(try simp);rw[fra 1 (by omega),if_neg (by omega),hS.f1]
 have g2e:gb.h.get 2=.cells 2 [[.int .i64 0,.nils]] 0 false false:=by rw[frb 2 (by omega)];(try simp);rw[fra 2 (by omega),if_neg (by omega),hS.f2]
 exact fin _ _ gr _ nds (by simp[sx,h3]) (by simp[sx,h4]) (by simpa using g1e) (by simpa using g2e) (hn.heap (by simp))
theorem bc3 (hS:BS K J L x bx gr Rw t g V E)(fin:tV Q) :
  wp C0 d none (.ops [oM 137 10,o 138 (.nilc (.t 137)),oF 139 1 138,oz (.store 1 (.t 139) (.k (.nils)))]) Q t [] g:=by
 obtain ⟨h2,h3,h4,h10,h11,-⟩:=hS.st;obtain ⟨rows,hB⟩:=hS.bt;have hK:=hS.hK;have hl:=hS.hl;simp only[sz,simprocAttr,h10,bo hB.ry,bu hB.ry];refine hS.hp.put LS.z (row':=[.int .i64 x.card,.nils,V (J+1,1)]) hB.e0 hB.row rfl rfl rfl λgb hHb nb frb _=>?_;simp only[sx];have hnd:=hB.nd.congr (V':=V) (E':=ups E (0,0) (.sl 3 (rows.set J [.int .i64 x.card,.nils,V (J+1,1)]))) (λ_=>rfl) (λq=>ac _ _ (by simp<;>omega));have hrd:Rp.rp P3 0 gb.h (⟨x.card,[],x.rows⟩:Node) [.int .i64 x.card,.nils,V (J+1,1)]:=bI.2 ⟨_,_,rfl,⟨by show 0<9223372036854775808;decide,rfl⟩,hnd.rows hHb (λq hq=>LS.s hS.hx hq) (by omega)⟩;obtain ⟨nds,hn⟩:=tA hHb (λk hk=>hk) hB.oth.z (an _ _ _) rfl hrd (by omega) (by omega);exact fin _ _ gr _ nds (by simp[sx,h3]) (by simp[sx,h4]) (by rw[frb 1 (by omega),hS.f1]) (by rw[frb 2 (by omega),hS.f2]) hn
end
end
end Hx
end
