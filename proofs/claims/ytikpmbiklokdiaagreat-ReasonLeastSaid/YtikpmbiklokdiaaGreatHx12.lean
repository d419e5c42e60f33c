/- A part of the proof: what the functions of the chapter compute. -/
import Derived.Test.YtikpmbiklokdiaaGreatHx11
set_option linter.all false
set_option maxRecDepth 20000
set_option maxHeartbeats 8000000
namespace Hx
open Go
noncomputable section
variable {g:G}{d q n k s ks a v i j vn kk f kn:Nat}{K KP:AV->G->Prop}{b ev r5 w wv:AV}{t:T}{gr bn bd value:Int}{e pl l:List Int}{Q:QT}{D:ADf->Prop}{r0:List AV}{rows:List (List AV)}{x:Bool}
structure DAok (D:ND) (n i:Nat) (num:Nat->Nat):Prop where
 e:∀v,v<n->D.P v=[]/\D.m v=0
 c:∀k,k<i->D.c (num k)=2\/D.c (num k)=3
 o:∀u,D.o u=0
def LDA(n q:Nat)(r5:AV):List (Nat×AV):=[(1,X9 0),(2,X9 1),(3,X8 (n:Int)),(4,X9 q),(5,r5)]
structure DA (r0:List AV) (n q:Nat) (gr:Int) (r5:AV) (num:Nat->Nat) (i:Nat) (t:T) (g:G):Prop where
 st:St t (LDA n q r5)
 w:∃w:Nat,tat t 6=X8 (w:Int)/\w<=3 ^ i
 hd:∃V E D,DN X1 r0 n q 1000 gr V E D g/\DAok D n i num
theorem Ss(h:i<=5):3 ^ i<=243:=by
 have:i=0\/i=1\/i=2\/i=3\/i=4\/i=5:=by omega
 rcases this with rfl|rfl|rfl|rfl|rfl|rfl<;>decide
theorem Rj[XOc]{x:ve}{a:AV}{num:Nat->Nat}(hn:1<=n/\n<=5)(ha:SlR NoP kk .nil x.2.1 a)(h5:IT 0 pl r5)(hN:Num n pl num)
  (h0:DA [u8v x.1,a,b] n q gr r5 num 0 t g) (h7:tat t 7=X8 0)
  (fin:∀t g,DA [u8v x.1,a,b] n q gr r5 num n t g->Q (.exit 0) t [] g):wpL (wp C0 d none fZ) Q t [] g:=by
 obtain⟨pr,O,r2,r3,r4⟩:=ha.all;have O:∀h',ah h' 3 a=some pr:=O;have la:=ha.len;have hc:=ha.1;have R:∀h,ah h 1 r5=some (pl.map ci):=λh=>(h5.sl h).ints;simp only[fZ,lz];refine im n (by omega) (λj t df g=>df=[]/\DA [u8v x.1,a,b] n q gr r5 num j t g) ⟨rfl,h0⟩ h7 (by decide) ?_ ?_ ?_ ?_
 ·rintro j t df g v s (rfl|rfl|rfl) ⟨a1,⟨b1,b2,W,X,Y,-⟩,⟨w,c1,Z⟩,c3⟩<;>exact⟨a1,by simp[St,LDA,sx,b1,b2,W,X,Y],⟨w,by simp[sx,c1],Z⟩,c3⟩
 ·rintro j t df g M ⟨rfl,⟨h1,h2,f,h4,h5,-⟩,⟨w,l,hw⟩,I⟩ h7;simp only[sz,simprocAttr,h7,f];exact⟨by simp[St,LDA,sx,h1,h2,f,h4,h5],⟨w,by simp[sx,l],hw⟩,I⟩
 ·rintro j t df g M ⟨rfl,⟨h1,h2,f,h4,h5,-⟩,⟨w,l,hw⟩,V,E,D,I,B⟩ h7;obtain⟨u,F⟩:∃u,u=g.nx:=⟨_,rfl⟩;have he:=I.hp.nx;refine i8 (P:=λt' df g'=>df=[]/\g'=g.new (Xs 3 [[.int .u8 0,.int .u8 0,.nils]])/\St t' ((6,X8 (w:Int))::(7,X8 (j:Int))::(8,X9 u)::LDA n q r5)) ?_ ?_
  ·simp only[sz,simprocAttr];simp[St,LDA,sx,h1,h2,f,h4,h5,l,h7,F]
  clear h1 h2 f h4 h5 l h7;rintro t df g1 ⟨rfl,r,⟨l,h7,h8,h1,h2,f,h4,h5,-⟩⟩;have f1:Fr g g1:=by rw[r];exact Fr.new _ _
  have L:g1.h.get u=Xs 3 [[.int .u8 0,.int .u8 0,.nils]]:=by rw[r,F];simp[SD]
  have n1:u<g1.nx:=by rw[r,F];simp
  clear r;have J:=I.same f1;have e0:=J.h0;refine i8 (P:=λt' df g'=>df=[]/\Fr g g'/\St t' ((6,X8 (w:Int))::(7,X8 (j:Int))::(8,X9 u)::LDA n q r5)/\u<g'.nx/\∃(y:UInt8) (z1 z2:AV),g'.h.get u=Xs 3 [[u8v y,z1,z2]]) ?_ ?_
  ·simp only[sz,simprocAttr,h7,h1,e0,la];refine ij (λhb=>?_) (λhb=>?_)
   ·have hb:j<x.2.1.length:=by simpa using hb
    obtain⟨y,hy,-,-⟩:=ay hb;obtain⟨row,q1,q2⟩:=r3 j y hy;obtain⟨wv,rfl,hg⟩:=C_.1 q2;have hlt:j<pr.length:=by omega
    have K:=r4 (by omega);simp only[sz,simprocAttr,h7,h1,e0,O,hlt,q1,h8,L];refine⟨?_,by simp[St,LDA,sx,h1,h2,f,h4,h5,l,h7,h8],by simpa using n1,y.1,u8v y.2.1,wv,by simp[SD]⟩;exact⟨Uy f1.1 (by simp),λi hi=>by simp[SD,show ¬i=u by omega];exact f1.2 i hi⟩
   ·simp only[sx,sy];exact⟨f1,by simp[St,LDA,sx,h1,h2,f,h4,h5,l,h7,h8],n1,0,.int .u8 0,.nils,L⟩
  clear h1 h2 f h4 h5 l h7 h8 e0 J L n1 f1;rintro t df g2 ⟨rfl,f2,⟨l,h7,h8,h1,h2,f,h4,h5,-⟩,n2,y,z1,z2,L⟩;have p:=I.same f2;have q2:=iX .u8 (a:=(y.toNat:Int)) (b:=2) (by omega) (by omega);obtain⟨m,hm⟩:∃m:Nat,(y.toNat:Int) % 2=(m:Int):=Ur (Int.emod_nonneg _ (by decide));have hd:m<2:=by have:=Xh (y.toNat:Int) (show (0:Int)<2 by decide);omega
  rw[hm]at q2;have w2:IntKind.wrap .i64 (m:Int)=(m:Int):=aE (by omega) (by omega);have U:IntKind.wrap .i64 (2+(m:Int))=((2+m:Nat):Int):=by rw[aE (by omega) (by omega)];rfl
  have hf:=Ss (i:=j) (by omega);have H:w*(2+m)<=243*3:=Wq (by omega) (by omega);have N:IntKind.wrap .i64 ((w:Int)*((2+m:Nat):Int))=((w*(2+m):Nat):Int):=by rw[<-Vn,aE (by omega) (by omega)]
  have w5:IntKind.wrap .i64 ((n:Int) - 1)=((n - 1:Nat):Int):=by rw[aE (by omega) (by omega)];omega
  have w6:IntKind.wrap .i64 (((n - 1:Nat):Int) - (j:Int))=((n - 1 - j:Nat):Int):=by rw[aE (by omega) (by omega)];omega
  have w7:IntKind.wrap .u64 ((n - 1 - j:Nat):Int)=((n - 1 - j:Nat):Int):=dR (by omega) (by omega);obtain⟨z,hz⟩:=PQ (w*(2+m)) (n - 1 - j);refine i8 (P:=λt' df g'=>df=[]/\g'=g2/\St t' ((6,X8 (w:Int))::(7,X8 (j:Int))::(9,X8 ((2+m:Nat):Int))::LDA n q r5)) ?_ ?_
  ·simp only[sz,simprocAttr,h8,L,u8v,q2,w2,U];simp[St,LDA,sx,h1,h2,f,h4,h5,l,h7]
  clear h1 h2 f h4 h5 l h7 h8;rintro t df g3 ⟨rfl,rfl,⟨l,h7,h9,h1,h2,f,h4,h5,-⟩⟩;refine i8 (P:=λt' df g'=>df=[]/\g'=g3/\∃C:Nat,(C=2\/C=3)/\St t' ((6,X8 (w:Int))::(7,X8 (j:Int))::(9,X8 (C:Int))::LDA n q r5)) ?_ ?_
  ·simp only[sz,simprocAttr,l,h7,h9,f,N,w5,w6,w7,hz];refine ij (λhb=>?_) (λhb=>?_)
   ·simp only[sz,simprocAttr];refine⟨2,.inl rfl,?_⟩;simp[St,LDA,sx,h1,h2,f,h4,h5,l,h7]
   ·simp only[sx,sy];refine⟨2+m,by omega,?_⟩;simp[St,LDA,sx,h1,h2,f,h4,h5,l,h7,h9]
  clear h1 h2 f h4 h5 l h7 h9 H N hz U;rintro t df g4 ⟨rfl,rfl,C,hC,⟨l,h7,h9,h1,h2,f,h4,h5,-⟩⟩;have H:w*C<=3 ^ j*3:=Wq hw (by omega);have S:w*C<=243*3:=Wq (by omega) (by omega);have N:IntKind.wrap .i64 ((w:Int)*(C:Int))=((w*C:Nat):Int):=by rw[<-Vn,aE (by omega) (by omega)]
  refine i8 (P:=λt' df g'=>df=[]/\g'=g4/\St t' ((6,X8 ((w*C:Nat):Int))::(7,X8 (j:Int))::(9,X8 (C:Int))::LDA n q r5)) ?_ ?_
  ·simp only[sz,simprocAttr,l,h9,N];simp[St,LDA,sx,h1,h2,f,h4,h5,h7,h9]
  clear h1 h2 f h4 h5 l h7 h9;rintro t df g5 ⟨rfl,rfl,⟨l,h7,h9,h1,h2,f,h4,h5,-⟩⟩;obtain⟨kq,hh,hl⟩:=p.q rfl;have rns:=p.ns.rows;have K:=wZ p.ns (by simp;omega);have A:=hN.lt j M;have u1:j<(pl.map ci).length:=by rw[UK,hN.len];exact M
  have u2:(pl.map ci)[j]?=some (ci (num j:Int)):=by rw[Uo,hN.at_ j M];rfl
  have u3:num j<((List.range n).map (gQ D V)).length:=by simpa using A
  have u4:=hZ (gQ D V) A;simp only[sz,simprocAttr,sf,h4,kq,h5,h7,h9,R,u1,u2,rns,u3,K,ci];refine (p.same (g':=_) ⟨?_,?_⟩).card (i:=num j) (c:=(C:Int)) A (λk hk=>by rw[hk];simp) λg6 E' hD6 n6=>?_
  ·simp;omega
  ·intro i hi;simp
  simp only[sx,sy,↓reduceIte,Nat.reduceEqDiff];refine⟨?_,⟨by simp[St,LDA,sx,h1,h2,f,h4,h5],⟨w*C,by simp[sx,l],by rw[Nat.pow_succ];exact H⟩,V,E',_,hD6.same ⟨by simp,λi _=>by simp⟩,B.e,λk hk=>?_,B.o⟩,by simp[h7]⟩
  ·simp only[UQ,UP,UM,UE];exact bf (false::(XI (true::[]))) [] (by simp[All2,am,aA]) (by decide) (by simp)
  ·by_cases e:num k=num j
   ·simp[e,aJ];omega
   ·show ups D.c (num j) (C:Int) (num k)=2\/ups D.c (num j) (C:Int) (num k)=3;rw[ap _ _ e];refine B.c k ?_;have:k≠j:=λh=>e (by rw[h]);omega
 ·rintro t df g ⟨rfl,h⟩;exact fin t g h
theorem EU{g:G}{b:Nat}{v x:AV}{sz bytes:Nat}{new:List (List AV)}(hv:Own g b v sz rows)(hx:ah g.h sz x=some new)(hb:b<=g.nx)
  (hr:(rows.length+new.length)*bytes<=bz)
  (k:∀v' g',Own g' b v' sz (rows++new)->g.nx<=g'.nx->(∀i,i<g.nx->vid v≠some i->g'.h.get i=g.h.get i)->(vid v'=vid v\/∃i,vid v'=some i/\g.nx<=i)->(∀i∈g'.lg,i∈g.lg\/vid v=some i\/g.nx<=i)->K v' g') :
  (eS sz bytes v x g).sat K g D:=by
 unfold eS;rw[hx];dsimp only;rcases hv with⟨rfl,rfl⟩|⟨id,ep,lo,h1,h2,rfl,a⟩
 ·cases new with
  |nil=>exact k _ _ (.inl ⟨rfl,rfl⟩) (Ui _) (λ_ _ _=>rfl) (.inl rfl) (λi hi=>.inl hi)
  | cons r new =>
   simp only[bA,aq,aa,UR];rw[Un (by simpa using hr)];refine k _ _ (.inr ⟨g.nx,0,true,hb,by simp,rfl,by simp[bg]⟩) (by simp) (λi hi _=>?_) (.inr ⟨g.nx,rfl,Ui _⟩) (λi hi=>by simp at hi;rcases hi with rfl|hi;exact .inr (.inr (Ui _));exact .inl hi);rw[G.new_h,aL _ _ _ (by omega)]
 ·simp only[bA,G.get_eq,a,aq,aa,show Nat.beq ep ep=true from UT ep,show Nat.beq sz sz=true from UT sz,Vd,UR,Uk,UU,WS,WJ];rw[Un ⟨Ui _,hr⟩];cases new with
  | nil =>
   rw[Un (by simp)];refine k _ _ (.inr ⟨id,ep,lo,h1,h2,by simp,by simpa using a⟩) (Ui _) (λ_ _ _=>rfl) (.inl rfl) (λi hi=>.inl hi)
  | cons r new =>
   rw[Um (by simp)];have ht:jB rows.length (iA 0 rows)=rows:=by rw[bk,bh];simp
   cases lo with
   | false =>
    rw[Un (by simp)];refine k _ _ (.inr ⟨g.nx,0,true,by omega,by simp,by simp,by simp[bg,ht]⟩) (by simp) (λi hi _=>?_) (.inr ⟨g.nx,rfl,Ui _⟩) (λi hi=>by simp at hi;rcases hi with rfl|hi;exact .inr (.inr (Ui _));exact .inl hi);rw[G.new_h,aL _ _ _ (by omega)]
   | true =>
    rw[Um (by simp)];refine k _ _ (.inr ⟨id,ep+1,true,h1,by simpa using h2,by simp,by simp[bg,ht]⟩) (by simp) (λi hi hne=>?_) (.inl rfl) (λi hi=>by simp at hi;rcases hi with rfl|hi;exact .inr (.inl rfl);exact .inl hi);rw[G.put_h,aL _ _ _ (λe=>hne (by rw[e];rfl))]
section
variable {κ:Type} [DecidableEq κ]{g:G}{b:Nat}{L:κ->Prop}{V:κ->AV}{E:κ->En}{k:κ}
theorem Hp.app2(h:Hp g b L V E)(hk:L k){sz bytes:Nat}{new:List (List AV)}(he:E k=.sl sz rows){x:AV}(hx:ah g.h sz x=some new)
  (hr:(rows.length+new.length)*bytes<=bz)
  (kk:∀v' g',Hp g' b L (ups V k v') (ups E k (.sl sz (rows++new)))->g.nx<=g'.nx->(∀i,i<b->g'.h.get i=g.h.get i)->(∀i,i<g.nx->eid (V k)≠some i->g'.h.get i=g.h.get i)->(∀i∈g'.lg,i∈g.lg\/eid (V k)=some i\/g.nx<=i)->v'.cells=[v']->v'.isTup=false->K v' g') :
  (eS sz bytes (V k) x g).sat K g D:=by
 have ho:=h.own hk he;refine EU ho hx h.nx hr λv' g' hv' hn hf hvid hlg=>?_;refine kk v' g' (h.set hk (e':=.sl sz (rows++new)) hv' hn (λi _ hi hne=>hf i hi (by rw[<-jb ho];exact hne)) ?_) hn (λi hi=>hf i (UI hi h.nx) λe=>by have:=(ho.lt e).1;omega)
  (λi hi hne=>hf i hi (by rw[<-jb ho];exact hne)) (λi hi=>by rw[jb ho];exact hlg i hi) hv'.cell.1 hv'.cell.2
 rw[jb hv',jb ho];exact hvid
theorem Hp.putv(h:Hp g b L V E)(hk:L k){v0:AV}(hv:V k=v0){sz off:Nat}{row row':List AV}(he:E k=.sl sz rows){x:AV}(hr:rows[i]?=some row)
  (hl:x.cells.length=n) (ht:x.isTup=false) (hp:cH row off x.cells=some row')
  (kk:∀g',Hp g' b L V (ups E k (.sl sz (rows.set i row')))->g'.nx=g.nx->(∀i,i<b->g'.h.get i=g.h.get i)->(∀i,eid (V k)≠some i->g'.h.get i=g.h.get i)->K .undef g'):(nO n (nZ sz v0 i off) x g).sat K g D:=by
 subst hv;exact h.put hk he hr hl ht hp kk
end
theorem Cn(m n:Nat):∃z:Nat,bB .shr (.int .u8 (m:Int)) (X_ (n:Int))=.val (.int .u8 (z:Int)) :=
 ⟨m / 2 ^ (Nat.min n 8),rfl⟩
theorem Cm(m n:Nat):∃z:Int,bB .and (.int .u8 (m:Int)) (.int .u8 (n:Int))=.val (.int .u8 z):=by have:∃z:Int,Op.intBits .and .u8 (.ofNat m) (.ofNat n)=.pure (.int .u8 z):=⟨_,rfl⟩;obtain⟨z,hz⟩:=this;refine⟨z,?_⟩;show orV (tS (Op.intBits .and .u8 (.ofNat m) (.ofNat n)))=_;rw[hz];rfl
structure DB (D:ND) (n i v:Nat) (num:Nat->Nat):Prop where
 c:∀u,u<n->D.c u=2\/D.c u=3
 p:∀u,u<n->(D.P u).length<=3/\∀y∈D.P u,0<=y/\y<n
 m:∀u,u<n->D.m u<=64
 o:∀u,D.o u=0
 f:∀k,i<k->k<n->D.P (num k)=[]/\D.m (num k)=0
def S.Ts(P0:List Int)(c0:Nat->Int):Int:=S.Sz (P0.map λy=>c0 y.toNat)
structure DOk (gr:Int) (D:ND) (n i:Nat) (num:Nat->Nat):Prop where
 s:∀u,u<n->(D.P u).Pairwise (·<·)
 a:∀k,k<n->∀y∈D.P (num k),∃k',k'<k/\y=(num k':Int)
 w:∀k,k<i->(D.m (num k):Int)=S.Ts (D.P (num k)) D.c
 r:∀u r,u<n->r<D.m u->OH gr (D.c u) (D.R u r)
def LDB(n q i p v:Nat)(r5:AV):List (Nat×AV):=[(1,X9 0),(2,X9 1),(3,X8 (n:Int)),(4,X9 q),(5,r5),(10,X8 (i:Int)),(11,X9 p),(12,X8 (v:Int))]
structure DP (r0 prow:List AV) (n q i p v:Nat) (gr:Int) (r5:AV) (num:Nat->Nat) (g:G) (V:Ky->AV) (E:Ky->En) (D:ND):Prop where
 dn:DN X2 r0 n q 1000 gr V E D g
 pb:V (0,2)=X9 p/\E (0,2)=.bx prow
 db:DB D n i v num
 mv:D.m v=0
 ok:DOk gr D n i num
theorem DP.p{r0 prow:List AV}{n q i p v:Nat}{gr:Int}{r5:AV}{num:Nat->Nat}{g:G}{V:Ky->AV}{E:Ky->En}{D:ND}(h:DP r0 prow n q i p v gr r5 num g V E D):g.h.get p=Xs prow.length [prow]/\2<=p/\p<g.nx:=by obtain⟨id,h1,h2,a,h4⟩:=h.dn.hp.box (k:=(0,2)) (.inr (.inr rfl)) h.pb.2;rw[h.pb.1]at a;injection a with a;subst a;exact⟨h4,h1,h2⟩
theorem D_{X:Ky->Prop}{D:ND}{V:Ky->AV}{E:Ky->En}{g:G}(h:Hp g 2 (LNX X n D) V E){j k:Ky}(hj:LNX X n D j)(hk:LNX X n D k)(hne:j≠k){id:Nat}(he:eid (V j)=some id):eid (V k)≠some id:=h.sep j k hj hk hne id he
def A_:SC:=.feet [0,1,0,0,8,0,56,120,248,0,512,2040,4095,8191,16383] [oF 131 1 4,oL 132 131,oM 133 12,oF 134 1 4,oL 135 134,oM 136 12,XB 137 3 135 136,oF 138 1 137,oL 139 138,oM 140 13,XY 141 140,XR 142 1 8 139 141,XB 143 3 132 133,oF 144 1 143,Xx 1 144 142]
theorem Pr[XOc]{p u:Nat}{prow:List AV}{num:Nat->Nat}{g:G}{V:Ky->AV}{E:Ky->En}{D:ND}{rest:List (Nat×AV)}(hn:1<=n/\n<=5)(hv:v<n)(hvi:∀k,i<k->k<n->num k≠v)(hu:u<n)(hvl:∀k,k<i->num k≠v)(hua:∃k',k'<i/\u=num k')(hlt:∀y∈D.P v,y<(u:Int))
  (h4:tat t 4=X9 q) (h12:tat t 12=X8 (v:Int)) (h13:tat t 13=X8 (u:Int)) (hP:DP r0 prow n q i p v gr r5 num g V E D) (hl:(D.P v).length<3)
  (fin:∀t' g' V' E' D',(∀s,(s<131\/144<s)->tat t' s=tat t s)->D'.P v=D.P v++[(u:Int)]->DP r0 prow n q i p v gr r5 num g' V' E' D'->Q .norm t' [] g') :
  wp C0 d none A_ Q t [] g:=by
 have l:=hP.dn;obtain⟨kq,U,W⟩:=l.q (.inl rfl);unfold A_;have rns:=l.ns.rows;have K:=wZ l.ns (by simp;omega);have u3:v<((List.range n).map (gQ D V)).length:=by simpa using hv
 have N:=hZ (gQ D V) hv;have M:=l.bn.ps v hv;have R:=l.hp.nx;simp only[sz,simprocAttr,sf,h4,h12,h13,kq,rns,u3,N,K,gQ];refine (l.hp.step (g':=_) ?_ ?_).app2 (k:=(v+1,0)) (.inl (LN.p hv)) M.1 (new:=[ci (u:Int)]) (by simp[sx,sy,ci]) (by unfold bz;simp;omega) λv1 g1 hH1 n1 fb1 fo1 lg1 vc vt=>?_
 ·simp;omega
 ·intro i _ hi;simp[SD];omega
 simp only[sx,sy]at n1 fb1 fo1 lg1;have H:ups V (v+1,0) v1 (0,0)=V (0,0):=ap _ _ (by simp);have C:ups E (v+1,0) (.sl 1 ((D.P v).map ci++[ci (u:Int)])) (0,0)=.sl 3 ((List.range n).map (gQ D V)):=by rw[ap _ _ (by simp)];exact l.bn.ns
 have rns1:ah g1.h 3 (V (0,0))=some ((List.range n).map (gQ D V)):=by rw[<-H];exact (hH1.own (k:=(0,0)) (.inl LN.z) C).rows
 have X:((List.range n).map (gQ D V))[v]?=some [X8 (D.c v),V (v+1,0),V (v+1,1)]:=N;simp only[sz,simprocAttr,sf,rns1,u3,K];refine (hH1.same (g':=_) ?_ ?_).putv (k:=(0,0)) (.inl LN.z) H (row':=[X8 (D.c v),v1,V (v+1,1)]) C N (by rw[vc];rfl) vt (by rw[vc];rfl) λg2 hH2 n2 fb2 fo2=>?_
 ·simp
 ·simp;omega
 simp only[sy];refine⟨?_,?_⟩
 ·simp only[UQ,UP,UM,UE];refine bf (XK (XI (true::(true::(XK (true::[])))))) [(0,10),(1,10),(2,10),(3,10),(4,10),(5,10),(6,10),(7,10),(8,10),(0,11),(1,11),(2,11)] (by simp[All2,am,aA]) (by decide) ?_;have I:∀i∈g1.lg,i≠q:=λi hi e=>by
   rcases lg1 i hi with h|h|h
   ·simp at h
   ·exact D_ l.hp (.inl (LN.p hv)) (.inr (.inl rfl)) (by simp) h (by rw[l.vb,e];rfl)
   ·omega
  obtain⟨id0,ep0,O,L⟩:∃id ep,id<g.nx/\V (0,0)=.hsl id ep 0 ((List.range n).map (gQ D V)).length none:=by
   rcases l.ns with⟨h,e⟩|⟨id,ep,lo,-,h1,h2,-⟩
   ·have:=congrArg List.length e;simp at this;omega
   ·exact⟨id,ep,h1,h2⟩
  have F:∀i∈g1.lg,i≠id0:=λi hi e=>by
   rcases lg1 i hi with h|h|h
   ·simp at h
   ·exact D_ l.hp (.inl (LN.p hv)) (.inl LN.z) (by simp) h (by rw[L,e];rfl)
   ·omega
  rintro p J x y hx B;simp only[UW,Uu,WK]at J;rcases J with rfl|rfl|rfl|rfl|rfl|rfl|rfl|rfl|rfl|rfl|rfl|rfl<;>(simp at hx B;subst hx;subst B;refine fP rfl rfl rfl rfl ?_ ?_ ?_<;>simp[am,aA,af,L,nZ]<;>first|omega|exact I|exact F|exact λi hi e=>I i hi e.symm|exact λi hi e=>F i hi e.symm)
 refine fin _ _ (ups V (v+1,0) v1) _ { D with P:=ups D.P v (D.P v++[(u:Int)]) } (λs hs=>?_) (aJ _ _ _) ⟨⟨(hH2.same (g':=_) (by simp) (by simp)).sub λk hk=>hk,⟨?_,λj hj=>?_,λj hj=>?_,λj r hj hr=>?_⟩,?_,?_,?_,?_⟩,⟨?_,?_⟩,⟨hP.db.c,λw hw=>?_,hP.db.m,hP.db.o,λk hk hkn=>?_⟩,hP.mv,?_⟩
 ·simp only[fy]
  repeat rw[Um (by omega)]
 ·rw[aJ,po _ _ hv];congr 1;refine A4 (by simp[gQ,aJ,ap]) λj hj hne=>by simp[gQ,ap,hne]
 ·by_cases e:j=v
  ·subst e;rw[ap _ _ (by simp),aJ];show En.sl 1 _=En.sl 1 ((ups D.P j (D.P j++[(u:Int)]) j).map ci)/\(ups D.P j (D.P j++[(u:Int)]) j).length<=1000;rw[aJ];exact⟨by simp,by simp;omega⟩
  ·rw[ap _ _ (by simp),ap _ _ (by simp[e])];show E (j+1,0)=En.sl 1 ((ups D.P v (D.P v++[(u:Int)]) j).map ci)/\(ups D.P v (D.P v++[(u:Int)]) j).length<=1000;rw[ap _ _ e];exact l.bn.ps j hj
 ·rw[ap _ _ (by simp),ap _ _ (by simp)];have:=l.bn.rs j hj;refine⟨?_,this.2⟩;rw[this.1];congr 1;exact Vr λr _=>by simp[H3,ap]
 ·rw[ap _ _ (by simp),ap _ _ (by simp),ap _ _ (by simp)];exact l.bn.rr j r hj hr
 ·rw[ap _ _ (by simp)];exact l.vb
 ·rw[ap _ _ (by simp),ap _ _ (by simp),ap _ _ (by simp)];exact l.bx
 ·simp only[bumpG_h];rw[fb2 0 (by omega)];simp;rw[fb1 0 (by omega),Um (by omega),l.h0]
 ·simp only[bumpG_h];rw[fb2 1 (by omega)];simp;rw[fb1 1 (by omega),Um (by omega),l.h1]
 ·rw[ap _ _ (by simp)];exact hP.pb.1
 ·rw[ap _ _ (by simp),ap _ _ (by simp)];exact hP.pb.2
 ·by_cases e:w=v
  ·subst e;show (ups D.P w (D.P w++[(u:Int)]) w).length<=3/\∀y∈ups D.P w (D.P w++[(u:Int)]) w,0<=y/\y<n;rw[aJ];refine⟨by simp;omega,λy B=>?_⟩;rcases UL.1 B with h|h
   ·exact (hP.db.p w hw).2 y h
   ·rw[Vc.1 h];omega
  ·show (ups D.P v (D.P v++[(u:Int)]) w).length<=3/\∀y∈ups D.P v (D.P v++[(u:Int)]) w,0<=y/\y<n;rw[ap _ _ e];exact hP.db.p w hw
 ·show ups D.P v (D.P v++[(u:Int)]) (num k)=[]/\D.m (num k)=0;rw[ap _ _ (hvi k hk hkn)];exact hP.db.f k hk hkn
 ·have A:=hP.ok;refine⟨λw hw=>?_,λk hk y B=>?_,λk hk=>?_,A.r⟩
  ·show (ups D.P v (D.P v++[(u:Int)]) w).Pairwise (·<·)
   by_cases e:w=v
   ·rw[e,aJ];rw[List.pairwise_append];exact⟨A.s v hv,List.pairwise_singleton _ _,λa ha b hb=>by rw[Vc.1 hb];exact hlt a ha⟩
   ·rw[ap _ _ e];exact A.s w hw
  ·have B:y∈ups D.P v (D.P v++[(u:Int)]) (num k):=B
   by_cases e:num k=v
   ·rw[e,aJ]at B;rcases UL.1 B with h|h
    ·rw[<-e]at h;exact A.a k hk y h
    ·obtain⟨k',h1,h2⟩:=hua;have:¬k<i:=λh=>hvl k h e;exact⟨k',by omega,by rw[Vc.1 h,h2]⟩
   ·rw[ap _ _ e]at B;exact A.a k hk y B
  ·show (D.m (num k):Int)=S.Ts (ups D.P v (D.P v++[(u:Int)]) (num k)) D.c;rw[ap _ _ (hvl k hk)];exact A.w k hk
structure DJ (r0 prow:List AV) (n q i p v u:Nat) (gr:Int) (r5:AV) (num:Nat->Nat) (j:Nat) (t:T) (g:G):Prop where
 st:St t ((13,X8 (u:Int))::LDB n q i p v r5)
 hd:∃V E D,DP r0 prow n q i p v gr r5 num g V E D/\(∀y∈D.P v,y<=(u:Int))/\((∃k,k<j/\num k=u)\/∀y∈D.P v,y<(u:Int))
theorem Rk[XOc]{p u:Nat}{y1 y2:UInt8}{num:Nat->Nat}(hn:1<=n/\n<=5)(h5:IT 0 pl r5)(hN:Num n pl num)(hi:i<n)(hv:v=num i)(hu:u<n)
  (h0:DJ r0 [u8v y1,u8v y2,wv] n q i p v u gr r5 num 0 t g) (h14:tat t 14=X8 0)
  (fin:∀t g,DJ r0 [u8v y1,u8v y2,wv] n q i p v u gr r5 num i t g->Q (.exit 6) t [] g):wpL (wp C0 d none f8) Q t [] g:=by
 have A:∀h,ah h 1 r5=some (pl.map ci):=λh=>(h5.sl h).ints;have o:v<n:=by rw[hv];exact hN.lt i hi
 have S:∀k,i<k->k<n->num k≠v:=λk h1 h2 e=>by have:=hN.inj k i h2 hi (by rw[e,hv]);omega
 have U:∀k,k<i->num k≠v:=λk h1 e=>by have:=hN.inj k i (by omega) hi (by rw[e,hv]);omega
 obtain⟨FR,H⟩:∃FR,FR=A_:=⟨_,rfl⟩;simp only[f8,lA];rw[show (SC.feet [0,1,0,0,8,0,56,120,248,0,512,2040,4095,8191,16383] [oF 131 1 4,oL 132 131,oM 133 12,oF 134 1 4,oL 135 134,oM 136 12,XB 137 3 135 136,oF 138 1 137,oL 139 138,oM 140 13,XY 141 140,XR 142 1 8 139 141,XB 143 3 132 133,oF 144 1 143,Xx 1 144 142])=FR from H.symm];refine im i (by omega) (λj t df g=>df=[]/\DJ r0 [u8v y1,u8v y2,wv] n q i p v u gr r5 num j t g) ⟨rfl,h0⟩ h14 (by decide) ?_ ?_ ?_ ?_
 ·rintro j t df g w s (rfl|rfl|rfl) ⟨a1,⟨b1,b2,Z,b4,b5,b6,b7,b8,b9,-⟩,c⟩<;>exact⟨a1,by simp[St,LDB,sx,b1,b2,Z,b4,b5,b6,b7,b8,b9],c⟩
 ·rintro j t df g X ⟨rfl,⟨a,h1,h2,F,h4,h5,l,b,f,-⟩,hD⟩ h14;simp only[sz,simprocAttr,h14,l];exact⟨by simp[St,LDB,sx,a,h1,h2,F,h4,h5,l,b,f],hD⟩
 ·rintro j t df g X ⟨rfl,⟨a,h1,h2,F,h4,h5,l,b,f,-⟩,V,E,D,x,z,I⟩ h14;obtain⟨kp,-,-⟩:=x.p;have kp:g.h.get p=Xs 3 [[u8v y1,u8v y2,wv]]:=kp;obtain⟨kq,h6,h7⟩:=x.dn.q (.inl rfl);have rns:=x.dn.ns.rows;have J:=wZ x.dn.ns (by simp;omega);have K:j<(pl.map ci).length:=by rw[UK,hN.len];omega
  have L:(pl.map ci)[j]?=some (ci (num j:Int)):=by rw[Uo,hN.at_ j (by omega)];rfl
  have u3:v<((List.range n).map (gQ D V)).length:=by simpa using o
  have Y:((List.range n).map (gQ D V))[v]?=some [X8 (D.c v),V (v+1,0),V (v+1,1)]:=hZ (gQ D V) o;have O:=x.dn.bn.ps v o;have B:∀g2:G,jC .slice (V (v+1,0)) g2=.val (X8 ((D.P v).length:Int)):=λg2=>by have:=(x.dn.hp.own (.inl (LN.p o)) O.1).rows;rw[mS this];simp
  have w1:IntKind.wrap .u64 (j:Int)=(j:Int):=dR (by omega) (by omega);obtain⟨z1,C⟩:=Cn y2.toNat j;obtain⟨z2,W⟩:=Cm z1 1;have m:(∃k,k<j+1/\num k=u)\/∀y∈D.P v,y<(u:Int):=by
   rcases I with⟨k,h1,h2⟩|h
   ·exact .inl ⟨k,by omega,h2⟩
   ·exact .inr h
  have r:bB .and (.int .u8 (z1:Int)) (.int .u8 1)=.val (.int .u8 z2):=W
  by_cases c1:(num j:Int)=(u:Int)
  ·by_cases c2:z2=1
   ·by_cases c3:((D.P v).length:Int)<3
    ·simp only[sz,simprocAttr,h14,h5,a,A,K,L,ci,c1,b,kp,u8v,w1,C,r,c2,h4,kq,f,rns,u3,Y,J,B,c3];rw[H];refine Pr (n:=n) (q:=q) (i:=i) (p:=p) (v:=v) (u:=u) (r5:=r5) (num:=num) hn o S hu U ⟨j,X,by omega⟩ ?_ ?_ ?_ ?_ x (by omega) (rest:=[]) ?_
     ·rcases I with⟨k,h1,h2⟩|h
      ·have:=hN.inj k j (by omega) (by omega) (by omega);omega
      ·exact h
     ·simp[sx,h4]
     ·simp[sx,f]
     ·simp[sx,a]
     intro t' g' V' E' D' R N M;simp only[sy];have hs:∀s,s<131->tat t' s=_:=λs h=>R s (.inl h);refine⟨⟨?_,V',E',D',M,λy hy=>?_,.inl ⟨j,by omega,by omega⟩⟩,?_⟩
     ·simp[St,LDB,hs,sx,a,h1,h2,F,h4,h5,l,b,f]
     ·rw[N]at hy;rcases UL.1 hy with h|h
      ·exact z y h
      ·rw[Vc.1 h];exact Int.le_refl _
     ·simp[hs,sx,h14]
    ·simp only[sz,simprocAttr,h14,h5,a,A,K,L,ci,c1,b,kp,u8v,w1,C,r,c2,h4,kq,f,rns,u3,Y,J,B,c3];exact⟨by simp[St,LDB,sx,a,h1,h2,F,h4,h5,l,b,f],V,E,D,x,z,m⟩
   ·simp only[sz,simprocAttr,h14,h5,a,A,K,L,ci,c1,b,kp,u8v,w1,C,r,c2];exact⟨by simp[St,LDB,sx,a,h1,h2,F,h4,h5,l,b,f],V,E,D,x,z,m⟩
  ·simp only[sz,simprocAttr,h14,h5,a,A,K,L,ci,c1];exact⟨by simp[St,LDB,sx,a,h1,h2,F,h4,h5,l,b,f],V,E,D,x,z,m⟩
 ·rintro t df g ⟨rfl,h⟩;exact fin t g h
structure DK (r0 prow:List AV) (n q i p v:Nat) (gr:Int) (r5:AV) (num:Nat->Nat) (j:Nat) (t:T) (g:G):Prop where
 st:St t (LDB n q i p v r5)
 hd:∃V E D,DP r0 prow n q i p v gr r5 num g V E D/\∀y∈D.P v,y<(j:Int)
theorem Rl[XOc]{p:Nat}{y1 y2:UInt8}{num:Nat->Nat}(hn:1<=n/\n<=5)(h5:IT 0 pl r5)(hN:Num n pl num)(hi:i<n)(hv:v=num i)
  (h0:DK r0 [u8v y1,u8v y2,wv] n q i p v gr r5 num 0 t g) (h13:tat t 13=X8 0)
  (fin:∀t g,DK r0 [u8v y1,u8v y2,wv] n q i p v gr r5 num n t g->Q (.exit 4) t [] g):wpL (wp C0 d none f_) Q t [] g:=by
 simp only[f_,lB];refine im n (by omega) (λj t df g=>df=[]/\DK r0 [u8v y1,u8v y2,wv] n q i p v gr r5 num j t g) ⟨rfl,h0⟩ h13 (by decide) ?_ ?_ ?_ ?_
 ·rintro j t df g w s (rfl|rfl|rfl) ⟨a1,⟨b1,b2,C,F,H,I,J,K,-⟩,c⟩<;>exact⟨a1,by simp[St,LDB,sx,b1,b2,C,F,H,I,J,K],c⟩
 ·rintro j t df g B ⟨rfl,⟨h1,h2,f,h4,h5,k,a,b,-⟩,m⟩ h13;simp only[sz,simprocAttr,h13,f];exact⟨by simp[St,LDB,sx,h1,h2,f,h4,h5,k,a,b],m⟩
 ·rintro j t df g B ⟨rfl,⟨h1,h2,f,h4,l,k,a,b,-⟩,V,E,D,m,hlt⟩ h13;simp only[sz,simprocAttr];refine Rk (u:=j) hn h5 hN hi hv B ⟨by simp[St,LDB,sx,h13,h1,h2,f,h4,l,k,a,b],V,E,D,m,λy hy=>Int.le_of_lt (hlt y hy),.inr hlt⟩ (by simp[sx]) ?_;rintro t2 g2 ⟨⟨A,L,k2,M,N,O,r,x,z,-⟩,V2,E2,D2,o,e,-⟩;simp only[sx,sy,↓reduceIte];exact⟨⟨by simp[St,LDB,L,k2,M,N,O,r,x,z],V2,E2,D2,o,λy hy=>by have:=e y hy;omega⟩,A⟩
 ·rintro t df g ⟨rfl,h⟩;exact fin t g h
def Bg:SC:=.feet [0,1,0,0,8,0,56,120,248,0,512,0,2048,0,14336,30720,63488,0,131072,0,0,1048576,0,7340032,15728640,32505856,66060288,133693440,268434944,536870400,1073741816,2147483647,4294967295,8589934591] [oF 153 1 4,oL 154 153,oM 155 12,oF 156 1 4,oL 157 156,oM 158 12,XB 159 3 157 158,oF 160 2 159,oL 161 160,oF 162 0 4,oL 163 162,oF 164 1 4,oL 165 164,oM 166 12,XB 167 3 165 166,oF 168 0 167,oL 169 168,oF 170 2 11,oL 171 170,oM 172 15,oF 173 1 4,oL 174 173,oM 175 12,XB 176 3 174 175,oF 177 0 176,oL 178 177,oA 179 178,Xt 180 .mul 172 179,XQ 181 32 163 169 171 180,XZ 182 181,XR 183 1 24 161 182,XB 184 3 154 155,oF 185 2 184,Xx 1 185 183]
structure DQ (r0 prow:List AV) (n q i p v j:Nat) (gr:Int) (r5:AV) (num:Nat->Nat) (P0:List Int) (c0:Nat->Int) (g:G) (V:Ky->AV) (E:Ky->En) (D:ND):Prop where
 dn:DN X2 r0 n q 1000 gr V E D g
 pb:V (0,2)=X9 p/\E (0,2)=.bx prow
 db:DB D n i v num
 mv:D.m v=j
 pv:D.P v=P0
 cv:D.c=c0
 ok:DOk gr D n i num
theorem DQ.p{r0 prow:List AV}{n q i p v j:Nat}{gr:Int}{r5:AV}{num:Nat->Nat}{P0:List Int}{c0:Nat->Int}{g:G}{V:Ky->AV}{E:Ky->En}{D:ND}(h:DQ r0 prow n q i p v j gr r5 num P0 c0 g V E D):g.h.get p=Xs prow.length [prow]/\2<=p/\p<g.nx:=by obtain⟨id,h1,h2,a,h4⟩:=h.dn.hp.box (k:=(0,2)) (.inr (.inr rfl)) h.pb.2;rw[h.pb.1]at a;injection a with a;subst a;exact⟨h4,h1,h2⟩
theorem Ps[XOc]{p:Nat}{y1 y2:UInt8}{W:List UInt8}{num:Nat->Nat}{P0:List Int}{c0:Nat->Int}{V:Ky->AV}{E:Ky->En}{D:ND}(hd:0<d)(hn:1<=n/\n<=5)(hv:v<n)(hvi:∀k,i<k->k<n->num k≠v)(hvl:∀k,k<i->num k≠v)(hj:j<64)(hgr:0<=gr/\gr<=60)(hwv:SlR NoP kk .nil W wv)
  (h4:tat t 4=X9 q) (h11:tat t 11=X9 p) (h12:tat t 12=X8 (v:Int)) (h15:tat t 15=X8 (j:Int)) (hP:DQ r0 [u8v y1,u8v y2,wv] n q i p v j gr r5 num P0 c0 g V E D)
  (fin:∀t' g' V' E' D',(∀s,(s<153\/185<s)->tat t' s=tat t s)->DQ r0 [u8v y1,u8v y2,wv] n q i p v (j+1) gr r5 num P0 c0 g' V' E' D'->Q .norm t' [] g') :
  wp C0 d none Bg Q t [] g:=by
 have A:=hP.dn;obtain⟨kq,ha,hb⟩:=A.q (.inl rfl);obtain⟨kp,-,h9⟩:=hP.p;have kp:g.h.get p=Xs 3 [[u8v y1,u8v y2,wv]]:=kp;unfold Bg;have rns:=A.ns.rows;have S:=wZ A.ns (by simp;omega);have u3:v<((List.range n).map (gQ D V)).length:=by simpa using hv
 have u4:=hZ (gQ D V) hv;have X:((List.range n).map (gQ D V))[v]?=some [X8 (D.c v),V (v+1,0),V (v+1,1)]:=u4;have h3:=A.bn.rs v hv;have h8:=A.hp.nx;obtain⟨C,hC,h6⟩:∃C:Nat,D.c v=(C:Int)/\(C=2\/C=3):=by
  rcases hP.db.c v hv with h|h
  ·exact⟨2,h,.inl rfl⟩
  ·exact⟨3,h,.inr rfl⟩
 have h7:j*(C+1)<=64*4:=Wq (by omega) (by omega);have w1:IntKind.wrap .i64 ((C:Int)+1)=((C+1:Nat):Int):=by rw[aE (by omega) (by omega)];rfl
 have w2:IntKind.wrap .i64 ((j:Int)*((C+1:Nat):Int))=((j*(C+1):Nat):Int):=by rw[<-Vn,aE (by omega) (by omega)]
 rw[hC]at X;simp only[sz,simprocAttr,sf,h4,h11,h12,h15,kq,kp,rns,u3,X,S,w1,w2,Ay];refine dE (RA (C:=C) (F:=j*(C+1)) (gr:=gr) (l:=W) hd (by omega) (by omega) hgr hwv) ?_;rintro r ⟨l,⟨hl,M⟩,_,e1,hr⟩;injection e1 with e1;subst e1;have O:=hr.cell;simp only[sz,simprocAttr,sf,O.1,O.2];refine (A.hp.step (g':=_) ?_ ?_).app2 (k:=(v+1,1)) (.inl (LN.r hv)) h3.1 (new:=[[r]]) (by simp[sx,sy]) (by unfold bz;simp;rw[hP.mv];omega) λv1 g1 H n1 fb1 fo1 lg1 vc vt=>?_
 ·simp;omega
 ·intro i _ hi;simp[SD];omega
 simp only[sx,sy]at n1 fb1 fo1 lg1;have Z:¬LNX X2 n D (v+1,2+j):=by
  rintro (h|h)
  ·rcases h with h|⟨i',q',h,-,hq⟩
   ·simp at h
   ·rw[hP.db.o]at hq;simp only[Prod.mk.injEq]at h;omega
  ·rcases h with h|h<;>simp at h
 have H:=H.off (x:=r) Z;have K:ups (ups V (v+1,1) v1) (v+1,2+j) r (0,0)=V (0,0):=by rw[ap _ _ (by simp),ap _ _ (by simp)]
 have I:ups E (v+1,1) (.sl 1 ((List.range (D.m v)).map (H3 V v)++[[r]])) (0,0)=.sl 3 ((List.range n).map (gQ D V)):=by rw[ap _ _ (by simp)];exact A.bn.ns
 have rns1:ah g1.h 3 (V (0,0))=some ((List.range n).map (gQ D V)):=by rw[<-K];exact (H.own (k:=(0,0)) (.inl LN.z) I).rows
 simp only[sz,simprocAttr,sf,rns1,u3,S];refine (H.same (g':=_) ?_ ?_).putv (k:=(0,0)) (.inl LN.z) K (row':=[X8 (C:Int),V (v+1,0),v1]) I u4 (by rw[vc];rfl) vt (by rw[vc,gQ,hC];rfl) λg2 hH2 n2 fb2 fo2=>?_
 ·simp
 ·simp;omega
 simp only[sy];refine⟨?_,?_⟩
 ·simp only[UQ,UP,UM,UE];refine bf (false::(XJ (XI (XI (XI (true::(true::(XK (true::[]))))))))) [(0,29),(1,29),(2,29),(3,29),(4,29),(5,29),(6,29),(7,29),(8,29),(0,30),(1,30),(2,30)] (by simp[All2,am,aA]) (by decide) ?_;have L:∀i∈g1.lg,i≠q:=λi hi e=>by
   rcases lg1 i hi with h|h|h
   ·simp at h
   ·exact D_ A.hp (.inl (LN.r hv)) (.inr (.inl rfl)) (by simp) h (by rw[A.vb,e];rfl)
   ·omega
  obtain⟨id0,ep0,h5,U⟩:∃id ep,id<g.nx/\V (0,0)=.hsl id ep 0 ((List.range n).map (gQ D V)).length none:=by
   rcases A.ns with⟨h,e⟩|⟨id,ep,lo,-,h1,h2,-⟩
   ·have:=congrArg List.length e;simp at this;omega
   ·exact⟨id,ep,h1,h2⟩
  have J:∀i∈g1.lg,i≠id0:=λi hi e=>by
   rcases lg1 i hi with h|h|h
   ·simp at h
   ·exact D_ A.hp (.inl (LN.r hv)) (.inl LN.z) (by simp) h (by rw[U,e];rfl)
   ·omega
  rintro p N x y hx hy;simp only[UW,Uu,WK]at N;rcases N with rfl|rfl|rfl|rfl|rfl|rfl|rfl|rfl|rfl|rfl|rfl|rfl<;>(simp at hx hy;subst hx;subst hy;refine fP rfl rfl rfl rfl ?_ ?_ ?_<;>simp[am,aA,af,U,nZ]<;>first|omega|exact L|exact J|exact λi hi e=>L i hi e.symm|exact λi hi e=>J i hi e.symm)
 have Y:=hP.mv;refine fin _ _ (ups (ups V (v+1,1) v1) (v+1,2+j) r) _ { D with m:=ups D.m v (j+1),R:=ups D.R v (ups (D.R v) j l) } (λs hs=>?_) ⟨⟨(hH2.same (g':=_) (by simp) (by simp)).sub λk hk=>hk,⟨?_,λu hu=>?_,λu hu=>?_,λu r' hu b=>?_⟩,?_,?_,?_,?_⟩,⟨?_,?_⟩,⟨hP.db.c,hP.db.p,λu hu=>?_,hP.db.o,λk hk hkn=>?_⟩,aJ _ _ _,hP.pv,hP.cv,?_⟩
 ·simp only[fy]
  repeat rw[Um (by omega)]
 ·rw[aJ,po _ _ hv];congr 1;refine A4 ?_ λj hj hne=>by simp[gQ,ap,hne]
  show _=[X8 (D.c v),ups (ups V (v+1,1) v1) (v+1,2+j) r (v+1,0),ups (ups V (v+1,1) v1) (v+1,2+j) r (v+1,1)];rw[hC,ap _ _ (by first| (simp;done)| (simp;omega)),ap _ _ (by first| (simp;done)| (simp;omega)),ap _ _ (by first| (simp;done)| (simp;omega)),aJ]
 ·rw[ap _ _ (by simp),ap _ _ (by simp)];exact A.bn.ps u hu
 ·by_cases e:u=v
  ·subst e;rw[ap _ _ (by simp),aJ];show En.sl 1 _=En.sl 1 ((List.range (ups D.m u (j+1) u)).map _)/\ups D.m u (j+1) u<=1000;rw[aJ];refine⟨?_,by omega⟩;rw[Y,WG,Wh];congr 2
   ·exact Vr λr' b=>by have:=Uw.1 b;simp[H3,ap,show ¬r'=j by omega,show ¬2+r'=1 by omega]
   ·simp[H3,aJ]
  ·rw[ap _ _ (by simp),ap _ _ (by simp[e])];show E (u+1,1)=En.sl 1 ((List.range (ups D.m v (j+1) u)).map _)/\ups D.m v (j+1) u<=1000;rw[ap _ _ e];have:=A.bn.rs u hu;refine⟨?_,this.2⟩;rw[this.1];congr 1;exact Vr λr' _=>by simp[H3,ap,e]
 ·by_cases e:u=v
  ·subst e;have b:r'<ups D.m u (j+1) u:=b;rw[aJ]at b;show (ups D.R u (ups (D.R u) j l) u r').length<=1000/\((r'<D.o u/\_=En.sl 1 ((ups D.R u (ups (D.R u) j l) u r').map ci))\/SlR NoP 0 .nil (ups D.R u (ups (D.R u) j l) u r') _);rw[aJ]
   by_cases e2:r'=j
   ·subst e2;rw[aJ,aJ];exact⟨by omega,.inr hr⟩
   ·rw[ap _ _ e2,ap _ _ (by first| (simp;done)| (simp;omega)),ap _ _ (by first| (simp;done)| (simp;omega)),ap _ _ (by simp[e2]),ap _ _ (by first| (simp;done)| (simp;omega))];exact A.bn.rr u r' hu (by omega)
  ·have b:r'<ups D.m v (j+1) u:=b;rw[ap _ _ e]at b;show (ups D.R v (ups (D.R v) j l) u r').length<=1000/\((r'<D.o u/\_=En.sl 1 ((ups D.R v (ups (D.R v) j l) u r').map ci))\/SlR NoP 0 .nil (ups D.R v (ups (D.R v) j l) u r') _);rw[ap _ _ e,ap _ _ (by first| (simp;done)| (simp;omega)),ap _ _ (by first| (simp;done)| (simp;omega)),ap _ _ (by simp[e]),ap _ _ (by simp[e])];exact A.bn.rr u r' hu b
 ·rw[ap _ _ (by simp),ap _ _ (by simp)];exact A.vb
 ·rw[ap _ _ (by simp),ap _ _ (by simp),ap _ _ (by simp),ap _ _ (by simp)];exact A.bx
 ·simp only[bumpG_h];rw[fb2 0 (by omega)];simp;rw[fb1 0 (by omega),Um (by omega),A.h0]
 ·simp only[bumpG_h];rw[fb2 1 (by omega)];simp;rw[fb1 1 (by omega),Um (by omega),A.h1]
 ·rw[ap _ _ (by simp),ap _ _ (by simp)];exact hP.pb.1
 ·rw[ap _ _ (by simp),ap _ _ (by simp)];exact hP.pb.2
 ·show ups D.m v (j+1) u<=64
  by_cases e:u=v
  ·rw[e,aJ];omega
  ·rw[ap _ _ e];exact hP.db.m u hu
 ·show D.P (num k)=[]/\ups D.m v (j+1) (num k)=0;rw[ap _ _ (hvi k hk hkn)];exact hP.db.f k hk hkn
 ·have B:=hP.ok;refine⟨B.s,B.a,λk hk=>?_,λu r' hu b=>?_⟩
  ·show ((ups D.m v (j+1) (num k):Nat):Int)=_;rw[ap _ _ (hvl k hk)];exact B.w k hk
  ·show OH gr (D.c u) (ups D.R v (ups (D.R v) j l) u r');have b:r'<ups D.m v (j+1) u:=b
   by_cases e:u=v
   ·rw[e,aJ]at b ⊢
    by_cases e2:r'=j
    ·rw[e2,aJ,hC];exact M
    ·rw[ap _ _ e2];exact B.r v r' hv (by omega)
   ·rw[ap _ _ e]at b ⊢;exact B.r u r' hu b
theorem Jl{D:ND}(hv:v<n)(hp:∀y∈D.P v,0<=y/\y<n):S.Sy (S.Sx ⟨gr,(List.range n).map D.node⟩) (D.P v)=(D.P v).map λy=>D.c y.toNat:=by
 unfold S.Sy S.Sx;refine Vr λy hy=>?_;have:=hp y hy;rw[WI];have h:y.toNat<n:=by omega
 simp[h,ND.node]
theorem A3{D:ND}(hv:v<n)(hc:∀u,u<n->D.c u=2\/D.c u=3)(hp:(D.P v).length<=3/\∀y∈D.P v,0<=y/\y<n):(∀c∈(D.P v).map λy=>D.c y.toNat,1<=c/\c<=4)/\1<=S.Ts (D.P v) D.c/\S.Ts (D.P v) D.c<=64:=by
 have h1:∀c∈(D.P v).map λy=>D.c y.toNat,1<=c/\c<=4:=λc h=>by obtain⟨y,k,rfl⟩:=U4.1 h;have:=hp.2 y k;have:=hc y.toNat (by omega);omega
 have h2:=du h1;have d:=gx (a:=((D.P v).map λy=>D.c y.toNat).length) (b:=3) (by simpa using hp.1);have h4:(4:Int) ^ 3=64:=by decide
 refine⟨h1,h2.1,?_⟩;unfold S.Ts;omega
structure DRw (r0 prow:List AV) (n q i p v j:Nat) (gr:Int) (r5:AV) (num:Nat->Nat) (P0:List Int) (c0:Nat->Int) (t:T) (g:G):Prop where
 st:St t (LDB n q i p v r5)
 hd:∃V E D,DQ r0 prow n q i p v j gr r5 num P0 c0 g V E D
theorem Rm[XOc]{p:Nat}{y1 y2:UInt8}{W:List UInt8}{num:Nat->Nat}{P0:List Int}{c0:Nat->Int}(hd:0<d)(hn:1<=n/\n<=5)(hv:v<n)(hvi:∀k,i<k->k<n->num k≠v)(hvl:∀k,k<i->num k≠v)(hgr:0<=gr/\gr<=60)(hwv:SlR NoP kk .nil W wv)
  (h0:DRw r0 [u8v y1,u8v y2,wv] n q i p v 0 gr r5 num P0 c0 t g) (h15:tat t 15=X8 0)
  (fin:∀(t:T) (g:G) (j:Nat),(j:Int)=S.Ts P0 c0->DRw r0 [u8v y1,u8v y2,wv] n q i p v j gr r5 num P0 c0 t g->Q (.exit 8) t [] g):wpL (wp C0 d none gc) Q t [] g:=by
 have Z:1<=S.Ts P0 c0/\S.Ts P0 c0<=64:=by obtain⟨-,V,E,D,a⟩:=h0;have:=(A3 hv a.db.c (a.db.p v hv)).2;rw[a.pv,a.cv]at this;exact this
 obtain⟨M,u⟩:=Ur (show 0<=S.Ts P0 c0 by omega);obtain⟨FR,o⟩:∃FR,FR=Bg:=⟨_,rfl⟩;simp only[gc];rw[show (SC.feet [0,1,0,0,8,0,56,120,248,0,512,0,2048,0,14336,30720,63488,0,131072,0,0,1048576,0,7340032,15728640,32505856,66060288,133693440,268434944,536870400,1073741816,2147483647,4294967295,8589934591] [oF 153 1 4,oL 154 153,oM 155 12,oF 156 1 4,oL 157 156,oM 158 12,XB 159 3 157 158,oF 160 2 159,oL 161 160,oF 162 0 4,oL 163 162,oF 164 1 4,oL 165 164,oM 166 12,XB 167 3 165 166,oF 168 0 167,oL 169 168,oF 170 2 11,oL 171 170,oM 172 15,oF 173 1 4,oL 174 173,oM 175 12,XB 176 3 174 175,oF 177 0 176,oL 178 177,oA 179 178,Xt 180 .mul 172 179,XQ 181 32 163 169 171 180,XZ 182 181,XR 183 1 24 161 182,XB 184 3 154 155,oF 185 2 184,Xx 1 185 183])=FR from o.symm];refine im M (by omega) (λj t df g=>df=[]/\DRw r0 [u8v y1,u8v y2,wv] n q i p v j gr r5 num P0 c0 t g) ⟨rfl,h0⟩ h15 (by decide) ?_ ?_ ?_ ?_
 ·rintro j t df g w s (rfl|rfl|rfl) ⟨a1,⟨b1,b2,J,K,L,N,O,R,-⟩,c⟩<;>exact⟨a1,by simp[St,LDB,sx,b1,b2,J,K,L,N,O,R],c⟩
 ·rintro j t df g U ⟨rfl,⟨h1,h2,C,h4,h5,l,e,b,-⟩,V,E,D,a⟩ h15;obtain⟨kq,X,Y⟩:=a.dn.q (.inl rfl);have f:=a.dn.bn.nodes a.dn.hp (λk h=>.inl h) (by omega) (by omega);have z:Agg (⟨gr,(List.range n).map D.node⟩:Net) (λj=>2<=j) 0 g.h (.agg [X8 gr,V (0,0)]):=⟨_,rfl,l_.2 ⟨_,rfl,f⟩⟩;have m:=a.db.p v hv;obtain⟨r,er,hr⟩:=KW (d:=d) (g:=g) (i:=v) (x:=D.node v) hd z (by simp;omega) (by simp[hv]) (by show (D.P v).length<_;omega) (λy hy=>by have:=m.2 y hy;simp;omega);have A:=Jl (gr:=gr) hv m.2;have hb:=A3 hv a.db.c m;have B:=NX (d:=d) (g:=g) hd (hr.sl g.h);have H:S.Tu (S.Sy (S.Sx ⟨gr,(List.range n).map D.node⟩) (D.node v).parents)=(M:Int):=by show S.Tu (S.Sy (S.Sx ⟨gr,(List.range n).map D.node⟩) (D.P v))=(M:Int);rw[A,Lg hb.1 (by simp;omega),<-u,S.Ts,<-a.pv,<-a.cv]
  rw[H]at B;simp only[sz,simprocAttr,h15,h4,kq,b,er,B];exact⟨by simp[St,LDB,sx,h1,h2,C,h4,h5,l,e,b],V,E,D,a⟩
 ·rintro j t df g U ⟨rfl,⟨h1,h2,C,h4,h5,l,e,b,-⟩,V,E,D,a⟩ h15;rw[o];refine Ps (n:=n) (q:=q) (i:=i) (p:=p) (v:=v) (j:=j) (r5:=r5) (num:=num) hd hn hv hvi hvl (by omega) hgr hwv h4 e b h15 a ?_;intro t' g' V' E' D' I F;have hs:∀s,s<153->tat t' s=tat t s:=λs h=>I s (.inl h);rw[Ea];exact⟨⟨rfl,by simp[St,LDB,hs,h1,h2,C,h4,h5,l,e,b],V',E',D',F⟩,by rw[hs 15 (by omega),h15]⟩
 ·rintro t df g ⟨rfl,h⟩;exact fin t g M u.symm h
structure DBl (D:ND) (n i:Nat) (num:Nat->Nat):Prop where
 c:∀u,u<n->D.c u=2\/D.c u=3
 p:∀u,u<n->(D.P u).length<=3/\∀y∈D.P u,0<=y/\y<n
 m:∀u,u<n->D.m u<=64
 o:∀u,D.o u=0
 f:∀k,i<=k->k<n->D.P (num k)=[]/\D.m (num k)=0
structure DL (r0:List AV) (n q:Nat) (gr:Int) (r5:AV) (num:Nat->Nat) (i:Nat) (t:T) (g:G):Prop where
 st:St t (LDA n q r5)
 hd:∃V E D,DN X1 r0 n q 1000 gr V E D g/\DBl D n i num/\DOk gr D n i num
theorem Pi{D:ND}:∀k,LNX X1 n D k->LNX X2 n D k:=λk h=>by
 rcases h with h|h
 ·exact .inl h
 ·exact .inr (.inl h)
theorem Pq[XOc]{x:ve}{a:AV}{num:Nat->Nat}(hd:0<d)(hgr:0<=gr/\gr<=60)(hn:1<=n/\n<=5)(ha:SlR NoP kk .nil x.2.1 a)(h5:IT 0 pl r5)(hN:Num n pl num)
  (h0:DL [u8v x.1,a,b] n q gr r5 num 0 t g) (h10:tat t 10=X8 0)
  (fin:∀t g,DL [u8v x.1,a,b] n q gr r5 num n t g->Q (.exit 2) t [] g):wpL (wp C0 d none fG) Q t [] g:=by
 obtain⟨pr,r1,r2,r3,r4⟩:=ha.all;have r1:∀h',ah h' 3 a=some pr:=r1;have la:=ha.len;have he:=ha.1;have hc:∀h,ah h 1 r5=some (pl.map ci):=λh=>(h5.sl h).ints;simp only[fG,jK];refine im n (by omega) (λj t df g=>df=[]/\DL [u8v x.1,a,b] n q gr r5 num j t g) ⟨rfl,h0⟩ h10 (by decide) ?_ ?_ ?_ ?_
 ·rintro j t df g v s (rfl|rfl|rfl) ⟨a1,⟨b1,b2,b3,b4,b5,-⟩,c3⟩<;>exact⟨a1,by simp[St,LDA,sx,b1,b2,b3,b4,b5],c3⟩
 ·rintro j t df g J ⟨rfl,⟨h1,h2,B,h4,h5,-⟩,C⟩ h10;simp only[sz,simprocAttr,h10,B];exact⟨by simp[St,LDA,sx,h1,h2,B,h4,h5],C⟩
 ·rintro j t df g J ⟨rfl,⟨h1,h2,B,h4,l,-⟩,V,E,D,C,hb,h6⟩ h10;obtain⟨p,hp⟩:∃p,p=g.nx:=⟨_,rfl⟩;have hf:=C.hp.nx;refine i8 (P:=λt' df g'=>df=[]/\g'=g.new (Xs 3 [[.int .u8 0,.int .u8 0,.nils]])/\St t' ((10,X8 (j:Int))::(11,X9 p)::LDA n q r5)) ?_ ?_
  ·simp only[sz,simprocAttr];simp[St,LDA,sx,h1,h2,B,h4,l,h10,hp]
  clear h1 h2 B h4 l h10;rintro t df g1 ⟨rfl,I,⟨h10,A,h1,h2,B,h4,l,-⟩⟩;have f1:Fr g g1:=by rw[I];exact Fr.new _ _
  have S:g1.h.get p=Xs 3 [[.int .u8 0,.int .u8 0,.nils]]:=by rw[I,hp];simp[SD]
  have n1:p<g1.nx:=by rw[I,hp];simp
  clear I;have N:=C.same f1;have e0:=N.h0;refine i8 (P:=λt' df g'=>df=[]/\Fr g g'/\St t' ((10,X8 (j:Int))::(11,X9 p)::LDA n q r5)/\p<g'.nx/\∃(U X:UInt8) (W:List UInt8) (wv:AV),SlR NoP kk .nil W wv/\g'.h.get p=Xs 3 [[u8v U,u8v X,wv]]) ?_ ?_
  ·simp only[sz,simprocAttr,h10,h1,e0,la];refine ij (λhb=>?_) (λhb=>?_)
   ·have hb:j<x.2.1.length:=by simpa using hb
    obtain⟨y,Y,-,-⟩:=ay hb;obtain⟨row,q1,q2⟩:=r3 j y Y;obtain⟨wv,rfl,L⟩:=C_.1 q2;have hlt:j<pr.length:=by omega
    have hg:=r4 (by omega);simp only[sz,simprocAttr,h10,h1,e0,r1,hlt,q1,A,S];refine⟨?_,by simp[St,LDA,sx,h1,h2,B,h4,l,h10,A],by simpa using n1,y.1,y.2.1,y.2.2,wv,L,by simp[SD]⟩;exact⟨Uy f1.1 (by simp),λi hi=>by simp[SD,show ¬i=p by omega];exact f1.2 i hi⟩
   ·simp only[sx,sy];exact⟨f1,by simp[St,LDA,sx,h1,h2,B,h4,l,h10,A],n1,0,0,[],.nils,⟨by show 0<9223372036854775808;decide,rfl⟩,S⟩
  clear h1 h2 B h4 l h10 A e0 N S n1 f1;rintro t df g2 ⟨rfl,f2,⟨h10,A,h1,h2,B,h4,l,-⟩,n2,U,X,W,wv,L,S⟩;have hH:=C.hp.add (g':=g2) (k:=(0,2)) (L':=LNX X2 n D) (v':=X9 p) (e':=.bx [u8v U,u8v X,wv]) (by
   rintro (h|h)
   ·rcases h with h|⟨i',q',h,-,-⟩<;>simp at h
   ·simp[X1]at h) ⟨p,by omega,n2,rfl,S⟩ f2.1 (λi _ hi=>f2.2 i hi) (λi hi=>by injection hi with hi;omega) (λk hk=>by
   rcases hk with h|h|h
   ·exact .inl (.inl h)
   ·exact .inl (.inr h)
   ·exact .inr h)
  have R:=hb.f j (Ui _) J;have h9:=hN.lt j J;have h7:∀k,j<k->k<n->num k≠num j:=λk h1 h2 e=>by have:=hN.inj k j h2 J e;omega
  have h8:∀k,k<j->num k≠num j:=λk h1 e=>by have:=hN.inj k j (by omega) J e;omega
  have O:DP [u8v x.1,a,b] [u8v U,u8v X,wv] n q j p (num j) gr r5 num g2 (ups V (0,2) (X9 p)) (ups E (0,2) (.bx [u8v U,u8v X,wv])) D:=by
   refine⟨⟨hH,⟨?_,λu hu=>?_,λu hu=>?_,λu r hu hr=>?_⟩,?_,?_,by rw[f2.2 0 (by omega),C.h0],by rw[f2.2 1 (by omega),C.h1]⟩,⟨aJ _ _ _,aJ _ _ _⟩,⟨hb.c,hb.p,hb.m,hb.o,λk h1 h2=>hb.f k (by omega) h2⟩,R.2,h6⟩
   ·rw[ap _ _ (by simp),C.bn.ns];exact congrArg (En.sl 3) (Vr λu _=>by simp[gQ,ap])
   ·rw[ap _ _ (by simp)];exact C.bn.ps u hu
   ·rw[ap _ _ (by simp)];have:=C.bn.rs u hu;refine⟨?_,this.2⟩;rw[this.1];exact congrArg (En.sl 1) (Vr λr _=>by simp[H3,ap])
   ·rw[ap _ _ (by simp),ap _ _ (by simp)];exact C.bn.rr u r hu hr
   ·rw[ap _ _ (by simp)];exact C.vb
   ·rw[ap _ _ (by simp),ap _ _ (by simp)];exact C.bx
  have u1:j<(pl.map ci).length:=by rw[UK,hN.len];exact J
  have u2:(pl.map ci)[j]?=some (ci (num j:Int)):=by rw[Uo,hN.at_ j J];rfl
  simp only[sz,simprocAttr,jJ,l,h10,hc,u1,u2,ci];refine Rl (n:=n) (q:=q) (i:=j) (p:=p) (v:=num j) (r5:=r5) (num:=num) hn h5 hN J rfl ⟨by simp[St,LDB,sx,h1,h2,B,h4,l,h10,A],_,_,_,O,λy Y=>by rw[R.1]at Y;simp at Y⟩ (by simp[sx]) ?_;clear h1 h2 B h4 l h10 A O hH;rintro t g3 ⟨⟨h1,h2,B,h4,l,h10,A,K,-⟩,V3,E3,D3,F,-⟩;simp only[sz,simprocAttr,lC];refine Rm (n:=n) (q:=q) (i:=j) (p:=p) (v:=num j) (r5:=r5) (num:=num) (P0:=D3.P (num j)) (c0:=D3.c) hd hn h9 h7 h8 hgr L ⟨by simp[St,LDB,sx,h1,h2,B,h4,l,h10,A,K],V3,E3,D3,F.dn,F.pb,F.db,F.mv,rfl,rfl,F.ok⟩ (by simp[sx]) ?_;clear h1 h2 B h4 l h10 A K F;rintro t g4 M Z ⟨⟨h1,h2,B,h4,l,h10,A,K,-⟩,V4,E4,D4,z⟩;simp only[sx,sy,↓reduceIte];have H:=z.dn;refine⟨⟨by simp[St,LDA,h1,h2,B,h4,l],V4,E4,D4,⟨H.hp.sub Pi,H.bn,H.vb,H.bx,H.h0,H.h1⟩,⟨z.db.c,z.db.p,z.db.m,z.db.o,λk hk hkn=>z.db.f k hk hkn⟩,⟨z.ok.s,z.ok.a,λk hk=>?_,z.ok.r⟩⟩,h10⟩
  by_cases e:k=j
  ·rw[e,z.mv,z.pv,z.cv,Z]
  ·exact z.ok.w k (by omega)
 ·rintro t df g ⟨rfl,h⟩;exact fin t g h
structure Drafted (m:Net):Prop where
 l:1<=m.nodes.length/\m.nodes.length<=5
 c:∀x∈m.nodes,x.card=2\/x.card=3
 b:∀x∈m.nodes,x.parents.length<=1000/\x.rows.length<=1000/\∀r∈x.rows,r.length<=1000
 nr:NR m
theorem KZ{n:Int}(hs:l.Pairwise (·<·))(hb:∀y∈l,0<=y/\y<n):S.Tn l n=true:=by
 simp only[S.Tn,S.TO,Uz,Uw,Uk,UZ,UD,beq_iff_eq];intro i hi;obtain⟨x,hx⟩:∃x,l[i]?=some x:=⟨_,Uj hi⟩;have:=hb x (Ul hx);rw[hx,Us];refine⟨this,?_⟩
 by_cases e:i=0
 ·exact .inl e
 ·right;obtain⟨y,h⟩:∃y,l[i - 1]?=some y:=⟨_,Uj (by omega)⟩;rw[h,Us];have h1:=(Uh.1 hx).2;have h2:=(Uh.1 h).2;rw[<-h1,<-h2];exact VE.1 hs (i - 1) i (by omega) hi (by omega)
def Nt(num:Nat->Nat):Nat->Nat
 |0=>0
 |k+1=>Nt num k ||| S.S3 (num k)
theorem Ej{n:Nat}{pl:List Int}{num:Nat->Nat}(hN:Num n pl num)(hn:n<=64)(v:Nat):∀k,k<=n->((Nt num k).testBit v=true↔∃k',k'<k/\num k'=v)
 |0,_=>by simp[Nt]
 | k+1,hk=>by
  have hlt:=hN.lt k (by omega);rw[Nt,tP,zJ (by omega),UZ,UD,Ej hN hn v k (by omega)];constructor
  ·rintro (⟨k',h1,h2⟩|h)
   ·exact⟨k',by omega,h2⟩
   ·exact⟨k,by omega,h⟩
  ·rintro⟨k',h1,h2⟩
   by_cases e:k'=k
   ·subst e;exact .inr h2
   ·exact .inl ⟨k',by omega,h2⟩
theorem R7{D:ND}{num:Nat->Nat}(hN:Num n pl num)(hn:1<=n/\n<=5)(hgr:1<=gr/\gr<=60)(hb:DBl D n n num)(hok:DOk gr D n n num):NR ⟨gr,(List.range n).map D.node⟩:=by
 have hcl:(S.Sx ⟨gr,(List.range n).map D.node⟩)=(List.range n).map D.c:=by unfold S.Sx;rw[WI];rfl
 refine⟨hgr.1,hgr.2,by simpa using hn.1,by simp;omega,λx hx=>?_,λx hx=>?_,?_,?_,λx hx=>?_,λx hx r hr=>?_⟩
 ·obtain⟨u,hu,rfl⟩:=U4.1 hx;have:=hb.c u (Uw.1 hu);show 1<=D.c u/\D.c u<=4;omega
 ·obtain⟨u,hu,rfl⟩:=U4.1 hx;have hu:=Uw.1 hu;refine KZ (hok.s u hu) λy hy=>?_;have:=(hb.p u hu).2 y hy;simpa using this
 ·rw[hcl];have h1:∀c∈(List.range n).map D.c,1<=c/\c<=4:=λc hc=>by obtain⟨u,hu,rfl⟩:=U4.1 hc;have:=hb.c u (Uw.1 hu);omega
  have h2:=du h1;have i:=gx (a:=((List.range n).map D.c).length) (b:=5) (by simpa using hn.2);have h4:(4:Int) ^ 5=1024:=by decide
  omega
 ·have e:(S.SK ⟨gr,(List.range n).map D.node⟩).length=n:=by simp[S.SK]
  have d:∀v,v<n->Par (S.SK ⟨gr,(List.range n).map D.node⟩) v=S.SQ (D.P v):=λv hv=>by simp[Par,S.SK,hv,ND.node]
  have h:∀k,k<=n->J2 (S.SK ⟨gr,(List.range n).map D.node⟩) (Nt num k):=λk=>by
   induction k with
   |zero=>exact λ_=>CQ
   | succ k ih =>
    intro hk;have hlt:=hN.lt k (by omega);refine FI (ih (by omega)) (by omega) λu hu=>?_;rw[d _ hlt]at hu;have hu:=(zk λx hx=>by have:=(hb.p _ hlt).2 x hx;omega).1 hu;obtain⟨k',h1,h2⟩:=hok.a k (by omega) _ hu;exact (Ej hN (by omega) u k (by omega)).2 ⟨k',h1,by omega⟩
  refine wi (h n (Ui _)) λv hv=>?_;rw[e]at hv;exact (Ej hN (by omega) v n (Ui _)).2 (hN.sur v hv)
 ·obtain⟨u,hu,rfl⟩:=U4.1 hx;have hu:=Uw.1 hu;obtain⟨k,hk,rfl⟩:=hN.sur u hu;show (((List.range (D.m (num k))).map (D.R (num k))).length:Int)=S.Sz (S.Sy _ (D.P (num k)));rw[Jl hu (hb.p _ hu).2];have:=hok.w k hk;unfold S.Ts at this;rw[<-this];simp
 ·obtain⟨u,hu,rfl⟩:=U4.1 hx;have hu:=Uw.1 hu;obtain⟨r',f,rfl⟩:=U4.1 hr;exact hok.r u r' hu (Uw.1 f)
def Lz:VS:=λP k h v=>∃m:Net,Drafted m/\Agg m P k h v
def V0(W:AV)(q:Nat):Ky->AV:=λk=>match k with
 | (0,0)=>W
 | (0,1)=>X9 q
 |_=>.nils
def E0(W:AV)(n:Nat)(gr:Int):Ky->En:=λk=>match k with
 | (0,0)=>.sl 3 (List.replicate n [X8 0,.nils,.nils])
 | (0,1)=>.bx [X8 gr,W]
 |_=>.sl 1 []
def D0:ND:=⟨λ_=>0,λ_=>[],λ_=>0,λ_ _=>[],λ_=>0⟩
theorem hp0{W:AV}(hW:Own g 2 W 3 (List.replicate n [X8 0,.nils,.nils]))(hq:g.h.get q=Xs 2 [[X8 gr,W]])(h2:2<=q/\q<g.nx)(hne:vid W≠some q):Hp g 2 (LNX X1 n D0) (V0 W q) (E0 W n gr):=by
 have hk:∀k,LNX X1 n D0 k->k=(0,0)\/k=(0,1)\/∃i s,k=(i+1,s):=λk h=>by
  rcases h with h|h
  ·rcases h with h|⟨i,s,h,-⟩
   ·exact .inl h
   ·exact .inr (.inr ⟨i,s,h⟩)
  ·exact .inr (.inl h)
 refine⟨λk h=>?_,λk l h h' hkl id h1 a=>?_,by omega⟩
 ·rcases hk k h with rfl|rfl|⟨i,s,rfl⟩
  ·exact hW
  ·exact⟨q,h2.1,h2.2,rfl,hq⟩
  ·exact .inl ⟨rfl,rfl⟩
 ·rcases hk k h with rfl|rfl|⟨i,s,rfl⟩<;>rcases hk l h' with rfl|rfl|⟨i',s',rfl⟩
  ·exact hkl rfl
  ·have h1:eid W=some id:=h1;have a:some q=some id:=a;rw[jb hW]at h1;injection a with a;subst a;exact hne h1
  ·cases a
  ·have a:eid W=some id:=a;have h1:some q=some id:=h1;rw[jb hW]at a;injection h1 with h1;subst h1;exact hne a
  ·exact hkl rfl
  ·cases a
  ·cases h1
  ·cases h1
  ·cases h1
theorem O2{x:Int}(h:w.cells=[w])(h2:w.isTup=false):eF [X8 0,.nils] [((0,1),X8 x),((1,1),w)]=some [X8 x,w]:=by
 have k:(X8 x).cells=[X8 x]:=rfl;have k2:(X8 x).isTup=false:=rfl;simp[eF,h,h2,dP,k,k2]
 rfl
theorem O1{a:AV}(ha:a.cells=[a]/\a.isTup=false)(hb:b.cells=[b]/\b.isTup=false):eF [.nils,.int .u16 0,.nils] [((0,1),a),((2,1),b)]=some [a,.int .u16 0,b]:=by
 simp[eF,ha,hb,dP]
 rfl
theorem OV[XOc]{P:Nat->Prop}{v:AV}{x:ve}(hd:0<d)(hm:Agg x P k g.h v):∃r,ae C0 d 7 [v] g=.val r/\Lz NoP 0 .nil r:=by
 obtain⟨v',e,cs,rfl,hc⟩:=sj (dw x) (by decide) d hm;obtain⟨a,b,rfl,ha,hb⟩:=xY.1 hc;have ha:=ha.tree (h':=.nil) (Ui _);have hb:=hb.tree (h':=.nil) (Ui _);rw[sB];refine a_ vK (xs:=[.agg [u8v x.1,a,b]]) (by simp only[aD,e]) (by simp[jq]) (mK λm=>dw _) (by decide) hd ?_;simp only[sz,simprocAttr,jq];obtain⟨g0,hg0⟩:∃g0,g0=(G.empty.new (Xs 3 [[u8v x.1,a,b]])).new (Xs 2 [[X8 0,.nils]]):=⟨_,rfl⟩;rw[<-hg0];have f0:g0.h.get 0=Xs 3 [[u8v x.1,a,b]]:=by rw[hg0];simp[sx,SD]
 have f1:g0.h.get 1=Xs 2 [[X8 0,.nils]]:=by rw[hg0];simp[sx]
 have f2:g0.nx=2:=by rw[hg0];simp[sx]
 clear hg0;have la:=ha.len;have Y:=ha.1;unfold mu;obtain⟨n,hn,z⟩:∃n:Nat,n=min (max x.2.1.length 1) 5/\1<=n/\n<=5:=⟨_,rfl,by omega⟩;refine i8 (P:=λt' df g'=>df=[]/\g'=g0/\St t' [(1,X9 0),(2,X9 1),(3,X8 (n:Int))]) ?_ ?_
 ·simp only[sz,simprocAttr,f0,la];simp[St,sx];omega
 rintro t df g1 ⟨rfl,rfl,h1,h2,l,-⟩;obtain⟨gr,O,N⟩:∃gr:Int,gr=1+(x.1.toNat:Int) % 60/\0<=gr/\gr<=60:=⟨_,rfl,by omega,by omega⟩;have q1:=iX .u8 (a:=(x.1.toNat:Int)) (b:=60) (by omega) (by omega);have w1:IntKind.wrap .i64 ((x.1.toNat:Int) % 60)=(x.1.toNat:Int) % 60:=aE (by omega) (by omega);have w2:IntKind.wrap .i64 (1+(x.1.toNat:Int) % 60)=gr:=by rw[O,aE (by omega) (by omega)]
 refine i8 (P:=λt' df g'=>df=[]/\∃q V E D,St t' [(1,X9 0),(2,X9 1),(3,X8 (n:Int)),(4,X9 q)]/\DN X1 [u8v x.1,a,b] n q 1000 gr V E D g'/\(∀u,D.P u=[]/\D.m u=0/\D.o u=0)) ?_ ?_
 ·simp only[sz,simprocAttr,sf,h1,l,f0,u8v,q1,w1,w2];refine qi (b:=2) (n:=n) (by unfold bz;omega) (by unfold bz;omega) (by first| (simp;done)| (simp;omega)) λW g2 hW n2 f2' vW lg2=>?_;simp only[sy]at n2 f2' vW lg2;simp only[sz,simprocAttr,sf,O2 hW.cell.1 hW.cell.2,lg2];have h6:g1.nx+7=g2.nx:=by omega
  have Z:g2.h.get 0=Xs 3 [[u8v x.1,a,b]]:=by rw[f2' 0 (by omega),f0]
  have k1:g2.h.get 1=Xs 2 [[X8 0,.nils]]:=by rw[f2' 1 (by omega),f1]
  refine⟨?_,g2.nx+1+1,V0 W (g2.nx+1+1),E0 W n gr,D0,by simp[St,sx,h1,h2,l],⟨hp0 ?_ ?_ ⟨by omega,by simp⟩ ?_,⟨?_,λu _=>⟨rfl,by show 0<=1000;omega⟩,λu _=>⟨rfl,by show 0<=1000;omega⟩,λu r _ hr=>by cases hr⟩,rfl,rfl,?_,?_⟩,λu=>⟨rfl,rfl,rfl⟩⟩
  ·simp only[UQ,UP,UM,UE,G.new_lg,G.put_lg,setLog_lg];refine bf (XK (XJ (true::(false::(true::(true::[])))))) [(0,6),(1,6),(2,6),(3,6),(4,6),(0,8),(1,8),(2,8),(3,8),(4,8),(5,8),(6,8),(7,8)] (by simp[All2,am,aA]) (by decide) ?_;rintro p w x y hx s;simp only[UW,Uu,WK]at w;rcases w with rfl|rfl|rfl|rfl|rfl|rfl|rfl|rfl|rfl|rfl|rfl|rfl|rfl<;>(simp at hx s;subst hx;subst s;refine fP rfl rfl rfl rfl ?_ ?_ ?_<;>simp[am,aA,af]<;>omega)
  ·refine hW.fr (by simp;omega) λi hi=>?_;have:=gA vW hi;simp[SD,show ¬i=g2.nx+1+1 by omega]
  ·simp[SD]
  ·intro e;have:=gA vW e;omega
  ·show En.sl 3 (List.replicate n [X8 0,.nils,.nils])=En.sl 3 ((List.range n).map λ_=>[X8 0,.nils,.nils]);congr 1;rw[List.map_const',List.length_range]
  ·simp[SD,Z];rfl
  ·simp[SD,k1]
 clear h1 h2 l;rintro t df g2 ⟨rfl,q,V,E,D,⟨h1,h2,l,h4,-⟩,K,B⟩;obtain⟨num,hN⟩:=Rn x.2.2 n;refine i8 (P:=λt' df g'=>df=[]/\Fr g2 g'/\∃r5,IT 0 (S.S1 x.2.2 n) r5/\St t' (LDA n q r5)) ?_ ?_
 ·simp only[sz,simprocAttr,sf,l];refine qi (b:=2) (n:=n) (by unfold bz;omega) (by unfold bz;omega) (by have:=K.hp.nx;first| (simp;done)| (simp;omega)) λU g3 hU n3 F vU lg3=>?_;simp only[sy]at n3 F vU lg3;have e0:g3.h.get 0=Xs 3 [[u8v x.1,a,b]]:=by rw[F 0 (by have:=K.hp.nx;omega),K.h0]
  simp only[sz,simprocAttr,sf,h1,e0,O1 hU.cell hb.cell];have M:Own g3 2 U 1 ((List.replicate n (0:UInt8)).map λy=>[u8v y]):=by simpa [u8v] using hU
  have T:∀C:G,C.h=g3.h->∃r,ae C0 (d+1) 29 [.agg [U,.int .u16 0,b]] C=.val r/\IT 0 (S.S1 x.2.2 n) r:=λC h=>by
   have:=Bb (d:=d+1) (g:=C) (k:=max k d) (P:=λ_=>True) (x:=(List.replicate n (0:UInt8),(0:UInt16),x.2.2)) (v:=.agg [U,.int .u16 0,b]) (UC d) ⟨_,rfl,ut.2 ⟨U,b,rfl,?_,?_⟩⟩
   ·have e:min (List.replicate n (0:UInt8)).length 5=n:=by simp;omega
    rw[e]at this;exact this
   ·rw[h];exact Own.sl (α:=UInt8) M (by simp;omega) (Sx (λy=>fM.2 rfl) _) λ_ _=>trivial
   ·exact (hb.tree (h':=C.h) (Ui _)).wd λ_ h=>h.elim
  refine dE (T _ (by simp)) λr hr=>?_;simp only[sz,simprocAttr,sf,l6];refine⟨?_,⟨?_,λi hi=>?_⟩,r,hr,?_⟩
  ·simp only[UQ,UP,UM,UE];refine bf (false::(true::(false::(XJ [])))) [(1,2),(1,3)] (by simp[All2,am,aA]) (by decide) ?_;rintro p w x y hx s;simp only[UW,Uu,WK]at w;rcases w with rfl|rfl<;>(simp at hx s;subst hx;subst s;refine fP rfl rfl rfl rfl ?_ ?_ ?_<;>simp[am,aA,af,lg3])
  ·simp;omega
  ·simp;exact F i (by omega)
  ·simp[St,LDA,sx,h1,h2,l,h4]
 clear h1 h2 l h4;rintro t df g3 ⟨rfl,F,r5,J,⟨h1,h2,l,h4,h5,-⟩⟩;have H:=K.same F;simp only[sz,simprocAttr];refine Rj (n:=n) (q:=q) (x:=x) (gr:=gr) (r5:=r5) (num:=num) z ha J hN ⟨by simp[St,LDA,sx,h1,h2,l,h4,h5],⟨1,by simp[sx],by decide⟩,V,E,D,H,λv _=>⟨(B v).1,(B v).2.1⟩,λk hk=>by omega,λu=>(B u).2.2⟩ (by simp[sx]) ?_;clear h1 h2 l h4 h5 H;rintro t C ⟨⟨h1,h2,l,h4,h5,-⟩,-,V4,E4,D4,L,f⟩;simp only[sz,simprocAttr,jM];refine Pq (n:=n) (q:=q) (x:=x) (gr:=gr) (r5:=r5) (num:=num) (UC d) N z ha J hN ⟨by simp[St,LDA,sx,h1,h2,l,h4,h5],V4,E4,D4,L,⟨λu hu=>?_,λu hu=>?_,λu hu=>?_,?_,λk _ hk=>f.e _ (hN.lt k hk)⟩,⟨λu hu=>by rw[(f.e u hu).1];exact .nil,λk hk y s=>by rw[(f.e _ (hN.lt k hk)).1]at s;simp at s,λk hk=>by omega,λu r hu hr=>by rw[(f.e u hu).2]at hr;omega⟩⟩ (by simp[sx]) ?_
 ·obtain⟨k,hk,rfl⟩:=hN.sur u hu;exact f.c k hk
 ·rw[(f.e u hu).1];simp
 ·rw[(f.e u hu).2];omega
 ·exact f.o
 clear h1 h2 l h4 h5;rintro t g5 ⟨⟨h1,h2,l,h4,h5,-⟩,V5,E5,D5,j,I,Q⟩;obtain⟨kq,h7,h8⟩:=j.q rfl;simp only[sz,simprocAttr,jL,h4,kq,h2,j.h1];have A:=j.bn.nodes j.hp (λk h=>.inl h) (by omega) (by omega);refine⟨λ_=>True,⟨gr,(List.range n).map D5.node⟩,⟨by simpa using z,λy s=>?_,λy s=>?_,R7 hN z (by omega) I Q⟩,⟨_,rfl,l_.2 ⟨_,rfl,A.wd λi hi=>⟨trivial,by simp[SD,show ¬i=1 by omega]⟩⟩⟩⟩
 ·obtain⟨u,hu,rfl⟩:=U4.1 s;exact I.c u (Uw.1 hu)
 ·obtain⟨u,hu,rfl⟩:=U4.1 s;have hu:=Uw.1 hu;refine⟨(j.bn.ps u hu).2,?_,λr hr=>?_⟩
  ·show ((List.range (D5.m u)).map (D5.R u)).length<=1000;simpa using (j.bn.rs u hu).2
  ·obtain⟨r',X,rfl⟩:=U4.1 hr;exact (j.bn.rr u r' hu (Uw.1 X)).1
def EvV(n:Net):VS:=λP k h v=>∃l:List Int,S.SL n l=true/\One l P k h v
theorem RD(n:Net):Snb (EvV n) 0:=by
 refine⟨λ{P k h v n} d r hn=>?_,λ{k h v n} r hn=>?_⟩
 ·obtain⟨m,hm,r⟩:=r;obtain⟨v',e,r'⟩:=(aG m).snap d r hn;exact⟨v',e,m,hm,r'⟩
 ·obtain⟨m,hm,r⟩:=r;exact (aG m).tag r hn
def evP(n:Net)(l:List Int):Prop:=∀(i:Nat) (x:Int) (c:Node),l[i]?=some x->n.nodes[i]?=some c->-1<=x/\x<c.card
theorem OY{n:Net}(hl:l.length=n.nodes.length)(h:evP n l):S.SL n l=true:=by simp only[S.SL,Uk,UD,Uz,Uw];refine⟨hl,λi hi=>?_⟩;obtain⟨x,hx⟩:∃x,l[i]?=some x:=⟨_,Uj hi⟩;obtain⟨c,hc⟩:∃c,n.nodes[i]?=some c:=⟨_,Uj (by omega)⟩;have:=h i x c hx hc;simpa [S.Sx,hx,hc] using this
theorem Nd[XOc]{P:Nat->Prop}{m:Net}{vs:List UInt8}(hd:0<d)(hv:vs.length=9)(hm:Agg m P k g.h w)(hn:m.nodes.length<=8)(hc:∀x∈m.nodes,0<x.card) :
  ∃r,ae C0 d 9 [.agg (vs.map u8v),w] g=.val r/\EvV m NoP 0 .nil r:=by
 obtain⟨v',e,cs,rfl,F⟩:=sj (dw m) (by decide) d hm;obtain⟨b,rfl,hN⟩:=l_.1 F;obtain⟨rows,Q,r2,Z,r4⟩:=hN.all;have Q:∀h',ah h' 3 b=some rows:=Q;rw[uA];refine a_ wI (xs:=[.agg (vs.map u8v),.agg [X8 m.grain,b]]) (by simp only[aD,e,Bm]) (by simp[kg]) (RD m) (by decide) hd ?_;obtain⟨cu8,n⟩:∃c,c=vs.map u8v:=⟨_,rfl⟩;have hcl:cu8.length=9:=by rw[n,UK,hv]
 simp only[sz,simprocAttr,kg,<-n];generalize hg0:((G.empty.new (Xs cu8.length [cu8])).new (Xs 2 [[AV.int IntKind.i64 m.grain,b]]))=g0;have f0:g0.h.get 0=Xs 9 [cu8]:=by rw[<-hg0,hcl];simp[sx,SD]
 have f1:g0.h.get 1=Xs 2 [[X8 m.grain,b]]:=by rw[<-hg0];simp[sx]
 have f2:2<=g0.nx:=by rw[<-hg0];simp[sx]
 clear hg0;simp only[sz,simprocAttr,nz];refine im m.nodes.length (by omega) (λj t df g=>df=[]/\St t [(2,X9 0),(3,X9 1)]/\g.h.get 0=Xs 9 [cu8]/\g.h.get 1=Xs 2 [[X8 m.grain,b]]/\2<=g.nx/\∃u L,tat t 5=u/\L.length=j/\evP m L/\Own g 2 u 1 (L.map ci))
  ⟨rfl,by simp[sx,St],f0,f1,f2,_,[],rfl,rfl,λi x c hx=>by simp at hx,.inl ⟨by simp[sx],rfl⟩⟩ (by simp[sx]) (by decide) (by rintro j t df g v s (rfl|rfl|rfl)<;>simp[sx,St]) ?_ ?_ ?_
 ·rintro j t df g R ⟨rfl,⟨h2,o,-⟩,e0,e1,A,u,L,h5,hu⟩ p;simp only[sz,simprocAttr,h2,o,p,e0,e1,hN.len,St];exact⟨A,u,L,h5,hu⟩
 ·rintro j t df g R ⟨rfl,⟨h2,o,-⟩,e0,e1,A,u,L,h5,f,q,hu⟩ p;obtain⟨x,hx,V,hm⟩:=ay R;obtain⟨row,z1,z2⟩:=Z j x hx;obtain⟨fa,fb,rfl,-⟩:=fd.1 z2;have hlt:j<rows.length:=by omega
  have N:=r4 (by omega);have K:j<8:=by omega
  obtain⟨S,O⟩:∃y,vs[0]?=some y:=⟨_,Uj (by omega)⟩;have E:cu8[0]?=some (.int .u8 (S.toNat:Int)):=by rw[n,Uo,O];rfl
  obtain⟨y,W⟩:∃y,vs[1+j]?=some y:=⟨_,Uj (by omega)⟩;have I:cu8[1+j]?=some (.int .u8 (y.toNat:Int)):=by rw[n,Uo,W];rfl
  have Y:y.toNat<256:=y.toNat_lt;have H:=hc x hm;obtain⟨z,hz⟩:=Cn S.toNat j;obtain⟨z',B⟩:=Cm z 1;have B:bB .and (.int .u8 (z:Int)) (.int .u8 1)=.val (.int .u8 z'):=B;have w8:IntKind.wrap .i64 (y.toNat:Int)=(y.toNat:Int):=aE (by omega) (by omega);have w9:IntKind.wrap .u64 (j:Int)=(j:Int):=dR (by omega) (by omega);have key:∀(t:T) (X:Int),-1<=X->X<x.card->St t [(2,X9 0),(3,X9 1),(5,u),(6,X8 (j:Int)),(7,X8 X)] ->
    wp C0 (d+1) none gN (λe t df g=>e=.norm/\(df=[]/\St t [(2,X9 0),(3,X9 1)]/\g.h.get 0=Xs 9 [cu8]/\g.h.get 1=Xs 2 [[X8 m.grain,b]]/\2<=g.nx/\∃u L,tat t 5=u/\L.length=j+1/\evP m L/\Own g 2 u 1 (L.map ci))/\tat t 6=X8 (j:Int)) t [] g:=by
   rintro t X C D ⟨h2,o,h5,p,h7,-⟩;simp only[sz,simprocAttr,gN,h5,h7];refine dS (new:=[ci X]) (hu.step (Fr.new _ _)) (by simp[sx,sy,ci]) (by simp;omega) (by simp[bz,f];omega) λv2 g2 hv2 n2 f2 _ l2=>?_;simp only[sz,simprocAttr,h2,o,p,St];refine⟨?_,?_,?_,_,L++[X],rfl,by simp[f],?_,?_⟩
   ·rw[f2 0 (by simp) (λe=>by have:=(hu.lt e).1;omega),G.new_h,aL _ _ _ (by omega),e0]
   ·rw[f2 1 (by simp;omega) (λe=>by have:=(hu.lt e).1;omega),G.new_h,aL _ _ _ (by omega),e1]
   ·simp at n2;omega
   ·intro i a c ha l
    by_cases e:i=j
    ·subst e;rw[hx]at l;injection l with l;subst l;rw[<-f,List.getElem?_concat_length]at ha;injection ha with ha;subst ha;exact⟨C,D⟩
    ·have J:i<L.length:=by have:=(Uh.1 ha).1;simp at this;omega
     rw[UF J]at ha;exact q i a c ha l
   ·simpa [ci] using hv2
  simp only[sz,simprocAttr,h2,p,e0,E,w9,hz,B];refine ij (λhb=>?_) (λhb=>?_)
  ·have U:0<=(y.toNat:Int) % x.card:=Int.emod_nonneg _ (by omega);have M:(y.toNat:Int) % x.card<x.card:=Xh _ (by omega);simp only[sz,simprocAttr,h2,o,p,e0,e1,MX 8 1 _ _ _ _ _ K,Nat.mul_one,I,w8,Q,hlt,z1,N,iX .i64 (show 0<=(y.toNat:Int) by omega) H];refine bO _ (key _ ((y.toNat:Int) % x.card) (by omega) M (by simp[St,sx,h2,o,h5,p])) ?_;rintro e t df g ⟨rfl,h⟩;exact h
  ·simp only[sx];refine bO _ (key _ (-1) (by omega) (by omega) (by simp[St,sx,h2,o,h5,p])) ?_;rintro e t df g ⟨rfl,h⟩;exact h
 ·rintro t df g ⟨rfl,⟨h2,o,-⟩,e0,e1,A,u,L,h5,f,q,hu⟩;simp only[sz,simprocAttr,mw,h5];exact⟨_,L,OY f q,hu.ints (by omega)⟩
def RQ(V:Ky->AV)(i:Nat)(c:Int):List AV:=[X8 c,V (i+1,0),V (i+1,1)]
structure NdOk (K:Nat) (V:Ky->AV) (E:Ky->En) (i:Nat) (x:Node):Prop where
 ps:E (i+1,0)=.sl 1 (x.parents.map ci)
 rs:∃rws,E (i+1,1)=.sl 1 rws/\rws.length=x.rows.length/\∀(r:Nat) (y:List Int),x.rows[r]?=some y->rws[r]?=some [V (i+1,2+r)]
 rr:∀(r:Nat) (y:List Int),x.rows[r]?=some y->E (i+1,2+r)=.sl 1 (y.map ci)
 len:x.parents.length<=K/\x.rows.length<=K/\∀y∈x.rows,y.length<=K
def LS(L:List Node):Ky->Prop:=λk=>k=(0,0)\/∃i q x,k=(i+1,q)/\L[i]?=some x/\q<2+x.rows.length
structure BLs (K:Nat) (V:Ky->AV) (E:Ky->En) (L:List Node):Prop where
 ns:∃rows,E (0,0)=.sl 3 rows/\rows.length=L.length/\∀(i:Nat) (x:Node),L[i]?=some x->rows[i]?=some (RQ V i x.card)
 nd:∀(i:Nat) (x:Node),L[i]?=some x->NdOk K V E i x
def BBn(g:G)(brow:List AV)(gr:Int)(b:AV):Prop:=g.h.get 0=Xs 4 [brow]/\g.h.get 1=Xs 2 [[X8 gr,b]]/\g.h.get 2=Xs 2 [[X8 0,.nils]]
def LX(L:List Node)(x:Node):Ky->Prop:=λk=>LS L k\/k=(0,1)\/∃q,k=(L.length+1,q)/\q<2+x.rows.length
structure NB (K p:Nat) (L:List Node) (x:Node) (g:G) (brow:List AV) (gr:Int) (b W:AV) (V:Ky->AV) (E:Ky->En):Prop where
 hp:Hp g 3 (LX L x) V E
 bb:BBn g brow gr b
 vb:V (0,1)=X9 p
 bx:E (0,1)=.bx (RQ V L.length x.card)
 nd:NdOk K V E L.length x
 bl:BLs K V E L
 vw:V (0,0)=W
structure Oth (K:Nat) (L:List Node) (J:Nat) (V:Ky->AV) (E:Ky->En) (rows:List (List AV)):Prop where
 len:rows.length=L.length
 ns:∀(i:Nat) (y:Node),i≠J->L[i]?=some y->rows[i]?=some (RQ V i y.card)
 nd:∀(i:Nat) (y:Node),i≠J->L[i]?=some y->NdOk K V E i y
structure BS (K J:Nat) (L:List Node) (x:Node) (bx:Io) (gr Rw:Int) (t:T) (g:G) (V:Ky->AV) (E:Ky->En):Prop where
 st:St t [(2,X9 0),(3,X9 1),(4,X9 2),(10,nZ 3 (V (0,0)) J 0),(11,X8 Rw)]
 hp:Hp g 3 (LS L) V E
 f0:g.h.get 0=Xs 4 [[u8v bx.1,u8v bx.2.1,u8v bx.2.2.1,X8 bx.2.2.2]]
 f1:g.h.get 1=Xs 2 [[X8 gr,V (0,0)]]
 f2:g.h.get 2=Xs 2 [[X8 0,.nils]]
 bl:BLs K V E L
 hx:L[J]?=some x
 hR:(Rw = -1/\x.rows.length=0)\/∃r:Nat,Rw=(r:Int)/\r<x.rows.length
 hK:K<=1000000
 hl:L.length<=K
structure BT (K J:Nat) (L:List Node) (x:Node) (g:G) (V:Ky->AV) (E:Ky->En) (rows:List (List AV)):Prop where
 own:Own g 3 (V (0,0)) 3 rows
 e0:E (0,0)=.sl 3 rows
 ry:xX (V (0,0))=true
 hlt:J<rows.length
 row:rows[J]?=some [X8 x.card,V (J+1,0),V (J+1,1)]
 oth:Oth K L J V E rows
 nd:NdOk K V E J x
section
variable {d K J:Nat}{L:List Node}{x:Node}{bx:Io}{gr Rw:Int}{t:T}{g:G}{V:Ky->AV}{E:Ky->En}{Q:QT}
end
structure BW (x:Node) (J:Nat) (g:G) (V:Ky->AV) (E:Ky->En) (rws:List (List AV)):Prop where
 own:Own g 3 (V (J+1,1)) 1 rws
 e1:E (J+1,1)=.sl 1 rws
 len:rws.length=x.rows.length
 at_:∀(r:Nat) (y:List Int),x.rows[r]?=some y->rws[r]?=some [V (J+1,2+r)]
section
variable {d K J:Nat}{L:List Node}{x:Node}{bx:Io}{gr Rw:Int}{t:T}{g:G}{V:Ky->AV}{E:Ky->En}{Q:QT}
end
def Node.wr(x:Node)(r:Nat)(y:List Int):Node:=⟨x.card,x.parents,x.rows.set r y⟩
section
variable {d K J r:Nat}{L:List Node}{x:Node}{bx:Io}{gr Rw:Int}{t t':T}{g gb:G}{V:Ky->AV}{E:Ky->En}{Q:QT}{y y':List Int}
structure BR (x:Node) (J r:Nat) (y:List Int) (g:G) (V:Ky->AV) (E:Ky->En) (rws:List (List AV)):Prop where
 wr:ah g.h 1 (V (J+1,1))=some rws
 rl:r<rws.length
 rw_:rws[r]?=some [V (J+1,2+r)]
 ry:xX (V (J+1,1))=true
 yr:ah g.h 1 (V (J+1,2+r))=some (y.map ci)
 ye:E (J+1,2+r)=.sl 1 (y.map ci)
 yl:y.length<=K
end
theorem nI(a b c e f:AV)(t:T):ba 0 [a,b,c,e,f] t=fe (fe (fe (fe (fe t 0 a) 1 b) 2 c) 3 e) 4 f:=rfl
theorem Ns{n:Net}(h:NR n)(e:List Int):0<=S.SM n e/\S.SM n e<4611686018427387904:=by have:=oq h e;omega
theorem qq{m:Nat}(h:m<18446744073709551616)(h':n<18446744073709551616):bB .andNot (X_ (m:Int)) (X_ (n:Int))=.val (X_ ((S.SB m n:Nat):Int)):=zI m n h h'
def fp(gr:Int)(b ev:AV)(v value bn bd:Int)(s:Nat):AObj:=Xs 8 [[X8 gr,b,ev,X8 v,X8 value,X8 bn,X8 bd,X_ (s:Int)]]
theorem e_(id ep i off:Nat):Nr (.hptr id ep i off)=.val (.hptr id ep i off):=rfl
theorem Own.lenF{b:Nat}{v:AV}{sz:Nat}(h:Own g b v sz rows):Hx.jC .slice v g=.val (X8 (rows.length:Int)):=AS h.rows
def S.SX(e:List Int)(s j:Nat):List Int:=(S.SP e s).take j++List.replicate (e.length - j) 0
theorem Bd(hj:j<=e.length):(S.SX e s j).length=e.length:=by rw[S.SX,VG,U0,kZ,List.length_replicate];omega
theorem w_{z y:Int}(hj:j<e.length)(hz:(S.SP e s)[j]?=some z):((S.SX e s j).set j y).set j z=S.SX e s (j+1)/\((S.SX e s j).set j z)=S.SX e s (j+1):=by
 have key:((S.SX e s j).set j z)=S.SX e s (j+1):=by
  obtain⟨z',h,ht,-⟩:=ay (l:=S.SP e s) (j:=j) (by rw[kZ];exact hj);rw[hz]at h;injection h with h;subst h;have hl:((S.SP e s).take j).length=j:=by rw[U0,kZ];omega
  obtain⟨m,hm⟩:∃m,e.length - j=m+1:=⟨e.length - j - 1,by omega⟩;rw[S.SX,S.SX,ht,hm,show e.length - (j+1)=m by omega,VR _ _ (by omega),hl,Ve,VO,Wa,VB]
  rfl
 exact⟨by rw[List.set_set,key],key⟩
theorem Pz[XOc]{v:Int}(hev:SlR NoP k .nil e ev)(hl:e.length<=1000)(hs:s<18446744073709551616)
  (hq:g.h.get q=fp gr b ev v value bn bd ks) (hqn:q<g.nx)
  (kk:∀u g',Own g' g.nx u 1 ((S.SP e s).map ci)->Ug g g'->K u g'):(ae C0 d 79 [X9 q,X_ (s:Int)] g).sat K g D:=by
 have rb:=λh=>(hev.tree (h':=h) (Ui k)).ints;have n2:=λg=>hev.len g;have C:=kZ e s;rw[oI];refine kJ qC (by simp[fF]) ?_;simp only[sz,simprocAttr,fF,hq,fp,e_,n2];refine F9 (b:=g.nx) (by simp[bz];omega) (by simp[bz];omega) (Ui _) λu1 g1 o1 n1 f1 v1=>?_;have ug1:Ug g g1:=⟨by omega,f1⟩;have z:Own g1 g.nx u1 1 ((S.SX e s 0).map ci):=by simpa [S.SX,ci] using o1
 have n3:jC .slice u1 g1=.val (X8 (e.length:Int)):=by rw[z.lenF,UK,Bd (US _)]
 simp only[sz,simprocAttr,n3,gV,gW];refine aV (m:=e.length) (by omega) (λj t df g'=>df=[]/\St t [(0,X9 q),(1,X_ (s:Int)),(5,u1)]/\Ug g g'/\Own g' g.nx u1 1 ((S.SX e s j).map ci))
  ⟨rfl,by simp[St,sx],ug1,z⟩ (by simp[sx]) (by simp[sx]) (by decide) (by rintro j t df g v s (rfl|rfl|rfl)<;>simp[St,sx]) ?_ ?_
 ·rintro j t df g2 o ⟨rfl,⟨h0,h1,h5,-⟩,ug2,o2⟩ l p;obtain⟨y,H,-,-⟩:=ay o;have hz:=zn e s j o;rw[H,Us]at hz;have B:=Bd (e:=e) (s:=s) (j:=j) (by omega);have F:j<(e.map ci).length:=by simpa using o
  have L:(e.map ci)[j]?=some (ci y):=by rw[Uo,H];rfl
  have w1:j<((S.SX e s j).map ci).length:=by rw[UK,B];exact o
  obtain⟨J,f⟩:∃J,((S.SX e s j).map ci)[j]?=some J:=⟨_,Uj w1⟩;have w:=iY .i64 s j hs;have a:=mC (s / 2 ^ j) 1 (Wm (V9 _ _) hs) (by decide);have a:bB .and (X_ ((s / 2 ^ j:Nat):Int)) (X_ 1)=.val (X_ ((s / 2 ^ j &&& 1:Nat):Int)):=a;have r:=qO s j;simp only[sz,simprocAttr,h5,l,o2.rows,w1];refine rk (v:=u1) (sz:=1) (n:=1) (i:=j) (off:=0) (x:=X8 (-1)) (row':=ci (-1)) o2 f rfl rfl (by rw[Uo]at f;cases hh:(S.SX e s j)[j]? with
   |none=>rw[hh]at f;cases f
   |some x=>rw[hh]at f;injection f with f;rw[<-f];rfl) λg3 o3 n3 f3 p3=>?_
  have ug3:Ug g g3:=⟨by have:=ug2.nx;omega,ug2.up.trans p3⟩;have E:g3.h.get q=fp gr b ev v value bn bd ks:=by rw[ug3.up.1 q hqn,hq]
  by_cases c:s.testBit j=true
  ·rw[Un c]at hz;have c':((s / 2 ^ j &&& 1:Nat):Int)=1:=by
    have:S.Te s j=true:=by rw[r,c]
    rw[S.Te,beq_iff_eq]at this;rw[this];rfl
   have I:j<(((S.SX e s j).map ci).set j (ci (-1))).length:=by rw[WE];exact w1
   have M:(((S.SX e s j).map ci).set j (ci (-1)))[j]?=some (ci (-1)):=by rw[Vx w1]
   simp only[sz,simprocAttr,h0,h1,h5,w,a,c',E,fp,e_,rb,F,L,ci];have A:=o3.rows;simp only[ci]at A I;simp only[sz,simprocAttr,A,I];refine rk (v:=u1) (sz:=1) (n:=1) (i:=j) (off:=0) (x:=X8 y) (row':=ci y) o3 M rfl rfl rfl λg4 o4 n4 f4 p4=>?_;simp only[sz,simprocAttr];refine⟨⟨by simp[St,sx,h0,h1,h5],⟨by have:=ug3.nx;omega,ug3.up.trans p4⟩,?_⟩,by simp[sx,l],by simp[sx,p]⟩;rw[<-(w_ (y:=-1) o hz).1,Vy,Vy];exact o4
  ·rw[Um c]at hz;have c':¬((s / 2 ^ j &&& 1:Nat):Int)=1:=by
    have:S.Te s j=false:=by rw[r];simpa using c
    rw[S.Te]at this;have h2:s / 2 ^ j &&& 1≠1:=by simpa using this
    omega
   simp only[sz,simprocAttr,h1,h5,w,a,c'];refine⟨⟨by simp[St,sx,h0,h1,h5],ug3,?_⟩,by simp[sx,l],by simp[sx,p]⟩;rw[<-(w_ (y:=-1) o hz).2,Vy];exact o3
 ·rintro t df g2 ⟨rfl,⟨h0,h1,h5,-⟩,ug2,o2⟩;rw[S.SX,Ve,WN,Ux,<-C,U3]at o2;simp only[sz,simprocAttr,gX,h5];exact kk _ _ o2 ug2
section
variable {n:Net}
section
variable {C:Cfg}{d:Nat}
theorem OA{Q:QP}{dst:Option Nat}{xs:List Od}{r:List SI}{df:List ADf}(hs:mc C f=false)
  (h:CallsP C d f (eH t xs) g (λv g'=>wpQ C d r Q (nY dst t v) df g') λv g'=>Q (.pan v) t df g'):wpQ C d (⟨dst,none,.call f xs⟩::r) Q t df g:=by
 show ma C d ⟨dst,none,.call f xs⟩ (wpQ C d r Q) Q t df g;unfold ma;dsimp only;rw[Um (by rw[hs];decide)];exact h
end
theorem Gy[XOc]{d:Nat}{rd:Option Nat}{z:Int}:(bC C0 (.makeInterface 47 (.const (.int .i64 z)))).run (I C0) d rd t g=.val (.ifc 47 (X8 z)):=by kernel_rfl
theorem KT[XOc]{d:Nat}{v:AV}(hd:0<d)(hm:Agg n NoP 0 g.h v):ae C0 d 75 [v] g=.val (X8 (if S.SW n then 0 else 50)):=by
 obtain⟨b,rows,rfl,e1,i,-⟩:=dt d hm;rw[zT];refine eX DU (xs:=[.agg [X8 n.grain,b]]) (by simp only[aD,e1]) (by simp[s7]) hd ?_;simp only[sz,simprocAttr,s7];obtain⟨g0,hg0⟩:∃g0,g0=G.empty.new (Xs 2 [[X8 n.grain,b]]):=⟨_,rfl⟩;rw[<-hg0];have f0:g0.h.get 0=Xs 2 [[X8 n.grain,b]]:=by rw[hg0];simp[sx]
 have p:g0.nx=1:=by rw[hg0];simp[sx]
 clear hg0;have ld:aI (Xs 2 [[X8 n.grain,b]]) 0 0 true 2 0=.val (.agg [X8 n.grain,b]):=rfl;simp only[sz,simprocAttr,uS,f0,ld];refine dE (zp (UC d) (n:=n) (i _)) λz hz=>?_;rcases oB hz with⟨j,cs,rfl,e⟩|⟨j,b',cv,sv,oz,o,rfl,hb,f,m,l⟩
 ·obtain⟨a1,a2,k,a4,a,rfl⟩:∃a1 a2 k a4 a,cs=[a1,a2,k,a4,a]:=by
   match cs,e with
   |[a1,a2,k,a4,a],_=>exact⟨a1,a2,k,a4,a,rfl⟩
  simp only[sz,simprocAttr,p,j]
 ·have st:∀g:G,eI (Xs 5 [[X8 0,.nils,.nils,.nils,.nils]]) g 1 0 0 5 0 (.agg [X8 n.grain,b',cv,sv,oz])=.upd .undef (g.put 1 (Xs 5 [[X8 n.grain,b',cv,sv,oz]])):=λg=>by
   have h1:=hb.2;have h2:=f.2;have c:=m.2;have h4:=l.2;unfold SlV at h1 h2 c h4
   split at h1<;>split at h2<;>split at c<;>split at h4<;>first|rfl|exact h1.elim|exact h2.elim|exact c.elim|exact h4.elim
  simp only[sz,simprocAttr,p,st,j]
theorem R1(a1 a2 a3 a4 a5 a6 a7 a8:AV):aI (Xs 8 [[a1,a2,a3,a4,a5,a6,a7,a8]]) 0 0 true 2 0=.val (.agg [a1,a2]):=rfl
theorem tR[XOc]{d:Nat}{v:Int}(hd:0<d)(hk:k<=d)(hr:NR n)(hm:∀h,Agg n NoP 0 h (.agg [X8 n.grain,b]))(hev:SlR NoP k .nil e ev)(he:S.SL n e=true)
  (hq:g.h.get q=fp n.grain b ev v value bn bd ks) (kk:S.SM n e≠0->K (.tup []) g) (kp:S.SM n e=0->KP (.ifc 47 (X8 7)) g) :
  CallsP C0 d 38 [X9 q] g K KP:=by
 have a:S.SN n e=0:=eQ.2 ⟨bw.2 hr,he⟩;have km:=λg:G=>M1 (d:=d) (g:=g) (n:=n) (e:=e) (v:=.agg [X8 n.grain,b]) hd (hm _) (hev.tree (h':=g.h) (Ui k)) hk;rw[S.TK,Un a,a]at km;refine fA m9 (by simp[dC]) ?_;unfold dC;dsimp only;rw[bJ];show wp C0 d none _ _ _ _ _;simp only[sz,simprocAttr,hq,fp,e_,R1,km];rw[aO,bJ];refine bc (by kernel_rfl) ?_;simp only[sz,simprocAttr];rw[bo];simp only[sz,simprocAttr];rw[gk,aO];unfold fk;refine bc (by kernel_rfl) ?_
 by_cases c:S.SM n e=0
 ·simp only[sz,simprocAttr,c];rw[bo];simp only[sz,simprocAttr];show wpQ C0 d ([o 22 (.raw (.makeInterface 47 (.const (.int .i64 7))))]++[oz (.raw (.panic (.tmp 22)))]) _ _ _ _;refine bZ (by kernel_rfl) ?_;simp only[sz,simprocAttr,Gy];refine JY (ty:=47) (v:=X8 7) (by simp[sx]) ?_;exact kp c
 ·simp only[sz,simprocAttr,c];rw[bo];simp only[sz,simprocAttr];rw[gk,nE];simp only[sz,simprocAttr];exact kk c
theorem qp[XOc]{d n:Nat}{z:Int}{Q:QP}{df:List ADf}(h:∀t,Q (.pan (.ifc 47 (X8 z))) t df g):wpP C0 d (.ops [o n (.raw (.makeInterface 47 (.const (.int .i64 z)))),oz (.raw (.panic (.tmp n)))]) Q t df g:=by show wpQ C0 d ([o n (.raw (.makeInterface 47 (.const (.int .i64 z))))]++[oz (.raw (.panic (.tmp n)))]) _ _ _ _;refine bZ (by show (true&&true)=true;rfl) ?_;simp only[sz,simprocAttr,Gy];exact JY (ty:=47) (v:=X8 z) (by simp[sx]) (h _)
theorem Pd(a1 a2 a3 a4 a5 a6 a7 a8:AV):aI (Xs 8 [[a1,a2,a3,a4,a5,a6,a7,a8]]) 0 0 false 1 7=.val a8:=rfl
theorem Rc{a c e:AV}(hb:b.cells=[b]/\b.isTup=false)(hc:c.cells=[c]/\c.isTup=false)(he:e.cells=[e]/\e.isTup=false) :
  eF [X8 0,.nils,.nils,X8 0,X8 0,X8 0,X8 0,X_ 0] [((0,2),.agg [a,b]),((2,1),c),((3,1),e)]=some [a,b,c,e,X8 0,X8 0,X8 0,X_ 0]:=by
 simp[eF,hb,hc,he,dP,bi,xJ,xR]
theorem Hr[XOc]{d:Nat}{g0:G}(hnr:S.SW n=true)(hN:SlR NoP 0 .nil n.nodes b)(hm:∀h,Agg n NoP 0 h (.agg [X8 n.grain,b]))(hev:SlR NoP k .nil e ev)
  (hw:ah g.h 1 w=some (l.map ci)) (hwi:∀i,vid w=some i->i<g.nx) (hll:l.length<=1000) (hok:S.TG n e vn)
  (hf0:Fr g g0) (hg0:g0.h.get g.nx=Xs 2 [[X8 n.grain,b]]) (hn0:g0.nx=g.nx+1) (h1:tat t 1=ev) (h2:tat t 2=X8 (vn:Int)) (h3:tat t 3=w) (h4:tat t 4=X9 g.nx)
  (kk:S.S6 n e vn l=0->∀q g',Fr g g'->g.nx<=q->q<g'.nx->g'.h.get q=fp n.grain b ev vn (l.head?.getD 0) 0 0 (S.kn e e.length)->K (X9 q) g')
  (kp:S.S6 n e vn l=2->∀g',Fr g g'->KP (.ifc 47 (X8 2)) g') :
  wpP C0 d gL (fnP C0 d [SR.tm 8] K KP) t [] g0:=by
 have hr:=bw.1 hnr;have h6:=hr.l2;obtain⟨C,-,V,W⟩:=hok;obtain⟨h5,-⟩:=dl.1 C;have rv:∀g',Fr g g'->ah g'.h 1 w=some (l.map ci):=λg' hf=>by rw[K9 hf hwi,hw]
 have nv:∀g',Fr g g'->jC .slice w g'=.val (X8 (l.length:Int)):=λg' hf=>by have:=AS (rv g' hf);rwa [UK]at this
 have re:=λh=>(hev.tree (h':=h) (Ui k)).ints;have ne:=λg=>hev.len g;obtain⟨b',rows,a,-,-,-,Z,r2,r3,r4⟩:=dt (g:=g) d (hm g.h);injection a with a;injection a with _ a;injection a with a _;subst a;unfold gL;refine bc (by kernel_rfl) ?_;have ld:aI (Xs 2 [[X8 n.grain,b]]) 0 0 true 2 0=.val (.agg [X8 n.grain,b]):=rfl;have cb:=hN.cell;have ce:=hev.cell;simp only[sz,simprocAttr,h1,h2,h4,hg0,ld,Rc cb ce (e:=X8 (vn:Int)) ⟨rfl,rfl⟩];obtain⟨g1,f⟩:∃g1,g1=g0.new (Xs 8 [[X8 n.grain,b,ev,X8 (vn:Int),X8 0,X8 0,X8 0,X_ 0]]):=⟨_,rfl⟩;rw[<-f];have e0:g1.h.get g.nx=Xs 2 [[X8 n.grain,b]]:=by rw[f];simp[SD,hg0,hn0]
 have e1:g1.h.get (g.nx+1)=fp n.grain b ev vn 0 0 0 0:=by rw[f];simp[SD,hn0,fp]
 have n1:g1.nx=g.nx+2:=by rw[f];simp;omega
 have f1:Fr g g1:=by rw[f];exact hf0.trans (Fr.new _ _)
 clear f;rw[bJ];refine bc (by kernel_rfl) ?_;simp only[sz,simprocAttr,h3,nv g1 f1];rw[EM,GQ];unfold mh;have nb:=λg:G=>(hN.tree (h':=g.h) (Ui 0)).len g;obtain⟨nd,M,-,-⟩:=ay (l:=n.nodes) (j:=vn) (by omega);obtain⟨x1,x2,q1,hlt,-⟩:=r3 vn nd M;have P:=r4 (by omega);have J:(S.Sx n)[vn]?.getD 0=nd.card:=by simp[S.Sx,M]
 have N:S.TG n e vn:=⟨C,by omega,V,W⟩;refine By (m:=l.length) (by omega) (λj t df g'=>df=[]/\St t [(1,ev),(2,X8 (vn:Int)),(9,X9 (g.nx+1)),(46,w)]/\Fr g g'/\g'.nx=g.nx+2/\g'.h.get (g.nx+1)=fp n.grain b ev vn (if j=0 then 0 else l.head?.getD 0) 0 0 0/\∀i,i<j->∀z,l[i]?=some z->S.Tc n vn z)
  ⟨rfl,by simp[St,sx,h1,h2,h3,hn0],f1,n1,e1,λi h=>absurd h (Nat.not_lt_zero i)⟩ (by simp[sx]) (by simp[sx]) (by decide)
  (by rintro j t df g v s (rfl|rfl|rfl) ⟨a1,⟨b1,b2,b3,b4,-⟩,c⟩<;>exact⟨a1,by simp[St,sx,b1,b2,b3,b4],c⟩) ?_ ?_
 ·clear h1 h2 h3 h4 e0 e1 n1 f1;rintro j t df g2 L ⟨rfl,⟨h1,h2,h9,E,-⟩,f2,n2,A,p⟩ o H;obtain⟨z,hz,-,X⟩:=ay L;have v1:j<(l.map ci).length:=by simpa using L
  have v2:(l.map ci)[j]?=some (ci z):=by rw[Uo,hz];rfl
  have rw2:=rv g2 f2;have bad2:¬S.Tc n vn z->S.S6 n e vn l=2:=λh=>Fz hnr λh2=>h (h2.2 z X);refine bc (by kernel_rfl) ?_;simp only[sz,simprocAttr,E,o,rw2,v1,v2,ci];rw[bJ];refine bc (by kernel_rfl) ?_;have ld4:∀x,aI (Xs 8 [[X8 n.grain,b,ev,X8 (vn:Int),x,X8 0,X8 0,X_ 0]]) 0 0 false 1 1=.val b:=λ_=>rfl
  by_cases c1:z<0
  ·have hf:=bad2 λh=>by have:=h.1;omega
   simp only[sz,simprocAttr,c1];rw[bo];simp only[sz,simprocAttr];exact qp λt=>kp hf g2 f2
  ·by_cases c2:nd.card<=z
   ·have hf:=bad2 λh=>by have:=h.2;rw[U2,J]at this;omega
    simp only[sz,simprocAttr,h2,h9,A,fp,e_,Z,hlt,q1,P,c1,c2];rw[bo];simp only[sz,simprocAttr];exact qp λt=>kp hf g2 f2
   ·have O:S.Tc n vn z:=⟨by omega,by rw[U2,J];omega⟩;have r:∀i,i<j+1->∀z',l[i]?=some z'->S.Tc n vn z':=λi hi z' u=>by
     by_cases e:i=j
     ·subst e;rw[hz]at u;injection u with u;subst u;exact O
     ·exact p i (by omega) z' u
    simp only[sz,simprocAttr,h2,h9,A,fp,e_,Z,hlt,q1,P,c1,c2];rw[bo];simp only[sz,simprocAttr];rw[gk,aO];unfold mj;refine bc (by kernel_rfl) ?_
    by_cases c3:j=0
    ·subst c3;have D:((0:Nat):Int)=0:=rfl;have hh:l.head?.getD 0=z:=by rw[List.head?_eq_getElem?,hz];rfl
     simp only[sz,simprocAttr,o,D];rw[bo];simp only[sz,simprocAttr];refine xp (by kernel_rfl) ?_;simp only[sz,simprocAttr,h9,A,fp,e_];refine⟨⟨rfl,by simp[St,sx,h1,h2,h9,E],⟨?_,λi hi=>?_⟩,?_,?_,r⟩,by simp[sx,o],by simp[sx,H]⟩
     ·simp[n2]
     ·rw[G.put_h,aL _ _ _ (by omega)];exact f2.2 i hi
     ·simp[n2]
     ·simp[SD,hh,fp]
    ·have D:¬(j:Int)=0:=by omega
     simp only[sz,simprocAttr,o,D];rw[bo];simp only[sz,simprocAttr];rw[gk];rw[Um c3]at A;exact⟨⟨rfl,by simp[St,sx,h1,h2,h9,E],f2,n2,A,r⟩,by simp[sx,o],by simp[sx,H]⟩
 ·clear h1 h2 h3 h4 e0 e1 n1 f1;rintro t df g2 ⟨rfl,⟨h1,h2,h9,-⟩,f2,n2,A,p⟩;have hf:=IL (l:=l) hnr N λz hz=>by obtain⟨i,hi⟩:=UG hz;exact p i (Uh.1 hi).1 z hi
  have A:g2.h.get (g.nx+1)=fp n.grain b ev vn (l.head?.getD 0) 0 0 0:=by
   rw[A]
   by_cases c:l.length=0
   ·rw[Un c];have:l=[]:=UJ c;subst this;rfl
   ·rw[Um c]
  rw[wS,Un rfl,aO];unfold mq;rw[bJ];refine bc (by kernel_rfl) ?_;simp only[sz,simprocAttr,h1,ne];rw[EM,GQ];unfold mi;refine By (m:=e.length) hev.1 (λj t df g'=>df=[]/\St t [(9,X9 (g.nx+1)),(76,ev)]/\Fr g g'/\g.nx+2<=g'.nx/\g'.h.get (g.nx+1)=fp n.grain b ev vn (l.head?.getD 0) 0 0 (S.kn e j))
   ⟨rfl,by simp[St,sx,h9],f2,by omega,A⟩ (by simp[sx]) (by simp[sx]) (by decide)
   (by rintro j t df g v s (rfl|rfl|rfl) ⟨a1,⟨b1,b2,-⟩,c⟩<;>exact⟨a1,by simp[St,sx,b1,b2],c⟩) ?_ ?_
  ·clear h1 h2 h9 f2 n2 A;rintro j t df g3 L ⟨rfl,⟨h9,F,-⟩,R,n3,Q⟩ B I;obtain⟨y,Y,-,-⟩:=ay L;have u1:j<(e.map ci).length:=by simpa using L
   have u2:(e.map ci)[j]?=some (ci y):=by rw[Uo,Y];rfl
   have hk:=Ja (by omega) Y;have U:=Dx (S.kn e j) (S.S3 j) (Eb (by omega)) (vp j);refine bc (by kernel_rfl) ?_;simp only[sz,simprocAttr,F,B,re,u1,u2,ci];refine bc (by kernel_rfl) ?_
   by_cases c:0<=y
   ·rw[Un c]at hk;simp only[sz,simprocAttr,c];rw[bo];simp only[sz,simprocAttr];show wp C0 d none _ _ _ _ _;simp only[sz,simprocAttr,sf,h9,B,Q,fp,e_,oa,U];refine⟨bf (false::(XI (true::[]))) [] (by simp[All2,am,aA]) (by decide) (by simp),⟨rfl,by simp[St,sx,h9,F],⟨?_,λi hi=>?_⟩,?_,?_⟩,by simp[sx,B],by simp[sx,I]⟩
    ·simp;omega
    ·simp[SD,show ¬i=g.nx+1 by omega,R.2 i hi]
    ·simp;omega
    ·simp[SD,hk,fp]
   ·rw[Um c]at hk;simp only[sz,simprocAttr,c];rw[bo];simp only[sz,simprocAttr];rw[gk];exact⟨⟨rfl,by simp[St,sx,h9,F],R,n3,by rw[hk];exact Q⟩,by simp[sx,B],by simp[sx,I]⟩
  ·rintro t df g3 ⟨rfl,⟨h9,-⟩,R,n3,Q⟩;rw[wS,Un rfl,aO];unfold mo;refine bc (by kernel_rfl) ?_;simp only[sz,simprocAttr,h9];rw[mL,nE];simp only[sz,simprocAttr];exact kk hf _ g3 R (by omega) (by omega) Q
theorem vV[XOc]{d:Nat}{v:Int}(hd:0<d)(hm:∀h,Agg n NoP 0 h (.agg [X8 n.grain,b]))(hev:SlR NoP k .nil e ev)
  (hw:ah g.h 1 w=some (l.map ci)) (hwi:∀i,vid w=some i->i<g.nx) (hll:l.length<=1000)
  (kk:S.S6 n e v l=0->∀q g',Fr g g'->g.nx<=q->q<g'.nx->g'.h.get q=fp n.grain b ev v (l.head?.getD 0) 0 0 (S.kn e e.length)->K (X9 q) g')
  (kp:S.S6 n e v l≠0->∀g',Fr g g'->KP (.ifc 47 (X8 (S.S6 n e v l))) g') :
  CallsP C0 d 36 [.agg [X8 n.grain,b],ev,X8 v,w] g K KP:=by
 have re:=λh=>(hev.tree (h':=h) (Ui k)).ints;have ne:=λg=>hev.len g;have kc:=λg:G=>KT (d:=d) (g:=g) (n:=n) (v:=.agg [X8 n.grain,b]) hd (hm _);have ke:=λg:G=>E_ (d:=d) (g:=g) (n:=n) (e:=e) (v:=.agg [X8 n.grain,b]) hd (hm _) (hev.tree (h':=g.h) (Ui k));refine fA wG (by simp[j9]) ?_;unfold j9;dsimp only;refine bc (by kernel_rfl) ?_;simp only[sz,simprocAttr];obtain⟨g1,c⟩:∃g1,g1=g.new (Xs 2 [[X8 n.grain,b]]):=⟨_,rfl⟩;rw[<-c];have e1:g1.h.get g.nx=Xs 2 [[X8 n.grain,b]]:=by rw[c];simp[SD]
 have n1:g1.nx=g.nx+1:=by rw[c];simp
 have f1:Fr g g1:=by rw[c];exact Fr.new _ _
 clear c;have ld:aI (Xs 2 [[X8 n.grain,b]]) 0 0 true 2 0=.val (.agg [X8 n.grain,b]):=rfl;have ld1:aI (Xs 2 [[X8 n.grain,b]]) 0 0 false 1 1=.val b:=rfl;unfold np;rw[bJ];refine bc (by kernel_rfl) ?_
 by_cases hnr:S.SW n=true
 rotate_left
 ·have f:S.SW n=false:=by simpa using hnr
  have hf:=Mq (e:=e) (v:=v) (l:=l) f;simp only[sz,simprocAttr,e1,ld,kc,f];rw[bo];simp only[sz,simprocAttr];refine qp λt=>?_;have:=kp (by rw[hf];decide) g1 f1;rw[hf]at this;exact this
 have hr:=bw.1 hnr;obtain⟨b',rows,a,-,-,hN,z,A,B,C⟩:=dt (g:=g) d (hm g.h);injection a with a;injection a with _ a;injection a with a _;subst a;have nb:=λg:G=>(hN.tree (h':=g.h) (Ui 0)).len g;simp only[sz,simprocAttr,e1,ld,kc,hnr];rw[bo];simp only[sz,simprocAttr];rw[gk,aO];unfold mr;rw[bJ];refine bc (by kernel_rfl) ?_;have bad:∀(t:T) (W:PT),¬S.TG n e v->wpP C0 d (.ops [o 40 (.raw (.makeInterface 47 (.const (.int .i64 2)))),oz (.raw (.panic (.tmp 40)))]) (kSP W (fnP C0 d [SR.tm 8] K KP)) t [] g1:=λt W h=>by have hf:=Fz (l:=l) hnr λh2=>h h2.1;refine qp λt=>?_;have:=kp (by rw[hf];decide) g1 f1;rw[hf]at this;exact this
 by_cases hevd:S.SL n e=true
 rotate_left
 ·have j:S.SL n e=false:=by simpa using hevd
  have m:S.SN n e=2:=by rw[S.SN,hnr,j];rfl
  simp only[sz,simprocAttr,e1,ld,ke,m];rw[bo];simp only[sz,simprocAttr];exact bad _ _ λh=>hevd h.1
 have m:S.SN n e=0:=eQ.2 ⟨hnr,hevd⟩;rw[m]at ke;obtain⟨x,-⟩:=dl.1 hevd
 by_cases hv0:v<0
 ·simp only[sz,simprocAttr,e1,ld,ke,hv0];rw[bo];simp only[sz,simprocAttr];exact bad _ _ λh=>by have:=h.2.1;omega
 obtain⟨vn,rfl⟩:=Ur (show 0<=v by omega)
 by_cases hv1:(n.nodes.length:Int)<=(vn:Int)
 ·simp only[sz,simprocAttr,e1,ld,ld1,ke,hv0,nb,hv1];rw[bo];simp only[sz,simprocAttr];exact bad _ _ λh=>by have:=h.2.2.1;omega
 have p:vn<e.length:=by omega
 obtain⟨y,r⟩:∃y,e[vn]?=some y:=⟨_,Uj p⟩;have s:vn<(e.map ci).length:=by simpa using p
 have u:(e.map ci)[vn]?=some (ci y):=by rw[Uo,r];rfl
 by_cases hy0:0<=y
 ·simp only[sz,simprocAttr,e1,ld,ld1,ke,hv0,nb,hv1,re,s,u,ci,hy0];rw[bo];simp only[sz,simprocAttr];exact bad _ _ λh=>by have:=h.2.2.2;rw[U2,r,Us]at this;omega
 simp only[sz,simprocAttr,e1,ld,ld1,ke,hv0,nb,hv1,re,s,u,ci,hy0];rw[bo];simp only[sz,simprocAttr];rw[gk,aO];exact Hr hnr hN hm hev hw hwi hll ⟨hevd,by omega,by omega,by rw[U2,r,Us];omega⟩ f1 e1 n1 (by simp[sx]) (by simp[sx]) (by simp[sx]) (by simp[sx]) kk λh g' hf=>by have:=kp (by rw[h];decide) g' hf;rwa [h]at this
end
section
variable {C:Cfg}{d:Nat}
theorem bS{Q:QP}{dst:Option Nat}{xs:List Od}{r:List SI}{df:List ADf}{ys:List AV}(hs:mc C f=false)(hy:eH t xs=ys)
  (h:CallsP C d f ys g (λv g'=>wpQ C d r Q (nY dst t v) df g') λv g'=>Q (.pan v) t df g'):wpQ C d (⟨dst,none,.call f xs⟩::r) Q t df g:=by
 subst hy;exact OA hs h
end
section
variable {n:Net}
def S.Ti(bn bd:Int):Prop:=S.TB bn bd/\0<=bn/\bn<=bd
theorem Rg(a b:AV):aI (Xs 2 [[a,b]]) 0 0 false 1 0=.val a:=rfl
theorem RZ(a b:AV):aI (Xs 2 [[a,b]]) 0 0 false 1 1=.val b:=rfl
theorem Ec(a b:AV):aI (Xs 2 [[a,b]]) 0 0 true 2 0=.val (.agg [a,b]):=rfl
theorem vv[XOc]{v b0 b1:Int}(hd:0<d)(hq:g.h.get q=fp gr b ev v value b0 b1 ks)(hqn:q<g.nx)
  (kk:S.Ti bn bd->∀g',g.nx<=g'.nx->(∀i,i<g.nx->i≠q->g'.h.get i=g.h.get i)->g'.h.get q=fp gr b ev v value bn bd ks->K (.tup []) g')
  (kp:¬S.Ti bn bd->∀g',Fr g g'->KP (.ifc 47 (X8 2)) g'):CallsP C0 d 37 [X9 q,.agg [X8 bn,X8 bd]] g K KP:=by
 have kc:=λg:G=>Hj (d:=d) (g:=g) (x:=bn) (y:=bd) hd;refine fA nW (by simp[dT]) ?_;unfold dT;dsimp only;refine bc (by kernel_rfl) ?_;simp only[sz,simprocAttr];obtain⟨g1,k⟩:∃g1,g1=g.new (Xs 2 [[X8 bn,X8 bd]]):=⟨_,rfl⟩;rw[<-k];have e1:g1.h.get g.nx=Xs 2 [[X8 bn,X8 bd]]:=by rw[k];simp[SD]
 have n1:g1.nx=g.nx+1:=by rw[k];simp
 have f1:Fr g g1:=by rw[k];exact Fr.new _ _
 clear k;have q1:g1.h.get q=fp gr b ev v value b0 b1 ks:=by rw[f1.2 q hqn,hq]
 unfold fY;rw[bJ];refine bc (by kernel_rfl) ?_;have bad:∀(t:T) (W:PT),¬S.Ti bn bd->wpP C0 d (.ops [o 19 (.raw (.makeInterface 47 (.const (.int .i64 2)))),oz (.raw (.panic (.tmp 19)))]) (kSP W (fnP C0 d [] K KP)) t [] g1:=λt W h=>qp λt=>kp h g1 f1
 by_cases c1:S.TB bn bd
 rotate_left
 ·rw[Um c1]at kc;simp only[sz,simprocAttr,e1,Ec,kc];rw[bo];simp only[sz,simprocAttr];exact bad _ _ λh=>c1 h.1
 rw[Un c1]at kc
 by_cases c2:bn<0
 ·simp only[sz,simprocAttr,e1,Ec,Rg,kc,c2];rw[bo];simp only[sz,simprocAttr];exact bad _ _ λh=>by have:=h.2.1;omega
 by_cases c3:bd<bn
 ·simp only[sz,simprocAttr,e1,Ec,Rg,RZ,kc,c2,c3];rw[bo];simp only[sz,simprocAttr];exact bad _ _ λh=>by have:=h.2.2;omega
 simp only[sz,simprocAttr,e1,Ec,Rg,RZ,kc,c2,c3];rw[bo];simp only[sz,simprocAttr];rw[gk,aO];unfold fJ;refine xp (by kernel_rfl) ?_;simp only[sz,simprocAttr,e1,Ec,q1,fp,e_];rw[nE];simp only[sz,simprocAttr];refine kk ⟨c1,by omega,by omega⟩ _ (by simp;omega) (λi hi hne=>?_) ?_
 ·simp[SD,hne,f1.2 i hi]
 ·simp[SD,fp]
def S.TY(n:Net)(e:List Int)(v k:Nat):QI:=(S.S0 n e v)[k]?.getD (0,1)
def S.S7(n:Net)(e:List Int)(s v k:Nat)(bn bd:Int):Bool:=decide (bn.toNat*(S.TY n (S.SP e s) v k).2.toNat<=(S.TY n (S.SP e s) v k).1.toNat*bd.toNat)
theorem CZ(c w:Nat)(w0:0<w):∃u u':Nat,S.Tg c w=((u:Int),(u':Int))/\Nat.gcd u u'=1/\0<u'/\u*w=c*u'/\u<=c/\u'<=w:=by have g0:0<Nat.gcd c w:=Nat.gcd_pos_of_pos_right _ w0;refine⟨c / Nat.gcd c w,w / Nat.gcd c w,rfl,Nat.gcd_div_gcd_div_gcd_of_pos_right w0,Nat.div_pos (Nat.le_of_dvd w0 (Nat.gcd_dvd_right _ _)) g0,?_,V9 _ _,V9 _ _⟩;obtain⟨x,hx⟩:=Nat.gcd_dvd_left c w;obtain⟨y,h⟩:=Nat.gcd_dvd_right c w;generalize Nat.gcd c w=z at *;subst hx;subst h;rw[Nat.mul_div_cancel_left _ g0,Nat.mul_div_cancel_left _ g0];ac_rfl
theorem C5(hr:NR n)(hz:S.SM n e≠0)(hk:k<((S.Sx n)[v]?.getD 0).toNat):∃u u':Nat,(S.S0 n e v)[k]?=some ((u:Int),(u':Int))/\S.TY n e v k=((u:Int),(u':Int))/\Nat.gcd u u'=1/\0<u'/\u<=4611686018427387903/\u'<=4611686018427387903:=by have h1:=oq hr e;have h2:=zw hr (p:=S.pq n e v (k:Int)) (j:=S.SZ n) hr.wl.2.1;obtain⟨u,u',e1,a,b,-,c,d⟩:=CZ (S.SJ n (S.pq n e v (k:Int)) (S.SZ n)).toNat (S.SM n e).toNat (by omega);have h:=FV (n:=n) (e:=e) hk;rw[e1]at h;exact⟨u,u',h,by rw[S.TY,h];rfl,a,b,by omega,by omega⟩
theorem FK{b:Nat}:(0<=S.Th a b)↔b<=a:=by
 unfold S.Th
 split
 ·omega
 ·split<;>omega
theorem So(a1 a2 a3 a4 a5 a6 a7 a8:AV):aI (Xs 8 [[a1,a2,a3,a4,a5,a6,a7,a8]]) 0 0 false 1 3=.val a4:=rfl
theorem Sp(a1 a2 a3 a4 a5 a6 a7 a8:AV):aI (Xs 8 [[a1,a2,a3,a4,a5,a6,a7,a8]]) 0 0 false 1 4=.val a5:=rfl
theorem Sq(a1 a2 a3 a4 a5 a6 a7 a8:AV):aI (Xs 8 [[a1,a2,a3,a4,a5,a6,a7,a8]]) 0 0 true 2 5=.val (.agg [a6,a7]):=rfl
theorem ym[XOc](hd:0<d)(hr:NR n)(hm:∀h,Agg n NoP 0 h (.agg [X8 n.grain,b]))(hev:SlR NoP k .nil e ev)(he:S.SL n e=true)(hvl:vn<e.length)(hx:S.Tc n vn kn)(hz:S.SM n (S.SP e s)≠0)(hs:s<18446744073709551616)(hb:S.Ti bn bd)
  (hq:g.h.get q=fp n.grain b ev vn kn bn bd ks) (hqn:q<g.nx) (kk:∀g',Ug g g'->K (.agg [.bool (S.S7 n e s vn kn bn bd)]) g') :
  wp C0 d none bp.code (fnQ C0 d bp.res K) (ba 0 [X9 q,X_ (s:Int)] .nil) [] g:=by
 have Z:=hr.l2;obtain⟨X,C⟩:=dl.1 he;have h1:=kZ e s;obtain⟨⟨⟨Q,R,T,V⟩,A⟩,t,W⟩:=hb;obtain⟨bnn,rfl⟩:=Ur t;obtain⟨bdn,rfl⟩:=Ur (show 0<=bd by omega);have D:kn<((S.Sx n)[vn]?.getD 0).toNat:=by have:=hx.2;rw[U2]at this;omega
 obtain⟨u,u',p1,p2,p3,p4,p5,p6⟩:=C5 hr (v:=vn) hz D;have kc:=λg:G=>II (d:=d) (g:=g) hd p5 p6 (show bnn<=4611686018427387903 by omega) (show bdn<=4611686018427387903 by omega) p4 (show 0<bdn by omega) p3 (by simpa using A);have Y:S.S7 n e s vn kn (bnn:Int) (bdn:Int)=decide (0<=S.Th (u*bdn) (bnn*u')):=by rw[S.S7,p2,U7,decide_eq_true_iff,decide_eq_true_iff,FK];simp
 have B:∀i,i<e.length->0<=(S.Sx n)[i]?.getD 0:=λi hi=>by have:=C i hi;omega
 have j:S.SL n (S.SP e s)=true:=Fq he B;have E:S.SN n (S.SP e s)=0:=eQ.2 ⟨bw.2 hr,j⟩;have L:S.Tf n (S.SP e s) vn=0:=by rw[S.Tf,Un E,Un ⟨by omega,by omega⟩,Um hz]
 have P:S.Tk n (S.SP e s) vn=S.S0 n (S.SP e s) vn:=by rw[S.Tk,Un L,U2]
 unfold bp;dsimp only;simp only[sz,simprocAttr];obtain⟨g1,a⟩:∃g1,g1=g.new (Xs 1 [[.bool false]]):=⟨_,rfl⟩;rw[<-a];have e1:g1.h.get g.nx=Xs 1 [[.bool false]]:=by rw[a];simp[SD]
 have n1:g1.nx=g.nx+1:=by rw[a];simp
 have N:Ug g g1:=by rw[a];exact Ug.new _ _
 clear a;have q1:g1.h.get q=fp n.grain b ev vn kn bnn bdn ks:=by rw[N.up.1 q hqn,hq]
 have m:g1.h.get q=Xs 8 [[X8 n.grain,b,ev,X8 (vn:Int),X8 (kn:Int),X8 (bnn:Int),X8 (bdn:Int),X_ (ks:Int)]]:=q1;unfold fK;simp only[sz,simprocAttr,sf,m,e_,R1];refine Pz hev (by omega) hs (by simpa using q1) (by simp;omega) λU g2 o2 ug2=>?_;have n2:g1.nx<=g2.nx:=by have:=ug2.nx;simp at this;omega
 have G2:∀i,i<g1.nx->g2.h.get i=g1.h.get i:=λi hi=>by have:=ug2.up.1 i (by simp;omega);simpa using this
 have l2:∀i∈g2.lg,g1.nx<=i:=λi hi=>by have:=ug2.up.2 i hi;simp at this;omega
 have q2:g2.h.get q=Xs 8 [[X8 n.grain,b,ev,X8 (vn:Int),X8 (kn:Int),X8 (bnn:Int),X8 (bdn:Int),X_ (ks:Int)]]:=by rw[G2 q (by omega),m]
 have hsl:∀g:G,g.h=g2.h->SlR (λ_=>True) 0 g.h (S.SP e s) U:=λg hg=>by obtain⟨w,hw,h⟩:=o2.ints (k:=0) (by omega);injection hw with hw;subst hw;rw[hg];exact h
 simp only[sz,simprocAttr,sf,q2,e_,So];refine dE (uY (n:=n) (e:=S.SP e s) (z:=vn) hd (hm _) (hsl _ (by simp)) (by omega)) λr hr5=>?_;obtain⟨r1,r2,rfl,q3,o⟩:=hr5;have o:=ax.1 o;injection o with o;subst o;obtain⟨w1,c,q3⟩:=q3;injection c with c;subst c;rw[P]at q3;rw[L];simp only[sz,simprocAttr,sf];refine⟨?_,?_⟩
 ·simp only[UQ,UP,UM,UE];refine bf (XK (XJ (true::(XK (XI []))))) [(0,6),(1,6),(2,6),(3,6),(6,7),(6,8),(6,9),(6,10)] (by simp[All2,am,aA,pd,tC,cK]) (by decide) ?_;intro pp l x y hx M;simp only[UW,Uu,WK]at l;rcases l with rfl|rfl|rfl|rfl|rfl|rfl|rfl|rfl<;>(simp only[List.getElem?_cons_zero,WP,Vo]at hx M;subst hx;subst M)
  ·exact mN rfl rfl rfl λi hi hc=>by simp[aA]at hc
  ·exact mN rfl rfl rfl λi hi hc=>by simp[aA]at hc
  ·exact mN rfl rfl rfl λi hi hc=>by simp[aA]at hc
  ·refine mN rfl rfl rfl λi hi hc=>?_;simp[am,tT]at hc;subst hc;have:=l2 _ hi;omega
  ·exact qr rfl rfl rfl λi hi hc=>by simp[aA]at hc
  ·exact qr rfl rfl rfl λi hi hc=>by simp[aA]at hc
  ·exact qr rfl rfl rfl λi hi hc=>by simp[aA]at hc
  ·refine qr rfl rfl rfl λi hi hc=>?_;simp[am,tT]at hc;subst hc;have:=l2 _ hi;omega
 generalize hG3:od _ _=g3;have u3:Ug g g3:=by
  rw[<-hG3];refine N.trans ⟨by simp;omega,⟨λi hi=>by simpa using G2 i hi,λi hi=>?_⟩⟩;simp at hi;rcases hi with hi|hi
  ·exact .inr (l2 i hi)
  ·exact .inl hi
 have O:g3.h.get g.nx=Xs 1 [[.bool false]]:=by rw[<-hG3];simp;rw[G2 _ (by omega),e1]
 have H:g3.h.get q=Xs 8 [[X8 n.grain,b,ev,X8 (vn:Int),X8 (kn:Int),X8 (bnn:Int),X8 (bdn:Int),X_ (ks:Int)]]:=by rw[<-hG3];simpa using q2
 clear hG3;obtain⟨rows,f,h2,I,J⟩:=q3.all;obtain⟨row,p,y2⟩:=I kn _ p1;obtain⟨ya,yb,rfl,yc,yd⟩:=rf.1 y2;rw[ax.1 yc,ax.1 yd]at p;have f:∀h',ah h' 2 r1=some rows:=f;have p:rows[kn]?=some [X8 (u:Int),X8 (u':Int)]:=p;have hlt:kn<rows.length:=(Uh.1 p).1;have F:=J (by omega);unfold fj;simp only[sz,simprocAttr,H,e_,Sp,Sq,f,hlt,p,F,kc];unfold fg;have fb:∀x:Bool,eF [.bool false] [((0,1),.bool x)]=some [.bool x]:=λx=>rfl;have ldt:∀x:Bool,aI (Xs 1 [[.bool x]]) 0 0 true 1 0=.val (.agg [.bool x]):=λx=>rfl;simp only[sz,simprocAttr,fb,O,ldt];rw[<-Y];exact kk _ ⟨by have:=u3.nx;simpa using this,u3.up.trans (Up.put (Ui _) _)⟩
theorem Fa[XOc](hd:0<d)(hr:NR n)(hm:∀h,Agg n NoP 0 h (.agg [X8 n.grain,b]))(hev:SlR NoP k .nil e ev)(he:S.SL n e=true)(hvl:vn<e.length)(hx:S.Tc n vn kn)(hz:S.SM n (S.SP e s)≠0)(hs:s<18446744073709551616)(hb:S.Ti bn bd)
  (hq:g.h.get q=fp n.grain b ev vn kn bn bd ks) (hqn:q<g.nx) (kk:∀g',Ug g g'->K (.agg [.bool (S.S7 n e s vn kn bn bd)]) g') :
  (ae C0 d 39 [X9 q,X_ (s:Int)] g).sat K g D:=by
 rw[lN];exact kJ fQ (by simp[bp]) (ym hd hr hm hev he hvl hx hz hs hb hq hqn kk)
theorem DG[XOc](hd:0<d)(hr:NR n)(hm:∀h,Agg n NoP 0 h (.agg [X8 n.grain,b]))(hev:SlR NoP k .nil e ev)(he:S.SL n e=true)(hvl:vn<e.length)(hx:S.Tc n vn kn)(hz:S.SM n (S.SP e s)≠0)(hs:s<18446744073709551616)(hb:S.Ti bn bd)
  (hq:g.h.get q=fp n.grain b ev vn kn bn bd ks) (hqn:q<g.nx) (kk:∀g',Ug g g'->K (.agg [.bool (S.S7 n e s vn kn bn bd)]) g') :
  CallsP C0 d 39 [X9 q,X_ (s:Int)] g K KP :=
 pM fQ (by kernel_rfl) (by simp[bp]) (ym hd hr hm hev he hvl hx hz hs hb hq hqn kk)
end
section
variable {b c:Nat}
theorem HW{C:Cfg}{ty kt et:Nat}(hu:C.P.underlying ty=some (.map kt et))(d:Nat)(rd:Option Nat)(t:T)(g:G):(bC C (.mapUpdate ty (.tmp a) (.tmp b) (.tmp c))).run (I C) d rd t g=dq (ck C.P kt) (λt=>tat t a) (λt=>tat t b) (λt=>tat t c) t g:=by obtain⟨h,e1,j⟩:=aM (C:=C) (x:=.tmp a) (o:=.t a) rfl;obtain⟨k,f,l⟩:=aM (C:=C) (x:=.tmp b) (o:=.t b) rfl;obtain⟨e,i,m⟩:=aM (C:=C) (x:=.tmp c) (o:=.t c) rfl;rw[bI (s:=⟨dq (ck C.P kt) h.run k.run e.run⟩) rfl (by simp only[cm,e1,f,i,hu])];rw[show h.run=λt=>tat t a from funext j,show k.run=λt=>tat t b from funext l,show e.run=λt=>tat t c from funext m]
theorem Kz{C:Cfg}{ty:Nat}(t:T)(g:G):SO.foot C t g (.raw (.mapUpdate ty (.tmp a) (.tmp b) (.tmp c)))=am (af (tat t a)):=by
 obtain⟨k,e1,h⟩:=aM (C:=C) (x:=.tmp a) (o:=.t a) rfl;show (aH C _).run t g=_;simp only[aH,e1,h]
 rfl
def BL(x:Bool):AV:=.clo 40 [.agg [.bool x]] []
def sG(f:Nat->Bool)(s:Nat):AV×AV:=(X_ (s:Int),BL (f s))
theorem RY(a b:Nat):jP (X_ (a:Int)) (X_ (b:Int))=some (decide (a=b)):=by show some (AG (a:Int) (b:Int))=_;rw[kV];congr 1;rw[U7,decide_eq_true_iff,decide_eq_true_iff];omega
theorem GA{f:Nat->Bool}{a:Nat}{x:AV}:∀{l:List Nat},a ∉ l->Gz (X_ (a:Int)) x (l.map (sG f))=some (l.map (sG f)++[(X_ (a:Int),x)])
 |[],_=>rfl
 | b::r,h=>by have h1:a≠b:=λe=>h (by simp[e]);have ih:=GA (f:=f) (x:=x) (a:=a) (l:=r) λe=>h (by simp[e]);rw[VM,sG,Gz,RY,Va h1];dsimp only;rw[ih];rfl
theorem Fx{f:Nat->Bool}{a:Nat}:∀{l:List Nat},a∈l->jO (X_ (a:Int)) (l.map (sG f))=some (some (BL (f a)))
 | b::r,h=>by
  rw[VM,sG,jO,RY]
  by_cases e:a=b
  ·subst e;rw[VA rfl]
  ·rw[Va e];have:a∈r:=by simpa [e] using h
   exact Fx this
def ktH[XOc]:Nat:=match C0.P.underlying 102 with|some (.map k _)=>k|_=>0
def etH[XOc]:Nat:=match C0.P.underlying 102 with|some (.map _ e)=>e|_=>0
theorem QO[XOc]:C0.P.underlying 102=some (.map ktH etH):=by kernel_rfl
theorem Qv[XOc]:ck C0.P ktH=.one (.int .u64):=by kernel_rfl
theorem Sw[XOc]:rR C0.P etH=some .nilf:=by kernel_rfl
theorem Sc[XOc]{rd:Option Nat}{id:Nat}{f:Nat->Bool}{l:List Nat}(h1:tat t a=.hmap id)(h2:tat t b=X_ (k:Int))(h3:tat t c=BL (f k))(hk:k ∉ l)(hg:g.h.get id=.map (l.map (sG f))) :
  (bC C0 (.mapUpdate 102 (.tmp a) (.tmp b) (.tmp c))).run (I C0) d rd t g=.upd .undef (g.put id (.map ((l++[k]).map (sG f)))):=by
 rw[HW QO,Qv];unfold dq;dsimp only;rw[h1,h2,h3,show jQ (.one (.int .u64)) (X_ (k:Int))=true from rfl];simp only[G.get_eq,hg,GA hk];rw[Wh];rfl
theorem Nf[XOc]{rd:Option Nat}{id:Nat}{f:Nat->Bool}{l:List Nat}(h1:tat t a=.hmap id)(h2:tat t b=X_ (k:Int))(hk:k∈l)(hg:g.h.get id=.map (l.map (sG f))) :
  (bC C0 (.lookup 102 (.tmp a) (.tmp b) false)).run (I C0) d rd t g=.val (BL (f k)):=by
 have:=Be (a:=a) (b:=b) (ok:=false) QO Sw d rd t g;rw[show (SO.raw (.lookup 102 (.tmp a) (.tmp b) false)).run C0 d rd t g=(bC C0 (.lookup 102 (.tmp a) (.tmp b) false)).run (I C0) d rd t g from rfl]at this;rw[this,Qv];unfold cz;dsimp only;rw[h1,h2,show jQ (.one (.int .u64)) (X_ (k:Int))=true from rfl];simp only[G.get_eq,hg,Fx hk]
theorem Ri[XOc](d:Nat)(rd:Option Nat)(t:T)(g:G):(bC C0 (.makeMap 102 none)).run (I C0) d rd t g=.upd (.hmap g.nx) (g.new (.map [])):=by kernel_rfl
theorem qo{l:List Nat}(h:l[j]?=some a):l.take (j+1)=l.take j++[a]:=by obtain⟨x,hx,ht,-⟩:=ay (l:=l) (j:=j) (Uh.1 h).1;rw[h]at hx;injection hx with hx;subst hx;exact ht
theorem OW(h:(S.SG s)[j]?=some a):a ∉ (S.SG s).take j:=by
 intro hm;obtain⟨i,hi⟩:=UG hm;rw[V_]at hi
 split at hi
 ·rename_i k;have h1:=(Uh.1 h);have h2:=(Uh.1 hi);have:=(VE.1 (Ha s)) i j h2.1 h1.1 k;omega
 ·cases hi
theorem sE[XOc]{b:AV}{n:Net}(hd:0<d)(hr:NR n)(hm:∀h,Agg n NoP 0 h (.agg [X8 n.grain,b]))(hev:SlR NoP k .nil e ev)(he:S.SL n e=true)(hvl:vn<e.length)(hx:S.Tc n vn kn)(hz:∀s,s &&& ks=s->S.SM n (S.SP e s)≠0)(hks:ks<256)(hb:S.Ti bn bd)
  (hq:g.h.get q=fp n.grain b ev vn kn bn bd ks) (hqn:q<g.nx) (kk:∀mp g',Fr g g'->g.nx<=mp->mp<g'.nx->g'.h.get mp=.map ((S.SG ks).map (sG λs=>S.S7 n e s vn kn bn bd))->K (.hmap mp) g') :
  wp C0 d none aT.code (fnQ C0 d aT.res K) (ba 0 [X9 q] .nil) [] g:=by
 obtain⟨F,C⟩:∃F:Nat->Bool,F=λs=>S.S7 n e s vn kn bn bd:=⟨_,rfl⟩;rw[<-C]at kk;unfold aT eC;dsimp only;have v:∀g,EX (X9 q) g=.upd (X9 g.nx) (g.new (Xs 1 [[X9 q]])):=λg=>rfl;have B:∀(g:G) (id m:Nat),eI (Xs 1 [[.nilm]]) g id 0 0 1 0 (.hmap m)=.upd .undef (g.put id (Xs 1 [[.hmap m]])):=λ_ _ _=>rfl;have A:g.h.get q=Xs 8 [[X8 n.grain,b,ev,X8 (vn:Int),X8 (kn:Int),X8 bn,X8 bd,X_ (ks:Int)]]:=hq;have ks1:=λg:G=>Bq (d:=d) (s:=ks) (g:=g) hd;have z1:¬g.nx=g.nx+1+1:=by omega
 have z2:¬g.nx=g.nx+1:=by omega
 have z3:¬q=g.nx+1+1:=by omega
 have R:¬q=g.nx+1:=by omega
 have U:¬q=g.nx:=by omega
 have V:¬g.nx=g.nx+2:=by omega
 have W:¬q=g.nx+2:=by omega
 simp only[sz,simprocAttr,v,Ri,B,z1,z2,z3,R,U,V,W,A,e_,Pd,ks1];obtain⟨g1,c⟩:∃g1,g1=((((g.new (Xs 1 [[X9 q]])).new (.map [])).new (Xs 1 [[.nilm]]))).put (g.nx+2) (Xs 1 [[.hmap (g.nx+1)]]):=⟨_,rfl⟩;rw[<-c];have e1:g1.h.get g.nx=Xs 1 [[X9 q]]:=by rw[c];simp[SD];omega
 have M:g1.h.get (g.nx+1)=.map []:=by rw[c];simp[SD]
 have N:g1.h.get (g.nx+2)=Xs 1 [[.hmap (g.nx+1)]]:=by rw[c];simp[SD]
 have n1:g1.nx=g.nx+3:=by rw[c];simp
 have f1:Fr g g1:=by rw[c];exact⟨by simp;omega,λi hi=>by simp[SD,show ¬i=g.nx+2 by omega,show ¬i=g.nx+1 by omega,show ¬i=g.nx by omega]⟩
 clear c;have q1:g1.h.get q=Xs 8 [[X8 n.grain,b,ev,X8 (vn:Int),X8 (kn:Int),X8 bn,X8 bd,X_ (ks:Int)]]:=by rw[f1.2 q hqn,hq];rfl
 refine NP (ex:=.ret) (by intro h;cases h) hks (by simp[sx]) (by decide)
  (λj x=>(∀i,i<g.nx->x.h.get i=g.h.get i)/\x.h.get g.nx=Xs 1 [[X9 q]]/\x.h.get (g.nx+2)=Xs 1 [[.hmap (g.nx+1)]]/\x.h.get (g.nx+1)=.map (((S.SG ks).take j).map (sG F))) (λ_=>False) ?_ (λ_ _ _ _ h=>h) ?_ ?_ ?_ ?_
 ·rintro j x y - r ⟨a1,a2,l,a4⟩;exact⟨λi hi=>by rw[r i (by omega) (by omega),a1 i hi],by rw[r _ (by omega) (by omega),a2],by rw[r _ (by omega) (by omega),l],by rw[r _ (by omega) (by omega),a4]⟩
 ·exact⟨f1.2,e1,N,by rw[M];rfl⟩
 ·rintro j a g2 f ⟨a1,a2,l,a4⟩ P;have o:=(kY hks).1 (Ul f);have O:a<=ks:=by rw[<-o];exact Wl
  simp only[dV,sz,simprocAttr];refine⟨Fr.refl _,λg3 hn3 hg3 _=>?_⟩;have b1:g3.h.get g.nx=Xs 1 [[X9 q]]:=by rw[hg3 _ (by omega),a2]
  have b2:g3.h.get (g.nx+2)=Xs 1 [[.hmap (g.nx+1)]]:=by rw[hg3 _ (by omega),l]
  have E:g3.h.get (g.nx+1)=.map (((S.SG ks).take j).map (sG F)):=by rw[hg3 _ (by omega),a4]
  have H:g3.h.get q=fp n.grain b ev vn kn bn bd ks:=by rw[hg3 _ (by omega),a1 q hqn,hq]
  have J:∀i,i<g.nx->g3.h.get i=g.h.get i:=λi hi=>by rw[hg3 _ (by omega),a1 i hi]
  have u:F a=S.S7 n e a vn kn bn bd:=by rw[C]
  simp only[dW,sz,simprocAttr,sf,b1,b2];refine Fa hd hr hm hev he hvl hx (hz a o) (by omega) hb (by simpa using H) (by simp;omega) λg4 ug4=>?_;rw[<-u];have Y:g3.nx<=g4.nx:=by have:=ug4.nx;simp at this;omega
  have G4:∀i,i<g3.nx->g4.h.get i=g3.h.get i:=λi hi=>by have:=ug4.up.1 i (by simp;omega);simpa using this
  have Q:∀i∈g4.lg,g3.nx<=i:=λi hi=>by have:=ug4.up.2 i hi;simp at this;omega
  have L:g4.h.get (g.nx+1)=.map (((S.SG ks).take j).map (sG F)):=by rw[G4 _ (by omega),E]
  have up:∀(t:T) (g':G) (rd:Option Nat),tat t 12=.hmap (g.nx+1)->tat t 13=X_ (a:Int)->tat t 17=.clo 40 [.agg [.bool (F a)]] []->g'.h.get (g.nx+1)=.map (((S.SG ks).take j).map (sG F)) ->
   (bC C0 (.mapUpdate 102 (.tmp 12) (.tmp 13) (.tmp 17))).run (I C0) d rd t g'=.upd .undef (g'.put (g.nx+1) (.map (((S.SG ks).take (j+1)).map (sG F)))):=λt g' rd h1 h2 h3 h4=>by
   rw[Sc h1 h2 h3 (OW f) h4,qo f]
  simp only[sz,simprocAttr,sf,up,L,Kz];refine⟨?_,?_⟩
  ·simp only[UQ,UP,UM,UE];refine bf (XJ (true::(false::(true::[])))) [(0,4),(1,4)] (by simp[All2,am,aA,l0,cK]) (by decide) ?_;intro pp p x y hx D;simp only[UW,Uu,WK]at p;rcases p with rfl|rfl<;>(simp only[List.getElem?_cons_zero,WP,Vo]at hx D;subst hx;subst D)
   ·refine mN rfl rfl rfl λi hi hc=>?_;simp[am,tT]at hc;subst hc;have:=Q _ hi;omega
   ·exact mN rfl rfl rfl λi hi hc=>by simp[aA]at hc
  ·have z:=ug4.nx;simp at z;exact⟨by omega,by rw[Um (by omega),G4 _ (by omega)],by rw[Um (by omega),G4 _ (by omega)],.inl ⟨λi hi=>by rw[Um (by omega),G4 _ (by omega),J i hi],by rw[Um (by omega),G4 _ (by omega),b1],by rw[Um (by omega),G4 _ (by omega),b2]⟩⟩
 ·rintro g' ⟨a1,a2,l,a4⟩ X w;rw[U3]at a4;simp only[sz,simprocAttr,dX,l];refine iB w ?_;simp only[sz,simprocAttr];refine kk _ _ ⟨by simp;omega,λi hi=>?_⟩ (by omega) (by simp;omega) ?_
  ·simp[SD,show ¬i=g1.nx by omega,a1 i hi]
  ·simp[SD,show ¬g.nx+1=g1.nx by omega];rw[a4]
 ·exact λ_ h=>h.elim
end
def S.S2(R:Nat->Bool)(s:Nat):Bool:=R s&&(S.SG s).all λt=>decide (t=s) || !R t
def S.SE(s:Nat):Nat:=((List.range 8).filter λi=>s.testBit i).length
def rm(a b:Nat):Prop:=S.SE a<S.SE b\/(S.SE a=S.SE b/\a<b)
def xu[XOc]:Prop:=∀{d b:Nat} {u:AV} {g:G} {L:List Nat} {K:AV->G->Prop} {D:ADf->Prop},0<d->(∀x∈L,x<256)->L.Nodup->Own g b u 1 (L.map cu)->(L=[]->u=.nils) ->
 (∀(R:List Nat) (g':G),R.Perm L->R.Pairwise rm->Own g' b u 1 (R.map cu)->g.nx<=g'.nx->(∀i,vid u≠some i->g'.h.get i=g.h.get i)->K (.tup []) g')->(ae C0 d 85 [u,.clo 86 [] []] g).sat K g D
theorem ID(s:Nat):(S.SG s).length<=256:=by rw[S.SG,List.length_reverse];exact Uy (WC _ _) (by simp)
theorem Id(h1:a &&& s=a)(h2:s &&& k=s):a &&& k=a:=by rw[<-h1,Nat.and_assoc,h2]
theorem FX[XOc](hS:xu){fn:Nat}{v:Int}{cap:List AV}{R:Nat->Bool}(hd:0<d)(hks:ks<256)(hq:g.h.get q=fp gr b ev v value bn bd ks)(hqn:q<g.nx)
  (hR:∀a,a &&& ks=a->∀(g1:G) (K':AV->G->Prop) (D:ADf->Prop),g.nx<=g1.nx->(∀i,i<g.nx->g1.h.get i=g.h.get i)->(∀g2,g1.nx<=g2.nx->(∀i,g2.h.get i=g1.h.get i)->K' (.bool (R a)) g2)->(dj C0 (I C0) d (.clo fn [] cap) [X_ (a:Int)] g1).sat K' g1 D)
  (kk:∀(u:AV) (g':G) (L:List Nat) (B:Nat),Fr g g'->g.nx<=B->L.Perm ((S.SG ks).filter (S.S2 R))->L.Pairwise rm->Own g' B u 1 (L.map cu)->K u g') :
  wp C0 d none bH.code (fnQ C0 d bH.res K) (ba 0 [X9 q,.clo fn [] cap] .nil) [] g:=by
 unfold bH gU;dsimp only;have X:∀g,EX (.clo fn [] cap) g=.upd (X9 g.nx) (g.new (Xs 1 [[.clo fn [] cap]])):=λg=>rfl;have h5:g.h.get q=Xs 8 [[X8 gr,b,ev,X8 v,X8 value,X8 bn,X8 bd,X_ (ks:Int)]]:=hq;have ks1:=λ(g:G) (s:Nat)=>Bq (d:=d) (s:=s) (g:=g) hd;have z1:¬q=g.nx+1:=by omega
 have z2:¬q=g.nx:=by omega
 simp only[sz,simprocAttr,X,h5,e_,Pd,ks1,z1,z2];obtain⟨g1,f⟩:∃g1,g1=(g.new (Xs 1 [[.clo fn [] cap]])).new (Xs 1 [[.nils]]):=⟨_,rfl⟩;rw[<-f];have e1:g1.h.get g.nx=Xs 1 [[.clo fn [] cap]]:=by rw[f];simp[SD]
 have e2:g1.h.get (g.nx+1)=Xs 1 [[.nils]]:=by rw[f];simp[SD]
 have n1:g1.nx=g.nx+2:=by rw[f];simp
 have f1:Fr g g1:=by rw[f];exact (Fr.new _ _).trans (Fr.new _ _)
 clear f;obtain⟨LL,n⟩:∃LL,LL=λj=>((S.SG ks).take j).filter (S.S2 R):=⟨_,rfl⟩;have J:∀j,(LL j).length<=256:=λj=>by rw[n];refine Uy (WC _ _) ?_;rw[U0];exact Uy (Nat.min_le_right _ _) (ID ks)
 refine NP (ex:=.ret) (by intro h;cases h) hks (by simp[sx]) (by decide)
  (λj x=>Fr g x/\x.h.get g.nx=Xs 1 [[.clo fn [] cap]]/\∃u,x.h.get (g.nx+1)=Xs 1 [[u]]/\Own x (g.nx+4) u 1 ((LL j).map cu)/\(LL j=[]->u=.nils)/\g.nx+2<=x.nx) (λ_=>False) ?_ (λ_ _ _ _ h=>h) ?_ ?_ ?_ ?_
 ·rintro j x y hn r ⟨a1,a2,u,E,a4,aN,a5⟩;exact⟨⟨by have:=a1.1;omega,λi hi=>by rw[r i (by omega) (by omega),a1.2 i hi]⟩,by rw[r _ (by omega) (by omega),a2],u,by rw[r _ (by omega) (by omega),E],a4.fr hn λi hi=>r i (by have:=(a4.lt hi).1;omega) (by have:=(a4.lt hi).1;omega),aN,by omega⟩
 ·exact⟨f1,e1,.nils,e2,.inl ⟨rfl,by rw[n];rfl⟩,λ_=>rfl,by omega⟩
 ·rintro j a g2 N ⟨a1,a2,u,E,a4,aN,a5⟩ h4;have A:=(kY hks).1 (Ul N);have h7:a<=ks:=by rw[<-A];exact Wl
  simp only[gC,sz,simprocAttr];have k:LL (j+1)=LL j++if S.S2 R a=true then [a] else []:=by rw[n];show ((S.SG ks).take (j+1)).filter (S.S2 R)=_;rw[qo N,List.filter_append,List.filter_cons,List.filter_nil]
  refine⟨⟨by simp,λi hi=>by simp[SD,show ¬i=g2.nx by omega]⟩,λg4 hn4 hg4 hl4=>?_⟩;have F:g4.h.get g2.nx=Xs 1 [[X_ (a:Int)]]:=by rw[hg4 _ (by omega),Un rfl]
  have c:∀i,i≠g1.nx+1->i≠g2.nx->g4.h.get i=g2.h.get i:=λi h1 h2=>by rw[hg4 i h1,Um h2,Um h2]
  have c0:g4.h.get g.nx=Xs 1 [[.clo fn [] cap]]:=by rw[c _ (by omega) (by omega),a2]
  have H:g4.h.get (g.nx+1)=Xs 1 [[u]]:=by rw[c _ (by omega) (by omega),E]
  have cF:Fr g g4:=⟨by omega,λi hi=>by rw[c i (by omega) (by omega),a1.2 i hi]⟩;have cO:Own g4 (g.nx+4) u 1 ((LL j).map cu):=a4.fr (by omega) λi hi=>c i (by have:=(a4.lt hi).1;omega) (by have:=(a4.lt hi).2;omega);simp only[gE,sz,simprocAttr,c0,F];refine hR a A _ _ _ cF.1 cF.2 λg9 n9 h9=>?_;have F:g9.h.get g2.nx=Xs 1 [[X_ (a:Int)]]:=by rw[h9,F]
  have c0:g9.h.get g.nx=Xs 1 [[.clo fn [] cap]]:=by rw[h9,c0]
  have H:g9.h.get (g.nx+1)=Xs 1 [[u]]:=by rw[h9,H]
  have cF:Fr g g9:=⟨by have:=cF.1;omega,λi hi=>by rw[h9,cF.2 i hi]⟩;have cO:Own g9 (g.nx+4) u 1 ((LL j).map cu):=cO.fr n9 λi hi=>h9 i;have Z:∃nt t ps ss bd st pe,g9.h.get (g1.nx+1)=.loop nt t ps ss bd g1.nx st pe:=by rw[h9];exact hl4
  by_cases hra:R a=true
  rotate_left
  ·have w:R a=false:=by simpa using hra
   have:S.S2 R a=false:=by rw[S.S2,w];rfl
   rw[this]at k;simp only[VF,if_false,Ux]at k;simp only[w,sz,simprocAttr];exact⟨n9,h9 _,h9 _,.inl ⟨cF,c0,u,H,by rw[k];exact cO,by rw[k];exact aN,by omega⟩⟩
  simp only[hra,sz,simprocAttr,F,ks1];have l:a<256:=by omega
  refine NQ (ex:=.exit 1) (by intro h;cases h) l (by simp[sx]) (by decide) Z
   (λj2 x=>Fr g9 x/\∀t,t∈(S.SG a).take j2->t=a\/R t=false) (λx=>Fr g9 x/\∃t,t∈S.SG a/\t≠a/\R t=true) ?_ ?_ ?_ ?_ ?_ ?_
  ·rintro j2 x y hn r ⟨b1,b2⟩;exact⟨⟨by have:=b1.1;omega,λi hi=>by rw[r i (by omega),b1.2 i hi]⟩,b2⟩
  ·rintro x y hn r ⟨b1,b2⟩;exact⟨⟨by have:=b1.1;omega,λi hi=>by rw[r i (by omega),b1.2 i hi]⟩,b2⟩
  ·exact⟨Fr.refl _,λt h=>by simp at h⟩
  ·rintro j2 p m C ⟨b1,b2⟩ O;have h6:=(kY l).1 (Ul C);simp only[gD,sz,simprocAttr];refine⟨Ui _,λg6 hn6 hg6=>?_⟩;have Q:g6.h.get g2.nx=Xs 1 [[X_ (a:Int)]]:=by rw[hg6 _ (by omega),b1.2 _ (by omega),F]
   have d0:g6.h.get g.nx=Xs 1 [[.clo fn [] cap]]:=by rw[hg6 _ (by omega),b1.2 _ (by omega),c0]
   have dF:Fr g9 g6:=⟨by have:=b1.1;omega,λi hi=>by rw[hg6 i (by omega),b1.2 i hi]⟩;have dF2:Fr g g6:=cF.trans dF;have tk:=qo C
   by_cases et:p=a
   ·have et':(p:Int)=(a:Int):=by omega
    simp only[dB,sz,simprocAttr,Q,et'];refine⟨Ui _,.inl ⟨dF,λt ht=>?_⟩⟩;rw[tk,UL,Vc]at ht;rcases ht with ht|ht
    ·exact b2 t ht
    ·exact .inl (by rw[ht,et])
   ·have et':¬(p:Int)=(a:Int):=by omega
    simp only[dB,sz,simprocAttr,Q,d0,et'];refine hR p (Id h6 A) _ _ _ dF2.1 dF2.2 λg8 n8 h8=>?_;have dF8:Fr g9 g8:=⟨by have:=dF.1;omega,λi hi=>by rw[h8,dF.2 i hi]⟩
    by_cases hrt:R p=true
    ·simp only[hrt,sz,simprocAttr];exact⟨n8,h8 _,.inr ⟨dF8,p,Ul C,et,hrt⟩⟩
    ·have z:R p=false:=by simpa using hrt
     simp only[z,sz,simprocAttr];refine⟨n8,h8 _,.inl ⟨dF8,λt ht=>?_⟩⟩;rw[tk,UL,Vc]at ht;rcases ht with ht|ht
     ·exact b2 t ht
     ·exact .inr (by rw[ht,z])
  ·rintro m ⟨b1,b2⟩ O;rw[U3]at b2;have:S.S2 R a=true:=by
    rw[S.S2,hra,Vd,Uz];intro t ht;rcases b2 t ht with h|h
    ·simp[h]
    ·simp[h]
   rw[this]at k;simp only[if_true]at k;have d5:m.h.get (g.nx+1)=Xs 1 [[u]]:=by rw[b1.2 _ (by omega),H]
   have Q:m.h.get g2.nx=Xs 1 [[X_ (a:Int)]]:=by rw[b1.2 _ (by omega),F]
   simp only[gF,sz,simprocAttr,d5,Q];have cO5:=cO.step b1;refine dS (b:=g.nx+4) (new:=[cu a]) (cO5.fr (g':=_) (by simp) λi hi=>?_) (by simp[sx,sy,cu]) (by simp;omega) (by simp[bz];have:=J j;omega) λv2 g7 hv2 n2 f2 w2 l2=>?_
   ·have:=(cO5.lt hi).2;simp[SD];omega
   have P:=hv2.cell;have d7:g7.h.get (g.nx+1)=Xs 1 [[u]]:=by rw[f2 _ (by simp;omega) (λe=>by have:=(cO5.lt e).1;omega)];simp[SD,show ¬g.nx+1=m.nx by omega,d5]
   simp only[sz,simprocAttr,d7,P.1,P.2];have o:∀i,i<m.nx->i≠g.nx+1->vid u≠some i->(g7.put (g.nx+1) (Xs 1 [[v2]])).h.get i=m.h.get i:=λi h1 h2 T=>by simp only[G.put_h,SD,Um h2];rw[f2 i (by simp;omega) T];simp[SD,show ¬i=m.nx by omega]
   have ha:m.nx+1<=g7.nx:=by simpa using n2
   have hu:∀i,i<g.nx+4->vid u≠some i:=λi h e=>by have:=(cO5.lt e).1;omega
   have m1:=o g1.nx (by omega) (by omega) (hu _ (by omega));have m2:=o (g1.nx+1) (by omega) (by omega) (hu _ (by omega));have m3:=o g.nx (by omega) (by omega) (hu _ (by omega));have U:Fr g (g7.put (g.nx+1) (Xs 1 [[v2]])):=⟨by simp;omega,λi hi=>by rw[o i (by omega) (by omega) (hu _ (by omega)),b1.2 i (by omega),cF.2 i hi]⟩;simp only[G.put_h,SD]at m1 m2 m3;refine⟨by omega,?_,?_,.inl ⟨U,?_,v2,rfl,?_,λh=>by rw[k]at h;simp at h,by omega⟩⟩
   ·rw[<-h9,<-b1.2 _ (by omega)];exact m1
   ·rw[<-h9,<-b1.2 _ (by omega),<-m2,Um (by omega),Um (by omega)]
   ·rw[m3,b1.2 _ (by omega),c0]
   ·rw[k,Wh];refine hv2.fr (by simp) λi hi=>?_;have:=(hv2.lt hi).1;simp[SD,show ¬i=g.nx+1 by omega]
  ·rintro m ⟨b1,p,h1,h2,T⟩ O;have:S.S2 R a=false:=by rw[S.S2,<-U5,Uk,Uz];rintro⟨-,h⟩;have:=h p h1;rw[T]at this;simp[h2]at this
   rw[this]at k;simp only[VF,if_false,Ux]at k;simp only[sz,simprocAttr];exact⟨by have:=b1.1;omega,by rw[b1.2 _ (by omega),h9],by rw[b1.2 _ (by omega),h9],.inl ⟨cF.trans b1,by rw[b1.2 _ (by omega),c0],u,by rw[b1.2 _ (by omega),H],by rw[k];exact cO.step b1,by rw[k];exact aN,by have:=b1.1;omega⟩⟩
 ·intro g2 ⟨a1,a2,u,E,a4,aN,a5⟩ h4;rw[show LL (S.SG ks).length=(S.SG ks).filter (S.S2 R) by rw[n];show ((S.SG ks).take _).filter _=_;rw[U3]]at a4 aN;simp only[gG,sz,simprocAttr,E];intro Y;have V:∀x∈(S.SG ks).filter (S.S2 R),x<256:=λx hx=>by
   have:=(kY hks).1 (WU.1 hx).1;have:x<=ks:=by rw[<-this];exact Wl
   omega
  have W:((S.SG ks).filter (S.S2 R)).Nodup:=((Ha ks).imp λh=>by omega).filter _;refine hS hd V W a4 aN λL g3 hp hpw ho hn3 hf3=>?_;have hu:∀i,i<g.nx+4->vid u≠some i:=λi h e=>by have:=(a4.lt e).1;omega
  have d3:g3.h.get (g.nx+1)=Xs 1 [[u]]:=by rw[hf3 _ (hu _ (by omega)),E]
  have M:g3.h.get g1.nx=.dfr true:=by rw[hf3 _ (hu _ (by omega)),Y]
  simp only[sz,simprocAttr,d3];refine iB M ?_;simp only[sz,simprocAttr];refine kk u _ L (g.nx+4) ⟨by simp;omega,λi hi=>?_⟩ (by omega) hp hpw ?_
  ·simp[SD,show ¬i=g1.nx by omega];rw[hf3 i (hu _ (by omega)),a1.2 i hi]
  ·refine ho.fr (by simp) λi hi=>?_;have:=(a4.lt hi).1;simp[SD,show ¬i=g1.nx by omega]
 ·exact λ_ h=>h.elim
theorem JS[XOc]:C0.P.underlying 47=some (.int .i64):=by kernel_rfl
theorem De{n:Net}(h:NR n){p q:Nat->Bool}(hpq:∀i,p i=true->q i=true):∀j:Nat,S.SJ n p j<=S.SJ n q j
 |0=>Int.le_refl _
 | j+1=>by
  have ih:=De h hpq j;have hw:=u7 h (Bw (λc hc=>(h.cs c hc).1) (j:Int));rw[S.SJ,S.SJ]
  by_cases c:p j=true
  ·rw[Un c,Un (hpq j c)];omega
  ·rw[Um c]
   split<;>omega
theorem ui{n:Net}(h:NR n)(hz:S.SM n e≠0):S.SM n (S.SP e s)≠0:=by
 have h1:S.SM n e<=S.SM n (S.SP e s):=by
  rw[tL,tL];refine De h (λi hi=>?_) _;rw[S.pe,Pl]at hi ⊢;intro k hk;rw[kZ]at hk;rw[zn e s k hk,Us]
  split
  ·exact hi k hk
  ·exact .inl (by decide)
 have:=Ns h e;omega
theorem Qc[XOc](hd:0<d):ac (I C0) d g 40 [.agg [.bool x]]=.val (.bool x):=by refine lF m8 (xs:=[.agg [.bool x]]) rfl (by simp[dA]) hd ?_;simp only[sz,simprocAttr,dA,fI]
theorem LW[XOc](hd:0<d):dj C0 (I C0) d (BL x) [] g=.val (.bool x):=by
 have e:dj C0 (I C0) d (BL x) [] g=ac (I C0) d g 40 [.agg [.bool x]]:=by kernel_rfl
 rw[e,Qc hd]
theorem Sn[XOc]:((C0.ext 40).isSome || C0.iso 40)=true:=by kernel_rfl
theorem O6[XOc](h:tat t n=BL x):SO.foot C0 t g (.dyn (.t n) [])={ rd:=[],sr:=[],soft:=[],big:=false }:=by
 unfold SO.foot;dsimp only[Od.get];rw[h];unfold BL;dsimp only;rw[Sn]
 rfl
theorem L8[XOc](d:Nat)(cap xs:List AV)(g:G):dj C0 (I C0) d (.clo 48 [] cap) xs g=orF ((I C0).call d 48 (xs++cap) g):=by kernel_rfl
theorem L6[XOc](d:Nat)(cap xs:List AV)(g:G):dj C0 (I C0) d (.clo 52 [] cap) xs g=orF ((I C0).call d 52 (xs++cap) g):=by kernel_rfl
theorem Q8[XOc]{m id:Nat}{F:Nat->Bool}(hd:0<d)(hm:g.h.get m=Xs 1 [[.hmap id]])(hid:g.h.get id=.map ((S.SG ks).map (sG F)))(ha:a∈S.SG ks)(k:∀g2,g.nx<=g2.nx->(∀i,g2.h.get i=g.h.get i)->K (.bool (F a)) g2) :
  (dj C0 (I C0) d (.clo 48 [] [X9 m]) [X_ (a:Int)] g).sat K g D:=by
 rw[L8];refine kJ sL (by simp[gK]) ?_;have lk:∀(t:T) (rd:Option Nat),tat t 4=.hmap id->tat t 5=X_ (a:Int)->(bC C0 (.lookup 102 (.tmp 4) (.tmp 5) false)).run (I C0) d rd t g=.val (BL (F a)):=λt rd h1 h2=>Nf h1 h2 ha hid;have kc:=λg:G=>LW (x:=F a) (g:=g) hd;simp only[sz,simprocAttr,gK,hm,lk,kc];exact k _ (Ui _) λ_=>rfl
theorem Q7[XOc]{m id p:Nat}{F:Nat->Bool}{v:Int}(hd:0<d)(hks:ks<256)(hm:g.h.get m=Xs 1 [[.hmap id]])(hid:g.h.get id=.map ((S.SG ks).map (sG F)))(hp:g.h.get p=Xs 1 [[X9 q]])(hq:g.h.get q=fp gr b ev v value bn bd ks)(ha:a<256)(k:∀g2,g.nx<=g2.nx->(∀i,g2.h.get i=g.h.get i)->K (.bool (!F (S.SB ks a))) g2) :
  (dj C0 (I C0) d (.clo 52 [] [X9 m,X9 p]) [X_ (a:Int)] g).sat K g D:=by
 rw[L6];refine kJ vI (by simp[jl]) ?_;have e:g.h.get q=Xs 8 [[X8 gr,b,ev,X8 v,X8 value,X8 bn,X8 bd,X_ (ks:Int)]]:=hq;have c:S.SB ks a∈S.SG ks:=by rw[kY hks];apply Wp;intro i;simp only[S.SB,Xg,Nat.testBit_xor];cases ks.testBit i<;>cases a.testBit i<;>rfl
 have kn:=qq (m:=ks) (n:=a) (by omega) (by omega);have lk:∀(t:T) (rd:Option Nat) (g':G),tat t 5=.hmap id->tat t 11=X_ ((S.SB ks a:Nat):Int)->g'.h.get id=.map ((S.SG ks).map (sG F))->(bC C0 (.lookup 102 (.tmp 5) (.tmp 11) false)).run (I C0) d rd t g'=.val (BL (F (S.SB ks a))):=λt rd g' h1 h2 h3=>Nf h1 h2 c h3;have kc:=λg:G=>LW (x:=F (S.SB ks a)) (g:=g) hd;simp only[sz,simprocAttr,sf,jl,hm,hp,e,hid,e_,Pd,kn,lk,kc,ue,O6];refine⟨?_,k _ (by simp;omega) λi=>by simp⟩;simp only[UQ,UP,UM,UE];refine tD (false::(XK (XI []))) [] (by simp[All2]) rfl (by decide) (λpp hpp=>by cases hpp)
theorem yY[XOc](d:Nat)(a b:AV)(g:G):∃v,(I C0).call d 83 [a,b] g=.ok v g:=by
 have key:=i7 (C:=C0) (d:=d) (f:=83) («as»:=[a,b]) (g:=g) (K:=λv g'=>g'=g) jE (by simp[cG]) ?_
 ·cases hc:(I C0).call d 83 [a,b] g with
  |fail=>rw[hc]at key;exact key.elim
  |ok v g'=>rw[hc]at key;exact⟨v,by rw[show g'=g from key]⟩
 have e:jZ true (.iface true) .nili .nili=.val (.bool false):=rfl;simp only[cG,sx,oC];simp only[sz,simprocAttr,e]
theorem AE[XOc]{p:Nat}{x:Int}{u:AV}{K:G->Prop}(hp:g.h.get p=Xs 1 [[u]])(hq:g.h.get q=Xs 1 [[w]])(hpq:p≠q)(hk:K ((g.put p (Xs 1 [[.nils]])).put q (Xs 1 [[X8 x]]))):OG C0 d 83 (.ifc 47 (X8 x)) [X9 p,X9 q] g K:=by refine Jx jE (by simp[cG]) ?_;unfold cG;dsimp only;refine⟨rfl,trivial,?_⟩;refine aW (by kernel_rfl) ?_;have e:jZ true (.iface true) (.ifc 47 (X8 x)) .nili=.val (.bool true):=rfl;simp only[sz,simprocAttr,aU];rw[aO];refine bc (by kernel_rfl) ?_;simp only[sz,simprocAttr,e];rw[bo];simp only[sz,simprocAttr];rw[bJ];show wpQ C0 d ([oM 10 2]++[⟨some 11,none,.raw (.typeAssert (.tmp 10) 20 47 true)⟩,oM 9 11,Xw 12 9 0,Xw 13 9 1,oM 3 12,oM 4 13]) _ _ _ _;refine bZ (by kernel_rfl) ?_;simp only[sz,simprocAttr];refine Bz (v:=X8 x) (ik:=.i64) (by simp[sx]) JS ?_;refine aW (by kernel_rfl) ?_;simp only[sz,simprocAttr,aU,aa];rw[aO,bJ];refine bc (by kernel_rfl) ?_;simp only[sz,simprocAttr];rw[bo];simp only[sz,simprocAttr];rw[gk,aO];unfold iQ;refine bc (by kernel_rfl) ?_;simp only[sz,simprocAttr];refine xp (by kernel_rfl) ?_;simp only[sz,simprocAttr,hp,hq,Um (VC hpq)];exact⟨rfl,hk⟩
theorem wQ[XOc]{cap:List AV}{err:Int}{L:List Nat}(hs:mc C0 f=false)(hL:err≠0->L=[])
  (hc:∀g',Fr g g'->CallsP C0 d f cap g' (λu g2=>err=0/\Fr g' g2/\Own g2 g'.nx u 1 (L.map cu)) (λv g2=>err≠0/\Fr g' g2/\v=.ifc 47 (X8 err)))
  (kk:∀u g' B,Own g' B u 1 (L.map cu)->K (.tup [u,X8 err]) g'):CallsP C0 d 44 [.clo f [] cap] g K KP:=by
 refine fA uE (by simp[iq]) ?_;unfold iq;dsimp only;refine bc (by kernel_rfl) ?_;simp only[sz,simprocAttr];obtain⟨g1,k⟩:∃g1,g1=(g.new (Xs 1 [[.nils]])).new (Xs 1 [[X8 0]]):=⟨_,rfl⟩;rw[<-k];have b:g1.h.get g.nx=Xs 1 [[.nils]]:=by rw[k];simp[SD]
 have c:g1.h.get (g.nx+1)=Xs 1 [[X8 0]]:=by rw[k];simp[SD]
 have n1:g1.nx=g.nx+2:=by rw[k];simp
 have f1:Fr g g1:=by rw[k];exact (Fr.new _ _).trans (Fr.new _ _)
 clear k;unfold lr;refine bc (by kernel_rfl) ?_;simp only[sz,simprocAttr];rw[rg (f:=83) (first:=[]) (cap:=[X9 g.nx,X9 (g.nx+1)]) (by simp[sx])];simp only[sz,simprocAttr,zq,zh];rw[bJ];show wpQ C0 d ([oM 5 0]++[o 6 (.dyn (.t 5) []),Xx 1 2 6,oz (.store 1 (.t 3) (qI 0))]) _ _ _ _;refine bZ (by kernel_rfl) ?_;simp only[sz,simprocAttr];refine JX (f:=f) (first:=[]) (cap:=cap) (by simp[sx,aU]) hs ?_;refine (hc g1 f1).mono ?_ ?_
 ·rintro u g2 ⟨rfl,f2,a⟩;have d2:g2.h.get g.nx=Xs 1 [[.nils]]:=by rw[f2.2 _ (by omega),b]
  have d3:g2.h.get (g.nx+1)=Xs 1 [[X8 0]]:=by rw[f2.2 _ (by omega),c]
  refine aW (by kernel_rfl) ?_;simp only[sz,simprocAttr,aU,d2,d3,a.cell.1,a.cell.2,show ¬g.nx+1=g.nx by omega];rw[aO,mL,nE,kT];obtain⟨v,e⟩:=yY d (X9 g.nx) (X9 (g.nx+1)) ((g2.put g.nx (Xs 1 [[u]])).put (g.nx+1) (Xs 1 [[X8 0]]));refine ud e ?_;simp only[sz,simprocAttr,show ¬g.nx=g.nx+1 by omega];refine kk u _ g1.nx (a.fr (by simp) λi hi=>?_);have:=(a.lt hi).1;simp[SD,show ¬i=g.nx+1 by omega,show ¬i=g.nx by omega]
 ·rintro v g2 ⟨he,f2,rfl⟩;have d2:g2.h.get g.nx=Xs 1 [[.nils]]:=by rw[f2.2 _ (by omega),b]
  have d3:g2.h.get (g.nx+1)=Xs 1 [[X8 0]]:=by rw[f2.2 _ (by omega),c]
  refine AE (p:=g.nx) (q:=g.nx+1) d2 d3 (by omega) ?_;show uC C0 d [SR.cell false 1 2,SR.cell false 1 3] _ [] _ K;simp only[sz,simprocAttr,show ¬g.nx=g.nx+1 by omega];refine kk .nils _ 0 (.inl ⟨rfl,?_⟩);rw[hL he];rfl
theorem yX[XOc](d:Nat)(a b:AV)(g:G):∃v,(I C0).call d 74 [a,b] g=.ok v g:=by
 have key:=i7 (C:=C0) (d:=d) (f:=74) («as»:=[a,b]) (g:=g) (K:=λv g'=>g'=g) jD (by simp[cE]) ?_
 ·cases hc:(I C0).call d 74 [a,b] g with
  |fail=>rw[hc]at key;exact key.elim
  |ok v g'=>rw[hc]at key;exact⟨v,by rw[show g'=g from key]⟩
 have e:jZ true (.iface true) .nili .nili=.val (.bool false):=rfl;simp only[cE,sx,oC];simp only[sz,simprocAttr,e]
theorem AC[XOc]{p:Nat}{x:Int}{u:AV}{K:G->Prop}(hp:g.h.get p=Xs 1 [[u]])(hq:g.h.get q=Xs 1 [[w]])(hpq:p≠q)(hk:K ((g.put p (Xs 1 [[.bool false]])).put q (Xs 1 [[X8 x]]))):OG C0 d 74 (.ifc 47 (X8 x)) [X9 p,X9 q] g K:=by refine Jx jD (by simp[cE]) ?_;unfold cE;dsimp only;refine⟨rfl,trivial,?_⟩;refine aW (by kernel_rfl) ?_;have e:jZ true (.iface true) (.ifc 47 (X8 x)) .nili=.val (.bool true):=rfl;simp only[sz,simprocAttr,aU];rw[aO];refine bc (by kernel_rfl) ?_;simp only[sz,simprocAttr,e];rw[bo];simp only[sz,simprocAttr];rw[bJ];show wpQ C0 d ([oM 10 2]++[⟨some 11,none,.raw (.typeAssert (.tmp 10) 20 47 true)⟩,oM 9 11,Xw 12 9 0,Xw 13 9 1,oM 3 12,oM 4 13]) _ _ _ _;refine bZ (by kernel_rfl) ?_;simp only[sz,simprocAttr];refine Bz (v:=X8 x) (ik:=.i64) (by simp[sx]) JS ?_;refine aW (by kernel_rfl) ?_;simp only[sz,simprocAttr,aU,aa];rw[aO,bJ];refine bc (by kernel_rfl) ?_;simp only[sz,simprocAttr];rw[bo];simp only[sz,simprocAttr];rw[gk,aO];unfold iP;refine bc (by kernel_rfl) ?_;simp only[sz,simprocAttr];refine xp (by kernel_rfl) ?_;simp only[sz,simprocAttr,hp,hq,Um (VC hpq)];exact⟨rfl,hk⟩
theorem D1[XOc]{cap:List AV}{err:Int}{L:Bool}(hs:mc C0 f=false)(hL:err≠0->L=false)
  (hc:∀g',Fr g g'->CallsP C0 d f cap g' (λu g2=>err=0/\Fr g' g2/\u=.bool L) (λv g2=>err≠0/\Fr g' g2/\v=.ifc 47 (X8 err)))
  (kk:∀g',K (.tup [.bool L,X8 err]) g'):CallsP C0 d 34 [.clo f [] cap] g K KP:=by
 refine fA uD (by simp[ip]) ?_;unfold ip;dsimp only;refine bc (by kernel_rfl) ?_;simp only[sz,simprocAttr];obtain⟨g1,k⟩:∃g1,g1=(g.new (Xs 1 [[.bool false]])).new (Xs 1 [[X8 0]]):=⟨_,rfl⟩;rw[<-k];have a:g1.h.get g.nx=  Xs 1 [[.bool false]]:=by rw[k];simp[SD]
 have b:g1.h.get (g.nx+1)=Xs 1 [[X8 0]]:=by rw[k];simp[SD]
 have n1:g1.nx=g.nx+2:=by rw[k];simp
 have f1:Fr g g1:=by rw[k];exact (Fr.new _ _).trans (Fr.new _ _)
 clear k;unfold lq;refine bc (by kernel_rfl) ?_;simp only[sz,simprocAttr];rw[rg (f:=74) (first:=[]) (cap:=[X9 g.nx,X9 (g.nx+1)]) (by simp[sx])];simp only[sz,simprocAttr,zq,zh];rw[bJ];show wpQ C0 d ([oM 5 0]++[o 6 (.dyn (.t 5) []),Xx 1 2 6,oz (.store 1 (.t 3) (qI 0))]) _ _ _ _;refine bZ (by kernel_rfl) ?_;simp only[sz,simprocAttr];refine JX (f:=f) (first:=[]) (cap:=cap) (by simp[sx,aU]) hs ?_;refine (hc g1 f1).mono ?_ ?_
 ·rintro u g2 ⟨rfl,f2,rfl⟩;have d2:g2.h.get g.nx=  Xs 1 [[.bool false]]:=by rw[f2.2 _ (by omega),a]
  have d3:g2.h.get (g.nx+1)=Xs 1 [[X8 0]]:=by rw[f2.2 _ (by omega),b]
  refine aW (by kernel_rfl) ?_;simp only[sz,simprocAttr,aU,d2,d3,show ¬g.nx+1=g.nx by omega];rw[aO,mL,nE,kT];obtain⟨v,c⟩:=yX d (X9 g.nx) (X9 (g.nx+1)) ((g2.put g.nx (Xs 1 [[.bool L]])).put (g.nx+1) (Xs 1 [[X8 0]]));refine ud c ?_;simp only[sz,simprocAttr,show ¬g.nx=g.nx+1 by omega];exact kk _
 ·rintro v g2 ⟨he,f2,rfl⟩;have d2:g2.h.get g.nx=  Xs 1 [[.bool false]]:=by rw[f2.2 _ (by omega),a]
  have d3:g2.h.get (g.nx+1)=Xs 1 [[X8 0]]:=by rw[f2.2 _ (by omega),b]
  refine AC (p:=g.nx) (q:=g.nx+1) d2 d3 (by omega) ?_;show uC C0 d [SR.cell false 1 2,SR.cell false 1 3] _ [] _ K;simp only[sz,simprocAttr,show ¬g.nx=g.nx+1 by omega];have:=kk;rw[hL he]at this;exact this _
instance (x y:Int):Decidable (S.Ti x y):=by unfold S.Ti S.TB;infer_instance
def S.SH(n:Net)(e:List Int)(v k bn bd:Int):Int:=if S.S6 n e v [k]=0 then (if S.Ti bn bd then (if S.SM n e=0 then 7 else 0) else 2) else S.S6 n e v [k]
def S.TD(n:Net)(e:List Int)(v k bn bd:Int)(s:Nat):Bool:=S.S7 n e s v.toNat k.toNat bn bd
theorem Q4[XOc]{d:Nat}{g:G}(hd:0<d):ae C0 d 40 [.agg [.bool x]] g=.val (.bool x):=by rw[lM,Qc hd]
structure Rsn (n:Net) (e:List Int) (vn kn:Nat) (bn bd:Int):Prop where
 r:NR n
 ev:S.SL n e=true
 v:vn<e.length
 x:S.Tc n vn kn
 b:S.Ti bn bd
 z:S.SM n e≠0
 l:e.length<=8
section
variable {d k:Nat}{g:G}{n:Net}{bb ev:AV}{e:List Int}{v a bn bd:Int}{K KP:AV->G->Prop}
theorem KC[XOc](hd:0<d)(hk:k<=d)(hm:∀h,Agg n NoP 0 h (.agg [X8 n.grain,bb]))(hev:SlR NoP k .nil e ev)
  (h0:g.h.get 0=Xs 2 [[X8 n.grain,bb]]) (h1:g.h.get 1=Xs 1 [[ev]]) (h2:g.h.get 2=Xs 1 [[X8 v]]) (h3:g.h.get 3=Xs 1 [[X8 a]]) (h4:g.h.get 4=Xs 2 [[X8 bn,X8 bd]]) (hn:5<=g.nx)
  (kk:S.SH n e v a bn bd=0->∀g',Fr g g'->K (.bool (S.TD n e v a bn bd (S.kn e e.length))) g')
  (kp:S.SH n e v a bn bd≠0->∀g',Fr g g'->KP (.ifc 47 (X8 (S.SH n e v a bn bd))) g') :
  CallsP C0 d 35 [X9 0,X9 1,X9 2,X9 3,X9 4] g K KP:=by
 refine fA wF (by simp[j5]) ?_;unfold j5;dsimp only;refine bc (by kernel_rfl) ?_;simp only[sz,simprocAttr,nI];have ld:aI (Xs 2 [[X8 n.grain,bb]]) 0 0 true 2 0=.val (.agg [X8 n.grain,bb]):=rfl;rw[bJ];show wpQ C0 d ([Xv 7 2 0,oL 8 1,oL 9 2,oL 10 3,XY 11 10]++[XQ 12 36 7 8 9 11,oM 6 12]) _ _ _ _;refine bZ (by kernel_rfl) ?_;simp only[sz,simprocAttr,h0,h1,h2,h3,ld,wu];obtain⟨g1,c⟩:∃g1,g1=g.new (Xs 1 [[X8 a]]):=⟨_,rfl⟩;rw[<-c];have e1:g1.h.get g.nx=Xs 1 [[X8 a]]:=by rw[c];simp[SD]
 have n1:g1.nx=g.nx+1:=by rw[c];simp
 have f1:Fr g g1:=by rw[c];exact Fr.new _ _
 clear c;refine bS (ys:=[.agg [X8 n.grain,bb],ev,X8 v,.hsl g.nx 0 0 1 none]) (by kernel_rfl) (by simp[sx]) ?_;have j:ah g1.h 1 (.hsl g.nx 0 0 1 none)=some ([a].map ci):=by simp only[ah,e1];rfl
 refine vV (l:=[a]) hd hm hev j (λi hi=>by injection hi with hi;omega) (by simp) (λhf q g2 f2 hq1 hq2 hq=>?_) (λhf g2 f2=>?_)
 rotate_left
 ·have f:S.SH n e v a bn bd=S.S6 n e v [a]:=Um hf;have:=kp (by rw[f];exact hf) g2 (f1.trans f2);rw[f]at this;exact this
 obtain⟨p,⟨he,r,y,z⟩,hx⟩:=qd.1 hf;have hr:=bw.1 p;have w:=hr.l2;obtain⟨vn,rfl⟩:=Ur r;obtain⟨u,-⟩:=dl.1 he;have ha:=hx a (by simp);obtain⟨kn,rfl⟩:=Ur ha.1;have o:vn<e.length:=by omega
 have hq:g2.h.get q=fp n.grain bb ev vn kn 0 0 (S.kn e e.length):=hq;have b:Fr g g2:=f1.trans f2;have G2:∀i,i<5->g2.h.get i=g.h.get i:=λi hi=>b.2 i (by omega);have ldq:aI (Xs 2 [[X8 bn,X8 bd]]) 0 0 true 2 0=.val (.agg [X8 bn,X8 bd]):=rfl;refine aW (by kernel_rfl) ?_;simp only[sz,simprocAttr,aU];rw[aO,bJ];show wpQ C0 d ([oM 13 6,Xv 14 2 4]++[XO 15 37 13 14]) _ _ _ _;refine bZ (by kernel_rfl) ?_;simp only[sz,simprocAttr,G2 4 (by decide),h4,ldq];refine bS (ys:=[X9 q,.agg [X8 bn,X8 bd]]) (by kernel_rfl) (by simp[sx]) ?_;refine vv hd hq hq2 (λhb g3 n3 f3 q3=>?_) (λhb g3 f3=>?_)
 rotate_left
 ·have f:S.SH n e vn kn bn bd=2:=by rw[S.SH,Un hf,Um hb]
  have:=kp (by rw[f];decide) g3 (b.trans f3);rw[f]at this;exact this
 have m:Fr g g3:=⟨by have:=b.1;omega,λi hi=>by rw[f3 i (by have:=b.1;omega) (by have:=f1.1;omega),b.2 i hi]⟩;refine aW (by kernel_rfl) ?_;simp only[sz,simprocAttr,aU];rw[aO,bJ];show wpQ C0 d ([oM 16 6]++[XN 17 38 16]) _ _ _ _;refine bZ (by kernel_rfl) ?_;simp only[sz,simprocAttr];refine bS (ys:=[X9 q]) (by kernel_rfl) (by simp[sx]) ?_;refine tR hd hk hr hm hev he q3 (λhz=>?_) (λhz=>?_)
 rotate_left
 ·have f:S.SH n e vn kn bn bd=7:=by rw[S.SH,Un hf,Un hb,Un hz]
  have:=kp (by rw[f];decide) g3 m;rw[f]at this;exact this
 have f:S.SH n e vn kn bn bd=0:=by rw[S.SH,Un hf,Un hb,Um hz]
 have t:Rsn n e vn kn bn bd:=⟨hr,he,o,ha,hb,hz,by omega⟩;refine aW (by kernel_rfl) ?_;simp only[sz,simprocAttr,aU];rw[aO];have s:g3.h.get q=Xs 8 [[X8 n.grain,bb,ev,X8 (vn:Int),X8 (kn:Int),X8 bn,X8 bd,X_ (S.kn e e.length:Int)]]:=q3;rw[bJ];show wpQ C0 d ([oM 18 6,oM 19 6,Xy 20 19,oF 21 7 20,oL 22 21]++[XO 23 39 18 22,XN 24 40 23,oM 5 24]) _ _ _ _;refine bZ (by kernel_rfl) ?_;simp only[sz,simprocAttr,s,e_,Pd];refine bS (ys:=[X9 q,X_ (S.kn e e.length:Int)]) (by kernel_rfl) (by simp[sx]) ?_;refine DG hd hr hm hev he o ha (ui hr hz) (Eb (by omega)) hb q3 (by omega) λg4 u4=>?_;have kc:=λg:G=>Q4 (d:=d) (x:=S.S7 n e (S.kn e e.length) vn kn bn bd) (g:=g) hd;refine aW (by kernel_rfl) ?_;simp only[sz,simprocAttr,aU,kc];rw[aO,mL,nE,kT];simp only[sz,simprocAttr];exact kk f g4 (m.trans u4.fr)
end
end
end Hx
section
namespace Hx
theorem qz{a b:Nat}:S.SB a b=0↔a &&& b=a:=by
 constructor
 ·intro h;apply Wp;intro i;have:=congrArg (λx=>x.testBit i) h;simp only[S.SB,Nat.testBit_xor,Xg,Nat.zero_testBit]at this;rw[Xg];revert this;cases a.testBit i<;>cases b.testBit i<;>decide
 ·intro h;rw[S.SB,h,Nat.xor_self]
def S.TU(ks k:Nat):List Nat:=(List.range (ks+1)).filter λs=>decide (S.SB s ks=0)&&decide (S.SE s=k)
def S.TQ(ks:Nat):List Nat:=(List.range 9).flatMap (S.TU ks)
def S.SU(R:Nat->Bool)(ks:Nat):List Nat:=(S.TQ ks).filter (S.S2 R)
theorem Jt(s:Nat):S.SE s<=8:=by rw[S.SE];exact Uy (WC _ _) (by simp)
theorem uh{ks k s:Nat}:s∈S.TU ks k↔s &&& ks=s/\S.SE s=k:=by
 rw[S.TU,WU,Uw,Uk,decide_eq_true_iff,decide_eq_true_iff,qz];constructor
 ·exact λh=>h.2
 ·intro h;have:s<=ks:=by rw[<-h.1];exact Wl
  exact⟨by omega,h⟩
theorem Ef{ks s:Nat}:s∈S.TQ ks↔s &&& ks=s:=by
 rw[S.TQ,Wb];constructor
 ·rintro⟨k,-,h⟩;exact (uh.1 h).1
 ·intro h;exact⟨S.SE s,by rw[Uw];have:=Jt s;omega,uh.2 ⟨h,rfl⟩⟩
theorem Ie(ks:Nat):(S.TQ ks).Pairwise rm:=by
 rw[S.TQ,List.pairwise_flatMap];constructor
 ·intro k _;have h:(S.TU ks k).Pairwise (·<·):=List.pairwise_lt_range.filter _;refine List.Pairwise.imp_of_mem (λ{a b} ha hb hab=>?_) h;exact .inr ⟨by rw[(uh.1 ha).2,(uh.1 hb).2],hab⟩
 ·refine List.pairwise_lt_range.imp λ{a b} hab x hx y hy=>?_;exact .inl (by rw[(uh.1 hx).2,(uh.1 hy).2];exact hab)
theorem Bs{a:Nat}(h:rm a a):False:=by rcases h with h|h<;>omega
theorem GL{ks:Nat}(hks:ks<256):(S.TQ ks).Perm (S.SG ks):=by
 refine (List.perm_ext_iff_of_nodup ?_ ?_).2 λa=>by rw[Ef,kY hks]
 ·exact (Ie ks).imp λ{a b} h=>by rintro rfl;exact Bs h
 ·exact (Ha ks).imp λh=>by omega
theorem Ni{ks:Nat}(hks:ks<256){R:Nat->Bool}{L:List Nat}(h:L.Perm ((S.SG ks).filter (S.S2 R)))(hp:L.Pairwise rm):L=S.SU R ks:=by refine List.Perm.eq_of_pairwise (λa b _ _ h1 h2=>?_) hp ((Ie ks).filter _) (h.trans ((GL hks).filter _).symm);rcases h1 with h1|h1<;>rcases h2 with h2|h2<;>omega
end Hx
end
namespace Hx
open Go
noncomputable section
variable {g:G}{d q n k s ks a v i j vn kk f kn:Nat}{K KP:AV->G->Prop}{b ev r5 w wv:AV}{t:T}{gr bn bd value:Int}{e pl l:List Int}{Q:QT}{D:ADf->Prop}{r0:List AV}{rows:List (List AV)}{x:Bool}
section
variable {d k:Nat}{g:G}{n:Net}{bb ev:AV}{e:List Int}{v a bn bd:Int}{K KP:AV->G->Prop}
theorem xk{k:Nat}(h:s &&& k=s)(hk:k<256):s<256:=by
 have:s<=k:=by rw[<-h];exact Wl
 omega
theorem AR{e:List Int}(h:e.length<=8):S.kn e e.length<256:=by have h1:=Nc e e.length;have h2:2 ^ e.length<=2 ^ 8:=Wr (by decide) h;omega
theorem Hf[XOc](hS:xu)(hd:0<d)(hk:k<=d)(hm:∀h,Agg n NoP 0 h (.agg [X8 n.grain,bb]))(hev:SlR NoP k .nil e ev)
  (h0:g.h.get 0=Xs 2 [[X8 n.grain,bb]]) (h1:g.h.get 1=Xs 1 [[ev]]) (h2:g.h.get 2=Xs 1 [[X8 v]]) (h3:g.h.get 3=Xs 1 [[X8 a]]) (h4:g.h.get 4=Xs 2 [[X8 bn,X8 bd]]) (hn:5<=g.nx)
  (kk:S.SH n e v a bn bd=0->∀u g' B,Fr g g'->g.nx<=B->Own g' B u 1 ((S.SU (S.TD n e v a bn bd) (S.kn e e.length)).map cu)->K u g')
  (kp:S.SH n e v a bn bd≠0->∀g',Fr g g'->KP (.ifc 47 (X8 (S.SH n e v a bn bd))) g') :
  CallsP C0 d 45 [X9 0,X9 1,X9 2,X9 3,X9 4] g K KP:=by
 refine fA vJ (by simp[jn]) ?_;unfold jn;dsimp only;refine bc (by kernel_rfl) ?_;simp only[sz,simprocAttr,nI];have ld:aI (Xs 2 [[X8 n.grain,bb]]) 0 0 true 2 0=.val (.agg [X8 n.grain,bb]):=rfl;rw[bJ];show wpQ C0 d ([Xv 8 2 0,oL 9 1,oL 10 2,oL 11 3,XY 12 11]++[XQ 13 36 8 9 10 12,oM 6 13]) _ _ _ _;refine bZ (by kernel_rfl) ?_;simp only[sz,simprocAttr,h0,h1,h2,h3,ld,wu];obtain⟨g1,c⟩:∃g1,g1=g.new (Xs 1 [[X8 a]]):=⟨_,rfl⟩;rw[<-c];have e1:g1.h.get g.nx=Xs 1 [[X8 a]]:=by rw[c];simp[SD]
 have n1:g1.nx=g.nx+1:=by rw[c];simp
 have f1:Fr g g1:=by rw[c];exact Fr.new _ _
 clear c;refine bS (ys:=[.agg [X8 n.grain,bb],ev,X8 v,.hsl g.nx 0 0 1 none]) (by kernel_rfl) (by simp[sx]) ?_;have x:ah g1.h 1 (.hsl g.nx 0 0 1 none)=some ([a].map ci):=by simp only[ah,e1];rfl
 refine vV (l:=[a]) hd hm hev x (λi hi=>by injection hi with hi;omega) (by simp) (λhf q g2 f2 hq1 hq2 hq=>?_) (λhf g2 f2=>?_)
 rotate_left
 ·have j:S.SH n e v a bn bd=S.S6 n e v [a]:=Um hf;have:=kp (by rw[j];exact hf) g2 (f1.trans f2);rw[j]at this;exact this
 obtain⟨z,⟨he,E,N,O⟩,hx⟩:=qd.1 hf;have hr:=bw.1 z;have M:=hr.l2;obtain⟨vn,rfl⟩:=Ur E;obtain⟨J,-⟩:=dl.1 he;have ha:=hx a (by simp);obtain⟨kn,rfl⟩:=Ur ha.1;have y:vn<e.length:=by omega
 have hq:g2.h.get q=fp n.grain bb ev vn kn 0 0 (S.kn e e.length):=hq;have b:Fr g g2:=f1.trans f2;have G2:∀i,i<5->g2.h.get i=g.h.get i:=λi hi=>b.2 i (by omega);have ldq:aI (Xs 2 [[X8 bn,X8 bd]]) 0 0 true 2 0=.val (.agg [X8 bn,X8 bd]):=rfl;refine aW (by kernel_rfl) ?_;simp only[sz,simprocAttr,aU];rw[aO,bJ];show wpQ C0 d ([oM 14 6,Xv 15 2 4]++[XO 16 37 14 15]) _ _ _ _;refine bZ (by kernel_rfl) ?_;simp only[sz,simprocAttr,G2 4 (by decide),h4,ldq];refine bS (ys:=[X9 q,.agg [X8 bn,X8 bd]]) (by kernel_rfl) (by simp[sx]) ?_;refine vv hd hq hq2 (λhb g3 n3 f3 q3=>?_) (λhb g3 f3=>?_)
 rotate_left
 ·have j:S.SH n e vn kn bn bd=2:=by rw[S.SH,Un hf,Um hb]
  have:=kp (by rw[j];decide) g3 (b.trans f3);rw[j]at this;exact this
 have p:Fr g g3:=⟨by have:=b.1;omega,λi hi=>by rw[f3 i (by have:=b.1;omega) (by have:=f1.1;omega),b.2 i hi]⟩;refine aW (by kernel_rfl) ?_;simp only[sz,simprocAttr,aU];rw[aO,bJ];show wpQ C0 d ([oM 17 6]++[XN 18 38 17]) _ _ _ _;refine bZ (by kernel_rfl) ?_;simp only[sz,simprocAttr];refine bS (ys:=[X9 q]) (by kernel_rfl) (by simp[sx]) ?_;refine tR hd hk hr hm hev he q3 (λhz=>?_) (λhz=>?_)
 rotate_left
 ·have j:S.SH n e vn kn bn bd=7:=by rw[S.SH,Un hf,Un hb,Un hz]
  have:=kp (by rw[j];decide) g3 p;rw[j]at this;exact this
 have j:S.SH n e vn kn bn bd=0:=by rw[S.SH,Un hf,Un hb,Um hz]
 have I:Rsn n e vn kn bn bd:=⟨hr,he,y,ha,hb,hz,by omega⟩;refine aW (by kernel_rfl) ?_;simp only[sz,simprocAttr,aU];rw[aO];rw[bJ];show wpQ C0 d ([oM 19 6]++[XN 20 46 19,o 7 (.alloc [.nilm]),Xx 1 7 20]) _ _ _ _;refine bZ (by kernel_rfl) ?_;simp only[sz,simprocAttr];refine bS (ys:=[X9 q]) (by kernel_rfl) (by simp[sx]) ?_;have r:=AR (e:=e) (by omega);refine pM eO (by kernel_rfl) (by simp[aT]) (sE hd hr hm hev he y ha (λs _=>ui hr hz) r hb q3 (by omega) λmp g4 f4 mp1 mp2 hmp=>?_);refine aW (by kernel_rfl) ?_;have C:∀(g:G) (id m:Nat),eI (Xs 1 [[.nilm]]) g id 0 0 1 0 (.hmap m)=.upd .undef (g.put id (Xs 1 [[.hmap m]])):=λ_ _ _=>rfl;simp only[sz,simprocAttr,aU,C];rw[aO];obtain⟨w,f⟩:∃w,w=(g4.new (Xs 1 [[.nilm]])).put g4.nx (Xs 1 [[.hmap mp]]):=⟨_,rfl⟩;rw[<-f];have d1:w.h.get g4.nx=Xs 1 [[.hmap mp]]:=by rw[f];simp[SD]
 have d2:∀i,i<g4.nx->w.h.get i=g4.h.get i:=λi hi=>by rw[f];simp[SD,show ¬i=g4.nx by omega]
 have d3:w.nx=g4.nx+1:=by rw[f];simp
 have fq:w.h.get q=fp n.grain bb ev vn kn bn bd (S.kn e e.length):=by rw[d2 q (by have:=f4.1;omega),f4.2 q (by omega),q3]
 clear f;rw[bJ];show wpQ C0 d ([oM 21 6,o 22 (.mkf 48 [] [.t 7])]++[XO 23 47 21 22,oM 5 23]) _ _ _ _;refine bZ (by kernel_rfl) ?_;simp only[sz,simprocAttr];refine bS (ys:=[X9 q,.clo 48 [] [X9 g4.nx]]) (by kernel_rfl) (by simp[sx]) ?_;have A:q<w.nx:=by have:=f4.1;omega
 refine pM iC (by kernel_rfl) (by simp[bH]) (FX (R:=S.TD n e vn kn bn bd) hS hd r fq A (λs hs g6 K' D n6 h6 hK=>?_) λu g6 L B f6 hB hL hpw ho=>?_)
 ·exact Q8 (F:=λs=>S.S7 n e s vn kn bn bd) hd (by rw[h6 _ (by omega),d1]) (by rw[h6 _ (by omega),d2 _ mp2,hmp]) ((kY r).2 hs) hK
 ·refine aW (by kernel_rfl) ?_;simp only[sz,simprocAttr,aU];rw[aO,mL,nE,kT];simp only[sz,simprocAttr];have H:Fr g w:=⟨by have:=p.1;have:=f4.1;omega,λi hi=>by have:=p.1;have:=f4.1;rw[d2 i (by omega),f4.2 i (by omega),p.2 i hi]⟩;rw[Ni r hL hpw]at ho;exact kk j u g6 B (H.trans f6) (by have:=H.1;omega) ho
theorem L9[XOc](hS:xu)(hd:0<d)(hk:k<=d)(hm:∀h,Agg n NoP 0 h (.agg [X8 n.grain,bb]))(hev:SlR NoP k .nil e ev)
  (h0:g.h.get 0=Xs 2 [[X8 n.grain,bb]]) (h1:g.h.get 1=Xs 1 [[ev]]) (h2:g.h.get 2=Xs 1 [[X8 v]]) (h3:g.h.get 3=Xs 1 [[X8 a]]) (h4:g.h.get 4=Xs 2 [[X8 bn,X8 bd]]) (hn:5<=g.nx)
  (kk:S.SH n e v a bn bd=0->∀u g' B,Fr g g'->g.nx<=B->Own g' B u 1 ((S.SU (λs=>!S.TD n e v a bn bd (S.SB (S.kn e e.length) s)) (S.kn e e.length)).map cu)->K u g')
  (kp:S.SH n e v a bn bd≠0->∀g',Fr g g'->KP (.ifc 47 (X8 (S.SH n e v a bn bd))) g') :
  CallsP C0 d 51 [X9 0,X9 1,X9 2,X9 3,X9 4] g K KP:=by
 refine fA xO (by simp[lV]) ?_;unfold lV;dsimp only;refine bc (by kernel_rfl) ?_;simp only[sz,simprocAttr,nI];have ld:aI (Xs 2 [[X8 n.grain,bb]]) 0 0 true 2 0=.val (.agg [X8 n.grain,bb]):=rfl;rw[bJ];show wpQ C0 d ([Xv 8 2 0,oL 9 1,oL 10 2,oL 11 3,XY 12 11]++[XQ 13 36 8 9 10 12,o 6 (.alloc [.nilp]),Xx 1 6 13]) _ _ _ _;refine bZ (by kernel_rfl) ?_;simp only[sz,simprocAttr,h0,h1,h2,h3,ld,wu];obtain⟨g1,c⟩:∃g1,g1=g.new (Xs 1 [[X8 a]]):=⟨_,rfl⟩;rw[<-c];have e1:g1.h.get g.nx=Xs 1 [[X8 a]]:=by rw[c];simp[SD]
 have n1:g1.nx=g.nx+1:=by rw[c];simp
 have f1:Fr g g1:=by rw[c];exact Fr.new _ _
 clear c;refine bS (ys:=[.agg [X8 n.grain,bb],ev,X8 v,.hsl g.nx 0 0 1 none]) (by kernel_rfl) (by simp[sx]) ?_;have C:ah g1.h 1 (.hsl g.nx 0 0 1 none)=some ([a].map ci):=by simp only[ah,e1];rfl
 refine vV (l:=[a]) hd hm hev C (λi hi=>by injection hi with hi;omega) (by simp) (λhf q g2 f2 hq1 A hq=>?_) (λhf g2 f2=>?_)
 rotate_left
 ·have r:S.SH n e v a bn bd=S.S6 n e v [a]:=Um hf;have:=kp (by rw[r];exact hf) g2 (f1.trans f2);rw[r]at this;exact this
 obtain⟨M,⟨he,P,X,Y⟩,hx⟩:=qd.1 hf;have hr:=bw.1 M;have V:=hr.l2;obtain⟨vn,rfl⟩:=Ur P;obtain⟨U,-⟩:=dl.1 he;have ha:=hx a (by simp);obtain⟨kn,rfl⟩:=Ur ha.1;have J:vn<e.length:=by omega
 have hq:g2.h.get q=fp n.grain bb ev vn kn 0 0 (S.kn e e.length):=hq;have b:Fr g g2:=f1.trans f2;have G2:∀i,i<5->g2.h.get i=g.h.get i:=λi hi=>b.2 i (by omega);obtain⟨gb,y⟩:∃gb,gb=(g2.new (Xs 1 [[.nilp]])).put g2.nx (Xs 1 [[X9 q]]):=⟨_,rfl⟩;have eb:gb.h.get g2.nx=Xs 1 [[X9 q]]:=by rw[y];simp[SD]
 have ebo:∀i,i<g2.nx->gb.h.get i=g2.h.get i:=λi hi=>by rw[y];simp[SD,show ¬i=g2.nx by omega]
 have nb:gb.nx=g2.nx+1:=by rw[y];simp
 have hq:gb.h.get q=fp n.grain bb ev vn kn 0 0 (S.kn e e.length):=by rw[ebo q A,hq]
 have b:Fr g gb:=⟨by have:=b.1;omega,λi hi=>by rw[ebo i (by have:=b.1;omega),b.2 i hi]⟩;have G2:∀i,i<5->gb.h.get i=g.h.get i:=λi hi=>b.2 i (by omega);obtain⟨p,hp⟩:∃p,p=g2.nx:=⟨_,rfl⟩;have W:q<p:=by omega
 rw[<-hp]at eb;have N:p<gb.nx:=by omega
 have A:q<gb.nx:=by omega
 have I:∀(g:G) (id m:Nat),eI (Xs 1 [[.nilp]]) g id 0 0 1 0 (X9 m)=.upd .undef (g.put id (Xs 1 [[X9 m]])):=λ_ _ _=>rfl;have ldq:aI (Xs 2 [[X8 bn,X8 bd]]) 0 0 true 2 0=.val (.agg [X8 bn,X8 bd]):=rfl;refine aW (by kernel_rfl) ?_;simp only[sz,simprocAttr,aU,I];rw[<-y,<-hp];rw[aO,bJ];show wpQ C0 d ([oL 14 6,Xv 15 2 4]++[XO 16 37 14 15]) _ _ _ _;refine bZ (by kernel_rfl) ?_;simp only[sz,simprocAttr,G2 4 (by decide),h4,ldq,eb];refine bS (ys:=[X9 q,.agg [X8 bn,X8 bd]]) (by kernel_rfl) (by simp[sx]) ?_;refine vv hd hq A (λhb g3 n3 f3 q3=>?_) (λhb g3 f3=>?_)
 rotate_left
 ·have r:S.SH n e vn kn bn bd=2:=by rw[S.SH,Un hf,Um hb]
  have:=kp (by rw[r];decide) g3 (b.trans f3);rw[r]at this;exact this
 have z:g3.h.get p=Xs 1 [[X9 q]]:=by rw[f3 p N (by omega),eb]
 have w:Fr g g3:=⟨by have:=b.1;omega,λi hi=>by rw[f3 i (by have:=b.1;omega) (by have:=f1.1;omega),b.2 i hi]⟩;refine aW (by kernel_rfl) ?_;simp only[sz,simprocAttr,aU];rw[aO,bJ];show wpQ C0 d ([oL 17 6]++[XN 18 38 17]) _ _ _ _;refine bZ (by kernel_rfl) ?_;simp only[sz,simprocAttr,z];refine bS (ys:=[X9 q]) (by kernel_rfl) (by simp[sx]) ?_;refine tR hd hk hr hm hev he q3 (λhz=>?_) (λhz=>?_)
 rotate_left
 ·have r:S.SH n e vn kn bn bd=7:=by rw[S.SH,Un hf,Un hb,Un hz]
  have:=kp (by rw[r];decide) g3 w;rw[r]at this;exact this
 have r:S.SH n e vn kn bn bd=0:=by rw[S.SH,Un hf,Un hb,Um hz]
 have T:Rsn n e vn kn bn bd:=⟨hr,he,J,ha,hb,hz,by omega⟩;refine aW (by kernel_rfl) ?_;simp only[sz,simprocAttr,aU];rw[aO];rw[bJ];show wpQ C0 d ([oL 19 6]++[XN 20 46 19,o 7 (.alloc [.nilm]),Xx 1 7 20]) _ _ _ _;refine bZ (by kernel_rfl) ?_;simp only[sz,simprocAttr,z];refine bS (ys:=[X9 q]) (by kernel_rfl) (by simp[sx]) ?_;have j:=AR (e:=e) (by omega);refine pM eO (by kernel_rfl) (by simp[aT]) (sE hd hr hm hev he J ha (λs _=>ui hr hz) j hb q3 (by omega) λmp g4 f4 mp1 mp2 hmp=>?_);refine aW (by kernel_rfl) ?_;have O:∀(g:G) (id m:Nat),eI (Xs 1 [[.nilm]]) g id 0 0 1 0 (.hmap m)=.upd .undef (g.put id (Xs 1 [[.hmap m]])):=λ_ _ _=>rfl;simp only[sz,simprocAttr,aU,O];rw[aO];obtain⟨x,f⟩:∃x,x=(g4.new (Xs 1 [[.nilm]])).put g4.nx (Xs 1 [[.hmap mp]]):=⟨_,rfl⟩;rw[<-f];have d1:x.h.get g4.nx=Xs 1 [[.hmap mp]]:=by rw[f];simp[SD]
 have d2:∀i,i<g4.nx->x.h.get i=g4.h.get i:=λi hi=>by rw[f];simp[SD,show ¬i=g4.nx by omega]
 have d3:x.nx=g4.nx+1:=by rw[f];simp
 have fq:x.h.get q=fp n.grain bb ev vn kn bn bd (S.kn e e.length):=by rw[d2 q (by have:=f4.1;omega),f4.2 q (by omega),q3]
 have E:x.h.get p=Xs 1 [[X9 q]]:=by rw[d2 p (by have:=f4.1;omega),f4.2 p (by omega),z]
 clear f;rw[bJ];show wpQ C0 d ([oL 21 6,o 22 (.mkf 52 [] [.t 7,.t 6])]++[XO 23 47 21 22,oM 5 23]) _ _ _ _;refine bZ (by kernel_rfl) ?_;simp only[sz,simprocAttr,E];refine bS (ys:=[X9 q,.clo 52 [] [X9 g4.nx,X9 p]]) (by kernel_rfl) (by simp[sx]) ?_;have H:q<x.nx:=by have:=f4.1;omega
 refine pM iC (by kernel_rfl) (by simp[bH]) (FX (R:=λs=>!S.TD n e vn kn bn bd (S.SB (S.kn e e.length) s)) hS hd j fq H (λs hs g6 K' D n6 h6 hK=>?_) λu g6 L B f6 hB hL hpw ho=>?_)
 ·exact Q7 (F:=λs=>S.S7 n e s vn kn bn bd) hd j (by rw[h6 _ (by omega),d1]) (by rw[h6 _ (by omega),d2 _ mp2,hmp]) (by rw[h6 _ (by have:=f4.1;omega),E]) (by rw[h6 _ H,fq]) (xk hs j) hK
 ·refine aW (by kernel_rfl) ?_;simp only[sz,simprocAttr,aU];rw[aO,mL,nE,kT];simp only[sz,simprocAttr];have Q:Fr g x:=⟨by have:=w.1;have:=f4.1;omega,λi hi=>by have:=w.1;have:=f4.1;rw[d2 i (by omega),f4.2 i (by omega),w.2 i hi]⟩;rw[Ni j hL hpw]at ho;exact kk r u g6 B (Q.trans f6) (by have:=Q.1;omega) ho
end
end
end Hx
