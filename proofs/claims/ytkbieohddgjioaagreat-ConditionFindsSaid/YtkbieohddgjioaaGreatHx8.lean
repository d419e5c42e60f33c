/- A part of the proof: what the functions of the chapter compute. -/
import Derived.Test.YtkbieohddgjioaaGreatHx7
set_option linter.all false
set_option maxRecDepth 20000
set_option maxHeartbeats 8000000
namespace Hx
open Go
noncomputable section
variable {g g':G}{d i k q j K pv m pq pm:Nat}{gr size:Int}{Q:QT}{t:T}{l:List Sp}{P:Nat->Prop}{x:Node}{L:List Node}{V:Ky->AV}{E:Ky->En}{w pl:List Int}{D:ND}{r5 W wv lv:AV}{r0 brow:List AV}{h:H}
theorem yH{g:G}{b:Nat}{v x:AV}{sz bytes:Nat}{rows new:List (List AV)}{K:AV->G->Prop}{D:ADf->Prop}(hv:Own g b v sz rows)(hx:ak g.h sz x=some new)(hb:b<=g.nx)
  (hr:(rows.length+new.length)*bytes<=aT)
  (k:∀v' g',Own g' b v' sz (rows++new)->g.nx<=g'.nx->(∀i,i<g.nx->vid v≠some i->g'.h.get i=g.h.get i)->(vid v'=vid v\/∃i,vid v'=some i/\g.nx<=i)->(∀i∈g'.lg,i∈g.lg\/vid v=some i\/g.nx<=i)->K v' g') :
  (cW sz bytes v x g).sat K g D:=by
 unfold cW;rw[hx];dsimp only;rcases hv with⟨rfl,rfl⟩|⟨id,ep,lo,h1,h2,rfl,a⟩
 ·cases new with
  |nil=>exact k _ _ (.inl ⟨rfl,rfl⟩) (Vu _) (λ_ _ _=>rfl) (.inl rfl) (λi hi=>.inl hi)
  | cons r new =>
   simp only[bk,aF,aa,Wt];rw[VC (by simpa using hr)];refine k _ _ (.inr ⟨g.nx,0,true,hb,by simp,rfl,by simp[aJ]⟩) (by simp) (λi hi _=>?_) (.inr ⟨g.nx,rfl,Vu _⟩) (λi hi=>by simp at hi;rcases hi with rfl|hi;exact .inr (.inr (Vu _));exact .inl hi);rw[G.new_h,af _ _ _ (by omega)]
 ·simp only[bk,G.get_eq,a,aF,aa,show Nat.beq ep ep=true from Wm ep,show Nat.beq sz sz=true from Wm sz,WA,Wt,Vx,WE,Xg,XJ];rw[VC ⟨Vu _,hr⟩];cases new with
  | nil =>
   rw[VC (by simp)];refine k _ _ (.inr ⟨id,ep,lo,h1,h2,by simp,by simpa using a⟩) (Vu _) (λ_ _ _=>rfl) (.inl rfl) (λi hi=>.inl hi)
  | cons r new =>
   rw[Vz (by simp)];have ht:iJ rows.length (iz 0 rows)=rows:=by rw[bj,bp];simp
   cases lo with
   | false =>
    rw[VC (by simp)];refine k _ _ (.inr ⟨g.nx,0,true,by omega,by simp,by simp,by simp[aJ,ht]⟩) (by simp) (λi hi _=>?_) (.inr ⟨g.nx,rfl,Vu _⟩) (λi hi=>by simp at hi;rcases hi with rfl|hi;exact .inr (.inr (Vu _));exact .inl hi);rw[G.new_h,af _ _ _ (by omega)]
   | true =>
    rw[Vz (by simp)];refine k _ _ (.inr ⟨id,ep+1,true,h1,by simpa using h2,by simp,by simp[aJ,ht]⟩) (by simp) (λi hi hne=>?_) (.inl rfl) (λi hi=>by simp at hi;rcases hi with rfl|hi;exact .inr (.inl rfl);exact .inl hi);rw[G.put_h,af _ _ _ (λe=>hne (by rw[e];rfl))]
section
variable {κ:Type} [DecidableEq κ]{g:G}{b:Nat}{L:κ->Prop}{V:κ->AV}{E:κ->En}{k:κ}
theorem Hp.app2(h:Hp g b L V E)(hk:L k){sz bytes:Nat}{rows new:List (List AV)}(he:E k=.sl sz rows){x:AV}{K:AV->G->Prop}{D:ADf->Prop}(hx:ak g.h sz x=some new)
  (hr:(rows.length+new.length)*bytes<=aT)
  (kk:∀v' g',Hp g' b L (ups V k v') (ups E k (.sl sz (rows++new)))->g.nx<=g'.nx->(∀i,i<b->g'.h.get i=g.h.get i)->(∀i,i<g.nx->eid (V k)≠some i->g'.h.get i=g.h.get i)->(∀i∈g'.lg,i∈g.lg\/eid (V k)=some i\/g.nx<=i)->v'.cells=[v']->v'.isTup=false->K v' g') :
  (cW sz bytes (V k) x g).sat K g D:=by
 have ho:=h.own hk he;refine yH ho hx h.nx hr λv' g' hv' hn hf hvid hlg=>?_;refine kk v' g' (h.set hk (e':=.sl sz (rows++new)) hv' hn (λi _ hi hne=>hf i hi (by rw[<-cp ho];exact hne)) ?_) hn (λi hi=>hf i (VL hi h.nx) λe=>by have:=(ho.lt e).1;omega)
  (λi hi hne=>hf i hi (by rw[<-cp ho];exact hne)) (λi hi=>by rw[cp ho];exact hlg i hi) hv'.cell.1 hv'.cell.2
 rw[cp hv',cp ho];exact hvid
theorem Hp.putv(h:Hp g b L V E)(hk:L k){v0:AV}(hv:V k=v0){sz n off:Nat}{rows:List (List AV)}{row row':List AV}(he:E k=.sl sz rows){x:AV}{K:AV->G->Prop}{D:ADf->Prop}(hr:rows[i]?=some row)
  (hl:x.cells.length=n) (ht:x.isTup=false) (hp:bu row off x.cells=some row')
  (kk:∀g',Hp g' b L V (ups E k (.sl sz (rows.set i row')))->g'.nx=g.nx->(∀i,i<b->g'.h.get i=g.h.get i)->(∀i,eid (V k)≠some i->g'.h.get i=g.h.get i)->K .undef g'):(jV n (eJ sz v0 i off) x g).sat K g D:=by
 subst hv;exact h.put hk he hr hl ht hp kk
end
theorem CF(m n:Nat):∃z:Nat,bQ .shr (.int .u8 (m:Int)) (ZL (n:Int))=.val (.int .u8 (z:Int)) :=
 ⟨m / 2 ^ (Nat.min n 8),rfl⟩
theorem CE(m n:Nat):∃z:Int,bQ .and (.int .u8 (m:Int)) (.int .u8 (n:Int))=.val (.int .u8 z):=by have:∃z:Int,Op.intBits .and .u8 (.ofNat m) (.ofNat n)=.pure (.int .u8 z):=⟨_,rfl⟩;obtain⟨z,hz⟩:=this;refine⟨z,?_⟩;show orV (qw (Op.intBits .and .u8 (.ofNat m) (.ofNat n)))=_;rw[hz];rfl
structure DB (D:ND) (n i v:Nat) (num:Nat->Nat):Prop where
 c:∀u,u<n->D.c u=2\/D.c u=3
 p:∀u,u<n->(D.P u).length<=3/\∀y∈D.P u,0<=y/\y<n
 m:∀u,u<n->D.m u<=64
 o:∀u,D.o u=0
 f:∀k,i<k->k<n->D.P (num k)=[]/\D.m (num k)=0
def S.UE(P0:List Int)(c0:Nat->Int):Int:=S.Ty (P0.map λy=>c0 y.toNat)
structure DOk (gr:Int) (D:ND) (n i:Nat) (num:Nat->Nat):Prop where
 s:∀u,u<n->(D.P u).Pairwise (·<·)
 a:∀k,k<n->∀y∈D.P (num k),∃k',k'<k/\y=(num k':Int)
 w:∀k,k<i->(D.m (num k):Int)=S.UE (D.P (num k)) D.c
 r:∀u r,u<n->r<D.m u->Pm gr (D.c u) (D.R u r)
def LDB(n q i p v:Nat)(r5:AV):List (Nat×AV):=[(1,ZK 0),(2,ZK 1),(3,ZJ (n:Int)),(4,ZK q),(5,r5),(10,ZJ (i:Int)),(11,ZK p),(12,ZJ (v:Int))]
structure DP (r0 prow:List AV) (n q i p v:Nat) (gr:Int) (r5:AV) (num:Nat->Nat) (g:G) (V:Ky->AV) (E:Ky->En) (D:ND):Prop where
 dn:DN X2 r0 n q 1000 gr V E D g
 pb:V (0,2)=ZK p/\E (0,2)=.bx prow
 db:DB D n i v num
 mv:D.m v=0
 ok:DOk gr D n i num
theorem DP.p{r0 prow:List AV}{n q i p v:Nat}{gr:Int}{r5:AV}{num:Nat->Nat}{g:G}{V:Ky->AV}{E:Ky->En}{D:ND}(h:DP r0 prow n q i p v gr r5 num g V E D):g.h.get p=Y6 prow.length [prow]/\2<=p/\p<g.nx:=by obtain⟨id,h1,h2,a,h4⟩:=h.dn.hp.box (k:=(0,2)) (.inr (.inr rfl)) h.pb.2;rw[h.pb.1]at a;injection a with a;subst a;exact⟨h4,h1,h2⟩
theorem Ei{X:Ky->Prop}{n:Nat}{V:Ky->AV}{E:Ky->En}{g:G}(h:Hp g 2 (LNX X n D) V E){j k:Ky}(hj:LNX X n D j)(hk:LNX X n D k)(hne:j≠k){id:Nat}(he:eid (V j)=some id):eid (V k)≠some id:=h.sep j k hj hk hne id he
def Bk:SC:=.feet [0,1,0,0,8,0,56,120,248,0,512,2040,4095,8191,16383] [oF 131 1 4,oL 132 131,oM 133 12,oF 134 1 4,oL 135 134,oM 136 12,Ze 137 3 135 136,oF 138 1 137,oL 139 138,oM 140 13,ZB 141 140,Zu 142 1 8 139 141,Ze 143 3 132 133,oF 144 1 143,Za 1 144 142]
theorem Qg{n p v u:Nat}{prow:List AV}{num:Nat->Nat}{g:G}{V:Ky->AV}{E:Ky->En}{rest:List (Nat×AV)}(hn:1<=n/\n<=5)(hv:v<n)(hvi:∀k,i<k->k<n->num k≠v)(hu:u<n)(hvl:∀k,k<i->num k≠v)(hua:∃k',k'<i/\u=num k')(hlt:∀y∈D.P v,y<(u:Int))
  (h4:tat t 4=ZK q) (h12:tat t 12=ZJ (v:Int)) (h13:tat t 13=ZJ (u:Int)) (hP:DP r0 prow n q i p v gr r5 num g V E D) (hl:(D.P v).length<3)
  (fin:∀t' g' V' E' D',(∀s,(s<131\/144<s)->tat t' s=tat t s)->D'.P v=D.P v++[(u:Int)]->DP r0 prow n q i p v gr r5 num g' V' E' D'->Q .norm t' [] g') :
  wp C0 d none Bk Q t [] g:=by
 have l:=hP.dn;obtain⟨kq,U,W⟩:=l.q (.inl rfl);unfold Bk;have rns:=l.ns.rows;have K:=fR l.ns (by simp;omega);have u3:v<((List.range n).map (gJ D V)).length:=by simpa using hv
 have N:=g9 (gJ D V) hv;have M:=l.bn.ps v hv;have R:=l.hp.nx;simp only[sz,simprocAttr,sf,h4,h12,h13,kq,rns,u3,N,K,gJ];refine (l.hp.step (g':=_) ?_ ?_).app2 (k:=(v+1,0)) (.inl (LN.p hv)) M.1 (new:=[ci (u:Int)]) (by simp[sx,sy,ci]) (by unfold aT;simp;omega) λv1 g1 hH1 n1 fb1 fo1 lg1 vc vt=>?_
 ·simp;omega
 ·intro i _ hi;simp[TA];omega
 simp only[sx,sy]at n1 fb1 fo1 lg1;have H:ups V (v+1,0) v1 (0,0)=V (0,0):=ac _ _ (by simp);have C:ups E (v+1,0) (.sl 1 ((D.P v).map ci++[ci (u:Int)])) (0,0)=.sl 3 ((List.range n).map (gJ D V)):=by rw[ac _ _ (by simp)];exact l.bn.ns
 have rns1:ak g1.h 3 (V (0,0))=some ((List.range n).map (gJ D V)):=by rw[<-H];exact (hH1.own (k:=(0,0)) (.inl LN.z) C).rows
 have X:((List.range n).map (gJ D V))[v]?=some [ZJ (D.c v),V (v+1,0),V (v+1,1)]:=N;simp only[sz,simprocAttr,sf,rns1,u3,K];refine (hH1.same (g':=_) ?_ ?_).putv (k:=(0,0)) (.inl LN.z) H (row':=[ZJ (D.c v),v1,V (v+1,1)]) C N (by rw[vc];rfl) vt (by rw[vc];rfl) λg2 hH2 n2 fb2 fo2=>?_
 ·simp
 ·simp;omega
 simp only[sy];refine⟨?_,?_⟩
 ·simp only[VJ,VN,VH,VE];refine aA (Zn (Zl (true::(true::(Zn (true::[])))))) [(0,10),(1,10),(2,10),(3,10),(4,10),(5,10),(6,10),(7,10),(8,10),(0,11),(1,11),(2,11)] (by simp[All2,ah,ay]) (by decide) ?_;have I:∀i∈g1.lg,i≠q:=λi hi e=>by
   rcases lg1 i hi with h|h|h
   ·simp at h
   ·exact Ei l.hp (.inl (LN.p hv)) (.inr (.inl rfl)) (by simp) h (by rw[l.vb,e];rfl)
   ·omega
  obtain⟨id0,ep0,O,L⟩:∃id ep,id<g.nx/\V (0,0)=.hsl id ep 0 ((List.range n).map (gJ D V)).length none:=by
   rcases l.ns with⟨h,e⟩|⟨id,ep,lo,-,h1,h2,-⟩
   ·have:=congrArg List.length e;simp at this;omega
   ·exact⟨id,ep,h1,h2⟩
  have F:∀i∈g1.lg,i≠id0:=λi hi e=>by
   rcases lg1 i hi with h|h|h
   ·simp at h
   ·exact Ei l.hp (.inl (LN.p hv)) (.inl LN.z) (by simp) h (by rw[L,e];rfl)
   ·omega
  rintro p J x y hx B;simp only[VP,VG,Xh]at J;rcases J with rfl|rfl|rfl|rfl|rfl|rfl|rfl|rfl|rfl|rfl|rfl|rfl<;>(simp at hx B;subst hx;subst B;refine bI rfl rfl rfl rfl ?_ ?_ ?_<;>simp[ah,ay,aw,L,eJ]<;>first|omega|exact I|exact F|exact λi hi e=>I i hi e.symm|exact λi hi e=>F i hi e.symm)
 refine fin _ _ (ups V (v+1,0) v1) _ { D with P:=ups D.P v (D.P v++[(u:Int)]) } (λs hs=>?_) (ax _ _ _) ⟨⟨(hH2.same (g':=_) (by simp) (by simp)).sub λk hk=>hk,⟨?_,λj hj=>?_,λj hj=>?_,λj r hj hr=>?_⟩,?_,?_,?_,?_⟩,⟨?_,?_⟩,⟨hP.db.c,λw hw=>?_,hP.db.m,hP.db.o,λk hk hkn=>?_⟩,hP.mv,?_⟩
 ·simp only[kP]
  repeat rw[Vz (by omega)]
 ·rw[ax,pj _ _ hv];congr 1;refine Bh (by simp[gJ,ax,ac]) λj hj hne=>by simp[gJ,ac,hne]
 ·by_cases e:j=v
  ·subst e;rw[ac _ _ (by simp),ax];show En.sl 1 _=En.sl 1 ((ups D.P j (D.P j++[(u:Int)]) j).map ci)/\(ups D.P j (D.P j++[(u:Int)]) j).length<=1000;rw[ax];exact⟨by simp,by simp;omega⟩
  ·rw[ac _ _ (by simp),ac _ _ (by simp[e])];show E (j+1,0)=En.sl 1 ((ups D.P v (D.P v++[(u:Int)]) j).map ci)/\(ups D.P v (D.P v++[(u:Int)]) j).length<=1000;rw[ac _ _ e];exact l.bn.ps j hj
 ·rw[ac _ _ (by simp),ac _ _ (by simp)];have:=l.bn.rs j hj;refine⟨?_,this.2⟩;rw[this.1];congr 1;exact WI λr _=>by simp[Ih,ac]
 ·rw[ac _ _ (by simp),ac _ _ (by simp),ac _ _ (by simp)];exact l.bn.rr j r hj hr
 ·rw[ac _ _ (by simp)];exact l.vb
 ·rw[ac _ _ (by simp),ac _ _ (by simp),ac _ _ (by simp)];exact l.bx
 ·simp only[bumpG_h];rw[fb2 0 (by omega)];simp;rw[fb1 0 (by omega),Vz (by omega),l.h0]
 ·simp only[bumpG_h];rw[fb2 1 (by omega)];simp;rw[fb1 1 (by omega),Vz (by omega),l.h1]
 ·rw[ac _ _ (by simp)];exact hP.pb.1
 ·rw[ac _ _ (by simp),ac _ _ (by simp)];exact hP.pb.2
 ·by_cases e:w=v
  ·subst e;show (ups D.P w (D.P w++[(u:Int)]) w).length<=3/\∀y∈ups D.P w (D.P w++[(u:Int)]) w,0<=y/\y<n;rw[ax];refine⟨by simp;omega,λy B=>?_⟩;rcases V7.1 B with h|h
   ·exact (hP.db.p w hw).2 y h
   ·rw[VY.1 h];omega
  ·show (ups D.P v (D.P v++[(u:Int)]) w).length<=3/\∀y∈ups D.P v (D.P v++[(u:Int)]) w,0<=y/\y<n;rw[ac _ _ e];exact hP.db.p w hw
 ·show ups D.P v (D.P v++[(u:Int)]) (num k)=[]/\D.m (num k)=0;rw[ac _ _ (hvi k hk hkn)];exact hP.db.f k hk hkn
 ·have A:=hP.ok;refine⟨λw hw=>?_,λk hk y B=>?_,λk hk=>?_,A.r⟩
  ·show (ups D.P v (D.P v++[(u:Int)]) w).Pairwise (·<·)
   by_cases e:w=v
   ·rw[e,ax];rw[List.pairwise_append];exact⟨A.s v hv,List.pairwise_singleton _ _,λa ha b hb=>by rw[VY.1 hb];exact hlt a ha⟩
   ·rw[ac _ _ e];exact A.s w hw
  ·have B:y∈ups D.P v (D.P v++[(u:Int)]) (num k):=B
   by_cases e:num k=v
   ·rw[e,ax]at B;rcases V7.1 B with h|h
    ·rw[<-e]at h;exact A.a k hk y h
    ·obtain⟨k',h1,h2⟩:=hua;have:¬k<i:=λh=>hvl k h e;exact⟨k',by omega,by rw[VY.1 h,h2]⟩
   ·rw[ac _ _ e]at B;exact A.a k hk y B
  ·show (D.m (num k):Int)=S.UE (ups D.P v (D.P v++[(u:Int)]) (num k)) D.c;rw[ac _ _ (hvl k hk)];exact A.w k hk
structure DJ (r0 prow:List AV) (n q i p v u:Nat) (gr:Int) (r5:AV) (num:Nat->Nat) (j:Nat) (t:T) (g:G):Prop where
 st:St t ((13,ZJ (u:Int))::LDB n q i p v r5)
 hd:∃V E D,DP r0 prow n q i p v gr r5 num g V E D/\(∀y∈D.P v,y<=(u:Int))/\((∃k,k<j/\num k=u)\/∀y∈D.P v,y<(u:Int))
theorem R9{n p v u:Nat}{y1 y2:UInt8}{num:Nat->Nat}(hn:1<=n/\n<=5)(h5:IT 0 pl r5)(hN:Num n pl num)(hi:i<n)(hv:v=num i)(hu:u<n)
  (h0:DJ r0 [u8v y1,u8v y2,wv] n q i p v u gr r5 num 0 t g) (h14:tat t 14=ZJ 0)
  (fin:∀t g,DJ r0 [u8v y1,u8v y2,wv] n q i p v u gr r5 num i t g->Q (.exit 6) t [] g):wpL (wp C0 d none fH) Q t [] g:=by
 have A:∀h,ak h 1 r5=some (pl.map ci):=λh=>(h5.sl h).ints;have o:v<n:=by rw[hv];exact hN.lt i hi
 have S:∀k,i<k->k<n->num k≠v:=λk h1 h2 e=>by have:=hN.inj k i h2 hi (by rw[e,hv]);omega
 have U:∀k,k<i->num k≠v:=λk h1 e=>by have:=hN.inj k i (by omega) hi (by rw[e,hv]);omega
 obtain⟨FR,H⟩:∃FR,FR=Bk:=⟨_,rfl⟩;simp only[fH,ke];rw[show (SC.feet [0,1,0,0,8,0,56,120,248,0,512,2040,4095,8191,16383] [oF 131 1 4,oL 132 131,oM 133 12,oF 134 1 4,oL 135 134,oM 136 12,Ze 137 3 135 136,oF 138 1 137,oL 139 138,oM 140 13,ZB 141 140,Zu 142 1 8 139 141,Ze 143 3 132 133,oF 144 1 143,Za 1 144 142])=FR from H.symm];refine aP i (by omega) (λj t df g=>df=[]/\DJ r0 [u8v y1,u8v y2,wv] n q i p v u gr r5 num j t g) ⟨rfl,h0⟩ h14 (by decide) ?_ ?_ ?_ ?_
 ·rintro j t df g w s (rfl|rfl|rfl) ⟨a1,⟨b1,b2,b3,b4,b5,b6,b7,b8,b9,-⟩,c⟩<;>exact⟨a1,by simp[St,LDB,sx,b1,b2,b3,b4,b5,b6,b7,b8,b9],c⟩
 ·rintro j t df g X ⟨rfl,⟨a,h1,h2,F,h4,h5,l,b,f,-⟩,hD⟩ h14;simp only[sz,simprocAttr,h14,l];exact⟨by simp[St,LDB,sx,a,h1,h2,F,h4,h5,l,b,f],hD⟩
 ·rintro j t df g X ⟨rfl,⟨a,h1,h2,F,h4,h5,l,b,f,-⟩,V,E,D,x,z,I⟩ h14;obtain⟨kp,-,-⟩:=x.p;have kp:g.h.get p=Y6 3 [[u8v y1,u8v y2,wv]]:=kp;obtain⟨kq,h6,h7⟩:=x.dn.q (.inl rfl);have rns:=x.dn.ns.rows;have J:=fR x.dn.ns (by simp;omega);have K:j<(pl.map ci).length:=by rw[VF,hN.len];omega
  have L:(pl.map ci)[j]?=some (ci (num j:Int)):=by rw[Vw,hN.at_ j (by omega)];rfl
  have u3:v<((List.range n).map (gJ D V)).length:=by simpa using o
  have Y:((List.range n).map (gJ D V))[v]?=some [ZJ (D.c v),V (v+1,0),V (v+1,1)]:=g9 (gJ D V) o;have O:=x.dn.bn.ps v o;have B:∀g2:G,dH .slice (V (v+1,0)) g2=.val (ZJ ((D.P v).length:Int)):=λg2=>by have:=(x.dn.hp.own (.inl (LN.p o)) O.1).rows;rw[dl this];simp
  have w1:IntKind.wrap .u64 (j:Int)=(j:Int):=rN (by omega) (by omega);obtain⟨Z,C⟩:=CF y2.toNat j;obtain⟨z2,W⟩:=CE Z 1;have m:(∃k,k<j+1/\num k=u)\/∀y∈D.P v,y<(u:Int):=by
   rcases I with⟨k,h1,h2⟩|h
   ·exact .inl ⟨k,by omega,h2⟩
   ·exact .inr h
  have r:bQ .and (.int .u8 (Z:Int)) (.int .u8 1)=.val (.int .u8 z2):=W
  by_cases c1:(num j:Int)=(u:Int)
  ·by_cases c2:z2=1
   ·by_cases c3:((D.P v).length:Int)<3
    ·simp only[sz,simprocAttr,h14,h5,a,A,K,L,ci,c1,b,kp,u8v,w1,C,r,c2,h4,kq,f,rns,u3,Y,J,B,c3];rw[H];refine Qg (n:=n) (q:=q) (i:=i) (p:=p) (v:=v) (u:=u) (r5:=r5) (num:=num) hn o S hu U ⟨j,X,by omega⟩ ?_ ?_ ?_ ?_ x (by omega) (rest:=[]) ?_
     ·rcases I with⟨k,h1,h2⟩|h
      ·have:=hN.inj k j (by omega) (by omega) (by omega);omega
      ·exact h
     ·simp[sx,h4]
     ·simp[sx,f]
     ·simp[sx,a]
     intro t' g' V' E' D' R N M;simp only[sy];have hs:∀s,s<131->tat t' s=_:=λs h=>R s (.inl h);refine⟨⟨?_,V',E',D',M,λy hy=>?_,.inl ⟨j,by omega,by omega⟩⟩,?_⟩
     ·simp[St,LDB,hs,sx,a,h1,h2,F,h4,h5,l,b,f]
     ·rw[N]at hy;rcases V7.1 hy with h|h
      ·exact z y h
      ·rw[VY.1 h];exact Int.le_refl _
     ·simp[hs,sx,h14]
    ·simp only[sz,simprocAttr,h14,h5,a,A,K,L,ci,c1,b,kp,u8v,w1,C,r,c2,h4,kq,f,rns,u3,Y,J,B,c3];exact⟨by simp[St,LDB,sx,a,h1,h2,F,h4,h5,l,b,f],V,E,D,x,z,m⟩
   ·simp only[sz,simprocAttr,h14,h5,a,A,K,L,ci,c1,b,kp,u8v,w1,C,r,c2];exact⟨by simp[St,LDB,sx,a,h1,h2,F,h4,h5,l,b,f],V,E,D,x,z,m⟩
  ·simp only[sz,simprocAttr,h14,h5,a,A,K,L,ci,c1];exact⟨by simp[St,LDB,sx,a,h1,h2,F,h4,h5,l,b,f],V,E,D,x,z,m⟩
 ·rintro t df g ⟨rfl,h⟩;exact fin t g h
structure DK (r0 prow:List AV) (n q i p v:Nat) (gr:Int) (r5:AV) (num:Nat->Nat) (j:Nat) (t:T) (g:G):Prop where
 st:St t (LDB n q i p v r5)
 hd:∃V E D,DP r0 prow n q i p v gr r5 num g V E D/\∀y∈D.P v,y<(j:Int)
theorem R_{n p v:Nat}{y1 y2:UInt8}{num:Nat->Nat}(hn:1<=n/\n<=5)(h5:IT 0 pl r5)(hN:Num n pl num)(hi:i<n)(hv:v=num i)
  (h0:DK r0 [u8v y1,u8v y2,wv] n q i p v gr r5 num 0 t g) (h13:tat t 13=ZJ 0)
  (fin:∀t g,DK r0 [u8v y1,u8v y2,wv] n q i p v gr r5 num n t g->Q (.exit 4) t [] g):wpL (wp C0 d none fI) Q t [] g:=by
 simp only[fI,kg];refine aP n (by omega) (λj t df g=>df=[]/\DK r0 [u8v y1,u8v y2,wv] n q i p v gr r5 num j t g) ⟨rfl,h0⟩ h13 (by decide) ?_ ?_ ?_ ?_
 ·rintro j t df g w s (rfl|rfl|rfl) ⟨a1,⟨b1,b2,b3,C,b5,b6,F,H,-⟩,c⟩<;>exact⟨a1,by simp[St,LDB,sx,b1,b2,b3,C,b5,b6,F,H],c⟩
 ·rintro j t df g B ⟨rfl,⟨h1,h2,f,h4,h5,k,a,b,-⟩,m⟩ h13;simp only[sz,simprocAttr,h13,f];exact⟨by simp[St,LDB,sx,h1,h2,f,h4,h5,k,a,b],m⟩
 ·rintro j t df g B ⟨rfl,⟨h1,h2,f,h4,l,k,a,b,-⟩,V,E,D,m,hlt⟩ h13;simp only[sz,simprocAttr];refine R9 (u:=j) hn h5 hN hi hv B ⟨by simp[St,LDB,sx,h13,h1,h2,f,h4,l,k,a,b],V,E,D,m,λy hy=>Int.le_of_lt (hlt y hy),.inr hlt⟩ (by simp[sx]) ?_;rintro M g2 ⟨⟨A,I,k2,J,K,L,r,x,z,-⟩,V2,E2,D2,o,e,-⟩;simp only[sx,sy,↓reduceIte];exact⟨⟨by simp[St,LDB,I,k2,J,K,L,r,x,z],V2,E2,D2,o,λy hy=>by have:=e y hy;omega⟩,A⟩
 ·rintro t df g ⟨rfl,h⟩;exact fin t g h
def Bs:SC:=.feet [0,1,0,0,8,0,56,120,248,0,512,0,2048,0,14336,30720,63488,0,131072,0,0,1048576,0,7340032,15728640,32505856,66060288,133693440,268434944,536870400,1073741816,2147483647,4294967295,8589934591] [oF 153 1 4,oL 154 153,oM 155 12,oF 156 1 4,oL 157 156,oM 158 12,Ze 159 3 157 158,oF 160 2 159,oL 161 160,oF 162 0 4,oL 163 162,oF 164 1 4,oL 165 164,oM 166 12,Ze 167 3 165 166,oF 168 0 167,oL 169 168,oF 170 2 11,oL 171 170,oM 172 15,oF 173 1 4,oL 174 173,oM 175 12,Ze 176 3 174 175,oF 177 0 176,oL 178 177,oA 179 178,Y7 180 .mul 172 179,Zt 181 24 163 169 171 180,ZC 182 181,Zu 183 1 24 161 182,Ze 184 3 154 155,oF 185 2 184,Za 1 185 183]
structure DQ (r0 prow:List AV) (n q i p v j:Nat) (gr:Int) (r5:AV) (num:Nat->Nat) (P0:List Int) (c0:Nat->Int) (g:G) (V:Ky->AV) (E:Ky->En) (D:ND):Prop where
 dn:DN X2 r0 n q 1000 gr V E D g
 pb:V (0,2)=ZK p/\E (0,2)=.bx prow
 db:DB D n i v num
 mv:D.m v=j
 pv:D.P v=P0
 cv:D.c=c0
 ok:DOk gr D n i num
theorem DQ.p{r0 prow:List AV}{n q i p v j:Nat}{gr:Int}{r5:AV}{num:Nat->Nat}{P0:List Int}{c0:Nat->Int}{g:G}{V:Ky->AV}{E:Ky->En}{D:ND}(h:DQ r0 prow n q i p v j gr r5 num P0 c0 g V E D):g.h.get p=Y6 prow.length [prow]/\2<=p/\p<g.nx:=by obtain⟨id,h1,h2,a,h4⟩:=h.dn.hp.box (k:=(0,2)) (.inr (.inr rfl)) h.pb.2;rw[h.pb.1]at a;injection a with a;subst a;exact⟨h4,h1,h2⟩
theorem Qh{n p v kk:Nat}{y1 y2:UInt8}{W:List UInt8}{num:Nat->Nat}{P0:List Int}{c0:Nat->Int}(hd:0<d)(hn:1<=n/\n<=5)(hv:v<n)(hvi:∀k,i<k->k<n->num k≠v)(hvl:∀k,k<i->num k≠v)(hj:j<64)(hgr:0<=gr/\gr<=60)(hwv:SlR NoP kk .nil W wv)
  (h4:tat t 4=ZK q) (h11:tat t 11=ZK p) (h12:tat t 12=ZJ (v:Int)) (h15:tat t 15=ZJ (j:Int)) (hP:DQ r0 [u8v y1,u8v y2,wv] n q i p v j gr r5 num P0 c0 g V E D)
  (fin:∀t' g' V' E' D',(∀s,(s<153\/185<s)->tat t' s=tat t s)->DQ r0 [u8v y1,u8v y2,wv] n q i p v (j+1) gr r5 num P0 c0 g' V' E' D'->Q .norm t' [] g') :
  wp C0 d none Bs Q t [] g:=by
 have A:=hP.dn;obtain⟨kq,ha,hb⟩:=A.q (.inl rfl);obtain⟨kp,-,h9⟩:=hP.p;have kp:g.h.get p=Y6 3 [[u8v y1,u8v y2,wv]]:=kp;unfold Bs;have rns:=A.ns.rows;have S:=fR A.ns (by simp;omega);have u3:v<((List.range n).map (gJ D V)).length:=by simpa using hv
 have u4:=g9 (gJ D V) hv;have X:((List.range n).map (gJ D V))[v]?=some [ZJ (D.c v),V (v+1,0),V (v+1,1)]:=u4;have h3:=A.bn.rs v hv;have h8:=A.hp.nx;obtain⟨C,hC,h6⟩:∃C:Nat,D.c v=(C:Int)/\(C=2\/C=3):=by
  rcases hP.db.c v hv with h|h
  ·exact⟨2,h,.inl rfl⟩
  ·exact⟨3,h,.inr rfl⟩
 have h7:j*(C+1)<=64*4:=Nat.mul_le_mul (by omega) (by omega);have w1:IntKind.wrap .i64 ((C:Int)+1)=((C+1:Nat):Int):=by rw[ap (by omega) (by omega)];rfl
 have w2:IntKind.wrap .i64 ((j:Int)*((C+1:Nat):Int))=((j*(C+1):Nat):Int):=by rw[<-XX,ap (by omega) (by omega)]
 rw[hC]at X;simp only[sz,simprocAttr,sf,h4,h11,h12,h15,kq,kp,rns,u3,X,S,w1,w2,AQ];refine bi (Sq (C:=C) (F:=j*(C+1)) (gr:=gr) (l:=W) hd (by omega) (by omega) hgr hwv) ?_;rintro r ⟨l,⟨hl,M⟩,_,e1,hr⟩;injection e1 with e1;subst e1;have O:=hr.cell;simp only[sz,simprocAttr,sf,O.1,O.2];refine (A.hp.step (g':=_) ?_ ?_).app2 (k:=(v+1,1)) (.inl (LN.r hv)) h3.1 (new:=[[r]]) (by simp[sx,sy]) (by unfold aT;simp;rw[hP.mv];omega) λv1 g1 H n1 fb1 fo1 lg1 vc vt=>?_
 ·simp;omega
 ·intro i _ hi;simp[TA];omega
 simp only[sx,sy]at n1 fb1 fo1 lg1;have Z:¬LNX X2 n D (v+1,2+j):=by
  rintro (h|h)
  ·rcases h with h|⟨i',q',h,-,hq⟩
   ·simp at h
   ·rw[hP.db.o]at hq;simp only[Prod.mk.injEq]at h;omega
  ·rcases h with h|h<;>simp at h
 have H:=H.off (x:=r) Z;have K:ups (ups V (v+1,1) v1) (v+1,2+j) r (0,0)=V (0,0):=by rw[ac _ _ (by simp),ac _ _ (by simp)]
 have I:ups E (v+1,1) (.sl 1 ((List.range (D.m v)).map (Ih V v)++[[r]])) (0,0)=.sl 3 ((List.range n).map (gJ D V)):=by rw[ac _ _ (by simp)];exact A.bn.ns
 have rns1:ak g1.h 3 (V (0,0))=some ((List.range n).map (gJ D V)):=by rw[<-K];exact (H.own (k:=(0,0)) (.inl LN.z) I).rows
 simp only[sz,simprocAttr,sf,rns1,u3,S];refine (H.same (g':=_) ?_ ?_).putv (k:=(0,0)) (.inl LN.z) K (row':=[ZJ (C:Int),V (v+1,0),v1]) I u4 (by rw[vc];rfl) vt (by rw[vc,gJ,hC];rfl) λg2 hH2 n2 fb2 fo2=>?_
 ·simp
 ·simp;omega
 simp only[sy];refine⟨?_,?_⟩
 ·simp only[VJ,VN,VH,VE];refine aA (false::(Zm (Zl (Zl (Zl (true::(true::(Zn (true::[]))))))))) [(0,29),(1,29),(2,29),(3,29),(4,29),(5,29),(6,29),(7,29),(8,29),(0,30),(1,30),(2,30)] (by simp[All2,ah,ay]) (by decide) ?_;have L:∀i∈g1.lg,i≠q:=λi hi e=>by
   rcases lg1 i hi with h|h|h
   ·simp at h
   ·exact Ei A.hp (.inl (LN.r hv)) (.inr (.inl rfl)) (by simp) h (by rw[A.vb,e];rfl)
   ·omega
  obtain⟨id0,ep0,h5,U⟩:∃id ep,id<g.nx/\V (0,0)=.hsl id ep 0 ((List.range n).map (gJ D V)).length none:=by
   rcases A.ns with⟨h,e⟩|⟨id,ep,lo,-,h1,h2,-⟩
   ·have:=congrArg List.length e;simp at this;omega
   ·exact⟨id,ep,h1,h2⟩
  have J:∀i∈g1.lg,i≠id0:=λi hi e=>by
   rcases lg1 i hi with h|h|h
   ·simp at h
   ·exact Ei A.hp (.inl (LN.r hv)) (.inl LN.z) (by simp) h (by rw[U,e];rfl)
   ·omega
  rintro p N x y hx hy;simp only[VP,VG,Xh]at N;rcases N with rfl|rfl|rfl|rfl|rfl|rfl|rfl|rfl|rfl|rfl|rfl|rfl<;>(simp at hx hy;subst hx;subst hy;refine bI rfl rfl rfl rfl ?_ ?_ ?_<;>simp[ah,ay,aw,U,eJ]<;>first|omega|exact L|exact J|exact λi hi e=>L i hi e.symm|exact λi hi e=>J i hi e.symm)
 have Y:=hP.mv;refine fin _ _ (ups (ups V (v+1,1) v1) (v+1,2+j) r) _ { D with m:=ups D.m v (j+1),R:=ups D.R v (ups (D.R v) j l) } (λs hs=>?_) ⟨⟨(hH2.same (g':=_) (by simp) (by simp)).sub λk hk=>hk,⟨?_,λu hu=>?_,λu hu=>?_,λu r' hu b=>?_⟩,?_,?_,?_,?_⟩,⟨?_,?_⟩,⟨hP.db.c,hP.db.p,λu hu=>?_,hP.db.o,λk hk hkn=>?_⟩,ax _ _ _,hP.pv,hP.cv,?_⟩
 ·simp only[kP]
  repeat rw[Vz (by omega)]
 ·rw[ax,pj _ _ hv];congr 1;refine Bh ?_ λj hj hne=>by simp[gJ,ac,hne]
  show _=[ZJ (D.c v),ups (ups V (v+1,1) v1) (v+1,2+j) r (v+1,0),ups (ups V (v+1,1) v1) (v+1,2+j) r (v+1,1)];rw[hC,ac _ _ (by first| (simp;done)| (simp;omega)),ac _ _ (by first| (simp;done)| (simp;omega)),ac _ _ (by first| (simp;done)| (simp;omega)),ax]
 ·rw[ac _ _ (by simp),ac _ _ (by simp)];exact A.bn.ps u hu
 ·by_cases e:u=v
  ·subst e;rw[ac _ _ (by simp),ax];show En.sl 1 _=En.sl 1 ((List.range (ups D.m u (j+1) u)).map _)/\ups D.m u (j+1) u<=1000;rw[ax];refine⟨?_,by omega⟩;rw[Y,WC,WJ];congr 2
   ·exact WI λr' b=>by have:=VM.1 b;simp[Ih,ac,show ¬r'=j by omega,show ¬2+r'=1 by omega]
   ·simp[Ih,ax]
  ·rw[ac _ _ (by simp),ac _ _ (by simp[e])];show E (u+1,1)=En.sl 1 ((List.range (ups D.m v (j+1) u)).map _)/\ups D.m v (j+1) u<=1000;rw[ac _ _ e];have:=A.bn.rs u hu;refine⟨?_,this.2⟩;rw[this.1];congr 1;exact WI λr' _=>by simp[Ih,ac,e]
 ·by_cases e:u=v
  ·subst e;have b:r'<ups D.m u (j+1) u:=b;rw[ax]at b;show (ups D.R u (ups (D.R u) j l) u r').length<=1000/\((r'<D.o u/\_=En.sl 1 ((ups D.R u (ups (D.R u) j l) u r').map ci))\/SlR NoP 0 .nil (ups D.R u (ups (D.R u) j l) u r') _);rw[ax]
   by_cases e2:r'=j
   ·subst e2;rw[ax,ax];exact⟨by omega,.inr hr⟩
   ·rw[ac _ _ e2,ac _ _ (by first| (simp;done)| (simp;omega)),ac _ _ (by first| (simp;done)| (simp;omega)),ac _ _ (by simp[e2]),ac _ _ (by first| (simp;done)| (simp;omega))];exact A.bn.rr u r' hu (by omega)
  ·have b:r'<ups D.m v (j+1) u:=b;rw[ac _ _ e]at b;show (ups D.R v (ups (D.R v) j l) u r').length<=1000/\((r'<D.o u/\_=En.sl 1 ((ups D.R v (ups (D.R v) j l) u r').map ci))\/SlR NoP 0 .nil (ups D.R v (ups (D.R v) j l) u r') _);rw[ac _ _ e,ac _ _ (by first| (simp;done)| (simp;omega)),ac _ _ (by first| (simp;done)| (simp;omega)),ac _ _ (by simp[e]),ac _ _ (by simp[e])];exact A.bn.rr u r' hu b
 ·rw[ac _ _ (by simp),ac _ _ (by simp)];exact A.vb
 ·rw[ac _ _ (by simp),ac _ _ (by simp),ac _ _ (by simp),ac _ _ (by simp)];exact A.bx
 ·simp only[bumpG_h];rw[fb2 0 (by omega)];simp;rw[fb1 0 (by omega),Vz (by omega),A.h0]
 ·simp only[bumpG_h];rw[fb2 1 (by omega)];simp;rw[fb1 1 (by omega),Vz (by omega),A.h1]
 ·rw[ac _ _ (by simp),ac _ _ (by simp)];exact hP.pb.1
 ·rw[ac _ _ (by simp),ac _ _ (by simp)];exact hP.pb.2
 ·show ups D.m v (j+1) u<=64
  by_cases e:u=v
  ·rw[e,ax];omega
  ·rw[ac _ _ e];exact hP.db.m u hu
 ·show D.P (num k)=[]/\ups D.m v (j+1) (num k)=0;rw[ac _ _ (hvi k hk hkn)];exact hP.db.f k hk hkn
 ·have B:=hP.ok;refine⟨B.s,B.a,λk hk=>?_,λu r' hu b=>?_⟩
  ·show ((ups D.m v (j+1) (num k):Nat):Int)=_;rw[ac _ _ (hvl k hk)];exact B.w k hk
  ·show Pm gr (D.c u) (ups D.R v (ups (D.R v) j l) u r');have b:r'<ups D.m v (j+1) u:=b
   by_cases e:u=v
   ·rw[e,ax]at b ⊢
    by_cases e2:r'=j
    ·rw[e2,ax,hC];exact M
    ·rw[ac _ _ e2];exact B.r v r' hv (by omega)
   ·rw[ac _ _ e]at b ⊢;exact B.r u r' hu b
theorem JT{n v:Nat}(hv:v<n)(hp:∀y∈D.P v,0<=y/\y<n):S.TA (S.Tx ⟨gr,(List.range n).map D.node⟩) (D.P v)=(D.P v).map λy=>D.c y.toNat:=by
 unfold S.TA S.Tx;refine WI λy hy=>?_;have:=hp y hy;rw[List.map_map];have h:y.toNat<n:=by omega
 simp[h,ND.node]
theorem Bg{n v:Nat}(hv:v<n)(hc:∀u,u<n->D.c u=2\/D.c u=3)(hp:(D.P v).length<=3/\∀y∈D.P v,0<=y/\y<n):(∀c∈(D.P v).map λy=>D.c y.toNat,1<=c/\c<=4)/\1<=S.UE (D.P v) D.c/\S.UE (D.P v) D.c<=64:=by
 have h1:∀c∈(D.P v).map λy=>D.c y.toNat,1<=c/\c<=4:=λc h=>by obtain⟨y,k,rfl⟩:=Wk.1 h;have:=hp.2 y k;have:=hc y.toNat (by omega);omega
 have h2:=cj h1;have d:=jS (a:=((D.P v).map λy=>D.c y.toNat).length) (b:=3) (by simpa using hp.1);have h4:(4:Int) ^ 3=64:=by decide
 refine⟨h1,h2.1,?_⟩;unfold S.UE;omega
structure DRw (r0 prow:List AV) (n q i p v j:Nat) (gr:Int) (r5:AV) (num:Nat->Nat) (P0:List Int) (c0:Nat->Int) (t:T) (g:G):Prop where
 st:St t (LDB n q i p v r5)
 hd:∃V E D,DQ r0 prow n q i p v j gr r5 num P0 c0 g V E D
theorem Sa{n p v kk:Nat}{y1 y2:UInt8}{W:List UInt8}{num:Nat->Nat}{P0:List Int}{c0:Nat->Int}(hd:0<d)(hn:1<=n/\n<=5)(hv:v<n)(hvi:∀k,i<k->k<n->num k≠v)(hvl:∀k,k<i->num k≠v)(hgr:0<=gr/\gr<=60)(hwv:SlR NoP kk .nil W wv)
  (h0:DRw r0 [u8v y1,u8v y2,wv] n q i p v 0 gr r5 num P0 c0 t g) (h15:tat t 15=ZJ 0)
  (fin:∀(t:T) (g:G) (j:Nat),(j:Int)=S.UE P0 c0->DRw r0 [u8v y1,u8v y2,wv] n q i p v j gr r5 num P0 c0 t g->Q (.exit 8) t [] g):wpL (wp C0 d none fJ) Q t [] g:=by
 have U:1<=S.UE P0 c0/\S.UE P0 c0<=64:=by obtain⟨-,V,E,D,a⟩:=h0;have:=(Bg hv a.db.c (a.db.p v hv)).2;rw[a.pv,a.cv]at this;exact this
 obtain⟨M,u⟩:=Vy (show 0<=S.UE P0 c0 by omega);obtain⟨FR,o⟩:∃FR,FR=Bs:=⟨_,rfl⟩;simp only[fJ];rw[show (SC.feet [0,1,0,0,8,0,56,120,248,0,512,0,2048,0,14336,30720,63488,0,131072,0,0,1048576,0,7340032,15728640,32505856,66060288,133693440,268434944,536870400,1073741816,2147483647,4294967295,8589934591] [oF 153 1 4,oL 154 153,oM 155 12,oF 156 1 4,oL 157 156,oM 158 12,Ze 159 3 157 158,oF 160 2 159,oL 161 160,oF 162 0 4,oL 163 162,oF 164 1 4,oL 165 164,oM 166 12,Ze 167 3 165 166,oF 168 0 167,oL 169 168,oF 170 2 11,oL 171 170,oM 172 15,oF 173 1 4,oL 174 173,oM 175 12,Ze 176 3 174 175,oF 177 0 176,oL 178 177,oA 179 178,Y7 180 .mul 172 179,Zt 181 24 163 169 171 180,ZC 182 181,Zu 183 1 24 161 182,Ze 184 3 154 155,oF 185 2 184,Za 1 185 183])=FR from o.symm];refine aP M (by omega) (λj t df g=>df=[]/\DRw r0 [u8v y1,u8v y2,wv] n q i p v j gr r5 num P0 c0 t g) ⟨rfl,h0⟩ h15 (by decide) ?_ ?_ ?_ ?_
 ·rintro j t df g w s (rfl|rfl|rfl) ⟨a1,⟨b1,b2,b3,J,b5,b6,K,L,-⟩,c⟩<;>exact⟨a1,by simp[St,LDB,sx,b1,b2,b3,J,b5,b6,K,L],c⟩
 ·rintro j t df g N ⟨rfl,⟨h1,h2,C,h4,h5,l,e,b,-⟩,V,E,D,a⟩ h15;obtain⟨kq,O,R⟩:=a.dn.q (.inl rfl);have f:=a.dn.bn.nodes a.dn.hp (λk h=>.inl h) (by omega) (by omega);have z:Agg (⟨gr,(List.range n).map D.node⟩:Net) (λj=>2<=j) 0 g.h (.agg [ZJ gr,V (0,0)]):=⟨_,rfl,dI.2 ⟨_,rfl,f⟩⟩;have m:=a.db.p v hv;obtain⟨r,er,hr⟩:=ue (d:=d) (g:=g) (i:=v) (x:=D.node v) hd z (by simp;omega) (by simp[hv]) (by show (D.P v).length<_;omega) (λy hy=>by have:=m.2 y hy;simp;omega);have A:=JT (gr:=gr) hv m.2;have hb:=Bg hv a.db.c m;have B:=Bu (d:=d) (g:=g) hd (hr.sl g.h);have H:S.UG (S.TA (S.Tx ⟨gr,(List.range n).map D.node⟩) (D.node v).parents)=(M:Int):=by show S.UG (S.TA (S.Tx ⟨gr,(List.range n).map D.node⟩) (D.P v))=(M:Int);rw[A,yx hb.1 (by simp;omega),<-u,S.UE,<-a.pv,<-a.cv]
  rw[H]at B;simp only[sz,simprocAttr,h15,h4,kq,b,er,B];exact⟨by simp[St,LDB,sx,h1,h2,C,h4,h5,l,e,b],V,E,D,a⟩
 ·rintro j t df g N ⟨rfl,⟨h1,h2,C,h4,h5,l,e,b,-⟩,V,E,D,a⟩ h15;rw[o];refine Qh (n:=n) (q:=q) (i:=i) (p:=p) (v:=v) (j:=j) (r5:=r5) (num:=num) hd hn hv hvi hvl (by omega) hgr hwv h4 e b h15 a ?_;intro t' g' V' E' D' I F;have hs:∀s,s<153->tat t' s=tat t s:=λs h=>I s (.inl h);rw[Ek];exact⟨⟨rfl,by simp[St,LDB,hs,h1,h2,C,h4,h5,l,e,b],V',E',D',F⟩,by rw[hs 15 (by omega),h15]⟩
 ·rintro t df g ⟨rfl,h⟩;exact fin t g M u.symm h
structure DBl (D:ND) (n i:Nat) (num:Nat->Nat):Prop where
 c:∀u,u<n->D.c u=2\/D.c u=3
 p:∀u,u<n->(D.P u).length<=3/\∀y∈D.P u,0<=y/\y<n
 m:∀u,u<n->D.m u<=64
 o:∀u,D.o u=0
 f:∀k,i<=k->k<n->D.P (num k)=[]/\D.m (num k)=0
structure DL (r0:List AV) (n q:Nat) (gr:Int) (r5:AV) (num:Nat->Nat) (i:Nat) (t:T) (g:G):Prop where
 st:St t (LDA n q r5)
 hd:∃V E D,DN X1 r0 n q 1000 gr V E D g/\DBl D n i num/\DOk gr D n i num
theorem P7{n:Nat}:∀k,LNX X1 n D k->LNX X2 n D k:=λk h=>by
 rcases h with h|h
 ·exact .inl h
 ·exact .inr (.inl h)
theorem Qe{n kk:Nat}{x:uQ}{a b:AV}{num:Nat->Nat}(hd:0<d)(hgr:0<=gr/\gr<=60)(hn:1<=n/\n<=5)(ha:SlR NoP kk .nil x.2.1 a)(h5:IT 0 pl r5)(hN:Num n pl num)
  (h0:DL [u8v x.1,a,b] n q gr r5 num 0 t g) (h10:tat t 10=ZJ 0)
  (fin:∀t g,DL [u8v x.1,a,b] n q gr r5 num n t g->Q (.exit 2) t [] g):wpL (wp C0 d none eV) Q t [] g:=by
 obtain⟨pr,r1,r2,r3,r4⟩:=ha.all;have r1:∀h',ak h' 3 a=some pr:=r1;have la:=ha.len;have he:=ha.1;have hc:∀h,ak h 1 r5=some (pl.map ci):=λh=>(h5.sl h).ints;simp only[eV,jr];refine aP n (by omega) (λj t df g=>df=[]/\DL [u8v x.1,a,b] n q gr r5 num j t g) ⟨rfl,h0⟩ h10 (by decide) ?_ ?_ ?_ ?_
 ·rintro j t df g v s (rfl|rfl|rfl) ⟨a1,⟨b1,b2,b3,b4,b5,-⟩,c3⟩<;>exact⟨a1,by simp[St,LDA,sx,b1,b2,b3,b4,b5],c3⟩
 ·rintro j t df g J ⟨rfl,⟨h1,h2,B,h4,h5,-⟩,C⟩ h10;simp only[sz,simprocAttr,h10,B];exact⟨by simp[St,LDA,sx,h1,h2,B,h4,h5],C⟩
 ·rintro j t df g J ⟨rfl,⟨h1,h2,B,h4,l,-⟩,V,E,D,C,hb,h6⟩ h10;obtain⟨p,hp⟩:∃p,p=g.nx:=⟨_,rfl⟩;have hf:=C.hp.nx;refine bB (P:=λt' df g'=>df=[]/\g'=g.new (Y6 3 [[.int .u8 0,.int .u8 0,.nils]])/\St t' ((10,ZJ (j:Int))::(11,ZK p)::LDA n q r5)) ?_ ?_
  ·simp only[sz,simprocAttr];simp[St,LDA,sx,h1,h2,B,h4,l,h10,hp]
  clear h1 h2 B h4 l h10;rintro t df g1 ⟨rfl,I,⟨h10,A,h1,h2,B,h4,l,-⟩⟩;have f1:Fr g g1:=by rw[I];exact Fr.new _ _
  have S:g1.h.get p=Y6 3 [[.int .u8 0,.int .u8 0,.nils]]:=by rw[I,hp];simp[TA]
  have n1:p<g1.nx:=by rw[I,hp];simp
  clear I;have N:=C.same f1;have e0:=N.h0;refine bB (P:=λt' df g'=>df=[]/\Fr g g'/\St t' ((10,ZJ (j:Int))::(11,ZK p)::LDA n q r5)/\p<g'.nx/\∃(U X:UInt8) (W:List UInt8) (wv:AV),SlR NoP kk .nil W wv/\g'.h.get p=Y6 3 [[u8v U,u8v X,wv]]) ?_ ?_
  ·simp only[sz,simprocAttr,h10,h1,e0,la];refine aX (λhb=>?_) (λhb=>?_)
   ·have hb:j<x.2.1.length:=by simpa using hb
    obtain⟨y,Y,-,-⟩:=ae hb;obtain⟨row,q1,q2⟩:=r3 j y Y;obtain⟨wv,rfl,L⟩:=Dl.1 q2;have hlt:j<pr.length:=by omega
    have hg:=r4 (by omega);simp only[sz,simprocAttr,h10,h1,e0,r1,hlt,q1,A,S];refine⟨?_,by simp[St,LDA,sx,h1,h2,B,h4,l,h10,A],by simpa using n1,y.1,y.2.1,y.2.2,wv,L,by simp[TA]⟩;exact⟨VR f1.1 (by simp),λi hi=>by simp[TA,show ¬i=p by omega];exact f1.2 i hi⟩
   ·simp only[sx,sy];exact⟨f1,by simp[St,LDA,sx,h1,h2,B,h4,l,h10,A],n1,0,0,[],.nils,⟨by show 0<9223372036854775808;decide,rfl⟩,S⟩
  clear h1 h2 B h4 l h10 A e0 N S n1 f1;rintro t df g2 ⟨rfl,f2,⟨h10,A,h1,h2,B,h4,l,-⟩,n2,U,X,W,wv,L,S⟩;have hH:=C.hp.add (g':=g2) (k:=(0,2)) (L':=LNX X2 n D) (v':=ZK p) (e':=.bx [u8v U,u8v X,wv]) (by
   rintro (h|h)
   ·rcases h with h|⟨i',q',h,-,-⟩<;>simp at h
   ·simp[X1]at h) ⟨p,by omega,n2,rfl,S⟩ f2.1 (λi _ hi=>f2.2 i hi) (λi hi=>by injection hi with hi;omega) (λk hk=>by
   rcases hk with h|h|h
   ·exact .inl (.inl h)
   ·exact .inl (.inr h)
   ·exact .inr h)
  have R:=hb.f j (Vu _) J;have h9:=hN.lt j J;have h7:∀k,j<k->k<n->num k≠num j:=λk h1 h2 e=>by have:=hN.inj k j h2 J e;omega
  have h8:∀k,k<j->num k≠num j:=λk h1 e=>by have:=hN.inj k j (by omega) J e;omega
  have O:DP [u8v x.1,a,b] [u8v U,u8v X,wv] n q j p (num j) gr r5 num g2 (ups V (0,2) (ZK p)) (ups E (0,2) (.bx [u8v U,u8v X,wv])) D:=by
   refine⟨⟨hH,⟨?_,λu hu=>?_,λu hu=>?_,λu r hu hr=>?_⟩,?_,?_,by rw[f2.2 0 (by omega),C.h0],by rw[f2.2 1 (by omega),C.h1]⟩,⟨ax _ _ _,ax _ _ _⟩,⟨hb.c,hb.p,hb.m,hb.o,λk h1 h2=>hb.f k (by omega) h2⟩,R.2,h6⟩
   ·rw[ac _ _ (by simp),C.bn.ns];exact congrArg (En.sl 3) (WI λu _=>by simp[gJ,ac])
   ·rw[ac _ _ (by simp)];exact C.bn.ps u hu
   ·rw[ac _ _ (by simp)];have:=C.bn.rs u hu;refine⟨?_,this.2⟩;rw[this.1];exact congrArg (En.sl 1) (WI λr _=>by simp[Ih,ac])
   ·rw[ac _ _ (by simp),ac _ _ (by simp)];exact C.bn.rr u r hu hr
   ·rw[ac _ _ (by simp)];exact C.vb
   ·rw[ac _ _ (by simp),ac _ _ (by simp)];exact C.bx
  have u1:j<(pl.map ci).length:=by rw[VF,hN.len];exact J
  have u2:(pl.map ci)[j]?=some (ci (num j:Int)):=by rw[Vw,hN.at_ j J];rfl
  simp only[sz,simprocAttr,jq,l,h10,hc,u1,u2,ci];refine R_ (n:=n) (q:=q) (i:=j) (p:=p) (v:=num j) (r5:=r5) (num:=num) hn h5 hN J rfl ⟨by simp[St,LDB,sx,h1,h2,B,h4,l,h10,A],_,_,_,O,λy Y=>by rw[R.1]at Y;simp at Y⟩ (by simp[sx]) ?_;clear h1 h2 B h4 l h10 A O hH;rintro t g3 ⟨⟨h1,h2,B,h4,l,h10,A,K,-⟩,V3,E3,D3,F,-⟩;simp only[sz,simprocAttr,kh];refine Sa (n:=n) (q:=q) (i:=j) (p:=p) (v:=num j) (r5:=r5) (num:=num) (P0:=D3.P (num j)) (c0:=D3.c) hd hn h9 h7 h8 hgr L ⟨by simp[St,LDB,sx,h1,h2,B,h4,l,h10,A,K],V3,E3,D3,F.dn,F.pb,F.db,F.mv,rfl,rfl,F.ok⟩ (by simp[sx]) ?_;clear h1 h2 B h4 l h10 A K F;rintro t g4 M Z ⟨⟨h1,h2,B,h4,l,h10,A,K,-⟩,V4,E4,D4,z⟩;simp only[sx,sy,↓reduceIte];have H:=z.dn;refine⟨⟨by simp[St,LDA,h1,h2,B,h4,l],V4,E4,D4,⟨H.hp.sub P7,H.bn,H.vb,H.bx,H.h0,H.h1⟩,⟨z.db.c,z.db.p,z.db.m,z.db.o,λk hk hkn=>z.db.f k hk hkn⟩,⟨z.ok.s,z.ok.a,λk hk=>?_,z.ok.r⟩⟩,h10⟩
  by_cases e:k=j
  ·rw[e,z.mv,z.pv,z.cv,Z]
  ·exact z.ok.w k (by omega)
 ·rintro t df g ⟨rfl,h⟩;exact fin t g h
structure Drafted (m:Net):Prop where
 l:1<=m.nodes.length/\m.nodes.length<=5
 c:∀x∈m.nodes,x.card=2\/x.card=3
 b:∀x∈m.nodes,x.parents.length<=1000/\x.rows.length<=1000/\∀r∈x.rows,r.length<=1000
 nr:NR m
theorem Lm{l:List Int}{n:Int}(hs:l.Pairwise (·<·))(hb:∀y∈l,0<=y/\y<n):S.Uv l n=true:=by
 simp only[S.Uv,S.UC,VQ,VM,Vx,Wh,VK,beq_iff_eq];intro i hi;obtain⟨x,hx⟩:∃x,l[i]?=some x:=⟨_,Vt hi⟩;have:=hb x (VA hx);rw[hx,VB];refine⟨this,?_⟩
 by_cases e:i=0
 ·exact .inl e
 ·right;obtain⟨y,h⟩:∃y,l[i - 1]?=some y:=⟨_,Vt (by omega)⟩;rw[h,VB];have h1:=(Vv.1 hx).2;have h2:=(Vv.1 h).2;rw[<-h1,<-h2];exact List.pairwise_iff_getElem.1 hs (i - 1) i (by omega) hi (by omega)
def NY(num:Nat->Nat):Nat->Nat
 |0=>0
 |k+1=>NY num k ||| S.TT (num k)
theorem EB{n:Nat}{pl:List Int}{num:Nat->Nat}(hN:Num n pl num)(hn:n<=64)(v:Nat):∀k,k<=n->((NY num k).testBit v=true↔∃k',k'<k/\num k'=v)
 |0,_=>by simp[NY]
 | k+1,hk=>by
  have hlt:=hN.lt k (by omega);rw[NY,dJ,sO (by omega),Wh,VK,EB hN hn v k (by omega)];constructor
  ·rintro (⟨k',h1,h2⟩|h)
   ·exact⟨k',by omega,h2⟩
   ·exact⟨k,by omega,h⟩
  ·rintro⟨k',h1,h2⟩
   by_cases e:k'=k
   ·subst e;exact .inr h2
   ·exact .inl ⟨k',by omega,h2⟩
theorem S1{n:Nat}{num:Nat->Nat}(hN:Num n pl num)(hn:1<=n/\n<=5)(hgr:1<=gr/\gr<=60)(hb:DBl D n n num)(hok:DOk gr D n n num):NR ⟨gr,(List.range n).map D.node⟩:=by
 have hcl:(S.Tx ⟨gr,(List.range n).map D.node⟩)=(List.range n).map D.c:=by unfold S.Tx;rw[List.map_map];rfl
 refine⟨hgr.1,hgr.2,by simpa using hn.1,by simp;omega,λx hx=>?_,λx hx=>?_,?_,?_,λx hx=>?_,λx hx r hr=>?_⟩
 ·obtain⟨u,hu,rfl⟩:=Wk.1 hx;have:=hb.c u (VM.1 hu);show 1<=D.c u/\D.c u<=4;omega
 ·obtain⟨u,hu,rfl⟩:=Wk.1 hx;have hu:=VM.1 hu;refine Lm (hok.s u hu) λy hy=>?_;have:=(hb.p u hu).2 y hy;simpa using this
 ·rw[hcl];have h1:∀c∈(List.range n).map D.c,1<=c/\c<=4:=λc hc=>by obtain⟨u,hu,rfl⟩:=Wk.1 hc;have:=hb.c u (VM.1 hu);omega
  have h2:=cj h1;have i:=jS (a:=((List.range n).map D.c).length) (b:=5) (by simpa using hn.2);have h4:(4:Int) ^ 5=1024:=by decide
  omega
 ·have e:(S.TJ ⟨gr,(List.range n).map D.node⟩).length=n:=by simp[S.TJ]
  have d:∀v,v<n->Par (S.TJ ⟨gr,(List.range n).map D.node⟩) v=S.TP (D.P v):=λv hv=>by simp[Par,S.TJ,hv,ND.node]
  have h:∀k,k<=n->Kx (S.TJ ⟨gr,(List.range n).map D.node⟩) (NY num k):=λk=>by
   induction k with
   |zero=>exact λ_=>C3
   | succ k ih =>
    intro hk;have hlt:=hN.lt k (by omega);refine FZ (ih (by omega)) (by omega) λu hu=>?_;rw[d _ hlt]at hu;have hu:=(zM λx hx=>by have:=(hb.p _ hlt).2 x hx;omega).1 hu;obtain⟨k',h1,h2⟩:=hok.a k (by omega) _ hu;exact (EB hN (by omega) u k (by omega)).2 ⟨k',h1,by omega⟩
  refine vY (h n (Vu _)) λv hv=>?_;rw[e]at hv;exact (EB hN (by omega) v n (Vu _)).2 (hN.sur v hv)
 ·obtain⟨u,hu,rfl⟩:=Wk.1 hx;have hu:=VM.1 hu;obtain⟨k,hk,rfl⟩:=hN.sur u hu;show (((List.range (D.m (num k))).map (D.R (num k))).length:Int)=S.Ty (S.TA _ (D.P (num k)));rw[JT hu (hb.p _ hu).2];have:=hok.w k hk;unfold S.UE at this;rw[<-this];simp
 ·obtain⟨u,hu,rfl⟩:=Wk.1 hx;have hu:=VM.1 hu;obtain⟨r',f,rfl⟩:=Wk.1 hr;exact hok.r u r' hu (VM.1 f)
def LU:VS:=λP k h v=>∃m:Net,Drafted m/\Agg m P k h v
def V0(W:AV)(q:Nat):Ky->AV:=λk=>match k with
 | (0,0)=>W
 | (0,1)=>ZK q
 |_=>.nils
def E0(W:AV)(n:Nat)(gr:Int):Ky->En:=λk=>match k with
 | (0,0)=>.sl 3 (List.replicate n [ZJ 0,.nils,.nils])
 | (0,1)=>.bx [ZJ gr,W]
 |_=>.sl 1 []
def D0:ND:=⟨λ_=>0,λ_=>[],λ_=>0,λ_ _=>[],λ_=>0⟩
theorem hp0{n:Nat}(hW:Own g 2 W 3 (List.replicate n [ZJ 0,.nils,.nils]))(hq:g.h.get q=Y6 2 [[ZJ gr,W]])(h2:2<=q/\q<g.nx)(hne:vid W≠some q):Hp g 2 (LNX X1 n D0) (V0 W q) (E0 W n gr):=by
 have hk:∀k,LNX X1 n D0 k->k=(0,0)\/k=(0,1)\/∃i s,k=(i+1,s):=λk h=>by
  rcases h with h|h
  ·rcases h with h|⟨i,s,h,-⟩
   ·exact .inl h
   ·exact .inr (.inr ⟨i,s,h⟩)
  ·exact .inr (.inl h)
 refine⟨λk h=>?_,λk l h h' hkl id h1 a=>?_,by omega⟩
 ·rcases hk k h with rfl|rfl|⟨i,s,rfl⟩
  ·exact hW
  ·exact⟨q,h2.1,h2.2,rfl,hq⟩
  ·exact .inl ⟨rfl,rfl⟩
 ·rcases hk k h with rfl|rfl|⟨i,s,rfl⟩<;>rcases hk l h' with rfl|rfl|⟨i',s',rfl⟩
  ·exact hkl rfl
  ·have h1:eid W=some id:=h1;have a:some q=some id:=a;rw[cp hW]at h1;injection a with a;subst a;exact hne h1
  ·cases a
  ·have a:eid W=some id:=a;have h1:some q=some id:=h1;rw[cp hW]at a;injection h1 with h1;subst h1;exact hne a
  ·exact hkl rfl
  ·cases a
  ·cases h1
  ·cases h1
  ·cases h1
theorem PN{x:Int}{w:AV}(h:w.cells=[w])(h2:w.isTup=false):c8 [ZJ 0,.nils] [((0,1),ZJ x),((1,1),w)]=some [ZJ x,w]:=by
 have k:(ZJ x).cells=[ZJ x]:=rfl;have k2:(ZJ x).isTup=false:=rfl;simp[c8,h,h2,iI,k,k2]
 rfl
theorem PM{a b:AV}(ha:a.cells=[a]/\a.isTup=false)(hb:b.cells=[b]/\b.isTup=false):c8 [.nils,.int .u16 0,.nils] [((0,1),a),((2,1),b)]=some [a,.int .u16 0,b]:=by
 simp[c8,ha,hb,iI]
 rfl
theorem Ji{v:AV}{x:uQ}(hd:0<d)(hm:Agg x P k g.h v):∃r,am C0 d 6 [v] g=.val r/\LU NoP 0 .nil r:=by
 obtain⟨v',e,cs,rfl,hc⟩:=jC (bW x) (by decide) d hm;obtain⟨a,b,rfl,ha,hb⟩:=yq.1 hc;have ha:=ha.tree (h':=.nil) (Vu _);have hb:=hb.tree (h':=.nil) (Vu _);rw[sR];refine a_ vg (xs:=[.agg [u8v x.1,a,b]]) (by simp only[aG,e]) (by simp[i_]) (rH λm=>bW _) (by decide) hd ?_;simp only[sz,simprocAttr,i_];obtain⟨g0,hg0⟩:∃g0,g0=(G.empty.new (Y6 3 [[u8v x.1,a,b]])).new (Y6 2 [[ZJ 0,.nils]]):=⟨_,rfl⟩;rw[<-hg0];have f0:g0.h.get 0=Y6 3 [[u8v x.1,a,b]]:=by rw[hg0];simp[sx,TA]
 have f1:g0.h.get 1=Y6 2 [[ZJ 0,.nils]]:=by rw[hg0];simp[sx]
 have f2:g0.nx=2:=by rw[hg0];simp[sx]
 clear hg0;have la:=ha.len;have Y:=ha.1;unfold lL;obtain⟨n,hn,z⟩:∃n:Nat,n=min (max x.2.1.length 1) 5/\1<=n/\n<=5:=⟨_,rfl,by omega⟩;refine bB (P:=λt' df g'=>df=[]/\g'=g0/\St t' [(1,ZK 0),(2,ZK 1),(3,ZJ (n:Int))]) ?_ ?_
 ·simp only[sz,simprocAttr,f0,la];simp[St,sx];omega
 rintro t df g1 ⟨rfl,rfl,h1,h2,l,-⟩;obtain⟨gr,O,N⟩:∃gr:Int,gr=1+(x.1.toNat:Int) % 60/\0<=gr/\gr<=60:=⟨_,rfl,by omega,by omega⟩;have q1:=cX .u8 (a:=(x.1.toNat:Int)) (b:=60) (by omega) (by omega);have w1:IntKind.wrap .i64 ((x.1.toNat:Int) % 60)=(x.1.toNat:Int) % 60:=ap (by omega) (by omega);have w2:IntKind.wrap .i64 (1+(x.1.toNat:Int) % 60)=gr:=by rw[O,ap (by omega) (by omega)]
 refine bB (P:=λt' df g'=>df=[]/\∃q V E D,St t' [(1,ZK 0),(2,ZK 1),(3,ZJ (n:Int)),(4,ZK q)]/\DN X1 [u8v x.1,a,b] n q 1000 gr V E D g'/\(∀u,D.P u=[]/\D.m u=0/\D.o u=0)) ?_ ?_
 ·simp only[sz,simprocAttr,sf,h1,l,f0,u8v,q1,w1,w2];refine kK (b:=2) (n:=n) (by unfold aT;omega) (by unfold aT;omega) (by first| (simp;done)| (simp;omega)) λW g2 hW n2 f2' vW lg2=>?_;simp only[sy]at n2 f2' vW lg2;simp only[sz,simprocAttr,sf,PN hW.cell.1 hW.cell.2,lg2];have h6:g1.nx+7=g2.nx:=by omega
  have Z:g2.h.get 0=Y6 3 [[u8v x.1,a,b]]:=by rw[f2' 0 (by omega),f0]
  have k1:g2.h.get 1=Y6 2 [[ZJ 0,.nils]]:=by rw[f2' 1 (by omega),f1]
  refine⟨?_,g2.nx+1+1,V0 W (g2.nx+1+1),E0 W n gr,D0,by simp[St,sx,h1,h2,l],⟨hp0 ?_ ?_ ⟨by omega,by simp⟩ ?_,⟨?_,λu _=>⟨rfl,by show 0<=1000;omega⟩,λu _=>⟨rfl,by show 0<=1000;omega⟩,λu r _ hr=>by cases hr⟩,rfl,rfl,?_,?_⟩,λu=>⟨rfl,rfl,rfl⟩⟩
  ·simp only[VJ,VN,VH,VE,G.new_lg,G.put_lg,setLog_lg];refine aA (Zn (Zm (true::(false::(true::(true::[])))))) [(0,6),(1,6),(2,6),(3,6),(4,6),(0,8),(1,8),(2,8),(3,8),(4,8),(5,8),(6,8),(7,8)] (by simp[All2,ah,ay]) (by decide) ?_;rintro p w x y hx s;simp only[VP,VG,Xh]at w;rcases w with rfl|rfl|rfl|rfl|rfl|rfl|rfl|rfl|rfl|rfl|rfl|rfl|rfl<;>(simp at hx s;subst hx;subst s;refine bI rfl rfl rfl rfl ?_ ?_ ?_<;>simp[ah,ay,aw]<;>omega)
  ·refine hW.fr (by simp;omega) λi hi=>?_;have:=gg vW hi;simp[TA,show ¬i=g2.nx+1+1 by omega]
  ·simp[TA]
  ·intro e;have:=gg vW e;omega
  ·show En.sl 3 (List.replicate n [ZJ 0,.nils,.nils])=En.sl 3 ((List.range n).map λ_=>[ZJ 0,.nils,.nils]);congr 1;rw[List.map_const',YC]
  ·simp[TA,Z];rfl
  ·simp[TA,k1]
 clear h1 h2 l;rintro t df g2 ⟨rfl,q,V,E,D,⟨h1,h2,l,h4,-⟩,K,B⟩;obtain⟨num,hN⟩:=Se x.2.2 n;refine bB (P:=λt' df g'=>df=[]/\Fr g2 g'/\∃r5,IT 0 (S.T7 x.2.2 n) r5/\St t' (LDA n q r5)) ?_ ?_
 ·simp only[sz,simprocAttr,sf,l];refine kK (b:=2) (n:=n) (by unfold aT;omega) (by unfold aT;omega) (by have:=K.hp.nx;first| (simp;done)| (simp;omega)) λU g3 hU n3 F vU lg3=>?_;simp only[sy]at n3 F vU lg3;have e0:g3.h.get 0=Y6 3 [[u8v x.1,a,b]]:=by rw[F 0 (by have:=K.hp.nx;omega),K.h0]
  simp only[sz,simprocAttr,sf,h1,e0,PM hU.cell hb.cell];have M:Own g3 2 U 1 ((List.replicate n (0:UInt8)).map λy=>[u8v y]):=by simpa [u8v] using hU
  have T:∀C:G,C.h=g3.h->∃r,am C0 (d+1) 21 [.agg [U,.int .u16 0,b]] C=.val r/\IT 0 (S.T7 x.2.2 n) r:=λC h=>by
   have:=Bn (d:=d+1) (g:=C) (k:=max k d) (P:=λ_=>True) (x:=(List.replicate n (0:UInt8),(0:UInt16),x.2.2)) (v:=.agg [U,.int .u16 0,b]) (VI d) ⟨_,rfl,uh.2 ⟨U,b,rfl,?_,?_⟩⟩
   ·have e:min (List.replicate n (0:UInt8)).length 5=n:=by simp;omega
    rw[e]at this;exact this
   ·rw[h];exact Own.sl (α:=UInt8) M (by simp;omega) (Tx (λy=>co.2 rfl) _) λ_ _=>trivial
   ·exact (hb.tree (h':=C.h) (Vu _)).wd λ_ h=>h.elim
  refine bi (T _ (by simp)) λr hr=>?_;simp only[sz,simprocAttr,sf,lE];refine⟨?_,⟨?_,λi hi=>?_⟩,r,hr,?_⟩
  ·simp only[VJ,VN,VH,VE];refine aA (false::(true::(false::(Zm [])))) [(1,2),(1,3)] (by simp[All2,ah,ay]) (by decide) ?_;rintro p w x y hx s;simp only[VP,VG,Xh]at w;rcases w with rfl|rfl<;>(simp at hx s;subst hx;subst s;refine bI rfl rfl rfl rfl ?_ ?_ ?_<;>simp[ah,ay,aw,lg3])
  ·simp;omega
  ·simp;exact F i (by omega)
  ·simp[St,LDA,sx,h1,h2,l,h4]
 clear h1 h2 l h4;rintro t df g3 ⟨rfl,F,r5,J,⟨h1,h2,l,h4,h5,-⟩⟩;have H:=K.same F;simp only[sz,simprocAttr];refine R8 (n:=n) (q:=q) (x:=x) (gr:=gr) (r5:=r5) (num:=num) z ha J hN ⟨by simp[St,LDA,sx,h1,h2,l,h4,h5],⟨1,by simp[sx],by decide⟩,V,E,D,H,λv _=>⟨(B v).1,(B v).2.1⟩,λk hk=>by omega,λu=>(B u).2.2⟩ (by simp[sx]) ?_;clear h1 h2 l h4 h5 H;rintro t C ⟨⟨h1,h2,l,h4,h5,-⟩,-,V4,E4,D4,L,f⟩;simp only[sz,simprocAttr,jt];refine Qe (n:=n) (q:=q) (x:=x) (gr:=gr) (r5:=r5) (num:=num) (VI d) N z ha J hN ⟨by simp[St,LDA,sx,h1,h2,l,h4,h5],V4,E4,D4,L,⟨λu hu=>?_,λu hu=>?_,λu hu=>?_,?_,λk _ hk=>f.e _ (hN.lt k hk)⟩,⟨λu hu=>by rw[(f.e u hu).1];exact .nil,λk hk y s=>by rw[(f.e _ (hN.lt k hk)).1]at s;simp at s,λk hk=>by omega,λu r hu hr=>by rw[(f.e u hu).2]at hr;omega⟩⟩ (by simp[sx]) ?_
 ·obtain⟨k,hk,rfl⟩:=hN.sur u hu;exact f.c k hk
 ·rw[(f.e u hu).1];simp
 ·rw[(f.e u hu).2];omega
 ·exact f.o
 clear h1 h2 l h4 h5;rintro t g5 ⟨⟨h1,h2,l,h4,h5,-⟩,V5,E5,D5,j,I,Q⟩;obtain⟨kq,h7,h8⟩:=j.q rfl;simp only[sz,simprocAttr,js,h4,kq,h2,j.h1];have A:=j.bn.nodes j.hp (λk h=>.inl h) (by omega) (by omega);refine⟨λ_=>True,⟨gr,(List.range n).map D5.node⟩,⟨by simpa using z,λy s=>?_,λy s=>?_,S1 hN z (by omega) I Q⟩,⟨_,rfl,dI.2 ⟨_,rfl,A.wd λi hi=>⟨trivial,by simp[TA,show ¬i=1 by omega]⟩⟩⟩⟩
 ·obtain⟨u,hu,rfl⟩:=Wk.1 s;exact I.c u (VM.1 hu)
 ·obtain⟨u,hu,rfl⟩:=Wk.1 s;have hu:=VM.1 hu;refine⟨(j.bn.ps u hu).2,?_,λr hr=>?_⟩
  ·show ((List.range (D5.m u)).map (D5.R u)).length<=1000;simpa using (j.bn.rs u hu).2
  ·obtain⟨r',X,rfl⟩:=Wk.1 hr;exact (j.bn.rr u r' hu (VM.1 X)).1
def EvV(n:Net):VS:=λP k h v=>∃l:List Int,S.TY n l=true/\One l P k h v
theorem Su(n:Net):Snb (EvV n) 0:=by
 refine⟨λ{P k h v n} d r hn=>?_,λ{k h v n} r hn=>?_⟩
 ·obtain⟨m,hm,r⟩:=r;obtain⟨v',e,r'⟩:=(aY m).snap d r hn;exact⟨v',e,m,hm,r'⟩
 ·obtain⟨m,hm,r⟩:=r;exact (aY m).tag r hn
def evP(n:Net)(l:List Int):Prop:=∀(i:Nat) (x:Int) (c:Node),l[i]?=some x->n.nodes[i]?=some c->-1<=x/\x<c.card
theorem PJ{n:Net}{l:List Int}(hl:l.length=n.nodes.length)(h:evP n l):S.TY n l=true:=by simp only[S.TY,Vx,VK,VQ,VM];refine⟨hl,λi hi=>?_⟩;obtain⟨x,hx⟩:∃x,l[i]?=some x:=⟨_,Vt hi⟩;obtain⟨c,hc⟩:∃c,n.nodes[i]?=some c:=⟨_,Vt (by omega)⟩;have:=h i x c hx hc;simpa [S.Tx,hx,hc] using this
theorem Ny{w:AV}{m:Net}{vs:List UInt8}(hd:0<d)(hv:vs.length=9)(hm:Agg m P k g.h w)(hn:m.nodes.length<=8)(hc:∀x∈m.nodes,0<x.card) :
  ∃r,am C0 d 9 [.agg (vs.map u8v),w] g=.val r/\EvV m NoP 0 .nil r:=by
 obtain⟨v',e,cs,rfl,F⟩:=jC (bW m) (by decide) d hm;obtain⟨b,rfl,hN⟩:=dI.1 F;obtain⟨rows,Q,r2,Z,r4⟩:=hN.all;have Q:∀h',ak h' 3 b=some rows:=Q;rw[ux];refine a_ wK (xs:=[.agg (vs.map u8v),.agg [ZJ m.grain,b]]) (by simp only[aG,e,G8]) (by simp[jJ]) (Su m) (by decide) hd ?_;obtain⟨cu8,n⟩:∃c,c=vs.map u8v:=⟨_,rfl⟩;have hcl:cu8.length=9:=by rw[n,VF,hv]
 simp only[sz,simprocAttr,jJ,<-n];generalize hg0:((G.empty.new (Y6 cu8.length [cu8])).new (Y6 2 [[AV.int IntKind.i64 m.grain,b]]))=g0;have f0:g0.h.get 0=Y6 9 [cu8]:=by rw[<-hg0,hcl];simp[sx,TA]
 have f1:g0.h.get 1=Y6 2 [[ZJ m.grain,b]]:=by rw[<-hg0];simp[sx]
 have f2:2<=g0.nx:=by rw[<-hg0];simp[sx]
 clear hg0;simp only[sz,simprocAttr,mP];refine aP m.nodes.length (by omega) (λj t df g=>df=[]/\St t [(2,ZK 0),(3,ZK 1)]/\g.h.get 0=Y6 9 [cu8]/\g.h.get 1=Y6 2 [[ZJ m.grain,b]]/\2<=g.nx/\∃u L,tat t 5=u/\L.length=j/\evP m L/\Own g 2 u 1 (L.map ci))
  ⟨rfl,by simp[sx,St],f0,f1,f2,_,[],rfl,rfl,λi x c hx=>by simp at hx,.inl ⟨by simp[sx],rfl⟩⟩ (by simp[sx]) (by decide) (by rintro j t df g v s (rfl|rfl|rfl)<;>simp[sx,St]) ?_ ?_ ?_
 ·rintro j t df g R ⟨rfl,⟨h2,o,-⟩,e0,e1,A,u,L,h5,hu⟩ p;simp only[sz,simprocAttr,h2,o,p,e0,e1,hN.len,St];exact⟨A,u,L,h5,hu⟩
 ·rintro j t df g R ⟨rfl,⟨h2,o,-⟩,e0,e1,A,u,L,h5,f,q,hu⟩ p;obtain⟨x,hx,V,hm⟩:=ae R;obtain⟨row,z1,z2⟩:=Z j x hx;obtain⟨fa,fb,rfl,-⟩:=bM.1 z2;have hlt:j<rows.length:=by omega
  have N:=r4 (by omega);have K:j<8:=by omega
  obtain⟨S,O⟩:∃y,vs[0]?=some y:=⟨_,Vt (by omega)⟩;have E:cu8[0]?=some (.int .u8 (S.toNat:Int)):=by rw[n,Vw,O];rfl
  obtain⟨y,W⟩:∃y,vs[1+j]?=some y:=⟨_,Vt (by omega)⟩;have I:cu8[1+j]?=some (.int .u8 (y.toNat:Int)):=by rw[n,Vw,W];rfl
  have Y:y.toNat<256:=y.toNat_lt;have H:=hc x hm;obtain⟨z,hz⟩:=CF S.toNat j;obtain⟨z',B⟩:=CE z 1;have B:bQ .and (.int .u8 (z:Int)) (.int .u8 1)=.val (.int .u8 z'):=B;have w8:IntKind.wrap .i64 (y.toNat:Int)=(y.toNat:Int):=ap (by omega) (by omega);have w9:IntKind.wrap .u64 (j:Int)=(j:Int):=rN (by omega) (by omega);have key:∀(t:T) (X:Int),-1<=X->X<x.card->St t [(2,ZK 0),(3,ZK 1),(5,u),(6,ZJ (j:Int)),(7,ZJ X)] ->
    wp C0 (d+1) none gG (λe t df g=>e=.norm/\(df=[]/\St t [(2,ZK 0),(3,ZK 1)]/\g.h.get 0=Y6 9 [cu8]/\g.h.get 1=Y6 2 [[ZJ m.grain,b]]/\2<=g.nx/\∃u L,tat t 5=u/\L.length=j+1/\evP m L/\Own g 2 u 1 (L.map ci))/\tat t 6=ZJ (j:Int)) t [] g:=by
   rintro t X C D ⟨h2,o,h5,p,h7,-⟩;simp only[sz,simprocAttr,gG,h5,h7];refine aM (new:=[ci X]) (hu.step (Fr.new _ _)) (by simp[sx,sy,ci]) (by simp;omega) (by simp[aT,f];omega) λv2 g2 hv2 n2 f2 _ l2=>?_;simp only[sz,simprocAttr,h2,o,p,St];refine⟨?_,?_,?_,_,L++[X],rfl,by simp[f],?_,?_⟩
   ·rw[f2 0 (by simp) (λe=>by have:=(hu.lt e).1;omega),G.new_h,af _ _ _ (by omega),e0]
   ·rw[f2 1 (by simp;omega) (λe=>by have:=(hu.lt e).1;omega),G.new_h,af _ _ _ (by omega),e1]
   ·simp at n2;omega
   ·intro i a c ha l
    by_cases e:i=j
    ·subst e;rw[hx]at l;injection l with l;subst l;rw[<-f,WY]at ha;injection ha with ha;subst ha;exact⟨C,D⟩
    ·have J:i<L.length:=by have:=(Vv.1 ha).1;simp at this;omega
     rw[VO J]at ha;exact q i a c ha l
   ·simpa [ci] using hv2
  simp only[sz,simprocAttr,h2,p,e0,E,w9,hz,B];refine aX (λhb=>?_) (λhb=>?_)
  ·have U:0<=(y.toNat:Int) % x.card:=YP _ (by omega);have M:(y.toNat:Int) % x.card<x.card:=YT _ (by omega);simp only[sz,simprocAttr,h2,o,p,e0,e1,JB 8 1 _ _ _ _ _ K,Nat.mul_one,I,w8,Q,hlt,z1,N,cX .i64 (show 0<=(y.toNat:Int) by omega) H];refine bX _ (key _ ((y.toNat:Int) % x.card) (by omega) M (by simp[St,sx,h2,o,h5,p])) ?_;rintro e t df g ⟨rfl,h⟩;exact h
  ·simp only[sx];refine bX _ (key _ (-1) (by omega) (by omega) (by simp[St,sx,h2,o,h5,p])) ?_;rintro e t df g ⟨rfl,h⟩;exact h
 ·rintro t df g ⟨rfl,⟨h2,o,-⟩,e0,e1,A,u,L,h5,f,q,hu⟩;simp only[sz,simprocAttr,lO,h5];exact⟨_,L,PJ f q,hu.ints (by omega)⟩
theorem v_{α β:Type}{R:α->β->Prop}:∀{l:List α} {m:List β},l.length=m.length->(∀(i:Nat) (a:α) (b:β),l[i]?=some a->m[i]?=some b->R a b)->All2 R l m
 |[],[],_,_=>trivial
 |[],_::_,h,_=>by simp at h
 |_::_,[],h,_=>by simp at h
 |a::l,b::m,h,hr=>⟨hr 0 a b rfl rfl,v_ (by simpa using h) λi x y hx hy=>hr (i+1) x y (by simpa using hx) (by simpa using hy)⟩
def lH(V:Ky->AV)(i:Nat)(c:Int):List AV:=[ZJ c,V (i+1,0),V (i+1,1)]
structure NdOk (K:Nat) (V:Ky->AV) (E:Ky->En) (i:Nat) (x:Node):Prop where
 ps:E (i+1,0)=.sl 1 (x.parents.map ci)
 rs:∃rws,E (i+1,1)=.sl 1 rws/\rws.length=x.rows.length/\∀(r:Nat) (y:List Int),x.rows[r]?=some y->rws[r]?=some [V (i+1,2+r)]
 rr:∀(r:Nat) (y:List Int),x.rows[r]?=some y->E (i+1,2+r)=.sl 1 (y.map ci)
 len:x.parents.length<=K/\x.rows.length<=K/\∀y∈x.rows,y.length<=K
theorem NdOk.congr{V':Ky->AV}{E':Ky->En}(h:NdOk K V E i x)(hv:∀q,V' (i+1,q)=V (i+1,q))(he:∀q,E' (i+1,q)=E (i+1,q)):NdOk K V' E' i x:=by obtain⟨rws,h1,h2,k⟩:=h.rs;exact⟨by rw[he];exact h.ps,⟨rws,by rw[he];exact h1,h2,λr y hy=>by rw[hv];exact k r y hy⟩,λr y hy=>by rw[he];exact h.rr r y hy,h.len⟩
theorem NdOk.up{K':Nat}(h:NdOk K V E i x)(hk:K<=K'):NdOk K' V E i x :=
 ⟨h.ps,h.rs,h.rr,VR h.len.1 hk,VR h.len.2.1 hk,λy hy=>VR (h.len.2.2 y hy) hk⟩
theorem NdOk.rows{g:G}{K i:Nat}{V:Ky->AV}{E:Ky->En}{x:Node}{L:Ky->Prop}(h:NdOk K V E i x)(hH:Hp g 3 L V E)(hL:∀q,q<2+x.rows.length->L (i+1,q))(hK:K<=2000000):SlR P3 0 g.h x.rows (V (i+1,1)):=by obtain⟨rws,h1,h2,k⟩:=h.rs;have ho:=hH.own (hL 1 (by omega)) h1;refine Own.sl (α:=List Int) ho (by have:=h.len;omega) (v_ h2.symm λr y row hy hr=>?_) λj hj=>(ho.lt hj).1;rw[k r y hy]at hr;injection hr with hr;subst hr;have hr:=(Vv.1 hy).1;exact l8.2 ⟨_,rfl,uj (hH.own (hL (2+r) (by omega)) (h.rr r y hy)) (by have:=h.len.2.2 y (VA hy);omega) λ_ h=>h⟩
theorem NdOk.pars{L:Ky->Prop}(h:NdOk K V E i x)(hH:Hp g 3 L V E)(hL:L (i+1,0))(hK:K<=2000000):SlR P3 0 g.h x.parents (V (i+1,0)) :=
 uj (hH.own hL h.ps) (by have:=h.len;omega) λ_ h=>h
theorem NdOk.rd{L:Ky->Prop}(h:NdOk K V E i x)(hH:Hp g 3 L V E)(hL:∀q,q<2+x.rows.length->L (i+1,q))(hK:K<=2000000):Rp.rp P3 0 g.h x (lH V i x.card) :=
 bM.2 ⟨_,_,rfl,h.pars hH (hL 0 (by omega)) hK,h.rows hH hL hK⟩
def LS(L:List Node):Ky->Prop:=λk=>k=(0,0)\/∃i q x,k=(i+1,q)/\L[i]?=some x/\q<2+x.rows.length
theorem LS.z:LS L (0,0):=.inl rfl
theorem LS.s(h:L[i]?=some x)(hq:q<2+x.rows.length):LS L (i+1,q):=.inr ⟨i,q,x,rfl,h,hq⟩
theorem LS.nb:¬LS L (0,1):=by rintro (h|⟨i,q,x,h,-⟩)<;>simp at h
theorem LS.lt(h:LS L (i+1,q)):i<L.length:=by
 rcases h with h|⟨i',q',x,h,hx,-⟩
 ·simp at h
 ·simp only[Prod.mk.injEq]at h;have:=(Vv.1 hx).1;omega
structure BLs (K:Nat) (V:Ky->AV) (E:Ky->En) (L:List Node):Prop where
 ns:∃rows,E (0,0)=.sl 3 rows/\rows.length=L.length/\∀(i:Nat) (x:Node),L[i]?=some x->rows[i]?=some (lH V i x.card)
 nd:∀(i:Nat) (x:Node),L[i]?=some x->NdOk K V E i x
theorem BLs.congr{K:Nat}{V V':Ky->AV}{E E':Ky->En}{L:List Node}(h:BLs K V E L)(hv:∀i q,i<L.length->V' (i+1,q)=V (i+1,q))(he:∀i q,i<L.length->E' (i+1,q)=E (i+1,q))(h0:E' (0,0)=E (0,0)):BLs K V' E' L:=by obtain⟨rows,h1,h2,k⟩:=h.ns;have lt:∀{i:Nat} {x:Node},L[i]?=some x->i<L.length:=λhx=>(Vv.1 hx).1;exact⟨⟨rows,by rw[h0];exact h1,h2,λi x hx=>by rw[k i x hx,lH,lH,hv i _ (lt hx),hv i _ (lt hx)]⟩,λi x hx=>(h.nd i x hx).congr (λq=>hv i q (lt hx)) λq=>he i q (lt hx)⟩
theorem Gr{rows:List (List AV)}(ho:Own g 3 W 3 rows)(hl:rows.length<=2000000)(h:∀(i:Nat) (row:List AV),rows[i]?=some row->∃x:Node,Rp.rp P3 0 g.h x row):∃nds:List Node,nds.length=rows.length/\SlR P3 0 g.h nds W:=by
 have key:∀(rs:List (List AV)),(∀(i:Nat) (row:List AV),rs[i]?=some row->∃x:Node,Rp.rp P3 0 g.h x row)->∃nds:List Node,nds.length=rs.length/\All2 (Rp.rp P3 0 g.h) nds rs:=by
  intro rs
  induction rs with
  |nil=>intro _;exact⟨[],rfl,trivial⟩
  | cons r rs ih =>
   intro a;obtain⟨x,hx⟩:=a 0 r rfl;obtain⟨nds,k,ha⟩:=ih λi row hr=>a (i+1) row (by simpa using hr);exact⟨x::nds,by simp[k],hx,ha⟩
 obtain⟨nds,k,ha⟩:=key rows h;exact⟨nds,k,Own.sl (α:=Node) ho (by omega) ha λi hi=>(ho.lt hi).1⟩
def BBn(g:G)(brow:List AV)(gr:Int)(b:AV):Prop:=g.h.get 0=Y6 4 [brow]/\g.h.get 1=Y6 2 [[ZJ gr,b]]/\g.h.get 2=Y6 2 [[ZJ 0,.nils]]
theorem BBn.fr{b:AV}(h:BBn g brow gr b)(hf:∀i,i<3->g'.h.get i=g.h.get i):BBn g' brow gr b :=
 ⟨by rw[hf 0 (by omega),h.1],by rw[hf 1 (by omega),h.2.1],by rw[hf 2 (by omega),h.2.2]⟩
def LX(L:List Node)(x:Node):Ky->Prop:=λk=>LS L k\/k=(0,1)\/∃q,k=(L.length+1,q)/\q<2+x.rows.length
theorem LX.b:LX L x (0,1):=.inr (.inl rfl)
theorem LX.n(h:q<2+x.rows.length):LX L x (L.length+1,q):=.inr (.inr ⟨q,rfl,h⟩)
structure NB (K p:Nat) (L:List Node) (x:Node) (g:G) (brow:List AV) (gr:Int) (b W:AV) (V:Ky->AV) (E:Ky->En):Prop where
 hp:Hp g 3 (LX L x) V E
 bb:BBn g brow gr b
 vb:V (0,1)=ZK p
 bx:E (0,1)=.bx (lH V L.length x.card)
 nd:NdOk K V E L.length x
 bl:BLs K V E L
 vw:V (0,0)=W
theorem NB.box{K p:Nat}{L:List Node}{x:Node}{g:G}{brow:List AV}{gr:Int}{b W:AV}{V:Ky->AV}{E:Ky->En}(h:NB K p L x g brow gr b W V E):g.h.get p=Y6 3 [[ZJ x.card,V (L.length+1,0),V (L.length+1,1)]]/\3<=p/\p<g.nx:=by obtain⟨id,h1,h2,k,h4⟩:=h.hp.box LX.b h.bx;rw[h.vb]at k;injection k with k;subst k;exact⟨h4,h1,h2⟩
def LNB(j p:Nat)(W:AV):List (Nat×AV):=[(2,ZK 0),(3,ZK 1),(4,ZK 2),(5,W),(6,ZJ (j:Int)),(7,ZK p)]
theorem RL{p:Nat}{c:Int}{ps:List Int}{b fa fb:AV}{rows:List (List AV)}(hK:K<=1000000)
  (r1:∀h',ak h' 3 b=some rows) (z1:rows[L.length]?=some [ZJ c,fa,fb]) (hry:nA b=true) (hfa:SlR NoP k .nil ps fa) (hl:ps.length<=K)
  (ht:St t (LNB L.length p W)) (hN:NB K p L ⟨c,[],[]⟩ g brow gr b W V E)
  (kk:∀t g V E,St t (LNB L.length p W)->NB K p L ⟨c,ps,[]⟩ g brow gr b W V E->Q .norm t [] g) :
  wp C0 d none (.feet [0,1,0,4,0,28,60,124,255,511,1023] [oF 29 1 7,oL 30 29,oF 31 1 3,oL 32 31,oM 33 6,Ze 34 3 32 33,oF 35 1 34,oL 36 35,Zu 37 1 8 30 36,oF 38 1 7,Za 1 38 37]) Q t [] g:=by
 obtain⟨h2,o,h4,h5,s,h7,-⟩:=ht;have hlt:L.length<rows.length:=(Vv.1 z1).1;obtain⟨m,x,z⟩:=hN.box;have w:=hN.hp.nx;have l:E (L.length+1,0)=.sl 1 []:=hN.nd.ps;simp only[sz,simprocAttr,sf,o,s,h7,hN.bb.2.1,r1,hlt,z1,hry,m];refine (hN.hp.same (g':=_) (by simp) (by simp<;>omega)).app (k:=(L.length+1,0)) (LX.n (by omega)) l (new:=ps.map ci) (by simpa using (hfa.tree (h':=g.h) (Vu _)).ints) (by simp[aT];omega) λv1 ga hHa na fra fsa lga vca vta=>?_;simp only[sy]at na fra fsa lga;have kb:(0,1)≠(L.length+1,0):=by simp
 obtain⟨p',u,v,a,e⟩:=hHa.box (k:=(0,1)) LX.b (by rw[ac _ _ (by simp<;>omega)];exact hN.bx);rw[ac _ _ (by simp<;>omega),hN.vb]at a;injection a with a;subst a;have e:ga.h.get p=Y6 3 [[ZJ c,V (L.length+1,0),V (L.length+1,1)]]:=e;simp only[sz,simprocAttr,sf,h7,e,vca,vta];refine⟨?_,?_⟩
 ·simp only[VJ,VN,VH,VE];exact aA (Zl (true::(false::(true::[])))) [] (by simp[All2,ah,ay]) (by decide) (by simp)
 have f:=(hHa.same (g':=aN (j7 (aN (j7 ga []) []) []) []) (by simp) (by simp<;>omega)).putb (k:=(0,1)) LX.b (row:=lH V L.length c) (row':=[ZJ c,v1,V (L.length+1,1)]) (by rw[ac _ _ (by simp<;>omega)];exact hN.bx) (by rw[ac _ _ (by simp<;>omega)];exact hN.vb) rfl;refine kk _ _ (ups V (L.length+1,0) v1) (ups (ups E (L.length+1,0) (En.sl 1 ([]++ps.map ci))) (0,1) (En.bx [ZJ c,v1,V (L.length+1,1)])) (by simp[St,LNB,sx,h2,o,h4,h5,s,h7]) ?_;refine⟨f.same (by simp[lH]) (by simp),hN.bb.fr (λi hi=>by simp[TA];rw[Vz (by omega),fra i hi]),by rw[ac _ _ (by simp<;>omega)];exact hN.vb,?_,⟨?_,?_,λr y hr=>by simp at hr,hl,by show 0<=K;omega,λy hy=>by simp at hy⟩,?_,by rw[ac _ _ (by simp<;>omega)];exact hN.vw⟩
 ·rw[ax,lH,ax,ac V (k:=(L.length+1,0)) (j:=(L.length+1,1)) _ (by simp)]
 ·rw[ac _ _ (by simp<;>omega),ax];rfl
 ·obtain⟨rws,A,q2,q3⟩:=hN.nd.rs;exact⟨rws,by rw[ac _ _ (by simp<;>omega),ac _ _ (by simp<;>omega)];exact A,q2,λr y hr=>by simp at hr⟩
 ·refine hN.bl.congr (λi q hi=>?_) (λi q hi=>?_) ?_
  ·rw[ac _ _ (by simp<;>omega)]
  ·rw[ac _ _ (by simp<;>omega),ac _ _ (by simp<;>omega)]
  ·rw[ac _ _ (by simp<;>omega),ac _ _ (by simp<;>omega)]
theorem RM{p:Nat}{c:Int}{ps y:List Int}{R:List (List Int)}{b fa fb fy:AV}{rows rws:List (List AV)}(hK:K<=1000000)
  (r1:∀h',ak h' 3 b=some rows) (z1:rows[L.length]?=some [ZJ c,fa,fb]) (hry:nA b=true) (w1:∀h',ak h' 1 fb=some rws) (hryb:nA fb=true) (w2:rws[i]?=some [fy]) (hfy:SlR NoP k .nil y fy) (hl:y.length<=K) (hRl:R.length=i) (hi:i<K)
  (ht:St t (LNB L.length p W)) (h8:tat t 8=ZJ (i:Int)) (h9:tat t 9=.nils) (hN:NB K p L ⟨c,ps,R⟩ g brow gr b W V E)
  (kk:∀t g V E,St t (LNB L.length p W)->tat t 8=ZJ (i:Int)->NB K p L ⟨c,ps,R++[y]⟩ g brow gr b W V E->Q .norm t [] g) :
  wp C0 d none (.feet [0,1,0,0,8,0,56,120,248,0,1016,2040,4092,8188,16383,32767,65535] [oF 50 2 7,oL 51 50,oM 52 9,oF 53 1 3,oL 54 53,oM 55 6,Ze 56 3 54 55,oF 57 2 56,oL 58 57,oM 59 8,oX 60 58 59,oL 61 60,Zu 62 1 8 52 61,ZC 63 62,Zu 64 1 24 51 63,oF 65 2 7,Za 1 65 64]) Q t [] g:=by
 obtain⟨h2,D,h4,h5,F,h7,-⟩:=ht;have hlt:L.length<rows.length:=(Vv.1 z1).1;have o:i<rws.length:=(Vv.1 w2).1;obtain⟨w,P,S⟩:=hN.box;have O:=hN.hp.nx;obtain⟨rw0,e1,e2,M⟩:=hN.nd.rs;have e2:rw0.length=i:=by rw[e2];exact hRl
 simp only[sz,simprocAttr,sf,D,F,h7,h8,h9,hN.bb.2.1,r1,hlt,z1,hry,w1,o,w2,w];refine yH (b:=3) (rows:=[]) (new:=y.map ci) (.inl ⟨rfl,rfl⟩) (by simpa using (hfy.tree (h':=g.h) (Vu _)).ints) (by simp<;>omega) (by simp[aT];omega) λv2 g2 hv2 n2 fr2 vid2 lg2=>?_;simp only[sy]at n2 fr2 vid2 lg2;have A:¬LX L ⟨c,ps,R⟩ (L.length+1,2+i):=by
  rintro (h|h|⟨q,h,hq⟩)
  ·have:=h.lt;omega
  ·simp at h
  ·simp only[Prod.mk.injEq]at h;simp at hq;omega
 have u:=hN.hp.add (k:=(L.length+1,2+i)) (L':=LX L ⟨c,ps,R++[y]⟩) (v':=v2) (e':=.sl 1 (y.map ci)) A hv2 (by omega) (λj _ f=>fr2 j (by omega) (by simp[vid])) (λj f=>by
   rw[cp hv2]at f;rcases vid2 with h|⟨i',h,N⟩
   ·rw[h]at f;cases f
   ·rw[h]at f;injection f with f;omega) (λk hk=>by
   rcases hk with h|h|⟨q,h,hq⟩
   ·exact .inl (.inl h)
   ·exact .inl (.inr (.inl h))
   ·simp at hq
    by_cases e:q=2+i
    ·rw[e]at h;exact .inr h
    ·exact .inl (.inr (.inr ⟨q,h,by simp;omega⟩)))
 simp only[sz,simprocAttr,sf,hv2.cell.1,hv2.cell.2];have C:ups V (L.length+1,2+i) v2 (L.length+1,1)=V (L.length+1,1):=ac _ _ (by simp<;>omega);rw[<-C];refine (u.step (g':=_) ?_ ?_).app2 (k:=(L.length+1,1)) (LX.n (by omega)) (by rw[ac _ _ (by simp<;>omega)];exact e1) (new:=[[v2]]) (by simp[sx,sy]) (by simp[aT];omega) λv3 g3 hH3 n3 fb3 fo3 lg3 vc3 vt3=>?_
 ·simp;omega
 ·intro j _ f;simp[TA];omega
 simp only[sx,sy]at n3 fb3 fo3 lg3;obtain⟨p',H,I,a,l⟩:=hH3.box (k:=(0,1)) LX.b (by rw[ac _ _ (by simp<;>omega),ac _ _ (by simp<;>omega)];exact hN.bx);rw[ac _ _ (by simp<;>omega),ac _ _ (by simp<;>omega),hN.vb]at a;injection a with a;subst a;have l:g3.h.get p=Y6 3 [[ZJ c,V (L.length+1,0),V (L.length+1,1)]]:=l;simp only[sz,simprocAttr,sf,h7,l,vc3,vt3];refine⟨?_,?_⟩
 ·simp only[VJ,VN,VH,VE];refine aA (Zm (Zl (true::(true::(true::(false::(true::[]))))))) [(0,12),(1,12),(0,13),(1,13)] (by simp[All2,ah,ay]) (by decide) ?_;have m:∀i∈g2.lg,i≠p:=λi hi e=>by
   rcases lg2 i hi with h|h|h
   ·simp at h
   ·simp[vid]at h
   ·omega
  rintro q s x y hx J;simp only[VP,VG,Xh]at s;rcases s with rfl|rfl|rfl|rfl<;>(simp at hx J;subst hx;subst J;refine bI rfl rfl rfl rfl ?_ ?_ ?_<;>simp[ah,ay,aw]<;>first|omega|exact m|exact λi hi e=>m i hi e.symm)
 have v:=(hH3.same (g':=aN (j7 (aN (j7 g3 []) []) []) []) (by simp) (by simp<;>omega)).putb (k:=(0,1)) LX.b (row:=lH V L.length c) (row':=[ZJ c,V (L.length+1,0),v3]) (by rw[ac _ _ (by simp<;>omega),ac _ _ (by simp<;>omega)];exact hN.bx) (by rw[ac _ _ (by simp<;>omega),ac _ _ (by simp<;>omega)];exact hN.vb) rfl;refine kk _ _ _ _ (by simp[St,LNB,sx,h2,D,h4,h5,F,h7]) (by simp[sx,h8]) ⟨v.same (by simp[lH]) (by simp),hN.bb.fr (λj f=>?_),?_,?_,⟨?_,?_,λr z hr=>?_,hN.nd.len.1,by simp;omega,λz hz=>?_⟩,?_,?_⟩
 ·simp[TA];rw[Vz (by omega),fb3 j f]
  try simp[TA]
  rw[Vz (by omega),fr2 j (by omega) (by simp[vid])]
 ·rw[ac _ _ (by simp<;>omega),ac _ _ (by simp<;>omega)];exact hN.vb
 ·rw[ax,lH,ax,ac _ _ (by simp<;>omega),ac _ _ (by simp<;>omega)]
 ·rw[ac _ _ (by simp<;>omega),ac _ _ (by simp<;>omega),ac _ _ (by simp<;>omega)];exact hN.nd.ps
 ·refine⟨rw0++[[v2]],by rw[ac _ _ (by simp<;>omega),ax],by simp[e2,hRl],λr z hr=>?_⟩
  by_cases e:r=i
  ·subst e;rw[ac _ _ (by simp<;>omega),ax,<-e2,WY]
  ·have B:r<i:=by have:=(Vv.1 hr).1;simp at this;omega
   rw[ac _ _ (by simp<;>omega),ac _ _ (by simp<;>omega),VO (by omega)];have hr:(R++[y])[r]?=some z:=hr;rw[VO (by omega)]at hr;exact M r z hr
 ·rw[ac _ _ (by simp<;>omega),ac _ _ (by simp<;>omega)];have hr:(R++[y])[r]?=some z:=hr
  by_cases e:r=i
  ·subst e;rw[<-hRl,WY]at hr;injection hr with hr;subst hr;rw[<-hRl,ax]
  ·have B:r<i:=by have:=(Vv.1 hr).1;simp at this;omega
   rw[VO (by omega)]at hr;rw[ac _ _ (by simp<;>omega)];exact hN.nd.rr r z hr
 ·rcases V7.1 hz with h|h
  ·exact hN.nd.len.2.2 z h
  ·rw[VY.1 h];exact hl
 ·refine hN.bl.congr (λj q f=>?_) (λj q f=>?_) ?_
  ·rw[ac _ _ (by simp<;>omega),ac _ _ (by simp<;>omega)]
  ·rw[ac _ _ (by simp<;>omega),ac _ _ (by simp<;>omega),ac _ _ (by simp<;>omega)]
  ·rw[ac _ _ (by simp<;>omega),ac _ _ (by simp<;>omega),ac _ _ (by simp<;>omega)]
 ·rw[ac _ _ (by simp<;>omega),ac _ _ (by simp<;>omega)];exact hN.vw
theorem SP{p:Nat}{b fa fb:AV}{rows:List (List AV)}(hK:K<=1000000)
  (r1:∀h',ak h' 3 b=some rows) (z1:rows[L.length]?=some [ZJ x.card,fa,fb]) (hry:nA b=true) (hfb:SlR NoP k .nil x.rows fb) (hl:x.rows.length<=K) (hll:∀y∈x.rows,y.length<=K)
  (ht:St t (LNB L.length p W)) (h8:tat t 8=ZJ 0) (hN:NB K p L ⟨x.card,x.parents,[]⟩ g brow gr b W V E)
  (fin:∀t g V E,St t (LNB L.length p W)->NB K p L x g brow gr b W V E->Q (.exit 2) t [] g):wpL (wp C0 d none ic) Q t [] g:=by
 obtain⟨rws,w1,q,w3,o⟩:=hfb.all;have w1:∀h',ak h' 1 fb=some rws:=w1;have lfb:=hfb.len;have hlt:L.length<rows.length:=(Vv.1 z1).1;obtain⟨FR,c⟩:∃FR,FR=SC.feet [0,1,0,0,8,0,56,120,248,0,1016,2040,4092,8188,16383,32767,65535] [oF 50 2 7,oL 51 50,oM 52 9,oF 53 1 3,oL 54 53,oM 55 6,Ze 56 3 54 55,oF 57 2 56,oL 58 57,oM 59 8,oX 60 58 59,oL 61 60,Zu 62 1 8 52 61,ZC 63 62,Zu 64 1 24 51 63,oF 65 2 7,Za 1 65 64]:=⟨_,rfl⟩;simp only[ic];rw[<-c];refine aP x.rows.length (by omega) (λj t df g=>df=[]/\St t (LNB L.length p W)/\∃V E,NB K p L ⟨x.card,x.parents,x.rows.take j⟩ g brow gr b W V E)
  ⟨rfl,ht,V,E,by simpa using hN⟩ h8 (by decide) (by rintro j t df g v s (rfl|rfl|rfl)<;>simp[St,LNB,sx]) ?_ ?_ ?_
 ·rintro j t df g l ⟨rfl,⟨h2,h,h4,h5,a,h7,-⟩,V,E,hN⟩ h8;simp only[sz,simprocAttr,h,a,h8,hN.bb.2.1,r1,hlt,z1,hry,lfb];exact⟨by simp[St,LNB,sx,h2,h,h4,h5,a,h7],V,E,hN⟩
 ·clear ht h8 hN;rintro j t df g l ⟨rfl,⟨h2,h,h4,h5,a,h7,-⟩,V,E,hN⟩ h8;obtain⟨y,m,f,hm⟩:=ae l;obtain⟨row,n,q2⟩:=w3 j y m;obtain⟨fy,rfl,e⟩:=l8.1 q2;simp only[sz,simprocAttr];rw[c];refine RM (i:=j) (y:=y) (R:=x.rows.take j) hK r1 z1 hry w1 (o (by omega)) n e (hll y hm) (by simp<;>omega) (by omega) (by simp[St,LNB,sx,h2,h,h4,h5,a,h7]) (by simp[sx,h8]) (by simp[sx]) hN ?_;clear h2 h h4 h5 a h7 h8 hN;intro t g V E ht h8 hN;rw[<-f]at hN;exact⟨⟨rfl,ht,V,E,hN⟩,h8⟩
 ·rintro t df g ⟨rfl,ht,V,E,hN⟩;rw[Wa]at hN;exact fin t g V E ht hN
theorem TB{k:Ky}(h:LS (L++[x]) k):LX L x k:=by
 rcases h with h|⟨i,q,y,h,hi,hq⟩
 ·exact .inl (.inl h)
 ·by_cases e:i<L.length
  ·rw[VO e]at hi;exact .inl (.inr ⟨i,q,y,h,hi,hq⟩)
  ·have a:=(Vv.1 hi).1;simp at a;have e:i=L.length:=by omega
   subst e;rw[WY]at hi;injection hi with hi;subst hi;exact .inr (.inr ⟨q,h,hq⟩)
theorem SQ{m:Net}{b:AV}(hK:K<=1000000)(hS:SlR NoP k .nil m.nodes b)(hl:m.nodes.length<=K)
  (hb:∀x∈m.nodes,x.parents.length<=K/\x.rows.length<=K/\∀r∈x.rows,r.length<=K)
  (ht:St t [(2,ZK 0),(3,ZK 1),(4,ZK 2)]) (h5:tat t 5=V (0,0)) (h6:tat t 6=ZJ 0) (hH:Hp g 3 (LS []) V E) (hB:BBn g brow m.grain b) (hD:BLs K V E [])
  (fin:∀t g V E,St t [(2,ZK 0),(3,ZK 1),(4,ZK 2)]->tat t 5=V (0,0)->Hp g 3 (LS m.nodes) V E->BBn g brow m.grain b->BLs K V E m.nodes->Q (.exit 0) t [] g):wpL (wp C0 d none ie) Q t [] g:=by
 obtain⟨rows,F,r2,r3,r4⟩:=hS.all;have F:∀h',ak h' 3 b=some rows:=F;have lS:=hS.len;obtain⟨FR,A⟩:∃FR,FR=SC.feet [0,1,0,4,0,28,60,124,255,511,1023] [oF 29 1 7,oL 30 29,oF 31 1 3,oL 32 31,oM 33 6,Ze 34 3 32 33,oF 35 1 34,oL 36 35,Zu 37 1 8 30 36,oF 38 1 7,Za 1 38 37]:=⟨_,rfl⟩;simp only[ie,mO];rw[<-A];refine aP m.nodes.length (by omega) (λj t df g=>df=[]/\St t [(2,ZK 0),(3,ZK 1),(4,ZK 2)]/\∃V E,tat t 5=V (0,0)/\Hp g 3 (LS (m.nodes.take j)) V E/\BBn g brow m.grain b/\BLs K V E (m.nodes.take j))
  ⟨rfl,ht,V,E,h5,by simpa using hH,hB,by simpa using hD⟩ h6 (by decide) (by rintro j t df g v s (rfl|rfl|rfl)<;>simp[St,sx]) ?_ ?_ ?_
 ·rintro j t df g R ⟨rfl,⟨h2,f,h4,-⟩,V,E,h5,hH,hB,hD⟩ h6;simp only[sz,simprocAttr,h2,f,h4,h5,h6,hB.2.1,lS,St];exact⟨V,E,rfl,hH,hB,hD⟩
 ·clear ht h5 h6 hH hB hD;rintro j t df g R ⟨rfl,⟨h2,f,h4,-⟩,V,E,h5,hH,hB,hD⟩ h6;obtain⟨x,hx,w,hm⟩:=ae R;obtain⟨row,U,q2⟩:=r3 j x hx;obtain⟨fa,fb,rfl,I,J⟩:=bM.1 q2;have hlt:j<rows.length:=by omega
  have u:=r4 (by omega);obtain⟨l1,l2,l3⟩:=hb x hm;have Y:=hH.nx;obtain⟨p,hp⟩:∃p,p=g.nx:=⟨_,rfl⟩;obtain⟨L,O⟩:∃L,L=m.nodes.take j:=⟨_,rfl⟩;have n:L.length=j:=by rw[O];simp;omega
  rw[<-O]at hH hD w;obtain⟨g1,l⟩:∃g1,g1=(g.new (Y6 3 [[ZJ 0,.nils,.nils]])).put g.nx (Y6 3 [[ZJ x.card,.nils,.nils]]):=⟨_,rfl⟩;have n1:g.nx+1=g1.nx:=by rw[l];simp
  have f1:∀i,i<g.nx->g1.h.get i=g.h.get i:=λi hi=>by rw[l,G.put_h,af _ _ _ (by omega),G.new_h,af _ _ _ (by omega)]
  have B:=hH.add (k:=(0,1)) (L':=λk=>LS L k\/k=(0,1)) (g':=g1) (v':=ZK g.nx) (e':=.bx [ZJ x.card,.nils,.nils]) LS.nb ⟨g.nx,by omega,by omega,rfl,by rw[l];simp[aJ]⟩ (by omega) (λi _ hi=>f1 i hi) (λi hi=>by injection hi with hi;omega) (λk hk=>hk);have C:=B.add (k:=(L.length+1,0)) (L':=λk=>(LS L k\/k=(0,1))\/k=(L.length+1,0)) (v':=.nils) (e':=.sl 1 []) (by rintro (h|h);exact absurd h.lt (by omega);simp at h) (.inl ⟨rfl,rfl⟩) (Vu _) (λ_ _ _=>rfl) (λi hi=>by cases hi) (λk hk=>hk);have D:=C.add (k:=(L.length+1,1)) (L':=LX L ⟨x.card,[],[]⟩) (v':=.nils) (e':=.sl 1 []) (by rintro ((h|h)|h);exact absurd h.lt (by omega);simp at h;simp at h) (.inl ⟨rfl,rfl⟩) (Vu _) (λ_ _ _=>rfl) (λi hi=>by cases hi) (λk hk=>by
   rcases hk with h|h|⟨q,h,hq⟩
   ·exact .inl (.inl (.inl h))
   ·exact .inl (.inl (.inr h))
   ·have hq:q<2:=hq;have:q=0\/q=1:=by omega
    rcases this with e|e<;>subst e
    ·exact .inl (.inr h)
    ·exact .inr h)
  have a:NB K p L ⟨x.card,[],[]⟩ g1 brow m.grain b (V (0,0)) (ups (ups (ups V (0,1) (ZK g.nx)) (L.length+1,0) .nils) (L.length+1,1) .nils) (ups (ups (ups E (0,1) (.bx [ZJ x.card,.nils,.nils])) (L.length+1,0) (.sl 1 [])) (L.length+1,1) (.sl 1 [])):=by
   refine⟨D,hB.fr λi hi=>f1 i (by omega),by simp[ac,ax,hp],by simp[ac,ax,lH],⟨by simp[ac,ax],⟨[],by simp[ax],rfl,λr y hr=>by simp at hr⟩,λr y hr=>by simp at hr,by show 0<=K;omega,by show 0<=K;omega,λy c=>by simp at c⟩,hD.congr (λi q hi=>?_) (λi q hi=>?_) (by simp[ac]),by simp[ac]⟩
   ·rw[ac _ _ (by simp<;>omega),ac _ _ (by simp<;>omega),ac _ _ (by simp<;>omega)]
   ·rw[ac _ _ (by simp<;>omega),ac _ _ (by simp<;>omega),ac _ _ (by simp<;>omega)]
  clear B C D;have W:rows[L.length]?=some [ZJ x.card,fa,fb]:=by rw[n];exact U
  refine aL (P:=λt df g'=>df=[]/\g'=g1/\St t (LNB L.length p (V (0,0)))) ?_ ?_
  ·simp only[sz,simprocAttr,f,h6,hB.2.1,F,hlt,U,u];refine⟨by rw[l],?_⟩;simp[St,LNB,sx,h2,f,h4,h5,h6,hp,n]
  rintro t df g2 ⟨rfl,rfl,ht⟩;rw[jl,A];refine RL hK F W u I l1 ht a ?_;clear a ht;rintro t g V1 E1 ⟨h2,f,h4,h5,h6,h7,-⟩ a;rw[t9];simp only[sz,simprocAttr];refine SP (x:=x) hK F W u J l2 l3 (by simp[St,LNB,sx,h2,f,h4,h5,h6,h7]) (by simp[sx]) a ?_;clear a h2 f h4 h5 h6 h7;rintro t g V1 E1 ⟨h2,f,h4,h5,h6,h7,-⟩ a;obtain⟨M,Z,h1⟩:=a.box;obtain⟨rw0,e1,e2,X⟩:=a.bl.ns;simp only[sz,simprocAttr,mN,h5,h7,M];rw[<-a.vw];have S:=a.hp.nx;refine (a.hp.step (g':=g.new (Y6 3 [[ZJ x.card,V1 (L.length+1,0),V1 (L.length+1,1)]])) (by simp) (λi _ hi=>by rw[G.new_h,af _ _ _ (by omega)])).app (k:=(0,0)) (.inl LS.z) e1
   (new:=[[ZJ x.card,V1 (L.length+1,0),V1 (L.length+1,1)]]) (by simp[sx,sy]) (by simp[aT];omega) λv3 g3 hH4 n3 fr3 _ lg3 vc3 vt3=>?_
  simp only[sx,sy]at n3 fr3;simp only[sz,simprocAttr,h2,f,h4,h6,St];rw[n];refine⟨⟨ups V1 (0,0) v3,ups E1 (0,0) (.sl 3 (rw0++[[ZJ x.card,V1 (L.length+1,0),V1 (L.length+1,1)]])),(ax _ _ _).symm,?_,a.bb.fr (λi hi=>by rw[fr3 i hi,Vz (by omega)]),?_⟩,rfl⟩
  ·rw[w];exact hH4.sub λk hk=>TB hk
  ·rw[w];have H:=a.bl.congr (V':=ups V1 (0,0) v3) (E':=ups E1 (0,0) (.sl 3 rw0)) (λi q hi=>ac _ _ (by simp<;>omega)) (λi q hi=>ac _ _ (by simp<;>omega)) (by rw[ax,e1]);have N:=a.nd.congr (V':=ups V1 (0,0) v3) (E':=ups E1 (0,0) (.sl 3 (rw0++[[ZJ x.card,V1 (L.length+1,0),V1 (L.length+1,1)]]))) (λq=>ac _ _ (by simp<;>omega)) (λq=>ac _ _ (by simp<;>omega));refine⟨⟨_,ax _ _ _,by simp[e2],λi y c=>?_⟩,λi y c=>?_⟩
   ·by_cases e:i<L.length
    ·rw[VO e]at c;rw[VO (by omega),X i y c,lH,lH,ac _ _ (by simp<;>omega),ac _ _ (by simp<;>omega)]
    ·have o:=(Vv.1 c).1;simp at o;have e:i=L.length:=by omega
     subst e;rw[WY]at c;injection c with c;subst c;rw[<-e2,WY,e2,lH,ac _ _ (by simp<;>omega),ac _ _ (by simp<;>omega)]
   ·by_cases e:i<L.length
    ·rw[VO e]at c;exact (H.nd i y c).congr (λq=>rfl) (λq=>by rw[ac _ _ (by simp<;>omega),ac _ _ (by simp<;>omega)])
    ·have o:=(Vv.1 c).1;simp at o;have e:i=L.length:=by omega
     subst e;rw[WY]at c;injection c with c;subst c;exact N
 ·rintro t df g ⟨rfl,ht,V,E,h5,hH,hB,hD⟩;rw[Wa]at hH hD;exact fin t g V E ht h5 hH hB hD
theorem bz{sz:Nat}{v:AV}{off:Nat}(h:nA v=true):Gp (eJ sz v i off)=.val (eJ sz v i off):=by cases v<;>first|rfl|cases h
theorem SlR.far{α:Type} [Rp α]{h':H}{l:List α}{v:AV}(r:SlR P k h l v)(hf:∀i,P i->h'.get i=h.get i):SlR P k h' l v:=by obtain⟨w,hw,q⟩:=Rp.mono (P':=P) (h':=h') (show Rp.rp P k h l [v] from ⟨v,rfl,r⟩) (λi hi=>⟨hi,hf i hi⟩) (Vu _);injection hw with hw;subst hw;exact q
theorem SlR.heap{α:Type} [Rp α]{h':H}{l:List α}{v:AV}(r:SlR P k h l v)(hf:h'=h):SlR P k h' l v:=by subst hf;exact r
theorem Own.refs_lt{g:G}{b sz:Nat}{v:AV}{rows:List (List AV)}(h:Own g b v sz rows):∀i∈aw v,b<=i/\i<g.nx:=by
 rcases h with⟨rfl,-⟩|⟨id,ep,lo,h1,h2,rfl,-⟩
 ·intro i hi;simp[aw]at hi
 ·intro i hi;simp[aw]at hi;omega
theorem zW{α:Type} [Rp α]{g:G}{b:Nat}{u:AV}{rows:List (List AV)}(hu:Own g b u (Rp.sz α) rows)(hne:rows≠[]){n:Nat}(hn:n<=rows.length) :
  ∃y,tR (Rp.sz α) u none (some (ZJ (n:Int))) g=.val y/\(y.cells=[y]/\y.isTup=false)/\∀(P:Nat->Prop) (k:Nat) (l:List α) (h':H),(∀i,vid u=some i->h'.get i=g.h.get i)->SlR P k h' l u->SlR P k h' (l.take n) y:=by
 rcases hu with⟨rfl,rfl⟩|⟨id,ep,lo,h1,h2,rfl,e⟩
 ·exact absurd rfl hne
 ·simp only[tR,nD,e,Wm,WA,aF,WE,aa,Wt,Vu,if_true,aZ,Xg,XJ];simp only[eO];rw[show aB (n.ble rows.length) (some n) none=some n from by rw[aa,VC (by simpa using hn)]];dsimp only;have hb:rows.length.beq 0=false:=by cases rows with|nil=>exact absurd rfl hne|cons a l=>rfl
  rw[hb];refine⟨_,rfl,⟨rfl,rfl⟩,λP k l h' hh h=>?_⟩;have c:=hh id rfl;rw[e]at c;obtain⟨hl,hp,rr,d,q2⟩:=h;rw[eI,c,yN]at d;injection d with d;subst d;refine⟨by rw[Wf];omega,hp,rows.take n,?_,q2.take n⟩;rw[eI,c,cN,VC (by omega),Xp]
structure Oth (K:Nat) (L:List Node) (J:Nat) (V:Ky->AV) (E:Ky->En) (rows:List (List AV)):Prop where
 len:rows.length=L.length
 ns:∀(i:Nat) (y:Node),i≠J->L[i]?=some y->rows[i]?=some (lH V i y.card)
 nd:∀(i:Nat) (y:Node),i≠J->L[i]?=some y->NdOk K V E i y
theorem Oth.of{K J:Nat}{L:List Node}{V:Ky->AV}{E:Ky->En}{rows:List (List AV)}(h1:rows.length=L.length)(h2:∀(i:Nat) (x:Node),L[i]?=some x->rows[i]?=some (lH V i x.card))(h:BLs K V E L):Oth K L J V E rows :=
 ⟨h1,λi y _ hy=>h2 i y hy,λi y _ hy=>h.nd i y hy⟩
theorem Oth.v{K J q:Nat}{L:List Node}{V:Ky->AV}{E:Ky->En}{rows:List (List AV)}{v:AV}(h:Oth K L J V E rows):Oth K L J (ups V (J+1,q) v) E rows :=
 ⟨h.len,λi y hi hy=>by rw[h.ns i y hi hy,lH,lH,ac _ _ (by simp<;>omega),ac _ _ (by simp<;>omega)],λi y hi hy=>(h.nd i y hi hy).congr (λs=>ac _ _ (by simp<;>omega)) λ_=>rfl⟩
theorem Oth.e{K J:Nat}{L:List Node}{V:Ky->AV}{E:Ky->En}{rows:List (List AV)}{v:En}(h:Oth K L J V E rows):Oth K L J V (ups E (J+1,q) v) rows :=
 ⟨h.len,h.ns,λi y hi hy=>(h.nd i y hi hy).congr (λ_=>rfl) λs=>ac _ _ (by simp<;>omega)⟩
theorem Oth.z{K J:Nat}{L:List Node}{V:Ky->AV}{E:Ky->En}{rows:List (List AV)}{v:En}(h:Oth K L J V E rows):Oth K L J V (ups E (0,0) v) rows :=
 ⟨h.len,h.ns,λi y hi hy=>(h.nd i y hi hy).congr (λ_=>rfl) λs=>ac _ _ (by simp<;>omega)⟩
theorem vC{K J:Nat}{L:List Node}{V:Ky->AV}{E:Ky->En}{rows:List (List AV)}{row':List AV}{x':Node}{g:G}{M:Ky->Prop}(hH:Hp g 3 M V E)(hM:∀k,LS L k->M k)(hO:Oth K L J V E rows)(e0:E (0,0)=.sl 3 (rows.set J row'))
  (hw:V (0,0)=W) (hr:Rp.rp P3 0 g.h x' row') (hK:K<=1000001) (hl:L.length<=1000001):∃nds:List Node,nds.length<=1000002/\SlR P3 0 g.h nds W:=by
 have ho:=hH.own (hM _ LS.z) e0;rw[hw]at ho;obtain⟨nds,b,h⟩:=Gr ho (by simp[hO.len];omega) λi row hi=>by
  rw[Wi]at hi
  by_cases e:J=i
  ·rw[VC e]at hi
   split at hi
   ·injection hi with hi;subst hi;exact⟨x',hr⟩
   ·cases hi
  ·rw[Vz e]at hi;have a:=(Vv.1 hi).1;obtain⟨y,c⟩:∃y,L[i]?=some y:=⟨_,Vt (by rw[<-hO.len];exact a)⟩;rw[hO.ns i y (WD e) c]at hi;injection hi with hi;subst hi;exact⟨y,(hO.nd i y (WD e) c).rd hH (λq hq=>hM _ (LS.s c hq)) (by omega)⟩
 exact⟨nds,by rw[b];simp[hO.len];omega,h⟩
theorem BLs.sl{K:Nat}{L:List Node}{V:Ky->AV}{E:Ky->En}{g:G}(h:BLs K V E L)(hH:Hp g 3 (LS L) V E)(hK:K<=1000001)(hl:L.length<=1000001):SlR P3 0 g.h L (V (0,0)):=by obtain⟨rows,h1,h2,k⟩:=h.ns;have ho:=hH.own LS.z h1;refine Own.sl (α:=Node) ho (by omega) (v_ h2.symm λi y row hy hr=>?_) λi hi=>(ho.lt hi).1;rw[k i y hy]at hr;injection hr with hr;subst hr;exact (h.nd i y hy).rd hH (λq hq=>LS.s hy hq) (by omega)
structure BS (K J:Nat) (L:List Node) (x:Node) (bx:lI) (gr Rw:Int) (t:T) (g:G) (V:Ky->AV) (E:Ky->En):Prop where
 st:St t [(2,ZK 0),(3,ZK 1),(4,ZK 2),(10,eJ 3 (V (0,0)) J 0),(11,ZJ Rw)]
 hp:Hp g 3 (LS L) V E
 f0:g.h.get 0=Y6 4 [[u8v bx.1,u8v bx.2.1,u8v bx.2.2.1,ZJ bx.2.2.2]]
 f1:g.h.get 1=Y6 2 [[ZJ gr,V (0,0)]]
 f2:g.h.get 2=Y6 2 [[ZJ 0,.nils]]
 bl:BLs K V E L
 hx:L[J]?=some x
 hR:(Rw = -1/\x.rows.length=0)\/∃r:Nat,Rw=(r:Int)/\r<x.rows.length
 hK:K<=1000000
 hl:L.length<=K
def vX(Q:QT):Prop:=∀t g gr nv nds,tat t 3=ZK 1->tat t 4=ZK 2->g.h.get 1=Y6 2 [[ZJ gr,nv]]->g.h.get 2=Y6 2 [[ZJ 0,.nils]]->SlR (α:=Node) P3 0 g.h nds nv->nds.length<=1000002->Q .norm t [] g
structure BT (K J:Nat) (L:List Node) (x:Node) (g:G) (V:Ky->AV) (E:Ky->En) (rows:List (List AV)):Prop where
 own:Own g 3 (V (0,0)) 3 rows
 e0:E (0,0)=.sl 3 rows
 ry:nA (V (0,0))=true
 hlt:J<rows.length
 row:rows[J]?=some [ZJ x.card,V (J+1,0),V (J+1,1)]
 oth:Oth K L J V E rows
 nd:NdOk K V E J x
theorem BS.bt{K J:Nat}{L:List Node}{x:Node}{bx:lI}{gr Rw:Int}{t:T}{g:G}{V:Ky->AV}{E:Ky->En}(h:BS K J L x bx gr Rw t g V E):∃rows,BT K J L x g V E rows:=by obtain⟨rows,h1,h2,k⟩:=h.bl.ns;have a:=(Vv.1 h.hx).1;have ho:=h.hp.own LS.z h1;exact⟨rows,ho,h1,fR ho (by omega),by omega,k J x h.hx,Oth.of h2 k h.bl,h.bl.nd J x h.hx⟩
theorem BS.sl{K J:Nat}{L:List Node}{x:Node}{bx:lI}{gr Rw:Int}{t:T}{g:G}{V:Ky->AV}{E:Ky->En}(h:BS K J L x bx gr Rw t g V E):SlR P3 0 g.h L (V (0,0)):=h.bl.sl h.hp (by have:=h.hK;omega) (by have:=h.hK;have:=h.hl;omega)
theorem Si(h:P3 i):¬i=1/\¬i=2:=by have:3<=i:=h;omega
section
variable {d K J:Nat}{L:List Node}{x:Node}{bx:lI}{gr Rw:Int}{t:T}{g:G}{V:Ky->AV}{E:Ky->En}{Q:QT}
theorem bc0(hS:BS K J L x bx gr Rw t g V E)(fin:vX Q) :
  wp C0 d none (.ops [oF 112 3 2,oL 113 112,oF 114 0 3,Za 1 114 113]) Q t [] g:=by
 obtain⟨h2,h,h4,k,a,-⟩:=hS.st;simp only[sz,simprocAttr,h2,h,hS.f0,hS.f1];exact fin _ _ bx.2.2.2 _ _ (by simp[sx,h]) (by simp[sx,h4]) (by simp[TA]) (by simp[TA,hS.f2]) (hS.sl.far λi hi=>by simp[TA,Si hi]) (by have:=hS.hK;have:=hS.hl;omega)
theorem bc1(hS:BS K J L x bx gr Rw t g V E)(fin:vX Q) :
  wp C0 d none (.ops [oM 117 10,oF 118 3 2,oL 119 118,Zb 120 117,oF 121 0 120,Za 1 121 119]) Q t [] g:=by
 obtain⟨h2,f,h4,a,e,-⟩:=hS.st;obtain⟨rows,h⟩:=hS.bt;have hK:=hS.hK;have hl:=hS.hl;simp only[sz,simprocAttr,h2,a,hS.f0,bz h.ry,bF h.ry];refine hS.hp.put LS.z (row':=[ZJ bx.2.2.2,V (J+1,0),V (J+1,1)]) h.e0 h.row rfl rfl rfl λgb hHb nb frb _=>?_;simp only[sx];have b:NdOk K V (ups E (0,0) (.sl 3 (rows.set J [ZJ bx.2.2.2,V (J+1,0),V (J+1,1)]))) J ⟨bx.2.2.2,x.parents,x.rows⟩:=by have:=h.nd.congr (V':=V) (E':=ups E (0,0) (.sl 3 (rows.set J [ZJ bx.2.2.2,V (J+1,0),V (J+1,1)]))) (λ_=>rfl) (λq=>ac _ _ (by simp<;>omega));exact⟨this.ps,this.rs,this.rr,this.len⟩
 obtain⟨nds,c,i⟩:=vC hHb (λk hk=>hk) h.oth.z (ax _ _ _) rfl (b.rd hHb (λq hq=>LS.s hS.hx hq) (by omega)) (by omega) (by omega);exact fin _ _ gr _ nds (by simp[sx,f]) (by simp[sx,h4]) (by rw[frb 1 (by omega),hS.f1]) (by rw[frb 2 (by omega),hS.f2]) i c
theorem bc2(hS:BS K J L x bx gr Rw t g V E)(fin:vX Q) :
  wp C0 d none (.feet [0,0,2,6,14,0,32,96,254,511,1023,2047] [oM 124 10,oM 125 10,Zb 126 125,oF 127 1 126,oL 128 127,oF 129 3 2,oL 130 129,ZB 131 130,Zu 132 1 8 128 131,Zb 133 124,oF 134 1 133,Za 1 134 132]) Q t [] g:=by
 obtain⟨h2,C,h4,o,B,-⟩:=hS.st;obtain⟨rows,a⟩:=hS.bt;have hK:=hS.hK;have hl:=hS.hl;have F:=hS.hp.nx;have A:=a.nd.ps;have j:=a.nd.len;simp only[sz,simprocAttr,sf,h2,o,hS.f0,bz a.ry,bF a.ry,a.own.rows,a.hlt,a.row];refine (hS.hp.step (g':=_) (by simp<;>omega) (λi hi hi2=>?_)).app2 (k:=(J+1,0)) (LS.s hS.hx (by omega)) A (new:=[[ZJ bx.2.2.2]]) (by simp[sx,sy]) (by simp[aT];omega) λv1 ga hHa na fra foa lga vca vta=>?_
 ·simp[TA];omega
 simp only[sx,sy]at na fra foa lga;have f:ups V (J+1,0) v1 (0,0)=V (0,0):=ac _ _ (by simp<;>omega);simp only[sz,simprocAttr,sf,bz a.ry,bF a.ry];refine (hHa.same (g':=_) (by simp) (by simp<;>omega)).putv (k:=(0,0)) LS.z f (row':=[ZJ x.card,v1,V (J+1,1)]) (by rw[ac _ _ (by simp<;>omega)];exact a.e0) a.row (by rw[vca];rfl) vta (by rw[vca];rfl) λgb hHb nb frb _=>?_;simp only[sy]at nb frb ⊢;refine⟨?_,?_⟩
 ·simp only[VJ,VN,VH,VE];refine aA (false::(Zn (Zm (true::(true::(Zn (true::[]))))))) [(0,7),(1,7),(2,7),(3,7),(4,7),(0,8)] (by simp[All2,ah,ay]) (by decide) ?_;rintro p hp x y hx b;simp only[VP,VG,Xh]at hp;have ro1:=a.own.refs_lt;rcases hp with rfl|rfl|rfl|rfl|rfl|rfl<;>(simp at hx b;subst hx;subst b;refine bI rfl rfl rfl rfl ?_ ?_ ?_<;>simp[ah,ay,fT a.ry]<;>first|omega| (intro i' c;have:=ro1 i' c;omega)| (intro i' c;rcases lga i' c with h|h<;>first|omega|simp at h)|skip)
 have u:NdOk (K+1) (ups V (J+1,0) v1) (ups (ups E (J+1,0) (.sl 1 (x.parents.map ci++[[ZJ bx.2.2.2]]))) (0,0) (.sl 3 (rows.set J [ZJ x.card,v1,V (J+1,1)]))) J ⟨x.card,x.parents++[bx.2.2.2],x.rows⟩:=by
  obtain⟨rws,G,q2,q3⟩:=a.nd.rs;exact⟨by rw[ac _ _ (by simp<;>omega),ax];simp[ci],⟨rws,by rw[ac _ _ (by simp<;>omega),ac _ _ (by simp<;>omega)];exact G,q2,λr y b=>by rw[ac _ _ (by simp<;>omega)];exact q3 r y b⟩,
   λr y b=>by rw[ac _ _ (by simp<;>omega),ac _ _ (by simp<;>omega)];exact a.nd.rr r y b,by simp;omega,by show x.rows.length<=K+1;omega,λy b=>by have:=j.2.2 y b;omega⟩
 have l:=u.rd hHb (λq hq=>LS.s hS.hx hq) (by omega);rw[lH,ax,ac _ _ (by simp<;>omega)]at l;obtain⟨nds,w,D⟩:=vC hHb (λk hk=>hk) a.oth.v.e.z (ax _ _ _) f l (by omega) (by omega);have m:gb.h.get 1=Y6 2 [[ZJ gr,V (0,0)]]:=by rw[frb 1 (by omega)];(try simp);rw[fra 1 (by omega),Vz (by omega),hS.f1]
 have n:gb.h.get 2=Y6 2 [[ZJ 0,.nils]]:=by rw[frb 2 (by omega)];(try simp);rw[fra 2 (by omega),Vz (by omega),hS.f2]
 exact fin _ _ gr _ nds (by simp[sx,C]) (by simp[sx,h4]) (by simpa using m) (by simpa using n) (D.heap (by simp)) w
theorem bc3(hS:BS K J L x bx gr Rw t g V E)(fin:vX Q) :
  wp C0 d none (.ops [oM 137 10,Zb 138 137,oF 139 1 138,oz (.store 1 (.t 139) (.k (.nils)))]) Q t [] g:=by
 obtain⟨h2,j,h4,b,i,-⟩:=hS.st;obtain⟨rows,a⟩:=hS.bt;have hK:=hS.hK;have hl:=hS.hl;simp only[sz,simprocAttr,b,bz a.ry,bF a.ry];refine hS.hp.put LS.z (row':=[ZJ x.card,.nils,V (J+1,1)]) a.e0 a.row rfl rfl rfl λgb hHb nb frb _=>?_;simp only[sx];have c:=a.nd.congr (V':=V) (E':=ups E (0,0) (.sl 3 (rows.set J [ZJ x.card,.nils,V (J+1,1)]))) (λ_=>rfl) (λq=>ac _ _ (by simp<;>omega));have f:Rp.rp P3 0 gb.h (⟨x.card,[],x.rows⟩:Node) [ZJ x.card,.nils,V (J+1,1)]:=bM.2 ⟨_,_,rfl,⟨by show 0<9223372036854775808;decide,rfl⟩,c.rows hHb (λq hq=>LS.s hS.hx hq) (by omega)⟩;obtain⟨nds,e,l⟩:=vC hHb (λk hk=>hk) a.oth.z (ax _ _ _) rfl f (by omega) (by omega);exact fin _ _ gr _ nds (by simp[sx,j]) (by simp[sx,h4]) (by rw[frb 1 (by omega),hS.f1]) (by rw[frb 2 (by omega),hS.f2]) l e
end
section
variable {l:List Bool}
def cs3(x:Sp):List AV:=[ZJ x.1,ZJ x.2.1,ZJ x.2.2]
def cb(x:Bool):List AV:=[.bool x]
theorem Ox{x:Sp}{cs:List AV}:Rp.rp P k h x cs↔cs=cs3 x:=by
 obtain⟨a,b,c⟩:=x;rw[ou];constructor
 ·rintro⟨p,q,rfl,h1,h2⟩;obtain⟨e,q2,rfl,d,h4⟩:=ou.1 h2;rw[aW.1 h1,aW.1 d,aW.1 h4];rfl
 ·rintro rfl;exact⟨[ZJ a],_,rfl,aW.2 rfl,ou.2 ⟨[ZJ b],[ZJ c],rfl,aW.2 rfl,aW.2 rfl⟩⟩
theorem SlR.sps{l:List Sp}{v:AV}(r:SlR P k h l v):ak h 3 v=some (l.map cs3):=by obtain⟨rows,h1,h2⟩:=r.rows;rw[show (3:Nat)=Rp.sz Sp from rfl,h1,h2.eq_map (f:=cs3) λa b r=>Ox.1 r]
theorem SlR.bools{v:AV}(r:SlR P k h l v):ak h 1 v=some (l.map cb):=by obtain⟨rows,h1,h2⟩:=r.rows;rw[show (1:Nat)=Rp.sz Bool from rfl,h1,h2.eq_map (f:=cb) λa b r=>jh.1 r]
theorem Own.sps{b:Nat}{v:AV}{l:List Sp}(h:Own g b v 3 (l.map cs3))(hl:l.length<9223372036854775808):One l (λ_=>True) k g.h v :=
 ⟨v,rfl,Own.sl (α:=Sp) h hl (Tx (λa=>Ox.2 rfl) l) λ_ _=>trivial⟩
theorem Own.bools{b:Nat}{v:AV}(h:Own g b v 1 (l.map cb))(hl:l.length<9223372036854775808):SlR (λi=>vid v=some i) 0 g.h l v :=
 Own.sl (α:=Bool) h hl (Tx (λa=>jh.2 rfl) l) λ_ h=>h
theorem MK(b:Bool):D6 false .bool (.bool false) (.bool b)=.val (.bool (!b)):=by cases b<;>rfl
theorem rJ{b:Nat}{v:AV}{sz n off:Nat}{rows:List (List AV)}{row row':List AV}{x:AV}{K:AV->G->Prop}{D:ADf->Prop}(hv:Own g b v sz rows)(hr:rows[i]?=some row)
  (hl:x.cells.length=n) (ht:x.isTup=false) (hp:bu row off x.cells=some row')
  (k:∀g',Own g' b v sz (rows.set i row')->g'.nx=g.nx->(∀i,vid v≠some i->g'.h.get i=g.h.get i)->(∀j∈g'.lg,j∈g.lg\/vid v=some j)->K .undef g'):(jV n (eJ sz v i off) x g).sat K g D:=by
 rcases hv with⟨rfl,rfl⟩|⟨id,ep,lo,h1,h2,rfl,a⟩
 ·simp at hr
 ·simp only[eJ,WE];rw[rI a hr rfl ht hl hp];refine k _ (.inr ⟨id,ep,lo,h1,by simpa using h2,by simp,by simp[aJ]⟩) (by simp) (λi hne=>?_) (λj hj=>?_)
  ·rw[G.put_h,af _ _ _ (λe=>hne (by rw[e];rfl))]
  ·simp at hj;rcases hj with rfl|hj
   ·exact .inr rfl
   ·exact .inl hj
def S.UV(l:List Bool):Int:=if false∈l then (l.idxOf false:Int) else -1
theorem MR:(0:Int)<=S.UV l↔false∈l:=by
 unfold S.UV
 split
 ·rename_i h;simp[h]
 ·rename_i h;simp[h]
theorem KD{v:AV}(hd:0<d)(hv:SlR P k g.h l v):am C0 d 81 [v,.bool false] g=.val (ZJ (S.UV l)):=by
 obtain⟨v',e,i⟩:=bm hv d;have vl:∀g,dH .slice v' g=.val (ZJ (l.length:Int)):=λg=>(i .nil).len g;have ri:=λh=>(i h).bools;rw[nH];refine eE pJ (xs:=[v',.bool false]) (by simp only[aG,e];rfl) (by simp[eD]) hd ?_;simp only[sz,simprocAttr,eD,vl,gx];refine bD (m:=l.length) hv.1 (λj t df g=>df=[]/\St t [(0,v'),(1,.bool false)]/\false ∉ l.take j) ⟨rfl,by simp[St,sx],by simp⟩ (by simp[sx]) (by simp[sx]) (by decide)
  (by rintro j t df g v s (rfl|rfl|rfl)<;>simp[sx,St]) ?_ ?_
 ·rintro j t df g b ⟨rfl,⟨h0,h1,-⟩,a⟩ h8 h7;obtain⟨y,f,c,hm⟩:=ae b;have n:j<(l.map cb).length:=by simpa using b
  have o:(l.map cb)[j]?=some (cb y):=by rw[Vw,f];rfl
  cases y with
  | false =>
   have hl:l=l.take j++false::l.drop (j+1):=by
    have:l.drop j=false::l.drop (j+1):=by rw[W7 b];congr 1;rw[Vt b]at f;injection f
    rw[<-this,WS]
   have hf:S.UV l=(j:Int):=by
    unfold S.UV;rw[VC hm];have:l.idxOf false=j:=by
     conv=>lhs;rw[hl]
     rw[List.idxOf_append,Vz a,List.idxOf_cons_self,Wf];omega
    rw[this]
   simp only[sz,simprocAttr,h0,h1,h8,ri,n,o,cb,MK,hf]
  | true =>
   simp only[sz,simprocAttr,h0,h1,h8,ri,n,o,cb,MK];simp[St,sx,h0,h1,h7,h8,c,a]
 ·rintro t df g ⟨rfl,-,a⟩;rw[Wa]at a;simp only[sz,simprocAttr,gy,S.UV,a]
theorem wg{v:AV}(hd:0<d)(hv:SlR P k g.h l v):am C0 d 50 [v,.bool false] g=.val (.bool (decide (false∈l))):=by obtain⟨v',e,b⟩:=bm hv d;have ki:=λg=>KD (d:=d+1) (g:=g) (VI d) (b g.h);have a:decide ((0:Int)<=S.UV l)=decide (false∈l):=decide_eq_decide.2 MR;rw[kZ];refine gZ mB (xs:=[v',.bool false]) (by simp only[aG,e];rfl) (by simp[dj]) hd ?_;simp only[sz,simprocAttr,dj,ki,<-a]
theorem Lg{v:AV}{n:Net}(hd:0<d)(hm:Agg n NoP 0 g.h v):am C0 d 49 [v] g=.val (ZJ (if S.T3 n then 0 else 50)):=by
 obtain⟨b,rows,rfl,e1,i,-⟩:=dZ d hm;rw[Am];refine eE DW (xs:=[.agg [ZJ n.grain,b]]) (by simp only[aG,e1]) (by simp[ta]) hd ?_;simp only[sz,simprocAttr,ta];obtain⟨g0,hg0⟩:∃g0,g0=G.empty.new (Y6 2 [[ZJ n.grain,b]]):=⟨_,rfl⟩;rw[<-hg0];have f0:g0.h.get 0=Y6 2 [[ZJ n.grain,b]]:=by rw[hg0];simp[sx]
 have p:g0.nx=1:=by rw[hg0];simp[sx]
 clear hg0;have ld:be (Y6 2 [[ZJ n.grain,b]]) 0 0 true 2 0=.val (.agg [ZJ n.grain,b]):=rfl;simp only[sz,simprocAttr,uF,f0,ld];refine bi (J1 (VI d) (n:=n) (i _)) λz hz=>?_;rcases yU hz with⟨j,cs,rfl,e⟩|⟨j,b',cv,sv,oz,o,rfl,hb,f,m,l⟩
 ·obtain⟨a1,a2,k,a4,a,rfl⟩:∃a1 a2 k a4 a,cs=[a1,a2,k,a4,a]:=by
   match cs,e with
   |[a1,a2,k,a4,a],_=>exact⟨a1,a2,k,a4,a,rfl⟩
  simp only[sz,simprocAttr,p,j]
 ·have st:∀g:G,ch (Y6 5 [[ZJ 0,.nils,.nils,.nils,.nils]]) g 1 0 0 5 0 (.agg [ZJ n.grain,b',cv,sv,oz])=.upd .undef (g.put 1 (Y6 5 [[ZJ n.grain,b',cv,sv,oz]])):=λg=>by
   have h1:=hb.2;have h2:=f.2;have c:=m.2;have h4:=l.2;unfold SlV at h1 h2 c h4
   split at h1<;>split at h2<;>split at c<;>split at h4<;>first|rfl|exact h1.elim|exact h2.elim|exact c.elim|exact h4.elim
  simp only[sz,simprocAttr,p,st,j]
end
section
variable {A:Nat->Prop}
theorem Nl{cs vs:List Int}{c v:Int}(h:cs.length=vs.length):S.TC (cs++[c]) (vs++[v])=S.TC cs vs*c+v:=by
 have h1:=vF (cs++[c]) (vs++[v]) 0 (by simp[h]);have h2:=vF cs vs 0 h;have k:S.UY (cs++[c]) (vs++[v]) 0=S.UY cs vs 0*c+v:=by
  unfold S.UY;rw[List.zip_append h,X_]
  rfl
 rw[Int.zero_mul,Int.zero_add]at h1 h2;rw[<-h1,k,h2]
theorem sC{cs:List Int}(hc:∀c∈cs,1<=c/\c<=4)(hl:cs.length<=8)(j:Nat):S.Ty (cs.take j)<=65536:=by
 obtain⟨-,h2⟩:=cj (l:=cs.take j) λc h=>hc c (WL h);have k:(4:Int) ^ (cs.take j).length<=4 ^ 8:=by
  have:(4:Nat) ^ (cs.take j).length<=4 ^ 8:=V_ (by decide) (by rw[Wf];omega)
  exact_mod_cast this
 have h4:(4:Int) ^ 8=65536:=by decide
 omega
theorem Pi{k2:Nat}{P2:Nat->Prop}{v w:AV}{n:Net}{vals:List Int}(hd:0<d)(hv:SlR NoP 0 .nil n.nodes v)(hr:NR n)(hx:n.nodes[i]?=some x)(hw:SlR P2 k2 g.h vals w)(hvl:vals.length=n.nodes.length)(hC:InC (S.TA (S.Tx n) x.parents) (S.TA vals x.parents)) :
  am C0 d 84 [v,ZJ (i:Int),w] g=.val (ZJ (S.TC (S.TA (S.Tx n) x.parents) (S.TA vals x.parents))):=by
 obtain⟨w',e2,I⟩:=bm hw d;have e1:=l9 (h:=g.h) d (hv.tree (h':=g.h) (Vu 0));obtain⟨rows,B,r2,O,r4⟩:=hv.all;have B:∀h',ak h' 3 v=some rows:=B;have R:=(Vv.1 hx).1;have r:=VA hx;obtain⟨row,Z,q2⟩:=O i x hx;obtain⟨pa,ra,rfl,o,-⟩:=bM.1 q2;have hlt:i<rows.length:=by omega
 have q:=r4 (by omega);have T:=hr.l2;have W:=fS (hr.places x r) (by omega);have k:=hr.pin r;have lpa:=o.len;have rpa:=λh=>(o.tree (h':=h) (Vu 0)).ints;have rw':=λh=>(I h).ints;have hb:=eG hr.cs k;have b:(S.TA (S.Tx n) x.parents).length=x.parents.length:=by simp[S.TA]
 have D:(S.TA vals x.parents).length=x.parents.length:=by simp[S.TA]
 rw[Aq];refine eE D1 (xs:=[v,ZJ (i:Int),w']) (by simp only[aG,e1,e2,bS 0]) (by simp[tC]) hd ?_;simp only[sz,simprocAttr,tC,B,hlt,Z,q,lpa,tD];refine bD (m:=x.parents.length) (by omega) (λj t df g=>df=[]/\St t [(0,v),(2,w'),(14,pa),(7,ZJ (S.TC ((S.TA (S.Tx n) x.parents).take j) ((S.TA vals x.parents).take j)))]) ⟨rfl,by simp[St,sx,S.TC]⟩ (by simp[sx]) (by simp[sx]) (by decide)
  (by rintro j t df g v s (rfl|rfl|rfl)<;>simp[sx,St]) ?_ ?_
 ·rintro j t df g u ⟨rfl,h0,h2,a,h7,-⟩ e C;obtain⟨p,hp,-,E⟩:=ae u;obtain⟨Y,N⟩:=k p E;rw[aH]at N;obtain⟨pn,rfl⟩:=Vy Y;have F:pn<n.nodes.length:=by omega
  obtain⟨y,K,-,J⟩:=ae (l:=n.nodes) (j:=pn) F;obtain⟨row2,s1,s2⟩:=O pn y K;obtain⟨pa2,ra2,rfl,-,-⟩:=bM.1 s2;have f:pn<rows.length:=by omega
  obtain⟨z,hz,-,-⟩:=ae (l:=vals) (j:=pn) (by omega);have a1:j<(x.parents.map ci).length:=by simpa using u
  have a2:(x.parents.map ci)[j]?=some (ci (pn:Int)):=by rw[Vw,hp];rfl
  have b1:pn<(vals.map ci).length:=by rw[VF];omega
  have b2:(vals.map ci)[pn]?=some (ci z):=by rw[Vw,hz];rfl
  have c1:(S.TA (S.Tx n) x.parents).take (j+1)=(S.TA (S.Tx n) x.parents).take j++[y.card]:=by
   rw[Xb (by omega)];congr 1;simp only[S.TA,List.getElem_map];have:x.parents[j]=(pn:Int):=by rw[Vt u]at hp;injection hp
   rw[this];simp[S.Tx,K]
  have P:(S.TA vals x.parents).take (j+1)=(S.TA vals x.parents).take j++[z]:=by
   rw[Xb (by omega)];congr 1;simp only[S.TA,List.getElem_map];have:x.parents[j]=(pn:Int):=by rw[Vt u]at hp;injection hp
   rw[this];simp[hz]
  have H:S.TC ((S.TA (S.Tx n) x.parents).take (j+1)) ((S.TA vals x.parents).take (j+1))=S.TC ((S.TA (S.Tx n) x.parents).take j) ((S.TA vals x.parents).take j)*y.card+z:=by rw[c1,P];exact Nl (by simp[b,D])
  have L:=iG (λc h=>hb c (WL h)) (hC.take j);have M:=iG (λc h=>hb c (WL h)) (hC.take (j+1));have N:=sC hb (by rw[b];omega) j;have p2:=sC hb (by rw[b];omega) (j+1);rw[H]at M ⊢;have X:=hr.card y J;obtain⟨A,Q⟩:∃A,A=S.TC ((S.TA (S.Tx n) x.parents).take j) ((S.TA vals x.parents).take j):=⟨_,rfl⟩;rw[<-Q]at h7 L M ⊢;have U:0<=A*y.card:=XU L.1 (by omega);have V:A*y.card<=65536*4:=Y0 (by omega) (by omega) (by omega) (by omega);have w1:IntKind.wrap .i64 (A*y.card)=A*y.card:=ap (by omega) (by omega);have w2:IntKind.wrap .i64 (A*y.card+z)=A*y.card+z:=ap (by omega) (by omega);simp only[sz,simprocAttr,h0,h2,a,h7,e,rpa,a1,a2,ci,B,f,s1,q,rw',b1,b2,w1,w2];simp[St,sx,h0,h2,a,C,e]
 ·rintro t df g ⟨rfl,h0,h2,a,h7,-⟩;rw[VX (by omega),VX (by omega)]at h7;simp only[sz,simprocAttr,tE,h7]
theorem Oh{x y:Nat}(hd:0<d)(hx:x<=4611686018427387903)(hy0:0<y)(hy:y<=4611686018427387903) :
  am C0 d 29 [ZJ (x:Int),ZJ (y:Int)] g=.val (.agg [ZJ (S.T9 x y).1,ZJ (S.T9 x y).2]):=by
 have key:∃r,am C0 d 29 [ZJ (x:Int),ZJ (y:Int)] g=.val r/\Agg (S.T9 x y) NoP 0 .nil r:=by
  obtain⟨q0,i,q2,q3⟩:=CZ (x:=x) hy0;rw[xN];refine a_ AK (xs:=[ZJ (x:Int),ZJ (y:Int)]) (by simp only[aG,bS 0]) (by simp[pe]) (bW _) (by decide) hd ?_;have hm:max (x:Int) (-(x:Int))=(x:Int):=by omega
  simp only[sz,simprocAttr,pe,sA,JR (show x<9223372036854775808 by omega),hm];refine it (λb t df g=>df=[]/\∃a:Nat,St t [(0,ZJ (x:Int)),(1,ZJ (y:Int)),(4,ZK 0),(5,ZJ (a:Int)),(6,ZJ (b:Int))]/\Nat.gcd a b=Nat.gcd x y/\a<9223372036854775808/\b<=y/\g.h.get 0=Y6 2 [[ZJ 0,ZJ 0]]/\g.nx=1) y
   ⟨rfl,x,by simp[St,sx],rfl,by omega,Vu _,by simp[TA,show G.empty.nx=0 from rfl],by simp[show G.empty.nx=0 from rfl]⟩ ?_
  rintro b t df g ⟨rfl,a,⟨h0,h1,h4,h5,c,-⟩,k,ha,f,g0,gn⟩
  by_cases hb:b=0
  ·subst hb;rw[Nat.gcd_zero_right]at k;subst k;have fw:c8 [ZJ 0,ZJ 0] [((0,1),ZJ ((x / Nat.gcd x y:Nat):Int)),((1,1),ZJ ((y / Nat.gcd x y:Nat):Int))]=some [ZJ ((x / Nat.gcd x y:Nat):Int),ZJ ((y / Nat.gcd x y:Nat):Int)]:=rfl;simp only[jO,qp,sz,simprocAttr,sf,h0,h1,h4,h5,c,ug (show x<9223372036854775808 by omega) q0,ug (show y<9223372036854775808 by omega) q0,fw,g0];refine⟨?_,⟨λ_=>True,pz.2 rfl⟩⟩;simp only[VJ,VN,VH,VE];exact aA (false::(Zn (Zm (true::[])))) [] (by simp[All2,ah,ay]) (by decide) (by simp)
  ·have e:¬(b:Int)=0:=by omega
   have hlt:=WP a (YW hb);simp only[jO,sz,simprocAttr,h5,c,e,zT (x:=a) (YW hb)];refine⟨a % b,hlt,b,?_,?_,by omega,by omega,g0,gn⟩
   ·simp[St,sx,h0,h1,h4,h5,c]
   ·rw[<-k,Nat.gcd_comm a b,Nat.gcd_comm b (a % b),<-Nat.gcd_rec]
 obtain⟨r,hr,hc⟩:=key;rw[hr,pz.1 hc]
theorem nL{b:Nat}{v x:AV}{sz bytes:Nat}{rows new:List (List AV)}{K:AV->G->Prop}{D:ADf->Prop}(hv:Own g b v sz rows)(hx:ak g.h sz x=some new)(hb:b<=g.nx)
  (hr:(rows.length+new.length)*bytes<=aT)
  (k:∀v' g',Own g' b v' sz (rows++new)->g.nx<=g'.nx->(∀i,i<g.nx->vid v≠some i->g'.h.get i=g.h.get i)->(vid v'=vid v\/∃i,vid v'=some i/\g.nx<=i)->(∀i∈g'.lg,i∈g.lg\/vid v=some i\/g.nx<=i/\i<g'.nx)->K v' g') :
  (cW sz bytes v x g).sat K g D:=by
 unfold cW;rw[hx];dsimp only;rcases hv with⟨rfl,rfl⟩|⟨id,ep,lo,h1,h2,rfl,a⟩
 ·cases new with
  |nil=>exact k _ _ (.inl ⟨rfl,rfl⟩) (Vu _) (λ_ _ _=>rfl) (.inl rfl) (λi hi=>.inl hi)
  | cons r new =>
   simp only[bk,aF,aa,Wt];rw[VC (by simpa using hr)];refine k _ _ (.inr ⟨g.nx,0,true,hb,by simp,rfl,by simp[aJ]⟩) (by simp) (λi hi _=>?_) (.inr ⟨g.nx,rfl,Vu _⟩) (λi hi=>by simp at hi;rcases hi with rfl|hi;exact .inr (.inr ⟨Vu _,by simp⟩);exact .inl hi);rw[G.new_h,af _ _ _ (by omega)]
 ·simp only[bk,G.get_eq,a,aF,aa,show Nat.beq ep ep=true from Wm ep,show Nat.beq sz sz=true from Wm sz,WA,Wt,Vx,WE,Xg,XJ];rw[VC ⟨Vu _,hr⟩];cases new with
  | nil =>
   rw[VC (by simp)];refine k _ _ (.inr ⟨id,ep,lo,h1,h2,by simp,by simpa using a⟩) (Vu _) (λ_ _ _=>rfl) (.inl rfl) (λi hi=>.inl hi)
  | cons r new =>
   rw[Vz (by simp)];have ht:iJ rows.length (iz 0 rows)=rows:=by rw[bj,bp];simp
   cases lo with
   | false =>
    rw[VC (by simp)];refine k _ _ (.inr ⟨g.nx,0,true,by omega,by simp,by simp,by simp[aJ,ht]⟩) (by simp) (λi hi _=>?_) (.inr ⟨g.nx,rfl,Vu _⟩) (λi hi=>by simp at hi;rcases hi with rfl|hi;exact .inr (.inr ⟨Vu _,by simp⟩);exact .inl hi);rw[G.new_h,af _ _ _ (by omega)]
   | true =>
    rw[Vz (by simp)];refine k _ _ (.inr ⟨id,ep+1,true,h1,by simpa using h2,by simp,by simp[aJ,ht]⟩) (by simp) (λi hi hne=>?_) (.inl rfl) (λi hi=>by simp at hi;rcases hi with rfl|hi;exact .inr (.inl rfl);exact .inl hi);rw[G.put_h,af _ _ _ (λe=>hne (by rw[e];rfl))]
theorem GD{b sz:Nat}{v:AV}{rows:List (List AV)}(h:Own g b v sz rows):∀i∈aw v,vid v=some i:=by
 rcases h with⟨rfl,-⟩|⟨id,ep,lo,h1,h2,rfl,k⟩
 ·intro i hi;simp[GP]at hi
 ·intro i hi;rw[rE,VY]at hi;rw[hi];rfl
structure Fx (A:Nat->Prop) (g g':G):Prop where
 nx:g.nx<=g'.nx
 fr:∀j,j<g.nx->¬A j->g'.h.get j=g.h.get j
 lg:∀j∈g'.lg,j∈g.lg\/A j\/g.nx<=j
theorem Fx.refl(A:Nat->Prop)(g:G):Fx A g g:=⟨Vu _,λ_ _ _=>rfl,λ_ h=>.inl h⟩
theorem Fx.trans{g1 g2:G}(h:Fx A g g1)(h':Fx A g1 g2):Fx A g g2 :=
 ⟨VR h.nx h'.nx,λj hj hn=>by rw[h'.fr j (VL hj h.nx) hn,h.fr j hj hn],λj hj=>by
  rcases h'.lg j hj with a|a|a
  ·exact h.lg j a
  ·exact .inr (.inl a)
  ·exact .inr (.inr (VR h.nx a))⟩
theorem Fx.new(A:Nat->Prop)(g:G)(o:AObj):Fx A g (g.new o) :=
 ⟨by simp,λj hj _=>by rw[G.new_h,af _ _ _ (by omega)],λj hj=>by simp at hj;rcases hj with rfl|hj;exact .inr (.inr (Vu _));exact .inl hj⟩
theorem Fx.put{A:Nat->Prop}{g g1:G}{i:Nat}(h:Fx A g g1)(hi:A i\/g.nx<=i)(o:AObj):Fx A g (g1.put i o) :=
 ⟨by simpa using h.nx,λj hj hn=>by
  have:¬j=i:=λe=>by subst e;rcases hi with hi|hi;exact hn hi;omega
  rw[G.put_h,af _ _ _ this,h.fr j hj hn],λj hj=>by
  simp at hj;rcases hj with rfl|hj
  ·exact .inr hi
  ·exact h.lg j hj⟩
theorem Fx.mono{B:Nat->Prop}(h:Fx A g g')(hab:∀i,A i->i<g.nx->B i):Fx B g g':=⟨h.nx,λj hj hn=>h.fr j hj λa=>hn (hab j a hj),λj hj=>(h.lg j hj).imp id λa=>by
 by_cases hlt:j<g.nx
 ·rcases a with a|a
  ·exact .inl (hab j a hlt)
  ·omega
 ·exact .inr (by omega)⟩
theorem Fx.same{g0:G}(h:Fx A g0 g)(hh:g'.h=g.h)(hn:g.nx<=g'.nx)(hl:∀j∈g'.lg,j∈g.lg\/j∈g0.lg):Fx A g0 g' :=
 ⟨VR h.nx hn,λj hj hne=>by rw[hh];exact h.fr j hj hne,λj hj=>by
  rcases hl j hj with h2|h2
  ·exact h.lg j h2
  ·exact .inl h2⟩
theorem LO(hd:0<d)(hg:0<=gr/\gr<=60)(hm:m<=8):am C0 d 30 [ZJ gr,ZJ (m:Int)] g=.val (ZJ (S.Ty (List.replicate m gr))):=by
 rw[xO];refine eE AL (xs:=[ZJ gr,ZJ (m:Int)]) (by simp only[aG,bS 0]) (by simp[pf]) hd ?_;simp only[sz,simprocAttr,pf,qq];refine bD (m:=m) (by omega) (λj t df g=>df=[]/\St t [(0,ZJ gr),(5,ZJ (S.Ty (List.replicate j gr)))]) ⟨rfl,by simp[St,sx,S.Ty]⟩ (by simp[sx]) (by simp[sx]) (by decide)
  (by rintro j t df g v s (rfl|rfl|rfl)<;>simp[sx,St]) ?_ ?_
 ·rintro j t df g a ⟨rfl,h0,h5,-⟩ h7 h;have e1:S.Ty (List.replicate (j+1) gr)=S.Ty (List.replicate j gr)*gr:=by rw[List.replicate_succ',iH]
  have b1:=jf (l:=List.replicate (j+1) gr) λx hx=>by rw[List.eq_of_mem_replicate hx];exact hg
  have b2:=JZ (k:=j+1) (by omega);rw[List.length_replicate,e1]at b1;have w1:IntKind.wrap .i64 (S.Ty (List.replicate j gr)*gr)=S.Ty (List.replicate j gr)*gr:=ap (by omega) (by omega);simp only[sz,simprocAttr,h0,h5,w1];simp[St,sx,h0,h,h7,e1]
 ·rintro t df g ⟨rfl,h0,h5,-⟩;simp only[sz,simprocAttr,qr,h5]
end
def S.T5(l:List Sp)(n j:Nat):List Bool:=(List.range n).map λv:Nat=>S.Uc l j (v:Int)
def S.TW(l:List Sp)(j:Nat):List Bool:=(List.range l.length).map λe:Nat=>S.TQ l j (e:Int)
theorem xr(l:List Sp)(j:Nat)(e:Int):S.TQ l (j+1) e=(S.TQ l j e || (decide ((S.sp l j).1 = -1)&&(decide ((S.sp l j).2.1=e) || decide ((S.sp l j).2.2=e)))):=by simp[S.TQ,WC,List.any_append]
theorem tK(l:List Sp)(j:Nat)(v:Int):S.Uc l (j+1) v=(S.Uc l j v || decide ((S.sp l j).1=v)):=by simp[S.Uc,WC,List.any_append]
theorem t_(l:List Sp)(n j:Nat):(S.T5 l n j).length=n:=by simp[S.T5]
theorem ma(l:List Sp)(j:Nat):(S.TW l j).length=l.length:=by simp[S.TW]
theorem Eo{n v:Nat}(h:v<n):(S.T5 l n j)[v]?=some (S.Uc l j (v:Int)):=by simp[S.T5,h]
theorem zY{e:Nat}(h:e<l.length):(S.TW l j)[e]?=some (S.TQ l j (e:Int)):=by simp[S.TW,h]
theorem O9(h:¬(S.sp l j).1 = -1):S.TW l (j+1)=S.TW l j:=by refine WI λe _=>?_;rw[xr];simp[h]
theorem NF{n:Nat}(h:(S.sp l j).1 = -1):S.T5 l n (j+1)=S.T5 l n j:=by
 refine WI λe _=>?_;rw[tK,h];have:¬(-1:Int)=(e:Int):=by omega
 simp[this]
theorem NG{n v:Nat}(hv:v<n)(h:(S.sp l j).1=(v:Int)):S.T5 l n (j+1)=(S.T5 l n j).set v true:=by
 apply Xm;intro i;rw[Wi]
 by_cases c:i<n
 ·rw[Eo c,Eo c,tK,h,t_]
  by_cases e:v=i
  ·subst e;simp[c]
  ·have:¬(v:Int)=(i:Int):=by omega
   simp[e,this]
 ·rw[Wx (by rw[t_];omega),Wx (by rw[t_];omega)];have:¬v=i:=by omega
  simp[this]
theorem O8{b c:Nat}(hb:b<l.length)(hc:c<l.length)(h:(S.sp l j).1 = -1)(h1:(S.sp l j).2.1=(b:Int))(h2:(S.sp l j).2.2=(c:Int)):S.TW l (j+1)=((S.TW l j).set b true).set c true:=by
 apply Xm;intro i;rw[Wi,Wi,XH,ma]
 by_cases e:i<l.length
 ·rw[zY e,zY e,xr,h,h1,h2]
  by_cases e1:c=i
  ·subst e1;simp[e]
  ·by_cases e2:b=i
   ·subst e2;simp[e,e1]
   ·have n1:¬(b:Int)=(i:Int):=by omega
    have n2:¬(c:Int)=(i:Int):=by omega
    simp[e1,e2,n1,n2]
 ·rw[Wx (by rw[ma];omega),Wx (by rw[ma];omega)];have n1:¬c=i:=by omega
  have n2:¬b=i:=by omega
  simp[n1,n2]
theorem K_{n:Nat}:false ∉ S.T5 l n j↔((List.range n).all λv:Nat=>S.Uc l j (v:Int))=true:=by simp[S.T5]
theorem LL(hm:m<=l.length):false ∉ (S.TW l l.length).take m↔((List.range m).all λe:Nat=>S.TQ l l.length (e:Int))=true:=by rw[S.TW,<-Yy,List.take_range,WX hm];simp
theorem Il(l:List Bool)(i:Nat):(l.map cb).set i (cb true)=(l.set i true).map cb:=by rw[Xa]
def S.Ub(n:Net)(l:List Sp):Int:=if S.T3 n then (if S.ck l n.nodes.length then 0 else 130) else 50
theorem IR(n:Int)(h:-1000<=n/\n<=1000):IntKind.wrap .i64 (IntKind.wrap .i64 (2*n) - 1)=2*n - 1:=by rw[ap (x:=2*n) (by omega) (by omega),ap (by omega) (by omega)]
theorem KI{v w:AV}{n:Net}(hd:0<d)(hm:Agg n NoP 0 g.h v)(hl:SlR P k g.h l w):am C0 d 20 [v,w] g=.val (ZJ (S.Ub n l)):=by
 obtain⟨b,rows,rfl,e1,h3,hN,-⟩:=dZ d hm;obtain⟨w',e2,O⟩:=bm hl d;have wl:∀g,dH .slice w' g=.val (ZJ (l.length:Int)):=λg=>(O .nil).len g;have ws:=λh=>(O h).sps;have M:=hl.1;rw[sP];refine eE ve (xs:=[.agg [ZJ n.grain,b],w']) (by simp only[aG,e1,e2]) (by simp[iP]) hd ?_;simp only[sz,simprocAttr,iP];obtain⟨g0,hg0⟩:∃g0,g0=G.empty.new (Y6 2 [[ZJ n.grain,b]]):=⟨_,rfl⟩;rw[<-hg0];have f0:g0.h.get 0=Y6 2 [[ZJ n.grain,b]]:=by rw[hg0];simp[sx]
 have n0:g0.nx=1:=by rw[hg0];simp[sx]
 clear hg0;have ld:be (Y6 2 [[ZJ n.grain,b]]) 0 0 true 2 0=.val (.agg [ZJ n.grain,b]):=rfl;have nc:=Lg (d:=d+1) (g:=g0) (VI d) (n:=n) (h3 _);have nl:=λg=>hN.len g;simp only[lK]
 by_cases c0:S.T3 n=true
 rotate_left
 ·have hs:S.Ub n l=50:=by rw[S.Ub,Vz c0]
  rw[Vz c0]at nc;simp only[sz,simprocAttr,f0,ld,nc,hs]
 rw[VC c0]at nc;have hr:=jR.1 c0;have h5:=hr.l1;have hl2:=hr.l2;have w2:=IR (n.nodes.length:Int) (by omega);have hs:S.Ub n l=if S.ck l n.nodes.length then 0 else 130:=by rw[S.Ub,VC c0]
 by_cases c1:(l.length:Int)=2*(n.nodes.length:Int) - 1
 rotate_left
 ·have hs:S.Ub n l=130:=by rw[hs,Vz];simp[S.ck,c1]
  simp only[sz,simprocAttr,f0,ld,nc,nl,wl,w2,c1,hs]
 have V:decide ((l.length:Int)=2*(n.nodes.length:Int) - 1)=true:=Wz c1;have bad:∀i,i<l.length->S.Um l n.nodes.length i=false->S.Ub n l=130:=λi hi h=>by rw[hs,Vz];intro hc;simp only[S.ck,Vx,VQ,VM]at hc;have:=hc.1.1.2 i hi;rw[h]at this;cases this
 refine bB (P:=λt' df g'=>df=[]/\g'=g0/\St t' [(1,w'),(2,ZK 0)]) ?_ ?_
 ·simp only[sz,simprocAttr,f0,ld,nc];simp[St,sx]
 rintro t df g1 ⟨rfl,rfl,h1,h2,-⟩;refine bB (P:=λt' df g'=>df=[]/\g'=g1/\St t' [(1,w'),(6,ZJ (n.nodes.length:Int))]) ?_ ?_
 ·simp only[sz,simprocAttr,h1,h2,f0,nl];simp[St,sx,h1]
 rintro t df g2 ⟨rfl,rfl,h1,z,-⟩;refine bB (P:=λt' df g'=>df=[]/\g'=g2/\St t' [(1,w'),(6,ZJ (n.nodes.length:Int))]) ?_ ?_
 ·simp only[sz,simprocAttr,h1,z,wl,w2,c1];simp[St,sx,h1,z]
 rintro t df g3 ⟨rfl,rfl,h1,z,-⟩;refine bB (P:=λt' df g'=>df=[]/\∃lv us,St t' [(1,w'),(6,ZJ (n.nodes.length:Int)),(7,lv),(8,us)]/\Own g' 0 lv 1 ((List.replicate n.nodes.length false).map cb)/\Own g' 0 us 1 ((List.replicate l.length false).map cb)/\∃iL iU,vid lv=some iL/\vid us=some iU/\iL≠iU) ?_ ?_
 ·simp only[sz,simprocAttr,sf,z];refine kK (b:=0) (bytes:=1) (n:=n.nodes.length) (by unfold aT;omega) (by unfold aT;omega) (Wp _) λcv g4 hcv n2 fr2 v2 lg2=>?_;simp only[sy]at n2 fr2 v2 lg2;simp only[sz,simprocAttr,sf,h1,z,wl,lg2];refine kK (b:=0) (bytes:=1) (n:=l.length) (by unfold aT;omega) (by unfold aT;omega) (Wp _) λsv g5 hsv n3 fr3 v3 lg3=>?_;simp only[sy]at n3 fr3 v3 lg3;simp only[sz,simprocAttr,sf,lg3,hcv.cell.1,hcv.cell.2,hsv.cell.1,hsv.cell.2];refine⟨?_,cv,sv,?_,?_,?_,_,_,v2,v3,by omega⟩
  ·simp only[VJ,VN,VH,VE,G.new_lg,G.put_lg,setLog_lg];refine aA (false::(true::(Zn (true::(Zn []))))) [(1,2),(1,3),(0,4),(1,4),(4,5)] (by simp[All2,ah,ay]) (by decide) ?_;rintro p hp x y hx Q;simp only[VP,VG,Xh]at hp;rcases hp with rfl|rfl|rfl|rfl|rfl<;>(simp at hx Q;subst hx;subst Q;refine bI rfl rfl rfl rfl ?_ ?_ ?_<;>simp[ah,ay,aw]<;>omega)
  ·simp[St,sx,h1,z]
  ·have:Own g4 0 cv 1 ((List.replicate n.nodes.length false).map cb):=by simpa [cb] using hcv
   exact this.fr (by first| (simp;done)| (simp;omega)) λi hi=>by have:=gg v2 hi;have:=fr3 i (by omega);simpa using this
  ·have:Own g5 0 sv 1 ((List.replicate l.length false).map cb):=by simpa [cb] using hsv
   exact this.fr (by first| (simp;done)| (simp;omega)) λi hi=>by simp
 rintro t df g ⟨rfl,lv,us,⟨h1,z,h7,h8,-⟩,oL,oU,iL,iU,vL,vU,N⟩;have e3:List.replicate n.nodes.length false=S.T5 l n.nodes.length 0:=(List.eq_replicate_iff.2 ⟨t_ _ _ _,λb hb=>by simp[S.T5,S.Uc]at hb;exact hb.2⟩).symm;have e4:List.replicate l.length false=S.TW l 0:=(List.eq_replicate_iff.2 ⟨ma _ _,λb hb=>by simp[S.TW,S.TQ]at hb;exact hb.2⟩).symm;rw[e3]at oL;rw[e4]at oU;clear e3 e4 f0 n0 nc;simp only[sz,simprocAttr,h1,wl,j9];refine bD (m:=l.length) M (λj t df g=>df=[]/\St t [(1,w'),(30,w'),(6,ZJ (n.nodes.length:Int)),(7,lv),(8,us)]/\Own g 0 lv 1 ((S.T5 l n.nodes.length j).map cb)/\Own g 0 us 1 ((S.TW l j).map cb)/\∀i,i<j->S.Um l n.nodes.length i=true)
  ⟨rfl,by simp[St,sx,h1,z,h7,h8],oL,oU,λi hi=>by omega⟩ (by simp[sx]) (by simp[sx]) (by decide) (by rintro j t df g v s (rfl|rfl|rfl)<;>simp[sx,St]) ?_ ?_
 ·clear h1 z h7 h8 oL oU;rintro j t df g Z ⟨rfl,⟨h1,q,z,h7,h8,-⟩,oL,oU,I⟩ r L;obtain⟨x,hx,-,-⟩:=ae Z;have u:S.sp l j=x:=by rw[S.sp,hx];rfl
  have H:j<(l.map cs3).length:=by simpa using Z
  have E:(l.map cs3)[j]?=some (cs3 x):=by rw[Vw,hx];rfl
  obtain⟨a,b,c⟩:=x;have u3:cs3 (a,b,c)=[ZJ a,ZJ b,ZJ c]:=rfl;rw[u3]at E;have o:=λh=>bad j Z h;unfold S.Um S.Uq S.TO at o;rw[u]at o;dsimp only at o
  by_cases ca:a = -1
  ·subst ca;rw[VC rfl]at o
   by_cases c1:b<0
   ·have:=o (by have:¬0<=b:=by omega
                simp[this])
    simp only[sz,simprocAttr,q,r,ws,H,E,c1,this]
   by_cases c2:(j:Int)<=b
   ·have:=o (by have:¬b<(j:Int):=by omega
                simp[this])
    simp only[sz,simprocAttr,q,r,ws,H,E,c1,c2,this]
   by_cases c3:c<0
   ·have:=o (by have:¬0<=c:=by omega
                simp[this])
    simp only[sz,simprocAttr,q,r,ws,H,E,c1,c2,c3,this]
   by_cases c4:(j:Int)<=c
   ·have:=o (by have:¬c<(j:Int):=by omega
                simp[this])
    simp only[sz,simprocAttr,q,r,ws,H,E,c1,c2,c3,c4,this]
   by_cases c5:b=c
   ·have:=o (by simp[c5]);simp only[sz,simprocAttr,q,r,ws,H,E,c1,c2,c3,c4,c5,this]
   obtain⟨B,rfl⟩:=Vy (show 0<=b by omega);obtain⟨C,rfl⟩:=Vy (show 0<=c by omega);have W:B<l.length:=by omega
   have hC:C<l.length:=by omega
   have r1:=λ(g':G) (f:∀i,i<g.nx->g'.h.get i=g.h.get i) (hn:g.nx<=g'.nx)=>(oU.fr hn λi hi=>f i (oU.lt hi).2).rows;have K:B<((S.TW l j).map cb).length:=by simpa [ma] using W
   have D:((S.TW l j).map cb)[B]?=some (cb (S.TQ l j (B:Int))):=by rw[Vw,zY W];rfl
   have z3:C<((S.TW l j).map cb).length:=by simpa [ma] using hC
   have R:((S.TW l j).map cb)[C]?=some (cb (S.TQ l j (C:Int))):=by rw[Vw,zY hC];rfl
   have X:=λi (hi:vid us=some i)=>(oU.lt hi).2;have h4:∀g':G,g.nx<=g'.nx->(∀i,i<g.nx->g'.h.get i=g.h.get i)->ak g'.h 1 us=some ((S.TW l j).map cb):=λg' hn f=>(oU.fr hn λi hi=>f i (X i hi)).rows;simp only[sz,simprocAttr,q,r,ws,H,E,c1,c2,c3,c4,c5];obtain⟨g',hg'⟩:∃g',g'=((g.new (Y6 3 [[AV.int IntKind.i64 0,AV.int IntKind.i64 0,AV.int IntKind.i64 0]])).put g.nx (Y6 3 [[AV.int IntKind.i64 (-1),AV.int IntKind.i64 (B:Int),AV.int IntKind.i64 (C:Int)]])):=⟨_,rfl⟩;rw[<-hg'];have kq:g'.h.get g.nx=Y6 3 [[ZJ (-1),ZJ (B:Int),ZJ (C:Int)]]:=by rw[hg'];simp[TA]
   have kn:g'.nx=g.nx+1:=by rw[hg'];simp
   have kf:∀i,i<g.nx->g'.h.get i=g.h.get i:=λi hi=>by rw[hg'];simp[TA,show ¬i=g.nx by omega]
   have oU':Own g' 0 us 1 ((S.TW l j).map cb):=oU.fr (by omega) λi hi=>kf i (oU.lt hi).2;have oL':Own g' 0 lv 1 ((S.T5 l n.nodes.length j).map cb):=oL.fr (by omega) λi hi=>kf i (oL.lt hi).2;have hq:¬vid us=some g.nx:=λh=>by have:=(oU.lt h).2;omega
   have h9:¬vid lv=some g.nx:=λh=>by have:=(oL.lt h).2;omega
   clear hg' kf oU oL;cases cB:S.TQ l j (B:Int) with
   | true =>
    have:=o (by simp[cB]);rw[cB]at D;simp only[sz,simprocAttr,h8,oU'.rows,K,D,cb,this]
   | false =>
    cases cC:S.TQ l j (C:Int) with
    | true =>
     have:=o (by simp[cC]);rw[cB]at D;rw[cC]at R;simp only[sz,simprocAttr,h8,oU'.rows,K,D,z3,R,cb,kq,this]
    | false =>
     rw[cB]at D;rw[cC]at R;have F:∀i,i<j+1->S.Um l n.nodes.length i=true:=λi hi=>by
      by_cases e:i=j
      ·subst e;rw[S.Um,S.Uq,u];have d1:(B:Int)<(i:Int):=by omega
       have d2:(C:Int)<(i:Int):=by omega
       simp[cB,cC,d1,d2,c5]
      ·exact I i (by omega)
     have J:S.TW l (j+1)=((S.TW l j).set B true).set C true:=O8 W hC (by rw[u]) (by rw[u]) (by rw[u]);have hl2:S.T5 l n.nodes.length (j+1)=S.T5 l n.nodes.length j:=NF (by rw[u]);simp only[sz,simprocAttr,sf,h8,oU'.rows,K,D,z3,R,cb,kq];refine rJ (v:=us) (sz:=1) (n:=1) (i:=B) (off:=0) (x:=.bool true) (row:=cb false) (row':=cb true) (oU'.fr (by first| (simp;done)| (simp;omega)) λi _=>by simp) D rfl rfl rfl λg2 o2 n2 f2 p2=>?_;have k2:g2.h.get g.nx=Y6 3 [[ZJ (-1),ZJ (B:Int),ZJ (C:Int)]]:=by rw[f2 _ hq];simpa using kq
     simp only[sy]at n2;have z5:C<(((S.TW l j).map cb).set B (cb true)).length:=by simpa using z3
     have z6:(((S.TW l j).map cb).set B (cb true))[C]?=some (cb false):=by rw[W0 (by omega)];exact R
     simp only[sz,simprocAttr,sf,h8,k2,o2.rows,z5];refine rJ (v:=us) (sz:=1) (n:=1) (i:=C) (off:=0) (x:=.bool true) (row:=cb false) (row':=cb true) (o2.fr (by first| (simp;done)| (simp;omega)) λi _=>by simp) z6 rfl rfl rfl λg3 o3 n3 f3 p3=>?_;simp only[sy]at n3;simp only[sz,simprocAttr,sf];refine⟨?_,⟨?_,?_,?_,F⟩,?_⟩
     ·simp only[VJ,VN,VH,VE,G.new_lg,G.put_lg,setLog_lg];refine aA (false::(Zn (Zm (true::(false::(true::[])))))) [(3,7),(4,7),(5,7)] (by simp[All2,ah,ay]) (by decide) ?_;rintro p hp x y hx Q;simp only[VP,VG,Xh]at hp;have hw:∀i∈g2.lg,¬i=g.nx:=λi hi e=>by
       rcases p2 i hi with h|h
       ·simp at h
       ·exact hq (by rw[h,e])
      rcases hp with rfl|rfl|rfl<;>(simp at hx Q;subst hx;subst Q;refine bI rfl rfl rfl rfl ?_ ?_ ?_<;>simp[ah,ay,aw]<;>exact hw)
     ·simp[St,sx,h1,q,z,h7,h8]
     ·rw[hl2];refine oL'.fr (by first| (simp;done)| (simp;omega)) λi hi=>?_;have d1:¬vid us=some i:=λe=>N (by rw[gg vL hi,gg vU e]);have e1:=f3 i d1;have e2:=f2 i d1;simp at e1 e2;simp[e1,e2]
     ·rw[J,<-Il,<-Il];exact o3.fr (by first| (simp;done)| (simp;omega)) λi _=>by simp
     ·simp[sx,L,r]
  ·rw[Vz ca]at o
   by_cases c1:a<0
   ·have:=o (by have:¬0<=a:=by omega
                simp[this])
    simp only[sz,simprocAttr,q,r,ws,H,E,ca,c1,this]
   by_cases c2:(n.nodes.length:Int)<=a
   ·have:=o (by have:¬a<(n.nodes.length:Int):=by omega
                simp[this])
    simp only[sz,simprocAttr,q,r,z,ws,H,E,ca,c1,c2,this]
   by_cases c3:b = -1
   rotate_left
   ·have:=o (by simp[c3]);simp only[sz,simprocAttr,q,r,z,ws,H,E,ca,c1,c2,c3,this]
   by_cases c4:c = -1
   rotate_left
   ·have:=o (by simp[c4]);simp only[sz,simprocAttr,q,r,z,ws,H,E,ca,c1,c2,c3,c4,this]
   obtain⟨A,rfl⟩:=Vy (show 0<=a by omega);have T:A<n.nodes.length:=by omega
   subst c3 c4;have K:A<((S.T5 l n.nodes.length j).map cb).length:=by simpa [t_] using T
   have D:((S.T5 l n.nodes.length j).map cb)[A]?=some (cb (S.Uc l j (A:Int))):=by rw[Vw,Eo T];rfl
   simp only[sz,simprocAttr,q,r,z,ws,H,E,ca,c1,c2];obtain⟨g',hg'⟩:∃g',g'=((g.new (Y6 3 [[AV.int IntKind.i64 0,AV.int IntKind.i64 0,AV.int IntKind.i64 0]])).put g.nx (Y6 3 [[AV.int IntKind.i64 (A:Int),AV.int IntKind.i64 (-1),AV.int IntKind.i64 (-1)]])):=⟨_,rfl⟩;rw[<-hg'];have kq:g'.h.get g.nx=Y6 3 [[ZJ (A:Int),ZJ (-1),ZJ (-1)]]:=by rw[hg'];simp[TA]
   have kn:g'.nx=g.nx+1:=by rw[hg'];simp
   have kf:∀i,i<g.nx->g'.h.get i=g.h.get i:=λi hi=>by rw[hg'];simp[TA,show ¬i=g.nx by omega]
   have oU':Own g' 0 us 1 ((S.TW l j).map cb):=oU.fr (by omega) λi hi=>kf i (oU.lt hi).2;have oL':Own g' 0 lv 1 ((S.T5 l n.nodes.length j).map cb):=oL.fr (by omega) λi hi=>kf i (oL.lt hi).2;clear hg' kf oU oL;cases cA:S.Uc l j (A:Int) with
   | true =>
    have:=o (by simp[cA]);rw[cA]at D;simp only[sz,simprocAttr,h7,oL'.rows,K,D,cb,kq,this]
   | false =>
    rw[cA]at D;have F:∀i,i<j+1->S.Um l n.nodes.length i=true:=λi hi=>by
     by_cases e:i=j
     ·subst e;rw[S.Um,S.TO,u];simp[ca,cA,T]
     ·exact I i (by omega)
    have J:S.TW l (j+1)=S.TW l j:=O9 (by rw[u];exact ca);have hl2:S.T5 l n.nodes.length (j+1)=(S.T5 l n.nodes.length j).set A true:=NG T (by rw[u]);simp only[sz,simprocAttr,h7,oL'.rows,K,D,cb,kq];refine bK (v:=lv) (sz:=1) (n:=1) (i:=A) (off:=0) (x:=.bool true) (row:=cb false) (row':=cb true) oL' D rfl rfl rfl λg3 o3 n3 f3=>?_;simp only[sz,simprocAttr];refine⟨⟨?_,?_,?_,F⟩,?_⟩
    ·simp[St,sx,h1,q,z,h7,h8]
    ·rw[hl2,<-Il];exact o3
    ·rw[J];exact oU'.fr (by omega) λi hi=>f3 i λe=>N (by rw[gg vL e,gg vU hi])
    ·simp[sx,L,r]
 ·clear h1 z h7 h8 oL oU;rintro t df g ⟨rfl,⟨h1,q,z,h7,h8,-⟩,oL,oU,I⟩;have sL:=oL.bools (by rw[t_];omega);have sU:=oU.bools (by rw[ma];omega);have q1:=wg (d:=d+1) (g:=g) (VI d) sL;obtain⟨y,U,-,y2⟩:=zW (α:=Bool) oU (n:=l.length - 1) (by intro e;have h0:((S.TW l l.length).map cb).length=0:=(by rw[e];rfl);rw[VF,ma]at h0;omega) (by simp[ma]);have sU2:=y2 _ _ _ g.h (λi _=>rfl) sU;have q2:=wg (d:=d+1) (g:=g) (VI d) sU2;have e5:IntKind.wrap .i64 ((l.length:Int) - 1)=((l.length - 1:Nat):Int):=by rw[ap (by omega) (by omega)];omega
  have U:tR 1 us none (some (ZJ ((l.length - 1:Nat):Int))) g=.val y:=U;have Y:S.ck l n.nodes.length=(decide (false ∉ S.T5 l n.nodes.length l.length)&&decide (false ∉ (S.TW l l.length).take (l.length - 1))):=by
   have a1:(List.range l.length).all (S.Um l n.nodes.length)=true:=by rw[VQ];exact λi hi=>I i (VM.1 hi)
   rw[S.ck,V,a1];have b1:decide (false ∉ S.T5 l n.nodes.length l.length)=(List.range n.nodes.length).all λv:Nat=>S.Uc l l.length (v:Int):=WU.2 (by rw[VK];exact K_);have b2:decide (false ∉ (S.TW l l.length).take (l.length - 1))=(List.range (l.length - 1)).all λe:Nat=>S.TQ l l.length (e:Int):=WU.2 (by rw[VK];exact LL (Nat.sub_le _ _));rw[b1,b2,WA,WA]
  rw[Y]at hs
  by_cases d1:false∈S.T5 l n.nodes.length l.length
  ·have hs:S.Ub n l=130:=by rw[hs];simp[d1]
   simp only[sz,simprocAttr,du,h7,q,q1,d1,hs]
  ·by_cases d2:false∈(S.TW l l.length).take (l.length - 1)
   ·have hs:S.Ub n l=130:=by rw[hs];simp[d1,d2]
    simp only[sz,simprocAttr,du,h7,h8,h1,wl,e5,U,q1,q2,XV,XF,d1,d2,hs]
   ·have hs:S.Ub n l=0:=by rw[hs];simp[d1,d2]
    simp only[sz,simprocAttr,du,h7,h8,h1,wl,e5,U,q1,q2,XV,XF,d1,d2,hs]
def cbr(x:Br):List AV:=[ZJ x.1,ZL (x.2:Int)]
theorem Own.sat_len{b sz:Nat}{v:AV}{rows:List (List AV)}(h:Own g b v sz rows)(g':G):dH .slice v g'=.val (ZJ (rows.length:Int)):=by rcases h with⟨rfl,rfl⟩|⟨id,ep,lo,h1,h2,rfl,k⟩<;>rfl
theorem IS(s v:Nat):decide (((s / 2 ^ v &&& 1:Nat):Int)=1)=s.testBit v:=by rw[Nat.testBit,Nat.shiftRight_eq_div_pow,Nat.and_comm];apply WU.2;rw[VK,bne_iff_ne,Nat.one_and_eq_mod_two];omega
section
variable {l:List Int}
def ck9(k:Key):AV:=.agg (ZJ k.1::k.2.map λx=>ZJ x)
def uC(L:Mem):List (AV×AV):=L.map λp=>(ck9 p.1,ZJ p.2)
def srO(gr size c:Int)(b lv vv cv xv:AV)(pm:Nat):AObj:=Y6 9 [[ZJ gr,b,lv,vv,cv,xv,.hmap pm,ZJ size,ZJ c]]
structure Srs (n:Net) (l:List Sp) (cut ctx:List Nat) (b lv:AV) (pq pv pm pc px:Nat):Prop where
 nr:NR n
 nb:SlR NoP 0 .nil n.nodes b
 sl:SlR NoP 0 .nil l lv
 cl:cut.length=l.length
 xl:ctx.length=l.length
 ll:l.length<=15
 cb:∀x∈cut,x<2 ^ n.nodes.length
 xb:∀x∈ctx,x<2 ^ n.nodes.length
 d1:pv≠pq/\pm≠pq/\pc≠pq/\px≠pq
 d2:pm≠pv/\pc≠pv/\px≠pv
 d3:pc≠pm/\px≠pm
structure Srh (n:Net) (cut ctx:List Nat) (size:Int) (b lv:AV) (pq pv pm pc px:Nat) (st:MSt) (g:G):Prop where
 q:g.h.get pq=srO n.grain size st.2 b lv (.hsl pv 0 0 n.nodes.length none) (.hsl pc 0 0 cut.length none) (.hsl px 0 0 ctx.length none) pm
 m:g.h.get pm=.map (uC st.1)
 c:g.h.get pc=Y6 1 (cut.map cu)
 x:g.h.get px=Y6 1 (ctx.map cu)
 nx:pq<g.nx/\pv<g.nx/\pm<g.nx/\pc<g.nx/\px<g.nx
def Vs(n:Net)(pv:Nat)(w:List Int)(g:G):Prop:=w.length=n.nodes.length/\∃lo,g.h.get pv=.cells 1 (w.map ci) 0 lo false
theorem Srh.fr{n:Net}{cut ctx:List Nat}{b:AV}{pc px:Nat}{st:MSt}(h:Srh n cut ctx size b lv pq pv pm pc px st g)(hn:g.nx<=g'.nx)(hf:∀i,i=pq\/i=pm\/i=pc\/i=px->g'.h.get i=g.h.get i):Srh n cut ctx size b lv pq pv pm pc px st g' :=
 ⟨by rw[hf _ (.inl rfl),h.q],by rw[hf _ (.inr (.inl rfl)),h.m],by rw[hf _ (.inr (.inr (.inl rfl))),h.c],by rw[hf _ (.inr (.inr (.inr rfl))),h.x],by have:=h.nx;omega⟩
theorem Vs.fr{n:Net}(h:Vs n pv w g)(hf:g'.h.get pv=g.h.get pv):Vs n pv w g':=⟨h.1,by rw[hf];exact h.2⟩
def zy(w:List Int)(s j:Nat):List Int:=(List.range 8).map λv=>if v<j then (if s.testBit v then w[v]?.getD 0 else -1) else 0
theorem Gd(w:List Int)(s j:Nat):(zy w s j).length=8:=by simp[zy]
theorem Nv(w:List Int)(s:Nat):zy w s 8=S.TU w s:=by refine WI λv hv=>?_;rw[VC (VM.1 hv)]
theorem Ge{s:Nat}(h:j<8):(zy w s j).set j (if s.testBit j then w[j]?.getD 0 else -1)=zy w s (j+1):=by
 refine YI (by simp[zy]) λi h1 h2=>?_;rw[List.getElem_set];simp only[zy,List.getElem_map,List.getElem_range]
 by_cases e:j=i
 ·subst e;simp
 ·have k:(i<j+1)=(i<j):=propext ⟨λ_=>by omega,λ_=>by omega⟩;simp only[e,if_false,k]
def kO9(i:Int)(l:List Int):AObj:=Y6 9 [ZJ i::l.map λx=>ZJ x]
theorem K9{i x:Int}(hj:j<l.length)(g:G)(id:Nat):ch (kO9 i l) g id 0 0 1 (1+j*1) (ZJ x)=.upd .undef (g.put id (kO9 i (l.set j x))):=by unfold kO9;rw[bf 9 _ 0 false g id 0 1 (1+j*1) (ZJ x) rfl rfl];simp only[VZ];rw[show (ZJ x).cells=[ZJ x] from rfl,eH (by simp;omega)];simp only[XL,Xa];rw[show 1+j*1=j+1 by omega,Yi]
theorem A5{i:Int}(hl:l.length=8):be (kO9 i l) 0 0 true 9 0=.val (ck9 (i,l)):=by
 unfold kO9;rw[nf,VZ];show orV (bP true 9 _ 0)=_;rw[GF (by simp[hl]),Xp,VX (by simp[hl])]
 rfl
theorem JH{i:Int}{k:Key}(h0:l.length=8)(hl:k.2.length=8)(g:G)(id:Nat):ch (kO9 i l) g id 0 0 9 0 (ck9 k)=.upd .undef (g.put id (kO9 k.1 k.2)):=by
 unfold kO9 ck9;rw[bf 9 _ 0 false g id 0 9 0 _ (by show (ZJ k.1::k.2.map λx=>ZJ x).length=9;simp[hl]) rfl,VZ];show (match bu _ 0 (ZJ k.1::k.2.map λx=>ZJ x) with|some row'=>OR.upd .undef (g.put id (Y6 9 _))|none=>.fail)=_;rw[w_ (by simp[h0,hl]) (by simp[hl])]
 rfl
theorem aI(id ep i off:Nat):Gp (.hptr id ep i off)=.val (.hptr id ep i off):=rfl
theorem gK{l:List Nat}(h:i<l.length):i<(l.map cu).length/\(l.map cu)[i]?=some (cu (l[i]?.getD 0)):=by refine⟨by simpa using h,?_⟩;rw[Vw,Vt h];rfl
theorem I9(h:i<l.length):i<(l.map ci).length/\(l.map ci)[i]?=some (ci (l[i]?.getD 0)):=by refine⟨by simpa using h,?_⟩;rw[Vw,Vt h];rfl
theorem cR{id sz:Nat}{rows:List (List AV)}{lo:Bool}(h:g.h.get id=.cells sz rows 0 lo false)(hm:m=rows.length):ak g.h sz (.hsl id 0 0 m none)=some rows:=by subst hm;exact Own.rows (g:=⟨g.h,id+1,g.lg⟩) (b:=0) (.inr ⟨id,0,lo,Wp _,YK _,rfl,h⟩)
theorem pu{x:Nat}(h:x<2 ^ m)(hm:m<=8):x<256:=VL h (by have:=V_ (n:=2) (by decide) hm;omega)
theorem OY{n:Net}{l:List Sp}{cut ctx:List Nat}{b:AV}{pc px:Nat}{st:MSt}{K:AV->G->Prop}{D:ADf->Prop}(hC:Srs n l cut ctx b lv pq pv pm pc px)(hS:Srh n cut ctx size b lv pq pv pm pc px st g)(hV:Vs n pv w g)(hi:i<l.length)
  (kk:∀g',Fx (λ_=>False) g g'->K (ck9 ((i:Int),S.TU w (ctx[i]?.getD 0))) g'):(am C0 d 58 [ZK pq,ZJ (i:Int)] g).sat K g D:=by
 obtain⟨H,lo,N⟩:=hV;have A:=hC.nr.l2;have e:i<ctx.length:=by rw[hC.xl];exact hi
 obtain⟨s,hs⟩:∃s,s=ctx[i]?.getD 0:=⟨_,rfl⟩;have r:s<2 ^ n.nodes.length:=by rw[hs,Vt e];exact hC.xb _ (Wy e)
 have F:=pu r A;obtain⟨n1,n2,-,-,O⟩:=hS.nx;have M:=hC.ll;rw[lV];refine fX nJ (by simp[dG]) ?_;simp only[dG];refine bB (P:=λt' df g'=>df=[]/\g'.nx=g.nx+1/\g'.h.get g.nx=kO9 0 [0,0,0,0,0,0,0,0]/\Fx (λ_=>False) g g'/\St t' [(0,ZK pq),(1,ZJ (i:Int)),(4,ZK g.nx)]) ?_ ?_
 ·simp only[sz,simprocAttr];exact⟨rfl,Fx.new _ _ _,by simp[St,sx]⟩
 rintro t df g1 ⟨rfl,a,k2,F1,h0,h1,h4,-⟩;simp only[fE];refine bB (P:=λt' df g'=>df=[]/\g'.nx=g.nx+2/\g'.h.get g.nx=kO9 0 [0,0,0,0,0,0,0,0]/\g'.h.get (g.nx+1)=kO9 (i:Int) (zy w s 0)/\Fx (λ_=>False) g g'/\St t' [(0,ZK pq),(1,ZJ (i:Int)),(4,ZK g.nx),(5,ZK (g.nx+1))]) ?_ ?_
 ·simp only[sz,simprocAttr,h1,a];exact⟨by simp[k2],rfl,(F1.trans (Fx.new _ _ _)).put (.inr (by omega)) _,by simp[St,sx,h0,h1,h4]⟩
 rintro t df g2 ⟨rfl,a,k2,c,F2,h0,h1,h4,h5,-⟩;refine bB (P:=λt' df g'=>df=[]/\g'.nx=g.nx+2/\g'.h.get g.nx=kO9 0 [0,0,0,0,0,0,0,0]/\g'.h.get (g.nx+1)=kO9 (i:Int) (zy w s 8)/\Fx (λ_=>False) g g'/\St t' [(4,ZK g.nx),(5,ZK (g.nx+1))]) ?_ ?_
 ·simp only[sz,simprocAttr,fe,fj];refine kU (m:=8) rfl (by omega) (λj t df g'=>df=[]/\g'.nx=g.nx+2/\g'.h.get g.nx=kO9 0 [0,0,0,0,0,0,0,0]/\g'.h.get (g.nx+1)=kO9 (i:Int) (zy w s j)/\Fx (λ_=>False) g g'/\St t [(0,ZK pq),(1,ZJ (i:Int)),(4,ZK g.nx),(5,ZK (g.nx+1))])
   ⟨rfl,a,k2,c,F2,by simp[St,sx,h0,h1,h4,h5]⟩ (by simp[sx]) (by decide) (by rintro j t df g v s (rfl|rfl|rfl)<;>simp[sx,St]) ?_ ?_
  ·clear h0 h1 h4 h5 a k2 c F2 F1;rintro j t df g3 z ⟨rfl,a,k2,c,F3,h0,h1,h4,h5,-⟩ h9;have eq:g3.h.get pq=srO n.grain size st.2 b lv (.hsl pv 0 0 n.nodes.length none) (.hsl pc 0 0 cut.length none) (.hsl px 0 0 ctx.length none) pm:=by rw[F3.fr pq n1 id,hS.q]
   have ex:g3.h.get px=Y6 1 (ctx.map cu):=by rw[F3.fr px O id,hS.x]
   have ev:g3.h.get pv=.cells 1 (w.map ci) 0 lo false:=by rw[F3.fr pv n2 id,N]
   obtain⟨J,I⟩:=gK e;rw[<-hs]at I;have ka:No 8 1 (.hptr (g.nx+1) 0 0 1) (ZJ (j:Int))=.val (.hptr (g.nx+1) 0 0 (1+j*1)):=JB 8 1 (g.nx+1) 0 0 1 .i64 z;have st1:=λ(g':G) (l:List Int) (x:Int) (hl:l.length=8)=>K9 (i:=(i:Int)) (x:=x) (l:=l) (j:=j) (by omega) g' (g.nx+1);refine bB (P:=λt' df g'=>df=[]/\g'=g3/\St t' [(0,ZK pq),(1,ZJ (i:Int)),(4,ZK g.nx),(5,ZK (g.nx+1)),(6,ZJ (j:Int)),(9,ZJ (j:Int))]) ?_ ?_
   ·simp only[sz,simprocAttr,h9];simp[St,sx,h0,h1,h4,h5,h9]
   rintro t df y ⟨rfl,rfl,h0,h1,h4,h5,o,h9,-⟩;refine bB (P:=λt' df g'=>df=[]/\g'.nx=g.nx+2/\g'.h.get g.nx=kO9 0 [0,0,0,0,0,0,0,0]/\g'.h.get (g.nx+1)=kO9 (i:Int) ((zy w s j).set j (-1))/\g'.h.get pq=y.h.get pq/\g'.h.get px=y.h.get px/\g'.h.get pv=y.h.get pv/\Fx (λ_=>False) g g'/\St t' [(0,ZK pq),(1,ZJ (i:Int)),(4,ZK g.nx),(5,ZK (g.nx+1)),(6,ZJ (j:Int)),(9,ZJ (j:Int))]) ?_ ?_
   ·simp only[sz,simprocAttr,h5,o,ka,c,st1 _ _ _ (Gd w s j)];have B:¬pq=g.nx+1:=by omega
    have C:¬px=g.nx+1:=by omega
    have E:¬pv=g.nx+1:=by omega
    and_intros<;>first|exact F3.put (.inr (by omega)) _|simp[TA,k2,B,C,E,St,sx,h0,h1,h4,h5,o,h9,a]
   rintro t df T ⟨rfl,a,k2,c,eq5,ex5,ev5,F5,h0,h1,h4,h5,o,h9,-⟩;rw[eq]at eq5;rw[ex]at ex5;rw[ev]at ev5;have rx:=cR (sz:=1) (m:=ctx.length) ex5 (by simp);have rv:=cR (sz:=1) (m:=n.nodes.length) ev5 (by simp[H]);have e1:=zF .i64 s j (by omega);have e2:=nM (s / 2 ^ j) 1 (Xd (W8 _ _) (by omega)) (by omega);have e2:bQ .and (ZL ((s / 2 ^ j:Nat):Int)) (ZL 1)=.val (ZL ((s / 2 ^ j &&& 1:Nat):Int)):=e2;have u:=IS s j;cases hb:s.testBit j with
   | false =>
    have f:=Ge (w:=w) (s:=s) z;rw[hb]at f u;simp only[sz,simprocAttr,h0,h1,o,eq5,srO,aI,rx,J,I,cu,e1,e2,u];refine⟨⟨a,k2,by rw[c];exact congrArg _ f,F5,by simp[St,sx,h0,h1,h4,h5]⟩,by simp[sx,h9]⟩
   | true =>
    have f:=Ge (w:=w) (s:=s) z;rw[hb]at f u;have L:j<n.nodes.length:=He r hb;obtain⟨Q,R⟩:=I9 (l:=w) (i:=j) (by omega);simp only[sz,simprocAttr,h0,h1,h5,o,eq5,srO,aI,rx,rv,J,I,Q,R,cu,ci,e1,e2,u,ka,c,st1 _ _ _ (show ((zy w s j).set j (-1)).length=8 by simp[Gd])];rw[List.set_set]
    and_intros<;>first|exact congrArg _ f|exact F5.put (.inr (by omega)) _|simp[TA,k2,St,sx,h0,h1,h4,h5,h9,a]
  ·rintro t df g3 ⟨rfl,a,k2,c,F3,h0,h1,h4,h5,-⟩;simp only[sz,simprocAttr];exact⟨a,k2,c,F3,by simp[St,h4,h5]⟩
 rintro t df g3 ⟨rfl,a,k2,c,F3,h4,h5,-⟩;rw[Nv]at c;have p:(S.TU w s).length=8:=by simp[S.TU]
 have ld:=A5 (i:=(i:Int)) p;have sa:=λg id=>JH (i:=0) (l:=[0,0,0,0,0,0,0,0]) (k:=((i:Int),S.TU w s)) rfl p g id;simp only[sz,simprocAttr,fk,h4,h5,c,k2,ld,sa];rw[<-hs]at kk;exact kk _ (F3.put (.inr (Vu _)) _)
end
theorem qy{v:Nat}:∀{l:List Nat} {w xs:List Int},v ∉ l->(S.TM w l xs)[v]?=w[v]?
 |[],_,_,_=>by simp[S.TM]
 |u::r,w,[],_=>by simp[S.TM]
 | u::r,w,x::xs,h=>by simp only[VP,not_or]at h;rw[S.TM,qy h.2,W0 λe=>h.1 e.symm]
def Pk(l:List Nat)(w' w:List Int):Prop:=w'.length=w.length/\∀v,v ∉ l->w'[v]?=w[v]?
theorem G0:∀{l:List Nat} {w w' xs:List Int},xs.length=l.length->Pk l w' w->S.TM w' l xs=S.TM w l xs
 | [],w,w',xs,_,h=>by have:w'=w:=Xm λi=>h.2 i (by simp);rw[this]
 |v::r,w,w',[],h,_=>by simp at h
 | v::r,w,w',x::xs,h,ha=>by
  rw[S.TM,S.TM];refine G0 (by simpa using h) ⟨by simp[ha.1],λu hu=>?_⟩;rw[Wi,Wi,ha.1]
  by_cases e:v=u
  ·rw[VC e,VC e]
  ·rw[Vz e,Vz e];exact ha.2 u (by simp[hu,WD e])
theorem LY{l:List Nat}{xs:List Int}:Pk l (S.TM w l xs) w:=⟨tP _ _ _,λ_ h=>qy h⟩
theorem yw{v:Nat}{x:Int}:∀{l:List Nat} {w xs:List Int},xs.length=l.length->S.TM w (l++[v]) (xs++[x])=(S.TM w l xs).set v x
 |[],w,[],_=>by simp[S.TM]
 |[],w,_::_,h=>by simp at h
 |u::r,w,[],h=>by simp at h
 | u::r,w,y::xs,h=>by simp only[VE,S.TM];exact yw (by simpa using h)
def S.Uh(w:List Int)(l:List Nat):List Int:=l.foldl (λw v=>w.set v (-1)) w
theorem Ja:∀(l:List Nat) (w:List Int),(S.Uh w l).length=w.length
 |[],_=>rfl
 | v::r,w=>by have:=Ja r (w.set v (-1));simpa [S.Uh] using this
theorem I_:∀{l:List Nat} {w w':List Int},Pk l w' w->S.Uh w' l=S.Uh w l
 |[],w,w',h=>Xm λi=>h.2 i (by simp)
 | v::r,w,w',ha=>by
  show S.Uh (w'.set v (-1)) r=S.Uh (w.set v (-1)) r;refine I_ ⟨by simp[ha.1],λu hu=>?_⟩;rw[Wi,Wi,ha.1]
  by_cases e:v=u
  ·rw[VC e,VC e]
  ·rw[Vz e,Vz e];exact ha.2 u (by simp[hu,WD e])
theorem Fu:∀{l:List Nat} {w:List Int},(∀v∈l,w[v]?=some (-1))->S.Uh w l=w
 |[],_,_=>rfl
 | v::r,w,h=>by
  have e:w.set v (-1)=w:=by
   refine Xm λi=>?_;rw[Wi]
   by_cases e:v=i
   ·subst e;have:=h v (by simp);have hl:=(Vv.1 this).1;rw[VC rfl,VC hl,this]
   ·rw[Vz e]
  show S.Uh (w.set v (-1)) r=w;rw[e];exact Fu λu hu=>h u (by simp[hu])
theorem Mn(w:List Int)(l:List Nat)(v:Nat):S.Uh w (l++[v])=(S.Uh w l).set v (-1):=by simp[S.Uh]
def S.Ud(s j:Nat):List Nat:=(List.range j).filter s.testBit
theorem Bd(s j:Nat):S.Ud s (j+1)=S.Ud s j++if s.testBit j then [j] else []:=by rw[S.Ud,WC,List.filter_append,S.Ud];cases h:s.testBit j<;>simp[h]
theorem Ew(s j:Nat):(S.Ud s j).length<=j:=by have:=List.length_filter_le s.testBit (List.range j);simpa [S.Ud] using this
theorem NV(n:Net)(s:Nat):S.Tz n s=S.Ud s n.nodes.length:=rfl
theorem lF{n:Net}{s v:Nat}:v∈S.Tz n s↔v<n.nodes.length/\s.testBit v=true:=by simp[S.Tz]
def cn(v:Nat):List AV:=[ZJ (v:Int)]
def LAs(b1 b2 B:Nat):List (Nat×AV):=[(1,ZK b1),(2,ZK b2),(3,ZK B),(4,ZK (B+1))]
theorem zG(k:IntKind)(x:Int)(z:AV)(g:G):L9 1 1 [z] [0] [.int k x] g=.upd (.hsl g.nx 0 0 1 none) (g.new (Y6 1 [[.int k x]])):=rfl
theorem RH{s b1 b2 yi:Nat}{n:Net}{b:AV}{g0:G}(hr:NR n)(hN:SlR NoP 0 .nil n.nodes b)(hs:s<2 ^ n.nodes.length)(hb2:g0.h.get b2=Y6 1 [[ZL (s:Int)]])(hbn:b2<g0.nx)
  (k0:g.h.get g0.nx=Y6 1 [[.yld yi]]) (k1:g.h.get (g0.nx+1)=Y6 1 [[.nils]]) (hnx:g0.nx+2<=g.nx) (hF:Fx (λ_=>False) g0 g)
  (ht:St t (LAs b1 b2 g0.nx)) (h5:tat t 5=.nils) (h18:tat t 18=b) (h19:tat t 19=ZJ (n.nodes.length:Int)) (h20:tat t 20=ZJ 0)
  (fin:∀t g nv cv,St t (LAs b1 b2 g0.nx)->tat t 5=cv->g.h.get g0.nx=Y6 1 [[.yld yi]]->g.h.get (g0.nx+1)=Y6 1 [[nv]]->Own g (g0.nx+2) nv 1 ((S.Tz n s).map cn)->Own g (g0.nx+2) cv 1 ((S.T0 n (S.Tz n s)).map ci)->g0.nx+2<=g.nx->Fx (λ_=>False) g0 g->Q (.exit 0) t [] g) :
  wpL (wp C0 d none bZ) Q t [] g:=by
 have I:=hr.l2;have K:=pu hs I;obtain⟨rows,U,r2,r3,r4⟩:=hN.all;have U:∀h',ak h' 3 b=some rows:=U;obtain⟨h1,h2,c,h4,-⟩:=ht;simp only[bZ,dO];refine bD (m:=n.nodes.length) (by omega) (λj t df g=>df=[]/\∃nv cv,St t (LAs b1 b2 g0.nx)/\tat t 5=cv/\tat t 18=b/\g.h.get g0.nx=Y6 1 [[.yld yi]]/\g.h.get (g0.nx+1)=Y6 1 [[nv]]/\Own g (g0.nx+2) nv 1 ((S.Ud s j).map cn)/\Own g (g0.nx+2) cv 1 ((S.T0 n (S.Ud s j)).map ci)/\(∀i,vid nv=some i->vid cv≠some i)/\g0.nx+2<=g.nx/\Fx (λ_=>False) g0 g)
  ⟨rfl,_,_,by simp[St,LAs,h1,h2,c,h4],h5,h18,k0,k1,.inl ⟨rfl,rfl⟩,.inl ⟨rfl,rfl⟩,λi hi=>(by cases hi),hnx,hF⟩ h20 h19 (by decide)
  (by rintro j t df g v s (rfl|rfl|rfl) ⟨rfl,nv,cv,⟨a1,a2,X,a4,-⟩,Y,F,r⟩<;>exact⟨rfl,nv,cv,by simp[sx,St,LAs,a1,a2,X,a4],by simp[sx,Y],by simp[sx,F],r⟩) ?_ ?_
 ·clear h1 h2 c h4 h5 h18 h19 h20 k0 k1 hnx hF;rintro j t df g hj ⟨rfl,nv,cv,⟨h1,h2,c,h4,-⟩,h5,h18,k0,k1,oN,oC,hd,hnx,hF⟩ h20 h19;obtain⟨y,B,-,ha⟩:=ae (l:=n.nodes) hj;obtain⟨row,s1,s2⟩:=r3 j y B;obtain⟨pa,ra,rfl,-,-⟩:=bM.1 s2;have hlt:j<rows.length:=by omega
  have J:=r4 (by omega);have f:g.h.get b2=Y6 1 [[ZL (s:Int)]]:=by rw[hF.fr b2 hbn id,hb2]
  have e1:=zF .i64 s j (by omega);have e2:=nM (s / 2 ^ j) 1 (Xd (W8 _ _) (by omega)) (by omega);have e2:bQ .and (ZL ((s / 2 ^ j:Nat):Int)) (ZL 1)=.val (ZL ((s / 2 ^ j &&& 1:Nat):Int)):=e2;have E:=IS s j;have cells3:∀(g:G) (q:Nat),ch (Y6 3 [[ZJ 0,.nils,.nils]]) g q 0 0 3 0 (.agg [ZJ y.card,pa,ra])=.upd .undef (g.put q (Y6 3 [[ZJ y.card,pa,ra]])):=λg q=>by
   rw[bf 3 _ 0 false g q 0 3 0 _ rfl rfl,VZ];rw[show (AV.agg [ZJ y.card,pa,ra]).cells=[ZJ y.card,pa,ra] from rfl];dsimp only;rw[w_ (by rfl) (by simp)]
   rfl
  refine bB (P:=λt' df g'=>df=[]/\St t' (LAs b1 b2 g0.nx)/\tat t' 5=cv/\tat t' 18=b/\tat t' 6=ZJ (j:Int)/\tat t' 7=ZK g.nx/\tat t' 19=ZJ (n.nodes.length:Int)/\tat t' 20=ZJ (j:Int)/\g'.h.get g.nx=Y6 3 [[ZJ y.card,pa,ra]]/\g'.nx=g.nx+1/\(∀i,i<g.nx->g'.h.get i=g.h.get i)/\Fx (λ_=>False) g0 g') ?_ ?_
  ·simp only[sz,simprocAttr,h18,h20,U,hlt,s1,J,cells3];exact⟨by simp[sx,St,LAs,h1,h2,c,h4],h5,h19,λi hi=>by simp[show ¬i=g.nx by omega],(hF.trans (Fx.new _ _ _)).put (.inr hF.nx) _⟩
  rintro t df g1 ⟨rfl,⟨h1,h2,c,h4,-⟩,h5,h18,H,h7,h19,h20,W,n1,f1,F1⟩;have oN1:=oN.fr (g':=g1) (by omega) λi hi=>f1 i (oN.lt hi).2;have oC1:=oC.fr (g':=g1) (by omega) λi hi=>f1 i (oC.lt hi).2;have C:g1.h.get g0.nx=Y6 1 [[.yld yi]]:=by rw[f1 _ (by omega),k0]
  have A:g1.h.get (g0.nx+1)=Y6 1 [[nv]]:=by rw[f1 _ (by omega),k1]
  have f:g1.h.get b2=Y6 1 [[ZL (s:Int)]]:=by rw[F1.fr b2 hbn id,hb2]
  cases hb:s.testBit j with
  | false =>
   rw[hb]at E;have en:=Bd s j;rw[hb]at en;simp only[WV,if_false,VV]at en;simp only[sz,simprocAttr,h2,H,f,e1,e2,E];exact⟨⟨nv,cv,by simp[sx,St,LAs,h1,h2,c,h4],h5,h18,C,A,by rw[en];exact oN1,by rw[en];exact oC1,hd,by omega,F1⟩,h20,h19⟩
  | true =>
   rw[hb]at E;have en:=Bd s j;rw[hb,VC rfl]at en;simp only[sz,simprocAttr,sf,h2,h4,h5,H,h7,f,A,W,e1,e2,E,zG];have h9:=Ew s j;refine nL (new:=[cn j]) (oN1.fr (by simp;omega) λi hi=>?_) (by simp[sx,sy,cn]) (by simp;omega) (by simp[aT];omega) λv2 g2 hv2 n2 f2 a l2=>?_
   ·have:=(oN1.lt hi).2;simp[TA,show ¬i=g1.nx+1+1 by omega,show ¬i=g1.nx+2 by omega]
   simp only[sz,simprocAttr]at n2 f2 l2;have h8:=hF.nx;have w:∀i,(i<g0.nx+2\/g.nx<=i)->vid nv≠some i:=λi hi e=>by have:=oN.lt e;omega
   have q2:g2.h.get g.nx=Y6 3 [[ZJ y.card,pa,ra]]:=by rw[f2 _ (by omega) (w _ (by omega)),Vz (by omega),W]
   have L:g2.h.get g0.nx=Y6 1 [[.yld yi]]:=by rw[f2 _ (by omega) (w _ (by omega)),Vz (by omega),C]
   have N:g2.h.get (g0.nx+1)=Y6 1 [[nv]]:=by rw[f2 _ (by omega) (w _ (by omega)),Vz (by omega),A]
   have oC2:=oC1.fr (g':=g2) (by omega) λi hi=>by have:=(oC1.lt hi).2;rw[f2 i (by omega) (λe=>hd i e hi),Vz (by omega)]
   have hcl:(S.T0 n (S.Ud s j)).length<=8:=by simp[S.T0];omega
   simp only[sz,simprocAttr,sf,h4,h5,H,h7,q2,zG];refine nL (new:=[ci y.card]) (oC2.fr (by simp;omega) λi hi=>?_) (by simp[sx,sy,ci]) (by simp;omega) (by simp[aT];omega) λv3 g3 hv3 n3 f3 o l3=>?_
   ·have:=(oC2.lt hi).2;simp[TA];omega
   simp only[sz,simprocAttr]at n3 f3 l3;have z:∀i,(i<g0.nx+2\/g.nx<=i)->vid cv≠some i:=λi hi e=>by have:=oC.lt e;omega
   have M:g3.h.get g0.nx=Y6 1 [[.yld yi]]:=by rw[f3 _ (by omega) (z _ (by omega)),Vz (by omega),L]
   have O:g3.h.get (g0.nx+1)=Y6 1 [[nv]]:=by rw[f3 _ (by omega) (z _ (by omega)),Vz (by omega),N]
   obtain⟨vc1,vc2⟩:=hv2.cell;simp only[sz,simprocAttr,sf,h4,O,vc1,vc2];have V:=GD oN;have D:∀i∈g2.lg,vid nv=some i\/g1.nx+1+1+1+1<=i/\i<g2.nx:=λi hi=>by simpa using l2 i hi
   have R:∀i∈g3.lg,vid cv=some i\/g2.nx+1+1+1+1+1+1<=i/\i<g3.nx:=λi hi=>by simpa using l3 i hi
   have he:=GD oC;refine⟨?_,?_⟩
   ·simp only[VJ,VN,VH,VE];refine aA [false,false,true,true,false,false,false,true,true,true,false] [(0,2),(2,4),(3,4),(2,5),(3,5),(2,6),(3,6),(0,7),(1,7),(2,7),(3,7),(4,7)] (by simp[All2,ah,ay]) (by decide) ?_;intro p hp x y hx B;simp only[VP,VG,Xh]at hp;rcases hp with rfl|rfl|rfl|rfl|rfl|rfl|rfl|rfl|rfl|rfl|rfl|rfl<;>(simp only[VZ,Wn,Wj]at hx B;subst hx;subst B;refine bI rfl rfl rfl rfl ?_ ?_ ?_<;>simp[ah,ay,cO,rE])
    all_goals first|omega|exact λi hi e=>(D i hi).elim (λh=>by have:=oN.lt h;omega) (λh=>by omega)|exact λi hi e=>hi.elim (λh=>by have:=oN.lt (V i h);omega) (λh=>by omega)
   ·rw[en];refine⟨⟨v2,v3,by simp[sx,St,LAs,h1,h2,c,h4],by simp[sx],h18,by rw[Vz (by omega)];exact M,rfl,?_,?_,?_,by first| (simp;omega)|omega,?_⟩,h20,h19⟩
    ·rw[WJ];refine hv2.fr (by simp;omega) λi hi=>?_;have:=hv2.lt hi;have hc:vid cv≠some i:=λe=>by
      have:=oC.lt e;rcases a with a|⟨k,a,o⟩
      ·exact hd i (by rw[<-a];exact hi) e
      ·rw[hi]at a;injection a with a;simp at o;omega
     have c:=f3 i (by omega) hc;rw[Vz (by omega)]at c;simp[TA,show ¬i=g0.nx+1 by omega,c]
    ·rw[S.T0,WJ,WJ];have e1:(S.Tx n)[j]?.getD 0=y.card:=by simp[S.Tx,B]
     simp only[W4,Xe,e1];refine hv3.fr (by simp;omega) λi hi=>?_;have:=hv3.lt hi;simp[TA,show ¬i=g0.nx+1 by omega]
    ·intro i hi u;have l1:=hv2.lt hi;rcases o with o|⟨k,o,Z⟩
     ·rw[o]at u;have:=oC.lt u;rcases a with a|⟨k,a,c5⟩
      ·exact hd i (by rw[<-a];exact hi) u
      ·rw[hi]at a;injection a with a;simp at c5;omega
     ·rw[u]at o;injection o with o;simp at Z;omega
    ·refine⟨by simp;omega,λi hi _=>?_,λi hi=>?_⟩
     ·have c:=f3 i (by omega) (z i (by omega));have h2:=f2 i (by omega) (w i (by omega));rw[Vz (by omega)]at c h2;simp[TA,show ¬i=g0.nx+1 by omega,c,h2,F1.fr i hi (λh=>h)]
     ·simp at hi;rcases hi with rfl|hi|rfl|hi|rfl|hi
      ·exact .inr (.inr (by omega))
      ·rcases R i hi with h|h
       ·have:=oC.lt h;exact .inr (.inr (by omega))
       ·exact .inr (.inr (by omega))
      ·exact .inr (.inr (by omega))
      ·rcases D i hi with h|h
       ·have:=oN.lt h;exact .inr (.inr (by omega))
       ·exact .inr (.inr (by omega))
      ·exact .inr (.inr (by omega))
      ·exact F1.lg i hi
 ·rintro t df g ⟨rfl,nv,cv,hL,h5,h18,k0,k1,oN,oC,hd,hnx,hF⟩;exact fin t g nv cv hL h5 k0 k1 oN oC hnx hF
theorem Vs.own{n:Net}(h:Vs n pv w g)(hn:pv<g.nx):Own g 0 (.hsl pv 0 0 n.nodes.length none) 1 (w.map ci):=by obtain⟨h1,lo,h2⟩:=h;exact .inr ⟨pv,0,lo,Wp _,hn,by rw[VF,h1],h2⟩
theorem Own.vs{n:Net}{b:Nat}(h:Own g b (.hsl pv 0 0 m none) 1 (w.map ci))(hw:w.length=n.nodes.length):Vs n pv w g:=by
 rcases h with⟨h,-⟩|⟨id,ep,lo,h1,h2,k,h4⟩
 ·cases h
 ·injection k with e1 e2;subst e1;subst e2;exact⟨hw,lo,h4⟩
structure AsH (n:Net) (size:Int) (b lv vv cv xv:AV) (pq pm b1 b2 s:Nat) (g:G):Prop where
 b1:g.h.get b1=Y6 1 [[ZK pq]]
 b2:g.h.get b2=Y6 1 [[ZL (s:Int)]]
 q:∃c,g.h.get pq=srO n.grain size c b lv vv cv xv pm
def LB3(b1 B j:Nat)(u nv:AV):List (Nat×AV):=[(1,ZK b1),(3,ZK B),(8,ZJ (j:Int)),(9,u),(44,nv)]
theorem RI{b1 b2 B s:Nat}{n:Net}{l:List Nat}{xs:List Int}{b cv xv u nv:AV}{rd:Option Nat}{g1:G}(hl:∀v∈l,v<n.nodes.length)(hll:l.length<=8)(hxl:xs.length=l.length)
  (hH:∀g,(∀i,i≠pv->g.h.get i=g1.h.get i)->AsH n size b lv (.hsl pv 0 0 n.nodes.length none) cv xv pq pm b1 b2 s g/\ak g.h 1 nv=some (l.map cn)/\ak g.h 1 u=some (xs.map ci))
  (hV:Vs n pv w g1) (hpv:pv<g1.nx) (ht:St t (LB3 b1 B j u nv)) (h45:tat t 45=ZJ (l.length:Int)) (h46:tat t 46=ZJ 0)
  (fin:∀t g,St t (LB3 b1 B j u nv)->Vs n pv (S.TM w l xs) g->Fx (λi=>i=pv) g1 g->(∀i,i≠pv->g.h.get i=g1.h.get i)->Q (.exit 4) t [] g) :
  wpL (wp C0 d rd b_) Q t [] g1:=by
 obtain⟨h1,z,h8,h9,a,-⟩:=ht;simp only[b_];refine bD (m:=l.length) (by omega) (λk t df g=>df=[]/\St t (LB3 b1 B j u nv)/\Vs n pv (S.TM w (l.take k) (xs.take k)) g/\Fx (λi=>i=pv) g1 g/\(∀i,i≠pv->g.h.get i=g1.h.get i))
  ⟨rfl,by simp[St,LB3,h1,z,h8,h9,a],by simpa [S.TM] using hV,Fx.refl _ _,λ_ _=>rfl⟩ h46 h45 (by decide)
  (by rintro j t df g v s (rfl|rfl|rfl) ⟨rfl,⟨a1,C,N,O,D,-⟩,r⟩<;>exact⟨rfl,by simp[sx,St,LB3,a1,C,N,O,D],r⟩) ?_ ?_
 ·clear h1 z h8 h9 a h45 h46;rintro k t df g hk ⟨rfl,⟨h1,z,h8,h9,a,-⟩,f,A,hf⟩ h46 h45;obtain⟨⟨H,U,c,hq⟩,V,hu⟩:=hH g hf;obtain⟨v,W,K,I⟩:=ae hk;obtain⟨x,hx,M,-⟩:=ae (l:=xs) (j:=k) (by omega);have J:=hl v I;have a1:k<(l.map cn).length:=by simpa using hk
  have a2:(l.map cn)[k]?=some (cn v):=by rw[Vw,W];rfl
  have C:k<(xs.map ci).length:=by rw[VF];omega
  have a4:(xs.map ci)[k]?=some (ci x):=by rw[Vw,hx];rfl
  have P:=A.nx;have oV:=f.own (by omega);have L:=f.1;have rv:=oV.rows;have E:v<((S.TM w (l.take k) (xs.take k)).map ci).length:=by rw[VF,L];exact J
  obtain⟨y,X,-,-⟩:=ae (l:=S.TM w (l.take k) (xs.take k)) (j:=v) (by omega);have F:((S.TM w (l.take k) (xs.take k)).map ci)[v]?=some (ci y):=by rw[Vw,X];rfl
  simp only[sz,simprocAttr,sf,h1,h9,a,h46,H,hq,srO,aI,V,hu,rv,a1,a2,C,a4,E,cn,ci];refine rJ (b:=0) (v:=.hsl pv 0 0 n.nodes.length none) (sz:=1) (n:=1) (i:=v) (off:=0) (x:=ZJ x) (row':=ci x) (oV.fr (by simp;omega) λi hi=>by simp) F rfl rfl rfl λg5 hu5 n5 f5 l5=>?_;rw[<-Xa,<-yw (by simp;omega),<-K,<-M]at hu5;have p:(S.TM w (l.take (k+1)) (xs.take (k+1))).length=n.nodes.length:=by rw[tP];exact hV.1
  have q:vid (.hsl pv 0 0 n.nodes.length none)=some pv:=rfl;simp only[sz,simprocAttr,sf];refine⟨?_,?_⟩
  ·simp only[VJ,VN,VH,VE];exact aA (Zn (Zl (true::[]))) [] (by simp[All2,ah,ay]) (by decide) (by simp)
  have o:∀i,i≠pv->g5.h.get i=g1.h.get i:=λi hi=>by have:=f5 i (λe=>hi (by injection e with e;exact e.symm));simp at this;rw[this,hf i hi]
  refine⟨⟨by simp[St,LB3,sx,h1,z,h8,h9,a],(hu5.vs p).fr (by simp),⟨by simp at n5;simp;omega,λi _ hi=>by simpa using o i hi,λi hi=>?_⟩,o⟩,h46,h45⟩;simp at hi;rcases hi with hi|hi
  ·rcases l5 i hi with h|h
   ·simp at h
   ·rw[q]at h;injection h with h;exact .inr (.inl h.symm)
  ·exact A.lg i hi
 ·rintro t df g ⟨rfl,R,f,A,hf⟩;rw[Wa,<-hxl,Wa]at f;exact fin t g R f A hf
theorem RJ{b1 b2 s:Nat}{n:Net}{l:List Nat}{b cv xv nv:AV}{rd:Option Nat}{df0:List ADf}{g1:G}(hl:∀v∈l,v<n.nodes.length)(hll:l.length<=8)
  (hH:∀g,(∀i,i≠pv->g.h.get i=g1.h.get i)->AsH n size b lv (.hsl pv 0 0 n.nodes.length none) cv xv pq pm b1 b2 s g/\ak g.h 1 nv=some (l.map cn))
  (hV:Vs n pv w g1) (hpv:pv<g1.nx) (h1:tat t 1=ZK b1) (h66:tat t 66=nv) (h67:tat t 67=ZJ (l.length:Int)) (h68:tat t 68=ZJ 0)
  (fin:∀t g,Vs n pv (S.Uh w l) g->Fx (λi=>i=pv) g1 g->(∀i,i≠pv->g.h.get i=g1.h.get i)->Q (.exit 6) t df0 g) :
  wpL (wp C0 d rd cg) Q t df0 g1:=by
 simp only[cg];refine bD (m:=l.length) (by omega) (λk t df g=>df=df0/\St t [(1,ZK b1),(66,nv)]/\Vs n pv (S.Uh w (l.take k)) g/\Fx (λi=>i=pv) g1 g/\(∀i,i≠pv->g.h.get i=g1.h.get i))
  ⟨rfl,by simp[St,h1,h66],by simpa [S.Uh] using hV,Fx.refl _ _,λ_ _=>rfl⟩ h68 h67 (by decide)
  (by rintro j t df g v s (rfl|rfl|rfl) ⟨rfl,⟨a1,u,-⟩,r⟩<;>exact⟨rfl,by simp[sx,St,a1,u],r⟩) ?_ ?_
 ·clear h1 h66 h67 h68;rintro k t df g hk ⟨rfl,⟨h1,h66,-⟩,a,q,hf⟩ h68 h67;obtain⟨⟨B,I,c,hq⟩,J⟩:=hH g hf;obtain⟨v,K,E,C⟩:=ae hk;have D:=hl v C;have a1:k<(l.map cn).length:=by simpa using hk
  have a2:(l.map cn)[k]?=some (cn v):=by rw[Vw,K];rfl
  have H:=q.nx;have oV:=a.own (by omega);have F:=a.1;have rv:=oV.rows;have z:v<((S.Uh w (l.take k)).map ci).length:=by rw[VF,F];exact D
  obtain⟨y,L,-,-⟩:=ae (l:=S.Uh w (l.take k)) (j:=v) (by omega);have A:((S.Uh w (l.take k)).map ci)[v]?=some (ci y):=by rw[Vw,L];rfl
  simp only[sz,simprocAttr,sf,h1,h66,h68,B,hq,srO,aI,J,rv,a1,a2,z,cn];refine rJ (b:=0) (v:=.hsl pv 0 0 n.nodes.length none) (sz:=1) (n:=1) (i:=v) (off:=0) (x:=ZJ (-1)) (row':=ci (-1)) oV A rfl rfl rfl λg5 hu5 n5 f5 l5=>?_;rw[<-Xa,<-Mn,<-E]at hu5;have o:(S.Uh w (l.take (k+1))).length=n.nodes.length:=by rw[Ja];exact hV.1
  have p:vid (.hsl pv 0 0 n.nodes.length none)=some pv:=rfl;simp only[sz,simprocAttr,sf];have f:∀i,i≠pv->g5.h.get i=g1.h.get i:=λi hi=>by have:=f5 i (λe=>hi (by injection e with e;exact e.symm));rw[this,hf i hi]
  refine⟨⟨by simp[St,sx,h1,h66],hu5.vs o,⟨by omega,λi _ hi=>f i hi,λi hi=>?_⟩,f⟩,h68,h67⟩;rcases l5 i hi with h|h
  ·exact q.lg i h
  ·rw[p]at h;injection h with h;exact .inr (.inl h.symm)
 ·rintro t df g ⟨rfl,M,a,q,hf⟩;rw[Wa]at a;exact fin t g a q hf
end
end Hx
