/- A part of the proof: what the functions of the chapter compute. -/
import Derived.Test.YteaikmdilmfbeaaGreatHx15
set_option linter.all false
set_option maxRecDepth 20000
set_option maxHeartbeats 8000000
namespace Hx
open Go
noncomputable section
variable {d n k q v i:Nat}{g:G}{gr m:Int}{Q:QT}{t:T}{D:ND}{b r5 wv w u ev vw:AV}{P:Nat->Prop}{vars pl l e mw:List Int}{r0:List AV}{rows:List (List AV)}
section
variable {x:AV}{K:AV->G->Prop}
theorem ym{g:G}{b:Nat}{v:AV}{sz bytes:Nat}{new:List (List AV)}{D:ADf->Prop}(hv:Own g b v sz rows)(hx:ak g.h sz x=some new)(hb:b<=g.nx)
  (hr:(rows.length+new.length)*bytes<=aQ)
  (k:∀v' g',Own g' b v' sz (rows++new)->g.nx<=g'.nx->(∀i,i<g.nx->vid v≠some i->g'.h.get i=g.h.get i)->(vid v'=vid v\/∃i,vid v'=some i/\g.nx<=i)->(∀i∈g'.lg,i∈g.lg\/vid v=some i\/g.nx<=i)->K v' g') :
  (di sz bytes v x g).sat K g D:=by
 unfold di;rw[hx];dsimp only;rcases hv with⟨rfl,rfl⟩|⟨id,ep,lo,h1,h2,rfl,h3⟩
 ·cases new with
  |nil=>exact k _ _ (.inl ⟨rfl,rfl⟩) (TG _) (λ_ _ _=>rfl) (.inl rfl) (λi hi=>.inl hi)
  | cons r new =>
   simp only[bg,aA,aa,Uw];rw[TO (by simpa using hr)];refine k _ _ (.inr ⟨g.nx,0,true,hb,by simp,rfl,by simp[aP]⟩) (by simp) (λi hi _=>?_) (.inr ⟨g.nx,rfl,TG _⟩) (λi hi=>by simp at hi;rcases hi with rfl|hi;exact .inr (.inr (TG _));exact .inl hi);rw[G.new_h,au _ _ _ (by omega)]
 ·simp only[bg,G.get_eq,h3,aA,aa,show Nat.beq ep ep=true from Uv ep,show Nat.beq sz sz=true from Uv sz,U7,Uw,TM,Uy,Vc,VY];rw[TO ⟨TG _,hr⟩];cases new with
  | nil =>
   rw[TO (by simp)];refine k _ _ (.inr ⟨id,ep,lo,h1,h2,by simp,by simpa using h3⟩) (TG _) (λ_ _ _=>rfl) (.inl rfl) (λi hi=>.inl hi)
  | cons r new =>
   rw[TN (by simp)];have ht:iQ rows.length (gD 0 rows)=rows:=by rw[be,ba];simp
   cases lo with
   | false =>
    rw[TO (by simp)];refine k _ _ (.inr ⟨g.nx,0,true,by omega,by simp,by simp,by simp[aP,ht]⟩) (by simp) (λi hi _=>?_) (.inr ⟨g.nx,rfl,TG _⟩) (λi hi=>by simp at hi;rcases hi with rfl|hi;exact .inr (.inr (TG _));exact .inl hi);rw[G.new_h,au _ _ _ (by omega)]
   | true =>
    rw[TN (by simp)];refine k _ _ (.inr ⟨id,ep+1,true,h1,by simpa using h2,by simp,by simp[aP,ht]⟩) (by simp) (λi hi hne=>?_) (.inl rfl) (λi hi=>by simp at hi;rcases hi with rfl|hi;exact .inr (.inl rfl);exact .inl hi);rw[G.put_h,au _ _ _ (λe=>hne (by rw[e];rfl))]
section
variable {κ:Type} [DecidableEq κ]{g:G}{b:Nat}{L:κ->Prop}{V:κ->AV}{E:κ->En}{k:κ}
theorem Hp.app2(h:Hp g b L V E)(hk:L k){sz bytes:Nat}{new:List (List AV)}(he:E k=.sl sz rows){D:ADf->Prop}(hx:ak g.h sz x=some new)
  (hr:(rows.length+new.length)*bytes<=aQ)
  (kk:∀v' g',Hp g' b L (ups V k v') (ups E k (.sl sz (rows++new)))->g.nx<=g'.nx->(∀i,i<b->g'.h.get i=g.h.get i)->(∀i,i<g.nx->eid (V k)≠some i->g'.h.get i=g.h.get i)->(∀i∈g'.lg,i∈g.lg\/eid (V k)=some i\/g.nx<=i)->v'.cells=[v']->v'.isTup=false->K v' g') :
  (di sz bytes (V k) x g).sat K g D:=by
 have ho:=h.own hk he;refine ym ho hx h.nx hr λv' g' hv' hn hf hvid hlg=>?_;refine kk v' g' (h.set hk (e':=.sl sz (rows++new)) hv' hn (λi _ hi hne=>hf i hi (by rw[<-i_ ho];exact hne)) ?_) hn (λi hi=>hf i (TU hi h.nx) λe=>by have:=(ho.lt e).1;omega)
  (λi hi hne=>hf i hi (by rw[<-i_ ho];exact hne)) (λi hi=>by rw[i_ ho];exact hlg i hi) hv'.cell.1 hv'.cell.2
 rw[i_ hv',i_ ho];exact hvid
theorem Hp.putv(h:Hp g b L V E)(hk:L k){v0:AV}(hv:V k=v0){sz off:Nat}{row row':List AV}(he:E k=.sl sz rows){D:ADf->Prop}(hr:rows[i]?=some row)
  (hl:x.cells.length=n) (ht:x.isTup=false) (hp:bX row off x.cells=some row')
  (kk:∀g',Hp g' b L V (ups E k (.sl sz (rows.set i row')))->g'.nx=g.nx->(∀i,i<b->g'.h.get i=g.h.get i)->(∀i,eid (V k)≠some i->g'.h.get i=g.h.get i)->K .undef g'):(nz n (jF sz v0 i off) x g).sat K g D:=by
 subst hv;exact h.put hk he hr hl ht hp kk
end
theorem Co(m n:Nat):∃z:Nat,ct .shr (.int .u8 (m:Int)) (XN (n:Int))=.val (.int .u8 (z:Int)) :=
 ⟨m / 2 ^ (Nat.min n 8),rfl⟩
theorem Cn(m n:Nat):∃z:Int,ct .and (.int .u8 (m:Int)) (.int .u8 (n:Int))=.val (.int .u8 z):=by have:∃z:Int,Op.intBits .and .u8 (.ofNat m) (.ofNat n)=.pure (.int .u8 z):=⟨_,rfl⟩;obtain⟨z,hz⟩:=this;refine⟨z,?_⟩;show orV (qd (Op.intBits .and .u8 (.ofNat m) (.ofNat n)))=_;rw[hz];rfl
structure DB (D:ND) (n i v:Nat) (num:Nat->Nat):Prop where
 c:∀u,u<n->D.c u=2\/D.c u=3
 p:∀u,u<n->(D.P u).length<=3/\∀y∈D.P u,0<=y/\y<n
 m:∀u,u<n->D.m u<=64
 o:∀u,D.o u=0
 f:∀k,i<k->k<n->D.P (num k)=[]/\D.m (num k)=0
def S.SL(P0:List Int)(c0:Nat->Int):Int:=S.RP (P0.map λy=>c0 y.toNat)
structure DOk (gr:Int) (D:ND) (n i:Nat) (num:Nat->Nat):Prop where
 s:∀u,u<n->(D.P u).Pairwise (·<·)
 a:∀k,k<n->∀y∈D.P (num k),∃k',k'<k/\y=(num k':Int)
 w:∀k,k<i->(D.m (num k):Int)=S.SL (D.P (num k)) D.c
 r:∀u r,u<n->r<D.m u->NT gr (D.c u) (D.R u r)
def LDB(n q i p v:Nat)(r5:AV):List (Nat×AV):=[(1,XM 0),(2,XM 1),(3,XL (n:Int)),(4,XM q),(5,r5),(10,XL (i:Int)),(11,XM p),(12,XL (v:Int))]
structure DP (r0 prow:List AV) (n q i p v:Nat) (gr:Int) (r5:AV) (num:Nat->Nat) (g:G) (V:Ky->AV) (E:Ky->En) (D:ND):Prop where
 dn:DN X2 r0 n q 1000 gr V E D g
 pb:V (0,2)=XM p/\E (0,2)=.bx prow
 db:DB D n i v num
 mv:D.m v=0
 ok:DOk gr D n i num
theorem DP.p{r0 prow:List AV}{n q i p v:Nat}{gr:Int}{r5:AV}{num:Nat->Nat}{g:G}{V:Ky->AV}{E:Ky->En}{D:ND}(h:DP r0 prow n q i p v gr r5 num g V E D):g.h.get p=W8 prow.length [prow]/\2<=p/\p<g.nx:=by obtain⟨id,h1,h2,h3,h4⟩:=h.dn.hp.box (k:=(0,2)) (.inr (.inr rfl)) h.pb.2;rw[h.pb.1]at h3;injection h3 with h3;subst h3;exact⟨h4,h1,h2⟩
theorem DW{X:Ky->Prop}{V:Ky->AV}{E:Ky->En}{g:G}(h:Hp g 2 (LNX X n D) V E){j k:Ky}(hj:LNX X n D j)(hk:LNX X n D k)(hne:j≠k){id:Nat}(he:eid (V j)=some id):eid (V k)≠some id:=h.sep j k hj hk hne id he
def Bd:SC:=.feet [0,1,0,0,8,0,56,120,248,0,512,2040,4095,8191,16383] [oF 131 1 4,oL 132 131,oM 133 12,oF 134 1 4,oL 135 134,oM 136 12,Xg 137 3 135 136,oF 138 1 137,oL 139 138,oM 140 13,XD 141 140,Xw 142 1 8 139 141,Xg 143 3 132 133,oF 144 1 143,Xc 1 144 142]
theorem OM{p u:Nat}{prow:List AV}{num:Nat->Nat}{g:G}{V:Ky->AV}{E:Ky->En}{rest:List (Nat×AV)}(hn:1<=n/\n<=5)(hv:v<n)(hvi:∀k,i<k->k<n->num k≠v)(hu:u<n)(hvl:∀k,k<i->num k≠v)(hua:∃k',k'<i/\u=num k')(hlt:∀y∈D.P v,y<(u:Int))
  (h4:tat t 4=XM q) (h12:tat t 12=XL (v:Int)) (h13:tat t 13=XL (u:Int)) (hP:DP r0 prow n q i p v gr r5 num g V E D) (hl:(D.P v).length<3)
  (fin:∀t' g' V' E' D',(∀s,(s<131\/144<s)->tat t' s=tat t s)->D'.P v=D.P v++[(u:Int)]->DP r0 prow n q i p v gr r5 num g' V' E' D'->Q .norm t' [] g') :
  wp C0 d none Bd Q t [] g:=by
 have l:=hP.dn;obtain⟨kq,U,W⟩:=l.q (.inl rfl);unfold Bd;have rns:=l.ns.rows;have K:=wV l.ns (by simp;omega);have u3:v<((List.range n).map (gz D V)).length:=by simpa using hv
 have N:=gP (gz D V) hv;have M:=l.bn.ps v hv;have R:=l.hp.nx;simp only[sz,simprocAttr,sf,h4,h12,h13,kq,rns,u3,N,K,gz];refine (l.hp.step (g':=_) ?_ ?_).app2 (k:=(v+1,0)) (.inl (LN.p hv)) M.1 (new:=[ci (u:Int)]) (by simp[sx,sy,ci]) (by unfold aQ;simp;omega) λv1 g1 hH1 n1 fb1 fo1 lg1 vc vt=>?_
 ·simp;omega
 ·intro i _ hi;simp[RQ];omega
 simp only[sx,sy]at n1 fb1 fo1 lg1;have H:ups V (v+1,0) v1 (0,0)=V (0,0):=aq _ _ (by simp);have C:ups E (v+1,0) (.sl 1 ((D.P v).map ci++[ci (u:Int)])) (0,0)=.sl 3 ((List.range n).map (gz D V)):=by rw[aq _ _ (by simp)];exact l.bn.ns
 have rns1:ak g1.h 3 (V (0,0))=some ((List.range n).map (gz D V)):=by rw[<-H];exact (hH1.own (k:=(0,0)) (.inl LN.z) C).rows
 have X:((List.range n).map (gz D V))[v]?=some [XL (D.c v),V (v+1,0),V (v+1,1)]:=N;simp only[sz,simprocAttr,sf,rns1,u3,K];refine (hH1.same (g':=_) ?_ ?_).putv (k:=(0,0)) (.inl LN.z) H (row':=[XL (D.c v),v1,V (v+1,1)]) C N (by rw[vc];rfl) vt (by rw[vc];rfl) λg2 hH2 n2 fb2 fo2=>?_
 ·simp
 ·simp;omega
 simp only[sy];refine⟨?_,?_⟩
 ·simp only[Uf,Ug,Ud,T4];refine aN (Xp (Xn (true::(true::(Xp (true::[])))))) [(0,10),(1,10),(2,10),(3,10),(4,10),(5,10),(6,10),(7,10),(8,10),(0,11),(1,11),(2,11)] (by simp[All2,am,aE]) (by decide) ?_;have I:∀i∈g1.lg,i≠q:=λi hi e=>by
   rcases lg1 i hi with h|h|h
   ·simp at h
   ·exact DW l.hp (.inl (LN.p hv)) (.inr (.inl rfl)) (by simp) h (by rw[l.vb,e];rfl)
   ·omega
  obtain⟨id0,ep0,O,L⟩:∃id ep,id<g.nx/\V (0,0)=.hsl id ep 0 ((List.range n).map (gz D V)).length none:=by
   rcases l.ns with⟨h,e⟩|⟨id,ep,lo,-,h1,h2,-⟩
   ·have:=congrArg List.length e;simp at this;omega
   ·exact⟨id,ep,h1,h2⟩
  have F:∀i∈g1.lg,i≠id0:=λi hi e=>by
   rcases lg1 i hi with h|h|h
   ·simp at h
   ·exact DW l.hp (.inl (LN.p hv)) (.inl LN.z) (by simp) h (by rw[L,e];rfl)
   ·omega
  rintro p J x y hx B;simp only[Us,TY,Wt]at J;rcases J with rfl|rfl|rfl|rfl|rfl|rfl|rfl|rfl|rfl|rfl|rfl|rfl<;>(simp at hx B;subst hx;subst B;refine dh rfl rfl rfl rfl ?_ ?_ ?_<;>simp[am,aE,an,L,jF]<;>first|omega|exact I|exact F|exact λi hi e=>I i hi e.symm|exact λi hi e=>F i hi e.symm)
 refine fin _ _ (ups V (v+1,0) v1) _ { D with P:=ups D.P v (D.P v++[(u:Int)]) } (λs hs=>?_) (aM _ _ _) ⟨⟨(hH2.same (g':=_) (by simp) (by simp)).sub λk hk=>hk,⟨?_,λj hj=>?_,λj hj=>?_,λj r hj hr=>?_⟩,?_,?_,?_,?_⟩,⟨?_,?_⟩,⟨hP.db.c,λw hw=>?_,hP.db.m,hP.db.o,λk hk hkn=>?_⟩,hP.mv,?_⟩
 ·simp only[nA]
  repeat rw[TN (by omega)]
 ·rw[aM,oY _ _ hv];congr 1;refine A6 (by simp[gz,aM,aq]) λj hj hne=>by simp[gz,aq,hne]
 ·by_cases e:j=v
  ·subst e;rw[aq _ _ (by simp),aM];show En.sl 1 _=En.sl 1 ((ups D.P j (D.P j++[(u:Int)]) j).map ci)/\(ups D.P j (D.P j++[(u:Int)]) j).length<=1000;rw[aM];exact⟨by simp,by simp;omega⟩
  ·rw[aq _ _ (by simp),aq _ _ (by simp[e])];show E (j+1,0)=En.sl 1 ((ups D.P v (D.P v++[(u:Int)]) j).map ci)/\(ups D.P v (D.P v++[(u:Int)]) j).length<=1000;rw[aq _ _ e];exact l.bn.ps j hj
 ·rw[aq _ _ (by simp),aq _ _ (by simp)];have:=l.bn.rs j hj;refine⟨?_,this.2⟩;rw[this.1];congr 1;exact U8 λr _=>by simp[Hs,aq]
 ·rw[aq _ _ (by simp),aq _ _ (by simp),aq _ _ (by simp)];exact l.bn.rr j r hj hr
 ·rw[aq _ _ (by simp)];exact l.vb
 ·rw[aq _ _ (by simp),aq _ _ (by simp),aq _ _ (by simp)];exact l.bx
 ·simp only[bumpG_h];rw[fb2 0 (by omega)];simp;rw[fb1 0 (by omega),TN (by omega),l.h0]
 ·simp only[bumpG_h];rw[fb2 1 (by omega)];simp;rw[fb1 1 (by omega),TN (by omega),l.h1]
 ·rw[aq _ _ (by simp)];exact hP.pb.1
 ·rw[aq _ _ (by simp),aq _ _ (by simp)];exact hP.pb.2
 ·by_cases e:w=v
  ·subst e;show (ups D.P w (D.P w++[(u:Int)]) w).length<=3/\∀y∈ups D.P w (D.P w++[(u:Int)]) w,0<=y/\y<n;rw[aM];refine⟨by simp;omega,λy B=>?_⟩;rcases Uk.1 B with h|h
   ·exact (hP.db.p w hw).2 y h
   ·rw[UX.1 h];omega
  ·show (ups D.P v (D.P v++[(u:Int)]) w).length<=3/\∀y∈ups D.P v (D.P v++[(u:Int)]) w,0<=y/\y<n;rw[aq _ _ e];exact hP.db.p w hw
 ·show ups D.P v (D.P v++[(u:Int)]) (num k)=[]/\D.m (num k)=0;rw[aq _ _ (hvi k hk hkn)];exact hP.db.f k hk hkn
 ·have A:=hP.ok;refine⟨λw hw=>?_,λk hk y B=>?_,λk hk=>?_,A.r⟩
  ·show (ups D.P v (D.P v++[(u:Int)]) w).Pairwise (·<·)
   by_cases e:w=v
   ·rw[e,aM];rw[List.pairwise_append];exact⟨A.s v hv,List.pairwise_singleton _ _,λa ha b hb=>by rw[UX.1 hb];exact hlt a ha⟩
   ·rw[aq _ _ e];exact A.s w hw
  ·have B:y∈ups D.P v (D.P v++[(u:Int)]) (num k):=B
   by_cases e:num k=v
   ·rw[e,aM]at B;rcases Uk.1 B with h|h
    ·rw[<-e]at h;exact A.a k hk y h
    ·obtain⟨k',h1,h2⟩:=hua;have:¬k<i:=λh=>hvl k h e;exact⟨k',by omega,by rw[UX.1 h,h2]⟩
   ·rw[aq _ _ e]at B;exact A.a k hk y B
  ·show (D.m (num k):Int)=S.SL (ups D.P v (D.P v++[(u:Int)]) (num k)) D.c;rw[aq _ _ (hvl k hk)];exact A.w k hk
end
structure DJ (r0 prow:List AV) (n q i p v u:Nat) (gr:Int) (r5:AV) (num:Nat->Nat) (j:Nat) (t:T) (g:G):Prop where
 st:St t ((13,XL (u:Int))::LDB n q i p v r5)
 hd:∃V E D,DP r0 prow n q i p v gr r5 num g V E D/\(∀y∈D.P v,y<=(u:Int))/\((∃k,k<j/\num k=u)\/∀y∈D.P v,y<(u:Int))
theorem QC{p u:Nat}{y1 y2:UInt8}{num:Nat->Nat}(hn:1<=n/\n<=5)(h5:IT 0 pl r5)(hN:Num n pl num)(hi:i<n)(hv:v=num i)(hu:u<n)
  (h0:DJ r0 [u8v y1,u8v y2,wv] n q i p v u gr r5 num 0 t g) (h14:tat t 14=XL 0)
  (fin:∀t g,DJ r0 [u8v y1,u8v y2,wv] n q i p v u gr r5 num i t g->Q (.exit 6) t [] g):wpL (wp C0 d none fH) Q t [] g:=by
 have z:∀h,ak h 1 r5=some (pl.map ci):=λh=>(h5.sl h).ints;have m:v<n:=by rw[hv];exact hN.lt i hi
 have O:∀k,i<k->k<n->num k≠v:=λk h1 h2 e=>by have:=hN.inj k i h2 hi (by rw[e,hv]);omega
 have R:∀k,k<i->num k≠v:=λk h1 e=>by have:=hN.inj k i (by omega) hi (by rw[e,hv]);omega
 obtain⟨FR,C⟩:∃FR,FR=Bd:=⟨_,rfl⟩;simp only[fH,kK];rw[show (SC.feet [0,1,0,0,8,0,56,120,248,0,512,2040,4095,8191,16383] [oF 131 1 4,oL 132 131,oM 133 12,oF 134 1 4,oL 135 134,oM 136 12,Xg 137 3 135 136,oF 138 1 137,oL 139 138,oM 140 13,XD 141 140,Xw 142 1 8 139 141,Xg 143 3 132 133,oF 144 1 143,Xc 1 144 142])=FR from C.symm];refine jE i (by omega) (λj t df g=>df=[]/\DJ r0 [u8v y1,u8v y2,wv] n q i p v u gr r5 num j t g) ⟨rfl,h0⟩ h14 (by decide) ?_ ?_ ?_ ?_
 ·rintro j t df g w s (rfl|rfl|rfl) ⟨a1,⟨b1,b2,Z,b4,b5,b6,b7,b8,b9,-⟩,c⟩<;>exact⟨a1,by simp[St,LDB,sx,b1,b2,Z,b4,b5,b6,b7,b8,b9],c⟩
 ·rintro j t df g U ⟨rfl,⟨a,h1,h2,h3,h4,h5,h10,b,f,-⟩,hD⟩ h14;simp only[sz,simprocAttr,h14,h10];exact⟨by simp[St,LDB,sx,a,h1,h2,h3,h4,h5,h10,b,f],hD⟩
 ·rintro j t df g U ⟨rfl,⟨a,h1,h2,h3,h4,h5,h10,b,f,-⟩,V,E,D,r,x,F⟩ h14;obtain⟨kp,-,-⟩:=r.p;have kp:g.h.get p=W8 3 [[u8v y1,u8v y2,wv]]:=kp;obtain⟨kq,h6,h7⟩:=r.dn.q (.inl rfl);have rns:=r.dn.ns.rows;have H:=wV r.dn.ns (by simp;omega);have I:j<(pl.map ci).length:=by rw[TT,hN.len];omega
  have J:(pl.map ci)[j]?=some (ci (num j:Int)):=by rw[TK,hN.at_ j (by omega)];rfl
  have u3:v<((List.range n).map (gz D V)).length:=by simpa using m
  have W:((List.range n).map (gz D V))[v]?=some [XL (D.c v),V (v+1,0),V (v+1,1)]:=gP (gz D V) m;have M:=r.dn.bn.ps v m;have A:∀g2:G,cH .slice (V (v+1,0)) g2=.val (XL ((D.P v).length:Int)):=λg2=>by have:=(r.dn.hp.own (.inl (LN.p m)) M.1).rows;rw[j9 this];simp
  have w1:IntKind.wrap .u64 (j:Int)=(j:Int):=ut (by omega) (by omega);obtain⟨X,B⟩:=Co y2.toNat j;obtain⟨Y,S⟩:=Cn X 1;have l:(∃k,k<j+1/\num k=u)\/∀y∈D.P v,y<(u:Int):=by
   rcases F with⟨k,h1,h2⟩|h
   ·exact .inl ⟨k,by omega,h2⟩
   ·exact .inr h
  have o:ct .and (.int .u8 (X:Int)) (.int .u8 1)=.val (.int .u8 Y):=S
  by_cases c1:(num j:Int)=(u:Int)
  ·by_cases c2:Y=1
   ·by_cases c3:((D.P v).length:Int)<3
    ·simp only[sz,simprocAttr,h14,h5,a,z,I,J,ci,c1,b,kp,u8v,w1,B,o,c2,h4,kq,f,rns,u3,W,H,A,c3];rw[C];refine OM (n:=n) (q:=q) (i:=i) (p:=p) (v:=v) (u:=u) (r5:=r5) (num:=num) hn m O hu R ⟨j,U,by omega⟩ ?_ ?_ ?_ ?_ r (by omega) (rest:=[]) ?_
     ·rcases F with⟨k,h1,h2⟩|h
      ·have:=hN.inj k j (by omega) (by omega) (by omega);omega
      ·exact h
     ·simp[sx,h4]
     ·simp[sx,f]
     ·simp[sx,a]
     intro t' g' V' E' D' N L K;simp only[sy];have hs:∀s,s<131->tat t' s=_:=λs h=>N s (.inl h);refine⟨⟨?_,V',E',D',K,λy hy=>?_,.inl ⟨j,by omega,by omega⟩⟩,?_⟩
     ·simp[St,LDB,hs,sx,a,h1,h2,h3,h4,h5,h10,b,f]
     ·rw[L]at hy;rcases Uk.1 hy with h|h
      ·exact x y h
      ·rw[UX.1 h];exact WJ _
     ·simp[hs,sx,h14]
    ·simp only[sz,simprocAttr,h14,h5,a,z,I,J,ci,c1,b,kp,u8v,w1,B,o,c2,h4,kq,f,rns,u3,W,H,A,c3];exact⟨by simp[St,LDB,sx,a,h1,h2,h3,h4,h5,h10,b,f],V,E,D,r,x,l⟩
   ·simp only[sz,simprocAttr,h14,h5,a,z,I,J,ci,c1,b,kp,u8v,w1,B,o,c2];exact⟨by simp[St,LDB,sx,a,h1,h2,h3,h4,h5,h10,b,f],V,E,D,r,x,l⟩
  ·simp only[sz,simprocAttr,h14,h5,a,z,I,J,ci,c1];exact⟨by simp[St,LDB,sx,a,h1,h2,h3,h4,h5,h10,b,f],V,E,D,r,x,l⟩
 ·rintro t df g ⟨rfl,h⟩;exact fin t g h
structure DK (r0 prow:List AV) (n q i p v:Nat) (gr:Int) (r5:AV) (num:Nat->Nat) (j:Nat) (t:T) (g:G):Prop where
 st:St t (LDB n q i p v r5)
 hd:∃V E D,DP r0 prow n q i p v gr r5 num g V E D/\∀y∈D.P v,y<(j:Int)
theorem QD{p:Nat}{y1 y2:UInt8}{num:Nat->Nat}(hn:1<=n/\n<=5)(h5:IT 0 pl r5)(hN:Num n pl num)(hi:i<n)(hv:v=num i)
  (h0:DK r0 [u8v y1,u8v y2,wv] n q i p v gr r5 num 0 t g) (h13:tat t 13=XL 0)
  (fin:∀t g,DK r0 [u8v y1,u8v y2,wv] n q i p v gr r5 num n t g->Q (.exit 4) t [] g):wpL (wp C0 d none fI) Q t [] g:=by
 simp only[fI,kN];refine jE n (by omega) (λj t df g=>df=[]/\DK r0 [u8v y1,u8v y2,wv] n q i p v gr r5 num j t g) ⟨rfl,h0⟩ h13 (by decide) ?_ ?_ ?_ ?_
 ·rintro j t df g w s (rfl|rfl|rfl) ⟨a1,⟨b1,b2,A,B,C,F,H,I,-⟩,c⟩<;>exact⟨a1,by simp[St,LDB,sx,b1,b2,A,B,C,F,H,I],c⟩
 ·rintro j t df g z ⟨rfl,⟨h1,h2,h3,h4,h5,h10,k,a,-⟩,f⟩ h13;simp only[sz,simprocAttr,h13,h3];exact⟨by simp[St,LDB,sx,h1,h2,h3,h4,h5,h10,k,a],f⟩
 ·rintro j t df g z ⟨rfl,⟨h1,h2,h3,h4,e,h10,k,a,-⟩,V,E,D,f,hlt⟩ h13;simp only[sz,simprocAttr];refine QC (u:=j) hn h5 hN hi hv z ⟨by simp[St,LDB,sx,h13,h1,h2,h3,h4,e,h10,k,a],V,E,D,f,λy hy=>Int.le_of_lt (hlt y hy),.inr hlt⟩ (by simp[sx]) ?_;rintro t2 g2 ⟨⟨x,J,k2,K,L,M,m,o,r,-⟩,V2,E2,D2,l,b,-⟩;simp only[sx,sy,↓reduceIte];exact⟨⟨by simp[St,LDB,J,k2,K,L,M,m,o,r],V2,E2,D2,l,λy hy=>by have:=b y hy;omega⟩,x⟩
 ·rintro t df g ⟨rfl,h⟩;exact fin t g h
def Bm:SC:=.feet [0,1,0,0,8,0,56,120,248,0,512,0,2048,0,14336,30720,63488,0,131072,0,0,1048576,0,7340032,15728640,32505856,66060288,133693440,268434944,536870400,1073741816,2147483647,4294967295,8589934591] [oF 153 1 4,oL 154 153,oM 155 12,oF 156 1 4,oL 157 156,oM 158 12,Xg 159 3 157 158,oF 160 2 159,oL 161 160,oF 162 0 4,oL 163 162,oF 164 1 4,oL 165 164,oM 166 12,Xg 167 3 165 166,oF 168 0 167,oL 169 168,oF 170 2 11,oL 171 170,oM 172 15,oF 173 1 4,oL 174 173,oM 175 12,Xg 176 3 174 175,oF 177 0 176,oL 178 177,oA 179 178,W9 180 .mul 172 179,Xv 181 50 163 169 171 180,XE 182 181,Xw 183 1 24 161 182,Xg 184 3 154 155,oF 185 2 184,Xc 1 185 183]
structure DQ (r0 prow:List AV) (n q i p v j:Nat) (gr:Int) (r5:AV) (num:Nat->Nat) (P0:List Int) (c0:Nat->Int) (g:G) (V:Ky->AV) (E:Ky->En) (D:ND):Prop where
 dn:DN X2 r0 n q 1000 gr V E D g
 pb:V (0,2)=XM p/\E (0,2)=.bx prow
 db:DB D n i v num
 mv:D.m v=j
 pv:D.P v=P0
 cv:D.c=c0
 ok:DOk gr D n i num
theorem DQ.p{r0 prow:List AV}{n q i p v j:Nat}{gr:Int}{r5:AV}{num:Nat->Nat}{P0:List Int}{c0:Nat->Int}{g:G}{V:Ky->AV}{E:Ky->En}{D:ND}(h:DQ r0 prow n q i p v j gr r5 num P0 c0 g V E D):g.h.get p=W8 prow.length [prow]/\2<=p/\p<g.nx:=by obtain⟨id,h1,h2,h3,h4⟩:=h.dn.hp.box (k:=(0,2)) (.inr (.inr rfl)) h.pb.2;rw[h.pb.1]at h3;injection h3 with h3;subst h3;exact⟨h4,h1,h2⟩
theorem ON{p j kk:Nat}{y1 y2:UInt8}{W:List UInt8}{num:Nat->Nat}{P0:List Int}{c0:Nat->Int}{V:Ky->AV}{E:Ky->En}(hd:0<d)(hn:1<=n/\n<=5)(hv:v<n)(hvi:∀k,i<k->k<n->num k≠v)(hvl:∀k,k<i->num k≠v)(hj:j<64)(hgr:0<=gr/\gr<=60)(hwv:SlR NoP kk .nil W wv)
  (h4:tat t 4=XM q) (h11:tat t 11=XM p) (h12:tat t 12=XL (v:Int)) (h15:tat t 15=XL (j:Int)) (hP:DQ r0 [u8v y1,u8v y2,wv] n q i p v j gr r5 num P0 c0 g V E D)
  (fin:∀t' g' V' E' D',(∀s,(s<153\/185<s)->tat t' s=tat t s)->DQ r0 [u8v y1,u8v y2,wv] n q i p v (j+1) gr r5 num P0 c0 g' V' E' D'->Q .norm t' [] g') :
  wp C0 d none Bm Q t [] g:=by
 have A:=hP.dn;obtain⟨kq,ha,hb⟩:=A.q (.inl rfl);obtain⟨kp,-,h9⟩:=hP.p;have kp:g.h.get p=W8 3 [[u8v y1,u8v y2,wv]]:=kp;unfold Bm;have rns:=A.ns.rows;have S:=wV A.ns (by simp;omega);have u3:v<((List.range n).map (gz D V)).length:=by simpa using hv
 have u4:=gP (gz D V) hv;have X:((List.range n).map (gz D V))[v]?=some [XL (D.c v),V (v+1,0),V (v+1,1)]:=u4;have h3:=A.bn.rs v hv;have h8:=A.hp.nx;obtain⟨C,hC,h6⟩:∃C:Nat,D.c v=(C:Int)/\(C=2\/C=3):=by
  rcases hP.db.c v hv with h|h
  ·exact⟨2,h,.inl rfl⟩
  ·exact⟨3,h,.inr rfl⟩
 have h7:j*(C+1)<=64*4:=W7 (by omega) (by omega);have w1:IntKind.wrap .i64 ((C:Int)+1)=((C+1:Nat):Int):=by rw[ap (by omega) (by omega)];rfl
 have w2:IntKind.wrap .i64 ((j:Int)*((C+1:Nat):Int))=((j*(C+1):Nat):Int):=by rw[<-UW,ap (by omega) (by omega)]
 rw[hC]at X;simp only[sz,simprocAttr,sf,h4,h11,h12,h15,kq,kp,rns,u3,X,S,w1,w2,AG];refine bi (QR (C:=C) (F:=j*(C+1)) (gr:=gr) (l:=W) hd (by omega) (by omega) hgr hwv) ?_;rintro r ⟨l,⟨hl,M⟩,_,e1,hr⟩;injection e1 with e1;subst e1;have O:=hr.cell;simp only[sz,simprocAttr,sf,O.1,O.2];refine (A.hp.step (g':=_) ?_ ?_).app2 (k:=(v+1,1)) (.inl (LN.r hv)) h3.1 (new:=[[r]]) (by simp[sx,sy]) (by unfold aQ;simp;rw[hP.mv];omega) λv1 g1 H n1 fb1 fo1 lg1 vc vt=>?_
 ·simp;omega
 ·intro i _ hi;simp[RQ];omega
 simp only[sx,sy]at n1 fb1 fo1 lg1;have Z:¬LNX X2 n D (v+1,2+j):=by
  rintro (h|h)
  ·rcases h with h|⟨i',q',h,-,hq⟩
   ·simp at h
   ·rw[hP.db.o]at hq;simp only[Prod.mk.injEq]at h;omega
  ·rcases h with h|h<;>simp at h
 have H:=H.off (x:=r) Z;have K:ups (ups V (v+1,1) v1) (v+1,2+j) r (0,0)=V (0,0):=by rw[aq _ _ (by simp),aq _ _ (by simp)]
 have I:ups E (v+1,1) (.sl 1 ((List.range (D.m v)).map (Hs V v)++[[r]])) (0,0)=.sl 3 ((List.range n).map (gz D V)):=by rw[aq _ _ (by simp)];exact A.bn.ns
 have rns1:ak g1.h 3 (V (0,0))=some ((List.range n).map (gz D V)):=by rw[<-K];exact (H.own (k:=(0,0)) (.inl LN.z) I).rows
 simp only[sz,simprocAttr,sf,rns1,u3,S];refine (H.same (g':=_) ?_ ?_).putv (k:=(0,0)) (.inl LN.z) K (row':=[XL (C:Int),V (v+1,0),v1]) I u4 (by rw[vc];rfl) vt (by rw[vc,gz,hC];rfl) λg2 hH2 n2 fb2 fo2=>?_
 ·simp
 ·simp;omega
 simp only[sy];refine⟨?_,?_⟩
 ·simp only[Uf,Ug,Ud,T4];refine aN (false::(Xo (Xn (Xn (Xn (true::(true::(Xp (true::[]))))))))) [(0,29),(1,29),(2,29),(3,29),(4,29),(5,29),(6,29),(7,29),(8,29),(0,30),(1,30),(2,30)] (by simp[All2,am,aE]) (by decide) ?_;have L:∀i∈g1.lg,i≠q:=λi hi e=>by
   rcases lg1 i hi with h|h|h
   ·simp at h
   ·exact DW A.hp (.inl (LN.r hv)) (.inr (.inl rfl)) (by simp) h (by rw[A.vb,e];rfl)
   ·omega
  obtain⟨id0,ep0,h5,U⟩:∃id ep,id<g.nx/\V (0,0)=.hsl id ep 0 ((List.range n).map (gz D V)).length none:=by
   rcases A.ns with⟨h,e⟩|⟨id,ep,lo,-,h1,h2,-⟩
   ·have:=congrArg List.length e;simp at this;omega
   ·exact⟨id,ep,h1,h2⟩
  have J:∀i∈g1.lg,i≠id0:=λi hi e=>by
   rcases lg1 i hi with h|h|h
   ·simp at h
   ·exact DW A.hp (.inl (LN.r hv)) (.inl LN.z) (by simp) h (by rw[U,e];rfl)
   ·omega
  rintro p N x y hx hy;simp only[Us,TY,Wt]at N;rcases N with rfl|rfl|rfl|rfl|rfl|rfl|rfl|rfl|rfl|rfl|rfl|rfl<;>(simp at hx hy;subst hx;subst hy;refine dh rfl rfl rfl rfl ?_ ?_ ?_<;>simp[am,aE,an,U,jF]<;>first|omega|exact L|exact J|exact λi hi e=>L i hi e.symm|exact λi hi e=>J i hi e.symm)
 have Y:=hP.mv;refine fin _ _ (ups (ups V (v+1,1) v1) (v+1,2+j) r) _ { D with m:=ups D.m v (j+1),R:=ups D.R v (ups (D.R v) j l) } (λs hs=>?_) ⟨⟨(hH2.same (g':=_) (by simp) (by simp)).sub λk hk=>hk,⟨?_,λu hu=>?_,λu hu=>?_,λu r' hu b=>?_⟩,?_,?_,?_,?_⟩,⟨?_,?_⟩,⟨hP.db.c,hP.db.p,λu hu=>?_,hP.db.o,λk hk hkn=>?_⟩,aM _ _ _,hP.pv,hP.cv,?_⟩
 ·simp only[nA]
  repeat rw[TN (by omega)]
 ·rw[aM,oY _ _ hv];congr 1;refine A6 ?_ λj hj hne=>by simp[gz,aq,hne]
  show _=[XL (D.c v),ups (ups V (v+1,1) v1) (v+1,2+j) r (v+1,0),ups (ups V (v+1,1) v1) (v+1,2+j) r (v+1,1)];rw[hC,aq _ _ (by first| (simp;done)| (simp;omega)),aq _ _ (by first| (simp;done)| (simp;omega)),aq _ _ (by first| (simp;done)| (simp;omega)),aM]
 ·rw[aq _ _ (by simp),aq _ _ (by simp)];exact A.bn.ps u hu
 ·by_cases e:u=v
  ·subst e;rw[aq _ _ (by simp),aM];show En.sl 1 _=En.sl 1 ((List.range (ups D.m u (j+1) u)).map _)/\ups D.m u (j+1) u<=1000;rw[aM];refine⟨?_,by omega⟩;rw[Y,VL,U_];congr 2
   ·exact U8 λr' b=>by have:=T8.1 b;simp[Hs,aq,show ¬r'=j by omega,show ¬2+r'=1 by omega]
   ·simp[Hs,aM]
  ·rw[aq _ _ (by simp),aq _ _ (by simp[e])];show E (u+1,1)=En.sl 1 ((List.range (ups D.m v (j+1) u)).map _)/\ups D.m v (j+1) u<=1000;rw[aq _ _ e];have:=A.bn.rs u hu;refine⟨?_,this.2⟩;rw[this.1];congr 1;exact U8 λr' _=>by simp[Hs,aq,e]
 ·by_cases e:u=v
  ·subst e;have b:r'<ups D.m u (j+1) u:=b;rw[aM]at b;show (ups D.R u (ups (D.R u) j l) u r').length<=1000/\((r'<D.o u/\_=En.sl 1 ((ups D.R u (ups (D.R u) j l) u r').map ci))\/SlR NoP 0 .nil (ups D.R u (ups (D.R u) j l) u r') _);rw[aM]
   by_cases e2:r'=j
   ·subst e2;rw[aM,aM];exact⟨by omega,.inr hr⟩
   ·rw[aq _ _ e2,aq _ _ (by first| (simp;done)| (simp;omega)),aq _ _ (by first| (simp;done)| (simp;omega)),aq _ _ (by simp[e2]),aq _ _ (by first| (simp;done)| (simp;omega))];exact A.bn.rr u r' hu (by omega)
  ·have b:r'<ups D.m v (j+1) u:=b;rw[aq _ _ e]at b;show (ups D.R v (ups (D.R v) j l) u r').length<=1000/\((r'<D.o u/\_=En.sl 1 ((ups D.R v (ups (D.R v) j l) u r').map ci))\/SlR NoP 0 .nil (ups D.R v (ups (D.R v) j l) u r') _);rw[aq _ _ e,aq _ _ (by first| (simp;done)| (simp;omega)),aq _ _ (by first| (simp;done)| (simp;omega)),aq _ _ (by simp[e]),aq _ _ (by simp[e])];exact A.bn.rr u r' hu b
 ·rw[aq _ _ (by simp),aq _ _ (by simp)];exact A.vb
 ·rw[aq _ _ (by simp),aq _ _ (by simp),aq _ _ (by simp),aq _ _ (by simp)];exact A.bx
 ·simp only[bumpG_h];rw[fb2 0 (by omega)];simp;rw[fb1 0 (by omega),TN (by omega),A.h0]
 ·simp only[bumpG_h];rw[fb2 1 (by omega)];simp;rw[fb1 1 (by omega),TN (by omega),A.h1]
 ·rw[aq _ _ (by simp),aq _ _ (by simp)];exact hP.pb.1
 ·rw[aq _ _ (by simp),aq _ _ (by simp)];exact hP.pb.2
 ·show ups D.m v (j+1) u<=64
  by_cases e:u=v
  ·rw[e,aM];omega
  ·rw[aq _ _ e];exact hP.db.m u hu
 ·show D.P (num k)=[]/\ups D.m v (j+1) (num k)=0;rw[aq _ _ (hvi k hk hkn)];exact hP.db.f k hk hkn
 ·have B:=hP.ok;refine⟨B.s,B.a,λk hk=>?_,λu r' hu b=>?_⟩
  ·show ((ups D.m v (j+1) (num k):Nat):Int)=_;rw[aq _ _ (hvl k hk)];exact B.w k hk
  ·show NT gr (D.c u) (ups D.R v (ups (D.R v) j l) u r');have b:r'<ups D.m v (j+1) u:=b
   by_cases e:u=v
   ·rw[e,aM]at b ⊢
    by_cases e2:r'=j
    ·rw[e2,aM,hC];exact M
    ·rw[aq _ _ e2];exact B.r v r' hv (by omega)
   ·rw[aq _ _ e]at b ⊢;exact B.r u r' hu b
theorem IK(hv:v<n)(hp:∀y∈D.P v,0<=y/\y<n):S.RO (S.RN ⟨gr,(List.range n).map D.node⟩) (D.P v)=(D.P v).map λy=>D.c y.toNat:=by
 unfold S.RO S.RN;refine U8 λy hy=>?_;have:=hp y hy;rw[List.map_map];have h:y.toNat<n:=by omega
 simp[h,ND.node]
theorem A5(hv:v<n)(hc:∀u,u<n->D.c u=2\/D.c u=3)(hp:(D.P v).length<=3/\∀y∈D.P v,0<=y/\y<n):(∀c∈(D.P v).map λy=>D.c y.toNat,1<=c/\c<=4)/\1<=S.SL (D.P v) D.c/\S.SL (D.P v) D.c<=64:=by
 have h1:∀c∈(D.P v).map λy=>D.c y.toNat,1<=c/\c<=4:=λc h=>by obtain⟨y,k,rfl⟩:=UF.1 h;have:=hp.2 y k;have:=hc y.toNat (by omega);omega
 have h2:=bG h1;have h3:=eP (a:=((D.P v).map λy=>D.c y.toNat).length) (b:=3) (by simpa using hp.1);have h4:(4:Int) ^ 3=64:=by decide
 refine⟨h1,h2.1,?_⟩;unfold S.SL;omega
structure DRw (r0 prow:List AV) (n q i p v j:Nat) (gr:Int) (r5:AV) (num:Nat->Nat) (P0:List Int) (c0:Nat->Int) (t:T) (g:G):Prop where
 st:St t (LDB n q i p v r5)
 hd:∃V E D,DQ r0 prow n q i p v j gr r5 num P0 c0 g V E D
theorem QE{p kk:Nat}{y1 y2:UInt8}{W:List UInt8}{num:Nat->Nat}{P0:List Int}{c0:Nat->Int}(hd:0<d)(hn:1<=n/\n<=5)(hv:v<n)(hvi:∀k,i<k->k<n->num k≠v)(hvl:∀k,k<i->num k≠v)(hgr:0<=gr/\gr<=60)(hwv:SlR NoP kk .nil W wv)
  (h0:DRw r0 [u8v y1,u8v y2,wv] n q i p v 0 gr r5 num P0 c0 t g) (h15:tat t 15=XL 0)
  (fin:∀(t:T) (g:G) (j:Nat),(j:Int)=S.SL P0 c0->DRw r0 [u8v y1,u8v y2,wv] n q i p v j gr r5 num P0 c0 t g->Q (.exit 8) t [] g):wpL (wp C0 d none fJ) Q t [] g:=by
 have X:1<=S.SL P0 c0/\S.SL P0 c0<=64:=by obtain⟨-,V,E,D,a⟩:=h0;have:=(A5 hv a.db.c (a.db.p v hv)).2;rw[a.pv,a.cv]at this;exact this
 obtain⟨M,o⟩:=TP (show 0<=S.SL P0 c0 by omega);obtain⟨FR,m⟩:∃FR,FR=Bm:=⟨_,rfl⟩;simp only[fJ];rw[show (SC.feet [0,1,0,0,8,0,56,120,248,0,512,0,2048,0,14336,30720,63488,0,131072,0,0,1048576,0,7340032,15728640,32505856,66060288,133693440,268434944,536870400,1073741816,2147483647,4294967295,8589934591] [oF 153 1 4,oL 154 153,oM 155 12,oF 156 1 4,oL 157 156,oM 158 12,Xg 159 3 157 158,oF 160 2 159,oL 161 160,oF 162 0 4,oL 163 162,oF 164 1 4,oL 165 164,oM 166 12,Xg 167 3 165 166,oF 168 0 167,oL 169 168,oF 170 2 11,oL 171 170,oM 172 15,oF 173 1 4,oL 174 173,oM 175 12,Xg 176 3 174 175,oF 177 0 176,oL 178 177,oA 179 178,W9 180 .mul 172 179,Xv 181 50 163 169 171 180,XE 182 181,Xw 183 1 24 161 182,Xg 184 3 154 155,oF 185 2 184,Xc 1 185 183])=FR from m.symm];refine jE M (by omega) (λj t df g=>df=[]/\DRw r0 [u8v y1,u8v y2,wv] n q i p v j gr r5 num P0 c0 t g) ⟨rfl,h0⟩ h15 (by decide) ?_ ?_ ?_ ?_
 ·rintro j t df g w s (rfl|rfl|rfl) ⟨a1,⟨b1,b2,H,I,J,K,L,N,-⟩,c⟩<;>exact⟨a1,by simp[St,LDB,sx,b1,b2,H,I,J,K,L,N],c⟩
 ·rintro j t df g O ⟨rfl,⟨h1,h2,h3,h4,h5,h10,e,b,-⟩,V,E,D,a⟩ h15;obtain⟨kq,R,U⟩:=a.dn.q (.inl rfl);have f:=a.dn.bn.nodes a.dn.hp (λk h=>.inl h) (by omega) (by omega);have u:Agg (⟨gr,(List.range n).map D.node⟩:Net) (λj=>2<=j) 0 g.h (.agg [XL gr,V (0,0)]):=⟨_,rfl,ie.2 ⟨_,rfl,f⟩⟩;have l:=a.db.p v hv;obtain⟨r,er,hr⟩:=Ka (d:=d) (g:=g) (i:=v) (x:=D.node v) hd u (by simp;omega) (by simp[hv]) (by show (D.P v).length<_;omega) (λy hy=>by have:=l.2 y hy;simp;omega);have z:=IK (gr:=gr) hv l.2;have hb:=A5 hv a.db.c l;have A:=Nb (d:=d) (g:=g) hd (hr.sl g.h);have C:S.Sr (S.RO (S.RN ⟨gr,(List.range n).map D.node⟩) (D.node v).parents)=(M:Int):=by show S.Sr (S.RO (S.RN ⟨gr,(List.range n).map D.node⟩) (D.P v))=(M:Int);rw[z,x9 hb.1 (by simp;omega),<-o,S.SL,<-a.pv,<-a.cv]
  rw[C]at A;simp only[sz,simprocAttr,h15,h4,kq,b,er,A];exact⟨by simp[St,LDB,sx,h1,h2,h3,h4,h5,h10,e,b],V,E,D,a⟩
 ·rintro j t df g O ⟨rfl,⟨h1,h2,h3,h4,h5,h10,e,b,-⟩,V,E,D,a⟩ h15;rw[m];refine ON (n:=n) (q:=q) (i:=i) (p:=p) (v:=v) (j:=j) (r5:=r5) (num:=num) hd hn hv hvi hvl (by omega) hgr hwv h4 e b h15 a ?_;intro t' g' V' E' D' F B;have hs:∀s,s<153->tat t' s=tat t s:=λs h=>F s (.inl h);rw[DX];exact⟨⟨rfl,by simp[St,LDB,hs,h1,h2,h3,h4,h5,h10,e,b],V',E',D',B⟩,by rw[hs 15 (by omega),h15]⟩
 ·rintro t df g ⟨rfl,h⟩;exact fin t g M o.symm h
structure DBl (D:ND) (n i:Nat) (num:Nat->Nat):Prop where
 c:∀u,u<n->D.c u=2\/D.c u=3
 p:∀u,u<n->(D.P u).length<=3/\∀y∈D.P u,0<=y/\y<n
 m:∀u,u<n->D.m u<=64
 o:∀u,D.o u=0
 f:∀k,i<=k->k<n->D.P (num k)=[]/\D.m (num k)=0
structure DL (r0:List AV) (n q:Nat) (gr:Int) (r5:AV) (num:Nat->Nat) (i:Nat) (t:T) (g:G):Prop where
 st:St t (LDA n q r5)
 hd:∃V E D,DN X1 r0 n q 1000 gr V E D g/\DBl D n i num/\DOk gr D n i num
theorem OE:∀k,LNX X1 n D k->LNX X2 n D k:=λk h=>by
 rcases h with h|h
 ·exact .inl h
 ·exact .inr (.inl h)
theorem OL{kk:Nat}{x:xn}{a:AV}{num:Nat->Nat}(hd:0<d)(hgr:0<=gr/\gr<=60)(hn:1<=n/\n<=5)(ha:SlR NoP kk .nil x.2.1 a)(h5:IT 0 pl r5)(hN:Num n pl num)
  (h0:DL [u8v x.1,a,b] n q gr r5 num 0 t g) (h10:tat t 10=XL 0)
  (fin:∀t g,DL [u8v x.1,a,b] n q gr r5 num n t g->Q (.exit 2) t [] g):wpL (wp C0 d none eU) Q t [] g:=by
 obtain⟨pr,r1,r2,r3,r4⟩:=ha.all;have r1:∀h',ak h' 3 a=some pr:=r1;have la:=ha.len;have h9:=ha.1;have h8:∀h,ak h 1 r5=some (pl.map ci):=λh=>(h5.sl h).ints;simp only[eU,jO];refine jE n (by omega) (λj t df g=>df=[]/\DL [u8v x.1,a,b] n q gr r5 num j t g) ⟨rfl,h0⟩ h10 (by decide) ?_ ?_ ?_ ?_
 ·rintro j t df g v s (rfl|rfl|rfl) ⟨a1,⟨b1,b2,b3,b4,b5,-⟩,c3⟩<;>exact⟨a1,by simp[St,LDA,sx,b1,b2,b3,b4,b5],c3⟩
 ·rintro j t df g I ⟨rfl,⟨h1,h2,h3,h4,h5,-⟩,B⟩ h10;simp only[sz,simprocAttr,h10,h3];exact⟨by simp[St,LDA,sx,h1,h2,h3,h4,h5],B⟩
 ·rintro j t df g I ⟨rfl,⟨h1,h2,h3,h4,l,-⟩,V,E,D,B,hb,Y⟩ h10;obtain⟨p,hp⟩:∃p,p=g.nx:=⟨_,rfl⟩;have hc:=B.hp.nx;refine iX (P:=λt' df g'=>df=[]/\g'=g.new (W8 3 [[.int .u8 0,.int .u8 0,.nils]])/\St t' ((10,XL (j:Int))::(11,XM p)::LDA n q r5)) ?_ ?_
  ·simp only[sz,simprocAttr];simp[St,LDA,sx,h1,h2,h3,h4,l,h10,hp]
  clear h1 h2 h3 h4 l h10;rintro t df g1 ⟨rfl,H,⟨h10,A,h1,h2,h3,h4,l,-⟩⟩;have f1:Fr g g1:=by rw[H];exact Fr.new _ _
  have R:g1.h.get p=W8 3 [[.int .u8 0,.int .u8 0,.nils]]:=by rw[H,hp];simp[RQ]
  have n1:p<g1.nx:=by rw[H,hp];simp
  clear H;have L:=B.same f1;have e0:=L.h0;refine iX (P:=λt' df g'=>df=[]/\Fr g g'/\St t' ((10,XL (j:Int))::(11,XM p)::LDA n q r5)/\p<g'.nx/\∃(y1 S:UInt8) (W:List UInt8) (wv:AV),SlR NoP kk .nil W wv/\g'.h.get p=W8 3 [[u8v y1,u8v S,wv]]) ?_ ?_
  ·simp only[sz,simprocAttr,h10,h1,e0,la];refine dz (λhb=>?_) (λhb=>?_)
   ·have hb:j<x.2.1.length:=by simpa using hb
    obtain⟨y,U,-,-⟩:=ae hb;obtain⟨row,q1,q2⟩:=r3 j y U;obtain⟨wv,rfl,K⟩:=C_.1 q2;have hlt:j<pr.length:=by omega
    have he:=r4 (by omega);simp only[sz,simprocAttr,h10,h1,e0,r1,hlt,q1,A,R];refine⟨?_,by simp[St,LDA,sx,h1,h2,h3,h4,l,h10,A],by simpa using n1,y.1,y.2.1,y.2.2,wv,K,by simp[RQ]⟩;exact⟨T6 f1.1 (by simp),λi hi=>by simp[RQ,show ¬i=p by omega];exact f1.2 i hi⟩
   ·simp only[sx,sy];exact⟨f1,by simp[St,LDA,sx,h1,h2,h3,h4,l,h10,A],n1,0,0,[],.nils,⟨by show 0<9223372036854775808;decide,rfl⟩,R⟩
  clear h1 h2 h3 h4 l h10 A e0 L R n1 f1;rintro t df g2 ⟨rfl,f2,⟨h10,A,h1,h2,h3,h4,l,-⟩,n2,y1,S,W,wv,K,R⟩;have hH:=B.hp.add (g':=g2) (k:=(0,2)) (L':=LNX X2 n D) (v':=XM p) (e':=.bx [u8v y1,u8v S,wv]) (by
   rintro (h|h)
   ·rcases h with h|⟨i',q',h,-,-⟩<;>simp at h
   ·simp[X1]at h) ⟨p,by omega,n2,rfl,R⟩ f2.1 (λi _ hi=>f2.2 i hi) (λi hi=>by injection hi with hi;omega) (λk hk=>by
   rcases hk with h|h|h
   ·exact .inl (.inl h)
   ·exact .inl (.inr h)
   ·exact .inr h)
  have O:=hb.f j (TG _) I;have h7:=hN.lt j I;have Z:∀k,j<k->k<n->num k≠num j:=λk h1 h2 e=>by have:=hN.inj k j h2 I e;omega
  have h6:∀k,k<j->num k≠num j:=λk h1 e=>by have:=hN.inj k j (by omega) I e;omega
  have N:DP [u8v x.1,a,b] [u8v y1,u8v S,wv] n q j p (num j) gr r5 num g2 (ups V (0,2) (XM p)) (ups E (0,2) (.bx [u8v y1,u8v S,wv])) D:=by
   refine⟨⟨hH,⟨?_,λu hu=>?_,λu hu=>?_,λu r hu hr=>?_⟩,?_,?_,by rw[f2.2 0 (by omega),B.h0],by rw[f2.2 1 (by omega),B.h1]⟩,⟨aM _ _ _,aM _ _ _⟩,⟨hb.c,hb.p,hb.m,hb.o,λk h1 h2=>hb.f k (by omega) h2⟩,O.2,Y⟩
   ·rw[aq _ _ (by simp),B.bn.ns];exact congrArg (En.sl 3) (U8 λu _=>by simp[gz,aq])
   ·rw[aq _ _ (by simp)];exact B.bn.ps u hu
   ·rw[aq _ _ (by simp)];have:=B.bn.rs u hu;refine⟨?_,this.2⟩;rw[this.1];exact congrArg (En.sl 1) (U8 λr _=>by simp[Hs,aq])
   ·rw[aq _ _ (by simp),aq _ _ (by simp)];exact B.bn.rr u r hu hr
   ·rw[aq _ _ (by simp)];exact B.vb
   ·rw[aq _ _ (by simp),aq _ _ (by simp)];exact B.bx
  have u1:j<(pl.map ci).length:=by rw[TT,hN.len];exact I
  have u2:(pl.map ci)[j]?=some (ci (num j:Int)):=by rw[TK,hN.at_ j I];rfl
  simp only[sz,simprocAttr,jN,l,h10,h8,u1,u2,ci];refine QD (n:=n) (q:=q) (i:=j) (p:=p) (v:=num j) (r5:=r5) (num:=num) hn h5 hN I rfl ⟨by simp[St,LDB,sx,h1,h2,h3,h4,l,h10,A],_,_,_,N,λy U=>by rw[O.1]at U;simp at U⟩ (by simp[sx]) ?_;clear h1 h2 h3 h4 l h10 A N hH;rintro t g3 ⟨⟨h1,h2,h3,h4,l,h10,A,J,-⟩,V3,E3,D3,C,-⟩;simp only[sz,simprocAttr,kP];refine QE (n:=n) (q:=q) (i:=j) (p:=p) (v:=num j) (r5:=r5) (num:=num) (P0:=D3.P (num j)) (c0:=D3.c) hd hn h7 Z h6 hgr K ⟨by simp[St,LDB,sx,h1,h2,h3,h4,l,h10,A,J],V3,E3,D3,C.dn,C.pb,C.db,C.mv,rfl,rfl,C.ok⟩ (by simp[sx]) ?_;clear h1 h2 h3 h4 l h10 A J C;rintro t g4 M X ⟨⟨h1,h2,h3,h4,l,h10,A,J,-⟩,V4,E4,D4,z⟩;simp only[sx,sy,↓reduceIte];have F:=z.dn;refine⟨⟨by simp[St,LDA,h1,h2,h3,h4,l],V4,E4,D4,⟨F.hp.sub OE,F.bn,F.vb,F.bx,F.h0,F.h1⟩,⟨z.db.c,z.db.p,z.db.m,z.db.o,λk hk hkn=>z.db.f k hk hkn⟩,⟨z.ok.s,z.ok.a,λk hk=>?_,z.ok.r⟩⟩,h10⟩
  by_cases e:k=j
  ·rw[e,z.mv,z.pv,z.cv,X]
  ·exact z.ok.w k (by omega)
 ·rintro t df g ⟨rfl,h⟩;exact fin t g h
structure Drafted (m:Net):Prop where
 l:1<=m.nodes.length/\m.nodes.length<=5
 c:∀x∈m.nodes,x.card=2\/x.card=3
 b:∀x∈m.nodes,x.parents.length<=1000/\x.rows.length<=1000/\∀r∈x.rows,r.length<=1000
 nr:NR m
theorem Kd{n:Int}(hs:l.Pairwise (·<·))(hb:∀y∈l,0<=y/\y<n):S.Sa l n=true:=by
 simp only[S.Sa,S.SG,Ue,T8,TM,UB,T9,beq_iff_eq];intro i hi;obtain⟨x,hx⟩:∃x,l[i]?=some x:=⟨_,TH hi⟩;have:=hb x (TL hx);rw[hx,TS];refine⟨this,?_⟩
 by_cases e:i=0
 ·exact .inl e
 ·right;obtain⟨y,h⟩:∃y,l[i - 1]?=some y:=⟨_,TH (by omega)⟩;rw[h,TS];have h1:=(TJ.1 hx).2;have h2:=(TJ.1 h).2;rw[<-h1,<-h2];exact VZ.1 hs (i - 1) i (by omega) hi (by omega)
def MF(num:Nat->Nat):Nat->Nat
 |0=>0
 |k+1=>MF num k ||| S.Sn (num k)
theorem Ea{n:Nat}{pl:List Int}{num:Nat->Nat}(hN:Num n pl num)(hn:n<=64)(v:Nat):∀k,k<=n->((MF num k).testBit v=true↔∃k',k'<k/\num k'=v)
 |0,_=>by simp[MF]
 | k+1,hk=>by
  have hlt:=hN.lt k (by omega);rw[MF,tQ,zN (by omega),UB,T9,Ea hN hn v k (by omega)];constructor
  ·rintro (⟨k',h1,h2⟩|h)
   ·exact⟨k',by omega,h2⟩
   ·exact⟨k,by omega,h⟩
  ·rintro⟨k',h1,h2⟩
   by_cases e:k'=k
   ·subst e;exact .inr h2
   ·exact .inl ⟨k',by omega,h2⟩
theorem Ro{num:Nat->Nat}(hN:Num n pl num)(hn:1<=n/\n<=5)(hgr:1<=gr/\gr<=60)(hb:DBl D n n num)(hok:DOk gr D n n num):NR ⟨gr,(List.range n).map D.node⟩:=by
 have hcl:(S.RN ⟨gr,(List.range n).map D.node⟩)=(List.range n).map D.c:=by unfold S.RN;rw[List.map_map];rfl
 refine⟨hgr.1,hgr.2,by simpa using hn.1,by simp;omega,λx hx=>?_,λx hx=>?_,?_,?_,λx hx=>?_,λx hx r hr=>?_⟩
 ·obtain⟨u,hu,rfl⟩:=UF.1 hx;have:=hb.c u (T8.1 hu);show 1<=D.c u/\D.c u<=4;omega
 ·obtain⟨u,hu,rfl⟩:=UF.1 hx;have hu:=T8.1 hu;refine Kd (hok.s u hu) λy hy=>?_;have:=(hb.p u hu).2 y hy;simpa using this
 ·rw[hcl];have h1:∀c∈(List.range n).map D.c,1<=c/\c<=4:=λc hc=>by obtain⟨u,hu,rfl⟩:=UF.1 hc;have:=hb.c u (T8.1 hu);omega
  have h2:=bG h1;have h3:=eP (a:=((List.range n).map D.c).length) (b:=5) (by simpa using hn.2);have h4:(4:Int) ^ 5=1024:=by decide
  omega
 ·have e:(S.RX ⟨gr,(List.range n).map D.node⟩).length=n:=by simp[S.RX]
  have d:∀v,v<n->Par (S.RX ⟨gr,(List.range n).map D.node⟩) v=S.R0 (D.P v):=λv hv=>by simp[Par,S.RX,hv,ND.node]
  have h:∀k,k<=n->Jj (S.RX ⟨gr,(List.range n).map D.node⟩) (MF num k):=λk=>by
   induction k with
   |zero=>exact λ_=>CO
   | succ k ih =>
    intro hk;have hlt:=hN.lt k (by omega);refine Fm (ih (by omega)) (by omega) λu hu=>?_;rw[d _ hlt]at hu;have hu:=(zk λx hx=>by have:=(hb.p _ hlt).2 x hx;omega).1 hu;obtain⟨k',h1,h2⟩:=hok.a k (by omega) _ hu;exact (Ea hN (by omega) u k (by omega)).2 ⟨k',h1,by omega⟩
  refine vZ (h n (TG _)) λv hv=>?_;rw[e]at hv;exact (Ea hN (by omega) v n (TG _)).2 (hN.sur v hv)
 ·obtain⟨u,hu,rfl⟩:=UF.1 hx;have hu:=T8.1 hu;obtain⟨k,hk,rfl⟩:=hN.sur u hu;show (((List.range (D.m (num k))).map (D.R (num k))).length:Int)=S.RP (S.RO _ (D.P (num k)));rw[IK hu (hb.p _ hu).2];have:=hok.w k hk;unfold S.SL at this;rw[<-this];simp
 ·obtain⟨u,hu,rfl⟩:=UF.1 hx;have hu:=T8.1 hu;obtain⟨r',f,rfl⟩:=UF.1 hr;exact hok.r u r' hu (T8.1 f)
def KQ:VS:=λP k h v=>∃m:Net,Drafted m/\Agg m P k h v
def V0(W:AV)(q:Nat):Ky->AV:=λk=>match k with
 | (0,0)=>W
 | (0,1)=>XM q
 |_=>.nils
def E0(W:AV)(n:Nat)(gr:Int):Ky->En:=λk=>match k with
 | (0,0)=>.sl 3 (List.replicate n [XL 0,.nils,.nils])
 | (0,1)=>.bx [XL gr,W]
 |_=>.sl 1 []
def D0:ND:=⟨λ_=>0,λ_=>[],λ_=>0,λ_ _=>[],λ_=>0⟩
theorem hp0{W:AV}(hW:Own g 2 W 3 (List.replicate n [XL 0,.nils,.nils]))(hq:g.h.get q=W8 2 [[XL gr,W]])(h2:2<=q/\q<g.nx)(hne:vid W≠some q):Hp g 2 (LNX X1 n D0) (V0 W q) (E0 W n gr):=by
 have hk:∀k,LNX X1 n D0 k->k=(0,0)\/k=(0,1)\/∃i s,k=(i+1,s):=λk h=>by
  rcases h with h|h
  ·rcases h with h|⟨i,s,h,-⟩
   ·exact .inl h
   ·exact .inr (.inr ⟨i,s,h⟩)
  ·exact .inr (.inl h)
 refine⟨λk h=>?_,λk l h h' hkl id h1 h3=>?_,by omega⟩
 ·rcases hk k h with rfl|rfl|⟨i,s,rfl⟩
  ·exact hW
  ·exact⟨q,h2.1,h2.2,rfl,hq⟩
  ·exact .inl ⟨rfl,rfl⟩
 ·rcases hk k h with rfl|rfl|⟨i,s,rfl⟩<;>rcases hk l h' with rfl|rfl|⟨i',s',rfl⟩
  ·exact hkl rfl
  ·have h1:eid W=some id:=h1;have h3:some q=some id:=h3;rw[i_ hW]at h1;injection h3 with h3;subst h3;exact hne h1
  ·cases h3
  ·have h3:eid W=some id:=h3;have h1:some q=some id:=h1;rw[i_ hW]at h3;injection h1 with h1;subst h1;exact hne h3
  ·exact hkl rfl
  ·cases h3
  ·cases h1
  ·cases h1
  ·cases h1
theorem Oq{x:Int}(h:w.cells=[w])(h2:w.isTup=false):d7 [XL 0,.nils] [((0,1),XL x),((1,1),w)]=some [XL x,w]:=by
 have k:(XL x).cells=[XL x]:=rfl;have k2:(XL x).isTup=false:=rfl;simp[d7,h,h2,fQ,k,k2]
 rfl
theorem Oo{a:AV}(ha:a.cells=[a]/\a.isTup=false)(hb:b.cells=[b]/\b.isTup=false):d7 [.nils,.int .u16 0,.nils] [((0,1),a),((2,1),b)]=some [a,.int .u16 0,b]:=by
 simp[d7,ha,hb,fQ]
 rfl
theorem Oj{v:AV}{x:xn}(hd:0<d)(hm:Agg x P k g.h v):∃r,ah C0 d 15 [v] g=.val r/\KQ NoP 0 .nil r:=by
 obtain⟨v',e,cs,rfl,hc⟩:=su (cq x) (by decide) d hm;obtain⟨a,b,rfl,ha,hb⟩:=C9.1 hc;have ha:=ha.tree (h':=.nil) (TG _);have hb:=hb.tree (h':=.nil) (TG _);rw[sB];refine aL vo (xs:=[.agg [u8v x.1,a,b]]) (by simp only[aF,e]) (by simp[js]) (md λm=>cq _) (by decide) hd ?_;simp only[sz,simprocAttr,js];obtain⟨g0,hg0⟩:∃g0,g0=(G.empty.new (W8 3 [[u8v x.1,a,b]])).new (W8 2 [[XL 0,.nils]]):=⟨_,rfl⟩;rw[<-hg0];have f0:g0.h.get 0=W8 3 [[u8v x.1,a,b]]:=by rw[hg0];simp[sx,RQ]
 have f1:g0.h.get 1=W8 2 [[XL 0,.nils]]:=by rw[hg0];simp[sx]
 have f2:g0.nx=2:=by rw[hg0];simp[sx]
 clear hg0;have la:=ha.len;have X:=ha.1;unfold lV;obtain⟨n,hn,w⟩:∃n:Nat,n=min (max x.2.1.length 1) 5/\1<=n/\n<=5:=⟨_,rfl,by omega⟩;refine iX (P:=λt' df g'=>df=[]/\g'=g0/\St t' [(1,XM 0),(2,XM 1),(3,XL (n:Int))]) ?_ ?_
 ·simp only[sz,simprocAttr,f0,la];simp[St,sx];omega
 rintro t df g1 ⟨rfl,rfl,h1,h2,h3,-⟩;obtain⟨gr,N,M⟩:∃gr:Int,gr=1+(x.1.toNat:Int) % 60/\0<=gr/\gr<=60:=⟨_,rfl,by omega,by omega⟩;have q1:=lZ .u8 (a:=(x.1.toNat:Int)) (b:=60) (by omega) (by omega);have w1:IntKind.wrap .i64 ((x.1.toNat:Int) % 60)=(x.1.toNat:Int) % 60:=ap (by omega) (by omega);have w2:IntKind.wrap .i64 (1+(x.1.toNat:Int) % 60)=gr:=by rw[N,ap (by omega) (by omega)]
 refine iX (P:=λt' df g'=>df=[]/\∃q V E D,St t' [(1,XM 0),(2,XM 1),(3,XL (n:Int)),(4,XM q)]/\DN X1 [u8v x.1,a,b] n q 1000 gr V E D g'/\(∀u,D.P u=[]/\D.m u=0/\D.o u=0)) ?_ ?_
 ·simp only[sz,simprocAttr,sf,h1,h3,f0,u8v,q1,w1,w2];refine nj (b:=2) (n:=n) (by unfold aQ;omega) (by unfold aQ;omega) (by first| (simp;done)| (simp;omega)) λW g2 hW n2 f2' vW lg2=>?_;simp only[sy]at n2 f2' vW lg2;simp only[sz,simprocAttr,sf,Oq hW.cell.1 hW.cell.2,lg2];have Z:g1.nx+7=g2.nx:=by omega
  have k0:g2.h.get 0=W8 3 [[u8v x.1,a,b]]:=by rw[f2' 0 (by omega),f0]
  have Y:g2.h.get 1=W8 2 [[XL 0,.nils]]:=by rw[f2' 1 (by omega),f1]
  refine⟨?_,g2.nx+1+1,V0 W (g2.nx+1+1),E0 W n gr,D0,by simp[St,sx,h1,h2,h3],⟨hp0 ?_ ?_ ⟨by omega,by simp⟩ ?_,⟨?_,λu _=>⟨rfl,by show 0<=1000;omega⟩,λu _=>⟨rfl,by show 0<=1000;omega⟩,λu r _ hr=>by cases hr⟩,rfl,rfl,?_,?_⟩,λu=>⟨rfl,rfl,rfl⟩⟩
  ·simp only[Uf,Ug,Ud,T4,G.new_lg,G.put_lg,setLog_lg];refine aN (Xp (Xo (true::(false::(true::(true::[])))))) [(0,6),(1,6),(2,6),(3,6),(4,6),(0,8),(1,8),(2,8),(3,8),(4,8),(5,8),(6,8),(7,8)] (by simp[All2,am,aE]) (by decide) ?_;rintro p s x y hx l;simp only[Us,TY,Wt]at s;rcases s with rfl|rfl|rfl|rfl|rfl|rfl|rfl|rfl|rfl|rfl|rfl|rfl|rfl<;>(simp at hx l;subst hx;subst l;refine dh rfl rfl rfl rfl ?_ ?_ ?_<;>simp[am,aE,an]<;>omega)
  ·refine hW.fr (by simp;omega) λi hi=>?_;have:=dv vW hi;simp[RQ,show ¬i=g2.nx+1+1 by omega]
  ·simp[RQ]
  ·intro e;have:=dv vW e;omega
  ·show En.sl 3 (List.replicate n [XL 0,.nils,.nils])=En.sl 3 ((List.range n).map λ_=>[XL 0,.nils,.nils]);congr 1;rw[List.map_const',List.length_range]
  ·simp[RQ,k0];rfl
  ·simp[RQ,Y]
 clear h1 h2 h3;rintro t df g2 ⟨rfl,q,V,E,D,⟨h1,h2,h3,h4,-⟩,J,A⟩;obtain⟨num,hN⟩:=QF x.2.2 n;refine iX (P:=λt' df g'=>df=[]/\Fr g2 g'/\∃r5,IT 0 (S.R_ x.2.2 n) r5/\St t' (LDA n q r5)) ?_ ?_
 ·simp only[sz,simprocAttr,sf,h3];refine nj (b:=2) (n:=n) (by unfold aQ;omega) (by unfold aQ;omega) (by have:=J.hp.nx;first| (simp;done)| (simp;omega)) λU g3 hU n3 C vU lg3=>?_;simp only[sy]at n3 C vU lg3;have e0:g3.h.get 0=W8 3 [[u8v x.1,a,b]]:=by rw[C 0 (by have:=J.hp.nx;omega),J.h0]
  simp only[sz,simprocAttr,sf,h1,e0,Oo hU.cell hb.cell];have L:Own g3 2 U 1 ((List.replicate n (0:UInt8)).map λy=>[u8v y]):=by simpa [u8v] using hU
  have Q:∀B:G,B.h=g3.h->∃r,ah C0 (d+1) 47 [.agg [U,.int .u16 0,b]] B=.val r/\IT 0 (S.R_ x.2.2 n) r:=λB h=>by
   have:=Bf (d:=d+1) (g:=B) (k:=max k d) (P:=λ_=>True) (x:=(List.replicate n (0:UInt8),(0:UInt16),x.2.2)) (v:=.agg [U,.int .u16 0,b]) (TW d) ⟨_,rfl,ui.2 ⟨U,b,rfl,?_,?_⟩⟩
   ·have e:min (List.replicate n (0:UInt8)).length 5=n:=by simp;omega
    rw[e]at this;exact this
   ·rw[h];exact Own.sl (α:=UInt8) L (by simp;omega) (RN (λy=>gT.2 rfl) _) λ_ _=>trivial
   ·exact (hb.tree (h':=B.h) (TG _)).wd λ_ h=>h.elim
  refine bi (Q _ (by simp)) λr hr=>?_;simp only[sz,simprocAttr,sf,lJ];refine⟨?_,⟨?_,λi hi=>?_⟩,r,hr,?_⟩
  ·simp only[Uf,Ug,Ud,T4];refine aN (false::(true::(false::(Xo [])))) [(1,2),(1,3)] (by simp[All2,am,aE]) (by decide) ?_;rintro p s x y hx l;simp only[Us,TY,Wt]at s;rcases s with rfl|rfl<;>(simp at hx l;subst hx;subst l;refine dh rfl rfl rfl rfl ?_ ?_ ?_<;>simp[am,aE,an,lg3])
  ·simp;omega
  ·simp;exact C i (by omega)
  ·simp[St,LDA,sx,h1,h2,h3,h4]
 clear h1 h2 h3 h4;rintro t df g3 ⟨rfl,C,r5,I,⟨h1,h2,h3,h4,h5,-⟩⟩;have F:=J.same C;simp only[sz,simprocAttr];refine QB (n:=n) (q:=q) (x:=x) (gr:=gr) (r5:=r5) (num:=num) w ha I hN ⟨by simp[St,LDA,sx,h1,h2,h3,h4,h5],⟨1,by simp[sx],by decide⟩,V,E,D,F,λv _=>⟨(A v).1,(A v).2.1⟩,λk hk=>by omega,λu=>(A u).2.2⟩ (by simp[sx]) ?_;clear h1 h2 h3 h4 h5 F;rintro t B ⟨⟨h1,h2,h3,h4,h5,-⟩,-,V4,E4,D4,K,f⟩;simp only[sz,simprocAttr,jQ];refine OL (n:=n) (q:=q) (x:=x) (gr:=gr) (r5:=r5) (num:=num) (TW d) M w ha I hN ⟨by simp[St,LDA,sx,h1,h2,h3,h4,h5],V4,E4,D4,K,⟨λu hu=>?_,λu hu=>?_,λu hu=>?_,?_,λk _ hk=>f.e _ (hN.lt k hk)⟩,⟨λu hu=>by rw[(f.e u hu).1];exact .nil,λk hk y l=>by rw[(f.e _ (hN.lt k hk)).1]at l;simp at l,λk hk=>by omega,λu r hu hr=>by rw[(f.e u hu).2]at hr;omega⟩⟩ (by simp[sx]) ?_
 ·obtain⟨k,hk,rfl⟩:=hN.sur u hu;exact f.c k hk
 ·rw[(f.e u hu).1];simp
 ·rw[(f.e u hu).2];omega
 ·exact f.o
 clear h1 h2 h3 h4 h5;rintro t g5 ⟨⟨h1,h2,h3,h4,h5,-⟩,V5,E5,D5,j,H,O⟩;obtain⟨kq,h6,h7⟩:=j.q rfl;simp only[sz,simprocAttr,jP,h4,kq,h2,j.h1];have z:=j.bn.nodes j.hp (λk h=>.inl h) (by omega) (by omega);refine⟨λ_=>True,⟨gr,(List.range n).map D5.node⟩,⟨by simpa using w,λy l=>?_,λy l=>?_,Ro hN w (by omega) H O⟩,⟨_,rfl,ie.2 ⟨_,rfl,z.wd λi hi=>⟨trivial,by simp[RQ,show ¬i=1 by omega]⟩⟩⟩⟩
 ·obtain⟨u,hu,rfl⟩:=UF.1 l;exact H.c u (T8.1 hu)
 ·obtain⟨u,hu,rfl⟩:=UF.1 l;have hu:=T8.1 hu;refine⟨(j.bn.ps u hu).2,?_,λr hr=>?_⟩
  ·show ((List.range (D5.m u)).map (D5.R u)).length<=1000;simpa using (j.bn.rs u hu).2
  ·obtain⟨r',T,rfl⟩:=UF.1 hr;exact (j.bn.rr u r' hu (T8.1 T)).1
def EvV(n:Net):VS:=λP k h v=>∃l:List Int,S.Sc n l=true/\One l P k h v
theorem QY(n:Net):Snb (EvV n) 0:=by
 refine⟨λ{P k h v n} d r hn=>?_,λ{k h v n} r hn=>?_⟩
 ·obtain⟨m,hm,r⟩:=r;obtain⟨v',e,r'⟩:=(aJ m).snap d r hn;exact⟨v',e,m,hm,r'⟩
 ·obtain⟨m,hm,r⟩:=r;exact (aJ m).tag r hn
def evP(n:Net)(l:List Int):Prop:=∀(i:Nat) (x:Int) (c:Node),l[i]?=some x->n.nodes[i]?=some c->-1<=x/\x<c.card
theorem Ol{n:Net}(hl:l.length=n.nodes.length)(h:evP n l):S.Sc n l=true:=by simp only[S.Sc,TM,T9,Ue,T8];refine⟨hl,λi hi=>?_⟩;obtain⟨x,hx⟩:∃x,l[i]?=some x:=⟨_,TH hi⟩;obtain⟨c,hc⟩:∃c,n.nodes[i]?=some c:=⟨_,TH (by omega)⟩;have:=h i x c hx hc;simpa [S.RN,hx,hc] using this
theorem Mp{m:Net}{vs:List UInt8}(hd:0<d)(hv:vs.length=9)(hm:Agg m P k g.h w)(hn:m.nodes.length<=8)(hc:∀x∈m.nodes,0<x.card) :
  ∃r,ah C0 d 31 [.agg (vs.map u8v),w] g=.val r/\EvV m NoP 0 .nil r:=by
 obtain⟨v',e,cs,rfl,D⟩:=su (cq m) (by decide) d hm;obtain⟨b,rfl,hN⟩:=ie.1 D;obtain⟨rows,N,r2,W,Y⟩:=hN.all;have N:∀h',ak h' 3 b=some rows:=N;rw[ux];refine aL wC (xs:=[.agg (vs.map u8v),.agg [XL m.grain,b]]) (by simp only[aF,e,Np]) (by simp[j4]) (QY m) (by decide) hd ?_;obtain⟨cu8,n⟩:∃c,c=vs.map u8v:=⟨_,rfl⟩;have hcl:cu8.length=9:=by rw[n,TT,hv]
 simp only[sz,simprocAttr,j4,<-n];generalize hg0:((G.empty.new (W8 cu8.length [cu8])).new (W8 2 [[AV.int IntKind.i64 m.grain,b]]))=g0;have f0:g0.h.get 0=W8 9 [cu8]:=by rw[<-hg0,hcl];simp[sx,RQ]
 have f1:g0.h.get 1=W8 2 [[XL m.grain,b]]:=by rw[<-hg0];simp[sx]
 have f2:2<=g0.nx:=by rw[<-hg0];simp[sx]
 clear hg0;simp only[sz,simprocAttr,mV];refine jE m.nodes.length (by omega) (λj t df g=>df=[]/\St t [(2,XM 0),(3,XM 1)]/\g.h.get 0=W8 9 [cu8]/\g.h.get 1=W8 2 [[XL m.grain,b]]/\2<=g.nx/\∃u L,tat t 5=u/\L.length=j/\evP m L/\Own g 2 u 1 (L.map ci))
  ⟨rfl,by simp[sx,St],f0,f1,f2,_,[],rfl,rfl,λi x c hx=>by simp at hx,.inl ⟨by simp[sx],rfl⟩⟩ (by simp[sx]) (by decide) (by rintro j t df g v s (rfl|rfl|rfl)<;>simp[sx,St]) ?_ ?_ ?_
 ·rintro j t df g O ⟨rfl,⟨h2,h3,-⟩,e0,e1,p,u,L,h5,hu⟩ h6;simp only[sz,simprocAttr,h2,h3,h6,e0,e1,hN.len,St];exact⟨p,u,L,h5,hu⟩
 ·rintro j t df g O ⟨rfl,⟨h2,h3,-⟩,e0,e1,p,u,L,h5,f,o,hu⟩ h6;obtain⟨x,hx,S,hm⟩:=ae O;obtain⟨row,z1,z2⟩:=W j x hx;obtain⟨fa,fb,rfl,-⟩:=cI.1 z2;have hlt:j<rows.length:=by omega
  have K:=Y (by omega);have I:j<8:=by omega
  obtain⟨Q,M⟩:∃y,vs[0]?=some y:=⟨_,TH (by omega)⟩;have C:cu8[0]?=some (.int .u8 (Q.toNat:Int)):=by rw[n,TK,M];rfl
  obtain⟨y,U⟩:∃y,vs[1+j]?=some y:=⟨_,TH (by omega)⟩;have F:cu8[1+j]?=some (.int .u8 (y.toNat:Int)):=by rw[n,TK,U];rfl
  have V:y.toNat<256:=y.toNat_lt;have E:=hc x hm;obtain⟨z,hz⟩:=Co Q.toNat j;obtain⟨z',q⟩:=Cn z 1;have q:ct .and (.int .u8 (z:Int)) (.int .u8 1)=.val (.int .u8 z'):=q;have Z:IntKind.wrap .i64 (y.toNat:Int)=(y.toNat:Int):=ap (by omega) (by omega);have w9:IntKind.wrap .u64 (j:Int)=(j:Int):=ut (by omega) (by omega);have key:∀(t:T) (X:Int),-1<=X->X<x.card->St t [(2,XM 0),(3,XM 1),(5,u),(6,XL (j:Int)),(7,XL X)] ->
    wp C0 (d+1) none gx (λe t df g=>e=.norm/\(df=[]/\St t [(2,XM 0),(3,XM 1)]/\g.h.get 0=W8 9 [cu8]/\g.h.get 1=W8 2 [[XL m.grain,b]]/\2<=g.nx/\∃u L,tat t 5=u/\L.length=j+1/\evP m L/\Own g 2 u 1 (L.map ci))/\tat t 6=XL (j:Int)) t [] g:=by
   rintro t X A B ⟨h2,h3,h5,h6,h7,-⟩;simp only[sz,simprocAttr,gx,h5,h7];refine bk (new:=[ci X]) (hu.step (Fr.new _ _)) (by simp[sx,sy,ci]) (by simp;omega) (by simp[aQ,f];omega) λv2 g2 hv2 n2 f2 _ l2=>?_;simp only[sz,simprocAttr,h2,h3,h6,St];refine⟨?_,?_,?_,_,L++[X],rfl,by simp[f],?_,?_⟩
   ·rw[f2 0 (by simp) (λe=>by have:=(hu.lt e).1;omega),G.new_h,au _ _ _ (by omega),e0]
   ·rw[f2 1 (by simp;omega) (λe=>by have:=(hu.lt e).1;omega),G.new_h,au _ _ _ (by omega),e1]
   ·simp at n2;omega
   ·intro i a c ha l
    by_cases e:i=j
    ·subst e;rw[hx]at l;injection l with l;subst l;rw[<-f,List.getElem?_concat_length]at ha;injection ha with ha;subst ha;exact⟨A,B⟩
    ·have H:i<L.length:=by have:=(TJ.1 ha).1;simp at this;omega
     rw[T5 H]at ha;exact o i a c ha l
   ·simpa [ci] using hv2
  simp only[sz,simprocAttr,h2,h6,e0,C,w9,hz,q];refine dz (λhb=>?_) (λhb=>?_)
  ·have R:0<=(y.toNat:Int) % x.card:=WT _ (by omega);have J:(y.toNat:Int) % x.card<x.card:=WB _ (by omega);simp only[sz,simprocAttr,h2,h3,h6,e0,e1,Mf 8 1 _ _ _ _ _ I,Nat.mul_one,F,Z,N,hlt,z1,K,lZ .i64 (show 0<=(y.toNat:Int) by omega) E];refine bE _ (key _ ((y.toNat:Int) % x.card) (by omega) J (by simp[St,sx,h2,h3,h5,h6])) ?_;rintro e t df g ⟨rfl,h⟩;exact h
  ·simp only[sx];refine bE _ (key _ (-1) (by omega) (by omega) (by simp[St,sx,h2,h3,h5,h6])) ?_;rintro e t df g ⟨rfl,h⟩;exact h
 ·rintro t df g ⟨rfl,⟨h2,h3,-⟩,e0,e1,p,u,L,h5,f,o,hu⟩;simp only[sz,simprocAttr,lX,h5];exact⟨_,L,Ol f o,hu.ints (by omega)⟩
def Ra(V:Ky->AV)(i:Nat)(c:Int):List AV:=[XL c,V (i+1,0),V (i+1,1)]
structure NdOk (K:Nat) (V:Ky->AV) (E:Ky->En) (i:Nat) (x:Node):Prop where
 ps:E (i+1,0)=.sl 1 (x.parents.map ci)
 rs:∃rws,E (i+1,1)=.sl 1 rws/\rws.length=x.rows.length/\∀(r:Nat) (y:List Int),x.rows[r]?=some y->rws[r]?=some [V (i+1,2+r)]
 rr:∀(r:Nat) (y:List Int),x.rows[r]?=some y->E (i+1,2+r)=.sl 1 (y.map ci)
 len:x.parents.length<=K/\x.rows.length<=K/\∀y∈x.rows,y.length<=K
def LS(L:List Node):Ky->Prop:=λk=>k=(0,0)\/∃i q x,k=(i+1,q)/\L[i]?=some x/\q<2+x.rows.length
structure BLs (K:Nat) (V:Ky->AV) (E:Ky->En) (L:List Node):Prop where
 ns:∃rows,E (0,0)=.sl 3 rows/\rows.length=L.length/\∀(i:Nat) (x:Node),L[i]?=some x->rows[i]?=some (Ra V i x.card)
 nd:∀(i:Nat) (x:Node),L[i]?=some x->NdOk K V E i x
def BBn(g:G)(brow:List AV)(gr:Int)(b:AV):Prop:=g.h.get 0=W8 4 [brow]/\g.h.get 1=W8 2 [[XL gr,b]]/\g.h.get 2=W8 2 [[XL 0,.nils]]
def LX(L:List Node)(x:Node):Ky->Prop:=λk=>LS L k\/k=(0,1)\/∃q,k=(L.length+1,q)/\q<2+x.rows.length
structure NB (K p:Nat) (L:List Node) (x:Node) (g:G) (brow:List AV) (gr:Int) (b W:AV) (V:Ky->AV) (E:Ky->En):Prop where
 hp:Hp g 3 (LX L x) V E
 bb:BBn g brow gr b
 vb:V (0,1)=XM p
 bx:E (0,1)=.bx (Ra V L.length x.card)
 nd:NdOk K V E L.length x
 bl:BLs K V E L
 vw:V (0,0)=W
theorem Pc{α:Type} [Rp α]{g:G}{b:Nat}(hu:Own g b u (Rp.sz α) rows)(hne:rows≠[])(hn:n<=rows.length) :
  ∃y,x_ (Rp.sz α) u none (some (XL (n:Int))) g=.val y/\(y.cells=[y]/\y.isTup=false)/\∀(P:Nat->Prop) (k:Nat) (l:List α) (h':H),(∀i,vid u=some i->h'.get i=g.h.get i)->SlR P k h' l u->SlR P k h' (l.take n) y:=by
 rcases hu with⟨rfl,rfl⟩|⟨id,ep,lo,h1,h2,rfl,h3⟩
 ·exact absurd rfl hne
 ·simp only[x_,lK,h3,Uv,U7,aA,Uy,aa,Uw,TG,if_true,aY,Vc,VY];simp only[bU];rw[show ay (n.ble rows.length) (some n) none=some n from by rw[aa,TO (by simpa using hn)]];dsimp only;have hb:rows.length.beq 0=false:=by cases rows with|nil=>exact absurd rfl hne|cons a l=>rfl
  rw[hb];refine⟨_,rfl,⟨rfl,rfl⟩,λP k l h' hh h=>?_⟩;have c:=hh id rfl;rw[h3]at c;obtain⟨hl,hp,rr,d,q2⟩:=h;rw[eA,c,yx]at d;injection d with d;subst d;refine⟨by rw[T_];omega,hp,rows.take n,?_,q2.take n⟩;rw[eA,c,cK,TO (by omega),VI]
structure Oth (K:Nat) (L:List Node) (J:Nat) (V:Ky->AV) (E:Ky->En) (rows:List (List AV)):Prop where
 len:rows.length=L.length
 ns:∀(i:Nat) (y:Node),i≠J->L[i]?=some y->rows[i]?=some (Ra V i y.card)
 nd:∀(i:Nat) (y:Node),i≠J->L[i]?=some y->NdOk K V E i y
structure BS (K J:Nat) (L:List Node) (x:Node) (bx:HO) (gr Rw:Int) (t:T) (g:G) (V:Ky->AV) (E:Ky->En):Prop where
 st:St t [(2,XM 0),(3,XM 1),(4,XM 2),(10,jF 3 (V (0,0)) J 0),(11,XL Rw)]
 hp:Hp g 3 (LS L) V E
 f0:g.h.get 0=W8 4 [[u8v bx.1,u8v bx.2.1,u8v bx.2.2.1,XL bx.2.2.2]]
 f1:g.h.get 1=W8 2 [[XL gr,V (0,0)]]
 f2:g.h.get 2=W8 2 [[XL 0,.nils]]
 bl:BLs K V E L
 hx:L[J]?=some x
 hR:(Rw = -1/\x.rows.length=0)\/∃r:Nat,Rw=(r:Int)/\r<x.rows.length
 hK:K<=1000000
 hl:L.length<=K
structure BT (K J:Nat) (L:List Node) (x:Node) (g:G) (V:Ky->AV) (E:Ky->En) (rows:List (List AV)):Prop where
 own:Own g 3 (V (0,0)) 3 rows
 e0:E (0,0)=.sl 3 rows
 ry:vN (V (0,0))=true
 hlt:J<rows.length
 row:rows[J]?=some [XL x.card,V (J+1,0),V (J+1,1)]
 oth:Oth K L J V E rows
 nd:NdOk K V E J x
section
variable {d K J:Nat}{L:List Node}{x:Node}{bx:HO}{gr Rw:Int}{t:T}{g:G}{V:Ky->AV}{E:Ky->En}{Q:QT}
end
section
variable {n:Net}
abbrev Sch:=Net×List Int×List Int×List Int×Int
theorem M_{h:H}{v o w:List Int}{cs:List AV}:Rp.rp P k h ((n,v,o,w,m):Sch) cs↔∃a b c d,cs=[XL n.grain,a,b,c,d,XL m]/\SlR P k h n.nodes a/\SlR P k h v b/\SlR P k h o c/\SlR P k h w d:=by
 constructor
 ·rintro⟨c1,e,rfl,h1,f,i,rfl,h2,j,l,rfl,h3,p,q,rfl,h4,h5⟩;obtain⟨a,rfl,ha⟩:=ie.1 h1;obtain⟨b,rfl,hb⟩:=eC.1 h2;obtain⟨c,rfl,hc⟩:=eC.1 h3;obtain⟨d,rfl,hd⟩:=eC.1 h4;rw[ax.1 h5];exact⟨a,b,c,d,rfl,ha,hb,hc,hd⟩
 ·rintro⟨a,b,c,d,rfl,ha,hb,hc,hd⟩;exact⟨[XL n.grain,a],[b,c,d,XL m],rfl,ie.2 ⟨a,rfl,ha⟩,[b],[c,d,XL m],rfl,eC.2 ⟨b,rfl,hb⟩,[c],[d,XL m],rfl,eC.2 ⟨c,rfl,hc⟩,[d],[XL m],rfl,eC.2 ⟨d,rfl,hd⟩,ax.2 rfl⟩
def S.S7(vars:List Int)(j:Nat):List Int:=((List.range j).map λv:Nat=>(v:Int)).filter λv=>!decide (v∈vars)
def S.S6(n:Net)(vars:List Int):List Int:=S.S7 vars n.nodes.length
theorem CZ(vars:List Int)(j:Nat):S.S7 vars (j+1)=S.S7 vars j++if (j:Int)∈vars then [] else [(j:Int)]:=by
 unfold S.S7;rw[VL,U_,List.filter_append];congr 1
 by_cases h:(j:Int)∈vars<;>simp[h]
theorem Bb(vars:List Int)(j:Nat):(S.S7 vars j).length<=j:=by unfold S.S7;exact T6 (List.length_filter_le _ _) (by simp)
def S.S5(n:Net)(e:List Int)(j w:Nat):Int:=if w<j/\S.pe n e w=false then 0 else S.wt n w
def S.Sd(n:Net)(e:List Int)(j:Nat):List Int:=(List.range (S.RR n)).map (S.S5 n e j)
def S.RS(n:Net)(e:List Int):List Int:=S.Sd n e (S.RR n)
theorem My(n:Net)(e:List Int):S.Sd n e 0=S.R8 n (S.RR n):=by unfold S.Sd S.R8;exact U8 λw _=>by simp[S.S5]
theorem kw(n:Net)(e:List Int)(j:Nat):(S.Sd n e j).length=S.RR n:=by simp[S.Sd]
theorem OJ(n:Net)(e:List Int)(j:Nat)(h:j<S.RR n):(S.Sd n e j)[j]?=some (S.wt n j):=by simp[S.Sd,S.S5,h]
theorem FA{j:Nat}(h:j<S.RR n):S.Sd n e (j+1)=if S.pe n e j then S.Sd n e j else (S.Sd n e j).set j 0:=by
 apply Wd;intro i
 by_cases hi:i<S.RR n
 ·by_cases c:S.pe n e j=true
  ·rw[TO c];simp only[S.Sd,TK,VD hi,U0,S.S5];congr 1
   by_cases e1:i=j
   ·subst e1;simp[c]
   ·have:(i<j+1)↔(i<j):=by omega
    simp[this]
  ·rw[TN c,Vi]
   by_cases e1:j=i
   ·subst e1;rw[TO rfl,TO (by rw[kw];exact hi)];simp[S.Sd,S.S5,hi,c]
   ·rw[TN e1];simp only[S.Sd,TK,VD hi,U0,S.S5];congr 1;have:(i<j+1)↔(i<j):=by omega
    simp[this]
 ·have a:∀k,(S.Sd n e k)[i]?=none:=λk=>Ut (by rw[kw];omega);rw[a]
  split
  ·rw[a]
  ·rw[Ut];rw[List.length_set,kw];omega
def S.Tz(n:Net)(e vars:List Int):Sch:=(n,vars,S.S6 n vars,S.RS n e,S.R6 n e)
def S.Sf(n:Net)(e vars:List Int):Int:=if S.RZ n e=0 then (if S.Sa vars (n.nodes.length:Int) then 0 else 2) else S.RZ n e
def Rd:VS:=λ_ _ _ v=>v=.nilp
theorem Nq:Snb Rd 0:=⟨λ{P k h v n} d r hn=>⟨.nilp,by
  subst r;obtain⟨n,rfl⟩:∃q,n=q+1:=⟨n - 1,by omega⟩
  rfl,rfl⟩,λ{k h v n} r hn=>⟨0,by
  subst r;obtain⟨n,rfl⟩:∃q,n=q+1:=⟨n - 1,by omega⟩
  rfl,Uj _⟩⟩
theorem Ph{α:Type} [Rp α](x:α)(sz:Nat)(hd:Rp.dp α<=20:=by decide):Snb (yL x sz) 1 :=
 ⟨λ{P k h v n} d r hn=>by
  obtain⟨n,rfl⟩:∃q,n=q+1:=⟨n - 1,by omega⟩;exact nm d r (by omega) hd,λ{k h v n} r hn=>by
  obtain⟨n,rfl⟩:∃q,n=q+1:=⟨n - 1,by omega⟩;exact qP r⟩
def NsV(n:Net)(e vars:List Int):VS:=if S.Sf n e vars=0 then pj (yL (S.Tz n e vars) 6) (One (0:Int)) else pj Rd (One (S.Sf n e vars))
theorem Q2(n:Net)(e vars:List Int):Snb (NsV n e vars) 2:=by
 unfold NsV
 split
 ·exact bO (Ph _ _) (aJ _) (by decide) (by decide)
 ·exact bO Nq (aJ _) (by decide) (by decide)
theorem wS(id ep i off:Nat):FC (.hptr id ep i off)=.val (.hptr id ep i off):=rfl
def LNs(gr:Int)(vw:AV):List (Nat×AV):=[(2,vw),(3,XM 0),(4,XM 1),(9,XM 3)]
structure NsH (gr:Int) (b ev vw u wv:AV) (m:Int) (g:G):Prop where
 h0:g.h.get 0=W8 2 [[XL gr,b]]
 h1:g.h.get 1=W8 1 [[ev]]
 h2:g.h.get 2=W8 6 [[XL gr,b,vw,u,wv,XL m]]
 h3:g.h.get 3=W8 1 [[XM 2]]
 nx:4<=g.nx
theorem Rr{m:Nat}(hd:0<d)(hm:m<=8)(hv:∀h,SlR NoP k h vars vw)
  (hh:NsH gr b ev vw .nils .nils 0 g) (ht:St t (LNs gr vw)) (h49:tat t 49=XL 0) (h48:tat t 48=XL (m:Int))
  (fin:∀t g u,St t (LNs gr vw)->NsH gr b ev vw u .nils 0 g->Own g 4 u 1 ((S.S7 vars m).map ci)->Q (.exit 2) t [] g):wpL (wp C0 d none d_) Q t [] g:=by
 simp only[d_];refine aI (m:=m) (by omega) (λj t df g=>df=[]/\St t (LNs gr vw)/\∃u,NsH gr b ev vw u .nils 0 g/\Own g 4 u 1 ((S.S7 vars j).map ci)) ⟨rfl,ht,.nils,hh,.inl ⟨rfl,rfl⟩⟩ h49 h48 (by decide)
  (by rintro j t df g v s (rfl|rfl|rfl) ⟨a1,⟨b1,b2,l,n,-⟩,c1⟩<;>exact⟨a1,by simp[St,LNs,sx,b1,b2,l,n],c1⟩) ?_ ?_
 ·rintro j t df g r ⟨rfl,⟨h2,h3,h4,h9,-⟩,u,⟨g0,g1,g2,g3,o⟩,ho⟩ h49 h48;have kc:=λg:G=>Eu (d:=d) (g:=g) (x:=(j:Int)) hd (hv g.h);have hl:=Bb vars j
  by_cases c:(j:Int)∈vars
  ·simp only[sz,simprocAttr,h2,h49,kc,c];refine⟨⟨by simp[St,LNs,sx,h2,h3,h4,h9],u,⟨g0,g1,g2,g3,o⟩,?_⟩,h48⟩;rw[CZ,TO c,T3];exact ho
  ·simp only[sz,simprocAttr,h2,h49,kc,c,sf,h9,g3,g2,wS];refine ym (ho.fr (g':=_) (by simp<;>omega) (λi hi=>?_)) (new:=[[XL (j:Int)]]) ?_ (by simp<;>omega) (by simp[aQ]<;>omega) λv5 g5 o5 n5 f5 w5 l5=>?_
   ·have:=ho.lt hi;simp[RQ];omega
   ·simp[ak,RQ];rfl
   have lu:=λi (h:vid u=some i)=>ho.lt h;simp only[sx,sy]at n5 f5 l5;have q:g.nx<g5.nx:=by omega
   have a:∀i,i<4->g5.h.get i=g.h.get i:=λi hi=>by rw[f5 i (by omega) λh=>by have:=lu i h;omega];simp;omega
   obtain⟨vc,vt⟩:=o5.cell;simp only[sz,simprocAttr,sf,a 3 (by omega),g3,a 2 (by omega),g2,wS,vc,vt];refine⟨?_,?_⟩
   ·simp only[Uf,Ug,Ud,T4];refine aN (Xp (Xo (true::(true::(Xp (true::[])))))) [(0,6),(1,6),(2,6),(3,6),(4,6),(0,7)] (by simp[All2,am,aE]) (by decide) ?_;rintro p hp x y hx f;simp only[Us,TY,Wt]at hp;rcases hp with rfl|rfl|rfl|rfl|rfl|rfl<;>(simp at hx f;subst hx;subst f;refine dh rfl rfl rfl rfl ?_ ?_ ?_<;>simp[am,aE,kZ]<;>first|omega| (intro i' e;rcases l5 i' e with h|h|h<;>first|omega| (have:=lu i' h;omega)|simp at h)|skip)
   refine⟨⟨by simp[St,LNs,sx,h2,h3,h4,h9],v5,⟨by simp[sy,a 0 (by omega),g0],by simp[sy,a 1 (by omega),g1],by simp[sy],by simp[sy,a 3 (by omega),g3],by simp[sy]<;>omega⟩,?_⟩,by simp[sx,h49],by simp[sx,h48]⟩;rw[CZ,TN c,U_];exact o5.fr (by simp[sy]<;>omega) λi hi=>by have:=o5.lt hi;simp[sy];omega
 ·rintro t df g ⟨rfl,ht,u,hh,ho⟩;exact fin t g u ht hh ho
theorem Rq{ev:AV}(hr:NR n)(hv:∀h,SlR NoP k h vars vw)(hN:∀h,SlR NoP 0 h n.nodes b)(h0:g.h.get 0=W8 2 [[XL gr,b]])
  (ht:St t ((28,vw)::LNs gr vw)) (h10:tat t 10=XL (-1)) (h30:tat t 30=XL 0) (h29:tat t 29=XL (vars.length:Int))
  (bad:∀t,S.Sa vars (n.nodes.length:Int)=false->tat t 6=.nilp->tat t 7=XL 2->Q .ret t [] g)
  (fin:∀t,S.Sa vars (n.nodes.length:Int)=true->St t (LNs gr vw)->Q (.exit 0) t [] g):wpL (wp C0 d none cF) Q t [] g:=by
 have rv:=λh=>(hv h).ints;have lN:∀g:G,cH .slice b g=.val (XL (n.nodes.length:Int)):=λg=>(hN .nil).len g;have z:=hr.l2;simp only[cF];refine aI (m:=vars.length) (hv .nil).1 (λj t df g'=>df=[]/\g'=g/\St t ((28,vw)::LNs gr vw)/\tat t 10=XL (if j=0 then -1 else vars[j - 1]?.getD 0)/\(List.range j).all (S.SG vars (n.nodes.length:Int))=true) ⟨rfl,rfl,ht,by simpa using h10,by simp⟩ h30 h29 (by decide)
  (by rintro j t df g v s (rfl|rfl|rfl) ⟨a1,a2,⟨u,b1,b2,w,y,-⟩,c1,i⟩<;>exact⟨a1,a2,by simp[St,LNs,sx,u,b1,b2,w,y],by simp[sx,c1],i⟩) ?_ ?_
 ·rintro j t df g' o ⟨rfl,rfl,⟨f,h2,h3,h4,h9,-⟩,h10,a⟩ h30 h29;obtain⟨x,hx,-,hm⟩:=ae o;have p:j<(vars.map ci).length:=by simpa using o
  have q:(vars.map ci)[j]?=some (ci x):=by rw[TK,hx];rfl
  have l:vars[j]?.getD 0=x:=by rw[hx];rfl
  obtain⟨bf,e⟩:∃bf,bf=(if j=0 then (-1:Int) else vars[j - 1]?.getD 0):=⟨_,rfl⟩;rw[<-e]at h10;have r:-1<=bf:=by
   rw[e];split
   ·omega
   ·have:=Ue.1 a (j - 1) (T8.2 (by omega));simp only[S.SG,TM,T9]at this;omega
  have key:S.SG vars (n.nodes.length:Int) j=true↔bf<x/\x<(n.nodes.length:Int):=by
   simp only[S.SG,TM,T9,l,UB,beq_iff_eq];rw[e]
   by_cases c:j=0
   ·simp only[c,if_true,true_or,and_true];omega
   ·rw[TN c]at e ⊢;rw[<-e];constructor
    ·rintro⟨⟨a1,a2⟩,a3|a3⟩
     ·exact absurd a3 c
     ·exact⟨a3,a2⟩
    ·rintro⟨a1,a2⟩;have:=Ue.1 a (j - 1) (T8.2 (by omega));simp only[S.SG,TM,T9,<-e]at this;exact⟨⟨by omega,a2⟩,.inr a1⟩
  have fl:¬(bf<x/\x<(n.nodes.length:Int))->S.Sa vars (n.nodes.length:Int)=false:=λhn=>by rw[Bool.eq_false_iff];intro h;exact hn (key.1 (Ue.1 h j (T8.2 o)))
  by_cases c1:x<=bf
  ·simp only[sz,simprocAttr,f,h30,rv,p,q,ci,h10,c1];exact bad _ (fl (by omega)) (by simp[sx]) (by simp[sx])
  by_cases i:(n.nodes.length:Int)<=x
  ·simp only[sz,simprocAttr,f,h30,rv,p,q,ci,h10,c1,h3,h0,lN,i];exact bad _ (fl (by omega)) (by simp[sx]) (by simp[sx])
  ·simp only[sz,simprocAttr,f,h30,rv,p,q,ci,h10,c1,h3,h0,lN,i];refine⟨⟨by simp[St,LNs,sx,f,h2,h3,h4,h9],?_,?_⟩,h29⟩
   ·simp[hx]
   ·rw[fk,a,key.2 ⟨by omega,by omega⟩];rfl
 ·rintro t df g' ⟨rfl,rfl,⟨-,ht⟩,-,a⟩;exact fin t a ht
theorem Rs{j ke:Nat}{uu:AV}{vals:List Int}{rd:Option Nat}(hl:e.length=vals.length)(he:∀h,SlR NoP ke h e ev)(hu:SlR P 0 g.h vals uu)
  (hh:NsH gr b ev vw u wv m g) (ho:Own g 4 wv 1 (mw.map ci)) (hj:j<mw.length)
  (ht:St t ((14,XL (j:Int))::(15,uu)::(78,ev)::LNs gr vw)) (h80:tat t 80=XL 0) (h79:tat t 79=XL (e.length:Int))
  (fin:∀t,S.S4 vals e=true->St t ((14,XL (j:Int))::LNs gr vw)->Q (.exit 6) t [] g)
  (bad:∀t g',S.S4 vals e=false->St t (LNs gr vw)->Own g' 4 wv 1 ((mw.set j 0).map ci)->g'.nx=g.nx->(∀i,vid wv≠some i->g'.h.get i=g.h.get i)->Q (.exit 5) t [] g'):wpL (wp C0 d rd ea) Q t [] g:=by
 have re:=λh=>(he h).ints;have ru:=hu.ints;obtain⟨g0,g1,g2,g3,F⟩:=hh;simp only[ea];refine aI (m:=e.length) (he .nil).1 (λi t df g'=>df=[]/\g'=g/\St t ((14,XL (j:Int))::(15,uu)::(78,ev)::LNs gr vw)/\(List.range i).all (S.Tb vals e)=true) ⟨rfl,rfl,ht,by simp⟩ h80 h79 (by decide)
  (by rintro j t df g v s (rfl|rfl|rfl) ⟨a1,a2,⟨c1,o,D,b1,b2,B,C,-⟩,c⟩<;>exact⟨a1,a2,by simp[St,LNs,sx,c1,o,D,b1,b2,B,C],c⟩) ?_ ?_
 ·rintro i t df g' hi ⟨rfl,rfl,⟨a,h15,f,h2,h3,h4,h9,-⟩,k⟩ h80 h79;obtain⟨x,hx,-,hm⟩:=ae hi;obtain⟨y,A,-,-⟩:=ae (l:=vals) (j:=i) (by omega);have r:i<(e.map ci).length:=by simpa using hi
  have w:(e.map ci)[i]?=some (ci x):=by rw[TK,hx];rfl
  have y1:i<(vals.map ci).length:=by rw[TT];omega
  have q:(vals.map ci)[i]?=some (ci y):=by rw[TK,A];rfl
  have key:S.Tb vals e i=true↔x<0\/x=y:=by simp only[S.Tb,hx,A,TS,UB,T9]
  by_cases c1:(0:Int)<=x
  ·by_cases o:x=y
   ·simp only[sz,simprocAttr,f,h80,re,r,w,ci,c1,h15,ru,y1,q,o];have p:(0:Int)<=y:=by omega
    simp only[sz,simprocAttr,p,h15,ru,y1,q,ci];refine⟨⟨by simp[St,LNs,sx,a,h15,f,h2,h3,h4,h9],?_⟩,by simp[sx,h80],by simp[sx,h79]⟩;rw[fk,k,key.2 (.inr o)];rfl
   ·have E:j<(mw.map ci).length:=by rw[TT];exact hj
    obtain⟨z,hz,-,-⟩:=ae hj;have q2:(mw.map ci)[j]?=some (ci z):=by rw[TK,hz];rfl
    simp only[sz,simprocAttr,f,h80,re,r,w,ci,c1,h15,ru,y1,q,o,h9,g3,g2,wS,a,ho.rows,E];refine qU (v:=wv) (sz:=1) (n:=1) (i:=j) (off:=0) (x:=XL 0) (row:=ci z) (row':=ci 0) ho q2 rfl rfl rfl λg5 o5 n5 f5 u5=>?_;rw[<-Vf]at o5;simp only[sz,simprocAttr];refine bad _ g5 ?_ (by simp[St,LNs,sx,h2,h3,h4,h9]) o5 n5 f5;rw[Bool.eq_false_iff];intro h;rcases key.1 (Ue.1 h i (T8.2 hi)) with h|h
    ·omega
    ·exact o h
  ·simp only[sz,simprocAttr,f,h80,re,r,w,ci,c1];refine⟨⟨by simp[St,LNs,sx,a,h15,f,h2,h3,h4,h9],?_⟩,h79⟩;rw[fk,k,key.2 (.inl (by omega))];rfl
 ·rintro t df g' ⟨rfl,rfl,⟨a,-,-,ht⟩,k⟩;exact fin t k ⟨a,ht⟩
theorem Nk{C:Cfg}{rd:Option Nat}{a b:SC}{df:List ADf}{P:PT}(h1:wp C d rd a (λe t df g=>e=.norm/\P t df g) t df g)(h2:∀t df g,P t df g->wp C d rd b Q t df g):wp C d rd (.seq a b) Q t df g:=by rw[b_];refine bE _ h1 ?_;rintro e t df g ⟨rfl,h⟩;exact h2 t df g h
theorem Gt{x y:Foot}(hx:x.wr=[])(hb:x.lk.big=false)(hs:x.lk.sr=[])(h3:∀i∈y.wr,∀j∈x.lk.rd,i≠j):bF x y=true:=by
 have h:=ni h3;have k:∀l:List Nat,meets l []=false:=λl=>by simp[meets]
 simp only[bF,jx,fY,hx,hb,hs,h,k,fst1,Vg,Wk,Wu,Bool.true_or]
 split<;>rfl
structure NsJ (gr:Int) (b ev vw u wv:AV) (n:Net) (e:List Int) (g0:G) (W j:Nat) (g:G):Prop where
 h2:g.h.get 2=W8 6 [[XL gr,b,vw,u,wv,XL (S.RW n (S.pe n e) j)]]
 hw:∃lo,g.h.get W=.cells 1 ((S.Sd n e j).map ci) 0 lo false
 fr:∀i,i<g0.nx->i≠2->i≠W->g.h.get i=g0.h.get i
theorem Ru{ke:Nat}(hd:0<d)(hr:NR n)(hN:∀h,SlR NoP 0 h n.nodes b)(hel:e.length=n.nodes.length)(he:∀h,SlR NoP ke h e ev)
  (hh:NsH n.grain b ev vw u .nils 0 g) (ht:St t (LNs n.grain vw))
  (fin:∀t g' W df,tat t 6=XM 2->tat t 7=XL 0->g.nx<=W->W<g'.nx->(∃lo,g'.h.get W=.cells 1 ((S.RS n e).map ci) 0 lo false)->g'.h.get 2=W8 6 [[XL n.grain,b,vw,u,.hsl W 0 0 (S.RR n) none,XL (S.R6 n e)]] ->
   (∀i,i<g.nx->i≠2->g'.h.get i=g.h.get i)->g.nx<=df->df<g'.nx->df≠W->g'.h.get df=.dfr true->Q .ret t [.mark df] g'):wp C0 d none eg Q t [] g:=by
 obtain⟨h2,h3,h4,h9,-⟩:=ht;obtain⟨g0,e1,g2,l,Z⟩:=hh;have h6:=hr.l2;obtain⟨W1,W2,W3⟩:=hr.wl;have J:CsOk (S.RN n):=⟨hr.cs,by rw[aB];omega⟩;have s:S.nc (S.RN n)=S.RR n:=rfl;have hA:∀h,Agg n NoP 0 h (.agg [XL n.grain,b]):=λh=>⟨_,rfl,ie.2 ⟨b,rfl,hN h⟩⟩;have le:∀g:G,cH .slice ev g=.val (XL (e.length:Int)):=λg=>(he .nil).len g;unfold eg;refine Nk (P:=λt' df g'=>df=[]/\∃W,g.nx<=W/\W<g'.nx/\NsJ n.grain b ev vw u (.hsl W 0 0 (S.RR n) none) n e g W 0 g'/\g.nx<=g'.nx/\St t' (LNs n.grain vw)) ?_ ?_
 ·simp only[sz,simprocAttr,sf,h9,l,h3,g0];refine HK hd hr (hA _) λg5 q5 n5 f5 u5=>?_;have v:∀i,i<g.nx->g5.h.get i=g.h.get i:=λi hi=>by rw[f5.2 i (by simp;omega)];simp
  have u6:∀i∈g5.lg,g.nx<=i:=λi hi=>by
   rcases u5.2 i hi with h|h
   ·simp at h
   ·simp at h;omega
  simp only[sy]at q5 n5;simp only[sz,simprocAttr,sf,v 2 (by omega),g2,wS];refine⟨?_,?_⟩
  ·simp only[Uf,Ug,Ud,T4];refine aN (Xp (true::(Xp (true::[])))) [(0,2)] (by simp[All2,am,aE,cd,vC]) (by decide) ?_;rintro p hp x y hx X;simp only[Us,TY,Wt]at hp;subst hp;simp at hx X;subst hx;subst X;refine Gt rfl rfl rfl λi hi j m=>?_;have hi:i∈g5.lg:=by simpa using hi
   have m:j=3:=by simpa [am,kZ] using m
   have:=u6 i hi;omega
  refine⟨g.nx+3,by omega,by omega,⟨?_,?_,λi h1 h2 h3=>?_⟩,by omega,by simp[St,LNs,sx,h2,h3,h4,h9]⟩
  ·simp[sy,S.RW]
  ·exact⟨false,by rw[My];simp[sy,q5]⟩
  ·simp[sy,h2,v i h1]
 ·rintro t df g1 ⟨rfl,W,w1,w2,V,n1,h2,h3,h4,h9,-⟩;have z0:g1.h.get 0=W8 2 [[XL n.grain,b]]:=by rw[V.fr 0 (by omega) (by omega) (by omega),g0]
  rw[b_,Ew,DY];rw[b_];simp only[sz,simprocAttr,h3,z0];refine bi (yi (n:=n) (by omega) (hN _) (by omega)) λrc hrc=>?_;simp only[sz,simprocAttr];obtain⟨z,kz,hz⟩:=zg (d:=d) (g:=g1) (w:=rc) (cs:=S.RN n) hd (hrc.sl g1.h);simp only[sz,simprocAttr,kz];refine Bl (cs:=S.RN n) (w:=z) J hz (by simp[sx]) (by decide) (by decide) (NsJ n.grain b ev vw u (.hsl W 0 0 (S.RR n) none) n e g W) (λ_=>False) ?_ (λ_ _ _ h=>h) V ?_ ?_ (λ_ h=>h.elim)
  ·rintro j g3 Z I ⟨a1,a2,B⟩;exact⟨by rw[I.1 _ (by omega),a1],by rw[I.1 _ (by omega)];exact a2,λi q1 q2 q3=>by rw[I.1 i (by omega),B i q1 q2 q3]⟩
  ·rintro j uu g3 m H h7 hu;rw[s]at m;simp only[sz,simprocAttr,ja];refine⟨Fr.refl _,λg5 n5 f5 u5=>?_⟩;have k:NsJ n.grain b ev vw u (.hsl W 0 0 (S.RR n) none) n e g W j g5:=by obtain⟨a1,a2,B⟩:=H;exact⟨by rw[u5.1 _ (by omega),a1],by rw[u5.1 _ (by omega)];exact a2,λi q1 q2 q3=>by rw[u5.1 i (by omega),B i q1 q2 q3]⟩
   have O:SlR (λi=>g1.nx+2<=i/\i<g3.nx) 0 g5.h (S.RT (S.RN n) (j:Int)) uu:=hu.far8 λi hi=>f5 i (by omega);have Y:g5.h.get 1=W8 1 [[ev]]:=by rw[k.fr 1 (by omega) (by omega) (by omega),e1]
   simp only[sz,simprocAttr,jb,h4,Y,le];have R:=cS (S.RN n) (j:Int);rw[aB]at R;have M:((S.Sd n e j).map ci).length=S.RR n:=by rw[TT,kw]
   have L:=eD (λc hc=>(hr.cs c hc).1) (j:Int);have wb:=oZ hr L;have A:Own g5 4 (.hsl W 0 0 (S.RR n) none) 1 ((S.Sd n e j).map ci):=by obtain⟨lo,h⟩:=k.hw;exact .inr ⟨W,0,lo,by omega,by omega,by rw[M],h⟩
   have sb:=qV hr (p:=S.pe n e) (j:=j) (by omega);have sb2:=qV hr (p:=S.pe n e) (j:=j+1) (by omega);refine Rs (e:=e) (vals:=S.RT (S.RN n) (j:Int)) (j:=j) (mw:=S.Sd n e j) (gr:=n.grain) (b:=b) (ev:=ev) (vw:=vw) (u:=u) (wv:=.hsl W 0 0 (S.RR n) none) (uu:=uu) (by omega) he O
    ⟨by rw[k.fr 0 (by omega) (by omega) (by omega),g0],Y,k.h2,by rw[k.fr 3 (by omega) (by omega) (by omega),l],by omega⟩ A (by rw[kw];exact m) (by simp[St,LNs,sx,h2,h3,h4,h9]) (by simp[sx]) (by simp[sx]) ?_ ?_
   ·rintro t6 o ⟨C,D,E,F,r,-⟩;have f:S.pe n e j=true:=o;have m1:j<((S.Sd n e j).map ci).length:=by omega
    have m2:((S.Sd n e j).map ci)[j]?=some (ci (S.wt n j)):=by rw[TK,OJ n e j m];rfl
    have A:Own g5 4 (.hsl W 0 0 (S.RR n) none) 1 ((S.Sd n e j).map ci):=A;have U:g5.h.get 3=W8 1 [[XM 2]]:=by rw[k.fr 3 (by omega) (by omega) (by omega),l]
    have ss:S.RW n (S.pe n e) (j+1)=S.RW n (S.pe n e) j+S.wt n j:=by rw[S.RW,TO f];rfl
    have w1:IntKind.wrap .i64 (S.RW n (S.pe n e) j+S.wt n j)=S.RW n (S.pe n e) (j+1):=by rw[<-ss,ap (by omega) (by omega)]
    simp only[sz,simprocAttr,sf,jc,r,U,k.h2,wS,C,A.rows,m1,m2,ci,w1];refine⟨?_,?_⟩
    ·simp only[Uf,Ug,Ud,T4];exact aN (Xp (Xo (Xn (true::[])))) [] (by simp[All2,am,aE]) (by decide) (by simp)
    refine⟨by simp[sy]<;>omega,λi q1 q2=>?_,.inl ⟨rfl,?_,?_,λi q1 q2 q3=>?_⟩⟩
    ·simp[sy,show ¬i=2 by omega]
    ·simp[sy]
    ·obtain⟨lo,h⟩:=k.hw;exact⟨lo,by rw[FA m,TO f];simp[sy,show ¬W=2 by omega,h]⟩
    ·simp[sy,q2,k.fr i q1 q2 q3]
   ·rintro t6 g6 o ⟨D,E,F,r,-⟩ o6 n6 v;have f:S.pe n e j=false:=o;simp only[sz,simprocAttr];have q:∀i,i≠W->g6.h.get i=g5.h.get i:=λi hi=>v i (by simpa [vid] using λh:W=i=>hi h.symm);have N:S.RW n (S.pe n e) (j+1)=S.RW n (S.pe n e) j:=by rw[S.RW,f];simp
    refine⟨by omega,λi q1 q2=>q i (by omega),.inl ⟨rfl,?_,?_,λi q1 q2 q3=>?_⟩⟩
    ·rw[q 2 (by omega),k.h2,N]
    ·rw[FA m,f];rcases o6 with⟨h,-⟩|⟨id,ep,lo,-,-,h,hg⟩
     ·cases h
     ·injection h with h1 h2 h3 h4 h5;subst h1;subst h2;exact⟨lo,by simpa using hg⟩
    ·rw[q i q3,k.fr i q1 q2 q3]
  ·rintro g' a hn K;rw[s]at a;have U:g'.h.get 3=W8 1 [[XM 2]]:=by rw[a.fr 3 (by omega) (by omega) (by omega),l]
   simp only[sz,simprocAttr,jd,h9,U];exact fin _ g' W g1.nx (by simp[sx]) (by simp[sx]) w1 (by omega) a.hw a.h2 (λi q1 q2=>by
    by_cases q3:i=W
    ·omega
    ·rw[a.fr i q1 q2 q3]) n1 (by omega) (by omega) K
theorem wR{kv k1:Nat}{P1:Nat->Prop}{v:AV}(hd:kv<d)(hm:Agg n NoP 0 g.h v)(he:SlR P1 k1 g.h e w)(hv:SlR NoP kv g.h vars u) :
  ∃r,ah C0 d 51 [v,w,u] g=.val r/\NsV n e vars NoP kv .nil r:=by
 obtain⟨b,rows,rfl,e1,z,hN,J,K,L,M⟩:=fP d hm;obtain⟨w',e2,j⟩:=bm he d;have e3:=jC d hv;have f:∀h,SlR NoP kv h vars u:=λh=>hv.tree (TG _);have l:∀h,SlR NoP 0 h n.nodes b:=λh=>hN.tree (TG 0);have lu:∀g:G,cH .slice u g=.val (XL (vars.length:Int)):=λg=>(f .nil).len g;have lN:∀g:G,cH .slice b g=.val (XL (n.nodes.length:Int)):=λg=>(l .nil).len g;have kc:=λg=>EQ (d:=d+1) (g:=g) (TW d) (z g.h) (j g.h);rw[qh];refine aL sG (xs:=[.agg [XL n.grain,b],w',u]) (by simp only[aF,e1,e2,e3]) (by simp[dB]) (Q2 n e vars) (by decide) hd ?_
 by_cases c:S.RZ n e=0
 ·obtain⟨I,s⟩:=iO.1 c;have hr:=cA.1 I;have q:=(AC s).1;have x:=hr.l2;have B:∀(g:G) (i m:Nat),iN (W8 1 [[.nilp]]) g i 0 0 1 0 (XM m)=.upd .undef (g.put i (W8 1 [[XM m]])):=λg i m=>rfl;obtain⟨FB,o⟩:∃F,F=cF:=⟨_,rfl⟩;simp only[sz,simprocAttr,dB,eR,kc,c,lu,zO (j .nil),(f .nil).cell.1,(f .nil).cell.2,B,<-o];subst o;refine Rq (k:=kv) (gr:=n.grain) (ev:=w') (n:=n) (vars:=vars) hr f l (by simp[RQ,show G.empty.nx=0 from rfl]) (by simp[St,LNs,sx]) (by simp[sx]) (by simp[sx]) (by simp[sx]) ?_ ?_
  ·intro t hp h6 h7;have hs:S.Sf n e vars=2:=by rw[S.Sf,TO c,hp];rfl
   simp only[sz,simprocAttr,h6,h7];refine⟨NoP,?_⟩;rw[NsV,hs];exact⟨_,_,rfl,rfl,ax.2 rfl⟩
  ·rintro t hp ⟨h2,h3,h4,h9,-⟩;have hs:S.Sf n e vars=0:=by rw[S.Sf,TO c,hp];rfl
   have p:NsH n.grain b w' u .nils .nils 0 (((((G.empty.new (W8 2 [[XL n.grain,b]])).new (W8 1 [[w']])).new (W8 6 [[XL n.grain,b,u,.nils,.nils,XL 0]])).new (W8 1 [[.nilp]])).put 3 (W8 1 [[XM 2]])):=by constructor<;>simp[RQ,show G.empty.nx=0 from rfl]
   generalize ((((G.empty.new (W8 2 [[XL n.grain,b]])).new (W8 1 [[w']])).new (W8 6 [[XL n.grain,b,u,.nils,.nils,XL 0]])).new (W8 1 [[.nilp]])).put 3 (W8 1 [[XM 2]])=g1 at p ⊢;simp only[sz,simprocAttr,je,h3,p.h0,lN];refine Rr (k:=kv) (m:=n.nodes.length) (TW d) x f p (by simp[St,LNs,sx,h2,h3,h4,h9]) (by simp[sx]) (by simp[sx]) λt g2 uo ht hH2 hO=>?_;simp only[kB,sz,simprocAttr];refine Ru (TW d) hr l q j hH2 ht λt g3 W df h6 h7 w1 w2 gW g2' hf d1 d2 d3 hdf=>?_;show u7 C0 (d+1) [.tm 6,.tm 7] t [.mark df] g3 λv g'=>∃P,NsV n e vars P kv g'.h v;refine eM hdf ?_;simp only[sz,simprocAttr,h6,h7];have A:=λi (h:vid uo=some i)=>hO.lt h;obtain⟨lo,gW⟩:=gW;have C:∀i,i≠df->(g3.h.put df (.dfr false)).get i=g3.h.get i:=λi hi=>by rw[au _ _ _ hi]
   have q2:=(hO.fr (g':=g3.put df (.dfr false)) (by simp;omega) λi hi=>by
    have:=A i hi;rw[G.put_h,C i (by omega),hf i (by omega) (by omega)])
   have H:(S.S6 n vars).length<=_:=Bb vars n.nodes.length;have D:=hH2.nx;have y:(S.RS n e).length=S.RR n:=kw _ _ _;have E:=hr.wl.2.1;refine⟨λ_=>True,?_⟩;rw[NsV,TO hs];refine⟨_,_,rfl,.inl ⟨2,_,rfl,trivial,by rw[C 2 (by omega),g2'],?_⟩,ax.2 rfl⟩;refine M_.2 ⟨b,u,uo,_,rfl,hN.wide (Uj _),?_,q2.sl (α:=Int) (by omega) (RN (λa=>ax.2 rfl) _) λ_ _=>trivial,?_⟩
   ·exact hv.wide (TG _)
   ·have gW':(g3.put df (.dfr false)).h.get W=.cells 1 ((S.RS n e).map ci) 0 lo false:=by rw[G.put_h,C W (by omega),gW]
    have o3:Own (g3.put df (.dfr false)) 0 (.hsl W 0 0 (S.RR n) none) 1 ((S.RS n e).map ci):=.inr ⟨W,0,lo,Uj _,by simp;omega,by rw[TT,y],gW'⟩;exact o3.sl (α:=Int) (by omega) (RN (λa=>ax.2 rfl) _) λ_ _=>trivial
 ·simp only[sz,simprocAttr,dB,eR,kc,c,zO (j .nil)];refine⟨NoP,?_⟩;have hs:S.Sf n e vars=S.RZ n e:=by rw[S.Sf,TN c]
  rw[NsV,hs,TN c];exact⟨_,_,rfl,rfl,ax.2 rfl⟩
end
section
variable {n:Net}{oth:List Int}
def zG(n:Net)(vars oth mw:List Int)(m:Int)(k:Nat)(v:AV):Prop:=∃t b vw ow ww,v=.tptr t 6 [[XL n.grain,b,vw,ow,ww,XL m]] 0 0/\t<=k/\SlR NoP k .nil n.nodes b/\SlR NoP k .nil vars vw/\SlR NoP k .nil oth ow/\SlR NoP k .nil mw ww
theorem O6{h:H}{v:AV}(r:yL ((n,vars,oth,mw,m):Sch) 6 NoP k h v):zG n vars oth mw m k v:=by
 rcases r with⟨id,cs,rfl,e,-⟩|⟨t,cs,rfl,ht,r⟩
 ·exact e.elim
 ·obtain⟨a,b,c,d,rfl,ha,hb,hc,hd⟩:=M_.1 r;exact⟨t,a,b,c,d,rfl,ht,ha,hb,hc,hd⟩
theorem ul(h:H)(d t sz:Nat)(rows:List (List AV))(i off:Nat):Hx.snap h d aC (.tptr t sz rows i off)=some (.tptr t sz rows i off):=rfl
theorem eo(t sz:Nat)(rows:List (List AV))(i off:Nat):FC (.tptr t sz rows i off)=.val (.tptr t sz rows i off):=rfl
theorem D_{p:Int}(hN:SlR NoP k .nil n.nodes b)(h0:0<=p)(h1:p<(n.nodes.length:Int)):∃(pn:Nat) (x:Node) (rows:List (List AV)) (pa ra:AV),p=(pn:Int)/\n.nodes[pn]?=some x/\(∀h,ak h 3 b=some rows)/\pn<rows.length/\rows[pn]?=some [XL x.card,pa,ra]/\vN b=true/\x∈n.nodes/\(S.RN n)[pn]?=some x.card:=by
 obtain⟨pn,rfl⟩:=TP h0;obtain⟨rows,c,f,d,e⟩:=hN.all;have hlt:pn<n.nodes.length:=by omega
 obtain⟨x,hx,-,hm⟩:=ae hlt;obtain⟨row,a,q2⟩:=d pn x hx;obtain⟨pa,ra,rfl,-,-⟩:=cI.1 q2;exact⟨pn,x,rows,pa,ra,rfl,hx,c,by omega,a,e (by omega),hm,by simp[S.RN,hx]⟩
theorem Dd{k2:Nat}{q:AV}(hd:0<d)(hq:zG n vars oth mw m k q)(hp:∀x∈l,0<=x/\x<(n.nodes.length:Int))(hw:SlR P k2 g.h l w)(hl:l.length<=8) :
  ∃r,ah C0 d 99 [q,w] g=.val r/\IT 0 (S.RO (S.RN n) l) r:=by
 obtain⟨t,b,vw,ow,ww,rfl,ht,hb,O,ho,E⟩:=hq;obtain⟨w',e2,z⟩:=bm hw d;have lw:∀g:G,cH .slice w' g=.val (XL (l.length:Int)):=λg=>(z .nil).len g;have rw':=λh=>(z h).ints;have D:(S.RO (S.RN n) l).length=l.length:=by simp[S.RO]
 rw[nF];refine aL pC (xs:=[.tptr t 6 [[XL n.grain,b,vw,ow,ww,XL m]] 0 0,w']) (by simp only[aF,e2,ul]) (by simp[eh]) (aJ _) (by decide) hd ?_;simp only[sz,simprocAttr,eh,lw];refine mb (b:=0) (n:=l.length) (by unfold aQ;omega) (by unfold aQ;omega) (Uj _) λu g1 hu n1 f1 v1=>?_;simp only[sz,simprocAttr,lw,gf];refine aI (m:=l.length) (by omega) (λj t' df g=>df=[]/\St t' [(0,.tptr t 6 [[XL n.grain,b,vw,ow,ww,XL m]] 0 0),(11,w'),(5,u)]/\Own g 0 u 1 ((((S.RO (S.RN n) l).take j)++List.replicate (l.length - j) 0).map ci)) ⟨rfl,by simp[St,sx],?_⟩ (by simp[sx]) (by simp[sx]) (by decide)
  (by rintro j t df g v s (rfl|rfl|rfl)<;>simp[sx,St]) ?_ ?_
 ·simpa [ci] using hu
 ·rintro j t' df g C ⟨rfl,⟨h0,a,h5,-⟩,e⟩ c A;obtain⟨p,o,-,B⟩:=ae C;obtain⟨F,H⟩:=hp p B;obtain⟨pn,y,rows,pa,ra,rfl,Q,I,J,K,L,-,r5⟩:=D_ hb F H;have M:j<(l.map ci).length:=by simpa using C
  have N:(l.map ci)[j]?=some (ci (pn:Int)):=by rw[TK,o];rfl
  have f:(S.RO (S.RN n) l)[j]?=some y.card:=by simp[S.RO,o,r5]
  have o1:j<((((S.RO (S.RN n) l).take j)++List.replicate (l.length - j) 0).map ci).length:=by simp;omega
  have o2:((((S.RO (S.RN n) l).take j)++List.replicate (l.length - j) 0).map ci)[j]?=some (ci 0):=by rw[TK,T0 (by simp;omega),VQ];simp;omega
  have e3:((((S.RO (S.RN n) l).take j)++List.replicate (l.length - j) 0).map ci).set j (ci y.card)=(((S.RO (S.RN n) l).take (j+1))++List.replicate (l.length - (j+1)) 0).map ci:=by
   rw[<-Vf,UU _ _ (by simp;omega),T_,UP (by omega),UD,Uh (by omega),show l.length - j=(l.length - (j+1))+1 by omega,UY,Vm,UJ];have:(S.RO (S.RN n) l)[j]=y.card:=by rw[TH (by omega)]at f;injection f
   rw[this];rfl
  simp only[sz,simprocAttr,a,c,rw',M,N,ci,h0,eo,bH,aT,I,J,K,L,h5,e.rows,o1];refine bC (v:=u) (sz:=1) (n:=1) (i:=j) (off:=0) (x:=XL y.card) (row:=ci 0) (row':=ci y.card) e o2 rfl rfl rfl λg3 o3 n3 f3=>?_;rw[e3]at o3;simp only[sz,simprocAttr];simpa [St,sx,h0,a,h5,A,c] using o3
 ·rintro t' df g ⟨rfl,⟨h0,a,h5,-⟩,e⟩;rw[TX (by omega),UD]at e;simp only[sz,simprocAttr,gg,h5];exact⟨_,(by simpa using e:Own g 0 u 1 ((S.RO (S.RN n) l).map ci)).ints (by omega)⟩
theorem Hy{k2:Nat}{q:AV}(hd:0<d)(hr:NR n)(hq:zG n vars oth mw m k q)(hp:S.Sa vars (n.nodes.length:Int)=true)(hw:SlR P k2 g.h l w)(hl:InC (S.RO (S.RN n) vars) l) :
  ah C0 d 101 [q,w] g=.val (XL (S.RQ (S.RO (S.RN n) vars) l)):=by
 obtain⟨t,b,vw,ow,ww,rfl,ht,hb,M,ho,N⟩:=hq;obtain⟨w',e2,o⟩:=bm hw d;have lw:∀g:G,cH .slice w' g=.val (XL (l.length:Int)):=λg=>(o .nil).len g;have rw':=λh=>(o h).ints;have rv:=λh=>(M.tree (h':=h) (TG _)).ints;have I:(S.RO (S.RN n) vars).length=vars.length:=by simp[S.RO]
 have H:=hl.len;have F:=hr.l2;have L:=dy hp (by omega);have a:=aZ (ps:=vars) hr.cs (λp e=>by rw[aB];exact da hp p e);rw[mr];refine ff oe (xs:=[.tptr t 6 [[XL n.grain,b,vw,ow,ww,XL m]] 0 0,w']) (by simp only[aF,e2,ul]) (by simp[dG]) hd ?_;simp only[sz,simprocAttr,dG,fm,lw];refine aI (m:=l.length) (by omega) (λj t' df g=>df=[]/\St t' [(0,.tptr t 6 [[XL n.grain,b,vw,ow,ww,XL m]] 0 0),(8,w'),(5,XL (S.RQ ((S.RO (S.RN n) vars).take j) (l.take j)))]) ⟨rfl,by simp[St,sx,S.RQ]⟩ (by simp[sx]) (by simp[sx]) (by decide)
  (by rintro j t df g v s (rfl|rfl|rfl)<;>simp[sx,St]) ?_ ?_
 ·rintro j t' df g B ⟨rfl,h0,h8,h5,-⟩ h10 h9;obtain⟨x,hx,u,-⟩:=ae B;obtain⟨p,i,-,e⟩:=ae (l:=vars) (j:=j) (by omega);obtain⟨Q,R⟩:=da hp p e;obtain⟨pn,y,rows,pa,ra,rfl,hy,T,U,V,W,z,r5⟩:=D_ hb Q R;have Z:j<(l.map ci).length:=by simpa using B
  have z2:(l.map ci)[j]?=some (ci x):=by rw[TK,hx];rfl
  have y1:j<(vars.map ci).length:=by rw[TT];omega
  have Y:(vars.map ci)[j]?=some (ci (pn:Int)):=by rw[TK,i];rfl
  have f:(S.RO (S.RN n) vars)[j]?=some y.card:=by simp[S.RO,i,r5]
  have c1:(S.RO (S.RN n) vars).take (j+1)=(S.RO (S.RN n) vars).take j++[y.card]:=by rw[Uh (by omega)];congr 2;rw[TH (by omega)]at f;injection f
  have r:S.RQ ((S.RO (S.RN n) vars).take (j+1)) (l.take (j+1))=S.RQ ((S.RO (S.RN n) vars).take j) (l.take j)*y.card+x:=by rw[c1,u];exact AK (by simp;omega)
  have C:=bI (λc h=>a c (Uc h)) (hl.take j);have D:=bI (λc h=>a c (Uc h)) (hl.take (j+1));have q1:=dc a (by omega) j;have q2:=dc a (by omega) (j+1);rw[r]at D ⊢;have O:=hr.card y z;obtain⟨A,E⟩:∃A,A=S.RQ ((S.RO (S.RN n) vars).take j) (l.take j):=⟨_,rfl⟩;rw[<-E]at h5 C D ⊢;have J:0<=A*y.card:=Vp C.1 (by omega);have K:A*y.card<=65536*4:=Wy (by omega) (by omega) (by omega) (by omega);have w1:IntKind.wrap .i64 (A*y.card)=A*y.card:=ap (by omega) (by omega);have X:IntKind.wrap .i64 (A*y.card+x)=A*y.card+x:=ap (by omega) (by omega);simp only[sz,simprocAttr,h8,h10,rw',Z,z2,ci,h0,h5,eo,bH,aT,rv,y1,Y,T,U,V,W,w1,X];simp[St,sx,h0,h8,h9,h10]
 ·rintro t' df g ⟨rfl,h0,h8,h5,-⟩;rw[TX (by omega),TX (by omega)]at h5;simp only[sz,simprocAttr,fq,h5]
end
end
end Hx
