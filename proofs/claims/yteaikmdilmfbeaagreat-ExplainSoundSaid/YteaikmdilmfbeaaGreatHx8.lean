/- A part of the proof: what the functions of the chapter compute. -/
import Derived.Test.YteaikmdilmfbeaaGreatHx7
set_option linter.all false
set_option maxRecDepth 20000
set_option maxHeartbeats 8000000
namespace Hx
open Go
noncomputable section
variable {g:G}{d k k2 i j tg N:Nat}{n:Net}{l vars mw oth vals e pl:List Int}{P:Nat->Prop}{m gr x:Int}{t:T}{w q v b u wv r5 vw ev vv:AV}{Q:QT}{rd:Option Nat}{D:ND}{h:H}{K:AV->G->Prop}{r0:List AV}
structure DJ (r0 prow:List AV) (n q i p v u:Nat) (gr:Int) (r5:AV) (num:Nat->Nat) (j:Nat) (t:T) (g:G):Prop where
 st:St t ((13,T8 (u:Int))::LDB n q i p v r5)
 hd:∃V E D,DP r0 prow n q i p v gr r5 num g V E D/\(∀y∈D.P v,y<=(u:Int))/\((∃k,k<j/\num k=u)\/∀y∈D.P v,y<(u:Int))
theorem Np[XOc]{n q p v u:Nat}{y1 y2:UInt8}{num:Nat->Nat}(hn:1<=n/\n<=5)(h5:IT 0 pl r5)(hN:Num n pl num)(hi:i<n)(hv:v=num i)(hu:u<n)
  (h0:DJ r0 [u8v y1,u8v y2,wv] n q i p v u gr r5 num 0 t g) (h14:tat t 14=T8 0)
  (fin:∀t g,DJ r0 [u8v y1,u8v y2,wv] n q i p v u gr r5 num i t g->Q (.exit 6) t [] g):wpL (wp C0 d none eX) Q t [] g:=by
 have z:∀h,am h 1 r5=some (pl.map ci):=λh=>(h5.sl h).ints;have m:v<n:=by rw[hv];exact hN.lt i hi
 have O:∀k,i<k->k<n->num k≠v:=λk h1 h2 e=>by have:=hN.inj k i h2 hi (by rw[e,hv]);omega
 have R:∀k,k<i->num k≠v:=λk h1 e=>by have:=hN.inj k i (by omega) hi (by rw[e,hv]);omega
 obtain⟨FR,C⟩:∃FR,FR=yz:=⟨_,rfl⟩;simp only[eX,jX];rw[show (SC.feet [0,1,0,0,8,0,56,120,248,0,512,2040,4095,8191,16383] [oF 131 1 4,oL 132 131,oM 133 12,oF 134 1 4,oL 135 134,oM 136 12,TA 137 3 135 136,oF 138 1 137,oL 139 138,oM 140 13,TZ 141 140,TS 142 1 8 139 141,TA 143 3 132 133,oF 144 1 143,Tw 1 144 142])=FR from C.symm];refine d7 i (by omega) (λj t df g=>df=[]/\DJ r0 [u8v y1,u8v y2,wv] n q i p v u gr r5 num j t g) ⟨rfl,h0⟩ h14 (by decide) ?_ ?_ ?_ ?_
 ·rintro j t df g w s (rfl|rfl|rfl) ⟨a1,⟨b1,b2,Z,b4,b5,b6,b7,b8,b9,-⟩,c⟩<;>exact⟨a1,by simp[St,LDB,sx,b1,b2,Z,b4,b5,b6,b7,b8,b9],c⟩
 ·rintro j t df g U ⟨rfl,⟨a,h1,h2,h3,h4,h5,h10,b,f,-⟩,hD⟩ h14;simp only[sz,simprocAttr,h14,h10];exact⟨by simp[St,LDB,sx,a,h1,h2,h3,h4,h5,h10,b,f],hD⟩
 ·rintro j t df g U ⟨rfl,⟨a,h1,h2,h3,h4,h5,h10,b,f,-⟩,V,E,D,r,x,F⟩ h14;obtain⟨kp,-,-⟩:=r.p;have kp:g.h.get p=Tq 3 [[u8v y1,u8v y2,wv]]:=kp;obtain⟨kq,h6,h7⟩:=r.dn.q (.inl rfl);have rns:=r.dn.ns.rows;have H:=ue r.dn.ns (by simp;omega);have I:j<(pl.map ci).length:=by rw[QA,hN.len];omega
  have J:(pl.map ci)[j]?=some (ci (num j:Int)):=by rw[Qv,hN.at_ j (by omega)];rfl
  have u3:v<((List.range n).map (gf D V)).length:=by simpa using m
  have W:((List.range n).map (gf D V))[v]?=some [T8 (D.c v),V (v+1,0),V (v+1,1)]:=gK (gf D V) m;have M:=r.dn.bn.ps v m;have A:∀g2:G,bY .slice (V (v+1,0)) g2=.val (T8 ((D.P v).length:Int)):=λg2=>by have:=(r.dn.hp.own (.inl (LN.p m)) M.1).rows;rw[jH this];simp
  have w1:IntKind.wrap .u64 (j:Int)=(j:Int):=xa (by omega) (by omega);obtain⟨X,B⟩:=uI y2.toNat j;obtain⟨Y,S⟩:=uH X 1;have l:(∃k,k<j+1/\num k=u)\/∀y∈D.P v,y<(u:Int):=by
   rcases F with⟨k,h1,h2⟩|h
   ·exact .inl ⟨k,by omega,h2⟩
   ·exact .inr h
  have o:cx .and (.int .u8 (X:Int)) (.int .u8 1)=.val (.int .u8 Y):=S
  by_cases c1:(num j:Int)=(u:Int)
  ·by_cases c2:Y=1
   ·by_cases c3:((D.P v).length:Int)<3
    ·simp only[sz,simprocAttr,h14,h5,a,z,I,J,ci,c1,b,kp,u8v,w1,B,o,c2,h4,kq,f,rns,u3,W,H,A,c3];rw[C];refine LP (n:=n) (q:=q) (i:=i) (p:=p) (v:=v) (u:=u) (r5:=r5) (num:=num) hn m O hu R ⟨j,U,by omega⟩ ?_ ?_ ?_ ?_ r (by omega) (rest:=[]) ?_
     ·rcases F with⟨k,h1,h2⟩|h
      ·have:=hN.inj k j (by omega) (by omega) (by omega);omega
      ·exact h
     ·simp[sx,h4]
     ·simp[sx,f]
     ·simp[sx,a]
     intro t' g' V' E' D' N L K;simp only[sy];have hs:∀s,s<131->tat t' s=_:=λs h=>N s (.inl h);refine⟨⟨?_,V',E',D',K,λy hy=>?_,.inl ⟨j,by omega,by omega⟩⟩,?_⟩
     ·simp[St,LDB,hs,sx,a,h1,h2,h3,h4,h5,h10,b,f]
     ·rw[L]at hy;rcases Q7.1 hy with h|h
      ·exact x y h
      ·rw[RR.1 h];exact SQ _
     ·simp[hs,sx,h14]
    ·simp only[sz,simprocAttr,h14,h5,a,z,I,J,ci,c1,b,kp,u8v,w1,B,o,c2,h4,kq,f,rns,u3,W,H,A,c3];exact⟨by simp[St,LDB,sx,a,h1,h2,h3,h4,h5,h10,b,f],V,E,D,r,x,l⟩
   ·simp only[sz,simprocAttr,h14,h5,a,z,I,J,ci,c1,b,kp,u8v,w1,B,o,c2];exact⟨by simp[St,LDB,sx,a,h1,h2,h3,h4,h5,h10,b,f],V,E,D,r,x,l⟩
  ·simp only[sz,simprocAttr,h14,h5,a,z,I,J,ci,c1];exact⟨by simp[St,LDB,sx,a,h1,h2,h3,h4,h5,h10,b,f],V,E,D,r,x,l⟩
 ·rintro t df g ⟨rfl,h⟩;exact fin t g h
structure DK (r0 prow:List AV) (n q i p v:Nat) (gr:Int) (r5:AV) (num:Nat->Nat) (j:Nat) (t:T) (g:G):Prop where
 st:St t (LDB n q i p v r5)
 hd:∃V E D,DP r0 prow n q i p v gr r5 num g V E D/\∀y∈D.P v,y<(j:Int)
theorem Nq[XOc]{n q p v:Nat}{y1 y2:UInt8}{num:Nat->Nat}(hn:1<=n/\n<=5)(h5:IT 0 pl r5)(hN:Num n pl num)(hi:i<n)(hv:v=num i)
  (h0:DK r0 [u8v y1,u8v y2,wv] n q i p v gr r5 num 0 t g) (h13:tat t 13=T8 0)
  (fin:∀t g,DK r0 [u8v y1,u8v y2,wv] n q i p v gr r5 num n t g->Q (.exit 4) t [] g):wpL (wp C0 d none eZ) Q t [] g:=by
 simp only[eZ,jY];refine d7 n (by omega) (λj t df g=>df=[]/\DK r0 [u8v y1,u8v y2,wv] n q i p v gr r5 num j t g) ⟨rfl,h0⟩ h13 (by decide) ?_ ?_ ?_ ?_
 ·rintro j t df g w s (rfl|rfl|rfl) ⟨a1,⟨b1,b2,A,B,C,F,b7,H,-⟩,c⟩<;>exact⟨a1,by simp[St,LDB,sx,b1,b2,A,B,C,F,b7,H],c⟩
 ·rintro j t df g z ⟨rfl,⟨h1,h2,h3,h4,h5,h10,k,a,-⟩,f⟩ h13;simp only[sz,simprocAttr,h13,h3];exact⟨by simp[St,LDB,sx,h1,h2,h3,h4,h5,h10,k,a],f⟩
 ·rintro j t df g z ⟨rfl,⟨h1,h2,h3,h4,e,h10,k,a,-⟩,V,E,D,f,hlt⟩ h13;simp only[sz,simprocAttr];refine Np (u:=j) hn h5 hN hi hv z ⟨by simp[St,LDB,sx,h13,h1,h2,h3,h4,e,h10,k,a],V,E,D,f,λy hy=>Int.le_of_lt (hlt y hy),.inr hlt⟩ (by simp[sx]) ?_;rintro M g2 ⟨⟨x,I,k2,J,K,L,m,o,r,-⟩,V2,E2,D2,l,b,-⟩;simp only[sx,sy,↓reduceIte];exact⟨⟨by simp[St,LDB,I,k2,J,K,L,m,o,r],V2,E2,D2,l,λy hy=>by have:=b y hy;omega⟩,x⟩
 ·rintro t df g ⟨rfl,h⟩;exact fin t g h
def yJ:SC:=.feet [0,1,0,0,8,0,56,120,248,0,512,0,2048,0,14336,30720,63488,0,131072,0,0,1048576,0,7340032,15728640,32505856,66060288,133693440,268434944,536870400,1073741816,2147483647,4294967295,8589934591] [oF 153 1 4,oL 154 153,oM 155 12,oF 156 1 4,oL 157 156,oM 158 12,TA 159 3 157 158,oF 160 2 159,oL 161 160,oF 162 0 4,oL 163 162,oF 164 1 4,oL 165 164,oM 166 12,TA 167 3 165 166,oF 168 0 167,oL 169 168,oF 170 2 11,oL 171 170,oM 172 15,oF 173 1 4,oL 174 173,oM 175 12,TA 176 3 174 175,oF 177 0 176,oL 178 177,oA 179 178,Ts 180 .mul 172 179,TQ 181 50 163 169 171 180,T0 182 181,TS 183 1 24 161 182,TA 184 3 154 155,oF 185 2 184,Tw 1 185 183]
structure DQ (r0 prow:List AV) (n q i p v j:Nat) (gr:Int) (r5:AV) (num:Nat->Nat) (P0:List Int) (c0:Nat->Int) (g:G) (V:Ky->AV) (E:Ky->En) (D:ND):Prop where
 dn:DN X2 r0 n q 1000 gr V E D g
 pb:V (0,2)=T9 p/\E (0,2)=.bx prow
 db:DB D n i v num
 mv:D.m v=j
 pv:D.P v=P0
 cv:D.c=c0
 ok:DOk gr D n i num
theorem DQ.p{r0 prow:List AV}{n q i p v j:Nat}{gr:Int}{r5:AV}{num:Nat->Nat}{P0:List Int}{c0:Nat->Int}{g:G}{V:Ky->AV}{E:Ky->En}{D:ND}(h:DQ r0 prow n q i p v j gr r5 num P0 c0 g V E D):g.h.get p=Tq prow.length [prow]/\2<=p/\p<g.nx:=by obtain⟨id,h1,h2,h3,h4⟩:=h.dn.hp.box (k:=(0,2)) (.inr (.inr rfl)) h.pb.2;rw[h.pb.1]at h3;injection h3 with h3;subst h3;exact⟨h4,h1,h2⟩
theorem LQ[XOc]{n q p v kk:Nat}{y1 y2:UInt8}{W:List UInt8}{num:Nat->Nat}{P0:List Int}{c0:Nat->Int}{V:Ky->AV}{E:Ky->En}(hd:0<d)(hn:1<=n/\n<=5)(hv:v<n)(hvi:∀k,i<k->k<n->num k≠v)(hvl:∀k,k<i->num k≠v)(hj:j<64)(hgr:0<=gr/\gr<=60)(hwv:SlR NoP kk .nil W wv)
  (h4:tat t 4=T9 q) (h11:tat t 11=T9 p) (h12:tat t 12=T8 (v:Int)) (h15:tat t 15=T8 (j:Int)) (hP:DQ r0 [u8v y1,u8v y2,wv] n q i p v j gr r5 num P0 c0 g V E D)
  (fin:∀t' g' V' E' D',(∀s,(s<153\/185<s)->tat t' s=tat t s)->DQ r0 [u8v y1,u8v y2,wv] n q i p v (j+1) gr r5 num P0 c0 g' V' E' D'->Q .norm t' [] g') :
  wp C0 d none yJ Q t [] g:=by
 have A:=hP.dn;obtain⟨kq,ha,hb⟩:=A.q (.inl rfl);obtain⟨kp,-,h9⟩:=hP.p;have kp:g.h.get p=Tq 3 [[u8v y1,u8v y2,wv]]:=kp;unfold yJ;have rns:=A.ns.rows;have S:=ue A.ns (by simp;omega);have u3:v<((List.range n).map (gf D V)).length:=by simpa using hv
 have u4:=gK (gf D V) hv;have X:((List.range n).map (gf D V))[v]?=some [T8 (D.c v),V (v+1,0),V (v+1,1)]:=u4;have h3:=A.bn.rs v hv;have h8:=A.hp.nx;obtain⟨C,hC,h6⟩:∃C:Nat,D.c v=(C:Int)/\(C=2\/C=3):=by
  rcases hP.db.c v hv with h|h
  ·exact⟨2,h,.inl rfl⟩
  ·exact⟨3,h,.inr rfl⟩
 have h7:j*(C+1)<=64*4:=Nat.mul_le_mul (by omega) (by omega);have w1:IntKind.wrap .i64 ((C:Int)+1)=((C+1:Nat):Int):=by rw[aB (by omega) (by omega)];rfl
 have w2:IntKind.wrap .i64 ((j:Int)*((C+1:Nat):Int))=((j*(C+1):Nat):Int):=by rw[<-SA,aB (by omega) (by omega)]
 rw[hC]at X;simp only[sz,simprocAttr,sf,h4,h11,h12,h15,kq,kp,rns,u3,X,S,w1,w2,xV];refine bL (Nz (C:=C) (F:=j*(C+1)) (gr:=gr) (l:=W) hd (by omega) (by omega) hgr hwv) ?_;rintro r ⟨l,⟨hl,M⟩,_,e1,hr⟩;injection e1 with e1;subst e1;have O:=hr.cell;simp only[sz,simprocAttr,sf,O.1,O.2];refine (A.hp.step (g':=_) ?_ ?_).app2 (k:=(v+1,1)) (.inl (LN.r hv)) h3.1 (new:=[[r]]) (by simp[sx,sy]) (by unfold aS;simp;rw[hP.mv];omega) λv1 g1 H n1 fb1 fo1 lg1 vc vt=>?_
 ·simp;omega
 ·intro i _ hi;simp[OE];omega
 simp only[sx,sy]at n1 fb1 fo1 lg1;have Z:¬LNX X2 n D (v+1,2+j):=by
  rintro (h|h)
  ·rcases h with h|⟨i',q',h,-,hq⟩
   ·simp at h
   ·rw[hP.db.o]at hq;simp only[Prod.mk.injEq]at h;omega
  ·rcases h with h|h<;>simp at h
 have H:=H.off (x:=r) Z;have K:ups (ups V (v+1,1) v1) (v+1,2+j) r (0,0)=V (0,0):=by rw[an _ _ (by simp),an _ _ (by simp)]
 have I:ups E (v+1,1) (.sl 1 ((List.range (D.m v)).map (ES V v)++[[r]])) (0,0)=.sl 3 ((List.range n).map (gf D V)):=by rw[an _ _ (by simp)];exact A.bn.ns
 have rns1:am g1.h 3 (V (0,0))=some ((List.range n).map (gf D V)):=by rw[<-K];exact (H.own (k:=(0,0)) (.inl LN.z) I).rows
 simp only[sz,simprocAttr,sf,rns1,u3,S];refine (H.same (g':=_) ?_ ?_).putv (k:=(0,0)) (.inl LN.z) K (row':=[T8 (C:Int),V (v+1,0),v1]) I u4 (by rw[vc];rfl) vt (by rw[vc,gf,hC];rfl) λg2 hH2 n2 fb2 fo2=>?_
 ·simp
 ·simp;omega
 simp only[sy];refine⟨?_,?_⟩
 ·simp only[Q5,Q4,QU,QQ];refine aT (false::(TJ (TH (TH (TH (true::(true::(TK (true::[]))))))))) [(0,29),(1,29),(2,29),(3,29),(4,29),(5,29),(6,29),(7,29),(8,29),(0,30),(1,30),(2,30)] (by simp[All2,ah,aC]) (by decide) ?_;have L:∀i∈g1.lg,i≠q:=λi hi e=>by
   rcases lg1 i hi with h|h|h
   ·simp at h
   ·exact A2 A.hp (.inl (LN.r hv)) (.inr (.inl rfl)) (by simp) h (by rw[A.vb,e];rfl)
   ·omega
  obtain⟨id0,ep0,h5,U⟩:∃id ep,id<g.nx/\V (0,0)=.hsl id ep 0 ((List.range n).map (gf D V)).length none:=by
   rcases A.ns with⟨h,e⟩|⟨id,ep,lo,-,h1,h2,-⟩
   ·have:=congrArg List.length e;simp at this;omega
   ·exact⟨id,ep,h1,h2⟩
  have J:∀i∈g1.lg,i≠id0:=λi hi e=>by
   rcases lg1 i hi with h|h|h
   ·simp at h
   ·exact A2 A.hp (.inl (LN.r hv)) (.inl LN.z) (by simp) h (by rw[U,e];rfl)
   ·omega
  rintro p N x y hx hy;simp only[Rh,QH,S9]at N;rcases N with rfl|rfl|rfl|rfl|rfl|rfl|rfl|rfl|rfl|rfl|rfl|rfl<;>(simp at hx hy;subst hx;subst hy;refine eO rfl rfl rfl rfl ?_ ?_ ?_<;>simp[ah,aC,af,U,kX]<;>first|omega|exact L|exact J|exact λi hi e=>L i hi e.symm|exact λi hi e=>J i hi e.symm)
 have Y:=hP.mv;refine fin _ _ (ups (ups V (v+1,1) v1) (v+1,2+j) r) _ { D with m:=ups D.m v (j+1),R:=ups D.R v (ups (D.R v) j l) } (λs hs=>?_) ⟨⟨(hH2.same (g':=_) (by simp) (by simp)).sub λk hk=>hk,⟨?_,λu hu=>?_,λu hu=>?_,λu r' hu b=>?_⟩,?_,?_,?_,?_⟩,⟨?_,?_⟩,⟨hP.db.c,hP.db.p,λu hu=>?_,hP.db.o,λk hk hkn=>?_⟩,aH _ _ _,hP.pv,hP.cv,?_⟩
 ·simp only[b_]
  repeat rw[Qu (by omega)]
 ·rw[aH,nz _ _ hv];congr 1;refine yq ?_ λj hj hne=>by simp[gf,an,hne]
  show _=[T8 (D.c v),ups (ups V (v+1,1) v1) (v+1,2+j) r (v+1,0),ups (ups V (v+1,1) v1) (v+1,2+j) r (v+1,1)];rw[hC,an _ _ (by first| (simp;done)| (simp;omega)),an _ _ (by first| (simp;done)| (simp;omega)),an _ _ (by first| (simp;done)| (simp;omega)),aH]
 ·rw[an _ _ (by simp),an _ _ (by simp)];exact A.bn.ps u hu
 ·by_cases e:u=v
  ·subst e;rw[an _ _ (by simp),aH];show En.sl 1 _=En.sl 1 ((List.range (ups D.m u (j+1) u)).map _)/\ups D.m u (j+1) u<=1000;rw[aH];refine⟨?_,by omega⟩;rw[Y,Ry,Rx];congr 2
   ·exact RC λr' b=>by have:=QE.1 b;simp[ES,an,show ¬r'=j by omega,show ¬2+r'=1 by omega]
   ·simp[ES,aH]
  ·rw[an _ _ (by simp),an _ _ (by simp[e])];show E (u+1,1)=En.sl 1 ((List.range (ups D.m v (j+1) u)).map _)/\ups D.m v (j+1) u<=1000;rw[an _ _ e];have:=A.bn.rs u hu;refine⟨?_,this.2⟩;rw[this.1];congr 1;exact RC λr' _=>by simp[ES,an,e]
 ·by_cases e:u=v
  ·subst e;have b:r'<ups D.m u (j+1) u:=b;rw[aH]at b;show (ups D.R u (ups (D.R u) j l) u r').length<=1000/\((r'<D.o u/\_=En.sl 1 ((ups D.R u (ups (D.R u) j l) u r').map ci))\/SlR NoP 0 .nil (ups D.R u (ups (D.R u) j l) u r') _);rw[aH]
   by_cases e2:r'=j
   ·subst e2;rw[aH,aH];exact⟨by omega,.inr hr⟩
   ·rw[an _ _ e2,an _ _ (by first| (simp;done)| (simp;omega)),an _ _ (by first| (simp;done)| (simp;omega)),an _ _ (by simp[e2]),an _ _ (by first| (simp;done)| (simp;omega))];exact A.bn.rr u r' hu (by omega)
  ·have b:r'<ups D.m v (j+1) u:=b;rw[an _ _ e]at b;show (ups D.R v (ups (D.R v) j l) u r').length<=1000/\((r'<D.o u/\_=En.sl 1 ((ups D.R v (ups (D.R v) j l) u r').map ci))\/SlR NoP 0 .nil (ups D.R v (ups (D.R v) j l) u r') _);rw[an _ _ e,an _ _ (by first| (simp;done)| (simp;omega)),an _ _ (by first| (simp;done)| (simp;omega)),an _ _ (by simp[e]),an _ _ (by simp[e])];exact A.bn.rr u r' hu b
 ·rw[an _ _ (by simp),an _ _ (by simp)];exact A.vb
 ·rw[an _ _ (by simp),an _ _ (by simp),an _ _ (by simp),an _ _ (by simp)];exact A.bx
 ·simp only[bumpG_h];rw[fb2 0 (by omega)];simp;rw[fb1 0 (by omega),Qu (by omega),A.h0]
 ·simp only[bumpG_h];rw[fb2 1 (by omega)];simp;rw[fb1 1 (by omega),Qu (by omega),A.h1]
 ·rw[an _ _ (by simp),an _ _ (by simp)];exact hP.pb.1
 ·rw[an _ _ (by simp),an _ _ (by simp)];exact hP.pb.2
 ·show ups D.m v (j+1) u<=64
  by_cases e:u=v
  ·rw[e,aH];omega
  ·rw[an _ _ e];exact hP.db.m u hu
 ·show D.P (num k)=[]/\ups D.m v (j+1) (num k)=0;rw[an _ _ (hvi k hk hkn)];exact hP.db.f k hk hkn
 ·have B:=hP.ok;refine⟨B.s,B.a,λk hk=>?_,λu r' hu b=>?_⟩
  ·show ((ups D.m v (j+1) (num k):Nat):Int)=_;rw[an _ _ (hvl k hk)];exact B.w k hk
  ·show K1 gr (D.c u) (ups D.R v (ups (D.R v) j l) u r');have b:r'<ups D.m v (j+1) u:=b
   by_cases e:u=v
   ·rw[e,aH]at b ⊢
    by_cases e2:r'=j
    ·rw[e2,aH,hC];exact M
    ·rw[an _ _ e2];exact B.r v r' hv (by omega)
   ·rw[an _ _ e]at b ⊢;exact B.r u r' hu b
theorem F9{n v:Nat}(hv:v<n)(hp:∀y∈D.P v,0<=y/\y<n):S.OA (S.Oz ⟨gr,(List.range n).map D.node⟩) (D.P v)=(D.P v).map λy=>D.c y.toNat:=by
 unfold S.OA S.Oz;refine RC λy hy=>?_;have:=hp y hy;rw[List.map_map];have h:y.toNat<n:=by omega
 simp[h,ND.node]
theorem yp{n v:Nat}(hv:v<n)(hc:∀u,u<n->D.c u=2\/D.c u=3)(hp:(D.P v).length<=3/\∀y∈D.P v,0<=y/\y<n):(∀c∈(D.P v).map λy=>D.c y.toNat,1<=c/\c<=4)/\1<=S.Pr (D.P v) D.c/\S.Pr (D.P v) D.c<=64:=by
 have h1:∀c∈(D.P v).map λy=>D.c y.toNat,1<=c/\c<=4:=λc h=>by obtain⟨y,k,rfl⟩:=Rb.1 h;have:=hp.2 y k;have:=hc y.toNat (by omega);omega
 have h2:=dq h1;have h3:=oO (a:=((D.P v).map λy=>D.c y.toNat).length) (b:=3) (by simpa using hp.1);have h4:(4:Int) ^ 3=64:=by decide
 refine⟨h1,h2.1,?_⟩;unfold S.Pr;omega
structure DRw (r0 prow:List AV) (n q i p v j:Nat) (gr:Int) (r5:AV) (num:Nat->Nat) (P0:List Int) (c0:Nat->Int) (t:T) (g:G):Prop where
 st:St t (LDB n q i p v r5)
 hd:∃V E D,DQ r0 prow n q i p v j gr r5 num P0 c0 g V E D
theorem Nr[XOc]{n q p v kk:Nat}{y1 y2:UInt8}{W:List UInt8}{num:Nat->Nat}{P0:List Int}{c0:Nat->Int}(hd:0<d)(hn:1<=n/\n<=5)(hv:v<n)(hvi:∀k,i<k->k<n->num k≠v)(hvl:∀k,k<i->num k≠v)(hgr:0<=gr/\gr<=60)(hwv:SlR NoP kk .nil W wv)
  (h0:DRw r0 [u8v y1,u8v y2,wv] n q i p v 0 gr r5 num P0 c0 t g) (h15:tat t 15=T8 0)
  (fin:∀(t:T) (g:G) (j:Nat),(j:Int)=S.Pr P0 c0->DRw r0 [u8v y1,u8v y2,wv] n q i p v j gr r5 num P0 c0 t g->Q (.exit 8) t [] g):wpL (wp C0 d none e6) Q t [] g:=by
 have U:1<=S.Pr P0 c0/\S.Pr P0 c0<=64:=by obtain⟨-,V,E,D,a⟩:=h0;have:=(yp hv a.db.c (a.db.p v hv)).2;rw[a.pv,a.cv]at this;exact this
 obtain⟨M,o⟩:=QD (show 0<=S.Pr P0 c0 by omega);obtain⟨FR,m⟩:∃FR,FR=yJ:=⟨_,rfl⟩;simp only[e6];rw[show (SC.feet [0,1,0,0,8,0,56,120,248,0,512,0,2048,0,14336,30720,63488,0,131072,0,0,1048576,0,7340032,15728640,32505856,66060288,133693440,268434944,536870400,1073741816,2147483647,4294967295,8589934591] [oF 153 1 4,oL 154 153,oM 155 12,oF 156 1 4,oL 157 156,oM 158 12,TA 159 3 157 158,oF 160 2 159,oL 161 160,oF 162 0 4,oL 163 162,oF 164 1 4,oL 165 164,oM 166 12,TA 167 3 165 166,oF 168 0 167,oL 169 168,oF 170 2 11,oL 171 170,oM 172 15,oF 173 1 4,oL 174 173,oM 175 12,TA 176 3 174 175,oF 177 0 176,oL 178 177,oA 179 178,Ts 180 .mul 172 179,TQ 181 50 163 169 171 180,T0 182 181,TS 183 1 24 161 182,TA 184 3 154 155,oF 185 2 184,Tw 1 185 183])=FR from m.symm];refine d7 M (by omega) (λj t df g=>df=[]/\DRw r0 [u8v y1,u8v y2,wv] n q i p v j gr r5 num P0 c0 t g) ⟨rfl,h0⟩ h15 (by decide) ?_ ?_ ?_ ?_
 ·rintro j t df g w s (rfl|rfl|rfl) ⟨a1,⟨b1,b2,H,I,J,K,b7,L,-⟩,c⟩<;>exact⟨a1,by simp[St,LDB,sx,b1,b2,H,I,J,K,b7,L],c⟩
 ·rintro j t df g N ⟨rfl,⟨h1,h2,h3,h4,h5,h10,e,b,-⟩,V,E,D,a⟩ h15;obtain⟨kq,O,R⟩:=a.dn.q (.inl rfl);have f:=a.dn.bn.nodes a.dn.hp (λk h=>.inl h) (by omega) (by omega);have u:Agg (⟨gr,(List.range n).map D.node⟩:Net) (λj=>2<=j) 0 g.h (.agg [T8 gr,V (0,0)]):=⟨_,rfl,jK.2 ⟨_,rfl,f⟩⟩;have l:=a.db.p v hv;obtain⟨r,er,hr⟩:=HG (d:=d) (g:=g) (i:=v) (x:=D.node v) hd u (by simp;omega) (by simp[hv]) (by show (D.P v).length<_;omega) (λy hy=>by have:=l.2 y hy;simp;omega);have z:=F9 (gr:=gr) hv l.2;have hb:=yp hv a.db.c l;have A:=Ko (d:=d) (g:=g) hd (hr.sl g.h);have C:S.Pd (S.OA (S.Oz ⟨gr,(List.range n).map D.node⟩) (D.node v).parents)=(M:Int):=by show S.Pd (S.OA (S.Oz ⟨gr,(List.range n).map D.node⟩) (D.P v))=(M:Int);rw[z,lj hb.1 (by simp;omega),<-o,S.Pr,<-a.pv,<-a.cv]
  rw[C]at A;simp only[sz,simprocAttr,h15,h4,kq,b,er,A];exact⟨by simp[St,LDB,sx,h1,h2,h3,h4,h5,h10,e,b],V,E,D,a⟩
 ·rintro j t df g N ⟨rfl,⟨h1,h2,h3,h4,h5,h10,e,b,-⟩,V,E,D,a⟩ h15;rw[m];refine LQ (n:=n) (q:=q) (i:=i) (p:=p) (v:=v) (j:=j) (r5:=r5) (num:=num) hd hn hv hvi hvl (by omega) hgr hwv h4 e b h15 a ?_;intro t' g' V' E' D' F B;have hs:∀s,s<153->tat t' s=tat t s:=λs h=>F s (.inl h);rw[A3];exact⟨⟨rfl,by simp[St,LDB,hs,h1,h2,h3,h4,h5,h10,e,b],V',E',D',B⟩,by rw[hs 15 (by omega),h15]⟩
 ·rintro t df g ⟨rfl,h⟩;exact fin t g M o.symm h
section
variable {n:Nat}
structure DBl (D:ND) (n i:Nat) (num:Nat->Nat):Prop where
 c:∀u,u<n->D.c u=2\/D.c u=3
 p:∀u,u<n->(D.P u).length<=3/\∀y∈D.P u,0<=y/\y<n
 m:∀u,u<n->D.m u<=64
 o:∀u,D.o u=0
 f:∀k,i<=k->k<n->D.P (num k)=[]/\D.m (num k)=0
structure DL (r0:List AV) (n q:Nat) (gr:Int) (r5:AV) (num:Nat->Nat) (i:Nat) (t:T) (g:G):Prop where
 st:St t (LDA n q r5)
 hd:∃V E D,DN X1 r0 n q 1000 gr V E D g/\DBl D n i num/\DOk gr D n i num
theorem LG:∀k,LNX X1 n D k->LNX X2 n D k:=λk h=>by
 rcases h with h|h
 ·exact .inl h
 ·exact .inr (.inl h)
theorem LO[XOc]{q kk:Nat}{x:uD}{a:AV}{num:Nat->Nat}(hd:0<d)(hgr:0<=gr/\gr<=60)(hn:1<=n/\n<=5)(ha:SlR NoP kk .nil x.2.1 a)(h5:IT 0 pl r5)(hN:Num n pl num)
  (h0:DL [u8v x.1,a,b] n q gr r5 num 0 t g) (h10:tat t 10=T8 0)
  (fin:∀t g,DL [u8v x.1,a,b] n q gr r5 num n t g->Q (.exit 2) t [] g):wpL (wp C0 d none eF) Q t [] g:=by
 obtain⟨pr,r1,r2,r3,r4⟩:=ha.all;have r1:∀h',am h' 3 a=some pr:=r1;have la:=ha.len;have hc:=ha.1;have h9:∀h,am h 1 r5=some (pl.map ci):=λh=>(h5.sl h).ints;simp only[eF,jt];refine d7 n (by omega) (λj t df g=>df=[]/\DL [u8v x.1,a,b] n q gr r5 num j t g) ⟨rfl,h0⟩ h10 (by decide) ?_ ?_ ?_ ?_
 ·rintro j t df g v s (rfl|rfl|rfl) ⟨a1,⟨b1,b2,b3,b4,b5,-⟩,c3⟩<;>exact⟨a1,by simp[St,LDA,sx,b1,b2,b3,b4,b5],c3⟩
 ·rintro j t df g I ⟨rfl,⟨h1,h2,h3,h4,h5,-⟩,B⟩ h10;simp only[sz,simprocAttr,h10,h3];exact⟨by simp[St,LDA,sx,h1,h2,h3,h4,h5],B⟩
 ·rintro j t df g I ⟨rfl,⟨h1,h2,h3,h4,l,-⟩,V,E,D,B,hb,Z⟩ h10;obtain⟨p,hp⟩:∃p,p=g.nx:=⟨_,rfl⟩;have he:=B.hp.nx;refine pg (P:=λt' df g'=>df=[]/\g'=g.new (Tq 3 [[.int .u8 0,.int .u8 0,.nils]])/\St t' ((10,T8 (j:Int))::(11,T9 p)::LDA n q r5)) ?_ ?_
  ·simp only[sz,simprocAttr];simp[St,LDA,sx,h1,h2,h3,h4,l,h10,hp]
  clear h1 h2 h3 h4 l h10;rintro t df g1 ⟨rfl,H,⟨h10,A,h1,h2,h3,h4,l,-⟩⟩;have f1:Fr g g1:=by rw[H];exact Fr.new _ _
  have R:g1.h.get p=Tq 3 [[.int .u8 0,.int .u8 0,.nils]]:=by rw[H,hp];simp[OE]
  have n1:p<g1.nx:=by rw[H,hp];simp
  clear H;have L:=B.same f1;have e0:=L.h0;refine pg (P:=λt' df g'=>df=[]/\Fr g g'/\St t' ((10,T8 (j:Int))::(11,T9 p)::LDA n q r5)/\p<g'.nx/\∃(S U:UInt8) (W:List UInt8) (wv:AV),SlR NoP kk .nil W wv/\g'.h.get p=Tq 3 [[u8v S,u8v U,wv]]) ?_ ?_
  ·simp only[sz,simprocAttr,h10,h1,e0,la];refine mE (λhb=>?_) (λhb=>?_)
   ·have hb:j<x.2.1.length:=by simpa using hb
    obtain⟨y,X,-,-⟩:=ae hb;obtain⟨row,q1,q2⟩:=r3 j y X;obtain⟨wv,rfl,K⟩:=An.1 q2;have hlt:j<pr.length:=by omega
    have hf:=r4 (by omega);simp only[sz,simprocAttr,h10,h1,e0,r1,hlt,q1,A,R];refine⟨?_,by simp[St,LDA,sx,h1,h2,h3,h4,l,h10,A],by simpa using n1,y.1,y.2.1,y.2.2,wv,K,by simp[OE]⟩;exact⟨QW f1.1 (by simp),λi hi=>by simp[OE,show ¬i=p by omega];exact f1.2 i hi⟩
   ·simp only[sx,sy];exact⟨f1,by simp[St,LDA,sx,h1,h2,h3,h4,l,h10,A],n1,0,0,[],.nils,⟨by show 0<9223372036854775808;decide,rfl⟩,R⟩
  clear h1 h2 h3 h4 l h10 A e0 L R n1 f1;rintro t df g2 ⟨rfl,f2,⟨h10,A,h1,h2,h3,h4,l,-⟩,n2,S,U,W,wv,K,R⟩;have hH:=B.hp.add (g':=g2) (k:=(0,2)) (L':=LNX X2 n D) (v':=T9 p) (e':=.bx [u8v S,u8v U,wv]) (by
   rintro (h|h)
   ·rcases h with h|⟨i',q',h,-,-⟩<;>simp at h
   ·simp[X1]at h) ⟨p,by omega,n2,rfl,R⟩ f2.1 (λi _ hi=>f2.2 i hi) (λi hi=>by injection hi with hi;omega) (λk hk=>by
   rcases hk with h|h|h
   ·exact .inl (.inl h)
   ·exact .inl (.inr h)
   ·exact .inr h)
  have O:=hb.f j (Qq _) I;have h8:=hN.lt j I;have h6:∀k,j<k->k<n->num k≠num j:=λk h1 h2 e=>by have:=hN.inj k j h2 I e;omega
  have h7:∀k,k<j->num k≠num j:=λk h1 e=>by have:=hN.inj k j (by omega) I e;omega
  have N:DP [u8v x.1,a,b] [u8v S,u8v U,wv] n q j p (num j) gr r5 num g2 (ups V (0,2) (T9 p)) (ups E (0,2) (.bx [u8v S,u8v U,wv])) D:=by
   refine⟨⟨hH,⟨?_,λu hu=>?_,λu hu=>?_,λu r hu hr=>?_⟩,?_,?_,by rw[f2.2 0 (by omega),B.h0],by rw[f2.2 1 (by omega),B.h1]⟩,⟨aH _ _ _,aH _ _ _⟩,⟨hb.c,hb.p,hb.m,hb.o,λk h1 h2=>hb.f k (by omega) h2⟩,O.2,Z⟩
   ·rw[an _ _ (by simp),B.bn.ns];exact congrArg (En.sl 3) (RC λu _=>by simp[gf,an])
   ·rw[an _ _ (by simp)];exact B.bn.ps u hu
   ·rw[an _ _ (by simp)];have:=B.bn.rs u hu;refine⟨?_,this.2⟩;rw[this.1];exact congrArg (En.sl 1) (RC λr _=>by simp[ES,an])
   ·rw[an _ _ (by simp),an _ _ (by simp)];exact B.bn.rr u r hu hr
   ·rw[an _ _ (by simp)];exact B.vb
   ·rw[an _ _ (by simp),an _ _ (by simp)];exact B.bx
  have u1:j<(pl.map ci).length:=by rw[QA,hN.len];exact I
  have u2:(pl.map ci)[j]?=some (ci (num j:Int)):=by rw[Qv,hN.at_ j I];rfl
  simp only[sz,simprocAttr,js,l,h10,h9,u1,u2,ci];refine Nq (n:=n) (q:=q) (i:=j) (p:=p) (v:=num j) (r5:=r5) (num:=num) hn h5 hN I rfl ⟨by simp[St,LDB,sx,h1,h2,h3,h4,l,h10,A],_,_,_,N,λy X=>by rw[O.1]at X;simp at X⟩ (by simp[sx]) ?_;clear h1 h2 h3 h4 l h10 A N hH;rintro t g3 ⟨⟨h1,h2,h3,h4,l,h10,A,J,-⟩,V3,E3,D3,C,-⟩;simp only[sz,simprocAttr,jZ];refine Nr (n:=n) (q:=q) (i:=j) (p:=p) (v:=num j) (r5:=r5) (num:=num) (P0:=D3.P (num j)) (c0:=D3.c) hd hn h8 h6 h7 hgr K ⟨by simp[St,LDB,sx,h1,h2,h3,h4,l,h10,A,J],V3,E3,D3,C.dn,C.pb,C.db,C.mv,rfl,rfl,C.ok⟩ (by simp[sx]) ?_;clear h1 h2 h3 h4 l h10 A J C;rintro t g4 M Y ⟨⟨h1,h2,h3,h4,l,h10,A,J,-⟩,V4,E4,D4,z⟩;simp only[sx,sy,↓reduceIte];have F:=z.dn;refine⟨⟨by simp[St,LDA,h1,h2,h3,h4,l],V4,E4,D4,⟨F.hp.sub LG,F.bn,F.vb,F.bx,F.h0,F.h1⟩,⟨z.db.c,z.db.p,z.db.m,z.db.o,λk hk hkn=>z.db.f k hk hkn⟩,⟨z.ok.s,z.ok.a,λk hk=>?_,z.ok.r⟩⟩,h10⟩
  by_cases e:k=j
  ·rw[e,z.mv,z.pv,z.cv,Y]
  ·exact z.ok.w k (by omega)
 ·rintro t df g ⟨rfl,h⟩;exact fin t g h
structure Drafted (m:Net):Prop where
 l:1<=m.nodes.length/\m.nodes.length<=5
 c:∀x∈m.nodes,x.card=2\/x.card=3
 b:∀x∈m.nodes,x.parents.length<=1000/\x.rows.length<=1000/\∀r∈x.rows,r.length<=1000
 nr:NR m
theorem HH{n:Int}(hs:l.Pairwise (·<·))(hb:∀y∈l,0<=y/\y<n):S.OF l n=true:=by
 simp only[S.OF,S.Pm,QB,QE,Qt,Rg,QM,beq_iff_eq];intro i hi;obtain⟨x,hx⟩:∃x,l[i]?=some x:=⟨_,Qr hi⟩;have:=hb x (Qx hx);rw[hx,Qz];refine⟨this,?_⟩
 by_cases e:i=0
 ·exact .inl e
 ·right;obtain⟨y,h⟩:∃y,l[i - 1]?=some y:=⟨_,Qr (by omega)⟩;rw[h,Qz];have h1:=(Qs.1 hx).2;have h2:=(Qs.1 h).2;rw[<-h1,<-h2];exact List.pairwise_iff_getElem.1 hs (i - 1) i (by omega) hi (by omega)
def JX(num:Nat->Nat):Nat->Nat
 |0=>0
 |k+1=>JX num k ||| S.O8 (num k)
theorem Ba{n:Nat}{pl:List Int}{num:Nat->Nat}(hN:Num n pl num)(hn:n<=64)(v:Nat):∀k,k<=n->((JX num k).testBit v=true↔∃k',k'<k/\num k'=v)
 |0,_=>by simp[JX]
 | k+1,hk=>by
  have hlt:=hN.lt k (by omega);rw[JX,rE,xp (by omega),Rg,QM,Ba hN hn v k (by omega)];constructor
  ·rintro (⟨k',h1,h2⟩|h)
   ·exact⟨k',by omega,h2⟩
   ·exact⟨k,by omega,h⟩
  ·rintro⟨k',h1,h2⟩
   by_cases e:k'=k
   ·subst e;exact .inr h2
   ·exact .inl ⟨k',by omega,h2⟩
theorem N_{num:Nat->Nat}(hN:Num n pl num)(hn:1<=n/\n<=5)(hgr:1<=gr/\gr<=60)(hb:DBl D n n num)(hok:DOk gr D n n num):NR ⟨gr,(List.range n).map D.node⟩:=by
 have hcl:(S.Oz ⟨gr,(List.range n).map D.node⟩)=(List.range n).map D.c:=by unfold S.Oz;rw[List.map_map];rfl
 refine⟨hgr.1,hgr.2,by simpa using hn.1,by simp;omega,λx hx=>?_,λx hx=>?_,?_,?_,λx hx=>?_,λx hx r hr=>?_⟩
 ·obtain⟨u,hu,rfl⟩:=Rb.1 hx;have:=hb.c u (QE.1 hu);show 1<=D.c u/\D.c u<=4;omega
 ·obtain⟨u,hu,rfl⟩:=Rb.1 hx;have hu:=QE.1 hu;refine HH (hok.s u hu) λy hy=>?_;have:=(hb.p u hu).2 y hy;simpa using this
 ·rw[hcl];have h1:∀c∈(List.range n).map D.c,1<=c/\c<=4:=λc hc=>by obtain⟨u,hu,rfl⟩:=Rb.1 hc;have:=hb.c u (QE.1 hu);omega
  have h2:=dq h1;have h3:=oO (a:=((List.range n).map D.c).length) (b:=5) (by simpa using hn.2);have h4:(4:Int) ^ 5=1024:=by decide
  omega
 ·have e:(S.OI ⟨gr,(List.range n).map D.node⟩).length=n:=by simp[S.OI]
  have d:∀v,v<n->Par (S.OI ⟨gr,(List.range n).map D.node⟩) v=S.OL (D.P v):=λv hv=>by simp[Par,S.OI,hv,ND.node]
  have h:∀k,k<=n->GP (S.OI ⟨gr,(List.range n).map D.node⟩) (JX num k):=λk=>by
   induction k with
   |zero=>exact λ_=>zS
   | succ k ih =>
    intro hk;have hlt:=hN.lt k (by omega);refine Cr (ih (by omega)) (by omega) λu hu=>?_;rw[d _ hlt]at hu;have hu:=(A7 λx hx=>by have:=(hb.p _ hlt).2 x hx;omega).1 hu;obtain⟨k',h1,h2⟩:=hok.a k (by omega) _ hu;exact (Ba hN (by omega) u k (by omega)).2 ⟨k',h1,by omega⟩
  refine tF (h n (Qq _)) λv hv=>?_;rw[e]at hv;exact (Ba hN (by omega) v n (Qq _)).2 (hN.sur v hv)
 ·obtain⟨u,hu,rfl⟩:=Rb.1 hx;have hu:=QE.1 hu;obtain⟨k,hk,rfl⟩:=hN.sur u hu;show (((List.range (D.m (num k))).map (D.R (num k))).length:Int)=S.OB (S.OA _ (D.P (num k)));rw[F9 hu (hb.p _ hu).2];have:=hok.w k hk;unfold S.Pr at this;rw[<-this];simp
 ·obtain⟨u,hu,rfl⟩:=Rb.1 hx;have hu:=QE.1 hu;obtain⟨r',f,rfl⟩:=Rb.1 hr;exact hok.r u r' hu (QE.1 f)
def Ii:VS:=λP k h v=>∃m:Net,Drafted m/\Agg m P k h v
def V0(W:AV)(q:Nat):Ky->AV:=λk=>match k with
 | (0,0)=>W
 | (0,1)=>T9 q
 |_=>.nils
def E0(W:AV)(n:Nat)(gr:Int):Ky->En:=λk=>match k with
 | (0,0)=>.sl 3 (List.replicate n [T8 0,.nils,.nils])
 | (0,1)=>.bx [T8 gr,W]
 |_=>.sl 1 []
def D0:ND:=⟨λ_=>0,λ_=>[],λ_=>0,λ_ _=>[],λ_=>0⟩
theorem hp0{W:AV}{q:Nat}(hW:Own g 2 W 3 (List.replicate n [T8 0,.nils,.nils]))(hq:g.h.get q=Tq 2 [[T8 gr,W]])(h2:2<=q/\q<g.nx)(hne:vid W≠some q):Hp g 2 (LNX X1 n D0) (V0 W q) (E0 W n gr):=by
 have hk:∀k,LNX X1 n D0 k->k=(0,0)\/k=(0,1)\/∃i s,k=(i+1,s):=λk h=>by
  rcases h with h|h
  ·rcases h with h|⟨i,s,h,-⟩
   ·exact .inl h
   ·exact .inr (.inr ⟨i,s,h⟩)
  ·exact .inr (.inl h)
 refine⟨λk h=>?_,λk l h h' hkl id h1 h3=>?_,by omega⟩
 ·rcases hk k h with rfl|rfl|⟨i,s,rfl⟩
  ·exact hW
  ·exact⟨q,h2.1,h2.2,rfl,hq⟩
  ·exact .inl ⟨rfl,rfl⟩
 ·rcases hk k h with rfl|rfl|⟨i,s,rfl⟩<;>rcases hk l h' with rfl|rfl|⟨i',s',rfl⟩
  ·exact hkl rfl
  ·have h1:eid W=some id:=h1;have h3:some q=some id:=h3;rw[iQ hW]at h1;injection h3 with h3;subst h3;exact hne h1
  ·cases h3
  ·have h3:eid W=some id:=h3;have h1:some q=some id:=h1;rw[iQ hW]at h3;injection h1 with h1;subst h1;exact hne h3
  ·exact hkl rfl
  ·cases h3
  ·cases h1
  ·cases h1
  ·cases h1
theorem Lr(h:w.cells=[w])(h2:w.isTup=false):ef [T8 0,.nils] [((0,1),T8 x),((1,1),w)]=some [T8 x,w]:=by
 have k:(T8 x).cells=[T8 x]:=rfl;have k2:(T8 x).isTup=false:=rfl;simp[ef,h,h2,iF,k,k2]
 rfl
theorem Lq{a:AV}(ha:a.cells=[a]/\a.isTup=false)(hb:b.cells=[b]/\b.isTup=false):ef [.nils,.int .u16 0,.nils] [((0,1),a),((2,1),b)]=some [a,.int .u16 0,b]:=by
 simp[ef,ha,hb,iF]
 rfl
theorem Ln[XOc]{x:uD}(hd:0<d)(hm:Agg x P k g.h v):∃r,ay C0 d 15 [v] g=.val r/\Ii NoP 0 .nil r:=by
 obtain⟨v',e,cs,rfl,hc⟩:=qu (jk x) (by decide) d hm;obtain⟨a,b,rfl,ha,hb⟩:=Al.1 hc;have ha:=ha.tree (h':=.nil) (Qq _);have hb:=hb.tree (h':=.nil) (Qq _);rw[qz];refine bK s8 (xs:=[.agg [u8v x.1,a,b]]) (by simp only[aF,e]) (by simp[jb]) (uq λm=>jk _) (by decide) hd ?_;simp only[sz,simprocAttr,jb];obtain⟨g0,hg0⟩:∃g0,g0=(G.empty.new (Tq 3 [[u8v x.1,a,b]])).new (Tq 2 [[T8 0,.nils]]):=⟨_,rfl⟩;rw[<-hg0];have f0:g0.h.get 0=Tq 3 [[u8v x.1,a,b]]:=by rw[hg0];simp[sx,OE]
 have f1:g0.h.get 1=Tq 2 [[T8 0,.nils]]:=by rw[hg0];simp[sx]
 have f2:g0.nx=2:=by rw[hg0];simp[sx]
 clear hg0;have la:=ha.len;have X:=ha.1;unfold kM;obtain⟨n,hn,w⟩:∃n:Nat,n=min (max x.2.1.length 1) 5/\1<=n/\n<=5:=⟨_,rfl,by omega⟩;refine pg (P:=λt' df g'=>df=[]/\g'=g0/\St t' [(1,T9 0),(2,T9 1),(3,T8 (n:Int))]) ?_ ?_
 ·simp only[sz,simprocAttr,f0,la];simp[St,sx];omega
 rintro t df g1 ⟨rfl,rfl,h1,h2,h3,-⟩;obtain⟨gr,N,M⟩:∃gr:Int,gr=1+(x.1.toNat:Int) % 60/\0<=gr/\gr<=60:=⟨_,rfl,by omega,by omega⟩;have q1:=gQ .u8 (a:=(x.1.toNat:Int)) (b:=60) (by omega) (by omega);have w1:IntKind.wrap .i64 ((x.1.toNat:Int) % 60)=(x.1.toNat:Int) % 60:=aB (by omega) (by omega);have w2:IntKind.wrap .i64 (1+(x.1.toNat:Int) % 60)=gr:=by rw[N,aB (by omega) (by omega)]
 refine pg (P:=λt' df g'=>df=[]/\∃q V E D,St t' [(1,T9 0),(2,T9 1),(3,T8 (n:Int)),(4,T9 q)]/\DN X1 [u8v x.1,a,b] n q 1000 gr V E D g'/\(∀u,D.P u=[]/\D.m u=0/\D.o u=0)) ?_ ?_
 ·simp only[sz,simprocAttr,sf,h1,h3,f0,u8v,q1,w1,w2];refine rC (b:=2) (n:=n) (by unfold aS;omega) (by unfold aS;omega) (by first| (simp;done)| (simp;omega)) λW g2 hW n2 f2' vW lg2=>?_;simp only[sy]at n2 f2' vW lg2;simp only[sz,simprocAttr,sf,Lr hW.cell.1 hW.cell.2,lg2];have h6:g1.nx+7=g2.nx:=by omega
  have Y:g2.h.get 0=Tq 3 [[u8v x.1,a,b]]:=by rw[f2' 0 (by omega),f0]
  have Z:g2.h.get 1=Tq 2 [[T8 0,.nils]]:=by rw[f2' 1 (by omega),f1]
  refine⟨?_,g2.nx+1+1,V0 W (g2.nx+1+1),E0 W n gr,D0,by simp[St,sx,h1,h2,h3],⟨hp0 ?_ ?_ ⟨by omega,by simp⟩ ?_,⟨?_,λu _=>⟨rfl,by show 0<=1000;omega⟩,λu _=>⟨rfl,by show 0<=1000;omega⟩,λu r _ hr=>by cases hr⟩,rfl,rfl,?_,?_⟩,λu=>⟨rfl,rfl,rfl⟩⟩
  ·simp only[Q5,Q4,QU,QQ,G.new_lg,G.put_lg,setLog_lg];refine aT (TK (TJ (true::(false::(true::(true::[])))))) [(0,6),(1,6),(2,6),(3,6),(4,6),(0,8),(1,8),(2,8),(3,8),(4,8),(5,8),(6,8),(7,8)] (by simp[All2,ah,aC]) (by decide) ?_;rintro p s x y hx l;simp only[Rh,QH,S9]at s;rcases s with rfl|rfl|rfl|rfl|rfl|rfl|rfl|rfl|rfl|rfl|rfl|rfl|rfl<;>(simp at hx l;subst hx;subst l;refine eO rfl rfl rfl rfl ?_ ?_ ?_<;>simp[ah,aC,af]<;>omega)
  ·refine hW.fr (by simp;omega) λi hi=>?_;have:=mT vW hi;simp[OE,show ¬i=g2.nx+1+1 by omega]
  ·simp[OE]
  ·intro e;have:=mT vW e;omega
  ·show En.sl 3 (List.replicate n [T8 0,.nils,.nils])=En.sl 3 ((List.range n).map λ_=>[T8 0,.nils,.nils]);congr 1;rw[List.map_const',List.length_range]
  ·simp[OE,Y];rfl
  ·simp[OE,Z]
 clear h1 h2 h3;rintro t df g2 ⟨rfl,q,V,E,D,⟨h1,h2,h3,h4,-⟩,J,A⟩;obtain⟨num,hN⟩:=Ns x.2.2 n;refine pg (P:=λt' df g'=>df=[]/\Fr g2 g'/\∃r5,IT 0 (S.OX x.2.2 n) r5/\St t' (LDA n q r5)) ?_ ?_
 ·simp only[sz,simprocAttr,sf,h3];refine rC (b:=2) (n:=n) (by unfold aS;omega) (by unfold aS;omega) (by have:=J.hp.nx;first| (simp;done)| (simp;omega)) λU g3 hU n3 C vU lg3=>?_;simp only[sy]at n3 C vU lg3;have e0:g3.h.get 0=Tq 3 [[u8v x.1,a,b]]:=by rw[C 0 (by have:=J.hp.nx;omega),J.h0]
  simp only[sz,simprocAttr,sf,h1,e0,Lq hU.cell hb.cell];have L:Own g3 2 U 1 ((List.replicate n (0:UInt8)).map λy=>[u8v y]):=by simpa [u8v] using hU
  have Q:∀B:G,B.h=g3.h->∃r,ay C0 (d+1) 47 [.agg [U,.int .u16 0,b]] B=.val r/\IT 0 (S.OX x.2.2 n) r:=λB h=>by
   have:=yC (d:=d+1) (g:=B) (k:=max k d) (P:=λ_=>True) (x:=(List.replicate n (0:UInt8),(0:UInt16),x.2.2)) (v:=.agg [U,.int .u16 0,b]) (RA d) ⟨_,rfl,sg.2 ⟨U,b,rfl,?_,?_⟩⟩
   ·have e:min (List.replicate n (0:UInt8)).length 5=n:=by simp;omega
    rw[e]at this;exact this
   ·rw[h];exact Own.sl (α:=UInt8) L (by simp;omega) (Oz (λy=>di.2 rfl) _) λ_ _=>trivial
   ·exact (hb.tree (h':=B.h) (Qq _)).wd λ_ h=>h.elim
  refine bL (Q _ (by simp)) λr hr=>?_;simp only[sz,simprocAttr,sf,kC];refine⟨?_,⟨?_,λi hi=>?_⟩,r,hr,?_⟩
  ·simp only[Q5,Q4,QU,QQ];refine aT (false::(true::(false::(TJ [])))) [(1,2),(1,3)] (by simp[All2,ah,aC]) (by decide) ?_;rintro p s x y hx l;simp only[Rh,QH,S9]at s;rcases s with rfl|rfl<;>(simp at hx l;subst hx;subst l;refine eO rfl rfl rfl rfl ?_ ?_ ?_<;>simp[ah,aC,af,lg3])
  ·simp;omega
  ·simp;exact C i (by omega)
  ·simp[St,LDA,sx,h1,h2,h3,h4]
 clear h1 h2 h3 h4;rintro t df g3 ⟨rfl,C,r5,I,⟨h1,h2,h3,h4,h5,-⟩⟩;have F:=J.same C;simp only[sz,simprocAttr];refine No (n:=n) (q:=q) (x:=x) (gr:=gr) (r5:=r5) (num:=num) w ha I hN ⟨by simp[St,LDA,sx,h1,h2,h3,h4,h5],⟨1,by simp[sx],by decide⟩,V,E,D,F,λv _=>⟨(A v).1,(A v).2.1⟩,λk hk=>by omega,λu=>(A u).2.2⟩ (by simp[sx]) ?_;clear h1 h2 h3 h4 h5 F;rintro t B ⟨⟨h1,h2,h3,h4,h5,-⟩,-,V4,E4,D4,K,f⟩;simp only[sz,simprocAttr,jv];refine LO (n:=n) (q:=q) (x:=x) (gr:=gr) (r5:=r5) (num:=num) (RA d) M w ha I hN ⟨by simp[St,LDA,sx,h1,h2,h3,h4,h5],V4,E4,D4,K,⟨λu hu=>?_,λu hu=>?_,λu hu=>?_,?_,λk _ hk=>f.e _ (hN.lt k hk)⟩,⟨λu hu=>by rw[(f.e u hu).1];exact .nil,λk hk y l=>by rw[(f.e _ (hN.lt k hk)).1]at l;simp at l,λk hk=>by omega,λu r hu hr=>by rw[(f.e u hu).2]at hr;omega⟩⟩ (by simp[sx]) ?_
 ·obtain⟨k,hk,rfl⟩:=hN.sur u hu;exact f.c k hk
 ·rw[(f.e u hu).1];simp
 ·rw[(f.e u hu).2];omega
 ·exact f.o
 clear h1 h2 h3 h4 h5;rintro t g5 ⟨⟨h1,h2,h3,h4,h5,-⟩,V5,E5,D5,j,H,O⟩;obtain⟨kq,h7,h8⟩:=j.q rfl;simp only[sz,simprocAttr,ju,h4,kq,h2,j.h1];have z:=j.bn.nodes j.hp (λk h=>.inl h) (by omega) (by omega);refine⟨λ_=>True,⟨gr,(List.range n).map D5.node⟩,⟨by simpa using w,λy l=>?_,λy l=>?_,N_ hN w (by omega) H O⟩,⟨_,rfl,jK.2 ⟨_,rfl,z.wd λi hi=>⟨trivial,by simp[OE,show ¬i=1 by omega]⟩⟩⟩⟩
 ·obtain⟨u,hu,rfl⟩:=Rb.1 l;exact H.c u (QE.1 hu)
 ·obtain⟨u,hu,rfl⟩:=Rb.1 l;have hu:=QE.1 hu;refine⟨(j.bn.ps u hu).2,?_,λr hr=>?_⟩
  ·show ((List.range (D5.m u)).map (D5.R u)).length<=1000;simpa using (j.bn.rs u hu).2
  ·obtain⟨r',T,rfl⟩:=Rb.1 hr;exact (j.bn.rr u r' hu (QE.1 T)).1
end
def EvV(n:Net):VS:=λP k h v=>∃l:List Int,S.Pc n l=true/\One l P k h v
theorem NI(n:Net):Snb (EvV n) 0:=by
 refine⟨λ{P k h v n} d r hn=>?_,λ{k h v n} r hn=>?_⟩
 ·obtain⟨m,hm,r⟩:=r;obtain⟨v',e,r'⟩:=(bi m).snap d r hn;exact⟨v',e,m,hm,r'⟩
 ·obtain⟨m,hm,r⟩:=r;exact (bi m).tag r hn
def evP(n:Net)(l:List Int):Prop:=∀(i:Nat) (x:Int) (c:Node),l[i]?=some x->n.nodes[i]?=some c->-1<=x/\x<c.card
theorem Lo(hl:l.length=n.nodes.length)(h:evP n l):S.Pc n l=true:=by simp only[S.Pc,Qt,QM,QB,QE];refine⟨hl,λi hi=>?_⟩;obtain⟨x,hx⟩:∃x,l[i]?=some x:=⟨_,Qr hi⟩;obtain⟨c,hc⟩:∃c,n.nodes[i]?=some c:=⟨_,Qr (by omega)⟩;have:=h i x c hx hc;simpa [S.Oz,hx,hc] using this
theorem JM[XOc]{m:Net}{vs:List UInt8}(hd:0<d)(hv:vs.length=9)(hm:Agg m P k g.h w)(hn:m.nodes.length<=8)(hc:∀x∈m.nodes,0<x.card) :
  ∃r,ay C0 d 31 [.agg (vs.map u8v),w] g=.val r/\EvV m NoP 0 .nil r:=by
 obtain⟨v',e,cs,rfl,D⟩:=qu (jk m) (by decide) d hm;obtain⟨b,rfl,hN⟩:=jK.1 D;obtain⟨rows,N,r2,W,Y⟩:=hN.all;have N:∀h',am h' 3 b=some rows:=N;rw[sA];refine bK tT (xs:=[.agg (vs.map u8v),.agg [T8 m.grain,b]]) (by simp only[aF,e,KA]) (by simp[jD]) (NI m) (by decide) hd ?_;obtain⟨cu8,n⟩:∃c,c=vs.map u8v:=⟨_,rfl⟩;have hcl:cu8.length=9:=by rw[n,QA,hv]
 simp only[sz,simprocAttr,jD,<-n];generalize hg0:((G.empty.new (Tq cu8.length [cu8])).new (Tq 2 [[AV.int IntKind.i64 m.grain,b]]))=g0;have f0:g0.h.get 0=Tq 9 [cu8]:=by rw[<-hg0,hcl];simp[sx,OE]
 have f1:g0.h.get 1=Tq 2 [[T8 m.grain,b]]:=by rw[<-hg0];simp[sx]
 have f2:2<=g0.nx:=by rw[<-hg0];simp[sx]
 clear hg0;simp only[sz,simprocAttr,lK];refine d7 m.nodes.length (by omega) (λj t df g=>df=[]/\St t [(2,T9 0),(3,T9 1)]/\g.h.get 0=Tq 9 [cu8]/\g.h.get 1=Tq 2 [[T8 m.grain,b]]/\2<=g.nx/\∃u L,tat t 5=u/\L.length=j/\evP m L/\Own g 2 u 1 (L.map ci))
  ⟨rfl,by simp[sx,St],f0,f1,f2,_,[],rfl,rfl,λi x c hx=>by simp at hx,.inl ⟨by simp[sx],rfl⟩⟩ (by simp[sx]) (by decide) (by rintro j t df g v s (rfl|rfl|rfl)<;>simp[sx,St]) ?_ ?_ ?_
 ·rintro j t df g O ⟨rfl,⟨h2,h3,-⟩,e0,e1,p,u,L,h5,hu⟩ h6;simp only[sz,simprocAttr,h2,h3,h6,e0,e1,hN.len,St];exact⟨p,u,L,h5,hu⟩
 ·rintro j t df g O ⟨rfl,⟨h2,h3,-⟩,e0,e1,p,u,L,h5,f,o,hu⟩ h6;obtain⟨x,hx,S,hm⟩:=ae O;obtain⟨row,z1,z2⟩:=W j x hx;obtain⟨fa,fb,rfl,-⟩:=eL.1 z2;have hlt:j<rows.length:=by omega
  have K:=Y (by omega);have I:j<8:=by omega
  obtain⟨Q,M⟩:∃y,vs[0]?=some y:=⟨_,Qr (by omega)⟩;have C:cu8[0]?=some (.int .u8 (Q.toNat:Int)):=by rw[n,Qv,M];rfl
  obtain⟨y,U⟩:∃y,vs[1+j]?=some y:=⟨_,Qr (by omega)⟩;have F:cu8[1+j]?=some (.int .u8 (y.toNat:Int)):=by rw[n,Qv,U];rfl
  have V:y.toNat<256:=y.toNat_lt;have E:=hc x hm;obtain⟨z,hz⟩:=uI Q.toNat j;obtain⟨z',q⟩:=uH z 1;have q:cx .and (.int .u8 (z:Int)) (.int .u8 1)=.val (.int .u8 z'):=q;have Z:IntKind.wrap .i64 (y.toNat:Int)=(y.toNat:Int):=aB (by omega) (by omega);have w9:IntKind.wrap .u64 (j:Int)=(j:Int):=xa (by omega) (by omega);have key:∀(t:T) (X:Int),-1<=X->X<x.card->St t [(2,T9 0),(3,T9 1),(5,u),(6,T8 (j:Int)),(7,T8 X)] ->
    wp C0 (d+1) none ga (λe t df g=>e=.norm/\(df=[]/\St t [(2,T9 0),(3,T9 1)]/\g.h.get 0=Tq 9 [cu8]/\g.h.get 1=Tq 2 [[T8 m.grain,b]]/\2<=g.nx/\∃u L,tat t 5=u/\L.length=j+1/\evP m L/\Own g 2 u 1 (L.map ci))/\tat t 6=T8 (j:Int)) t [] g:=by
   rintro t X A B ⟨h2,h3,h5,h6,h7,-⟩;simp only[sz,simprocAttr,ga,h5,h7];refine bg (new:=[ci X]) (hu.step (Fr.new _ _)) (by simp[sx,sy,ci]) (by simp;omega) (by simp[aS,f];omega) λv2 g2 hv2 n2 f2 _ l2=>?_;simp only[sz,simprocAttr,h2,h3,h6,St];refine⟨?_,?_,?_,_,L++[X],rfl,by simp[f],?_,?_⟩
   ·rw[f2 0 (by simp) (λe=>by have:=(hu.lt e).1;omega),G.new_h,ax _ _ _ (by omega),e0]
   ·rw[f2 1 (by simp;omega) (λe=>by have:=(hu.lt e).1;omega),G.new_h,ax _ _ _ (by omega),e1]
   ·simp at n2;omega
   ·intro i a c ha l
    by_cases e:i=j
    ·subst e;rw[hx]at l;injection l with l;subst l;rw[<-f,List.getElem?_concat_length]at ha;injection ha with ha;subst ha;exact⟨A,B⟩
    ·have H:i<L.length:=by have:=(Qs.1 ha).1;simp at this;omega
     rw[QK H]at ha;exact o i a c ha l
   ·simpa [ci] using hv2
  simp only[sz,simprocAttr,h2,h6,e0,C,w9,hz,q];refine mE (λhb=>?_) (λhb=>?_)
  ·have R:0<=(y.toNat:Int) % x.card:=Tf _ (by omega);have J:(y.toNat:Int) % x.card<x.card:=SY _ (by omega);simp only[sz,simprocAttr,h2,h3,h6,e0,e1,N4 8 1 _ _ _ _ _ I,Nat.mul_one,F,Z,N,hlt,z1,K,gQ .i64 (show 0<=(y.toNat:Int) by omega) E];refine cw _ (key _ ((y.toNat:Int) % x.card) (by omega) J (by simp[St,sx,h2,h3,h5,h6])) ?_;rintro e t df g ⟨rfl,h⟩;exact h
  ·simp only[sx];refine cw _ (key _ (-1) (by omega) (by omega) (by simp[St,sx,h2,h3,h5,h6])) ?_;rintro e t df g ⟨rfl,h⟩;exact h
 ·rintro t df g ⟨rfl,⟨h2,h3,-⟩,e0,e1,p,u,L,h5,f,o,hu⟩;simp only[sz,simprocAttr,kN,h5];exact⟨_,L,Lo f o,hu.ints (by omega)⟩
theorem xg{α β:Type}{R:α->β->Prop}:∀{l:List α} {m:List β},l.length=m.length->(∀(i:Nat) (a:α) (b:β),l[i]?=some a->m[i]?=some b->R a b)->All2 R l m
 |[],[],_,_=>trivial
 |[],_::_,h,_=>by simp at h
 |_::_,[],h,_=>by simp at h
 |a::l,b::m,h,hr=>⟨hr 0 a b rfl rfl,xg (by simpa using h) λi x y hx hy=>hr (i+1) x y (by simpa using hx) (by simpa using hy)⟩
def NQ(V:Ky->AV)(i:Nat)(c:Int):List AV:=[T8 c,V (i+1,0),V (i+1,1)]
structure NdOk (K:Nat) (V:Ky->AV) (E:Ky->En) (i:Nat) (x:Node):Prop where
 ps:E (i+1,0)=.sl 1 (x.parents.map ci)
 rs:∃rws,E (i+1,1)=.sl 1 rws/\rws.length=x.rows.length/\∀(r:Nat) (y:List Int),x.rows[r]?=some y->rws[r]?=some [V (i+1,2+r)]
 rr:∀(r:Nat) (y:List Int),x.rows[r]?=some y->E (i+1,2+r)=.sl 1 (y.map ci)
 len:x.parents.length<=K/\x.rows.length<=K/\∀y∈x.rows,y.length<=K
def LS(L:List Node):Ky->Prop:=λk=>k=(0,0)\/∃i q x,k=(i+1,q)/\L[i]?=some x/\q<2+x.rows.length
structure BLs (K:Nat) (V:Ky->AV) (E:Ky->En) (L:List Node):Prop where
 ns:∃rows,E (0,0)=.sl 3 rows/\rows.length=L.length/\∀(i:Nat) (x:Node),L[i]?=some x->rows[i]?=some (NQ V i x.card)
 nd:∀(i:Nat) (x:Node),L[i]?=some x->NdOk K V E i x
def BBn(g:G)(brow:List AV)(gr:Int)(b:AV):Prop:=g.h.get 0=Tq 4 [brow]/\g.h.get 1=Tq 2 [[T8 gr,b]]/\g.h.get 2=Tq 2 [[T8 0,.nils]]
def LX(L:List Node)(x:Node):Ky->Prop:=λk=>LS L k\/k=(0,1)\/∃q,k=(L.length+1,q)/\q<2+x.rows.length
structure NB (K p:Nat) (L:List Node) (x:Node) (g:G) (brow:List AV) (gr:Int) (b W:AV) (V:Ky->AV) (E:Ky->En):Prop where
 hp:Hp g 3 (LX L x) V E
 bb:BBn g brow gr b
 vb:V (0,1)=T9 p
 bx:E (0,1)=.bx (NQ V L.length x.card)
 nd:NdOk K V E L.length x
 bl:BLs K V E L
 vw:V (0,0)=W
theorem Mm{α:Type} [Rp α]{g:G}{b:Nat}{rows:List (List AV)}(hu:Own g b u (Rp.sz α) rows)(hne:rows≠[]){n:Nat}(hn:n<=rows.length) :
  ∃y,kG (Rp.sz α) u none (some (T8 (n:Int))) g=.val y/\(y.cells=[y]/\y.isTup=false)/\∀(P:Nat->Prop) (k:Nat) (l:List α) (h':H),(∀i,vid u=some i->h'.get i=g.h.get i)->SlR P k h' l u->SlR P k h' (l.take n) y:=by
 rcases hu with⟨rfl,rfl⟩|⟨id,ep,lo,h1,h2,rfl,h3⟩
 ·exact absurd rfl hne
 ·simp only[kG,jj,h3,Q2,Rz,aq,Rn,aa,Q6,Qq,if_true,aQ,RT,R6];simp only[bN];rw[show ak (n.ble rows.length) (some n) none=some n from by rw[aa,Qw (by simpa using hn)]];dsimp only;have hb:rows.length.beq 0=false:=by cases rows with|nil=>exact absurd rfl hne|cons a l=>rfl
  rw[hb];refine⟨_,rfl,⟨rfl,rfl⟩,λP k l h' hh h=>?_⟩;have c:=hh id rfl;rw[h3]at c;obtain⟨hl,hp,rr,d,q2⟩:=h;rw[ba,c,vN]at d;injection d with d;subst d;refine⟨by rw[QZ];omega,hp,rows.take n,?_,q2.take n⟩;rw[ba,c,cg,Qw (by omega),Sa]
structure Oth (K:Nat) (L:List Node) (J:Nat) (V:Ky->AV) (E:Ky->En) (rows:List (List AV)):Prop where
 len:rows.length=L.length
 ns:∀(i:Nat) (y:Node),i≠J->L[i]?=some y->rows[i]?=some (NQ V i y.card)
 nd:∀(i:Nat) (y:Node),i≠J->L[i]?=some y->NdOk K V E i y
structure BS (K J:Nat) (L:List Node) (x:Node) (bx:vD) (gr Rw:Int) (t:T) (g:G) (V:Ky->AV) (E:Ky->En):Prop where
 st:St t [(2,T9 0),(3,T9 1),(4,T9 2),(10,kX 3 (V (0,0)) J 0),(11,T8 Rw)]
 hp:Hp g 3 (LS L) V E
 f0:g.h.get 0=Tq 4 [[u8v bx.1,u8v bx.2.1,u8v bx.2.2.1,T8 bx.2.2.2]]
 f1:g.h.get 1=Tq 2 [[T8 gr,V (0,0)]]
 f2:g.h.get 2=Tq 2 [[T8 0,.nils]]
 bl:BLs K V E L
 hx:L[J]?=some x
 hR:(Rw = -1/\x.rows.length=0)\/∃r:Nat,Rw=(r:Int)/\r<x.rows.length
 hK:K<=1000000
 hl:L.length<=K
structure BT (K J:Nat) (L:List Node) (x:Node) (g:G) (V:Ky->AV) (E:Ky->En) (rows:List (List AV)):Prop where
 own:Own g 3 (V (0,0)) 3 rows
 e0:E (0,0)=.sl 3 rows
 ry:wx (V (0,0))=true
 hlt:J<rows.length
 row:rows[J]?=some [T8 x.card,V (J+1,0),V (J+1,1)]
 oth:Oth K L J V E rows
 nd:NdOk K V E J x
section
variable {d K J:Nat}{L:List Node}{x:Node}{bx:vD}{gr Rw:Int}{t:T}{g:G}{V:Ky->AV}{E:Ky->En}{Q:QT}
end
abbrev Sch:=Net×List Int×List Int×List Int×Int
theorem Km{v o w:List Int}{cs:List AV}:Rp.rp P k h ((n,v,o,w,m):Sch) cs↔∃a b c d,cs=[T8 n.grain,a,b,c,d,T8 m]/\SlR P k h n.nodes a/\SlR P k h v b/\SlR P k h o c/\SlR P k h w d:=by
 constructor
 ·rintro⟨c1,e,rfl,h1,f,i,rfl,h2,j,l,rfl,h3,p,q,rfl,h4,h5⟩;obtain⟨a,rfl,ha⟩:=jK.1 h1;obtain⟨b,rfl,hb⟩:=ch.1 h2;obtain⟨c,rfl,hc⟩:=ch.1 h3;obtain⟨d,rfl,hd⟩:=ch.1 h4;rw[aG.1 h5];exact⟨a,b,c,d,rfl,ha,hb,hc,hd⟩
 ·rintro⟨a,b,c,d,rfl,ha,hb,hc,hd⟩;exact⟨[T8 n.grain,a],[b,c,d,T8 m],rfl,jK.2 ⟨a,rfl,ha⟩,[b],[c,d,T8 m],rfl,ch.2 ⟨b,rfl,hb⟩,[c],[d,T8 m],rfl,ch.2 ⟨c,rfl,hc⟩,[d],[T8 m],rfl,ch.2 ⟨d,rfl,hd⟩,aG.2 rfl⟩
def S.PB(vars:List Int)(j:Nat):List Int:=((List.range j).map λv:Nat=>(v:Int)).filter λv=>!decide (v∈vars)
def S.OJ(n:Net)(vars:List Int):List Int:=S.PB vars n.nodes.length
theorem Ae(vars:List Int)(j:Nat):S.PB vars (j+1)=S.PB vars j++if (j:Int)∈vars then [] else [(j:Int)]:=by
 unfold S.PB;rw[Ry,Rx,Th];congr 1
 by_cases h:(j:Int)∈vars<;>simp[h]
theorem oH(vars:List Int)(j:Nat):(S.PB vars j).length<=j:=by unfold S.PB;exact QW (List.length_filter_le _ _) (by simp)
def S.PA(n:Net)(e:List Int)(j w:Nat):Int:=if w<j/\S.pe n e w=false then 0 else S.wt n w
def S.O1(n:Net)(e:List Int)(j:Nat):List Int:=(List.range (S.OD n)).map (S.PA n e j)
def S.OP(n:Net)(e:List Int):List Int:=S.O1 n e (S.OD n)
theorem JS(n:Net)(e:List Int):S.O1 n e 0=S.OT n (S.OD n):=by unfold S.O1 S.OT;exact RC λw _=>by simp[S.PA]
theorem jP(n:Net)(e:List Int)(j:Nat):(S.O1 n e j).length=S.OD n:=by simp[S.O1]
theorem LK(n:Net)(e:List Int)(j:Nat)(h:j<S.OD n):(S.O1 n e j)[j]?=some (S.wt n j):=by simp[S.O1,S.PA,h]
theorem CO(h:j<S.OD n):S.O1 n e (j+1)=if S.pe n e j then S.O1 n e j else (S.O1 n e j).set j 0:=by
 apply RW;intro i
 by_cases hi:i<S.OD n
 ·by_cases c:S.pe n e j=true
  ·rw[Qw c];simp only[S.O1,Qv,SE hi,RK,S.PA];congr 1
   by_cases e1:i=j
   ·subst e1;simp[c]
   ·have:(i<j+1)↔(i<j):=by omega
    simp[this]
  ·rw[Qu c,Rq]
   by_cases e1:j=i
   ·subst e1;rw[Qw rfl,Qw (by rw[jP];exact hi)];simp[S.O1,S.PA,hi,c]
   ·rw[Qu e1];simp only[S.O1,Qv,SE hi,RK,S.PA];congr 1;have:(i<j+1)↔(i<j):=by omega
    simp[this]
 ·have a:∀k,(S.O1 n e k)[i]?=none:=λk=>Ri (by rw[jP];omega);rw[a]
  split
  ·rw[a]
  ·rw[Ri];rw[List.length_set,jP];omega
def S.Qj(n:Net)(e vars:List Int):Sch:=(n,vars,S.OJ n vars,S.OP n e,S.Pq n e)
def S.O2(n:Net)(e vars:List Int):Int:=if S.Pe n e=0 then (if S.OF vars (n.nodes.length:Int) then 0 else 2) else S.Pe n e
def NT:VS:=λ_ _ _ v=>v=.nilp
theorem KC:Snb NT 0:=⟨λ{P k h v n} d r hn=>⟨.nilp,by
  subst r;obtain⟨n,rfl⟩:∃q,n=q+1:=⟨n - 1,by omega⟩
  rfl,rfl⟩,λ{k h v n} r hn=>⟨0,by
  subst r;obtain⟨n,rfl⟩:∃q,n=q+1:=⟨n - 1,by omega⟩
  rfl,Q_ _⟩⟩
theorem Mr{α:Type} [Rp α](x:α)(sz:Nat)(hd:Rp.dp α<=20:=by decide):Snb (DV x sz) 1 :=
 ⟨λ{P k h v n} d r hn=>by
  obtain⟨n,rfl⟩:∃q,n=q+1:=⟨n - 1,by omega⟩;exact C7 d r (by omega) hd,λ{k h v n} r hn=>by
  obtain⟨n,rfl⟩:∃q,n=q+1:=⟨n - 1,by omega⟩;exact Gk r⟩
def NsV(n:Net)(e vars:List Int):VS:=if S.O2 n e vars=0 then GT (DV (S.Qj n e vars) 6) (One (0:Int)) else GT NT (One (S.O2 n e vars))
theorem NJ(n:Net)(e vars:List Int):Snb (NsV n e vars) 2:=by
 unfold NsV
 split
 ·exact rJ (Mr _ _) (bi _) (by decide) (by decide)
 ·exact rJ KC (bi _) (by decide) (by decide)
theorem t_(id ep i off:Nat):vR (.hptr id ep i off)=.val (.hptr id ep i off):=rfl
def LNs(gr:Int)(vw:AV):List (Nat×AV):=[(2,vw),(3,T9 0),(4,T9 1),(9,T9 3)]
structure NsH (gr:Int) (b ev vw u wv:AV) (m:Int) (g:G):Prop where
 h0:g.h.get 0=Tq 2 [[T8 gr,b]]
 h1:g.h.get 1=Tq 1 [[ev]]
 h2:g.h.get 2=Tq 6 [[T8 gr,b,vw,u,wv,T8 m]]
 h3:g.h.get 3=Tq 1 [[T9 2]]
 nx:4<=g.nx
theorem Ob[XOc]{m:Nat}(hd:0<d)(hm:m<=8)(hv:∀h,SlR NoP k h vars vw)
  (hh:NsH gr b ev vw .nils .nils 0 g) (ht:St t (LNs gr vw)) (h49:tat t 49=T8 0) (h48:tat t 48=T8 (m:Int))
  (fin:∀t g u,St t (LNs gr vw)->NsH gr b ev vw u .nils 0 g->Own g 4 u 1 ((S.PB vars m).map ci)->Q (.exit 2) t [] g):wpL (wp C0 d none dS) Q t [] g:=by
 simp only[dS];refine aM (m:=m) (by omega) (λj t df g=>df=[]/\St t (LNs gr vw)/\∃u,NsH gr b ev vw u .nils 0 g/\Own g 4 u 1 ((S.PB vars j).map ci)) ⟨rfl,ht,.nils,hh,.inl ⟨rfl,rfl⟩⟩ h49 h48 (by decide)
  (by rintro j t df g v s (rfl|rfl|rfl) ⟨a1,⟨b1,b2,l,n,-⟩,c1⟩<;>exact⟨a1,by simp[St,LNs,sx,b1,b2,l,n],c1⟩) ?_ ?_
 ·rintro j t df g r ⟨rfl,⟨h2,h3,h4,h9,-⟩,u,⟨g0,g1,g2,g3,o⟩,ho⟩ h49 h48;have kc:=λg:G=>uz (d:=d) (g:=g) (x:=(j:Int)) hd (hv g.h);have hl:=oH vars j
  by_cases c:(j:Int)∈vars
  ·simp only[sz,simprocAttr,h2,h49,kc,c];refine⟨⟨by simp[St,LNs,sx,h2,h3,h4,h9],u,⟨g0,g1,g2,g3,o⟩,?_⟩,h48⟩;rw[Ae,Qw c,QJ];exact ho
  ·simp only[sz,simprocAttr,h2,h49,kc,c,sf,h9,g3,g2,t_];refine vF (ho.fr (g':=_) (by simp<;>omega) (λi hi=>?_)) (new:=[[T8 (j:Int)]]) ?_ (by simp<;>omega) (by simp[aS]<;>omega) λv5 g5 o5 n5 f5 w5 l5=>?_
   ·have:=ho.lt hi;simp[OE];omega
   ·simp[am,OE];rfl
   have lu:=λi (h:vid u=some i)=>ho.lt h;simp only[sx,sy]at n5 f5 l5;have q:g.nx<g5.nx:=by omega
   have a:∀i,i<4->g5.h.get i=g.h.get i:=λi hi=>by rw[f5 i (by omega) λh=>by have:=lu i h;omega];simp;omega
   obtain⟨vc,vt⟩:=o5.cell;simp only[sz,simprocAttr,sf,a 2 (by omega),g2,t_,vc,vt];refine⟨?_,?_⟩
   ·simp only[Q5,Q4,QU,QQ];refine aT (TK (TJ (true::(true::(TK (true::[])))))) [(0,6),(1,6),(2,6),(3,6),(4,6),(0,7)] (by simp[All2,ah,aC]) (by decide) ?_;rintro p hp x y hx f;simp only[Rh,QH,S9]at hp;rcases hp with rfl|rfl|rfl|rfl|rfl|rfl<;>(simp at hx f;subst hx;subst f;refine eO rfl rfl rfl rfl ?_ ?_ ?_<;>simp[ah,aC,fm]<;>first|omega| (intro i' e;rcases l5 i' e with h|h|h<;>first|omega| (have:=lu i' h;omega)|simp at h)|skip)
   refine⟨⟨by simp[St,LNs,sx,h2,h3,h4,h9],v5,⟨by simp[sy,a 0 (by omega),g0],by simp[sy,a 1 (by omega),g1],by simp[sy],by simp[sy,a 3 (by omega),g3],by simp[sy]<;>omega⟩,?_⟩,by simp[h49],by simp[h48]⟩;rw[Ae,Qu c,Rx];exact o5.fr (by simp[sy]<;>omega) λi hi=>by have:=o5.lt hi;simp[sy];omega
 ·rintro t df g ⟨rfl,ht,u,hh,ho⟩;exact fin t g u ht hh ho
theorem Oa[XOc]{ev:AV}(hr:NR n)(hv:∀h,SlR NoP k h vars vw)(hN:∀h,SlR NoP 0 h n.nodes b)(h0:g.h.get 0=Tq 2 [[T8 gr,b]])
  (ht:St t ((28,vw)::LNs gr vw)) (h10:tat t 10=T8 (-1)) (h30:tat t 30=T8 0) (h29:tat t 29=T8 (vars.length:Int))
  (bad:∀t,S.OF vars (n.nodes.length:Int)=false->tat t 6=.nilp->tat t 7=T8 2->Q .ret t [] g)
  (fin:∀t,S.OF vars (n.nodes.length:Int)=true->St t (LNs gr vw)->Q (.exit 0) t [] g):wpL (wp C0 d none cD) Q t [] g:=by
 have rv:=λh=>(hv h).ints;have lN:∀g:G,bY .slice b g=.val (T8 (n.nodes.length:Int)):=λg=>(hN .nil).len g;have z:=hr.l2;simp only[cD];refine aM (m:=vars.length) (hv .nil).1 (λj t df g'=>df=[]/\g'=g/\St t ((28,vw)::LNs gr vw)/\tat t 10=T8 (if j=0 then -1 else vars[j - 1]?.getD 0)/\(List.range j).all (S.Pm vars (n.nodes.length:Int))=true) ⟨rfl,rfl,ht,by simpa using h10,by simp⟩ h30 h29 (by decide)
  (by rintro j t df g v s (rfl|rfl|rfl) ⟨a1,a2,⟨u,b1,b2,w,y,-⟩,c1,i⟩<;>exact⟨a1,a2,by simp[St,LNs,sx,u,b1,b2,w,y],by simp[sx,c1],i⟩) ?_ ?_
 ·rintro j t df g' o ⟨rfl,rfl,⟨f,h2,h3,h4,h9,-⟩,h10,a⟩ h30 h29;obtain⟨x,hx,-,hm⟩:=ae o;have p:j<(vars.map ci).length:=by simpa using o
  have q:(vars.map ci)[j]?=some (ci x):=by rw[Qv,hx];rfl
  have l:vars[j]?.getD 0=x:=by rw[hx];rfl
  obtain⟨bf,e⟩:∃bf,bf=(if j=0 then (-1:Int) else vars[j - 1]?.getD 0):=⟨_,rfl⟩;rw[<-e]at h10;have r:-1<=bf:=by
   rw[e];split
   ·omega
   ·have:=QB.1 a (j - 1) (QE.2 (by omega));simp only[S.Pm,Qt,QM]at this;omega
  have key:S.Pm vars (n.nodes.length:Int) j=true↔bf<x/\x<(n.nodes.length:Int):=by
   simp only[S.Pm,Qt,QM,l,Rg,beq_iff_eq];rw[e]
   by_cases c:j=0
   ·simp only[c,if_true,true_or,and_true];omega
   ·rw[Qu c]at e ⊢;rw[<-e];constructor
    ·rintro⟨⟨a1,a2⟩,a3|a3⟩
     ·exact absurd a3 c
     ·exact⟨a3,a2⟩
    ·rintro⟨a1,a2⟩;have:=QB.1 a (j - 1) (QE.2 (by omega));simp only[S.Pm,Qt,QM,<-e]at this;exact⟨⟨by omega,a2⟩,.inr a1⟩
  have fl:¬(bf<x/\x<(n.nodes.length:Int))->S.OF vars (n.nodes.length:Int)=false:=λhn=>by rw[SP];intro h;exact hn (key.1 (QB.1 h j (QE.2 o)))
  by_cases c1:x<=bf
  ·simp only[sz,simprocAttr,f,h30,rv,p,q,ci,h10,c1];exact bad _ (fl (by omega)) (by simp[sx]) (by simp[sx])
  by_cases i:(n.nodes.length:Int)<=x
  ·simp only[sz,simprocAttr,f,h30,rv,p,q,ci,h10,c1,h3,h0,lN,i];exact bad _ (fl (by omega)) (by simp[sx]) (by simp[sx])
  ·simp only[sz,simprocAttr,f,h30,rv,p,q,ci,h10,c1,h3,h0,lN,i];refine⟨⟨by simp[St,LNs,sx,f,h2,h3,h4,h9],?_,?_⟩,h29⟩
   ·simp[hx]
   ·rw[iI,a,key.2 ⟨by omega,by omega⟩];rfl
 ·rintro t df g' ⟨rfl,rfl,⟨-,ht⟩,-,a⟩;exact fin t a ht
theorem Oc[XOc]{ke:Nat}{uu:AV}(hl:e.length=vals.length)(he:∀h,SlR NoP ke h e ev)(hu:SlR P 0 g.h vals uu)
  (hh:NsH gr b ev vw u wv m g) (ho:Own g 4 wv 1 (mw.map ci)) (hj:j<mw.length)
  (ht:St t ((14,T8 (j:Int))::(15,uu)::(78,ev)::LNs gr vw)) (h80:tat t 80=T8 0) (h79:tat t 79=T8 (e.length:Int))
  (fin:∀t,S.PO vals e=true->St t ((14,T8 (j:Int))::LNs gr vw)->Q (.exit 6) t [] g)
  (bad:∀t g',S.PO vals e=false->St t (LNs gr vw)->Own g' 4 wv 1 ((mw.set j 0).map ci)->g'.nx=g.nx->(∀i,vid wv≠some i->g'.h.get i=g.h.get i)->Q (.exit 5) t [] g'):wpL (wp C0 d rd dT) Q t [] g:=by
 have re:=λh=>(he h).ints;have ru:=hu.ints;obtain⟨g0,g1,g2,g3,H⟩:=hh;simp only[dT];refine aM (m:=e.length) (he .nil).1 (λi t df g'=>df=[]/\g'=g/\St t ((14,T8 (j:Int))::(15,uu)::(78,ev)::LNs gr vw)/\(List.range i).all (S.PV vals e)=true) ⟨rfl,rfl,ht,by simp⟩ h80 h79 (by decide)
  (by rintro j t df g v s (rfl|rfl|rfl) ⟨a1,a2,⟨c1,o,E,b1,b2,C,D,-⟩,c⟩<;>exact⟨a1,a2,by simp[St,LNs,sx,c1,o,E,b1,b2,C,D],c⟩) ?_ ?_
 ·rintro i t df g' hi ⟨rfl,rfl,⟨a,h15,f,h2,h3,h4,h9,-⟩,k⟩ h80 h79;obtain⟨x,hx,-,hm⟩:=ae hi;obtain⟨y,w,-,-⟩:=ae (l:=vals) (j:=i) (by omega);have q:i<(e.map ci).length:=by simpa using hi
  have r:(e.map ci)[i]?=some (ci x):=by rw[Qv,hx];rfl
  have A:i<(vals.map ci).length:=by rw[QA];omega
  have B:(vals.map ci)[i]?=some (ci y):=by rw[Qv,w];rfl
  have key:S.PV vals e i=true↔x<0\/x=y:=by simp only[S.PV,hx,w,Qz,Rg,QM]
  by_cases c1:(0:Int)<=x
  ·by_cases o:x=y
   ·simp only[sz,simprocAttr,f,h80,re,q,r,ci,o];have p:(0:Int)<=y:=by omega
    simp only[sz,simprocAttr,p,h15,ru,A,B,ci];refine⟨⟨by simp[St,LNs,sx,a,h15,f,h2,h3,h4,h9],?_⟩,by simp[h80],by simp[h79]⟩;rw[iI,k,key.2 (.inr o)];rfl
   ·have F:j<(mw.map ci).length:=by rw[QA];exact hj
    obtain⟨z,hz,-,-⟩:=ae hj;have q2:(mw.map ci)[j]?=some (ci z):=by rw[Qv,hz];rfl
    simp only[sz,simprocAttr,f,h80,re,q,r,ci,c1,h15,ru,A,B,o,h9,g3,g2,t_,a,ho.rows,F];refine pM (v:=wv) (sz:=1) (n:=1) (i:=j) (off:=0) (x:=T8 0) (row:=ci z) (row':=ci 0) ho q2 rfl rfl rfl λg5 o5 n5 f5 u5=>?_;rw[<-RX]at o5;simp only[sz,simprocAttr];refine bad _ g5 ?_ (by simp[St,LNs,sx,h2,h3,h4,h9]) o5 n5 f5;rw[SP];intro h;rcases key.1 (QB.1 h i (QE.2 hi)) with h|h
    ·omega
    ·exact o h
  ·simp only[sz,simprocAttr,f,h80,re,q,r,ci,c1];refine⟨⟨by simp[St,LNs,sx,a,h15,f,h2,h3,h4,h9],?_⟩,h79⟩;rw[iI,k,key.2 (.inl (by omega))];rfl
 ·rintro t df g' ⟨rfl,rfl,⟨a,-,-,ht⟩,k⟩;exact fin t k ⟨a,ht⟩
theorem Kt{C:Cfg}{a b:SC}{df:List ADf}{P:PT}(h1:wp C d rd a (λe t df g=>e=.norm/\P t df g) t df g)(h2:∀t df g,P t df g->wp C d rd b Q t df g):wp C d rd (.seq a b) Q t df g:=by rw[dt];refine cw _ h1 ?_;rintro e t df g ⟨rfl,h⟩;exact h2 t df g h
theorem DX{x y:Foot}(hx:x.wr=[])(hb:x.lk.big=false)(hs:x.lk.sr=[])(h3:∀i∈y.wr,∀j∈x.lk.rd,i≠j):bG x y=true:=by
 have h:=mb h3;have k:∀l:List Nat,meets l []=false:=λl=>by simp[meets]
 simp only[bG,je,fD,hx,hb,hs,h,k,fst1,RQ,Sx,SU,SG]
 split<;>rfl
structure NsJ (gr:Int) (b ev vw u wv:AV) (n:Net) (e:List Int) (g0:G) (W j:Nat) (g:G):Prop where
 h2:g.h.get 2=Tq 6 [[T8 gr,b,vw,u,wv,T8 (S.OH n (S.pe n e) j)]]
 hw:∃lo,g.h.get W=.cells 1 ((S.O1 n e j).map ci) 0 lo false
 fr:∀i,i<g0.nx->i≠2->i≠W->g.h.get i=g0.h.get i
theorem Oe[XOc]{ke:Nat}(hd:0<d)(hr:NR n)(hN:∀h,SlR NoP 0 h n.nodes b)(hel:e.length=n.nodes.length)(he:∀h,SlR NoP ke h e ev)
  (hh:NsH n.grain b ev vw u .nils 0 g) (ht:St t (LNs n.grain vw))
  (fin:∀t g' W df,tat t 6=T9 2->tat t 7=T8 0->g.nx<=W->W<g'.nx->(∃lo,g'.h.get W=.cells 1 ((S.OP n e).map ci) 0 lo false)->g'.h.get 2=Tq 6 [[T8 n.grain,b,vw,u,.hsl W 0 0 (S.OD n) none,T8 (S.Pq n e)]] ->
   (∀i,i<g.nx->i≠2->g'.h.get i=g.h.get i)->g.nx<=df->df<g'.nx->df≠W->g'.h.get df=.dfr true->Q .ret t [.mark df] g'):wp C0 d none dU Q t [] g:=by
 obtain⟨h2,h3,h4,h9,-⟩:=ht;obtain⟨g0,e1,g2,l,Z⟩:=hh;have h6:=hr.l2;obtain⟨W1,W2,W3⟩:=hr.wl;have J:CsOk (S.Oz n):=⟨hr.cs,by rw[aw];omega⟩;have s:S.nc (S.Oz n)=S.OD n:=rfl;have hA:∀h,Agg n NoP 0 h (.agg [T8 n.grain,b]):=λh=>⟨_,rfl,jK.2 ⟨b,rfl,hN h⟩⟩;have le:∀g:G,bY .slice ev g=.val (T8 (e.length:Int)):=λg=>(he .nil).len g;unfold dU;refine Kt (P:=λt' df g'=>df=[]/\∃W,g.nx<=W/\W<g'.nx/\NsJ n.grain b ev vw u (.hsl W 0 0 (S.OD n) none) n e g W 0 g'/\g.nx<=g'.nx/\St t' (LNs n.grain vw)) ?_ ?_
 ·simp only[sz,simprocAttr,sf,h9,l,h3,g0];refine Ff hd hr (hA _) λg5 q5 n5 f5 u5=>?_;have v:∀i,i<g.nx->g5.h.get i=g.h.get i:=λi hi=>by rw[f5.2 i (by simp;omega)];simp
  have u6:∀i∈g5.lg,g.nx<=i:=λi hi=>by
   rcases u5.2 i hi with h|h
   ·simp at h
   ·simp at h;omega
  simp only[sy]at q5 n5;simp only[sz,simprocAttr,sf,v 2 (by omega),g2,t_];refine⟨?_,?_⟩
  ·simp only[Q5,Q4,QU,QQ];refine aT (TK (true::(TK (true::[])))) [(0,2)] (by simp[All2,ah,aC,bT,tc]) (by decide) ?_;rintro p hp x y hx X;simp only[Rh,QH,S9]at hp;subst hp;simp at hx X;subst hx;subst X;refine DX rfl rfl rfl λi hi j m=>?_;have hi:i∈g5.lg:=by simpa using hi
   have m:j=3:=by simpa [ah,fm] using m
   have:=u6 i hi;omega
  refine⟨g.nx+3,by omega,by omega,⟨?_,?_,λi h1 h2 h3=>?_⟩,by omega,by simp[St,LNs,sx,h2,h3,h4,h9]⟩
  ·simp[sy,S.OH]
  ·exact⟨false,by rw[JS];simp[sy,q5]⟩
  ·simp[sy,h2,v i h1]
 ·rintro t df g1 ⟨rfl,W,w1,w2,V,n1,h2,h3,h4,h9,-⟩;have z0:g1.h.get 0=Tq 2 [[T8 n.grain,b]]:=by rw[V.fr 0 (by omega) (by omega) (by omega),g0]
  rw[dt,BF,A4];rw[dt];simp only[sz,simprocAttr,h3,z0];refine bL (vA (n:=n) (by omega) (hN _) (by omega)) λrc hrc=>?_;simp only[sz,simprocAttr];obtain⟨z,kz,hz⟩:=wG (d:=d) (g:=g1) (w:=rc) (cs:=S.Oz n) hd (hrc.sl g1.h);simp only[sz,simprocAttr,kz];refine yI (cs:=S.Oz n) (w:=z) J hz (by simp[sx]) (by decide) (by decide) (NsJ n.grain b ev vw u (.hsl W 0 0 (S.OD n) none) n e g W) (λ_=>False) ?_ (λ_ _ _ h=>h) V ?_ ?_ (λ_ h=>h.elim)
  ·rintro j g3 Z I ⟨a1,a2,B⟩;exact⟨by rw[I.1 _ (by omega),a1],by rw[I.1 _ (by omega)];exact a2,λi q1 q2 q3=>by rw[I.1 i (by omega),B i q1 q2 q3]⟩
  ·rintro j uu g3 m H h7 hu;rw[s]at m;simp only[sz,simprocAttr,iS];refine⟨Fr.refl _,λg5 n5 f5 u5=>?_⟩;have k:NsJ n.grain b ev vw u (.hsl W 0 0 (S.OD n) none) n e g W j g5:=by obtain⟨a1,a2,B⟩:=H;exact⟨by rw[u5.1 _ (by omega),a1],by rw[u5.1 _ (by omega)];exact a2,λi q1 q2 q3=>by rw[u5.1 i (by omega),B i q1 q2 q3]⟩
   have O:SlR (λi=>g1.nx+2<=i/\i<g3.nx) 0 g5.h (S.OE (S.Oz n) (j:Int)) uu:=hu.far8 λi hi=>f5 i (by omega);have Y:g5.h.get 1=Tq 1 [[ev]]:=by rw[k.fr 1 (by omega) (by omega) (by omega),e1]
   simp only[sz,simprocAttr,iT,h4,Y,le];have R:=h_ (S.Oz n) (j:Int);rw[aw]at R;have M:((S.O1 n e j).map ci).length=S.OD n:=by rw[QA,jP]
   have L:=bu (λc hc=>(hr.cs c hc).1) (j:Int);have wb:=nA hr L;have A:Own g5 4 (.hsl W 0 0 (S.OD n) none) 1 ((S.O1 n e j).map ci):=by obtain⟨lo,h⟩:=k.hw;exact .inr ⟨W,0,lo,by omega,by omega,by rw[M],h⟩
   have sb:=uv hr (p:=S.pe n e) (j:=j) (by omega);have sb2:=uv hr (p:=S.pe n e) (j:=j+1) (by omega);refine Oc (e:=e) (vals:=S.OE (S.Oz n) (j:Int)) (j:=j) (mw:=S.O1 n e j) (gr:=n.grain) (b:=b) (ev:=ev) (vw:=vw) (u:=u) (wv:=.hsl W 0 0 (S.OD n) none) (uu:=uu) (by omega) he O
    ⟨by rw[k.fr 0 (by omega) (by omega) (by omega),g0],Y,k.h2,by rw[k.fr 3 (by omega) (by omega) (by omega),l],by omega⟩ A (by rw[jP];exact m) (by simp[St,LNs,sx,h2,h3,h4,h9]) (by simp[sx]) (by simp[sx]) ?_ ?_
   ·rintro t6 o ⟨C,D,E,F,r,-⟩;have f:S.pe n e j=true:=o;have m1:j<((S.O1 n e j).map ci).length:=by omega
    have m2:((S.O1 n e j).map ci)[j]?=some (ci (S.wt n j)):=by rw[Qv,LK n e j m];rfl
    have A:Own g5 4 (.hsl W 0 0 (S.OD n) none) 1 ((S.O1 n e j).map ci):=A;have U:g5.h.get 3=Tq 1 [[T9 2]]:=by rw[k.fr 3 (by omega) (by omega) (by omega),l]
    have ss:S.OH n (S.pe n e) (j+1)=S.OH n (S.pe n e) j+S.wt n j:=by rw[S.OH,Qw f];rfl
    have w1:IntKind.wrap .i64 (S.OH n (S.pe n e) j+S.wt n j)=S.OH n (S.pe n e) (j+1):=by rw[<-ss,aB (by omega) (by omega)]
    simp only[sz,simprocAttr,sf,iU,r,U,k.h2,t_,C,A.rows,m1,m2,ci,w1];refine⟨?_,?_⟩
    ·simp only[Q5,Q4,QU,QQ];exact aT (TK (TJ (TH (true::[])))) [] (by simp[All2,ah,aC]) (by decide) (by simp)
    refine⟨by simp[sy]<;>omega,λi q1 q2=>?_,.inl ⟨rfl,?_,?_,λi q1 q2 q3=>?_⟩⟩
    ·simp[sy,show ¬i=2 by omega]
    ·simp[sy]
    ·obtain⟨lo,h⟩:=k.hw;exact⟨lo,by rw[CO m,Qw f];simp[sy,show ¬W=2 by omega,h]⟩
    ·simp[sy,q2,k.fr i q1 q2 q3]
   ·rintro t6 g6 o ⟨D,E,F,r,-⟩ o6 n6 v;have f:S.pe n e j=false:=o;simp only[sz,simprocAttr];have q:∀i,i≠W->g6.h.get i=g5.h.get i:=λi hi=>v i (by simpa [vid] using λh:W=i=>hi h.symm);have N:S.OH n (S.pe n e) (j+1)=S.OH n (S.pe n e) j:=by rw[S.OH,f];simp
    refine⟨by omega,λi q1 q2=>q i (by omega),.inl ⟨rfl,?_,?_,λi q1 q2 q3=>?_⟩⟩
    ·rw[q 2 (by omega),k.h2,N]
    ·rw[CO m,f];rcases o6 with⟨h,-⟩|⟨id,ep,lo,-,-,h,hg⟩
     ·cases h
     ·injection h with h1 h2 h3 h4 h5;subst h1;subst h2;exact⟨lo,by simpa using hg⟩
    ·rw[q i q3,k.fr i q1 q2 q3]
  ·rintro g' a hn K;rw[s]at a;have U:g'.h.get 3=Tq 1 [[T9 2]]:=by rw[a.fr 3 (by omega) (by omega) (by omega),l]
   simp only[sz,simprocAttr,iV,h9,U];exact fin _ g' W g1.nx (by simp[sx]) (by simp[sx]) w1 (by omega) a.hw a.h2 (λi q1 q2=>by
    by_cases q3:i=W
    ·omega
    ·rw[a.fr i q1 q2 q3]) n1 (by omega) (by omega) K
theorem pD[XOc]{kv k1:Nat}{P1:Nat->Prop}(hd:kv<d)(hm:Agg n NoP 0 g.h v)(he:SlR P1 k1 g.h e w)(hv:SlR NoP kv g.h vars u) :
  ∃r,ay C0 d 51 [v,w,u] g=.val r/\NsV n e vars NoP kv .nil r:=by
 obtain⟨b,rows,rfl,e1,z,hN,J,K,L,M⟩:=mc d hm;obtain⟨w',e2,j⟩:=bj he d;have e3:=wX d hv;have f:∀h,SlR NoP kv h vars u:=λh=>hv.tree (Qq _);have l:∀h,SlR NoP 0 h n.nodes b:=λh=>hN.tree (Qq 0);have lu:∀g:G,bY .slice u g=.val (T8 (vars.length:Int)):=λg=>(f .nil).len g;have lN:∀g:G,bY .slice b g=.val (T8 (n.nodes.length:Int)):=λg=>(l .nil).len g;have kc:=λg=>IN (d:=d+1) (g:=g) (RA d) (z g.h) (j g.h);rw[oY];refine bK qC (xs:=[.agg [T8 n.grain,b],w',u]) (by simp only[aF,e1,e2,e3]) (by simp[dw]) (NJ n e vars) (by decide) hd ?_
 by_cases c:S.Pe n e=0
 ·obtain⟨I,s⟩:=rF.1 c;have hr:=md.1 I;have q:=(I3 s).1;have x:=hr.l2;have B:∀(g:G) (i m:Nat),cH (Tq 1 [[.nilp]]) g i 0 0 1 0 (T9 m)=.upd .undef (g.put i (Tq 1 [[T9 m]])):=λg i m=>rfl;obtain⟨FB,o⟩:∃F,F=cD:=⟨_,rfl⟩;simp only[sz,simprocAttr,dw,eD,kc,c,lu,uJ (j .nil),(f .nil).cell.1,(f .nil).cell.2,B,<-o];subst o;refine Oa (k:=kv) (gr:=n.grain) (ev:=w') (n:=n) (vars:=vars) hr f l (by simp[OE,show G.empty.nx=0 from rfl]) (by simp[St,LNs,sx]) (by simp[sx]) (by simp[sx]) (by simp[sx]) ?_ ?_
  ·intro t hp h6 h7;have hs:S.O2 n e vars=2:=by rw[S.O2,Qw c,hp];rfl
   simp only[sz,simprocAttr,h6,h7];refine⟨NoP,?_⟩;rw[NsV,hs];exact⟨_,_,rfl,rfl,aG.2 rfl⟩
  ·rintro t hp ⟨h2,h3,h4,h9,-⟩;have hs:S.O2 n e vars=0:=by rw[S.O2,Qw c,hp];rfl
   have p:NsH n.grain b w' u .nils .nils 0 (((((G.empty.new (Tq 2 [[T8 n.grain,b]])).new (Tq 1 [[w']])).new (Tq 6 [[T8 n.grain,b,u,.nils,.nils,T8 0]])).new (Tq 1 [[.nilp]])).put 3 (Tq 1 [[T9 2]])):=by constructor<;>simp[OE,show G.empty.nx=0 from rfl]
   generalize ((((G.empty.new (Tq 2 [[T8 n.grain,b]])).new (Tq 1 [[w']])).new (Tq 6 [[T8 n.grain,b,u,.nils,.nils,T8 0]])).new (Tq 1 [[.nilp]])).put 3 (Tq 1 [[T9 2]])=g1 at p ⊢;simp only[sz,simprocAttr,iW,h3,p.h0,lN];refine Ob (k:=kv) (m:=n.nodes.length) (RA d) x f p (by simp[St,LNs,sx,h2,h3,h4,h9]) (by simp[sx]) (by simp[sx]) λt g2 uo ht hH2 hO=>?_;simp only[kB,sz,simprocAttr];refine Oe (RA d) hr l q j hH2 ht λt g3 W df h6 h7 w1 w2 gW g2' hf d1 d2 d3 hdf=>?_;show kg C0 (d+1) [.tm 6,.tm 7] t [.mark df] g3 λv g'=>∃P,NsV n e vars P kv g'.h v;refine jB hdf ?_;simp only[sz,simprocAttr,h6,h7];have A:=λi (h:vid uo=some i)=>hO.lt h;obtain⟨lo,gW⟩:=gW;have C:∀i,i≠df->(g3.h.put df (.dfr false)).get i=g3.h.get i:=λi hi=>by rw[ax _ _ _ hi]
   have q2:=(hO.fr (g':=g3.put df (.dfr false)) (by simp;omega) λi hi=>by
    have:=A i hi;rw[G.put_h,C i (by omega),hf i (by omega) (by omega)])
   have H:(S.OJ n vars).length<=_:=oH vars n.nodes.length;have D:=hH2.nx;have y:(S.OP n e).length=S.OD n:=jP _ _ _;have E:=hr.wl.2.1;refine⟨λ_=>True,?_⟩;rw[NsV,Qw hs];refine⟨_,_,rfl,.inl ⟨2,_,rfl,trivial,by rw[C 2 (by omega),g2'],?_⟩,aG.2 rfl⟩;refine Km.2 ⟨b,u,uo,_,rfl,hN.wide (Q_ _),?_,q2.sl (α:=Int) (by omega) (Oz (λa=>aG.2 rfl) _) λ_ _=>trivial,?_⟩
   ·exact hv.wide (Qq _)
   ·have gW':(g3.put df (.dfr false)).h.get W=.cells 1 ((S.OP n e).map ci) 0 lo false:=by rw[G.put_h,C W (by omega),gW]
    have o3:Own (g3.put df (.dfr false)) 0 (.hsl W 0 0 (S.OD n) none) 1 ((S.OP n e).map ci):=.inr ⟨W,0,lo,Q_ _,by simp;omega,by rw[QA,y],gW'⟩;exact o3.sl (α:=Int) (by omega) (Oz (λa=>aG.2 rfl) _) λ_ _=>trivial
 ·simp only[sz,simprocAttr,dw,eD,kc,c,uJ (j .nil)];refine⟨NoP,?_⟩;have hs:S.O2 n e vars=S.Pe n e:=by rw[S.O2,Qu c]
  rw[NsV,hs,Qu c];exact⟨_,_,rfl,rfl,aG.2 rfl⟩
def Sl1(v:AV):Prop:=∀t s rows,v=.tsl t s rows->s=1
theorem Dq{n:Nat}{v':AV}(r:SlR P k h l v)(h1:Sl1 v)(e:Hx.snap h d (n+1) v=some v'):Sl1 v':=by
 have r:=r.2;unfold SlV at r
 split at r
 ·injection e with e;subst e;exact λ_ _ _ h=>by cases h
 ·injection e with e;subst e;exact λ_ _ _ h=>by cases h
 ·injection e with e;subst e;exact h1
 ·rename_i id ep off len lim;obtain⟨-,rows,q2,-⟩:=r;simp only[am]at q2;simp only[Hx.snap]at e
  split at q2
  ·rename_i sz' rows' ep' lo fz hg;rw[hg]at e;rw[aa]at q2
   split at q2
   ·rename_i hc;simp only[Qt]at hc;obtain⟨⟨b,a⟩,c⟩:=hc;have e1:=Ro a;dsimp only at e;rw[aa]at e
    split at e
    ·split at e
     ·split at e
      ·injection e with e;subst e;intro t s rows h;injection h with a1 a2 f;have:Rp.sz Int=1:=rfl;omega
      ·cases e
     ·cases e
    ·cases e
   ·cases q2
  ·cases q2
 ·exact r.elim
def M7(l:List Int):VS:=λP k h v=>SlR P k h l v/\Sl1 v
theorem Dr(l:List Int):Snb (M7 l) 0:=by
 refine⟨λ{P k h v n} d r hn=>?_,λ{k h v n} r hn=>?_⟩
 ·obtain⟨r,a⟩:=r;obtain⟨v',e,r'⟩:=(bi l).snap d (show One l P k h v from ⟨v,rfl,r⟩) hn;obtain⟨n,rfl⟩:∃q,n=q+1:=⟨n - 1,by omega⟩;obtain⟨w,hw,q⟩:=r';injection hw with hw;subst hw;exact⟨v',e,q,Dq r a e⟩
 ·exact (bi l).tag (show One l NoP k h v from ⟨v,rfl,r.1⟩) hn
theorem K6(r:SlR P k h l v)(r1:Sl1 v)(d:Nat):∃v',Hx.snap h d aD v=some v'/\(∀h',SlR NoP (max k d) h' l v')/\Sl1 v':=by obtain⟨v',e,q⟩:=bj r d;exact⟨v',e,q,Dq r r1 e⟩
theorem LY{b sz:Nat}{rows:List (List AV)}(h:Own g b u sz rows):Sl1 u:=by
 intro t s r e;subst e;unfold Own at h;rcases h with⟨h,-⟩|⟨_,_,_,_,_,h,_⟩
 ·cases h
 ·cases h
def mr(n:Net)(vars oth mw:List Int)(m:Int)(k:Nat)(v:AV):Prop:=∃t b vw ow ww,v=.tptr t 6 [[T8 n.grain,b,vw,ow,ww,T8 m]] 0 0/\t<=k/\SlR NoP k .nil n.nodes b/\SlR NoP k .nil vars vw/\SlR NoP k .nil oth ow/\SlR NoP k .nil mw ww
theorem Mg(r:DV ((n,vars,oth,mw,m):Sch) 6 NoP k h v):mr n vars oth mw m k v:=by
 rcases r with⟨id,cs,rfl,e,-⟩|⟨t,cs,rfl,ht,r⟩
 ·exact e.elim
 ·obtain⟨a,b,c,d,rfl,ha,hb,hc,hd⟩:=Km.1 r;exact⟨t,a,b,c,d,rfl,ht,ha,hb,hc,hd⟩
theorem eA(h:H)(d t sz:Nat)(rows:List (List AV))(i off:Nat):Hx.snap h d aD (.tptr t sz rows i off)=some (.tptr t sz rows i off):=rfl
theorem dh(t sz:Nat)(rows:List (List AV))(i off:Nat):vR (.tptr t sz rows i off)=.val (.tptr t sz rows i off):=rfl
def S.Pv(n:Net)(vars l:List Int)(i:Nat):Bool:=decide (0<=l[i]?.getD 0)&&decide (l[i]?.getD 0<(S.OA (S.Oz n) vars)[i]?.getD 0)
def S.OM(n:Net)(vars l:List Int):Bool:=decide (l.length<=vars.length)&&(List.range l.length).all (S.Pv n vars l)
theorem mN{p:Int}(hN:SlR NoP k .nil n.nodes b)(h0:0<=p)(h1:p<(n.nodes.length:Int)):∃(pn:Nat) (x:Node) (rows:List (List AV)) (pa ra:AV),p=(pn:Int)/\n.nodes[pn]?=some x/\(∀h,am h 3 b=some rows)/\pn<rows.length/\rows[pn]?=some [T8 x.card,pa,ra]/\wx b=true/\x∈n.nodes/\(S.Oz n)[pn]?=some x.card:=by
 obtain⟨pn,rfl⟩:=QD h0;obtain⟨rows,c,f,d,e⟩:=hN.all;have hlt:pn<n.nodes.length:=by omega
 obtain⟨x,hx,-,hm⟩:=ae hlt;obtain⟨row,a,q2⟩:=d pn x hx;obtain⟨pa,ra,rfl,-,-⟩:=eL.1 q2;exact⟨pn,x,rows,pa,ra,rfl,hx,c,by omega,a,e (by omega),hm,by simp[S.Oz,hx]⟩
theorem CB[XOc](hd:0<d)(hq:mr n vars oth mw m k q)(hp:S.OF vars (n.nodes.length:Int)=true)(hw:SlR P k2 g.h l w) :
  ay C0 d 57 [q,w] g=.val (.bool (S.OM n vars l)):=by
 obtain⟨t,b,vw,ow,ww,rfl,ht,hb,hv,ho,K⟩:=hq;obtain⟨w',e2,i⟩:=bj hw d;have lw:∀g:G,bY .slice w' g=.val (T8 (l.length:Int)):=λg=>(i .nil).len g;have lv:∀g:G,bY .slice vw g=.val (T8 (vars.length:Int)):=λg=>hv.len g;have rw':=λh=>(i h).ints;have rv:=λh=>(hv.tree (h':=h) (Qq _)).ints;have hl:=hw.1;rw[jn];refine l8 jU (xs:=[.tptr t 6 [[T8 n.grain,b,vw,ow,ww,T8 m]] 0 0,w']) (by simp only[aF,e2,eA]) (by simp[bE]) hd ?_
 by_cases c:vars.length<l.length
 ·have c':(vars.length:Int)<(l.length:Int):=by omega
  have hf:S.OM n vars l=false:=by simp[S.OM];omega
  simp only[sz,simprocAttr,bE,lw,lv,c',hf,dh,br,aP]
 ·have c':¬(vars.length:Int)<(l.length:Int):=by omega
  simp only[sz,simprocAttr,bE,du,lw,lv,c',dh,br,aP];refine aM (m:=l.length) hl (λj t' df g=>df=[]/\St t' [(0,.tptr t 6 [[T8 n.grain,b,vw,ow,ww,T8 m]] 0 0),(15,w')]/\(List.range j).all (S.Pv n vars l)=true) ⟨rfl,by simp[St,sx],by simp⟩ (by simp[sx]) (by simp[sx]) (by decide)
   (by rintro j t df g v s (rfl|rfl|rfl) ⟨a1,⟨b1,b2,-⟩,c1⟩<;>exact⟨a1,by simp[St,sx,b1,b2],c1⟩) ?_ ?_
  ·rintro j t' df g u ⟨rfl,⟨h0,h15,-⟩,a⟩ e o;obtain⟨x,hx,-,-⟩:=ae u;obtain⟨p,f,-,z⟩:=ae (l:=vars) (j:=j) (by omega);obtain⟨L,M⟩:=aZ hp p z;obtain⟨pn,y,rows,pa,ra,rfl,N,D,E,F,H,-,r5⟩:=mN hb L M;have A:j<(l.map ci).length:=by simpa using u
   have B:(l.map ci)[j]?=some (ci x):=by rw[Qv,hx];rfl
   have I:j<(vars.map ci).length:=by rw[QA];omega
   have J:(vars.map ci)[j]?=some (ci (pn:Int)):=by rw[Qv,f];rfl
   have key:S.Pv n vars l j=true↔0<=x/\x<y.card:=by simp[S.Pv,hx,S.OA,f,r5]
   have fl:¬(0<=x/\x<y.card)->S.OM n vars l=false:=λh=>by rw[SP];intro C;rw[S.OM,Qt]at C;exact h (key.1 (QB.1 C.2 j (QE.2 u)))
   by_cases c1:x<0
   ·simp only[sz,simprocAttr,h15,e,rw',A,B,ci,c1];simp[fl (by omega)]
   by_cases c2:y.card<=x
   ·simp only[sz,simprocAttr,h15,e,rw',A,B,ci,c1,h0,dh,br,aP,rv,I,J,D,E,F,H,c2];simp[fl (by omega)]
   ·simp only[sz,simprocAttr,h15,e,rw',A,B,ci,c1,h0,dh,br,aP,rv,I,J,D,E,F,H,c2];have r:(List.range (j+1)).all (S.Pv n vars l)=true:=by rw[iI,a,key.2 ⟨by omega,by omega⟩];rfl
    simp[St,sx,h0,h15,o,r]
  ·rintro t' df g ⟨rfl,-,a⟩;have:S.OM n vars l=true:=by rw[S.OM,a];simp;omega
   simp only[sz,simprocAttr,dv,this]
theorem yM[XOc](hd:0<d)(hq:mr n vars oth mw m k q)(hp:∀x∈l,0<=x/\x<(n.nodes.length:Int))(hw:SlR P k2 g.h l w)(hl:l.length<=8) :
  ∃r,ay C0 d 99 [q,w] g=.val r/\M7 (S.OA (S.Oz n) l) NoP 0 .nil r:=by
 obtain⟨t,b,vw,ow,ww,rfl,ht,hb,hv,ho,E⟩:=hq;obtain⟨w',e2,z⟩:=bj hw d;have lw:∀g:G,bY .slice w' g=.val (T8 (l.length:Int)):=λg=>(z .nil).len g;have rw':=λh=>(z h).ints;have D:(S.OA (S.Oz n) l).length=l.length:=by simp[S.OA]
 rw[mz];refine bK nY (xs:=[.tptr t 6 [[T8 n.grain,b,vw,ow,ww,T8 m]] 0 0,w']) (by simp only[aF,e2,eA]) (by simp[dW]) (Dr _) (by decide) hd ?_;simp only[sz,simprocAttr,dW,lw];refine wO (b:=0) (n:=l.length) (by unfold aS;omega) (by unfold aS;omega) (Q_ _) λu g1 hu n1 f1 v1=>?_;simp only[sz,simprocAttr,lw,fQ];refine aM (m:=l.length) (by omega) (λj t' df g=>df=[]/\St t' [(0,.tptr t 6 [[T8 n.grain,b,vw,ow,ww,T8 m]] 0 0),(11,w'),(5,u)]/\Own g 0 u 1 ((((S.OA (S.Oz n) l).take j)++List.replicate (l.length - j) 0).map ci)) ⟨rfl,by simp[St,sx],?_⟩ (by simp[sx]) (by simp[sx]) (by decide)
  (by rintro j t df g v s (rfl|rfl|rfl)<;>simp[sx,St]) ?_ ?_
 ·simpa [ci] using hu
 ·rintro j t' df g C ⟨rfl,⟨h0,a,h5,-⟩,c⟩ e A;obtain⟨p,o,-,B⟩:=ae C;obtain⟨F,H⟩:=hp p B;obtain⟨pn,y,rows,pa,ra,rfl,O,I,J,K,L,-,r5⟩:=mN hb F H;have M:j<(l.map ci).length:=by simpa using C
  have N:(l.map ci)[j]?=some (ci (pn:Int)):=by rw[Qv,o];rfl
  have f:(S.OA (S.Oz n) l)[j]?=some y.card:=by simp[S.OA,o,r5]
  have o1:j<((((S.OA (S.Oz n) l).take j)++List.replicate (l.length - j) 0).map ci).length:=by simp;omega
  have o2:((((S.OA (S.Oz n) l).take j)++List.replicate (l.length - j) 0).map ci)[j]?=some (ci 0):=by rw[Qv,QL (by simp;omega),Sg];simp;omega
  have e3:((((S.OA (S.Oz n) l).take j)++List.replicate (l.length - j) 0).map ci).set j (ci y.card)=(((S.OA (S.Oz n) l).take (j+1))++List.replicate (l.length - (j+1)) 0).map ci:=by
   rw[<-RX,RG _ _ (by simp;omega),QZ,RB (by omega),Rm,QG (by omega),show l.length - j=(l.length - (j+1))+1 by omega,RI,R3,Rj];have:(S.OA (S.Oz n) l)[j]=y.card:=by rw[Qr (by omega)]at f;injection f
   rw[this];rfl
  simp only[sz,simprocAttr,a,e,rw',M,N,ci,h0,dh,br,aP,I,J,K,L,h5,c.rows,o1];refine ct (v:=u) (sz:=1) (n:=1) (i:=j) (off:=0) (x:=T8 y.card) (row:=ci 0) (row':=ci y.card) c o2 rfl rfl rfl λg3 o3 n3 f3=>?_;rw[e3]at o3;simp only[sz,simprocAttr];simpa [St,sx,h0,a,h5,A,e] using o3
 ·rintro t' df g ⟨rfl,⟨h0,a,h5,-⟩,c⟩;rw[QF (by omega),Rm]at c;simp only[sz,simprocAttr,fR,h5];obtain⟨w,hw,hS⟩:=(by simpa using c:Own g 0 u 1 ((S.OA (S.Oz n) l).map ci)).ints (by omega);injection hw with hw;subst hw;exact⟨_,hS,LY c⟩
theorem ve[XOc](hd:0<d)(hq:mr n vars oth mw m k q)(hp:∀x∈l,0<=x/\x<(n.nodes.length:Int))(hw:SlR P k2 g.h l w)(hl:l.length<=8) :
  ∃r,ay C0 d 99 [q,w] g=.val r/\IT 0 (S.OA (S.Oz n) l) r:=by
 obtain⟨r,h1,h2⟩:=yM hd hq hp hw hl;exact⟨r,h1,r,rfl,h2.1⟩
theorem EZ[XOc](hd:0<d)(hr:NR n)(hq:mr n vars oth mw m k q)(hp:S.OF vars (n.nodes.length:Int)=true)(hw:SlR P k2 g.h l w)(hl:InC (S.OA (S.Oz n) vars) l) :
  ay C0 d 101 [q,w] g=.val (T8 (S.OC (S.OA (S.Oz n) vars) l)):=by
 obtain⟨t,b,vw,ow,ww,rfl,ht,hb,hv,ho,M⟩:=hq;obtain⟨w',e2,o⟩:=bj hw d;have lw:∀g:G,bY .slice w' g=.val (T8 (l.length:Int)):=λg=>(o .nil).len g;have rw':=λh=>(o h).ints;have rv:=λh=>(hv.tree (h':=h) (Qq _)).ints;have I:(S.OA (S.Oz n) vars).length=vars.length:=by simp[S.OA]
 have H:=hl.len;have F:=hr.l2;have L:=bH hp (by omega);have a:=bF (ps:=vars) hr.cs (λp e=>by rw[aw];exact aZ hp p e);rw[eQ];refine jf gi (xs:=[.tptr t 6 [[T8 n.grain,b,vw,ow,ww,T8 m]] 0 0,w']) (by simp only[aF,e2,eA]) (by simp[bI]) hd ?_;simp only[sz,simprocAttr,bI,cK,lw];refine aM (m:=l.length) (by omega) (λj t' df g=>df=[]/\St t' [(0,.tptr t 6 [[T8 n.grain,b,vw,ow,ww,T8 m]] 0 0),(8,w'),(5,T8 (S.OC ((S.OA (S.Oz n) vars).take j) (l.take j)))]) ⟨rfl,by simp[St,sx,S.OC]⟩ (by simp[sx]) (by simp[sx]) (by decide)
  (by rintro j t df g v s (rfl|rfl|rfl)<;>simp[sx,St]) ?_ ?_
 ·rintro j t' df g B ⟨rfl,h0,h8,h5,-⟩ h10 h9;obtain⟨x,hx,u,-⟩:=ae B;obtain⟨p,i,-,e⟩:=ae (l:=vars) (j:=j) (by omega);obtain⟨O,Q⟩:=aZ hp p e;obtain⟨pn,y,rows,pa,ra,rfl,hy,R,T,U,V,z,r5⟩:=mN hb O Q;have Z:j<(l.map ci).length:=by simpa using B
  have z2:(l.map ci)[j]?=some (ci x):=by rw[Qv,hx];rfl
  have X:j<(vars.map ci).length:=by rw[QA];omega
  have Y:(vars.map ci)[j]?=some (ci (pn:Int)):=by rw[Qv,i];rfl
  have f:(S.OA (S.Oz n) vars)[j]?=some y.card:=by simp[S.OA,i,r5]
  have c1:(S.OA (S.Oz n) vars).take (j+1)=(S.OA (S.Oz n) vars).take j++[y.card]:=by rw[QG (by omega)];congr 2;rw[Qr (by omega)]at f;injection f
  have r:S.OC ((S.OA (S.Oz n) vars).take (j+1)) (l.take (j+1))=S.OC ((S.OA (S.Oz n) vars).take j) (l.take j)*y.card+x:=by rw[c1,u];exact tX (by simp;omega)
  have C:=bz (λc h=>a c (Q8 h)) (hl.take j);have D:=bz (λc h=>a c (Q8 h)) (hl.take (j+1));have q1:=bQ a (by omega) j;have q2:=bQ a (by omega) (j+1);rw[r]at D ⊢;have N:=hr.card y z;obtain⟨A,E⟩:∃A,A=S.OC ((S.OA (S.Oz n) vars).take j) (l.take j):=⟨_,rfl⟩;rw[<-E]at h5 C D ⊢;have J:0<=A*y.card:=Sm C.1 (by omega);have K:A*y.card<=65536*4:=SK (by omega) (by omega) (by omega) (by omega);have w1:IntKind.wrap .i64 (A*y.card)=A*y.card:=aB (by omega) (by omega);have W:IntKind.wrap .i64 (A*y.card+x)=A*y.card+x:=aB (by omega) (by omega);simp only[sz,simprocAttr,h8,h10,rw',Z,z2,ci,h0,h5,dh,br,aP,rv,X,Y,R,T,U,V,w1,W];simp[St,sx,h0,h8,h9]
 ·rintro t' df g ⟨rfl,h0,h8,h5,-⟩;rw[QF (by omega),QF (by omega)]at h5;simp only[sz,simprocAttr,cL,h5]
section
variable {qv:AV}
theorem JQ{n:Nat}{D:ADf->Prop}(hn:n<=65536)(k:∀g',g'.h.get g.nx=Tq 1 ((List.replicate n 0).map ci)->g'.nx=g.nx+1->Up g.nx g g'->g'.lg=g.nx::g.lg->K (.hsl g.nx 0 0 n none) g') :
  (yk 1 8 [T8 0] (T8 (n:Int)) (T8 (n:Int)) g).sat K g D:=by
 have h1:n<=aS:=by unfold aS;omega
 have h2:n*8<=aS:=by unfold aS;omega
 have key:yk 1 8 [T8 0] (T8 (n:Int)) (T8 (n:Int)) g=.upd (.hsl g.nx 0 0 n none) (g.new (Tq 1 (eH n [T8 0]))):=by
  show (match bN aS (T8 (.ofNat n)) with
   | some cn=>match bN cn (T8 (.ofNat n)) with
    |some ln=>ak (Nat.ble (cn*8) aS) (OR.upd (.hsl g.nx 0 0 ln none) (g.new (Tq 1 (eH cn [T8 0])))) .fail
    |none=>.fail
   |none=>.fail)=_
  have a1:bN aS (T8 (.ofNat n))=some n:=by show ak (Nat.ble n aS) (some n) none=_;rw[aa,Qw (by simpa using h1)]
  have a2:bN n (T8 (.ofNat n))=some n:=by show ak (Nat.ble n n) (some n) none=_;rw[aa,Qw (by simp)]
  rw[a1];dsimp only;rw[a2];dsimp only;rw[aa,Qw (by simpa using h2)]
 rw[key];refine k _ ?_ (by simp) (Up.new (Qq _) _) (by simp);simp[a9,eH,ci]
theorem JP{n:Nat}{D:ADf->Prop}(hn:n<=65536)(k:∀g',g'.h.get g.nx=Tq 1 ((List.replicate n 0).map ci)->g'.nx=g.nx+1->Up g.nx g g'->K (.hsl g.nx 0 0 n none) g') :
  (yk 1 8 [T8 0] (T8 (n:Int)) (T8 (n:Int)) g).sat K g D:=JQ hn λg' a b c _=>k g' a b c
def S.O_(n:Net)(oth:List Int)(w:Nat):Int:=S.OC (S.OA (S.Oz n) oth) (S.OA (S.OE (S.Oz n) (w:Int)) oth)
def LW(B tg:Nat)(qv:AV):List (Nat×AV):=[(1,.tptr tg 1 [[qv]] 0 0),(2,T9 B),(3,T9 (B+2))]
theorem Ol[XOc]{B:Nat}{uu:AV}{j:Int}(hq:mr n vars oth mw m k qv)(hp:∀x∈vars,0<=x/\x<(vals.length:Int))(hvl:vars.length<=8)(hu:SlR P 0 g.h vals uu)(hP:∀i,P i->i<g.nx/\B+3<=i)(hB:B+2<g.nx)
  (gv:Own g B (.hsl (B+1) 0 0 vars.length none) 1 (l.map ci)) (g2:g.h.get (B+2)=Tq 1 [[.hsl (B+1) 0 0 vars.length none]]) (hl:l.length=vars.length)
  (ht:St t ((5,uu)::(4,T8 j)::(29,vv)::LW B tg qv)) (hvv:SlR NoP k .nil vars vv) (h31:tat t 31=T8 0) (h30:tat t 30=T8 (vars.length:Int))
  (fin:∀t g',St t ((5,uu)::(4,T8 j)::LW B tg qv)->g.nx<=g'.nx->(∀i,i<g.nx->i≠B+1->g'.h.get i=g.h.get i)->Up B g g'->Own g' B (.hsl (B+1) 0 0 vars.length none) 1 ((S.OA vals vars).map ci)->Q (.exit 2) t [] g'):wpL (wp C0 d rd cy) Q t [] g:=by
 have rv:=λh=>(hvv.tree (h':=h) (Qq _)).ints;have I:(S.OA vals vars).length=vars.length:=by simp[S.OA]
 simp only[cy];refine aM (m:=vars.length) (by omega) (λi t df g'=>df=[]/\St t ((5,uu)::(4,T8 j)::(29,vv)::LW B tg qv)/\g.nx<=g'.nx/\(∀i,i<g.nx->i≠B+1->g'.h.get i=g.h.get i)/\Up B g g'/\Own g' B (.hsl (B+1) 0 0 vars.length none) 1 (((S.OA vals vars).take i++l.drop i).map ci)) ⟨rfl,ht,Qq _,λ_ _ _=>rfl,Up.refl _ _,by simpa using gv⟩ h31 h30 (by decide)
  (by rintro i t df g v s (rfl|rfl|rfl) ⟨a1,⟨b1,b2,D,E,F,H,-⟩,c1⟩<;>exact⟨a1,by simp[St,LW,sx,b1,b2,D,E,F,H],c1⟩) ?_ ?_
 ·rintro i t df g1 hi ⟨rfl,⟨h5,h4,a,h1,h2,h3,-⟩,C,hf,f,A⟩ h31 h30;obtain⟨p,e,-,r⟩:=ae hi;obtain⟨K,R⟩:=hp p r;obtain⟨pn,rfl⟩:=QD K;obtain⟨x,hx,-,-⟩:=ae (l:=vals) (j:=pn) (by omega);have N:i<(vars.map ci).length:=by simpa using hi
  have O:(vars.map ci)[i]?=some (ci (pn:Int)):=by rw[Qv,e];rfl
  have L:pn<(vals.map ci).length:=by rw[QA];omega
  have M:(vals.map ci)[pn]?=some (ci x):=by rw[Qv,hx];rfl
  have w:SlR P 0 g1.h vals uu:=hu.far8 λi hi=>hf i (hP i hi).1 (by have:=hP i hi;omega);have ru:=w.ints;have gs:g1.h.get (B+2)=Tq 1 [[.hsl (B+1) 0 0 vars.length none]]:=by rw[hf _ hB (by omega),g2]
  have c:(S.OA vals vars)[i]?=some x:=by simp[S.OA,e,hx]
  obtain⟨y,J,-,-⟩:=ae (l:=l) (j:=i) (by omega);have e3:(((S.OA vals vars).take i++l.drop i).map ci).set i (ci x)=((S.OA vals vars).take (i+1)++l.drop (i+1)).map ci:=by
   rw[<-RX,RG _ _ (by simp;omega),QZ,RB (by omega),Rm,QG (by omega),Sp (by omega),R3,Rj];have:(S.OA vals vars)[i]=x:=by rw[Qr (by omega)]at c;injection c
   rw[this];rfl
  have q:(((S.OA vals vars).take i++l.drop i).map ci).length=vars.length:=by simp;omega
  have o:i<(((S.OA vals vars).take i++l.drop i).map ci).length:=by rw[q];exact hi
  have u:(((S.OA vals vars).take i++l.drop i).map ci)[i]?=some (ci y):=by rw[Qv,QL (by simp;omega),Ra];simp only[QZ,RB (show i<=(S.OA vals vars).length by omega),Rm,RY,J,RK]
  simp only[sz,simprocAttr,sf,a,h31,rv,N,O,ci,h3,gs,h5,ru,L,M,A.rows,o];refine pM (g:=_) (b:=B) (v:=.hsl (B+1) 0 0 vars.length none) (sz:=1) (n:=1) (i:=i) (off:=0) (x:=T8 x) (row:=ci y) (row':=ci x) (A.fr (by simp<;>omega) (λi' hi'=>by simp)) u rfl rfl rfl λg5 o5 n5 f5 u5=>?_;rw[e3]at o5;have z:∀i',i'≠B+1->g5.h.get i'=g1.h.get i':=λi' hi'=>by rw[f5 i' (by simpa [vid] using λh:B+1=i'=>hi' h.symm)];simp
  simp only[sy]at n5;simp only[sz,simprocAttr];refine⟨?_,?_⟩
  ·simp only[Q5,Q4,QU,QQ];exact aT (false::(TK (TJ (true::[])))) [] (by simp[All2,ah,aC]) (by decide) (by simp)
  refine⟨⟨by simp[St,LW,sx,h5,h4,a,h1,h2,h3],by first|omega| (simp<;>omega),λi' h1 h2=>by simp[z i' h2,hf i' h1 h2],f.trans ⟨λi' h=>by simp[z i' (by omega)],λi' h=>?_⟩,o5.fr (by simp<;>omega) λi' h=>by simp⟩,by simp[h31],by simp[h30]⟩;simp at h;rcases h with h|h
  ·rcases u5.2 i' h with h|h
   ·simp at h
   ·exact .inr h
  ·exact .inl h
 ·rintro t df g' ⟨rfl,⟨h5,h4,-,ht⟩,C,hf,f,gv1⟩;rw[QF (by omega),List.drop_of_length_le (by omega),QJ]at gv1;exact fin t g' ⟨h5,h4,ht⟩ C hf f gv1
theorem Om[XOc]{B t0:Nat}{ow ww uu:AV}{j:Int}(hr:NR n)(hb:SlR NoP k .nil n.nodes b)(ho:SlR NoP k .nil oth ow)(hp:∀x∈oth,0<=x/\x<(n.nodes.length:Int))(hol:oth.length<=8)(hin:InC (S.Oz n) vals)(hu:SlR P 0 g.h vals uu)
  (ht:St t ((5,uu)::(4,T8 j)::(47,ow)::(8,T8 0)::LW B tg (.tptr t0 6 [[T8 n.grain,b,vw,ow,ww,T8 m]] 0 0))) (h49:tat t 49=T8 0) (h48:tat t 48=T8 (oth.length:Int))
  (fin:∀t,St t ((8,T8 (S.OC (S.OA (S.Oz n) oth) (S.OA vals oth)))::(4,T8 j)::LW B tg (.tptr t0 6 [[T8 n.grain,b,vw,ow,ww,T8 m]] 0 0))->Q (.exit 4) t [] g):wpL (wp C0 d rd cz) Q t [] g:=by
 have ro:=λh=>(ho.tree (h':=h) (Qq _)).ints;have w:=hin.len;rw[aw]at w;have L:(S.OA (S.Oz n) oth).length=oth.length:=by simp[S.OA]
 have M:(S.OA vals oth).length=oth.length:=by simp[S.OA]
 have e:=bF (ps:=oth) hr.cs (λp a=>by rw[aw];exact hp p a);have hC:=d6 hin (λp a=>by rw[aw];exact hp p a);have ru:=hu.ints;simp only[cz];refine aM (m:=oth.length) (by omega) (λi t df g'=>df=[]/\g'=g/\St t ((5,uu)::(4,T8 j)::(47,ow)::(8,T8 (S.OC ((S.OA (S.Oz n) oth).take i) ((S.OA vals oth).take i)))::LW B tg (.tptr t0 6 [[T8 n.grain,b,vw,ow,ww,T8 m]] 0 0))) ⟨rfl,rfl,by simpa [S.OC] using ht⟩ h49 h48 (by decide)
  (by rintro i t df g v s (rfl|rfl|rfl) ⟨a1,a2,⟨b1,b2,E,F,H,I,b7,-⟩⟩<;>exact⟨a1,a2,by simp[St,LW,sx,b1,b2,E,F,H,I,b7]⟩) ?_ ?_
 ·rintro i t df g' hi ⟨rfl,rfl,⟨h5,h4,o,h8,h1,h2,h3,-⟩⟩ h49 h48;obtain⟨p,f,-,a⟩:=ae hi;obtain⟨U,V⟩:=hp p a;obtain⟨pn,y,rows,pa,ra,rfl,hy,W,X,Y,Z,z,r5⟩:=mN hb U V;obtain⟨x,hx,-,-⟩:=ae (l:=vals) (j:=pn) (by omega);have z1:i<(oth.map ci).length:=by simpa using hi
  have z2:(oth.map ci)[i]?=some (ci (pn:Int)):=by rw[Qv,f];rfl
  have y1:pn<(vals.map ci).length:=by rw[QA];omega
  have y2:(vals.map ci)[pn]?=some (ci x):=by rw[Qv,hx];rfl
  have q:(S.OA (S.Oz n) oth)[i]?=some y.card:=by simp[S.OA,f,r5]
  have r:(S.OA vals oth)[i]?=some x:=by simp[S.OA,f,hx]
  have c1:(S.OA (S.Oz n) oth).take (i+1)=(S.OA (S.Oz n) oth).take i++[y.card]:=by rw[QG (by omega)];congr 2;rw[Qr (by omega)]at q;injection q
  have J:(S.OA vals oth).take (i+1)=(S.OA vals oth).take i++[x]:=by rw[QG (by omega)];congr 2;rw[Qr (by omega)]at r;injection r
  have u:S.OC ((S.OA (S.Oz n) oth).take (i+1)) ((S.OA vals oth).take (i+1))=S.OC ((S.OA (S.Oz n) oth).take i) ((S.OA vals oth).take i)*y.card+x:=by rw[c1,J];exact tX (by simp;omega)
  have C:=bz (λc h=>e c (Q8 h)) (hC.take i);have D:=bz (λc h=>e c (Q8 h)) (hC.take (i+1));have q1:=bQ e (by omega) i;have q2:=bQ e (by omega) (i+1);rw[u]at D ⊢;have R:=hr.card y z;obtain⟨A,K⟩:∃A,A=S.OC ((S.OA (S.Oz n) oth).take i) ((S.OA vals oth).take i):=⟨_,rfl⟩;rw[<-K]at h8 C D ⊢;have N:0<=A*y.card:=Sm C.1 (by omega);have O:A*y.card<=65536*4:=SK (by omega) (by omega) (by omega) (by omega);have w1:IntKind.wrap .i64 (A*y.card)=A*y.card:=aB (by omega) (by omega);have w2:IntKind.wrap .i64 (A*y.card+x)=A*y.card+x:=aB (by omega) (by omega);simp only[sz,simprocAttr,o,h49,ro,z1,z2,ci,h8,h1,h5,dh,br,aP,W,X,Y,Z,ru,y1,y2,w1,w2];simp[St,LW,sx,h1,h2,h3,h4,h5,o,h48]
 ·rintro t df g' ⟨rfl,rfl,⟨-,h4,-,h8,ht⟩⟩;rw[QF (by omega),QF (by omega)]at h8;exact fin t ⟨h8,h4,ht⟩
theorem If[XOc]{id:Nat}{g0:G}(hd:0<d)(hr:NR n)(hq:mr n vars oth mw m k qv)(hp:∀x∈vars,0<=x/\x<(n.nodes.length:Int))(hvl:vars.length<=8)(hpo:∀x∈oth,0<=x/\x<(n.nodes.length:Int))(hol:oth.length<=8)(hmw:mw.length=S.OD n)
  (J:Nat->G->Prop) (hJ:∀j g g',(∀i,i<g0.nx->g'.h.get i=g.h.get i)->J j g->J j g')
  (step:∀(j:Nat) (w:Int) (u:AV) (g:G) (K':AV->G->Prop) (D:ADf->Prop),j<S.OD n->mw[j]?=some w->g0.nx<=g.nx->J j g->Own g g0.nx u 1 ((S.OA (S.OE (S.Oz n) (j:Int)) vars).map ci) ->
   (∀g',J (j+1) g'->g.nx<=g'.nx->(∀i,g0.nx<=i->i<g.nx->g'.h.get i=g.h.get i)->K' (.bool true) g')->(cE (I C0) d id [.agg [T8 (S.O_ n oth j),T8 w],u] g).sat K' g D)
  (h0:J 0 g0) (fin:∀g',J (S.OD n) g'->g0.nx<=g'.nx->K (.tup []) g') :
  wp C0 d none aW.code (fnQ C0 d aW.res K) (bk 0 [.yld id,.tptr tg 1 [[qv]] 0 0] .nil) [] g0:=by
 obtain⟨t0,b,vw,ow,ww,rfl,O,hb,hv,ho,v⟩:=hq;have V:=hr.l2;obtain⟨W1,W2,W3⟩:=hr.wl;have H:CsOk (S.Oz n):=⟨hr.cs,by rw[aw];omega⟩;have r:S.nc (S.Oz n)=S.OD n:=rfl;have lv:∀g:G,bY .slice vw g=.val (T8 (vars.length:Int)):=λg=>hv.len g;have lo:∀g:G,bY .slice ow g=.val (T8 (oth.length:Int)):=λg=>ho.len g;have rw_:=λh=>(v.tree (h':=h) (Qq _)).ints;obtain⟨B,hB⟩:∃B,B=g0.nx:=⟨_,rfl⟩;have F:∀g:G,AH (.yld id) g=.upd (T9 g.nx) (g.new (Tq 1 [[.yld id]])):=λg=>rfl;obtain⟨Qf,o⟩:∃Qf,Qf=fnQ C0 d aW.res K:=⟨_,rfl⟩;rw[<-o];simp only[sz,simprocAttr,aW,F];unfold eJ;refine jQ (P:=λt' df g'=>df=[]/\g'.nx=B+3/\g'.h.get B=Tq 1 [[.yld id]]/\Own g' B (.hsl (B+1) 0 0 vars.length none) 1 ((List.replicate vars.length 0).map ci)/\g'.h.get (B+2)=Tq 1 [[.hsl (B+1) 0 0 vars.length none]]/\Up B g0 g'/\St t' (LW B tg (.tptr t0 6 [[T8 n.grain,b,vw,ow,ww,T8 m]] 0 0))) ?_ ?_
 ·simp only[sz,simprocAttr,aP,dh,br,lv];refine JP (by omega) λg2 m2 n2 u2=>?_;simp only[sx]at m2 n2 u2;rw[<-hB]at m2 n2 u2;simp only[sz,simprocAttr,n2,<-hB];have U:Own g2 B (.hsl (B+1) 0 0 vars.length none) 1 ((List.replicate vars.length 0).map ci):=.inr ⟨B+1,0,false,by omega,by omega,by simp,m2⟩;refine⟨?_,U.fr (by simp) λi hi=>?_,?_,by simp[St,LW,sx]⟩
  ·rw[Qu (by omega),Qu (by omega),u2.1 B (by omega),G.new_h,hB,a9]
  ·have:i=B+1:=by simpa [vid] using hi.symm
   subst this;simp[OE,n2]
  ·exact ((Up.new (by omega) _).trans (u2.mono (by omega))).trans ((Up.new (by omega) _).trans (Up.put (by omega) _))
 rintro t df g1 ⟨rfl,n1,gB,gV,gS,U1,h1,h2,h3,-⟩;have C:J 0 g1:=hJ _ _ _ (hB ▸ U1).1 h0;simp only[sz,simprocAttr,h1,aP,dh,br];refine bL (vA (n:=n) hd (hb.tree (h':=g1.h) (Qq _)) (by omega)) λrc hrc=>?_;simp only[sz,simprocAttr];obtain⟨z,kz,hz⟩:=wG (d:=d) (g:=g1) (w:=rc) (cs:=S.Oz n) hd (hrc.sl g1.h);simp only[sz,simprocAttr,kz];refine yI (cs:=S.Oz n) (w:=z) H hz (by simp[sx]) (by decide) (by decide)
  (λj g'=>J j g'/\g'.h.get B=Tq 1 [[.yld id]]/\(∃l:List Int,l.length=vars.length/\∃lo,g'.h.get (B+1)=.cells 1 (l.map ci) 0 lo false)/\g'.h.get (B+2)=Tq 1 [[.hsl (B+1) 0 0 vars.length none]]) (λ_=>False) ?_ (λ_ _ _ h=>h) ?_ ?_ ?_ (λ_ h=>h.elim)
 ·rintro j g3 Z p ⟨a1,a2,e,a4⟩;rw[n1]at p;exact⟨hJ _ _ _ (λi hi=>p.1 i (by omega)) a1,by rw[p.1 _ (by omega),a2],by rw[p.1 _ (by omega)];exact e,by rw[p.1 _ (by omega),a4]⟩
 ·refine⟨C,gB,?_,gS⟩;rcases gV with⟨h,-⟩|⟨id,ep,lo,-,-,h,hg⟩
  ·cases h
  ·injection h with e1 e2;subst e1;subst e2;exact⟨_,by simp,lo,hg⟩
 ·rintro j uu g3 R ⟨a1,a2,e,a4⟩ N hu;rw[r]at R;rw[n1]at N hu;simp only[sz,simprocAttr,d9];refine⟨Fr.refl _,λg5 n5 f5 u5=>?_⟩;rw[n1]at f5 u5;obtain⟨l,hl,lo1,e⟩:=e;have L:=bu (λc hc=>(hr.cs c hc).1) (j:Int);have a:=h_ (S.Oz n) (j:Int);rw[aw]at a;have s:SlR (λi=>B+3+2<=i/\i<g3.nx) 0 g5.h (S.OE (S.Oz n) (j:Int)) uu:=hu.far8 λi hi=>f5 i (by omega);have gB5:g5.h.get B=Tq 1 [[.yld id]]:=by rw[u5.1 _ (by omega),a2]
  have gV5:Own g5 B (.hsl (B+1) 0 0 vars.length none) 1 (l.map ci):=.inr ⟨B+1,0,lo1,by omega,by omega,by rw[QA,hl],by rw[u5.1 _ (by omega),e]⟩;have gS5:g5.h.get (B+2)=Tq 1 [[.hsl (B+1) 0 0 vars.length none]]:=by rw[u5.1 _ (by omega),a4]
  have E:J j g5:=hJ _ _ _ (λi hi=>u5.1 i (by omega)) a1;simp only[sz,simprocAttr,d_,h1,aP,dh,br,lv];refine Ol (B:=B) (n:=n) (vars:=vars) (m:=m) (mw:=mw) (oth:=oth) (vals:=S.OE (S.Oz n) (j:Int)) (l:=l) (vv:=vw) (tg:=tg) (qv:=.tptr t0 6 [[T8 n.grain,b,vw,ow,ww,T8 m]] 0 0) (k:=k) (uu:=uu) (j:=(j:Int))
   ⟨t0,b,vw,ow,ww,rfl,O,hb,hv,ho,v⟩ (by rw[a];exact hp) hvl s (λi hi=>by omega) (by omega) gV5 gS5 hl (by simp[St,LW,sx,h1,h2,h3]) hv (by simp[sx]) (by simp[sx]) ?_
  rintro t6 A ⟨h5,h4,h1,h2,h3,-⟩ n6 y U6 gV6;have Q:SlR (λi=>B+3+2<=i/\i<g3.nx) 0 A.h (S.OE (S.Oz n) (j:Int)) uu:=s.far8 λi hi=>y i (by omega) (by omega);simp only[sz,simprocAttr,ec,h1,aP,dh,br,lo];refine Om (B:=B) (n:=n) (oth:=oth) (vals:=S.OE (S.Oz n) (j:Int)) (tg:=tg) (k:=k) (uu:=uu) (j:=(j:Int)) (t0:=t0) (b:=b) (vw:=vw) (ow:=ow) (ww:=ww) (m:=m) hr hb ho hpo hol L Q (by simp[St,LW,sx,h1,h2,h3,h4,h5]) (by simp[sx]) (by simp[sx]) ?_;rintro t7 ⟨h8,h4,h1,h2,h3,-⟩;have gB6:A.h.get B=Tq 1 [[.yld id]]:=by rw[y _ (by omega) (by omega),gB5]
  have gS6:A.h.get (B+2)=Tq 1 [[.hsl (B+1) 0 0 vars.length none]]:=by rw[y _ (by omega) (by omega),gS5]
  obtain⟨w,hw,-,-⟩:=ae (l:=mw) (j:=j) (by omega);have X:j<(mw.map ci).length:=by rw[QA];omega
  have Y:(mw.map ci)[j]?=some (ci w):=by rw[Qv,hw];rfl
  simp only[sz,simprocAttr,sf,ea,h2,gB6,h8,h1,aP,dh,br,rw_,h4,X,Y,ci,h3,gS6];show (cE (I C0) d id [.agg [T8 (S.O_ n oth j),T8 w],.hsl (B+1) 0 0 vars.length none] _).sat _ _ _;have M:(S.OA (S.OE (S.Oz n) (j:Int)) vars).length=vars.length:=by simp[S.OA]
  refine step j w (.hsl (B+1) 0 0 vars.length none) _ _ _ R hw ?_ (hJ _ _ _ (λi hi=>by simp[U6.1 i (by omega)]) E) ?_ λg8 hJ8 n8 f8=>?_
  ·simp;omega
  ·exact hB ▸ gV6.fr (by simp<;>omega) λi hi=>by simp
  simp only[sy]at n8 f8;simp only[sz,simprocAttr,sf];refine⟨?_,?_⟩
  ·simp only[Q5,Q4,QU,QQ];refine aT (false::(TK (TH (true::(false::[]))))) [] ?_ (by decide) (by simp);have fd:∀(t:T) (g:G) (f:Od) (xs:List Od),f.get t=.yld id->(SO.foot C0 t g (.dyn f xs)).sr=[]:=λt g f xs h=>by simp only[SO.foot,h];rfl
   simp[All2,ah,aC,fd,sx]
  refine⟨by simp;omega,λi h1 h2=>?_,.inl ⟨rfl,hJ _ _ _ (λi hi=>by simp) hJ8,by rw[f8 _ (by omega) (by omega),gB6],?_,by rw[f8 _ (by omega) (by omega),gS6]⟩⟩
  ·rw[n1]at h1;simp[f8 i (by omega) (by omega),y i h2 (by omega)]
  ·rw[f8 _ (by omega) (by omega)];rcases gV6 with⟨h,-⟩|⟨id,ep,lo,-,-,h,hg⟩
   ·cases h
   ·injection h with e1 e2;subst e1;subst e2;exact⟨_,M,lo,hg⟩
 ·rintro g' ⟨a1,a2,e,a4⟩ W q;rw[r]at a1;rw[n1]at W q;rw[o];show kg C0 d [] t [.mark g1.nx] g' K;refine jB (by rw[n1];exact q) ?_;exact fin _ (hJ _ _ _ (λi hi=>by rw[G.put_h,ax _ _ _ (by omega)]) a1) (by simp;omega)
theorem Ek[XOc]:C0.ext 132=none:=by kernel_rfl
theorem tu[XOc]{nt p q r:Nat}{ca cb:SC}{df:List ADf}(hd:0<d)(hr:NR n)(hqv:mr n vars oth mw m k qv)(hpv:∀x∈vars,0<=x/\x<(n.nodes.length:Int))(hvl:vars.length<=8)(hpo:∀x∈oth,0<=x/\x<(n.nodes.length:Int))(hol:oth.length<=8)(hmw:mw.length=S.OD n)
  (hv:tat t r=.clo 132 [] [.tptr tg 1 [[qv]] 0 0]) (hp:p<nt) (hq:q<nt)
  (J:Nat->G->Prop) (hJ:∀j g1 g2,(∀i,i<g.nx->g2.h.get i=g1.h.get i)->J j g1->J j g2) (h0:J 0 g)
  (step:∀(j:Nat) (w:Int) (u:AV) (g1:G),j<S.OD n->mw[j]?=some w->J j g1->g.nx+2<=g1.nx->Own g1 (g.nx+2) u 1 ((S.OA (S.OE (S.Oz n) (j:Int)) vars).map ci) ->
   wp C0 d (some (g.nx+1)) ca (λe t1 df g1'=>e=.norm/\df=[]/\Fr g1 g1'/\∀g2:G,g2.nx=g1'.nx->(∀i,i≠g.nx+1->g2.h.get i=g1'.h.get i) ->
    wp C0 d (some (g.nx+1)) cb (λe _ df g3=>df=[]/\RowQ g.nx g2 g3 e (J (j+1) g3) False) t1 [] g2)
    (ei (ei t p (.agg [T8 (S.O_ n oth j),T8 w])) q u) [] g1)
  (fin:∀g',J (S.OD n) g'->g.nx+2<=g'.nx->g'.h.get g.nx=.dfr true->Q .norm t (.mark g.nx::df) g') :
  wp C0 d none (.rng nt (.t r) [p,q] ca cb) Q t df g:=by
 refine tE (fn:=132) (first:=[]) (cap:=[.tptr tg 1 [[qv]] 0 0]) (s:=aW) hv Ek lF (by simp[aW]) ?_;intro assign body ha z;have e1:((g.new (.dfr true)).new (.loop nt t [p,q] assign body g.nx .ready none)).nx=g.nx+2:=by simp
 refine If (g0:=(g.new (.dfr true)).new (.loop nt t [p,q] assign body g.nx .ready none)) (id:=g.nx+1) hd hr hqv hpv hvl hpo hol hmw
  (λj g'=>J j g'/\g'.h.get g.nx=.dfr true/\g'.h.get (g.nx+1)=.loop nt t [p,q] assign body g.nx .ready none) ?_ ?_ ?_ ?_
 ·rintro j h h' f ⟨a1,a2,b⟩;rw[e1]at f;exact⟨hJ j h h' (λi hi=>f i (by omega)) a1,by rw[f _ (by omega),a2],by rw[f _ (by omega),b]⟩
 ·rintro j w u g1 K' D H hw l ⟨a1,a2,b⟩ hsl kk;rw[e1]at l kk hsl;refine Ai b ha z (t':=ei (ei t p (.agg [T8 (S.O_ n oth j),T8 w])) q u) ?_ ?_
  ·simp only[cY,aa,Rr,Qw hp,Qw hq];rfl
  ·refine cw _ (step j w u g1 H hw a1 (by omega) hsl) ?_;rintro e t1 df g1' ⟨rfl,rfl,a,h⟩;have c:g.nx+1<g1.nx:=by omega
   have hl:g.nx+1<g1'.nx:=QR c a.1;have o:g1'.h.get g.nx=.dfr true:=by rw[a.2 _ (by omega),a2]
   have v:g1'.h.get (g.nx+1)=.loop nt t [p,q] assign body g.nx .ready none:=by rw[a.2 _ c,b]
   refine⟨rfl,rfl,v,?_⟩;refine cw _ (h (g1'.put (g.nx+1) (.loop nt t [p,q] assign body g.nx .busy none)) (by simp) (λi hi=>by simp[OE,hi])) ?_;rintro e I df g3 ⟨rfl,⟨b2,y,b1⟩⟩;have C:g3.h.get (g.nx+1)=.loop nt t [p,q] assign body g.nx .busy none:=by rw[y _ (by omega) (by simpa using hl)];simp[OE]
   have E:g3.h.get g.nx=.dfr true:=by rw[y _ (by omega) (by simp;omega)];simp[OE,o]
   refine⟨rfl,C,?_⟩;have B:g1'.nx<=g3.nx:=by simpa using b2
   have F:=a.1;rcases b1 with⟨rfl,b1⟩|⟨rfl,b1⟩
   ·refine .inl ⟨rfl,kk _ ⟨hJ _ g3 _ (λi hi=>by rw[G.put_h,ax _ _ _ (by omega)]) b1,?_,?_⟩ (by simp;omega) λi h1 h2=>?_⟩
    ·simp[OE,E]
    ·simp[OE]
    ·have A:¬i=g.nx+1:=by omega
     have:=y i (by omega) (by simp;omega);simp[OE,A]at this ⊢;rw[this,a.2 i h2]
   ·exact b1.elim
 ·refine⟨hJ 0 g _ (λi hi=>by rw[G.new_h,ax _ _ _ (by simp;omega),G.new_h,ax _ _ _ (by omega)]) h0,?_,?_⟩
  ·simp[OE]
  ·simp[OE]
 ·rintro g' ⟨a1,a2,b⟩ l;rw[e1]at l;refine⟨_,_,_,_,_,_,.inl ⟨b,fin _ (hJ _ g' _ (λi hi=>by rw[G.put_h,ax _ _ _ (by omega)]) a1) (by simpa using l) ?_⟩⟩;simp[OE,a2]
def WoV(q:AV)(t0:Nat):VS:=λP k h v=>t0<=k/\((∃id,v=.clo 132 [] [T9 id]/\P id/\h.get id=Tq 1 [[q]])\/∃tg,v=.clo 132 [] [.tptr tg 1 [[q]] 0 0]/\tg<=k)
theorem NL{t0 sz off:Nat}{rows:List (List AV)}(hq:q=.tptr t0 sz rows i off):Snb (WoV q t0) 2:=by
 subst hq;refine⟨λ{P k h v n} d r hn=>?_,λ{k h v n} r hn=>?_⟩
 ·obtain⟨n,rfl⟩:∃q,n=q+3:=⟨n - 3,by omega⟩;obtain⟨r0,⟨id,rfl,-,hg⟩|⟨tg,rfl,ht⟩⟩:=r
  ·refine⟨.clo 132 [] [.tptr (Nat.max d (Nat.max (Nat.max t0 0) 0)) 1 [[.tptr t0 sz rows i off]] 0 0],?_,by omega,.inr ⟨_,rfl,?_⟩⟩
   ·simp only[Hx.snap,aF,hg,show Nat.beq 0 0=true from rfl,eM,ge]
    rfl
   ·show max d (max (max t0 0) 0)<=max k d;omega
  ·exact⟨.clo 132 [] [.tptr tg 1 [[.tptr t0 sz rows i off]] 0 0],rfl,by omega,.inr ⟨tg,rfl,by omega⟩⟩
 ·obtain⟨n,rfl⟩:∃q,n=q+3:=⟨n - 3,by omega⟩;obtain⟨r0,⟨id,-,h,-⟩|⟨tg,rfl,ht⟩⟩:=r
  ·exact h.elim
  ·exact⟨Nat.max tg 0,rfl,by show max tg 0<=k;omega⟩
theorem tB[XOc](hd:k<d)(hq:mr n vars oth mw m k q) :
  ∃tg,ay C0 d 100 [q] g=.val (.clo 132 [] [.tptr tg 1 [[q]] 0 0]):=by
 obtain⟨t0,b,vw,ow,ww,e0,ht,hb,hv,ho,c⟩:=hq;have key:∃r,ay C0 d 100 [q] g=.val r/\WoV q t0 NoP k .nil r:=by
  rw[lB];refine bK mY (xs:=[q]) (by rw[e0];simp only[aF,eA]) (by simp[dB]) (NL e0) (by decide) hd ?_;have a:∀g:G,AH q g=.upd (T9 g.nx) (g.new (Tq 1 [[q]])):=λg=>by rw[e0];rfl
  simp only[sz,simprocAttr,dB,fT,a];exact⟨λ_=>True,ht,.inl ⟨0,rfl,trivial,by simp[OE]⟩⟩
 obtain⟨r,hr,-,⟨id,-,h,-⟩|⟨tg,rfl,-⟩⟩:=key
 ·exact h.elim
 ·exact⟨tg,hr⟩
end
theorem qG[XOc]{P2:Nat->Prop}{l2:List Int}(hd:0<d)(hl:SlR P k g.h l v)(hl2:SlR P2 k2 g.h l2 w):ay C0 d 18 [v,w] g=.val (.bool (decide (l=l2))):=by
 obtain⟨v',ev,hv⟩:=bj hl d;obtain⟨w',ew,hw⟩:=bj hl2 d;have rv:=λh=>(hv h).ints;have rw':=λh=>(hw h).ints;have lv:=(hv .nil).len;have lw:=(hw .nil).len;have C:=hl.1;rw[nP];refine l8 qj (xs:=[v',w']) (by simp only[aF,ev,ew]) (by simp[dg]) hd ?_
 by_cases c:l.length=l2.length
 ·have c':(l.length:Int)=(l2.length:Int):=by omega
  simp only[sz,simprocAttr,dg,lv,lw,c'];simp only[iB];refine aM (m:=l.length) (by omega) (λj t df g=>df=[]/\St t [(0,v'),(1,w'),(11,v')]/\l.take j=l2.take j) ⟨rfl,by simp[St,sx],by simp⟩ (by simp[sx]) (by simp[sx,c']) (by decide) (by rintro j t df g v s (rfl|rfl|rfl)<;>simp[St,sx]) ?_ ?_
  ·rintro j t df g r ⟨rfl,⟨h0,h1,n,-⟩,a⟩ f o;obtain⟨y,i,p,-⟩:=ae r;obtain⟨z,hz,q,-⟩:=ae (l:=l2) (j:=j) (by omega);have u:j<(l.map ci).length:=by simpa using r
   have x:(l.map ci)[j]?=some (ci y):=by rw[Qv,i];rfl
   have A:j<(l2.map ci).length:=by rw[QA];omega
   have B:(l2.map ci)[j]?=some (ci z):=by rw[Qv,hz];rfl
   by_cases e:y=z
   ·simp only[sz,simprocAttr,h0,h1,f,rv,rw',u,x,A,B,ci,e];simp[St,sx,h0,h1,n,o,p,q,a,e]
   ·have b:l≠l2:=λh=>e (by rw[h,hz]at i;injection i with i;exact i.symm);simp only[sz,simprocAttr,h0,h1,f,rv,rw',u,x,A,B,ci,e,b]
  ·rintro t df g ⟨rfl,-,a⟩;rw[QV,c,QV]at a;simp only[sz,simprocAttr,iC,a]
 ·have c':¬(l.length:Int)=(l2.length:Int):=by omega
  have b:l≠l2:=λh=>c (by rw[h]);simp only[sz,simprocAttr,dg,lv,lw,c',b]
theorem Ml{b:Nat}(hu:Own g b u 1 (l.map ci)){n:Nat}(hn:n<=l.length)(hl:l.length<9223372036854775808) :
  ∃y,kG 1 u none (some (T8 (n:Int))) g=.val y/\∀(h':H),(∀i,vid u=some i->h'.get i=g.h.get i)->SlR (λi=>vid u=some i) 0 h' (l.take n) y:=by
 by_cases hne:l=[]
 ·subst hne;have:n=0:=by simpa using hn
  subst this;rcases hu with⟨rfl,-⟩|⟨id,ep,lo,h1,h2,rfl,h3⟩
  ·exact⟨.nils,rfl,λh' _=>⟨hl,rfl⟩⟩
  ·simp only[kG,jj,h3,Q2,Rz,aq,Rn,aa,Q6,Qq,if_true,aQ,RT,R6];simp only[bN];cases lo
   ·exact⟨.esl,rfl,λh' _=>⟨hl,rfl⟩⟩
   ·exact⟨.tsl 0 1 [],rfl,λh' _=>⟨hl,by decide,.inl rfl,trivial⟩⟩
 ·obtain⟨y,h1,-,h2⟩:=Mm (α:=Int) hu (by simpa using hne) (n:=n) (by simpa using hn);refine⟨y,h1,λh' hh=>h2 _ 0 l h' hh ?_⟩;have:=hu.sl (α:=Int) (P:=λi=>vid u=some i) (k:=0) hl (Oz (λa=>aG.2 rfl) l) λi hi=>hi;exact this.far8 λi hi=>hh i hi
def S.Pp(l:List Int)(i x:Int):List Int:=l.set i.toNat (max (l[i.toNat]?.getD 0) x)
def S.OK(f:Nat->Int)(N:Nat)(c:Nat->Bool)(x:Nat->Int):Nat->List Int
 |0=>List.replicate N 0
 |j+1=>if c j then S.Pp (S.OK f N c x j) (f j) (x j) else S.OK f N c x j
theorem gR(f:Nat->Int)(N:Nat)(c:Nat->Bool)(x:Nat->Int):∀j,(S.OK f N c x j).length=N
 |0=>by simp[S.OK]
 | j+1=>by
  rw[S.OK]
  split
  ·rw[S.Pp,List.length_set,gR f N c x j]
  ·exact gR f N c x j
theorem Dy:∀{i:Nat} {y:Int},i<l.length->(l.set i y).sum=l.sum - l[i]?.getD 0+y:=by
 induction l with
 |nil=>intro i y h;simp at h
 | cons a l ih =>
  intro i y h;cases i with
  |zero=>simp;omega
  | succ i =>
   simp only[S1,Sb,List.getElem?_cons_succ];rw[ih (by simpa using h)];omega
theorem uX{f:Nat->Int}{N:Nat}{c:Nat->Bool}{x:Nat->Int}{M:Int}{W:Nat}(hf:∀j,j<W->0<=f j/\f j<(N:Int))(hx:∀j,j<W->0<=x j/\x j<=M):∀j,j<=W->(∀y∈S.OK f N c x j,0<=y)/\(S.OK f N c x j).sum<=M*j
 | 0,_=>by simp only[S.OK];exact⟨λy k=>by rw[(S0.1 k).2];exact SQ _,by simp⟩
 | j+1,h=>by
  obtain⟨a1,a2⟩:=uX (c:=c) hf hx j (by omega);have d:=hx j (by omega);have b:=hf j (by omega);have a:M*((j+1:Nat):Int)=M*j+M:=by rw[Int.natCast_add,Int.mul_add];simp
  rw[S.OK,a]
  split
  ·have hlt:(f j).toNat<(S.OK f N c x j).length:=by rw[gR];omega
   have hg:(S.OK f N c x j)[(f j).toNat]?.getD 0=(S.OK f N c x j)[(f j).toNat]:=by rw[Qr hlt];rfl
   have e:=a1 _ (RS hlt);refine⟨λy k=>?_,?_⟩
   ·rcases List.mem_or_eq_of_mem_set k with k|rfl
    ·exact a1 y k
    ·omega
   ·rw[S.Pp,Dy hlt,hg];omega
  ·exact⟨a1,by omega⟩
def S.Ph(n:Net)(vars l:List Int)(w:Nat):Bool:=decide ((S.OA (S.OE (S.Oz n) (w:Int)) vars).take l.length=l)
def S.OW(n:Net)(oth:List Int):Nat:=(S.OB (S.OA (S.Oz n) oth)).toNat
def S.Pn(n:Net)(vars oth mw l:List Int):Int:=(S.OK (S.O_ n oth) (S.OW n oth) (S.Ph n vars l) (λw=>mw[w]?.getD 0) (S.OD n)).sum
theorem zu(h:l[j]?=some x):(l.take (j+1)).sum=(l.take j).sum+x:=by have k:=(Qs.1 h).1;rw[QG k];rw[Qr k]at h;injection h with h;rw[h,S3];simp
theorem KG(h:∀y∈l,0<=y):∀j,0<=(l.take j).sum/\(l.take j).sum<=l.sum:=by
 induction l with
 |nil=>intro j;simp
 | cons a l ih =>
  intro j;have ha:=h a (by simp);have ih':=ih λy hy=>h y (by simp[hy]);cases j with
  |zero=>have:=ih' l.length;rw[QV]at this;simp;omega
  |succ j=>have:=ih' j;simp;omega
def LBd(p:Nat)(u:AV):List (Nat×AV):=[(3,T9 0),(5,T9 2),(6,T9 p),(7,u)]
theorem NW[XOc]{p:Nat}{gr:List Int}{w':AV}{f:Int}(hd:0<d)(hw:∀h,SlR NoP k2 h l w')(hl:l.length<=vals.length)(hvl:vals.length<=8)(hf:0<=f/\f<(N:Int))(hgl:gr.length=N)
  (g0:g.h.get 0=Tq 1 [[w']]) (g1:∃lo,g.h.get 1=.cells 1 (gr.map ci) 0 lo false) (g2:g.h.get 2=Tq 1 [[.hsl 1 0 0 N none]]) (gp:g.h.get p=Tq 2 [[T8 f,T8 x]]) (hu:Own g 5 u 1 (vals.map ci)) (hn:5<=g.nx)
  (ht:St t (LBd p u))
  (fin:∀t g',g.nx<=g'.nx->(∀i,i<g.nx->i≠1->g'.h.get i=g.h.get i)->(∃lo,g'.h.get 1=.cells 1 ((if decide (vals.take l.length=l)=true then S.Pp gr f x else gr).map ci) 0 lo false)->Q .norm t [] g'):wp C0 d rd bU Q t [] g:=by
 obtain⟨h3,h5,h6,h7,-⟩:=ht;obtain⟨lo,g1⟩:=g1;have lw:∀g:G,bY .slice w' g=.val (T8 (l.length:Int)):=λg=>(hw .nil).len g;obtain⟨y,e,q⟩:=Ml (g:=aJ g []) (b:=5) (u:=u) (l:=vals) (n:=l.length) (hu.fr (by simp) λi hi=>by simp) hl (by omega);have ke:=qG (d:=d) (g:=aJ g []) (w:=w') hd (q _ λi hi=>rfl) (hw _);have a:Own g 0 (.hsl 1 0 0 N none) 1 (gr.map ci):=.inr ⟨1,0,lo,by omega,by omega,by rw[QA,hgl],g1⟩;obtain⟨fn,rfl⟩:=QD hf.1;obtain⟨z,hz,-,-⟩:=ae (l:=gr) (j:=fn) (by omega);have r:fn<(gr.map ci).length:=by rw[QA];omega
 have m:(gr.map ci)[fn]?=some (ci z):=by rw[Qv,hz];rfl
 have k:S.Pp gr (fn:Int) x=gr.set fn (max z x):=by rw[S.Pp,S6,hz];rfl
 by_cases c:vals.take l.length=l
 ·simp only[sz,simprocAttr,bU,h7,h3,g0,lw,Sn,Sd,e,ke,c];simp only[sz,simprocAttr,sf,h5,h6,g2,gp,a.rows,r,m,ci];refine ct (b:=0) (v:=.hsl 1 0 0 N none) (sz:=1) (n:=1) (i:=fn) (off:=0) (x:=T8 (max z x)) (row:=ci z) (row':=ci (max z x)) (a.fr (by simp<;>omega) (λi' hi'=>by simp)) m rfl rfl rfl λg5 o5 n5 f5=>?_;rw[<-RX,<-k]at o5;have o:∀i',i'≠1->g5.h.get i'=g.h.get i':=λi' hi'=>by rw[f5 i' (by simpa [vid] using λh:1=i'=>hi' h.symm)];simp
  simp only[sy]at n5;simp only[sz,simprocAttr];refine⟨?_,?_⟩
  ·simp only[Q5,Q4,QU,QQ];exact aT (TJ (TH (true::[]))) [] (by simp[All2,ah,aC]) (by decide) (by simp)
  refine fin _ _ (by first|omega| (simp<;>omega)) (λi' h1 h2=>by simp[o i' h2]) ?_;rw[Qw (by simpa using c)];rcases o5 with⟨h,-⟩|⟨id,ep,lo2,-,-,h,hg⟩
  ·cases h
  ·injection h with e1 e2;subst e1;subst e2;exact⟨lo2,by simpa using hg⟩
 ·simp only[sz,simprocAttr,bU,h7,h3,g0,lw,Sn,Sd,e,ke,c];exact fin _ g (Qq _) (λ_ _ _=>rfl) ⟨lo,by rw[Qu (by simpa using c)];exact g1⟩
theorem IF[XOc](hd:k<d)(hr:NR n)(hq:mr n vars oth mw m k q)(hpv:∀x∈vars,0<=x/\x<(n.nodes.length:Int))(hvl:vars.length<=8)(hpo:∀x∈oth,0<=x/\x<(n.nodes.length:Int))(hol:oth.length<=8)(hmw:mw.length=S.OD n)(hmb:∀x∈mw,0<=x/\x<=167961600000000)
  (hw:SlR P k2 g.h l w) (hl:l.length<=vars.length):ay C0 d 58 [q,w] g=.val (T8 (S.Pn n vars oth mw l)):=by
 have Y:=hq;obtain⟨t0,b,vw,ow,ww,e0,ht,hb,hv,ho,h6⟩:=Y;obtain⟨w',e2,C⟩:=bj hw d;have lw:∀g:G,bY .slice w' g=.val (T8 (l.length:Int)):=λg=>(C .nil).len g;have z:=bF (ps:=oth) hr.cs (λp hpm=>by rw[aw];exact hpo p hpm);have h5:(S.OA (S.Oz n) oth).length=oth.length:=by simp[S.OA]
 have T:CsOk (S.OA (S.Oz n) oth):=⟨z,by omega⟩;obtain⟨N1,N2,N3⟩:=T.nc;have hN:S.nc (S.OA (S.Oz n) oth)=S.OW n oth:=rfl;rw[hN]at N1 N2 N3;have o:0<d+1:=RA d;rw[my];refine jf nX (xs:=[q,w']) (by rw[e0];simp only[aF,e2,eA]) (by simp[dV]) (by omega) ?_;subst e0;have rbx:=uJ (C .nil);simp only[sz,simprocAttr,dV,gC,rbx,dh,br,aP];refine bL (ve o hq hpo (ho.tree (Qq _)) hol) λrc hrc=>?_;simp only[sz,simprocAttr,rP o (hrc.sl .nil |>.wide (P:=NoP) (k':=0) (Qq 0))];rw[lj z (by omega),<-N3];refine JP N2 λg1 m1 n1 u1=>?_;rw[show (G.empty.new (Tq 1 [[w']])).nx=1 from rfl]at m1 n1 u1 ⊢;have b1:g1.h.get 0=Tq 1 [[w']]:=by rw[u1.1 0 (by omega)];simp[OE,show G.empty.nx=0 from rfl]
 clear u1;simp only[sz,simprocAttr,n1];refine bL (Q:=λr=>∃tg,r=.clo 132 [] [.tptr tg 1 [[.tptr t0 6 [[T8 n.grain,b,vw,ow,ww,T8 m]] 0 0]] 0 0]) (by obtain⟨tg,h⟩:=tB (g:=(g1.new (Tq 1 [[.nils]])).put (1+1) (Tq 1 [[.hsl 1 0 0 (S.OW n oth) none]])) (Nat.lt_succ_of_lt hd) hq;exact⟨_,h,tg,rfl⟩) ?_;rintro r ⟨tg,rfl⟩;have c0:((g1.new (Tq 1 [[.nils]])).put (1+1) (Tq 1 [[.hsl 1 0 0 (S.OW n oth) none]])).h.get 0=Tq 1 [[w']]:=by simp[OE,n1,b1]
 have c1:((g1.new (Tq 1 [[.nils]])).put (1+1) (Tq 1 [[.hsl 1 0 0 (S.OW n oth) none]])).h.get 1=Tq 1 ((List.replicate (S.OW n oth) 0).map ci):=by rw[G.put_h,ax _ _ _ (by omega),G.new_h,ax _ _ _ (by omega),m1]
 have c2:((g1.new (Tq 1 [[.nils]])).put (1+1) (Tq 1 [[.hsl 1 0 0 (S.OW n oth) none]])).h.get 2=Tq 1 [[.hsl 1 0 0 (S.OW n oth) none]]:=by simp[OE]
 have J:((g1.new (Tq 1 [[.nils]])).put (1+1) (Tq 1 [[.hsl 1 0 0 (S.OW n oth) none]])).nx=3:=by simp[n1]
 generalize (g1.new (Tq 1 [[.nils]])).put (1+1) (Tq 1 [[.hsl 1 0 0 (S.OW n oth) none]])=g2 at c0 c1 c2 J ⊢;simp only[sz,simprocAttr];refine tu (n:=n) (vars:=vars) (oth:=oth) (mw:=mw) (m:=m) (k:=k) (tg:=tg) o hr hq hpv hvl hpo hol hmw (by simp[sx]) (by decide) (by decide)
  (λj g'=>g'.h.get 0=Tq 1 [[w']]/\(∃lo,g'.h.get 1=.cells 1 ((S.OK (S.O_ n oth) (S.OW n oth) (S.Ph n vars l) (λw=>mw[w]?.getD 0) j).map ci) 0 lo false)/\g'.h.get 2=Tq 1 [[.hsl 1 0 0 (S.OW n oth) none]]) ?_ ⟨c0,⟨false,c1⟩,c2⟩ ?_ ?_
 ·rintro j g3 g4 R ⟨a1,a2,D⟩;exact⟨by rw[R _ (by omega),a1],by rw[R _ (by omega)];exact a2,by rw[R _ (by omega),D]⟩
 ·rintro j x u g3 H hx ⟨a1,⟨lo,a2⟩,D⟩ X hu;rw[J]at X hu;simp only[sz,simprocAttr,fM];refine⟨?_,λg5 n5 f5=>?_⟩
  ·exact Jc _ _ _
  rw[J]at f5 ⊢;have h3:(S.OA (S.OE (S.Oz n) (j:Int)) vars).length=vars.length:=by simp[S.OA]
  have B:=bu (λc hc=>(hr.cs c hc).1) (j:Int);have hf:=bz z (d6 B (λp hpm=>by rw[aw];exact hpo p hpm));rw[<-N3]at hf;have E:∀i,i<g3.nx->i≠4->g5.h.get i=g3.h.get i:=λi h1 h2=>by rw[f5 i (by omega),Qu (by omega),Qu (by omega)]
  refine NW (p:=g3.nx) (N:=S.OW n oth) (vals:=S.OA (S.OE (S.Oz n) (j:Int)) vars) (l:=l) (gr:=S.OK (S.O_ n oth) (S.OW n oth) (S.Ph n vars l) (λw=>mw[w]?.getD 0) j) (w':=w') (u:=u) (f:=S.O_ n oth j) (x:=x) o C (by omega) (by omega) hf (gR _ _ _ _ _) (by rw[E 0 (by omega) (by omega),a1]) ⟨lo,by rw[E 1 (by omega) (by omega),a2]⟩ (by rw[E 2 (by omega) (by omega),D]) (by rw[f5 _ (by omega),Qw rfl]) (hu.fr (by omega) λi hi=>by have:=hu.lt hi;exact E i (by omega) (by omega)) (by omega) (by simp[St,LBd,sx]) ?_;intro t6 g6 n6 K h7;refine⟨rfl,n6,λi h1 h2=>K i h2 (by omega),.inl ⟨rfl,by rw[K 0 (by omega) (by omega),E 0 (by omega) (by omega),a1],?_,by rw[K 2 (by omega) (by omega),E 2 (by omega) (by omega),D]⟩⟩;rw[S.OK,hx];exact h7
 ·rintro g' ⟨a1,⟨lo,a2⟩,D⟩ hn U;obtain⟨GR,e⟩:∃GR,GR=S.OK (S.O_ n oth) (S.OW n oth) (S.Ph n vars l) (λw=>mw[w]?.getD 0) (S.OD n):=⟨_,rfl⟩;rw[<-e]at a2;have hB:=uX (f:=S.O_ n oth) (N:=S.OW n oth) (c:=S.Ph n vars l) (x:=λw=>mw[w]?.getD 0) (M:=167961600000000) (W:=S.OD n) (λj _=>by
   have B:=bu (λc hc=>(hr.cs c hc).1) (j:Int);have hf:=bz z (d6 B (λp hpm=>by rw[aw];exact hpo p hpm));rw[<-N3]at hf;exact hf) (λj H=>by
   obtain⟨y,I,-,Z⟩:=ae (l:=mw) (j:=j) (by omega);rw[I];exact hmb y Z) (S.OD n) (Qq _)
  rw[<-e]at hB;have h4:=hr.wl.2.1;have V:GR.length=S.OW n oth:=by rw[e,gR]
  have F:S.Pn n vars oth mw l=GR.sum:=by rw[e];rfl
  have hO:Own g' 0 (.hsl 1 0 0 (S.OW n oth) none) 1 (GR.map ci):=.inr ⟨1,0,lo,by omega,by omega,by rw[QA,V],a2⟩;have lG:bY .slice (.hsl 1 0 0 (S.OW n oth) none) g'=.val (T8 (GR.length:Int)):=by have:=(hO.sl (α:=Int) (P:=λ_=>True) (k:=0) (by omega) (Oz (λa=>aG.2 rfl) _) λ_ _=>trivial).len g';exact this
  have ru:=hO.rows;simp only[sz,simprocAttr,fP,D,lG,fN];refine aM (m:=GR.length) (by omega) (λj t df g=>df=[.mark g2.nx]/\g=g'/\St t [(41,.hsl 1 0 0 (S.OW n oth) none),(8,T8 ((GR.take j).sum))]) ⟨rfl,rfl,by simp[St,sx]⟩ (by simp[sx]) (by simp[sx]) (by decide)
   (by rintro j t df g v s (rfl|rfl|rfl)<;>simp[sx,St]) ?_ ?_
  ·rintro j t df g H ⟨rfl,rfl,A,h8,-⟩ O L;obtain⟨y,I,-,-⟩:=ae H;have z1:j<(GR.map ci).length:=by simpa using H
   have z2:(GR.map ci)[j]?=some (ci y):=by rw[Qv,I];rfl
   have s1:=zu I;have s2:=KG hB.1 (j+1);have w1:IntKind.wrap .i64 ((GR.take j).sum+y)=(GR.take (j+1)).sum:=by rw[<-s1,aB (by omega) (by omega)]
   simp only[sz,simprocAttr,A,O,ru,z1,z2,ci,h8,w1];simp[St,sx,A,L]
  ·rintro t df g ⟨rfl,rfl,A,h8,-⟩;rw[QV]at h8;simp only[sz,simprocAttr,fO,h8,F];show kg C0 (d+1) [.tm 4] _ [.mark g2.nx] g λv x=>v=T8 GR.sum;refine jB U ?_;simp[qo,sx,eg]
theorem ua{kv:Nat}{r:AV}(h:NsV n e vars NoP kv .nil r):(S.O2 n e vars=0/\∃p,r=.tup [p,T8 0]/\mr n vars (S.OJ n vars) (S.OP n e) (S.Pq n e) kv p)\/(S.O2 n e vars≠0/\r=.tup [.nilp,T8 (S.O2 n e vars)]):=by
 unfold NsV at h
 split at h
 ·rename_i c;obtain⟨p,q,rfl,h1,h2⟩:=h;have h2:=aG.1 h2;injection h2 with h2;exact .inl ⟨c,p,by rw[h2],Mg h1⟩
 ·rename_i c;obtain⟨p,q,rfl,h1,h2⟩:=h;have h2:=aG.1 h2;injection h2 with h2;have h1:p=.nilp:=h1;exact .inr ⟨c,by rw[h2,h1]⟩
theorem j7:S.O2 n e vars=0↔(NR n/\S.Pc n e=true)/\S.OF vars (n.nodes.length:Int)=true:=by
 unfold S.O2
 split
 ·rename_i c;rw[rF,md]at c;cases S.OF vars (n.nodes.length:Int)<;>simp[c]
 ·rename_i c;constructor
  ·intro h;exact absurd h c
  ·rintro⟨⟨h1,h2⟩,-⟩;exact absurd (rF.2 ⟨md.2 h1,h2⟩) c
theorem pF:∀x∈S.OJ n vars,0<=x/\x<(n.nodes.length:Int):=by intro x hx;have h:=(List.mem_filter.1 hx).1;obtain⟨i,hi,rfl⟩:=Rb.1 h;have:=QE.1 hi;omega
theorem uB(hr:NR n)(w:Nat):0<=S.wt n w/\S.wt n w<=167961600000000:=nA hr (bu (λc hc=>(hr.cs c hc).1) (w:Int))
theorem uZ(hr:NR n)(e:List Int):∀x∈S.OP n e,0<=x/\x<=167961600000000:=by
 intro x hx;obtain⟨w,-,rfl⟩:=Rb.1 hx;unfold S.PA
 split
 ·omega
 ·exact uB hr w
theorem wP{w:Nat}(h:w<S.OD n):(S.OP n e)[w]?=some (if S.pe n e w then S.wt n w else 0):=by simp only[S.OP,S.O1,Qv,SE h,RK,S.PA];cases c:S.pe n e w<;>simp[h]
theorem si[XOc]{n:Nat}:(bS C0 (.makeInterface 175 (.tmp n))).run (I C0) d rd t g=.val (.ifc 175 (tat t n)):=by
 have h:(bS C0 (.makeInterface 175 (.tmp n))).run (I C0) d rd t g=.val (.ifc 175 ((gp AV.undef n).run t)):=by kernel_rfl
 rw[h,gp_run];rfl
def rU:AV->Prop:=λv=>∃x,v=.ifc 175 x
theorem Jb[XOc]{vals:List Int}{proof:List (List Int)}{pv:AV}{KP:AV->G->Prop}(hd:0<d)(hq:mr n vars oth mw m k q)(hp:S.OF vars (n.nodes.length:Int)=true)(hpv:∀h,SlR NoP k h proof pv)
  (kk:proof.all (S.OM n vars)=true->∀g',Fr g g'->K (.tup []) g') (kp:proof.all (S.OM n vars)=false->∀v g',rU v->Fr g g'->KP v g') :
  CallsP C0 d 74 [.agg [q,vv,pv]] g K KP:=by
 obtain⟨rows,w,C,x,D⟩:=pJ (hpv .nil);refine rT po (by simp[eC]) ?_;unfold eC;dsimp only;refine aV (by kernel_rfl) ?_;simp only[sz,simprocAttr];obtain⟨g1,p⟩:∃g1,g1=g.new (Tq 3 [[q,vv,pv]]):=⟨_,rfl⟩;rw[<-p];have hl:∀g:G,bY .slice pv g=.val (T8 (proof.length:Int)):=λg=>(hpv .nil).len g;obtain⟨B,hB⟩:∃B,B=g.nx:=⟨_,rfl⟩;rw[<-hB];have g0:g1.h.get B=Tq 3 [[q,vv,pv]]:=by rw[p,hB];simp[OE]
 have r:Fr g g1:=by rw[p];exact Fr.new _ _
 clear p;have ld0:bB (Tq 3 [[q,vv,pv]]) 0 0 false 1 0=.val q:=rfl;have ld2:bB (Tq 3 [[q,vv,pv]]) 0 0 false 1 2=.val pv:=rfl;unfold ic;refine aV (by kernel_rfl) ?_;simp only[sz,simprocAttr,g0,ld2,hl];rw[pQ,rN];unfold gq gt;refine pP (m:=proof.length) (hpv .nil).1 (λj t df g'=>df=[]/\g'=g1/\St t [(1,T9 B),(5,pv)]/\∀i,i<j->∀b,proof[i]?=some b->S.OM n vars b=true) ⟨rfl,rfl,by simp[St,sx],λi h=>absurd h (Nat.not_lt_zero i)⟩ (by simp[sx]) (by simp[sx]) (by decide)
  (by rintro j t df g v s (rfl|rfl|rfl) ⟨a1,a2,⟨b1,b2,-⟩,c⟩<;>exact⟨a1,a2,by simp[St,sx,b1,b2],c⟩) ?_ ?_
 ·rintro j t df g' u ⟨rfl,rfl,⟨h1,h5,-⟩,a⟩ h7 h6;obtain⟨b,hb,-,-⟩:=ae u;obtain⟨z,y,A,hz⟩:=x j b hb;have kb:=λg:G=>CB (d:=d) (g:=g) (l:=b) hd hq hp (hz.tree (h':=g.h) (Qq _));refine aV (by kernel_rfl) ?_;simp only[sz,simprocAttr,h5,h7,w,y,A];refine aV (by kernel_rfl) ?_;simp only[sz,simprocAttr,h1,g0,ld0,kb];rw[dL]
  by_cases c:S.OM n vars b=true
  ·rw[c];simp only[sz,simprocAttr];rw[j9];refine⟨⟨rfl,rfl,by simp[St,sx,h1,h5],λi hi b' f=>?_⟩,by simp[sx,h7],by simp[sx,h6]⟩
   by_cases e:i=j
   ·subst e;rw[hb]at f;injection f with f;subst f;exact c
   ·exact a i (by omega) b' f
  ·have c':S.OM n vars b=false:=by simpa using c
   rw[c'];simp only[sz,simprocAttr];show wpQ C0 d ([oM 17 2,o 18 (.build [T8 0] [(0,1)] [.t 17]),o 19 (.raw (.makeInterface 175 (.tmp 18)))]++[oz (.raw (.panic (.tmp 19)))]) _ _ _ _;refine pR (by kernel_rfl) ?_;simp only[sz,simprocAttr,si];refine w_ (ty:=175) (v:=.agg [T8 (j:Int)]) (by simp[sx]) ?_;refine kp ?_ _ _ ⟨_,rfl⟩ r;rw[SP];intro h;have:=QB.1 h b (Qx hb);rw[c']at this;cases this
 ·rintro t df g' ⟨rfl,rfl,-,a⟩;rw[l9,Qw rfl];show kg C0 d [] t [] g' K;simp only[sz,simprocAttr];refine kk ?_ g' r;rw[QB];intro b hb;obtain⟨i,hi⟩:=QN hb;exact a i (Qs.1 hi).1 b hi
def S.OS(x y:Int):Int:=if x<y then -1 else if y<x then 1 else 0
def S.O7:List Int->List Int->Int
 |a::l,b::m=>if S.OS a b≠0 then S.OS a b else S.O7 l m
 |_,_=>0
theorem LE{m:List Int}{y:Int}(ht:l.take j=m.take j)(hx:l[j]?=some x)(hy:m[j]?=some y)(h:S.OS x y≠0):S.O7 l m=S.OS x y:=by
 induction j generalizing l m with
 | zero =>
  cases l with
  |nil=>cases hx
  | cons a l=>cases m with
   |nil=>cases hy
   | cons b m =>
    have e1:a=x:=by simpa using hx
    have e2:b=y:=by simpa using hy
    rw[S.O7,e1,e2,Qw h]
 | succ j ih =>
  cases l with
  |nil=>cases hx
  | cons a l=>cases m with
   |nil=>cases hy
   | cons b m =>
    rw[R8,R8]at ht;injection ht with e1 e2;have e3:S.OS a b=0:=by rw[e1];simp[S.OS]
    rw[S.O7,e3,Qu (by simp)];exact ih e2 (by simpa using hx) (by simpa using hy)
theorem Hy(l:List Int):S.O7 l l=0:=by
 induction l with
 |nil=>rfl
 |cons a l ih=>rw[S.O7,Qu (by simp[S.OS]),ih]
theorem FQ[XOc](hd:0<d)(x:Int)(g:G):ay C0 d 111 [T8 x] g=.val (.bool false):=by rw[tL];refine l8 wk (xs:=[T8 x]) (by simp only[aF,iK 0]) (by simp[lI]) hd ?_;simp only[sz,simprocAttr,lI]
theorem LB[XOc](hd:0<d)(x y:Int)(g:G):ay C0 d 80 [T8 x,T8 y] g=.val (T8 (S.OS x y)):=by
 rw[su];refine jf tS (xs:=[T8 x,T8 y]) (by simp only[aF,iK 0]) (by simp[dz]) hd ?_;have h:=λg=>FQ (RA d) x g;have k2:=λg=>FQ (RA d) y g
 by_cases h1:x<y
 ·have e:S.OS x y = -1:=Qw h1;rw[e];simp only[sz,simprocAttr,dz,h,k2,h1]
 ·by_cases h2:y<x
  ·have e:S.OS x y=1:=by rw[S.OS,Qu h1,Qw h2]
   rw[e];simp only[sz,simprocAttr,dz,h,k2,h1,h2]
  ·have e:S.OS x y=0:=by rw[S.OS,Qu h1,Qu h2]
   rw[e];simp only[sz,simprocAttr,dz,h,k2,h1,h2]
theorem Dk[XOc]{P2:Nat->Prop}{m:List Int}(hd:0<d)(hl:SlR P k g.h l v)(hm:SlR P2 k2 g.h m w)(hlm:l.length=m.length):ay C0 d 106 [v,w] g=.val (T8 (S.O7 l m)):=by
 obtain⟨v',e1,b⟩:=bj hl d;obtain⟨w',e2,f⟩:=bj hm d;have lv:=(b .nil).len;have lw:∀g:G,bY .slice w' g=.val (T8 (l.length:Int)):=λg=>by have:=(f .nil).len g;rwa [<-hlm]at this
 have rv:=λh=>(b h).ints;have rw':=λh=>(f h).ints;rw[mA];refine jf nZ (xs:=[v',w']) (by simp only[aF,e1,e2]) (by simp[dX]) hd ?_;simp only[sz,simprocAttr,dX,lv,fU];refine aM (m:=l.length) hl.1 (λj t df g=>df=[]/\St t [(0,v'),(1,w'),(9,v')]/\l.take j=m.take j) ⟨rfl,by simp[St,sx],by simp⟩ (by simp[sx]) (by simp[sx]) (by decide)
  (by rintro j t df g v s (rfl|rfl|rfl) ⟨a1,⟨b1,b2,A,-⟩,c⟩<;>exact⟨a1,by simp[St,sx,b1,b2,A],c⟩) ?_ ?_
 ·rintro j t df g o ⟨rfl,⟨h0,h1,h9,-⟩,ht⟩ a h10;obtain⟨x,hx,i,-⟩:=ae o;obtain⟨y,p,n,-⟩:=ae (l:=m) (j:=j) (by omega);have u:j<(l.map ci).length:=by simpa using o
  have z:(l.map ci)[j]?=some (ci x):=by rw[Qv,hx];rfl
  have q:j<(m.map ci).length:=by rw[QA];omega
  have r:(m.map ci)[j]?=some (ci y):=by rw[Qv,p];rfl
  have d1:¬(l.length:Int)<=(j:Int):=by omega
  have kc:=λg=>LB (RA d) x y g
  by_cases c:S.OS x y=0
  ·have e:x=y:=by
    unfold S.OS at c
    split at c
    ·cases c
    ·split at c
     ·cases c
     ·omega
   simp only[sz,simprocAttr,h1,h9,a,rv,rw',u,z,q,r,ci,lw,d1,kc,c];exact⟨⟨by simp[St,sx,h0,h1,h9],by rw[i,n,ht,e]⟩,by simp[h10]⟩
  ·rw[LE ht hx p c];simp only[sz,simprocAttr,h1,h9,a,rv,rw',u,z,q,r,ci,lw,d1,kc,c]
 ·rintro t df g ⟨rfl,⟨h0,h1,-⟩,ht⟩;rw[QV,hlm,QV]at ht;subst ht;rw[Hy];simp only[sz,simprocAttr,fV,h0,h1,lv,lw,Int.lt_irrefl]
theorem NF(hw:SlR NoP k .nil l w)(h1:Sl1 w){c:Nat}(hc:c<=l.length) :
  ∃w',(∀g,kG 1 w none (some (T8 (c:Int))) g=.val w')/\SlR NoP k .nil (l.take c) w':=by
 by_cases hne:l=[]
 ·subst hne;have:c=0:=by simpa using hc
  subst this;have hl:=hw.1;have h:=hw.2;unfold SlV at h
  split at h
  ·exact⟨.nils,λg=>rfl,hl,rfl⟩
  ·exact⟨.esl,λg=>rfl,hl,rfl⟩
  ·rename_i t s rows;obtain⟨h0,-,h2⟩:=h;have hs:=h1 t s rows rfl;subst hs;have:rows=[]:=by have:=h2.len;simpa using this.symm
   subst this;exact⟨.tsl t 1 [],λg=>rfl,hl,h0,.inl rfl,trivial⟩
  ·exact h.1.elim
  ·exact h.elim
 ·exact Oh hw hne hc
def S.OU(n:Net)(vars oth mw vals l:List Int)(wt:Int):Bool:=decide (l=vals) || (decide (S.Pn n vars oth mw l<wt) || (decide (S.Pn n vars oth mw l=wt)&&decide (0<S.O7 l (vals.take l.length))))
theorem G7[XOc]{k3:Nat}{P3:Nat->Prop}{wt:Int}(hd:k<d)(hr:NR n)(hq:mr n vars oth mw m k q)(hpv:∀x∈vars,0<=x/\x<(n.nodes.length:Int))(hvl:vars.length<=8)(hpo:∀x∈oth,0<=x/\x<(n.nodes.length:Int))(hol:oth.length<=8)(hmw:mw.length=S.OD n)(hmb:∀x∈mw,0<=x/\x<=167961600000000)
  (hw:SlR P k2 g.h l w) (hl:l.length<=vars.length) (hv:SlR P3 k3 g.h vals v) (hv1:Sl1 v) (hlv:l.length<=vals.length) :
  ay C0 d 71 [q,w,v,T8 wt] g=.val (.bool (S.OU n vars oth mw vals l wt)):=by
 obtain⟨w',e2,a⟩:=bj hw d;obtain⟨v',e3,f,i⟩:=K6 hv hv1 d;have e:=RA d;have lw:=(a .nil).len;have j:=hq;obtain⟨t0,b,vw,ow,ww,e0,-⟩:=j;have ke:=λg:G=>qG (d:=d+1) (g:=g) e (a g.h) (f g.h);have kb:=λg:G=>IF (d:=d+1) (g:=g) (Nat.lt_succ_of_lt hd) hr hq hpv hvl hpo hol hmw hmb (a g.h) hl;obtain⟨y,o,p⟩:=NF (c:=l.length) (f .nil) i hlv;have kc:=λg:G=>Dk (d:=d+1) (g:=g) e (a g.h) (p.tree (h':=g.h) (Qq _)) (by rw[QZ];omega);rw[eP];refine l8 gg (xs:=[q,w',v',T8 wt]) (by rw[e0];simp only[aF,e2,e3,eA,iK 0]) (by simp[aU]) (by omega) ?_
 by_cases c:l=vals
 ·have hc:S.OU n vars oth mw vals l wt=true:=by rw[S.OU,Rf c,SG]
  rw[hc];rw[Rf c]at ke;simp only[sz,simprocAttr,aU,ke]
 ·rw[Rs c]at ke
  by_cases c1:S.Pn n vars oth mw l<wt
  ·have hc:S.OU n vars oth mw vals l wt=true:=by rw[S.OU,Rf c1,SG,Bool.or_true]
   rw[hc];simp only[sz,simprocAttr,aU,ke,kb,c1]
  ·by_cases c2:S.Pn n vars oth mw l=wt
   ·have hc:S.OU n vars oth mw vals l wt=decide (0<S.O7 l (vals.take l.length)):=by rw[S.OU,Rs c,Rs c1,Rf c2,Tp,Tp,Rz]
    rw[hc];simp only[sz,simprocAttr,aU,ke,kb,c2,lw,Sn,Sd,o,kc,Int.lt_irrefl]
   ·have hc:S.OU n vars oth mw vals l wt=false:=by rw[S.OU,Rs c,Rs c1,Rs c2,Tp,Tp,Bool.false_and]
    rw[hc];simp only[sz,simprocAttr,aU,ke,kb,c1,c2]
theorem NC(r:SlR P k h l v)(hne:l≠[]):Sl1 v:=by
 intro t s rows e;subst e;have r:=r.2;unfold SlV at r;obtain⟨-,h1,h2⟩:=r;have a:=h2.len;rcases h1 with e|e
 ·exact e
 ·rw[e]at a;exact absurd (Sj.1 (by simpa using a)) hne
theorem sY[XOc]{k3:Nat}{P3:Nat->Prop}{wt:Int}(hd:k<d)(hr:NR n)(hq:mr n vars oth mw m k q)(hpv:∀x∈vars,0<=x/\x<(n.nodes.length:Int))(hvl:vars.length<=8)(hpo:∀x∈oth,0<=x/\x<(n.nodes.length:Int))(hol:oth.length<=8)(hmw:mw.length=S.OD n)(hmb:∀x∈mw,0<=x/\x<=167961600000000)
  (hw:SlR P k2 g.h l w) (hl:l.length<=vars.length) (hv:SlR P3 k3 g.h vals v) (hlv:l.length<=vals.length) :
  ay C0 d 71 [q,w,v,T8 wt] g=.val (.bool (S.OU n vars oth mw vals l wt)):=by
 by_cases hne:vals=[]
 ·subst hne;have a:l=[]:=Sj.1 (Nat.le_zero.1 hlv);subst a;have hc:S.OU n vars oth mw [] [] wt=true:=by rw[S.OU,Rf rfl,SG]
  obtain⟨w',e2,e⟩:=bj hw d;obtain⟨v',e3,c⟩:=bj hv d;obtain⟨t0,b,vw,ow,ww,e0,-⟩:=hq;have ke:=λg:G=>qG (d:=d+1) (g:=g) (RA d) (e g.h) (c g.h);rw[eP,hc];refine l8 gg (xs:=[q,w',v',T8 wt]) (by rw[e0];simp only[aF,e2,e3,eA,iK 0]) (by simp[aU]) (by omega) ?_;simp only[sz,simprocAttr,aU,ke]
 ·exact G7 hd hr hq hpv hvl hpo hol hmw hmb hw hl hv (NC hv hne) hlv
def S.O3(n:Net)(vars mw l:List Int):Nat->Int
 |0=>0
 |j+1=>S.O3 n vars mw l j+if S.OA (S.OE (S.Oz n) (j:Int)) vars=l then mw[j]?.getD 0 else 0
theorem Aw{n:Net}{vars mw l:List Int}(hmb:∀x∈mw,0<=x/\x<=167961600000000):∀j,0<=S.O3 n vars mw l j/\S.O3 n vars mw l j<=167961600000000*(j:Int)
 |0=>⟨SQ _,by simp[S.O3]⟩
 | j+1=>by
  have ih:=Aw (n:=n) (vars:=vars) (l:=l) hmb j;have hx:0<=mw[j]?.getD 0/\mw[j]?.getD 0<=167961600000000:=by
   cases h:mw[j]? with
   |none=>simp
   |some x=>exact hmb x (Qx h)
  rw[S.O3]
  split<;>omega
theorem E9[XOc](hd:k<d)(hr:NR n)(hq:mr n vars oth mw m k q)(hpv:∀x∈vars,0<=x/\x<(n.nodes.length:Int))(hvl:vars.length<=8)(hpo:∀x∈oth,0<=x/\x<(n.nodes.length:Int))(hol:oth.length<=8)(hmw:mw.length=S.OD n)(hmb:∀x∈mw,0<=x/\x<=167961600000000)
  (hw:SlR P k2 g.h l w):ay C0 d 108 [q,w] g=.val (T8 (S.O3 n vars mw l (S.OD n))):=by
 have v:=hq;obtain⟨t0,b,vw,ow,ww,e0,ht,hb,hv,ho,H⟩:=v;obtain⟨w',e2,o⟩:=bj hw d;have f:0<d+1:=RA d;have E:=hr.wl.2.1;rw[lA];refine jf mX (xs:=[q,w']) (by rw[e0];simp only[aF,e2,eA]) (by simp[dA]) (by omega) ?_;subst e0;have rbx:=uJ (o .nil);simp only[sz,simprocAttr,dA,fS,rbx];have y:=λg=>tB (d:=d+1) (g:=g) (Nat.lt_succ_of_lt hd) hq;refine bL (Q:=λr=>∃tg,r=.clo 132 [] [.tptr tg 1 [[.tptr t0 6 [[T8 n.grain,b,vw,ow,ww,T8 m]] 0 0]] 0 0]) ((y _).elim λtg h=>⟨_,h,tg,rfl⟩) ?_;rintro r ⟨tg,rfl⟩;simp only[sz,simprocAttr];obtain⟨g2,e⟩:∃g2,g2=((G.empty.new (Tq 1 [[w']])).new (Tq 1 [[T8 0]])).put 1 (Tq 1 [[T8 0]]):=⟨_,rfl⟩;have c0:g2.h.get 0=Tq 1 [[w']]:=by rw[e];simp[OE,show G.empty.nx=0 from rfl]
 have c1:g2.h.get 1=Tq 1 [[T8 0]]:=by rw[e];simp[OE]
 have A:g2.nx=2:=by rw[e];simp[show G.empty.nx=0 from rfl]
 try rw[<-e]
 refine tu (n:=n) (vars:=vars) (oth:=oth) (mw:=mw) (m:=m) (k:=k) (tg:=tg) f hr hq hpv hvl hpo hol hmw (by simp[sx]) (by decide) (by decide)
  (λj g'=>g'.h.get 0=Tq 1 [[w']]/\g'.h.get 1=Tq 1 [[T8 (S.O3 n vars mw l j)]]) ?_ ⟨c0,c1⟩ ?_ ?_
 ·rintro j g3 J B ⟨a1,a2⟩;exact⟨by rw[B _ (by omega),a1],by rw[B _ (by omega),a2]⟩
 ·rintro j x u g3 K hx ⟨a1,a2⟩ t hu;rw[A]at t hu;simp only[sz,simprocAttr,eS];refine⟨?_,λg5 n5 f5=>?_⟩
  ·exact Jc _ _ _
  rw[A]at f5 ⊢;have C:(S.OA (S.OE (S.Oz n) (j:Int)) vars).length=vars.length:=by simp[S.OA]
  have p:∀i,i<g3.nx->i≠3->g5.h.get i=g3.h.get i:=λi h1 h2=>by rw[f5 i (by omega),Qu (by omega),Qu (by omega)]
  have jp:g5.h.get g3.nx=Tq 2 [[T8 (S.O_ n oth j),T8 x]]:=by rw[f5 _ (by omega),Qw rfl]
  have j0:g5.h.get 0=Tq 1 [[w']]:=by rw[p 0 (by omega) (by omega),a1]
  have D:g5.h.get 1=Tq 1 [[T8 (S.O3 n vars mw l j)]]:=by rw[p 1 (by omega) (by omega),a2]
  have z:=hu.fr (g':=g5) (by omega) λi hi=>by have:=hu.lt hi;exact p i (by omega) (by omega)
  have hsl:SlR (λ_=>True) 0 g5.h (S.OA (S.OE (S.Oz n) (j:Int)) vars) u:=z.sl (α:=Int) (by omega) (Oz (λa=>aG.2 rfl) _) λ_ _=>trivial;have ke:=qG (d:=d+1) (g:=g5) f hsl (o g5.h);have F:=Aw (n:=n) (vars:=vars) (l:=l) hmb j;have I:=hmb x (Qx hx);have hs:S.O3 n vars mw l (j+1)=S.O3 n vars mw l j+if S.OA (S.OE (S.Oz n) (j:Int)) vars=l then x else 0:=by rw[S.O3,hx];rfl
  by_cases c:S.OA (S.OE (S.Oz n) (j:Int)) vars=l
  ·rw[Rf c]at ke;rw[Qw c]at hs;have w1:IntKind.wrap .i64 (S.O3 n vars mw l j+x)=S.O3 n vars mw l (j+1):=by rw[hs,aB (by omega) (by omega)]
   simp only[sz,simprocAttr,cM,j0,ke,D,jp,w1];exact⟨by simp,λi h1 h2=>by simp[OE,show ¬i=1 by omega],.inl ⟨rfl,trivial⟩⟩
  ·rw[Rs c]at ke;rw[Qu c,Int.add_zero]at hs;simp only[sz,simprocAttr,cM,j0,ke];exact⟨Qq _,λ_ _ _=>rfl,.inl ⟨rfl,by rw[D,hs]⟩⟩
 ·rintro g' ⟨a1,a2⟩ L s;simp only[sz,simprocAttr,eT,a2];refine jB s ?_;simp[qo,sx,eg]
theorem GX[XOc]{proof:List (List Int)}{pv:AV}{KP:AV->G->Prop}(hd:k<d)(hr:NR n)(hq:mr n vars oth mw m k q)(hpv':∀x∈vars,0<=x/\x<(n.nodes.length:Int))(hvl:vars.length<=8)(hpo:∀x∈oth,0<=x/\x<(n.nodes.length:Int))(hol:oth.length<=8)(hmw:mw.length=S.OD n)(hmb:∀x∈mw,0<=x/\x<=167961600000000)
  (hpv:∀h,SlR NoP k h proof pv) (hvv:∀h,SlR NoP k h vals vv) (hvl2:vals.length=vars.length) (hbl:∀b∈proof,b.length<=vars.length)
  (kk:proof.all (λb=>S.OU n vars oth mw vals b (S.O3 n vars mw vals (S.OD n)))=true->∀g',Fr g g'->K (.tup []) g') (kp:proof.all (λb=>S.OU n vars oth mw vals b (S.O3 n vars mw vals (S.OD n)))=false->∀v g',rU v->Fr g g'->KP v g') :
  CallsP C0 d 76 [.agg [q,vv,pv]] g K KP:=by
 obtain⟨rows,F,L,H,M⟩:=pJ (hpv .nil);obtain⟨wt,A⟩:∃wt,wt=S.O3 n vars mw vals (S.OD n):=⟨_,rfl⟩;rw[<-A]at kk kp;refine rT nV (by simp[dQ]) ?_;unfold dQ;dsimp only;refine aV (by kernel_rfl) ?_;simp only[sz,simprocAttr];obtain⟨g1,l⟩:∃g1,g1=g.new (Tq 3 [[q,vv,pv]]):=⟨_,rfl⟩;rw[<-l];have hl:∀g:G,bY .slice pv g=.val (T8 (proof.length:Int)):=λg=>(hpv .nil).len g;obtain⟨B,hB⟩:∃B,B=g.nx:=⟨_,rfl⟩;rw[<-hB];have g0:g1.h.get B=Tq 3 [[q,vv,pv]]:=by rw[l,hB];simp[OE]
 have y:Fr g g1:=by rw[l];exact Fr.new _ _
 clear l;have ld0:bB (Tq 3 [[q,vv,pv]]) 0 0 false 1 0=.val q:=rfl;have ld1:bB (Tq 3 [[q,vv,pv]]) 0 0 false 1 1=.val vv:=rfl;have ld2:bB (Tq 3 [[q,vv,pv]]) 0 0 false 1 2=.val pv:=rfl;have kw:=λg:G=>E9 (d:=d) (g:=g) hd hr hq hpv' hvl hpo hol hmw hmb (hvv g.h);rw[<-A]at kw;unfold gk;refine aV (by kernel_rfl) ?_;simp only[sz,simprocAttr,g0,ld0,ld1,kw];refine aV (by kernel_rfl) ?_;simp only[sz,simprocAttr,g0,ld2,hl];rw[pQ,rN];unfold fH fI;refine pP (m:=proof.length) (hpv .nil).1 (λj t df g'=>df=[]/\g'=g1/\St t [(1,T9 B),(2,T8 wt),(11,pv)]/\∀i,i<j->∀b,proof[i]?=some b->S.OU n vars oth mw vals b wt=true) ⟨rfl,rfl,by simp[St,sx],λi h=>absurd h (Nat.not_lt_zero i)⟩ (by simp[sx]) (by simp[sx]) (by decide)
  (by rintro j t df g v s (rfl|rfl|rfl) ⟨a1,a2,⟨b1,b2,D,-⟩,c⟩<;>exact⟨a1,a2,by simp[St,sx,b1,b2,D],c⟩) ?_ ?_
 ·rintro j t df g' E ⟨rfl,rfl,⟨h1,h2,p,-⟩,a⟩ r C;obtain⟨b,hb,-,w⟩:=ae E;obtain⟨z,I,J,hz⟩:=H j b hb;have u:=hbl b w;have kb:=λg:G=>sY (d:=d) (g:=g) (wt:=wt) hd hr hq hpv' hvl hpo hol hmw hmb (hz.tree (h':=g.h) (Qq _)) u (hvv g.h) (by omega);refine aV (by kernel_rfl) ?_;simp only[sz,simprocAttr,p,r,F,I,J];refine aV (by kernel_rfl) ?_;simp only[sz,simprocAttr,h1,h2,g0,ld0,ld1,kb];rw[dL]
  by_cases c:S.OU n vars oth mw vals b wt=true
  ·rw[c];simp only[sz,simprocAttr];rw[j9];refine⟨⟨rfl,rfl,by simp[St,sx,h1,h2,p],λi hi b' f=>?_⟩,by simp[sx,r],by simp[sx,C]⟩
   by_cases e:i=j
   ·subst e;rw[hb]at f;injection f with f;subst f;exact c
   ·exact a i (by omega) b' f
  ·have c':S.OU n vars oth mw vals b wt=false:=by simpa using c
   rw[c'];simp only[sz,simprocAttr];show wpQ C0 d ([oM 26 3,o 27 (.build [T8 0] [(0,1)] [.t 26]),o 28 (.raw (.makeInterface 175 (.tmp 27)))]++[oz (.raw (.panic (.tmp 28)))]) _ _ _ _;refine pR (by kernel_rfl) ?_;simp only[sz,simprocAttr,si];refine w_ (ty:=175) (v:=.agg [T8 (j:Int)]) (by simp[sx]) ?_;refine kp ?_ _ _ ⟨_,rfl⟩ y;rw[SP];intro h;have:=QB.1 h b w;rw[c']at this;cases this
 ·rintro t df g' ⟨rfl,rfl,-,a⟩;rw[l9,Qw rfl];show kg C0 d [] t [] g' K;simp only[sz,simprocAttr];refine kk ?_ g' y;rw[QB];intro b hb;obtain⟨i,hi⟩:=QN hb;exact a i (Qs.1 hi).1 b hi
theorem Dt[XOc](hd:0<d)(hr:NR n)(hq:mr n vars oth mw m k q)(hp:S.OF vars (n.nodes.length:Int)=true)(hw:SlR P k2 g.h l w)(hlv:l.length<=vars.length)(hl:InC ((S.OA (S.Oz n) vars).take l.length) l) :
  ay C0 d 101 [q,w] g=.val (T8 (S.OC ((S.OA (S.Oz n) vars).take l.length) l)):=by
 obtain⟨t,b,vw,ow,ww,rfl,ht,hb,hv,ho,L⟩:=hq;obtain⟨w',e2,o⟩:=bj hw d;have lw:∀g:G,bY .slice w' g=.val (T8 (l.length:Int)):=λg=>(o .nil).len g;have rw':=λh=>(o h).ints;have rv:=λh=>(hv.tree (h':=h) (Qq _)).ints;have H:(S.OA (S.Oz n) vars).length=vars.length:=by simp[S.OA]
 have F:=hr.l2;have K:=bH hp (by omega);have a:=bF (ps:=vars) hr.cs (λp e=>by rw[aw];exact aZ hp p e);rw[eQ];refine jf gi (xs:=[.tptr t 6 [[T8 n.grain,b,vw,ow,ww,T8 m]] 0 0,w']) (by simp only[aF,e2,eA]) (by simp[bI]) hd ?_;simp only[sz,simprocAttr,bI,cK,lw];refine aM (m:=l.length) (by omega) (λj t' df g=>df=[]/\St t' [(0,.tptr t 6 [[T8 n.grain,b,vw,ow,ww,T8 m]] 0 0),(8,w'),(5,T8 (S.OC ((S.OA (S.Oz n) vars).take j) (l.take j)))]) ⟨rfl,by simp[St,sx,S.OC]⟩ (by simp[sx]) (by simp[sx]) (by decide)
  (by rintro j t df g v s (rfl|rfl|rfl)<;>simp[sx,St]) ?_ ?_
 ·rintro j t' df g B ⟨rfl,h0,h8,h5,-⟩ h10 h9;obtain⟨x,hx,u,-⟩:=ae B;obtain⟨p,i,-,e⟩:=ae (l:=vars) (j:=j) (by omega);obtain⟨N,O⟩:=aZ hp p e;obtain⟨pn,y,rows,pa,ra,rfl,hy,Q,R,T,U,z,r5⟩:=mN hb N O;have Y:j<(l.map ci).length:=by simpa using B
  have Z:(l.map ci)[j]?=some (ci x):=by rw[Qv,hx];rfl
  have W:j<(vars.map ci).length:=by rw[QA];omega
  have X:(vars.map ci)[j]?=some (ci (pn:Int)):=by rw[Qv,i];rfl
  have f:(S.OA (S.Oz n) vars)[j]?=some y.card:=by simp[S.OA,i,r5]
  have c1:(S.OA (S.Oz n) vars).take (j+1)=(S.OA (S.Oz n) vars).take j++[y.card]:=by rw[QG (by omega)];congr 2;rw[Qr (by omega)]at f;injection f
  have r:S.OC ((S.OA (S.Oz n) vars).take (j+1)) (l.take (j+1))=S.OC ((S.OA (S.Oz n) vars).take j) (l.take j)*y.card+x:=by rw[c1,u];exact tX (by simp;omega)
  have C:=bz (λc h=>a c (Q8 h)) (by have:=hl.take j;rwa [List.take_take,RB (by omega)]at this);have D:=bz (λc h=>a c (Q8 h)) (by have:=hl.take (j+1);rwa [List.take_take,RB (by omega)]at this);have q1:=bQ a (by omega) j;have q2:=bQ a (by omega) (j+1);rw[r]at D ⊢;have M:=hr.card y z;obtain⟨A,E⟩:∃A,A=S.OC ((S.OA (S.Oz n) vars).take j) (l.take j):=⟨_,rfl⟩;rw[<-E]at h5 C D ⊢;have I:0<=A*y.card:=Sm C.1 (by omega);have J:A*y.card<=65536*4:=SK (by omega) (by omega) (by omega) (by omega);have w1:IntKind.wrap .i64 (A*y.card)=A*y.card:=aB (by omega) (by omega);have V:IntKind.wrap .i64 (A*y.card+x)=A*y.card+x:=aB (by omega) (by omega);simp only[sz,simprocAttr,h8,h10,rw',Y,Z,ci,h0,h5,dh,br,aP,rv,W,X,Q,R,T,U,w1,V];simp[St,sx,h0,h8,h9]
 ·rintro t' df g ⟨rfl,h0,h8,h5,-⟩;rw[QV]at h5;simp only[sz,simprocAttr,cL,h5]
theorem yn{cs vs:List Int}(hin:InC cs vs)(hc:∀c∈cs,1<=c):∀k,k<=vs.length->(∀(j:Nat) (c:Int),k<=j->cs[j]?=some c->vs[j]?.getD 0=c - 1) ->
  ((S.PD cs (vs.take k++List.replicate (vs.length - k) 0) k).2=true/\InC cs (S.PD cs (vs.take k++List.replicate (vs.length - k) 0) k).1/\S.OC cs (S.PD cs (vs.take k++List.replicate (vs.length - k) 0) k).1=S.OC cs vs+1) \/
  ((S.PD cs (vs.take k++List.replicate (vs.length - k) 0) k).2=false/\S.OC cs vs=S.OB cs - 1)
 |0,_,h=>.inr ⟨rfl,wK hin.len.symm λi c hi=>h i c (Q_ _) hi⟩
 | k+1,hk,h=>by
  have hl:=hin.len;obtain⟨c,b,-,d⟩:=ae (l:=cs) (j:=k) (by omega);obtain⟨x,hx,f,m⟩:=hin.get b;have hg:(vs.take (k+1)++List.replicate (vs.length - (k+1)) 0)[k]?=some x:=by rw[QK (by simp;omega),Rc (by omega),hx]
  rw[S.PD,hg,b,Qz,Qz]
  by_cases q:x+1<c
  ·rw[Qw q,uw (by omega)];exact .inl ⟨rfl,CQ hin hc hx b (by omega),Cw hl.symm hx λj c' hj a=>h j c' (by omega) a⟩
  ·rw[Qu q,ux (by omega)];refine yn hin hc k (by omega) λj c' hj a=>?_
   by_cases e:j=k
   ·subst e;rw[b]at a;injection a with a;rw[hx,Qz];omega
   ·exact h j c' (by omega) a
theorem HD{cs vs:List Int}(hin:InC cs vs)(hc:∀c∈cs,1<=c):((S.PL cs vs).2=true/\InC cs (S.PL cs vs).1/\S.OC cs (S.PL cs vs).1=S.OC cs vs+1)\/((S.PL cs vs).2=false/\S.OC cs vs=S.OB cs - 1):=by
 have:=yn hin hc vs.length (Qq _) λj c hj hcj=>by have:=(Qs.1 hcj).1;have:=hin.len;omega
 rwa [QV,Rm,List.replicate_zero,QJ]at this
theorem jG{cs:List Int}(hcs:CsOk cs):∀j:Nat,j<S.nc cs->S.OC cs (S.OE cs (j:Int))=(j:Int)
 | 0,_=>by have k:=λc hc=>(hcs.b c hc).1;have:=cd k (DS k);rw[rh]at this;rw[show ((0:Nat):Int)=0 from rfl,this,rh]
 | j+1,h=>by
  have k:=λc hc=>(hcs.b c hc).1;have ih:=jG hcs j (by omega);obtain⟨N1,N2,N3⟩:=hcs.nc;rcases HD (bu k (j:Int)) k with⟨a,q2,q3⟩|⟨a,q2⟩
  ·have:=cd k q2;rw[q3,ih]at this;rw[show ((j+1:Nat):Int)=(j:Int)+1 from rfl,this,q3,ih]
  ·omega
def S.O5(cs b:List Int)(i:Nat):Bool:=decide (S.OC (cs.take b.length) b*S.OB (cs.drop b.length)<=(i:Int)/\(i:Int)<S.OC (cs.take b.length) b*S.OB (cs.drop b.length)+S.OB (cs.drop b.length))
theorem wH{cs b:List Int}(hcs:CsOk cs)(hb:InC (cs.take b.length) b)(hl:b.length<=cs.length)(hi:i<S.nc cs):S.O5 cs b i=decide ((S.OE cs (i:Int)).take b.length=b):=by
 have a:∀c∈cs,1<=c:=λc hc=>(hcs.b c hc).1;have hv:=bu a (i:Int);have e:=jG hcs i hi;have d:=hv.take b.length;have l:=InC.drop b.length hv;obtain⟨r0,o⟩:=bz (λc h=>hcs.b c (Sz h)) l;have k:S.OC cs (S.OE cs (i:Int))=S.OC (cs.take b.length) ((S.OE cs (i:Int)).take b.length)*S.OB (cs.drop b.length)+S.OC (cs.drop b.length) ((S.OE cs (i:Int)).drop b.length):=by rw[<-wJ _ _ (All2.len d),Rk,Rk]
 rw[e]at k;unfold S.O5;refine decide_eq_decide.2 ?_;obtain⟨H,n⟩:∃H,H=S.OB (cs.drop b.length):=⟨_,rfl⟩;obtain⟨A,f⟩:∃A,A=S.OC (cs.take b.length) b:=⟨_,rfl⟩;obtain⟨B,hB⟩:∃B,B=S.OC (cs.take b.length) ((S.OE cs (i:Int)).take b.length):=⟨_,rfl⟩;rw[<-n]at k o ⊢;rw[<-f];rw[<-hB]at k;constructor
 ·rintro⟨h1,h2⟩;have j:A=B:=by
   rcases Int.lt_trichotomy A B with h|h|h
   ·have:A*H+H<=B*H:=by have h3:(A+1)*H<=B*H:=RD (by omega) (by omega);rw[SJ,Tl]at h3;exact h3
    omega
   ·exact h
   ·have:B*H+H<=A*H:=by have h3:(B+1)*H<=A*H:=RD (by omega) (by omega);rw[SJ,Tl]at h3;exact h3
    omega
  have m:=cd (cs:=cs.take b.length) (λc h=>a c (Q8 h)) hb;have q2:=cd (cs:=cs.take b.length) (λc h=>a c (Q8 h)) d;rw[<-f]at m;rw[<-hB]at q2;rw[<-q2,<-j,m]
 ·intro h;rw[h]at hB;rw[<-f]at hB;rw[hB]at k;omega
def S.OG(cs:List Int)(proof:List (List Int))(i:Nat):Nat:=(proof.filter λb=>S.O5 cs b i).length
theorem IQ(cs:List Int)(proof:List (List Int))(b:List Int)(i:Nat):S.OG cs (proof++[b]) i=S.OG cs proof i+if S.O5 cs b i then 1 else 0:=by
 unfold S.OG;rw[Th,Q3];congr 1
 by_cases h:S.O5 cs b i=true<;>simp[h]
theorem IP(cs:List Int)(p r:List (List Int))(i:Nat):S.OG cs p i<=S.OG cs (p++r) i:=by unfold S.OG;rw[Th,Q3];omega
def S.OQ(p:Nat->Nat)(a k N:Nat):List Int:=(List.range N).map λi:Nat=>(((p i+if a<=i/\i<a+k then 1 else 0:Nat)):Int)
theorem oU(p:Nat->Nat)(a k N:Nat):(S.OQ p a k N).length=N:=by simp[S.OQ]
theorem oT{p:Nat->Nat}{a:Nat}(h:i<N):(S.OQ p a k N)[i]?=some (((p i+if a<=i/\i<a+k then 1 else 0:Nat)):Int):=by simp[S.OQ,h]
theorem K8{p:Nat->Nat}{a:Nat}:(S.OQ p a k N).set (a+k) (((p (a+k)+1:Nat)):Int)=S.OQ p a (k+1) N:=by
 refine RW λi=>?_;rw[Rq,oU]
 by_cases hi:i<N
 ·rw[oT hi,oT hi]
  by_cases e:a+k=i
  ·subst e;rw[Qw rfl,Qw hi,Qw ⟨by omega,by omega⟩]
  ·rw[Qu e];congr 2
   by_cases h:a<=i/\i<a+k
   ·rw[Qw h,Qw ⟨h.1,by omega⟩]
   ·rw[Qu h,Qu (by omega)]
 ·rw[Ri (l:=S.OQ p a (k+1) N) (by rw[oU];omega)]
  split
  ·rw[Qu (by omega)]
  ·rw[Ri (by rw[oU];omega)]
def LCv(B I H:Nat)(cv u z:AV)(i:Nat)(pv:AV)(np:Nat):List (Nat×AV):=[(1,T9 B),(2,cv),(3,u),(4,T8 (i:Int)),(5,z),(6,T8 (H:Int)),(21,pv),(22,T8 (np:Int)),(23,T8 (i:Int))]
theorem Nh[XOc]{B Bu I H np:Nat}{p:Nat->Nat}{b:List Int}{pv cv z:AV}{Q:QP}(hd:0<d)(hr:NR n)(hq:mr n vars oth mw m k q)(hp:S.OF vars (n.nodes.length:Int)=true)(hz:SlR NoP k .nil b z)(hbl:b.length<=vars.length)(hb:InC ((S.OA (S.Oz n) vars).take b.length) b)
  (hI:S.OC ((S.OA (S.Oz n) vars).take b.length) b=(I:Int)) (hN:I*H+H<=N) (hN2:N<=65536) (hp1:∀j,j<N->p j<=1) (gB:g.h.get B=Tq 3 [[q,vv,pv]]) (hBu:B<Bu) (hu:Own g Bu u 1 ((S.OQ p (I*H) 0 N).map ci))
  (ht:St t (LCv B I H cv u z i pv np)) (h34:tat t 34=T8 0) (h33:tat t 33=T8 (H:Int))
  (fin:∀t g',St t (LCv B I H cv u z i pv np)->Own g' Bu u 1 ((S.OQ p (I*H) H N).map ci)->(∀j,j<N->(S.OQ p (I*H) H N)[j]?.getD 0<=1)->g'.nx=g.nx->(∀j,vid u≠some j->g'.h.get j=g.h.get j)->Q (.ex (.exit 2)) t [] g')
  (pan:∀v t g' j,rU v->I*H<=j->j<I*H+H->p j=1->g'.nx=g.nx->(∀j,vid u≠some j->g'.h.get j=g.h.get j)->Q (.pan v) t [] g') :
  KQ (wpP C0 d cS) Q t [] g:=by
 unfold cS;refine pP (m:=H) (by omega) (λj t df g'=>df=[]/\St t (LCv B I H cv u z i pv np)/\Own g' Bu u 1 ((S.OQ p (I*H) j N).map ci)/\(∀x,I*H<=x->x<I*H+j->p x=0)/\g'.nx=g.nx/\∀j,vid u≠some j->g'.h.get j=g.h.get j) ⟨rfl,ht,hu,λx h1 h2=>by omega,rfl,λ_ _=>rfl⟩ h34 h33 (by decide) ?_ ?_ ?_
 ·rintro j t df g v s (rfl|rfl|rfl) ⟨a1,⟨b1,b2,D,E,F,J,b7,K,L,-⟩,c⟩<;>exact⟨a1,by simp[St,LCv,sx,b1,b2,D,E,F,J,b7,K,L],c⟩
 ·clear ht hu h34 h33;rintro j t df g' y ⟨rfl,⟨h1,h2,h3,h4,h5,h6,l,r,w,-⟩,hu,f,A,hf⟩ h34 h33;have a:I*H+j<N:=by omega
  have M:=hp1 (I*H+j) a;have kn:=λg:G=>Dt (d:=d) (g:=g) hd hr hq hp (hz.tree (h':=g.h) (Qq _)) hbl hb;simp only[hI]at kn;have gB':g'.h.get B=Tq 3 [[q,vv,pv]]:=by rw[hf B (λh=>by have:=(hu.lt h).1;omega),gB]
  have ld0:bB (Tq 3 [[q,vv,pv]]) 0 0 false 1 0=.val q:=rfl;have w1:IntKind.wrap .i64 ((I:Int)*(H:Int))=((I*H:Nat):Int):=by rw[<-SA,aB (by omega) (by omega)]
  have O:IntKind.wrap .i64 (((I*H:Nat):Int)+(j:Int))=((I*H+j:Nat):Int):=by rw[<-Int.natCast_add,aB (by omega) (by omega)]
  have P:IntKind.wrap .i64 (((p (I*H+j):Nat):Int)+1)=((p (I*H+j)+1:Nat):Int):=by rw[aB (by omega) (by omega)];rfl
  have V:I*H+j<((S.OQ p (I*H) j N).map ci).length:=by rw[QA,oU];exact a
  have C:((S.OQ p (I*H) j N).map ci)[I*H+j]?=some (ci (p (I*H+j):Nat)):=by rw[Qv,oT a,Qu (by omega)];rfl
  refine aV (by kernel_rfl) ?_;simp only[sz,simprocAttr,h34];refine aV (by kernel_rfl) ?_;simp only[sz,simprocAttr,h1,gB',ld0,h5,kn,h6,w1,O];refine aV (by kernel_rfl) ?_;simp only[sz,simprocAttr,h3,hu.rows,V,C,ci,P];refine ct (b:=Bu) (v:=u) (sz:=1) (n:=1) (i:=I*H+j) (off:=0) (x:=T8 ((p (I*H+j)+1:Nat):Int)) (row:=ci (p (I*H+j):Nat)) (row':=ci ((p (I*H+j)+1:Nat):Int)) hu C rfl rfl rfl λg5 o5 n5 f5=>?_;rw[<-RX,K8]at o5;have R:I*H+j<((S.OQ p (I*H) (j+1) N).map ci).length:=by rw[QA,oU];exact a
  have U:((S.OQ p (I*H) (j+1) N).map ci)[I*H+j]?=some (ci ((p (I*H+j)+1:Nat):Int)):=by rw[Qv,oT a,Qw ⟨by omega,by omega⟩];rfl
  simp only[sz,simprocAttr];refine aV (by kernel_rfl) ?_;simp only[sz,simprocAttr,h3,o5.rows,R,U,ci];rw[dL]
  by_cases c:p (I*H+j)=0
  ·have d1:¬(1:Int)<((p (I*H+j)+1:Nat):Int):=by omega
   simp only[sz,simprocAttr,d1];rw[j9];refine⟨⟨rfl,by simp[St,LCv,sx,h1,h2,h3,h4,h5,h6,l,r,w],o5,λx q1 q2=>?_,by omega,λx hx=>by rw[f5 x hx,hf x hx]⟩,by simp[sx,h34],by simp[sx,h33]⟩
   by_cases e:x=I*H+j
   ·rw[e];exact c
   ·exact f x q1 (by omega)
  ·have d1:(1:Int)<((p (I*H+j)+1:Nat):Int):=by omega
   simp only[sz,simprocAttr,d1];show wpQ C0 d ([oM 56 4,o 57 (.build [T8 0] [(0,1)] [.t 56]),o 58 (.raw (.makeInterface 175 (.tmp 57)))]++[oz (.raw (.panic (.tmp 58)))]) _ _ _ _;refine pR (by kernel_rfl) ?_;simp only[sz,simprocAttr,si,h4];refine w_ (ty:=175) (v:=.agg [T8 (i:Int)]) (by simp[sx]) ?_;exact pan _ _ _ (I*H+j) ⟨_,rfl⟩ (by omega) (by omega) (by omega) (by omega) λx hx=>by rw[f5 x hx,hf x hx]
 ·rintro t df g' ⟨rfl,ht,hu,f,A,hf⟩;refine fin t g' ht hu (λj y=>?_) A hf;rw[oT y,Qz];have:=hp1 j y
  by_cases h:I*H<=j/\j<I*H+H
  ·rw[Qw h,f j h.1 h.2];omega
  ·rw[Qu h];omega
end
end Hx
