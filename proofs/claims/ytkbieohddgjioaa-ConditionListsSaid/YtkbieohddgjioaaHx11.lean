/- A part of the proof: an interpreter over abstract values, shown right against the model, and what the functions of the chapter compute on it. -/
import Derived.Test.YtkbieohddgjioaaHx10
set_option linter.unusedVariables false
set_option linter.unusedSimpArgs false
set_option linter.unnecessarySimpa false
section
namespace Hx
open Go
noncomputable section
def qG:SC:=.feet [0,1,0,0,8,0,56,120,248,0,512,0,2048,0,14336,30720,63488,0,131072,0,0,1048576,0,7340032,15728640,32505856,66060288,133693440,268434944,536870400,1073741816,2147483647,4294967295,8589934591] [oF 153 1 4,oL 154 153,oM 155 12,oF 156 1 4,oL 157 156,oM 158 12,o 159 (.ixs 3 (.t 157) (.t 158)),oF 160 2 159,oL 161 160,oF 162 0 4,oL 163 162,oF 164 1 4,oL 165 164,oM 166 12,o 167 (.ixs 3 (.t 165) (.t 166)),oF 168 0 167,oL 169 168,oF 170 2 11,oL 171 170,oM 172 15,oF 173 1 4,oL 174 173,oM 175 12,o 176 (.ixs 3 (.t 174) (.t 175)),oF 177 0 176,oL 178 177,oA 179 178,o 180 (.bin .mul (.t 172) (.t 179)),o 181 (.call N.af [.t 163,.t 169,.t 171,.t 180]),o 182 (.bsl 1 1 [.nils] [0] [.t 181]),o 183 (.app 1 24 (.t 161) (.t 182)),o 184 (.ixs 3 (.t 154) (.t 155)),oF 185 2 184,oz (.store 1 (.t 185) (.t 183))]
structure DQ (r0 prow:List AV) (n q i p v j:Nat) (gr:Int) (r5:AV) (num:Nat->Nat) (P0:List Int) (c0:Nat->Int) (g:G) (V:Ky->AV) (E:Ky->En) (D:ND):Prop where
 dn:DN X2 r0 n q 1000 gr V E D g
 pb:V (0,2)=.hptr p 0 0 0/\E (0,2)=.bx prow
 db:DB D n i v num
 mv:D.m v=j
 pv:D.P v=P0
 cv:D.c=c0
 ok:DOk gr D n i num
theorem DQ.p {r0 prow:List AV}{n q i p v j:Nat}{gr:Int}{r5:AV}{num:Nat->Nat}{P0:List Int}{c0:Nat->Int}{g:G}{V:Ky->AV}{E:Ky->En}{D:ND}(h:DQ r0 prow n q i p v j gr r5 num P0 c0 g V E D):g.h.get p=.cells prow.length [prow] 0 false false/\2<=p/\p<g.nx:=by obtain ⟨id,h1,h2,h3,h4⟩:=h.dn.hp.box (k:=(0,2)) (.inr (.inr rfl)) h.pb.2;rw[h.pb.1] at h3;injection h3 with h3;subst h3;exact ⟨h4,h1,h2⟩
theorem DH {d n q i p v j kk:Nat}{gr:Int}{r0:List AV}{y1 y2:UInt8}{W:List UInt8}{wv r5:AV}{num:Nat->Nat}{P0:List Int}{c0:Nat->Int}{Q:QT}{t:T}{g:G}{V:Ky->AV}{E:Ky->En}{D:ND}(hd:0<d)(hn:1<=n/\n<=5)(hv:v<n)(hvi:∀k,i<k->k<n->num k≠v)(hvl:∀k,k<i->num k≠v)(hj:j<64)(hgr:0<=gr/\gr<=60)(hwv:SlR NoP kk .nil W wv)
  (h4:tat t 4=.hptr q 0 0 0) (h11:tat t 11=.hptr p 0 0 0) (h12:tat t 12=.int .i64 (v:Int)) (h15:tat t 15=.int .i64 (j:Int)) (hP:DQ r0 [u8v y1,u8v y2,wv] n q i p v j gr r5 num P0 c0 g V E D)
  (fin:∀t' g' V' E' D',(∀s,(s<153\/185<s)->tat t' s=tat t s)->DQ r0 [u8v y1,u8v y2,wv] n q i p v (j+1) gr r5 num P0 c0 g' V' E' D'->Q .norm t' [] g') :
  wp C0 d none qG Q t [] g:=by
 have hD:=hP.dn;obtain ⟨kq,q2a,q2b⟩:=hD.q (.inl rfl);obtain ⟨kp,-,hpx⟩:=hP.p;have kp:g.h.get p=.cells 3 [[u8v y1,u8v y2,wv]] 0 false false:=kp;unfold qG;have rns:=hD.ns.rows;have hry:=nN hD.ns (by simp;omega);have u3:v<((List.range n).map (dX D V)).length:=by simpa using hv
 have u4:=d7 (dX D V) hv;have u4':((List.range n).map (dX D V))[v]?=some [.int .i64 (D.c v),V (v+1,0),V (v+1,1)]:=u4;have hrs:=hD.bn.rs v hv;have hnx:=hD.hp.nx;obtain ⟨C,hC,hCb⟩:∃C:Nat,D.c v=(C:Int)/\(C=2\/C=3):=by
  rcases hP.db.c v hv with h | h
  ·exact ⟨2,h,.inl rfl⟩
  ·exact ⟨3,h,.inr rfl⟩
 have hjC:j*(C+1)<=64*4:=Nat.mul_le_mul (by omega) (by omega);have w1:IntKind.wrap .i64 ((C:Int)+1)=((C+1:Nat):Int):=by rw[ay (by omega) (by omega)];rfl
 have w2:IntKind.wrap .i64 ((j:Int)*((C+1:Nat):Int))=((j*(C+1):Nat):Int):=by rw[<-Int.natCast_mul,ay (by omega) (by omega)]
 rw[hC] at u4';simp only[sz,simprocAttr,sf,h4,h11,h12,h15,kq,kp,rns,u3,u4',hry,w1,w2,qf];refine gu (Fj (C:=C) (F:=j*(C+1)) (gr:=gr) (l:=W) hd (by omega) (by omega) hgr hwv) ?_;rintro r ⟨l,⟨hl,hlg'⟩,_,e1,hr⟩;injection e1 with e1;subst e1;have hrc:=hr.cell;simp only[sz,simprocAttr,sf,hrc.1,hrc.2];refine (hD.hp.step (g':=_) ?_ ?_).app2 (k:=(v+1,1)) (.inl (LN.r hv)) hrs.1 (new:=[[r]]) (by simp[sx,sy]) (by unfold aT;simp;rw[hP.mv];omega) λv1 g1 hH1 n1 fb1 fo1 lg1 vc vt=>?_
 ·simp;omega
 ·intro i _ hi;simp[H.get_put];omega
 simp only[sx,sy] at n1 fb1 fo1 lg1;have hnk:¬LNX X2 n D (v+1,2+j):=by
  rintro (h | h)
  ·rcases h with h | ⟨i',q',h,-,hq⟩
   ·simp at h
   ·rw[hP.db.o] at hq;simp only[Prod.mk.injEq] at h;omega
  ·rcases h with h | h<;>simp at h
 have hH1:=hH1.off (x:=r) hnk;have e00:ups (ups V (v+1,1) v1) (v+1,2+j) r (0,0)=V (0,0):=by rw[ae _ _ (by simp),ae _ _ (by simp)]
 have hE00:ups E (v+1,1) (.sl 1 ((List.range (D.m v)).map (xq V v)++[[r]])) (0,0)=.sl 3 ((List.range n).map (dX D V)):=by rw[ae _ _ (by simp)];exact hD.bn.ns
 have rns1:ah g1.h 3 (V (0,0))=some ((List.range n).map (dX D V)):=by rw[<-e00];exact (hH1.own (k:=(0,0)) (.inl LN.z) hE00).rows
 simp only[sz,simprocAttr,sf,rns1,u3,hry];refine (hH1.same (g':=_) ?_ ?_).putv (k:=(0,0)) (.inl LN.z) e00 (row':=[.int .i64 (C:Int),V (v+1,0),v1]) hE00 u4 (by rw[vc];rfl) vt (by rw[vc,dX,hC];rfl) λg2 hH2 n2 fb2 fo2=>?_
 ·simp
 ·simp;omega
 simp only[sy];refine ⟨?_,?_⟩
 ·simp only[List.reverse_cons,List.reverse_nil,List.nil_append,List.cons_append];refine aW [false,false,false,false,false,false,false,false,false,false,false,false,false,false,false,false,false,false,false,false,false,false,false,false,false,false,false,false,false,true,true,false,false,true] [(0,29),(1,29),(2,29),(3,29),(4,29),(5,29),(6,29),(7,29),(8,29),(0,30),(1,30),(2,30)] (by simp[All2,af,au]) (by decide) ?_;have hlg:∀i∈g1.lg,i≠q:=λi hi e=>by
   rcases lg1 i hi with h | h | h
   ·simp at h
   ·exact tC hD.hp (.inl (LN.r hv)) (.inr (.inl rfl)) (by simp) h (by rw[hD.vb,e];rfl)
   ·omega
  obtain ⟨id0,ep0,hid0,hv0⟩:∃id ep,id<g.nx/\V (0,0)=.hsl id ep 0 ((List.range n).map (dX D V)).length none:=by
   rcases hD.ns with ⟨h,e⟩ | ⟨id,ep,lo,-,h1,h2,-⟩
   ·have:=congrArg List.length e;simp at this;omega
   ·exact ⟨id,ep,h1,h2⟩
  have hlg2:∀i∈g1.lg,i≠id0:=λi hi e=>by
   rcases lg1 i hi with h | h | h
   ·simp at h
   ·exact tC hD.hp (.inl (LN.r hv)) (.inl LN.z) (by simp) h (by rw[hv0,e];rfl)
   ·omega
  rintro p hp' x y hx hy;simp only[List.mem_cons,List.not_mem_nil,or_false] at hp';rcases hp' with rfl | rfl | rfl | rfl | rfl | rfl | rfl | rfl | rfl | rfl | rfl | rfl<;>(simp at hx hy;subst hx;subst hy;refine di rfl rfl rfl rfl ?_ ?_ ?_<;>simp[af,au,ac,hv0,fq]<;>first | omega | exact hlg | exact hlg2 | exact λi hi e=>hlg i hi e.symm | exact λi hi e=>hlg2 i hi e.symm)
 have hmv:=hP.mv;refine fin _ _ (ups (ups V (v+1,1) v1) (v+1,2+j) r) _ { D with m:=ups D.m v (j+1),R:=ups D.R v (ups (D.R v) j l) } (λs hs=>?_) ⟨⟨(hH2.same (g':=_) (by simp) (by simp)).sub λk hk=>hk,⟨?_,λu hu=>?_,λu hu=>?_,λu r' hu hr'=>?_⟩,?_,?_,?_,?_⟩,⟨?_,?_⟩,⟨hP.db.c,hP.db.p,λu hu=>?_,hP.db.o,λk hk hkn=>?_⟩,ax _ _ _,hP.pv,hP.cv,?_⟩
 ·simp only[jQ]
  repeat rw[if_neg (by omega)]
 ·rw[ax,jp _ _ hv];congr 1;refine qv ?_ λj hj hne=>by simp[dX,ae,hne]
  show _=[AV.int .i64 (D.c v),ups (ups V (v+1,1) v1) (v+1,2+j) r (v+1,0),ups (ups V (v+1,1) v1) (v+1,2+j) r (v+1,1)];rw[hC,ae _ _ (by first | (simp;done) | (simp;omega)),ae _ _ (by first | (simp;done) | (simp;omega)),ae _ _ (by first | (simp;done) | (simp;omega)),ax]
 ·rw[ae _ _ (by simp),ae _ _ (by simp)];exact hD.bn.ps u hu
 ·by_cases e:u=v
  ·subst e;rw[ae _ _ (by simp),ax];show En.sl 1 _=En.sl 1 ((List.range (ups D.m u (j+1) u)).map _)/\ups D.m u (j+1) u<=1000;rw[ax];refine ⟨?_,by omega⟩;rw[hmv,List.range_succ,List.map_append];congr 2
   ·exact List.map_congr_left λr' hr'=>by have:=List.mem_range.1 hr';simp[xq,ae,show ¬r'=j by omega,show ¬2+r'=1 by omega]
   ·simp[xq,ax]
  ·rw[ae _ _ (by simp),ae _ _ (by simp[e])];show E (u+1,1)=En.sl 1 ((List.range (ups D.m v (j+1) u)).map _)/\ups D.m v (j+1) u<=1000;rw[ae _ _ e];have:=hD.bn.rs u hu;refine ⟨?_,this.2⟩;rw[this.1];congr 1;exact List.map_congr_left λr' _=>by simp[xq,ae,e]
 ·by_cases e:u=v
  ·subst e;have hr':r'<ups D.m u (j+1) u:=hr';rw[ax] at hr';show (ups D.R u (ups (D.R u) j l) u r').length<=1000/\((r'<D.o u/\_=En.sl 1 ((ups D.R u (ups (D.R u) j l) u r').map ci))\/SlR NoP 0 .nil (ups D.R u (ups (D.R u) j l) u r') _);rw[ax]
   by_cases e2:r'=j
   ·subst e2;rw[ax,ax];exact ⟨by omega,.inr hr⟩
   ·rw[ae _ _ e2,ae _ _ (by first | (simp;done) | (simp;omega)),ae _ _ (by first | (simp;done) | (simp;omega)),ae _ _ (by simp[e2]),ae _ _ (by first | (simp;done) | (simp;omega))];exact hD.bn.rr u r' hu (by omega)
  ·have hr':r'<ups D.m v (j+1) u:=hr';rw[ae _ _ e] at hr';show (ups D.R v (ups (D.R v) j l) u r').length<=1000/\((r'<D.o u/\_=En.sl 1 ((ups D.R v (ups (D.R v) j l) u r').map ci))\/SlR NoP 0 .nil (ups D.R v (ups (D.R v) j l) u r') _);rw[ae _ _ e,ae _ _ (by first | (simp;done) | (simp;omega)),ae _ _ (by first | (simp;done) | (simp;omega)),ae _ _ (by simp[e]),ae _ _ (by simp[e])];exact hD.bn.rr u r' hu hr'
 ·rw[ae _ _ (by simp),ae _ _ (by simp)];exact hD.vb
 ·rw[ae _ _ (by simp),ae _ _ (by simp),ae _ _ (by simp),ae _ _ (by simp)];exact hD.bx
 ·simp only[bumpG_h];rw[fb2 0 (by omega)];simp;rw[fb1 0 (by omega),if_neg (by omega),hD.h0]
 ·simp only[bumpG_h];rw[fb2 1 (by omega)];simp;rw[fb1 1 (by omega),if_neg (by omega),hD.h1]
 ·rw[ae _ _ (by simp),ae _ _ (by simp)];exact hP.pb.1
 ·rw[ae _ _ (by simp),ae _ _ (by simp)];exact hP.pb.2
 ·show ups D.m v (j+1) u<=64
  by_cases e:u=v
  ·rw[e,ax];omega
  ·rw[ae _ _ e];exact hP.db.m u hu
 ·show D.P (num k)=[]/\ups D.m v (j+1) (num k)=0;rw[ae _ _ (hvi k hk hkn)];exact hP.db.f k hk hkn
 ·have hok:=hP.ok;refine ⟨hok.s,hok.a,λk hk=>?_,λu r' hu hr'=>?_⟩
  ·show ((ups D.m v (j+1) (num k):Nat):Int)=_;rw[ae _ _ (hvl k hk)];exact hok.w k hk
  ·show C2 gr (D.c u) (ups D.R v (ups (D.R v) j l) u r');have hr':r'<ups D.m v (j+1) u:=hr'
   by_cases e:u=v
   ·rw[e,ax] at hr' ⊢
    by_cases e2:r'=j
    ·rw[e2,ax,hC];exact hlg'
    ·rw[ae _ _ e2];exact hok.r v r' hv (by omega)
   ·rw[ae _ _ e] at hr' ⊢;exact hok.r u r' hu hr'
theorem yP {gr:Int}{n v:Nat}{D:ND}(hv:v<n)(hp:∀y∈D.P v,0<=y/\y<n):S.am (S.aa ⟨gr,(List.range n).map D.node⟩) (D.P v)=(D.P v).map λy=>D.c y.toNat:=by
 unfold S.am S.aa;refine List.map_congr_left λy hy=>?_;have:=hp y hy;rw[List.map_map];have h:y.toNat<n:=by omega
 simp[h,ND.node]
theorem qu {n v:Nat}{D:ND}(hv:v<n)(hc:∀u,u<n->D.c u=2\/D.c u=3)(hp:(D.P v).length<=3/\∀y∈D.P v,0<=y/\y<n):(∀c∈(D.P v).map λy=>D.c y.toNat,1<=c/\c<=4)/\1<=S.aR (D.P v) D.c/\S.aR (D.P v) D.c<=64:=by
 have h1:∀c∈(D.P v).map λy=>D.c y.toNat,1<=c/\c<=4:=λc h=>by obtain ⟨y,hy,rfl⟩:=List.mem_map.1 h;have:=hp.2 y hy;have:=hc y.toNat (by omega);omega
 have h2:=fM h1;have h3:=jP (a:=((D.P v).map λy=>D.c y.toNat).length) (b:=3) (by simpa using hp.1);have h4:(4:Int) ^ 3=64:=by decide
 refine ⟨h1,h2.1,?_⟩;unfold S.aR;omega
structure DRw (r0 prow:List AV) (n q i p v j:Nat) (gr:Int) (r5:AV) (num:Nat->Nat) (P0:List Int) (c0:Nat->Int) (t:T) (g:G):Prop where
 st:St t (LDB n q i p v r5)
 hd:∃V E D,DQ r0 prow n q i p v j gr r5 num P0 c0 g V E D
theorem Fb {d n q i p v kk:Nat}{gr:Int}{r0:List AV}{y1 y2:UInt8}{W:List UInt8}{wv r5:AV}{num:Nat->Nat}{P0:List Int}{c0:Nat->Int}{Q:QT}{t:T}{g:G}(hd:0<d)(hn:1<=n/\n<=5)(hv:v<n)(hvi:∀k,i<k->k<n->num k≠v)(hvl:∀k,k<i->num k≠v)(hgr:0<=gr/\gr<=60)(hwv:SlR NoP kk .nil W wv)
  (h0:DRw r0 [u8v y1,u8v y2,wv] n q i p v 0 gr r5 num P0 c0 t g) (h15:tat t 15=.int .i64 0)
  (fin:∀(t:T) (g:G) (j:Nat),(j:Int)=S.aR P0 c0->DRw r0 [u8v y1,u8v y2,wv] n q i p v j gr r5 num P0 c0 t g->Q (.exit 8) t [] g):wpL (wp C0 d none dt) Q t [] g:=by
 have hM:1<=S.aR P0 c0/\S.aR P0 c0<=64:=by obtain ⟨-,V,E,D,hQ⟩:=h0;have:=(qu hv hQ.db.c (hQ.db.p v hv)).2;rw[hQ.pv,hQ.cv] at this;exact this
 obtain ⟨M,hMe⟩:=Int.eq_ofNat_of_zero_le (show 0<=S.aR P0 c0 by omega);obtain ⟨FR,hFR⟩:∃FR,FR=qG:=⟨_,rfl⟩;simp only[dt];rw[show (SC.feet [0,1,0,0,8,0,56,120,248,0,512,0,2048,0,14336,30720,63488,0,131072,0,0,1048576,0,7340032,15728640,32505856,66060288,133693440,268434944,536870400,1073741816,2147483647,4294967295,8589934591] [oF 153 1 4,oL 154 153,oM 155 12,oF 156 1 4,oL 157 156,oM 158 12,o 159 (.ixs 3 (.t 157) (.t 158)),oF 160 2 159,oL 161 160,oF 162 0 4,oL 163 162,oF 164 1 4,oL 165 164,oM 166 12,o 167 (.ixs 3 (.t 165) (.t 166)),oF 168 0 167,oL 169 168,oF 170 2 11,oL 171 170,oM 172 15,oF 173 1 4,oL 174 173,oM 175 12,o 176 (.ixs 3 (.t 174) (.t 175)),oF 177 0 176,oL 178 177,oA 179 178,o 180 (.bin .mul (.t 172) (.t 179)),o 181 (.call N.af [.t 163,.t 169,.t 171,.t 180]),o 182 (.bsl 1 1 [.nils] [0] [.t 181]),o 183 (.app 1 24 (.t 161) (.t 182)),o 184 (.ixs 3 (.t 154) (.t 155)),oF 185 2 184,oz (.store 1 (.t 185) (.t 183))])=FR from hFR.symm];refine dg M (by omega) (λj t df g=>df=[]/\DRw r0 [u8v y1,u8v y2,wv] n q i p v j gr r5 num P0 c0 t g) ⟨rfl,h0⟩ h15 (by decide) ?_ ?_ ?_ ?_
 ·rintro j t df g w s (rfl | rfl | rfl) ⟨a1,⟨b1,b2,b3,b4,b5,b6,b7,b8,-⟩,c⟩<;>exact ⟨a1,by simp[St,LDB,sx,b1,b2,b3,b4,b5,b6,b7,b8],c⟩
 ·rintro j t df g hj ⟨rfl,⟨h1,h2,h3,h4,h5,h10,h11,h12,-⟩,V,E,D,hQ⟩ h15;obtain ⟨kq,q2a,q2b⟩:=hQ.dn.q (.inl rfl);have hnodes:=hQ.dn.bn.nodes hQ.dn.hp (λk h=>.inl h) (by omega) (by omega);have hnet:Agg (⟨gr,(List.range n).map D.node⟩:Net) (λj=>2<=j) 0 g.h (.agg [.int .i64 gr,V (0,0)]):=⟨_,rfl,lT.2 ⟨_,rfl,hnodes⟩⟩;have hpv:=hQ.db.p v hv;obtain ⟨r,er,hr⟩:=Ai (d:=d) (g:=g) (i:=v) (x:=D.node v) hd hnet (by simp;omega) (by simp[hv]) (by show (D.P v).length<_;omega) (λy hy=>by have:=hpv.2 y hy;simp;omega);have hpar:=yP (gr:=gr) hv hpv.2;have hb:=qu hv hQ.db.c hpv;have hsz:=CA (d:=d) (g:=g) hd (hr.sl g.h);have hse:S.aT (S.am (S.aa ⟨gr,(List.range n).map D.node⟩) (D.node v).parents)=(M:Int):=by show S.aT (S.am (S.aa ⟨gr,(List.range n).map D.node⟩) (D.P v))=(M:Int);rw[hpar,Au hb.1 (by simp;omega),<-hMe,S.aR,<-hQ.pv,<-hQ.cv]
  rw[hse] at hsz;simp only[sz,simprocAttr,h15,h4,kq,h12,er,hsz];exact ⟨by simp[St,LDB,sx,h1,h2,h3,h4,h5,h10,h11,h12],V,E,D,hQ⟩
 ·rintro j t df g hj ⟨rfl,⟨h1,h2,h3,h4,h5,h10,h11,h12,-⟩,V,E,D,hQ⟩ h15;rw[hFR];refine DH (n:=n) (q:=q) (i:=i) (p:=p) (v:=v) (j:=j) (r5:=r5) (num:=num) hd hn hv hvi hvl (by omega) hgr hwv h4 h11 h12 h15 hQ ?_;intro t' g' V' E' D' hst hQ';have hs:∀s,s<153->tat t' s=tat t s:=λs h=>hst s (.inl h);rw[tD];exact ⟨⟨rfl,by simp[St,LDB,hs,h1,h2,h3,h4,h5,h10,h11,h12],V',E',D',hQ'⟩,by rw[hs 15 (by omega),h15]⟩
 ·rintro t df g ⟨rfl,h⟩;exact fin t g M hMe.symm h
structure DBl (D:ND) (n i:Nat) (num:Nat->Nat):Prop where
 c:∀u,u<n->D.c u=2\/D.c u=3
 p:∀u,u<n->(D.P u).length<=3/\∀y∈D.P u,0<=y/\y<n
 m:∀u,u<n->D.m u<=64
 o:∀u,D.o u=0
 f:∀k,i<=k->k<n->D.P (num k)=[]/\D.m (num k)=0
structure DL (r0:List AV) (n q:Nat) (gr:Int) (r5:AV) (num:Nat->Nat) (i:Nat) (t:T) (g:G):Prop where
 st:St t (LDA n q r5)
 hd:∃V E D,DN X1 r0 n q 1000 gr V E D g/\DBl D n i num/\DOk gr D n i num
theorem Dt {n:Nat}{D:ND}:∀k,LNX X1 n D k->LNX X2 n D k:=λk h=>by
 rcases h with h | h
 ·exact .inl h
 ·exact .inr (.inl h)
theorem DF {d n q kk:Nat}{x:nZ}{gr:Int}{a b r5:AV}{pl:List Int}{num:Nat->Nat}{Q:QT}{t:T}{g:G}(hd:0<d)(hgr:0<=gr/\gr<=60)(hn:1<=n/\n<=5)(ha:SlR NoP kk .nil x.2.1 a)(h5:IT 0 pl r5)(hN:Num n pl num)
  (h0:DL [u8v x.1,a,b] n q gr r5 num 0 t g) (h10:tat t 10=.int .i64 0)
  (fin:∀t g,DL [u8v x.1,a,b] n q gr r5 num n t g->Q (.exit 2) t [] g):wpL (wp C0 d none c8) Q t [] g:=by
 obtain ⟨pr,r1,r2,r3,r4⟩:=ha.all;have r1:∀h',ah h' 3 a=some pr:=r1;have la:=ha.len;have hal:=ha.1;have r5i:∀h,ah h 1 r5=some (pl.map ci):=λh=>(h5.sl h).ints;simp only[c8,fy];refine dg n (by omega) (λj t df g=>df=[]/\DL [u8v x.1,a,b] n q gr r5 num j t g) ⟨rfl,h0⟩ h10 (by decide) ?_ ?_ ?_ ?_
 ·rintro j t df g v s (rfl | rfl | rfl) ⟨a1,⟨b1,b2,b3,b4,b5,-⟩,c3⟩<;>exact ⟨a1,by simp[St,LDA,sx,b1,b2,b3,b4,b5],c3⟩
 ·rintro j t df g hj ⟨rfl,⟨h1,h2,h3,h4,h5,-⟩,hD⟩ h10;simp only[sz,simprocAttr,h10,h3];exact ⟨by simp[St,LDA,sx,h1,h2,h3,h4,h5],hD⟩
 ·rintro j t df g hj ⟨rfl,⟨h1,h2,h3,h4,h5',-⟩,V,E,D,hD,hb,hok⟩ h10;obtain ⟨p,hp⟩:∃p,p=g.nx:=⟨_,rfl⟩;have hnx:=hD.hp.nx;refine dh (P:=λt' df g'=>df=[]/\g'=g.new (.cells 3 [[.int .u8 0,.int .u8 0,.nils]] 0 false false)/\St t' ((10,.int .i64 (j:Int))::(11,.hptr p 0 0 0)::LDA n q r5)) ?_ ?_
  ·simp only[sz,simprocAttr];simp[St,LDA,sx,h1,h2,h3,h4,h5',h10,hp]
  clear h1 h2 h3 h4 h5' h10;rintro t df g1 ⟨rfl,hg1,⟨h10,h11,h1,h2,h3,h4,h5',-⟩⟩;have f1:Fr g g1:=by rw[hg1];exact Fr.new _ _
  have k8:g1.h.get p=.cells 3 [[.int .u8 0,.int .u8 0,.nils]] 0 false false:=by rw[hg1,hp];simp[H.get_put]
  have n1:p<g1.nx:=by rw[hg1,hp];simp
  clear hg1;have hD1:=hD.same f1;have e0:=hD1.h0;refine dh (P:=λt' df g'=>df=[]/\Fr g g'/\St t' ((10,.int .i64 (j:Int))::(11,.hptr p 0 0 0)::LDA n q r5)/\p<g'.nx/\∃(y1 y2:UInt8) (W:List UInt8) (wv:AV),SlR NoP kk .nil W wv/\g'.h.get p=.cells 3 [[u8v y1,u8v y2,wv]] 0 false false) ?_ ?_
  ·simp only[sz,simprocAttr,h10,h1,e0,la];refine jU (λhb=>?_) (λhb=>?_)
   ·have hb:j<x.2.1.length:=by simpa using hb
    obtain ⟨y,hy,-,-⟩:=aK hb;obtain ⟨row,q1,q2⟩:=r3 j y hy;obtain ⟨wv,rfl,hwv⟩:=sT.1 q2;have hlt:j<pr.length:=by omega
    have hry:=r4 (by omega);simp only[sz,simprocAttr,h10,h1,e0,r1,hlt,q1,h11,k8];refine ⟨?_,by simp[St,LDA,sx,h1,h2,h3,h4,h5',h10,h11],by simpa using n1,y.1,y.2.1,y.2.2,wv,hwv,by simp[H.get_put]⟩;exact ⟨Nat.le_trans f1.1 (by simp),λi hi=>by simp[H.get_put,show ¬i=p by omega];exact f1.2 i hi⟩
   ·simp only[sx,sy];exact ⟨f1,by simp[St,LDA,sx,h1,h2,h3,h4,h5',h10,h11],n1,0,0,[],.nils,⟨by show 0<9223372036854775808;decide,rfl⟩,k8⟩
  clear h1 h2 h3 h4 h5' h10 h11 e0 hD1 k8 n1 f1;rintro t df g2 ⟨rfl,f2,⟨h10,h11,h1,h2,h3,h4,h5',-⟩,n2,y1,y2,W,wv,hwv,k8⟩;have hH:=hD.hp.add (g':=g2) (k:=(0,2)) (L':=LNX X2 n D) (v':=.hptr p 0 0 0) (e':=.bx [u8v y1,u8v y2,wv]) (by
   rintro (h | h)
   ·rcases h with h | ⟨i',q',h,-,-⟩<;>simp at h
   ·simp[X1] at h) ⟨p,by omega,n2,rfl,k8⟩ f2.1 (λi _ hi=>f2.2 i hi) (λi hi=>by injection hi with hi;omega) (λk hk=>by
   rcases hk with h | h | h
   ·exact .inl (.inl h)
   ·exact .inl (.inr h)
   ·exact .inr h)
  have hfj:=hb.f j (Nat.le_refl _) hj;have hvn:=hN.lt j hj;have hvi:∀k,j<k->k<n->num k≠num j:=λk h1 h2 e=>by have:=hN.inj k j h2 hj e;omega
  have hvl:∀k,k<j->num k≠num j:=λk h1 e=>by have:=hN.inj k j (by omega) hj e;omega
  have hDP:DP [u8v x.1,a,b] [u8v y1,u8v y2,wv] n q j p (num j) gr r5 num g2 (ups V (0,2) (.hptr p 0 0 0)) (ups E (0,2) (.bx [u8v y1,u8v y2,wv])) D:=by
   refine ⟨⟨hH,⟨?_,λu hu=>?_,λu hu=>?_,λu r hu hr=>?_⟩,?_,?_,by rw[f2.2 0 (by omega),hD.h0],by rw[f2.2 1 (by omega),hD.h1]⟩,⟨ax _ _ _,ax _ _ _⟩,⟨hb.c,hb.p,hb.m,hb.o,λk h1 h2=>hb.f k (by omega) h2⟩,hfj.2,hok⟩
   ·rw[ae _ _ (by simp),hD.bn.ns];exact congrArg (En.sl 3) (List.map_congr_left λu _=>by simp[dX,ae])
   ·rw[ae _ _ (by simp)];exact hD.bn.ps u hu
   ·rw[ae _ _ (by simp)];have:=hD.bn.rs u hu;refine ⟨?_,this.2⟩;rw[this.1];exact congrArg (En.sl 1) (List.map_congr_left λr _=>by simp[xq,ae])
   ·rw[ae _ _ (by simp),ae _ _ (by simp)];exact hD.bn.rr u r hu hr
   ·rw[ae _ _ (by simp)];exact hD.vb
   ·rw[ae _ _ (by simp),ae _ _ (by simp)];exact hD.bx
  have u1:j<(pl.map ci).length:=by rw[List.length_map,hN.len];exact hj
  have u2:(pl.map ci)[j]?=some (ci (num j:Int)):=by rw[List.getElem?_map,hN.at_ j hj];rfl
  simp only[sz,simprocAttr,fw,h5',h10,r5i,u1,u2,ci];refine Fa (n:=n) (q:=q) (i:=j) (p:=p) (v:=num j) (r5:=r5) (num:=num) hn h5 hN hj rfl ⟨by simp[St,LDB,sx,h1,h2,h3,h4,h5',h10,h11],_,_,_,hDP,λy hy=>by rw[hfj.1] at hy;simp at hy⟩ (by simp[sx]) ?_;clear h1 h2 h3 h4 h5' h10 h11 hDP hH;rintro t g3 ⟨⟨h1,h2,h3,h4,h5',h10,h11,h12,-⟩,V3,E3,D3,hP3,-⟩;simp only[sz,simprocAttr,f8];refine Fb (n:=n) (q:=q) (i:=j) (p:=p) (v:=num j) (r5:=r5) (num:=num) (P0:=D3.P (num j)) (c0:=D3.c) hd hn hvn hvi hvl hgr hwv ⟨by simp[St,LDB,sx,h1,h2,h3,h4,h5',h10,h11,h12],V3,E3,D3,hP3.dn,hP3.pb,hP3.db,hP3.mv,rfl,rfl,hP3.ok⟩ (by simp[sx]) ?_;clear h1 h2 h3 h4 h5' h10 h11 h12 hP3;rintro t g4 M hMp ⟨⟨h1,h2,h3,h4,h5',h10,h11,h12,-⟩,V4,E4,D4,hQ4⟩;simp only[sx,sy,↓reduceIte];have hd4:=hQ4.dn;refine ⟨⟨by simp[St,LDA,h1,h2,h3,h4,h5'],V4,E4,D4,⟨hd4.hp.sub Dt,hd4.bn,hd4.vb,hd4.bx,hd4.h0,hd4.h1⟩,⟨hQ4.db.c,hQ4.db.p,hQ4.db.m,hQ4.db.o,λk hk hkn=>hQ4.db.f k hk hkn⟩,⟨hQ4.ok.s,hQ4.ok.a,λk hk=>?_,hQ4.ok.r⟩⟩,h10⟩
  by_cases e:k=j
  ·rw[e,hQ4.mv,hQ4.pv,hQ4.cv,hMp]
  ·exact hQ4.ok.w k (by omega)
 ·rintro t df g ⟨rfl,h⟩;exact fin t g h
structure Drafted (m:Net):Prop where
 l:1<=m.nodes.length/\m.nodes.length<=5
 c:∀x∈m.nodes,x.card=2\/x.card=3
 b:∀x∈m.nodes,x.parents.length<=1000/\x.rows.length<=1000/\∀r∈x.rows,r.length<=1000
 nr:NR m
theorem Aj {l:List Int}{n:Int}(hs:l.Pairwise (·<·))(hb:∀y∈l,0<=y/\y<n):S.aY l n=true:=by
 simp only[S.aY,S.bh,List.all_eq_true,List.mem_range,Bool.and_eq_true,Bool.or_eq_true,decide_eq_true_eq,beq_iff_eq];intro i hi;obtain ⟨x,hx⟩:∃x,l[i]?=some x:=⟨_,List.getElem?_eq_getElem hi⟩;have:=hb x (List.mem_of_getElem? hx);rw[hx,Option.getD_some];refine ⟨this,?_⟩
 by_cases e:i=0
 ·exact .inl e
 ·right;obtain ⟨y,hy⟩:∃y,l[i - 1]?=some y:=⟨_,List.getElem?_eq_getElem (by omega)⟩;rw[hy,Option.getD_some];have h1:=(List.getElem?_eq_some_iff.1 hx).2;have h2:=(List.getElem?_eq_some_iff.1 hy).2;rw[<-h1,<-h2];exact List.pairwise_iff_getElem.1 hs (i - 1) i (by omega) hi (by omega)
def Cd (num:Nat->Nat):Nat->Nat
 | 0=>0
 | k+1=>Cd num k ||| S.an (num k)
theorem tM {n:Nat}{pl:List Int}{num:Nat->Nat}(hN:Num n pl num)(hn:n<=64)(v:Nat):∀k,k<=n->((Cd num k).testBit v=true↔∃k',k'<k/\num k'=v)
 | 0,_=>by simp[Cd]
 | k+1,hk=>by
  have hlt:=hN.lt k (by omega);rw[Cd,lP,pO (by omega),Bool.or_eq_true,decide_eq_true_eq,tM hN hn v k (by omega)];constructor
  ·rintro (⟨k',h1,h2⟩ | h)
   ·exact ⟨k',by omega,h2⟩
   ·exact ⟨k,by omega,h⟩
  ·rintro ⟨k',h1,h2⟩
   by_cases e:k'=k
   ·subst e;exact .inr h2
   ·exact .inl ⟨k',by omega,h2⟩
theorem FM {gr:Int}{D:ND}{n:Nat}{pl:List Int}{num:Nat->Nat}(hN:Num n pl num)(hn:1<=n/\n<=5)(hgr:1<=gr/\gr<=60)(hb:DBl D n n num)(hok:DOk gr D n n num):NR ⟨gr,(List.range n).map D.node⟩:=by
 have hcl:(S.aa ⟨gr,(List.range n).map D.node⟩)=(List.range n).map D.c:=by unfold S.aa;rw[List.map_map];rfl
 refine ⟨hgr.1,hgr.2,by simpa using hn.1,by simp;omega,λx hx=>?_,λx hx=>?_,?_,?_,λx hx=>?_,λx hx r hr=>?_⟩
 ·obtain ⟨u,hu,rfl⟩:=List.mem_map.1 hx;have:=hb.c u (List.mem_range.1 hu);show 1<=D.c u/\D.c u<=4;omega
 ·obtain ⟨u,hu,rfl⟩:=List.mem_map.1 hx;have hu:=List.mem_range.1 hu;refine Aj (hok.s u hu) λy hy=>?_;have:=(hb.p u hu).2 y hy;simpa using this
 ·rw[hcl];have h1:∀c∈(List.range n).map D.c,1<=c/\c<=4:=λc hc=>by obtain ⟨u,hu,rfl⟩:=List.mem_map.1 hc;have:=hb.c u (List.mem_range.1 hu);omega
  have h2:=fM h1;have h3:=jP (a:=((List.range n).map D.c).length) (b:=5) (by simpa using hn.2);have h4:(4:Int) ^ 5=1024:=by decide
  omega
 ·have hpl:(S.ae ⟨gr,(List.range n).map D.node⟩).length=n:=by simp[S.ae]
  have hpar:∀v,v<n->Par (S.ae ⟨gr,(List.range n).map D.node⟩) v=S.af (D.P v):=λv hv=>by simp[Par,S.ae,hv,ND.node]
  have hgood:∀k,k<=n->zo (S.ae ⟨gr,(List.range n).map D.node⟩) (Cd num k):=λk=>by
   induction k with
   | zero=>exact λ_=>sA
   | succ k ih =>
    intro hk;have hlt:=hN.lt k (by omega);refine uQ (ih (by omega)) (by omega) λu hu=>?_;rw[hpar _ hlt] at hu;have hu:=(pD λx hx=>by have:=(hb.p _ hlt).2 x hx;omega).1 hu;obtain ⟨k',h1,h2⟩:=hok.a k (by omega) _ hu;exact (tM hN (by omega) u k (by omega)).2 ⟨k',h1,by omega⟩
  refine na (hgood n (Nat.le_refl _)) λv hv=>?_;rw[hpl] at hv;exact (tM hN (by omega) v n (Nat.le_refl _)).2 (hN.sur v hv)
 ·obtain ⟨u,hu,rfl⟩:=List.mem_map.1 hx;have hu:=List.mem_range.1 hu;obtain ⟨k,hk,rfl⟩:=hN.sur u hu;show (((List.range (D.m (num k))).map (D.R (num k))).length:Int)=S.ac (S.am _ (D.P (num k)));rw[yP hu (hb.p _ hu).2];have:=hok.w k hk;unfold S.aR at this;rw[<-this];simp
 ·obtain ⟨u,hu,rfl⟩:=List.mem_map.1 hx;have hu:=List.mem_range.1 hu;obtain ⟨r',hr',rfl⟩:=List.mem_map.1 hr;exact hok.r u r' hu (List.mem_range.1 hr')
def AH:VS:=λP k h v=>∃m:Net,Drafted m/\Agg m P k h v
def V0 (W:AV)(q:Nat):Ky->AV:=λk=>match k with
 | (0,0)=>W
 | (0,1)=>.hptr q 0 0 0
 | _=>.nils
def E0 (W:AV)(n:Nat)(gr:Int):Ky->En:=λk=>match k with
 | (0,0)=>.sl 3 (List.replicate n [.int .i64 0,.nils,.nils])
 | (0,1)=>.bx [.int .i64 gr,W]
 | _=>.sl 1 []
def D0:ND:=⟨λ_=>0,λ_=>[],λ_=>0,λ_ _=>[],λ_=>0⟩
theorem hp0 {W:AV}{n q:Nat}{gr:Int}{g:G}(hW:Own g 2 W 3 (List.replicate n [.int .i64 0,.nils,.nils]))(hq:g.h.get q=.cells 2 [[.int .i64 gr,W]] 0 false false)(h2:2<=q/\q<g.nx)(hne:vid W≠some q):Hp g 2 (LNX X1 n D0) (V0 W q) (E0 W n gr):=by
 have hk:∀k,LNX X1 n D0 k->k=(0,0)\/k=(0,1)\/∃i s,k=(i+1,s):=λk h=>by
  rcases h with h | h
  ·rcases h with h | ⟨i,s,h,-⟩
   ·exact .inl h
   ·exact .inr (.inr ⟨i,s,h⟩)
  ·exact .inr (.inl h)
 refine ⟨λk h=>?_,λk l h h' hkl id h1 h3=>?_,by omega⟩
 ·rcases hk k h with rfl | rfl | ⟨i,s,rfl⟩
  ·exact hW
  ·exact ⟨q,h2.1,h2.2,rfl,hq⟩
  ·exact .inl ⟨rfl,rfl⟩
 ·rcases hk k h with rfl | rfl | ⟨i,s,rfl⟩<;>rcases hk l h' with rfl | rfl | ⟨i',s',rfl⟩
  ·exact hkl rfl
  ·have h1:eid W=some id:=h1;have h3:some q=some id:=h3;rw[eS hW] at h1;injection h3 with h3;subst h3;exact hne h1
  ·cases h3
  ·have h3:eid W=some id:=h3;have h1:some q=some id:=h1;rw[eS hW] at h3;injection h1 with h1;subst h1;exact hne h3
  ·exact hkl rfl
  ·cases h3
  ·cases h1
  ·cases h1
  ·cases h1
theorem Dj {x:Int}{w:AV}(h:w.cells=[w])(h2:w.isTup=false):gG [.int .i64 0,.nils] [((0,1),.int .i64 x),((1,1),w)]=some [.int .i64 x,w]:=by
 have k1:(AV.int .i64 x).cells=[.int .i64 x]:=rfl;have k2:(AV.int .i64 x).isTup=false:=rfl;simp[gG,h,h2,i8,k1,k2]
 rfl
theorem Di {a b:AV}(ha:a.cells=[a]/\a.isTup=false)(hb:b.cells=[b]/\b.isTup=false):gG [.nils,.int .u16 0,.nils] [((0,1),a),((2,1),b)]=some [a,.int .u16 0,b]:=by
 simp[gG,ha,hb,i8]
 rfl
theorem Dg {d k:Nat}{g:G}{P:Nat->Prop}{v:AV}{x:nZ}(hd:0<d)(hm:Agg x P k g.h v):∃r,aG C0 d N.aI [v] g=.val r/\AH NoP 0 .nil r:=by
 obtain ⟨v',e,cs,rfl,hc⟩:=mJ (gO x) (by decide) d hm;obtain ⟨a,b,rfl,ha,hb⟩:=sS.1 hc;have ha:=ha.tree (h':=.nil) (Nat.le_refl _);have hb:=hb.tree (h':=.nil) (Nat.le_refl _);rw[kY];refine cy mQ (xs:=[.agg [u8v x.1,a,b]]) (by simp only[aJ,e]) (by simp[eZ]) (mi λm=>gO _) (by decide) hd ?_;simp only[sz,simprocAttr,eZ];obtain ⟨g0,hg0⟩:∃g0,g0=(G.empty.new (.cells 3 [[u8v x.1,a,b]] 0 false false)).new (.cells 2 [[.int .i64 0,.nils]] 0 false false):=⟨_,rfl⟩;rw[<-hg0];have f0:g0.h.get 0=.cells 3 [[u8v x.1,a,b]] 0 false false:=by rw[hg0];simp[sx,H.get_put]
 have f1:g0.h.get 1=.cells 2 [[.int .i64 0,.nils]] 0 false false:=by rw[hg0];simp[sx]
 have f2:g0.nx=2:=by rw[hg0];simp[sx]
 clear hg0;have la:=ha.len;have hal:=ha.1;unfold gF;obtain ⟨n,hn,hnb⟩:∃n:Nat,n=min (max x.2.1.length 1) 5/\1<=n/\n<=5:=⟨_,rfl,by omega⟩;refine dh (P:=λt' df g'=>df=[]/\g'=g0/\St t' [(1,.hptr 0 0 0 0),(2,.hptr 1 0 0 0),(3,.int .i64 (n:Int))]) ?_ ?_
 ·simp only[sz,simprocAttr,f0,la];simp[St,sx];omega
 rintro t df g1 ⟨rfl,rfl,h1,h2,h3,-⟩;obtain ⟨gr,hgr,hgb⟩:∃gr:Int,gr=1+(x.1.toNat:Int) % 60/\0<=gr/\gr<=60:=⟨_,rfl,by omega,by omega⟩;have q1:=da .u8 (a:=(x.1.toNat:Int)) (b:=60) (by omega) (by omega);have w1:IntKind.wrap .i64 ((x.1.toNat:Int) % 60)=(x.1.toNat:Int) % 60:=ay (by omega) (by omega);have w2:IntKind.wrap .i64 (1+(x.1.toNat:Int) % 60)=gr:=by rw[hgr,ay (by omega) (by omega)]
 refine dh (P:=λt' df g'=>df=[]/\∃q V E D,St t' [(1,.hptr 0 0 0 0),(2,.hptr 1 0 0 0),(3,.int .i64 (n:Int)),(4,.hptr q 0 0 0)]/\DN X1 [u8v x.1,a,b] n q 1000 gr V E D g'/\(∀u,D.P u=[]/\D.m u=0/\D.o u=0)) ?_ ?_
 ·simp only[sz,simprocAttr,sf,h1,h3,f0,u8v,q1,w1,w2];refine jN (b:=2) (n:=n) (by unfold aT;omega) (by unfold aT;omega) (by first | (simp;done) | (simp;omega)) λW g2 hW n2 f2' vW lg2=>?_;simp only[sy] at n2 f2' vW lg2;simp only[sz,simprocAttr,sf,Dj hW.cell.1 hW.cell.2,lg2];have n2':g1.nx+7=g2.nx:=by omega
  have k0:g2.h.get 0=.cells 3 [[u8v x.1,a,b]] 0 false false:=by rw[f2' 0 (by omega),f0]
  have k1:g2.h.get 1=.cells 2 [[.int .i64 0,.nils]] 0 false false:=by rw[f2' 1 (by omega),f1]
  refine ⟨?_,g2.nx+1+1,V0 W (g2.nx+1+1),E0 W n gr,D0,by simp[St,sx,h1,h2,h3],⟨hp0 ?_ ?_ ⟨by omega,by simp⟩ ?_,⟨?_,λu _=>⟨rfl,by show 0<=1000;omega⟩,λu _=>⟨rfl,by show 0<=1000;omega⟩,λu r _ hr=>by cases hr⟩,rfl,rfl,?_,?_⟩,λu=>⟨rfl,rfl,rfl⟩⟩
  ·simp only[List.reverse_cons,List.reverse_nil,List.nil_append,List.cons_append,G.new_lg,G.put_lg,setLog_lg];refine aW [false,false,false,false,false,false,true,false,true,true] [(0,6),(1,6),(2,6),(3,6),(4,6),(0,8),(1,8),(2,8),(3,8),(4,8),(5,8),(6,8),(7,8)] (by simp[All2,af,au]) (by decide) ?_;rintro p hp' x y hx hy;simp only[List.mem_cons,List.not_mem_nil,or_false] at hp';rcases hp' with rfl | rfl | rfl | rfl | rfl | rfl | rfl | rfl | rfl | rfl | rfl | rfl | rfl<;>(simp at hx hy;subst hx;subst hy;refine di rfl rfl rfl rfl ?_ ?_ ?_<;>simp[af,au,ac]<;>omega)
  ·refine hW.fr (by simp;omega) λi hi=>?_;have:=dK vW hi;simp[H.get_put,show ¬i=g2.nx+1+1 by omega]
  ·simp[H.get_put]
  ·intro e;have:=dK vW e;omega
  ·show En.sl 3 (List.replicate n [.int .i64 0,.nils,.nils])=En.sl 3 ((List.range n).map λ_=>[.int .i64 0,.nils,.nils]);congr 1;rw[List.map_const',List.length_range]
  ·simp[H.get_put,k0];rfl
  ·simp[H.get_put,k1]
 clear h1 h2 h3;rintro t df g2 ⟨rfl,q,V,E,D,⟨h1,h2,h3,h4,-⟩,hD,hD0⟩;obtain ⟨num,hN⟩:=Fc x.2.2 n;refine dh (P:=λt' df g'=>df=[]/\Fr g2 g'/\∃r5,IT 0 (S.ax x.2.2 n) r5/\St t' (LDA n q r5)) ?_ ?_
 ·simp only[sz,simprocAttr,sf,h3];refine jN (b:=2) (n:=n) (by unfold aT;omega) (by unfold aT;omega) (by have:=hD.hp.nx;first | (simp;done) | (simp;omega)) λU g3 hU n3 f3 vU lg3=>?_;simp only[sy] at n3 f3 vU lg3;have e0:g3.h.get 0=.cells 3 [[u8v x.1,a,b]] 0 false false:=by rw[f3 0 (by have:=hD.hp.nx;omega),hD.h0]
  simp only[sz,simprocAttr,sf,h1,e0,Di hU.cell hb.cell];have hU':Own g3 2 U 1 ((List.replicate n (0:UInt8)).map λy=>[u8v y]):=by simpa [u8v] using hU
  have hpm:∀g4:G,g4.h=g3.h->∃r,aG C0 (d+1) N.ak [.agg [U,.int .u16 0,b]] g4=.val r/\IT 0 (S.ax x.2.2 n) r:=λg4 h=>by
   have:=qD (d:=d+1) (g:=g4) (k:=max k d) (P:=λ_=>True) (x:=(List.replicate n (0:UInt8),(0:UInt16),x.2.2)) (v:=.agg [U,.int .u16 0,b]) (Nat.succ_pos d) ⟨_,rfl,me.2 ⟨U,b,rfl,?_,?_⟩⟩
   ·have e:min (List.replicate n (0:UInt8)).length 5=n:=by simp;omega
    rw[e] at this;exact this
   ·rw[h];exact Own.sl (α:=UInt8) hU' (by simp;omega) (All2.of_map (λy=>d8.2 rfl) _) λ_ _=>trivial
   ·exact (hb.tree (h':=g4.h) (Nat.le_refl _)).wd λ_ h=>h.elim
  refine gu (hpm _ (by simp)) λr hr=>?_;simp only[sz,simprocAttr,sf,gq];refine ⟨?_,⟨?_,λi hi=>?_⟩,r,hr,?_⟩
  ·simp only[List.reverse_cons,List.reverse_nil,List.nil_append,List.cons_append];refine aW [false,true,false,false,false,false,false] [(1,2),(1,3)] (by simp[All2,af,au]) (by decide) ?_;rintro p hp' x y hx hy;simp only[List.mem_cons,List.not_mem_nil,or_false] at hp';rcases hp' with rfl | rfl<;>(simp at hx hy;subst hx;subst hy;refine di rfl rfl rfl rfl ?_ ?_ ?_<;>simp[af,au,ac,lg3])
  ·simp;omega
  ·simp;exact f3 i (by omega)
  ·simp[St,LDA,sx,h1,h2,h3,h4]
 clear h1 h2 h3 h4;rintro t df g3 ⟨rfl,f3,r5,hr5,⟨h1,h2,h3,h4,h5,-⟩⟩;have hD3:=hD.same f3;simp only[sz,simprocAttr];refine E9 (n:=n) (q:=q) (x:=x) (gr:=gr) (r5:=r5) (num:=num) hnb ha hr5 hN ⟨by simp[St,LDA,sx,h1,h2,h3,h4,h5],⟨1,by simp[sx],by decide⟩,V,E,D,hD3,λv _=>⟨(hD0 v).1,(hD0 v).2.1⟩,λk hk=>by omega,λu=>(hD0 u).2.2⟩ (by simp[sx]) ?_;clear h1 h2 h3 h4 h5 hD3;rintro t g4 ⟨⟨h1,h2,h3,h4,h5,-⟩,-,V4,E4,D4,hD4,hok⟩;simp only[sz,simprocAttr,fD];refine DF (n:=n) (q:=q) (x:=x) (gr:=gr) (r5:=r5) (num:=num) (Nat.succ_pos d) hgb hnb ha hr5 hN ⟨by simp[St,LDA,sx,h1,h2,h3,h4,h5],V4,E4,D4,hD4,⟨λu hu=>?_,λu hu=>?_,λu hu=>?_,?_,λk _ hk=>hok.e _ (hN.lt k hk)⟩,⟨λu hu=>by rw[(hok.e u hu).1];exact .nil,λk hk y hy=>by rw[(hok.e _ (hN.lt k hk)).1] at hy;simp at hy,λk hk=>by omega,λu r hu hr=>by rw[(hok.e u hu).2] at hr;omega⟩⟩ (by simp[sx]) ?_
 ·obtain ⟨k,hk,rfl⟩:=hN.sur u hu;exact hok.c k hk
 ·rw[(hok.e u hu).1];simp
 ·rw[(hok.e u hu).2];omega
 ·exact hok.o
 clear h1 h2 h3 h4 h5;rintro t g5 ⟨⟨h1,h2,h3,h4,h5,-⟩,V5,E5,D5,hD5,hb5,hk5⟩;obtain ⟨kq,q2a,q2b⟩:=hD5.q rfl;simp only[sz,simprocAttr,fC,h4,kq,h2,hD5.h1];have hnodes:=hD5.bn.nodes hD5.hp (λk h=>.inl h) (by omega) (by omega);refine ⟨λ_=>True,⟨gr,(List.range n).map D5.node⟩,⟨by simpa using hnb,λy hy=>?_,λy hy=>?_,FM hN hnb (by omega) hb5 hk5⟩,⟨_,rfl,lT.2 ⟨_,rfl,hnodes.wd λi hi=>⟨trivial,by simp[H.get_put,show ¬i=1 by omega]⟩⟩⟩⟩
 ·obtain ⟨u,hu,rfl⟩:=List.mem_map.1 hy;exact hb5.c u (List.mem_range.1 hu)
 ·obtain ⟨u,hu,rfl⟩:=List.mem_map.1 hy;have hu:=List.mem_range.1 hu;refine ⟨(hD5.bn.ps u hu).2,?_,λr hr=>?_⟩
  ·show ((List.range (D5.m u)).map (D5.R u)).length<=1000;simpa using (hD5.bn.rs u hu).2
  ·obtain ⟨r',hr',rfl⟩:=List.mem_map.1 hr;exact (hD5.bn.rr u r' hu (List.mem_range.1 hr')).1
def Ft (V:Ky->AV)(i:Nat)(c:Int):List AV:=[.int .i64 c,V (i+1,0),V (i+1,1)]
structure NdOk (K:Nat) (V:Ky->AV) (E:Ky->En) (i:Nat) (x:Node):Prop where
 ps:E (i+1,0)=.sl 1 (x.parents.map ci)
 rs:∃rws,E (i+1,1)=.sl 1 rws/\rws.length=x.rows.length/\∀(r:Nat) (y:List Int),x.rows[r]?=some y->rws[r]?=some [V (i+1,2+r)]
 rr:∀(r:Nat) (y:List Int),x.rows[r]?=some y->E (i+1,2+r)=.sl 1 (y.map ci)
 len:x.parents.length<=K/\x.rows.length<=K/\∀y∈x.rows,y.length<=K
def LS (L:List Node):Ky->Prop:=λk=>k=(0,0)\/∃i q x,k=(i+1,q)/\L[i]?=some x/\q<2+x.rows.length
structure BLs (K:Nat) (V:Ky->AV) (E:Ky->En) (L:List Node):Prop where
 ns:∃rows,E (0,0)=.sl 3 rows/\rows.length=L.length/\∀(i:Nat) (x:Node),L[i]?=some x->rows[i]?=some (Ft V i x.card)
 nd:∀(i:Nat) (x:Node),L[i]?=some x->NdOk K V E i x
def BBn (g:G)(brow:List AV)(gr:Int)(b:AV):Prop:=g.h.get 0=.cells 4 [brow] 0 false false/\g.h.get 1=.cells 2 [[.int .i64 gr,b]] 0 false false/\g.h.get 2=.cells 2 [[.int .i64 0,.nils]] 0 false false
def LX (L:List Node)(x:Node):Ky->Prop:=λk=>LS L k\/k=(0,1)\/∃q,k=(L.length+1,q)/\q<2+x.rows.length
structure NB (K p:Nat) (L:List Node) (x:Node) (g:G) (brow:List AV) (gr:Int) (b W:AV) (V:Ky->AV) (E:Ky->En):Prop where
 hp:Hp g 3 (LX L x) V E
 bb:BBn g brow gr b
 vb:V (0,1)=.hptr p 0 0 0
 bx:E (0,1)=.bx (Ft V L.length x.card)
 nd:NdOk K V E L.length x
 bl:BLs K V E L
 vw:V (0,0)=W
theorem y_ {α:Type} [Rp α]{g:G}{b:Nat}{u:AV}{rows:List (List AV)}(hu:Own g b u (Rp.sz α) rows)(hne:rows≠[]){n:Nat}(hn:n<=rows.length) :
  ∃y,oy (Rp.sz α) u none (some (.int .i64 (n:Int))) g=.val y/\(y.cells=[y]/\y.isTup=false)/\∀(P:Nat->Prop) (k:Nat) (l:List α) (h':H),(∀i,vid u=some i->h'.get i=g.h.get i)->SlR P k h' l u->SlR P k h' (l.take n) y:=by
 rcases hu with ⟨rfl,rfl⟩ | ⟨id,ep,lo,h1,h2,rfl,h3⟩
 ·exact absurd rfl hne
 ·simp only[oy,iA,h3,Nat.beq_refl,Bool.true_and,aq,Nat.zero_add,aa,Nat.ble_eq,Nat.le_refl,if_true,aS,Option.getD_none,Nat.sub_zero];simp only[cq];rw[show ak (n.ble rows.length) (some n) none=some n from by rw[aa,if_pos (by simpa using hn)]];dsimp only;have hb:rows.length.beq 0=false:=by cases rows with | nil=>exact absurd rfl hne | cons a l=>rfl
  rw[hb];refine ⟨_,rfl,⟨rfl,rfl⟩,λP k l h' hh h=>?_⟩;have h3':=hh id rfl;rw[h3] at h3';obtain ⟨hl,hp,rr,q1,q2⟩:=h;rw[cT,h3',oR] at q1;injection q1 with q1;subst q1;refine ⟨by rw[List.length_take];omega,hp,rows.take n,?_,q2.take n⟩;rw[cT,h3',bD,if_pos (by omega),List.drop_zero]
structure Oth (K:Nat) (L:List Node) (J:Nat) (V:Ky->AV) (E:Ky->En) (rows:List (List AV)):Prop where
 len:rows.length=L.length
 ns:∀(i:Nat) (y:Node),i≠J->L[i]?=some y->rows[i]?=some (Ft V i y.card)
 nd:∀(i:Nat) (y:Node),i≠J->L[i]?=some y->NdOk K V E i y
structure BS (K J:Nat) (L:List Node) (x:Node) (bx:xG) (gr Rw:Int) (t:T) (g:G) (V:Ky->AV) (E:Ky->En):Prop where
 st:St t [(2,.hptr 0 0 0 0),(3,.hptr 1 0 0 0),(4,.hptr 2 0 0 0),(10,fq 3 (V (0,0)) J 0),(11,.int .i64 Rw)]
 hp:Hp g 3 (LS L) V E
 f0:g.h.get 0=.cells 4 [[u8v bx.1,u8v bx.2.1,u8v bx.2.2.1,.int .i64 bx.2.2.2]] 0 false false
 f1:g.h.get 1=.cells 2 [[.int .i64 gr,V (0,0)]] 0 false false
 f2:g.h.get 2=.cells 2 [[.int .i64 0,.nils]] 0 false false
 bl:BLs K V E L
 hx:L[J]?=some x
 hR:(Rw = -1/\x.rows.length=0)\/∃r:Nat,Rw=(r:Int)/\r<x.rows.length
 hK:K<=1000000
 hl:L.length<=K
structure BT (K J:Nat) (L:List Node) (x:Node) (g:G) (V:Ky->AV) (E:Ky->En) (rows:List (List AV)):Prop where
 own:Own g 3 (V (0,0)) 3 rows
 e0:E (0,0)=.sl 3 rows
 ry:rB (V (0,0))=true
 hlt:J<rows.length
 row:rows[J]?=some [.int .i64 x.card,V (J+1,0),V (J+1,1)]
 oth:Oth K L J V E rows
 nd:NdOk K V E J x
section
variable {d K J:Nat}{L:List Node}{x:Node}{bx:xG}{gr Rw:Int}{t:T}{g:G}{V:Ky->AV}{E:Ky->En}{Q:QT}
end
end
end Hx
end
section
namespace Hx
open Go
noncomputable section
def cs3 (x:Sp):List AV:=[.int .i64 x.1,.int .i64 x.2.1,.int .i64 x.2.2]
def cb (x:Bool):List AV:=[.bool x]
theorem vK {P:Nat->Prop}{k:Nat}{h:H}{x:Sp}{cs:List AV}:Rp.rp P k h x cs↔cs=cs3 x:=by
 obtain ⟨a,b,c⟩:=x;rw[nS];constructor
 ·rintro ⟨p,q,rfl,h1,h2⟩;obtain ⟨q1,q2,rfl,h3,h4⟩:=nS.1 h2;rw[bj.1 h1,bj.1 h3,bj.1 h4];rfl
 ·rintro rfl;exact ⟨[.int .i64 a],_,rfl,bj.2 rfl,nS.2 ⟨[.int .i64 b],[.int .i64 c],rfl,bj.2 rfl,bj.2 rfl⟩⟩
theorem SlR.sps {P:Nat->Prop}{k:Nat}{h:H}{l:List Sp}{v:AV}(r:SlR P k h l v):ah h 3 v=some (l.map cs3):=by obtain ⟨rows,h1,h2⟩:=r.rows;rw[show (3:Nat)=Rp.sz Sp from rfl,h1,h2.eq_map (f:=cs3) λa b r=>vK.1 r]
theorem SlR.bools {P:Nat->Prop}{k:Nat}{h:H}{l:List Bool}{v:AV}(r:SlR P k h l v):ah h 1 v=some (l.map cb):=by obtain ⟨rows,h1,h2⟩:=r.rows;rw[show (1:Nat)=Rp.sz Bool from rfl,h1,h2.eq_map (f:=cb) λa b r=>nR.1 r]
theorem Own.sps {g:G}{b:Nat}{v:AV}{l:List Sp}{k:Nat}(h:Own g b v 3 (l.map cs3))(hl:l.length<9223372036854775808):One l (λ_=>True) k g.h v :=
 ⟨v,rfl,Own.sl (α:=Sp) h hl (All2.of_map (λa=>vK.2 rfl) l) λ_ _=>trivial⟩
theorem Own.bools {g:G}{b:Nat}{v:AV}{l:List Bool}(h:Own g b v 1 (l.map cb))(hl:l.length<9223372036854775808):SlR (λi=>vid v=some i) 0 g.h l v :=
 Own.sl (α:=Bool) h hl (All2.of_map (λa=>nR.2 rfl) l) λ_ h=>h
theorem A6 (b:Bool):zP false .bool (.bool false) (.bool b)=.val (.bool (!b)):=by cases b<;>rfl
theorem ks {g:G}{b:Nat}{v:AV}{sz n i off:Nat}{rows:List (List AV)}{row row':List AV}{x:AV}{K:AV->G->Prop}{D:ADf->Prop}(hv:Own g b v sz rows)(hr:rows[i]?=some row)
  (hl:x.cells.length=n) (ht:x.isTup=false) (hp:bp row off x.cells=some row')
  (k:∀g',Own g' b v sz (rows.set i row')->g'.nx=g.nx->(∀i,vid v≠some i->g'.h.get i=g.h.get i)->(∀j∈g'.lg,j∈g.lg\/vid v=some j)->K .undef g'):(iB n (fq sz v i off) x g).sat K g D:=by
 rcases hv with ⟨rfl,rfl⟩ | ⟨id,ep,lo,h1,h2,rfl,h3⟩
 ·simp at hr
 ·simp only[fq,Nat.zero_add];rw[qR h3 hr rfl ht hl hp];refine k _ (.inr ⟨id,ep,lo,h1,by simpa using h2,by simp,by simp[bi]⟩) (by simp) (λi hne=>?_) (λj hj=>?_)
  ·rw[G.put_h,aN _ _ _ (λe=>hne (by rw[e];rfl))]
  ·simp at hj;rcases hj with rfl | hj
   ·exact .inr rfl
   ·exact .inl hj
def S.bc (l:List Bool):Int:=if false∈l then (l.idxOf false:Int) else -1
theorem A_ {l:List Bool}:(0:Int)<=S.bc l↔false∈l:=by
 unfold S.bc
 split
 ·rename_i h;simp[h]
 ·rename_i h;simp[h]
theorem zy {d k:Nat}{g:G}{P:Nat->Prop}{v:AV}{l:List Bool}(hd:0<d)(hv:SlR P k g.h l v):aG C0 d N.aN [v,.bool false] g=.val (.int .i64 (S.bc l)):=by
 obtain ⟨v',e,r1⟩:=jT hv d;have vl:∀g,eN .slice v' g=.val (.int .i64 (l.length:Int)):=λg=>(r1 .nil).len g;have ri:=λh=>(r1 h).bools;rw[iI];refine pB jC (xs:=[v',.bool false]) (by simp only[aJ,e];rfl) (by simp[cO]) hd ?_;simp only[sz,simprocAttr,cO,vl,dQ];refine bf (m:=l.length) hv.1 (λj t df g=>df=[]/\St t [(0,v'),(1,.bool false)]/\false ∉ l.take j) ⟨rfl,by simp[St,sx],by simp⟩ (by simp[sx]) (by simp[sx]) (by decide)
  (by rintro j t df g v s (rfl | rfl | rfl)<;>simp[sx,St]) ?_ ?_
 ·rintro j t df g hj ⟨rfl,⟨h0,h1,-⟩,hno⟩ h8 h7;obtain ⟨y,hy,htk,hm⟩:=aK hj;have z1:j<(l.map cb).length:=by simpa using hj
  have z2:(l.map cb)[j]?=some (cb y):=by rw[List.getElem?_map,hy];rfl
  cases y with
  | false =>
   have hl:l=l.take j++false::l.drop (j+1):=by
    have:l.drop j=false::l.drop (j+1):=by rw[List.drop_eq_getElem_cons hj];congr 1;rw[List.getElem?_eq_getElem hj] at hy;injection hy
    rw[<-this,List.take_append_drop]
   have hf:S.bc l=(j:Int):=by
    unfold S.bc;rw[if_pos hm];have:l.idxOf false=j:=by
     conv=>lhs;rw[hl]
     rw[List.idxOf_append,if_neg hno,List.idxOf_cons_self,List.length_take];omega
    rw[this]
   simp only[sz,simprocAttr,h0,h1,h8,ri,z1,z2,cb,A6,hf]
  | true =>
   simp only[sz,simprocAttr,h0,h1,h8,ri,z1,z2,cb,A6];simp[St,sx,h0,h1,h7,h8,htk,hno]
 ·rintro t df g ⟨rfl,-,hno⟩;rw[List.take_length] at hno;simp only[sz,simprocAttr,dR,S.bc,hno]
theorem nj {d k:Nat}{g:G}{P:Nat->Prop}{v:AV}{l:List Bool}(hd:0<d)(hv:SlR P k g.h l v):aG C0 d N.aw [v,.bool false] g=.val (.bool (decide (false∈l))):=by obtain ⟨v',e,r1⟩:=jT hv d;have ki:=λg=>zy (d:=d+1) (g:=g) (Nat.succ_pos d) (r1 g.h);have hd2:decide ((0:Int)<=S.bc l)=decide (false∈l):=decide_eq_decide.2 A_;rw[gi];refine ql g9 (xs:=[v',.bool false]) (by simp only[aJ,e];rfl) (by simp[bV]) hd ?_;simp only[sz,simprocAttr,bV,ki,<-hd2]
theorem Ae {d:Nat}{g:G}{v:AV}{n:Net}(hd:0<d)(hm:Agg n NoP 0 g.h v):aG C0 d N.aC [v] g=.val (.int .i64 (if S.aB n then 0 else 50)):=by
 obtain ⟨b,rows,rfl,e1,hm',-⟩:=lO d hm;rw[pV];refine pB tp (xs:=[.agg [.int .i64 n.grain,b]]) (by simp only[aJ,e1]) (by simp[lu]) hd ?_;simp only[sz,simprocAttr,lu];obtain ⟨g0,hg0⟩:∃g0,g0=G.empty.new (.cells 2 [[.int .i64 n.grain,b]] 0 false false):=⟨_,rfl⟩;rw[<-hg0];have f0:g0.h.get 0=.cells 2 [[.int .i64 n.grain,b]] 0 false false:=by rw[hg0];simp[sx]
 have n0:g0.nx=1:=by rw[hg0];simp[sx]
 clear hg0;have ld:cW (.cells 2 [[.int .i64 n.grain,b]] 0 false false) 0 0 true 2 0=.val (.agg [.int .i64 n.grain,b]):=rfl;simp only[sz,simprocAttr,mA,f0,ld];refine gu (yU (Nat.succ_pos d) (n:=n) (hm' _)) λz hz=>?_;rcases vF hz with ⟨hn,cs,rfl,hcs⟩ | ⟨hn,b',cv,sv,oz,o,rfl,hb,hcv,hsv,hoz⟩
 ·obtain ⟨a1,a2,a3,a4,a5,rfl⟩:∃a1 a2 a3 a4 a5,cs=[a1,a2,a3,a4,a5]:=by
   match cs,hcs with
   | [a1,a2,a3,a4,a5],_=>exact ⟨a1,a2,a3,a4,a5,rfl⟩
  simp only[sz,simprocAttr,n0,hn]
 ·have st:∀g:G,gS (.cells 5 [[.int .i64 0,.nils,.nils,.nils,.nils]] 0 false false) g 1 0 0 5 0 (.agg [.int .i64 n.grain,b',cv,sv,oz])=.upd .undef (g.put 1 (.cells 5 [[.int .i64 n.grain,b',cv,sv,oz]] 0 false false)):=λg=>by
   have h1:=hb.2;have h2:=hcv.2;have h3:=hsv.2;have h4:=hoz.2;unfold SlV at h1 h2 h3 h4
   split at h1<;>split at h2<;>split at h3<;>split at h4<;>first | rfl | exact h1.elim | exact h2.elim | exact h3.elim | exact h4.elim
  simp only[sz,simprocAttr,n0,st,hn]
def S.aw (l:List Sp)(n j:Nat):List Bool:=(List.range n).map λv:Nat=>S.aH l j (v:Int)
def S.ap (l:List Sp)(j:Nat):List Bool:=(List.range l.length).map λe:Nat=>S.aq l j (e:Int)
theorem v6 (l:List Sp)(j:Nat)(e:Int):S.aq l (j+1) e=(S.aq l j e || (decide ((S.sp l j).1 = -1)&&(decide ((S.sp l j).2.1=e) || decide ((S.sp l j).2.2=e)))):=by simp[S.aq,List.range_succ,List.any_append]
theorem uW (l:List Sp)(j:Nat)(v:Int):S.aH l (j+1) v=(S.aH l j v || decide ((S.sp l j).1=v)):=by simp[S.aH,List.range_succ,List.any_append]
theorem l9 (l:List Sp)(n j:Nat):(S.aw l n j).length=n:=by simp[S.aw]
theorem gP (l:List Sp)(j:Nat):(S.ap l j).length=l.length:=by simp[S.ap]
theorem tE {l:List Sp}{n j v:Nat}(h:v<n):(S.aw l n j)[v]?=some (S.aH l j (v:Int)):=by simp[S.aw,h]
theorem pH {l:List Sp}{j e:Nat}(h:e<l.length):(S.ap l j)[e]?=some (S.aq l j (e:Int)):=by simp[S.ap,h]
theorem CT {l:List Sp}{j:Nat}(h:¬(S.sp l j).1 = -1):S.ap l (j+1)=S.ap l j:=by refine List.map_congr_left λe _=>?_;rw[v6];simp[h]
theorem BV {l:List Sp}{n j:Nat}(h:(S.sp l j).1 = -1):S.aw l n (j+1)=S.aw l n j:=by
 refine List.map_congr_left λe _=>?_;rw[uW,h];have:¬(-1:Int)=(e:Int):=by omega
 simp[this]
theorem BX {l:List Sp}{n j v:Nat}(hv:v<n)(h:(S.sp l j).1=(v:Int)):S.aw l n (j+1)=(S.aw l n j).set v true:=by
 apply List.ext_getElem?;intro i;rw[List.getElem?_set]
 by_cases c:i<n
 ·rw[tE c,tE c,uW,h,l9]
  by_cases e:v=i
  ·subst e;simp[c]
  ·have:¬(v:Int)=(i:Int):=by omega
   simp[e,this]
 ·rw[List.getElem?_eq_none (by rw[l9];omega),List.getElem?_eq_none (by rw[l9];omega)];have:¬v=i:=by omega
  simp[this]
theorem CS {l:List Sp}{j b c:Nat}(hb:b<l.length)(hc:c<l.length)(h:(S.sp l j).1 = -1)(h1:(S.sp l j).2.1=(b:Int))(h2:(S.sp l j).2.2=(c:Int)):S.ap l (j+1)=((S.ap l j).set b true).set c true:=by
 apply List.ext_getElem?;intro i;rw[List.getElem?_set,List.getElem?_set,List.length_set,gP]
 by_cases e:i<l.length
 ·rw[pH e,pH e,v6,h,h1,h2]
  by_cases e1:c=i
  ·subst e1;simp[e]
  ·by_cases e2:b=i
   ·subst e2;simp[e,e1]
   ·have n1:¬(b:Int)=(i:Int):=by omega
    have n2:¬(c:Int)=(i:Int):=by omega
    simp[e1,e2,n1,n2]
 ·rw[List.getElem?_eq_none (by rw[gP];omega),List.getElem?_eq_none (by rw[gP];omega)];have n1:¬c=i:=by omega
  have n2:¬b=i:=by omega
  simp[n1,n2]
theorem z0 {l:List Sp}{n j:Nat}:false ∉ S.aw l n j↔((List.range n).all λv:Nat=>S.aH l j (v:Int))=true:=by simp[S.aw]
theorem AE {l:List Sp}{m:Nat}(hm:m<=l.length):false ∉ (S.ap l l.length).take m↔((List.range m).all λe:Nat=>S.aq l l.length (e:Int))=true:=by rw[S.ap,<-List.map_take,List.take_range,Nat.min_eq_left hm];simp
theorem xy (l:List Bool)(i:Nat):(l.map cb).set i (cb true)=(l.set i true).map cb:=by rw[List.map_set]
def S.aE (n:Net)(l:List Sp):Int:=if S.aB n then (if S.ck l n.nodes.length then 0 else 130) else 50
theorem xX (n:Int)(h:-1000<=n/\n<=1000):IntKind.wrap .i64 (IntKind.wrap .i64 (2*n) - 1)=2*n - 1:=by rw[ay (x:=2*n) (by omega) (by omega),ay (by omega) (by omega)]
set_option maxRecDepth 20000 in
theorem rR {d k:Nat}{g:G}{P:Nat->Prop}{v w:AV}{n:Net}{l:List Sp}(hd:0<d)(hm:Agg n NoP 0 g.h v)(hl:SlR P k g.h l w):aG C0 d N.ac [v,w] g=.val (.int .i64 (S.aE n l)):=by
 obtain ⟨b,rows,rfl,e1,hm',hN,-⟩:=lO d hm;obtain ⟨w',e2,hw'⟩:=jT hl d;have wl:∀g,eN .slice w' g=.val (.int .i64 (l.length:Int)):=λg=>(hw' .nil).len g;have ws:=λh=>(hw' h).sps;have hlen:=hl.1;rw[kX];refine pB mP (xs:=[.agg [.int .i64 n.grain,b],w']) (by simp only[aJ,e1,e2]) (by simp[eT]) hd ?_;simp only[sz,simprocAttr,eT];obtain ⟨g0,hg0⟩:∃g0,g0=G.empty.new (.cells 2 [[.int .i64 n.grain,b]] 0 false false):=⟨_,rfl⟩;rw[<-hg0];have f0:g0.h.get 0=.cells 2 [[.int .i64 n.grain,b]] 0 false false:=by rw[hg0];simp[sx]
 have n0:g0.nx=1:=by rw[hg0];simp[sx]
 clear hg0;have ld:cW (.cells 2 [[.int .i64 n.grain,b]] 0 false false) 0 0 true 2 0=.val (.agg [.int .i64 n.grain,b]):=rfl;have nc:=Ae (d:=d+1) (g:=g0) (Nat.succ_pos d) (n:=n) (hm' _);have nl:=λg=>hN.len g;simp only[gz]
 by_cases c0:S.aB n=true
 rotate_left
 ·have hs:S.aE n l=50:=by rw[S.aE,if_neg c0]
  rw[if_neg c0] at nc;simp only[sz,simprocAttr,f0,ld,nc,hs]
 rw[if_pos c0] at nc;have hr:=im.1 c0;have hl1:=hr.l1;have hl2:=hr.l2;have w2:=xX (n.nodes.length:Int) (by omega);have hs:S.aE n l=if S.ck l n.nodes.length then 0 else 130:=by rw[S.aE,if_pos c0]
 by_cases c1:(l.length:Int)=2*(n.nodes.length:Int) - 1
 rotate_left
 ·have hs:S.aE n l=130:=by rw[hs,if_neg];simp[S.ck,c1]
  simp only[sz,simprocAttr,f0,ld,nc,nl,wl,w2,c1,hs]
 have c1':decide ((l.length:Int)=2*(n.nodes.length:Int) - 1)=true:=decide_eq_true c1;have bad:∀i,i<l.length->S.aM l n.nodes.length i=false->S.aE n l=130:=λi hi h=>by rw[hs,if_neg];intro hc;simp only[S.ck,Bool.and_eq_true,List.all_eq_true,List.mem_range] at hc;have:=hc.1.1.2 i hi;rw[h] at this;cases this
 refine dh (P:=λt' df g'=>df=[]/\g'=g0/\St t' [(1,w'),(2,.hptr 0 0 0 0)]) ?_ ?_
 ·simp only[sz,simprocAttr,f0,ld,nc];simp[St,sx]
 rintro t df g1 ⟨rfl,rfl,h1,h2,-⟩;refine dh (P:=λt' df g'=>df=[]/\g'=g1/\St t' [(1,w'),(6,.int .i64 (n.nodes.length:Int))]) ?_ ?_
 ·simp only[sz,simprocAttr,h1,h2,f0,nl];simp[St,sx,h1]
 rintro t df g2 ⟨rfl,rfl,h1,h6,-⟩;refine dh (P:=λt' df g'=>df=[]/\g'=g2/\St t' [(1,w'),(6,.int .i64 (n.nodes.length:Int))]) ?_ ?_
 ·simp only[sz,simprocAttr,h1,h6,wl,w2,c1];simp[St,sx,h1,h6]
 rintro t df g3 ⟨rfl,rfl,h1,h6,-⟩;refine dh (P:=λt' df g'=>df=[]/\∃lv us,St t' [(1,w'),(6,.int .i64 (n.nodes.length:Int)),(7,lv),(8,us)]/\Own g' 0 lv 1 ((List.replicate n.nodes.length false).map cb)/\Own g' 0 us 1 ((List.replicate l.length false).map cb)/\∃iL iU,vid lv=some iL/\vid us=some iU/\iL≠iU) ?_ ?_
 ·simp only[sz,simprocAttr,sf,h6];refine jN (b:=0) (bytes:=1) (n:=n.nodes.length) (by unfold aT;omega) (by unfold aT;omega) (Nat.zero_le _) λcv g4 hcv n2 fr2 v2 lg2=>?_;simp only[sy] at n2 fr2 v2 lg2;simp only[sz,simprocAttr,sf,h1,h6,wl,lg2];refine jN (b:=0) (bytes:=1) (n:=l.length) (by unfold aT;omega) (by unfold aT;omega) (Nat.zero_le _) λsv g5 hsv n3 fr3 v3 lg3=>?_;simp only[sy] at n3 fr3 v3 lg3;simp only[sz,simprocAttr,sf,lg3,hcv.cell.1,hcv.cell.2,hsv.cell.1,hsv.cell.2];refine ⟨?_,cv,sv,?_,?_,?_,_,_,v2,v3,by omega⟩
  ·simp only[List.reverse_cons,List.reverse_nil,List.nil_append,List.cons_append,G.new_lg,G.put_lg,setLog_lg];refine aW [false,true,false,false,true,false,false] [(1,2),(1,3),(0,4),(1,4),(4,5)] (by simp[All2,af,au]) (by decide) ?_;rintro p hp x y hx hy;simp only[List.mem_cons,List.not_mem_nil,or_false] at hp;rcases hp with rfl | rfl | rfl | rfl | rfl<;>(simp at hx hy;subst hx;subst hy;refine di rfl rfl rfl rfl ?_ ?_ ?_<;>simp[af,au,ac]<;>omega)
  ·simp[St,sx,h1,h6]
  ·have:Own g4 0 cv 1 ((List.replicate n.nodes.length false).map cb):=by simpa [cb] using hcv
   exact this.fr (by first | (simp;done) | (simp;omega)) λi hi=>by have:=dK v2 hi;have:=fr3 i (by omega);simpa using this
  ·have:Own g5 0 sv 1 ((List.replicate l.length false).map cb):=by simpa [cb] using hsv
   exact this.fr (by first | (simp;done) | (simp;omega)) λi hi=>by simp
 rintro t df g ⟨rfl,lv,us,⟨h1,h6,h7,h8,-⟩,oL,oU,iL,iU,vL,vU,hne⟩;have e3:List.replicate n.nodes.length false=S.aw l n.nodes.length 0:=(List.eq_replicate_iff.2 ⟨l9 _ _ _,λb hb=>by simp[S.aw,S.aH] at hb;exact hb.2⟩).symm;have e4:List.replicate l.length false=S.ap l 0:=(List.eq_replicate_iff.2 ⟨gP _ _,λb hb=>by simp[S.ap,S.aq] at hb;exact hb.2⟩).symm;rw[e3] at oL;rw[e4] at oU;clear e3 e4 f0 n0 nc;simp only[sz,simprocAttr,h1,wl,fU];refine bf (m:=l.length) hlen (λj t df g=>df=[]/\St t [(1,w'),(30,w'),(6,.int .i64 (n.nodes.length:Int)),(7,lv),(8,us)]/\Own g 0 lv 1 ((S.aw l n.nodes.length j).map cb)/\Own g 0 us 1 ((S.ap l j).map cb)/\∀i,i<j->S.aM l n.nodes.length i=true)
  ⟨rfl,by simp[St,sx,h1,h6,h7,h8],oL,oU,λi hi=>by omega⟩ (by simp[sx]) (by simp[sx]) (by decide) (by rintro j t df g v s (rfl | rfl | rfl)<;>simp[sx,St]) ?_ ?_
 ·clear h1 h6 h7 h8 oL oU;rintro j t df g hj ⟨rfl,⟨h1,h30,h6,h7,h8,-⟩,oL,oU,hok⟩ h32 h31;obtain ⟨x,hx,-,-⟩:=aK hj;have hsp:S.sp l j=x:=by rw[S.sp,hx];rfl
  have u1:j<(l.map cs3).length:=by simpa using hj
  have u2:(l.map cs3)[j]?=some (cs3 x):=by rw[List.getElem?_map,hx];rfl
  obtain ⟨a,b,c⟩:=x;have u3:cs3 (a,b,c)=[.int .i64 a,.int .i64 b,.int .i64 c]:=rfl;rw[u3] at u2;have hel:=λh=>bad j hj h;unfold S.aM S.aP S.aQ at hel;rw[hsp] at hel;dsimp only at hel
  by_cases ca:a = -1
  ·subst ca;rw[if_pos rfl] at hel
   by_cases c1:b<0
   ·have:=hel (by have:¬0<=b:=by omega
                  simp[this])
    simp only[sz,simprocAttr,h30,h32,ws,u1,u2,c1,this]
   by_cases c2:(j:Int)<=b
   ·have:=hel (by have:¬b<(j:Int):=by omega
                  simp[this])
    simp only[sz,simprocAttr,h30,h32,ws,u1,u2,c1,c2,this]
   by_cases c3:c<0
   ·have:=hel (by have:¬0<=c:=by omega
                  simp[this])
    simp only[sz,simprocAttr,h30,h32,ws,u1,u2,c1,c2,c3,this]
   by_cases c4:(j:Int)<=c
   ·have:=hel (by have:¬c<(j:Int):=by omega
                  simp[this])
    simp only[sz,simprocAttr,h30,h32,ws,u1,u2,c1,c2,c3,c4,this]
   by_cases c5:b=c
   ·have:=hel (by simp[c5]);simp only[sz,simprocAttr,h30,h32,ws,u1,u2,c1,c2,c3,c4,c5,this]
   obtain ⟨B,rfl⟩:=Int.eq_ofNat_of_zero_le (show 0<=b by omega);obtain ⟨C,rfl⟩:=Int.eq_ofNat_of_zero_le (show 0<=c by omega);have hB:B<l.length:=by omega
   have hC:C<l.length:=by omega
   have r1:=λ(g':G) (f:∀i,i<g.nx->g'.h.get i=g.h.get i) (hn:g.nx<=g'.nx)=>(oU.fr hn λi hi=>f i (oU.lt hi).2).rows;have z1:B<((S.ap l j).map cb).length:=by simpa [gP] using hB
   have z2:((S.ap l j).map cb)[B]?=some (cb (S.aq l j (B:Int))):=by rw[List.getElem?_map,pH hB];rfl
   have z3:C<((S.ap l j).map cb).length:=by simpa [gP] using hC
   have z4:((S.ap l j).map cb)[C]?=some (cb (S.aq l j (C:Int))):=by rw[List.getElem?_map,pH hC];rfl
   have hUl:=λi (hi:vid us=some i)=>(oU.lt hi).2;have hUf:∀g':G,g.nx<=g'.nx->(∀i,i<g.nx->g'.h.get i=g.h.get i)->ah g'.h 1 us=some ((S.ap l j).map cb):=λg' hn f=>(oU.fr hn λi hi=>f i (hUl i hi)).rows;simp only[sz,simprocAttr,h30,h32,ws,u1,u2,c1,c2,c3,c4,c5];obtain ⟨g',hg'⟩:∃g',g'=((g.new (AObj.cells 3 [[AV.int IntKind.i64 0,AV.int IntKind.i64 0,AV.int IntKind.i64 0]] 0 false false)).put g.nx (AObj.cells 3 [[AV.int IntKind.i64 (-1),AV.int IntKind.i64 (B:Int),AV.int IntKind.i64 (C:Int)]] 0 false false)):=⟨_,rfl⟩;rw[<-hg'];have kq:g'.h.get g.nx=.cells 3 [[.int .i64 (-1),.int .i64 (B:Int),.int .i64 (C:Int)]] 0 false false:=by rw[hg'];simp[H.get_put]
   have kn:g'.nx=g.nx+1:=by rw[hg'];simp
   have kf:∀i,i<g.nx->g'.h.get i=g.h.get i:=λi hi=>by rw[hg'];simp[H.get_put,show ¬i=g.nx by omega]
   have oU':Own g' 0 us 1 ((S.ap l j).map cb):=oU.fr (by omega) λi hi=>kf i (oU.lt hi).2;have oL':Own g' 0 lv 1 ((S.aw l n.nodes.length j).map cb):=oL.fr (by omega) λi hi=>kf i (oL.lt hi).2;have hq:¬vid us=some g.nx:=λh=>by have:=(oU.lt h).2;omega
   have hq2:¬vid lv=some g.nx:=λh=>by have:=(oL.lt h).2;omega
   clear hg' kf oU oL;cases cB:S.aq l j (B:Int) with
   | true =>
    have:=hel (by simp[cB]);rw[cB] at z2;simp only[sz,simprocAttr,h8,oU'.rows,z1,z2,cb,this]
   | false =>
    cases cC:S.aq l j (C:Int) with
    | true =>
     have:=hel (by simp[cC]);rw[cB] at z2;rw[cC] at z4;simp only[sz,simprocAttr,h8,oU'.rows,z1,z2,z3,z4,cb,kq,this]
    | false =>
     rw[cB] at z2;rw[cC] at z4;have hok':∀i,i<j+1->S.aM l n.nodes.length i=true:=λi hi=>by
      by_cases e:i=j
      ·subst e;rw[S.aM,S.aP,hsp];have d1:(B:Int)<(i:Int):=by omega
       have d2:(C:Int)<(i:Int):=by omega
       simp[cB,cC,d1,d2,c5]
      ·exact hok i (by omega)
     have hu2:S.ap l (j+1)=((S.ap l j).set B true).set C true:=CS hB hC (by rw[hsp]) (by rw[hsp]) (by rw[hsp]);have hl2:S.aw l n.nodes.length (j+1)=S.aw l n.nodes.length j:=BV (by rw[hsp]);simp only[sz,simprocAttr,sf,h8,oU'.rows,z1,z2,z3,z4,cb,kq];refine ks (v:=us) (sz:=1) (n:=1) (i:=B) (off:=0) (x:=.bool true) (row:=cb false) (row':=cb true) (oU'.fr (by first | (simp;done) | (simp;omega)) λi _=>by simp) z2 rfl rfl rfl λg2 o2 n2 f2 p2=>?_;have k2:g2.h.get g.nx=.cells 3 [[.int .i64 (-1),.int .i64 (B:Int),.int .i64 (C:Int)]] 0 false false:=by rw[f2 _ hq];simpa using kq
     simp only[sy] at n2;have z5:C<(((S.ap l j).map cb).set B (cb true)).length:=by simpa using z3
     have z6:(((S.ap l j).map cb).set B (cb true))[C]?=some (cb false):=by rw[List.getElem?_set_ne (by omega)];exact z4
     simp only[sz,simprocAttr,sf,h8,k2,o2.rows,z5];refine ks (v:=us) (sz:=1) (n:=1) (i:=C) (off:=0) (x:=.bool true) (row:=cb false) (row':=cb true) (o2.fr (by first | (simp;done) | (simp;omega)) λi _=>by simp) z6 rfl rfl rfl λg3 o3 n3 f3 p3=>?_;simp only[sy] at n3;simp only[sz,simprocAttr,sf];refine ⟨?_,⟨?_,?_,?_,hok'⟩,?_⟩
     ·simp only[List.reverse_cons,List.reverse_nil,List.nil_append,List.cons_append,G.new_lg,G.put_lg,setLog_lg];refine aW [false,false,false,false,false,false,false,true,false,true] [(3,7),(4,7),(5,7)] (by simp[All2,af,au]) (by decide) ?_;rintro p hp x y hx hy;simp only[List.mem_cons,List.not_mem_nil,or_false] at hp;have hw:∀i∈g2.lg,¬i=g.nx:=λi hi e=>by
       rcases p2 i hi with h | h
       ·simp at h
       ·exact hq (by rw[h,e])
      rcases hp with rfl | rfl | rfl<;>(simp at hx hy;subst hx;subst hy;refine di rfl rfl rfl rfl ?_ ?_ ?_<;>simp[af,au,ac]<;>exact hw)
     ·simp[St,sx,h1,h30,h6,h7,h8]
     ·rw[hl2];refine oL'.fr (by first | (simp;done) | (simp;omega)) λi hi=>?_;have d1:¬vid us=some i:=λe=>hne (by rw[dK vL hi,dK vU e]);have e1:=f3 i d1;have e2:=f2 i d1;simp at e1 e2;simp[e1,e2]
     ·rw[hu2,<-xy,<-xy];exact o3.fr (by first | (simp;done) | (simp;omega)) λi _=>by simp
     ·simp[sx,h31,h32]
  ·rw[if_neg ca] at hel
   by_cases c1:a<0
   ·have:=hel (by have:¬0<=a:=by omega
                  simp[this])
    simp only[sz,simprocAttr,h30,h32,ws,u1,u2,ca,c1,this]
   by_cases c2:(n.nodes.length:Int)<=a
   ·have:=hel (by have:¬a<(n.nodes.length:Int):=by omega
                  simp[this])
    simp only[sz,simprocAttr,h30,h32,h6,ws,u1,u2,ca,c1,c2,this]
   by_cases c3:b = -1
   rotate_left
   ·have:=hel (by simp[c3]);simp only[sz,simprocAttr,h30,h32,h6,ws,u1,u2,ca,c1,c2,c3,this]
   by_cases c4:c = -1
   rotate_left
   ·have:=hel (by simp[c4]);simp only[sz,simprocAttr,h30,h32,h6,ws,u1,u2,ca,c1,c2,c3,c4,this]
   obtain ⟨A,rfl⟩:=Int.eq_ofNat_of_zero_le (show 0<=a by omega);have hA:A<n.nodes.length:=by omega
   subst c3 c4;have z1:A<((S.aw l n.nodes.length j).map cb).length:=by simpa [l9] using hA
   have z2:((S.aw l n.nodes.length j).map cb)[A]?=some (cb (S.aH l j (A:Int))):=by rw[List.getElem?_map,tE hA];rfl
   simp only[sz,simprocAttr,h30,h32,h6,ws,u1,u2,ca,c1,c2];obtain ⟨g',hg'⟩:∃g',g'=((g.new (AObj.cells 3 [[AV.int IntKind.i64 0,AV.int IntKind.i64 0,AV.int IntKind.i64 0]] 0 false false)).put g.nx (AObj.cells 3 [[AV.int IntKind.i64 (A:Int),AV.int IntKind.i64 (-1),AV.int IntKind.i64 (-1)]] 0 false false)):=⟨_,rfl⟩;rw[<-hg'];have kq:g'.h.get g.nx=.cells 3 [[.int .i64 (A:Int),.int .i64 (-1),.int .i64 (-1)]] 0 false false:=by rw[hg'];simp[H.get_put]
   have kn:g'.nx=g.nx+1:=by rw[hg'];simp
   have kf:∀i,i<g.nx->g'.h.get i=g.h.get i:=λi hi=>by rw[hg'];simp[H.get_put,show ¬i=g.nx by omega]
   have oU':Own g' 0 us 1 ((S.ap l j).map cb):=oU.fr (by omega) λi hi=>kf i (oU.lt hi).2;have oL':Own g' 0 lv 1 ((S.aw l n.nodes.length j).map cb):=oL.fr (by omega) λi hi=>kf i (oL.lt hi).2;clear hg' kf oU oL;cases cA:S.aH l j (A:Int) with
   | true =>
    have:=hel (by simp[cA]);rw[cA] at z2;simp only[sz,simprocAttr,h7,oL'.rows,z1,z2,cb,kq,this]
   | false =>
    rw[cA] at z2;have hok':∀i,i<j+1->S.aM l n.nodes.length i=true:=λi hi=>by
     by_cases e:i=j
     ·subst e;rw[S.aM,S.aQ,hsp];simp[ca,cA,hA]
     ·exact hok i (by omega)
    have hu2:S.ap l (j+1)=S.ap l j:=CT (by rw[hsp];exact ca);have hl2:S.aw l n.nodes.length (j+1)=(S.aw l n.nodes.length j).set A true:=BX hA (by rw[hsp]);simp only[sz,simprocAttr,h7,oL'.rows,z1,z2,cb,kq];refine bw (v:=lv) (sz:=1) (n:=1) (i:=A) (off:=0) (x:=.bool true) (row:=cb false) (row':=cb true) oL' z2 rfl rfl rfl λg3 o3 n3 f3=>?_;simp only[sz,simprocAttr];refine ⟨⟨?_,?_,?_,hok'⟩,?_⟩
    ·simp[St,sx,h1,h30,h6,h7,h8]
    ·rw[hl2,<-xy];exact o3
    ·rw[hu2];exact oU'.fr (by omega) λi hi=>f3 i λe=>hne (by rw[dK vL e,dK vU hi])
    ·simp[sx,h31,h32]
 ·clear h1 h6 h7 h8 oL oU;rintro t df g ⟨rfl,⟨h1,h30,h6,h7,h8,-⟩,oL,oU,hok⟩;have sL:=oL.bools (by rw[l9];omega);have sU:=oU.bools (by rw[gP];omega);have q1:=nj (d:=d+1) (g:=g) (Nat.succ_pos d) sL;obtain ⟨y,y1,-,y2⟩:=y_ (α:=Bool) oU (n:=l.length - 1) (by intro e;have h0:((S.ap l l.length).map cb).length=0:=(by rw[e];rfl);rw[List.length_map,gP] at h0;omega) (by simp[gP]);have sU2:=y2 _ _ _ g.h (λi _=>rfl) sU;have q2:=nj (d:=d+1) (g:=g) (Nat.succ_pos d) sU2;have e5:IntKind.wrap .i64 ((l.length:Int) - 1)=((l.length - 1:Nat):Int):=by rw[ay (by omega) (by omega)];omega
  have y1:oy 1 us none (some (.int .i64 ((l.length - 1:Nat):Int))) g=.val y:=y1;have hck:S.ck l n.nodes.length=(decide (false ∉ S.aw l n.nodes.length l.length)&&decide (false ∉ (S.ap l l.length).take (l.length - 1))):=by
   have a1:(List.range l.length).all (S.aM l n.nodes.length)=true:=by rw[List.all_eq_true];exact λi hi=>hok i (List.mem_range.1 hi)
   rw[S.ck,c1',a1];have b1:decide (false ∉ S.aw l n.nodes.length l.length)=(List.range n.nodes.length).all λv:Nat=>S.aH l l.length (v:Int):=Bool.eq_iff_iff.2 (by rw[decide_eq_true_eq];exact z0);have b2:decide (false ∉ (S.ap l l.length).take (l.length - 1))=(List.range (l.length - 1)).all λe:Nat=>S.aq l l.length (e:Int):=Bool.eq_iff_iff.2 (by rw[decide_eq_true_eq];exact AE (Nat.sub_le _ _));rw[b1,b2,Bool.true_and,Bool.true_and]
  rw[hck] at hs
  by_cases d1:false∈S.aw l n.nodes.length l.length
  ·have hs:S.aE n l=130:=by rw[hs];simp[d1]
   simp only[sz,simprocAttr,bZ,h7,h30,q1,d1,hs]
  ·by_cases d2:false∈(S.ap l l.length).take (l.length - 1)
   ·have hs:S.aE n l=130:=by rw[hs];simp[d1,d2]
    simp only[sz,simprocAttr,bZ,h7,h8,h1,wl,e5,y1,q1,q2,List.head?_nil,List.head?_cons,d1,d2,hs]
   ·have hs:S.aE n l=0:=by rw[hs];simp[d1,d2]
    simp only[sz,simprocAttr,bZ,h7,h8,h1,wl,e5,y1,q1,q2,List.head?_nil,List.head?_cons,d1,d2,hs]
end
end Hx
end
section
namespace Hx
open Go
abbrev Br:Type:=Int×Nat
def S.aA (st:List Sp×Br)(b:Br):List Sp×Br:=(st.1++[(-1,st.2.1,b.1)],((st.1.length:Int),st.2.2 ||| b.2))
def S.aF (l:List Br)(x:Br):List Br:=(l.filter λb=>decide (b.1<x.1))++x::l.filter λb=>decide (x.1<b.1)
def S.jn (w:Nat->Bool)(st:List Sp×List Br):List Sp×List Br :=
 match st.2.filter λb=>w b.2 with
 | []=>st
 | b::bs=>((bs.foldl S.aA (st.1,b)).1,S.aF (st.2.filter λb=>!w b.2) (bs.foldl S.aA (st.1,b)).2)
structure MkI (m:Nat) (st:List Sp×List Br):Prop where
 ln:st.1.length+st.2.length=2*m
 l1:m<=st.1.length
 lf:∀v,v<m->S.sp st.1 v=((v:Int),-1,-1)
 jn:∀i,m<=i->i<st.1.length->(S.sp st.1 i).1 = -1/\S.aP st.1 i=true
 so:st.2.Pairwise λa b=>a.1<b.1
 op:∀e,(∃b∈st.2,b.1=e)↔0<=e/\e<(st.1.length:Int)/\S.aq st.1 st.1.length e=false
 on:∀i j e,i<j->j<st.1.length->(S.sp st.1 i).1 = -1/\((S.sp st.1 i).2.1=e\/(S.sp st.1 i).2.2=e)->(S.sp st.1 j).1 = -1/\((S.sp st.1 j).2.1=e\/(S.sp st.1 j).2.2=e)->False
theorem m6 {l m:List Sp}{i:Nat}(h:i<l.length):S.sp (l++m) i=S.sp l i:=by simp[S.sp,List.getElem?_append_left h]
theorem nW {l:List Sp}{x:Sp}:S.sp (l++[x]) l.length=x:=by simp[S.sp]
theorem El {l:List Sp}{x:Sp}{e:Int}:S.aq (l++[x]) (l++[x]).length e=(S.aq l l.length e || (decide (x.1 = -1)&&(decide (x.2.1=e) || decide (x.2.2=e)))):=by
 apply Bool.eq_iff_iff.2;rw[eh,Bool.or_eq_true,eh];simp only[List.length_append,List.length_singleton,Bool.and_eq_true,Bool.or_eq_true,decide_eq_true_eq];constructor
 ·rintro ⟨j,hj,h⟩
  by_cases c:j<l.length
  ·rw[m6 c] at h;exact .inl ⟨j,c,h⟩
  ·have:j=l.length:=by omega
   subst this;rw[nW] at h;exact .inr h
 ·rintro (⟨j,hj,h⟩ | h)
  ·exact ⟨j,by omega,by rw[m6 hj];exact h⟩
  ·exact ⟨l.length,by omega,by rw[nW];exact h⟩
theorem B5 {m:Nat}{l:List Sp}{o:List Br}{a b:Br}{w:Nat}(h:MkI m (l,o))(ha:a∈o)(hb:b∈o)(hab:a.1≠b.1):MkI m (l++[(-1,a.1,b.1)],(o.filter λc=>!decide (c.1=a.1)&&!decide (c.1=b.1))++[((l.length:Int),w)]):=by
 obtain ⟨h1,h2,h3,h4,h5,h6,h7⟩:=h;have ea:=(h6 a.1).1 ⟨a,ha,rfl⟩;have eb:=(h6 b.1).1 ⟨b,hb,rfl⟩;dsimp only at h1 h2 h3 h4 h5 h6 h7 ea eb;have hlen:(o.filter λc=>!decide (c.1=a.1)&&!decide (c.1=b.1)).length+2=o.length:=by
  have key:∀(o:List Br) (x:Int),o.Pairwise (λa b=>a.1<b.1)->(∃c∈o,c.1=x)->(o.filter λc=>!decide (c.1=x)).length+1=o.length:=by
   intro o x hp hx
   induction o with
   | nil=>obtain ⟨c,hc,-⟩:=hx;simp at hc
   | cons c o ih =>
    rw[List.pairwise_cons] at hp
    by_cases e:c.1=x
    ·have hno:∀d∈o,d.1≠x:=λd hd he=>by have:=hp.1 d hd;omega
     rw[List.filter_cons_of_neg (by simp[e]),List.filter_eq_self.2 (λd hd=>by simpa using hno d hd)]
     rfl
    ·obtain ⟨d,hd,hdx⟩:=hx;have hd:d∈o:=by
      rcases List.mem_cons.1 hd with h | h
      ·subst h;exact absurd hdx e
      ·exact h
     rw[List.filter_cons_of_pos (by simpa using e),List.length_cons,List.length_cons,<-ih hp.2 ⟨d,hd,hdx⟩]
  have k1:=key o b.1 h5 ⟨b,hb,rfl⟩;have k2:=key (o.filter λc=>!decide (c.1=b.1)) a.1 (h5.filter _) ⟨a,List.mem_filter.2 ⟨ha,by simpa using hab⟩,rfl⟩;rw[List.filter_filter] at k2;omega
 constructor
 ·simp;omega
 ·simp;omega
 ·intro v hv;rw[m6 (by omega)];exact h3 v hv
 ·intro i hi hil;rw[List.length_append,List.length_singleton] at hil
  by_cases c:i<l.length
  ·have:=h4 i hi c;have e1:S.aP (l++[(-1,a.1,b.1)]) i=S.aP l i:=by unfold S.aP;rw[m6 c]
   rw[e1,m6 c];exact this
  ·have:i=l.length:=by omega
   subst this;refine ⟨by rw[nW],e_.2 ?_⟩;rw[nW];exact ⟨ea.1,ea.2.1,eb.1,eb.2.1,hab⟩
 ·rw[List.pairwise_append];refine ⟨h5.filter _,List.pairwise_singleton _ _,λc hc d hd=>?_⟩;have hd:=List.mem_singleton.1 hd;subst hd;have:=(h6 c.1).1 ⟨c,(List.mem_filter.1 hc).1,rfl⟩;exact this.2.1
 ·intro e;dsimp only;rw[El,Bool.or_eq_false_iff];constructor
  ·rintro ⟨c,hc,rfl⟩;rcases List.mem_append.1 hc with hc | hc
   ·obtain ⟨hc,hn⟩:=List.mem_filter.1 hc;have:=(h6 c.1).1 ⟨c,hc,rfl⟩;simp only[Bool.and_eq_true,Bool.not_eq_true',decide_eq_false_iff_not] at hn;refine ⟨this.1,by simp;omega,this.2.2,?_⟩;have n1:¬a.1=c.1:=λe=>hn.1 e.symm;have n2:¬b.1=c.1:=λe=>hn.2 e.symm;simp[n1,n2]
   ·have hc:=List.mem_singleton.1 hc;subst hc;refine ⟨by simp,by simp;omega,?_,?_⟩
    ·rw[Bool.eq_false_iff];intro h;obtain ⟨j,hj,hh⟩:=eh.1 h
     by_cases c:m<=j
     ·have:=e_.1 (h4 j c hj).2;omega
     ·have:=h3 j (by omega);rw[this] at hh;have:=hh.1;dsimp only at this;omega
    ·have n1:¬a.1=(l.length:Int):=by omega
     have n2:¬b.1=(l.length:Int):=by omega
     simp[n1,n2]
  ·rintro ⟨e0,e1,e2,e3⟩
   by_cases c:e=(l.length:Int)
   ·exact ⟨_,List.mem_append_right _ (List.mem_singleton.2 rfl),c.symm⟩
   ·obtain ⟨d,hd,hde⟩:=(h6 e).2 ⟨e0,by simp at e1;omega,e2⟩;refine ⟨d,List.mem_append_left _ (List.mem_filter.2 ⟨hd,?_⟩),hde⟩;simp only[decide_true,Bool.true_and,Bool.or_eq_false_iff,decide_eq_false_iff_not] at e3;simp only[Bool.and_eq_true,Bool.not_eq_true',decide_eq_false_iff_not];exact ⟨λh=>e3.1 (by rw[<-h,hde]),λh=>e3.2 (by rw[<-h,hde])⟩
 ·intro i j e hij hj hi' hj';dsimp only at hij hj hi' hj';rw[List.length_append,List.length_singleton] at hj;rw[m6 (by omega)] at hi'
  by_cases c:j<l.length
  ·rw[m6 c] at hj';exact h7 i j e hij c hi' hj'
  ·have:j=l.length:=by omega
   subst this;rw[nW] at hj';have hu:S.aq l l.length e=true:=eh.2 ⟨i,hij,hi'⟩;rcases hj'.2 with h | h
   ·dsimp only at h;rw[<-h,ea.2.2] at hu;cases hu
   ·dsimp only at h;rw[<-h,eb.2.2] at hu;cases hu
theorem CJ {o:List Br}(h:o.Pairwise λa b=>a.1<b.1){a b:Br}(ha:a∈o)(hb:b∈o)(e:a.1=b.1):a=b:=by
 induction o with
 | nil=>simp at ha
 | cons c o ih =>
  rw[List.pairwise_cons] at h;rcases List.mem_cons.1 ha with h1 | h1<;>rcases List.mem_cons.1 hb with h2 | h2
  ·rw[h1,h2]
  ·have:=h.1 b h2;rw[h1] at e;omega
  ·have:=h.1 a h1;rw[h2] at e;omega
  ·exact ih h.2 h1 h2
theorem By {o:List Br}(h:o.Pairwise λa b=>a.1<b.1){x:Br}(hx:x∈o):S.aF (o.filter λc=>!decide (c.1=x.1)) x=o:=by
 unfold S.aF;rw[List.filter_filter,List.filter_filter];have e1:∀o:List Br,(o.filter λc=>decide (c.1<x.1)&&!decide (c.1=x.1))=o.filter λc=>decide (c.1<x.1):=λo=>List.filter_congr λc _=>by
  by_cases hc:c.1<x.1
  ·have:¬c.1=x.1:=by omega
   simp[hc,this]
  ·simp[hc]
 have e2:∀o:List Br,(o.filter λc=>decide (x.1<c.1)&&!decide (c.1=x.1))=o.filter λc=>decide (x.1<c.1):=λo=>List.filter_congr λc _=>by
  by_cases hc:x.1<c.1
  ·have:¬c.1=x.1:=by omega
   simp[hc,this]
  ·simp[hc]
 rw[e1,e2];clear e1 e2
 induction o with
 | nil=>simp at hx
 | cons c o ih =>
  rw[List.pairwise_cons] at h;rcases List.mem_cons.1 hx with rfl | hx'
  ·have h1:o.filter (λc=>decide (c.1<x.1))=[]:=List.filter_eq_nil_iff.2 λd hd=>by have:=h.1 d hd;simp;omega
   have h2:o.filter (λc=>decide (x.1<c.1))=o:=List.filter_eq_self.2 λd hd=>by have:=h.1 d hd;simpa using this
   simp[h1,h2]
  ·have:=h.1 x hx';have n1:¬x.1<c.1:=by omega
   rw[List.filter_cons_of_pos (by simpa using this),List.filter_cons_of_neg (by simpa using n1),List.cons_append,ih h.2 hx']
theorem vd {m:Nat}:∀(bs:List Br) (l:List Sp) (o:List Br) (a:Br),MkI m (l,o)->a∈o->(∀b∈bs,b∈o)->(a::bs).Pairwise (λa b=>a.1≠b.1) ->
  MkI m ((bs.foldl S.aA (l,a)).1,S.aF (o.filter λc=>!decide (c.1∈(a::bs).map (·.1))) (bs.foldl S.aA (l,a)).2)
 | [],l,o,a,h,ha,_,_=>by have:=By h.so ha;simp only[List.foldl_nil,List.map_cons,List.map_nil,List.mem_singleton];rw[this];exact h
 | c::cs,l,o,a,h,ha,hb,hd=>by
  rw[List.pairwise_cons,List.pairwise_cons] at hd;have hac:=hd.1 c (by simp);have hj:=B5 (w:=a.2 ||| c.2) h ha (hb c (by simp)) hac;have klt:∀b∈o,b.1<(l.length:Int):=λb hbo=>((h.op b.1).1 ⟨b,hbo,rfl⟩).2.1;have ih:=vd cs _ _ ((l.length:Int),a.2 ||| c.2) hj (by simp) (λb hbc=>by
   refine List.mem_append_left _ (List.mem_filter.2 ⟨hb b (by simp[hbc]),?_⟩);have n1:=hd.1 b (by simp[hbc]);have n2:=hd.2.1 b hbc;have n3:¬b.1=a.1:=λe=>n1 e.symm;have n4:¬b.1=c.1:=λe=>n2 e.symm;simp[n3,n4]) (List.pairwise_cons.2 ⟨λb hbc=>by have:=klt b (hb b (by simp[hbc]));dsimp only;omega,hd.2.2⟩)
  have e:(((o.filter λd=>!decide (d.1=a.1)&&!decide (d.1=c.1))++[((l.length:Int),a.2 ||| c.2)]).filter λd=>!decide (d.1∈((((l.length:Int),a.2 ||| c.2):Br)::cs).map (·.1)))=o.filter λd=>!decide (d.1∈(a::c::cs).map (·.1)):=by
   rw[List.filter_append,List.filter_filter];have:([((l.length:Int),a.2 ||| c.2)]:List Br).filter (λd=>!decide (d.1∈((((l.length:Int),a.2 ||| c.2):Br)::cs).map (·.1)))=[]:=by rw[List.filter_eq_nil_iff];intro d hd;rw[List.mem_singleton.1 hd];simp
   rw[this,List.append_nil];refine List.filter_congr λd hd=>?_;have:=klt d hd;have n:¬d.1=(l.length:Int):=by omega
   simp only[List.map_cons,List.mem_cons,n,false_or]
   by_cases c1:d.1=a.1<;>by_cases c2:d.1=c.1<;>by_cases c3:d.1∈cs.map (·.1)<;>simp[c1,c2,c3]
  rw[e] at ih;exact ih
theorem B4 {m:Nat}{w:Nat->Bool}{st:List Sp×List Br}(h:MkI m st):MkI m (S.jn w st):=by
 unfold S.jn
 split
 ·exact h
 ·rename_i b bs hf;have hmem:∀c,c∈b::bs↔c∈st.2/\w c.2=true:=λc=>by rw[<-hf,List.mem_filter]
  have hp:(b::bs).Pairwise λa b=>a.1≠b.1:=by rw[<-hf];exact (h.so.filter _).imp λh e=>by omega
  have key:=vd bs st.1 st.2 b h ((hmem b).1 (by simp)).1 (λc hc=>((hmem c).1 (by simp[hc])).1) hp;have e:(st.2.filter λc=>!decide (c.1∈(b::bs).map (·.1)))=st.2.filter λc=>!w c.2:=List.filter_congr λc hc=>by
   congr 1;apply Bool.eq_iff_iff.2;rw[decide_eq_true_eq];constructor
   ·intro hm;obtain ⟨d,hd,hde⟩:=List.mem_map.1 hm;have hd':=(hmem d).1 hd;rw[<-CJ h.so hd'.1 hc hde];exact hd'.2
   ·intro hw;exact List.mem_map.2 ⟨c,(hmem c).2 ⟨hc,hw⟩,rfl⟩
  rw[e] at key;exact key
def S.aN (fam:List Nat):List Sp×List Br:=((List.range fam.length).map λv:Nat=>(((v:Int),-1,-1):Sp),(List.range fam.length).map λv:Nat=>(((v:Int),fam[v]?.getD 0):Br))
def S.aK (fam:List Nat)(order:List Int):Nat->List Sp×List Br
 | 0=>S.aN fam
 | j+1=>S.jn (λs=>s.testBit (order[j]?.getD 0).toNat) (S.aK fam order j)
def S.mk (fam:List Nat)(order:List Int):List Sp×List Br:=S.jn (λ_=>true) (S.aK fam order order.length)
theorem B6 (fam:List Nat):MkI fam.length (S.aN fam):=by
 have hs:∀v,v<fam.length->S.sp (S.aN fam).1 v=((v:Int),-1,-1):=λv hv=>by simp[S.sp,S.aN,hv]
 have hl:(S.aN fam).1.length=fam.length:=by simp[S.aN]
 have hu:∀e,S.aq (S.aN fam).1 (S.aN fam).1.length e=false:=λe=>by rw[Bool.eq_false_iff];intro h;obtain ⟨j,hj,hh⟩:=eh.1 h;rw[hs j (by omega)] at hh;have:=hh.1;dsimp only at this;omega
 constructor
 ·simp[S.aN];omega
 ·omega
 ·exact hs
 ·intro i h1 h2;omega
 ·rw[S.aN,List.pairwise_map];exact List.pairwise_lt_range.imp λh=>by dsimp only;omega
 ·intro e;rw[hu,hl];constructor
  ·rintro ⟨b,hb,rfl⟩;obtain ⟨v,hv,rfl⟩:=List.mem_map.1 hb;have:=List.mem_range.1 hv;dsimp only;exact ⟨by omega,by omega,rfl⟩
  ·rintro ⟨h0,h1,-⟩;exact ⟨_,List.mem_map.2 ⟨e.toNat,List.mem_range.2 (by omega),rfl⟩,by dsimp only;omega⟩
 ·intro i j e _ hj hi' _;rw[hs i (by omega)] at hi';have:=hi'.1;dsimp only at this;omega
theorem yM (fam:List Nat)(order:List Int):∀j,MkI fam.length (S.aK fam order j)
 | 0=>B6 fam
 | j+1=>B4 (yM fam order j)
theorem EH {fam:List Nat}{order:List Int}(hm:1<=fam.length):S.ck (S.mk fam order).1 fam.length=true/\((S.mk fam order).1.length:Int)=2*(fam.length:Int) - 1/\∀v,v<fam.length->S.sp (S.mk fam order).1 v=((v:Int),-1,-1):=by
 have h0:=yM fam order order.length;have h:=B4 (w:=λ_=>true) h0;have hne:(S.aK fam order order.length).2≠[]:=λe=>by
  have h1:=h0.ln;have h2:=h0.op ((S.aK fam order order.length).1.length - 1:Int);have h3:=h0.l1;rw[e] at h2;have:=h2.2 ⟨by omega,by omega,by
   rw[Bool.eq_false_iff];intro hu;obtain ⟨j,hj,hh⟩:=eh.1 hu
   by_cases c:fam.length<=j
   ·have:=e_.1 (h0.jn j c hj).2;omega
   ·have:=h0.lf j (by omega);rw[this] at hh;have:=hh.1;dsimp only at this;omega⟩
  obtain ⟨b,hb,-⟩:=this;simp at hb
 have ho:(S.mk fam order).2.length=1:=by
  unfold S.mk S.jn
  split
  ·rename_i hf;rw[List.filter_eq_self.2 λ_ _=>rfl] at hf;exact absurd hf hne
  ·have:(S.aK fam order order.length).2.filter (λ_=>!true)=[]:=List.filter_eq_nil_iff.2 λ_ _=>by simp
   dsimp only;rw[this];simp[S.aF]
 have hln:=h.ln;have hl:(S.mk fam order).1.length=2*fam.length - 1:=by have:(S.mk fam order).1.length+(S.mk fam order).2.length=2*fam.length:=hln;omega
 have h:MkI fam.length ((S.mk fam order).1,(S.mk fam order).2):=h;obtain ⟨L,hL⟩:∃L,L=(S.mk fam order).1:=⟨_,rfl⟩;obtain ⟨O,hO⟩:∃O,O=(S.mk fam order).2:=⟨_,rfl⟩;rw[<-hL,<-hO] at h;rw[<-hO] at ho;rw[<-hL] at hl ⊢;obtain ⟨-,-,h3,h4,h5,h6,h7⟩:=h;dsimp only at h3 h4 h5 h6 h7;obtain ⟨x,rfl⟩:=List.length_eq_one_iff.1 ho;have unus:∀e,S.aq L L.length e=true->0<=e/\e<(L.length:Int) - 1:=λe he=>by
  obtain ⟨j,hj,hh⟩:=eh.1 he
  by_cases c:fam.length<=j
  ·have:=e_.1 (h4 j c hj).2;omega
  ·have:=h3 j (by omega);rw[this] at hh;have:=hh.1;dsimp only at this;omega
 have hx:x.1=(L.length:Int) - 1:=by obtain ⟨b,hb,hbe⟩:=(h6 ((L.length:Int) - 1)).2 ⟨by omega,by omega,by rw[Bool.eq_false_iff];intro hu;have:=unus _ hu;omega⟩;rw[<-List.mem_singleton.1 hb,hbe]
 refine ⟨?_,by omega,h3⟩;simp only[S.ck,Bool.and_eq_true,decide_eq_true_eq,List.all_eq_true,List.mem_range];refine ⟨⟨⟨by omega,λi hi=>?_⟩,λv hv=>j9.2 ⟨v,by omega,by rw[h3 v hv]⟩⟩,λe he=>?_⟩
 ·unfold S.aM
  by_cases c:i<fam.length
  ·rw[h3 i c];have hb:S.aH L i (i:Int)=false:=by rw[Bool.eq_false_iff];intro hu;obtain ⟨j,hj,hh⟩:=j9.1 hu;rw[h3 j (by omega)] at hh;dsimp only at hh;omega
   have hlf:S.aQ L fam.length i=true:=jM.2 (by rw[h3 i c];dsimp only;exact ⟨by omega,by omega,rfl,rfl⟩);dsimp only;rw[if_neg (by omega),hlf,hb];rfl
  ·obtain ⟨a1,a2⟩:=h4 i (by omega) hi;have nu:∀e,((S.sp L i).2.1=e\/(S.sp L i).2.2=e)->S.aq L i e=false:=λe hh=>by rw[Bool.eq_false_iff];intro hu;obtain ⟨j,hj,hh2⟩:=eh.1 hu;exact h7 j i e hj hi hh2 ⟨a1,hh⟩
   rw[if_pos a1,a2,nu _ (.inl rfl),nu _ (.inr rfl)];rfl
 ·apply Classical.byContradiction;intro hu;rw[Bool.not_eq_true] at hu;obtain ⟨b,hb,hbe⟩:=(h6 (e:Int)).2 ⟨by omega,by omega,hu⟩;rw[List.mem_singleton.1 hb] at hbe;omega
end Hx
end
section
namespace Hx
open Go
noncomputable section
def S.aD (l:List Sp)(n:Nat):Nat->Nat
 | 0=>0
 | j+1=>if 0<=(S.sp l j).1/\(S.sp l j).1<(n:Int) then S.aD l n j ||| S.an (S.sp l j).1.toNat else S.aD l n j
theorem wS (l:List Sp)(n:Nat):∀j,S.aD l n j<18446744073709551616
 | 0=>by simp[S.aD]
 | j+1=>by
  rw[S.aD]
  split
  ·exact Nat.or_lt_two_pow (n:=64) (wS l n j) (jb _)
  ·exact wS l n j
theorem Cb {l:List Sp}{n:Nat}(hn:n<=63)(v:Nat):∀j,(S.aD l n j).testBit v=true↔v<n/\∃k,k<j/\(S.sp l k).1=(v:Int)
 | 0=>by simp[S.aD]
 | j+1=>by
  have ih:=Cb hn v (l:=l) j;rw[S.aD]
  split
  ·rename_i h;rw[wj (by omega),Nat.testBit_or,Bool.or_eq_true,ih,Nat.testBit_two_pow,decide_eq_true_eq];constructor
   ·rintro (⟨h1,k,hk,e⟩ | h1)
    ·exact ⟨h1,k,by omega,e⟩
    ·exact ⟨by omega,j,by omega,by omega⟩
   ·rintro ⟨h1,k,hk,e⟩
    by_cases c:k=j
    ·subst c;exact .inr (by omega)
    ·exact .inl ⟨h1,k,by omega,e⟩
  ·rename_i h;rw[ih];constructor
   ·rintro ⟨h1,k,hk,e⟩;exact ⟨h1,k,by omega,e⟩
   ·rintro ⟨h1,k,hk,e⟩;refine ⟨h1,k,?_,e⟩
    by_cases c:k=j
    ·subst c;exact absurd ⟨by omega,by omega⟩ h
    ·omega
theorem Ca {l:List Sp}{n:Nat}(hn:n<=63)(h:S.ck l n=true):S.aD l n l.length=2 ^ n - 1:=by
 apply Nat.eq_of_testBit_eq;intro v;rw[Nat.testBit_two_pow_sub_one];apply Bool.eq_iff_iff.2;rw[Cb hn,decide_eq_true_eq];constructor
 ·exact λh=>h.1
 ·intro hv;simp only[S.ck,Bool.and_eq_true,List.all_eq_true,List.mem_range] at h;exact ⟨hv,j9.1 (h.1.2 v hv)⟩
def S.au (l:List Sp)(j:Nat):List Int:=(List.range l.length).map λe:Nat=>(S.ak l (e:Int) j:Int)
theorem fk (l:List Sp)(j:Nat):(S.au l j).length=l.length:=by simp[S.au]
theorem jR {l:List Sp}{j e:Nat}(h:e<l.length):(S.au l j)[e]?=some (S.ak l (e:Int) j:Int):=by simp[S.au,h]
theorem AD {l:List Sp}{j:Nat}(h:¬(S.sp l j).1 = -1):S.au l (j+1)=S.au l j:=by refine List.map_congr_left λe _=>?_;rw[S.ak,if_neg (λh'=>h h'.1)];simp
theorem AC {l:List Sp}{j b c:Nat}(hb:b<l.length)(hc:c<l.length)(hbc:b≠c)(h:(S.sp l j).1 = -1)(h1:(S.sp l j).2.1=(b:Int))(h2:(S.sp l j).2.2=(c:Int)):S.au l (j+1)=((S.au l j).set b ((S.ak l (b:Int) j:Int)+1)).set c ((S.ak l (c:Int) j:Int)+1):=by
 apply List.ext_getElem?;intro i;rw[List.getElem?_set,List.getElem?_set,List.length_set,fk]
 by_cases e:i<l.length
 ·rw[jR e,jR e,S.ak,h,h1,h2]
  by_cases e1:c=i
  ·subst e1;simp[e]
  ·by_cases e2:b=i
   ·subst e2;simp[e,e1]
   ·have n1:¬(b:Int)=(i:Int):=by omega
    have n2:¬(c:Int)=(i:Int):=by omega
    simp[e1,e2,n1,n2]
 ·rw[List.getElem?_eq_none (by rw[fk];omega),List.getElem?_eq_none (by rw[fk];omega)];have n1:¬c=i:=by omega
  have n2:¬b=i:=by omega
  simp[n1,n2]
theorem wm (l:List Sp)(e:Int):∀j,S.ak l e j<=j
 | 0=>Nat.le_refl _
 | j+1=>by have:=wm l e j;rw[S.ak];split<;>omega
theorem Fy {l:List Sp}{n j:Nat}(h:S.ck l n=true)(hj:j<l.length):((S.sp l j).1 = -1/\S.aP l j=true)\/(0<=(S.sp l j).1/\(S.sp l j).1<(n:Int)):=by
 simp only[S.ck,Bool.and_eq_true,List.all_eq_true,List.mem_range] at h;have:=h.1.1.2 j hj;unfold S.aM at this
 split at this
 ·rename_i c;simp only[Bool.and_eq_true] at this;exact .inl ⟨c,this.1.1⟩
 ·simp only[Bool.and_eq_true] at this;exact .inr ⟨(jM.1 this.1).1,(jM.1 this.1).2.1⟩
theorem De {l:List Sp}{n:Nat}(hn:1<=n)(h:S.ck l n=true){i:Nat}(hi:i<l.length):S.ak l (i:Int) l.length=if i+1<l.length then 1 else 0:=by rw[Fz hn] at h;simp only[S.rt,Bool.and_eq_true,List.all_eq_true,List.mem_range] at h;have:=h.2 i hi;simp only[S.bm,Bool.and_eq_true,decide_eq_true_eq] at this;exact this.2
theorem BZ {b9 w nb:AV}{gr:Int}{l:List Sp}{n:Net}{q9:Nat}{Q:QT}{t:T}{g:G}(hn1:1<=n.nodes.length)(hn:n.nodes.length<=8)(hN:SlR NoP 0 .nil n.nodes nb)(hck:S.ck l n.nodes.length=true)(hl16:l.length<=20)(hw:SlR NoP 0 .nil l w)
  (hb:g.h.get q9=.cells 2 [[.int .i64 gr,nb]] 0 false false) (hq:q9<g.nx) (hO:Own g (q9+1) b9 1 ((S.au l 0).map ci))
  (ht:St t [(9,.hptr q9 0 0 0),(13,w),(14,.int .u64 0),(15,b9),(84,w),(85,.int .i64 (l.length:Int)),(86,.int .i64 0)])
  (fin:∀t g,St t [(9,.hptr q9 0 0 0),(14,.int .u64 ((2 ^ n.nodes.length - 1:Nat):Int)),(15,b9)]->g.h.get q9=.cells 2 [[.int .i64 gr,nb]] 0 false false->Own g (q9+1) b9 1 ((S.au l l.length).map ci)->Q (.exit 2) t [] g) :
  wpL (wp C0 1 none bQ) Q t [] g:=by
 obtain ⟨h9,h13,h14,h15,h84,h85,h86,-⟩:=ht;have ws:=λh=>(hw.tree (h':=h) (Nat.le_refl 0)).sps;have wl:=λg=>hw.len g;have nl:=λg=>hN.len g;simp only[bQ,dN];refine bf (m:=l.length) hw.1 (λj t df g=>df=[]/\St t [(9,.hptr q9 0 0 0),(13,w),(14,.int .u64 (S.aD l n.nodes.length j:Int)),(15,b9),(84,w)]/\g.h.get q9=.cells 2 [[.int .i64 gr,nb]] 0 false false/\q9<g.nx/\Own g (q9+1) b9 1 ((S.au l j).map ci))
  ⟨rfl,by simp[St,S.aD,h9,h13,h14,h15,h84],hb,hq,hO⟩ h86 h85 (by decide) (by rintro j t df g v s (rfl | rfl | rfl)<;>simp[sx,St]) ?_ ?_
 ·clear h9 h13 h14 h15 h84 h85 h86 hb hq hO;rintro j t df g hj ⟨rfl,⟨h9,h13,h14,h15,h84,-⟩,hb,hq,hO⟩ h86 h85;obtain ⟨⟨a,b,c⟩,hx,-,-⟩:=aK hj;have hsp:S.sp l j=(a,b,c):=by rw[S.sp,hx];rfl
  have u1:j<(l.map cs3).length:=by simpa using hj
  have u2:(l.map cs3)[j]?=some [.int .i64 a,.int .i64 b,.int .i64 c]:=by rw[List.getElem?_map,hx];rfl
  have hel:=Fy hck hj;rw[hsp] at hel;dsimp only at hel;rcases hel with ⟨rfl,hjn⟩ | ⟨ha0,ha1⟩
  ·have hj2:=e_.1 hjn;rw[hsp] at hj2;dsimp only at hj2;obtain ⟨B,rfl⟩:=Int.eq_ofNat_of_zero_le hj2.1;obtain ⟨C,rfl⟩:=Int.eq_ofNat_of_zero_le hj2.2.2.1;have hB:B<l.length:=by omega
   have hC:C<l.length:=by omega
   have hBC:B≠C:=by omega
   have hus:=AC hB hC hBC (l:=l) (j:=j) (by rw[hsp]) (by rw[hsp]) (by rw[hsp]);have hnd:S.aD l n.nodes.length (j+1)=S.aD l n.nodes.length j:=by rw[S.aD,hsp];dsimp only;rw[if_neg (by omega)]
   have hq2:¬q9=g.nx:=by omega
   have z1:B<((S.au l j).map ci).length:=by simpa [fk] using hB
   have z2:((S.au l j).map ci)[B]?=some (ci (S.ak l (B:Int) j:Int)):=by rw[List.getElem?_map,jR hB];rfl
   have wB:IntKind.wrap .i64 ((S.ak l (B:Int) j:Int)+1)=(S.ak l (B:Int) j:Int)+1:=by have:=wm l (B:Int) j;exact ay (by omega) (by omega)
   have wC:IntKind.wrap .i64 ((S.ak l (C:Int) j:Int)+1)=(S.ak l (C:Int) j:Int)+1:=by have:=wm l (C:Int) j;exact ay (by omega) (by omega)
   have d1:decide ((l.length:Int)<=(B:Int))=false:=decide_eq_false (by omega);have d2:decide ((l.length:Int)<=(C:Int))=false:=decide_eq_false (by omega);have d3:decide ((B:Int)<0)=false:=decide_eq_false (by omega);have d4:decide ((C:Int)<0)=false:=decide_eq_false (by omega);have z2':((S.au l j).map ci)[B]?=some [.int .i64 (S.ak l (B:Int) j:Int)]:=z2;simp only[sz,simprocAttr,h84,h86,ws,u1,u2,h9,h13,wl,d1,d2,d3,d4];obtain ⟨gA,hgA⟩:∃gA,gA=((g.new (AObj.cells 3 [[AV.int IntKind.i64 0,AV.int IntKind.i64 0,AV.int IntKind.i64 0]] 0 false false)).put g.nx (AObj.cells 3 [[AV.int IntKind.i64 (-1),AV.int IntKind.i64 (B:Int),AV.int IntKind.i64 (C:Int)]] 0 false false)):=⟨_,rfl⟩;rw[<-hgA];have kq:gA.h.get g.nx=.cells 3 [[.int .i64 (-1),.int .i64 (B:Int),.int .i64 (C:Int)]] 0 false false:=by rw[hgA];simp[H.get_put]
   have kn:gA.nx=g.nx+1:=by rw[hgA];simp
   have kf:∀i,i<g.nx->gA.h.get i=g.h.get i:=λi hi=>by rw[hgA];simp[H.get_put,show ¬i=g.nx by omega]
   clear hgA;have oA:Own gA (q9+1) b9 1 ((S.au l j).map ci):=hO.fr (by omega) λi hi=>kf i (hO.lt hi).2;have hqq:vid b9≠some g.nx:=λe=>by have:=(hO.lt e).2;omega
   have hq9:vid b9≠some q9:=λe=>by have:=(hO.lt e).1;omega
   simp only[sz,simprocAttr,h15,kq,oA.rows,z1,z2',wB];refine bw (v:=b9) (sz:=1) (n:=1) (i:=B) (off:=0) (x:=.int .i64 ((S.ak l (B:Int) j:Int)+1)) (row:=ci (S.ak l (B:Int) j:Int)) (row':=ci ((S.ak l (B:Int) j:Int)+1)) oA z2 rfl rfl rfl λg2 o2 n2 f2=>?_;have k2:g2.h.get g.nx=.cells 3 [[.int .i64 (-1),.int .i64 (B:Int),.int .i64 (C:Int)]] 0 false false:=by rw[f2 _ hqq,kq]
   have z5:C<(((S.au l j).map ci).set B (ci ((S.ak l (B:Int) j:Int)+1))).length:=by simpa [fk] using hC
   have z6:(((S.au l j).map ci).set B (ci ((S.ak l (B:Int) j:Int)+1)))[C]?=some [.int .i64 (S.ak l (C:Int) j:Int)]:=by rw[List.getElem?_set_ne hBC,List.getElem?_map,jR hC];rfl
   simp only[sz,simprocAttr,h15,k2,o2.rows,z5,z6,wC];refine bw (v:=b9) (sz:=1) (n:=1) (i:=C) (off:=0) (x:=.int .i64 ((S.ak l (C:Int) j:Int)+1)) (row:=ci (S.ak l (C:Int) j:Int)) (row':=ci ((S.ak l (C:Int) j:Int)+1)) o2 z6 rfl rfl rfl λg3 o3 n3 f3=>?_;simp only[sz,simprocAttr];refine ⟨⟨by simp[St,sx,h9,h13,h14,h15,h84,hnd],?_,by omega,?_⟩,by simp[sx,h85,h86]⟩
   ·rw[f3 q9 hq9,f2 q9 hq9,kf q9 hq,hb]
   ·rw[hus,List.map_set,List.map_set];exact o3
  ·obtain ⟨A,rfl⟩:=Int.eq_ofNat_of_zero_le ha0;have e4:bo .shl (.int .u64 1) (.int .i64 (A:Int))=.val (.int .u64 (S.an A:Int)):=eD .i64 A;have e5:=oe (S.aD l n.nodes.length j) (S.an A) (wS _ _ _) (jb A);have hnd:S.aD l n.nodes.length (j+1)=S.aD l n.nodes.length j ||| S.an A:=by rw[S.aD,hsp];dsimp only;rw[if_pos ⟨ha0,ha1⟩];rfl
   have hus:S.au l (j+1)=S.au l j:=AD (by rw[hsp];dsimp only;omega);have hq2:¬q9=g.nx:=by omega
   simp only[sz,simprocAttr,h84,h86,ws,u1,u2,h9,h14,hq2,hb,nl,ha0,ha1,e4,e5];refine ⟨⟨by simp[St,sx,h9,h13,h15,h84,hnd],by omega,?_⟩,h85⟩;rw[hus];exact hO.fr (by simp) λi hi=>by have:=(hO.lt hi).2;simp[H.get_put,show ¬i=g.nx by omega]
 ·rintro t df g ⟨rfl,⟨h9,h13,h14,h15,h84,-⟩,hb,hq,hO⟩;rw[Ca (by omega) hck] at h14;exact fin t g (by simp[St,h9,h14,h15]) hb hO
def cbr (x:Br):List AV:=[.int .i64 x.1,.int .u64 (x.2:Int)]
theorem zJ (d:Nat)(a b:AV)(g:G):eF C0 (I C0) d (.clo 67 [] []) [a,b] g=orF ((I C0).call d N.aS [a,b] g):=by kernel_rfl
theorem tj (C:Cfg)(t:T)(g:G)(f:Od)(xs:List Od):(SO.foot C t g (.dyn f xs)).sr=[]:=by
 simp only[SO.foot]
 split
 ·rw[aa];split<;>rfl
 ·rfl
theorem AX {d:Nat}{x y:Br}{g:G}{K:AV->G->Prop}{D:ADf->Prop}(hx:0<=x.1/\x.1<=1000)(hy:0<=y.1/\y.1<=1000)
  (kk:∀g',Fr g g'->(∀i∈g'.lg,i∈g.lg\/g.nx<=i)->K (.int .i64 (x.1 - y.1)) g'):(eF C0 (I C0) d (.clo 67 [] []) [.agg (cbr x),.agg (cbr y)] g).sat K g D:=by
 rw[zJ];refine jZ iK (by simp[cm]) ?_;have w1:IntKind.wrap .i64 (x.1 - y.1)=x.1 - y.1:=ay (by omega) (by omega);simp only[sz,simprocAttr,cbr,cm,dj,w1,show ¬g.nx=g.nx+1 from by omega];refine kk _ ⟨?_,?_⟩ ?_
 ·simp;omega
 ·intro i hi;simp[H.get_put,show ¬i=g.nx by omega,show ¬i=g.nx+1 by omega]
 ·intro i hi;simp at hi;rcases hi with h | h | h
  ·exact .inr (by omega)
  ·exact .inr (by omega)
  ·exact .inl h
theorem oq {p:List Br}{y:Br}{k:Nat}(h1:∀b∈p.take k,b.1<y.1)(h2:∀b∈p.drop k,y.1<b.1):p.take k++y::p.drop k=S.aF p y:=by
 unfold S.aF;have e1:p.filter (λb=>decide (b.1<y.1))=p.take k:=by
  conv=>lhs;rw[<-List.take_append_drop k p]
  rw[List.filter_append,List.filter_eq_self.2 λb hb=>by simpa using h1 b hb,List.filter_eq_nil_iff.2 λb hb=>by have:=h2 b hb;simp;omega,List.append_nil]
 have e2:p.filter (λb=>decide (y.1<b.1))=p.drop k:=by
  conv=>lhs;rw[<-List.take_append_drop k p]
  rw[List.filter_append,List.filter_eq_nil_iff.2 λb hb=>by have:=h1 b hb;simp;omega,List.filter_eq_self.2 λb hb=>by simpa using h2 b hb,List.nil_append]
 rw[e1,e2]
def S.ay (p:List Br)(y:Br)(q:List Br)(k:Nat):List Br:=p.take k++y::p.drop k++q
theorem yL {p q:List Br}{y:Br}{k:Nat}:(S.ay p y q k).length=p.length+1+q.length:=by simp[S.ay,List.length_append];omega
theorem E8 {p q:List Br}{y:Br}{k:Nat}(h:k<=p.length):(S.ay p y q k)[k]?=some y:=by rw[S.ay,List.append_assoc,List.getElem?_append_right (by rw[List.length_take];omega),List.length_take,Nat.min_eq_left h,Nat.sub_self];rfl
theorem B2 {p q:List Br}{y z:Br}{k:Nat}(h:p[k]?=some z):(S.ay p y q (k+1))[k]?=some z:=by have hk:=(List.getElem?_eq_some_iff.1 h).1;rw[S.ay,List.append_assoc,List.getElem?_append_left (by simp;omega),List.getElem?_take,if_pos (by omega),h]
theorem B3 {p q:List Br}{y z:Br}{k:Nat}(h:p[k]?=some z):((S.ay p y q (k+1)).set (k+1) z).set k y=S.ay p y q k:=by
 have hk:=(List.getElem?_eq_some_iff.1 h).1;have e1:p.take (k+1)=p.take k++[z]:=by rw[List.take_add_one,h];rfl
 have e2:p.drop k=z::p.drop (k+1):=by rw[List.drop_eq_getElem_cons hk];congr 1;rw[List.getElem?_eq_getElem hk] at h;injection h
 have e3:(p.take k).length=k:=by rw[List.length_take];omega
 rw[S.ay,S.ay,e1,e2];simp only[List.append_assoc,List.cons_append,List.nil_append,List.singleton_append];rw[List.set_append_right _ _ (by omega),List.set_append_right _ _ (by omega),e3];rw[show k+1 - k=1 by omega,Nat.sub_self]
 rfl
theorem y6 (l:List Br)(i:Nat)(x:Br):(l.map cbr).set i (cbr x)=(l.set i x).map cbr:=by rw[List.map_set]
def Sr (v:AV)(g g':G):Prop:=g.nx<=g'.nx/\(∀i,i<g.nx->vid v≠some i->g'.h.get i=g.h.get i)/\∀i∈g'.lg,vid v=some i\/i∈g.lg\/g.nx<=i
theorem Sr.refl (v:AV)(g:G):Sr v g g:=⟨Nat.le_refl _,λ_ _ _=>rfl,λ_ h=>.inr (.inl h)⟩
theorem Sr.trans {v:AV}{g g1 g2:G}(h:Sr v g g1)(h2:Sr v g1 g2):Sr v g g2 :=
 ⟨Nat.le_trans h.1 h2.1,λi hi hv=>by rw[h2.2.1 i (Nat.lt_of_lt_of_le hi h.1) hv,h.2.1 i hi hv],λi hi=>by
  rcases h2.2.2 i hi with h3 | h3 | h3
  ·exact .inl h3
  ·exact h.2.2 i h3
  ·exact .inr (.inr (Nat.le_trans h.1 h3))⟩
def LIn (v:AV)(n i k:Nat):List (Nat×AV):=[(0,v),(1,.int .i64 0),(2,.int .i64 (n:Int)),(3,.clo 67 [] []),(8,.int .i64 (i:Int)),(9,.int .i64 (k:Int))]
set_option maxRecDepth 20000 in
theorem BC {d b:Nat}{v:AV}{p q:List Br}{y:Br}{g0:G}{Q:QT}{t:T}{g:G}(hp:p.Pairwise λa b=>a.1<b.1)(hb:∀x∈p,0<=x.1/\x.1<=1000)(hy:0<=y.1/\y.1<=1000)(hne:∀x∈p,x.1≠y.1)(hl:p.length<=1000)
  (ht:St t (LIn v (p.length+1+q.length) p.length p.length)) (ho:Own g b v 2 ((S.ay p y q p.length).map cbr)) (hs:Sr v g0 g)
  (fin:∀t g,St t ((LIn v (p.length+1+q.length) p.length 0).take 5)->Own g b v 2 ((S.aF p y++q).map cbr)->Sr v g0 g->Q (.exit 2) t [] g) :
  wpL (wp C0 d none aw) Q t [] g:=by
 refine qU (λk t df g=>df=[]/\k<=p.length/\St t (LIn v (p.length+1+q.length) p.length k)/\Own g b v 2 ((S.ay p y q k).map cbr)/\Sr v g0 g/\∀x∈p.drop k,y.1<x.1) p.length ⟨rfl,Nat.le_refl _,ht,ho,hs,by simp⟩ ?_;clear ht ho hs;rintro k t df g ⟨rfl,hk,⟨h0,h1,h2,h3,h8,h9,-⟩,ho,hs,hgt⟩;cases k with
 | zero =>
  simp only[sz,simprocAttr,sf,aw,h0,h1,h3,h9];refine ⟨?_,?_⟩
  ·simp only[List.reverse_cons,List.reverse_nil,List.nil_append,List.cons_append,G.new_lg,G.put_lg,setLog_lg];exact aW [false,false,false,false,false,false,false,false,false,false,false,false,false,false,false,false,false] [] (by simp[All2,af,au,tj]) (by decide) (by simp)
  refine fin _ _ (by simp[St,LIn,sx,h0,h1,h2,h3,h8,h9]) ?_ ?_
  ·rw[<-oq (k:=0) (by simp) hgt];exact ho.fr (by first | (simp;done) | (simp;omega)) λi _=>by simp
  ·refine hs.trans ⟨by first | (simp;done) | (simp;omega),λi hi hvi=>by simp,λi hi=>?_⟩;simp at hi;exact .inr (.inl hi)
 | succ k =>
  obtain ⟨z,hz⟩:∃z,p[k]?=some z:=⟨_,List.getElem?_eq_getElem (by omega)⟩;have hzm:z∈p:=List.mem_of_getElem? hz;have u1:k+1<((S.ay p y q (k+1)).map cbr).length:=by simp[yL];omega
  have u2:((S.ay p y q (k+1)).map cbr)[k+1]?=some [.int .i64 y.1,.int .u64 (y.2:Int)]:=by rw[List.getElem?_map,E8 (by omega)];rfl
  have u3:k<((S.ay p y q (k+1)).map cbr).length:=by simp[yL];omega
  have u4:((S.ay p y q (k+1)).map cbr)[k]?=some [.int .i64 z.1,.int .u64 (z.2:Int)]:=by rw[List.getElem?_map,B2 hz];rfl
  have c1:decide ((0:Int)<((k+1:Nat):Int))=true:=decide_eq_true (by omega);have w1:IntKind.wrap .i64 (((k+1:Nat):Int) - 1)=(k:Int):=by rw[ay (by omega) (by omega)];omega
  simp only[sz,simprocAttr,sf,aw,h0,h1,h3,h9,c1,w1,ho.rows,u1,u2,u3,u4];refine AX (x:=y) (y:=z) hy (hb z hzm) λg1 f1 l1=>?_;have o1:Own g1 b v 2 ((S.ay p y q (k+1)).map cbr):=ho.fr (Nat.le_trans (by first | (simp;done) | (simp;omega)) f1.1) λi hi=>by rw[f1.2 i (by have:=(ho.lt hi).2;simp;omega)];simp
  by_cases c2:y.1 - z.1<0
  ·simp only[sz,simprocAttr,sf,c2];refine ⟨?_,?_⟩
   ·simp only[List.reverse_cons,List.reverse_nil,List.nil_append,List.cons_append,G.new_lg,G.put_lg,setLog_lg];exact aW [false,false,false,false,false,false,false,false,false,false,false,false,false,false,true,false,false] [] (by simp[All2,af,au,tj]) (by decide) (by simp)
   simp only[sz,simprocAttr,sf,h0,h9,w1,o1.rows,u1,u2,u3,u4];refine ks (v:=v) (sz:=2) (n:=2) (i:=k+1) (off:=0) (x:=.agg (cbr z)) (row:=cbr y) (row':=cbr z) (o1.fr (by first | (simp;done) | (simp;omega)) λi _=>by simp) u2 rfl rfl rfl λg2 o2 n2 f2 p2=>?_;rw[y6] at o2;simp only[sy] at n2;have u5:k<(((S.ay p y q (k+1)).set (k+1) z).map cbr).length:=by simpa using u3
   have u6:(((S.ay p y q (k+1)).set (k+1) z).map cbr)[k]?=some (cbr z):=by rw[List.getElem?_map,List.getElem?_set_ne (by omega),B2 hz];rfl
   simp only[sz,simprocAttr,sf,o2.rows,u5];refine ks (v:=v) (sz:=2) (n:=2) (i:=k) (off:=0) (x:=.agg (cbr y)) (row:=cbr z) (row':=cbr y) (o2.fr (by first | (simp;done) | (simp;omega)) λi _=>by simp) u6 rfl rfl rfl λg3 o3 n3 f3 p3=>?_;rw[y6,B3 hz] at o3;simp only[sy] at n3;have w2:IntKind.wrap .i64 (((k+1:Nat):Int) - 1)=(k:Int):=w1;simp only[sz,simprocAttr,sf,h9,w2];refine ⟨?_,k,by omega,by omega,?_,?_,?_,?_⟩
   ·simp only[List.reverse_cons,List.reverse_nil,List.nil_append,List.cons_append,G.new_lg,G.put_lg,setLog_lg];refine aW [false,false,false,false,false,false,false,false,false,false,false,false,false,false,false,true,false,true] [(2,15),(3,15),(4,15)] (by simp[All2,af,au]) (by decide) ?_;rintro p hp x y hx hy;simp only[List.mem_cons,List.not_mem_nil,or_false] at hp;rcases hp with rfl | rfl | rfl<;>(simp at hx hy;subst hx;subst hy;refine di rfl rfl rfl rfl ?_ ?_ ?_<;>simp[af,au,ac])
   ·simp[St,LIn,sx,h0,h1,h2,h3,h8]
   ·exact o3.fr (by first | (simp;done) | (simp;omega)) λi _=>by simp
   ·refine hs.trans ⟨?_,λi hi hvi=>?_,λi hi=>?_⟩
    ·have:=f1.1;simp at this ⊢;omega
    ·have q3:=f3 i hvi;have q2:=f2 i hvi;have q1:=f1.2 i (by simp;omega);simp at q1 q2 q3;simp[q1,q2,q3]
    ·have q1:=p3 i;have q2:=p2 i;have q3:=l1 i;simp at hi q1 q2 q3;rcases hi with h | h | h | h
     ·exact .inl (q1 h)
     ·exact .inl (q2 h)
     ·exact .inr (.inr (by have:=q3 h;omega))
     ·exact .inr (.inl h)
   ·intro x hx;have e2:p.drop k=z::p.drop (k+1):=by rw[List.drop_eq_getElem_cons (by omega)];congr 1;rw[List.getElem?_eq_getElem (by omega)] at hz;injection hz
    rw[e2] at hx;rcases List.mem_cons.1 hx with rfl | hx
    ·omega
    ·exact hgt x hx
  ·simp only[sz,simprocAttr,sf,c2];refine ⟨?_,?_⟩
   ·simp only[List.reverse_cons,List.reverse_nil,List.nil_append,List.cons_append,G.new_lg,G.put_lg,setLog_lg];exact aW [false,false,false,false,false,false,false,false,false,false,false,false,false,false,true,false,false] [] (by simp[All2,af,au,tj]) (by decide) (by simp)
   refine fin _ _ (by simp[St,LIn,sx,h0,h1,h2,h3,h8,h9]) ?_ ?_
   ·have hlt:∀x∈p.take (k+1),x.1<y.1:=λx hx=>by
     obtain ⟨i,hi,he⟩:=List.mem_iff_getElem.1 hx;rw[List.length_take] at hi;rw[List.getElem_take] at he;have hzy:z.1<y.1:=by have:=hne z hzm;omega
     by_cases e:i=k
     ·subst e;rw[List.getElem?_eq_getElem (by omega)] at hz;injection hz with hz;rw[<-he,hz];exact hzy
     ·have h1:=List.pairwise_iff_getElem.1 hp i k (by omega) (by omega) (by omega);rw[List.getElem?_eq_getElem (by omega)] at hz;injection hz with hz;rw[he,hz] at h1;omega
    rw[<-oq hlt hgt];exact o1.fr (by first | (simp;done) | (simp;omega)) λi _=>by simp
   ·refine hs.trans ⟨?_,λi hi hvi=>?_,λi hi=>?_⟩
    ·have:=f1.1;simp at this ⊢;omega
    ·have q1:=f1.2 i (by simp;omega);simp at q1;simp[q1]
    ·have q3:=l1 i;simp at hi q3;rcases hi with h | h
     ·exact .inr (.inr (by have:=q3 h;omega))
     ·exact .inr (.inl h)
theorem Bw {p:List Br}{y:Br}(h:∀b∈p,b.1<y.1):S.aF p y=p++[y]:=by have:=oq (p:=p) (y:=y) (k:=p.length) (by simpa using h) (by simp);rw[<-this];simp
def S.ba (s:List Br)(x:Br)(j:Nat):List Br:=if j<s.length then s++[x] else S.aF s x
theorem Dm (x:Br):S.aF [] x=[x]:=rfl
theorem CL (s:List Br)(x:Br):S.ba s x 0=s++[x]:=by
 unfold S.ba
 split
 ·rfl
 ·have:s=[]:=List.eq_nil_of_length_eq_zero (by omega);rw[this,Dm];rfl
set_option maxRecDepth 20000 in
theorem BE {d b:Nat}{v:AV}{s:List Br}{x:Br}{g:G}{K:AV->G->Prop}{D:ADf->Prop}(hp:s.Pairwise λa b=>a.1<b.1)(hb:∀x∈s,0<=x.1/\x.1<=1000)(hx:0<=x.1/\x.1<=1000)(hne:∀y∈s,y.1≠x.1)(hl:s.length<=999)
  (ho:Own g b v 2 ((s++[x]).map cbr)) (kk:∀u g',Own g' b v 2 ((S.aF s x).map cbr)->Sr v g g'->K u g'):(aG C0 d N.aP [v,.int .i64 0,.int .i64 ((s.length+1:Nat):Int),.clo 67 [] []] g).sat K g D:=by
 rw[bL];refine jZ cj (by simp[aQ]) ?_;have w0:IntKind.wrap .i64 1=1:=ay (by omega) (by omega);simp only[sz,simprocAttr,aQ,aZ,w0];refine t_ (m:=s.length) (λj t df g'=>df=[]/\St t [(0,v),(1,.int .i64 0),(2,.int .i64 ((s.length+1:Nat):Int)),(3,.clo 67 [] []),(8,.int .i64 ((j+1:Nat):Int))]/\Own g' b v 2 ((S.ba s x j).map cbr)/\Sr v g g') ⟨rfl,by simp[St,sx],by rw[CL];exact ho,Sr.refl _ _⟩ ?_ ?_ ?_
 ·rintro j t df g' hj ⟨rfl,⟨h0,h1,h2,h3,h8,-⟩,o,hs⟩;have c:decide (((j+1:Nat):Int)<((s.length+1:Nat):Int))=decide (j<s.length):=decide_eq_decide.2 (by omega);simp only[sz,simprocAttr,h2,h8,c];exact ⟨by simp[St,sx,h0,h1,h2,h3,h8],o,hs⟩
 ·rintro j t df g' hj ⟨rfl,⟨h0,h1,h2,h3,h8,-⟩,o,hs⟩;have ev:S.ba s x j=s++[x]:=if_pos hj;rw[ev] at o;obtain ⟨p,y,q,e1,e2,e3,e4⟩:∃p y q,s++[x]=p++y::q/\p.length=j+1/\S.ba s x (j+1)=S.aF p y++q/\(p.Pairwise (λa b=>a.1<b.1)/\(∀z∈p,0<=z.1/\z.1<=1000)/\(0<=y.1/\y.1<=1000)/\∀z∈p,z.1≠y.1):=by
   by_cases c:j+1<s.length
   ·refine ⟨s.take (j+1),s[j+1],s.drop (j+2)++[x],?_,by simp;omega,?_,hp.sublist (List.take_sublist _ _),λz hz=>hb z (List.mem_of_mem_take hz),hb _ (List.getElem_mem _),?_⟩
    ·rw[<-List.cons_append,<-List.drop_eq_getElem_cons c,<-List.append_assoc,List.take_append_drop]
    ·have hlt:∀b∈s.take (j+1),b.1<(s[j+1]).1:=λb hb=>by obtain ⟨i,hi,he⟩:=List.mem_iff_getElem.1 hb;rw[List.length_take] at hi;rw[List.getElem_take] at he;rw[<-he];exact List.pairwise_iff_getElem.1 hp i (j+1) (by omega) (by omega) (by omega)
     rw[Bw hlt,S.ba,if_pos c,List.append_assoc,List.singleton_append,<-List.cons_append,<-List.drop_eq_getElem_cons c,<-List.append_assoc,List.take_append_drop]
    ·intro z hz;obtain ⟨i,hi,he⟩:=List.mem_iff_getElem.1 hz;rw[List.length_take] at hi;rw[List.getElem_take] at he;have:=List.pairwise_iff_getElem.1 hp i (j+1) (by omega) (by omega) (by omega);rw[<-he];omega
   ·exact ⟨s,x,[],rfl,by omega,by rw[S.ba,if_neg (by omega),List.append_nil],hp,hb,hx,hne⟩
  obtain ⟨f1,f2,f3,f4⟩:=e4;have el:s.length+1=p.length+1+q.length:=by have:=congrArg List.length e1;simp at this;omega
  have em:s++[x]=S.ay p y q p.length:=by rw[S.ay,List.take_length,List.drop_length,List.append_assoc];exact e1
  rw[em] at o;rw[el] at h2;rw[<-e2] at h8;simp only[sz,simprocAttr,h8];refine BC (b:=b) f1 f2 f3 f4 (by omega) (by simp[St,LIn,sx,h0,h1,h2,h3,h8]) o hs ?_
  ·rintro t g2 ⟨h0,h1,h2,h3,h8,-⟩ o2 hs2;have w:IntKind.wrap .i64 ((p.length:Int)+1)=((p.length+1:Nat):Int):=by rw[ay (by omega) (by omega)];omega
   simp only[sz,simprocAttr,a7,h8,w];refine ⟨?_,by rw[e3];exact o2,hs2⟩;rw[<-el] at h2;simp[St,sx,h0,h1,h2,h3,e2]
 ·rintro t df g' ⟨rfl,-,o,hs⟩;rw[S.ba,if_neg (by omega)] at o;simp only[sz,simprocAttr];exact kk _ _ o hs
end
end Hx
end
