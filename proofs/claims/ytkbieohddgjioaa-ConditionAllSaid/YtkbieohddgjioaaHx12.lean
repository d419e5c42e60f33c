/- A part of the proof: an interpreter over abstract values, shown right against the model, and what the functions of the chapter compute on it. -/
import Derived.Test.YtkbieohddgjioaaHx11
set_option linter.unusedVariables false
set_option linter.unusedSimpArgs false
set_option linter.unnecessarySimpa false
section
namespace Hx
open Go
noncomputable section
def xO:SC:=.feet [0,1,0,0,8,0,56,120,248,0,512,0,2048,0,14336,30720,63488,0,131072,0,0,1048576,0,7340032,15728640,32505856,66060288,133693440,268434944,536870400,1073741816,2147483647,4294967295,8589934591] [oF 153 1 4,oL 154 153,oM 155 12,oF 156 1 4,oL 157 156,oM 158 12,o 159 (.ixs 3 (.t 157) (.t 158)),oF 160 2 159,oL 161 160,oF 162 0 4,oL 163 162,oF 164 1 4,oL 165 164,oM 166 12,o 167 (.ixs 3 (.t 165) (.t 166)),oF 168 0 167,oL 169 168,oF 170 2 11,oL 171 170,oM 172 15,oF 173 1 4,oL 174 173,oM 175 12,o 176 (.ixs 3 (.t 174) (.t 175)),oF 177 0 176,oL 178 177,oA 179 178,o 180 (.bin .mul (.t 172) (.t 179)),o 181 (.call N.aw [.t 163,.t 169,.t 171,.t 180]),o 182 (.bsl 1 1 [.nils] [0] [.t 181]),o 183 (.app 1 24 (.t 161) (.t 182)),o 184 (.ixs 3 (.t 154) (.t 155)),oF 185 2 184,oz (.store 1 (.t 185) (.t 183))]
structure DQ (r0 prow:List AV) (n q i p v j:Nat) (gr:Int) (r5:AV) (num:Nat->Nat) (P0:List Int) (c0:Nat->Int) (g:G) (V:Ky->AV) (E:Ky->En) (D:ND):Prop where
 dn:DN X2 r0 n q 1000 gr V E D g
 pb:V (0,2)=.hptr p 0 0 0/\E (0,2)=.bx prow
 db:DB D n i v num
 mv:D.m v=j
 pv:D.P v=P0
 cv:D.c=c0
 ok:DOk gr D n i num
theorem DQ.p {r0 prow:List AV}{n q i p v j:Nat}{gr:Int}{r5:AV}{num:Nat->Nat}{P0:List Int}{c0:Nat->Int}{g:G}{V:Ky->AV}{E:Ky->En}{D:ND}(h:DQ r0 prow n q i p v j gr r5 num P0 c0 g V E D):g.h.get p=.cells prow.length [prow] 0 false false/\2<=p/\p<g.nx:=by obtain ⟨id,h1,h2,h3,h4⟩:=h.dn.hp.box (k:=(0,2)) (.inr (.inr rfl)) h.pb.2;rw[h.pb.1] at h3;injection h3 with h3;subst h3;exact ⟨h4,h1,h2⟩
theorem LM {d n q i p v j kk:Nat}{gr:Int}{r0:List AV}{y1 y2:UInt8}{W:List UInt8}{wv r5:AV}{num:Nat->Nat}{P0:List Int}{c0:Nat->Int}{Q:QT}{t:T}{g:G}{V:Ky->AV}{E:Ky->En}{D:ND}(hd:0<d)(hn:1<=n/\n<=5)(hv:v<n)(hvi:∀k,i<k->k<n->num k≠v)(hvl:∀k,k<i->num k≠v)(hj:j<64)(hgr:0<=gr/\gr<=60)(hwv:SlR NoP kk .nil W wv)
  (h4:tat t 4=.hptr q 0 0 0) (h11:tat t 11=.hptr p 0 0 0) (h12:tat t 12=.int .i64 (v:Int)) (h15:tat t 15=.int .i64 (j:Int)) (hP:DQ r0 [u8v y1,u8v y2,wv] n q i p v j gr r5 num P0 c0 g V E D)
  (fin:∀t' g' V' E' D',(∀s,(s<153\/185<s)->tat t' s=tat t s)->DQ r0 [u8v y1,u8v y2,wv] n q i p v (j+1) gr r5 num P0 c0 g' V' E' D'->Q .norm t' [] g') :
  wp C0 d none xO Q t [] g:=by
 have hD:=hP.dn;obtain ⟨kq,q2a,q2b⟩:=hD.q (.inl rfl);obtain ⟨kp,-,hpx⟩:=hP.p;have kp:g.h.get p=.cells 3 [[u8v y1,u8v y2,wv]] 0 false false:=kp;unfold xO;have rns:=hD.ns.rows;have hry:=tf hD.ns (by simp;omega);have u3:v<((List.range n).map (fH D V)).length:=by simpa using hv
 have u4:=fU (fH D V) hv;have u4':((List.range n).map (fH D V))[v]?=some [.int .i64 (D.c v),V (v+1,0),V (v+1,1)]:=u4;have hrs:=hD.bn.rs v hv;have hnx:=hD.hp.nx;obtain ⟨C,hC,hCb⟩:∃C:Nat,D.c v=(C:Int)/\(C=2\/C=3):=by
  rcases hP.db.c v hv with h | h
  ·exact ⟨2,h,.inl rfl⟩
  ·exact ⟨3,h,.inr rfl⟩
 have hjC:j*(C+1)<=64*4:=Nat.mul_le_mul (by omega) (by omega);have w1:IntKind.wrap .i64 ((C:Int)+1)=((C+1:Nat):Int):=by rw[an (by omega) (by omega)];rfl
 have w2:IntKind.wrap .i64 ((j:Int)*((C+1:Nat):Int))=((j*(C+1):Nat):Int):=by rw[<-Int.natCast_mul,an (by omega) (by omega)]
 rw[hC] at u4';simp only[sz,simprocAttr,sf,h4,h11,h12,h15,kq,kp,rns,u3,u4',hry,w1,w2,wR];refine bi (NY (C:=C) (F:=j*(C+1)) (gr:=gr) (l:=W) hd (by omega) (by omega) hgr hwv) ?_;rintro r ⟨l,⟨hl,hlg'⟩,_,e1,hr⟩;injection e1 with e1;subst e1;have hrc:=hr.cell;simp only[sz,simprocAttr,sf,hrc.1,hrc.2];refine (hD.hp.step (g':=_) ?_ ?_).app2 (k:=(v+1,1)) (.inl (LN.r hv)) hrs.1 (new:=[[r]]) (by simp[sx,sy]) (by unfold aW;simp;rw[hP.mv];omega) λv1 g1 hH1 n1 fb1 fo1 lg1 vc vt=>?_
 ·simp;omega
 ·intro i _ hi;simp[H.get_put];omega
 simp only[sx,sy] at n1 fb1 fo1 lg1;have hnk:¬LNX X2 n D (v+1,2+j):=by
  rintro (h | h)
  ·rcases h with h | ⟨i',q',h,-,hq⟩
   ·simp at h
   ·rw[hP.db.o] at hq;simp only[Prod.mk.injEq] at h;omega
  ·rcases h with h | h<;>simp at h
 have hH1:=hH1.off (x:=r) hnk;have e00:ups (ups V (v+1,1) v1) (v+1,2+j) r (0,0)=V (0,0):=by rw[am _ _ (by simp),am _ _ (by simp)]
 have hE00:ups E (v+1,1) (.sl 1 ((List.range (D.m v)).map (DZ V v)++[[r]])) (0,0)=.sl 3 ((List.range n).map (fH D V)):=by rw[am _ _ (by simp)];exact hD.bn.ns
 have rns1:ah g1.h 3 (V (0,0))=some ((List.range n).map (fH D V)):=by rw[<-e00];exact (hH1.own (k:=(0,0)) (.inl LN.z) hE00).rows
 simp only[sz,simprocAttr,sf,rns1,u3,hry];refine (hH1.same (g':=_) ?_ ?_).putv (k:=(0,0)) (.inl LN.z) e00 (row':=[.int .i64 (C:Int),V (v+1,0),v1]) hE00 u4 (by rw[vc];rfl) vt (by rw[vc,fH,hC];rfl) λg2 hH2 n2 fb2 fo2=>?_
 ·simp
 ·simp;omega
 simp only[sy];refine ⟨?_,?_⟩
 ·simp only[List.reverse_cons,List.reverse_nil,List.nil_append,List.cons_append];refine aF [false,false,false,false,false,false,false,false,false,false,false,false,false,false,false,false,false,false,false,false,false,false,false,false,false,false,false,false,false,true,true,false,false,true] [(0,29),(1,29),(2,29),(3,29),(4,29),(5,29),(6,29),(7,29),(8,29),(0,30),(1,30),(2,30)] (by simp[All2,ac,ay]) (by decide) ?_;have hlg:∀i∈g1.lg,i≠q:=λi hi e=>by
   rcases lg1 i hi with h | h | h
   ·simp at h
   ·exact Ai hD.hp (.inl (LN.r hv)) (.inr (.inl rfl)) (by simp) h (by rw[hD.vb,e];rfl)
   ·omega
  obtain ⟨id0,ep0,hid0,hv0⟩:∃id ep,id<g.nx/\V (0,0)=.hsl id ep 0 ((List.range n).map (fH D V)).length none:=by
   rcases hD.ns with ⟨h,e⟩ | ⟨id,ep,lo,-,h1,h2,-⟩
   ·have:=congrArg List.length e;simp at this;omega
   ·exact ⟨id,ep,h1,h2⟩
  have hlg2:∀i∈g1.lg,i≠id0:=λi hi e=>by
   rcases lg1 i hi with h | h | h
   ·simp at h
   ·exact Ai hD.hp (.inl (LN.r hv)) (.inl LN.z) (by simp) h (by rw[hv0,e];rfl)
   ·omega
  rintro p hp' x y hx hy;simp only[List.mem_cons,List.not_mem_nil,or_false] at hp';rcases hp' with rfl | rfl | rfl | rfl | rfl | rfl | rfl | rfl | rfl | rfl | rfl | rfl<;>(simp at hx hy;subst hx;subst hy;refine bV rfl rfl rfl rfl ?_ ?_ ?_<;>simp[ac,ay,af,hv0,ik]<;>first | omega | exact hlg | exact hlg2 | exact λi hi e=>hlg i hi e.symm | exact λi hi e=>hlg2 i hi e.symm)
 have hmv:=hP.mv;refine fin _ _ (ups (ups V (v+1,1) v1) (v+1,2+j) r) _ { D with m:=ups D.m v (j+1),R:=ups D.R v (ups (D.R v) j l) } (λs hs=>?_) ⟨⟨(hH2.same (g':=_) (by simp) (by simp)).sub λk hk=>hk,⟨?_,λu hu=>?_,λu hu=>?_,λu r' hu hr'=>?_⟩,?_,?_,?_,?_⟩,⟨?_,?_⟩,⟨hP.db.c,hP.db.p,λu hu=>?_,hP.db.o,λk hk hkn=>?_⟩,aG _ _ _,hP.pv,hP.cv,?_⟩
 ·simp only[jo]
  repeat rw[if_neg (by omega)]
 ·rw[aG,mK _ _ hv];congr 1;refine xA ?_ λj hj hne=>by simp[fH,am,hne]
  show _=[AV.int .i64 (D.c v),ups (ups V (v+1,1) v1) (v+1,2+j) r (v+1,0),ups (ups V (v+1,1) v1) (v+1,2+j) r (v+1,1)];rw[hC,am _ _ (by first | (simp;done) | (simp;omega)),am _ _ (by first | (simp;done) | (simp;omega)),am _ _ (by first | (simp;done) | (simp;omega)),aG]
 ·rw[am _ _ (by simp),am _ _ (by simp)];exact hD.bn.ps u hu
 ·by_cases e:u=v
  ·subst e;rw[am _ _ (by simp),aG];show En.sl 1 _=En.sl 1 ((List.range (ups D.m u (j+1) u)).map _)/\ups D.m u (j+1) u<=1000;rw[aG];refine ⟨?_,by omega⟩;rw[hmv,List.range_succ,List.map_append];congr 2
   ·exact List.map_congr_left λr' hr'=>by have:=List.mem_range.1 hr';simp[DZ,am,show ¬r'=j by omega,show ¬2+r'=1 by omega]
   ·simp[DZ,aG]
  ·rw[am _ _ (by simp),am _ _ (by simp[e])];show E (u+1,1)=En.sl 1 ((List.range (ups D.m v (j+1) u)).map _)/\ups D.m v (j+1) u<=1000;rw[am _ _ e];have:=hD.bn.rs u hu;refine ⟨?_,this.2⟩;rw[this.1];congr 1;exact List.map_congr_left λr' _=>by simp[DZ,am,e]
 ·by_cases e:u=v
  ·subst e;have hr':r'<ups D.m u (j+1) u:=hr';rw[aG] at hr';show (ups D.R u (ups (D.R u) j l) u r').length<=1000/\((r'<D.o u/\_=En.sl 1 ((ups D.R u (ups (D.R u) j l) u r').map ci))\/SlR NoP 0 .nil (ups D.R u (ups (D.R u) j l) u r') _);rw[aG]
   by_cases e2:r'=j
   ·subst e2;rw[aG,aG];exact ⟨by omega,.inr hr⟩
   ·rw[am _ _ e2,am _ _ (by first | (simp;done) | (simp;omega)),am _ _ (by first | (simp;done) | (simp;omega)),am _ _ (by simp[e2]),am _ _ (by first | (simp;done) | (simp;omega))];exact hD.bn.rr u r' hu (by omega)
  ·have hr':r'<ups D.m v (j+1) u:=hr';rw[am _ _ e] at hr';show (ups D.R v (ups (D.R v) j l) u r').length<=1000/\((r'<D.o u/\_=En.sl 1 ((ups D.R v (ups (D.R v) j l) u r').map ci))\/SlR NoP 0 .nil (ups D.R v (ups (D.R v) j l) u r') _);rw[am _ _ e,am _ _ (by first | (simp;done) | (simp;omega)),am _ _ (by first | (simp;done) | (simp;omega)),am _ _ (by simp[e]),am _ _ (by simp[e])];exact hD.bn.rr u r' hu hr'
 ·rw[am _ _ (by simp),am _ _ (by simp)];exact hD.vb
 ·rw[am _ _ (by simp),am _ _ (by simp),am _ _ (by simp),am _ _ (by simp)];exact hD.bx
 ·simp only[bumpG_h];rw[fb2 0 (by omega)];simp;rw[fb1 0 (by omega),if_neg (by omega),hD.h0]
 ·simp only[bumpG_h];rw[fb2 1 (by omega)];simp;rw[fb1 1 (by omega),if_neg (by omega),hD.h1]
 ·rw[am _ _ (by simp),am _ _ (by simp)];exact hP.pb.1
 ·rw[am _ _ (by simp),am _ _ (by simp)];exact hP.pb.2
 ·show ups D.m v (j+1) u<=64
  by_cases e:u=v
  ·rw[e,aG];omega
  ·rw[am _ _ e];exact hP.db.m u hu
 ·show D.P (num k)=[]/\ups D.m v (j+1) (num k)=0;rw[am _ _ (hvi k hk hkn)];exact hP.db.f k hk hkn
 ·have hok:=hP.ok;refine ⟨hok.s,hok.a,λk hk=>?_,λu r' hu hr'=>?_⟩
  ·show ((ups D.m v (j+1) (num k):Nat):Int)=_;rw[am _ _ (hvl k hk)];exact hok.w k hk
  ·show KS gr (D.c u) (ups D.R v (ups (D.R v) j l) u r');have hr':r'<ups D.m v (j+1) u:=hr'
   by_cases e:u=v
   ·rw[e,aG] at hr' ⊢
    by_cases e2:r'=j
    ·rw[e2,aG,hC];exact hlg'
    ·rw[am _ _ e2];exact hok.r v r' hv (by omega)
   ·rw[am _ _ e] at hr' ⊢;exact hok.r u r' hu hr'
theorem Fz {gr:Int}{n v:Nat}{D:ND}(hv:v<n)(hp:∀y∈D.P v,0<=y/\y<n):S.ah (S.ac ⟨gr,(List.range n).map D.node⟩) (D.P v)=(D.P v).map λy=>D.c y.toNat:=by
 unfold S.ah S.ac;refine List.map_congr_left λy hy=>?_;have:=hp y hy;rw[List.map_map];have h:y.toNat<n:=by omega
 simp[h,ND.node]
theorem xz {n v:Nat}{D:ND}(hv:v<n)(hc:∀u,u<n->D.c u=2\/D.c u=3)(hp:(D.P v).length<=3/\∀y∈D.P v,0<=y/\y<n):(∀c∈(D.P v).map λy=>D.c y.toNat,1<=c/\c<=4)/\1<=S.bB (D.P v) D.c/\S.bB (D.P v) D.c<=64:=by
 have h1:∀c∈(D.P v).map λy=>D.c y.toNat,1<=c/\c<=4:=λc h=>by obtain ⟨y,hy,rfl⟩:=List.mem_map.1 h;have:=hp.2 y hy;have:=hc y.toNat (by omega);omega
 have h2:=dK h1;have h3:=nI (a:=((D.P v).map λy=>D.c y.toNat).length) (b:=3) (by simpa using hp.1);have h4:(4:Int) ^ 3=64:=by decide
 refine ⟨h1,h2.1,?_⟩;unfold S.bB;omega
structure DRw (r0 prow:List AV) (n q i p v j:Nat) (gr:Int) (r5:AV) (num:Nat->Nat) (P0:List Int) (c0:Nat->Int) (t:T) (g:G):Prop where
 st:St t (LDB n q i p v r5)
 hd:∃V E D,DQ r0 prow n q i p v j gr r5 num P0 c0 g V E D
theorem NK {d n q i p v kk:Nat}{gr:Int}{r0:List AV}{y1 y2:UInt8}{W:List UInt8}{wv r5:AV}{num:Nat->Nat}{P0:List Int}{c0:Nat->Int}{Q:QT}{t:T}{g:G}(hd:0<d)(hn:1<=n/\n<=5)(hv:v<n)(hvi:∀k,i<k->k<n->num k≠v)(hvl:∀k,k<i->num k≠v)(hgr:0<=gr/\gr<=60)(hwv:SlR NoP kk .nil W wv)
  (h0:DRw r0 [u8v y1,u8v y2,wv] n q i p v 0 gr r5 num P0 c0 t g) (h15:tat t 15=.int .i64 0)
  (fin:∀(t:T) (g:G) (j:Nat),(j:Int)=S.bB P0 c0->DRw r0 [u8v y1,u8v y2,wv] n q i p v j gr r5 num P0 c0 t g->Q (.exit 8) t [] g):wpL (wp C0 d none eO) Q t [] g:=by
 have hM:1<=S.bB P0 c0/\S.bB P0 c0<=64:=by obtain ⟨-,V,E,D,hQ⟩:=h0;have:=(xz hv hQ.db.c (hQ.db.p v hv)).2;rw[hQ.pv,hQ.cv] at this;exact this
 obtain ⟨M,hMe⟩:=Int.eq_ofNat_of_zero_le (show 0<=S.bB P0 c0 by omega);obtain ⟨FR,hFR⟩:∃FR,FR=xO:=⟨_,rfl⟩;simp only[eO];rw[show (SC.feet [0,1,0,0,8,0,56,120,248,0,512,0,2048,0,14336,30720,63488,0,131072,0,0,1048576,0,7340032,15728640,32505856,66060288,133693440,268434944,536870400,1073741816,2147483647,4294967295,8589934591] [oF 153 1 4,oL 154 153,oM 155 12,oF 156 1 4,oL 157 156,oM 158 12,o 159 (.ixs 3 (.t 157) (.t 158)),oF 160 2 159,oL 161 160,oF 162 0 4,oL 163 162,oF 164 1 4,oL 165 164,oM 166 12,o 167 (.ixs 3 (.t 165) (.t 166)),oF 168 0 167,oL 169 168,oF 170 2 11,oL 171 170,oM 172 15,oF 173 1 4,oL 174 173,oM 175 12,o 176 (.ixs 3 (.t 174) (.t 175)),oF 177 0 176,oL 178 177,oA 179 178,o 180 (.bin .mul (.t 172) (.t 179)),o 181 (.call N.aw [.t 163,.t 169,.t 171,.t 180]),o 182 (.bsl 1 1 [.nils] [0] [.t 181]),o 183 (.app 1 24 (.t 161) (.t 182)),o 184 (.ixs 3 (.t 154) (.t 155)),oF 185 2 184,oz (.store 1 (.t 185) (.t 183))])=FR from hFR.symm];refine eA M (by omega) (λj t df g=>df=[]/\DRw r0 [u8v y1,u8v y2,wv] n q i p v j gr r5 num P0 c0 t g) ⟨rfl,h0⟩ h15 (by decide) ?_ ?_ ?_ ?_
 ·rintro j t df g w s (rfl | rfl | rfl) ⟨a1,⟨b1,b2,b3,b4,b5,b6,b7,b8,-⟩,c⟩<;>exact ⟨a1,by simp[St,LDB,sx,b1,b2,b3,b4,b5,b6,b7,b8],c⟩
 ·rintro j t df g hj ⟨rfl,⟨h1,h2,h3,h4,h5,h10,h11,h12,-⟩,V,E,D,hQ⟩ h15;obtain ⟨kq,q2a,q2b⟩:=hQ.dn.q (.inl rfl);have hnodes:=hQ.dn.bn.nodes hQ.dn.hp (λk h=>.inl h) (by omega) (by omega);have hnet:Agg (⟨gr,(List.range n).map D.node⟩:Net) (λj=>2<=j) 0 g.h (.agg [.int .i64 gr,V (0,0)]):=⟨_,rfl,qm.2 ⟨_,rfl,hnodes⟩⟩;have hpv:=hQ.db.p v hv;obtain ⟨r,er,hr⟩:=Ha (d:=d) (g:=g) (i:=v) (x:=D.node v) hd hnet (by simp;omega) (by simp[hv]) (by show (D.P v).length<_;omega) (λy hy=>by have:=hpv.2 y hy;simp;omega);have hpar:=Fz (gr:=gr) hv hpv.2;have hb:=xz hv hQ.db.c hpv;have hsz:=Kb (d:=d) (g:=g) hd (hr.sl g.h);have hse:S.bE (S.ah (S.ac ⟨gr,(List.range n).map D.node⟩) (D.node v).parents)=(M:Int):=by show S.bE (S.ah (S.ac ⟨gr,(List.range n).map D.node⟩) (D.P v))=(M:Int);rw[hpar,Hr hb.1 (by simp;omega),<-hMe,S.bB,<-hQ.pv,<-hQ.cv]
  rw[hse] at hsz;simp only[sz,simprocAttr,h15,h4,kq,h12,er,hsz];exact ⟨by simp[St,LDB,sx,h1,h2,h3,h4,h5,h10,h11,h12],V,E,D,hQ⟩
 ·rintro j t df g hj ⟨rfl,⟨h1,h2,h3,h4,h5,h10,h11,h12,-⟩,V,E,D,hQ⟩ h15;rw[hFR];refine LM (n:=n) (q:=q) (i:=i) (p:=p) (v:=v) (j:=j) (r5:=r5) (num:=num) hd hn hv hvi hvl (by omega) hgr hwv h4 h11 h12 h15 hQ ?_;intro t' g' V' E' D' hst hQ';have hs:∀s,s<153->tat t' s=tat t s:=λs h=>hst s (.inl h);rw[Aj];exact ⟨⟨rfl,by simp[St,LDB,hs,h1,h2,h3,h4,h5,h10,h11,h12],V',E',D',hQ'⟩,by rw[hs 15 (by omega),h15]⟩
 ·rintro t df g ⟨rfl,h⟩;exact fin t g M hMe.symm h
structure DBl (D:ND) (n i:Nat) (num:Nat->Nat):Prop where
 c:∀u,u<n->D.c u=2\/D.c u=3
 p:∀u,u<n->(D.P u).length<=3/\∀y∈D.P u,0<=y/\y<n
 m:∀u,u<n->D.m u<=64
 o:∀u,D.o u=0
 f:∀k,i<=k->k<n->D.P (num k)=[]/\D.m (num k)=0
structure DL (r0:List AV) (n q:Nat) (gr:Int) (r5:AV) (num:Nat->Nat) (i:Nat) (t:T) (g:G):Prop where
 st:St t (LDA n q r5)
 hd:∃V E D,DN X1 r0 n q 1000 gr V E D g/\DBl D n i num/\DOk gr D n i num
theorem LA {n:Nat}{D:ND}:∀k,LNX X1 n D k->LNX X2 n D k:=λk h=>by
 rcases h with h | h
 ·exact .inl h
 ·exact .inr (.inl h)
theorem LK {d n q kk:Nat}{x:tJ}{gr:Int}{a b r5:AV}{pl:List Int}{num:Nat->Nat}{Q:QT}{t:T}{g:G}(hd:0<d)(hgr:0<=gr/\gr<=60)(hn:1<=n/\n<=5)(ha:SlR NoP kk .nil x.2.1 a)(h5:IT 0 pl r5)(hN:Num n pl num)
  (h0:DL [u8v x.1,a,b] n q gr r5 num 0 t g) (h10:tat t 10=.int .i64 0)
  (fin:∀t g,DL [u8v x.1,a,b] n q gr r5 num n t g->Q (.exit 2) t [] g):wpL (wp C0 d none dX) Q t [] g:=by
 obtain ⟨pr,r1,r2,r3,r4⟩:=ha.all;have r1:∀h',ah h' 3 a=some pr:=r1;have la:=ha.len;have hal:=ha.1;have r5i:∀h,ah h 1 r5=some (pl.map ci):=λh=>(h5.sl h).ints;simp only[dX,ip];refine eA n (by omega) (λj t df g=>df=[]/\DL [u8v x.1,a,b] n q gr r5 num j t g) ⟨rfl,h0⟩ h10 (by decide) ?_ ?_ ?_ ?_
 ·rintro j t df g v s (rfl | rfl | rfl) ⟨a1,⟨b1,b2,b3,b4,b5,-⟩,c3⟩<;>exact ⟨a1,by simp[St,LDA,sx,b1,b2,b3,b4,b5],c3⟩
 ·rintro j t df g hj ⟨rfl,⟨h1,h2,h3,h4,h5,-⟩,hD⟩ h10;simp only[sz,simprocAttr,h10,h3];exact ⟨by simp[St,LDA,sx,h1,h2,h3,h4,h5],hD⟩
 ·rintro j t df g hj ⟨rfl,⟨h1,h2,h3,h4,h5',-⟩,V,E,D,hD,hb,hok⟩ h10;obtain ⟨p,hp⟩:∃p,p=g.nx:=⟨_,rfl⟩;have hnx:=hD.hp.nx;refine bM (P:=λt' df g'=>df=[]/\g'=g.new (.cells 3 [[.int .u8 0,.int .u8 0,.nils]] 0 false false)/\St t' ((10,.int .i64 (j:Int))::(11,.hptr p 0 0 0)::LDA n q r5)) ?_ ?_
  ·simp only[sz,simprocAttr];simp[St,LDA,sx,h1,h2,h3,h4,h5',h10,hp]
  clear h1 h2 h3 h4 h5' h10;rintro t df g1 ⟨rfl,hg1,⟨h10,h11,h1,h2,h3,h4,h5',-⟩⟩;have f1:Fr g g1:=by rw[hg1];exact Fr.new _ _
  have k8:g1.h.get p=.cells 3 [[.int .u8 0,.int .u8 0,.nils]] 0 false false:=by rw[hg1,hp];simp[H.get_put]
  have n1:p<g1.nx:=by rw[hg1,hp];simp
  clear hg1;have hD1:=hD.same f1;have e0:=hD1.h0;refine bM (P:=λt' df g'=>df=[]/\Fr g g'/\St t' ((10,.int .i64 (j:Int))::(11,.hptr p 0 0 0)::LDA n q r5)/\p<g'.nx/\∃(y1 y2:UInt8) (W:List UInt8) (wv:AV),SlR NoP kk .nil W wv/\g'.h.get p=.cells 3 [[u8v y1,u8v y2,wv]] 0 false false) ?_ ?_
  ·simp only[sz,simprocAttr,h10,h1,e0,la];refine eZ (λhb=>?_) (λhb=>?_)
   ·have hb:j<x.2.1.length:=by simpa using hb
    obtain ⟨y,hy,-,-⟩:=ak hb;obtain ⟨row,q1,q2⟩:=r3 j y hy;obtain ⟨wv,rfl,hwv⟩:=zu.1 q2;have hlt:j<pr.length:=by omega
    have hry:=r4 (by omega);simp only[sz,simprocAttr,h10,h1,e0,r1,hlt,q1,h11,k8];refine ⟨?_,by simp[St,LDA,sx,h1,h2,h3,h4,h5',h10,h11],by simpa using n1,y.1,y.2.1,y.2.2,wv,hwv,by simp[H.get_put]⟩;exact ⟨Nat.le_trans f1.1 (by simp),λi hi=>by simp[H.get_put,show ¬i=p by omega];exact f1.2 i hi⟩
   ·simp only[sx,sy];exact ⟨f1,by simp[St,LDA,sx,h1,h2,h3,h4,h5',h10,h11],n1,0,0,[],.nils,⟨by show 0<9223372036854775808;decide,rfl⟩,k8⟩
  clear h1 h2 h3 h4 h5' h10 h11 e0 hD1 k8 n1 f1;rintro t df g2 ⟨rfl,f2,⟨h10,h11,h1,h2,h3,h4,h5',-⟩,n2,y1,y2,W,wv,hwv,k8⟩;have hH:=hD.hp.add (g':=g2) (k:=(0,2)) (L':=LNX X2 n D) (v':=.hptr p 0 0 0) (e':=.bx [u8v y1,u8v y2,wv]) (by
   rintro (h | h)
   ·rcases h with h | ⟨i',q',h,-,-⟩<;>simp at h
   ·simp[X1] at h) ⟨p,by omega,n2,rfl,k8⟩ f2.1 (λi _ hi=>f2.2 i hi) (λi hi=>by injection hi with hi;omega) (λk hk=>by
   rcases hk with h | h | h
   ·exact .inl (.inl h)
   ·exact .inl (.inr h)
   ·exact .inr h)
  have hfj:=hb.f j (Nat.le_refl _) hj;have hvn:=hN.lt j hj;have hvi:∀k,j<k->k<n->num k≠num j:=λk h1 h2 e=>by have:=hN.inj k j h2 hj e;omega
  have hvl:∀k,k<j->num k≠num j:=λk h1 e=>by have:=hN.inj k j (by omega) hj e;omega
  have hDP:DP [u8v x.1,a,b] [u8v y1,u8v y2,wv] n q j p (num j) gr r5 num g2 (ups V (0,2) (.hptr p 0 0 0)) (ups E (0,2) (.bx [u8v y1,u8v y2,wv])) D:=by
   refine ⟨⟨hH,⟨?_,λu hu=>?_,λu hu=>?_,λu r hu hr=>?_⟩,?_,?_,by rw[f2.2 0 (by omega),hD.h0],by rw[f2.2 1 (by omega),hD.h1]⟩,⟨aG _ _ _,aG _ _ _⟩,⟨hb.c,hb.p,hb.m,hb.o,λk h1 h2=>hb.f k (by omega) h2⟩,hfj.2,hok⟩
   ·rw[am _ _ (by simp),hD.bn.ns];exact congrArg (En.sl 3) (List.map_congr_left λu _=>by simp[fH,am])
   ·rw[am _ _ (by simp)];exact hD.bn.ps u hu
   ·rw[am _ _ (by simp)];have:=hD.bn.rs u hu;refine ⟨?_,this.2⟩;rw[this.1];exact congrArg (En.sl 1) (List.map_congr_left λr _=>by simp[DZ,am])
   ·rw[am _ _ (by simp),am _ _ (by simp)];exact hD.bn.rr u r hu hr
   ·rw[am _ _ (by simp)];exact hD.vb
   ·rw[am _ _ (by simp),am _ _ (by simp)];exact hD.bx
  have u1:j<(pl.map ci).length:=by rw[List.length_map,hN.len];exact hj
  have u2:(pl.map ci)[j]?=some (ci (num j:Int)):=by rw[List.getElem?_map,hN.at_ j hj];rfl
  simp only[sz,simprocAttr,io,h5',h10,r5i,u1,u2,ci];refine NJ (n:=n) (q:=q) (i:=j) (p:=p) (v:=num j) (r5:=r5) (num:=num) hn h5 hN hj rfl ⟨by simp[St,LDB,sx,h1,h2,h3,h4,h5',h10,h11],_,_,_,hDP,λy hy=>by rw[hfj.1] at hy;simp at hy⟩ (by simp[sx]) ?_;clear h1 h2 h3 h4 h5' h10 h11 hDP hH;rintro t g3 ⟨⟨h1,h2,h3,h4,h5',h10,h11,h12,-⟩,V3,E3,D3,hP3,-⟩;simp only[sz,simprocAttr,jf];refine NK (n:=n) (q:=q) (i:=j) (p:=p) (v:=num j) (r5:=r5) (num:=num) (P0:=D3.P (num j)) (c0:=D3.c) hd hn hvn hvi hvl hgr hwv ⟨by simp[St,LDB,sx,h1,h2,h3,h4,h5',h10,h11,h12],V3,E3,D3,hP3.dn,hP3.pb,hP3.db,hP3.mv,rfl,rfl,hP3.ok⟩ (by simp[sx]) ?_;clear h1 h2 h3 h4 h5' h10 h11 h12 hP3;rintro t g4 M hMp ⟨⟨h1,h2,h3,h4,h5',h10,h11,h12,-⟩,V4,E4,D4,hQ4⟩;simp only[sx,sy,↓reduceIte];have hd4:=hQ4.dn;refine ⟨⟨by simp[St,LDA,h1,h2,h3,h4,h5'],V4,E4,D4,⟨hd4.hp.sub LA,hd4.bn,hd4.vb,hd4.bx,hd4.h0,hd4.h1⟩,⟨hQ4.db.c,hQ4.db.p,hQ4.db.m,hQ4.db.o,λk hk hkn=>hQ4.db.f k hk hkn⟩,⟨hQ4.ok.s,hQ4.ok.a,λk hk=>?_,hQ4.ok.r⟩⟩,h10⟩
  by_cases e:k=j
  ·rw[e,hQ4.mv,hQ4.pv,hQ4.cv,hMp]
  ·exact hQ4.ok.w k (by omega)
 ·rintro t df g ⟨rfl,h⟩;exact fin t g h
structure Drafted (m:Net):Prop where
 l:1<=m.nodes.length/\m.nodes.length<=5
 c:∀x∈m.nodes,x.card=2\/x.card=3
 b:∀x∈m.nodes,x.parents.length<=1000/\x.rows.length<=1000/\∀r∈x.rows,r.length<=1000
 nr:NR m
theorem Hb {l:List Int}{n:Int}(hs:l.Pairwise (·<·))(hb:∀y∈l,0<=y/\y<n):S.bJ l n=true:=by
 simp only[S.bJ,S.bY,List.all_eq_true,List.mem_range,Bool.and_eq_true,Bool.or_eq_true,decide_eq_true_eq,beq_iff_eq];intro i hi;obtain ⟨x,hx⟩:∃x,l[i]?=some x:=⟨_,List.getElem?_eq_getElem hi⟩;have:=hb x (List.mem_of_getElem? hx);rw[hx,Option.getD_some];refine ⟨this,?_⟩
 by_cases e:i=0
 ·exact .inl e
 ·right;obtain ⟨y,hy⟩:∃y,l[i - 1]?=some y:=⟨_,List.getElem?_eq_getElem (by omega)⟩;rw[hy,Option.getD_some];have h1:=(List.getElem?_eq_some_iff.1 hx).2;have h2:=(List.getElem?_eq_some_iff.1 hy).2;rw[<-h1,<-h2];exact List.pairwise_iff_getElem.1 hs (i - 1) i (by omega) hi (by omega)
def JH (num:Nat->Nat):Nat->Nat
 | 0=>0
 | k+1=>JH num k ||| S.aO (num k)
theorem Ay {n:Nat}{pl:List Int}{num:Nat->Nat}(hN:Num n pl num)(hn:n<=64)(v:Nat):∀k,k<=n->((JH num k).testBit v=true↔∃k',k'<k/\num k'=v)
 | 0,_=>by simp[JH]
 | k+1,hk=>by
  have hlt:=hN.lt k (by omega);rw[JH,da,tQ (by omega),Bool.or_eq_true,decide_eq_true_eq,Ay hN hn v k (by omega)];constructor
  ·rintro (⟨k',h1,h2⟩ | h)
   ·exact ⟨k',by omega,h2⟩
   ·exact ⟨k,by omega,h⟩
  ·rintro ⟨k',h1,h2⟩
   by_cases e:k'=k
   ·subst e;exact .inr h2
   ·exact .inl ⟨k',by omega,h2⟩
theorem On {gr:Int}{D:ND}{n:Nat}{pl:List Int}{num:Nat->Nat}(hN:Num n pl num)(hn:1<=n/\n<=5)(hgr:1<=gr/\gr<=60)(hb:DBl D n n num)(hok:DOk gr D n n num):NR ⟨gr,(List.range n).map D.node⟩:=by
 have hcl:(S.ac ⟨gr,(List.range n).map D.node⟩)=(List.range n).map D.c:=by unfold S.ac;rw[List.map_map];rfl
 refine ⟨hgr.1,hgr.2,by simpa using hn.1,by simp;omega,λx hx=>?_,λx hx=>?_,?_,?_,λx hx=>?_,λx hx r hr=>?_⟩
 ·obtain ⟨u,hu,rfl⟩:=List.mem_map.1 hx;have:=hb.c u (List.mem_range.1 hu);show 1<=D.c u/\D.c u<=4;omega
 ·obtain ⟨u,hu,rfl⟩:=List.mem_map.1 hx;have hu:=List.mem_range.1 hu;refine Hb (hok.s u hu) λy hy=>?_;have:=(hb.p u hu).2 y hy;simpa using this
 ·rw[hcl];have h1:∀c∈(List.range n).map D.c,1<=c/\c<=4:=λc hc=>by obtain ⟨u,hu,rfl⟩:=List.mem_map.1 hc;have:=hb.c u (List.mem_range.1 hu);omega
  have h2:=dK h1;have h3:=nI (a:=((List.range n).map D.c).length) (b:=5) (by simpa using hn.2);have h4:(4:Int) ^ 5=1024:=by decide
  omega
 ·have hpl:(S.aD ⟨gr,(List.range n).map D.node⟩).length=n:=by simp[S.aD]
  have hpar:∀v,v<n->Par (S.aD ⟨gr,(List.range n).map D.node⟩) v=S.aE (D.P v):=λv hv=>by simp[Par,S.aD,hv,ND.node]
  have hgood:∀k,k<=n->Gi (S.aD ⟨gr,(List.range n).map D.node⟩) (JH num k):=λk=>by
   induction k with
   | zero=>exact λ_=>zb
   | succ k ih =>
    intro hk;have hlt:=hN.lt k (by omega);refine BR (ih (by omega)) (by omega) λu hu=>?_;rw[hpar _ hlt] at hu;have hu:=(Aq λx hx=>by have:=(hb.p _ hlt).2 x hx;omega).1 hu;obtain ⟨k',h1,h2⟩:=hok.a k (by omega) _ hu;exact (Ay hN (by omega) u k (by omega)).2 ⟨k',h1,by omega⟩
  refine se (hgood n (Nat.le_refl _)) λv hv=>?_;rw[hpl] at hv;exact (Ay hN (by omega) v n (Nat.le_refl _)).2 (hN.sur v hv)
 ·obtain ⟨u,hu,rfl⟩:=List.mem_map.1 hx;have hu:=List.mem_range.1 hu;obtain ⟨k,hk,rfl⟩:=hN.sur u hu;show (((List.range (D.m (num k))).map (D.R (num k))).length:Int)=S.ae (S.ah _ (D.P (num k)));rw[Fz hu (hb.p _ hu).2];have:=hok.w k hk;unfold S.bB at this;rw[<-this];simp
 ·obtain ⟨u,hu,rfl⟩:=List.mem_map.1 hx;have hu:=List.mem_range.1 hu;obtain ⟨r',hr',rfl⟩:=List.mem_map.1 hr;exact hok.r u r' hu (List.mem_range.1 hr')
def HE:VS:=λP k h v=>∃m:Net,Drafted m/\Agg m P k h v
def V0 (W:AV)(q:Nat):Ky->AV:=λk=>match k with
 | (0,0)=>W
 | (0,1)=>.hptr q 0 0 0
 | _=>.nils
def E0 (W:AV)(n:Nat)(gr:Int):Ky->En:=λk=>match k with
 | (0,0)=>.sl 3 (List.replicate n [.int .i64 0,.nils,.nils])
 | (0,1)=>.bx [.int .i64 gr,W]
 | _=>.sl 1 []
def D0:ND:=⟨λ_=>0,λ_=>[],λ_=>0,λ_ _=>[],λ_=>0⟩
theorem hp0 {W:AV}{n q:Nat}{gr:Int}{g:G}(hW:Own g 2 W 3 (List.replicate n [.int .i64 0,.nils,.nils]))(hq:g.h.get q=.cells 2 [[.int .i64 gr,W]] 0 false false)(h2:2<=q/\q<g.nx)(hne:vid W≠some q):Hp g 2 (LNX X1 n D0) (V0 W q) (E0 W n gr):=by
 have hk:∀k,LNX X1 n D0 k->k=(0,0)\/k=(0,1)\/∃i s,k=(i+1,s):=λk h=>by
  rcases h with h | h
  ·rcases h with h | ⟨i,s,h,-⟩
   ·exact .inl h
   ·exact .inr (.inr ⟨i,s,h⟩)
  ·exact .inr (.inl h)
 refine ⟨λk h=>?_,λk l h h' hkl id h1 h3=>?_,by omega⟩
 ·rcases hk k h with rfl | rfl | ⟨i,s,rfl⟩
  ·exact hW
  ·exact ⟨q,h2.1,h2.2,rfl,hq⟩
  ·exact .inl ⟨rfl,rfl⟩
 ·rcases hk k h with rfl | rfl | ⟨i,s,rfl⟩<;>rcases hk l h' with rfl | rfl | ⟨i',s',rfl⟩
  ·exact hkl rfl
  ·have h1:eid W=some id:=h1;have h3:some q=some id:=h3;rw[gM hW] at h1;injection h3 with h3;subst h3;exact hne h1
  ·cases h3
  ·have h3:eid W=some id:=h3;have h1:some q=some id:=h1;rw[gM hW] at h3;injection h1 with h1;subst h1;exact hne h3
  ·exact hkl rfl
  ·cases h3
  ·cases h1
  ·cases h1
  ·cases h1
theorem Lm {x:Int}{w:AV}(h:w.cells=[w])(h2:w.isTup=false):fQ [.int .i64 0,.nils] [((0,1),.int .i64 x),((1,1),w)]=some [.int .i64 x,w]:=by
 have k1:(AV.int .i64 x).cells=[.int .i64 x]:=rfl;have k2:(AV.int .i64 x).isTup=false:=rfl;simp[fQ,h,h2,me,k1,k2]
 rfl
theorem Ll {a b:AV}(ha:a.cells=[a]/\a.isTup=false)(hb:b.cells=[b]/\b.isTup=false):fQ [.nils,.int .u16 0,.nils] [((0,1),a),((2,1),b)]=some [a,.int .u16 0,b]:=by
 simp[fQ,ha,hb,me]
 rfl
theorem Lg {d k:Nat}{g:G}{P:Nat->Prop}{v:AV}{x:tJ}(hd:0<d)(hm:Agg x P k g.h v):∃r,ax C0 d N.bf [v] g=.val r/\HE NoP 0 .nil r:=by
 obtain ⟨v',e,cs,rfl,hc⟩:=rm (dN x) (by decide) d hm;obtain ⟨a,b,rfl,ha,hb⟩:=zq.1 hc;have ha:=ha.tree (h':=.nil) (Nat.le_refl _);have hb:=hb.tree (h':=.nil) (Nat.le_refl _);rw[pz];refine bu rG (xs:=[.agg [u8v x.1,a,b]]) (by simp only[aI,e]) (by simp[gY]) (tz λm=>dN _) (by decide) hd ?_;simp only[sz,simprocAttr,gY];obtain ⟨g0,hg0⟩:∃g0,g0=(G.empty.new (.cells 3 [[u8v x.1,a,b]] 0 false false)).new (.cells 2 [[.int .i64 0,.nils]] 0 false false):=⟨_,rfl⟩;rw[<-hg0];have f0:g0.h.get 0=.cells 3 [[u8v x.1,a,b]] 0 false false:=by rw[hg0];simp[sx,H.get_put]
 have f1:g0.h.get 1=.cells 2 [[.int .i64 0,.nils]] 0 false false:=by rw[hg0];simp[sx]
 have f2:g0.nx=2:=by rw[hg0];simp[sx]
 clear hg0;have la:=ha.len;have hal:=ha.1;unfold jH;obtain ⟨n,hn,hnb⟩:∃n:Nat,n=min (max x.2.1.length 1) 5/\1<=n/\n<=5:=⟨_,rfl,by omega⟩;refine bM (P:=λt' df g'=>df=[]/\g'=g0/\St t' [(1,.hptr 0 0 0 0),(2,.hptr 1 0 0 0),(3,.int .i64 (n:Int))]) ?_ ?_
 ·simp only[sz,simprocAttr,f0,la];simp[St,sx];omega
 rintro t df g1 ⟨rfl,rfl,h1,h2,h3,-⟩;obtain ⟨gr,hgr,hgb⟩:∃gr:Int,gr=1+(x.1.toNat:Int) % 60/\0<=gr/\gr<=60:=⟨_,rfl,by omega,by omega⟩;have q1:=e6 .u8 (a:=(x.1.toNat:Int)) (b:=60) (by omega) (by omega);have w1:IntKind.wrap .i64 ((x.1.toNat:Int) % 60)=(x.1.toNat:Int) % 60:=an (by omega) (by omega);have w2:IntKind.wrap .i64 (1+(x.1.toNat:Int) % 60)=gr:=by rw[hgr,an (by omega) (by omega)]
 refine bM (P:=λt' df g'=>df=[]/\∃q V E D,St t' [(1,.hptr 0 0 0 0),(2,.hptr 1 0 0 0),(3,.int .i64 (n:Int)),(4,.hptr q 0 0 0)]/\DN X1 [u8v x.1,a,b] n q 1000 gr V E D g'/\(∀u,D.P u=[]/\D.m u=0/\D.o u=0)) ?_ ?_
 ·simp only[sz,simprocAttr,sf,h1,h3,f0,u8v,q1,w1,w2];refine k_ (b:=2) (n:=n) (by unfold aW;omega) (by unfold aW;omega) (by first | (simp;done) | (simp;omega)) λW g2 hW n2 f2' vW lg2=>?_;simp only[sy] at n2 f2' vW lg2;simp only[sz,simprocAttr,sf,Lm hW.cell.1 hW.cell.2,lg2];have n2':g1.nx+7=g2.nx:=by omega
  have k0:g2.h.get 0=.cells 3 [[u8v x.1,a,b]] 0 false false:=by rw[f2' 0 (by omega),f0]
  have k1:g2.h.get 1=.cells 2 [[.int .i64 0,.nils]] 0 false false:=by rw[f2' 1 (by omega),f1]
  refine ⟨?_,g2.nx+1+1,V0 W (g2.nx+1+1),E0 W n gr,D0,by simp[St,sx,h1,h2,h3],⟨hp0 ?_ ?_ ⟨by omega,by simp⟩ ?_,⟨?_,λu _=>⟨rfl,by show 0<=1000;omega⟩,λu _=>⟨rfl,by show 0<=1000;omega⟩,λu r _ hr=>by cases hr⟩,rfl,rfl,?_,?_⟩,λu=>⟨rfl,rfl,rfl⟩⟩
  ·simp only[List.reverse_cons,List.reverse_nil,List.nil_append,List.cons_append,G.new_lg,G.put_lg,setLog_lg];refine aF [false,false,false,false,false,false,true,false,true,true] [(0,6),(1,6),(2,6),(3,6),(4,6),(0,8),(1,8),(2,8),(3,8),(4,8),(5,8),(6,8),(7,8)] (by simp[All2,ac,ay]) (by decide) ?_;rintro p hp' x y hx hy;simp only[List.mem_cons,List.not_mem_nil,or_false] at hp';rcases hp' with rfl | rfl | rfl | rfl | rfl | rfl | rfl | rfl | rfl | rfl | rfl | rfl | rfl<;>(simp at hx hy;subst hx;subst hy;refine bV rfl rfl rfl rfl ?_ ?_ ?_<;>simp[ac,ay,af]<;>omega)
  ·refine hW.fr (by simp;omega) λi hi=>?_;have:=fp vW hi;simp[H.get_put,show ¬i=g2.nx+1+1 by omega]
  ·simp[H.get_put]
  ·intro e;have:=fp vW e;omega
  ·show En.sl 3 (List.replicate n [.int .i64 0,.nils,.nils])=En.sl 3 ((List.range n).map λ_=>[.int .i64 0,.nils,.nils]);congr 1;rw[List.map_const',List.length_range]
  ·simp[H.get_put,k0];rfl
  ·simp[H.get_put,k1]
 clear h1 h2 h3;rintro t df g2 ⟨rfl,q,V,E,D,⟨h1,h2,h3,h4,-⟩,hD,hD0⟩;obtain ⟨num,hN⟩:=NN x.2.2 n;refine bM (P:=λt' df g'=>df=[]/\Fr g2 g'/\∃r5,IT 0 (S.aM x.2.2 n) r5/\St t' (LDA n q r5)) ?_ ?_
 ·simp only[sz,simprocAttr,sf,h3];refine k_ (b:=2) (n:=n) (by unfold aW;omega) (by unfold aW;omega) (by have:=hD.hp.nx;first | (simp;done) | (simp;omega)) λU g3 hU n3 f3 vU lg3=>?_;simp only[sy] at n3 f3 vU lg3;have e0:g3.h.get 0=.cells 3 [[u8v x.1,a,b]] 0 false false:=by rw[f3 0 (by have:=hD.hp.nx;omega),hD.h0]
  simp only[sz,simprocAttr,sf,h1,e0,Ll hU.cell hb.cell];have hU':Own g3 2 U 1 ((List.replicate n (0:UInt8)).map λy=>[u8v y]):=by simpa [u8v] using hU
  have hpm:∀g4:G,g4.h=g3.h->∃r,ax C0 (d+1) N.aE [.agg [U,.int .u16 0,b]] g4=.val r/\IT 0 (S.aM x.2.2 n) r:=λg4 h=>by
   have:=xJ (d:=d+1) (g:=g4) (k:=max k d) (P:=λ_=>True) (x:=(List.replicate n (0:UInt8),(0:UInt16),x.2.2)) (v:=.agg [U,.int .u16 0,b]) (Nat.succ_pos d) ⟨_,rfl,qG.2 ⟨U,b,rfl,?_,?_⟩⟩
   ·have e:min (List.replicate n (0:UInt8)).length 5=n:=by simp;omega
    rw[e] at this;exact this
   ·rw[h];exact Own.sl (α:=UInt8) hU' (by simp;omega) (All2.of_map (λy=>ic.2 rfl) _) λ_ _=>trivial
   ·exact (hb.tree (h':=g4.h) (Nat.le_refl _)).wd λ_ h=>h.elim
  refine bi (hpm _ (by simp)) λr hr=>?_;simp only[sz,simprocAttr,sf,jB];refine ⟨?_,⟨?_,λi hi=>?_⟩,r,hr,?_⟩
  ·simp only[List.reverse_cons,List.reverse_nil,List.nil_append,List.cons_append];refine aF [false,true,false,false,false,false,false] [(1,2),(1,3)] (by simp[All2,ac,ay]) (by decide) ?_;rintro p hp' x y hx hy;simp only[List.mem_cons,List.not_mem_nil,or_false] at hp';rcases hp' with rfl | rfl<;>(simp at hx hy;subst hx;subst hy;refine bV rfl rfl rfl rfl ?_ ?_ ?_<;>simp[ac,ay,af,lg3])
  ·simp;omega
  ·simp;exact f3 i (by omega)
  ·simp[St,LDA,sx,h1,h2,h3,h4]
 clear h1 h2 h3 h4;rintro t df g3 ⟨rfl,f3,r5,hr5,⟨h1,h2,h3,h4,h5,-⟩⟩;have hD3:=hD.same f3;simp only[sz,simprocAttr];refine NG (n:=n) (q:=q) (x:=x) (gr:=gr) (r5:=r5) (num:=num) hnb ha hr5 hN ⟨by simp[St,LDA,sx,h1,h2,h3,h4,h5],⟨1,by simp[sx],by decide⟩,V,E,D,hD3,λv _=>⟨(hD0 v).1,(hD0 v).2.1⟩,λk hk=>by omega,λu=>(hD0 u).2.2⟩ (by simp[sx]) ?_;clear h1 h2 h3 h4 h5 hD3;rintro t g4 ⟨⟨h1,h2,h3,h4,h5,-⟩,-,V4,E4,D4,hD4,hok⟩;simp only[sz,simprocAttr,ir];refine LK (n:=n) (q:=q) (x:=x) (gr:=gr) (r5:=r5) (num:=num) (Nat.succ_pos d) hgb hnb ha hr5 hN ⟨by simp[St,LDA,sx,h1,h2,h3,h4,h5],V4,E4,D4,hD4,⟨λu hu=>?_,λu hu=>?_,λu hu=>?_,?_,λk _ hk=>hok.e _ (hN.lt k hk)⟩,⟨λu hu=>by rw[(hok.e u hu).1];exact .nil,λk hk y hy=>by rw[(hok.e _ (hN.lt k hk)).1] at hy;simp at hy,λk hk=>by omega,λu r hu hr=>by rw[(hok.e u hu).2] at hr;omega⟩⟩ (by simp[sx]) ?_
 ·obtain ⟨k,hk,rfl⟩:=hN.sur u hu;exact hok.c k hk
 ·rw[(hok.e u hu).1];simp
 ·rw[(hok.e u hu).2];omega
 ·exact hok.o
 clear h1 h2 h3 h4 h5;rintro t g5 ⟨⟨h1,h2,h3,h4,h5,-⟩,V5,E5,D5,hD5,hb5,hk5⟩;obtain ⟨kq,q2a,q2b⟩:=hD5.q rfl;simp only[sz,simprocAttr,iq,h4,kq,h2,hD5.h1];have hnodes:=hD5.bn.nodes hD5.hp (λk h=>.inl h) (by omega) (by omega);refine ⟨λ_=>True,⟨gr,(List.range n).map D5.node⟩,⟨by simpa using hnb,λy hy=>?_,λy hy=>?_,On hN hnb (by omega) hb5 hk5⟩,⟨_,rfl,qm.2 ⟨_,rfl,hnodes.wd λi hi=>⟨trivial,by simp[H.get_put,show ¬i=1 by omega]⟩⟩⟩⟩
 ·obtain ⟨u,hu,rfl⟩:=List.mem_map.1 hy;exact hb5.c u (List.mem_range.1 hu)
 ·obtain ⟨u,hu,rfl⟩:=List.mem_map.1 hy;have hu:=List.mem_range.1 hu;refine ⟨(hD5.bn.ps u hu).2,?_,λr hr=>?_⟩
  ·show ((List.range (D5.m u)).map (D5.R u)).length<=1000;simpa using (hD5.bn.rs u hu).2
  ·obtain ⟨r',hr',rfl⟩:=List.mem_map.1 hr;exact (hD5.bn.rr u r' hu (List.mem_range.1 hr')).1
def evP (lo:Int)(n:Net)(l:List Int):Prop:=∀(i:Nat) (x:Int) (c:Node),l[i]?=some x->n.nodes[i]?=some c->lo<=x/\x<c.card
theorem Li {lo:Int}{n:Net}{l:List Int}(h0:-1<=lo)(hl:l.length=n.nodes.length)(h:evP lo n l):S.aP n l=true:=by simp only[S.aP,Bool.and_eq_true,decide_eq_true_eq,List.all_eq_true,List.mem_range];refine ⟨hl,λi hi=>?_⟩;obtain ⟨x,hx⟩:∃x,l[i]?=some x:=⟨_,List.getElem?_eq_getElem hi⟩;obtain ⟨c,hc⟩:∃c,n.nodes[i]?=some c:=⟨_,List.getElem?_eq_getElem (by omega)⟩;have:=h i x c hx hc;simp only[S.ac,hx,hc,List.getElem?_map,Option.map_some,Option.getD_some];omega
theorem N0 {j:Nat}(hj:j<8){z z':Int}(h1:bA .shr (.int .u8 255) (.int .u64 (j:Int))=.val (.int .u8 z))(h2:bA .and (.int .u8 z) (.int .u8 1)=.val (.int .u8 z')):z'=1:=by
 have hj:j=0\/j=1\/j=2\/j=3\/j=4\/j=5\/j=6\/j=7:=by omega
 have e:∀(k:Nat) (a:Int),bA .shr (.int .u8 255) (.int .u64 (k:Int))=.val (.int .u8 a)->bA .and (.int .u8 a) (.int .u8 1)=.val (.int .u8 1)->j=k->z'=1:=λk a e1 e2 e3=>by subst e3;rw[h1] at e1;injection e1 with e1;injection e1 with _ e1;subst e1;rw[h2] at e2;injection e2 with e2;injection e2
 rcases hj with h | h | h | h | h | h | h | h
 ·exact e 0 255 (by kernel_rfl) (by kernel_rfl) h
 ·exact e 1 127 (by kernel_rfl) (by kernel_rfl) h
 ·exact e 2 63 (by kernel_rfl) (by kernel_rfl) h
 ·exact e 3 31 (by kernel_rfl) (by kernel_rfl) h
 ·exact e 4 15 (by kernel_rfl) (by kernel_rfl) h
 ·exact e 5 7 (by kernel_rfl) (by kernel_rfl) h
 ·exact e 6 3 (by kernel_rfl) (by kernel_rfl) h
 ·exact e 7 1 (by kernel_rfl) (by kernel_rfl) h
theorem Jf {d:Nat}{lo:Int}{g:G}{b:AV}{m:Net}{vs:List UInt8}{K:AV->G->Prop}{D:ADf->Prop}(hv:vs.length=9)(hlo:lo = -1\/lo=0/\vs[0]?=some 255)(hN:SlR NoP 0 .nil m.nodes b)(hn:m.nodes.length<=8)(hc:∀x∈m.nodes,0<x.card)
  (kk:∀u g' L,L.length=m.nodes.length->evP lo m L->Own g' (g.nx+2) u 1 (L.map ci)->Fr g g'->K u g') :
  (ax C0 d N.bg [.agg (vs.map u8v),.agg [.int .i64 m.grain,b]] g).sat K g D:=by
 obtain ⟨rows,r1,r2,r3,r4⟩:=hN.all;have r1:∀h',ah h' 3 b=some rows:=r1;rw[qO];refine gK sK (by simp[iG]) ?_;obtain ⟨cu8,hcu⟩:∃c,c=vs.map u8v:=⟨_,rfl⟩;have hcl:cu8.length=9:=by rw[hcu,List.length_map,hv]
 simp only[sz,simprocAttr,iG,<-hcu];generalize hg0:((g.new (AObj.cells cu8.length [cu8] 0 false false)).new (AObj.cells 2 [[AV.int IntKind.i64 m.grain,b]] 0 false false))=g0;have f0:g0.h.get g.nx=.cells 9 [cu8] 0 false false:=by rw[<-hg0,hcl];simp[sx,H.get_put]
 have f1:g0.h.get (g.nx+1)=.cells 2 [[.int .i64 m.grain,b]] 0 false false:=by rw[<-hg0];simp[sx]
 have f2:g.nx+2<=g0.nx:=by rw[<-hg0];simp[sx]
 have F0:Fr g g0:=by rw[<-hg0];exact (Fr.new _ _).trans (Fr.new _ _)
 clear hg0;simp only[sz,simprocAttr,kI];refine eA m.nodes.length (by omega) (λj t df g'=>df=[]/\St t [(2,.hptr g.nx 0 0 0),(3,.hptr (g.nx+1) 0 0 0)]/\g'.h.get g.nx=.cells 9 [cu8] 0 false false/\g'.h.get (g.nx+1)=.cells 2 [[.int .i64 m.grain,b]] 0 false false/\g.nx+2<=g'.nx/\Fr g g'/\∃u L,tat t 5=u/\L.length=j/\evP lo m L/\Own g' (g.nx+2) u 1 (L.map ci))
  ⟨rfl,by simp[sx,St],f0,f1,f2,F0,_,[],rfl,rfl,λi x c hx=>by simp at hx,.inl ⟨by simp[sx],rfl⟩⟩ (by simp[sx]) (by decide) (by rintro j t df g v s (rfl | rfl | rfl)<;>simp[sx,St]) ?_ ?_ ?_
 ·rintro j t df g' hj ⟨rfl,⟨h2,h3,-⟩,e0,e1,hnx,hF,u,L,h5,hu⟩ h6;simp only[sz,simprocAttr,h2,h3,h6,e0,e1,hN.len,St];exact ⟨hnx,hF,u,L,h5,hu⟩
 ·rintro j t df g' hj ⟨rfl,⟨h2,h3,-⟩,e0,e1,hnx,hF,u,L,h5,hLl,hLp,hu⟩ h6;obtain ⟨x,hx,htk,hm⟩:=ak hj;obtain ⟨row,z1,z2⟩:=r3 j x hx;obtain ⟨fa,fb,rfl,-⟩:=dh.1 z2;have hlt:j<rows.length:=by omega
  have hry:=r4 (by omega);have hj8:j<8:=by omega
  obtain ⟨y0,hy0⟩:∃y,vs[0]?=some y:=⟨_,List.getElem?_eq_getElem (by omega)⟩;have hc0:cu8[0]?=some (.int .u8 (y0.toNat:Int)):=by rw[hcu,List.getElem?_map,hy0];rfl
  obtain ⟨y,hy⟩:∃y,vs[1+j]?=some y:=⟨_,List.getElem?_eq_getElem (by omega)⟩;have hcy:cu8[1+j]?=some (.int .u8 (y.toNat:Int)):=by rw[hcu,List.getElem?_map,hy];rfl
  have hy8:y.toNat<256:=y.toNat_lt;have hcx:=hc x hm;obtain ⟨z,hz⟩:=yM y0.toNat j;obtain ⟨z',hz'⟩:=yL z 1;have hz':bA .and (.int .u8 (z:Int)) (.int .u8 1)=.val (.int .u8 z'):=hz';have h255:lo=0->(z':Int)=1:=λh=>by
   rcases hlo with h1 | ⟨-,h1⟩
   ·omega
   ·rw[hy0] at h1;injection h1 with h1;subst h1;exact N0 hj8 hz hz'
  have w8:IntKind.wrap .i64 (y.toNat:Int)=(y.toNat:Int):=an (by omega) (by omega);have w9:IntKind.wrap .u64 (j:Int)=(j:Int):=A5 (by omega) (by omega);have key:∀(t:T) (X:Int),lo<=X->X<x.card->St t [(2,.hptr g.nx 0 0 0),(3,.hptr (g.nx+1) 0 0 0),(5,u),(6,.int .i64 (j:Int)),(7,.int .i64 X)] ->
    wp C0 d none fF (λe t df g'=>e=.norm/\(df=[]/\St t [(2,.hptr g.nx 0 0 0),(3,.hptr (g.nx+1) 0 0 0)]/\g'.h.get g.nx=.cells 9 [cu8] 0 false false/\g'.h.get (g.nx+1)=.cells 2 [[.int .i64 m.grain,b]] 0 false false/\g.nx+2<=g'.nx/\Fr g g'/\∃u L,tat t 5=u/\L.length=j+1/\evP lo m L/\Own g' (g.nx+2) u 1 (L.map ci))/\tat t 6=.int .i64 (j:Int)) t [] g':=by
   rintro t X hX1 hX2 ⟨h2,h3,h5,h6,h7,-⟩;simp only[sz,simprocAttr,fF,h5,h7];refine aZ (new:=[ci X]) (hu.step (Fr.new _ _)) (by simp[sx,sy,ci]) (by simp;omega) (by simp[aW,hLl];omega) λv2 g2 hv2 n2 f2 _ l2=>?_;simp only[sz,simprocAttr,h2,h3,h6,St];refine ⟨?_,?_,?_,?_,_,L++[X],rfl,by simp[hLl],?_,?_⟩
   ·rw[f2 g.nx (by simp;omega) (λe=>by have:=(hu.lt e).1;omega),G.new_h,ae _ _ _ (by omega),e0]
   ·rw[f2 (g.nx+1) (by simp;omega) (λe=>by have:=(hu.lt e).1;omega),G.new_h,ae _ _ _ (by omega),e1]
   ·simp at n2;omega
   ·refine ⟨by simp at n2;have:=hF.1;omega,λi hi=>?_⟩;rw[f2 i (by simp;omega) (λe=>by have:=(hu.lt e).1;omega),G.new_h,ae _ _ _ (by omega),hF.2 i hi]
   ·intro i a c ha hc'
    by_cases e:i=j
    ·subst e;rw[hx] at hc';injection hc' with hc';subst hc';rw[<-hLl,List.getElem?_concat_length] at ha;injection ha with ha;subst ha;exact ⟨hX1,hX2⟩
    ·have hil:i<L.length:=by have:=(List.getElem?_eq_some_iff.1 ha).1;simp at this;omega
     rw[List.getElem?_append_left hil] at ha;exact hLp i a c ha hc'
   ·simpa [ci] using hv2
  simp only[sz,simprocAttr,h2,h6,e0,hc0,w9,hz,hz'];refine eZ (λhb=>?_) (λhb=>?_)
  ·have hm0:0<=(y.toNat:Int) % x.card:=Int.emod_nonneg _ (by omega);have hm1:(y.toNat:Int) % x.card<x.card:=Int.emod_lt_of_pos _ (by omega);simp only[sz,simprocAttr,h2,h3,h6,e0,e1,Ff 8 1 _ _ _ _ _ hj8,Nat.mul_one,hcy,w8,r1,hlt,z1,hry,e6 .i64 (show 0<=(y.toNat:Int) by omega) hcx];refine bP _ (key _ ((y.toNat:Int) % x.card) (by omega) hm1 (by simp[St,sx,h2,h3,h5,h6])) ?_;rintro e t df g' ⟨rfl,h⟩;exact h
  ·have hb:=of_decide_eq_false hb;simp only[sx];refine bP _ (key _ (-1) (by omega) (by omega) (by simp[St,sx,h2,h3,h5,h6])) ?_;rintro e t df g' ⟨rfl,h⟩;exact h
 ·rintro t df g' ⟨rfl,⟨h2,h3,-⟩,e0,e1,hnx,hF,u,L,h5,hLl,hLp,hu⟩;simp only[sz,simprocAttr,jI,h5];exact kk _ _ L hLl hLp hu hF
def Oa (V:Ky->AV)(i:Nat)(c:Int):List AV:=[.int .i64 c,V (i+1,0),V (i+1,1)]
structure NdOk (K:Nat) (V:Ky->AV) (E:Ky->En) (i:Nat) (x:Node):Prop where
 ps:E (i+1,0)=.sl 1 (x.parents.map ci)
 rs:∃rws,E (i+1,1)=.sl 1 rws/\rws.length=x.rows.length/\∀(r:Nat) (y:List Int),x.rows[r]?=some y->rws[r]?=some [V (i+1,2+r)]
 rr:∀(r:Nat) (y:List Int),x.rows[r]?=some y->E (i+1,2+r)=.sl 1 (y.map ci)
 len:x.parents.length<=K/\x.rows.length<=K/\∀y∈x.rows,y.length<=K
def LS (L:List Node):Ky->Prop:=λk=>k=(0,0)\/∃i q x,k=(i+1,q)/\L[i]?=some x/\q<2+x.rows.length
structure BLs (K:Nat) (V:Ky->AV) (E:Ky->En) (L:List Node):Prop where
 ns:∃rows,E (0,0)=.sl 3 rows/\rows.length=L.length/\∀(i:Nat) (x:Node),L[i]?=some x->rows[i]?=some (Oa V i x.card)
 nd:∀(i:Nat) (x:Node),L[i]?=some x->NdOk K V E i x
def BBn (g:G)(brow:List AV)(gr:Int)(b:AV):Prop:=g.h.get 0=.cells 4 [brow] 0 false false/\g.h.get 1=.cells 2 [[.int .i64 gr,b]] 0 false false/\g.h.get 2=.cells 2 [[.int .i64 0,.nils]] 0 false false
def LX (L:List Node)(x:Node):Ky->Prop:=λk=>LS L k\/k=(0,1)\/∃q,k=(L.length+1,q)/\q<2+x.rows.length
structure NB (K p:Nat) (L:List Node) (x:Node) (g:G) (brow:List AV) (gr:Int) (b W:AV) (V:Ky->AV) (E:Ky->En):Prop where
 hp:Hp g 3 (LX L x) V E
 bb:BBn g brow gr b
 vb:V (0,1)=.hptr p 0 0 0
 bx:E (0,1)=.bx (Oa V L.length x.card)
 nd:NdOk K V E L.length x
 bl:BLs K V E L
 vw:V (0,0)=W
theorem Mc {α:Type} [Rp α]{g:G}{b:Nat}{u:AV}{rows:List (List AV)}(hu:Own g b u (Rp.sz α) rows)(hne:rows≠[]){n:Nat}(hn:n<=rows.length) :
  ∃y,vd (Rp.sz α) u none (some (.int .i64 (n:Int))) g=.val y/\(y.cells=[y]/\y.isTup=false)/\∀(P:Nat->Prop) (k:Nat) (l:List α) (h':H),(∀i,vid u=some i->h'.get i=g.h.get i)->SlR P k h' l u->SlR P k h' (l.take n) y:=by
 rcases hu with ⟨rfl,rfl⟩ | ⟨id,ep,lo,h1,h2,rfl,h3⟩
 ·exact absurd rfl hne
 ·simp only[vd,lB,h3,Nat.beq_refl,Bool.true_and,aB,Nat.zero_add,aa,Nat.ble_eq,Nat.le_refl,if_true,aT,Option.getD_none,Nat.sub_zero];simp only[c_];rw[show ap (n.ble rows.length) (some n) none=some n from by rw[aa,if_pos (by simpa using hn)]];dsimp only;have hb:rows.length.beq 0=false:=by cases rows with | nil=>exact absurd rfl hne | cons a l=>rfl
  rw[hb];refine ⟨_,rfl,⟨rfl,rfl⟩,λP k l h' hh h=>?_⟩;have h3':=hh id rfl;rw[h3] at h3';obtain ⟨hl,hp,rr,q1,q2⟩:=h;rw[dL,h3',uz] at q1;injection q1 with q1;subst q1;refine ⟨by rw[List.length_take];omega,hp,rows.take n,?_,q2.take n⟩;rw[dL,h3',cm,if_pos (by omega),List.drop_zero]
structure Oth (K:Nat) (L:List Node) (J:Nat) (V:Ky->AV) (E:Ky->En) (rows:List (List AV)):Prop where
 len:rows.length=L.length
 ns:∀(i:Nat) (y:Node),i≠J->L[i]?=some y->rows[i]?=some (Oa V i y.card)
 nd:∀(i:Nat) (y:Node),i≠J->L[i]?=some y->NdOk K V E i y
structure BS (K J:Nat) (L:List Node) (x:Node) (bx:Mt) (gr Rw:Int) (t:T) (g:G) (V:Ky->AV) (E:Ky->En):Prop where
 st:St t [(2,.hptr 0 0 0 0),(3,.hptr 1 0 0 0),(4,.hptr 2 0 0 0),(10,ik 3 (V (0,0)) J 0),(11,.int .i64 Rw)]
 hp:Hp g 3 (LS L) V E
 f0:g.h.get 0=.cells 4 [[u8v bx.1,u8v bx.2.1,u8v bx.2.2.1,.int .i64 bx.2.2.2]] 0 false false
 f1:g.h.get 1=.cells 2 [[.int .i64 gr,V (0,0)]] 0 false false
 f2:g.h.get 2=.cells 2 [[.int .i64 0,.nils]] 0 false false
 bl:BLs K V E L
 hx:L[J]?=some x
 hR:(Rw = -1/\x.rows.length=0)\/∃r:Nat,Rw=(r:Int)/\r<x.rows.length
 hK:K<=1000000
 hl:L.length<=K
structure BT (K J:Nat) (L:List Node) (x:Node) (g:G) (V:Ky->AV) (E:Ky->En) (rows:List (List AV)):Prop where
 own:Own g 3 (V (0,0)) 3 rows
 e0:E (0,0)=.sl 3 rows
 ry:yz (V (0,0))=true
 hlt:J<rows.length
 row:rows[J]?=some [.int .i64 x.card,V (J+1,0),V (J+1,1)]
 oth:Oth K L J V E rows
 nd:NdOk K V E J x
section
variable {d K J:Nat}{L:List Node}{x:Node}{bx:Mt}{gr Rw:Int}{t:T}{g:G}{V:Ky->AV}{E:Ky->En}{Q:QT}
end
end
end Hx
end
section
namespace Hx
open Go
noncomputable section
def cs3 (x:Sp):List AV:=[.int .i64 x.1,.int .i64 x.2.1,.int .i64 x.2.2]
def cb (x:Bool):List AV:=[.bool x]
theorem M4 {P:Nat->Prop}{k:Nat}{h:H}{x:Sp}{cs:List AV}:Rp.rp P k h x cs↔cs=cs3 x:=by
 obtain ⟨a,b,c⟩:=x;rw[tw];constructor
 ·rintro ⟨p,q,rfl,h1,h2⟩;obtain ⟨q1,q2,rfl,h3,h4⟩:=tw.1 h2;rw[bc.1 h1,bc.1 h3,bc.1 h4];rfl
 ·rintro rfl;exact ⟨[.int .i64 a],_,rfl,bc.2 rfl,tw.2 ⟨[.int .i64 b],[.int .i64 c],rfl,bc.2 rfl,bc.2 rfl⟩⟩
theorem SlR.sps {P:Nat->Prop}{k:Nat}{h:H}{l:List Sp}{v:AV}(r:SlR P k h l v):ah h 3 v=some (l.map cs3):=by obtain ⟨rows,h1,h2⟩:=r.rows;rw[show (3:Nat)=Rp.sz Sp from rfl,h1,h2.eq_map (f:=cs3) λa b r=>M4.1 r]
theorem SlR.bools {P:Nat->Prop}{k:Nat}{h:H}{l:List Bool}{v:AV}(r:SlR P k h l v):ah h 1 v=some (l.map cb):=by obtain ⟨rows,h1,h2⟩:=r.rows;rw[show (1:Nat)=Rp.sz Bool from rfl,h1,h2.eq_map (f:=cb) λa b r=>dM.1 r]
theorem Own.sps {g:G}{b:Nat}{v:AV}{l:List Sp}{k:Nat}(h:Own g b v 3 (l.map cs3))(hl:l.length<9223372036854775808):One l (λ_=>True) k g.h v :=
 ⟨v,rfl,Own.sl (α:=Sp) h hl (All2.of_map (λa=>M4.2 rfl) l) λ_ _=>trivial⟩
theorem Own.bools {g:G}{b:Nat}{v:AV}{l:List Bool}(h:Own g b v 1 (l.map cb))(hl:l.length<9223372036854775808):SlR (λi=>vid v=some i) 0 g.h l v :=
 Own.sl (α:=Bool) h hl (All2.of_map (λa=>dM.2 rfl) l) λ_ h=>h
theorem Io (b:Bool):yn false .bool (.bool false) (.bool b)=.val (.bool (!b)):=by cases b<;>rfl
theorem oH {g:G}{b:Nat}{v:AV}{sz n i off:Nat}{rows:List (List AV)}{row row':List AV}{x:AV}{K:AV->G->Prop}{D:ADf->Prop}(hv:Own g b v sz rows)(hr:rows[i]?=some row)
  (hl:x.cells.length=n) (ht:x.isTup=false) (hp:bg row off x.cells=some row')
  (k:∀g',Own g' b v sz (rows.set i row')->g'.nx=g.nx->(∀i,vid v≠some i->g'.h.get i=g.h.get i)->(∀j∈g'.lg,j∈g.lg\/vid v=some j)->K .undef g'):(iO n (ik sz v i off) x g).sat K g D:=by
 rcases hv with ⟨rfl,rfl⟩ | ⟨id,ep,lo,h1,h2,rfl,h3⟩
 ·simp at hr
 ·simp only[ik,Nat.zero_add];rw[oG h3 hr rfl ht hl hp];refine k _ (.inr ⟨id,ep,lo,h1,by simpa using h2,by simp,by simp[aJ]⟩) (by simp) (λi hne=>?_) (λj hj=>?_)
  ·rw[G.put_h,ae _ _ _ (λe=>hne (by rw[e];rfl))]
  ·simp at hj;rcases hj with rfl | hj
   ·exact .inr rfl
   ·exact .inl hj
def S.bU (l:List Bool):Int:=if false∈l then (l.idxOf false:Int) else -1
theorem Iv {l:List Bool}:(0:Int)<=S.bU l↔false∈l:=by
 unfold S.bU
 split
 ·rename_i h;simp[h]
 ·rename_i h;simp[h]
theorem Gp {d k:Nat}{g:G}{P:Nat->Prop}{v:AV}{l:List Bool}(hd:0<d)(hv:SlR P k g.h l v):ax C0 d N.bj [v,.bool false] g=.val (.int .i64 (S.bU l)):=by
 obtain ⟨v',e,r1⟩:=dV hv d;have vl:∀g,eB .slice v' g=.val (.int .i64 (l.length:Int)):=λg=>(r1 .nil).len g;have ri:=λh=>(r1 h).bools;rw[lG];refine l8 m8 (xs:=[v',.bool false]) (by simp only[aI,e];rfl) (by simp[dG]) hd ?_;simp only[sz,simprocAttr,dG,vl,fy];refine bk (m:=l.length) hv.1 (λj t df g=>df=[]/\St t [(0,v'),(1,.bool false)]/\false ∉ l.take j) ⟨rfl,by simp[St,sx],by simp⟩ (by simp[sx]) (by simp[sx]) (by decide)
  (by rintro j t df g v s (rfl | rfl | rfl)<;>simp[sx,St]) ?_ ?_
 ·rintro j t df g hj ⟨rfl,⟨h0,h1,-⟩,hno⟩ h8 h7;obtain ⟨y,hy,htk,hm⟩:=ak hj;have z1:j<(l.map cb).length:=by simpa using hj
  have z2:(l.map cb)[j]?=some (cb y):=by rw[List.getElem?_map,hy];rfl
  cases y with
  | false =>
   have hl:l=l.take j++false::l.drop (j+1):=by
    have:l.drop j=false::l.drop (j+1):=by rw[List.drop_eq_getElem_cons hj];congr 1;rw[List.getElem?_eq_getElem hj] at hy;injection hy
    rw[<-this,List.take_append_drop]
   have hf:S.bU l=(j:Int):=by
    unfold S.bU;rw[if_pos hm];have:l.idxOf false=j:=by
     conv=>lhs;rw[hl]
     rw[List.idxOf_append,if_neg hno,List.idxOf_cons_self,List.length_take];omega
    rw[this]
   simp only[sz,simprocAttr,h0,h1,h8,ri,z1,z2,cb,Io,hf]
  | true =>
   simp only[sz,simprocAttr,h0,h1,h8,ri,z1,z2,cb,Io];simp[St,sx,h0,h1,h7,h8,htk,hno]
 ·rintro t df g ⟨rfl,-,hno⟩;rw[List.take_length] at hno;simp only[sz,simprocAttr,fA,S.bU,hno]
theorem su {d k:Nat}{g:G}{P:Nat->Prop}{v:AV}{l:List Bool}(hd:0<d)(hv:SlR P k g.h l v):ax C0 d N.aP [v,.bool false] g=.val (.bool (decide (false∈l))):=by obtain ⟨v',e,r1⟩:=dV hv d;have ki:=λg=>Gp (d:=d+1) (g:=g) (Nat.succ_pos d) (r1 g.h);have hd2:decide ((0:Int)<=S.bU l)=decide (false∈l):=decide_eq_decide.2 Iv;rw[jt];refine xg ku (xs:=[v',.bool false]) (by simp only[aI,e];rfl) (by simp[cJ]) hd ?_;simp only[sz,simprocAttr,cJ,ki,<-hd2]
theorem G5 {d:Nat}{g:G}{v:AV}{n:Net}(hd:0<d)(hm:Agg n NoP 0 g.h v):ax C0 d N.aX [v] g=.val (.int .i64 (if S.a_ n then 0 else 50)):=by
 obtain ⟨b,rows,rfl,e1,hm',-⟩:=qj d hm;rw[we];refine l8 zW (xs:=[.agg [.int .i64 n.grain,b]]) (by simp only[aI,e1]) (by simp[pH]) hd ?_;simp only[sz,simprocAttr,pH];obtain ⟨g0,hg0⟩:∃g0,g0=G.empty.new (.cells 2 [[.int .i64 n.grain,b]] 0 false false):=⟨_,rfl⟩;rw[<-hg0];have f0:g0.h.get 0=.cells 2 [[.int .i64 n.grain,b]] 0 false false:=by rw[hg0];simp[sx]
 have n0:g0.nx=1:=by rw[hg0];simp[sx]
 clear hg0;have ld:bH (.cells 2 [[.int .i64 n.grain,b]] 0 false false) 0 0 true 2 0=.val (.agg [.int .i64 n.grain,b]):=rfl;simp only[sz,simprocAttr,qW,f0,ld];refine bi (FF (Nat.succ_pos d) (n:=n) (hm' _)) λz hz=>?_;rcases uE hz with ⟨hn,cs,rfl,hcs⟩ | ⟨hn,b',cv,sv,oz,o,rfl,hb,hcv,hsv,hoz⟩
 ·obtain ⟨a1,a2,a3,a4,a5,rfl⟩:∃a1 a2 a3 a4 a5,cs=[a1,a2,a3,a4,a5]:=by
   match cs,hcs with
   | [a1,a2,a3,a4,a5],_=>exact ⟨a1,a2,a3,a4,a5,rfl⟩
  simp only[sz,simprocAttr,n0,hn]
 ·have st:∀g:G,cM (.cells 5 [[.int .i64 0,.nils,.nils,.nils,.nils]] 0 false false) g 1 0 0 5 0 (.agg [.int .i64 n.grain,b',cv,sv,oz])=.upd .undef (g.put 1 (.cells 5 [[.int .i64 n.grain,b',cv,sv,oz]] 0 false false)):=λg=>by
   have h1:=hb.2;have h2:=hcv.2;have h3:=hsv.2;have h4:=hoz.2;unfold SlV at h1 h2 h3 h4
   split at h1<;>split at h2<;>split at h3<;>split at h4<;>first | rfl | exact h1.elim | exact h2.elim | exact h3.elim | exact h4.elim
  simp only[sz,simprocAttr,n0,st,hn]
theorem IZ {cs vs:List Int}{c v:Int}(h:cs.length=vs.length):S.ak (cs++[c]) (vs++[v])=S.ak cs vs*c+v:=by
 have h1:=rM (cs++[c]) (vs++[v]) 0 (by simp[h]);have h2:=rM cs vs 0 h;have h3:S.bV (cs++[c]) (vs++[v]) 0=S.bV cs vs 0*c+v:=by
  unfold S.bV;rw[List.zip_append h,List.foldl_append]
  rfl
 rw[Int.zero_mul,Int.zero_add] at h1 h2;rw[<-h1,h3,h2]
theorem pg {cs:List Int}(hc:∀c∈cs,1<=c/\c<=4)(hl:cs.length<=8)(j:Nat):S.ae (cs.take j)<=65536:=by
 obtain ⟨-,h2⟩:=dK (l:=cs.take j) λc h=>hc c (List.mem_of_mem_take h);have h3:(4:Int) ^ (cs.take j).length<=4 ^ 8:=by
  have:(4:Nat) ^ (cs.take j).length<=4 ^ 8:=Nat.pow_le_pow_right (by decide) (by rw[List.length_take];omega)
  exact_mod_cast this
 have h4:(4:Int) ^ 8=65536:=by decide
 omega
theorem KP {d k2 i:Nat}{g:G}{P2:Nat->Prop}{v w:AV}{n:Net}{x:Node}{vals:List Int}(hd:0<d)(hv:SlR NoP 0 .nil n.nodes v)(hr:NR n)(hx:n.nodes[i]?=some x)(hw:SlR P2 k2 g.h vals w)(hvl:vals.length=n.nodes.length)(hC:InC (S.ah (S.ac n) x.parents) (S.ah vals x.parents)) :
  ax C0 d N.aR [v,.int .i64 (i:Int),w] g=.val (.int .i64 (S.ak (S.ah (S.ac n) x.parents) (S.ah vals x.parents))):=by
 obtain ⟨w',e2,hw'⟩:=dV hw d;have e1:=ig (h:=g.h) d (hv.tree (h':=g.h) (Nat.le_refl 0));obtain ⟨rows,r1,r2,r3,r4⟩:=hv.all;have r1:∀h',ah h' 3 v=some rows:=r1;have hil:=(List.getElem?_eq_some_iff.1 hx).1;have hxm:=List.mem_of_getElem? hx;obtain ⟨row,q1,q2⟩:=r3 i x hx;obtain ⟨pa,ra,rfl,hpa,-⟩:=dh.1 q2;have hlt:i<rows.length:=by omega
 have hry:=r4 (by omega);have hl8:=hr.l2;have hpl:=lj (hr.places x hxm) (by omega);have hpin:=hr.pin hxm;have lpa:=hpa.len;have rpa:=λh=>(hpa.tree (h':=h) (Nat.le_refl 0)).ints;have rw':=λh=>(hw' h).ints;have hb:=jP hr.cs hpin;have hll:(S.ah (S.ac n) x.parents).length=x.parents.length:=by simp[S.ah]
 have hlv:(S.ah vals x.parents).length=x.parents.length:=by simp[S.ah]
 rw[wn];refine l8 z9 (xs:=[v,.int .i64 (i:Int),w']) (by simp only[aI,e1,e2,iQ 0]) (by simp[pX]) hd ?_;simp only[sz,simprocAttr,pX,r1,hlt,q1,hry,lpa,pY];refine bk (m:=x.parents.length) (by omega) (λj t df g=>df=[]/\St t [(0,v),(2,w'),(14,pa),(7,.int .i64 (S.ak ((S.ah (S.ac n) x.parents).take j) ((S.ah vals x.parents).take j)))]) ⟨rfl,by simp[St,sx,S.ak]⟩ (by simp[sx]) (by simp[sx]) (by decide)
  (by rintro j t df g v s (rfl | rfl | rfl)<;>simp[sx,St]) ?_ ?_
 ·rintro j t df g hj ⟨rfl,h0,h2,h14,h7,-⟩ h16 h15;obtain ⟨p,hp,-,hpm⟩:=ak hj;obtain ⟨p0,p1⟩:=hpin p hpm;rw[ba] at p1;obtain ⟨pn,rfl⟩:=Int.eq_ofNat_of_zero_le p0;have hpn:pn<n.nodes.length:=by omega
  obtain ⟨y,hy,-,hym⟩:=ak (l:=n.nodes) (j:=pn) hpn;obtain ⟨row2,s1,s2⟩:=r3 pn y hy;obtain ⟨pa2,ra2,rfl,-,-⟩:=dh.1 s2;have hlt2:pn<rows.length:=by omega
  obtain ⟨z,hz,-,-⟩:=ak (l:=vals) (j:=pn) (by omega);have a1:j<(x.parents.map ci).length:=by simpa using hj
  have a2:(x.parents.map ci)[j]?=some (ci (pn:Int)):=by rw[List.getElem?_map,hp];rfl
  have b1:pn<(vals.map ci).length:=by rw[List.length_map];omega
  have b2:(vals.map ci)[pn]?=some (ci z):=by rw[List.getElem?_map,hz];rfl
  have c1:(S.ah (S.ac n) x.parents).take (j+1)=(S.ah (S.ac n) x.parents).take j++[y.card]:=by
   rw[List.take_succ_eq_append_getElem (by omega)];congr 1;simp only[S.ah,List.getElem_map];have:x.parents[j]=(pn:Int):=by rw[List.getElem?_eq_getElem hj] at hp;injection hp
   rw[this];simp[S.ac,hy]
  have c2:(S.ah vals x.parents).take (j+1)=(S.ah vals x.parents).take j++[z]:=by
   rw[List.take_succ_eq_append_getElem (by omega)];congr 1;simp only[S.ah,List.getElem_map];have:x.parents[j]=(pn:Int):=by rw[List.getElem?_eq_getElem hj] at hp;injection hp
   rw[this];simp[hz]
  have hsn:S.ak ((S.ah (S.ac n) x.parents).take (j+1)) ((S.ah vals x.parents).take (j+1))=S.ak ((S.ah (S.ac n) x.parents).take j) ((S.ah vals x.parents).take j)*y.card+z:=by rw[c1,c2];exact IZ (by simp[hll,hlv])
  have i1:=jX (λc h=>hb c (List.mem_of_mem_take h)) (hC.take j);have i2:=jX (λc h=>hb c (List.mem_of_mem_take h)) (hC.take (j+1));have p1:=pg hb (by rw[hll];omega) j;have p2:=pg hb (by rw[hll];omega) (j+1);rw[hsn] at i2 ⊢;have hyc:=hr.card y hym;obtain ⟨A,hA⟩:∃A,A=S.ak ((S.ah (S.ac n) x.parents).take j) ((S.ah vals x.parents).take j):=⟨_,rfl⟩;rw[<-hA] at h7 i1 i2 ⊢;have hm0:0<=A*y.card:=Int.mul_nonneg i1.1 (by omega);have hm1:A*y.card<=65536*4:=Int.mul_le_mul (by omega) (by omega) (by omega) (by omega);have w1:IntKind.wrap .i64 (A*y.card)=A*y.card:=an (by omega) (by omega);have w2:IntKind.wrap .i64 (A*y.card+z)=A*y.card+z:=an (by omega) (by omega);simp only[sz,simprocAttr,h0,h2,h14,h7,h16,rpa,a1,a2,ci,r1,hlt2,s1,hry,rw',b1,b2,w1,w2];simp[St,sx,h0,h2,h14,h15,h16]
 ·rintro t df g ⟨rfl,h0,h2,h14,h7,-⟩;rw[List.take_of_length_le (by omega),List.take_of_length_le (by omega)] at h7;simp only[sz,simprocAttr,pZ,h7]
theorem J0 {d:Nat}{g:G}{x y:Nat}(hd:0<d)(hx:x<=4611686018427387903)(hy0:0<y)(hy:y<=4611686018427387903) :
  ax C0 d N.aF [.int .i64 (x:Int),.int .i64 (y:Int)] g=.val (.agg [.int .i64 (S.an x y).1,.int .i64 (S.an x y).2]):=by
 have key:∃r,ax C0 d N.aF [.int .i64 (x:Int),.int .i64 (y:Int)] g=.val r/\Agg (S.an x y) NoP 0 .nil r:=by
  obtain ⟨q0,q1,q2,q3⟩:=ud (x:=x) hy0;rw[tW];refine bu wM (xs:=[.int .i64 (x:Int),.int .i64 (y:Int)]) (by simp only[aI,iQ 0]) (by simp[mE]) (dN _) (by decide) hd ?_;have hm:max (x:Int) (-(x:Int))=(x:Int):=by omega
  simp only[sz,simprocAttr,mE,pe,Fw (show x<9223372036854775808 by omega),hm];refine fI (λb t df g=>df=[]/\∃a:Nat,St t [(0,.int .i64 (x:Int)),(1,.int .i64 (y:Int)),(4,.hptr 0 0 0 0),(5,.int .i64 (a:Int)),(6,.int .i64 (b:Int))]/\Nat.gcd a b=Nat.gcd x y/\a<9223372036854775808/\b<=y/\g.h.get 0=.cells 2 [[.int .i64 0,.int .i64 0]] 0 false false/\g.nx=1) y
   ⟨rfl,x,by simp[St,sx],rfl,by omega,Nat.le_refl _,by simp[H.get_put,show G.empty.nx=0 from rfl],by simp[show G.empty.nx=0 from rfl]⟩ ?_
  rintro b t df g ⟨rfl,a,⟨h0,h1,h4,h5,h6,-⟩,hgc,ha,hby,g0,gn⟩
  by_cases hb:b=0
  ·subst hb;rw[Nat.gcd_zero_right] at hgc;subst hgc;have fw:fQ [.int .i64 0,.int .i64 0] [((0,1),.int .i64 ((x / Nat.gcd x y:Nat):Int)),((1,1),.int .i64 ((y / Nat.gcd x y:Nat):Int))]=some [.int .i64 ((x / Nat.gcd x y:Nat):Int),.int .i64 ((y / Nat.gcd x y:Nat):Int)]:=rfl;simp only[iH,nA,sz,simprocAttr,sf,h0,h1,h4,h5,h6,oy (show x<9223372036854775808 by omega) q0,oy (show y<9223372036854775808 by omega) q0,fw,g0];refine ⟨?_,⟨λ_=>True,j7.2 rfl⟩⟩;simp only[List.reverse_cons,List.reverse_nil,List.nil_append,List.cons_append];exact aF [false,false,false,false,false,false,false,true] [] (by simp[All2,ac,ay]) (by decide) (by simp)
  ·have hb':¬(b:Int)=0:=by omega
   have hlt:=Nat.mod_lt a (Nat.pos_of_ne_zero hb);simp only[iH,sz,simprocAttr,h5,h6,hb',tu (x:=a) (Nat.pos_of_ne_zero hb)];refine ⟨a % b,hlt,b,?_,?_,by omega,by omega,g0,gn⟩
   ·simp[St,sx,h0,h1,h4,h5,h6]
   ·rw[<-hgc,Nat.gcd_comm a b,Nat.gcd_comm b (a % b),<-Nat.gcd_rec]
 obtain ⟨r,hr,hc⟩:=key;rw[hr,j7.1 hc]
theorem lK {g:G}{b:Nat}{v x:AV}{sz bytes:Nat}{rows new:List (List AV)}{K:AV->G->Prop}{D:ADf->Prop}(hv:Own g b v sz rows)(hx:ah g.h sz x=some new)(hb:b<=g.nx)
  (hr:(rows.length+new.length)*bytes<=aW)
  (k:∀v' g',Own g' b v' sz (rows++new)->g.nx<=g'.nx->(∀i,i<g.nx->vid v≠some i->g'.h.get i=g.h.get i)->(vid v'=vid v\/∃i,vid v'=some i/\g.nx<=i)->(∀i∈g'.lg,i∈g.lg\/vid v=some i\/g.nx<=i/\i<g'.nx)->K v' g') :
  (cP sz bytes v x g).sat K g D:=by
 unfold cP;rw[hx];dsimp only;rcases hv with ⟨rfl,rfl⟩ | ⟨id,ep,lo,h1,h2,rfl,h3⟩
 ·cases new with
  | nil=>exact k _ _ (.inl ⟨rfl,rfl⟩) (Nat.le_refl _) (λ_ _ _=>rfl) (.inl rfl) (λi hi=>.inl hi)
  | cons r new =>
   simp only[aU,aB,aa,Nat.ble_eq];rw[if_pos (by simpa using hr)];refine k _ _ (.inr ⟨g.nx,0,true,hb,by simp,rfl,by simp[aJ]⟩) (by simp) (λi hi _=>?_) (.inr ⟨g.nx,rfl,Nat.le_refl _⟩) (λi hi=>by simp at hi;rcases hi with rfl | hi;exact .inr (.inr ⟨Nat.le_refl _,by simp⟩);exact .inl hi);rw[G.new_h,ae _ _ _ (by omega)]
 ·simp only[aU,G.get_eq,h3,aB,aa,show Nat.beq ep ep=true from Nat.beq_refl ep,show Nat.beq sz sz=true from Nat.beq_refl sz,Bool.true_and,Nat.ble_eq,Bool.and_eq_true,Nat.zero_add,Option.getD_none,Nat.sub_zero];rw[if_pos ⟨Nat.le_refl _,hr⟩];cases new with
  | nil =>
   rw[if_pos (by simp)];refine k _ _ (.inr ⟨id,ep,lo,h1,h2,by simp,by simpa using h3⟩) (Nat.le_refl _) (λ_ _ _=>rfl) (.inl rfl) (λi hi=>.inl hi)
  | cons r new =>
   rw[if_neg (by simp)];have ht:gG rows.length (fJ 0 rows)=rows:=by rw[aY,aX];simp
   cases lo with
   | false =>
    rw[if_pos (by simp)];refine k _ _ (.inr ⟨g.nx,0,true,by omega,by simp,by simp,by simp[aJ,ht]⟩) (by simp) (λi hi _=>?_) (.inr ⟨g.nx,rfl,Nat.le_refl _⟩) (λi hi=>by simp at hi;rcases hi with rfl | hi;exact .inr (.inr ⟨Nat.le_refl _,by simp⟩);exact .inl hi);rw[G.new_h,ae _ _ _ (by omega)]
   | true =>
    rw[if_neg (by simp)];refine k _ _ (.inr ⟨id,ep+1,true,h1,by simpa using h2,by simp,by simp[aJ,ht]⟩) (by simp) (λi hi hne=>?_) (.inl rfl) (λi hi=>by simp at hi;rcases hi with rfl | hi;exact .inr (.inl rfl);exact .inl hi);rw[G.put_h,ae _ _ _ (λe=>hne (by rw[e];rfl))]
theorem Cm {g:G}{b sz:Nat}{v:AV}{rows:List (List AV)}(h:Own g b v sz rows):∀i∈af v,vid v=some i:=by
 rcases h with ⟨rfl,-⟩ | ⟨id,ep,lo,h1,h2,rfl,h3⟩
 ·intro i hi;simp[Cz] at hi
 ·intro i hi;rw[oB,List.mem_singleton] at hi;rw[hi];rfl
structure Fx (A:Nat->Prop) (g g':G):Prop where
 nx:g.nx<=g'.nx
 fr:∀j,j<g.nx->¬A j->g'.h.get j=g.h.get j
 lg:∀j∈g'.lg,j∈g.lg\/A j\/g.nx<=j
theorem Fx.refl (A:Nat->Prop)(g:G):Fx A g g:=⟨Nat.le_refl _,λ_ _ _=>rfl,λ_ h=>.inl h⟩
theorem Fx.trans {A:Nat->Prop}{g g1 g2:G}(h:Fx A g g1)(h':Fx A g1 g2):Fx A g g2 :=
 ⟨Nat.le_trans h.nx h'.nx,λj hj hn=>by rw[h'.fr j (Nat.lt_of_lt_of_le hj h.nx) hn,h.fr j hj hn],λj hj=>by
  rcases h'.lg j hj with a | a | a
  ·exact h.lg j a
  ·exact .inr (.inl a)
  ·exact .inr (.inr (Nat.le_trans h.nx a))⟩
theorem Fx.new (A:Nat->Prop)(g:G)(o:AObj):Fx A g (g.new o) :=
 ⟨by simp,λj hj _=>by rw[G.new_h,ae _ _ _ (by omega)],λj hj=>by simp at hj;rcases hj with rfl | hj;exact .inr (.inr (Nat.le_refl _));exact .inl hj⟩
theorem Fx.put {A:Nat->Prop}{g g1:G}{i:Nat}(h:Fx A g g1)(hi:A i\/g.nx<=i)(o:AObj):Fx A g (g1.put i o) :=
 ⟨by simpa using h.nx,λj hj hn=>by
  have:¬j=i:=λe=>by subst e;rcases hi with hi | hi;exact hn hi;omega
  rw[G.put_h,ae _ _ _ this,h.fr j hj hn],λj hj=>by
  simp at hj;rcases hj with rfl | hj
  ·exact .inr hi
  ·exact h.lg j hj⟩
theorem Fx.mono {A B:Nat->Prop}{g g':G}(h:Fx A g g')(hab:∀i,A i->i<g.nx->B i):Fx B g g':=⟨h.nx,λj hj hn=>h.fr j hj λa=>hn (hab j a hj),λj hj=>(h.lg j hj).imp id λa=>by
 by_cases hlt:j<g.nx
 ·rcases a with a | a
  ·exact .inl (hab j a hlt)
  ·omega
 ·exact .inr (by omega)⟩
theorem HA {d:Nat}{g:G}{gr:Int}{m:Nat}(hd:0<d)(hg:0<=gr/\gr<=60)(hm:m<=8):ax C0 d N.aS [.int .i64 gr,.int .i64 (m:Int)] g=.val (.int .i64 (S.ae (List.replicate m gr))):=by
 rw[tX];refine l8 wN (xs:=[.int .i64 gr,.int .i64 (m:Int)]) (by simp only[aI,iQ 0]) (by simp[mF]) hd ?_;simp only[sz,simprocAttr,mF,nB];refine bk (m:=m) (by omega) (λj t df g=>df=[]/\St t [(0,.int .i64 gr),(5,.int .i64 (S.ae (List.replicate j gr)))]) ⟨rfl,by simp[St,sx,S.ae]⟩ (by simp[sx]) (by simp[sx]) (by decide)
  (by rintro j t df g v s (rfl | rfl | rfl)<;>simp[sx,St]) ?_ ?_
 ·rintro j t df g hj ⟨rfl,h0,h5,-⟩ h7 h6;have e1:S.ae (List.replicate (j+1) gr)=S.ae (List.replicate j gr)*gr:=by rw[List.replicate_succ',qD]
  have b1:=jQ (l:=List.replicate (j+1) gr) λx hx=>by rw[List.eq_of_mem_replicate hx];exact hg
  have b2:=JY (k:=j+1) (by omega);rw[List.length_replicate,e1] at b1;have w1:IntKind.wrap .i64 (S.ae (List.replicate j gr)*gr)=S.ae (List.replicate j gr)*gr:=an (by omega) (by omega);simp only[sz,simprocAttr,h0,h5,w1];simp[St,sx,h0,h6,h7,e1]
 ·rintro t df g ⟨rfl,h0,h5,-⟩;simp only[sz,simprocAttr,nC,h5]
def S.aK (l:List Sp)(n j:Nat):List Bool:=(List.range n).map λv:Nat=>S.aR l j (v:Int)
def S.aF (l:List Sp)(j:Nat):List Bool:=(List.range l.length).map λe:Nat=>S.ay l j (e:Int)
theorem tC (l:List Sp)(j:Nat)(e:Int):S.ay l (j+1) e=(S.ay l j e || (decide ((S.sp l j).1 = -1)&&(decide ((S.sp l j).2.1=e) || decide ((S.sp l j).2.2=e)))):=by simp[S.ay,List.range_succ,List.any_append]
theorem qg (l:List Sp)(j:Nat)(v:Int):S.aR l (j+1) v=(S.aR l j v || decide ((S.sp l j).1=v)):=by simp[S.aR,List.range_succ,List.any_append]
theorem qz (l:List Sp)(n j:Nat):(S.aK l n j).length=n:=by simp[S.aK]
theorem jU (l:List Sp)(j:Nat):(S.aF l j).length=l.length:=by simp[S.aF]
theorem Am {l:List Sp}{n j v:Nat}(h:v<n):(S.aK l n j)[v]?=some (S.aR l j (v:Int)):=by simp[S.aK,h]
theorem vJ {l:List Sp}{j e:Nat}(h:e<l.length):(S.aF l j)[e]?=some (S.ay l j (e:Int)):=by simp[S.aF,h]
theorem KF {l:List Sp}{j:Nat}(h:¬(S.sp l j).1 = -1):S.aF l (j+1)=S.aF l j:=by refine List.map_congr_left λe _=>?_;rw[tC];simp[h]
theorem Jl {l:List Sp}{n j:Nat}(h:(S.sp l j).1 = -1):S.aK l n (j+1)=S.aK l n j:=by
 refine List.map_congr_left λe _=>?_;rw[qg,h];have:¬(-1:Int)=(e:Int):=by omega
 simp[this]
theorem Jm {l:List Sp}{n j v:Nat}(hv:v<n)(h:(S.sp l j).1=(v:Int)):S.aK l n (j+1)=(S.aK l n j).set v true:=by
 apply List.ext_getElem?;intro i;rw[List.getElem?_set]
 by_cases c:i<n
 ·rw[Am c,Am c,qg,h,qz]
  by_cases e:v=i
  ·subst e;simp[c]
  ·have:¬(v:Int)=(i:Int):=by omega
   simp[e,this]
 ·rw[List.getElem?_eq_none (by rw[qz];omega),List.getElem?_eq_none (by rw[qz];omega)];have:¬v=i:=by omega
  simp[this]
theorem KE {l:List Sp}{j b c:Nat}(hb:b<l.length)(hc:c<l.length)(h:(S.sp l j).1 = -1)(h1:(S.sp l j).2.1=(b:Int))(h2:(S.sp l j).2.2=(c:Int)):S.aF l (j+1)=((S.aF l j).set b true).set c true:=by
 apply List.ext_getElem?;intro i;rw[List.getElem?_set,List.getElem?_set,List.length_set,jU]
 by_cases e:i<l.length
 ·rw[vJ e,vJ e,tC,h,h1,h2]
  by_cases e1:c=i
  ·subst e1;simp[e]
  ·by_cases e2:b=i
   ·subst e2;simp[e,e1]
   ·have n1:¬(b:Int)=(i:Int):=by omega
    have n2:¬(c:Int)=(i:Int):=by omega
    simp[e1,e2,n1,n2]
 ·rw[List.getElem?_eq_none (by rw[jU];omega),List.getElem?_eq_none (by rw[jU];omega)];have n1:¬c=i:=by omega
  have n2:¬b=i:=by omega
  simp[n1,n2]
theorem GX {l:List Sp}{n j:Nat}:false ∉ S.aK l n j↔((List.range n).all λv:Nat=>S.aR l j (v:Int))=true:=by simp[S.aK]
theorem Hz {l:List Sp}{m:Nat}(hm:m<=l.length):false ∉ (S.aF l l.length).take m↔((List.range m).all λe:Nat=>S.ay l l.length (e:Int))=true:=by rw[S.aF,<-List.map_take,List.take_range,Nat.min_eq_left hm];simp
theorem D7 (l:List Bool)(i:Nat):(l.map cb).set i (cb true)=(l.set i true).map cb:=by rw[List.map_set]
def S.aX (n:Net)(l:List Sp):Int:=if S.a_ n then (if S.ck l n.nodes.length then 0 else 130) else 50
theorem KZ (n:Int)(h:-1000<=n/\n<=1000):IntKind.wrap .i64 (IntKind.wrap .i64 (2*n) - 1)=2*n - 1:=by rw[an (x:=2*n) (by omega) (by omega),an (by omega) (by omega)]
set_option maxRecDepth 20000 in
theorem Gu {d k:Nat}{g:G}{P:Nat->Prop}{v w:AV}{n:Net}{l:List Sp}(hd:0<d)(hm:Agg n NoP 0 g.h v)(hl:SlR P k g.h l w):ax C0 d N.aT [v,w] g=.val (.int .i64 (S.aX n l)):=by
 obtain ⟨b,rows,rfl,e1,hm',hN,-⟩:=qj d hm;obtain ⟨w',e2,hw'⟩:=dV hl d;have wl:∀g,eB .slice w' g=.val (.int .i64 (l.length:Int)):=λg=>(hw' .nil).len g;have ws:=λh=>(hw' h).sps;have hlen:=hl.1;rw[py];refine l8 rF (xs:=[.agg [.int .i64 n.grain,b],w']) (by simp only[aI,e1,e2]) (by simp[gN]) hd ?_;simp only[sz,simprocAttr,gN];obtain ⟨g0,hg0⟩:∃g0,g0=G.empty.new (.cells 2 [[.int .i64 n.grain,b]] 0 false false):=⟨_,rfl⟩;rw[<-hg0];have f0:g0.h.get 0=.cells 2 [[.int .i64 n.grain,b]] 0 false false:=by rw[hg0];simp[sx]
 have n0:g0.nx=1:=by rw[hg0];simp[sx]
 clear hg0;have ld:bH (.cells 2 [[.int .i64 n.grain,b]] 0 false false) 0 0 true 2 0=.val (.agg [.int .i64 n.grain,b]):=rfl;have nc:=G5 (d:=d+1) (g:=g0) (Nat.succ_pos d) (n:=n) (hm' _);have nl:=λg=>hN.len g;simp only[jG]
 by_cases c0:S.a_ n=true
 rotate_left
 ·have hs:S.aX n l=50:=by rw[S.aX,if_neg c0]
  rw[if_neg c0] at nc;simp only[sz,simprocAttr,f0,ld,nc,hs]
 rw[if_pos c0] at nc;have hr:=li.1 c0;have hl1:=hr.l1;have hl2:=hr.l2;have w2:=KZ (n.nodes.length:Int) (by omega);have hs:S.aX n l=if S.ck l n.nodes.length then 0 else 130:=by rw[S.aX,if_pos c0]
 by_cases c1:(l.length:Int)=2*(n.nodes.length:Int) - 1
 rotate_left
 ·have hs:S.aX n l=130:=by rw[hs,if_neg];simp[S.ck,c1]
  simp only[sz,simprocAttr,f0,ld,nc,nl,wl,w2,c1,hs]
 have c1':decide ((l.length:Int)=2*(n.nodes.length:Int) - 1)=true:=decide_eq_true c1;have bad:∀i,i<l.length->S.bg l n.nodes.length i=false->S.aX n l=130:=λi hi h=>by rw[hs,if_neg];intro hc;simp only[S.ck,Bool.and_eq_true,List.all_eq_true,List.mem_range] at hc;have:=hc.1.1.2 i hi;rw[h] at this;cases this
 refine bM (P:=λt' df g'=>df=[]/\g'=g0/\St t' [(1,w'),(2,.hptr 0 0 0 0)]) ?_ ?_
 ·simp only[sz,simprocAttr,f0,ld,nc];simp[St,sx]
 rintro t df g1 ⟨rfl,rfl,h1,h2,-⟩;refine bM (P:=λt' df g'=>df=[]/\g'=g1/\St t' [(1,w'),(6,.int .i64 (n.nodes.length:Int))]) ?_ ?_
 ·simp only[sz,simprocAttr,h1,h2,f0,nl];simp[St,sx,h1]
 rintro t df g2 ⟨rfl,rfl,h1,h6,-⟩;refine bM (P:=λt' df g'=>df=[]/\g'=g2/\St t' [(1,w'),(6,.int .i64 (n.nodes.length:Int))]) ?_ ?_
 ·simp only[sz,simprocAttr,h1,h6,wl,w2,c1];simp[St,sx,h1,h6]
 rintro t df g3 ⟨rfl,rfl,h1,h6,-⟩;refine bM (P:=λt' df g'=>df=[]/\∃lv us,St t' [(1,w'),(6,.int .i64 (n.nodes.length:Int)),(7,lv),(8,us)]/\Own g' 0 lv 1 ((List.replicate n.nodes.length false).map cb)/\Own g' 0 us 1 ((List.replicate l.length false).map cb)/\∃iL iU,vid lv=some iL/\vid us=some iU/\iL≠iU) ?_ ?_
 ·simp only[sz,simprocAttr,sf,h6];refine k_ (b:=0) (bytes:=1) (n:=n.nodes.length) (by unfold aW;omega) (by unfold aW;omega) (Nat.zero_le _) λcv g4 hcv n2 fr2 v2 lg2=>?_;simp only[sy] at n2 fr2 v2 lg2;simp only[sz,simprocAttr,sf,h1,h6,wl,lg2];refine k_ (b:=0) (bytes:=1) (n:=l.length) (by unfold aW;omega) (by unfold aW;omega) (Nat.zero_le _) λsv g5 hsv n3 fr3 v3 lg3=>?_;simp only[sy] at n3 fr3 v3 lg3;simp only[sz,simprocAttr,sf,lg3,hcv.cell.1,hcv.cell.2,hsv.cell.1,hsv.cell.2];refine ⟨?_,cv,sv,?_,?_,?_,_,_,v2,v3,by omega⟩
  ·simp only[List.reverse_cons,List.reverse_nil,List.nil_append,List.cons_append,G.new_lg,G.put_lg,setLog_lg];refine aF [false,true,false,false,true,false,false] [(1,2),(1,3),(0,4),(1,4),(4,5)] (by simp[All2,ac,ay]) (by decide) ?_;rintro p hp x y hx hy;simp only[List.mem_cons,List.not_mem_nil,or_false] at hp;rcases hp with rfl | rfl | rfl | rfl | rfl<;>(simp at hx hy;subst hx;subst hy;refine bV rfl rfl rfl rfl ?_ ?_ ?_<;>simp[ac,ay,af]<;>omega)
  ·simp[St,sx,h1,h6]
  ·have:Own g4 0 cv 1 ((List.replicate n.nodes.length false).map cb):=by simpa [cb] using hcv
   exact this.fr (by first | (simp;done) | (simp;omega)) λi hi=>by have:=fp v2 hi;have:=fr3 i (by omega);simpa using this
  ·have:Own g5 0 sv 1 ((List.replicate l.length false).map cb):=by simpa [cb] using hsv
   exact this.fr (by first | (simp;done) | (simp;omega)) λi hi=>by simp
 rintro t df g ⟨rfl,lv,us,⟨h1,h6,h7,h8,-⟩,oL,oU,iL,iU,vL,vU,hne⟩;have e3:List.replicate n.nodes.length false=S.aK l n.nodes.length 0:=(List.eq_replicate_iff.2 ⟨qz _ _ _,λb hb=>by simp[S.aK,S.aR] at hb;exact hb.2⟩).symm;have e4:List.replicate l.length false=S.aF l 0:=(List.eq_replicate_iff.2 ⟨jU _ _,λb hb=>by simp[S.aF,S.ay] at hb;exact hb.2⟩).symm;rw[e3] at oL;rw[e4] at oU;clear e3 e4 f0 n0 nc;simp only[sz,simprocAttr,h1,wl,jb];refine bk (m:=l.length) hlen (λj t df g=>df=[]/\St t [(1,w'),(30,w'),(6,.int .i64 (n.nodes.length:Int)),(7,lv),(8,us)]/\Own g 0 lv 1 ((S.aK l n.nodes.length j).map cb)/\Own g 0 us 1 ((S.aF l j).map cb)/\∀i,i<j->S.bg l n.nodes.length i=true)
  ⟨rfl,by simp[St,sx,h1,h6,h7,h8],oL,oU,λi hi=>by omega⟩ (by simp[sx]) (by simp[sx]) (by decide) (by rintro j t df g v s (rfl | rfl | rfl)<;>simp[sx,St]) ?_ ?_
 ·clear h1 h6 h7 h8 oL oU;rintro j t df g hj ⟨rfl,⟨h1,h30,h6,h7,h8,-⟩,oL,oU,hok⟩ h32 h31;obtain ⟨x,hx,-,-⟩:=ak hj;have hsp:S.sp l j=x:=by rw[S.sp,hx];rfl
  have u1:j<(l.map cs3).length:=by simpa using hj
  have u2:(l.map cs3)[j]?=some (cs3 x):=by rw[List.getElem?_map,hx];rfl
  obtain ⟨a,b,c⟩:=x;have u3:cs3 (a,b,c)=[.int .i64 a,.int .i64 b,.int .i64 c]:=rfl;rw[u3] at u2;have hel:=λh=>bad j hj h;unfold S.bg S.bz S.bP at hel;rw[hsp] at hel;dsimp only at hel
  by_cases ca:a = -1
  ·subst ca;rw[if_pos rfl] at hel
   by_cases c1:b<0
   ·have:=hel (by have:¬0<=b:=by omega
                  simp[this])
    simp only[sz,simprocAttr,h30,h32,ws,u1,u2,c1,this]
   by_cases c2:(j:Int)<=b
   ·have:=hel (by have:¬b<(j:Int):=by omega
                  simp[this])
    simp only[sz,simprocAttr,h30,h32,ws,u1,u2,c1,c2,this]
   by_cases c3:c<0
   ·have:=hel (by have:¬0<=c:=by omega
                  simp[this])
    simp only[sz,simprocAttr,h30,h32,ws,u1,u2,c1,c2,c3,this]
   by_cases c4:(j:Int)<=c
   ·have:=hel (by have:¬c<(j:Int):=by omega
                  simp[this])
    simp only[sz,simprocAttr,h30,h32,ws,u1,u2,c1,c2,c3,c4,this]
   by_cases c5:b=c
   ·have:=hel (by simp[c5]);simp only[sz,simprocAttr,h30,h32,ws,u1,u2,c1,c2,c3,c4,c5,this]
   obtain ⟨B,rfl⟩:=Int.eq_ofNat_of_zero_le (show 0<=b by omega);obtain ⟨C,rfl⟩:=Int.eq_ofNat_of_zero_le (show 0<=c by omega);have hB:B<l.length:=by omega
   have hC:C<l.length:=by omega
   have r1:=λ(g':G) (f:∀i,i<g.nx->g'.h.get i=g.h.get i) (hn:g.nx<=g'.nx)=>(oU.fr hn λi hi=>f i (oU.lt hi).2).rows;have z1:B<((S.aF l j).map cb).length:=by simpa [jU] using hB
   have z2:((S.aF l j).map cb)[B]?=some (cb (S.ay l j (B:Int))):=by rw[List.getElem?_map,vJ hB];rfl
   have z3:C<((S.aF l j).map cb).length:=by simpa [jU] using hC
   have z4:((S.aF l j).map cb)[C]?=some (cb (S.ay l j (C:Int))):=by rw[List.getElem?_map,vJ hC];rfl
   have hUl:=λi (hi:vid us=some i)=>(oU.lt hi).2;have hUf:∀g':G,g.nx<=g'.nx->(∀i,i<g.nx->g'.h.get i=g.h.get i)->ah g'.h 1 us=some ((S.aF l j).map cb):=λg' hn f=>(oU.fr hn λi hi=>f i (hUl i hi)).rows;simp only[sz,simprocAttr,h30,h32,ws,u1,u2,c1,c2,c3,c4,c5];obtain ⟨g',hg'⟩:∃g',g'=((g.new (AObj.cells 3 [[AV.int IntKind.i64 0,AV.int IntKind.i64 0,AV.int IntKind.i64 0]] 0 false false)).put g.nx (AObj.cells 3 [[AV.int IntKind.i64 (-1),AV.int IntKind.i64 (B:Int),AV.int IntKind.i64 (C:Int)]] 0 false false)):=⟨_,rfl⟩;rw[<-hg'];have kq:g'.h.get g.nx=.cells 3 [[.int .i64 (-1),.int .i64 (B:Int),.int .i64 (C:Int)]] 0 false false:=by rw[hg'];simp[H.get_put]
   have kn:g'.nx=g.nx+1:=by rw[hg'];simp
   have kf:∀i,i<g.nx->g'.h.get i=g.h.get i:=λi hi=>by rw[hg'];simp[H.get_put,show ¬i=g.nx by omega]
   have oU':Own g' 0 us 1 ((S.aF l j).map cb):=oU.fr (by omega) λi hi=>kf i (oU.lt hi).2;have oL':Own g' 0 lv 1 ((S.aK l n.nodes.length j).map cb):=oL.fr (by omega) λi hi=>kf i (oL.lt hi).2;have hq:¬vid us=some g.nx:=λh=>by have:=(oU.lt h).2;omega
   have hq2:¬vid lv=some g.nx:=λh=>by have:=(oL.lt h).2;omega
   clear hg' kf oU oL;cases cB:S.ay l j (B:Int) with
   | true =>
    have:=hel (by simp[cB]);rw[cB] at z2;simp only[sz,simprocAttr,h8,oU'.rows,z1,z2,cb,this]
   | false =>
    cases cC:S.ay l j (C:Int) with
    | true =>
     have:=hel (by simp[cC]);rw[cB] at z2;rw[cC] at z4;simp only[sz,simprocAttr,h8,oU'.rows,z1,z2,z3,z4,cb,kq,this]
    | false =>
     rw[cB] at z2;rw[cC] at z4;have hok':∀i,i<j+1->S.bg l n.nodes.length i=true:=λi hi=>by
      by_cases e:i=j
      ·subst e;rw[S.bg,S.bz,hsp];have d1:(B:Int)<(i:Int):=by omega
       have d2:(C:Int)<(i:Int):=by omega
       simp[cB,cC,d1,d2,c5]
      ·exact hok i (by omega)
     have hu2:S.aF l (j+1)=((S.aF l j).set B true).set C true:=KE hB hC (by rw[hsp]) (by rw[hsp]) (by rw[hsp]);have hl2:S.aK l n.nodes.length (j+1)=S.aK l n.nodes.length j:=Jl (by rw[hsp]);simp only[sz,simprocAttr,sf,h8,oU'.rows,z1,z2,z3,z4,cb,kq];refine oH (v:=us) (sz:=1) (n:=1) (i:=B) (off:=0) (x:=.bool true) (row:=cb false) (row':=cb true) (oU'.fr (by first | (simp;done) | (simp;omega)) λi _=>by simp) z2 rfl rfl rfl λg2 o2 n2 f2 p2=>?_;have k2:g2.h.get g.nx=.cells 3 [[.int .i64 (-1),.int .i64 (B:Int),.int .i64 (C:Int)]] 0 false false:=by rw[f2 _ hq];simpa using kq
     simp only[sy] at n2;have z5:C<(((S.aF l j).map cb).set B (cb true)).length:=by simpa using z3
     have z6:(((S.aF l j).map cb).set B (cb true))[C]?=some (cb false):=by rw[List.getElem?_set_ne (by omega)];exact z4
     simp only[sz,simprocAttr,sf,h8,k2,o2.rows,z5];refine oH (v:=us) (sz:=1) (n:=1) (i:=C) (off:=0) (x:=.bool true) (row:=cb false) (row':=cb true) (o2.fr (by first | (simp;done) | (simp;omega)) λi _=>by simp) z6 rfl rfl rfl λg3 o3 n3 f3 p3=>?_;simp only[sy] at n3;simp only[sz,simprocAttr,sf];refine ⟨?_,⟨?_,?_,?_,hok'⟩,?_⟩
     ·simp only[List.reverse_cons,List.reverse_nil,List.nil_append,List.cons_append,G.new_lg,G.put_lg,setLog_lg];refine aF [false,false,false,false,false,false,false,true,false,true] [(3,7),(4,7),(5,7)] (by simp[All2,ac,ay]) (by decide) ?_;rintro p hp x y hx hy;simp only[List.mem_cons,List.not_mem_nil,or_false] at hp;have hw:∀i∈g2.lg,¬i=g.nx:=λi hi e=>by
       rcases p2 i hi with h | h
       ·simp at h
       ·exact hq (by rw[h,e])
      rcases hp with rfl | rfl | rfl<;>(simp at hx hy;subst hx;subst hy;refine bV rfl rfl rfl rfl ?_ ?_ ?_<;>simp[ac,ay,af]<;>exact hw)
     ·simp[St,sx,h1,h30,h6,h7,h8]
     ·rw[hl2];refine oL'.fr (by first | (simp;done) | (simp;omega)) λi hi=>?_;have d1:¬vid us=some i:=λe=>hne (by rw[fp vL hi,fp vU e]);have e1:=f3 i d1;have e2:=f2 i d1;simp at e1 e2;simp[e1,e2]
     ·rw[hu2,<-D7,<-D7];exact o3.fr (by first | (simp;done) | (simp;omega)) λi _=>by simp
     ·simp[sx,h31,h32]
  ·rw[if_neg ca] at hel
   by_cases c1:a<0
   ·have:=hel (by have:¬0<=a:=by omega
                  simp[this])
    simp only[sz,simprocAttr,h30,h32,ws,u1,u2,ca,c1,this]
   by_cases c2:(n.nodes.length:Int)<=a
   ·have:=hel (by have:¬a<(n.nodes.length:Int):=by omega
                  simp[this])
    simp only[sz,simprocAttr,h30,h32,h6,ws,u1,u2,ca,c1,c2,this]
   by_cases c3:b = -1
   rotate_left
   ·have:=hel (by simp[c3]);simp only[sz,simprocAttr,h30,h32,h6,ws,u1,u2,ca,c1,c2,c3,this]
   by_cases c4:c = -1
   rotate_left
   ·have:=hel (by simp[c4]);simp only[sz,simprocAttr,h30,h32,h6,ws,u1,u2,ca,c1,c2,c3,c4,this]
   obtain ⟨A,rfl⟩:=Int.eq_ofNat_of_zero_le (show 0<=a by omega);have hA:A<n.nodes.length:=by omega
   subst c3 c4;have z1:A<((S.aK l n.nodes.length j).map cb).length:=by simpa [qz] using hA
   have z2:((S.aK l n.nodes.length j).map cb)[A]?=some (cb (S.aR l j (A:Int))):=by rw[List.getElem?_map,Am hA];rfl
   simp only[sz,simprocAttr,h30,h32,h6,ws,u1,u2,ca,c1,c2];obtain ⟨g',hg'⟩:∃g',g'=((g.new (AObj.cells 3 [[AV.int IntKind.i64 0,AV.int IntKind.i64 0,AV.int IntKind.i64 0]] 0 false false)).put g.nx (AObj.cells 3 [[AV.int IntKind.i64 (A:Int),AV.int IntKind.i64 (-1),AV.int IntKind.i64 (-1)]] 0 false false)):=⟨_,rfl⟩;rw[<-hg'];have kq:g'.h.get g.nx=.cells 3 [[.int .i64 (A:Int),.int .i64 (-1),.int .i64 (-1)]] 0 false false:=by rw[hg'];simp[H.get_put]
   have kn:g'.nx=g.nx+1:=by rw[hg'];simp
   have kf:∀i,i<g.nx->g'.h.get i=g.h.get i:=λi hi=>by rw[hg'];simp[H.get_put,show ¬i=g.nx by omega]
   have oU':Own g' 0 us 1 ((S.aF l j).map cb):=oU.fr (by omega) λi hi=>kf i (oU.lt hi).2;have oL':Own g' 0 lv 1 ((S.aK l n.nodes.length j).map cb):=oL.fr (by omega) λi hi=>kf i (oL.lt hi).2;clear hg' kf oU oL;cases cA:S.aR l j (A:Int) with
   | true =>
    have:=hel (by simp[cA]);rw[cA] at z2;simp only[sz,simprocAttr,h7,oL'.rows,z1,z2,cb,kq,this]
   | false =>
    rw[cA] at z2;have hok':∀i,i<j+1->S.bg l n.nodes.length i=true:=λi hi=>by
     by_cases e:i=j
     ·subst e;rw[S.bg,S.bP,hsp];simp[ca,cA,hA]
     ·exact hok i (by omega)
    have hu2:S.aF l (j+1)=S.aF l j:=KF (by rw[hsp];exact ca);have hl2:S.aK l n.nodes.length (j+1)=(S.aK l n.nodes.length j).set A true:=Jm hA (by rw[hsp]);simp only[sz,simprocAttr,h7,oL'.rows,z1,z2,cb,kq];refine cO (v:=lv) (sz:=1) (n:=1) (i:=A) (off:=0) (x:=.bool true) (row:=cb false) (row':=cb true) oL' z2 rfl rfl rfl λg3 o3 n3 f3=>?_;simp only[sz,simprocAttr];refine ⟨⟨?_,?_,?_,hok'⟩,?_⟩
    ·simp[St,sx,h1,h30,h6,h7,h8]
    ·rw[hl2,<-D7];exact o3
    ·rw[hu2];exact oU'.fr (by omega) λi hi=>f3 i λe=>hne (by rw[fp vL e,fp vU hi])
    ·simp[sx,h31,h32]
 ·clear h1 h6 h7 h8 oL oU;rintro t df g ⟨rfl,⟨h1,h30,h6,h7,h8,-⟩,oL,oU,hok⟩;have sL:=oL.bools (by rw[qz];omega);have sU:=oU.bools (by rw[jU];omega);have q1:=su (d:=d+1) (g:=g) (Nat.succ_pos d) sL;obtain ⟨y,y1,-,y2⟩:=Mc (α:=Bool) oU (n:=l.length - 1) (by intro e;have h0:((S.aF l l.length).map cb).length=0:=(by rw[e];rfl);rw[List.length_map,jU] at h0;omega) (by simp[jU]);have sU2:=y2 _ _ _ g.h (λi _=>rfl) sU;have q2:=su (d:=d+1) (g:=g) (Nat.succ_pos d) sU2;have e5:IntKind.wrap .i64 ((l.length:Int) - 1)=((l.length - 1:Nat):Int):=by rw[an (by omega) (by omega)];omega
  have y1:vd 1 us none (some (.int .i64 ((l.length - 1:Nat):Int))) g=.val y:=y1;have hck:S.ck l n.nodes.length=(decide (false ∉ S.aK l n.nodes.length l.length)&&decide (false ∉ (S.aF l l.length).take (l.length - 1))):=by
   have a1:(List.range l.length).all (S.bg l n.nodes.length)=true:=by rw[List.all_eq_true];exact λi hi=>hok i (List.mem_range.1 hi)
   rw[S.ck,c1',a1];have b1:decide (false ∉ S.aK l n.nodes.length l.length)=(List.range n.nodes.length).all λv:Nat=>S.aR l l.length (v:Int):=Bool.eq_iff_iff.2 (by rw[decide_eq_true_eq];exact GX);have b2:decide (false ∉ (S.aF l l.length).take (l.length - 1))=(List.range (l.length - 1)).all λe:Nat=>S.ay l l.length (e:Int):=Bool.eq_iff_iff.2 (by rw[decide_eq_true_eq];exact Hz (Nat.sub_le _ _));rw[b1,b2,Bool.true_and,Bool.true_and]
  rw[hck] at hs
  by_cases d1:false∈S.aK l n.nodes.length l.length
  ·have hs:S.aX n l=130:=by rw[hs];simp[d1]
   simp only[sz,simprocAttr,cS,h7,h30,q1,d1,hs]
  ·by_cases d2:false∈(S.aF l l.length).take (l.length - 1)
   ·have hs:S.aX n l=130:=by rw[hs];simp[d1,d2]
    simp only[sz,simprocAttr,cS,h7,h8,h1,wl,e5,y1,q1,q2,List.head?_nil,List.head?_cons,d1,d2,hs]
   ·have hs:S.aX n l=0:=by rw[hs];simp[d1,d2]
    simp only[sz,simprocAttr,cS,h7,h8,h1,wl,e5,y1,q1,q2,List.head?_nil,List.head?_cons,d1,d2,hs]
theorem Own.sat_len {g:G}{b sz:Nat}{v:AV}{rows:List (List AV)}(h:Own g b v sz rows)(g':G):eB .slice v g'=.val (.int .i64 (rows.length:Int)):=by rcases h with ⟨rfl,rfl⟩ | ⟨id,ep,lo,h1,h2,rfl,h3⟩<;>rfl
set_option maxRecDepth 20000 in
theorem EH (s v:Nat):decide (((s / 2 ^ v &&& 1:Nat):Int)=1)=s.testBit v:=by rw[Nat.testBit,Nat.shiftRight_eq_div_pow,Nat.and_comm];apply Bool.eq_iff_iff.2;rw[decide_eq_true_eq,bne_iff_ne,Nat.one_and_eq_mod_two];omega
def ck9 (k:Key):AV:=.agg (.int .i64 k.1::k.2.map λx=>.int .i64 x)
def qR (L:Mem):List (AV×AV):=L.map λp=>(ck9 p.1,.int .i64 p.2)
def srO (gr size c:Int)(b lv vv cv xv:AV)(pm:Nat):AObj:=.cells 9 [[.int .i64 gr,b,lv,vv,cv,xv,.hmap pm,.int .i64 size,.int .i64 c]] 0 false false
structure Srs (n:Net) (l:List Sp) (cut ctx:List Nat) (b lv:AV) (pq pv pm pc px:Nat):Prop where
 nr:NR n
 nb:SlR NoP 0 .nil n.nodes b
 sl:SlR NoP 0 .nil l lv
 cl:cut.length=l.length
 xl:ctx.length=l.length
 ll:l.length<=15
 cb:∀x∈cut,x<2 ^ n.nodes.length
 xb:∀x∈ctx,x<2 ^ n.nodes.length
 d1:pv≠pq/\pm≠pq/\pc≠pq/\px≠pq
 d2:pm≠pv/\pc≠pv/\px≠pv
 d3:pc≠pm/\px≠pm
structure Srh (n:Net) (cut ctx:List Nat) (size:Int) (b lv:AV) (pq pv pm pc px:Nat) (st:MSt) (g:G):Prop where
 q:g.h.get pq=srO n.grain size st.2 b lv (.hsl pv 0 0 n.nodes.length none) (.hsl pc 0 0 cut.length none) (.hsl px 0 0 ctx.length none) pm
 m:g.h.get pm=.map (qR st.1)
 c:g.h.get pc=.cells 1 (cut.map cu) 0 false false
 x:g.h.get px=.cells 1 (ctx.map cu) 0 false false
 nx:pq<g.nx/\pv<g.nx/\pm<g.nx/\pc<g.nx/\px<g.nx
def Vs (n:Net)(pv:Nat)(w:List Int)(g:G):Prop:=w.length=n.nodes.length/\∃lo,g.h.get pv=.cells 1 (w.map ci) 0 lo false
theorem Srh.fr {n:Net}{cut ctx:List Nat}{size:Int}{b lv:AV}{pq pv pm pc px:Nat}{st:MSt}{g g':G}(h:Srh n cut ctx size b lv pq pv pm pc px st g)(hn:g.nx<=g'.nx)(hf:∀i,i=pq\/i=pm\/i=pc\/i=px->g'.h.get i=g.h.get i):Srh n cut ctx size b lv pq pv pm pc px st g' :=
 ⟨by rw[hf _ (.inl rfl),h.q],by rw[hf _ (.inr (.inl rfl)),h.m],by rw[hf _ (.inr (.inr (.inl rfl))),h.c],by rw[hf _ (.inr (.inr (.inr rfl))),h.x],by have:=h.nx;omega⟩
theorem Vs.fr {n:Net}{pv:Nat}{w:List Int}{g g':G}(h:Vs n pv w g)(hf:g'.h.get pv=g.h.get pv):Vs n pv w g':=⟨h.1,by rw[hf];exact h.2⟩
def u6 (w:List Int)(s j:Nat):List Int:=(List.range 8).map λv=>if v<j then (if s.testBit v then w[v]?.getD 0 else -1) else 0
theorem B0 (w:List Int)(s j:Nat):(u6 w s j).length=8:=by simp[u6]
theorem Jd (w:List Int)(s:Nat):u6 w s 8=S.aN w s:=by refine List.map_congr_left λv hv=>?_;rw[if_pos (List.mem_range.1 hv)]
theorem B1 {w:List Int}{s j:Nat}(h:j<8):(u6 w s j).set j (if s.testBit j then w[j]?.getD 0 else -1)=u6 w s (j+1):=by
 refine List.ext_getElem (by simp[u6]) λi h1 h2=>?_;rw[List.getElem_set];simp only[u6,List.getElem_map,List.getElem_range]
 by_cases e:j=i
 ·subst e;simp
 ·have h3:(i<j+1)=(i<j):=propext ⟨λ_=>by omega,λ_=>by omega⟩;simp only[e,if_false,h3]
def kO9 (i:Int)(l:List Int):AObj:=.cells 9 [.int .i64 i::l.map λx=>.int .i64 x] 0 false false
theorem GW {i x:Int}{l:List Int}{j:Nat}(hj:j<l.length)(g:G)(id:Nat):cM (kO9 i l) g id 0 0 1 (1+j*1) (.int .i64 x)=.upd .undef (g.put id (kO9 i (l.set j x))):=by unfold kO9;rw[br 9 _ 0 false g id 0 1 (1+j*1) (.int .i64 x) rfl rfl];simp only[List.getElem?_cons_zero];rw[show (AV.int .i64 x).cells=[.int .i64 x] from rfl,jR (by simp;omega)];simp only[List.set_cons_zero,List.map_set];rw[show 1+j*1=j+1 by omega,List.set_cons_succ]
theorem xh {i:Int}{l:List Int}(hl:l.length=8):bH (kO9 i l) 0 0 true 9 0=.val (ck9 (i,l)):=by
 unfold kO9;rw[kV,List.getElem?_cons_zero];show orV (bC true 9 _ 0)=_;rw[Cp (by simp[hl]),List.drop_zero,List.take_of_length_le (by simp[hl])]
 rfl
theorem Fm {i:Int}{l:List Int}{k:Key}(h0:l.length=8)(hl:k.2.length=8)(g:G)(id:Nat):cM (kO9 i l) g id 0 0 9 0 (ck9 k)=.upd .undef (g.put id (kO9 k.1 k.2)):=by
 unfold kO9 ck9;rw[br 9 _ 0 false g id 0 9 0 _ (by show (AV.int .i64 k.1::k.2.map λx=>AV.int .i64 x).length=9;simp[hl]) rfl,List.getElem?_cons_zero];show (match bg _ 0 (AV.int .i64 k.1::k.2.map λx=>AV.int .i64 x) with | some row'=>OR.upd .undef (g.put id (.cells 9 _ 0 false false)) | none=>.fail)=_;rw[th (by simp[h0,hl]) (by simp[hl])]
 rfl
theorem bm (id ep i off:Nat):JF (.hptr id ep i off)=.val (.hptr id ep i off):=rfl
theorem ja {l:List Nat}{i:Nat}(h:i<l.length):i<(l.map cu).length/\(l.map cu)[i]?=some (cu (l[i]?.getD 0)):=by refine ⟨by simpa using h,?_⟩;rw[List.getElem?_map,List.getElem?_eq_getElem h];rfl
theorem EL {l:List Int}{i:Nat}(h:i<l.length):i<(l.map ci).length/\(l.map ci)[i]?=some (ci (l[i]?.getD 0)):=by refine ⟨by simpa using h,?_⟩;rw[List.getElem?_map,List.getElem?_eq_getElem h];rfl
theorem cq {g:G}{id sz:Nat}{rows:List (List AV)}{lo:Bool}{m:Nat}(h:g.h.get id=.cells sz rows 0 lo false)(hm:m=rows.length):ah g.h sz (.hsl id 0 0 m none)=some rows:=by subst hm;exact Own.rows (g:=⟨g.h,id+1,g.lg⟩) (b:=0) (.inr ⟨id,0,lo,Nat.zero_le _,Nat.lt_succ_self _,rfl,h⟩)
theorem mO {x m:Nat}(h:x<2 ^ m)(hm:m<=8):x<256:=Nat.lt_of_lt_of_le h (by have:=Nat.pow_le_pow_right (n:=2) (by decide) hm;omega)
set_option maxRecDepth 20000 in
theorem Kv {d i:Nat}{n:Net}{l:List Sp}{cut ctx:List Nat}{size:Int}{b lv:AV}{pq pv pm pc px:Nat}{st:MSt}{w:List Int}{g:G}{K:AV->G->Prop}{D:ADf->Prop}(hC:Srs n l cut ctx b lv pq pv pm pc px)(hS:Srh n cut ctx size b lv pq pv pm pc px st g)(hV:Vs n pv w g)(hi:i<l.length)
  (kk:∀g',Fx (λ_=>False) g g'->K (ck9 ((i:Int),S.aN w (ctx[i]?.getD 0))) g'):(ax C0 d N.aH [.hptr pq 0 0 0,.int .i64 (i:Int)] g).sat K g D:=by
 obtain ⟨hwl,lo,hv⟩:=hV;have hl8:=hC.nr.l2;have hil:i<ctx.length:=by rw[hC.xl];exact hi
 obtain ⟨s,hs⟩:∃s,s=ctx[i]?.getD 0:=⟨_,rfl⟩;have hsm:s<2 ^ n.nodes.length:=by rw[hs,List.getElem?_eq_getElem hil];exact hC.xb _ (List.getElem_mem hil)
 have hs256:=mO hsm hl8;obtain ⟨n1,n2,-,-,n5⟩:=hS.nx;have hll:=hC.ll;rw[jM];refine gK lI (by simp[c8]) ?_;simp only[c8];refine bM (P:=λt' df g'=>df=[]/\g'.nx=g.nx+1/\g'.h.get g.nx=kO9 0 [0,0,0,0,0,0,0,0]/\Fx (λ_=>False) g g'/\St t' [(0,.hptr pq 0 0 0),(1,.int .i64 (i:Int)),(4,.hptr g.nx 0 0 0)]) ?_ ?_
 ·simp only[sz,simprocAttr];exact ⟨rfl,Fx.new _ _ _,by simp[St,sx]⟩
 rintro t df g1 ⟨rfl,k1,k2,F1,h0,h1,h4,-⟩;simp only[eI];refine bM (P:=λt' df g'=>df=[]/\g'.nx=g.nx+2/\g'.h.get g.nx=kO9 0 [0,0,0,0,0,0,0,0]/\g'.h.get (g.nx+1)=kO9 (i:Int) (u6 w s 0)/\Fx (λ_=>False) g g'/\St t' [(0,.hptr pq 0 0 0),(1,.int .i64 (i:Int)),(4,.hptr g.nx 0 0 0),(5,.hptr (g.nx+1) 0 0 0)]) ?_ ?_
 ·simp only[sz,simprocAttr,h1,k1];exact ⟨by simp[k2],rfl,(F1.trans (Fx.new _ _ _)).put (.inr (by omega)) _,by simp[St,sx,h0,h1,h4]⟩
 rintro t df g2 ⟨rfl,k1,k2,k3,F2,h0,h1,h4,h5,-⟩;refine bM (P:=λt' df g'=>df=[]/\g'.nx=g.nx+2/\g'.h.get g.nx=kO9 0 [0,0,0,0,0,0,0,0]/\g'.h.get (g.nx+1)=kO9 (i:Int) (u6 w s 8)/\Fx (λ_=>False) g g'/\St t' [(4,.hptr g.nx 0 0 0),(5,.hptr (g.nx+1) 0 0 0)]) ?_ ?_
 ·simp only[sz,simprocAttr,ef,eg];refine CV (m:=8) rfl (by omega) (λj t df g'=>df=[]/\g'.nx=g.nx+2/\g'.h.get g.nx=kO9 0 [0,0,0,0,0,0,0,0]/\g'.h.get (g.nx+1)=kO9 (i:Int) (u6 w s j)/\Fx (λ_=>False) g g'/\St t [(0,.hptr pq 0 0 0),(1,.int .i64 (i:Int)),(4,.hptr g.nx 0 0 0),(5,.hptr (g.nx+1) 0 0 0)])
   ⟨rfl,k1,k2,k3,F2,by simp[St,sx,h0,h1,h4,h5]⟩ (by simp[sx]) (by decide) (by rintro j t df g v s (rfl | rfl | rfl)<;>simp[sx,St]) ?_ ?_
  ·clear h0 h1 h4 h5 k1 k2 k3 F2 F1;rintro j t df g3 hj ⟨rfl,k1,k2,k3,F3,h0,h1,h4,h5,-⟩ h9;have eq:g3.h.get pq=srO n.grain size st.2 b lv (.hsl pv 0 0 n.nodes.length none) (.hsl pc 0 0 cut.length none) (.hsl px 0 0 ctx.length none) pm:=by rw[F3.fr pq n1 id,hS.q]
   have ex:g3.h.get px=.cells 1 (ctx.map cu) 0 false false:=by rw[F3.fr px n5 id,hS.x]
   have ev:g3.h.get pv=.cells 1 (w.map ci) 0 lo false:=by rw[F3.fr pv n2 id,hv]
   obtain ⟨x1,x2⟩:=ja hil;rw[<-hs] at x2;have ka:GV 8 1 (.hptr (g.nx+1) 0 0 1) (.int .i64 (j:Int))=.val (.hptr (g.nx+1) 0 0 (1+j*1)):=Ff 8 1 (g.nx+1) 0 0 1 .i64 hj;have st1:=λ(g':G) (l:List Int) (x:Int) (hl:l.length=8)=>GW (i:=(i:Int)) (x:=x) (l:=l) (j:=j) (by omega) g' (g.nx+1);refine bM (P:=λt' df g'=>df=[]/\g'=g3/\St t' [(0,.hptr pq 0 0 0),(1,.int .i64 (i:Int)),(4,.hptr g.nx 0 0 0),(5,.hptr (g.nx+1) 0 0 0),(6,.int .i64 (j:Int)),(9,.int .i64 (j:Int))]) ?_ ?_
   ·simp only[sz,simprocAttr,h9];simp[St,sx,h0,h1,h4,h5,h9]
   rintro t df g4 ⟨rfl,rfl,h0,h1,h4,h5,h6,h9,-⟩;refine bM (P:=λt' df g'=>df=[]/\g'.nx=g.nx+2/\g'.h.get g.nx=kO9 0 [0,0,0,0,0,0,0,0]/\g'.h.get (g.nx+1)=kO9 (i:Int) ((u6 w s j).set j (-1))/\g'.h.get pq=g4.h.get pq/\g'.h.get px=g4.h.get px/\g'.h.get pv=g4.h.get pv/\Fx (λ_=>False) g g'/\St t' [(0,.hptr pq 0 0 0),(1,.int .i64 (i:Int)),(4,.hptr g.nx 0 0 0),(5,.hptr (g.nx+1) 0 0 0),(6,.int .i64 (j:Int)),(9,.int .i64 (j:Int))]) ?_ ?_
   ·simp only[sz,simprocAttr,h5,h6,ka,k3,st1 _ _ _ (B0 w s j)];have hn1:¬pq=g.nx+1:=by omega
    have hn2:¬px=g.nx+1:=by omega
    have hn3:¬pv=g.nx+1:=by omega
    and_intros<;>first | exact F3.put (.inr (by omega)) _ | simp[H.get_put,k2,hn1,hn2,hn3,St,sx,h0,h1,h4,h5,h6,h9,k1]
   rintro t df g5 ⟨rfl,k1,k2,k3,eq5,ex5,ev5,F5,h0,h1,h4,h5,h6,h9,-⟩;rw[eq] at eq5;rw[ex] at ex5;rw[ev] at ev5;have rx:=cq (sz:=1) (m:=ctx.length) ex5 (by simp);have rv:=cq (sz:=1) (m:=n.nodes.length) ev5 (by simp[hwl]);have e1:=zM .i64 s j (by omega);have e2:=sw (s / 2 ^ j) 1 (Nat.lt_of_le_of_lt (Nat.div_le_self _ _) (by omega)) (by omega);have e2:bA .and (.int .u64 ((s / 2 ^ j:Nat):Int)) (.int .u64 1)=.val (.int .u64 ((s / 2 ^ j &&& 1:Nat):Int)):=e2;have e3:=EH s j;cases hb:s.testBit j with
   | false =>
    have e4:=B1 (w:=w) (s:=s) hj;rw[hb] at e4 e3;simp only[sz,simprocAttr,h0,h1,h6,eq5,srO,bm,rx,x1,x2,cu,e1,e2,e3];refine ⟨⟨k1,k2,by rw[k3];exact congrArg _ e4,F5,by simp[St,sx,h0,h1,h4,h5]⟩,by simp[sx,h9]⟩
   | true =>
    have e4:=B1 (w:=w) (s:=s) hj;rw[hb] at e4 e3;have hjn:j<n.nodes.length:=CQ hsm hb;obtain ⟨v1,v2⟩:=EL (l:=w) (i:=j) (by omega);simp only[sz,simprocAttr,h0,h1,h5,h6,eq5,srO,bm,rx,rv,x1,x2,v1,v2,cu,ci,e1,e2,e3,ka,k3,st1 _ _ _ (show ((u6 w s j).set j (-1)).length=8 by simp[B0])];rw[List.set_set]
    and_intros<;>first | exact congrArg _ e4 | exact F5.put (.inr (by omega)) _ | simp[H.get_put,k2,St,sx,h0,h1,h4,h5,h9,k1]
  ·rintro t df g3 ⟨rfl,k1,k2,k3,F3,h0,h1,h4,h5,-⟩;simp only[sz,simprocAttr];exact ⟨k1,k2,k3,F3,by simp[St,h4,h5]⟩
 rintro t df g3 ⟨rfl,k1,k2,k3,F3,h4,h5,-⟩;rw[Jd] at k3;have hsk:(S.aN w s).length=8:=by simp[S.aN]
 have ld:=xh (i:=(i:Int)) hsk;have sa:=λg id=>Fm (i:=0) (l:=[0,0,0,0,0,0,0,0]) (k:=((i:Int),S.aN w s)) rfl hsk g id;simp only[sz,simprocAttr,eh,h4,h5,k3,k2,ld,sa];rw[<-hs] at kk;exact kk _ (F3.put (.inr (Nat.le_refl _)) _)
end
end Hx
end
