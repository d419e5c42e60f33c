/- A part of the proof: an interpreter over abstract values, shown right against the model, and what the functions of the chapter compute on it. -/
import Derived.OpenShut
import Derived.DataReads
import Derived.Test.YteaikmdilmfbeaaGreatHx16
set_option linter.unusedVariables false
set_option linter.unusedSimpArgs false
set_option linter.unnecessarySimpa false
section
namespace Hx
open Go
noncomputable section
def S.aF (W:List Int):Nat->Nat
 | 0=>0
 | j+1=>if W[S.aF W j]?.getD 0<W[j+1]?.getD 0 then j+1 else S.aF W j
theorem Em (W:List Int):∀j,S.aF W j<=j
 | 0=>Nat.le_refl _
 | j+1=>by have:=Em W j;rw[S.aF];split<;>omega
def S.bC (n:Net)(e vars:List Int):Nat:=S.aF (S.aA n e vars (S.am n)) (S.nc (S.ae (S.aa n) vars) - 1)
def S.bi (n:Net)(e vars:List Int):List Int:=S.an (S.ae (S.aa n) vars) (S.bC n e vars:Int)
def S.bH (n:Net)(e vars:List Int):Int:=(S.aA n e vars (S.am n))[S.bC n e vars]?.getD 0
theorem Hu {d k:Nat}{P:Nat->Prop}{g:G}{l:List Int}{v:AV}{K:AV->G->Prop}{D:ADf->Prop}(hv:SlR P k g.h l v)(hP:∀i,P i->i<g.nx)(hl2:l.length<=1000)(kk:∀u g',Own g' g.nx u 1 (l.map ci)->Fr g g'->(∀i∈g'.lg,i∈g.lg\/g.nx<=i)->K u g') :
  (ap C0 d N.aq [v] g).sat K g D:=by
 rw[ii];refine xx jt (by simp[bu]) ?_
 by_cases hn:v=.nils
 ·subst hn;have hl:l=[]:=by have h:=hv.2;unfold SlV at h;exact h
  have hne:z9 false .slice .nils .nils=.val (.bool true):=rfl;simp only[sz,simprocAttr,bu,hne];exact kk _ _ (.inl ⟨rfl,by rw[hl];rfl⟩) (Fr.refl g) λi hi=>.inl hi
 ·have hne:z9 false .slice v .nils=.val (.bool false):=by
   have h:=hv.2;unfold SlV at h
   split at h
   ·exact absurd rfl hn
   ·rfl
   ·rfl
   ·rfl
   ·exact h.elim
  simp only[sz,simprocAttr,bu,hne];refine br (b:=g.nx) (v:=.hsl g.nx 0 0 0 none) (rows:=[]) (new:=l.map ci) (.inr ⟨g.nx,0,false,Nat.le_refl _,by simp,rfl,by simp[H.get_put]⟩) ?_ (by simp) (by simp[aP];omega) λu g1 hu n1 f1 _ l1=>?_
  ·refine SlR.ints (P:=P) (k:=k) (hv.far8 λi hi=>?_);have:=hP i hi;simp[H.get_put,show ¬i=g.nx by omega]
  ·simp only[sz,simprocAttr];refine kk u g1 (by simpa using hu) ⟨by simp at n1;omega,λi hi=>by rw[f1 i (by simp;omega) (by simp[vid];omega)];simp[H.get_put,show ¬i=g.nx by omega]⟩ λi hi=>?_;rcases l1 i hi with h | h
   ·simp at h;rcases h with rfl | h
    ·exact .inr (Nat.le_refl _)
    ·exact .inl h
   ·exact .inr h
theorem JF {α:Type} [Rp α]{k:Nat}{h h':H}{l:List α}{v:AV}(hv:SlR NoP k h l v)(n:Nat):aG h' (n+1) v=[]:=by
 have r:=hv.2;unfold SlV at r
 split at r
 ·rfl
 ·rfl
 ·rfl
 ·exact r.1.elim
 ·exact r.elim
theorem JG (h:H)(n t sz i off:Nat)(rows:List (List AV)):aG h n (.tptr t sz rows i off)=[]:=by cases n<;>rfl
theorem Iw (n:Net)(e vars:List Int):S.aA n e vars 0=List.replicate (S.nc (S.ae (S.aa n) vars)) 0:=by
 refine List.ext_getElem? λi=>?_
 by_cases hi:i<(S.af (S.ae (S.aa n) vars)).toNat
 ·rw[lG hi,List.getElem?_replicate,S.nc,if_pos hi];rfl
 ·rw[List.getElem?_eq_none (by rw[gQ];omega),List.getElem?_eq_none (by rw[List.length_replicate,S.nc];omega)]
theorem It {n:Net}{e vars:List Int}{j i:Nat}(hj:j<S.am n)(hi:i<(S.af (S.ae (S.aa n) vars)).toNat)(hK:S.bB n vars j=(i:Int)) :
  ∃y x,(S.aA n e vars j)[i]?=some y/\(S.bc n e)[j]?=some x/\(S.aA n e vars j).set i (y+x)=S.aA n e vars (j+1)/\(S.aA n e vars (j+1))[i]?=some (y+x):=by
 refine ⟨_,_,lG hi,L9 hj,?_,?_⟩
 ·cases c:S.pe n e j with
  | true =>
   rw[if_pos rfl];exact Iv c hi hK
  | false =>
   rw[Iu c,if_neg (by decide),Int.add_zero];refine List.ext_getElem? λq=>?_;rw[List.getElem?_set]
   by_cases e1:i=q
   ·subst e1;rw[if_pos rfl,if_pos (by rw[gQ];exact hi),lG hi]
   ·rw[if_neg e1]
 ·rw[lG hi,S.au,S.pk];have:decide (S.ah (S.ae (S.aa n) vars) (S.ae (S.an (S.aa n) (j:Int)) vars)=(i:Int))=true:=decide_eq_true hK;rw[this,Bool.and_true]
  rfl
theorem EH {C:Cfg}{d:Nat}{r:List SR}{t:T}{g:G}{K:AV->G->Prop}{i j:Nat}(hi:g.h.get i=.dfr true)(hj:g.h.get j=.dfr true)(hij:i≠j)(h:wk r t ((g.put i (.dfr false)).put j (.dfr false)) λvs=>K (jp vs) ((g.put i (.dfr false)).put j (.dfr false))):vY C d r t [.mark i,.mark j] g K:=by
 unfold vY;have:eS (I C) d [.mark i,.mark j] g=some ((g.put i (.dfr false)).put j (.dfr false)):=by
  have hj':(g.put i (.dfr false)).h.get j=.dfr true:=by simp[H.get_put,show ¬j=i by omega,hj]
  simp only[eS,G.get_eq,hi,hj']
 rw[this];exact h
def LBs (p:Nat):List (Nat×AV):=[(1,.hptr 0 0 0 0),(4,.hptr p 0 0 0)]
theorem Ln {d k:Nat}{g:G}{n:Net}{e vars:List Int}{m:Int}{q:AV}(hd:k<d)(hr:NR n)(hq:Bk n vars (S.bF n vars) (S.bc n e) m k q)(hp:S.aw vars (n.nodes.length:Int)=true) :
  ∃r,ap C0 d N.a9 [q] g=.val r/\tG (One (S.bi n e vars)) (One (S.bH n e vars)) NoP 0 .nil r:=by
 have hq0:=hq;obtain ⟨t0,b,vw,ow,ww,e0,ht,hb,hv,ho,hww⟩:=hq0;have hl8:=hr.l2;have hvl:=bV hp (by omega);have hpv:=bm hp;have hpb:=aM (ps:=vars) hr.cs (λp hpm=>by rw[aA];exact hpv p hpm);have hlp:(S.ae (S.aa n) vars).length=vars.length:=by simp[S.ae]
 have hcs:CsOk (S.ae (S.aa n) vars):=⟨hpb,by omega⟩;obtain ⟨N1,N2,N3⟩:=hcs.nc;obtain ⟨W1,W2,W3⟩:=hr.wl;have hol:(S.bF n vars).length<=n.nodes.length:=zf _ _;have hd1:0<d+1:=Nat.succ_pos d;have hbx:∀g:G,Cx q g=.upd (.hptr g.nx 0 0 0) (g.new (.cells 1 [[q]] 0 false false)):=λg=>by rw[e0];rfl
 have iq:∀h,aG h aI q=[]:=λh=>by rw[e0];exact JG h _ _ _ _ _ _
 have iv:∀h,aG h aI vw=[]:=λh=>JF hv _;have hfd:HL 2 q=.val (.tptr t0 6 [[.int .i64 n.grain,b,vw,ow,ww,.int .i64 m]] 0 2):=by rw[e0];exact cC _ _ _ _ _ _
 have hnq:Do q=.val q:=by rw[e0];rfl
 rw[nA];refine aW pR (xs:=[q]) (by rw[e0];simp only[aH,s6]) (by simp[eJ]) (dk (m:=1) (aR _) (aR _) (by decide) (by decide)) (by decide) (by omega) ?_;simp only[sz,simprocAttr,eJ,hbx];obtain ⟨G0,hG0⟩:∃G0,G0=G.empty.new (.cells 1 [[q]] 0 false false):=⟨_,rfl⟩;have z0:G0.h.get 0=.cells 1 [[q]] 0 false false:=by rw[hG0];simp[H.get_put,show G.empty.nx=0 from rfl]
 have zn:G0.nx=1:=by rw[hG0];rfl
 rw[<-hG0];clear hG0;unfold im;refine gx (P:=λt' df g'=>df=[]/\∃A p,St t' (LBs p)/\g'.h.get 0=.cells 1 [[q]] 0 false false/\g'.h.get A=.cells 1 ((List.replicate (S.nc (S.ae (S.aa n) vars)) 0).map ci) 0 false false/\g'.h.get p=.cells 1 [[.hsl A 0 0 (S.nc (S.ae (S.aa n) vars)) none]] 0 false false/\0<A/\A<p/\p<g'.nx) ?_ ?_
 ·simp only[sz,simprocAttr,sf,hnq,hfd,ba,z0];refine bH (A_ hd1 hq hpv (hv.tree (Nat.le_refl _)) (by omega)) λrc hrc=>?_;have ks:=λg:G=>Ej (d:=d+1) (g:=g) hd1 (hrc.sl g.h);have ir:∀h,aG h aI rc=[]:=λh=>JF (hrc.sl .nil) _;rw[wn hpb (by omega),<-N3] at ks;simp only[sz,simprocAttr,sf,ks];refine J2 N2 λg1 m1 n1 u1 l1=>?_;simp only[sx,sy,sf] at m1 n1 u1 l1;have y0:g1.h.get 0=.cells 1 [[q]] 0 false false:=by rw[u1.1 0 (by omega)];simpa using z0
  have it:ak (AV.tptr t0 6 [[.int .i64 n.grain,b,vw,ow,ww,.int .i64 m]] 0 2)=[]:=rfl;simp only[sz,simprocAttr,sf];refine ⟨?_,?_⟩
  ·simp only[List.reverse_cons,List.reverse_nil,List.nil_append,List.cons_append];refine aV [false,false,false,false,false,false,false,true,true,true] [(0,8),(1,8),(2,8),(3,8),(4,8),(5,8),(6,8),(7,8)] (by simp[All2,an,aD,gk,qR]) (by decide) ?_;rintro p hp x y hx hy;simp only[List.mem_cons,List.not_mem_nil,or_false] at hp;rcases hp with rfl | rfl | rfl | rfl | rfl | rfl | rfl | rfl<;>(simp[gk,qR,iL,iq,iv,ir,sx] at hx hy;subst hx;subst hy;refine eh rfl rfl rfl rfl ?_ ?_ ?_<;>simp[an,aD,kA,it,l1]<;>omega)
  ·refine ⟨G0.nx+7,g1.nx+1,by simp[St,LBs,sx],?_,?_,?_,by omega,by omega,by simp⟩
   ·simp[H.get_put,show ¬0=g1.nx+1 by omega,y0]
   ·simp[H.get_put,show ¬G0.nx+7=g1.nx+1 by omega,m1]
   ·simp[H.get_put]
 rintro t df g1 ⟨rfl,A,p,⟨h1,h4,-⟩,f0,fA,fp,hA,hAp,hpn⟩;refine gx (P:=λt' df g'=>∃dm,df=[.mark dm]/\g'.h.get dm=.dfr true/\p<dm/\dm<g'.nx/\St t' (LBs p)/\g'.h.get 0=.cells 1 [[q]] 0 false false/\(∃lo,g'.h.get A=.cells 1 ((S.aA n e vars (S.am n)).map ci) 0 lo false)/\g'.h.get p=.cells 1 [[.hsl A 0 0 (S.nc (S.ae (S.aa n) vars)) none]] 0 false false) ?_ ?_
 ·simp only[sz,simprocAttr,h1,f0];refine bH (Q:=λr=>∃tg,r=.clo N.aa [] [.tptr tg 1 [[q]] 0 0]) (by obtain ⟨tg,h⟩:=FA (g:=g1) (Nat.lt_succ_of_lt hd) hq;exact ⟨_,h,tg,rfl⟩) ?_;rintro r ⟨tg,rfl⟩;simp only[sz,simprocAttr];refine Fj (n:=n) (vars:=vars) (oth:=S.bF n vars) (mw:=S.bc n e) (m:=m) (k:=k) (tg:=tg) hd1 hr hq hpv (by omega) NU (by omega) (qh _ _ _) (by simp[sx]) (by decide) (by decide)
   (λj g'=>g'.h.get 0=.cells 1 [[q]] 0 false false/\(∃lo,g'.h.get A=.cells 1 ((S.aA n e vars j).map ci) 0 lo false)/\g'.h.get p=.cells 1 [[.hsl A 0 0 (S.nc (S.ae (S.aa n) vars)) none]] 0 false false) ?_ ⟨f0,⟨false,?_⟩,fp⟩ ?_ ?_
  ·rintro j g3 g4 hU ⟨a1,a2,a3⟩;exact ⟨by rw[hU _ (by omega),a1],by rw[hU _ (by omega)];exact a2,by rw[hU _ (by omega),a3]⟩
  ·rw[fA,Iw]
  ·rintro j x u g3 hj hx ⟨a1,⟨lo,a2⟩,a3⟩ hn3 hu;simp only[sz,simprocAttr,gz];refine ⟨?_,λg5 n5 f5=>?_⟩
   ·exact Jm _ _ _
   have hin:=ea (λc hc=>(hr.cs c hc).1) (j:Int);have hC:=dx hin (ps:=vars) (λp hpm=>by rw[aA];exact hpv p hpm);have hoi:=Me hr hpv j;obtain ⟨fn,hfn⟩:=Int.eq_ofNat_of_zero_le hoi.1;have hfl:fn<(S.af (S.ae (S.aa n) vars)).toNat:=by have:(S.cg n vars:Int)=S.af (S.ae (S.aa n) vars):=N3;omega
   obtain ⟨y,x',hy,hx',hset,hnew⟩:=It (e:=e) hj hfl hfn;rw[hx] at hx';injection hx' with hx';subst hx';have hyb:0<=y+x/\y+x<=171992678400000000:=by rw[lG hfl] at hnew;injection hnew with hnew;rw[<-hnew];exact qr hr (by omega)
   have f6:∀i,i<g3.nx->i≠g1.nx+1->g5.h.get i=g3.h.get i:=λi h1 h2=>by rw[f5 i h2,if_neg (by omega),if_neg (by omega)]
   have gp5:g5.h.get g3.nx=.cells 2 [[.int .i64 (S.bB n (S.bF n vars) j),.int .i64 x]] 0 false false:=by rw[f5 _ (by omega),if_pos rfl]
   have b0:g5.h.get 0=.cells 1 [[q]] 0 false false:=by rw[f6 0 (by omega) (by omega),a1]
   have bA:g5.h.get A=.cells 1 ((S.aA n e vars j).map ci) 0 lo false:=by rw[f6 A (by omega) (by omega),a2]
   have bp:g5.h.get p=.cells 1 [[.hsl A 0 0 (S.nc (S.ae (S.aa n) vars)) none]] 0 false false:=by rw[f6 p (by omega) (by omega),a3]
   have hu5:SlR (λi=>vid u=some i) 0 g5.h (S.ae (S.an (S.aa n) (j:Int)) vars) u:=by have h1:SlR (λi=>vid u=some i) 0 g3.h (S.ae (S.an (S.aa n) (j:Int)) vars) u:=hu.sl (α:=Int) (by simp[S.ae];omega) (All2.of_map (λa=>aF.2 rfl) _) λi hi=>hi;exact h1.far8 λi hi=>by have:=hu.lt hi;exact f6 i (by omega) (by omega)
   have kn:=λ(g:G) (h:SlR (λi=>vid u=some i) 0 g.h (S.ae (S.an (S.aa n) (j:Int)) vars) u)=>Fv (d:=d+1) (g:=g) (l:=S.ae (S.an (S.aa n) (j:Int)) vars) (w:=u) hd1 hr hq hp h hC;have hox:S.ah (S.ae (S.aa n) vars) (S.ae (S.an (S.aa n) (j:Int)) vars)=(fn:Int):=hfn;rw[hox] at kn;have oA:Own g5 0 (.hsl A 0 0 (S.nc (S.ae (S.aa n) vars)) none) 1 ((S.aA n e vars j).map ci):=.inr ⟨A,0,lo,by omega,by omega,by rw[List.length_map,gQ];rfl,bA⟩;have z1:fn<((S.aA n e vars j).map ci).length:=by rw[List.length_map,gQ];exact hfl
   have z2:((S.aA n e vars j).map ci)[fn]?=some (ci y):=by rw[List.getElem?_map,hy];rfl
   have ru:=oA.rows;have w1:IntKind.wrap .i64 (y+x)=y+x:=aq (by omega) (by omega);simp only[gD,sz,simprocAttr,sf,h1,h4,b0,bp];rw[kn _ ?hx]
   case hx=>simpa using hu5
   simp only[sz,simprocAttr,sf,ru,z1,z2,ci,gp5,w1];refine bF (b:=0) (v:=.hsl A 0 0 (S.nc (S.ae (S.aa n) vars)) none) (sz:=1) (n:=1) (i:=fn) (off:=0) (x:=.int .i64 (y+x)) (row:=ci y) (row':=ci (y+x)) (oA.fr (by simp<;>omega) (λi' hi'=>by simp)) z2 rfl rfl rfl λg6 o6 n6 f7=>?_;rw[<-List.map_set,hset] at o6;have f8:∀i',i'≠A->g6.h.get i'=g5.h.get i':=λi' hi'=>by rw[f7 i' (by simpa [vid] using λh:A=i'=>hi' h.symm)];simp
   simp only[sy] at n6;simp only[sz,simprocAttr,sf];refine ⟨?_,?_⟩
   ·simp only[List.reverse_cons,List.reverse_nil,List.nil_append,List.cons_append];exact aV [false,false,false,false,false,false,false,false,false,false,true] [] (by simp[All2,an,aD,mC]) (by decide) (by simp)
   rcases o6 with ⟨h,-⟩ | ⟨id,ep,lo2,-,-,h,hg⟩
   ·cases h
   injection h with e1 e2;subst e1;subst e2;refine ⟨by simp;omega,λi h1 h2=>by simp[f8 i (by omega)],.inl ⟨rfl,by rw[f8 0 (by omega),b0],⟨lo2,by simpa using hg⟩,by rw[f8 p (by omega),bp]⟩⟩
  ·rintro g' ⟨a1,a2,a3⟩ hn hdf;simp only[sz,simprocAttr];exact ⟨g1.nx,rfl,hdf,by omega,by omega,by simp[St,LBs,sx,h1,h4],a1,a2,a3⟩
 rintro t df g2 ⟨dm,rfl,hdm,hdm1,hdm2,⟨h1,h4,-⟩,f0,⟨lo,fA⟩,fp⟩;obtain ⟨cs,hcse⟩:∃cs,cs=S.ae (S.aa n) vars:=⟨_,rfl⟩;obtain ⟨W,hW⟩:∃W,W=S.aA n e vars (S.am n):=⟨_,rfl⟩;have hWl:W.length=S.nc cs:=by rw[hW,gQ,hcse];rfl
 have hWb:∀i,i<S.nc cs->0<=W[i]?.getD 0:=λi hi=>by rw[hW,lG (by rw[hcse] at hi;exact hi)];exact (qr hr W2).1
 have hB:S.bi n e vars=S.an cs (S.aF W (S.nc cs - 1):Int):=by rw[hcse,hW];rfl
 have hB2:S.bH n e vars=W[S.aF W (S.nc cs - 1)]?.getD 0:=by rw[hcse,hW];rfl
 rw[hB,hB2];rw[<-hW] at fA;rw[<-hcse] at hcs N1 N2 N3 hpb hlp fp;have hcc:=λc hc=>(hcs.b c hc).1;simp only[gF];refine di (P:=λt' df g'=>df=[.mark dm]/\g'.nx=g2.nx+2/\(∀i,i<g2.nx->g'.h.get i=g2.h.get i)/\g'.h.get g2.nx=.cells 1 [[.nils]] 0 false false/\g'.h.get (g2.nx+1)=.cells 1 [[.int .i64 (-1)]] 0 false false/\St t' ((7,.hptr g2.nx 0 0 0)::(8,.hptr (g2.nx+1) 0 0 0)::LBs p)) ?_ ?_
 ·have hst:∀(g:G) (i:Nat),jS (.cells 1 [[.nils]] 0 false false) g i 0 0 1 0 .nils=.upd .undef (g.put i (.cells 1 [[.nils]] 0 false false)):=λg i=>rfl;simp only[sz,simprocAttr,H.get_put,hst,show ¬g2.nx=g2.nx+1 by omega,show ¬g2.nx+1=g2.nx by omega];simp[St,LBs,sx,h1,h4,H.get_put];intro i hi;rw[if_neg (by omega),if_neg (by omega),if_neg (by omega),if_neg (by omega)]
 rintro t df g3 ⟨rfl,n3,f3,e7,e8,h7,h8,h1,h4,-⟩;rw[cj,cj];simp only[sz,simprocAttr,h1,f3 0 (by omega),f0,hnq,hfd,ba];refine bH (A_ hd1 hq hpv (hv.tree (Nat.le_refl _)) (by omega)) λrc hrc=>?_;rw[<-hcse] at hrc;obtain ⟨z,kz,hz⟩:=xw (d:=d+1) (g:=aN g3 []) (w:=rc) (cs:=cs) hd1 (hrc.sl _);simp only[sz,simprocAttr,kz];refine A1 (cs:=cs) (w:=z) hcs hz (by simp[sx]) (by decide) (by decide)
  (λj g'=>(∃lo,g'.h.get A=.cells 1 (W.map ci) 0 lo false)/\g'.h.get p=.cells 1 [[.hsl A 0 0 (S.nc cs) none]] 0 false false/\g'.h.get dm=.dfr true/\g'.h.get (g2.nx+1)=.cells 1 [[.int .i64 (if j=0 then -1 else W[S.aF W (j - 1)]?.getD 0)]] 0 false false /\
   ∃u,g'.h.get g2.nx=.cells 1 [[u]] 0 false false/\(j=0\/Own g' (g3.nx+3) u 1 ((S.an cs (S.aF W (j - 1):Int)).map ci)))
  (λ_=>False) ?_ (λ_ _ _ h=>h) ?_ ?_ ?_ (λ_ h=>h.elim)
 ·rintro j g4 g5 ⟨hU,hn,hf⟩ ⟨⟨lo,a1⟩,a2,a3,a4,u,a5,a6⟩;exact ⟨⟨lo,by rw[hU.1 _ (by omega),a1]⟩,by rw[hU.1 _ (by omega),a2],by rw[hU.1 _ (by omega),a3],by rw[hU.1 _ (by omega),a4],u,by rw[hU.1 _ (by omega),a5],a6.imp id λh=>h.fr hn λi hi=>by have:=h.lt hi;exact hf i (by omega) (by omega)⟩
 ·exact ⟨⟨lo,by rw[f3 _ (by omega),fA]⟩,by rw[f3 _ (by omega),fp],by rw[f3 _ (by omega),hdm],e8,.nils,e7,.inl rfl⟩
 ·rintro j u g4 hj ⟨⟨lo,a1⟩,a2,a3,a4,u0,a5,a6⟩ hn4 hu;simp only[sz,simprocAttr,gC];refine ⟨Fr.refl _,λg5 n5 f5 u5=>?_⟩;have b1:g5.h.get A=.cells 1 (W.map ci) 0 lo false:=by rw[f5 _ (by omega),a1]
  have b2:g5.h.get p=.cells 1 [[.hsl A 0 0 (S.nc cs) none]] 0 false false:=by rw[f5 _ (by omega),a2]
  have b3:g5.h.get dm=.dfr true:=by rw[f5 _ (by omega),a3]
  have b4:=f5 (g2.nx+1) (by omega);rw[a4] at b4;have b5:g5.h.get g2.nx=.cells 1 [[u0]] 0 false false:=by rw[f5 _ (by omega),a5]
  have hu5:SlR (λi=>g3.nx+2<=i/\i<g4.nx) 0 g5.h (S.an cs (j:Int)) u:=hu.far8 λi hi=>f5 i (by omega);have oA:Own g5 0 (.hsl A 0 0 (S.nc cs) none) 1 (W.map ci):=.inr ⟨A,0,lo,by omega,by omega,by rw[List.length_map,hWl],b1⟩;have ru:=oA.rows;obtain ⟨y,hy,-,-⟩:=ae (l:=W) (j:=j) (by omega);have z1:j<(W.map ci).length:=by rw[List.length_map];omega
  have z2:(W.map ci)[j]?=some (ci y):=by rw[List.getElem?_map,hy];rfl
  have hyb:=hWb j hj;rw[hy,Option.getD_some] at hyb;obtain ⟨Gm,hG⟩:∃Gm,Gm=(if j=0 then (-1:Int) else W[S.aF W (j - 1)]?.getD 0):=⟨_,rfl⟩;rw[<-hG] at b4;have hwl:(S.an cs (j:Int)).length<=8:=by rw[mX];exact hcs.l
  by_cases c:Gm<y
  ·have ham:S.aF W j=j:=by
    cases j with
    | zero=>rfl
    | succ j =>
     rw[if_neg (by omega),Nat.add_sub_cancel] at hG;rw[S.aF,hy,Option.getD_some,<-hG,if_pos c]
   simp only[dt,sz,simprocAttr,sf,h1,h4,h7,h8,b2,b4,ru,z1,z2,ci,c];refine Hu (l:=S.an cs (j:Int)) (P:=λi=>g3.nx+2<=i/\i<g4.nx) (k:=0) (by simpa using hu5) (λi hi=>by simp;omega) (by omega) λu' g6 o6 fr6 l6=>?_;simp only[sy] at o6 fr6 l6;have f7:∀i,i<g5.nx->g6.h.get i=g5.h.get i:=λi hi=>by have:=fr6.2 i (by simp;omega);simpa using this
   have n6:g5.nx+1<=g6.nx:=by have:=fr6.1;simp at this;omega
   have oA6:Own g6 0 (.hsl A 0 0 (S.nc cs) none) 1 (W.map ci):=oA.fr (by omega) λi hi=>f7 i (by have:=oA.lt hi;omega);obtain ⟨vc,vt⟩:=o6.cell;simp only[sz,simprocAttr,sf,h4,h7,h8,f7 p (by omega),f7 g2.nx (by omega),f7 (g2.nx+1) (by omega),b2,b4,b5,oA6.rows,z1,z2,ci,vc,vt,show ¬g2.nx+1=g2.nx by omega];refine ⟨?_,?_⟩
   ·simp only[List.reverse_cons,List.reverse_nil,List.nil_append,List.cons_append];refine aV [false,true,false,false,false,false,true,true] [(1,2),(1,3),(1,4),(1,5),(2,6),(3,6),(4,6),(5,6)] (by simp[All2,an,aD,py,ck]) (by decide) ?_;rintro p' hp' x y' hx hy';simp only[List.mem_cons,List.not_mem_nil,or_false] at hp';have hl6:∀i∈g6.lg,g5.nx<i:=λi hi=>by have:=l6 i hi;simp at this;omega
    have a5:A<g5.nx:=by omega
    have ir:ak (mP 1 (.hsl A 0 0 (S.nc cs) none) j 0)=[A]:=by rw[DW rfl];rfl
    have p5:p<g5.nx:=by omega
    have fresh:∀y:Foot,y.wr=[]->y.lk.big=false->(∀i∈y.lk.rd,i<g5.nx)->y.lk.sr=[]->∀x:Foot,x.wr=g6.lg->bz x y=true:=λy h1 h2 h3 h4 x h5=>Cr (b:=g5.nx) (λi hi=>by rw[h5] at hi;exact Nat.le_of_lt (hl6 i hi)) h1 h2 h3 h4;rcases hp' with rfl | rfl | rfl | rfl | rfl | rfl | rfl | rfl<;>(simp at hx hy';subst hx;subst hy')
    ·exact fresh _ rfl rfl (by simp[an,kA,p5]) rfl _ rfl
    ·exact fresh _ rfl rfl (by simp[aD]) rfl _ rfl
    ·exact fresh _ rfl rfl (by simp[an,zp,a5]) rfl _ rfl
    ·exact fresh _ rfl rfl (by simp[an,ir,a5]) rfl _ rfl
    all_goals (refine eh rfl rfl rfl rfl ?_ ?_ ?_<;>simp[an,aD,kA,zp,ir]<;>omega)
   have e1:∀i,i<g5.nx->i≠g2.nx->i≠g2.nx+1->(if i=g2.nx+1 then AObj.cells 1 [[AV.int .i64 y]] 0 false false else if i=g2.nx then .cells 1 [[u']] 0 false false else g6.h.get i)=g5.h.get i:=λi h1 h2 h3=>by rw[if_neg h3,if_neg h2,f7 i h1]
   refine ⟨by simp<;>omega,λi h1 h2=>?_,.inl ⟨rfl,⟨lo,?_⟩,?_,?_,?_,u',?_,.inr ?_⟩⟩
   ·simpa [H.get_put] using e1 i h2 (by omega) (by omega)
   ·simpa [H.get_put,b1] using e1 A (by omega) (by omega) (by omega)
   ·simp[H.get_put,show ¬p=g2.nx+1 by omega,show ¬p=g2.nx by omega]
   ·simpa [H.get_put,b3] using e1 dm (by omega) (by omega) (by omega)
   ·simp[ham,hy]
   ·simp
   ·rw[ham];refine Own.fr (g:=g6) ?_ (by simp<;>omega) λi hi=>?_
    ·rcases o6 with h | ⟨id,ep,lo6,h1,h2⟩
     ·exact .inl h
     ·exact .inr ⟨id,ep,lo6,by omega,h2⟩
    ·have:=o6.lt hi;simp[H.get_put,show ¬i=g2.nx+1 by omega,show ¬i=g2.nx by omega]
  ·have ham:S.aF W j=S.aF W (j - 1)/\j≠0:=by
    cases j with
    | zero=>rw[if_pos rfl] at hG;omega
    | succ j =>
     rw[if_neg (by omega),Nat.add_sub_cancel] at hG;rw[S.aF,hy,Option.getD_some,<-hG,if_neg c];exact ⟨rfl,by omega⟩
   simp only[dt,sz,simprocAttr,sf,h1,h4,h7,h8,b2,b4,ru,z1,z2,ci,c];refine ⟨Nat.le_refl _,λ_ _ _=>rfl,.inl ⟨rfl,⟨lo,b1⟩,b3,?_,u0,b5,.inr ?_⟩⟩
   ·rw[ham.1,hG,if_neg ham.2]
   ·rw[ham.1];rcases a6 with h | h
    ·exact absurd h ham.2
    ·exact h.fr (by omega) λi hi=>by have:=h.lt hi;exact f5 i (by omega)
 ·rintro g' ⟨⟨lo,a1⟩,a2,a3,a4,u,a5,a6⟩ hn hdf;rw[if_neg (by omega)] at a4;have o7:Own g' (g3.nx+3) u 1 ((S.an cs (S.aF W (S.nc cs - 1):Int)).map ci):=a6.elim (λh=>by omega) id;simp only[sz,simprocAttr,gE,h7,h8,a4,a5];show vY C0 (d+1) _ _ [.mark g3.nx,.mark dm] g' _;refine EH hdf a3 (by omega) ?_;simp only[sz,simprocAttr];have o8:Own ((g'.put g3.nx (.dfr false)).put dm (.dfr false)) (g3.nx+3) u 1 ((S.an cs (S.aF W (S.nc cs - 1):Int)).map ci):=o7.fr (by simp) λi hi=>by have:=o7.lt hi;simp[H.get_put,show ¬i=g3.nx by omega,show ¬i=dm by omega]
  exact ⟨λ_=>True,_,_,rfl,o8.ints (by rw[mX];have:=hcs.l;omega),aF.2 rfl⟩
theorem Kq {d:Nat}{g:G}{x y:Nat}(hd:0<d)(hx:x<=4611686018427387903)(hy0:0<y)(hy:y<=4611686018427387903) :
  ap C0 d N.aV [.int .i64 (x:Int),.int .i64 (y:Int)] g=.val (.agg [.int .i64 (S.aH x y).1,.int .i64 (S.aH x y).2]):=by
 have key:∃r,ap C0 d N.aV [.int .i64 (x:Int),.int .i64 (y:Int)] g=.val r/\Agg (S.aH x y) NoP 0 .nil r:=by
  obtain ⟨q0,q1,q2,q3⟩:=AK (x:=x) hy0;rw[vQ];refine aW yF (xs:=[.int .i64 (x:Int),.int .i64 (y:Int)]) (by simp only[aH,dy 0]) (by simp[nZ]) (dj _) (by decide) hd ?_;have hm:max (x:Int) (-(x:Int))=(x:Int):=by omega
  simp only[sz,simprocAttr,nZ,qO,GG (show x<9223372036854775808 by omega),hm];refine fO (λb t df g=>df=[]/\∃a:Nat,St t [(0,.int .i64 (x:Int)),(1,.int .i64 (y:Int)),(4,.hptr 0 0 0 0),(5,.int .i64 (a:Int)),(6,.int .i64 (b:Int))]/\Nat.gcd a b=Nat.gcd x y/\a<9223372036854775808/\b<=y/\g.h.get 0=.cells 2 [[.int .i64 0,.int .i64 0]] 0 false false/\g.nx=1) y
   ⟨rfl,x,by simp[St,sx],rfl,by omega,Nat.le_refl _,by simp[H.get_put,show G.empty.nx=0 from rfl],by simp[show G.empty.nx=0 from rfl]⟩ ?_
  rintro b t df g ⟨rfl,a,⟨h0,h1,h4,h5,h6,-⟩,hgc,ha,hby,g0,gn⟩
  by_cases hb:b=0
  ·subst hb;rw[Nat.gcd_zero_right] at hgc;subst hgc;have fw:dV [.int .i64 0,.int .i64 0] [((0,1),.int .i64 ((x / Nat.gcd x y:Nat):Int)),((1,1),.int .i64 ((y / Nat.gcd x y:Nat):Int))]=some [.int .i64 ((x / Nat.gcd x y:Nat):Int),.int .i64 ((y / Nat.gcd x y:Nat):Int)]:=rfl;simp only[jQ,px,sz,simprocAttr,sf,h0,h1,h4,h5,h6,qm (show x<9223372036854775808 by omega) q0,qm (show y<9223372036854775808 by omega) q0,fw,g0];refine ⟨?_,⟨λ_=>True,q9.2 rfl⟩⟩;simp only[List.reverse_cons,List.reverse_nil,List.nil_append,List.cons_append];exact aV [false,false,false,false,false,false,false,true] [] (by simp[All2,an,aD]) (by decide) (by simp)
  ·have hb':¬(b:Int)=0:=by omega
   have hlt:=Nat.mod_lt a (Nat.pos_of_ne_zero hb);simp only[jQ,sz,simprocAttr,h5,h6,hb',u7 (x:=a) (Nat.pos_of_ne_zero hb)];refine ⟨a % b,hlt,b,?_,?_,by omega,by omega,g0,gn⟩
   ·simp[St,sx,h0,h1,h4,h5,h6]
   ·rw[<-hgc,Nat.gcd_comm a b,Nat.gcd_comm b (a % b),<-Nat.gcd_rec]
 obtain ⟨r,hr,hc⟩:=key;rw[hr,q9.1 hc]
def S.aS (n:Net)(e vars:List Int):Int:=if S.aR n e vars=0 then (if S.aT n e=0 then 7 else 0) else S.aR n e vars
def S.bm (n:Net)(e vars:List Int):List Int:=if S.aS n e vars=0 then S.bi n e vars else []
def S.bz (n:Net)(e vars:List Int):QI:=if S.aS n e vars=0 then S.aH (S.bH n e vars).toNat (S.aT n e).toNat else (0,0)
def Hi (n:Net)(e vars:List Int):VS:=Oz (One (S.bm n e vars)) (Agg (S.bz n e vars)) (One (S.aS n e vars))
theorem Mz (n:Net)(e vars:List Int):Snb (Hi n e vars) 2:=KW (m:=2) (aR _) (dj _) (aR _) (by decide) (by decide) (by decide)
theorem HY {n:Net}{e vars:List Int}{r:AV}(h:Hi n e vars NoP 0 .nil r):∃a,r=.tup [a,.agg [.int .i64 (S.bz n e vars).1,.int .i64 (S.bz n e vars).2],.int .i64 (S.aS n e vars)]/\SlR NoP 0 .nil (S.bm n e vars) a:=by obtain ⟨a,b,c,rfl,⟨a',ha',ha⟩,hb,hc⟩:=h;injection ha' with ha';subst ha';have hc:=aF.1 hc;injection hc with hc;rw[q9.1 hb,hc];exact ⟨_,rfl,ha⟩
theorem Dj {n:Net}{e vars:List Int}{P:Nat->Prop}{h:H}{E:Int}(hE:S.aS n e vars=E)(h0:E≠0):Hi n e vars P 0 h (.tup [.nils,.agg [.int .i64 0,.int .i64 0],.int .i64 E]):=by
 have hL:S.bm n e vars=[]:=by rw[S.bm,if_neg (by rw[hE];exact h0)]
 have hQ:S.bz n e vars=(0,0):=by rw[S.bz,if_neg (by rw[hE];exact h0)]
 unfold Hi;rw[hL,hQ,hE];exact ⟨_,_,_,rfl,⟨.nils,rfl,by simp,rfl⟩,q9.2 rfl,aF.2 rfl⟩
theorem wD {n:Net}(hr:NR n)(e vars:List Int):0<=S.bH n e vars/\S.bH n e vars<=171992678400000000:=by
 have hw:=hr.wl.2.1;unfold S.bH
 by_cases c:S.bC n e vars<(S.af (S.ae (S.aa n) vars)).toNat
 ·rw[lG c];exact qr hr hw
 ·rw[List.getElem?_eq_none (by rw[gQ];omega)];decide
theorem MO {d k1 k2:Nat}{P1 P2:Nat->Prop}{g:G}{n:Net}{e vars:List Int}{v w u:AV}(hd:0<d)(hm:Agg n NoP 0 g.h v)(he:SlR P1 k1 g.h e w)(hv:SlR P2 k2 g.h vars u)(hk2:k2<=d) :
  ∃r,ap C0 d N.aY [v,w,u] g=.val r/\Hi n e vars NoP 0 .nil r:=by
 obtain ⟨b,rows,rfl,e1,hm',hN,r1,r2,r3,r4⟩:=kw d hm;obtain ⟨w',e2,hw'⟩:=bG he d;obtain ⟨u',e3,hu'⟩:=bG hv d;rw[vH];refine aW yw (xs:=[.agg [.int .i64 n.grain,b],w',u']) (by simp only[aH,e1,e2,e3]) (by simp[nL]) (Mz n e vars) (by decide) hd ?_;have fw0:dV [.int .i64 0,.int .i64 0] []=some [.int .i64 0,.int .i64 0]:=rfl;simp only[sz,simprocAttr,nL,qC];refine bH (BZ (n:=n) (e:=e) (vars:=vars) (kv:=max k2 d) (by omega) (hm' _) (hw' _) (hu' _)) λr hns=>?_;rcases Ka hns with ⟨c,p,rfl,hp⟩ | ⟨c,rfl⟩
 ·obtain ⟨⟨hr,hev⟩,hpl⟩:=D6.1 c
  by_cases c2:S.aT n e=0
  ·have hE:S.aS n e vars=7:=by rw[S.aS,if_pos c,if_pos c2]
   have hp0:=hp;obtain ⟨t0,bb,vw,ow,ww,rfl,-⟩:=hp0;simp only[sz,simprocAttr,jl,cC,ba,c2,fw0];exact ⟨λ_=>True,Dj hE (by decide)⟩
  ·have hE:S.aS n e vars=0:=by rw[S.aS,if_pos c,if_neg c2]
   have hp0:=hp;obtain ⟨t0,bb,vw,ow,ww,rfl,-⟩:=hp0;simp only[sz,simprocAttr,jl,cC,ba,c2];refine bH (Ln (Nat.lt_succ_of_le (Nat.max_le.2 ⟨hk2,Nat.le_refl d⟩)) hr hp hpl) ?_;rintro r ⟨a,c',rfl,⟨a',ha',ha⟩,hc'⟩;injection ha' with ha';subst ha';have hc':=aF.1 hc';injection hc' with hc';subst hc';have hb:=wD hr e vars;have hm0:=wK hr e;obtain ⟨bw,hbw⟩:=Int.eq_ofNat_of_zero_le hb.1;obtain ⟨ms,hms⟩:=Int.eq_ofNat_of_zero_le hm0.1;have hQ:S.bz n e vars=S.aH bw ms:=by rw[S.bz,if_pos hE,hbw,hms];rfl
   have hL:S.bm n e vars=S.bi n e vars:=by rw[S.bm,if_pos hE]
   have kr:=λg=>Kq (d:=d+1) (g:=g) (x:=bw) (y:=ms) (by omega) (by omega) (by omega) (by omega);obtain ⟨ac,at'⟩:=ha.cell;simp only[sz,simprocAttr,jl,cC,ba,hbw,hms,kr,ac,at'];refine ⟨λ_=>True,?_⟩;unfold Hi;rw[hL,hQ,hE];exact ⟨_,_,_,rfl,⟨_,rfl,ha.wide (Nat.le_refl 0)⟩,q9.2 rfl,aF.2 rfl⟩
 ·have hE:S.aS n e vars=S.aR n e vars:=by rw[S.aS,if_neg c]
  simp only[sz,simprocAttr,c,fw0];exact ⟨λ_=>True,Dj hE c⟩
theorem nu {l:List Int}{n:Int}{i:Nat}:S.a9 l n i=true↔0<=l[i]?.getD 0/\l[i]?.getD 0<n/\(i=0\/l[i - 1]?.getD 0<l[i]?.getD 0):=by simp[S.a9,and_assoc]
theorem DI {l:List Int}{n m:Int}(h:S.aw l n=true)(hn:n<=m):S.aw l m=true:=by refine List.all_eq_true.2 λi hi=>?_;have:=nu.1 (List.all_eq_true.1 h i hi);exact nu.2 ⟨this.1,by omega,this.2.2⟩
theorem DM {l:List Int}{j:Nat}(h:S.aw l (j:Int)=true):S.aw (l++[(j:Int)]) ((j+1:Nat):Int)=true:=by
 refine List.all_eq_true.2 λi hi=>?_;have hi:=List.mem_range.1 hi;rw[List.length_append,List.length_singleton] at hi;rw[nu]
 by_cases c:i<l.length
 ·have:=nu.1 (List.all_eq_true.1 h i (List.mem_range.2 c));rw[List.getElem?_append_left c,List.getElem?_append_left (by omega)];exact ⟨this.1,by omega,this.2.2⟩
 ·have e:i=l.length:=by omega
  subst e;rw[List.getElem?_append_right (Nat.le_refl _),Nat.sub_self,List.getElem?_cons_zero,Option.getD_some];refine ⟨by omega,by omega,?_⟩
  by_cases c0:l.length=0
  ·exact .inl c0
  ·right;rw[List.getElem?_append_left (by omega),List.getElem?_eq_getElem (by omega),Option.getD_some];exact (bm h _ (List.getElem_mem _)).2
def Ow (m:Nat):VS:=λP k h v=>∃l:List Int,S.aw l (m:Int)=true/\Ox l P k h v
theorem MA (m:Nat):Snb (Ow m) 0:=lF λl=>KU l
theorem J_ {d m:Nat}{s:UInt8}{g:G}(hd:0<d)(hm:m<=8):∃r,ap C0 d N.bC [u8v s,.int .i64 (m:Int)] g=.val r/\Ow m NoP 0 .nil r:=by
 rw[vO];refine aW yD (xs:=[u8v s,.int .i64 (m:Int)]) (by simp only[aH,u8v,dy]) (by simp[nX]) (MA m) (by decide) hd ?_;simp only[sz,simprocAttr,nX,po,pp];refine gY m (by omega) (λj t df g=>df=[]/\St t [(0,u8v s),(1,.int .i64 (m:Int))]/\∃l:List Int,S.aw l (j:Int)=true/\Own g 0 (tat t 5) 1 (l.map ci)) ⟨rfl,by simp[St,sx],[],by decide,.inl ⟨by simp[sx],rfl⟩⟩ (by simp[sx]) (by decide)
  (by rintro i t df g v s (rfl | rfl | rfl) ⟨a1,⟨b1,b2,-⟩,c1⟩<;>exact ⟨a1,by simp[St,sx,b1,b2],by simpa [sx] using c1⟩) ?_ ?_ ?_
 ·rintro j t df g hj ⟨rfl,⟨h0,h1,-⟩,l,hl,ho⟩ h6
  by_cases c:j<m
  ·have c1:(j:Int)<(m:Int):=by omega
   have c2:(j:Int)<8:=by omega
   simp only[sz,simprocAttr,h0,h1,h6,c1,c2];exact ⟨by simp[St,sx,h0,h1],l,hl,ho⟩
  ·have c1:¬(j:Int)<(m:Int):=by omega
   simp only[sz,simprocAttr,h0,h1,h6,c1];exact ⟨by simp[St,sx,h0,h1],l,hl,ho⟩
 ·rintro j t df g hj ⟨rfl,⟨h0,h1,-⟩,l,hl,ho⟩ h6;obtain ⟨z1,hz1⟩:=vA s.toNat j;obtain ⟨z2,hz2⟩:=vz z1 1;have hz2':cE .and (.int .u8 (z1:Int)) (.int .u8 1)=.val (.int .u8 z2):=hz2;have w1:IntKind.wrap .u64 (j:Int)=(j:Int):=vg (by omega) (by omega);have hll:=bV hl (by omega)
  by_cases c:z2=1
  ·simp only[sz,simprocAttr,h0,h6,u8v,w1,hz1,hz2',c];refine br (ho.fr (g':=_) (by simp<;>omega) (λi hi=>?_)) (new:=[[.int .i64 (j:Int)]]) ?_ (by simp<;>omega) (by simp[aP]<;>omega) λv5 g5 o5 n5 f5 w5 _=>?_
   ·have:=ho.lt hi;simp[H.get_put];omega
   ·simp[ah,H.get_put];rfl
   simp only[sz,simprocAttr];refine ⟨⟨by simp[St,sx,h0,h1,u8v],_,DM hl,?_⟩,by simp[sx,h6]⟩;simpa [sx,ci] using o5
  ·simp only[sz,simprocAttr,h0,h6,u8v,w1,hz1,hz2',c];exact ⟨by simp[St,sx,h0,h1,u8v],l,DI hl (by omega),ho⟩
 ·rintro t df g ⟨rfl,-,l,hl,ho⟩;have hll:=bV hl (by omega);simp only[kB,sz,simprocAttr,pq];refine ⟨λ_=>True,l,hl,ho.sl (α:=Int) (by omega) (All2.of_map (λa=>aF.2 rfl) _) λ_ _=>trivial,?_⟩;rcases ho with ⟨h,-⟩ | ⟨id,ep,lo,-,-,h,-⟩<;>(rw[h];intro _ _ _ e;cases e)
theorem O4 (a b:AV):fI (.cells 2 [[a,b]] 0 false false) 0 0 false 1 1=.val b:=rfl
theorem O5 (a b:AV):fI (.cells 2 [[a,b]] 0 false false) 0 0 true 2 0=.val (.agg [a,b]):=rfl
theorem FF (g:G):ap C0 1 N.bI [] g=.val (.bool true):=by kernel_rfl
theorem NA (a b:Int):z9 true (.flat [.int .i64,.int .i64]) (.agg [.int .i64 a,.int .i64 b]) (.agg [.int .i64 a,.int .i64 b])=.val (.bool false):=by
 have ha:C_ a a=true:=by rw[qa];simp
 have hb:C_ b b=true:=by rw[qa];simp
 simp only[z9,eqA,dA,dX,nD,ha,hb]
 rfl
theorem Bp (W:List Int):∀j i,i<=j->W[i]?.getD 0<=W[S.aF W j]?.getD 0/\(i<S.aF W j->W[i]?.getD 0<W[S.aF W j]?.getD 0)
 | 0,i,hi=>by
  have:i=0:=by omega
  subst this;exact ⟨Int.le_refl _,λh=>by rw[S.aF] at h;omega⟩
 | j+1,i,hi=>by
  have hle:=Em W j;rw[S.aF]
  by_cases c:W[S.aF W j]?.getD 0<W[j+1]?.getD 0
  ·rw[if_pos c]
   by_cases e:i=j+1
   ·subst e;exact ⟨Int.le_refl _,λh=>by omega⟩
   ·have:=(Bp W j i (by omega)).1;exact ⟨by omega,λ_=>by omega⟩
  ·rw[if_neg c]
   by_cases e:i=j+1
   ·subst e;exact ⟨by omega,λh=>by omega⟩
   ·exact Bp W j i (by omega)
theorem OD (a b c:AV):fI (.cells 3 [[a,b,c]] 0 false false) 0 0 false 1 1=.val b:=rfl
theorem NJ (a b c:AV):fI (.cells 3 [[a,b,c]] 0 false false) 0 0 false 1 2=.val c:=rfl
def LGr (p5 p9 p11:Nat)(vw bw:AV)(al:Int):List (Nat×AV):=[(5,.hptr p5 0 0 0),(7,vw),(8,bw),(9,.hptr p9 0 0 0),(11,.hptr p11 0 0 0),(13,.int .i64 al)]
theorem OE {p5 p9 p11:Nat}{n:Net}{vars bv:List Int}{vw bw b7 va ca wa:AV}{al:Int}{Q:QT}{t:T}{g:G}(hr:NR n)(hN:SlR NoP 0 .nil n.nodes b7)(hv:SlR NoP 0 .nil vars vw)(hp:S.aw vars (n.nodes.length:Int)=true)(hb:SlR NoP 0 .nil bv bw)(hca:SlR NoP 0 .nil (S.ae (S.aa n) vars) ca)(hin:InC (S.ae (S.aa n) vars) bv)
  (g5:g.h.get p5=.cells 2 [[.int .i64 n.grain,b7]] 0 false false) (g11:g.h.get p11=.cells 3 [[va,ca,wa]] 0 false false)
  (ht:St t ((91,bw)::LGr p5 p9 p11 vw bw al)) (h15:tat t 15=.int .i64 0) (h93:tat t 93=.int .i64 0) (h92:tat t 92=.int .i64 (bv.length:Int))
  (fin:∀t,St t ((15,.int .i64 (S.ah (S.ae (S.aa n) vars) bv))::LGr p5 p9 p11 vw bw al)->Q (.exit 0) t [] g):wpL (wp C0 1 none cL) Q t [] g:=by
 have hl8:=hr.l2;have hpl:=bV hp (by omega);have rv:=λh=>(hv.tree (h':=h) (Nat.le_refl _)).ints;have rb:=λh=>(hb.tree (h':=h) (Nat.le_refl _)).ints;have rc:=λh=>(hca.tree (h':=h) (Nat.le_refl _)).ints;have hlp:(S.ae (S.aa n) vars).length=vars.length:=by simp[S.ae]
 have hll:=hin.len;have hpb:=aM (ps:=vars) hr.cs (λp hpm=>by rw[aA];exact bm hp p hpm);simp only[cL];refine aK (m:=bv.length) (by omega) (λj t df g'=>df=[]/\g'=g/\St t ((15,.int .i64 (S.ah ((S.ae (S.aa n) vars).take j) (bv.take j)))::(91,bw)::LGr p5 p9 p11 vw bw al)) ⟨rfl,rfl,?_⟩ h93 h92 (by decide) ?_ ?_ ?_
 ·obtain ⟨b0,b1,b2,b3,b4,b5,b6,-⟩:=ht;simp[St,LGr,b0,b1,b2,b3,b4,b5,b6,h15,S.ah]
 ·rintro j t df g v s (rfl | rfl | rfl) ⟨a1,a2,⟨b0,b1,b2,b3,b4,b5,b6,b7,-⟩⟩<;>exact ⟨a1,a2,by simp[St,LGr,sx,b0,b1,b2,b3,b4,b5,b6,b7]⟩
 ·clear ht h15 h93 h92;rintro j t df g' hj ⟨rfl,rfl,h15,h91,h5,h7,h8,h9,h11,h13,-⟩ h93 h92;obtain ⟨x,hx,hxt,-⟩:=ae hj;obtain ⟨p,hpx,-,hpm⟩:=ae (l:=vars) (j:=j) (by omega);obtain ⟨p0,p1⟩:=bm hp p hpm;obtain ⟨pn,y,rows,pa,ra,rfl,hy,r1,r2,r3,r4,hym,r5⟩:=xB hN p0 p1;have z1:j<(bv.map ci).length:=by simpa using hj
  have z2:(bv.map ci)[j]?=some (ci x):=by rw[List.getElem?_map,hx];rfl
  have y1:j<(vars.map ci).length:=by rw[List.length_map];omega
  have y2:(vars.map ci)[j]?=some (ci (pn:Int)):=by rw[List.getElem?_map,hpx];rfl
  have hcj:(S.ae (S.aa n) vars)[j]?=some y.card:=by simp[S.ae,hpx,r5]
  have c1':j<((S.ae (S.aa n) vars).map ci).length:=by rw[List.length_map];omega
  have c2':((S.ae (S.aa n) vars).map ci)[j]?=some (ci y.card):=by rw[List.getElem?_map,hcj];rfl
  obtain ⟨x',hx',hx0,hx1⟩:=hin.get hcj;rw[xy hx' hx] at hx0 hx1;have c1:(S.ae (S.aa n) vars).take (j+1)=(S.ae (S.aa n) vars).take j++[y.card]:=by rw[List.take_succ_eq_append_getElem (by omega)];congr 2;rw[List.getElem?_eq_getElem (by omega)] at hcj;injection hcj
  have hsn:S.ah ((S.ae (S.aa n) vars).take (j+1)) (bv.take (j+1))=S.ah ((S.ae (S.aa n) vars).take j) (bv.take j)*y.card+x:=by rw[c1,hxt];exact uL (by simp;omega)
  have i1:=bE (λc h=>hpb c (List.mem_of_mem_take h)) (hin.take j);have i2:=bE (λc h=>hpb c (List.mem_of_mem_take h)) (hin.take (j+1));have q1:=bN hpb (by omega) j;have q2:=bN hpb (by omega) (j+1);rw[hsn] at i2 ⊢;have hyc:=hr.card y hym;obtain ⟨A,hA⟩:∃A,A=S.ah ((S.ae (S.aa n) vars).take j) (bv.take j):=⟨_,rfl⟩;rw[<-hA] at h15 i1 i2 ⊢;have hm0:0<=A*y.card:=Int.mul_nonneg i1.1 (by omega);have hm1:A*y.card<=65536*4:=Int.mul_le_mul (by omega) (by omega) (by omega) (by omega);have w1:IntKind.wrap .i64 (A*y.card)=A*y.card:=aq (by omega) (by omega);have w2:IntKind.wrap .i64 (A*y.card+x)=A*y.card+x:=aq (by omega) (by omega);have d1:¬x<0:=by omega
  have d2:¬y.card<=x:=by omega
  simp only[sz,simprocAttr,h91,h93,rb,z1,z2,ci,h5,h7,h11,g5,g11,O4,OD,rc,c1',c2',rv,y1,y2,r1,r2,r3,r4,d1,d2,h15,w1,w2];simp[St,LGr,sx,h91,h92,h93,h5,h7,h8,h9,h11,h13]
 ·rintro t df g' ⟨rfl,rfl,⟨h15,-,ht⟩⟩;rw[List.take_of_length_le (by omega),List.take_of_length_le (by omega)] at h15;exact fin t ⟨h15,ht⟩
theorem OF {p5 p9 p11 at':Nat}{W:List Int}{vw bw va ca wa:AV}{al:Int}{Q:QT}{t:T}{g:G}(hW:SlR NoP 0 .nil W wa)(hat:at'<W.length)(hmx:∀i,i<W.length->W[i]?.getD 0<=W[at']?.getD 0/\(i<at'->W[i]?.getD 0<W[at']?.getD 0))
  (g11:g.h.get p11=.cells 3 [[va,ca,wa]] 0 false false)
  (ht:St t ((153,wa)::(15,.int .i64 (at':Int))::LGr p5 p9 p11 vw bw al)) (h155:tat t 155=.int .i64 0) (h154:tat t 154=.int .i64 (W.length:Int))
  (fin:∀t,Q (.exit 2) t [] g):wpL (wp C0 1 none cM) Q t [] g:=by
 have rw':=λh=>(hW.tree (h':=h) (Nat.le_refl _)).ints;have hWl:=hW.1;obtain ⟨m,hm,-,-⟩:=ae hat;have m1:at'<(W.map ci).length:=by simpa using hat
 have m2:(W.map ci)[at']?=some (ci m):=by rw[List.getElem?_map,hm];rfl
 simp only[cM];refine aK (m:=W.length) (by omega) (λj t df g'=>df=[]/\g'=g/\St t ((153,wa)::(15,.int .i64 (at':Int))::LGr p5 p9 p11 vw bw al)) ⟨rfl,rfl,ht⟩ h155 h154 (by decide) ?_ ?_ ?_
 ·rintro j t df g v s (rfl | rfl | rfl) ⟨a1,a2,⟨b0,b1,b2,b3,b4,b5,b6,b7,-⟩⟩<;>exact ⟨a1,a2,by simp[St,LGr,sx,b0,b1,b2,b3,b4,b5,b6,b7]⟩
 ·clear ht h155 h154;rintro j t df g' hj ⟨rfl,rfl,h153,h15,h5,h7,h8,h9,h11,h13,-⟩ h155 h154;obtain ⟨x,hx,-,-⟩:=ae hj;have z1:j<(W.map ci).length:=by simpa using hj
  have z2:(W.map ci)[j]?=some (ci x):=by rw[List.getElem?_map,hx];rfl
  obtain ⟨k1,k2⟩:=hmx j hj;rw[hx,hm,Option.getD_some,Option.getD_some] at k1 k2;have d1:¬m<x:=by omega
  by_cases d2:x=m
  ·subst d2;have d3:¬(j:Int)<(at':Int):=λh=>by have:=k2 (by omega);omega
   simp only[sz,simprocAttr,h153,h155,rw',z1,z2,ci,h11,g11,NJ,h15,m1,m2,d1,d3];simp[St,LGr,sx,h153,h154,h155,h15,h5,h7,h8,h9,h11,h13]
  ·simp only[sz,simprocAttr,h153,h155,rw',z1,z2,ci,h11,g11,NJ,h15,m1,m2,d1,d2];simp[St,LGr,sx,h153,h154,h155,h15,h5,h7,h8,h9,h11,h13]
 ·rintro t df g' ⟨rfl,rfl,-⟩;exact fin t
theorem q7 {x:vo}{u1 ew ow:AV}{vs:List UInt8}{s:UInt8}{E O:List Int}(hx:Agg x NoP 0 .nil u1)
  (hv:vs.length=9) (hE:SlR NoP 0 .nil E ew) (hEr:Raw ew) (hO:SlR NoP 0 .nil O ow) (hOr:Raw ow) :
  ∃g',(I C0).call 1 N.bG [u1,.agg (vs.map u8v++[u8v s,ew,ow])] G.empty=.ok (.bool true) g':=by
 obtain ⟨xs,rfl,qx⟩:=hx;obtain ⟨a1',a2',e1,-⟩:=A5.1 qx;have hxl:xs.length=3:=by rw[e1];rfl
 clear e1 a1' a2';obtain ⟨AA,hAA⟩:∃AA,AA=vs.map u8v++[u8v s,ew,ow]:=⟨_,rfl⟩;have hAl:AA.length=12:=by rw[hAA];simp[hv]
 have ldA:fI (.cells 12 [AA] 0 false false) 0 0 true 9 0=.val (.agg (vs.map u8v)):=by
  rw[hAA]
  match vs,hv with
  | [v0,v1,v2,v3,v4,v5,v6,v7,v8],_=>rfl
 have ldS:fI (.cells 12 [AA] 0 false false) 0 0 false 1 9=.val (u8v s):=by
  rw[hAA]
  match vs,hv with
  | [v0,v1,v2,v3,v4,v5,v6,v7,v8],_=>rfl
 rw[<-hAA];have key:=sO (C:=C0) (d:=1) (f:=N.bG) («as»:=[.agg xs,.agg AA]) (g:=G.empty) (K:=λv g'=>v=.bool true) nI (by simp[dH]) ?_
 ·cases hc:(I C0).call 1 N.bG [.agg xs,.agg AA] G.empty with
  | fail=>rw[hc] at key;exact key.elim
  | ok v g'=>rw[hc] at key;exact ⟨g',by rw[show v=.bool true from key]⟩
 simp only[sz,simprocAttr,dH];obtain ⟨g0,hg0⟩:∃g0,g0=(G.empty.new (AObj.cells xs.length [xs] 0 false false)).new (AObj.cells AA.length [AA] 0 false false):=⟨_,rfl⟩;rw[<-hg0];have f0:g0.h.get 0=.cells 3 [xs] 0 false false:=by rw[hg0,hxl];simp[sx,H.get_put]
 have f1:g0.h.get 1=.cells 12 [AA] 0 false false:=by rw[hg0,hAl];simp[sx,H.get_put]
 have f4:g0.nx=2:=by rw[hg0];simp[sx]
 clear hg0;have ld0:fI (.cells 3 [xs] 0 false false) 0 0 true 3 0=.val (.agg xs):=by
  match xs,hxl with
  | [a,b,c],_=>rfl
 simp only[sz,simprocAttr,gg,FF,f0,ld0];refine bH (LG (by decide) (Bl (P:=NoP) qx _)) ?_;rintro r ⟨n,hd0,cn,rfl,hcn⟩;obtain ⟨b,rfl,hN⟩:=ib.1 hcn;have hm:∀h,Agg n NoP 0 h (.agg [.int .i64 n.grain,b]):=λh=>Bl hcn h;have lN:=(hN.tree (h':=.nil) (Nat.le_refl 0)).len;have hn5:=hd0.l;have hr:=hd0.nr;have hcard:∀x∈n.nodes,0<x.card:=λx hx=>by rcases hd0.c x hx with h | h<;>omega
 simp only[sz,simprocAttr,f1,ldA,H.get_put,f4,show ¬1=2 by omega];refine bH (JW (m:=n) (by decide) hv (Bl (P:=NoP) hcn _) (by omega) hcard) ?_;rintro z ⟨ev,hev,hz⟩;have hz:SlR NoP 0 .nil ev z:=IT.sl (k:=0) hz .nil;simp only[sz,simprocAttr,f1,ldA,ldS,lN,H.get_put,f4,show ¬1=2 by omega];refine bH (J_ (m:=n.nodes.length) (by decide) (by omega)) ?_;rintro y ⟨vars,hvp,hy1,hy2⟩;have hvl:vars.length<=8:=by have:(vars.length:Int)<=_:=bV hvp (by omega);omega
 have hse:S.aR n ev vars=0:=D6.2 ⟨⟨hr,hev⟩,hvp⟩;have hrf:S.ay n ev=0:=iH.2 ⟨dw.2 hr,hev⟩;have hjE:S.bk n ev vars=0:=by rw[S.bk,if_pos hrf,if_pos hvp]
 have hjt:S.bu n ev vars=⟨vars,S.ae (S.aa n) vars,S.aA n ev vars (S.am n)⟩:=by rw[S.bu,if_pos hjE]
 have hjm:S.bE n ev=S.aT n ev:=by rw[S.bE,if_pos hrf]
 simp only[sz,simprocAttr,H.get_put,f4];refine bH (MO (n:=n) (e:=ev) (vars:=vars) (by decide) (hm _) (hz.tree (Nat.le_refl 0)) (hy1.tree (Nat.le_refl 0)) (by decide)) λr hr1=>?_;obtain ⟨x1,rfl,hx1⟩:=HY hr1;simp only[sz,simprocAttr,H.get_put,f4];refine bH (HW (n:=n) (e:=ev) (vars:=vars) (by decide) (hm _) (hz.tree (Nat.le_refl 0)) (hy1.tree (Nat.le_refl 0))) ?_;rintro r ⟨tf,te,rfl,⟨tc,rfl,htc⟩,hte⟩;have hte:=aF.1 hte;injection hte with hte;subst hte;rw[hjt] at htc;obtain ⟨va,ca,wa,rfl,hva,hca,hwa⟩:=iI.1 htc;rw[hjE];simp only[sz,simprocAttr,H.get_put,f4];have kM:=λg:G=>JO (d:=1) (g:=g) (P:=NoP) (k0:=0) (by decide) (hm g.h) (hz.tree (h':=g.h) (Nat.le_refl 0));rw[hrf,hjm] at kM;have lx:=hx1.len;have ly:=hy1.len;have lca:=hca.len;have lwa:=hwa.len;have hlp:(S.ae (S.aa n) vars).length=vars.length:=by simp[S.ae]
 rw[hlp] at lca
 by_cases c0:S.aT n ev=0
 ·have hE':S.aS n ev vars=7:=by rw[S.aS,if_pos hse,if_pos c0]
  have hL:S.bm n ev vars=[]:=by rw[S.bm,if_neg (by rw[hE'];decide)]
  rw[hL] at lx;simp only[sz,simprocAttr,kM,hE',c0,lx,List.length_nil]
 have hE':S.aS n ev vars=0:=by rw[S.aS,if_pos hse,if_neg c0]
 have hL:S.bm n ev vars=S.bi n ev vars:=by rw[S.bm,if_pos hE']
 have hpb:=aM (ps:=vars) hr.cs (λp hpm=>by rw[aA];exact bm hvp p hpm);have hcs:CsOk (S.ae (S.aa n) vars):=⟨hpb,by omega⟩;have hbin:InC (S.ae (S.aa n) vars) (S.bi n ev vars):=ea (λc hc=>(hpb c hc).1) _;have hbl:(S.bi n ev vars).length=vars.length:=by rw[S.bi,mX,hlp]
 have hlt:S.bC n ev vars<S.nc (S.ae (S.aa n) vars):=by have h1:=Em (S.aA n ev vars (S.am n)) (S.nc (S.ae (S.aa n) vars) - 1);have h2:=hcs.nc.1;unfold S.bC;omega
 have hidx:S.ah (S.ae (S.aa n) vars) (S.bi n ev vars)=(S.bC n ev vars:Int):=yO hcs _ hlt;obtain ⟨W,hW⟩:∃W,W=S.aA n ev vars (S.am n):=⟨_,rfl⟩;have hwa:SlR NoP 0 .nil W wa:=by rw[hW];exact hwa
 have lwa:∀g:G,dv .slice wa g=.val (.int .i64 (W.length:Int)):=λg=>hwa.len g;have hWl:W.length=S.nc (S.ae (S.aa n) vars):=by rw[hW,gQ];rfl
 obtain ⟨I,hI⟩:∃I,I=S.bC n ev vars:=⟨_,rfl⟩;rw[<-hI] at hidx hlt;have hmx:∀i,i<W.length->W[i]?.getD 0<=W[I]?.getD 0/\(i<I->W[i]?.getD 0<W[I]?.getD 0):=λi hi=>by have:=Bp W (S.nc (S.ae (S.aa n) vars) - 1) i (by omega);rw[hI,S.bC,<-hW];exact this
 have hbw:S.bH n ev vars=W[I]?.getD 0:=by rw[hI,hW];rfl
 have hb:=wD hr ev vars;have hm0:=wK hr ev;obtain ⟨bw,hbw'⟩:=Int.eq_ofNat_of_zero_le hb.1;obtain ⟨ms,hms⟩:=Int.eq_ofNat_of_zero_le hm0.1;have hQ:S.bz n ev vars=S.aH bw ms:=by rw[S.bz,if_pos hE',hbw',hms];rfl
 have c1:¬(ms:Int)<1:=by omega
 have c2:¬(W.length:Int)<=(I:Int):=by omega
 have kO:=λg:G=>NZ (d:=1) (g:=g) (x:=bw) (y:=ms) (by decide) (by omega) (by omega) (by omega);have m1:I<(W.map ci).length:=by rw[List.length_map];omega
 have m2:(W.map ci)[I]?=some (ci (bw:Int)):=by rw[List.getElem?_map,List.getElem?_eq_getElem (by omega)];rw[List.getElem?_eq_getElem (by omega),Option.getD_some] at hbw;rw[<-hbw,hbw'];rfl
 have rw':=λh=>(hwa.tree (h':=h) (Nat.le_refl _)).ints;rw[hL] at hx1 lx;rw[hbl] at lx;rw[hms] at kM;rw[hQ,hE'];simp only[sz,simprocAttr,kM,lx,ly,lca,H.get_put,f4,OD,c1];obtain ⟨G,hG⟩:∃G,G=(((((g0.new (.cells 2 [[.int .i64 0,.nils]] 0 false false)).put 2 (.cells 2 [[.int .i64 n.grain,b]] 0 false false)).new (.cells 2 [[.int .i64 0,.int .i64 0]] 0 false false)).put 3 (.cells 2 [[.int .i64 (S.aH bw ms).1,.int .i64 (S.aH bw ms).2]] 0 false false)).new (.cells 3 [[.nils,.nils,.nils]] 0 false false)).put 4 (.cells 3 [[va,ca,wa]] 0 false false):=⟨_,rfl⟩;have g2:G.h.get 2=.cells 2 [[.int .i64 n.grain,b]] 0 false false:=by rw[hG];simp[H.get_put,f4]
 have g3:G.h.get 3=.cells 2 [[.int .i64 (S.aH bw ms).1,.int .i64 (S.aH bw ms).2]] 0 false false:=by rw[hG];simp[H.get_put,f4]
 have g4:G.h.get 4=.cells 3 [[va,ca,wa]] 0 false false:=by rw[hG];simp[H.get_put,f4]
 rw[<-hG];clear hG;refine OE (p5:=2) (p9:=3) (p11:=4) (al:=(ms:Int)) (n:=n) (vars:=vars) (bv:=S.bi n ev vars) (b7:=b) (va:=va) (wa:=wa) hr hN hy1 hvp hx1 hca hbin g2 g4 (by simp[St,LGr,sx]) (by simp[sx]) (by simp[sx]) (by simp[sx,hbl]) ?_;rintro t ⟨h15,h5,h7,h8,h9,h11,h13,-⟩;rw[hidx] at h15;simp only[sz,simprocAttr,fq,h15,h11,h9,h13,g3,g4,NJ,O5,lwa,c2,rw',m1,m2,ci,kO,NA];refine OF (p5:=2) (p9:=3) (p11:=4) (at':=I) (W:=W) (vw:=y) (bw:=x1) (al:=(ms:Int)) hwa (by omega) hmx g4 (by simp[St,LGr,sx,h5,h7,h8,h9,h11,h13,h15]) (by simp[sx]) (by simp[sx]) λt=>?_;simp only[sz,simprocAttr,fm]
end
end Hx
end
section
namespace Hx
open Go Go.RowKit Go.ChangeShapes Go.WideShapes
def tN (P:Program):List Field->Nat->Option Nat
 | [],k=>some k
 | f::fs,k=>if f.offset=k then tN P fs (k+P.cellsOf f.type) else none
def ue (P:Program):Nat->TypeId->Bool
 | 0,_=>false
 | n+1,t=>match P.underlying t with
  | some .bool=>true
  | some (.int _)=>true
  | some (.slice e)=>decide (0<P.cellsOf e)&&ue P n e
  | some (.struct fs)=>(tN P fs.toList 0 == some (P.cellsOf t))&&fs.toList.all (λf=>ue P n f.type)
  | some (.array m e)=>decide (m*P.cellsOf e=P.cellsOf t)&&ue P n e
  | _=>false
def Sh (P:Program):Nat->TypeId->List AV->Prop
 | 0,_,_=>False
 | n+1,t,xs=>match P.underlying t with
  | some .bool=>∃b,xs=[.bool b]
  | some (.int k)=>∃z,xs=[.int k z]/\(Lit.int k z).wf=true
  | some (.slice e)=>xs=[.nils]\/∃rows,xs=[.tsl 0 (P.cellsOf e) rows]/\rows.length<9223372036854775808/\∀row∈rows,Sh P n e row
  | some (.struct fs)=>∃xss,xs=xss.flatten/\All2 (λ(f:Field) ys=>Sh P n f.type ys) fs.toList xss
  | some (.array m e)=>∃xss:List (List AV),xs=xss.flatten/\xss.length=m/\∀ys∈xss,Sh P n e ys
  | _=>False
def Cn (P:Program)(w:World)(n:Nat)(t:TypeId)(xs:List AV)(cs:List Value):Prop :=
 RVs0 w xs cs/\(∀y∈xs,y.one=true/\Closed y)/\Sh P n t xs
theorem RVs0.append {w:World}{xs ys:List AV}{cs ds:List Value}(h:RVs0 w xs cs)(h':RVs0 w ys ds):RVs0 w (xs++ys) (cs++ds):=by
 refine ⟨by rw[List.length_append,List.length_append,h.1,h'.1],λi x v hx hv=>?_⟩;rcases Nat.lt_or_ge i xs.length with hi | hi
 ·rw[List.getElem?_append_left hi] at hx;rw[List.getElem?_append_left (by rw[<-h.1];exact hi)] at hv;exact h.2 i x v hx hv
 ·rw[List.getElem?_append_right hi] at hx;rw[List.getElem?_append_right (by rw[<-h.1];exact hi),<-h.1] at hv;exact h'.2 _ x v hx hv
theorem FN (b o n:Nat):(⟨b,o,none⟩:Addr).add n=adr b (o+n):=by
 unfold Addr.add
 split
 ·rename_i h;subst h;rfl
 ·rfl
variable {H:Type}{enc:TypeId×Value->H}{P:Program}{w:World}
theorem Ay:∀{fl:List Field} {k K:Nat},tN P fl k=some K->k<=K
 | [],k,K,h=>by injection h with h;omega
 | f::fl,k,K,h=>by
  unfold tN at h
  split at h
  ·have:=Ay h;omega
  ·cases h
theorem Kn {n:Nat}{cs:List Value}:∀{fl:List Field} {k K:Nat},tN P fl k=some K ->
  (∀f∈fl,∃xs,Cn P w n f.type xs ((cs.drop f.offset).take (P.cellsOf f.type))) ->
  ∃xss,All2 (λ(f:Field) ys=>Sh P n f.type ys) fl xss/\RVs0 w xss.flatten ((cs.drop k).take (K - k))/\∀y∈xss.flatten,y.one=true/\Closed y
 | [],k,K,h,_=>by injection h with h;subst h;exact ⟨[],trivial,by rw[Nat.sub_self,List.take_zero];exact ⟨rfl,λi x v hx=>by simp at hx⟩,λy hy=>by simp at hy⟩
 | f::fl,k,K,h,hg=>by
  unfold tN at h
  split at h
  ·rename_i ho;subst ho;obtain ⟨xs,h1,h2,h3⟩:=hg f (by simp);obtain ⟨xss,a1,a2,a3⟩:=Kn h λf' hf'=>hg f' (by simp[hf']);have hle:=Ay h;refine ⟨xs::xss,⟨h3,a1⟩,?_,λy hy=>?_⟩
   ·have e:(cs.drop f.offset).take (K - f.offset)=(cs.drop f.offset).take (P.cellsOf f.type)++(cs.drop (f.offset+P.cellsOf f.type)).take (K - (f.offset+P.cellsOf f.type)):=by rw[show K - f.offset=P.cellsOf f.type+(K - (f.offset+P.cellsOf f.type)) by omega,List.take_add,List.drop_drop]
    rw[e,List.flatten_cons];exact h1.append a2
   ·rw[List.flatten_cons,List.mem_append] at hy;rcases hy with hy | hy
    ·exact h2 y hy
    ·exact a3 y hy
  ·cases h
theorem FO {n:Nat}{e:TypeId}{cs:List Value}:∀{m k:Nat},
  (∀i,i<m->∃xs,Cn P w n e xs ((cs.drop ((k+i)*P.cellsOf e)).take (P.cellsOf e))) ->
  ∃xss:List (List AV),xss.length=m/\(∀ys∈xss,Sh P n e ys)/\RVs0 w xss.flatten ((cs.drop (k*P.cellsOf e)).take (m*P.cellsOf e))/\∀y∈xss.flatten,y.one=true/\Closed y
 | 0,k,_=>⟨[],rfl,λy hy=>by simp at hy,by rw[Nat.zero_mul,List.take_zero];exact ⟨rfl,λi x v hx=>by simp at hx⟩,λy hy=>by simp at hy⟩
 | m+1,k,hg=>by
  obtain ⟨xs,h1,h2,h3⟩:=hg 0 (by omega);rw[Nat.add_zero] at h1;obtain ⟨xss,a0,a1,a2,a3⟩:=FO (m:=m) (k:=k+1) λi hi=>by have:=hg (i+1) (by omega);rwa [show k+(i+1)=k+1+i by omega] at this
  refine ⟨xs::xss,by simp[a0],λys hy=>?_,?_,λy hy=>?_⟩
  ·rcases List.mem_cons.1 hy with rfl | hy
   ·exact h3
   ·exact a1 ys hy
  ·have e:(cs.drop (k*P.cellsOf e)).take ((m+1)*P.cellsOf e)=(cs.drop (k*P.cellsOf e)).take (P.cellsOf e)++(cs.drop ((k+1)*P.cellsOf e)).take (m*P.cellsOf e):=by rw[show (m+1)*P.cellsOf e=P.cellsOf e+m*P.cellsOf e by rw[Nat.add_mul];omega,List.take_add,List.drop_drop,Nat.add_mul,Nat.one_mul]
   rw[e,List.flatten_cons];exact h1.append a2
  ·rw[List.flatten_cons,List.mem_append] at hy;rcases hy with hy | hy
   ·exact h2 y hy
   ·exact a3 y hy
theorem JJ:∀(n:Nat) (t:TypeId),ue P n t=true->∀(fuel:Nat) (cs:List Value) (x:DataW H×List MemPlace),DataW.trod enc P w 0 (λ_=>true) true fuel t cs=some x->∃xs,Cn P w n t xs cs:=by
 intro n
 induction n with
 | zero=>intro t h;simp[ue] at h
 | succ n ih =>
  intro t h fuel cs x hx;unfold ue at h
  split at h
  ·rename_i hu;obtain ⟨b,rfl,-⟩:=DataW.trod_bool hu hx;refine ⟨[.bool b],⟨rfl,λi x v h1 h2=>?_⟩,λy hy=>?_,?_⟩
   ·cases i with
    | zero=>simp at h1 h2;subst h1;subst h2;exact .bool _ _
    | succ i=>simp at h1
   ·simp at hy;subst hy;exact ⟨rfl,.bool _⟩
   ·unfold Sh;rw[hu];exact ⟨b,rfl⟩
  ·rename_i k hu;obtain ⟨z,rfl,-,hwf⟩:=DataW.trod_int hu hx;refine ⟨[.int k z],⟨rfl,λi x v h1 h2=>?_⟩,λy hy=>?_,?_⟩
   ·cases i with
    | zero=>simp at h1 h2;subst h1;subst h2;exact .int _ _ _
    | succ i=>simp at h1
   ·simp at hy;subst hy;exact ⟨rfl,.int _ _⟩
   ·unfold Sh;rw[hu];exact ⟨z,rfl,hwf⟩
  ·rename_i e hu;rw[Bool.and_eq_true,decide_eq_true_eq] at h;obtain ⟨hpos,hp⟩:=h;rcases DataW.trod_slice hu hx with ⟨rfl,-⟩ | ⟨a,len,cap,elems,rest,m,-,rfl,-,-,hlc,hcm,hlen,hel,-,-⟩
   ·refine ⟨[.nils],⟨rfl,λi x v h1 h2=>?_⟩,λy hy=>?_,?_⟩
    ·cases i with
     | zero=>simp at h1 h2;subst h1;subst h2;exact .nils _
     | succ i=>simp at h1
    ·simp at hy;subst hy;exact ⟨rfl,.nils⟩
    ·unfold Sh;rw[hu];exact .inl rfl
   ·have each:∀i,i<len->∃xs vs,w.cells? 0 (a.add (i*P.cellsOf e)) (P.cellsOf e)=some vs/\Cn P w n e xs vs:=by intro i hi;have:=hel i hi;rw[List.getElem?_eq_getElem (show i<elems.length by omega),Option.bind_eq_some_iff] at this;obtain ⟨vs,h1,h2⟩:=this;obtain ⟨xs,hg⟩:=ih e hp _ _ _ h2;exact ⟨xs,vs,h1,hg⟩
    let rowf:Nat->List AV:=λi=>if hi:i<len then Classical.choose (each i hi) else []
    let valf:Nat->List Value:=λi=>if hi:i<len then Classical.choose (Classical.choose_spec (each i hi)) else []
    have hrow:∀i,i<len->w.cells? 0 (a.add (i*P.cellsOf e)) (P.cellsOf e)=some (valf i)/\Cn P w n e (rowf i) (valf i):=by intro i hi;have:=Classical.choose_spec (Classical.choose_spec (each i hi));simpa only[rowf,valf,dif_pos hi] using this
    have hget:∀(i:Nat) (row:List AV),((List.range len).map rowf)[i]?=some row->i<len/\row=rowf i:=by
     intro i row h1;rw[List.getElem?_map] at h1;rcases Nat.lt_or_ge i len with hi | hi
     ·rw[List.getElem?_range hi] at h1;injection h1 with h1;exact ⟨hi,h1.symm⟩
     ·rw[List.getElem?_eq_none (by simpa using hi)] at h1;cases h1
    refine ⟨[.tsl 0 (P.cellsOf e) ((List.range len).map rowf)],⟨rfl,λi x v h1 h2=>?_⟩,λy hy=>?_,?_⟩
    ·cases i with
     | succ i=>simp at h1
     | zero =>
      simp at h1 h2;subst h1;subst h2;rcases Nat.eq_zero_or_pos len with h0 | h0
      ·subst h0;exact .tnil 0 0 _ a cap (Nat.le_refl _)
      ·obtain ⟨b,o,spot⟩:=a;have hc0:=World.cells?_some (hrow 0 h0).1;have hv0:(valf 0)[0]?=some (valf 0)[0]:=List.getElem?_eq_getElem (by rw[hc0.2.1];exact hpos);have h00:=hc0.2.2 0 hpos;rw[hv0] at h00;have hspot:spot=none:=by simpa [Addr.add] using World.cell?_spot h00
       subst hspot;have cellat:∀i j row x,((List.range len).map rowf)[i]?=some row->row[j]?=some x->∃v,(valf i)[j]?=some v/\w.cell? (adr b (o+i*P.cellsOf e+j))=some v/\RV w gm0 av0 0 x v:=by
        intro i j row x hr hxj;obtain ⟨hi,rfl⟩:=hget i row hr;obtain ⟨q1,q2⟩:=hrow i hi;have hj:j<(rowf i).length:=(List.getElem?_eq_some_iff.1 hxj).1;have hj':j<(valf i).length:=by rw[<-q2.1.1];exact hj
        have hcs:=World.cells?_some q1;have hcell:=hcs.2.2 j (by rw[<-hcs.2.1];exact hj');rw[List.getElem?_eq_getElem hj'] at hcell;refine ⟨_,List.getElem?_eq_getElem hj',?_,q2.1.2 j x _ hxj (List.getElem?_eq_getElem hj')⟩;rw[FN,show adr b (o+i*P.cellsOf e)=(⟨b,o+i*P.cellsOf e,none⟩:Addr) from rfl,FN] at hcell;exact hcell
       have hb:b<w.heap.size:=by have:=EY h00;simpa [Addr.add] using this
       have hrl:((List.range len).map rowf).length=len:=by simp
       have key:=RV.tsl (w:=w) (γ:=gm0) (A:=av0) 0 0 (P.cellsOf e) ((List.range len).map rowf) b o cap (λi j=>(valf i)[j]?.getD undef) (Nat.le_refl _) (by rw[hrl];exact hlc) hb (OI b) (λh=>h)
        (λi row hr=>by
         obtain ⟨hi,rfl⟩:=hget i row hr;obtain ⟨q1,q2⟩:=hrow i hi;rw[q2.1.1,(World.cells?_some q1).2.1])
        (λi j row x hr hxj=>by
         obtain ⟨hi,rfl⟩:=hget i row hr;exact ((hrow i hi).2.2.1 x (List.mem_of_getElem? hxj)).1)
        (λi j row x hr hxj=>by
         obtain ⟨v,v1,v2,v3⟩:=cellat i j row x hr hxj;rw[v2,v1];rfl)
        (λi j row x hr hxj=>by
         obtain ⟨v,v1,v2,v3⟩:=cellat i j row x hr hxj;rw[v1];exact v3)
        (λrow hr x hx=>by
         obtain ⟨i,hi⟩:=List.getElem?_of_mem hr;obtain ⟨hi2,rfl⟩:=hget i row hi;exact ((hrow i hi2).2.2.1 x hx).2)
       rw[hrl] at key;exact key
    ·simp only[List.mem_singleton] at hy;subst hy;refine ⟨rfl,.tsl _ _ _ λrow hr x hx=>?_⟩;obtain ⟨i,hi⟩:=List.getElem?_of_mem hr;obtain ⟨hi2,rfl⟩:=hget i row hi;exact ((hrow i hi2).2.2.1 x hx).2
    ·unfold Sh;rw[hu];refine .inr ⟨_,rfl,?_,λrow hr=>?_⟩
     ·rw[List.length_map,List.length_range];have:maxLen<9223372036854775808:=by decide
      omega
     ·obtain ⟨i,hi⟩:=List.getElem?_of_mem hr;obtain ⟨hi2,rfl⟩:=hget i row hi;exact (hrow i hi2).2.2.2
  ·rename_i fs hu;rw[Bool.and_eq_true] at h;obtain ⟨hc,hp⟩:=h;have hc:tN P fs.toList 0=some (P.cellsOf t):=eq_of_beq hc;obtain ⟨ys,m,-,-,hl,hyl,hel⟩:=DataW.trod_struct hu hx;obtain ⟨xss,a1,a2,a3⟩:=Kn (w:=w) (n:=n) (cs:=cs) hc λf hf=>by
    obtain ⟨i,hi,e⟩:=List.mem_iff_getElem.1 hf;have hfi:fs[i]?=some f:=by rw[<-Array.getElem?_toList,List.getElem?_eq_getElem hi,e]
    have:=hel i f hfi;rw[List.getElem?_eq_getElem (show i<ys.length by rw[hyl];simpa using hi)] at this;exact ih f.type (List.all_eq_true.1 hp f hf) _ _ _ this
   rw[List.drop_zero,Nat.sub_zero,<-hl,List.take_length] at a2;refine ⟨xss.flatten,a2,a3,?_⟩;unfold Sh;rw[hu];exact ⟨xss,rfl,a1⟩
  ·rename_i m e hu;rw[Bool.and_eq_true,decide_eq_true_eq] at h;obtain ⟨hc,hp⟩:=h;obtain ⟨ys,q,-,-,hl,hyl,hel⟩:=DataW.trod_array hu hx;obtain ⟨xss,a0,a1,a2,a3⟩:=FO (w:=w) (n:=n) (e:=e) (cs:=cs) (m:=m) (k:=0) λi hi=>by have:=hel i hi;rw[List.getElem?_eq_getElem (show i<ys.length by omega)] at this;rw[Nat.zero_add];exact ih e hp _ _ _ this
   rw[Nat.zero_mul,List.drop_zero,hc,<-hl,List.take_length] at a2;refine ⟨xss.flatten,a2,a3,?_⟩;unfold Sh;rw[hu];exact ⟨xss,rfl,a0,a1⟩
  ·cases h
theorem N8 {n:Nat}{t:TypeId}{xs:List AV}(hu:P.underlying t=some (.int .i64))(h:Sh P n t xs):∃x:Int,Rp.rp NoP 0 .nil x xs:=by
 cases n with
 | zero=>exact h.elim
 | succ n =>
  unfold Sh at h;rw[hu] at h;obtain ⟨z,rfl,-⟩:=h;exact ⟨z,aF.2 rfl⟩
theorem mT {n:Nat}{t:TypeId}{xs:List AV}(hu:P.underlying t=some (.int .u8))(h:Sh P n t xs):∃x:UInt8,Rp.rp NoP 0 .nil x xs:=by
 cases n with
 | zero=>exact h.elim
 | succ n =>
  unfold Sh at h;rw[hu] at h;obtain ⟨z,rfl,hw⟩:=h;simp only[Lit.wf,IntKind.min,IntKind.max,IntKind.signed,IntKind.bits,Bool.and_eq_true] at hw;refine ⟨UInt8.ofNat z.toNat,gP.2 ?_⟩;have h1:0<=z:=by simpa using hw.1
  have h2:z<=255:=by simpa using hw.2
  have h3:(UInt8.ofNat z.toNat).toNat=z.toNat:=UInt8.toNat_ofNat_of_lt' (by show z.toNat<256;omega);rw[h3,Int.toNat_of_nonneg h1]
theorem xF {α:Type} [Rp α]{n:Nat}{t e:TypeId}{xs:List AV}(hu:P.underlying t=some (.slice e))(hsz:P.cellsOf e=Rp.sz α)(hel:∀ys,Sh P n e ys->∃y:α,Rp.rp NoP 0 .nil y ys)(h:Sh P (n+1) t xs) :
  ∃l:List α,Rp.rp NoP 0 .nil l xs:=by
 unfold Sh at h;rw[hu] at h;rcases h with rfl | ⟨rows,rfl,hl,hr⟩
 ·exact ⟨[],.nils,rfl,by simp,rfl⟩
 ·have:∀rows:List (List AV),(∀row∈rows,Sh P n e row)->∃l:List α,All2 (Rp.rp NoP 0 .nil) l rows:=by
   intro rows
   induction rows with
   | nil=>intro _;exact ⟨[],trivial⟩
   | cons r rows ih =>
    intro h;obtain ⟨y,hy⟩:=hel r (h r (by simp));obtain ⟨l,hl⟩:=ih λrow hrow=>h row (by simp[hrow]);exact ⟨y::l,hy,hl⟩
  obtain ⟨l,ha⟩:=this rows hr;exact ⟨l,_,rfl,by rw[ha.len];exact hl,Nat.le_refl _,.inl hsz,ha⟩
theorem KN {n m:Nat}{t e:TypeId}{xs:List AV}(hu:P.underlying t=some (.array m e))(h:Sh P (n+1) t xs):∃xss:List (List AV),xs=xss.flatten/\xss.length=m/\∀ys∈xss,Sh P n e ys:=by unfold Sh at h;rw[hu] at h;exact h
theorem sZ {n:Nat}{t:TypeId}{fs:Array Field}{xs:List AV}(hu:P.underlying t=some (.struct fs))(h:Sh P (n+1) t xs):∃xss,xs=xss.flatten/\All2 (λ(f:Field) ys=>Sh P n f.type ys) fs.toList xss:=by unfold Sh at h;rw[hu] at h;exact h
end Hx
end
