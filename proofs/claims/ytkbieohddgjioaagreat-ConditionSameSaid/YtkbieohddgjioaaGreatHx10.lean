/- A part of the proof: what the functions of the chapter compute. -/
import Derived.Test.YtkbieohddgjioaaGreatHx9
set_option linter.all false
section
namespace Hx
open Go
noncomputable section
theorem ql{g:G}{id m i:Nat}{x:Nat}{V:List Nat}{lo:Bool}(h:g.h.get id=.cells 1 (V.map cu) 0 lo false)(hi:i<V.length):kW 1 (jV 1 (.hsl id 0 0 m none) i 0) (.int .u64 (x:Int)) g=.upd .undef (g.put id (.cells 1 ((V.set i x).map cu) 0 lo false)):=by obtain⟨-,hr⟩:=lr hi;simp only[jV,SU];exact (qV (n:=1) (off:=0) (ep:=0) h hr rfl rfl rfl (row':=cu x) rfl).trans (by rw[TQ])
def mi(ev lv:AV)(pq iv ia m:Nat):List (Nat×AV):=[(1,ev),(2,lv),(9,.hptr pq 0 0 0),(10,.hsl iv 0 0 m none),(11,.hsl ia 0 0 m none)]
set_option maxRecDepth 20000 in
theorem Rr{d k iv ia pq i:Nat}{n:Net}{e fam:List Int}{V:List Nat}{ev lv fv ll:AV}{m:Nat}{Q:QT}{t:T}{g:G}(hfm:∀p∈fam,0<=p/\p<(n.nodes.length:Int))(hfl:fam.length<=9)(hn8:n.nodes.length<=8)(he:∀h,SlR NoP k h e ev)(hel:e.length=n.nodes.length)
  (hV:g.h.get iv=VG 1 (V.map cu)) (hm:m=V.length) (hi:i<V.length) (hFv:∀g':G,(∀j,j≠iv->g'.h.get j=g.h.get j)->ak g'.h 1 fv=some (fam.map ci)) (hz:V[i]?.getD 0=0)
  (ht:St t (mi ev lv pq iv ia m)) (h12:tat t 12=.int .i64 (i:Int)) (h82:tat t 82=fv) (h83:tat t 83=.int .i64 (fam.length:Int)) (h84:tat t 84=.int .i64 0) (h44:tat t 44=ll) (h45:tat t 45=.int .i64 (m:Int)) (h46:tat t 46=.int .i64 (i:Int))
  (fin:∀t g',St t (mi ev lv pq iv ia m)->tat t 44=ll->tat t 45=.int .i64 (m:Int)->tat t 46=.int .i64 (i:Int)->g'.h.get iv=VG 1 ((V.set i (S.aU e fam)).map cu)->(∀j,j≠iv->g'.h.get j=g.h.get j)->g.nx<=g'.nx->(∀j∈g'.lg,j∈g.lg\/j=iv)->Q (.exit 2) t [] g') :
  wpL (wp C0 d none dK) Q t [] g:=by
 have re:=λh=>(he h).ints;have key:∀l:List Int,(∀p∈l,0<=p/\p<(n.nodes.length:Int))->S.aU e l<256:=λl hl=>by
  have:S.aU e l<2 ^ 8:=Cw λu hu=>by obtain⟨p,h1,h2,-⟩:=(yv (λp hp=>by have:=hl p hp;omega) u).1 hu;have:=hl p h1;omega
  exact this
 have hset0:V.set i 0=V:=by
  refine Ur λj=>?_;rw[S8]
  by_cases c:i=j
  ·subst c;rw[Sb rfl,Sb hi,R4 hi];rw[R4 hi,Se]at hz;rw[hz]
  ·rw[Sa c]
 simp only[dK,iq];refine aK (m:=fam.length) (by omega) (λj t df g'=>df=[]/\St t ((12,.int .i64 (i:Int))::(82,fv)::(44,ll)::(45,.int .i64 (m:Int))::(46,.int .i64 (i:Int))::mi ev lv pq iv ia m)/\g'.h.get iv=VG 1 ((V.set i (S.aU e (fam.take j))).map cu)/\(∀j,j≠iv->g'.h.get j=g.h.get j)/\g.nx<=g'.nx/\(∀j∈g'.lg,j∈g.lg\/j=iv))
  ⟨rfl,⟨h12,h82,h44,h45,h46,ht⟩,by simpa [S.aU,hset0] using hV,λ_ _=>rfl,R5 _,λ_ h=>.inl h⟩ h84 h83 (by decide)
  (by rintro j t df g v s (rfl|rfl|rfl) ⟨rfl,⟨a1,a2,a3,a4,a5,a6,a7,a8,a9,a10,-⟩,r⟩<;>exact⟨rfl,by simp[St,mi,sx,a1,a2,a3,a4,a5,a6,a7,a8,a9,a10],r⟩) ?_ ?_
 ·clear ht h12 h82 h83 h84 h44 h45 h46;rintro j t df g1 hj ⟨rfl,⟨h12,h82,h44,h45,h46,h1,h2,h9,h10,h11,-⟩,hv,hf,hn,hlg⟩ h84 h83;obtain⟨p,hp,hpt,hpm⟩:=an hj;obtain⟨p0,p1⟩:=hfm p hpm;obtain⟨v,rfl⟩:=R8 p0;have rf:=hFv g1 hf;have a1:j<(fam.map ci).length:=by simpa using hj
  have a2:(fam.map ci)[j]?=some (ci (v:Int)):=by rw[R_,hp];rfl
  obtain⟨b1,b2⟩:=Hh (l:=e) (i:=v) (by omega);have k1:=key (fam.take j) λq hq=>hfm q (SM hq);have e1:=Bm e (fam.take j) (v:Int);rw[<-hpt,Sx]at e1;have rv:=cU (sz:=1) (m:=m) hv (by simp[hm]);have hil:i<(V.set i (S.aU e (fam.take j))).length:=by simpa using hi
  obtain⟨c1,c2⟩:=lr hil;rw[Tu hi,Se]at c2
  by_cases c:e[v]?.getD 0 = -1
  ·rw[Sb c]at e1;have or1:=qq (S.aU e (fam.take j)) (S.aG v) (by omega) (oJ v);rw[<-e1]at or1;have sc:=λ(g':G) (h:g'.h.get iv=VG 1 ((V.set i (S.aU e (fam.take j))).map cu))=>ql (m:=m) (x:=S.aU e (fam.take (j+1))) h hil;simp only[sz,simprocAttr,sf,h1,h10,h12,h82,h84,rf,a1,a2,re,b1,b2,ci,c,rv,c1,c2,cu,i6,or1,sc,hv,List.set_set];refine⟨?_,?_⟩
   ·simp only[Si,Sl,Sf,Sd];exact aA [false,false,false,false,false,false,false,false,true] [] (by simp[All2,ac,ap]) (by decide) (by simp)
   ·refine⟨⟨by simp[St,mi,sx,h1,h2,h9,h10,h11,h12,h82,h44,h45,h46],λj hj=>by rw[Sa hj,hf j hj],by omega,λj hj=>?_⟩,h83⟩;simp at hj;rcases hj with rfl|hj
    ·exact .inr rfl
    ·exact hlg j hj
  ·rw[Sa c]at e1;rw[<-e1]at hv;simp only[sz,simprocAttr,sf,h1,h10,h12,h82,h84,rf,a1,a2,re,b1,b2,ci,c];exact⟨⟨by simp[St,mi,sx,h1,h2,h9,h10,h11,h12,h82,h44,h45,h46],hv,hf,hn,hlg⟩,h83⟩
 ·rintro t df g' ⟨rfl,⟨h12,h82,h44,h45,h46,ht⟩,hv,hf,hn,hlg⟩;rw[S1]at hv;exact fin t g' ht h44 h45 h46 hv hf hn hlg
set_option maxRecDepth 20000 in
theorem Rv{d i v iv ia pq B13:Nat}{n:Net}{gr size c:Int}{b lv vv cv xv ev ll:AV}{pm m:Nat}{x:Sp}{t:T}{g:G}(hr:NR n)(hnb:SlR NoP 0 .nil n.nodes b)(hv:v<n.nodes.length)(hq:g.h.get pq=srO gr size c b lv vv cv xv pm)(hB:g.h.get B13=VG 3 [cs3 ((v:Int),x.2.1,x.2.2)])(hlt:pq<g.nx/\B13<g.nx)
  (ht:St t (mi ev lv pq iv ia m)) (h12:tat t 12=.int .i64 (i:Int)) (h13:tat t 13=.hptr B13 0 0 0) (h44:tat t 44=ll) (h45:tat t 45=.int .i64 (m:Int)) (h46:tat t 46=.int .i64 (i:Int)) {Q:QT}
  (fin:∀t g' fv,St t (mi ev lv pq iv ia m)->tat t 12=.int .i64 (i:Int)->tat t 44=ll->tat t 45=.int .i64 (m:Int)->tat t 46=.int .i64 (i:Int)->tat t 82=fv->tat t 83=.int .i64 ((S.aK n v).length:Int)->tat t 84=.int .i64 0->Own g' g.nx fv 1 ((S.aK n v).map ci)->Fx (λ_=>False) g g'->Q .norm t [] g') :
  wp C0 d none (.feet [0,1,3,7,15,0,32,127,255,511,1023,0,2048,6144,16383,32767,0] [oM 68 9,VM 69 68,oF 70 0 69,oF 71 1 70,oL 72 71,oF 73 0 13,oL 74 73,VP 75 3 72 74,oF 76 1 75,oL 77 76,o 78 (.call N.aa [.t 77]),oF 79 0 13,oL 80 79,o 81 (.bsl 1 1 [.int .i64 0] [0] [.t 80]),o 82 (.app 1 8 (.t 78) (.t 81)),oN 83 82,oK 84 0]) Q t [] g:=by
 obtain⟨h1,h2,h9,h10,h11,-⟩:=ht;obtain⟨rows,r1,r2,r3,r4⟩:=hnb.all;have r1:∀h',ak h' 3 b=some rows:=r1;obtain⟨y,hy,-,hym⟩:=an hv;obtain⟨row,q1,q2⟩:=r3 v y hy;obtain⟨pa,ra,rfl,hpa,-⟩:=cK.1 q2;have hlt2:v<rows.length:=by omega
 have hry:=r4 (by omega);have hpl:=gH (hr.places y hym) (by omega);have hl8:=hr.l2;have hfl:S.aK n v=y.parents++[(v:Int)]:=by simp[S.aK,hy]
 simp only[sz,simprocAttr,sf,h9,h13,hB,cs3,hq,RP,bF,r1,hlt2,q1,hry];refine wX hpa (by omega) λu g1 hu hf hlg=>?_;have oU:=hu.own;have n1:g.nx+10<=g1.nx:=by have:=hf.1;simp at this;omega
 have f1:∀i,i<g.nx+10->g1.h.get i=g.h.get i:=λi hi=>by have:=hf.2 i (by simp;omega);simpa using this
 have l1:∀i∈g1.lg,g.nx+10<=i/\i<g1.nx:=λi hi=>by have:=hlg i hi;simp at this;omega
 have oU:Own g1 (g.nx+10) u 1 (y.parents.map ci):=by simpa using oU
 clear hf hlg hu;have b1':g1.h.get B13=VG 3 [[.int .i64 (v:Int),.int .i64 x.2.1,.int .i64 x.2.2]]:=by rw[f1 _ (by omega),hB];rfl
 simp only[sz,simprocAttr,sf,h13,b1',yu];refine nY (new:=[ci (v:Int)]) (oU.fr (by simp;omega) λi hi=>?_) (by simp[sx,sy,ci]) (by simp;omega) (by simp[aY];omega) λv2 g2 hv2 n2 f2 c2 l2=>?_
 ·have:=(oU.lt hi).2;simp[RW];omega
 simp only[sz,simprocAttr]at n2 f2 l2;have l2':∀i∈g2.lg,vid u=some i\/g1.nx+1+1+1+1+1<=i/\i<g2.nx:=λi hi=>by simpa using l2 i hi
 have vl:=hv2.sat_len;have rb:=hnb.refs;have rp1:∀i,ae (jV 3 b v i)=[]:=λi=>by rw[xL hry,rb]
 have rpa:=hpa.refs;have spa:=λh:H=>Ap (hpa.tree (h':=h) (R5 0));have pn:=hlt.1;simp only[sz,simprocAttr,sf,vl,eI];refine⟨?_,?_⟩
 ·simp only[Si,Sl,Sf,Sd];refine aA [false,false,false,false,false,false,false,false,false,false,true,false,false,true,true,false,false] [(0,13),(1,13),(2,13),(3,13),(4,13),(5,13),(6,13),(7,13),(8,13),(9,13),(10,13),(10,11),(10,12),(10,16),(13,16),(14,16)] (by simp[All2,ac,ap]) (by decide) ?_;intro p hp y z hx hy;simp only[Sq,Sk,Ui]at hp;rcases hp with rfl|rfl|rfl|rfl|rfl|rfl|rfl|rfl|rfl|rfl|rfl|rfl|rfl|rfl|rfl|rfl<;>(simp only[S3,TF,S9]at hx hy;subst hx;subst hy;refine bH rfl rfl rfl rfl ?_ ?_ ?_<;>simp[ac,ap,jq,qT,rb,rp1,rpa,spa])
  all_goals first|omega|exact λi hi=>by have:=l1 i hi;omega
 ·refine fin _ _ v2 (by simp[St,mi,sx,h1,h2,h9,h10,h11]) (by simp[sx,h12]) (by simp[sx,h44]) (by simp[sx,h45]) (by simp[sx,h46]) (by simp[sx]) (by simp[sx];rw[hfl];simp) (by simp[sx]) ?_ ⟨by simp;omega,λi hi _=>?_,λi hi=>?_⟩
  ·rw[hfl,TA];exact EG (hv2.fr (by simp;omega) λi hi=>by simp) (by omega)
  ·have h2:=f2 i (by omega) (λe=>by have:=oU.lt e;omega);rw[Sa (by omega)]at h2;simp[h2,f1 i (by omega)]
  ·simp at hi;rcases hi with hi|rfl|hi|hi
   ·rcases l2' i hi with h|h
    ·have:=oU.lt h;exact .inr (.inr (by omega))
    ·exact .inr (.inr (by omega))
   ·exact .inr (.inr (by omega))
   ·have:=l1 i hi;exact .inr (.inr (by omega))
   ·exact .inl hi
end
end Hx
end
section
namespace Hx
open Go
structure LEl (n:Net) (l:List Sp):Prop where
 j:∀i,i<l.length->(S.sp l i).1 = -1->0<=(S.sp l i).2.1/\(S.sp l i).2.1<(i:Int)/\0<=(S.sp l i).2.2/\(S.sp l i).2.2<(i:Int)
 f:∀i,i<l.length->(S.sp l i).1≠-1->0<=(S.sp l i).1/\(S.sp l i).1<(n.nodes.length:Int)
theorem jY(n:Net)(e:List Int)(l:List Sp):∀j,(S.aO n e l j).length=j
 |0=>rfl
 |j+1=>by rw[S.aO,SZ,jY n e l j];rfl
theorem GV{n:Net}{e:List Int}{l:List Sp}(hr:NR n)(hl:LEl n l):∀j,j<=l.length->∀x∈S.aO n e l j,x<2 ^ n.nodes.length
 |0,_,x,hx=>by simp[S.aO]at hx
 | j+1,hj,x,hx=>by
  have ih:=GV (e:=e) hr hl j (by omega);rw[S.aO,SG,SK]at hx;rcases hx with hx|rfl
  ·exact ih x hx
  ·split
   ·exact Ut (fR ih _) (fR ih _)
   ·rename_i c;have:=hl.f j (by omega) c;exact Hs hr (by omega) e
def S.aX(n:Net)(e:List Int)(l:List Sp)(j:Nat):List Nat:=S.aO n e l j++List.replicate (l.length - j) 0
theorem Pd{n:Net}{e:List Int}{l:List Sp}{j:Nat}(h:j<=l.length):(S.aX n e l j).length=l.length:=by rw[S.aX,SZ,jY,Vb];omega
theorem Pc{n:Net}{e:List Int}{l:List Sp}{j i:Nat}(h:i<j):(S.aX n e l j)[i]?.getD 0=(S.aO n e l j)[i]?.getD 0:=by rw[S.aX,So (by rw[jY];exact h)]
theorem Nl{n:Net}{e:List Int}{l:List Sp}{j:Nat}(h:j<l.length):(S.aX n e l j)[j]?.getD 0=0:=by rw[S.aX,Sj (by rw[jY];exact R5 _),jY,Th,UW,Sb (by omega)];rfl
theorem It{n:Net}{e:List Int}{l:List Sp}{j x:Nat}(h:j<l.length)(hx:S.aO n e l (j+1)=S.aO n e l j++[x]):(S.aX n e l j).set j x=S.aX n e l (j+1):=by
 have h1:l.length - j=(l.length - (j+1))+1:=by omega
 rw[S.aX,TE _ _ (by rw[jY];exact R5 _),jY,Th,h1,Ue,Uk,S.aX,hx,S7]
 rfl
noncomputable section
set_option maxRecDepth 20000 in
theorem Rs{d k iv ia pq:Nat}{n:Net}{gr size c:Int}{b lv vv cv xv ev:AV}{pm:Nat}{l:List Sp}{e:List Int}{Q:QT}{t:T}{g:G}(hr:NR n)(hnb:SlR NoP 0 .nil n.nodes b)(hsl:SlR NoP 0 .nil l lv)(hl:LEl n l)(hll:l.length<=15)(he:∀h,SlR NoP k h e ev)(hel:e.length=n.nodes.length)
  (hq:g.h.get pq=srO gr size c b lv vv cv xv pm) (hV:g.h.get iv=VG 1 ((List.replicate l.length 0).map cu)) (hn:pq<g.nx/\iv<g.nx/\pq≠iv)
  (ht:St t (mi ev lv pq iv ia l.length)) (h44:tat t 44=lv) (h45:tat t 45=.int .i64 (l.length:Int)) (h46:tat t 46=.int .i64 0)
  (fin:∀t g',St t (mi ev lv pq iv ia l.length)->g'.h.get iv=VG 1 ((S.vr n e l).map cu)->Fx (λi=>i=iv) g g'->Q (.exit 0) t [] g') :
  wpL (wp C0 d none dL) Q t [] g:=by
 have hl8:=hr.l2;have rl:=λh=>(hsl.tree (h':=h) (R5 0)).sps;simp only[dL,ir];refine aK (m:=l.length) (by omega) (λj t df g'=>df=[]/\St t ((44,lv)::mi ev lv pq iv ia l.length)/\g'.h.get iv=VG 1 ((S.aX n e l j).map cu)/\Fx (λi=>i=iv) g g')
  ⟨rfl,⟨h44,ht⟩,by simpa [S.aX,S.aO] using hV,Fx.refl _ _⟩ h46 h45 (by decide)
  (by rintro j t df g v s (rfl|rfl|rfl) ⟨rfl,⟨a1,a2,a3,a4,a5,a6,-⟩,r⟩<;>exact⟨rfl,by simp[St,mi,sx,a1,a2,a3,a4,a5,a6],r⟩) ?_ ?_
 ·clear ht h44 h45 h46;rintro i t df g1 hi ⟨rfl,⟨h44,h1,h2,h9,h10,h11,-⟩,hv,hF⟩ h46 h45;have hFn:=hF.nx;obtain⟨a1,a2⟩:=CV hi;obtain⟨⟨xa,xb,xc⟩,hsp⟩:∃x,S.sp l i=x:=⟨_,rfl⟩;rw[hsp]at a2;have hvl:=Pd (n:=n) (e:=e) (l:=l) (j:=i) (by omega);refine be (P:=λt' df g'=>df=[]/\g'.nx=g1.nx+1/\g'.h.get g1.nx=VG 3 [cs3 (xa,xb,xc)]/\Fx (λ_=>False) g1 g'/\St t' ((12,.int .i64 (i:Int))::(13,.hptr g1.nx 0 0 0)::(44,lv)::(45,.int .i64 (l.length:Int))::(46,.int .i64 (i:Int))::mi ev lv pq iv ia l.length)) ?_ ?_
  ·simp only[sz,simprocAttr,h44,h46,rl,a1,a2,cs3];exact⟨(Fx.new _ _ _).put (.inr (R5 _)) _,by simp[St,mi,sx,h1,h2,h9,h10,h11,h44,h45,h46]⟩
  clear h1 h2 h9 h10 h11 h44 h45 h46;rintro t df g2 ⟨rfl,k2,kB,F2,h12,h13,h44,h45,h46,h1,h2,h9,h10,h11,-⟩;have hv2:g2.h.get iv=VG 1 ((S.aX n e l i).map cu):=by rw[F2.fr _ (by omega) id,hv]
  have hF2:=hF.trans (F2.mono λ_ h=>h.elim);have hq2:g2.h.get pq=srO gr size c b lv vv cv xv pm:=by rw[hF2.fr pq hn.1 hn.2.2,hq]
  by_cases hx:xa = -1
  ·subst hx;obtain⟨y1,y2,y3,y4⟩:=hl.j i hi (by rw[hsp]);rw[hsp]at y1 y2 y3 y4;dsimp only at y1 y2 y3 y4;obtain⟨le,rfl⟩:=R8 y1;obtain⟨ri,rfl⟩:=R8 y3;have hb:=GV (e:=e) hr hl i (by omega);obtain⟨c1,c2⟩:=lr (l:=S.aX n e l i) (i:=le) (by omega);obtain⟨c3,c4⟩:=lr (l:=S.aX n e l i) (i:=ri) (by omega);rw[Pc (by omega)]at c2 c4;obtain⟨c5,-⟩:=lr (l:=S.aX n e l i) (i:=i) (by omega);have rv:=cU (sz:=1) (m:=l.length) hv2 (by simp[hvl]);have b1:=pD (fR hb le) hl8;have b2:=pD (fR hb ri) hl8;have or1:=qq ((S.aO n e l i)[le]?.getD 0) ((S.aO n e l i)[ri]?.getD 0) (by omega) (by omega);have sc:=λ(g':G) (h:g'.h.get iv=VG 1 ((S.aX n e l i).map cu))=>ql (m:=l.length) (x:=(S.aO n e l i)[le]?.getD 0 ||| (S.aO n e l i)[ri]?.getD 0) h (i:=i) (by omega);rw[It hi (by rw[S.aO,hsp,Sb rfl];rfl)]at sc;simp only[sz,simprocAttr,sf,h10,h12,h13,kB,cs3,rv,c1,c2,c3,c4,c5,cu,or1,sc,hv2];refine⟨?_,?_⟩
   ·simp only[Si,Sl,Sf,Sd];exact aA [false,false,false,false,false,false,false,false,false,false,false,false,false,false,true] [] (by simp[All2,ac,ap]) (by decide) (by simp)
   ·refine⟨⟨by simp[St,mi,sx,h1,h2,h9,h10,h11,h44],⟨by simp;omega,λj hj hp=>?_,λj hj=>?_⟩⟩,h46,h45⟩
    ·simp[RW,hp,hF2.fr j hj hp]
    ·simp at hj;rcases hj with rfl|hj
     ·exact .inr (.inl rfl)
     ·exact hF2.lg j hj
  ·obtain⟨y1,y2⟩:=hl.f i hi (by rw[hsp];exact hx);rw[hsp]at y1 y2;dsimp only at y1 y2;obtain⟨v,rfl⟩:=R8 y1;refine bI (P:=λt' df g'=>df=[]/\g'=g2/\St t' ((12,.int .i64 (i:Int))::(13,.hptr g1.nx 0 0 0)::(44,lv)::(45,.int .i64 (l.length:Int))::(46,.int .i64 (i:Int))::mi ev lv pq iv ia l.length)) ?_ ?_
   ·simp only[sz,simprocAttr,h13,kB,cs3,hx];simp[St,mi,sx,h1,h2,h9,h10,h11,h12,h13,h44,h45,h46]
   clear h1 h2 h9 h10 h11 h12 h13 h44 h45 h46;rintro t df g2 ⟨rfl,rfl,h12,h13,h44,h45,h46,ht⟩;refine bI (P:=λt' df g'=>df=[]/\∃fv,St t' (mi ev lv pq iv ia l.length)/\tat t' 12=.int .i64 (i:Int)/\tat t' 44=lv/\tat t' 45=.int .i64 (l.length:Int)/\tat t' 46=.int .i64 (i:Int)/\tat t' 82=fv/\tat t' 83=.int .i64 ((S.aK n v).length:Int)/\tat t' 84=.int .i64 0/\Own g' g2.nx fv 1 ((S.aK n v).map ci)/\Fx (λ_=>False) g2 g') ?_ ?_
   ·exact Rv (x:=((v:Int),xb,xc)) hr hnb (by omega) hq2 kB ⟨by have:=F2.nx;omega,by omega⟩ ht h12 h13 h44 h45 h46 λt g' fv a1 a2 a3 a4 a5 a6 a7 a8 a9 a10=>⟨rfl,rfl,fv,a1,a2,a3,a4,a5,a6,a7,a8,a9,a10⟩
   clear ht h12 h13 h44 h45 h46;rintro t df g3 ⟨rfl,fv,ht,h12,h44,h45,h46,h82,h83,h84,oF,F3⟩;have hv3:g3.h.get iv=VG 1 ((S.aX n e l i).map cu):=by rw[F3.fr _ (by omega) id,hv2]
   have F3n:=F3.nx;simp only[sz,simprocAttr];refine Rr (ev:=ev) (fv:=fv) (e:=e) (V:=S.aX n e l i) (m:=l.length) (ll:=lv) (i:=i) (oq hr (by omega)) (DU hr (by omega)) hl8 he hel hv3 hvl.symm (by omega) (λg' hg'=>(oF.fr (g':=⟨g'.h,g3.nx,[]⟩) (R5 _) λj hj=>hg' j (by have:=(oF.lt hj).1;omega)).rows) (Nl hi) ht h12 h82 h83 h84 h44 h45 h46 λt g4 ht h44 h45 h46 hv4 hf4 hn4 hl4=>?_;rw[It hi (by rw[S.aO,hsp,Sa hx,Sx];rfl)]at hv4;simp only[sz,simprocAttr];have F4:Fx (λi=>i=iv) g3 g4:=⟨hn4,λj _ hj=>hf4 j hj,λj hj=>(hl4 j hj).imp id .inl⟩;exact⟨⟨⟨h44,ht⟩,hv4,(hF2.trans (F3.mono λ_ h=>h.elim)).trans F4⟩,h46,h45⟩
 ·rintro t df g' ⟨rfl,⟨h44,ht⟩,hv,hF⟩;have:S.aX n e l l.length=S.vr n e l:=by simp[S.aX,S.vr]
  rw[this]at hv;exact fin t g' ht hv hF
end
end Hx
end
section
namespace Hx
open Go
structure NsOk (L m:Nat) (s:NsT):Prop where
 l1:s.1.length=L
 l2:s.2.1.length=L
 l3:s.2.2.length=L
 b1:∀x∈s.1,x<2 ^ m
 b2:∀x∈s.2.1,x<2 ^ m
 b3:∀x∈s.2.2,x<2 ^ m
theorem CP{V:List Nat}{m i x:Nat}(h:∀y∈V,y<2 ^ m)(hx:x<2 ^ m):∀y∈V.set i x,y<2 ^ m:=λy hy=>by
 rcases List.mem_or_eq_of_mem_set hy with h1|h1
 ·exact h y h1
 ·rw[h1];exact hx
theorem yp{a b m:Nat}(h:a<2 ^ m):a &&& b<2 ^ m:=Uy Nat.and_le_left h
theorem QB{l:List Sp}{vr:List Nat}{L m i:Nat}{s:NsT}(hv:∀x∈vr,x<2 ^ m)(h:NsOk L m s):NsOk L m (S.cq l vr i s):=by
 obtain⟨l1,l2,l3,b1,b2,b3⟩:=h;have h2:∀x∈s.2.1.set i (vr[i]?.getD 0 &&& s.2.2[i]?.getD 0),x<2 ^ m:=CP b2 (yp (fR hv i));unfold S.cq
 split
 ·have hd:S.an (vr[(S.sp l i).2.1.toNat]?.getD 0 &&& vr[(S.sp l i).2.2.toNat]?.getD 0) (s.2.2[i]?.getD 0)<2 ^ m:=Hm (yp (fR hv _));have ho:s.2.2[i]?.getD 0 ||| S.an (vr[(S.sp l i).2.1.toNat]?.getD 0 &&& vr[(S.sp l i).2.2.toNat]?.getD 0) (s.2.2[i]?.getD 0)<2 ^ m:=Ut (fR b3 _) hd;exact⟨by simp[l1],by simp[l2],by simp[l3],CP b1 hd,h2,CP (CP b3 ho) ho⟩
 ·exact⟨l1,by simp[l2],l3,b1,h2,b3⟩
theorem Gg{l:List Sp}{vr:List Nat}{m:Nat}(hv:∀x∈vr,x<2 ^ m):∀j,NsOk l.length m (S.aQ l vr j)
 | 0=>by
  have:∀x∈List.replicate l.length 0,x<2 ^ m:=λx hx=>by rw[List.eq_of_mem_replicate hx];exact Nat.two_pow_pos m
  exact⟨by simp[S.aQ],by simp[S.aQ],by simp[S.aQ],this,this,this⟩
 |j+1=>QB hv (Gg hv j)
noncomputable section
theorem Ko(m n:Nat)(h:m<256)(h':n<256):bU .andNot (.int .u64 (m:Int)) (.int .u64 (n:Int))=.val (.int .u64 (S.an m n:Int)):=yS m n (by omega) (by omega)
structure NsH (gr size c:Int) (b lv vv:AV) (pq pm iv ia pc px L:Nat) (vr:List Nat) (s:NsT) (g:G):Prop where
 q:g.h.get pq=srO gr size c b lv vv (.hsl pc 0 0 L none) (.hsl px 0 0 L none) pm
 v:g.h.get iv=VG 1 (vr.map cu)
 a:g.h.get ia=VG 1 (s.2.2.map cu)
 c:g.h.get pc=VG 1 (s.1.map cu)
 x:g.h.get px=VG 1 (s.2.1.map cu)
structure NsD (pq iv ia pc px B:Nat):Prop where
 n:pq<B/\iv<B/\ia<B/\pc<B/\px<B
 d1:pq≠iv/\pq≠ia/\pq≠pc/\pq≠px
 d2:iv≠ia/\iv≠pc/\iv≠px
 d3:ia≠pc/\ia≠px/\pc≠px
section
variable {gr size c:Int}{b lv vv:AV}{pq pm iv ia pc px L B:Nat}{vr:List Nat}{s:NsT}{g g':G}
theorem NsH.setX(hD:NsD pq iv ia pc px B)(h:NsH gr size c b lv vv pq pm iv ia pc px L vr s g){W:List Nat}(hf:∀j,j≠px->j<B->g'.h.get j=g.h.get j)(hx:g'.h.get px=VG 1 (W.map cu)):NsH gr size c b lv vv pq pm iv ia pc px L vr (s.1,W,s.2.2) g':=by obtain⟨⟨n1,n2,n3,n4,n5⟩,⟨d1,d2,d3,d4⟩,⟨d5,d6,d7⟩,d8,d9,d10⟩:=hD;exact⟨by rw[hf _ d4 n1,h.q],by rw[hf _ d7 n2,h.v],by rw[hf _ d9 n3,h.a],by rw[hf _ d10 n4,h.c],hx⟩
theorem RZ(hD:NsD pq iv ia pc px B)(h:NsH gr size c b lv vv pq pm iv ia pc px L vr s g){W:List Nat}(hf:∀j,j≠pc->j<B->g'.h.get j=g.h.get j)(hx:g'.h.get pc=VG 1 (W.map cu)):NsH gr size c b lv vv pq pm iv ia pc px L vr (W,s.2.1,s.2.2) g':=by obtain⟨⟨n1,n2,n3,n4,n5⟩,⟨d1,d2,d3,d4⟩,⟨d5,d6,d7⟩,d8,d9,d10⟩:=hD;exact⟨by rw[hf _ d3 n1,h.q],by rw[hf _ d6 n2,h.v],by rw[hf _ d8 n3,h.a],hx,by rw[hf _ (To d10) n5,h.x]⟩
theorem NsH.setA(hD:NsD pq iv ia pc px B)(h:NsH gr size c b lv vv pq pm iv ia pc px L vr s g){W:List Nat}(hf:∀j,j≠ia->j<B->g'.h.get j=g.h.get j)(hx:g'.h.get ia=VG 1 (W.map cu)):NsH gr size c b lv vv pq pm iv ia pc px L vr (s.1,s.2.1,W) g':=by obtain⟨⟨n1,n2,n3,n4,n5⟩,⟨d1,d2,d3,d4⟩,⟨d5,d6,d7⟩,d8,d9,d10⟩:=hD;exact⟨by rw[hf _ d2 n1,h.q],by rw[hf _ d5 n2,h.v],hx,by rw[hf _ (To d8) n4,h.c],by rw[hf _ (To d9) n5,h.x]⟩
theorem NsH.same(hD:NsD pq iv ia pc px B)(h:NsH gr size c b lv vv pq pm iv ia pc px L vr s g)(hf:∀j,j<B->g'.h.get j=g.h.get j):NsH gr size c b lv vv pq pm iv ia pc px L vr s g':=by obtain⟨⟨n1,n2,n3,n4,n5⟩,-,-,-⟩:=hD;exact⟨by rw[hf _ n1,h.q],by rw[hf _ n2,h.v],by rw[hf _ n3,h.a],by rw[hf _ n4,h.c],by rw[hf _ n5,h.x]⟩
end
def rK(lv:AV)(pq iv ia m:Nat):List (Nat×AV):=[(2,lv),(9,.hptr pq 0 0 0),(10,.hsl iv 0 0 m none),(11,.hsl ia 0 0 m none)]
theorem RQ(gr size c:Int)(b lv vv cv xv:AV)(pm:Nat):bK (srO gr size c b lv vv cv xv pm) 0 0 false 1 5=.val xv:=rfl
set_option maxHeartbeats 1000000 in
set_option maxRecDepth 20000 in
theorem Ru{d iv ia pq pc px pm mm:Nat}{gr size c:Int}{b lv vv:AV}{l:List Sp}{vr:List Nat}{n:Net}{Q:QT}{t:T}{g:G}(hsl:SlR NoP 0 .nil l lv)(hl:LEl n l)(hll:l.length<=15)(hm:mm<=8)(hvl:vr.length=l.length)(hvr:∀x∈vr,x<2 ^ mm)
  (hD:NsD pq iv ia pc px g.nx) (hH:NsH gr size c b lv vv pq pm iv ia pc px l.length vr (S.aQ l vr 0) g)
  (ht:St t (rK lv pq iv ia l.length)) (h16:tat t 16=.int .i64 ((l.length:Int) - 1))
  (fin:∀t g',St t (rK lv pq iv ia l.length)->NsH gr size c b lv vv pq pm iv ia pc px l.length vr (S.aQ l vr l.length) g'->Fx (λi=>i=ia\/i=pc\/i=px) g g'->Q (.exit 4) t [] g') :
  wpL (wp C0 d none dM) Q t [] g:=by
 have rl:=λh=>(hsl.tree (h':=h) (R5 0)).sps;have hD0:=hD;obtain⟨⟨n1,n2,n3,n4,n5⟩,⟨d1,d2,d3,d4⟩,⟨d5,d6,d7⟩,d8,d9,d10⟩:=hD;simp only[dM,it];refine Fk (m:=l.length) (by omega) (λj t df g'=>df=[]/\St t (rK lv pq iv ia l.length)/\NsH gr size c b lv vv pq pm iv ia pc px l.length vr (S.aQ l vr (l.length - j)) g'/\Fx (λi=>i=ia\/i=pc\/i=px) g g')
  ⟨rfl,ht,by rw[Th];exact hH,Fx.refl _ _⟩ h16 (by decide)
  (by rintro j t df g v s (rfl|rfl|rfl|rfl|rfl) ⟨rfl,⟨a1,a2,a3,a4,-⟩,r⟩<;>exact⟨rfl,by simp[St,rK,sx,a1,a2,a3,a4],r⟩) ?_ ?_
 ·clear ht h16 hH;rintro i t df g1 hi ⟨rfl,⟨h2,h9,h10,h11,-⟩,hH,hF⟩ h16;have hFn:=hF.nx;have hok:=Gg (l:=l) hvr (l.length - (i+1));have hst:S.aQ l vr (l.length - i)=S.cq l vr i (S.aQ l vr (l.length - (i+1))):=by rw[show l.length - i=(l.length - (i+1))+1 by omega,S.aQ,show l.length - 1 - (l.length - (i+1))=i by omega]
  rw[hst];obtain⟨s,hs⟩:∃s,s=S.aQ l vr (l.length - (i+1)):=⟨_,rfl⟩;rw[<-hs]at hok hH ⊢;have hH1:=hH;obtain⟨eq,ev,ea,ec,ex⟩:=hH1;obtain⟨l1,l2,l3,b1,b2,b3⟩:=hok;have z1:=pD (fR hvr i) hm;have z2:=pD (fR b3 i) hm;obtain⟨u1,u2⟩:=lr (l:=vr) (i:=i) (by omega);obtain⟨u3,u4⟩:=lr (l:=s.2.2) (i:=i) (by omega);obtain⟨u5,-⟩:=lr (l:=s.2.1) (i:=i) (by omega);have rv:=cU (sz:=1) (m:=l.length) ev (by simp[hvl]);have ra:=cU (sz:=1) (m:=l.length) ea (by simp[l3]);have rx:=cU (sz:=1) (m:=l.length) ex (by simp[l2]);have an1:=qp (vr[i]?.getD 0) (s.2.2[i]?.getD 0) (by omega) (by omega);have sc:=λ(g':G) (h:g'.h.get px=VG 1 (s.2.1.map cu))=>ql (m:=l.length) (x:=vr[i]?.getD 0 &&& s.2.2[i]?.getD 0) h (i:=i) (by omega);obtain⟨cx,hcx⟩:∃cx,cx=s.2.1.set i (vr[i]?.getD 0 &&& s.2.2[i]?.getD 0):=⟨_,rfl⟩;rw[<-hcx]at sc;refine bI (P:=λt' df g'=>df=[]/\NsH gr size c b lv vv pq pm iv ia pc px l.length vr (s.1,cx,s.2.2) g'/\Fx (λi=>i=ia\/i=pc\/i=px) g g'/\St t' ((16,.int .i64 (i:Int))::rK lv pq iv ia l.length)) ?_ ?_
  ·simp only[sz,simprocAttr,sf,h9,h10,h11,h16,eq,RQ,bF,rv,ra,rx,u1,u2,u3,u4,u5,cu,an1,sc,ex];refine⟨?_,?_⟩
   ·simp only[Si,Sl,Sf,Sd];exact aA [false,false,false,false,false,false,false,false,false,false,false,false,false,false,false,true] [] (by simp[All2,ac,ap]) (by decide) (by simp)
   ·refine⟨hH.setX hD0 (λj hj _=>by simp[RW,hj]) (by simp[RW]),⟨by simp;omega,λj hj hA=>?_,λj hj=>?_⟩,by simp[St,rK,sx,h2,h9,h10,h11,h16]⟩
    ·have hjx:¬j=px:=λe=>hA (.inr (.inr e));simp[RW,hjx,hF.fr j hj hA]
    ·simp at hj;rcases hj with rfl|hj
     ·exact .inr (.inl (.inr (.inr rfl)))
     ·exact hF.lg j hj
  clear h2 h9 h10 h11 h16 hH eq ev ea ec ex hF;rintro t df g2 ⟨rfl,hH,hF,h16,h2,h9,h10,h11,-⟩;have hFn2:=hF.nx;obtain⟨a1,a2⟩:=CV hi;obtain⟨⟨xa,xb,xc⟩,hsp⟩:∃x,S.sp l i=x:=⟨_,rfl⟩;rw[hsp]at a2;refine be (P:=λt' df g'=>df=[]/\g'.h.get g2.nx=VG 3 [cs3 (xa,xb,xc)]/\g'.nx=g2.nx+1/\NsH gr size c b lv vv pq pm iv ia pc px l.length vr (s.1,cx,s.2.2) g'/\Fx (λi=>i=ia\/i=pc\/i=px) g g'/\St t' ((17,.hptr g2.nx 0 0 0)::(16,.int .i64 (i:Int))::rK lv pq iv ia l.length)) ?_ ?_
  ·simp only[sz,simprocAttr,h2,h16,rl,a1,a2,cs3];exact⟨hH.same hD0 λj hj=>by rw[G.put_h,af _ _ _ (by omega),G.new_h,af _ _ _ (by omega)],(hF.trans (Fx.new _ _ _)).put (.inr (by omega)) _,by simp[St,rK,sx,h2,h9,h10,h11,h16]⟩
  clear h2 h9 h10 h11 h16;obtain⟨B17,hB17⟩:∃B17,B17=g2.nx:=⟨_,rfl⟩;rw[<-hB17];clear hH hF;rintro t df g3 ⟨rfl,kB,k3,hH,hF,h17,h16,h2,h9,h10,h11,-⟩
  by_cases hx:xa = -1
  ·subst hx;obtain⟨y1,y2,y3,y4⟩:=hl.j i hi (by rw[hsp]);have hS:=hsp;rw[hsp]at y1 y2 y3 y4;dsimp only at y1 y2 y3 y4;obtain⟨le,rfl⟩:=R8 y1;obtain⟨ri,rfl⟩:=R8 y3;obtain⟨cc,hcc⟩:∃cc,cc=S.an (vr[le]?.getD 0 &&& vr[ri]?.getD 0) (s.2.2[i]?.getD 0):=⟨_,rfl⟩;have hns:S.cq l vr i s=(s.1.set i cc,cx,(s.2.2.set le (s.2.2[i]?.getD 0 ||| cc)).set ri (s.2.2[i]?.getD 0 ||| cc)):=by unfold S.cq;rw[hsp,Sb rfl];simp only[Sx];rw[<-hcc,<-hcx]
   rw[hns];have hccl:cc<256:=pD (by rw[hcc];exact Hm (yp (fR hvr _))) hm;have w1:=pD (fR hvr le) hm;have w2:=pD (fR hvr ri) hm;obtain⟨p1,p2⟩:=lr (l:=vr) (i:=le) (by omega);obtain⟨p3,p4⟩:=lr (l:=vr) (i:=ri) (by omega);obtain⟨p5,-⟩:=lr (l:=s.1) (i:=i) (by omega);have hBn:B17<g3.nx:=by omega
   have hBD:B17≠ia/\B17≠pc/\B17≠px:=by omega
   refine be (P:=λt' df g'=>df=[]/\g'=g3/\tat t' 131=.bool true/\St t' ((17,.hptr B17 0 0 0)::(16,.int .i64 (i:Int))::rK lv pq iv ia l.length)) ?_ ?_
   ·simp only[sz,simprocAttr,h17,kB,cs3];simp[St,rK,sx,h2,h9,h10,h11,h16,h17]
   clear h2 h9 h10 h11 h16 h17;rintro t df g3 ⟨rfl,rfl,h131,h17,h16,h2,h9,h10,h11,-⟩;simp only[C5,Lt,h131,AB,wM];have hFn3:=hF.nx;obtain⟨eq,ev,ea,ec,ex⟩:=hH;have rv:=cU (sz:=1) (m:=l.length) ev (by simp[hvl]);have ra:=cU (sz:=1) (m:=l.length) ea (by simp[l3]);have rc:=cU (sz:=1) (m:=l.length) ec (by simp[l1]);have an2:=qp (vr[le]?.getD 0) (vr[ri]?.getD 0) (by omega) (by omega);have hand:vr[le]?.getD 0 &&& vr[ri]?.getD 0<256:=pD (yp (fR hvr _)) hm;have df2:=Ko (vr[le]?.getD 0 &&& vr[ri]?.getD 0) (s.2.2[i]?.getD 0) hand z2;rw[<-hcc]at df2;have sc2:=λ(g':G) (h:g'.h.get pc=VG 1 (s.1.map cu))=>ql (m:=l.length) (x:=cc) h (i:=i) (by omega);refine bI (P:=λt' df g'=>df=[]/\NsH gr size c b lv vv pq pm iv ia pc px l.length vr (s.1.set i cc,cx,s.2.2) g'/\Fx (λi=>i=ia\/i=pc\/i=px) g g'/\g'.h.get B17=VG 3 [cs3 (-1,(le:Int),(ri:Int))]/\St t' ((17,.hptr B17 0 0 0)::(16,.int .i64 (i:Int))::rK lv pq iv ia l.length)) ?_ ?_
   ·simp only[sz,simprocAttr,sf,h9,h10,h11,h16,h17,kB,cs3,eq,QU,bF,rv,ra,rc,p1,p2,p3,p4,p5,u3,u4,cu,an2,df2,sc2,ec];refine⟨?_,?_⟩
    ·simp only[Si,Sl,Sf,Sd];exact aA [false,false,false,false,false,false,false,false,false,false,false,false,false,false,false,false,false,false,false,false,false,false,true] [] (by simp[All2,ac,ap]) (by decide) (by simp)
    ·refine⟨RZ (s:=(s.1,cx,s.2.2)) hD0 ⟨eq,ev,ea,ec,ex⟩ (λj hj _=>by simp[RW,hj]) (by simp[RW]),⟨by simp;omega,λj hj hA=>?_,λj hj=>?_⟩,by simp[RW,hBD.2.1,kB,cs3],by simp[St,rK,sx,h2,h9,h10,h11,h16,h17]⟩
     ·have hjx:¬j=pc:=λe=>hA (.inr (.inl e));simp[RW,hjx,hF.fr j hj hA]
     ·simp at hj;rcases hj with rfl|hj
      ·exact .inr (.inl (.inr (.inl rfl)))
      ·exact hF.lg j hj
   clear h2 h9 h10 h11 h16 h17 eq ev ea ec ex hF kB rv ra rc sc2;rintro t df g4 ⟨rfl,⟨eq,ev,ea,ec,ex⟩,hF,kB,h17,h16,h2,h9,h10,h11,-⟩;have hFn4:=hF.nx;have rv:=cU (sz:=1) (m:=l.length) ev (by simp[hvl]);have ra:=cU (sz:=1) (m:=l.length) ea (by simp[l3]);have rc:=cU (sz:=1) (m:=l.length) ec (by simp[l1]);obtain⟨p6,p7⟩:=lr (l:=s.1.set i cc) (i:=i) (by rw[UD];omega);rw[Tu (by omega),Se]at p7;obtain⟨p8,-⟩:=lr (l:=s.2.2) (i:=le) (by omega);have or2:=qq (s.2.2[i]?.getD 0) cc (by omega) (by omega);have sc3:=λ(g':G) (h:g'.h.get ia=VG 1 (s.2.2.map cu))=>ql (m:=l.length) (x:=s.2.2[i]?.getD 0 ||| cc) h (i:=le) (by omega);refine bI (P:=λt' df g'=>df=[]/\NsH gr size c b lv vv pq pm iv ia pc px l.length vr (s.1.set i cc,cx,s.2.2.set le (s.2.2[i]?.getD 0 ||| cc)) g'/\Fx (λi=>i=ia\/i=pc\/i=px) g g'/\g'.h.get B17=VG 3 [cs3 (-1,(le:Int),(ri:Int))]/\St t' ((17,.hptr B17 0 0 0)::(16,.int .i64 (i:Int))::rK lv pq iv ia l.length)) ?_ ?_
   ·simp only[sz,simprocAttr,sf,h9,h10,h11,h16,h17,kB,cs3,eq,QU,bF,rv,ra,rc,p6,p7,p8,u3,u4,cu,or2,sc3,ea];refine⟨?_,?_⟩
    ·simp only[Si,Sl,Sf,Sd];exact aA [false,false,false,false,false,false,false,false,false,false,false,false,false,false,false,false,true] [] (by simp[All2,ac,ap]) (by decide) (by simp)
    ·refine⟨NsH.setA (s:=(s.1.set i cc,cx,s.2.2)) hD0 ⟨eq,ev,ea,ec,ex⟩ (λj hj _=>by simp[RW,hj]) (by simp[RW]),⟨by simp;omega,λj hj hA=>?_,λj hj=>?_⟩,by simp[RW,hBD.1,kB,cs3],by simp[St,rK,sx,h2,h9,h10,h11,h16,h17]⟩
     ·have hjx:¬j=ia:=λe=>hA (.inl e);simp[RW,hjx,hF.fr j hj hA]
     ·simp at hj;rcases hj with rfl|hj
      ·exact .inr (.inl (.inl rfl))
      ·exact hF.lg j hj
   clear h2 h9 h10 h11 h16 h17 eq ev ea ec ex hF kB rv ra rc sc3 p6 p7;rintro t df g5 ⟨rfl,⟨eq,ev,ea,ec,ex⟩,hF,kB,h17,h16,h2,h9,h10,h11,-⟩;have hFn5:=hF.nx;have ra:=cU (sz:=1) (m:=l.length) ea (by simp[l3]);obtain⟨p6,p7⟩:=lr (l:=s.2.2.set le (s.2.2[i]?.getD 0 ||| cc)) (i:=le) (by rw[UD];omega);rw[Tu (by omega),Se]at p7;obtain⟨p9,-⟩:=lr (l:=s.2.2.set le (s.2.2[i]?.getD 0 ||| cc)) (i:=ri) (by rw[UD];omega);have sc4:=λ(g':G) (h:g'.h.get ia=VG 1 ((s.2.2.set le (s.2.2[i]?.getD 0 ||| cc)).map cu))=>ql (m:=l.length) (x:=s.2.2[i]?.getD 0 ||| cc) h (i:=ri) (by rw[UD];omega);simp only[sz,simprocAttr,sf,h11,h16,h17,kB,cs3,ra,p6,p7,p9,cu,sc4,ea];refine⟨?_,?_⟩
   ·simp only[Si,Sl,Sf,Sd];exact aA [false,false,false,false,false,false,false,false,false,true] [] (by simp[All2,ac,ap]) (by decide) (by simp)
   ·refine⟨by simp[St,rK,sx,h2,h9,h10,h11],NsH.setA (s:=(s.1.set i cc,cx,s.2.2.set le (s.2.2[i]?.getD 0 ||| cc))) hD0 ⟨eq,ev,ea,ec,ex⟩ (λj hj _=>by simp[RW,hj]) (by simp[RW]),⟨by simp;omega,λj hj hA=>?_,λj hj=>?_⟩⟩
    ·have hjx:¬j=ia:=λe=>hA (.inl e);simp[RW,hjx,hF.fr j hj hA]
    ·simp at hj;rcases hj with rfl|hj
     ·exact .inr (.inl (.inl rfl))
     ·exact hF.lg j hj
  ·have hns:S.cq l vr i s=(s.1,cx,s.2.2):=by unfold S.cq;rw[hsp,Sa hx,<-hcx]
   rw[hns];simp only[sz,simprocAttr,h17,kB,cs3,hx];exact⟨⟨by simp[St,rK,sx,h2,h9,h10,h11],hH,hF⟩,h16⟩
 ·rintro t df g' ⟨rfl,ht,hH,hF⟩;rw[Uu]at hH;exact fin t g' ht hH hF
end
end Hx
end
section
namespace Hx
open Go
noncomputable section
theorem M8(gr size c:Int)(b lv vv cv cv' xv:AV)(pm:Nat)(g:G)(pq:Nat)(hc:cv'.cells=[cv'])(ht:cv'.isTup=false):cN (srO gr size c b lv vv cv xv pm) g pq 0 0 1 4 cv'=.upd .undef (g.put pq (srO gr size c b lv vv cv' xv pm)):=by
 unfold srO;rw[bL 9 _ 0 false g pq 0 1 4 cv' (by rw[hc];rfl) ht,S3,hc];dsimp only;rw[mw (by simp)]
 rfl
theorem M9(gr size c:Int)(b lv vv cv xv xv':AV)(pm:Nat)(g:G)(pq:Nat)(hc:xv'.cells=[xv'])(ht:xv'.isTup=false):cN (srO gr size c b lv vv cv xv pm) g pq 0 0 1 5 xv'=.upd .undef (g.put pq (srO gr size c b lv vv cv xv' pm)):=by
 unfold srO;rw[bL 9 _ 0 false g pq 0 1 5 xv' (by rw[hc];rfl) ht,S3,hc];dsimp only;rw[mw (by simp)]
 rfl
theorem N6(t:T)(g:G):SO.foot C0 t g (.raw (.makeMap 88 none))=ap:=by kernel_rfl
set_option maxRecDepth 20000 in
theorem Rx{d k B:Nat}{gr size:Int}{b lv ev:AV}{e:List Int}{l:List Sp}{t:T}{g:G}{Q:QT}(he:SlR NoP k .nil e ev)(he0:0<e.length)(he8:e.length<=8)(hb:b.cells=[b]/\b.isTup=false)(hlv:lv.cells=[lv]/\lv.isTup=false)
  (hB:g.h.get B=VG 2 [[.int .i64 gr,b]]) (hBn:B<g.nx) (h1:tat t 1=ev) (h2:tat t 2=lv) (h3:tat t 3=.int .i64 size) (h4:tat t 4=.hptr B 0 0 0)
  (fin:∀t g' pv pm pq,tat t 1=ev->tat t 2=lv->tat t 9=.hptr pq 0 0 0->g.nx<=pv->g.nx<=pm->g.nx<=pq->pv<g'.nx->pm<g'.nx->pq<g'.nx->pv≠pq->pm≠pq->pm≠pv->g'.h.get pq=srO gr size 0 b lv (.hsl pv 0 0 e.length none) .nils .nils pm->g'.h.get pm=.map []->(∃lo,g'.h.get pv=.cells 1 (e.map ci) 0 lo false)->Fx (λ_=>False) g g'->Q .norm t [] g') :
  wp C0 d none (.feet [0,0,0,4,0,0,63,127,255] [VJ 18 2 4,oM 19 2,oM 20 1,o 21 (.call N.aa [.t 20]),o 22 (.raw (.makeMap 88 none)),oM 23 3,o 24 (.build [.int .i64 0,.nils,.nils,.nils,.nils,.nils,.nilm,.int .i64 0,.int .i64 0] [(0,2),(2,1),(3,1),(6,1),(7,1)] [.t 18,.t 19,.t 21,.t 22,.t 23]),o 25 (.box (.t 24)),oM 9 25]) Q t [] g:=by
 have mk:=Qr d none;simp only[sz,simprocAttr,sf,h1,h2,h3,h4,hB];refine wX he (by omega) λu g1 hu hf hlg=>?_;have n1:g.nx+3<=g1.nx:=by have:=hf.1;simp at this;omega
 have f1:∀i,i<g.nx+3->g1.h.get i=g.h.get i:=λi hi=>by have:=hf.2 i (by simp;omega);simpa using this
 have l1:∀i∈g1.lg,g.nx+3<=i/\i<g1.nx:=λi hi=>by have:=hlg i hi;simp at this;omega
 rcases hu with⟨h,-⟩|⟨pv,lo,p1,p2,rfl,p4,-⟩
 ·rw[h]at he0;simp at he0
 have p1:g.nx+3<=pv:=by simpa using p1
 clear hf hlg;obtain⟨hl1,hl2⟩:=hlv;simp only[sz,simprocAttr,sf,mk,h3,hl1,hl2,wW,xh,show (AV.hmap (g1.nx+1)).cells=[.hmap (g1.nx+1)] from rfl,show (AV.hmap (g1.nx+1)).isTup=false from rfl,N6,eI];have sp:=Ap (he.tree (h':=g.h) (R5 k));refine⟨?_,?_⟩
 ·simp only[Si,Sl,Sf,Sd];refine aA [false,false,false,true,true,false,false,true,false] [(0,3),(1,3),(0,4),(1,4),(2,4),(3,4),(3,5),(4,5)] (by simp[All2,ac,ap]) (by decide) ?_;intro p hp x y hx hy;simp only[Sq,Sk,Ui]at hp;rcases hp with rfl|rfl|rfl|rfl|rfl|rfl|rfl|rfl<;>(simp only[S3,TF,S9]at hx hy;subst hx;subst hy;refine bH rfl rfl rfl rfl ?_ ?_ ?_<;>simp[ac,ap,jq,sp])
  all_goals first|omega|exact λi hi=>by have:=l1 i hi;omega
 ·refine fin _ _ pv (g1.nx+1) (g1.nx+1+1+1+1+1) (by simp[sx,h1]) (by simp[sx,h2]) (by simp[sx]) (by omega) (by omega) (by omega) (by first| (simp;done)| (simp;omega)) (by first| (simp;done)| (simp;omega)) (by first| (simp;done)| (simp;omega)) (by omega) (by omega) (by omega) ?_ ?_ ⟨lo,?_⟩ ⟨by simp;omega,λj hj _=>?_,λj hj=>?_⟩
  ·simp[RW,srO]
  ·simp[RW]
  ·simp[RW,show ¬pv=g1.nx+1 by omega,show ¬pv=g1.nx+1+1+1+1+1 by omega,p4]
  ·simp[RW,show ¬j=g1.nx+1 by omega,show ¬j=g1.nx+1+1+1+1+1 by omega,f1 j (by omega)]
  ·simp at hj;rcases hj with h|h|h|h
   ·exact .inr (.inr (by omega))
   ·exact .inr (.inr (by omega))
   ·have:=l1 j h;exact .inr (.inr (by omega))
   ·exact .inl h
theorem Mf{L:Nat}(hL:L<=15)(g:G):Gd 1 8 [.int .u64 0] (.int .i64 (L:Int)) (.int .i64 (L:Int)) g=.upd (.hsl g.nx 0 0 L none) (g.new (VG 1 ((List.replicate L 0).map cu))):=by
 have h:L=0\/L=1\/L=2\/L=3\/L=4\/L=5\/L=6\/L=7\/L=8\/L=9\/L=10\/L=11\/L=12\/L=13\/L=14\/L=15:=by omega
 rcases h with rfl|rfl|rfl|rfl|rfl|rfl|rfl|rfl|rfl|rfl|rfl|rfl|rfl|rfl|rfl|rfl<;>rfl
set_option maxRecDepth 20000 in
theorem Ry{d L pq pm:Nat}{gr size:Int}{b lv ev vv:AV}{t:T}{g:G}{Q:QT}(hL:L<=15)(hlen:∀g:G,dO .slice lv g=.val (.int .i64 (L:Int)))(hq:g.h.get pq=srO gr size 0 b lv vv .nils .nils pm)(hqn:pq<g.nx)(h1:tat t 1=ev)(h2:tat t 2=lv)(h9:tat t 9=.hptr pq 0 0 0)
  (fin:∀t g' pc px,tat t 1=ev->tat t 2=lv->tat t 9=.hptr pq 0 0 0->g.nx<=pc->g.nx<=px->pc<g'.nx->px<g'.nx->pc≠px->g'.h.get pq=srO gr size 0 b lv vv (.hsl pc 0 0 L none) (.hsl px 0 0 L none) pm->g'.h.get pc=VG 1 ((List.replicate L 0).map cu)->g'.h.get px=VG 1 ((List.replicate L 0).map cu)->Fx (λi=>i=pq) g g'->Q .norm t [] g') :
  wp C0 d none (.feet [0,0,0,4,12,0,32,96,29,285,797,2047,4095,8191] [oM 26 9,oM 27 9,oM 28 2,oN 29 28,o 30 (.mks 1 8 [.int .u64 0] (.t 29) (.t 29)),oM 31 2,oN 32 31,o 33 (.mks 1 8 [.int .u64 0] (.t 32) (.t 32)),VM 34 26,oF 35 4 34,VL 1 35 30,VM 36 27,oF 37 5 36,VL 1 37 33]) Q t [] g:=by
 have mk:=Mf hL;have s4:=λ(g:G) (id:Nat)=>M8 gr size 0 b lv vv .nils (.hsl id 0 0 L none) .nils pm g pq rfl rfl;have s5:=λ(g:G) (id id2:Nat)=>M9 gr size 0 b lv vv (.hsl id2 0 0 L none) .nils (.hsl id 0 0 L none) pm g pq rfl rfl;have e1:¬pq=g.nx+1+1+1+1+1+1+1+1:=by omega
 have e2:¬pq=g.nx+1+1+1+1:=by omega
 simp only[sz,simprocAttr,sf,h2,h9,hlen,mk,hq,bF,e1,e2,s4,s5];refine⟨?_,?_⟩
 ·simp only[Si,Sl,Sf,Sd];refine aA [false,false,false,false,true,false,false,true,false,false,true,false,false,true] [(0,4),(1,4),(4,5),(4,6),(0,7),(1,7),(2,7),(3,7),(4,7),(7,8),(7,9),(1,10),(5,10),(6,10),(7,10)] (by simp[All2,ac,ap]) (by decide) ?_;intro p hp x y hx hy;simp only[Sq,Sk,Ui]at hp;rcases hp with rfl|rfl|rfl|rfl|rfl|rfl|rfl|rfl|rfl|rfl|rfl|rfl|rfl|rfl|rfl<;>(simp only[S3,TF,S9]at hx hy;subst hx;subst hy;refine bH rfl rfl rfl rfl ?_ ?_ ?_<;>simp[ac,ap,jq])
  all_goals omega
 ·refine fin _ _ (g.nx+1+1+1+1) (g.nx+1+1+1+1+1+1+1+1) (by simp[sx,h1]) (by simp[sx,h2]) (by simp[sx,h9]) (by omega) (by omega) (by first| (simp;done)| (simp;omega)) (by first| (simp;done)| (simp;omega)) (by omega) ?_ ?_ ?_ ⟨by simp;omega,λj hj hA=>?_,λj hj=>?_⟩
  ·simp[RW]
  ·simp[RW,To e2]
  ·simp[RW,To e1]
  ·have hA:¬j=pq:=hA;simp[RW,hA,show ¬j=g.nx+1+1+1+1 by omega,show ¬j=g.nx+1+1+1+1+1+1+1+1 by omega]
  ·simp at hj;rcases hj with h|h|h|h
   all_goals first|exact .inl h|exact .inr (.inl h)|exact .inr (.inr (by omega))
set_option maxRecDepth 20000 in
theorem Rz{d L pq:Nat}{ev lv:AV}{t:T}{g:G}{Q:QT}(hL:L<=15)(hlen:∀g:G,dO .slice lv g=.val (.int .i64 (L:Int)))(h1:tat t 1=ev)(h2:tat t 2=lv)(h9:tat t 9=.hptr pq 0 0 0)
  (fin:∀t g' iv ia,St t (mi ev lv pq iv ia L)->g.nx<=iv->g.nx<=ia->iv<g'.nx->ia<g'.nx->iv≠ia->g'.h.get iv=VG 1 ((List.replicate L 0).map cu)->g'.h.get ia=VG 1 ((List.replicate L 0).map cu)->Fx (λ_=>False) g g'->Q .norm t [] g') :
  wp C0 d none (.feet [0,1,3,0,8,24,7,127] [oM 38 2,oN 39 38,o 40 (.mks 1 8 [.int .u64 0] (.t 39) (.t 39)),oM 41 2,oN 42 41,o 43 (.mks 1 8 [.int .u64 0] (.t 42) (.t 42)),oM 10 40,oM 11 43]) Q t [] g:=by
 have mk:=Mf hL;simp only[sz,simprocAttr,sf,h2,hlen,mk];refine⟨?_,?_⟩
 ·simp only[Si,Sl,Sf,Sd];refine aA [false,false,true,false,false,true,false,false] [(2,3),(2,4),(2,5),(0,5),(1,5),(5,6)] (by simp[All2,ac,ap]) (by decide) ?_;intro p hp x y hx hy;simp only[Sq,Sk,Ui]at hp;rcases hp with rfl|rfl|rfl|rfl|rfl|rfl<;>(simp only[S3,TF,S9]at hx hy;subst hx;subst hy;refine bH rfl rfl rfl rfl ?_ ?_ ?_<;>simp[ap])
  all_goals omega
 ·refine fin _ _ (g.nx+1+1) (g.nx+1+1+1+1+1+1) (by simp[St,mi,sx,h1,h2,h9]) (by omega) (by omega) (by first| (simp;done)| (simp;omega)) (by first| (simp;done)| (simp;omega)) (by omega) ?_ ?_ ⟨by simp;omega,λj hj hA=>?_,λj hj=>?_⟩
  ·simp[RW]
  ·simp[RW]
  ·simp[RW,show ¬j=g.nx+1+1 by omega,show ¬j=g.nx+1+1+1+1+1+1 by omega]
  ·simp at hj;rcases hj with h|h|h
   all_goals first|exact .inl h|exact .inr (.inr (by omega))
def S.cM(n:Net)(e:List Int)(l:List Sp):List Nat:=(S.aQ l (S.vr n e l) l.length).1
def S.cN(n:Net)(e:List Int)(l:List Sp):List Nat:=(S.aQ l (S.vr n e l) l.length).2.1
def S.cW(n:Net)(e:List Int)(l:List Sp):List Nat:=(S.aQ l (S.vr n e l) l.length).2.2
theorem QX(n:Net)(e:List Int)(l:List Sp):(S.vr n e l).length=l.length:=jY n e l _
theorem PO{n:Net}{e:List Int}{l:List Sp}(hr:NR n)(hl:LEl n l):∀x∈S.vr n e l,x<2 ^ n.nodes.length:=GV hr hl _ (R5 _)
set_option maxRecDepth 20000 in
theorem CD{d k:Nat}{n:Net}{b lv ev:AV}{l:List Sp}{e:List Int}{size:Int}{g:G}{K:AV->G->Prop}{D:ADf->Prop}(hr:NR n)(hnb:SlR NoP 0 .nil n.nodes b)(hsl:SlR NoP 0 .nil l lv)(hl:LEl n l)(hll:l.length<=15)(he:∀h,SlR NoP k h e ev)(hel:e.length=n.nodes.length)
  (kk:∀g' pq pv pm pc px,Srs n l (S.cM n e l) (S.cN n e l) b lv pq pv pm pc px->Srh n (S.cM n e l) (S.cN n e l) size b lv pq pv pm pc px ([],0) g'->Vs n pv e g'->Fx (λ_=>False) g g'->g.nx<=pq->K (.hptr pq 0 0 0) g') :
  (am C0 d N.be [.agg [.int .i64 n.grain,b],ev,lv,.int .i64 size] g).sat K g D:=by
 have hl8:=hr.l2;have hl1:=hr.l1;have hlen:∀g:G,dO .slice lv g=.val (.int .i64 (l.length:Int)):=λg=>hsl.len g;have hbx:∀g:G,xW (.agg [.int .i64 n.grain,b]) g=.upd (.hptr g.nx 0 0 0) (g.new (VG 2 [[.int .i64 n.grain,b]])):=λg=>rfl;have hvr:=PO (e:=e) hr hl;have hvl:=QX n e l;rw[oQ];refine dc qy (by simp[fE]) ?_;simp only[fE];refine be (P:=λt' df g'=>df=[]/\g'.h.get g.nx=VG 2 [[.int .i64 n.grain,b]]/\g'.nx=g.nx+1/\Fx (λ_=>False) g g'/\St t' [(1,ev),(2,lv),(3,.int .i64 size),(4,.hptr g.nx 0 0 0)]) ?_ ?_
 ·simp only[sz,simprocAttr,hbx];exact⟨Fx.new _ _ _,by simp[St,sx]⟩
 rintro t df g1 ⟨rfl,kB,k1,F1,h1,h2,h3,h4,-⟩;simp only[jc];refine bI (P:=λt' df g'=>df=[]/\∃pv pm pq,tat t' 1=ev/\tat t' 2=lv/\tat t' 9=.hptr pq 0 0 0/\g1.nx<=pv/\g1.nx<=pm/\g1.nx<=pq/\pv<g'.nx/\pm<g'.nx/\pq<g'.nx/\pv≠pq/\pm≠pq/\pm≠pv/\g'.h.get pq=srO n.grain size 0 b lv (.hsl pv 0 0 e.length none) .nils .nils pm/\g'.h.get pm=.map []/\(∃lo,g'.h.get pv=.cells 1 (e.map ci) 0 lo false)/\Fx (λ_=>False) g1 g') ?_ ?_
 ·refine Rx (B:=g.nx) (l:=l) (he .nil) (by omega) (by omega) hnb.cell hsl.cell kB (by omega) h1 h2 h3 h4 λt g' pv pm pq a1 a2 a3 a4 a5 a6 a7 a8 a9 a10 a11 a12 a13 a14 a15 a16=>⟨rfl,rfl,pv,pm,pq,a1,a2,a3,a4,a5,a6,a7,a8,a9,a10,a11,a12,a13,a14,a15,a16⟩
 clear h1 h2 h3 h4;rintro t df g2 ⟨rfl,pv,pm,pq,h1,h2,h9,v1,v2,v3,v4,v5,v6,v7,v8,v9,eq,em,⟨lo,ep⟩,F2⟩;refine bI (P:=λt' df g'=>df=[]/\∃pc px,tat t' 1=ev/\tat t' 2=lv/\tat t' 9=.hptr pq 0 0 0/\g2.nx<=pc/\g2.nx<=px/\pc<g'.nx/\px<g'.nx/\pc≠px/\g'.h.get pq=srO n.grain size 0 b lv (.hsl pv 0 0 e.length none) (.hsl pc 0 0 l.length none) (.hsl px 0 0 l.length none) pm/\g'.h.get pc=VG 1 ((List.replicate l.length 0).map cu)/\g'.h.get px=VG 1 ((List.replicate l.length 0).map cu)/\Fx (λi=>i=pq) g2 g') ?_ ?_
 ·exact Ry hll hlen eq v6 h1 h2 h9 λt g' pc px a1 a2 a3 a4 a5 a6 a7 a8 a9 a10 a11 a12=>⟨rfl,rfl,pc,px,a1,a2,a3,a4,a5,a6,a7,a8,a9,a10,a11,a12⟩
 clear h1 h2 h9 eq;rintro t df g3 ⟨rfl,pc,px,h1,h2,h9,w1,w2,w3,w4,w5,eq,ec,ex,F3⟩;refine bI (P:=λt' df g'=>df=[]/\∃iv ia,St t' (mi ev lv pq iv ia l.length)/\g3.nx<=iv/\g3.nx<=ia/\iv<g'.nx/\ia<g'.nx/\iv≠ia/\g'.h.get iv=VG 1 ((List.replicate l.length 0).map cu)/\g'.h.get ia=VG 1 ((List.replicate l.length 0).map cu)/\Fx (λ_=>False) g3 g') ?_ ?_
 ·exact Rz hll hlen h1 h2 h9 λt g' iv ia a1 a2 a3 a4 a5 a6 a7 a8 a9=>⟨rfl,rfl,iv,ia,a1,a2,a3,a4,a5,a6,a7,a8,a9⟩
 clear h1 h2 h9;rintro t df g4 ⟨rfl,iv,ia,ht,x1,x2,x3,x4,x5,ev4,ea4,F4⟩;have n2:=F2.nx;have n3:=F3.nx;have n4:=F4.nx;have n1:=F1.nx;have eq4:g4.h.get pq=srO n.grain size 0 b lv (.hsl pv 0 0 e.length none) (.hsl pc 0 0 l.length none) (.hsl px 0 0 l.length none) pm:=by rw[F4.fr _ (by omega) id,eq]
 have ec4:g4.h.get pc=VG 1 ((List.replicate l.length 0).map cu):=by rw[F4.fr _ (by omega) id,ec]
 have ex4:g4.h.get px=VG 1 ((List.replicate l.length 0).map cu):=by rw[F4.fr _ (by omega) id,ex]
 have em4:g4.h.get pm=.map []:=by rw[F4.fr _ (by omega) id,F3.fr _ (by omega) (by omega),em]
 have ep4:g4.h.get pv=.cells 1 (e.map ci) 0 lo false:=by rw[F4.fr _ (by omega) id,F3.fr _ (by omega) (by omega),ep]
 have F14:Fx (λi=>i=pq) g g4:=((F1.mono λ_ h=>h.elim).trans (F2.mono λ_ h=>h.elim)).trans (F3.trans (F4.mono λ_ h=>h.elim));clear eq ec ex em ep;refine bI (P:=λt' df g'=>df=[]/\St t' (mi ev lv pq iv ia l.length)/\g'.h.get iv=VG 1 ((S.vr n e l).map cu)/\Fx (λi=>i=iv) g4 g') ?_ ?_
 ·obtain⟨h1,h2,h9,h10,h11,-⟩:=ht;simp only[sz,simprocAttr,h2,hlen];refine Rs (k:=k) (ia:=ia) hr hnb hsl hl hll he hel eq4 ev4 ⟨by omega,by omega,by omega⟩ (by simp[St,mi,sx,h1,h2,h9,h10,h11]) (by simp[sx]) (by simp[sx]) (by simp[sx]) λt g' ht hv hF=>?_;simp only[sz,simprocAttr];exact⟨ht,hv,hF⟩
 rintro t df g5 ⟨rfl,⟨h1,h2,h9,h10,h11,-⟩,ev5,F5⟩;have n5:=F5.nx;have w15:IntKind.wrap .i64 ((l.length:Int) - 1)=(l.length:Int) - 1:=ax (by omega) (by omega);simp only[sz,simprocAttr,iz,h2,hlen,w15];have hD:NsD pq iv ia pc px g5.nx:=⟨by omega,by omega,by omega,by omega⟩;refine Ru (mm:=n.nodes.length) (vr:=S.vr n e l) (n:=n) (iv:=iv) (ia:=ia) (pq:=pq) (pc:=pc) (px:=px) (pm:=pm) (gr:=n.grain) (size:=size) (c:=0) (b:=b) (lv:=lv) (vv:=.hsl pv 0 0 e.length none) hsl hl hll hl8 hvl hvr hD ⟨by rw[F5.fr _ (by omega) (by omega),eq4],ev5,by rw[F5.fr _ (by omega) (by omega),ea4];rfl,by rw[F5.fr _ (by omega) (by omega),ec4];rfl,by rw[F5.fr _ (by omega) (by omega),ex4];rfl⟩ (by simp[St,rK,sx,h2,h9,h10,h11]) (by simp[sx]) λt g6 ht hH F6=>?_;obtain⟨h2,h9,h10,h11,-⟩:=ht;simp only[sz,simprocAttr,iy,h9];have n6:=F6.nx;obtain⟨l1,l2,l3,b1,b2,b3⟩:=Gg (l:=l) hvr l.length;refine kk g6 pq pv pm pc px ⟨hr,hnb,hsl,l1,l2,hll,b1,b2,⟨v7,v8,by omega,by omega⟩,⟨v9,by omega,by omega⟩,by omega⟩ ⟨?_,?_,hH.c,hH.x,by omega⟩ ⟨hel,lo,?_⟩ ⟨by omega,λj hj _=>?_,λj hj=>?_⟩ (by omega)
 ·rw[hH.q,S.cM,S.cN,l1,l2,hel]
 ·rw[F6.fr _ (by omega) (by omega),F5.fr _ (by omega) (by omega),em4];rfl
 ·rw[F6.fr _ (by omega) (by omega),F5.fr _ (by omega) (by omega),ep4]
 ·rw[F6.fr _ (by omega) (by omega),F5.fr _ (by omega) (by omega),F14.fr _ hj (by omega)]
 ·rcases F6.lg j hj with h|h|h
  ·rcases F5.lg j h with h|h|h
   ·rcases F14.lg j h with h|h|h
    ·exact .inl h
    ·exact .inr (.inr (by omega))
    ·exact .inr (.inr h)
   ·exact .inr (.inr (by omega))
   ·exact .inr (.inr (by omega))
  ·exact .inr (.inr (by omega))
  ·exact .inr (.inr (by omega))
end
end Hx
end
section
namespace Hx
open Go
theorem eO{V:List Nat}{a i x:Nat}(h:i≠a):(V.set a x)[i]?.getD 0=V[i]?.getD 0:=by rw[Ty (To h)]
theorem gy{V:List Nat}{a x:Nat}(h:a<V.length):(V.set a x)[a]?.getD 0=x:=by rw[Tu h];rfl
structure LUq (l:List Sp):Prop where
 ne:∀i,i<l.length->(S.sp l i).1 = -1->(S.sp l i).2.1≠(S.sp l i).2.2
 uq:∀i j,i<l.length->j<i->(S.sp l i).1 = -1->(S.sp l j).1 = -1->(S.sp l i).2.1≠(S.sp l j).2.1/\(S.sp l i).2.1≠(S.sp l j).2.2/\(S.sp l i).2.2≠(S.sp l j).2.1/\(S.sp l i).2.2≠(S.sp l j).2.2
theorem KC{n:Net}{l:List Sp}(h:S.ck l n.nodes.length=true):(l.length:Int)=2*(n.nodes.length:Int) - 1/\LEl n l/\LUq l:=by
 simp only[S.ck,R7,Sg,Sy,Sm]at h;obtain⟨⟨⟨h1,h2⟩,-⟩,-⟩:=h;have key:∀i,i<l.length->(S.sp l i).1 = -1->S.bS l i=true/\S.ax l i (S.sp l i).2.1=false/\S.ax l i (S.sp l i).2.2=false:=λi hi hx=>by have:=h2 i hi;rw[S.bp,Sb hx,R7,R7,SP,SP]at this;exact⟨this.1.1,this.1.2,this.2⟩
 refine⟨h1,⟨λi hi hx=>?_,λi hi hx=>?_⟩,⟨λi hi hx=>?_,λi j hi hj hx hy=>?_⟩⟩
 ·have:=nB.1 (key i hi hx).1;exact⟨this.1,this.2.1,this.2.2.1,this.2.2.2.1⟩
 ·have:=h2 i hi;rw[S.bp,Sa hx,R7]at this;have:=vT.1 this.1;exact⟨this.1,this.2.1⟩
 ·exact (nB.1 (key i hi hx).1).2.2.2.2
 ·obtain⟨-,k1,k2⟩:=key i hi hx;have n1:∀e,S.ax l i e=false->(S.sp l j).2.1≠e/\(S.sp l j).2.2≠e:=λe he=>by
   refine⟨λc=>?_,λc=>?_⟩
   ·rw[gX.2 ⟨j,hj,hy,.inl c⟩]at he;cases he
   ·rw[gX.2 ⟨j,hj,hy,.inr c⟩]at he;cases he
  have a:=n1 _ k1;have b:=n1 _ k2;exact⟨To a.1,To a.2,To b.1,To b.2⟩
structure NsI (l:List Sp) (vr:List Nat) (p:Nat) (s:NsT):Prop where
 s0:s.2.2[l.length - 1]?.getD 0=0
 s1:∀i,p<=i->i<l.length->s.2.1[i]?.getD 0=vr[i]?.getD 0 &&& s.2.2[i]?.getD 0
 s2:∀i,p<=i->i<l.length->(S.sp l i).1 = -1->s.1[i]?.getD 0=S.an (vr[(S.sp l i).2.1.toNat]?.getD 0 &&& vr[(S.sp l i).2.2.toNat]?.getD 0) (s.2.2[i]?.getD 0)
 s3:∀i,p<=i->i<l.length->(S.sp l i).1 = -1->s.2.2[(S.sp l i).2.1.toNat]?.getD 0=s.2.2[i]?.getD 0 ||| s.1[i]?.getD 0
 s4:∀i,p<=i->i<l.length->(S.sp l i).1 = -1->s.2.2[(S.sp l i).2.2.toNat]?.getD 0=s.2.2[i]?.getD 0 ||| s.1[i]?.getD 0
theorem PB{n:Net}{l:List Sp}{vr:List Nat}(hl:LEl n l)(hu:LUq l)(hL:0<l.length):∀j,j<=l.length->(S.aQ l vr j).1.length=l.length/\(S.aQ l vr j).2.1.length=l.length/\(S.aQ l vr j).2.2.length=l.length/\NsI l vr (l.length - j) (S.aQ l vr j)
 | 0,_=>by refine⟨by simp[S.aQ],by simp[S.aQ],by simp[S.aQ],⟨?_,λi h1 h2=>by omega,λi h1 h2=>by omega,λi h1 h2=>by omega,λi h1 h2=>by omega⟩⟩;show (List.replicate l.length 0)[l.length - 1]?.getD 0=0;rw[UW];split<;>rfl
 | j+1,hj=>by
  obtain⟨l1,l2,l3,⟨s0,s1,s2,s3,s4⟩⟩:=PB (vr:=vr) hl hu hL j (by omega);obtain⟨s,hs⟩:∃s,s=S.aQ l vr j:=⟨_,rfl⟩;rw[<-hs]at l1 l2 l3 s0 s1 s2 s3 s4;obtain⟨p,hp⟩:∃p,p=l.length - 1 - j:=⟨_,rfl⟩;rw[show l.length - (j+1)=p by omega,S.aQ,<-hs,<-hp];rw[show l.length - j=p+1 by omega]at s1 s2 s3 s4;have hpl:p<l.length:=by omega
  unfold S.cq
  by_cases hx:(S.sp l p).1 = -1
  ·rw[Sb hx];obtain⟨y1,y2,y3,y4⟩:=hl.j p hpl hx;obtain⟨le,hle⟩:=R8 y1;obtain⟨ri,hri⟩:=R8 y3;have hne:=hu.ne p hpl hx;have huq:=λi (hi:i<l.length) (hpi:p<i) (hxi:(S.sp l i).1 = -1)=>hu.uq i p hi hpi hxi hx;rw[hle]at y2 hne huq;rw[hri]at y4 hne huq;simp only[hle,hri,Sx];obtain⟨cc,hcc⟩:∃cc,cc=S.an (vr[le]?.getD 0 &&& vr[ri]?.getD 0) (s.2.2[p]?.getD 0):=⟨_,rfl⟩;rw[<-hcc];have hner:ri≠le:=λe=>hne (by rw[e]);have ab1:∀i,i≠le->i≠ri->((s.2.2.set le (s.2.2[p]?.getD 0 ||| cc)).set ri (s.2.2[p]?.getD 0 ||| cc))[i]?.getD 0=s.2.2[i]?.getD 0:=λi h1 h2=>by rw[eO h2,eO h1]
   have ab2:((s.2.2.set le (s.2.2[p]?.getD 0 ||| cc)).set ri (s.2.2[p]?.getD 0 ||| cc))[le]?.getD 0=s.2.2[p]?.getD 0 ||| cc:=by rw[eO (To hner),gy (by omega)]
   have ab3:((s.2.2.set le (s.2.2[p]?.getD 0 ||| cc)).set ri (s.2.2[p]?.getD 0 ||| cc))[ri]?.getD 0=s.2.2[p]?.getD 0 ||| cc:=by rw[gy (by rw[UD];omega)]
   have child:∀i,p<i->i<l.length->(S.sp l i).1 = -1->((S.sp l i).2.1.toNat≠le/\(S.sp l i).2.1.toNat≠ri)/\(S.sp l i).2.2.toNat≠le/\(S.sp l i).2.2.toNat≠ri:=λi h1 h2 h3=>by obtain⟨z1,z2,z3,z4⟩:=huq i h2 h1 h3;obtain⟨w1,-,w3,-⟩:=hl.j i h2 h3;omega
   refine⟨by simp[l1],by simp[l2],by simp[l3],⟨?_,λi h1 h2=>?_,λi h1 h2 h3=>?_,λi h1 h2 h3=>?_,λi h1 h2 h3=>?_⟩⟩
   ·show ((s.2.2.set le _).set ri _)[l.length - 1]?.getD 0=0;rw[ab1 _ (by omega) (by omega),s0]
   ·show (s.2.1.set p _)[i]?.getD 0=vr[i]?.getD 0 &&& ((s.2.2.set le _).set ri _)[i]?.getD 0;rw[ab1 i (by omega) (by omega)]
    by_cases e:i=p
    ·subst e;rw[gy (by omega)]
    ·rw[eO e,s1 i (by omega) h2]
   ·show (s.1.set p cc)[i]?.getD 0=S.an _ (((s.2.2.set le _).set ri _)[i]?.getD 0);rw[ab1 i (by omega) (by omega)]
    by_cases e:i=p
    ·subst e;rw[gy (by omega),hle,hri,Sx,Sx,hcc]
    ·rw[eO e,s2 i (by omega) h2 h3]
   ·show ((s.2.2.set le _).set ri _)[(S.sp l i).2.1.toNat]?.getD 0=((s.2.2.set le _).set ri _)[i]?.getD 0 ||| (s.1.set p cc)[i]?.getD 0;rw[ab1 i (by omega) (by omega)]
    by_cases e:i=p
    ·subst e;rw[hle,Sx,ab2,gy (by omega)]
    ·have hc:=child i (by omega) h2 h3;rw[eO e,ab1 _ hc.1.1 hc.1.2,s3 i (by omega) h2 h3]
   ·show ((s.2.2.set le _).set ri _)[(S.sp l i).2.2.toNat]?.getD 0=((s.2.2.set le _).set ri _)[i]?.getD 0 ||| (s.1.set p cc)[i]?.getD 0;rw[ab1 i (by omega) (by omega)]
    by_cases e:i=p
    ·subst e;rw[hri,Sx,ab3,gy (by omega)]
    ·have hc:=child i (by omega) h2 h3;rw[eO e,ab1 _ hc.2.1 hc.2.2,s4 i (by omega) h2 h3]
  ·rw[Sa hx];refine⟨l1,by simp[l2],l3,⟨s0,λi h1 h2=>?_,λi h1 h2 h3=>?_,λi h1 h2 h3=>?_,λi h1 h2 h3=>?_⟩⟩
   ·show (s.2.1.set p _)[i]?.getD 0=vr[i]?.getD 0 &&& s.2.2[i]?.getD 0
    by_cases e:i=p
    ·subst e;rw[gy (by omega)]
    ·rw[eO e,s1 i (by omega) h2]
   ·exact s2 i (by have:i≠p:=λe=>hx (by rw[<-e];exact h3);omega) h2 h3
   ·exact s3 i (by have:i≠p:=λe=>hx (by rw[<-e];exact h3);omega) h2 h3
   ·exact s4 i (by have:i≠p:=λe=>hx (by rw[<-e];exact h3);omega) h2 h3
theorem Nc{n:Net}{e:List Int}{l:List Sp}(hl:LEl n l)(hu:LUq l)(hL:0<l.length):Sta l (S.vr n e l) (S.cM n e l) (S.cN n e l) (S.cW n e l):=by obtain⟨-,-,-,⟨s0,s1,s2,s3,s4⟩⟩:=PB (vr:=S.vr n e l) hl hu hL l.length (R5 _);exact⟨s0,λi hi=>s1 i (by omega) hi,λi hi=>s2 i (by omega) hi,λi hi=>s3 i (by omega) hi,λi hi=>s4 i (by omega) hi⟩
theorem wE{n:Net}{e:List Int}{l:List Sp}:∀{j i:Nat},i<j->(S.aO n e l j)[i]?=some (if (S.sp l i).1 = -1 then (S.aO n e l i)[(S.sp l i).2.1.toNat]?.getD 0 ||| (S.aO n e l i)[(S.sp l i).2.2.toNat]?.getD 0 else S.aB n e (S.sp l i).1.toNat)
 |0,i,h=>by omega
 | j+1,i,h=>by
  by_cases c:i=j
  ·subst c;rw[S.aO,Sj (by rw[jY];exact R5 _),jY,Th];rfl
  ·rw[S.aO,So (by rw[jY];omega),wE (by omega)]
theorem wF{n:Net}{e:List Int}{l:List Sp}(hl:LEl n l){i:Nat}(hi:i<l.length)(hx:(S.sp l i).1 = -1):(S.vr n e l)[i]?.getD 0=(S.vr n e l)[(S.sp l i).2.1.toNat]?.getD 0 ||| (S.vr n e l)[(S.sp l i).2.2.toNat]?.getD 0:=by
 obtain⟨y1,y2,y3,y4⟩:=hl.j i hi hx;have key:∀a,a<i->(S.aO n e l i)[a]?=(S.vr n e l)[a]?:=λa ha=>by rw[S.vr,wE ha];exact (wE (by omega)).symm
 rw[S.vr,wE hi,Sb hx,Se,key _ (by omega),key _ (by omega),S.vr]
theorem yL{n:Net}{e:List Int}{l:List Sp}{i:Nat}(hi:i<l.length)(hx:(S.sp l i).1≠-1):(S.vr n e l)[i]?.getD 0=S.aB n e (S.sp l i).1.toNat:=by rw[S.vr,wE hi,Sa hx];rfl
theorem Qq{n:Net}{e:List Int}{l:List Sp}(hr:NR n)(hl:LEl n l):LOk n l (S.vr n e l) :=
 ⟨hl.j,hl.f,λi hi hx=>wF hl hi hx,PO hr hl⟩
theorem yM{n:Net}{e:List Int}{l:List Sp}(hr:NR n)(hl:LEl n l):∀i,i<l.length->∀v,((S.vr n e l)[i]?.getD 0).testBit v=true->e[v]?.getD 0 = -1:=by
 intro i
 induction i using Nat.strongRecOn with
 | _ i ih =>
  intro hi v hv
  by_cases hx:(S.sp l i).1 = -1
  ·obtain⟨y1,y2,y3,y4⟩:=hl.j i hi hx;rw[wF hl hi hx,dQ,SY]at hv;rcases hv with hv|hv
   ·exact ih _ (by omega) (by omega) v hv
   ·exact ih _ (by omega) (by omega) v hv
  ·have:=hl.f i hi hx;rw[yL hi hx]at hv;exact ((qF hr (by omega) e v).1 hv).2
end Hx
end
section
namespace Hx
open Go
section
variable {M:Type}{op:M->M->M}{u:M}
def S.fo(op:M->M->M)(u:M)(F:Nat->M):Nat->M
 |0=>u
 |k+1=>op (S.fo op u F k) (F k)
theorem np{F G:Nat->M}:∀{k:Nat},(∀j,j<k->F j=G j)->S.fo op u F k=S.fo op u G k
 |0,_=>rfl
 |k+1,h=>by rw[S.fo,S.fo,np λj hj=>h j (by omega),h k (by omega)]
theorem Ci(h1:∀a,op a u=a){F:Nat->M}:∀{k:Nat},(∀j,j<k->F j=u)->S.fo op u F k=u
 |0,_=>rfl
 |k+1,h=>by rw[S.fo,Ci h1 λj hj=>h j (by omega),h k (by omega),h1]
theorem Ch(h1:∀a,op a u=a)(hc:∀a b,op a b=op b a)(ha:∀a b c,op (op a b) c=op a (op b c)){F:Nat->M}{a:Nat}:∀{k:Nat},a<k->S.fo op u F k=op (S.fo op u (λj=>if j=a then u else F j) k) (F a)
 |0,h=>by omega
 | k+1,h=>by
  rw[S.fo,S.fo]
  by_cases e:a=k
  ·subst e;rw[Sb rfl,h1];congr 1;exact np λj hj=>(Sa (by omega)).symm
  ·rw[Ch h1 hc ha (by omega:a<k),Sa (λh=>e h.symm),ha,ha,hc (F a)]
def S.cg(op:M->M->M)(wt:Nat->M)(l:List Sp):Nat->Nat->M
 |0,i=>wt i
 |f+1,i=>if (S.sp l i).1 = -1 then op (op (S.cg op wt l f (S.sp l i).2.1.toNat) (S.cg op wt l f (S.sp l i).2.2.toNat)) (wt i) else wt i
def S.ev(op:M->M->M)(wt:Nat->M)(l:List Sp)(i:Nat):M:=S.cg op wt l (i+1) i
theorem KP{wt:Nat->M}{n:Net}{l:List Sp}(hl:LEl n l):∀{i f f':Nat},i<l.length->i<f->i<f'->S.cg op wt l f i=S.cg op wt l f' i:=by
 intro i
 induction i using Nat.strongRecOn with
 | _ i ih =>
  intro f f' hi h h';obtain⟨f,rfl⟩:∃k,f=k+1:=⟨f - 1,by omega⟩;obtain⟨f',rfl⟩:∃k,f'=k+1:=⟨f' - 1,by omega⟩;rw[S.cg,S.cg]
  by_cases hx:(S.sp l i).1 = -1
  ·obtain⟨y1,y2,y3,y4⟩:=hl.j i hi hx;rw[Sb hx,Sb hx,ih (S.sp l i).2.1.toNat (by omega) (f:=f) (f':=f') (by omega) (by omega) (by omega),ih (S.sp l i).2.2.toNat (by omega) (f:=f) (f':=f') (by omega) (by omega) (by omega)]
  ·rw[Sa hx,Sa hx]
theorem vE{wt:Nat->M}{n:Net}{l:List Sp}(hl:LEl n l){i:Nat}(hi:i<l.length)(hx:(S.sp l i).1 = -1):S.ev op wt l i=op (op (S.ev op wt l (S.sp l i).2.1.toNat) (S.ev op wt l (S.sp l i).2.2.toNat)) (wt i):=by obtain⟨y1,y2,y3,y4⟩:=hl.j i hi hx;rw[S.ev,S.cg,Sb hx,S.ev,S.ev,KP hl (f:=i) (f':=(S.sp l i).2.1.toNat+1) (by omega) (by omega) (by omega),KP hl (f:=i) (f':=(S.sp l i).2.2.toNat+1) (by omega) (by omega) (by omega)]
theorem vF{wt:Nat->M}{l:List Sp}{i:Nat}(hx:(S.sp l i).1≠-1):S.ev op wt l i=wt i:=by rw[S.ev,S.cg,Sa hx]
end
structure LCk (n:Net) (l:List Sp):Prop where
 len:(l.length:Int)=2*(n.nodes.length:Int) - 1
 el:LEl n l
 uq:LUq l
 nu:∀i,i<l.length->(S.sp l i).1 = -1->S.ax l i (S.sp l i).2.1=false/\S.ax l i (S.sp l i).2.2=false
 nl:∀i,i<l.length->(S.sp l i).1≠-1->S.aT l i (S.sp l i).1=false
 al:∀v:Nat,v<n.nodes.length->S.aT l l.length (v:Int)=true
 au:∀e:Nat,e<l.length - 1->S.ax l l.length (e:Int)=true
theorem LZ{n:Net}{l:List Sp}(h:S.ck l n.nodes.length=true):LCk n l:=by
 obtain⟨h1,h2,h3⟩:=KC h;simp only[S.ck,R7,Sg,Sy,Sm]at h;obtain⟨⟨⟨-,h4⟩,h5⟩,h6⟩:=h;refine⟨h1,h2,h3,λi hi hx=>?_,λi hi hx=>?_,h5,h6⟩
 ·have:=h4 i hi;rw[S.bp,Sb hx,R7,R7,SP,SP]at this;exact⟨this.1.2,this.2⟩
 ·have:=h4 i hi;rw[S.bp,Sa hx,R7,SP]at this;exact this.2
theorem GT{n:Net}{l:List Sp}(hl:LEl n l){i:Nat}(hi:i<=l.length){e:Nat}(he:i<=e+1):S.ax l i (e:Int)=false:=by
 cases h:S.ax l i (e:Int) with
 |false=>rfl
 | true =>
  obtain⟨j,hj,hx,h2⟩:=gX.1 h;obtain⟨y1,y2,y3,y4⟩:=hl.j j (by omega) hx;omega
section
variable {M:Type}{op:M->M->M}{u:M}{n:Net}{l:List Sp}
theorem Aa(h1:∀a,op a u=a)(hc:∀a b,op a b=op b a)(ha:∀a b c,op (op a b) c=op a (op b c))(hl:LCk n l)(wt:Nat->M) :
  ∀{i:Nat},i<=l.length->S.fo op u (λj=>if S.ax l i (j:Int)=true then u else S.ev op wt l j) i=S.fo op u wt i
 |0,_=>rfl
 | i+1,hi=>by
  have ih:=Aa h1 hc ha hl wt (i:=i) (by omega);have hui:S.ax l (i+1) (i:Int)=false:=GT hl.el hi (by omega);rw[S.fo,S.fo,Sa (by rw[hui];exact Vr),<-ih]
  by_cases hx:(S.sp l i).1 = -1
  ·obtain⟨y1,y2,y3,y4⟩:=hl.el.j i (by omega) hx;obtain⟨a,ea⟩:=R8 y1;obtain⟨b,eb⟩:=R8 y3;have hne:=hl.uq.ne i (by omega) hx;obtain⟨n1,n2⟩:=hl.nu i (by omega) hx;rw[vE hl.el (by omega) hx];rw[ea]at y2 hne n1;rw[eb]at y4 hne n2;rw[ea,eb,Sx,Sx];have e1:S.fo op u (λj=>if S.ax l (i+1) (j:Int)=true then u else S.ev op wt l j) i=S.fo op u (λj=>if j=b then u else if j=a then u else if S.ax l i (j:Int)=true then u else S.ev op wt l j) i:=np λj hj=>by
    rw[wD,hx,ea,eb]
    by_cases c1:j=b
    ·subst c1;simp
    ·by_cases c2:j=a
     ·subst c2;simp
     ·have:¬(a:Int)=(j:Int):=by omega
      have:¬(b:Int)=(j:Int):=by omega
      simp[*]
   rw[e1]
   conv=>rhs;rw[Ch h1 hc ha (show a<i by omega)]
   rw[Ch (F:=λj=>if j=a then u else if S.ax l i (j:Int)=true then u else S.ev op wt l j) (a:=b) h1 hc ha (show b<i by omega)];simp only[n1,n2,TC,if_false];rw[Sa (show ¬b=a from λe=>hne (by rw[e]))];rw[<-ha,<-ha];congr 1;rw[ha,ha,hc (S.ev op wt l b)]
  ·rw[vF hx];congr 1;exact np λj hj=>by rw[wD];simp[hx]
theorem Ai(h1:∀a,op a u=a)(hc:∀a b,op a b=op b a)(ha:∀a b c,op (op a b) c=op a (op b c))(hl:LCk n l)(h0:0<l.length)(wt:Nat->M) :
  S.ev op wt l (l.length - 1)=S.fo op u wt l.length:=by
 rw[<-Aa h1 hc ha hl wt (R5 _)];obtain⟨m,hm⟩:∃m,l.length=m+1:=⟨l.length - 1,by omega⟩;have hui:S.ax l (m+1) (m:Int)=false:=GT hl.el (by omega) (by omega);rw[hm,U5,S.fo,Sa (by rw[hui];exact Vr),Ci h1,hc,h1];intro j hj;rw[Sb];rw[<-hm];exact hl.au j (by omega)
theorem Ei(h1:∀a,op a u=a)(hc:∀a b,op a b=op b a)(ha:∀a b c,op (op a b) c=op a (op b c))(hl:LCk n l)(F:Nat->M) :
  S.fo op u (λj=>if (S.sp l j).1 = -1 then u else F (S.sp l j).1.toNat) l.length=S.fo op u F n.nodes.length:=by
 have key:∀i,i<=l.length->S.fo op u (λj=>if (S.sp l j).1 = -1 then u else F (S.sp l j).1.toNat) i=S.fo op u (λv=>if S.aT l i (v:Int)=true then F v else u) n.nodes.length:=by
  intro i
  induction i with
  |zero=>intro _;exact (Ci h1 λj _=>by simp[S.aT]).symm
  | succ i ih =>
   intro hi;rw[S.fo,ih (by omega)]
   by_cases hx:(S.sp l i).1 = -1
   ·rw[Sb hx,h1];refine np λj hj=>?_;rw[te,hx];have:¬(-1:Int)=(j:Int):=by omega
    simp[this]
   ·obtain⟨y1,y2⟩:=hl.el.f i (by omega) hx;have hn:=hl.nl i (by omega) hx;obtain⟨v,ev⟩:=R8 y1;rw[Sa hx];rw[ev]at y2 hn;rw[ev,Sx]
    conv=>rhs;rw[Ch (a:=v) h1 hc ha (by omega)]
    rw[te,ev,Sb (by simp)];congr 1;refine np λj hj=>?_
    by_cases c:j=v
    ·subst c;rw[Sb rfl,Sa (by rw[hn];exact Vr)]
    ·have:¬(v:Int)=(j:Int):=by omega
     rw[Sa c,te,ev];simp[this]
 rw[key _ (R5 _)];exact np λv hv=>Sb (hl.al v hv)
end
def S.bM(l:List Sp)(i:Nat):Nat:=S.ev (·+·) (λ_=>1) l i
def S.bk(l:List Sp)(e i:Nat):Nat:=S.ev (·+·) (λj=>if j=e then 1 else 0) l i
theorem Pl{F:Nat->Nat}{a:Nat}:∀{k:Nat},a<k->F a<=S.fo (·+·) 0 F k
 |0,h=>by omega
 | k+1,h=>by
  rw[S.fo]
  by_cases e:a=k
  ·subst e;omega
  ·have:=Pl (F:=F) (show a<k by omega);omega
theorem K9(e:Nat):∀k:Nat,S.fo (·+·) 0 (λj=>if j=e then 1 else 0) k<=1/\(k<=e->S.fo (·+·) 0 (λj=>if j=e then 1 else 0) k=0)
 |0=>⟨by simp[S.fo],λ_=>rfl⟩
 | k+1=>by
  obtain⟨h1,h2⟩:=K9 e k;simp only[S.fo]
  by_cases c:k=e
  ·subst c;have:=h2 (R5 _);rw[Sb rfl];omega
  ·rw[Sa c];exact⟨by omega,λh=>by rw[h2 (by omega)]⟩
theorem K_:∀k:Nat,S.fo (·+·) 0 (λ_=>1) k=k
 |0=>rfl
 |k+1=>by rw[S.fo,K_ k]
theorem Dq{n:Net}{l:List Sp}(hl:LCk n l)(h0:0<l.length):S.bM l (l.length - 1)=l.length:=by rw[S.bM,Ai (u:=0) (λa=>TV a) Uc TZ hl h0,K_]
theorem Do{n:Net}{l:List Sp}(hl:LEl n l){i:Nat}(hi:i<l.length)(hx:(S.sp l i).1 = -1):S.bM l i=S.bM l (S.sp l i).2.1.toNat+S.bM l (S.sp l i).2.2.toNat+1:=vE hl hi hx
theorem Dp{l:List Sp}{i:Nat}(hx:(S.sp l i).1≠-1):S.bM l i=1:=vF hx
theorem zD{n:Net}{l:List Sp}(hl:LEl n l){i e:Nat}(hi:i<l.length)(hx:(S.sp l i).1 = -1):S.bk l e i=S.bk l e (S.sp l i).2.1.toNat+S.bk l e (S.sp l i).2.2.toNat+if i=e then 1 else 0:=vE hl hi hx
theorem Ql{n:Net}{l:List Sp}(hl:LCk n l){i:Nat}(hi:i<l.length)(e:Nat):S.bk l e i<=1:=by have h:S.fo (·+·) 0 (λj=>if S.ax l (i+1) (j:Int)=true then 0 else S.ev (·+·) (λj=>if j=e then 1 else 0) l j) (i+1)=S.fo (·+·) 0 (λj=>if j=e then 1 else 0) (i+1):=Aa (λa=>TV a) Uc TZ hl _ (by omega);have h2:=K9 e (i+1);have hui:S.ax l (i+1) (i:Int)=false:=GT hl.el (by omega) (by omega);have h3:=Pl (F:=λj=>if S.ax l (i+1) (j:Int)=true then 0 else S.ev (·+·) (λj=>if j=e then 1 else 0) l j) (show i<i+1 by omega);rw[h]at h3;simp only[hui,TC,if_false]at h3;rw[S.bk];omega
theorem Jk{n:Net}{l:List Sp}(hl:LCk n l){i e:Nat}(hi:i<l.length)(hx:(S.sp l i).1 = -1)(h:0<S.bk l e (S.sp l i).2.1.toNat):S.bk l e (S.sp l i).2.2.toNat=0/\e≠i:=by
 have h1:=Ql hl hi e;rw[zD hl.el hi hx]at h1
 by_cases c:i=e
 ·rw[Sb c]at h1;omega
 ·exact⟨by omega,λh=>c h.symm⟩
theorem Ea{n:Net}{l:List Sp}(hl:LEl n l){i:Nat}(hi:i<l.length):0<S.bk l i i:=by
 by_cases hx:(S.sp l i).1 = -1
 ·rw[zD hl hi hx,Sb rfl];omega
 ·rw[S.bk,vF hx,Sb rfl];omega
end Hx
end
section
namespace Hx
open Go
theorem QY{x y:Int}(h:x % 18446744073709551616=y % 18446744073709551616):w64 x=w64 y:=by
 have h':x % (2 ^ 64:Int)=y % (2 ^ 64:Int):=by omega
 simp only[w64,IntKind.wrap,IntKind.bits,IntKind.signed,Td,Sg,h'];simp
theorem yN(x:Int):w64 x % 18446744073709551616=x % 18446744073709551616:=by
 simp only[w64,IntKind.wrap,IntKind.bits,IntKind.signed,Td,Sg]
 split<;>omega
theorem Nm(s x y:Int):w64 (w64 s+w64 (w64 x*w64 y))=w64 (s+x*y):=QY (by
 rw[Int.add_emod,yN,yN,Int.mul_emod,yN,yN,<-Int.mul_emod,<-Int.add_emod])
def S.gw(n:Net)(l:List Sp)(w:List Int)(j:Nat):Int:=if (S.sp l j).1 = -1 then 1 else S.aC n w (S.sp l j).1.toNat
def S.br(n:Net)(l:List Sp)(i:Nat)(w:List Int):Int:=S.ev (·*·) (S.gw n l w) l i
theorem zA{n:Net}{l:List Sp}(hl:LEl n l){i:Nat}(hi:i<l.length)(hx:(S.sp l i).1 = -1)(w:List Int):S.br n l i w=S.br n l (S.sp l i).2.1.toNat w*S.br n l (S.sp l i).2.2.toNat w:=by have h:S.br n l i w=S.br n l (S.sp l i).2.1.toNat w*S.br n l (S.sp l i).2.2.toNat w*S.gw n l w i:=vE hl hi hx;rw[h,S.gw,Sb hx,Int.mul_one]
theorem zB{n:Net}{l:List Sp}{i:Nat}(hx:(S.sp l i).1≠-1)(w:List Int):S.br n l i w=S.aC n w (S.sp l i).1.toNat:=by have h:S.br n l i w=S.gw n l w i:=vF hx;rw[h,S.gw,Sa hx]
theorem NX{n:Net}{w w':List Int}{u:Nat}(h:∀p∈S.aK n u,w[p.toNat]?.getD 0=w'[p.toNat]?.getD 0):S.aC n w u=S.aC n w' u:=by
 unfold S.aC
 split
 ·rfl
 ·rename_i x hx;have hfl:S.aK n u=x.parents++[(u:Int)]:=by simp[S.aK,hx]
  rw[hfl]at h;have e1:S.ac w x.parents=S.ac w' x.parents:=Ti λp hp=>h p (by simp[hp]);have e2:=h (u:Int) (by simp);rw[Sx]at e2;rw[e1,e2]
theorem Ck{n:Net}{l:List Sp}{e:List Int}(hr:NR n)(hl:LEl n l){w w':List Int}:∀{i:Nat},i<l.length->(∀v:Nat,v<n.nodes.length->(e[v]?.getD 0≠-1\/((S.vr n e l)[i]?.getD 0).testBit v=true)->w[v]?.getD 0=w'[v]?.getD 0)->S.br n l i w=S.br n l i w':=by
 intro i
 induction i using Nat.strongRecOn with
 | _ i ih =>
  intro hi h
  by_cases hx:(S.sp l i).1 = -1
  ·obtain⟨y1,y2,y3,y4⟩:=hl.j i hi hx;rw[zA hl hi hx,zA hl hi hx];rw[wF hl hi hx]at h;rw[ih _ (by omega) (by omega) λv hv hh=>h v hv (hh.imp id λhb=>by rw[dQ,hb,U2]),
    ih _ (by omega) (by omega) λv hv hh=>h v hv (hh.imp id λhb=>by rw[dQ,hb,Vx])]
  ·obtain⟨y1,y2⟩:=hl.f i hi hx;rw[zB hx,zB hx];rw[yL hi hx]at h;refine NX λp hp=>?_;have hb:=oq hr (by omega) p hp;refine h _ (by omega) ?_
   by_cases c:e[p.toNat]?.getD 0 = -1
   ·exact .inr ((qF hr (by omega) e _).2 ⟨by rw[Vn hb.1];exact hp,c⟩)
   ·exact .inl c
theorem vO{w:List Int}{a i:Nat}{x:Int}(h:i≠a):(w.set a x)[i]?.getD 0=w[i]?.getD 0:=by rw[Ty (To h)]
def S.nm(n:Net)(l:List Sp)(i s:Nat)(w:List Int):Int:=S.am (S.aa n) (S.af n s) (S.br n l i) w
theorem OD{n:Net}{l:List Sp}{e:List Int}(hr:NR n)(hl:LEl n l){i ab:Nat}(hi:i<l.length)(hx:(S.sp l i).1 = -1){va vb c:Nat}(hva:va=(S.vr n e l)[(S.sp l i).2.1.toNat]?.getD 0)(hvb:vb=(S.vr n e l)[(S.sp l i).2.2.toNat]?.getD 0)(hc:c=S.an (va &&& vb) ab)(w:List Int) :
  S.nm n l i (S.an ((S.vr n e l)[i]?.getD 0) ab) w=S.am (S.aa n) (S.af n c) (λw=>S.nm n l (S.sp l i).2.1.toNat (S.an va (ab ||| c)) w*S.nm n l (S.sp l i).2.2.toNat (S.an vb (ab ||| c)) w) w:=by
 obtain⟨y1,y2,y3,y4⟩:=hl.j i hi hx;have ho:=yM (e:=e) hr hl;have e1:S.af n (S.an ((S.vr n e l)[i]?.getD 0) ab)=(List.range n.nodes.length).filter λv=>c.testBit v || ((S.an va (ab ||| c)).testBit v || (S.an vb (ab ||| c)).testBit v):=by rw[S.af];refine Uf λv _=>?_;rw[wF hl hi hx,<-hva,<-hvb,hc];simp only[gO,dQ,Ua];cases va.testBit v<;>cases vb.testBit v<;>cases ab.testBit v<;>rfl
 rw[S.nm,e1,yP (λv h=>?_) Vk]
 ·show S.am (S.aa n) (S.af n c) _ w=_;congr 1;refine funext λw=>?_;rw[yP (λv h=>?_) Vk]
  ·rw[show (S.br n l i)=λw=>S.br n l (S.sp l i).2.1.toNat w*S.br n l (S.sp l i).2.2.toNat w from funext λw=>zA hl hi hx w];refine Kl (λv hv hv2=>?_) (λv hv x w=>?_) (λv hv x w=>?_)
   ·rw[Tk]at hv hv2;have h1:=hv.2;have h2:=hv2.2;rw[hc]at h1 h2;simp only[gO,dQ,Ua]at h1 h2;revert h1 h2;cases va.testBit v<;>cases vb.testBit v<;>cases ab.testBit v<;>simp
   ·rw[Tk]at hv;have h2:=hv.2;refine Ck (e:=e) hr hl (by omega) λu hu hh=>vO λeq=>?_;subst eq;rw[hc]at h2;simp only[gO,dQ,Ua]at h2;rcases hh with hh|hh
    ·refine hh (ho _ (show (S.sp l i).2.2.toNat<l.length by omega) u ?_);rw[<-hvb];revert h2;cases va.testBit u<;>cases vb.testBit u<;>simp
    ·rw[<-hva]at hh;revert h2;rw[hh];cases vb.testBit u<;>cases ab.testBit u<;>simp
   ·rw[Tk]at hv;have h2:=hv.2;refine Ck (e:=e) hr hl (by omega) λu hu hh=>vO λeq=>?_;subst eq;rw[hc]at h2;simp only[gO,dQ,Ua]at h2;rcases hh with hh|hh
    ·refine hh (ho _ (show (S.sp l i).2.1.toNat<l.length by omega) u ?_);rw[<-hva];revert h2;cases va.testBit u<;>cases vb.testBit u<;>simp
    ·rw[<-hvb]at hh;revert h2;rw[hh];cases va.testBit u<;>cases ab.testBit u<;>simp
  ·rw[hc]at h ⊢;simp only[gO,dQ,Ua]at h ⊢;revert h;cases va.testBit v<;>cases vb.testBit v<;>cases ab.testBit v<;>simp
 ·rw[hc]at h ⊢;simp only[gO,dQ,Ua]at h ⊢;revert h;cases va.testBit v<;>cases vb.testBit v<;>cases ab.testBit v<;>simp
structure Ev (n:Net) (e:List Int) (ab:Nat) (w:List Int):Prop where
 l:w.length=n.nodes.length
 k:∀v:Nat,v<n.nodes.length->e[v]?.getD 0≠-1->w[v]?.getD 0=e[v]?.getD 0
 o:∀v:Nat,v<n.nodes.length->e[v]?.getD 0 = -1->(w[v]?.getD 0 = -1↔ab.testBit v=false)
theorem Ij{v:Nat}:∀{L:List Nat} {w w' xs:List Int},w.length=w'.length->xs.length=L.length->(v∈L\/w[v]?=w'[v]?)->(S.aE w L xs)[v]?=(S.aE w' L xs)[v]?
 | [],w,w',xs,_,_,h=>by
  rcases h with h|h
  ·simp at h
  ·simpa [S.aE] using h
 |u::r,w,w',[],_,h2,_=>by simp at h2
 | u::r,w,w',x::xs,h1,h2,h=>by
  rw[S.aE,S.aE];refine Ij (by simp[h1]) (by simpa using h2) ?_
  by_cases c:u=v
  ·subst c;right;rw[S8,S8,h1];simp
  ·rcases h with h|h
   ·exact .inl ((Sq.1 h).resolve_left λe=>c e.symm)
   ·right;rw[Ty c,Ty c,h]
theorem QA{n:Net}{l:List Sp}{e:List Int}(hr:NR n)(hl:LEl n l){i ab:Nat}(hi:i<l.length){w w':List Int}(hw:Ev n e ab w)(hw':Ev n e ab w')(hk:S.aS w ((S.vr n e l)[i]?.getD 0 &&& ab)=S.aS w' ((S.vr n e l)[i]?.getD 0 &&& ab)) :
  S.nm n l i (S.an ((S.vr n e l)[i]?.getD 0) ab) w=S.nm n l i (S.an ((S.vr n e l)[i]?.getD 0) ab) w':=by
 have h8:=hr.l2;rw[S.nm,S.nm,yq,yq];refine qm λxs hxs=>Ck (e:=e) hr hl hi λv hv hh=>?_;have hlen:xs.length=(S.af n (S.an ((S.vr n e l)[i]?.getD 0) ab)).length:=by simpa using hxs.len
 by_cases c:v∈S.af n (S.an ((S.vr n e l)[i]?.getD 0) ab)
 ·exact congrArg (λo=>Option.getD o 0) (Ij (hw.l.trans hw'.l.symm) hlen (.inl c))
 ·rw[qk c,qk c]
  by_cases hv1:e[v]?.getD 0 = -1
  ·rcases hh with hh|hh
   ·exact absurd hv1 hh
   ·have hab:ab.testBit v=true:=by
     cases hb:ab.testBit v with
     |true=>rfl
     |false=>exact absurd (lZ.2 ⟨hv,by rw[gO,hh,hb];rfl⟩) c
    have h1:=congrArg (λL:List Int=>L[v]?) hk;simp only[S.aS,R_,UU (show v<8 by omega),TY,Ua,hh,hab,UQ,if_true,S9]at h1;exact h1
  ·rw[hw.k v hv hv1,hw'.k v hv hv1]
theorem QK{n:Net}{e:List Int}(hr:NR n){ab c:Nat}(hc:∀v:Nat,c.testBit v=true->e[v]?.getD 0 = -1){w:List Int}(hw:Ev n e ab w)(j:Nat):Ev n e (ab ||| c) (S.ap n w (S.af n c) j):=by
 refine⟨by rw[S.ap,tk];exact hw.l,λv hv h=>?_,λv hv h=>?_⟩
 ·have:v ∉ S.af n c:=λhm=>h (hc v (lZ.1 hm).2);rw[wo this];exact hw.k v hv h
 ·by_cases hm:v∈S.af n c
  ·obtain⟨x,h1,h2,h3⟩:=Gy hr hw.l (j:=j) hm;rw[h1,dQ,(lZ.1 hm).2,Vx,Se];constructor
   ·intro hx;omega
   ·intro hx;cases hx
  ·rw[wo hm,hw.o v hv h,dQ];have:c.testBit v=false:=by
    cases hb:c.testBit v with
    |false=>rfl
    |true=>exact absurd (lZ.2 ⟨hv,hb⟩) hm
   rw[this,Bool.or_false]
theorem M2{n:Net}(hr:NR n)(s:Nat)(F:List Int->Int)(w:List Int):S.sm (λj=>F (S.ap n w (S.af n s) j)) (S.aF n (S.af n s))=S.am (S.aa n) (S.af n s) F w:=by refine Fs λv hv=>?_;have:=(lZ.1 hv).1;rw[R4 (by rw[aX];exact this),Se];exact (hr.cs _ (Ta _)).1
theorem Qp{n:Net}{l:List Sp}{e:List Int}(hr:NR n)(hl:LEl n l){i ab:Nat}(hi:i<l.length)(hx:(S.sp l i).1≠-1){w:List Int}(hw:Ev n e ab w):S.cG n w (S.sp l i).1.toNat=S.nm n l i (S.an ((S.vr n e l)[i]?.getD 0) ab) w:=by
 obtain⟨y1,y2⟩:=hl.f i hi hx;have e1:S.af n (S.aB n w (S.sp l i).1.toNat)=S.af n (S.an ((S.vr n e l)[i]?.getD 0) ab):=by
  rw[S.af,S.af,yL hi hx];refine Uf λv hv=>?_;have hv:=Sm.1 hv;rw[Tz,qF hr (by omega),gO,R7,qF hr (by omega),SP]
  by_cases c:e[v]?.getD 0 = -1
  ·rw[hw.o v hv c];constructor
   ·rintro⟨a,b⟩;exact⟨⟨a,c⟩,b⟩
   ·rintro⟨⟨a,-⟩,b⟩;exact⟨a,b⟩
  ·rw[hw.k v hv c];constructor
   ·rintro⟨a,b⟩;exact absurd b c
   ·rintro⟨⟨-,b⟩,-⟩;exact absurd b c
 rw[S.cG,M2 hr _ (λw=>S.aC n w (S.sp l i).1.toNat),e1,S.nm];congr 1;exact funext λw=>(zB hx w).symm
end Hx
end
section
namespace Hx
open Go
section
variable {α:Type} [DecidableEq α]
theorem zT(k:α)(v:Int):∀(L:List (α×Int)) (a:α),fT (mst k v L) a=(decide (a=k) || fT L a)
 |[],a=>by simp[mst,fT]
 | (b,w)::r,a=>by
  rw[mst]
  split
  ·rename_i h;subst h;simp[fT]
  ·have ih:=zT k v r a;simp only[fT]at ih;simp only[fT,List.any_cons,ih];cases decide (a=b)<;>cases decide (a=k)<;>rfl
theorem HW(k:α)(v:Int):∀(L:List (α×Int)) (a:α),mgt (mst k v L) a=if a=k then v else mgt L a
 |[],a=>by simp[mst,mgt]
 | (b,w)::r,a=>by
  rw[mst]
  split
  ·rename_i h;subst h
   by_cases c:a=k
   ·simp[mgt,c]
   ·simp[mgt,c]
  ·rename_i h;have ih:=HW k v r a;simp only[mgt,ih]
   by_cases c:a=b
   ·subst c;rw[Sb rfl,Sa λe=>h e.symm,Sb rfl]
   ·simp[c]
end
theorem yH{rec:Rec}{n:Net}{w:List Int}{cu:List Nat}{a b ab:Nat}{st:MSt}{P:Nat->Int×MSt->Prop}(h0:P 0 (0,st)):∀{k:Nat},(∀j s,j<k->P j s->P (j+1) (w64 (s.1+w64 ((rec a (S.ap n w cu j) ab s.2).1*(rec b (S.ap n w cu j) ab (rec a (S.ap n w cu j) ab s.2).2).1)),(rec b (S.ap n w cu j) ab (rec a (S.ap n w cu j) ab s.2).2).2))->P k (S.bL rec n w cu a b ab st k)
 |0,_=>h0
 |k+1,hs=>hs k _ (by omega) (yH h0 λj s hj=>hs j s (by omega))
def GM(n:Net)(e:List Int)(l:List Sp)(ab:List Nat)(M:Mem):Prop:=∀(i:Nat) (k:List Int),i<l.length->fT M ((i:Int),k)=true->∀w,Ev n e (ab[i]?.getD 0) w->S.aS w ((S.vr n e l)[i]?.getD 0 &&& ab[i]?.getD 0)=k->mgt M ((i:Int),k)=w64 (S.nm n l i (S.an ((S.vr n e l)[i]?.getD 0) (ab[i]?.getD 0)) w)
theorem Qj(n:Net)(e:List Int)(l:List Sp)(ab:List Nat):GM n e l ab []:=λi k _ h=>by simp[fT]at h
theorem CI{n:Net}{e:List Int}{l:List Sp}{cut ctx ab:List Nat}{size:Int}(hr:NR n)(hl:LEl n l)(hT:Sta l (S.vr n e l) cut ctx ab):∀(f i:Nat) (w:List Int) (st:MSt),i<f->i<l.length->Wv n w->Ev n e (ab[i]?.getD 0) w->GM n e l ab st.1 ->
  (S.ay n l (S.vr n e l) size f i w (ab[i]?.getD 0) st).1=w64 (S.nm n l i (S.an ((S.vr n e l)[i]?.getD 0) (ab[i]?.getD 0)) w)/\GM n e l ab (S.ay n l (S.vr n e l) size f i w (ab[i]?.getD 0) st).2.1
 |0,i,w,st,h,_,_,_,_=>by omega
 | f+1,i,w,st,h,hi,hW,hE,hM=>by
  rw[S.ay]
  by_cases hx:(S.sp l i).1 = -1
  ·rw[Sb hx];obtain⟨y1,y2,y3,y4⟩:=hl.j i hi hx
   by_cases hm:fT st.1 ((i:Int),S.aS w ((S.vr n e l)[i]?.getD 0 &&& ab[i]?.getD 0))=true
   ·rw[Sb hm];exact⟨hM i _ hi hm w hE rfl,hM⟩
   ·rw[Sa hm];have hc:=hT.s2 i hi hx;have h3:=hT.s3 i hi hx;have h4:=hT.s4 i hi hx;rw[hc]at h3 h4;obtain⟨c,hcc⟩:∃c,c=S.an ((S.vr n e l)[(S.sp l i).2.1.toNat]?.getD 0 &&& (S.vr n e l)[(S.sp l i).2.2.toNat]?.getD 0) (ab[i]?.getD 0):=⟨_,rfl⟩;rw[<-hcc]at h3 h4 ⊢;dsimp only;have hco:∀v:Nat,c.testBit v=true->e[v]?.getD 0 = -1:=λv hv=>by rw[hcc,gO,Ua,R7,R7]at hv;exact yM hr hl _ (show (S.sp l i).2.1.toNat<l.length by omega) v hv.1.1
    have hJ:=OD hr hl (ab:=ab[i]?.getD 0) hi hx rfl rfl hcc w;rw[<-M2 hr c (λw=>S.nm n l (S.sp l i).2.1.toNat (S.an ((S.vr n e l)[(S.sp l i).2.1.toNat]?.getD 0) (ab[i]?.getD 0 ||| c)) w*S.nm n l (S.sp l i).2.2.toNat (S.an ((S.vr n e l)[(S.sp l i).2.2.toNat]?.getD 0) (ab[i]?.getD 0 ||| c)) w) w]at hJ;obtain⟨k,hk⟩:∃k,k=S.aF n (S.af n c):=⟨_,rfl⟩;rw[<-hk]at hJ ⊢;obtain⟨r,hr'⟩:∃r,r=S.bL (S.ay n l (S.vr n e l) size f) n w (S.af n c) (S.sp l i).2.1.toNat (S.sp l i).2.2.toNat (ab[i]?.getD 0 ||| c) (st.1,w64 (st.2+1)) k:=⟨_,rfl⟩;have key:r.1=w64 (S.nm n l i (S.an ((S.vr n e l)[i]?.getD 0) (ab[i]?.getD 0)) w)/\GM n e l ab r.2.1:=by rw[hJ,hr'];refine yH (rec:=S.ay n l (S.vr n e l) size f) (st:=(st.1,w64 (st.2+1))) (P:=λj s=>s.1=w64 (S.sm (λj=>S.nm n l (S.sp l i).2.1.toNat (S.an ((S.vr n e l)[(S.sp l i).2.1.toNat]?.getD 0) (ab[i]?.getD 0 ||| c)) (S.ap n w (S.af n c) j)*S.nm n l (S.sp l i).2.2.toNat (S.an ((S.vr n e l)[(S.sp l i).2.2.toNat]?.getD 0) (ab[i]?.getD 0 ||| c)) (S.ap n w (S.af n c) j)) j)/\GM n e l ab s.2.1) ⟨rfl,hM⟩ ?_;intro j s hj ⟨p1,p2⟩;have hE':=QK hr hco hE j;have hW':=MJ hr hW c j;obtain⟨a1,a2⟩:=CI hr hl hT f (S.sp l i).2.1.toNat (S.ap n w (S.af n c) j) s.2 (by omega) (by omega) hW' (by rw[h3];exact hE') p2;rw[h3]at a1 a2;obtain⟨b1,b2⟩:=CI hr hl hT f (S.sp l i).2.2.toNat (S.ap n w (S.af n c) j) (S.ay n l (S.vr n e l) size f (S.sp l i).2.1.toNat (S.ap n w (S.af n c) j) (ab[i]?.getD 0 ||| c) s.2).2 (by omega) (by omega) hW' (by rw[h4];exact hE') a2;rw[h4]at b1 b2;refine⟨?_,b2⟩;dsimp only;rw[a1,b1,p1,Nm,S.sm]
    rw[<-hr'];refine⟨key.1,?_⟩
    split
    ·intro i' k' hi' hm' w' hw' hk';rw[HW]
     split
     ·rename_i heq;have e1:(i':Int)=(i:Int):=congrArg Prod.fst heq;have e2:k'=_:=congrArg Prod.snd heq;have e1:i'=i:=by omega
      subst e1;dsimp only at e2;rw[key.1,QA hr hl hi hE hw' (by rw[hk',e2])]
     ·rename_i hne;rw[zT,S6 hne,Bool.false_or]at hm';exact key.2 i' k' hi' hm' w' hw' hk'
    ·exact key.2
  ·rw[Sa hx];obtain⟨y1,y2⟩:=hl.f i hi hx;refine⟨?_,hM⟩;dsimp only;rw[<-Qp hr hl hi hx hE,S.cG];obtain⟨b1,b2⟩:=xi hr hW (v:=(S.sp l i).1.toNat) (by omega) (S.aF n (S.af n (S.aB n w (S.sp l i).1.toNat)));have hcs:=tg hr (S.aB n w (S.sp l i).1.toNat);obtain⟨W1,W2,W3⟩:=hcs.nc;have hW3:S.aF n (S.af n (S.aB n w (S.sp l i).1.toNat))<=65536:=W2;exact (ax (by omega) (by omega)).symm
end Hx
end
section
namespace Hx
open Go
theorem Iq(n:Net)(p:Nat->Bool):∀k,S.bc n p k=S.sm (λj=>if p j then S.bo n (S.aD (S.aa n) (j:Int)) else 0) k
 |0=>rfl
 |k+1=>by rw[S.bc,S.sm,Iq n p k]
theorem vG{n:Net}{e:List Int}(h:S.aJ n e=true):e.length=n.nodes.length/\∀(i:Nat) (x:Int),e[i]?=some x->x = -1\/0<=x/\x<(S.aa n)[i]?.getD 0:=by simp only[S.aJ,R7,Sg,Sy,Sm]at h;refine⟨h.1,λi x hx=>?_⟩;have:=h.2 i (R6.1 hx).1;rw[hx,Se]at this;omega
theorem Hr{n:Net}{e:List Int}(h:S.aJ n e=true):Wv n e:=by obtain⟨h1,h2⟩:=vG h;refine⟨h1,λv hv=>?_⟩;have:=h2 v e[v] (R4 (by omega));rw[R4 (by omega),Se];exact this
theorem NU{n:Net}{e:List Int}(h:S.aJ n e=true):Ev n e 0 e:=⟨(vG h).1,λ_ _ _=>rfl,λv _ hv=>by simp[hv]⟩
theorem Jy{n:Net}(hr:NR n){e:List Int}(h:S.aJ n e=true):S.bF n e=S.am (S.aa n) ((List.range n.nodes.length).filter λv=>decide (e[v]?.getD 0 = -1)) (S.bo n) e:=by
 obtain⟨h1,h2⟩:=vG h;have t1:=Fi (F:=S.bo n) (cs:=S.aa n) (e:=e) (pc:=[]) (pv:=[]) (by rw[aX,h1]) rfl h2;simp only[Sf,T8,aX]at t1;rw[List.range_eq_range',<-t1,S.bF,Iq];have t2:=uU (cs:=S.aa n) (pre:=[]) (pv:=[]) (λvs=>if S.bO vs e then S.bo n vs else 0) (λc hc=>(hr.cs c (by simpa using hc)).1) trivial;simp only[Sf,S.ah,Int.zero_mul,Int.zero_add]at t2;rw[<-t2]
 rfl
theorem Hw(F:Nat->Int):∀k,S.fo (·*·) 1 F k=S.ae ((List.range k).map F)
 |0=>rfl
 |k+1=>by rw[S.fo,Hw F k,Tw,TA,List.map_singleton,mF]
theorem Ls{n:Net}{l:List Sp}(hl:LCk n l)(h0:0<l.length)(w:List Int):S.br n l (l.length - 1) w=S.bo n w:=by have h:S.br n l (l.length - 1) w=S.fo (·*·) 1 (S.gw n l w) l.length:=Ai (λa=>Int.mul_one a) Vh Uq hl h0 _;have h2:S.fo (·*·) 1 (S.gw n l w) l.length=S.fo (·*·) 1 (S.aC n w) n.nodes.length:=Ei (λa=>Int.mul_one a) Vh Uq hl _;rw[h,h2,Hw];rfl
theorem Pm{F:Nat->Bool}{u:Nat}(hu:F u=true):∀{k:Nat},u<k->S.fo (· || ·) false F k=true
 |0,h=>by omega
 | k+1,h=>by
  rw[S.fo]
  by_cases e:u=k
  ·subst e;rw[hu,Vx]
  ·rw[Pm hu (by omega:u<k),U2]
theorem RF{n:Net}{e:List Int}{l:List Sp}(hl:LEl n l)(v:Nat):∀{i:Nat},i<l.length->((S.vr n e l)[i]?.getD 0).testBit v=S.ev (· || ·) (λj=>if (S.sp l j).1 = -1 then false else (S.aB n e (S.sp l j).1.toNat).testBit v) l i:=by
 intro i
 induction i using Nat.strongRecOn with
 | _ i ih =>
  intro hi
  by_cases hx:(S.sp l i).1 = -1
  ·obtain⟨y1,y2,y3,y4⟩:=hl.j i hi hx;rw[wF hl hi hx,dQ,vE hl hi hx,Sb hx,Bool.or_false,ih _ (by omega) (by omega),ih _ (by omega) (by omega)]
  ·rw[yL hi hx,vF hx,Sa hx]
theorem Pe{n:Net}{e:List Int}{l:List Sp}(hr:NR n)(hl:LCk n l)(h0:0<l.length){v:Nat}(hv:v<n.nodes.length):((S.vr n e l)[l.length - 1]?.getD 0).testBit v=decide (e[v]?.getD 0 = -1):=by
 cases hb:((S.vr n e l)[l.length - 1]?.getD 0).testBit v with
 | true =>
  have:=yM hr hl.el _ (by omega) v hb;rw[Tx this]
 | false =>
  rw[eq_comm,U0];intro he;have h:S.ev (· || ·) (λj=>if (S.sp l j).1 = -1 then false else (S.aB n e (S.sp l j).1.toNat).testBit v) l (l.length - 1)=S.fo (· || ·) false (λj=>if (S.sp l j).1 = -1 then false else (S.aB n e (S.sp l j).1.toNat).testBit v) l.length:=Ai Bool.or_false Bool.or_comm Bool.or_assoc hl h0 _;have h2:S.fo (· || ·) false (λj=>if (S.sp l j).1 = -1 then false else (S.aB n e (S.sp l j).1.toNat).testBit v) l.length=S.fo (· || ·) false (λu=>(S.aB n e u).testBit v) n.nodes.length:=Ei Bool.or_false Bool.or_comm Bool.or_assoc hl (λu=>(S.aB n e u).testBit v);have h3:=h2.symm.trans (h.symm.trans ((RF hl.el v (by omega)).symm.trans hb));have h4:S.fo (· || ·) false (λu=>(S.aB n e u).testBit v) n.nodes.length=true:=Pm (F:=λu=>(S.aB n e u).testBit v) (u:=v) ((qF hr hv e v).2 ⟨by simp[S.aK],he⟩) hv;exact Vr (h3.symm.trans h4)
theorem Na{n:Net}{e:List Int}{l:List Sp}(hr:NR n)(hl:LCk n l)(he:S.aJ n e=true)(size:Int):(S.bG n e l size).1=S.bF n e:=by
 have hl1:=hr.l1;have hlen:=hl.len;have h0:0<l.length:=by omega
 have hT:=Nc (e:=e) hl.el hl.uq h0;have hs0:=hT.s0;have h:=(CI (size:=size) hr hl.el hT l.length (l.length - 1) e ([],0) (by omega) (by omega) (Hr he) (by rw[hs0];exact NU he) (Qj _ _ _ _)).1;rw[hs0]at h;rw[S.bG,h,S.nm];have e1:S.af n (S.an ((S.vr n e l)[l.length - 1]?.getD 0) 0)=(List.range n.nodes.length).filter λv=>decide (e[v]?.getD 0 = -1):=by rw[S.af];refine Uf λv hv=>?_;rw[gO,Pe hr hl h0 (Sm.1 hv)];simp
 rw[e1,show S.br n l (l.length - 1)=S.bo n from funext λw=>Ls hl h0 w,<-Jy hr he];have:=th hr e;exact ax (by omega) (by omega)
end Hx
end
section
namespace Hx
open Go
def S.bh(n:Net)(l:List Sp)(vr:List Nat):Nat->Nat->Nat->Nat
 |0,_,_=>0
 | f+1,i,ab =>
  if (S.sp l i).1 = -1 then
   let c:=S.an (vr[(S.sp l i).2.1.toNat]?.getD 0 &&& vr[(S.sp l i).2.2.toNat]?.getD 0) ab
   1+S.aF n (S.af n c)*(S.bh n l vr f (S.sp l i).2.1.toNat (ab ||| c)+S.bh n l vr f (S.sp l i).2.2.toNat (ab ||| c))
  else 1
theorem BB{n:Net}(hr:NR n)(s:Nat):1<=S.aF n (S.af n s)/\S.aF n (S.af n s)<=65536:=by obtain⟨W1,W2,-⟩:=(tg hr s).nc;exact⟨W1,W2⟩
structure Cn (n:Net) (l:List Sp) (i:Nat) (st st':MSt) (u:Nat):Prop where
 lo:st.2<=st'.2
 hi:st'.2<=st.2+u
 kk:∀(e:Int) (k:List Int),fT st'.1 (e,k)=true->fT st.1 (e,k)=true\/∃e':Nat,e=(e':Int)/\0<S.bk l e' i
 ab:(∀(e':Nat) (k:List Int),0<S.bk l e' i->fT st.1 ((e':Int),k)=false)->st.2+S.bM l i<=st'.2
theorem CH{n:Net}{l:List Sp}{vr:List Nat}{size:Int}(hr:NR n)(hl:LCk n l):∀(f i:Nat) (w:List Int) (ab:Nat) (st:MSt),i<f->i<l.length->0<=st.2->st.2+(S.bh n l vr f i ab:Nat)<9223372036854775808 ->
  Cn n l i st (S.ay n l vr size f i w ab st).2 (S.bh n l vr f i ab)
 |0,i,w,ab,st,h,_,_,_=>by omega
 | f+1,i,w,ab,st,h,hi,h0,hb=>by
  rw[S.ay];rw[S.bh]at hb ⊢
  by_cases hx:(S.sp l i).1 = -1
  ·rw[Sb hx]at hb ⊢;rw[Sb hx];obtain⟨y1,y2,y3,y4⟩:=hl.el.j i hi hx;dsimp only at hb ⊢;obtain⟨c,hc⟩:∃c,c=S.an (vr[(S.sp l i).2.1.toNat]?.getD 0 &&& vr[(S.sp l i).2.2.toNat]?.getD 0) ab:=⟨_,rfl⟩;rw[<-hc]at hb ⊢;obtain⟨a,ha⟩:∃a,a=(S.sp l i).2.1.toNat:=⟨_,rfl⟩;obtain⟨b,hbb⟩:∃b,b=(S.sp l i).2.2.toNat:=⟨_,rfl⟩;have hja:=λe=>zD hl.el (e:=e) hi hx;have hap:=λe=>Jk hl (e:=e) hi hx;have hcj:=Do hl.el hi hx;rw[<-ha,<-hbb]at hb hcj ⊢;simp only[<-ha,<-hbb]at hja hap;have hk1:=(BB hr c).1;obtain⟨k,hk⟩:∃k,k=S.aF n (S.af n c):=⟨_,rfl⟩;rw[<-hk]at hb hk1 ⊢;obtain⟨ca,hca⟩:∃ca,ca=S.bh n l vr f a (ab ||| c):=⟨_,rfl⟩;obtain⟨cb,hcb⟩:∃cb,cb=S.bh n l vr f b (ab ||| c):=⟨_,rfl⟩;rw[<-hca,<-hcb]at hb ⊢
   split
   ·rename_i hm;refine⟨VD _,by dsimp only;omega,λe k h=>.inl h,λhh=>?_⟩;rw[hh i _ (Ea hl.el hi)]at hm;cases hm
   ·rename_i hm;have hw:w64 (st.2+1)=st.2+1:=ax (by omega) (by omega);rw[hw];obtain⟨r,hr'⟩:∃r,r=S.bL (S.ay n l vr size f) n w (S.af n c) a b (ab ||| c) (st.1,st.2+1) k:=⟨_,rfl⟩;have key:st.2+1<=r.2.2/\r.2.2<=st.2+1+((k*(ca+cb):Nat):Int)/\(∀(e:Int) (k:List Int),fT r.2.1 (e,k)=true->fT st.1 (e,k)=true\/∃e':Nat,e=(e':Int)/\(0<S.bk l e' a\/0<S.bk l e' b))/\(0<k->(∀(e':Nat) (k:List Int),0<S.bk l e' i->fT st.1 ((e':Int),k)=false)->st.2+1+S.bM l a+S.bM l b<=r.2.2)/\(k=0->r.2.1=st.1):=by
     rw[hr'];refine yH (rec:=S.ay n l vr size f) (st:=(st.1,st.2+1)) (P:=λj s=>st.2+1<=s.2.2/\s.2.2<=st.2+1+((j*(ca+cb):Nat):Int)/\(∀(e:Int) (k:List Int),fT s.2.1 (e,k)=true->fT st.1 (e,k)=true\/∃e':Nat,e=(e':Int)/\(0<S.bk l e' a\/0<S.bk l e' b))/\(0<j->(∀(e':Nat) (k:List Int),0<S.bk l e' i->fT st.1 ((e':Int),k)=false)->st.2+1+S.bM l a+S.bM l b<=s.2.2)/\(j=0->s.2.1=st.1)) ⟨VD _,by simp,λe k h=>.inl h,λh=>absurd h (Nat.lt_irrefl 0),λ_=>rfl⟩ ?_;intro j s hj ⟨p1,p2,p3,p4,p5⟩;have hm1:(j+1)*(ca+cb)<=k*(ca+cb):=Sw _ (by omega);have hm2:(j+1)*(ca+cb)=j*(ca+cb)+(ca+cb):=Nat.succ_mul _ _;have A:=CH (size:=size) (vr:=vr) hr hl f a (S.ap n w (S.af n c) j) (ab ||| c) s.2 (by omega) (by omega) (by omega) (by rw[<-hca];omega);rw[<-hca]at A;obtain⟨s1,hs1⟩:∃s1,s1=(S.ay n l vr size f a (S.ap n w (S.af n c) j) (ab ||| c) s.2).2:=⟨_,rfl⟩;rw[<-hs1]at A ⊢;have a1:=A.lo;have a2:=A.hi;have B:=CH (size:=size) (vr:=vr) hr hl f b (S.ap n w (S.af n c) j) (ab ||| c) s1 (by omega) (by omega) (by omega) (by rw[<-hcb];omega);rw[<-hcb]at B;have b1:=B.lo;have b2:=B.hi;dsimp only;refine⟨by omega,by omega,λe k' h'=>?_,λ_ hh=>?_,λh'=>by omega⟩
     ·rcases B.kk e k' h' with h1|⟨e',h1,h2⟩
      ·rcases A.kk e k' h1 with h1|⟨e',h1,h2⟩
       ·exact p3 e k' h1
       ·exact .inr ⟨e',h1,.inl h2⟩
      ·exact .inr ⟨e',h1,.inr h2⟩
     ·by_cases hj0:j=0
      ·have hs0:=p5 hj0;have h1:=A.ab λe' k' he'=>by rw[hs0];exact hh e' k' (by rw[hja];omega)
       have h2:=B.ab λe' k' he'=>by
        cases hb':fT s1.1 ((e':Int),k') with
        |false=>rfl
        | true =>
         rcases A.kk _ _ hb' with h1|⟨e'',h1,h2⟩
         ·rw[hs0,hh e' k' (by rw[hja];omega)]at h1;cases h1
         ·have:e''=e':=by omega
          subst this;have:=(hap _ h2).1;omega
       omega
      ·have:=p4 (by omega) hh;omega
    rw[<-hr'];obtain⟨k1,k2,k3,k4,-⟩:=key;refine⟨by dsimp only;omega,by dsimp only;omega,λe k' h'=>?_,λhh=>?_⟩
    ·have h3:fT r.2.1 (e,k')=true->fT st.1 (e,k')=true\/∃e':Nat,e=(e':Int)/\0<S.bk l e' i:=λh=>(k3 e k' h).imp id λ⟨e',h1,h2⟩=>⟨e',h1,by rw[hja];omega⟩;dsimp only at h'
     split at h'
     ·rw[zT,SY]at h';rcases h' with h'|h'
      ·have e1:e=(i:Int):=congrArg Prod.fst (of_decide_eq_true h');exact .inr ⟨i,e1,Ea hl.el hi⟩
      ·exact h3 h'
     ·exact h3 h'
    ·have:=k4 (by omega) hh;dsimp only;omega
  ·rw[Sa hx]at hb ⊢;rw[Sa hx];have hw:w64 (st.2+1)=st.2+1:=ax (by omega) (by omega);rw[hw];refine⟨by dsimp only;omega,by dsimp only;omega,λe k h=>.inl h,λ_=>by rw[Dp hx];exact VD _⟩
theorem zZ{n:Net}{l:List Sp}{vr:List Nat}{size:Int}(hs:size<=0)(hl:LEl n l):∀(f i:Nat) (w:List Int) (ab:Nat) (c:Int),i<f->i<l.length->0<=c->c+(S.bh n l vr f i ab:Nat)<9223372036854775808 ->
  (S.ay n l vr size f i w ab ([],c)).2=([],c+(S.bh n l vr f i ab:Nat))
 |0,i,w,ab,c,h,_,_,_=>by omega
 | f+1,i,w,ab,x,h,hi,h0,hb=>by
  rw[S.ay];rw[S.bh]at hb ⊢
  by_cases hx:(S.sp l i).1 = -1
  ·rw[Sb hx]at hb ⊢;rw[Sb hx];obtain⟨y1,y2,y3,y4⟩:=hl.j i hi hx;dsimp only at hb ⊢;obtain⟨c,hc⟩:∃c,c=S.an (vr[(S.sp l i).2.1.toNat]?.getD 0 &&& vr[(S.sp l i).2.2.toNat]?.getD 0) ab:=⟨_,rfl⟩;rw[<-hc]at hb ⊢;obtain⟨a,ha⟩:∃a,a=(S.sp l i).2.1.toNat:=⟨_,rfl⟩;obtain⟨b,hbb⟩:∃b,b=(S.sp l i).2.2.toNat:=⟨_,rfl⟩;rw[<-ha,<-hbb]at hb ⊢;obtain⟨k,hk⟩:∃k,k=S.aF n (S.af n c):=⟨_,rfl⟩;rw[<-hk]at hb ⊢;obtain⟨ca,hca⟩:∃ca,ca=S.bh n l vr f a (ab ||| c):=⟨_,rfl⟩;obtain⟨cb,hcb⟩:∃cb,cb=S.bh n l vr f b (ab ||| c):=⟨_,rfl⟩;rw[<-hca,<-hcb]at hb ⊢;rw[Sa (by simp[fT])];have hw:w64 (x+1)=x+1:=ax (by omega) (by omega);rw[hw];have key:(S.bL (S.ay n l vr size f) n w (S.af n c) a b (ab ||| c) ([],x+1) k).2=([],x+1+((k*(ca+cb):Nat):Int)):=by refine yH (rec:=S.ay n l vr size f) (st:=([],x+1)) (P:=λj s=>s.2=([],x+1+((j*(ca+cb):Nat):Int))) (by simp) ?_;intro j s hj p;have hm1:(j+1)*(ca+cb)<=k*(ca+cb):=Sw _ (by omega);have hm2:(j+1)*(ca+cb)=j*(ca+cb)+(ca+cb):=Nat.succ_mul _ _;rw[p];have A:=zZ (vr:=vr) hs hl f a (S.ap n w (S.af n c) j) (ab ||| c) (x+1+((j*(ca+cb):Nat):Int)) (by omega) (by omega) (by omega) (by rw[<-hca];omega);rw[A,<-hca];have B:=zZ (vr:=vr) hs hl f b (S.ap n w (S.af n c) j) (ab ||| c) (x+1+((j*(ca+cb):Nat):Int)+(ca:Int)) (by omega) (by omega) (by omega) (by rw[<-hcb];omega);rw[B,<-hcb,hm2];refine Prod.ext rfl ?_;show _+_=_;omega
   rw[key];rw[Sa (by simp;omega)];refine Prod.ext rfl ?_;show _+_=_;omega
  ·rw[Sa hx]at hb ⊢;rw[Sa hx];have hw:w64 (x+1)=x+1:=ax (by omega) (by omega);rw[hw];rfl
end Hx
end
section
namespace Hx
open Go
theorem EK{p q:Nat->Bool}(hpq:∀v,p v=true->q v=false)(F:Nat->Int):∀L:List Nat,S.ae ((L.filter λv=>p v || q v).map F)=S.ae ((L.filter p).map F)*S.ae ((L.filter q).map F)
 |[]=>by simp[S.ae]
 | v::r=>by
  have ih:=EK hpq F r;cases hp:p v with
  | true =>
   have hq:=hpq v hp;rw[Tm (by simp[hp]),Tm hp,Tb (by simp[hq]),Te,Te,bG,bG,ih,Uq]
  | false =>
   cases hq:q v with
   |true=>rw[Tm (by simp[hq]),Tb (by simp[hp]),Tm hq,Te,Te,bG,bG,ih,Int.mul_left_comm]
   |false=>rw[Tb (by simp[hp,hq]),Tb (by simp[hp]),Tb (by simp[hq]),ih]
theorem Qu{n:Net}(hr:NR n){a c:Nat}(h:∀v,a.testBit v=true->c.testBit v=false):S.aF n (S.af n (a ||| c))=S.aF n (S.af n a)*S.aF n (S.af n c):=by
 obtain⟨-,-,W1⟩:=(tg hr (a ||| c)).nc;obtain⟨-,-,W2⟩:=(tg hr a).nc;obtain⟨-,-,W3⟩:=(tg hr c).nc;have e:S.af n (a ||| c)=(List.range n.nodes.length).filter λv=>a.testBit v || c.testBit v:=by rw[S.af];exact Uf λv _=>dQ a c v
 have h1:((S.aF n (S.af n (a ||| c)):Nat):Int)=((S.aF n (S.af n a):Nat):Int)*((S.aF n (S.af n c):Nat):Int):=by show ((S.nc (S.aW n (S.af n (a ||| c))):Nat):Int)=((S.nc (S.aW n (S.af n a)):Nat):Int)*((S.nc (S.aW n (S.af n c)):Nat):Int);rw[W1,W2,W3,e];exact EK h _ _
 exact_mod_cast h1
theorem wY{n:Net}{l:List Sp}{vr:List Nat}(hr:NR n)(hl:LEl n l):∀(f i ab:Nat),i<f->i<l.length->S.bh n l vr f i ab*S.aF n (S.af n ab)<=S.bM l i*65536
 |0,i,ab,h,_=>by omega
 | f+1,i,ab,h,hi=>by
  have hp:=(BB hr ab).2;rw[S.bh]
  by_cases hx:(S.sp l i).1 = -1
  ·rw[Sb hx];obtain⟨y1,y2,y3,y4⟩:=hl.j i hi hx;dsimp only;obtain⟨c,hc⟩:∃c,c=S.an (vr[(S.sp l i).2.1.toNat]?.getD 0 &&& vr[(S.sp l i).2.2.toNat]?.getD 0) ab:=⟨_,rfl⟩;rw[<-hc];have A:=wY (vr:=vr) hr hl f (S.sp l i).2.1.toNat (ab ||| c) (by omega) (by omega);have B:=wY (vr:=vr) hr hl f (S.sp l i).2.2.toNat (ab ||| c) (by omega) (by omega);rw[Qu hr (λv hv=>by rw[hc,gO,hv];simp)]at A B;rw[Do hl hi hx];obtain⟨x,hxx⟩:∃x,x=S.bh n l vr f (S.sp l i).2.1.toNat (ab ||| c):=⟨_,rfl⟩;obtain⟨y,hy⟩:∃y,y=S.bh n l vr f (S.sp l i).2.2.toNat (ab ||| c):=⟨_,rfl⟩;rw[<-hxx]at A ⊢;rw[<-hy]at B ⊢;obtain⟨P,hP⟩:∃P,P=S.aF n (S.af n ab):=⟨_,rfl⟩;obtain⟨Q,hQ⟩:∃Q,Q=S.aF n (S.af n c):=⟨_,rfl⟩;rw[<-hP,<-hQ]at A B;rw[<-hP]at hp;rw[<-hP,<-hQ];have e:(1+Q*(x+y))*P=P+(x*(P*Q)+y*(P*Q)):=by rw[SA,Tq,<-SA x y,Uj Q (x+y),U8,Uj Q P]
   rw[e];omega
  ·rw[Sa hx,Dp hx];omega
theorem NQ{n:Net}{e:List Int}{l:List Sp}(hr:NR n)(hl:LCk n l):S.bh n l (S.vr n e l) l.length (l.length - 1) 0<=l.length*65536:=by
 have hl1:=hr.l1;have hlen:=hl.len;have h:=wY (vr:=S.vr n e l) hr hl.el l.length (l.length - 1) 0 (by omega) (by omega);rw[Dq hl (by omega)]at h;have e1:S.aF n (S.af n 0)=1:=by
  have:S.af n 0=[]:=by simp[S.af]
  rw[this];rfl
 rw[e1,VE]at h;exact h
theorem Av{n:Net}{e:List Int}{l:List Sp}(hr:NR n)(hl:LCk n l)(size:Int):(l.length:Int)<=(S.bG n e l size).2.2/\(S.bG n e l size).2.2<=(S.bG n e l 0).2.2/\(S.bG n e l 0).2.2<=983040:=by
 have hl1:=hr.l1;have hl2:=hr.l2;have hlen:=hl.len;have hb:=NQ (e:=e) hr hl;have C:=CH (vr:=S.vr n e l) (size:=size) hr hl l.length (l.length - 1) e 0 ([],0) (by omega) (by omega) (by simp) (by simp;omega);have Z:=zZ (vr:=S.vr n e l) (size:=0) (by decide) hl.el l.length (l.length - 1) e 0 0 (by omega) (by omega) (by simp) (by simp;omega);have h1:=C.ab λ_ _ _=>by simp[fT]
 have h2:=C.hi;rw[Dq hl (by omega)]at h1;dsimp only at h1 h2;have e0:(S.bG n e l 0).2=([],0+((S.bh n l (S.vr n e l) l.length (l.length - 1) 0:Nat):Int)):=Z;have e1:(S.bG n e l size).2=(S.ay n l (S.vr n e l) size l.length (l.length - 1) e 0 ([],0)).2:=rfl;rw[e0,e1];dsimp only;omega
end Hx
end
section
namespace Hx
open Go
noncomputable section
def S.bz(n:Net)(e:List Int)(l:List Sp)(size:Int):QI×Int×Int :=
 if S.aN n e=0 then
  if S.bf n l=0 then
   if 0<=size/\size<=1000 then (S.a_ (S.bF n e).toNat (S.bE n).toNat,(S.bG n e l size).2.2,0) else ((0,0),0,2)
  else ((0,0),0,S.bf n l)
 else ((0,0),0,S.aN n e)
def PrV(n:Net)(e:List Int)(l:List Sp)(size:Int):VS:=Q8 (Agg (S.bz n e l size).1) (One (S.bz n e l size).2.1) (One (S.bz n e l size).2.2)
theorem Dr{n:Net}(hr:NR n):1<=S.bE n/\S.bE n<=167961600000000 :=
 ⟨gT λx hx=>by rw[List.eq_of_mem_replicate hx];exact hr.g1,(qR hr _ hr.l2).2⟩
theorem Jz{n:Net}{e:List Int}{l:List Sp}(hr:NR n)(hl:LEl n l){i:Nat}(hi:i<l.length)(ab:List Nat):Wo (S.vr n e l) ab e i:=λv hv _=>by
 have:=yM hr hl i hi v hv;cases h:e[v]? with
 |none=>rw[h]at this;cases this
 |some x=>rw[h,Se]at this;rw[this]
theorem KA{n:Net}{l:List Sp}(h:S.bf n l=0):LCk n l:=by
 unfold S.bf at h
 split at h
 ·split at h
  ·rename_i h2;exact LZ h2
  ·cases h
 ·cases h
theorem wg{n:Net}{e:List Int}{l:List Sp}{size E:Int}{P:Nat->Prop}{h:H}(he:S.bz n e l size=((0,0),0,E)):PrV n e l size P 0 h (.tup [.agg [.int .i64 0,.int .i64 0],.int .i64 0,.int .i64 E]):=by unfold PrV;rw[he];exact⟨_,_,_,rfl,nX.2 rfl,aI.2 rfl,aI.2 rfl⟩
theorem KL{d k:Nat}{g:G}{P:Nat->Prop}{v w lv:AV}{n:Net}{e:List Int}{l:List Sp}{size:Int}(hd:0<d)(hm:Agg n NoP 0 g.h v)(he:SlR P k g.h e w)(hl:SlR NoP 0 .nil l lv) :
  am C0 d N.ae [v,w,lv,.int .i64 size] g=.val (.tup [.agg [.int .i64 (S.bz n e l size).1.1,.int .i64 (S.bz n e l size).1.2],.int .i64 (S.bz n e l size).2.1,.int .i64 (S.bz n e l size).2.2]):=by
 have key:∃r,am C0 d N.ae [v,w,lv,.int .i64 size] g=.val r/\PrV n e l size NoP 0 .nil r:=by
  obtain⟨b,rows,rfl,e1,hm',hN,r1,r2,r3,r4⟩:=gG d hm;obtain⟨w',e2,hw'⟩:=fU he d;have e3:=wy (h:=g.h) d (hl.tree (h':=g.h) (R5 0));have fw0:eH [.int .i64 0,.int .i64 0] []=some [.int .i64 0,.int .i64 0]:=rfl;rw[tT];refine bC vC (xs:=[.agg [.int .i64 n.grain,b],w',lv,.int .i64 size]) (by simp only[aJ,e1,e2,e3,dS 0]) (by simp[kI]) (M6 (m:=2) (dF _) (bm _) (bm _) (by decide) (by decide) (by decide)) (by decide) hd ?_;simp only[sz,simprocAttr,kI,mX];have kc:=λg:G=>Dm (d:=d+1) (g:=g) (n:=n) (e:=e) (SH d) (hm' g.h) (hw' g.h);have kk:=λg:G=>IM (d:=d+1) (g:=g) (n:=n) (l:=l) (SH d) (hm' g.h) (hl.tree (h':=g.h) (R5 0));simp only[kc]
  by_cases h0:S.aN n e=0
  ·obtain⟨hr1,hev⟩:=oG.1 h0;have hr:=cY.1 hr1;simp only[sz,simprocAttr,h0,kk]
   by_cases c0:S.bf n l=0
   ·have hL:=KA c0;simp only[sz,simprocAttr,c0];have hlen:=hL.len;have hl1:=hr.l1;have hl2:=hr.l2;have hnp:=λh=>(S.bz.eq_1 n e l size).trans ((Sb h0).trans ((Sb c0).trans (Sa h)));refine fI (λhb=>?_) (λhb=>?_)
    ·have hb':=of_decide_eq_true hb;simp only[sz,simprocAttr,fw0,hb];exact⟨λ_=>True,wg (hnp (by omega))⟩
    have hb':=of_decide_eq_false hb;simp only[sz,simprocAttr,hb];refine fI (λhb2=>?_) (λhb2=>?_)
    ·have hb2':=of_decide_eq_true hb2;simp only[sz,simprocAttr,fw0,hb,hb2];exact⟨λ_=>True,wg (hnp (by omega))⟩
    have hb2':=of_decide_eq_false hb2;have hpp:S.bz n e l size=(S.a_ (S.bF n e).toNat (S.bE n).toNat,(S.bG n e l size).2.2,0):=(S.bz.eq_1 n e l size).trans ((Sb h0).trans ((Sb c0).trans (Sb (by omega))));have h00:0<l.length:=by omega
    simp only[sz,simprocAttr,hb,hb2];refine CD hr hN hl hL.el (by omega) hw' (vG hev).1 λg1 pq pv pm pc px hC hS hV hF hpq=>?_;simp only[sz,simprocAttr];refine OT (vr:=S.vr n e l) (SH d) hC (Qq hr hL.el) (Nc hL.el hL.uq h00) h00 hS (Hr hev) hV (Jz hr hL.el (by omega) _) λg2 hS2 hF2=>?_;obtain⟨st,hst⟩:∃st,st=S.bG n e l size:=⟨_,rfl⟩;have hst':S.ay n l (S.vr n e l) size l.length (l.length - 1) e 0 ([],0)=st:=hst.symm;rw[hst']at hS2 ⊢;have hnum:=Na hr hL hev size;rw[<-hst]at hnum hpp;have hm0:=th hr e;have hw0:=Dr hr;obtain⟨ms,hms⟩:=R8 hm0.1;obtain⟨wh,hwh⟩:=R8 (show 0<=S.bE n by omega);have kw:=λg=>Ka (d:=d+1) (g:=g) (gr:=n.grain) (m:=n.nodes.length) (by omega) ⟨by have:=hr.g1;omega,hr.g2⟩ hl2;rw[show S.ae (List.replicate n.nodes.length n.grain)=(wh:Int) from hwh]at kw;have kr:=λg=>MG (d:=d+1) (g:=g) (x:=ms) (y:=wh) (by omega) (by omega) (by omega) (by omega);have hnl:∀g:G,dO .slice b g=.val (.int .i64 (n.nodes.length:Int)):=λg=>hN.len g;have eq2:=hS2.q;have k1:g1.h.get 1=VG 2 [[.int .i64 0,.int .i64 0]]:=by rw[hF.fr 1 (by simp[show G.empty.nx=0 from rfl]) id];simp[RW,show G.empty.nx=0 from rfl]
    have n1:2<=g1.nx:=by have:=hF.nx;simp[show G.empty.nx=0 from rfl]at this;omega
    have p1:2<=pq:=by simp[show G.empty.nx=0 from rfl]at hpq;omega
    have k2:g2.h.get 1=VG 2 [[.int .i64 0,.int .i64 0]]:=by
     rw[hF2.fr 1 (by omega) ?_,k1];rintro (h|h|h)
     ·obtain⟨-,lo,h2⟩:=hV;rw[<-h,k1]at h2;injection h2 with h3;cases h3
     ·simp[show G.empty.nx=0 from rfl]at hpq;omega
     ·have h2:=hS.m;rw[<-h,k1]at h2;cases h2
    have fw2:eH [.int .i64 0,.int .i64 0] [((0,1),.int .i64 (S.a_ ms wh).1),((1,1),.int .i64 (S.a_ ms wh).2)]=some [.int .i64 (S.a_ ms wh).1,.int .i64 (S.a_ ms wh).2]:=rfl;simp only[sz,simprocAttr,sf,hnum,hms,eq2,srO,bF,kw,kr,hnl,k2,xe,xd];refine⟨?_,⟨λ_=>True,?_⟩⟩
    ·simp only[Si,Sl,Sf,Sd];refine aA [false,false,false,false,false,false,false,false,false,false,false,false,false,false,false,false,false,false,true,false,false] [(14,18),(15,18),(16,18),(17,18)] (by simp[All2,ac,ap]) (by decide) ?_;rintro p hp' x y hx hy;simp only[Sq,Sk,Ui]at hp';rcases hp' with rfl|rfl|rfl|rfl<;>(simp at hx hy;subst hx;subst hy;refine bH rfl rfl rfl rfl ?_ ?_ ?_<;>simp[ac,ap,ae]<;>omega)
    ·rw[hpp,hms,hwh];exact⟨_,_,_,rfl,nX.2 rfl,aI.2 rfl,aI.2 rfl⟩
   ·have hp:S.bz n e l size=((0,0),0,S.bf n l):=by rw[S.bz,Sb h0,Sa c0]
    simp only[sz,simprocAttr,c0,fw0];exact⟨λ_=>True,wg hp⟩
  ·have hp:S.bz n e l size=((0,0),0,S.aN n e):=by rw[S.bz,Sa h0]
   simp only[sz,simprocAttr,h0,fw0];exact⟨λ_=>True,wg hp⟩
 obtain⟨r,hr,a,b,c,rfl,h1,h2,h3⟩:=key;have h2:=aI.1 h2;injection h2 with h2;have h3:=aI.1 h3;injection h3 with h3;rw[hr,nX.1 h1,h2,h3]
structure JdH (cu8:List AV) (u w:AV) (lo:List Sp) (op:List Int) (g:G):Prop where
 g0:g.h.get 0=VG 8 [cu8]
 nx:1<=g.nx
 oU:Own g 1 u 3 (lo.map cs3)
 oW:Own g 1 w 1 (op.map ci)
 ds:∀i,vid u=some i->vid w≠some i
set_option maxRecDepth 20000 in
end
end Hx
end
section
namespace Hx
open Go
theorem Qt{m:Nat}{L:List Sp}{x:Br}(hm:1<=m)(h:MkI m (L,[x])):S.ck L m=true:=by
 have hln:=h.ln;have hl:L.length=2*m - 1:=by have:L.length+1=2*m:=hln;omega
 obtain⟨-,-,h3,h4,h5,h6,h7⟩:=h;dsimp only at h3 h4 h5 h6 h7;have unus:∀e,S.ax L L.length e=true->0<=e/\e<(L.length:Int) - 1:=λe he=>by
  obtain⟨j,hj,hh⟩:=gX.1 he
  by_cases c:m<=j
  ·have:=nB.1 (h4 j c hj).2;omega
  ·have:=h3 j (by omega);rw[this]at hh;have:=hh.1;dsimp only at this;omega
 have hx:x.1=(L.length:Int) - 1:=by obtain⟨b,hb,hbe⟩:=(h6 ((L.length:Int) - 1)).2 ⟨by omega,by omega,by rw[TM];intro hu;have:=unus _ hu;omega⟩;rw[<-SK.1 hb,hbe]
 simp only[S.ck,R7,Sg,Sy,Sm];refine⟨⟨⟨by omega,λi hi=>?_⟩,λv hv=>qM.2 ⟨v,by omega,by rw[h3 v hv]⟩⟩,λe he=>?_⟩
 ·unfold S.bp
  by_cases c:i<m
  ·rw[h3 i c];have hb:S.aT L i (i:Int)=false:=by rw[TM];intro hu;obtain⟨j,hj,hh⟩:=qM.1 hu;rw[h3 j (by omega)]at hh;dsimp only at hh;omega
   have hlf:S.cm L m i=true:=vT.2 (by rw[h3 i c];dsimp only;exact⟨by omega,by omega,rfl,rfl⟩);dsimp only;rw[Sa (by omega),hlf,hb];rfl
  ·obtain⟨a1,a2⟩:=h4 i (by omega) hi;have nu:∀e,((S.sp L i).2.1=e\/(S.sp L i).2.2=e)->S.ax L i e=false:=λe hh=>by rw[TM];intro hu;obtain⟨j,hj,hh2⟩:=gX.1 hu;exact h7 j i e hj hi hh2 ⟨a1,hh⟩
   rw[Sb a1,a2,nu _ (.inl rfl),nu _ (.inr rfl)];rfl
 ·apply Tn;intro hu;rw[Ub]at hu;obtain⟨b,hb,hbe⟩:=(h6 (e:Int)).2 ⟨by omega,by omega,hu⟩;rw[SK.1 hb]at hbe;omega
def S.bw(c n j:Nat):List Sp:=(List.range j).map λv:Nat=>((((v+c) % n:Nat):Int),-1,-1)
theorem qN(c n j:Nat):(S.bw c n j).length=j:=by simp[S.bw]
theorem L4(c n j:Nat):S.bw c n (j+1)=S.bw c n j++[((((j+c) % n:Nat):Int),-1,-1)]:=by simp[S.bw,Tw]
theorem Qo{c n j:Nat}{js:List Sp}{v:Nat}(hv:v<j):S.sp (S.bw c n j++js) v=((((v+c) % n:Nat):Int),-1,-1):=by rw[qU (by rw[qN];exact hv),S.sp,S.bw];simp[hv]
def S.bJ(n:Nat):List Sp:=(List.range n).map λv:Nat=>((v:Int),-1,-1)
theorem tE(n:Nat):(S.bJ n).length=n:=by simp[S.bJ]
theorem Qk{n:Nat}{js:List Sp}{v:Nat}(hv:v<n):S.sp (S.bJ n++js) v=((v:Int),-1,-1):=by rw[qU (by rw[tE];exact hv),S.sp,S.bJ];simp[hv]
theorem O8{a b js:List Sp}{i n:Nat}(ha:a.length=n)(hb:b.length=n)(h:n<=i):S.sp (a++js) i=S.sp (b++js) i:=by rw[S.sp,S.sp,Sj (by omega),Sj (by omega),ha,hb]
theorem P_{n c:Nat}{js:List Sp}(hn:1<=n)(h:S.ck (S.bJ n++js) n=true):S.ck (S.bw c n n++js) n=true:=by
 have hl:(S.bw c n n++js).length=(S.bJ n++js).length:=by rw[SZ,SZ,qN,tE]
 have hnl:n<=(S.bJ n++js).length:=by rw[SZ,tE];omega
 have ht:∀i,n<=i->S.sp (S.bw c n n++js) i=S.sp (S.bJ n++js) i:=λi hi=>O8 (qN _ _ _) (tE _) hi;have h1:∀v,v<n->S.sp (S.bw c n n++js) v=((((v+c) % n:Nat):Int),-1,-1):=λv hv=>Qo hv;have h2:∀v,v<n->S.sp (S.bJ n++js) v=((v:Int),-1,-1):=λv hv=>Qk hv;obtain⟨L,hL⟩:∃L,L=S.bw c n n++js:=⟨_,rfl⟩;obtain⟨L',hL'⟩:∃L',L'=S.bJ n++js:=⟨_,rfl⟩;rw[<-hL]at hl ht h1 ⊢;rw[<-hL']at h hl hnl ht h2;clear hL hL';have hus:∀i e,S.ax L i e=S.ax L' i e:=λi e=>by
  unfold S.ax;rw[Tz,Vi,Vi];have key:∀j,(decide ((S.sp L j).1 = -1)&&(decide ((S.sp L j).2.1=e) || decide ((S.sp L j).2.2=e)))=(decide ((S.sp L' j).1 = -1)&&(decide ((S.sp L' j).2.1=e) || decide ((S.sp L' j).2.2=e))):=λj=>by
   by_cases cj:j<n
   ·rw[h1 j cj,h2 j cj];dsimp only;rw[S6 (show ¬((((j+c) % n:Nat):Int) = -1) by omega),S6 (show ¬((j:Int) = -1) by omega)]
   ·rw[ht j (by omega)]
  simp only[key]
 simp only[S.ck,R7,Sg,Sy,Sm]at h ⊢;obtain⟨⟨⟨a1,a2⟩,a3⟩,a4⟩:=h;refine⟨⟨⟨by rw[hl];exact a1,λi hi=>?_⟩,λv hv=>?_⟩,λe he=>by rw[hl,hus];exact a4 e (by omega)⟩
 ·by_cases ci:i<n
  ·unfold S.bp;have hb:S.aT L i (((i+c) % n:Nat):Int)=false:=by
    rw[TM];intro hu;obtain⟨j,hj,hh⟩:=qM.1 hu;rw[h1 j (by omega)]at hh;dsimp only at hh;have e1:(j+c) % n=(i+c) % n:=by omega
    have d1:=UO (j+c) n;have d2:=UO (i+c) n;have l1:(j+c) / n<=(i+c) / n:=Nat.div_le_div_right (by omega)
    by_cases e2:(j+c) / n=(i+c) / n
    ·rw[e1,e2]at d1;omega
    ·have l2:(j+c) / n+1<=(i+c) / n:=by omega
     have l3:n*((j+c) / n+1)<=n*((i+c) / n):=Vq _ l2;rw[Nat.mul_add,VE]at l3;omega
   have hm:=TD (i+c) (show 0<n by omega);have hlf:S.cm L n i=true:=vT.2 (by rw[h1 i ci];dsimp only;exact⟨by omega,by omega,rfl,rfl⟩);rw[hlf,h1 i ci];dsimp only;rw[Sa (by omega),hb];rfl
  ·have:=a2 i (by omega);unfold S.bp S.bS S.cm at this ⊢;rw[ht i (by omega),hus,hus]
   split at this
   ·rename_i hx;rw[Sb hx];exact this
   ·rename_i hx;have f:=S.aT L' i (S.sp L' i).1;exfalso;simp only[R7,Sg,SP]at this;obtain⟨⟨⟨⟨b1,b2⟩,-⟩,-⟩,b5⟩:=this;obtain⟨v,hv⟩:=R8 b1;have hb:S.aT L' i (S.sp L' i).1=true:=qM.2 ⟨v,by omega,by rw[h2 v (by omega),hv]⟩;rw[b5]at hb;cases hb
 ·obtain⟨q,hq⟩:∃q,q=c % n:=⟨_,rfl⟩;have hqn:q<n:=by rw[hq];exact TD _ (by omega)
  have hj:=TD (v+(n - q)) (show 0<n by omega);refine qM.2 ⟨(v+(n - q)) % n,by omega,?_⟩;rw[h1 _ hj];dsimp only;congr 1;rw[Nat.mod_add_mod,Nat.add_mod,<-hq]
  by_cases cc:v<q
  ·rw[TK (show v+(n - q)<n by omega),show v+(n - q)+q=v+n by omega,Nat.add_mod_right,TK hv]
  ·rw[Nat.mod_eq_sub_mod (show v+(n - q) >= n by omega),TK (show v+(n - q) - n<n by omega),show v+(n - q) - n+q=v by omega,TK hv]
def JdI(n c:Nat)(lo:List Sp)(op:List Int):Prop:=∃js,lo=S.bw c n n++js/\MkI n (S.bJ n++js,op.map λx=>((x,0):Br))
theorem LK(n c:Nat):JdI n c (S.bw c n n) ((List.range n).map λv:Nat=>(v:Int)):=by
 refine⟨[],by simp,?_⟩;have h:=Es (List.replicate n 0);rw[Vb]at h;have e:S.bC (List.replicate n 0)=(S.bJ n++[],((List.range n).map λv:Nat=>(v:Int)).map λx=>((x,0):Br)):=by rw[S.bC,Su,S.bJ,Vb,List.map_map];congr 1;refine Ti λv hv=>?_;have:=Sm.1 hv;simp[this]
 rw[e]at h;exact h
theorem JdI.so{n c:Nat}{lo:List Sp}{op:List Int}(h:JdI n c lo op):op.Pairwise (·<·):=by obtain⟨js,-,h⟩:=h;have:=h.so;dsimp only at this;rw[List.pairwise_map]at this;exact this
theorem JdI.len{n c:Nat}{lo:List Sp}{op:List Int}(h:JdI n c lo op):lo.length+op.length=2*n:=by obtain⟨js,rfl,h⟩:=h;have:=h.ln;simp only[SZ,Ss,tE,qN]at this ⊢;exact this
theorem JdI.join{n c a b:Nat}{lo:List Sp}{op:List Int}{xa xb:Int}(h:JdI n c lo op)(ha:op[a]?=some xa)(hb:op[b]?=some xb)(hab:a≠b):JdI n c (lo++[(-1,xa,xb)]) ((op.filter λx=>!decide (x=xa)&&!decide (x=xb))++[(lo.length:Int)]):=by
 have hso:=h.so;obtain⟨js,rfl,h⟩:=h;have ma:((xa,0):Br)∈op.map λx=>((x,0):Br):=SX.2 ⟨xa,R9 ha,rfl⟩;have mb:((xb,0):Br)∈op.map λx=>((x,0):Br):=SX.2 ⟨xb,R9 hb,rfl⟩;have hne:xa≠xb:=by
  obtain⟨la,ea⟩:=R6.1 ha;obtain⟨lb,eb⟩:=R6.1 hb;rw[TG]at hso;rcases Nat.lt_or_gt_of_ne hab with hlt|hlt
  ·have:=hso a b la lb hlt;omega
  ·have:=hso b a lb la hlt;omega
 have h':=Er (w:=0) h ma mb hne;refine⟨js++[(-1,xa,xb)],by simp,?_⟩;have e:((op.map λx=>((x,0):Br)).filter λc=>!decide (c.1=xa)&&!decide (c.1=xb))++[(((S.bJ n++js).length:Int),0)]=((op.filter λx=>!decide (x=xa)&&!decide (x=xb))++[((S.bw c n n++js).length:Int)]).map λx=>((x,0):Br):=by rw[TA,List.filter_map];simp[tE,qN,Function.comp_def]
 rw[e]at h';rw[<-S7];exact h'
theorem JdI.ck{n c:Nat}{lo:List Sp}{op:List Int}(hn:1<=n)(h:JdI n c lo op)(h1:op.length=1):S.ck lo n=true:=by obtain⟨js,rfl,h⟩:=h;obtain⟨x,rfl⟩:=List.length_eq_one_iff.1 h1;exact P_ hn (Qt hn h)
end Hx
end
section
namespace Hx
open Go
noncomputable section
def CkL(n:Nat):VS:=λP k h v=>∃l:List Sp,(S.ck l n=true/\l.length<=15)/\One l P k h v
theorem O3(n:Nat):Snb (CkL n) 0:=lj λl=>bm l
def S.b_(xa xb:Int)(op:List Int):List Int:=op.filter λx=>!decide (x=xa)&&!decide (x=xb)
theorem Ab(xa xb:Int)(op:List Int)(x:Int):S.b_ xa xb (op++[x])=if x=xa\/x=xb then S.b_ xa xb op else S.b_ xa xb op++[x]:=by
 unfold S.b_;rw[T5]
 by_cases h1:x=xa
 ·simp[h1]
 ·by_cases h2:x=xb
  ·simp[h2]
  ·simp[h1,h2]
theorem H5(xa xb:Int)(op:List Int):(S.b_ xa xb op).length<=op.length:=Va _ _
theorem PM{op:List Int}(h:op.Pairwise (·<·)){i j:Nat}{x y:Int}(hi:op[i]?=some x)(hj:op[j]?=some y)(hne:i≠j):x≠y:=by
 obtain⟨la,ea⟩:=R6.1 hi;obtain⟨lb,eb⟩:=R6.1 hj;rw[TG]at h;rcases Nat.lt_or_gt_of_ne hne with hlt|hlt
 ·have:=h i j la lb hlt;omega
 ·have:=h j i lb la hlt;omega
theorem FX{d a b:Nat}{xa xb:Int}{cu8:List AV}{u w n:AV}{lo:List Sp}{op:List Int}{iv:Int}{Q:QT}{t:T}{gC:G}(hop:op.length<=20)(hso:op.Pairwise (·<·))(hxa:op[a]?=some xa)(hxb:op[b]?=some xb)(hJ:JdH cu8 u w lo op gC)
  (ht:St t [(0,n),(3,.hptr 0 0 0 0),(5,u),(6,w),(8,.int .i64 iv),(9,.int .i64 (a:Int)),(10,.int .i64 (b:Int)),(11,.nils),(12,.int .i64 0)])
  (fin:∀t g v,St t [(0,n),(3,.hptr 0 0 0 0),(5,u),(8,.int .i64 iv),(11,v)]->Own g gC.nx v 1 ((S.b_ xa xb op).map ci)->Fr gC g->Q (.exit 4) t [] g) :
  wpL (wp C0 d none jN) Q t [] gC:=by
 obtain⟨h0,h3,h5,h6,h8,h9,h10,h11,h12,-⟩:=ht;have wl:=λg=>hJ.oW.sat_len g;rw[Ss]at wl;simp only[jN,oe];refine fc op.length (by omega) (λj t df g=>df=[]/\St t [(0,n),(3,.hptr 0 0 0 0),(5,u),(6,w),(8,.int .i64 iv),(9,.int .i64 (a:Int)),(10,.int .i64 (b:Int))]/\∃v,tat t 11=v/\Own g gC.nx v 1 ((S.b_ xa xb (op.take j)).map ci)/\Fr gC g)
  ⟨rfl,by simp[St,h0,h3,h5,h6,h8,h9,h10],_,h11,.inl ⟨rfl,rfl⟩,Fr.refl _⟩ h12 (by decide) (by rintro j t df g v s (rfl|rfl|rfl)<;>simp[sx,St]) ?_ ?_ ?_
 ·clear h0 h3 h5 h6 h8 h9 h10 h11 h12;rintro j t df g hj ⟨rfl,⟨h0,h3,h5,h6,h8,h9,h10,-⟩,v,h11,r⟩ h12;simp only[sz,simprocAttr,h6,h12,wl];exact⟨by simp[St,sx,h0,h3,h5,h6,h8,h9,h10],v,by simp[sx,h11],r⟩
 ·clear h0 h3 h5 h6 h8 h9 h10 h11 h12;rintro j t df g hj ⟨rfl,⟨h0,h3,h5,h6,h8,h9,h10,-⟩,v,h11,oV,hf⟩ h12;obtain⟨x,hx,htk,-⟩:=an hj;have u1:j<(op.map ci).length:=by simpa using hj
  have u2:(op.map ci)[j]?=some (ci x):=by rw[R_,hx];rfl
  have oW:=(hJ.oW.step hf).rows;have hnx:=hf.1;have hol:=H5 xa xb (op.take j);rw[SL]at hol;rw[htk]
  by_cases ca:j=a
  ·have e1:decide ((j:Int)=(a:Int))=true:=Tx (by omega);have e3:x=xa:=by rw[ca,hxa]at hx;injection hx with hx;exact hx.symm
   rw[Ab,Sb (.inl e3)];simp only[sz,simprocAttr,h9,h10,h12,e1];exact⟨by simp[St,sx,h0,h3,h5,h6,h8,h9,h10],v,by simp[sx,h11],oV,hf⟩
  have e1:decide ((j:Int)=(a:Int))=false:=S6 (by omega)
  by_cases cb:j=b
  ·have e2:decide ((j:Int)=(b:Int))=true:=Tx (by omega);have e3:x=xb:=by rw[cb,hxb]at hx;injection hx with hx;exact hx.symm
   rw[Ab,Sb (.inr e3)];simp only[sz,simprocAttr,h9,h10,h12,e1,e2];exact⟨by simp[St,sx,h0,h3,h5,h6,h8,h9,h10],v,by simp[sx,h11],oV,hf⟩
  have e2:decide ((j:Int)=(b:Int))=false:=S6 (by omega);have e3:¬(x=xa\/x=xb):=by
   rintro (h|h)
   ·exact PM hso hx hxa ca h
   ·exact PM hso hx hxb cb h
  rw[Ab,Sa e3];obtain⟨L,hL⟩:∃L,L=S.b_ xa xb (op.take j):=⟨_,rfl⟩;rw[<-hL]at oV hol ⊢;simp only[sz,simprocAttr,h6,h9,h10,h11,h12,e1,e2,oW,u1,u2,ci];refine aW (new:=[ci x]) (oV.step (Fr.new _ _)) (by simp[sx,sy,ci]) (by simp;omega) (by simp[aY];omega) λv2 g2 hv2 n2 f2 _ _=>?_;simp only[sz,simprocAttr];have fg:Fr gC g2:=⟨by simp at n2;omega,λi hi=>by
   rw[f2 i (by simp;omega) (λe=>by have:=(oV.lt e).1;omega),(Fr.new g _).2 i (by omega),hf.2 i hi]⟩
  simp[St,sx,h0,h3,h5,h6,h8,h9,h10,h12];exact⟨by simpa using hv2,fg⟩
 ·rintro t df g ⟨rfl,⟨h0,h3,h5,-,h8,-⟩,v,h11,oV,hf⟩;rw[S5 (R5 _)]at oV;exact fin t g v (by simp[St,h0,h3,h5,h8,h11]) oV hf
set_option maxRecDepth 20000 in
theorem FY{d n:Nat}{g:G}{vs:List UInt8}(hd:0<d)(hv:vs.length=8)(hn1:1<=n)(hn8:n<=8):∃r,am C0 d N.bF [.int .i64 (n:Int),.agg (vs.map u8v)] g=.val r/\CkL n NoP 0 .nil r:=by
 rw[vq];refine bC yb (xs:=[.int .i64 (n:Int),.agg (vs.map u8v)]) (by simp only[aJ,dS 0,Au]) (by simp[ni]) (O3 n) (by decide) hd ?_;obtain⟨cu8,hcu⟩:∃c,c=vs.map u8v:=⟨_,rfl⟩;have hcl:cu8.length=8:=by rw[hcu,Ss,hv]
 have at8:∀i,i<8->∃y:Nat,y<256/\cu8[i]?=some (.int .u8 (y:Int)):=λi hi=>by obtain⟨y,hy⟩:∃y,vs[i]?=some y:=⟨_,R4 (by omega)⟩;exact⟨y.toNat,y.toNat_lt,by rw[hcu,R_,hy];rfl⟩
 obtain⟨y,hy,hcy7⟩:=at8 7 (by omega);simp only[sz,simprocAttr,ni,pY,n_,<-hcu];refine fc n (by omega) (λj t df g=>df=[]/\St t [(0,.int .i64 (n:Int)),(3,.hptr 0 0 0 0)]/\∃u w,tat t 5=u/\tat t 6=w/\JdH cu8 u w (S.bw y n j) ((List.range j).map λv:Nat=>(v:Int)) g)
  ⟨rfl,by simp[sx,St],_,_,rfl,rfl,by rw[hcl];simp[sx],by simp[sx],.inl ⟨by simp[sx],rfl⟩,.inl ⟨by simp[sx],rfl⟩,by simp[sx,vid]⟩ (by simp[sx]) (by decide) (by rintro j t df g v s (rfl|rfl|rfl)<;>simp[sx,St]) ?_ ?_ ?_
 ·rintro j t df g hj ⟨rfl,⟨h0,h3,-⟩,u,w,h5,h6,r⟩ h7;simp only[sz,simprocAttr,h0,h7];exact⟨by simp[St,sx,h0,h3],u,w,by simp[sx,h5],by simp[sx,h6],r⟩
 ·rintro j t df g hj ⟨rfl,⟨h0,h3,-⟩,u,w,h5,h6,hJ0⟩ h7;have esn:(((j:Int)+(y:Int)) % (n:Int),(-1:Int),(-1:Int))=((((j+y) % n:Nat):Int),-1,-1):=by rw[Int.natCast_emod,U6]
  rw[L4,<-esn,Tw,TA,List.map_singleton];have hlo:=qN y n j;have hop:((List.range j).map λv:Nat=>(v:Int)).length=j:=by simp
  obtain⟨lo,hlo'⟩:∃lo,lo=S.bw y n j:=⟨_,rfl⟩;obtain⟨op,hop'⟩:∃op,op=(List.range j).map λv:Nat=>(v:Int):=⟨_,rfl⟩;rw[<-hlo']at hlo hJ0 ⊢;rw[<-hop']at hop hJ0 ⊢;obtain⟨hg,hnx,oU,oW,ds⟩:=hJ0;have hcy:=hcy7;have w8:IntKind.wrap .i64 (y:Int)=(y:Int):=ax (by omega) (by omega);have w9:IntKind.wrap .i64 ((j:Int)+(y:Int))=(j:Int)+(y:Int):=ax (by omega) (by omega);have i7:FW 8 1 (.hptr 0 0 0 0) (.int .i64 7)=.val (.hptr 0 0 0 7):=rfl;have r9:=eP .i64 (show (0:Int)<=(j:Int)+(y:Int) by omega) (show (0:Int)<(n:Int) by omega);simp only[sz,simprocAttr,h0,h3,h5,h7,hg,i7,hcy,w8,w9,r9];refine aW (new:=[cs3 (((j:Int)+(y:Int)) % (n:Int),-1,-1)]) (oU.step (Fr.new _ _)) (by simp[sx,sy,cs3]) (by simp) (by simp[aY];omega) λv2 g2 hv2 n2 f2 c2 _=>?_;simp only[sz,simprocAttr,h6,h7];have oW2:Own g2 1 w 1 (op.map ci):=oW.fr (by simp at n2;omega) λi hi=>by rw[f2 i (by have:=(oW.lt hi).2;simp;omega) (λe=>ds i e hi),(Fr.new g _).2 i (oW.lt hi).2]
  have hu0:vid u≠some 0:=λe=>by have:=(oU.lt e).1;omega
  have hw0:vid w≠some 0:=λe=>by have:=(oW.lt e).1;omega
  have hg2:g2.h.get 0=VG 8 [cu8]:=by rw[f2 0 (by simp) hu0,(Fr.new g _).2 0 (by omega),hg]
  refine aW (new:=[ci (j:Int)]) (oW2.step (Fr.new _ _)) (by simp[sx,sy,ci]) (by first| (simp at n2 ⊢;done)| (simp at n2 ⊢;omega)) (by simp[aY];omega) λv3 g3 hv3 n3 f3 c3 _=>?_;simp only[sz,simprocAttr];have dv:∀i,vid v2=some i->vid w≠some i:=λi hi e=>by
   rcases c2 with c|⟨k,c,c'⟩
   ·exact ds i (c ▸ hi) e
   ·rw[hi]at c;injection c with c;have:=(oW.lt e).2;simp at c';omega
  refine⟨⟨by simp[St,sx,h0,h3],v2,v3,by simp[sx],by simp[sx],?_,by simp at n2 n3;omega,?_,by simpa using hv3,λi hi e=>?_⟩,by simp[sx,h7]⟩
  ·rw[f3 0 (by simp at n2 ⊢) hw0,(Fr.new g2 _).2 0 (by simp at n2;omega),hg2]
  ·have hv2':Own g2 1 v2 3 ((lo++[(((j:Int)+(y:Int)) % (n:Int),-1,-1)]).map cs3):=by simpa using hv2
   refine hv2'.fr (by simp at n3;omega) λi hi=>?_;rw[f3 i (by have:=(hv2'.lt hi).2;simp;omega) (dv i hi),(Fr.new g2 _).2 i (hv2'.lt hi).2]
  ·rcases c3 with c|⟨k,c,c'⟩
   ·exact dv i hi (c ▸ e)
   ·rw[e]at c;injection c with c;have:=(hv2.lt hi).2;simp at c';omega
 rintro t df g ⟨rfl,⟨h0,h3,-⟩,u,w,h5,h6,hJ⟩;simp only[sz,simprocAttr,oo,od,ol];have hn1':((n - 1:Nat):Int)=(n:Int) - 1:=by omega
 refine fc (n - 1) (by omega) (λj t df g=>df=[]/\St t [(0,.int .i64 (n:Int)),(3,.hptr 0 0 0 0)]/\∃u w lo op,tat t 5=u/\tat t 6=w/\List.length lo=n+j/\JdI n y lo op/\JdH cu8 u w lo op g)
  ⟨rfl,by simp[sx,St,h0,h3],u,w,_,_,by simp[sx,h5],by simp[sx,h6],qN _ _ _,LK n y,hJ⟩ (by simp[sx]) (by decide) (by rintro j t df g v s (rfl|rfl|rfl)<;>simp[sx,St]) ?_ ?_ ?_
 ·clear h0 h3 h5 h6 hJ;rintro j t df g hj ⟨rfl,⟨h0,h3,-⟩,u,w,lo,op,h5,h6,r⟩ h8;have w9:IntKind.wrap .i64 ((n:Int) - 1)=((n - 1:Nat):Int):=by rw[ax (by omega) (by omega)];omega
  simp only[sz,simprocAttr,h0,h8,w9];exact⟨by simp[St,sx,h0,h3],u,w,lo,op,by simp[sx,h5],by simp[sx,h6],r⟩
 ·clear h0 h3 h5 h6 hJ;rintro j t df g hj ⟨rfl,⟨h0,h3,-⟩,u,w,lo,op,h5,h6,hlo,hI,hJ⟩ h8;have hopl:=hI.len;have hso:=hI.so;obtain⟨y',hy',hcy⟩:=at8 j (by omega);have hg:=hJ.g0;have wl:=λg=>hJ.oW.sat_len g;rw[Ss]at wl;have w8:IntKind.wrap .i64 (y':Int)=(y':Int):=ax (by omega) (by omega);have w10:IntKind.wrap .i64 ((y' / 8:Nat):Int)=((y' / 8:Nat):Int):=ax (by omega) (by omega);have q8:bU .quo (.int .u8 (y':Int)) (.int .u8 8)=.val (.int .u8 ((y' / 8:Nat):Int)):=by rw[BY .u8 (show (0:Int)<=(y':Int) by omega) (show (0:Int)<8 by omega),Q3 (by omega) (by omega)];congr 2
  have w11:IntKind.wrap .i64 ((op.length:Int) - 1)=((op.length - 1:Nat):Int):=by rw[ax (by omega) (by omega)];omega
  have hj8:j<8:=by omega
  obtain⟨a,ha⟩:∃a,a=y' % op.length:=⟨_,rfl⟩;have hal:a<op.length:=by rw[ha];exact TD _ (by omega)
  have r1:bU .rem (.int .i64 (y':Int)) (.int .i64 (op.length:Int))=.val (.int .i64 (a:Int)):=by rw[eP .i64 (show (0:Int)<=(y':Int) by omega) (show (0:Int)<(op.length:Int) by omega),ha];congr 2
  obtain⟨c,hc⟩:∃c,c=(y' / 8) % (op.length - 1):=⟨_,rfl⟩;have hcl:c<op.length - 1:=by rw[hc];exact TD _ (by omega)
  have r2:bU .rem (.int .i64 ((y' / 8:Nat):Int)) (.int .i64 ((op.length - 1:Nat):Int))=.val (.int .i64 (c:Int)):=by rw[eP .i64 (show (0:Int)<=((y' / 8:Nat):Int) by omega) (show (0:Int)<((op.length - 1:Nat):Int) by omega),hc];congr 2
  have w12:IntKind.wrap .i64 ((a:Int)+1)=((a+1:Nat):Int):=by rw[ax (by omega) (by omega)];omega
  have w13:IntKind.wrap .i64 (((a+1:Nat):Int)+(c:Int))=((a+1+c:Nat):Int):=by rw[ax (by omega) (by omega)];omega
  obtain⟨b,hb⟩:∃b,b=(a+1+c) % op.length:=⟨_,rfl⟩;have hbl:b<op.length:=by rw[hb];exact TD _ (by omega)
  have hab:a≠b:=by
   by_cases cc:a+1+c<op.length
   ·rw[TK cc]at hb;omega
   ·rw[Nat.mod_eq_sub_mod (by omega),TK (by omega)]at hb;omega
  have r3:bU .rem (.int .i64 ((a+1+c:Nat):Int)) (.int .i64 (op.length:Int))=.val (.int .i64 (b:Int)):=by rw[eP .i64 (show (0:Int)<=((a+1+c:Nat):Int) by omega) (show (0:Int)<(op.length:Int) by omega),hb];congr 2
  refine bI (P:=λt' df g'=>df=[]/\g'=g/\St t' [(0,.int .i64 (n:Int)),(3,.hptr 0 0 0 0),(5,u),(6,w),(8,.int .i64 (j:Int)),(9,.int .i64 (a:Int))]) ?_ ?_
  ·simp only[sz,simprocAttr,h3,h6,h8,hg,zL 8 1 _ _ _ _ _ hj8,VE,hcy,w8,wl,r1];simp[St,sx,h0,h3,h5,h6,h8]
  rintro t df g' ⟨rfl,rfl,h0,h3,h5,h6,h8,h9,-⟩;refine bI (P:=λt' df g''=>df=[]/\g''=g'/\St t' [(0,.int .i64 (n:Int)),(3,.hptr 0 0 0 0),(5,u),(6,w),(8,.int .i64 (j:Int)),(9,.int .i64 (a:Int)),(10,.int .i64 (b:Int))]) ?_ ?_
  ·simp only[sz,simprocAttr,h3,h6,h8,h9,hg,zL 8 1 _ _ _ _ _ hj8,VE,hcy,q8,w10,wl,w11,r2,w12,w13,r3];simp[St,sx,h0,h3,h5,h6,h8,h9]
  rintro t df g'' ⟨rfl,rfl,h0,h3,h5,h6,h8,h9,h10,-⟩;obtain⟨xa,hxa⟩:∃x,op[a]?=some x:=⟨_,R4 hal⟩;obtain⟨xb,hxb⟩:∃x,op[b]?=some x:=⟨_,R4 hbl⟩;obtain⟨-,hnx,oU,oW,ds⟩:=hJ;have u1:a<(op.map ci).length:=by simpa using hal
  have u2:(op.map ci)[a]?=some [.int .i64 xa]:=by rw[R_,hxa];rfl
  have u3:b<(op.map ci).length:=by simpa using hbl
  have u4:(op.map ci)[b]?=some [.int .i64 xb]:=by rw[R_,hxb];rfl
  have rW:=oW.rows;have hu0:vid u≠some 0:=λe=>by have:=(oU.lt e).1;omega
  have hw0:vid w≠some 0:=λe=>by have:=(oW.lt e).1;omega
  refine bI (P:=λt' df g1=>df=[]/\∃v2,St t' [(0,.int .i64 (n:Int)),(3,.hptr 0 0 0 0),(5,v2),(6,w),(8,.int .i64 (j:Int)),(9,.int .i64 (a:Int)),(10,.int .i64 (b:Int))]/\JdH cu8 v2 w (lo++[(-1,xa,xb)]) op g1) ?_ ?_
  ·simp only[sz,simprocAttr,sf,h5,h6,h9,h10,rW,u1,u2,u3,u4];refine aW (new:=[cs3 (-1,xa,xb)]) (oU.fr (by first| (simp;done)| (simp;omega)) λi hi=>by have:=(oU.lt hi).2;simp[RW];intro e;omega) (by simp[sx,sy,cs3]) (by first| (simp;done)| (simp;omega)) (by simp[aY];omega) λv2 g2 hv2 n2 f2 c2 lg2=>?_;have ff:∀i,i<g''.nx->vid u≠some i->g2.h.get i=g''.h.get i:=λi hi hv=>by rw[f2 i (by first| (simp;done)| (simp;omega)) hv];simp[RW];intro e;omega
   simp at n2;simp only[sz,simprocAttr,sf];refine⟨?_,v2,by simp[St,sx,h0,h3,h6,h8,h9,h10],?_,by first| (simp;done)| (simp;omega),?_,?_,λi hi e=>?_⟩
   ·simp only[Si,Sl,Sf,Sd,G.new_lg,G.put_lg,setLog_lg];refine aA [false,false,false,false,false,false,false,false,false,false,true,true,false] [(0,10)] (by simp[All2,ac,ap]) (by decide) ?_;rintro p hp x y hx hy;simp only[Sq,Sk,Ui]at hp;rcases hp with rfl;simp at hx hy;subst hx;subst hy;refine bH rfl rfl rfl rfl ?_ ?_ ?_<;>simp[ac,ap,ae]
   ·have:=ff 0 (by omega) hu0;simp[this,hg]
   ·have:Own g2 1 v2 3 ((lo++[(-1,xa,xb)]).map cs3):=by simpa using hv2
    exact this.fr (by first| (simp;done)| (simp;omega)) λi hi=>by simp
   ·refine oW.fr (by simp;omega) λi hi=>?_;have:=ff i (oW.lt hi).2 λe=>ds i e hi;simp[this]
   ·rcases c2 with c|⟨k,c,c'⟩
    ·exact ds i (c ▸ hi) e
    ·rw[hi]at c;injection c with c;have:=(oW.lt e).2;simp at c';omega
  rintro t df g1 ⟨rfl,v2,⟨h0,h3,h5,h6,h8,h9,h10,-⟩,hJ1⟩;simp only[sz,simprocAttr];have hI':=hI.join hxa hxb hab;refine FX (a:=a) (b:=b) (u:=v2) (w:=w) (n:=.int .i64 (n:Int)) (lo:=lo++[(-1,xa,xb)]) (op:=op) (iv:=(j:Int)) (by omega) hso hxa hxb hJ1 (by simp[St,sx,h0,h3,h5,h6,h8,h9,h10]) λt g2 v ht oV hf=>?_;have hol:=H5 xa xb op;obtain⟨L,hL⟩:∃L,L=S.b_ xa xb op:=⟨_,rfl⟩;change JdI n y _ (S.b_ xa xb op++_) at hI';rw[<-hL]at oV hol hI';obtain⟨h0,h3,h5,h8,h11,-⟩:=ht;obtain⟨hg1,hnx1,oU1,oW1,ds1⟩:=hJ1;have hf1:=hf.1;have ul:=λg=>oU1.sat_len g;have w14:IntKind.wrap .i64 ((((lo++[((-1:Int),xa,xb)]).map cs3).length:Int) - 1)=(lo.length:Int):=by rw[Ss,SZ,T2,ax (by omega) (by omega)];omega
  simp only[sz,simprocAttr,oh,h5,h11,ul,w14];refine aW (new:=[ci (lo.length:Int)]) (oV.step (Fr.new _ _)) (by simp[sx,sy,ci]) (by simp;omega) (by simp[aY];omega) λv3 g3 hv3 n3 f3 c3 _=>?_;simp only[sz,simprocAttr];have fr3:∀i,i<g1.nx->g3.h.get i=g1.h.get i:=λi hi=>by rw[f3 i (by simp;omega) (λe=>by have:=(oV.lt e).1;omega),(Fr.new g2 _).2 i (by omega),hf.2 i hi]
  have n3':g2.nx+1<=g3.nx:=by simpa using n3
  refine⟨⟨by simp[St,sx,h0,h3],v2,v3,lo++[(-1,xa,xb)],L++[(lo.length:Int)],by simp[sx,h5],by simp[sx],by simp;omega,hI',?_⟩,by simp[sx,h8]⟩
  ·refine⟨by rw[fr3 0 (by omega),hg1],by omega,oU1.fr (by omega) λi hi=>fr3 i (oU1.lt hi).2,?_,λi hi e=>?_⟩
   ·have:Own g3 g1.nx v3 1 ((L++[(lo.length:Int)]).map ci):=by simpa using hv3
    exact this.low hnx1
   ·have:=(hv3.lt e).1;have:=(oU1.lt hi).2;omega
 ·rintro t df g ⟨rfl,-,u,w,lo,op,h5,h6,hlo,hI,hJ⟩;have hopl:=hI.len;simp only[sz,simprocAttr,om,h5];exact⟨λ_=>True,lo,⟨hI.ck hn1 (by omega),by omega⟩,hJ.oU.sps (by omega)⟩
end
end Hx
end
