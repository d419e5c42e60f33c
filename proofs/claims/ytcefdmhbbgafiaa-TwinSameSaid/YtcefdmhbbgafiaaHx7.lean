/- A part of the proof: what the functions of the chapter compute. -/
import Derived.RangeFuncIn
import Derived.Laws.Sem
import Derived.Laws.Tables
import Derived.DeepKeys3
import Derived.AtR
import Derived.Orders
import Derived.Below
import Derived.Laws.Externs
import Derived.KernelRfl
import Derived.Test.YtcefdmhbbgafiaaHx6
set_option linter.all false
set_option maxHeartbeats 8000000
section
namespace Hx
open Go
noncomputable section
def szs(c:Nat->Int)(R:List (List Int))(l p:List Int):List Int:=l.map (λx=>c x.toNat)++p.map λx=>(R[x.toNat]?.map λr=>(r.length:Int)).getD 0
theorem C6{e:ME}{c:Nat->Int}{R:List (List Int)}{F N O:Nat->List Int}{l p q:List Int}{k:Int}(hl:S.Rc l e.n=true):S.Rh (mkM e c R F N O) ⟨k,l,p,q⟩=szs c R l p:=by
 unfold S.Rh szs;congr 1;refine Ul λx hx=>?_;have:=aE hl x hx;unfold S.Rf;rw[D6 (by omega)]
 rfl
theorem tV(gr q z:Int):(S.Sf gr q z).length=2\/(S.Sf gr q z).length=3:=by
 unfold S.Sf;split
 ·exact .inl rfl
 ·exact .inr rfl
theorem qf{e:ME}{c:Nat->Int}{R:List (List Int)}{N:Nat->List Int}{l p:List Int}(hF:MF e c R N)(hl:S.Rc l e.n=true)(hp:S.Rc p R.length=true):∀x∈szs c R l p,2<=x/\x<=3:=by
 intro x hx;rcases Uf.1 hx with h|h
 ·obtain⟨y,hy,rfl⟩:=T4.1 h;have:=aE hl y hy;have:=hF.card y.toNat (by omega);omega
 ·obtain⟨y,hy,rfl⟩:=T4.1 h;have:=aE hp y hy;have hlt:y.toNat<R.length:=by omega
  rw[Tn hlt];obtain⟨q,z,-,-,-,hr⟩:=hF.roots _ (TW hlt);have:=tV e.gr q z;rw[<-hr]at this;show 2<=((R[y.toNat]).length:Int)/\((R[y.toNat]).length:Int)<=3;omega
structure MNd (e:ME) (c:Nat->Int) (R:List (List Int)) (F N O:Nat->List Int) (num:Nat->Nat) (k:Nat):Prop where
 places:S.Rc (F (num k)) e.n=true
 down:∀x∈F (num k),∃k',k'<k/\x=(num k':Int)
 len:(F (num k)).length<=4
 outs:(O (num k)).length=(S.SE (szs c R (F (num k)) (N (num k)))).length
 out:∀x∈O (num k),0<=x/\x<c (num k)
theorem rU{cards:List Int}:∀{f:Nat} {v:List Int},(S.SG cards f v).length<=f
 |0,v=>Tp _
 | f+1,v=>by
  simp only[S.SG,Ud]
  split
  ·have:=rU (cards:=cards) (f:=f) (v:=(S.Sv cards v).1);omega
  ·simp
theorem QE{d:Nat}{e:ME}{r6:AV}{pl:List Int}{num:Nat->Nat}{cap:Nat}{Q:QT}(hd:0<d)(he:e.Ok)(hpr:MPr e)(hp:MN e r6 pl num)
  {t:T} {g:G} {V:Nat->AV} {W:Nat->List (List AV)} {c:Nat->Int} {ow:List Bool} {R:List (List Int)} {N:Nat->List Int} (ht:MSt e r6 t) (h14:tat t 14=.int .i64 0)
  (hI:MI e g V W c ow cap) (hD:MD e W R (λ_=>[]) N (λ_=>[])) (hF:MF e c R N) (hol:ow.length=e.n) (hon:∀i,i<e.n->ow[i]?=some true->N i≠[]) (hR6:R.length<=6) (hN3:∀i,(N i).length<=3)
  (fin:∀t g V W F O,MSt e r6 t->MI e g V W c ow cap->MD e W R F N O->(∀k,k<e.n->MNd e c R F N O num k)->Q (.exit 6) t [] g) :
  wpL (wp C0 d none dZ) Q t [] g:=by
 have hoo:=he.ord;have hn1:=he.n1;simp only[dZ,iG];refine f_ e.n (by omega) (λi t df g=>df=[]/\MSt e r6 t/\∃V W F O,MI e g V W c ow cap/\MD e W R F N O/\(∀k,i<=k->k<e.n->F (num k)=[]/\O (num k)=[])/\∀k,k<i->MNd e c R F N O num k)
  ⟨rfl,ht,V,W,_,_,hI,hD,λk _ _=>⟨rfl,rfl⟩,λk hk=>by omega⟩ h14 (by decide) (by rintro j t df g v s (rfl|rfl|rfl)<;>simp[MSt,St,sx]) ?_ ?_ ?_
 ·rintro j t df g hj ⟨rfl,⟨h1,h2,h3,h4,h5,h6,h7,h9,-⟩,hx⟩ h14;simp only[sx,sy,SO.run,↓reduceIte,Nat.reduceEqDiff,h1,h2,h3,h4,h5,h6,h7,h9,h14,MSt,St];exact hx
 ·clear ht h14 hI hD;rintro i t df g hi ⟨rfl,⟨h1,h2,h3,h4,h5,h6,h7,h9,-⟩,V,W,F,O,hI,hD,hz,hk⟩ h14;have hil:i<pl.length:=(Tu.1 (hp.at_ i hi)).1;have hni:=hp.at_ i hi;have hv:=hp.lt i hi;obtain⟨hFv,hOv⟩:=hz i (Tp _) hi;have hpr6:=hp.r.rows;simp only[sx,SO.run,↓reduceIte,Nat.reduceEqDiff,h6,h14,hpr6,hil,hni,ci,Tz,Tt,TQ,Tx,Tq];generalize hve:num i=v at *;refine Q0 (i:=i) (v:=v) hd he hpr hp hi hv (by simp[sx,uY,St,h1,h2,h3,h4,h5,h6,h7,h9,h14]) (by simp[sx]) hI hD hFv ?_;clear h1 h2 h3 h4 h5 h6 h7 h9 h14 hI hD;rintro t g V W l ⟨h1,h2,h3,h4,h5,h6,h7,h9,h14,h15,-⟩ hI hD hl1 hl2 hl3;have hFlen:∀i',i'<e.n->(aS F v l i').length<=4:=λi' hi'=>by
   by_cases e1:i'=v
   ·subst e1;rw[aG];exact hl3
   ·rw[ay _ _ e1];obtain⟨k,hk1,rfl⟩:=hp.sur i' hi'
    by_cases e2:k<i
    ·exact (hk k e2).len
    ·rw[(hz k (by omega) hk1).1];simp
  have hOlen:∀i',i'<e.n->(O i').length<=1000000:=λi' hi'=>by
   obtain⟨k,hk1,rfl⟩:=hp.sur i' hi'
   by_cases e2:k<i
   ·rw[(hk k e2).outs];refine TU rU ?_;have hb:=qf hF (hk k e2).places (hF.inc _ hi');have:=ba (l:=szs c R (F (num k)) (N (num k))) λy hy=>by have:=hb y hy;omega
    have hl4:(szs c R (F (num k)) (N (num k))).length<=7:=by have:=(hk k e2).len;have:=hN3 (num k);simp[szs];omega
    have:=bI hl4;have:(4:Int) ^ 7=16384:=by decide
    omega
   ·rw[(hz k (by omega) hk1).2];simp
  have hA:=hI.agg he hD (by omega) λi' hi'=>⟨by have:=hFlen i' hi';omega,by have:=hN3 i';omega,by have:=hOlen i' hi';omega⟩;have hb:=qf hF hl1 (hF.inc v hv);have hll:(szs c R l (N v)).length<=7:=by have:=hN3 v;simp[szs];omega
  have hpb:=ba (l:=szs c R l (N v)) λy hy=>by have:=hb y hy;omega
  have:=bI hll;have h47:(4:Int) ^ 7=16384:=by decide
  simp only[sx,sy,SO.run,↓reduceIte,Nat.reduceEqDiff,Nat.reduceAdd,Nat.reduceLeDiff,iF,h4,h15,hI.h4];refine bH (KK (i:=v) (x:=⟨c v,l,N v,O v⟩) hd hA (by rw[D6 hv,aG]) (by simp[mkM];omega) (by simp[mkM];omega) (by simpa [mkM] using hl1) (by simpa [mkM] using hF.inc v hv)) λr hr=>?_;rw[C6 hl1]at hr;simp only[sx,SO.run,↓reduceIte];refine bH (PM hd (hr.sl _) (λx hx=>by have:=hb x hx;omega) (by omega) (by omega)) λr18 hr18=>?_;simp only[sx,SO.run,↓reduceIte];refine QD (e:=e) (r6:=r6) (r18:=r18) (i:=i) (v:=v) (cards:=szs c R l (N v)) (F:=aS F v l) hd he hpr hi hv hr18 (λx hx=>by have:=hb x hx;omega) (by omega) (TU rU (by omega)) (by simp[sx,iU,St,h1,h2,h3,h4,h5,h6,h7,h9,h14,h15]) (by simp[sx]) (hF.card v hv) hol (λh=>?_) (by rw[aG];omega) hI hD hOv ?_
  ·rw[aG];have:=List.length_pos_iff.2 (hon v hv h);simp[szs];omega
  clear h1 h2 h3 h4 h5 h6 h7 h9 h14 h15 hI hD hA;rintro t g V W lo ⟨h1,h2,h3,h4,h5,h6,h7,h9,h14,h15,h18,-⟩ hI hD hlo1 hlo2;simp only[sx,↓reduceIte];refine⟨⟨rfl,by simp[MSt,St,h1,h2,h3,h4,h5,h6,h7,h9],V,W,_,_,hI,hD,λk hk1 hk2=>?_,λk hk1=>?_⟩,by simp[h14]⟩
  ·have hne:num k≠v:=λe1=>by have:=hp.inj k i hk2 hi (by rw[e1,hve]);omega
   rw[ay _ _ hne,ay _ _ hne];exact hz k (by omega) hk2
  ·by_cases e1:k=i
   ·subst e1;exact⟨by rw[hve,aG];exact hl1,by rw[hve,aG];exact hl2,by rw[hve,aG];exact hl3,by rw[hve,aG,aG];exact hlo1,by rw[hve,aG];exact hlo2⟩
   ·have hne:num k≠v:=λe2=>e1 (hp.inj k i (by omega) hi (by rw[e2,hve]));have hkk:=hk k (by omega);exact⟨by rw[ay _ _ hne];exact hkk.places,by rw[ay _ _ hne];exact hkk.down,by rw[ay _ _ hne];exact hkk.len,by rw[ay _ _ hne,ay _ _ hne];exact hkk.outs,by rw[ay _ _ hne];exact hkk.out⟩
 ·rintro t df g ⟨rfl,ht,V,W,F,O,hI,hD,hz,hk⟩;exact fin t g V W F O ht hI hD hk
structure Made (m:Causal):Prop where
 ex:∃(e:ME) (c:Nat->Int) (R:List (List Int)) (F N O:Nat->List Int) (num:Nat->Nat),m=mkM e c R F N O/\(1<=e.n/\e.n<=4)/\(2<=e.gr/\e.gr<=12)/\MF e c R N/\R.length<=6/\(∀i,(N i).length<=3) /\
  (∀k,k<e.n->num k<e.n)/\(∀i j,i<e.n->j<e.n->num i=num j->i=j)/\(∀u,u<e.n->∃k,k<e.n/\num k=u)/\∀k,k<e.n->MNd e c R F N O num k
def Lc:VS:=λP k h v=>∃m,Made m/\Agg m P k h v
theorem NC:Snb Lc 1:=by
 refine⟨λ{P k h v n} d r hn=>?_,λ{k h v n} r hn=>?_⟩
 ·obtain⟨m,hm,r⟩:=r;obtain⟨v',e,r'⟩:=(bz m).snap d r hn;exact⟨v',e,m,hm,r'⟩
 ·obtain⟨m,hm,r⟩:=r;exact (bz m).tag r hn
theorem M3(os:List UInt8)(n:Nat):∃num:Nat->Nat,(∀k,k<n->(S.RD os n)[k]?=some (num k:Int))/\(∀k,k<n->num k<n)/\(∀i j,i<n->j<n->num i=num j->i=j)/\∀u,u<n->∃k,k<n/\num k=u:=by
 have hp:=CV os n;have hl:=nK os n;have hmem:∀x∈S.RD os n,0<=x/\x<n:=λx hx=>by have:=hp.mem_iff.1 hx;simp at this;obtain⟨a,ha,rfl⟩:=this;omega
 have hnd:(S.RD os n).Nodup:=by rw[hp.nodup_iff];exact List.Pairwise.map _ (λa b h e=>h (by omega)) (List.nodup_range (n:=n))
 have hat:∀k,k<n->(S.RD os n)[k]?=some ((((S.RD os n)[k]?.getD 0).toNat:Nat):Int):=λk hk=>by
  have hk2:k<(S.RD os n).length:=by omega
  rw[Tn hk2,Tq];have:=hmem _ (TW hk2);congr 1;omega
 refine⟨λk=>((S.RD os n)[k]?.getD 0).toNat,hat,λk hk=>?_,λi j hi hj e=>?_,λu hu=>?_⟩
 ·have hk2:k<(S.RD os n).length:=by omega
  have:=hmem _ (TW hk2);simp only[Tn hk2,Tq];omega
 ·have hi2:i<(S.RD os n).length:=by omega
  have hj2:j<(S.RD os n).length:=by omega
  have h1:=hmem _ (TW hi2);have h2:=hmem _ (TW hj2);simp only[Tn hi2,Tn hj2,Tq]at e;have e2:(S.RD os n)[i]=(S.RD os n)[j]:=by omega
  rcases V2 i j with h|h|h
  ·exact absurd e2 (VG.1 hnd i j hi2 hj2 h)
  ·exact h
  ·exact absurd e2.symm (VG.1 hnd j i hj2 hi2 h)
 ·have:((u:Nat):Int)∈S.RD os n:=hp.mem_iff.2 (T4.2 ⟨u,TK.2 hu,rfl⟩);obtain⟨k,hk,hk2⟩:=Ui.1 this;refine⟨k,by omega,?_⟩;simp only[Tn hk,Tq,hk2];omega
theorem Of{g:G}{b sz:Nat}{v x:AV}{rows src:List (List AV)}{K:AV->G->Prop}{D:ADf->Prop}(hv:Own g b v sz rows)(hne:rows≠[])(hx:ac g.h sz x=some src)
  (k:∀g' z,Own g' b v sz (src.take rows.length++rows.drop src.length)->g'.nx=g.nx->(∀i,vid v≠some i->g'.h.get i=g.h.get i)->K (.int .i64 z) g'):(yx sz v x g).sat K g D:=by
 unfold yx;rw[hx];rcases hv with⟨rfl,rfl⟩|⟨id,ep,lo,h1,h2,rfl,h3⟩
 ·exact absurd rfl hne
 ·dsimp only;simp only[G.get_eq,h3,aa,show Nat.beq ep ep=true from Uq ep,show Nat.beq sz sz=true from Uq sz,ax,Up,notb_eq,T9,Vy,T8,T6,Tp,if_true];refine k _ _ (.inr ⟨id,ep,lo,h1,by simpa using h2,?_,?_⟩) (by simp) (λi hi=>?_)
  ·congr 1;simp;omega
  ·simp only[G.put_h,aU,a_];congr 1;have hmin:Nat.min src.length rows.length=min src.length rows.length:=rfl;have key:(List.take (Nat.min src.length rows.length) src).length=min src.length rows.length:=by rw[Un,hmin];omega
   have e1:gX rows 0 (List.take (Nat.min src.length rows.length) src)=(List.take (Nat.min src.length rows.length) src)++rows.drop (min src.length rows.length):=by
    unfold gX
    split
    ·rename_i r hr;rw[hr,f8];rw[hr]at key;cases rows with
     |nil=>exact absurd rfl hne
     | cons a l =>
      have:min src.length (a::l).length=1:=by rw[<-key];rfl
      rw[this];rfl
    ·rw[a_,bj,ax,key];simp
   rw[e1]
   by_cases h:src.length<=rows.length
   ·rw[hmin,V8 h,Ug (Tp _),Ug h]
   ·rw[hmin,Nat.min_eq_right (by omega),List.drop_length,Ve (by omega)]
  ·rw[G.put_h,ah _ _ _ (λe=>hi (by rw[e];rfl))]
theorem SlR.wide{α:Type} [Rp α]{P:Nat->Prop}{k k':Nat}{h h':H}{l:List α}{v:AV}(r:SlR NoP k h l v)(hk:k<=k'):SlR P k' h' l v:=by obtain⟨w,hw,q⟩:=Rp.tree (P:=P) (k':=k') (h':=h') (show Rp.rp NoP k h l [v] from ⟨v,rfl,r⟩) hk;injection hw with hw;subst hw;exact q
theorem Own.lower{g:G}{b b':Nat}{v:AV}{sz:Nat}{rows:List (List AV)}(h:Own g b v sz rows)(hb:b'<=b):Own g b' v sz rows:=by
 rcases h with h|⟨id,ep,lo,h1,h2,h3,h4⟩
 ·exact .inl h
 ·exact .inr ⟨id,ep,lo,by omega,h2,h3,h4⟩
structure M0 (n p4 q i5 p7:Nat) (nv w5 cl:AV) (row0:List AV) (prow:List (List AV)) (gr:Int) (g:G) (cf:Nat->Int):Prop where
 h0:g.h.get 0=We 5 [row0]
 h1:g.h.get 1=We 3 [[.int .i64 0,.nils,.nils]]
 hN:Own g 2 nv 4 (iQ n cf λ_=>.nils)
 h4:g.h.get p4=We 3 [[.int .i64 gr,.nils,nv]]
 h5:Own g 2 w5 4 prow
 h7:g.h.get p7=We 2 [[cl,.int .i64 0]]
 nx:p7<g.nx
section
variable {n p4 q i5 p7:Nat}{nv w5 cl:AV}{row0:List AV}{prow:List (List AV)}{gr:Int}{g g':G}{cf cf':Nat->Int}
theorem M0.node(h:M0 n p4 q i5 p7 nv w5 cl row0 prow gr g cf)(ho:1<q/\q<p4/\p4<i5/\i5<p7)(v5:vid w5=some i5)(vn:vid nv=some q)(hN:Own g' 2 nv 4 (iQ n cf' λ_=>.nils))(hn:g.nx<=g'.nx)
  (hf:∀i,vid nv≠some i->g'.h.get i=g.h.get i):M0 n p4 q i5 p7 nv w5 cl row0 prow gr g' cf':=by
 have hf':∀i,i≠q->g'.h.get i=g.h.get i:=λi hi=>hf i (by rw[vn];intro e;injection e with e;exact hi e.symm);have:=h.nx
 exact { h0:=by rw[hf' 0 (by omega),h.h0],h1:=by rw[hf' 1 (by omega),h.h1],hN:=hN,h4:=by rw[hf' _ (by omega),h.h4],
         h5:=h.h5.fr hn λi hi=>hf' i (by have:=bi v5 hi;omega),h7:=by rw[hf' _ (by omega),h.h7],nx:=by omega }
theorem M0.same(h:M0 n p4 q i5 p7 nv w5 cl row0 prow gr g cf)(hf:g'.h=g.h)(hn:g.nx<=g'.nx):M0 n p4 q i5 p7 nv w5 cl row0 prow gr g' cf :=
 { h0:=by rw[hf,h.h0],h1:=by rw[hf,h.h1],hN:=h.hN.fr hn λi _=>by rw[hf],h4:=by rw[hf,h.h4],h5:=h.h5.fr hn λi _=>by rw[hf],h7:=by rw[hf,h.h7],nx:=by have:=h.nx;omega }
end
theorem MH{d:Nat}{g:G}{x:Dn}{v:AV}(hd:0<d)(hm:Agg x NoP 0 g.h v):∃r,an C0 d N.R2 [v] g=.val r/\Lc NoP 0 .nil r:=by
 have e0:=cW d hm;obtain⟨cs,rfl,hc⟩:=hm;obtain⟨a,b,c,e,rfl,ha,hb,hcc,hee⟩:=C5.1 hc;rw[qm];refine bg sG (xs:=[.agg [u8v x.1,a,b,c,e]]) (by simp only[aK,e0]) (by simp[gq]) NC (by decide) hd ?_;clear e0 hc;have ha:=ha.tree (h':=.nil) (Tp _);have hb:=hb.tree (h':=.nil) (Tp _);have hcc:=hcc.tree (h':=.nil) (Tp _);have hee:=hee.tree (h':=.nil) (Tp _);have x8:x.1.toNat<256:=x.1.toNat_lt;obtain⟨n,hn⟩:∃n,n=min (max x.2.1.length 1) 4:=⟨_,rfl⟩;have hn1:1<=n/\n<=4:=by omega
 have hnI:min (max ((x.2.1.length:Nat):Int) 1) 4=(n:Int):=by omega
 obtain⟨gr,hgr⟩:∃gr:Int,gr=2+(x.1.toNat:Int) % 11:=⟨_,rfl⟩;have hg1:2<=gr/\gr<=12:=by omega
 simp only[gq,sx,sy,SO.run,↓reduceIte,Nat.reduceEqDiff,Nat.reduceAdd];generalize hg0:((G.empty.new (We 5 [[u8v x.fst,a,b,c,e]])).new (We 3 [[AV.int IntKind.i64 0,AV.nils,AV.nils]]))=g0;have f0:g0.h.get 0=We 5 [[u8v x.1,a,b,c,e]]:=by rw[<-hg0];simp[sx,Q_]
 have f1:g0.h.get 1=We 3 [[.int .i64 0,.nils,.nils]]:=by rw[<-hg0];simp[sx,Q_]
 have f2:g0.nx=2:=by rw[<-hg0];simp[sx]
 clear hg0;simp only[jI,sx,sy,sf,SO.run,↓reduceIte,Nat.reduceEqDiff,Nat.reduceAdd,Nat.reduceLeDiff,f0,ha.len,hnI,u8v,dc .u8 (show (0:Int)<=(x.1.toNat:Int) by omega) (show (0:Int)<11 by decide),
  au (show -9223372036854775808<=(x.1.toNat:Int) % 11 by omega) (show (x.1.toNat:Int) % 11<9223372036854775808 by omega),au (show -9223372036854775808<=2+(x.1.toNat:Int) % 11 by omega) (show 2+(x.1.toNat:Int) % 11<9223372036854775808 by omega),<-hgr,au (show -9223372036854775808<=gr by omega) (show gr<9223372036854775808 by omega)]
 refine lH (b:=2) (n:=n) (by simp[aQ];omega) (by simp[aQ];omega) (by simp[f2]) λnv g1 hnv n1 fr1 v1 lg1=>?_;simp only[sx,sy]at n1 fr1 v1 lg1;have f0':g1.h.get 0=We 5 [[u8v x.1,a,b,c,e]]:=by rw[fr1 0 (by omega),f0]
 have f1':g1.h.get 1=We 3 [[.int .i64 0,.nils,.nils]]:=by rw[fr1 1 (by omega),f1]
 simp only[sx,sy,sf,SO.run,↓reduceIte,Nat.reduceEqDiff,Nat.reduceAdd,Nat.reduceLeDiff,hnv.cell.1,hnv.cell.2];refine⟨?_,?_⟩
 ·simp only[TM,TS,TL,TJ,lg1];refine aI [false,false,false,false,false,false,true,false,true,true] [(0,6),(1,6),(2,6),(3,6),(4,6),(0,8),(1,8),(2,8),(3,8),(4,8),(5,8),(6,8),(7,8)] (by simp[All2,ae,aw,bf]) (by decide) ?_;rintro p hp x y hx hy;simp only[T3,TV,U_]at hp;rcases hp with rfl|rfl|rfl|rfl|rfl|rfl|rfl|rfl|rfl|rfl|rfl|rfl|rfl<;>(simp at hx hy;subst hx;subst hy;refine bO rfl rfl rfl rfl ?_ ?_ ?_<;>simp[ae,aw,ak]<;>omega)
 refine jA (b:=2) (n:=n) (by simp[aQ];omega) (by simp[aQ];omega) (by simp;try omega) λw5 g2 hw5 n2 fr2 v2=>?_;simp only[sx,sy]at n2 fr2 v2;obtain⟨p4,hp4⟩:∃p4,p4=g1.nx+1+1:=⟨_,rfl⟩;rw[<-hp4]at n2 fr2 v2;have k0:g2.h.get 0=We 5 [[u8v x.1,a,b,c,e]]:=by rw[fr2 0 (by omega),TF (by omega),TF (by omega),f0']
 have k1:g2.h.get 1=We 3 [[.int .i64 0,.nils,.nils]]:=by rw[fr2 1 (by omega),TF (by omega),TF (by omega),f1']
 have k4:g2.h.get p4=We 3 [[.int .i64 gr,.nils,nv]]:=by rw[fr2 p4 (by omega),TE rfl]
 have kN:Own g2 2 nv 4 (List.replicate n [AV.int IntKind.i64 0,AV.nils,AV.nils,AV.nils]):=hnv.fr (by omega) λi hi=>by have:=bi v1 hi;rw[fr2 i (by omega),TF (by omega),TF (by omega)]
 simp only[<-hp4,sx,sy,sf,SO.run,↓reduceIte,Nat.reduceEqDiff,Nat.reduceAdd,Nat.reduceLeDiff,k0];have rA:=ha.rows;obtain⟨arows,ra1,ra2⟩:=rA;have ra1:∀h',ac h' 4 a=some arows:=λh'=>by obtain⟨rr,q1,-⟩:=ha.all;have q1:∀h',ac h' 4 a=some rr:=q1;have:=(q1 .nil).symm.trans ra1;injection this with this;subst this;exact q1 h'
 refine Of hw5 (by intro h;have:=congrArg List.length h;simp at this;omega) (ra1 _) λg3 z x5 n3 fr3=>?_;have k0:g3.h.get 0=We 5 [[u8v x.1,a,b,c,e]]:=by rw[fr3 0 (by rw[v2];intro h;injection h;omega),k0]
 have k1:g3.h.get 1=We 3 [[.int .i64 0,.nils,.nils]]:=by rw[fr3 1 (by rw[v2];intro h;injection h;omega),k1]
 have k4:g3.h.get p4=We 3 [[.int .i64 gr,.nils,nv]]:=by rw[fr3 p4 (by rw[v2];intro h;injection h;omega),k4]
 have kN:Own g3 2 nv 4 (List.replicate n [AV.int IntKind.i64 0,AV.nils,AV.nils,AV.nils]):=kN.fr (by omega) λi hi=>by have:=bi v1 hi;rw[fr3 i (by rw[v2];intro h;injection h;omega)]
 simp only[sx,sy,sf,SO.run,↓reduceIte,Nat.reduceEqDiff,Nat.reduceAdd,Nat.reduceLeDiff,k0];refine lH (b:=2) (n:=n) (by simp[aQ];omega) (by simp[aQ];omega) (by simp;omega) λw6 g4 hw6 n4 fr4 v4 lg4=>?_;simp only[sx,sy]at n4 fr4 v4 lg4;have k0:g4.h.get 0=We 5 [[u8v x.1,a,b,c,e]]:=by rw[fr4 0 (by omega),k0]
 have hn5:vid w5=some (p4+1+1+1):=by rw[v2]
 have k1:g4.h.get 1=We 3 [[.int .i64 0,.nils,.nils]]:=by rw[fr4 1 (by omega),k1]
 have k4:g4.h.get p4=We 3 [[.int .i64 gr,.nils,nv]]:=by rw[fr4 p4 (by omega),k4]
 have kN:Own g4 2 nv 4 (List.replicate n [AV.int IntKind.i64 0,AV.nils,AV.nils,AV.nils]):=kN.fr (by omega) λi hi=>by have:=bi v1 hi;rw[fr4 i (by omega)]
 have k5:=x5.fr (g':=g4) (by omega) λi hi=>by have:=bi v2 hi;rw[fr4 i (by omega)]
 simp only[sx,sy,sf,SO.run,↓reduceIte,Nat.reduceEqDiff,Nat.reduceAdd,Nat.reduceLeDiff,k0,hw6.cell.1,hw6.cell.2,hee.cell.1,hee.cell.2];refine bH (A1 (P:=λ_=>True) (k:=0) (x:=(List.replicate n (0:UInt8),(0:UInt16),x.2.2.2.2)) (TG d) ⟨_,rfl,ug.2 ⟨w6,e,rfl,?_,hee.wide (Tp _)⟩⟩) λr6 hr6=>?_
 ·refine Own.sl (α:=UInt8) (hw6.fr (by simp;omega) λ_ _=>by simp) (by simp;omega) ?_ λ_ _=>trivial;have:=Q6 (R:=Rp.rp (λ_=>True) 0 g4.h) (a:=(0:UInt8)) (b:=[AV.int IntKind.u8 0]) (fP.2 rfl) n;simpa using this
 simp only[sx,sy,sf,SO.run,↓reduceIte,Nat.reduceEqDiff,Nat.reduceAdd,Nat.reduceLeDiff,lZ];refine⟨?_,?_⟩
 ·simp only[TM,TS,TL,TJ,lg4];refine aI [false,true,false,false,false,false,false] [(1,2),(1,3)] (by simp[All2,ae,aw,bf]) (by decide) ?_;rintro p hp x y hx hy;simp only[T3,TV,U_]at hp;rcases hp with rfl|rfl<;>(simp at hx hy;subst hx;subst hy;refine bO rfl rfl rfl rfl ?_ ?_ ?_<;>simp[ae,aw,ak])
 have hpl:=hr6;simp only[TY,show min n 5=n by omega]at hr6;clear hpl;simp only[sx,sy,SO.run,↓reduceIte,Nat.reduceEqDiff,Nat.reduceAdd,Nat.reduceLeDiff,k0];refine Ki (us:=x.2.2.2.1) hcc λg5 z5 n5 fr5=>?_;have fr5:=fr5.2.1;simp only[sx,sy]at z5 n5 fr5;obtain⟨p7,hp7⟩:∃p7,p7=g4.nx+1+1+1+1+1+1:=⟨_,rfl⟩;rw[<-hp7]at z5 n5 fr5;simp only[<-hp7,sx,sy,SO.run,↓reduceIte,Nat.reduceEqDiff,Nat.reduceAdd,Nat.reduceLeDiff];obtain⟨prow,hprow⟩:∃p,p=(List.take (List.replicate n [AV.int IntKind.u8 0,AV.int IntKind.u8 0,AV.int IntKind.u8 0,AV.nils]).length arows++List.drop arows.length (List.replicate n [AV.int IntKind.u8 0,AV.int IntKind.u8 0,AV.int IntKind.u8 0,AV.nils])):=⟨_,rfl⟩;rw[<-hprow]at k5;obtain⟨num,hnum1,hnum2,hnum3,hnum4⟩:=M3 x.2.2.2.2 n;obtain⟨q,hq⟩:∃q,q=g0.nx+1+1+1+1+1+1:=⟨_,rfl⟩;rw[<-hq]at v1 n1;obtain⟨i5,hi5⟩:∃i5,i5=p4+1+1+1:=⟨_,rfl⟩;rw[<-hi5]at hn5;have ho:1<q/\q<p4/\p4<i5/\i5<p7:=by omega
 have hM:M0 n p4 q i5 p7 nv w5 c [u8v x.1,a,b,c,e] prow gr g5 (λ_=>0) :=
  { h0:=by rw[fr5 0 (by omega),k0],h1:=by rw[fr5 1 (by omega),k1],h4:=by rw[fr5 p4 (by omega),k4],h5:=k5.fr (by omega) λi hi=>by have:=bi hn5 hi;rw[fr5 i (by omega)],
    hN:=by
     have:iQ n (λ_=>0) (λ_=>AV.nils)=List.replicate n [AV.int IntKind.i64 0,AV.nils,AV.nils,AV.nils]:=by show List.map (λ_=>[AV.int IntKind.i64 0,AV.nils,AV.nils,AV.nils]) (List.range n)=_;rw[List.map_const',Vp]
     rw[this];exact kN.fr (by omega) λi hi=>by have:=bi v1 hi;rw[fr5 i (by omega)],
    h7:=z5,nx:=by omega }
 have hr6r:=hr6.rows;have hpl:=nK x.2.2.2.2 n;generalize hpp:S.RD x.2.2.2.2 n=pl at *;have ryn:=gS v1;have ry5:=gS hn5;have hrow5:∀i,i<n->∃(y:Cg) (oa:AV),prow[i]?=some [u8v y.1,u8v y.2.1,u8v y.2.2.1,oa]/\SlR NoP 0 .nil y.2.2.2 oa:=λi hi=>by
  by_cases hia:i<arows.length
  ·have hxl:=ra2.len;obtain⟨y,hy⟩:∃y,x.2.1[i]?=some y:=⟨_,Tn (by omega)⟩;obtain⟨row,w1,w2⟩:=ra2.get hy;obtain⟨oa,rfl,hoa⟩:=Ni.1 w2;refine⟨y,oa,?_,hoa.tree (Tp _)⟩;rw[hprow,TY,TD (by rw[Un];omega),Uy hi,w1]
  ·refine⟨(0,0,0,[]),.nils,?_,by decide,rfl⟩;rw[hprow,TY,TB (by rw[Un];omega),UZ,Uh,TE (by rw[Un];omega)]
   rfl
 have hprl:prow.length=n:=by rw[hprow,TP,Un,VT,TY];omega
 simp only[jh];refine f_ n (by omega) (λj t df g=>df=[]/\St t [(1,.hptr 0 0 0 0),(2,.hptr 1 0 0 0),(3,.int .i64 (n:Int)),(4,.hptr p4 0 0 0),(5,w5),(6,r6),(7,.hptr p7 0 0 0)]/\∃cf,M0 n p4 q i5 p7 nv w5 c [u8v x.1,a,b,c,e] prow gr g cf/\∀k,k<j->cf (num k)=2)
  ⟨rfl,by simp[St,sx,hp4],_,hM,λk hk=>by omega⟩ (by simp[sx]) (by decide) (by rintro j t df g v s (rfl|rfl|rfl)<;>simp[St,sx]) ?_ ?_ ?_
 ·rintro j t df g hj ⟨rfl,⟨h1,h2,h3,h4,h5,h6,h7,-⟩,hx⟩ h8;simp only[sx,sy,SO.run,↓reduceIte,Nat.reduceEqDiff,h1,h2,h3,h4,h5,h6,h7,h8,St];exact hx
 ·clear hM;rintro j t df g hj ⟨rfl,⟨h1,h2,h3,h4,h5,h6,h7,-⟩,cf,hM,hcf⟩ h8;have hlt:j<pl.length:=by omega
  have hj1:=hnum1 j hj;have hj2:=hnum2 j hj;simp only[sx,sy,sf,SO.run,↓reduceIte,Nat.reduceEqDiff,Nat.reduceAdd,Nat.reduceLeDiff,h4,h6,h8,hM.h4,hr6r,hlt,hj1,hM.hN.rows,cF,hj2,ryn,ci,Tz,Tt,TQ,Tx,Tq];refine bw (row:=eN cf (λ_=>.nils) (num j)) (row':=eN (aS cf (num j) 2) (λ_=>.nils) (num j)) (hM.same (by simp) (by simp;omega)).hN (b_ _ _ hj2) rfl rfl (by simp only[eN,aG];rfl) λg2 x2 n2 f2=>?_;rw[kC rfl (λi hi=>by unfold eN;rw[ay _ _ hi])]at x2;simp only[sx,sy]at n2 f2;have hM2:=hM.node ho hn5 v1 x2 (by omega) f2;simp only[sx,sy,sf,SO.run,↓reduceIte,Nat.reduceEqDiff,Nat.reduceAdd,Nat.reduceLeDiff];refine⟨?_,?_⟩
  ·simp only[TM,TS,TL,TJ];exact aI [false,false,false,false,false,false,false,false,true] [] (by simp[All2,ae,aw,bf]) (by decide) (by simp)
  ·simp only[sx,sy,SO.run,↓reduceIte,Nat.reduceEqDiff,h1,h2,h3,h4,h5,h6,h7,h8,St];refine⟨_,hM2.same (by simp) (by simp),λk hk=>?_⟩
   by_cases e1:num k=num j
   ·rw[e1,aG]
   ·rw[ay _ _ e1];exact hcf k (by have:k≠j:=λe2=>e1 (by rw[e2]);omega)
 ·clear hM;rintro t df g ⟨rfl,⟨h1,h2,h3,h4,h5,h6,h7,-⟩,cf,hM,hcf⟩;have hcf2:∀i,i<n->cf i=2:=λi hi=>by obtain⟨k,hk,rfl⟩:=hnum4 i hi;exact hcf k hk
  have rest:∀(t:T) (g:G) (cf:Nat->Int),St t [(1,.hptr 0 0 0 0),(2,.hptr 1 0 0 0),(3,.int .i64 (n:Int)),(4,.hptr p4 0 0 0),(5,w5),(6,r6),(7,.hptr p7 0 0 0)]->M0 n p4 q i5 p7 nv w5 c [u8v x.1,a,b,c,e] prow gr g cf->(∀i,i<n->cf i=2\/cf i=3) ->
    wp C0 (d+1) none d7 (fnQ C0 (d+1) [SR.cell true 3 2] λv g'=>∃P,Lc P 0 g'.h v) t [] g:=by
   clear h1 h2 h3 h4 h5 h6 h7 hM hcf hcf2;rintro t g cf ⟨h1,h2,h3,h4,h5,h6,h7,-⟩ hM hcf;simp only[d7,sx,sy,SO.run,↓reduceIte,Nat.reduceEqDiff,Nat.reduceAdd,h3];have hnx:=hM.nx;refine jA (b:=g.nx) (n:=n) (by simp[aQ];omega) (by simp[aQ];omega) (Tp _) λw9 ga hw9 n9 fr9 v9=>?_;obtain⟨em,hem⟩:∃em:ME,em=⟨n,p4,q,i5,p7,g.nx,g.nx+1,nv,w5,w9,c,gr,[u8v x.1,a,b,c,e],prow,x.2.2.2.1⟩:=⟨_,rfl⟩;have e_n:em.n=n:=by rw[hem]
   have e_gr:em.gr=gr:=by rw[hem]
   have he:em.Ok:=by rw[hem];exact { ord:=⟨ho.1,ho.2.1,ho.2.2.1,ho.2.2.2,hnx,Nat.lt_succ_self _⟩,n1:=hn1,g1:=hg1,vn:=v1,v5:=hn5,v9:=v9,l7:=hcc }
   have hpr:MPr em:=by rw[hem];exact⟨hprl,hrow5⟩
   have hN:MN em r6 pl num:=by rw[hem];exact⟨hr6,hnum1,hnum2,hnum3,hnum4⟩
   have hI:MI em ga (λ_=>.nils) (λ_=>[]) cf (List.replicate em.n false) 0:=by
    rw[hem]
    exact { h0:=by rw[fr9 0 (by omega),hM.h0],h1:=by rw[fr9 1 (by omega),hM.h1],h4:=by show ga.h.get p4=_;rw[fr9 p4 (by omega),hM.h4],
            h5:=(hM.h5.fr (by omega) λi hi=>fr9 i (hM.h5.lt hi).2).lower (Ue _),hN:=(hM.hN.fr (by omega) λi hi=>fr9 i (hM.hN.lt hi).2).lower (Ue _),
            h7:=⟨0,VW _,VW _,by show ga.h.get p7=_;rw[fr9 p7 (by omega),hM.h7]⟩,
            h9:=by rw[VE];exact hw9.lower (Ue _),
            fam:=⟨λk _=>.inl ⟨rfl,rfl⟩,λk l _ _ _ id h=>by cases h⟩,nx:=by show g.nx+1<=ga.nx;omega }
   have hD:MD em (λ_=>[]) [] (λ_=>[]) (λ_=>[]) (λ_=>[]):=⟨trivial,λ_ _=>rfl,λ_ _=>rfl,λ_ _=>rfl⟩;simp only[sx,sy,SO.run,↓reduceIte,Nat.reduceEqDiff,Nat.reduceAdd];refine QX (r6:=r6) (TG d) he hpr (by simp[MSt,St,sx,hem,h1,h2,h3,h4,h5,h6,h7]) (by simp[sx]) hI hD (by rw[e_n];exact hcf) ?_;clear hI hD h1 h2 h3 h4 h5 h6 h7;intro t g V W ow R N ht hI hD hF hol hon hR4 hN1;obtain⟨h1,h2,h3,h4,h5,h6,h7,h9,-⟩:=ht;simp only[iJ,sx,sy,SO.run,↓reduceIte,Nat.reduceEqDiff,Nat.reduceAdd];refine QY (r6:=r6) (us:=x.2.2.1) (TG d) he (g0:=u8v x.1) (x0:=a) (b1:=b) (c0:=c) (e0:=e) (by rw[hem]) hb (by simp[MSt,St,sx,h1,h2,h3,h4,h5,h6,h7,h9]) (by simp[sx]) hI hD hF hon hR4 hN1 ?_;clear hI hD hF hon h1 h2 h3 h4 h5 h6 h7 h9 hN1;intro t g V W R N ht hI hD hF hon hR6 hN3;obtain⟨h1,h2,h3,h4,h5,h6,h7,h9,-⟩:=ht;simp only[iI,sx,sy,SO.run,↓reduceIte,Nat.reduceEqDiff,Nat.reduceAdd];refine QE (r6:=r6) (TG d) he hpr hN (by simp[MSt,St,sx,h1,h2,h3,h4,h5,h6,h7,h9]) (by simp[sx]) hI hD hF hol hon hR6 hN3 ?_;clear hI hD h1 h2 h3 h4 h5 h6 h7 h9;intro t g V W F O ht hI hD hnd;obtain⟨h1,h2,h3,h4,h5,h6,h7,h9,-⟩:=ht;have hA:=hI.agg he hD (by omega) λi hi=>by
    obtain⟨k,hk,rfl⟩:=hN.sur i hi;refine⟨by have:=(hnd k hk).len;omega,by have:=hN3 (num k);omega,?_⟩;rw[(hnd k hk).outs];refine TU rU ?_;have hb:=qf hF (hnd k hk).places (hF.inc _ hi);have:=ba (l:=szs cf R (F (num k)) (N (num k))) λy hy=>by have:=hb y hy;omega
    have hl4:(szs cf R (F (num k)) (N (num k))).length<=7:=by have:=(hnd k hk).len;have:=hN3 (num k);simp[szs];omega
    have:=bI hl4;have:(4:Int) ^ 7=16384:=by decide
    omega
   have hbb:=hI.nx;simp only[iH,sx,sy,SO.run,↓reduceIte,Nat.reduceEqDiff,Nat.reduceAdd,Nat.reduceLeDiff,h2,h4,hI.h4,hI.h1];refine⟨λi=>1<i,_,⟨em,cf,R,F,N,O,num,rfl,he.n1,he.g1,hF,hR6,hN3,hN.lt,hN.inj,hN.sur,hnd⟩,?_⟩;obtain⟨cs,hcs,hA⟩:=hA;exact⟨cs,hcs,Rp.mono hA (λi hi=>⟨hi,by rw[ah _ _ _ (by omega)]⟩) (Tp _)⟩
  obtain⟨y,oa,hy,hoa⟩:=hrow5 0 (by omega);have hjp:0<prow.length:=by omega
  have z0:=hnum1 0 (by omega);have z1:=hnum2 0 (by omega);have hlt:0<pl.length:=by omega
  have ix5:∀g':G,(ac g'.h 4 w5).isSome=true->0<((ac g'.h 4 w5).getD []).length->B4 4 w5 (.int .i64 0) g'=.val (nX 4 w5 0 0):=λg' q1 q2=>zq (i:=0) q1 q2;have ix6:∀g':G,(ac g'.h 1 r6).isSome=true->0<((ac g'.h 1 r6).getD []).length->B4 1 r6 (.int .i64 0) g'=.val (nX 1 r6 0 0):=λg' q1 q2=>zq (i:=0) q1 q2;simp only[iK,sx,sy,SO.run,↓reduceIte,Nat.reduceEqDiff,Nat.reduceAdd,h5,ix5,hM.h5.rows,hjp,hy,ry5,u8v,Tx,Tq,dc .u8 (show (0:Int)<=(y.1.toNat:Int) by omega) (show (0:Int)<3 by decide)];refine aR (λhb=>?_) (λhb=>?_)
  ·simp only[sx,sy,sf,SO.run,↓reduceIte,Nat.reduceEqDiff,Nat.reduceAdd,Nat.reduceLeDiff,h4,h6,ix6,hM.h4,hr6r,hlt,z0,hM.hN.rows,cF,z1,ryn,ci,Tz,Tt,TQ,Tx,Tq];refine bw (row:=eN cf (λ_=>.nils) (num 0)) (row':=eN (aS cf (num 0) 3) (λ_=>.nils) (num 0)) (hM.same (by simp) (by simp;omega)).hN (b_ _ _ z1) rfl rfl (by simp only[eN,aG];rfl) λg2 x2 n2 f2=>?_;rw[kC rfl (λi hi=>by unfold eN;rw[ay _ _ hi])]at x2;simp only[sx,sy]at n2 f2;have hM2:=hM.node ho hn5 v1 x2 (by omega) f2;simp only[sx,sy,sf,SO.run,↓reduceIte,Nat.reduceEqDiff,Nat.reduceAdd,Nat.reduceLeDiff];refine⟨?_,?_⟩
   ·simp only[TM,TS,TL,TJ];exact aI [false,false,false,false,false,false,false,true] [] (by simp[All2,ae,aw,bf]) (by decide) (by simp)
   ·refine rest _ _ _ (by simp[St,sx,h1,h2,h3,h4,h5,h6,h7]) (hM2.same (by simp) (by simp)) λi hi=>?_
    by_cases e1:i=num 0
    ·subst e1;rw[aG];exact .inr rfl
    ·rw[ay _ _ e1];exact .inl (hcf2 i hi)
  ·simp only[sx];exact rest _ _ cf (by simp[St,sx,h1,h2,h3,h4,h5,h6,h7]) hM λi hi=>.inl (hcf2 i hi)
end
end Hx
end
section
namespace Hx
open Go
noncomputable section
def eid:AV->Option Nat
 |.hsl id _ _ _ _=>some id
 |.hptr id _ _ _=>some id
 |_=>none
def Bx(g:G)(b:Nat)(v:AV)(row:List AV):Prop:=∃id,b<=id/\id<g.nx/\v=.hptr id 0 0 0/\g.h.get id=We row.length [row]
inductive En where
 |sl (sz:Nat) (rows:List (List AV))
 |bx (row:List AV)
def En.ok(g:G)(b:Nat)(v:AV):En->Prop
 |.sl sz rows=>Own g b v sz rows
 |.bx row=>Bx g b v row
theorem du{g:G}{b:Nat}{v:AV}{sz:Nat}{rows:List (List AV)}(h:Own g b v sz rows):eid v=vid v:=by rcases h with⟨rfl,-⟩|⟨id,ep,lo,h1,h2,rfl,h3⟩<;>rfl
theorem En.lt{g:G}{b:Nat}{v:AV}{e:En}(h:e.ok g b v){i:Nat}(hi:eid v=some i):b<=i/\i<g.nx:=by
 cases e with
 | sl sz rows =>
  have h:Own g b v sz rows:=h;rw[du h]at hi;exact h.lt hi
 | bx row =>
  obtain⟨id,h1,h2,rfl,h3⟩:=h;injection hi with hi;subst hi;exact⟨h1,h2⟩
theorem En.fr{g g':G}{b:Nat}{v:AV}{e:En}(h:e.ok g b v)(hn:g.nx<=g'.nx)(hf:∀i,eid v=some i->g'.h.get i=g.h.get i):e.ok g' b v:=by
 cases e with
 | sl sz rows =>
  have h:Own g b v sz rows:=h;exact h.fr hn λi hi=>hf i (by rw[du h];exact hi)
 | bx row =>
  obtain⟨id,h1,h2,rfl,h3⟩:=h;exact⟨id,h1,by omega,rfl,by rw[hf id rfl,h3]⟩
section
variable {κ:Type}
structure Hp (g:G) (b:Nat) (L:κ->Prop) (V:κ->AV) (E:κ->En):Prop where
 ok:∀k,L k->(E k).ok g b (V k)
 sep:∀k l,L k->L l->k≠l->∀id,eid (V k)=some id->eid (V l)≠some id
 nx:b<=g.nx
variable {g g':G}{b:Nat}{L L':κ->Prop}{V:κ->AV}{E:κ->En}{k:κ}
theorem Hp.step(h:Hp g b L V E)(hn:g.nx<=g'.nx)(hf:∀i,b<=i->i<g.nx->g'.h.get i=g.h.get i):Hp g' b L V E :=
 ⟨λk hk=>En.fr (h.ok k hk) hn λi hi=>hf i (En.lt (h.ok k hk) hi).1 (En.lt (h.ok k hk) hi).2,h.sep,TU h.nx hn⟩
theorem Hp.same(h:Hp g b L V E)(hf:g'.h=g.h)(hn:g.nx<=g'.nx):Hp g' b L V E:=h.step hn λi _ _=>by rw[hf]
theorem Hp.own(h:Hp g b L V E)(hk:L k){sz:Nat}{rows:List (List AV)}(he:E k=.sl sz rows):Own g b (V k) sz rows:=by have:=h.ok k hk;rw[he]at this;exact this
theorem Hp.box(h:Hp g b L V E)(hk:L k){row:List AV}(he:E k=.bx row):Bx g b (V k) row:=by have:=h.ok k hk;rw[he]at this;exact this
end
section
variable {κ:Type} [DecidableEq κ]
def ups{α:Type}(f:κ->α)(k:κ)(x:α):κ->α:=λj=>if j=k then x else f j
theorem bB{α:Type}(f:κ->α)(k:κ)(x:α):ups f k x k=x:=TE rfl
theorem aJ{α:Type}(f:κ->α){k j:κ}(x:α)(h:j≠k):ups f k x j=f j:=TF h
theorem NP{α:Type}{f:κ->α}{k:κ}{x:α}(h:f k=x):ups f k x=f:=by
 funext j;by_cases e:j=k
 ·subst e;rw[bB,h]
 ·exact aJ _ _ e
variable {g g':G}{b:Nat}{L L':κ->Prop}{V:κ->AV}{E:κ->En}{k:κ}
theorem Hp.set(h:Hp g b L V E){v':AV}{e':En}(hk:L k)(ho:e'.ok g' b v')(hn:g.nx<=g'.nx)(hf:∀i,b<=i->i<g.nx->eid (V k)≠some i->g'.h.get i=g.h.get i)
  (hv:eid v'=eid (V k)\/∃i,eid v'=some i/\g.nx<=i):Hp g' b L (ups V k v') (ups E k e'):=by
 refine⟨λj hj=>?_,λj l hj hl hne id e1 e2=>?_,TU h.nx hn⟩
 ·by_cases e:j=k
  ·subst e;rw[bB,bB];exact ho
  ·rw[aJ _ _ e,aJ _ _ e];exact En.fr (h.ok j hj) hn λi hi=>hf i (En.lt (h.ok j hj) hi).1 (En.lt (h.ok j hj) hi).2 λe2=>h.sep j k hj hk e i hi e2
 ·have key:∀j,L j->j≠k->∀id,eid (V j)=some id->eid v'≠some id:=λj hj hne id e1 e2=>by
   rcases hv with hv|⟨i,hv,hi⟩
   ·exact h.sep j k hj hk hne id e1 (hv ▸ e2)
   ·rw[hv]at e2;injection e2 with e2;have:=(En.lt (h.ok j hj) e1).2;omega
  by_cases a:j=k
  ·subst a;rw[bB]at e1;rw[aJ _ _ (UP hne)]at e2;exact key l hl (UP hne) id e2 e1
  ·rw[aJ _ _ a]at e1
   by_cases c:l=k
   ·subst c;rw[bB]at e2;exact key j hj a id e1 e2
   ·rw[aJ _ _ c]at e2;exact h.sep j l hj hl hne id e1 e2
theorem Hp.add(h:Hp g b L V E){v':AV}{e':En}(hk:¬L k)(ho:e'.ok g' b v')(hn:g.nx<=g'.nx)(hf:∀i,b<=i->i<g.nx->g'.h.get i=g.h.get i)
  (hv:∀i,eid v'=some i->g.nx<=i) (hl:∀j,L' j->L j\/j=k):Hp g' b L' (ups V k v') (ups E k e'):=by
 refine⟨λj hj=>?_,λj l hj hl2 hne id e1 e2=>?_,TU h.nx hn⟩
 ·rcases hl j hj with hj|rfl
  ·have e:j≠k:=λe=>hk (e ▸ hj);rw[aJ _ _ e,aJ _ _ e];exact En.fr (h.ok j hj) hn λi hi=>hf i (En.lt (h.ok j hj) hi).1 (En.lt (h.ok j hj) hi).2
  ·rw[bB,bB];exact ho
 ·have key:∀j,L j->∀id,eid (V j)=some id->eid v'≠some id:=λj hj id e1 e2=>by have:=hv id e2;have:=(En.lt (h.ok j hj) e1).2;omega
  rcases hl j hj with hj|rfl
  ·have e:j≠k:=λe=>hk (e ▸ hj);rw[aJ _ _ e]at e1;rcases hl l hl2 with hl2|rfl
   ·have e':l≠k:=λe=>hk (e ▸ hl2);rw[aJ _ _ e']at e2;exact h.sep j l hj hl2 hne id e1 e2
   ·rw[bB]at e2;exact key j hj id e1 e2
  ·rw[bB]at e1;rcases hl l hl2 with hl2|rfl
   ·have e':l≠j:=λe=>hne e.symm;rw[aJ _ _ e']at e2;exact key l hl2 id e2 e1
   ·exact hne rfl
theorem Own.new{g:G}{b:Nat}(hb:b<=g.nx)(sz:Nat)(rows:List (List AV)):Own (g.new (We sz rows)) b (.hsl g.nx 0 0 rows.length none) sz rows :=
 .inr ⟨g.nx,0,false,hb,by simp,rfl,by simp[aU]⟩
theorem Hp.app(h:Hp g b L V E)(hk:L k){sz bytes:Nat}{rows new:List (List AV)}(he:E k=.sl sz rows){x:AV}{K:AV->G->Prop}{D:ADf->Prop}(hx:ac g.h sz x=some new)
  (hr:(rows.length+new.length)*bytes<=aQ)
  (kk:∀v' g',Hp g' b L (ups V k v') (ups E k (.sl sz (rows++new)))->g.nx<=g'.nx->(∀i,i<b->g'.h.get i=g.h.get i)->(∀i,i<g.nx->eid (V k)≠some i->g'.h.get i=g.h.get i)->(∀i∈g'.lg,i∈g.lg\/b<=i)->v'.cells=[v']->v'.isTup=false->K v' g') :
  (cC sz bytes (V k) x g).sat K g D:=by
 have ho:=h.own hk he;refine aT ho hx h.nx hr λv' g' hv' hn hf hvid hlg=>?_;refine kk v' g' (h.set hk (e':=.sl sz (rows++new)) hv' hn (λi _ hi hne=>hf i hi (by rw[<-du ho];exact hne)) ?_) hn (λi hi=>hf i (TX hi h.nx) λe=>by have:=(ho.lt e).1;omega)
  (λi hi hne=>hf i hi (by rw[<-du ho];exact hne)) hlg hv'.cell.1 hv'.cell.2
 rw[du hv',du ho];exact hvid
theorem Hp.put(h:Hp g b L V E)(hk:L k){sz n i off:Nat}{rows:List (List AV)}{row row':List AV}(he:E k=.sl sz rows){x:AV}{K:AV->G->Prop}{D:ADf->Prop}(hr:rows[i]?=some row)
  (hl:x.cells.length=n) (ht:x.isTup=false) (hp:cL row off x.cells=some row')
  (kk:∀g',Hp g' b L V (ups E k (.sl sz (rows.set i row')))->g'.nx=g.nx->(∀i,i<b->g'.h.get i=g.h.get i)->(∀i,eid (V k)≠some i->g'.h.get i=g.h.get i)->K .undef g'):(qQ n (nX sz (V k) i off) x g).sat K g D:=by
 have ho:=h.own hk he;refine bw ho hr hl ht hp λg' hv' hn hf=>?_;have:=h.set hk (e':=.sl sz (rows.set i row')) hv' (by omega) (λi _ hi hne=>hf i (by rw[<-du ho];exact hne)) (.inl rfl);rw[NP (f:=V) rfl]at this;exact kk g' this hn (λi hi=>hf i λe=>by have:=(ho.lt e).1;omega) λi hne=>hf i (by rw[<-du ho];exact hne)
theorem Hp.putb(h:Hp g b L V E)(hk:L k){row row':List AV}(he:E k=.bx row){id:Nat}(hv:V k=.hptr id 0 0 0)(hl:row'.length=row.length):Hp (g.put id (We row.length [row'])) b L V (ups E k (.bx row')):=by
 obtain⟨id',h1,h2,h3,h4⟩:=h.box hk he;rw[hv]at h3;injection h3 with h3;subst h3;have:=h.set (g':=g.put id (We row.length [row'])) hk (e':=.bx row') (v':=.hptr id 0 0 0) ⟨id,h1,by simpa using h2,rfl,by rw[hl];simp[aU]⟩ (by simp) (λi _ hi hne=>by
  rw[G.put_h,ah _ _ _ (λe=>hne (by rw[hv,e];rfl))]) (.inl (by rw[hv]))
 rw[NP (f:=V) hv]at this;exact this
end
end
end Hx
end
section
namespace Hx
open Go
noncomputable section
theorem bh{C:Cfg}{d:Nat}{rd:Option Nat}{l:List SI}{b:SC}{Q:QT}{t:T}{df:List ADf}{g:G}{P:PT}(h1:wpO C d rd l P t df g)(h2:∀t df g,P t df g->wp C d rd b Q t df g):wp C d rd (.seq (.ops l) b) Q t df g:=by
 rw[dK];have:wp C d rd (.ops l) (λe t df g=>e=.norm/\P t df g) t df g:=by rw[Ez];simpa using h1
 refine cR _ this ?_;rintro e t df g ⟨rfl,h⟩;exact h2 t df g h
structure Bnd (K:Nat) (m:Causal):Prop where
 r:m.roots.length<=K
 rr:∀x∈m.roots,x.length<=K
 n:m.nodes.length<=K
 f:∀x∈m.nodes,x.frm.length<=K/\x.noise.length<=K/\x.out.length<=K
abbrev Ky:Type:=Nat×Nat
structure BD (K R n:Nat) (V:Ky->AV) (E:Ky->En) (Rt:Nat->List Int) (c:Nat->Int) (F:Nat->Nat->List Int):Prop where
 r:∀i,i<R->E (0,i)=.sl 1 ((Rt i).map ci)/\(Rt i).length<=K
 f:∀q i,1<=q->q<=3->i<n->E (q,i)=.sl 1 ((F q i).map ci)/\(F q i).length<=K
 rs:E (4,0)=.sl 1 ((List.range R).map λi=>[V (0,i)])
 ns:E (4,1)=.sl 4 ((List.range n).map λi=>[.int .i64 (c i),V (1,i),V (2,i),V (3,i)])
def eD(f:Nat->Int)(n i:Nat):List Int:=(List.range n).map λj=>if j<i then f j else 0
theorem xk(f:Nat->Int)(n i:Nat):(eD f n i).length=n:=by simp[eD]
theorem Di(f:Nat->Int)(n:Nat):eD f n 0=List.replicate n 0:=by refine Uz (by simp[eD]) λi h1 h2=>by simp[eD]
theorem GF(f:Nat->Int)(n:Nat):eD f n n=(List.range n).map f:=by
 refine Uz (by simp[eD]) λi h1 h2=>?_;have:i<n:=by simpa [eD] using h1
 simp[eD,this]
theorem GI{f:Nat->Int}{n i:Nat}:(eD f n i).set i (f i)=eD f n (i+1):=by
 refine Uz (by simp[eD]) λj h1 h2=>?_;rw[List.getElem_set];simp only[eD,UN,U1]
 split
 ·rename_i e;subst e;rw[TE (by omega)]
 ·rename_i e
  by_cases h:j<i
  ·rw[TE h,TE (by omega)]
  ·rw[TF h,TF (by omega)]
theorem GG{f:Nat->Int}{n i j:Nat}(hj:j<n):∃y,((eD f n i).map ci)[j]?=some (ci y) :=
 ⟨(eD f n i)[j]'(by rw[xk];exact hj),by rw[Tt,Tn (by rw[xk];exact hj)];rfl⟩
def S.Rv(m:Causal)(al:List Int):Nat->List Int
 |0=>List.replicate (S.RQ m).toNat 0
 | j+1=>(S.Rv m al j).set (S.Q9 (m.nodes.map (·.card)) (S.Rg m (S.Rb (S.Ra m) (j:Int)) al)).toNat
   (IntKind.wrap .i64 ((S.Rv m al j)[(S.Q9 (m.nodes.map (·.card)) (S.Rg m (S.Rb (S.Ra m) (j:Int)) al)).toNat]?.getD 0+S.R1 m (j:Int)))
theorem tS(m:Causal)(al:List Int):∀j,(S.Rv m al j).length=(S.RQ m).toNat
 |0=>by simp[S.Rv]
 |j+1=>by simp[S.Rv,tS m al j]
def S.Tf(m:Causal)(al:List Int):Factor:=⟨(List.range m.nodes.length).map (λi:Nat=>(i:Int)),m.nodes.map (·.card),S.Rv m al (S.Q8 m).toNat⟩
def S.S4(m:Causal)(al:List Int):Factor:=if S.Rs m [al]=0 then S.Tf m al else ⟨[],[],[]⟩
theorem Eg{m:Causal}{al roots:List Int}(hck:S.Q_ m=true)(hr:InC (S.Ra m) roots)(ha:S.Rd m al=true):InC (m.nodes.map (·.card)) (S.Rg m roots al):=by
 refine xW (by simp[S.Rg]) λi c v hc hv=>?_;have hi:i<m.nodes.length:=by have:=(Tu.1 hc).1;simpa using this
 have hx:=Tn hi;rw[Tt,hx]at hc;rw[S.Rg,Tt,U3 hi]at hv;injection hc with hc;injection hv with hv;rw[<-hc,<-hv];exact C_ hck hr ha (Jp hck roots al) i _ hx
theorem jU{m:Causal}(hck:S.Q_ m=true):∀c∈m.nodes.map (·.card),1<=c/\c<=4:=λc hc=>by obtain⟨x,hx,rfl⟩:=T4.1 hc;exact (ap hck).1.card x hx
theorem Cp{m:Causal}(hck:S.Q_ m=true):1<=S.RQ m/\S.RQ m<=1024:=by obtain⟨hs,hgr,hn1,hro,hno⟩:=ap hck;have hb:=ba (jU hck);simp only[S.SB,Ts,TA]at hno;exact⟨hb.1,hno.2⟩
theorem Js{m:Causal}{al:List Int}(hck:S.Q_ m=true)(ha:S.Rd m al=true){j:Int}(hj:0<=j) :
  0<=S.Q9 (m.nodes.map (·.card)) (S.Rg m (S.Rb (S.Ra m) j) al)/\S.Q9 (m.nodes.map (·.card)) (S.Rg m (S.Rb (S.Ra m) j) al)<S.RQ m :=
 bY (jU hck) (Eg hck (tU (λc hc=>by have:=h_ (ap hck).1 c hc;omega) hj) ha)
structure TI (g:G) (q:Nat) (m:Causal) (k1 k2 act u1 u2 u3:AV) (A B W:List Int):Prop where
 a1:g.h.get 1=We 1 [[act]]
 a2:g.h.get 2=We 3 [[.nils,.nils,.nils]]
 a4:g.h.get 4=We 4 [[.int .i64 m.grain,k1,k2,.int .i64 (S.Q8 m)]]
 bq:g.h.get q=We 3 [[u1,u2,u3]]
 o1:Own g 5 u1 1 (A.map ci)
 o2:Own g 5 u2 1 (B.map ci)
 o3:Own g 5 u3 1 (W.map ci)
 q5:5<=q/\q<g.nx
 n1:∀i,vid u1=some i->i≠q/\vid u2≠some i/\vid u3≠some i
 n2:∀i,vid u2=some i->i≠q/\vid u3≠some i
 n3:∀i,vid u3=some i->i≠q
section
variable {g g':G}{q:Nat}{m:Causal}{k1 k2 act u1 u2 u3:AV}{A B W:List Int}
theorem TI.fr(h:TI g q m k1 k2 act u1 u2 u3 A B W)(hn:g.nx<=g'.nx)(hf:∀i,i<g.nx->g'.h.get i=g.h.get i):TI g' q m k1 k2 act u1 u2 u3 A B W:=by
 have q5:=h.q5;exact⟨by rw[hf _ (by omega),h.a1],by rw[hf _ (by omega),h.a2],by rw[hf _ (by omega),h.a4],by rw[hf _ (by omega),h.bq],h.o1.fr hn λi hi=>hf i (h.o1.lt hi).2,h.o2.fr hn λi hi=>hf i (h.o2.lt hi).2,
  h.o3.fr hn λi hi=>hf i (h.o3.lt hi).2,by omega,h.n1,h.n2,h.n3⟩
theorem TI.set1(h:TI g q m k1 k2 act u1 u2 u3 A B W){A':List Int}(o:Own g' 5 u1 1 (A'.map ci))(hn:g.nx<=g'.nx)(hf:∀i,i<g.nx->vid u1≠some i->g'.h.get i=g.h.get i):TI g' q m k1 k2 act u1 u2 u3 A' B W:=by
 have q5:=h.q5;have lt:=λi hi=>h.o1.lt (i:=i) hi;exact⟨by rw[hf _ (by omega) (λe=>by have:=lt _ e;omega),h.a1],by rw[hf _ (by omega) (λe=>by have:=lt _ e;omega),h.a2],by rw[hf _ (by omega) (λe=>by have:=lt _ e;omega),h.a4],by rw[hf _ (by omega) (λe=>(h.n1 _ e).1 rfl),h.bq],o,
  h.o2.fr hn λi hi=>hf i (h.o2.lt hi).2 λe=>(h.n1 _ e).2.1 hi,h.o3.fr hn λi hi=>hf i (h.o3.lt hi).2 λe=>(h.n1 _ e).2.2 hi,by omega,h.n1,h.n2,h.n3⟩
theorem TI.set2(h:TI g q m k1 k2 act u1 u2 u3 A B W){B':List Int}(o:Own g' 5 u2 1 (B'.map ci))(hn:g.nx<=g'.nx)(hf:∀i,i<g.nx->vid u2≠some i->g'.h.get i=g.h.get i):TI g' q m k1 k2 act u1 u2 u3 A B' W:=by
 have q5:=h.q5;have lt:=λi hi=>h.o2.lt (i:=i) hi;exact⟨by rw[hf _ (by omega) (λe=>by have:=lt _ e;omega),h.a1],by rw[hf _ (by omega) (λe=>by have:=lt _ e;omega),h.a2],by rw[hf _ (by omega) (λe=>by have:=lt _ e;omega),h.a4],by rw[hf _ (by omega) (λe=>(h.n2 _ e).1 rfl),h.bq],
  h.o1.fr hn λi hi=>hf i (h.o1.lt hi).2 λe=>(h.n1 _ hi).2.1 e,o,h.o3.fr hn λi hi=>hf i (h.o3.lt hi).2 λe=>(h.n2 _ e).2 hi,by omega,h.n1,h.n2,h.n3⟩
theorem TI.set3(h:TI g q m k1 k2 act u1 u2 u3 A B W){W':List Int}(o:Own g' 5 u3 1 (W'.map ci))(hn:g.nx<=g'.nx)(hf:∀i,i<g.nx->vid u3≠some i->g'.h.get i=g.h.get i):TI g' q m k1 k2 act u1 u2 u3 A B W':=by
 have q5:=h.q5;have lt:=λi hi=>h.o3.lt (i:=i) hi;exact⟨by rw[hf _ (by omega) (λe=>by have:=lt _ e;omega),h.a1],by rw[hf _ (by omega) (λe=>by have:=lt _ e;omega),h.a2],by rw[hf _ (by omega) (λe=>by have:=lt _ e;omega),h.a4],by rw[hf _ (by omega) (λe=>h.n3 _ e rfl),h.bq],
  h.o1.fr hn λi hi=>hf i (h.o1.lt hi).2 λe=>(h.n1 _ hi).2.2 e,h.o2.fr hn λi hi=>hf i (h.o2.lt hi).2 λe=>(h.n2 _ hi).2 e,o,by omega,h.n1,h.n2,h.n3⟩
theorem NJ{d:Nat}{t:T}{Q:QT}(hck:S.Q_ m=true)(hN:SlR NoP 0 .nil m.nodes k2)(hI:TI g q m k1 k2 act u1 u2 u3 (eD (λi=>(i:Int)) m.nodes.length 0) (eD (λi=>S.Rf m (i:Int)) m.nodes.length 0) W)
  (ht:St t [(3,.hptr 1 0 0 0),(4,.hptr 2 0 0 0),(6,.hptr 4 0 0 0),(9,.hptr q 0 0 0),(41,k2),(8,.int .i64 1)]) (h43:tat t 43=.int .i64 0) (h42:tat t 42=.int .i64 (m.nodes.length:Int))
  (fin:∀t g',St t [(3,.hptr 1 0 0 0),(4,.hptr 2 0 0 0),(6,.hptr 4 0 0 0),(9,.hptr q 0 0 0),(41,k2),(8,.int .i64 (S.RQ m))]->TI g' q m k1 k2 act u1 u2 u3 (eD (λi=>(i:Int)) m.nodes.length m.nodes.length) (eD (λi=>S.Rf m (i:Int)) m.nodes.length m.nodes.length) W->Q (.exit 0) t [] g') :
  wpL (wp C0 d none lX) Q t [] g:=by
 obtain⟨hs,hgr,hn1,hro,hno⟩:=ap hck;have hn5:=hs.nodes;obtain⟨rows,r1,r2,r3,r4⟩:=hN.all;have r1:∀h',ac h' 4 k2=some rows:=r1;simp only[lX];refine aq (m:=m.nodes.length) (by omega) (λj t df g'=>df=[]/\St t [(3,.hptr 1 0 0 0),(4,.hptr 2 0 0 0),(6,.hptr 4 0 0 0),(9,.hptr q 0 0 0),(41,k2),(8,.int .i64 (S.Q5 ((m.nodes.take j).map (·.card))))] /\
   TI g' q m k1 k2 act u1 u2 u3 (eD (λi=>(i:Int)) m.nodes.length j) (eD (λi=>S.Rf m (i:Int)) m.nodes.length j) W)
  ⟨rfl,ht,hI⟩ h43 h42 (by decide) (by rintro j t df g v s (rfl|rfl|rfl)<;>simp[St,sx]) ?_ ?_
 ·rintro j t df g' hj ⟨rfl,⟨h3,h4,h6,h9,h41,h8,-⟩,hI⟩ h43 h42;obtain⟨x,hx,htk,hm⟩:=af hj;obtain⟨row,q1,q2⟩:=r3 j x hx;obtain⟨fa,fb,fc,rfl,-,-,-⟩:=dG.1 q2;have hlt:j<rows.length:=by omega
  have hq:=hI.q5;have hqn:¬q=g'.nx:=by omega
  have hca:S.Rf m (j:Int)=x.card:=by simp[S.Rf,hx]
  have hb1:=n0 hs j;have hb2:=n0 hs (j+1);rw[htk,Ub,UA,cU]at hb2;obtain⟨y1,hy1⟩:=GG (f:=λi=>(i:Int)) (n:=m.nodes.length) (i:=j) (j:=j) hj;obtain⟨y2,hy2⟩:=GG (f:=λi=>S.Rf m (i:Int)) (n:=m.nodes.length) (i:=j) (j:=j) hj;have hl1:j<((eD (λi=>(i:Int)) m.nodes.length j).map ci).length:=by rw[Tz,xk];exact hj
  have hl2:j<((eD (λi=>S.Rf m (i:Int)) m.nodes.length j).map ci).length:=by rw[Tz,xk];exact hj
  refine bh (P:=λt df g1=>df=[]/\St t [(3,.hptr 1 0 0 0),(4,.hptr 2 0 0 0),(6,.hptr 4 0 0 0),(9,.hptr q 0 0 0),(41,k2),(42,.int .i64 (m.nodes.length:Int)),(43,.int .i64 (j:Int)),(8,.int .i64 (S.Q5 ((m.nodes.take j).map (·.card)))),(10,.int .i64 (j:Int)),(11,.hptr g'.nx 0 0 0)] /\
   TI g1 q m k1 k2 act u1 u2 u3 (eD (λi=>(i:Int)) m.nodes.length j) (eD (λi=>S.Rf m (i:Int)) m.nodes.length j) W/\g1.h.get g'.nx=We 4 [[.int .i64 x.card,fa,fb,fc]]/\g'.nx<g1.nx) ?_ ?_
  ·simp only[sx,sy,SO.run,↓reduceIte,Nat.reduceEqDiff,Nat.reduceAdd,Nat.reduceLeDiff,h3,h4,h6,h8,h9,h41,h42,h43,r1,hlt,q1,Tx,Tq,St];exact⟨hI.fr (by simp) λi hi=>by simp[Q_,show ¬i=g'.nx by omega],by omega⟩
  rintro t df g1 ⟨rfl,⟨h3,h4,h6,h9,h41,h42,h43,h8,h10,h11,-⟩,hI1,hx1,hxn⟩;have hry1:rR u1=true:=qO hI1.o1.rows hl1;have hry2:rR u2=true:=qO hI1.o2.rows hl2;simp only[sx,sy,sf,SO.run,↓reduceIte,Nat.reduceEqDiff,h9,h10,h11,hI1.bq,hx1,hI1.o1.rows,hl1,Tx,Tq];refine vZ (b:=5) (v:=u1) (sz:=1) (n:=1) (off:=0) (x:=.int .i64 (j:Int)) (row:=ci y1) (row':=ci (j:Int)) ?_ hy1 rfl rfl rfl λg2 o2 n2 f2 l2=>?_
  ·exact hI1.o1.fr (by simp;omega) λi _=>by simp
  rw[<-UJ,GI (f:=λi=>(i:Int))]at o2;have hI2:TI g2 q m k1 k2 act u1 u2 u3 (eD (λi=>(i:Int)) m.nodes.length (j+1)) (eD (λi=>S.Rf m (i:Int)) m.nodes.length j) W :=
   hI1.set1 o2 (by rw[n2];simp;omega) λi _ hne=>by rw[f2 i hne];simp
  have hx2:g2.h.get g'.nx=We 4 [[.int .i64 x.card,fa,fb,fc]]:=by rw[f2 _ (λe=>by have:=(hI.o1.lt e).2;omega)];simpa using hx1
  simp only[sx,sy,sf,SO.run,↓reduceIte,Nat.reduceEqDiff,hI2.o2.rows,hl2,Tx,Tq];refine vZ (b:=5) (v:=u2) (sz:=1) (n:=1) (off:=0) (x:=.int .i64 x.card) (row:=ci y2) (row':=ci x.card) ?_ hy2 rfl rfl rfl λg3 o3 n3 f3 l3=>?_
  ·exact hI2.o2.fr (by simp;omega) λi _=>by simp
  rw[<-hca,<-UJ,GI (f:=λi=>S.Rf m (i:Int))]at o3;have hI3:TI g3 q m k1 k2 act u1 u2 u3 (eD (λi=>(i:Int)) m.nodes.length (j+1)) (eD (λi=>S.Rf m (i:Int)) m.nodes.length (j+1)) W :=
   hI2.set2 o3 (by rw[n3];simp;omega) λi _ hne=>by rw[f3 i hne];simp
  have hx3:g3.h.get g'.nx=We 4 [[.int .i64 x.card,fa,fb,fc]]:=by rw[f3 _ (λe=>by have:=(hI.o2.lt e).2;omega)];simpa using hx2
  have lg2:∀i∈g2.lg,vid u1=some i:=λi hi=>by rcases l2 i hi with h|h;simp at h;exact h
  simp only[sx,sy,SO.run,↓reduceIte,Nat.reduceEqDiff,h3,h4,h6,h8,h9,h11,h41,h42,h43,hx3,
   au (show -9223372036854775808<=S.Q5 ((m.nodes.take j).map (·.card))*x.card by omega) (show S.Q5 ((m.nodes.take j).map (·.card))*x.card<9223372036854775808 by omega),St]
  refine⟨?_,?_⟩
  ·simp only[TM,TS,TL,TJ];refine aI [false,false,false,false,false,false,false,false,false,false,true,false,true] [(3,10),(4,10),(5,10),(7,10),(8,10)] (by simp[All2,ae,aw]) (by decide) ?_;rintro p hp x y hx hy;simp only[T3,TV,U_]at hp;rcases hp with rfl|rfl|rfl|rfl|rfl<;>(simp at hx hy;subst hx;subst hy;refine bO rfl rfl rfl rfl ?_ ?_ ?_)<;>simp[ae,aw,ak]
   ·intro i hi e;subst e;exact (hI.n1 _ (lg2 _ hi)).1 rfl
   ·intro i hi e;subst e;have:=(hI.o1.lt (lg2 _ hi)).2;omega
  ·rw[htk,Ub,UA,cU];exact⟨rfl,hI3.fr (by simp) λi _=>by simp⟩
 ·rintro t df g' ⟨rfl,ht,hI⟩;rw[TO]at ht;exact fin t g' ht hI
end
end
end Hx
end
section
namespace Hx
open Go
noncomputable section
theorem G3(m:Causal):eD (λi=>S.Rf m (i:Int)) m.nodes.length m.nodes.length=m.nodes.map (·.card):=by
 rw[GF];refine Uz (by simp) λi h1 h2=>?_;have:i<m.nodes.length:=by simpa using h2
 simp[S.Rf,Tn this]
theorem H3{d:Nat}{rd:Option Nat}{m:Causal}{t:T}{g:G}{q j:Nat}{al A:List Int}{k1 k2 act u1 u2 u3 u:AV}{P:Nat->Prop}(hd:0<d)(hck:S.Q_ m=true)(hac:S.Rd m al=true)
  (hks:∀h,Agg (⟨m,S.Q8 m⟩:KnownM) NoP 0 h (.agg [.int .i64 m.grain,k1,k2,.int .i64 (S.Q8 m)])) (ha:SlR NoP 0 .nil al act) (hu:SlR P 0 g.h (S.Rb (S.Ra m) (j:Int)) u)
  (ht:St t [(3,.hptr 1 0 0 0),(6,.hptr 4 0 0 0),(9,.hptr q 0 0 0),(12,u),(13,.int .i64 (S.R1 m (j:Int)))]) (hI:TI g q m k1 k2 act u1 u2 u3 A (m.nodes.map (·.card)) (S.Rv m al j)) :
  wp C0 d rd lY (λe _ df g3=>e=.norm/\df=[]/\TI g3 q m k1 k2 act u1 u2 u3 A (m.nodes.map (·.card)) (S.Rv m al (j+1))/\g3.nx=g.nx/\∀i,vid u3≠some i->g3.h.get i=g.h.get i) t [] g:=by
 obtain⟨hs,hgr,hn1,hro,hno⟩:=ap hck;have hn5:=hs.nodes;have hvi:=tU (l:=S.Ra m) (h:=(j:Int)) (λc hc=>by have:=h_ hs c hc;omega) (US j);have hri:=Eg (al:=al) hck hvi hac;have hcl:(m.nodes.map (·.card)).length=m.nodes.length:=by simp
 have hrl:(S.Rg m (S.Rb (S.Ra m) (j:Int)) al).length=m.nodes.length:=by simp[S.Rg]
 obtain⟨h3,h6,h9,h12,h13,-⟩:=ht;simp only[lY,sx,sy,SO.run,↓reduceIte,Nat.reduceEqDiff,Nat.reduceAdd,Nat.reduceLeDiff,h3,h6,h12,hI.a1,hI.a4];refine bH (HR (P:=NoP) (k:=0) (Pa:=NoP) (ka:=0) hd (hks _) hu (ha.tree (Tp _)) hck hvi hac) λr hr=>?_;simp only[sx,SO.run,↓reduceIte,hr.len,hrl];simp only[rD];refine aq (m:=m.nodes.length) (by omega) (λi t df g'=>df=[]/\g'=g/\St t [(9,.hptr q 0 0 0),(13,.int .i64 (S.R1 m (j:Int))),(74,r),(14,.int .i64 (hz (m.nodes.map (·.card)) (S.Rg m (S.Rb (S.Ra m) (j:Int)) al) i))])
  ⟨rfl,rfl,by simp[St,sx,h9,h13,IE]⟩ (by simp[sx]) (by simp[sx]) (by decide) (by rintro j t df g v s (rfl|rfl|rfl)<;>simp[St,sx]) ?_ ?_
 ·rintro i t df g' hi ⟨rfl,rfl,⟨h9,h13,h74,h14,-⟩⟩ h76 h75;obtain⟨c,hc,-,-⟩:=af (l:=m.nodes.map (·.card)) (j:=i) (by omega);obtain⟨v,hv,hv0⟩:=hri.get hc;have hlc:i<((m.nodes.map (·.card)).map ci).length:=by rw[Tz];omega
  have hlv:i<((S.Rg m (S.Rb (S.Ra m) (j:Int)) al).map ci).length:=by rw[Tz];omega
  have hrc:((m.nodes.map (·.card)).map ci)[i]?=some (ci c):=by rw[Tt,hc];rfl
  have hrv:((S.Rg m (S.Rb (S.Ra m) (j:Int)) al).map ci)[i]?=some (ci v):=by rw[Tt,hv];rfl
  have hb:=qa (jU hck) (by omega) hri i;have hb2:=qa (jU hck) (by omega) hri (i+1);have hcb:=jU hck c (Tv hc);have hsuc:=DZ hc hv;have hmul:0<=hz (m.nodes.map (·.card)) (S.Rg m (S.Rb (S.Ra m) (j:Int)) al) i*c:=Ur hb.1 (by omega);have hmul2:hz (m.nodes.map (·.card)) (S.Rg m (S.Rb (S.Ra m) (j:Int)) al) i*c<=67108864*4:=Uk hb.2 hcb.2 (by omega) (by decide);simp only[sx,sy,SO.run,↓reduceIte,Nat.reduceEqDiff,h9,h13,h14,h74,h75,h76,hI.bq,hI.o2.rows,hr.rows,hlc,hlv,hrc,hrv,ci,Tx,Tq,
   au (show -9223372036854775808<=hz (m.nodes.map (·.card)) (S.Rg m (S.Rb (S.Ra m) (j:Int)) al) i*c by omega) (show hz (m.nodes.map (·.card)) (S.Rg m (S.Rb (S.Ra m) (j:Int)) al) i*c<9223372036854775808 by omega),<-hsuc,
   au (show -9223372036854775808<=hz (m.nodes.map (·.card)) (S.Rg m (S.Rb (S.Ra m) (j:Int)) al) (i+1) by omega) (show hz (m.nodes.map (·.card)) (S.Rg m (S.Rb (S.Ra m) (j:Int)) al) (i+1)<9223372036854775808 by omega),St]
 ·rintro t df g' ⟨rfl,rfl,⟨h9,h13,h74,h14,-⟩⟩;rw[<-hcl,Mi (by omega)]at h14;have hti:=Js (al:=al) hck hac (US j);obtain⟨z,hz⟩:=Ty hti.1;have hcm:=Cp hck;have hzl:z<(S.Rv m al j).length:=by rw[tS];omega
  obtain⟨y,hy⟩:∃y,(S.Rv m al j)[z]?=some y:=⟨_,Tn hzl⟩;have hry:((S.Rv m al j).map ci)[z]?=some (ci y):=by rw[Tt,hy];rfl
  have hrl:z<((S.Rv m al j).map ci).length:=by rw[Tz];exact hzl
  have hT:S.Rv m al (j+1)=(S.Rv m al j).set z (IntKind.wrap .i64 (y+S.R1 m (j:Int))):=by rw[S.Rv,hz];show (S.Rv m al j).set (Int.toNat (z:Int)) (IntKind.wrap .i64 ((S.Rv m al j)[Int.toNat (z:Int)]?.getD 0+_))=_;rw[TH,hy];rfl
  rw[hz]at h14;simp only[rE,sx,sy,SO.run,↓reduceIte,Nat.reduceEqDiff,h9,h13,h14,hI.bq,hI.o3.rows,hrl,hry,ci,Tx,Tq];refine bw (row:=ci y) (row':=ci (IntKind.wrap .i64 (y+S.R1 m (j:Int)))) hI.o3 hry rfl rfl rfl λg3 o3 n3 f3=>?_;rw[<-UJ,<-hT]at o3;simp only[sx,sy];exact⟨hI.set3 o3 (by omega) λi _ hne=>f3 i hne,n3,f3⟩
theorem iZ{C:Cfg}{d:Nat}{rd:Option Nat}{a b:SC}{Q:QT}{t:T}{df:List ADf}{g:G}{P:PT}(h1:wp C d rd a (λe t df g=>e=.norm/\P t df g) t df g)(h2:∀t df g,P t df g->wp C d rd b Q t df g):wp C d rd (.seq a b) Q t df g:=by rw[dK];refine cR _ h1 ?_;rintro e t df g ⟨rfl,h⟩;exact h2 t df g h
theorem KZ{d:Nat}{g:G}{v act:AV}{m:Causal}{al:List Int}(hd:0<d)(hm:Agg m NoP 0 g.h v)(ha:SlR NoP 0 .nil al act) :
  ∃r,an C0 d N.Rg [v,act] g=.val r/\rK (Agg (S.S4 m al)) (One (S.Rs m [al])) NoP 0 .nil r:=by
 have e0:=cW d hm;have e1:=qP (h:=g.h) d (ha.tree (h':=g.h) (Tp 0));obtain⟨cs,rfl,hc⟩:=hm;obtain⟨a,b,rfl,hR,hN⟩:=aZ.1 hc;have hms:∀h,Agg m NoP 0 h (.agg [.int .i64 m.grain,a,b]):=λh=>⟨_,rfl,Rp.tree hc (Tp _)⟩;rw[yY];refine bg BQ (xs:=[.agg [.int .i64 m.grain,a,b],act]) (by simp only[aK,e0,e1]) (by simp[qC]) (cO (m:=2) (bz _) (a9 _) (by decide) (by decide)) (by decide) hd ?_;simp only[qC,sx,sy,SO.run,↓reduceIte,Nat.reduceEqDiff,Nat.reduceAdd,ha.cell.1,ha.cell.2];obtain⟨g0,hg0⟩:∃g0,g0=((G.empty.new (We 3 [[AV.int IntKind.i64 m.grain,a,b]])).new (We 1 [[act]])).new (We 3 [[.nils,.nils,.nils]]):=⟨_,rfl⟩;rw[<-hg0];have f0:g0.h.get 0=We 3 [[.int .i64 m.grain,a,b]]:=by rw[hg0];simp[sx,Q_]
 have f1:g0.h.get 1=We 1 [[act]]:=by rw[hg0];simp[sx,Q_]
 have f2:g0.h.get 2=We 3 [[.nils,.nils,.nils]]:=by rw[hg0];simp[sx]
 have fn:g0.nx=3:=by rw[hg0];simp[sx]
 clear hg0;simp only[sT,sx,sy,SO.run,↓reduceIte,Nat.reduceEqDiff,Nat.reduceAdd,Nat.reduceLeDiff,f0,f1];rw[mC 1 [.nils] act _ (by rw[ha.cell.1];rfl) ha.cell.2,ha.cell.1];simp only[sx,SO.run,↓reduceIte,Nat.reduceEqDiff,fn];have hls:SlR (λ_=>True) 0 (g0.new (We 1 [[act]])).h [al] (.hsl 3 0 0 1 none):=OE ha (by simp[fn,Q_]);refine bH (xe (ls:=[al]) (TG d) (TG d) (hms _) hls) λr hr=>?_;obtain⟨ra,rb,rfl,hra,hrb⟩:=hr;have hrb:=aB.1 hrb;injection hrb with hrb;subst hrb;obtain⟨kc,rfl,hkc⟩:=hra;obtain⟨k1,k2,rfl,hk1,hk2⟩:=dF.1 hkc;simp only[sx,sy,SO.run,↓reduceIte,Nat.reduceEqDiff,Nat.reduceAdd,Nat.reduceLeDiff,fn];refine aR (λhb=>?_) (λhb=>?_)
 ·have hne:S.Rs m [al]≠0:=by simpa using hb
  simp only[sx,sy,SO.run,↓reduceIte,Nat.reduceEqDiff,Nat.reduceAdd,Nat.reduceLeDiff,f2,fn];have:S.S4 m al=⟨[],[],[]⟩:=by rw[S.S4,TF hne]
  rw[this];exact⟨NoP,_,_,rfl,⟨_,rfl,eC.2 ⟨.nils,.nils,.nils,rfl,⟨by decide,rfl⟩,⟨by decide,rfl⟩,⟨by decide,rfl⟩⟩⟩,aB.2 rfl⟩
 ·have hE:S.Rs m [al]=0:=by simpa using hb
  have hE':=hE;rw[KE]at hE';have hck:S.Q_ m=true:=by
   cases hc:S.Q_ m with
   |true=>rfl
   |false=>rw[hc]at hE';simp at hE'
  have hac:S.Rd m al=true:=by
   cases hc:S.Rd m al with
   |true=>rfl
   |false=>rw[hck,hc]at hE';simp at hE'
  have hrd:S.Sp m [al]=⟨m,S.Q8 m⟩:=by unfold S.Sp;rw[TE hE]
  rw[hrd]at hkc hk1 hk2;simp only[hrd]at *;obtain⟨hs,hgr,hn1,hro,hno⟩:=ap hck;have hr8:=hs.roots;have hn5:=hs.nodes;have hks:∀h,Agg (⟨m,S.Q8 m⟩:KnownM) NoP 0 h (.agg [.int .i64 m.grain,k1,k2,.int .i64 (S.Q8 m)]):=λh=>⟨_,rfl,Rp.tree hkc (Tp _)⟩;simp only[xp,qH];refine bh (P:=λt df g1=>df=[]/\St t [(3,.hptr 1 0 0 0),(4,.hptr 2 0 0 0),(6,.hptr 4 0 0 0),(8,.int .i64 1)]/\g1.h.get 1=We 1 [[act]]/\g1.h.get 2=We 3 [[.nils,.nils,.nils]] /\
   g1.h.get 4=We 4 [[.int .i64 m.grain,k1,k2,.int .i64 (S.Q8 m)]]/\g1.nx=5) ?_ ?_
  ·simp[sx,sy,SO.run,St,fn,f1,f2]
  rintro t df g1 ⟨rfl,⟨h3,h4,h6,h8,-⟩,e1,e2,e4,en⟩;refine iZ (P:=λt df g2=>df=[]/\St t [(3,.hptr 1 0 0 0),(4,.hptr 2 0 0 0),(6,.hptr 4 0 0 0),(8,.int .i64 1)]/\∃q u1 u2,tat t 9=.hptr q 0 0 0/\TI g2 q m k1 k2 act u1 u2 .nils (eD (λi=>(i:Int)) m.nodes.length 0) (eD (λi=>S.Rf m (i:Int)) m.nodes.length 0) []) ?_ ?_
  ·simp only[sx,sy,sf,SO.run,↓reduceIte,h6,e4,hk2.len];refine lH (b:=5) (n:=m.nodes.length) (by simp[aQ];omega) (by simp[aQ];omega) (by simp[en]) λu1 g2 hu1 n2 fr2 v2 l2=>?_;have c4:g2.h.get 4=We 4 [[.int .i64 m.grain,k1,k2,.int .i64 (S.Q8 m)]]:=by rw[fr2 4 (by simp[en])];simpa using e4
   simp only[sx,sy,sf,SO.run,↓reduceIte,Nat.reduceEqDiff,h6,c4,hk2.len];refine lH (b:=5) (n:=m.nodes.length) (by simp[aQ];omega) (by simp[aQ];omega) (by simp[n2,en]) λu2 g3 hu2 n3 fr3 v3 l3=>?_;have hc1:=hu1.cell;have hc2:=hu2.cell;simp only[sx,sy,sf,SO.run,↓reduceIte,Nat.reduceEqDiff,Nat.reduceAdd,Nat.reduceLeDiff,h3,h4,h6,h8,hc1.1,hc1.2,hc2.1,hc2.2,St];simp only[bumpG_nx,setLog_nx,setLog_lg,en,Nat.reduceAdd]at n2 v2 l2;simp only[bumpG_nx,setLog_nx,setLog_lg,n2,Nat.reduceAdd]at n3 v3 l3;have d1:g3.h.get 1=We 1 [[act]]:=by rw[fr3 1 (by simp[n2])];simp;rw[fr2 1 (by simp[en])];simpa using e1
   have d2:g3.h.get 2=We 3 [[.nils,.nils,.nils]]:=by rw[fr3 2 (by simp[n2])];simp;rw[fr2 2 (by simp[en])];simpa using e2
   have d4:g3.h.get 4=We 4 [[.int .i64 m.grain,k1,k2,.int .i64 (S.Q8 m)]]:=by rw[fr3 4 (by simp[n2])];simpa using c4
   have o1:Own g3 5 u1 1 ((eD (λi=>(i:Int)) m.nodes.length 0).map ci):=by rw[Di,VE];exact hu1.fr (by omega) λi hi=>by rw[v2]at hi;injection hi with hi;subst hi;rw[fr3 9 (by simp[n2])];simp
   have o2:Own g3 5 u2 1 ((eD (λi=>S.Rf m (i:Int)) m.nodes.length 0).map ci):=by rw[Di,VE];exact hu2
   refine⟨?_,_,u1,u2,rfl,?_⟩
   ·simp only[TM,TS,TL,TJ,l2,l3,n3];refine aI [false,false,false,false,true,false,false,false,false,true,false,true,true] [(4,5),(4,6),(4,7),(4,8),(4,9),(4,11),(0,9),(1,9),(2,9),(3,9),(0,11),(1,11),(2,11),(3,11),(5,11),(6,11),(7,11),(8,11),(9,11),(10,11)] (by simp[All2,ae,aw]) (by decide) ?_;rintro p hp x y hx hy;simp only[T3,TV,U_]at hp;rcases hp with rfl|rfl|rfl|rfl|rfl|rfl|rfl|rfl|rfl|rfl|rfl|rfl|rfl|rfl|rfl|rfl|rfl|rfl|rfl|rfl<;>(simp at hx hy;subst hx;subst hy;refine bO rfl rfl rfl rfl ?_ ?_ ?_<;>simp[ae,aw,ak,n3])
   ·refine⟨?_,?_,?_,?_,?_,?_,.inl ⟨rfl,rfl⟩,?_,?_,?_,λi hi=>by cases hi⟩
    ·simp[Q_,n3,d1]
    ·simp[Q_,n3,d2]
    ·simp[Q_,n3,d4]
    ·simp[Q_,n3]
    ·exact o1.fr (by simp;omega) λi hi=>by rw[v2]at hi;injection hi with hi;subst hi;simp[Q_,n3]
    ·exact o2.fr (by simp;omega) λi hi=>by rw[v3]at hi;injection hi with hi;subst hi;simp[Q_,n3]
    ·simp[n3]
    ·intro i hi;rw[v2]at hi;injection hi with hi;subst hi;exact⟨by omega,by rw[v3];simp,by simp[vid]⟩
    ·intro i hi;rw[v3]at hi;injection hi with hi;subst hi;exact⟨by omega,by simp[vid]⟩
  ·rintro t df g2 ⟨rfl,⟨h3,h4,h6,h8,-⟩,q,u1,u2,h9,hI⟩;have hq5:=hI.q5;simp only[sx,sy,SO.run,↓reduceIte,h6,hI.a4,hk2.len];refine NJ (d:=d+1) hck hk2 hI (by simp[St,sx,h3,h4,h6,h8,h9]) (by simp[sx]) (by simp[sx]) λt g3 ht hI3=>?_;obtain⟨h3,h4,h6,h9,h41,h8,-⟩:=ht;have hcm:=Cp hck;obtain⟨sz,hsz⟩:=Ty (show 0<=S.RQ m by omega);rw[hsz]at h8;rw[G3]at hI3;have hq5:=hI3.q5;simp only[rG,sx,SO.run,↓reduceIte,h8];refine jA (b:=5) (n:=sz) (by simp[aQ];omega) (by simp[aQ];omega) (by omega) λu3 g4 hu3 n4 fr4 v4=>?_;have hI4:TI g4 q m k1 k2 act u1 u2 .nils (eD (λi=>(i:Int)) m.nodes.length m.nodes.length) (m.nodes.map (·.card)) []:=hI3.fr (by omega) fr4;have hc3:=hu3.cell;have hq4:¬4=q:=by omega
   have hI5:TI (g4.put q (We 3 [[u1,u2,u3]])) q m k1 k2 act u1 u2 u3 (eD (λi=>(i:Int)) m.nodes.length m.nodes.length) (m.nodes.map (·.card)) (S.Rv m al 0):=by
    have v1:=λi hi=>hI3.o1.lt (i:=i) hi;have v2:=λi hi=>hI3.o2.lt (i:=i) hi;refine⟨?_,?_,?_,?_,?_,?_,?_,by simp;omega,?_,?_,?_⟩
    ·simp[Q_,show ¬1=q by omega,hI4.a1]
    ·simp[Q_,show ¬2=q by omega,hI4.a2]
    ·simp[Q_,hq4,hI4.a4]
    ·simp[Q_]
    ·exact hI4.o1.fr (by simp) λi hi=>by simp[Q_,(hI4.n1 i hi).1]
    ·exact hI4.o2.fr (by simp) λi hi=>by simp[Q_,(hI4.n2 i hi).1]
    ·rw[S.Rv,hsz,TH,VE];exact hu3.fr (by simp) λi hi=>by rw[v4]at hi;injection hi with hi;subst hi;simp[Q_,show ¬g3.nx=q by omega]
    ·exact λi hi=>⟨(hI4.n1 i hi).1,(hI4.n1 i hi).2.1,by rw[v4];intro e;injection e with e;have:=v1 i hi;omega⟩
    ·exact λi hi=>⟨(hI4.n2 i hi).1,by rw[v4];intro e;injection e with e;have:=v2 i hi;omega⟩
    ·exact λi hi=>by rw[v4]at hi;injection hi with hi;omega
   simp only[sx,sy,SO.run,↓reduceIte,Nat.reduceEqDiff,Nat.reduceAdd,Nat.reduceLeDiff,h6,h9,hI4.bq,hI4.a4,hq4,hc3.1,hc3.2];obtain⟨wcs,hw,hwr⟩:=Dl (g:=g4.put q (We 3 [[u1,u2,u3]])) (TG d) (hks _);rw[hw];simp only[sx];generalize g4.put q (We 3 [[u1,u2,u3]])=g5 at hI5;refine A9 (d:=d+1) hck hwr (by simp[sx]) (by decide) (by decide) (λj h=>TI ⟨h,g5.nx,[]⟩ q m k1 k2 act u1 u2 u3 (eD (λi=>(i:Int)) m.nodes.length m.nodes.length) (m.nodes.map λx:Mech=>x.card) (S.Rv m al j)) ?_ (hI5.fr (Tp _) λ_ _=>rfl) ?_ ?_
   ·exact λj h h' hh hI=>hI.fr (Tp _) hh
   ·intro j u g6 hj hJ hn hu;have hJ:TI ⟨g6.h,g5.nx,[]⟩ q m k1 k2 act u1 u2 u3 (eD (λi=>(i:Int)) m.nodes.length m.nodes.length) (m.nodes.map (·.card)) (S.Rv m al j):=hJ;simp only[rC,sx,sy,SO.run,↓reduceIte,Nat.reduceEqDiff];intro g7 hn7 hf7;have v3:=λi hi=>hJ.o3.lt (i:=i) hi;have hJ7:TI g7 q m k1 k2 act u1 u2 u3 (eD (λi=>(i:Int)) m.nodes.length m.nodes.length) (m.nodes.map (·.card)) (S.Rv m al j):=hJ.fr (by show g5.nx<=g7.nx;omega) λi hi=>hf7 i (by have hi:i<g5.nx:=hi;omega);have hu7:SlR (λi=>g5.nx+2<=i) 0 g7.h (S.Rb (S.Ra m) (j:Int)) u:=by obtain⟨w,e,q⟩:=Rp.mono (P':=λi=>g5.nx+2<=i) (k':=0) (h':=g7.h) (show Rp.rp (λi=>g5.nx+2<=i) 0 g6.h (S.Rb (S.Ra m) (j:Int)) [u] from ⟨u,rfl,hu⟩) (λi hi=>⟨hi,hf7 i (by omega)⟩) (Tp _);injection e with e;subst e;exact q
    refine cR _ (H3 (d:=d+1) (rd:=some (g5.nx+1)) (j:=j) (al:=al) (TG d) hck hac hks ha hu7 (by simp[St,sx,h3,h6,h9]) hJ7) ?_;rintro e t' df g8 ⟨rfl,rfl,b1,b2,b3⟩;have v3':∀i,vid u3=some i->i<g5.nx:=λi hi=>(v3 i hi).2;refine⟨rfl,rfl,?_,by omega,λi h1 h2=>b3 i λe=>by have:=v3' i e;omega⟩;have b4:∀i,vid u3=some i->i<g5.nx:=v3';exact⟨b1.a1,b1.a2,b1.a4,b1.bq,by
     rcases b1.o1 with h|⟨id,ep,lo,c1,c2,c3,c4⟩
     ·exact .inl h
     ·exact .inr ⟨id,ep,lo,c1,(hJ.o1.lt (i:=id) (by rw[c3];rfl)).2,c3,c4⟩,by
     rcases b1.o2 with h|⟨id,ep,lo,c1,c2,c3,c4⟩
     ·exact .inl h
     ·exact .inr ⟨id,ep,lo,c1,(hJ.o2.lt (i:=id) (by rw[c3];rfl)).2,c3,c4⟩,by
     rcases b1.o3 with h|⟨id,ep,lo,c1,c2,c3,c4⟩
     ·exact .inl h
     ·exact .inr ⟨id,ep,lo,c1,(hJ.o3.lt (i:=id) (by rw[c3];rfl)).2,c3,c4⟩,hJ.q5,b1.n1,b1.n2,b1.n3⟩
   ·intro g9 hJ hn hdf;have hJ:TI ⟨g9.h,g5.nx,[]⟩ q m k1 k2 act u1 u2 u3 (eD (λi=>(i:Int)) m.nodes.length m.nodes.length) (m.nodes.map (·.card)) (S.Rv m al (S.Q8 m).toNat):=hJ;have hq5:=hJ.q5;have hq5:5<=q/\q<g5.nx:=hq5;have j2:g9.h.get 2=We 3 [[.nils,.nils,.nils]]:=hJ.a2;have jq:g9.h.get q=We 3 [[u1,u2,u3]]:=hJ.bq;simp only[rF,sx,sy,SO.run,↓reduceIte,Nat.reduceEqDiff,Nat.reduceAdd,Nat.reduceLeDiff,h4,h9,j2,jq];refine fW (by simp[Q_,hdf,show ¬g5.nx=2 by omega]) ?_;simp only[sx,sy,↓reduceIte,Nat.reduceEqDiff,Nat.reduceAdd,Nat.reduceLeDiff,h4,show ¬2=g5.nx by omega];have hT:S.S4 m al=S.Tf m al:=by rw[S.S4,TE hE]
    rw[hT,hE];have key:∀(hh:H) (L:List Int) (z:AV),(∀i,5<=i->i<g5.nx->hh.get i=g9.h.get i)->Own ⟨g9.h,g5.nx,[]⟩ 5 z 1 (L.map ci)->L.length<9223372036854775808->SlR (λ_=>True) 0 hh L z:=λhh L z he ho hl =>
     Own.sl (α:=Int) (g:=⟨hh,g5.nx,[]⟩) (ho.fr (Tp _) λi hi=>he i (ho.lt hi).1 (ho.lt hi).2) hl (Q5 (λa=>aB.2 rfl) _) λ_ _=>trivial
    refine⟨λ_=>True,_,_,rfl,⟨_,rfl,eC.2 ⟨u1,u2,u3,rfl,?_,?_,?_⟩⟩,aB.2 rfl⟩
    ·have h1:=hJ.o1;rw[GF]at h1;exact key _ _ _ (λi h1 h2=>by simp[Q_,show ¬i=g5.nx by omega,show ¬i=2 by omega]) h1 (by simp[S.Tf];omega)
    ·exact key _ _ _ (λi h1 h2=>by simp[Q_,show ¬i=g5.nx by omega,show ¬i=2 by omega]) hJ.o2 (by simp[S.Tf];omega)
    ·exact key _ _ _ (λi h1 h2=>by simp[Q_,show ¬i=g5.nx by omega,show ¬i=2 by omega]) hJ.o3 (by show (S.Rv m al (S.Q8 m).toNat).length<_;rw[tS];omega)
abbrev QI:=Int×Int
theorem nY{x:QI}{P:Nat->Prop}{k:Nat}{h:H}{v:AV}:Agg x P k h v↔v=.agg [.int .i64 x.1,.int .i64 x.2]:=by
 constructor
 ·rintro⟨cs,rfl,hc⟩;obtain⟨a,b,rfl,h1,h2⟩:=Jd.1 hc;rw[aB.1 h1,aB.1 h2];rfl
 ·rintro rfl;exact⟨_,rfl,Jd.2 ⟨[.int .i64 x.1],[.int .i64 x.2],rfl,aB.2 rfl,aB.2 rfl⟩⟩
theorem JQ{d:Nat}{g:G}{a b:Nat}(hd:0<d)(ha:a<18446744073709551616)(hb:b<18446744073709551616) :
  an C0 d N.Rm [.int .u64 (a:Int),.int .u64 (b:Int)] g=.val (.int .u64 (Nat.gcd a b:Int)):=by
 rw[xC];refine oo Af (xs:=[.int .u64 (a:Int),.int .u64 (b:Int)]) (by simp only[aK,fg 0]) (by simp[oZ]) hd ?_;simp only[oZ,sx,SO.run];refine qV (λk t df g=>df=[]/\∃x y:Nat,x<18446744073709551616/\y<18446744073709551616/\k=y/\Nat.gcd x y=Nat.gcd a b/\St t [(0,.int .u64 (x:Int)),(1,.int .u64 (y:Int))]) b
  ⟨rfl,a,b,ha,hb,rfl,rfl,by simp[sx,St]⟩ ?_
 rintro y t df g ⟨rfl,x,y',hx,hy,rfl,hg,h0,h1,-⟩;simp only[pI,sx,SO.run,↓reduceIte,h1];refine aR (λhq=>?_) (λhq=>?_)
 ·have hy0:0<y:=by simp at hq;omega
  have hm:=U4 x hy0;simp only[sx,sy,SO.run,↓reduceIte,Nat.reduceEqDiff,h0,h1,dc .u64 (show (0:Int)<=(x:Int) by omega) (show (0:Int)<(y:Int) by omega)];exact⟨x % y,hm,y,x % y,hy,by omega,rfl,by rw[<-hg,Nat.gcd_comm y,<-Nat.gcd_rec,Nat.gcd_comm],by simp[St,sx]⟩
 ·have hy0:y=0:=by simp at hq;omega
  subst hy0;rw[Nat.gcd_zero_right]at hg;simp only[pJ,sx,SO.run,↓reduceIte,Nat.reduceEqDiff,h0,hg]
theorem Fl{d:Nat}{g:G}{a:Int}(hd:0<d)(ha:0<=a/\a<9223372036854775808):an C0 d N.Q_ [.int .i64 a] g=.val (.int .u64 a):=by
 rw[zS];refine oo DD (xs:=[.int .i64 a]) (by simp only[aK,fg 0]) (by simp[sJ]) hd ?_;simp only[sJ,sx,SO.run,↓reduceIte,Nat.reduceEqDiff];refine aR (λhq=>?_) (λhq=>?_)
 ·simp at hq;omega
 ·simp only[sx,SO.run,↓reduceIte,Nat.reduceEqDiff,xu ha.1 (show a<18446744073709551616 by omega)]
theorem P4{d:Nat}{g:G}{x y:Nat}(hd:0<d)(hx:x<=4611686018427387903)(hy:y<=4611686018427387903) :
  an C0 d N.Q9 [.bool false,.agg [.int .u64 0,.int .u64 (x:Int)],.agg [.int .u64 0,.int .u64 (y:Int)]] g=.val (.agg [.int .i64 (x:Int),.int .i64 (y:Int)]):=by
 have key:∃r,an C0 d N.Q9 [.bool false,.agg [.int .u64 0,.int .u64 (x:Int)],.agg [.int .u64 0,.int .u64 (y:Int)]] g=.val r/\Agg (((x:Int),(y:Int)):QI) NoP 0 .nil r:=by
  rw[BC];refine bg E5 (xs:=[.bool false,.agg [.int .u64 0,.int .u64 (x:Int)],.agg [.int .u64 0,.int .u64 (y:Int)]]) rfl (by simp[vC]) (bz _) (by decide) hd ?_;have z0:∀id,AF 2 1 (.hptr id 0 0 0) (.int .i64 0)=.val (.hptr id 0 0 0):=λid=>AG 2 1 id 0 0 0 .i64 (j:=0) (by decide);have z1:∀id,AF 2 1 (.hptr id 0 0 0) (.int .i64 1)=.val (.hptr id 0 0 1):=λid=>AG 2 1 id 0 0 0 .i64 (j:=1) (by decide);have hx':decide ((4611686018427387903:Int)<(x:Int))=false:=by simp;omega
  have hy':decide ((4611686018427387903:Int)<(y:Int))=false:=by simp;omega
  simp only[vC,wH,sx,sy,SO.run,↓reduceIte,Nat.reduceEqDiff,Nat.reduceAdd,z0,z1,hx',hy',decide_true,Um];simp only[uF,sx,sy,SO.run,↓reduceIte,Nat.reduceEqDiff,Nat.reduceAdd,Nat.reduceLeDiff,z1,au (show -9223372036854775808<=(x:Int) by omega) (show (x:Int)<9223372036854775808 by omega),au (show -9223372036854775808<=(y:Int) by omega) (show (y:Int)<9223372036854775808 by omega)];exact⟨NoP,nY.2 rfl⟩
 obtain⟨r,h1,h2⟩:=key;rw[h1,nY.1 h2]
def S.Su(n d:Nat):QI:=(((n / Nat.gcd n d:Nat):Int),((d / Nat.gcd n d:Nat):Int))
theorem OV(a:ADf)(K:AV->G->Prop)(g:G)(D:ADf->Prop):(OR.dfr a).sat K g D=D a:=rfl
theorem Ou(W:PT)(t:T)(df:List ADf)(g:G)(a:ADf):kD W none t df g a=W t (a::df) g:=rfl
theorem KO{C:Cfg}{d n:Nat}{t:T}{g:G}{f:Nat}{first cap:List AV}(h:tat t n=.clo f first cap):SO.run C d none t g (.raw (.defer ⟨.value (.tmp n),#[],#[]⟩))=.dfr (.call (.clo f [] cap) (first++[])):=by
 have:(gp AV.undef n).run t=.clo f first cap:=by rw[gp_run];exact h
 simp only[SO.run,cB,cOp,aW,cg,this]
theorem HP{C:Cfg}{d n:Nat}{t:T}{g:G}{f:Nat}{first cap:List AV}(h:tat t n=.clo f first cap):(cB C (.defer ⟨.value (.tmp n),#[],#[]⟩)).run (I C) d none t g=.dfr (.call (.clo f [] cap) (first++[])):=KO h
theorem JW{C:Cfg}{d:Nat}{r:List SR}{t:T}{g g':G}{K:AV->G->Prop}{f:Nat}{cap:List AV}{v:AV}(hc:(I C).call d f cap g=.ok v g')(h:xZ r t g' λvs=>K (jB vs) g'):BJ C d r t [.call (.clo f [] cap) []] g K:=by
 unfold BJ;have:fp (I C) d [.call (.clo f [] cap) []] g=some g':=by simp only[fp,TL,hc]
 rw[this];exact h
theorem Gj{C:Cfg}{d:Nat}{rd:Option Nat}{t:T}{g:G}:SO.run C d rd t g (.raw (.call ⟨.builtin .recover,#[],#[]⟩))=.val .nili:=rfl
theorem Kd(d:Nat)(a b:AV)(g:G):∃v,(I C0).call d N.Ro [a,b] g=.ok v g:=by
 have key:=nZ (C:=C0) (d:=d) (f:=N.Ro) («as»:=[a,b]) (g:=g) (K:=λv g'=>g'=g) sD (by simp[gg]) ?_
 ·cases hc:(I C0).call d N.Ro [a,b] g with
  |fail=>rw[hc]at key;exact key.elim
  |ok v g'=>rw[hc]at key;exact⟨v,by rw[show g'=g from key]⟩
 have e:DI true (.iface true) .nili .nili=.val (.bool false):=rfl;simp only[gg,sx,Gj];simp only[SO.run,sx,↓reduceIte,e]
theorem Mg{d:Nat}{g:G}{fn:Nat}{a a':List AV}{x:QI}(hd:0<d)(hs:Hx.snap g.h d aD (.clo fn [] a)=some (.clo fn [] a'))(hc:∀(g:G) (K:AV->G->Prop) (D:ADf->Prop),(∀g',Fr g g'->K (.agg [.int .i64 x.1,.int .i64 x.2]) g')->(io C0 (I C0) (d+1) (.clo fn [] a') [] g).sat K g D) :
  an C0 d N.Rn [.clo fn [] a] g=.val (.tup [.agg [.int .i64 x.1,.int .i64 x.2],.int .i64 0]):=by
 have key:∃r,an C0 d N.Rn [.clo fn [] a] g=.val r/\rK (Agg x) (One (0:Int)) NoP 0 .nil r:=by
  rw[rZ];refine bg vp (xs:=[.clo fn [] a']) (by simp only[aK,hs]) (by simp[jb]) (cO (m:=2) (bz _) (a9 _) (by decide) (by decide)) (by decide) hd ?_;simp only[jb,l_,sx,sy,SO.run,↓reduceIte,Nat.reduceEqDiff,Nat.reduceAdd];rw[HP (f:=N.Ro) (first:=[]) (cap:=[.hptr 0 0 0 0,.hptr 1 0 0 0]) (by simp[sx])];simp only[OV,Ou,sx,sy,SO.run,↓reduceIte,Nat.reduceEqDiff];refine hc _ _ _ λg2 fr2=>?_;have k0:g2.h.get 0=We 2 [[.int .i64 0,.int .i64 0]]:=by rw[fr2.2 0 (by simp[sx])];simp[sx,Q_]
  have k1:g2.h.get 1=We 1 [[.int .i64 0]]:=by rw[fr2.2 1 (by simp[sx])];simp[sx]
  simp only[sx,sy,SO.run,↓reduceIte,Nat.reduceEqDiff,Nat.reduceAdd,Nat.reduceLeDiff,k0,k1];obtain⟨v,hg1⟩:=Kd (d+1) (.hptr 0 0 0 0) (.hptr 1 0 0 0) ((g2.put 0 (We 2 [[.int .i64 x.1,.int .i64 x.2]])).put 1 (We 1 [[.int .i64 0]]));refine JW hg1 ?_;simp only[sx,sy,↓reduceIte,Nat.reduceEqDiff,Nat.reduceAdd,Nat.reduceLeDiff];exact⟨NoP,_,_,rfl,nY.2 rfl,aB.2 rfl⟩
 obtain⟨r,h1,a,b,rfl,h2,h3⟩:=key;have h3:=aB.1 h3;injection h3 with h3;rw[h1,nY.1 h2,h3]
theorem G8(d:Nat)(a b:AV)(g:G):io C0 (I C0) d (.clo N.RM [] [a,b]) [] g=orF ((I C0).call d N.RM [a,b] g):=by kernel_rfl
theorem Gv{h:H}{id:Nat}{n:Int}(d k:Nat)(hg:h.get id=We 1 [[.int .i64 n]]):Hx.snap h d (k+3) (.hptr id 0 0 0)=some (.tptr (Nat.max d 0) 1 [[.int .i64 n]] 0 0):=by
 simp only[Hx.snap,hg,show Nat.beq 0 0=true from rfl,aK]
 rfl
theorem KT{h:H}{d f:Nat}{a b a' b':AV}(ha:Hx.snap h d 23 a=some a')(hb:Hx.snap h d 23 b=some b'):Hx.snap h d aD (.clo f [] [a,b])=some (.clo f [] [a',b']):=by show (match aK (Hx.snap h d 23) [],aK (Hx.snap h d 23) [a,b] with|some as',some cs=>some (AV.clo f as' cs)|_,_=>none)=_;simp only[aK,ha,hb]
theorem Qx:DI true .bool (.bool false) (.bool false)=.val (.bool false):=rfl
theorem MB{d:Nat}{g:G}{n m z:Nat}{K:AV->G->Prop}{D:ADf->Prop}(hd:0<d)(hn:n<=4611686018427387903)(hm0:0<m)(hm:m<=4611686018427387903)
  (kk:∀g',Fr g g'->K (.agg [.int .i64 (S.Su n m).1,.int .i64 (S.Su n m).2]) g') :
  (io C0 (I C0) d (.clo N.RM [] [.tptr z 1 [[.int .i64 (n:Int)]] 0 0,.tptr z 1 [[.int .i64 (m:Int)]] 0 0]) [] g).sat K g D:=by
 have hg0:0<Nat.gcd n m:=Nat.gcd_pos_of_pos_right n hm0;have q1:n / Nat.gcd n m<=n:=VZ _ _;have q2:m / Nat.gcd n m<=m:=VZ _ _;have e1:∀g,an C0 d N.Q_ [.int .i64 (n:Int)] g=.val (.int .u64 (n:Int)):=λg=>Fl hd ⟨by omega,by omega⟩;have e2:∀g,an C0 d N.Q_ [.int .i64 (m:Int)] g=.val (.int .u64 (m:Int)):=λg=>Fl hd ⟨by omega,by omega⟩;have e3:∀g,an C0 d N.Rm [.int .u64 (n:Int),.int .u64 (m:Int)] g=.val (.int .u64 (Nat.gcd n m:Int)):=λg=>JQ hd (by omega) (by omega);have l1:decide ((n:Int)<0)=false:=by simp
 have l2:decide ((m:Int)<0)=false:=by simp
 have wq:∀x:Nat,x<=4611686018427387903->∀y:Nat,0<y->dO .quo (.int .u64 (x:Int)) (.int .u64 (y:Int))=.val (.int .u64 ((x / y:Nat):Int)):=λx hx y hy=>by have hle:x / y<=x:=VZ _ _;rw[wj .u64 (US x) (by omega),<-Int.natCast_ediv];generalize x / y=z at hle;rw[xu (by omega) (by omega)]
 have e4:∀g,an C0 d N.Q9 [.bool false,.agg [.int .u64 0,.int .u64 ((n / Nat.gcd n m:Nat):Int)],.agg [.int .u64 0,.int .u64 ((m / Nat.gcd n m:Nat):Int)]] g=.val (.agg [.int .i64 ((n / Nat.gcd n m:Nat):Int),.int .i64 ((m / Nat.gcd n m:Nat):Int)]):=λg=>P4 hd (by omega) (by omega);rw[G8];refine mD Ae (by simp[oY]) ?_;simp only[oY,qY,sx,sy,sf,SO.run,↓reduceIte,Nat.reduceEqDiff,Nat.reduceAdd,Nat.reduceLeDiff,eo,e1,e2,e3,l1,l2,Qx,wq n hn _ hg0,wq m hm _ hg0,e4];refine⟨?_,kk _ ⟨by simp;omega,λi hi=>?_⟩⟩
 ·simp only[TM,TS,TL,TJ];exact aI [false,false,false,false,false,false,false,false,false,false,false,false,false,false,false,false,true] [] (by simp[All2,ae,aw,Av,B0]) (by decide) (by simp)
 ·simp[Q_,show ¬i=g.nx by omega]
theorem Fh{d:Nat}{g:G}{n m:Nat}(hd:0<d)(hn:n<=4611686018427387903)(hm0:0<m)(hm:m<=4611686018427387903) :
  an C0 d N.Rb [.int .i64 (n:Int),.int .i64 (m:Int)] g=.val (.tup [.agg [.int .i64 (S.Su n m).1,.int .i64 (S.Su n m).2],.int .i64 0]):=by
 have key:∃r,an C0 d N.Rb [.int .i64 (n:Int),.int .i64 (m:Int)] g=.val r/\rK (Agg (S.Su n m)) (One (0:Int)) NoP 0 .nil r:=by
  rw[zR];refine bg DC (xs:=[.int .i64 (n:Int),.int .i64 (m:Int)]) rfl (by simp[sI]) (cO (m:=2) (bz _) (a9 _) (by decide) (by decide)) (by decide) hd ?_;have l1:decide ((m:Int)=0)=false:=by simp;omega
  simp only[sI,uE,sx,sy,SO.run,↓reduceIte,Nat.reduceEqDiff,Nat.reduceAdd,l1];rw[Mg (x:=S.Su n m) (a':=[.tptr (Nat.max (d+1) 0) 1 [[.int .i64 (n:Int)]] 0 0,.tptr (Nat.max (d+1) 0) 1 [[.int .i64 (m:Int)]] 0 0]) (TG d) ?_ (λg K D kk=>MB (TG _) hn hm0 hm kk)]
  ·simp only[sx,sy,SO.run,↓reduceIte,Nat.reduceEqDiff,Nat.reduceAdd,Nat.reduceLeDiff];exact⟨NoP,_,_,rfl,nY.2 rfl,aB.2 rfl⟩
  ·rw[KT (a':=.tptr (Nat.max (d+1) 0) 1 [[.int .i64 (n:Int)]] 0 0) (b':=.tptr (Nat.max (d+1) 0) 1 [[.int .i64 (m:Int)]] 0 0) (Gv (n:=(n:Int)) (d+1) 20 (by simp[sx,Q_])) (Gv (n:=(m:Int)) (d+1) 20 (by simp[sx,Q_]))]
 obtain⟨r,h1,a,b,rfl,h2,h3⟩:=key;have h3:=aB.1 h3;injection h3 with h3;rw[h1,nY.1 h2,h3]
theorem Mo{ih:IH}{d:Nat}{g:G}{f:Nat}{args xs:List AV}{v:AV}(h:aK (Hx.snap g.h d aD) args=some xs)(h':aK (Hx.snap G.empty.h d aD) xs=some xs)(h2:am ih d G.empty f xs=.val v):am ih d g f args=.val v:=by
 unfold am at h2 ⊢;generalize aD=D at h h' h2 ⊢;rw[h']at h2;rw[h];dsimp only at h2 ⊢;cases hc:ih.call d.succ f xs G.empty with
 |fail=>rw[hc]at h2;cases h2
 | ok r g' =>
  rw[hc]at h2;dsimp only at h2 ⊢;cases hs:Hx.snap g'.h 0 D r with
  |none=>rw[hs]at h2;cases h2
  | some r' =>
   rw[hs]at h2;dsimp only at h2 ⊢;cases ht:eS D r' with
   |none=>rw[ht]at h2;cases h2
   | some m =>
    rw[ht]at h2;dsimp only at h2 ⊢;rw[aa]at h2 ⊢
    split at h2
    ·rename_i hb;rw[TE hb];exact h2
    ·split at h2
     ·cases h2
     split at h2
     ·cases h2
     rw[aa]at h2
     split at h2<;>cases h2
def S.SY(vals e:List Int)(i:Nat):Bool:=decide (e[i]?.getD 0<0) || decide (e[i]?.getD 0=vals[i]?.getD 0)
def S.Rr(vals e:List Int):Bool:=(List.range e.length).all (S.SY vals e)
theorem yF{d k k2:Nat}{g:G}{P P2:Nat->Prop}{v w:AV}{vals e:List Int}(hd:0<d)(hv:SlR P k g.h vals v)(hw:SlR P2 k2 g.h e w)(hl:vals.length=e.length) :
  an C0 d N.Rj [v,w] g=.val (.bool (S.Rr vals e)):=by
 obtain⟨v',e1,r1⟩:=cX hv d;obtain⟨w',e2,r2⟩:=cX hw d;rw[ww];refine eR zb (xs:=[v',w']) (by simp only[aK,e1,e2]) (by simp[nA]) hd ?_;simp only[nA,sx,SO.run,↓reduceIte,Nat.reduceEqDiff,(r2 .nil).len];simp only[ol];refine aq (m:=e.length) hw.1 (λj t df g=>df=[]/\St t [(0,v'),(7,w')]/\(List.range j).all (S.SY vals e)=true) ⟨rfl,by simp[St,sx],rfl⟩ (by simp[sx]) (by simp[sx]) (by decide) (by rintro j t df g v s (rfl|rfl|rfl)<;>simp[St,sx]) ?_ ?_
 ·rintro j t df g hj ⟨rfl,⟨h0,h7,-⟩,hA⟩ h9 h8;obtain⟨x,hx,-,-⟩:=af hj;obtain⟨y,hy,-,-⟩:=af (l:=vals) (j:=j) (by omega);have h1:j<(e.map ci).length:=by simpa using hj
  have h2:j<(vals.map ci).length:=by rw[Tz];omega
  have h3:(e.map ci)[j]?=some (ci x):=by rw[Tt,hx];rfl
  have h4:(vals.map ci)[j]?=some (ci y):=by rw[Tt,hy];rfl
  have hat:S.SY vals e j=(decide (x<0) || decide (x=y)):=by simp[S.SY,hx,hy]
  by_cases hx0:0<=x
  ·simp only[sx,SO.run,↓reduceIte,Nat.reduceEqDiff,h0,h7,h9,(r1 g.h).ints,(r2 g.h).ints,h1,h2,h3,h4,ci,Tx,Tq,hx0,decide_true];refine aR (λhb=>?_) (λhb=>?_)
   ·simp only[sx,sy,SO.run,↓reduceIte];have:S.SY vals e j=false:=by rw[hat];simp at hb ⊢;exact⟨hx0,hb⟩
    rw[S.Rr,eO hj this]
   ·simp only[sx,sy,↓reduceIte,Nat.reduceEqDiff,h0,h7,h8,h9,St];rw[ct,hA,hat];simp at hb ⊢;exact .inr hb
  ·simp only[sx,sy,SO.run,↓reduceIte,Nat.reduceEqDiff,h0,h7,h8,h9,(r2 g.h).ints,h1,h3,ci,Tx,Tq,hx0,decide_false,St];rw[ct,hA,hat];simp;omega
 ·rintro t df g ⟨rfl,⟨h0,h7,-⟩,hA⟩;simp only[om,sx,SO.run,↓reduceIte];rw[S.Rr,hA]
def S.Ri(m:Causal)(p:Nat->Bool):Nat->Int
 |0=>0
 |j+1=>S.Ri m p j+if p j then S.R1 m (j:Int) else 0
theorem qU{m:Causal}(hck:S.Q_ m=true)(j:Nat):0<=S.R1 m (j:Int)/\S.R1 m (j:Int)<=429981696:=by have:=yq hck (US j) 0;rwa [NZ]at this
theorem nS{m:Causal}(hck:S.Q_ m=true)(p:Nat->Bool):∀j:Nat,0<=S.Ri m p j/\S.Ri m p j<=429981696*(j:Int)
 |0=>⟨VW _,by simp[S.Ri]⟩
 | j+1=>by
  have h1:=nS hck p j;have h2:=qU hck j;rw[S.Ri]
  split<;>omega
end
end Hx
end
section
namespace Hx
open Go
theorem lM{m:Causal}(hck:S.Q_ m=true)(p:Nat->Bool):0<=S.Ri m p (S.Q8 m).toNat/\S.Ri m p (S.Q8 m).toNat<=28179280429056:=by obtain⟨hs,hgr,hn1,hro,hno⟩:=ap hck;have hhb:=fY hs m.roots.length;rw[TO]at hhb;have hhb:1<=S.Q8 m/\S.Q8 m<=4 ^ 8:=hhb;have:=nS hck p (S.Q8 m).toNat;omega
end Hx
end
section
namespace Hx
open Go
noncomputable section
theorem nB{v w y z:AV}(hv:v.cells=[v])(tv:v.isTup=false)(hw:w.cells=[w])(tw:w.isTup=false)(hy:y.cells=[y])(ty:y.isTup=false)(g:G):BA 1 3 [z] [0,1,2] [v,w,y] g=.upd (.hsl g.nx 0 0 3 none) (g.new (We 1 [[v],[w],[y]])):=by
 have e:dy 1 [[z],[z],[z]] [(0,v),(1,w),(2,y)]=some [[v],[w],[y]]:=by
  simp only[dy,hv,tv,hw,tw,hy,ty,ax,List.length_singleton,notb_eq,T9]
  rfl
 show (match dy 1 [[z],[z],[z]] [(0,v),(1,w),(2,y)] with|some rows=>OR.upd (.hsl g.nx 0 0 3 none) (g.new (We 1 rows))|none=>.fail)=_;rw[e]
theorem yi{a b c:List Int}{l r s:AV}{q kk:Nat}{h:H}(hl:SlR NoP kk .nil a l)(hr:SlR NoP kk .nil b r)(hs:SlR NoP kk .nil c s)(hq:h.get q=We 1 [[l],[r],[s]]):SlR (λ_=>True) kk h [a,b,c] (.hsl q 0 0 3 none):=by
 refine⟨by show 3<_;decide,trivial,[[l],[r],[s]],?_,?_,?_,?_,trivial⟩
 ·show ac h 1 _=_;simp only[ac,hq];rfl
 ·exact Rp.tree (P:=λ_=>True) (k':=kk) (h':=h) (show Rp.rp NoP kk .nil a [l] from ⟨l,rfl,hl⟩) (Tp _)
 ·exact Rp.tree (P:=λ_=>True) (k':=kk) (h':=h) (show Rp.rp NoP kk .nil b [r] from ⟨r,rfl,hr⟩) (Tp _)
 ·exact Rp.tree (P:=λ_=>True) (k':=kk) (h':=h) (show Rp.rp NoP kk .nil c [s] from ⟨s,rfl,hs⟩) (Tp _)
theorem Na{m:Causal}{ls:List (List Int)}(h:S.Rs m ls=0):S.Q_ m=true/\∀l∈ls,S.Rd m l=true:=by
 unfold S.Rs at h;cases hc:S.Q_ m with
 |false=>rw[hc]at h;simp at h
 | true =>
  rw[hc,TE rfl]at h;cases ha:ls.all (S.Rd m) with
  |false=>rw[ha]at h;simp at h
  |true=>exact⟨rfl,TC.1 ha⟩
theorem SlR.far8{α:Type} [Rp α]{P:Nat->Prop}{k:Nat}{h h':H}{l:List α}{v:AV}(r:SlR P k h l v)(hf:∀i,P i->h'.get i=h.get i):SlR P k h' l v:=by obtain⟨w,e,q⟩:=Rp.mono (P':=P) (k':=k) (h':=h') (show Rp.rp P k h l [v] from ⟨v,rfl,r⟩) (λi hi=>⟨hi,hf i hi⟩) (Tp _);injection e with e;subst e;exact q
def S.mw(m:Causal)(act q:List Int)(j:Nat):Bool:=S.Rr (S.Rg m (S.Rb (S.Ra m) ((j):Int)) act) q
theorem t6{m:Causal}(hck:S.Q_ m=true):1<=S.Q8 m/\S.Q8 m<=65536:=by have hs:=(ap hck).1;have hhb:=fY hs m.roots.length;rw[TO]at hhb;exact hhb
def S.Rl(m:Causal):List Int:=List.replicate m.nodes.length (-1)
theorem we{m:Causal}(h:S.Small m):S.Rd m (S.Rl m)=true:=by
 simp only[S.Rd,S.Rl,TY,decide_true,Up,TC,TK];intro i hi;simp only[S.SM,Uh,TE hi,Tq,Ts,TA];have:=h.card _ (TW hi);refine⟨VW _,?_⟩;have e:S.Rf m i=(m.nodes[i]).card:=by unfold S.Rf;rw[TH,Tn hi];rfl
 rw[e];omega
def S.cw(m:Causal)(e act q:List Int)(j:Nat):Bool:=S.mw m (S.Rl m) e j&&S.mw m act q j
def S.Sd(m:Causal)(e:List Int):Int:=S.Ri m (S.mw m (S.Rl m) e) (S.Q8 m).toNat
def S.SW(m:Causal)(e act q:List Int):Int:=S.Ri m (S.cw m e act q) (S.Q8 m).toNat
def S.R5(m:Causal)(e act q:List Int):Int:=if S.Rs m [e,act,q]≠0 then S.Rs m [e,act,q] else if S.Sd m e=0 then 7 else 0
def S.RW(m:Causal)(e act q:List Int):QI:=if S.R5 m e act q=0 then S.Su (S.SW m e act q).toNat (S.Sd m e).toNat else (0,0)
def CI(m:Causal)(k1 k2 el act q f:AV)(h:H)(s w:Int):Prop:=h.get 1=We 1 [[el]]/\h.get 2=We 1 [[act]]/\h.get 3=We 1 [[q]]/\h.get 4=We 2 [[.int .i64 0,.int .i64 0]] /\
 h.get 6=We 4 [[.int .i64 m.grain,k1,k2,.int .i64 (S.Q8 m)]]/\h.get 7=We 1 [[.int .i64 s]]/\h.get 8=We 1 [[.int .i64 w]]/\h.get 9=We 1 [[f]]
theorem CI.fr{m:Causal}{k1 k2 el act q f:AV}{h h':H}{s w:Int}(hI:CI m k1 k2 el act q f h s w)(hh:∀i,i<10->h'.get i=h.get i):CI m k1 k2 el act q f h' s w:=by obtain⟨i1,i2,i3,i4,i6,i7,i8,i9⟩:=hI;exact⟨by rw[hh _ (by omega),i1],by rw[hh _ (by omega),i2],by rw[hh _ (by omega),i3],by rw[hh _ (by omega),i4],by rw[hh _ (by omega),i6],by rw[hh _ (by omega),i7],by rw[hh _ (by omega),i8],by rw[hh _ (by omega),i9]⟩
theorem Dx{d kk:Nat}{rd:Option Nat}{m:Causal}{t:T}{g:G}{j:Nat}{ee al ql:List Int}{k1 k2 el act q f u:AV}(hd:0<d)(hck:S.Q_ m=true)(hec:S.Rd m ee=true)(hac:S.Rd m al=true)(hqc:S.Rd m ql=true)
  (hks:∀h,Agg (⟨m,S.Q8 m⟩:KnownM) NoP 0 h (.agg [.int .i64 m.grain,k1,k2,.int .i64 (S.Q8 m)])) (he:SlR NoP kk .nil ee el) (ha:SlR NoP kk .nil al act) (hq:SlR NoP kk .nil ql q) (hf:SlR NoP 0 .nil (S.Rl m) f)
  (hu:SlR (λi=>10<=i) 0 g.h (S.Rb (S.Ra m) (j:Int)) u) (hj:(j:Int)<S.Q8 m)
  (ht:St t [(5,.hptr 1 0 0 0),(6,.hptr 2 0 0 0),(7,.hptr 3 0 0 0),(10,.hptr 6 0 0 0),(12,.hptr 7 0 0 0),(13,.hptr 8 0 0 0),(14,.hptr 9 0 0 0),(15,u),(16,.int .i64 (S.R1 m (j:Int)))])
  (hI:CI m k1 k2 el act q f g.h (S.Ri m (S.cw m ee al ql) j) (S.Ri m (S.mw m (S.Rl m) ee) j)) :
  wp C0 d rd js (λe _ df g3=>e=.norm/\df=[]/\CI m k1 k2 el act q f g3.h (S.Ri m (S.cw m ee al ql) (j+1)) (S.Ri m (S.mw m (S.Rl m) ee) (j+1))/\g3.nx=g.nx/\∀i,10<=i->g3.h.get i=g.h.get i) t [] g:=by
 obtain⟨hs,hgr,hn1,hro,hno⟩:=ap hck;have hhb:=t6 hck;have hnc:=we hs;have hvi:=tU (l:=S.Ra m) (h:=(j:Int)) (λc hc=>by have:=h_ hs c hc;omega) (US j);have hrl:(S.Rg m (S.Rb (S.Ra m) (j:Int)) al).length=ql.length:=by simp[S.Rg];rw[(jP hqc).1]
 have hrl2:(S.Rg m (S.Rb (S.Ra m) (j:Int)) (S.Rl m)).length=ee.length:=by simp[S.Rg];rw[(jP hec).1]
 obtain⟨h5,h6,h7,h10,h12,h13,h14,h15,h16,-⟩:=ht;obtain⟨i1,i2,i3,i4,i6,i7,i8,i9⟩:=hI;have b0:=qU hck j;have b1:=nS hck (S.cw m ee al ql) j;have b2:=nS hck (S.mw m (S.Rl m) ee) j;simp only[js,sx,sy,SO.run,↓reduceIte,Nat.reduceEqDiff,Nat.reduceAdd,Nat.reduceLeDiff,h10,h14,h15,i6,i9];refine bH (HR (P:=NoP) (k:=0) (Pa:=NoP) (ka:=0) hd (hks _) (hu.far8 λi (hi:10<=i)=>by simp) (hf.tree (Tp _)) hck hvi hnc) λr hr=>?_;have hmat:∀g:G,an C0 d N.Rj [r,el] g=.val (.bool (S.mw m (S.Rl m) ee j)):=λg=>yF (P:=NoP) (P2:=NoP) (k:=0) (k2:=kk) hd (hr.sl _) (he.tree (Tp _)) hrl2;simp only[sx,sy,SO.run,↓reduceIte,Nat.reduceEqDiff,h5,i1,hmat];cases hmw:S.mw m (S.Rl m) ee j with
 | false =>
  have w1:S.Ri m (S.cw m ee al ql) (j+1)=S.Ri m (S.cw m ee al ql) j:=by rw[S.Ri,S.cw,hmw];simp
  have w2:S.Ri m (S.mw m (S.Rl m) ee) (j+1)=S.Ri m (S.mw m (S.Rl m) ee) j:=by rw[S.Ri,hmw];simp
  simp only[sx,sy,↓reduceIte,w1,w2,T9];exact⟨⟨i1,i2,i3,i4,i6,i7,i8,i9⟩,λi hi=>trivial⟩
 | true =>
  have w2:S.Ri m (S.mw m (S.Rl m) ee) (j+1)=S.Ri m (S.mw m (S.Rl m) ee) j+S.R1 m (j:Int):=by rw[S.Ri,hmw];simp
  simp only[sx,sy,SO.run,↓reduceIte,Nat.reduceEqDiff,Nat.reduceAdd,Nat.reduceLeDiff,h6,h10,h13,h15,h16,i2,i6,i8,<-w2,
   au (show -9223372036854775808<=S.Ri m (S.mw m (S.Rl m) ee) (j+1) by omega) (show S.Ri m (S.mw m (S.Rl m) ee) (j+1)<9223372036854775808 by omega),Um]
  refine bH (HR (P:=NoP) (k:=0) (Pa:=NoP) (ka:=kk) hd (hks _) (hu.far8 λi (hi:10<=i)=>by simp[Q_,show ¬i=8 by omega]) (ha.tree (Tp _)) hck hvi hac) λr2 hr2=>?_;have hmat2:∀g:G,an C0 d N.Rj [r2,q] g=.val (.bool (S.mw m al ql j)):=λg=>yF (P:=NoP) (P2:=NoP) (k:=0) (k2:=kk) hd (hr2.sl _) (hq.tree (Tp _)) hrl;simp only[sx,sy,SO.run,↓reduceIte,Nat.reduceEqDiff,h7,i3,hmat2];cases hmw2:S.mw m al ql j with
  | true =>
   have w1:S.Ri m (S.cw m ee al ql) (j+1)=S.Ri m (S.cw m ee al ql) j+S.R1 m (j:Int):=by rw[S.Ri,S.cw,hmw,hmw2];simp
   simp only[sx,sy,SO.run,↓reduceIte,Nat.reduceEqDiff,Nat.reduceLeDiff,h12,h16,i7,<-w1,
    au (show -9223372036854775808<=S.Ri m (S.cw m ee al ql) (j+1) by omega) (show S.Ri m (S.cw m ee al ql) (j+1)<9223372036854775808 by omega)]
   refine⟨⟨?_,?_,?_,?_,?_,?_,?_,?_⟩,λi hi=>?_⟩
   ·simp[Q_,i1]
   ·simp[Q_,i2]
   ·simp[Q_,i3]
   ·simp[Q_,i4]
   ·simp[Q_,i6]
   ·simp[Q_]
   ·simp[Q_]
   ·simp[Q_,i9]
   ·simp[show ¬i=7 by omega,show ¬i=8 by omega]
  | false =>
   have w1:S.Ri m (S.cw m ee al ql) (j+1)=S.Ri m (S.cw m ee al ql) j:=by rw[S.Ri,S.cw,hmw,hmw2];simp
   simp only[sx,sy,w1];refine⟨⟨?_,?_,?_,?_,?_,?_,?_,?_⟩,λi hi=>?_⟩
   ·simp[Q_,i1]
   ·simp[Q_,i2]
   ·simp[Q_,i3]
   ·simp[Q_,i4]
   ·simp[Q_,i6]
   ·simp[Q_,i7]
   ·simp[Q_]
   ·simp[Q_,i9]
   ·simp[show ¬i=8 by omega]
theorem GC{d kk:Nat}{g:G}{v el act q:AV}{m:Causal}{ee al ql:List Int}(hd:0<d)(hm:Agg m NoP 0 g.h v)(he:SlR NoP kk .nil ee el)(ha:SlR NoP kk .nil al act)(hq:SlR NoP kk .nil ql q) :
  an C0 d N.Rf [v,el,act,q] g=.val (.tup [.agg [.int .i64 (S.RW m ee al ql).1,.int .i64 (S.RW m ee al ql).2],.int .i64 (S.R5 m ee al ql)]):=by
 have key:∃r,an C0 d N.Rf [v,el,act,q] g=.val r/\rK (Agg (S.RW m ee al ql)) (One (S.R5 m ee al ql)) NoP 0 .nil r:=by
  have e0:=cW d hm;have e1:=qP (h:=g.h) d (ha.tree (h':=g.h) (Tp kk));have e2:=qP (h:=g.h) d (hq.tree (h':=g.h) (Tp kk));have e3:=qP (h:=g.h) d (he.tree (h':=g.h) (Tp kk));obtain⟨cs,rfl,hc⟩:=hm;obtain⟨a,b,rfl,hR,hN⟩:=aZ.1 hc;have hms:∀h,Agg m NoP 0 h (.agg [.int .i64 m.grain,a,b]):=λh=>⟨_,rfl,Rp.tree hc (Tp _)⟩;rw[wo];refine bg y_ (xs:=[.agg [.int .i64 m.grain,a,b],el,act,q]) (by simp only[aK,e0,e1,e2,e3]) (by simp[np]) (cO (m:=2) (bz _) (a9 _) (by decide) (by decide)) (by decide) hd ?_;simp only[np,sx,sy,SO.run,↓reduceIte,Nat.reduceEqDiff,Nat.reduceAdd,he.cell.1,he.cell.2,ha.cell.1,ha.cell.2,hq.cell.1,hq.cell.2];obtain⟨g0,hg0⟩:∃g0,g0=((((G.empty.new (We 3 [[AV.int IntKind.i64 m.grain,a,b]])).new (We 1 [[el]])).new (We 1 [[act]])).new (We 1 [[q]])).new (We 2 [[.int .i64 0,.int .i64 0]]):=⟨_,rfl⟩;rw[<-hg0];have f0:g0.h.get 0=We 3 [[.int .i64 m.grain,a,b]]:=by rw[hg0];simp[sx,Q_]
  have f1:g0.h.get 1=We 1 [[el]]:=by rw[hg0];simp[sx,Q_]
  have f2:g0.h.get 2=We 1 [[act]]:=by rw[hg0];simp[sx,Q_]
  have f3:g0.h.get 3=We 1 [[q]]:=by rw[hg0];simp[sx,Q_]
  have f4:g0.h.get 4=We 2 [[.int .i64 0,.int .i64 0]]:=by rw[hg0];simp[sx]
  have fn:g0.nx=5:=by rw[hg0];simp[sx]
  clear hg0;simp only[pW,sx,sy,SO.run,↓reduceIte,Nat.reduceEqDiff,Nat.reduceAdd,Nat.reduceLeDiff,f0,f1,f2,f3];rw[nB he.cell.1 he.cell.2 ha.cell.1 ha.cell.2 hq.cell.1 hq.cell.2];simp only[sx,SO.run,↓reduceIte,Nat.reduceEqDiff,fn];have hls:SlR (λ_=>True) kk (g0.new (We 1 [[el],[act],[q]])).h [ee,al,ql] (.hsl 5 0 0 3 none):=yi he ha hq (by simp[fn,Q_]);refine bH (xe (ls:=[ee,al,ql]) (TG d) (TG d) (hms _) hls) λr hr=>?_;obtain⟨ra,rb,rfl,hra,hrb⟩:=hr;have hrb:=aB.1 hrb;injection hrb with hrb;subst hrb;obtain⟨kc,rfl,hkc⟩:=hra;obtain⟨k1,k2,rfl,hk1,hk2⟩:=dF.1 hkc;simp only[sx,sy,SO.run,↓reduceIte,Nat.reduceEqDiff,Nat.reduceAdd,Nat.reduceLeDiff,fn];refine aR (λhb=>?_) (λhb=>?_)
  ·have hne:S.Rs m [ee,al,ql]≠0:=by simpa using hb
   simp only[sx,sy,SO.run,↓reduceIte,Nat.reduceEqDiff,Nat.reduceAdd,Nat.reduceLeDiff,f4,fn];have hTE:S.R5 m ee al ql=S.Rs m [ee,al,ql]:=by rw[S.R5,TE hne]
   have:S.RW m ee al ql=(0,0):=by rw[S.RW,hTE,TF hne]
   rw[this,hTE];exact⟨NoP,_,_,rfl,nY.2 rfl,aB.2 rfl⟩
  ·have hE:S.Rs m [ee,al,ql]=0:=by simpa using hb
   obtain⟨hck,hall⟩:=Na hE;have hec:=hall ee (by simp);have hac:=hall al (by simp);have hqc:=hall ql (by simp);have hrd:S.Sp m [ee,al,ql]=⟨m,S.Q8 m⟩:=by unfold S.Sp;rw[TE hE]
   rw[hrd]at hkc hk1 hk2;simp only[hrd]at *;have hhb:=t6 hck;have hn5:=(ap hck).1.nodes;have hks:∀h,Agg (⟨m,S.Q8 m⟩:KnownM) NoP 0 h (.agg [.int .i64 m.grain,k1,k2,.int .i64 (S.Q8 m)]):=λh=>⟨_,rfl,Rp.tree hkc (Tp _)⟩;simp only[xp,qH];refine bh (P:=λt df g1=>df=[]/\St t [(5,.hptr 1 0 0 0),(6,.hptr 2 0 0 0),(7,.hptr 3 0 0 0),(8,.hptr 4 0 0 0),(10,.hptr 6 0 0 0),(12,.hptr 7 0 0 0),(13,.hptr 8 0 0 0)]/\g1.h.get 1=We 1 [[el]]/\g1.h.get 2=We 1 [[act]] /\
    g1.h.get 3=We 1 [[q]]/\g1.h.get 4=We 2 [[.int .i64 0,.int .i64 0]]/\g1.h.get 6=We 4 [[.int .i64 m.grain,k1,k2,.int .i64 (S.Q8 m)]]/\g1.h.get 7=We 1 [[.int .i64 0]]/\g1.h.get 8=We 1 [[.int .i64 0]]/\g1.nx=9) ?_ ?_
   ·simp[sx,sy,SO.run,St,fn,f1,f2,f3,f4]
   rintro t df g1 ⟨rfl,⟨h5,h6,h7,h8,h10,h12,h13,-⟩,p1,p2,p3,p4,p6,p7,p8,hn⟩;refine bh (P:=λt df g2=>df=[]/\St t [(5,.hptr 1 0 0 0),(6,.hptr 2 0 0 0),(7,.hptr 3 0 0 0),(8,.hptr 4 0 0 0),(10,.hptr 6 0 0 0),(12,.hptr 7 0 0 0),(13,.hptr 8 0 0 0),(14,.hptr 9 0 0 0)]/\g2.nx=10/\∃f,SlR NoP 0 .nil (S.Rl m) f/\CI m k1 k2 el act q f g2.h 0 0) ?_ ?_
   ·simp only[sx,sy,SO.run,↓reduceIte,Nat.reduceAdd,Nat.reduceLeDiff,h10,p6];refine bH (DW (x:=⟨m,S.Q8 m⟩) (TG d) (hks _) (by simpa using hn5)) λf hf=>?_;have hf:IT 0 (S.Rl m) f:=hf;simp only[sx,sy,SO.run,↓reduceIte,Nat.reduceEqDiff,Nat.reduceAdd,Nat.reduceLeDiff,hf.cells,hf.tup,hn,h5,h6,h7,h8,h10,h12,h13,St];refine⟨f,hf.sl _,?_,?_,?_,?_,?_,?_,?_,?_⟩<;>simp[Q_,p1,p2,p3,p4,p6,p7,p8]
   clear h5 h6 h7 h8 h10 h12 h13 p1 p2 p3 p4 p6 p7 p8 hn;rintro t df g1 ⟨rfl,⟨h5,h6,h7,h8,h10,h12,h13,h14,-⟩,hn,f,hf,hI⟩;obtain⟨wcs,hw,hwr⟩:=Dl (g:=g1) (TG d) (hks _);simp only[sx,sy,SO.run,↓reduceIte,Nat.reduceAdd,Nat.reduceLeDiff,h10,hI.2.2.2.2.1,hw];refine A9 (d:=d+1) hck hwr (by simp[sx]) (by decide) (by decide) (λj h=>CI m k1 k2 el act q f h (S.Ri m (S.cw m ee al ql) j) (S.Ri m (S.mw m (S.Rl m) ee) j)) ?_ hI ?_ ?_
   ·intro j h h' hh hI;rw[hn]at hh;exact CI.fr hI hh
   ·intro j u g6 hj hJ hn6 hu;have hJ:CI m k1 k2 el act q f g6.h (S.Ri m (S.cw m ee al ql) j) (S.Ri m (S.mw m (S.Rl m) ee) j):=hJ;simp only[od,sx,sy,SO.run,↓reduceIte,Nat.reduceEqDiff];intro g7 hn7 hf7;have hJ7:CI m k1 k2 el act q f g7.h (S.Ri m (S.cw m ee al ql) j) (S.Ri m (S.mw m (S.Rl m) ee) j):=hJ.fr λi hi=>hf7 i (by omega);have hu7:SlR (λi=>10<=i) 0 g7.h (S.Rb (S.Ra m) (j:Int)) u:=by obtain⟨w,e,z⟩:=Rp.mono (P':=λi=>10<=i) (k':=0) (h':=g7.h) (show Rp.rp (λi=>g1.nx+2<=i) 0 g6.h (S.Rb (S.Ra m) (j:Int)) [u] from ⟨u,rfl,hu⟩) (λi hi=>⟨by omega,hf7 i (by omega)⟩) (Tp _);injection e with e;subst e;exact z
    refine cR _ (Dx (d:=d+1) (rd:=some (g1.nx+1)) (j:=j) (ee:=ee) (al:=al) (ql:=ql) (TG d) hck hec hac hqc hks he ha hq hf hu7 hj (by simp[St,sx,h5,h6,h7,h10,h12,h13,h14]) hJ7) ?_;rintro e t' df g8 ⟨rfl,rfl,b1,b2,b3⟩;exact⟨rfl,rfl,b1,by omega,λi h1 h2=>b3 i (by omega)⟩
   ·intro g9 hJ hn9 hdf;obtain⟨i1,i2,i3,i4,i6,i7,i8,i9⟩:CI m k1 k2 el act q f g9.h (S.Ri m (S.cw m ee al ql) (S.Q8 m).toNat) (S.Ri m (S.mw m (S.Rl m) ee) (S.Q8 m).toNat):=hJ;have hb1:=lM hck (S.cw m ee al ql);have hb2:=lM hck (S.mw m (S.Rl m) ee);have e7:S.Ri m (S.cw m ee al ql) (S.Q8 m).toNat=((S.SW m ee al ql).toNat:Int):=by rw[S.SW,U2 hb1.1]
    have e8:S.Ri m (S.mw m (S.Rl m) ee) (S.Q8 m).toNat=((S.Sd m ee).toNat:Int):=by rw[S.Sd,U2 hb2.1]
    have hse:S.Sd m ee=((S.Sd m ee).toNat:Int):=by rw[S.Sd];exact e8
    rw[e7]at i7 hb1;rw[e8]at i8 hb2;rw[hn]at hdf ⊢;simp only[oe,sx,SO.run,↓reduceIte,Nat.reduceEqDiff,h13,i8];refine aR (λhb=>?_) (λhb=>?_)
    ·have h0:S.Sd m ee=0:=by simp at hb;omega
     have hTE:S.R5 m ee al ql=7:=by rw[S.R5,TF (by rw[hE];simp),TE h0]
     have:S.RW m ee al ql=(0,0):=by rw[S.RW,hTE,TF (by decide)]
     simp only[sx,sy,SO.run,↓reduceIte,Nat.reduceEqDiff,Nat.reduceAdd,Nat.reduceLeDiff,h8,i4];refine fW (by simp[Q_,hdf]) ?_;simp only[sx,sy,↓reduceIte,Nat.reduceEqDiff,Nat.reduceAdd,Nat.reduceLeDiff,h8];rw[this,hTE];exact⟨NoP,_,_,rfl,nY.2 rfl,aB.2 rfl⟩
    ·have h0:¬S.Sd m ee=0:=by simp at hb;omega
     have hTE:S.R5 m ee al ql=0:=by rw[S.R5,TF (by rw[hE];simp),TF h0]
     have hT:S.RW m ee al ql=S.Su (S.SW m ee al ql).toNat (S.Sd m ee).toNat:=by rw[S.RW,TE hTE]
     have hmk:∀g,an C0 (d+1) N.Rb [.int .i64 ((S.SW m ee al ql).toNat:Int),.int .i64 ((S.Sd m ee).toNat:Int)] g=.val (.tup [.agg [.int .i64 (S.RW m ee al ql).1,.int .i64 (S.RW m ee al ql).2],.int .i64 0]):=λg=>by rw[hT];exact Fh (TG d) (by omega) (by omega) (by omega)
     simp only[sx,sy,SO.run,↓reduceIte,Nat.reduceEqDiff,Nat.reduceAdd,Nat.reduceLeDiff,h8,h12,h13,i4,i7,i8,hmk];refine fW (by simp[Q_,hdf]) ?_;simp only[sx,sy,↓reduceIte,Nat.reduceEqDiff,Nat.reduceAdd,Nat.reduceLeDiff,h8];rw[hTE];exact⟨NoP,_,_,rfl,nY.2 rfl,aB.2 rfl⟩
 obtain⟨r,h1,a,b,rfl,h2,h3⟩:=key;have h3:=aB.1 h3;injection h3 with h3;rw[h1,nY.1 h2,h3]
def S.Tl(s a:List Int):List Int:=(List.range s.length).map λi=>if a[i]?.getD 0<0 then -1 else s[i]?.getD 0
theorem uj{α:Type}{C:α->Prop}{S:α->VS}{j:Nat}(h:∀a,Snb (S a) j):Snb (λP k h v=>∃a,C a/\S a P k h v) j :=
 ⟨λ{P k hh v n} d r hn=>by
  obtain⟨a,c,r⟩:=r;obtain⟨v',e,r'⟩:=(h a).snap d r hn;exact⟨v',e,a,c,r'⟩,λ{k hh v n} r hn=>by
  obtain⟨a,c,r⟩:=r;exact (h a).tag r hn⟩
theorem t8:∀{A L:List Nat},A.Nodup->(∀v∈A,v∈L)->A.length<=L.length
 |[],_,_,_=>Ue _
 | a::A,L,hA,h=>by rw[List.nodup_cons]at hA;have ha:=h a (by simp);have:=t8 (A:=A) (L:=L.erase a) hA.2 λv hv=>(List.mem_erase_of_ne (λe=>hA.1 (by rw[<-e];exact hv))).2 (h v (by simp[hv]));rw[List.length_erase_of_mem ha]at this;have:=List.length_pos_of_mem ha;simp only[Ud];omega
def Ord(p:List Nat)(L:List Nat):Prop:=(∀v,v<p.length->v∈L)/\∀(i v:Nat),L[i]?=some v->v<p.length/\∀q,(Par p v).testBit q=true->q∈L.take i
def JB(p:List Nat)(L:List Nat):Prop:=L.Nodup/\∀(i v:Nat),L[i]?=some v->v<p.length/\∀q,(Par p v).testBit q=true->q∈L.take i
theorem MV{p L:List Nat}(h:JB p L):L.length<=p.length:=by
 have:=t8 (L:=List.range p.length) h.1 λv hv=>by obtain⟨i,hi,rfl⟩:=Ui.1 hv;exact TK.2 (h.2 i _ (Tn hi)).1
 simpa using this
theorem Kw{p L:List Nat}(h:JB p L){v:Nat}(hv:v ∉ L)(hl:v<p.length)(hp:∀q,(Par p v).testBit q=true->q∈L):JB p (L++[v]):=by
 refine⟨?_,λi u hu=>?_⟩
 ·rw[List.nodup_append];exact⟨h.1,by simp,λa ha b hb=>by simp at hb;subst hb;exact λe=>hv (e ▸ ha)⟩
 ·rcases VN i L.length with hi|hi
  ·rw[TD hi]at hu;obtain⟨h1,h2⟩:=h.2 i u hu;exact⟨h1,λq hq=>by rw[List.take_append_of_le_length (by omega)];exact h2 q hq⟩
  ·rw[TB hi]at hu;have:i=L.length:=by have:=(Tu.1 hu).1;simp at this;omega
   subst this;simp at hu;subst hu;exact⟨hl,λq hq=>by rw[List.take_left];exact hp q hq⟩
theorem Kv{p L:List Nat}(h:JB p L)(hl:p.length<=L.length):Ord p L:=by
 refine⟨λv hv=>?_,h.2⟩
 by_cases hm:v∈L
 ·exact hm
 ·have:=t8 (A:=v::L) (L:=List.range p.length) (List.nodup_cons.2 ⟨hm,h.1⟩) λu hu=>by
   rcases T3.1 hu with rfl|hu
   ·exact TK.2 hv
   ·obtain⟨i,hi,rfl⟩:=Ui.1 hu;exact TK.2 (h.2 i _ (Tn hi)).1
  simp at this;omega
theorem OB{p L:List Nat}(h:JB p L)(hl:L.length<p.length):∃v,v<p.length/\v ∉ L:=by
 by_cases hh:∃v,v<p.length/\v ∉ L
 ·exact hh
 ·exfalso;have:=t8 (A:=List.range p.length) (L:=L) List.nodup_range λv hv=>by
   by_cases h':v∈L
   ·exact h'
   ·exact absurd ⟨v,TK.1 hv,h'⟩ hh
  simp at this;omega
def PI(D:Nat)(L:List Nat):Prop:=D<18446744073709551616/\∀v,D.testBit v=true↔v∈L
theorem KR{D:Nat}{L:List Nat}(h:PI D L){v:Nat}(hv:v<64):PI (D ||| S.RN v) (L++[v]):=by
 refine⟨IY h.1 (qh v),λu=>?_⟩;rw[gR,mV hv,Uo,h.2,TA,Uf,Vk];constructor
 ·rintro (h|h)
  ·exact .inl h
  ·exact .inr h.symm
 ·rintro (h|h)
  ·exact .inl h
  ·exact .inr h.symm
theorem wR{g g':G}(hn:g.nx<=g'.nx)(h:∀i,i<g.nx->g'.h.get i=g.h.get i):Fr g g':=⟨hn,h⟩
section
variable {m:Causal}{c1 c2 l w c9 v35 ls v48:AV}{al:List Int}{hid kk:Int}{p:Nat}
end
end
end Hx
end
section
namespace Hx
open Go
noncomputable section
theorem Hs(l:List Int)(j:Nat)(x:Int):(l.map ci).set j (ci x)=(l.set j x).map ci:=by rw[UJ]
def L1(nn sv av qv u:AV)(c:Nat):List (Nat×AV):=[(5,.hptr 2 0 0 0),(6,nn),(7,sv),(8,av),(9,qv),(12,.hptr c 0 0 0),(16,u)]
def L2(nn sv qv u w e:AV)(c c8:Nat):List (Nat×AV):=[(5,.hptr 2 0 0 0),(6,nn),(7,sv),(12,.hptr c 0 0 0),(16,u),(18,.hptr c8 0 0 0),(19,e),(20,w),(120,qv)]
theorem OL{x y:Nat}(hy:0<y):dO .rem (.int .i64 (x:Int)) (.int .i64 (y:Int))=.val (.int .i64 ((x % y:Nat):Int)):=by rw[dc .i64 (US x) (by omega),<-Int.natCast_emod]
theorem OH{x y:Nat}(hx:x<9223372036854775808)(hy:0<y):dO .quo (.int .i64 (x:Int)) (.int .i64 (y:Int))=.val (.int .i64 ((x / y:Nat):Int)):=by have hle:x / y<=x:=VZ _ _;rw[wj .i64 (US x) (by omega),<-Int.natCast_ediv];generalize x / y=z at hle;rw[au (by omega) (by omega)]
def S.SP:List Int->Int
 |[]=>0
 |x::l=>x+10000*S.SP l
structure S.tI (bl:List Int) (n i:Nat) (V ai:Int) (k:Nat) (c:Int) (L:List Int):Prop where
 len:L.length=n
 rng:∀x∈L,0<=x/\x<10000
 zer:∀j,i+bl.length<=j->i+k<=j->L[j]?.getD 0=0
 kle:k<=bl.length+1
 c0:0<=c
 c1:c<10000
 ce:k=bl.length+1->c=0
 cs:k=0->c=0
 eq:S.SP L+c*10000 ^ (i+k)=V+ai*10000 ^ i*S.SP (bl.take k)
structure S.tO (al bl:List Int) (i:Nat) (L:List Int):Prop where
 len:L.length=al.length+bl.length
 rng:∀x∈L,0<=x/\x<10000
 zer:∀j,i+bl.length<=j->L[j]?.getD 0=0
 eq:S.SP L=S.SP (al.take i)*S.SP bl
structure S.mI (al bl:List Int) (i:Nat) (r:Int) (L:List Int):Prop where
 len:L.length=i
 rng:∀x∈L,0<=x/\x<10000
 r01:r=0\/r=1
 eq:S.SP L=S.SP (al.take i) - S.SP (bl.take i)+r*10000 ^ i
structure S.qI (x b n:Nat) (i:Nat) (L:List Int):Prop where
 len:L.length=n
 rng:∀z∈L,0<=z/\z<10000
 eq:S.SP (L.drop i)=((x / 10000 ^ i / b:Nat):Int)
theorem SlR.wd{α:Type} [Rp α]{P P':Nat->Prop}{k:Nat}{h h':H}{l:List α}{v:AV}(r:SlR P k h l v)(hf:∀i,P i->P' i/\h'.get i=h.get i):SlR P' k h' l v:=by obtain⟨w,hw,q⟩:=Rp.mono (k':=k) (P':=P') (h':=h') (show Rp.rp P k h l [v] from ⟨v,rfl,r⟩) hf (Tp _);injection hw with hw;subst hw;exact q
theorem SlR.farT{α:Type} [Rp α]{P:Nat->Prop}{k:Nat}{h h':H}{l:List α}{v:AV}(r:SlR P k h l v)(hf:∀i,P i->h'.get i=h.get i):SlR P k h' l v:=by obtain⟨w,hw,q⟩:=Rp.mono (P':=P) (h':=h') (show Rp.rp P k h l [v] from ⟨v,rfl,r⟩) (λi hi=>⟨hi,hf i hi⟩) (Tp _);injection hw with hw;subst hw;exact q
def L0(nn sv av qv:AV):List (Nat×AV):=[(5,.hptr 2 0 0 0),(6,nn),(7,sv),(8,av),(9,qv)]
structure HS (m:Causal) (c1 c2 la lb lc:AV) (p q:Nat) (gb g:G):Prop where
 fr:Fr gb g
 mp:g.h.get p=We 3 [[.int .i64 m.grain,c1,c2]]
 ml:g.h.get q=We 3 [[la,lb,lc]]
 pn:p<gb.nx
 q0:gb.nx<=q
 qn:q<g.nx
section
variable {m:Causal}{c1 c2 la lb lc w c28 vi c90 vj:AV}{A B Z:List Int}{p q:Nat}
end
end
end Hx
end
section
namespace Hx
open Go
section
variable {p:List Nat}
theorem CH:Bw p 0:=⟨λv _ hb=>by simp at hb,λv _ hb=>by simp at hb⟩
theorem Fq{q:Nat}(ih:Bw p q){j:Nat}(hj:j<64)(hd:Sub (Par p j) q):Bw p (q ||| S.RN j):=by
 refine⟨λv hv hb=>?_,λv hv hb=>?_⟩
 ·intro u hu;rw[gR,mV hj,Uo,TA]at hb;rw[gR,Uo];rcases hb with hb|hb
  ·exact .inl (ih.1 v hv hb u hu)
  ·subst hb;exact .inl (hd u hu)
 ·rw[gR,mV hj,Uo,TA]at hb;cases hq:q.testBit v
  ·rw[hq]at hb;simp at hb;subst hb;rw[<-UG];intro hu;have:=yk ih.1 hd p.length j hu;rw[hq]at this;cases this
  ·exact ih.2 v hv hq
theorem wg{q:Nat}(h:Bw p q)(hf:∀v,v<p.length->q.testBit v=true):S.Sk p=true :=
 kV.2 λv hv=>h.2 v hv (hf v hv)
theorem Dq(hp:∀x∈p,x<2 ^ p.length)(h:S.Sk p=true){T:Nat}(hst:∀v,v<p.length->T.testBit v=false->¬Sub (Par p v) T):∀v,v<p.length->T.testBit v=true:=by
 rw[kV]at h;have none:∀r v,v<p.length->T.testBit v=false->S.up p (Par p v) p.length=r->False:=by
  intro r
  induction r using Nat.strongRecOn with
  | _ r ih =>
   intro v hv hb hr;have hns:=hst v hv hb;have:∃u,(Par p v).testBit u=true/\T.testBit u=false:=by
    apply UD;intro hno;apply hns;intro u hu;cases hc:T.testBit u
    ·exact absurd ⟨u,hu,hc⟩ hno
    ·rfl
   obtain⟨u,hu,hub⟩:=this;have hul:u<p.length:=Db (AZ hp) hu;have hcl:=Dg hp (s:=Par p v) (AZ hp);have hin:(S.up p (Par p v) p.length).testBit u=true:=um _ u hu;have hsub:Sub (S.up p (Par p u) p.length) (S.up p (Par p v) p.length):=yk hcl (hcl u hul hin) _;have hlt:S.up p (Par p u) p.length<S.up p (Par p v) p.length:=by refine Nat.lt_of_le_of_ne (NH hsub) λe=>?_;have:=h u hul;rw[e,hin]at this;cases this
   exact ih _ (by omega) u hul hub rfl
 intro v hv;cases hc:T.testBit v
 ·exact (none _ v hv hc rfl).elim
 ·rfl
end
end Hx
end
section
namespace Hx
open Go
theorem nL:∀a b:List Int,S.Q5 (a++b)=S.Q5 a*S.Q5 b
 |[],b=>by simp[S.Q5]
 |x::a,b=>by rw[TJ,bu,bu,nL a b,UK]
theorem mF:∀{a va:List Int} (b vb:List Int),a.length=va.length->S.Q9 (a++b) (va++vb)=S.Q9 a va*S.Q5 b+S.Q9 b vb
 |[],[],b,vb,_=>by simp[S.Q9]
 |[],_::_,_,_,h=>by simp at h
 |_::_,[],_,_,h=>by simp at h
 | c::a,v::va,b,vb,h=>by rw[TJ,TJ,S.Q9,S.Q9,mF b vb (by simpa using h),nL,Vz,UK];omega
theorem F4:∀{cs vs:List Int} (a:Int),(∀c∈cs,1<=c)->InC cs vs->S.Si cs (a*S.Q5 cs+S.Q9 cs vs)=a
 |[],[],a,_,_=>by simp[S.Si,S.Q5,S.Q9]
 |[],_::_,_,_,h=>by cases h
 |_::_,[],_,_,h=>by cases h
 | c::cs,v::vs,a,hc,h=>by
  obtain⟨⟨h1,h2⟩,h3⟩:=h;have ih:=F4 (cs:=cs) (vs:=vs) (a*c+v) (λx hx=>hc x (by simp[hx])) h3;have e:a*S.Q5 (c::cs)+S.Q9 (c::cs) (v::vs)=(a*c+v)*S.Q5 cs+S.Q9 cs vs:=by rw[bu,S.Q9,Vz,UK];omega
  rw[e];show S.Si cs _ / c=a;rw[ih,Int.add_comm,Int.add_mul_ediv_right _ _ (by omega),Int.ediv_eq_zero_of_lt h1 h2];omega
theorem CA:∀{cs vs:List Int} (a:Int) (i:Nat),(∀c∈cs,1<=c)->InC cs vs->i<cs.length->S.Sa cs (a*S.Q5 cs+S.Q9 cs vs) i=vs[i]?.getD 0
 |[],_,_,_,_,_,hi=>by simp at hi
 |_::_,[],_,_,_,h,_=>by cases h
 | c::cs,v::vs,a,i,hc,h,hi=>by
  obtain⟨⟨h1,h2⟩,h3⟩:=h;have hc':∀x∈cs,1<=x:=λx hx=>hc x (by simp[hx]);have e:a*S.Q5 (c::cs)+S.Q9 (c::cs) (v::vs)=(a*c+v)*S.Q5 cs+S.Q9 cs vs:=by rw[bu,S.Q9,Vz,UK];omega
  rw[e];cases i with
  | zero =>
   show S.Si cs _ % c=v;rw[F4 _ hc' h3,Int.add_comm,Int.add_mul_emod_self_right,Int.emod_eq_of_lt h1 h2]
  | succ i =>
   have:=CA (a*c+v) i hc' h3 (by simpa using hi);simpa [S.Sa] using this
theorem Bq{cs vs:List Int}(hc:∀c∈cs,1<=c)(h:InC cs vs):S.Rb cs (S.Q9 cs vs)=vs:=by
 have hl:=h.len;refine Uz (by simp[S.Rb,hl]) λi h1 h2=>?_;have hi:i<cs.length:=by simpa [S.Rb] using h1
 have:=CA 0 i hc h hi;rw[VX,Wb,Tn h2,Tq]at this;simp[S.Rb,this]
theorem Br{cs:List Int}(hc:∀c∈cs,1<=c)(h:Int):InC cs (S.Rb cs h):=by refine xW (by simp[S.Rb]) λi c v h1 h2=>?_;have hi:=(Tu.1 h1).1;rw[S.Rb,Tt,U3 hi,TQ,UQ]at h2;have hcc:=hc c (Tv h1);rw[<-h2,S.Sa,h1,Tq];exact⟨Vh _ (by omega),UY _ (by omega)⟩
theorem eV:∀{cs:List Int},(∀c∈cs,1<=c)->1<=S.Q5 cs
 |[],_=>by decide
 | c::cs,h=>by rw[bu];have h1:=h c (by simp);have h2:=eV (cs:=cs) λx hx=>h x (by simp[hx]);exact VJ h1 (by have:=Int.mul_le_mul_of_nonneg_left h2 (show 0<=c by omega);omega)
theorem Az:∀(cs:List Int) (n:Nat),S.Q9 cs (List.replicate n 0)=0
 |[],n=>by cases n<;>rfl
 |_::_,0=>rfl
 |c::cs,n+1=>by rw[Uu,S.Q9,Az cs n];simp
theorem D1:∀{cs vs:List Int},cs.length=vs.length->(∀(i:Nat) (c:Int),cs[i]?=some c->vs[i]?.getD 0=c - 1)->S.Q9 cs vs=S.Q5 cs - 1
 |[],[],_,_=>by decide
 |[],_::_,h,_=>by simp at h
 |_::_,[],h,_=>by simp at h
 | c::cs,v::vs,hl,h=>by
  have h0:=h 0 c rfl;have ih:=D1 (cs:=cs) (vs:=vs) (by simpa using hl) λi x hx=>by have:=h (i+1) x (by simpa using hx);simpa using this
  simp at h0;rw[S.Q9,ih,bu,h0,Int.sub_mul];omega
theorem Ml{cs vs:List Int}(hl:cs.length=vs.length){i:Nat}{x:Int}(hi:vs[i]?=some x)(hm:∀(j:Nat) (c:Int),i<j->cs[j]?=some c->vs[j]?.getD 0=c - 1) :
  S.Q9 cs (vs.take i++(x+1)::List.replicate (vs.length - (i+1)) 0)=S.Q9 cs vs+1:=by
 have hil:=(Tu.1 hi).1;obtain⟨c,hc⟩:∃c,cs[i]?=some c:=⟨_,Tn (by omega)⟩;have e1:cs=cs.take i++c::cs.drop (i+1):=by have:=UE (l:=cs) (i:=i) (by omega);rw[Tn (by omega),UQ]at hc;rw[<-hc,<-this,Us]
 have e2:vs=vs.take i++x::vs.drop (i+1):=by have:=UE (l:=vs) (i:=i) hil;rw[Tn hil,UQ]at hi;rw[<-hi,<-this,Us]
 have hlt:(cs.take i).length=(vs.take i).length:=by simp[hl]
 have hmx:S.Q9 (cs.drop (i+1)) (vs.drop (i+1))=S.Q5 (cs.drop (i+1)) - 1:=by refine D1 (by simp[hl]) λj d hj=>?_;rw[UZ]at hj ⊢;exact hm _ d (by omega) hj
 have h1:S.Q9 cs vs=S.Q9 (cs.take i) (vs.take i)*S.Q5 (c::cs.drop (i+1))+(x*S.Q5 (cs.drop (i+1))+S.Q9 (cs.drop (i+1)) (vs.drop (i+1))):=by
  conv=>lhs;rw[e1,e2,mF _ _ hlt,S.Q9]
 have h2:S.Q9 cs (vs.take i++(x+1)::List.replicate (vs.length - (i+1)) 0)=S.Q9 (cs.take i) (vs.take i)*S.Q5 (c::cs.drop (i+1))+((x+1)*S.Q5 (cs.drop (i+1))+0):=by
  conv=>lhs;rw[e1,mF _ _ hlt,S.Q9,Az]
 rw[h2,h1,hmx,Vz];omega
end Hx
end
section
namespace Hx
open Go
def S.Q6(n:Net):List Int:=n.nodes.map (·.card)
def S.Q7(cs ps:List Int):List Int:=ps.map λp=>cs[p.toNat]?.getD 0
def S.Rj(n:Net):List Nat:=n.nodes.map λx=>S.Re x.parents
def S.R_(gr card:Int)(r:List Int):Bool:=decide ((r.length:Int)=card)&&r.all (λx=>decide (0<=x)&&decide (x<=gr))&&decide (r.sum=gr)
def S.Th(k:Int)(x:Node):Bool:=decide (1<=x.card)&&decide (x.card<=4)&&S.Rc x.parents k
def S.Ti(n:Net)(x:Node):Bool:=decide ((x.rows.length:Int)=S.Q5 (S.Q7 (S.Q6 n) x.parents))&&x.rows.all (S.R_ n.grain x.card)
def S.RZ(n:Net):Bool:=decide (1<=n.grain)&&decide (n.grain<=60)&&decide (1<=n.nodes.length)&&decide (n.nodes.length<=8)&&n.nodes.all (S.Th n.nodes.length)&&decide (S.Q5 (S.Q6 n)<=1024)&&S.Sk (S.Rj n)&&n.nodes.all (S.Ti n)
structure NR (n:Net):Prop where
 g1:1<=n.grain
 g2:n.grain<=60
 l1:1<=n.nodes.length
 l2:n.nodes.length<=8
 card:∀x∈n.nodes,1<=x.card/\x.card<=4
 places:∀x∈n.nodes,S.Rc x.parents n.nodes.length=true
 worlds:S.Q5 (S.Q6 n)<=1024
 acyc:S.Sk (S.Rj n)=true
 rows:∀x∈n.nodes,(x.rows.length:Int)=S.Q5 (S.Q7 (S.Q6 n) x.parents)
 row:∀x∈n.nodes,∀r∈x.rows,(r.length:Int)=x.card/\(∀y∈r,0<=y/\y<=n.grain)/\r.sum=n.grain
theorem fN{n:Net}:S.RZ n=true↔NR n:=by
 simp only[S.RZ,S.Th,S.Ti,S.R_,Ts,TA,TC];constructor
 ·rintro⟨⟨⟨⟨⟨⟨⟨a,b⟩,c⟩,d⟩,e⟩,f⟩,g⟩,h⟩;exact⟨a,b,c,d,λx hx=>(e x hx).1,λx hx=>(e x hx).2,f,g,λx hx=>(h x hx).1,λx hx r hr=>⟨((h x hx).2 r hr).1.1,((h x hx).2 r hr).1.2,((h x hx).2 r hr).2⟩⟩
 ·rintro⟨a,b,c,d,e1,e2,f,g,h1,h2⟩;exact⟨⟨⟨⟨⟨⟨⟨a,b⟩,c⟩,d⟩,λx hx=>⟨e1 x hx,e2 x hx⟩⟩,f⟩,g⟩,λx hx=>⟨h1 x hx,λr hr=>⟨⟨(h2 x hx r hr).1,(h2 x hx r hr).2.1⟩,(h2 x hx r hr).2.2⟩⟩⟩
theorem bZ{l:List Int}{k:Int}(h:S.Rc l k=true):∀x∈l,0<=x/\x<k:=by
 intro x hx;obtain⟨i,hi,he⟩:=Ui.1 hx;have:=TC.1 h i (TK.2 hi);have e:l[i]?.getD 0=x:=by rw[Tn hi,he];rfl
 simp only[S.RP,Ts,TA,e]at this;omega
theorem ks{l:List Int}{k:Int}(h:S.Rc l k=true){i:Nat}{x y:Int}(hx:l[i]?=some x)(hy:l[i+1]?=some y):x<y:=by have hi:=(Tu.1 hy).1;have:=TC.1 h (i+1) (TK.2 hi);simp only[S.RP,Ts,TA,hy,Tq,Nat.add_sub_cancel,hx]at this;simp at this;omega
theorem CX{l:List Int}{k:Int}(h:S.Rc l k=true):∀{i j:Nat} {x y:Int},l[i]?=some x->l[j]?=some y->i<j->x<y:=by
 intro i j
 induction j with
 |zero=>intro x y _ _ h;omega
 | succ j ih =>
  intro x y hx hy hij;have hj:=(Tu.1 hy).1;have hz:l[j]?=some l[j]:=Tn (by omega);have h1:=ks h hz hy
  by_cases e:i=j
  ·subst e;rw[hx]at hz;injection hz with hz;omega
  ·have:=ih hx hz (by omega);omega
theorem ku{l:List Int}{k:Int}(h:S.Rc l k=true)(hk:0<=k):(l.length:Int)<=k:=by
 have key:∀(i:Nat) (x:Int),l[i]?=some x->(i:Int)<=x:=by
  intro i
  induction i with
  |zero=>intro x hx;have:=bZ h x (Tv hx);omega
  | succ i ih =>
   intro x hx;have hi:=(Tu.1 hx).1;have h1:=ih l[i] (Tn (by omega));have:=ks h (Tn (show i<l.length by omega)) hx;omega
 by_cases hl:l.length=0
 ·omega
 ·have h1:=key (l.length - 1) l[l.length - 1] (Tn (by omega));have h2:=bZ h _ (TW (show l.length - 1<l.length by omega));omega
theorem NR.cs{n:Net}(h:NR n):∀c∈S.Q6 n,1<=c/\c<=4:=λc hc=>by obtain⟨x,hx,rfl⟩:=T4.1 hc;exact h.card x hx
theorem aY(n:Net):(S.Q6 n).length=n.nodes.length:=by simp[S.Q6]
theorem bG{cs ps:List Int}(hc:∀c∈cs,1<=c/\c<=4)(hp:∀p∈ps,0<=p/\p<cs.length):∀c∈S.Q7 cs ps,1<=c/\c<=4:=λc h=>by obtain⟨p,h1,rfl⟩:=T4.1 h;have h2:=hp p h1;rw[Tn (by omega),Tq];exact hc _ (TW _)
theorem kp{cs ps vals:List Int}(h:InC cs vals)(hp:∀p∈ps,0<=p/\p<cs.length):InC (S.Q7 cs ps) (S.Q7 vals ps):=by refine xW (by simp[S.Q7]) λi c v h1 h2=>?_;simp only[S.Q7,Tt,Option.map_eq_some_iff]at h1 h2;obtain⟨p,h3,rfl⟩:=h1;obtain⟨p',h4,rfl⟩:=h2;rw[h3]at h4;injection h4 with h4;subst h4;have h5:=hp p (Tv h3);have h6:cs[p.toNat]?=some cs[p.toNat]:=Tn (by omega);obtain⟨v,h7,h8⟩:=h.get h6;rw[h6,h7,Tq,Tq];exact h8
theorem bU(cs a b:List Int):S.Q7 cs (a++b)=S.Q7 cs a++S.Q7 cs b:=by simp[S.Q7]
def S.RO(n:Net)(vals:List Int)(v:Nat):Int:=match n.nodes[v]? with
 |none=>1
 |some x=>(x.rows[(S.Q9 (S.Q7 (S.Q6 n) x.parents) (S.Q7 vals x.parents)).toNat]?.getD [])[(vals[v]?.getD 0).toNat]?.getD 0
def S.RL(n:Net)(vals:List Int):Int:=S.Q5 ((List.range n.nodes.length).map (S.RO n vals))
theorem NR.pin{n:Net}(h:NR n){x:Node}(hx:x∈n.nodes):∀p∈x.parents,0<=p/\p<(S.Q6 n).length:=λp hp=>by rw[aY];exact bZ (h.places x hx) p hp
theorem Fc{n:Net}(h:NR n){vals:List Int}(hv:InC (S.Q6 n) vals){v:Nat}{x:Node}(hx:n.nodes[v]?=some x) :
  ∃(i:Nat) (r:List Int) (c y:Int),S.Q9 (S.Q7 (S.Q6 n) x.parents) (S.Q7 vals x.parents)=(i:Int)/\i<x.rows.length/\x.rows[i]?=some r/\vals[v]?=some c/\0<=c/\c<x.card/\r[c.toNat]?=some y/\S.RO n vals v=y/\0<=y/\y<=n.grain:=by
 have hm:=Tv hx;have hi:=bY (bG h.cs (h.pin hm)) (kp hv (h.pin hm));rw[<-h.rows x hm]at hi;obtain⟨i,he⟩:=Ty hi.1;have hil:i<x.rows.length:=by omega
 have hc:(S.Q6 n)[v]?=some x.card:=by simp[S.Q6,hx]
 obtain⟨c,h1,h2,h3⟩:=hv.get hc;obtain⟨r1,r2,-⟩:=h.row x hm x.rows[i] (TW hil);have hcl:c.toNat<(x.rows[i]).length:=by omega
 refine⟨i,x.rows[i],c,(x.rows[i])[c.toNat],he,hil,Tn hil,h1,h2,h3,Tn hcl,?_,r2 _ (TW hcl)⟩;simp only[S.RO,hx,he,h1,TH,Tn hil,Tq,Tn hcl]
theorem w_:∀{l:List Int},(∀x∈l,0<=x/\x<=60)->0<=S.Q5 l/\S.Q5 l<=60 ^ l.length
 |[],_=>by decide
 | x::l,h=>by have h1:=w_ (l:=l) λy hy=>h y (by simp[hy]);have h2:=h x (by simp);rw[bu,Ud,Vr,VK x];refine⟨Ur h1.1 h2.1,VJ (Int.mul_le_mul_of_nonneg_left h2.2 h1.1) (Int.mul_le_mul_of_nonneg_right h1.2 (by decide))⟩
theorem QL{k:Nat}(h:k<=8):(60:Int) ^ k<=167961600000000:=by
 have hk:k=0\/k=1\/k=2\/k=3\/k=4\/k=5\/k=6\/k=7\/k=8:=by omega
 rcases hk with rfl|rfl|rfl|rfl|rfl|rfl|rfl|rfl|rfl<;>decide
theorem J1{n:Net}(h:NR n){vals:List Int}(hv:InC (S.Q6 n) vals){v:Nat}(hi:v<n.nodes.length):0<=S.RO n vals v/\S.RO n vals v<=60:=by obtain⟨i,r,c,y,-,-,-,-,-,-,-,e,a,b⟩:=Fc h hv (Tn hi);have:=h.g2;omega
theorem uW{n:Net}(h:NR n){vals:List Int}(hv:InC (S.Q6 n) vals){j:Nat}(hj:j<=n.nodes.length):0<=S.Q5 ((List.range j).map (S.RO n vals))/\S.Q5 ((List.range j).map (S.RO n vals))<=167961600000000:=by
 have h1:=w_ (l:=(List.range j).map (S.RO n vals)) λx hx=>by obtain⟨i,hi,rfl⟩:=T4.1 hx;exact J1 h hv (by have:=TK.1 hi;omega)
 have h2:=QL (k:=((List.range j).map (S.RO n vals)).length) (by have:=h.l2;simp;omega);omega
theorem H8(n:Net)(vals:List Int)(j:Nat):S.Q5 ((List.range (j+1)).map (S.RO n vals))=S.Q5 ((List.range j).map (S.RO n vals))*S.RO n vals j:=by rw[Uw,Ub,UA,cU]
def S.Rn(n:Net)(p:Nat->Bool):Nat->Int
 |0=>0
 |j+1=>S.Rn n p j+if p j then S.RL n (S.Rb (S.Q6 n) (j:Int)) else 0
theorem B7{n:Net}(h:NR n){vals:List Int}(hv:InC (S.Q6 n) vals):0<=S.RL n vals/\S.RL n vals<=167961600000000:=uW h hv (Tp _)
theorem v6{n:Net}(h:NR n)(p:Nat->Bool):∀j:Nat,0<=S.Rn n p j/\S.Rn n p j<=167961600000000*j
 |0=>by simp[S.Rn]
 | j+1=>by
  have ih:=v6 h p j;have hw:=B7 h (Br (λc hc=>(h.cs c hc).1) (j:Int));rw[S.Rn]
  split<;>omega
def S.Rx(n:Net):Nat:=(S.Q5 (S.Q6 n)).toNat
def S.SA(n:Net)(e:List Int):Int:=S.Rn n (λw=>S.Rr (S.Rb (S.Q6 n) (w:Int)) e) (S.Rx n)
theorem NR.wl{n:Net}(h:NR n):1<=S.Rx n/\S.Rx n<=1024/\((S.Rx n:Nat):Int)=S.Q5 (S.Q6 n):=by have h1:=eV λc hc=>(h.cs c hc).1;have h2:=h.worlds;unfold S.Rx;omega
theorem FK{n:Net}(h:NR n)(e:List Int):0<=S.SA n e/\S.SA n e<=171992678400000000:=by have h1:=v6 h (λw=>S.Rr (S.Rb (S.Q6 n) (w:Int)) e) (S.Rx n);have h2:=h.wl;unfold S.SA;omega
def S.RK(n:Net)(e:List Int):Bool:=decide (e.length=n.nodes.length)&&(List.range e.length).all λv=>decide (-1<=e[v]?.getD 0)&&decide (e[v]?.getD 0<(S.Q6 n)[v]?.getD 0)
def S.RR(n:Net)(e:List Int):Int:=if S.RZ n then (if S.RK n e then 0 else 2) else 50
end Hx
end
section
namespace Hx
open Go
section
variable {b card:Nat}
def S.RB(b card i x:Nat):Nat:=(i / b*card+x)*b+i % b
def S.R8(b card p:Nat):Nat:=p / (b*card)*b+p % b
def S.Sy(b card p:Nat):Nat:=p / b % card
theorem I7(hb:0<b){i x:Nat}(hx:x<card):S.R8 b card (S.RB b card i x)=i/\S.Sy b card (S.RB b card i x)=x:=by
 have hm:=U4 i hb;have h1:S.RB b card i x / b=i / b*card+x:=by unfold S.RB;rw[Vu,U9 _ _ hb,Vm hm,T6]
 have h2:S.RB b card i x % b=i % b:=by unfold S.RB;rw[Vu,Vg,Nat.mod_mod]
 have h3:(i / b*card+x) / card=i / b:=by rw[Vu,U9 _ _ (by omega),Vm hx,T6]
 have h4:(i / b*card+x) % card=x:=by rw[Vu,Vg,Nat.mod_eq_of_lt hx]
 refine⟨?_,?_⟩
 ·unfold S.R8;rw[<-Nat.div_div_eq_div_mul,h1,h2,h3,VO];exact V7 i b
 ·unfold S.Sy;rw[h1,h4]
theorem P9(hb:0<b)(p:Nat):S.RB b card (S.R8 b card p) (S.Sy b card p)=p:=by
 have hm:=U4 p hb;have h1:S.R8 b card p / b=p / (b*card):=by unfold S.R8;rw[Vu,U9 _ _ hb,Vm hm,T6]
 have h2:S.R8 b card p % b=p % b:=by unfold S.R8;rw[Vu,Vg,Nat.mod_mod]
 unfold S.RB S.Sy;rw[h1,h2,<-Nat.div_div_eq_div_mul,VO (p / b / card) card,V7,VO];exact V7 p b
theorem IA(hc:0<card)(p:Nat):S.Sy b card p<card:=U4 _ hc
theorem Oo{A p:Nat}(hb:0<b)(hp:p<A*b*card):S.R8 b card p<A*b:=by have h1:p / (b*card)<A:=Nat.div_lt_of_lt_mul (by rw[VO (b*card),<-Wd];exact hp);have hm:=U4 p hb;unfold S.R8;have:(p / (b*card)+1)*b<=A*b:=TT _ h1;rw[T_,UC]at this;omega
theorem DV{A i x:Nat}(hb:0<b)(hi:i<A*b)(hx:x<card):S.RB b card i x<A*b*card:=by have h1:i / b<A:=Nat.div_lt_of_lt_mul (by rw[VO];exact hi);have hm:=U4 i hb;unfold S.RB;have h2:(i / b+1)*card<=A*card:=TT _ h1;rw[T_,UC]at h2;have h3:(i / b*card+x+1)*b<=A*card*b:=TT _ (by omega);rw[T_ (i / b*card+x),UC,Wd A,VO card b,<-Wd]at h3;omega
def S.RX(rows:List (List Int))(b card t:Nat):List Int:=(List.range (rows.length*card)).map λp=>if S.R8 b card p*card+S.Sy b card p<t then (rows[S.R8 b card p]?.getD [])[S.Sy b card p]?.getD 0 else 0
def S.S1(rows:List (List Int))(b card:Nat):List Int:=(List.range (rows.length*card)).map λp=>(rows[S.R8 b card p]?.getD [])[S.Sy b card p]?.getD 0
theorem Fd(rows:List (List Int))(b card t:Nat):(S.RX rows b card t).length=rows.length*card:=by simp[S.RX]
theorem J3(rows:List (List Int))(b card:Nat):S.RX rows b card 0=List.replicate (rows.length*card) 0:=by refine Uz (by simp[S.RX]) λi h1 h2=>?_;simp[S.RX]
theorem J2{rows:List (List Int)}{A i x:Nat}{r:List Int}{w:Int}(hb:0<b)(hA:rows.length=A*b)(hr:rows[i]?=some r)(hx:x<card)(hw:r[x]?=some w) :
  (S.RX rows b card (i*card+x)).set (S.RB b card i x) w=S.RX rows b card (i*card+x+1):=by
 have hi:=(Tu.1 hr).1;refine Uz (by simp[S.RX]) λp h1 h2=>?_;have hp:p<rows.length*card:=by simpa [S.RX] using h2
 obtain⟨q1,q2⟩:=I7 hb (i:=i) hx;rw[List.getElem_set]
 by_cases e:S.RB b card i x=p
 ·subst e;rw[TE rfl];simp only[S.RX,UN,U1,q1,q2];rw[TE (by omega),hr,Tq,hw,Tq]
 ·rw[TF e];simp only[S.RX,UN,U1];have hf:=IA (b:=b) (card:=card) (by omega) p;have hne:S.R8 b card p*card+S.Sy b card p≠i*card+x:=λh=>e (by
   have e1:S.R8 b card p=i:=by
    have h1:(S.R8 b card p*card+S.Sy b card p) / card=S.R8 b card p:=by rw[Vu,U9 _ _ (by omega),Vm hf,T6]
    have h2:(i*card+x) / card=i:=by rw[Vu,U9 _ _ (by omega),Vm hx,T6]
    rw[<-h1,h,h2]
   have e2:S.Sy b card p=x:=by rw[e1]at h;omega
   rw[<-P9 hb p (card:=card),e1,e2])
  by_cases h:S.R8 b card p*card+S.Sy b card p<i*card+x
  ·rw[TE h,TE (by omega)]
  ·rw[TF h,TF (by omega)]
theorem LK{rows:List (List Int)}{A:Nat}(hb:0<b)(hA:rows.length=A*b):S.RX rows b card (rows.length*card)=S.S1 rows b card:=by
 unfold S.RX S.S1;refine Ul λp hp=>?_;have hp:=TK.1 hp;have hc:0<card:=Nat.pos_of_ne_zero λe=>by subst e;simp at hp
 have h1:=Oo (A:=A) hb (by rw[<-hA];exact hp);have h2:=IA (b:=b) hc p;rw[TE];rw[<-hA]at h1;have:(S.R8 b card p+1)*card<=rows.length*card:=TT _ h1;rw[T_,UC]at this;omega
theorem Oi{rows:List (List Int)}{A i x:Nat}(hb:0<b)(hA:rows.length=A*b)(hi:i<rows.length)(hx:x<card):(S.S1 rows b card)[S.RB b card i x]?=some ((rows[i]?.getD [])[x]?.getD 0):=by obtain⟨q1,q2⟩:=I7 hb (i:=i) hx;have hp:=DV (A:=A) (i:=i) hb (by rw[<-hA];exact hi) hx;simp only[S.S1,Tt];rw[U3 (by rw[hA];exact hp)];simp only[TQ,q1,q2]
end
def S.Ru(ps:List Int)(k:Nat)(v:Int):List Int:=ps.take k++v::ps.drop k
theorem PX{n:Net}(h:NR n){vals:List Int}(hv:InC (S.Q6 n) vals){v:Nat}{x:Node}(hx:n.nodes[v]?=some x)(k:Nat) :
  ∃p:Nat,S.Q9 (S.Q7 (S.Q6 n) (S.Ru x.parents k (v:Int))) (S.Q7 vals (S.Ru x.parents k (v:Int)))=(p:Int)/\p<x.rows.length*x.card.toNat /\
   (S.S1 x.rows (S.Q5 (S.Q7 (S.Q6 n) (x.parents.drop k))).toNat x.card.toNat)[p]?=some (S.RO n vals v):=by
 have hm:=Tv hx;obtain⟨i,r,c,y,e1,e2,e3,e4,e5,e6,e7,e8,-,-⟩:=Fc h hv hx;have hpin:=h.pin hm;have hcb:=bG h.cs hpin;have hin:=kp hv hpin;have hcx:(S.Q6 n)[v]?=some x.card:=by simp[S.Q6,hx]
 have ps:x.parents=x.parents.take k++x.parents.drop k:=(Us k _).symm;have hd1:∀c∈S.Q7 (S.Q6 n) (x.parents.drop k),1<=c/\c<=4:=bG h.cs λp hp=>hpin p (Uj hp);have hd2:InC (S.Q7 (S.Q6 n) (x.parents.drop k)) (S.Q7 vals (x.parents.drop k)):=kp hv λp hp=>hpin p (Uj hp);have ht1:∀c∈S.Q7 (S.Q6 n) (x.parents.take k),1<=c/\c<=4:=bG h.cs λp hp=>hpin p (Uc hp);have ht2:InC (S.Q7 (S.Q6 n) (x.parents.take k)) (S.Q7 vals (x.parents.take k)):=kp hv λp hp=>hpin p (Uc hp);obtain⟨b1,b2⟩:=bY hd1 hd2;obtain⟨a1,a2⟩:=bY ht1 ht2;have hlt:(S.Q7 (S.Q6 n) (x.parents.take k)).length=(S.Q7 vals (x.parents.take k)).length:=by simp[S.Q7]
 have ei:S.Q9 (S.Q7 (S.Q6 n) x.parents) (S.Q7 vals x.parents)=S.Q9 (S.Q7 (S.Q6 n) (x.parents.take k)) (S.Q7 vals (x.parents.take k))*S.Q5 (S.Q7 (S.Q6 n) (x.parents.drop k))+S.Q9 (S.Q7 (S.Q6 n) (x.parents.drop k)) (S.Q7 vals (x.parents.drop k)):=by
  conv=>lhs;rw[ps,bU,bU,mF _ _ hlt]
 have er:(x.rows.length:Int)=S.Q5 (S.Q7 (S.Q6 n) (x.parents.take k))*S.Q5 (S.Q7 (S.Q6 n) (x.parents.drop k)):=by
  rw[h.rows x hm]
  conv=>lhs;rw[ps,bU,nL]
 have ef:S.Q9 (S.Q7 (S.Q6 n) (S.Ru x.parents k (v:Int))) (S.Q7 vals (S.Ru x.parents k (v:Int))) =
   S.Q9 (S.Q7 (S.Q6 n) (x.parents.take k)) (S.Q7 vals (x.parents.take k))*(x.card*S.Q5 (S.Q7 (S.Q6 n) (x.parents.drop k)))+(c*S.Q5 (S.Q7 (S.Q6 n) (x.parents.drop k))+S.Q9 (S.Q7 (S.Q6 n) (x.parents.drop k)) (S.Q7 vals (x.parents.drop k))):=by
  rw[S.Ru,bU,bU,mF _ _ hlt];have:S.Q7 (S.Q6 n) ((v:Int)::x.parents.drop k)=x.card::S.Q7 (S.Q6 n) (x.parents.drop k):=by simp[S.Q7,hcx]
  have h2:S.Q7 vals ((v:Int)::x.parents.drop k)=c::S.Q7 vals (x.parents.drop k):=by simp[S.Q7,e4]
  rw[this,h2,bu,S.Q9]
 have hpp:=eV λc hc=>(hd1 c hc).1;generalize S.Q5 (S.Q7 (S.Q6 n) (x.parents.drop k))=B at *;generalize S.Q5 (S.Q7 (S.Q6 n) (x.parents.take k))=A at *;generalize S.Q9 (S.Q7 (S.Q6 n) (x.parents.drop k)) (S.Q7 vals (x.parents.drop k))=q at *;generalize S.Q9 (S.Q7 (S.Q6 n) (x.parents.take k)) (S.Q7 vals (x.parents.take k))=a at *;obtain⟨B,rfl⟩:=Ty (show 0<=B by omega);obtain⟨A,rfl⟩:=Ty (show 0<=A by omega);obtain⟨q,rfl⟩:=Ty b1;obtain⟨a,rfl⟩:=Ty a1;obtain⟨c,rfl⟩:=Ty e5;obtain⟨C,hC⟩:=Ty (show 0<=x.card by omega);rw[hC]at ef e6 ⊢;have hB:0<B:=by omega
 have hq:q<B:=by omega
 have hc:c<C:=by omega
 rw[e1]at ei;have hi:i=a*B+q:=by
  have:(i:Int)=((a*B+q:Nat):Int):=by rw[ei,Vq,Ut]
  omega
 have hiB:i / B=a:=by rw[hi,Vu,U9 _ _ hB,Vm hq,T6]
 have hiM:i % B=q:=by rw[hi,Vu,Vg,Nat.mod_eq_of_lt hq]
 have hrl:x.rows.length=A*B:=by
  have:((x.rows.length:Nat):Int)=((A*B:Nat):Int):=by rw[er,Ut]
  omega
 refine⟨S.RB B C i c,?_,?_,?_⟩
 ·rw[ef,S.RB,hiB,hiM,T_,Vq,Vq,Ut,Ut,Ut,UK];omega
 ·rw[TH,hrl];exact DV hB (by rw[<-hrl];exact e2) hc
 ·rw[TH,TH,Oi hB hrl e2 hc,e3,Tq];rw[TH]at e7;rw[e7,e8];rfl
end Hx
end
section
namespace Hx
open Go
noncomputable section
abbrev H9:Type:=UInt8×UInt8×UInt8×Int
theorem qe{g:G}{v:AV}{n:Net}(d:Nat)(hm:Agg n NoP 0 g.h v):∃b rows,v=.agg [.int .i64 n.grain,b]/\Hx.snap g.h d aD v=some v/\(∀h,Agg n NoP 0 h v)/\SlR NoP 0 .nil n.nodes b/\(∀h,ac h 3 b=some rows)/\rows.length=n.nodes.length /\
  (∀(i:Nat) (x:Node),n.nodes[i]?=some x->∃pa ra,rows[i]?=some [.int .i64 x.card,pa,ra]/\i<rows.length/\SlR NoP 0 .nil x.parents pa/\SlR NoP 0 .nil x.rows ra)/\(0<n.nodes.length->rR b=true):=by
 have e:=cW d hm;obtain⟨cs,rfl,hc⟩:=hm;have hc':=hc;obtain⟨b,rfl,hN⟩:=fO.1 hc;have hN:=hN.tree (h':=.nil) (Tp _);obtain⟨rows,r1,r2,r3,r4⟩:=hN.all;refine⟨b,rows,rfl,e,λh=>⟨_,rfl,Rp.tree hc' (Tp _)⟩,hN,r1,r2,λi x hx=>?_,r4⟩;obtain⟨row,q1,q2⟩:=r3 i x hx;obtain⟨a',b',rfl,ha',hb'⟩:=fm.1 q2;exact⟨a',b',q1,by rw[r2];exact (Tu.1 hx).1,ha',hb'⟩
theorem Ef{k:Nat}{l:List (List Int)}{b:AV}(hb:SlR NoP k .nil l b):∃rows:List (List AV),(∀h,ac h 1 b=some rows)/\rows.length=l.length/\(∀(i:Nat) (r:List Int),l[i]?=some r->∃z,rows[i]?=some [z]/\i<rows.length/\SlR NoP k .nil r z)/\(0<l.length->rR b=true):=by obtain⟨rows,r1,r2,r3,r4⟩:=hb.all;refine⟨rows,r1,r2,λi r hr=>?_,r4⟩;obtain⟨row,q1,q2⟩:=r3 i r hr;obtain⟨z,rfl,hz⟩:=f6.1 q2;exact⟨z,q1,by rw[r2];exact (Tu.1 hr).1,hz⟩
section
variable {d:Nat}{b pa ra z:AV}{gr card:Int}{r:List Int}
def LR5(v:Nat)(q:Nat):List (Nat×AV):=[(1,.hptr 0 0 0 0),(6,.int .i64 (v:Int)),(7,.hptr q 0 0 0)]
structure RJ1 (gr:Int) (r:List Int) (v q i j:Nat) (t:T):Prop where
 st:St t ((8,.int .i64 (i:Int))::LR5 v q)
 s9:tat t 9=.int .i64 (r.take j).sum
 all:∀y∈r.take j,0<=y/\y<=gr
structure RJ4 (gr card:Int) (rws:List (List Int)) (v q j:Nat) (t:T):Prop where
 st:St t (LR5 v q)
 all:∀r∈rws.take j,S.R_ gr card r=true
structure RJ0 (n:Net) (b:AV) (j:Nat) (t:T) (g:G):Prop where
 st:St t [(1,.hptr 0 0 0 0),(3,.int .i64 (S.Q5 ((S.Q6 n).take j)))]
 hg:g.h.get 0=We 2 [[.int .i64 n.grain,b]]
 nx:1<=g.nx
 all:∀x∈n.nodes.take j,S.Th n.nodes.length x=true
structure RJ6 (n:Net) (b:AV) (j:Nat) (t:T) (g:G):Prop where
 st:St t [(1,.hptr 0 0 0 0)]
 hg:g.h.get 0=We 2 [[.int .i64 n.grain,b]]
 nx:1<=g.nx
 all:∀x∈n.nodes.take j,S.Ti n x=true
end
end
end Hx
end
section
namespace Hx
open Go
noncomputable section
def OwnC(g:G)(b id:Nat)(l tl:List Int):Prop:=b<=id/\id<g.nx/\g.h.get id=We 1 (l.map ci++tl.map ci)
theorem OwnC.rows{g:G}{b id:Nat}{l tl:List Int}(h:OwnC g b id l tl):ac g.h 1 (.hsl id 0 0 l.length none)=some (l.map ci):=by rw[kG,h.2.2,eT,TE (by simp),VD,List.take_left' (by simp)]
theorem OwnC.fr{g g':G}{b id:Nat}{l tl:List Int}(h:OwnC g b id l tl)(hn:g.nx<=g'.nx)(hf:g'.h.get id=g.h.get id):OwnC g' b id l tl:=⟨h.1,TX h.2.1 hn,by rw[hf,h.2.2]⟩
theorem QG{g:G}{b n:Nat}{K:AV->G->Prop}{D:ADf->Prop}(hn:n<=1000)(hb:b<=g.nx)(k:∀g',OwnC g' b g.nx [] (List.replicate n 0)->g'.nx=g.nx+1->(∀i,i<g.nx->g'.h.get i=g.h.get i)->K (.hsl g.nx 0 0 0 none) g') :
  (Ko 1 8 [.int .i64 0] (.int .i64 0) (.int .i64 (n:Int)) g).sat K g D:=by
 have h1:n<=aQ:=by unfold aQ;omega
 have h2:n*8<=aQ:=by unfold aQ;omega
 have key:Ko 1 8 [.int .i64 0] (.int .i64 0) (.int .i64 (n:Int)) g=.upd (.hsl g.nx 0 0 0 none) (g.new (We 1 (ie n [.int .i64 0]))):=by
  show (match dA aQ (.int .i64 (.ofNat n)) with
   | some cn=>match dA cn (.int .i64 0) with
    |some ln=>aA (Nat.ble (cn*8) aQ) (OR.upd (.hsl g.nx 0 0 ln none) (g.new (We 1 (ie cn [.int .i64 0])))) .fail
    |none=>.fail
   |none=>.fail)=_
  have a1:dA aQ (.int .i64 (.ofNat n))=some n:=by show aA (Nat.ble n aQ) (some n) none=_;rw[aa,TE (by simpa using h1)]
  have a2:dA n (.int .i64 0)=some 0:=by show aA (Nat.ble 0 n) (some 0) none=_;rw[aa,TE (by simp)]
  rw[a1];dsimp only;rw[a2];dsimp only;rw[aa,TE (by simpa using h2)]
 rw[key];refine k _ ⟨hb,by simp,?_⟩ (by simp) (λi hi=>?_)
 ·simp[aU,ie,ci]
 ·rw[G.new_h,ah _ _ _ (by omega)]
theorem Lf{g:G}{b id:Nat}{l tl:List Int}{x y:Int}{w:AV}{K:AV->G->Prop}{D:ADf->Prop}(hv:OwnC g b id l (y::tl))(hx:ac g.h 1 w=some [ci x])(hr:l.length<=1000)
  (k:∀g',OwnC g' b id (l++[x]) tl->g'.nx=g.nx->(∀i,i≠id->g'.h.get i=g.h.get i)->K (.hsl id 0 0 (l++[x]).length none) g'):(cC 1 8 (.hsl id 0 0 l.length none) w g).sat K g D:=by
 unfold cC;rw[hx];obtain⟨h1,h2,h3⟩:=hv;simp only[bp,G.get_eq,h3,ax,aa,Uq,Up,T8,Ts,T6,Vn,Vw,TP,Tz,Ud,Vi];rw[TE ⟨by omega,by unfold aQ;omega⟩,TE (by omega)];have hnb:jF false=true:=rfl;rw[TE ⟨by omega,hnb⟩];have e:gX (l.map ci++(y::tl).map ci) l.length [ci x]=(l++[x]).map ci++tl.map ci:=by simp only[gX,f8];rw[Ub,UO,UV,U8 _ _ (by simp)];simp
 rw[e];have k:=k (g.put id (We 1 ((l++[x]).map ci++tl.map ci))) ⟨h1,by simpa using h2,by simp[aU]⟩ (by simp) (λi hi=>by rw[G.put_h,ah _ _ _ hi]);have e3:l.length+1=(l++[x]).length:=by simp
 rw[e3];exact k
def Qv(p:List Nat):VS:=λP k h v=>∃o:List Int,True/\rK (One o) (One (S.Sk p)) P k h v
theorem KU{d k:Nat}{g:G}{P:Nat->Prop}{v:AV}{p:List Nat}(hd:0<d)(hv:SlR P k g.h p v)(hn:p.length<=8)(hp:∀x∈p,x<2 ^ p.length) :
  ∃z,an C0 d N.RX [v] g=.val z/\Qv p NoP 0 .nil z:=by
 obtain⟨v',e,r1⟩:=cX hv d;have hlt:=Dp hv;rw[yV];refine bg BM (xs:=[v']) (by simp only[aK,e]) (by simp[qy]) (uj λo=>cO (m:=1) (a9 _) (a9 _) (by decide) (by decide)) (by decide) hd ?_;have vl:∀g,dm .slice v' g=.val (.int .i64 (p.length:Int)):=λg=>(r1 .nil).len g;simp only[sz,simprocAttr,qy,vl];refine QG (b:=0) (n:=p.length) (by omega) (Ue _) λg1 hu hn1 hf1=>?_;obtain⟨id,hid⟩:∃id,id=G.empty.nx:=⟨_,rfl⟩;rw[<-hid]at hu ⊢;clear hid hn1 hf1;simp only[sz,simprocAttr];refine qV (λn t df g=>df=[]/\∃(L:List Nat) (D:Nat) (tl:List Int),n=p.length - L.length/\L.length+tl.length=p.length/\JB p L/\PI D L/\Bw p D/\St t [(0,v'),(4,.hsl id 0 0 (L.map λi:Nat=>(i:Int)).length none),(5,.int .u64 (D:Int))]/\OwnC g 0 id (L.map λi:Nat=>(i:Int)) tl) p.length
  ⟨rfl,[],0,List.replicate p.length 0,by simp,by simp,⟨by simp,by simp⟩,⟨by decide,by simp⟩,CH,by simp[sx,St],hu⟩ ?_
 rintro n t df g ⟨rfl,L,D,tl,rfl,hLt,hO,hD,hG,⟨h0,h4,h5,-⟩,hu⟩;have hLl:=MV hO;have hul:∀g',dm .slice (.hsl id 0 0 (L.map λi:Nat=>(i:Int)).length none) g'=.val (.int .i64 (L.length:Int)):=λg'=>by rw[bQ hu.rows];simp
 simp only[sz,simprocAttr,re,h0,h4,vl,hul];refine aR (λhb=>?_) (λhb=>?_)
 ·have hlt2:L.length<p.length:=by simpa using hb
  obtain⟨y,tl,rfl⟩:∃y tl',tl=y::tl':=by
   cases tl with
   |nil=>simp at hLt;omega
   |cons y tl=>exact⟨y,tl,rfl⟩
  simp only[sz,simprocAttr,h0,vl,q_];refine aq (m:=p.length) (by omega) (λj t df g'=>df=[]/\g'=g/\St t [(0,v'),(16,v'),(4,.hsl id 0 0 (L.map λi:Nat=>(i:Int)).length none),(5,.int .u64 (D:Int))]/\∀v,v<j->D.testBit v=true\/¬Sub (Par p v) D)
   ⟨rfl,rfl,by simp[sx,St,h0,h4,h5],λv hv=>by omega⟩ (by simp[sx]) (by simp[sx]) (by decide) (by rintro j t df g v s (rfl|rfl|rfl)<;>simp[sx,St]) ?_ ?_
  ·rintro j t df g' hj ⟨rfl,rfl,⟨h0,h16,h4,h5,-⟩,hall⟩ h18 h17;obtain⟨x,hx,-,hxm⟩:=af hj;have hpj:Par p j=x:=by simp[Par,hx]
   have hxl:=hlt x hxm;have hjl:j<(p.map cu).length:=by simpa using hj
   have hjr:(p.map cu)[j]?=some (cu x):=by rw[Tt,hx];rfl
   have b1:=Dt .i64 D j hD.1;have hdv:D / 2 ^ j<18446744073709551616:=Nat.lt_of_le_of_lt (VZ _ _) hD.1;have b2:dO .and (.int .u64 ((D / 2 ^ j:Nat):Int)) (.int .u64 1)=.val (.int .u64 ((D / 2 ^ j &&& 1:Nat):Int)):=If _ 1 hdv (by decide);have b3:=zK x D hxl hD.1;have ra:=λh=>(r1 h).nats;have hbit:D.testBit j = !decide (((D / 2 ^ j &&& 1:Nat):Int)=0):=by
    rw[<-wU,S.S6];have h2:D / 2 ^ j &&& 1=(D / 2 ^ j) % 2:=Nat.and_one_is_mod _;rw[h2];have:=U4 (D / 2 ^ j) (show 0<2 by decide)
    by_cases h3:D / 2 ^ j % 2=0
    ·rw[h3];simp
    ·have h4:D / 2 ^ j % 2=1:=by omega
     rw[h4];simp
   have next:(D.testBit j=true\/¬Sub (Par p j) D)->∀v,v<j+1->D.testBit v=true\/¬Sub (Par p v) D:=λh v hv=>by
    by_cases e:v=j
    ·subst e;exact h
    ·exact hall v (by omega)
   by_cases c1:((D / 2 ^ j &&& 1:Nat):Int)=0
   ·by_cases c2:((x ^^^ (x &&& D):Nat):Int)=0
    ·have hd0:S.Sr x D=0:=by simpa [S.Sr] using c2
     have hsub:=pG.1 hd0;have hjL:j ∉ L:=λh=>by have:=(hD.2 j).2 h;rw[hbit,c1]at this;simp at this
     have hb2:D ||| S.RN j<18446744073709551616:=IY hD.1 (qh j);simp only[sz,simprocAttr,h16,h4,h5,h18,b1,b2,b3,ra,hjl,hjr,cu,c1,c2];refine Lf (x:=(j:Int)) (hu.fr (by simp) (by rw[G.new_h,ah _ _ _ (by have:=hu.2.1;omega)])) (by simp[sx,sy,ci]) (by simp;omega) λg2 hu2 n2 f2=>?_;have hone:dO .shl (.int .u64 1) (.int .i64 (j:Int))=.val (.int .u64 (S.RN j:Int)):=ij .i64 j;have e1:(L.map λi:Nat=>(i:Int))++[(j:Int)]=(L++[j]).map λi:Nat=>(i:Int):=by simp
     rw[e1]at hu2 ⊢;simp only[sz,simprocAttr,h5,hone,zL _ _ hD.1 (qh j)];refine⟨p.length - (L++[j]).length,by simp;omega,L++[j],D ||| S.RN j,tl,rfl,by simp at hLt ⊢;omega,Kw hO hjL hj λq hq=>?_,KR hD (by omega),Fq hG (by omega) (by rw[hpj];exact hsub),by simp[sx,St,h0],hu2⟩;rw[hpj]at hq;exact (hD.2 q).1 (hsub q hq)
    ·have hns:¬Sub (Par p j) D:=λh=>c2 (by
      have:=pG.2 h;rw[hpj]at this;simp[S.Sr]at this;simp[this])
     simp only[sz,simprocAttr,h0,h16,h4,h5,h18,h17,b1,b2,b3,ra,hjl,hjr,cu,c1,c2,St];exact next (.inr hns)
   ·simp only[sz,simprocAttr,h0,h16,h4,h5,h18,h17,b1,b2,ra,hjl,hjr,cu,c1,St];exact next (.inl (by rw[hbit,UU c1];rfl))
  ·rintro t df g' ⟨rfl,rfl,-,hall⟩;obtain⟨v0,hv0,hv0'⟩:=OB hO hlt2;have hac:S.Sk p=false:=by
    cases hc:S.Sk p with
    |false=>rfl
    | true =>
     have:=Dq hp hc (T:=D) (λv hv hb=>by
      rcases hall v hv with h|h
      ·rw[h]at hb;cases hb
      ·exact h) v0 hv0
     exact absurd ((hD.2 v0).1 this) hv0'
   simp only[sz,simprocAttr,rg];exact⟨λ_=>True,[],.nils,.bool false,rfl,⟨.nils,rfl,by show 0<9223372036854775808;decide,rfl⟩,kT.2 (by rw[hac])⟩
 ·have hge:p.length<=L.length:=by simp at hb;omega
  have htl:tl=[]:=T5 (by omega);subst htl;have hfull:=Kv hO hge;have hac:=wg hG λv hv=>(hD.2 v).2 (hfull.1 v hv);simp only[sz,simprocAttr,rh,h4];refine⟨λ_=>True,L.map (λi:Nat=>(i:Int)),_,_,rfl,⟨_,rfl,by simp;omega,trivial,_,hu.rows,Q5 (λa=>aB.2 rfl) _⟩,kT.2 (by rw[hac])⟩
theorem KF{C:Cfg}{d id nt:Nat}{t:T}{ps:List Nat}{assign body:Code}{a b:SC}{dfr:Nat}{args:List AV}{g:G}{K:AV->G->Prop}{D:ADf->Prop}{t':T}
  (hg:g.h.get id=.loop nt t ps assign body dfr .ready none) (ha:dz C nt assign=a) (hb:dz C nt body=b) (hp:cV t nt ps args=some t')
  (h:wp C d (some id) a (λe t1 df g1=>e=.norm/\df=[]/\g1=g /\
   wp C d (some id) b (λe _ df g2=>df=[]/\g2.h.get id=.loop nt t ps assign body dfr .busy none/\((e=.norm/\K (.bool true) (g2.put id (.loop nt t ps assign body dfr .ready none)))\/(e=.ret/\K (.bool false) (g2.put id (.loop nt t ps assign body dfr .done (some .ret))))))
    t1 [] (g.put id (.loop nt t ps assign body dfr .busy none))) t' [] g) :
  (cz (I C) d id args g).sat K g D:=by
 subst ha;subst hb;unfold cz;rw[show g.get id=_ from hg];dsimp only;rw[hp];dsimp only;have h1:=mM h;cases hc:(I C).code nt d (some id) assign t' [] g with
 |fail=>rw[hc]at h1;exact h1.elim
 | ok e t1 df g1 =>
  rw[hc]at h1;obtain⟨rfl,rfl,rfl,h2⟩:=h1;dsimp only;rw[show g1.get id=_ from hg];dsimp only;have h3:=mM h2;cases hc2:(I C).code nt d (some id) body t1 [] (g1.put id (.loop nt t ps assign body dfr .busy none)) with
  |fail=>rw[hc2]at h3;exact h3.elim
  | ok e t2 df2 g2 =>
   rw[hc2]at h3;obtain⟨rfl,h4,h5⟩:=h3;dsimp only;rw[show g2.get id=_ from h4];rcases h5 with⟨rfl,h5⟩|⟨rfl,h5⟩<;>exact h5
theorem Bv{C:Cfg}{d nt:Nat}{f:Od}{ps:List Nat}{a b:SC}{Q:QT}{t:T}{df:List ADf}{g:G}{fn:Nat}{first cap:List AV}{s:SF}(hv:f.get t=.clo fn first cap)(he:C.ext fn=none)(hs:nFn C fn=some s)
  (hl:(first++(.yld (g.nx+1)::cap)).length<=s.nt)
  (h:∀assign body,dz C nt assign=a->dz C nt body=b ->
   wp C d none s.code (fnQ C d s.res λ_ g2=>∃nt' t' ps' as' bd' dfr',(g2.h.get (g.nx+1)=.loop nt' t' ps' as' bd' dfr' .ready none/\Q .norm t (.mark g.nx::df) (g2.put (g.nx+1) (.loop nt' t' ps' as' bd' dfr' .exhausted none))) \/
     (g2.h.get (g.nx+1)=.loop nt' t' ps' as' bd' dfr' .done (some .ret)/\Q .ret t (.mark g.nx::df) (g2.put (g.nx+1) (.loop nt' t' ps' as' bd' dfr' .exhausted (some .ret)))))
    (cy 0 (first++(.yld (g.nx+1)::cap)) .nil) [] ((g.new (.dfr true)).new (.loop nt t ps assign body g.nx .ready none))) :
  wp C d none (.rng nt f ps a b) Q t df g:=by
 intro assign body ha hb;have h:=nZ hs hl (h assign body ha hb);show (co C (I C) nt d none (f.get t) ps assign body t (.mark g.nx::df) g.nx (g.new (.dfr true))).sat Q;rw[hv];unfold co;dsimp only;rw[he];show (match (I C).call d fn (first++(AV.yld (g.nx+1)::cap)) ((g.new (.dfr true)).new (.loop nt t ps assign body g.nx .ready none)) with
  |.ok _ g2=>cM (I C) nt d none (g.nx+1) t (.mark g.nx::df) g2
  |.fail=>.fail).sat Q
 cases hc:(I C).call d fn (first++(AV.yld (g.nx+1)::cap)) ((g.new (.dfr true)).new (.loop nt t ps assign body g.nx .ready none)) with
 |fail=>rw[hc]at h;exact h.elim
 | ok v g2 =>
  rw[hc]at h;obtain⟨nt',t',ps',as',bd',dfr',h⟩:=h;show (cM (I C) nt d none (g.nx+1) t (.mark g.nx::df) g2).sat Q;unfold cM;rcases h with⟨h1,h2⟩|⟨h1,h2⟩
  ·rw[show g2.get (g.nx+1)=_ from h1];exact h2
  ·rw[show g2.get (g.nx+1)=_ from h1];dsimp only;rw[GO];exact h2
def RwV(x:Node):VS:=λP k h v=>∃p,v=.clo N.Q7 [] [p] /\
 ((∃id cs,p=.hptr id 0 0 0/\P id/\h.get id=We 3 [cs]/\Rp.rp P k h x cs)\/∃t cs,p=.tptr t 3 [cs] 0 0/\t<=k/\Rp.rp NoP k .nil x cs)
theorem Qh(x:Node):Snb (RwV x) 2:=by
 refine⟨λ{P k h v n} d r hn=>?_,λ{k h v n} r hn=>?_⟩
 ·obtain⟨p,rfl,r⟩:=r;obtain⟨n,rfl⟩:∃q,n=q+2:=⟨n - 2,by omega⟩;rcases r with⟨id,cs,rfl,-,hg,r⟩|⟨t,cs,rfl,ht,r⟩
  ·obtain⟨cs',e,r'⟩:=Rp.snap (n:=n) d r (by show (_:Nat)<=n;exact TU (show Rp.dp Node<=20 by decide) (by omega)) (by decide);obtain⟨m,e2,l2⟩:=Rp.tag (n:=aD) r' (by decide);refine⟨.clo N.Q7 [] [.tptr (Nat.max d (Nat.max m 0)) 3 [cs'] 0 0],?_,_,rfl,.inr ⟨_,cs',rfl,?_,r'⟩⟩
   ·have:Hx.snap h d (n+1) (.hptr id 0 0 0)=some (.tptr (Nat.max d (Nat.max m 0)) 3 [cs'] 0 0):=by simp only[Hx.snap,hg,show Nat.beq 0 0=true from rfl,aK,e,fq,gQ,e2]
    simp only[Hx.snap,aK]at this ⊢;rw[this]
   ·show max d (max m 0)<=max k d;omega
  ·refine⟨.clo N.Q7 [] [.tptr t 3 [cs] 0 0],rfl,_,rfl,.inr ⟨t,cs,rfl,by omega,Rp.mono r (λi hi=>hi.elim) (by omega)⟩⟩
 ·obtain⟨p,rfl,r⟩:=r;obtain⟨n,rfl⟩:∃q,n=q+2:=⟨n - 2,by omega⟩;rcases r with⟨id,cs,rfl,hP,-⟩|⟨t,cs,rfl,ht,r⟩
  ·exact hP.elim
  ·exact⟨Nat.max t 0,rfl,by show max t 0<=k;omega⟩
theorem AQ{d:Nat}{g:G}{v:AV}{x:Node}(hd:0<d)(hm:Agg x NoP 0 g.h v) :
  ∃pa ra,an C0 d N.Rs [v] g=.val (.clo N.Q7 [] [.tptr 0 3 [[.int .i64 x.card,pa,ra]] 0 0])/\SlR NoP 0 .nil x.parents pa/\SlR NoP 0 .nil x.rows ra:=by
 have e0:=cW d hm;obtain⟨cs,rfl,hc⟩:=hm;obtain⟨a,b,rfl,hR,hN⟩:=fm.1 hc;have key:∃r,an C0 d N.Rs [.agg [.int .i64 x.card,a,b]] g=.val r/\RwV x NoP 0 .nil r:=by rw[BF];refine bg E7 (xs:=[.agg [.int .i64 x.card,a,b]]) (by simp only[aK,e0]) (by simp[vD]) (Qh x) (by decide) hd ?_;simp only[sz,simprocAttr,vD,wJ];exact⟨λ_=>True,_,rfl,.inl ⟨0,_,rfl,trivial,by simp[sx],Rp.tree hc (Tp _)⟩⟩
 obtain⟨r,h1,p,rfl,h2⟩:=key;rcases h2 with⟨id,cs,rfl,hP,-⟩|⟨t,cs,rfl,ht,hr⟩
 ·exact hP.elim
 ·have:t=0:=by omega
  subst this;obtain⟨a',b',rfl,hR',hN'⟩:=fm.1 hr;exact⟨a',b',h1,hR',hN'⟩
theorem wP(fo l sz i off:Nat)(rows:List (List AV)):J6 fo (.tptr l sz rows i off)=.val (.tptr l sz rows i (off+fo)):=rfl
theorem Ng{d id:Nat}{c:Int}{pa ra:AV}{rws:List (List Int)}{g0:G}{K:AV->G->Prop}(hra:SlR NoP 0 .nil rws ra)(J:Nat->H->Prop)(E:G->Prop)
  (step:∀(j:Nat) (r:List Int) (z:AV) (g:G) (K':AV->G->Prop) (D:ADf->Prop),rws[j]?=some r->SlR NoP 0 .nil r z->g0.nx<=g.nx->J j g.h ->
   (∀g',J (j+1) g'.h->g.nx<=g'.nx->K' (.bool true) g')->(∀g',E g'->K' (.bool false) g')->(cz (I C0) d id [.int .i64 (j:Int),z] g).sat K' g D)
  (h0:J 0 g0.h) (fin:∀g',J rws.length g'.h->g0.nx<=g'.nx->K (.tup []) g') (finE:∀g',E g'->K (.tup []) g') :
  wp C0 d none fX.code (fnQ C0 d fX.res K) (cy 0 [.yld id,.tptr 0 3 [[.int .i64 c,pa,ra]] 0 0] .nil) [] g0:=by
 obtain⟨rr,s1,s2,s3,s4⟩:=Ef hra;simp only[sz,simprocAttr,fX,q9,wP,eo,hra.len];refine aq (m:=rws.length) hra.1 (λj t df g=>df=[]/\St t [(0,.yld id),(6,ra)]/\J j g.h/\g0.nx<=g.nx) ⟨rfl,by simp[St,sx],h0,Tp _⟩ (by simp[sx]) (by simp[sx]) (by decide) (by rintro j t df g v s (rfl|rfl|rfl)<;>simp[St,sx]) ?_ ?_
 ·rintro j t df g hj ⟨rfl,⟨h0,h6,-⟩,hJ,hn⟩ h8 h7;obtain⟨r,hr,-,-⟩:=af hj;obtain⟨z,q2,q3,hz⟩:=s3 j r hr;have hry:=s4 (by omega);simp only[sz,simprocAttr,h0,h6,h8,s1,q2,q3];show (cz (I C0) d id [.int .i64 (j:Int),z] g).sat _ _ _;refine step j r z g _ _ hr hz hn hJ (λg' hJ' hn'=>?_) λg' hE=>?_
  ·simp only[sz,simprocAttr,h7,h8];simp[St,sx,h0,h6,hJ',TU hn hn']
  ·simp only[sz,simprocAttr];exact finE g' hE
 ·rintro t df g ⟨rfl,-,hJ,hn⟩;simp only[sx,↓reduceIte];exact fin g hJ hn
theorem G_:C0.ext N.Q7=none:=by kernel_rfl
structure RowQ (b:Nat) (g2 g3:G) (e:Ex) (A B:Prop):Prop where
 nx:g2.nx<=g3.nx
 fr:∀i,b<=i->i<g2.nx->g3.h.get i=g2.h.get i
 st:(e=.norm/\A)\/(e=.ret/\B)
theorem Gf{d nt y p q:Nat}{c:Int}{pa ra:AV}{rws:List (List Int)}{ca cb:SC}{Q:QT}{t:T}{g:G}(hra:SlR NoP 0 .nil rws ra)(hv:tat t y=.clo N.Q7 [] [.tptr 0 3 [[.int .i64 c,pa,ra]] 0 0])(hp:p<nt)(hq:q<nt)
  (J:Nat->H->Prop) (E:H->Prop) (hJ:∀j h h',(∀i,i<g.nx->h'.get i=h.get i)->J j h->J j h') (hE:∀h h',(∀i,i<g.nx->h'.get i=h.get i)->E h->E h') (h0:J 0 g.h)
  (step:∀(j:Nat) (r:List Int) (z:AV) (g1:G),rws[j]?=some r->SlR NoP 0 .nil r z->J j g1.h->g.nx+2<=g1.nx ->
   wp C0 d (some (g.nx+1)) ca (λe t1 df g1'=>e=.norm/\df=[]/\g1'=g1/\∀g2:G,g2.nx=g1.nx->(∀i,i≠g.nx+1->g2.h.get i=g1.h.get i) ->
    wp C0 d (some (g.nx+1)) cb (λe _ df g3=>df=[]/\RowQ g.nx g2 g3 e (J (j+1) g3.h) (E g3.h)) t1 [] g2)
    (fQ (fQ t p (.int .i64 (j:Int))) q z) [] g1)
  (fin:∀g',J rws.length g'.h->g.nx+2<=g'.nx->g'.h.get g.nx=.dfr true->Q .norm t [.mark g.nx] g')
  (finE:∀g',E g'.h->g.nx+2<=g'.nx->g'.h.get g.nx=.dfr true->Q .ret t [.mark g.nx] g') :
  wp C0 d none (.rng nt (.t y) [p,q] ca cb) Q t [] g:=by
 refine Bv (fn:=N.Q7) (first:=[]) (cap:=[.tptr 0 3 [[.int .i64 c,pa,ra]] 0 0]) (s:=fX) hv G_ BL (by simp[fX]) ?_;intro assign body ha hb;have e1:((g.new (.dfr true)).new (.loop nt t [p,q] assign body g.nx .ready none)).nx=g.nx+2:=by simp
 refine Ng (g0:=(g.new (.dfr true)).new (.loop nt t [p,q] assign body g.nx .ready none)) (id:=g.nx+1) hra
  (λj h=>J j h/\h.get g.nx=.dfr true/\h.get (g.nx+1)=.loop nt t [p,q] assign body g.nx .ready none)
  (λg'=>E g'.h/\g'.h.get g.nx=.dfr true/\g'.h.get (g.nx+1)=.loop nt t [p,q] assign body g.nx .done (some .ret)/\g.nx+2<=g'.nx) ?_ ?_ ?_ ?_
 ·rintro j r z g1 K' D hr hz hn ⟨a1,a2,a3⟩ kk kE;rw[e1]at hn;refine KF a3 ha hb (t':=fQ (fQ t p (.int .i64 (j:Int))) q z) ?_ ?_
  ·simp only[cV,aa,UF,TE hp,TE hq];rfl
  ·refine cR _ (step j r z g1 hr hz a1 (by omega)) ?_;rintro e t1 df g1' ⟨rfl,rfl,rfl,h⟩;refine⟨rfl,rfl,rfl,?_⟩;have hl:g.nx+1<g1'.nx:=by omega
   refine cR _ (h (g1'.put (g.nx+1) (.loop nt t [p,q] assign body g.nx .busy none)) (by simp) (λi hi=>by simp[Q_,hi])) ?_;rintro e t2 df g3 ⟨rfl,⟨b2,b3,b1⟩⟩;have b4:g3.h.get (g.nx+1)=.loop nt t [p,q] assign body g.nx .busy none:=by rw[b3 _ (by omega) (by simpa using hl)];simp[Q_]
   have b5:g3.h.get g.nx=.dfr true:=by rw[b3 _ (by omega) (by simp;omega)];simp[Q_,a2]
   refine⟨rfl,b4,?_⟩;rcases b1 with⟨rfl,b1⟩|⟨rfl,b1⟩
   ·refine .inl ⟨rfl,kk _ ⟨hJ _ g3.h _ (λi hi=>by simp[Q_,show ¬i=g.nx+1 by omega]) b1,?_,?_⟩ (by simpa using b2)⟩
    ·simp[Q_,b5]
    ·simp[Q_]
   ·refine .inr ⟨rfl,kE _ ⟨hE g3.h _ (λi hi=>by simp[Q_,show ¬i=g.nx+1 by omega]) b1,?_,?_,?_⟩⟩
    ·simp[Q_,b5]
    ·simp[Q_]
    ·simp at b2 ⊢;omega
 ·refine⟨hJ 0 g.h _ (λi hi=>?_) h0,?_,?_⟩
  ·simp[Q_,show ¬i=g.nx+1 by omega,show ¬i=g.nx by omega]
  ·simp[Q_]
  ·simp[Q_]
 ·rintro g' ⟨a1,a2,a3⟩ hn;rw[e1]at hn;refine⟨_,_,_,_,_,_,.inl ⟨a3,fin _ (hJ _ g'.h _ (λi hi=>by simp[Q_,show ¬i=g.nx+1 by omega]) a1) (by simpa using hn) ?_⟩⟩;simp[Q_,a2]
 ·rintro g' ⟨a1,a2,a3,hn⟩;refine⟨_,_,_,_,_,_,.inr ⟨a3,finE _ (hE g'.h _ (λi hi=>by simp[Q_,show ¬i=g.nx+1 by omega]) a1) (by simpa using hn) ?_⟩⟩;simp[Q_,a2]
abbrev NwM:Type:=Net×List Int×List Nat×List Int
theorem yP{P:Nat->Prop}{k:Nat}{h:H}{x:NwM}{cs:List AV}:Rp.rp P k h x cs↔∃a b c e,cs=[.int .i64 x.1.grain,a,b,c,e]/\SlR P k h x.1.nodes a/\SlR P k h x.2.1 b/\SlR P k h x.2.2.1 c/\SlR P k h x.2.2.2 e:=by
 constructor
 ·rintro⟨c1,c2,rfl,h1,c3,c4,rfl,⟨b,rfl,hb⟩,c5,c6,rfl,⟨c,rfl,hc⟩,⟨e,rfl,he⟩⟩;obtain⟨a,rfl,ha⟩:=fO.1 h1;exact⟨a,b,c,e,rfl,ha,hb,hc,he⟩
 ·rintro⟨a,b,c,e,rfl,ha,hb,hc,he⟩;exact⟨[_,a],[b,c,e],rfl,fO.2 ⟨a,rfl,ha⟩,[b],[c,e],rfl,⟨b,rfl,hb⟩,[c],[e],rfl,⟨c,rfl,hc⟩,⟨e,rfl,he⟩⟩
theorem Eq:∀{l:List Int},(∀x∈l,0<=x)->0<=l.sum
 |[],_=>by simp
 | x::l,h=>by have:=Eq (l:=l) λy hy=>h y (by simp[hy]);have:=h x (by simp);rw[V6];omega
theorem GA{l:List Int}(h:∀x∈l,0<=x)(j:Nat):(l.take j).sum<=l.sum:=by
 have:=Eq (l:=l.drop j) λx hx=>h x (Uj hx);have e:l.sum=(l.take j).sum+(l.drop j).sum:=by rw[<-List.sum_append,Us]
 omega
theorem AO:∀{l:List Int},(∀x∈l,0<=x)->∀x∈l,x<=l.sum
 |[],_,x,hx=>by simp at hx
 | y::l,h,x,hx=>by
  have h1:=Eq (l:=l) λz hz=>h z (by simp[hz]);have h2:=h y (by simp);rw[V6];rcases T3.1 hx with rfl|hx
  ·omega
  ·have:=AO (l:=l) (λz hz=>h z (by simp[hz])) x hx;omega
def S.Ss(gr:Int)(cs:List Int)(x:Node):Bool:=decide ((x.rows.length:Int)=S.Q5 (S.Q7 cs x.parents))&&x.rows.all (S.R_ gr x.card)
structure FJ (gr:Int) (r:List Int) (z:AV) (j:Nat) (t:T):Prop where
 st:St t [(2,.hptr 0 0 0 0),(3,.hptr 1 0 0 0),(4,.hptr 2 0 0 0),(9,z),(40,z),(10,.int .i64 (gr - (r.take j).sum))]
 nn:∀x∈r.take j,0<=x
 le:(r.take j).sum<=gr
theorem J9{d:Nat}{rd:Option Nat}{gr:Int}{r:List Int}{z:AV}{Q:QT}{t:T}{g:G}(hz:SlR NoP 0 .nil r z)(hg1:1<=gr/\gr<=60)
  (ht:St t [(2,.hptr 0 0 0 0),(3,.hptr 1 0 0 0),(4,.hptr 2 0 0 0),(9,z),(40,z),(10,.int .i64 gr)]) (h42:tat t 42=.int .i64 0) (h41:tat t 41=.int .i64 (r.length:Int)) (e2:g.h.get 2=We 1 [[.bool false]])
  (bad:∀t,(∀card,S.R_ gr card r=false)->Q .ret t [] (g.put 2 (We 1 [[.bool false]])))
  (fin:∀t,(∀x∈r,0<=x)->r.sum<=gr->St t [(2,.hptr 0 0 0 0),(3,.hptr 1 0 0 0),(4,.hptr 2 0 0 0),(9,z),(10,.int .i64 (gr - r.sum))]->Q (.exit 4) t [] g) :
  wpL (wp C0 d rd dW) Q t [] g:=by
 have rz:=λh=>(hz.tree (h':=h) (Tp 0)).ints;simp only[dW];refine aq (m:=r.length) hz.1 (λj t df g'=>df=[]/\g'=g/\FJ gr r z j t) ⟨rfl,rfl,by simpa using ht,by simp,by simp;omega⟩ h42 h41 (by decide)
  (by rintro j t df g v s (rfl|rfl|rfl) ⟨a1,a2,⟨b1,b2,b3,b4,b5,b6,-⟩,b7,b8⟩<;>exact⟨a1,a2,by simp[St,sx,b1,b2,b3,b4,b5,b6],b7,b8⟩) ?_ ?_
 ·rintro j t df g' hj ⟨rfl,rfl,⟨⟨h2,h3,h4,h9,h40,h10,-⟩,hnn,hle⟩⟩ h42 h41;obtain⟨y,hy,htk,hm⟩:=af hj;have u1:j<(r.map ci).length:=by simpa using hj
  have u2:(r.map ci)[j]?=some (ci y):=by rw[Tt,hy];rfl
  have hs0:=Eq hnn
  by_cases c1:y<0
  ·simp only[sz,simprocAttr,h4,h40,h42,rz,u1,u2,ci,c1,e2];exact bad _ (λcard=>by
    rw[<-UG,S.R_];simp only[Ts,TA,TC];rintro⟨⟨-,h⟩,-⟩;have:=h y hm;omega)
  ·by_cases c2:gr - (r.take j).sum<y
   ·simp only[sz,simprocAttr,h4,h40,h10,h42,rz,u1,u2,ci,c1,c2,e2];exact bad _ (λcard=>by
     rw[<-UG,S.R_];simp only[Ts,TA,TC];rintro⟨⟨-,h⟩,hs⟩;have h1:=GA (l:=r) (λx hx=>(h x hx).1) (j+1);rw[htk,xh]at h1;omega)
   ·have w1:IntKind.wrap .i64 (gr - (r.take j).sum - y)=gr - (r.take (j+1)).sum:=by rw[au (by omega) (by omega),htk,xh];omega
    simp only[sz,simprocAttr,h40,h10,h42,h41,rz,u1,u2,ci,c1,c2,w1];refine⟨by simp[St,sx,h2,h3,h4,h9,h40],λx hx=>?_,by rw[htk,xh];omega⟩;rw[htk]at hx;rcases Uf.1 hx with h|h
    ·exact hnn x h
    ·rw[Vk.1 h];omega
 ·rintro t df g' ⟨rfl,rfl,⟨⟨h2,h3,h4,h9,h40,h10,-⟩,hnn,hle⟩⟩;rw[TO]at hnn hle h10;exact fin t hnn hle ⟨h2,h3,h4,h9,h10,trivial⟩
structure FlJ (cs1 cs2:List AV) (gr card:Int) (rws:List (List Int)) (j:Nat) (h:H):Prop where
 a0:h.get 0=We 5 [cs1]
 a1:h.get 1=We 3 [cs2]
 a2:h.get 2=We 1 [[.bool false]]
 all:∀r∈rws.take j,S.R_ gr card r=true
structure FlE (gr card:Int) (rws:List (List Int)) (h:H):Prop where
 a2:h.get 2=We 1 [[.bool false]]
 ex:∃r∈rws,S.R_ gr card r=false
theorem J_{d k1 k2:Nat}{g:G}{P1 P2:Nat->Prop}{v w:AV}{m:NwM}{x:Node}(hd:0<d)(hm:Agg m P1 k1 g.h v)(hx:Agg x P2 k2 g.h w)(hk:k2=0/\P2=NoP)(hg1:1<=m.1.grain/\m.1.grain<=60)(hc:∀c∈m.2.1,1<=c/\c<=4)
  (hp:∀p∈x.parents,0<=p/\p<m.2.1.length) (hpl:x.parents.length<=8):an C0 d N.Rr [v,w] g=.val (.bool (S.Ss m.1.grain m.2.1 x)):=by
 obtain⟨rfl,rfl⟩:=hk;obtain⟨v',e1,cs,rfl,hcs⟩:=eZ (bz m) (by decide) d hm;obtain⟨nb,cb,sb,ob,rfl,-,hcb,-,-⟩:=yP.1 hcs;have e2:=cW d hx;obtain⟨cs2,rfl,hcs2⟩:=hx;obtain⟨pa,ra,rfl,hpa,hra⟩:=fm.1 hcs2;have hcs2':∀h,Agg x NoP 0 h (.agg [.int .i64 x.card,pa,ra]):=λh=>⟨_,rfl,Rp.tree hcs2 (Tp _)⟩;have hra:=hra.tree (h':=.nil) (Tp 0);have rp:=λh=>(hpa.tree (h':=h) (Tp 0)).ints;have rc:=λh=>(hcb.tree (h':=h) (Tp _)).ints;have pl:=λg=>(hpa.tree (h':=.nil) (Tp 0)).len g;have rl:=λg=>hra.len g;rw[pB];refine eR rN (xs:=[.agg [.int .i64 m.1.grain,nb,cb,sb,ob],.agg [.int .i64 x.card,pa,ra]]) (by simp only[aK,e1,e2]) (by simp[fG]) hd ?_;simp only[sz,simprocAttr,fG];obtain⟨g0,hg0⟩:∃g0,g0=((G.empty.new (We 5 [[.int .i64 m.1.grain,nb,cb,sb,ob]])).new (We 3 [[.int .i64 x.card,pa,ra]])).new (We 1 [[.bool false]]):=⟨_,rfl⟩;rw[<-hg0];have f0:g0.h.get 0=We 5 [[.int .i64 m.1.grain,nb,cb,sb,ob]]:=by rw[hg0];simp[sx,Q_]
 have f1:g0.h.get 1=We 3 [[.int .i64 x.card,pa,ra]]:=by rw[hg0];simp[sx,Q_]
 have f2:g0.h.get 2=We 1 [[.bool false]]:=by rw[hg0];simp[sx]
 have f3:g0.nx=3:=by rw[hg0];simp[sx]
 clear hg0;simp only[sz,simprocAttr,jf,f1,pl,iz];refine aq (m:=x.parents.length) (by omega) (λj t df g=>df=[]/\g=g0/\St t [(2,.hptr 0 0 0 0),(3,.hptr 1 0 0 0),(4,.hptr 2 0 0 0),(14,pa),(5,.int .i64 (S.Q5 (S.Q7 m.2.1 (x.parents.take j))))])
  ⟨rfl,rfl,by simp[St,sx,S.Q5,S.Q7]⟩ (by simp[sx]) (by simp[sx]) (by decide) (by rintro j t df g v s (rfl|rfl|rfl)<;>simp[St,sx]) ?_ ?_
 ·rintro j t df g hj ⟨rfl,rfl,⟨h2,h3,h4,h14,h5,-⟩⟩ h16 h15;obtain⟨p,hpj,htk,hm2⟩:=af hj;obtain⟨p0,p1⟩:=hp p hm2;obtain⟨p,rfl⟩:=Ty p0;have hpl2:p<m.2.1.length:=by omega
  have u1:j<(x.parents.map ci).length:=by simpa using hj
  have u2:(x.parents.map ci)[j]?=some (ci (p:Int)):=by rw[Tt,hpj];rfl
  have u3:p<(m.2.1.map ci).length:=by simpa using hpl2
  have u4:(m.2.1.map ci)[p]?=some (ci m.2.1[p]):=by rw[Tt,Tn hpl2];rfl
  have e3:S.Q5 (S.Q7 m.2.1 (x.parents.take (j+1)))=S.Q5 (S.Q7 m.2.1 (x.parents.take j))*m.2.1[p]:=by rw[htk,bU,nL];congr 1;simp[S.Q7,S.Q5,Tn hpl2]
  have hpb:=ba (l:=S.Q7 m.2.1 (x.parents.take (j+1))) (bG hc λq hq=>hp q (Uc hq));have hp4:=bI (a:=(S.Q7 m.2.1 (x.parents.take (j+1))).length) (b:=8) (by simp[S.Q7];omega);have h48:(4:Int) ^ 8=65536:=by decide
  have w1:IntKind.wrap .i64 (S.Q5 (S.Q7 m.2.1 (x.parents.take j))*m.2.1[p])=S.Q5 (S.Q7 m.2.1 (x.parents.take (j+1))):=by rw[<-e3,au (by omega) (by omega)]
  simp only[sz,simprocAttr,h2,h14,h5,h16,h15,f0,rp,rc,u1,u2,u3,u4,ci,w1];simp[St,sx,h2,h3,h4,h14]
 rintro t df g ⟨rfl,rfl,⟨h2,h3,h4,h14,h5,-⟩⟩;rw[TO]at h5;simp only[iC]
 by_cases c1:(x.rows.length:Int)=S.Q5 (S.Q7 m.2.1 x.parents)
 ·obtain⟨pa',ra',er,hpa',hra'⟩:=AQ (d:=d+1) (g:=g) (TG d) (hcs2' g.h);refine iZ (P:=λt' df g'=>df=[]/\g'=g/\St t' [(2,.hptr 0 0 0 0),(3,.hptr 1 0 0 0),(4,.hptr 2 0 0 0)]) ?_ ?_
  ·simp only[sz,simprocAttr,h3,h5,f1,rl,c1];simp[St,sx,h2,h3,h4]
  clear h2 h3 h4 h5 h14;rintro t df g ⟨rfl,rfl,h2,h3,h4,-⟩;rw[dK,dK];simp only[sz,simprocAttr,h3,f1,er];refine Gf (c:=x.card) (pa:=pa') hra' (by simp[sx]) (by decide) (by decide)
   (FlJ [.int .i64 m.1.grain,nb,cb,sb,ob] [.int .i64 x.card,pa,ra] m.1.grain x.card x.rows)
   (FlE m.1.grain x.card x.rows) ?_ ?_ ⟨f0,f1,f2,by simp⟩ ?_ ?_ ?_
  ·rintro j h h' hh ⟨a0,a1,a2,a3⟩;exact⟨by rw[hh 0 (by omega),a0],by rw[hh 1 (by omega),a1],by rw[hh 2 (by omega),a2],a3⟩
  ·rintro h h' hh ⟨a2,a3⟩;exact⟨by rw[hh 2 (by omega),a2],a3⟩
  ·rintro j r z g1 hr hz ⟨a0,a1,a2,a3⟩ hn;obtain⟨r',hr',htk,hrm⟩:=af (l:=x.rows) (j:=j) (Tu.1 hr).1;rw[hr]at hr';injection hr' with hr';subst hr';simp only[sz,simprocAttr,iy];intro g2 hg2n hg2;have b0:g2.h.get 0=We 5 [[.int .i64 m.1.grain,nb,cb,sb,ob]]:=by rw[hg2 0 (by omega),a0]
   have b1:g2.h.get 1=We 3 [[.int .i64 x.card,pa,ra]]:=by rw[hg2 1 (by omega),a1]
   have b2:g2.h.get 2=We 1 [[.bool false]]:=by rw[hg2 2 (by omega),a2]
   simp only[sz,simprocAttr,iA,h2,b0,hz.len];refine J9 (gr:=m.1.grain) (r:=r) (z:=z) hz hg1 (by simp[St,sx,h2,h3,h4]) (by simp[sx]) (by simp[sx]) b2 ?_ ?_
   ·rintro t hrow;simp only[sx,sy];exact⟨by simp,λi h1 h2=>by simp[Q_,show ¬i=2 by omega],.inr ⟨rfl,by simp[Q_],r,hrm,hrow _⟩⟩
   ·rintro t hnn hle ⟨h2,h3,h4,h9,h10,-⟩;have hzl:=λg=>hz.len g
    by_cases c2:(r.length:Int)=x.card
    ·by_cases c3:m.1.grain - r.sum=0
     ·simp only[sz,simprocAttr,cD,h3,h9,h10,hzl,b1,c2,c3];refine⟨Tp _,λi _ _=>rfl,.inl ⟨rfl,b0,b1,b2,λy hy=>?_⟩⟩;rw[htk]at hy;rcases Uf.1 hy with h|h
      ·exact a3 y h
      ·rw[Vk.1 h,S.R_];simp only[Ts,TA,TC];exact⟨⟨c2,λq hq=>⟨hnn q hq,by have:=AO hnn q hq;omega⟩⟩,by omega⟩
     ·have hro:S.R_ m.1.grain x.card r=false:=by rw[S.R_];simp;intros;omega
      simp only[sz,simprocAttr,cD,h3,h4,h9,h10,hzl,b1,b2,c2,c3];exact⟨by simp,λi h1 h2=>by simp[Q_,show ¬i=2 by omega],.inr ⟨rfl,by simp[Q_],r,hrm,hro⟩⟩
    ·have hro:S.R_ m.1.grain x.card r=false:=by rw[S.R_];simp[c2]
     simp only[sz,simprocAttr,cD,h3,h4,h9,hzl,b1,b2,c2];exact⟨by simp,λi h1 h2=>by simp[Q_,show ¬i=2 by omega],.inr ⟨rfl,by simp[Q_],r,hrm,hro⟩⟩
  ·rintro g' ⟨a0,a1,a2,a3⟩ hn hdf;rw[TO]at a3;have hok:S.Ss m.1.grain m.2.1 x=true:=by rw[S.Ss,TC.2 a3];simp[c1]
   simp only[sz,simprocAttr,iB,h4,a2];refine fW (by simp[Q_,show ¬g.nx=2 by omega,hdf]) ?_;simp only[sx,sy,↓reduceIte,Nat.reduceEqDiff,h4,hok];simp[show ¬(2=g.nx) by omega]
   rfl
  ·rintro g' ⟨a2,r,hr,hro⟩ hn hdf;have hok:S.Ss m.1.grain m.2.1 x=false:=by
    rw[S.Ss];have:x.rows.all (S.R_ m.1.grain x.card)=false:=by rw[<-UG,TC];intro h;rw[h r hr]at hro;cases hro
    rw[this,VC]
   simp only[sx];refine fW hdf ?_;simp only[sx,sy,↓reduceIte,Nat.reduceEqDiff,h4,hok];rw[TF (by omega),a2]
   rfl
 ·simp only[sz,simprocAttr,h3,h4,h5,f1,f2,rl,c1];rw[S.Ss];simp[c1]
end
end Hx
end
