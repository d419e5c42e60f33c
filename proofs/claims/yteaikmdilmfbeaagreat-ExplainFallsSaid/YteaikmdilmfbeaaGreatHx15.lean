/- A part of the proof: an interpreter over abstract values, shown right against the model, and what the functions of the chapter compute on it. -/
import Derived.OpenShut
import Derived.DataReads
import Derived.Test.YteaikmdilmfbeaaGreatHx14
set_option linter.unusedVariables false
set_option linter.unusedSimpArgs false
set_option linter.unnecessarySimpa false
section
namespace Hx
open Go
noncomputable section
structure RtH (l W:List Int) (C:AV) (V:Nat->AV) (E:Nat->En) (g:G):Prop where
 hp:Hp g 2 K4 V E
 v0:V 0=.hptr 2 0 0 0
 e0:E 0=.bx [V 1,C,V 3]
 e1:E 1=.sl 1 (l.map ci)
 e3:E 3=.sl 1 (W.map ci)
theorem DZ {d k:Nat}{P:Nat->Prop}{g:G}{l:List Int}{v:AV}{K:AV->G->Prop}{D:ADf->Prop}(hv:SlR P k g.h l v)(hP:∀i,P i->i<g.nx)(hl2:l.length<=1000)(kk:∀u g',Own g' g.nx u 1 (l.map ci)->Fr g g'->(∀i∈g'.lg,i∈g.lg\/g.nx<=i)->K u g') :
  (ax C0 d N.ap [v] g).sat K g D:=by
 rw[gn];refine yF iK (by simp[bg]) ?_
 by_cases hn:v=.nils
 ·subst hn;have hl:l=[]:=by have h:=hv.2;unfold SlV at h;exact h
  have hne:Bq false .slice .nils .nils=.val (.bool true):=rfl;simp only[sz,simprocAttr,bg,hne];exact kk _ _ (.inl ⟨rfl,by rw[hl];rfl⟩) (Fr.refl g) λi hi=>.inl hi
 ·have hne:Bq false .slice v .nils=.val (.bool false):=by
   have h:=hv.2;unfold SlV at h
   split at h
   ·exact absurd rfl hn
   ·rfl
   ·rfl
   ·rfl
   ·exact h.elim
  simp only[sz,simprocAttr,bg,hne];refine cx (b:=g.nx) (v:=.hsl g.nx 0 0 0 none) (rows:=[]) (new:=l.map ci) (.inr ⟨g.nx,0,false,Nat.le_refl _,by simp,rfl,by simp[H.get_put]⟩) ?_ (by simp) (by simp[aQ];omega) λu g1 hu n1 f1 _ l1=>?_
  ·refine SlR.ints (P:=P) (k:=k) (hv.far8 λi hi=>?_);have:=hP i hi;simp[H.get_put,show ¬i=g.nx by omega]
  ·simp only[sz,simprocAttr];refine kk u g1 (by simpa using hu) ⟨by simp at n1;omega,λi hi=>by rw[f1 i (by simp;omega) (by simp[vid];omega)];simp[H.get_put,show ¬i=g.nx by omega]⟩ λi hi=>?_;rcases l1 i hi with h | h
   ·simp at h;rcases h with rfl | h
    ·exact .inr (Nat.le_refl _)
    ·exact .inl h
   ·exact .inr h
def LF (p7:Nat)(lw ew vw u kv:AV)(la b:Int)(j:Nat):List (Nat×AV):=[(2,lw),(7,.hptr p7 0 0 0),(8,ew),(9,vw),(10,u),(11,.int .i64 la),(12,.int .i64 (j:Int)),(13,.int .i64 b),(15,kv)]
theorem Fd {e vars l:List Int}{i p:Nat}{x:Int}(hp:vars[i]?=some (p:Int))(hx:l[i]?=some x):S.aS e vars l (i+1)=(S.aS e vars l i&&(decide (e[p]?.getD 0<0) || decide (e[p]?.getD 0=x))):=by rw[S.aS,cw,hp,hx];simp[S.aS]
theorem Kv {p7 j0 B kk:Nat}{n:Net}{e vars bl:List Int}{lw ew vw u kv:AV}{la b:Int}{P:Nat->Prop}{Q:QT}{t:T}{g:G}(hp:S.au vars (n.nodes.length:Int)=true)(hel:e.length=n.nodes.length)(hvl:vars.length<=8)(hbl:bl.length<=vars.length)
  (hv:SlR NoP 0 .nil vars vw) (hu:SlR P kk g.h bl u) (hP:∀i,P i->vid kv≠some i) (hk:Own g B kv 1 (e.map ci))
  (ht:St t ((67,u)::LF p7 lw ew vw u kv la b j0)) (h16:tat t 16=.bool true) (h69:tat t 69=.int .i64 0) (h68:tat t 68=.int .i64 (bl.length:Int))
  (fin:∀t g',St t ((16,.bool (S.aS e vars bl bl.length))::LF p7 lw ew vw u kv la b j0)->Own g' B kv 1 ((S.aH e vars bl bl.length).map ci)->g.nx<=g'.nx->(∀i,vid kv≠some i->g'.h.get i=g.h.get i)->Q (.exit 2) t [] g'):wpL (wp C0 1 none dc) Q t [] g:=by
 have rv:=λh=>(hv.tree (h':=h) (Nat.le_refl _)).ints;simp only[dc];refine aI (m:=bl.length) (by omega) (λi t df g'=>df=[]/\St t ((67,u)::(16,.bool (S.aS e vars bl i))::LF p7 lw ew vw u kv la b j0)/\Own g' B kv 1 ((S.aH e vars bl i).map ci)/\g.nx<=g'.nx/\(∀i,vid kv≠some i->g'.h.get i=g.h.get i)) ⟨rfl,?_,hk,Nat.le_refl _,λ_ _=>rfl⟩ h69 h68 (by decide) ?_ ?_ ?_
 ·obtain ⟨b0,b1,b2,b3,b4,b5,b6,b7,b8,b9,-⟩:=ht;simp[St,LF,b0,b1,b2,b3,b4,b5,b6,b7,b8,b9,h16,S.aS]
 ·rintro i t df g v s (rfl | rfl | rfl) ⟨a1,⟨b0,b1,b2,b3,b4,b5,b6,b7,b8,b9,b10,-⟩,c⟩<;>exact ⟨a1,by simp[St,LF,sx,b0,b1,b2,b3,b4,b5,b6,b7,b8,b9,b10],c⟩
 ·clear ht h16 h69 h68;rintro i t df g1 hi ⟨rfl,⟨h67,h16,h2,h7,h8,h9,h10,h11,h12,h13,h15,-⟩,ho,hn,hf⟩ h69 h68;obtain ⟨x,hx,-,-⟩:=ac hi;obtain ⟨y,hy,-,hm⟩:=ac (l:=vars) (j:=i) (by omega);obtain ⟨y0,y1⟩:=bp hp y hm;obtain ⟨q,rfl⟩:=Int.eq_ofNat_of_zero_le y0;have ru:=(hu.far8 (h':=g1.h) λk hk=>hf k (hP k hk)).ints;have rk:=ho.rows;have u1:i<(bl.map ci).length:=by simpa using hi
  have u2:(bl.map ci)[i]?=some (ci x):=by rw[List.getElem?_map,hx];rfl
  have v1:i<(vars.map ci).length:=by rw[List.length_map];omega
  have v2:(vars.map ci)[i]?=some (ci (q:Int)):=by rw[List.getElem?_map,hy];rfl
  have hq:=Gw (l:=bl) hp (by rw[hel]) hy;obtain ⟨z,hz,-,-⟩:=ac (l:=e) (j:=q) (by omega);rw[hz] at hq;have k1:q<((S.aH e vars bl i).map ci).length:=by rw[List.length_map,nM];omega
  have k2:((S.aH e vars bl i).map ci)[q]?=some (ci z):=by rw[List.getElem?_map,hq];rfl
  have hag:=Fd (e:=e) hy hx;rw[hz,Option.getD_some] at hag;have hset:((S.aH e vars bl i).map ci).set q (ci x)=(S.aH e vars bl (i+1)).map ci:=by rw[<-List.map_set,S.aH,hy,hx];rfl
  refine dM (P:=λt' df g2=>df=[]/\g2=g1/\St t' ((17,.int .i64 (i:Int))::(18,.int .i64 x)::(67,u)::(68,.int .i64 (bl.length:Int))::(69,.int .i64 (i:Int))::(16,.bool (S.aS e vars bl i))::LF p7 lw ew vw u kv la b j0)) ?_ ?_
  ·simp only[sz,simprocAttr,h67,h69,ru,u1,u2,ci];simp[St,LF,sx,h67,h16,h2,h7,h8,h9,h10,h11,h12,h13,h15,h68,h69]
  clear h67 h16 h2 h7 h8 h9 h10 h11 h12 h13 h15 h68 h69;rintro t df g2 ⟨rfl,rfl,h17,h18,h67,h68,h69,h16,h2,h7,h8,h9,h10,h11,h12,h13,h15,-⟩;refine dM (P:=λt' df g3=>df=[]/\g3=g2/\St t' ((17,.int .i64 (i:Int))::(18,.int .i64 x)::(67,u)::(68,.int .i64 (bl.length:Int))::(69,.int .i64 (i:Int))::(16,.bool (S.aS e vars bl (i+1)))::LF p7 lw ew vw u kv la b j0)) ?_ ?_
  ·rw[hag];cases c:S.aS e vars bl i with
   | false =>
    rw[c] at h16;simp only[sz,simprocAttr,h16];simp[St,LF,sx,h17,h18,h67,h2,h7,h8,h9,h10,h11,h12,h13,h15,h68,h69]
   | true =>
    rw[c] at h16
    by_cases c1:z<0
    ·simp only[sz,simprocAttr,h16,h15,h9,h17,rv,v1,v2,ci,rk,k1,k2,c1];simp[St,LF,sx,h17,h18,h67,h2,h7,h8,h9,h10,h11,h12,h13,h15,h68,h69]
    ·by_cases c2:z=x
     ·subst c2;simp only[sz,simprocAttr,h16,h15,h9,h17,h18,rv,v1,v2,ci,rk,k1,k2,c1];simp[St,LF,sx,h17,h18,h67,h2,h7,h8,h9,h10,h11,h12,h13,h15,h68,h69]
     ·simp only[sz,simprocAttr,h16,h15,h9,h17,h18,rv,v1,v2,ci,rk,k1,k2,c1,c2];simp[St,LF,sx,h17,h18,h67,h2,h7,h8,h9,h10,h11,h12,h13,h15,h68,h69]
  clear h67 h16 h2 h7 h8 h9 h10 h11 h12 h13 h15 h68 h69 h17 h18;rintro t df g3 ⟨rfl,rfl,h17,h18,h67,h68,h69,h16,h2,h7,h8,h9,h10,h11,h12,h13,h15,-⟩;simp only[sz,simprocAttr,h15,h9,h17,h18,rv,v1,v2,ci,rk,k1];refine bB (v:=kv) (sz:=1) (n:=1) (i:=q) (off:=0) (x:=.int .i64 x) (row:=ci z) (row':=ci x) ho k2 rfl rfl rfl λg4 o4 n4 f4=>?_;rw[hset] at o4;simp only[sz,simprocAttr];exact ⟨⟨by simp[St,LF,sx,h67,h16,h2,h7,h8,h9,h10,h11,h12,h13,h15],o4,by omega,λk hk=>by rw[f4 k hk,hf k hk]⟩,by simp[sx,h69],by simp[sx,h68]⟩
 ·rintro t df g' ⟨rfl,⟨-,ht⟩,ho,hn,hf⟩;exact fin t g' ht ho hn hf
theorem Fh {n:Net}{vars bl:List Int}{p:Nat}{x c:Int}(hb:S.aG n vars bl=true)(hj:vars[bl.length]?=some (p:Int))(hc:(S.ac n)[p]?=some c)(h0:0<=x)(h1:x<c):S.aG n vars (bl++[x])=true:=by
 rw[S.aG,Bool.and_eq_true] at hb ⊢;have hl:=(List.getElem?_eq_some_iff.1 hj).1;refine ⟨decide_eq_true (by simp;omega),List.all_eq_true.2 λi hi=>?_⟩;have hi:=List.mem_range.1 hi;rw[List.length_append,List.length_singleton] at hi
 by_cases e:i<bl.length
 ·have:=List.all_eq_true.1 hb.2 i (List.mem_range.2 e);simpa [S.bj,List.getElem?_append_left e] using this
 ·have:i=bl.length:=by omega
  subst this;simp[S.bj,S.aa,hj,hc,h0,h1]
theorem HN {n:Net}{vars bl:List Int}(hb:S.aG n vars bl=true):bl.length<=vars.length:=by rw[S.aG,Bool.and_eq_true] at hb;exact of_decide_eq_true hb.1
theorem JH {n:Net}{vars bl:List Int}(hb:S.aG n vars bl=true):∀x∈bl,0<=x:=by intro x hx;obtain ⟨i,hi,rfl⟩:=List.mem_iff_getElem.1 hx;rw[S.aG,Bool.and_eq_true] at hb;have:=List.all_eq_true.1 hb.2 i (List.mem_range.2 hi);simp only[S.bj,Bool.and_eq_true,decide_eq_true_eq,List.getElem?_eq_getElem hi,Option.getD_some] at this;exact this.1
theorem Kx {p7 j B:Nat}{n:Net}{e vars bl:List Int}{us:List UInt8}{lw ew vw u kv b7:AV}{la b:Int}{Q:QT}{t:T}{g:G}(hr:NR n)(hm:∀h,Agg n NoP 0 h (.agg [.int .i64 n.grain,b7]))(hN:SlR NoP 0 .nil n.nodes b7)(hus:SlR NoP 0 .nil us lw)(hv:SlR NoP 0 .nil vars vw)(hp:S.au vars (n.nodes.length:Int)=true)(hev:S.aD n e=true)(hvl:vars.length<=8)(hbj:bl.length=j)(hb:S.aG n vars bl=true)
  (g7:g.h.get p7=.cells 2 [[.int .i64 n.grain,b7]] 0 false false) (ho:Own g B u 1 (bl.map ci)) (hk:Own g B kv 1 ((S.aH e vars bl bl.length).map ci)) (hB:p7<B) (hBn:B<=g.nx)
  (hbv:b=S.aU n e vars (S.ax n vars) bl)
  (ht:St t ((16,.bool (S.aS e vars bl bl.length))::LF p7 lw ew vw u kv la b j))
  (fin:∀t g' bl' u',St t [(2,lw),(7,.hptr p7 0 0 0),(8,ew),(9,vw),(10,u'),(11,.int .i64 b),(12,.int .i64 (j:Int))]->S.aG n vars bl'=true->bl'.length=min (j+1) vars.length->bl'.take j=bl->Own g' B u' 1 (bl'.map ci)->g.nx<=g'.nx->(∀i,i<B->g'.h.get i=g.h.get i)->Q .norm t [] g'):wp C0 1 none di Q t [] g:=by
 have hjl:=HN hb;rw[hbj] at hjl;have hel:=(pg hev).1;have hek:=FD hp hev hb;have hnr:=dI.2 hr;have hrf:S.aB n (S.aH e vars bl bl.length)=0:=js.2 ⟨hnr,hek⟩;have lv:=(hv.tree (h':=.nil) (Nat.le_refl 0)).len;have rv:=λh=>(hv.tree (h':=h) (Nat.le_refl _)).ints;have lU:=(hus.tree (h':=.nil) (Nat.le_refl 0)).len;obtain ⟨ur,ur1,ur2,ur3,ur4⟩:=hus.all;have ur1:∀h',ae h' 1 lw=some ur:=ur1;have hks:SlR (λi=>vid kv=some i) 0 g.h (S.aH e vars bl bl.length) kv:=hk.sl (α:=Int) (by rw[nM];have:=hr.l2;omega) (All2.of_map (λa=>aF.2 rfl) _) λi hi=>hi;have kM:=Gp (d:=1) (g:=g) (by decide) (hm g.h) hks;rw[hrf] at kM;simp only[di];refine dM (P:=λt' df g'=>df=[]/\g'=g/\St t' ((19,.int .i64 (S.bm n (S.aH e vars bl bl.length)))::(20,.int .i64 0)::(16,.bool (S.aS e vars bl bl.length))::LF p7 lw ew vw u kv la b j)) ?_ ?_
 ·obtain ⟨h16,h2,h7,h8,h9,h10,h11,h12,h13,h15,-⟩:=ht;simp only[sz,simprocAttr,h7,h15,g7,Ku,kM];simp[St,LF,sx,h16,h2,h7,h8,h9,h10,h11,h12,h13,h15]
 clear ht;rintro t df g' ⟨rfl,rfl,h19,h20,h16,h2,h7,h8,h9,h10,h11,h12,h13,h15,-⟩;refine gY (P:=λt' df g2=>df=[]/\g2=g'/\St t' ((16,.bool (S.aS e vars bl bl.length))::LF p7 lw ew vw u kv la b j)) ?_ ?_
 ·cases ca:S.aS e vars bl bl.length with
  | false =>
   have hb0:b=0:=by rw[hbv];exact EI hr hp hel (by omega) ca
   rw[ca] at h16
   by_cases cj:j=vars.length
   ·have cj':(j:Int)=(vars.length:Int):=by omega
    simp only[sz,simprocAttr,h20,h16,h13,h12,h9,lv,hb0,cj'];simp[St,LF,sx,h16,h2,h7,h8,h9,h10,h11,h12,h13,h15,hb0,cj]
   ·have cj':¬(j:Int)=(vars.length:Int):=by omega
    simp only[sz,simprocAttr,h20,h16,h13,h12,h9,lv,hb0,cj'];simp[St,LF,sx,h16,h2,h7,h8,h9,h10,h11,h12,h13,h15,hb0]
  | true =>
   rw[ca] at h16
   by_cases cj:j=vars.length
   ·have cj':(j:Int)=(vars.length:Int):=by omega
    have hbm:S.bm n (S.aH e vars bl bl.length)=b:=by rw[hbv,G0 hr hp (by omega),S.bm,if_pos hrf,As];exact wD λw _=>J0 hp hel (by omega) (JH hb) ca w
    rw[hbm] at h19;simp only[sz,simprocAttr,h20,h16,h13,h12,h9,h19,lv,cj'];simp[St,LF,sx,h16,h2,h7,h8,h9,h10,h11,h12,h13,h15,cj]
   ·have cj':¬(j:Int)=(vars.length:Int):=by omega
    simp only[sz,simprocAttr,h20,h16,h13,h12,h9,lv,cj'];simp[St,LF,sx,h16,h2,h7,h8,h9,h10,h11,h12,h13,h15]
 clear h19 h20 h16 h2 h7 h8 h9 h10 h11 h12 h13 h15;rintro t df g2 ⟨rfl,rfl,h16,h2,h7,h8,h9,h10,h11,h12,h13,h15,-⟩
 by_cases cj:j<vars.length
 ·have cj':(j:Int)<(vars.length:Int):=by omega
  obtain ⟨y,hy,-,hm'⟩:=ac cj;obtain ⟨y0,y1⟩:=bp hp y hm';obtain ⟨pn,nd,rows,pa,ra,rfl,hnd,r1,r2,r3,r4,hnm,r5⟩:=uh hN y0 y1;have hcard:=hr.card nd hnm;have v1:j<(vars.map ci).length:=by rw[List.length_map];omega
  have v2:(vars.map ci)[j]?=some (ci (pn:Int)):=by rw[List.getElem?_map,hy];rfl
  have app:∀(x:Int) (t:T),0<=x->x<nd.card->St t ((21,.int .i64 x)::[(2,lw),(7,.hptr p7 0 0 0),(8,ew),(9,vw),(10,u),(11,.int .i64 b),(12,.int .i64 (j:Int))])->wp C0 1 none dh Q t [] g2:=by
   rintro x t h0 h1 ⟨h21,h2,h7,h8,h9,h10,h11,h12,-⟩;simp only[dh,sz,simprocAttr,h10,h21];refine cx (ho.fr (g':=_) (by simp<;>omega) (λi hi=>?_)) (new:=[[.int .i64 x]]) ?_ (by simp<;>omega) (by simp[aQ]<;>omega) λv5 g5 o5 n5 f5 w5 _=>?_
   ·have:=ho.lt hi;simp[H.get_put];omega
   ·simp[ae,H.get_put];rfl
   ·simp only[sz,simprocAttr];refine fin _ g5 (bl++[x]) v5 (by simp[St,sx,h2,h7,h8,h9,h11,h12]) (Fh hb (by rw[hbj];exact hy) r5 h0 h1) (by simp;omega) (by rw[<-hbj];simp) ?_ ?_ λi hi=>?_
    ·rw[List.map_append];exact o5
    ·simp at n5;omega
    ·rw[f5 i (by simp;omega) λh=>by have:=ho.lt h;omega];rw[G.new_h,aq _ _ _ (by omega)]
  by_cases cu:0<us.length
  ·have cu':(0:Int)<(us.length:Int):=by omega
   have hmod:=Nat.mod_lt j cu;obtain ⟨q,hq,-,-⟩:=ac (l:=us) (j:=j % us.length) hmod;obtain ⟨row,ur5,ur6⟩:=ur3 (j % us.length) q hq;have ur6:=fC.1 ur6;subst ur6;have u1:j % us.length<ur.length:=by omega
   have hq8:q.toNat<256:=q.toNat_lt;have w0:cy .rem (.int .i64 (j:Int)) (.int .i64 (us.length:Int))=.val (.int .i64 ((j % us.length:Nat):Int)):=ul cu;have w1:IntKind.wrap .i64 (q.toNat:Int)=(q.toNat:Int):=aB (by omega) (by omega);have w2:cy .rem (.int .i64 (q.toNat:Int)) (.int .i64 nd.card)=.val (.int .i64 ((q.toNat:Int) % nd.card)):=Fl (by omega) (by omega) (by omega);have m0:0<=(q.toNat:Int) % nd.card:=Int.emod_nonneg _ (by omega);have m1:(q.toNat:Int) % nd.card<nd.card:=Int.emod_lt_of_pos _ (by omega);simp only[sz,simprocAttr,h2,h7,h9,h12,h13,lv,cj',lU,cu',g7,KV,ur1,u1,ur5,w0,w1,w2,rv,v1,v2,ci,r1,r2,r3,r4];exact app _ _ m0 m1 (by simp[St,sx,h2,h7,h8,h9,h10,h12])
  ·have cu':¬(0:Int)<(us.length:Int):=by omega
   simp only[sz,simprocAttr,h2,h7,h9,h12,h13,lv,cj',lU,cu'];exact app _ _ (Int.le_refl 0) (by omega) (by simp[St,sx,h2,h7,h8,h9,h10,h12])
 ·have cj':¬(j:Int)<(vars.length:Int):=by omega
  simp only[sz,simprocAttr,h9,h12,h13,lv,cj'];exact fin _ g2 bl u (by simp[St,sx,h2,h7,h8,h9,h10,h12]) hb (by omega) (by rw[List.take_of_length_le (by omega)]) ho (Nat.le_refl _) λ_ _=>rfl
theorem Own.dn {g:G}{b b':Nat}{v:AV}{sz:Nat}{rows:List (List AV)}(h:Own g b v sz rows)(hb:b'<=b):Own g b' v sz rows:=by
 rcases h with h | ⟨id,ep,lo,h1,h2⟩
 ·exact .inl h
 ·exact .inr ⟨id,ep,lo,by omega,h2⟩
theorem Kw {p7 B:Nat}{n:Net}{e vars:List Int}{us:List UInt8}{lw ew vw b7:AV}{Q:QT}{t:T}{g:G}(hr:NR n)(hm:∀h,Agg n NoP 0 h (.agg [.int .i64 n.grain,b7]))(hN:SlR NoP 0 .nil n.nodes b7)(hus:SlR NoP 0 .nil us lw)(he:SlR NoP 0 .nil e ew)(hv:SlR NoP 0 .nil vars vw)(hp:S.au vars (n.nodes.length:Int)=true)(hev:S.aD n e=true)(hvl:vars.length<=8)
  (g7:g.h.get p7=.cells 2 [[.int .i64 n.grain,b7]] 0 false false) (hB:p7<B) (hBn:B<=g.nx)
  (ht:St t [(2,lw),(7,.hptr p7 0 0 0),(8,ew),(9,vw),(10,.nils),(11,.int .i64 (-1))]) (h12:tat t 12=.int .i64 0)
  (fin:∀t g',Q (.exit 0) t [] g'):wpL (wp C0 1 none dg) Q t [] g:=by
 have hel:=(pg hev).1;have hse:S.aR n e vars=0:=AR.2 ⟨⟨hr,hev⟩,hp⟩;have lv:=(hv.tree (h':=.nil) (Nat.le_refl 0)).len;have hl8:=hr.l2;simp only[dg,gw];refine fg (vars.length+1) (by omega) (λj t df g'=>df=[]/\∃(bl:List Int) (u:AV),St t [(2,lw),(7,.hptr p7 0 0 0),(8,ew),(9,vw),(10,u),(11,.int .i64 (if j=0 then -1 else S.aU n e vars (S.ax n vars) (bl.take (j - 1))))]/\S.aG n vars bl=true/\bl.length=min j vars.length/\Own g' B u 1 (bl.map ci)/\g'.h.get p7=.cells 2 [[.int .i64 n.grain,b7]] 0 false false/\B<=g'.nx)
  ⟨rfl,[],.nils,ht,by simp[S.aG],by simp,.inl ⟨rfl,rfl⟩,g7,hBn⟩ h12 (by decide) ?_ ?_ ?_ ?_
 ·rintro j t df g v s (rfl | rfl | rfl) ⟨a1,bl,u,⟨b1,b2,b3,b4,b5,b6,-⟩,c⟩<;>exact ⟨a1,bl,u,by simp[St,sx,b1,b2,b3,b4,b5,b6],c⟩
 ·rintro j t df g1 hj ⟨rfl,bl,u,⟨h2,h7,h8,h9,h10,h11,-⟩,c⟩ h12;have hd:decide ((j:Int)<=(vars.length:Int))=decide ((j:Int)<((vars.length+1:Nat):Int)):=decide_eq_decide.2 (by omega);simp only[sz,simprocAttr,h9,h12,lv,hd];exact ⟨bl,u,by simp[St,sx,h2,h7,h8,h9,h10,h11],c⟩
 ·clear ht h12 g7 hBn;rintro j t df g1 hj ⟨rfl,bl,u,⟨h2,h7,h8,h9,h10,h11,-⟩,hb,hbl,ho,g7,hBn⟩ h12;have hblj:bl.length=j:=by omega
  have hbs:SlR (λi=>vid u=some i) 0 g1.h bl u:=ho.sl (α:=Int) (by omega) (All2.of_map (λa=>aF.2 rfl) _) λi hi=>hi;have hE:S.be n e vars bl=0:=by rw[S.be,if_pos hse,if_pos hb]
  have hV:S.bi n e vars bl=S.aU n e vars (S.ax n vars) bl:=by rw[S.bi,if_pos hE,HT hr]
  have kB:=E_ (d:=1) (g:=g1) (by decide) (hm g1.h) (he.tree (h':=g1.h) (Nat.le_refl 0)) (hv.tree (h':=g1.h) (Nat.le_refl 0)) (by omega) hbs;rw[hE,hV] at kB;obtain ⟨b,hbv⟩:∃b,b=S.aU n e vars (S.ax n vars) bl:=⟨_,rfl⟩;rw[<-hbv] at kB;obtain ⟨la,hla⟩:∃la,la=(if j=0 then (-1:Int) else S.aU n e vars (S.ax n vars) (bl.take (j - 1))):=⟨_,rfl⟩;rw[<-hla] at h11;have hb0:¬b<0:=by have:=IA hr e vars bl;omega
  have hlb:0<=la->¬la<b:=λh0=>by
   by_cases c:j=0
   ·rw[if_pos c] at hla;omega
   ·rw[if_neg c] at hla;have:=EH (e:=e) (vars:=vars) (l:=bl) (l2:=bl.take (j - 1)) hr λw _ h=>by
     obtain ⟨x,hx,-,-⟩:=ac (l:=bl) (j:=j - 1) (by omega);have e1:bl=bl.take (j - 1)++[x]:=by
      conv=>lhs;rw[<-List.take_length (l:=bl),show bl.length=j - 1+1 by omega,List.take_succ_eq_append_getElem (by omega)]
      rw[List.getElem?_eq_getElem (by omega)] at hx;injection hx with hx;rw[hx]
     rw[e1] at h;exact Fi h
    omega
  refine dM (P:=λt' df g'=>df=[]/\g'=g1/\St t' [(2,lw),(7,.hptr p7 0 0 0),(8,ew),(9,vw),(10,u),(11,.int .i64 la),(12,.int .i64 (j:Int)),(13,.int .i64 b),(14,.int .i64 0)]) ?_ ?_
  ·simp only[sz,simprocAttr,h7,h8,h9,h10,g7,Ku,kB];simp[St,sx,h2,h7,h8,h9,h10,h11,h12]
  clear h2 h7 h8 h9 h10 h11 h12;rintro t df g2 ⟨rfl,rfl,h2,h7,h8,h9,h10,h11,h12,h13,h14,-⟩;refine gY (P:=λt' df g'=>df=[]/\g'=g2/\St t' [(2,lw),(7,.hptr p7 0 0 0),(8,ew),(9,vw),(10,u),(11,.int .i64 la),(12,.int .i64 (j:Int)),(13,.int .i64 b)]) ?_ ?_
  ·by_cases c:0<=la
   ·have c2:=hlb c;simp only[sz,simprocAttr,h11,h13,h14,hb0,c,c2];simp[St,sx,h2,h7,h8,h9,h10,h11,h12,h13]
   ·simp only[sz,simprocAttr,h11,h13,h14,hb0,c];simp[St,sx,h2,h7,h8,h9,h10,h11,h12,h13]
  clear h2 h7 h8 h9 h10 h11 h12 h13 h14;rintro t df g3 ⟨rfl,rfl,h2,h7,h8,h9,h10,h11,h12,h13,-⟩;refine dM (P:=λt' df g'=>df=[]/\Fr g3 g'/\∃kv,Own g' g3.nx kv 1 (e.map ci)/\St t' (LF p7 lw ew vw u kv la b j)) ?_ ?_
  ·simp only[sz,simprocAttr,h8];refine DZ (P:=NoP) (k:=0) (l:=e) (he.tree (Nat.le_refl 0)) (λ_ h=>h.elim) (by omega) λkv g' o4 f4 _=>?_;simp only[sz,simprocAttr];exact ⟨f4,kv,o4,by simp[St,LF,sx,h2,h7,h8,h9,h10,h11,h12,h13]⟩
  clear h2 h7 h8 h9 h10 h11 h12 h13;rintro t df g4 ⟨rfl,f4,kv,o4,h2,h7,h8,h9,h10,h11,h12,h13,h15,-⟩;have n4:=f4.1;have hbs4:SlR (λi=>vid u=some i) 0 g4.h bl u:=hbs.far8 λi hi=>f4.2 i (ho.lt hi).2;have lu:=hbs4.len;simp only[sz,simprocAttr,h10,lu];refine Kv (p7:=p7) (B:=g3.nx) (n:=n) (e:=e) (vars:=vars) (bl:=bl) (lw:=lw) (ew:=ew) (vw:=vw) (u:=u) (kv:=kv) (la:=la) (b:=b) (j0:=j) hp hel hvl (by omega) hv hbs4 (λi h1 h2=>?_) o4 (by simp[St,LF,sx,h2,h7,h8,h9,h10,h11,h12,h13,h15]) (by simp[sx]) (by simp[sx]) (by simp[sx]) ?_
  ·have:=(ho.lt h1).2;have:=(o4.lt h2).1;omega
  rintro t5 g5 ht5 o5 n5 f5;have hne:∀i,i<g3.nx->vid kv≠some i:=λi hi h=>by have:=(o4.lt h).1;omega
  have f5':∀i,i<g3.nx->g5.h.get i=g3.h.get i:=λi hi=>by rw[f5 i (hne i hi),f4.2 i hi]
  simp only[sz,simprocAttr];refine Kx (B:=B) (n:=n) (e:=e) (vars:=vars) (bl:=bl) (us:=us) (b7:=b7) (b:=b) (la:=la) (j:=j) hr hm hN hus hv hp hev hvl hblj hb (by rw[f5' _ (by omega),g7]) (ho.fr (by omega) λi hi=>f5' i (ho.lt hi).2) (o5.dn hBn) hB (by omega) hbv ht5 ?_;rintro t6 g6 bl' u' ⟨h2,h7,h8,h9,h10,h11,h12,-⟩ hb' hbl' htk o6 n6 f6;simp only[sz,simprocAttr];refine ⟨⟨bl',u',by simp[St,h2,h7,h8,h9,h10,h11,htk,hbv],hb',hbl',o6,by rw[f6 _ hB,f5' _ (by omega),g7],by omega⟩,h12⟩
 ·rintro t df g' ⟨rfl,-⟩;exact fin t g'
theorem rE {x:sF}{u1 lw ew ow:AV}{vs us:List UInt8}{s:UInt8}{E O:List Int}(hx:Agg x NoP 0 .nil u1)
  (hv:vs.length=9) (hE:SlR NoP 0 .nil E ew) (hEr:Raw ew) (hO:SlR NoP 0 .nil O ow) (hOr:Raw ow) (hl:SlR NoP 0 .nil us lw) :
  ∃g',(I C0).call 1 N.be [u1,.agg (vs.map u8v++[u8v s,ew,ow]),lw] G.empty=.ok (.bool true) g':=by
 obtain ⟨xs,rfl,qx⟩:=hx;obtain ⟨a1',a2',e1,-⟩:=x_.1 qx;have hxl:xs.length=3:=by rw[e1];rfl
 clear e1 a1' a2';obtain ⟨AA,hAA⟩:∃AA,AA=vs.map u8v++[u8v s,ew,ow]:=⟨_,rfl⟩;have hAl:AA.length=12:=by rw[hAA];simp[hv]
 have ldA:iz (.cells 12 [AA] 0 false false) 0 0 true 9 0=.val (.agg (vs.map u8v)):=by
  rw[hAA]
  match vs,hv with
  | [v0,v1,v2,v3,v4,v5,v6,v7,v8],_=>rfl
 have ldS:iz (.cells 12 [AA] 0 false false) 0 0 false 1 9=.val (u8v s):=by
  rw[hAA]
  match vs,hv with
  | [v0,v1,v2,v3,v4,v5,v6,v7,v8],_=>rfl
 rw[<-hAA];have key:=qc (C:=C0) (d:=1) (f:=N.be) («as»:=[.agg xs,.agg AA,lw]) (g:=G.empty) (K:=λv g'=>v=.bool true) oI (by simp[eD]) ?_
 ·cases hc:(I C0).call 1 N.be [.agg xs,.agg AA,lw] G.empty with
  | fail=>rw[hc] at key;exact key.elim
  | ok v g'=>rw[hc] at key;exact ⟨g',by rw[show v=.bool true from key]⟩
 simp only[sz,simprocAttr,eD];obtain ⟨g0,hg0⟩:∃g0,g0=(G.empty.new (AObj.cells xs.length [xs] 0 false false)).new (AObj.cells AA.length [AA] 0 false false):=⟨_,rfl⟩;rw[<-hg0];have f0:g0.h.get 0=.cells 3 [xs] 0 false false:=by rw[hg0,hxl];simp[sx,H.get_put]
 have f1:g0.h.get 1=.cells 12 [AA] 0 false false:=by rw[hg0,hAl];simp[sx,H.get_put]
 have f4:g0.nx=2:=by rw[hg0];simp[sx]
 clear hg0;have ld0:iz (.cells 3 [xs] 0 false false) 0 0 true 3 0=.val (.agg xs):=by
  match xs,hxl with
  | [a,b,c],_=>rfl
 simp only[sz,simprocAttr,ig,Ci,f0,ld0];refine gi (H5 (by decide) (yq (P:=NoP) qx _)) ?_;rintro r ⟨n,hd0,cn,rfl,hcn⟩;obtain ⟨b,rfl,hN⟩:=gf.1 hcn;have hm:∀h,Agg n NoP 0 h (.agg [.int .i64 n.grain,b]):=λh=>yq hcn h;have lN:=(hN.tree (h':=.nil) (Nat.le_refl 0)).len;have hn5:=hd0.l;have hcard:∀x∈n.nodes,0<x.card:=λx hx=>by rcases hd0.c x hx with h | h<;>omega
 simp only[sz,simprocAttr,f1,ldA,H.get_put,f4,show ¬1=2 by omega];refine gi (Gx (m:=n) (by decide) hv (yq (P:=NoP) hcn _) (by omega) hcard) ?_;rintro z ⟨ev,hev,hz⟩;have hz:SlR NoP 0 .nil ev z:=IT.sl (k:=0) hz .nil;simp only[sz,simprocAttr,f1,ldA,ldS,lN,H.get_put,f4,show ¬1=2 by omega];refine gi (GI (m:=n.nodes.length) (by decide) (by omega)) ?_;rintro y ⟨vars,hvp,hy1,hy2⟩;have hvl:vars.length<=8:=by have:(vars.length:Int)<=_:=dK hvp (by omega);omega
 simp only[sz,simprocAttr];refine Kw (p7:=2) (B:=3) (n:=n) (e:=ev) (vars:=vars) (us:=us) (lw:=lw) (ew:=z) (vw:=y) (b7:=b) hd0.nr hm hN hl hz hy1 hvp hev hvl (by simp[H.get_put]) (by decide) (by simp[f4]) (by simp[St,sx]) (by simp[sx]) λt g'=>?_;simp only[sz,simprocAttr,gx]
end
end Hx
end
section
namespace Hx
open Go Go.RowKit Go.ChangeShapes Go.WideShapes
def qR (P:Program):List Field->Nat->Option Nat
 | [],k=>some k
 | f::fs,k=>if f.offset=k then qR P fs (k+P.cellsOf f.type) else none
def rA (P:Program):Nat->TypeId->Bool
 | 0,_=>false
 | n+1,t=>match P.underlying t with
  | some .bool=>true
  | some (.int _)=>true
  | some (.slice e)=>decide (0<P.cellsOf e)&&rA P n e
  | some (.struct fs)=>(qR P fs.toList 0 == some (P.cellsOf t))&&fs.toList.all (λf=>rA P n f.type)
  | some (.array m e)=>decide (m*P.cellsOf e=P.cellsOf t)&&rA P n e
  | _=>false
def Sh (P:Program):Nat->TypeId->List AV->Prop
 | 0,_,_=>False
 | n+1,t,xs=>match P.underlying t with
  | some .bool=>∃b,xs=[.bool b]
  | some (.int k)=>∃z,xs=[.int k z]/\(Lit.int k z).wf=true
  | some (.slice e)=>xs=[.nils]\/∃rows,xs=[.tsl 0 (P.cellsOf e) rows]/\rows.length<9223372036854775808/\∀row∈rows,Sh P n e row
  | some (.struct fs)=>∃xss,xs=xss.flatten/\All2 (λ(f:Field) ys=>Sh P n f.type ys) fs.toList xss
  | some (.array m e)=>∃xss:List (List AV),xs=xss.flatten/\xss.length=m/\∀ys∈xss,Sh P n e ys
  | _=>False
def zp (P:Program)(w:World)(n:Nat)(t:TypeId)(xs:List AV)(cs:List Value):Prop :=
 RVs0 w xs cs/\(∀y∈xs,y.one=true/\Closed y)/\Sh P n t xs
theorem RVs0.append {w:World}{xs ys:List AV}{cs ds:List Value}(h:RVs0 w xs cs)(h':RVs0 w ys ds):RVs0 w (xs++ys) (cs++ds):=by
 refine ⟨by rw[List.length_append,List.length_append,h.1,h'.1],λi x v hx hv=>?_⟩;rcases Nat.lt_or_ge i xs.length with hi | hi
 ·rw[List.getElem?_append_left hi] at hx;rw[List.getElem?_append_left (by rw[<-h.1];exact hi)] at hv;exact h.2 i x v hx hv
 ·rw[List.getElem?_append_right hi] at hx;rw[List.getElem?_append_right (by rw[<-h.1];exact hi),<-h.1] at hv;exact h'.2 _ x v hx hv
theorem Cq (b o n:Nat):(⟨b,o,none⟩:Addr).add n=adr b (o+n):=by
 unfold Addr.add
 split
 ·rename_i h;subst h;rfl
 ·rfl
variable {H:Type}{enc:TypeId×Value->H}{P:Program}{w:World}
theorem xE:∀{fl:List Field} {k K:Nat},qR P fl k=some K->k<=K
 | [],k,K,h=>by injection h with h;omega
 | f::fl,k,K,h=>by
  unfold qR at h
  split at h
  ·have:=xE h;omega
  ·cases h
theorem GY {n:Nat}{cs:List Value}:∀{fl:List Field} {k K:Nat},qR P fl k=some K ->
  (∀f∈fl,∃xs,zp P w n f.type xs ((cs.drop f.offset).take (P.cellsOf f.type))) ->
  ∃xss,All2 (λ(f:Field) ys=>Sh P n f.type ys) fl xss/\RVs0 w xss.flatten ((cs.drop k).take (K - k))/\∀y∈xss.flatten,y.one=true/\Closed y
 | [],k,K,h,_=>by injection h with h;subst h;exact ⟨[],trivial,by rw[Nat.sub_self,List.take_zero];exact ⟨rfl,λi x v hx=>by simp at hx⟩,λy hy=>by simp at hy⟩
 | f::fl,k,K,h,hg=>by
  unfold qR at h
  split at h
  ·rename_i ho;subst ho;obtain ⟨xs,h1,h2,h3⟩:=hg f (by simp);obtain ⟨xss,a1,a2,a3⟩:=GY h λf' hf'=>hg f' (by simp[hf']);have hle:=xE h;refine ⟨xs::xss,⟨h3,a1⟩,?_,λy hy=>?_⟩
   ·have e:(cs.drop f.offset).take (K - f.offset)=(cs.drop f.offset).take (P.cellsOf f.type)++(cs.drop (f.offset+P.cellsOf f.type)).take (K - (f.offset+P.cellsOf f.type)):=by rw[show K - f.offset=P.cellsOf f.type+(K - (f.offset+P.cellsOf f.type)) by omega,List.take_add,List.drop_drop]
    rw[e,List.flatten_cons];exact h1.append a2
   ·rw[List.flatten_cons,List.mem_append] at hy;rcases hy with hy | hy
    ·exact h2 y hy
    ·exact a3 y hy
  ·cases h
theorem Cr {n:Nat}{e:TypeId}{cs:List Value}:∀{m k:Nat},
  (∀i,i<m->∃xs,zp P w n e xs ((cs.drop ((k+i)*P.cellsOf e)).take (P.cellsOf e))) ->
  ∃xss:List (List AV),xss.length=m/\(∀ys∈xss,Sh P n e ys)/\RVs0 w xss.flatten ((cs.drop (k*P.cellsOf e)).take (m*P.cellsOf e))/\∀y∈xss.flatten,y.one=true/\Closed y
 | 0,k,_=>⟨[],rfl,λy hy=>by simp at hy,by rw[Nat.zero_mul,List.take_zero];exact ⟨rfl,λi x v hx=>by simp at hx⟩,λy hy=>by simp at hy⟩
 | m+1,k,hg=>by
  obtain ⟨xs,h1,h2,h3⟩:=hg 0 (by omega);rw[Nat.add_zero] at h1;obtain ⟨xss,a0,a1,a2,a3⟩:=Cr (m:=m) (k:=k+1) λi hi=>by have:=hg (i+1) (by omega);rwa [show k+(i+1)=k+1+i by omega] at this
  refine ⟨xs::xss,by simp[a0],λys hy=>?_,?_,λy hy=>?_⟩
  ·rcases List.mem_cons.1 hy with rfl | hy
   ·exact h3
   ·exact a1 ys hy
  ·have e:(cs.drop (k*P.cellsOf e)).take ((m+1)*P.cellsOf e)=(cs.drop (k*P.cellsOf e)).take (P.cellsOf e)++(cs.drop ((k+1)*P.cellsOf e)).take (m*P.cellsOf e):=by rw[show (m+1)*P.cellsOf e=P.cellsOf e+m*P.cellsOf e by rw[Nat.add_mul];omega,List.take_add,List.drop_drop,Nat.add_mul,Nat.one_mul]
   rw[e,List.flatten_cons];exact h1.append a2
  ·rw[List.flatten_cons,List.mem_append] at hy;rcases hy with hy | hy
   ·exact h2 y hy
   ·exact a3 y hy
theorem Af:∀(n:Nat) (t:TypeId),rA P n t=true->∀(fuel:Nat) (cs:List Value) (x:DataW H×List MemPlace),DataW.trod enc P w 0 (λ_=>true) true fuel t cs=some x->∃xs,zp P w n t xs cs:=by
 intro n
 induction n with
 | zero=>intro t h;simp[rA] at h
 | succ n ih =>
  intro t h fuel cs x hx;unfold rA at h
  split at h
  ·rename_i hu;obtain ⟨b,rfl,-⟩:=DataW.trod_bool hu hx;refine ⟨[.bool b],⟨rfl,λi x v h1 h2=>?_⟩,λy hy=>?_,?_⟩
   ·cases i with
    | zero=>simp at h1 h2;subst h1;subst h2;exact .bool _ _
    | succ i=>simp at h1
   ·simp at hy;subst hy;exact ⟨rfl,.bool _⟩
   ·unfold Sh;rw[hu];exact ⟨b,rfl⟩
  ·rename_i k hu;obtain ⟨z,rfl,-,hwf⟩:=DataW.trod_int hu hx;refine ⟨[.int k z],⟨rfl,λi x v h1 h2=>?_⟩,λy hy=>?_,?_⟩
   ·cases i with
    | zero=>simp at h1 h2;subst h1;subst h2;exact .int _ _ _
    | succ i=>simp at h1
   ·simp at hy;subst hy;exact ⟨rfl,.int _ _⟩
   ·unfold Sh;rw[hu];exact ⟨z,rfl,hwf⟩
  ·rename_i e hu;rw[Bool.and_eq_true,decide_eq_true_eq] at h;obtain ⟨hpos,hp⟩:=h;rcases DataW.trod_slice hu hx with ⟨rfl,-⟩ | ⟨a,len,cap,elems,rest,m,-,rfl,-,-,hlc,hcm,hlen,hel,-,-⟩
   ·refine ⟨[.nils],⟨rfl,λi x v h1 h2=>?_⟩,λy hy=>?_,?_⟩
    ·cases i with
     | zero=>simp at h1 h2;subst h1;subst h2;exact .nils _
     | succ i=>simp at h1
    ·simp at hy;subst hy;exact ⟨rfl,.nils⟩
    ·unfold Sh;rw[hu];exact .inl rfl
   ·have each:∀i,i<len->∃xs vs,w.cells? 0 (a.add (i*P.cellsOf e)) (P.cellsOf e)=some vs/\zp P w n e xs vs:=by intro i hi;have:=hel i hi;rw[List.getElem?_eq_getElem (show i<elems.length by omega),Option.bind_eq_some_iff] at this;obtain ⟨vs,h1,h2⟩:=this;obtain ⟨xs,hg⟩:=ih e hp _ _ _ h2;exact ⟨xs,vs,h1,hg⟩
    let rowf:Nat->List AV:=λi=>if hi:i<len then Classical.choose (each i hi) else []
    let valf:Nat->List Value:=λi=>if hi:i<len then Classical.choose (Classical.choose_spec (each i hi)) else []
    have hrow:∀i,i<len->w.cells? 0 (a.add (i*P.cellsOf e)) (P.cellsOf e)=some (valf i)/\zp P w n e (rowf i) (valf i):=by intro i hi;have:=Classical.choose_spec (Classical.choose_spec (each i hi));simpa only[rowf,valf,dif_pos hi] using this
    have hget:∀(i:Nat) (row:List AV),((List.range len).map rowf)[i]?=some row->i<len/\row=rowf i:=by
     intro i row h1;rw[List.getElem?_map] at h1;rcases Nat.lt_or_ge i len with hi | hi
     ·rw[List.getElem?_range hi] at h1;injection h1 with h1;exact ⟨hi,h1.symm⟩
     ·rw[List.getElem?_eq_none (by simpa using hi)] at h1;cases h1
    refine ⟨[.tsl 0 (P.cellsOf e) ((List.range len).map rowf)],⟨rfl,λi x v h1 h2=>?_⟩,λy hy=>?_,?_⟩
    ·cases i with
     | succ i=>simp at h1
     | zero =>
      simp at h1 h2;subst h1;subst h2;rcases Nat.eq_zero_or_pos len with h0 | h0
      ·subst h0;exact .tnil 0 0 _ a cap (Nat.le_refl _)
      ·obtain ⟨b,o,spot⟩:=a;have hc0:=World.cells?_some (hrow 0 h0).1;have hv0:(valf 0)[0]?=some (valf 0)[0]:=List.getElem?_eq_getElem (by rw[hc0.2.1];exact hpos);have h00:=hc0.2.2 0 hpos;rw[hv0] at h00;have hspot:spot=none:=by simpa [Addr.add] using World.cell?_spot h00
       subst hspot;have cellat:∀i j row x,((List.range len).map rowf)[i]?=some row->row[j]?=some x->∃v,(valf i)[j]?=some v/\w.cell? (adr b (o+i*P.cellsOf e+j))=some v/\RV w gm0 av0 0 x v:=by
        intro i j row x hr hxj;obtain ⟨hi,rfl⟩:=hget i row hr;obtain ⟨q1,q2⟩:=hrow i hi;have hj:j<(rowf i).length:=(List.getElem?_eq_some_iff.1 hxj).1;have hj':j<(valf i).length:=by rw[<-q2.1.1];exact hj
        have hcs:=World.cells?_some q1;have hcell:=hcs.2.2 j (by rw[<-hcs.2.1];exact hj');rw[List.getElem?_eq_getElem hj'] at hcell;refine ⟨_,List.getElem?_eq_getElem hj',?_,q2.1.2 j x _ hxj (List.getElem?_eq_getElem hj')⟩;rw[Cq,show adr b (o+i*P.cellsOf e)=(⟨b,o+i*P.cellsOf e,none⟩:Addr) from rfl,Cq] at hcell;exact hcell
       have hb:b<w.heap.size:=by have:=BI h00;simpa [Addr.add] using this
       have hrl:((List.range len).map rowf).length=len:=by simp
       have key:=RV.tsl (w:=w) (γ:=gm0) (A:=av0) 0 0 (P.cellsOf e) ((List.range len).map rowf) b o cap (λi j=>(valf i)[j]?.getD undef) (Nat.le_refl _) (by rw[hrl];exact hlc) hb (KA b) (λh=>h)
        (λi row hr=>by
         obtain ⟨hi,rfl⟩:=hget i row hr;obtain ⟨q1,q2⟩:=hrow i hi;rw[q2.1.1,(World.cells?_some q1).2.1])
        (λi j row x hr hxj=>by
         obtain ⟨hi,rfl⟩:=hget i row hr;exact ((hrow i hi).2.2.1 x (List.mem_of_getElem? hxj)).1)
        (λi j row x hr hxj=>by
         obtain ⟨v,v1,v2,v3⟩:=cellat i j row x hr hxj;rw[v2,v1];rfl)
        (λi j row x hr hxj=>by
         obtain ⟨v,v1,v2,v3⟩:=cellat i j row x hr hxj;rw[v1];exact v3)
        (λrow hr x hx=>by
         obtain ⟨i,hi⟩:=List.getElem?_of_mem hr;obtain ⟨hi2,rfl⟩:=hget i row hi;exact ((hrow i hi2).2.2.1 x hx).2)
       rw[hrl] at key;exact key
    ·simp only[List.mem_singleton] at hy;subst hy;refine ⟨rfl,.tsl _ _ _ λrow hr x hx=>?_⟩;obtain ⟨i,hi⟩:=List.getElem?_of_mem hr;obtain ⟨hi2,rfl⟩:=hget i row hi;exact ((hrow i hi2).2.2.1 x hx).2
    ·unfold Sh;rw[hu];refine .inr ⟨_,rfl,?_,λrow hr=>?_⟩
     ·rw[List.length_map,List.length_range];have:maxLen<9223372036854775808:=by decide
      omega
     ·obtain ⟨i,hi⟩:=List.getElem?_of_mem hr;obtain ⟨hi2,rfl⟩:=hget i row hi;exact (hrow i hi2).2.2.2
  ·rename_i fs hu;rw[Bool.and_eq_true] at h;obtain ⟨hc,hp⟩:=h;have hc:qR P fs.toList 0=some (P.cellsOf t):=eq_of_beq hc;obtain ⟨ys,m,-,-,hl,hyl,hel⟩:=DataW.trod_struct hu hx;obtain ⟨xss,a1,a2,a3⟩:=GY (w:=w) (n:=n) (cs:=cs) hc λf hf=>by
    obtain ⟨i,hi,e⟩:=List.mem_iff_getElem.1 hf;have hfi:fs[i]?=some f:=by rw[<-Array.getElem?_toList,List.getElem?_eq_getElem hi,e]
    have:=hel i f hfi;rw[List.getElem?_eq_getElem (show i<ys.length by rw[hyl];simpa using hi)] at this;exact ih f.type (List.all_eq_true.1 hp f hf) _ _ _ this
   rw[List.drop_zero,Nat.sub_zero,<-hl,List.take_length] at a2;refine ⟨xss.flatten,a2,a3,?_⟩;unfold Sh;rw[hu];exact ⟨xss,rfl,a1⟩
  ·rename_i m e hu;rw[Bool.and_eq_true,decide_eq_true_eq] at h;obtain ⟨hc,hp⟩:=h;obtain ⟨ys,q,-,-,hl,hyl,hel⟩:=DataW.trod_array hu hx;obtain ⟨xss,a0,a1,a2,a3⟩:=Cr (w:=w) (n:=n) (e:=e) (cs:=cs) (m:=m) (k:=0) λi hi=>by have:=hel i hi;rw[List.getElem?_eq_getElem (show i<ys.length by omega)] at this;rw[Nat.zero_add];exact ih e hp _ _ _ this
   rw[Nat.zero_mul,List.drop_zero,hc,<-hl,List.take_length] at a2;refine ⟨xss.flatten,a2,a3,?_⟩;unfold Sh;rw[hu];exact ⟨xss,rfl,a0,a1⟩
  ·cases h
theorem J9 {n:Nat}{t:TypeId}{xs:List AV}(hu:P.underlying t=some (.int .i64))(h:Sh P n t xs):∃x:Int,Rp.rp NoP 0 .nil x xs:=by
 cases n with
 | zero=>exact h.elim
 | succ n =>
  unfold Sh at h;rw[hu] at h;obtain ⟨z,rfl,-⟩:=h;exact ⟨z,aF.2 rfl⟩
theorem jN {n:Nat}{t:TypeId}{xs:List AV}(hu:P.underlying t=some (.int .u8))(h:Sh P n t xs):∃x:UInt8,Rp.rp NoP 0 .nil x xs:=by
 cases n with
 | zero=>exact h.elim
 | succ n =>
  unfold Sh at h;rw[hu] at h;obtain ⟨z,rfl,hw⟩:=h;simp only[Lit.wf,IntKind.min,IntKind.max,IntKind.signed,IntKind.bits,Bool.and_eq_true] at hw;refine ⟨UInt8.ofNat z.toNat,fC.2 ?_⟩;have h1:0<=z:=by simpa using hw.1
  have h2:z<=255:=by simpa using hw.2
  have h3:(UInt8.ofNat z.toNat).toNat=z.toNat:=UInt8.toNat_ofNat_of_lt' (by show z.toNat<256;omega);rw[h3,Int.toNat_of_nonneg h1]
theorem sA {α:Type} [Rp α]{n:Nat}{t e:TypeId}{xs:List AV}(hu:P.underlying t=some (.slice e))(hsz:P.cellsOf e=Rp.sz α)(hel:∀ys,Sh P n e ys->∃y:α,Rp.rp NoP 0 .nil y ys)(h:Sh P (n+1) t xs) :
  ∃l:List α,Rp.rp NoP 0 .nil l xs:=by
 unfold Sh at h;rw[hu] at h;rcases h with rfl | ⟨rows,rfl,hl,hr⟩
 ·exact ⟨[],.nils,rfl,by simp,rfl⟩
 ·have:∀rows:List (List AV),(∀row∈rows,Sh P n e row)->∃l:List α,All2 (Rp.rp NoP 0 .nil) l rows:=by
   intro rows
   induction rows with
   | nil=>intro _;exact ⟨[],trivial⟩
   | cons r rows ih =>
    intro h;obtain ⟨y,hy⟩:=hel r (h r (by simp));obtain ⟨l,hl⟩:=ih λrow hrow=>h row (by simp[hrow]);exact ⟨y::l,hy,hl⟩
  obtain ⟨l,ha⟩:=this rows hr;exact ⟨l,_,rfl,by rw[ha.len];exact hl,Nat.le_refl _,.inl hsz,ha⟩
theorem Hj {n m:Nat}{t e:TypeId}{xs:List AV}(hu:P.underlying t=some (.array m e))(h:Sh P (n+1) t xs):∃xss:List (List AV),xs=xss.flatten/\xss.length=m/\∀ys∈xss,Sh P n e ys:=by unfold Sh at h;rw[hu] at h;exact h
theorem qo {n:Nat}{t:TypeId}{fs:Array Field}{xs:List AV}(hu:P.underlying t=some (.struct fs))(h:Sh P (n+1) t xs):∃xss,xs=xss.flatten/\All2 (λ(f:Field) ys=>Sh P n f.type ys) fs.toList xss:=by unfold Sh at h;rw[hu] at h;exact h
end Hx
end
