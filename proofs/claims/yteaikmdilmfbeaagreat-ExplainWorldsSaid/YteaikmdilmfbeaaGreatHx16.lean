/- A part of the proof: an interpreter over abstract values, shown right against the model, and what the functions of the chapter compute on it. -/
import Derived.OpenShut
import Derived.DataReads
import Derived.Test.YteaikmdilmfbeaaGreatHx15
set_option linter.unusedVariables false
set_option linter.unusedSimpArgs false
set_option linter.unnecessarySimpa false
section
namespace Hx
open Go
noncomputable section
theorem JY {d:Nat}{g:G}{x y:Nat}(hd:0<d)(hx:x<=4611686018427387903)(hy0:0<y)(hy:y<=4611686018427387903) :
  am C0 d N.OZ [.int .i64 (x:Int),.int .i64 (y:Int)] g=.val (.agg [.int .i64 (S.O5 x y).1,.int .i64 (S.O5 x y).2]):=by
 have key:∃r,am C0 d N.OZ [.int .i64 (x:Int),.int .i64 (y:Int)] g=.val r/\Agg (S.O5 x y) NoP 0 .nil r:=by
  obtain ⟨q0,q1,q2,q3⟩:=AF (x:=x) hy0;rw[vC];refine aX yB (xs:=[.int .i64 (x:Int),.int .i64 (y:Int)]) (by simp only[aE,bD 0]) (by simp[mU]) (ch _) (by decide) hd ?_;have hm:max (x:Int) (-(x:Int))=(x:Int):=by omega
  simp only[sz,simprocAttr,mU,pJ,Gs (show x<9223372036854775808 by omega),hm];refine eW (λb t df g=>df=[]/\∃a:Nat,St t [(0,.int .i64 (x:Int)),(1,.int .i64 (y:Int)),(4,.hptr 0 0 0 0),(5,.int .i64 (a:Int)),(6,.int .i64 (b:Int))]/\Nat.gcd a b=Nat.gcd x y/\a<9223372036854775808/\b<=y/\g.h.get 0=.cells 2 [[.int .i64 0,.int .i64 0]] 0 false false/\g.nx=1) y
   ⟨rfl,x,by simp[St,sx],rfl,by omega,Nat.le_refl _,by simp[H.get_put,show G.empty.nx=0 from rfl],by simp[show G.empty.nx=0 from rfl]⟩ ?_
  rintro b t df g ⟨rfl,a,⟨h0,h1,h4,h5,h6,-⟩,hgc,ha,hby,g0,gn⟩
  by_cases hb:b=0
  ·subst hb;rw[Nat.gcd_zero_right] at hgc;subst hgc;have fw:eg [.int .i64 0,.int .i64 0] [((0,1),.int .i64 ((x / Nat.gcd x y:Nat):Int)),((1,1),.int .i64 ((y / Nat.gcd x y:Nat):Int))]=some [.int .i64 ((x / Nat.gcd x y:Nat):Int),.int .i64 ((y / Nat.gcd x y:Nat):Int)]:=rfl;simp only[iA,oa,sz,simprocAttr,sf,h0,h1,h4,h5,h6,rV (show x<9223372036854775808 by omega) q0,rV (show y<9223372036854775808 by omega) q0,fw,g0];refine ⟨?_,⟨λ_=>True,wk.2 rfl⟩⟩;simp only[List.reverse_cons,List.reverse_nil,List.nil_append,List.cons_append];exact aO [false,false,false,false,false,false,false,true] [] (by simp[All2,ap,aF]) (by decide) (by simp)
  ·have hb':¬(b:Int)=0:=by omega
   have hlt:=Nat.mod_lt a (Nat.pos_of_ne_zero hb);simp only[iA,sz,simprocAttr,h5,h6,hb',xA (x:=a) (Nat.pos_of_ne_zero hb)];refine ⟨a % b,hlt,b,?_,?_,by omega,by omega,g0,gn⟩
   ·simp[St,sx,h0,h1,h4,h5,h6]
   ·rw[<-hgc,Nat.gcd_comm a b,Nat.gcd_comm b (a % b),<-Nat.gcd_rec]
 obtain ⟨r,hr,hc⟩:=key;rw[hr,wk.1 hc]
def wcq (q:QI):List AV:=[.int .i64 q.1,.int .i64 q.2]
def S.OZ (n:Net)(e:List Int)(k:Int):Int:=if S.OY n e=0 then (if 1<=k/\k<=50 then (if S.Pe n e=0 then 7 else 0) else 2) else S.OY n e
def S.Pk (n:Net)(e:List Int)(k:Int)(R:List Int):List Int:=if S.OZ n e k=0 then R.take k.toNat else []
def S.wq (n:Net)(e:List Int)(x:Int):QI:=S.O5 (S.wW (S.OM n e) x).toNat (S.Pe n e).toNat
def S.Pa (n:Net)(e:List Int)(l:List Int):List QI:=l.map (S.wq n e)
def Bd (n:Net)(e:List Int)(k:Int)(R:List Int):VS:=NZ (One (S.Pk n e k R)) (One (S.Pa n e (S.Pk n e k R))) (One (S.OZ n e k))
def M8 (n:Net)(e:List Int)(k:Int):VS:=λP q h v=>∃R,(S.OZ n e k=0->IsSrt (S.OM n e) R)/\Bd n e k R P q h v
theorem DW (n:Net)(e:List Int)(k:Int)(R:List Int):Snb (Bd n e k R) 2:=Ku (m:=2) (aS _) (aS _) (aS _) (by decide) (by decide) (by decide)
theorem Mf (n:Net)(e:List Int)(k:Int):Snb (M8 n e k) 2:=jV λR=>DW n e k R
theorem uR {n:Net}{e:List Int}{k E:Int}{P:Nat->Prop}{q:Nat}{h:H}{R:List Int}(hE:S.OZ n e k=E)(h0:E≠0):Bd n e k R P q h (.tup [.nils,.nils,.int .i64 E]):=by
 have hL:S.Pk n e k R=[]:=by rw[S.Pk,if_neg (by rw[hE];exact h0)]
 unfold Bd;rw[hL,hE];exact ⟨_,_,_,rfl,⟨_,rfl,by decide,rfl⟩,⟨_,rfl,by show 0<9223372036854775808;decide,rfl⟩,aL.2 rfl⟩
theorem uS {n:Net}{e:List Int}{k E:Int}{P:Nat->Prop}{q:Nat}{h:H}(hE:S.OZ n e k=E)(h0:E≠0):M8 n e k P q h (.tup [.nils,.nils,.int .i64 E]) :=
 ⟨[],λh=>absurd (hE.symm.trans h) h0,uR hE h0⟩
theorem Nv {n:Net}{e:List Int}(hr:NR n)(h:S.Pe n e≠0):S.OT (S.OM n e)≠[]:=by
 intro h0;have hz:∀w,w<S.OL n->S.pe n e w=true->S.wt n w=0:=λw hw hp=>by
  have hb:=D_ hr w;have hnm:¬(w:Int)∈S.OT (S.OM n e):=by rw[h0];simp
  have hxw:S.wW (S.OM n e) (w:Int)=S.wt n w:=by rw[S.wW,Int.toNat_natCast,Gq hw,hp];rfl
  have:¬0<S.wt n w:=λhlt=>hnm (pf.2 ⟨w,rfl,by rw[show (S.OM n e).length=S.OL n from jR n e _];exact hw,by rw[hxw];exact hlt⟩);omega
 have key:∀j,j<=S.OL n->S.OQ n (S.pe n e) j=0:=by
  intro j
  induction j with
  | zero=>exact λ_=>rfl
  | succ j ih =>
   intro hj;have e1:=ih (by omega);cases c:S.pe n e j with
   | false=>rw[S.OQ,c,e1];rfl
   | true =>
    have e2:S.OQ n (S.pe n e) (j+1)=S.OQ n (S.pe n e) j+S.wt n j:=by rw[S.OQ,c];rfl
    rw[e2,e1,hz j (by omega) c];rfl
 exact h (key (S.OL n) (Nat.le_refl _))
theorem Own.len {g:G}{b:Nat}{v:AV}{sz:Nat}{rows:List (List AV)}(h:Own g b v sz rows)(g':G):cV .slice v g'=.val (.int .i64 (rows.length:Int)):=by rcases h with ⟨rfl,rfl⟩ | ⟨id,ep,lo,-,-,rfl,-⟩<;>rfl
theorem Kc {P:Nat->Prop}{k:Nat}{h:H}(q:QI):Rp.rp P k h q (wcq q):=xC.2 ⟨[.int .i64 q.1],[.int .i64 q.2],rfl,aL.2 rfl,aL.2 rfl⟩
theorem KD {l:List Int}{k:Nat}:l.take (min k l.length)=l.take k:=by rw[List.take_eq_take_iff];omega
theorem JU {n:Net}{e:List Int}{x:Int}(hr:NR n)(h:x∈S.OT (S.OM n e)):∃i wn:Nat,x=(i:Int)/\i<(S.OM n e).length/\(S.OM n e)[i]?=some (wn:Int)/\wn<=167961600000000/\S.wW (S.OM n e) (i:Int)=(wn:Int):=by obtain ⟨i,rfl,hi,hp⟩:=pf.1 h;obtain ⟨y,hy,-,hym⟩:=ae hi;have hb:=Hz hr e y hym;obtain ⟨wn,rfl⟩:=Int.eq_ofNat_of_zero_le hb.1;exact ⟨i,wn,rfl,hi,hy,by omega,by rw[S.wW,Int.toNat_natCast,hy];rfl⟩
theorem I9 (g:G)(id:Nat):iC (.cells 1 [[.nilp]] 0 false false) g id 0 0 1 0 .nilp=.upd (.tup []) (g.put id (.cells 1 [[.nilp]] 0 false false)):=rfl
theorem uB (g:G)(id:Nat)(t sz:Nat)(rows:List (List AV))(i off:Nat):iC (.cells 1 [[.nilp]] 0 false false) g id 0 0 1 0 (.tptr t sz rows i off)=.upd (.tup []) (g.put id (.cells 1 [[.tptr t sz rows i off]] 0 false false)):=rfl
set_option maxRecDepth 20000 in
theorem Fp {d k1:Nat}{P1:Nat->Prop}{g:G}{n:Net}{e:List Int}{v w:AV}{kn:Int}(hd:0<d)(hm:Agg n NoP 0 g.h v)(he:SlR P1 k1 g.h e w) :
  ∃r,am C0 d N.Pe [v,w,.int .i64 kn] g=.val r/\M8 n e kn NoP 0 .nil r:=by
 obtain ⟨b,rows,rfl,e1,hm',hN,r1,r2,r3,r4⟩:=fj d hm;obtain ⟨w',e2,hw'⟩:=be he d;have hd1:=Nat.succ_pos d;rw[su];refine aX ul (xs:=[.agg [.int .i64 n.grain,b],w',.int .i64 kn]) (by simp only[aE,e1,e2,bD 0]) (by simp[io]) (Mf n e kn) (by decide) hd ?_;simp only[sz,simprocAttr,io,ku];refine a_ (BP (n:=n) (e:=e) (vars:=[]) (kv:=0) (by omega) (hm' _) (hw' _) (by exact ⟨by decide,rfl⟩)) λr hns=>?_;have hpl:S.OS [] (n.nodes.length:Int)=true:=by simp[S.OS]
 have hse:S.O_ n e []=S.OY n e:=by
  unfold S.O_;rw[if_pos hpl]
  split
  ·rename_i h;exact h.symm
  ·rfl
 rcases JE hns with ⟨c,p,rfl,hp⟩ | ⟨c,rfl⟩
 ·have href:S.OY n e=0:=by rw[<-hse];exact c
  obtain ⟨hr,hev⟩:=(Kh.1 c).1;obtain ⟨Wl1,Wl2,Wl3⟩:=hr.wl;have hml:(S.OM n e).length=S.OL n:=jR n e _;have hp0:=hp;obtain ⟨t0,bb,vw,ow,ww,rfl,-,-,-,-,hww⟩:=hp0;have rww:=λh=>(hww.tree (h':=h) (Nat.le_refl _)).ints;have lww:∀g:G,cV .slice ww g=.val (.int .i64 ((S.OM n e).length:Int)):=λg=>hww.len g
  by_cases ck:1<=kn/\kn<=50
  ·have d1:¬kn<1:=by omega
   have d2:¬50<kn:=by omega
   by_cases c2:S.Pe n e=0
   ·have hE:S.OZ n e kn=7:=by rw[S.OZ,if_pos href,if_pos ck,if_pos c2]
    simp only[sz,simprocAttr,uB,d1,d2,xy,qU,eJ,c2];exact ⟨λ_=>True,uS hE (by decide)⟩
   ·have hE:S.OZ n e kn=0:=by rw[S.OZ,if_pos href,if_pos ck,if_neg c2]
    have hm0:=wC hr e;obtain ⟨ms,hms⟩:=Int.eq_ofNat_of_zero_le hm0.1;obtain ⟨kk,rfl⟩:=Int.eq_ofNat_of_zero_le (show 0<=kn by omega);rw[hms] at hm0 c2;obtain ⟨pv,hpv⟩:∃pv,pv=AV.tptr t0 6 [[.int .i64 n.grain,bb,vw,ow,ww,.int .i64 (S.Pe n e)]] 0 0:=⟨_,rfl⟩;rw[hms] at hpv hp;simp only[sz,simprocAttr,uB,d1,d2,xy,qU,eJ,hms,c2,lww,jC,jE];refine bj (m:=(S.OM n e).length) (by omega) (λj t df g=>df=[]/\g.h.get 1=.cells 1 [[.tptr t0 6 [[.int .i64 n.grain,bb,vw,ow,ww,.int .i64 (ms:Int)]] 0 0]] 0 false false/\2<=g.nx/\∃u,Own g 2 u 1 ((S.Pt (S.OM n e) j).map ci)/\St t [(2,.int .i64 (kk:Int)),(9,.hptr 1 0 0 0),(11,u),(40,ww)])
     ⟨rfl,by simp[H.get_put,show G.empty.nx=0 from rfl],by simp[show G.empty.nx=0 from rfl],.nils,.inl ⟨rfl,rfl⟩,by simp[St,sx,show G.empty.nx=0 from rfl]⟩ (by simp[sx]) (by simp[sx]) (by decide) ?_ ?_ ?_
    ·rintro j t df g v s (rfl | rfl | rfl) ⟨a1,a2,a3,u,a4,⟨b1,b2,b3,b4,-⟩⟩<;>exact ⟨a1,a2,a3,u,a4,by simp[St,sx,b1,b2,b3,b4]⟩
    ·rintro j t df g hj ⟨rfl,g1,gn,u,hu,h2,h9,h11,h40,-⟩ h42 h41;obtain ⟨x,hx,-,-⟩:=ae hj;have z1:j<((S.OM n e).map ci).length:=by simpa using hj
     have z2:((S.OM n e).map ci)[j]?=some (ci x):=by rw[List.getElem?_map,hx];rfl
     have hxw:S.wW (S.OM n e) (j:Int)=x:=by rw[S.wW,Int.toNat_natCast,hx];rfl
     have hps:=HG (S.OM n e) j;rw[hxw] at hps;have hpl:=y_ (S.OM n e) j
     by_cases c3:0<x
     ·rw[if_pos c3] at hps;simp only[sz,simprocAttr,h40,h42,rww,z1,z2,ci,c3,h11];refine aU (new:=[ci (j:Int)]) (hu.step (Fr.new _ _)) (by simp[sx,sy,ci]) (by simp<;>omega) (by simp[aP];omega) λv2 g2 hv2 n2 f2 _ l2=>?_;simp only[sz,simprocAttr];refine ⟨⟨?_,?_,v2,?_,by simp[St,sx,h2,h9,h40]⟩,by simp[sx,h41,h42]⟩
      ·rw[f2 1 (by simp;omega) (λe=>by have:=(hu.lt e).1;omega),G.new_h,aq _ _ _ (by omega),g1]
      ·simp at n2;omega
      ·rw[hps,List.map_append];simpa [ci] using hv2
     ·rw[if_neg c3,List.append_nil] at hps;simp only[sz,simprocAttr,h40,h42,rww,z1,z2,ci,c3];exact ⟨⟨g1,gn,u,by rw[hps];exact hu,by simp[St,sx,h2,h9,h11,h40]⟩,by simp[sx,h41,h42]⟩
    ·rintro t df g ⟨rfl,g1,gn,u,hu,h2,h9,h11,h40,-⟩;have hpn:=Nv hr (n:=n) (e:=e) (by rw[hms];exact c2);simp only[sz,simprocAttr,jG,h11,h9];refine KS (n:=n) (b:=2) (q:=1) hd1 hp g1 hu hpn (by omega) (λh=>by have:=(hu.lt h).1;omega) λR g2 hR hu2 n2 f2=>?_;have g12:g2.h.get 1=.cells 1 [[.tptr t0 6 [[.int .i64 n.grain,bb,vw,ow,ww,.int .i64 (ms:Int)]] 0 0]] 0 false false:=by rw[f2 1 (λh=>by have:=(hu.lt h).1;omega),g1]
     have lu:∀g:G,cV .slice u g=.val (.int .i64 (R.length:Int)):=λg=>by have:=hu2.len g;rwa [List.length_map] at this
     have hRl:R.length<=1024:=by
      have h1:R.Nodup:=hR.ord.imp λ{a b} h e=>by subst e;exact Cf h
      have h2:=List.Nodup.length_le_of_subset h1 (λx hx=>(hR.mem x).1 hx);have:=y_ (S.OM n e) (S.OM n e).length;unfold S.OT at h2;omega
     have hmn:min (kk:Int) (R.length:Int)=((min kk R.length:Nat):Int):=by omega
     obtain ⟨y,y1,y2⟩:=Ma hu2 (n:=min kk R.length) (by omega) (by omega);simp only[sz,simprocAttr,h2,h11,lu,hmn,List.head?_nil,List.head?_cons,y1];refine Hc (d:=d+1) (y2 _ λ_ _=>rfl) (λi hi=>(hu2.lt hi).2) (by rw[List.length_take];omega) λu3 g3 hu3 fr3 _=>?_;rw[KD] at hu3;obtain ⟨L,hL⟩:∃L,L=R.take kk:=⟨_,rfl⟩;rw[<-hL] at hu3;have hLm:∀x∈L,x∈S.OT (S.OM n e):=λx hx=>(hR.mem x).1 (List.mem_of_mem_take (by rw[<-hL];exact hx));have hLl:L.length<=50:=by rw[hL,List.length_take];omega
     have lu3:∀g:G,cV .slice u3 g=.val (.int .i64 (L.length:Int)):=λg=>by have:=hu3.len g;rwa [List.length_map] at this
     have g13:g3.h.get 1=.cells 1 [[.tptr t0 6 [[.int .i64 n.grain,bb,vw,ow,ww,.int .i64 (ms:Int)]] 0 0]] 0 false false:=by rw[fr3.2 1 (by omega),g12]
     have hwL:S.Pk n e (kk:Int) R=L:=by rw[S.Pk,if_pos hE,hL];rfl
     simp only[sz,simprocAttr,lu3,jD];have n3:=fr3.1;have lt3:∀i,vid u3=some i->i<g3.nx:=λi hi=>(hu3.lt hi).2;refine bj (m:=L.length) (by omega) (λj t df g=>df=[]/\g.h.get 1=.cells 1 [[.tptr t0 6 [[.int .i64 n.grain,bb,vw,ow,ww,.int .i64 (ms:Int)]] 0 0]] 0 false false/\g3.nx<=g.nx/\Own g g2.nx u3 1 (L.map ci)/\∃q,Own g g3.nx q 2 ((S.Pa n e (L.take j)).map wcq)/\St t [(9,.hptr 1 0 0 0),(11,u3),(14,q),(64,u3)])
      ⟨rfl,g13,Nat.le_refl _,hu3,.nils,.inl ⟨rfl,rfl⟩,by simp[St,sx,h9]⟩ (by simp[sx]) (by simp[sx]) (by decide) ?_ ?_ ?_
     ·rintro j t df g v s (rfl | rfl | rfl) ⟨a1,a2,a3,a4,q,a5,⟨b1,b2,b3,b4,-⟩⟩<;>exact ⟨a1,a2,a3,a4,q,a5,by simp[St,sx,b1,b2,b3,b4]⟩
     ·rintro j t df g hj ⟨rfl,g14,gn4,hu4,q,hq,h9,h11,h14,h64,-⟩ h66 h65;obtain ⟨x,hx,htk,hxm⟩:=ae hj;obtain ⟨i,wn,rfl,hi,hwn,hwb,hww'⟩:=JU hr (hLm x hxm);have u1:i<((S.OM n e).map ci).length:=by simpa using hi
      have u2:((S.OM n e).map ci)[i]?=some (ci (wn:Int)):=by rw[List.getElem?_map,hwn];rfl
      have z1:j<(L.map ci).length:=by simpa using hj
      have z2:(L.map ci)[j]?=some (ci (i:Int)):=by rw[List.getElem?_map,hx];rfl
      have kr:=λg=>JY (d:=d+1) (g:=g) (x:=wn) (y:=ms) hd1 (by omega) (by omega) (by omega);have hwq:S.wq n e (i:Int)=S.O5 wn ms:=by rw[S.wq,hww',hms];rfl
      simp only[sz,simprocAttr,sf,h64,h66,hu4.rows,z1,z2,ci,h9,g14,h14,xy,qU,eJ,rww,u1,u2,kr];refine aU (b:=g3.nx) (rows:=(S.Pa n e (L.take j)).map wcq) (new:=[wcq (S.O5 wn ms)]) (hq.fr (by simp<;>omega) λi' hi'=>?_) (by simp[sx,sy,wcq]) (by simp<;>omega) (by simp[aP,S.Pa];omega) λq2 ga hq2 n1 f1 vid1 lg1=>?_
      ·have:=(hq.lt hi').2;simp[H.get_put];omega
      simp only[sx,sy] at n1 f1 lg1;simp only[sz,simprocAttr,sf];refine ⟨?_,?_⟩
      ·simp only[List.reverse_cons,List.reverse_nil,List.nil_append,List.cons_append];refine aO [false,false,false,false,false,false,false,false,false,false,false,false,false,true,true,false] [(0,13)] (by simp[All2,ap,aF,vR]) (by decide) ?_;rintro p hp' x y hx hy;simp only[List.mem_cons,List.not_mem_nil,or_false] at hp';subst hp';simp at hx hy;subst hx;subst hy;refine dI rfl rfl rfl rfl ?_ ?_ ?_<;>simp[ap,aF,ak]
      have hfr:∀i',i'<g3.nx->ga.h.get i'=g.h.get i':=λi' hi'=>by rw[f1 i' (by omega) (λh=>by have:=(hq.lt h).1;omega)];simp[H.get_put];omega
      refine ⟨⟨?_,?_,?_,q2,?_,by simp[St,sx,h9,h11,h64]⟩,by simp[sx,h65,h66]⟩
      ·rw[hfr 1 (by omega),g14]
      ·first | omega | (simp<;>omega)
      ·exact hu4.fr (by first | omega | (simp<;>omega)) λi' hi'=>hfr i' (lt3 i' hi')
      ·rw[htk];have hq3:Own ga g3.nx q2 2 ((S.Pa n e (L.take j++[(i:Int)])).map wcq):=by simpa [S.Pa,hwq] using hq2
       exact hq3.fr (by first | omega | (simp<;>omega)) λi' hi'=>by simp
     ·rintro t df g ⟨rfl,g14,gn4,hu4,q,hq,h9,h11,h14,h64,-⟩;rw[List.take_length] at hq;simp only[sz,simprocAttr,jF,h11,h14];refine ⟨λ_=>True,R,λ_=>hR,?_⟩;unfold Bd;rw[hwL,hE];exact ⟨_,_,_,rfl,hu4.ints (by omega),⟨_,rfl,Own.sl (α:=QI) hq (by simp[S.Pa];omega) (All2.of_map (λq=>Kc q) _) λ_ _=>trivial⟩,aL.2 rfl⟩
  ·have hE:S.OZ n e kn=2:=by rw[S.OZ,if_pos href,if_neg ck]
   by_cases d1:kn<1
   ·simp only[sz,simprocAttr,uB,d1];exact ⟨λ_=>True,uS hE (by decide)⟩
   ·have d2:50<kn:=by omega
    simp only[sz,simprocAttr,uB,d1,d2];exact ⟨λ_=>True,uS hE (by decide)⟩
 ·have c':S.OY n e≠0:=by rw[<-hse];exact c
  have hE:S.OZ n e kn=S.O_ n e []:=by rw[S.OZ,if_neg c',hse]
  simp only[sz,simprocAttr,I9,c];exact ⟨λ_=>True,uS hE c⟩
def S.fl (R:List Int)(W j:Nat):List (List AV):=(List.range W).map λw:Nat=>[.bool (decide ((w:Int)∈R.take j))]
theorem Lr (R:List Int)(W:Nat):S.fl R W 0=List.replicate W [.bool false]:=by unfold S.fl;simp[List.map_const']
theorem vQ (R:List Int)(W j:Nat):(S.fl R W j).length=W:=by simp[S.fl]
theorem F4 {R:List Int}{W j w:Nat}(h:w<W):(S.fl R W j)[w]?=some [.bool (decide ((w:Int)∈R.take j))]:=by simp[S.fl,List.getElem?_map,List.getElem?_range h]
theorem Lq {R:List Int}{W j i:Nat}(h:R[j]?=some (i:Int)):(S.fl R W j).set i [.bool true]=S.fl R W (j+1):=by
 apply List.ext_getElem?;intro k;have hj:=(List.getElem?_eq_some_iff.1 h).1;have ht:R.take (j+1)=R.take j++[(i:Int)]:=by rw[List.take_add_one,h];rfl
 rw[List.getElem?_set,vQ]
 by_cases hk:k<W
 ·rw[F4 hk,F4 hk,ht]
  by_cases e:i=k
  ·subst e;rw[if_pos rfl,if_pos hk];simp
  ·rw[if_neg e];have:decide ((k:Int)∈R.take j++[(i:Int)])=decide ((k:Int)∈R.take j):=by refine decide_eq_decide.2 ?_;rw[List.mem_append,List.mem_singleton];exact ⟨λh=>h.elim id λh=>absurd h (by omega),.inl⟩
   rw[this]
 ·rw[List.getElem?_eq_none (l:=S.fl R W (j+1)) (by rw[vQ];omega)]
  split
  ·split
   ·omega
   ·rfl
  ·rw[List.getElem?_eq_none (by rw[vQ];omega)]
def S.us (R:List Int)(j w:Nat):Bool:=decide ((w:Int)∈R.take j)
theorem JS (mw:List Int)(us:Nat->Bool):∀i,0<=(S.OV mw us i).1
 | 0=>Int.le_refl _
 | i+1=>by
  have:=JS mw us i;rw[S.OV]
  split
  ·rename_i h;exact Int.le_of_lt (Int.lt_of_le_of_lt this h.2)
  ·exact this
def LRW (w' u11 u12 u13:AV)(kn ms:Int):List (Nat×AV):=[(1,w'),(2,.int .i64 kn),(3,.hptr 0 0 0 0),(10,.int .i64 ms),(11,u11),(12,u12),(13,u13)]
theorem Oj {d k1 bb j:Nat}{n:Net}{e R:List Int}{b w' u11 u12 u13:AV}{kn ms:Int}{rd:Option Nat}{Q:QT}{t:T}{g:G}(hd:0<d)(hr:NR n)(hel:e.length=n.nodes.length)(hm:∀h,Agg n NoP 0 h (.agg [.int .i64 n.grain,b]))(hw:∀h,SlR NoP k1 h e w')
  (g0:g.h.get 0=.cells 2 [[.int .i64 n.grain,b]] 0 false false) (hu:Own g bb u11 1 (S.fl R (S.OL n) j))
  (ht:St t ((14,.int .i64 0)::(15,.int .i64 (-1))::LRW w' u11 u12 u13 kn ms)) (h16:tat t 16=.int .i64 0)
  (fin:∀t,St t ((14,.int .i64 (S.OV (S.OM n e) (S.us R j) (S.OL n)).1)::(15,.int .i64 (S.OV (S.OM n e) (S.us R j) (S.OL n)).2)::LRW w' u11 u12 u13 kn ms)->Q (.exit 2) t [] g) :
  wpL (wp C0 d rd gN) Q t [] g:=by
 obtain ⟨W1,W2,W3⟩:=hr.wl;have lu:∀g:G,cV .slice u11 g=.val (.int .i64 (S.OL n:Int)):=λg=>by have:=hu.len g;rwa [vQ] at this
 simp only[gN,md];refine bp (S.OL n) (by omega) (λi t df g'=>df=[]/\g'=g/\St t ((14,.int .i64 (S.OV (S.OM n e) (S.us R j) i).1)::(15,.int .i64 (S.OV (S.OM n e) (S.us R j) i).2)::LRW w' u11 u12 u13 kn ms)) ⟨rfl,rfl,ht⟩ h16 (by decide) ?_ ?_ ?_ ?_
 ·rintro i t df g v s (rfl | rfl | rfl) ⟨a1,a2,⟨b1,b2,b3,b4,b5,b6,b7,b8,b9,-⟩⟩<;>exact ⟨a1,a2,by simp[St,LRW,sx,b1,b2,b3,b4,b5,b6,b7,b8,b9]⟩
 ·clear ht h16;rintro i t df g' hi ⟨rfl,rfl,h14,h15,h1,h2,h3,h10,h11,h12,h13,-⟩ h16;simp only[sz,simprocAttr,h11,h16,lu];simp[St,LRW,sx,h14,h15,h1,h2,h3,h10,h11,h12,h13]
 ·clear ht h16;rintro i t df g' hi ⟨rfl,rfl,h14,h15,h1,h2,h3,h10,h11,h12,h13,-⟩ h16;have z1:i<(S.fl R (S.OL n) j).length:=by rw[vQ];exact hi
  have z2:=F4 (R:=R) (j:=j) hi;have hP:S.OV (S.OM n e) (S.us R j) (i+1)=if S.us R j i=false/\(S.OV (S.OM n e) (S.us R j) i).1<S.wW (S.OM n e) (i:Int) then (S.wW (S.OM n e) (i:Int),(i:Int)) else S.OV (S.OM n e) (S.us R j) i:=rfl;have hwW:S.wW (S.OM n e) (i:Int)=if S.pe n e i then S.wt n i else 0:=by rw[S.wW,Int.toNat_natCast,Gq hi];rfl
  have hnn:=JS (S.OM n e) (S.us R j) i;obtain ⟨pk,hpk⟩:∃pk,pk=S.OV (S.OM n e) (S.us R j) i:=⟨_,rfl⟩;rw[<-hpk] at hP hnn h14 h15;cases c1:decide ((i:Int)∈R.take j) with
  | true =>
   rw[c1] at z2;have hus:S.us R j i=true:=c1;have hp':S.OV (S.OM n e) (S.us R j) (i+1)=pk:=by rw[hP,if_neg];rintro ⟨h,-⟩;rw[hus] at h;cases h
   rw[hp'];simp only[sz,simprocAttr,h11,h16,hu.rows,z1,z2];simp[St,LRW,sx,h14,h15,h1,h2,h3,h10,h11,h12,h13,h16]
  | false =>
   rw[c1] at z2;have hus:S.us R j i=false:=c1;simp only[sz,simprocAttr,h11,h16,hu.rows,z1,z2,h3,g0];refine a_ (tN (d:=d) (P:=NoP) (k:=0) (w:=i) hd (hm _) hr (by omega)) λrv hrv=>?_;have hvl:=pq (S.OG n) (i:Int);rw[aG] at hvl;have hma:=λg=>wF (d:=d) (g:=g) (P:=NoP) (P2:=NoP) (k:=0) (k2:=k1) (vals:=S.ON (S.OG n) (i:Int)) (e:=e) hd (hrv.sl g.h) (hw g.h) (by omega);have hpe:S.O8 (S.ON (S.OG n) (i:Int)) e=S.pe n e i:=rfl;rw[hpe] at hma;have hwt:∀g:G,am C0 d N.OL [.agg [.int .i64 n.grain,b],.int .i64 (i:Int)] g=.val (.int .i64 (S.wt n i)):=λg=>zg (d:=d) (g:=g) (w:=i) hd (hm g.h) hr (by omega);cases c2:S.pe n e i with
   | false =>
    rw[c2] at hma hwW;have hp':S.OV (S.OM n e) (S.us R j) (i+1)=pk:=by rw[hP,if_neg];rintro ⟨-,h⟩;rw[hwW] at h;simp at h;omega
    rw[hp'];simp only[sz,simprocAttr,h1,hma];simp[St,LRW,sx,h14,h15,h1,h2,h3,h10,h11,h12,h13,h16]
   | true =>
    rw[c2] at hma hwW;rw[if_pos rfl] at hwW
    by_cases c3:pk.1<S.wt n i
    ·have hp':S.OV (S.OM n e) (S.us R j) (i+1)=(S.wt n i,(i:Int)):=by rw[hP,if_pos ⟨hus,by rw[hwW];exact c3⟩,hwW]
     rw[hp'];simp only[sz,simprocAttr,h1,hma,h3,g0,h16,hwt,h14,c3];simp[St,LRW,sx,h14,h15,h1,h2,h3,h10,h11,h12,h13,h16]
    ·have hp':S.OV (S.OM n e) (S.us R j) (i+1)=pk:=by rw[hP,if_neg];rintro ⟨-,h⟩;rw[hwW] at h;exact c3 h
     rw[hp'];simp only[sz,simprocAttr,h1,hma,h3,g0,h16,hwt,h14,c3];simp[St,LRW,sx,h14,h15,h1,h2,h3,h10,h11,h12,h13,h16]
 ·rintro t df g' ⟨rfl,rfl,ht⟩;exact fin t ht
theorem Nj (a b:Int):CO true (.flat [.int .i64,.int .i64]) (.agg [.int .i64 a,.int .i64 b]) (.agg [.int .i64 a,.int .i64 b])=.val (.bool false):=by
 have ha:EC a a=true:=by rw[rO];simp
 have hb:EC b b=true:=by rw[rO];simp
 simp only[CO,eqA,cY,dy,mC,ha,hb]
 rfl
theorem Ol {d k1 kk ms:Nat}{n:Net}{e R:List Int}{b w' u0:AV}{rd:Option Nat}{Q:QT}{t:T}{g:G}(hd:0<d)(hr:NR n)(hel:e.length=n.nodes.length)(hm:∀h,Agg n NoP 0 h (.agg [.int .i64 n.grain,b]))(hw:∀h,SlR NoP k1 h e w')
  (hR:IsSrt (S.OM n e) R) (hk:kk<=50) (hms:S.Pe n e=(ms:Int)) (hm0:0<ms) (hm1:ms<=171992678400000000)
  (g0:g.h.get 0=.cells 2 [[.int .i64 n.grain,b]] 0 false false) (hn:2<=g.nx) (hu:Own g 1 u0 1 (S.fl R (S.OL n) 0)) (hv:∀i,vid u0=some i->i=1) (ht:St t (LRW w' u0 .nils .nils (kk:Int) (ms:Int)))
  (fin:∀t g' u12 u13,tat t 12=u12->tat t 13=u13->Own g' 2 u12 1 ((R.take kk).map ci)->Own g' 2 u13 2 ((S.Pa n e (R.take kk)).map wcq)->Q (.exit 0) t [] g') :
  wpL (wp C0 d rd dY) Q t [] g:=by
 have hml:(S.OM n e).length=S.OL n:=jR n e _;refine eW (λc t df g=>df=[]/\∃(j:Nat) (u12 u13:AV),c+j=R.length/\j<=kk/\g.h.get 0=.cells 2 [[.int .i64 n.grain,b]] 0 false false/\2<=g.nx/\Own g 1 u0 1 (S.fl R (S.OL n) j) /\
   Own g 2 u12 1 ((R.take j).map ci)/\Own g 2 u13 2 ((S.Pa n e (R.take j)).map wcq)/\(∀i,vid u12=some i->vid u13≠some i)/\St t (LRW w' u0 u12 u13 (kk:Int) (ms:Int))) R.length
  ⟨rfl,0,.nils,.nils,by omega,by omega,g0,hn,hu,.inl ⟨rfl,rfl⟩,.inl ⟨rfl,rfl⟩,(λi h=>by cases h),ht⟩ ?_
 clear ht hu g0 hn;rintro c t df g ⟨rfl,j,u12,u13,hcj,hj,g0,hn,hu,h12o,h13o,hdj,h1,h2,h3,h10,h11,h12,h13,-⟩;have hjl:(R.take j).length=j:=by rw[List.length_take];omega
 have l12:∀g:G,cV .slice u12 g=.val (.int .i64 (j:Int)):=λg=>by have:=h12o.len g;rwa [List.length_map,hjl] at this
 by_cases c1:j<kk
 ·have c1':(j:Int)<(kk:Int):=by omega
  simp only[dY,sz,simprocAttr,h12,h2,l12,c1'];refine Oj (bb:=1) (j:=j) (u12:=u12) (u13:=u13) (kn:=(kk:Int)) (ms:=(ms:Int)) hd hr hel hm hw g0 hu (by simp[St,LRW,sx,h1,h2,h3,h10,h11,h12,h13]) (by simp[sx]) ?_;rintro t ⟨h14,h15,h1,h2,h3,h10,h11,h12,h13,-⟩
  by_cases c2:j<R.length
  ·obtain ⟨x,hx,htk,hxm⟩:=ae c2;obtain ⟨i,wn,rfl,hi,hwn,hwb,hww'⟩:=JU hr ((hR.mem x).1 hxm);have hpk:=LP hR hx (us:=S.us R j) (λw _=>rfl);rw[hml,hww'] at hpk;rw[hpk] at h14 h15;have z1:i<(S.fl R (S.OL n) j).length:=by rw[vQ];omega
   have z2:=F4 (R:=R) (W:=S.OL n) (j:=j) (w:=i) (by omega);have d1:¬(i:Int)<0:=by omega
   have kr:=λg=>Ny (d:=d) (g:=g) (x:=wn) (y:=ms) hd (by omega) hm0 (by omega);have hwq:S.wq n e (i:Int)=S.O5 wn ms:=by rw[S.wq,hww',hms];rfl
   simp only[sz,simprocAttr,gO,h14,h15,d1,h11,hu.rows,z1,z2];refine cN (b:=1) (v:=u0) (sz:=1) (n:=1) (i:=i) (off:=0) (x:=.bool true) (row:=_) (row':=[.bool true]) hu z2 rfl rfl rfl λg5 o5 n5 f5=>?_;rw[Lq hx] at o5;have k12:Own g5 2 u12 1 ((R.take j).map ci):=h12o.fr (by omega) λi' hi'=>f5 i' (λh=>by have:=hv i' h;have:=(h12o.lt hi').1;omega);have k13:Own g5 2 u13 2 ((S.Pa n e (R.take j)).map wcq):=h13o.fr (by omega) λi' hi'=>f5 i' (λh=>by have:=hv i' h;have:=(h13o.lt hi').1;omega);have k0:g5.h.get 0=.cells 2 [[.int .i64 n.grain,b]] 0 false false:=by rw[f5 0 (λh=>by have:=hv 0 h;omega),g0]
   simp only[sz,simprocAttr,h12,h15];refine aU (new:=[ci (i:Int)]) (k12.step (Fr.new _ _)) (by simp[sx,sy,ci]) (by simp<;>omega) (by simp[aP];omega) λv6 g6 o6 n6 f6 vid6 _=>?_;simp at n6;have f6':∀i',i'<g5.nx->vid u12≠some i'->g6.h.get i'=g5.h.get i':=λi' h1 h2=>by rw[f6 i' (by simp;omega) h2,G.new_h,aq _ _ _ (by omega)]
   have v6n:∀i',vid v6=some i'->vid u12=some i'\/g5.nx<=i':=λi' hi'=>by
    rcases vid6 with h | ⟨q,h,hq⟩
    ·exact .inl (by rw[<-h];exact hi')
    ·rw[h] at hi';injection hi' with hi';exact .inr (by simp at hq;omega)
   have m13:Own g6 2 u13 2 ((S.Pa n e (R.take j)).map wcq):=k13.fr (by omega) λi' hi'=>f6' i' (k13.lt hi').2 λh=>hdj i' h hi';simp only[sz,simprocAttr,h13,h14,h10,kr];refine aU (new:=[wcq (S.O5 wn ms)]) (m13.step (Fr.new _ _)) (by simp[sx,sy,wcq]) (by simp<;>omega) (by simp[aP,S.Pa];omega) λv7 g7 o7 n7 f7 vid7 _=>?_;simp at n7;have f7':∀i',i'<g6.nx->vid u13≠some i'->g7.h.get i'=g6.h.get i':=λi' h1 h2=>by rw[f7 i' (by simp;omega) h2,G.new_h,aq _ _ _ (by omega)]
   simp only[sz,simprocAttr];refine ⟨c - 1,by omega,j+1,v6,v7,by omega,by omega,?_,by omega,?_,?_,?_,?_,?_⟩
   ·rw[f7' 0 (by omega) (λh=>by have:=(m13.lt h).1;omega),f6' 0 (by omega) (λh=>by have:=(k12.lt h).1;omega),k0]
   ·refine o5.fr (by omega) λi' hi'=>?_;have:=hv i' hi';subst this;rw[f7' 1 (by omega) (λh=>by have:=(m13.lt h).1;omega),f6' 1 (by omega) (λh=>by have:=(k12.lt h).1;omega)]
   ·rw[htk,List.map_append];have:Own g6 2 v6 1 ((R.take j).map ci++[(i:Int)].map ci):=by simpa using o6
    refine this.fr (by omega) λi' hi'=>f7' i' (this.lt hi').2 λh=>?_;rcases v6n i' hi' with q | q
    ·exact hdj i' q h
    ·have:=(k13.lt h).2;omega
   ·rw[htk];simpa [S.Pa,hwq] using o7
   ·intro i' hi' h;rcases vid7 with q | ⟨q,hq,hql⟩
    ·rw[q] at h;rcases v6n i' hi' with p | p
     ·exact hdj i' p h
     ·have:=(k13.lt h).2;omega
    ·rw[hq] at h;injection h with h;have:=(o6.lt hi').2;simp at hql;omega
   ·simp[St,LRW,sx,h1,h2,h3,h10,h11]
  ·have hpk:=LO hR (us:=S.us R j) (j:=j) (by omega) (λw _=>rfl);rw[hml] at hpk;rw[hpk] at h14 h15;have hRk:R.take kk=R.take j:=by rw[List.take_of_length_le (by omega),List.take_of_length_le (by omega)]
   rw[<-hRk] at h12o h13o;simp only[sz,simprocAttr,gO,h15];exact fin _ g u12 u13 (by simp[sx,h12]) (by simp[sx,h13]) h12o h13o
 ·have hjk:j=kk:=by omega
  subst hjk;simp only[dY,sz,simprocAttr,h12,h2,l12,Int.lt_irrefl];exact fin _ g u12 u13 (by simp[sx,h12]) (by simp[sx,h13]) h12o h13o
theorem Mq {n:Net}{e R:List Int}{kk bb b2:Nat}{u12 u13:AV}{g:G}(hE:S.OZ n e (kk:Int)=0)(hk:kk<=50)(h1:Own g bb u12 1 ((R.take kk).map ci))(h2:Own g b2 u13 2 ((S.Pa n e (R.take kk)).map wcq)):Bd n e (kk:Int) R (λ_=>True) 0 g.h (.tup [u12,u13,.int .i64 0]):=by
 have hL:S.Pk n e (kk:Int) R=R.take kk:=by rw[S.Pk,if_pos hE];rfl
 have hl:(R.take kk).length<=50:=by rw[List.length_take];omega
 unfold Bd;rw[hL,hE];exact ⟨_,_,_,rfl,h1.ints (by omega),⟨_,rfl,Own.sl (α:=QI) h2 (by simp[S.Pa];omega) (All2.of_map (λq=>Kc q) _) λ_ _=>trivial⟩,aL.2 rfl⟩
theorem EW {d k1:Nat}{P1:Nat->Prop}{g:G}{n:Net}{e R:List Int}{v w:AV}{kn:Int}(hd:0<d)(hm:Agg n NoP 0 g.h v)(he:SlR P1 k1 g.h e w)(hR:S.OZ n e kn=0->IsSrt (S.OM n e) R) :
  ∃r,am C0 d N.PC [v,w,.int .i64 kn] g=.val r/\Bd n e kn R NoP 0 .nil r:=by
 obtain ⟨b,rows,rfl,e1,hm',hN,r1,r2,r3,r4⟩:=fj d hm;obtain ⟨w',e2,hw'⟩:=be he d;have hd1:=Nat.succ_pos d;have kK:=λg:G=>HK (d:=d+1) (g:=g) hd1 (hm' g.h) (hw' g.h);rw[uh];refine aX xf (xs:=[.agg [.int .i64 n.grain,b],w',.int .i64 kn]) (by simp only[aE,e1,e2,bD 0]) (by simp[cz]) (DW n e kn R) (by decide) hd ?_
 by_cases c:S.OY n e=0
 ·obtain ⟨hr',hev⟩:=mr.1 c;have hr:=fL.1 hr';have hel:e.length=n.nodes.length:=by unfold S.O0 at hev;simp only[Bool.and_eq_true,decide_eq_true_eq] at hev;exact hev.1
  obtain ⟨W1,W2,W3⟩:=hr.wl
  by_cases ck:1<=kn/\kn<=50
  ·have d1:¬kn<1:=by omega
   have d2:¬50<kn:=by omega
   have kM:=λg:G=>J7 (d:=d+1) (g:=g) hd1 (hm' g.h) hr (hw' g.h) hel;have kW:=λg:G=>zh (d:=d+1) (g:=g) (P:=NoP) (k:=0) hd1 (hm' g.h) hr
   by_cases c2:S.Pe n e=0
   ·have hE:S.OZ n e kn=7:=by rw[S.OZ,if_pos c,if_pos ck,if_pos c2]
    simp only[sz,simprocAttr,cz,ct,kK,c,d1,d2,kM,c2];exact ⟨λ_=>True,uR hE (by decide)⟩
   ·have hE:S.OZ n e kn=0:=by rw[S.OZ,if_pos c,if_pos ck,if_neg c2]
    have hm0:=wC hr e;obtain ⟨ms,hms⟩:=Int.eq_ofNat_of_zero_le hm0.1;obtain ⟨kk,rfl⟩:=Int.eq_ofNat_of_zero_le (show 0<=kn by omega);rw[hms] at hm0 c2 kM;simp only[sz,simprocAttr,cz,ct,kK,c,d1,d2,kM,c2,kW];refine rR (b:=1) (n:=S.OL n) (by unfold aP;omega) (by unfold aP;omega) (by simp[show G.empty.nx=0 from rfl]) λu0 g1 o1 n1 f1 v1=>?_;simp only[show (G.empty.new (.cells 2 [[.int .i64 n.grain,b]] 0 false false)).nx=1 from rfl] at n1 f1 v1;rw[<-Lr R] at o1;have g0:g1.h.get 0=.cells 2 [[.int .i64 n.grain,b]] 0 false false:=by rw[f1 0 (by omega)];simp[H.get_put,show G.empty.nx=0 from rfl]
    simp only[sz,simprocAttr];refine Ol (n:=n) (e:=e) (R:=R) (b:=b) (w':=w') (u0:=u0) (kk:=kk) (ms:=ms) hd1 hr hel hm' hw' (hR hE) (by omega) hms (by omega) (by omega) g0 (by omega) o1 (λi h=>by rw[v1] at h;injection h with h;exact h.symm) (by simp[St,LRW,sx,show G.empty.nx=0 from rfl]) ?_;intro t g' u12 u13 h12 h13 p12 p13;simp only[sz,simprocAttr,me,h12,h13];exact ⟨λ_=>True,Mq hE (by omega) p12 p13⟩
  ·have hE:S.OZ n e kn=2:=by rw[S.OZ,if_pos c,if_neg ck]
   by_cases d1:kn<1
   ·simp only[sz,simprocAttr,cz,ct,kK,c,d1];exact ⟨λ_=>True,uR hE (by decide)⟩
   ·have d2:50<kn:=by omega
    simp only[sz,simprocAttr,cz,ct,kK,c,d1,d2];exact ⟨λ_=>True,uR hE (by decide)⟩
 ·have hE:S.OZ n e kn=S.OY n e:=by rw[S.OZ,if_neg c]
  simp only[sz,simprocAttr,cz,ct,kK,c];exact ⟨λ_=>True,uR hE c⟩
theorem A_ {n:Net}{e R:List Int}{k:Int}{r:AV}(h:Bd n e k R NoP 0 .nil r):∃a b,r=.tup [a,b,.int .i64 (S.OZ n e k)]/\SlR NoP 0 .nil (S.Pk n e k R) a/\SlR NoP 0 .nil (S.Pa n e (S.Pk n e k R)) b:=by obtain ⟨a,b,c,rfl,⟨a',ha',ha⟩,⟨b',hb',hb⟩,hc⟩:=h;injection ha' with ha';injection hb' with hb';subst ha';subst hb';have hc:=aL.1 hc;injection hc with hc;rw[hc];exact ⟨_,_,rfl,ha,hb⟩
theorem SlR.qs {P:Nat->Prop}{k:Nat}{h:H}{l:List QI}{v:AV}(r:SlR P k h l v):ah h 2 v=some (l.map wcq):=by
 obtain ⟨rows,h1,h2⟩:=r.rows;rw[show (2:Nat)=Rp.sz QI from rfl,h1,h2.eq_map (f:=wcq) λa b r=>by
  obtain ⟨p,q,rfl,hp,hq⟩:=xC.1 r;rw[aL.1 hp,aL.1 hq];rfl]
theorem Kg {d:Nat}{g:G}{v w:AV}{l:List QI}(hd:0<d)(hl:SlR NoP 0 .nil l v)(hl2:SlR NoP 0 .nil l w):am C0 d N.PA [v,w] g=.val (.bool true):=by
 obtain ⟨v',ev,hv⟩:=be (hl.tree (h':=g.h) (Nat.le_refl 0)) d;obtain ⟨w',ew,hw⟩:=be (hl2.tree (h':=g.h) (Nat.le_refl 0)) d;have rv:=λh=>(hv h).qs;have rw':=λh=>(hw h).qs;have lv:=(hv .nil).len;have lw:=(hw .nil).len;rw[vz];refine ej yy (xs:=[v',w']) (by simp only[aE,ev,ew]) (by simp[mQ]) hd ?_;simp only[sz,simprocAttr,mQ,lv,lw,nU];refine bp l.length hl.1 (λj t df g=>df=[]/\St t [(0,v'),(1,w')]) ⟨rfl,by simp[St,sx]⟩ (by simp[sx]) (by decide) (by rintro j t df g v s (rfl | rfl | rfl)<;>simp[St,sx]) ?_ ?_ ?_
 ·rintro j t df g hj ⟨rfl,h0,h1,-⟩ h5;simp only[sz,simprocAttr,h0,h5,lv];simp[St,sx,h0,h1]
 ·rintro j t df g hj ⟨rfl,h0,h1,-⟩ h5;obtain ⟨x,hx,-,-⟩:=ae hj;have z1:j<(l.map wcq).length:=by simpa using hj
  have z2:(l.map wcq)[j]?=some (wcq x):=by rw[List.getElem?_map,hx];rfl
  have hy1:jS v'=true:=rZ (rv .nil) z1;have hy2:jS w'=true:=rZ (rw' .nil) z1;simp only[sz,simprocAttr,h0,h1,h5,rv,rw',z1,z2,hy1,hy2,wcq,Nj];simp[St,sx,h0,h1,h5]
 ·rintro t df g ⟨rfl,-⟩;simp only[sz,simprocAttr,nV]
theorem mq {l:List Int}{n:Int}{i:Nat}:S.O4 l n i=true↔0<=l[i]?.getD 0/\l[i]?.getD 0<n/\(i=0\/l[i - 1]?.getD 0<l[i]?.getD 0):=by simp[S.O4,and_assoc]
theorem Dt {l:List Int}{n m:Int}(h:S.OS l n=true)(hn:n<=m):S.OS l m=true:=by refine List.all_eq_true.2 λi hi=>?_;have:=mq.1 (List.all_eq_true.1 h i hi);exact mq.2 ⟨this.1,by omega,this.2.2⟩
theorem Du {l:List Int}{j:Nat}(h:S.OS l (j:Int)=true):S.OS (l++[(j:Int)]) ((j+1:Nat):Int)=true:=by
 refine List.all_eq_true.2 λi hi=>?_;have hi:=List.mem_range.1 hi;rw[List.length_append,List.length_singleton] at hi;rw[mq]
 by_cases c:i<l.length
 ·have:=mq.1 (List.all_eq_true.1 h i (List.mem_range.2 c));rw[List.getElem?_append_left c,List.getElem?_append_left (by omega)];exact ⟨this.1,by omega,this.2.2⟩
 ·have e:i=l.length:=by omega
  subst e;rw[List.getElem?_append_right (Nat.le_refl _),Nat.sub_self,List.getElem?_cons_zero,Option.getD_some];refine ⟨by omega,by omega,?_⟩
  by_cases c0:l.length=0
  ·exact .inl c0
  ·right;rw[List.getElem?_append_left (by omega),List.getElem?_eq_getElem (by omega),Option.getD_some];exact (dP h _ (List.getElem_mem _)).2
def NX (m:Nat):VS:=λP k h v=>∃l:List Int,S.OS l (m:Int)=true/\G3 l P k h v
theorem Md (m:Nat):Snb (NX m) 0:=jV λl=>rC l
theorem JC {d m:Nat}{s:UInt8}{g:G}(hd:0<d)(hm:m<=8):∃r,am C0 d N.PB [u8v s,.int .i64 (m:Int)] g=.val r/\NX m NoP 0 .nil r:=by
 rw[vA];refine aX yz (xs:=[u8v s,.int .i64 (m:Int)]) (by simp only[aE,u8v,bD]) (by simp[mS]) (Md m) (by decide) hd ?_;simp only[sz,simprocAttr,mS,nW,nX];refine bp m (by omega) (λj t df g=>df=[]/\St t [(0,u8v s),(1,.int .i64 (m:Int))]/\∃l:List Int,S.OS l (j:Int)=true/\Own g 0 (tat t 5) 1 (l.map ci)) ⟨rfl,by simp[St,sx],[],by decide,.inl ⟨by simp[sx],rfl⟩⟩ (by simp[sx]) (by decide)
  (by rintro i t df g v s (rfl | rfl | rfl) ⟨a1,⟨b1,b2,-⟩,c1⟩<;>exact ⟨a1,by simp[St,sx,b1,b2],by simpa [sx] using c1⟩) ?_ ?_ ?_
 ·rintro j t df g hj ⟨rfl,⟨h0,h1,-⟩,l,hl,ho⟩ h6
  by_cases c:j<m
  ·have c1:(j:Int)<(m:Int):=by omega
   have c2:(j:Int)<8:=by omega
   simp only[sz,simprocAttr,h0,h1,h6,c1,c2];exact ⟨by simp[St,sx,h0,h1],l,hl,ho⟩
  ·have c1:¬(j:Int)<(m:Int):=by omega
   simp only[sz,simprocAttr,h0,h1,h6,c1];exact ⟨by simp[St,sx,h0,h1],l,hl,ho⟩
 ·rintro j t df g hj ⟨rfl,⟨h0,h1,-⟩,l,hl,ho⟩ h6;obtain ⟨z1,hz1⟩:=uZ s.toNat j;obtain ⟨z2,hz2⟩:=uY z1 1;have hz2':cq .and (.int .u8 (z1:Int)) (.int .u8 1)=.val (.int .u8 z2):=hz2;have w1:IntKind.wrap .u64 (j:Int)=(j:Int):=sn (by omega) (by omega);have hll:=iE hl (by omega)
  by_cases c:z2=1
  ·simp only[sz,simprocAttr,h0,h6,u8v,w1,hz1,hz2',c];refine aU (ho.fr (g':=_) (by simp<;>omega) (λi hi=>?_)) (new:=[[.int .i64 (j:Int)]]) ?_ (by simp<;>omega) (by simp[aP]<;>omega) λv5 g5 o5 n5 f5 w5 _=>?_
   ·have:=ho.lt hi;simp[H.get_put];omega
   ·simp[ah,H.get_put];rfl
   simp only[sz,simprocAttr];refine ⟨⟨by simp[St,sx,h0,h1,u8v],_,Du hl,?_⟩,by simp[sx,h6]⟩;simpa [sx,ci] using o5
  ·simp only[sz,simprocAttr,h0,h6,u8v,w1,hz1,hz2',c];exact ⟨by simp[St,sx,h0,h1,u8v],l,Dt hl (by omega),ho⟩
 ·rintro t df g ⟨rfl,-,l,hl,ho⟩;have hll:=iE hl (by omega);simp only[kB,sz,simprocAttr,nY];refine ⟨λ_=>True,l,hl,ho.sl (α:=Int) (by omega) (All2.of_map (λa=>aL.2 rfl) _) λ_ _=>trivial,?_⟩;rcases ho with ⟨h,-⟩ | ⟨id,ep,lo,-,-,h,-⟩<;>(rw[h];intro _ _ _ e;cases e)
def NV:VS:=λP k h v=>∃x:Net×Net,Drafted x.1/\Agg x P k h v
theorem LI {d:Nat}{g:G}{x:sT}{y:jA}{xs ys:List AV}(hd:0<d)(hx:Rp.rp NoP 0 .nil x xs)(hy:Rp.rp NoP 0 .nil y ys) :
  ∃r,am C0 d N.Ph [.agg xs,.agg ys] g=.val r/\NV NoP 0 .nil r:=by
 have e1:=iS d (iK (P:=NoP) hx g.h);have e2:=iS d (iK (P:=NoP) hy g.h);obtain ⟨a1,a2,ex,-⟩:=vY.1 hx;have hxl:xs.length=3:=by rw[ex];rfl
 have hyl:ys.length=4:=by rw[ze.1 hy];rfl
 clear ex a1 a2;rw[wO];refine aX zK (xs:=[.agg xs,.agg ys]) (by simp only[aE,e1,e2]) (by simp[oS]) (jV λo=>ch _) (by decide) hd ?_;simp only[sz,simprocAttr,oS];obtain ⟨g0,hg0⟩:∃g0,g0=((G.empty.new (AObj.cells xs.length [xs] 0 false false)).new (AObj.cells ys.length [ys] 0 false false)).new (.cells 4 [[.int .i64 0,.nils,.int .i64 0,.nils]] 0 false false):=⟨_,rfl⟩;rw[<-hg0];have f0:g0.h.get 0=.cells 3 [xs] 0 false false:=by rw[hg0,hxl];simp[sx,H.get_put]
 have f1:g0.h.get 1=.cells 4 [ys] 0 false false:=by rw[hg0,hyl];simp[sx,H.get_put]
 have f2:g0.h.get 2=.cells 4 [[.int .i64 0,.nils,.int .i64 0,.nils]] 0 false false:=by rw[hg0];simp[sx]
 have f3:g0.nx=3:=by rw[hg0];simp[sx]
 clear hg0;have ld0:bY (.cells 3 [xs] 0 false false) 0 0 true 3 0=.val (.agg xs):=by
  match xs,hxl with
  | [a,b,c],_=>rfl
 have ld1:bY (.cells 4 [ys] 0 false false) 0 0 true 4 0=.val (.agg ys):=by
  match ys,hyl with
  | [a,b,c,d],_=>rfl
 obtain ⟨rn,en,n,hdr,cn,rfl,hcn⟩:=FY (g:=g0) (d:=d+1) (Nat.succ_pos d) (iK (P:=NoP) hx g0.h);obtain ⟨b,rfl,hNb⟩:=cg.1 hcn;have hbd:∀y∈n.nodes,y.parents.length<=1000/\y.rows.length<=1000/\∀r∈y.rows,r.length<=1000:=hdr.b;have hn5:=hdr.l;simp only[sz,simprocAttr,qw,f0,ld0,en];simp only[sz,simprocAttr,sf,f1,f2,f3,ld1];refine a_ (K1 (K:=1000) (Nat.succ_pos d) (iK (P:=NoP) hy _) (iK (P:=NoP) hcn _) (by decide) (by omega) hbd) ?_;rintro r ⟨m,-,cm,rfl,hcm⟩;obtain ⟨b2,rfl,hNm⟩:=cg.1 hcm;have fw:eg [.int .i64 0,.nils,.int .i64 0,.nils] [((0,2),.agg [.int .i64 n.grain,b]),((2,2),.agg [.int .i64 m.grain,b2])]=some [.int .i64 n.grain,b,.int .i64 m.grain,b2]:=rfl;simp only[sz,simprocAttr,sf,f1,f2,f3,fw,tC];refine ⟨?_,?_⟩
 ·simp only[List.reverse_cons,List.reverse_nil,List.nil_append,List.cons_append];exact aO [false,false,false,false,false,true] [] (by simp[All2,ap,aF]) (by decide) (by simp)
 exact ⟨NoP,(n,m),hdr,_,rfl,_,_,rfl,Rp.tree hcn (Nat.le_refl _),Rp.tree hcm (Nat.le_refl _)⟩
def NQ (S1 S2 S3 S4 S5 S6:VS):VS:=λP k h v=>∃a b c d e f,v=.agg [a,b,c,d,e,f]/\S1 P k h a/\S2 P k h b/\S3 P k h c/\S4 P k h d/\S5 P k h e/\S6 P k h f
theorem Kr {S1 S2 S3 S4 S5 S6:VS}(h1:Snb S1 0)(h2:Snb S2 0)(h3:Snb S3 0)(h4:Snb S4 0)(h5:Snb S5 0)(h6:Snb S6 0):Snb (NQ S1 S2 S3 S4 S5 S6) 1:=by
 refine ⟨λ{P k h v n} d r hn=>?_,λ{k h v n} r hn=>?_⟩
 ·obtain ⟨n,rfl⟩:∃q,n=q+1:=⟨n - 1,by omega⟩;obtain ⟨a,b,c,d2,e,f,rfl,r1,r2,r3,r4,r5,r6⟩:=r;obtain ⟨a',e1,q1⟩:=h1.snap (n:=n) d r1 (by omega);obtain ⟨b',e2,q2⟩:=h2.snap (n:=n) d r2 (by omega);obtain ⟨c',e3,q3⟩:=h3.snap (n:=n) d r3 (by omega);obtain ⟨d',e4,q4⟩:=h4.snap (n:=n) d r4 (by omega);obtain ⟨e',e5,q5⟩:=h5.snap (n:=n) d r5 (by omega);obtain ⟨f',e6,q6⟩:=h6.snap (n:=n) d r6 (by omega);exact ⟨.agg [a',b',c',d',e',f'],by simp only[Hx.snap,aE,e1,e2,e3,e4,e5,e6],a',b',c',d',e',f',rfl,q1,q2,q3,q4,q5,q6⟩
 ·obtain ⟨n,rfl⟩:∃q,n=q+1:=⟨n - 1,by omega⟩;obtain ⟨a,b,c,d2,e,f,rfl,r1,r2,r3,r4,r5,r6⟩:=r;obtain ⟨m1,e1,l1⟩:=h1.tag (n:=n) r1 (by omega);obtain ⟨m2,e2,l2⟩:=h2.tag (n:=n) r2 (by omega);obtain ⟨m3,e3,l3⟩:=h3.tag (n:=n) r3 (by omega);obtain ⟨m4,e4,l4⟩:=h4.tag (n:=n) r4 (by omega);obtain ⟨m5,e5,l5⟩:=h5.tag (n:=n) r5 (by omega);obtain ⟨m6,e6,l6⟩:=h6.tag (n:=n) r6 (by omega);refine ⟨Nat.max m1 (Nat.max m2 (Nat.max m3 (Nat.max m4 (Nat.max m5 (Nat.max m6 0))))),by simp only[dH,eT,e1,e2,e3,e4,e5,e6],?_⟩;show max m1 (max m2 (max m3 (max m4 (max m5 (max m6 0)))))<=k;omega
def NS (n:Net)(E O:List Int):VS:=λP k h v=>∃x:List Int×List Int,(S.O0 n x.1=true/\S.OS x.2 (n.nodes.length:Int)=true)/\NQ (One x.1) (G3 x.2) (G3 (E.take 10)) (G3 x.2) (One x.1) (G3 (O.take 10)) P k h v
theorem GN {w:AV}{l:List Int}(hw:SlR NoP 0 .nil l w)(hr:Raw w)(c:Nat) :
  ∃w',(∀g,lR 1 w none (some (.int .i64 (min (l.length:Int) (c:Int)))) g=.val w')/\SlR NoP 0 .nil (l.take c) w'/\Sl1 w':=by
 have hm:min (l.length:Int) (c:Int)=((min l.length c:Nat):Int):=by omega
 have h1:Sl1 w:=by
  rcases hr with rfl | ⟨rows,rfl⟩
  ·intro _ _ _ e;cases e
  ·intro _ _ _ e;injection e with _ e;exact e.symm
 obtain ⟨w',q1,q2⟩:=NG hw h1 (c:=min l.length c) (by omega);rw[hm];have ht:l.take (min l.length c)=l.take c:=by rw[Nat.min_comm,<-List.take_take,List.take_length]
 refine ⟨w',q1,ht ▸ q2,?_⟩;have q0:=q1 G.empty;rcases hr with rfl | ⟨rows,rfl⟩
 ·have hl:l=[]:=hw.2;subst hl;have:w'=.nils:=by
   have:lR 1 .nils none (some (.int .i64 ((min ([]:List Int).length c:Nat):Int))) G.empty=.val .nils:=by rw[show min ([]:List Int).length c=0 by simp];rfl
   rw[this] at q0;injection q0 with q0;exact q0.symm
  subst this;intro _ _ _ e;cases e
 ·intro t s rs e;subst e;simp only[lR,iI] at q0;revert q0
  split
  ·intro h;cases h
  ·split
   ·intro h;cases h
   ·rw[show Nat.beq 1 1=true from rfl,bif'_true];intro h;injection h with h;injection h with _ h;exact h.symm
theorem Ef {d:Nat}{g:G}{n:Net}{vs:List UInt8}{s:UInt8}{E O:List Int}{ew ow:AV}{cn:List AV}(hd:0<d)(hv:vs.length=9)(hE:SlR NoP 0 .nil E ew)(hEr:Raw ew)(hO:SlR NoP 0 .nil O ow)(hOr:Raw ow)(hcn:Rp.rp NoP 0 .nil n cn)(hdr:Drafted n) :
  ∃r,am C0 d N.Pg [.agg (vs.map u8v++[u8v s,ew,ow]),.agg cn] g=.val r/\NS n E O NoP 0 .nil r:=by
 have e2:=iS d (iK (P:=NoP) hcn g.h);obtain ⟨b,rfl,hN⟩:=cg.1 hcn;obtain ⟨AA,hAA⟩:∃AA,AA=vs.map u8v++[u8v s,ew,ow]:=⟨_,rfl⟩;have q1:=iP (h:=g.h) d (hE.tree (h':=g.h) (Nat.le_refl 0));have q2:=iP (h:=g.h) d (hO.tree (h':=g.h) (Nat.le_refl 0));have e1:Hx.snap g.h d aB (.agg AA)=some (.agg AA):=by
  rw[hAA]
  match vs,hv with
  | [v0,v1,v2,v3,v4,v5,v6,v7,v8],_ =>
   have q1:Hx.snap g.h d 23 ew=some ew:=by rcases hEr with rfl | ⟨rows,rfl⟩<;>rfl
   have q2:Hx.snap g.h d 23 ow=some ow:=by rcases hOr with rfl | ⟨rows,rfl⟩<;>rfl
   show (match aE (Hx.snap g.h d 23) [u8v v0,u8v v1,u8v v2,u8v v3,u8v v4,u8v v5,u8v v6,u8v v7,u8v v8,u8v s,ew,ow] with | some xs=>some (AV.agg xs) | none=>none)=_;simp only[aE,q1,q2]
   rfl
 have hl12:AA.length=12:=by rw[hAA];simp[hv]
 have ldA:bY (.cells 12 [AA] 0 false false) 0 0 true 9 0=.val (.agg (vs.map u8v)):=by
  rw[hAA]
  match vs,hv with
  | [v0,v1,v2,v3,v4,v5,v6,v7,v8],_=>rfl
 have ldS:bY (.cells 12 [AA] 0 false false) 0 0 false 1 9=.val (u8v s):=by
  rw[hAA]
  match vs,hv with
  | [v0,v1,v2,v3,v4,v5,v6,v7,v8],_=>rfl
 have ldE:bY (.cells 12 [AA] 0 false false) 0 0 false 1 10=.val ew:=by
  rw[hAA]
  match vs,hv with
  | [v0,v1,v2,v3,v4,v5,v6,v7,v8],_=>rcases hEr with rfl | ⟨rows,rfl⟩<;>rfl
 have ldO:bY (.cells 12 [AA] 0 false false) 0 0 false 1 11=.val ow:=by
  rw[hAA]
  match vs,hv with
  | [v0,v1,v2,v3,v4,v5,v6,v7,v8],_=>rcases hOr with rfl | ⟨rows,rfl⟩<;>rfl
 have lE:=hE.len;have lO:=hO.len;have lN:=(hN.tree (h':=.nil) (Nat.le_refl 0)).len;have hn5:=hdr.l;have hcard:∀x∈n.nodes,0<x.card:=λx hx=>by rcases hdr.c x hx with h | h<;>omega
 obtain ⟨w1,hw1,hw2,hw3⟩:=GN hE hEr 10;obtain ⟨w2,hw4,hw5,hw6⟩:=GN hO hOr 10;have hw1':∀g,lR 1 ew none (some (.int .i64 (min (E.length:Int) 10))) g=.val w1:=hw1;have hw4':∀g,lR 1 ow none (some (.int .i64 (min (O.length:Int) 10))) g=.val w2:=hw4;rw[qg,<-hAA];refine aX th (xs:=[.agg AA,.agg [.int .i64 n.grain,b]]) (by simp only[aE,e1,e2]) (by simp[gD]) (jV λo=>Kr (aS _) (rC _) (rC _) (rC _) (aS _) (rC _)) (by decide) hd ?_;simp only[sz,simprocAttr,gD];obtain ⟨g0,hg0⟩:∃g0,g0=((G.empty.new (AObj.cells AA.length [AA] 0 false false)).new (AObj.cells 2 [[.int .i64 n.grain,b]] 0 false false)).new (.cells 6 [[.nils,.nils,.nils,.nils,.nils,.nils]] 0 false false):=⟨_,rfl⟩;rw[<-hg0];have f0:g0.h.get 0=.cells 12 [AA] 0 false false:=by rw[hg0,hl12];simp[sx,H.get_put]
 have f1:g0.h.get 1=.cells 2 [[.int .i64 n.grain,b]] 0 false false:=by rw[hg0];simp[sx,H.get_put]
 have f2:g0.h.get 2=.cells 6 [[.nils,.nils,.nils,.nils,.nils,.nils]] 0 false false:=by rw[hg0];simp[sx]
 clear hg0;unfold jH;simp only[sz,simprocAttr,f0,f1,ldA];refine a_ (Jq (m:=n) (Nat.succ_pos d) hv (iK (P:=NoP) hcn _) (by omega) hcard) ?_;rintro z ⟨ev,hev,hz⟩;have hz:SlR NoP 0 .nil ev z:=IT.sl (k:=0) hz .nil;simp only[sz,simprocAttr,f0,f1,ldS,lN];refine a_ (JC (m:=n.nodes.length) (Nat.succ_pos d) (by omega)) ?_;rintro y ⟨vars,hvp,hy1,hy2⟩;have fw2:∀{p q:AV},(p.cells=[p]/\p.isTup=false)->(q.cells=[q]/\q.isTup=false)->eg [.nils,.nils] [((0,1),p),((1,1),q)]=some [p,q]:=λhp hq=>by
  simp[eg,hp,hq,jd]
  rfl
 have fw6:∀{a b c d e f:AV},eg [.nils,.nils,.nils,.nils,.nils,.nils] [((0,2),.agg [a,b]),((2,2),.agg [c,d]),((4,2),.agg [e,f])]=some [a,b,c,d,e,f]:=λ{a b c d e f}=>rfl;simp only[sz,simprocAttr,sf,f0,f1,f2,ldE,ldO,lE,lO,List.head?_nil,List.head?_cons,hw1',hw4',fw2 hz.cell hy1.cell,fw2 hw2.cell hy1.cell,fw2 hz.cell hw5.cell,fw6];refine ⟨?_,?_⟩
 ·simp only[List.reverse_cons,List.reverse_nil,List.nil_append,List.cons_append];exact aO [false,false,false,false,false,false,false,false,false,false,false,false,false,false,false,false,false,false,false,false,false,false,true] [] (by simp[All2,ap,aF]) (by decide) (by simp)
 have wd:∀{l:List Int} {v:AV} (h:H),SlR NoP 0 .nil l v->SlR NoP 0 h l v:=λh r=>r.tree (Nat.le_refl 0);exact ⟨NoP,(ev,vars),⟨hev,hvp⟩,_,_,_,_,_,_,rfl,⟨_,rfl,wd _ hz⟩,⟨wd _ hy1,hy2⟩,⟨wd _ hw2,hw3⟩,⟨wd _ hy1,hy2⟩,⟨_,rfl,wd _ hz⟩,⟨wd _ hw5,hw6⟩⟩
theorem xa0 (id:Nat):Ji 2 1 (.hptr id 0 0 0) (.int .i64 0)=.val (.hptr id 0 0 0):=rfl
theorem xa1 (id:Nat):Ji 2 1 (.hptr id 0 0 0) (.int .i64 1)=.val (.hptr id 0 0 1):=rfl
theorem N4 (a b:AV):bY (.cells 2 [[a,b]] 0 false false) 0 0 false 1 0=.val a:=rfl
theorem N5 (a b:AV):bY (.cells 2 [[a,b]] 0 false false) 0 0 false 1 1=.val b:=rfl
theorem N6 (a b:AV):bY (.cells 2 [[a,b]] 0 false false) 0 0 true 2 0=.val (.agg [a,b]):=rfl
theorem Fl (g:G):am C0 1 N.PO [] g=.val (.bool true):=by kernel_rfl
theorem OD {a b c d e f:AV}(j:Nat)(hj:j<3):ixV true 3 2 (.agg [a,b,c,d,e,f]) (.int .i64 (j:Int))=.val (.agg [if j=0 then a else if j=1 then c else e,if j=0 then b else if j=1 then d else f]):=by
 have:j=0\/j=1\/j=2:=by omega
 rcases this with rfl | rfl | rfl<;>rfl
def LW3 (nets:AV)(kn:Int):List (Nat×AV):=[(3,.int .i64 kn),(4,.hptr 0 0 0 0),(5,.hptr 1 0 0 0),(6,.hptr 2 0 0 0),(25,nets)]
theorem OC {a b c:Int}(j:Nat)(hj:j<3):ixV false 3 1 (.agg [.int .i64 a,.int .i64 b,.int .i64 c]) (.int .i64 (j:Int))=.val (.int .i64 (if j=0 then a else if j=1 then b else c)):=by
 have:j=0\/j=1\/j=2:=by omega
 rcases this with rfl | rfl | rfl<;>rfl
theorem N7 {p10 p12 i0 j0:Nat}{n:Net}{ev vars:List Int}{b ew vw nets asks:AV}{kn k0 k1 k2:Int}{Q:QT}{t:T}{g:G}(hm:∀h,Agg n NoP 0 h (.agg [.int .i64 n.grain,b]))(he:SlR NoP 0 .nil ev ew)
  (g10:g.h.get p10=.cells 2 [[.int .i64 n.grain,b]] 0 false false) (g12:g.h.get p12=.cells 2 [[ew,vw]] 0 false false)
  (ht:St t ((41,.agg [.int .i64 k0,.int .i64 k1,.int .i64 k2])::(12,.hptr p12 0 0 0)::(33,.int .i64 (j0:Int))::(32,asks)::(10,.hptr p10 0 0 0)::(26,.int .i64 (i0:Int))::LW3 nets kn)) (h42:tat t 42=.int .i64 0)
  (fin:∀t,St t ((33,.int .i64 (j0:Int))::(32,asks)::(10,.hptr p10 0 0 0)::(26,.int .i64 (i0:Int))::LW3 nets kn)->Q (.exit 4) t [] g):wpL (wp C0 1 none cT) Q t [] g:=by
 simp only[cT];refine rI (m:=3) rfl (by omega) (λj t df g'=>df=[]/\g'=g/\St t ((41,.agg [.int .i64 k0,.int .i64 k1,.int .i64 k2])::(12,.hptr p12 0 0 0)::(33,.int .i64 (j0:Int))::(32,asks)::(10,.hptr p10 0 0 0)::(26,.int .i64 (i0:Int))::LW3 nets kn)) ⟨rfl,rfl,ht⟩ h42 (by decide) ?_ ?_ ?_
 ·rintro j t df g v s (rfl | rfl | rfl) ⟨a1,a2,⟨b1,b2,b3,b4,b5,b6,b7,b8,b9,b10,b11,-⟩⟩<;>exact ⟨a1,a2,by simp[St,LW3,sx,b1,b2,b3,b4,b5,b6,b7,b8,b9,b10,b11]⟩
 ·clear ht h42;rintro j t df g1 hj ⟨rfl,rfl,h41,h12,h33,h32,h10,h26,h3,h4,h5,h6,h25,-⟩ h42;obtain ⟨kx,hkx⟩:∃kx,kx=(if j=0 then k0 else if j=1 then k1 else k2):=⟨_,rfl⟩;simp only[sz,simprocAttr,h41,h42,OC j hj,<-hkx,h10,h12,g10,g12,xa0,xa1,N4,N5,N6];refine a_ (Fp (n:=n) (e:=ev) (kn:=kx) (by decide) (hm _) (he.tree (Nat.le_refl 0))) ?_;rintro r ⟨R,hR,hW⟩;obtain ⟨x1,y1,rfl,hx1,hy1⟩:=A_ hW;simp only[sz,simprocAttr,h10,h12,g10,g12,xa0,xa1,N4,N5,N6];refine a_ (EW (n:=n) (e:=ev) (R:=R) (kn:=kx) (by decide) (hm _) (he.tree (Nat.le_refl 0)) hR) ?_;intro r hW2;obtain ⟨x2,y2,rfl,hx2,hy2⟩:=A_ hW2;have kq:=λg:G=>IE (d:=1) (g:=g) (P:=NoP) (P2:=NoP) (k:=0) (k2:=0) (l:=S.Pk n ev kx R) (l2:=S.Pk n ev kx R) (by decide) (hx1.tree (Nat.le_refl 0)) (hx2.tree (Nat.le_refl 0));have ks:=λg:G=>Kg (d:=1) (g:=g) (by decide) hy1 hy2;simp only[sz,simprocAttr,kq,ks,decide_true];exact ⟨by simp[St,LW3,sx,h41,h12,h33,h32,h10,h26,h3,h4,h5,h6,h25],by simp[sx,h42]⟩
 ·rintro t df g' ⟨rfl,rfl,⟨-,-,ht⟩⟩;exact fin t ht
theorem N8 {p10 i0:Nat}{n:Net}{e1 v1 e2 v2 e3 v3:List Int}{b a1 a2 a3 a4 a5 a6 nets:AV}{kn:Int}{Q:QT}{t:T}{g:G}(hm:∀h,Agg n NoP 0 h (.agg [.int .i64 n.grain,b]))
  (q1:SlR NoP 0 .nil e1 a1) (q2:SlR NoP 0 .nil v1 a2) (q3:SlR NoP 0 .nil e2 a3) (q4:SlR NoP 0 .nil v2 a4) (q5:SlR NoP 0 .nil e3 a5) (q6:SlR NoP 0 .nil v3 a6)
  (g10:g.h.get p10=.cells 2 [[.int .i64 n.grain,b]] 0 false false) (b10:p10<g.nx)
  (ht:St t ((32,.agg [a1,a2,a3,a4,a5,a6])::(10,.hptr p10 0 0 0)::(26,.int .i64 (i0:Int))::LW3 nets kn)) (h33:tat t 33=.int .i64 0)
  (fin:∀t g',St t ((26,.int .i64 (i0:Int))::LW3 nets kn)->g.nx<=g'.nx->(∀i,i<g.nx->g'.h.get i=g.h.get i)->Q (.exit 2) t [] g'):wpL (wp C0 1 none cU) Q t [] g:=by
 simp only[cU,eZ];refine rI (m:=3) rfl (by omega) (λj t df g'=>df=[]/\St t ((32,.agg [a1,a2,a3,a4,a5,a6])::(10,.hptr p10 0 0 0)::(26,.int .i64 (i0:Int))::LW3 nets kn)/\g.nx<=g'.nx/\(∀i,i<g.nx->g'.h.get i=g.h.get i)) ⟨rfl,ht,Nat.le_refl _,λ_ _=>rfl⟩ h33 (by decide) ?_ ?_ ?_
 ·rintro j t df g v s (rfl | rfl | rfl) ⟨a1,⟨b1,b2,b3,b4,b5,b6,b7,b8,-⟩,c⟩<;>exact ⟨a1,by simp[St,LW3,sx,b1,b2,b3,b4,b5,b6,b7,b8],c⟩
 ·clear ht h33;rintro j t df g1 hj ⟨rfl,⟨h32,h10,h26,h3,h4,h5,h6,h25,-⟩,hn,hf⟩ h33;obtain ⟨ev,ew,vars,vw,he,hv,hea,hva⟩:∃(ev:List Int) (ew:AV) (vars:List Int) (vw:AV),SlR NoP 0 .nil ev ew/\SlR NoP 0 .nil vars vw/\(if j=0 then a1 else if j=1 then a3 else a5)=ew/\(if j=0 then a2 else if j=1 then a4 else a6)=vw:=by
   have:j=0\/j=1\/j=2:=by omega
   rcases this with rfl | rfl | rfl
   ·exact ⟨e1,a1,v1,a2,q1,q2,rfl,rfl⟩
   ·exact ⟨e2,a3,v2,a4,q3,q4,rfl,rfl⟩
   ·exact ⟨e3,a5,v3,a6,q5,q6,rfl,rfl⟩
  have g10':g1.h.get p10=.cells 2 [[.int .i64 n.grain,b]] 0 false false:=by rw[hf _ b10,g10]
  refine iO (P:=λt' df g2=>df=[]/\g2.nx=g1.nx+1/\(∀i,i<g1.nx->g2.h.get i=g1.h.get i)/\g2.h.get g1.nx=.cells 2 [[ew,vw]] 0 false false/\St t' ((12,.hptr g1.nx 0 0 0)::(33,.int .i64 (j:Int))::(32,.agg [a1,a2,a3,a4,a5,a6])::(10,.hptr p10 0 0 0)::(26,.int .i64 (i0:Int))::LW3 nets kn)) ?_ ?_
  ·simp only[sz,simprocAttr,h32,h33,OD j hj,hea,hva];simp[St,LW3,sx,h32,h33,h10,h26,h3,h4,h5,h6,h25];intro i hi;rw[if_neg (by omega),if_neg (by omega)]
  rintro t df g2 ⟨rfl,n2,f2,c2,h12,h33,h32,h10,h26,h3,h4,h5,h6,h25,-⟩;have g10b:g2.h.get p10=.cells 2 [[.int .i64 n.grain,b]] 0 false false:=by rw[f2 p10 (by omega),g10']
  simp only[sz,simprocAttr,h3];refine N7 (p10:=p10) (p12:=g1.nx) (i0:=i0) (j0:=j) (n:=n) (ev:=ev) (vars:=vars) (b:=b) (ew:=ew) (vw:=vw) (nets:=nets) (kn:=kn) (k0:=kn) (k1:=min kn 0) (k2:=max kn 51) (asks:=.agg [a1,a2,a3,a4,a5,a6]) hm he (by simpa using g10b) (by simpa using c2) (by simp[St,LW3,sx,h12,h33,h32,h10,h26,h3,h4,h5,h6,h25]) (by simp[sx]) ?_;rintro t ⟨h33,h32,h10,h26,h3,h4,h5,h6,h25,-⟩;simp only[sz,simprocAttr];refine ⟨⟨by simp[St,LW3,sx,h32,h10,h26,h3,h4,h5,h6,h25],by omega,λi hi=>?_⟩,by simp[sx,h33]⟩;rw[f2 i (by omega),hf i hi]
 ·rintro t df g' ⟨rfl,⟨-,-,ht⟩,hn,hf⟩;exact fin t g' ht hn hf
theorem sU {x:sT}{y:jA}{u1 u2 ew ow:AV}{vs:List UInt8}{s:UInt8}{E O:List Int}{kn:Int}(hx:Agg x NoP 0 .nil u1)(hy:Agg y NoP 0 .nil u2)
  (hv:vs.length=9) (hE:SlR NoP 0 .nil E ew) (hEr:Raw ew) (hO:SlR NoP 0 .nil O ow) (hOr:Raw ow) (_:-9223372036854775808<=kn/\kn<9223372036854775808) :
  ∃g',(I C0).call 1 N.PM [u1,u2,.agg (vs.map u8v++[u8v s,ew,ow]),.int .i64 kn] G.empty=.ok (.bool true) g':=by
 obtain ⟨xs,rfl,qx⟩:=hx;obtain ⟨ys,rfl,qy⟩:=hy;obtain ⟨a1',a2',e1,-⟩:=vY.1 qx;have hxl:xs.length=3:=by rw[e1];rfl
 have hyl:ys.length=4:=by rw[ze.1 qy];rfl
 clear e1 a1' a2';obtain ⟨AA,hAA⟩:∃AA,AA=vs.map u8v++[u8v s,ew,ow]:=⟨_,rfl⟩;have hAl:AA.length=12:=by rw[hAA];simp[hv]
 rw[<-hAA];have key:=rL (C:=C0) (d:=1) (f:=N.PM) («as»:=[.agg xs,.agg ys,.agg AA,.int .i64 kn]) (g:=G.empty) (K:=λv g'=>v=.bool true) oQ (by simp[dS]) ?_
 ·cases hc:(I C0).call 1 N.PM [.agg xs,.agg ys,.agg AA,.int .i64 kn] G.empty with
  | fail=>rw[hc] at key;exact key.elim
  | ok v g'=>rw[hc] at key;exact ⟨g',by rw[show v=.bool true from key]⟩
 simp only[sz,simprocAttr,dS];obtain ⟨g0,hg0⟩:∃g0,g0=((G.empty.new (AObj.cells xs.length [xs] 0 false false)).new (AObj.cells ys.length [ys] 0 false false)).new (AObj.cells AA.length [AA] 0 false false):=⟨_,rfl⟩;rw[<-hg0];have f0:g0.h.get 0=.cells 3 [xs] 0 false false:=by rw[hg0,hxl];simp[sx,H.get_put]
 have f1:g0.h.get 1=.cells 4 [ys] 0 false false:=by rw[hg0,hyl];simp[sx,H.get_put]
 have f2:g0.h.get 2=.cells 12 [AA] 0 false false:=by rw[hg0,hAl];simp[sx,H.get_put]
 have f4:g0.nx=3:=by rw[hg0];simp[sx]
 clear hg0;have ld0:bY (.cells 3 [xs] 0 false false) 0 0 true 3 0=.val (.agg xs):=by
  match xs,hxl with
  | [a,b,c],_=>rfl
 have ld1:bY (.cells 4 [ys] 0 false false) 0 0 true 4 0=.val (.agg ys):=by
  match ys,hyl with
  | [a,b,c,d],_=>rfl
 have ld2:bY (.cells 12 [AA] 0 false false) 0 0 true 12 0=.val (.agg AA):=by
  match AA,hAl with
  | [a0,a1,a2,a3,a4,a5,a6,a7,a8,a9,a10,a11],_=>rfl
 simp only[sz,simprocAttr,fS,Fl,f0,f1,ld0,ld1];refine a_ (LI (by decide) qx qy) ?_;rintro r ⟨⟨n,m⟩,hdr,cs,rfl,c1,c2,rfl,hn1,hn2⟩;obtain ⟨b,rfl,hb1⟩:=cg.1 hn1;obtain ⟨b2,rfl,hb2⟩:=cg.1 hn2;have hM:∀h,Agg n NoP 0 h (.agg [.int .i64 n.grain,b]):=λh=>iK hn1 h;have hM2:∀h,Agg m NoP 0 h (.agg [.int .i64 m.grain,b2]):=λh=>iK hn2 h;simp only[sz,simprocAttr,List.cons_append,List.nil_append];obtain ⟨nets,hnets⟩:∃nets,nets=AV.agg [.int .i64 n.grain,b,.int .i64 m.grain,b2]:=⟨_,rfl⟩;rw[<-hnets];simp only[eX,e8];refine rI (m:=2) rfl (by omega) (λj t df g=>df=[]/\St t (LW3 nets kn)/\g0.nx<=g.nx/\∀i,i<g0.nx->g.h.get i=g0.h.get i) ⟨rfl,by simp[St,LW3,sx],Nat.le_refl _,λ_ _=>rfl⟩ (by simp[sx]) (by decide) ?_ ?_ ?_
 ·rintro j t df g v s (rfl | rfl | rfl) ⟨a1,⟨b1,b2,b3,b4,b5,-⟩,c⟩<;>exact ⟨a1,by simp[St,LW3,sx,b1,b2,b3,b4,b5],c⟩
 ·rintro j t df g1 hj ⟨rfl,⟨h3,h4,h5,h6,h25,-⟩,hn,hf⟩ h26;obtain ⟨n1,bb,hm1,hix⟩:∃(n1:Net) (bb:AV),(∀h,Agg n1 NoP 0 h (.agg [.int .i64 n1.grain,bb]))/\ixV true 2 2 nets (.int .i64 (j:Int))=.val (.agg [.int .i64 n1.grain,bb]):=by
   rw[hnets];have:j=0\/j=1:=by omega
   rcases this with rfl | rfl
   ·exact ⟨n,b,hM,rfl⟩
   ·exact ⟨m,b2,hM2,rfl⟩
  have e0:g1.h.get 0=.cells 3 [xs] 0 false false:=by rw[hf 0 (by omega),f0]
  have e2:g1.h.get 2=.cells 12 [AA] 0 false false:=by rw[hf 2 (by omega),f2]
  simp only[sz,simprocAttr,h4,h6,h25,h26,hix,show ¬2=g1.nx by omega,show ¬0=g1.nx by omega,e2,ld2,e0,ld0];refine a_ (FY (by decide) (iK (P:=NoP) qx _)) ?_;rintro r ⟨n0,hd0,cn,rfl,hcn⟩;simp only[sz,simprocAttr];rw[hAA];refine a_ (Ef (n:=n0) (E:=E) (O:=O) (by decide) hv hE hEr hO hOr hcn hd0) ?_;rintro r ⟨⟨ev,vars⟩,⟨hev,hvp⟩,a1,a2,a3,a4,a5,a6,rfl,q1,q2,q3,q4,q5,q6⟩;simp only[sz,simprocAttr];obtain ⟨w1,hw1,q1⟩:=q1;obtain ⟨w5,hw5,q5⟩:=q5;injection hw1 with hw1;injection hw5 with hw5;subst hw1;subst hw5;refine N8 (p10:=g1.nx) (i0:=j) (n:=n1) (b:=bb) (nets:=nets) (kn:=kn) (e1:=ev) (v1:=vars) (v2:=vars) (e3:=ev) hm1 q1 q2.1 q3.1 q4.1 q5 q6.1 (by simp[H.get_put]) (by simp) (by simp[St,LW3,sx,h3,h4,h5,h6,h25,h26]) (by simp[sx]) ?_;rintro t6 g6 ⟨h26,h3,h4,h5,h6,h25,-⟩ n6 f6;simp only[sz,simprocAttr];refine ⟨⟨by simp[St,LW3,h3,h4,h5,h6,h25],?_,λi hi=>?_⟩,h26⟩
  ·have:g1.nx<=g6.nx:=Nat.le_trans (by simp) n6;omega
  ·rw[f6 i (by simp;omega)];simp[H.get_put,show ¬i=g1.nx by omega,hf i hi]
 ·rintro t df g1 ⟨rfl,-⟩;simp only[sz,simprocAttr,e_]
end
end Hx
end
section
namespace Hx
open Go Go.RowKit Go.ChangeShapes Go.WideShapes
def s8 (P:Program):List Field->Nat->Option Nat
 | [],k=>some k
 | f::fs,k=>if f.offset=k then s8 P fs (k+P.cellsOf f.type) else none
def tL (P:Program):Nat->TypeId->Bool
 | 0,_=>false
 | n+1,t=>match P.underlying t with
  | some .bool=>true
  | some (.int _)=>true
  | some (.slice e)=>decide (0<P.cellsOf e)&&tL P n e
  | some (.struct fs)=>(s8 P fs.toList 0 == some (P.cellsOf t))&&fs.toList.all (λf=>tL P n f.type)
  | some (.array m e)=>decide (m*P.cellsOf e=P.cellsOf t)&&tL P n e
  | _=>false
def Sh (P:Program):Nat->TypeId->List AV->Prop
 | 0,_,_=>False
 | n+1,t,xs=>match P.underlying t with
  | some .bool=>∃b,xs=[.bool b]
  | some (.int k)=>∃z,xs=[.int k z]/\(Lit.int k z).wf=true
  | some (.slice e)=>xs=[.nils]\/∃rows,xs=[.tsl 0 (P.cellsOf e) rows]/\rows.length<9223372036854775808/\∀row∈rows,Sh P n e row
  | some (.struct fs)=>∃xss,xs=xss.flatten/\All2 (λ(f:Field) ys=>Sh P n f.type ys) fs.toList xss
  | some (.array m e)=>∃xss:List (List AV),xs=xss.flatten/\xss.length=m/\∀ys∈xss,Sh P n e ys
  | _=>False
def Ci (P:Program)(w:World)(n:Nat)(t:TypeId)(xs:List AV)(cs:List Value):Prop :=
 RVs0 w xs cs/\(∀y∈xs,y.one=true/\Closed y)/\Sh P n t xs
theorem RVs0.append {w:World}{xs ys:List AV}{cs ds:List Value}(h:RVs0 w xs cs)(h':RVs0 w ys ds):RVs0 w (xs++ys) (cs++ds):=by
 refine ⟨by rw[List.length_append,List.length_append,h.1,h'.1],λi x v hx hv=>?_⟩;rcases Nat.lt_or_ge i xs.length with hi | hi
 ·rw[List.getElem?_append_left hi] at hx;rw[List.getElem?_append_left (by rw[<-h.1];exact hi)] at hv;exact h.2 i x v hx hv
 ·rw[List.getElem?_append_right hi] at hx;rw[List.getElem?_append_right (by rw[<-h.1];exact hi),<-h.1] at hv;exact h'.2 _ x v hx hv
theorem Ft (b o n:Nat):(⟨b,o,none⟩:Addr).add n=adr b (o+n):=by
 unfold Addr.add
 split
 ·rename_i h;subst h;rfl
 ·rfl
variable {H:Type}{enc:TypeId×Value->H}{P:Program}{w:World}
theorem At:∀{fl:List Field} {k K:Nat},s8 P fl k=some K->k<=K
 | [],k,K,h=>by injection h with h;omega
 | f::fl,k,K,h=>by
  unfold s8 at h
  split at h
  ·have:=At h;omega
  ·cases h
theorem JR {n:Nat}{cs:List Value}:∀{fl:List Field} {k K:Nat},s8 P fl k=some K ->
  (∀f∈fl,∃xs,Ci P w n f.type xs ((cs.drop f.offset).take (P.cellsOf f.type))) ->
  ∃xss,All2 (λ(f:Field) ys=>Sh P n f.type ys) fl xss/\RVs0 w xss.flatten ((cs.drop k).take (K - k))/\∀y∈xss.flatten,y.one=true/\Closed y
 | [],k,K,h,_=>by injection h with h;subst h;exact ⟨[],trivial,by rw[Nat.sub_self,List.take_zero];exact ⟨rfl,λi x v hx=>by simp at hx⟩,λy hy=>by simp at hy⟩
 | f::fl,k,K,h,hg=>by
  unfold s8 at h
  split at h
  ·rename_i ho;subst ho;obtain ⟨xs,h1,h2,h3⟩:=hg f (by simp);obtain ⟨xss,a1,a2,a3⟩:=JR h λf' hf'=>hg f' (by simp[hf']);have hle:=At h;refine ⟨xs::xss,⟨h3,a1⟩,?_,λy hy=>?_⟩
   ·have e:(cs.drop f.offset).take (K - f.offset)=(cs.drop f.offset).take (P.cellsOf f.type)++(cs.drop (f.offset+P.cellsOf f.type)).take (K - (f.offset+P.cellsOf f.type)):=by rw[show K - f.offset=P.cellsOf f.type+(K - (f.offset+P.cellsOf f.type)) by omega,List.take_add,List.drop_drop]
    rw[e,List.flatten_cons];exact h1.append a2
   ·rw[List.flatten_cons,List.mem_append] at hy;rcases hy with hy | hy
    ·exact h2 y hy
    ·exact a3 y hy
  ·cases h
theorem Fu {n:Nat}{e:TypeId}{cs:List Value}:∀{m k:Nat},
  (∀i,i<m->∃xs,Ci P w n e xs ((cs.drop ((k+i)*P.cellsOf e)).take (P.cellsOf e))) ->
  ∃xss:List (List AV),xss.length=m/\(∀ys∈xss,Sh P n e ys)/\RVs0 w xss.flatten ((cs.drop (k*P.cellsOf e)).take (m*P.cellsOf e))/\∀y∈xss.flatten,y.one=true/\Closed y
 | 0,k,_=>⟨[],rfl,λy hy=>by simp at hy,by rw[Nat.zero_mul,List.take_zero];exact ⟨rfl,λi x v hx=>by simp at hx⟩,λy hy=>by simp at hy⟩
 | m+1,k,hg=>by
  obtain ⟨xs,h1,h2,h3⟩:=hg 0 (by omega);rw[Nat.add_zero] at h1;obtain ⟨xss,a0,a1,a2,a3⟩:=Fu (m:=m) (k:=k+1) λi hi=>by have:=hg (i+1) (by omega);rwa [show k+(i+1)=k+1+i by omega] at this
  refine ⟨xs::xss,by simp[a0],λys hy=>?_,?_,λy hy=>?_⟩
  ·rcases List.mem_cons.1 hy with rfl | hy
   ·exact h3
   ·exact a1 ys hy
  ·have e:(cs.drop (k*P.cellsOf e)).take ((m+1)*P.cellsOf e)=(cs.drop (k*P.cellsOf e)).take (P.cellsOf e)++(cs.drop ((k+1)*P.cellsOf e)).take (m*P.cellsOf e):=by rw[show (m+1)*P.cellsOf e=P.cellsOf e+m*P.cellsOf e by rw[Nat.add_mul];omega,List.take_add,List.drop_drop,Nat.add_mul,Nat.one_mul]
   rw[e,List.flatten_cons];exact h1.append a2
  ·rw[List.flatten_cons,List.mem_append] at hy;rcases hy with hy | hy
   ·exact h2 y hy
   ·exact a3 y hy
theorem Je:∀(n:Nat) (t:TypeId),tL P n t=true->∀(fuel:Nat) (cs:List Value) (x:DataW H×List MemPlace),DataW.trod enc P w 0 (λ_=>true) true fuel t cs=some x->∃xs,Ci P w n t xs cs:=by
 intro n
 induction n with
 | zero=>intro t h;simp[tL] at h
 | succ n ih =>
  intro t h fuel cs x hx;unfold tL at h
  split at h
  ·rename_i hu;obtain ⟨b,rfl,-⟩:=DataW.trod_bool hu hx;refine ⟨[.bool b],⟨rfl,λi x v h1 h2=>?_⟩,λy hy=>?_,?_⟩
   ·cases i with
    | zero=>simp at h1 h2;subst h1;subst h2;exact .bool _ _
    | succ i=>simp at h1
   ·simp at hy;subst hy;exact ⟨rfl,.bool _⟩
   ·unfold Sh;rw[hu];exact ⟨b,rfl⟩
  ·rename_i k hu;obtain ⟨z,rfl,-,hwf⟩:=DataW.trod_int hu hx;refine ⟨[.int k z],⟨rfl,λi x v h1 h2=>?_⟩,λy hy=>?_,?_⟩
   ·cases i with
    | zero=>simp at h1 h2;subst h1;subst h2;exact .int _ _ _
    | succ i=>simp at h1
   ·simp at hy;subst hy;exact ⟨rfl,.int _ _⟩
   ·unfold Sh;rw[hu];exact ⟨z,rfl,hwf⟩
  ·rename_i e hu;rw[Bool.and_eq_true,decide_eq_true_eq] at h;obtain ⟨hpos,hp⟩:=h;rcases DataW.trod_slice hu hx with ⟨rfl,-⟩ | ⟨a,len,cap,elems,rest,m,-,rfl,-,-,hlc,hcm,hlen,hel,-,-⟩
   ·refine ⟨[.nils],⟨rfl,λi x v h1 h2=>?_⟩,λy hy=>?_,?_⟩
    ·cases i with
     | zero=>simp at h1 h2;subst h1;subst h2;exact .nils _
     | succ i=>simp at h1
    ·simp at hy;subst hy;exact ⟨rfl,.nils⟩
    ·unfold Sh;rw[hu];exact .inl rfl
   ·have each:∀i,i<len->∃xs vs,w.cells? 0 (a.add (i*P.cellsOf e)) (P.cellsOf e)=some vs/\Ci P w n e xs vs:=by intro i hi;have:=hel i hi;rw[List.getElem?_eq_getElem (show i<elems.length by omega),Option.bind_eq_some_iff] at this;obtain ⟨vs,h1,h2⟩:=this;obtain ⟨xs,hg⟩:=ih e hp _ _ _ h2;exact ⟨xs,vs,h1,hg⟩
    let rowf:Nat->List AV:=λi=>if hi:i<len then Classical.choose (each i hi) else []
    let valf:Nat->List Value:=λi=>if hi:i<len then Classical.choose (Classical.choose_spec (each i hi)) else []
    have hrow:∀i,i<len->w.cells? 0 (a.add (i*P.cellsOf e)) (P.cellsOf e)=some (valf i)/\Ci P w n e (rowf i) (valf i):=by intro i hi;have:=Classical.choose_spec (Classical.choose_spec (each i hi));simpa only[rowf,valf,dif_pos hi] using this
    have hget:∀(i:Nat) (row:List AV),((List.range len).map rowf)[i]?=some row->i<len/\row=rowf i:=by
     intro i row h1;rw[List.getElem?_map] at h1;rcases Nat.lt_or_ge i len with hi | hi
     ·rw[List.getElem?_range hi] at h1;injection h1 with h1;exact ⟨hi,h1.symm⟩
     ·rw[List.getElem?_eq_none (by simpa using hi)] at h1;cases h1
    refine ⟨[.tsl 0 (P.cellsOf e) ((List.range len).map rowf)],⟨rfl,λi x v h1 h2=>?_⟩,λy hy=>?_,?_⟩
    ·cases i with
     | succ i=>simp at h1
     | zero =>
      simp at h1 h2;subst h1;subst h2;rcases Nat.eq_zero_or_pos len with h0 | h0
      ·subst h0;exact .tnil 0 0 _ a cap (Nat.le_refl _)
      ·obtain ⟨b,o,spot⟩:=a;have hc0:=World.cells?_some (hrow 0 h0).1;have hv0:(valf 0)[0]?=some (valf 0)[0]:=List.getElem?_eq_getElem (by rw[hc0.2.1];exact hpos);have h00:=hc0.2.2 0 hpos;rw[hv0] at h00;have hspot:spot=none:=by simpa [Addr.add] using World.cell?_spot h00
       subst hspot;have cellat:∀i j row x,((List.range len).map rowf)[i]?=some row->row[j]?=some x->∃v,(valf i)[j]?=some v/\w.cell? (adr b (o+i*P.cellsOf e+j))=some v/\RV w gm0 av0 0 x v:=by
        intro i j row x hr hxj;obtain ⟨hi,rfl⟩:=hget i row hr;obtain ⟨q1,q2⟩:=hrow i hi;have hj:j<(rowf i).length:=(List.getElem?_eq_some_iff.1 hxj).1;have hj':j<(valf i).length:=by rw[<-q2.1.1];exact hj
        have hcs:=World.cells?_some q1;have hcell:=hcs.2.2 j (by rw[<-hcs.2.1];exact hj');rw[List.getElem?_eq_getElem hj'] at hcell;refine ⟨_,List.getElem?_eq_getElem hj',?_,q2.1.2 j x _ hxj (List.getElem?_eq_getElem hj')⟩;rw[Ft,show adr b (o+i*P.cellsOf e)=(⟨b,o+i*P.cellsOf e,none⟩:Addr) from rfl,Ft] at hcell;exact hcell
       have hb:b<w.heap.size:=by have:=EK h00;simpa [Addr.add] using this
       have hrl:((List.range len).map rowf).length=len:=by simp
       have key:=RV.tsl (w:=w) (γ:=gm0) (A:=av0) 0 0 (P.cellsOf e) ((List.range len).map rowf) b o cap (λi j=>(valf i)[j]?.getD undef) (Nat.le_refl _) (by rw[hrl];exact hlc) hb (N_ b) (λh=>h)
        (λi row hr=>by
         obtain ⟨hi,rfl⟩:=hget i row hr;obtain ⟨q1,q2⟩:=hrow i hi;rw[q2.1.1,(World.cells?_some q1).2.1])
        (λi j row x hr hxj=>by
         obtain ⟨hi,rfl⟩:=hget i row hr;exact ((hrow i hi).2.2.1 x (List.mem_of_getElem? hxj)).1)
        (λi j row x hr hxj=>by
         obtain ⟨v,v1,v2,v3⟩:=cellat i j row x hr hxj;rw[v2,v1];rfl)
        (λi j row x hr hxj=>by
         obtain ⟨v,v1,v2,v3⟩:=cellat i j row x hr hxj;rw[v1];exact v3)
        (λrow hr x hx=>by
         obtain ⟨i,hi⟩:=List.getElem?_of_mem hr;obtain ⟨hi2,rfl⟩:=hget i row hi;exact ((hrow i hi2).2.2.1 x hx).2)
       rw[hrl] at key;exact key
    ·simp only[List.mem_singleton] at hy;subst hy;refine ⟨rfl,.tsl _ _ _ λrow hr x hx=>?_⟩;obtain ⟨i,hi⟩:=List.getElem?_of_mem hr;obtain ⟨hi2,rfl⟩:=hget i row hi;exact ((hrow i hi2).2.2.1 x hx).2
    ·unfold Sh;rw[hu];refine .inr ⟨_,rfl,?_,λrow hr=>?_⟩
     ·rw[List.length_map,List.length_range];have:maxLen<9223372036854775808:=by decide
      omega
     ·obtain ⟨i,hi⟩:=List.getElem?_of_mem hr;obtain ⟨hi2,rfl⟩:=hget i row hi;exact (hrow i hi2).2.2.2
  ·rename_i fs hu;rw[Bool.and_eq_true] at h;obtain ⟨hc,hp⟩:=h;have hc:s8 P fs.toList 0=some (P.cellsOf t):=eq_of_beq hc;obtain ⟨ys,m,-,-,hl,hyl,hel⟩:=DataW.trod_struct hu hx;obtain ⟨xss,a1,a2,a3⟩:=JR (w:=w) (n:=n) (cs:=cs) hc λf hf=>by
    obtain ⟨i,hi,e⟩:=List.mem_iff_getElem.1 hf;have hfi:fs[i]?=some f:=by rw[<-Array.getElem?_toList,List.getElem?_eq_getElem hi,e]
    have:=hel i f hfi;rw[List.getElem?_eq_getElem (show i<ys.length by rw[hyl];simpa using hi)] at this;exact ih f.type (List.all_eq_true.1 hp f hf) _ _ _ this
   rw[List.drop_zero,Nat.sub_zero,<-hl,List.take_length] at a2;refine ⟨xss.flatten,a2,a3,?_⟩;unfold Sh;rw[hu];exact ⟨xss,rfl,a1⟩
  ·rename_i m e hu;rw[Bool.and_eq_true,decide_eq_true_eq] at h;obtain ⟨hc,hp⟩:=h;obtain ⟨ys,q,-,-,hl,hyl,hel⟩:=DataW.trod_array hu hx;obtain ⟨xss,a0,a1,a2,a3⟩:=Fu (w:=w) (n:=n) (e:=e) (cs:=cs) (m:=m) (k:=0) λi hi=>by have:=hel i hi;rw[List.getElem?_eq_getElem (show i<ys.length by omega)] at this;rw[Nat.zero_add];exact ih e hp _ _ _ this
   rw[Nat.zero_mul,List.drop_zero,hc,<-hl,List.take_length] at a2;refine ⟨xss.flatten,a2,a3,?_⟩;unfold Sh;rw[hu];exact ⟨xss,rfl,a0,a1⟩
  ·cases h
theorem Kl {n:Nat}{t:TypeId}{xs:List AV}(hu:P.underlying t=some (.int .i64))(h:Sh P n t xs):∃x:Int,Rp.rp NoP 0 .nil x xs:=by
 cases n with
 | zero=>exact h.elim
 | succ n =>
  unfold Sh at h;rw[hu] at h;obtain ⟨z,rfl,-⟩:=h;exact ⟨z,aL.2 rfl⟩
theorem ig {n:Nat}{t:TypeId}{xs:List AV}(hu:P.underlying t=some (.int .u8))(h:Sh P n t xs):∃x:UInt8,Rp.rp NoP 0 .nil x xs:=by
 cases n with
 | zero=>exact h.elim
 | succ n =>
  unfold Sh at h;rw[hu] at h;obtain ⟨z,rfl,hw⟩:=h;simp only[Lit.wf,IntKind.min,IntKind.max,IntKind.signed,IntKind.bits,Bool.and_eq_true] at hw;refine ⟨UInt8.ofNat z.toNat,du.2 ?_⟩;have h1:0<=z:=by simpa using hw.1
  have h2:z<=255:=by simpa using hw.2
  have h3:(UInt8.ofNat z.toNat).toNat=z.toNat:=UInt8.toNat_ofNat_of_lt' (by show z.toNat<256;omega);rw[h3,Int.toNat_of_nonneg h1]
theorem xE {α:Type} [Rp α]{n:Nat}{t e:TypeId}{xs:List AV}(hu:P.underlying t=some (.slice e))(hsz:P.cellsOf e=Rp.sz α)(hel:∀ys,Sh P n e ys->∃y:α,Rp.rp NoP 0 .nil y ys)(h:Sh P (n+1) t xs) :
  ∃l:List α,Rp.rp NoP 0 .nil l xs:=by
 unfold Sh at h;rw[hu] at h;rcases h with rfl | ⟨rows,rfl,hl,hr⟩
 ·exact ⟨[],.nils,rfl,by simp,rfl⟩
 ·have:∀rows:List (List AV),(∀row∈rows,Sh P n e row)->∃l:List α,All2 (Rp.rp NoP 0 .nil) l rows:=by
   intro rows
   induction rows with
   | nil=>intro _;exact ⟨[],trivial⟩
   | cons r rows ih =>
    intro h;obtain ⟨y,hy⟩:=hel r (h r (by simp));obtain ⟨l,hl⟩:=ih λrow hrow=>h row (by simp[hrow]);exact ⟨y::l,hy,hl⟩
  obtain ⟨l,ha⟩:=this rows hr;exact ⟨l,_,rfl,by rw[ha.len];exact hl,Nat.le_refl _,.inl hsz,ha⟩
theorem Kk {n m:Nat}{t e:TypeId}{xs:List AV}(hu:P.underlying t=some (.array m e))(h:Sh P (n+1) t xs):∃xss:List (List AV),xs=xss.flatten/\xss.length=m/\∀ys∈xss,Sh P n e ys:=by unfold Sh at h;rw[hu] at h;exact h
theorem oB {n:Nat}{t:TypeId}{fs:Array Field}{xs:List AV}(hu:P.underlying t=some (.struct fs))(h:Sh P (n+1) t xs):∃xss,xs=xss.flatten/\All2 (λ(f:Field) ys=>Sh P n f.type ys) fs.toList xss:=by unfold Sh at h;rw[hu] at h;exact h
end Hx
end
