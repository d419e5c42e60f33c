/- A part of the proof: what the functions of the chapter compute. -/
import Derived.OpenShut
import Derived.DataReads
import Derived.Test.YtcefdmhbbgafiaaHx9
set_option linter.all false
set_option maxHeartbeats 8000000
section
namespace Hx
open Go
noncomputable section
section
variable {m:Causal}{al:List Int}
def S.Ro(m:Causal):List Int:=(List.range m.nodes.length).map λi:Nat=>((m.roots.length+i:Nat):Int)
def S.S9(m:Causal)(al:List Int)(i:Nat)(h:Nat):Bool:=decide (S.Q9 (m.nodes.map (·.card)) (S.Rg m (S.Rb (S.Ra m) (h:Int)) al)=(i:Int))
theorem yg(hck:S.Q_ m=true)(ha:S.Rd m al=true):∀j:Nat,j<=65536->∀i,i<(S.RQ m).toNat->(S.Rv m al j)[i]?.getD 0=S.Ri m (S.S9 m al i) j
 |0,_,i,hi=>by rw[S.Rv,S.Ri,Uh,TE hi];rfl
 | j+1,hj,i,hi=>by
  have ih:=yg hck ha j (by omega);have hb:=Js hck ha (j:=(j:Int)) (by omega);have hW:=qU hck j;rw[S.Rv,S.Ri,S.S9];generalize S.Q9 (m.nodes.map (·.card)) (S.Rg m (S.Rb (S.Ra m) (j:Int)) al)=I at hb ⊢;obtain⟨I',rfl⟩:=Ty hb.1;rw[TH]
  by_cases e:I'=i
  ·subst e;rw[Ux (by rw[tS];exact hi),ih _ hi,TE (by simp)];have:=nS hck (S.S9 m al I') j;rw[au (by omega) (by omega)];rfl
  ·rw[U0 e,ih i hi,TF (by simp;omega)];omega
theorem Ht(m:Causal):S.Q7 (S.Q6 (S.Rm m)) (S.Ro m)=m.nodes.map (·.card):=by rw[S.Q7,S.Ro,List.map_map];refine Uz (by simp) λi h1 h2=>?_;simp only[Tz]at h2;rw[UN,U1,UN,V3,TH,kY (iO m) (Tn h2)];rfl
theorem P7(m:Causal){r x:List Int}(hr:r.length=m.roots.length)(hx:x.length=m.nodes.length):S.Q7 (r++x) (S.Ro m)=x:=by rw[S.Q7,S.Ro,List.map_map];refine Uz (by simp[hx]) λi h1 h2=>?_;rw[UN,U1,V3,TH,TB (by omega),hr,Ua,Tn h2];rfl
theorem Hu(m:Causal):S.Rc (S.Ro m) (S.Rm m).nodes.length=true:=by
 refine TC.2 λi hi=>?_;have hi:i<m.nodes.length:=by simpa [S.Ro] using TK.1 hi
 have e:∀j,j<m.nodes.length->(S.Ro m)[j]?.getD 0=((m.roots.length+j:Nat):Int):=λj hj=>by simp[S.Ro,hj]
 rw[S.RP,e i hi,e (i - 1) (by omega),qd];simp;omega
theorem KY(hck:S.Q_ m=true)(hf:S.RG m 1=true){i:Nat}(hi:i<(S.RQ m).toNat) :
  (S.SL (S.Rm m) (List.replicate (m.roots.length+m.nodes.length) (-1)) (S.Ro m) (S.Rx (S.Rm m)))[i]?=some (S.gp m*(S.Rv m (S.Rl m) (S.Q8 m).toNat)[i]?.getD 0):=by
 obtain⟨hs,hgr,hn1,-,-⟩:=ap hck;have hh:=t6 hck;have hi':i<(S.Q5 (m.nodes.map (·.card))).toNat:=hi;rw[yg hck (we hs) _ (by omega) i hi,S.SL,Ht,Tt,U3 hi',TQ];congr 1;have h1:=Bk (FI hck hf) λv=>S.Rr v (List.replicate (m.roots.length+m.nodes.length) (-1))&&decide (S.Q9 (S.Q7 (S.Q6 (S.Rm m)) (S.Ro m)) (S.Q7 v (S.Ro m))=(i:Int));have h2:=Bl hck λr=>decide (S.Q9 (m.nodes.map (·.card)) (S.Rg m r (S.Rl m))=(i:Int));rw[show (λj:Nat=>(λr=>decide (S.Q9 (m.nodes.map (·.card)) (S.Rg m r (S.Rl m))=(i:Int))) (S.Rb (S.Ra m) (j:Int)))=S.S9 m (S.Rl m) i from rfl]at h2;rw[h2,show S.pk (S.Rm m) (List.replicate (m.roots.length+m.nodes.length) (-1)) (S.Ro m) (i:Int)=λj:Nat=>(λv=>S.Rr v (List.replicate (m.roots.length+m.nodes.length) (-1))&&decide (S.Q9 (S.Q7 (S.Q6 (S.Rm m)) (S.Ro m)) (S.Q7 v (S.Ro m))=(i:Int))) (S.Rb (S.Q6 (S.Rm m)) (j:Int)) from rfl,h1,Kr hck];congr 1;refine eX λr hr=>?_;rw[iN,Up,Ht,P7 m (by rw[hr.len,bS]) (by simp[S.Rg]),xU]
end
end
end Hx
end
section
namespace Hx
open Go
noncomputable section
theorem Lu(d:Nat)(xs:List AV)(g:G):an C0 d N.Q6 xs g=am (I C0) d g N.Q6 xs:=by kernel_rfl
theorem Fj(t:T)(g:G)(xs:List Od):SO.foot C0 t g (.call N.Q6 xs)=ae ((fK t xs).flatMap (aC g.h aD)):=by kernel_rfl
theorem Ew(g:G):an C0 1 N.Si [] g=.val (.bool true):=by kernel_rfl
theorem QM{C:Cfg}(n:Nat):IHLe (sem C n) (I C):=by
 refine⟨λnt d rd c t df g=>?_,λd f as' g=>?_⟩
 ·obtain⟨m,h'⟩:=Ct.code (C:=C) nt d rd c t df g;have h1:(sem C (max n m)).code nt d rd c t df g=(I C).code nt d rd c t df g:=h' (max n m) (by omega);rw[<-h1];exact (Eh C (by omega)).code nt d rd c t df g
 ·obtain⟨m,h'⟩:=Ct.call (C:=C) d f as' g;have h1:(sem C (max n m)).call d f as' g=(I C).call d f as' g:=h' (max n m) (by omega);rw[<-h1];exact (Eh C (by omega)).call d f as' g
theorem KQ{d:Nat}{g:G}{f:Nat}{xs:List AV}{v:AV}(h:am (sem C0 60) d g f xs=.val v):am (I C0) d g f xs=.val v:=by
 rcases vM (QM (C:=C0) 60) (d:=d) (g:=g) (f:=f) (args:=xs) with q|q
 ·rw[h]at q;cases q
 ·rw[<-q,h]
theorem Q3:∀n:Nat,n<=8->am (sem C0 60) 1 G.empty N.Q6 [.tsl 1 1 [[.int .i64 (-1)]],.int .i64 (n:Int)]=.val (.tsl 0 1 (List.replicate n [.int .i64 (-1)]))
 |0,_=>by kernel_rfl
 |1,_=>by kernel_rfl
 |2,_=>by kernel_rfl
 |3,_=>by kernel_rfl
 |4,_=>by kernel_rfl
 |5,_=>by kernel_rfl
 |6,_=>by kernel_rfl
 |7,_=>by kernel_rfl
 |8,_=>by kernel_rfl
 |n+9,h=>absurd h (by omega)
theorem A8{g:G}{id:Nat}{n:Nat}(h1:n<=8)(hg:g.h.get id=We 1 [[.int .i64 (-1)]]):∃r,an C0 1 N.Q6 [.hsl id 0 0 1 none,.int .i64 (n:Int)] g=.val r/\IT 0 (List.replicate n (-1)) r:=by
 rw[Lu];refine⟨_,Mo (xs:=[.tsl 1 1 [[.int .i64 (-1)]],.int .i64 (n:Int)]) (by simp only[aK,Hx.snap,aD,hg];rfl) rfl (KQ (Q3 n h1)),?_⟩;have u:Rp.rp (α:=Int) NoP 0 .nil (-1) [.int .i64 (-1)]:=aB.2 rfl;have a2:∀k:Nat,All2 (Rp.rp (α:=Int) NoP 0 .nil) (List.replicate k (-1)) (List.replicate k [AV.int .i64 (-1)]):=λk=>by
  induction k with
  |zero=>trivial
  |succ k ih=>exact⟨u,ih⟩
 exact .mk ⟨by simp;omega,⟨Tp _,.inl rfl,a2 n⟩⟩
theorem zM(g:G):BA 1 1 [.int .i64 0] [0] [.int .i64 (-1)] g=.upd (.hsl g.nx 0 0 1 none) (g.new (We 1 [[.int .i64 (-1)]])):=by kernel_rfl
def TsR(p5:Nat)(sv av qv:AV)(k:Nat):List (Nat×AV):=[(5,.hptr p5 0 0 0),(6,sv),(7,av),(8,qv),(11,.int .i64 (k:Int))]
theorem oq{l:List Int}{r:AV}(h:IT 0 l r):r.cells=[r]/\r.isTup=false:=(h.sl .nil).cell
set_option maxRecDepth 20000 in
theorem OS{m:Causal}{a b sv av qv:AV}{p5:Nat}{se al q:List Int}{t:T}{g:G}{Q:QT}(hck:S.Q_ m=true)(hse:S.Rd m se=true)(hal:S.Rd m al=true)(hqa:S.Rd m q=true)
  (hm:∀h,Agg m NoP 0 h (.agg [.int .i64 m.grain,a,b])) (hs:SlR NoP 0 .nil se sv) (ha:SlR NoP 0 .nil al av) (hqv:SlR NoP 0 .nil q qv) (ht:St t (TsR p5 sv av qv m.roots.length))
  (hp:p5<g.nx) (hg:g.h.get p5=We 3 [[.int .i64 m.grain,a,b]]) (hQ:∀t g,tat t 4=.bool true->Q .ret t [] g):wp C0 1 none gk Q t [] g:=by
 obtain⟨hsm,hgr,hn1,-,-⟩:=ap hck;have hro:=hsm.roots;have hno:=hsm.nodes;have la:=(jP hal).1;have ls:=(jP hse).1;have lq:=(jP hqa).1;unfold gk;refine bh (P:=λt' df g'=>df=[]/\Fr g g'/\∃nb,SlR NoP 0 .nil (S.SD m al).nodes nb/\St t' ((21,.hptr g.nx 0 0 0)::(22,.int .i64 (S.Se m al))::TsR p5 sv av qv m.roots.length)/\g.nx<g'.nx/\g'.h.get g.nx=We 2 [[.int .i64 (S.SD m al).grain,nb]]) ?_ ?_
 ·obtain⟨h5,h6,h7,h8,h11,-⟩:=ht;simp only[sz,simprocAttr,h5,h7,hg];refine bH (O3 (d:=1) (by decide) (hm _) ha) λr hr=>?_;obtain⟨ra,rb,rfl,⟨cs,rfl,q1⟩,q2⟩:=hr;have q2:=aB.1 q2;injection q2 with q2;obtain⟨nb,rfl,hN⟩:=fO.1 q1;simp only[sz,simprocAttr,q2,Q_];exact⟨wR (by simp) λi hi=>by simp[Q_,show ¬i=g.nx by omega],nb,hN,by simp[St,TsR,sx,h5,h6,h7,h8,h11],by simp,by simp[Q_]⟩
 rintro t df g1 ⟨rfl,fr1,nb,hN,ht1,hn1',hg1⟩;have hg5:g1.h.get p5=We 3 [[.int .i64 m.grain,a,b]]:=by rw[fr1.2 p5 hp,hg]
 have hE:S.Se m al=if S.RG m 2 then 0 else 6:=by rw[S.Se,TE hck,TE hal]
 by_cases hf0:S.RG m 2=false
 ·
  rw[hE,TF (by simp[hf0])]at ht1;obtain⟨h21,h22,h5,h6,h7,h8,h11,-⟩:=ht1;simp only[sz,simprocAttr,h22];exact hQ _ _ (by simp[sx])
 have hf:S.RG m 2=true:=by simpa using hf0
 rw[hE,TE hf]at ht1;have hT:S.SD m al=S.RA m al:=by rw[S.SD,hE,TE hf];rfl
 rw[hT]at hg1 hN;refine iZ (P:=λt' df g'=>df=[]/\g'=g1/\St t' ((21,.hptr g.nx 0 0 0)::TsR p5 sv av qv m.roots.length)) ?_ ?_
 ·obtain⟨h21,h22,h5,h6,h7,h8,h11,-⟩:=ht1;simp only[sz,simprocAttr,h22];simp[St,TsR,sx,h5,h6,h7,h8,h11,h21]
 clear ht1;rintro t df g1' ⟨rfl,rfl,ht1⟩;refine bh (P:=λt' df g'=>df=[]/\Fr g1' g'/\∃bv,IT 0 (List.replicate m.roots.length (-1)) bv/\St t' ((23,bv)::(21,.hptr g.nx 0 0 0)::TsR p5 sv av qv m.roots.length)) ?_ ?_
 ·obtain⟨h21,h5,h6,h7,h8,h11,-⟩:=ht1;simp only[sz,simprocAttr,zM,h11];refine bH (A8 (n:=m.roots.length) (by omega) (by simp[Q_])) λbv hbv=>?_;simp only[sz,simprocAttr];exact⟨wR (by simp) λi hi=>by simp[Q_,show ¬i=g1'.nx by omega],bv,hbv,by simp[St,TsR,sx,h5,h6,h7,h8,h11,h21]⟩
 clear ht1;rintro t df g2 ⟨rfl,fr2,bv,hbv,ht2⟩;have lenA:∀g,dm .slice av g=.val (.int .i64 (m.nodes.length:Int)):=λg=>by rw[ha.len,la]
 refine bh (P:=λt' df g'=>df=[]/\Fr g2 g'/\∃kv,IT 0 (List.replicate m.roots.length (-1)++(se++List.replicate m.nodes.length (-1))) kv/\St t' ((24,kv)::(23,bv)::(21,.hptr g.nx 0 0 0)::TsR p5 sv av qv m.roots.length)) ?_ ?_
 ·obtain⟨h23,h21,h5,h6,h7,h8,h11,-⟩:=ht2;simp only[sz,simprocAttr,zM,h6,h7,h23,lenA];refine bH (A8 (n:=m.nodes.length) (by omega) (by simp[Q_])) λov hov=>?_;have e3:=λg=>nB (v:=bv) (w:=sv) (y:=ov) (z:=.nils) (oq hbv).1 (oq hbv).2 hs.cell.1 hs.cell.2 (oq hov).1 (oq hov).2 g;simp only[sz,simprocAttr,e3];refine bH (Cw (d:=1) (k:=0) (L:=[List.replicate m.roots.length (-1),se,List.replicate m.nodes.length (-1)]) (P:=λ_=>True) (by decide) (yi (hbv.sl .nil) hs (hov.sl .nil) (by simp[Q_])) (by simp;omega) (by simp;omega)) λkv hkv=>?_;simp only[sz,simprocAttr];have hkv:IT 0 (List.replicate m.roots.length (-1)++(se++List.replicate m.nodes.length (-1))) kv:=by simpa using hkv
  exact⟨wR (by simp;omega) λi hi=>by simp[Q_,show ¬i=g2.nx by omega,show ¬i=g2.nx+1 by omega],kv,hkv,by simp[St,TsR,sx,h5,h6,h7,h8,h11,h21,h23]⟩
 clear ht2;rintro t df g3 ⟨rfl,fr3,kv,hkv,ht3⟩;refine bh (P:=λt' df g'=>df=[]/\Fr g3 g'/\∃wv,IT 0 (List.replicate m.roots.length (-1)++(List.replicate m.nodes.length (-1)++q)) wv/\St t' ((25,wv)::(24,kv)::(21,.hptr g.nx 0 0 0)::TsR p5 sv av qv m.roots.length)) ?_ ?_
 ·obtain⟨h24,h23,h21,h5,h6,h7,h8,h11,-⟩:=ht3;simp only[sz,simprocAttr,zM,h8,h7,h23,lenA];refine bH (A8 (n:=m.nodes.length) (by omega) (by simp[Q_])) λov hov=>?_;have e3:=λg=>nB (v:=bv) (w:=ov) (y:=qv) (z:=.nils) (oq hbv).1 (oq hbv).2 (oq hov).1 (oq hov).2 hqv.cell.1 hqv.cell.2 g;simp only[sz,simprocAttr,h8,e3];refine bH (Cw (d:=1) (k:=0) (L:=[List.replicate m.roots.length (-1),List.replicate m.nodes.length (-1),q]) (P:=λ_=>True) (by decide) (yi (hbv.sl .nil) (hov.sl .nil) hqv (by simp[Q_])) (by simp;omega) (by simp;omega)) λwv hwv=>?_;simp only[sz,simprocAttr];have hwv:IT 0 (List.replicate m.roots.length (-1)++(List.replicate m.nodes.length (-1)++q)) wv:=by simpa using hwv
  exact⟨wR (by simp;omega) λi hi=>by simp[Q_,show ¬i=g3.nx by omega,show ¬i=g3.nx+1 by omega],wv,hwv,by simp[St,TsR,sx,h5,h6,h7,h8,h11,h21,h24]⟩
 clear ht3;rintro t df g4 ⟨rfl,fr4,wv,hwv,ht4⟩;have F14:Fr g1' g4:=fr2.trans (fr3.trans fr4);have hg5':g4.h.get p5=We 3 [[.int .i64 m.grain,a,b]]:=by rw[F14.2 p5 (by have:=fr1.1;omega),hg5]
 have hg21:g4.h.get g.nx=We 2 [[.int .i64 (S.RA m al).grain,nb]]:=by rw[F14.2 g.nx hn1',hg1]
 have hn4:g.nx<g4.nx:=by have:=F14.1;omega
 refine bh (P:=λt' df g'=>df=[]/\Fr g4 g'/\St t' [(21,.hptr g.nx 0 0 0),(24,kv),(25,wv),(26,.hptr g4.nx 0 0 0),(27,.int .i64 (S.R5 m se al q))]/\g4.nx<g'.nx/\g'.h.get g4.nx=We 2 [[.int .i64 (S.RW m se al q).1,.int .i64 (S.RW m se al q).2]]) ?_ ?_
 ·obtain⟨h25,h24,h21,h5,h6,h7,h8,h11,-⟩:=ht4;simp only[sz,simprocAttr,h5,h6,h7,h8,hg5'];rw[GC (d:=1) (kk:=0) (by decide) (hm _) hs ha hqv];simp only[sz,simprocAttr,Q_];exact⟨wR (by simp) λi hi=>by simp[Q_,show ¬i=g4.nx by omega],by simp[St,sx,h21,h24,h25],by simp⟩
 clear ht4;rintro t df g5 ⟨rfl,fr5,ht5,hn5,hg26⟩;have hg21':g5.h.get g.nx=We 2 [[.int .i64 (S.RA m al).grain,nb]]:=by rw[fr5.2 g.nx hn4,hg21]
 obtain⟨gE,gV⟩:=B3 (al:=al) (q:=q) (e:=se) hck hse hal hqa hf rfl rfl;refine bh (P:=λt' df g'=>df=[]/\St t' [(26,.hptr g4.nx 0 0 0),(27,.int .i64 (S.R5 m se al q)),(28,.hptr g5.nx 0 0 0),(29,.int .i64 (S.R5 m se al q))]/\g'.h.get g4.nx=We 2 [[.int .i64 (S.RW m se al q).1,.int .i64 (S.RW m se al q).2]]/\g'.h.get g5.nx=We 2 [[.int .i64 (S.RW m se al q).1,.int .i64 (S.RW m se al q).2]]) ?_ ?_
 ·obtain⟨h21,h24,h25,h26,h27,-⟩:=ht5;have hA:∀h,Agg (S.RA m al) NoP 0 h (.agg [.int .i64 (S.RA m al).grain,nb]):=λh=>⟨_,rfl,fO.2 ⟨nb,rfl,hN.tree (Tp _)⟩⟩;simp only[sz,simprocAttr,h21,h24,h25,hg21'];rw[Kg (d:=1) (by decide) (hA _) (hkv.sl _) (hwv.sl _),gE,gV];simp only[sz,simprocAttr,Q_];exact⟨by simp[St,sx,h26,h27],by simp[Q_,show ¬g4.nx=g5.nx by omega,hg26]⟩
 clear ht5;rintro t df g6 ⟨rfl,⟨h26,h27,h28,h29,-⟩,k26,k28⟩;have hC:S.R5 m se al q=0\/S.R5 m se al q=7:=by
  rw[S.R5,TF (by simp[S.Rs,hck,hse,hal,hqa])]
  split
  ·exact .inr rfl
  ·exact .inl rfl
 have eqq:=Qy (S.RW m se al q).1 (S.RW m se al q).2;rcases hC with hC|hC
 ·rw[hC]at h27 h29;simp only[sz,simprocAttr,h26,h27,h28,h29,k26,k28,eqq];exact hQ _ _ (by simp[sx])
 ·rw[hC]at h27 h29;simp only[sz,simprocAttr,h26,h27,h28,h29,k26,k28,eqq];exact hQ _ _ (by simp[sx])
theorem Qz{m:Causal}(hck:S.Q_ m=true):S.gp m<=248832:=by
 obtain⟨hs,hgr,hn1,-,-⟩:=ap hck;have hno:=hs.nodes;have:=(mJ (l:=List.replicate m.nodes.length m.grain) λx hx=>by obtain⟨-,rfl⟩:=Vj.1 hx;omega).2;rw[TY]at this;have h5:∀k:Nat,k<=5->(12:Int) ^ k<=248832:=λk hk=>by
  have hk:k=0\/k=1\/k=2\/k=3\/k=4\/k=5:=by omega
  rcases hk with rfl|rfl|rfl|rfl|rfl|rfl<;>decide
 have:=h5 _ hno;unfold S.gp;omega
def S.SU(m:Causal)(j:Nat):Int:=S.Q5 (List.replicate j m.grain)
theorem Fs(m:Causal)(j:Nat):S.SU m (j+1)=S.SU m j*m.grain:=by unfold S.SU;rw[show List.replicate (j+1) m.grain=List.replicate j m.grain++[m.grain] from List.replicate_succ',cU]
theorem Kc{m:Causal}(hck:S.Q_ m=true){j:Nat}(hj:j<=5):0<=S.SU m j/\S.SU m j<=248832:=by
 obtain⟨hs,hgr,hn1,-,-⟩:=ap hck;have:=mJ (l:=List.replicate j m.grain) λx hx=>by obtain⟨-,rfl⟩:=Vj.1 hx;omega
 rw[TY]at this;have h5:∀k:Nat,k<=5->(12:Int) ^ k<=248832:=λk hk=>by
  have hk:k=0\/k=1\/k=2\/k=3\/k=4\/k=5:=by omega
  rcases hk with rfl|rfl|rfl|rfl|rfl|rfl<;>decide
 have:=h5 _ hj;unfold S.SU;omega
section
variable {m:Causal}{a b sv av qv c1 c2 c3 d1 d2 d3:AV}{p5 p14 p16:Nat}{se al q W1 W2:List Int}{t:T}{g:G}{Q:QT}
structure Tbs (m:Causal) (W1 W2:List Int) (c3 d3:AV):Prop where
 w1:SlR NoP 0 .nil W1 c3
 w2:SlR NoP 0 .nil W2 d3
 len:W1.length=W2.length
 get:∀(j:Nat) (x:Int),W2[j]?=some x->0<=x/\x<=28179280429056/\W1[j]?=some (S.gp m*x)
set_option maxRecDepth 20000 in
theorem OT(hck:S.Q_ m=true)(hse:S.Rd m se=true)(hal:S.Rd m al=true)(hqa:S.Rd m q=true)
  (hm:∀h,Agg m NoP 0 h (.agg [.int .i64 m.grain,a,b])) (hs:SlR NoP 0 .nil se sv) (ha:SlR NoP 0 .nil al av) (hqv:SlR NoP 0 .nil q qv) (hT:Tbs m W1 W2 c3 d3)
  (ht:St t ((14,.hptr p14 0 0 0)::(16,.hptr p16 0 0 0)::(18,.int .i64 (S.gp m))::TsR p5 sv av qv m.roots.length)) (hp:p5<g.nx) (hg:g.h.get p5=We 3 [[.int .i64 m.grain,a,b]])
  (hg14:g.h.get p14=We 3 [[c1,c2,c3]]) (hg16:g.h.get p16=We 3 [[d1,d2,d3]])
  (hQ:∀t g,tat t 4=.bool true->Q .ret t [] g):wp C0 1 none dL Q t [] g:=by
 have hG:=Mf hck;have hG2:=Qz hck;simp only[dL,cP2];refine iZ (P:=λt' df g'=>df=[]/\g'=g/\St t' (TsR p5 sv av qv m.roots.length)) ?_ ?_
 ·refine bh (P:=λt' df g'=>df=[]/\g'=g/\St t' ((14,.hptr p14 0 0 0)::(18,.int .i64 (S.gp m))::(118,d3)::TsR p5 sv av qv m.roots.length)/\tat t' 119=.int .i64 (W2.length:Int)/\tat t' 120=.int .i64 0) ?_ ?_
  ·obtain⟨h14,h16,h18,h5,h6,h7,h8,h11,-⟩:=ht;have lw:∀g,dm .slice d3 g=.val (.int .i64 (W2.length:Int)):=λg=>hT.w2.len g;simp only[sz,simprocAttr,h16,hg16,lw];simp[St,TsR,sx,h14,h18,h5,h6,h7,h8,h11]
  clear ht;rintro t df g1 ⟨rfl,rfl,ht,h119,h120⟩;rw[ym,xn];unfold mb;refine aq (m:=W2.length) hT.w2.1 (λj t df g'=>df=[]/\g'=g1/\St t ((14,.hptr p14 0 0 0)::(18,.int .i64 (S.gp m))::(118,d3)::TsR p5 sv av qv m.roots.length)) ⟨rfl,rfl,ht⟩ h120 h119 (by decide)
   (by rintro j t df g v s (rfl|rfl|rfl) ⟨a1,a2,⟨k1,k2,k3,k4,k5,k6,k7,k8,-⟩⟩<;>exact⟨a1,a2,by simp[St,TsR,sx,k1,k2,k3,k4,k5,k6,k7,k8]⟩) ?_ ?_
  ·rintro j t df g2 hj ⟨rfl,rfl,⟨h14,h18,h118,h5,h6,h7,h8,h11,-⟩⟩ h120 h119;obtain⟨x,hx⟩:∃x,W2[j]?=some x:=⟨_,Tn hj⟩;obtain⟨x0,x1,hx1⟩:=hT.get j x hx;have hj1:j<W1.length:=by rw[hT.len];exact hj
   have ra:∀h,ac h 1 c3=some (W1.map ci):=λh=>(hT.w1.tree (h':=h) (Tp _)).ints;have rb:∀h,ac h 1 d3=some (W2.map ci):=λh=>(hT.w2.tree (h':=h) (Tp _)).ints;have hw:IntKind.wrap .i64 (x*S.gp m)=S.gp m*x:=by have h1:S.gp m*x<=248832*28179280429056:=Uk hG2 x1 x0 (by omega);have h2:0<=S.gp m*x:=Ur (by omega) x0;rw[VK,au (by omega) (by omega)]
   simp only[sz,simprocAttr,h14,h18,h118,h120,hg14,ra,rb,hx,hx1,hj,hj1,Tz,Tt,TQ,ci,hw];simp[St,TsR,sx,h14,h18,h118,h119,h5,h6,h7,h8,h11]
  ·rintro t df g2 ⟨rfl,rfl,⟨h14,h18,h118,hr⟩⟩;simp only[kP,if_true];exact⟨trivial,trivial,trivial,hr⟩
 clear ht;rintro t df g1 ⟨rfl,rfl,ht⟩;exact OS hck hse hal hqa hm hs ha hqv ht hp hg hQ
end
end
end Hx
end
section
namespace Hx
open Go
noncomputable section
section
variable {m:Causal}{a b sv av qv c1 c2 c3 d1 d2 d3:AV}{p5 p14 p16:Nat}{se al q W1 W2:List Int}{t:T}{g:G}{Q:QT}
def Ao:SC:=match dM with|.seq _ (.seq _ x)=>x|_=>.skip
theorem Qo:Ao=.seq (sQ [oM 92 15,Wg 93 .neq 92 0,oM 94 93,Wo 95 94 false 17,Ws 96 94 false .neq 95 0,Wl 97 94 96,oM 98 97,Wq 99 98 false 2 14,Wp 100 98 false 99,Wt 101 98 false 100,Wq 102 98 false 2 16,Wp 103 98 false 102,Wt 104 98 false 103,Wr 105 98 false .neq 101 104,Wl 106 98 105] (.cond (.t 106) (sQ [o 4 (.mv (.k (.bool false)))] (.ret)) (.skip))) (sQ [oK 18 1] (.seq (sQ [oF 107 2 5,oL 108 107,oN 109 108,oK 110 0] (.blk 2 (.loop gi))) dL)):=by kernel_rfl
set_option maxRecDepth 20000 in
theorem No(hck:S.Q_ m=true)(hse:S.Rd m se=true)(hal:S.Rd m al=true)(hqa:S.Rd m q=true)
  (hm:∀h,Agg m NoP 0 h (.agg [.int .i64 m.grain,a,b])) (hN:SlR NoP 0 .nil m.nodes b) (hs:SlR NoP 0 .nil se sv) (ha:SlR NoP 0 .nil al av) (hqv:SlR NoP 0 .nil q qv) (hT:Tbs m W1 W2 c3 d3)
  (ht:St t ((14,.hptr p14 0 0 0)::(15,.int .i64 0)::(16,.hptr p16 0 0 0)::(17,.int .i64 0)::TsR p5 sv av qv m.roots.length)) (hp:p5<g.nx) (hg:g.h.get p5=We 3 [[.int .i64 m.grain,a,b]])
  (hg14:g.h.get p14=We 3 [[c1,c2,c3]]) (hg16:g.h.get p16=We 3 [[d1,d2,d3]])
  (hQ:∀t g,tat t 4=.bool true->Q .ret t [] g):wp C0 1 none Ao Q t [] g:=by
 obtain⟨hsm,hgr,hn1,-,-⟩:=ap hck;have hno:=hsm.nodes;have l1:∀g,dm .slice c3 g=.val (.int .i64 (W2.length:Int)):=λg=>by rw[hT.w1.len,hT.len]
 have l2:∀g,dm .slice d3 g=.val (.int .i64 (W2.length:Int)):=λg=>hT.w2.len g;have lb:∀g,dm .slice b g=.val (.int .i64 (m.nodes.length:Int)):=λg=>hN.len g;rw[Qo];refine iZ (P:=λt' df g'=>df=[]/\g'=g/\St t' ((14,.hptr p14 0 0 0)::(16,.hptr p16 0 0 0)::TsR p5 sv av qv m.roots.length)) ?_ ?_
 ·obtain⟨h14,h15,h16,h17,h5,h6,h7,h8,h11,-⟩:=ht;simp only[sz,simprocAttr,h14,h15,h16,h17,hg14,hg16,l1,l2];simp[St,TsR,sx,h14,h16,h5,h6,h7,h8,h11]
 clear ht;rintro t df g1 ⟨rfl,rfl,ht⟩;refine bh (P:=λt' df g'=>df=[]/\g'=g1/\St t' ((14,.hptr p14 0 0 0)::(16,.hptr p16 0 0 0)::(18,.int .i64 1)::TsR p5 sv av qv m.roots.length)) ?_ ?_
 ·obtain⟨h14,h16,h5,h6,h7,h8,h11,-⟩:=ht;simp only[sz,simprocAttr];simp[St,TsR,sx,h14,h16,h5,h6,h7,h8,h11]
 clear ht;rintro t df g2 ⟨rfl,rfl,ht⟩;refine iZ (P:=λt' df g'=>df=[]/\g'=g2/\St t' ((14,.hptr p14 0 0 0)::(16,.hptr p16 0 0 0)::(18,.int .i64 (S.gp m))::TsR p5 sv av qv m.roots.length)) ?_ ?_
 ·refine bh (P:=λt' df g'=>df=[]/\g'=g2/\St t' ((14,.hptr p14 0 0 0)::(16,.hptr p16 0 0 0)::(18,.int .i64 1)::TsR p5 sv av qv m.roots.length)/\tat t' 109=.int .i64 (m.nodes.length:Int)/\tat t' 110=.int .i64 0) ?_ ?_
  ·obtain⟨h14,h16,h18,h5,h6,h7,h8,h11,-⟩:=ht;simp only[sz,simprocAttr,h5,hg,lb];simp[St,TsR,sx,h14,h16,h18,h5,h6,h7,h8,h11]
  clear ht;rintro t df g3 ⟨rfl,rfl,ht,h109,h110⟩;rw[ym,xn];unfold gi;refine aq (m:=m.nodes.length) (by omega) (λj t df g'=>df=[]/\g'=g3/\St t ((14,.hptr p14 0 0 0)::(16,.hptr p16 0 0 0)::(18,.int .i64 (S.SU m j))::TsR p5 sv av qv m.roots.length)) ⟨rfl,rfl,ht⟩ h110 h109 (by decide)
   (by rintro j t df g v s (rfl|rfl|rfl) ⟨a1,a2,⟨k1,k2,k3,k4,k5,k6,k7,k8,-⟩⟩<;>exact⟨a1,a2,by simp[St,TsR,sx,k1,k2,k3,k4,k5,k6,k7,k8]⟩) ?_ ?_
  ·rintro j t df g4 hj ⟨rfl,rfl,⟨h14,h16,h18,h5,h6,h7,h8,h11,-⟩⟩ h110 h109;have hb:=Kc hck (j:=j+1) (by omega);rw[Fs]at hb;have hw:IntKind.wrap .i64 (S.SU m j*m.grain)=S.SU m (j+1):=by rw[Fs,au (by omega) (by omega)]
   simp only[sz,simprocAttr,h18,h5,hg,hw];simp[St,TsR,sx,h14,h16,h109,h110,h5,h6,h7,h8,h11]
  ·rintro t df g4 ⟨rfl,rfl,hr⟩;simp only[kP,if_true];exact⟨trivial,trivial,trivial,hr⟩
 clear ht;rintro t df g3 ⟨rfl,rfl,ht⟩;exact OT hck hse hal hqa hm hs ha hqv hT ht hp hg hg14 hg16 hQ
end
end
end Hx
end
section
namespace Hx
open Go
noncomputable section
theorem uR{cards:List Int}:∀{k:Nat} {l:List Int},S.Sm cards l->k<=l.length->(S.Sn cards l k).2=false->∀(i:Nat) (c v:Int),i<k->cards[i]?=some c->l[i]?=some v->v+1=c
 |0,l,_,_,_,i,c,v,hi,_,_=>by omega
 | k+1,l,hco,hk,h,i,c',v',hi,hc',hv'=>by
  obtain⟨v,hv⟩:∃v,l[k]?=some v:=⟨_,Tn (by omega)⟩;obtain⟨c,hc⟩:∃c,cards[k]?=some c:=⟨_,Tn (by have:=hco.1;omega)⟩;have hb:=hco.2 k c v hc hv;simp only[S.Sn,hv,hc,Tq]at h
  split at h
  ·cases h
  ·rename_i hq
   by_cases e:i=k
   ·subst e;rw[hc]at hc';injection hc' with hc';subst hc';rw[hv]at hv';injection hv' with hv';subst hv';omega
   ·refine uR (xK hco hc (show (0:Int)<=0 by omega) (show (0:Int)<c by omega)) (by simp;omega) h i c' v' (by omega) hc' ?_;rw[U0 (by omega)];exact hv'
theorem CZ:∀{cards l:List Int},cards.length=l.length->(∀(i:Nat) (c v:Int),cards[i]?=some c->l[i]?=some v->v+1=c)->S.RT cards l+1=S.Q5 cards
 |[],[],_,_=>rfl
 | c::cs,v::l,hl,h=>by have h0:=h 0 c v rfl rfl;have ih:=CZ (cards:=cs) (l:=l) (by simpa using hl) λi c v hc hv=>h (i+1) c v (by simpa using hc) (by simpa using hv);rw[bu,<-h0];show v*S.Q5 cs+S.RT cs l+1=_;rw[Vz,VA];omega
 |[],_::_,h,_=>by simp at h
 |_::_,[],h,_=>by simp at h
theorem zF{cards:List Int}:∀{f:Nat} {v:List Int},S.Sm cards v->S.RT cards v+(f:Int)=S.Q5 cards->(S.SG cards f v).length=f
 |0,v,_,_=>rfl
 | f+1,v,hco,h=>by
  simp only[S.SG,Ud]
  split
  ·rename_i hn;obtain⟨h1,h2⟩:=xY hco hn;rw[zF h2 (by rw[h1];omega)]
  ·rename_i hn;have hf:=uR hco (Tp _) (by simpa [S.Sv] using hn);have hl:=CZ hco.1 λi c v hc hv=>hf i c v (Tu.1 hv).1 hc hv;simp;omega
theorem JE{cards:List Int}(h:∀c∈cards,1<=c):((S.SE cards).length:Int)=S.Q5 cards:=by
 have hp:0<=S.Q5 cards:=by have:=vV (qq h);omega
 rw[S.SE,zF (qq h) (by rw[uc];omega)];omega
theorem tK:∀{l:List Int},(∀x∈l,1<=x/\x<=3)->1<=S.Q5 l/\S.Q5 l<=3 ^ l.length
 |[],_=>⟨by decide,by decide⟩
 | a::l,h=>by obtain⟨h1,h2⟩:=tK (l:=l) λx hx=>h x (by simp[hx]);obtain⟨h3,h4⟩:=h a (by simp);rw[bu,Ud,Vr,VK (3 ^ l.length)];refine⟨?_,Uk h4 h2 (by omega) (by decide)⟩;have:=Uk h3 h1 (by decide) (by omega);omega
theorem M7{n:Nat}(h:n<=6):(3:Int) ^ n<=729:=by
 match n,h with
 |0,_=>decide
 |1,_=>decide
 |2,_=>decide
 |3,_=>decide
 |4,_=>decide
 |5,_=>decide
 |6,_=>decide
 |n+7,h=>omega
theorem Ev{gr q z:Int}(h1:2<=gr)(h2:gr<=12):S.Sc gr (S.Sf gr q z)=true:=by
 have b1:=Vh z (show gr - 1≠0 by omega);have b2:=UY z (show 0<gr - 1 by omega);have b3:=Vh (z / 12) (show gr - (1+z % (gr - 1))+1≠0 by omega);have b4:=UY (z / 12) (show 0<gr - (1+z % (gr - 1))+1 by omega);unfold S.Sf;generalize z % (gr - 1)=A at *;generalize z / 12 % (gr - (1+A)+1)=B at *
 split
 ·simp[S.Sc,S.R2];omega
 ·simp[S.Sc,S.R2];omega
theorem Hr{m:Causal}(h:Made m):S.Q_ m=true:=by
 rw[yw];obtain⟨e,c,R,F,N,O,num,rfl,hn,hg,hF,hR,hN,hlt,hinj,hsur,hnd⟩:=h.ex;have hnl:(mkM e c R F N O).nodes.length=e.n:=by simp[mkM]
 have hnode:∀x∈(mkM e c R F N O).nodes,∃k,k<e.n/\x=⟨c (num k),F (num k),N (num k),O (num k)⟩:=λx hx=>by obtain⟨i,hi,rfl⟩:=T4.1 hx;obtain⟨k,hk,rfl⟩:=hsur i (TK.1 hi);exact⟨k,hk,rfl⟩
 have hplN:∀k,k<e.n->S.Rc (N (num k)) R.length=true:=λk hk=>hF.inc _ (hlt k hk);have hpl:(S.Rq (mkM e c R F N O)).length=e.n:=by simp[S.Rq,mkM]
 simp only[S.S7,Ts,TA];refine⟨⟨⟨⟨⟨⟨⟨⟨⟨⟨by show 1<=e.gr;omega,hg.2⟩,by show R.length<=8;omega⟩,by omega⟩,by omega⟩,?_⟩,?_⟩,?_⟩,?_⟩,?_⟩,?_⟩
 ·rw[TC];intro r hr;obtain⟨q,z,-,-,-,rfl⟩:=hF.roots r hr;exact Ev hg.1 hg.2
 ·rw[TC];intro x hx;obtain⟨k,hk,rfl⟩:=hnode x hx;have hc:=hF.card _ (hlt k hk);have h1:=(hnd k hk).places;have h2:=hplN k hk;simp only[S.Tc,Ts,TA];exact⟨⟨⟨by show 1<=c (num k);omega,by show c (num k)<=4;omega⟩,by rw[hnl];exact h1⟩,h2⟩
 ·have:=tK (l:=R.map λr=>(r.length:Int)) λx hx=>by obtain⟨r,hr,rfl⟩:=T4.1 hx;obtain⟨q,z,-,-,-,rfl⟩:=hF.roots r hr;have:=tV e.gr q z;omega
  have hp:=M7 (n:=(R.map λr=>(r.length:Int)).length) (by simpa using hR);show S.Q5 (R.map λr=>(r.length:Int))<=1024;omega
 ·have:=tK (l:=(mkM e c R F N O).nodes.map (·.card)) λx hx=>by obtain⟨y,hy,rfl⟩:=T4.1 hx;obtain⟨k,hk,rfl⟩:=hnode y hy;have hc:=hF.card _ (hlt k hk);show 1<=c (num k)/\c (num k)<=3;omega
  have hp:=M7 (n:=((mkM e c R F N O).nodes.map (·.card)).length) (by rw[Tz,hnl];omega);omega
 ·rw[kV];intro v hv;rw[hpl]at hv;obtain⟨k,hk,rfl⟩:=hsur v hv;have hpar:∀k,k<e.n->Par (S.Rq (mkM e c R F N O)) (num k)=S.Re (F (num k)):=λk hk=>by simp[Par,S.Rq,D6 (hlt k hk)]
  have hT:∀k,k<=e.n->∀u,(S.Re ((List.range k).map λi=>(num i:Int))).testBit u=true↔∃i,i<k/\num i=u:=λk hk u=>by
   rw[tD (n:=e.n) (by omega) (λx hx=>by
    obtain⟨i,hi,rfl⟩:=T4.1 hx;have:=hlt i (by have:=TK.1 hi;omega);omega),U7]
   constructor
   ·intro hx;obtain⟨i,hi,he⟩:=T4.1 hx;exact⟨i,TK.1 hi,by omega⟩
   ·rintro⟨i,hi,rfl⟩;exact T4.2 ⟨i,TK.2 hi,rfl⟩
  have hdown:∀k,k<e.n->∀u,(Par (S.Rq (mkM e c R F N O)) (num k)).testBit u=true->∃i,i<k/\num i=u:=λk hk u hu=>by rw[hpar k hk,tD (n:=e.n) (by omega) (aE (hnd k hk).places),U7]at hu;obtain⟨k',hk',he⟩:=(hnd k hk).down _ hu;exact⟨k',hk',by omega⟩
  have hcl:Cl (S.Rq (mkM e c R F N O)) (S.Re ((List.range k).map λi=>(num i:Int))):=λu hu hb w hw=>by obtain⟨i,hi,rfl⟩:=(hT k (by omega) u).1 hb;obtain⟨i',hi',rfl⟩:=hdown i (by omega) w hw;exact (hT k (by omega) _).2 ⟨i',by omega,rfl⟩
  have hsub:Sub (Par (S.Rq (mkM e c R F N O)) (num k)) (S.Re ((List.range k).map λi=>(num i:Int))):=λw hw=>(hT k (by omega) w).2 (hdown k hk w hw);rw[<-UG];intro hb;obtain⟨i,hi,he⟩:=(hT k (by omega) _).1 (yk hcl hsub _ _ hb);have:=hinj i k (by omega) hk he;omega
 ·rw[TC];intro x hx;obtain⟨k,hk,rfl⟩:=hnode x hx;have h1:=(hnd k hk).places;have hb:=qf hF h1 (hplN k hk);simp only[S.Te,Ts,TA];refine⟨?_,?_⟩
  ·rw[C6 h1];show ((O (num k)).length:Int)=_;rw[(hnd k hk).outs,JE λy hy=>by have:=hb y hy;omega]
  ·simp only[S.R2,TC];intro y hy;have:=(hnd k hk).out y hy;simp;omega
theorem JC{m:Causal}{l:List Int}(hl:l.length=m.nodes.length)(h:∀(i:Nat) (x:Mech),m.nodes[i]?=some x->-1<=l[i]?.getD 0/\l[i]?.getD 0<x.card):S.Rd m l=true:=by
 simp only[S.Rd,Ts,TA,TC,TK];refine⟨hl,λi hi=>?_⟩;have hi':i<m.nodes.length:=by omega
 have:=h i _ (Tn hi');have e:S.Rf m i=(m.nodes[i]).card:=by unfold S.Rf;rw[TH,Tn hi'];rfl
 simp only[S.SM,Ts,TA,e];omega
theorem xw{m:Causal}(hck:S.Q_ m=true)(vs:List UInt8):S.Rd m (S.SX vs m)=true:=by
 refine JC (by simp[S.SX]) λi x hx=>?_;have hi:=(Tu.1 hx).1;have hc:=(ap hck).1.card x (Tv hx);have e:(S.SX vs m)[i]?.getD 0=if ((vs[i]?.map UInt8.toNat).getD 0:Nat) % 3=0 then (((vs[i]?.map UInt8.toNat).getD 0 / 3:Nat):Int) % x.card else -1:=by simp only[S.SX,Tt,U3 hi,TQ,Tq,hx]
 rw[e]
 split
 ·have h1:=Vh (((vs[i]?.map UInt8.toNat).getD 0 / 3:Nat):Int) (show x.card≠0 by omega);have h2:=UY (((vs[i]?.map UInt8.toNat).getD 0 / 3:Nat):Int) (show 0<x.card by omega);omega
 ·omega
theorem MA{m:Causal}(h:Made m):(1<=m.nodes.length/\m.nodes.length<=4)/\(∀x∈m.nodes,x.card=2\/x.card=3)/\Bnd 20000 m:=by
 obtain⟨e,c,R,F,N,O,num,rfl,hn,hg,hF,hR,hN,hlt,hinj,hsur,hnd⟩:=h.ex;refine⟨by simpa [mkM] using hn,λx hx=>?_,?_⟩
 ·obtain⟨i,hi,rfl⟩:=T4.1 hx;exact hF.card i (TK.1 hi)
 ·refine⟨by show R.length<=_;omega,λr hr=>?_,by simp[mkM];omega,λx hx=>?_⟩
  ·obtain⟨q,z,-,-,-,rfl⟩:=hF.roots r hr;have:=tV e.gr q z;omega
  ·obtain⟨i,hi,rfl⟩:=T4.1 hx;have hi:=TK.1 hi;obtain⟨k,hk,rfl⟩:=hsur i hi;refine⟨by have:=(hnd k hk).len;show (F (num k)).length<=_;omega,by have:=hN (num k);show (N (num k)).length<=_;omega,?_⟩;show (O (num k)).length<=_;rw[(hnd k hk).outs];refine TU rU ?_;have hb:=qf hF (hnd k hk).places (hF.inc _ hi);have:=ba (l:=szs c R (F (num k)) (N (num k))) λy hy=>by have:=hb y hy;omega
   have hl4:(szs c R (F (num k)) (N (num k))).length<=7:=by have:=(hnd k hk).len;have:=hN (num k);simp[szs];omega
   have:=bI hl4;have:(4:Int) ^ 7=16384:=by decide
   omega
theorem Qe{k:Nat}{g:G}{b:Nat}{v:AV}{l:List Int}(h:Own g b v 1 (l.map ci))(hl:l.length<9223372036854775808):SlR (λ_=>True) k g.h l v:=by obtain⟨u',eu,hsl⟩:=h.ints (k:=k) hl;injection eu with eu;subst eu;exact hsl
theorem ID{h:H}{id ep n:Nat}{l:List Int}{lo fz:Bool}(hg:h.get id=.cells 1 (l.map ci) ep lo fz):aC h aD (.hsl id ep 0 n none)=[id]:=by
 have z:∀(f:Nat) (rows:List (List AV)),(∀r∈rows,∃x:Int,r=ci x)->rows.flatMap (λr=>r.flatMap (aC h f))=[]:=λf rows hr=>by refine List.flatMap_eq_nil_iff.2 λr hm=>?_;obtain⟨x,rfl⟩:=hr r hm;cases f<;>rfl
 show aC h (23+1) _=_;rw[aC];rw[hg];dsimp only;rw[z];intro r hr;rw[a_,bj]at hr;obtain⟨x,-,rfl⟩:=T4.1 (Uj (Uc hr));exact⟨x,rfl⟩
section
variable {m:Causal}{a b sv av qv nb dv:AV}{p5 p9:Nat}{se al q:List Int}{t:T}{g:G}{Q:QT}
theorem Mr:dM=.seq (.feet [0,0,0,4,12,30,0,127,255,511,511,0,3071,8191] [Wh 72 2 9,o 73 (.bsl 1 1 [.int .i64 0] [0] [.k (.int .i64 (-1))]),oF 74 1 9,oL 75 74,oN 76 75,o 77 (.call N.Q6 [.t 73,.t 76]),oM 78 12,o 79 (.call N.Rd [.t 72,.t 77,.t 78]),oM 71 79,Wi 80 71 0,Wi 81 71 1,o 14 (.alloc [.nils,.nils,.nils]),Wj 3 14 80,oM 15 81])
  (.seq (.feet [0,0,0,4,12,30,63,127,255,255,0,1535,4095] [Wh 83 3 5,o 84 (.bsl 1 1 [.int .i64 0] [0] [.k (.int .i64 (-1))]),oF 85 2 5,oL 86 85,oN 87 86,o 88 (.call N.Q6 [.t 84,.t 87]),o 89 (.call N.Rg [.t 83,.t 88]),oM 82 89,Wi 90 82 0,Wi 91 82 1,o 16 (.alloc [.nils,.nils,.nils]),Wj 3 16 90,oM 17 91]) Ao):=by kernel_rfl
set_option maxRecDepth 20000 in
theorem OU(hck:S.Q_ m=true)(hf1:S.RG m 1=true)(hse:S.Rd m se=true)(hal:S.Rd m al=true)(hqa:S.Rd m q=true)
  (hm:∀h,Agg m NoP 0 h (.agg [.int .i64 m.grain,a,b])) (hR:SlR NoP 0 .nil m.roots a) (hN:SlR NoP 0 .nil m.nodes b) (hs:SlR NoP 0 .nil se sv) (ha:SlR NoP 0 .nil al av) (hqv:SlR NoP 0 .nil q qv) (hnb:SlR NoP 0 .nil (S.Rm m).nodes nb)
  (ht:St t ((9,.hptr p9 0 0 0)::(12,dv)::TsR p5 sv av qv m.roots.length)) (hd:Own g (p9+1) dv 1 ((S.Ro m).map ci)) (hp:p5<g.nx) (hg:g.h.get p5=We 3 [[.int .i64 m.grain,a,b]])
  (hp9:p9<g.nx) (hg9:g.h.get p9=We 2 [[.int .i64 (S.Rm m).grain,nb]])
  (hQ:∀t g,tat t 4=.bool true->Q .ret t [] g):wp C0 1 none dM Q t [] g:=by
 obtain⟨hsm,hgr,hn1,-,-⟩:=ap hck;have hno:=hsm.nodes;obtain⟨f1,f2⟩:=Fg hf1;have hnr:=FI hck hf1;have hlen:=qd m;have hdl:(S.Ro m).length=m.nodes.length:=by simp[S.Ro]
 have hA:∀h,Agg (S.Rm m) NoP 0 h (.agg [.int .i64 (S.Rm m).grain,nb]):=λh=>⟨_,rfl,fO.2 ⟨nb,rfl,hnb.tree (Tp _)⟩⟩;have idn:∀h,aC h aD (.agg [.int .i64 (S.Rm m).grain,nb])=[]:=λh=>Do (h:=h) (fO.2 ⟨nb,rfl,hnb.tree (Tp _)⟩);have idm:∀h,aC h aD (.agg [.int .i64 m.grain,a,b])=[]:=λh=>Do (h:=h) (aZ.2 ⟨a,b,rfl,hR.tree (Tp _),hN.tree (Tp _)⟩);have ln:∀g,dm .slice nb g=.val (.int .i64 ((m.roots.length+m.nodes.length:Nat):Int)):=λg=>by rw[hnb.len,hlen]
 have lb:∀g,dm .slice b g=.val (.int .i64 (m.nodes.length:Int)):=λg=>hN.len g;have hE0:S.SQ (S.Rm m) (List.replicate (m.roots.length+m.nodes.length) (-1)) (S.Ro m)=0:=by
  have he:S.RK (S.Rm m) (List.replicate (m.roots.length+m.nodes.length) (-1))=true:=by refine DM ⟨by rw[TY,hlen],λi hi=>?_⟩;rw[TY]at hi;exact Ga (cs:=S.Q6 (S.Rm m)) (λc hc=>(hnr.cs c hc).1) (by rw[aY,hlen]) i (by rw[aY,hlen];exact hi)
  rw[S.SQ,S.RR,TE (fN.2 hnr),TE he,TE rfl,TE (Hu m)]
 have hTj:S.SV (S.Rm m) (List.replicate (m.roots.length+m.nodes.length) (-1)) (S.Ro m)=⟨S.Ro m,S.Q7 (S.Q6 (S.Rm m)) (S.Ro m),S.SL (S.Rm m) (List.replicate (m.roots.length+m.nodes.length) (-1)) (S.Ro m) (S.Rx (S.Rm m))⟩:=by rw[S.SV,TE hE0]
 have hE1:S.Rs m [List.replicate m.nodes.length (-1)]=0:=by have:=we hsm;rw[S.Rs,TE hck];simp[show S.Rd m (List.replicate m.nodes.length (-1))=true from this]
 have hTt:S.S4 m (List.replicate m.nodes.length (-1))=S.Tf m (S.Rl m):=by rw[S.S4,TE hE1];rfl
 rw[Mr];have idr:∀(h:H) (i:Nat),h.get i=We 1 [[.int .i64 (-1)]]->aC h aD (.hsl i 0 0 1 none)=[i]:=λh i hh=>ID (l:=[-1]) hh;obtain⟨-,e⟩|⟨idd,epd,lod,hd1,hd2,hde,hd3⟩:=hd
 ·have:=congrArg List.length e;rw[Tz,hdl,Vi]at this;omega
 rw[Tz,hdl]at hde;refine iZ (P:=λt' df g'=>df=[]/\Fr g g'/\∃c1 c2 c3 p14,SlR NoP 0 .nil (S.SL (S.Rm m) (List.replicate (m.roots.length+m.nodes.length) (-1)) (S.Ro m) (S.Rx (S.Rm m))) c3/\p14<g'.nx/\g'.h.get p14=We 3 [[c1,c2,c3]]/\St t' ((14,.hptr p14 0 0 0)::(15,.int .i64 0)::TsR p5 sv av qv m.roots.length)) ?_ ?_
 ·obtain⟨h9,h12,h5,h6,h7,h8,h11,-⟩:=ht;have n91:¬p9=g.nx+1:=by omega
  have nd1:¬idd=g.nx+1:=by omega
  simp only[sz,simprocAttr,sf,h9,hg9,zM,n91,ln];refine bH (A8 (n:=m.roots.length+m.nodes.length) (by omega) (by simp[Q_])) λov hov=>?_;have ido:∀h,aC h aD ov=[]:=λh=>Nw (hov.sl h);simp only[sz,simprocAttr,sf,h12];refine bH (Kh (d:=1) (n:=S.Rm m) (e:=List.replicate (m.roots.length+m.nodes.length) (-1)) (vars:=S.Ro m) (kb:=0) (Pb:=λ_=>True) (by decide) (hA _) (hov.sl _) ?_) λr hr=>?_
  ·refine Qe (b:=0) (.inr ⟨idd,epd,lod,Ue _,?_,by rw[Tz,hdl];exact hde,?_⟩) (by omega)
   ·simp;omega
   ·simp[Q_,nd1,hd3]
  obtain⟨ra,rb,rfl,⟨cs,rfl,q1⟩,q2⟩:=hr;have q2:=aB.1 q2;injection q2 with q2;rw[hE0]at q2;rw[hTj]at q1;obtain⟨c1,c2,c3,rfl,-,-,hw⟩:=eC.1 q1;have idd':∀h:H,h.get idd=.cells 1 ((S.Ro m).map ci) epd lod false->aC h aD dv=[idd]:=λh hh=>by rw[hde];exact ID hh
  simp only[sz,simprocAttr,sf,q2,Q_,Fj,xS];refine⟨?_,?_⟩
  ·simp only[TM,TS,TL,TJ];refine aI [false,true,false,false,false,false,false,false,false,false,false,true,true,false] [(0,1),(1,2),(1,3),(1,4),(1,6),(0,11),(1,11),(2,11),(3,11),(4,11),(5,11),(6,11),(7,11),(8,11),(9,11),(10,11),(10,12)] (by simp[All2,ae,aw,bf]) (by decide) ?_;rintro p hp x y hx hy;simp only[T3,TV,U_]at hp;rcases hp with rfl|rfl|rfl|rfl|rfl|rfl|rfl|rfl|rfl|rfl|rfl|rfl|rfl|rfl|rfl|rfl|rfl <;>
    (simp at hx hy;subst hx;subst hy;refine bO rfl rfl rfl rfl ?_ ?_ ?_<;>simp[ae,aw,ak,tZ,wS,CG,IB,sx,h9,h12,n91,nd1,idn,ido,hd3,Q_,idd',show ¬p9=g.nx+1+1 by omega,show ¬g.nx=p9 by omega,show ∀k,¬p9=g.nx+k by intro k;omega,show ∀k,¬idd=g.nx+k by intro k;omega,idr,IG]<;>(try omega))
  ·refine⟨?_,c1,c2,c3,g.nx+1+1+1+1+1+1+1+1+1+1+1+1,hw,?_,?_,?_⟩
   ·exact wR (by simp;omega) λi hi=>by simp[Q_];grind
   ·simp;try omega
   ·simp[Q_]
   ·simp[St,TsR,sx,h5,h6,h7,h8,h11]
 clear ht;rintro t df g1 ⟨rfl,fr1,c1,c2,c3,p14,hw1,hp14,hg14,ht⟩;have hg5:g1.h.get p5=We 3 [[.int .i64 m.grain,a,b]]:=by rw[fr1.2 p5 hp,hg]
 have hp5:p5<g1.nx:=by have:=fr1.1;omega
 refine iZ (P:=λt' df g'=>df=[]/\Fr g1 g'/\∃d1 d2 d3 p16,SlR NoP 0 .nil (S.Rv m (S.Rl m) (S.Q8 m).toNat) d3/\p16<g'.nx/\g'.h.get p16=We 3 [[d1,d2,d3]]/\St t' ((14,.hptr p14 0 0 0)::(15,.int .i64 0)::(16,.hptr p16 0 0 0)::(17,.int .i64 0)::TsR p5 sv av qv m.roots.length)) ?_ ?_
 ·obtain⟨h14,h15,h5,h6,h7,h8,h11,-⟩:=ht;have n51:¬p5=g1.nx+1:=by omega
  simp only[sz,simprocAttr,sf,h5,hg5,zM,n51,lb];refine bH (A8 (n:=m.nodes.length) (by omega) (by simp[Q_])) λov hov=>?_;have ido:∀h,aC h aD ov=[]:=λh=>Nw (hov.sl h);simp only[sz,simprocAttr,sf];refine bH (KZ (d:=1) (m:=m) (al:=List.replicate m.nodes.length (-1)) (by decide) (hm _) (hov.sl .nil)) λr hr=>?_;obtain⟨ra,rb,rfl,⟨cs,rfl,q1⟩,q2⟩:=hr;have q2:=aB.1 q2;injection q2 with q2;rw[hE1]at q2;rw[hTt]at q1;obtain⟨d1,d2,d3,rfl,-,-,hw⟩:=eC.1 q1;simp only[sz,simprocAttr,sf,q2,Q_,Fj,zh];refine⟨?_,?_⟩
  ·simp only[TM,TS,TL,TJ];refine aI [false,true,false,false,false,false,false,false,false,false,true,true,false] [(0,1),(1,2),(1,3),(1,4),(0,10),(1,10),(2,10),(3,10),(4,10),(5,10),(6,10),(7,10),(8,10),(9,10),(9,11)] (by simp[All2,ae,aw,bf]) (by decide) ?_;rintro p hp x y hx hy;simp only[T3,TV,U_]at hp;rcases hp with rfl|rfl|rfl|rfl|rfl|rfl|rfl|rfl|rfl|rfl|rfl|rfl|rfl|rfl|rfl <;>
    (simp at hx hy;subst hx;subst hy;refine bO rfl rfl rfl rfl ?_ ?_ ?_<;>simp[ae,aw,ak,tZ,wS,CG,IB,sx,h5,n51,idm,ido,Q_,show ∀k,¬p5=g1.nx+k by intro k;omega,idr,IG]<;>(try omega))
  ·refine⟨?_,d1,d2,d3,g1.nx+1+1+1+1+1+1+1+1+1+1+1,hw,?_,?_,?_⟩
   ·exact wR (by simp;omega) λi hi=>by simp[Q_];grind
   ·simp;try omega
   ·simp[Q_]
   ·simp[St,TsR,sx,h14,h15,h5,h6,h7,h8,h11]
 clear ht;rintro t df g2 ⟨rfl,fr2,d1,d2,d3,p16,hw2,hp16,hg16,ht⟩;have hck2:=tS m (S.Rl m) (S.Q8 m).toNat;have hT:Tbs m (S.SL (S.Rm m) (List.replicate (m.roots.length+m.nodes.length) (-1)) (S.Ro m) (S.Rx (S.Rm m))) (S.Rv m (S.Rl m) (S.Q8 m).toNat) c3 d3:=by
  refine⟨hw1,hw2,?_,λj x hx=>?_⟩
  ·rw[hck2,S.SL,Tz,Vp,Ht];rfl
  ·have hj:j<(S.RQ m).toNat:=by rw[<-hck2];exact (Tu.1 hx).1
   have h1:=KY hck hf1 hj;have hh:=t6 hck;have h2:=yg hck (we hsm) (S.Q8 m).toNat (by omega) j hj;rw[hx]at h1 h2;have h3:=lM hck (S.S9 m (S.Rl m) j);rw[<-h2]at h3;exact⟨h3.1,h3.2,h1⟩
 exact No hck hse hal hqa hm hN hs ha hqv hT ht (by have:=fr2.1;omega) (by rw[fr2.2 p5 hp5,hg5]) (by rw[fr2.2 p14 hp14,hg14]) hg16 hQ
end
end
end Hx
end
section
namespace Hx
open Go
noncomputable section
theorem QV{c1 c2 c3:List AV}(h1:c1.length=5)(h2:c2.length=5)(h3:c3.length=5):lD (We 15 [c1++(c2++c3)]) 0 0 true 5 0=.val (.agg c1)/\lD (We 15 [c1++(c2++c3)]) 0 0 true 5 5=.val (.agg c2) /\
  lD (We 15 [c1++(c2++c3)]) 0 0 true 5 10=.val (.agg c3):=by
 match c1,c2,c3,h1,h2,h3 with
 |[_,_,_,_,_],[_,_,_,_,_],[_,_,_,_,_],_,_,_=>exact⟨rfl,rfl,rfl⟩
theorem QA(id:Nat):AF 3 5 (.hptr id 0 0 0) (.int .i64 0)=.val (.hptr id 0 0 0)/\AF 3 5 (.hptr id 0 0 0) (.int .i64 1)=.val (.hptr id 0 0 5)/\AF 3 5 (.hptr id 0 0 0) (.int .i64 2)=.val (.hptr id 0 0 10):=by
 refine⟨?_,?_,?_⟩
 ·exact AG 3 5 id 0 0 0 .i64 (j:=0) (by decide)
 ·exact AG 3 5 id 0 0 0 .i64 (j:=1) (by decide)
 ·exact AG 3 5 id 0 0 0 .i64 (j:=2) (by decide)
theorem MM{m:Causal}{j:Nat}(hj:j<m.nodes.length):(S.Ro m).take (j+1)=(S.Ro m).take j++[((m.roots.length+j:Nat):Int)]:=by rw[U6];congr 1;simp[S.Ro,hj]
set_option maxRecDepth 20000 in
theorem Bz{x:Dn}{u1:AV}{v1 v2 v3:List UInt8}(hx:Agg x NoP 0 .nil u1)(hv1:v1.length=5)(hv2:v2.length=5)(hv3:v3.length=5) :
  ∃g',(I C0).call 1 N.RR [u1,.agg (v1.map u8v++(v2.map u8v++v3.map u8v))] G.empty=.ok (.bool true) g':=by
 obtain⟨xs,rfl,qx⟩:=hx;have hx':∀h,Agg x NoP 0 h (.agg xs):=λh=>⟨_,rfl,Rp.tree qx (Tp _)⟩;obtain⟨a1,a2,a3,a4,e1,-⟩:=C5.1 qx;have hxl:xs.length=5:=by rw[e1];rfl
 clear e1 a1 a2 a3 a4;obtain⟨ys,hys⟩:∃ys,ys=v1.map u8v++(v2.map u8v++v3.map u8v):=⟨_,rfl⟩;have hyl:ys.length=15:=by rw[hys];simp[hv1,hv2,hv3]
 have hld:=QV (c1:=v1.map u8v) (c2:=v2.map u8v) (c3:=v3.map u8v) (by simpa using hv1) (by simpa using hv2) (by simpa using hv3);rw[<-hys]at hld ⊢;obtain⟨ld1,ld2,ld3⟩:=hld;have key:=nZ (C:=C0) (d:=1) (f:=N.RR) («as»:=[.agg xs,.agg ys]) (g:=G.empty) (K:=λv g'=>v=.bool true) wB (by simp[j6]) ?_
 ·cases hc:(I C0).call 1 N.RR [.agg xs,.agg ys] G.empty with
  |fail=>rw[hc]at key;exact key.elim
  |ok v g'=>rw[hc]at key;exact⟨g',by rw[show v=.bool true from key]⟩
 clear qx hys;simp only[j6,sz,simprocAttr];obtain⟨g0,hg0⟩:∃g0,g0=((G.empty.new (We xs.length [xs])).new (We ys.length [ys])):=⟨_,rfl⟩;rw[<-hg0];have f0:g0.h.get 0=We 5 [xs]:=by rw[hg0,hxl];simp[sx,Q_]
 have f1:g0.h.get 1=We 15 [ys]:=by rw[hg0,hyl];simp[sx]
 have f4:g0.nx=2:=by rw[hg0];simp[sx]
 clear hg0;have ld0:lD (We 5 [xs]) 0 0 true 5 0=.val (.agg xs):=by
  match xs,hxl with
  |[a,b,c,d,e],_=>rfl
 obtain⟨rm,em,m,hmade,cm,rfl,hcm⟩:=MH (g:=g0) (d:=1) (by decide) (hx' _);obtain⟨hml,hmc,-⟩:=MA hmade;have hck:=Hr hmade;obtain⟨a,b,rfl,hR,hN⟩:=aZ.1 hcm;have hm:∀h,Agg m NoP 0 h (.agg [.int .i64 m.grain,a,b]):=λh=>⟨_,rfl,Rp.tree hcm (Tp _)⟩;have hRt:SlR NoP 0 .nil m.roots a:=hR.tree (Tp _);have hNt:SlR NoP 0 .nil m.nodes b:=hN.tree (Tp _);obtain⟨hsm,hgr,hn1,-,-⟩:=ap hck;have hro:=hsm.roots;simp only[nf,cP2];refine iZ (P:=λt' df g'=>df=[]/\g'=g0/\St t' [(2,.hptr 0 0 0 0),(3,.hptr 1 0 0 0)]) ?_ ?_
 ·simp only[sz,simprocAttr,Ew];simp[St,sx]
 rintro t df g1 ⟨rfl,rfl,h2,h3,-⟩;refine bh (P:=λt' df g'=>df=[]/\St t' [(3,.hptr 1 0 0 0),(5,.hptr 2 0 0 0)]/\g'.nx=3/\g'.h.get 1=We 15 [ys]/\g'.h.get 2=We 3 [[.int .i64 m.grain,a,b]]) ?_ ?_
 ·simp only[sz,simprocAttr,h2,f0,ld0,em];simp[St,sx,h3,f4,f1,Q_]
 clear h2 h3 f0 f1 f4 em ld0;rintro t df g3 ⟨rfl,⟨h3,h5,-⟩,n3,f1,f2⟩;have hcp:∀x∈m.nodes,0<x.card:=λx hx=>by rcases hmc x hx with h|h<;>omega
 obtain⟨sv,es,hsv⟩:=vO (d:=1) (g:=aO g3 []) (w:=.agg [.int .i64 m.grain,a,b]) (by decide) hv1 (hm _) (by omega) hcp;obtain⟨av,ea,hav⟩:=vO (d:=1) (g:=aO g3 []) (w:=.agg [.int .i64 m.grain,a,b]) (by decide) hv2 (hm _) (by omega) hcp;obtain⟨qv,eq,hqv⟩:=vO (d:=1) (g:=aO g3 []) (w:=.agg [.int .i64 m.grain,a,b]) (by decide) hv3 (hm _) (by omega) hcp;obtain⟨i0,i1,i2⟩:=QA 1;refine iZ (P:=λt' df g'=>df=[]/\St t' [(5,.hptr 2 0 0 0),(6,sv),(7,av),(8,qv)]/\g'.h.get 2=We 3 [[.int .i64 m.grain,a,b]]/\2<g'.nx) ?_ ?_
 ·simp only[sz,simprocAttr,h3,h5,i0,i1,i2,f1,f2,ld1,ld2,ld3,es,ea,eq];simp[St,sx,h5,n3]
 clear h3 h5 n3 f1 f2 es ea eq;rintro t df g4 ⟨rfl,⟨h5,h6,h7,h8,-⟩,f2,hn⟩;refine bh (P:=λt' df g'=>df=[]/\∃nb,SlR NoP 0 .nil (S.SS m).nodes nb/\St t' [(5,.hptr 2 0 0 0),(6,sv),(7,av),(8,qv),(9,.hptr g4.nx 0 0 0),(10,.int .i64 (S.Sw m))]/\g'.h.get 2=We 3 [[.int .i64 m.grain,a,b]]/\g'.nx=g4.nx+1/\g'.h.get g4.nx=We 2 [[.int .i64 (S.SS m).grain,nb]]) ?_ ?_
 ·simp only[sz,simprocAttr,h5,f2];refine bH (P8 (d:=1) (by decide) (hm _)) λr hr=>?_;obtain⟨ra,rb,rfl,⟨cs,rfl,q1⟩,q2⟩:=hr;have q2:=aB.1 q2;injection q2 with q2;obtain⟨nb,rfl,hNn⟩:=fO.1 q1;simp only[sz,simprocAttr,q2,Q_];exact⟨nb,hNn,by simp[St,sx,h5,h6,h7,h8],by simp[Q_,show ¬2=g4.nx by omega,f2]⟩
 clear h5 h6 h7 h8 f2;rintro t df g5 ⟨rfl,nb,hnb,ht,f2,n5,f9⟩;have hE:S.Sw m=if S.RG m 1 then 0 else 6:=by rw[S.Sw,TE hck]
 by_cases hf0:S.RG m 1=false
 ·rw[hE,TF (by simp[hf0])]at ht;obtain⟨h5,h6,h7,h8,h9,h10,-⟩:=ht;simp only[sz,simprocAttr,h10]
 have hf:S.RG m 1=true:=by simpa using hf0
 rw[hE,TE hf]at ht;have hT:S.SS m=S.Rm m:=by rw[S.SS,hE,TE hf];rfl
 rw[hT]at hnb f9;refine iZ (P:=λt' df g'=>df=[]/\g'=g5/\St t' [(5,.hptr 2 0 0 0),(6,sv),(7,av),(8,qv),(9,.hptr g4.nx 0 0 0)]) ?_ ?_
 ·obtain⟨h5,h6,h7,h8,h9,h10,-⟩:=ht;simp only[sz,simprocAttr,h10];simp[St,sx,h5,h6,h7,h8,h9]
 clear ht;rintro t df g6 ⟨rfl,rfl,⟨h5,h6,h7,h8,h9,-⟩⟩;have la:∀g,dm .slice a g=.val (.int .i64 (m.roots.length:Int)):=λg=>hR.len g;have lb:∀g,dm .slice b g=.val (.int .i64 (m.nodes.length:Int)):=λg=>hN.len g;refine bh (P:=λt' df g'=>df=[]/\g'=g6/\St t' ((9,.hptr g4.nx 0 0 0)::TsR 2 sv av qv m.roots.length)) ?_ ?_
 ·simp only[sz,simprocAttr,h5,f2,la];simp[St,TsR,sx,h5,h6,h7,h8,h9]
 clear h5 h6 h7 h8 h9;rintro t df g7 ⟨rfl,rfl,⟨h9,h5,h6,h7,h8,h11,-⟩⟩;refine bh (P:=λt' df g'=>df=[]/\g'=g7/\St t' ((9,.hptr g4.nx 0 0 0)::(12,.nils)::TsR 2 sv av qv m.roots.length)) ?_ ?_
 ·simp only[sz,simprocAttr];simp[St,TsR,sx,h5,h6,h7,h8,h9,h11]
 clear h5 h6 h7 h8 h9 h11;rintro t df g8 ⟨rfl,rfl,ht⟩;refine iZ (P:=λt' df g'=>df=[]/\∃dv,St t' ((9,.hptr g4.nx 0 0 0)::(12,dv)::TsR 2 sv av qv m.roots.length)/\Own g' (g4.nx+1) dv 1 ((S.Ro m).map ci)/\g4.nx<g'.nx/\g'.h.get 2=We 3 [[.int .i64 m.grain,a,b]]/\g'.h.get g4.nx=We 2 [[.int .i64 (S.Rm m).grain,nb]]) ?_ ?_
 ·refine bh (P:=λt' df g'=>df=[]/\g'=g8/\St t' ((9,.hptr g4.nx 0 0 0)::(12,.nils)::TsR 2 sv av qv m.roots.length)/\tat t' 60=.int .i64 (m.nodes.length:Int)/\tat t' 61=.int .i64 0) ?_ ?_
  ·obtain⟨h9,h12,h5,h6,h7,h8,h11,-⟩:=ht;simp only[sz,simprocAttr,h5,f2,lb];simp[St,TsR,sx,h5,h6,h7,h8,h9,h11,h12]
  clear ht;rintro t df g9 ⟨rfl,rfl,ht,h60,h61⟩;rw[ym,xn];unfold ma;refine aq (m:=m.nodes.length) (by omega) (λj t df g'=>df=[]/\∃dv,St t ((9,.hptr g4.nx 0 0 0)::(12,dv)::TsR 2 sv av qv m.roots.length)/\Own g' (g4.nx+1) dv 1 (((S.Ro m).take j).map ci)/\g4.nx<g'.nx/\g'.h.get 2=We 3 [[.int .i64 m.grain,a,b]]/\g'.h.get g4.nx=We 2 [[.int .i64 (S.Rm m).grain,nb]])
   ⟨rfl,.nils,ht,.inl ⟨rfl,rfl⟩,by omega,f2,f9⟩ h61 h60 (by decide)
   (by rintro j t df g v s (rfl|rfl|rfl) ⟨a1,dv,⟨k1,k2,k3,k4,k5,k6,k7,-⟩,a3⟩<;>exact⟨a1,dv,by simp[St,TsR,sx,k1,k2,k3,k4,k5,k6,k7],a3⟩) ?_ ?_
  ·rintro j t df g' hj ⟨rfl,dv,⟨h9,h12,h5,h6,h7,h8,h11,-⟩,hu,hn',e2,e9⟩ h61 h60;have hw:IntKind.wrap .i64 ((m.roots.length:Int)+(j:Int))=((m.roots.length+j:Nat):Int):=by rw[au (by omega) (by omega)];omega
   have tl:((S.Ro m).take j).length=j:=by rw[Un];simp[S.Ro];omega
   simp only[sz,simprocAttr,h61,h12,h11,hw];refine aT (new:=[ci ((m.roots.length+j:Nat):Int)]) (hu.step (Fr.new _ _)) (by simp[sx,sy,ci]) (by simp;omega) (by rw[Tz,tl];simp[aQ];omega) λv2 g2 hv2 n2 f2' _ _=>?_;simp only[sz,simprocAttr];simp at n2;refine⟨⟨v2,by simp[St,TsR,sx,h5,h6,h7,h8,h9,h11],?_,by omega,?_,?_⟩,by simp[h61],by simp[h60]⟩
   ·rw[MM hj,Ub];exact hv2
   ·rw[f2' 2 (by simp;omega) (λe=>by have:=(hu.lt e).1;omega),G.new_h,ah _ _ _ (by omega),e2]
   ·rw[f2' g4.nx (by simp;omega) (λe=>by have:=(hu.lt e).1;omega),G.new_h,ah _ _ _ (by omega),e9]
  ·rintro t df g' ⟨rfl,dv,ht,hu,hn',e2,e9⟩;simp only[kP,if_true];rw[Ug (by simp[S.Ro])]at hu;exact⟨trivial,trivial,dv,ht,hu,hn',e2,e9⟩
 clear ht;rintro t df g9 ⟨rfl,dv,ht,hu,hn9,e2,e9⟩;exact OU hck hf (xw hck v1) (xw hck v2) (xw hck v3) hm hRt hNt (hsv.sl .nil) (hav.sl .nil) (hqv.sl .nil) hnb ht hu (by omega) e2 hn9 e9 λt g' h=>by simp only[sz,h]
end
end Hx
end
section
namespace Hx
open Go Go.RowKit Go.ChangeShapes Go.WideShapes
def vg(P:Program):List Field->Nat->Option Nat
 |[],k=>some k
 |f::fs,k=>if f.offset=k then vg P fs (k+P.cellsOf f.type) else none
def tJ(P:Program):Nat->TypeId->Bool
 |0,_=>false
 | n+1,t=>match P.underlying t with
  |some .bool=>true
  |some (.int _)=>true
  |some (.slice e)=>decide (0<P.cellsOf e)&&tJ P n e
  |some (.struct fs)=>(vg P fs.toList 0 == some (P.cellsOf t))&&fs.toList.all (λf=>tJ P n f.type)
  |some (.array m e)=>decide (m*P.cellsOf e=P.cellsOf t)&&tJ P n e
  |_=>false
def Sh(P:Program):Nat->TypeId->List AV->Prop
 |0,_,_=>False
 | n+1,t,xs=>match P.underlying t with
  |some .bool=>∃b,xs=[.bool b]
  |some (.int k)=>∃z,xs=[.int k z]/\(Lit.int k z).wf=true
  |some (.slice e)=>xs=[.nils]\/∃rows,xs=[.tsl 0 (P.cellsOf e) rows]/\rows.length<9223372036854775808/\∀row∈rows,Sh P n e row
  |some (.struct fs)=>∃xss,xs=xss.flatten/\All2 (λ(f:Field) ys=>Sh P n f.type ys) fs.toList xss
  |some (.array m e)=>∃xss:List (List AV),xs=xss.flatten/\xss.length=m/\∀ys∈xss,Sh P n e ys
  |_=>False
def EC(P:Program)(w:World)(n:Nat)(t:TypeId)(xs:List AV)(cs:List Value):Prop :=
 RVs0 w xs cs/\(∀y∈xs,y.one=true/\Closed y)/\Sh P n t xs
theorem RVs0.append{w:World}{xs ys:List AV}{cs ds:List Value}(h:RVs0 w xs cs)(h':RVs0 w ys ds):RVs0 w (xs++ys) (cs++ds):=by
 refine⟨by rw[TP,TP,h.1,h'.1],λi x v hx hv=>?_⟩;rcases VN i xs.length with hi|hi
 ·rw[TD hi]at hx;rw[TD (by rw[<-h.1];exact hi)]at hv;exact h.2 i x v hx hv
 ·rw[TB hi]at hx;rw[TB (by rw[<-h.1];exact hi),<-h.1]at hv;exact h'.2 _ x v hx hv
theorem Ib(b o n:Nat):(⟨b,o,none⟩:Addr).add n=adr b (o+n):=by
 unfold Addr.add
 split
 ·rename_i h;subst h;rfl
 ·rfl
variable {H:Type}{enc:TypeId×Value->H}{P:Program}{w:World}
theorem Cy:∀{fl:List Field} {k K:Nat},vg P fl k=some K->k<=K
 |[],k,K,h=>by injection h with h;omega
 | f::fl,k,K,h=>by
  unfold vg at h
  split at h
  ·have:=Cy h;omega
  grind
theorem M6{n:Nat}{cs:List Value}:∀{fl:List Field} {k K:Nat},vg P fl k=some K ->
  (∀f∈fl,∃xs,EC P w n f.type xs ((cs.drop f.offset).take (P.cellsOf f.type))) ->
  ∃xss,All2 (λ(f:Field) ys=>Sh P n f.type ys) fl xss/\RVs0 w xss.flatten ((cs.drop k).take (K - k))/\∀y∈xss.flatten,y.one=true/\Closed y
 | [],k,K,h,_=>by injection h with h;subst h;exact⟨[],trivial,by rw[UB,Wc];exact⟨rfl,λi x v hx=>by grind⟩,λy hy=>by grind⟩
 | f::fl,k,K,h,hg=>by
  unfold vg at h
  split at h
  ·rename_i ho;subst ho;obtain⟨xs,h1,h2,h3⟩:=hg f (by simp);obtain⟨xss,a1,a2,a3⟩:=M6 h λf' hf'=>hg f' (by grind);have hle:=Cy h;refine⟨xs::xss,⟨h3,a1⟩,?_,λy hy=>?_⟩
   ·have e:(cs.drop f.offset).take (K - f.offset)=(cs.drop f.offset).take (P.cellsOf f.type)++(cs.drop (f.offset+P.cellsOf f.type)).take (K - (f.offset+P.cellsOf f.type)):=by rw[show K - f.offset=P.cellsOf f.type+(K - (f.offset+P.cellsOf f.type)) by omega,List.take_add,UI]
    grind[RVs0.append]
   grind
  grind
theorem Ic{n:Nat}{e:TypeId}{cs:List Value}:∀{m k:Nat},
  (∀i,i<m->∃xs,EC P w n e xs ((cs.drop ((k+i)*P.cellsOf e)).take (P.cellsOf e))) ->
  ∃xss:List (List AV),xss.length=m/\(∀ys∈xss,Sh P n e ys)/\RVs0 w xss.flatten ((cs.drop (k*P.cellsOf e)).take (m*P.cellsOf e))/\∀y∈xss.flatten,y.one=true/\Closed y
 |0,k,_=>⟨[],rfl,λy hy=>by grind,by rw[Nat.zero_mul,Wc];exact⟨rfl,λi x v hx=>by grind⟩,λy hy=>by grind⟩
 | m+1,k,hg=>by
  obtain⟨xs,h1,h2,h3⟩:=hg 0 (by omega);rw[Vv]at h1;obtain⟨xss,a0,a1,a2,a3⟩:=Ic (m:=m) (k:=k+1) λi hi=>by have:=hg (i+1) (by omega);rwa [show k+(i+1)=k+1+i by omega]at this
  refine⟨xs::xss,by simp[a0],λys hy=>?_,?_,λy hy=>?_⟩
  ·grind
  ·have e:(cs.drop (k*P.cellsOf e)).take ((m+1)*P.cellsOf e)=(cs.drop (k*P.cellsOf e)).take (P.cellsOf e)++(cs.drop ((k+1)*P.cellsOf e)).take (m*P.cellsOf e):=by rw[show (m+1)*P.cellsOf e=P.cellsOf e+m*P.cellsOf e by grind,List.take_add,UI,T_,UC]
   grind[RVs0.append]
  grind
theorem Fv:∀(n:Nat) (t:TypeId),tJ P n t=true->∀(fuel:Nat) (cs:List Value) (x:DataW H×List MemPlace),DataW.trod enc P w 0 (λ_=>true) true fuel t cs=some x->∃xs,EC P w n t xs cs:=by
 intro n
 induction n with
 |zero=>grind[tJ]
 | succ n ih =>
  intro t h fuel cs x hx;unfold tJ at h
  split at h
  ·rename_i hu;obtain⟨b,rfl,-⟩:=DataW.trod_bool hu hx;refine⟨[.bool b],⟨rfl,λi x v h1 h2=>?_⟩,λy hy=>?_,?_⟩
   ·cases i with
    |zero=>simp at h1 h2;subst h1;subst h2;exact .bool _ _
    |succ i=>grind
   ·simp at hy;subst hy;exact⟨rfl,.bool _⟩
   simp_all[Sh]
  ·rename_i k hu;obtain⟨z,rfl,-,hwf⟩:=DataW.trod_int hu hx;refine⟨[.int k z],⟨rfl,λi x v h1 h2=>?_⟩,λy hy=>?_,?_⟩
   ·cases i with
    |zero=>simp at h1 h2;subst h1;subst h2;exact .int _ _ _
    |succ i=>grind
   ·simp at hy;subst hy;exact⟨rfl,.int _ _⟩
   simp_all[Sh]
  ·rename_i e hu;rw[Ts,TA]at h;obtain⟨hpos,hp⟩:=h;rcases DataW.trod_slice hu hx with⟨rfl,-⟩|⟨a,len,cap,elems,rest,m,-,rfl,-,-,hlc,hcm,hlen,hel,-,-⟩
   ·refine⟨[.nils],⟨rfl,λi x v h1 h2=>?_⟩,λy hy=>?_,?_⟩
    ·cases i with
     |zero=>simp at h1 h2;subst h1;subst h2;exact .nils _
     |succ i=>grind
    ·simp at hy;subst hy;exact⟨rfl,.nils⟩
    simp_all[Sh]
   ·have each:∀i,i<len->∃xs vs,w.cells? 0 (a.add (i*P.cellsOf e)) (P.cellsOf e)=some vs/\EC P w n e xs vs:=by
     grind[Option.bind_eq_some_iff]
    let rowf:Nat->List AV:=λi=>if hi:i<len then Classical.choose (each i hi) else []
    let valf:Nat->List Value:=λi=>if hi:i<len then Classical.choose (Classical.choose_spec (each i hi)) else []
    have hrow:∀i,i<len->w.cells? 0 (a.add (i*P.cellsOf e)) (P.cellsOf e)=some (valf i)/\EC P w n e (rowf i) (valf i):=by
     grind
    have hget:∀(i:Nat) (row:List AV),((List.range len).map rowf)[i]?=some row->i<len/\row=rowf i:=by intro i row h1;rw[Tt]at h1;rcases VN i len with hi|hi<;>grind
    refine⟨[.tsl 0 (P.cellsOf e) ((List.range len).map rowf)],⟨rfl,λi x v h1 h2=>?_⟩,λy hy=>?_,?_⟩
    ·cases i with
     |succ i=>grind
     | zero =>
      simp at h1 h2;subst h1;subst h2;rcases Nat.eq_zero_or_pos len with h0|h0
      ·subst h0;exact .tnil 0 0 _ a cap (Tp _)
      ·obtain⟨b,o,spot⟩:=a;have hc0:=World.cells?_some (hrow 0 h0).1;have hv0:(valf 0)[0]?=some (valf 0)[0]:=Tn (by omega);have h00:=hc0.2.2 0 hpos;rw[hv0]at h00;have hspot:spot=none:=by simpa [Addr.add] using World.cell?_spot h00
       subst hspot;have cellat:∀i j row x,((List.range len).map rowf)[i]?=some row->row[j]?=some x->∃v,(valf i)[j]?=some v/\w.cell? (adr b (o+i*P.cellsOf e+j))=some v/\RV w gm0 av0 0 x v:=by
        intro i j row x hr hxj;obtain⟨hi,rfl⟩:=hget i row hr;obtain⟨q1,q2⟩:=hrow i hi;have hj:j<(rowf i).length:=(by grind);have hj':j<(valf i).length:=by rw[<-q2.1.1];exact hj
        have hcs:=World.cells?_some q1;have hcell:=hcs.2.2 j (by omega);rw[Tn hj']at hcell;refine⟨_,Tn hj',?_,q2.1.2 j x _ hxj (Tn hj')⟩;rw[Ib,show adr b (o+i*P.cellsOf e)=(⟨b,o+i*P.cellsOf e,none⟩:Addr) from rfl,Ib]at hcell;omega
       have hb:b<w.heap.size:=by
        have:=Hq h00
        grind[Addr.add]
       have hrl:((List.range len).map rowf).length=len:=by simp
       have key:=RV.tsl (w:=w) (γ:=gm0) (A:=av0) 0 0 (P.cellsOf e) ((List.range len).map rowf) b o cap (λi j=>(valf i)[j]?.getD undef) (Tp _) (by omega) hb (QH b) (λh=>h)
        (λi row hr=>by
         obtain⟨hi,rfl⟩:=hget i row hr;obtain⟨q1,q2⟩:=hrow i hi;rw[q2.1.1,(World.cells?_some q1).2.1])
        (λi j row x hr hxj=>by
         obtain⟨hi,rfl⟩:=hget i row hr;exact ((hrow i hi).2.2.1 x (Tv hxj)).1)
        (λi j row x hr hxj=>by
         obtain⟨v,v1,v2,v3⟩:=cellat i j row x hr hxj<;>grind)
        (λi j row x hr hxj=>by
         obtain⟨v,v1,v2,v3⟩:=cellat i j row x hr hxj<;>grind)
        (λrow hr x hx=>by
         obtain⟨i,hi⟩:=T2 hr;obtain⟨hi2,rfl⟩:=hget i row hi;exact ((hrow i hi2).2.2.1 x hx).2)
       rw[hrl]at key;exact key
    ·simp only[Vk]at hy;subst hy;refine⟨rfl,.tsl _ _ _ λrow hr x hx=>?_⟩;obtain⟨i,hi⟩:=T2 hr;obtain⟨hi2,rfl⟩:=hget i row hi;exact ((hrow i hi2).2.2.1 x hx).2
    ·unfold Sh;rw[hu];refine .inr ⟨_,rfl,?_,λrow hr=>?_⟩
     ·grind[maxLen]
     ·obtain⟨i,hi⟩:=T2 hr;obtain⟨hi2,rfl⟩:=hget i row hi;exact (hrow i hi2).2.2.2
  ·rename_i fs hu;rw[Ts]at h;obtain⟨hc,hp⟩:=h;have hc:vg P fs.toList 0=some (P.cellsOf t):=eq_of_beq hc;obtain⟨ys,m,-,-,hl,hyl,hel⟩:=DataW.trod_struct hu hx;obtain⟨xss,a1,a2,a3⟩:=M6 (w:=w) (n:=n) (cs:=cs) hc λf hf=>by
    obtain⟨i,hi,e⟩:=Ui.1 hf;have hfi:fs[i]?=some f:=by grind
    grind
   rw[VD,Vw,<-hl,TO]at a2;refine⟨xss.flatten,a2,a3,?_⟩;unfold Sh;grind
  ·rename_i m e hu;rw[Ts,TA]at h;obtain⟨hc,hp⟩:=h;obtain⟨ys,q,-,-,hl,hyl,hel⟩:=DataW.trod_array hu hx;obtain⟨xss,a0,a1,a2,a3⟩:=Ic (w:=w) (n:=n) (e:=e) (cs:=cs) (m:=m) (k:=0) λi hi=>by have:=hel i hi;rw[Tn (show i<ys.length by omega)]at this;rw[T6];exact ih e hp _ _ _ this
   rw[Nat.zero_mul,VD,hc,<-hl,TO]at a2;refine⟨xss.flatten,a2,a3,?_⟩;unfold Sh;grind
  grind
theorem oG{n:Nat}{t:TypeId}{xs:List AV}(hu:P.underlying t=some (.int .u8))(h:Sh P n t xs):∃x:UInt8,Rp.rp NoP 0 .nil x xs:=by
 cases n with
 |zero=>exact h.elim
 | succ n =>
  unfold Sh at h;rw[hu]at h;obtain⟨z,rfl,hw⟩:=h;simp only[Lit.wf,IntKind.min,IntKind.max,IntKind.signed,IntKind.bits,Ts]at hw;refine⟨UInt8.ofNat z.toNat,fP.2 ?_⟩
  grind[UInt8.toNat_ofNat_of_lt']
theorem xg{α:Type} [Rp α]{n:Nat}{t e:TypeId}{xs:List AV}(hu:P.underlying t=some (.slice e))(hsz:P.cellsOf e=Rp.sz α)(hel:∀ys,Sh P n e ys->∃y:α,Rp.rp NoP 0 .nil y ys)(h:Sh P (n+1) t xs) :
  ∃l:List α,Rp.rp NoP 0 .nil l xs:=by
 unfold Sh at h;rw[hu]at h;rcases h with rfl|⟨rows,rfl,hl,hr⟩
 ·exact⟨[],.nils,rfl,by simp,rfl⟩
 ·have:∀rows:List (List AV),(∀row∈rows,Sh P n e row)->∃l:List α,All2 (Rp.rp NoP 0 .nil) l rows:=by
   intro rows
   induction rows with
   |nil=>intro _;exact⟨[],trivial⟩
   | cons r rows ih =>
    intro h;obtain⟨y,hy⟩:=hel r (h r (by simp));obtain⟨l,hl⟩:=ih λrow hrow=>h row (by grind);exact⟨y::l,hy,hl⟩
  obtain⟨l,ha⟩:=this rows hr;exact⟨l,_,rfl,by grind[All2.len],Tp _,.inl hsz,ha⟩
theorem Bf{n m:Nat}{t e:TypeId}{xs:List AV}(hu:P.underlying t=some (.array m e))(h:Sh P (n+1) t xs):∃xss:List (List AV),xs=xss.flatten/\xss.length=m/\∀ys∈xss,Sh P n e ys:=by
 grind[Sh]
theorem x7{n:Nat}{t:TypeId}{fs:Array Field}{xs:List AV}(hu:P.underlying t=some (.struct fs))(h:Sh P (n+1) t xs):∃xss,xs=xss.flatten/\All2 (λ(f:Field) ys=>Sh P n f.type ys) fs.toList xss:=by
 grind[Sh]
end Hx
end
