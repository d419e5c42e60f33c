/- A part of the proof: an interpreter over abstract values, shown right against the model, and what the functions of the chapter compute on it. -/
import Derived.OpenShut
import Derived.DataReads
import Derived.Test.YtfpjoiojhegfaaaDoorHx9
set_option linter.unusedVariables false
set_option linter.unusedSimpArgs false
set_option linter.unnecessarySimpa false
section
namespace Hx
open Go
noncomputable section
theorem kG {a b v:Nat}:Bt (a ||| b) v↔Bt a v\/Bt b v:=by rw[Bt,Nat.testBit_or,Bool.or_eq_true];rfl
theorem ww (a b:Nat):Bt (a ||| b)=fun v=>Bt a v\/Bt b v:=funext fun v=>propext kG
theorem eJ {a b:Nat}:a &&& b=0↔∀v,¬(Bt a v/\Bt b v):=by
 rw[<-Classical.not_not (a:=a &&& b=0)]
 show ¬(a &&& b≠0)↔_
 rw[zN]
 exact ⟨fun h v hv=>h ⟨v,hv⟩,fun h ⟨v,hv⟩=>h v hv⟩
theorem eo {a b v:Nat}:Bt (a ^^^ (a &&& b)) v↔Bt a v/\¬Bt b v:=by
 rw[Bt,Nat.testBit_xor,Nat.testBit_and]
 unfold Bt
 cases a.testBit v<;>cases b.testBit v<;>simp
theorem iK {a b n:Nat}(h:a<2 ^ n):a ^^^ (a &&& b)<2 ^ n:=Nat.xor_lt_two_pow h (Nat.lt_of_le_of_lt Nat.and_le_left h)
theorem lA {x n:Nat}:x &&& (2 ^ n - 1)<2 ^ n:=by
 rw[Nat.and_two_pow_sub_one_eq_mod]
 exact Nat.mod_lt _ (Nat.pow_pos (by decide))
def Apt (p:List Nat)(x y z:Nat):Prop:=∀v,Bt y v->¬Re (Eg p) (Bt z) (Bt x) v
theorem x8 {p:List Nat}{x y z:Nat}(hy:y<2 ^ p.length):S.aa (Re (Eg p) (Bt z) (Bt x)) p.length &&& y=0↔Apt p x y z:=by
 rw[eJ]
 constructor
 ·intro h v hv hr
  exact h v ⟨el.2 ⟨jS hy hv,hr⟩,hv⟩
 ·rintro h v ⟨h1,h2⟩
  exact h v h2 (el.1 h1).2
theorem su {p:List Nat}{x y z:Nat}(hy:y &&& z=0)(h:Apt p x y z):Apt p y x z:=by
 intro v hv hr
 obtain ⟨u,hu,hr2⟩:=zI (X:=Bt y) (Y:=Bt x) (fun u hu hz=>eJ.1 hy u ⟨hu,hz⟩) hv hr
 exact h u hu hr2
theorem wu {p:List Nat}{x y w z:Nat}(h:Apt p x (y ||| w) z):Apt p x y z:=fun v hv=>h v (kG.2 (.inl hv))
theorem uY {p:List Nat}{x y w z:Nat}(h:Apt p x (y ||| w) z):Apt p x w z:=fun v hv=>h v (kG.2 (.inr hv))
theorem u4 {p:List Nat}{x y w z:Nat}(h:Apt p x (y ||| w) z):Apt p x y (z ||| w):=by
 intro v hv hr
 rw[ww] at hr
 rcases yM hr with h1 | ⟨u,hu,h1⟩
 ·exact h v (kG.2 (.inl hv)) h1
 ·exact h u (kG.2 (.inr hu)) h1
theorem vt {p:List Nat}{x y w z:Nat}(hyw:w &&& y=0)(h1:Apt p x y z)(h2:Apt p x w (z ||| y)):Apt p x (y ||| w) z:=by
 intro v hv hr
 rcases kG.1 hv with hv | hv
 ·exact h1 v hv hr
 ·rcases xV (Y:=Bt y) (fun hy=>eJ.1 hyw v ⟨hv,hy⟩) hr with h | ⟨u,hu,h⟩
  ·rw[<-ww] at h
   exact h2 v hv h
  ·exact h1 u hu h
theorem zG {p:List Nat}{x z:Nat}(hx:x &&& z=0){v:Nat}(hv:Bt x v):Re (Eg p) (Bt z) (Bt x) v:=⟨⟨false,.st hv⟩,fun h=>eJ.1 hx v ⟨hv,h⟩⟩
theorem uL {n a b c e:Nat}:∃x y w z:Nat,(x=a &&& (2 ^ n - 1)/\y=(b &&& (2 ^ n - 1)) ^^^ (b &&& (2 ^ n - 1) &&& x) /\
  w=((c &&& (2 ^ n - 1)) ^^^ (c &&& (2 ^ n - 1) &&& x)) ^^^ (((c &&& (2 ^ n - 1)) ^^^ (c &&& (2 ^ n - 1) &&& x)) &&& y) /\
  z=((((e &&& (2 ^ n - 1)) ^^^ (e &&& (2 ^ n - 1) &&& x)) ^^^ (((e &&& (2 ^ n - 1)) ^^^ (e &&& (2 ^ n - 1) &&& x)) &&& y))) ^^^ (((((e &&& (2 ^ n - 1)) ^^^ (e &&& (2 ^ n - 1) &&& x)) ^^^ (((e &&& (2 ^ n - 1)) ^^^ (e &&& (2 ^ n - 1) &&& x)) &&& y))) &&& w)) /\
  (x<2 ^ n/\y<2 ^ n/\w<2 ^ n/\z<2 ^ n)/\y &&& x=0/\w &&& x=0/\w &&& y=0/\z &&& x=0/\z &&& y=0/\z &&& w=0:=by
 refine ⟨_,_,_,_,⟨rfl,rfl,rfl,rfl⟩,⟨lA,iK lA,iK (iK lA),iK (iK (iK lA))⟩,?_,?_,?_,?_,?_,?_⟩
 ·exact eJ.2 fun v h=>(eo.1 h.1).2 h.2
 ·exact eJ.2 fun v h=>(eo.1 (eo.1 h.1).1).2 h.2
 ·exact eJ.2 fun v h=>(eo.1 h.1).2 h.2
 ·exact eJ.2 fun v h=>(eo.1 (eo.1 (eo.1 h.1).1).1).2 h.2
 ·exact eJ.2 fun v h=>(eo.1 (eo.1 h.1).1).2 h.2
 ·exact eJ.2 fun v h=>(eo.1 h.1).2 h.2
theorem zF (d q:Nat)(x y z:AV)(g:G):dR C0 (I C0) d (.clo N.ah [] [.hptr q 0 0 0]) [x,y,z] g=orF ((I C0).call d N.ah [x,y,z,.hptr q 0 0 0] g):=by kernel_rfl
theorem pE {p:List Nat}{x y z:Nat}(hG:GOk p)(hx:x<2 ^ p.length)(hy:y<2 ^ p.length)(hz:z<2 ^ p.length)(h1:y &&& x=0)(h2:z &&& x=0)(h3:z &&& y=0):S.ah p [x,y,z]=0:=by
 refine m7.2 ⟨hG,zu.2 ⟨hx,hy,h1,hz,?_⟩⟩
 exact eJ.2 fun v h=>(kG.1 h.2).elim (fun h'=>eJ.1 h2 v ⟨h.1,h'⟩) fun h'=>eJ.1 h3 v ⟨h.1,h'⟩
theorem gB {p:List Nat}{x y z:Nat}(hG:GOk p)(hx:x<2 ^ p.length)(hy:y<2 ^ p.length)(hz:z<2 ^ p.length)(h1:y &&& x=0)(h2:z &&& x=0)(h3:z &&& y=0):S.ae p x y z=true↔Apt p x y z:=by
 rw[S.ae,pE hG hx hy hz h1 h2 h3,<-x8 hy]
 simp only[decide_true,Bool.true_and,S.ak]
 exact ⟨of_decide_eq_true,fun h=>decide_eq_true h⟩
theorem nr {d q:Nat}{g:G}{pv:AV}{p:List Nat}{x y z:Nat}(hd:0<d)(hg:g.h.get q=.cells 1 [[pv]] 0 false false)(hv:SlR NoP 0 .nil p pv)(hx:x<18446744073709551616)(hy:y<18446744073709551616)(hz:z<18446744073709551616) :
  dR C0 (I C0) d (.clo N.ah [] [.hptr q 0 0 0]) [.int .u64 (x:Int),.int .u64 (y:Int),.int .u64 (z:Int)] g=.upd (.bool (S.ae p x y z)) g:=by
 rw[zF]
 have key:=gT (C:=C0) (d:=d) (f:=N.ah) («as»:=[.int .u64 (x:Int),.int .u64 (y:Int),.int .u64 (z:Int),.hptr q 0 0 0]) (g:=g) (K:=fun v g'=>v=.bool (S.ae p x y z)/\g'=g) eV (by simp[br]) ?_
 ·cases hc:(I C0).call d N.ah [.int .u64 (x:Int),.int .u64 (y:Int),.int .u64 (z:Int),.hptr q 0 0 0] g with
  | fail=>rw[hc] at key;exact key.elim
  | ok v g'=>rw[hc] at key;rw[show v=.bool (S.ae p x y z) from key.1,show g'=g from key.2];rfl
 have kA:=fun g=>uw (d:=d) (g:=g) hd hv hx hy hz
 have ld:aD (.cells 1 [[pv]] 0 false false) 0 0 false 1 0=.val pv:=rfl
 simp only[sz,simprocAttr,br,lG,hg,ld,kA]
 cases hA:S.ae p x y z with
 | false=>simp only[sz,simprocAttr]
 | true =>
  have h0:S.ah p [x,y,z]=0:=by
   rw[S.ae,Bool.and_eq_true,decide_eq_true_iff] at hA
   exact hA.1
  simp only[sz,simprocAttr,h0]
theorem oB {p:List Nat}(hG:GOk p){x y w z:Nat}(l:x<2 ^ p.length/\y<2 ^ p.length/\w<2 ^ p.length/\z<2 ^ p.length)(yx:y &&& x=0)(wx:w &&& x=0)(wy:w &&& y=0)(zx:z &&& x=0)(zy:z &&& y=0)(zw:z &&& w=0) :
  S.ak p x z &&& x=x/\S.ak p x z &&& z=0/\S.ah p [x,z]=0/\S.ah p [x,y ||| w,z]=0/\S.ae p y x z=S.ae p x y z /\
  (S.ae p x (y ||| w) z=true->S.ae p x y z=true/\S.ae p x w z=true/\S.ae p x y (z ||| w)=true)/\(S.ae p x y z=true->S.ae p x w (z ||| y)=true->S.ae p x (y ||| w) z=true):=by
 obtain ⟨lx,ly,lw,lz⟩:=l
 have lyw:y ||| w<2 ^ p.length:=Nat.or_lt_two_pow ly lw
 have lzw:z ||| w<2 ^ p.length:=Nat.or_lt_two_pow lz lw
 have lzy:z ||| y<2 ^ p.length:=Nat.or_lt_two_pow lz ly
 have orz:∀{a b c:Nat},a &&& c=0->b &&& c=0->(a ||| b) &&& c=0:=fun h1 h2=>eJ.2 fun v h=>(kG.1 h.1).elim (fun h'=>eJ.1 h1 v ⟨h',h.2⟩) fun h'=>eJ.1 h2 v ⟨h',h.2⟩
 have cm:∀{a b:Nat},a &&& b=0->b &&& a=0:=fun h=>by rw[Nat.and_comm];exact h
 have a1:=gB hG lx lyw lz (orz yx wx) zx (cm (orz (cm zy) (cm zw)))
 have a2:=gB hG lx ly lz yx zx zy
 have a3:=gB hG ly lx lz (cm yx) zy zx
 have a4:=gB hG lx lw lz wx zx zw
 have a5:=gB hG lx ly lzw yx (orz zx wx) (orz zy wy)
 have a6:=gB hG lx lw lzy wx (orz zx yx) (orz zw (cm wy))
 have hxz:x &&& z=0:=cm zx
 refine ⟨?_,?_,?_,pE hG lx lyw lz (orz yx wx) zx (cm (orz (cm zy) (cm zw))),?_,?_,?_⟩
 ·refine Nat.eq_of_testBit_eq fun i=>?_
  rw[Nat.testBit_and]
  cases hb:x.testBit i with
  | false=>simp
  | true =>
   have:=el.2 ⟨jS lx hb,zG (p:=p) hxz hb⟩
   rw[S.ak,this];rfl
 ·exact eJ.2 fun v h=>(el.1 h.1).2.2 h.2
 ·exact m7.2 ⟨hG,zn.2 ⟨lx,Nat.and_zero x,lz,by rw[Nat.zero_or];exact zx⟩⟩
 ·rw[Bool.eq_iff_iff,a2,a3]
  exact ⟨su hxz,su (cm zy)⟩
 ·rw[a1,a2,a4,a5]
  exact fun h=>⟨wu h,uY h,u4 h⟩
 ·rw[a1,a2,a6]
  exact fun h1 h2=>vt wy h1 h2
set_option maxRecDepth 20000 in
theorem g8 {x:rN}{xs:List AV}{s0 s1 s2 s3:Nat}(hx:Rp.rp NoP 0 .nil x xs)(hs:s0<18446744073709551616/\s1<18446744073709551616/\s2<18446744073709551616/\s3<18446744073709551616) :
  ∃g',(I C0).call 1 N.ay [.agg xs,.agg [.int .u64 (s0:Int),.int .u64 (s1:Int),.int .u64 (s2:Int),.int .u64 (s3:Int)]] G.empty=.ok (.bool true) g':=by
 obtain ⟨q0,q1,q2,q3⟩:=hs
 have hm:∀h,Agg x NoP 0 h (.agg xs):=fun h=>⟨_,rfl,Rp.tree hx (Nat.le_refl _)⟩
 obtain ⟨_,_,rfl,ha',hb'⟩:=fX.1 hx
 obtain ⟨a,rfl,-⟩:=bD.1 ha'
 obtain ⟨b,rfl,-⟩:=bD.1 hb'
 rw[List.cons_append,List.nil_append] at hm ⊢
 obtain ⟨S4,hS4⟩:∃S4,S4=AV.agg [.int .u64 (s0:Int),.int .u64 (s1:Int),.int .u64 (s2:Int),.int .u64 (s3:Int)]:=⟨_,rfl⟩
 have key:=gT (C:=C0) (d:=1) (f:=N.ay) («as»:=[.agg [a,b],.agg [.int .u64 (s0:Int),.int .u64 (s1:Int),.int .u64 (s2:Int),.int .u64 (s3:Int)]]) (g:=G.empty) (K:=fun v g'=>v=.bool true) fM (by simp[bK]) ?_
 ·cases hc':(I C0).call 1 N.ay [.agg [a,b],.agg [.int .u64 (s0:Int),.int .u64 (s1:Int),.int .u64 (s2:Int),.int .u64 (s3:Int)]] G.empty with
  | fail=>rw[hc'] at key;exact key.elim
  | ok v g'=>rw[hc'] at key;exact ⟨g',by rw[show v=.bool true from key]⟩
 have ld:aD (.cells 2 [[a,b]] 0 false false) 0 0 true 2 0=.val (.agg [a,b]):=rfl
 have i0:∀id,rQ 4 1 (.hptr id 0 0 0) (.int .i64 0)=.val (.hptr id 0 0 0):=fun id=>rfl
 have i1:∀id,rQ 4 1 (.hptr id 0 0 0) (.int .i64 1)=.val (.hptr id 0 0 1):=fun id=>rfl
 have i2:∀id,rQ 4 1 (.hptr id 0 0 0) (.int .i64 2)=.val (.hptr id 0 0 2):=fun id=>rfl
 have i3:∀id,rQ 4 1 (.hptr id 0 0 0) (.int .i64 3)=.val (.hptr id 0 0 3):=fun id=>rfl
 have l0:aD (.cells 4 [[.int .u64 (s0:Int),.int .u64 (s1:Int),.int .u64 (s2:Int),.int .u64 (s3:Int)]] 0 false false) 0 0 false 1 0=.val (.int .u64 (s0:Int)):=rfl
 have l1:aD (.cells 4 [[.int .u64 (s0:Int),.int .u64 (s1:Int),.int .u64 (s2:Int),.int .u64 (s3:Int)]] 0 false false) 0 0 false 1 1=.val (.int .u64 (s1:Int)):=rfl
 have l2:aD (.cells 4 [[.int .u64 (s0:Int),.int .u64 (s1:Int),.int .u64 (s2:Int),.int .u64 (s3:Int)]] 0 false false) 0 0 false 1 2=.val (.int .u64 (s2:Int)):=rfl
 have l3:aD (.cells 4 [[.int .u64 (s0:Int),.int .u64 (s1:Int),.int .u64 (s2:Int),.int .u64 (s3:Int)]] 0 false false) 0 0 false 1 3=.val (.int .u64 (s3:Int)):=rfl
 simp only[sz,simprocAttr,bK,mB,cB,qz,ld]
 refine qN (uX (by decide) (hm _)) fun pv hz=>?_
 obtain ⟨p,⟨hG,-⟩,hz⟩:=hz
 have hp:SlR NoP 0 .nil p pv:=by
  obtain ⟨z',e,hz'⟩:=bD.1 hz
  injection e with e
  subst e
  exact hz'
 have n8:=hG.l8
 have lv:=hp.len
 have ldp:aD (.cells 1 [[pv]] 0 false false) 0 0 false 1 0=.val pv:=rfl
 have stp:∀g:G,d5 (.cells 1 [[.nils]] 0 false false) g 2 0 0 1 0 pv=.upd .undef (g.put 2 (.cells 1 [[pv]] 0 false false)):=fun g=>by
  have h:=hp.2
  unfold SlV at h
  split at h<;>first | rfl | exact h.elim
 have hsl:bS .shl (.int .u64 1) (.int .i64 (p.length:Int))=.val (.int .u64 ((2 ^ p.length:Nat):Int)):=by rw[er,i4 (by omega)]
 have h2p:1<=2 ^ p.length:=Nat.one_le_two_pow
 have h256:=lW n8
 have hw:IntKind.wrap .u64 (((2 ^ p.length:Nat):Int) - 1)=((2 ^ p.length - 1:Nat):Int):=by rw[lB (by omega) (by omega)];omega
 simp only[sz,simprocAttr,H.get_put,stp]
 obtain ⟨g0,hg0⟩:∃g0,g0=((((G.empty.new (AObj.cells 2 [[a,b]] 0 false false)).new (AObj.cells 4 [[AV.int IntKind.u64 ↑s0,AV.int IntKind.u64 ↑s1,AV.int IntKind.u64 ↑s2,AV.int IntKind.u64 ↑s3]] 0 false false)).new (AObj.cells 1 [[AV.nils]] 0 false false)).put 2 (AObj.cells 1 [[pv]] 0 false false)):=⟨_,rfl⟩
 rw[<-hg0]
 have k1:g0.h.get 1=.cells 4 [[AV.int IntKind.u64 ↑s0,AV.int IntKind.u64 ↑s1,AV.int IntKind.u64 ↑s2,AV.int IntKind.u64 ↑s3]] 0 false false:=by rw[hg0];simp[sx,H.get_put]
 have k2:g0.h.get 2=.cells 1 [[pv]] 0 false false:=by rw[hg0];simp[sx,H.get_put]
 clear hg0
 obtain ⟨x,y,w,z,⟨ex,ey,ew,ez⟩,ll,yx,wx,wy,zx,zy,zw⟩:=uL (n:=p.length) (a:=s0) (b:=s1) (c:=s2) (e:=s3)
 obtain ⟨e1,e2,e3,e4,e5,e6,e7⟩:=oB hG ll yx wx wy zx zy zw
 obtain ⟨lx,ly,lw,lz⟩:=ll
 obtain ⟨m,hmm⟩:∃m,m=2 ^ p.length - 1:=⟨_,rfl⟩
 have hml:m<18446744073709551616:=by omega
 rw[<-hmm] at hw ex ey ew ez
 have b0:=cJ s0 m q0 hml
 rw[<-ex] at b0
 have b1:=cJ s1 m q1 hml
 have b2:=cJ s2 m q2 hml
 have b3:=cJ s3 m q3 hml
 obtain ⟨u1,hu1⟩:∃u,u=s1 &&& m:=⟨_,rfl⟩
 obtain ⟨u2,hu2⟩:∃u,u=s2 &&& m:=⟨_,rfl⟩
 obtain ⟨u3,hu3⟩:∃u,u=s3 &&& m:=⟨_,rfl⟩
 have lu1:u1<18446744073709551616:=by rw[hu1];exact n_ q1
 have lu2:u2<18446744073709551616:=by rw[hu2];exact n_ q2
 have lu3:u3<18446744073709551616:=by rw[hu3];exact n_ q3
 rw[<-hu1] at b1 ey
 rw[<-hu2] at b2 ew
 rw[<-hu3] at b3 ez
 clear hu1 hu2 hu3 ex
 have lx':x<18446744073709551616:=by omega
 have ly':y<18446744073709551616:=by omega
 have lw':w<18446744073709551616:=by omega
 have lz':z<18446744073709551616:=by omega
 have c1:=dt u1 x lu1 lx'
 rw[<-ey] at c1
 have c2:=dt u2 x lu2 lx'
 have c3:=dt u3 x lu3 lx'
 obtain ⟨v2,hv2⟩:∃u,u=u2 ^^^ u2 &&& x:=⟨_,rfl⟩
 obtain ⟨v3,hv3⟩:∃u,u=u3 ^^^ u3 &&& x:=⟨_,rfl⟩
 have lv2:v2<18446744073709551616:=by rw[hv2];exact j8 lu2 lx'
 have lv3:v3<18446744073709551616:=by rw[hv3];exact j8 lu3 lx'
 rw[<-hv2] at c2 ew
 rw[<-hv3] at c3 ez
 clear hv2 hv3 ey
 have d2:=dt v2 y lv2 ly'
 rw[<-ew] at d2
 have d3:=dt v3 y lv3 ly'
 obtain ⟨t3,ht3⟩:∃u,u=v3 ^^^ v3 &&& y:=⟨_,rfl⟩
 have lt3:t3<18446744073709551616:=by rw[ht3];exact j8 lv3 ly'
 rw[<-ht3] at d3 ez
 clear ht3 ew
 have f3:=dt t3 w lt3 lw'
 rw[<-ez] at f3
 clear ez
 have lyw:y ||| w<2 ^ p.length:=Nat.or_lt_two_pow ly lw
 have lzw:z ||| w<2 ^ p.length:=Nat.or_lt_two_pow lz lw
 have lzy:z ||| y<2 ^ p.length:=Nat.or_lt_two_pow lz ly
 have o1:=gi y w ly' lw'
 have o2:=gi z w lz' lw'
 have o3:=gi z y lz' ly'
 have hR:S.ak p x z<2 ^ p.length:=ja _ _
 have hR':S.ak p x z<18446744073709551616:=by omega
 have n1:=cJ (S.ak p x z) x hR' lx'
 have n2:=cJ (S.ak p x z) z hR' lz'
 have n3:=cJ (S.ak p x z) (y ||| w) hR' (by omega)
 rw[e1] at n1
 rw[e2] at n2
 have hq:decide (((S.ak p x z &&& (y ||| w):Nat):Int)=0)=S.ae p x (y ||| w) z:=by
  rw[S.ae,e4]
  by_cases h:S.ak p x z &&& (y ||| w)=0
  ·simp[h]
  ·have:¬((S.ak p x z &&& (y ||| w):Nat):Int)=0:=by omega
   simp[h]
 have kr:S.aE p x z=S.ak p x z:=by rw[S.aE,if_pos e3]
 have kR:=fun g=>uK (d:=1) (g:=g) (by decide) hp lx' lz'
 rw[kr,e3] at kR
 have A1:=nr (d:=1) (by decide) k2 hp lx' (show y ||| w<18446744073709551616 by omega) lz'
 have A2:=nr (d:=1) (by decide) k2 hp lx' ly' lz'
 have A3:=nr (d:=1) (by decide) k2 hp ly' lx' lz'
 have A4:=nr (d:=1) (by decide) k2 hp lx' lw' lz'
 have A5:=nr (d:=1) (by decide) k2 hp lx' ly' (show z ||| w<18446744073709551616 by omega)
 have A6:=nr (d:=1) (by decide) k2 hp lx' lw' (show z ||| y<18446744073709551616 by omega)
 rw[e5] at A3
 have eqb:∀b:Bool,x3 true .bool (.bool b) (.bool b)=.val (.bool false):=fun b=>by cases b<;>rfl
 clear e1 e2 e3 e4 e5
 cases h1:S.ae p x (y ||| w) z with
 | true =>
  obtain ⟨h2,h4,h5⟩:=e6 h1
  rw[h1] at hq A1
  rw[h2] at A2 A3
  rw[h4] at A4
  rw[h5] at A5
  cases h6:S.ae p x w (z ||| y) with
  | true =>
   rw[h6] at A6
   simp only[sz,simprocAttr,lv,ldp,hsl,hw,i0,i1,i2,i3,k1,k2,l0,l1,l2,l3,b0,b1,b2,b3,c1,c2,c3,d2,d3,f3,o1,o2,o3,A1,A2,A3,A4,A5,A6,kR,n1,n2,n3,hq,eqb]
  | false =>
   rw[h6] at A6
   simp only[sz,simprocAttr,lv,ldp,hsl,hw,i0,i1,i2,i3,k1,k2,l0,l1,l2,l3,b0,b1,b2,b3,c1,c2,c3,d2,d3,f3,o1,o2,o3,A1,A2,A3,A4,A5,A6,kR,n1,n2,n3,hq,eqb]
 | false =>
  rw[h1] at hq A1
  cases h2:S.ae p x y z with
  | true =>
   rw[h2] at A2 A3
   have h6:S.ae p x w (z ||| y)=false:=by
    cases h:S.ae p x w (z ||| y) with
    | false=>rfl
    | true=>have:=e7 h2 h;rw[h1] at this;cases this
   rw[h6] at A6
   simp only[sz,simprocAttr,lv,ldp,hsl,hw,i0,i1,i2,i3,k1,k2,l0,l1,l2,l3,b0,b1,b2,b3,c1,c2,c3,d2,d3,f3,o1,o2,o3,A1,A2,A3,A6,kR,n1,n2,n3,hq,eqb]
  | false =>
   rw[h2] at A2 A3
   simp only[sz,simprocAttr,lv,ldp,hsl,hw,i0,i1,i2,i3,k1,k2,l0,l1,l2,l3,b0,b1,b2,b3,c1,c2,c3,d2,d3,f3,o1,o2,o3,A1,A2,A3,kR,n1,n2,n3,hq,eqb]
end
end Hx
end
section
namespace Hx
open Go Go.RowKit Go.ChangeShapes Go.WideShapes
def jh (P:Program):List Field->Nat->Option Nat
 | [],k=>some k
 | f::fs,k=>if f.offset=k then jh P fs (k+P.cellsOf f.type) else none
def iz (P:Program):Nat->TypeId->Bool
 | 0,_=>false
 | n+1,t=>match P.underlying t with
  | some .bool=>true
  | some (.int _)=>true
  | some (.slice e)=>decide (0<P.cellsOf e)&&iz P n e
  | some (.struct fs)=>(jh P fs.toList 0 == some (P.cellsOf t))&&fs.toList.all (fun f=>iz P n f.type)
  | some (.array m e)=>decide (m*P.cellsOf e=P.cellsOf t)&&iz P n e
  | _=>false
def Sh (P:Program):Nat->TypeId->List AV->Prop
 | 0,_,_=>False
 | n+1,t,xs=>match P.underlying t with
  | some .bool=>∃b,xs=[.bool b]
  | some (.int k)=>∃z,xs=[.int k z]/\(Lit.int k z).wf=true
  | some (.slice e)=>xs=[.nils]\/∃rows,xs=[.tsl 0 (P.cellsOf e) rows]/\rows.length<9223372036854775808/\∀row∈rows,Sh P n e row
  | some (.struct fs)=>∃xss,xs=xss.flatten/\All2 (fun (f:Field) ys=>Sh P n f.type ys) fs.toList xss
  | some (.array m e)=>∃xss:List (List AV),xs=xss.flatten/\xss.length=m/\∀ys∈xss,Sh P n e ys
  | _=>False
def py (P:Program)(w:World)(n:Nat)(t:TypeId)(xs:List AV)(cs:List Value):Prop :=
 RVs0 w xs cs/\(∀y∈xs,y.one=true/\Closed y)/\Sh P n t xs
theorem RVs0.append {w:World}{xs ys:List AV}{cs ds:List Value}(h:RVs0 w xs cs)(h':RVs0 w ys ds):RVs0 w (xs++ys) (cs++ds):=by
 refine ⟨by rw[List.length_append,List.length_append,h.1,h'.1],fun i x v hx hv=>?_⟩
 rcases Nat.lt_or_ge i xs.length with hi | hi
 ·rw[List.getElem?_append_left hi] at hx
  rw[List.getElem?_append_left (by rw[<-h.1];exact hi)] at hv
  exact h.2 i x v hx hv
 ·rw[List.getElem?_append_right hi] at hx
  rw[List.getElem?_append_right (by rw[<-h.1];exact hi),<-h.1] at hv
  exact h'.2 _ x v hx hv
theorem tK (b o n:Nat):(⟨b,o,none⟩:Addr).add n=adr b (o+n):=by
 unfold Addr.add
 split
 ·rename_i h;subst h;rfl
 ·rfl
variable {H:Type}{enc:TypeId×Value->H}{P:Program}{w:World}
theorem np:∀{fl:List Field} {k K:Nat},jh P fl k=some K->k<=K
 | [],k,K,h=>by injection h with h;omega
 | f::fl,k,K,h=>by
  unfold jh at h
  split at h
  ·have:=np h;omega
  ·cases h
theorem vY {n:Nat}{cs:List Value}:∀{fl:List Field} {k K:Nat},jh P fl k=some K ->
  (∀f∈fl,∃xs,py P w n f.type xs ((cs.drop f.offset).take (P.cellsOf f.type))) ->
  ∃xss,All2 (fun (f:Field) ys=>Sh P n f.type ys) fl xss/\RVs0 w xss.flatten ((cs.drop k).take (K - k))/\∀y∈xss.flatten,y.one=true/\Closed y
 | [],k,K,h,_=>by
  injection h with h;subst h
  exact ⟨[],trivial,by rw[Nat.sub_self,List.take_zero];exact ⟨rfl,fun i x v hx=>by simp at hx⟩,fun y hy=>by simp at hy⟩
 | f::fl,k,K,h,hg=>by
  unfold jh at h
  split at h
  ·rename_i ho
   subst ho
   obtain ⟨xs,h1,h2,h3⟩:=hg f (by simp)
   obtain ⟨xss,a1,a2,a3⟩:=vY h fun f' hf'=>hg f' (by simp[hf'])
   have hle:=np h
   refine ⟨xs::xss,⟨h3,a1⟩,?_,fun y hy=>?_⟩
   ·have e:(cs.drop f.offset).take (K - f.offset)=(cs.drop f.offset).take (P.cellsOf f.type)++(cs.drop (f.offset+P.cellsOf f.type)).take (K - (f.offset+P.cellsOf f.type)):=by
     rw[show K - f.offset=P.cellsOf f.type+(K - (f.offset+P.cellsOf f.type)) by omega,List.take_add,List.drop_drop]
    rw[e,List.flatten_cons]
    exact h1.append a2
   ·rw[List.flatten_cons,List.mem_append] at hy
    rcases hy with hy | hy
    ·exact h2 y hy
    ·exact a3 y hy
  ·cases h
theorem sE {n:Nat}{e:TypeId}{cs:List Value}:∀{m k:Nat},
  (∀i,i<m->∃xs,py P w n e xs ((cs.drop ((k+i)*P.cellsOf e)).take (P.cellsOf e))) ->
  ∃xss:List (List AV),xss.length=m/\(∀ys∈xss,Sh P n e ys)/\RVs0 w xss.flatten ((cs.drop (k*P.cellsOf e)).take (m*P.cellsOf e))/\∀y∈xss.flatten,y.one=true/\Closed y
 | 0,k,_=>⟨[],rfl,fun y hy=>by simp at hy,by rw[Nat.zero_mul,List.take_zero];exact ⟨rfl,fun i x v hx=>by simp at hx⟩,fun y hy=>by simp at hy⟩
 | m+1,k,hg=>by
  obtain ⟨xs,h1,h2,h3⟩:=hg 0 (by omega)
  rw[Nat.add_zero] at h1
  obtain ⟨xss,a0,a1,a2,a3⟩:=sE (m:=m) (k:=k+1) fun i hi=>by
   have:=hg (i+1) (by omega)
   rwa [show k+(i+1)=k+1+i by omega] at this
  refine ⟨xs::xss,by simp[a0],fun ys hy=>?_,?_,fun y hy=>?_⟩
  ·rcases List.mem_cons.1 hy with rfl | hy
   ·exact h3
   ·exact a1 ys hy
  ·have e:(cs.drop (k*P.cellsOf e)).take ((m+1)*P.cellsOf e)=(cs.drop (k*P.cellsOf e)).take (P.cellsOf e)++(cs.drop ((k+1)*P.cellsOf e)).take (m*P.cellsOf e):=by
    rw[show (m+1)*P.cellsOf e=P.cellsOf e+m*P.cellsOf e by rw[Nat.add_mul];omega,List.take_add,List.drop_drop,Nat.add_mul,Nat.one_mul]
   rw[e,List.flatten_cons]
   exact h1.append a2
  ·rw[List.flatten_cons,List.mem_append] at hy
   rcases hy with hy | hy
   ·exact h2 y hy
   ·exact a3 y hy
theorem qc:∀(n:Nat) (t:TypeId),iz P n t=true->∀(fuel:Nat) (cs:List Value) (x:DataW H×List MemPlace),DataW.trod enc P w 0 (fun _=>true) true fuel t cs=some x->∃xs,py P w n t xs cs:=by
 intro n
 induction n with
 | zero=>intro t h;simp[iz] at h
 | succ n ih =>
  intro t h fuel cs x hx
  unfold iz at h
  split at h
  ·rename_i hu
   obtain ⟨b,rfl,-⟩:=DataW.trod_bool hu hx
   refine ⟨[.bool b],⟨rfl,fun i x v h1 h2=>?_⟩,fun y hy=>?_,?_⟩
   ·cases i with
    | zero=>simp at h1 h2;subst h1;subst h2;exact .bool _ _
    | succ i=>simp at h1
   ·simp at hy;subst hy;exact ⟨rfl,.bool _⟩
   ·unfold Sh;rw[hu];exact ⟨b,rfl⟩
  ·rename_i k hu
   obtain ⟨z,rfl,-,hwf⟩:=DataW.trod_int hu hx
   refine ⟨[.int k z],⟨rfl,fun i x v h1 h2=>?_⟩,fun y hy=>?_,?_⟩
   ·cases i with
    | zero=>simp at h1 h2;subst h1;subst h2;exact .int _ _ _
    | succ i=>simp at h1
   ·simp at hy;subst hy;exact ⟨rfl,.int _ _⟩
   ·unfold Sh;rw[hu];exact ⟨z,rfl,hwf⟩
  ·rename_i e hu
   rw[Bool.and_eq_true,decide_eq_true_eq] at h
   obtain ⟨hpos,hp⟩:=h
   rcases DataW.trod_slice hu hx with ⟨rfl,-⟩ | ⟨a,len,cap,elems,rest,m,-,rfl,-,-,hlc,hcm,hlen,hel,-,-⟩
   ·refine ⟨[.nils],⟨rfl,fun i x v h1 h2=>?_⟩,fun y hy=>?_,?_⟩
    ·cases i with
     | zero=>simp at h1 h2;subst h1;subst h2;exact .nils _
     | succ i=>simp at h1
    ·simp at hy;subst hy;exact ⟨rfl,.nils⟩
    ·unfold Sh;rw[hu];exact .inl rfl
   ·have each:∀i,i<len->∃xs vs,w.cells? 0 (a.add (i*P.cellsOf e)) (P.cellsOf e)=some vs/\py P w n e xs vs:=by
     intro i hi
     have:=hel i hi
     rw[List.getElem?_eq_getElem (show i<elems.length by omega),Option.bind_eq_some_iff] at this
     obtain ⟨vs,h1,h2⟩:=this
     obtain ⟨xs,hg⟩:=ih e hp _ _ _ h2
     exact ⟨xs,vs,h1,hg⟩
    let rowf:Nat->List AV:=fun i=>if hi:i<len then Classical.choose (each i hi) else []
    let valf:Nat->List Value:=fun i=>if hi:i<len then Classical.choose (Classical.choose_spec (each i hi)) else []
    have hrow:∀i,i<len->w.cells? 0 (a.add (i*P.cellsOf e)) (P.cellsOf e)=some (valf i)/\py P w n e (rowf i) (valf i):=by
     intro i hi
     have:=Classical.choose_spec (Classical.choose_spec (each i hi))
     simpa only[rowf,valf,dif_pos hi] using this
    have hget:∀(i:Nat) (row:List AV),((List.range len).map rowf)[i]?=some row->i<len/\row=rowf i:=by
     intro i row h1
     rw[List.getElem?_map] at h1
     rcases Nat.lt_or_ge i len with hi | hi
     ·rw[List.getElem?_range hi] at h1
      injection h1 with h1
      exact ⟨hi,h1.symm⟩
     ·rw[List.getElem?_eq_none (by simpa using hi)] at h1;cases h1
    refine ⟨[.tsl 0 (P.cellsOf e) ((List.range len).map rowf)],⟨rfl,fun i x v h1 h2=>?_⟩,fun y hy=>?_,?_⟩
    ·cases i with
     | succ i=>simp at h1
     | zero =>
      simp at h1 h2;subst h1;subst h2
      rcases Nat.eq_zero_or_pos len with h0 | h0
      ·subst h0
       exact .tnil 0 0 _ a cap (Nat.le_refl _)
      ·obtain ⟨b,o,spot⟩:=a
       have hc0:=World.cells?_some (hrow 0 h0).1
       have hv0:(valf 0)[0]?=some (valf 0)[0]:=List.getElem?_eq_getElem (by rw[hc0.2.1];exact hpos)
       have h00:=hc0.2.2 0 hpos
       rw[hv0] at h00
       have hspot:spot=none:=by simpa [Addr.add] using World.cell?_spot h00
       subst hspot
       have cellat:∀i j row x,((List.range len).map rowf)[i]?=some row->row[j]?=some x->∃v,(valf i)[j]?=some v/\w.cell? (adr b (o+i*P.cellsOf e+j))=some v/\RV w gm0 av0 0 x v:=by
        intro i j row x hr hxj
        obtain ⟨hi,rfl⟩:=hget i row hr
        obtain ⟨q1,q2⟩:=hrow i hi
        have hj:j<(rowf i).length:=(List.getElem?_eq_some_iff.1 hxj).1
        have hj':j<(valf i).length:=by rw[<-q2.1.1];exact hj
        have hcs:=World.cells?_some q1
        have hcell:=hcs.2.2 j (by rw[<-hcs.2.1];exact hj')
        rw[List.getElem?_eq_getElem hj'] at hcell
        refine ⟨_,List.getElem?_eq_getElem hj',?_,q2.1.2 j x _ hxj (List.getElem?_eq_getElem hj')⟩
        rw[tK,show adr b (o+i*P.cellsOf e)=(⟨b,o+i*P.cellsOf e,none⟩:Addr) from rfl,tK] at hcell
        exact hcell
       have hb:b<w.heap.size:=by
        have:=l_ h00
        simpa [Addr.add] using this
       have hrl:((List.range len).map rowf).length=len:=by simp
       have key:=RV.tsl (w:=w) (γ:=gm0) (A:=av0) 0 0 (P.cellsOf e) ((List.range len).map rowf) b o cap (fun i j=>(valf i)[j]?.getD undef) (Nat.le_refl _) (by rw[hrl];exact hlc) hb (zK b) (fun h=>h)
        (fun i row hr=>by
         obtain ⟨hi,rfl⟩:=hget i row hr
         obtain ⟨q1,q2⟩:=hrow i hi
         rw[q2.1.1,(World.cells?_some q1).2.1])
        (fun i j row x hr hxj=>by
         obtain ⟨hi,rfl⟩:=hget i row hr
         exact ((hrow i hi).2.2.1 x (List.mem_of_getElem? hxj)).1)
        (fun i j row x hr hxj=>by
         obtain ⟨v,v1,v2,v3⟩:=cellat i j row x hr hxj
         rw[v2,v1];rfl)
        (fun i j row x hr hxj=>by
         obtain ⟨v,v1,v2,v3⟩:=cellat i j row x hr hxj
         rw[v1];exact v3)
        (fun row hr x hx=>by
         obtain ⟨i,hi⟩:=List.getElem?_of_mem hr
         obtain ⟨hi2,rfl⟩:=hget i row hi
         exact ((hrow i hi2).2.2.1 x hx).2)
       rw[hrl] at key
       exact key
    ·simp only[List.mem_singleton] at hy;subst hy
     refine ⟨rfl,.tsl _ _ _ fun row hr x hx=>?_⟩
     obtain ⟨i,hi⟩:=List.getElem?_of_mem hr
     obtain ⟨hi2,rfl⟩:=hget i row hi
     exact ((hrow i hi2).2.2.1 x hx).2
    ·unfold Sh;rw[hu]
     refine .inr ⟨_,rfl,?_,fun row hr=>?_⟩
     ·rw[List.length_map,List.length_range]
      have:maxLen<9223372036854775808:=by decide
      omega
     ·obtain ⟨i,hi⟩:=List.getElem?_of_mem hr
      obtain ⟨hi2,rfl⟩:=hget i row hi
      exact (hrow i hi2).2.2.2
  ·rename_i fs hu
   rw[Bool.and_eq_true] at h
   obtain ⟨hc,hp⟩:=h
   have hc:jh P fs.toList 0=some (P.cellsOf t):=eq_of_beq hc
   obtain ⟨ys,m,-,-,hl,hyl,hel⟩:=DataW.trod_struct hu hx
   obtain ⟨xss,a1,a2,a3⟩:=vY (w:=w) (n:=n) (cs:=cs) hc fun f hf=>by
    obtain ⟨i,hi,e⟩:=List.mem_iff_getElem.1 hf
    have hfi:fs[i]?=some f:=by rw[<-Array.getElem?_toList,List.getElem?_eq_getElem hi,e]
    have:=hel i f hfi
    rw[List.getElem?_eq_getElem (show i<ys.length by rw[hyl];simpa using hi)] at this
    exact ih f.type (List.all_eq_true.1 hp f hf) _ _ _ this
   rw[List.drop_zero,Nat.sub_zero,<-hl,List.take_length] at a2
   refine ⟨xss.flatten,a2,a3,?_⟩
   unfold Sh;rw[hu];exact ⟨xss,rfl,a1⟩
  ·rename_i m e hu
   rw[Bool.and_eq_true,decide_eq_true_eq] at h
   obtain ⟨hc,hp⟩:=h
   obtain ⟨ys,q,-,-,hl,hyl,hel⟩:=DataW.trod_array hu hx
   obtain ⟨xss,a0,a1,a2,a3⟩:=sE (w:=w) (n:=n) (e:=e) (cs:=cs) (m:=m) (k:=0) fun i hi=>by
    have:=hel i hi
    rw[List.getElem?_eq_getElem (show i<ys.length by omega)] at this
    rw[Nat.zero_add]
    exact ih e hp _ _ _ this
   rw[Nat.zero_mul,List.drop_zero,hc,<-hl,List.take_length] at a2
   refine ⟨xss.flatten,a2,a3,?_⟩
   unfold Sh;rw[hu];exact ⟨xss,rfl,a0,a1⟩
  ·cases h
theorem yZ {n:Nat}{t:TypeId}{xs:List AV}(hu:P.underlying t=some (.int .u8))(h:Sh P n t xs):∃x:UInt8,Rp.rp NoP 0 .nil x xs:=by
 cases n with
 | zero=>exact h.elim
 | succ n =>
  unfold Sh at h;rw[hu] at h
  obtain ⟨z,rfl,hw⟩:=h
  simp only[Lit.wf,IntKind.min,IntKind.max,IntKind.signed,IntKind.bits,Bool.and_eq_true] at hw
  refine ⟨UInt8.ofNat z.toNat,vG.2 ?_⟩
  have h1:0<=z:=by simpa using hw.1
  have h2:z<=255:=by simpa using hw.2
  have h3:(UInt8.ofNat z.toNat).toNat=z.toNat:=UInt8.toNat_ofNat_of_lt' (by show z.toNat<256;omega)
  rw[h3,Int.toNat_of_nonneg h1]
theorem sF {α:Type} [Rp α]{n:Nat}{t e:TypeId}{xs:List AV}(hu:P.underlying t=some (.slice e))(hsz:P.cellsOf e=Rp.sz α)(hel:∀ys,Sh P n e ys->∃y:α,Rp.rp NoP 0 .nil y ys)(h:Sh P (n+1) t xs) :
  ∃l:List α,Rp.rp NoP 0 .nil l xs:=by
 unfold Sh at h;rw[hu] at h
 rcases h with rfl | ⟨rows,rfl,hl,hr⟩
 ·exact ⟨[],.nils,rfl,by simp,rfl⟩
 ·have:∀rows:List (List AV),(∀row∈rows,Sh P n e row)->∃l:List α,All2 (Rp.rp NoP 0 .nil) l rows:=by
   intro rows
   induction rows with
   | nil=>intro _;exact ⟨[],trivial⟩
   | cons r rows ih =>
    intro h
    obtain ⟨y,hy⟩:=hel r (h r (by simp))
    obtain ⟨l,hl⟩:=ih fun row hrow=>h row (by simp[hrow])
    exact ⟨y::l,hy,hl⟩
  obtain ⟨l,ha⟩:=this rows hr
  exact ⟨l,_,rfl,by rw[ha.len];exact hl,Nat.le_refl _,.inl hsz,ha⟩
theorem xu {n m:Nat}{t e:TypeId}{xs:List AV}(hu:P.underlying t=some (.array m e))(h:Sh P (n+1) t xs):∃xss:List (List AV),xs=xss.flatten/\xss.length=m/\∀ys∈xss,Sh P n e ys:=by
 unfold Sh at h;rw[hu] at h;exact h
theorem uN {n:Nat}{t:TypeId}{fs:Array Field}{xs:List AV}(hu:P.underlying t=some (.struct fs))(h:Sh P (n+1) t xs):∃xss,xs=xss.flatten/\All2 (fun (f:Field) ys=>Sh P n f.type ys) fs.toList xss:=by
 unfold Sh at h;rw[hu] at h;exact h
end Hx
end
