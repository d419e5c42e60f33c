/- A part of the proof: an interpreter over abstract values, shown right against the model, and what the functions of the chapter compute on it. -/
import Derived.OpenShut
import Derived.DataReads
import Derived.Test.YtjddchnjpobmkaaHx12
set_option linter.unusedVariables false
set_option linter.unusedSimpArgs false
set_option linter.unnecessarySimpa false
section
section
namespace Hx
open Go
noncomputable section
theorem qs {a b:Nat}(h:a*b<18446744073709551616):bA .mul (.int .u64 (a:Int)) (.int .u64 (b:Int))=.val (.int .u64 ((a*b:Nat):Int)):=by
 rw[sO,<-Int.natCast_mul]
 generalize a*b=z at h
 rw[dl (by omega) (by omega)]
theorem By {a b:Nat}(h:a+b<18446744073709551616):bA .add (.int .u64 (a:Int)) (.int .u64 (b:Int))=.val (.int .u64 ((a+b:Nat):Int)):=by
 rw[sG,<-Int.natCast_add,dl (by omega) (by omega)]
theorem Dq {x y:Nat}(h:x*y<18446744073709551616):∃x0 x1 y0 y1 p qa qb:Nat,x / 4294967296=x1/\x % 4294967296=x0/\y / 4294967296=y1/\y % 4294967296=y0/\x1*y1=0/\x0*y0=p/\x1*y0=qa/\x0*y1=qb /\
  p<18446744073709551616/\qa<4294967296/\qb<4294967296/\(qa+p / 4294967296) / 4294967296=0/\((qa+p / 4294967296) % 4294967296+qb) / 4294967296=0:=by
 obtain ⟨B,hB⟩:∃B:Nat,B=4294967296:=⟨_,rfl⟩
 have dx:=Nat.div_add_mod x B
 have dy:=Nat.div_add_mod y B
 have mx:=Nat.mod_lt x (show 0<B by omega)
 have my:=Nat.mod_lt y (show 0<B by omega)
 rw[<-hB]
 refine ⟨_,_,_,_,_,_,_,rfl,rfl,rfl,rfl,?_,rfl,rfl,rfl,?_⟩
 ·generalize x / B=x1 at *
  generalize x % B=x0 at *
  generalize y / B=y1 at *
  generalize y % B=y0 at *
  rcases Nat.eq_zero_or_pos (x1*y1) with h0 | h0
  ·exact h0
  ·exfalso
   have e1:B*x1*(B*y1)=B*B*(x1*y1):=Nat.mul_mul_mul_comm _ _ _ _
   have e4:B*x1*(B*y1)<=x*y:=Nat.mul_le_mul (by omega) (by omega)
   have e5:B*B*1<=B*B*(x1*y1):=Nat.mul_le_mul_left _ h0
   have e6:B*B=18446744073709551616:=by rw[hB]
   omega
 ·generalize x / B=x1 at *
  generalize x % B=x0 at *
  generalize y / B=y1 at *
  generalize y % B=y0 at *
  have e2:B*x1*y0=B*(x1*y0):=Nat.mul_assoc _ _ _
  have e3:x0*(B*y1)=B*(x0*y1):=Nat.mul_left_comm _ _ _
  have exy:x*y=B*x1*(B*y1)+B*(x1*y0)+(B*(x0*y1)+x0*y0):=by
   rw[<-dx,<-dy,Nat.mul_add,Nat.add_mul,Nat.add_mul,e2,e3];omega
  have hp:x0*y0<=(B - 1)*(B - 1):=Nat.mul_le_mul (by omega) (by omega)
  generalize x1*y0=qa at *
  generalize x0*y1=qb at *
  generalize x0*y0=p at *
  generalize B*x1*(B*y1)=z at *
  generalize x*y=w at *
  subst hB
  have hp2:p<=18446744065119617025:=hp
  clear hp mx my dx dy
  have k1:4294967296*qa+(4294967296*qb+p)<18446744073709551616:=by omega
  refine ⟨by omega,by omega,by omega,by omega,by omega⟩
theorem FQ {d:Nat}{g:G}{x y:Nat}(hd:0<d)(h:x*y<18446744073709551616)(hx:x<18446744073709551616)(hy:y<18446744073709551616) :
  ac C0 d N.an [.int .u64 (x:Int),.int .u64 (y:Int)] g=.val (.tup [.int .u64 0,.int .u64 ((x*y:Nat):Int)]):=by
 have key:∃r,ac C0 d N.an [.int .u64 (x:Int),.int .u64 (y:Int)] g=.val r/\mN (One (0:Nat)) (One (x*y:Nat)) NoP 0 .nil r:=by
  rw[io]
  refine aR jD (xs:=[.int .u64 (x:Int),.int .u64 (y:Int)]) (by simp only[aE,fL 0]) (by simp[cw]) (bz (m:=1) (aM _) (aM _) (by decide) (by decide)) (by decide) hd ?_
  obtain ⟨x0,x1,y0,y1,p,qa,qb,hx1,hx0,hy1,hy0,h11,hP,hA,hB,lp,la,lb,z2,z3⟩:=Dq h
  have m1:=qs (a:=x0) (b:=y0) (by rw[hP];exact lp)
  have m2:=qs (a:=x1) (b:=y0) (by rw[hA];omega)
  have m3:=qs (a:=x0) (b:=y1) (by rw[hB];omega)
  have m4:=qs (a:=x1) (b:=y1) (by rw[h11];omega)
  have m5:=qs h
  rw[hP] at m1;rw[hA] at m2;rw[hB] at m3;rw[h11] at m4
  have s1:=ki p lp
  have a1:=By (a:=qa) (b:=p / 4294967296) (by omega)
  have n1:=kX (qa+p / 4294967296) (by omega)
  have s2:=ki (qa+p / 4294967296) (by omega)
  have a2:=By (a:=(qa+p / 4294967296) % 4294967296) (b:=qb) (by omega)
  rw[z2] at s2
  have a3:bA .add (.int .u64 ((0:Nat):Int)) (.int .u64 ((0:Nat):Int))=.val (.int .u64 ((0:Nat):Int)):=rfl
  have s3:=ki ((qa+p / 4294967296) % 4294967296+qb) (by omega)
  rw[z3] at s3
  have nx:=kX x hx
  have ny:=kX y hy
  have sx':=ki x hx
  have sy':=ki y hy
  rw[hx0] at nx;rw[hy0] at ny;rw[hx1] at sx';rw[hy1] at sy'
  clear z2 z3 lp la lb h11 hP hA hB
  simp only[cw,sx,SO.run,↓reduceIte,Nat.reduceEqDiff,nx,ny,sx',sy',m1,m2,m3,m4,m5,s1,s2,s3,n1,a1,a2,a3,iB]
  exact ⟨NoP,_,_,rfl,eO.2 ⟨rfl,by decide⟩,eO.2 ⟨rfl,h⟩⟩
 obtain ⟨r,h1,a,b,rfl,h2,h3⟩:=key
 have h2:=(eO.1 h2).1
 have h3:=(eO.1 h3).1
 injection h2 with h2
 injection h3 with h3
 rw[h1,h2,h3];rfl
theorem Ay {n d c w:Nat}(hc:Nat.Coprime n d)(hd:0<d)(hw:0<w)(h:n*w=c*d):S.ak c w=((n:Int),(d:Int)):=by
 have h1:d ∣ n*w:=⟨c,by rw[h,Nat.mul_comm]⟩
 obtain ⟨k,hk⟩:=hc.symm.dvd_of_dvd_mul_left h1
 have hk0:0<k:=Nat.pos_of_ne_zero fun e=>by rw[e,Nat.mul_zero] at hk;omega
 have hcn:c=n*k:=by
  have:c*d=n*k*d:=by rw[<-h,hk,Nat.mul_assoc,Nat.mul_comm k d]
  exact Nat.eq_of_mul_eq_mul_right hd this
 have hg:Nat.gcd c w=k:=by
  rw[hcn,hk,Nat.gcd_mul_right,show Nat.gcd n d=1 from hc,Nat.one_mul]
 unfold S.ak
 rw[hg,hcn,hk,Nat.mul_div_cancel _ hk0,Nat.mul_div_cancel _ hk0]
theorem FF {c s w:Nat}(hs:0<s)(hw:0<w){a1 a2 b1 b2 g h:Nat}(ha1:c / Nat.gcd c s=a1)(ha2:s / Nat.gcd c s=a2)(hb1:s / Nat.gcd s w=b1)(hb2:w / Nat.gcd s w=b2)(hg:Nat.gcd a1 b2=g)(hh:Nat.gcd b1 a2=h) :
  S.ak c w=(((a1 / g*(b1 / h):Nat):Int),((a2 / h*(b2 / g):Nat):Int))/\Nat.gcd a1 a2=1/\Nat.gcd b1 b2=1/\0<a2/\0<b2/\a2<=s/\b2<=w/\a1<=c/\b1<=s/\a1 / g*(b1 / h)<=c/\a2 / h*(b2 / g)<=w/\0<g/\0<h:=by
 have p1:0<Nat.gcd c s:=Nat.gcd_pos_of_pos_right c hs
 have p2:0<Nat.gcd s w:=Nat.gcd_pos_of_pos_right s hw
 have e1:a1*Nat.gcd c s=c:=by rw[<-ha1];exact Nat.div_mul_cancel (Nat.gcd_dvd_left c s)
 have e2:a2*Nat.gcd c s=s:=by rw[<-ha2];exact Nat.div_mul_cancel (Nat.gcd_dvd_right c s)
 have e3:b1*Nat.gcd s w=s:=by rw[<-hb1];exact Nat.div_mul_cancel (Nat.gcd_dvd_left s w)
 have e4:b2*Nat.gcd s w=w:=by rw[<-hb2];exact Nat.div_mul_cancel (Nat.gcd_dvd_right s w)
 have c1:Nat.Coprime a1 a2:=by rw[<-ha1,<-ha2];exact Nat.coprime_div_gcd_div_gcd p1
 have c2:Nat.Coprime b1 b2:=by rw[<-hb1,<-hb2];exact Nat.coprime_div_gcd_div_gcd p2
 have l2:a2<=s:=by rw[<-ha2];exact Nat.div_le_self _ _
 have l4:b2<=w:=by rw[<-hb2];exact Nat.div_le_self _ _
 have l1:a1<=c:=by rw[<-ha1];exact Nat.div_le_self _ _
 have l3:b1<=s:=by rw[<-hb1];exact Nat.div_le_self _ _
 have a20:0<a2:=Nat.pos_of_ne_zero fun e=>by rw[e,Nat.zero_mul] at e2;omega
 have b20:0<b2:=Nat.pos_of_ne_zero fun e=>by rw[e,Nat.zero_mul] at e4;omega
 have g0:0<g:=by rw[<-hg];exact Nat.gcd_pos_of_pos_right a1 b20
 have h0:0<h:=by rw[<-hh];exact Nat.gcd_pos_of_pos_right b1 a20
 generalize Nat.gcd c s=gc at *
 generalize Nat.gcd s w=gw at *
 have f1:a1 / g*g=a1:=Nat.div_mul_cancel (by rw[<-hg];exact Nat.gcd_dvd_left _ _)
 have f2:b2 / g*g=b2:=Nat.div_mul_cancel (by rw[<-hg];exact Nat.gcd_dvd_right _ _)
 have f3:b1 / h*h=b1:=Nat.div_mul_cancel (by rw[<-hh];exact Nat.gcd_dvd_left _ _)
 have f4:a2 / h*h=a2:=Nat.div_mul_cancel (by rw[<-hh];exact Nat.gcd_dvd_right _ _)
 have d1:Nat.Coprime (a1 / g) (b2 / g):=by rw[<-hg];exact Nat.coprime_div_gcd_div_gcd (by rw[hg];exact g0)
 have d2:Nat.Coprime (b1 / h) (a2 / h):=by rw[<-hh];exact Nat.coprime_div_gcd_div_gcd (by rw[hh];exact h0)
 have v1:a1 / g ∣ a1:=⟨g,f1.symm⟩
 have v2:b2 / g ∣ b2:=⟨g,f2.symm⟩
 have v3:b1 / h ∣ b1:=⟨h,f3.symm⟩
 have v4:a2 / h ∣ a2:=⟨h,f4.symm⟩
 have d3:Nat.Coprime (a1 / g) (a2 / h):=(c1.coprime_dvd_left v1).coprime_dvd_right v4
 have d4:Nat.Coprime (b1 / h) (b2 / g):=(c2.coprime_dvd_left v3).coprime_dvd_right v2
 generalize hA:a1 / g=A at *
 generalize hF:b2 / g=F at *
 generalize hB:b1 / h=B at *
 generalize hE:a2 / h=E at *
 have cop:Nat.Coprime (A*B) (E*F):=(d3.mul_right d1).mul_left (d2.mul_right d4)
 have hEF:0<E*F:=by
  refine Nat.pos_of_ne_zero fun e=>?_
  rcases Nat.mul_eq_zero.1 e with e | e
  ·rw[e,Nat.zero_mul] at f4;omega
  ·rw[e,Nat.zero_mul] at f2;omega
 have key:E*gc=B*gw:=by
  have:E*gc*h=B*gw*h:=by
   rw[Nat.mul_right_comm,f4,e2,Nat.mul_right_comm,f3,e3]
  exact Nat.eq_of_mul_eq_mul_right h0 this
 have hmain:A*B*w=c*(E*F):=by
  calc A*B*w=A*B*(F*g*gw):=by rw[f2,e4]
   _=A*g*F*(B*gw):=by simp only[Nat.mul_comm,Nat.mul_left_comm]
   _=A*g*F*(E*gc):=by rw[key]
   _=A*g*gc*(E*F):=by simp only[Nat.mul_comm,Nat.mul_left_comm]
   _=c*(E*F):=by rw[f1,e1]
 have hlow:=Ay cop hEF hw hmain
 have q1:(S.ak c w).1<=(c:Int):=by unfold S.ak;exact Int.ofNat_le.2 (Nat.div_le_self _ _)
 have q2:(S.ak c w).2<=(w:Int):=by unfold S.ak;exact Int.ofNat_le.2 (Nat.div_le_self _ _)
 rw[hlow] at q1 q2
 exact ⟨hlow,c1,c2,a20,b20,l2,l4,l1,l3,Int.ofNat_le.1 q1,Int.ofNat_le.1 q2,g0,h0⟩
abbrev QN:=Nat×Nat
theorem Bm {x:QN}{P:Nat->Prop}{k:Nat}{h:H}{v:AV}(h1:x.1<18446744073709551616)(h2:x.2<18446744073709551616):Agg x P k h v↔v=.agg [.int .u64 (x.1:Int),.int .u64 (x.2:Int)]:=by
 constructor
 ·rintro ⟨cs,rfl,hc⟩
  obtain ⟨a,b,rfl,q1,q2⟩:=sR.1 hc
  rw[(eO.1 q1).1,(eO.1 q2).1];rfl
 ·rintro rfl
  exact ⟨_,rfl,sR.2 ⟨[.int .u64 (x.1:Int)],[.int .u64 (x.2:Int)],rfl,eO.2 ⟨rfl,h1⟩,eO.2 ⟨rfl,h2⟩⟩⟩
theorem yX {d:Nat}{g:G}{x y:Nat}(hd:0<d)(h:x*y<18446744073709551616)(hx:x<18446744073709551616)(hy:y<18446744073709551616) :
  ac C0 d N.ac [.int .u64 (x:Int),.int .u64 (y:Int)] g=.val (.agg [.int .u64 0,.int .u64 ((x*y:Nat):Int)]):=by
 have key:∃r,ac C0 d N.ac [.int .u64 (x:Int),.int .u64 (y:Int)] g=.val r/\Agg (((0:Nat),x*y):QN) NoP 0 .nil r:=by
  rw[mF]
  refine aR o8 (xs:=[.int .u64 (x:Int),.int .u64 (y:Int)]) (by simp only[aE,fL 0]) (by simp[fG]) (bm _) (by decide) hd ?_
  have e1:∀g,ac C0 (d+1) N.an [.int .u64 (x:Int),.int .u64 (y:Int)] g=.val (.tup [.int .u64 0,.int .u64 ((x*y:Nat):Int)]):=fun g=>FQ (Nat.succ_pos d) h hx hy
  simp only[fG,ji,sx,sy,SO.run,↓reduceIte,Nat.reduceEqDiff,Nat.reduceAdd,Nat.reduceLeDiff,e1]
  exact ⟨NoP,(Bm (x:=(0,x*y)) (by show (0:Nat)<18446744073709551616;decide) h).2 rfl⟩
 obtain ⟨r,h1,h2⟩:=key
 rw[h1,(Bm (x:=(0,x*y)) (by show (0:Nat)<18446744073709551616;decide) h).1 h2];rfl
theorem oB {d:Nat}{g:G}{n m:Nat}(hd:0<d)(hn:n<=4611686018427387903)(hm0:0<m)(hm:m<=4611686018427387903)(hg:Nat.gcd n m=1):ac C0 d N.af [.agg [.int .i64 (n:Int),.int .i64 (m:Int)]] g=.val (.int .i64 0):=by
 rw[sn]
 refine mj uI (xs:=[.agg [.int .i64 (n:Int),.int .i64 (m:Int)]]) rfl (by simp[mr]) hd ?_
 have l1:decide ((m:Int)<1)=false:=by simp;omega
 have l2:decide ((4611686018427387903:Int)<(m:Int))=false:=by simp;omega
 have l3:decide ((n:Int) < -4611686018427387903)=false:=by rw[decide_eq_false_iff_not];omega
 have l4:decide ((4611686018427387903:Int)<(n:Int))=false:=by simp;omega
 have e1:∀g,ac C0 (d+1) N.aa [.int .i64 (n:Int)] g=.val (.int .u64 (n:Int)):=fun g=>nJ (Nat.succ_pos d) ⟨by omega,by omega⟩
 have e3:∀g,ac C0 (d+1) N.ae [.int .u64 (n:Int),.int .u64 (m:Int)] g=.val (.int .u64 1):=fun g=>by rw[od (Nat.succ_pos d) (by omega) (by omega),hg];rfl
 simp only[mr,nY,sx,sy,SO.run,↓reduceIte,Nat.reduceEqDiff,Nat.reduceAdd,l1,l2,l3,l4,e1,e3,dl (show (0:Int)<=(m:Int) by omega) (show (m:Int)<18446744073709551616 by omega),decide_true,Bool.not_true]
theorem zc {d:Nat}{g:G}{a1 a2 b1 b2 z h:Nat}(hd:0<d)(hz:Nat.gcd a1 b2=z)(hh:Nat.gcd b1 a2=h)(z0:0<z)(h0:0<h)(la1:a1<=4611686018427387903)(la2:a2<=4611686018427387903)(lb1:b1<=4611686018427387903)(lb2:b2<=4611686018427387903)
  (p1:a1 / z*(b1 / h)<=4611686018427387903) (p2:a2 / h*(b2 / z)<=4611686018427387903) :
  ac C0 d N.ax [.agg [.int .i64 (a1:Int),.int .i64 (a2:Int)],.agg [.int .i64 (b1:Int),.int .i64 (b2:Int)]] g=.val (.agg [.int .i64 ((a1 / z*(b1 / h):Nat):Int),.int .i64 ((a2 / h*(b2 / z):Nat):Int)]):=by
 have key:∃r,ac C0 d N.ax [.agg [.int .i64 (a1:Int),.int .i64 (a2:Int)],.agg [.int .i64 (b1:Int),.int .i64 (b2:Int)]] g=.val r/\Agg ((((a1 / z*(b1 / h):Nat):Int),((a2 / h*(b2 / z):Nat):Int)):QI) NoP 0 .nil r:=by
  rw[pV]
  refine aR su (xs:=[.agg [.int .i64 (a1:Int),.int .i64 (a2:Int)],.agg [.int .i64 (b1:Int),.int .i64 (b2:Int)]]) rfl (by simp[iT]) (bm _) (by decide) hd ?_
  have e1:∀x:Nat,x<=4611686018427387903->∀g,ac C0 (d+1) N.aa [.int .i64 (x:Int)] g=.val (.int .u64 (x:Int)):=fun x hx g=>nJ (Nat.succ_pos d) ⟨by omega,by omega⟩
  have e2:∀g,ac C0 (d+1) N.ae [.int .u64 (a1:Int),.int .u64 (b2:Int)] g=.val (.int .u64 (z:Int)):=fun g=>by rw[od (Nat.succ_pos d) (by omega) (by omega),hz]
  have e3:∀g,ac C0 (d+1) N.ae [.int .u64 (b1:Int),.int .u64 (a2:Int)] g=.val (.int .u64 (h:Int)):=fun g=>by rw[od (Nat.succ_pos d) (by omega) (by omega),hh]
  have l1:decide ((a1:Int)<0)=false:=by simp
  have l2:decide ((b1:Int)<0)=false:=by simp
  have wq:∀x:Nat,x<=4611686018427387903->∀y:Nat,0<y->bA .quo (.int .u64 (x:Int)) (.int .u64 (y:Int))=.val (.int .u64 ((x / y:Nat):Int)):=fun x hx y hy=>by
   have hle:x / y<=x:=Nat.div_le_self _ _
   rw[xp .u64 (Int.natCast_nonneg x) (by omega),<-Int.natCast_ediv]
   generalize x / y=z at hle
   rw[dl (by omega) (by omega)]
  have k1:=Nat.div_le_self a1 z
  have k2:=Nat.div_le_self b1 h
  have k3:=Nat.div_le_self a2 h
  have k4:=Nat.div_le_self b2 z
  have t1:∀g,ac C0 (d+1) N.ac [.int .u64 ((a1 / z:Nat):Int),.int .u64 ((b1 / h:Nat):Int)] g=.val (.agg [.int .u64 0,.int .u64 ((a1 / z*(b1 / h):Nat):Int)]):=fun g=>yX (Nat.succ_pos d) (by omega) (by omega) (by omega)
  have t2:∀g,ac C0 (d+1) N.ac [.int .u64 ((a2 / h:Nat):Int),.int .u64 ((b2 / z:Nat):Int)] g=.val (.agg [.int .u64 0,.int .u64 ((a2 / h*(b2 / z):Nat):Int)]):=fun g=>yX (Nat.succ_pos d) (by omega) (by omega) (by omega)
  have e4:∀g,ac C0 (d+1) N.am [.bool false,.agg [.int .u64 0,.int .u64 ((a1 / z*(b1 / h):Nat):Int)],.agg [.int .u64 0,.int .u64 ((a2 / h*(b2 / z):Nat):Int)]] g=.val (.agg [.int .i64 ((a1 / z*(b1 / h):Nat):Int),.int .i64 ((a2 / h*(b2 / z):Nat):Int)]):=fun g=>Eu (Nat.succ_pos d) p1 p2
  have w1:=wq a1 la1 z z0
  have w2:=wq b1 lb1 h h0
  have w3:=wq a2 la2 h h0
  have w4:=wq b2 lb2 z z0
  generalize a1 / z*(b1 / h)=n' at *
  generalize a2 / h*(b2 / z)=d' at *
  generalize a1 / z=A at *
  generalize b1 / h=B at *
  generalize a2 / h=E at *
  generalize b2 / z=F at *
  simp only[iT,lH,sx,sy,sf,SO.run,↓reduceIte,Nat.reduceEqDiff,Nat.reduceAdd,Nat.reduceLeDiff,e1 a1 la1,e1 b1 lb1,e2,e3,e4,t1,t2,l1,l2,HY,w1,w2,w3,w4,
   dl (show (0:Int)<=(a2:Int) by omega) (show (a2:Int)<18446744073709551616 by omega),dl (show (0:Int)<=(b2:Int) by omega) (show (b2:Int)<18446744073709551616 by omega)]
  refine ⟨?_,?_,NoP,d_.2 rfl⟩
  ·simp only[List.reverse_cons,List.reverse_nil,List.nil_append,List.cons_append]
   refine aX [false,false,false,false,false,false,false,false,false,false,false,true,true] [(0,11),(1,11),(2,11),(3,11),(4,11),(5,11),(6,11),(7,11),(8,11),(9,11),(10,11)] (by simp[All2,ak,aD,fN,eH]) (by decide) ?_
   rintro p hp x y hx hy
   simp only[List.mem_cons,List.not_mem_nil,or_false] at hp
   rcases hp with rfl | rfl | rfl | rfl | rfl | rfl | rfl | rfl | rfl | rfl | rfl<;>(simp at hx hy;subst hx;subst hy;refine eo rfl ?_ ?_ rfl ?_ ?_ ?_<;>simp[ak,aD,ae,fN,eH,qR,t6,EL,sx,Gs])
  ·simp only[List.reverse_cons,List.reverse_nil,List.nil_append,List.cons_append]
   exact aX [false,false,false,false,false,false,false,false,false,false,false,false,false,false,false,false,false,false,false,false,true] [] (by simp[All2,ak,aD,eH,oS]) (by decide) (by simp)
 obtain ⟨r,h1,h2⟩:=key
 rw[h1,d_.1 h2]
theorem qF {h:H}{id:Nat}{a b:Int}(d k:Nat)(hg:h.get id=.cells 2 [[.int .i64 a,.int .i64 b]] 0 false false):Hx.snap h d (k+3) (.hptr id 0 0 0)=some (.tptr (Nat.max d 0) 2 [[.int .i64 a,.int .i64 b]] 0 0):=by
 simp only[Hx.snap,hg,show Nat.beq 0 0=true from rfl,aE]
 rfl
theorem BG {h:H}{id f:Nat}(d k:Nat)(hg:h.get id=.cells 1 [[.clo f [] []]] 0 false false):Hx.snap h d (k+3) (.hptr id 0 0 0)=some (.tptr (Nat.max d 0) 1 [[.clo f [] []]] 0 0):=by
 simp only[Hx.snap,hg,show Nat.beq 0 0=true from rfl,aE]
 rfl
theorem wB {h:H}{d f:Nat}{a b c a' b' c':AV}(ha:Hx.snap h d 23 a=some a')(hb:Hx.snap h d 23 b=some b')(hc:Hx.snap h d 23 c=some c'):Hx.snap h d ay (.clo f [] [a,b,c])=some (.clo f [] [a',b',c']):=by
 show (match aE (Hx.snap h d 23) [],aE (Hx.snap h d 23) [a,b,c] with | some as',some cs=>some (AV.clo f as' cs) | _,_=>none)=_
 simp only[aE,ha,hb,hc]
theorem AN (d:Nat)(a b c:AV)(g:G):cj C0 (I C0) d (.clo N.bc [] [a,b,c]) [] g=orF ((I C0).call d N.bc [a,b,c] g):=by kernel_rfl
theorem xO (d:Nat)(a b:AV)(g:G):cj C0 (I C0) d (.clo 77 [] []) [a,b] g=ac C0 d N.ax [a,b] g:=by kernel_rfl
theorem FK {d:Nat}{g:G}{x y r:QI}{z:Nat}{K:AV->G->Prop}{D:ADf->Prop}(hp:∀g,ac C0 d N.ax [.agg [.int .i64 x.1,.int .i64 x.2],.agg [.int .i64 y.1,.int .i64 y.2]] g=.val (.agg [.int .i64 r.1,.int .i64 r.2]))
  (kk:∀g',Fr g g'->K (.agg [.int .i64 r.1,.int .i64 r.2]) g') :
  (cj C0 (I C0) d (.clo N.bc [] [.tptr z 1 [[.clo 77 [] []]] 0 0,.tptr z 2 [[.int .i64 x.1,.int .i64 x.2]] 0 0,.tptr z 2 [[.int .i64 y.1,.int .i64 y.2]] 0 0]) [] g).sat K g D:=by
 rw[AN]
 refine l8 oH (by simp[eP]) ?_
 have hp':∀g,cj C0 (I C0) d (.clo 77 [] []) [.agg [.int .i64 x.1,.int .i64 x.2],.agg [.int .i64 y.1,.int .i64 y.2]] g=.val (.agg [.int .i64 r.1,.int .i64 r.2]):=fun g=>by rw[xO,hp]
 simp only[eP,gQ,sx,sy,SO.run,↓reduceIte,Nat.reduceEqDiff,Nat.reduceAdd,Nat.reduceLeDiff,cZ,hp']
 exact kk _ ⟨by simp,fun i hi=>by simp[H.get_put,show ¬i=g.nx by omega]⟩
theorem GP {d:Nat}{g:G}{x y r:QI}(hd:0<d)(cx:∀d g,0<d->ac C0 d N.af [.agg [.int .i64 x.1,.int .i64 x.2]] g=.val (.int .i64 0))(cy:∀d g,0<d->ac C0 d N.af [.agg [.int .i64 y.1,.int .i64 y.2]] g=.val (.int .i64 0))
  (hp:∀d g,0<d->ac C0 d N.ax [.agg [.int .i64 x.1,.int .i64 x.2],.agg [.int .i64 y.1,.int .i64 y.2]] g=.val (.agg [.int .i64 r.1,.int .i64 r.2])) :
  ac C0 d N.aK [.agg [.int .i64 x.1,.int .i64 x.2],.agg [.int .i64 y.1,.int .i64 y.2],.clo 77 [] []] g=.val (.tup [.agg [.int .i64 r.1,.int .i64 r.2],.int .i64 0]):=by
 have key:∃z,ac C0 d N.aK [.agg [.int .i64 x.1,.int .i64 x.2],.agg [.int .i64 y.1,.int .i64 y.2],.clo 77 [] []] g=.val z/\mN (Agg r) (One (0:Int)) NoP 0 .nil z:=by
  rw[oR]
  refine aR qJ (xs:=[.agg [.int .i64 x.1,.int .i64 x.2],.agg [.int .i64 y.1,.int .i64 y.2],.clo 77 [] []]) rfl (by simp[gE]) (bz (m:=2) (bm _) (aM _) (by decide) (by decide)) (by decide) hd ?_
  have hbx:∀g,Ax (.clo 77 [] []) g=.upd (.hptr g.nx 0 0 0) (g.new (.cells 1 [[.clo 77 [] []]] 0 false false)):=fun g=>rfl
  have c1:=fun g=>cx (d+1) g (Nat.succ_pos d)
  have c2:=fun g=>cy (d+1) g (Nat.succ_pos d)
  simp only[gE,jq,sx,sy,SO.run,↓reduceIte,Nat.reduceEqDiff,Nat.reduceAdd,Nat.reduceLeDiff,hbx,c1,c2,decide_true,Bool.not_true]
  rw[zw (x:=r) (a':=[.tptr (Nat.max (d+1) 0) 1 [[.clo 77 [] []]] 0 0,.tptr (Nat.max (d+1) 0) 2 [[.int .i64 x.1,.int .i64 x.2]] 0 0,.tptr (Nat.max (d+1) 0) 2 [[.int .i64 y.1,.int .i64 y.2]] 0 0]) (Nat.succ_pos d) ?_
   (fun g K D kk=>FK (fun g=>hp _ g (Nat.succ_pos _)) kk)]
  ·simp only[sx,sy,SO.run,↓reduceIte,Nat.reduceEqDiff,Nat.reduceAdd,Nat.reduceLeDiff]
   exact ⟨NoP,_,_,rfl,d_.2 rfl,aC.2 rfl⟩
  ·rw[wB (BG (f:=77) (d+1) 20 (by simp[sx,H.get_put])) (qF (a:=x.1) (b:=x.2) (d+1) 20 (by simp[sx,H.get_put])) (qF (a:=y.1) (b:=y.2) (d+1) 20 (by simp[sx,H.get_put]))]
 obtain ⟨z,h1,a,b,rfl,h2,h3⟩:=key
 have h3:=aC.1 h3
 injection h3 with h3
 rw[h1,d_.1 h2,h3]
end
end Hx
end
end
section
namespace Hx
open Go
noncomputable section
theorem sY {x y:Nat}(hx:x<18446744073709551616)(hy:y<18446744073709551616):(S.ah x y).1*18446744073709551616+(S.ah x y).2=x*y/\(S.ah x y).2<18446744073709551616/\(S.ah x y).1<18446744073709551616:=by
 have hx1:x / 4294967296<=4294967295:=by omega
 have hy1:y / 4294967296<=4294967295:=by omega
 have hx0:x % 4294967296<=4294967295:=by omega
 have hy0:y % 4294967296<=4294967295:=by omega
 have ex:x=x / 4294967296*4294967296+x % 4294967296:=by omega
 have ey:y=y / 4294967296*4294967296+y % 4294967296:=by omega
 unfold S.ah S.ay
 simp only
 have key:x*y=(x / 4294967296*(y / 4294967296))*18446744073709551616+(x / 4294967296*(y % 4294967296)+x % 4294967296*(y / 4294967296))*4294967296+x % 4294967296*(y % 4294967296):=by
  generalize x / 4294967296=x1 at *
  generalize x % 4294967296=x0 at *
  generalize y / 4294967296=y1 at *
  generalize y % 4294967296=y0 at *
  subst ex ey
  rw[Nat.add_mul,Nat.mul_add,Nat.mul_add]
  have h1:x1*4294967296*(y1*4294967296)=x1*y1*18446744073709551616:=by rw[Nat.mul_mul_mul_comm]
  have h2:x1*4294967296*y0=x1*y0*4294967296:=by rw[Nat.mul_right_comm]
  have h3:x0*(y1*4294967296)=x0*y1*4294967296:=by rw[Nat.mul_assoc]
  rw[h1,h2,h3]
  omega
 have b0:x % 4294967296*(y % 4294967296)<=18446744065119617025:=Nat.mul_le_mul hx0 hy0
 have b1:x / 4294967296*(y % 4294967296)<=18446744065119617025:=Nat.mul_le_mul hx1 hy0
 have b2:x % 4294967296*(y / 4294967296)<=18446744065119617025:=Nat.mul_le_mul hx0 hy1
 have b3:x / 4294967296*(y / 4294967296)<=18446744065119617025:=Nat.mul_le_mul hx1 hy1
 generalize x % 4294967296*(y % 4294967296)=a at *
 generalize x / 4294967296*(y % 4294967296)=b at *
 generalize x % 4294967296*(y / 4294967296)=c at *
 generalize x / 4294967296*(y / 4294967296)=e at *
 rw[key]
 clear key ex ey
 omega
theorem Dd {x y x' y':Nat}(hx:x<18446744073709551616)(hy:y<18446744073709551616)(hx':x'<18446744073709551616)(hy':y'<18446744073709551616) :
  (((S.ah x y).1=(S.ah x' y').1/\(S.ah x y).2=(S.ah x' y').2)↔x*y=x'*y')/\(((S.ah x y).1<(S.ah x' y').1\/(S.ah x y).1=(S.ah x' y').1/\(S.ah x y).2<(S.ah x' y').2)↔x*y<x'*y'):=by
 obtain ⟨a1,a2,a3⟩:=sY hx hy
 obtain ⟨b1,b2,b3⟩:=sY hx' hy'
 generalize S.ah x y=A at *
 generalize S.ah x' y'=B at *
 generalize x*y=p at *
 generalize x'*y'=q at *
 omega
def u9 (x y:Nat):AV:=.agg [.int .u64 ((S.ah x y).1:Int),.int .u64 ((S.ah x y).2:Int)]
theorem vp {d:Nat}{g:G}{x y:Nat}(hd:0<d)(hx:x<18446744073709551616)(hy:y<18446744073709551616):ac C0 d N.ac [.int .u64 (x:Int),.int .u64 (y:Int)] g=.val (u9 x y):=by
 obtain ⟨-,hb2,hb1⟩:=sY hx hy
 have key:∃r,ac C0 d N.ac [.int .u64 (x:Int),.int .u64 (y:Int)] g=.val r/\Agg ((S.ah x y):QN) NoP 0 .nil r:=by
  rw[mF]
  refine aR o8 (xs:=[.int .u64 (x:Int),.int .u64 (y:Int)]) rfl (by simp[fG]) (bm _) (by decide) hd ?_
  have m1:∀g,ac C0 (d+1) N.an [.int .u64 (x:Int),.int .u64 (y:Int)] g=.val (.tup [.int .u64 ((S.ah x y).1:Int),.int .u64 ((S.ah x y).2:Int)]):=fun g=>C2 (Nat.succ_pos d) hx hy
  simp only[sz,simprocAttr,fG,ji,m1]
  exact ⟨NoP,(Bm hb1 hb2).2 rfl⟩
 obtain ⟨r,h1,h2⟩:=key
 rw[h1,(Bm hb1 hb2).1 h2];rfl
theorem F4 {d a b a' b':Nat}{g:G}(hd:0<d):ac C0 d N.aQ [.agg [.int .u64 (a:Int),.int .u64 (b:Int)],.agg [.int .u64 (a':Int),.int .u64 (b':Int)]] g=.val (.bool (decide (a<a'\/a=a'/\b<b'))):=by
 rw[ua]
 refine kT wD (xs:=[.agg [.int .u64 (a:Int),.int .u64 (b:Int)],.agg [.int .u64 (a':Int),.int .u64 (b':Int)]]) rfl (by simp[gP]) hd ?_
 have i0:∀id,AK 2 1 (.hptr id 0 0 0) (.int .i64 0)=.val (.hptr id 0 0 0):=fun _=>rfl
 have i1:∀id,AK 2 1 (.hptr id 0 0 0) (.int .i64 1)=.val (.hptr id 0 0 1):=fun _=>rfl
 by_cases c1:a<a'
 ·have d1:decide ((a:Int)<(a':Int))=true:=by simp;exact c1
  simp only[sz,simprocAttr,gP,gJ,i0,i1,d1]
  congr 1;simp[c1]
 ·have d1:decide ((a:Int)<(a':Int))=false:=by simp;omega
  by_cases c2:a=a'
  ·subst c2
   have d2:decide ((b:Int)<(b':Int))=decide (b<b'):=by rw[Bool.eq_iff_iff];simp
   simp only[sz,simprocAttr,gP,gJ,i0,i1,d1,d2]
   congr 1;simp
  ·have d2:decide ((a:Int)=(a':Int))=false:=by simp;omega
   simp only[sz,simprocAttr,gP,gJ,i0,i1,d1,d2]
   congr 1;simp[c1,c2]
def S.aU (a b:Nat):Int:=if a=b then 0 else if a<b then -1 else 1
theorem Cw (d:Nat)(a b:AV)(g:G):cj C0 (I C0) d (.clo 72 [] []) [a,b] g=orF ((I C0).call d N.bu [a,b] g):=by kernel_rfl
theorem Hi {d a1 a2 b1 b2:Nat}{g:G}{K:AV->G->Prop}{D:ADf->Prop}(hd:0<d)(l1:a1<=4611686018427387903)(l2:a2<=4611686018427387903)(l3:b1<=4611686018427387903)(l4:b2<=4611686018427387903)
  (kk:∀g',Fr g g'->K (.int .i64 (S.aU (a1*b2) (b1*a2))) g'):(cj C0 (I C0) d (.clo 72 [] []) [.agg [.int .i64 (a1:Int),.int .i64 (a2:Int)],.agg [.int .i64 (b1:Int),.int .i64 (b2:Int)]] g).sat K g D:=by
 rw[Cw]
 refine l8 uU (by simp[iC]) ?_
 have e1:∀x:Nat,x<=4611686018427387903->∀g,ac C0 d N.aa [.int .i64 (x:Int)] g=.val (.int .u64 (x:Int)):=fun x hx g=>nJ hd ⟨by omega,by omega⟩
 have s1:=e1 a1 l1
 have s2:=e1 b1 l3
 have w1:IntKind.wrap .u64 (b2:Int)=(b2:Int):=dl (by omega) (by omega)
 have w2:IntKind.wrap .u64 (a2:Int)=(a2:Int):=dl (by omega) (by omega)
 have t1:∀g,ac C0 d N.ac [.int .u64 (a1:Int),.int .u64 (b2:Int)] g=.val (u9 a1 b2):=fun g=>vp hd (by omega) (by omega)
 have t2:∀g,ac C0 d N.ac [.int .u64 (b1:Int),.int .u64 (a2:Int)] g=.val (u9 b1 a2):=fun g=>vp hd (by omega) (by omega)
 obtain ⟨o1,o2⟩:=Dd (x:=a1) (y:=b2) (x':=b1) (y':=a2) (by omega) (by omega) (by omega) (by omega)
 have n1:decide ((a1:Int)<0)=false:=by simp
 have n2:decide ((b1:Int)<0)=false:=by simp
 have n3:decide ((0:Int)<=(a1:Int))=true:=by simp
 have eb:∀w:Bool,oP true .bool (.bool w) (.bool w)=.val (.bool false):=fun w=>by cases w<;>rfl
 obtain ⟨p,hp⟩:∃p,p=S.aU (a1*b2) (b1*a2):=⟨_,rfl⟩
 rw[<-hp] at kk
 have hmA:∀x y,u9 x y=.agg [.int .u64 ((S.ah x y).1:Int),.int .u64 ((S.ah x y).2:Int)]:=fun _ _=>rfl
 have st1:∀(g:G) (i x y:Nat),kU (.cells 2 [[.int .u64 0,.int .u64 0]] 0 false false) g i 0 0 2 0 (u9 x y)=.upd .undef (g.put i (.cells 2 [[.int .u64 ((S.ah x y).1:Int),.int .u64 ((S.ah x y).2:Int)]] 0 false false)):=fun _ _ _ _=>rfl
 have ld:∀(x y:Nat),fU (.cells 2 [[.int .u64 ((S.ah x y).1:Int),.int .u64 ((S.ah x y).2:Int)]] 0 false false) 0 0 true 2 0=.val (u9 x y):=fun _ _=>rfl
 have kl:∀g,ac C0 d N.aQ [u9 a1 b2,u9 b1 a2] g=.val (.bool (decide (a1*b2<b1*a2))):=fun g=>by
  rw[hmA,hmA,F4 hd]
  congr 2
  exact decide_eq_decide.2 o2
 have eqm:oP false (.flat [.int .u64,.int .u64]) (u9 a1 b2) (u9 b1 a2)=.val (.bool (decide (a1*b2=b1*a2))):=by
  rw[hmA,hmA]
  have ha:wK ((S.ah a1 b2).1:Int) ((S.ah b1 a2).1:Int)=decide ((S.ah a1 b2).1=(S.ah b1 a2).1):=by rw[jE,Bool.eq_iff_iff];simp only[decide_eq_true_eq];omega
  have hb:wK ((S.ah a1 b2).2:Int) ((S.ah b1 a2).2:Int)=decide ((S.ah a1 b2).2=(S.ah b1 a2).2):=by rw[jE,Bool.eq_iff_iff];simp only[decide_eq_true_eq];omega
  have:decide (a1*b2=b1*a2)=(decide ((S.ah a1 b2).1=(S.ah b1 a2).1)&&decide ((S.ah a1 b2).2=(S.ah b1 a2).2)):=by rw[Bool.eq_iff_iff];simp[o1]
  rw[this]
  simp only[oP,eqA,bZ,ck,iM,ha,hb]
  cases decide ((S.ah a1 b2).1=(S.ah b1 a2).1)<;>cases decide ((S.ah a1 b2).2=(S.ah b1 a2).2)<;>rfl
 simp only[iC]
 refine dk (P:=fun t' df g'=>df=[]/\g'=(g.new (.cells 2 [[.int .i64 (a1:Int),.int .i64 (a2:Int)]] 0 false false)).new (.cells 2 [[.int .i64 (b1:Int),.int .i64 (b2:Int)]] 0 false false)/\St t' [(2,.hptr g.nx 0 0 0),(3,.hptr (g.nx+1) 0 0 0),(4,.int .i64 0)]) ?_ ?_
 ·simp only[sz,simprocAttr]
  simp[St,sx]
 rintro t df g1 ⟨rfl,hg1,h2,h3,h4,-⟩
 have k2:g1.h.get g.nx=.cells 2 [[.int .i64 (a1:Int),.int .i64 (a2:Int)]] 0 false false:=by rw[hg1];simp[H.get_put]
 have k3:g1.h.get (g.nx+1)=.cells 2 [[.int .i64 (b1:Int),.int .i64 (b2:Int)]] 0 false false:=by rw[hg1];simp[H.get_put]
 have n1':g1.nx=g.nx+2:=by rw[hg1];simp
 have f1:Fr g g1:=by rw[hg1];exact ⟨by simp;omega,fun i hi=>by simp[H.get_put,show ¬i=g.nx by omega,show ¬i=g.nx+1 by omega]⟩
 clear hg1
 simp only[mQ]
 obtain ⟨Qf,hQf⟩:∃Qf,Qf=fnQ C0 d iC.res K:=⟨_,rfl⟩
 show wp C0 d none _ (fnQ C0 d [.tm 4] K) _ _ _
 refine eR (P:=fun t' df g'=>df=[]/\Fr g g'/\∃p q,p≠q/\g'.h.get g.nx=.cells 2 [[.int .i64 (a1:Int),.int .i64 (a2:Int)]] 0 false false/\g'.h.get (g.nx+1)=.cells 2 [[.int .i64 (b1:Int),.int .i64 (b2:Int)]] 0 false false/\g'.h.get p=.cells 2 [[.int .u64 ((S.ah a1 b2).1:Int),.int .u64 ((S.ah a1 b2).2:Int)]] 0 false false/\g'.h.get q=.cells 2 [[.int .u64 ((S.ah b1 a2).1:Int),.int .u64 ((S.ah b1 a2).2:Int)]] 0 false false/\St t' [(2,.hptr g.nx 0 0 0),(3,.hptr (g.nx+1) 0 0 0),(5,.hptr p 0 0 0),(6,.hptr q 0 0 0)]) ?_ ?_
 ·simp only[sz,simprocAttr,sf,h2,h3,k2,k3,s1,s2,w1,w2,t1,t2,st1,fN,eH,show ¬g1.nx=g1.nx+2 by omega,show ¬g1.nx+2=g1.nx by omega]
  have si:∀h (k:IntKind) (z:Int),aB h ay (.int k z)=[]:=fun _ _ _=>rfl
  refine ⟨?_,⟨?_,fun i hi=>?_⟩,g1.nx+14,g1.nx+16,by omega,?_,?_,?_,?_,?_⟩
  ·simp only[List.reverse_cons,List.reverse_nil,List.nil_append,List.cons_append]
   refine aX [false,false,false,false,false,false,false,false,false,false,false,false,false,false,true,true,true,true] [(0,14),(1,14),(2,14),(3,14),(4,14),(5,14),(6,14),(7,14),(8,14),(9,14),(10,14),(11,14),(12,14),(13,14),(0,15),(1,15),(2,15),(3,15),(4,15),(5,15),(6,15),(7,15),(8,15),(9,15),(10,15),(11,15),(12,15),(13,15),(14,15)] (by simp[All2,ak,aD]) (by decide) ?_
   rintro p hp' x y hx hy
   simp only[List.mem_cons,List.not_mem_nil,or_false] at hp'
   rcases hp' with rfl | rfl | rfl | rfl | rfl | rfl | rfl | rfl | rfl | rfl | rfl | rfl | rfl | rfl | rfl | rfl | rfl | rfl | rfl | rfl | rfl | rfl | rfl | rfl | rfl | rfl | rfl | rfl | rfl<;>(simp at hx hy;subst hx;subst hy;refine eo rfl rfl rfl rfl ?_ ?_ ?_<;>simp[ak,aD,ae,eS,si]<;>omega)
  ·have:=f1.1;first | (simp;omega) | omega
  ·simp[H.get_put,show ¬i=g1.nx+14 by omega,show ¬i=g1.nx+16 by omega];rw[f1.2 i hi]
  ·simp[H.get_put,show ¬g.nx=g1.nx+14 by omega,show ¬g.nx=g1.nx+16 by omega,k2]
  ·repeat rw[if_neg (by omega)]
  ·simp[H.get_put]
  ·simp[H.get_put]
  ·simp[St,sx,h2,h3]
 rintro t df g2 ⟨rfl,f2,p',q',hpq,k2,k3,k5,k6,h2,h3,h5,h6,-⟩
 have kf:=kk _ f2
 have ef:oP false .bool (.bool false) (.bool true)=.val (.bool false):=rfl
 have et:oP false .bool (.bool true) (.bool true)=.val (.bool true):=rfl
 by_cases c1:a1*b2=b1*a2
 ·have hp0:p=0:=by rw[hp,S.aU,if_pos c1]
  rw[decide_eq_true c1] at eqm
  rw[hp0] at kf
  simp only[sz,simprocAttr,h2,h3,h5,h6,k2,k3,k5,k6,n1,n2,eb,ld,eqm]
  exact kf
 ·rw[decide_eq_false c1] at eqm
  by_cases c2:a1*b2<b1*a2
  ·have hp0:p = -1:=by rw[hp,S.aU,if_neg c1,if_pos c2]
   rw[decide_eq_true c2] at kl
   rw[hp0] at kf
   simp only[sz,simprocAttr,h2,h3,h5,h6,k2,k3,k5,k6,n1,n2,n3,eb,ld,eqm,kl,et]
   exact kf
  ·have hp0:p=1:=by rw[hp,S.aU,if_neg c1,if_neg c2]
   rw[decide_eq_false c2] at kl
   rw[hp0] at kf
   simp only[sz,simprocAttr,h2,h3,h5,h6,k2,k3,k5,k6,n1,n2,n3,eb,ld,eqm,kl,ef]
   exact kf
theorem AM (d:Nat)(a b:AV)(g:G):∃v,(I C0).call d N.aP [a,b] g=.ok v g:=by
 have key:=jA (C:=C0) (d:=d) (f:=N.aP) («as»:=[a,b]) (g:=g) (K:=fun v g'=>g'=g) po (by simp[fS]) ?_
 ·cases hc:(I C0).call d N.aP [a,b] g with
  | fail=>rw[hc] at key;exact key.elim
  | ok v g'=>rw[hc] at key;exact ⟨v,by rw[show g'=g from key]⟩
 have e:oP true (.iface true) .nili .nili=.val (.bool false):=rfl
 simp only[fS,sx,rL]
 simp only[sz,simprocAttr,e]
theorem DC {d:Nat}{g:G}{fn:Nat}{a a':List AV}{x:Int}(hd:0<d)(hs:Hx.snap g.h d ay (.clo fn [] a)=some (.clo fn [] a'))(hc:∀(g:G) (K:AV->G->Prop) (D:ADf->Prop),(∀g',Fr g g'->K (.int .i64 x) g')->(cj C0 (I C0) (d+1) (.clo fn [] a') [] g).sat K g D) :
  ac C0 d N.aR [.clo fn [] a] g=.val (.tup [.int .i64 x,.int .i64 0]):=by
 have key:∃r,ac C0 d N.aR [.clo fn [] a] g=.val r/\mN (One x) (One (0:Int)) NoP 0 .nil r:=by
  rw[pE]
  refine aR rt (xs:=[.clo fn [] a']) (by simp only[aE,hs]) (by simp[g_]) (bz (m:=2) (aM _) (aM _) (by decide) (by decide)) (by decide) hd ?_
  simp only[sz,simprocAttr,g_,jz]
  rw[tU (f:=N.aP) (first:=[]) (cap:=[.hptr 0 0 0 0,.hptr 1 0 0 0]) (by simp[sx])]
  simp only[sz,simprocAttr,AZ,BE]
  refine hc _ _ _ fun g2 fr2=>?_
  have k0:g2.h.get 0=.cells 1 [[.int .i64 0]] 0 false false:=by rw[fr2.2 0 (by simp[sx])];simp[sx,H.get_put]
  have k1:g2.h.get 1=.cells 1 [[.int .i64 0]] 0 false false:=by rw[fr2.2 1 (by simp[sx])];simp[sx]
  simp only[sz,simprocAttr,k0,k1]
  obtain ⟨v,hg1⟩:=AM (d+1) (.hptr 0 0 0 0) (.hptr 1 0 0 0) ((g2.put 0 (.cells 1 [[.int .i64 x]] 0 false false)).put 1 (.cells 1 [[.int .i64 0]] 0 false false))
  refine v_ hg1 ?_
  simp only[sx,sy,↓reduceIte,Nat.reduceEqDiff,Nat.reduceAdd,Nat.reduceLeDiff]
  exact ⟨NoP,_,_,rfl,aC.2 rfl,aC.2 rfl⟩
 obtain ⟨r,h1,a,b,rfl,h2,h3⟩:=key
 have h2:=aC.1 h2
 injection h2 with h2
 have h3:=aC.1 h3
 injection h3 with h3
 rw[h1,h2,h3]
theorem yT (d:Nat)(a b c:AV)(g:G):cj C0 (I C0) d (.clo N.bm [] [a,b,c]) [] g=orF ((I C0).call d N.bm [a,b,c] g):=by kernel_rfl
theorem GN {d a1 a2 b1 b2:Nat}{g:G}(hd:0<d)(l1:a1<=4611686018427387903)(l2:a2<=4611686018427387903)(l3:b1<=4611686018427387903)(l4:b2<=4611686018427387903)(p2:0<a2)(p4:0<b2)(g1:Nat.gcd a1 a2=1)(g2:Nat.gcd b1 b2=1) :
  ac C0 d N.aF [.agg [.int .i64 (a1:Int),.int .i64 (a2:Int)],.agg [.int .i64 (b1:Int),.int .i64 (b2:Int)]] g=.val (.tup [.int .i64 (S.aU (a1*b2) (b1*a2)),.int .i64 0]):=by
 have kb:∀(d:Nat) (g:G),0<d->ac C0 d N.aO [.agg [.int .i64 (a1:Int),.int .i64 (a2:Int)],.agg [.int .i64 (b1:Int),.int .i64 (b2:Int)],.clo 72 [] []] g=.val (.tup [.int .i64 (S.aU (a1*b2) (b1*a2)),.int .i64 0]):=fun d g hd=>by
  have key:∃z,ac C0 d N.aO [.agg [.int .i64 (a1:Int),.int .i64 (a2:Int)],.agg [.int .i64 (b1:Int),.int .i64 (b2:Int)],.clo 72 [] []] g=.val z/\mN (One (S.aU (a1*b2) (b1*a2))) (One (0:Int)) NoP 0 .nil z:=by
   rw[qe]
   refine aR sw (xs:=[.agg [.int .i64 (a1:Int),.int .i64 (a2:Int)],.agg [.int .i64 (b1:Int),.int .i64 (b2:Int)],.clo 72 [] []]) rfl (by simp[i_]) (bz (m:=2) (aM _) (aM _) (by decide) (by decide)) (by decide) hd ?_
   have hbx:∀g,Ax (.clo 72 [] []) g=.upd (.hptr g.nx 0 0 0) (g.new (.cells 1 [[.clo 72 [] []]] 0 false false)):=fun g=>rfl
   have c1:∀g,ac C0 (d+1) N.af [.agg [.int .i64 (a1:Int),.int .i64 (a2:Int)]] g=.val (.int .i64 0):=fun g=>oB (Nat.succ_pos d) l1 p2 l2 g1
   have c2:∀g,ac C0 (d+1) N.af [.agg [.int .i64 (b1:Int),.int .i64 (b2:Int)]] g=.val (.int .i64 0):=fun g=>oB (Nat.succ_pos d) l3 p4 l4 g2
   simp only[i_,kJ,sx,sy,SO.run,↓reduceIte,Nat.reduceEqDiff,Nat.reduceAdd,Nat.reduceLeDiff,hbx,c1,c2,decide_true,Bool.not_true]
   rw[DC (x:=S.aU (a1*b2) (b1*a2)) (a':=[.tptr (Nat.max (d+1) 0) 1 [[.clo 72 [] []]] 0 0,.tptr (Nat.max (d+1) 0) 2 [[.int .i64 (a1:Int),.int .i64 (a2:Int)]] 0 0,.tptr (Nat.max (d+1) 0) 2 [[.int .i64 (b1:Int),.int .i64 (b2:Int)]] 0 0]) (Nat.succ_pos d) ?_ ?_]
   ·simp only[sx,sy,SO.run,↓reduceIte,Nat.reduceEqDiff,Nat.reduceAdd,Nat.reduceLeDiff]
    exact ⟨NoP,_,_,rfl,aC.2 rfl,aC.2 rfl⟩
   ·rw[wB (BG (f:=72) (d+1) 20 (by simp[sx,H.get_put])) (qF (a:=(a1:Int)) (b:=(a2:Int)) (d+1) 20 (by simp[sx,H.get_put])) (qF (a:=(b1:Int)) (b:=(b2:Int)) (d+1) 20 (by simp[sx,H.get_put]))]
   ·intro g K D kk
    rw[yT]
    refine l8 qf (by simp[gx]) ?_
    simp only[gx,sx,sy,SO.run,↓reduceIte,Nat.reduceEqDiff,Nat.reduceAdd,Nat.reduceLeDiff,cZ]
    refine Hi (Nat.succ_pos _) l1 l2 l3 l4 fun g' hf=>?_
    simp only[sx,sy,SO.run,↓reduceIte,Nat.reduceEqDiff,Nat.reduceAdd,Nat.reduceLeDiff]
    exact kk g' hf
  obtain ⟨z,h1,a,b,rfl,h2,h3⟩:=key
  have h2:=aC.1 h2
  injection h2 with h2
  have h3:=aC.1 h3
  injection h3 with h3
  rw[h1,h2,h3]
 have key:∃r,ac C0 d N.aF [.agg [.int .i64 (a1:Int),.int .i64 (a2:Int)],.agg [.int .i64 (b1:Int),.int .i64 (b2:Int)]] g=.val r/\mN (One (S.aU (a1*b2) (b1*a2))) (One (0:Int)) NoP 0 .nil r:=by
  rw[uH]
  refine aR yD (xs:=[.agg [.int .i64 (a1:Int),.int .i64 (a2:Int)],.agg [.int .i64 (b1:Int),.int .i64 (b2:Int)]]) rfl (by simp[pM]) (bz (m:=2) (aM _) (aM _) (by decide) (by decide)) (by decide) hd ?_
  have e1:=fun g=>kb (d+1) g (Nat.succ_pos d)
  simp only[pM,pZ,sx,sy,SO.run,↓reduceIte,Nat.reduceEqDiff,Nat.reduceAdd,Nat.reduceLeDiff,e1]
  exact ⟨NoP,_,_,rfl,aC.2 rfl,aC.2 rfl⟩
 obtain ⟨r,h1,a,b,rfl,h2,h3⟩:=key
 have h2:=aC.1 h2
 injection h2 with h2
 have h3:=aC.1 h3
 injection h3 with h3
 rw[h1,h2,h3]
theorem F6 {d:Nat}{g:G}{c s w:Nat}(hd:0<d)(hc:c<=4611686018427387903)(hs0:0<s)(hs:s<=4611686018427387903)(hw0:0<w)(hw:w<=4611686018427387903) :
  ac C0 d N.aw [.agg [.int .i64 (S.ak s w).1,.int .i64 (S.ak s w).2],.agg [.int .i64 (S.ak c s).1,.int .i64 (S.ak c s).2]] g=.val (.tup [.agg [.int .i64 (S.ak c w).1,.int .i64 (S.ak c w).2],.int .i64 0]):=by
 obtain ⟨hl,c1,c2,p1,p2,l1,l2,l3,l4,q1,q2,g0,h0⟩:=FF hs0 hw0 (a1:=c / Nat.gcd c s) rfl (a2:=s / Nat.gcd c s) rfl (b1:=s / Nat.gcd s w) rfl (b2:=w / Nat.gcd s w) rfl rfl rfl
 have key:∃r,ac C0 d N.aw [.agg [.int .i64 (S.ak s w).1,.int .i64 (S.ak s w).2],.agg [.int .i64 (S.ak c s).1,.int .i64 (S.ak c s).2]] g=.val r/\mN (Agg (S.ak c w)) (One (0:Int)) NoP 0 .nil r:=by
  rw[uO]
  refine aR yg (xs:=[.agg [.int .i64 (S.ak s w).1,.int .i64 (S.ak s w).2],.agg [.int .i64 (S.ak c s).1,.int .i64 (S.ak c s).2]]) rfl (by simp[pk]) (bz (m:=2) (bm _) (aM _) (by decide) (by decide)) (by decide) hd ?_
  have e1:∀g,ac C0 (d+1) N.aK [.agg [.int .i64 (S.ak s w).1,.int .i64 (S.ak s w).2],.agg [.int .i64 (S.ak c s).1,.int .i64 (S.ak c s).2],.clo 77 [] []] g=.val (.tup [.agg [.int .i64 (S.ak c w).1,.int .i64 (S.ak c w).2],.int .i64 0]):=fun g =>
   GP (Nat.succ_pos d) (fun d g hd=>oB hd (by omega) p2 (by omega) c2) (fun d g hd=>oB hd (by omega) p1 (by omega) c1) fun d g hd=>by
    rw[hl,Nat.mul_comm (c / Nat.gcd c s / _),Nat.mul_comm (s / Nat.gcd c s / _)]
    rw[Nat.mul_comm] at q1 q2
    exact zc hd rfl rfl h0 g0 (by omega) (by omega) (by omega) (by omega) (by omega) (by omega)
  simp only[pk,pW,sx,sy,SO.run,↓reduceIte,Nat.reduceEqDiff,Nat.reduceAdd,Nat.reduceLeDiff,e1]
  exact ⟨NoP,_,_,rfl,d_.2 rfl,aC.2 rfl⟩
 obtain ⟨r,h1,a,b,rfl,h2,h3⟩:=key
 have h3:=aC.1 h3
 injection h3 with h3
 rw[h1,d_.1 h2,h3]
theorem IQ {d:Nat}{g:G}{a b:Int}(hd:0<d):ac C0 d N.aC [.int .i64 a,.int .i64 b] g=.val (.agg [.int .i64 a,.int .i64 b]):=by
 have key:∃r,ac C0 d N.aC [.int .i64 a,.int .i64 b] g=.val r/\Agg ((a,b):QI) NoP 0 .nil r:=by
  rw[uR]
  refine aR yU (xs:=[.int .i64 a,.int .i64 b]) rfl (by simp[pH]) (bm _) (by decide) hd ?_
  simp only[sz,simprocAttr,pH,qj]
  exact ⟨NoP,d_.2 rfl⟩
 obtain ⟨r,h1,h2⟩:=key
 rw[h1,d_.1 h2]
def QpV (q:QI):VS:=fun P k h p=>(∃id,p=.hptr id 0 0 0/\P id/\h.get id=.cells 2 [[.int .i64 q.1,.int .i64 q.2]] 0 false false)\/∃t,p=.tptr t 2 [[.int .i64 q.1,.int .i64 q.2]] 0 0/\t<=k
def IqV (q:QI):VS:=fun P k h v=>∃p,v=.clo N.ak [] [p]/\QpV q P k h p
theorem GV {q:QI}{P:Nat->Prop}{k:Nat}{h:H}{p:AV}(d j:Nat)(r:QpV q P k h p):∃p',Hx.snap h d (j+3) p=some p'/\QpV q NoP (max k d) .nil p':=by
 rcases r with ⟨id,rfl,-,hg⟩ | ⟨t,rfl,ht⟩
 ·exact ⟨_,qF d j hg,.inr ⟨_,rfl,by show max d 0<=_;omega⟩⟩
 ·exact ⟨_,rfl,.inr ⟨t,rfl,by omega⟩⟩
theorem Il (q:QI):Snb (IqV q) 4:=by
 refine ⟨fun {P k h v j} d r hn=>?_,fun {k h v j} r hn=>?_⟩
 ·obtain ⟨p,rfl,r1⟩:=r
  obtain ⟨j,rfl⟩:∃i,j=i+4:=⟨j - 4,by omega⟩
  obtain ⟨p',e1,s1⟩:=GV d j r1
  refine ⟨.clo N.ak [] [p'],?_,p',rfl,s1⟩
  show (match aE (Hx.snap h d (j+3)) [],aE (Hx.snap h d (j+3)) [p] with | some as',some cs=>some (AV.clo N.ak as' cs) | _,_=>none)=_
  simp only[aE,e1]
 ·obtain ⟨p,rfl,r1⟩:=r
  obtain ⟨j,rfl⟩:∃i,j=i+4:=⟨j - 4,by omega⟩
  rcases r1 with ⟨id,rfl,hP,-⟩ | ⟨t,rfl,ht⟩
  ·exact hP.elim
  exact ⟨Nat.max t 0,rfl,by show max t 0<=k;omega⟩
theorem H4 {d:Nat}{g:G}{q:QI}(hd:0<d):ac C0 d N.ay [.agg [.int .i64 q.1,.int .i64 q.2]] g=.val (.clo N.ak [] [.tptr 0 2 [[.int .i64 q.1,.int .i64 q.2]] 0 0]):=by
 have key:∃r,ac C0 d N.ay [.agg [.int .i64 q.1,.int .i64 q.2]] g=.val r/\IqV q NoP 0 .nil r:=by
  rw[pO]
  refine aR ri (xs:=[.agg [.int .i64 q.1,.int .i64 q.2]]) rfl (by simp[ij]) (Il q) (by decide) hd ?_
  simp only[sz,simprocAttr,ij,jx]
  exact ⟨fun _=>True,_,rfl,.inl ⟨0,rfl,trivial,by simp[sx]⟩⟩
 obtain ⟨r,h1,p,rfl,h2⟩:=key
 rcases h2 with ⟨id,rfl,hP,-⟩ | ⟨t,rfl,ht⟩
 ·exact hP.elim
 rw[h1,show t=0 by omega]
theorem CX (d:Nat)(a b p:AV)(g:G):cj C0 (I C0) d (.clo N.ak [] [p]) [a,b] g=orF ((I C0).call d N.ak [a,b,p] g):=by kernel_rfl
theorem G9 {d:Nat}{g:G}{q:QI}{K:AV->G->Prop}{D:ADf->Prop}(kk:∀g',Fr g g'->(∀i∈g'.lg,i∈g.lg\/g.nx<=i)->K (.bool true) g') :
  (cj C0 (I C0) d (.clo N.ak [] [.tptr 0 2 [[.int .i64 q.1,.int .i64 q.2]] 0 0]) [.agg [.int .i64 q.1,.int .i64 q.2],.int .i64 0] g).sat K g D:=by
 rw[CX]
 refine l8 pz (by simp[fH]) ?_
 simp only[fH,ip,sx,sy,SO.run,↓reduceIte,Nat.reduceEqDiff,Nat.reduceAdd,Nat.reduceLeDiff,cZ,HI,decide_true]
 exact kk _ ⟨by simp,fun i hi=>by simp[H.get_put,show ¬i=g.nx by omega]⟩ (fun i hi=>by simp at hi;rcases hi with rfl | hi;exact .inr (Nat.le_refl _);exact .inl hi)
def S.bm (e f:List Int)(i:Nat):Bool:=decide (0<=f[i]?.getD 0)&&decide (0<=e[i]?.getD 0)&&!decide (e[i]?.getD 0=f[i]?.getD 0)
def S.aQ (e f:List Int)(j:Nat):Bool:=(List.range j).any (S.bm e f)
theorem zU (e f:List Int)(j:Nat):S.aQ e f (j+1)=(S.aQ e f j || S.bm e f j):=by
 rw[S.aQ,List.range_succ,List.any_append];simp[S.aQ]
theorem Ej {e f out:List Int}(hl:out.length=e.length)(h:S.aQ e f f.length=true):TgI e f f.length out false:=by
 rw[S.aQ,List.any_eq_true] at h
 obtain ⟨i,hi,hc⟩:=h
 simp only[S.bm,Bool.and_eq_true,decide_eq_true_eq,Bool.not_eq_true',decide_eq_false_iff_not] at hc
 exact .inr ⟨rfl,hl,i,List.mem_range.1 hi,hc.1.1,hc.1.2,hc.2⟩
theorem z9 {e f out:List Int}(hl:out.length=e.length)(hlf:f.length=e.length)(he:∀x∈e,-1<=x)(hf:∀x∈f,-1<=x)(ho:∀i,i<e.length->out[i]?.getD 0=max (e[i]?.getD 0) (f[i]?.getD 0))(h:S.aQ e f f.length=false):TgI e f f.length out true:=by
 rw[S.aQ,List.any_eq_false] at h
 have hc:∀i,i<f.length->0<=f[i]?.getD 0->e[i]?.getD 0<0\/e[i]?.getD 0=f[i]?.getD 0:=fun i hi h0=>by
  have:=h i (List.mem_range.2 hi)
  simp only[S.bm,Bool.and_eq_true,decide_eq_true_eq,Bool.not_eq_true',decide_eq_false_iff_not,not_and,Decidable.not_not] at this
  by_cases h1:0<=e[i]?.getD 0
  ·exact .inr (this ⟨h0,h1⟩)
  ·exact .inl (by omega)
 refine .inl ⟨rfl,hl,fun i=>?_,hc⟩
 by_cases hi:i<e.length
 ·rw[ho i hi]
  obtain ⟨x,hx⟩:∃x,e[i]?=some x:=⟨_,List.getElem?_eq_getElem hi⟩
  obtain ⟨y,hy⟩:∃y,f[i]?=some y:=⟨_,List.getElem?_eq_getElem (by omega)⟩
  have hx1:=he x (List.mem_of_getElem? hx)
  have hy1:=hf y (List.mem_of_getElem? hy)
  have:=hc i (by omega)
  rw[hx,hy] at this ⊢
  simp only[Option.getD_some] at this ⊢
  by_cases h0:0<=y
  ·rw[if_pos ⟨by omega,h0⟩]
   have:=this h0
   omega
  ·rw[if_neg fun hh=>h0 hh.2];omega
 ·rw[List.getElem?_eq_none (by omega),List.getElem?_eq_none (l:=e) (by omega),List.getElem?_eq_none (l:=f) (by omega)]
  simp
theorem Bi {n:Net}{e:List Int}(h:S.aq n e=true){i:Nat}{x c:Int}(hx:e[i]?=some x)(hc:(S.aa n)[i]?=some c):-1<=x/\x<c:=by
 simp only[S.aq,Bool.and_eq_true,decide_eq_true_eq,List.all_eq_true,List.mem_range] at h
 have:=h.2 i (List.getElem?_eq_some_iff.1 hx).1
 rw[hx,hc] at this
 simpa using this
theorem FG {n:Net}{e f out:List Int}(he:S.aq n e=true)(hf:S.aq n f=true)(hl:out.length=e.length)(ho:∀i,i<e.length->out[i]?.getD 0=max (e[i]?.getD 0) (f[i]?.getD 0)):S.aq n out=true:=by
 have l1:=(fC he).1
 have l2:=(fC hf).1
 simp only[S.aq,Bool.and_eq_true,decide_eq_true_eq,List.all_eq_true,List.mem_range]
 refine ⟨by omega,fun i hi=>?_⟩
 obtain ⟨x,hx⟩:∃x,e[i]?=some x:=⟨_,List.getElem?_eq_getElem (by omega)⟩
 obtain ⟨y,hy⟩:∃y,f[i]?=some y:=⟨_,List.getElem?_eq_getElem (by omega)⟩
 obtain ⟨c,hc⟩:∃c,(S.aa n)[i]?=some c:=⟨_,List.getElem?_eq_getElem (by rw[aW];omega)⟩
 have h1:=Bi he hx hc
 have h2:=Bi hf hy hc
 rw[ho i (by omega),hx,hy,hc]
 simp only[Option.getD_some]
 omega
theorem ug {n:Net}{p q:Nat->Bool}:∀j,(∀w,w<j->p w=q w)->S.an n p j=S.an n q j
 | 0,_=>rfl
 | j+1,h=>by rw[S.an,S.an,ug j fun w hw=>h w (by omega),h j (by omega)]
theorem wc {n:Net}(hr:NR n){p q:Nat->Bool}:∀j,(∀w,w<j->p w=true->q w=true)->S.an n p j<=S.an n q j
 | 0,_=>Int.le_refl _
 | j+1,h=>by
  have ih:=wc hr (p:=p) (q:=q) j fun w hw=>h w (by omega)
  have hw:=(pi hr (uk (fun c hc=>(hr.cs c hc).1) (j:Int))).1
  rw[S.an,S.an]
  cases hp:p j with
  | true=>rw[h j (by omega) hp];simp;omega
  | false =>
   cases q j with
   | true=>simp;omega
   | false=>simpa using ih
theorem Ha {n:Net}(hr:NR n)(e f:List Int):S.bc n e f<=S.aT n e:=wc hr _ fun w _ h=>by
 simp only[S.pb,Bool.and_eq_true] at h;exact h.1
theorem ur {n:Net}{p:Nat->Bool}:∀j,(∀w,w<j->p w=false)->S.an n p j=0
 | 0,_=>rfl
 | j+1,h=>by rw[S.an,ur j fun w hw=>h w (by omega),h j (by omega)];simp
theorem AL {n:Net}{e f out:List Int}(hl:f.length=e.length)(h:TgI e f f.length out false):S.bc n e f=0:=ur _ fun w _=>FY hl h
theorem C5 {n:Net}{e f out:List Int}(hl:f.length=e.length)(h:TgI e f f.length out true):S.aT n out=S.bc n e f:=ug _ fun w _=>GK hl h
theorem IC {c s w:Nat}(hw:0<w)(h:c<=s):∃u u' v v':Nat,S.ak c w=((u:Int),(u':Int))/\S.ak s w=((v:Int),(v':Int))/\Nat.gcd u u'=1/\Nat.gcd v v'=1/\0<u'/\0<v'/\u<=c/\u'<=w/\v<=s/\v'<=w/\u*v'<=v*u':=by
 have p1:0<Nat.gcd c w:=Nat.gcd_pos_of_pos_right c hw
 have p2:0<Nat.gcd s w:=Nat.gcd_pos_of_pos_right s hw
 have e1:=Nat.div_mul_cancel (Nat.gcd_dvd_left c w)
 have e2:=Nat.div_mul_cancel (Nat.gcd_dvd_right c w)
 have e3:=Nat.div_mul_cancel (Nat.gcd_dvd_left s w)
 have e4:=Nat.div_mul_cancel (Nat.gcd_dvd_right s w)
 refine ⟨c / Nat.gcd c w,w / Nat.gcd c w,s / Nat.gcd s w,w / Nat.gcd s w,rfl,rfl,Nat.coprime_div_gcd_div_gcd p1,Nat.coprime_div_gcd_div_gcd p2,Nat.div_pos (Nat.gcd_le_right c hw) p1,Nat.div_pos (Nat.gcd_le_right s hw) p2,Nat.div_le_self _ _,Nat.div_le_self _ _,Nat.div_le_self _ _,Nat.div_le_self _ _,?_⟩
 generalize Nat.gcd c w=x at *
 generalize Nat.gcd s w=y at *
 generalize c / x=u at *
 generalize w / x=u' at *
 generalize s / y=v at *
 generalize w / y=v' at *
 refine Nat.le_of_mul_le_mul_right (c:=x*y) ?_ (Nat.mul_pos p1 p2)
 have h1:u*v'*(x*y)=(u*x)*(v'*y):=by rw[Nat.mul_mul_mul_comm]
 have h2:v*u'*(x*y)=(v*y)*(u'*x):=by rw[Nat.mul_comm x y,Nat.mul_mul_mul_comm]
 rw[h1,h2,e1,e2,e3,e4]
 exact Nat.mul_le_mul_right _ h
theorem Hq {a b:Nat}(h:a<=b):S.aU a b<=0:=by
 unfold S.aU
 split
 ·omega
 ·rw[if_pos (by omega)];decide
def S.bk (xs ys zs:Nat):List Nat:=[xs ||| ys ||| zs,zs,xs ||| zs,ys ||| zs]
def S.wt (n:Net)(w:Nat):Int:=S.aO n (S.ap (S.aa n) (w:Int))
structure BeJ (g0:G) (w m b:Int) (h:H):Prop where
 fr:∀i,i<g0.nx->i≠1->i≠5->i≠6->h.get i=g0.h.get i
 h1:h.get 1=.cells 1 [[.int .i64 w]] 0 false false
 h5:h.get 5=.cells 1 [[.int .i64 m]] 0 false false
 h6:h.get 6=.cells 1 [[.int .i64 b]] 0 false false
def S.bE (n:Net)(xs ys zs i w:Nat):Int:=S.bC n ((S.bk xs ys zs)[i]?.getD 0) w
structure DpM (n:Net) (xs ys zs mb j k:Nat) (h:H):Prop where
 hm:∀i,i<4->∃L:List (Int×Int),h.get (mb+i)=.map (mcl ik L)/\∀K,mgt L K=S.bG n ((S.bk xs ys zs)[i]?.getD 0) K j+if i<k/\S.bE n xs ys zs i j=K then S.wt n j else 0
structure DpK (g0:G) (mb:Nat) (g:G):Prop where
 nx:g0.nx<=g.nx
 fr:∀i,(i<mb\/mb+4<=i)->i<g0.nx->g.h.get i=g0.h.get i
set_option maxRecDepth 20000 in
structure DpL (n:Net) (U V:AV) (g:G):Prop where
 u:∃rows,Own g 1 U 1 rows/\All2 (Rp.rp NoP 0 .nil) ((List.range (S.aC n)).map fun w:Nat=>S.ap (S.aa n) (w:Int)) rows
 v:Own g 1 V 1 ((List.range (S.aC n)).map fun w:Nat=>[AV.int .i64 (S.aO n (S.ap (S.aa n) (w:Int)))])
structure DpS (n:Net) (xs ys zs:Nat) (b a3 a4:AV) (g:G):Prop where
 h1:g.h.get 1=.cells 1 [[.bool false]] 0 false false
 h2:g.h.get 2=.cells 1 [[.int .i64 0]] 0 false false
 h3:g.h.get 3=.cells 4 [[.int .i64 n.grain,b,a3,a4]] 0 false false
 h4:g.h.get 4=.cells 4 [[.int .u64 (((S.bk xs ys zs)[0]?.getD 0:Nat):Int),.int .u64 (((S.bk xs ys zs)[1]?.getD 0:Nat):Int),.int .u64 (((S.bk xs ys zs)[2]?.getD 0:Nat):Int),.int .u64 (((S.bk xs ys zs)[3]?.getD 0:Nat):Int)]] 0 false false
 h9:g.h.get 9=.cells 4 [[.hmap 5,.hmap (5+1),.hmap (5+2),.hmap (5+3)]] 0 false false
set_option maxRecDepth 20000 in
structure DpJ (g0:G) (n:Net) (xs ys zs j:Nat) (h:H):Prop where
 fr:∀i,i<10->(i<5\/9<=i)->h.get i=g0.h.get i
 m:DpM n xs ys zs 5 j 0 h
theorem za (g:G):ac C0 1 N.br [] g=.val (.bool true):=by kernel_rfl
def LCh (w z u:AV):List (Nat×AV):=[(7,.hptr 3 0 0 0),(8,w),(9,z),(10,.hptr 4 0 0 0),(11,.int .i64 0),(12,.hptr 5 0 0 0),(14,u)]
theorem E9 {w z u v:AV}{s:Nat}{t:T}(hs:s=6\/15<=s)(h:St t (LCh w z u)):St (gq t s v) (LCh w z u):=by
 obtain ⟨h7,h8,h9,h10,h11,h12,h14,-⟩:=h
 refine ⟨?_,?_,?_,?_,?_,?_,?_,trivial⟩<;>rw[gS,if_neg (by omega)]<;>assumption
theorem AI {b:Nat}{e f:List Int}{w z u c13:AV}{Q:QT}{t:T}{g:G}(he:SlR NoP 0 .nil e w)(hf:SlR NoP 0 .nil f z)(hl:f.length=e.length)(hlb:e.length<=8)
  (h0:Own g b u 1 (e.map ci)) (ht:St t (LCh w z u)) (h13:tat t 13=c13) (h15:tat t 15=.bool false) (h47:tat t 47=z) (h48:tat t 48=.int .i64 (f.length:Int)) (h49:tat t 49=.int .i64 0) (hb:b<=g.nx)
  (fin:∀(t:T) (g':G) (out:List Int),St t (LCh w z u)->tat t 13=c13->tat t 15=.bool (S.aQ e f f.length)->Own g' b u 1 (out.map ci)->out.length=e.length->(∀i,i<e.length->out[i]?.getD 0=max (e[i]?.getD 0) (f[i]?.getD 0))->(∀i,i<b->g'.h.get i=g.h.get i)->b<=g'.nx->Q (.exit 0) t [] g'):wpL (wp C0 1 none da) Q t [] g:=by
 have re:∀h,ah h 1 w=some (e.map ci):=fun h=>(he.tree (h':=h) (Nat.le_refl 0):SlR NoP 0 h e w).ints
 have rf:∀h,ah h 1 z=some (f.map ci):=fun h=>(hf.tree (h':=h) (Nat.le_refl 0):SlR NoP 0 h f z).ints
 simp only[da]
 refine bf (m:=f.length) (by omega) (fun j t df g'=>df=[]/\St t (LCh w z u)/\tat t 13=c13/\tat t 15=.bool (S.aQ e f j)/\tat t 47=z/\(∀i,i<b->g'.h.get i=g.h.get i)/\b<=g'.nx/\∃out:List Int,Own g' b u 1 (out.map ci)/\out.length=e.length/\∀i,i<e.length->out[i]?.getD 0=if i<j then max (e[i]?.getD 0) (f[i]?.getD 0) else e[i]?.getD 0)
  ⟨rfl,ht,h13,h15,h47,fun _ _=>rfl,hb,e,h0,rfl,fun i _=>by simp⟩ h49 h48 (by decide) ?_ ?_ ?_
 ·rintro j t df g' v s hs ⟨a1,a2,a3,a4,a5,a6⟩
  refine ⟨a1,E9 (by omega) a2,?_,?_,?_,a6⟩<;>rcases hs with rfl | rfl | rfl<;>simp[sx,a3,a4,a5]
 ·rintro j t df g' hj ⟨rfl,ht,h13,h15,h47,hfr,hbn,out,hO,hol,ho⟩ h49 h48
  obtain ⟨y,hy,-,-⟩:=aw hj
  obtain ⟨x,hx,-,-⟩:=aw (l:=e) (j:=j) (by omega)
  have q1:j<(f.map ci).length:=by simpa using hj
  have q2:(f.map ci)[j]?=some (ci y):=by rw[List.getElem?_map,hy];rfl
  have q3:j<(e.map ci).length:=by simp;omega
  have q4:(e.map ci)[j]?=some (ci x):=by rw[List.getElem?_map,hx];rfl
  have hcl:S.bm e f j=(decide (0<=y)&&decide (0<=x)&&!decide (x=y)):=by simp[S.bm,hx,hy]
  refine dk (P:=fun t' df gg=>df=[]/\gg=g'/\St t' (LCh w z u)/\St t' [(13,c13),(15,.bool (S.aQ e f j)),(16,.int .i64 (j:Int)),(17,.int .i64 y),(47,z),(48,.int .i64 (f.length:Int)),(49,.int .i64 (j:Int))]) ?_ ?_
  ·obtain ⟨h7,h8,h9,h10,h11,h12,h14,-⟩:=ht
   simp only[sz,simprocAttr,h47,h49,rf,q1,q2,ci]
   simp[St,LCh,sx,h7,h8,h9,h10,h11,h12,h13,h14,h15,h47,h48,h49]
  clear ht h13 h15 h47 h48 h49
  rintro t df gg ⟨rfl,hgg,⟨h7,h8,h9,h10,h11,h12,h14,-⟩,h13,h15,h16,h17,h47,h48,h49,-⟩
  rw[hgg];clear hgg
  refine dk (P:=fun t' df gg=>df=[]/\gg=g'/\St t' (LCh w z u)/\St t' [(13,c13),(15,.bool (S.aQ e f (j+1))),(16,.int .i64 (j:Int)),(17,.int .i64 y),(47,z),(48,.int .i64 (f.length:Int)),(49,.int .i64 (j:Int))]) ?_ ?_
  ·rw[zU]
   cases hc:S.aQ e f j with
   | true =>
    rw[hc] at h15
    simp only[sz,simprocAttr,h15]
    simp[St,LCh,sx,h7,h8,h9,h10,h11,h12,h13,h14,h16,h17,h47,h48,h49]
   | false =>
    rw[hc] at h15
    rw[hcl]
    by_cases c1:0<=y
    ·by_cases c2:0<=x
     ·by_cases c3:x=y
      ·have d1:decide (x=y)=true:=decide_eq_true c3
       simp only[sz,simprocAttr,h15,h17,h8,h16,re,q3,q4,ci,c1,c2,d1]
       simp[St,LCh,sx,h7,h8,h9,h10,h11,h12,h13,h14,h16,h17,h47,h48,h49]
      ·have d1:decide (x=y)=false:=decide_eq_false c3
       simp only[sz,simprocAttr,h15,h17,h8,h16,re,q3,q4,ci,c1,c2,d1]
       simp[St,LCh,sx,h7,h8,h9,h10,h11,h12,h13,h14,h16,h17,h47,h48,h49]
     ·simp only[sz,simprocAttr,h15,h17,h8,h16,re,q3,q4,ci,c1,c2]
      simp[St,LCh,sx,h7,h8,h9,h10,h11,h12,h13,h14,h16,h17,h47,h48,h49]
    ·simp only[sz,simprocAttr,h15,h17,c1]
     simp[St,LCh,sx,h7,h8,h9,h10,h11,h12,h13,h14,h16,h17,h47,h48,h49]
  clear h7 h8 h9 h10 h11 h12 h13 h14 h15 h16 h17 h47 h48 h49
  rintro t df gg ⟨rfl,hgg,⟨h7,h8,h9,h10,h11,h12,h14,-⟩,h13,h15,h16,h17,h47,h48,h49,-⟩
  rw[hgg];clear hgg
  obtain ⟨o',ho'⟩:∃o',out[j]?=some o':=⟨_,List.getElem?_eq_getElem (by omega)⟩
  have u1:j<(out.map ci).length:=by simp;omega
  have u2:(out.map ci)[j]?=some (ci o'):=by rw[List.getElem?_map,ho'];rfl
  have rO:=hO.rows
  have hry:qH u=true:=Bf rO u1
  simp only[sz,simprocAttr,h14,h16,h17,h8,re,q3,q4,ci,rO,u1,hry]
  refine bL (v:=u) (sz:=1) (n:=1) (i:=j) (off:=0) (x:=.int .i64 (max x y)) (row':=ci (max x y)) hO u2 rfl rfl rfl fun g5 hO5 n5 f5=>?_
  rw[<-List.map_set] at hO5
  simp only[sz,simprocAttr]
  refine ⟨⟨by simp[St,LCh,sx,h7,h8,h9,h10,h11,h12,h14],by simp[sx,h13],by simp[sx,h15],by simp[sx,h47],fun i hi=>?_,by omega,out.set j (max x y),hO5,by simp[hol],fun i hi=>?_⟩,by simp[sx,h49],by simp[sx,h48]⟩
  ·rw[f5 i fun e=>by have:=(hO.lt e).1;omega,hfr i hi]
  ·by_cases e':i=j
   ·subst e'
    rw[List.getElem?_set_self (by omega),if_pos (by omega),hx,hy];rfl
   ·rw[List.getElem?_set_ne (Ne.symm e'),ho i hi]
    have:i<j+1↔i<j:=by omega
    simp only[this]
 ·rintro t df g' ⟨rfl,ht,h13,h15,h47,hfr,hbn,out,hO,hol,ho⟩
  exact fin t g' out ht h13 h15 hO hol (fun i hi=>by rw[ho i hi,if_pos (by omega)]) hfr hbn
theorem H3 (C:Cfg)(t:T)(g:G)(f:Od)(xs:List Od):(SO.foot C t g (.dyn f xs)).sr=[]:=by
 simp only[SO.foot]
 split
 ·rw[aa];split<;>rfl
 ·rfl
theorem Dt {n:Net}{e f out:List Int}{b w z u:AV}{t:T}{g:G}(hm:∀h,Agg n NoP 0 h (.agg [.int .i64 n.grain,b]))(hr:NR n)(he:S.aq n e=true)(hf:S.aq n f=true)(hO:Own g 6 u 1 (out.map ci))(hol:out.length=e.length)(ho:∀i,i<e.length->out[i]?.getD 0=max (e[i]?.getD 0) (f[i]?.getD 0))
  (ht:St t (LCh w z u)) (h13:tat t 13=.int .i64 (S.aK n e f)) (h15:tat t 15=.bool (S.aQ e f f.length))
  (k3:g.h.get 3=.cells 2 [[.int .i64 n.grain,b]] 0 false false) (k4:g.h.get 4=.cells 2 [[.int .i64 (S.aE n e).1,.int .i64 (S.aE n e).2]] 0 false false) (k5:g.h.get 5=.cells 2 [[.int .i64 (S.aB n e f).1,.int .i64 (S.aB n e f).2]] 0 false false) (hnx:6<=g.nx) :
  wp C0 1 none bp (fnQ C0 1 [.tm 6] fun v _=>v=.bool true) t [] g:=by
 obtain ⟨h7,h8,h9,h10,h11,h12,h14,-⟩:=ht
 have hn:=cO.2 hr
 have l1:=fC he
 have l2:=fC hf
 have r1:S.aA n e=0:=jH.2 ⟨hn,he⟩
 have r2:S.aI n [e,f]=0:=rA.2 ⟨hn,he,hf⟩
 have hmb:=jF hr e
 obtain ⟨M,hM⟩:=Int.eq_ofNat_of_zero_le hmb.1
 have hwb:=tx hr
 obtain ⟨W,hW⟩:=Int.eq_ofNat_of_zero_le (show 0<=S.a_ n by omega)
 have hp:S.aE n e=S.ak M W:=by rw[S.aE,if_pos r1,hM,hW];rfl
 have hlp:0<W:=by omega
 have rfi:qH u=qH u:=rfl
 by_cases hM0:M=0
 ·
  have hE:S.aK n e f=7:=by rw[S.aK,if_pos r2,hM,hM0];rfl
  have hp0:(S.aE n e).1=0:=by rw[hp,hM0];simp[S.ak]
  rw[hp0] at k4
  rw[hE] at h13
  simp only[sz,simprocAttr,bp,h11,h10,k4,h13]
 ·have hnm:S.aT n e≠0:=by omega
  have hE:S.aK n e f=0:=by rw[S.aK,if_pos r2,if_neg hnm]
  have hg:S.aB n e f=S.ak (S.bc n e f).toNat M:=by rw[S.aB,if_pos hE,hM];rfl
  have hp0:¬(S.aE n e).1=0:=by
   rw[hp]
   have h1:0<Nat.gcd M W:=Nat.gcd_pos_of_pos_right M hlp
   have h2:0<M / Nat.gcd M W:=Nat.div_pos (Nat.gcd_le_left W (by omega)) h1
   simp only[S.ak];omega
  rw[hE] at h13
  have l12:fU (.cells 2 [[.int .i64 (S.aB n e f).1,.int .i64 (S.aB n e f).2]] 0 false false) 0 0 true 2 0=.val (.agg [.int .i64 (S.aB n e f).1,.int .i64 (S.aB n e f).2]):=rfl
  cases hc:S.aQ e f f.length with
  | true =>
   rw[hc] at h15
   have htg:=Ej hol hc
   have hb:S.bc n e f=0:=AL (by omega) htg
   have hg0:S.aB n e f=(0,1):=by
    rw[hg,hb]
    have:Nat.gcd (0:Int).toNat M=M:=Nat.gcd_zero_left M
    simp only[S.ak,this]
    rw[show M / M=1 from Nat.div_self (by omega)]
    simp
   rw[hg0] at k5
   have ko:∀g,ac C0 1 N.aC [.int .i64 0,.int .i64 1] g=.val (.agg [.int .i64 0,.int .i64 1]):=fun g=>IQ (by decide)
   have hq:=HI 0 1
   simp only[sz,simprocAttr,bp,h11,h10,h12,k4,k5,hp0,h13,h15,ko,hq]
  | false =>
   rw[hc] at h15
   have htg:=z9 hol (by omega) l1.2 l2.2 ho hc
   have hev:=FG he hf hol ho
   have r3:S.aA n out=0:=jH.2 ⟨hn,hev⟩
   have hms:=C5 (n:=n) (by omega) htg
   have hble:=Ha hr e f
   have hbb:=jF hr out
   obtain ⟨B,hB⟩:=Int.eq_ofNat_of_zero_le hbb.1
   have hq:S.aE n out=S.ak B W:=by rw[S.aE,if_pos r3,hB,hW];rfl
   have hgB:S.aB n e f=S.ak B M:=by rw[hg,<-hms,hB];rfl
   have hBM:B<=M:=by omega
   obtain ⟨v1,v2,w1,w2,e1,e2,g1,g2,p1,p2,b1,b2,b3,b4,hle⟩:=IC (w:=W) hlp hBM
   have hl8:=hr.l2
   have hsl:=hO.ints (l:=out) (k:=0) (by omega)
   obtain ⟨u',eu,hsl⟩:=hsl
   injection eu with eu;subst eu
   have kP:ac C0 1 N.aq [.agg [.int .i64 n.grain,b],u] g=.val (.tup [.agg [.int .i64 (v1:Int),.int .i64 (v2:Int)],.int .i64 0]):=by
    rw[xV (by decide) (hm _) hsl,r3,hq,e1]
   have k4':g.h.get 4=.cells 2 [[.int .i64 (w1:Int),.int .i64 (w2:Int)]] 0 false false:=by rw[k4,hp,e2]
   obtain ⟨X,hX⟩:∃X,X=S.aB n e f:=⟨_,rfl⟩
   rw[<-hX] at k5 l12
   have hp0':¬((w1:Int)=0):=by rw[hp,e2] at hp0;exact hp0
   have kC:∀g,ac C0 1 N.aF [.agg [.int .i64 (v1:Int),.int .i64 (v2:Int)],.agg [.int .i64 (w1:Int),.int .i64 (w2:Int)]] g=.val (.tup [.int .i64 (S.aU (v1*w2) (w1*v2)),.int .i64 0]):=fun g=>GN (by decide) (by omega) (by omega) (by omega) (by omega) p1 p2 g1 g2
   have hcmp:=Hq hle
   generalize S.aU (v1*w2) (w1*v2)=cc at kC hcmp
   have kM:∀g,ac C0 1 N.aw [.agg [.int .i64 (w1:Int),.int .i64 (w2:Int)],.agg [.int .i64 X.1,.int .i64 X.2]] g=.val (.tup [.agg [.int .i64 (v1:Int),.int .i64 (v2:Int)],.int .i64 0]):=fun g=>by
    have:=F6 (d:=1) (g:=g) (c:=B) (s:=M) (w:=W) (by decide) (by omega) (by omega) (by omega) hlp (by omega)
    rw[e2,e1,<-hgB,<-hX] at this
    exact this
   have kI:∀g,ac C0 1 N.ay [.agg [.int .i64 (v1:Int),.int .i64 (v2:Int)]] g=.val (.clo N.ak [] [.tptr 0 2 [[.int .i64 (v1:Int),.int .i64 (v2:Int)]] 0 0]):=fun g=>H4 (q:=((v1:Int),(v2:Int))) (by decide)
   have dc:decide (cc<=0)=true:=decide_eq_true hcmp
   simp only[sz,simprocAttr,sf,bp,h7,h11,h10,h12,h13,h14,h15,k3,k4',k5,hp0',kP,kC,kM,kI,l12,dc,show ¬4=g.nx by omega,show ¬5=g.nx by omega,show ¬3=g.nx by omega]
   refine G9 (q:=((v1:Int),(v2:Int))) fun g3 f3 l3=>?_
   simp only[sz,simprocAttr,sf,pB,uS]
   simp only[List.reverse_cons,List.reverse_nil,List.nil_append,List.cons_append]
   exact aX [false,false,false,false,false,false,false,false,false,false,false,false,false,false,false,false,false,false,true,false,false] [] (by simp[All2,ak,aD,H3]) (by decide) (by simp)
theorem ld9 {A:List AV}(h:A.length=9):fU (.cells 9 [A] 0 false false) 0 0 true 9 0=.val (.agg A):=by
 match A,h with
 | [a,b,c,d,e,f,g,h,i],_=>rfl
theorem sB {x:qZ}{u1:AV}{vs us:List UInt8}(hx:Agg x NoP 0 .nil u1)(hv:vs.length=9)(hu:us.length=9):∃g',(I C0).call 1 N.bo [u1,.agg (vs.map u8v),.agg (us.map u8v)] G.empty=.ok (.bool true) g':=by
 obtain ⟨xs,rfl,qx⟩:=hx
 obtain ⟨a1',a2',e1,-⟩:=vI.1 qx
 have hxl:xs.length=3:=by rw[e1];rfl
 clear e1 a1' a2'
 obtain ⟨A,hA⟩:∃A,A=vs.map u8v:=⟨_,rfl⟩
 obtain ⟨B,hB⟩:∃B,B=us.map u8v:=⟨_,rfl⟩
 have hAl:A.length=9:=by rw[hA];simpa using hv
 have hBl:B.length=9:=by rw[hB];simpa using hu
 rw[<-hA,<-hB]
 have key:=jA (C:=C0) (d:=1) (f:=N.bo) («as»:=[.agg xs,.agg A,.agg B]) (g:=G.empty) (K:=fun v g'=>v=.bool true) oQ (by simp[eJ]) ?_
 ·cases hc':(I C0).call 1 N.bo [.agg xs,.agg A,.agg B] G.empty with
  | fail=>rw[hc'] at key;exact key.elim
  | ok v g'=>rw[hc'] at key;exact ⟨g',by rw[show v=.bool true from key]⟩
 simp only[sz,simprocAttr,eJ,uf]
 obtain ⟨g0,hg0⟩:∃g0,g0=((G.empty.new (AObj.cells xs.length [xs] 0 false false)).new (AObj.cells A.length [A] 0 false false)).new (AObj.cells B.length [B] 0 false false):=⟨_,rfl⟩
 rw[<-hg0]
 have f0:g0.h.get 0=.cells 3 [xs] 0 false false:=by rw[hg0,hxl];simp[sx,H.get_put]
 have f1:g0.h.get 1=.cells 9 [A] 0 false false:=by rw[hg0,hAl];simp[sx,H.get_put]
 have f2:g0.h.get 2=.cells 9 [B] 0 false false:=by rw[hg0,hBl];simp[sx]
 have f3:g0.nx=3:=by rw[hg0];simp[sx]
 clear hg0
 have ld0:fU (.cells 3 [xs] 0 false false) 0 0 true 3 0=.val (.agg xs):=by
  match xs,hxl with
  | [a,b,c],_=>rfl
 have lA:=ld9 hAl
 have lB:=ld9 hBl
 simp only[gW]
 refine eR (P:=fun t' df g'=>df=[]/\g'=g0/\St t' [(3,.hptr 0 0 0 0),(4,.hptr 1 0 0 0),(5,.hptr 2 0 0 0)]) ?_ ?_
 ·simp only[sz,simprocAttr,za]
  simp[St,sx]
 rintro t df g1 ⟨rfl,rfl,h3,h4,h5,-⟩
 obtain ⟨rn,en,n,hdr,cn,rfl,hcn⟩:=Gi (g:=g1) (d:=1) (by decide) (BL (P:=NoP) qx g1.h)
 obtain ⟨b,rfl,hNb⟩:=jn.1 hcn
 have hM:∀h,Agg n NoP 0 h (.agg [.int .i64 n.grain,b]):=fun h=>BL hcn h
 have hr:=hdr.nr
 have hl8:=hr.l2
 have hcard:∀x∈n.nodes,0<x.card:=fun x hx=>by have:=hr.card x hx;omega
 refine dk (P:=fun t' df g'=>df=[]/\g'.nx=4/\St t' [(4,.hptr 1 0 0 0),(5,.hptr 2 0 0 0),(7,.hptr 3 0 0 0)]/\g'.h.get 1=.cells 9 [A] 0 false false/\g'.h.get 2=.cells 9 [B] 0 false false/\g'.h.get 3=.cells 2 [[.int .i64 n.grain,b]] 0 false false) ?_ ?_
 ·simp only[sz,simprocAttr,h3,f0,ld0,en]
  simp[St,sx,h4,h5,f1,f2,f3]
 clear f0 f1 f2 f3 h3 h4 h5 en
 rintro t df g2 ⟨rfl,n2,⟨h4,h5,h7,-⟩,f1,f2,f3⟩
 have ld3:fU (.cells 2 [[.int .i64 n.grain,b]] 0 false false) 0 0 true 2 0=.val (.agg [.int .i64 n.grain,b]):=rfl
 refine eR (P:=fun t' df g'=>df=[]/\g'=g2/\∃(e f:List Int) (w z:AV),S.aq n e=true/\S.aq n f=true/\SlR NoP 0 .nil e w/\SlR NoP 0 .nil f z/\St t' [(7,.hptr 3 0 0 0),(8,w),(9,z)]) ?_ ?_
 ·simp only[sz,simprocAttr,sf,h4,h5,h7,f1,f2,f3,lA,lB,ld3]
  rw[hA]
  refine jR (yJ (m:=n) (d:=1) (by decide) hv (hM _) (by omega) hcard) ?_
  rintro w ⟨e,he,hw⟩
  have hw:SlR NoP 0 .nil e w:=IT.sl (k:=0) hw .nil
  simp only[sz,simprocAttr,sf,h5,h7,f1,f2,f3,lB,ld3]
  rw[hB]
  refine jR (yJ (m:=n) (d:=1) (by decide) hu (hM _) (by omega) hcard) ?_
  rintro z ⟨f,hf,hz⟩
  have hz:SlR NoP 0 .nil f z:=IT.sl (k:=0) hz .nil
  simp only[sz,simprocAttr,sf]
  exact ⟨e,f,w,z,he,hf,hw,hz,by simp[St,sx,h7]⟩
 clear h4 h5 h7 f1 f2
 rintro t df g3 ⟨rfl,rfl,e,f,w,z,he,hf,hw,hz,h7,h8,h9,-⟩
 have hn:=cO.2 hr
 have l1:=fC he
 have l2:=fC hf
 have r1:S.aA n e=0:=jH.2 ⟨hn,he⟩
 have kP:∀g,ac C0 1 N.aq [.agg [.int .i64 n.grain,b],w] g=.val (.tup [.agg [.int .i64 (S.aE n e).1,.int .i64 (S.aE n e).2],.int .i64 0]):=fun g=>by rw[xV (by decide) (hM _) (hw.tree (h':=g.h) (Nat.le_refl 0)),r1]
 refine dk (P:=fun t' df g'=>df=[]/\g'.nx=5/\g'.h.get 3=.cells 2 [[.int .i64 n.grain,b]] 0 false false/\g'.h.get 4=.cells 2 [[.int .i64 (S.aE n e).1,.int .i64 (S.aE n e).2]] 0 false false/\St t' [(7,.hptr 3 0 0 0),(8,w),(9,z),(10,.hptr 4 0 0 0),(11,.int .i64 0)]) ?_ ?_
 ·simp only[sz,simprocAttr,h7,h8,f3,ld3,kP]
  simp[St,sx,H.get_put,h7,h8,h9,n2,f3]
 clear h7 h8 h9 f3
 rintro t df g4 ⟨rfl,n4,f3,f4,h7,h8,h9,h10,h11,-⟩
 have kG:∀g,ac C0 1 N.aE [.agg [.int .i64 n.grain,b],w,z] g=.val (.tup [.agg [.int .i64 (S.aB n e f).1,.int .i64 (S.aB n e f).2],.int .i64 (S.aK n e f)]):=fun g=>Cy (by decide) (hM _) (hw.tree (h':=g.h) (Nat.le_refl 0)) (hz.tree (h':=g.h) (Nat.le_refl 0))
 refine dk (P:=fun t' df g'=>df=[]/\g'.nx=6/\g'.h.get 3=.cells 2 [[.int .i64 n.grain,b]] 0 false false/\g'.h.get 4=.cells 2 [[.int .i64 (S.aE n e).1,.int .i64 (S.aE n e).2]] 0 false false/\g'.h.get 5=.cells 2 [[.int .i64 (S.aB n e f).1,.int .i64 (S.aB n e f).2]] 0 false false/\St t' [(7,.hptr 3 0 0 0),(8,w),(9,z),(10,.hptr 4 0 0 0),(11,.int .i64 0),(12,.hptr 5 0 0 0),(13,.int .i64 (S.aK n e f))]) ?_ ?_
 ·simp only[sz,simprocAttr,h7,h8,h9,f3,ld3,kG]
  simp[St,sx,H.get_put,h7,h8,h9,h10,h11,n4,f3,f4]
 clear h7 h8 h9 h10 h11 f3 f4
 rintro t df g5 ⟨rfl,n5,f3,f4,f5,h7,h8,h9,h10,h11,h12,h13,-⟩
 refine dk (P:=fun t' df g'=>df=[]/\Fr g5 g'/\∃u,Own g' 6 u 1 (e.map ci)/\St t' (LCh w z u)/\St t' [(13,.int .i64 (S.aK n e f)),(15,.bool false)]) ?_ ?_
 ·simp only[sz,simprocAttr,h8]
  refine DY hw (by have:=hr.l1;omega) (by omega) fun u g6 hU fr6=>?_
  rw[n5] at hU
  simp only[sz,simprocAttr]
  exact ⟨fr6,u,hU,by simp[St,LCh,sx,h7,h8,h9,h10,h11,h12],by simp[St,sx,h13]⟩
 clear h7 h8 h9 h10 h11 h12 h13
 rintro t df g6 ⟨rfl,fr6,u,hU,ht,h13,h15,-⟩
 have lz:=hz.len
 refine eR (P:=fun t' df g'=>df=[]/\St t' (LCh w z u)/\tat t' 13=.int .i64 (S.aK n e f)/\tat t' 15=.bool (S.aQ e f f.length)/\(∀i,i<6->g'.h.get i=g6.h.get i)/\6<=g'.nx/\∃out:List Int,Own g' 6 u 1 (out.map ci)/\out.length=e.length/\(∀i,i<e.length->out[i]?.getD 0=max (e[i]?.getD 0) (f[i]?.getD 0))) ?_ ?_
 ·refine dk (P:=fun t' df g'=>df=[]/\g'=g6/\St t' (LCh w z u)/\St t' [(13,.int .i64 (S.aK n e f)),(15,.bool false),(47,z),(48,.int .i64 (f.length:Int)),(49,.int .i64 0)]) ?_ ?_
  ·obtain ⟨h7,h8,h9,h10,h11,h12,h14,-⟩:=ht
   simp only[sz,simprocAttr,h9,lz]
   simp[St,LCh,sx,h7,h8,h9,h10,h11,h12,h13,h14,h15]
  clear ht h13 h15
  rintro t df g7 ⟨rfl,rfl,ht,h13,h15,h47,h48,h49,-⟩
  simp only[wL,xy]
  refine AI hw hz (by omega) (by omega) hU ht h13 h15 h47 h48 h49 (by have:=fr6.1;omega) ?_
  intro t' g' out ht h13 h15 hO hol ho hfr hb6
  simp only[l6,if_true]
  refine ⟨trivial,trivial,ht,h13,h15,hfr,hb6,out,hO,hol,ho⟩
 clear ht h13 h15
 rintro t df g7 ⟨rfl,ht,h13,h15,hfr,hnx,out,hO,hol,ho⟩
 refine Dt hM hr he hf hO hol ho ht h13 h15 ?_ ?_ ?_ hnx
 ·rw[hfr 3 (by omega),fr6.2 3 (by omega),f3]
 ·rw[hfr 4 (by omega),fr6.2 4 (by omega),f4]
 ·rw[hfr 5 (by omega),fr6.2 5 (by omega),f5]
end
end Hx
end
section
namespace Hx
open Go Go.RowKit Go.ChangeShapes Go.WideShapes
def pI (P:Program):List Field->Nat->Option Nat
 | [],k=>some k
 | f::fs,k=>if f.offset=k then pI P fs (k+P.cellsOf f.type) else none
def pN (P:Program):Nat->TypeId->Bool
 | 0,_=>false
 | n+1,t=>match P.underlying t with
  | some .bool=>true
  | some (.int _)=>true
  | some (.slice e)=>decide (0<P.cellsOf e)&&pN P n e
  | some (.struct fs)=>(pI P fs.toList 0 == some (P.cellsOf t))&&fs.toList.all (fun f=>pN P n f.type)
  | some (.array m e)=>decide (m*P.cellsOf e=P.cellsOf t)&&pN P n e
  | _=>false
def Sh (P:Program):Nat->TypeId->List AV->Prop
 | 0,_,_=>False
 | n+1,t,xs=>match P.underlying t with
  | some .bool=>∃b,xs=[.bool b]
  | some (.int k)=>∃z,xs=[.int k z]/\(Lit.int k z).wf=true
  | some (.slice e)=>xs=[.nils]\/∃rows,xs=[.tsl 0 (P.cellsOf e) rows]/\rows.length<9223372036854775808/\∀row∈rows,Sh P n e row
  | some (.struct fs)=>∃xss,xs=xss.flatten/\All2 (fun (f:Field) ys=>Sh P n f.type ys) fs.toList xss
  | some (.array m e)=>∃xss:List (List AV),xs=xss.flatten/\xss.length=m/\∀ys∈xss,Sh P n e ys
  | _=>False
def xQ (P:Program)(w:World)(n:Nat)(t:TypeId)(xs:List AV)(cs:List Value):Prop :=
 RVs0 w xs cs/\(∀y∈xs,y.one=true/\Closed y)/\Sh P n t xs
theorem RVs0.append {w:World}{xs ys:List AV}{cs ds:List Value}(h:RVs0 w xs cs)(h':RVs0 w ys ds):RVs0 w (xs++ys) (cs++ds):=by
 refine ⟨by rw[List.length_append,List.length_append,h.1,h'.1],fun i x v hx hv=>?_⟩
 rcases Nat.lt_or_ge i xs.length with hi | hi
 ·rw[List.getElem?_append_left hi] at hx
  rw[List.getElem?_append_left (by rw[<-h.1];exact hi)] at hv
  exact h.2 i x v hx hv
 ·rw[List.getElem?_append_right hi] at hx
  rw[List.getElem?_append_right (by rw[<-h.1];exact hi),<-h.1] at hv
  exact h'.2 _ x v hx hv
theorem Ba (b o n:Nat):(⟨b,o,none⟩:Addr).add n=adr b (o+n):=by
 unfold Addr.add
 split
 ·rename_i h;subst h;rfl
 ·rfl
variable {H:Type}{enc:TypeId×Value->H}{P:Program}{w:World}
theorem vA:∀{fl:List Field} {k K:Nat},pI P fl k=some K->k<=K
 | [],k,K,h=>by injection h with h;omega
 | f::fl,k,K,h=>by
  unfold pI at h
  split at h
  ·have:=vA h;omega
  ·cases h
theorem ER {n:Nat}{cs:List Value}:∀{fl:List Field} {k K:Nat},pI P fl k=some K ->
  (∀f∈fl,∃xs,xQ P w n f.type xs ((cs.drop f.offset).take (P.cellsOf f.type))) ->
  ∃xss,All2 (fun (f:Field) ys=>Sh P n f.type ys) fl xss/\RVs0 w xss.flatten ((cs.drop k).take (K - k))/\∀y∈xss.flatten,y.one=true/\Closed y
 | [],k,K,h,_=>by
  injection h with h;subst h
  exact ⟨[],trivial,by rw[Nat.sub_self,List.take_zero];exact ⟨rfl,fun i x v hx=>by simp at hx⟩,fun y hy=>by simp at hy⟩
 | f::fl,k,K,h,hg=>by
  unfold pI at h
  split at h
  ·rename_i ho
   subst ho
   obtain ⟨xs,h1,h2,h3⟩:=hg f (by simp)
   obtain ⟨xss,a1,a2,a3⟩:=ER h fun f' hf'=>hg f' (by simp[hf'])
   have hle:=vA h
   refine ⟨xs::xss,⟨h3,a1⟩,?_,fun y hy=>?_⟩
   ·have e:(cs.drop f.offset).take (K - f.offset)=(cs.drop f.offset).take (P.cellsOf f.type)++(cs.drop (f.offset+P.cellsOf f.type)).take (K - (f.offset+P.cellsOf f.type)):=by
     rw[show K - f.offset=P.cellsOf f.type+(K - (f.offset+P.cellsOf f.type)) by omega,List.take_add,List.drop_drop]
    rw[e,List.flatten_cons]
    exact h1.append a2
   ·rw[List.flatten_cons,List.mem_append] at hy
    rcases hy with hy | hy
    ·exact h2 y hy
    ·exact a3 y hy
  ·cases h
theorem Bb {n:Nat}{e:TypeId}{cs:List Value}:∀{m k:Nat},
  (∀i,i<m->∃xs,xQ P w n e xs ((cs.drop ((k+i)*P.cellsOf e)).take (P.cellsOf e))) ->
  ∃xss:List (List AV),xss.length=m/\(∀ys∈xss,Sh P n e ys)/\RVs0 w xss.flatten ((cs.drop (k*P.cellsOf e)).take (m*P.cellsOf e))/\∀y∈xss.flatten,y.one=true/\Closed y
 | 0,k,_=>⟨[],rfl,fun y hy=>by simp at hy,by rw[Nat.zero_mul,List.take_zero];exact ⟨rfl,fun i x v hx=>by simp at hx⟩,fun y hy=>by simp at hy⟩
 | m+1,k,hg=>by
  obtain ⟨xs,h1,h2,h3⟩:=hg 0 (by omega)
  rw[Nat.add_zero] at h1
  obtain ⟨xss,a0,a1,a2,a3⟩:=Bb (m:=m) (k:=k+1) fun i hi=>by
   have:=hg (i+1) (by omega)
   rwa [show k+(i+1)=k+1+i by omega] at this
  refine ⟨xs::xss,by simp[a0],fun ys hy=>?_,?_,fun y hy=>?_⟩
  ·rcases List.mem_cons.1 hy with rfl | hy
   ·exact h3
   ·exact a1 ys hy
  ·have e:(cs.drop (k*P.cellsOf e)).take ((m+1)*P.cellsOf e)=(cs.drop (k*P.cellsOf e)).take (P.cellsOf e)++(cs.drop ((k+1)*P.cellsOf e)).take (m*P.cellsOf e):=by
    rw[show (m+1)*P.cellsOf e=P.cellsOf e+m*P.cellsOf e by rw[Nat.add_mul];omega,List.take_add,List.drop_drop,Nat.add_mul,Nat.one_mul]
   rw[e,List.flatten_cons]
   exact h1.append a2
  ·rw[List.flatten_cons,List.mem_append] at hy
   rcases hy with hy | hy
   ·exact h2 y hy
   ·exact a3 y hy
theorem FD:∀(n:Nat) (t:TypeId),pN P n t=true->∀(fuel:Nat) (cs:List Value) (x:DataW H×List MemPlace),DataW.trod enc P w 0 (fun _=>true) true fuel t cs=some x->∃xs,xQ P w n t xs cs:=by
 intro n
 induction n with
 | zero=>intro t h;simp[pN] at h
 | succ n ih =>
  intro t h fuel cs x hx
  unfold pN at h
  split at h
  ·rename_i hu
   obtain ⟨b,rfl,-⟩:=DataW.trod_bool hu hx
   refine ⟨[.bool b],⟨rfl,fun i x v h1 h2=>?_⟩,fun y hy=>?_,?_⟩
   ·cases i with
    | zero=>simp at h1 h2;subst h1;subst h2;exact .bool _ _
    | succ i=>simp at h1
   ·simp at hy;subst hy;exact ⟨rfl,.bool _⟩
   ·unfold Sh;rw[hu];exact ⟨b,rfl⟩
  ·rename_i k hu
   obtain ⟨z,rfl,-,hwf⟩:=DataW.trod_int hu hx
   refine ⟨[.int k z],⟨rfl,fun i x v h1 h2=>?_⟩,fun y hy=>?_,?_⟩
   ·cases i with
    | zero=>simp at h1 h2;subst h1;subst h2;exact .int _ _ _
    | succ i=>simp at h1
   ·simp at hy;subst hy;exact ⟨rfl,.int _ _⟩
   ·unfold Sh;rw[hu];exact ⟨z,rfl,hwf⟩
  ·rename_i e hu
   rw[Bool.and_eq_true,decide_eq_true_eq] at h
   obtain ⟨hpos,hp⟩:=h
   rcases DataW.trod_slice hu hx with ⟨rfl,-⟩ | ⟨a,len,cap,elems,rest,m,-,rfl,-,-,hlc,hcm,hlen,hel,-,-⟩
   ·refine ⟨[.nils],⟨rfl,fun i x v h1 h2=>?_⟩,fun y hy=>?_,?_⟩
    ·cases i with
     | zero=>simp at h1 h2;subst h1;subst h2;exact .nils _
     | succ i=>simp at h1
    ·simp at hy;subst hy;exact ⟨rfl,.nils⟩
    ·unfold Sh;rw[hu];exact .inl rfl
   ·have each:∀i,i<len->∃xs vs,w.cells? 0 (a.add (i*P.cellsOf e)) (P.cellsOf e)=some vs/\xQ P w n e xs vs:=by
     intro i hi
     have:=hel i hi
     rw[List.getElem?_eq_getElem (show i<elems.length by omega),Option.bind_eq_some_iff] at this
     obtain ⟨vs,h1,h2⟩:=this
     obtain ⟨xs,hg⟩:=ih e hp _ _ _ h2
     exact ⟨xs,vs,h1,hg⟩
    let rowf:Nat->List AV:=fun i=>if hi:i<len then Classical.choose (each i hi) else []
    let valf:Nat->List Value:=fun i=>if hi:i<len then Classical.choose (Classical.choose_spec (each i hi)) else []
    have hrow:∀i,i<len->w.cells? 0 (a.add (i*P.cellsOf e)) (P.cellsOf e)=some (valf i)/\xQ P w n e (rowf i) (valf i):=by
     intro i hi
     have:=Classical.choose_spec (Classical.choose_spec (each i hi))
     simpa only[rowf,valf,dif_pos hi] using this
    have hget:∀(i:Nat) (row:List AV),((List.range len).map rowf)[i]?=some row->i<len/\row=rowf i:=by
     intro i row h1
     rw[List.getElem?_map] at h1
     rcases Nat.lt_or_ge i len with hi | hi
     ·rw[List.getElem?_range hi] at h1
      injection h1 with h1
      exact ⟨hi,h1.symm⟩
     ·rw[List.getElem?_eq_none (by simpa using hi)] at h1;cases h1
    refine ⟨[.tsl 0 (P.cellsOf e) ((List.range len).map rowf)],⟨rfl,fun i x v h1 h2=>?_⟩,fun y hy=>?_,?_⟩
    ·cases i with
     | succ i=>simp at h1
     | zero =>
      simp at h1 h2;subst h1;subst h2
      rcases Nat.eq_zero_or_pos len with h0 | h0
      ·subst h0
       exact .tnil 0 0 _ a cap (Nat.le_refl _)
      ·obtain ⟨b,o,spot⟩:=a
       have hc0:=World.cells?_some (hrow 0 h0).1
       have hv0:(valf 0)[0]?=some (valf 0)[0]:=List.getElem?_eq_getElem (by rw[hc0.2.1];exact hpos)
       have h00:=hc0.2.2 0 hpos
       rw[hv0] at h00
       have hspot:spot=none:=by simpa [Addr.add] using World.cell?_spot h00
       subst hspot
       have cellat:∀i j row x,((List.range len).map rowf)[i]?=some row->row[j]?=some x->∃v,(valf i)[j]?=some v/\w.cell? (adr b (o+i*P.cellsOf e+j))=some v/\RV w gm0 av0 0 x v:=by
        intro i j row x hr hxj
        obtain ⟨hi,rfl⟩:=hget i row hr
        obtain ⟨q1,q2⟩:=hrow i hi
        have hj:j<(rowf i).length:=(List.getElem?_eq_some_iff.1 hxj).1
        have hj':j<(valf i).length:=by rw[<-q2.1.1];exact hj
        have hcs:=World.cells?_some q1
        have hcell:=hcs.2.2 j (by rw[<-hcs.2.1];exact hj')
        rw[List.getElem?_eq_getElem hj'] at hcell
        refine ⟨_,List.getElem?_eq_getElem hj',?_,q2.1.2 j x _ hxj (List.getElem?_eq_getElem hj')⟩
        rw[Ba,show adr b (o+i*P.cellsOf e)=(⟨b,o+i*P.cellsOf e,none⟩:Addr) from rfl,Ba] at hcell
        exact hcell
       have hb:b<w.heap.size:=by
        have:=Aq h00
        simpa [Addr.add] using this
       have hrl:((List.range len).map rowf).length=len:=by simp
       have key:=RV.tsl (w:=w) (γ:=gm0) (A:=av0) 0 0 (P.cellsOf e) ((List.range len).map rowf) b o cap (fun i j=>(valf i)[j]?.getD undef) (Nat.le_refl _) (by rw[hrl];exact hlc) hb (IJ b) (fun h=>h)
        (fun i row hr=>by
         obtain ⟨hi,rfl⟩:=hget i row hr
         obtain ⟨q1,q2⟩:=hrow i hi
         rw[q2.1.1,(World.cells?_some q1).2.1])
        (fun i j row x hr hxj=>by
         obtain ⟨hi,rfl⟩:=hget i row hr
         exact ((hrow i hi).2.2.1 x (List.mem_of_getElem? hxj)).1)
        (fun i j row x hr hxj=>by
         obtain ⟨v,v1,v2,v3⟩:=cellat i j row x hr hxj
         rw[v2,v1];rfl)
        (fun i j row x hr hxj=>by
         obtain ⟨v,v1,v2,v3⟩:=cellat i j row x hr hxj
         rw[v1];exact v3)
        (fun row hr x hx=>by
         obtain ⟨i,hi⟩:=List.getElem?_of_mem hr
         obtain ⟨hi2,rfl⟩:=hget i row hi
         exact ((hrow i hi2).2.2.1 x hx).2)
       rw[hrl] at key
       exact key
    ·simp only[List.mem_singleton] at hy;subst hy
     refine ⟨rfl,.tsl _ _ _ fun row hr x hx=>?_⟩
     obtain ⟨i,hi⟩:=List.getElem?_of_mem hr
     obtain ⟨hi2,rfl⟩:=hget i row hi
     exact ((hrow i hi2).2.2.1 x hx).2
    ·unfold Sh;rw[hu]
     refine .inr ⟨_,rfl,?_,fun row hr=>?_⟩
     ·rw[List.length_map,List.length_range]
      have:maxLen<9223372036854775808:=by decide
      omega
     ·obtain ⟨i,hi⟩:=List.getElem?_of_mem hr
      obtain ⟨hi2,rfl⟩:=hget i row hi
      exact (hrow i hi2).2.2.2
  ·rename_i fs hu
   rw[Bool.and_eq_true] at h
   obtain ⟨hc,hp⟩:=h
   have hc:pI P fs.toList 0=some (P.cellsOf t):=eq_of_beq hc
   obtain ⟨ys,m,-,-,hl,hyl,hel⟩:=DataW.trod_struct hu hx
   obtain ⟨xss,a1,a2,a3⟩:=ER (w:=w) (n:=n) (cs:=cs) hc fun f hf=>by
    obtain ⟨i,hi,e⟩:=List.mem_iff_getElem.1 hf
    have hfi:fs[i]?=some f:=by rw[<-Array.getElem?_toList,List.getElem?_eq_getElem hi,e]
    have:=hel i f hfi
    rw[List.getElem?_eq_getElem (show i<ys.length by rw[hyl];simpa using hi)] at this
    exact ih f.type (List.all_eq_true.1 hp f hf) _ _ _ this
   rw[List.drop_zero,Nat.sub_zero,<-hl,List.take_length] at a2
   refine ⟨xss.flatten,a2,a3,?_⟩
   unfold Sh;rw[hu];exact ⟨xss,rfl,a1⟩
  ·rename_i m e hu
   rw[Bool.and_eq_true,decide_eq_true_eq] at h
   obtain ⟨hc,hp⟩:=h
   obtain ⟨ys,q,-,-,hl,hyl,hel⟩:=DataW.trod_array hu hx
   obtain ⟨xss,a0,a1,a2,a3⟩:=Bb (w:=w) (n:=n) (e:=e) (cs:=cs) (m:=m) (k:=0) fun i hi=>by
    have:=hel i hi
    rw[List.getElem?_eq_getElem (show i<ys.length by omega)] at this
    rw[Nat.zero_add]
    exact ih e hp _ _ _ this
   rw[Nat.zero_mul,List.drop_zero,hc,<-hl,List.take_length] at a2
   refine ⟨xss.flatten,a2,a3,?_⟩
   unfold Sh;rw[hu];exact ⟨xss,rfl,a0,a1⟩
  ·cases h
theorem jG {n:Nat}{t:TypeId}{xs:List AV}(hu:P.underlying t=some (.int .u8))(h:Sh P n t xs):∃x:UInt8,Rp.rp NoP 0 .nil x xs:=by
 cases n with
 | zero=>exact h.elim
 | succ n =>
  unfold Sh at h;rw[hu] at h
  obtain ⟨z,rfl,hw⟩:=h
  simp only[Lit.wf,IntKind.min,IntKind.max,IntKind.signed,IntKind.bits,Bool.and_eq_true] at hw
  refine ⟨UInt8.ofNat z.toNat,fe.2 ?_⟩
  have h1:0<=z:=by simpa using hw.1
  have h2:z<=255:=by simpa using hw.2
  have h3:(UInt8.ofNat z.toNat).toNat=z.toNat:=UInt8.toNat_ofNat_of_lt' (by show z.toNat<256;omega)
  rw[h3,Int.toNat_of_nonneg h1]
theorem xn {α:Type} [Rp α]{n:Nat}{t e:TypeId}{xs:List AV}(hu:P.underlying t=some (.slice e))(hsz:P.cellsOf e=Rp.sz α)(hel:∀ys,Sh P n e ys->∃y:α,Rp.rp NoP 0 .nil y ys)(h:Sh P (n+1) t xs) :
  ∃l:List α,Rp.rp NoP 0 .nil l xs:=by
 unfold Sh at h;rw[hu] at h
 rcases h with rfl | ⟨rows,rfl,hl,hr⟩
 ·exact ⟨[],.nils,rfl,by simp,rfl⟩
 ·have:∀rows:List (List AV),(∀row∈rows,Sh P n e row)->∃l:List α,All2 (Rp.rp NoP 0 .nil) l rows:=by
   intro rows
   induction rows with
   | nil=>intro _;exact ⟨[],trivial⟩
   | cons r rows ih =>
    intro h
    obtain ⟨y,hy⟩:=hel r (h r (by simp))
    obtain ⟨l,hl⟩:=ih fun row hrow=>h row (by simp[hrow])
    exact ⟨y::l,hy,hl⟩
  obtain ⟨l,ha⟩:=this rows hr
  exact ⟨l,_,rfl,by rw[ha.len];exact hl,Nat.le_refl _,.inl hsz,ha⟩
theorem FP {n m:Nat}{t e:TypeId}{xs:List AV}(hu:P.underlying t=some (.array m e))(h:Sh P (n+1) t xs):∃xss:List (List AV),xs=xss.flatten/\xss.length=m/\∀ys∈xss,Sh P n e ys:=by
 unfold Sh at h;rw[hu] at h;exact h
theorem rm {n:Nat}{t:TypeId}{fs:Array Field}{xs:List AV}(hu:P.underlying t=some (.struct fs))(h:Sh P (n+1) t xs):∃xss,xs=xss.flatten/\All2 (fun (f:Field) ys=>Sh P n f.type ys) fs.toList xss:=by
 unfold Sh at h;rw[hu] at h;exact h
end Hx
end
