/- A part of the proof: an interpreter over abstract values, shown right against the model, and what the functions of the chapter compute on it. -/
import Derived.KernelRfl
import Derived.Test.YtaebcalnodgpnaaHx14
set_option linter.unusedVariables false
set_option linter.unusedSimpArgs false
set_option linter.unnecessarySimpa false
section
namespace Hx
open Go
noncomputable section
theorem vM {d:Nat}{g:G}{b:Nat}{v:AV}{l:List Int}{K:AV->G->Prop}{D:ADf->Prop}(hv:Own g b v 1 (l.map ci))(hl:l.length<9223372036854775808)
  (k:∀v',SlR (fun i=>vid v=some i) 0 g.h (S.bI l) v'->K v' g):(ak C0 d N.au [v] g).sat K g D:=by
 rw[wS]
 refine pT AI (by simp[oB]) ?_
 simp only[oB,py,sx,SO.run]
 rcases hv with ⟨rfl,e⟩ | ⟨id,ep,lo,h1,h2,rfl,h3⟩
 ·have:l=[]:=by simpa using e
  subst this
  have k:=k .nils ⟨by show 0<9223372036854775808;decide,rfl⟩
  refine gt (fun n t df g'=>df=[]/\g'=g/\St t [(0,.nils)]) 0 ⟨rfl,rfl,by simp[sx,St]⟩ ?_
  rintro n t df g' ⟨rfl,rfl,h0,-⟩
  simp only[gw,sx,SO.run,↓reduceIte,Nat.reduceEqDiff,h0,eD,Int.lt_irrefl,decide_false]
  exact k
 ·rw[List.length_map] at *
  have key:∀n≤l.length,ah g.h 1 (.hsl id ep 0 n none)=some ((l.take n).map ci):=fun n hn=>by
   rw[d5,h3,cN,if_pos (by simp;omega),List.drop_zero,List.map_take]
  have sl:∀n≤l.length,SlR (fun i=>vid (.hsl id ep 0 l.length none)=some i) 0 g.h (l.take n) (.hsl id ep 0 n none):=fun n hn =>
   ⟨by rw[List.length_take];omega,rfl,_,key n hn,All2.of_map (fun a=>aS.2 rfl) _⟩
  have slc:∀n c:Nat,n<=l.length->c<n->rN 1 (.hsl id ep 0 n none) none (some (.int .i64 (c:Int))) g=.val (.hsl id ep 0 c none):=fun n c hn hc=>by
   have hb:(l.map ci).length.beq 0=false:=by rw[List.length_map];cases h:l.length with | zero=>omega | succ n=>rfl
   simp only[rN,j9,h3,Nat.beq_refl,Bool.true_and,aD,Nat.zero_add,aa,Nat.ble_eq,aY,Option.getD_none,Nat.sub_zero]
   rw[if_pos (by rw[List.length_map];omega)]
   simp only[dV]
   rw[show az (c.ble (l.map ci).length) (some c) none=some c from by rw[aa,if_pos (by simp;omega)]]
   dsimp only
   rw[hb]
   rfl
  refine gt (fun n t df g'=>df=[]/\g'=g/\n<=l.length/\S.bF l n=S.bI l/\St t [(0,.hsl id ep 0 n none)]) l.length ⟨rfl,rfl,Nat.le_refl _,rfl,by simp[sx,St]⟩ ?_
  rintro n t df g' ⟨rfl,rfl,hn,hc,h0,-⟩
  have n1:∀h,eD .slice (.hsl id ep 0 n none) h=.val (.int .i64 (n:Int)):=fun h=>rfl
  have hk:=key n hn
  cases n with
  | zero =>
   have q00:¬((0:Int)<((0:Nat):Int)):=by omega
   simp only[gw,sx,SO.run,↓reduceIte,Nat.reduceEqDiff,h0,n1,q00,decide_false]
   have k:=k _ (by rw[<-hc];exact sl 0 hn)
   exact k
  | succ n =>
   obtain ⟨x,hx,ht,-⟩:=af (l:=l) (j:=n) (by omega)
   have w1:IntKind.wrap .i64 (((n+1:Nat):Int) - 1)=(n:Int):=by rw[an (by omega) (by omega)];omega
   have q0:(0:Int)<((n+1:Nat):Int):=by omega
   have q1:n<((l.take (n+1)).map ci).length:=by simp;omega
   have q2:((l.take (n+1)).map ci)[n]?=some (ci x):=by rw[List.getElem?_map,List.getElem?_take,if_pos (by omega),hx];rfl
   have hs:=slc (n+1) n hn (by omega)
   by_cases hx0:x=0
   ·simp only[sx,sy,SO.run,↓reduceIte,Nat.reduceEqDiff,h0,n1,q0,decide_true,w1,hk,q1,q2,ci,Option.isSome_some,Option.getD_some,hx0,decide_true,List.head?_nil,List.head?_cons,hs]
    refine ⟨n,by omega,by omega,?_,by simp[sx,St]⟩
    rw[<-hc,S.bF,hx,Option.getD_some,if_pos hx0]
   ·simp only[gw,sx,SO.run,↓reduceIte,Nat.reduceEqDiff,h0,n1,q0,decide_true,w1,hk,q1,q2,ci,Option.isSome_some,Option.getD_some,hx0,decide_false]
    have k:=k _ (by rw[<-hc,S.bF,hx,Option.getD_some,if_neg hx0];exact sl (n+1) hn)
    exact k
theorem xG {d k k2:Nat}{g:G}{P P2:Nat->Prop}{v w:AV}{x y:Nat}(hd:0<d)(hv:SlR P k g.h (S.dg x) v)(hw:SlR P2 k2 g.h (S.dg y) w)(hx:x<1000000000000000000000000000000000000000000000000)(hy:y<1000000000000000000000000000000000000000000000000) :
  ak C0 d N.aJ [v,w] g=.val (.int .i64 (S.bf x y)):=by
 obtain ⟨v',e1,r1⟩:=be hv d
 obtain ⟨w',e2,r2⟩:=be hw d
 rw[q9]
 refine ie ud (xs:=[v',w']) (by simp only[aH,e1,e2]) (by simp[iR]) hd ?_
 have n1:=fun g=>(r1 .nil).len g
 have n2:=fun g=>(r2 .nil).len g
 have hlx:=hv.1
 simp only[iR,sx,SO.run,↓reduceIte,Nat.reduceEqDiff,n1,n2]
 refine aw (fun hq=>?_) (fun hq=>?_)
 ·have hne:(S.dg x).length≠(S.dg y).length:=by simp at hq;omega
  simp only[sx,SO.run,↓reduceIte,Nat.reduceEqDiff,n1,n2]
  refine aw (fun hq2=>?_) (fun hq2=>?_)
  ·have hlt:(S.dg x).length<(S.dg y).length:=by simp at hq2;omega
   have:=t6 hx hy hlt
   simp only[sx,SO.run,↓reduceIte]
   rw[S.bf,if_pos this]
  ·have hlt:(S.dg y).length<(S.dg x).length:=by simp at hq2;omega
   have:=t6 hy hx hlt
   simp only[sx,SO.run,↓reduceIte]
   rw[S.bf,if_neg (by omega),if_neg (by omega)]
 ·have hle:(S.dg x).length=(S.dg y).length:=by simp at hq;omega
  have w1:IntKind.wrap .i64 (((S.dg x).length:Int) - 1)=((S.dg x).length:Int) - 1:=by rw[an (by omega) (by omega)]
  simp only[sx,SO.run,↓reduceIte,Nat.reduceEqDiff,n1,jD]
  refine j4 (m:=(S.dg x).length) hlx (fun j t df g=>df=[]/\St t [(0,v'),(1,w')]/\x / 10000 ^ j=y / 10000 ^ j) ⟨rfl,by simp[St,sx],?_⟩ (by simp[sx,w1]) (by decide) (by rintro j t df g v s (rfl | rfl | rfl | rfl | rfl)<;>simp[St,sx]) ?_ ?_
  ·have h1:=sn hx
   have h2:=sn hy
   rw[<-hle] at h2
   rw[Nat.div_eq_of_lt h1,Nat.div_eq_of_lt h2]
  ·rintro j t df g hj ⟨rfl,⟨h0,h1,-⟩,hA⟩ h5
   obtain ⟨p,hp,-,-⟩:=af hj
   obtain ⟨q,hq,-,-⟩:=af (l:=S.dg y) (j:=j) (by omega)
   have ep:=qw j x hx
   have eq:=qw j y hy
   rw[hp,Option.getD_some] at ep
   rw[hq,Option.getD_some] at eq
   have q1:j<((S.dg x).map ci).length:=by simpa using hj
   have q2:j<((S.dg y).map ci).length:=by rw[List.length_map];omega
   have q3:((S.dg x).map ci)[j]?=some (ci p):=by rw[List.getElem?_map,hp];rfl
   have q4:((S.dg y).map ci)[j]?=some (ci q):=by rw[List.getElem?_map,hq];rfl
   have ra:∀h',ah h' 1 v'=some ((S.dg x).map ci):=fun h'=>(r1 h').ints
   have rb:∀h',ah h' 1 w'=some ((S.dg y).map ci):=fun h'=>(r2 h').ints
   by_cases hpq:p=q
   ·have:=KB hA (by omega)
    simp only[sx,sy,SO.run,↓reduceIte,Nat.reduceEqDiff,h0,h1,h5,ra,rb,q1,q2,q3,q4,ci,Option.isSome_some,Option.getD_some,hpq,decide_true,Bool.not_true,St]
    exact this
   ·by_cases hlt:p<q
    ·have:=G6 hA (by omega)
     simp only[sx,sy,SO.run,↓reduceIte,Nat.reduceEqDiff,h0,h1,h5,ra,rb,q1,q2,q3,q4,ci,Option.isSome_some,Option.getD_some,hpq,hlt,decide_true,decide_false,Bool.not_false]
     rw[S.bf,if_pos this]
    ·have:=G6 hA.symm (by omega)
     simp only[sx,sy,SO.run,↓reduceIte,Nat.reduceEqDiff,h0,h1,h5,ra,rb,q1,q2,q3,q4,ci,Option.isSome_some,Option.getD_some,hpq,hlt,decide_false,Bool.not_false]
     rw[S.bf,if_neg (by omega),if_neg (by omega)]
  ·rintro t df g ⟨rfl,⟨h0,h1,-⟩,hA⟩
   rw[Nat.pow_zero,Nat.div_one,Nat.div_one] at hA
   subst hA
   simp only[j5,sx,SO.run,↓reduceIte]
   rw[S.bf,if_neg (by omega),if_pos rfl]
end
end Hx
end
section
namespace Hx
open Go
noncomputable section
theorem B8:∀{L:List Int} {p:Nat} {z:Int},p<L.length->S.ah (L.set p z)=S.ah L+(z - L[p]?.getD 0)*10000 ^ p
 | [],_,_,h=>by simp at h
 | x::L,0,z,_=>by simp[S.ah];omega
 | x::L,p+1,z,h=>by
  have ih:=B8 (L:=L) (p:=p) (z:=z) (by simpa using h)
  rw[List.set_cons_succ,S.ah,S.ah,ih,List.getElem?_cons_succ,Int.pow_succ,<-Int.mul_assoc,Int.mul_add,Int.mul_comm _ (10000:Int)]
  generalize (z - L[p]?.getD 0)*10000 ^ p=u
  omega
theorem DZ {L:List Int}{p:Nat}{z:Int}(h:∀x∈L,0<=x/\x<10000)(hz:0<=z/\z<10000):∀x∈L.set p z,0<=x/\x<10000:=fun x hx=>by
 rcases List.mem_or_eq_of_mem_set hx with h1 | rfl
 ·exact h x h1
 ·exact hz
theorem GP {L:List Int}(h:∀x∈L,0<=x/\x<10000)(p:Nat):0<=L[p]?.getD 0/\L[p]?.getD 0<10000:=by
 cases e:L[p]? with
 | none=>simp
 | some x=>exact h x (List.mem_of_getElem? e)
structure S.tI (bl:List Int) (n i:Nat) (V ai:Int) (k:Nat) (c:Int) (L:List Int):Prop where
 len:L.length=n
 rng:∀x∈L,0<=x/\x<10000
 zer:∀j,i+bl.length<=j->i+k<=j->L[j]?.getD 0=0
 kle:k<=bl.length+1
 c0:0<=c
 c1:c<10000
 ce:k=bl.length+1->c=0
 cs:k=0->c=0
 eq:S.ah L+c*10000 ^ (i+k)=V+ai*10000 ^ i*S.ah (bl.take k)
def S.bN (bl:List Int):Prop:=∀(k:Nat) (z:Int),bl[k]?=some z->0<=z/\z<=10000/\(0<k->z<10000)
theorem Jr {D D' c c' s l z U V W m:Int}(h1:D'=D+(z - l)*U)(h2:s=c+l+m)(h3:s=10000*c'+z)(h4:D+c*U=V+W):D'+c'*(U*10000)=V+(W+m*U):=by
 have e1:(c+l+m)*U=(10000*c'+z)*U:=by rw[<-h2,h3]
 rw[Int.add_mul,Int.add_mul,Int.add_mul,Int.mul_assoc] at e1
 rw[Int.sub_mul] at h1
 rw[<-Int.mul_assoc,Int.mul_comm _ (10000:Int)]
 omega
theorem Ja {bl L:List Int}{n i k:Nat}{V ai c m s:Int}(h:S.tI bl n i V ai k c L)(hi:i+k<n)(h2:S.bN bl)(ha:0<=ai/\ai<10000)
  (hk:k<bl.length\/k=bl.length) (hm:m=ai*bl[k]?.getD 0) (hs:s=c+L[i+k]?.getD 0+m) :
  0<=s/\s<100000000/\S.tI bl n i V ai (k+1) (s / 10000) (L.set (i+k) (s % 10000)):=by
 obtain ⟨hlen,hr,hz,hkl,c0,c1,ce,cs,he⟩:=h
 obtain ⟨l0,l1⟩:=GP hr (i+k)
 have hb:0<=bl[k]?.getD 0/\bl[k]?.getD 0<=10000/\(0<k->bl[k]?.getD 0<10000):=by
  cases e:bl[k]? with
  | none=>simp
  | some z=>exact h2 k z e
 obtain ⟨b0,b1,b2⟩:=hb
 have m0:0<=m:=by rw[hm];exact Int.mul_nonneg ha.1 b0
 have m1:m<=9999*bl[k]?.getD 0:=by rw[hm];exact Int.mul_le_mul_of_nonneg_right (by omega) b0
 have hs1:0<=s/\s<100000000:=by
  by_cases hk0:k=0
  ·have:=cs hk0;omega
  ·have:=b2 (by omega);omega
 have hzk:k=bl.length->bl[k]?.getD 0=0:=fun e=>by rw[List.getElem?_eq_none (by omega)];rfl
 have hst:S.ah (bl.take (k+1))=S.ah (bl.take k)+10000 ^ k*bl[k]?.getD 0:=by
  rcases hk with hk | hk
  ·obtain ⟨x,hx,ht,-⟩:=af hk
   rw[ht,kn,hx,List.length_take,Nat.min_eq_left (by omega)]
   simp[S.ah]
  ·rw[hzk hk,List.take_of_length_le (by omega),List.take_of_length_le (by omega)];simp
 refine ⟨hs1.1,hs1.2,by simpa using hlen,DZ hr (by omega),fun j h1 h3=>?_,by omega,by omega,by omega,fun e=>?_,by omega,?_⟩
 ·rw[List.getElem?_set_ne (by omega)]
  exact hz j h1 (by omega)
 ·have e:k=bl.length:=by omega
  have h0:=hz (i+k) (by omega) (by omega)
  rw[hzk e,Int.mul_zero] at hm
  rw[h0,hm] at hs
  omega
 ·have hd:=B8 (L:=L) (p:=i+k) (z:=s % 10000) (by omega)
  have:=Jr (c':=s / 10000) hd hs (by omega) he
  rw[<-Nat.add_assoc,Int.pow_succ,this,hst,Int.mul_add,hm,Int.pow_add]
  congr 2
  simp only[Int.mul_assoc,Int.mul_comm,Int.mul_left_comm]
theorem Hz {bl L:List Int}{n i:Nat}{V ai:Int}(hlen:L.length=n)(hr:∀x∈L,0<=x/\x<10000)(hz:∀j,i+bl.length<=j->L[j]?.getD 0=0)(hV:S.ah L=V):S.tI bl n i V ai 0 0 L :=
 ⟨hlen,hr,fun j h1 h2=>hz j h1,by omega,by omega,by omega,fun _=>rfl,fun _=>rfl,by simp[S.ah,hV]⟩
structure S.tO (al bl:List Int) (i:Nat) (L:List Int):Prop where
 len:L.length=al.length+bl.length
 rng:∀x∈L,0<=x/\x<10000
 zer:∀j,i+bl.length<=j->L[j]?.getD 0=0
 eq:S.ah L=S.ah (al.take i)*S.ah bl
theorem yK:∀n:Nat,S.ah (List.replicate n 0)=0
 | 0=>rfl
 | n+1=>by rw[List.replicate_succ,S.ah,yK n];rfl
theorem HQ (al bl:List Int):S.tO al bl 0 (List.replicate (al.length+bl.length) 0):=by
 refine ⟨by simp,fun x hx=>?_,fun j _=>?_,by rw[yK];simp[S.ah]⟩
 ·have:=(List.mem_replicate.1 hx).2;omega
 ·rw[List.getElem?_replicate];split<;>rfl
theorem IP {al bl L:List Int}{i k:Nat}{c x:Int}(hi:i<al.length)(hx:al[i]?=some x)(h:S.tI bl (al.length+bl.length) i (S.ah (al.take i)*S.ah bl) x k c L)(hk:bl.length<=k)(hc:c=0):S.tO al bl (i+1) L:=by
 obtain ⟨hlen,hr,hz,hkl,c0,c1,ce,cs,he⟩:=h
 refine ⟨hlen,hr,fun j h1=>hz j (by omega) (by omega),?_⟩
 obtain ⟨y,hy,ht,-⟩:=af hi
 rw[hx] at hy
 injection hy with hy
 subst hy
 rw[hc,Int.zero_mul,Int.add_zero,List.take_of_length_le hk] at he
 rw[he,ht,kn,List.length_take,Nat.min_eq_left (by omega),Int.add_mul]
 simp[S.ah,Int.mul_comm]
theorem Kr {al bl L:List Int}{x y:Nat}(h:S.tO al bl al.length L)(ha:S.ah al=(x:Int))(hb:S.ah bl=(y:Int))(hm:x*y<1000000000000000000000000000000000000000000000000):S.bI L=S.dg (x*y):=by
 refine xJ h.rng ?_ hm
 rw[h.eq,List.take_length,ha,hb,Int.natCast_mul]
structure S.mI (al bl:List Int) (i:Nat) (r:Int) (L:List Int):Prop where
 len:L.length=i
 rng:∀x∈L,0<=x/\x<10000
 r01:r=0\/r=1
 eq:S.ah L=S.ah (al.take i) - S.ah (bl.take i)+r*10000 ^ i
theorem GX (al bl:List Int):S.mI al bl 0 0 []:=⟨rfl,by simp,.inl rfl,by simp[S.ah]⟩
theorem DS {al bl L:List Int}{i:Nat}{r x y e q:Int}(hi:i<al.length)(ha:∀x∈al,0<=x/\x<10000)(hb:∀x∈bl,0<=x/\x<10000)(h:S.mI al bl i r L)(hx:al[i]?=some x)(hy:bl[i]?.getD 0=y)
  (he:(x - r - y<0/\e=x - r - y+10000/\q=1)\/(0<=x - r - y/\e=x - r - y/\q=0)):S.mI al bl (i+1) q (L++[e]):=by
 obtain ⟨hlen,hr,h01,heq⟩:=h
 have hx1:=ha x (List.mem_of_getElem? hx)
 have hy1:=GP hb i
 rw[hy] at hy1
 have he1:0<=e/\e<10000:=by omega
 have hst:S.ah (bl.take (i+1))=S.ah (bl.take i)+10000 ^ i*y:=by
  by_cases hk:i<bl.length
  ·obtain ⟨z,hz,ht,-⟩:=af hk
   rw[ht,kn,List.length_take,Nat.min_eq_left (by omega)]
   rw[hz,Option.getD_some] at hy
   simp[S.ah,hy]
  ·rw[List.getElem?_eq_none (by omega),Option.getD_none] at hy
   rw[<-hy,List.take_of_length_le (by omega),List.take_of_length_le (by omega)];simp
 have hsa:S.ah (al.take (i+1))=S.ah (al.take i)+10000 ^ i*x:=by
  obtain ⟨z,hz,ht,-⟩:=af hi
  rw[hx] at hz
  injection hz with hz
  rw[ht,kn,List.length_take,Nat.min_eq_left (by omega),hz]
  simp[S.ah]
 refine ⟨by simp[hlen],fun z hz=>?_,by omega,?_⟩
 ·rcases List.mem_append.1 hz with h1 | h1
  ·exact hr z h1
  ·rw[List.mem_singleton.1 h1];exact he1
 ·rw[kn,hlen,hst,hsa,heq,Int.pow_succ]
  have e1:e=x - r - y+10000*q:=by omega
  have e2:10000 ^ i*e=10000 ^ i*x - 10000 ^ i*r - 10000 ^ i*y+10000 ^ i*(10000*q):=by rw[e1];simp only[Int.mul_add,Int.mul_sub]
  have e3:q*(10000 ^ i*10000)=10000 ^ i*(10000*q):=by simp only[Int.mul_assoc,Int.mul_comm]
  have e4:r*10000 ^ i=10000 ^ i*r:=Int.mul_comm _ _
  simp only[S.ah,Int.mul_zero,Int.add_zero]
  rw[e2,e3,e4]
  generalize (10000:Int) ^ i=U
  generalize U*x=u1
  generalize U*r=u2
  generalize U*y=u3
  generalize U*(10000*q)=u4
  omega
theorem KE {x y:Nat}{L:List Int}{r:Int}(hx:x<1000000000000000000000000000000000000000000000000)(hxy:y<=x)(h:S.mI (S.dg x) (S.dg y) (S.dg x).length r L):S.bI L=S.dg (x - y):=by
 obtain ⟨hlen,hr,h01,heq⟩:=h
 have hll:=E6 (show y<1000000000000000000000000000000000000000000000000 by omega) hx hxy
 rw[List.take_length,List.take_of_length_le hll,nm x hx,nm y (by omega)] at heq
 have hb:=jG hr
 rw[hlen] at hb
 have:r=0:=by
  rcases h01 with e | e
  ·exact e
  ·rw[e,Int.one_mul] at heq;omega
 rw[this,Int.zero_mul,Int.add_zero] at heq
 exact xJ hr (by omega) (by omega)
end
end Hx
end
section
namespace Hx
open Go
noncomputable section
theorem Bm {x y:Int}(h0:0<=x)(h1:x<9223372036854775808)(hy:0<y):cO .rem (.int .i64 x) (.int .i64 y)=.val (.int .i64 (x % y)):=by
 obtain ⟨n,rfl⟩:=Int.eq_ofNat_of_zero_le h0
 obtain ⟨m,rfl⟩:=Int.eq_ofNat_of_zero_le (by omega:0<=y)
 have:=D0 (x:=n) (y:=m) (by omega)
 rw[this,Int.natCast_emod]
theorem wF {x y:Int}(h0:0<=x)(h1:x<9223372036854775808)(hy:0<y):cO .quo (.int .i64 x) (.int .i64 y)=.val (.int .i64 (x / y)):=by
 obtain ⟨n,rfl⟩:=Int.eq_ofNat_of_zero_le h0
 obtain ⟨m,rfl⟩:=Int.eq_ofNat_of_zero_le (by omega:0<=y)
 have:=vE (x:=n) (y:=m) (by omega) (by omega)
 rw[this,Int.natCast_ediv]
theorem Gn {d i:Nat}{v' w' u:AV}{al bl:List Int}{x V:Int}{Q:QT}{t:T}{g:G}{L:List Int}(hi:i<al.length)(hx:al[i]?=some x)(hx1:0<=x/\x<10000)(hla:al.length<=1000)(hlb:bl.length<=1000)(hb:S.bN bl)
  (ra:∀h,ah h 1 v'=some (al.map ci)) (rb:∀h,ah h 1 w'=some (bl.map ci)) (n2:∀g,eD .slice w' g=.val (.int .i64 (bl.length:Int)))
  (ht:St t [(0,v'),(1,w'),(5,u),(6,.int .i64 (i:Int)),(7,.int .i64 0),(8,.int .i64 0)]) (hu:Own g 0 u 1 (L.map ci)) (hI:S.tI bl (al.length+bl.length) i V x 0 0 L)
  (fin:∀t g L k,St t [(0,v'),(1,w'),(5,u),(6,.int .i64 (i:Int))]->Own g 0 u 1 (L.map ci)->S.tI bl (al.length+bl.length) i V x k 0 L->bl.length<=k->Q (.exit 2) t [] g) :
  wpL (wp C0 d none da) Q t [] g:=by
 refine gt (fun n t df g=>df=[]/\∃(k:Nat) (c:Int) (L:List Int),n=bl.length+2 - k/\St t [(0,v'),(1,w'),(5,u),(6,.int .i64 (i:Int)),(7,.int .i64 c),(8,.int .i64 (k:Int))]/\Own g 0 u 1 (L.map ci)/\S.tI bl (al.length+bl.length) i V x k c L) (bl.length+2)
  ⟨rfl,0,0,L,by omega,ht,hu,hI⟩ ?_
 rintro n t df g ⟨rfl,k,c,L,rfl,⟨h0,h1,h5,h6,h7,h8,-⟩,hu,hI⟩
 have hkl:=hI.kle
 have c0:=hI.c0
 have c1:=hI.c1
 have w1:IntKind.wrap .i64 ((i:Int)+(k:Int))=((i+k:Nat):Int):=by rw[an (by omega) (by omega)];omega
 have w2:IntKind.wrap .i64 ((k:Int)+1)=((k+1:Nat):Int):=by rw[an (by omega) (by omega)];omega
 have ur:=fun g (hu:Own g 0 u 1 (L.map ci))=>hu.rows
 by_cases hk:k<bl.length\/(k=bl.length/\0<c)
 ·have hin:i+k<L.length:=by rw[hI.len];omega
  obtain ⟨p,hp,-,-⟩:=af hin
  obtain ⟨p0,p1⟩:=hI.rng p (List.mem_of_getElem? hp)
  have w3:IntKind.wrap .i64 (c+p)=c+p:=an (by omega) (by omega)
  have q1:i+k<(L.map ci).length:=by simpa using hin
  have q2:(L.map ci)[i+k]?=some (ci p):=by rw[List.getElem?_map,hp];rfl
  have ur:=hu.rows
  have key:∀s m:Int,m=x*bl[k]?.getD 0->s=c+p+m->0<=s/\s<100000000/\S.tI bl (al.length+bl.length) i V x (k+1) (s / 10000) (L.set (i+k) (s % 10000)):=fun s m hm hs =>
   Ja hI (by rw[<-hI.len];exact hin) hb hx1 (by omega) hm (by rw[hp];exact hs)
  by_cases hk1:k<bl.length
  ·obtain ⟨y,hy,-,-⟩:=af hk1
   obtain ⟨y0,y1,-⟩:=hb k y hy
   have q3:i<(al.map ci).length:=by simpa using hi
   have q4:(al.map ci)[i]?=some (ci x):=by rw[List.getElem?_map,hx];rfl
   have q5:k<(bl.map ci).length:=by simpa using hk1
   have q6:(bl.map ci)[k]?=some (ci y):=by rw[List.getElem?_map,hy];rfl
   have hkk:((k:Int)<(bl.length:Int)):=by omega
   obtain ⟨m,hm⟩:∃m,m=x*y:=⟨_,rfl⟩
   have m0:0<=m:=by rw[hm];exact Int.mul_nonneg hx1.1 y0
   have m1:m<=10000*y:=by rw[hm];exact Int.mul_le_mul_of_nonneg_right (by omega) y0
   obtain ⟨s,hs⟩:∃s,s=c+p+m:=⟨_,rfl⟩
   obtain ⟨s0,s1,hT⟩:=key s m (by rw[hy,Option.getD_some];exact hm) hs
   have w4:IntKind.wrap .i64 (x*y)=m:=by rw[<-hm,an (by omega) (by omega)]
   have w5:IntKind.wrap .i64 (c+p+m)=s:=by rw[<-hs,an (by omega) (by omega)]
   have b1:=Bm (x:=s) (y:=10000) s0 (by omega) (by decide)
   have b2:=wF (x:=s) (y:=10000) s0 (by omega) (by decide)
   simp only[da,sx,sy,SO.run,↓reduceIte,Nat.reduceEqDiff,h0,h1,h5,h6,h7,h8,n2,hkk,decide_true,w1,w3,w4,w5,ur,q1,q2,q3,q4,q5,q6,ra,rb,ci,Option.isSome_some,Option.getD_some,gR,gN,b1]
   refine bp (v:=u) (sz:=1) (n:=1) (i:=i+k) (off:=0) (x:=.int .i64 (s % 10000)) (row':=ci (s % 10000)) hu q2 rfl rfl rfl fun g2 hu2 n2 f2=>?_
   rw[re] at hu2
   simp only[sx,sy,SO.run,↓reduceIte,Nat.reduceEqDiff,h8,w2,b2]
   exact ⟨bl.length+2 - (k+1),by omega,k+1,s / 10000,_,rfl,by simp[St,sx,h0,h1,h5,h6],hu2,hT⟩
  ·have hkk:¬((k:Int)<(bl.length:Int)):=by omega
   have hc0:(0:Int)<c:=by omega
   have hb0:bl[k]?.getD 0=0:=by rw[List.getElem?_eq_none (by omega)];rfl
   obtain ⟨s,hs⟩:∃s,s=c+p:=⟨_,rfl⟩
   obtain ⟨s0,s1,hT⟩:=key s 0 (by rw[hb0,Int.mul_zero]) (by omega)
   rw[<-hs] at w3
   have b1:=Bm (x:=s) (y:=10000) s0 (by omega) (by decide)
   have b2:=wF (x:=s) (y:=10000) s0 (by omega) (by decide)
   simp only[da,sx,SO.run,↓reduceIte,Nat.reduceEqDiff,h1,h5,h6,h7,h8,n2,hkk,hc0,decide_true,decide_false,w1,w3,<-hs,ur,q1,q2,ci,Option.isSome_some,Option.getD_some,gR,gN,b1]
   refine bp (v:=u) (sz:=1) (n:=1) (i:=i+k) (off:=0) (x:=.int .i64 (s % 10000)) (row':=ci (s % 10000)) hu q2 rfl rfl rfl fun g2 hu2 n2 f2=>?_
   rw[re] at hu2
   simp only[sx,sy,SO.run,↓reduceIte,Nat.reduceEqDiff,h8,w2,b2]
   exact ⟨bl.length+2 - (k+1),by omega,k+1,s / 10000,_,rfl,by simp[St,sx,h0,h1,h5,h6],hu2,hT⟩
 ·have hkk:¬((k:Int)<(bl.length:Int)):=by omega
  have hc:c=0:=by
   by_cases e:k=bl.length+1
   ·exact hI.ce e
   ·omega
  subst hc
  simp only[da,sx,SO.run,↓reduceIte,Nat.reduceEqDiff,h1,h7,h8,n2,hkk,Int.lt_irrefl,decide_false]
  refine fin _ _ L k ?_ hu hI (by omega)
  simp[St,sx,h0,h1,h5,h6]
theorem zF {d k k2:Nat}{g:G}{P P2:Nat->Prop}{v w:AV}{x y:Nat}{bl:List Int}(hd:0<d)(hv:SlR P k g.h (S.dg x) v)(hw:SlR P2 k2 g.h bl w)(hx:x<1000000000000000000000000000000000000000000000000)(hb:S.bN bl)(hlb:bl.length<=100)(hy:S.ah bl=(y:Int))(hm:x*y<1000000000000000000000000000000000000000000000000) :
  ∃r,ak C0 d N.aU [v,w] g=.val r/\IT 0 (S.dg (x*y)) r:=by
 obtain ⟨v',e1,r1⟩:=be hv d
 obtain ⟨w',e2,r2⟩:=be hw d
 rw[tu]
 have hxv:=nm x hx
 have ha:=qJ x hx
 have hla:=iP x
 generalize S.dg x=al at *
 refine aV xF (xs:=[v',w']) (by simp only[aH,e1,e2]) (by simp[l9]) (aU _) (by decide) hd ?_
 have n1:=fun g=>(r1 .nil).len g
 have n2:=fun g=>(r2 .nil).len g
 have ra:∀h',ah h' 1 v'=some (al.map ci):=fun h'=>(r1 h').ints
 have rb:∀h',ah h' 1 w'=some (bl.map ci):=fun h'=>(r2 h').ints
 have w1:IntKind.wrap .i64 ((al.length:Int)+(bl.length:Int))=((al.length+bl.length:Nat):Int):=by rw[an (by omega) (by omega)];omega
 simp only[l9,sx,SO.run,↓reduceIte,Nat.reduceEqDiff,n1,n2,w1]
 refine ji (b:=0) (n:=al.length+bl.length) (by simp[aZ];omega) (by simp[aZ];omega) (Nat.zero_le _) fun u g1 hu hn1 hf1 hvid=>?_
 have hu:Own g1 0 u 1 ((List.replicate (al.length+bl.length) (0:Int)).map ci):=by simpa [ci] using hu
 simp only[sx,SO.run,↓reduceIte,mA]
 refine eA (m:=al.length) (v:=v') (by omega) n1 (fun i t df g=>df=[]/\St t [(1,w'),(5,u)]/\∃L,Own g 0 u 1 (L.map ci)/\S.tO al bl i L) ⟨rfl,by simp[St,sx],_,hu,HQ al bl⟩ (by simp[sx]) (by simp[sx]) (by decide) (by rintro j t df g v s (rfl | rfl | rfl | rfl | rfl | rfl | rfl)<;>simp[St,sx]) ?_ ?_
 ·rintro i t df g hi ⟨rfl,⟨h1,h5,-⟩,L,hu,hO⟩ h6 h0
  obtain ⟨p,hp,-,hpm⟩:=af hi
  simp only[sx,SO.run]
  refine Gn (V:=S.ah (al.take i)*S.ah bl) (L:=L) hi hp (ha p hpm) (by omega) (by omega) hb ra rb n2 (by simp[St,sx,h0,h1,h5,h6]) hu (Hz hO.len hO.rng hO.zer hO.eq) ?_
  rintro t g L k ⟨h0,h1,h5,h6,-⟩ hu hI hk
  simp only[sx,sy,↓reduceIte]
  refine ⟨⟨?_,L,hu,IP hi hp hI hk rfl⟩,h6,h0⟩
  simp[St,h1,h5]
 ·rintro t df g ⟨rfl,⟨h1,h5,-⟩,L,hu,hO⟩ h0
  have hll:L.length<=200:=by have:=hO.len;omega
  have e3:=Kr hO hxv hy hm
  simp only[mu,sx,SO.run,↓reduceIte,h5]
  refine vM hu (by omega) fun v2 hv2=>?_
  rw[e3] at hv2
  simp only[sx,SO.run,↓reduceIte]
  exact ⟨_,v2,rfl,hv2⟩
theorem BM {d i:Nat}{v' w' u:AV}{e0:Int}{L:List Int}{Q:QT}{t:T}{g:G}(ht:St t [(0,v'),(1,w'),(7,.int .i64 (i:Int)),(8,.int .i64 e0)])(h5:tat t 5=u)(hu:Own g 0 u 1 (L.map ci))(hL:L.length<=100)(he:-20000<e0/\e0<20000)
  (fin:∀t g u e q,(e0<0/\e=e0+10000/\q=1)\/(0<=e0/\e=e0/\q=0)->St t [(0,v'),(1,w'),(7,.int .i64 (i:Int))]->tat t 5=u->tat t 6=.int .i64 q->Own g 0 u 1 ((L++[e]).map ci)->Q .norm t [] g) :
  wp C0 d none ej Q t [] g:=by
 obtain ⟨h0,h1,h7,h8,-⟩:=ht
 by_cases h:e0<0
 ·have w1:IntKind.wrap .i64 (e0+10000)=e0+10000:=an (by omega) (by omega)
  simp only[ej,gX,sx,sy,SO.run,↓reduceIte,Nat.reduceEqDiff,h5,h8,h,decide_true,w1]
  refine aJ (new:=[ci (e0+10000)]) (hu.step (Fr.new _ _)) (by simp[sx,sy,ci]) (by simp<;>omega) (by simp[aZ]<;>omega) fun v2 g2 hv2 n2 f2 _ l2=>?_
  simp only[sx,SO.run,↓reduceIte]
  exact fin _ _ v2 _ _ (.inl ⟨h,rfl,rfl⟩) (by simp[St,sx,h0,h1,h7]) (by simp[sx]) (by simp[sx]) (by simpa using hv2)
 ·simp only[ej,gX,sx,sy,SO.run,↓reduceIte,Nat.reduceEqDiff,h5,h8,h,decide_false]
  refine aJ (new:=[ci e0]) (hu.step (Fr.new _ _)) (by simp[sx,sy,ci]) (by simp<;>omega) (by simp[aZ]<;>omega) fun v2 g2 hv2 n2 f2 _ l2=>?_
  simp only[sx,SO.run,↓reduceIte]
  exact fin _ _ v2 _ _ (.inr ⟨by omega,rfl,rfl⟩) (by simp[St,sx,h0,h1,h7]) (by simp[sx]) (by simp[sx]) (by simpa using hv2)
theorem F7 {d k k2:Nat}{g:G}{P P2:Nat->Prop}{v w:AV}{x y:Nat}(hd:0<d)(hv:SlR P k g.h (S.dg x) v)(hw:SlR P2 k2 g.h (S.dg y) w)(hx:x<1000000000000000000000000000000000000000000000000)(hxy:y<=x) :
  ∃r,ak C0 d N.bC [v,w] g=.val r/\IT 0 (S.dg (x - y)) r:=by
 obtain ⟨v',e1,r1⟩:=be hv d
 obtain ⟨w',e2,r2⟩:=be hw d
 rw[sZ]
 have ha:=qJ x hx
 have hb:=qJ y (by omega)
 have hla:=iP x
 have hlb:=iP y
 refine aV xa (xs:=[v',w']) (by simp only[aH,e1,e2]) (by simp[lZ]) (aU _) (by decide) hd ?_
 have n1:=fun g=>(r1 .nil).len g
 have n2:=fun g=>(r2 .nil).len g
 have ra:∀h',ah h' 1 v'=some ((S.dg x).map ci):=fun h'=>(r1 h').ints
 have rb:∀h',ah h' 1 w'=some ((S.dg y).map ci):=fun h'=>(r2 h').ints
 simp only[lZ,sx,SO.run,my]
 refine eA (m:=(S.dg x).length) (v:=v') (by omega) n1 (fun i t df g=>df=[]/\St t [(1,w')]/\∃(u:AV) (r:Int) (L:List Int),tat t 5=u/\tat t 6=.int .i64 r/\Own g 0 u 1 (L.map ci)/\S.mI (S.dg x) (S.dg y) i r L) ⟨rfl,by simp[St,sx],.nils,0,[],by simp[sx],by simp[sx],.inl ⟨rfl,rfl⟩,GX _ _⟩ (by simp[sx]) (by simp[sx]) (by decide) (by rintro j t df g v s (rfl | rfl | rfl | rfl | rfl | rfl | rfl)<;>simp[St,sx]) ?_ ?_
 ·rintro i t df g hi ⟨rfl,⟨h1,-⟩,u,r,L,h5,h6,hu,hI⟩ h7 h0
  obtain ⟨p,hp,-,hpm⟩:=af hi
  have hp1:=ha p hpm
  have q1:i<((S.dg x).map ci).length:=by simpa using hi
  have q2:((S.dg x).map ci)[i]?=some (ci p):=by rw[List.getElem?_map,hp];rfl
  have r01:=hI.r01
  have hLl:=hI.len
  have w1:IntKind.wrap .i64 (p - r)=p - r:=an (by omega) (by omega)
  by_cases hk:i<(S.dg y).length
  ·obtain ⟨q,hq,-,hqm⟩:=af hk
   have hq1:=hb q hqm
   have q3:i<((S.dg y).map ci).length:=by simpa using hk
   have q4:((S.dg y).map ci)[i]?=some (ci q):=by rw[List.getElem?_map,hq];rfl
   have hkk:(i:Int)<((S.dg y).length:Int):=by omega
   have w2:IntKind.wrap .i64 (p - r - q)=p - r - q:=an (by omega) (by omega)
   simp only[sx,SO.run,↓reduceIte,Nat.reduceEqDiff,h0,h1,h6,h7,n2,ra,rb,q1,q2,q3,q4,ci,Option.isSome_some,Option.getD_some,w1,w2,hkk,decide_true]
   refine BM (v':=v') (w':=w') (i:=i) (e0:=p - r - q) (by simp[St,sx,h0,h1,h7]) (by simp[sx,h5]) hu (by omega) (by omega) ?_
   rintro t g u e z he ⟨h0,h1,h7,-⟩ h5 h6 hu
   simp only[sy]
   exact ⟨⟨by simp[St,h1],u,z,_,h5,h6,hu,DS hi ha hb hI hp (by rw[hq];rfl) he⟩,h7,h0⟩
  ·have hkk:¬(i:Int)<((S.dg y).length:Int):=by omega
   simp only[sx,SO.run,↓reduceIte,Nat.reduceEqDiff,h0,h1,h6,h7,n2,ra,q1,q2,ci,Option.isSome_some,Option.getD_some,w1,hkk,decide_false]
   refine BM (v':=v') (w':=w') (i:=i) (e0:=p - r) (by simp[St,sx,h0,h1,h7]) (by simp[sx,h5]) hu (by omega) (by omega) ?_
   rintro t g u e z he ⟨h0,h1,h7,-⟩ h5 h6 hu
   simp only[sy]
   exact ⟨⟨by simp[St,h1],u,z,_,h5,h6,hu,DS (y:=0) (e:=e) (q:=z) (x:=p) (r:=r) hi ha hb hI hp (by rw[List.getElem?_eq_none (by omega)];rfl) (by omega)⟩,h7,h0⟩
 ·rintro t df g ⟨rfl,⟨h1,-⟩,u,r,L,h5,h6,hu,hI⟩ h0
  have hll:L.length<=200:=by have:=hI.len;omega
  have e3:=KE hx hxy hI
  simp only[mK,sx,SO.run,↓reduceIte,h5]
  refine vM hu (by omega) fun v2 hv2=>?_
  rw[e3] at hv2
  simp only[sx,SO.run,↓reduceIte]
  exact ⟨_,v2,rfl,hv2⟩
end
end Hx
end
section
namespace Hx
open Go
noncomputable section
theorem Gs {A a b:Nat}:(10000*A+a) / b=10000*(A / b)+(10000*(A % b)+a) / b:=by
 rcases Nat.eq_zero_or_pos b with rfl | hb
 ·simp
 have h1:=Nat.div_add_mod A b
 have h2:10000*A+a=(10000*(A % b)+a)+b*(10000*(A / b)):=by
  have:10000*(b*(A / b)+A % b)=10000*A:=by rw[h1]
  rw[Nat.mul_add,Nat.mul_left_comm] at this
  omega
 rw[h2,Nat.add_mul_div_left _ _ hb,Nat.add_comm]
theorem Ik {A a b:Nat}:(10000*A+a) % b=(10000*(A % b)+a) % b:=by
 have h1:=Nat.div_add_mod A b
 have h2:10000*A+a=(10000*(A % b)+a)+b*(10000*(A / b)):=by
  have:10000*(b*(A / b)+A % b)=10000*A:=by rw[h1]
  rw[Nat.mul_add,Nat.mul_left_comm] at this
  omega
 rw[h2,Nat.add_mul_mod_self_left]
theorem Kv {r a b:Nat}(hr:r<b)(ha:a<10000):(10000*r+a) / b<10000:=by
 refine Nat.div_lt_of_lt_mul ?_
 have:r+1<=b:=hr
 have:=Nat.mul_le_mul_right 10000 this
 omega
theorem G3 {r a b:Nat}(hr:r<b)(ha:a<10000):10000*r+a<10000*b:=by omega
theorem IZ {R b M:Nat}(hb:0<b)(hM:0<M):R / M / (b / M+1)<=R / b:=by
 refine (Nat.le_div_iff_mul_le hb).2 ?_
 have h1:R / M / (b / M+1)*(b / M+1)<=R / M:=Nat.div_mul_le_self _ _
 have h2:R / M*M<=R:=Nat.div_mul_le_self _ _
 have h3:b<=(b / M+1)*M:=by
  have:=Nat.div_add_mod b M
  have h4:=Nat.mod_lt b hM
  rw[Nat.add_mul,Nat.one_mul,Nat.mul_comm]
  omega
 calc R / M / (b / M+1)*b<=R / M / (b / M+1)*((b / M+1)*M):=Nat.mul_le_mul_left _ h3
  _=R / M / (b / M+1)*(b / M+1)*M:=by rw[Nat.mul_assoc]
  _<=R / M*M:=Nat.mul_le_mul_right _ h1
  _<=R:=h2
theorem G_ {R b M:Nat}(hM:0<M)(ht:0<b / M):R / b<=R / M / (b / M):=by
 refine (Nat.le_div_iff_mul_le ht).2 ((Nat.le_div_iff_mul_le hM).2 ?_)
 have h1:b / M*M<=b:=Nat.div_mul_le_self _ _
 calc R / b*(b / M)*M=R / b*(b / M*M):=by rw[Nat.mul_assoc]
  _<=R / b*b:=Nat.mul_le_mul_left _ h1
  _<=R:=Nat.div_mul_le_self _ _
theorem JH {R b M:Nat}(hM:0<M)(hR:R<10000*b)(ht:0<b / M)(h:M=1\/10000<=b / M):R / M / (b / M)<=10000:=by
 rcases h with rfl | h
 ·rw[Nat.div_one,Nat.div_one]
  have:R / b<10000:=Nat.div_lt_of_lt_mul (by rw[Nat.mul_comm];exact hR)
  omega
 ·have h3:b<(b / M+1)*M:=by
   have:=Nat.div_add_mod b M
   have h4:=Nat.mod_lt b hM
   rw[Nat.add_mul,Nat.one_mul,Nat.mul_comm]
   omega
  have h4:R / M<10000*(b / M+1):=by
   refine Nat.div_lt_of_lt_mul ?_
   have:=Nat.mul_lt_mul_of_pos_left h3 (show 0<10000 by decide)
   have e:10000*((b / M+1)*M)=M*(10000*(b / M+1)):=by simp only[Nat.mul_assoc,Nat.mul_comm]
   omega
  refine Nat.le_of_lt_succ (Nat.div_lt_of_lt_mul ?_)
  have e:b / M*(10000+1)=10000*(b / M)+b / M:=by omega
  rw[Nat.succ_eq_add_one,e]
  omega
theorem GK {L:List Int}{i:Nat}{z:Int}(h:i<L.length):(L.set i z).drop i=z::L.drop (i+1):=by
 rw[List.drop_eq_getElem_cons (by simpa using h)]
 congr 1
 ·simp
 ·rw[List.drop_set,if_pos (by omega)]
theorem Dg {x b i:Nat}:x / 10000 ^ i / b=10000*(x / 10000 ^ (i+1) / b)+(10000*(x / 10000 ^ (i+1) % b)+x / 10000 ^ i % 10000) / b:=by
 rw[<-Gs,Nat.pow_succ,<-Nat.div_div_eq_div_mul]
 congr 1
 have:=Nat.div_add_mod (x / 10000 ^ i) 10000
 omega
theorem CZ {x b i:Nat}:x / 10000 ^ i % b=(10000*(x / 10000 ^ (i+1) % b)+x / 10000 ^ i % 10000) % b:=by
 rw[<-Ik,Nat.pow_succ,<-Nat.div_div_eq_div_mul]
 congr 1
 have:=Nat.div_add_mod (x / 10000 ^ i) 10000
 omega
structure S.qI (x b n:Nat) (i:Nat) (L:List Int):Prop where
 len:L.length=n
 rng:∀z∈L,0<=z/\z<10000
 eq:S.ah (L.drop i)=((x / 10000 ^ i / b:Nat):Int)
theorem GV {x b n:Nat}(h:x / 10000 ^ n<b):S.qI x b n n (List.replicate n 0):=by
 refine ⟨by simp,fun z hz=>?_,?_⟩
 ·have:=(List.mem_replicate.1 hz).2;omega
 ·rw[Nat.div_eq_of_lt h,List.drop_of_length_le (by simp)];rfl
theorem JA {x b n i q:Nat}{L:List Int}(h:S.qI x b n (i+1) L)(hb:0<b)(hi:i<n)(hq:q=(10000*(x / 10000 ^ (i+1) % b)+x / 10000 ^ i % 10000) / b):S.qI x b n i (L.set i (q:Int)):=by
 obtain ⟨hlen,hr,he⟩:=h
 have h1:=Kv (Nat.mod_lt (x / 10000 ^ (i+1)) hb) (Nat.mod_lt (x / 10000 ^ i) (show 0<10000 by decide))
 rw[<-hq] at h1
 refine ⟨by simpa using hlen,DZ hr (by omega),?_⟩
 rw[GK (by omega),S.ah,he,Dg (x:=x) (b:=b) (i:=i),<-hq]
 omega
theorem KH {x b n:Nat}{L:List Int}(h:S.qI x b n 0 L)(hx:x<1000000000000000000000000000000000000000000000000):S.bI L=S.dg (x / b):=by
 have:=Nat.div_le_self x b
 refine xJ h.rng ?_ (by omega)
 have he:=h.eq
 rw[Nat.pow_zero,Nat.div_one,List.drop_zero] at he
 exact he
theorem jJ {R i j:Nat}(h:R<10000 ^ (i+j)):R / 10000 ^ i<10000 ^ j:=Nat.div_lt_of_lt_mul (by rw[<-Nat.pow_add];exact h)
theorem t8 (R j:Nat):R / 10000 ^ j=R / 10000 ^ (j+1)*10000+R / 10000 ^ j % 10000:=by
 have:=Nat.div_add_mod (R / 10000 ^ j) 10000
 rw[Nat.pow_succ,<-Nat.div_div_eq_div_mul]
 omega
end
end Hx
end
section
namespace Hx
open Go
noncomputable section
theorem IK {w:AV}{l:List Int}{k:Nat}(hw:SlR NoP k .nil l w)(hne:l≠[]){c:Nat}(hc:c<=l.length) :
  ∃w',(∀g,rN 1 w (some (.int .i64 (c:Int))) none g=.val w')/\SlR NoP k .nil (l.drop c) w':=by
 have hlt:(l.drop c).length<9223372036854775808:=by have:=hw.1;rw[List.length_drop];omega
 have h:=hw.2
 unfold SlV at h
 split at h
 ·exact absurd h hne
 ·exact absurd h hne
 ·rename_i t s rows
  obtain ⟨h0,h1,h2⟩:=h
  have hlen:=h2.len
  have hs:s=1:=by
   rcases h1 with e | e
   ·exact e
   ·rw[e] at hlen;simp at hlen;exact absurd hlen hne
  subst hs
  refine ⟨.tsl t 1 (rows.drop c),fun g=>?_,hlt,h0,.inl rfl,h2.drop c⟩
  show orV (match aY (bj rows) (bj rows) none with
   | none=>none
   | some h=>match aY 0 h (some (.int .i64 (.ofNat c))) with
    | none=>none
    | some l=>az (Nat.beq 1 1) (some (.tsl t 1 (fK (h - l) (eP l rows)))) none)=_
  show orV (match aY 0 (bj rows) (some (.int .i64 (.ofNat c))) with
    | none=>none
    | some l=>az (Nat.beq 1 1) (some (.tsl t 1 (fK (bj rows - l) (eP l rows)))) none)=_
  have:aY 0 (bj rows) (some (.int .i64 (.ofNat c)))=some c:=by
   show az (Nat.ble c (bj rows)) (some c) none=_
   rw[aa,if_pos]
   rw[aD,<-hlen];simp;omega
  rw[this]
  show orV (az (Nat.beq 1 1) (some (AV.tsl t 1 (fK (bj rows - c) (eP c rows)))) none)=_
  rw[show Nat.beq 1 1=true from rfl,bif'_true,bg,bk,List.take_of_length_le (by rw[List.length_drop,aD];exact Nat.le_refl _)];rfl
 ·exact h.1.elim
 ·exact h.elim
theorem GM {a b:Nat}(h:a<=b):S.bf a b<=0:=by unfold S.bf;split<;>first | omega | (split<;>omega)
theorem KL {a b:Nat}(h:¬a<=b):¬S.bf a b<=0:=by unfold S.bf;rw[if_neg (by omega),if_neg (by omega)];omega
theorem H_ {m:Nat}(h:m<=10000):S.bN [(m:Int)]:=fun k z hz=>by
 cases k with
 | zero=>simp at hz;omega
 | succ k=>simp at hz
theorem Jh {m:Nat}(h:m<1000000000000000000000000000000000000000000000000):S.bN (S.dg m):=fun k z hz=>by
 have:=qJ m h z (List.mem_of_getElem? hz)
 omega
theorem Cg (g:G)(x:Int):Own (g.new (.cells 1 [[.int .i64 x]] 0 false false)) 0 (.hsl g.nx 0 0 1 none) 1 ([x].map ci):=.inr ⟨g.nx,0,false,Nat.zero_le _,by simp,rfl,by simp[bi,ci]⟩
def Dv (v w q r:AV)(n:Nat):List (Nat×AV):=[(0,v),(1,w),(6,.int .i64 (n:Int)),(7,q),(8,r)]
theorem IC {d k i n lo hi:Nat}{v w uq rest:AV}{y R:Nat}{P:Nat->Prop}{Q:QT}{t:T}{g:G}(hd:0<d)(hw:∀h,SlR NoP k h (S.dg y) w)(hy0:0<y)(hy:y*10000<1000000000000000000000000000000000000000000000000)(hR:R<1000000000000000000000000000000000000000000000000)
  (hr:SlR P 0 g.h (S.dg R) rest) (hP:∀i,P i->i<g.nx) (ht:St t ((9,.int .i64 (i:Int))::Dv v w uq rest n)) (h13:tat t 13=.int .i64 (lo:Int)) (h14:tat t 14=.int .i64 (hi:Int)) (hlo:lo<=R / y) (hhi:R / y<=hi) (hh:hi<=10000)
  (fin:∀t g',Fr g g'->St t ((9,.int .i64 (i:Int))::Dv v w uq rest n)->tat t 13=.int .i64 ((R / y:Nat):Int)->Q (.exit 4) t [] g') :
  wpL (wp C0 d none dW) Q t [] g:=by
 refine gt (fun z t df g'=>df=[]/\∃lo hi:Nat,z=hi - lo/\lo<=R / y/\R / y<=hi/\hi<=10000/\Fr g g'/\St t ((9,.int .i64 (i:Int))::Dv v w uq rest n)/\tat t 13=.int .i64 (lo:Int)/\tat t 14=.int .i64 (hi:Int)) (hi - lo)
  ⟨rfl,lo,hi,rfl,hlo,hhi,hh,Fr.refl _,ht,h13,h14⟩ ?_
 rintro z t df g' ⟨rfl,lo,hi,rfl,hlo,hhi,hh,hf,⟨h9,h0,h1,h6,h7,h8,-⟩,h13,h14⟩
 by_cases hlt:lo<hi
 ·have hltI:(lo:Int)<(hi:Int):=by omega
  obtain ⟨mid,hmid⟩:∃mid:Nat,mid=(lo+hi+1) / 2:=⟨_,rfl⟩
  have w1:IntKind.wrap .i64 ((lo:Int)+(hi:Int))=(lo:Int)+(hi:Int):=an (by omega) (by omega)
  have w2:IntKind.wrap .i64 ((lo:Int)+(hi:Int)+1)=(lo:Int)+(hi:Int)+1:=an (by omega) (by omega)
  have b1:cO .quo (.int .i64 ((lo:Int)+(hi:Int)+1)) (.int .i64 2)=.val (.int .i64 (mid:Int)):=by
   rw[wF (by omega) (by omega) (by decide)]
   congr 2;omega
  have m1:y*mid<=y*10000:=Nat.mul_le_mul_left _ (by omega)
  have hiff:mid<=R / y↔y*mid<=R:=by rw[Nat.le_div_iff_mul_le hy0,Nat.mul_comm]
  simp only[dW,sx,sy,SO.run,↓reduceIte,Nat.reduceEqDiff,h1,h13,h14,hltI,decide_true,w1,w2,b1]
  have ho:=Cg g' (mid:Int)
  refine a_ (zF (d:=d) (x:=y) (y:=mid) hd (hw _) (ho.sl (α:=Int) (k:=0) (P:=fun _=>True) (by simp) (All2.of_map (fun a=>aS.2 rfl) _) fun _ _=>trivial) (by omega) (H_ (by omega)) (by simp) (by simp[S.ah]) (by omega)) fun r hr2=>?_
  simp only[sx,SO.run,↓reduceIte,Nat.reduceEqDiff,h8]
  have hf2:Fr g (g'.new (.cells 1 [[.int .i64 (mid:Int)]] 0 false false)):=hf.trans (Fr.new _ _)
  refine a_ (Q:=fun z=>z=.int .i64 (S.bf (y*mid) R)) ⟨_,xG hd (hr2.sl _) (hr.far8 (h':=(g'.new (.cells 1 [[.int .i64 (mid:Int)]] 0 false false)).h) fun i hi=>hf2.2 i (hP i hi)) (by omega) hR,rfl⟩ ?_
  rintro _ rfl
  by_cases hle:y*mid<=R
  ·have hc:=GM hle
   simp only[sx,sy,SO.run,↓reduceIte,Nat.reduceEqDiff,hc,decide_true]
   refine ⟨hi - mid,by omega,mid,hi,rfl,hiff.2 hle,hhi,hh,hf2,?_,?_,?_⟩<;>simp[St,Dv,sx,h0,h1,h6,h7,h8,h9,h14]
  ·have hc:=KL hle
   have w3:IntKind.wrap .i64 ((mid:Int) - 1)=((mid - 1:Nat):Int):=by rw[an (by omega) (by omega)];omega
   have:¬mid<=R / y:=fun e=>hle (hiff.1 e)
   simp only[sx,sy,SO.run,↓reduceIte,Nat.reduceEqDiff,hc,decide_false,w3]
   refine ⟨mid - 1 - lo,by omega,lo,mid - 1,rfl,hlo,by omega,by omega,hf2,?_,?_,?_⟩<;>simp[St,Dv,sx,h0,h1,h6,h7,h8,h9,h13]
 ·have hltI:¬(lo:Int)<(hi:Int):=by omega
  have e:lo=R / y:=by omega
  simp only[dW,sx,SO.run,↓reduceIte,Nat.reduceEqDiff,h13,h14,hltI,decide_false]
  refine fin _ g' hf ?_ ?_
  ·simp[St,Dv,sx,h0,h1,h6,h7,h8,h9]
  ·simp[sx,h13,e]
theorem JJ {d k i n:Nat}{v w uq rest:AV}{y R m:Nat}{P:Nat->Prop}{Q:QT}{t:T}{g:G}(hw:∀h,SlR NoP k h (S.dg y) w)(hm:m=n - 1)(hn:n+1=(S.dg y).length)(hy:y<1000000000000000000000000000000000000000000000000)(hR:R<1000000000000000000000000000000000000000000000000)(hRy:R<10000*y)
  (hr:SlR P 0 g.h (S.dg R) rest) (ht:St t ((9,.int .i64 (i:Int))::Dv v w uq rest n)) (h10:tat t 10=.int .i64 0) (h11:tat t 11=.int .i64 0) (h12:tat t 12=.int .i64 ((n:Int)+1))
  (fin:∀t,St t ((9,.int .i64 (i:Int))::Dv v w uq rest n)->tat t 10=.int .i64 ((y / 10000 ^ m:Nat):Int)->tat t 11=.int .i64 ((R / 10000 ^ m:Nat):Int)->Q (.exit 2) t [] g) :
  wpL (wp C0 d none cI) Q t [] g:=by
 have hly:=iP y
 have yb:y<10000 ^ (n+1):=by rw[hn];exact sn hy
 have rb2:R<10000 ^ (n+2):=by rw[Nat.pow_succ];omega
 have hrl:=hr.len
 have hrr:=hr.ints
 have hwl:=fun g=>(hw .nil).len g
 have hwr:∀h,ah h 1 w=some ((S.dg y).map ci):=fun h=>(hw h).ints
 have lr:=iP R
 refine gt (fun z t df g'=>df=[]/\g'=g/\∃j:Nat,z=j/\m<=j/\j<=n+2/\St t ((9,.int .i64 (i:Int))::Dv v w uq rest n)/\tat t 10=.int .i64 ((y / 10000 ^ j:Nat):Int)/\tat t 11=.int .i64 ((R / 10000 ^ j:Nat):Int)/\tat t 12=.int .i64 ((j:Int) - 1)) (n+2)
  ⟨rfl,rfl,n+2,rfl,by omega,by omega,ht,?_,?_,?_⟩ ?_
 ·rw[h10,Nat.div_eq_of_lt (Nat.lt_of_lt_of_le yb (Nat.pow_le_pow_right (by decide) (by omega)))];rfl
 ·rw[h11,Nat.div_eq_of_lt rb2];rfl
 ·rw[h12];congr 1;omega
 rintro j t df g' ⟨rfl,rfl,_,rfl,hmj,hjn,⟨h9,h0,h1,h6,h7,h8,-⟩,h10,h11,h12⟩
 have w1:IntKind.wrap .i64 ((n:Int) - 1)=(n:Int) - 1:=an (by omega) (by omega)
 have m1:max 0 ((n:Int) - 1)=(m:Int):=by omega
 by_cases hj:m<j
 ·have hjI:(m:Int)<=(j:Int) - 1:=by omega
  obtain ⟨k,rfl⟩:∃k,j=k+1:=⟨j - 1,by omega⟩
  have ek:((k+1:Nat):Int) - 1=(k:Int):=by omega
  rw[ek] at h12 hjI
  have f1:R / 10000 ^ (k+1)<10000 ^ 2:=Nat.lt_of_lt_of_le (jJ (i:=k+1) (j:=n+2 - (k+1)) (by rw[show k+1+(n+2 - (k+1))=n+2 by omega];exact rb2)) (Nat.pow_le_pow_right (by decide) (by omega))
  have f2:y / 10000 ^ (k+1)<10000 ^ 2:=Nat.lt_of_lt_of_le (jJ (i:=k+1) (j:=n+2 - (k+1)) (by rw[show k+1+(n+2 - (k+1))=n+2 by omega];exact Nat.lt_of_lt_of_le yb (Nat.pow_le_pow_right (by decide) (by omega)))) (Nat.pow_le_pow_right (by decide) (by omega))
  have s1:=t8 R k
  have s2:=t8 y k
  have g1:=qw k R hR
  have g2:=qw k y hy
  have l1:=Nat.mod_lt (R / 10000 ^ k) (show 0<10000 by decide)
  have l2:=Nat.mod_lt (y / 10000 ^ k) (show 0<10000 by decide)
  have p2:10000 ^ 2=100000000:=rfl
  rw[p2] at f1 f2
  generalize R / 10000 ^ (k+1)=F at *
  generalize y / 10000 ^ (k+1)=U at *
  generalize R / 10000 ^ k % 10000=a at *
  generalize y / 10000 ^ k % 10000=b at *
  have w2:IntKind.wrap .i64 ((F:Int)*10000)=((F*10000:Nat):Int):=by rw[an (by omega) (by omega)];omega
  have tail:∀t,St t ((9,.int .i64 (i:Int))::Dv v w uq rest n)->tat t 10=.int .i64 (U:Int)->tat t 11=.int .i64 ((R / 10000 ^ k:Nat):Int)->tat t 12=.int .i64 (k:Int) ->
    wp C0 d none dU (fun e t df g2=>e=.norm/\df=[]/\g2=g'/\St t ((9,.int .i64 (i:Int))::Dv v w uq rest n)/\tat t 10=.int .i64 ((y / 10000 ^ k:Nat):Int)/\tat t 11=.int .i64 ((R / 10000 ^ k:Nat):Int)/\tat t 12=.int .i64 (k:Int)) t [] g':=by
   rintro t ⟨h9,h0,h1,h6,h7,h8,-⟩ h10 h11 h12
   by_cases hk:k<=n
   ·have hkI:(k:Int)<=(n:Int):=by omega
    have hkl:k<(S.dg y).length:=by omega
    obtain ⟨q,hq,-,-⟩:=af hkl
    have q1:k<((S.dg y).map ci).length:=by simpa using hkl
    have q2:((S.dg y).map ci)[k]?=some (ci q):=by rw[List.getElem?_map,hq];rfl
    rw[hq,Option.getD_some] at g2
    subst g2
    have w3:IntKind.wrap .i64 ((U:Int)*10000)=((U*10000:Nat):Int):=by rw[an (by omega) (by omega)];omega
    have w4:IntKind.wrap .i64 (((U*10000:Nat):Int)+(b:Int))=((y / 10000 ^ k:Nat):Int):=by rw[s2,an (by omega) (by omega)];omega
    simp only[dU,sx,sy,SO.run,↓reduceIte,Nat.reduceEqDiff,h1,h6,h10,h11,h12,hkI,decide_true,hwr,q1,q2,ci,Option.isSome_some,Option.getD_some,w3,w4]
    simp[St,Dv,sx,h0,h1,h6,h7,h8,h9]
   ·have hkI:¬(k:Int)<=(n:Int):=by omega
    have hb0:b=0:=by rw[List.getElem?_eq_none (by omega),Option.getD_none] at g2;omega
    have hU:y / 10000 ^ k=0:=Nat.div_eq_of_lt (Nat.lt_of_lt_of_le yb (Nat.pow_le_pow_right (by decide) (by omega)))
    have hU0:U=0:=by omega
    simp only[dU,sx,sy,SO.run,↓reduceIte,Nat.reduceEqDiff,h6,h10,h11,h12,hkI,decide_false]
    simp[St,Dv,sx,h0,h1,h6,h7,h8,h9,hU,hU0]
  have hin:=hrr
  by_cases hk:k<(S.dg R).length
  ·have hkI:(k:Int)<((S.dg R).length:Int):=by omega
   obtain ⟨p,hp,-,-⟩:=af hk
   have q1:k<((S.dg R).map ci).length:=by simpa using hk
   have q2:((S.dg R).map ci)[k]?=some (ci p):=by rw[List.getElem?_map,hp];rfl
   rw[hp,Option.getD_some] at g1
   subst g1
   have w3:IntKind.wrap .i64 (((F*10000:Nat):Int)+(a:Int))=((R / 10000 ^ k:Nat):Int):=by rw[s1,an (by omega) (by omega)];omega
   simp only[cI,sx,SO.run,↓reduceIte,Nat.reduceEqDiff,h6,h8,h11,h12,w1,m1,hjI,decide_true,w2,hrl,hkI,hin,q1,q2,ci,Option.isSome_some,Option.getD_some,w3]
   refine cM _ (tail _ (by simp[St,Dv,sx,h0,h1,h6,h7,h8,h9]) (by simp[sx,h10]) (by simp[sx]) (by simp[sx,h12])) ?_
   rintro e t df g2 ⟨rfl,rfl,rfl,⟨h9,h0,h1,h6,h7,h8,-⟩,h10,h11,h12⟩
   have w5:IntKind.wrap .i64 ((k:Int) - 1)=(k:Int) - 1:=an (by omega) (by omega)
   simp only[gG,sx,sy,SO.run,↓reduceIte,Nat.reduceEqDiff,h12,w5]
   refine ⟨k,by omega,k,rfl,by omega,by omega,?_,?_,?_,?_⟩<;>simp[St,Dv,sx,h0,h1,h6,h7,h8,h9,h10,h11]
  ·have hkI:¬(k:Int)<((S.dg R).length:Int):=by omega
   have ha0:a=0:=by rw[List.getElem?_eq_none (by omega),Option.getD_none] at g1;omega
   have w3:((F*10000:Nat):Int)=((R / 10000 ^ k:Nat):Int):=by rw[s1];omega
   simp only[cI,sx,SO.run,↓reduceIte,Nat.reduceEqDiff,h6,h8,h11,h12,w1,m1,hjI,decide_true,w2,hrl,hkI,decide_false]
   refine cM _ (tail _ (by simp[St,Dv,sx,h0,h1,h6,h7,h8,h9]) (by simp[sx,h10]) (by simp[sx,w3]) (by simp[sx,h12])) ?_
   rintro e t df g2 ⟨rfl,rfl,rfl,⟨h9,h0,h1,h6,h7,h8,-⟩,h10,h11,h12⟩
   have w5:IntKind.wrap .i64 ((k:Int) - 1)=(k:Int) - 1:=an (by omega) (by omega)
   simp only[gG,sx,sy,SO.run,↓reduceIte,Nat.reduceEqDiff,h12,w5]
   refine ⟨k,by omega,k,rfl,by omega,by omega,?_,?_,?_,?_⟩<;>simp[St,Dv,sx,h0,h1,h6,h7,h8,h9,h10,h11]
 ·have hjI:¬(m:Int)<=(j:Int) - 1:=by omega
  have e:j=m:=by omega
  subst e
  simp only[cI,sx,SO.run,↓reduceIte,Nat.reduceEqDiff,h6,h12,w1,m1,hjI,decide_false]
  refine fin _ ?_ ?_ ?_
  ·simp[St,Dv,sx,h0,h1,h6,h7,h8,h9]
  ·simp[sx,h10]
  ·simp[sx,h11]
end
end Hx
end
section
namespace Hx
open Go
noncomputable section
theorem SlR.wd {α:Type} [Rp α]{P P':Nat->Prop}{k:Nat}{h h':H}{l:List α}{v:AV}(r:SlR P k h l v)(hf:∀i,P i->P' i/\h'.get i=h.get i):SlR P' k h' l v:=by
 obtain ⟨w,hw,q⟩:=Rp.mono (k':=k) (P':=P') (h':=h') (show Rp.rp P k h l [v] from ⟨v,rfl,r⟩) hf (Nat.le_refl _)
 injection hw with hw;subst hw;exact q
theorem Ch (g:G){b:Nat}(hb:b<=g.nx):Own (g.new (.cells 1 [] 0 false false)) b (.hsl g.nx 0 0 0 none) 1 []:=.inr ⟨g.nx,0,false,hb,by simp,rfl,by simp[bi]⟩
def DvJ (v w q:AV)(n x y N:Nat)(i:Nat):PT:=fun t df g=>df=[]/\St t [(0,v),(1,w),(6,.int .i64 (n:Int)),(7,q)]/\∃rest L,tat t 8=rest/\Own g 0 q 1 (L.map ci)/\S.qI x y N i L/\SlR (fun j=>j<g.nx/\vid q≠some j) 0 g.h (S.dg (x / 10000 ^ i % y)) rest
theorem Kw {d k i n N:Nat}{v w uq rest:AV}{x y R:Nat}{P:Nat->Prop}{Q:QT}{t:T}{g:G}{L:List Int}(hd:0<d)(hw:∀h,SlR NoP k h (S.dg y) w)(hy0:0<y)(hy:y*10000<1000000000000000000000000000000000000000000000000)(hR:R<10000*y)
  (hr:SlR P 0 g.h (S.dg R) rest) (hP:∀j,P j->j<g.nx/\vid uq≠some j) (hu:Own g 0 uq 1 (L.map ci)) (hq:S.qI x y N (i+1) L) (hi:i<N) (hRx:R=10000*(x / 10000 ^ (i+1) % y)+x / 10000 ^ i % 10000)
  (ht:St t ((9,.int .i64 (i:Int))::Dv v w uq rest n)) (h13:tat t 13=.int .i64 ((R / y:Nat):Int))
  (fin:∀t g,DvJ v w uq n x y N i t [] g->tat t 9=.int .i64 (i:Int)->Q .norm t [] g) :
  wp C0 d none gE Q t [] g:=by
 obtain ⟨h9,h0,h1,h6,h7,h8,-⟩:=ht
 have hlL:i<L.length:=by rw[hq.len];exact hi
 have hq2:=JA (q:=R / y) hq hy0 hi (by rw[hRx])
 have ql:R / y<10000:=Nat.div_lt_of_lt_mul (by rw[Nat.mul_comm];exact hR)
 have hmul:y*(R / y)<=R:=Nat.mul_div_le R y
 have hmod:R - y*(R / y)=x / 10000 ^ i % y:=by rw[CZ,<-hRx];have:=Nat.div_add_mod R y;omega
 obtain ⟨p,hp,-,-⟩:=af hlL
 have q1:i<(L.map ci).length:=by simpa using hlL
 have q2:(L.map ci)[i]?=some (ci p):=by rw[List.getElem?_map,hp];rfl
 have ur:=hu.rows
 simp only[gE,sx,SO.run,↓reduceIte,Nat.reduceEqDiff,h7,h9,h13,ur,q1,Option.isSome_some,Option.getD_some]
 refine bp (v:=uq) (sz:=1) (n:=1) (i:=i) (off:=0) (x:=.int .i64 ((R / y:Nat):Int)) (row':=ci ((R / y:Nat):Int)) hu q2 rfl rfl rfl fun g4 hu4 n4 f4=>?_
 rw[re] at hu4
 simp only[sx,sy,SO.run,↓reduceIte,Nat.reduceEqDiff,h1,h8,h13]
 refine vM (l:=[((R / y:Nat):Int)]) (Cg g4 _) (by simp) fun v5 hv5=>?_
 rw[xJ (n:=R / y) (by intro z hz;rw[List.mem_singleton.1 hz];exact ⟨Int.natCast_nonneg _,Int.ofNat_lt.2 ql⟩) (by simp[S.ah]) (by omega)] at hv5
 simp only[sx,SO.run,↓reduceIte,Nat.reduceEqDiff]
 refine a_ (zF (d:=d) (x:=y) (y:=R / y) hd (hw _) hv5 (by omega) (Jh (by omega)) (by have:=iP (R / y);omega) (nm _ (by omega)) (by omega)) fun r6 hr6=>?_
 simp only[sx,SO.run,↓reduceIte,Nat.reduceEqDiff]
 have hr7:SlR (fun _=>True) 0 (g4.new (.cells 1 [[.int .i64 ((R / y:Nat):Int)]] 0 false false)).h (S.dg R) rest:=hr.wd fun j hj=>⟨trivial,by
  obtain ⟨a,b⟩:=hP j hj
  rw[G.new_h,aq _ _ _ (by omega),f4 j b]⟩
 refine a_ (F7 (d:=d) (x:=R) (y:=y*(R / y)) hd hr7 (hr6.sl _) (by omega) hmul) fun r8 hr8=>?_
 rw[hmod] at hr8
 simp only[sx,SO.run,↓reduceIte]
 refine fin _ _ ⟨rfl,?_,r8,_,?_,hu4.step (Fr.new _ _),hq2,(hr8.sl .nil).wd fun _ h=>h.elim⟩ ?_
 ·simp[St,sx,h0,h1,h6,h7]
 ·simp[sx]
 ·simp[sx,h9]
theorem qE {d k k2:Nat}{g:G}{P P2:Nat->Prop}{v w:AV}{x y:Nat}(hd:0<d)(hv:SlR P k g.h (S.dg x) v)(hw:SlR P2 k2 g.h (S.dg y) w)(hx:x<1000000000000000000000000000000000000000000000000)(hy0:0<y)(hy:y*10000<1000000000000000000000000000000000000000000000000) :
  ∃r,ak C0 d N.aH [v,w] g=.val r/\sJ (One (S.dg (x / y))) (One (S.dg (x % y))) NoP 0 .nil r:=by
 obtain ⟨v',e1,r1⟩:=be hv d
 obtain ⟨w',e2,r2⟩:=be hw d
 rw[sw]
 have hlx:=iP x
 have hly:=iP y
 have hyl:=Eb (n:=y) (by omega) (by omega)
 refine aV uY (xs:=[v',w']) (by simp only[aH,e1,e2]) (by simp[ge]) (dC (m:=1) (aU _) (aU _) (by decide) (by decide)) (by decide) hd ?_
 have n1:=fun g=>(r1 .nil).len g
 have n2:=fun g=>(r2 .nil).len g
 have ra:∀h',ah h' 1 v'=some ((S.dg x).map ci):=fun h'=>(r1 h').ints
 obtain ⟨n,hn⟩:∃n,n+1=(S.dg y).length:=⟨(S.dg y).length - 1,by omega⟩
 have w1:IntKind.wrap .i64 (((S.dg y).length:Int) - 1)=(n:Int):=by rw[an (by omega) (by omega)];omega
 have ybx:10000 ^ n<=y:=by have:=JT (n:=y) (by omega) (by omega);rw[<-hn] at this;exact this
 by_cases hle:(S.dg x).length<=n
 ·have hleI:((S.dg x).length:Int)<=(n:Int):=by omega
  have hlt:x<y:=Nat.lt_of_lt_of_le (Nat.lt_of_lt_of_le (sn hx) (Nat.pow_le_pow_right (by decide) hle)) ybx
  simp only[ge,sx,sy,SO.run,↓reduceIte,Nat.reduceEqDiff,n1,n2,w1,hleI,decide_true]
  refine aJ (b:=0) (new:=(S.dg x).map ci) (Ch _ (Nat.zero_le _)) (ra _) (Nat.zero_le _) (by simp[aZ];omega) fun v2 g2 hv2 n2 f2 _ l2=>?_
  simp only[sx,sy,SO.run,↓reduceIte,Nat.reduceEqDiff]
  refine ⟨fun _=>True,.nils,v2,rfl,?_,?_⟩
  ·rw[Nat.div_eq_of_lt hlt]
   exact ⟨.nils,rfl,by show 0<9223372036854775808;decide,rfl⟩
  ·rw[Nat.mod_eq_of_lt hlt]
   exact Own.ints (by simpa using hv2) (by omega)
 ·have hleI:¬((S.dg x).length:Int)<=(n:Int):=by omega
  obtain ⟨N,hN⟩:∃N,N+n=(S.dg x).length:=⟨(S.dg x).length - n,by omega⟩
  have w2:IntKind.wrap .i64 (((S.dg x).length:Int) - (n:Int))=(N:Int):=by rw[an (by omega) (by omega)];omega
  obtain ⟨w3,hs,hw3⟩:=IK (c:=N) (r1 .nil) (by intro e;rw[e] at hN hle;simp at hN hle) (by omega)
  rw[Eg N x hx] at hw3
  have hAn:x / 10000 ^ N<10000 ^ n:=jJ (by rw[hN];exact sn hx)
  have hAy:x / 10000 ^ N<y:=Nat.lt_of_lt_of_le hAn ybx
  simp only[ge,sx,SO.run,↓reduceIte,Nat.reduceEqDiff,n1,n2,w1,hleI,decide_false,w2]
  refine ji (b:=0) (n:=N) (by simp[aZ];omega) (by simp[aZ];omega) (Nat.zero_le _) fun uq g1 hu hn1 hf1 hvid=>?_
  have hu:Own g1 0 uq 1 ((List.replicate N (0:Int)).map ci):=by simpa [ci] using hu
  simp only[sx,sy,SO.run,↓reduceIte,Nat.reduceEqDiff,n1,w2,List.head?_nil,List.head?_cons,hs]
  have hl3:=iP (x / 10000 ^ N)
  refine aJ (b:=g1.nx) (new:=(S.dg (x / 10000 ^ N)).map ci) (Ch _ (Nat.le_refl _)) (hw3.tree (Nat.le_refl _)).ints (by simp) (by simp[aZ];omega) fun v4 g4 hv4 n4 f4 _ l4=>?_
  have hv4:Own g4 g1.nx v4 1 ((S.dg (x / 10000 ^ N)).map ci):=by simpa using hv4
  have hf14:Fr g1 g4:=⟨by simp at n4;omega,fun i hi=>by rw[f4 i (by simp;omega) (by intro e;injection e with e;omega),G.new_h,aq _ _ _ (by omega)]⟩
  have hu4:=hu.step hf14
  have hl4:eD .slice uq g4=.val (.int .i64 (N:Int)):=by rw[bh hu4.rows];simp
  have w4:IntKind.wrap .i64 ((N:Int) - 1)=(N:Int) - 1:=an (by omega) (by omega)
  simp only[sx,SO.run,↓reduceIte,Nat.reduceEqDiff,hl4,w4,kY,lj]
  refine j4 (m:=N) (by omega) (DvJ v' w' uq n x y N) ⟨rfl,by simp[St,sx],v4,_,by simp[sx],hu4,GV hAy,?_⟩ (by simp[sx]) (by decide) (by rintro j t df g v s (rfl | rfl | rfl | rfl | rfl)<;>simp[DvJ,St,sx]) ?_ ?_
  ·rw[Nat.mod_eq_of_lt hAy]
   exact hv4.sl (by omega) (All2.of_map (fun a=>aS.2 rfl) _) fun i hi=>⟨(hv4.lt hi).2,fun e=>by have:=(hu.lt e).2;have:=(hv4.lt hi).1;omega⟩
  ·rintro i t df g hi ⟨rfl,⟨h0,h1,h6,h7,-⟩,rest,L,h8,hu,hq,hr⟩ h9
   have hil:i<(S.dg x).length:=by omega
   obtain ⟨p,hp,-,-⟩:=af hil
   have q1:i<((S.dg x).map ci).length:=by simpa using hil
   have q2:((S.dg x).map ci)[i]?=some (ci p):=by rw[List.getElem?_map,hp];rfl
   have gp:=qw i x hx
   rw[hp,Option.getD_some] at gp
   have ha:=Nat.mod_lt (x / 10000 ^ i) (show 0<10000 by decide)
   have hry:=Nat.mod_lt (x / 10000 ^ (i+1)) hy0
   obtain ⟨R,hR⟩:∃R,R=10000*(x / 10000 ^ (i+1) % y)+x / 10000 ^ i % 10000:=⟨_,rfl⟩
   have hRy:R<10000*y:=by rw[hR];exact G3 hry ha
   have hlr:=iP (x / 10000 ^ (i+1) % y)
   have hcut:S.bI (p::S.dg (x / 10000 ^ (i+1) % y))=S.dg R:=by
    refine xJ (fun z hz=>?_) ?_ (by omega)
    ·rcases List.mem_cons.1 hz with rfl | hz
     ·omega
     ·exact qJ _ (by omega) z hz
    ·rw[S.ah,nm _ (by omega),gp,hR];omega
   have w5:IntKind.wrap .i64 ((n:Int)+1)=(n:Int)+1:=an (by omega) (by omega)
   simp only[sx,sy,SO.run,↓reduceIte,Nat.reduceEqDiff,h0,h8,h9,ra,q1,q2,ci,Option.isSome_some,Option.getD_some]
   refine aJ (b:=g.nx) (rows:=[p].map ci) (new:=(S.dg (x / 10000 ^ (i+1) % y)).map ci) (vz (Nat.le_refl _) _) (hr.far8 fun j hj=>by rw[G.new_h,aq _ _ _ (by omega)]).ints (by simp) (by simp[aZ];omega) fun v2 g2 hv2 n2 f2 _ l2=>?_
   have hv2:Own g2 g.nx v2 1 ((p::S.dg (x / 10000 ^ (i+1) % y)).map ci):=by simpa using hv2
   have hf2:Fr g g2:=⟨by simp at n2;omega,fun i hi=>by rw[f2 i (by simp;omega) (by intro e;injection e with e;omega),G.new_h,aq _ _ _ (by omega)]⟩
   simp only[sx,SO.run,↓reduceIte]
   refine vM hv2 (by simp;omega) fun v3 hv3=>?_
   rw[hcut] at hv3
   simp only[sx,SO.run,↓reduceIte,Nat.reduceEqDiff,h6,w5]
   have hP3:∀j,vid v2=some j->j<g2.nx/\vid uq≠some j:=fun j hj=>⟨(hv2.lt hj).2,fun e=>by have:=(hu.lt e).2;have:=(hv2.lt hj).1;omega⟩
   obtain ⟨m,hm⟩:∃m,m=n - 1:=⟨_,rfl⟩
   refine JJ (i:=i) (n:=n) (v:=v') (uq:=uq) (rest:=v3) (m:=m) (R:=R) (k:=max k2 d) r2 hm hn (by omega) (by omega) hRy hv3 (by simp[St,Dv,sx,h0,h1,h6,h7,h9]) (by simp[sx]) (by simp[sx]) (by simp[sx]) ?_
   rintro t ⟨h9,h0,h1,h6,h7,h8,-⟩ h10 h11
   have hM:0<10000 ^ m:=Nat.pow_pos (by decide)
   have ht0:0<y / 10000 ^ m:=Nat.div_pos (Nat.le_trans (Nat.pow_le_pow_right (by decide) (by omega)) ybx) hM
   have htM:10000 ^ m=1\/10000<=y / 10000 ^ m:=by
    by_cases h:m=0
    ·left;rw[h]
    ·right
     refine (Nat.le_div_iff_mul_le hM).2 (Nat.le_trans (Nat.le_of_eq ?_) ybx)
     rw[show n=m+1 by omega,Nat.pow_succ,Nat.mul_comm]
   have d1:=IZ (R:=R) (b:=y) hy0 hM
   have d2:=G_ (R:=R) hM ht0
   have d3:=JH hM hRy ht0 htM
   have t1:y / 10000 ^ m<10000 ^ 2:=jJ (Nat.lt_of_lt_of_le (sn (n:=y) (by omega)) (Nat.pow_le_pow_right (by decide) (by omega)))
   have t2:R / 10000 ^ m<10000 ^ 3:=jJ (by
    have:=sn (n:=y) (by omega)
    rw[<-hn] at this
    refine Nat.lt_of_lt_of_le (m:=10000 ^ (n+2)) ?_ (Nat.pow_le_pow_right (by decide) (by omega))
    rw[Nat.pow_succ];omega)
   generalize y / 10000 ^ m=U at *
   generalize R / 10000 ^ m=F at *
   have p2:10000 ^ 2=100000000:=rfl
   have p3:10000 ^ 3=1000000000000:=rfl
   rw[p2] at t1
   rw[p3] at t2
   have w6:IntKind.wrap .i64 ((U:Int)+1)=((U+1:Nat):Int):=by rw[an (by omega) (by omega)];omega
   have b1:=vE (x:=F) (y:=U+1) (by omega) (by omega)
   have b2:=vE (x:=F) (y:=U) (by omega) ht0
   simp only[lp,sx,sy,SO.run,↓reduceIte,Nat.reduceEqDiff,h10,h11,w6,b1,b2]
   refine IC (d:=d+1) (i:=i) (n:=n) (v:=v') (w:=w') (uq:=uq) (rest:=v3) (y:=y) (R:=R) (k:=max k2 d) (lo:=F / (U+1)) (hi:=F / U) (Nat.succ_pos d) r2 hy0 hy (by omega) hv3 (fun j hj=>(hP3 j hj).1) (by simp[St,Dv,sx,h0,h1,h6,h7,h8,h9]) (by simp[sx]) (by simp[sx]) d1 d2 d3 ?_
   rintro t g3 hf3 ht3 h13
   simp only[sx,↓reduceIte]
   refine Kw (d:=d+1) (k:=max k2 d) (P:=fun j=>vid v2=some j) (N:=N) (x:=x) (Nat.succ_pos d) r2 hy0 hy hRy (hv3.far8 fun j hj=>hf3.2 j (hP3 j hj).1) (fun j hj=>⟨Nat.lt_of_lt_of_le (hP3 j hj).1 hf3.1,(hP3 j hj).2⟩) (hu.step (hf2.trans hf3)) hq hi hR ht3 h13 ?_
   rintro t g hJ h9
   exact ⟨hJ,h9⟩
  ·rintro t df g ⟨rfl,⟨h0,h1,h6,h7,-⟩,rest,L,h8,hu,hq,hr⟩
   have hLl:=hq.len
   simp only[lI,sx,SO.run,↓reduceIte,h7]
   refine vM hu (by omega) fun v9 hv9=>?_
   rw[KH hq hx] at hv9
   rw[Nat.pow_zero,Nat.div_one] at hr
   simp only[sx,sy,SO.run,↓reduceIte,Nat.reduceEqDiff,h8]
   exact ⟨fun _=>True,v9,rest,rfl,⟨v9,rfl,hv9.wd fun _ _=>⟨trivial,rfl⟩⟩,⟨rest,rfl,hr.wd fun _ _=>⟨trivial,rfl⟩⟩⟩
end
end Hx
end
section
namespace Hx
open Go
noncomputable section
theorem JB {d:Nat}{g:G}{v w:AV}{x y:Nat}(hd:0<d)(hv:IT 0 (S.dg x) v)(hw:IT 0 (S.dg y) w)(hx:x*10000<1000000000000000000000000000000000000000000000000)(hy:y*10000<1000000000000000000000000000000000000000000000000) :
  ∃r,ak C0 d N.bB [v,w] g=.val r/\IT 0 (S.dg (Nat.gcd x y)) r:=by
 rw[xA]
 refine aV Av (xs:=[v,w]) (by simp only[aH,cG d (hv.sl g.h),cG d (hw.sl g.h)]) (by simp[pf]) (aU _) (by decide) hd ?_
 simp only[pf,sx,SO.run]
 refine gt (fun n t df g=>df=[]/\∃(a b:Nat) (va vb:AV),n=b/\a*10000<1000000000000000000000000000000000000000000000000/\b*10000<1000000000000000000000000000000000000000000000000/\Nat.gcd a b=Nat.gcd x y/\tat t 0=va/\tat t 1=vb/\IT 0 (S.dg a) va/\IT 0 (S.dg b) vb) y
  ⟨rfl,x,y,v,w,rfl,hx,hy,rfl,by simp[sx],by simp[sx],hv,hw⟩ ?_
 rintro b t df g ⟨rfl,a,_,va,vb,rfl,ha,hb,hg,h0,h1,hva,hvb⟩
 have hl:=hvb.len
 by_cases hb0:b=0
 ·subst hb0
  have q0:¬((0:Int)<((S.dg 0).length:Int)):=by rw[lz];simp
  rw[Nat.gcd_zero_right] at hg
  subst hg
  simp only[kz,oD,sx,SO.run,↓reduceIte,Nat.reduceEqDiff,h0,h1,hl,q0,decide_false]
  exact ⟨fun _=>True,va,rfl,(hva.sl g.h).wd fun _ h=>h.elim⟩
 ·have q0:(0:Int)<((S.dg b).length:Int):=by have:=Eb (n:=b) hb0 (by omega);omega
  simp only[kz,sx,SO.run,↓reduceIte,Nat.reduceEqDiff,h0,h1,hl,q0,decide_true]
  refine a_ (qE (d:=d+1) (Nat.succ_pos d) (hva.sl g.h) (hvb.sl g.h) (by omega) (Nat.pos_of_ne_zero hb0) hb) ?_
  rintro _ ⟨r1,r2,rfl,h3,h4⟩
  have hlt:=Nat.mod_lt a (Nat.pos_of_ne_zero hb0)
  simp only[sx,sy,SO.run,↓reduceIte,Nat.reduceEqDiff,h1]
  refine ⟨a % b,hlt,b,a % b,vb,r2,rfl,hb,Nat.lt_of_le_of_lt (Nat.mul_le_mul_right _ (Nat.le_of_lt hlt)) hb,?_,?_,?_,hvb,h4⟩
  ·rw[<-hg,Nat.gcd_comm a b,Nat.gcd_comm b (a % b),<-Nat.gcd_rec]
  ·simp[sx]
  ·simp[sx]
theorem yQ {d k:Nat}{g:G}{P:Nat->Prop}{v:AV}{x:Nat}(hd:0<d)(hv:SlR P k g.h (S.dg x) v)(hx:x<=4611686018427387903) :
  ak C0 d N.aq [v] g=.val (.tup [.int .i64 (x:Int),.bool true]):=by
 have key:∃r,ak C0 d N.aq [v] g=.val r/\sJ (One (x:Int)) (One true) NoP 0 .nil r:=by
  obtain ⟨v',e1,r1⟩:=be hv d
  rw[t_]
  refine aV wi (xs:=[v']) (by simp only[aH,e1]) (by simp[lS]) (dC (m:=1) (aU _) (aU _) (by decide) (by decide)) (by decide) hd ?_
  have n1:=fun g=>(r1 .nil).len g
  have ra:∀h',ah h' 1 v'=some ((S.dg x).map ci):=fun h'=>(r1 h').ints
  have hlx:=iP x
  have w1:IntKind.wrap .i64 (((S.dg x).length:Int) - 1)=((S.dg x).length:Int) - 1:=an (by omega) (by omega)
  simp only[lS,sx,SO.run,↓reduceIte,Nat.reduceEqDiff]
  obtain ⟨M,hM⟩:∃M:Nat,M=4611686018427387903:=⟨_,rfl⟩
  have hMI:(M:Int)=4611686018427387903:=by omega
  have hdg:=fun g=>tS (d:=d+1) (g:=g) (n:=M) (Nat.succ_pos d) (by omega)
  rw[hMI] at hdg
  refine a_ (hdg _) fun r hr=>?_
  have hc:∀g,ak C0 (d+1) N.aJ [v',r] g=.val (.int .i64 (S.bf x M)):=fun g=>xG (Nat.succ_pos d) (r1 g.h) (hr.sl g.h) (by omega) (by omega)
  have hc2:¬(0<S.bf x M):=by have:=GM (a:=x) (b:=M) (by omega);omega
  simp only[sx,SO.run,↓reduceIte,Nat.reduceEqDiff,hc,hc2,decide_false,n1,w1,mE]
  refine j4 (m:=(S.dg x).length) (by omega) (fun j t df g=>df=[]/\St t [(0,v')]/\tat t 4=.int .i64 ((x / 10000 ^ j:Nat):Int)) ⟨rfl,by simp[St,sx],?_⟩ (by simp[sx]) (by decide) (by rintro j t df g v s (rfl | rfl | rfl | rfl | rfl)<;>simp[St,sx]) ?_ ?_
  ·rw[Nat.div_eq_of_lt (sn (by omega))];simp[sx]
  ·rintro j t df g hj ⟨rfl,⟨h0,-⟩,h4⟩ h5
   obtain ⟨p,hp,-,-⟩:=af hj
   have ep:=qw j x (by omega)
   rw[hp,Option.getD_some] at ep
   have q1:j<((S.dg x).map ci).length:=by simpa using hj
   have q2:((S.dg x).map ci)[j]?=some (ci p):=by rw[List.getElem?_map,hp];rfl
   have hs:=t8 x j
   have hl:=Nat.div_le_self x (10000 ^ j)
   generalize x / 10000 ^ (j+1)=F at *
   generalize x / 10000 ^ j % 10000=a at *
   subst ep
   have w2:IntKind.wrap .i64 (10000*(F:Int))=((10000*F:Nat):Int):=by rw[an (by omega) (by omega)];omega
   have w3:IntKind.wrap .i64 (((10000*F:Nat):Int)+(a:Int))=((x / 10000 ^ j:Nat):Int):=by rw[hs,an (by omega) (by omega)];omega
   simp only[sx,sy,SO.run,↓reduceIte,Nat.reduceEqDiff,h0,h4,h5,ra,q1,q2,ci,Option.isSome_some,Option.getD_some,w2,w3]
   simp[St,sx,h0]
  ·rintro t df g ⟨rfl,⟨h0,-⟩,h4⟩
   rw[Nat.pow_zero,Nat.div_one] at h4
   simp only[mX,sx,sy,SO.run,↓reduceIte,Nat.reduceEqDiff,h4]
   exact ⟨fun _=>True,_,_,rfl,aS.2 rfl,jo.2 rfl⟩
 obtain ⟨z,h1,a,b,rfl,h2,h3⟩:=key
 have h2:=aS.1 h2
 have h3:=jo.1 h3
 injection h2 with h2
 injection h3 with h3
 rw[h1,h2,h3]
theorem FA {x y:Nat}(hy:0<y):0<Nat.gcd x y/\Nat.gcd x y<=y/\x / Nat.gcd x y<=x/\y / Nat.gcd x y<=y :=
 ⟨Nat.gcd_pos_of_pos_right x hy,Nat.le_of_dvd hy (Nat.gcd_dvd_right x y),Nat.div_le_self _ _,Nat.div_le_self _ _⟩
theorem Ia {d:Nat}{g:G}{v w:AV}{x y:Nat}(hd:0<d)(hv:IT 0 (S.dg x) v)(hw:IT 0 (S.dg y) w)(hx:x<=4611686018427387903)(hy0:0<y)(hy:y<=4611686018427387903) :
  ak C0 d N.aP [.bool false,v,w] g=.val (.tup [.agg [.int .i64 (S.aD x y).1,.int .i64 (S.aD x y).2],.bool true]):=by
 have key:∃r,ak C0 d N.aP [.bool false,v,w] g=.val r/\sJ (Agg (S.aD x y)) (One true) NoP 0 .nil r:=by
  obtain ⟨g0,g1,g2,g3⟩:=FA (x:=x) hy0
  rw[uZ]
  refine aV xW (xs:=[.bool false,v,w]) (by simp only[aH,HT 0,cG d (hv.sl g.h),cG d (hw.sl g.h)]) (by simp[ni]) (dC (m:=2) (aQ _) (aU _) (by decide) (by decide)) (by decide) hd ?_
  simp only[ni,pg,sx,sy,SO.run,↓reduceIte,Nat.reduceEqDiff,Nat.reduceAdd]
  refine a_ (JB (Nat.succ_pos d) hv hw (by omega) (by omega)) fun r hr=>?_
  simp only[sx,SO.run,↓reduceIte,Nat.reduceEqDiff]
  refine a_ (qE (Nat.succ_pos d) (hv.sl _) (hr.sl _) (by omega) g0 (by omega)) ?_
  rintro _ ⟨r1,r2,rfl,⟨_,h3,h4⟩,-⟩
  injection h3 with h3;subst h3
  simp only[sx,sy,SO.run,↓reduceIte,Nat.reduceEqDiff]
  refine a_ (qE (Nat.succ_pos d) (hw.sl _) (hr.sl _) (by omega) g0 (by omega)) ?_
  rintro _ ⟨r3,r4,rfl,⟨_,h5,h6⟩,-⟩
  injection h5 with h5;subst h5
  have e1:∀g,ak C0 (d+1) N.aq [r1] g=.val (.tup [.int .i64 ((x / Nat.gcd x y:Nat):Int),.bool true]):=fun g=>yQ (Nat.succ_pos d) (h4.tree (h':=g.h) (Nat.le_refl _)) (by omega)
  have e2:∀g,ak C0 (d+1) N.aq [r3] g=.val (.tup [.int .i64 ((y / Nat.gcd x y:Nat):Int),.bool true]):=fun g=>yQ (Nat.succ_pos d) (h6.tree (h':=g.h) (Nat.le_refl _)) (by omega)
  simp only[sx,sy,SO.run,↓reduceIte,Nat.reduceEqDiff,Nat.reduceAdd,Nat.reduceLeDiff,e1,e2,Bool.not_true,nM]
  exact ⟨fun _=>True,_,_,rfl,eT.2 rfl,jo.2 rfl⟩
 obtain ⟨z,h1,a,b,rfl,h2,h3⟩:=key
 have h3:=jo.1 h3
 injection h3 with h3
 rw[h1,eT.1 h2,h3]
theorem GO {d:Nat}{g:G}{x y:Nat}(hd:0<d)(hx:x<=4611686018427387903)(hy0:0<y)(hy:y<=4611686018427387903) :
  ak C0 d N.ax [.int .i64 (x:Int),.int .i64 (y:Int)] g=.val (.agg [.int .i64 (S.aD x y).1,.int .i64 (S.aD x y).2]):=by
 have mk:∀(d:Nat) (g:G),0<d->ak C0 d N.bf [.int .i64 (x:Int),.int .i64 (y:Int)] g=.val (.tup [.agg [.int .i64 (S.aD x y).1,.int .i64 (S.aD x y).2],.bool true]):=fun d g hd=>by
  have key:∃r,ak C0 d N.bf [.int .i64 (x:Int),.int .i64 (y:Int)] g=.val r/\sJ (Agg (S.aD x y)) (One true) NoP 0 .nil r:=by
   rw[vr]
   refine aV ye (xs:=[.int .i64 (x:Int),.int .i64 (y:Int)]) (by simp only[aH,dB 0]) (by simp[nz]) (dC (m:=2) (aQ _) (aU _) (by decide) (by decide)) (by decide) hd ?_
   have q1:¬((x:Int)<0):=by omega
   have q2:¬((y:Int)<0):=by omega
   have qe:Ck true EqKind.bool (AV.bool false) (AV.bool false)=.val (.bool false):=rfl
   simp only[nz,pe,sx,sy,SO.run,↓reduceIte,Nat.reduceEqDiff,Nat.reduceAdd,q1,q2,decide_false,qe]
   refine a_ (tS (Nat.succ_pos d) (by omega)) fun r hr=>?_
   simp only[sx,SO.run,↓reduceIte,Nat.reduceEqDiff]
   refine a_ (tS (Nat.succ_pos d) (by omega)) fun r2 hr2=>?_
   have e1:∀g,ak C0 (d+1) N.aP [.bool false,r,r2] g=.val (.tup [.agg [.int .i64 (S.aD x y).1,.int .i64 (S.aD x y).2],.bool true]):=fun g=>Ia (Nat.succ_pos d) hr hr2 hx hy0 hy
   simp only[sx,sy,SO.run,↓reduceIte,Nat.reduceEqDiff,Nat.reduceAdd,Nat.reduceLeDiff,e1]
   exact ⟨fun _=>True,_,_,rfl,eT.2 rfl,jo.2 rfl⟩
  obtain ⟨z,h1,a,b,rfl,h2,h3⟩:=key
  have h3:=jo.1 h3
  injection h3 with h3
  rw[h1,eT.1 h2,h3]
 have key:∃r,ak C0 d N.ax [.int .i64 (x:Int),.int .i64 (y:Int)] g=.val r/\Agg (S.aD x y) NoP 0 .nil r:=by
  rw[yE]
  refine aV Bb (xs:=[.int .i64 (x:Int),.int .i64 (y:Int)]) (by simp only[aH,dB 0]) (by simp[qD]) (aQ _) (by decide) hd ?_
  have e1:=fun g=>mk (d+1) g (Nat.succ_pos d)
  simp only[qD,sI,sx,sy,SO.run,↓reduceIte,Nat.reduceEqDiff,Nat.reduceAdd,Nat.reduceLeDiff,e1]
  exact ⟨fun _=>True,eT.2 rfl⟩
 obtain ⟨z,h1,h2⟩:=key
 rw[h1,eT.1 h2]
theorem Dc {d k0 k2 k3:Nat}{g:G}{P P2 P3:Nat->Prop}{v act q:AV}{m:Causal}{al ql:List Int}(hd:0<d)(hm:Agg m P k0 g.h v)(ha:SlR P2 k2 g.h al act)(hq:SlR P3 k3 g.h ql q)
  (hck:S.am m=true) (hac:S.ax m al=true) (hqc:S.ax m ql=true) :
  ak C0 d N.aN [v,act,q] g=.val (.agg [.int .i64 (S.aD (S.aU m al ql).toNat (S.aP m).toNat).1,.int .i64 (S.aD (S.aU m al ql).toNat (S.aP m).toNat).2]):=by
 have key:∃r,ak C0 d N.aN [v,act,q] g=.val r/\Agg (S.aD (S.aU m al ql).toNat (S.aP m).toNat) NoP 0 .nil r:=by
  obtain ⟨hs,hgr,hn1,hro,hno⟩:=aN hck
  obtain ⟨v',e,cs,rfl,hcs⟩:=bP (aQ m) (by decide) d hm
  obtain ⟨a',e1,r1⟩:=be ha d
  obtain ⟨q',e2,r2⟩:=be hq d
  have hcs':=hcs
  obtain ⟨a,b,rfl,hR,hN⟩:=aC.1 hcs
  have hm':∀h,Agg m NoP (max k0 d) h (.agg [.int .i64 m.grain,a,b]):=fun h=>⟨_,rfl,Rp.tree hcs' (Nat.le_refl _)⟩
  rw[sq]
  refine aV vp (xs:=[.agg [.int .i64 m.grain,a,b],a',q']) (by simp only[aH,e,e1,e2]) (by simp[jZ]) (aQ _) (by decide) hd ?_
  have wb:=di hck (fun _=>true)
  have we:=di hck (S.mw m al ql)
  have wp:=zm hck
  have hnn:m.nodes.length<=5:=hs.nodes
  simp only[jZ,mO,sx,sy,SO.run,↓reduceIte,Nat.reduceEqDiff,Nat.reduceAdd,Nat.reduceLeDiff]
  refine a_ (wB (Nat.succ_pos d) (hm' _) hnn) fun r hr=>?_
  have e3:∀g,ak C0 (d+1) N.ay [.agg [.int .i64 m.grain,a,b],r,a',q'] g=.val (.tup [.int .i64 (S.aP m),.int .i64 (S.aU m al ql)]):=fun g=>by
   rw[uo (Nat.succ_pos d) (hm' g.h) (hr.sl g.h) (r1 g.h) (r2 g.h) hck (v6 hs) hac hqc,Fq,FV]
  have e4:∀g,ak C0 (d+1) N.ax [.int .i64 (S.aU m al ql),.int .i64 (S.aP m)] g=.val (.agg [.int .i64 (S.aD (S.aU m al ql).toNat (S.aP m).toNat).1,.int .i64 (S.aD (S.aU m al ql).toNat (S.aP m).toNat).2]):=fun g=>by
   have h1:=GO (d:=d+1) (g:=g) (x:=(S.aU m al ql).toNat) (y:=(S.aP m).toNat) (Nat.succ_pos d) (by unfold S.aU;omega) (by omega) (by unfold S.aP;omega)
   rwa [Int.toNat_of_nonneg (show 0<=S.aU m al ql from we.1),Int.toNat_of_nonneg (show 0<=S.aP m from wb.1)] at h1
  simp only[sx,sy,SO.run,↓reduceIte,Nat.reduceEqDiff,Nat.reduceAdd,Nat.reduceLeDiff,e3,e4]
  exact ⟨fun _=>True,eT.2 rfl⟩
 obtain ⟨z,h1,h2⟩:=key
 rw[h1,eT.1 h2]
end
end Hx
end
section
namespace Hx
open Go
set_option maxRecDepth 100000
noncomputable section
def fI:SC:=.seq (.ops [o 165 (.load true 2 (.t 14)),o 166 (.load true 2 (.t 17)),o 167 (.eq true (.flat [.int .i64,.int .i64]) (.t 165) (.t 166)),o 168 (.mv (.t 167)),og 169 168 false (.mv (.t 15)),og 170 168 false (.mv (.t 16)),og 171 168 false (.bin .neq (.t 169) (.t 170)),o 172 (.pick (.t 168) (.k (.bool true)) (.t 171))]) (.cond (.t 172) (.seq (.ops [o 8 (.mv (.k (.bool false)))]) (.ret)) (.skip))
def bF:SC:=.seq (.seq (.ops [o 118 (.load true 2 (.t 14)),o 119 (.load true 2 (.t 17)),o 120 (.eq true (.flat [.int .i64,.int .i64]) (.t 118) (.t 119)),o 121 (.mv (.t 120)),og 122 121 false (.mv (.t 15)),og 123 121 false (.mv (.t 16)),og 124 121 false (.bin .neq (.t 122) (.t 123)),o 125 (.pick (.t 121) (.k (.bool true)) (.t 124))]) (.cond (.t 125) (.seq (.ops [o 8 (.mv (.k (.bool false)))]) (.ret)) (.skip))) (.seq (.ops [o 127 (.load true 3 (.t 11)),o 128 (.ixa 3 1 (.t 13) (.k (.int .i64 0))),o 129 (.load false 1 (.t 128)),o 130 (.ixa 3 1 (.t 13) (.k (.int .i64 1))),o 131 (.load false 1 (.t 130)),o 132 (.ixa 3 1 (.t 13) (.k (.int .i64 2))),o 133 (.load false 1 (.t 132)),o 134 (.call N.aO [.t 127,.t 129,.t 131,.t 133]),o 126 (.mv (.t 134)),o 135 (.ext (.t 126) 0),o 136 (.ext (.t 126) 1),oz (.store 2 (.t 14) (.t 135)),o 15 (.mv (.t 136))]) (.seq (.ops [o 137 (.load true 3 (.t 11)),o 138 (.ixa 3 1 (.t 13) (.k (.int .i64 0))),o 139 (.load false 1 (.t 138)),o 140 (.ixa 3 1 (.t 13) (.k (.int .i64 1))),o 141 (.load false 1 (.t 140)),o 142 (.ixa 3 1 (.t 13) (.k (.int .i64 2))),o 143 (.load false 1 (.t 142)),o 144 (.bsl 1 3 [.nils] [0,1,2] [.t 139,.t 141,.t 143]),o 145 (.call N.aK [.t 137,.t 144]),o 16 (.mv (.t 145))]) (.seq (.ops [o 146 (.build [.int .i64 0,.int .i64 0] [] []),oz (.store 2 (.t 17) (.t 146))]) (.seq (.seq (.ops [o 147 (.mv (.t 16)),o 148 (.bin .eql (.t 147) (.k (.int .i64 0)))]) (.cond (.t 148) (.seq (.ops [o 150 (.load true 3 (.t 11)),o 151 (.ixa 3 1 (.t 13) (.k (.int .i64 0))),o 152 (.load false 1 (.t 151)),o 153 (.ixa 3 1 (.t 13) (.k (.int .i64 1))),o 154 (.load false 1 (.t 153)),o 155 (.ixa 3 1 (.t 13) (.k (.int .i64 2))),o 156 (.load false 1 (.t 155)),o 157 (.call N.ay [.t 150,.t 152,.t 154,.t 156]),o 149 (.mv (.t 157)),o 158 (.ext (.t 149) 0),o 159 (.ext (.t 149) 1),o 18 (.mv (.t 158)),o 19 (.mv (.t 159))]) (.seq (.ops [o 160 (.mv (.t 18)),o 161 (.bin .eql (.t 160) (.k (.int .i64 0)))]) (.cond (.t 161) (.ops [o 16 (.mv (.k (.int .i64 7)))]) (.ops [o 162 (.mv (.t 19)),o 163 (.mv (.t 18)),o 164 (.call N.ax [.t 162,.t 163]),oz (.store 2 (.t 17) (.t 164))])))) (.skip))) fI))))
def fO:SC:=.ops [o 173 (.bin .add (.t 91) (.k (.int .i64 1))),o 91 (.mv (.t 173))]
def bU:SC:=.seq (.ops [o 92 (.bin .lss (.t 91) (.k (.int .i64 4)))]) (.seq (.cond (.t 92) (.skip) (.exit 2)) (.seq (.blk 3 (.seq (.ops [o 93 (.ix true 4 3 (.t 90) (.t 91)),o 13 (.alloc [.nils,.nils,.nils]),oz (.store 3 (.t 13) (.t 93))]) (.seq (.ops [o 95 (.load true 3 (.t 11)),o 96 (.ixa 3 1 (.t 13) (.k (.int .i64 1))),o 97 (.load false 1 (.t 96)),o 98 (.ixa 3 1 (.t 13) (.k (.int .i64 2))),o 99 (.load false 1 (.t 98)),o 100 (.call N.aA [.t 95,.t 97,.t 99]),o 94 (.mv (.t 100)),o 101 (.ext (.t 94) 0),o 102 (.ext (.t 94) 1),o 14 (.alloc [.int .i64 0,.int .i64 0]),oz (.store 2 (.t 14) (.t 101)),o 15 (.mv (.t 102))]) (.seq (.ops [o 103 (.load true 3 (.t 11)),o 104 (.ixa 3 1 (.t 13) (.k (.int .i64 1))),o 105 (.load false 1 (.t 104)),o 106 (.ixa 3 1 (.t 13) (.k (.int .i64 2))),o 107 (.load false 1 (.t 106)),o 108 (.bsl 1 2 [.nils] [0,1] [.t 105,.t 107]),o 109 (.call N.aK [.t 103,.t 108]),o 16 (.mv (.t 109))]) (.seq (.ops [o 17 (.alloc [.int .i64 0,.int .i64 0])]) (.seq (.seq (.ops [o 110 (.mv (.t 16)),o 111 (.bin .eql (.t 110) (.k (.int .i64 0)))]) (.cond (.t 111) (.ops [o 112 (.load true 3 (.t 11)),o 113 (.ixa 3 1 (.t 13) (.k (.int .i64 1))),o 114 (.load false 1 (.t 113)),o 115 (.ixa 3 1 (.t 13) (.k (.int .i64 2))),o 116 (.load false 1 (.t 115)),o 117 (.call N.aN [.t 112,.t 114,.t 116]),oz (.store 2 (.t 17) (.t 117))]) (.skip))) bF)))))) fO))
def fw:SC:=.ops [o 174 (.bin .add (.t 29) (.k (.int .i64 1))),o 29 (.mv (.t 174))]
def fC:SC:=.seq (.ops [o 30 (.bin .lss (.t 29) (.k (.int .i64 2)))]) (.seq (.cond (.t 30) (.skip) (.exit 0)) (.seq (.blk 1 (.seq (.ops [o 31 (.ix true 2 3 (.t 28) (.t 29)),o 11 (.alloc [.int .i64 0,.nils,.nils]),oz (.store 3 (.t 11) (.t 31))]) (.seq (.quiet [o 32 (.ixa 3 5 (.t 7) (.k (.int .i64 0))),o 33 (.load true 5 (.t 32)),o 34 (.load true 3 (.t 9)),o 35 (.call N.aa [.t 33,.t 34]),o 36 (.ixa 3 5 (.t 7) (.k (.int .i64 1))),o 37 (.load true 5 (.t 36)),o 38 (.load true 3 (.t 9)),o 39 (.call N.aa [.t 37,.t 38]),o 40 (.ixa 3 5 (.t 7) (.k (.int .i64 2))),o 41 (.load true 5 (.t 40)),o 42 (.load true 3 (.t 9)),o 43 (.call N.aa [.t 41,.t 42]),o 44 (.build [.nils,.nils,.nils] [(0,1),(1,1),(2,1)] [.t 35,.t 39,.t 43]),o 45 (.load true 3 (.t 9)),o 46 (.mv (.t 2)),o 47 (.ixa 3 5 (.t 7) (.k (.int .i64 0))),o 48 (.load true 5 (.t 47)),o 49 (.call N.af [.t 45,.t 46,.t 48]),o 50 (.ix false 2 1 (.t 49) (.k (.int .i64 0))),o 51 (.ixa 3 5 (.t 7) (.k (.int .i64 1))),o 52 (.load true 5 (.t 51)),o 53 (.load true 3 (.t 9)),o 54 (.call N.aa [.t 52,.t 53]),o 55 (.ixa 3 5 (.t 7) (.k (.int .i64 2))),o 56 (.load true 5 (.t 55)),o 57 (.load true 3 (.t 9)),o 58 (.call N.aa [.t 56,.t 57]),o 59 (.build [.nils,.nils,.nils] [(0,1),(1,1),(2,1)] [.t 50,.t 54,.t 58]),o 60 (.ixa 3 5 (.t 7) (.k (.int .i64 0))),o 61 (.load true 5 (.t 60)),o 62 (.load true 3 (.t 9)),o 63 (.call N.aa [.t 61,.t 62]),o 64 (.load true 3 (.t 9)),o 65 (.mv (.t 2)),o 66 (.ixa 3 5 (.t 7) (.k (.int .i64 0))),o 67 (.load true 5 (.t 66)),o 68 (.call N.af [.t 64,.t 65,.t 67]),o 69 (.ix false 2 1 (.t 68) (.k (.int .i64 0))),o 70 (.ixa 3 5 (.t 7) (.k (.int .i64 2))),o 71 (.load true 5 (.t 70)),o 72 (.load true 3 (.t 9)),o 73 (.call N.aa [.t 71,.t 72]),o 74 (.build [.nils,.nils,.nils] [(0,1),(1,1),(2,1)] [.t 63,.t 69,.t 73]),o 75 (.ixa 3 5 (.t 7) (.k (.int .i64 0))),o 76 (.load true 5 (.t 75)),o 77 (.load true 3 (.t 9)),o 78 (.call N.aa [.t 76,.t 77]),o 79 (.ixa 3 5 (.t 7) (.k (.int .i64 1))),o 80 (.load true 5 (.t 79)),o 81 (.load true 3 (.t 9)),o 82 (.call N.aa [.t 80,.t 81]),o 83 (.load true 3 (.t 9)),o 84 (.mv (.t 2)),o 85 (.ixa 3 5 (.t 7) (.k (.int .i64 0))),o 86 (.load true 5 (.t 85)),o 87 (.call N.af [.t 83,.t 84,.t 86]),o 88 (.ix false 2 1 (.t 87) (.k (.int .i64 0))),o 89 (.build [.nils,.nils,.nils] [(0,1),(1,1),(2,1)] [.t 78,.t 82,.t 88]),o 90 (.build [.nils,.nils,.nils,.nils,.nils,.nils,.nils,.nils,.nils,.nils,.nils,.nils] [(0,3),(3,3),(6,3),(9,3)] [.t 44,.t 59,.t 74,.t 89]),o 91 (.mv (.k (.int .i64 0)))]) (.blk 2 (.loop bU))))) fw))
def fP:SC:=.seq (.ops [o 8 (.mv (.k (.bool true)))]) (.ret)
def f_:SC:=.seq (.seq (.ops [o 20 (.call N.bK []),o 21 (.not (.t 20))]) (.cond (.t 21) (.seq (.ops [o 8 (.mv (.k (.bool false)))]) (.ret)) (.skip))) (.seq (.ops [o 22 (.load true 5 (.t 4)),o 23 (.call N.bm [.t 22]),o 9 (.alloc [.int .i64 0,.nils,.nils]),oz (.store 3 (.t 9) (.t 23))]) (.seq (.seq (.quiet [o 24 (.load true 3 (.t 9)),o 25 (.load true 4 (.t 5)),o 26 (.load true 3 (.t 9)),o 27 (.call N.bF [.t 25,.t 26]),o 28 (.build [.int .i64 0,.nils,.nils,.int .i64 0,.nils,.nils] [(0,3),(3,3)] [.t 24,.t 27]),o 29 (.mv (.k (.int .i64 0)))]) (.blk 0 (.loop fC))) fP))
def d8:SF:=⟨175,[.tm 8],.seq (.ops [o 4 (.box (.t 0)),o 5 (.box (.t 1)),o 7 (.box (.t 3)),o 8 (.mv (.k (.bool false)))]) f_⟩
theorem nX:nFn C0 N.bJ=some d8:=by kernel_rfl
end
end Hx
end
