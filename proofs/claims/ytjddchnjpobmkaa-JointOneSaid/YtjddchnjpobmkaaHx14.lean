/- A part of the proof: an interpreter over abstract values, shown right against the model, and what the functions of the chapter compute on it. -/
import Derived.KernelRfl
import Derived.Test.YtjddchnjpobmkaaHx13
set_option linter.unusedVariables false
set_option linter.unusedSimpArgs false
set_option linter.unnecessarySimpa false
section
namespace Hx
open Go
noncomputable section
section
variable {α:Type} [DecidableEq α]
def mix (k:α):List (α×Int)->Nat
 | []=>0
 | (a,_)::r=>if k=a then 0 else mix k r+1
def vo (k:α):List (α×Int)->List (α×Int)
 | []=>[(k,0)]
 | (a,w)::r=>if k=a then (a,w)::r else (a,w)::vo k r
theorem FL (k:α):∀L:List (α×Int),(vo k L)[mix k L]?=some (k,mgt L k)
 | []=>rfl
 | (a,w)::r=>by
  rw[vo,mix,mgt]
  by_cases e:k=a
  ·subst e;simp
  ·simp[e,FL k r]
theorem Cg (k:α)(x:Int):∀L:List (α×Int),(vo k L).set (mix k L) (k,x)=mst k x L
 | []=>rfl
 | (a,w)::r=>by
  rw[vo,mix,mst]
  by_cases e:k=a
  ·subst e;simp
  ·simp[e,Cg k x r]
theorem FP (k:α):∀L:List (α×Int),L.any (fun p=>decide (k=p.1))=true->vo k L=L
 | [],h=>by cases h
 | (a,w)::r,h=>by
  rw[vo]
  by_cases e:k=a
  ·rw[if_pos e]
  ·rw[if_neg e,FP k r (by simpa [e] using h)]
theorem Bc (k:α):∀L:List (α×Int),L.any (fun p=>decide (k=p.1))=false->vo k L=L++[(k,0)]/\mix k L=L.length
 | [],_=>⟨rfl,rfl⟩
 | (a,w)::r,h=>by
  rw[List.any_cons,Bool.or_eq_false_iff] at h
  have e:=of_decide_eq_false h.1
  obtain ⟨h1,h2⟩:=Bc k r h.2
  rw[vo,mix,if_neg e,if_neg e,h1,h2]
  exact ⟨rfl,rfl⟩
theorem wL {kf:α->AV}(hk:∀a b,fZ (kf a) (kf b)=some (decide (a=b)))(k:α):∀(L:List (α×Int)) (s:Nat),eX (kf k) s (mcl kf L)=some (if L.any (fun p=>decide (k=p.1)) then some (s+mix k L,.int .i64 (mgt L k)) else none)
 | [],s=>rfl
 | (a,w)::r,s=>by
  rw[mcl,List.map_cons,eX,hk]
  by_cases e:k=a
  ·subst e;simp[mgt,mix]
  ·have ih:=wL hk k r (Nat.succ s)
   rw[mcl] at ih
   simp only[decide_eq_false e]
   rw[ih,List.any_cons,mgt,if_neg e,decide_eq_false e,Bool.false_or,mix,if_neg e,show Nat.succ s+mix k r=s+(mix k r+1) by omega]
end
theorem JE {α:Type}{kf:α->AV}{m st x:T->AV}{t:T}{g:G}{id i:Nat}{a:α}{y v:Int}{L:List (α×Int)}(h1:m t=.hmap id)(h2:st t=.int .i64 (i:Int))(h3:x t=.int .i64 v)(hg:g.h.get id=.map (mcl kf L))(hi:L[i]?=some (a,y)) :
  cj m st x t g=.upd .undef (g.put id (.map (mcl kf (L.set i (a,v))))):=by
 have e:ub i (mcl kf L)=some (kf a,.int .i64 y):=by rw[cQ,mcl,List.getElem?_map,hi];rfl
 have e2:xZ i (kf a,AV.int .i64 v) (mcl kf L)=mcl kf (L.set i (a,v)):=by rw[fP,mcl,mcl,List.map_set]
 unfold cj
 simp only[h1,h2,h3,G.get_eq,hg]
 show (match ub i (mcl kf L) with | some (k,_)=>OR.upd .undef (g.put id (.map (xZ i (k,AV.int .i64 v) (mcl kf L)))) | none=>.fail)=_
 rw[e]
 show OR.upd .undef (g.put id (.map (xZ i (kf a,AV.int .i64 v) (mcl kf L))))=_
 rw[e2]
def pk (a:Int×Int):AV:=.agg [.int .i64 a.1,.int .i64 a.2]
theorem Jf (a b:Int×Int):fZ (pk a) (pk b)=some (decide (a=b)):=by
 show (match jh (.int .i64 a.1) (.int .i64 b.1),cL [.int .i64 a.2] [.int .i64 b.2] with | some x,some y=>some (an x y false) | _,_=>none)=_
 show some (an (vq a.1 b.1) (an (vq a.2 b.2) true false) false)=_
 rw[gS,gS]
 obtain ⟨a1,a2⟩:=a
 obtain ⟨b1,b2⟩:=b
 by_cases h1:a1=b1<;>by_cases h2:a2=b2<;>simp[h1,h2,an]
def ktP:Nat:=match C0.P.underlying tPP with | some (.map k _)=>k | _=>0
theorem Dk:C0.P.underlying tPP=some (.map ktP 3):=by kernel_rfl
theorem Hv (a:Int×Int):jc (bD C0.P ktP) (pk a)=true:=by
 have e:bD C0.P ktP=.flat [.int .i64,.int .i64]:=by kernel_rfl
 rw[e];rfl
theorem Gp (d:Nat)(rd:Option Nat)(t:T)(g:G):(bp C0 (.makeMap tPP none)).run (I C0) d rd t g=.upd (.hmap g.nx) (g.new (.map [])):=by kernel_rfl
theorem zi {C:Cfg}{ty kt et a b:Nat}{z:AV}(hu:C.P.underlying ty=some (.map kt et))(hz:pR C.P et=some z)(d:Nat)(rd:Option Nat)(t:T)(g:G):(bp C (.mapEntry ty (.tmp a) (.tmp b))).run (I C) d rd t g=co (bD C.P kt) z (fun t=>tat t a) (fun t=>tat t b) t g:=by
 obtain ⟨s1,e1,r1⟩:=aM (C:=C) (x:=.tmp a) (o:=.t a) rfl
 obtain ⟨s2,e2,r2⟩:=aM (C:=C) (x:=.tmp b) (o:=.t b) rfl
 rw[bj (s:=⟨co (bD C.P kt) z s1.run s2.run⟩) rfl (by simp only[bJ,e1,e2,hu,hz])]
 rw[show s1.run=fun t=>tat t a from funext r1,show s2.run=fun t=>tat t b from funext r2]
theorem CH {C:Cfg}{ty a b c:Nat}(d:Nat)(rd:Option Nat)(t:T)(g:G):(bp C (.entryStore ty (.tmp a) (.tmp b) (.tmp c))).run (I C) d rd t g=cj (fun t=>tat t a) (fun t=>tat t b) (fun t=>tat t c) t g:=by
 obtain ⟨s1,e1,r1⟩:=aM (C:=C) (x:=.tmp a) (o:=.t a) rfl
 obtain ⟨s2,e2,r2⟩:=aM (C:=C) (x:=.tmp b) (o:=.t b) rfl
 obtain ⟨s3,e3,r3⟩:=aM (C:=C) (x:=.tmp c) (o:=.t c) rfl
 rw[bj (s:=⟨cj s1.run s2.run s3.run⟩) rfl (by simp only[bJ,e1,e2,e3])]
 rw[show s1.run=fun t=>tat t a from funext r1,show s2.run=fun t=>tat t b from funext r2,show s3.run=fun t=>tat t c from funext r3]
theorem B5 {C:Cfg}{ty a b:Nat}(t:T)(g:G):SO.foot C t g (.raw (.mapEntry ty (.tmp a) (.tmp b)))=⟨ah (tat t a),[],(ah (tat t a)).map (·,ty),false⟩:=by
 obtain ⟨s1,e1,r1⟩:=aM (C:=C) (x:=.tmp a) (o:=.t a) rfl
 show (aH C _).run t g=_
 simp only[aH,e1,r1]
 rfl
theorem zc {C:Cfg}{ty a b c:Nat}(t:T)(g:G):SO.foot C t g (.raw (.entryStore ty (.tmp a) (.tmp b) (.tmp c)))=af (ah (tat t a)):=by
 obtain ⟨s1,e1,r1⟩:=aM (C:=C) (x:=.tmp a) (o:=.t a) rfl
 show (aH C _).run t g=_
 simp only[aH,e1,r1]
 rfl
theorem ET {d:Nat}{rd:Option Nat}{t:T}{g:G}{a b id:Nat}{k:Int×Int}{L:List ((Int×Int)×Int)}(h1:tat t a=.hmap id)(h2:tat t b=pk k)(hg:g.h.get id=.map (mcl pk L)):(bp C0 (.lookup tPP (.tmp a) (.tmp b) false)).run (I C0) d rd t g=.val (.int .i64 (mgt L k)):=by
 have:=wU (C:=C0) (a:=a) (b:=b) (ok:=false) Dk EC d rd t g
 rw[show (SO.raw (.lookup tPP (.tmp a) (.tmp b) false)).run C0 d rd t g=(bp C0 (.lookup tPP (.tmp a) (.tmp b) false)).run (I C0) d rd t g from rfl] at this
 rw[this]
 exact Ca Jf h1 h2 (Hv k) hg
theorem H3 {d:Nat}{rd:Option Nat}{a b id:Nat}{k:Int×Int}(L:List ((Int×Int)×Int)) :
  (∀(t:T) (g:G),tat t a=.hmap id->tat t b=pk k->g.h.get id=.map (mcl pk L)->(bp C0 (.mapEntry tPP (.tmp a) (.tmp b))).run (I C0) d rd t g=.val (.tup [.int .i64 (mgt L k),.int .i64 (mix k L:Int)]))/\vo k L=L \/
  (∀(t:T) (g:G),tat t a=.hmap id->tat t b=pk k->g.h.get id=.map (mcl pk L)->(bp C0 (.mapEntry tPP (.tmp a) (.tmp b))).run (I C0) d rd t g=.upd (.tup [.int .i64 0,.int .i64 (mix k L:Int)]) (g.put id (.map (mcl pk (vo k L))))):=by
 cases h:L.any (fun p=>decide (k=p.1)) with
 | true =>
  refine .inl ⟨fun t g h1 h2 hg=>?_,FP k L h⟩
  rw[zi Dk EC]
  unfold co
  simp only[h1,h2,Hv,G.get_eq,hg,wL Jf,h]
  simp
 | false =>
  obtain ⟨e1,e2⟩:=Bc k L h
  refine .inr fun t g h1 h2 hg=>?_
  rw[zi Dk EC,e1,e2]
  unfold co
  simp only[h1,h2,Hv,G.get_eq,hg,wL Jf,h]
  simp[mcl,an,ap]
theorem G9 {d:Nat}{rd:Option Nat}{t:T}{g:G}{a b c id i:Nat}{k:Int×Int}{y x:Int}{L:List ((Int×Int)×Int)}(h1:tat t a=.hmap id)(h2:tat t b=.int .i64 (i:Int))(h3:tat t c=.int .i64 x)(hg:g.h.get id=.map (mcl pk L))(hi:L[i]?=some (k,y)):(bp C0 (.entryStore tPP (.tmp a) (.tmp b) (.tmp c))).run (I C0) d rd t g=.upd .undef (g.put id (.map (mcl pk (L.set i (k,x))))):=by
 rw[CH]
 exact JE (kf:=pk) h1 h2 h3 hg hi
def S.pq (n:Net)(e:List Int)(v:Nat)(x:Int)(w:Nat):Bool:=S.pe n e w&&decide ((S.am (S.aa n) (w:Int))[v]?=some x)
def S.aw (n:Net)(e:List Int)(v:Nat):List QI:=(List.range ((S.aa n)[v]?.getD 0).toNat).map fun x:Nat=>S.an (S.af n (S.pq n e v (x:Int)) (S.au n)).toNat (S.aB n e).toNat
theorem JY {n:Net}{e:List Int}{v:Nat}{x:Int}(hv:v<e.length)(hl:e.length=n.nodes.length)(hx:0<=x) :
  S.af n (S.pq n e v x) (S.au n)=if (decide (e[v]?.getD 0<0) || decide (e[v]?.getD 0=x))=true then S.aB n (e.set v x) else 0:=by
 have hvals:∀w:Nat,(S.am (S.aa n) (w:Int)).length=n.nodes.length:=fun w=>by rw[wJ,aI]
 split
 ·rename_i hc
  rw[pV]
  refine nG fun w _=>?_
  obtain ⟨vals,hvs⟩:∃vals,vals=S.am (S.aa n) (w:Int):=⟨_,rfl⟩
  have hvl:v<vals.length:=by rw[hvs,hvals];omega
  rw[S.pq,S.pe,S.pe,<-hvs,Bool.eq_iff_iff,Bool.and_eq_true,decide_eq_true_eq,Aq,Aq,List.getElem?_eq_getElem hvl,Option.some.injEq]
  simp only[Bool.or_eq_true,decide_eq_true_eq] at hc
  constructor
  ·rintro ⟨h1,h2⟩ i hi
   rw[List.length_set] at hi
   by_cases hiv:v=i
   ·subst hiv
    rw[List.getElem?_set_self hv,List.getElem?_eq_getElem hvl,h2];simp
   ·rw[List.getElem?_set_ne hiv];exact h1 i hi
  ·intro h
   have h0:=h v (by simpa using hv)
   rw[List.getElem?_set_self hv,List.getElem?_eq_getElem hvl] at h0
   simp only[Option.getD_some] at h0
   have hx2:vals[v]=x:=by omega
   refine ⟨fun i hi=>?_,hx2⟩
   by_cases hiv:v=i
   ·subst hiv
    rw[List.getElem?_eq_getElem hvl,Option.getD_some,hx2]
    exact hc
   ·have:=h i (by simpa using hi)
    rwa [List.getElem?_set_ne hiv] at this
 ·rename_i hc
  have:∀j,S.af n (S.pq n e v x) j=0:=fun j=>by
   induction j with
   | zero=>rfl
   | succ j ih =>
    rw[S.af,ih,if_neg,Int.add_zero]
    intro hp
    rw[S.pq,S.pe,Bool.and_eq_true,Aq,decide_eq_true_eq] at hp
    have h1:=hp.1 v hv
    rw[hp.2,Option.getD_some] at h1
    exact hc (by simpa using h1)
  exact this _
end
end Hx
end
section
section
namespace Hx
open Go
noncomputable section
theorem tY {a b:Nat}(h:a*b<18446744073709551616):bH .mul (.int .u64 (a:Int)) (.int .u64 (b:Int))=.val (.int .u64 ((a*b:Nat):Int)):=by
 rw[An,<-Int.natCast_mul]
 generalize a*b=z at h
 rw[fc (by omega) (by omega)]
theorem Ep {a b:Nat}(h:a+b<18446744073709551616):bH .add (.int .u64 (a:Int)) (.int .u64 (b:Int))=.val (.int .u64 ((a+b:Nat):Int)):=by
 rw[Ae,<-Int.natCast_add,fc (by omega) (by omega)]
theorem F4 {x y:Nat}(h:x*y<18446744073709551616):∃x0 x1 y0 y1 p qa qb:Nat,x / 4294967296=x1/\x % 4294967296=x0/\y / 4294967296=y1/\y % 4294967296=y0/\x1*y1=0/\x0*y0=p/\x1*y0=qa/\x0*y1=qb /\
  p<18446744073709551616/\qa<4294967296/\qb<4294967296/\(qa+p / 4294967296) / 4294967296=0/\((qa+p / 4294967296) % 4294967296+qb) / 4294967296=0:=by
 obtain ⟨B,hB⟩:∃B:Nat,B=4294967296:=⟨_,rfl⟩
 have dx:=Nat.div_add_mod x B
 have dy:=Nat.div_add_mod y B
 have mx:=Nat.mod_lt x (show 0<B by omega)
 have my:=Nat.mod_lt y (show 0<B by omega)
 rw[<-hB]
 refine ⟨_,_,_,_,_,_,_,rfl,rfl,rfl,rfl,?_,rfl,rfl,rfl,?_⟩
 ·generalize x / B=x1 at *
  generalize x % B=x0 at *
  generalize y / B=y1 at *
  generalize y % B=y0 at *
  rcases Nat.eq_zero_or_pos (x1*y1) with h0 | h0
  ·exact h0
  ·exfalso
   have e1:B*x1*(B*y1)=B*B*(x1*y1):=Nat.mul_mul_mul_comm _ _ _ _
   have e4:B*x1*(B*y1)<=x*y:=Nat.mul_le_mul (by omega) (by omega)
   have e5:B*B*1<=B*B*(x1*y1):=Nat.mul_le_mul_left _ h0
   have e6:B*B=18446744073709551616:=by rw[hB]
   omega
 ·generalize x / B=x1 at *
  generalize x % B=x0 at *
  generalize y / B=y1 at *
  generalize y % B=y0 at *
  have e2:B*x1*y0=B*(x1*y0):=Nat.mul_assoc _ _ _
  have e3:x0*(B*y1)=B*(x0*y1):=Nat.mul_left_comm _ _ _
  have exy:x*y=B*x1*(B*y1)+B*(x1*y0)+(B*(x0*y1)+x0*y0):=by
   rw[<-dx,<-dy,Nat.mul_add,Nat.add_mul,Nat.add_mul,e2,e3];omega
  have hp:x0*y0<=(B - 1)*(B - 1):=Nat.mul_le_mul (by omega) (by omega)
  generalize x1*y0=qa at *
  generalize x0*y1=qb at *
  generalize x0*y0=p at *
  generalize B*x1*(B*y1)=z at *
  generalize x*y=w at *
  subst hB
  have hp2:p<=18446744065119617025:=hp
  clear hp mx my dx dy
  have k1:4294967296*qa+(4294967296*qb+p)<18446744073709551616:=by omega
  refine ⟨by omega,by omega,by omega,by omega,by omega⟩
theorem AW {d:Nat}{g:G}{x y:Nat}(hd:0<d)(h:x*y<18446744073709551616)(hx:x<18446744073709551616)(hy:y<18446744073709551616) :
  ac C0 d N.an [.int .u64 (x:Int),.int .u64 (y:Int)] g=.val (.tup [.int .u64 0,.int .u64 ((x*y:Nat):Int)]):=by
 have key:∃r,ac C0 d N.an [.int .u64 (x:Int),.int .u64 (y:Int)] g=.val r/\o4 (One (0:Nat)) (One (x*y:Nat)) NoP 0 .nil r:=by
  rw[q7]
  refine aP tW (xs:=[.int .u64 (x:Int),.int .u64 (y:Int)]) (by simp only[aE,c_ 0]) (by simp[iI]) (bQ (m:=1) (aQ _) (aQ _) (by decide) (by decide)) (by decide) hd ?_
  obtain ⟨x0,x1,y0,y1,p,qa,qb,hx1,hx0,hy1,hy0,h11,hP,hA,hB,lp,la,lb,z2,z3⟩:=F4 h
  have m1:=tY (a:=x0) (b:=y0) (by rw[hP];exact lp)
  have m2:=tY (a:=x1) (b:=y0) (by rw[hA];omega)
  have m3:=tY (a:=x0) (b:=y1) (by rw[hB];omega)
  have m4:=tY (a:=x1) (b:=y1) (by rw[h11];omega)
  have m5:=tY h
  rw[hP] at m1;rw[hA] at m2;rw[hB] at m3;rw[h11] at m4
  have s1:=wK p lp
  have a1:=Ep (a:=qa) (b:=p / 4294967296) (by omega)
  have n1:=wR (qa+p / 4294967296) (by omega)
  have s2:=wK (qa+p / 4294967296) (by omega)
  have a2:=Ep (a:=(qa+p / 4294967296) % 4294967296) (b:=qb) (by omega)
  rw[z2] at s2
  have a3:bH .add (.int .u64 ((0:Nat):Int)) (.int .u64 ((0:Nat):Int))=.val (.int .u64 ((0:Nat):Int)):=rfl
  have s3:=wK ((qa+p / 4294967296) % 4294967296+qb) (by omega)
  rw[z3] at s3
  have nx:=wR x hx
  have ny:=wR y hy
  have sx':=wK x hx
  have sy':=wK y hy
  rw[hx0] at nx;rw[hy0] at ny;rw[hx1] at sx';rw[hy1] at sy'
  clear z2 z3 lp la lb h11 hP hA hB
  simp only[iI,sx,SO.run,↓reduceIte,Nat.reduceEqDiff,nx,ny,sx',sy',m1,m2,m3,m4,m5,s1,s2,s3,n1,a1,a2,a3,ox]
  exact ⟨NoP,_,_,rfl,dN.2 ⟨rfl,by decide⟩,dN.2 ⟨rfl,h⟩⟩
 obtain ⟨r,h1,a,b,rfl,h2,h3⟩:=key
 have h2:=(dN.1 h2).1
 have h3:=(dN.1 h3).1
 injection h2 with h2
 injection h3 with h3
 rw[h1,h2,h3];rfl
theorem C5 {n d c w:Nat}(hc:Nat.Coprime n d)(hd:0<d)(hw:0<w)(h:n*w=c*d):S.an c w=((n:Int),(d:Int)):=by
 have h1:d ∣ n*w:=⟨c,by rw[h,Nat.mul_comm]⟩
 obtain ⟨k,hk⟩:=hc.symm.dvd_of_dvd_mul_left h1
 have hk0:0<k:=Nat.pos_of_ne_zero fun e=>by rw[e,Nat.mul_zero] at hk;omega
 have hcn:c=n*k:=by
  have:c*d=n*k*d:=by rw[<-h,hk,Nat.mul_assoc,Nat.mul_comm k d]
  exact Nat.eq_of_mul_eq_mul_right hd this
 have hg:Nat.gcd c w=k:=by
  rw[hcn,hk,Nat.gcd_mul_right,show Nat.gcd n d=1 from hc,Nat.one_mul]
 unfold S.an
 rw[hg,hcn,hk,Nat.mul_div_cancel _ hk0,Nat.mul_div_cancel _ hk0]
abbrev QN:=Nat×Nat
theorem y8 {x:QN}{P:Nat->Prop}{k:Nat}{h:H}{v:AV}(h1:x.1<18446744073709551616)(h2:x.2<18446744073709551616):Agg x P k h v↔v=.agg [.int .u64 (x.1:Int),.int .u64 (x.2:Int)]:=by
 constructor
 ·rintro ⟨cs,rfl,hc⟩
  obtain ⟨a,b,rfl,q1,q2⟩:=qR.1 hc
  rw[(dN.1 q1).1,(dN.1 q2).1];rfl
 ·rintro rfl
  exact ⟨_,rfl,qR.2 ⟨[.int .u64 (x.1:Int)],[.int .u64 (x.2:Int)],rfl,dN.2 ⟨rfl,h1⟩,dN.2 ⟨rfl,h2⟩⟩⟩
theorem xq {d:Nat}{g:G}{x y:Nat}(hd:0<d)(h:x*y<18446744073709551616)(hx:x<18446744073709551616)(hy:y<18446744073709551616) :
  ac C0 d N.ae [.int .u64 (x:Int),.int .u64 (y:Int)] g=.val (.agg [.int .u64 0,.int .u64 ((x*y:Nat):Int)]):=by
 have key:∃r,ac C0 d N.ae [.int .u64 (x:Int),.int .u64 (y:Int)] g=.val r/\Agg (((0:Nat),x*y):QN) NoP 0 .nil r:=by
  rw[vp]
  refine aP yq (xs:=[.int .u64 (x:Int),.int .u64 (y:Int)]) (by simp only[aE,c_ 0]) (by simp[nK]) (bu _) (by decide) hd ?_
  have e1:∀g,ac C0 (d+1) N.an [.int .u64 (x:Int),.int .u64 (y:Int)] g=.val (.tup [.int .u64 0,.int .u64 ((x*y:Nat):Int)]):=fun g=>AW (Nat.succ_pos d) h hx hy
  simp only[nK,qj,sx,sy,SO.run,↓reduceIte,Nat.reduceEqDiff,Nat.reduceAdd,Nat.reduceLeDiff,e1]
  exact ⟨NoP,(y8 (x:=(0,x*y)) (by show (0:Nat)<18446744073709551616;decide) h).2 rfl⟩
 obtain ⟨r,h1,h2⟩:=key
 rw[h1,(y8 (x:=(0,x*y)) (by show (0:Nat)<18446744073709551616;decide) h).1 h2];rfl
theorem zB {d:Nat}{g:G}{n m:Nat}(hd:0<d)(hn:n<=4611686018427387903)(hm0:0<m)(hm:m<=4611686018427387903)(hg:Nat.gcd n m=1):ac C0 d N.aF [.agg [.int .i64 (n:Int),.int .i64 (m:Int)]] g=.val (.int .i64 0):=by
 rw[uX]
 refine jH yB (xs:=[.agg [.int .i64 (n:Int),.int .i64 (m:Int)]]) rfl (by simp[ol]) hd ?_
 have l1:decide ((m:Int)<1)=false:=by simp;omega
 have l2:decide ((4611686018427387903:Int)<(m:Int))=false:=by simp;omega
 have l3:decide ((n:Int) < -4611686018427387903)=false:=by rw[decide_eq_false_iff_not];omega
 have l4:decide ((4611686018427387903:Int)<(n:Int))=false:=by simp;omega
 have e1:∀g,ac C0 (d+1) N.aa [.int .i64 (n:Int)] g=.val (.int .u64 (n:Int)):=fun g=>tB (Nat.succ_pos d) ⟨by omega,by omega⟩
 have e3:∀g,ac C0 (d+1) N.af [.int .u64 (n:Int),.int .u64 (m:Int)] g=.val (.int .u64 1):=fun g=>by rw[qT (Nat.succ_pos d) (by omega) (by omega),hg];rfl
 simp only[ol,pg,sx,sy,SO.run,↓reduceIte,Nat.reduceEqDiff,Nat.reduceAdd,l1,l2,l3,l4,e1,e3,fc (show (0:Int)<=(m:Int) by omega) (show (m:Int)<18446744073709551616 by omega),decide_true,Bool.not_true]
theorem AM {h:H}{id:Nat}{a b:Int}(d k:Nat)(hg:h.get id=.cells 2 [[.int .i64 a,.int .i64 b]] 0 false false):Hx.snap h d (k+3) (.hptr id 0 0 0)=some (.tptr (Nat.max d 0) 2 [[.int .i64 a,.int .i64 b]] 0 0):=by
 simp only[Hx.snap,hg,show Nat.beq 0 0=true from rfl,aE]
 rfl
theorem J1 {h:H}{id f:Nat}(d k:Nat)(hg:h.get id=.cells 1 [[.clo f [] []]] 0 false false):Hx.snap h d (k+3) (.hptr id 0 0 0)=some (.tptr (Nat.max d 0) 1 [[.clo f [] []]] 0 0):=by
 simp only[Hx.snap,hg,show Nat.beq 0 0=true from rfl,aE]
 rfl
theorem GA {h:H}{d f:Nat}{a b c a' b' c':AV}(ha:Hx.snap h d 23 a=some a')(hb:Hx.snap h d 23 b=some b')(hc:Hx.snap h d 23 c=some c'):Hx.snap h d aA (.clo f [] [a,b,c])=some (.clo f [] [a',b',c']):=by
 show (match aE (Hx.snap h d 23) [],aE (Hx.snap h d 23) [a,b,c] with | some as',some cs=>some (AV.clo f as' cs) | _,_=>none)=_
 simp only[aE,ha,hb,hc]
theorem Db (d:Nat)(a b c:AV)(g:G):cY C0 (I C0) d (.clo N.bh [] [a,b,c]) [] g=orF ((I C0).call d N.bh [a,b,c] g):=by kernel_rfl
end
end Hx
end
end
section
namespace Hx
open Go
set_option maxRecDepth 100000
noncomputable section
def Nh:SC:=match nFn C0 N.aO with | some ⟨_,_,.seq _ (.seq (.seq _ (.cond _ x _)) _)⟩=>x | _=>.skip
def Na:SC:=match nFn C0 N.aO with | some ⟨_,_,.seq _ (.seq _ (.seq _ (.seq (.seq _ (.cond _ x _)) _)))⟩=>x | _=>.skip
def cW:SC:=.seq (sQ [oM 34 8,oM 35 7,oN 36 35,o 37 (.bin .lss (.t 34) (.t 36))] (.cond (.t 37) (.skip) (.exit 0))) (.blk 1 (.feet [0,0,0,6,0,0,48,126,255,511] [oM 38 8,oM 39 7,oM 40 8,o 41 (.slc 1 (.t 39) [.t 40] []),oM 42 7,oM 43 8,o 44 (.slc 1 (.t 42) [] [.t 43]),o 45 (.cpy 1 (.t 41) (.t 44)),o 46 (.bin .add (.t 38) (.t 45)),oM 8 46]))
def fH:SC:=sQ [oM 47 7,oM 4 47] (.ret)
def fG:SC:=sQ [oM 28 6,o 29 (.conv .i64 (.t 28)),o 30 (.mks 1 8 [.int .i64 0] (.t 29) (.t 29)),oM 7 30] (sQ [oM 31 7,oM 32 0,o 33 (.cpy 1 (.t 31) (.t 32)),oM 8 33] (.seq (.blk 0 (.loop cW)) fH))
def fM:SC:=sQ [oM 13 0,oN 14 13,o 15 (.conv .u64 (.t 14)),oM 16 1,o 17 (.conv .u64 (.t 16)),o 18 (.call N.aX [.t 15,.t 17]),oM 12 18,o 19 (.ext (.t 12) 0),o 20 (.ext (.t 12) 1),oM 5 19,oM 6 20] (.seq (sQ [oM 21 5,o 22 (.bin .gtr (.t 21) (.k (.int .u64 0))),oM 23 22,og 24 23 false (.mv (.t 6)),og 25 23 false (.bin .gtr (.t 24) (.k (.int .u64 9223372036854775807))),o 26 (.pick (.t 23) (.k (.bool true)) (.t 25))] (.cond (.t 26) Na (.skip))) fG)
def dY:SF:=⟨48,[.tm 4],sQ [o 4 (.mv (.k (.nils)))] (.seq (sQ [oM 9 1,o 10 (.bin .lss (.t 9) (qI 0))] (.cond (.t 10) Nh (.skip))) fM)⟩
theorem nD:nFn C0 N.aO=some dY:=by kernel_rfl
theorem mH (d:Nat)(xs:List AV)(g:G):ac C0 d N.aO xs g=orF ((I C0).call d N.aO xs g):=by kernel_rfl
theorem KI {d:Nat}{g:G}{n:Nat}(hd:0<d)(hn:n<=1000):ac C0 d N.aX [.int .u64 1,.int .u64 (n:Int)] g=.val (.tup [.int .u64 0,.int .u64 (n:Int)]):=by
 have key:∃r,ac C0 d N.aX [.int .u64 1,.int .u64 (n:Int)] g=.val r/\o4 (One (0:Nat)) (One n) NoP 0 .nil r:=by
  have e1:∀g,ac C0 (d+1) N.an [.int .u64 1,.int .u64 (n:Int)] g=.val (.tup [.int .u64 0,.int .u64 (n:Int)]):=fun g=>by
   have:=AW (d:=d+1) (g:=g) (x:=1) (y:=n) (Nat.succ_pos d) (by omega) (by omega) (by omega)
   simpa using this
  rw[tx]
  refine aP uZ (xs:=[.int .u64 1,.int .u64 (n:Int)]) rfl (by simp[lf]) (bQ (m:=1) (aQ _) (aQ _) (by decide) (by decide)) (by decide) hd ?_
  simp only[sz,simprocAttr,lf,e1]
  exact ⟨NoP,_,_,rfl,dN.2 ⟨rfl,by omega⟩,dN.2 ⟨rfl,by omega⟩⟩
 obtain ⟨r,h1,a,b,rfl,h2,h3⟩:=key
 have h2:=(dN.1 h2).1
 injection h2 with h2
 have h3:=(dN.1 h3).1
 injection h3 with h3
 rw[h1,h2,h3]
 rfl
theorem Ld {g:G}{n:Nat}{zero:List AV}(hn:n<=1000):D6 1 8 zero (.int .i64 (n:Int)) (.int .i64 (n:Int)) g=.upd (.hsl g.nx 0 0 n none) (g.new (.cells 1 (List.replicate n zero) 0 false false)):=by
 have hn1:n<=aX:=by unfold aX;omega
 have hb:n*8<=aX:=by unfold aX;omega
 show (match cB aX (.int .i64 (.ofNat n)) with
  | some cn=>match cB cn (.int .i64 (.ofNat n)) with
   | some ln=>an (Nat.ble (cn*8) aX) (OR.upd (.hsl g.nx 0 0 ln none) (g.new (.cells 1 (fE cn zero) 0 false false))) .fail
   | none=>.fail
  | none=>.fail)=_
 simp only[cB,aa,Nat.ble_eq,if_pos hn1,Nat.le_refl,if_pos hb,if_true]
 simp[fE]
theorem El {id off len s:Nat}{x:AV}{rows:List (List AV)}{g:G}(hx:ak g.h 1 x=some (List.replicate s [.int .i64 (-1)]))(hg:g.h.get id=.cells 1 rows 0 false false)(hl:off+len<=rows.length) :
  sj 1 (.hsl id 0 off len none) x g=.upd (.int .i64 ((Nat.min s len:Nat):Int)) (g.put id (.cells 1 (gY rows off (List.replicate (Nat.min s len) [.int .i64 (-1)])) 0 false false)):=by
 have e3:g.get id=.cells 1 rows 0 false false:=hg
 have e4:List.take (Nat.min s len) (List.replicate s [AV.int .i64 (-1)])=List.replicate (Nat.min s len) [.int .i64 (-1)]:=by rw[List.take_replicate];congr 1;exact Nat.min_eq_left (Nat.min_le_left s len)
 simp only[sj,hx,e3,aa,ap,List.length_replicate,aW,e4,Nat.ble_eq,g9]
 simp[hl]
def rpR (n m:Nat):List (List AV):=List.replicate m [.int .i64 (-1)]++List.replicate (n - m) [.int .i64 0]
theorem Au {n m:Nat}(h:m<=n):(rpR n m).length=n:=by simp[rpR];omega
theorem Eb {n m:Nat}(h:m<=n)(i:Nat):(rpR n m)[i]?=if i<m then some [.int .i64 (-1)] else if i<n then some [.int .i64 0] else none:=by
 rw[rpR,List.getElem?_append,List.length_replicate,List.getElem?_replicate,List.getElem?_replicate]
 by_cases h1:i<m
 ·simp[h1]
 ·by_cases h2:i<n
  ·simp[h1,h2,show i - m<n - m by omega]
  ·simp[h1,h2,show ¬i - m<n - m by omega]
theorem Fb {n m k:Nat}(h:m+k<=n):gY (rpR n m) m (List.replicate k [.int .i64 (-1)])=rpR n (m+k):=by
 have hl:m+(List.replicate k [AV.int IntKind.i64 (-1)]).length<=(rpR n m).length:=by rw[Au (by omega),List.length_replicate];exact h
 refine List.ext_getElem? fun i=>?_
 rw[(uP hl).2 i,Eb h,Eb (by omega),List.length_replicate,List.getElem?_replicate]
 by_cases h1:i<m
 ·rw[if_neg (by omega),if_pos h1,if_pos (by omega)]
 ·by_cases h2:i<m+k
  ·rw[if_pos ⟨by omega,h2⟩,if_pos (by omega),if_pos h2]
  ·rw[if_neg (by omega),if_neg h1,if_neg h2]
theorem Kj {q n m:Nat}{g:G}{rows:List (List AV)}(hg:g.h.get q=.cells 1 rows 0 false false)(hl:rows.length=n)(hm:m<n):vB 1 (.hsl q 0 0 n none) (some (.int .i64 (m:Int))) none g=.val (.hsl q 0 m (n - m) none):=by
 subst hl
 simp only[vB,lB,hg,Nat.beq_refl,Bool.true_and,ap,Nat.zero_add,aa,Nat.ble_eq,Nat.le_refl,if_true,ba,Option.getD_none,Nat.sub_zero]
 simp only[cB]
 rw[show an (m.ble rows.length) (some m) none=some m from by rw[aa,if_pos (by simp;omega)]]
 dsimp only
 rw[if_neg (fun e=>by have:=Nat.eq_of_beq_eq_true e;omega)]
 rfl
theorem J6 {q n m:Nat}{g:G}{rows:List (List AV)}(hg:g.h.get q=.cells 1 rows 0 false false)(hl:rows.length=n)(hm:m<=n)(h0:0<n):vB 1 (.hsl q 0 0 n none) none (some (.int .i64 (m:Int))) g=.val (.hsl q 0 0 m none):=by
 subst hl
 simp only[vB,lB,hg,Nat.beq_refl,Bool.true_and,ap,Nat.zero_add,aa,Nat.ble_eq,Nat.le_refl,if_true,ba,Option.getD_none,Nat.sub_zero]
 simp only[cB]
 rw[show an (m.ble rows.length) (some m) none=some m from by rw[aa,if_pos (by simp;omega)]]
 dsimp only
 rw[if_neg (fun e=>by have:=Nat.eq_of_beq_eq_true e;omega)]
 rfl
theorem Ma {d n q:Nat}{Q:QT}{t:T}{g:G}(hn:n<=1000)(h7:tat t 7=.hsl q 0 0 n none)(h8:tat t 8=.int .i64 1)(h0:0<n)(hg:g.h.get q=.cells 1 (rpR n 1) 0 false false)
  (fin:∀t g',tat t 7=.hsl q 0 0 n none->g'.h.get q=.cells 1 (rpR n n) 0 false false->g.nx<=g'.nx->(∀i,i≠q->g'.h.get i=g.h.get i)->Q (.exit 0) t [] g'):wpL (wp C0 d none cW) Q t [] g:=by
 have ln:∀g,gB .slice (.hsl q 0 0 n none) g=.val (.int .i64 (n:Int)):=fun _=>rfl
 refine nJ (fun m t df g'=>df=[]/\0<n - m/\m<=n/\tat t 7=.hsl q 0 0 n none/\tat t 8=.int .i64 ((n - m:Nat):Int)/\g'.h.get q=.cells 1 (rpR n (n - m)) 0 false false/\g.nx<=g'.nx/\∀i,i≠q->g'.h.get i=g.h.get i) (n - 1) ⟨rfl,by omega,by omega,h7,by rw[h8,show n - (n - 1)=1 by omega];rfl,by rw[hg,show n - (n - 1)=1 by omega],Nat.le_refl _,fun _ _=>rfl⟩ ?_
 rintro m t df g1 ⟨rfl,hm0,hmn,h7,h8,hg1,n1,hfr⟩
 simp only[cW]
 by_cases hm:m=0
 ·subst hm
  have c1:¬((n - 0:Nat):Int)<(n:Int):=by omega
  simp only[sz,simprocAttr,h7,h8,ln,c1]
  exact fin _ _ (by simp[sx,h7]) (by rw[hg1];rfl) n1 hfr
 ·have c1:((n - m:Nat):Int)<(n:Int):=by omega
  have hl:=Au (n:=n) (m:=n - m) (by omega)
  obtain ⟨p,hp⟩:∃p,p=n - m:=⟨_,rfl⟩
  rw[<-hp] at c1 h8 hg1 hl hm0
  have s1:∀g:G,g.h.get q=.cells 1 (rpR n p) 0 false false->vB 1 (.hsl q 0 0 n none) (some (.int .i64 (p:Int))) none g=.val (.hsl q 0 p (n - p) none):=fun g hg=>Kj hg hl (by omega)
  have s2:∀g:G,g.h.get q=.cells 1 (rpR n p) 0 false false->vB 1 (.hsl q 0 0 n none) none (some (.int .i64 (p:Int))) g=.val (.hsl q 0 0 p none):=fun g hg=>J6 hg hl (by omega) h0
  have lh:∀x:AV,List.head? [x]=some x:=fun _=>rfl
  have lh0:List.head? ([]:List AV)=none:=rfl
  obtain ⟨k,hk⟩:∃k,Nat.min p (n - p)=k:=⟨_,rfl⟩
  have hk1:k<=n - p:=by rw[<-hk];exact Nat.min_le_right _ _
  have hk0:0<k:=by rw[<-hk];exact Nat.lt_min.2 ⟨by omega,by omega⟩
  simp only[sz,simprocAttr,h7,h8,ln,c1,lh,lh0]
  rw[s1 _ (by simpa using hg1)]
  simp only[sz,simprocAttr,h7,h8,lh,lh0]
  rw[s2 _ (by simpa using hg1)]
  simp only[sz,simprocAttr]
  have kC:∀g:G,g.h.get q=.cells 1 (rpR n p) 0 false false->sj 1 (.hsl q 0 p (n - p) none) (.hsl q 0 0 p none) g=.upd (.int .i64 (k:Int)) (g.put q (.cells 1 (rpR n (p+k)) 0 false false)):=fun g hg=>by
   have h1:ak g.h 1 (.hsl q 0 0 p none)=some (List.replicate p [.int .i64 (-1)]):=by
    rw[eE,hg,ck,if_pos (by omega)]
    simp[rpR]
   rw[El h1 hg (by omega),hk,Fb (by omega)]
  rw[kC _ (by simpa using hg1)]
  have w1:IntKind.wrap .i64 ((p:Int)+(k:Int))=((p+k:Nat):Int):=by rw[<-Int.natCast_add,aG (by omega) (by omega)]
  simp only[sz,simprocAttr,w1]
  refine ⟨?_,n - (p+k),by omega,by omega,by omega,?_,?_,?_,?_⟩
  ·simp only[sf,List.reverse_cons,List.reverse_nil,List.nil_append,List.cons_append]
   refine aR [false,false,false,false,false,false,false,true,false,false] [(0,7)] (by simp[All2,af,aw]) (by decide) ?_
   rintro p hp' x y hx hy
   simp only[List.mem_cons,List.not_mem_nil,or_false] at hp'
   subst hp'
   simp at hx hy
   subst hx;subst hy
   refine eC rfl rfl rfl rfl ?_ ?_ ?_<;>simp[af,aw,ah]
  ·simp[sx,h7]
  ·simp[sx];omega
  ·simp;congr 1;omega
  ·refine ⟨by omega,fun i hi=>?_⟩
   rw[if_neg hi];exact hfr i hi
theorem K6 {d n id:Nat}{g:G}{K:AV->G->Prop}{D:ADf->Prop}(hd:0<d)(h0:0<n)(h1:n<=1000)(hg:g.h.get id=.cells 1 [[.int .i64 (-1)]] 0 false false)(hid:id<g.nx)
  (kk:∀u g',Own g' g.nx u 1 ((List.replicate n (-1)).map ci)->Fr g g'->K u g'):(ac C0 d N.aO [.hsl id 0 0 1 none,.int .i64 (n:Int)] g).sat K g D:=by
 have kM:=fun g=>KI (d:=d) (g:=g) (n:=n) hd h1
 have c1:¬(n:Int)<0:=by omega
 have c2:¬(9223372036854775807:Int)<(n:Int):=by omega
 have l1:∀g,gB .slice (.hsl id 0 0 1 none) g=.val (.int .i64 1):=fun _=>rfl
 have w1:IntKind.wrap .u64 1=1:=by decide
 have w2:IntKind.wrap .u64 (n:Int)=(n:Int):=fc (by omega) (by omega)
 have w3:IntKind.wrap .i64 (n:Int)=(n:Int):=aG (by omega) (by omega)
 have km:=fun g=>Ld (g:=g) (n:=n) (zero:=[.int .i64 0]) h1
 rw[mH]
 refine lO nD (by simp[dY]) ?_
 simp only[sz,simprocAttr,dY,fM,fG,c1,c2,l1,w1,w2,w3,kM,km]
 have hc:∀g':G,g'.nx=g.nx+1->g'.h.get id=g.h.get id->g'.h.get g.nx=.cells 1 (rpR n 0) 0 false false->sj 1 (.hsl g.nx 0 0 n none) (.hsl id 0 0 1 none) g'=.upd (.int .i64 1) (g'.put g.nx (.cells 1 (rpR n 1) 0 false false)):=fun g' e1 e2 e3=>by
  have h1':ak g'.h 1 (.hsl id 0 0 1 none)=some (List.replicate 1 [.int .i64 (-1)]):=by
   rw[eE,e2,hg,ck,if_pos (by simp)];rfl
  have:=El (off:=0) (len:=n) h1' e3 (by rw[Au (by omega)];omega)
  have e:Nat.min 1 n=1:=Nat.min_eq_left h0
  rw[e,Fb (by omega)] at this
  exact this
 rw[hc _ (by simp) (by simp[H.get_put,show ¬id=g.nx by omega]) (by simp[H.get_put,rpR])]
 simp only[sz,simprocAttr]
 refine Ma (n:=n) (q:=g.nx) h1 (by simp[sx]) (by simp[sx]) h0 (by simp[H.get_put]) ?_
 intro t g' h7 hg' hn' hfr
 simp only[sz,simprocAttr,fH,h7]
 refine kk _ g' (.inr ⟨g.nx,0,false,Nat.le_refl _,by simp at hn';omega,by simp,?_⟩) ⟨by simp at hn';omega,fun i hi=>by rw[hfr i (by omega)];simp[H.get_put,show ¬i=g.nx by omega]⟩
 rw[hg']
 simp[rpR,ci]
theorem Lw {d:Nat}{g:G}{a b:Int}(hd:0<d):ac C0 d N.ay [.int .i64 a,.int .i64 b] g=.val (.agg [.int .i64 a,.int .i64 b]):=by
 have key:∃r,ac C0 d N.ay [.int .i64 a,.int .i64 b] g=.val r/\Agg ((a,b):QI) NoP 0 .nil r:=by
  rw[xW]
  refine aP Ci (xs:=[.int .i64 a,.int .i64 b]) rfl (by simp[sU]) (bu _) (by decide) hd ?_
  simp only[sz,simprocAttr,sU,tN]
  exact ⟨NoP,gf.2 rfl⟩
 obtain ⟨r,h1,h2⟩:=key
 rw[h1,gf.1 h2]
def QpV (q:QI):VS:=fun P k h p=>(∃id,p=.hptr id 0 0 0/\P id/\h.get id=.cells 2 [[.int .i64 q.1,.int .i64 q.2]] 0 false false)\/∃t,p=.tptr t 2 [[.int .i64 q.1,.int .i64 q.2]] 0 0/\t<=k
def IqV (q:QI):VS:=fun P k h v=>∃p,v=.clo N.ax [] [p]/\QpV q P k h p
theorem Ke {q:QI}{P:Nat->Prop}{k:Nat}{h:H}{p:AV}(d j:Nat)(r:QpV q P k h p):∃p',Hx.snap h d (j+3) p=some p'/\QpV q NoP (max k d) .nil p':=by
 rcases r with ⟨id,rfl,-,hg⟩ | ⟨t,rfl,ht⟩
 ·exact ⟨_,AM d j hg,.inr ⟨_,rfl,by show max d 0<=_;omega⟩⟩
 ·exact ⟨_,rfl,.inr ⟨t,rfl,by omega⟩⟩
theorem LZ (q:QI):Snb (IqV q) 4:=by
 refine ⟨fun {P k h v j} d r hn=>?_,fun {k h v j} r hn=>?_⟩
 ·obtain ⟨p,rfl,r1⟩:=r
  obtain ⟨j,rfl⟩:∃i,j=i+4:=⟨j - 4,by omega⟩
  obtain ⟨p',e1,s1⟩:=Ke d j r1
  refine ⟨.clo N.ax [] [p'],?_,p',rfl,s1⟩
  show (match aE (Hx.snap h d (j+3)) [],aE (Hx.snap h d (j+3)) [p] with | some as',some cs=>some (AV.clo N.ax as' cs) | _,_=>none)=_
  simp only[aE,e1]
 ·obtain ⟨p,rfl,r1⟩:=r
  obtain ⟨j,rfl⟩:∃i,j=i+4:=⟨j - 4,by omega⟩
  rcases r1 with ⟨id,rfl,hP,-⟩ | ⟨t,rfl,ht⟩
  ·exact hP.elim
  exact ⟨Nat.max t 0,rfl,by show max t 0<=k;omega⟩
theorem Mj {d:Nat}{g:G}{q:QI}(hd:0<d):ac C0 d N.aH [.agg [.int .i64 q.1,.int .i64 q.2]] g=.val (.clo N.ax [] [.tptr 0 2 [[.int .i64 q.1,.int .i64 q.2]] 0 0]):=by
 have key:∃r,ac C0 d N.aH [.agg [.int .i64 q.1,.int .i64 q.2]] g=.val r/\IqV q NoP 0 .nil r:=by
  rw[s6]
  refine aP ut (xs:=[.agg [.int .i64 q.1,.int .i64 q.2]]) rfl (by simp[je]) (LZ q) (by decide) hd ?_
  simp only[sz,simprocAttr,je,lJ]
  exact ⟨fun _=>True,_,rfl,.inl ⟨0,rfl,trivial,by simp[sx]⟩⟩
 obtain ⟨r,h1,p,rfl,h2⟩:=key
 rcases h2 with ⟨id,rfl,hP,-⟩ | ⟨t,rfl,ht⟩
 ·exact hP.elim
 rw[h1,show t=0 by omega]
theorem Hl (d:Nat)(a b p:AV)(g:G):cY C0 (I C0) d (.clo N.ax [] [p]) [a,b] g=orF ((I C0).call d N.ax [a,b,p] g):=by kernel_rfl
theorem FK {d:Nat}{g:G}{q:QI}{K:AV->G->Prop}{D:ADf->Prop}(kk:∀g',Fr g g'->(∀i∈g'.lg,i∈g.lg\/g.nx<=i)->K (.bool true) g') :
  (cY C0 (I C0) d (.clo N.ax [] [.tptr 0 2 [[.int .i64 q.1,.int .i64 q.2]] 0 0]) [.agg [.int .i64 q.1,.int .i64 q.2],.int .i64 0] g).sat K g D:=by
 rw[Hl]
 refine lO su (by simp[gI]) ?_
 simp only[gI,jC,sx,sy,SO.run,↓reduceIte,Nat.reduceEqDiff,Nat.reduceAdd,Nat.reduceLeDiff,dT,M1,decide_true]
 exact kk _ ⟨by simp,fun i hi=>by simp[H.get_put,show ¬i=g.nx by omega]⟩ (fun i hi=>by simp at hi;rcases hi with rfl | hi;exact .inr (Nat.le_refl _);exact .inl hi)
end
end Hx
end
section
namespace Hx
open Go
set_option maxRecDepth 100000
noncomputable section
def Ni:SC:=match nFn C0 N.ap with | some ⟨_,_,.seq _ (.seq (.seq _ (.cond _ x _)) _)⟩=>x | _=>.skip
def Nd:SC:=match nFn C0 N.ap with | some ⟨_,_,.seq _ (.seq _ (.seq (.seq _ (.cond _ x _)) _))⟩=>x | _=>.skip
def rt:SC:=.seq (sQ [oM 67 15,o 68 (.bin .geq (.t 67) (.k (.int .u64 4294967296))),oM 69 68,og 70 69 false (.mv (.t 15)),og 71 69 false (.mv (.t 10)),og 72 69 false (.bin .mul (.t 70) (.t 71)),og 73 69 false (.mv (.t 16)),og 74 69 false (.bin .mul (.k (.int .u64 4294967296)) (.t 73)),og 75 69 false (.mv (.t 13)),og 76 69 false (.bin .add (.t 74) (.t 75)),og 77 69 false (.bin .gtr (.t 72) (.t 76)),o 78 (.pick (.t 69) (.k (.bool true)) (.t 77))] (.cond (.t 78) (.skip) (.exit 0))) (.blk 1 (sQ [oM 79 15,o 80 (.bin .sub (.t 79) (.k (.int .u64 1))),oM 15 80] (sQ [oM 81 16,oM 82 9,o 83 (.bin .add (.t 81) (.t 82)),oM 16 83] (sQ [oM 84 16,o 85 (.bin .geq (.t 84) (.k (.int .u64 4294967296)))] (.cond (.t 85) (.exit 0) (.skip))))))
def q_:SC:=.seq (sQ [oM 102 18,o 103 (.bin .geq (.t 102) (.k (.int .u64 4294967296))),oM 104 103,og 105 104 false (.mv (.t 18)),og 106 104 false (.mv (.t 10)),og 107 104 false (.bin .mul (.t 105) (.t 106)),og 108 104 false (.mv (.t 16)),og 109 104 false (.bin .mul (.k (.int .u64 4294967296)) (.t 108)),og 110 104 false (.mv (.t 14)),og 111 104 false (.bin .add (.t 109) (.t 110)),og 112 104 false (.bin .gtr (.t 107) (.t 111)),o 113 (.pick (.t 104) (.k (.bool true)) (.t 112))] (.cond (.t 113) (.skip) (.exit 2))) (.blk 3 (sQ [oM 114 18,o 115 (.bin .sub (.t 114) (.k (.int .u64 1))),oM 18 115] (sQ [oM 116 16,oM 117 9,o 118 (.bin .add (.t 116) (.t 117)),oM 16 118] (sQ [oM 119 16,o 120 (.bin .geq (.t 119) (.k (.int .u64 4294967296)))] (.cond (.t 120) (.exit 2) (.skip))))))
def rh:SC:=sQ [oM 121 15,o 122 (.bin .mul (.t 121) (.k (.int .u64 4294967296))),oM 123 18,o 124 (.bin .add (.t 122) (.t 123)),oM 125 17,o 126 (.bin .mul (.t 125) (.k (.int .u64 4294967296))),oM 127 14,o 128 (.bin .add (.t 126) (.t 127)),oM 129 18,oM 130 2,o 131 (.bin .mul (.t 129) (.t 130)),o 132 (.bin .sub (.t 128) (.t 131)),oM 133 8,o 134 (.bin .shr (.t 132) (.t 133)),oM 6 124,oM 7 134] (.ret)
def ro:SC:=sQ [oM 86 11,o 87 (.bin .mul (.t 86) (.k (.int .u64 4294967296))),oM 88 13,o 89 (.bin .add (.t 87) (.t 88)),oM 90 15,oM 91 2,o 92 (.bin .mul (.t 90) (.t 91)),o 93 (.bin .sub (.t 89) (.t 92)),oM 17 93] (sQ [oM 94 17,oM 95 9,o 96 (.bin .quo (.t 94) (.t 95)),oM 18 96] (sQ [oM 97 17,oM 98 18,oM 99 9,o 100 (.bin .mul (.t 98) (.t 99)),o 101 (.bin .sub (.t 97) (.t 100)),oM 16 101] (.seq (.blk 2 (.loop q_)) rh)))
def jB:SC:=.seq (sQ [oM 26 0,o 27 (.bin .eql (.t 26) (.k (.int .u64 0)))] (.cond (.t 27) (.seq (.quiet [oM 28 1,oM 29 2,o 30 (.bin .quo (.t 28) (.t 29)),oM 31 1,oM 32 2,o 33 (.bin .rem (.t 31) (.t 32)),oM 6 30,oM 7 33]) (.ret)) (.skip))) (sQ [oM 34 2,o 35 (.call N.bO [.t 34]),o 36 (.conv .u64 (.t 35)),oM 8 36] (sQ [oM 37 2,oM 38 8,o 39 (.bin .shl (.t 37) (.t 38)),oM 2 39] (sQ [oM 40 2,o 41 (.bin .shr (.t 40) (.k (.int .u64 32))),oM 9 41] (sQ [oM 42 2,o 43 (.bin .and (.t 42) (.k (.int .u64 4294967295))),oM 10 43] (sQ [oM 44 0,oM 45 8,o 46 (.bin .shl (.t 44) (.t 45)),oM 47 1,oM 48 8,o 49 (.bin .sub (.k (.int .u64 64)) (.t 48)),o 50 (.bin .shr (.t 47) (.t 49)),o 51 (.bin .or (.t 46) (.t 50)),oM 11 51] (sQ [oM 52 1,oM 53 8,o 54 (.bin .shl (.t 52) (.t 53)),oM 12 54] (sQ [oM 55 12,o 56 (.bin .shr (.t 55) (.k (.int .u64 32))),oM 13 56] (sQ [oM 57 12,o 58 (.bin .and (.t 57) (.k (.int .u64 4294967295))),oM 14 58] (sQ [oM 59 11,oM 60 9,o 61 (.bin .quo (.t 59) (.t 60)),oM 15 61] (sQ [oM 62 11,oM 63 15,oM 64 9,o 65 (.bin .mul (.t 63) (.t 64)),o 66 (.bin .sub (.t 62) (.t 65)),oM 16 66] (.seq (.blk 0 (.loop rt)) ro)))))))))))
def jA:SC:=.seq (sQ [oM 22 2,oM 23 0,o 24 (.bin .leq (.t 22) (.t 23))] (.cond (.t 24) Nd (.skip))) jB
def im:SF:=⟨135,[.tm 6,.tm 7],sQ [o 6 (.mv (.k (.int .u64 0))),o 7 (.mv (.k (.int .u64 0)))] (.seq (sQ [oM 19 2,o 20 (.bin .eql (.t 19) (.k (.int .u64 0)))] (.cond (.t 20) Ni (.skip))) jA)⟩
theorem s8:nFn C0 N.ap=some im:=by kernel_rfl
theorem rx (d:Nat)(xs:List AV)(g:G):ac C0 d N.ap xs g=am (I C0) d g N.ap xs:=by kernel_rfl
end
end Hx
end
section
section
namespace Hx
open Go
theorem Ej {t p q u v:Nat}(hu:Nat.gcd u p=1)(hpq:Nat.gcd p q=1)(ht:t=u*q+v*p):Nat.gcd t p=1:=by
 have h:Nat.gcd t p ∣ u*q:=by
  have h1:Nat.gcd t p ∣ u*q+v*p:=by rw[<-ht];exact Nat.gcd_dvd_left t p
  exact (Nat.dvd_add_left (Nat.dvd_trans (Nat.gcd_dvd_right t p) (Nat.dvd_mul_left p v))).1 h1
 have hc:Nat.Coprime p (u*q):=Nat.Coprime.mul_right (Nat.Coprime.symm hu) hpq
 have:Nat.gcd t p ∣ Nat.gcd p (u*q):=Nat.dvd_gcd (Nat.gcd_dvd_right t p) h
 rw[hc] at this
 exact Nat.dvd_one.1 this
theorem K7 {u u' v v' g h:Nat}(hu:Nat.gcd u u'=1)(hv:Nat.gcd v v'=1)(u0:0<u')(v0:0<v')(hg:Nat.gcd u' v'=g)(hh:Nat.gcd ((u*(v' / g)+v*(u' / g)) % g) g=h) :
  Nat.Coprime ((u*(v' / g)+v*(u' / g)) / h) (u' / g*(v' / h))/\0<u' / g*(v' / h)/\0<g/\0<h/\(u*(v' / g)+v*(u' / g)) / h*(u'*v')=(u*v'+v*u')*(u' / g*(v' / h)):=by
 have g0:0<g:=by rw[<-hg];exact Nat.gcd_pos_of_pos_left _ u0
 obtain ⟨p,hp⟩:∃p,u' / g=p:=⟨_,rfl⟩
 obtain ⟨q,hq⟩:∃q,v' / g=q:=⟨_,rfl⟩
 have gu:g ∣ u':=by rw[<-hg];exact Nat.gcd_dvd_left _ _
 have gv:g ∣ v':=by rw[<-hg];exact Nat.gcd_dvd_right _ _
 have eu:u'=p*g:=by rw[<-hp,Nat.div_mul_cancel gu]
 have ev:v'=q*g:=by rw[<-hq,Nat.div_mul_cancel gv]
 have hpq:Nat.gcd p q=1:=by rw[<-hp,<-hq,<-hg];exact Nat.gcd_div_gcd_div_gcd_of_pos_left u0
 rw[hp,hq] at hh ⊢
 obtain ⟨t,ht⟩:∃t,t=u*q+v*p:=⟨_,rfl⟩
 rw[<-ht] at hh ⊢
 have hh:Nat.gcd t g=h:=by rw[<-hh,<-Nat.gcd_rec,Nat.gcd_comm]
 have h0:0<h:=by rw[<-hh];exact Nat.gcd_pos_of_pos_right _ g0
 have htd:h ∣ t:=by rw[<-hh];exact Nat.gcd_dvd_left _ _
 have hgd:h ∣ g:=by rw[<-hh];exact Nat.gcd_dvd_right _ _
 obtain ⟨t1,et⟩:=htd
 obtain ⟨g1,eg⟩:=hgd
 have e1:t / h=t1:=by rw[et,Nat.mul_div_cancel_left _ h0]
 have e2:v' / h=q*g1:=by rw[ev,eg,show q*(h*g1)=h*(q*g1) by rw[Nat.mul_left_comm],Nat.mul_div_cancel_left _ h0]
 have c1:Nat.gcd t p=1:=Ej (u:=u) (q:=q) (v:=v) (Nat.Coprime.coprime_dvd_right ⟨g,eu⟩ hu) hpq ht
 have c2:Nat.gcd t q=1:=Ej (u:=v) (q:=p) (v:=u) (Nat.Coprime.coprime_dvd_right ⟨g,ev⟩ hv) (by rw[Nat.gcd_comm];exact hpq) (by rw[ht,Nat.add_comm])
 have c3:Nat.gcd t1 g1=1:=by
  have:=Nat.gcd_mul_left h t1 g1
  rw[<-et,<-eg,hh] at this
  exact Nat.eq_of_mul_eq_mul_left h0 (by omega)
 have d1:t1 ∣ t:=⟨h,by rw[et,Nat.mul_comm]⟩
 have p0:0<p:=by rcases Nat.eq_zero_or_pos p with e | e;· rw[e] at eu;omega
                 ·exact e
 have q0:0<q:=by rcases Nat.eq_zero_or_pos q with e | e;· rw[e] at ev;omega
                 ·exact e
 have g10:0<g1:=by rcases Nat.eq_zero_or_pos g1 with e | e;· rw[e] at eg;omega
                   ·exact e
 rw[e1,e2]
 refine ⟨Nat.Coprime.mul_right (Nat.Coprime.coprime_dvd_left d1 c1) (Nat.Coprime.mul_right (Nat.Coprime.coprime_dvd_left d1 c2) c3),Nat.mul_pos p0 (Nat.mul_pos q0 g10),g0,h0,?_⟩
 have:u*v'+v*u'=t*g:=by rw[ht,eu,ev,Nat.add_mul,Nat.mul_assoc,Nat.mul_assoc]
 rw[this,et,eu,ev]
 have:t1*(p*g*(q*g))=t1*g*(p*(q*g)):=by ac_rfl
 rw[this]
 have:h*t1*g*(p*(q*g1))=t1*g*(p*(q*(h*g1))):=by ac_rfl
 rw[this,<-eg]
theorem Kw {c s w n d:Nat}{u u' v v':Nat}(w0:0<w)(u0:0<u')(v0:0<v')(e1:u*w=c*u')(e2:v*w=s*v')(hc:Nat.Coprime n d)(hd:0<d)(h:n*(u'*v')=(u*v'+v*u')*d):S.an (c+s) w=((n:Int),(d:Int)):=by
 refine C5 hc hd w0 ?_
 refine Nat.eq_of_mul_eq_mul_right (Nat.mul_pos u0 v0) ?_
 have a1:n*w*(u'*v')=n*(u'*v')*w:=by ac_rfl
 rw[a1,h]
 have a2:(u*v'+v*u')*d*w=(u*w*v'+v*w*u')*d:=by rw[Nat.mul_right_comm,Nat.add_mul,Nat.mul_right_comm u,Nat.mul_right_comm v]
 rw[a2,e1,e2]
 have a3:c*u'*v'+s*v'*u'=(c+s)*(u'*v'):=by rw[Nat.add_mul];ac_rfl
 rw[a3];ac_rfl
theorem yP (c w:Nat)(w0:0<w):∃u u':Nat,S.an c w=((u:Int),(u':Int))/\Nat.gcd u u'=1/\0<u'/\u*w=c*u'/\u<=c/\u'<=w:=by
 have g0:0<Nat.gcd c w:=Nat.gcd_pos_of_pos_right _ w0
 refine ⟨c / Nat.gcd c w,w / Nat.gcd c w,rfl,Nat.gcd_div_gcd_div_gcd_of_pos_right w0,Nat.div_pos (Nat.le_of_dvd w0 (Nat.gcd_dvd_right _ _)) g0,?_,Nat.div_le_self _ _,Nat.div_le_self _ _⟩
 obtain ⟨x,hx⟩:=Nat.gcd_dvd_left c w
 obtain ⟨y,hy⟩:=Nat.gcd_dvd_right c w
 generalize Nat.gcd c w=z at *
 subst hx;subst hy
 rw[Nat.mul_div_cancel_left _ g0,Nat.mul_div_cancel_left _ g0];ac_rfl
end Hx
end
section
namespace Hx
open Go
noncomputable section
theorem tg {x y:Nat}(hx:x<18446744073709551616)(hy:0<y):bH .quo (.int .u64 (x:Int)) (.int .u64 (y:Int))=.val (.int .u64 ((x / y:Nat):Int)):=by
 have hle:x / y<=x:=Nat.div_le_self _ _
 rw[z_ .u64 (Int.natCast_nonneg x) (by omega),<-Int.natCast_ediv]
 generalize x / y=z at hle
 rw[fc (by omega) (by omega)]
theorem AK {x y:Nat}(hy:0<y):bH .rem (.int .u64 (x:Int)) (.int .u64 (y:Int))=.val (.int .u64 ((x % y:Nat):Int)):=by
 rw[jE .u64 (Int.natCast_nonneg x) (by omega),<-Int.natCast_emod]
theorem BL {d:Nat}{g:G}{x y:Nat}(hd:0<d)(hx:x<18446744073709551616)(hy:0<y)(hy2:y<18446744073709551616) :
  ac C0 d N.ap [.int .u64 0,.int .u64 (x:Int),.int .u64 (y:Int)] g=.val (.tup [.int .u64 ((x / y:Nat):Int),.int .u64 ((x % y:Nat):Int)]):=by
 have k1:x / y<18446744073709551616:=by have:=Nat.div_le_self x y;omega
 have k2:x % y<18446744073709551616:=by have:=Nat.mod_lt x hy;omega
 have key:∃r,ac C0 d N.ap [.int .u64 0,.int .u64 (x:Int),.int .u64 (y:Int)] g=.val r/\o4 (One (x / y:Nat)) (One (x % y:Nat)) NoP 0 .nil r:=by
  rw[rx]
  refine aP s8 (xs:=[.int .u64 0,.int .u64 (x:Int),.int .u64 (y:Int)]) (by simp only[aE,c_ 0]) (by simp[im]) (bQ (m:=1) (aQ _) (aQ _) (by decide) (by decide)) (by decide) hd ?_
  have l1:decide ((y:Int)=0)=false:=by simp;omega
  have l2:decide ((y:Int)<=0)=false:=by simp;omega
  have q1:=tg hx hy
  have q2:=AK (x:=x) hy
  simp only[im,jA,jB,sx,sy,SO.run,↓reduceIte,Nat.reduceEqDiff,l1,l2,q1,q2,decide_true]
  exact ⟨NoP,_,_,rfl,dN.2 ⟨rfl,k1⟩,dN.2 ⟨rfl,k2⟩⟩
 obtain ⟨r,h1,a,b,rfl,h2,h3⟩:=key
 have h2:=(dN.1 h2).1
 have h3:=(dN.1 h3).1
 injection h2 with h2;injection h3 with h3
 rw[h1,h2,h3]
theorem Jp {d:Nat}{g:G}{x y:Nat}(hd:0<d)(hx:x<18446744073709551616)(hy:0<y)(hy2:y<18446744073709551616) :
  ac C0 d N.aU [.int .u64 0,.int .u64 (x:Int),.int .u64 (y:Int)] g=.val (.int .u64 ((x % y:Nat):Int)):=by
 rw[rB]
 refine jH th (xs:=[.int .u64 0,.int .u64 (x:Int),.int .u64 (y:Int)]) (by simp only[aE,c_ 0]) (by simp[iC]) hd ?_
 have e1:=fun g=>BL (d:=d+1) (g:=g) (Nat.succ_pos d) hx hy hy2
 have q0:bH .rem (.int .u64 0) (.int .u64 (y:Int))=.val (.int .u64 0):=by have:=AK (x:=0) hy;rw[Nat.zero_mod] at this;exact this
 simp only[iC,sx,sy,SO.run,↓reduceIte,Nat.reduceEqDiff,q0,e1]
theorem CZ (d:Nat)(xs:List AV)(g:G):ac C0 d N.bp xs g=s7 d xs g:=by kernel_rfl
theorem Cv {d:Nat}{g:G}{x y:Nat}(h:x+y<18446744073709551616):ac C0 d N.bp [.int .u64 (x:Int),.int .u64 (y:Int),.int .u64 0] g=.val (.tup [.int .u64 ((x+y:Nat):Int),.int .u64 0]):=by
 rw[CZ]
 show an (Nat.ble 0 1) (OR.val (.tup [.int .u64 (.ofNat ((x+y+0) % 18446744073709551616)),.int .u64 (.ofNat ((x+y+0) / 18446744073709551616))])) .fail=_
 rw[Nat.add_zero,Nat.mod_eq_of_lt h,Nat.div_eq_of_lt h]
 rfl
theorem MQ (id:Nat):D7 2 1 (.hptr id 0 0 0) (.int .i64 0)=.val (.hptr id 0 0 0)/\D7 2 1 (.hptr id 0 0 0) (.int .i64 1)=.val (.hptr id 0 0 1) :=
 ⟨Bf 2 1 id 0 0 0 .i64 (j:=0) (by decide),Bf 2 1 id 0 0 0 .i64 (j:=1) (by decide)⟩
theorem K9 {d:Nat}{g:G}{x y:Nat}(hd:0<d)(h:x+y<18446744073709551616) :
  ac C0 d N.aQ [.agg [.int .u64 0,.int .u64 (x:Int)],.agg [.int .u64 0,.int .u64 (y:Int)]] g=.val (.agg [.int .u64 0,.int .u64 ((x+y:Nat):Int)]):=by
 have key:∃r,ac C0 d N.aQ [.agg [.int .u64 0,.int .u64 (x:Int)],.agg [.int .u64 0,.int .u64 (y:Int)]] g=.val r/\Agg (((0:Nat),x+y):QN) NoP 0 .nil r:=by
  rw[xE]
  refine aP zK (xs:=[.agg [.int .u64 0,.int .u64 (x:Int)],.agg [.int .u64 0,.int .u64 (y:Int)]]) rfl (by simp[pO]) (bu _) (by decide) hd ?_
  have e1:=fun g=>Cv (d:=d+1) (g:=g) h
  have e2:∀g,ac C0 (d+1) N.bp [.int .u64 0,.int .u64 0,.int .u64 0] g=.val (.tup [.int .u64 0,.int .u64 0]):=fun g=>Cv (d:=d+1) (g:=g) (x:=0) (y:=0) (by decide)
  simp only[pO,rE,sx,sy,SO.run,↓reduceIte,Nat.reduceEqDiff,Nat.reduceAdd,Nat.reduceLeDiff,MQ,e1,e2]
  exact ⟨NoP,(y8 (x:=(0,x+y)) (by show (0:Nat)<18446744073709551616;decide) h).2 rfl⟩
 obtain ⟨r,h1,h2⟩:=key
 rw[h1,(y8 (x:=(0,x+y)) (by show (0:Nat)<18446744073709551616;decide) h).1 h2];rfl
theorem Ko {d:Nat}{g:G}{x y:Nat}(hd:0<d)(hx:x<18446744073709551616)(hy:0<y)(hy2:y<18446744073709551616) :
  ac C0 d N.aC [.agg [.int .u64 0,.int .u64 (x:Int)],.int .u64 (y:Int)] g=.val (.agg [.int .u64 0,.int .u64 ((x / y:Nat):Int)]):=by
 have hq:x / y<18446744073709551616:=by have:=Nat.div_le_self x y;omega
 have key:∃r,ac C0 d N.aC [.agg [.int .u64 0,.int .u64 (x:Int)],.int .u64 (y:Int)] g=.val r/\Agg (((0:Nat),x / y):QN) NoP 0 .nil r:=by
  rw[xK]
  refine aP AE (xs:=[.agg [.int .u64 0,.int .u64 (x:Int)],.int .u64 (y:Int)]) (by simp only[aE,c_ 0];rfl) (by simp[px]) (bu _) (by decide) hd ?_
  have e1:=fun g=>BL (d:=d+1) (g:=g) (Nat.succ_pos d) hx hy hy2
  have q0:bH .rem (.int .u64 0) (.int .u64 (y:Int))=.val (.int .u64 0):=by have:=AK (x:=0) hy;rw[Nat.zero_mod] at this;exact this
  have q1:bH .quo (.int .u64 0) (.int .u64 (y:Int))=.val (.int .u64 0):=by have:=tg (x:=0) (by decide) hy;rw[Nat.zero_div] at this;exact this
  simp only[px,rK,sx,sy,SO.run,↓reduceIte,Nat.reduceEqDiff,Nat.reduceAdd,Nat.reduceLeDiff,MQ,e1,q0,q1]
  exact ⟨NoP,(y8 (x:=(0,x / y)) (by show (0:Nat)<18446744073709551616;decide) hq).2 rfl⟩
 obtain ⟨r,h1,h2⟩:=key
 rw[h1,(y8 (x:=(0,x / y)) (by show (0:Nat)<18446744073709551616;decide) hq).1 h2];rfl
theorem Mh {d:Nat}{g:G}{u u' v v' z p q h E:Nat}(hd:0<d)(hz:Nat.gcd u' v'=z)(hp:u' / z=p)(hq:v' / z=q)(hh:Nat.gcd ((u*q+v*p) % z) z=h)(hE:v' / h=E)(z0:0<z)(h0:0<h)
  (lu:u<=4611686018427387903) (lu':u'<=4611686018427387903) (lv:v<=4611686018427387903) (lv':v'<=4611686018427387903) (lt:u*q+v*p<18446744073709551616)
  (p1:(u*q+v*p) / h<=4611686018427387903) (p2:p*E<=4611686018427387903) :
  ac C0 d N.aB [.agg [.int .i64 (u:Int),.int .i64 (u':Int)],.agg [.int .i64 (v:Int),.int .i64 (v':Int)]] g=.val (.agg [.int .i64 (((u*q+v*p) / h:Nat):Int),.int .i64 ((p*E:Nat):Int)]):=by
 have key:∃r,ac C0 d N.aB [.agg [.int .i64 (u:Int),.int .i64 (u':Int)],.agg [.int .i64 (v:Int),.int .i64 (v':Int)]] g=.val r/\Agg (((((u*q+v*p) / h:Nat):Int),((p*E:Nat):Int)):QI) NoP 0 .nil r:=by
  rw[yh]
  refine aP Cd (xs:=[.agg [.int .i64 (u:Int),.int .i64 (u':Int)],.agg [.int .i64 (v:Int),.int .i64 (v':Int)]]) rfl (by simp[sV]) (bu _) (by decide) hd ?_
  have hd1:=Nat.succ_pos d
  have e1:∀x:Nat,x<=4611686018427387903->∀g,ac C0 (d+1) N.aa [.int .i64 (x:Int)] g=.val (.int .u64 (x:Int)):=fun x hx g=>tB (Nat.succ_pos d) ⟨by omega,by omega⟩
  have e2:∀g,ac C0 (d+1) N.af [.int .u64 (u':Int),.int .u64 (v':Int)] g=.val (.int .u64 (z:Int)):=fun g=>by rw[qT (Nat.succ_pos d) (by omega) (by omega),hz]
  have lz:z<=u'\/u'=0:=by
   by_cases e:u'=0
   ·exact .inr e
   ·exact .inl (by rw[<-hz];exact Nat.le_of_dvd (by omega) (Nat.gcd_dvd_left _ _))
  have lz2:z<18446744073709551616:=by
   rcases lz with e | e
   ·omega
   ·have:z=v':=by rw[<-hz,e,Nat.gcd_zero_left]
    omega
  have lp:p<=u':=by rw[<-hp];exact Nat.div_le_self _ _
  have lq:q<=v':=by rw[<-hq];exact Nat.div_le_self _ _
  have lE:E<=v':=by rw[<-hE];exact Nat.div_le_self _ _
  have lm:=Nat.mod_lt (u*q+v*p) z0
  have e3:∀g,ac C0 (d+1) N.af [.int .u64 (((u*q+v*p) % z:Nat):Int),.int .u64 (z:Int)] g=.val (.int .u64 (h:Int)):=fun g=>by rw[qT (Nat.succ_pos d) (by omega) lz2,hh]
  have lh:h<18446744073709551616:=by
   have:h<=z:=by rw[<-hh];exact Nat.le_of_dvd z0 (Nat.gcd_dvd_right _ _)
   omega
  have t1:∀g,ac C0 (d+1) N.ae [.int .u64 (u:Int),.int .u64 (q:Int)] g=.val (.agg [.int .u64 0,.int .u64 ((u*q:Nat):Int)]):=fun g=>xq hd1 (by omega) (by omega) (by omega)
  have t2:∀g,ac C0 (d+1) N.ae [.int .u64 (v:Int),.int .u64 (p:Int)] g=.val (.agg [.int .u64 0,.int .u64 ((v*p:Nat):Int)]):=fun g=>xq hd1 (by omega) (by omega) (by omega)
  have t3:∀g,ac C0 (d+1) N.ae [.int .u64 (p:Int),.int .u64 (E:Int)] g=.val (.agg [.int .u64 0,.int .u64 ((p*E:Nat):Int)]):=fun g=>xq hd1 (by omega) (by omega) (by omega)
  have pl:∀g,ac C0 (d+1) N.aQ [.agg [.int .u64 0,.int .u64 ((u*q:Nat):Int)],.agg [.int .u64 0,.int .u64 ((v*p:Nat):Int)]] g=.val (.agg [.int .u64 0,.int .u64 ((u*q+v*p:Nat):Int)]):=fun g=>K9 hd1 lt
  have rm:∀g,ac C0 (d+1) N.aU [.int .u64 0,.int .u64 ((u*q+v*p:Nat):Int),.int .u64 (z:Int)] g=.val (.int .u64 (((u*q+v*p) % z:Nat):Int)):=fun g=>Jp hd1 lt z0 lz2
  have ov:∀g,ac C0 (d+1) N.aC [.agg [.int .u64 0,.int .u64 ((u*q+v*p:Nat):Int)],.int .u64 (h:Int)] g=.val (.agg [.int .u64 0,.int .u64 (((u*q+v*p) / h:Nat):Int)]):=fun g=>Ko hd1 lt h0 lh
  have fi:∀g,ac C0 (d+1) N.ak [.bool false,.agg [.int .u64 0,.int .u64 (((u*q+v*p) / h:Nat):Int)],.agg [.int .u64 0,.int .u64 ((p*E:Nat):Int)]] g=.val (.agg [.int .i64 (((u*q+v*p) / h:Nat):Int),.int .i64 ((p*E:Nat):Int)]):=fun g=>JN hd1 p1 p2
  have w1:=tg (x:=u') (y:=z) (by omega) z0
  have w2:=tg (x:=v') (y:=z) (by omega) z0
  have w3:=tg (x:=v') (y:=h) (by omega) h0
  rw[hp] at w1;rw[hq] at w2;rw[hE] at w3
  have c1:=fc (show (0:Int)<=(u':Int) by omega) (show (u':Int)<18446744073709551616 by omega)
  have c2:=fc (show (0:Int)<=(v':Int) by omega) (show (v':Int)<18446744073709551616 by omega)
  have l1:decide ((u:Int)<0)=false:=by simp
  have l2:decide ((v:Int)<0)=false:=by simp
  clear lt lm hz hp hq hh hE lz lz2 lp lq lE lh
  generalize (u*q+v*p) / h=n' at *
  generalize (u*q+v*p) % z=r' at *
  generalize p*E=d' at *
  generalize u*q+v*p=s' at *
  generalize u*q=x' at *
  generalize v*p=y' at *
  simp only[sV,tw,sx,sy,sf,SO.run,↓reduceIte,Nat.reduceEqDiff,Nat.reduceAdd,Nat.reduceLeDiff,e1 u lu,e1 v lv,e2,t1,t2,c1,c2,w1,w2]
  refine ⟨?_,?_⟩
  ·simp only[List.reverse_cons,List.reverse_nil,List.nil_append,List.cons_append]
   refine aR [false,false,false,false,false,false,false,false,false,false,false,false,false,false,false,false,false,false,true,true,true,true] [(0,18),(1,18),(2,18),(3,18),(4,18),(5,18),(6,18),(7,18),(8,18),(9,18),(10,18),(11,18),(12,18),(13,18),(14,18),(15,18),(16,18),(17,18),(0,19),(1,19),(2,19),(3,19),(4,19),(5,19),(6,19),(7,19),(8,19),(9,19),(10,19),(11,19),(12,19),(13,19),(14,19),(15,19),(16,19),(17,19),(18,19)]
    (by simp[All2,af,aw,jU,jd]) (by decide) ?_
   rintro p hp x y hx hy
   simp only[List.mem_cons,List.not_mem_nil,or_false] at hp
   rcases hp with rfl | rfl | rfl | rfl | rfl | rfl | rfl | rfl | rfl | rfl | rfl | rfl | rfl | rfl | rfl | rfl | rfl | rfl | rfl | rfl | rfl | rfl | rfl | rfl | rfl | rfl | rfl | rfl | rfl | rfl | rfl | rfl | rfl | rfl | rfl | rfl | rfl <;>
    (simp at hx hy;subst hx;subst hy;refine eC rfl ?_ ?_ rfl ?_ ?_ ?_<;>simp[af,aw,ah,jU,jd,uk,wG,Jl,sx,KD])
  ·have ef:vg false .bool (.bool false) (.bool false)=.val (.bool true):=rfl
   simp only[rR,sx,sy,sf,SO.run,↓reduceIte,Nat.reduceEqDiff,Nat.reduceAdd,Nat.reduceLeDiff,l1,l2,ef,pl,MQ,rm,e3,ov,c1,c2,w1,w3,t3,fi]
   refine ⟨?_,NoP,gf.2 rfl⟩
   simp only[List.reverse_cons,List.reverse_nil,List.nil_append,List.cons_append]
   exact aR [false,false,false,false,false,false,false,false,false,false,false,false,false,false,false,false,true] [] (by simp[All2,af,aw,vX,jd,rH]) (by decide) (by simp)
 obtain ⟨r,h1,h2⟩:=key
 rw[h1,gf.1 h2]
theorem J0 (d:Nat)(a b:AV)(g:G):cY C0 (I C0) d (.clo 117 [] []) [a,b] g=ac C0 d N.aB [a,b] g:=by kernel_rfl
theorem GX {d:Nat}{g:G}{x y r:QI}{z:Nat}{K:AV->G->Prop}{D:ADf->Prop}(hp:∀g,ac C0 d N.aB [.agg [.int .i64 x.1,.int .i64 x.2],.agg [.int .i64 y.1,.int .i64 y.2]] g=.val (.agg [.int .i64 r.1,.int .i64 r.2]))
  (kk:∀g',Fr g g'->K (.agg [.int .i64 r.1,.int .i64 r.2]) g') :
  (cY C0 (I C0) d (.clo N.bh [] [.tptr z 1 [[.clo 117 [] []]] 0 0,.tptr z 2 [[.int .i64 x.1,.int .i64 x.2]] 0 0,.tptr z 2 [[.int .i64 y.1,.int .i64 y.2]] 0 0]) [] g).sat K g D:=by
 rw[Db]
 refine lO rA (by simp[fU]) ?_
 have hp':∀g,cY C0 (I C0) d (.clo 117 [] []) [.agg [.int .i64 x.1,.int .i64 x.2],.agg [.int .i64 y.1,.int .i64 y.2]] g=.val (.agg [.int .i64 r.1,.int .i64 r.2]):=fun g=>by rw[J0,hp]
 simp only[fU,i8,sx,sy,SO.run,↓reduceIte,Nat.reduceEqDiff,Nat.reduceAdd,Nat.reduceLeDiff,dT,hp']
 exact kk _ ⟨by simp,fun i hi=>by simp[H.get_put,show ¬i=g.nx by omega]⟩
theorem HZ {d:Nat}{g:G}{x y r:QI}(hd:0<d)(cx:∀d g,0<d->ac C0 d N.aF [.agg [.int .i64 x.1,.int .i64 x.2]] g=.val (.int .i64 0))(cy:∀d g,0<d->ac C0 d N.aF [.agg [.int .i64 y.1,.int .i64 y.2]] g=.val (.int .i64 0))
  (hp:∀d g,0<d->ac C0 d N.aB [.agg [.int .i64 x.1,.int .i64 x.2],.agg [.int .i64 y.1,.int .i64 y.2]] g=.val (.agg [.int .i64 r.1,.int .i64 r.2])) :
  ac C0 d N.aK [.agg [.int .i64 x.1,.int .i64 x.2],.agg [.int .i64 y.1,.int .i64 y.2],.clo 117 [] []] g=.val (.tup [.agg [.int .i64 r.1,.int .i64 r.2],.int .i64 0]):=by
 have key:∃z,ac C0 d N.aK [.agg [.int .i64 x.1,.int .i64 x.2],.agg [.int .i64 y.1,.int .i64 y.2],.clo 117 [] []] g=.val z/\o4 (Agg r) (One (0:Int)) NoP 0 .nil z:=by
  rw[rg]
  refine aP tp (xs:=[.agg [.int .i64 x.1,.int .i64 x.2],.agg [.int .i64 y.1,.int .i64 y.2],.clo 117 [] []]) rfl (by simp[iA]) (bQ (m:=2) (bu _) (aQ _) (by decide) (by decide)) (by decide) hd ?_
  have hbx:∀g,Gi (.clo 117 [] []) g=.upd (.hptr g.nx 0 0 0) (g.new (.cells 1 [[.clo 117 [] []]] 0 false false)):=fun g=>rfl
  have c1:=fun g=>cx (d+1) g (Nat.succ_pos d)
  have c2:=fun g=>cy (d+1) g (Nat.succ_pos d)
  simp only[iA,kW,sx,sy,SO.run,↓reduceIte,Nat.reduceEqDiff,Nat.reduceAdd,Nat.reduceLeDiff,hbx,c1,c2,decide_true,Bool.not_true]
  rw[Ba (x:=r) (a':=[.tptr (Nat.max (d+1) 0) 1 [[.clo 117 [] []]] 0 0,.tptr (Nat.max (d+1) 0) 2 [[.int .i64 x.1,.int .i64 x.2]] 0 0,.tptr (Nat.max (d+1) 0) 2 [[.int .i64 y.1,.int .i64 y.2]] 0 0]) (Nat.succ_pos d) ?_
   (fun g K D kk=>GX (fun g=>hp _ g (Nat.succ_pos _)) kk)]
  ·simp only[sx,sy,SO.run,↓reduceIte,Nat.reduceEqDiff,Nat.reduceAdd,Nat.reduceLeDiff]
   exact ⟨NoP,_,_,rfl,gf.2 rfl,aC.2 rfl⟩
  ·rw[GA (J1 (f:=117) (d+1) 20 (by simp[sx,H.get_put])) (AM (a:=x.1) (b:=x.2) (d+1) 20 (by simp[sx,H.get_put])) (AM (a:=y.1) (b:=y.2) (d+1) 20 (by simp[sx,H.get_put]))]
 obtain ⟨z,h1,a,b,rfl,h2,h3⟩:=key
 have h3:=aC.1 h3
 injection h3 with h3
 rw[h1,gf.1 h2,h3]
theorem Lf {d:Nat}{g:G}{c s w:Nat}(hd:0<d)(hw0:0<w)(hw:w<=3000000000)(hs:c+s<=w) :
  ac C0 d N.ba [.agg [.int .i64 (S.an c w).1,.int .i64 (S.an c w).2],.agg [.int .i64 (S.an s w).1,.int .i64 (S.an s w).2]] g=.val (.tup [.agg [.int .i64 (S.an (c+s) w).1,.int .i64 (S.an (c+s) w).2],.int .i64 0]):=by
 obtain ⟨u,u',l1,gu,u0,e1,uc,uw⟩:=yP c w hw0
 obtain ⟨v,v',l2,gv,v0,e2,vs,vw⟩:=yP s w hw0
 obtain ⟨a1,a2,a3,a4,a5⟩:=K7 (u:=u) (u':=u') (v:=v) (v':=v') gu gv u0 v0 rfl rfl
 obtain ⟨z,hz⟩:∃z,Nat.gcd u' v'=z:=⟨_,rfl⟩
 rw[hz] at a1 a2 a3 a4 a5
 obtain ⟨p,hp⟩:∃p,u' / z=p:=⟨_,rfl⟩
 obtain ⟨q,hq⟩:∃q,v' / z=q:=⟨_,rfl⟩
 rw[hp,hq] at a1 a4 a5
 rw[hp,hq] at a2
 obtain ⟨h,hh⟩:∃h,Nat.gcd ((u*q+v*p) % z) z=h:=⟨_,rfl⟩
 rw[hh] at a1 a2 a4 a5
 obtain ⟨E,hE⟩:∃E,v' / h=E:=⟨_,rfl⟩
 rw[hE] at a1 a2 a5
 have hl:=Kw hw0 u0 v0 e1 e2 a1 a2 a5
 have lp:p<=u':=by rw[<-hp];exact Nat.div_le_self _ _
 have lq:q<=v':=by rw[<-hq];exact Nat.div_le_self _ _
 have m1:u*q<=3000000000*3000000000:=Nat.mul_le_mul (by omega) (by omega)
 have m2:v*p<=3000000000*3000000000:=Nat.mul_le_mul (by omega) (by omega)
 have b1:(S.an (c+s) w).1<=((c+s:Nat):Int):=by unfold S.an;exact Int.ofNat_le.2 (Nat.div_le_self _ _)
 have b2:(S.an (c+s) w).2<=(w:Int):=by unfold S.an;exact Int.ofNat_le.2 (Nat.div_le_self _ _)
 rw[hl] at b1 b2
 have b1:=Int.ofNat_le.1 b1
 have b2:=Int.ofNat_le.1 b2
 rw[l1,l2,hl]
 have key:∃r,ac C0 d N.ba [.agg [.int .i64 (u:Int),.int .i64 (u':Int)],.agg [.int .i64 (v:Int),.int .i64 (v':Int)]] g=.val r/\o4 (Agg ((((u*q+v*p) / h:Nat):Int),((p*E:Nat):Int))) (One (0:Int)) NoP 0 .nil r:=by
  rw[xU]
  refine aP BA (xs:=[.agg [.int .i64 (u:Int),.int .i64 (u':Int)],.agg [.int .i64 (v:Int),.int .i64 (v':Int)]]) rfl (by simp[sS]) (bQ (m:=2) (bu _) (aQ _) (by decide) (by decide)) (by decide) hd ?_
  have ea:∀g,ac C0 (d+1) N.aK [.agg [.int .i64 (u:Int),.int .i64 (u':Int)],.agg [.int .i64 (v:Int),.int .i64 (v':Int)],.clo 117 [] []] g=.val (.tup [.agg [.int .i64 (((u*q+v*p) / h:Nat):Int),.int .i64 ((p*E:Nat):Int)],.int .i64 0]):=fun g =>
   HZ (x:=((u:Int),(u':Int))) (y:=((v:Int),(v':Int))) (r:=((((u*q+v*p) / h:Nat):Int),((p*E:Nat):Int))) (Nat.succ_pos d) (fun d g hd=>zB hd (by omega) u0 (by omega) gu) (fun d g hd=>zB hd (by omega) v0 (by omega) gv) fun d g hd =>
    Mh hd hz hp hq hh hE a3 a4 (by omega) (by omega) (by omega) (by omega) (by omega) (by omega) (by omega)
  simp only[sS,tA,sx,sy,SO.run,↓reduceIte,Nat.reduceEqDiff,Nat.reduceAdd,Nat.reduceLeDiff,ea]
  exact ⟨NoP,_,_,rfl,gf.2 rfl,aC.2 rfl⟩
 obtain ⟨r,h1,a,b,rfl,h2,h3⟩:=key
 have h3:=aC.1 h3
 injection h3 with h3
 rw[h1,gf.1 h2,h3]
end
end Hx
end
end
section
namespace Hx
open Go
noncomputable section
def S.wt (n:Net)(w:Nat):Int:=S.aG n (S.am (S.aa n) (w:Int))
structure BeJ (g0:G) (w m b:Int) (h:H):Prop where
 fr:∀i,i<g0.nx->i≠1->i≠5->i≠6->h.get i=g0.h.get i
 h1:h.get 1=.cells 1 [[.int .i64 w]] 0 false false
 h5:h.get 5=.cells 1 [[.int .i64 m]] 0 false false
 h6:h.get 6=.cells 1 [[.int .i64 b]] 0 false false
theorem y5:∀{l:List Int} (k:Int),l.Pairwise (·<·)->(l.filter fun x=>decide (x<k+1))=(l.filter fun x=>decide (x<k))++if k∈l then [k] else []
 | [],k,_=>by simp
 | a::t,k,h=>by
  obtain ⟨h1,h2⟩:=List.pairwise_cons.1 h
  have ih:=y5 k h2
  rcases Int.lt_trichotomy a k with hc | hc | hc
  ·rw[List.filter_cons_of_pos (by simpa using (by omega:a<k+1)),List.filter_cons_of_pos (by simpa using hc),ih,List.cons_append]
   have:(k∈a::t)↔k∈t:=by simp;omega
   simp only[this]
  ·subst hc
   have e1:(t.filter fun x=>decide (x<a+1))=[]:=List.filter_eq_nil_iff.2 fun x hx=>by have:=h1 x hx;simp;omega
   have e2:(t.filter fun x=>decide (x<a))=[]:=List.filter_eq_nil_iff.2 fun x hx=>by have:=h1 x hx;simp;omega
   rw[List.filter_cons_of_pos (by simp;omega),List.filter_cons_of_neg (by simp),e1,e2]
   simp
  ·have e1:(t.filter fun x=>decide (x<k+1))=[]:=List.filter_eq_nil_iff.2 fun x hx=>by have:=h1 x hx;simp;omega
   have e2:(t.filter fun x=>decide (x<k))=[]:=List.filter_eq_nil_iff.2 fun x hx=>by have:=h1 x hx;simp;omega
   rw[List.filter_cons_of_neg (by simp;omega),List.filter_cons_of_neg (by simp;omega),e1,e2,if_neg]
   ·rfl
   ·intro hm
    rcases List.mem_cons.1 hm with h | h
    ·omega
    ·have:=h1 k h;omega
theorem Gn {l:List Int}{k:Int}(h:S.aH l k=true):l.Pairwise (·<·):=by
 rw[List.pairwise_iff_getElem]
 intro i j hi hj hij
 exact yN h (List.getElem?_eq_getElem hi) (List.getElem?_eq_getElem hj) hij
theorem DE {l:List Int}{k:Nat}(h:S.aH l k=true)(hk:k<=64):S.aT (S.ap l) k=l:=by
 have hin:=bA h
 have hb:∀v,(S.ap l).testBit v=true↔(v:Int)∈l:=fun v=>by rw[qL fun y hy=>by have:=hin y hy;omega]
 have key:∀j:Nat,j<=k->S.aT (S.ap l) j=l.filter fun x=>decide (x<(j:Int)):=by
  intro j
  induction j with
  | zero=>intro _;rw[List.filter_eq_nil_iff.2 fun x hx=>by have:=hin x hx;simp;omega];rfl
  | succ j ih =>
   intro hj
   rw[sw,ih (by omega),show ((j+1:Nat):Int)=(j:Int)+1 by omega,y5 _ (Gn h)]
   congr 1
   by_cases hm:(j:Int)∈l
   ·rw[if_pos hm,if_pos ((hb j).2 hm)]
   ·rw[if_neg hm,if_neg fun h'=>hm ((hb j).1 h')]
 rw[key k (Nat.le_refl _),List.filter_eq_self]
 intro x hx
 have:=hin x hx
 simp;omega
theorem Bm {l:List Int}{k:Int}(h:S.aH l k=true){i:Nat}{p:Int}(hp:l[i]?=some p):dq l i<p/\p<k:=by
 have h1:=bA h p (List.mem_of_getElem? hp)
 refine ⟨?_,h1.2⟩
 unfold dq
 split
 ·omega
 ·rename_i e
  have hil:=(List.getElem?_eq_some_iff.1 hp).1
  have hq:l[i - 1]?=some l[i - 1]:=List.getElem?_eq_getElem (by omega)
  rw[hq,Option.getD_some]
  exact nX h hq (by rw[show i - 1+1=i by omega];exact hp)
def LT0 (w z:AV):List (Nat×AV):=[(1,w),(2,z),(3,.hptr 0 0 0 0),(6,.hptr 1 0 0 0),(7,.int .i64 0),(8,.hptr 3 0 0 0),(11,.hptr 4 0 0 0)]
structure TbA (g0:G) (vars:List Int) (K:Int) (w z:AV) (j:Nat) (t:T) (g:G):Prop where
 st:St t (LT0 w z)
 h10:tat t 10=.int .i64 (dq vars j)
 h32:tat t 32=z
 pl:PlI vars K K.toNat j
 nx:g0.nx<=g.nx
 fr:∀i,i<g0.nx->i≠4->g.h.get i=g0.h.get i
 h4:g.h.get 4=.cells 1 [[.int .u64 (S.ap (vars.take j):Int)]] 0 false false
theorem Mr {d kz:Nat}{n:Net}{gr:Int}{vars:List Int}{b fl S_ w z:AV}{Q:QT}{t:T}{g g0:G}(hn:n.nodes.length<=8)(hN:SlR NoP 0 .nil n.nodes b)(hz:SlR NoP kz .nil vars z)(h4:5<=g0.nx)
  (k3:g0.h.get 3=.cells 4 [[.int .i64 gr,b,fl,S_]] 0 false false) (k1:g0.h.get 1=.cells 3 [[.nils,.nils,.nils]] 0 false false)
  (h0:TbA g0 vars n.nodes.length w z 0 t g) (h33:tat t 33=.int .i64 (vars.length:Int)) (h34:tat t 34=.int .i64 0)
  (bad:∀t g,S.aH vars n.nodes.length=false->tat t 6=.hptr 1 0 0 0->tat t 7=.int .i64 2->g.h.get 1=.cells 3 [[.nils,.nils,.nils]] 0 false false->Q .ret t [] g)
  (fin:∀t g,S.aH vars n.nodes.length=true->TbA g0 vars n.nodes.length w z vars.length t g->Q (.exit 0) t [] g):wpL (wp C0 d none it) Q t [] g:=by
 have rz:=fun h=>(hz.tree (h':=h) (Nat.le_refl _):SlR NoP kz h vars z).ints
 have hvl:=hz.1
 have lb:=hN.len
 have hbd:n0 [.nils,.nils,.nils] [] []=.val (.agg [.nils,.nils,.nils]):=rfl
 simp only[it]
 refine aL (m:=vars.length) (by omega) (fun j t df g=>df=[]/\TbA g0 vars n.nodes.length w z j t g) ⟨rfl,h0⟩ h34 h33 (by decide)
  (by
   rintro j t df g v s (rfl | rfl | rfl) ⟨a1,⟨a2,a3,a4,a5,a6,a7,a8⟩⟩<;>(obtain ⟨b1,b2,b3,b4,b5,b6,b7,-⟩:=a2;exact ⟨a1,by simp[St,LT0,sx,b1,b2,b3,b4,b5,b6,b7],by simp[sx,a3],by simp[sx,a4],a5,a6,a7,a8⟩)) ?_ ?_
 ·rintro j t df g hj ⟨rfl,⟨⟨h1,h2,h3,h6,h7,h8,h11,-⟩,h10,h32,hpl,hnx,hfr,hk4⟩⟩ h34 h33
  obtain ⟨p,hp,htk,-⟩:=au hj
  have u1:j<(vars.map ci).length:=by simpa using hj
  have u2:(vars.map ci)[j]?=some (ci p):=by rw[List.getElem?_map,hp];rfl
  have hry:om z=true:=nI (rz .nil) u1
  have g3:g.h.get 3=.cells 4 [[.int .i64 gr,b,fl,S_]] 0 false false:=by rw[hfr 3 (by omega) (by omega),k3]
  have g1:g.h.get 1=.cells 3 [[.nils,.nils,.nils]] 0 false false:=by rw[hfr 1 (by omega) (by omega),k1]
  refine bo (P:=fun t' df g'=>df=[]/\g'=g/\St t' ((13,.int .i64 p)::(10,.int .i64 (dq vars j))::(32,z)::(33,.int .i64 (vars.length:Int))::(34,.int .i64 (j:Int))::LT0 w z)) ?_ ?_
  ·simp only[sz,simprocAttr,h32,h34,rz,u1,u2,ci]
   simp[St,LT0,sx,h1,h2,h3,h6,h7,h8,h11,h10,h32,h33,h34]
  clear h1 h2 h3 h6 h7 h8 h11 h10 h32 h33 h34
  rintro t df g' ⟨rfl,rfl,h13,h10,h32,h33,h34,h1,h2,h3,h6,h7,h8,h11,-⟩
  by_cases hc:dq vars j<p/\p<n.nodes.length
  ·refine d_ (P:=fun t' df g''=>df=[]/\g''=g'/\St t' ((13,.int .i64 p)::(32,z)::(33,.int .i64 (vars.length:Int))::(34,.int .i64 (j:Int))::LT0 w z)) ?_ ?_
   ·have c1:decide (p<=dq vars j)=false:=by simp;omega
    have c2:decide ((n.nodes.length:Int)<=p)=false:=by simp;omega
    simp only[sz,simprocAttr,h13,h10,h8,g3,lb,c1,c2]
    simp[St,LT0,sx,h1,h2,h3,h6,h7,h8,h11,h13,h32,h33,h34]
   clear h1 h2 h3 h6 h7 h8 h11 h10 h32 h33 h34 h13
   rintro t df g'' ⟨rfl,rfl,h13,h32,h33,h34,h1,h2,h3,h6,h7,h8,h11,-⟩
   have pl':=AY hpl hp hc.1 hc.2 (by omega)
   obtain ⟨pn,hpn⟩:∃pn:Nat,p=(pn:Int):=Int.eq_ofNat_of_zero_le (pl'.rng j p (by omega) hp).1
   have hm:=qP (vars.take j)
   have hb1:=qy .i64 pn
   have hor:=C6 (S.ap (vars.take j)) (S.aE pn) hm (ug pn)
   have hms:S.ap (vars.take j) ||| S.aE pn=S.ap (vars.take (j+1)):=by rw[htk,zo,hpn];rfl
   rw[hms] at hor
   rw[<-hpn] at hb1
   refine bo (P:=fun t' df g3=>df=[]/\g3=g''/\St t' ((10,.int .i64 p)::(13,.int .i64 p)::(32,z)::(33,.int .i64 (vars.length:Int))::(34,.int .i64 (j:Int))::LT0 w z)) ?_ ?_
   ·simp only[sz,simprocAttr,h13]
    simp[St,LT0,sx,h1,h2,h3,h6,h7,h8,h11,h13,h32,h33,h34]
   clear h1 h2 h3 h6 h7 h8 h11 h32 h33 h34 h13
   rintro t df g3' ⟨rfl,rfl,h10,h13,h32,h33,h34,h1,h2,h3,h6,h7,h8,h11,-⟩
   simp only[sz,simprocAttr,sf,h11,hk4,h13,hb1,hor]
   refine ⟨?_,⟨⟨by simp[St,LT0,sx,h1,h2,h3,h6,h7,h8,h11],by simp[sx,h10,pj hp],by simp[sx,h32],pl',?_,fun i hi h=>?_,?_⟩,?_,?_⟩⟩
   ·simp only[List.reverse_cons,List.reverse_nil,List.nil_append,List.cons_append]
    exact aR [false,false,false,false,true] [] (by simp[All2,af,aw]) (by decide) (by simp)
   ·simp;omega
   ·simp[H.get_put,h];exact hfr i hi h
   ·simp[H.get_put]
   ·simp[h34]
   ·simp[h33]
  ·have hpf:S.aH vars n.nodes.length=false:=by
    rw[<-Bool.not_eq_true]
    exact fun h=>hc (Bm h hp)
   simp only[sz,simprocAttr,h13,h10]
   by_cases c1:p<=dq vars j
   ·simp only[sz,simprocAttr,c1,h6,g1]
    exact bad _ _ hpf (by simp[sx,h6]) (by simp[sx]) (by simp[H.get_put])
   ·have c2:(n.nodes.length:Int)<=p:=by omega
    simp only[sz,simprocAttr,c1,h13,h8,g3,lb,c2,h6,g1]
    exact bad _ _ hpf (by simp[sx,h6]) (by simp[sx]) (by simp[H.get_put])
 ·rintro t df g ⟨rfl,h⟩
  refine fin t g (xO (v:=n.nodes.length) ?_) h
  have:=h.pl
  simpa using this
def K3:Nat->Prop:=fun k=>k<=2
def LT1 (w z:AV)(p:Nat):List (Nat×AV):=[(1,w),(2,z),(6,.hptr 1 0 0 0),(8,.hptr 3 0 0 0),(11,.hptr 4 0 0 0),(14,.hptr p 0 0 0)]
structure TbH (l cl:List Int) (p:Nat) (V:Nat->AV) (E:Nat->En) (g:G):Prop where
 hp:Hp g 5 K3 V E
 v0:V 0=.hptr p 0 0 0
 e0:E 0=.bx [V 1,V 2,.nils]
 e1:E 1=.sl 1 (l.map ci)
 e2:E 2=.sl 1 (cl.map ci)
theorem TbH.box {l cl:List Int}{p:Nat}{V:Nat->AV}{E:Nat->En}{g:G}(h:TbH l cl p V E g):g.h.get p=.cells 3 [[V 1,V 2,.nils]] 0 false false/\5<=p/\p<g.nx:=by
 obtain ⟨id,h1,h2,h3,h4⟩:=h.hp.box (k:=0) (by simp[K3]) h.e0
 rw[h.v0] at h3;injection h3 with h3;subst h3
 exact ⟨h4,h1,h2⟩
structure TbB (g0:G) (cs vars:List Int) (w z:AV) (p j:Nat) (t:T) (g:G):Prop where
 st:St t (LT1 w z p)
 h15:tat t 15=.int .i64 (S.ae (S.ac cs (vars.take j)))
 h57:tat t 57=z
 hd:∃V E,TbH (vars.take j) (S.ac cs (vars.take j)) p V E g
 fr:∀i,i<5->g.h.get i=g0.h.get i
theorem In (c:Int):S.ae [c]=c:=by simp[S.ae]
theorem Mu {d kz:Nat}{n:Net}{vars:List Int}{b fl S_ w z:AV}{p:Nat}{Q:QT}{t:T}{g g0:G}(hr:NR n)(hN:SlR NoP 0 .nil n.nodes b)(hz:SlR NoP kz .nil vars z)(hpl:S.aH vars n.nodes.length=true)
  (k3:g0.h.get 3=.cells 4 [[.int .i64 n.grain,b,fl,S_]] 0 false false)
  (h0:TbB g0 (S.aa n) vars w z p 0 t g) (h58:tat t 58=.int .i64 (vars.length:Int)) (h59:tat t 59=.int .i64 0)
  (fin:∀t g,TbB g0 (S.aa n) vars w z p vars.length t g->Q (.exit 2) t [] g):wpL (wp C0 d none io) Q t [] g:=by
 have rz:=fun h=>(hz.tree (h':=h) (Nat.le_refl _):SlR NoP kz h vars z).ints
 have hvl:=iD hpl (by omega)
 have hl8:=hr.l2
 have hin:=bA hpl
 obtain ⟨rows,r1,r2,r3,r4⟩:=hN.all
 have r1:∀h',ak h' 3 b=some rows:=r1
 simp only[io]
 refine aL (m:=vars.length) (by omega) (fun j t df g=>df=[]/\TbB g0 (S.aa n) vars w z p j t g) ⟨rfl,h0⟩ h59 h58 (by decide)
  (by
   rintro j t df g v s (rfl | rfl | rfl) ⟨a1,⟨a2,a3,a4,a5,a6⟩⟩<;>(obtain ⟨b1,b2,b3,b4,b5,b6,-⟩:=a2;exact ⟨a1,by simp[St,LT1,sx,b1,b2,b3,b4,b5,b6],by simp[sx,a3],by simp[sx,a4],a5,a6⟩)) ?_ ?_
 ·rintro j t df g hj ⟨rfl,⟨⟨h1,h2,h6,h8,h11,h14,-⟩,h15,h57,⟨V,E,hT⟩,hfr⟩⟩ h59 h58
  obtain ⟨v,hv,htk,hm⟩:=au hj
  have hvi:=hin v hm
  obtain ⟨vn,hvn⟩:∃vn:Nat,v=(vn:Int):=Int.eq_ofNat_of_zero_le hvi.1
  obtain ⟨x,hx,-,-⟩:=au (l:=n.nodes) (j:=vn) (by omega)
  obtain ⟨row,q1,q2⟩:=r3 vn x hx
  obtain ⟨fa,fb,rfl,-⟩:=cT.1 q2
  have hlt:vn<rows.length:=by omega
  have hryb:=r4 (by omega)
  have u1:j<(vars.map ci).length:=by simpa using hj
  have u2:(vars.map ci)[j]?=some (ci v):=by rw[List.getElem?_map,hv];rfl
  have hry:om z=true:=nI (rz .nil) u1
  have hcx:S.ac (S.aa n) (vars.take (j+1))=S.ac (S.aa n) (vars.take j)++[x.card]:=by
   rw[htk,bY]
   congr 1
   simp[S.ac,hvn,S.aa,hx]
  have hcard:=hr.card x (List.mem_of_getElem? hx)
  have hcb:∀k,∀c∈S.ac (S.aa n) (vars.take k),1<=c/\c<=4:=fun k=>aZ hr.cs fun y hy=>by rw[aI];exact hin y (List.mem_of_mem_take hy)
  have hp1:=bz (hcb (j+1))
  have hp2:=cI (a:=(S.ac (S.aa n) (vars.take (j+1))).length) (b:=8) (by rw[dH,List.length_take];omega)
  have hp3:(4:Int) ^ 8=65536:=by decide
  have hprod:S.ae (S.ac (S.aa n) (vars.take j))*x.card=S.ae (S.ac (S.aa n) (vars.take (j+1))):=by rw[hcx,kK,In]
  have w1:IntKind.wrap .i64 (S.ae (S.ac (S.aa n) (vars.take j))*x.card)=S.ae (S.ac (S.aa n) (vars.take (j+1))):=by rw[hprod,aG (by omega) (by omega)]
  refine bo (P:=fun t' df g'=>df=[]/\g'=g/\St t' ((17,.int .i64 v)::(15,.int .i64 (S.ae (S.ac (S.aa n) (vars.take j))))::(57,z)::(58,.int .i64 (vars.length:Int))::(59,.int .i64 (j:Int))::LT1 w z p)) ?_ ?_
  ·simp only[sz,simprocAttr,h57,h59,rz,u1,u2,ci]
   simp[St,LT1,sx,h1,h2,h6,h8,h11,h14,h15,h57,h58,h59]
  clear h1 h2 h6 h8 h11 h14 h15 h57 h58 h59
  rintro t df g' ⟨rfl,rfl,ht⟩
  refine bo (P:=fun t' df g''=>df=[]/\St t' ((17,.int .i64 v)::(15,.int .i64 (S.ae (S.ac (S.aa n) (vars.take j))))::(57,z)::(58,.int .i64 (vars.length:Int))::(59,.int .i64 (j:Int))::LT1 w z p)/\(∃V E,TbH (vars.take (j+1)) (S.ac (S.aa n) (vars.take j)) p V E g'')/\∀i,i<5->g''.h.get i=g0.h.get i) ?_ ?_
  ·obtain ⟨h17,h15,h57,h58,h59,h1,h2,h6,h8,h11,h14,-⟩:=ht
   obtain ⟨kb,hp5,hpn⟩:=hT.box
   have hnx:=hT.hp.nx
   simp only[sz,simprocAttr,h14,h17,kb]
   refine (hT.hp.step (g':=_) (by simp) (fun i hi hi2=>?_)).app (k:=1) (by simp[K3]) hT.e1 (new:=[ci v]) (by simp[sx,sy,ci]) (by simp[aX];omega) fun v1 g1 hH1 n1 fb1 fo1 _ vc vt=>?_
   ·simp[H.get_put];omega
   simp only[sx,sy] at n1 fb1 fo1
   obtain ⟨id,b1,b2,b3,b4⟩:=hH1.box (k:=0) (by simp[K3]) (by rw[ae _ _ (by simp)];exact hT.e0)
   rw[ae _ _ (by simp),hT.v0] at b3;injection b3 with b3;subst b3
   have b4:g1.h.get p=.cells 3 [[V 1,V 2,.nils]] 0 false false:=b4
   simp only[sz,simprocAttr,h14,b4,vc,vt]
   have hHb:=hH1.putb (k:=0) (by simp[K3]) (row:=[V 1,V 2,.nils]) (row':=[v1,V 2,.nils]) (by rw[ae _ _ (by simp)];exact hT.e0) (by rw[ae _ _ (by simp)];exact hT.v0) rfl
   refine ⟨by simp[St,LT1,sx,h17,h15,h57,h58,h59,h1,h2,h6,h8,h11,h14],⟨_,_,hHb,by rw[ae _ _ (by simp)];exact hT.v0,by rw[ax,ax,ae _ _ (by simp)],?_,by rw[ae _ _ (by simp),ae _ _ (by simp)];exact hT.e2⟩,fun i hi=>?_⟩
   ·rw[ae _ _ (by simp),ax,htk];simp
   ·simp[show ¬i=p by omega]
    rw[fb1 i (by omega),if_neg (by omega),hfr i hi]
  clear ht hT hfr
  rintro t df g1 ⟨rfl,ht,⟨V,E,hT⟩,hfr⟩
  refine d_ (P:=fun t' df g''=>df=[]/\St t' ((17,.int .i64 v)::(15,.int .i64 (S.ae (S.ac (S.aa n) (vars.take j))))::(57,z)::(58,.int .i64 (vars.length:Int))::(59,.int .i64 (j:Int))::LT1 w z p)/\(∃V E,TbH (vars.take (j+1)) (S.ac (S.aa n) (vars.take (j+1))) p V E g'')/\∀i,i<5->g''.h.get i=g0.h.get i) ?_ ?_
  ·obtain ⟨h17,h15,h57,h58,h59,h1,h2,h6,h8,h11,h14,-⟩:=ht
   obtain ⟨kb,hp5,hpn⟩:=hT.box
   have hnx:=hT.hp.nx
   have kq:g1.h.get 3=.cells 4 [[.int .i64 n.grain,b,fl,S_]] 0 false false:=by rw[hfr 3 (by omega),k3]
   rw[hvn] at h17
   simp only[sz,simprocAttr,sf,h8,h14,h17,kb,kq,r1,hlt,q1,hryb]
   refine (hT.hp.step (g':=_) (by simp;omega) (fun i hi hi2=>?_)).app2 (k:=2) (by simp[K3]) hT.e2 (new:=[ci x.card]) (by simp[sx,sy,ci]) (by simp[aX,dH];omega) fun v1 g2 hH1 n1 fb1 fo1 lg1 vc vt=>?_
   ·simp[H.get_put];omega
   simp only[sx,sy] at n1 fb1 fo1 lg1
   obtain ⟨id,b1,b2,b3,b4⟩:=hH1.box (k:=0) (by simp[K3]) (by rw[ae _ _ (by simp)];exact hT.e0)
   rw[ae _ _ (by simp),hT.v0] at b3;injection b3 with b3;subst b3
   have b4:g2.h.get p=.cells 3 [[V 1,V 2,.nils]] 0 false false:=b4
   simp only[sz,simprocAttr,sf,h14,b4,vc,vt]
   have hHb:=(hH1.same (g':=aJ (kX (aJ (kX g2 []) []) []) []) (by simp) (by simp;omega)).putb (k:=0) (by simp[K3]) (row:=[V 1,V 2,.nils]) (row':=[V 1,v1,.nils]) (by rw[ae _ _ (by simp)];exact hT.e0) (by rw[ae _ _ (by simp)];exact hT.v0) rfl
   refine ⟨?_,by rw[<-hvn] at h17;simp[St,LT1,sx,h17,h15,h57,h58,h59,h1,h2,h6,h8,h11,h14],⟨_,_,hHb.same (by simp) (by simp),by rw[ae _ _ (by simp)];exact hT.v0,by rw[ax,ax,ae _ _ (by simp)],by rw[ae _ _ (by simp),ae _ _ (by simp)];exact hT.e1,?_⟩,fun i hi=>?_⟩
   ·simp only[List.reverse_cons,List.reverse_nil,List.nil_append,List.cons_append]
    refine aR [false,false,false,false,false,false,false,false,false,true,true,false,true] [(0,9),(1,9)] (by simp[All2,af,aw]) (by decide) ?_
    rintro q hp' x y hx hy
    simp only[List.mem_cons,List.not_mem_nil,or_false] at hp'
    rcases hp' with rfl | rfl<;>(simp at hx hy;subst hx;subst hy;refine eC rfl rfl rfl rfl ?_ ?_ ?_<;>simp[af,aw,ah]<;>omega)
   ·rw[ae _ _ (by simp),ax,hcx];simp
   ·simp[show ¬i=p by omega]
    rw[fb1 i (by omega),if_neg (by omega),hfr i hi]
  clear ht hT hfr
  rintro t df g2 ⟨rfl,⟨h17,h15,h57,h58,h59,h1,h2,h6,h8,h11,h14,-⟩,hT,hfr⟩
  have kq:g2.h.get 3=.cells 4 [[.int .i64 n.grain,b,fl,S_]] 0 false false:=by rw[hfr 3 (by omega),k3]
  rw[hvn] at h17
  simp only[sz,simprocAttr,h8,h15,h17,kq,r1,hlt,q1,hryb,w1]
  exact ⟨⟨by simp[St,LT1,sx,h1,h2,h6,h8,h11,h14],by simp[sx],by simp[sx,h57],hT,hfr⟩,h59,h58⟩
 ·rintro t df g ⟨rfl,h⟩
  exact fin t g h
def PC (h:H):Nat->Prop:=fun i=>5<=i/\∃sz rows ep lo fz,h.get i=.cells sz rows ep lo fz
theorem Own.pc {g:G}{v:AV}{l:List Int}(h:Own g 5 v 1 (l.map ci))(hl:l.length<9223372036854775808):SlR (PC g.h) 0 g.h l v:=by
 refine Own.sl (α:=Int) h hl (All2.of_map (fun a=>aC.2 rfl) _) fun i hi=>⟨(h.lt hi).1,?_⟩
 rcases h with ⟨rfl,-⟩ | ⟨id,ep,lo,-,-,rfl,h3⟩
 ·cases hi
 ·injection hi with hi;subst hi;exact ⟨_,_,_,_,_,h3⟩
def K4:Nat->Prop:=fun k=>k<=3
structure TbW (g0:G) (l cl W:List Int) (p r m:Nat) (V:Nat->AV) (E:Nat->En) (g:G):Prop where
 hp:Hp g 5 K4 V E
 v0:V 0=.hptr p 0 0 0
 e0:E 0=.bx [V 1,V 2,V 3]
 e1:E 1=.sl 1 (l.map ci)
 e2:E 2=.sl 1 (cl.map ci)
 e3:E 3=.sl 1 (W.map ci)
 nw:∀i,eid (V 3)=some i->g0.nx<=i
 fr:∀i,i<g0.nx->i≠p->g.h.get i=g0.h.get i
theorem TbW.box {g0:G}{l cl W:List Int}{p r m:Nat}{V:Nat->AV}{E:Nat->En}{g:G}(h:TbW g0 l cl W p r m V E g):g.h.get p=.cells 3 [[V 1,V 2,V 3]] 0 false false/\5<=p/\p<g.nx:=by
 obtain ⟨id,h1,h2,h3,h4⟩:=h.hp.box (k:=0) (by simp[K4]) h.e0
 rw[h.v0] at h3;injection h3 with h3;subst h3
 exact ⟨h4,h1,h2⟩
theorem Me {d:Nat}{l cl:List Int}{w z:AV}{p r m sz:Nat}{Q:QT}{t:T}{g0:G}{dl:List ADf}{V:Nat->AV}{E:Nat->En}{L:List (Int×Int)}{W:List Int}(hl:l.length<=1000)(hcl:cl.length<=1000)(hsz:sz<=65536)
  (ht:St t ((18,.hptr r 0 0 0)::(15,.int .i64 (sz:Int))::LT1 w z p)) (hT:TbH l cl p V E g0) (hr:g0.h.get r=.cells 1 [[.hmap m]] 0 false false) (hm:g0.h.get m=.map (mcl ik L)) (hrp:r≠p/\r<g0.nx) (hmp:m≠p/\m<g0.nx)
  (hW:W.length=sz) (hWg:∀i,i<sz->W[i]?.getD 0=mgt L (i:Int)) (h1:g0.h.get 1=.cells 3 [[.nils,.nils,.nils]] 0 false false)
  (fin:∀t g a1 a2 a3,tat t 6=.hptr 1 0 0 0->tat t 7=.int .i64 0->g.h.get 1=.cells 3 [[a1,a2,a3]] 0 false false->SlR (PC g.h) 0 g.h l a1->SlR (PC g.h) 0 g.h cl a2->SlR (PC g.h) 0 g.h W a3->(∀i,i<g0.nx->i≠1->i≠p->g.h.get i=g0.h.get i)->Q .ret t dl g) :
  wp C0 d none iB Q t dl g0:=by
 unfold iB
 obtain ⟨kb,hp5,hpn⟩:=hT.box
 have hnx:=hT.hp.nx
 refine bo (P:=fun t' df g'=>dl=df/\St t' ((18,.hptr r 0 0 0)::LT1 w z p)/\∃V E,TbW g0 l cl (List.replicate sz 0) p r m V E g') ?_ ?_
 ·obtain ⟨h18,h15,h1',h2,h6,h8,h11,h14,-⟩:=ht
  simp only[sx,SO.run,↓reduceIte,h15]
  refine nL (b:=5) (n:=sz) (by unfold aX;omega) (by unfold aX;omega) hnx fun U g1 hU n1 f1 vU=>?_
  have hH:=hT.hp.add (g':=g1) (k:=3) (L':=K4) (v':=U) (e':=.sl 1 ((List.replicate sz (0:Int)).map ci)) (by simp[K3]) (by rw[List.map_replicate];exact hU) (by omega) (fun i _ hi=>f1 i (by omega)) (fun i hi=>by rw[cS hU] at hi;have:=dI vU hi;omega) (fun k hk=>by
   have hk:k<=3:=hk
   by_cases e:k=3
   ·exact .inr e
   ·exact .inl (by show k<=2;omega))
  have kb1:g1.h.get p=.cells 3 [[V 1,V 2,.nils]] 0 false false:=by rw[f1 p (by omega),kb]
  simp only[sx,sy,SO.run,↓reduceIte,Nat.reduceEqDiff,Nat.reduceAdd,Nat.reduceLeDiff,h14,kb1,hU.cell.1,hU.cell.2]
  have hHb:=hH.putb (k:=0) (by simp[K4]) (row:=[V 1,V 2,.nils]) (row':=[V 1,V 2,U]) (by rw[ae _ _ (by simp)];exact hT.e0) (by rw[ae _ _ (by simp)];exact hT.v0) rfl
  refine ⟨by simp[St,LT1,sx,h18,h1',h2,h6,h8,h11,h14],_,_,hHb,by rw[ae _ _ (by simp)];exact hT.v0,by rw[ax,ax,ae _ _ (by simp),ae _ _ (by simp)],by rw[ae _ _ (by simp),ae _ _ (by simp)];exact hT.e1,by rw[ae _ _ (by simp),ae _ _ (by simp)];exact hT.e2,by rw[ae _ _ (by simp),ax],fun i hi=>?_,fun i hi hip=>?_⟩
  ·rw[ax,cS hU] at hi
   have:=dI vU hi;omega
  ·simp[H.get_put,hip];exact f1 i hi
 clear ht
 rintro t df g1 ⟨rfl,⟨h18,h1',h2,h6,h8,h11,h14,-⟩,V,E,hT⟩
 obtain ⟨FR,hFR⟩:∃FR,FR=iz:=⟨_,rfl⟩
 rw[<-hFR]
 refine d_ (P:=fun t' df g'=>dl=df/\St t' ((18,.hptr r 0 0 0)::LT1 w z p)/\∃V E,TbW g0 l cl W p r m V E g') ?_ ?_
 ·obtain ⟨kb1,-,-⟩:=hT.box
  have o3:=hT.hp.own (k:=3) (by simp[K4]) hT.e3
  have l3:=eV o3.rows
  rw[List.length_map,List.length_replicate] at l3
  simp only[sx,sy,SO.run,↓reduceIte,h14,kb1,l3]
  simp only[ni]
  refine aL (m:=sz) (by omega) (fun j t df g=>dl=df/\St t ((18,.hptr r 0 0 0)::LT1 w z p)/\∃V E,TbW g0 l cl (W.take j++List.replicate (sz - j) 0) p r m V E g) ⟨rfl,by simp[St,LT1,sx,h18,h1',h2,h6,h8,h11,h14],V,E,by simpa using hT⟩ (by simp[sx]) (by simp[sx]) (by decide)
   (by rintro j t df g v s (rfl | rfl | rfl) ⟨a1,⟨b0,b1,b2,b3,b4,b5,b6,-⟩,a3⟩<;>exact ⟨a1,by simp[St,LT1,sx,b0,b1,b2,b3,b4,b5,b6],a3⟩) ?_ ?_
  ·clear h18 h1' h2 h6 h8 h11 h14 hT kb1 o3 l3
   rintro j t df g hj ⟨rfl,⟨h18,h1',h2,h6,h8,h11,h14,-⟩,V,E,hT⟩ h112 h111
   obtain ⟨kb1,-,-⟩:=hT.box
   have o3:=hT.hp.own (k:=3) (by simp[K4]) hT.e3
   have kr:g.h.get r=.cells 1 [[.hmap m]] 0 false false:=by rw[hT.fr r hrp.2 hrp.1,hr]
   have km:g.h.get m=.map (mcl ik L):=by rw[hT.fr m hmp.2 hmp.1,hm]
   have hlen:(W.take j++List.replicate (sz - j) (0:Int)).length=sz:=by simp;omega
   have u1:j<((W.take j++List.replicate (sz - j) (0:Int)).map ci).length:=by rw[List.length_map,hlen];exact hj
   obtain ⟨y,hy⟩:∃y,(W.take j++List.replicate (sz - j) (0:Int))[j]?=some y:=⟨_,List.getElem?_eq_getElem (by omega)⟩
   have u2:((W.take j++List.replicate (sz - j) (0:Int)).map ci)[j]?=some (ci y):=by rw[List.getElem?_map,hy];rfl
   have hset:(W.take j++List.replicate (sz - j) (0:Int)).set j (mgt L (j:Int))=W.take (j+1)++List.replicate (sz - (j+1)) 0:=by
    have hWj:W[j]?=some (mgt L (j:Int)):=by
     have:=hWg j hj
     rw[List.getElem?_eq_getElem (by omega),Option.getD_some] at this
     rw[List.getElem?_eq_getElem (by omega),this]
    rw[List.set_append_right _ _ (by simp;omega)]
    have e1:j - (W.take j).length=0:=by simp;omega
    have e2:List.replicate (sz - j) (0:Int)=0::List.replicate (sz - (j+1)) 0:=by rw[<-List.replicate_succ];congr 1;omega
    rw[e1,e2,List.set_cons_zero,List.take_add_one,hWj]
    simp
   refine bo (P:=fun t' df g'=>dl=df/\g'=g/\St t' ((20,.int .i64 (j:Int))::(111,.int .i64 (sz:Int))::(112,.int .i64 (j:Int))::(18,.hptr r 0 0 0)::LT1 w z p)) ?_ ?_
   ·simp only[sx,sy,SO.run,↓reduceIte,h112]
    simp[St,LT1,sx,h18,h1',h2,h6,h8,h11,h14,h111,h112]
   clear h18 h1' h2 h6 h8 h11 h14 h111 h112
   rintro t df g' ⟨rfl,rfl,h20,h111,h112,h18,h1',h2,h6,h8,h11,h14,-⟩
   have lk:∀(t:T) (g:G),tat t 118=.hmap m->tat t 119=.int .i64 (j:Int)->g.h.get m=.map (mcl ik L)->(bp C0 (.lookup tII (.tmp 118) (.tmp 119) false)).run (I C0) d none t g=.val (.int .i64 (mgt L (j:Int))):=fun t g a b c=>Fh a b c
   simp only[sx,sy,SO.run,↓reduceIte,Nat.reduceEqDiff,h14,h20,h18,kb1,kr,km,lk,o3.rows,u1,Option.isSome_some,Option.getD_some]
   refine hT.hp.put (k:=3) (i:=j) (off:=0) (n:=1) (row:=ci y) (row':=ci (mgt L (j:Int))) (by simp[K4]) hT.e3 u2 rfl rfl rfl fun g3 hH n3 f3 fo=>?_
   simp only[sx,sy,↓reduceIte,Nat.reduceEqDiff]
   rw[<-List.map_set,hset] at hH
   have hp5':=hT.nw
   refine ⟨⟨by simp[St,LT1,sx,h18,h1',h2,h6,h8,h11,h14],V,_,hH,hT.v0,by rw[ae _ _ (by simp)];exact hT.e0,by rw[ae _ _ (by simp)];exact hT.e1,by rw[ae _ _ (by simp)];exact hT.e2,ax _ _ _,hT.nw,fun i hi hip=>?_⟩,h112,h111⟩
   rw[fo i fun e=>by have:=hT.nw i e;omega]
   exact hT.fr i hi hip
  ·rintro t df g ⟨rfl,ht,V,E,hT⟩
   rw[List.take_of_length_le (by omega),Nat.sub_self,List.replicate_zero,List.append_nil] at hT
   simp only[iN,if_true]
   exact ⟨trivial,trivial,ht,V,E,hT⟩
 rintro t df g2 ⟨rfl,⟨h18,h1',h2,h6,h8,h11,h14,-⟩,V,E,hT⟩
 rw[hFR]
 obtain ⟨kb2,-,-⟩:=hT.box
 have g1e:g2.h.get 1=.cells 3 [[.nils,.nils,.nils]] 0 false false:=by rw[hT.fr 1 (by omega) (by omega),h1]
 simp only[iz,sx,sy,SO.run,↓reduceIte,Nat.reduceEqDiff,Nat.reduceAdd,Nat.reduceLeDiff,h14,h6,kb2,g1e]
 have far:∀{l:List Int} {k:Nat} (g':G),(∀i,i≠1->g'.h.get i=g2.h.get i)->k<=3->E k=.sl 1 (l.map ci)->l.length<=100000->SlR (PC g'.h) 0 g'.h l (V k):=fun {l k} g' hg hk he hl =>
  ((hT.hp.own (k:=k) hk he).pc (by omega)).wd fun i hi=>by
    obtain ⟨h5,h6⟩:=hi
    have e:=hg i (by omega)
    exact ⟨⟨h5,by rw[e];exact h6⟩,e⟩
 have hf:∀i,i≠1->(g2.put 1 (.cells 3 [[V 1,V 2,V 3]] 0 false false)).h.get i=g2.h.get i:=fun i hi=>by simp[H.get_put,hi]
 refine fin _ _ (V 1) (V 2) (V 3) (by simp[sx,h6]) (by simp[sx]) (by simp[H.get_put]) (far _ hf (by omega) hT.e1 (by omega)) (far _ hf (by omega) hT.e2 (by omega)) (far _ hf (by omega) hT.e3 (by omega)) fun i hi h1 h2=>?_
 simp[H.get_put,h1]
 exact hT.fr i hi h2
def S.pk (n:Net)(e vars:List Int)(i:Int)(w:Nat):Bool:=S.pe n e w&&decide (S.ah (S.ac (S.aa n) vars) (S.ac (S.am (S.aa n) (w:Int)) vars)=i)
def S.bc (n:Net)(e vars:List Int)(j:Nat):List Int:=(List.range (S.ae (S.ac (S.aa n) vars)).toNat).map fun i:Nat=>S.af n (S.pk n e vars (i:Int)) j
def S.bg (n:Net)(e vars:List Int):Int:=if S.ay n e=0 then (if S.aH vars n.nodes.length then 0 else 2) else S.ay n e
def S.bk (n:Net)(e vars:List Int):Factor:=if S.bg n e vars=0 then ⟨vars,S.ac (S.aa n) vars,S.bc n e vars (S.au n)⟩ else ⟨[],[],[]⟩
theorem Cm (P:Nat->Prop)(h:H):Agg (⟨[],[],[]⟩:Factor) P 0 h (.agg [.nils,.nils,.nils]):=⟨_,rfl,gx.2 ⟨.nils,.nils,.nils,rfl,⟨by show 0<9223372036854775808;decide,rfl⟩,⟨by show 0<9223372036854775808;decide,rfl⟩,⟨by show 0<9223372036854775808;decide,rfl⟩⟩⟩
structure TbJ (g0:G) (n:Net) (e vars:List Int) (m j:Nat) (h:H):Prop where
 fr:∀i,i<g0.nx->i≠m->h.get i=g0.h.get i
 hm:∃L:List (Int×Int),h.get m=.map (mcl ik L)/\∀k,mgt L k=S.af n (S.pk n e vars k) j
set_option maxRecDepth 20000 in
theorem F3 {d ka kb:Nat}{Pa Pb:Nat->Prop}{g:G}{v w0 z0:AV}{n:Net}{e vars:List Int}(hd:0<d)(hm:Agg n NoP 0 g.h v)(he:SlR Pa ka g.h e w0)(hvs:SlR Pb kb g.h vars z0)(hka:ka<=d:=by omega)(hkb:kb<=d:=by omega) :
  ∃r,ac C0 d N.bF [v,w0,z0] g=.val r/\o4 (Agg (S.bk n e vars)) (One (S.bg n e vars)) NoP 0 .nil r:=by
 obtain ⟨b,rows,rfl,e1,hm',hN,r1,r2,r3,r4⟩:=gE d hm
 obtain ⟨w,ew,hw⟩:=dX he d
 rw[Nat.max_eq_right hka] at hw
 have hw:=hw .nil
 obtain ⟨z,ez,hz⟩:=dX hvs d
 rw[Nat.max_eq_right hkb] at hz
 have hz:=hz .nil
 have hbd:n0 [.nils,.nils,.nils] [] []=.val (.agg [.nils,.nils,.nils]):=rfl
 rw[uq]
 refine aP xJ (xs:=[.agg [.int .i64 n.grain,b],w,z]) (by simp only[aE,e1,ew,ez]) (by simp[mJ]) (bQ (m:=2) (bu _) (aQ _) (by decide) (by decide)) (by decide) hd ?_
 simp only[mJ,sx,sy,SO.run,↓reduceIte,Nat.reduceEqDiff,Nat.reduceAdd]
 obtain ⟨g0,hg0⟩:∃g0,g0=(G.empty.new (.cells 2 [[.int .i64 n.grain,b]] 0 false false)).new (.cells 3 [[.nils,.nils,.nils]] 0 false false):=⟨_,rfl⟩
 rw[<-hg0]
 have f0:g0.h.get 0=.cells 2 [[.int .i64 n.grain,b]] 0 false false:=by rw[hg0];simp[sx,H.get_put]
 have f1:g0.h.get 1=.cells 3 [[.nils,.nils,.nils]] 0 false false:=by rw[hg0];simp[sx]
 have f3:g0.nx=2:=by rw[hg0];simp[sx]
 clear hg0
 unfold oE
 simp only[sx,sy,SO.run,↓reduceIte,Nat.reduceEqDiff,Nat.reduceAdd,Nat.reduceLeDiff,f0,hw.cell.1,hw.cell.2]
 refine dJ (wV (n:=n) (ls:=[e]) (Nat.succ_pos d) (hm' _) (KX hw (by simp[H.get_put]))) fun v hv=>?_
 obtain ⟨y,cs,rfl,hy,hc,a1,a2,a3,a4,rfl⟩:=jT hv
 rw[lL] at hy ⊢
 by_cases h0:S.ay n e=0
 ·have hyo:=hy h0
  obtain ⟨h1,h2⟩:=gy.1 h0
  have hr:=bZ.1 h1
  obtain ⟨el,ege⟩:=kJ h2
  obtain ⟨W1,W2,W3⟩:=hr.wl
  have lz:=hz.len
  obtain ⟨b',b2,b3,ecs,hb',hb2,hb3⟩:=oJ.1 hc
  injection ecs with ec1 ecs
  injection ecs with ec2 ecs
  rw[hyo.net] at ec1 hb'
  subst ec1 ec2
  have hN':SlR NoP 0 .nil n.nodes a2:=hb'.tree (Nat.le_refl _)
  simp only[sx,sy,SO.run,↓reduceIte,Nat.reduceEqDiff,Nat.reduceAdd,Nat.reduceLeDiff,f3,h0,decide_true,Bool.not_true,lz]
  refine At (fun t g=>∃g1:G,g=g1/\g1.nx=5/\g1.h.get 1=.cells 3 [[.nils,.nils,.nils]] 0 false false/\g1.h.get 3=.cells 4 [[.int .i64 n.grain,a2,a3,a4]] 0 false false/\g1.h.get 4=.cells 1 [[.int .u64 0]] 0 false false/\St t ((10,.int .i64 (-1))::(32,z)::(33,.int .i64 (vars.length:Int))::(34,.int .i64 0)::LT0 w z)) ?_ ?_
  ·refine ⟨_,rfl,by simp[f3],by simp[H.get_put,f3,f1],by simp[H.get_put,f3],by simp[H.get_put,f3],by simp[St,LT0,sx]⟩
  rintro t g1 ⟨_,rfl,n1,k1,k3,k4,h10,h32,h33,h34,ht0⟩
  refine Mr (n:=n) (gr:=n.grain) (b:=a2) (fl:=a3) (S_:=a4) (g0:=g1) hr.l2 hN' hz (by omega) k3 k1 ⟨ht0,by rw[h10];rfl,h32,⟨fun j p hj=>by omega,fun j p q hj=>by omega⟩,Nat.le_refl _,fun _ _ _=>rfl,by rw[k4];rfl⟩ h33 h34 ?_ ?_
  ·intro t g hpl h6 h7 kg
   have hE:S.bg n e vars=2:=by rw[S.bg,if_pos h0,hpl];rfl
   have hj:S.bk n e vars=⟨[],[],[]⟩:=by rw[S.bk,hE,if_neg (by decide)]
   simp only[sx,sy,h6,h7,kg]
   rw[hE,hj]
   exact ⟨fun _=>True,_,_,rfl,Cm _ _,aC.2 rfl⟩
  clear ht0 h10 h32 h33 h34
  rintro t g2 hpl ⟨⟨h1,h2',h3,h6,h7,h8,h11,-⟩,-,-,-,hnx2,hfr2,hk4⟩
  rw[List.take_length] at hk4
  have hE:S.bg n e vars=0:=by rw[S.bg,if_pos h0,hpl];rfl
  have hj:S.bk n e vars=⟨vars,S.ac (S.aa n) vars,S.bc n e vars (S.au n)⟩:=by rw[S.bk,hE,if_pos rfl]
  have hbits:=DE hpl (by have:=hr.l2;omega)
  have hvl:=iD hpl (by omega)
  have hl8:=hr.l2
  have hin:=bA hpl
  have hcb:∀c∈S.ac (S.aa n) vars,1<=c/\c<=4:=aZ hr.cs fun y hy=>by rw[aI];exact hin y hy
  have hp1:=bz hcb
  have hp2:=cI (a:=(S.ac (S.aa n) vars).length) (b:=8) (by rw[dH];omega)
  have hp3:(4:Int) ^ 8=65536:=by decide
  obtain ⟨sz,hsz⟩:=Int.eq_ofNat_of_zero_le (show 0<=S.ae (S.ac (S.aa n) vars) by omega)
  simp only[m7,sx,sy,SO.run,↓reduceIte,Nat.reduceEqDiff,Nat.reduceAdd,Nat.reduceLeDiff,h2',lz]
  obtain ⟨p,hp⟩:∃p,p=g2.nx:=⟨_,rfl⟩
  refine At (fun t g=>∃g3:G,g=g3/\TbB g2 (S.aa n) vars w z p 0 t g3/\tat t 58=.int .i64 (vars.length:Int)/\tat t 59=.int .i64 0) ?_ ?_
  ·have hH:Hp ((g2.new (.cells 3 [[.nils,.nils,.nils]] 0 false false)).put g2.nx (.cells 3 [[.nils,.nils,.nils]] 0 false false)) 5 K3 (fun k=>if k=0 then .hptr p 0 0 0 else .nils) (fun k=>if k=0 then .bx [.nils,.nils,.nils] else .sl 1 []):=by
    refine ⟨fun k hk=>?_,fun k l hk hl hne id h h'=>?_,by simp;omega⟩
    ·by_cases e:k=0
     ·simp only[if_pos e]
      exact ⟨p,by omega,by simp;omega,rfl,by rw[hp];simp[H.get_put]⟩
     ·simp only[if_neg e];exact .inl ⟨rfl,rfl⟩
    ·by_cases e:k=0
     ·by_cases e':l=0
      ·omega
      ·simp only[if_neg e'] at h';cases h'
     ·simp only[if_neg e] at h;cases h
   refine ⟨_,rfl,⟨by simp[St,LT1,sx,h1,h2',h6,h8,h11,hp],by simp[sx,S.ac,S.ae],by simp[sx],⟨_,_,hH,rfl,rfl,rfl,rfl⟩,fun i hi=>by simp[H.get_put,show ¬i=g2.nx by omega]⟩,by simp[sx],by simp[sx]⟩
  clear h1 h2' h3 h6 h7 h8 h11
  rintro t g3 ⟨_,rfl,hB,h58,h59⟩
  have k3':g2.h.get 3=.cells 4 [[.int .i64 n.grain,a2,a3,a4]] 0 false false:=by rw[hfr2 3 (by omega) (by omega),k3]
  have k1':g2.h.get 1=.cells 3 [[.nils,.nils,.nils]] 0 false false:=by rw[hfr2 1 (by omega) (by omega),k1]
  refine Mu hr hN' hz hpl k3' hB h58 h59 ?_
  clear hB h58 h59
  rintro t g4 ⟨⟨h1,h2',h6,h8,h11,h14,-⟩,h15,-,⟨V,E,hT⟩,hfr4⟩
  rw[List.take_length] at h15 hT
  obtain ⟨kb,hp5,hpn⟩:=hT.box
  have q3:g4.h.get 3=.cells 4 [[.int .i64 n.grain,a2,a3,a4]] 0 false false:=by rw[hfr4 3 (by omega),k3']
  have q1:g4.h.get 1=.cells 3 [[.nils,.nils,.nils]] 0 false false:=by rw[hfr4 1 (by omega),k1']
  have q4:g4.h.get 4=.cells 1 [[.int .u64 (S.ap vars:Int)]] 0 false false:=by rw[hfr4 4 (by omega),hk4]
  have hrm:∀(d:Nat) (rd:Option Nat) (t:T) (g:G),(bp C0 (.makeMap tII none)).run (I C0) d rd t g=.upd (.hmap g.nx) (g.new (.map [])):=fun d rd t g=>IJ d rd t g
  have hst:∀(g:G) (i m:Nat),jK (.cells 1 [[.nilm]] 0 false false) g i 0 0 1 0 (.hmap m)=.upd .undef (g.put i (.cells 1 [[.hmap m]] 0 false false)):=fun g i m=>rfl
  simp only[mP,sx,sy,SO.run,↓reduceIte,Nat.reduceEqDiff,Nat.reduceAdd,Nat.reduceLeDiff,h8,h1,hrm,hst,q3,show ¬3=g4.nx by omega,show ¬3=g4.nx+1 by omega]
  refine dJ (Q:=fun r=>∃cs z t1 t2,r=.clo N.ac [] [.tptr t1 4 [cs] 0 0,.tptr t2 1 [[z]] 0 0]/\Rp.rp NoP d .nil y cs/\SlR NoP d .nil e z) ?_ ?_
  ·obtain ⟨cs',z',t1,t2,ez,h1,h2⟩:=lS (d:=d+1) (y:=y) (e:=e) (v:=.agg [.int .i64 n.grain,a2,a3,a4]) (w:=w) (Nat.succ_pos d) ⟨_,rfl,Rp.tree hc (Nat.le_refl _)⟩ (hw.tree (Nat.le_refl _))
   exact ⟨_,ez,cs',z',t1,t2,rfl,h1,h2⟩
  rintro _ ⟨cs',z',t1,t2,rfl,hcs',hz'⟩
  simp only[sx]
  refine At (fun t g=>∃g5:G,g=g5/\g5.nx=g4.nx+2/\g5.h.get g4.nx=.map []/\g5.h.get (g4.nx+1)=.cells 1 [[.hmap g4.nx]] 0 false false/\(∀i,i<g4.nx->g5.h.get i=g4.h.get i)/\St t ((94,.clo N.ac [] [.tptr t1 4 [cs'] 0 0,.tptr t2 1 [[z']] 0 0])::(18,.hptr (g4.nx+1) 0 0 0)::(15,.int .i64 (sz:Int))::LT1 w z p)) ?_ ?_
  ·refine ⟨_,rfl,by simp,by simp[H.get_put],by simp[H.get_put],fun i hi=>by simp[H.get_put,show ¬i=g4.nx by omega,show ¬i=g4.nx+1 by omega],by simp[St,LT1,sx,h1,h2',h6,h8,h11,h14,h15,hsz]⟩
  clear h1 h2' h6 h8 h11 h14 h15
  rintro t g5 ⟨_,rfl,n5,m0,m1,f5,h94,ht⟩
  obtain ⟨h18,h15,h1,h2',h6,h8,h11,h14,-⟩:=ht
  refine qG (t1:=t1) (t2:=t2) (n:=n) (y:=y) (e:=e) (cs:=cs') (w:=z') (Nat.succ_pos d) hr hyo hcs' hz' (by omega) h94 (by decide)
   (fun j h=>TbJ g5 n e vars g4.nx j h) (fun _=>False) (fun j h h' hh hg=>⟨fun i h1 h2=>by rw[hh i h1,hg.fr i h1 h2],by obtain ⟨L,l1,l2⟩:=hg.hm;exact ⟨L,by rw[hh _ (by omega),l1],l2⟩⟩) (fun _ _ _ h=>h) ⟨fun _ _ _=>rfl,[],m0,fun k=>rfl⟩ ?_ ?_ ?_ (fun _ h=>h.elim)
  ·intro j h hj hmt hg
   have hp:∀k,S.pk n e vars k j=false:=fun k=>by rw[S.pk,S.pe,<-tG ege,hmt];rfl
   obtain ⟨L,l1,l2⟩:=hg.hm
   exact ⟨hg.fr,L,l1,fun k=>by rw[S.af,hp];simp[l2]⟩
  ·intro j u g6 hj hmt hg hn hu
   obtain ⟨L,l1,l2⟩:=hg.hm
   have hpe:S.pe n e j=true:=by rw[S.pe,<-tG ege,hmt]
   have hinC:=iy (fun c hc=>(hr.cs c hc).1) (j:Int)
   simp only[nu,sx,sy,SO.run,↓reduceIte,Nat.reduceEqDiff,Nat.reduceAdd,Nat.reduceLeDiff]
   refine ⟨FD _ _ _,?_⟩
   intro g7 n7 f7
   have j12:g7.h.get g6.nx=.cells 3 [[.int .i64 (j:Int),.int .i64 (S.wt n j),u]] 0 false false:=by rw[f7 _ (by omega),if_pos rfl];rfl
   have jo:∀i,i<g5.nx->g7.h.get i=g6.h.get i:=fun i hi=>by rw[f7 i (by omega),if_neg (by omega),if_neg (by omega)]
   have j18:g7.h.get (g4.nx+1)=.cells 1 [[.hmap g4.nx]] 0 false false:=by rw[jo _ (by omega),hg.fr _ (by omega) (by omega),m1]
   have jm:g7.h.get g4.nx=.map (mcl ik L):=by rw[jo _ (by omega),l1]
   have j3:g7.h.get 3=.cells 4 [[.int .i64 n.grain,a2,a3,a4]] 0 false false:=by rw[jo 3 (by omega),hg.fr 3 (by omega) (by omega),f5 3 (by omega),q3]
   have j4:g7.h.get 4=.cells 1 [[.int .u64 (S.ap vars:Int)]] 0 false false:=by rw[jo 4 (by omega),hg.fr 4 (by omega) (by omega),f5 4 (by omega),q4]
   have hu3:SlR (fun _=>True) 0 g7.h (S.am (S.aa n) (j:Int)) u:=hu.wd fun i hi=>⟨trivial,by rw[f7 i (by omega),if_neg (by omega),if_neg (by omega)]⟩
   obtain ⟨K,hK⟩:∃K,K=S.ah (S.ac (S.aa n) vars) (S.ac (S.am (S.aa n) (j:Int)) vars):=⟨_,rfl⟩
   have kn:∀g:G,g.h=g7.h->ac C0 (d+1) N.aR [.agg [.int .i64 n.grain,a2,a3,a4],u,.int .u64 (S.ap vars:Int)] g=.val (.int .i64 K):=fun g hgh=>by
    have:=GR (d:=d+1) (g:=g) (v:=.agg [.int .i64 n.grain,a2,a3,a4]) (w:=u) (s:=S.ap vars) (Nat.succ_pos d) hr ⟨_,rfl,Rp.tree hc (Nat.le_refl _)⟩ hyo (hgh ▸ hu3) hinC (qP vars)
    rw[this,S.aK,hbits,hK]
   have hb:=qQ hr (p:=S.pk n e vars K) (j:=j+1) (by omega)
   have hpkK:S.pk n e vars K j=true:=by rw[S.pk,hpe,hK];simp
   have hs:S.af n (S.pk n e vars K) (j+1)=mgt L K+S.wt n j:=by rw[S.af,hpkK,l2];simp[S.wt]
   have w1:IntKind.wrap .i64 (mgt L K+S.wt n j)=mgt L K+S.wt n j:=by rw[<-hs,aG (by omega) (by omega)]
   have lk:∀(t:T) (g:G),tat t 96=.hmap g4.nx->tat t 101=.int .i64 K->g.h.get g4.nx=.map (mcl ik L)->(bp C0 (.lookup tII (.tmp 96) (.tmp 101) false)).run (I C0) (d+1) (some (g5.nx+1)) t g=.val (.int .i64 (mgt L K)):=fun t g a b c=>Fh a b c
   have up:∀(t:T) (g:G),tat t 96=.hmap g4.nx->tat t 101=.int .i64 K->tat t 105=.int .i64 (mgt L K+S.wt n j)->g.h.get g4.nx=.map (mcl ik L)->(bp C0 (.mapUpdate tII (.tmp 96) (.tmp 101) (.tmp 105))).run (I C0) (d+1) (some (g5.nx+1)) t g=.upd .undef (g.put g4.nx (.map (mcl ik (mst K (mgt L K+S.wt n j) L)))):=fun t g a b c e=>Mf a b c e
   simp only[mU,sx,sy,sf,SO.run,↓reduceIte,Nat.reduceEqDiff,Nat.reduceAdd,Nat.reduceLeDiff,h18,h8,h11,j12,j18,j3,j4,kn,jm,lk,up,w1,qX,GE,kw]
   refine ⟨?_,by simp<;>omega,fun i h1 h2=>by simp[H.get_put,show ¬i=g4.nx by omega],.inl ⟨rfl,fun i h1 h2=>?_,mst K (mgt L K+S.wt n j) L,by simp[H.get_put],fun k=>?_⟩⟩
   ·simp only[List.reverse_cons,List.reverse_nil,List.nil_append,List.cons_append]
    exact uM [(false,false),(false,false),(false,false),(false,false),(false,false),(false,false),(false,true),(false,false),(false,false),(false,false),(true,false)] [] (by simp[All2,af,aw]) (by decide) (by decide) (by simp)
   ·simp[H.get_put,h2]
    rw[jo i h1,hg.fr i h1 h2]
   ·rw[Aj]
    by_cases hk:k=K
    ·subst hk
     rw[if_pos rfl,hs]
    ·rw[if_neg hk,l2,S.af,if_neg,Int.add_zero]
     rw[S.pk,hpe,<-hK]
     simp[Ne.symm hk]
  ·intro g' hg hn hdf
   obtain ⟨L,l1,l2⟩:=hg.hm
   refine Me (p:=p) (r:=g4.nx+1) (m:=g4.nx) (sz:=sz) (l:=vars) (cl:=S.ac (S.aa n) vars) (w:=w) (z:=z) (V:=V) (E:=E) (L:=L) (W:=S.bc n e vars (S.au n)) (by omega) (by rw[dH];omega) (by omega) ⟨h18,h15,h1,h2',h6,h8,h11,h14,trivial⟩ ⟨hT.hp.step (by omega) fun i h5 hi=>by rw[hg.fr i (by omega) (by omega),f5 i hi],hT.v0,hT.e0,hT.e1,hT.e2⟩ (by rw[hg.fr _ (by omega) (by omega),m1]) l1 ⟨by omega,by omega⟩ ⟨by omega,by omega⟩ (by simp[S.bc,hsz]) (fun i hi=>?_) (by rw[hg.fr 1 (by omega) (by omega),f5 1 (by omega),q1]) ?_
   ·simp[S.bc,hsz,hi,l2]
   ·intro t g8 a1 a2 a3 h6 h7 k8 s1 s2 s3 fr8
    have hd8:g8.h.get g5.nx=.dfr true:=by rw[fr8 _ (by omega) (by omega) (by omega),hdf]
    rw[zH]
    refine gi hd8 ?_
    simp only[sx,sy,↓reduceIte,h6,h7,k8,show ¬1=g5.nx by omega,Nat.reduceAdd,Nat.reduceLeDiff]
    rw[hE,hj]
    have far:∀{l:List Int} {v:AV},SlR (PC g8.h) 0 g8.h l v->SlR (fun _=>True) 0 (g8.put g5.nx (.dfr false)).h l v:=fun h=>h.wd fun i hi=>⟨trivial,by
     obtain ⟨-,a,b,c,e,f,hi⟩:=hi
     have:i≠g5.nx:=fun e'=>by rw[e',hd8] at hi;cases hi
     simp[H.get_put,this]⟩
    exact ⟨fun _=>True,_,_,rfl,⟨_,rfl,gx.2 ⟨a1,a2,a3,rfl,far s1,far s2,far s3⟩⟩,aC.2 rfl⟩
 ·have hE:S.bg n e vars=S.ay n e:=by rw[S.bg,if_neg h0]
  have hj:S.bk n e vars=⟨[],[],[]⟩:=by rw[S.bk,hE,if_neg h0]
  simp only[sx,sy,SO.run,↓reduceIte,Nat.reduceEqDiff,Nat.reduceAdd,Nat.reduceLeDiff,f3,h0,decide_false,Bool.not_false,f1]
  rw[hj,hE]
  exact ⟨fun _=>True,_,_,rfl,Cm _ _,aC.2 rfl⟩
structure RtH (l W:List Int) (C:AV) (V:Nat->AV) (E:Nat->En) (g:G):Prop where
 hp:Hp g 2 K4 V E
 v0:V 0=.hptr 2 0 0 0
 e0:E 0=.bx [V 1,C,V 3]
 e1:E 1=.sl 1 (l.map ci)
 e3:E 3=.sl 1 (W.map ci)
theorem I5 (a b:Int):vg true (.flat [.int .i64,.int .i64]) (.agg [.int .i64 a,.int .i64 b]) (.agg [.int .i64 a,.int .i64 b])=.val (.bool false):=by
 have ha:vq a a=true:=by rw[gS];simp
 have hb:vq b b=true:=by rw[gS];simp
 simp only[vg,eqA,cO,cL,jh,ha,hb]
 rfl
theorem uH {pm:List Nat}{fs:List Foot}(ws:List Bool)(L:List (Nat×Nat))(hw:All2 (fun (f:Foot) (w:Bool)=>w=false->f.wr=[]) fs ws)(hs:ej pm 0 fs=true)(hd:AQ pm ws L=true)
  (hL:∀p∈L,∀x y,fs[p.1]?=some x->fs[p.2]?=some y->bk x y=true):gU pm fs=true:=by
 unfold gU
 rw[aa,if_pos]
 ·exact hs
 ·refine lK fun a b x y hab ha hb=>?_
  simp only[Nat.zero_add]
  obtain ⟨wa,hwa,ka⟩:=hw.get ha
  obtain ⟨wb,hwb,kb⟩:=hw.get hb
  have hbl:=(List.getElem?_eq_some_iff.1 hwb).1
  have:=List.all_eq_true.1 (List.all_eq_true.1 hd b (List.mem_range.2 hbl)) a (List.mem_range.2 hab)
  simp only[zZ,Bool.or_eq_true] at this
  rcases this with (h | h) | h
  ·rw[h,Bool.true_or]
  ·simp only[List.getD_eq_getElem?_getD,hwa,hwb,Option.getD_some,Bool.and_eq_true,Bool.not_eq_true'] at h
   have ex:=ka h.1
   have ey:=kb h.2
   simp only[bk,eO,di,ex,ey,Bool.and_self,Bool.or_true]
  ·rw[hL (a,b) (List.contains_iff_mem.1 h) x y ha hb,Bool.or_true]
structure PoM (n:Net) (e vals:List Int) (j k m:Nat) (h:H):Prop where
 hm:∃L:List ((Int×Int)×Int),h.get m=.map (mcl pk L)/\∀(v:Nat) (x:Int),mgt L ((v:Int),x)=S.af n (S.pq n e v x) j+if v<k/\vals[v]?=some x then S.wt n j else 0
structure PoK (g0:G) (m:Nat) (g:G):Prop where
 nx:g0.nx<=g.nx
 fr:∀i,i≠m->i<g0.nx->g.h.get i=g0.h.get i
set_option maxRecDepth 20000 in
theorem KU {d lo pm pw m j:Nat}{rd:Option Nat}{n:Net}{e vals:List Int}{u:AV}{Q:QT}{t:T}{g0:G}(hr:NR n)(hpe:S.pe n e j=true)(hvals:vals=S.am (S.aa n) (j:Int))(hj:j<1024)
  (hu:SlR (fun i=>lo<=i/\i<g0.nx) 0 g0.h vals u) (hlo:m<lo) (hp:pm≠m/\pm<g0.nx) (hw:pw≠m/\pw<g0.nx)
  (k6:g0.h.get pm=.cells 1 [[.hmap m]] 0 false false) (k8:g0.h.get pw=.cells 3 [[.int .i64 (j:Int),.int .i64 (S.wt n j),u]] 0 false false)
  (h0:PoM n e vals j 0 m g0.h) (h6:tat t 6=.hptr pm 0 0 0) (h8:tat t 8=.hptr pw 0 0 0) (h21:tat t 21=u) (h22:tat t 22=.int .i64 (vals.length:Int)) (h23:tat t 23=.int .i64 0)
  (fin:∀t g,PoK g0 m g->PoM n e vals j vals.length m g.h->Q (.exit 2) t [] g):wpL (wp C0 d rd bK) Q t [] g0:=by
 have hvl:vals.length<=8:=by rw[hvals,wJ,aI];exact hr.l2
 have hru:∀g,PoK g0 m g->ak g.h 1 u=some (vals.map ci):=fun g hk=>(hu.wd fun i hi=>⟨hi,hk.fr i (by omega) hi.2⟩:SlR (fun i=>lo<=i/\i<g0.nx) 0 g.h vals u).ints
 simp only[bK]
 refine aL (m:=vals.length) (by omega) (fun k t df g=>df=[]/\St t [(6,.hptr pm 0 0 0),(8,.hptr pw 0 0 0),(21,u)]/\PoK g0 m g/\PoM n e vals j k m g.h) ⟨rfl,⟨h6,h8,h21,trivial⟩,⟨Nat.le_refl _,fun _ _ _=>rfl⟩,h0⟩ h23 h22 (by decide)
  (by rintro k t df g v s (rfl | rfl | rfl) ⟨a1,⟨b1,b2,b3,-⟩,a3⟩<;>exact ⟨a1,by simp[St,sx,b1,b2,b3],a3⟩) ?_ ?_
 ·clear h6 h8 h21 h22 h23 h0
  rintro k t df g hk ⟨rfl,⟨h6,h8,h21,-⟩,hK,L,l1,l2⟩ h23 h22
  have ru:=hru g hK
  obtain ⟨x,hx,-,-⟩:=au hk
  have u1:k<(vals.map ci).length:=by simpa using hk
  have u2:(vals.map ci)[k]?=some (ci x):=by rw[List.getElem?_map,hx];rfl
  have hry:om u=true:=nI ru u1
  refine bo (P:=fun t' df g'=>df=[]/\g'=g/\St t' [(9,.int .i64 (k:Int)),(10,.int .i64 x),(6,.hptr pm 0 0 0),(8,.hptr pw 0 0 0),(21,u),(22,.int .i64 (vals.length:Int)),(23,.int .i64 (k:Int))]) ?_ ?_
  ·simp only[sz,simprocAttr,h21,h23,ru,u1,u2,ci]
   simp[St,sx,h6,h8,h21,h22,h23]
  clear h6 h8 h21 h22 h23
  rintro t df g' ⟨rfl,rfl,h9,h10,h6,h8,h21,h22,h23,-⟩
  obtain ⟨K,hKd⟩:∃K:Int×Int,K=((k:Int),x):=⟨_,rfl⟩
  have hb:=qQ hr (p:=S.pq n e k x) (j:=j+1) (by omega)
  have hpq:S.pq n e k x j=true:=by rw[S.pq,hpe,<-hvals,hx];simp
  have hmK:mgt L K=S.af n (S.pq n e k x) j:=by rw[hKd,l2];simp
  have hs:S.af n (S.pq n e k x) (j+1)=mgt L K+S.wt n j:=by rw[S.af,hpq,hmK];simp[S.wt]
  have w1:IntKind.wrap .i64 (mgt L K+S.wt n j)=mgt L K+S.wt n j:=by rw[<-hs,aG (by omega) (by omega)]
  have g6:g'.h.get pm=.cells 1 [[.hmap m]] 0 false false:=by rw[hK.fr pm hp.1 hp.2,k6]
  have g8:g'.h.get pw=.cells 3 [[.int .i64 (j:Int),.int .i64 (S.wt n j),u]] 0 false false:=by rw[hK.fr pw hw.1 hw.2,k8]
  have epk:AV.agg [.int .i64 (k:Int),.int .i64 x]=pk K:=by rw[hKd];rfl
  have hbd:∀a b:Int,n0 [.int .i64 0,.int .i64 0] [(0,1),(1,1)] [.int .i64 a,.int .i64 b]=.val (.agg [.int .i64 a,.int .i64 b]):=fun a b=>rfl
  have lk:∀(t:T) (g:G),tat t 28=.hmap m->tat t 31=pk K->g.h.get m=.map (mcl pk L)->(bp C0 (.lookup tPP (.tmp 28) (.tmp 31) false)).run (I C0) d rd t g=.val (.int .i64 (mgt L K)):=fun t g a b c=>ET a b c
  have es:∀(t:T) (g:G),tat t 28=.hmap m->tat t 37=.int .i64 (mix K L:Int)->tat t 35=.int .i64 (mgt L K+S.wt n j)->g.h.get m=.map (mcl pk (vo K L))->(bp C0 (.entryStore tPP (.tmp 28) (.tmp 37) (.tmp 35))).run (I C0) d rd t g=.upd .undef (g.put m (.map (mcl pk (mst K (mgt L K+S.wt n j) L)))):=fun t g a b c e=>by rw[G9 a b c e (FL K L),Cg]
  have res:∀(v:Nat) (y:Int),mgt (mst K (mgt L K+S.wt n j) L) ((v:Int),y)=S.af n (S.pq n e v y) j+if v<k+1/\vals[v]?=some y then S.wt n j else 0:=fun v y=>by
   rw[Aj]
   by_cases hvy:((v:Int),y)=K
   ·rw[if_pos hvy]
    rw[hKd] at hvy
    injection hvy with e1 e2
    have e1:v=k:=by omega
    subst e1 e2
    rw[hmK,if_pos ⟨by omega,hx⟩]
   ·rw[if_neg hvy,l2]
    congr 1
    have:(v<k+1/\vals[v]?=some y)↔(v<k/\vals[v]?=some y):=by
     constructor
     ·rintro ⟨h1,h2⟩
      refine ⟨?_,h2⟩
      by_cases hvk:v=k
      ·subst hvk
       rw[hx] at h2
       injection h2 with h2
       exact absurd (by rw[hKd,h2]) hvy
      ·omega
     ·rintro ⟨h1,h2⟩;exact ⟨by omega,h2⟩
    simp only[this]
  have hnx:=hK.nx
  rcases H3 (d:=d) (rd:=rd) (a:=28) (b:=31) (id:=m) (k:=K) L with ⟨en,em⟩ | en
  ·rw[em] at es
   simp only[sz,simprocAttr,sf,h6,h8,h9,h10,g6,g8,hbd,epk,lk,l1,w1,en,es,qX,B5,zc]
   refine ⟨?_,⟨by simp[St,sx,h6,h8,h21],⟨by simp;omega,fun i h1 h2=>by simp[H.get_put,h1];exact hK.fr i h1 h2⟩,_,by simp[H.get_put],res⟩,h23,h22⟩
   simp only[List.reverse_cons,List.reverse_nil,List.nil_append,List.cons_append]
   exact uM [(false,false),(false,false),(false,false),(false,false),(false,true),(false,false),(false,false),(false,false),(false,false),(false,false),(true,false)] [] (by simp[All2,af,aw]) (by decide) (by decide) (by simp)
  ·simp only[sz,simprocAttr,sf,h6,h8,h9,h10,g6,g8,hbd,epk,lk,l1,w1,en,es,qX,B5,zc]
   refine ⟨?_,⟨by simp[St,sx,h6,h8,h21],⟨by simp;omega,fun i h1 h2=>by simp[H.get_put,h1];exact hK.fr i h1 h2⟩,_,by simp[H.get_put],res⟩,h23,h22⟩
   simp only[List.reverse_cons,List.reverse_nil,List.nil_append,List.cons_append]
   refine uH [false,false,false,false,false,false,false,false,true,false,true] [(4,8),(7,8)] (by simp[All2,af,aw]) ?_ (by decide) ?_
   ·simp[ej,bB,meets,fst1,af,aw,ah,an]
    rfl
   ·rintro q hq x y hx hy
    simp only[List.mem_cons,List.not_mem_nil,or_false] at hq
    rcases hq with rfl | rfl<;>(simp at hx hy;subst hx;subst hy;simp[bk,eO,di,meets,fst1,wx,ah,an,aw,af])
 ·rintro t df g ⟨rfl,-,hK,hM⟩
  exact fin t g hK hM
end
end Hx
end
