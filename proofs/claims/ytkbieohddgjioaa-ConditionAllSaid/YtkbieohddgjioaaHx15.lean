/- A part of the proof: an interpreter over abstract values, shown right against the model, and what the functions of the chapter compute on it. -/
import Derived.OpenShut
import Derived.DataReads
import Derived.Test.YtkbieohddgjioaaHx14
set_option linter.unusedVariables false
set_option linter.unusedSimpArgs false
set_option linter.unnecessarySimpa false
section
namespace Hx
open Go
def S.aS (n:Net)(l:List Sp)(vr:List Nat):Nat->Nat->Nat->Nat
 | 0,_,_=>0
 | f+1,i,ab =>
  if (S.sp l i).1 = -1 then
   let c:=S.am (vr[(S.sp l i).2.1.toNat]?.getD 0 &&& vr[(S.sp l i).2.2.toNat]?.getD 0) ab
   1+S.aC n (S.aa n c)*(S.aS n l vr f (S.sp l i).2.1.toNat (ab ||| c)+S.aS n l vr f (S.sp l i).2.2.toNat (ab ||| c))
  else 1
theorem zl {n:Net}(hr:NR n)(s:Nat):1<=S.aC n (S.aa n s)/\S.aC n (S.aa n s)<=65536:=by obtain ⟨W1,W2,-⟩:=(qi hr s).nc;exact ⟨W1,W2⟩
structure Cn (n:Net) (l:List Sp) (i:Nat) (st st':MSt) (u:Nat):Prop where
 lo:st.2<=st'.2
 hi:st'.2<=st.2+u
 kk:∀(e:Int) (k:List Int),eC st'.1 (e,k)=true->eC st.1 (e,k)=true\/∃e':Nat,e=(e':Int)/\0<S.aZ l e' i
 ab:(∀(e':Nat) (k:List Int),0<S.aZ l e' i->eC st.1 ((e':Int),k)=false)->st.2+S.bp l i<=st'.2
theorem Az {n:Net}{l:List Sp}{vr:List Nat}{size:Int}(hr:NR n)(hl:LCk n l):∀(f i:Nat) (w:List Int) (ab:Nat) (st:MSt),i<f->i<l.length->0<=st.2->st.2+(S.aS n l vr f i ab:Nat)<9223372036854775808 ->
  Cn n l i st (S.ax n l vr size f i w ab st).2 (S.aS n l vr f i ab)
 | 0,i,w,ab,st,h,_,_,_=>by omega
 | f+1,i,w,ab,st,h,hi,h0,hb=>by
  rw[S.ax];rw[S.aS] at hb ⊢
  by_cases hx:(S.sp l i).1 = -1
  ·rw[if_pos hx] at hb ⊢;rw[if_pos hx];obtain ⟨y1,y2,y3,y4⟩:=hl.el.j i hi hx;dsimp only at hb ⊢;obtain ⟨c,hc⟩:∃c,c=S.am (vr[(S.sp l i).2.1.toNat]?.getD 0 &&& vr[(S.sp l i).2.2.toNat]?.getD 0) ab:=⟨_,rfl⟩;rw[<-hc] at hb ⊢;obtain ⟨a,ha⟩:∃a,a=(S.sp l i).2.1.toNat:=⟨_,rfl⟩;obtain ⟨b,hbb⟩:∃b,b=(S.sp l i).2.2.toNat:=⟨_,rfl⟩;have hja:=λe=>wX hl.el (e:=e) hi hx;have hap:=λe=>GQ hl (e:=e) hi hx;have hcj:=wy hl.el hi hx;rw[<-ha,<-hbb] at hb hcj ⊢;simp only[<-ha,<-hbb] at hja hap;have hk1:=(zl hr c).1;obtain ⟨k,hk⟩:∃k,k=S.aC n (S.aa n c):=⟨_,rfl⟩;rw[<-hk] at hb hk1 ⊢;obtain ⟨ca,hca⟩:∃ca,ca=S.aS n l vr f a (ab ||| c):=⟨_,rfl⟩;obtain ⟨cb,hcb⟩:∃cb,cb=S.aS n l vr f b (ab ||| c):=⟨_,rfl⟩;rw[<-hca,<-hcb] at hb ⊢
   split
   ·rename_i hm;refine ⟨Int.le_refl _,by dsimp only;omega,λe k h=>.inl h,λhh=>?_⟩;rw[hh i _ (BU hl.el hi)] at hm;cases hm
   ·rename_i hm;have hw:w64 (st.2+1)=st.2+1:=an (by omega) (by omega);rw[hw];obtain ⟨r,hr'⟩:∃r,r=S.bw (S.ax n l vr size f) n w (S.aa n c) a b (ab ||| c) (st.1,st.2+1) k:=⟨_,rfl⟩;have key:st.2+1<=r.2.2/\r.2.2<=st.2+1+((k*(ca+cb):Nat):Int)/\(∀(e:Int) (k:List Int),eC r.2.1 (e,k)=true->eC st.1 (e,k)=true\/∃e':Nat,e=(e':Int)/\(0<S.aZ l e' a\/0<S.aZ l e' b))/\(0<k->(∀(e':Nat) (k:List Int),0<S.aZ l e' i->eC st.1 ((e':Int),k)=false)->st.2+1+S.bp l a+S.bp l b<=r.2.2)/\(k=0->r.2.1=st.1):=by
     rw[hr'];refine vH (rec:=S.ax n l vr size f) (st:=(st.1,st.2+1)) (P:=λj s=>st.2+1<=s.2.2/\s.2.2<=st.2+1+((j*(ca+cb):Nat):Int)/\(∀(e:Int) (k:List Int),eC s.2.1 (e,k)=true->eC st.1 (e,k)=true\/∃e':Nat,e=(e':Int)/\(0<S.aZ l e' a\/0<S.aZ l e' b))/\(0<j->(∀(e':Nat) (k:List Int),0<S.aZ l e' i->eC st.1 ((e':Int),k)=false)->st.2+1+S.bp l a+S.bp l b<=s.2.2)/\(j=0->s.2.1=st.1)) ⟨Int.le_refl _,by simp,λe k h=>.inl h,λh=>absurd h (Nat.lt_irrefl 0),λ_=>rfl⟩ ?_;intro j s hj ⟨p1,p2,p3,p4,p5⟩;have hm1:(j+1)*(ca+cb)<=k*(ca+cb):=Nat.mul_le_mul_right _ (by omega);have hm2:(j+1)*(ca+cb)=j*(ca+cb)+(ca+cb):=Nat.succ_mul _ _;have A:=Az (size:=size) (vr:=vr) hr hl f a (S.aw n w (S.aa n c) j) (ab ||| c) s.2 (by omega) (by omega) (by omega) (by rw[<-hca];omega);rw[<-hca] at A;obtain ⟨s1,hs1⟩:∃s1,s1=(S.ax n l vr size f a (S.aw n w (S.aa n c) j) (ab ||| c) s.2).2:=⟨_,rfl⟩;rw[<-hs1] at A ⊢;have a1:=A.lo;have a2:=A.hi;have B:=Az (size:=size) (vr:=vr) hr hl f b (S.aw n w (S.aa n c) j) (ab ||| c) s1 (by omega) (by omega) (by omega) (by rw[<-hcb];omega);rw[<-hcb] at B;have b1:=B.lo;have b2:=B.hi;dsimp only;refine ⟨by omega,by omega,λe k' h'=>?_,λ_ hh=>?_,λh'=>by omega⟩
     ·rcases B.kk e k' h' with h1 | ⟨e',h1,h2⟩
      ·rcases A.kk e k' h1 with h1 | ⟨e',h1,h2⟩
       ·exact p3 e k' h1
       ·exact .inr ⟨e',h1,.inl h2⟩
      ·exact .inr ⟨e',h1,.inr h2⟩
     ·by_cases hj0:j=0
      ·have hs0:=p5 hj0;have h1:=A.ab λe' k' he'=>by rw[hs0];exact hh e' k' (by rw[hja];omega)
       have h2:=B.ab λe' k' he'=>by
        cases hb':eC s1.1 ((e':Int),k') with
        | false=>rfl
        | true =>
         rcases A.kk _ _ hb' with h1 | ⟨e'',h1,h2⟩
         ·rw[hs0,hh e' k' (by rw[hja];omega)] at h1;cases h1
         ·have:e''=e':=by omega
          subst this;have:=(hap _ h2).1;omega
       omega
      ·have:=p4 (by omega) hh;omega
    rw[<-hr'];obtain ⟨k1,k2,k3,k4,-⟩:=key;refine ⟨by dsimp only;omega,by dsimp only;omega,λe k' h'=>?_,λhh=>?_⟩
    ·have h3:eC r.2.1 (e,k')=true->eC st.1 (e,k')=true\/∃e':Nat,e=(e':Int)/\0<S.aZ l e' i:=λh=>(k3 e k' h).imp id λ⟨e',h1,h2⟩=>⟨e',h1,by rw[hja];omega⟩;dsimp only at h'
     split at h'
     ·rw[xw,Bool.or_eq_true] at h';rcases h' with h' | h'
      ·have e1:e=(i:Int):=congrArg Prod.fst (of_decide_eq_true h');exact .inr ⟨i,e1,BU hl.el hi⟩
      ·exact h3 h'
     ·exact h3 h'
    ·have:=k4 (by omega) hh;dsimp only;omega
  ·rw[if_neg hx] at hb ⊢;rw[if_neg hx];have hw:w64 (st.2+1)=st.2+1:=an (by omega) (by omega);rw[hw];refine ⟨by dsimp only;omega,by dsimp only;omega,λe k h=>.inl h,λ_=>by rw[wz hx];exact Int.le_refl _⟩
theorem tc {n:Net}{l:List Sp}{vr:List Nat}{size:Int}(hs:size<=0)(hl:LEl n l):∀(f i:Nat) (w:List Int) (ab:Nat) (c:Int),i<f->i<l.length->0<=c->c+(S.aS n l vr f i ab:Nat)<9223372036854775808 ->
  (S.ax n l vr size f i w ab ([],c)).2=([],c+(S.aS n l vr f i ab:Nat))
 | 0,i,w,ab,c,h,_,_,_=>by omega
 | f+1,i,w,ab,x,h,hi,h0,hb=>by
  rw[S.ax];rw[S.aS] at hb ⊢
  by_cases hx:(S.sp l i).1 = -1
  ·rw[if_pos hx] at hb ⊢;rw[if_pos hx];obtain ⟨y1,y2,y3,y4⟩:=hl.j i hi hx;dsimp only at hb ⊢;obtain ⟨c,hc⟩:∃c,c=S.am (vr[(S.sp l i).2.1.toNat]?.getD 0 &&& vr[(S.sp l i).2.2.toNat]?.getD 0) ab:=⟨_,rfl⟩;rw[<-hc] at hb ⊢;obtain ⟨a,ha⟩:∃a,a=(S.sp l i).2.1.toNat:=⟨_,rfl⟩;obtain ⟨b,hbb⟩:∃b,b=(S.sp l i).2.2.toNat:=⟨_,rfl⟩;rw[<-ha,<-hbb] at hb ⊢;obtain ⟨k,hk⟩:∃k,k=S.aC n (S.aa n c):=⟨_,rfl⟩;rw[<-hk] at hb ⊢;obtain ⟨ca,hca⟩:∃ca,ca=S.aS n l vr f a (ab ||| c):=⟨_,rfl⟩;obtain ⟨cb,hcb⟩:∃cb,cb=S.aS n l vr f b (ab ||| c):=⟨_,rfl⟩;rw[<-hca,<-hcb] at hb ⊢;rw[if_neg (by simp[eC])];have hw:w64 (x+1)=x+1:=an (by omega) (by omega);rw[hw];have key:(S.bw (S.ax n l vr size f) n w (S.aa n c) a b (ab ||| c) ([],x+1) k).2=([],x+1+((k*(ca+cb):Nat):Int)):=by refine vH (rec:=S.ax n l vr size f) (st:=([],x+1)) (P:=λj s=>s.2=([],x+1+((j*(ca+cb):Nat):Int))) (by simp) ?_;intro j s hj p;have hm1:(j+1)*(ca+cb)<=k*(ca+cb):=Nat.mul_le_mul_right _ (by omega);have hm2:(j+1)*(ca+cb)=j*(ca+cb)+(ca+cb):=Nat.succ_mul _ _;rw[p];have A:=tc (vr:=vr) hs hl f a (S.aw n w (S.aa n c) j) (ab ||| c) (x+1+((j*(ca+cb):Nat):Int)) (by omega) (by omega) (by omega) (by rw[<-hca];omega);rw[A,<-hca];have B:=tc (vr:=vr) hs hl f b (S.aw n w (S.aa n c) j) (ab ||| c) (x+1+((j*(ca+cb):Nat):Int)+(ca:Int)) (by omega) (by omega) (by omega) (by rw[<-hcb];omega);rw[B,<-hcb,hm2];refine Prod.ext rfl ?_;show _+_=_;omega
   rw[key];rw[if_neg (by simp;omega)];refine Prod.ext rfl ?_;show _+_=_;omega
  ·rw[if_neg hx] at hb ⊢;rw[if_neg hx];have hw:w64 (x+1)=x+1:=an (by omega) (by omega);rw[hw];rfl
end Hx
end
section
namespace Hx
open Go
theorem Cs {p q:Nat->Bool}(hpq:∀v,p v=true->q v=false)(F:Nat->Int):∀L:List Nat,S.ae ((L.filter λv=>p v || q v).map F)=S.ae ((L.filter p).map F)*S.ae ((L.filter q).map F)
 | []=>by simp[S.ae]
 | v::r=>by
  have ih:=Cs hpq F r;cases hp:p v with
  | true =>
   have hq:=hpq v hp;rw[List.filter_cons_of_pos (by simp[hp]),List.filter_cons_of_pos hp,List.filter_cons_of_neg (by simp[hq]),List.map_cons,List.map_cons,bD,bD,ih,Int.mul_assoc]
  | false =>
   cases hq:q v with
   | true=>rw[List.filter_cons_of_pos (by simp[hq]),List.filter_cons_of_neg (by simp[hp]),List.filter_cons_of_pos hq,List.map_cons,List.map_cons,bD,bD,ih,Int.mul_left_comm]
   | false=>rw[List.filter_cons_of_neg (by simp[hp,hq]),List.filter_cons_of_neg (by simp[hp]),List.filter_cons_of_neg (by simp[hq]),ih]
theorem NF {n:Net}(hr:NR n){a c:Nat}(h:∀v,a.testBit v=true->c.testBit v=false):S.aC n (S.aa n (a ||| c))=S.aC n (S.aa n a)*S.aC n (S.aa n c):=by
 obtain ⟨-,-,W1⟩:=(qi hr (a ||| c)).nc;obtain ⟨-,-,W2⟩:=(qi hr a).nc;obtain ⟨-,-,W3⟩:=(qi hr c).nc;have e:S.aa n (a ||| c)=(List.range n.nodes.length).filter λv=>a.testBit v || c.testBit v:=by rw[S.aa];exact List.filter_congr λv _=>da a c v
 have h1:((S.aC n (S.aa n (a ||| c)):Nat):Int)=((S.aC n (S.aa n a):Nat):Int)*((S.aC n (S.aa n c):Nat):Int):=by show ((S.nc (S.aT n (S.aa n (a ||| c))):Nat):Int)=((S.nc (S.aT n (S.aa n a)):Nat):Int)*((S.nc (S.aT n (S.aa n c)):Nat):Int);rw[W1,W2,W3,e];exact Cs h _ _
 exact_mod_cast h1
theorem t5 {n:Net}{l:List Sp}{vr:List Nat}(hr:NR n)(hl:LEl n l):∀(f i ab:Nat),i<f->i<l.length->S.aS n l vr f i ab*S.aC n (S.aa n ab)<=S.bp l i*65536
 | 0,i,ab,h,_=>by omega
 | f+1,i,ab,h,hi=>by
  have hp:=(zl hr ab).2;rw[S.aS]
  by_cases hx:(S.sp l i).1 = -1
  ·rw[if_pos hx];obtain ⟨y1,y2,y3,y4⟩:=hl.j i hi hx;dsimp only;obtain ⟨c,hc⟩:∃c,c=S.am (vr[(S.sp l i).2.1.toNat]?.getD 0 &&& vr[(S.sp l i).2.2.toNat]?.getD 0) ab:=⟨_,rfl⟩;rw[<-hc];have A:=t5 (vr:=vr) hr hl f (S.sp l i).2.1.toNat (ab ||| c) (by omega) (by omega);have B:=t5 (vr:=vr) hr hl f (S.sp l i).2.2.toNat (ab ||| c) (by omega) (by omega);rw[NF hr (λv hv=>by rw[hc,e_,hv];simp)] at A B;rw[wy hl hi hx];obtain ⟨x,hxx⟩:∃x,x=S.aS n l vr f (S.sp l i).2.1.toNat (ab ||| c):=⟨_,rfl⟩;obtain ⟨y,hy⟩:∃y,y=S.aS n l vr f (S.sp l i).2.2.toNat (ab ||| c):=⟨_,rfl⟩;rw[<-hxx] at A ⊢;rw[<-hy] at B ⊢;obtain ⟨P,hP⟩:∃P,P=S.aC n (S.aa n ab):=⟨_,rfl⟩;obtain ⟨Q,hQ⟩:∃Q,Q=S.aC n (S.aa n c):=⟨_,rfl⟩;rw[<-hP,<-hQ] at A B;rw[<-hP] at hp;rw[<-hP,<-hQ];have e:(1+Q*(x+y))*P=P+(x*(P*Q)+y*(P*Q)):=by rw[Nat.add_mul,Nat.one_mul,<-Nat.add_mul x y,Nat.mul_comm Q (x+y),Nat.mul_assoc,Nat.mul_comm Q P]
   rw[e];omega
  ·rw[if_neg hx,wz hx];omega
theorem EP {n:Net}{e:List Int}{l:List Sp}(hr:NR n)(hl:LCk n l):S.aS n l (S.vr n e l) l.length (l.length - 1) 0<=l.length*65536:=by
 have hl1:=hr.l1;have hlen:=hl.len;have h:=t5 (vr:=S.vr n e l) hr hl.el l.length (l.length - 1) 0 (by omega) (by omega);rw[wA hl (by omega)] at h;have e1:S.aC n (S.aa n 0)=1:=by
  have:S.aa n 0=[]:=by simp[S.aa]
  rw[this];rfl
 rw[e1,Nat.mul_one] at h;exact h
theorem Ec {n:Net}{e:List Int}{l:List Sp}(hr:NR n)(hl:LCk n l)(size:Int):(l.length:Int)<=(S.bo n e l size).2.2/\(S.bo n e l size).2.2<=(S.bo n e l 0).2.2/\(S.bo n e l 0).2.2<=983040:=by
 have hl1:=hr.l1;have hl2:=hr.l2;have hlen:=hl.len;have hb:=EP (e:=e) hr hl;have C:=Az (vr:=S.vr n e l) (size:=size) hr hl l.length (l.length - 1) e 0 ([],0) (by omega) (by omega) (by simp) (by simp;omega);have Z:=tc (vr:=S.vr n e l) (size:=0) (by decide) hl.el l.length (l.length - 1) e 0 0 (by omega) (by omega) (by simp) (by simp;omega);have h1:=C.ab λ_ _ _=>by simp[eC]
 have h2:=C.hi;rw[wA hl (by omega)] at h1;dsimp only at h1 h2;have e0:(S.bo n e l 0).2=([],0+((S.aS n l (S.vr n e l) l.length (l.length - 1) 0:Nat):Int)):=Z;have e1:(S.bo n e l size).2=(S.ax n l (S.vr n e l) size l.length (l.length - 1) e 0 ([],0)).2:=rfl;rw[e0,e1];dsimp only;omega
theorem Ed {n:Net}{e:List Int}{l:List Sp}(hr:NR n)(hl:LCk n l)(he:∀v:Nat,e[v]?.getD 0≠-1)(size:Int):(S.bo n e l size).2.2=(l.length:Int):=by
 have hl1:=hr.l1;have hl2:=hr.l2;have hlen:=hl.len;obtain ⟨h1,h2,h3⟩:=Ec (e:=e) hr hl size;have hv:∀i,i<l.length->(S.vr n e l)[i]?.getD 0=0:=λi hi=>Nat.eq_of_testBit_eq λv=>by
  rw[Nat.zero_testBit];cases hb:((S.vr n e l)[i]?.getD 0).testBit v with
  | false=>rfl
  | true=>exact absurd (tF hr hl.el i hi v hb) (he v)
 have key:∀(f i:Nat),i<f->i<l.length->S.aS n l (S.vr n e l) f i 0=S.bp l i:=by
  intro f
  induction f with
  | zero=>intro i h;omega
  | succ f ih =>
   intro i h hi;rw[S.aS]
   by_cases hx:(S.sp l i).1 = -1
   ·rw[if_pos hx,wy hl.el hi hx];obtain ⟨y1,y2,y3,y4⟩:=hl.el.j i hi hx;rw[hv _ (show (S.sp l i).2.1.toNat<l.length by omega),hv _ (show (S.sp l i).2.2.toNat<l.length by omega)];have e1:S.am (0 &&& 0) 0=0:=by decide
    have e2:S.aa n 0=[]:=by simp[S.aa]
    have e3:S.aC n []=1:=rfl;dsimp only;rw[e1,e2,e3,Nat.or_self,ih _ (by omega) (by omega),ih _ (by omega) (by omega)];omega
   ·rw[if_neg hx,wz hx]
 have Z:=tc (vr:=S.vr n e l) (size:=0) (by decide) hl.el l.length (l.length - 1) e 0 0 (by omega) (by omega) (by simp) (by have:=EP (e:=e) hr hl;simp;omega);have e0:(S.bo n e l 0).2=([],0+((S.aS n l (S.vr n e l) l.length (l.length - 1) 0:Nat):Int)):=Z;rw[key _ _ (by omega) (by omega),wA hl (by omega)] at e0;rw[e0] at h2;dsimp only at h2;omega
end Hx
end
section
namespace Hx
open Go
noncomputable section
def S.be (n:Net)(e:List Int)(l:List Sp)(size:Int):QI×Int×Int :=
 if S.bh n e=0 then
  if S.aX n l=0 then
   if 0<=size/\size<=1000 then (S.an (S.aV n e).toNat (S.bQ n).toNat,(S.bo n e l size).2.2,0) else ((0,0),0,2)
  else ((0,0),0,S.aX n l)
 else ((0,0),0,S.bh n e)
def PrV (n:Net)(e:List Int)(l:List Sp)(size:Int):VS:=Oe (Agg (S.be n e l size).1) (One (S.be n e l size).2.1) (One (S.be n e l size).2.2)
theorem uv {n:Net}(hr:NR n):1<=S.bQ n/\S.bQ n<=167961600000000 :=
 ⟨qC λx hx=>by rw[List.eq_of_mem_replicate hx];exact hr.g1,(AB hr _ hr.l2).2⟩
theorem G8 {n:Net}{e:List Int}{l:List Sp}(hr:NR n)(hl:LEl n l){i:Nat}(hi:i<l.length)(ab:List Nat):Wo (S.vr n e l) ab e i:=λv hv _=>by
 have:=tF hr hl i hi v hv;cases h:e[v]? with
 | none=>rw[h] at this;cases this
 | some x=>rw[h,Option.getD_some] at this;rw[this]
theorem HZ {n:Net}{l:List Sp}(h:S.aX n l=0):LCk n l:=by
 unfold S.aX at h
 split at h
 ·split at h
  ·rename_i h2;exact Jg h2
  ·cases h
 ·cases h
theorem tg {n:Net}{e:List Int}{l:List Sp}{size E:Int}{P:Nat->Prop}{h:H}(he:S.be n e l size=((0,0),0,E)):PrV n e l size P 0 h (.tup [.agg [.int .i64 0,.int .i64 0],.int .i64 0,.int .i64 E]):=by unfold PrV;rw[he];exact ⟨_,_,_,rfl,j7.2 rfl,bc.2 rfl,bc.2 rfl⟩
theorem Ib {d k:Nat}{g:G}{P:Nat->Prop}{v w lv:AV}{n:Net}{e:List Int}{l:List Sp}{size:Int}(hd:0<d)(hm:Agg n NoP 0 g.h v)(he:SlR P k g.h e w)(hl:SlR NoP 0 .nil l lv) :
  ax C0 d N.ap [v,w,lv,.int .i64 size] g=.val (.tup [.agg [.int .i64 (S.be n e l size).1.1,.int .i64 (S.be n e l size).1.2],.int .i64 (S.be n e l size).2.1,.int .i64 (S.be n e l size).2.2]):=by
 have key:∃r,ax C0 d N.ap [v,w,lv,.int .i64 size] g=.val r/\PrV n e l size NoP 0 .nil r:=by
  obtain ⟨b,rows,rfl,e1,hm',hN,r1,r2,r3,r4⟩:=qj d hm;obtain ⟨w',e2,hw'⟩:=dV he d;have e3:=ig (h:=g.h) d (hl.tree (h':=g.h) (Nat.le_refl 0));have fw0:fQ [.int .i64 0,.int .i64 0] []=some [.int .i64 0,.int .i64 0]:=rfl;rw[qN];refine bu sJ (xs:=[.agg [.int .i64 n.grain,b],w',lv,.int .i64 size]) (by simp only[aI,e1,e2,e3,iQ 0]) (by simp[iC]) (Kp (m:=2) (dN _) (bj _) (bj _) (by decide) (by decide) (by decide)) (by decide) hd ?_;simp only[sz,simprocAttr,iC,kv];have kc:=λg:G=>HY (d:=d+1) (g:=g) (n:=n) (e:=e) (Nat.succ_pos d) (hm' g.h) (hw' g.h);have kk:=λg:G=>Gu (d:=d+1) (g:=g) (n:=n) (l:=l) (Nat.succ_pos d) (hm' g.h) (hl.tree (h':=g.h) (Nat.le_refl 0));simp only[kc]
  by_cases h0:S.bh n e=0
  ·obtain ⟨hr1,hev⟩:=uG.1 h0;have hr:=li.1 hr1;simp only[sz,simprocAttr,h0,kk]
   by_cases c0:S.aX n l=0
   ·have hL:=HZ c0;simp only[sz,simprocAttr,c0];have hlen:=hL.len;have hl1:=hr.l1;have hl2:=hr.l2;have hnp:=λh=>(S.be.eq_1 n e l size).trans ((if_pos h0).trans ((if_pos c0).trans (if_neg h)));refine eZ (λhb=>?_) (λhb=>?_)
    ·have hb':=of_decide_eq_true hb;simp only[sz,simprocAttr,fw0,hb];exact ⟨λ_=>True,tg (hnp (by omega))⟩
    have hb':=of_decide_eq_false hb;simp only[sz,simprocAttr,hb];refine eZ (λhb2=>?_) (λhb2=>?_)
    ·have hb2':=of_decide_eq_true hb2;simp only[sz,simprocAttr,fw0,hb,hb2];exact ⟨λ_=>True,tg (hnp (by omega))⟩
    have hb2':=of_decide_eq_false hb2;have hpp:S.be n e l size=(S.an (S.aV n e).toNat (S.bQ n).toNat,(S.bo n e l size).2.2,0):=(S.be.eq_1 n e l size).trans ((if_pos h0).trans ((if_pos c0).trans (if_pos (by omega))));have h00:0<l.length:=by omega
    simp only[sz,simprocAttr,hb,hb2];refine Aw hr hN hl hL.el (by omega) hw' (pF hev).1 λg1 pq pv pm pc px hC hS hV hF hpq=>?_;simp only[sz,simprocAttr];refine L8 (vr:=S.vr n e l) (Nat.succ_pos d) hC (Nz hr hL.el) (Ku hL.el hL.uq h00) h00 hS (EX hev) hV (G8 hr hL.el (by omega) _) λg2 hS2 hF2=>?_;obtain ⟨st,hst⟩:∃st,st=S.bo n e l size:=⟨_,rfl⟩;have hst':S.ax n l (S.vr n e l) size l.length (l.length - 1) e 0 ([],0)=st:=hst.symm;rw[hst'] at hS2 ⊢;have hnum:=Kt hr hL hev size;rw[<-hst] at hnum hpp;have hm0:=ji hr e;have hw0:=uv hr;obtain ⟨ms,hms⟩:=Int.eq_ofNat_of_zero_le hm0.1;obtain ⟨wh,hwh⟩:=Int.eq_ofNat_of_zero_le (show 0<=S.bQ n by omega);have kw:=λg=>HA (d:=d+1) (g:=g) (gr:=n.grain) (m:=n.nodes.length) (by omega) ⟨by have:=hr.g1;omega,hr.g2⟩ hl2;rw[show S.ae (List.replicate n.nodes.length n.grain)=(wh:Int) from hwh] at kw;have kr:=λg=>J0 (d:=d+1) (g:=g) (x:=ms) (y:=wh) (by omega) (by omega) (by omega) (by omega);have hnl:∀g:G,eB .slice b g=.val (.int .i64 (n.nodes.length:Int)):=λg=>hN.len g;have eq2:=hS2.q;have k1:g1.h.get 1=.cells 2 [[.int .i64 0,.int .i64 0]] 0 false false:=by rw[hF.fr 1 (by simp[show G.empty.nx=0 from rfl]) id];simp[H.get_put,show G.empty.nx=0 from rfl]
    have n1:2<=g1.nx:=by have:=hF.nx;simp[show G.empty.nx=0 from rfl] at this;omega
    have p1:2<=pq:=by simp[show G.empty.nx=0 from rfl] at hpq;omega
    have k2:g2.h.get 1=.cells 2 [[.int .i64 0,.int .i64 0]] 0 false false:=by
     rw[hF2.fr 1 (by omega) ?_,k1];rintro (h | h | h)
     ·obtain ⟨-,lo,h2⟩:=hV;rw[<-h,k1] at h2;injection h2 with h3;cases h3
     ·simp[show G.empty.nx=0 from rfl] at hpq;omega
     ·have h2:=hS.m;rw[<-h,k1] at h2;cases h2
    have fw2:fQ [.int .i64 0,.int .i64 0] [((0,1),.int .i64 (S.an ms wh).1),((1,1),.int .i64 (S.an ms wh).2)]=some [.int .i64 (S.an ms wh).1,.int .i64 (S.an ms wh).2]:=rfl;simp only[sz,simprocAttr,sf,hnum,hms,eq2,srO,bm,kw,kr,hnl,k2,uc,ub];refine ⟨?_,⟨λ_=>True,?_⟩⟩
    ·simp only[List.reverse_cons,List.reverse_nil,List.nil_append,List.cons_append];refine aF [false,false,false,false,false,false,false,false,false,false,false,false,false,false,false,false,false,false,true,false,false] [(14,18),(15,18),(16,18),(17,18)] (by simp[All2,ac,ay]) (by decide) ?_;rintro p hp' x y hx hy;simp only[List.mem_cons,List.not_mem_nil,or_false] at hp';rcases hp' with rfl | rfl | rfl | rfl<;>(simp at hx hy;subst hx;subst hy;refine bV rfl rfl rfl rfl ?_ ?_ ?_<;>simp[ac,ay,af]<;>omega)
    ·rw[hpp,hms,hwh];exact ⟨_,_,_,rfl,j7.2 rfl,bc.2 rfl,bc.2 rfl⟩
   ·have hp:S.be n e l size=((0,0),0,S.aX n l):=by rw[S.be,if_pos h0,if_neg c0]
    simp only[sz,simprocAttr,c0,fw0];exact ⟨λ_=>True,tg hp⟩
  ·have hp:S.be n e l size=((0,0),0,S.bh n e):=by rw[S.be,if_neg h0]
   simp only[sz,simprocAttr,h0,fw0];exact ⟨λ_=>True,tg hp⟩
 obtain ⟨r,hr,a,b,c,rfl,h1,h2,h3⟩:=key;have h2:=bc.1 h2;injection h2 with h2;have h3:=bc.1 h3;injection h3 with h3;rw[hr,j7.1 h1,h2,h3]
theorem K_ {n:Nat}(i:Nat)(h:n<1000000000000000000000000000000000000000000000000):(S.dg n).length - i=(S.dg (n / 10000 ^ i)).length:=by rw[<-zT i n h,List.length_drop]
theorem Mw {n:Nat}(i:Nat)(h:n<1000000000000000000000000000000000000000000000000):i<(S.dg n).length↔n / 10000 ^ i≠0:=by
 have h1:=K_ i h;have h2:n / 10000 ^ i<=n:=Nat.div_le_self _ _;constructor
 ·intro hi e;rw[e,iT] at h1;simp at h1;omega
 ·intro hne;have:=Bu hne (by omega);omega
theorem Ka {d:Nat}{g:G}{v w:AV}{x y:Nat}(hd:0<d)(hv:IT 0 (S.dg x) v)(hw:IT 0 (S.dg y) w)(hxy:x+y<1000000000000000000000000000000000000000000000000) :
  ∃r,ax C0 d N.aN [v,w] g=.val r/\IT 0 (S.dg (x+y)) r:=by
 rw[uQ];refine bu yl (xs:=[v,w]) (by simp only[aI,ig d (hv.sl g.h),ig d (hw.sl g.h)]) (by simp[n9]) (bj _) (by decide) hd ?_;have n1:=λg=>(hv.sl .nil).len g;have n2:=λg=>(hw.sl .nil).len g;have ra:=λh=>(hv.sl h).ints;have rb:=λh=>(hw.sl h).ints;have hl5:=dE (x+y);simp only[sz,simprocAttr,n9];refine fI (λk t df g=>df=[]/\∃(i c:Nat) (u:AV) (L:List Int),k=c+x / 10000 ^ i+y / 10000 ^ i/\k<=x+y/\c<=1/\L.length=i/\L++S.dg k=S.dg (x+y)/\Own g 0 u 1 (L.map ci)/\St t [(0,v),(1,w),(5,u),(6,.int .i64 (c:Int)),(7,.int .i64 (i:Int))]) (x+y)
  ⟨rfl,0,0,.nils,[],by simp,Nat.le_refl _,by omega,rfl,rfl,.inl ⟨rfl,rfl⟩,by simp[sx,St]⟩ ?_
 rintro k t df g ⟨rfl,i,c,u,L,hk,hkm,hc,hLi,hL,hu,⟨h0,h1,h5,h6,h7,-⟩⟩;have hln:L.length+(S.dg k).length=(S.dg (x+y)).length:=by rw[<-hL,List.length_append]
 have ix:=Mw i (show x<1000000000000000000000000000000000000000000000000 by omega);have iy:=Mw i (show y<1000000000000000000000000000000000000000000000000 by omega);have gx:=nU i x (by omega);have gy:=nU i y (by omega);have sx':=mX x i;have sy':=mX y i;have mx:=Nat.mod_lt (x / 10000 ^ i) (show 0<10000 by decide);have my:=Nat.mod_lt (y / 10000 ^ i) (show 0<10000 by decide);have lx:=dE x;have ly:=dE y;have hx0:x / 10000 ^ i=0->x / 10000 ^ i % 10000=0:=λh=>by rw[h]
 have hy0:y / 10000 ^ i=0->y / 10000 ^ i % 10000=0:=λh=>by rw[h]
 obtain ⟨X1,hX1⟩:∃X1,X1=x / 10000 ^ (i+1):=⟨_,rfl⟩;obtain ⟨Y1,hY1⟩:∃Y1,Y1=y / 10000 ^ (i+1):=⟨_,rfl⟩;rw[<-hX1] at sx';rw[<-hY1] at sy';generalize x / 10000 ^ i % 10000=a at *;generalize y / 10000 ^ i % 10000=b at *;generalize x / 10000 ^ i=X at *;generalize y / 10000 ^ i=Y at *;have cxI:decide ((i:Int)<((S.dg x).length:Int))=decide (X≠0):=decide_eq_decide.2 (by rw[<-ix];omega);have cyI:decide ((i:Int)<((S.dg y).length:Int))=decide (Y≠0):=decide_eq_decide.2 (by rw[<-iy];omega);simp only[o5]
 by_cases hk0:k=0
 ·have hX:X=0:=by omega
  have hY:Y=0:=by omega
  have hc0:c=0:=by omega
  subst hk0;subst hc0;rw[iT,List.append_nil] at hL;subst hL;have e1:decide ((i:Int)<((S.dg x).length:Int))=false:=by rw[cxI];simp[hX]
  have e2:decide ((i:Int)<((S.dg y).length:Int))=false:=by rw[cyI];simp[hY]
  have e1:¬((i:Int)<((S.dg x).length:Int)):=of_decide_eq_false e1;have e2:¬((i:Int)<((S.dg y).length:Int)):=of_decide_eq_false e2;simp only[sz,simprocAttr,h0,h1,h5,h6,h7,n1,n2,e1,e2,o9];exact ⟨_,hu.ints (by omega)⟩
 have hst:=iS hk0 (by omega);have hll:L.length<(S.dg (x+y)).length:=by rw[hst] at hln;simp at hln;omega
 refine bM (P:=λt' df' g'=>df'=[]/\g'=g/\St t' [(0,v),(1,w),(5,u),(6,.int .i64 (c:Int)),(7,.int .i64 (i:Int))]) ?_ ?_
 ·by_cases hX:X=0
  ·have e1:¬((i:Int)<((S.dg x).length:Int)):=by have:=mt ix.1;omega
   by_cases hY:Y=0
   ·have e2:¬((i:Int)<((S.dg y).length:Int)):=by have:=mt iy.1;omega
    have e3:(0:Int)<(c:Int):=by omega
    simp only[sz,simprocAttr,h0,h1,h5,h6,h7,n1,n2,e1,e2,e3];simp[St,sx,h0,h1,h5,h6,h7]
   ·have e2:(i:Int)<((S.dg y).length:Int):=by have:=iy.2 hY;omega
    simp only[sz,simprocAttr,h0,h1,h5,h6,h7,n1,n2,e1,e2];simp[St,sx,h0,h1,h5,h6,h7]
  ·have e1:(i:Int)<((S.dg x).length:Int):=by have:=ix.2 hX;omega
   simp only[sz,simprocAttr,h0,h1,h5,h6,h7,n1,n2,e1];simp[St,sx,h0,h1,h5,h6,h7]
 clear h0 h1 h5 h6 h7;rintro t df g' ⟨rfl,rfl,h0,h1,h5,h6,h7,-⟩;have hks:k=c+a+b+10000*(X1+Y1):=by omega
 have km:k % 10000=(c+a+b) % 10000:=by omega
 have kd:k / 10000=(c+a+b) / 10000+X1+Y1:=by omega
 have kl:k / 10000<k:=Nat.div_lt_self (by omega) (by decide);have hc1:(c+a+b) / 10000<=1:=by omega
 refine bM (P:=λt' df' g''=>df'=[]/\∃u',Own g'' 0 u' 1 ((L++[(((c+a+b) % 10000:Nat):Int)]).map ci)/\St t' [(0,v),(1,w),(5,u'),(6,.int .i64 (((c+a+b) / 10000:Nat):Int)),(7,.int .i64 (i:Int))]) ?_ ?_
 ·rw[A0];refine bM (P:=λt' df' g''=>df'=[]/\g''=g'/\St t' [(0,v),(1,w),(5,u),(6,.int .i64 ((c+a:Nat):Int)),(7,.int .i64 (i:Int))]) ?_ ?_
  ·have w1:IntKind.wrap .i64 ((c:Int)+(a:Int))=((c+a:Nat):Int):=by rw[an (by omega) (by omega)];omega
   by_cases hX:X=0
   ·have e1:¬((i:Int)<((S.dg x).length:Int)):=by have:=mt ix.1;omega
    have ha:a=0:=hx0 hX;simp only[sz,simprocAttr,h0,h1,h5,h6,h7,n1,n2,e1];simp[St,sx,h0,h1,h5,h6,h7,ha]
   ·have e1:(i:Int)<((S.dg x).length:Int):=by have:=ix.2 hX;omega
    have q1:i<((S.dg x).map ci).length:=by simp;omega
    have q2:((S.dg x).map ci)[i]?=some (ci (a:Int)):=by rw[List.getElem?_map,List.getElem?_eq_getElem (by omega)];rw[List.getElem?_eq_getElem (by omega),Option.getD_some] at gx;rw[gx];rfl
    simp only[sz,simprocAttr,h0,h1,h5,h6,h7,n1,n2,e1,ra,q1,q2,ci,w1];simp[St,sx,h0,h1,h5,h6,h7]
  clear h0 h1 h5 h6 h7;rintro t df g'' ⟨rfl,rfl,h0,h1,h5,h6,h7,-⟩;simp only[o7];refine bM (P:=λt' df' g3=>df'=[]/\g3=g''/\St t' [(0,v),(1,w),(5,u),(6,.int .i64 ((c+a+b:Nat):Int)),(7,.int .i64 (i:Int))]) ?_ ?_
  ·have w1:IntKind.wrap .i64 (((c+a:Nat):Int)+(b:Int))=((c+a+b:Nat):Int):=by rw[an (by omega) (by omega)];omega
   by_cases hY:Y=0
   ·have e1:¬((i:Int)<((S.dg y).length:Int)):=by have:=mt iy.1;omega
    have hb:b=0:=hy0 hY;simp only[sz,simprocAttr,h0,h1,h5,h6,h7,n1,n2,e1];simp[St,sx,h0,h1,h5,h6,h7,hb]
   ·have e1:(i:Int)<((S.dg y).length:Int):=by have:=iy.2 hY;omega
    have q1:i<((S.dg y).map ci).length:=by simp;omega
    have q2:((S.dg y).map ci)[i]?=some (ci (b:Int)):=by rw[List.getElem?_map,List.getElem?_eq_getElem (by omega)];rw[List.getElem?_eq_getElem (by omega),Option.getD_some] at gy;rw[gy];rfl
    simp only[sz,simprocAttr,h0,h1,h5,h6,h7,n1,n2,e1,rb,q1,q2,ci,w1];simp[St,sx,h0,h1,h5,h6,h7]
  clear h0 h1 h5 h6 h7;rintro t df g3 ⟨rfl,rfl,h0,h1,h5,h6,h7,-⟩;obtain ⟨s,hs⟩:∃s,s=c+a+b:=⟨_,rfl⟩;rw[<-hs] at h6 ⊢;have m1:bA .rem (.int .i64 (s:Int)) (.int .i64 10000)=.val (.int .i64 ((s % 10000:Nat):Int)):=tu (x:=s) (y:=10000) (by decide);have m2:bA .quo (.int .i64 (s:Int)) (.int .i64 10000)=.val (.int .i64 ((s / 10000:Nat):Int)):=oy (x:=s) (y:=10000) (by omega) (by decide);simp only[sz,simprocAttr,o6,h5,h6,m1];refine aZ (new:=[ci ((s % 10000:Nat):Int)]) (hu.step (Fr.new _ _)) (by simp[sx,sy,ci]) (by simp<;>omega) (by simp[aW]<;>omega) λv2 g2 hv2 n2 f2 _ l2=>?_;simp only[sz,simprocAttr,h6,m2];exact ⟨v2,by simpa using hv2,by simp[St,sx,h0,h1,h7]⟩
 clear h0 h1 h5 h6 h7;rintro t df g'' ⟨rfl,u',hu',h0,h1,h5,h6,h7,-⟩;have wi:IntKind.wrap .i64 ((i:Int)+1)=((i+1:Nat):Int):=by rw[an (by omega) (by omega)];omega
 simp only[sz,simprocAttr,o8,h7,wi];refine ⟨k / 10000,kl,i+1,(c+a+b) / 10000,u',L++[(((c+a+b) % 10000:Nat):Int)],by rw[kd,hX1,hY1],by omega,hc1,by simp[hLi],?_,hu',by simp[St,sx,h0,h1,h5,h6]⟩;rw[List.append_assoc,List.singleton_append,<-km,<-hst,hL]
theorem Do {n d c w:Nat}(hc:Nat.Coprime n d)(hd:0<d)(hw:0<w)(h:n*w=c*d):S.an c w=((n:Int),(d:Int)):=by
 have h1:d ∣ n*w:=⟨c,by rw[h,Nat.mul_comm]⟩;obtain ⟨k,hk⟩:=hc.symm.dvd_of_dvd_mul_left h1;have hk0:0<k:=Nat.pos_of_ne_zero λe=>by rw[e,Nat.mul_zero] at hk;omega
 have hcn:c=n*k:=by
  have:c*d=n*k*d:=by rw[<-h,hk,Nat.mul_assoc,Nat.mul_comm k d]
  exact Nat.eq_of_mul_eq_mul_right hd this
 have hg:Nat.gcd c w=k:=by rw[hcn,hk,Nat.gcd_mul_right,show Nat.gcd n d=1 from hc,Nat.one_mul]
 unfold S.an;rw[hg,hcn,hk,Nat.mul_div_cancel _ hk0,Nat.mul_div_cancel _ hk0]
theorem LC {c s w n d:Nat}{u u' v v':Nat}(w0:0<w)(u0:0<u')(v0:0<v')(e1:u*w=c*u')(e2:v*w=s*v')(hc:Nat.Coprime n d)(hd:0<d)(h:n*(u'*v')=(u*v'+v*u')*d):S.an (c+s) w=((n:Int),(d:Int)):=by
 refine Do hc hd w0 ?_;refine Nat.eq_of_mul_eq_mul_right (Nat.mul_pos u0 v0) ?_;have a1:n*w*(u'*v')=n*(u'*v')*w:=by ac_rfl
 rw[a1,h];have a2:(u*v'+v*u')*d*w=(u*w*v'+v*w*u')*d:=by rw[Nat.mul_right_comm,Nat.add_mul,Nat.mul_right_comm u,Nat.mul_right_comm v]
 rw[a2,e1,e2];have a3:c*u'*v'+s*v'*u'=(c+s)*(u'*v'):=by rw[Nat.add_mul];ac_rfl
 rw[a3];ac_rfl
theorem ug (c w:Nat)(w0:0<w):∃u u':Nat,S.an c w=((u:Int),(u':Int))/\Nat.gcd u u'=1/\0<u'/\u*w=c*u'/\u<=c/\u'<=w:=by have g0:0<Nat.gcd c w:=Nat.gcd_pos_of_pos_right _ w0;refine ⟨c / Nat.gcd c w,w / Nat.gcd c w,rfl,Nat.gcd_div_gcd_div_gcd_of_pos_right w0,Nat.div_pos (Nat.le_of_dvd w0 (Nat.gcd_dvd_right _ _)) g0,?_,Nat.div_le_self _ _,Nat.div_le_self _ _⟩;obtain ⟨x,hx⟩:=Nat.gcd_dvd_left c w;obtain ⟨y,hy⟩:=Nat.gcd_dvd_right c w;generalize Nat.gcd c w=z at *;subst hx;subst hy;rw[Nat.mul_div_cancel_left _ g0,Nat.mul_div_cancel_left _ g0];ac_rfl
theorem IW {α:Type} [Rp α]{k:Nat}{h h':H}{l:List α}{v:AV}(hv:SlR NoP k h l v)(n:Nat):aw h' (n+1) v=[]:=by
 have r:=hv.2;unfold SlV at r
 split at r
 ·rfl
 ·rfl
 ·rfl
 ·exact r.1.elim
 ·exact r.elim
theorem Jp {a b w u u' v v':Nat}(w0:0<w)(u0:0<u')(v0:0<v')(e1:u*w=a*u')(e2:v*w=b*v'):S.an (u*v'+v*u') (u'*v')=S.an (a+b) w:=by
 have y0:0<u'*v':=Nat.mul_pos u0 v0;have g0:0<Nat.gcd (u*v'+v*u') (u'*v'):=Nat.gcd_pos_of_pos_right _ y0;symm;refine LC w0 u0 v0 e1 e2 (Nat.gcd_div_gcd_div_gcd_of_pos_right y0) (Nat.div_pos (Nat.le_of_dvd y0 (Nat.gcd_dvd_right _ _)) g0) ?_;obtain ⟨x,hx⟩:=Nat.gcd_dvd_left (u*v'+v*u') (u'*v');obtain ⟨y,hy⟩:=Nat.gcd_dvd_right (u*v'+v*u') (u'*v');generalize Nat.gcd (u*v'+v*u') (u'*v')=z at *;have h1:(u*v'+v*u') / z=x:=by rw[hx,Nat.mul_div_cancel_left _ g0]
 have h2:u'*v' / z=y:=by rw[hy,Nat.mul_div_cancel_left _ g0]
 rw[h1,h2,hx,hy];ac_rfl
theorem Hh {d:Nat}{g:G}{v w:AV}{x y:Nat}(hd:0<d)(hv:IT 0 (S.dg x) v)(hw:IT 0 (S.dg y) w)(hx:x*10000<1000000000000000000000000000000000000000000000000)(hy0:0<y)(hy:y*10000<1000000000000000000000000000000000000000000000000)(hx2:x / Nat.gcd x y<=4611686018427387903)(hy2:y / Nat.gcd x y<=4611686018427387903) :
  ax C0 d N.ac [.bool false,v,w] g=.val (.tup [.agg [.int .i64 (S.an x y).1,.int .i64 (S.an x y).2],.bool true]):=by
 have key:∃r,ax C0 d N.ac [.bool false,v,w] g=.val r/\zG (Agg (S.an x y)) (One true) NoP 0 .nil r:=by obtain ⟨g0,g1,g2,g3⟩:=ud (x:=x) hy0;have hx':x<1000000000000000000000000000000000000000000000000:=Nat.lt_of_le_of_lt (Nat.le_mul_of_pos_right x (by decide)) hx;have hy':y<1000000000000000000000000000000000000000000000000:=Nat.lt_of_le_of_lt (Nat.le_mul_of_pos_right y (by decide)) hy;have hgy:=Nat.lt_of_le_of_lt (Nat.mul_le_mul_right 10000 g1) hy;rw[oQ];refine bu qV (xs:=[.bool false,v,w]) (by simp only[aI,Ba 0,ig d (hv.sl g.h),ig d (hw.sl g.h)]) (by simp[gW]) (jm (m:=2) (dN _) (bj _) (by decide) (by decide)) (by decide) hd ?_;simp only[sz,simprocAttr,gW,kH];refine bi (AG (Nat.succ_pos d) hv hw hx hy) λr hr=>?_;simp only[sz,simprocAttr];refine bi (lw (Nat.succ_pos d) (hv.sl _) (hr.sl _) hx' g0 hgy) ?_;rintro _ ⟨r1,r2,rfl,⟨_,h3,h4⟩,-⟩;injection h3 with h3;subst h3;simp only[sz,simprocAttr];refine bi (lw (Nat.succ_pos d) (hw.sl _) (hr.sl _) hy' g0 hgy) ?_;rintro _ ⟨r3,r4,rfl,⟨_,h5,h6⟩,-⟩;injection h5 with h5;subst h5;have e1:∀g,ax C0 (d+1) N.af [r1] g=.val (.tup [.int .i64 ((x / Nat.gcd x y:Nat):Int),.bool true]):=λg=>qJ (Nat.succ_pos d) (h4.tree (h':=g.h) (Nat.le_refl _)) hx2;have e2:∀g,ax C0 (d+1) N.af [r3] g=.val (.tup [.int .i64 ((y / Nat.gcd x y:Nat):Int),.bool true]):=λg=>qJ (Nat.succ_pos d) (h6.tree (h':=g.h) (Nat.le_refl _)) hy2;simp only[sz,simprocAttr,e1,e2,jx];exact ⟨λ_=>True,_,_,rfl,j7.2 rfl,dM.2 rfl⟩
 obtain ⟨z,h1,a,b,rfl,h2,h3⟩:=key;have h3:=dM.1 h3;injection h3 with h3;rw[h1,j7.1 h2,h3]
theorem Cx {d:Nat}{g:G}{x y:Nat}(hd:0<d)(hx:x<=4611686018427387903)(hy0:0<y)(hy:y<=4611686018427387903)(hg:Nat.gcd x y=1) :
  ax C0 d N.a_ [.agg [.int .i64 (x:Int),.int .i64 (y:Int)]] g=.val (.bool true):=by
 rw[tR];refine xg wH (xs:=[.agg [.int .i64 (x:Int),.int .i64 (y:Int)]]) (by rfl) (by simp[mz]) hd ?_;have q1:¬((y:Int)<1):=by omega
 have q2:¬((4611686018427387903:Int)<(y:Int)):=by omega
 have q3:¬((4611686018427387903:Int)<(x:Int)):=by omega
 have q4:¬((x:Int) < -4611686018427387903):=by omega
 simp only[sz,simprocAttr,mz,o4,q1,q2,q3,q4];refine bi (di (Nat.succ_pos d) (by omega)) λr1 h1=>?_;simp only[sz,simprocAttr,sf];refine bi (di (Nat.succ_pos d) (by omega)) λr2 h2=>?_;simp only[sz,simprocAttr,sf];refine bi (AG (Nat.succ_pos d) h1 h2 (by omega) (by omega)) λr3 h3=>?_;rw[hg] at h3;simp only[sz,simprocAttr,sf];have hcm:S.bk 1 1=0:=by decide
 have kc:∀(g:G),g.h.get 8=.cells 1 [[.int .i64 1]] 0 false false->8<g.nx->ax C0 (d+1) N.ae [r3,.hsl 8 0 0 1 none] g=.val (.int .i64 0):=λg h8 n8=>by have ho:Own g 0 (.hsl 8 0 0 1 none) 1 ((S.dg 1).map ci):=.inr ⟨8,0,false,Nat.zero_le _,n8,rfl,h8⟩;obtain ⟨w',hw',hs⟩:=ho.ints (k:=0) (by have:=dE 1;omega);injection hw' with hw';subst hw';rw[rB (Nat.succ_pos d) (h3.sl _) hs (by omega) (by omega),hcm]
 have i1:∀(h:H) (r:AV) (z:Nat),IT 0 (S.dg z) r->aw h aD r=[]:=λh r z hr=>IW (hr.sl .nil) _;have si:∀(h:H) (z:Int),aw h aD (.int .i64 z)=[]:=λ_ _=>rfl;have j1:=λh=>i1 h r1 _ h1;have j2:=λh=>i1 h r2 _ h2;have j3:=λh=>i1 h r3 _ h3;rw[kc _ (by simp[show G.empty.nx=0 from rfl,H.get_put]) (by simp[show G.empty.nx=0 from rfl])];simp only[sz,simprocAttr,sf,sT,wQ,rL,j1,j2,j3];simp only[List.reverse_cons,List.reverse_nil,List.nil_append,List.cons_append];refine aF [false,false,false,false,false,false,false,true,false,false,false] [(0,7),(1,7),(2,7),(3,7),(4,7),(5,7),(6,7)] (by simp[All2,ac,ay]) (by decide) ?_;rintro p hp' x y hx hy;simp only[List.mem_cons,List.not_mem_nil,or_false] at hp';rcases hp' with rfl | rfl | rfl | rfl | rfl | rfl | rfl<;>(simp at hx hy;subst hx;subst hy;refine bV rfl rfl rfl rfl ?_ ?_ ?_<;>simp[ac,ay,af,show G.empty.nx=0 from rfl,si,j1,j2])
theorem LY {d:Nat}{g:G}{u u' v v':Nat}(hd:0<d)(hu:u<=4611686018427387903)(hv:v<=4611686018427387903)(hu0:0<u')(hv0:0<v')(hu':u'<=4611686018427387903)(hv':v'<=4611686018427387903)
  (hx2:(u*v'+v*u') / Nat.gcd (u*v'+v*u') (u'*v')<=4611686018427387903) (hy2:u'*v' / Nat.gcd (u*v'+v*u') (u'*v')<=4611686018427387903) :
  ax C0 d N.aL [.agg [.int .i64 (u:Int),.int .i64 (u':Int)],.agg [.int .i64 (v:Int),.int .i64 (v':Int)]] g=.val (.tup [.agg [.int .i64 (S.an (u*v'+v*u') (u'*v')).1,.int .i64 (S.an (u*v'+v*u') (u'*v')).2],.bool true]):=by
 have key:∃r,ax C0 d N.aL [.agg [.int .i64 (u:Int),.int .i64 (u':Int)],.agg [.int .i64 (v:Int),.int .i64 (v':Int)]] g=.val r/\zG (Agg (S.an (u*v'+v*u') (u'*v'))) (One true) NoP 0 .nil r:=by
  have m1:u*v'<=4611686018427387903*4611686018427387903:=Nat.mul_le_mul hu hv';have m2:v*u'<=4611686018427387903*4611686018427387903:=Nat.mul_le_mul hv hu';have m3:u'*v'<=4611686018427387903*4611686018427387903:=Nat.mul_le_mul hu' hv';have y0:0<u'*v':=Nat.mul_pos hu0 hv0;have q1:¬((u:Int)<0):=by omega
  have q2:¬((v:Int)<0):=by omega
  have qe:yn false EqKind.bool (AV.bool false) (AV.bool false)=.val (.bool true):=rfl;rw[wg];refine bu zX (xs:=[.agg [.int .i64 (u:Int),.int .i64 (u':Int)],.agg [.int .i64 (v:Int),.int .i64 (v':Int)]]) (by rfl) (by simp[pI]) (jm (m:=2) (dN _) (bj _) (by decide) (by decide)) (by decide) hd ?_;simp only[sz,simprocAttr,pI,qZ];refine bi (di (Nat.succ_pos d) (by omega)) λr1 h1=>?_;simp only[sz,simprocAttr];refine bi (di (Nat.succ_pos d) (by omega)) λr2 h2=>?_;simp only[sz,simprocAttr];refine bi (nK (Nat.succ_pos d) (h1.sl _) (h2.sl _) (x:=u) (y:=v') (by omega) (vq (by omega)) (by have:=dE v';omega) (iV v' (by omega)) (by omega)) λr3 h3=>?_;simp only[sz,simprocAttr];refine bi (di (Nat.succ_pos d) (by omega)) λr4 h4=>?_;simp only[sz,simprocAttr];refine bi (di (Nat.succ_pos d) (by omega)) λr5 h5=>?_;simp only[sz,simprocAttr];refine bi (nK (Nat.succ_pos d) (h4.sl _) (h5.sl _) (x:=v) (y:=u') (by omega) (vq (by omega)) (by have:=dE u';omega) (iV u' (by omega)) (by omega)) λr6 h6=>?_;simp only[sz,simprocAttr];refine bi (di (Nat.succ_pos d) (by omega)) λr7 h7=>?_;simp only[sz,simprocAttr];refine bi (di (Nat.succ_pos d) (by omega)) λr8 h8=>?_;simp only[sz,simprocAttr];refine bi (nK (Nat.succ_pos d) (h7.sl _) (h8.sl _) (x:=u') (y:=v') (by omega) (vq (by omega)) (by have:=dE v';omega) (iV v' (by omega)) (by omega)) λr9 h9=>?_;simp only[sz,simprocAttr,q1,q2,qe];refine bi (Ka (Nat.succ_pos d) h3 h6 (by omega)) λr10 h10=>?_;have e1:∀g,ax C0 (d+1) N.ac [.bool false,r10,r9] g=.val (.tup [.agg [.int .i64 (S.an (u*v'+v*u') (u'*v')).1,.int .i64 (S.an (u*v'+v*u') (u'*v')).2],.bool true]):=λg=>Hh (Nat.succ_pos d) h10 h9 (by omega) y0 (by omega) hx2 hy2;have i1:∀(h:H) (r:AV) (z:Nat),IT 0 (S.dg z) r->aw h aD r=[]:=λh r z hr=>IW (hr.sl .nil) _;have j3:=λh=>i1 h r3 _ h3;have j6:=λh=>i1 h r6 _ h6;have j9:=λh=>i1 h r9 _ h9;have j10:=λh=>i1 h r10 _ h10;have fw:fQ [.int .i64 0,.int .i64 0] [((0,1),.int .i64 (S.an (u*v'+v*u') (u'*v')).1),((1,1),.int .i64 (S.an (u*v'+v*u') (u'*v')).2)]=some [.int .i64 (S.an (u*v'+v*u') (u'*v')).1,.int .i64 (S.an (u*v'+v*u') (u'*v')).2]:=rfl;simp only[sz,simprocAttr,sf,e1,uY,uX,j3,j6,j9,j10];refine ⟨?_,⟨λ_=>True,_,_,rfl,j7.2 rfl,dM.2 rfl⟩⟩;simp only[List.reverse_cons,List.reverse_nil,List.nil_append,List.cons_append];exact aF [false,false,false,false,false,false,false,false,false,false,true,false] [] (by simp[All2,ac,ay]) (by decide) (by simp)
 obtain ⟨z,h1,a,b,rfl,h2,h3⟩:=key;have h3:=dM.1 h3;injection h3 with h3;rw[h1,j7.1 h2,h3]
structure JdH (cu8:List AV) (u w:AV) (lo:List Sp) (op:List Int) (g:G):Prop where
 g0:g.h.get 0=.cells 8 [cu8] 0 false false
 nx:1<=g.nx
 oU:Own g 1 u 3 (lo.map cs3)
 oW:Own g 1 w 1 (op.map ci)
 ds:∀i,vid u=some i->vid w≠some i
set_option maxRecDepth 20000 in
end
end Hx
end
section
namespace Hx
open Go
theorem NE {m:Nat}{L:List Sp}{x:Br}(hm:1<=m)(h:MkI m (L,[x])):S.ck L m=true:=by
 have hln:=h.ln;have hl:L.length=2*m - 1:=by have:L.length+1=2*m:=hln;omega
 obtain ⟨-,-,h3,h4,h5,h6,h7⟩:=h;dsimp only at h3 h4 h5 h6 h7;have unus:∀e,S.ay L L.length e=true->0<=e/\e<(L.length:Int) - 1:=λe he=>by
  obtain ⟨j,hj,hh⟩:=iY.1 he
  by_cases c:m<=j
  ·have:=qf.1 (h4 j c hj).2;omega
  ·have:=h3 j (by omega);rw[this] at hh;have:=hh.1;dsimp only at this;omega
 have hx:x.1=(L.length:Int) - 1:=by obtain ⟨b,hb,hbe⟩:=(h6 ((L.length:Int) - 1)).2 ⟨by omega,by omega,by rw[Bool.eq_false_iff];intro hu;have:=unus _ hu;omega⟩;rw[<-List.mem_singleton.1 hb,hbe]
 simp only[S.ck,Bool.and_eq_true,decide_eq_true_eq,List.all_eq_true,List.mem_range];refine ⟨⟨⟨by omega,λi hi=>?_⟩,λv hv=>sY.2 ⟨v,by omega,by rw[h3 v hv]⟩⟩,λe he=>?_⟩
 ·unfold S.bg
  by_cases c:i<m
  ·rw[h3 i c];have hb:S.aR L i (i:Int)=false:=by rw[Bool.eq_false_iff];intro hu;obtain ⟨j,hj,hh⟩:=sY.1 hu;rw[h3 j (by omega)] at hh;dsimp only at hh;omega
   have hlf:S.bP L m i=true:=xn.2 (by rw[h3 i c];dsimp only;exact ⟨by omega,by omega,rfl,rfl⟩);dsimp only;rw[if_neg (by omega),hlf,hb];rfl
  ·obtain ⟨a1,a2⟩:=h4 i (by omega) hi;have nu:∀e,((S.sp L i).2.1=e\/(S.sp L i).2.2=e)->S.ay L i e=false:=λe hh=>by rw[Bool.eq_false_iff];intro hu;obtain ⟨j,hj,hh2⟩:=iY.1 hu;exact h7 j i e hj hi hh2 ⟨a1,hh⟩
   rw[if_pos a1,a2,nu _ (.inl rfl),nu _ (.inr rfl)];rfl
 ·apply Classical.byContradiction;intro hu;rw[Bool.not_eq_true] at hu;obtain ⟨b,hb,hbe⟩:=(h6 (e:Int)).2 ⟨by omega,by omega,hu⟩;rw[List.mem_singleton.1 hb] at hbe;omega
def S.bc (c n j:Nat):List Sp:=(List.range j).map λv:Nat=>((((v+c) % n:Nat):Int),-1,-1)
theorem ol (c n j:Nat):(S.bc c n j).length=j:=by simp[S.bc]
theorem Jk (c n j:Nat):S.bc c n (j+1)=S.bc c n j++[((((j+c) % n:Nat):Int),-1,-1)]:=by simp[S.bc,List.range_succ]
theorem Nx {c n j:Nat}{js:List Sp}{v:Nat}(hv:v<j):S.sp (S.bc c n j++js) v=((((v+c) % n:Nat):Int),-1,-1):=by rw[oE (by rw[ol];exact hv),S.sp,S.bc];simp[hv]
def S.bm (n:Nat):List Sp:=(List.range n).map λv:Nat=>((v:Int),-1,-1)
theorem qy (n:Nat):(S.bm n).length=n:=by simp[S.bm]
theorem Nv {n:Nat}{js:List Sp}{v:Nat}(hv:v<n):S.sp (S.bm n++js) v=((v:Int),-1,-1):=by rw[oE (by rw[qy];exact hv),S.sp,S.bm];simp[hv]
theorem Mi {a b js:List Sp}{i n:Nat}(ha:a.length=n)(hb:b.length=n)(h:n<=i):S.sp (a++js) i=S.sp (b++js) i:=by rw[S.sp,S.sp,List.getElem?_append_right (by omega),List.getElem?_append_right (by omega),ha,hb]
theorem Nl {n c:Nat}{js:List Sp}(hn:1<=n)(h:S.ck (S.bm n++js) n=true):S.ck (S.bc c n n++js) n=true:=by
 have hl:(S.bc c n n++js).length=(S.bm n++js).length:=by rw[List.length_append,List.length_append,ol,qy]
 have hnl:n<=(S.bm n++js).length:=by rw[List.length_append,qy];omega
 have ht:∀i,n<=i->S.sp (S.bc c n n++js) i=S.sp (S.bm n++js) i:=λi hi=>Mi (ol _ _ _) (qy _) hi;have h1:∀v,v<n->S.sp (S.bc c n n++js) v=((((v+c) % n:Nat):Int),-1,-1):=λv hv=>Nx hv;have h2:∀v,v<n->S.sp (S.bm n++js) v=((v:Int),-1,-1):=λv hv=>Nv hv;obtain ⟨L,hL⟩:∃L,L=S.bc c n n++js:=⟨_,rfl⟩;obtain ⟨L',hL'⟩:∃L',L'=S.bm n++js:=⟨_,rfl⟩;rw[<-hL] at hl ht h1 ⊢;rw[<-hL'] at h hl hnl ht h2;clear hL hL';have hus:∀i e,S.ay L i e=S.ay L' i e:=λi e=>by
  unfold S.ay;rw[Bool.eq_iff_iff,List.any_eq_true,List.any_eq_true];have key:∀j,(decide ((S.sp L j).1 = -1)&&(decide ((S.sp L j).2.1=e) || decide ((S.sp L j).2.2=e)))=(decide ((S.sp L' j).1 = -1)&&(decide ((S.sp L' j).2.1=e) || decide ((S.sp L' j).2.2=e))):=λj=>by
   by_cases cj:j<n
   ·rw[h1 j cj,h2 j cj];dsimp only;rw[decide_eq_false (show ¬((((j+c) % n:Nat):Int) = -1) by omega),decide_eq_false (show ¬((j:Int) = -1) by omega)]
   ·rw[ht j (by omega)]
  simp only[key]
 simp only[S.ck,Bool.and_eq_true,decide_eq_true_eq,List.all_eq_true,List.mem_range] at h ⊢;obtain ⟨⟨⟨a1,a2⟩,a3⟩,a4⟩:=h;refine ⟨⟨⟨by rw[hl];exact a1,λi hi=>?_⟩,λv hv=>?_⟩,λe he=>by rw[hl,hus];exact a4 e (by omega)⟩
 ·by_cases ci:i<n
  ·unfold S.bg;have hb:S.aR L i (((i+c) % n:Nat):Int)=false:=by
    rw[Bool.eq_false_iff];intro hu;obtain ⟨j,hj,hh⟩:=sY.1 hu;rw[h1 j (by omega)] at hh;dsimp only at hh;have e1:(j+c) % n=(i+c) % n:=by omega
    have d1:=Nat.div_add_mod (j+c) n;have d2:=Nat.div_add_mod (i+c) n;have l1:(j+c) / n<=(i+c) / n:=Nat.div_le_div_right (by omega)
    by_cases e2:(j+c) / n=(i+c) / n
    ·rw[e1,e2] at d1;omega
    ·have l2:(j+c) / n+1<=(i+c) / n:=by omega
     have l3:n*((j+c) / n+1)<=n*((i+c) / n):=Nat.mul_le_mul_left _ l2;rw[Nat.mul_add,Nat.mul_one] at l3;omega
   have hm:=Nat.mod_lt (i+c) (show 0<n by omega);have hlf:S.bP L n i=true:=xn.2 (by rw[h1 i ci];dsimp only;exact ⟨by omega,by omega,rfl,rfl⟩);rw[hlf,h1 i ci];dsimp only;rw[if_neg (by omega),hb];rfl
  ·have:=a2 i (by omega);unfold S.bg S.bz S.bP at this ⊢;rw[ht i (by omega),hus,hus]
   split at this
   ·rename_i hx;rw[if_pos hx];exact this
   ·rename_i hx;have f:=S.aR L' i (S.sp L' i).1;exfalso;simp only[Bool.and_eq_true,decide_eq_true_eq,Bool.not_eq_true'] at this;obtain ⟨⟨⟨⟨b1,b2⟩,-⟩,-⟩,b5⟩:=this;obtain ⟨v,hv⟩:=Int.eq_ofNat_of_zero_le b1;have hb:S.aR L' i (S.sp L' i).1=true:=sY.2 ⟨v,by omega,by rw[h2 v (by omega),hv]⟩;rw[b5] at hb;cases hb
 ·obtain ⟨q,hq⟩:∃q,q=c % n:=⟨_,rfl⟩;have hqn:q<n:=by rw[hq];exact Nat.mod_lt _ (by omega)
  have hj:=Nat.mod_lt (v+(n - q)) (show 0<n by omega);refine sY.2 ⟨(v+(n - q)) % n,by omega,?_⟩;rw[h1 _ hj];dsimp only;congr 1;rw[Nat.mod_add_mod,Nat.add_mod,<-hq]
  by_cases cc:v<q
  ·rw[Nat.mod_eq_of_lt (show v+(n - q)<n by omega),show v+(n - q)+q=v+n by omega,Nat.add_mod_right,Nat.mod_eq_of_lt hv]
  ·rw[Nat.mod_eq_sub_mod (show v+(n - q) >= n by omega),Nat.mod_eq_of_lt (show v+(n - q) - n<n by omega),show v+(n - q) - n+q=v by omega,Nat.mod_eq_of_lt hv]
def JdI (n c:Nat)(lo:List Sp)(op:List Int):Prop:=∃js,lo=S.bc c n n++js/\MkI n (S.bm n++js,op.map λx=>((x,0):Br))
theorem I7 (n c:Nat):JdI n c (S.bc c n n) ((List.range n).map λv:Nat=>(v:Int)):=by
 refine ⟨[],by simp,?_⟩;have h:=Jw (List.replicate n 0);rw[List.length_replicate] at h;have e:S.bA (List.replicate n 0)=(S.bm n++[],((List.range n).map λv:Nat=>(v:Int)).map λx=>((x,0):Br)):=by rw[S.bA,List.append_nil,S.bm,List.length_replicate,List.map_map];congr 1;refine List.map_congr_left λv hv=>?_;have:=List.mem_range.1 hv;simp[this]
 rw[e] at h;exact h
theorem JdI.so {n c:Nat}{lo:List Sp}{op:List Int}(h:JdI n c lo op):op.Pairwise (·<·):=by obtain ⟨js,-,h⟩:=h;have:=h.so;dsimp only at this;rw[List.pairwise_map] at this;exact this
theorem JdI.len {n c:Nat}{lo:List Sp}{op:List Int}(h:JdI n c lo op):lo.length+op.length=2*n:=by obtain ⟨js,rfl,h⟩:=h;have:=h.ln;simp only[List.length_append,List.length_map,qy,ol] at this ⊢;exact this
theorem JdI.join {n c a b:Nat}{lo:List Sp}{op:List Int}{xa xb:Int}(h:JdI n c lo op)(ha:op[a]?=some xa)(hb:op[b]?=some xb)(hab:a≠b):JdI n c (lo++[(-1,xa,xb)]) ((op.filter λx=>!decide (x=xa)&&!decide (x=xb))++[(lo.length:Int)]):=by
 have hso:=h.so;obtain ⟨js,rfl,h⟩:=h;have ma:((xa,0):Br)∈op.map λx=>((x,0):Br):=List.mem_map.2 ⟨xa,List.mem_of_getElem? ha,rfl⟩;have mb:((xb,0):Br)∈op.map λx=>((x,0):Br):=List.mem_map.2 ⟨xb,List.mem_of_getElem? hb,rfl⟩;have hne:xa≠xb:=by
  obtain ⟨la,ea⟩:=List.getElem?_eq_some_iff.1 ha;obtain ⟨lb,eb⟩:=List.getElem?_eq_some_iff.1 hb;rw[List.pairwise_iff_getElem] at hso;rcases Nat.lt_or_gt_of_ne hab with hlt | hlt
  ·have:=hso a b la lb hlt;omega
  ·have:=hso b a lb la hlt;omega
 have h':=Jv (w:=0) h ma mb hne;refine ⟨js++[(-1,xa,xb)],by simp,?_⟩;have e:((op.map λx=>((x,0):Br)).filter λc=>!decide (c.1=xa)&&!decide (c.1=xb))++[(((S.bm n++js).length:Int),0)]=((op.filter λx=>!decide (x=xa)&&!decide (x=xb))++[((S.bc c n n++js).length:Int)]).map λx=>((x,0):Br):=by rw[List.map_append,List.filter_map];simp[qy,ol,Function.comp_def]
 rw[e] at h';rw[<-List.append_assoc];exact h'
theorem JdI.ck {n c:Nat}{lo:List Sp}{op:List Int}(hn:1<=n)(h:JdI n c lo op)(h1:op.length=1):S.ck lo n=true:=by obtain ⟨js,rfl,h⟩:=h;obtain ⟨x,rfl⟩:=List.length_eq_one_iff.1 h1;exact Nl hn (NE hn h)
end Hx
end
section
namespace Hx
open Go
noncomputable section
def CkL (n:Nat):VS:=λP k h v=>∃l:List Sp,(S.ck l n=true/\l.length<=15)/\One l P k h v
theorem Me (n:Nat):Snb (CkL n) 0:=tz λl=>bj l
def S.bI (xa xb:Int)(op:List Int):List Int:=op.filter λx=>!decide (x=xa)&&!decide (x=xb)
theorem xF (xa xb:Int)(op:List Int)(x:Int):S.bI xa xb (op++[x])=if x=xa\/x=xb then S.bI xa xb op else S.bI xa xb op++[x]:=by
 unfold S.bI;rw[List.filter_append]
 by_cases h1:x=xa
 ·simp[h1]
 ·by_cases h2:x=xb
  ·simp[h2]
  ·simp[h1,h2]
theorem FB (xa xb:Int)(op:List Int):(S.bI xa xb op).length<=op.length:=List.length_filter_le _ _
theorem M5 {op:List Int}(h:op.Pairwise (·<·)){i j:Nat}{x y:Int}(hi:op[i]?=some x)(hj:op[j]?=some y)(hne:i≠j):x≠y:=by
 obtain ⟨la,ea⟩:=List.getElem?_eq_some_iff.1 hi;obtain ⟨lb,eb⟩:=List.getElem?_eq_some_iff.1 hj;rw[List.pairwise_iff_getElem] at h;rcases Nat.lt_or_gt_of_ne hne with hlt | hlt
 ·have:=h i j la lb hlt;omega
 ·have:=h j i lb la hlt;omega
theorem Dj {d a b:Nat}{xa xb:Int}{cu8:List AV}{u w n:AV}{lo:List Sp}{op:List Int}{iv:Int}{Q:QT}{t:T}{gC:G}(hop:op.length<=20)(hso:op.Pairwise (·<·))(hxa:op[a]?=some xa)(hxb:op[b]?=some xb)(hJ:JdH cu8 u w lo op gC)
  (ht:St t [(0,n),(3,.hptr 0 0 0 0),(5,u),(6,w),(8,.int .i64 iv),(9,.int .i64 (a:Int)),(10,.int .i64 (b:Int)),(11,.nils),(12,.int .i64 0)])
  (fin:∀t g v,St t [(0,n),(3,.hptr 0 0 0 0),(5,u),(8,.int .i64 iv),(11,v)]->Own g gC.nx v 1 ((S.bI xa xb op).map ci)->Fr gC g->Q (.exit 4) t [] g) :
  wpL (wp C0 d none gZ) Q t [] gC:=by
 obtain ⟨h0,h3,h5,h6,h8,h9,h10,h11,h12,-⟩:=ht;have wl:=λg=>hJ.oW.sat_len g;rw[List.length_map] at wl;simp only[gZ,lU];refine eA op.length (by omega) (λj t df g=>df=[]/\St t [(0,n),(3,.hptr 0 0 0 0),(5,u),(6,w),(8,.int .i64 iv),(9,.int .i64 (a:Int)),(10,.int .i64 (b:Int))]/\∃v,tat t 11=v/\Own g gC.nx v 1 ((S.bI xa xb (op.take j)).map ci)/\Fr gC g)
  ⟨rfl,by simp[St,h0,h3,h5,h6,h8,h9,h10],_,h11,.inl ⟨rfl,rfl⟩,Fr.refl _⟩ h12 (by decide) (by rintro j t df g v s (rfl | rfl | rfl)<;>simp[sx,St]) ?_ ?_ ?_
 ·clear h0 h3 h5 h6 h8 h9 h10 h11 h12;rintro j t df g hj ⟨rfl,⟨h0,h3,h5,h6,h8,h9,h10,-⟩,v,h11,r⟩ h12;simp only[sz,simprocAttr,h6,h12,wl];exact ⟨by simp[St,sx,h0,h3,h5,h6,h8,h9,h10],v,by simp[sx,h11],r⟩
 ·clear h0 h3 h5 h6 h8 h9 h10 h11 h12;rintro j t df g hj ⟨rfl,⟨h0,h3,h5,h6,h8,h9,h10,-⟩,v,h11,oV,hf⟩ h12;obtain ⟨x,hx,htk,-⟩:=ak hj;have u1:j<(op.map ci).length:=by simpa using hj
  have u2:(op.map ci)[j]?=some (ci x):=by rw[List.getElem?_map,hx];rfl
  have oW:=(hJ.oW.step hf).rows;have hnx:=hf.1;have hol:=FB xa xb (op.take j);rw[List.length_take] at hol;rw[htk]
  by_cases ca:j=a
  ·have e1:decide ((j:Int)=(a:Int))=true:=decide_eq_true (by omega);have e3:x=xa:=by rw[ca,hxa] at hx;injection hx with hx;exact hx.symm
   rw[xF,if_pos (.inl e3)];simp only[sz,simprocAttr,h9,h10,h12,e1];exact ⟨by simp[St,sx,h0,h3,h5,h6,h8,h9,h10],v,by simp[sx,h11],oV,hf⟩
  have e1:decide ((j:Int)=(a:Int))=false:=decide_eq_false (by omega)
  by_cases cb:j=b
  ·have e2:decide ((j:Int)=(b:Int))=true:=decide_eq_true (by omega);have e3:x=xb:=by rw[cb,hxb] at hx;injection hx with hx;exact hx.symm
   rw[xF,if_pos (.inr e3)];simp only[sz,simprocAttr,h9,h10,h12,e1,e2];exact ⟨by simp[St,sx,h0,h3,h5,h6,h8,h9,h10],v,by simp[sx,h11],oV,hf⟩
  have e2:decide ((j:Int)=(b:Int))=false:=decide_eq_false (by omega);have e3:¬(x=xa\/x=xb):=by
   rintro (h | h)
   ·exact M5 hso hx hxa ca h
   ·exact M5 hso hx hxb cb h
  rw[xF,if_neg e3];obtain ⟨L,hL⟩:∃L,L=S.bI xa xb (op.take j):=⟨_,rfl⟩;rw[<-hL] at oV hol ⊢;simp only[sz,simprocAttr,h6,h9,h10,h11,h12,e1,e2,oW,u1,u2,ci];refine aZ (new:=[ci x]) (oV.step (Fr.new _ _)) (by simp[sx,sy,ci]) (by simp;omega) (by simp[aW];omega) λv2 g2 hv2 n2 f2 _ _=>?_;simp only[sz,simprocAttr];have fg:Fr gC g2:=⟨by simp at n2;omega,λi hi=>by
   rw[f2 i (by simp;omega) (λe=>by have:=(oV.lt e).1;omega),(Fr.new g _).2 i (by omega),hf.2 i hi]⟩
  simp[St,sx,h0,h3,h5,h6,h8,h9,h10,h12];exact ⟨by simpa using hv2,fg⟩
 ·rintro t df g ⟨rfl,⟨h0,h3,h5,-,h8,-⟩,v,h11,oV,hf⟩;rw[List.take_of_length_le (Nat.le_refl _)] at oV;exact fin t g v (by simp[St,h0,h3,h5,h8,h11]) oV hf
set_option maxRecDepth 20000 in
theorem Dk {d n:Nat}{g:G}{vs:List UInt8}(hd:0<d)(hv:vs.length=8)(hn1:1<=n)(hn8:n<=8):∃r,ax C0 d N.bi [.int .i64 (n:Int),.agg (vs.map u8v)] g=.val r/\CkL n NoP 0 .nil r:=by
 rw[sF];refine bu uV (xs:=[.int .i64 (n:Int),.agg (vs.map u8v)]) (by simp only[aI,iQ 0,Kn]) (by simp[kM]) (Me n) (by decide) hd ?_;obtain ⟨cu8,hcu⟩:∃c,c=vs.map u8v:=⟨_,rfl⟩;have hcl:cu8.length=8:=by rw[hcu,List.length_map,hv]
 have at8:∀i,i<8->∃y:Nat,y<256/\cu8[i]?=some (.int .u8 (y:Int)):=λi hi=>by obtain ⟨y,hy⟩:∃y,vs[i]?=some y:=⟨_,List.getElem?_eq_getElem (by omega)⟩;exact ⟨y.toNat,y.toNat_lt,by rw[hcu,List.getElem?_map,hy];rfl⟩
 obtain ⟨y,hy,hcy7⟩:=at8 7 (by omega);simp only[sz,simprocAttr,kM,nz,lS,<-hcu];refine eA n (by omega) (λj t df g=>df=[]/\St t [(0,.int .i64 (n:Int)),(3,.hptr 0 0 0 0)]/\∃u w,tat t 5=u/\tat t 6=w/\JdH cu8 u w (S.bc y n j) ((List.range j).map λv:Nat=>(v:Int)) g)
  ⟨rfl,by simp[sx,St],_,_,rfl,rfl,by rw[hcl];simp[sx],by simp[sx],.inl ⟨by simp[sx],rfl⟩,.inl ⟨by simp[sx],rfl⟩,by simp[sx,vid]⟩ (by simp[sx]) (by decide) (by rintro j t df g v s (rfl | rfl | rfl)<;>simp[sx,St]) ?_ ?_ ?_
 ·rintro j t df g hj ⟨rfl,⟨h0,h3,-⟩,u,w,h5,h6,r⟩ h7;simp only[sz,simprocAttr,h0,h7];exact ⟨by simp[St,sx,h0,h3],u,w,by simp[sx,h5],by simp[sx,h6],r⟩
 ·rintro j t df g hj ⟨rfl,⟨h0,h3,-⟩,u,w,h5,h6,hJ0⟩ h7;have esn:(((j:Int)+(y:Int)) % (n:Int),(-1:Int),(-1:Int))=((((j+y) % n:Nat):Int),-1,-1):=by rw[Int.natCast_emod,Int.natCast_add]
  rw[Jk,<-esn,List.range_succ,List.map_append,List.map_singleton];have hlo:=ol y n j;have hop:((List.range j).map λv:Nat=>(v:Int)).length=j:=by simp
  obtain ⟨lo,hlo'⟩:∃lo,lo=S.bc y n j:=⟨_,rfl⟩;obtain ⟨op,hop'⟩:∃op,op=(List.range j).map λv:Nat=>(v:Int):=⟨_,rfl⟩;rw[<-hlo'] at hlo hJ0 ⊢;rw[<-hop'] at hop hJ0 ⊢;obtain ⟨hg,hnx,oU,oW,ds⟩:=hJ0;have hcy:=hcy7;have w8:IntKind.wrap .i64 (y:Int)=(y:Int):=an (by omega) (by omega);have w9:IntKind.wrap .i64 ((j:Int)+(y:Int))=(j:Int)+(y:Int):=an (by omega) (by omega);have i7:GV 8 1 (.hptr 0 0 0 0) (.int .i64 7)=.val (.hptr 0 0 0 7):=rfl;have r9:=e6 .i64 (show (0:Int)<=(j:Int)+(y:Int) by omega) (show (0:Int)<(n:Int) by omega);simp only[sz,simprocAttr,h0,h3,h5,h7,hg,i7,hcy,w8,w9,r9];refine aZ (new:=[cs3 (((j:Int)+(y:Int)) % (n:Int),-1,-1)]) (oU.step (Fr.new _ _)) (by simp[sx,sy,cs3]) (by simp) (by simp[aW];omega) λv2 g2 hv2 n2 f2 c2 _=>?_;simp only[sz,simprocAttr,h6,h7];have oW2:Own g2 1 w 1 (op.map ci):=oW.fr (by simp at n2;omega) λi hi=>by rw[f2 i (by have:=(oW.lt hi).2;simp;omega) (λe=>ds i e hi),(Fr.new g _).2 i (oW.lt hi).2]
  have hu0:vid u≠some 0:=λe=>by have:=(oU.lt e).1;omega
  have hw0:vid w≠some 0:=λe=>by have:=(oW.lt e).1;omega
  have hg2:g2.h.get 0=.cells 8 [cu8] 0 false false:=by rw[f2 0 (by simp) hu0,(Fr.new g _).2 0 (by omega),hg]
  refine aZ (new:=[ci (j:Int)]) (oW2.step (Fr.new _ _)) (by simp[sx,sy,ci]) (by first | (simp at n2 ⊢;done) | (simp at n2 ⊢;omega)) (by simp[aW];omega) λv3 g3 hv3 n3 f3 c3 _=>?_;simp only[sz,simprocAttr];have dv:∀i,vid v2=some i->vid w≠some i:=λi hi e=>by
   rcases c2 with c | ⟨k,c,c'⟩
   ·exact ds i (c ▸ hi) e
   ·rw[hi] at c;injection c with c;have:=(oW.lt e).2;simp at c';omega
  refine ⟨⟨by simp[St,sx,h0,h3],v2,v3,by simp[sx],by simp[sx],?_,by simp at n2 n3;omega,?_,by simpa using hv3,λi hi e=>?_⟩,by simp[sx,h7]⟩
  ·rw[f3 0 (by simp at n2 ⊢) hw0,(Fr.new g2 _).2 0 (by simp at n2;omega),hg2]
  ·have hv2':Own g2 1 v2 3 ((lo++[(((j:Int)+(y:Int)) % (n:Int),-1,-1)]).map cs3):=by simpa using hv2
   refine hv2'.fr (by simp at n3;omega) λi hi=>?_;rw[f3 i (by have:=(hv2'.lt hi).2;simp;omega) (dv i hi),(Fr.new g2 _).2 i (hv2'.lt hi).2]
  ·rcases c3 with c | ⟨k,c,c'⟩
   ·exact dv i hi (c ▸ e)
   ·rw[e] at c;injection c with c;have:=(hv2.lt hi).2;simp at c';omega
 rintro t df g ⟨rfl,⟨h0,h3,-⟩,u,w,h5,h6,hJ⟩;simp only[sz,simprocAttr,lY,lT,lW];have hn1':((n - 1:Nat):Int)=(n:Int) - 1:=by omega
 refine eA (n - 1) (by omega) (λj t df g=>df=[]/\St t [(0,.int .i64 (n:Int)),(3,.hptr 0 0 0 0)]/\∃u w lo op,tat t 5=u/\tat t 6=w/\List.length lo=n+j/\JdI n y lo op/\JdH cu8 u w lo op g)
  ⟨rfl,by simp[sx,St,h0,h3],u,w,_,_,by simp[sx,h5],by simp[sx,h6],ol _ _ _,I7 n y,hJ⟩ (by simp[sx]) (by decide) (by rintro j t df g v s (rfl | rfl | rfl)<;>simp[sx,St]) ?_ ?_ ?_
 ·clear h0 h3 h5 h6 hJ;rintro j t df g hj ⟨rfl,⟨h0,h3,-⟩,u,w,lo,op,h5,h6,r⟩ h8;have w9:IntKind.wrap .i64 ((n:Int) - 1)=((n - 1:Nat):Int):=by rw[an (by omega) (by omega)];omega
  simp only[sz,simprocAttr,h0,h8,w9];exact ⟨by simp[St,sx,h0,h3],u,w,lo,op,by simp[sx,h5],by simp[sx,h6],r⟩
 ·clear h0 h3 h5 h6 hJ;rintro j t df g hj ⟨rfl,⟨h0,h3,-⟩,u,w,lo,op,h5,h6,hlo,hI,hJ⟩ h8;have hopl:=hI.len;have hso:=hI.so;obtain ⟨y',hy',hcy⟩:=at8 j (by omega);have hg:=hJ.g0;have wl:=λg=>hJ.oW.sat_len g;rw[List.length_map] at wl;have w8:IntKind.wrap .i64 (y':Int)=(y':Int):=an (by omega) (by omega);have w10:IntKind.wrap .i64 ((y' / 8:Nat):Int)=((y' / 8:Nat):Int):=an (by omega) (by omega);have q8:bA .quo (.int .u8 (y':Int)) (.int .u8 8)=.val (.int .u8 ((y' / 8:Nat):Int)):=by rw[EF .u8 (show (0:Int)<=(y':Int) by omega) (show (0:Int)<8 by omega),N_ (by omega) (by omega)];congr 2
  have w11:IntKind.wrap .i64 ((op.length:Int) - 1)=((op.length - 1:Nat):Int):=by rw[an (by omega) (by omega)];omega
  have hj8:j<8:=by omega
  obtain ⟨a,ha⟩:∃a,a=y' % op.length:=⟨_,rfl⟩;have hal:a<op.length:=by rw[ha];exact Nat.mod_lt _ (by omega)
  have r1:bA .rem (.int .i64 (y':Int)) (.int .i64 (op.length:Int))=.val (.int .i64 (a:Int)):=by rw[e6 .i64 (show (0:Int)<=(y':Int) by omega) (show (0:Int)<(op.length:Int) by omega),ha];congr 2
  obtain ⟨c,hc⟩:∃c,c=(y' / 8) % (op.length - 1):=⟨_,rfl⟩;have hcl:c<op.length - 1:=by rw[hc];exact Nat.mod_lt _ (by omega)
  have r2:bA .rem (.int .i64 ((y' / 8:Nat):Int)) (.int .i64 ((op.length - 1:Nat):Int))=.val (.int .i64 (c:Int)):=by rw[e6 .i64 (show (0:Int)<=((y' / 8:Nat):Int) by omega) (show (0:Int)<((op.length - 1:Nat):Int) by omega),hc];congr 2
  have w12:IntKind.wrap .i64 ((a:Int)+1)=((a+1:Nat):Int):=by rw[an (by omega) (by omega)];omega
  have w13:IntKind.wrap .i64 (((a+1:Nat):Int)+(c:Int))=((a+1+c:Nat):Int):=by rw[an (by omega) (by omega)];omega
  obtain ⟨b,hb⟩:∃b,b=(a+1+c) % op.length:=⟨_,rfl⟩;have hbl:b<op.length:=by rw[hb];exact Nat.mod_lt _ (by omega)
  have hab:a≠b:=by
   by_cases cc:a+1+c<op.length
   ·rw[Nat.mod_eq_of_lt cc] at hb;omega
   ·rw[Nat.mod_eq_sub_mod (by omega),Nat.mod_eq_of_lt (by omega)] at hb;omega
  have r3:bA .rem (.int .i64 ((a+1+c:Nat):Int)) (.int .i64 (op.length:Int))=.val (.int .i64 (b:Int)):=by rw[e6 .i64 (show (0:Int)<=((a+1+c:Nat):Int) by omega) (show (0:Int)<(op.length:Int) by omega),hb];congr 2
  refine bM (P:=λt' df g'=>df=[]/\g'=g/\St t' [(0,.int .i64 (n:Int)),(3,.hptr 0 0 0 0),(5,u),(6,w),(8,.int .i64 (j:Int)),(9,.int .i64 (a:Int))]) ?_ ?_
  ·simp only[sz,simprocAttr,h3,h6,h8,hg,Ff 8 1 _ _ _ _ _ hj8,Nat.mul_one,hcy,w8,wl,r1];simp[St,sx,h0,h3,h5,h6,h8]
  rintro t df g' ⟨rfl,rfl,h0,h3,h5,h6,h8,h9,-⟩;refine bM (P:=λt' df g''=>df=[]/\g''=g'/\St t' [(0,.int .i64 (n:Int)),(3,.hptr 0 0 0 0),(5,u),(6,w),(8,.int .i64 (j:Int)),(9,.int .i64 (a:Int)),(10,.int .i64 (b:Int))]) ?_ ?_
  ·simp only[sz,simprocAttr,h3,h6,h8,h9,hg,Ff 8 1 _ _ _ _ _ hj8,Nat.mul_one,hcy,q8,w10,wl,w11,r2,w12,w13,r3];simp[St,sx,h0,h3,h5,h6,h8,h9]
  rintro t df g'' ⟨rfl,rfl,h0,h3,h5,h6,h8,h9,h10,-⟩;obtain ⟨xa,hxa⟩:∃x,op[a]?=some x:=⟨_,List.getElem?_eq_getElem hal⟩;obtain ⟨xb,hxb⟩:∃x,op[b]?=some x:=⟨_,List.getElem?_eq_getElem hbl⟩;obtain ⟨-,hnx,oU,oW,ds⟩:=hJ;have u1:a<(op.map ci).length:=by simpa using hal
  have u2:(op.map ci)[a]?=some [.int .i64 xa]:=by rw[List.getElem?_map,hxa];rfl
  have u3:b<(op.map ci).length:=by simpa using hbl
  have u4:(op.map ci)[b]?=some [.int .i64 xb]:=by rw[List.getElem?_map,hxb];rfl
  have rW:=oW.rows;have hu0:vid u≠some 0:=λe=>by have:=(oU.lt e).1;omega
  have hw0:vid w≠some 0:=λe=>by have:=(oW.lt e).1;omega
  refine bM (P:=λt' df g1=>df=[]/\∃v2,St t' [(0,.int .i64 (n:Int)),(3,.hptr 0 0 0 0),(5,v2),(6,w),(8,.int .i64 (j:Int)),(9,.int .i64 (a:Int)),(10,.int .i64 (b:Int))]/\JdH cu8 v2 w (lo++[(-1,xa,xb)]) op g1) ?_ ?_
  ·simp only[sz,simprocAttr,sf,h5,h6,h9,h10,rW,u1,u2,u3,u4];refine aZ (new:=[cs3 (-1,xa,xb)]) (oU.fr (by first | (simp;done) | (simp;omega)) λi hi=>by have:=(oU.lt hi).2;simp[H.get_put];intro e;omega) (by simp[sx,sy,cs3]) (by first | (simp;done) | (simp;omega)) (by simp[aW];omega) λv2 g2 hv2 n2 f2 c2 lg2=>?_;have ff:∀i,i<g''.nx->vid u≠some i->g2.h.get i=g''.h.get i:=λi hi hv=>by rw[f2 i (by first | (simp;done) | (simp;omega)) hv];simp[H.get_put];intro e;omega
   simp at n2;simp only[sz,simprocAttr,sf];refine ⟨?_,v2,by simp[St,sx,h0,h3,h6,h8,h9,h10],?_,by first | (simp;done) | (simp;omega),?_,?_,λi hi e=>?_⟩
   ·simp only[List.reverse_cons,List.reverse_nil,List.nil_append,List.cons_append,G.new_lg,G.put_lg,setLog_lg];refine aF [false,false,false,false,false,false,false,false,false,false,true,true,false] [(0,10)] (by simp[All2,ac,ay]) (by decide) ?_;rintro p hp x y hx hy;simp only[List.mem_cons,List.not_mem_nil,or_false] at hp;rcases hp with rfl;simp at hx hy;subst hx;subst hy;refine bV rfl rfl rfl rfl ?_ ?_ ?_<;>simp[ac,ay,af]
   ·have:=ff 0 (by omega) hu0;simp[this,hg]
   ·have:Own g2 1 v2 3 ((lo++[(-1,xa,xb)]).map cs3):=by simpa using hv2
    exact this.fr (by first | (simp;done) | (simp;omega)) λi hi=>by simp
   ·refine oW.fr (by simp;omega) λi hi=>?_;have:=ff i (oW.lt hi).2 λe=>ds i e hi;simp[this]
   ·rcases c2 with c | ⟨k,c,c'⟩
    ·exact ds i (c ▸ hi) e
    ·rw[hi] at c;injection c with c;have:=(oW.lt e).2;simp at c';omega
  rintro t df g1 ⟨rfl,v2,⟨h0,h3,h5,h6,h8,h9,h10,-⟩,hJ1⟩;simp only[sz,simprocAttr];have hI':=hI.join hxa hxb hab;refine Dj (a:=a) (b:=b) (u:=v2) (w:=w) (n:=.int .i64 (n:Int)) (lo:=lo++[(-1,xa,xb)]) (op:=op) (iv:=(j:Int)) (by omega) hso hxa hxb hJ1 (by simp[St,sx,h0,h3,h5,h6,h8,h9,h10]) λt g2 v ht oV hf=>?_;have hol:=FB xa xb op;obtain ⟨L,hL⟩:∃L,L=S.bI xa xb op:=⟨_,rfl⟩;change JdI n y _ (S.bI xa xb op++_) at hI';rw[<-hL] at oV hol hI';obtain ⟨h0,h3,h5,h8,h11,-⟩:=ht;obtain ⟨hg1,hnx1,oU1,oW1,ds1⟩:=hJ1;have hf1:=hf.1;have ul:=λg=>oU1.sat_len g;have w14:IntKind.wrap .i64 ((((lo++[((-1:Int),xa,xb)]).map cs3).length:Int) - 1)=(lo.length:Int):=by rw[List.length_map,List.length_append,List.length_singleton,an (by omega) (by omega)];omega
  simp only[sz,simprocAttr,lV,h5,h11,ul,w14];refine aZ (new:=[ci (lo.length:Int)]) (oV.step (Fr.new _ _)) (by simp[sx,sy,ci]) (by simp;omega) (by simp[aW];omega) λv3 g3 hv3 n3 f3 c3 _=>?_;simp only[sz,simprocAttr];have fr3:∀i,i<g1.nx->g3.h.get i=g1.h.get i:=λi hi=>by rw[f3 i (by simp;omega) (λe=>by have:=(oV.lt e).1;omega),(Fr.new g2 _).2 i (by omega),hf.2 i hi]
  have n3':g2.nx+1<=g3.nx:=by simpa using n3
  refine ⟨⟨by simp[St,sx,h0,h3],v2,v3,lo++[(-1,xa,xb)],L++[(lo.length:Int)],by simp[sx,h5],by simp[sx],by simp;omega,hI',?_⟩,by simp[sx,h8]⟩
  ·refine ⟨by rw[fr3 0 (by omega),hg1],by omega,oU1.fr (by omega) λi hi=>fr3 i (oU1.lt hi).2,?_,λi hi e=>?_⟩
   ·have:Own g3 g1.nx v3 1 ((L++[(lo.length:Int)]).map ci):=by simpa using hv3
    exact this.low hnx1
   ·have:=(hv3.lt e).1;have:=(oU1.lt hi).2;omega
 ·rintro t df g ⟨rfl,-,u,w,lo,op,h5,h6,hlo,hI,hJ⟩;have hopl:=hI.len;simp only[sz,simprocAttr,lX,h5];exact ⟨λ_=>True,lo,⟨hI.ck hn1 (by omega),by omega⟩,hJ.oU.sps (by omega)⟩
end
end Hx
end
section
namespace Hx
open Go
theorem FZ (F:Nat->Nat->Int)(b:Nat):∀a,S.sm (λi=>S.sm (λj=>F i j) b) a=S.sm (λj=>S.sm (λi=>F i j) a) b
 | 0=>by simp only[S.sm];rw[tx]
 | a+1=>by simp only[S.sm];rw[FZ F b a,<-D_]
theorem Js {n:Net}(hr:NR n){e:List Int}{v:Nat}(he:e.length=n.nodes.length)(hv:v<n.nodes.length):S.sm (λk=>S.aV n (e.set v (k:Int))) ((S.ac n)[v]?.getD 0).toNat=S.aV n (e.set v (-1)):=by
 have e1:∀e:List Int,S.aV n e=S.sm (λj=>if S.bu (S.aG (S.ac n) (j:Int)) e then S.bC n (S.aG (S.ac n) (j:Int)) else 0) (S.bT n):=λe=>by rw[S.aV,AS]
 have e2:(λk:Nat=>S.aV n (e.set v (k:Int)))=λk:Nat=>S.sm (λj=>if S.bu (S.aG (S.ac n) (j:Int)) (e.set v (k:Int)) then S.bC n (S.aG (S.ac n) (j:Int)) else 0) (S.bT n):=funext λk=>e1 _;rw[e2,FZ,e1];refine bW λj _=>?_;have hC:=rV (λc hc=>(hr.cs c hc).1) (j:Int);obtain ⟨vs,hvs⟩:∃vs,vs=S.aG (S.ac n) (j:Int):=⟨_,rfl⟩;rw[<-hvs] at hC ⊢;have hcl:(S.ac n)[v]?=some ((S.ac n)[v]?.getD 0):=by rw[List.getElem?_eq_getElem (by rw[ba];exact hv)];rfl
 obtain ⟨y,hy,y0,y1⟩:=hC.get hcl;obtain ⟨Y,rfl⟩:=Int.eq_ofNat_of_zero_le y0;have hvl:vs.length=n.nodes.length:=by rw[hC.len,ba]
 rw[Eb (Y:=Y) (λk hk=>?_) (by omega)]
 ·have:S.bu vs (e.set v ((Y:Nat):Int))=S.bu vs (e.set v (-1)):=by
   rw[Bool.eq_iff_iff,s_,s_];constructor
   ·intro h i hi
    by_cases c:i=v
    ·subst c;rw[List.getElem?_set_self (by omega)];left;simp
    ·have:=h i (by simpa using hi);rw[List.getElem?_set_ne (Ne.symm c)] at this ⊢;exact this
   ·intro h i hi
    by_cases c:i=v
    ·subst c;rw[List.getElem?_set_self (by omega),hy];right;rfl
    ·have:=h i (by simpa using hi);rw[List.getElem?_set_ne (Ne.symm c)] at this ⊢;exact this
  rw[this]
 ·rw[if_neg];intro h;have:=(s_.1 h) v (by simp;omega);rw[List.getElem?_set_self (by omega),hy] at this;simp only[Option.getD_some] at this;omega
theorem BF {n:Net}{e:List Int}(h:S.aP n e=true){v:Nat}{x:Int}(hx:-1<=x)(hx2:x<(S.ac n)[v]?.getD 0):S.aP n (e.set v x)=true:=by
 simp only[S.aP,Bool.and_eq_true,decide_eq_true_eq,List.all_eq_true,List.mem_range] at h ⊢;refine ⟨by simp[h.1],λi hi=>?_⟩;have hi':i<e.length:=by simpa using hi
 by_cases c:i=v
 ·subst c;rw[List.getElem?_set_self hi',Option.getD_some];exact ⟨hx,hx2⟩
 ·rw[List.getElem?_set_ne (Ne.symm c)];exact h.2 i hi'
theorem GF {n:Net}{e:List Int}(he:e.length=n.nodes.length)(h:evP 0 n e):∀v:Nat,e[v]?.getD 0≠-1:=λv hv=>by
 by_cases c:v<n.nodes.length
 ·have:=h v e[v] (n.nodes[v]) (List.getElem?_eq_getElem (by omega)) (List.getElem?_eq_getElem c);rw[List.getElem?_eq_getElem (by omega),Option.getD_some] at hv;omega
 ·rw[List.getElem?_eq_none (by omega)] at hv;cases hv
theorem Hc {n:Net}{e:List Int}{l:List Sp}{size:Int}(hr:S.a_ n=true)(he:S.aP n e=true)(hl:S.ck l n.nodes.length=true)(h0:0<=size)(h1:size<=1000):S.be n e l size=(S.an (S.aV n e).toNat (S.bQ n).toNat,(S.bo n e l size).2.2,0):=by
 have r1:S.bh n e=0:=uG.2 ⟨hr,he⟩;have r2:S.aX n l=0:=by rw[S.aX,if_pos hr,if_pos hl]
 rw[S.be,if_pos r1,if_pos r2,if_pos ⟨h0,h1⟩]
theorem G0 {M:Nat}(h:0<M):S.an 0 M=(0,1):=by
 have h1:Nat.gcd 0 M=M:=Nat.gcd_zero_left M;simp only[S.an,h1,Nat.zero_div,Nat.div_self h]
 rfl
def S.ms (n:Net)(e:List Int)(v:Nat)(k:Nat):Nat:=(S.sm (λk=>S.aV n (e.set v (k:Int))) k).toNat
theorem xx {n:Net}(hr:NR n)(e:List Int)(v:Nat):∀k:Nat,0<=S.sm (λk=>S.aV n (e.set v (k:Int))) k/\S.sm (λk=>S.aV n (e.set v (k:Int))) k<=171992678400000000*k
 | 0=>by simp[S.sm]
 | k+1=>by have ih:=xx hr e v k;have:=ji hr (e.set v (k:Int));rw[S.sm];omega
theorem LH (n:Net)(e:List Int)(v:Nat):S.ms n e v 0=0:=rfl
theorem LG {n:Net}(hr:NR n)(e:List Int)(v k:Nat):S.ms n e v (k+1)=S.ms n e v k+(S.aV n (e.set v (k:Int))).toNat:=by have h1:=xx hr e v k;have h2:=ji hr (e.set v (k:Int));unfold S.ms;rw[S.sm];omega
theorem MS {n:Net}(hr:NR n)(e:List Int)(v:Nat){k:Nat}(hk:k<=4):S.ms n e v k<=687970713600000000:=by have h1:=xx hr e v k;unfold S.ms;omega
end Hx
end
section
namespace Hx
open Go
noncomputable section
theorem Fr.putN {g g1:G}{i:Nat}(h:Fr g g1)(hi:g.nx<=i)(o:AObj):Fr g (g1.put i o):=⟨by simpa using h.1,λj hj=>by rw[G.put_h,ae _ _ _ (by omega),h.2 j hj]⟩
theorem Ns (a b c d:Int):yn false (EqKind.flat [TypeDesc.int IntKind.i64,TypeDesc.int IntKind.i64]) (.agg [.int .i64 a,.int .i64 b]) (.agg [.int .i64 c,.int .i64 d])=.val (.bool (decide (a=c/\b=d))):=by have h:=nV (a:=[a,b]) (b:=[c,d]) rfl;have e:yn false (EqKind.flat [TypeDesc.int IntKind.i64,TypeDesc.int IntKind.i64]) (.agg [.int .i64 a,.int .i64 b]) (.agg [.int .i64 c,.int .i64 d])=(match cE [.int .i64 a,.int .i64 b] [.int .i64 c,.int .i64 d] with | some r=>.val (.bool (ap false (!r) r)) | none=>.fail):=rfl;rw[e];simp only[List.map_cons,List.map_nil] at h;rw[h];simp[ap]
theorem AZ (g:G):ax C0 1 N.bo [] g=.val (.bool true):=by kernel_rfl
theorem Jh {cs:List AV}(h:cs.length=8):bH (.cells 8 [cs] 0 false false) 0 0 true 8 0=.val (.agg cs):=by
 match cs,h with
 | [a,b,c,d,e,f,g,i],_=>rfl
theorem Lz {α:Type} [Rp α]{l:List α}{v:AV}(h:One l NoP 0 .nil v):SlR NoP 0 .nil l v:=by obtain ⟨w,e,hw⟩:=h;injection e with e;rw[e];exact hw
theorem Er {α:Type} [Rp α]{x:α}{P:Nat->Prop}{cs:List AV}(h:Rp.rp NoP 0 .nil x cs)(h':H):Agg x P 0 h' (.agg cs):=⟨_,rfl,Rp.tree h (Nat.le_refl _)⟩
theorem Cg (a b c d:AV):bT 0 [a,b,c,d] .nil=eV (eV (eV (eV .nil 0 a) 1 b) 2 c) 3 d:=rfl
set_option maxRecDepth 20000 in
theorem r_ {x:tJ}{xs:List AV}{ls vs:List UInt8}{m:Nat}(hx:Rp.rp NoP 0 .nil x xs)(hl:ls.length=8)(hvs:vs.length=8)(hm:m<65536) :
  ∃g',(I C0).call 1 N.bm [.agg xs,.agg (ls.map u8v),.agg (vs.map u8v),.int .u16 (m:Int)] G.empty=.ok (.bool true) g':=by
 obtain ⟨a1',a2',e1,-⟩:=zq.1 hx;have hxl:xs.length=3:=by rw[e1];rfl
 clear e1 a1' a2';have key:=qw (C:=C0) (d:=1) (f:=N.bm) («as»:=[.agg xs,.agg (ls.map u8v),.agg (vs.map u8v),.int .u16 (m:Int)]) (g:=G.empty) (K:=λv g'=>v=.bool true) ph (by simp[eJ]) ?_
 ·cases hc':(I C0).call 1 N.bm [.agg xs,.agg (ls.map u8v),.agg (vs.map u8v),.int .u16 (m:Int)] G.empty with
  | fail=>rw[hc'] at key;exact key.elim
  | ok v g'=>rw[hc'] at key;exact ⟨g',by rw[show v=.bool true from key]⟩
 have hll:(ls.map u8v).length=8:=by rw[List.length_map,hl]
 have hvl:(vs.map u8v).length=8:=by rw[List.length_map,hvs]
 simp only[sz,simprocAttr,eJ,Cg];obtain ⟨g0,hg0⟩:∃g0,g0=((G.empty.new (AObj.cells xs.length [xs] 0 false false)).new (.cells (ls.map u8v).length [ls.map u8v] 0 false false)).new (.cells (vs.map u8v).length [vs.map u8v] 0 false false):=⟨_,rfl⟩;rw[<-hg0];have f0:g0.h.get 0=.cells 3 [xs] 0 false false:=by rw[hg0,hxl];simp[sx,H.get_put]
 have f1:g0.h.get 1=.cells 8 [ls.map u8v] 0 false false:=by rw[hg0,hll];simp[sx,H.get_put]
 have f2:g0.h.get 2=.cells 8 [vs.map u8v] 0 false false:=by rw[hg0,hvl];simp[sx,H.get_put]
 have f4:g0.nx=3:=by rw[hg0];simp[sx]
 clear hg0;have ld0:bH (.cells 3 [xs] 0 false false) 0 0 true 3 0=.val (.agg xs):=by
  match xs,hxl with
  | [a,b,c],_=>rfl
 have ld1:=Jh hll;have ld2:=Jh hvl;simp only[gO];refine bM (P:=λt' df g'=>df=[]/\g'=g0/\St t' [(3,.int .u16 (m:Int)),(4,.hptr 0 0 0 0),(5,.hptr 1 0 0 0),(6,.hptr 2 0 0 0)]) ?_ ?_
 ·simp only[sz,simprocAttr,AZ];simp[St,sx]
 rintro t df g1 ⟨rfl,rfl,h3,h4,h5,h6,-⟩;obtain ⟨rn,en,n,hdr,cn,rfl,hcn⟩:=Lg (g:=g1) (d:=1) (by decide) (Er (P:=NoP) hx g1.h);obtain ⟨gb,rfl,hNg⟩:=qm.1 hcn;have hG:SlR NoP 0 .nil n.nodes gb:=hNg;have lb:=λg=>hG.len g;have hr:=hdr.nr;have n8:=hr.l2;have n1:=hr.l1;have hMg:∀h,Agg n NoP 0 h (.agg [.int .i64 n.grain,gb]):=λh=>Er hcn h;refine be (P:=λt' df g'=>df=[]/\St t' [(3,.int .u16 (m:Int)),(5,.hptr 1 0 0 0),(6,.hptr 2 0 0 0),(9,.hptr 3 0 0 0)]/\g'.nx=4/\g'.h.get 1=.cells 8 [ls.map u8v] 0 false false/\g'.h.get 2=.cells 8 [vs.map u8v] 0 false false/\g'.h.get 3=.cells 2 [[.int .i64 n.grain,gb]] 0 false false) ?_ ?_
 ·simp only[sz,simprocAttr,h4,f0,ld0,en];simp[St,sx,h3,h4,h5,h6,f0,f1,f2,f4]
 clear f0 f1 f2 f4 h3 h4 h5 h6 en;rintro t df g2 ⟨rfl,⟨h3,h5,h6,h9,-⟩,kn,k1,k2,k3⟩;refine be (P:=λt' df g'=>df=[]/\g'=g2/\∃(J:List Sp) (own:AV),S.ck J n.nodes.length=true/\SlR NoP 0 .nil J own/\St t' [(3,.int .u16 (m:Int)),(6,.hptr 2 0 0 0),(9,.hptr 3 0 0 0),(10,own)]) ?_ ?_
 ·simp only[sz,simprocAttr,h5,h9,k1,k3,ld1,lb];refine bi (Dk (by decide) hl n1 n8) λr hr1=>?_;obtain ⟨J,⟨hJ,-⟩,hr1⟩:=hr1;simp only[sz,simprocAttr];exact ⟨J,r,hJ,Lz hr1,by simp[St,sx,h3,h6,h9]⟩
 clear h3 h5 h6 h9;rintro t df g3 ⟨rfl,rfl,J,own,hJ,hJs,h3,h6,h9,h10,-⟩;have hbd:fQ [.int .u8 255,.int .u8 0,.int .u8 0,.int .u8 0,.int .u8 0,.int .u8 0,.int .u8 0,.int .u8 0,.int .u8 0] [((1,8),.agg (vs.map u8v))]=some (((255:UInt8)::vs).map u8v):=by
  match vs,hvs with
  | [a,b,c,d,e,f,g,h],_=>rfl
 have hnc:∀x∈n.nodes,0<x.card:=λx hx=>by have:=hr.card x hx;omega
 refine be (P:=λt' df g'=>df=[]/\∃(e:List Int) (u:AV),e.length=n.nodes.length/\evP 0 n e/\St t' [(3,.int .u16 (m:Int)),(6,.hptr 2 0 0 0),(9,.hptr 3 0 0 0),(10,own),(11,u)]/\Own g' (g3.nx+2) u 1 (e.map ci)/\Fr g3 g') ?_ ?_
 ·simp only[sz,simprocAttr,h6,h9,k2,k3,ld2,hbd];refine Jf (lo:=0) (by simp[hvs]) (.inr ⟨rfl,rfl⟩) hG n8 hnc λu g' L hLl hLp hLo hLf=>?_;simp only[sz,simprocAttr];exact ⟨L,u,hLl,hLp,by simp[St,sx,h3,h6,h9,h10],hLo,hLf⟩
 clear h3 h6 h9 h10;rintro t df g4 ⟨rfl,e,u,he,hek,⟨h3,h6,h9,h10,h11,-⟩,hO,hF⟩;have hn4:=hF.1;have b2:g4.h.get 2=.cells 8 [vs.map u8v] 0 false false:=by rw[hF.2 2 (by omega),k2]
 have b3:g4.h.get 3=.cells 2 [[.int .i64 n.grain,gb]] 0 false false:=by rw[hF.2 3 (by omega),k3]
 clear k1 k2 k3;have hev:=Li (by decide) he hek;have hrb:=li.2 hr;have hL:=Jg hJ;have hJl:=hL.len;obtain ⟨sz0,hsz⟩:∃z:Nat,z=m % 1001:=⟨_,rfl⟩;have r1:bA .rem (.int .u16 (m:Int)) (.int .u16 1001)=.val (.int .u16 (sz0:Int)):=by rw[e6 .u16 (show (0:Int)<=(m:Int) by omega) (show (0:Int)<1001 by omega),hsz];congr 2
 have w1:IntKind.wrap .i64 (sz0:Int)=(sz0:Int):=an (by omega) (by omega);have hsl:∀(g:G) (e:List Int),e.length=n.nodes.length->Own g (g3.nx+2) u 1 (e.map ci)->SlR (λ_=>True) 0 g.h e u:=λg e h1 h2=>by obtain ⟨_,h3,h4⟩:=h2.ints (k:=0) (by omega);injection h3 with h3;subst h3;exact h4
 have kp:=λ(g:G) (e:List Int) (size:Int) (h1:S.aP n e=true) (h2:Own g (g3.nx+2) u 1 (e.map ci)) (h3:0<=size) (h4:size<=1000)=>(Ib (d:=1) (g:=g) (size:=size) (by decide) (hMg g.h) (hsl g e (pF h1).1 h2) hJs).trans (by rw[Hc hrb h1 hJ h3 h4]);refine be (P:=λt' df g'=>df=[]/\St t' [(3,.int .u16 (m:Int)),(6,.hptr 2 0 0 0),(9,.hptr 3 0 0 0),(10,own),(11,u),(13,.int .i64 (J.length:Int)),(14,.int .i64 0)]/\Fr g4 g') ?_ ?_
 ·simp only[sz,simprocAttr,h3,h9,h10,h11,b3,r1,w1];rw[kp _ e _ hev hO (by omega) (by omega),Ed hr hL (GF he hek)];simp only[sz,simprocAttr];exact ⟨by simp[St,sx,h3,h6,h9,h10,h11],(Fr.new _ _).putN (Nat.le_refl _) _⟩
 clear h3 h6 h9 h10 h11;rintro t df g5 ⟨rfl,⟨h3,h6,h9,h10,h11,h13,h14,-⟩,hF5⟩;have hn5:=hF5.1;have c2:g5.h.get 2=.cells 8 [vs.map u8v] 0 false false:=by rw[hF5.2 2 (by omega),b2]
 have c3:g5.h.get 3=.cells 2 [[.int .i64 n.grain,gb]] 0 false false:=by rw[hF5.2 3 (by omega),b3]
 have hO5:=hO.step hF5;clear b2 b3 hO;refine bM (P:=λt' df g'=>df=[]/\g'=g5/\St t' [(3,.int .u16 (m:Int)),(6,.hptr 2 0 0 0),(9,.hptr 3 0 0 0),(10,own),(11,u)]) ?_ ?_
 ·have w2:IntKind.wrap .i64 (2*(n.nodes.length:Int))=2*(n.nodes.length:Int):=an (by omega) (by omega);have w3:IntKind.wrap .i64 (2*(n.nodes.length:Int) - 1)=(J.length:Int):=by rw[an (by omega) (by omega)];omega
  simp only[sz,simprocAttr,h9,h13,h14,c3,lb,w2,w3];simp[St,sx,h3,h6,h9,h10,h11]
 clear h3 h6 h9 h10 h11 h13 h14;rintro t df g6 ⟨rfl,rfl,h3,h6,h9,h10,h11,-⟩;obtain ⟨y0,hy0⟩:∃y,vs[0]?=some y:=⟨_,List.getElem?_eq_getElem (by omega)⟩;have hc0:(vs.map u8v)[0]?=some (.int .u8 (y0.toNat:Int)):=by rw[List.getElem?_map,hy0];rfl
 have hy8:y0.toNat<256:=y0.toNat_lt;obtain ⟨v,hv⟩:∃v,v=y0.toNat % n.nodes.length:=⟨_,rfl⟩;have hvn:v<n.nodes.length:=by rw[hv];exact Nat.mod_lt _ (by omega)
 have r2:bA .rem (.int .i64 (y0.toNat:Int)) (.int .i64 (n.nodes.length:Int))=.val (.int .i64 (v:Int)):=by rw[e6 .i64 (show (0:Int)<=(y0.toNat:Int) by omega) (show (0:Int)<(n.nodes.length:Int) by omega),hv];congr 2
 have w4:IntKind.wrap .i64 (y0.toNat:Int)=(y0.toNat:Int):=an (by omega) (by omega);refine be (P:=λt' df g'=>df=[]/\g'=g6/\St t' [(3,.int .u16 (m:Int)),(9,.hptr 3 0 0 0),(10,own),(11,u),(15,.int .i64 (v:Int))]) ?_ ?_
 ·have i0:GV 8 1 (.hptr 2 0 0 0) (.int .i64 0)=.val (.hptr 2 0 0 0):=rfl;simp only[sz,simprocAttr,h6,h9,c2,c3,i0,hc0,w4,lb,r2];simp[St,sx,h3,h9,h10,h11]
 clear h3 h6 h9 h10 h11;rintro t df g7 ⟨rfl,rfl,h3,h9,h10,h11,h15,-⟩;have hrow:=hO5.rows;have q1:v<(e.map ci).length:=by simp;omega
 obtain ⟨ev,hev0⟩:∃x,e[v]?=some x:=⟨_,List.getElem?_eq_getElem (by omega)⟩;have q2:(e.map ci)[v]?=some (ci ev):=by rw[List.getElem?_map,hev0];rfl
 refine be (P:=λt' df g'=>df=[]/\St t' [(3,.int .u16 (m:Int)),(9,.hptr 3 0 0 0),(10,own),(11,u),(15,.int .i64 (v:Int))]/\Own g' (g3.nx+2) u 1 ((e.set v (-1)).map ci)/\g'.nx=g7.nx/\(∀i,vid u≠some i->g'.h.get i=g7.h.get i)) ?_ ?_
 ·simp only[sz,simprocAttr,h11,h15,hrow,q1];refine cO hO5 q2 rfl rfl rfl λg' w1 w2 w3=>?_;simp only[sz,simprocAttr];refine ⟨by simp[St,sx,h3,h9,h10,h11,h15],?_,w2,w3⟩;rw[List.map_set];exact w1
 clear h3 h9 h10 h11 h15;rintro t df g8 ⟨rfl,⟨h3,h9,h10,h11,h15,-⟩,hO8,hn8,hf8⟩;have d3:g8.h.get 3=.cells 2 [[.int .i64 n.grain,gb]] 0 false false:=by rw[hf8 3 (λh=>by have:=(hO5.lt h).1;omega),c3]
 have hcv:1<=(S.ac n)[v]?.getD 0/\(S.ac n)[v]?.getD 0<=4:=by rw[List.getElem?_eq_getElem (by rw[ba];exact hvn),Option.getD_some];exact hr.cs _ (List.getElem_mem _)
 have hev1:=BF hev (v:=v) (x:=-1) (by omega) (by omega);obtain ⟨Q,hQ⟩:∃Q,Q=S.an (S.aV n (e.set v (-1))).toNat (S.bQ n).toNat:=⟨_,rfl⟩;refine be (P:=λt' df g'=>df=[]/\St t' [(9,.hptr 3 0 0 0),(10,own),(11,u),(15,.int .i64 (v:Int)),(16,.hptr g8.nx 0 0 0),(18,.int .i64 0)]/\Fr g8 g'/\g'.nx=g8.nx+1/\g'.h.get g8.nx=.cells 2 [[.int .i64 Q.1,.int .i64 Q.2]] 0 false false) ?_ ?_
 ·simp only[sz,simprocAttr,h3,h9,h10,h11,d3,r1,w1];rw[kp _ _ _ hev1 hO8 (by omega) (by omega),<-hQ];simp only[sz,simprocAttr];exact ⟨by simp[St,sx,h9,h10,h11,h15],(Fr.new _ _).putN (Nat.le_refl _) _⟩
 clear h3 h9 h10 h11 h15;rintro t df g9 ⟨rfl,⟨h9,h10,h11,h15,h16,h18,-⟩,hF9,hn9,e16⟩;obtain ⟨W,hW⟩:∃W,W=(S.bQ n).toNat:=⟨_,rfl⟩;have hwb:=uv hr;have hW0:0<W:=by omega
 rw[<-hW] at hQ;have kof:∀g,ax C0 1 N.aA [.int .i64 0,.int .i64 1] g=.val (.agg [.int .i64 (S.an (S.ms n e v 0) W).1,.int .i64 (S.an (S.ms n e v 0) W).2]):=λg=>by rw[LH,G0 hW0];exact NV (d:=1) (g:=g) (x:=0) (y:=1) (by decide) (by decide) (by decide) (by decide)
 have e3:g9.h.get 3=.cells 2 [[.int .i64 n.grain,gb]] 0 false false:=by rw[hF9.2 3 (by omega),d3]
 have hO9:=hO8.step hF9;refine be (P:=λt' df g'=>df=[]/\St t' [(9,.hptr 3 0 0 0),(10,own),(11,u),(15,.int .i64 (v:Int)),(16,.hptr g8.nx 0 0 0),(18,.int .i64 0),(19,.hptr g9.nx 0 0 0)]/\Fr g9 g'/\g'.nx=g9.nx+1/\g'.h.get g9.nx=.cells 2 [[.int .i64 (S.an (S.ms n e v 0) W).1,.int .i64 (S.an (S.ms n e v 0) W).2]] 0 false false) ?_ ?_
 ·simp only[sz,simprocAttr,kof];exact ⟨by simp[St,sx,h9,h10,h11,h15,h16,h18],(Fr.new _ _).putN (Nat.le_refl _) _⟩
 clear h9 h10 h11 h15 h16 h18;rintro t df ga ⟨rfl,⟨h9,h10,h11,h15,h16,h18,h19,-⟩,hFa,hna,e19⟩;obtain ⟨rows,r1,r2',r3,r4⟩:=hG.all;have r1:∀h',ah h' 3 gb=some rows:=r1;obtain ⟨x0,hx0,-,hxm⟩:=ak (l:=n.nodes) (j:=v) hvn;obtain ⟨row,z1,z2⟩:=r3 v x0 hx0;obtain ⟨pa,ra,rfl,-,-⟩:=dh.1 z2;have hlt:v<rows.length:=by omega
 have hry:=r4 (by omega);have hcd:(S.ac n)[v]?.getD 0=x0.card:=by simp[S.ac,hx0]
 obtain ⟨cd,hcd2⟩:=Int.eq_ofNat_of_zero_le (show 0<=x0.card by omega);rw[hcd,hcd2] at hcv;have a3:ga.h.get 3=.cells 2 [[.int .i64 n.grain,gb]] 0 false false:=by rw[hFa.2 3 (by omega),e3]
 have a16:ga.h.get g8.nx=.cells 2 [[.int .i64 Q.1,.int .i64 Q.2]] 0 false false:=by rw[hFa.2 g8.nx (by omega),e16]
 have hOa:=hO9.step hFa;simp only[sz,simprocAttr,h9,h15,a3,r1,hlt,z1,hry,hcd2,gq,gt];refine bk (m:=cd) (by omega) (λk t df g=>df=[]/\St t [(9,.hptr 3 0 0 0),(10,own),(11,u),(15,.int .i64 (v:Int)),(16,.hptr g8.nx 0 0 0),(18,.int .i64 0),(19,.hptr g9.nx 0 0 0)]/\g9.nx+1<=g.nx/\g.h.get 3=.cells 2 [[.int .i64 n.grain,gb]] 0 false false/\g.h.get g8.nx=.cells 2 [[.int .i64 Q.1,.int .i64 Q.2]] 0 false false/\g.h.get g9.nx=.cells 2 [[.int .i64 (S.an (S.ms n e v k) W).1,.int .i64 (S.an (S.ms n e v k) W).2]] 0 false false/\∃e':List Int,e'.length=e.length/\(∀x,e'.set v x=e.set v x)/\Own g (g3.nx+2) u 1 (e'.map ci))
  ⟨rfl,by simp[St,sx,h9,h10,h11,h15,h16,h18,h19],by omega,a3,a16,e19,e.set v (-1),by simp,λx=>by rw[List.set_set],hOa⟩ (by simp[sx]) (by simp[sx]) (by decide)
  (by rintro j t df g v s (rfl | rfl | rfl)<;>simp[sx,St]) ?_ ?_
 ·clear h9 h10 h11 h15 h16 h18 h19 e16 e19 e3 a3 a16;rintro k t df g hk ⟨rfl,⟨h9,h10,h11,h15,h16,h18,h19,-⟩,hnx,a3,a16,a19,e',hel,hes,hOe⟩ h87 h86;have p1:=hOe.rows;have p2:v<(e'.map ci).length:=by simp;omega
  obtain ⟨ev',hev'⟩:∃x,e'[v]?=some x:=⟨_,List.getElem?_eq_getElem (by omega)⟩;have p3:(e'.map ci)[v]?=some (ci ev'):=by rw[List.getElem?_map,hev'];rfl
  have hul:∀i,vid u=some i->5<=i/\i<g8.nx:=λi hi=>by have:=hO8.lt hi;omega
  simp only[sz,simprocAttr,h11,h15,h87,p1,p2];refine cO hOe p3 rfl rfl rfl λgb1 w1' w2 w3=>?_;have w1':Own gb1 (g3.nx+2) u 1 ((e.set v (k:Int)).map ci):=by rw[<-hes,List.map_set];exact w1'
  have x3:gb1.h.get 3=.cells 2 [[.int .i64 n.grain,gb]] 0 false false:=by rw[w3 3 (λh=>by have:=hul _ h;omega),a3]
  have x16:gb1.h.get g8.nx=.cells 2 [[.int .i64 Q.1,.int .i64 Q.2]] 0 false false:=by rw[w3 g8.nx (λh=>by have:=hul _ h;omega),a16]
  have x19:=a19;rw[<-w3 g9.nx (λh=>by have:=hul _ h;omega)] at x19;have hevk:=BF hev (v:=v) (x:=(k:Int)) (by omega) (by rw[hcd,hcd2];omega);have hmb:=ji hr (e.set v (k:Int));obtain ⟨mk,hmk⟩:∃mk,mk=(S.aV n (e.set v (k:Int))).toNat:=⟨_,rfl⟩;have hms:=LG hr e v k;rw[<-hmk] at hms;have hb1:=MS hr e v (show k<=4 by omega);have hb2:=MS hr e v (show k+1<=4 by omega);obtain ⟨c1,c2,k1,k2,k3,k4,k5,k6⟩:=ug mk W hW0;obtain ⟨b1,b2,l1,l2,l3,l4,l5,l6⟩:=ug (S.ms n e v k) W hW0;obtain ⟨d1,d2,m1,m2,m3,m4,m5,m6⟩:=ug (S.ms n e v (k+1)) W hW0;have hadd:=Jp hW0 l3 k3 l4 k4;rw[<-hms,m1] at hadd;have hq1:=Int.ofNat.inj (congrArg Prod.fst hadd);have hq2:=Int.ofNat.inj (congrArg Prod.snd hadd);rw[l1] at x19;have kr:=λg=>Cx (d:=1) (g:=g) (x:=c1) (y:=c2) (by decide) (by omega) k3 (by omega) k2;have ka:=λg=>LY (d:=1) (g:=g) (u:=b1) (u':=b2) (v:=c1) (v':=c2) (by decide) (by omega) (by omega) l3 k3 (by omega) (by omega) (by rw[hq1];omega) (by rw[hq2];omega);simp only[hadd] at ka;have hnk:(0:Int)=((0:Nat):Int):=rfl;have kp0:=λ(g:G) (h2:Own g (g3.nx+2) u 1 ((e.set v (k:Int)).map ci))=>kp g (e.set v (k:Int)) 0 hevk h2 (by decide) (by decide);rw[<-hW,<-hmk,k1] at kp0;simp only[sz,simprocAttr,h9,h10,h11,x3];rw[kp0 _ w1'];have y1:¬g9.nx=gb1.nx:=by omega
  have y2:¬gb1.nx=g9.nx:=by omega
  simp only[sz,simprocAttr,h19,x19,kr,ka,y1,y2];refine ⟨⟨by simp[St,sx,h9,h10,h11,h15,h16,h18,h19],by omega,?_,?_,by rw[m1],e.set v (k:Int),by simp,λx=>by rw[List.set_set],?_⟩,h87,h86⟩
  ·rw[if_neg (by omega),if_neg (by omega),if_neg (by omega),x3]
  ·rw[if_neg (by omega),if_neg (by omega),if_neg (by omega),x16]
  ·refine w1'.fr (by simp) λi hi=>?_;have:=hul i hi;simp[H.get_put,show ¬i=g9.nx by omega,show ¬i=gb1.nx by omega]
 ·rintro t df g ⟨rfl,⟨h9,h10,h11,h15,h16,h18,h19,-⟩,-,-,a16,a19,-⟩;have hms:S.an (S.ms n e v cd) W=Q:=by have:=Js hr (v:=v) he hvn;rw[hcd,hcd2,Int.toNat_natCast] at this;rw[hQ,S.ms,this]
  rw[hms] at a19;simp only[sz,simprocAttr,h16,h18,h19,a16,a19];rw[Ns,decide_eq_true ⟨rfl,rfl⟩];simp only[sz,simprocAttr]
end
end Hx
end
section
namespace Hx
open Go Go.RowKit Go.ChangeShapes Go.WideShapes
def rC (P:Program):List Field->Nat->Option Nat
 | [],k=>some k
 | f::fs,k=>if f.offset=k then rC P fs (k+P.cellsOf f.type) else none
def qk (P:Program):Nat->TypeId->Bool
 | 0,_=>false
 | n+1,t=>match P.underlying t with
  | some .bool=>true
  | some (.int _)=>true
  | some (.slice e)=>decide (0<P.cellsOf e)&&qk P n e
  | some (.struct fs)=>(rC P fs.toList 0 == some (P.cellsOf t))&&fs.toList.all (λf=>qk P n f.type)
  | some (.array m e)=>decide (m*P.cellsOf e=P.cellsOf t)&&qk P n e
  | _=>false
def Sh (P:Program):Nat->TypeId->List AV->Prop
 | 0,_,_=>False
 | n+1,t,xs=>match P.underlying t with
  | some .bool=>∃b,xs=[.bool b]
  | some (.int k)=>∃z,xs=[.int k z]/\(Lit.int k z).wf=true
  | some (.slice e)=>xs=[.nils]\/∃rows,xs=[.tsl 0 (P.cellsOf e) rows]/\rows.length<9223372036854775808/\∀row∈rows,Sh P n e row
  | some (.struct fs)=>∃xss,xs=xss.flatten/\All2 (λ(f:Field) ys=>Sh P n f.type ys) fs.toList xss
  | some (.array m e)=>∃xss:List (List AV),xs=xss.flatten/\xss.length=m/\∀ys∈xss,Sh P n e ys
  | _=>False
def A7 (P:Program)(w:World)(n:Nat)(t:TypeId)(xs:List AV)(cs:List Value):Prop :=
 RVs0 w xs cs/\(∀y∈xs,y.one=true/\Closed y)/\Sh P n t xs
theorem RVs0.append {w:World}{xs ys:List AV}{cs ds:List Value}(h:RVs0 w xs cs)(h':RVs0 w ys ds):RVs0 w (xs++ys) (cs++ds):=by
 refine ⟨by rw[List.length_append,List.length_append,h.1,h'.1],λi x v hx hv=>?_⟩;rcases Nat.lt_or_ge i xs.length with hi | hi
 ·rw[List.getElem?_append_left hi] at hx;rw[List.getElem?_append_left (by rw[<-h.1];exact hi)] at hv;exact h.2 i x v hx hv
 ·rw[List.getElem?_append_right hi] at hx;rw[List.getElem?_append_right (by rw[<-h.1];exact hi),<-h.1] at hv;exact h'.2 _ x v hx hv
theorem Eq (b o n:Nat):(⟨b,o,none⟩:Addr).add n=adr b (o+n):=by
 unfold Addr.add
 split
 ·rename_i h;subst h;rfl
 ·rfl
variable {H:Type}{enc:TypeId×Value->H}{P:Program}{w:World}
theorem yU:∀{fl:List Field} {k K:Nat},rC P fl k=some K->k<=K
 | [],k,K,h=>by injection h with h;omega
 | f::fl,k,K,h=>by
  unfold rC at h
  split at h
  ·have:=yU h;omega
  ·cases h
theorem JW {n:Nat}{cs:List Value}:∀{fl:List Field} {k K:Nat},rC P fl k=some K ->
  (∀f∈fl,∃xs,A7 P w n f.type xs ((cs.drop f.offset).take (P.cellsOf f.type))) ->
  ∃xss,All2 (λ(f:Field) ys=>Sh P n f.type ys) fl xss/\RVs0 w xss.flatten ((cs.drop k).take (K - k))/\∀y∈xss.flatten,y.one=true/\Closed y
 | [],k,K,h,_=>by injection h with h;subst h;exact ⟨[],trivial,by rw[Nat.sub_self,List.take_zero];exact ⟨rfl,λi x v hx=>by simp at hx⟩,λy hy=>by simp at hy⟩
 | f::fl,k,K,h,hg=>by
  unfold rC at h
  split at h
  ·rename_i ho;subst ho;obtain ⟨xs,h1,h2,h3⟩:=hg f (by simp);obtain ⟨xss,a1,a2,a3⟩:=JW h λf' hf'=>hg f' (by simp[hf']);have hle:=yU h;refine ⟨xs::xss,⟨h3,a1⟩,?_,λy hy=>?_⟩
   ·have e:(cs.drop f.offset).take (K - f.offset)=(cs.drop f.offset).take (P.cellsOf f.type)++(cs.drop (f.offset+P.cellsOf f.type)).take (K - (f.offset+P.cellsOf f.type)):=by rw[show K - f.offset=P.cellsOf f.type+(K - (f.offset+P.cellsOf f.type)) by omega,List.take_add,List.drop_drop]
    rw[e,List.flatten_cons];exact h1.append a2
   ·rw[List.flatten_cons,List.mem_append] at hy;rcases hy with hy | hy
    ·exact h2 y hy
    ·exact a3 y hy
  ·cases h
theorem Es {n:Nat}{e:TypeId}{cs:List Value}:∀{m k:Nat},
  (∀i,i<m->∃xs,A7 P w n e xs ((cs.drop ((k+i)*P.cellsOf e)).take (P.cellsOf e))) ->
  ∃xss:List (List AV),xss.length=m/\(∀ys∈xss,Sh P n e ys)/\RVs0 w xss.flatten ((cs.drop (k*P.cellsOf e)).take (m*P.cellsOf e))/\∀y∈xss.flatten,y.one=true/\Closed y
 | 0,k,_=>⟨[],rfl,λy hy=>by simp at hy,by rw[Nat.zero_mul,List.take_zero];exact ⟨rfl,λi x v hx=>by simp at hx⟩,λy hy=>by simp at hy⟩
 | m+1,k,hg=>by
  obtain ⟨xs,h1,h2,h3⟩:=hg 0 (by omega);rw[Nat.add_zero] at h1;obtain ⟨xss,a0,a1,a2,a3⟩:=Es (m:=m) (k:=k+1) λi hi=>by have:=hg (i+1) (by omega);rwa [show k+(i+1)=k+1+i by omega] at this
  refine ⟨xs::xss,by simp[a0],λys hy=>?_,?_,λy hy=>?_⟩
  ·rcases List.mem_cons.1 hy with rfl | hy
   ·exact h3
   ·exact a1 ys hy
  ·have e:(cs.drop (k*P.cellsOf e)).take ((m+1)*P.cellsOf e)=(cs.drop (k*P.cellsOf e)).take (P.cellsOf e)++(cs.drop ((k+1)*P.cellsOf e)).take (m*P.cellsOf e):=by rw[show (m+1)*P.cellsOf e=P.cellsOf e+m*P.cellsOf e by rw[Nat.add_mul];omega,List.take_add,List.drop_drop,Nat.add_mul,Nat.one_mul]
   rw[e,List.flatten_cons];exact h1.append a2
  ·rw[List.flatten_cons,List.mem_append] at hy;rcases hy with hy | hy
   ·exact h2 y hy
   ·exact a3 y hy
theorem BV:∀(n:Nat) (t:TypeId),qk P n t=true->∀(fuel:Nat) (cs:List Value) (x:DataW H×List MemPlace),DataW.trod enc P w 0 (λ_=>true) true fuel t cs=some x->∃xs,A7 P w n t xs cs:=by
 intro n
 induction n with
 | zero=>intro t h;simp[qk] at h
 | succ n ih =>
  intro t h fuel cs x hx;unfold qk at h
  split at h
  ·rename_i hu;obtain ⟨b,rfl,-⟩:=DataW.trod_bool hu hx;refine ⟨[.bool b],⟨rfl,λi x v h1 h2=>?_⟩,λy hy=>?_,?_⟩
   ·cases i with
    | zero=>simp at h1 h2;subst h1;subst h2;exact .bool _ _
    | succ i=>simp at h1
   ·simp at hy;subst hy;exact ⟨rfl,.bool _⟩
   ·unfold Sh;rw[hu];exact ⟨b,rfl⟩
  ·rename_i k hu;obtain ⟨z,rfl,-,hwf⟩:=DataW.trod_int hu hx;refine ⟨[.int k z],⟨rfl,λi x v h1 h2=>?_⟩,λy hy=>?_,?_⟩
   ·cases i with
    | zero=>simp at h1 h2;subst h1;subst h2;exact .int _ _ _
    | succ i=>simp at h1
   ·simp at hy;subst hy;exact ⟨rfl,.int _ _⟩
   ·unfold Sh;rw[hu];exact ⟨z,rfl,hwf⟩
  ·rename_i e hu;rw[Bool.and_eq_true,decide_eq_true_eq] at h;obtain ⟨hpos,hp⟩:=h;rcases DataW.trod_slice hu hx with ⟨rfl,-⟩ | ⟨a,len,cap,elems,rest,m,-,rfl,-,-,hlc,hcm,hlen,hel,-,-⟩
   ·refine ⟨[.nils],⟨rfl,λi x v h1 h2=>?_⟩,λy hy=>?_,?_⟩
    ·cases i with
     | zero=>simp at h1 h2;subst h1;subst h2;exact .nils _
     | succ i=>simp at h1
    ·simp at hy;subst hy;exact ⟨rfl,.nils⟩
    ·unfold Sh;rw[hu];exact .inl rfl
   ·have each:∀i,i<len->∃xs vs,w.cells? 0 (a.add (i*P.cellsOf e)) (P.cellsOf e)=some vs/\A7 P w n e xs vs:=by intro i hi;have:=hel i hi;rw[List.getElem?_eq_getElem (show i<elems.length by omega),Option.bind_eq_some_iff] at this;obtain ⟨vs,h1,h2⟩:=this;obtain ⟨xs,hg⟩:=ih e hp _ _ _ h2;exact ⟨xs,vs,h1,hg⟩
    let rowf:Nat->List AV:=λi=>if hi:i<len then Classical.choose (each i hi) else []
    let valf:Nat->List Value:=λi=>if hi:i<len then Classical.choose (Classical.choose_spec (each i hi)) else []
    have hrow:∀i,i<len->w.cells? 0 (a.add (i*P.cellsOf e)) (P.cellsOf e)=some (valf i)/\A7 P w n e (rowf i) (valf i):=by intro i hi;have:=Classical.choose_spec (Classical.choose_spec (each i hi));simpa only[rowf,valf,dif_pos hi] using this
    have hget:∀(i:Nat) (row:List AV),((List.range len).map rowf)[i]?=some row->i<len/\row=rowf i:=by
     intro i row h1;rw[List.getElem?_map] at h1;rcases Nat.lt_or_ge i len with hi | hi
     ·rw[List.getElem?_range hi] at h1;injection h1 with h1;exact ⟨hi,h1.symm⟩
     ·rw[List.getElem?_eq_none (by simpa using hi)] at h1;cases h1
    refine ⟨[.tsl 0 (P.cellsOf e) ((List.range len).map rowf)],⟨rfl,λi x v h1 h2=>?_⟩,λy hy=>?_,?_⟩
    ·cases i with
     | succ i=>simp at h1
     | zero =>
      simp at h1 h2;subst h1;subst h2;rcases Nat.eq_zero_or_pos len with h0 | h0
      ·subst h0;exact .tnil 0 0 _ a cap (Nat.le_refl _)
      ·obtain ⟨b,o,spot⟩:=a;have hc0:=World.cells?_some (hrow 0 h0).1;have hv0:(valf 0)[0]?=some (valf 0)[0]:=List.getElem?_eq_getElem (by rw[hc0.2.1];exact hpos);have h00:=hc0.2.2 0 hpos;rw[hv0] at h00;have hspot:spot=none:=by simpa [Addr.add] using World.cell?_spot h00
       subst hspot;have cellat:∀i j row x,((List.range len).map rowf)[i]?=some row->row[j]?=some x->∃v,(valf i)[j]?=some v/\w.cell? (adr b (o+i*P.cellsOf e+j))=some v/\RV w gm0 av0 0 x v:=by
        intro i j row x hr hxj;obtain ⟨hi,rfl⟩:=hget i row hr;obtain ⟨q1,q2⟩:=hrow i hi;have hj:j<(rowf i).length:=(List.getElem?_eq_some_iff.1 hxj).1;have hj':j<(valf i).length:=by rw[<-q2.1.1];exact hj
        have hcs:=World.cells?_some q1;have hcell:=hcs.2.2 j (by rw[<-hcs.2.1];exact hj');rw[List.getElem?_eq_getElem hj'] at hcell;refine ⟨_,List.getElem?_eq_getElem hj',?_,q2.1.2 j x _ hxj (List.getElem?_eq_getElem hj')⟩;rw[Eq,show adr b (o+i*P.cellsOf e)=(⟨b,o+i*P.cellsOf e,none⟩:Addr) from rfl,Eq] at hcell;exact hcell
       have hb:b<w.heap.size:=by have:=Dp h00;simpa [Addr.add] using this
       have hrl:((List.range len).map rowf).length=len:=by simp
       have key:=RV.tsl (w:=w) (γ:=gm0) (A:=av0) 0 0 (P.cellsOf e) ((List.range len).map rowf) b o cap (λi j=>(valf i)[j]?.getD undef) (Nat.le_refl _) (by rw[hrl];exact hlc) hb (Ol b) (λh=>h)
        (λi row hr=>by
         obtain ⟨hi,rfl⟩:=hget i row hr;obtain ⟨q1,q2⟩:=hrow i hi;rw[q2.1.1,(World.cells?_some q1).2.1])
        (λi j row x hr hxj=>by
         obtain ⟨hi,rfl⟩:=hget i row hr;exact ((hrow i hi).2.2.1 x (List.mem_of_getElem? hxj)).1)
        (λi j row x hr hxj=>by
         obtain ⟨v,v1,v2,v3⟩:=cellat i j row x hr hxj;rw[v2,v1];rfl)
        (λi j row x hr hxj=>by
         obtain ⟨v,v1,v2,v3⟩:=cellat i j row x hr hxj;rw[v1];exact v3)
        (λrow hr x hx=>by
         obtain ⟨i,hi⟩:=List.getElem?_of_mem hr;obtain ⟨hi2,rfl⟩:=hget i row hi;exact ((hrow i hi2).2.2.1 x hx).2)
       rw[hrl] at key;exact key
    ·simp only[List.mem_singleton] at hy;subst hy;refine ⟨rfl,.tsl _ _ _ λrow hr x hx=>?_⟩;obtain ⟨i,hi⟩:=List.getElem?_of_mem hr;obtain ⟨hi2,rfl⟩:=hget i row hi;exact ((hrow i hi2).2.2.1 x hx).2
    ·unfold Sh;rw[hu];refine .inr ⟨_,rfl,?_,λrow hr=>?_⟩
     ·rw[List.length_map,List.length_range];have:maxLen<9223372036854775808:=by decide
      omega
     ·obtain ⟨i,hi⟩:=List.getElem?_of_mem hr;obtain ⟨hi2,rfl⟩:=hget i row hi;exact (hrow i hi2).2.2.2
  ·rename_i fs hu;rw[Bool.and_eq_true] at h;obtain ⟨hc,hp⟩:=h;have hc:rC P fs.toList 0=some (P.cellsOf t):=eq_of_beq hc;obtain ⟨ys,m,-,-,hl,hyl,hel⟩:=DataW.trod_struct hu hx;obtain ⟨xss,a1,a2,a3⟩:=JW (w:=w) (n:=n) (cs:=cs) hc λf hf=>by
    obtain ⟨i,hi,e⟩:=List.mem_iff_getElem.1 hf;have hfi:fs[i]?=some f:=by rw[<-Array.getElem?_toList,List.getElem?_eq_getElem hi,e]
    have:=hel i f hfi;rw[List.getElem?_eq_getElem (show i<ys.length by rw[hyl];simpa using hi)] at this;exact ih f.type (List.all_eq_true.1 hp f hf) _ _ _ this
   rw[List.drop_zero,Nat.sub_zero,<-hl,List.take_length] at a2;refine ⟨xss.flatten,a2,a3,?_⟩;unfold Sh;rw[hu];exact ⟨xss,rfl,a1⟩
  ·rename_i m e hu;rw[Bool.and_eq_true,decide_eq_true_eq] at h;obtain ⟨hc,hp⟩:=h;obtain ⟨ys,q,-,-,hl,hyl,hel⟩:=DataW.trod_array hu hx;obtain ⟨xss,a0,a1,a2,a3⟩:=Es (w:=w) (n:=n) (e:=e) (cs:=cs) (m:=m) (k:=0) λi hi=>by have:=hel i hi;rw[List.getElem?_eq_getElem (show i<ys.length by omega)] at this;rw[Nat.zero_add];exact ih e hp _ _ _ this
   rw[Nat.zero_mul,List.drop_zero,hc,<-hl,List.take_length] at a2;refine ⟨xss.flatten,a2,a3,?_⟩;unfold Sh;rw[hu];exact ⟨xss,rfl,a0,a1⟩
  ·cases h
theorem nM {n:Nat}{t:TypeId}{xs:List AV}(hu:P.underlying t=some (.int .u8))(h:Sh P n t xs):∃x:UInt8,Rp.rp NoP 0 .nil x xs:=by
 cases n with
 | zero=>exact h.elim
 | succ n =>
  unfold Sh at h;rw[hu] at h;obtain ⟨z,rfl,hw⟩:=h;simp only[Lit.wf,IntKind.min,IntKind.max,IntKind.signed,IntKind.bits,Bool.and_eq_true] at hw;refine ⟨UInt8.ofNat z.toNat,ic.2 ?_⟩;have h1:0<=z:=by simpa using hw.1
  have h2:z<=255:=by simpa using hw.2
  have h3:(UInt8.ofNat z.toNat).toNat=z.toNat:=UInt8.toNat_ofNat_of_lt' (by show z.toNat<256;omega);rw[h3,Int.toNat_of_nonneg h1]
theorem AJ {α:Type} [Rp α]{n:Nat}{t e:TypeId}{xs:List AV}(hu:P.underlying t=some (.slice e))(hsz:P.cellsOf e=Rp.sz α)(hel:∀ys,Sh P n e ys->∃y:α,Rp.rp NoP 0 .nil y ys)(h:Sh P (n+1) t xs) :
  ∃l:List α,Rp.rp NoP 0 .nil l xs:=by
 unfold Sh at h;rw[hu] at h;rcases h with rfl | ⟨rows,rfl,hl,hr⟩
 ·exact ⟨[],.nils,rfl,by simp,rfl⟩
 ·have:∀rows:List (List AV),(∀row∈rows,Sh P n e row)->∃l:List α,All2 (Rp.rp NoP 0 .nil) l rows:=by
   intro rows
   induction rows with
   | nil=>intro _;exact ⟨[],trivial⟩
   | cons r rows ih =>
    intro h;obtain ⟨y,hy⟩:=hel r (h r (by simp));obtain ⟨l,hl⟩:=ih λrow hrow=>h row (by simp[hrow]);exact ⟨y::l,hy,hl⟩
  obtain ⟨l,ha⟩:=this rows hr;exact ⟨l,_,rfl,by rw[ha.len];exact hl,Nat.le_refl _,.inl hsz,ha⟩
theorem Kh {n m:Nat}{t e:TypeId}{xs:List AV}(hu:P.underlying t=some (.array m e))(h:Sh P (n+1) t xs):∃xss:List (List AV),xs=xss.flatten/\xss.length=m/\∀ys∈xss,Sh P n e ys:=by unfold Sh at h;rw[hu] at h;exact h
theorem zx {n:Nat}{t:TypeId}{fs:Array Field}{xs:List AV}(hu:P.underlying t=some (.struct fs))(h:Sh P (n+1) t xs):∃xss,xs=xss.flatten/\All2 (λ(f:Field) ys=>Sh P n f.type ys) fs.toList xss:=by unfold Sh at h;rw[hu] at h;exact h
end Hx
end
