/- A part of the proof: an interpreter over abstract values, shown right against the model, and what the functions of the chapter compute on it. -/
import Derived.Test.YtkbieohddgjioaaHx12
set_option linter.unusedVariables false
set_option linter.unusedSimpArgs false
set_option linter.unnecessarySimpa false
section
namespace Hx
open Go
noncomputable section
def cbr (x:Br):List AV:=[.int .i64 x.1,.int .u64 (x.2:Int)]
theorem CY (d:Nat)(a b:AV)(g:G):fR C0 (I C0) d (.clo 67 [] []) [a,b] g=orF ((I C0).call d N.bf [a,b] g):=by kernel_rfl
theorem xi (C:Cfg)(t:T)(g:G)(f:Od)(xs:List Od):(SO.foot C t g (.dyn f xs)).sr=[]:=by
 simp only[SO.foot]
 split
 ·rw[aa];split<;>rfl
 ·rfl
theorem Eg {d:Nat}{x y:Br}{g:G}{K:AV->G->Prop}{D:ADf->Prop}(hx:0<=x.1/\x.1<=1000)(hy:0<=y.1/\y.1<=1000)
  (kk:∀g',Fr g g'->(∀i∈g'.lg,i∈g.lg\/g.nx<=i)->K (.int .i64 (x.1 - y.1)) g'):(fR C0 (I C0) d (.clo 67 [] []) [.agg (cbr x),.agg (cbr y)] g).sat K g D:=by
 rw[CY];refine mw j8 (by simp[cP]) ?_;have w1:IntKind.wrap .i64 (x.1 - y.1)=x.1 - y.1:=aB (by omega) (by omega);simp only[sz,simprocAttr,cbr,cP,dN,w1,show ¬g.nx=g.nx+1 from by omega];refine kk _ ⟨?_,?_⟩ ?_
 ·simp;omega
 ·intro i hi;simp[H.get_put,show ¬i=g.nx by omega,show ¬i=g.nx+1 by omega]
 ·intro i hi;simp at hi;rcases hi with h | h | h
  ·exact .inr (by omega)
  ·exact .inr (by omega)
  ·exact .inl h
theorem rN {p:List Br}{y:Br}{k:Nat}(h1:∀b∈p.take k,b.1<y.1)(h2:∀b∈p.drop k,y.1<b.1):p.take k++y::p.drop k=S.aE p y:=by
 unfold S.aE;have e1:p.filter (λb=>decide (b.1<y.1))=p.take k:=by
  conv=>lhs;rw[<-List.take_append_drop k p]
  rw[List.filter_append,List.filter_eq_self.2 λb hb=>by simpa using h1 b hb,List.filter_eq_nil_iff.2 λb hb=>by have:=h2 b hb;simp;omega,List.append_nil]
 have e2:p.filter (λb=>decide (y.1<b.1))=p.drop k:=by
  conv=>lhs;rw[<-List.take_append_drop k p]
  rw[List.filter_append,List.filter_eq_nil_iff.2 λb hb=>by have:=h1 b hb;simp;omega,List.filter_eq_self.2 λb hb=>by simpa using h2 b hb,List.nil_append]
 rw[e1,e2]
def S.aF (p:List Br)(y:Br)(q:List Br)(k:Nat):List Br:=p.take k++y::p.drop k++q
theorem B5 {p q:List Br}{y:Br}{k:Nat}:(S.aF p y q k).length=p.length+1+q.length:=by simp[S.aF,List.length_append];omega
theorem It {p q:List Br}{y:Br}{k:Nat}(h:k<=p.length):(S.aF p y q k)[k]?=some y:=by rw[S.aF,List.append_assoc,List.getElem?_append_right (by rw[List.length_take];omega),List.length_take,Nat.min_eq_left h,Nat.sub_self];rfl
theorem Fh {p q:List Br}{y z:Br}{k:Nat}(h:p[k]?=some z):(S.aF p y q (k+1))[k]?=some z:=by have hk:=(List.getElem?_eq_some_iff.1 h).1;rw[S.aF,List.append_assoc,List.getElem?_append_left (by simp;omega),List.getElem?_take,if_pos (by omega),h]
theorem Fi {p q:List Br}{y z:Br}{k:Nat}(h:p[k]?=some z):((S.aF p y q (k+1)).set (k+1) z).set k y=S.aF p y q k:=by
 have hk:=(List.getElem?_eq_some_iff.1 h).1;have e1:p.take (k+1)=p.take k++[z]:=by rw[List.take_add_one,h];rfl
 have e2:p.drop k=z::p.drop (k+1):=by rw[List.drop_eq_getElem_cons hk];congr 1;rw[List.getElem?_eq_getElem hk] at h;injection h
 have e3:(p.take k).length=k:=by rw[List.length_take];omega
 rw[S.aF,S.aF,e1,e2];simp only[List.append_assoc,List.cons_append,List.nil_append,List.singleton_append];rw[List.set_append_right _ _ (by omega),List.set_append_right _ _ (by omega),e3];rw[show k+1 - k=1 by omega,Nat.sub_self]
 rfl
theorem Co (l:List Br)(i:Nat)(x:Br):(l.map cbr).set i (cbr x)=(l.set i x).map cbr:=by rw[List.map_set]
def Sr (v:AV)(g g':G):Prop:=g.nx<=g'.nx/\(∀i,i<g.nx->vid v≠some i->g'.h.get i=g.h.get i)/\∀i∈g'.lg,vid v=some i\/i∈g.lg\/g.nx<=i
theorem Sr.refl (v:AV)(g:G):Sr v g g:=⟨Nat.le_refl _,λ_ _ _=>rfl,λ_ h=>.inr (.inl h)⟩
theorem Sr.trans {v:AV}{g g1 g2:G}(h:Sr v g g1)(h2:Sr v g1 g2):Sr v g g2 :=
 ⟨Nat.le_trans h.1 h2.1,λi hi hv=>by rw[h2.2.1 i (Nat.lt_of_lt_of_le hi h.1) hv,h.2.1 i hi hv],λi hi=>by
  rcases h2.2.2 i hi with h3 | h3 | h3
  ·exact .inl h3
  ·exact h.2.2 i h3
  ·exact .inr (.inr (Nat.le_trans h.1 h3))⟩
def LIn (v:AV)(n i k:Nat):List (Nat×AV):=[(0,v),(1,.int .i64 0),(2,.int .i64 (n:Int)),(3,.clo 67 [] []),(8,.int .i64 (i:Int)),(9,.int .i64 (k:Int))]
set_option maxRecDepth 20000 in
theorem EW {d b:Nat}{v:AV}{p q:List Br}{y:Br}{g0:G}{Q:QT}{t:T}{g:G}(hp:p.Pairwise λa b=>a.1<b.1)(hb:∀x∈p,0<=x.1/\x.1<=1000)(hy:0<=y.1/\y.1<=1000)(hne:∀x∈p,x.1≠y.1)(hl:p.length<=1000)
  (ht:St t (LIn v (p.length+1+q.length) p.length p.length)) (ho:Own g b v 2 ((S.aF p y q p.length).map cbr)) (hs:Sr v g0 g)
  (fin:∀t g,St t ((LIn v (p.length+1+q.length) p.length 0).take 5)->Own g b v 2 ((S.aE p y++q).map cbr)->Sr v g0 g->Q (.exit 2) t [] g) :
  wpL (wp C0 d none aE) Q t [] g:=by
 refine r_ (λk t df g=>df=[]/\k<=p.length/\St t (LIn v (p.length+1+q.length) p.length k)/\Own g b v 2 ((S.aF p y q k).map cbr)/\Sr v g0 g/\∀x∈p.drop k,y.1<x.1) p.length ⟨rfl,Nat.le_refl _,ht,ho,hs,by simp⟩ ?_;clear ht ho hs;rintro k t df g ⟨rfl,hk,⟨h0,h1,h2,h3,h8,h9,-⟩,ho,hs,hgt⟩;cases k with
 | zero =>
  simp only[sz,simprocAttr,sf,aE,h0,h1,h3,h9];refine ⟨?_,?_⟩
  ·simp only[List.reverse_cons,List.reverse_nil,List.nil_append,List.cons_append,G.new_lg,G.put_lg,setLog_lg];exact aC [false,false,false,false,false,false,false,false,false,false,false,false,false,false,false,false,false] [] (by simp[All2,af,au,xi]) (by decide) (by simp)
  refine fin _ _ (by simp[St,LIn,sx,h0,h1,h2,h3,h8,h9]) ?_ ?_
  ·rw[<-rN (k:=0) (by simp) hgt];exact ho.fr (by first | (simp;done) | (simp;omega)) λi _=>by simp
  ·refine hs.trans ⟨by first | (simp;done) | (simp;omega),λi hi hvi=>by simp,λi hi=>?_⟩;simp at hi;exact .inr (.inl hi)
 | succ k =>
  obtain ⟨z,hz⟩:∃z,p[k]?=some z:=⟨_,List.getElem?_eq_getElem (by omega)⟩;have hzm:z∈p:=List.mem_of_getElem? hz;have u1:k+1<((S.aF p y q (k+1)).map cbr).length:=by simp[B5];omega
  have u2:((S.aF p y q (k+1)).map cbr)[k+1]?=some [.int .i64 y.1,.int .u64 (y.2:Int)]:=by rw[List.getElem?_map,It (by omega)];rfl
  have u3:k<((S.aF p y q (k+1)).map cbr).length:=by simp[B5];omega
  have u4:((S.aF p y q (k+1)).map cbr)[k]?=some [.int .i64 z.1,.int .u64 (z.2:Int)]:=by rw[List.getElem?_map,Fh hz];rfl
  have c1:decide ((0:Int)<((k+1:Nat):Int))=true:=decide_eq_true (by omega);have w1:IntKind.wrap .i64 (((k+1:Nat):Int) - 1)=(k:Int):=by rw[aB (by omega) (by omega)];omega
  simp only[sz,simprocAttr,sf,aE,h0,h1,h3,h9,c1,w1,ho.rows,u1,u2,u3,u4];refine Eg (x:=y) (y:=z) hy (hb z hzm) λg1 f1 l1=>?_;have o1:Own g1 b v 2 ((S.aF p y q (k+1)).map cbr):=ho.fr (Nat.le_trans (by first | (simp;done) | (simp;omega)) f1.1) λi hi=>by rw[f1.2 i (by have:=(ho.lt hi).2;simp;omega)];simp
  by_cases c2:y.1 - z.1<0
  ·simp only[sz,simprocAttr,sf,c2];refine ⟨?_,?_⟩
   ·simp only[List.reverse_cons,List.reverse_nil,List.nil_append,List.cons_append,G.new_lg,G.put_lg,setLog_lg];exact aC [false,false,false,false,false,false,false,false,false,false,false,false,false,false,true,false,false] [] (by simp[All2,af,au,xi]) (by decide) (by simp)
   simp only[sz,simprocAttr,sf,h0,h9,w1,o1.rows,u1,u2,u3,u4];refine mQ (v:=v) (sz:=2) (n:=2) (i:=k+1) (off:=0) (x:=.agg (cbr z)) (row:=cbr y) (row':=cbr z) (o1.fr (by first | (simp;done) | (simp;omega)) λi _=>by simp) u2 rfl rfl rfl λg2 o2 n2 f2 p2=>?_;rw[Co] at o2;simp only[sy] at n2;have u5:k<(((S.aF p y q (k+1)).set (k+1) z).map cbr).length:=by simpa using u3
   have u6:(((S.aF p y q (k+1)).set (k+1) z).map cbr)[k]?=some (cbr z):=by rw[List.getElem?_map,List.getElem?_set_ne (by omega),Fh hz];rfl
   simp only[sz,simprocAttr,sf,o2.rows,u5];refine mQ (v:=v) (sz:=2) (n:=2) (i:=k) (off:=0) (x:=.agg (cbr y)) (row:=cbr z) (row':=cbr y) (o2.fr (by first | (simp;done) | (simp;omega)) λi _=>by simp) u6 rfl rfl rfl λg3 o3 n3 f3 p3=>?_;rw[Co,Fi hz] at o3;simp only[sy] at n3;have w2:IntKind.wrap .i64 (((k+1:Nat):Int) - 1)=(k:Int):=w1;simp only[sz,simprocAttr,sf,h9,w2];refine ⟨?_,k,by omega,by omega,?_,?_,?_,?_⟩
   ·simp only[List.reverse_cons,List.reverse_nil,List.nil_append,List.cons_append,G.new_lg,G.put_lg,setLog_lg];refine aC [false,false,false,false,false,false,false,false,false,false,false,false,false,false,false,true,false,true] [(2,15),(3,15),(4,15)] (by simp[All2,af,au]) (by decide) ?_;rintro p hp x y hx hy;simp only[List.mem_cons,List.not_mem_nil,or_false] at hp;rcases hp with rfl | rfl | rfl<;>(simp at hx hy;subst hx;subst hy;refine bH rfl rfl rfl rfl ?_ ?_ ?_<;>simp[af,au,ae])
   ·simp[St,LIn,sx,h0,h1,h2,h3,h8]
   ·exact o3.fr (by first | (simp;done) | (simp;omega)) λi _=>by simp
   ·refine hs.trans ⟨?_,λi hi hvi=>?_,λi hi=>?_⟩
    ·have:=f1.1;simp at this ⊢;omega
    ·have q3:=f3 i hvi;have q2:=f2 i hvi;have q1:=f1.2 i (by simp;omega);simp at q1 q2 q3;simp[q1,q2,q3]
    ·have q1:=p3 i;have q2:=p2 i;have q3:=l1 i;simp at hi q1 q2 q3;rcases hi with h | h | h | h
     ·exact .inl (q1 h)
     ·exact .inl (q2 h)
     ·exact .inr (.inr (by have:=q3 h;omega))
     ·exact .inr (.inl h)
   ·intro x hx;have e2:p.drop k=z::p.drop (k+1):=by rw[List.drop_eq_getElem_cons (by omega)];congr 1;rw[List.getElem?_eq_getElem (by omega)] at hz;injection hz
    rw[e2] at hx;rcases List.mem_cons.1 hx with rfl | hx
    ·omega
    ·exact hgt x hx
  ·simp only[sz,simprocAttr,sf,c2];refine ⟨?_,?_⟩
   ·simp only[List.reverse_cons,List.reverse_nil,List.nil_append,List.cons_append,G.new_lg,G.put_lg,setLog_lg];exact aC [false,false,false,false,false,false,false,false,false,false,false,false,false,false,true,false,false] [] (by simp[All2,af,au,xi]) (by decide) (by simp)
   refine fin _ _ (by simp[St,LIn,sx,h0,h1,h2,h3,h8,h9]) ?_ ?_
   ·have hlt:∀x∈p.take (k+1),x.1<y.1:=λx hx=>by
     obtain ⟨i,hi,he⟩:=List.mem_iff_getElem.1 hx;rw[List.length_take] at hi;rw[List.getElem_take] at he;have hzy:z.1<y.1:=by have:=hne z hzm;omega
     by_cases e:i=k
     ·subst e;rw[List.getElem?_eq_getElem (by omega)] at hz;injection hz with hz;rw[<-he,hz];exact hzy
     ·have h1:=List.pairwise_iff_getElem.1 hp i k (by omega) (by omega) (by omega);rw[List.getElem?_eq_getElem (by omega)] at hz;injection hz with hz;rw[he,hz] at h1;omega
    rw[<-rN hlt hgt];exact o1.fr (by first | (simp;done) | (simp;omega)) λi _=>by simp
   ·refine hs.trans ⟨?_,λi hi hvi=>?_,λi hi=>?_⟩
    ·have:=f1.1;simp at this ⊢;omega
    ·have q1:=f1.2 i (by simp;omega);simp at q1;simp[q1]
    ·have q3:=l1 i;simp at hi q3;rcases hi with h | h
     ·exact .inr (.inr (by have:=q3 h;omega))
     ·exact .inr (.inl h)
theorem ES {p:List Br}{y:Br}(h:∀b∈p,b.1<y.1):S.aE p y=p++[y]:=by have:=rN (p:=p) (y:=y) (k:=p.length) (by simpa using h) (by simp);rw[<-this];simp
def S.bj (s:List Br)(x:Br)(j:Nat):List Br:=if j<s.length then s++[x] else S.aE s x
theorem GQ (x:Br):S.aE [] x=[x]:=rfl
theorem F8 (s:List Br)(x:Br):S.bj s x 0=s++[x]:=by
 unfold S.bj
 split
 ·rfl
 ·have:s=[]:=List.eq_nil_of_length_eq_zero (by omega);rw[this,GQ];rfl
set_option maxRecDepth 20000 in
theorem EX {d b:Nat}{v:AV}{s:List Br}{x:Br}{g:G}{K:AV->G->Prop}{D:ADf->Prop}(hp:s.Pairwise λa b=>a.1<b.1)(hb:∀x∈s,0<=x.1/\x.1<=1000)(hx:0<=x.1/\x.1<=1000)(hne:∀y∈s,y.1≠x.1)(hl:s.length<=999)
  (ho:Own g b v 2 ((s++[x]).map cbr)) (kk:∀u g',Own g' b v 2 ((S.aE s x).map cbr)->Sr v g g'->K u g'):(ay C0 d N.a_ [v,.int .i64 0,.int .i64 ((s.length+1:Nat):Int),.clo 67 [] []] g).sat K g D:=by
 rw[cw];refine mw cO (by simp[aT]) ?_;have w0:IntKind.wrap .i64 1=1:=aB (by omega) (by omega);simp only[sz,simprocAttr,aT,be,w0];refine ru (m:=s.length) (λj t df g'=>df=[]/\St t [(0,v),(1,.int .i64 0),(2,.int .i64 ((s.length+1:Nat):Int)),(3,.clo 67 [] []),(8,.int .i64 ((j+1:Nat):Int))]/\Own g' b v 2 ((S.bj s x j).map cbr)/\Sr v g g') ⟨rfl,by simp[St,sx],by rw[F8];exact ho,Sr.refl _ _⟩ ?_ ?_ ?_
 ·rintro j t df g' hj ⟨rfl,⟨h0,h1,h2,h3,h8,-⟩,o,hs⟩;have c:decide (((j+1:Nat):Int)<((s.length+1:Nat):Int))=decide (j<s.length):=decide_eq_decide.2 (by omega);simp only[sz,simprocAttr,h2,h8,c];exact ⟨by simp[St,sx,h0,h1,h2,h3,h8],o,hs⟩
 ·rintro j t df g' hj ⟨rfl,⟨h0,h1,h2,h3,h8,-⟩,o,hs⟩;have ev:S.bj s x j=s++[x]:=if_pos hj;rw[ev] at o;obtain ⟨p,y,q,e1,e2,e3,e4⟩:∃p y q,s++[x]=p++y::q/\p.length=j+1/\S.bj s x (j+1)=S.aE p y++q/\(p.Pairwise (λa b=>a.1<b.1)/\(∀z∈p,0<=z.1/\z.1<=1000)/\(0<=y.1/\y.1<=1000)/\∀z∈p,z.1≠y.1):=by
   by_cases c:j+1<s.length
   ·refine ⟨s.take (j+1),s[j+1],s.drop (j+2)++[x],?_,by simp;omega,?_,hp.sublist (List.take_sublist _ _),λz hz=>hb z (List.mem_of_mem_take hz),hb _ (List.getElem_mem _),?_⟩
    ·rw[<-List.cons_append,<-List.drop_eq_getElem_cons c,<-List.append_assoc,List.take_append_drop]
    ·have hlt:∀b∈s.take (j+1),b.1<(s[j+1]).1:=λb hb=>by obtain ⟨i,hi,he⟩:=List.mem_iff_getElem.1 hb;rw[List.length_take] at hi;rw[List.getElem_take] at he;rw[<-he];exact List.pairwise_iff_getElem.1 hp i (j+1) (by omega) (by omega) (by omega)
     rw[ES hlt,S.bj,if_pos c,List.append_assoc,List.singleton_append,<-List.cons_append,<-List.drop_eq_getElem_cons c,<-List.append_assoc,List.take_append_drop]
    ·intro z hz;obtain ⟨i,hi,he⟩:=List.mem_iff_getElem.1 hz;rw[List.length_take] at hi;rw[List.getElem_take] at he;have:=List.pairwise_iff_getElem.1 hp i (j+1) (by omega) (by omega) (by omega);rw[<-he];omega
   ·exact ⟨s,x,[],rfl,by omega,by rw[S.bj,if_neg (by omega),List.append_nil],hp,hb,hx,hne⟩
  obtain ⟨f1,f2,f3,f4⟩:=e4;have el:s.length+1=p.length+1+q.length:=by have:=congrArg List.length e1;simp at this;omega
  have em:s++[x]=S.aF p y q p.length:=by rw[S.aF,List.take_length,List.drop_length,List.append_assoc];exact e1
  rw[em] at o;rw[el] at h2;rw[<-e2] at h8;simp only[sz,simprocAttr,h8];refine EW (b:=b) f1 f2 f3 f4 (by omega) (by simp[St,LIn,sx,h0,h1,h2,h3,h8]) o hs ?_
  ·rintro t g2 ⟨h0,h1,h2,h3,h8,-⟩ o2 hs2;have w:IntKind.wrap .i64 ((p.length:Int)+1)=((p.length+1:Nat):Int):=by rw[aB (by omega) (by omega)];omega
   simp only[sz,simprocAttr,bf,h8,w];refine ⟨?_,by rw[e3];exact o2,hs2⟩;rw[<-el] at h2;simp[St,sx,h0,h1,h2,h3,e2]
 ·rintro t df g' ⟨rfl,-,o,hs⟩;rw[S.bj,if_neg (by omega)] at o;simp only[sz,simprocAttr];exact kk _ _ o hs
theorem dZ {C:Cfg}{n d f:Nat}{g:G}{xs:List AV}{v:AV}(h:am (sem C n) d g f xs=.val v):am (I C) d g f xs=.val v:=by
 obtain ⟨N,hN⟩:=pT (C:=C) (d:=d) (g:=g) (f:=f) (args:=xs);have e:am (sem C (max n N)) d g f xs=am (I C) d g f xs:=hN (max n N) (by omega);rw[<-e];rcases qf (AR C (show n<=max n N by omega)) (d:=d) (g:=g) (f:=f) (args:=xs) with q | q
 ·rw[h] at q;cases q
 ·rw[<-q,h]
theorem Ee (d:Nat)(xs:List AV)(g:G):ay C0 d N.aa xs g=am (I C0) d g N.aa xs:=by kernel_rfl
theorem I6 (d:Nat)(g:G):am (sem C0 100) (d+1) g N.aa [.int .u64 1]=.val (.int .i64 1):=by kernel_rfl
theorem I7 (d:Nat)(g:G):am (sem C0 100) (d+1) g N.aa [.int .u64 2]=.val (.int .i64 2):=by kernel_rfl
theorem I8 (d:Nat)(g:G):am (sem C0 100) (d+1) g N.aa [.int .u64 3]=.val (.int .i64 2):=by kernel_rfl
theorem I9 (d:Nat)(g:G):am (sem C0 100) (d+1) g N.aa [.int .u64 4]=.val (.int .i64 3):=by kernel_rfl
theorem I_ (d:Nat)(g:G):am (sem C0 100) (d+1) g N.aa [.int .u64 5]=.val (.int .i64 3):=by kernel_rfl
theorem Ja (d:Nat)(g:G):am (sem C0 100) (d+1) g N.aa [.int .u64 6]=.val (.int .i64 3):=by kernel_rfl
theorem Jb (d:Nat)(g:G):am (sem C0 100) (d+1) g N.aa [.int .u64 7]=.val (.int .i64 3):=by kernel_rfl
theorem Jc (d:Nat)(g:G):am (sem C0 100) (d+1) g N.aa [.int .u64 8]=.val (.int .i64 4):=by kernel_rfl
theorem Is {d n:Nat}{g:G}(h:1<=n/\n<=8):∃r:Int,ay C0 (d+1) N.aa [.int .u64 (n:Int)] g=.val (.int .i64 r):=by
 rw[Ee];have:n=1\/n=2\/n=3\/n=4\/n=5\/n=6\/n=7\/n=8:=by omega
 rcases this with rfl | rfl | rfl | rfl | rfl | rfl | rfl | rfl
 ·exact ⟨_,dZ (I6 d g)⟩
 ·exact ⟨_,dZ (I7 d g)⟩
 ·exact ⟨_,dZ (I8 d g)⟩
 ·exact ⟨_,dZ (I9 d g)⟩
 ·exact ⟨_,dZ (I_ d g)⟩
 ·exact ⟨_,dZ (Ja d g)⟩
 ·exact ⟨_,dZ (Jb d g)⟩
 ·exact ⟨_,dZ (Jc d g)⟩
theorem Own.sat_len {g:G}{b sz:Nat}{v:AV}{rows:List (List AV)}(h:Own g b v sz rows)(g':G):d8 .slice v g'=.val (.int .i64 (rows.length:Int)):=by rcases h with ⟨rfl,rfl⟩ | ⟨id,ep,lo,h1,h2,rfl,h3⟩<;>rfl
set_option maxRecDepth 20000 in
theorem HC {d b:Nat}{v:AV}{s:List Br}{x:Br}{g:G}{K:AV->G->Prop}{D:ADf->Prop}(hp:s.Pairwise λa b=>a.1<b.1)(hb:∀x∈s,0<=x.1/\x.1<=1000)(hx:0<=x.1/\x.1<=1000)(hne:∀y∈s,y.1≠x.1)(hl:s.length<=7)
  (ho:Own g b v 2 ((s++[x]).map cbr)) (kk:∀u g',Own g' b v 2 ((S.aE s x).map cbr)->Sr v g g'->K u g'):(ay C0 (d+1) N.a9 [v,.clo 67 [] []] g).sat K g D:=by
 have cSort:∀(d:Nat) (xs:List AV) (g:G),ay C0 d N.a9 xs g=orF ((I C0).call d N.a9 xs g):=λd xs g=>by kernel_rfl
 have cPdq:∀(d:Nat) (xs:List AV) (g:G),ay C0 d N.aJ xs g=orF ((I C0).call d N.aJ xs g):=λd xs g=>by kernel_rfl
 have vl:∀g',d8 .slice v g'=.val (.int .i64 ((s.length+1:Nat):Int)):=λg'=>by rw[ho.sat_len];simp
 have wu:IntKind.wrap .u64 ((s.length+1:Nat):Int)=((s.length+1:Nat):Int):=mU (by omega) (by omega);rw[cSort];refine mw bZ (by simp[aO]) ?_;simp only[sz,simprocAttr,aO,vl,wu];refine cF (Q:=λr=>∃r':Int,r=.int .i64 r') ?_ ?_
 ·obtain ⟨r,hr⟩:=Is (d:=d) (n:=s.length+1) (g:=g) (by omega);exact ⟨_,hr,_,rfl⟩
 rintro _ ⟨r,rfl⟩;simp only[sz,simprocAttr];rw[cPdq];refine mw dG (by simp[aY]) ?_;have w1:IntKind.wrap .i64 (((s.length+1:Nat):Int) - 0)=((s.length+1:Nat):Int):=aB (by omega) (by omega);have c1:decide (((s.length+1:Nat):Int)<=12)=true:=decide_eq_true (by omega);simp only[sz,simprocAttr,aY];refine r_ (λk t df g'=>df=[]/\g'=g/\St t [(0,v),(1,.int .i64 0),(2,.int .i64 ((s.length+1:Nat):Int)),(4,.clo 67 [] [])]) 0 ⟨rfl,rfl,rfl,rfl,rfl,rfl,trivial⟩ ?_;rintro k t df g' ⟨rfl,rfl,h0,h1,h2,h4,-⟩;simp only[sz,simprocAttr,bA,h0,h1,h2,h4,w1,c1];refine EX hp hb hx hne (by omega) ho λu g' o hs=>?_;simp only[sz,simprocAttr];exact kk _ _ o hs
theorem CZ (d:Nat)(a c:AV)(g:G):fR C0 (I C0) d (.clo N.aL [] [c]) [a] g=orF ((I C0).call d N.aL [a,c] g):=by kernel_rfl
theorem C1 (d:Nat)(a:AV)(g:G):fR C0 (I C0) d (.clo 42 [] []) [a] g=orF ((I C0).call d N.be [a] g):=by kernel_rfl
def Wn (d:Nat)(W:AV)(q:Nat)(o:AObj)(w:Nat->Bool):Prop:=∀(g:G) (x:Br) (K:AV->G->Prop) (D:ADf->Prop),g.h.get q=o->q<g.nx->x.2<18446744073709551616->(∀g',Fr g g'->K (.bool (w x.2)) g')->(fR C0 (I C0) d W [.agg (cbr x)] g).sat K g D
theorem IL (d q:Nat)(o:AObj):Wn d (.clo 42 [] []) q o λ_=>true:=λg x K D h1 h2 h3 kk=>by rw[C1];refine mw pz (by simp[fE]) ?_;simp only[sz,simprocAttr,cbr,fE,im];exact kk _ (Fr.new _ _)
theorem w_ (s v:Nat):decide (((s / 2 ^ v &&& 1:Nat):Int)=1)=s.testBit v:=by rw[Nat.testBit,Nat.shiftRight_eq_div_pow,Nat.and_comm];apply Bool.eq_iff_iff.2;rw[decide_eq_true_eq,bne_iff_ne,Nat.one_and_eq_mod_two];omega
theorem IM (d q v:Nat):Wn d (.clo N.aL [] [.hptr q 0 0 0]) q (.cells 1 [[.int .i64 (v:Int)]] 0 false false) λs=>s.testBit v:=λg x K D h1 h2 h3 kk=>by rw[CZ];refine mw py (by simp[fD]) ?_;have e1:=tf .i64 x.2 v h3;have e2:=te (x.2 / 2 ^ v) 1 (Nat.lt_of_le_of_lt (Nat.div_le_self _ _) h3) (by omega);have e2:bD .and (.int .u64 ((x.2 / 2 ^ v:Nat):Int)) (.int .u64 1)=.val (.int .u64 ((x.2 / 2 ^ v &&& 1:Nat):Int)):=e2;have e3:=w_ x.2 v;simp only[sz,simprocAttr,cbr,fD,il,h1,show ¬q=g.nx from by omega,e1,e2,e3];exact kk _ (Fr.new _ _)
theorem Hy {g:G}{b sz:Nat}{u:AV}{rows:List (List AV)}(hu:Own g b u sz rows){n:Nat}(hn:n<=rows.length) :
  ∃y,mP sz u (some (.int .i64 (n:Int))) none g=.val y/\(∀g',d8 .slice y g'=.val (.int .i64 ((rows.length - n:Nat):Int)))/\∀h':H,(∀i,vid u=some i->h'.get i=g.h.get i)->ak h' sz y=some (rows.drop n):=by
 rcases hu with ⟨rfl,rfl⟩ | ⟨id,ep,lo,h1,h2,rfl,h3⟩
 ·have:n=0:=by simpa using hn
  subst this;exact ⟨.nils,rfl,λ_=>rfl,λ_ _=>rfl⟩
 ·simp only[mP,jX,h3,Nat.beq_refl,Nat.beq_refl,Bool.true_and,aw,Nat.zero_add,aa,Nat.ble_eq,Nat.le_refl,if_true,aQ,Option.getD_none,Nat.sub_zero];simp only[cR];rw[show an (n.ble rows.length) (some n) none=some n from by rw[aa,if_pos (by simpa using hn)]];dsimp only
  by_cases h0:rows.length=n
  ·subst h0;rw[if_pos (Nat.beq_refl _),List.drop_length,Nat.sub_self];cases lo
   ·exact ⟨_,rfl,λ_=>rfl,λ_ _=>rfl⟩
   ·exact ⟨_,rfl,λ_=>rfl,λ_ _=>jT _ _ _ _⟩
  ·rw[if_neg (λe=>h0 (Nat.eq_of_beq_eq_true e))];refine ⟨_,rfl,λ_=>rfl,λh' hf=>?_⟩;rw[dx,hf id rfl,h3,bV,if_pos (by omega),List.take_of_length_le (by simp)]
theorem GR {d pm q:Nat}{W O L:AV}{ob:AObj}{w:Nat->Bool}{o:List Br}{g0:G}{Q:QT}{t:T}(hW:Wn d W q ob w)(hq:g0.h.get q=ob)(hqn:q<g0.nx)(hO:Own g0 0 O 2 (o.map cbr))(hol:o.length<=8)(hos:∀x∈o,x.2<18446744073709551616)
  (hm:g0.h.get pm=.cells 2 [[L,O]] 0 false false) (hpn:pm<g0.nx)
  (ht:St t [(0,.hptr pm 0 0 0),(1,W),(4,.nils),(5,.nils),(14,O),(15,.int .i64 (o.length:Int)),(16,.int .i64 0)])
  (fin:∀t g T F,St t [(0,.hptr pm 0 0 0),(4,T),(5,F)]->Own g g0.nx T 2 ((o.filter λb=>w b.2).map cbr)->Own g g0.nx F 2 ((o.filter λb=>!w b.2).map cbr)->(∀i,vid T=some i->vid F≠some i)->Fr g0 g->Q (.exit 0) t [] g) :
  wpL (wp C0 d none cx) Q t [] g0:=by
 obtain ⟨h0,h1,h4,h5,h14,h15,h16,-⟩:=ht;simp only[cx,eI];refine bN (m:=o.length) (by omega) (λj t df g=>df=[]/\∃T F,St t [(0,.hptr pm 0 0 0),(1,W),(4,T),(5,F),(14,O)]/\Own g g0.nx T 2 (((o.take j).filter λb=>w b.2).map cbr)/\Own g g0.nx F 2 (((o.take j).filter λb=>!w b.2).map cbr)/\(∀i,vid T=some i->vid F≠some i)/\Fr g0 g)
  ⟨rfl,_,_,by simp[St,h0,h1,h4,h5,h14],.inl ⟨rfl,rfl⟩,.inl ⟨rfl,rfl⟩,λi hi=>(by cases hi),Fr.refl _⟩ h16 h15 (by decide)
  (by rintro j t df g v s (rfl | rfl | rfl) ⟨rfl,T,F,⟨a0,a1,a4,a5,a14,-⟩,r⟩<;>exact ⟨rfl,T,F,by simp[sx,St,a0,a1,a4,a5,a14],r⟩) ?_ ?_
 ·clear h0 h1 h4 h5 h14 h15 h16;rintro j t df g hj ⟨rfl,T,F,⟨h0,h1,h4,h5,h14,-⟩,oT,oF,hd,hf⟩ h16 h15;obtain ⟨x,hx,htk,hxm⟩:=aq hj;have hOg:Own g 0 O 2 (o.map cbr):=hO.step hf;have u1:j<(o.map cbr).length:=by simpa using hj
  have u2:(o.map cbr)[j]?=some [.int .i64 x.1,.int .u64 (x.2:Int)]:=by rw[List.getElem?_map,hx];rfl
  simp only[sz,simprocAttr,h1,h14,h16,hOg.rows,u1,u2];obtain ⟨gA,hgA⟩:∃gA,gA=((g.new (AObj.cells 2 [[AV.int IntKind.i64 0,AV.int IntKind.u64 0]] 0 false false)).put g.nx (AObj.cells 2 [[AV.int IntKind.i64 x.1,AV.int IntKind.u64 (x.2:Int)]] 0 false false)):=⟨_,rfl⟩;rw[<-hgA];have kA:gA.h.get g.nx=.cells 2 [[.int .i64 x.1,.int .u64 (x.2:Int)]] 0 false false:=by rw[hgA];simp[H.get_put]
  have kn:gA.nx=g.nx+1:=by rw[hgA];simp
  have fA:Fr g gA:=⟨by omega,λi hi=>by rw[hgA];simp[H.get_put,show ¬i=g.nx by omega]⟩;clear hgA;refine hW gA x _ _ (by rw[fA.2 q (by have:=hf.1;omega),hf.2 q hqn,hq]) (by have:=hf.1;omega) (hos x hxm) λg1 f1=>?_;have k1:g1.h.get g.nx=.cells 2 [[.int .i64 x.1,.int .u64 (x.2:Int)]] 0 false false:=by rw[f1.2 _ (by omega),kA]
  have fg:Fr g g1:=fA.trans f1;have oT1:=oT.step fg;have oF1:=oF.step fg;have hg0:=hf.1;have hg1:=fg.1;have hlt1:((o.take j).filter λb=>w b.2).length<=j:=Nat.le_trans (List.length_filter_le _ _) (by simp;omega);have hlt2:((o.take j).filter λb=>!w b.2).length<=j:=Nat.le_trans (List.length_filter_le _ _) (by simp;omega);cases hw:w x.2 with
  | true =>
   have e1:((o.take (j+1)).filter λb=>w b.2)=((o.take j).filter λb=>w b.2)++[x]:=by rw[htk,List.filter_append];simp[hw]
   have e2:((o.take (j+1)).filter λb=>!w b.2)=((o.take j).filter λb=>!w b.2):=by rw[htk,List.filter_append];simp[hw]
   simp only[sz,simprocAttr,h4,k1];refine aA (new:=[cbr x]) (oT1.step (Fr.new _ _)) (by simp[sx,sy,cbr]) (by simp;omega) (by simp[aP];omega) λv2 g2 hv2 n2 f2 c2 _=>?_;simp only[sz,simprocAttr];have fg2:Fr g0 g2:=⟨by simp at n2;omega,λi hi=>by
    rw[f2 i (by simp;omega) (λe=>by have:=(oT.lt e).1;omega),(Fr.new g1 _).2 i (by omega),fg.2 i (by omega),hf.2 i hi]⟩
   refine ⟨⟨v2,F,by simp[St,sx,h0,h1,h5,h14],?_,?_,?_,fg2⟩,by simp[sx,h15,h16]⟩
   ·rw[e1];simpa using hv2
   ·rw[e2];refine oF1.fr (by simp at n2;omega) λi hi=>?_;rw[f2 i (by have:=(oF1.lt hi).2;simp;omega) (λe=>hd i e hi),(Fr.new g1 _).2 i (oF1.lt hi).2]
   ·intro i hi hi2;rcases c2 with c2 | ⟨k,c2,c3⟩
    ·exact hd i (by rw[<-c2];exact hi) hi2
    ·rw[hi] at c2;injection c2 with c2;have:=(oF1.lt hi2).2;simp at c3;omega
  | false =>
   have e1:((o.take (j+1)).filter λb=>w b.2)=((o.take j).filter λb=>w b.2):=by rw[htk,List.filter_append];simp[hw]
   have e2:((o.take (j+1)).filter λb=>!w b.2)=((o.take j).filter λb=>!w b.2)++[x]:=by rw[htk,List.filter_append];simp[hw]
   simp only[sz,simprocAttr,h5,k1];refine aA (new:=[cbr x]) (oF1.step (Fr.new _ _)) (by simp[sx,sy,cbr]) (by simp;omega) (by simp[aP];omega) λv2 g2 hv2 n2 f2 c2 _=>?_;simp only[sz,simprocAttr];have fg2:Fr g0 g2:=⟨by simp at n2;omega,λi hi=>by
    rw[f2 i (by simp;omega) (λe=>by have:=(oF.lt e).1;omega),(Fr.new g1 _).2 i (by omega),fg.2 i (by omega),hf.2 i hi]⟩
   refine ⟨⟨T,v2,by simp[St,sx,h0,h1,h4,h14],?_,?_,?_,fg2⟩,by simp[sx,h15,h16]⟩
   ·rw[e1];refine oT1.fr (by simp at n2;omega) λi hi=>?_;rw[f2 i (by have:=(oT1.lt hi).2;simp;omega) (λe=>hd i hi e),(Fr.new g1 _).2 i (oT1.lt hi).2]
   ·rw[e2];simpa using hv2
   ·intro i hi hi2;rcases c2 with c2 | ⟨k,c2,c3⟩
    ·exact hd i hi (by rw[<-c2];exact hi2)
    ·rw[hi2] at c2;injection c2 with c2;have:=(oT1.lt hi).2;simp at c3;omega
 ·rintro t df g ⟨rfl,T,F,⟨h0,-,h4,h5,-⟩,oT,oF,hd,hf⟩;rw[List.take_length] at oT oF;exact fin t g T F (by simp[St,h0,h4,h5]) oT oF hd hf
structure JnJ (gB:G) (pm p8:Nat) (L O:AV) (st:List Sp×Br) (g:G):Prop where
 nx:gB.nx<=g.nx
 fr:∀i,i<gB.nx->i≠pm->i≠p8->vid L≠some i->g.h.get i=gB.h.get i
 ls:∃L',g.h.get pm=.cells 2 [[L',O]] 0 false false/\Own g 0 L' 3 (st.1.map cs3)/\(vid L'=vid L\/∃i,vid L'=some i/\gB.nx<=i)
 la:g.h.get p8=.cells 2 [[.int .i64 st.2.1,.int .u64 (st.2.2:Int)]] 0 false false
def LJn (pm p8:Nat)(F T1:AV):List (Nat×AV):=[(0,.hptr pm 0 0 0),(5,F),(8,.hptr p8 0 0 0),(39,T1)]
theorem xA:∀(bs:List Br) (st:List Sp×Br),(bs.foldl S.aq st).1.length=st.1.length+bs.length
 | [],_=>rfl
 | b::bs,st=>by rw[List.foldl_cons,xA bs,S.aq];simp;omega
theorem Ar:∀(bs:List Br) (st:List Sp×Br),st.2.2<18446744073709551616->(∀b∈bs,b.2<18446744073709551616)->(bs.foldl S.aq st).2.2<18446744073709551616
 | [],_,h,_=>h
 | b::bs,st,h,hb=>by rw[List.foldl_cons];refine Ar bs _ ?_ λx hx=>hb x (by simp[hx]);exact Nat.or_lt_two_pow (n:=64) h (hb b (by simp))
set_option maxRecDepth 20000 in
theorem GS {d pm p8:Nat}{F T1 L O:AV}{b0:Br}{bs:List Br}{l:List Sp}{gB:G}{Q:QT}{t:T}(hpm:pm<gB.nx)(hp8:p8<gB.nx)(hne:pm≠p8)(hL1:vid L≠some pm)(hL2:vid L≠some p8)
  (hbl:bs.length<=8) (hll:l.length<=20) (hb0:b0.2<18446744073709551616) (hbs:∀b∈bs,b.2<18446744073709551616)
  (hT:∀g,JnJ gB pm p8 L O ((l,b0):List Sp×Br) g\/(gB.nx<=g.nx/\∀i,i<gB.nx->i≠pm->i≠p8->vid L≠some i->g.h.get i=gB.h.get i)->ak g.h 2 T1=some (bs.map cbr))
  (h0:JnJ gB pm p8 L O (l,b0) gB) (ht:St t ((40,.int .i64 (bs.length:Int))::(41,.int .i64 0)::LJn pm p8 F T1))
  (fin:∀t g,St t [(0,.hptr pm 0 0 0),(5,F),(8,.hptr p8 0 0 0)]->JnJ gB pm p8 L O (bs.foldl S.aq (l,b0)) g->Q (.exit 2) t [] g) :
  wpL (wp C0 d none cy) Q t [] gB:=by
 obtain ⟨h40,h41,a0,a5,a8,a39,-⟩:=ht;simp only[cy];refine bN (m:=bs.length) (by omega) (λj t df g=>df=[]/\St t (LJn pm p8 F T1)/\JnJ gB pm p8 L O ((bs.take j).foldl S.aq (l,b0)) g) ⟨rfl,by simp[St,LJn,a0,a5,a8,a39],h0⟩ h41 h40 (by decide)
  (by rintro j t df g v s (rfl | rfl | rfl)<;>simp[sx,St,LJn]) ?_ ?_
 ·clear h40 h41 a0 a5 a8 a39;rintro j t df g hj ⟨rfl,⟨a0,a5,a8,a39,-⟩,hJ⟩ h41 h40;obtain ⟨x,hx,htk,hxm⟩:=aq hj;have u0:=hT g (.inr ⟨hJ.nx,hJ.fr⟩);have u1:j<(bs.map cbr).length:=by simpa using hj
  have u2:(bs.map cbr)[j]?=some [.int .i64 x.1,.int .u64 (x.2:Int)]:=by rw[List.getElem?_map,hx];rfl
  have hln:=xA (bs.take j) (l,b0);rw[List.length_take] at hln;have hlt:=Ar (bs.take j) (l,b0) hb0 λb hb=>hbs b (List.mem_of_mem_take hb);have hx64:=hbs x hxm;have hst:(bs.take (j+1)).foldl S.aq (l,b0)=S.aq ((bs.take j).foldl S.aq (l,b0)) x:=by rw[htk,List.foldl_append];rfl
  rw[hst];obtain ⟨⟨lst,a⟩,hsa⟩:∃st,st=(bs.take j).foldl S.aq (l,b0):=⟨_,rfl⟩;rw[<-hsa] at hJ hln hlt ⊢;dsimp only at hln hlt;have hla:=hJ.la;obtain ⟨L',q1,oL,qL⟩:=hJ.ls;have hnx:=hJ.nx;have hL3:vid L'≠some pm:=λe=>by
   rcases qL with q | ⟨i,q,q'⟩
   ·exact hL1 (by rw[<-q,e])
   ·rw[e] at q;injection q with q;omega
  have hL4:vid L'≠some p8:=λe=>by
   rcases qL with q | ⟨i,q,q'⟩
   ·exact hL2 (by rw[<-q,e])
   ·rw[e] at q;injection q with q;omega
  refine bS (P:=λt' df g'=>df=[]/\St t' ((10,.hptr g.nx 0 0 0)::(40,.int .i64 (bs.length:Int))::(41,.int .i64 (j:Int))::LJn pm p8 F T1)/\g'.h.get g.nx=.cells 2 [[.int .i64 x.1,.int .u64 (x.2:Int)]] 0 false false/\g'.nx=g.nx+1/\∀i,i<g.nx->g'.h.get i=g.h.get i) ?_ ?_
  ·simp only[sz,simprocAttr,a39,h41,u0,u1,u2];refine ⟨by simp[St,LJn,sx,a0,a5,a8,a39,h40,h41],λi hi=>?_⟩;simp[show ¬i=g.nx by omega]
  rintro t df g1 ⟨rfl,⟨h10,h40,h41,a0,a5,a8,a39,-⟩,k10,kn,kf⟩;have k8:g1.h.get p8=.cells 2 [[.int .i64 a.1,.int .u64 (a.2:Int)]] 0 false false:=by rw[kf p8 (by omega)];exact hla
  have km:g1.h.get pm=.cells 2 [[L',O]] 0 false false:=by rw[kf pm (by omega)];exact q1
  have oL1:Own g1 0 L' 3 (lst.map cs3):=oL.fr (by omega) λi hi=>kf i (oL.lt hi).2;refine bS (P:=λt' df g'=>df=[]/\St t' ((10,.hptr g.nx 0 0 0)::(40,.int .i64 (bs.length:Int))::(41,.int .i64 (j:Int))::LJn pm p8 F T1)/\g'.h.get g.nx=.cells 2 [[.int .i64 x.1,.int .u64 (x.2:Int)]] 0 false false/\g1.nx<=g'.nx/\(∀i,i<g1.nx->i≠pm->vid L'≠some i->g'.h.get i=g1.h.get i)/\∃L2,g'.h.get pm=.cells 2 [[L2,O]] 0 false false/\Own g' 0 L2 3 ((lst++[((-1:Int),a.1,x.1)]).map cs3)/\(vid L2=vid L'\/∃i,vid L2=some i/\g1.nx<=i)) ?_ ?_
  ·have nc:qU (.hptr pm 0 0 0)=.val (.hptr pm 0 0 0):=rfl;simp only[sz,simprocAttr,sf,nc,a0,a8,h10,km,k8,k10];refine aA (new:=[cs3 (-1,a.1,x.1)]) (oL1.fr (by first | (simp;done) | (simp;omega)) λi hi=>by have:=(oL1.lt hi).2;simp[H.get_put];intro e;omega) (by simp[sx,sy,cs3]) (Nat.zero_le _) (by simp[aP];omega) λv2 g2 hv2 n2 f2 c2 lg2=>?_;have ff:∀i,i<g1.nx->vid L'≠some i->g2.h.get i=g1.h.get i:=λi hi hv=>by rw[f2 i (by first | (simp;done) | (simp;omega)) hv];simp[H.get_put];intro e;omega
   simp only[sy] at n2;have km2:g2.h.get pm=.cells 2 [[L',O]] 0 false false:=by rw[ff pm (by omega) hL3,km]
   have hc:=hv2.cell;simp only[sz,simprocAttr,sf,nc,a0,km2,hc.1,hc.2];refine ⟨?_,by simp[St,LJn,sx,a0,a5,a8,a39,h10,h40,h41],?_,?_,λi hi h1 h2=>?_,v2,?_,?_,?_⟩
   ·simp only[List.reverse_cons,List.reverse_nil,List.nil_append,List.cons_append,G.new_lg,G.put_lg,setLog_lg];refine aC [false,false,false,false,false,false,false,false,false,false,true,true,false,false,true] [(0,10),(1,10),(2,10),(3,10),(4,10),(0,11)] (by simp[All2,af,au]) (by decide) ?_;rintro p hp x y hx hy;simp only[List.mem_cons,List.not_mem_nil,or_false] at hp;rcases hp with rfl | rfl | rfl | rfl | rfl | rfl<;>(simp at hx hy;subst hx;subst hy;refine bH rfl rfl rfl rfl ?_ ?_ ?_<;>simp[af,au,ae]<;>omega)
   ·have e1:=ff g.nx (by omega) λe=>by have:=(oL.lt e).2;omega
    simp[H.get_put,show ¬g.nx=pm from by omega];rw[e1,k10]
   ·simp at n2 ⊢;omega
   ·have e1:=ff i hi h2;simp[H.get_put,h1,e1]
   ·simp[H.get_put]
   ·have hv3:Own g2 0 v2 3 ((lst++[((-1:Int),a.1,x.1)]).map cs3):=by simpa using hv2
    refine hv3.fr (by first | (simp;done) | (simp;omega)) λi hi=>?_;have:¬i=pm:=λe=>by
     subst e;rcases c2 with c2 | ⟨k,c2,c3⟩
     ·exact hL3 (by rw[<-c2];exact hi)
     ·rw[hi] at c2;injection c2 with c2;simp at c3;omega
    simp[H.get_put,this]
   ·rcases c2 with c2 | ⟨k,c2,c3⟩
    ·exact .inl c2
    ·exact .inr ⟨k,c2,by simp at c3;omega⟩
  rintro t df g2 ⟨rfl,⟨h10,h40,h41,a0,a5,a8,a39,-⟩,k10,n2,f2,L2,km2,oL2,c2⟩;have hL5:vid L2≠some p8:=λe=>by
   rcases c2 with q | ⟨i,q,q'⟩
   ·exact hL4 (by rw[<-q,e])
   ·rw[e] at q;injection q with q;omega
  have k8:g2.h.get p8=.cells 2 [[.int .i64 a.1,.int .u64 (a.2:Int)]] 0 false false:=by rw[f2 p8 (by omega) (λe=>hne e.symm) hL4];exact k8
  have nc:qU (.hptr pm 0 0 0)=.val (.hptr pm 0 0 0):=rfl;have vl:=λg=>oL2.sat_len g;have w1:IntKind.wrap .i64 ((((lst++[((-1:Int),a.1,x.1)]).map cs3).length:Int) - 1)=(lst.length:Int):=by rw[List.length_map,List.length_append,List.length_singleton,aB (by omega) (by omega)];omega
  have e3:=kW a.2 x.2 hlt hx64;simp only[sz,simprocAttr,sf,nc,a0,a8,h10,k8,km2,k10,vl,w1,e3];refine ⟨?_,⟨?_,?_⟩,?_⟩
  ·simp only[List.reverse_cons,List.reverse_nil,List.nil_append,List.cons_append,G.new_lg,G.put_lg,setLog_lg];exact aC [false,false,false,false,false,false,false,false,false,false,false,false,true] [] (by simp[All2,af,au]) (by decide) (by simp)
  ·simp[St,LJn,sx,a0,a5,a8,a39]
  ·rw[S.aq];refine ⟨by simp;omega,λi hi h1 h2 h3=>?_,⟨L2,?_,?_,?_⟩,?_⟩
   ·have e1:g2.h.get i=g1.h.get i:=f2 i (by omega) h1 λe=>by
     rcases qL with q | ⟨k,q,q'⟩
     ·exact h3 (by rw[<-q,e])
     ·rw[e] at q;injection q with q;omega
    simp[H.get_put,h2];rw[e1,kf i (by omega),hJ.fr i hi h1 h2 h3]
   ·simp[H.get_put,hne,km2]
   ·refine oL2.fr (by first | (simp;done) | (simp;omega)) λi hi=>?_;have:¬i=p8:=λe=>hL5 (by rw[<-e,hi]);simp[H.get_put,this]
   ·rcases c2 with q | ⟨k,q,q'⟩
    ·rcases qL with r | ⟨k,r,r'⟩
     ·exact .inl (q.trans r)
     ·exact .inr ⟨k,by rw[q,r],r'⟩
    ·exact .inr ⟨k,q,by omega⟩
   ·simp[H.get_put]
  ·simp[sx,h40,h41]
 ·rintro t df g ⟨rfl,⟨a0,a5,a8,-⟩,hJ⟩;rw[List.take_length] at hJ;exact fin t g (by simp[St,a0,a5,a8]) hJ
theorem qO:∀(bs:List Br) (st:List Sp×Br),bs≠[]->(bs.foldl S.aq st).2.1=((st.1.length+bs.length - 1:Nat):Int)
 | [],_,h=>absurd rfl h
 | [b],st,_=>by simp[S.aq]
 | b::c::bs,st,_=>by rw[List.foldl_cons,qO (c::bs) _ (by simp),S.aq];simp;omega
theorem E6 {w:Nat->Bool}{l:List Sp}{o:List Br}(h:(o.filter λb=>w b.2)=[]):S.jn w (l,o)=(l,o):=by unfold S.jn;dsimp only;rw[h]
theorem BM {w:Nat->Bool}{l:List Sp}{o:List Br}{b:Br}{bs:List Br}(h:(o.filter λb=>w b.2)=b::bs):S.jn w (l,o)=((bs.foldl S.aq (l,b)).1,S.aE (o.filter λb=>!w b.2) (bs.foldl S.aq (l,b)).2):=by unfold S.jn;dsimp only;rw[h]
theorem yL (w:Nat->Bool):∀o:List Br,(o.filter λb=>w b.2).length+(o.filter λb=>!w b.2).length=o.length
 | []=>rfl
 | c::o=>by have:=yL w o;cases hc:w c.2<;>simp[List.filter_cons,hc]<;>omega
structure MkH (pm:Nat) (L O:AV) (st:List Sp×List Br) (g:G):Prop where
 m:g.h.get pm=.cells 2 [[L,O]] 0 false false
 pn:pm<g.nx
 oL:Own g 0 L 3 (st.1.map cs3)
 oO:Own g 0 O 2 (st.2.map cbr)
 d1:vid L≠some pm
 d2:vid O≠some pm
 d3:∀i,vid L=some i->vid O≠some i
set_option maxRecDepth 20000 in
theorem BO {d pm q m:Nat}{W L O:AV}{ob:AObj}{w:Nat->Bool}{l:List Sp}{o:List Br}{g:G}{K:AV->G->Prop}{D:ADf->Prop}(hW:Wn (d+1) W q ob w)(hq:g.h.get q=ob)(hqn:q<g.nx)
  (hM:MkH pm L O (l,o) g) (hI:MkI m (l,o)) (hm8:m<=8) (hos:∀x∈o,x.2<18446744073709551616)
  (kk:∀u g' L' O',MkH pm L' O' (S.jn w (l,o)) g'->g.nx<=g'.nx->(∀i,i<g.nx->i≠pm->vid L≠some i->vid O≠some i->g'.h.get i=g.h.get i)->(vid L'=vid L\/∀i,vid L'=some i->g.nx<=i)->(vid O'=vid O\/∀i,vid O'=some i->g.nx<=i)->K u g') :
  (ay C0 (d+1) N.aq [.hptr pm 0 0 0,W] g).sat K g D:=by
 obtain ⟨hm,hpn,oL,oO,d1,d2,d3⟩:=hM;dsimp only at oL oO;have hln:=hI.ln;have hl1:=hI.l1;dsimp only at hln hl1;rw[j5];refine mw lN (by simp[di]) ?_;have nc:qU (.hptr pm 0 0 0)=.val (.hptr pm 0 0 0):=rfl;have vl:=λg=>oO.sat_len g;rw[List.length_map] at vl;simp only[sz,simprocAttr,di,nc,hm,vl];refine GR hW hq hqn oO (by omega) hos hm hpn (by simp[St,sx]) λt g1 T F ht oT oF hd hf=>?_;obtain ⟨h0,h4,h5,-⟩:=ht;have tl:=λg=>oT.sat_len g;rw[List.length_map] at tl;cases hfl:o.filter λb=>w b.2 with
 | nil =>
  rw[hfl] at tl;simp only[sz,simprocAttr,cz,h4,tl];refine kk _ _ L O ?_ hf.1 (λi hi _ _ _=>hf.2 i hi) (.inl rfl) (.inl rfl);rw[E6 hfl];exact ⟨by rw[hf.2 pm hpn,hm],by have:=hf.1;omega,oL.step hf,oO.step hf,d1,d2,d3⟩
 | cons b bs =>
  have hbm:∀c∈b::bs,c∈o/\w c.2=true:=λc hc=>by rw[<-hfl,List.mem_filter] at hc;exact hc
  have hlf:=yL w o;rw[hfl] at hlf oT tl;rw[List.length_cons] at hlf tl;have u1:0<((b::bs).map cbr).length:=by simp
  have u2:((b::bs).map cbr)[0]?=some [.int .i64 b.1,.int .u64 (b.2:Int)]:=rfl;have c0:decide (((bs.length+1:Nat):Int)=0)=false:=decide_eq_false (by omega);have u3:ak g1.h 2 T=some ((b::bs).map cbr):=oT.rows;have hnx:=hf.1;simp only[cz];refine bS (P:=λt' df g'=>df=[]/\g'=g1/\St t' [(0,.hptr pm 0 0 0),(4,T),(5,F)]) ?_ ?_
  ·simp only[sz,simprocAttr,h4,tl,c0];simp[St,sx,h0,h4,h5]
  rintro t df g2 ⟨rfl,rfl,h0,h4,h5,-⟩;refine bT (P:=λt' df g'=>df=[]/\St t' [(0,.hptr pm 0 0 0),(4,T),(5,F),(8,.hptr g2.nx 0 0 0)]/\g'.h.get g2.nx=.cells 2 [[.int .i64 b.1,.int .u64 (b.2:Int)]] 0 false false/\g'.nx=g2.nx+1/\∀i,i<g2.nx->g'.h.get i=g2.h.get i) ?_ ?_
  ·have u4:ug 2 T (.int .i64 0) g2=.val (eg 2 T 0 0):=th (k:=.i64) (i:=0) (by rw[u3];rfl) (by rw[u3];simp);simp only[sz,simprocAttr,h4,u3,u1,u2,u4];refine ⟨by simp[St,sx,h0,h4,h5],λi hi=>?_⟩;simp[show ¬i=g2.nx by omega]
  rintro t df gB ⟨rfl,⟨h0,h4,h5,h8,-⟩,k8,kn,kf⟩;have fB:Fr g2 gB:=⟨by omega,kf⟩;have fgB:=hf.trans fB;have oTB:=oT.step fB;obtain ⟨y,y1,y2,y3⟩:=Hy oTB (n:=1) (by simp);have y1:mP 2 T (some (.int .i64 1)) none gB=.val y:=y1;have yl:∀g',d8 .slice y g'=.val (.int .i64 (bs.length:Int)):=λg'=>by rw[y2];simp
  simp only[sz,simprocAttr,h4,y1,yl,List.head?_nil,List.head?_cons];have hL2:vid L≠some g2.nx:=λe=>by have:=(oL.lt e).2;omega
  refine GS (pm:=pm) (p8:=g2.nx) (F:=F) (T1:=y) (L:=L) (O:=O) (b0:=b) (bs:=bs) (l:=l) (by omega) (by omega) (by omega) d1 hL2 (by omega) (by omega) (hos b (hbm b (by simp)).1) (λc hc=>hos c (hbm c (by simp[hc])).1) ?_ ⟨Nat.le_refl _,λ_ _ _ _ _=>rfl,⟨L,?_,oL.step fgB,.inl rfl⟩,k8⟩ (by simp[St,LJn,sx,h0,h5,h8]) λt g3 ht hJ=>?_
  ·intro g' hg';have hfr:gB.nx<=g'.nx/\∀i,i<gB.nx->i≠pm->i≠g2.nx->vid L≠some i->g'.h.get i=gB.h.get i:=by
    rcases hg' with h | h
    ·exact ⟨h.nx,h.fr⟩
    ·exact h
   rw[y3 g'.h λi hi=>?_]
   ·rfl
   ·have i1:=oT.lt hi;exact hfr.2 i (by omega) (by omega) (by omega) λe=>by have:=(oL.lt e).2;omega
  ·rw[fgB.2 pm hpn,hm]
  obtain ⟨h0,h5,h8,-⟩:=ht;obtain ⟨L',q1,oL',qL⟩:=hJ.ls;have hla:=hJ.la;have hnx3:=hJ.nx;have hfr:=hJ.fr;obtain ⟨st,hst⟩:∃st,st=bs.foldl S.aq (l,b):=⟨_,rfl⟩;have hjn:S.jn w (l,o)=(st.1,S.aE (o.filter λb=>!w b.2) st.2):=by rw[hst];exact BM hfl
  rw[<-hst] at oL' hla;have oF3:Own g3 g.nx F 2 ((o.filter λb=>!w b.2).map cbr):=oF.fr (by omega) λi hi=>by have i1:=oF.lt hi;rw[hfr i (by omega) (by omega) (by omega) λe=>by have:=(oL.lt e).2;omega,kf i (by omega)]
  have hF5:vid F≠some g2.nx:=λe=>by have:=(oF.lt e).2;omega
  have hFL:∀i,vid F=some i->vid L'≠some i:=λi hi e=>by
   have i1:=oF.lt hi;rcases qL with q | ⟨k,q,q'⟩
   ·have:=(oL.lt (q ▸ e)).2;omega
   ·rw[e] at q;injection q with q;omega
  have hL3:vid L'≠some pm:=λe=>by
   rcases qL with q | ⟨k,q,q'⟩
   ·exact d1 (q ▸ e)
   ·rw[e] at q;injection q with q;omega
  have hss:(o.filter λb=>!w b.2).Pairwise λa b=>a.1<b.1:=hI.so.filter _;have hsb:∀x∈(o.filter λb=>!w b.2),0<=x.1/\x.1<(l.length:Int):=λx hx=>by have:=(hI.op x.1).1 ⟨x,(List.mem_filter.1 hx).1,rfl⟩;exact ⟨this.1,this.2.1⟩
  have hbb:=(hI.op b.1).1 ⟨b,(hbm b (by simp)).1,rfl⟩;dsimp only at hbb;have hx:(0<=st.2.1/\st.2.1<=1000)/\∀y∈(o.filter λb=>!w b.2),y.1≠st.2.1:=by
   cases hbs:bs with
   | nil =>
    rw[hst,hbs];refine ⟨⟨hbb.1,by dsimp only[List.foldl_nil];omega⟩,λy hy e=>?_⟩;obtain ⟨y1,y2⟩:=List.mem_filter.1 hy;have:=AX hI.so y1 (hbm b (by simp)).1 e;rw[this,(hbm b (by simp)).2] at y2;cases y2
   | cons c cs =>
    have:=qO bs (l,b) (by rw[hbs];simp);rw[<-hst,hbs] at this;rw[hbs] at hlf;simp only[List.length_cons] at this hlf;rw[this];refine ⟨⟨by omega,by omega⟩,λy hy e=>?_⟩;have:=hsb y hy;omega
  simp only[sz,simprocAttr,eJ,h0,h5,h8,hla];refine aA (new:=[cbr st.2]) (oF3.step (Fr.new _ _)) (by simp[sx,sy,cbr]) (by simp;omega) (by simp[aP];omega) λv5 g5 hv5 n5 f5 c5 _=>?_;have hc:=hv5.cell;simp at n5;have e5:∀i,i<g3.nx->vid F≠some i->g5.h.get i=g3.h.get i:=λi hi hv=>by rw[f5 i (by simp;omega) hv,(Fr.new g3 _).2 i hi]
  have hFp:vid F≠some pm:=λe=>by have:=(oF.lt e).1;omega
  have m5:g5.h.get pm=.cells 2 [[L',O]] 0 false false:=by rw[e5 pm (by omega) hFp,q1]
  have hv5p:vid v5≠some pm:=λe=>by
   rcases c5 with c | ⟨k,c,c'⟩
   ·exact hFp (c ▸ e)
   ·rw[e] at c;injection c with c;simp at c';omega
  have hv5L:∀i,vid L'=some i->vid v5≠some i:=λi hi e=>by
   have i1:=(oL'.lt hi).2;rcases c5 with c | ⟨k,c,c'⟩
   ·exact hFL i (c ▸ e) hi
   ·rw[e] at c;injection c with c;simp at c';omega
  simp only[sz,simprocAttr,nc,h0,m5,hc.1,hc.2];have hv6:Own (g5.put pm (.cells 2 [[L',v5]] 0 false false)) g.nx v5 2 (((o.filter λb=>!w b.2)++[st.2]).map cbr):=by
   have:Own g5 g.nx v5 2 (((o.filter λb=>!w b.2)++[st.2]).map cbr):=by simpa using hv5
   exact this.fr (by simp) λi hi=>by simp[H.get_put,show ¬i=pm from λe=>hv5p (by rw[<-e,hi])]
  refine HC (b:=g.nx) hss (λx hx=>⟨(hsb x hx).1,by have:=(hsb x hx).2;omega⟩) hx.1 hx.2 (by omega) hv6 λu g6 o6 s6=>?_;simp only[sz,simprocAttr];have s1:=s6.1;simp only[G.put_nx] at s1;have s2:∀i,i<g5.nx->vid v5≠some i->i≠pm->g6.h.get i=g5.h.get i:=λi hi hv hp=>by rw[s6.2.1 i (by simpa using hi) hv];simp[H.get_put,hp]
  refine kk _ g6 L' v5 ?_ (by omega) (λi hi hp hL hO=>?_) ?_ (.inr λi hi=>(o6.lt hi).1)
  ·rw[hjn];refine ⟨?_,by omega,?_,o6.low (Nat.zero_le _),hL3,hv5p,hv5L⟩
   ·rw[s6.2.1 pm (by simp;omega) hv5p];simp[H.get_put]
   ·refine oL'.fr (by omega) λi hi=>?_;have i1:=(oL'.lt hi).2;rw[s2 i (by omega) (hv5L i hi) (λe=>hL3 (by rw[<-e,hi])),e5 i i1 λe=>hFL i e hi]
  ·rw[s2 i (by omega) (λe=>by have:=(o6.lt e).1;omega) hp,e5 i (by omega) (λe=>by have:=(oF.lt e).1;omega),hfr i (by omega) hp (by omega) hL,kf i (by omega),hf.2 i hi]
  ·rcases qL with q | ⟨k,q,q'⟩
   ·exact .inl q
   ·exact .inr λi hi=>by rw[hi] at q;injection q with q;omega
def S.bz (n:Net):List Nat:=if S.au n then S.af n else []
def S.bp (n:Net):Int:=if S.au n then 0 else 50
theorem Hf {d:Nat}{g:G}{v:AV}{n:Net}(hd:0<d)(hm:Agg n NoP 0 g.h v):∃r,ay C0 d N.aP [v] g=.val r/\CF (One (S.bz n)) (One (S.bp n)) NoP 0 .nil r:=by
 obtain ⟨b,rows,rfl,e1,hm',-⟩:=gy d hm;rw[rE];refine bK tW (xs:=[.agg [.int .i64 n.grain,b]]) (by simp only[aJ,e1]) (by simp[k_]) (rh (m:=1) (bL _) (bL _) (by decide) (by decide)) (by decide) hd ?_;simp only[sz,simprocAttr,k_];obtain ⟨g0,hg0⟩:∃g0,g0=G.empty.new (.cells 2 [[.int .i64 n.grain,b]] 0 false false):=⟨_,rfl⟩;rw[<-hg0];have f0:g0.h.get 0=.cells 2 [[.int .i64 n.grain,b]] 0 false false:=by rw[hg0];simp[sx]
 have n0:g0.nx=1:=by rw[hg0];simp[sx]
 clear hg0;have ld:bm (.cells 2 [[.int .i64 n.grain,b]] 0 false false) 0 0 true 2 0=.val (.agg [.int .i64 n.grain,b]):=rfl;simp only[sz,simprocAttr,mX,f0,ld];refine cF (Cd (Nat.succ_pos d) (n:=n) (hm' _)) λz hz=>?_;obtain ⟨o,-,a,c,rfl,⟨cs,rfl,hc⟩,hi⟩:=hz;have hi:=bj.1 hi;injection hi with hi;subst hi;obtain ⟨a1,a2,a3,a4,rfl,hb,hcv,hsv,hoz⟩:=uG.1 hc;have st:∀g:G,jm (.cells 5 [[.int .i64 0,.nils,.nils,.nils,.nils]] 0 false false) g 1 0 0 5 0 (.agg [.int .i64 (S.bh n o).1.grain,a1,a2,a3,a4])=.upd .undef (g.put 1 (.cells 5 [[.int .i64 (S.bh n o).1.grain,a1,a2,a3,a4]] 0 false false)):=λg=>by
  have h1:=hb.2;have h2:=hcv.2;have h3:=hsv.2;have h4:=hoz.2;unfold SlV at h1 h2 h3 h4
  split at h1<;>split at h2<;>split at h3<;>split at h4<;>first | rfl | exact h1.elim | exact h2.elim | exact h3.elim | exact h4.elim
 simp only[sz,simprocAttr,n0,st];have hp:(S.bh n o).2.2.1=S.bz n:=by unfold S.bh S.bz;split<;>rfl
 rw[hp] at hsv;exact ⟨λ_=>True,_,_,rfl,eE.2 ⟨a3,rfl,hsv.wide (Nat.le_refl 0)⟩,bj.2 rfl⟩
def S.aY (l:List Int)(n:Nat)(i:Nat):Bool:=(List.range i).all λj=>decide (0<=l[j]?.getD 0)&&decide (l[j]?.getD 0<(n:Int))&&!(S.ae (l.take j)).testBit (l[j]?.getD 0).toNat
def S.ay (l:List Int)(n:Nat):Bool:=decide ((l.length:Int)=(n:Int))&&S.aY l n l.length
theorem wH {l:List Int}{n i:Nat}(hi:i<l.length)(h:¬(0<=l[i]?.getD 0/\l[i]?.getD 0<(n:Int)/\(S.ae (l.take i)).testBit (l[i]?.getD 0).toNat=false)):S.ay l n=false:=by rw[Bool.eq_false_iff];intro h2;simp only[S.ay,S.aY,Bool.and_eq_true,decide_eq_true_eq,List.all_eq_true,List.mem_range,Bool.not_eq_true'] at h2;have:=h2.2 i hi;exact h ⟨this.1.1,this.1.2,this.2⟩
theorem Aq {d k n:Nat}{g:G}{P:Nat->Prop}{v:AV}{l:List Int}(hd:0<d)(hn:n<=64)(hv:SlR P k g.h l v):ay C0 d N.aM [v,.int .i64 (n:Int)] g=.val (.bool (S.ay l n)):=by
 obtain ⟨v',e,r1⟩:=dF hv d;have vl:∀g,d8 .slice v' g=.val (.int .i64 (l.length:Int)):=λg=>(r1 .nil).len g;have ri:=λh=>(r1 h).ints;rw[mm];refine e6 nQ (xs:=[v',.int .i64 (n:Int)]) (by simp only[aJ,e,gc 0]) (by simp[cU]) hd ?_
 by_cases c0:(l.length:Int)=(n:Int)
 rotate_left
 ·have hs:S.ay l n=false:=by simp[S.ay,c0]
  simp only[sz,simprocAttr,cU,vl,c0,hs]
 simp only[sz,simprocAttr,cU,vl,c0,gi];refine bN (m:=n) (by omega) (λj t df g=>df=[]/\St t [(12,v'),(1,.int .i64 (n:Int)),(5,.int .u64 (S.ae (l.take j):Int))]/\S.aY l n j=true) ⟨rfl,by simp[St,sx,S.ae],rfl⟩ (by simp[sx]) (by simp[sx]) (by decide)
  (by rintro j t df g v s (rfl | rfl | rfl)<;>simp[sx,St]) ?_ ?_
 ·rintro j t df g hj ⟨rfl,⟨h12,h1,h5,-⟩,hok⟩ h14 h13;obtain ⟨x,hx,htk,hm⟩:=aq (l:=l) (j:=j) (by omega);have z1:j<(l.map ci).length:=by simp;omega
  have z2:(l.map ci)[j]?=some (ci x):=by rw[List.getElem?_map,hx];rfl
  have gx:l[j]?.getD 0=x:=by rw[hx];rfl
  have bad:=wH (l:=l) (n:=n) (i:=j) (by omega);rw[gx] at bad
  by_cases c1:x<0
  ·have:=bad (by omega);simp only[sz,simprocAttr,h12,h14,ri,z1,z2,ci,c1,this]
  by_cases c2:(n:Int)<=x
  ·have:=bad (by omega);simp only[sz,simprocAttr,h12,h14,h1,ri,z1,z2,ci,c1,c2,this]
  obtain ⟨X,rfl⟩:=Int.eq_ofNat_of_zero_le (show 0<=x by omega);have e1:=tf .i64 (S.ae (l.take j)) X (dL _);have e2:bD .and (.int .u64 ((S.ae (l.take j) / 2 ^ X:Nat):Int)) (.int .u64 1)=.val (.int .u64 ((S.ae (l.take j) / 2 ^ X &&& 1:Nat):Int)):=te (S.ae (l.take j) / 2 ^ X) 1 (Nat.lt_of_le_of_lt (Nat.div_le_self _ _) (dL _)) (by omega);have e3:=w_ (S.ae (l.take j)) X;cases cb:(S.ae (l.take j)).testBit X with
  | true =>
   have:=bad (by rw[Int.toNat_natCast,cb];simp);rw[cb] at e3;simp only[sz,simprocAttr,h12,h14,h1,h5,ri,z1,z2,ci,c1,c2,e1,e2,e3,this]
  | false =>
   rw[cb] at e3;have hok':S.aY l n (j+1)=true:=by rw[S.aY,List.range_succ,List.all_append,show ((List.range j).all λj=>decide (0<=l[j]?.getD 0)&&decide (l[j]?.getD 0<(n:Int))&&!(S.ae (l.take j)).testBit (l[j]?.getD 0).toNat)=true from hok];simp[gx,cb];omega
   have e4:bD .shl (.int .u64 1) (.int .i64 (X:Int))=.val (.int .u64 (S.ap X:Int)):=dM .i64 X;have e5:=kW (S.ae (l.take j)) (S.ap X) (dL _) (iH X);have em:S.ae (l.take (j+1))=S.ae (l.take j) ||| S.ap X:=by rw[htk,pc];rfl
   simp only[sz,simprocAttr,h12,h14,h1,h5,ri,z1,z2,ci,c1,c2,e1,e2,e3,e4,e5];simp[St,sx,h12,h1,h13,h14,em,hok']
 ·rintro t df g ⟨rfl,-,hok⟩;have:S.ay l n=true:=by
   have e:l.length=n:=by omega
   rw[S.ay,decide_eq_true c0,e,hok];rfl
  simp only[sz,simprocAttr,gk,this]
theorem In {n:Net}{l:List Sp}:S.aO n l=if S.au n then (if S.rt l n.nodes.length then 0 else 130) else 50:=by
 unfold S.aO
 split
 ·rename_i h;rw[IZ (ed.1 h).l1]
 ·rfl
theorem zy {d k:Nat}{g:G}{P:Nat->Prop}{v w:AV}{n:Net}{l:List Sp}(hd:0<d)(hm:Agg n NoP 0 g.h v)(hl:SlR P k g.h l w)(hll:l.length<=1000000):ay C0 d N.aG [v,w] g=.val (.int .i64 (S.aO n l)):=by
 obtain ⟨b,rows,rfl,e1,hm',hN,-⟩:=gy d hm;obtain ⟨w',e2,hw'⟩:=dF hl d;rw[rH];refine o4 tZ (xs:=[.agg [.int .i64 n.grain,b],w']) (by simp only[aJ,e1,e2]) (by simp[lA]) hd ?_;simp only[sz,simprocAttr,lA];obtain ⟨g0,hg0⟩:∃g0,g0=G.empty.new (.cells 2 [[.int .i64 n.grain,b]] 0 false false):=⟨_,rfl⟩;rw[<-hg0];have f0:g0.h.get 0=.cells 2 [[.int .i64 n.grain,b]] 0 false false:=by rw[hg0];simp[sx]
 clear hg0;have ld:bm (.cells 2 [[.int .i64 n.grain,b]] 0 false false) 0 0 true 2 0=.val (.agg [.int .i64 n.grain,b]):=rfl;have nc:=wO (d:=d+1) (g:=g0) (Nat.succ_pos d) (n:=n) (hm' _);have nl:=λg=>hN.len g;rw[In];cases c0:S.au n with
 | false =>
  rw[c0] at nc;simp only[sz,simprocAttr,fp,f0,ld,nc]
 | true =>
  rw[c0] at nc;have hr:=ed.1 c0;have hn8:=hr.l2;have rr:=Jm (d:=d+1) (g:=g0) (n:=n.nodes.length) (Nat.succ_pos d) (by omega) hll (hw' g0.h);cases c1:S.rt l n.nodes.length with
  | false =>
   rw[c1] at rr;simp only[sz,simprocAttr,fp,f0,ld,nc,nl,rr]
  | true =>
   rw[c1] at rr;simp only[sz,simprocAttr,fp,f0,ld,nc,nl,rr]
theorem BL (s v:Nat):S.aZ s v=s.testBit v:=by unfold S.aZ;rw[<-w_];apply Bool.eq_iff_iff.2;rw[beq_iff_eq,decide_eq_true_eq];omega
theorem FV {d k n:Nat}{g:G}{P:Nat->Prop}{v:AV}{l:List Int}(hd:0<d)(hn:n<=64)(hv:SlR P k g.h l v):ay C0 d N.aD [v,.int .i64 (n:Int),.int .i64 (-1)] g=.val (.bool (S.ay l n)):=by
 obtain ⟨v',e,r1⟩:=dF hv d;have vl:∀g,d8 .slice v' g=.val (.int .i64 (l.length:Int)):=λg=>(r1 .nil).len g;have ri:=λh=>(r1 h).ints;rw[mr];refine e6 nT (xs:=[v',.int .i64 (n:Int),.int .i64 (-1)]) (by simp only[aJ,e,gc 0]) (by simp[eS]) hd ?_;have hl9:=hv.1;simp only[sz,simprocAttr,eS,gt];refine aV l.length (by omega) (λj t df g=>df=[]/\St t [(0,v'),(1,.int .i64 (n:Int)),(2,.int .i64 (-1)),(7,.int .u64 (S.ae (l.take j):Int))]/\S.aY l n j=true)
  ⟨rfl,by simp[St,sx,S.ae],rfl⟩ (by simp[sx]) (by decide) (by rintro j t df g v s (rfl | rfl | rfl)<;>simp[sx,St]) ?_ ?_ ?_
 ·rintro j t df g hj ⟨rfl,⟨h0,h1,h2,h7,-⟩,r⟩ h8;simp only[sz,simprocAttr,h0,h8,vl];exact ⟨by simp[St,sx,h0,h1,h2,h7],r⟩
 ·rintro j t df g hj ⟨rfl,⟨h0,h1,h2,h7,-⟩,hok⟩ h8;obtain ⟨x,hx,htk,hm⟩:=aq hj;have z1:j<(l.map ci).length:=by simpa using hj
  have z2:(l.map ci)[j]?=some [.int .i64 x]:=by rw[List.getElem?_map,hx];rfl
  have gx:l[j]?.getD 0=x:=by rw[hx];rfl
  have bad:=wH (l:=l) (n:=n) (i:=j) (by omega);rw[gx] at bad
  by_cases c1:x<0
  ·have:=bad (by omega);simp only[sz,simprocAttr,h0,h8,ri,z1,z2,c1,this]
  by_cases c2:(n:Int)<=x
  ·have:=bad (by omega);simp only[sz,simprocAttr,h0,h8,h1,ri,z1,z2,c1,c2,this]
  obtain ⟨X,rfl⟩:=Int.eq_ofNat_of_zero_le (show 0<=x by omega);have c3:decide ((X:Int) = -1)=false:=decide_eq_false (by omega);have ki:=λg=>BI (d:=d+1) (g:=g) (s:=S.ae (l.take j)) (v:=X) (Nat.succ_pos d) (dL _) (by omega);rw[BL] at ki;cases cb:(S.ae (l.take j)).testBit X with
  | true =>
   have:=bad (by rw[Int.toNat_natCast,cb];simp);rw[cb] at ki;simp only[sz,simprocAttr,h0,h8,h1,h2,h7,ri,z1,z2,c1,c2,c3,ki,this]
  | false =>
   rw[cb] at ki;have hok':S.aY l n (j+1)=true:=by rw[S.aY,List.range_succ,List.all_append,show ((List.range j).all λj=>decide (0<=l[j]?.getD 0)&&decide (l[j]?.getD 0<(n:Int))&&!(S.ae (l.take j)).testBit (l[j]?.getD 0).toNat)=true from hok];simp[gx,cb];omega
   have wu:IntKind.wrap .u64 (X:Int)=(X:Int):=mU (by omega) (by omega);have e4:bD .shl (.int .u64 1) (.int .u64 (X:Int))=.val (.int .u64 (S.ap X:Int)):=dM .u64 X;have e5:=kW (S.ae (l.take j)) (S.ap X) (dL _) (iH X);have em:S.ae (l.take (j+1))=S.ae (l.take j) ||| S.ap X:=by rw[htk,pc];rfl
   simp only[sz,simprocAttr,h0,h8,h1,h2,h7,ri,z1,z2,c1,c2,c3,ki,wu,e4,e5];simp[St,sx,h0,h1,h2,em,hok',h8]
 ·rintro t df g ⟨rfl,⟨h0,h1,h2,-⟩,hok⟩;have:S.ay l n=decide ((l.length:Int)=(n:Int)):=by rw[S.ay,hok,Bool.and_true]
  rw[this];simp only[sz,simprocAttr,gu,h0,h1,h2,vl]
def S.ac (n:Net):List Nat:=(List.range n.nodes.length).map λv=>(S.af n)[v]?.getD 0 ||| S.ap v
def S.aP (n:Net)(l:List Int):List Sp:=if S.au n&&S.ay l n.nodes.length then (S.mk (S.ac n) l).1 else []
def S.aS (n:Net)(l:List Int):Int:=if S.au n then (if S.ay l n.nodes.length then 0 else 2) else 50
def Ih (o:List Br):Prop:=∀x∈o,x.2<18446744073709551616
theorem GW {w:Nat->Bool}{st:List Sp×List Br}(h:Ih st.2):Ih (S.jn w st).2:=by
 obtain ⟨l,o⟩:=st;cases hf:o.filter λb=>w b.2 with
 | nil=>rw[E6 hf];exact h
 | cons b bs =>
  rw[BM hf];have hbm:∀c∈b::bs,c∈o:=λc hc=>by rw[<-hf,List.mem_filter] at hc;exact hc.1
  intro x hx;unfold S.aE at hx;rcases List.mem_append.1 hx with hx | hx
  ·exact h x (List.mem_filter.1 (List.mem_filter.1 hx).1).1
  ·rcases List.mem_cons.1 hx with rfl | hx
   ·exact Ar bs (l,b) (h b (hbm b (by simp))) λc hc=>h c (hbm c (by simp[hc]))
   ·exact h x (List.mem_filter.1 (List.mem_filter.1 hx).1).1
theorem Av {fam:List Nat}{order:List Int}(h:∀x∈fam,x<18446744073709551616):∀j,Ih (S.aJ fam order j).2
 | 0=>λx hx=>by obtain ⟨v,hv,rfl⟩:=List.mem_map.1 hx;have hv:=List.mem_range.1 hv;dsimp only;rw[List.getElem?_eq_getElem hv];exact h _ (List.getElem_mem _)
 | j+1=>GW (Av h j)
theorem xp {n:Net}(hr:NR n):∀x∈S.ac n,x<18446744073709551616:=λx hx=>by
 obtain ⟨v,hv,rfl⟩:=List.mem_map.1 hx;refine Nat.or_lt_two_pow (n:=64) ?_ (iH v);cases h:(S.af n)[v]? with
 | none=>simp
 | some y =>
  obtain ⟨z,-,rfl⟩:=List.mem_map.1 (List.mem_of_getElem? h);exact dL _
def S.aL (fam:List Nat)(j:Nat):List Sp×List Br:=((List.range j).map λv:Nat=>(((v:Int),-1,-1):Sp),(List.range j).map λv:Nat=>(((v:Int),fam[v]?.getD 0):Br))
theorem GX {d pm:Nat}{pv oa:AV}{n:Net}{Q:QT}{t:T}{g:G}(hn:n.nodes.length<=8)(hpv:SlR NoP 0 .nil (S.af n) pv)(hM:MkH pm .nils .nils ([],[]) g)
  (ht:St t [(1,oa),(8,.hptr pm 0 0 0),(29,pv),(30,.int .i64 (n.nodes.length:Int)),(31,.int .i64 0)])
  (fin:∀t g L O,St t [(1,oa),(8,.hptr pm 0 0 0)]->MkH pm L O (S.aC (S.ac n)) g->Q (.exit 0) t [] g) :
  wpL (wp C0 (d+1) none eO) Q t [] g:=by
 obtain ⟨h1,h8,h29,h30,h31,-⟩:=ht;have hpl:(S.af n).length=n.nodes.length:=by simp[S.af]
 have rp:=λh=>(hpv.tree (h':=h) (Nat.le_refl 0)).nats;simp only[eO];refine bN (m:=n.nodes.length) (by omega) (λj t df g=>df=[]/\St t [(1,oa),(8,.hptr pm 0 0 0),(29,pv)]/\∃L O,MkH pm L O (S.aL (S.ac n) j) g)
  ⟨rfl,by simp[St,h1,h8,h29],_,_,hM⟩ h31 h30 (by decide) (by rintro j t df g v s (rfl | rfl | rfl)<;>simp[sx,St]) ?_ ?_
 ·clear h1 h8 h29 h30 h31 hM;rintro j t df g hj ⟨rfl,⟨h1,h8,h29,-⟩,L,O,hM⟩ h31 h30;obtain ⟨x,hx,-,-⟩:=aq (l:=S.af n) (j:=j) (by omega);have u1:j<((S.af n).map cu).length:=by simp;omega
  have u2:((S.af n).map cu)[j]?=some (cu x):=by rw[List.getElem?_map,hx];rfl
  obtain ⟨hm,hpn,oL,oO,d1,d2,d3⟩:=hM;have nc:qU (.hptr pm 0 0 0)=.val (.hptr pm 0 0 0):=rfl;have hx64:x<18446744073709551616:=by obtain ⟨z,-,rfl⟩:=List.mem_map.1 (List.mem_of_getElem? hx);exact dL _
  have hfj:(S.ac n)[j]?.getD 0=x ||| S.ap j:=by simp[S.ac,hj,hx]
  have hsl:(S.aL (S.ac n) (j+1)).1=(S.aL (S.ac n) j).1++[((j:Int),-1,-1)]:=by simp[S.aL,List.range_succ]
  have hso:(S.aL (S.ac n) (j+1)).2=(S.aL (S.ac n) j).2++[((j:Int),x ||| S.ap j)]:=by simp[S.aL,List.range_succ,hfj]
  have ll:(S.aL (S.ac n) j).1.length=j:=by simp[S.aL]
  have lo:(S.aL (S.ac n) j).2.length=j:=by simp[S.aL]
  refine bS (P:=λt' df g'=>df=[]/\g'=g/\St t' [(1,oa),(8,.hptr pm 0 0 0),(9,.int .i64 (j:Int)),(10,.int .u64 (x:Int)),(29,pv),(30,.int .i64 (n.nodes.length:Int)),(31,.int .i64 (j:Int))]) ?_ ?_
  ·simp only[sz,simprocAttr,h29,h31,rp,u1,u2,cu];simp[St,sx,h1,h8,h29,h30,h31]
  rintro t df g' ⟨rfl,rfl,h1,h8,h9,h10,h29,h30,h31,-⟩;refine bS (P:=λt' df g1=>df=[]/\St t' [(1,oa),(8,.hptr pm 0 0 0),(9,.int .i64 (j:Int)),(10,.int .u64 (x:Int)),(29,pv),(30,.int .i64 (n.nodes.length:Int)),(31,.int .i64 (j:Int))]/\∃L',MkH pm L' O ((S.aL (S.ac n) (j+1)).1,(S.aL (S.ac n) j).2) g1) ?_ ?_
  ·simp only[sz,simprocAttr,nc,h8,h9,hm];refine aA (new:=[cs3 ((j:Int),-1,-1)]) (oL.step (Fr.new _ _)) (by simp[sx,sy,cs3]) (Nat.zero_le _) (by simp[aP];omega) λv2 g2 hv2 n2 f2 c2 _=>?_;have hc:=hv2.cell;simp at n2;have ff:∀i,i<g'.nx->vid L≠some i->g2.h.get i=g'.h.get i:=λi hi hv=>by rw[f2 i (by simp;omega) hv,(Fr.new g' _).2 i hi]
   have hp2:vid v2≠some pm:=λe=>by
    rcases c2 with c | ⟨k,c,c'⟩
    ·exact d1 (c ▸ e)
    ·rw[e] at c;injection c with c;simp at c';omega
   have m2:g2.h.get pm=.cells 2 [[L,O]] 0 false false:=by rw[ff pm hpn d1,hm]
   simp only[sz,simprocAttr,nc,h8,m2,hc.1,hc.2];refine ⟨by simp[St,sx,h1,h8,h9,h10,h29,h30,h31],v2,by simp[H.get_put],by simp;omega,?_,?_,hp2,d2,λi hi hi2=>?_⟩
   ·rw[hsl];have:Own g2 0 v2 3 (((S.aL (S.ac n) j).1++[((j:Int),-1,-1)]).map cs3):=by simpa using hv2
    exact this.fr (by simp) λi hi=>by simp[H.get_put,show ¬i=pm from λe=>hp2 (by rw[<-e,hi])]
   ·refine oO.fr (by simp;omega) λi hi=>?_;rw[G.put_h,aD _ _ _ (λe=>d2 (by rw[<-e,hi])),ff i (oO.lt hi).2 λe=>d3 i e hi]
   ·rcases c2 with c | ⟨k,c,c'⟩
    ·exact d3 i (c ▸ hi) hi2
    ·rw[hi] at c;injection c with c;have:=(oO.lt hi2).2;simp at c';omega
  rintro t df g1 ⟨rfl,⟨h1,h8,h9,h10,h29,h30,h31,-⟩,L',hm1,hpn1,oL1,oO1,e1,e2,e3⟩;dsimp only at oL1 oO1;have e4:bD .shl (.int .u64 1) (.int .i64 (j:Int))=.val (.int .u64 (S.ap j:Int)):=dM .i64 j;have e5:=kW x (S.ap j) hx64 (iH j);simp only[sz,simprocAttr,sf,nc,h8,h9,h10,hm1,e4,e5];refine aA (new:=[cbr ((j:Int),x ||| S.ap j)]) (oO1.fr (by first | (simp;done) | (simp;omega)) λi hi=>by have:=(oO1.lt hi).2;simp[H.get_put];intro e;omega) (by simp[sx,sy,cbr]) (Nat.zero_le _) (by simp[aP];omega) λv2 g2 hv2 n2 f2 c2 lg2=>?_;have hc:=hv2.cell;have ff:∀i,i<g1.nx->vid O≠some i->g2.h.get i=g1.h.get i:=λi hi hv=>by rw[f2 i (by first | (simp;done) | (simp;omega)) hv];simp[H.get_put];intro e;omega
  simp at n2;have hp2:vid v2≠some pm:=λe=>by
   rcases c2 with c | ⟨k,c,c'⟩
   ·exact e2 (c ▸ e)
   ·rw[e] at c;injection c with c;simp at c';omega
  have m2:g2.h.get pm=.cells 2 [[L',O]] 0 false false:=by rw[ff pm hpn1 e2,hm1]
  simp only[sz,simprocAttr,sf,nc,h8,m2,hc.1,hc.2];refine ⟨?_,⟨by simp[St,sx,h1,h8,h29],L',v2,by simp[H.get_put],by simp;omega,?_,?_,e1,hp2,λi hi hi2=>?_⟩,by simp[sx,h30,h31]⟩
  ·simp only[List.reverse_cons,List.reverse_nil,List.nil_append,List.cons_append,G.new_lg,G.put_lg,setLog_lg];refine aC [false,false,false,false,false,false,false,false,false,false,false,true,true,false,false,true] [(0,11),(1,11),(2,11),(3,11),(4,11),(0,12)] (by simp[All2,af,au]) (by decide) ?_;rintro p hp x y hx hy;simp only[List.mem_cons,List.not_mem_nil,or_false] at hp;rcases hp with rfl | rfl | rfl | rfl | rfl | rfl<;>(simp at hx hy;subst hx;subst hy;refine bH rfl rfl rfl rfl ?_ ?_ ?_<;>simp[af,au,ae]<;>omega)
  ·refine oL1.fr (by simp;omega) λi hi=>?_;have i1:=(oL1.lt hi).2;have i2:¬i=pm:=λe=>e1 (by rw[<-e,hi]);have i3:=ff i i1 λe=>e3 i hi e;simp[H.get_put,i2,i3]
  ·rw[hso];have:Own g2 0 v2 2 (((S.aL (S.ac n) j).2++[((j:Int),x ||| S.ap j)]).map cbr):=by simpa using hv2
   exact this.fr (by first | (simp;done) | (simp;omega)) λi hi=>by simp[H.get_put,show ¬i=pm from λe=>hp2 (by rw[<-e,hi])]
  ·rcases c2 with c | ⟨k,c,c'⟩
   ·exact e3 i hi (c ▸ hi2)
   ·rw[hi2] at c;injection c with c;have:=(oL1.lt hi).2;simp at c';omega
 ·rintro t df g ⟨rfl,⟨h1,h8,-⟩,L,O,hM⟩;have:S.aL (S.ac n) n.nodes.length=S.aC (S.ac n):=by simp[S.aL,S.aC,S.ac]
  rw[this] at hM;exact fin t g L O (by simp[St,h1,h8]) hM
theorem I3 (a b c:Int):C5 true (.flat [.int .i64,.int .i64,.int .i64]) (.agg [.int .i64 a,.int .i64 b,.int .i64 c]) (.agg [.int .i64 a,.int .i64 b,.int .i64 c])=.val (.bool false):=by
 simp only[C5,eqA,cV,dh,kY,qM];simp
 rfl
theorem DC {d k k2:Nat}{g:G}{P P2:Nat->Prop}{v w:AV}{l:List Sp}(hd:0<d)(hv:SlR P k g.h l v)(hw:SlR P2 k2 g.h l w):ay C0 d N.aH [v,w] g=.val (.bool true):=by
 obtain ⟨v',e1,r1⟩:=dF hv d;obtain ⟨w',e2,r2⟩:=dF hw d;have vl:∀g,d8 .slice v' g=.val (.int .i64 (l.length:Int)):=λg=>(r1 .nil).len g;have wl:∀g,d8 .slice w' g=.val (.int .i64 (l.length:Int)):=λg=>(r2 .nil).len g;have vs:=λh=>(r1 h).sps;have ws:=λh=>(r2 h).sps;rw[sT];refine e6 vp (xs:=[v',w']) (by simp only[aJ,e1,e2]) (by simp[mE]) hd ?_;simp only[sz,simprocAttr,mE,vl,wl,nq];refine aV l.length hv.1 (λj t df g=>df=[]/\St t [(0,v'),(1,w')])
  ⟨rfl,by simp[St,sx]⟩ (by simp[sx]) (by decide) (by rintro j t df g v s (rfl | rfl | rfl)<;>simp[sx,St]) ?_ ?_ ?_
 ·rintro j t df g hj ⟨rfl,h0,h1,-⟩ h5;simp only[sz,simprocAttr,h0,h5,vl];simp[St,sx,h0,h1]
 ·rintro j t df g hj ⟨rfl,h0,h1,-⟩ h5;obtain ⟨⟨a,b,c⟩,hx,-,-⟩:=aq hj;have u1:j<(l.map cs3).length:=by simpa using hj
  have u2:(l.map cs3)[j]?=some [.int .i64 a,.int .i64 b,.int .i64 c]:=by rw[List.getElem?_map,hx];rfl
  simp only[sz,simprocAttr,h0,h1,h5,vs,ws,u1,u2,I3];simp[St,sx,h0,h1,h5]
 ·rintro t df g ⟨rfl,-⟩;simp only[sz,simprocAttr,ny]
theorem C6 {d v:Nat}{g:G}{w:AV}{n:Net}(hd:0<d)(hr:NR n)(hm:Agg n NoP 0 g.h w)(hv:v<n.nodes.length):ay C0 d N.aF [w,.int .i64 (v:Int)] g=.val (.int .u64 ((S.ac n)[v]?.getD 0:Nat)):=by
 obtain ⟨b,rows,rfl,e1,hm',hN,-⟩:=gy d hm;have hn8:=hr.l2;have key:∃r,ay C0 d N.aF [.agg [.int .i64 n.grain,b],.int .i64 (v:Int)] g=.val r/\One (((S.ac n)[v]?.getD 0:Nat)) NoP 0 .nil r:=by
  rw[qA];refine bK sY (xs:=[.agg [.int .i64 n.grain,b],.int .i64 (v:Int)]) (by simp only[aJ,e1,gc 0]) (by simp[jH]) (bL _) (by decide) hd ?_;simp only[sz,simprocAttr,jH];obtain ⟨g0,hg0⟩:∃g0,g0=G.empty.new (.cells 2 [[.int .i64 n.grain,b]] 0 false false):=⟨_,rfl⟩;rw[<-hg0];have f0:g0.h.get 0=.cells 2 [[.int .i64 n.grain,b]] 0 false false:=by rw[hg0];simp[sx]
  clear hg0;have ld:bm (.cells 2 [[.int .i64 n.grain,b]] 0 false false) 0 0 true 2 0=.val (.agg [.int .i64 n.grain,b]):=rfl;simp only[sz,simprocAttr,lZ,f0,ld];refine cF (zt (Nat.succ_pos d) (hm' _) (by omega) ?_) λr hr1=>?_
  ·intro x hx y hy;have:=eD (hr.places x hx) y hy;omega
  have hps:=λh=>(hr1.sl h).nats;obtain ⟨x,hx,-,-⟩:=aq (l:=S.af n) (j:=v) (by simp[S.af];exact hv);have hpl:(S.af n).length=n.nodes.length:=by simp[S.af]
  have u1:v<((S.af n).map cu).length:=by rw[List.length_map,hpl];exact hv
  have u2:((S.af n).map cu)[v]?=some [.int .u64 (x:Int)]:=by rw[List.getElem?_map,hx];rfl
  have hx64:x<18446744073709551616:=by obtain ⟨z,-,rfl⟩:=List.mem_map.1 (List.mem_of_getElem? hx);exact dL _
  have hf:(S.ac n)[v]?.getD 0=x ||| S.ap v:=by simp[S.ac,hv,hx]
  have wu:IntKind.wrap .u64 (v:Int)=(v:Int):=mU (by omega) (by omega);have e4:bD .shl (.int .u64 1) (.int .u64 (v:Int))=.val (.int .u64 (S.ap v:Int)):=dM .u64 v;have e5:=kW x (S.ap v) hx64 (iH v);simp only[sz,simprocAttr,hps,u1,u2,wu,e4,e5];rw[hf];exact ⟨λ_=>True,rR.2 ⟨rfl,Nat.or_lt_two_pow (n:=64) hx64 (iH v)⟩⟩
 obtain ⟨r,e,hr1⟩:=key;obtain ⟨h1,-⟩:=rR.1 hr1;injection h1 with h1;rw[e,h1]
structure RmH (gr:Int) (b u5 u6 u7:AV) (l:List Sp) (f:List Nat) (op:List Bool) (g:G):Prop where
 g0:g.h.get 0=.cells 2 [[.int .i64 gr,b]] 0 false false
 nx:1<=g.nx
 o5:Own g 1 u5 3 (l.map cs3)
 o6:Own g 1 u6 1 (f.map cu)
 o7:Own g 1 u7 1 (op.map cb)
 d56:∀i,vid u5=some i->vid u6≠some i
 d57:∀i,vid u5=some i->vid u7≠some i
 d67:∀i,vid u6=some i->vid u7≠some i
theorem RmH.fr {gr:Int}{b u5 u6 u7:AV}{l:List Sp}{f:List Nat}{op:List Bool}{g g':G}(h:RmH gr b u5 u6 u7 l f op g)(hf:Fr g g'):RmH gr b u5 u6 u7 l f op g' :=
 ⟨by rw[hf.2 0 (by have:=h.nx;omega),h.g0],by have:=h.nx;have:=hf.1;omega,h.o5.step hf,h.o6.step hf,h.o7.step hf,h.d56,h.d57,h.d67⟩
def S.wn (order:List Int)(j:Nat)(s:Nat):Bool:=decide (j=order.length) || s.testBit (order[j]?.getD 0).toNat
theorem Ji {d st kw:Nat}{gr:Int}{b u5 u6 u7 ow nv:AV}{l:List Sp}{o:List Br}{f:List Nat}{op:List Bool}{order:List Int}{n:Nat}{Q:QT}{t:T}{gC:G}(hd:0<d)(hl:l.length<=100)(hst:st<=order.length)(hord:S.ay order n=true)(how:SlR NoP kw .nil order ow)
  (hF:Fl l o f op) (hf64:∀x∈f,x<18446744073709551616) (hJ:RmH gr b u5 u6 u7 l f op gC)
  (ht:St t [(1,ow),(2,nv),(5,u5),(6,u6),(7,u7),(9,.int .i64 (st:Int)),(10,.nils),(11,.int .i64 0)])
  (fin:∀t g v,St t [(1,ow),(2,nv),(5,u5),(6,u6),(7,u7),(9,.int .i64 (st:Int)),(10,v)]->Own g gC.nx v 1 ((((o.filter λc=>S.wn order st c.2).map (·.1))).map ci)->Fr gC g->Q (.exit 4) t [] g) :
  wpL (wp C0 d none iS) Q t [] gC:=by
 obtain ⟨h1,h2,h5,h6,h7,h9,h10,h11,-⟩:=ht;have l5:=λg=>hJ.o5.sat_len g;rw[List.length_map] at l5;have wl:=λg=>how.len g;have ri:=λh=>(how.tree (h':=h) (Nat.le_refl kw)).ints;have hn0:∀c∈o,0<=c.1:=λc hc=>(hF.bd c hc).1;simp only[iS,nh];refine aV l.length (by omega) (λj t df g=>df=[]/\St t [(1,ow),(2,nv),(5,u5),(6,u6),(7,u7),(9,.int .i64 (st:Int))]/\∃v,tat t 10=v/\Own g gC.nx v 1 ((S.wt o (S.wn order st) j).map ci)/\Fr gC g)
  ⟨rfl,by simp[St,h1,h2,h5,h6,h7,h9],_,h10,by rw[HG hn0];exact .inl ⟨rfl,rfl⟩,Fr.refl _⟩ h11 (by decide) (by rintro j t df g v s (rfl | rfl | rfl)<;>simp[sx,St]) ?_ ?_ ?_
 ·clear h1 h2 h5 h6 h7 h9 h10 h11;rintro j t df g hj ⟨rfl,⟨h1,h2,h5,h6,h7,h9,-⟩,v,h10,r⟩ h11;simp only[sz,simprocAttr,h5,h11,l5];exact ⟨by simp[St,sx,h1,h2,h5,h6,h7,h9],v,by simp[sx,h10],r⟩
 ·clear h1 h2 h5 h6 h7 h9 h10 h11;rintro j t df g hj ⟨rfl,⟨h1,h2,h5,h6,h7,h9,-⟩,v,h10,oV,hf⟩ h11;have hJ2:=hJ.fr hf;obtain ⟨wt1,wt2⟩:=CC (w:=S.wn order st) (i:=j) hF.so hn0;have r7:=hJ2.o7.rows;have r6:=hJ2.o6.rows;have z7:j<(op.map cb).length:=by rw[List.length_map,hF.lo];exact hj
  have z6:j<(f.map cu).length:=by rw[List.length_map,hF.lf];exact hj
  obtain ⟨x,hx⟩:∃x,f[j]?=some x:=⟨_,List.getElem?_eq_getElem (by rw[hF.lf];exact hj)⟩;have y6:(f.map cu)[j]?=some [.int .u64 (x:Int)]:=by rw[List.getElem?_map,hx];rfl
  obtain ⟨bo,hbo⟩:∃bo,op[j]?=some bo:=⟨_,List.getElem?_eq_getElem (by rw[hF.lo];exact hj)⟩;have y7:(op.map cb)[j]?=some [.bool bo]:=by rw[List.getElem?_map,hbo];rfl
  have hx64:=hf64 x (List.mem_of_getElem? hx);have hfo:=hF.fo j hj;rw[hbo] at hfo;cases bo with
  | false =>
   have hno:∀c∈o,c.1≠(j:Int):=λc hc e=>by have:=hfo.2 ⟨c,hc,e⟩;simp at this
   rw[wt2 hno];simp only[sz,simprocAttr,h7,h11,r7,z7,y7];exact ⟨by simp[St,sx,h1,h2,h5,h6,h7,h9],v,by simp[sx,h10],oV,hf⟩
  | true =>
   obtain ⟨c,hc,hcj⟩:=hfo.1 rfl;have hfc:=hF.ff c hc;rw[hcj,Int.toNat_natCast,hx] at hfc;injection hfc with hfc;have hw1:=wt1 c hc hcj;rw[<-hfc] at hw1;rw[hw1];have hwl:(S.wt o (S.wn order st) j).length<=o.length:=by rw[S.wt,List.length_map];exact List.length_filter_le _ _
   have hol:o.length<=100:=by
    have h1:=tv (a:=o.map (·.1)) (b:=(List.range l.length).map λi:Nat=>(i:Int)) (by rw[List.Nodup,List.pairwise_map];exact hF.so.imp λh=>by omega) λx hx=>by obtain ⟨c,hc,rfl⟩:=List.mem_map.1 hx;have:=hF.bd c hc;exact List.mem_map.2 ⟨c.1.toNat,List.mem_range.2 (by omega),by omega⟩
    simp at h1;omega
   by_cases cs:st=order.length
   ·have hw:S.wn order st x=true:=by simp[S.wn,cs]
    rw[hw];have d1:decide ((st:Int)=(order.length:Int))=true:=decide_eq_true (by omega);simp only[sz,simprocAttr,h1,h7,h9,h10,h11,r7,z7,y7,wl,d1];refine aA (new:=[ci (j:Int)]) (oV.step (Fr.new _ _)) (by simp[sx,sy,ci]) (by have:=hf.1;simp;omega) (by simp[aP];omega) λv2 g2 hv2 n2 f2 _ _=>?_;have fg:Fr gC g2:=⟨by have:=hf.1;simp at n2;omega,λi hi=>by
     have:=hf.1;rw[f2 i (by simp;omega) (λe=>by have:=(oV.lt e).1;omega),(Fr.new g _).2 i (by omega),hf.2 i hi]⟩
    simp only[sz,simprocAttr];refine ⟨⟨by simp[St,sx,h1,h2,h5,h6,h7,h9],v2,by simp[sx],by simpa using hv2,fg⟩,by simp[sx,h11]⟩
   ·have d1:decide ((st:Int)=(order.length:Int))=false:=decide_eq_false (by omega);obtain ⟨y,hy,-,-⟩:=aq (l:=order) (j:=st) (by omega);have hb:=hord;simp only[S.ay,S.aY,Bool.and_eq_true,decide_eq_true_eq,List.all_eq_true,List.mem_range] at hb;have hb:=(hb.2 st (by omega)).1.1;rw[hy,Option.getD_some] at hb;obtain ⟨Y,rfl⟩:=Int.eq_ofNat_of_zero_le hb;have z1:st<(order.map ci).length:=by simp;omega
    have y1:(order.map ci)[st]?=some [.int .i64 (Y:Int)]:=by rw[List.getElem?_map,hy];rfl
    have hY:Y<9223372036854775808:=by simp only[S.ay,S.aY,Bool.and_eq_true,decide_eq_true_eq,List.all_eq_true,List.mem_range] at hord;have h2:=(hord.2 st (by omega)).1.2;rw[hy,Option.getD_some] at h2;have:=how.1;omega
    have ki:=λg=>BI (d:=d) (g:=g) (s:=x) (v:=Y) hd hx64 hY;rw[BL] at ki;have hw:S.wn order st x=x.testBit Y:=by rw[S.wn,decide_eq_false cs,Bool.false_or,hy];rfl
    rw[hw];cases cb:x.testBit Y with
    | true =>
     rw[cb] at ki;simp only[sz,simprocAttr,h1,h6,h7,h9,h10,h11,r6,r7,z6,z7,y6,y7,ri,z1,y1,wl,d1,ki];refine aA (new:=[ci (j:Int)]) (oV.step (Fr.new _ _)) (by simp[sx,sy,ci]) (by have:=hf.1;simp;omega) (by simp[aP];omega) λv2 g2 hv2 n2 f2 _ _=>?_;have fg:Fr gC g2:=⟨by have:=hf.1;simp at n2;omega,λi hi=>by
      have:=hf.1;rw[f2 i (by simp;omega) (λe=>by have:=(oV.lt e).1;omega),(Fr.new g _).2 i (by omega),hf.2 i hi]⟩
     simp only[sz,simprocAttr];refine ⟨⟨by simp[St,sx,h1,h2,h5,h6,h7,h9],v2,by simp[sx],by simpa using hv2,fg⟩,by simp[sx,h11]⟩
    | false =>
     rw[cb] at ki;simp only[sz,simprocAttr,h1,h6,h7,h9,h11,r6,r7,z6,z7,y6,y7,ri,z1,y1,wl,d1,ki];exact ⟨by simp[St,sx,h1,h2,h5,h6,h7,h9],v,by simp[sx,h10],by simpa using oV,hf⟩
 ·rintro t df g ⟨rfl,⟨h1,h2,h5,h6,h7,h9,-⟩,v,h10,oV,hf⟩;rw[IQ λc hc=>(hF.bd c hc).2] at oV;exact fin t g v (by simp[St,h1,h2,h5,h6,h7,h9,h10]) oV hf
theorem B4 {l:List Br}{x c:Br}:c∈S.aE l x↔(c∈l/\c.1≠x.1)\/c=x:=by
 unfold S.aE;rw[List.mem_append,List.mem_cons,List.mem_filter,List.mem_filter,decide_eq_true_eq,decide_eq_true_eq];constructor
 ·rintro (⟨h,h'⟩ | h | ⟨h,h'⟩)
  ·exact .inl ⟨h,by omega⟩
  ·exact .inr h
  ·exact .inl ⟨h,by omega⟩
 ·rintro (⟨h,h'⟩ | h)
  ·rcases Int.lt_or_gt_of_ne h' with e | e
   ·exact .inl ⟨h,e⟩
   ·exact .inr (.inr ⟨h,e⟩)
  ·exact .inr (.inl h)
theorem Iq {l:List Sp}{o:List Br}{f:List Nat}{op:List Bool}{w:Nat->Bool}{b c:Br}{bs:List Br}{j:Nat}(h:Fl l o f op)(hf:o.filter (λc=>w c.2)=b::bs)(hc:bs[j]?=some c) :
  ∃s,s=(bs.take j).foldl S.aM ((l,b),f,op)/\s.1=(bs.take j).foldl S.aq (l,b)/\s.2.1.length=s.1.1.length/\s.2.2.length=s.1.1.length/\(0<=s.1.2.1/\s.1.2.1<(s.1.1.length:Int)/\s.2.1[s.1.2.1.toNat]?=some s.1.2.2)/\(0<=c.1/\c.1<(s.1.1.length:Int)/\s.2.1[c.1.toNat]?=some c.2):=by
 have hmem:∀c,c∈b::bs↔c∈o/\w c.2=true:=λc=>by rw[<-hf,List.mem_filter]
 have hp:(b::bs).Pairwise λa b=>a.1<b.1:=by rw[<-hf];exact h.so.filter _
 have hjl:=(List.getElem?_eq_some_iff.1 hc).1;have hcm:c∈bs:=List.mem_of_getElem? hc;have hp2:(b::bs.take j).Pairwise λa b=>a.1≠b.1:=(hp.sublist (List.Sublist.cons_cons b (List.take_sublist j bs))).imp λh=>by omega
 have key:=xr (bs.take j) l o b f op h ((hmem b).1 (by simp)).1 (λc hc=>((hmem c).1 (by simp[List.mem_of_mem_take hc])).1) hp2;have e1:=xw (bs.take j) ((l,b),f,op);have hlast:((bs.take j).foldl S.aq (l,b)).2∈S.aE (o.filter λc=>!decide (c.1∈(b::bs.take j).map (·.1))) ((bs.take j).foldl S.aq (l,b)).2:=B4.2 (.inr rfl);have hco:=((hmem c).1 (by simp[hcm])).1;have hcb:=h.bd c hco;have hcn:c.1 ∉ (b::bs.take j).map (·.1):=λhm=>by
  obtain ⟨d,hd,hde⟩:=List.mem_map.1 hm;rcases List.mem_cons.1 hd with rfl | hd
  ·have:=(List.pairwise_cons.1 hp).1 c hcm;omega
  ·obtain ⟨i,hi,he⟩:=List.mem_iff_getElem.1 hd;rw[List.length_take] at hi;rw[List.getElem_take] at he;have:=List.pairwise_iff_getElem.1 (List.pairwise_cons.1 hp).2 i j (by omega) hjl (by omega);rw[List.getElem?_eq_getElem hjl] at hc;injection hc with hc;rw[he,hc] at this;omega
 have hclast:c.1≠((bs.take j).foldl S.aq (l,b)).2.1:=by
  cases ht:bs.take j with
  | nil =>
   have:=(List.pairwise_cons.1 hp).1 c hcm;simp only[List.foldl_nil];omega
  | cons d ds =>
   have:=qO (d::ds) (l,b) (by simp);rw[this];simp only[List.length_cons];omega
 have hcin:c∈S.aE (o.filter λc=>!decide (c.1∈(b::bs.take j).map (·.1))) ((bs.take j).foldl S.aq (l,b)).2:=B4.2 (.inl ⟨List.mem_filter.2 ⟨hco,by simpa using hcn⟩,hclast⟩);have b1:=key.bd _ hlast;have b2:=key.bd _ hcin;have f1:=key.ff _ hlast;have f2:=key.ff _ hcin;refine ⟨_,rfl,e1,?_,?_,?_,?_⟩
 ·rw[e1];exact key.lf
 ·rw[e1];exact key.lo
 ·rw[e1];exact ⟨b1.1,b1.2,f1⟩
 ·rw[e1];exact ⟨b2.1,b2.2,f2⟩
def LRm (ow nv u5 u6 u7 v:AV)(st:Nat):List (Nat×AV):=[(1,ow),(2,nv),(5,u5),(6,u6),(7,u7),(9,.int .i64 (st:Int)),(10,v)]
structure RmV (v u5 u6 u7:AV) (B:Nat) (L:List Int) (g:G):Prop where
 ov:Own g B v 1 (L.map ci)
 d5:∀i,vid v=some i->vid u5≠some i
 d6:∀i,vid v=some i->vid u6≠some i
 d7:∀i,vid v=some i->vid u7≠some i
theorem bF {g gX g2:G}{u v2 y:AV}{B sz:Nat}{rows:List (List AV)}(hy:Own g B y sz rows)(hd:∀i,vid u=some i->vid y≠some i)(fx:Fr g gX)(n2:gX.nx<=g2.nx)(f2:∀i,i<gX.nx->vid u≠some i->g2.h.get i=gX.h.get i)(c2:vid v2=vid u\/∃i,vid v2=some i/\gX.nx<=i) :
  Own g2 B y sz rows/\∀i,vid v2=some i->vid y≠some i:=by
 have:=fx.1;refine ⟨hy.fr (by omega) λi hi=>?_,λi hi e=>?_⟩
 ·have:=(hy.lt hi).2;rw[f2 i (by omega) λe=>hd i e hi,fx.2 i this]
 ·rcases c2 with c | ⟨k,c,c'⟩
  ·exact hd i (c ▸ hi) e
  ·rw[hi] at c;injection c with c;have:=(hy.lt e).2;omega
theorem kN {g:G}{u:AV}{B sz:Nat}{rows:List (List AV)}(h:Own g B u sz rows)(hB:1<=B):vid u≠some 0:=λe=>by have:=(h.lt e).1;omega
set_option maxRecDepth 20000 in
theorem Jj {d st B:Nat}{gr:Int}{b ow nv u5 u6 u7 v:AV}{l:List Sp}{o:List Br}{f:List Nat}{op:List Bool}{w:Nat->Bool}{Q:QT}{t:T}{gC:G}(hl:l.length<=100)(hB:1<=B)(hF:Fl l o f op)(hf64:∀x∈f,x<18446744073709551616)(hJ:RmH gr b u5 u6 u7 l f op gC)(hV:RmV v u5 u6 u7 B ((o.filter λc=>w c.2).map (·.1)) gC)
  (ht:St t ((12,.int .i64 1)::LRm ow nv u5 u6 u7 v st))
  (fin:∀t g u5 u6 u7 f' op',St t [(1,ow),(2,nv),(5,u5),(6,u6),(7,u7),(9,.int .i64 (st:Int))]->RmH gr b u5 u6 u7 (S.jn w (l,o)).1 f' op' g->Fl (S.jn w (l,o)).1 (S.jn w (l,o)).2 f' op'->(∀x∈f',x<18446744073709551616)->Q (.exit 6) t [] g) :
  wpL (wp C0 d none iT) Q t [] gC:=by
 obtain ⟨h12,h1,h2,h5,h6,h7,h9,h10,-⟩:=ht;have vl:=λg=>hV.ov.sat_len g;rw[List.length_map,List.length_map] at vl;simp only[iT,nj];cases hfl:o.filter λc=>w c.2 with
 | nil =>
  rw[hfl] at vl;refine ru (m:=0) (λj t df g=>df=[]/\g=gC/\St t ((12,.int .i64 1)::LRm ow nv u5 u6 u7 v st)) ⟨rfl,rfl,by simp[St,LRm,h12,h1,h2,h5,h6,h7,h9,h10]⟩ ?_ (λj t df g hj=>by omega) ?_
  ·rintro j t df g hj ⟨rfl,rfl,h12,h1,h2,h5,h6,h7,h9,h10,-⟩;have hj0:j=0:=by omega
   subst hj0;simp only[sz,simprocAttr,h10,h12,vl];simp[St,LRm,sx,h12,h1,h2,h5,h6,h7,h9,h10]
  ·rintro t df g ⟨rfl,rfl,h12,h1,h2,h5,h6,h7,h9,h10,-⟩;have ej:=(HM (w:=w) hF).1 hfl;refine fin t _ u5 u6 u7 f op (by simp[St,h1,h2,h5,h6,h7,h9]) ?_ ?_ hf64
   ·rw[ej];exact hJ
   ·rw[ej];exact hF
 | cons bb bs =>
  have hol:o.length<=100:=by
   have h1:=tv (a:=o.map (·.1)) (b:=(List.range l.length).map λi:Nat=>(i:Int)) (by rw[List.Nodup,List.pairwise_map];exact hF.so.imp λh=>by omega) λx hx=>by obtain ⟨c,hc,rfl⟩:=List.mem_map.1 hx;have:=hF.bd c hc;exact List.mem_map.2 ⟨c.1.toNat,List.mem_range.2 (by omega),by omega⟩
   simp at h1;omega
  have hbl:bs.length<=99:=by have h1:=List.length_filter_le (λc:Br=>w c.2) o;rw[hfl,List.length_cons] at h1;omega
  rw[hfl] at vl hV;have ej:=(HM (w:=w) hF).2 bb bs hfl;refine ru (m:=bs.length) (λj t df g=>df=[]/\∃u5 u6 u7,St t ((12,.int .i64 ((j+1:Nat):Int))::LRm ow nv u5 u6 u7 v st)/\RmH gr b u5 u6 u7 ((bs.take j).foldl S.aM ((l,bb),f,op)).1.1 ((bs.take j).foldl S.aM ((l,bb),f,op)).2.1 ((bs.take j).foldl S.aM ((l,bb),f,op)).2.2 g/\RmV v u5 u6 u7 B ((bb::bs).map (·.1)) g/\∀x∈((bs.take j).foldl S.aM ((l,bb),f,op)).2.1,x<18446744073709551616)
   ⟨rfl,u5,u6,u7,by simp[St,LRm,h12,h1,h2,h5,h6,h7,h9,h10],hJ,hV,hf64⟩ ?_ ?_ ?_
  ·clear h12 h1 h2 h5 h6 h7 h9 h10;rintro j t df g hj ⟨rfl,u5,u6,u7,⟨h12,h1,h2,h5,h6,h7,h9,h10,-⟩,r⟩;have c:decide (((j+1:Nat):Int)<((bs.length+1:Nat):Int))=decide (j<bs.length):=decide_eq_decide.2 (by omega);have vl:∀g,d8 .slice v g=.val (.int .i64 ((bs.length+1:Nat):Int)):=vl;simp only[sz,simprocAttr,h10,h12,vl,c];exact ⟨u5,u6,u7,by simp[St,LRm,sx,h12,h1,h2,h5,h6,h7,h9,h10],r⟩
  ·clear h12 h1 h2 h5 h6 h7 h9 h10 hJ hV hf64;rintro j t df g hj ⟨rfl,u5,u6,u7,⟨h12,h1,h2,h5,h6,h7,h9,h10,-⟩,hJ,hV,hf64⟩;obtain ⟨c,hc,htk,-⟩:=aq hj;obtain ⟨s,hs,hs1,q1,q2,q3,q4⟩:=Iq hF hfl hc;have hstep:(bs.take (j+1)).foldl S.aM ((l,bb),f,op)=S.aM s c:=by rw[htk,List.foldl_append,hs];rfl
   rw[hstep];rw[<-hs] at hJ hf64;obtain ⟨⟨lj,a⟩,fj,oj⟩:=s;dsimp only at hJ hf64 q1 q2 q3 q4 hs1;have hlen:lj.length=l.length+j:=by have:=xA (bs.take j) (l,bb);rw[<-hs1,List.length_take] at this;dsimp only at this;omega
   obtain ⟨⟨A1,A2⟩,a2⟩:=(⟨⟨q3.1,q3.2.1⟩,q3.2.2⟩:(0<=a.1/\a.1<(lj.length:Int))/\fj[a.1.toNat]?=some a.2);have rv:=hV.ov.rows;have lrv:(((bb::bs).map (·.1)).map ci).length=bs.length+1:=by simp
   have v0:(((bb::bs).map (·.1)).map ci)[0]?=some [.int .i64 bb.1]:=rfl;have vj:(((bb::bs).map (·.1)).map ci)[j+1]?=some [.int .i64 c.1]:=by rw[List.getElem?_map,List.getElem?_map,List.getElem?_cons_succ,hc];rfl
   have vjl:j+1<(((bb::bs).map (·.1)).map ci).length:=by rw[lrv];omega
   have i0:ug 1 v (.int .i64 0) g=.val (eg 1 v 0 0):=th (k:=.i64) (i:=0) (by rw[rv];rfl) (by rw[rv];simp);have v0l:0<(((bb::bs).map (·.1)).map ci).length:=by rw[lrv];omega
   have l5:=λg=>hJ.o5.sat_len g;rw[List.length_map] at l5;refine bS (P:=λt' df g'=>df=[]/\g'=g/\St t' ((13,.int .i64 bb.1)::(12,.int .i64 ((j+1:Nat):Int))::LRm ow nv u5 u6 u7 v st)) ?_ ?_
   ·simp only[sz,simprocAttr,h10,i0,rv,v0,v0l];simp[St,LRm,sx,h12,h1,h2,h5,h6,h7,h9,h10]
   rintro t df g1 ⟨rfl,rfl,h13,h12,h1,h2,h5,h6,h7,h9,h10,-⟩;refine bS (P:=λt' df g'=>df=[]/\g'=g1/\St t' ((13,.int .i64 a.1)::(12,.int .i64 ((j+1:Nat):Int))::LRm ow nv u5 u6 u7 v st)) ?_ ?_
   ·by_cases cj:j=0
    ·subst cj;have ea:a=bb:=by have:=congrArg Prod.snd hs1;simpa using this
     have d1:decide ((1:Int)<((0+1:Nat):Int))=false:=decide_eq_false (by omega);simp only[sz,simprocAttr,h12,d1];simp[St,LRm,sx,h13,h12,h1,h2,h5,h6,h7,h9,h10,ea]
    ·have d1:decide ((1:Int)<((j+1:Nat):Int))=true:=decide_eq_true (by omega);have ea:a.1=(lj.length:Int) - 1:=by have h1:=qO (bs.take j) (l,bb) (by intro e;have:=congrArg List.length e;rw[List.length_take,List.length_nil] at this;omega);rw[<-hs1,List.length_take] at h1;dsimp only at h1;omega
     have w1:IntKind.wrap .i64 ((lj.length:Int) - 1)=a.1:=by rw[aB (by omega) (by omega),ea]
     simp only[sz,simprocAttr,h5,h12,d1,l5,w1];simp[St,LRm,sx,h13,h12,h1,h2,h5,h6,h7,h9,h10]
   rintro t df g2 ⟨rfl,rfl,h13,h12,h1,h2,h5,h6,h7,h9,h10,-⟩;obtain ⟨X,hX⟩:=Int.eq_ofNat_of_zero_le A1;obtain ⟨Y,hY⟩:=Int.eq_ofNat_of_zero_le q4.1;obtain ⟨e0,enx,o5,o6,o7,d56,d57,d67⟩:=hJ;simp only[ni];have ea2:a.2<18446744073709551616:=hf64 _ (List.mem_of_getElem? a2);have ec2:c.2<18446744073709551616:=hf64 _ (List.mem_of_getElem? q4.2.2);rw[hX,Int.toNat_natCast] at a2;have hq4:=q4.2.2;rw[hY,Int.toNat_natCast] at hq4;have hXl:X<lj.length:=by omega
   have hYl:Y<lj.length:=by omega
   refine bT (P:=λt' df g'=>df=[]/\∃w5,St t' ((13,.int .i64 a.1)::(12,.int .i64 ((j+1:Nat):Int))::LRm ow nv w5 u6 u7 v st)/\RmH gr b w5 u6 u7 (lj++[(-1,a.1,c.1)]) fj oj g'/\RmV v w5 u6 u7 B ((bb::bs).map (·.1)) g') ?_ ?_
   ·simp only[sz,simprocAttr,h5,h10,h12,h13,rv,vj,vjl];refine aA (new:=[cs3 (-1,a.1,c.1)]) (o5.step (Fr.new _ _)) (by simp[sx,sy,cs3]) (by first | (simp;done) | (simp;omega)) (by simp[aP];omega) λv2 g3 hv2 n2 f2 c2 _=>?_;simp only[sz,simprocAttr];obtain ⟨p6,r6⟩:=bF o6 d56 (Fr.new _ _) n2 f2 c2;obtain ⟨p7,r7⟩:=bF o7 d57 (Fr.new _ _) n2 f2 c2;obtain ⟨pv,rv⟩:=bF hV.ov (λi h h'=>hV.d5 i h' h) (Fr.new _ _) n2 f2 c2;refine ⟨v2,by simp[St,LRm,sx,h13,h12,h1,h2,h6,h7,h9,h10],⟨?_,by simp at n2;omega,by simpa using hv2,p6,p7,r6,r7,d67⟩,⟨pv,λi h h'=>rv i h' h,hV.d6,hV.d7⟩⟩;rw[f2 0 (by simp) (kN o5 (by omega)),(Fr.new _ _).2 0 (by omega),e0]
   rintro t df g3 ⟨rfl,w5,⟨h13,h12,h1,h2,h5,h6,h7,h9,h10,-⟩,⟨e0,enx,o5,o6,o7,d56,d57,d67⟩,hV⟩;have rv:=hV.ov.rows;have r6:=o6.rows;have zX:X<(fj.map cu).length:=by rw[List.length_map,q1];exact hXl
   have zY:Y<(fj.map cu).length:=by rw[List.length_map,q1];exact hYl
   have yX:(fj.map cu)[X]?=some [.int .u64 (a.2:Int)]:=by rw[List.getElem?_map,a2];rfl
   have yY:(fj.map cu)[Y]?=some [.int .u64 (c.2:Int)]:=by rw[List.getElem?_map,hq4];rfl
   have eor:=kW a.2 c.2 ea2 ec2;rw[hY] at vj;refine bS (P:=λt' df g'=>df=[]/\∃w6,St t' ((13,.int .i64 a.1)::(12,.int .i64 ((j+1:Nat):Int))::LRm ow nv w5 w6 u7 v st)/\RmH gr b w5 w6 u7 (lj++[(-1,a.1,c.1)]) (fj++[a.2 ||| c.2]) oj g'/\RmV v w5 w6 u7 B ((bb::bs).map (·.1)) g') ?_ ?_
   ·rw[hX] at h13;simp only[sz,simprocAttr,sf,h6,h10,h12,h13,rv,vj,vjl,r6,zX,zY,yX,yY,eor];refine aA (new:=[cu (a.2 ||| c.2)]) (o6.fr (by first | (simp;done) | (simp;omega)) λi hi=>by have:=(o6.lt hi).2;simp[H.get_put];intro e;omega) (by simp[sx,sy,cu]) (by first | (simp;done) | (simp;omega)) (by simp[aP];omega) λv2 g5 hv2 n2 f2 c2 lg2=>?_;have hc2:=hv2.cell;simp only[sz,simprocAttr,sf];obtain ⟨p5,s5⟩:=bF (g:=g3) o5 (λi h h'=>d56 i h' h) ⟨by first | (simp;done) | (simp;omega),λi hi=>by simp[H.get_put];intro e;omega⟩ n2 f2 c2;obtain ⟨p7,s7⟩:=bF (g:=g3) o7 d67 ⟨by first | (simp;done) | (simp;omega),λi hi=>by simp[H.get_put];intro e;omega⟩ n2 f2 c2;obtain ⟨pv,sv⟩:=bF (g:=g3) hV.ov (λi h h'=>hV.d6 i h' h) ⟨by first | (simp;done) | (simp;omega),λi hi=>by simp[H.get_put];intro e;omega⟩ n2 f2 c2;have e00:g5.h.get 0=.cells 2 [[.int .i64 gr,b]] 0 false false:=by rw[f2 0 (by first | (simp;done) | (simp;omega)) (kN o6 (by omega))];simp[H.get_put,e0]
    have k2:Own g5 1 v2 1 ((fj++[a.2 ||| c.2]).map cu):=by simpa using hv2
    simp at n2;refine ⟨?_,v2,by simp[St,LRm,sx,h13,h12,h1,h2,h5,h7,h9,h10,hX],⟨by simpa using e00,by first | (simp;done) | (simp;omega),p5.fr (by first | (simp;done) | (simp;omega)) (λi _=>by simp),k2.fr (by first | (simp;done) | (simp;omega)) (λi _=>by simp),p7.fr (by first | (simp;done) | (simp;omega)) (λi _=>by simp),λi h h'=>s5 i h' h,d57,s7⟩,⟨pv.fr (by first | (simp;done) | (simp;omega)) (λi _=>by simp),hV.d5,λi h h'=>sv i h' h,hV.d7⟩⟩;simp only[List.reverse_cons,List.reverse_nil,List.nil_append,List.cons_append,G.new_lg,G.put_lg,setLog_lg];refine aC [false,false,false,false,false,false,false,false,false,false,false,false,false,true,true,false] [(0,13)] (by simp[All2,af,au]) (by decide) ?_;rintro p hp x y hx hy;simp only[List.mem_cons,List.not_mem_nil,or_false] at hp;rcases hp with rfl;simp at hx hy;subst hx;subst hy;refine bH rfl rfl rfl rfl ?_ ?_ ?_<;>simp[af,au,ae]
   rintro t df g4 ⟨rfl,w6,⟨h13,h12,h1,h2,h5,h6,h7,h9,h10,-⟩,⟨e0,enx,o5,o6,o7,d56,d57,d67⟩,hV⟩;have rv:=hV.ov.rows;have r7:=o7.rows;have zX:X<(oj.map cb).length:=by rw[List.length_map,q2];exact hXl
   obtain ⟨bX,hbX⟩:∃bo,oj[X]?=some bo:=⟨_,List.getElem?_eq_getElem (by rw[q2];exact hXl)⟩;have yX:(oj.map cb)[X]?=some (cb bX):=by rw[List.getElem?_map,hbX];rfl
   rw[hX] at h13;refine bT (P:=λt' df g'=>df=[]/\St t' ((13,.int .i64 (X:Int))::(12,.int .i64 ((j+1:Nat):Int))::LRm ow nv w5 w6 u7 v st)/\RmH gr b w5 w6 u7 (lj++[(-1,a.1,c.1)]) (fj++[a.2 ||| c.2]) (oj.set X false) g'/\RmV v w5 w6 u7 B ((bb::bs).map (·.1)) g') ?_ ?_
   ·simp only[sz,simprocAttr,h7,h13,r7,zX];refine bM (v:=u7) (sz:=1) (n:=1) (i:=X) (off:=0) (x:=.bool false) (row:=cb bX) (row':=cb false) o7 yX rfl rfl rfl λg5 o5' n5 f5=>?_;simp only[sz,simprocAttr];refine ⟨by simp[St,LRm,sx,h13,h12,h1,h2,h5,h6,h7,h9,h10],⟨by rw[f5 0 (kN o7 (by omega)),e0],by omega,o5.fr (by omega) λi hi=>f5 i λe=>d57 i hi e,o6.fr (by omega) λi hi=>f5 i λe=>d67 i hi e,by rw[List.map_set];exact o5',d56,d57,d67⟩,⟨hV.ov.fr (by omega) λi hi=>f5 i λe=>hV.d7 i hi e,hV.d5,hV.d6,hV.d7⟩⟩
   clear e0 enx o5 o6 o7 d56 d57 d67 rv r7 zX yX hV;rintro t df g5 ⟨rfl,⟨h13,h12,h1,h2,h5,h6,h7,h9,h10,-⟩,⟨e0,enx,o5,o6,o7,d56,d57,d67⟩,hV⟩;have rv:=hV.ov.rows;have r7:=o7.rows;have zY:Y<((oj.set X false).map cb).length:=by rw[List.length_map,List.length_set,q2];exact hYl
   obtain ⟨bY,hbY⟩:∃bo,(oj.set X false)[Y]?=some bo:=⟨_,List.getElem?_eq_getElem (by rw[List.length_set,q2];exact hYl)⟩;have yY:((oj.set X false).map cb)[Y]?=some (cb bY):=by rw[List.getElem?_map,hbY];rfl
   refine bT (P:=λt' df g'=>df=[]/\St t' ((13,.int .i64 (X:Int))::(12,.int .i64 ((j+1:Nat):Int))::LRm ow nv w5 w6 u7 v st)/\RmH gr b w5 w6 u7 (lj++[(-1,a.1,c.1)]) (fj++[a.2 ||| c.2]) ((oj.set X false).set Y false) g'/\RmV v w5 w6 u7 B ((bb::bs).map (·.1)) g') ?_ ?_
   ·simp only[sz,simprocAttr,h7,h10,h12,rv,vj,vjl,r7,zY];refine bM (v:=u7) (sz:=1) (n:=1) (i:=Y) (off:=0) (x:=.bool false) (row:=cb bY) (row':=cb false) o7 yY rfl rfl rfl λg6 o6' n6 f6=>?_;simp only[sz,simprocAttr];refine ⟨by simp[St,LRm,sx,h13,h12,h1,h2,h5,h6,h7,h9,h10],⟨by rw[f6 0 (kN o7 (by omega)),e0],by omega,o5.fr (by omega) λi hi=>f6 i λe=>d57 i hi e,o6.fr (by omega) λi hi=>f6 i λe=>d67 i hi e,by rw[List.map_set];exact o6',d56,d57,d67⟩,⟨hV.ov.fr (by omega) λi hi=>f6 i λe=>hV.d7 i hi e,hV.d5,hV.d6,hV.d7⟩⟩
   clear e0 enx o5 o6 o7 d56 d57 d67 rv r7 zY yY hV;rintro t df g6 ⟨rfl,⟨h13,h12,h1,h2,h5,h6,h7,h9,h10,-⟩,⟨e0,enx,o5,o6,o7,d56,d57,d67⟩,hV⟩;simp only[sz,simprocAttr,h7];refine aA (new:=[cb true]) (o7.step (Fr.new _ _)) (by simp[sx,sy,cb]) (by first | (simp;done) | (simp;omega)) (by simp[aP];omega) λv2 g7 hv2 n2 f2 c2 _=>?_;have w12:IntKind.wrap .i64 (((j+1:Nat):Int)+1)=((j+1+1:Nat):Int):=by rw[aB (by omega) (by omega)];omega
   simp only[sz,simprocAttr,h12,w12];obtain ⟨p5,s5⟩:=bF o5 (λi h h'=>d57 i h' h) (Fr.new _ _) n2 f2 c2;obtain ⟨p6,s6⟩:=bF o6 (λi h h'=>d67 i h' h) (Fr.new _ _) n2 f2 c2;obtain ⟨pv,sv⟩:=bF hV.ov (λi h h'=>hV.d7 i h' h) (Fr.new _ _) n2 f2 c2;have e00:g7.h.get 0=.cells 2 [[.int .i64 gr,b]] 0 false false:=by rw[f2 0 (by simp) (kN o7 (by omega)),(Fr.new _ _).2 0 (by omega),e0]
   simp at n2;have hfst:S.aM ((lj,a),fj,oj) c=((lj++[(-1,a.1,c.1)],((lj.length:Int),a.2 ||| c.2)),fj++[a.2 ||| c.2],((oj.set X false).set Y false)++[true]):=by rw[S.aM,S.aq];dsimp only;rw[hX,hY,Int.toNat_natCast,Int.toNat_natCast]
   rw[hfst];refine ⟨w5,w6,v2,by simp[St,LRm,sx,h1,h2,h5,h6,h9,h10],⟨e00,by omega,p5,p6,by simpa using hv2,d56,λi h h'=>s5 i h' h,λi h h'=>s6 i h' h⟩,⟨pv,hV.d5,hV.d6,λi h h'=>sv i h' h⟩,λx hx=>?_⟩;rcases List.mem_append.1 hx with hx | hx
   ·exact hf64 x hx
   ·rw[List.mem_singleton.1 hx];exact Nat.or_lt_two_pow (n:=64) ea2 ec2
  ·clear h12 h1 h2 h5 h6 h7 h9 h10 hJ hV hf64;rintro t df g ⟨rfl,u5,u6,u7,⟨h12,h1,h2,h5,h6,h7,h9,h10,-⟩,hJ,hV,hf64⟩;rw[List.take_length] at hJ hf64;refine fin t g u5 u6 u7 _ _ (by simp[St,h1,h2,h5,h6,h7,h9]) ?_ (ej).1 hf64;rw[ej.2];exact hJ
def S.aX (fam:List Nat)(order:List Int):Nat->List Sp×List Br
 | 0=>S.aC fam
 | j+1=>S.jn (S.wn order j) (S.aX fam order j)
theorem Fn {fam:List Nat}{order:List Int}:∀j,j<=order.length->S.aX fam order j=S.aJ fam order j
 | 0,_=>rfl
 | j+1,h=>by rw[S.aX,Fn j (by omega),S.aJ];congr 1;funext s;rw[S.wn,decide_eq_false (by omega),Bool.false_or]
theorem B6 {fam:List Nat}{order:List Int}:S.aX fam order (order.length+1)=S.mk fam order:=by rw[S.aX,Fn _ (Nat.le_refl _),S.mk];congr 1;funext s;simp[S.wn]
theorem G4 {fam:List Nat}{order:List Int}(hm:1<=fam.length)(hf:fam.length<=8){j:Nat}(hj:j<=order.length+1):(S.aX fam order j).1.length<=16:=by
 by_cases c:j<=order.length
 ·rw[Fn j c];have:=(zd fam order j).ln;omega
 ·have:j=order.length+1:=by omega
  rw[this,B6];have:=(Fo (fam:=fam) (order:=order) hm).2.1;omega
theorem Jk {d kw:Nat}{gr:Int}{b ow nv u5 u6 u7:AV}{fam:List Nat}{order:List Int}{n:Nat}{Q:QT}{t:T}{g:G}(hd:0<d)(hm:1<=fam.length)(hfl:fam.length<=8)(hol:order.length<=1000)(hord:S.ay order n=true)(how:SlR NoP kw .nil order ow)(hf64:∀x∈fam,x<18446744073709551616)
  (hJ:RmH gr b u5 u6 u7 (S.aC fam).1 fam (List.replicate fam.length true) g) (ht:St t [(1,ow),(2,nv),(5,u5),(6,u6),(7,u7),(9,.int .i64 0)])
  (fin:∀t g u5,St t [(5,u5)]->Own g 1 u5 3 ((S.mk fam order).1.map cs3)->Q (.exit 2) t [] g) :
  wpL (wp C0 d none iV) Q t [] g:=by
 obtain ⟨h1,h2,h5,h6,h7,h9,-⟩:=ht;have wl:=λg=>how.len g;have ho9:=how.1;simp only[iV,nm];refine aV (order.length+1) (by omega) (λj t df g=>df=[]/\St t [(1,ow),(2,nv)]/\∃u5 u6 u7 f op,tat t 5=u5/\tat t 6=u6/\tat t 7=u7/\RmH gr b u5 u6 u7 (S.aX fam order j).1 f op g/\Fl (S.aX fam order j).1 (S.aX fam order j).2 f op/\∀x∈f,x<18446744073709551616)
  ⟨rfl,by simp[St,h1,h2],u5,u6,u7,fam,_,h5,h6,h7,hJ,GO fam,hf64⟩ h9 (by decide) (by rintro j t df g v s (rfl | rfl | rfl)<;>simp[sx,St]) ?_ ?_ ?_
 ·clear h1 h2 h5 h6 h7 h9 hJ;rintro j t df g hj ⟨rfl,⟨h1,h2,-⟩,u5,u6,u7,f,op,h5,h6,h7,r⟩ h9;have c:decide ((j:Int)<=(order.length:Int))=decide ((j:Int)<((order.length+1:Nat):Int)):=decide_eq_decide.2 (by omega);simp only[sz,simprocAttr,h1,h9,wl,c];exact ⟨by simp[St,sx,h1,h2],u5,u6,u7,f,op,by simp[sx,h5],by simp[sx,h6],by simp[sx,h7],r⟩
 ·clear h1 h2 h5 h6 h7 h9 hJ;rintro j t df g hj ⟨rfl,⟨h1,h2,-⟩,u5,u6,u7,f,op,h5,h6,h7,hJ,hF,hf64⟩ h9;have hlen:=G4 (fam:=fam) (order:=order) hm hfl (j:=j) (by omega);simp only[sz,simprocAttr];refine Ji (st:=j) (gr:=gr) (b:=b) (u5:=u5) (u6:=u6) (u7:=u7) (ow:=ow) (nv:=nv) (o:=(S.aX fam order j).2) (f:=f) (op:=op) hd (by omega) (by omega) hord how hF hf64 hJ (by simp[St,sx,h1,h2,h5,h6,h7,h9]) λt g1 v ht oV hf=>?_;obtain ⟨h1,h2,h5,h6,h7,h9,h10,-⟩:=ht;simp only[sz,simprocAttr,nk];have hnx:=hJ.nx;refine Jj (B:=g.nx) (st:=j) (gr:=gr) (b:=b) (ow:=ow) (nv:=nv) (u5:=u5) (u6:=u6) (u7:=u7) (v:=v) (l:=(S.aX fam order j).1) (o:=(S.aX fam order j).2) (w:=S.wn order j) (by omega) hnx hF hf64 (hJ.fr hf) ⟨oV,λi h h'=>?_,λi h h'=>?_,λi h h'=>?_⟩ (by simp[St,LRm,sx,h1,h2,h5,h6,h7,h9,h10]) λt g2 u5 u6 u7 f' op' ht hJ' hF' hf64'=>?_
  ·have:=(oV.lt h).1;have:=(hJ.o5.lt h').2;omega
  ·have:=(oV.lt h).1;have:=(hJ.o6.lt h').2;omega
  ·have:=(oV.lt h).1;have:=(hJ.o7.lt h').2;omega
  obtain ⟨h1,h2,h5,h6,h7,h9,-⟩:=ht;simp only[sz,simprocAttr];exact ⟨⟨by simp[St,h1,h2],u5,u6,u7,f',op',h5,h6,h7,hJ',hF',hf64'⟩,h9⟩
 ·rintro t df g ⟨rfl,-,u5,u6,u7,f,op,h5,h6,h7,hJ,hF,-⟩;rw[B6] at hJ;exact fin t g u5 (by simp[St,h5]) hJ.o5
theorem Jh {d:Nat}{nb ow:AV}{n:Net}{Q:QT}{t:T}{g:G}(hd:0<d)(hr:NR n)(hM:∀h,Agg n NoP 0 h (.agg [.int .i64 n.grain,nb]))(hN:SlR NoP 0 .nil n.nodes nb)
  (hJ:RmH n.grain nb .nils .nils .nils [] [] [] g) (ht:St t [(1,ow),(2,.hptr 0 0 0 0),(5,.nils),(6,.nils),(7,.nils),(8,.int .i64 0)])
  (fin:∀t g u5 u6 u7,St t [(1,ow),(2,.hptr 0 0 0 0),(5,u5),(6,u6),(7,u7)]->RmH n.grain nb u5 u6 u7 (S.aC (S.ac n)).1 (S.ac n) (List.replicate (S.ac n).length true) g->Q (.exit 0) t [] g) :
  wpL (wp C0 d none iQ) Q t [] g:=by
 obtain ⟨h1,h2,h5,h6,h7,h8,-⟩:=ht;have nl:=λg=>hN.len g;have hn8:=hr.l2;have hfl:(S.ac n).length=n.nodes.length:=by simp[S.ac]
 simp only[iQ];refine aV n.nodes.length (by omega) (λj t df g=>df=[]/\St t [(1,ow),(2,.hptr 0 0 0 0)]/\∃u5 u6 u7,tat t 5=u5/\tat t 6=u6/\tat t 7=u7/\RmH n.grain nb u5 u6 u7 ((List.range j).map λv:Nat=>(((v:Int),-1,-1):Sp)) ((S.ac n).take j) (List.replicate j true) g)
  ⟨rfl,by simp[St,h1,h2],_,_,_,h5,h6,h7,hJ⟩ h8 (by decide) (by rintro j t df g v s (rfl | rfl | rfl)<;>simp[sx,St]) ?_ ?_ ?_
 ·clear h1 h2 h5 h6 h7 h8 hJ;rintro j t df g hj ⟨rfl,⟨h1,h2,-⟩,u5,u6,u7,h5,h6,h7,hJ⟩ h8;simp only[sz,simprocAttr,h2,h8,hJ.g0,nl];exact ⟨by simp[St,sx,h1,h2],u5,u6,u7,by simp[sx,h5],by simp[sx,h6],by simp[sx,h7],hJ⟩
 ·clear h1 h2 h5 h6 h7 h8 hJ;rintro j t df g hj ⟨rfl,⟨h1,h2,-⟩,u5,u6,u7,h5,h6,h7,e0,enx,o5,o6,o7,d56,d57,d67⟩ h8;have ld:bm (.cells 2 [[.int .i64 n.grain,nb]] 0 false false) 0 0 true 2 0=.val (.agg [.int .i64 n.grain,nb]):=rfl;obtain ⟨x,hx,htk,-⟩:=aq (l:=S.ac n) (j:=j) (by omega);have kf:=λ(g:G)=>C6 (d:=d) (v:=j) (g:=g) hd hr (hM g.h) hj;rw[hx,Option.getD_some] at kf;have t1:((List.range (j+1)).map λv:Nat=>(((v:Int),-1,-1):Sp))=((List.range j).map λv:Nat=>(((v:Int),-1,-1):Sp))++[((j:Int),-1,-1)]:=by simp[List.range_succ]
  have t3:List.replicate (j+1) true=List.replicate j true++[true]:=List.replicate_succ';have tl:((S.ac n).take j).length=j:=by rw[List.length_take];omega
  rw[t1,htk,t3];refine bT (P:=λt' df g'=>df=[]/\∃w5,St t' [(1,ow),(2,.hptr 0 0 0 0),(5,w5),(6,u6),(7,u7),(8,.int .i64 (j:Int))]/\RmH n.grain nb w5 u6 u7 (((List.range j).map λv:Nat=>(((v:Int),-1,-1):Sp))++[((j:Int),-1,-1)]) ((S.ac n).take j) (List.replicate j true) g') ?_ ?_
  ·simp only[sz,simprocAttr,h5,h8];refine aA (new:=[cs3 ((j:Int),-1,-1)]) (o5.step (Fr.new _ _)) (by simp[sx,sy,cs3]) (by first | (simp;done) | (simp;omega)) (by simp[aP];omega) λv2 g3 hv2 n2 f2 c2 _=>?_;simp only[sz,simprocAttr];obtain ⟨p6,r6⟩:=bF o6 d56 (Fr.new _ _) n2 f2 c2;obtain ⟨p7,r7⟩:=bF o7 d57 (Fr.new _ _) n2 f2 c2;refine ⟨v2,by simp[St,sx,h1,h2,h6,h7,h8],⟨?_,by simp at n2;omega,by simpa using hv2,p6,p7,r6,r7,d67⟩⟩;rw[f2 0 (by simp) (kN o5 (by omega)),(Fr.new _ _).2 0 (by omega),e0]
  clear e0 enx o5 o6 o7 d56 d57 d67 h1 h2 h5 h6 h7 h8;rintro t df g3 ⟨rfl,w5,⟨h1,h2,h5,h6,h7,h8,-⟩,e0,enx,o5,o6,o7,d56,d57,d67⟩;refine bT (P:=λt' df g'=>df=[]/\∃w6,St t' [(1,ow),(2,.hptr 0 0 0 0),(5,w5),(6,w6),(7,u7),(8,.int .i64 (j:Int))]/\RmH n.grain nb w5 w6 u7 (((List.range j).map λv:Nat=>(((v:Int),-1,-1):Sp))++[((j:Int),-1,-1)]) ((S.ac n).take j++[x]) (List.replicate j true) g') ?_ ?_
  ·simp only[sz,simprocAttr,h2,h6,h8,e0,ld,kf];refine aA (new:=[cu x]) (o6.step (Fr.new _ _)) (by simp[sx,sy,cu]) (by first | (simp;done) | (simp;omega)) (by simp[aP];omega) λv2 g4 hv2 n2 f2 c2 _=>?_;simp only[sz,simprocAttr];obtain ⟨p5,s5⟩:=bF o5 (λi h h'=>d56 i h' h) (Fr.new _ _) n2 f2 c2;obtain ⟨p7,s7⟩:=bF o7 d67 (Fr.new _ _) n2 f2 c2;refine ⟨v2,by simp[St,sx,h1,h2,h5,h7,h8],⟨?_,by simp at n2;omega,p5,by simpa using hv2,p7,λi h h'=>s5 i h' h,d57,s7⟩⟩;rw[f2 0 (by simp) (kN o6 (by omega)),(Fr.new _ _).2 0 (by omega),e0]
  clear e0 enx o5 o6 o7 d56 d57 d67 h1 h2 h5 h6 h7 h8;rintro t df g4 ⟨rfl,w6,⟨h1,h2,h5,h6,h7,h8,-⟩,e0,enx,o5,o6,o7,d56,d57,d67⟩;simp only[sz,simprocAttr,h7];refine aA (new:=[cb true]) (o7.step (Fr.new _ _)) (by simp[sx,sy,cb]) (by first | (simp;done) | (simp;omega)) (by simp[aP];omega) λv2 g5 hv2 n2 f2 c2 _=>?_;simp only[sz,simprocAttr];obtain ⟨p5,s5⟩:=bF o5 (λi h h'=>d57 i h' h) (Fr.new _ _) n2 f2 c2;obtain ⟨p6,s6⟩:=bF o6 (λi h h'=>d67 i h' h) (Fr.new _ _) n2 f2 c2;have e00:g5.h.get 0=.cells 2 [[.int .i64 n.grain,nb]] 0 false false:=by rw[f2 0 (by simp) (kN o7 (by omega)),(Fr.new _ _).2 0 (by omega),e0]
  have hv3:Own g5 1 v2 1 ((List.replicate j true++[true]).map cb):=by rw[List.map_append];exact hv2
  exact ⟨⟨by simp[St,sx,h1,h2],w5,w6,v2,by simp[sx,h5],by simp[sx,h6],by simp[sx],⟨e00,by simp at n2;omega,p5,p6,hv3,d56,λi h h'=>s5 i h' h,λi h h'=>s6 i h' h⟩⟩,by simp[sx,h8]⟩
 ·rintro t df g ⟨rfl,⟨h1,h2,-⟩,u5,u6,u7,h5,h6,h7,hJ⟩;refine fin t g u5 u6 u7 (by simp[St,h1,h2,h5,h6,h7]) ?_;have e1:(S.aC (S.ac n)).1=(List.range n.nodes.length).map λv:Nat=>(((v:Int),-1,-1):Sp):=by simp[S.aC,hfl]
  rw[e1,hfl];rw[List.take_of_length_le (by omega)] at hJ;exact hJ
theorem Dk {d k:Nat}{g:G}{P:Nat->Prop}{v w:AV}{n:Net}{l:List Int}(hd:0<d)(hr:NR n)(hol:S.ay l n.nodes.length=true)(hm:Agg n NoP 0 g.h v)(hl:SlR P k g.h l w):∃r,ay C0 d N.aY [v,w] g=.val r/\One (S.mk (S.ac n) l).1 NoP 0 .nil r:=by
 obtain ⟨b,rows,rfl,e1,hm',hN,-⟩:=gy d hm;obtain ⟨w',e2,hw'⟩:=dF hl d;have hfl:(S.ac n).length=n.nodes.length:=by simp[S.ac]
 have hn1:=hr.l1;have hn8:=hr.l2;rw[sS];refine bK vo (xs:=[.agg [.int .i64 n.grain,b],w']) (by simp only[aJ,e1,e2]) (by simp[mD]) (bL _) (by decide) hd ?_;simp only[sz,simprocAttr,mD];obtain ⟨g0,hg0⟩:∃g0,g0=G.empty.new (.cells 2 [[.int .i64 n.grain,b]] 0 false false):=⟨_,rfl⟩;rw[<-hg0];have f0:g0.h.get 0=.cells 2 [[.int .i64 n.grain,b]] 0 false false:=by rw[hg0];simp[sx]
 have n0:g0.nx=1:=by rw[hg0];simp[sx]
 clear hg0;have hlen:l.length=n.nodes.length:=by have h:=hol;simp only[S.ay,Bool.and_eq_true,decide_eq_true_eq] at h;omega
 simp only[sz,simprocAttr,om];refine Jh (ow:=w') (nb:=b) (Nat.succ_pos d) hr hm' hN ⟨f0,by omega,.inl ⟨rfl,rfl⟩,.inl ⟨rfl,rfl⟩,.inl ⟨rfl,rfl⟩,λi h=>(by cases h),λi h=>(by cases h),λi h=>(by cases h)⟩ (by simp[St,sx]) λt g1 u5 u6 u7 ht hJ=>?_;obtain ⟨h1,h2,h5,h6,h7,-⟩:=ht;simp only[sz,simprocAttr,l6];refine Jk (fam:=S.ac n) (order:=l) (n:=n.nodes.length) (nv:=.hptr 0 0 0 0) (ow:=w') (u5:=u5) (u6:=u6) (u7:=u7) (Nat.succ_pos d) (by omega) (by omega) (by omega) hol (hw' .nil) (xp hr) hJ (by simp[St,sx,h1,h2,h5,h6,h7]) λt g2 u ht hO=>?_;obtain ⟨h5,-⟩:=ht;have hmk:=(Fo (fam:=S.ac n) (order:=l) (by omega)).2.1;simp only[sz,simprocAttr,np,h5];exact ⟨λ_=>True,hO.sps (by omega)⟩
end
end Hx
end
