/- A part of the proof: an interpreter over abstract values, shown right against the model, and what the functions of the chapter compute on it. -/
import Derived.OpenShut
import Derived.DataReads
import Derived.Test.YtkbieohddgjioaaHx13
set_option linter.unusedVariables false
set_option linter.unusedSimpArgs false
set_option linter.unnecessarySimpa false
section
namespace Hx
open Go
noncomputable section
def yf (m:Nat):VS:=λP k h v=>∃l:List Sp,l.length<=m/\One l P k h v
theorem zM (m:Nat):Snb (yf m) 0:=kT λl=>bL l
structure JdH (cu8:List AV) (u w:AV) (lo:List Sp) (op:List Int) (g:G):Prop where
 g0:g.h.get 0=.cells 8 [cu8] 0 false false
 nx:1<=g.nx
 oU:Own g 1 u 3 (lo.map cs3)
 oW:Own g 1 w 1 (op.map ci)
 ds:∀i,vid u=some i->vid w≠some i
def S.cI (a j:Nat):Nat:=if a<j then 1 else 0
theorem Bu (a:Nat):S.cI a (a+1)=S.cI a a+1:=by simp[S.cI]
theorem Bt (a j:Nat):S.cI a j<=S.cI a (j+1):=by unfold S.cI;split<;>split<;>omega
theorem D_ (a j:Nat):S.cI a j<=1:=by unfold S.cI;split<;>omega
theorem Df {d a b:Nat}{cu8:List AV}{u w n:AV}{lo:List Sp}{op:List Int}{iv:Int}{Q:QT}{t:T}{gC:G}(hop:op.length<=20)(hJ:JdH cu8 u w lo op gC)
  (ht:St t [(0,n),(3,.hptr 0 0 0 0),(5,u),(6,w),(8,.int .i64 iv),(9,.int .i64 (a:Int)),(10,.int .i64 (b:Int)),(11,.nils),(12,.int .i64 0)])
  (fin:∀t g v (L:List Int),St t [(0,n),(3,.hptr 0 0 0 0),(5,u),(8,.int .i64 iv),(11,v)]->Own g gC.nx v 1 (L.map ci)->Fr gC g->op.length<=L.length+2->L.length<=op.length->Q (.exit 4) t [] g) :
  wpL (wp C0 d none gv) Q t [] gC:=by
 obtain ⟨h0,h3,h5,h6,h8,h9,h10,h11,h12,-⟩:=ht;have wl:=λg=>hJ.oW.sat_len g;rw[List.length_map] at wl;simp only[gv,ky];refine aV op.length (by omega) (λj t df g=>df=[]/\St t [(0,n),(3,.hptr 0 0 0 0),(5,u),(6,w),(8,.int .i64 iv),(9,.int .i64 (a:Int)),(10,.int .i64 (b:Int))]/\∃v L,tat t 11=v/\Own g gC.nx v 1 (L.map ci)/\Fr gC g/\j<=L.length+S.cI a j+S.cI b j/\L.length<=j)
  ⟨rfl,by simp[St,h0,h3,h5,h6,h8,h9,h10],_,[],h11,.inl ⟨rfl,rfl⟩,Fr.refl _,by omega,Nat.le_refl _⟩ h12 (by decide) (by rintro j t df g v s (rfl | rfl | rfl)<;>simp[sx,St]) ?_ ?_ ?_
 ·clear h0 h3 h5 h6 h8 h9 h10 h11 h12;rintro j t df g hj ⟨rfl,⟨h0,h3,h5,h6,h8,h9,h10,-⟩,v,L,h11,r⟩ h12;simp only[sz,simprocAttr,h6,h12,wl];exact ⟨by simp[St,sx,h0,h3,h5,h6,h8,h9,h10],v,L,by simp[sx,h11],r⟩
 ·clear h0 h3 h5 h6 h8 h9 h10 h11 h12;rintro j t df g hj ⟨rfl,⟨h0,h3,h5,h6,h8,h9,h10,-⟩,v,L,h11,oV,hf,hc,hL⟩ h12;obtain ⟨x,hx,-,-⟩:=aq hj;have u1:j<(op.map ci).length:=by simpa using hj
  have u2:(op.map ci)[j]?=some (ci x):=by rw[List.getElem?_map,hx];rfl
  have oW:=(hJ.oW.step hf).rows;have hnx:=hf.1;have m1:=Bt a j;have m2:=Bt b j;have skip:(j=a\/j=b)->j+1<=L.length+S.cI a (j+1)+S.cI b (j+1):=λh=>by
   rcases h with h | h
   ·have:=Bu a;rw[<-h] at this;rw[<-h] at m1 hc ⊢;omega
   ·have:=Bu b;rw[<-h] at this;rw[<-h] at m2 hc ⊢;omega
  by_cases ca:j=a
  ·have e1:decide ((j:Int)=(a:Int))=true:=decide_eq_true (by omega);have:=skip (.inl ca);simp only[sz,simprocAttr,h9,h10,h12,e1];exact ⟨by simp[St,sx,h0,h3,h5,h6,h8,h9,h10],v,L,by simp[sx,h11],oV,hf,this,by omega⟩
  have e1:decide ((j:Int)=(a:Int))=false:=decide_eq_false (by omega)
  by_cases cb:j=b
  ·have e2:decide ((j:Int)=(b:Int))=true:=decide_eq_true (by omega);have:=skip (.inr cb);simp only[sz,simprocAttr,h9,h10,h12,e1,e2];exact ⟨by simp[St,sx,h0,h3,h5,h6,h8,h9,h10],v,L,by simp[sx,h11],oV,hf,this,by omega⟩
  have e2:decide ((j:Int)=(b:Int))=false:=decide_eq_false (by omega);simp only[sz,simprocAttr,h6,h9,h10,h11,h12,e1,e2,oW,u1,u2,ci];refine aA (new:=[ci x]) (oV.step (Fr.new _ _)) (by simp[sx,sy,ci]) (by simp;omega) (by simp[aP];omega) λv2 g2 hv2 n2 f2 _ _=>?_;simp only[sz,simprocAttr];have fg:Fr gC g2:=⟨by simp at n2;omega,λi hi=>by
   rw[f2 i (by simp;omega) (λe=>by have:=(oV.lt e).1;omega),(Fr.new g _).2 i (by omega),hf.2 i hi]⟩
  simp[St,sx,h0,h3,h5,h6,h8,h9,h10,h12];refine ⟨L++[x],by simpa using hv2,fg,?_,by simp;omega⟩;rw[List.length_append,List.length_singleton];omega
 ·rintro t df g ⟨rfl,⟨h0,h3,h5,-,h8,-⟩,v,L,h11,oV,hf,hc,hL⟩;refine fin t g v L (by simp[St,h0,h3,h5,h8,h11]) oV hf ?_ hL;have:=D_ a op.length;have:=D_ b op.length;omega
set_option maxRecDepth 20000 in
theorem Dg {d n:Nat}{g:G}{vs:List UInt8}(hd:0<d)(hv:vs.length=8)(hn1:1<=n)(hn8:n<=8):∃r,ay C0 d N.aX [.int .i64 (n:Int),.agg (vs.map u8v)] g=.val r/\yf 15 NoP 0 .nil r:=by
 rw[qB];refine bK sZ (xs:=[.int .i64 (n:Int),.agg (vs.map u8v)]) (by simp only[aJ,gc 0,zL]) (by simp[jI]) (zM 15) (by decide) hd ?_;obtain ⟨cu8,hcu⟩:∃c,c=vs.map u8v:=⟨_,rfl⟩;have hcl:cu8.length=8:=by rw[hcu,List.length_map,hv]
 have at8:∀i,i<8->∃y:Nat,y<256/\cu8[i]?=some (.int .u8 (y:Int)):=λi hi=>by obtain ⟨y,hy⟩:∃y,vs[i]?=some y:=⟨_,List.getElem?_eq_getElem (by omega)⟩;exact ⟨y.toNat,y.toNat_lt,by rw[hcu,List.getElem?_map,hy];rfl⟩
 simp only[sz,simprocAttr,jI,l4,ku,<-hcu];refine aV n (by omega) (λj t df g=>df=[]/\St t [(0,.int .i64 (n:Int)),(3,.hptr 0 0 0 0)]/\∃u w lo op,tat t 5=u/\tat t 6=w/\List.length lo=j/\List.length op=j/\JdH cu8 u w lo op g)
  ⟨rfl,by simp[sx,St],_,_,[],[],rfl,rfl,rfl,rfl,by rw[hcl];simp[sx],by simp[sx],.inl ⟨by simp[sx],rfl⟩,.inl ⟨by simp[sx],rfl⟩,by simp[sx,vid]⟩ (by simp[sx]) (by decide) (by rintro j t df g v s (rfl | rfl | rfl)<;>simp[sx,St]) ?_ ?_ ?_
 ·rintro j t df g hj ⟨rfl,⟨h0,h3,-⟩,u,w,lo,op,h5,h6,r⟩ h7;simp only[sz,simprocAttr,h0,h7];exact ⟨by simp[St,sx,h0,h3],u,w,lo,op,by simp[sx,h5],by simp[sx,h6],r⟩
 ·rintro j t df g hj ⟨rfl,⟨h0,h3,-⟩,u,w,lo,op,h5,h6,hlo,hop,hg,hnx,oU,oW,ds⟩ h7;obtain ⟨y,hy,hcy⟩:=at8 7 (by omega);have w8:IntKind.wrap .i64 (y:Int)=(y:Int):=aB (by omega) (by omega);have w9:IntKind.wrap .i64 ((j:Int)+(y:Int))=(j:Int)+(y:Int):=aB (by omega) (by omega);have i7:De 8 1 (.hptr 0 0 0 0) (.int .i64 7)=.val (.hptr 0 0 0 7):=rfl;have r9:=cH .i64 (show (0:Int)<=(j:Int)+(y:Int) by omega) (show (0:Int)<(n:Int) by omega);simp only[sz,simprocAttr,h0,h3,h5,h7,hg,i7,hcy,w8,w9,r9];refine aA (new:=[cs3 (((j:Int)+(y:Int)) % (n:Int),-1,-1)]) (oU.step (Fr.new _ _)) (by simp[sx,sy,cs3]) (by simp) (by simp[aP];omega) λv2 g2 hv2 n2 f2 c2 _=>?_;simp only[sz,simprocAttr,h6,h7];have oW2:Own g2 1 w 1 (op.map ci):=oW.fr (by simp at n2;omega) λi hi=>by rw[f2 i (by have:=(oW.lt hi).2;simp;omega) (λe=>ds i e hi),(Fr.new g _).2 i (oW.lt hi).2]
  have hu0:vid u≠some 0:=λe=>by have:=(oU.lt e).1;omega
  have hw0:vid w≠some 0:=λe=>by have:=(oW.lt e).1;omega
  have hg2:g2.h.get 0=.cells 8 [cu8] 0 false false:=by rw[f2 0 (by simp) hu0,(Fr.new g _).2 0 (by omega),hg]
  refine aA (new:=[ci (j:Int)]) (oW2.step (Fr.new _ _)) (by simp[sx,sy,ci]) (by first | (simp at n2 ⊢;done) | (simp at n2 ⊢;omega)) (by simp[aP];omega) λv3 g3 hv3 n3 f3 c3 _=>?_;simp only[sz,simprocAttr];have dv:∀i,vid v2=some i->vid w≠some i:=λi hi e=>by
   rcases c2 with c | ⟨k,c,c'⟩
   ·exact ds i (c ▸ hi) e
   ·rw[hi] at c;injection c with c;have:=(oW.lt e).2;simp at c';omega
  refine ⟨⟨by simp[St,sx,h0,h3],v2,v3,lo++[(((j:Int)+(y:Int)) % (n:Int),-1,-1)],op++[(j:Int)],by simp[sx],by simp[sx],by simp[hlo],by simp[hop],?_,by simp at n2 n3;omega,?_,by simpa using hv3,λi hi e=>?_⟩,by simp[sx,h7]⟩
  ·rw[f3 0 (by simp at n2 ⊢) hw0,(Fr.new g2 _).2 0 (by simp at n2;omega),hg2]
  ·have hv2':Own g2 1 v2 3 ((lo++[(((j:Int)+(y:Int)) % (n:Int),-1,-1)]).map cs3):=by simpa using hv2
   refine hv2'.fr (by simp at n3;omega) λi hi=>?_;rw[f3 i (by have:=(hv2'.lt hi).2;simp;omega) (dv i hi),(Fr.new g2 _).2 i (hv2'.lt hi).2]
  ·rcases c3 with c | ⟨k,c,c'⟩
   ·exact dv i hi (c ▸ e)
   ·rw[e] at c;injection c with c;have:=(hv2.lt hi).2;simp at c';omega
 rintro t df g ⟨rfl,⟨h0,h3,-⟩,u,w,lo,op,h5,h6,hlo,hop,hJ⟩;simp only[sz,simprocAttr,kH,kv,kC];have hn1':((n - 1:Nat):Int)=(n:Int) - 1:=by omega
 refine aV (n - 1) (by omega) (λj t df g=>df=[]/\St t [(0,.int .i64 (n:Int)),(3,.hptr 0 0 0 0)]/\∃u w lo op,tat t 5=u/\tat t 6=w/\List.length lo=n+j/\n<=List.length op+j/\List.length op<=8+j/\JdH cu8 u w lo op g)
  ⟨rfl,by simp[sx,St,h0,h3],u,w,lo,op,by simp[sx,h5],by simp[sx,h6],hlo,by omega,by omega,hJ⟩ (by simp[sx]) (by decide) (by rintro j t df g v s (rfl | rfl | rfl)<;>simp[sx,St]) ?_ ?_ ?_
 ·clear h0 h3 h5 h6 hlo hop hJ;rintro j t df g hj ⟨rfl,⟨h0,h3,-⟩,u,w,lo,op,h5,h6,r⟩ h8;have w9:IntKind.wrap .i64 ((n:Int) - 1)=((n - 1:Nat):Int):=by rw[aB (by omega) (by omega)];omega
  simp only[sz,simprocAttr,h0,h8,w9];exact ⟨by simp[St,sx,h0,h3],u,w,lo,op,by simp[sx,h5],by simp[sx,h6],r⟩
 ·clear h0 h3 h5 h6 hlo hop hJ;rintro j t df g hj ⟨rfl,⟨h0,h3,-⟩,u,w,lo,op,h5,h6,hlo,hop,hop8,hJ⟩ h8;obtain ⟨y,hy,hcy⟩:=at8 j (by omega);have hg:=hJ.g0;have wl:=λg=>hJ.oW.sat_len g;rw[List.length_map] at wl;have w8:IntKind.wrap .i64 (y:Int)=(y:Int):=aB (by omega) (by omega);have w10:IntKind.wrap .i64 ((y / 8:Nat):Int)=((y / 8:Nat):Int):=aB (by omega) (by omega);have q8:bD .quo (.int .u8 (y:Int)) (.int .u8 8)=.val (.int .u8 ((y / 8:Nat):Int)):=by rw[Bj .u8 (show (0:Int)<=(y:Int) by omega) (show (0:Int)<8 by omega),IP (by omega) (by omega)];congr 2
  have w11:IntKind.wrap .i64 ((op.length:Int) - 1)=((op.length - 1:Nat):Int):=by rw[aB (by omega) (by omega)];omega
  have hj8:j<8:=by omega
  obtain ⟨a,ha⟩:∃a,a=y % op.length:=⟨_,rfl⟩;have hal:a<op.length:=by rw[ha];exact Nat.mod_lt _ (by omega)
  have r1:bD .rem (.int .i64 (y:Int)) (.int .i64 (op.length:Int))=.val (.int .i64 (a:Int)):=by rw[cH .i64 (show (0:Int)<=(y:Int) by omega) (show (0:Int)<(op.length:Int) by omega),ha];congr 2
  obtain ⟨c,hc⟩:∃c,c=(y / 8) % (op.length - 1):=⟨_,rfl⟩;have hcl:c<op.length - 1:=by rw[hc];exact Nat.mod_lt _ (by omega)
  have r2:bD .rem (.int .i64 ((y / 8:Nat):Int)) (.int .i64 ((op.length - 1:Nat):Int))=.val (.int .i64 (c:Int)):=by rw[cH .i64 (show (0:Int)<=((y / 8:Nat):Int) by omega) (show (0:Int)<((op.length - 1:Nat):Int) by omega),hc];congr 2
  have w12:IntKind.wrap .i64 ((a:Int)+1)=((a+1:Nat):Int):=by rw[aB (by omega) (by omega)];omega
  have w13:IntKind.wrap .i64 (((a+1:Nat):Int)+(c:Int))=((a+1+c:Nat):Int):=by rw[aB (by omega) (by omega)];omega
  obtain ⟨b,hb⟩:∃b,b=(a+1+c) % op.length:=⟨_,rfl⟩;have hbl:b<op.length:=by rw[hb];exact Nat.mod_lt _ (by omega)
  have r3:bD .rem (.int .i64 ((a+1+c:Nat):Int)) (.int .i64 (op.length:Int))=.val (.int .i64 (b:Int)):=by rw[cH .i64 (show (0:Int)<=((a+1+c:Nat):Int) by omega) (show (0:Int)<(op.length:Int) by omega),hb];congr 2
  refine bS (P:=λt' df g'=>df=[]/\g'=g/\St t' [(0,.int .i64 (n:Int)),(3,.hptr 0 0 0 0),(5,u),(6,w),(8,.int .i64 (j:Int)),(9,.int .i64 (a:Int))]) ?_ ?_
  ·simp only[sz,simprocAttr,h3,h6,h8,hg,EY 8 1 _ _ _ _ _ hj8,Nat.mul_one,hcy,w8,wl,r1];simp[St,sx,h0,h3,h5,h6,h8]
  rintro t df g' ⟨rfl,rfl,h0,h3,h5,h6,h8,h9,-⟩;refine bS (P:=λt' df g''=>df=[]/\g''=g'/\St t' [(0,.int .i64 (n:Int)),(3,.hptr 0 0 0 0),(5,u),(6,w),(8,.int .i64 (j:Int)),(9,.int .i64 (a:Int)),(10,.int .i64 (b:Int))]) ?_ ?_
  ·simp only[sz,simprocAttr,h3,h6,h8,h9,hg,EY 8 1 _ _ _ _ _ hj8,Nat.mul_one,hcy,q8,w10,wl,w11,r2,w12,w13,r3];simp[St,sx,h0,h3,h5,h6,h8,h9]
  rintro t df g'' ⟨rfl,rfl,h0,h3,h5,h6,h8,h9,h10,-⟩;obtain ⟨xa,hxa⟩:∃x,op[a]?=some x:=⟨_,List.getElem?_eq_getElem hal⟩;obtain ⟨xb,hxb⟩:∃x,op[b]?=some x:=⟨_,List.getElem?_eq_getElem hbl⟩;obtain ⟨-,hnx,oU,oW,ds⟩:=hJ;have u1:a<(op.map ci).length:=by simpa using hal
  have u2:(op.map ci)[a]?=some [.int .i64 xa]:=by rw[List.getElem?_map,hxa];rfl
  have u3:b<(op.map ci).length:=by simpa using hbl
  have u4:(op.map ci)[b]?=some [.int .i64 xb]:=by rw[List.getElem?_map,hxb];rfl
  have rW:=oW.rows;have hu0:vid u≠some 0:=λe=>by have:=(oU.lt e).1;omega
  have hw0:vid w≠some 0:=λe=>by have:=(oW.lt e).1;omega
  refine bS (P:=λt' df g1=>df=[]/\∃v2,St t' [(0,.int .i64 (n:Int)),(3,.hptr 0 0 0 0),(5,v2),(6,w),(8,.int .i64 (j:Int)),(9,.int .i64 (a:Int)),(10,.int .i64 (b:Int))]/\JdH cu8 v2 w (lo++[(-1,xa,xb)]) op g1) ?_ ?_
  ·simp only[sz,simprocAttr,sf,h5,h6,h9,h10,rW,u1,u2,u3,u4];refine aA (new:=[cs3 (-1,xa,xb)]) (oU.fr (by first | (simp;done) | (simp;omega)) λi hi=>by have:=(oU.lt hi).2;simp[H.get_put];intro e;omega) (by simp[sx,sy,cs3]) (by first | (simp;done) | (simp;omega)) (by simp[aP];omega) λv2 g2 hv2 n2 f2 c2 lg2=>?_;have ff:∀i,i<g''.nx->vid u≠some i->g2.h.get i=g''.h.get i:=λi hi hv=>by rw[f2 i (by first | (simp;done) | (simp;omega)) hv];simp[H.get_put];intro e;omega
   simp at n2;simp only[sz,simprocAttr,sf];refine ⟨?_,v2,by simp[St,sx,h0,h3,h6,h8,h9,h10],?_,by first | (simp;done) | (simp;omega),?_,?_,λi hi e=>?_⟩
   ·simp only[List.reverse_cons,List.reverse_nil,List.nil_append,List.cons_append,G.new_lg,G.put_lg,setLog_lg];refine aC [false,false,false,false,false,false,false,false,false,false,true,true,false] [(0,10)] (by simp[All2,af,au]) (by decide) ?_;rintro p hp x y hx hy;simp only[List.mem_cons,List.not_mem_nil,or_false] at hp;rcases hp with rfl;simp at hx hy;subst hx;subst hy;refine bH rfl rfl rfl rfl ?_ ?_ ?_<;>simp[af,au,ae]
   ·have:=ff 0 (by omega) hu0;simp[this,hg]
   ·have:Own g2 1 v2 3 ((lo++[(-1,xa,xb)]).map cs3):=by simpa using hv2
    exact this.fr (by first | (simp;done) | (simp;omega)) λi hi=>by simp
   ·refine oW.fr (by simp;omega) λi hi=>?_;have:=ff i (oW.lt hi).2 λe=>ds i e hi;simp[this]
   ·rcases c2 with c | ⟨k,c,c'⟩
    ·exact ds i (c ▸ hi) e
    ·rw[hi] at c;injection c with c;have:=(oW.lt e).2;simp at c';omega
  rintro t df g1 ⟨rfl,v2,⟨h0,h3,h5,h6,h8,h9,h10,-⟩,hJ1⟩;simp only[sz,simprocAttr];refine Df (a:=a) (b:=b) (u:=v2) (w:=w) (n:=.int .i64 (n:Int)) (lo:=lo++[(-1,xa,xb)]) (op:=op) (iv:=(j:Int)) (by omega) hJ1 (by simp[St,sx,h0,h3,h5,h6,h8,h9,h10]) λt g2 v L ht oV hf l1 l2=>?_;obtain ⟨h0,h3,h5,h8,h11,-⟩:=ht;obtain ⟨hg1,hnx1,oU1,oW1,ds1⟩:=hJ1;have hf1:=hf.1;have ul:=λg=>oU1.sat_len g;have w14:IntKind.wrap .i64 ((((lo++[((-1:Int),xa,xb)]).map cs3).length:Int) - 1)=(lo.length:Int):=by rw[List.length_map,List.length_append,List.length_singleton,aB (by omega) (by omega)];omega
  simp only[sz,simprocAttr,kz,h5,h11,ul,w14];refine aA (new:=[ci (lo.length:Int)]) (oV.step (Fr.new _ _)) (by simp[sx,sy,ci]) (by simp;omega) (by simp[aP];omega) λv3 g3 hv3 n3 f3 c3 _=>?_;simp only[sz,simprocAttr];have fr3:∀i,i<g1.nx->g3.h.get i=g1.h.get i:=λi hi=>by rw[f3 i (by simp;omega) (λe=>by have:=(oV.lt e).1;omega),(Fr.new g2 _).2 i (by omega),hf.2 i hi]
  have n3':g2.nx+1<=g3.nx:=by simpa using n3
  refine ⟨⟨by simp[St,sx,h0,h3],v2,v3,lo++[(-1,xa,xb)],L++[(lo.length:Int)],by simp[sx,h5],by simp[sx],by simp;omega,by simp;omega,?_,?_⟩,by simp[sx,h8]⟩
  ·simp;omega
  ·refine ⟨by rw[fr3 0 (by omega),hg1],by omega,oU1.fr (by omega) λi hi=>fr3 i (oU1.lt hi).2,?_,λi hi e=>?_⟩
   ·have:Own g3 g1.nx v3 1 ((L++[(lo.length:Int)]).map ci):=by simpa using hv3
    exact this.low hnx1
   ·have:=(hv3.lt e).1;have:=(oU1.lt hi).2;omega
 ·rintro t df g ⟨rfl,-,u,w,lo,op,h5,h6,hlo,-,-,hJ⟩;simp only[sz,simprocAttr,kG,h5];exact ⟨λ_=>True,lo,by omega,hJ.oU.sps (by omega)⟩
theorem re (l:List Sp)(i:Nat)(x:Sp):(l.map cs3).set i (cs3 x)=(l.set i x).map cs3:=by rw[List.map_set]
theorem zf {g:G}{b:Nat}{v:AV}{sz:Nat}{rows:List (List AV)}(h:Own g b v sz rows){i off:Nat}(hi:i<rows.length):qU (eg sz v i off)=.val (eg sz v i off):=by
 rcases h with ⟨rfl,rfl⟩ | ⟨id,ep,lo,h1,h2,rfl,h3⟩
 ·simp at hi
 ·rfl
theorem BB {g:G}{b:Nat}{v:AV}{sz:Nat}{rows:List (List AV)}(h:Own g b v sz rows){i:Nat}(hi:i<rows.length)(k:Nat):Al k (eg sz v i 0)=.val (eg sz v i k):=by
 rcases h with ⟨rfl,rfl⟩ | ⟨id,ep,lo,h1,h2,rfl,h3⟩
 ·simp at hi
 ·simp only[eg,Al,Nat.zero_add]
theorem rC {d k m x y:Nat}{z:Int}{g:G}{P:Nat->Prop}{w:AV}{l:List Sp}(hd:0<d)(hl:SlR P k g.h l w)(hm:l.length<=m)(hm2:m<=100)(hx:x<256)(hy:y<256) :
  ∃r,ay C0 d N.ac [.agg [.int .u8 (x:Int),.int .u8 (y:Int),.int .i64 z],w] g=.val r/\yf (m+1) NoP 0 .nil r:=by
 obtain ⟨w',e2,hw'⟩:=dF hl d;rw[pR];refine bK rM (xs:=[.agg [.int .u8 (x:Int),.int .u8 (y:Int),.int .i64 z],w']) (by simp only[aJ,e2];rfl) (by simp[iP]) (zM (m+1)) (by decide) hd ?_;have ws:=λh=>(hw' h).sps;simp only[sz,simprocAttr,iP];obtain ⟨g0,hg0⟩:∃g0,g0=G.empty.new (.cells 3 [[.int .u8 (x:Int),.int .u8 (y:Int),.int .i64 z]] 0 false false):=⟨_,rfl⟩;rw[<-hg0];have f0:g0.h.get 0=.cells 3 [[.int .u8 (x:Int),.int .u8 (y:Int),.int .i64 z]] 0 false false:=by rw[hg0];simp[sx]
 have n0:g0.nx=1:=by rw[hg0];simp[sx]
 clear hg0;simp only[sz,simprocAttr,ko];refine aA (rows:=[]) (b:=1) (new:=l.map cs3) (.inl ⟨rfl,rfl⟩) (ws _) (by omega) (by simp[aP];omega) λv g1 hv n1 f1 c1 _=>?_;have hv:Own g1 1 v 3 (l.map cs3):=by simpa using hv
 have k0:g1.h.get 0=.cells 3 [[.int .u8 (x:Int),.int .u8 (y:Int),.int .i64 z]] 0 false false:=by rw[f1 0 (by omega) (by simp[vid]),f0]
 have vl:=λg=>hv.sat_len g;rw[List.length_map] at vl;have out:∀(g:G) (v:AV) (L:List Sp),Own g 1 v 3 (L.map cs3)->L.length<=m+1->∃P,yf (m+1) P 0 g.h v:=λg v L h h2=>⟨λ_=>True,L,h2,h.sps (by omega)⟩
 by_cases c0:l.length=0
 ·have e0:decide ((l.length:Int)=0)=true:=decide_eq_true (by omega);simp only[sz,simprocAttr,vl,e0];exact out _ _ _ hv (by omega)
 have e0:decide ((l.length:Int)=0)=false:=decide_eq_false (by omega);refine bT (P:=λt' df g'=>df=[]/\g'=g1/\St t' [(2,.hptr 0 0 0 0),(5,v)]) ?_ ?_
 ·simp only[sz,simprocAttr];simp[St,sx,xN]
 rintro t df g2 ⟨rfl,rfl,h2,h5,-⟩;refine bS (P:=λt' df g'=>df=[]/\g'=g2/\St t' [(2,.hptr 0 0 0 0),(5,v)]) ?_ ?_
 ·simp only[sz,simprocAttr,h5,vl,e0];simp[St,sx,h2,h5]
 rintro t df g3 ⟨rfl,rfl,h2,h5,-⟩;obtain ⟨i,hi⟩:∃i,i=y % l.length:=⟨_,rfl⟩;have hil:i<l.length:=by rw[hi];exact Nat.mod_lt _ (by omega)
 have w8:IntKind.wrap .i64 (y:Int)=(y:Int):=aB (by omega) (by omega);have r1:bD .rem (.int .i64 (y:Int)) (.int .i64 (l.length:Int))=.val (.int .i64 (i:Int)):=by rw[cH .i64 (show (0:Int)<=(y:Int) by omega) (show (0:Int)<(l.length:Int) by omega),hi];congr 2
 obtain ⟨⟨a,b,c⟩,hx0⟩:∃x,l[i]?=some x:=⟨_,List.getElem?_eq_getElem hil⟩;have u1:i<(l.map cs3).length:=by simpa using hil
 have u2:(l.map cs3)[i]?=some [.int .i64 a,.int .i64 b,.int .i64 c]:=by rw[List.getElem?_map,hx0];rfl
 have rv:=hv.rows;have nc:=zf hv (off:=0) u1;have fa:=BB hv u1;refine bS (P:=λt' df g'=>df=[]/\g'=g3/\St t' [(2,.hptr 0 0 0 0),(5,v),(6,eg 3 v i 0)]) ?_ ?_
 ·simp only[sz,simprocAttr,h2,h5,k0,w8,vl,r1,rv,u1];simp[St,sx,h2,h5]
 rintro t df g4 ⟨rfl,rfl,h2,h5,h6,-⟩;have r2:bD .rem (.int .u8 (x:Int)) (.int .u8 6)=.val (.int .u8 ((x % 6:Nat):Int)):=by rw[cH .u8 (show (0:Int)<=(x:Int) by omega) (show (0:Int)<6 by omega)];congr 2
 have hr6:x % 6<6:=Nat.mod_lt _ (by omega);have done:∀(t:T) (g:G) (v:AV) (L:List Sp),tat t 5=v->Own g 1 v 3 (L.map cs3)->L.length<=m+1->wp C0 (d+1) none dl (fnQ C0 (d+1) [SR.tm 4] λv g'=>∃P,yf (m+1) P 0 g'.h v) t [] g:=λt g v L h5 h h'=>by simp only[sz,simprocAttr,dl,h5];exact out _ _ _ h h'
 have hsix:x % 6=0\/x % 6=1\/x % 6=2\/x % 6=3\/x % 6=4\/x % 6=5:=by omega
 rcases hsix with h | h | h | h | h | h
 ·rw[h] at r2;simp only[sz,simprocAttr,h2,h6,k0,r2,nc,fa];refine bM (v:=v) (sz:=3) (n:=1) (i:=i) (off:=0) (x:=.int .i64 z) (row:=cs3 (a,b,c)) (row':=cs3 (z,b,c)) hv u2 rfl rfl rfl λg5 o5 n5 f5=>?_;rw[re] at o5;simp only[sz,simprocAttr];exact done _ _ _ _ (by simp[sx,h5]) o5 (by simp;omega)
 ·rw[h] at r2;simp only[sz,simprocAttr,h2,h6,k0,r2,nc,fa];refine bM (v:=v) (sz:=3) (n:=1) (i:=i) (off:=1) (x:=.int .i64 z) (row:=cs3 (a,b,c)) (row':=cs3 (a,z,c)) hv u2 rfl rfl rfl λg5 o5 n5 f5=>?_;rw[re] at o5;simp only[sz,simprocAttr];exact done _ _ _ _ (by simp[sx,h5]) o5 (by simp;omega)
 ·rw[h] at r2;simp only[sz,simprocAttr,h2,h6,k0,r2,nc,fa];refine bM (v:=v) (sz:=3) (n:=1) (i:=i) (off:=2) (x:=.int .i64 z) (row:=cs3 (a,b,c)) (row':=cs3 (a,b,z)) hv u2 rfl rfl rfl λg5 o5 n5 f5=>?_;rw[re] at o5;simp only[sz,simprocAttr];exact done _ _ _ _ (by simp[sx,h5]) o5 (by simp;omega)
 ·rw[h] at r2;obtain ⟨q,q1,q2,q3⟩:=tu (α:=Sp) hv (n:=l.length - 1) (by intro e;rw[e] at u1;simp at u1) (by simp);have q1:mP 3 v none (some (.int .i64 ((l.length - 1:Nat):Int))) g4=.val q:=q1;have w1:IntKind.wrap .i64 ((l.length:Int) - 1)=((l.length - 1:Nat):Int):=by rw[aB (by omega) (by omega)];omega
  simp only[sz,simprocAttr,h2,h5,k0,r2,vl,w1,q1,List.head?_nil,List.head?_cons];simp only[sz,simprocAttr,dl,q2.1,q2.2];exact ⟨λ_=>True,l.take (l.length - 1),by simp;omega,_,rfl,q3 _ _ _ _ (λ_ _=>rfl) (Own.sl (α:=Sp) hv (by omega) (All2.of_map (λa=>FS.2 rfl) l) λ_ _=>trivial)⟩
 ·rw[h] at r2;have w1:IntKind.wrap .i64 ((l.length:Int) - 1)=(l.length:Int) - 1:=aB (by omega) (by omega);simp only[sz,simprocAttr,h2,h5,k0,r2,vl,w1];refine aA (new:=[cs3 (-1,(l.length:Int) - 1,z)]) (hv.step (Fr.new _ _)) (by simp[sx,sy,cs3]) (by first | (simp;done) | (simp;omega)) (by simp[aP];omega) λv2 g5 hv2 n2 f2 c2 _=>?_;simp only[sz,simprocAttr];exact done _ _ v2 (l++[(-1,(l.length:Int) - 1,z)]) (by simp[sx]) (by simpa using hv2) (by first | (simp;done) | (simp;omega))
 ·rw[h] at r2;simp only[sz,simprocAttr,h2,h6,k0,r2,nc,fa,rv,u1,u2];refine bM (v:=v) (sz:=3) (n:=1) (i:=i) (off:=1) (x:=.int .i64 c) (row:=cs3 (a,b,c)) (row':=cs3 (a,c,c)) hv u2 rfl rfl rfl λg5 o5 n5 f5=>?_;rw[re] at o5;have u5:((l.set i (a,c,c)).map cs3)[i]?=some (cs3 (a,c,c)):=by rw[List.getElem?_map,List.getElem?_set_self hil];rfl
  have nc5:=zf o5 (off:=0) (i:=i) (by simpa using hil);have fa5:=BB o5 (i:=i) (by simpa using hil);simp only[sz,simprocAttr,h6,nc5,fa5];refine bM (v:=v) (sz:=3) (n:=1) (i:=i) (off:=2) (x:=.int .i64 b) (row:=cs3 (a,c,c)) (row':=cs3 (a,c,b)) o5 u5 rfl rfl rfl λg6 o6 n6 f6=>?_;rw[re] at o6;simp only[sz,simprocAttr];exact done _ _ _ _ (by simp[sx,h5]) o6 (by simp;omega)
theorem EV {l:List Int}{n:Nat}(hn:n<=64)(hl:l.length=n)(hb:∀x∈l,0<=x/\x<(n:Int))(hd:l.Nodup):S.ay l n=true:=by simp only[S.ay,S.aY,Bool.and_eq_true,decide_eq_true_eq,List.all_eq_true,List.mem_range,Bool.not_eq_true'];refine ⟨by omega,λj hj=>?_⟩;rw[List.getElem?_eq_getElem hj,Option.getD_some];have hx:=hb _ (List.getElem_mem hj);refine ⟨hx,?_⟩;rw[Bool.eq_false_iff];intro h;rw[tj λx hx=>by have:=hb x (List.mem_of_mem_take hx);omega,Int.toNat_of_nonneg hx.1] at h;obtain ⟨i,hi,he⟩:=List.mem_iff_getElem.1 h;rw[List.length_take] at hi;rw[List.getElem_take] at he;exact (List.pairwise_iff_getElem.1 hd i j (by omega) hj (by omega)) he
def IV (n:Nat):VS:=λP k h v=>∃l:List Int,(n<=64->S.ay l n=true)/\One l P k h v
theorem F5 (n:Nat):Snb (IV n) 0:=kT λl=>bL l
theorem uR {d n:Nat}{g:G}{vs:List UInt8}(hd:0<d)(hv:vs.length=8)(hn:n<=1000002):∃r,ay C0 d N.aE [.int .i64 (n:Int),.int .i64 (-1),.agg (vs.map u8v)] g=.val r/\IV n NoP 0 .nil r:=by
 rw[qz];refine bK sX (xs:=[.int .i64 (n:Int),.int .i64 (-1),.agg (vs.map u8v)]) (by simp only[aJ,gc 0,zL]) (by simp[jG]) (F5 n) (by decide) hd ?_;obtain ⟨cu8,hcu⟩:∃c,c=vs.map u8v:=⟨_,rfl⟩;have hcl:cu8.length=8:=by rw[hcu,List.length_map,hv]
 simp only[sz,simprocAttr,jG,lY,<-hcu];refine aV n (by omega) (λj t df g=>df=[]/\St t [(0,.int .i64 (n:Int)),(1,.int .i64 (-1)),(5,.hptr 0 0 0 0)]/\g.h.get 0=.cells 8 [cu8] 0 false false/\1<=g.nx/\∃u L,tat t 7=u/\L.length=j/\(∀x∈L,0<=x/\x<(j:Int))/\L.Nodup/\Own g 1 u 1 (L.map ci))
  ⟨rfl,by simp[sx,St],by rw[hcl];simp[sx],by simp[sx],_,[],rfl,rfl,by simp,List.nodup_nil,.inl ⟨by simp[sx],rfl⟩⟩ (by simp[sx]) (by decide) (by rintro j t df g v s (rfl | rfl | rfl)<;>simp[sx,St]) ?_ ?_ ?_
 ·rintro j t df g hj ⟨rfl,⟨h0,h1,h5,-⟩,hg,hnx,u,L,h7,r⟩ h8;simp only[sz,simprocAttr,h0,h8];exact ⟨by simp[St,sx,h0,h1,h5],hg,hnx,u,L,by simp[sx,h7],r⟩
 ·rintro j t df g hj ⟨rfl,⟨h0,h1,h5,-⟩,hg,hnx,u,L,h7,hLl,hLb,hLd,hu⟩ h8;have hpl:(L.map ci).length=j:=by rw[List.length_map,hLl]
  obtain ⟨y,hy⟩:∃y,vs[j % 8]?=some y:=⟨_,List.getElem?_eq_getElem (by omega)⟩;have hcy:cu8[j % 8]?=some (.int .u8 (y.toNat:Int)):=by rw[hcu,List.getElem?_map,hy];rfl
  have hj8:j % 8<8:=Nat.mod_lt _ (by omega);have hy8:y.toNat<256:=y.toNat_lt;have w8:IntKind.wrap .i64 (y.toNat:Int)=(y.toNat:Int):=aB (by omega) (by omega);have w9:IntKind.wrap .i64 ((j:Int)+1)=(j:Int)+1:=aB (by omega) (by omega);obtain ⟨a,ha⟩:∃a,a=y.toNat % (j+1):=⟨_,rfl⟩;have hal:a<=j:=by have:=Nat.mod_lt y.toNat (show 0<j+1 by omega);omega
  have ha2:(y.toNat:Int) % ((j:Int)+1)=(a:Int):=by rw[ha];simp
  have vl:d8 .slice u g=.val (.int .i64 (j:Int)):=by
   rcases hu with ⟨e1,e2⟩ | ⟨id,ep,lo,q1,q2,e1,q3⟩
   ·rw[e1];rw[e2] at hpl;simp at hpl;subst hpl;rfl
   ·rw[e1,hpl];rfl
  have c1:decide ((j:Int) = -1)=false:=decide_eq_false (by omega);have r8:bD .rem (.int .i64 (j:Int)) (.int .i64 8)=.val (.int .i64 ((j % 8:Nat):Int)):=by rw[cH .i64 (show (0:Int)<=(j:Int) by omega) (show (0:Int)<8 by omega)];congr 2
  have r9:bD .rem (.int .i64 (y.toNat:Int)) (.int .i64 ((j:Int)+1))=.val (.int .i64 (a:Int)):=by rw[cH .i64 (show (0:Int)<=(y.toNat:Int) by omega) (show (0:Int)<(j:Int)+1 by omega),ha2]
  obtain ⟨y1,s1,w1⟩:=uL hu (n:=a) (by omega);simp only[sz,simprocAttr,h0,h1,h5,h7,h8,c1,r8,hg,EY 8 1 _ _ _ _ _ hj8,Nat.mul_one,hcy,w8,vl,w9,r9,List.head?_nil,List.head?_cons,s1];refine aA (rows:=[]) (b:=1) (.inl ⟨rfl,rfl⟩) w1 hnx (by simp[aP];omega) λv1 g1 hv1 n1 f1 vid1 _=>?_;simp only[sz,simprocAttr,h8];refine aA (new:=[ci (j:Int)]) (hv1.step (Fr.new _ _)) (by simp[sx,sy,ci]) (by simp) (by simp[aP];omega) λv2 g2 hv2 n2 f2 vid2 _=>?_;have hu1:Own g1 1 u 1 (L.map ci):=hu.fr n1 λi hi=>f1 i (hu.lt hi).2 (by simp[vid]);have hnv:∀i,i<g.nx->vid v1≠some i:=λi hi e=>by
   rcases vid1 with h | ⟨i',h,hi'⟩
   ·rw[h] at e;cases e
   ·rw[h] at e;injection e with e;omega
  have hu2:Own g2 1 u 1 (L.map ci):=hu1.fr (by simp at n2;omega) λi hi=>by have hlt:=(hu.lt hi).2;rw[f2 i (by simp;omega) (hnv i hlt),G.new_h,aD _ _ _ (by omega)]
  obtain ⟨y2,s2,w2⟩:=uM hu2 (n:=a) (by omega);simp only[sz,simprocAttr,h7,List.head?_nil,List.head?_cons,s2];refine aA hv2 w2 (by simp at n2;omega) (by simp[aP];omega) λv3 g3 hv3 n3 f3 _ _=>?_;simp only[sz,simprocAttr];refine ⟨⟨by simp[St,sx,h0,h1,h5],?_,by simp at n2;omega,_,L.take a++(j:Int)::L.drop a,rfl,by simp;omega,?_,?_,?_⟩,by simp[sx,h8]⟩
  ·rw[f3 0 (by simp at n2;omega) (λe=>by have:=(hv2.lt e).1;omega),f2 0 (by simp) (hnv 0 (by omega)),G.new_h,aD _ _ _ (by omega),f1 0 (by omega) (by simp[vid]),hg]
  ·intro x hx;rw[List.perm_middle.mem_iff,List.take_append_drop] at hx;rcases List.mem_cons.1 hx with rfl | hx
   ·omega
   ·have:=hLb x hx;omega
  ·rw[List.perm_middle.nodup_iff,List.take_append_drop,List.nodup_cons];exact ⟨λh=>by have:=hLb _ h;omega,hLd⟩
  ·simpa [List.map_take,List.map_drop] using hv3
 ·rintro t df g ⟨rfl,-,hg,hnx,u,L,h7,hLl,hLb,hLd,hu⟩;simp only[sz,simprocAttr,kh,h7];exact ⟨_,L,λhn=>EV hn hLl hLb hLd,hu.ints (by omega)⟩
def IU:VS:=λP k h v=>∃x:Net×Net,(Drafted x.1/\x.2.nodes.length<=1000002)/\Agg x P k h v
theorem G_ {d:Nat}{g:G}{x:pN}{y:i4}{xs ys:List AV}(hd:0<d)(hx:Rp.rp NoP 0 .nil x xs)(hy:Rp.rp NoP 0 .nil y ys) :
  ∃r,ay C0 d N.aN [.agg xs,.agg ys] g=.val r/\IU NoP 0 .nil r:=by
 have e1:=js d (j_ (P:=NoP) hx g.h);have e2:=js d (j_ (P:=NoP) hy g.h);obtain ⟨a1,a2,ex,-⟩:=rQ.1 hx;have hxl:xs.length=3:=by rw[ex];rfl
 have hyl:ys.length=4:=by rw[uF.1 hy];rfl
 clear ex a1 a2;rw[sO];refine bK u_ (xs:=[.agg xs,.agg ys]) (by simp only[aJ,e1,e2]) (by simp[mz]) (kT λo=>gF _) (by decide) hd ?_;simp only[sz,simprocAttr,mz];obtain ⟨g0,hg0⟩:∃g0,g0=((G.empty.new (AObj.cells xs.length [xs] 0 false false)).new (AObj.cells ys.length [ys] 0 false false)).new (.cells 4 [[.int .i64 0,.nils,.int .i64 0,.nils]] 0 false false):=⟨_,rfl⟩;rw[<-hg0];have f0:g0.h.get 0=.cells 3 [xs] 0 false false:=by rw[hg0,hxl];simp[sx,H.get_put]
 have f1:g0.h.get 1=.cells 4 [ys] 0 false false:=by rw[hg0,hyl];simp[sx,H.get_put]
 have f2:g0.h.get 2=.cells 4 [[.int .i64 0,.nils,.int .i64 0,.nils]] 0 false false:=by rw[hg0];simp[sx]
 have f3:g0.nx=3:=by rw[hg0];simp[sx]
 clear hg0;have ld0:bm (.cells 3 [xs] 0 false false) 0 0 true 3 0=.val (.agg xs):=by
  match xs,hxl with
  | [a,b,c],_=>rfl
 have ld1:bm (.cells 4 [ys] 0 false false) 0 0 true 4 0=.val (.agg ys):=by
  match ys,hyl with
  | [a,b,c,d],_=>rfl
 obtain ⟨rn,en,n,hdr,cn,rfl,hcn⟩:=By (g:=g0) (d:=d+1) (Nat.succ_pos d) (j_ (P:=NoP) hx g0.h);obtain ⟨b,rfl,hNb⟩:=eU.1 hcn;have hbd:∀y∈n.nodes,y.parents.length<=1000/\y.rows.length<=1000/\∀r∈y.rows,r.length<=1000:=hdr.b;have hn5:=hdr.l;simp only[sz,simprocAttr,nV,f0,ld0,en];simp only[sz,simprocAttr,sf,f1,f2,f3,ld1];refine cF (Gw (K:=1000) (Nat.succ_pos d) (j_ (P:=NoP) hy _) (j_ (P:=NoP) hcn _) (by decide) (by omega) hbd) ?_;rintro r ⟨m,hmb,cm,rfl,hcm⟩;obtain ⟨b2,rfl,hNm⟩:=eU.1 hcm;have fw:eW [.int .i64 0,.nils,.int .i64 0,.nils] [((0,2),.agg [.int .i64 n.grain,b]),((2,2),.agg [.int .i64 m.grain,b2])]=some [.int .i64 n.grain,b,.int .i64 m.grain,b2]:=rfl;simp only[sz,simprocAttr,sf,f1,f2,f3,fw,qd];refine ⟨?_,?_⟩
 ·simp only[List.reverse_cons,List.reverse_nil,List.nil_append,List.cons_append];exact aC [false,false,false,false,false,true] [] (by simp[All2,af,au]) (by decide) (by simp)
 exact ⟨NoP,(n,m),⟨hdr,hmb⟩,_,rfl,_,_,rfl,Rp.tree hcn (Nat.le_refl _),Rp.tree hcm (Nat.le_refl _)⟩
theorem Iz {l:List Int}{n:Nat}(h:S.ay l n=true){j:Nat}(hj:j<l.length):0<=l[j]?.getD 0/\l[j]?.getD 0<(n:Int):=by simp only[S.ay,S.aY,Bool.and_eq_true,decide_eq_true_eq,List.all_eq_true,List.mem_range] at h;have:=h.2 j hj;exact ⟨this.1.1,this.1.2⟩
theorem GY {d pm k:Nat}{oa L O:AV}{n:Net}{l:List Int}{Q:QT}{t:T}{g:G}(hr:NR n)(hol:S.ay l n.nodes.length=true)(hoa:SlR NoP k .nil l oa)(hM:MkH pm L O (S.aC (S.ac n)) g)
  (ht:St t [(8,.hptr pm 0 0 0),(63,oa),(64,.int .i64 (l.length:Int)),(65,.int .i64 0)])
  (fin:∀t g L O,St t [(8,.hptr pm 0 0 0)]->MkH pm L O (S.aJ (S.ac n) l l.length) g->Q (.exit 2) t [] g) :
  wpL (wp C0 (d+1) none eP) Q t [] g:=by
 obtain ⟨h8,h63,h64,h65,-⟩:=ht;have rp:=λh=>(hoa.tree (h':=h) (Nat.le_refl k)).ints;simp only[eP];refine bN (m:=l.length) hoa.1 (λj t df g=>df=[]/\St t [(8,.hptr pm 0 0 0),(63,oa)]/\∃L O,MkH pm L O (S.aJ (S.ac n) l j) g)
  ⟨rfl,by simp[St,h8,h63],_,_,hM⟩ h65 h64 (by decide) (by rintro j t df g v s (rfl | rfl | rfl)<;>simp[sx,St]) ?_ ?_
 ·clear h8 h63 h64 h65 hM;rintro j t df g hj ⟨rfl,⟨h8,h63,-⟩,L,O,hM⟩ h65 h64;obtain ⟨x,hx,-,-⟩:=aq hj;have hb:=Iz hol hj;rw[hx,Option.getD_some] at hb;obtain ⟨X,rfl⟩:=Int.eq_ofNat_of_zero_le hb.1;have u1:j<(l.map ci).length:=by simpa using hj
  have u2:(l.map ci)[j]?=some (ci (X:Int)):=by rw[List.getElem?_map,hx];rfl
  have hstep:S.aJ (S.ac n) l (j+1)=S.jn (λs=>s.testBit X) (S.aJ (S.ac n) l j):=by rw[S.aJ,hx];rfl
  obtain ⟨hm,hpn,oL,oO,d1,d2,d3⟩:=hM;simp only[sz,simprocAttr,h63,h65,rp,u1,u2,ci,h8];obtain ⟨gA,hgA⟩:∃gA,gA=((g.new (AObj.cells 1 [[AV.int IntKind.i64 0]] 0 false false)).put g.nx (AObj.cells 1 [[AV.int IntKind.i64 (X:Int)]] 0 false false)):=⟨_,rfl⟩;rw[<-hgA];have kA:gA.h.get g.nx=.cells 1 [[.int .i64 (X:Int)]] 0 false false:=by rw[hgA];simp[H.get_put]
  have kn:gA.nx=g.nx+1:=by rw[hgA];simp
  have fA:Fr g gA:=⟨by omega,λi hi=>by rw[hgA];simp[H.get_put,show ¬i=g.nx by omega]⟩;clear hgA;have hlen:(S.ac n).length=n.nodes.length:=by simp[S.ac]
  refine BO (m:=n.nodes.length) (L:=L) (O:=O) (l:=(S.aJ (S.ac n) l j).1) (o:=(S.aJ (S.ac n) l j).2) (IM (d+1) g.nx X) kA (by omega) ⟨by rw[fA.2 pm hpn,hm],by omega,oL.step fA,oO.step fA,d1,d2,d3⟩ (by have:=zd (S.ac n) l j;rw[hlen] at this;exact this) hr.l2 (Av (xp hr) j) λu g' L' O' hM' _ _ _ _=>?_;simp only[sz,simprocAttr];rw[hstep];exact ⟨⟨by simp[St,sx,h8,h63],L',O',hM'⟩,by simp[sx,h64,h65]⟩
 ·rintro t df g ⟨rfl,⟨h8,-⟩,L,O,hM⟩;exact fin t g L O (by simp[St,h8]) hM
theorem GZ {d k:Nat}{g:G}{P:Nat->Prop}{v w:AV}{n:Net}{l:List Int}(hd:0<d)(hm:Agg n NoP 0 g.h v)(hl:SlR P k g.h l w):∃r,ay C0 d N.aK [v,w] g=.val r/\CF (One (S.aP n l)) (One (S.aS n l)) NoP 0 .nil r:=by
 obtain ⟨b,rows,rfl,e1,hm',hN,-⟩:=gy d hm;obtain ⟨w',e2,hw'⟩:=dF hl d;rw[px];refine bK qE (xs:=[.agg [.int .i64 n.grain,b],w']) (by simp only[aJ,e1,e2]) (by simp[gU]) (rh (m:=1) (bL _) (bL _) (by decide) (by decide)) (by decide) hd ?_;simp only[sz,simprocAttr,gU];obtain ⟨g0,hg0⟩:∃g0,g0=G.empty.new (.cells 2 [[.int .i64 n.grain,b]] 0 false false):=⟨_,rfl⟩;rw[<-hg0];have f0:g0.h.get 0=.cells 2 [[.int .i64 n.grain,b]] 0 false false:=by rw[hg0];simp[sx]
 have n0:g0.nx=1:=by rw[hg0];simp[sx]
 clear hg0;have ld:bm (.cells 2 [[.int .i64 n.grain,b]] 0 false false) 0 0 true 2 0=.val (.agg [.int .i64 n.grain,b]):=rfl;have nl:=λg=>hN.len g;have kNil:∀(e:Int) (h:H),∃P,CF (One ([]:List Sp)) (One e) P 0 h (.tup [.nils,.int .i64 e]):=λe h=>⟨NoP,_,_,rfl,eE.2 ⟨.nils,rfl,by simp,rfl⟩,bj.2 rfl⟩;obtain ⟨z,ez,pv,c,rfl,hpv,hc⟩:=Hf (d:=d+1) (g:=g0) (Nat.succ_pos d) (n:=n) (hm' _);obtain ⟨_,e3,hpv⟩:=eE.1 hpv;injection e3 with e3;subst e3;have hc:=bj.1 hc;injection hc with hc;subst hc;simp only[jy];cases c0:S.au n with
 | false =>
  have r1:S.aP n l=[]:=by simp[S.aP,c0]
  have r2:S.aS n l=50:=by simp[S.aS,c0]
  have r3:S.bp n=50:=by simp[S.bp,c0]
  rw[r3] at ez;rw[r1,r2];simp only[sz,simprocAttr,f0,ld,ez];exact kNil _ _
 | true =>
  have hr:=ed.1 c0;have hn8:=hr.l2;have r3:S.bp n=0:=by simp[S.bp,c0]
  have r4:S.bz n=S.af n:=by simp[S.bz,c0]
  rw[r3] at ez;rw[r4] at hpv;have io:=Aq (d:=d+1) (n:=n.nodes.length) (Nat.succ_pos d) (by omega) (hw' g0.h) (g:=g0);cases c1:S.ay l n.nodes.length with
  | false =>
   have r1:S.aP n l=[]:=by simp[S.aP,c1]
   have r2:S.aS n l=2:=by simp[S.aS,c0,c1]
   rw[c1] at io;rw[r1,r2];simp only[sz,simprocAttr,f0,ld,ez,nl,io];exact kNil _ _
  | true =>
   have r1:S.aP n l=(S.mk (S.ac n) l).1:=by simp[S.aP,c0,c1]
   have r2:S.aS n l=0:=by simp[S.aS,c0,c1]
   rw[c1] at io;rw[r1,r2];have pl:∀g,d8 .slice pv g=.val (.int .i64 (n.nodes.length:Int)):=λg=>by rw[hpv.len];simp[S.af]
   have b2:tG [.nils,.nils] [] []=.val (.agg [.nils,.nils]):=rfl;have wl:∀g,d8 .slice w' g=.val (.int .i64 (l.length:Int)):=λg=>(hw' .nil).len g;simp only[sz,simprocAttr,f0,ld,ez,nl,io,pl,b2];refine GX (pm:=g0.nx) (oa:=w') hn8 hpv ⟨by simp[H.get_put],by simp,.inl ⟨rfl,rfl⟩,.inl ⟨rfl,rfl⟩,by simp[vid],by simp[vid],by simp[vid]⟩ (by simp[St,sx]) λt g1 L O ht hM=>?_;obtain ⟨h1,h8,-⟩:=ht;simp only[sz,simprocAttr,jc,h1,wl];refine GY (pm:=g0.nx) hr c1 (hw' .nil) hM (by simp[St,sx,h1,h8]) λt g2 L O ht hM=>?_;obtain ⟨h8,-⟩:=ht;simp only[sz,simprocAttr,ja,h8];have hlen:(S.ac n).length=n.nodes.length:=by simp[S.ac]
   refine BO (d:=d) (m:=n.nodes.length) (q:=0) (ob:=g2.h.get 0) (L:=L) (O:=O) (l:=(S.aJ (S.ac n) l l.length).1) (o:=(S.aJ (S.ac n) l l.length).2) (IL (d+1) 0 _) rfl (by have:=hM.pn;omega) hM (by have:=zd (S.ac n) l l.length;rw[hlen] at this;exact this) hn8 (Av (xp hr) l.length) λu g' L' O' hM' _ _ _ _=>?_;obtain ⟨hm,hpn,oL,oO,d1,d2,d3⟩:=hM';have nc:qU (.hptr g0.nx 0 0 0)=.val (.hptr g0.nx 0 0 0):=rfl;have hfl:(S.mk (S.ac n) l).1.length<9223372036854775808:=by have:=(Fo (fam:=S.ac n) (order:=l) (by rw[hlen];exact hr.l1)).2.1;rw[hlen] at this;omega
   simp only[sz,simprocAttr,nc,h8,hm];exact ⟨λ_=>True,_,_,rfl,(show Own g' 0 L' 3 ((S.mk (S.ac n) l).1.map cs3) from oL).sps hfl,bj.2 rfl⟩
theorem ix4 (w:Nat->AV)(h:∀i,i<4->(w i).cells=[w i]/\(w i).isTup=false)(j:Nat)(hj:j<4):ixV false 4 1 (.agg [w 0,w 1,w 2,w 3]) (.int .i64 (j:Int))=.val (w j):=by
 have:j=0\/j=1\/j=2\/j=3:=by omega
 rcases this with rfl | rfl | rfl | rfl<;>rfl
theorem ix3 (w:Nat->AV)(j:Nat)(hj:j<3):ixV false 3 1 (.agg [w 0,w 1,w 2]) (.int .i64 (j:Int))=.val (w j):=by
 have:j=0\/j=1\/j=2:=by omega
 rcases this with rfl | rfl | rfl<;>rfl
theorem CP {n:Net}{nb:AV}{q:Nat}{w:Nat->AV}{ls:Nat->List Sp}{X:List (Nat×AV)}{Q:QT}{t:T}{g:G}(hX:∀t v s,s=57\/s=56\/s=66\/s=58\/s=18\/s=59\/s=60\/s=61\/s=62\/s=63\/s=64\/s=65->St t X->St (eG t s v) X)(hM:∀h,Agg n NoP 0 h (.agg [.int .i64 n.grain,nb]))
  (hw:∀i,i<4->SlR NoP 0 .nil (ls i) (w i)/\(ls i).length<=1000) (hq:g.h.get q=.cells 2 [[.int .i64 n.grain,nb]] 0 false false)
  (ht:St t X) (h16:tat t 16=.hptr q 0 0 0) (h55:tat t 55=.agg [w 0,w 1,w 2,w 3]) (h56:tat t 56=.int .i64 0)
  (fin:∀t,St t X->tat t 16=.hptr q 0 0 0->Q (.exit 2) t [] g) :
  wpL (wp C0 1 none bz) Q t [] g:=by
 have ldn:bm (.cells 2 [[.int .i64 n.grain,nb]] 0 false false) 0 0 true 2 0=.val (.agg [.int .i64 n.grain,nb]):=rfl;simp only[bz];refine oR (m:=4) rfl (by decide) (λj t df g'=>df=[]/\g'=g/\St t X/\tat t 16=.hptr q 0 0 0/\tat t 55=.agg [w 0,w 1,w 2,w 3]) ⟨rfl,rfl,ht,h16,h55⟩ h56 (by decide)
  (by rintro j t df g v s (rfl | rfl | rfl) ⟨a,b,c,d,e⟩<;>exact ⟨a,b,hX _ _ _ (by simp) c,by simp[sx,d],by simp[sx,e]⟩) ?_ ?_
 ·rintro j t df g' hj ⟨rfl,rfl,ht,h16,h55⟩ h56;obtain ⟨hs,hl⟩:=hw j hj;have k1:∀g,ay C0 1 N.ap [.agg [.int .i64 n.grain,nb],w j] g=.val (.int .i64 (S.aO n (ls j))):=λg=>CO (by decide) (hM _) (hs.tree (h':=g.h) (Nat.le_refl 0));have k2:∀g,ay C0 1 N.aG [.agg [.int .i64 n.grain,nb],w j] g=.val (.int .i64 (S.aO n (ls j))):=λg=>zy (by decide) (hM _) (hs.tree (h':=g.h) (Nat.le_refl 0)) (by omega);have ix:=ix4 w (λi hi=>(hw i hi).1.cell) j hj;simp only[sz,simprocAttr,h16,h55,h56,ix,hq,ldn,k1,k2];refine hX _ _ _ (by simp) (hX _ _ _ (by simp) (hX _ _ _ (by simp) (hX _ _ _ (by simp) (hX _ _ _ (by simp) (hX _ _ _ (by simp) (hX _ _ _ (by simp) (hX _ _ _ (by simp) (hX _ _ _ (by simp) ht))))))))
 ·rintro t df g' ⟨rfl,rfl,ht,h16,-⟩;exact fin t ht h16
theorem CQ {n:Net}{nb:AV}{q:Nat}{w:Nat->AV}{os:Nat->List Int}{X:List (Nat×AV)}{Q:QT}{t:T}{g:G}(hX:∀t v s,(s=83\/s=84\/s=128\/s=20\/s=21\/s=22\/(85<=s/\s<=127))->St t X->St (eG t s v) X)(hM:∀h,Agg n NoP 0 h (.agg [.int .i64 n.grain,nb]))(hN:SlR NoP 0 .nil n.nodes nb)
  (hw:∀i,i<3->SlR NoP 0 .nil (os i) (w i)) (hq:g.h.get q=.cells 2 [[.int .i64 n.grain,nb]] 0 false false)
  (ht:St t X) (h16:tat t 16=.hptr q 0 0 0) (h82:tat t 82=.agg [w 0,w 1,w 2]) (h83:tat t 83=.int .i64 0)
  (fin:∀t,St t X->Q (.exit 4) t [] g) :
  wpL (wp C0 1 none b_) Q t [] g:=by
 have ldn:bm (.cells 2 [[.int .i64 n.grain,nb]] 0 false false) 0 0 true 2 0=.val (.agg [.int .i64 n.grain,nb]):=rfl;have nl:=λg=>hN.len g;simp only[b_,dP];refine oR (m:=3) rfl (by decide) (λj t df g'=>df=[]/\g'=g/\St t X/\tat t 16=.hptr q 0 0 0/\tat t 82=.agg [w 0,w 1,w 2]) ⟨rfl,rfl,ht,h16,h82⟩ h83 (by decide)
  (by rintro j t df g v s (rfl | rfl | rfl) ⟨a,b,c,d,e⟩<;>exact ⟨a,b,hX _ _ _ (by simp) c,by simp[sx,d],by simp[sx,e]⟩) ?_ ?_
 ·rintro j t df g' hj ⟨rfl,rfl,ht,h16,h82⟩ h83;have hs:=hw j hj;have ix:=ix3 w j hj;have kr:∀g,ay C0 1 N.an [.agg [.int .i64 n.grain,nb]] g=.val (.bool (S.au n)):=λg=>wO (by decide) (hM _);refine bT (P:=λt' df g''=>df=[]/\g''=g'/\St t' X/\tat t' 16=.hptr q 0 0 0/\tat t' 82=.agg [w 0,w 1,w 2]/\tat t' 83=.int .i64 (j:Int)/\tat t' 20=w j) ?_ ?_
  ·simp only[sz,simprocAttr,h82,h83,ix];exact ⟨hX _ _ _ (by simp) (hX _ _ _ (by simp) ht),by simp[sx,h16]⟩
  rintro t df g2 ⟨rfl,rfl,ht,h16,h82,h83,h20⟩;refine bT (P:=λt' df g''=>df=[]/\g''=g2/\St t' X/\tat t' 16=.hptr q 0 0 0/\tat t' 82=.agg [w 0,w 1,w 2]/\tat t' 83=.int .i64 (j:Int)/\tat t' 20=w j/\(∃mv,SlR NoP 0 .nil (S.aP n (os j)) mv/\tat t' 21=mv)/\tat t' 22=.int .i64 (S.aS n (os j))) ?_ ?_
  ·simp only[sz,simprocAttr,h16,h20,hq,ldn];refine cF (GZ (by decide) (hM _) (hs.tree (Nat.le_refl 0))) λr2 hr2=>?_;obtain ⟨mv,ev,rfl,hmv,hev⟩:=hr2;have hev:=bj.1 hev;injection hev with hev;subst hev;simp only[sz,simprocAttr];have hmv':SlR NoP 0 .nil (S.aP n (os j)) mv:=by obtain ⟨w2,e,h2⟩:=hmv;injection e with e;rw[e];exact h2
   refine ⟨?_,by simp[sx,h16,h20,h82,h83,hmv']⟩
   repeat (refine hX _ _ _ (by simp) ?_)
   exact ht
  rintro t df g3 ⟨rfl,rfl,ht,h16,h82,h83,h20,⟨mv,hmv,h21⟩,h22⟩;have ml:=λg=>hmv.len g;cases c0:S.au n with
  | false =>
   have e1:S.aP n (os j)=[]:=by simp[S.aP,c0]
   have e2:S.aS n (os j)=50:=by simp[S.aS,c0]
   rw[e1] at ml;rw[e2] at h22;rw[c0] at kr;simp only[sz,simprocAttr,h16,h21,h22,hq,ldn,kr,ml];refine ⟨⟨?_,by first | exact h82 | simp[sx,h82]⟩,by first | exact h83 | simp[sx,h83]⟩
   repeat (refine hX _ _ _ (by simp) ?_)
   exact ht
  | true =>
   rw[c0] at kr;have hr:=ed.1 c0;have hn8:=hr.l2;have kp:∀g,ay C0 1 N.aD [w j,.int .i64 (n.nodes.length:Int),.int .i64 (-1)] g=.val (.bool (S.ay (os j) n.nodes.length)):=λg=>FV (by decide) (by omega) (hs.tree (h':=g.h) (Nat.le_refl 0));cases c1:S.ay (os j) n.nodes.length with
   | false =>
    have e1:S.aP n (os j)=[]:=by simp[S.aP,c1]
    have e2:S.aS n (os j)=2:=by simp[S.aS,c0,c1]
    rw[e1] at ml;rw[e2] at h22;rw[c1] at kp;simp only[sz,simprocAttr,h16,h20,h21,h22,hq,ldn,kr,nl,kp,ml];refine ⟨⟨?_,by first | exact h82 | simp[sx,h82]⟩,by first | exact h83 | simp[sx,h83]⟩
    repeat (refine hX _ _ _ (by simp) ?_)
    exact ht
   | true =>
    have e1:S.aP n (os j)=(S.mk (S.ac n) (os j)).1:=by simp[S.aP,c0,c1]
    have e2:S.aS n (os j)=0:=by simp[S.aS,c0,c1]
    rw[e1] at hmv;rw[e2] at h22;rw[c1] at kp;simp only[sz,simprocAttr,h16,h20,h21,h22,hq,ldn,kr,nl,kp];refine cF (Dk (by decide) hr c1 (hM _) (hs.tree (Nat.le_refl 0))) λr hr1=>?_;have hr2:SlR NoP 0 .nil (S.mk (S.ac n) (os j)).1 r:=by obtain ⟨w2,e,h2⟩:=hr1;injection e with e;rw[e];exact h2
    have ks:∀g,ay C0 1 N.aH [mv,r] g=.val (.bool true):=λg=>DC (by decide) (hmv.tree (h':=g.h) (Nat.le_refl 0)) (hr2.tree (h':=g.h) (Nat.le_refl 0));simp only[sz,simprocAttr,h16,h20,h21,h22,hq,ldn,ks];refine ⟨⟨?_,by first | exact h82 | simp[sx,h82]⟩,by first | exact h83 | simp[sx,h83]⟩
    repeat (refine hX _ _ _ (by simp) ?_)
    exact ht
 ·rintro t df g' ⟨rfl,rfl,ht,-⟩;exact fin t ht
theorem x9 (g:G):ay C0 1 N.bg [] g=.val (.bool true):=by kernel_rfl
theorem Fc {cs:List AV}(h:cs.length=8):bm (.cells 8 [cs] 0 false false) 0 0 true 8 0=.val (.agg cs):=by
 match cs,h with
 | [a,b,c,d,e,f,g,i],_=>rfl
theorem ie {α:Type} [Rp α]{l:List α}{v:AV}(h:One l NoP 0 .nil v):SlR NoP 0 .nil l v:=by obtain ⟨w,e,hw⟩:=h;injection e with e;rw[e];exact hw
set_option maxRecDepth 20000 in
def DY (w:AV):Prop:=w=.nils\/∃rows,w=.tsl 0 3 rows
theorem Hw {w:AV}{l:List Sp}(hw:SlR NoP 0 .nil l w)(hr:DY w)(c:Nat) :
  ∃w',(∀g,mP 3 w none (some (.int .i64 (min (l.length:Int) (c:Int)))) g=.val w')/\SlR NoP 0 .nil (l.take c) w':=by
 have hm:min (l.length:Int) (c:Int)=((min l.length c:Nat):Int):=by omega
 rw[hm];have hlt:(l.take c).length<9223372036854775808:=by have:=hw.1;rw[List.length_take];omega
 rcases hr with rfl | ⟨rows,rfl⟩
 ·have hl:l=[]:=hw.2;subst hl;refine ⟨.nils,λg=>?_,hlt,by simp[SlV]⟩;have:min ([]:List Sp).length c=0:=by simp
  rw[this];rfl
 ·obtain ⟨h0,h1,h2⟩:=(show 0<=0/\(3=Rp.sz Sp\/rows=[])/\All2 (Rp.rp NoP 0 .nil) l rows from hw.2);have hlen:=h2.len;refine ⟨.tsl 0 3 (rows.take (min l.length c)),λg=>?_,hlt,?_⟩
  ·show orV (match aQ (a7 rows) (a7 rows) (some (.int .i64 (.ofNat (min l.length c)))) with
    | none=>none
    | some h=>match aQ 0 h none with
     | none=>none
     | some l=>an (Nat.beq 3 3) (some (.tsl 0 3 (fZ (h - l) (eV l rows)))) none)=_
   have:aQ (a7 rows) (a7 rows) (some (.int .i64 (.ofNat (min l.length c))))=some (min l.length c):=by show an (Nat.ble (min l.length c) (a7 rows)) (some (min l.length c)) none=_;rw[aa,if_pos];rw[aw,<-hlen];simp;omega
   rw[this];show orV (an (Nat.beq 3 3) (some (AV.tsl 0 3 (fZ (min l.length c - 0) (eV 0 rows)))) none)=_;rw[show Nat.beq 3 3=true from rfl,bif'_true,aX,aW,List.drop_zero,Nat.sub_zero];rfl
  ·refine ⟨Nat.le_refl _,h1.elim .inl (λh=>.inr (by rw[h];simp)),?_⟩;have:=h2.take (min l.length c);rwa [show l.take (min l.length c)=l.take c by rw[Nat.min_comm,<-List.take_take,List.take_length]] at this
def LCk (raw odd own nt ix:AV):List (Nat×AV):=[(34,nt),(35,ix),(4,raw),(5,odd),(8,.hptr 2 0 0 0),(9,.hptr 3 0 0 0),(13,.hptr 4 0 0 0),(14,own)]
theorem I4 {raw odd own nt ix:AV}{q:Nat}(t:T)(v:AV)(s:Nat)(h:s=57\/s=56\/s=66\/s=58\/s=18\/s=59\/s=60\/s=61\/s=62\/s=63\/s=64\/s=65)(ht:St t ((16,.hptr q 0 0 0)::LCk raw odd own nt ix)):St (eG t s v) ((16,.hptr q 0 0 0)::LCk raw odd own nt ix):=by obtain ⟨a,x1,x2,b,c,d,e,f,i,-⟩:=ht;rcases h with rfl | rfl | rfl | rfl | rfl | rfl | rfl | rfl | rfl | rfl | rfl | rfl<;>simp[St,LCk,sx,x1,x2,a,b,c,d,e,f,i]
theorem I5 {raw odd own nt ix:AV}{q:Nat}(t:T)(v:AV)(s:Nat)(h:s=83\/s=84\/s=128\/s=20\/s=21\/s=22\/(85<=s/\s<=127))(ht:St t ((16,.hptr q 0 0 0)::LCk raw odd own nt ix)):St (eG t s v) ((16,.hptr q 0 0 0)::LCk raw odd own nt ix):=by
 obtain ⟨a,x1,x2,b,c,d,e,f,i,-⟩:=ht;have n:∀k,(k=16\/k=34\/k=35\/k=4\/k=5\/k=8\/k=9\/k=13\/k=14)->¬s=k/\¬k=s:=λk hk=>by omega
 simp[St,LCk,sx,n,x1,x2,a,b,c,d,e,f,i]
theorem GA {a b c e:AV}(ha:a.cells=[a]/\a.isTup=false)(hb:b.cells=[b]/\b.isTup=false)(hc:c.cells=[c]/\c.isTup=false)(he:e.cells=[e]/\e.isTup=false):eW [.nils,.nils,.nils,.nils] [((0,1),a),((1,1),b),((2,1),c),((3,1),e)]=some [a,b,c,e]:=by
 simp[eW,bB,ha.1,ha.2,hb.1,hb.2,hc.1,hc.2,he.1,he.2]
 rfl
theorem Gz {a b c:AV}(ha:a.cells=[a]/\a.isTup=false)(hb:b.cells=[b]/\b.isTup=false)(hc:c.cells=[c]/\c.isTup=false):eW [.nils,.nils,.nils] [((0,1),a),((1,1),b),((2,1),c)]=some [a,b,c]:=by
 simp[eW,bB,ha.1,ha.2,hb.1,hb.2,hc.1,hc.2]
 rfl
def cB (p:Nat×Nat×Int):List AV:=[.int .u8 (p.1:Int),.int .u8 (p.2.1:Int),.int .i64 p.2.2]
theorem tQ {n good:Net}{nb gb raw odd own nt ix:AV}{q:Nat}{ls:List UInt8}{c0 c1:Nat×Nat×Int}{J R:List Sp}{O:List Int}{Q:QT}{t:T}{g:G}(hl:ls.length=8)(hc0:c0.1<256/\c0.2.1<256)(hc1:c1.1<256/\c1.2.1<256)
  (hM:∀h,Agg n NoP 0 h (.agg [.int .i64 n.grain,nb])) (hN:SlR NoP 0 .nil n.nodes nb) (hn:n.nodes.length<=1000002) (hG:SlR NoP 0 .nil good.nodes gb) (hgl:good.nodes.length<=8) (hJ:SlR NoP 0 .nil J own) (hJl:J.length<=15) (hR:SlR NoP 0 .nil R raw) (hRr:DY raw) (hO:SlR NoP 0 .nil O odd) (hOr:Raw odd)
  (k2:g.h.get 2=.cells 8 [ls.map u8v] 0 false false) (k3:g.h.get 3=.cells 6 [cB c0++cB c1] 0 false false) (k4:g.h.get 4=.cells 2 [[.int .i64 good.grain,gb]] 0 false false) (kq:g.h.get q=.cells 2 [[.int .i64 n.grain,nb]] 0 false false)
  (ht:St t ((16,.hptr q 0 0 0)::LCk raw odd own nt ix))
  (fin:∀t,St t ((16,.hptr q 0 0 0)::LCk raw odd own nt ix)->Q .norm t [] g) :
  wp C0 1 none (.seq (.seq (.quiet [oM 38 14,o 39 (.ixa 2 3 (.t 9) (qI 0)),o 40 (.load true 3 (.t 39)),oM 41 14,o 42 (.call N.ac [.t 40,.t 41]),o 43 (.ixa 2 3 (.t 9) (qI 1)),o 44 (.load true 3 (.t 43)),o 45 (.ixa 2 3 (.t 9) (qI 0)),o 46 (.load true 3 (.t 45)),oM 47 14,o 48 (.call N.ac [.t 46,.t 47]),o 49 (.call N.ac [.t 44,.t 48]),oM 50 4,oM 51 4,oN 52 51,o 53 (.mn (.t 52) (qI 20)),o 54 (.slc 3 (.t 50) [] [.t 53]),o 55 (.build [.nils,.nils,.nils,.nils] [(0,1),(1,1),(2,1),(3,1)] [.t 38,.t 42,.t 49,.t 54]),oK 56 0]) (.blk 2 (.loop bz))) cd) Q t [] g:=by
 obtain ⟨h16,h34,h35,h4,h5,h8,h9,h13,h14,-⟩:=ht;have rl:=λg=>hR.len g;obtain ⟨rw',r1,r2⟩:=Hw hR hRr 20;have r1:∀g,mP 3 raw none (some (.int .i64 (min (R.length:Int) 20))) g=.val rw':=r1;obtain ⟨ow',s1,s2⟩:=II hO hOr 10;have s1:∀g,mP 1 odd none (some (.int .i64 (min (O.length:Int) 10))) g=.val ow':=s1;have ol:=λg=>hO.len g;have nl:=λg=>hN.len g;have gl:=λg=>hG.len g;have ld2:=Fc (cs:=ls.map u8v) (by rw[List.length_map,hl]);have i0:De 2 3 (.hptr 3 0 0 0) (.int .i64 0)=.val (.hptr 3 0 0 0):=rfl;have i1:De 2 3 (.hptr 3 0 0 0) (.int .i64 1)=.val (.hptr 3 0 0 3):=rfl;have l0:bm (.cells 6 [cB c0++cB c1] 0 false false) 0 0 true 3 0=.val (.agg (cB c0)):=rfl;have l1:bm (.cells 6 [cB c0++cB c1] 0 false false) 0 0 true 3 3=.val (.agg (cB c1)):=rfl;refine bS (P:=λt' df g'=>df=[]/\g'=g/\St t' ((16,.hptr q 0 0 0)::LCk raw odd own nt ix)) ?_ ?_
 ·refine bS (P:=λt' df g'=>df=[]/\g'=g/\St t' ((16,.hptr q 0 0 0)::LCk raw odd own nt ix)/\tat t' 56=.int .i64 0/\∃(w:Nat->AV) (lss:Nat->List Sp),tat t' 55=.agg [w 0,w 1,w 2,w 3]/\∀i,i<4->SlR NoP 0 .nil (lss i) (w i)/\(lss i).length<=1000) ?_ ?_
  ·simp only[sz,simprocAttr,h9,h14,k3,i0,i1,l0,l1];refine cF (rC (by decide) (hJ.tree (Nat.le_refl 0)) hJl (by omega) hc0.1 hc0.2) λb1 hb1=>?_;obtain ⟨B1,hB1,hb1⟩:=hb1;simp only[sz,simprocAttr,h4,h9,h14,k3,i0,i1,l0,l1];refine cF (rC (by decide) (hJ.tree (Nat.le_refl 0)) hJl (by omega) hc0.1 hc0.2) λb2 hb2=>?_;obtain ⟨B2,hB2,hb2⟩:=hb2;simp only[sz,simprocAttr];refine cF (rC (by decide) ((ie hb2).tree (Nat.le_refl 0)) hB2 (by omega) hc1.1 hc1.2) λb3 hb3=>?_;obtain ⟨B3,hB3,hb3⟩:=hb3;have bld:=GA hJ.cell (ie hb1).cell (ie hb3).cell r2.cell;simp only[sz,simprocAttr,h4,rl,List.head?_nil,List.head?_cons,r1,bld];have hBl:(R.take 20).length<=1000:=by rw[List.length_take];omega
   refine ⟨by simp[St,LCk,sx,h16,h34,h35,h4,h5,h8,h9,h13,h14],λi=>if i=0 then own else if i=1 then b1 else if i=2 then b3 else rw',λi=>if i=0 then J else if i=1 then B1 else if i=2 then B3 else R.take 20,rfl,λi hi=>?_⟩;have:i=0\/i=1\/i=2\/i=3:=by omega
   rcases this with rfl | rfl | rfl | rfl
   ·exact ⟨hJ,by show J.length<=1000;omega⟩
   ·exact ⟨ie hb1,by show B1.length<=1000;omega⟩
   ·exact ⟨ie hb3,by show B3.length<=1000;omega⟩
   ·exact ⟨r2,hBl⟩
  rintro t df g1 ⟨rfl,rfl,ht,h56,w,lss,h55,hw⟩;simp only[sz,simprocAttr];refine CP (X:=(16,.hptr q 0 0 0)::LCk raw odd own nt ix) (q:=q) (w:=w) (ls:=lss) I4 hM hw kq ht ht.1 h55 h56 λt ht _=>?_;simp only[sz,simprocAttr];exact ht
 rintro t df g1 ⟨rfl,rfl,ht⟩;have ht0:=ht;obtain ⟨h16,h34,h35,h4,h5,h8,h9,h13,h14,-⟩:=ht0;unfold cd;refine bS (P:=λt' df g'=>df=[]/\g'=g1/\St t' ((16,.hptr q 0 0 0)::LCk raw odd own nt ix)/\tat t' 83=.int .i64 0/\∃(w:Nat->AV) (oss:Nat->List Int),tat t' 82=.agg [w 0,w 1,w 2]/\∀i,i<3->SlR NoP 0 .nil (oss i) (w i)) ?_ ?_
 ·simp only[sz,simprocAttr,h5,h8,h13,h16,k2,k4,kq,gl,nl,ld2];refine cF (uR (by decide) hl (by omega)) λt1 ht1=>?_;obtain ⟨T1,-,ht1⟩:=ht1;simp only[sz,simprocAttr,h5,h8,h13,h16,k2,k4,kq,gl,nl,ld2];refine cF (uR (by decide) hl hn) λt2 ht2=>?_;obtain ⟨T2,-,ht2⟩:=ht2;have bld:=Gz (ie ht1).cell (ie ht2).cell s2.cell;simp only[sz,simprocAttr,h5,ol,List.head?_nil,List.head?_cons,s1,bld];refine ⟨by simp[St,LCk,sx,h16,h34,h35,h4,h5,h8,h9,h13,h14],λi=>if i=0 then t1 else if i=1 then t2 else ow',λi=>if i=0 then T1 else if i=1 then T2 else O.take 10,rfl,λi hi=>?_⟩;have:i=0\/i=1\/i=2:=by omega
  rcases this with rfl | rfl | rfl
  ·exact ie ht1
  ·exact ie ht2
  ·exact s2
 rintro t df g2 ⟨rfl,rfl,ht,h83,w,oss,h82,hw⟩;simp only[sz,simprocAttr];refine CQ (X:=(16,.hptr q 0 0 0)::LCk raw odd own nt ix) (q:=q) (w:=w) (os:=oss) I5 hM hN hw kq ht ht.1 h82 h83 λt ht=>?_;simp only[sz,simprocAttr];exact fin t ht
theorem Jx (a b c e:AV)(j:Nat)(hj:j<2):ixV true 2 2 (.agg [a,b,c,e]) (.int .i64 (j:Int))=.val (.agg (if j=0 then [a,b] else [c,e])):=by
 have:j=0\/j=1:=by omega
 rcases this with rfl | rfl<;>rfl
theorem AB (a b c d e f:AV):ch 0 [a,b,c,d,e,f] .nil=eG (eG (eG (eG (eG (eG .nil 0 a) 1 b) 2 c) 3 d) 4 e) 5 f:=rfl
set_option maxRecDepth 20000 in
theorem nG {x:pN}{y:i4}{xs ys:List AV}{ls:List UInt8}{c0 c1:Nat×Nat×Int}{R:List Sp}{O:List Int}{raw odd:AV}(hx:Rp.rp NoP 0 .nil x xs)(hy:Rp.rp NoP 0 .nil y ys)(hl:ls.length=8)(hc0:c0.1<256/\c0.2.1<256)(hc1:c1.1<256/\c1.2.1<256)
  (hR:SlR NoP 0 .nil R raw) (hRr:DY raw) (hO:SlR NoP 0 .nil O odd) (hOr:Raw odd) :
  ∃g',(I C0).call 1 N.bc [.agg xs,.agg ys,.agg (ls.map u8v),.agg (cB c0++cB c1),raw,odd] G.empty=.ok (.bool true) g':=by
 obtain ⟨a1',a2',e1,-⟩:=rQ.1 hx;have hxl:xs.length=3:=by rw[e1];rfl
 have hyl:ys.length=4:=by rw[uF.1 hy];rfl
 clear e1 a1' a2';have key:=oY (C:=C0) (d:=1) (f:=N.bc) («as»:=[.agg xs,.agg ys,.agg (ls.map u8v),.agg (cB c0++cB c1),raw,odd]) (g:=G.empty) (K:=λv g'=>v=.bool true) kZ (by simp[cY]) ?_
 ·cases hc':(I C0).call 1 N.bc [.agg xs,.agg ys,.agg (ls.map u8v),.agg (cB c0++cB c1),raw,odd] G.empty with
  | fail=>rw[hc'] at key;exact key.elim
  | ok v g'=>rw[hc'] at key;exact ⟨g',by rw[show v=.bool true from key]⟩
 have hll:(ls.map u8v).length=8:=by rw[List.length_map,hl]
 simp only[sz,simprocAttr,cY,AB];obtain ⟨g0,hg0⟩:∃g0,g0=(((G.empty.new (AObj.cells xs.length [xs] 0 false false)).new (.cells ys.length [ys] 0 false false)).new (.cells (ls.map u8v).length [ls.map u8v] 0 false false)).new (.cells (cB c0++cB c1).length [cB c0++cB c1] 0 false false):=⟨_,rfl⟩;rw[<-hg0];have f0:g0.h.get 0=.cells 3 [xs] 0 false false:=by rw[hg0,hxl];simp[sx,H.get_put]
 have f1:g0.h.get 1=.cells 4 [ys] 0 false false:=by rw[hg0,hyl];simp[sx,H.get_put]
 have f2:g0.h.get 2=.cells 8 [ls.map u8v] 0 false false:=by rw[hg0,hll];simp[sx,H.get_put]
 have f3:g0.h.get 3=.cells 6 [cB c0++cB c1] 0 false false:=by rw[hg0];simp[sx,H.get_put,cB]
 have f4:g0.nx=4:=by rw[hg0];simp[sx]
 clear hg0;have ld0:bm (.cells 3 [xs] 0 false false) 0 0 true 3 0=.val (.agg xs):=by
  match xs,hxl with
  | [a,b,c],_=>rfl
 have ld1:bm (.cells 4 [ys] 0 false false) 0 0 true 4 0=.val (.agg ys):=by
  match ys,hyl with
  | [a,b,c,d],_=>rfl
 have ld2:=Fc hll;simp only[eK];refine bS (P:=λt' df g'=>df=[]/\g'=g0/\St t' [(4,raw),(5,odd),(6,.hptr 0 0 0 0),(7,.hptr 1 0 0 0),(8,.hptr 2 0 0 0),(9,.hptr 3 0 0 0)]) ?_ ?_
 ·simp only[sz,simprocAttr,x9];simp[St,sx]
 rintro t df g1 ⟨rfl,rfl,h4,h5,h6,h7,h8,h9,-⟩;obtain ⟨rn,en,good,hdr,cn,rfl,hcn⟩:=By (g:=g1) (d:=1) (by decide) (j_ (P:=NoP) hx g1.h);obtain ⟨gb,rfl,hNg⟩:=eU.1 hcn;have hG:SlR NoP 0 .nil good.nodes gb:=hNg;have lb:=λg=>hG.len g;have hgr:=hdr.nr;have n8:=hgr.l2;have n1:=hgr.l1;refine bT (P:=λt' df g'=>df=[]/\St t' [(4,raw),(5,odd),(6,.hptr 0 0 0 0),(7,.hptr 1 0 0 0),(8,.hptr 2 0 0 0),(9,.hptr 3 0 0 0),(13,.hptr 4 0 0 0)]/\g'.nx=5/\g'.h.get 0=.cells 3 [xs] 0 false false/\g'.h.get 1=.cells 4 [ys] 0 false false/\g'.h.get 2=.cells 8 [ls.map u8v] 0 false false/\g'.h.get 3=.cells 6 [cB c0++cB c1] 0 false false/\g'.h.get 4=.cells 2 [[.int .i64 good.grain,gb]] 0 false false) ?_ ?_
 ·simp only[sz,simprocAttr,h6,f0,ld0,en];simp[St,sx,h4,h5,h6,h7,h8,h9,f0,f1,f2,f3,f4]
 clear f0 f1 f2 f3 f4 h4 h5 h6 h7 h8 h9 en;rintro t df g2 ⟨rfl,⟨h4,h5,h6,h7,h8,h9,h13,-⟩,kn,k0,k1,k2,k3,k4⟩;refine bT (P:=λt' df g'=>df=[]/\g'=g2/\∃(J:List Sp) (own:AV),J.length<=15/\SlR NoP 0 .nil J own/\St t' [(4,raw),(5,odd),(6,.hptr 0 0 0 0),(7,.hptr 1 0 0 0),(8,.hptr 2 0 0 0),(9,.hptr 3 0 0 0),(13,.hptr 4 0 0 0),(14,own)]) ?_ ?_
 ·simp only[sz,simprocAttr,h8,h13,k2,k4,ld2,lb];refine cF (Dg (by decide) hl n1 n8) λr hr1=>?_;obtain ⟨J,hJ,hr1⟩:=hr1;simp only[sz,simprocAttr];exact ⟨J,r,hJ,ie hr1,by simp[St,sx,h4,h5,h6,h7,h8,h9,h13]⟩
 clear h4 h5 h6 h7 h8 h9 h13;rintro t df g3 ⟨rfl,rfl,J,own,hJl,hJ,h4,h5,h6,h7,h8,h9,h13,h14,-⟩;simp only[sz,simprocAttr,h6,h7,k0,k1,ld0,ld1];refine cF (G_ (by decide) hx hy) λr hr=>?_;obtain ⟨⟨na,nb⟩,⟨hda,hnb⟩,cs,rfl,hcs⟩:=hr;obtain ⟨ca,cb',rfl,hca,hcb⟩:=pj.1 hcs;dsimp only at hda hnb hca hcb;have hMa:∀h,Agg na NoP 0 h (.agg ca):=λh=>j_ hca h;have hMb:∀h,Agg nb NoP 0 h (.agg cb'):=λh=>j_ hcb h;obtain ⟨wa,rfl,hNa⟩:=eU.1 hca;obtain ⟨wb,rfl,hNb⟩:=eU.1 hcb;have han:=hda.nr.l2;simp only[sz,simprocAttr,dO,dQ,List.cons_append,List.nil_append];refine oR (m:=2) rfl (by decide) (λj t df g=>df=[]/\St t [(4,raw),(5,odd),(8,.hptr 2 0 0 0),(9,.hptr 3 0 0 0),(13,.hptr 4 0 0 0),(14,own)]/\tat t 34=.agg [.int .i64 na.grain,wa,.int .i64 nb.grain,wb]/\5<=g.nx/\g.h.get 2=.cells 8 [ls.map u8v] 0 false false/\g.h.get 3=.cells 6 [cB c0++cB c1] 0 false false/\g.h.get 4=.cells 2 [[.int .i64 good.grain,gb]] 0 false false)
  ⟨rfl,by simp[St,LCk,sx,h4,h5,h8,h9,h13,h14],by simp[sx],by omega,k2,k3,k4⟩ (by simp[sx]) (by decide) (by rintro j t df g v s (rfl | rfl | rfl)<;>simp[sx,St,LCk]) ?_ ?_
 ·clear h4 h5 h6 h7 h8 h9 h13 h14 kn k0 k1 k2 k3 k4;rintro j t df g hj ⟨rfl,⟨h4,h5,h8,h9,h13,h14,-⟩,h34,hnx,k2,k3,k4⟩ h35;have ix:=Jx (.int .i64 na.grain) wa (.int .i64 nb.grain) wb j hj;have hj2:j=0\/j=1:=by omega
  rcases hj2 with rfl | rfl
  ·have ix:ixV true 2 2 (.agg [.int .i64 na.grain,wa,.int .i64 nb.grain,wb]) (.int .i64 0)=.val (.agg [.int .i64 na.grain,wa]):=ix;refine bT (P:=λt' df g'=>df=[]/\St t' ((16,.hptr g.nx 0 0 0)::LCk raw odd own (.agg [.int .i64 na.grain,wa,.int .i64 nb.grain,wb]) (.int .i64 ((0:Nat):Int)))/\5<=g'.nx/\g'.h.get 2=.cells 8 [ls.map u8v] 0 false false/\g'.h.get 3=.cells 6 [cB c0++cB c1] 0 false false/\g'.h.get 4=.cells 2 [[.int .i64 good.grain,gb]] 0 false false/\g'.h.get g.nx=.cells 2 [[.int .i64 na.grain,wa]] 0 false false) ?_ ?_
   ·simp only[sz,simprocAttr,h34,h35,ix];have q2:¬2=g.nx:=by omega
    have q3:¬3=g.nx:=by omega
    have q4:¬4=g.nx:=by omega
    simp[St,LCk,sx,H.get_put,h4,h5,h8,h9,h13,h14,h34,h35,q2,q3,q4,k2,k3,k4]
    try omega
   rintro t df g1 ⟨rfl,ht,hnx1,k2,k3,k4,kq⟩;refine tQ (n:=na) (good:=good) (nb:=wa) (gb:=gb) (q:=g.nx) (J:=J) (R:=R) (O:=O) hl hc0 hc1 hMa hNa (by omega) hG n8 hJ hJl hR hRr hO hOr k2 k3 k4 kq ht λt ht=>?_;obtain ⟨-,h34,h35,h4,h5,h8,h9,h13,h14,-⟩:=ht;exact ⟨⟨rfl,by simp[St,h4,h5,h8,h9,h13,h14],h34,hnx1,k2,k3,k4⟩,h35⟩
  ·have ix:ixV true 2 2 (.agg [.int .i64 na.grain,wa,.int .i64 nb.grain,wb]) (.int .i64 1)=.val (.agg [.int .i64 nb.grain,wb]):=ix;refine bT (P:=λt' df g'=>df=[]/\St t' ((16,.hptr g.nx 0 0 0)::LCk raw odd own (.agg [.int .i64 na.grain,wa,.int .i64 nb.grain,wb]) (.int .i64 ((1:Nat):Int)))/\5<=g'.nx/\g'.h.get 2=.cells 8 [ls.map u8v] 0 false false/\g'.h.get 3=.cells 6 [cB c0++cB c1] 0 false false/\g'.h.get 4=.cells 2 [[.int .i64 good.grain,gb]] 0 false false/\g'.h.get g.nx=.cells 2 [[.int .i64 nb.grain,wb]] 0 false false) ?_ ?_
   ·simp only[sz,simprocAttr,h34,h35,ix];have q2:¬2=g.nx:=by omega
    have q3:¬3=g.nx:=by omega
    have q4:¬4=g.nx:=by omega
    simp[St,LCk,sx,H.get_put,h4,h5,h8,h9,h13,h14,h34,h35,q2,q3,q4,k2,k3,k4]
    try omega
   rintro t df g1 ⟨rfl,ht,hnx1,k2,k3,k4,kq⟩;refine tQ (n:=nb) (good:=good) (nb:=wb) (gb:=gb) (q:=g.nx) (J:=J) (R:=R) (O:=O) hl hc0 hc1 hMb hNb hnb hG n8 hJ hJl hR hRr hO hOr k2 k3 k4 kq ht λt ht=>?_;obtain ⟨-,h34,h35,h4,h5,h8,h9,h13,h14,-⟩:=ht;exact ⟨⟨rfl,by simp[St,h4,h5,h8,h9,h13,h14],h34,hnx1,k2,k3,k4⟩,h35⟩
 ·rintro t df g ⟨rfl,-⟩;simp only[sz,simprocAttr,dR]
end
end Hx
end
section
namespace Hx
open Go Go.RowKit Go.ChangeShapes Go.WideShapes
def pS (P:Program):List Field->Nat->Option Nat
 | [],k=>some k
 | f::fs,k=>if f.offset=k then pS P fs (k+P.cellsOf f.type) else none
def mN (P:Program):Nat->TypeId->Bool
 | 0,_=>false
 | n+1,t=>match P.underlying t with
  | some .bool=>true
  | some (.int _)=>true
  | some (.slice e)=>decide (0<P.cellsOf e)&&mN P n e
  | some (.struct fs)=>(pS P fs.toList 0 == some (P.cellsOf t))&&fs.toList.all (λf=>mN P n f.type)
  | some (.array m e)=>decide (m*P.cellsOf e=P.cellsOf t)&&mN P n e
  | _=>false
def Sh (P:Program):Nat->TypeId->List AV->Prop
 | 0,_,_=>False
 | n+1,t,xs=>match P.underlying t with
  | some .bool=>∃b,xs=[.bool b]
  | some (.int k)=>∃z,xs=[.int k z]/\(Lit.int k z).wf=true
  | some (.slice e)=>xs=[.nils]\/∃rows,xs=[.tsl 0 (P.cellsOf e) rows]/\rows.length<9223372036854775808/\∀row∈rows,Sh P n e row
  | some (.struct fs)=>∃xss,xs=xss.flatten/\All2 (λ(f:Field) ys=>Sh P n f.type ys) fs.toList xss
  | some (.array m e)=>∃xss:List (List AV),xs=xss.flatten/\xss.length=m/\∀ys∈xss,Sh P n e ys
  | _=>False
def yc (P:Program)(w:World)(n:Nat)(t:TypeId)(xs:List AV)(cs:List Value):Prop :=
 RVs0 w xs cs/\(∀y∈xs,y.one=true/\Closed y)/\Sh P n t xs
theorem RVs0.append {w:World}{xs ys:List AV}{cs ds:List Value}(h:RVs0 w xs cs)(h':RVs0 w ys ds):RVs0 w (xs++ys) (cs++ds):=by
 refine ⟨by rw[List.length_append,List.length_append,h.1,h'.1],λi x v hx hv=>?_⟩;rcases Nat.lt_or_ge i xs.length with hi | hi
 ·rw[List.getElem?_append_left hi] at hx;rw[List.getElem?_append_left (by rw[<-h.1];exact hi)] at hv;exact h.2 i x v hx hv
 ·rw[List.getElem?_append_right hi] at hx;rw[List.getElem?_append_right (by rw[<-h.1];exact hi),<-h.1] at hv;exact h'.2 _ x v hx hv
theorem A9 (b o n:Nat):(⟨b,o,none⟩:Addr).add n=adr b (o+n):=by
 unfold Addr.add
 split
 ·rename_i h;subst h;rfl
 ·rfl
variable {H:Type}{enc:TypeId×Value->H}{P:Program}{w:World}
theorem v_:∀{fl:List Field} {k K:Nat},pS P fl k=some K->k<=K
 | [],k,K,h=>by injection h with h;omega
 | f::fl,k,K,h=>by
  unfold pS at h
  split at h
  ·have:=v_ h;omega
  ·cases h
theorem FI {n:Nat}{cs:List Value}:∀{fl:List Field} {k K:Nat},pS P fl k=some K ->
  (∀f∈fl,∃xs,yc P w n f.type xs ((cs.drop f.offset).take (P.cellsOf f.type))) ->
  ∃xss,All2 (λ(f:Field) ys=>Sh P n f.type ys) fl xss/\RVs0 w xss.flatten ((cs.drop k).take (K - k))/\∀y∈xss.flatten,y.one=true/\Closed y
 | [],k,K,h,_=>by injection h with h;subst h;exact ⟨[],trivial,by rw[Nat.sub_self,List.take_zero];exact ⟨rfl,λi x v hx=>by simp at hx⟩,λy hy=>by simp at hy⟩
 | f::fl,k,K,h,hg=>by
  unfold pS at h
  split at h
  ·rename_i ho;subst ho;obtain ⟨xs,h1,h2,h3⟩:=hg f (by simp);obtain ⟨xss,a1,a2,a3⟩:=FI h λf' hf'=>hg f' (by simp[hf']);have hle:=v_ h;refine ⟨xs::xss,⟨h3,a1⟩,?_,λy hy=>?_⟩
   ·have e:(cs.drop f.offset).take (K - f.offset)=(cs.drop f.offset).take (P.cellsOf f.type)++(cs.drop (f.offset+P.cellsOf f.type)).take (K - (f.offset+P.cellsOf f.type)):=by rw[show K - f.offset=P.cellsOf f.type+(K - (f.offset+P.cellsOf f.type)) by omega,List.take_add,List.drop_drop]
    rw[e,List.flatten_cons];exact h1.append a2
   ·rw[List.flatten_cons,List.mem_append] at hy;rcases hy with hy | hy
    ·exact h2 y hy
    ·exact a3 y hy
  ·cases h
theorem A_ {n:Nat}{e:TypeId}{cs:List Value}:∀{m k:Nat},
  (∀i,i<m->∃xs,yc P w n e xs ((cs.drop ((k+i)*P.cellsOf e)).take (P.cellsOf e))) ->
  ∃xss:List (List AV),xss.length=m/\(∀ys∈xss,Sh P n e ys)/\RVs0 w xss.flatten ((cs.drop (k*P.cellsOf e)).take (m*P.cellsOf e))/\∀y∈xss.flatten,y.one=true/\Closed y
 | 0,k,_=>⟨[],rfl,λy hy=>by simp at hy,by rw[Nat.zero_mul,List.take_zero];exact ⟨rfl,λi x v hx=>by simp at hx⟩,λy hy=>by simp at hy⟩
 | m+1,k,hg=>by
  obtain ⟨xs,h1,h2,h3⟩:=hg 0 (by omega);rw[Nat.add_zero] at h1;obtain ⟨xss,a0,a1,a2,a3⟩:=A_ (m:=m) (k:=k+1) λi hi=>by have:=hg (i+1) (by omega);rwa [show k+(i+1)=k+1+i by omega] at this
  refine ⟨xs::xss,by simp[a0],λys hy=>?_,?_,λy hy=>?_⟩
  ·rcases List.mem_cons.1 hy with rfl | hy
   ·exact h3
   ·exact a1 ys hy
  ·have e:(cs.drop (k*P.cellsOf e)).take ((m+1)*P.cellsOf e)=(cs.drop (k*P.cellsOf e)).take (P.cellsOf e)++(cs.drop ((k+1)*P.cellsOf e)).take (m*P.cellsOf e):=by rw[show (m+1)*P.cellsOf e=P.cellsOf e+m*P.cellsOf e by rw[Nat.add_mul];omega,List.take_add,List.drop_drop,Nat.add_mul,Nat.one_mul]
   rw[e,List.flatten_cons];exact h1.append a2
  ·rw[List.flatten_cons,List.mem_append] at hy;rcases hy with hy | hy
   ·exact h2 y hy
   ·exact a3 y hy
theorem ub:∀(n:Nat) (t:TypeId),mN P n t=true->∀(fuel:Nat) (cs:List Value) (x:DataW H×List MemPlace),DataW.trod enc P w 0 (λ_=>true) true fuel t cs=some x->∃xs,yc P w n t xs cs:=by
 intro n
 induction n with
 | zero=>intro t h;simp[mN] at h
 | succ n ih =>
  intro t h fuel cs x hx;unfold mN at h
  split at h
  ·rename_i hu;obtain ⟨b,rfl,-⟩:=DataW.trod_bool hu hx;refine ⟨[.bool b],⟨rfl,λi x v h1 h2=>?_⟩,λy hy=>?_,?_⟩
   ·cases i with
    | zero=>simp at h1 h2;subst h1;subst h2;exact .bool _ _
    | succ i=>simp at h1
   ·simp at hy;subst hy;exact ⟨rfl,.bool _⟩
   ·unfold Sh;rw[hu];exact ⟨b,rfl⟩
  ·rename_i k hu;obtain ⟨z,rfl,-,hwf⟩:=DataW.trod_int hu hx;refine ⟨[.int k z],⟨rfl,λi x v h1 h2=>?_⟩,λy hy=>?_,?_⟩
   ·cases i with
    | zero=>simp at h1 h2;subst h1;subst h2;exact .int _ _ _
    | succ i=>simp at h1
   ·simp at hy;subst hy;exact ⟨rfl,.int _ _⟩
   ·unfold Sh;rw[hu];exact ⟨z,rfl,hwf⟩
  ·rename_i e hu;rw[Bool.and_eq_true,decide_eq_true_eq] at h;obtain ⟨hpos,hp⟩:=h;rcases DataW.trod_slice hu hx with ⟨rfl,-⟩ | ⟨a,len,cap,elems,rest,m,-,rfl,-,-,hlc,hcm,hlen,hel,-,-⟩
   ·refine ⟨[.nils],⟨rfl,λi x v h1 h2=>?_⟩,λy hy=>?_,?_⟩
    ·cases i with
     | zero=>simp at h1 h2;subst h1;subst h2;exact .nils _
     | succ i=>simp at h1
    ·simp at hy;subst hy;exact ⟨rfl,.nils⟩
    ·unfold Sh;rw[hu];exact .inl rfl
   ·have each:∀i,i<len->∃xs vs,w.cells? 0 (a.add (i*P.cellsOf e)) (P.cellsOf e)=some vs/\yc P w n e xs vs:=by intro i hi;have:=hel i hi;rw[List.getElem?_eq_getElem (show i<elems.length by omega),Option.bind_eq_some_iff] at this;obtain ⟨vs,h1,h2⟩:=this;obtain ⟨xs,hg⟩:=ih e hp _ _ _ h2;exact ⟨xs,vs,h1,hg⟩
    let rowf:Nat->List AV:=λi=>if hi:i<len then Classical.choose (each i hi) else []
    let valf:Nat->List Value:=λi=>if hi:i<len then Classical.choose (Classical.choose_spec (each i hi)) else []
    have hrow:∀i,i<len->w.cells? 0 (a.add (i*P.cellsOf e)) (P.cellsOf e)=some (valf i)/\yc P w n e (rowf i) (valf i):=by intro i hi;have:=Classical.choose_spec (Classical.choose_spec (each i hi));simpa only[rowf,valf,dif_pos hi] using this
    have hget:∀(i:Nat) (row:List AV),((List.range len).map rowf)[i]?=some row->i<len/\row=rowf i:=by
     intro i row h1;rw[List.getElem?_map] at h1;rcases Nat.lt_or_ge i len with hi | hi
     ·rw[List.getElem?_range hi] at h1;injection h1 with h1;exact ⟨hi,h1.symm⟩
     ·rw[List.getElem?_eq_none (by simpa using hi)] at h1;cases h1
    refine ⟨[.tsl 0 (P.cellsOf e) ((List.range len).map rowf)],⟨rfl,λi x v h1 h2=>?_⟩,λy hy=>?_,?_⟩
    ·cases i with
     | succ i=>simp at h1
     | zero =>
      simp at h1 h2;subst h1;subst h2;rcases Nat.eq_zero_or_pos len with h0 | h0
      ·subst h0;exact .tnil 0 0 _ a cap (Nat.le_refl _)
      ·obtain ⟨b,o,spot⟩:=a;have hc0:=World.cells?_some (hrow 0 h0).1;have hv0:(valf 0)[0]?=some (valf 0)[0]:=List.getElem?_eq_getElem (by rw[hc0.2.1];exact hpos);have h00:=hc0.2.2 0 hpos;rw[hv0] at h00;have hspot:spot=none:=by simpa [Addr.add] using World.cell?_spot h00
       subst hspot;have cellat:∀i j row x,((List.range len).map rowf)[i]?=some row->row[j]?=some x->∃v,(valf i)[j]?=some v/\w.cell? (adr b (o+i*P.cellsOf e+j))=some v/\RV w gm0 av0 0 x v:=by
        intro i j row x hr hxj;obtain ⟨hi,rfl⟩:=hget i row hr;obtain ⟨q1,q2⟩:=hrow i hi;have hj:j<(rowf i).length:=(List.getElem?_eq_some_iff.1 hxj).1;have hj':j<(valf i).length:=by rw[<-q2.1.1];exact hj
        have hcs:=World.cells?_some q1;have hcell:=hcs.2.2 j (by rw[<-hcs.2.1];exact hj');rw[List.getElem?_eq_getElem hj'] at hcell;refine ⟨_,List.getElem?_eq_getElem hj',?_,q2.1.2 j x _ hxj (List.getElem?_eq_getElem hj')⟩;rw[A9,show adr b (o+i*P.cellsOf e)=(⟨b,o+i*P.cellsOf e,none⟩:Addr) from rfl,A9] at hcell;exact hcell
       have hb:b<w.heap.size:=by have:=Aw h00;simpa [Addr.add] using this
       have hrl:((List.range len).map rowf).length=len:=by simp
       have key:=RV.tsl (w:=w) (γ:=gm0) (A:=av0) 0 0 (P.cellsOf e) ((List.range len).map rowf) b o cap (λi j=>(valf i)[j]?.getD undef) (Nat.le_refl _) (by rw[hrl];exact hlc) hb (Je b) (λh=>h)
        (λi row hr=>by
         obtain ⟨hi,rfl⟩:=hget i row hr;obtain ⟨q1,q2⟩:=hrow i hi;rw[q2.1.1,(World.cells?_some q1).2.1])
        (λi j row x hr hxj=>by
         obtain ⟨hi,rfl⟩:=hget i row hr;exact ((hrow i hi).2.2.1 x (List.mem_of_getElem? hxj)).1)
        (λi j row x hr hxj=>by
         obtain ⟨v,v1,v2,v3⟩:=cellat i j row x hr hxj;rw[v2,v1];rfl)
        (λi j row x hr hxj=>by
         obtain ⟨v,v1,v2,v3⟩:=cellat i j row x hr hxj;rw[v1];exact v3)
        (λrow hr x hx=>by
         obtain ⟨i,hi⟩:=List.getElem?_of_mem hr;obtain ⟨hi2,rfl⟩:=hget i row hi;exact ((hrow i hi2).2.2.1 x hx).2)
       rw[hrl] at key;exact key
    ·simp only[List.mem_singleton] at hy;subst hy;refine ⟨rfl,.tsl _ _ _ λrow hr x hx=>?_⟩;obtain ⟨i,hi⟩:=List.getElem?_of_mem hr;obtain ⟨hi2,rfl⟩:=hget i row hi;exact ((hrow i hi2).2.2.1 x hx).2
    ·unfold Sh;rw[hu];refine .inr ⟨_,rfl,?_,λrow hr=>?_⟩
     ·rw[List.length_map,List.length_range];have:maxLen<9223372036854775808:=by decide
      omega
     ·obtain ⟨i,hi⟩:=List.getElem?_of_mem hr;obtain ⟨hi2,rfl⟩:=hget i row hi;exact (hrow i hi2).2.2.2
  ·rename_i fs hu;rw[Bool.and_eq_true] at h;obtain ⟨hc,hp⟩:=h;have hc:pS P fs.toList 0=some (P.cellsOf t):=eq_of_beq hc;obtain ⟨ys,m,-,-,hl,hyl,hel⟩:=DataW.trod_struct hu hx;obtain ⟨xss,a1,a2,a3⟩:=FI (w:=w) (n:=n) (cs:=cs) hc λf hf=>by
    obtain ⟨i,hi,e⟩:=List.mem_iff_getElem.1 hf;have hfi:fs[i]?=some f:=by rw[<-Array.getElem?_toList,List.getElem?_eq_getElem hi,e]
    have:=hel i f hfi;rw[List.getElem?_eq_getElem (show i<ys.length by rw[hyl];simpa using hi)] at this;exact ih f.type (List.all_eq_true.1 hp f hf) _ _ _ this
   rw[List.drop_zero,Nat.sub_zero,<-hl,List.take_length] at a2;refine ⟨xss.flatten,a2,a3,?_⟩;unfold Sh;rw[hu];exact ⟨xss,rfl,a1⟩
  ·rename_i m e hu;rw[Bool.and_eq_true,decide_eq_true_eq] at h;obtain ⟨hc,hp⟩:=h;obtain ⟨ys,q,-,-,hl,hyl,hel⟩:=DataW.trod_array hu hx;obtain ⟨xss,a0,a1,a2,a3⟩:=A_ (w:=w) (n:=n) (e:=e) (cs:=cs) (m:=m) (k:=0) λi hi=>by have:=hel i hi;rw[List.getElem?_eq_getElem (show i<ys.length by omega)] at this;rw[Nat.zero_add];exact ih e hp _ _ _ this
   rw[Nat.zero_mul,List.drop_zero,hc,<-hl,List.take_length] at a2;refine ⟨xss.flatten,a2,a3,?_⟩;unfold Sh;rw[hu];exact ⟨xss,rfl,a0,a1⟩
  ·cases h
theorem rS {n:Nat}{t:TypeId}{xs:List AV}(hu:P.underlying t=some (.int .i64))(h:Sh P n t xs):∃x:Int,Rp.rp NoP 0 .nil x xs:=by
 cases n with
 | zero=>exact h.elim
 | succ n =>
  unfold Sh at h;rw[hu] at h;obtain ⟨z,rfl,-⟩:=h;exact ⟨z,bj.2 rfl⟩
theorem gQ {n:Nat}{t:TypeId}{xs:List AV}(hu:P.underlying t=some (.int .u8))(h:Sh P n t xs):∃x:UInt8,Rp.rp NoP 0 .nil x xs:=by
 cases n with
 | zero=>exact h.elim
 | succ n =>
  unfold Sh at h;rw[hu] at h;obtain ⟨z,rfl,hw⟩:=h;simp only[Lit.wf,IntKind.min,IntKind.max,IntKind.signed,IntKind.bits,Bool.and_eq_true] at hw;refine ⟨UInt8.ofNat z.toNat,dc.2 ?_⟩;have h1:0<=z:=by simpa using hw.1
  have h2:z<=255:=by simpa using hw.2
  have h3:(UInt8.ofNat z.toNat).toNat=z.toNat:=UInt8.toNat_ofNat_of_lt' (by show z.toNat<256;omega);rw[h3,Int.toNat_of_nonneg h1]
theorem rg {α:Type} [Rp α]{n:Nat}{t e:TypeId}{xs:List AV}(hu:P.underlying t=some (.slice e))(hsz:P.cellsOf e=Rp.sz α)(hel:∀ys,Sh P n e ys->∃y:α,Rp.rp NoP 0 .nil y ys)(h:Sh P (n+1) t xs) :
  ∃l:List α,Rp.rp NoP 0 .nil l xs:=by
 unfold Sh at h;rw[hu] at h;rcases h with rfl | ⟨rows,rfl,hl,hr⟩
 ·exact ⟨[],.nils,rfl,by simp,rfl⟩
 ·have:∀rows:List (List AV),(∀row∈rows,Sh P n e row)->∃l:List α,All2 (Rp.rp NoP 0 .nil) l rows:=by
   intro rows
   induction rows with
   | nil=>intro _;exact ⟨[],trivial⟩
   | cons r rows ih =>
    intro h;obtain ⟨y,hy⟩:=hel r (h r (by simp));obtain ⟨l,hl⟩:=ih λrow hrow=>h row (by simp[hrow]);exact ⟨y::l,hy,hl⟩
  obtain ⟨l,ha⟩:=this rows hr;exact ⟨l,_,rfl,by rw[ha.len];exact hl,Nat.le_refl _,.inl hsz,ha⟩
theorem zH {n m:Nat}{t e:TypeId}{xs:List AV}(hu:P.underlying t=some (.array m e))(h:Sh P (n+1) t xs):∃xss:List (List AV),xs=xss.flatten/\xss.length=m/\∀ys∈xss,Sh P n e ys:=by unfold Sh at h;rw[hu] at h;exact h
theorem mh {n:Nat}{t:TypeId}{fs:Array Field}{xs:List AV}(hu:P.underlying t=some (.struct fs))(h:Sh P (n+1) t xs):∃xss,xs=xss.flatten/\All2 (λ(f:Field) ys=>Sh P n f.type ys) fs.toList xss:=by unfold Sh at h;rw[hu] at h;exact h
end Hx
end
