/- A part of the proof: what the functions of the chapter compute. -/
import Derived.Test.YtikpmbiklokdiaaGreatHx10
set_option linter.all false
set_option maxRecDepth 20000
set_option maxHeartbeats 8000000
namespace Hx
open Go
noncomputable section
variable {g g0 g':G}{d b k i a m nt y ty kk dfr j ky:Nat}{e l vals vs:List Int}{n:Net}{t:T}{v w fl S_ u:AV}{P:Nat->Prop}{h:H}{K:AV->G->Prop}{Q:QT}{C:Cfg}{gr x:Int}{D:ADf->Prop}{df:List ADf}{rd:Option Nat}{V:Ky->AV}{E:Ky->En}{assign body:Code}
theorem IS{α:Type}{l:List α}{x y:α}(h1:l[i]?=some x)(h2:l[i]?=some y):x=y:=by rw[h1]at h2;injection h2
structure WtI (y:QnM) (b fl S_ wv va ca wa:AV) (gr wt:Int) (p:Int) (cards pv:List Int) (m k fb i:Nat) (t:T) (g:G):Prop where
 st:St t [(1,wv),(2,X9 0),(12,fl),(13,X8 (m:Int)),(14,X8 (k:Int)),(5,X8 wt),(6,X8 (k:Int)),(7,X9 fb),(20,va),(8,X8 (p - S.SA (cards.drop i) (pv.drop i)))]
 h0:g.h.get 0=Xs 4 [[X8 gr,b,fl,S_]]
 hf:g.h.get fb=Xs 3 [[va,ca,wa]]
 nn:0<=p - S.SA (cards.drop i) (pv.drop i)
 nx:1<=g.nx
theorem Lw[XOc]{fb kv kz:Nat}{y:QnM}{b wv va ca wa:AV}{wt p:Int}{f:Factor}{R:List Int}{mm:Nat}(hva:SlR NoP kv .nil f.vars va)(hF:FOk mm f)(hR:S.TP mm f 0 R)(hvl:vals.length=mm)
  (hS:∃(srows:List (List AV)) (z:AV),(∀h,ah h 1 S_=some srows)/\srows[k]?=some [z]/\k<srows.length/\SlR NoP kz .nil R z) (rv:∀h,ah h 1 wv=some (vals.map ci)) (hp:p=S.SA f.cards (S.Sy vals f.vars)) (hin:InC f.cards (S.Sy vals f.vars)) (hpb:p<=10000000)
  (h0:WtI y b fl S_ wv va ca wa gr wt p f.cards (S.Sy vals f.vars) m k fb 0 t g) (h22:tat t 22=X8 0) (h21:tat t 21=X8 (f.vars.length:Int))
  (fin:∀t g,WtI y b fl S_ wv va ca wa gr wt p f.cards (S.Sy vals f.vars) m k fb f.vars.length t g->Q (.exit 2) t [] g):wpL (wp C0 d none dm) Q t [] g:=by
 obtain⟨srows,z,s1,s2,s3,hz⟩:=hS;have rva:=λh=>(hva.tree (h':=h) (Ui _)).ints;have rz:=λh=>(hz.tree (h':=h) (Ui _)).ints;simp only[dm];refine aV (m:=f.vars.length) hva.1 (λi t df g=>df=[]/\WtI y b fl S_ wv va ca wa gr wt p f.cards (S.Sy vals f.vars) m k fb i t g) ⟨rfl,h0⟩ h22 h21 (by decide)
  (by rintro j t df g v s (rfl|rfl|rfl) ⟨a1,⟨b1,b2,K,L,M,N,O,P,U,w,-⟩,c1,V,W,X⟩<;>exact⟨a1,by simp[St,sx,b1,b2,K,L,M,N,O,P,U,w],c1,V,W,X⟩) ?_ ?_
 ·rintro i t df g hi ⟨rfl,⟨h1,h2,A,B,C,h5,I,h7,n,h8,-⟩,e0,ef,h3,F⟩ h22 h21;obtain⟨u,hu,-,q⟩:=ay hi;obtain⟨H,q⟩:=hF.vr u q;obtain⟨un,rfl⟩:=Ur H;have hcl:=hF.cl;have E:f.cards.drop i=f.cards[i]::f.cards.drop (i+1):=VY (by omega);have e:vals[un]?=some vals[un]:=Uj (by omega);have a:(S.Sy vals f.vars)[i]?=some vals[un]:=by simp[S.Sy,hu,e]
  have o:(S.Sy vals f.vars).drop i=vals[un]::(S.Sy vals f.vars).drop (i+1):=by
   have hl:i<(S.Sy vals f.vars).length:=by rw[vZ];exact hi
   rw[VY hl];rw[Uj hl]at a;injection a with a;rw[a]
  have r:0<=vals[un]:=by obtain⟨v',h1,h2,-⟩:=hin.get (i:=i) (c:=f.cards[i]) (Uj (by omega));rw[IS a h1];exact h2
  generalize vals[un]=x at e a o r;have l:=hR.2 i (un:Int) (US _) hu;rw[U2]at l;have D:=(Uh.1 l).1;have u1:i<(f.vars.map ci).length:=by simpa using hi
  have u2:(f.vars.map ci)[i]?=some (ci (un:Int)):=by rw[Uo,hu];rfl
  have u3:un<(vals.map ci).length:=by simp;omega
  have u4:(vals.map ci)[un]?=some (ci x):=by rw[Uo,e];rfl
  have u5:un<(R.map ci).length:=by simpa using D
  have u6:(R.map ci)[un]?=some (ci (S.Sz (f.cards.drop (i+1)))):=by rw[Uo,l];rfl
  have J:S.SA (f.cards.drop i) ((S.Sy vals f.vars).drop i)=x*S.Sz (f.cards.drop (i+1))+S.SA (f.cards.drop (i+1)) ((S.Sy vals f.vars).drop (i+1)):=by rw[E,o,S.SA]
  have Y:=iS (cards:=f.cards.drop (i+1)) (vals:=(S.Sy vals f.vars).drop (i+1)) (λc hc=>hF.cb c (Vg hc)) (hin.drop (i+1));have Z:=iS (cards:=f.cards.drop i) (vals:=(S.Sy vals f.vars).drop i) (λc hc=>hF.cb c (Vg hc)) (hin.drop i);have h4:=kw (cs:=f.cards.drop (i+1)) λc hc=>(hF.cb c (Vg hc)).1;have h9:0<=x*S.Sz (f.cards.drop (i+1)):=WO r (by omega);have w1:IntKind.wrap .i64 (x*S.Sz (f.cards.drop (i+1)))=x*S.Sz (f.cards.drop (i+1)):=aE (by omega) (by omega);have w2:IntKind.wrap .i64 (p - S.SA (f.cards.drop i) ((S.Sy vals f.vars).drop i)+x*S.Sz (f.cards.drop (i+1)))=p - S.SA (f.cards.drop (i+1)) ((S.Sy vals f.vars).drop (i+1)):=by rw[aE (by omega) (by omega)];omega
  simp only[sz,simprocAttr,h1,h2,I,h8,n,h22,h21,e0,rva,u1,u2,rv,u3,u4,s1,s2,s3,rz,u5,u6,ci,w1,w2];refine⟨by simp[St,sx,h1,h2,A,B,C,h5,I,h7,n],e0,ef,by omega,by first|exact F| (simp;done)| (simp;omega)⟩
 ·rintro t df g ⟨rfl,h⟩;exact fin t g h
structure WtJ (n:Net) (vals:List Int) (b fl S_ wv:AV) (k:Nat) (t:T) (g:G):Prop where
 st:St t [(1,wv),(2,X9 0),(12,fl),(5,X8 (S.Sz ((List.range k).map (S.S4 n vals))))]
 h0:g.h.get 0=Xs 4 [[X8 n.grain,b,fl,S_]]
 nx:1<=g.nx
theorem Lx[XOc]{y:QnM}(hd:0<d)(hr:NR n)(hm:Agg y NoP ky g.h v)(hq:QnOk n y)(hv:SlR P kk g.h vals w)(hc:InC (S.Sx n) vals) :
  ae C0 d 134 [v,w] g=.val (X8 (S.Tl n vals)):=by
 have e0:=lf d hm;obtain⟨cs,rfl,J⟩:=hm;obtain⟨b,fl,S_,rfl,hN,o,hS⟩:=xf.1 J;have o:SlR NoP ky .nil y.2.1 fl:=o.tree (Ui _);have hS:SlR NoP ky .nil y.2.2 S_:=hS.tree (Ui _);obtain⟨w',W,M⟩:=dy hv d;have K:y.1.grain=n.grain:=by rw[hq.net]
 obtain⟨frows,f1,f2,X,Y⟩:=o.all;have f1:∀h',ah h' 3 fl=some frows:=f1;obtain⟨srows,s1,s2,s3,s4⟩:=JA hS;have rv:=λh=>(M h).ints;have F:=hc.len;rw[bE]at F;have he:=hr.l2;have B:=hq.fl;rw[mY];refine eX oP (xs:=[.agg [X8 y.1.grain,b,fl,S_],w']) (by simp only[aD,e0,W]) (by simp[ea]) hd ?_;rw[K];have ll:=o.len;simp only[sz,simprocAttr,ea,gB,ll,B];simp only[fR,fT];refine aV (m:=n.nodes.length) (by omega) (λk t df g=>df=[]/\WtJ n vals b fl S_ w' k t g) ⟨rfl,by simp[St,sx,S.Sz],by simp[sx],by simp⟩ (by simp[sx]) (by simp[sx]) (by decide)
  (by rintro j t df g v s (rfl|rfl|rfl) ⟨a1,⟨b1,b2,T,U,-⟩,c1,V⟩<;>exact⟨a1,by simp[St,sx,b1,b2,T,U],c1,V⟩) ?_ ?_
 ·rintro k t df g hk ⟨rfl,⟨h1,h2,c,h5,-⟩,g0,L⟩ e i;obtain⟨x,hx,-,-⟩:=ay hk;obtain⟨p,hp,hf⟩:=hq.fs k x (by omega) hx;obtain⟨row,q1,q2⟩:=X k _ hf;obtain⟨va,ca,wa,rfl,E,h9,N⟩:=qm.1 q2;have A:=Mh hr hx hp;obtain⟨pn,i1,i2,Q⟩:=Q9 hr hc hx p;have hlt:k<frows.length:=by omega
  have hi:=Y (by omega);obtain⟨R,hR,-,-⟩:=ay (l:=y.2.2) (j:=k) (by rw[hq.sl];exact hk);obtain⟨z,z1,z2,z3⟩:=s3 k R hR;have q:InC (S.S9 n k x p).cards (S.Sy vals (S.S9 n k x p).vars):=nK hc λu hu=>by rw[bE];exact Az hr hx p u hu
  have hb:=iS A.cb q;have hh:=du (l:=(S.S9 n k x p).cards) A.cb;have ha:=A.vl;have hg:=gx (a:=(S.S9 n k x p).cards.length) (b:=9) (by
   have h1:=qX (hr.places x (Ul hx)) (by omega);have h3:=uf x.parents p (k:Int) hp;show (S.Sy _ _).length<=9;rw[vZ];omega)
  have h4:(4:Int) ^ 9=262144:=by decide
  have ei:S.SA (S.S9 n k x p).cards (S.Sy vals (S.S9 n k x p).vars)=(pn:Int):=i1;have lva:=E.len;have rwa:=λh=>(N.tree (h':=h) (Ui _)).ints;refine jy (P:=λt' df g'=>df=[]/\g'=(g.new (Xs 3 [[.nils,.nils,.nils]])).put g.nx (Xs 3 [[va,ca,wa]])/\St t' [(1,w'),(2,X9 0),(12,fl),(13,X8 (n.nodes.length:Int)),(14,X8 (k:Int)),(5,X8 (S.Sz ((List.range k).map (S.S4 n vals)))),(6,X8 (k:Int)),(7,X9 g.nx)]) ?_ ?_
  ·simp only[sz,simprocAttr,e,c,f1,hlt,q1];simp[St,sx,h1,h2,c,i,e,h5]
  clear h1 h2 c h5 e i;rintro t df g1 ⟨rfl,r,⟨h1,h2,c,i,e,h5,I,h7,-⟩⟩;have O:g1.h.get 0=Xs 4 [[X8 n.grain,b,fl,S_]]:=by rw[r];simp[SD,show ¬0=g.nx by omega,g0]
  have H:g1.h.get g.nx=Xs 3 [[va,ca,wa]]:=by rw[r];simp[SD]
  have kn:g1.nx=g.nx+1:=by rw[r];simp
  simp only[sz,simprocAttr,h7,H,lva];refine Lw (y:=y) (b:=b) (fl:=fl) (S_:=S_) (wv:=w') (va:=va) (ca:=ca) (wa:=wa) (gr:=n.grain) (wt:=S.Sz ((List.range k).map (S.S4 n vals))) (p:=(pn:Int)) (f:=S.S9 n k x p) (R:=R) (vals:=vals) (mm:=n.nodes.length) (m:=n.nodes.length) (k:=k) (fb:=g.nx) E A (hq.st k _ R hf hR) F ⟨srows,z,s1,z1,z2,z3⟩ rv ei.symm q (by omega)
   ⟨by simp[St,sx,h1,h2,c,i,e,h5,I,h7,ei],by simpa using O,by simpa using H,by simp[ei],by omega⟩ (by simp[sx]) (by simp[sx]) ?_
  clear h1 h2 c i e h5 I h7;rintro t g2 ⟨⟨h1,h2,c,i,e,h5,I,h7,Z,h8,-⟩,O,H,-,D⟩;have C:S.SA ((S.S9 n k x p).cards.drop (S.S9 n k x p).vars.length) ((S.Sy vals (S.S9 n k x p).vars).drop (S.S9 n k x p).vars.length)=0:=by rw[WT (by rw[A.cl];exact Ui _)];rfl
  rw[C,Int.sub_zero]at h8;have u1:pn<((S.S9 n k x p).w.map ci).length:=by rw[UK];exact (Uh.1 Q).1
  have u2:((S.S9 n k x p).w.map ci)[pn]?=some (ci (S.S4 n vals k)):=by rw[Uo];exact congrArg (Option.map ci) Q
  have wb:=vd hr hc (j:=k+1) (by omega);have ws:=In n vals k;have w1:IntKind.wrap .i64 (S.Sz ((List.range k).map (S.S4 n vals))*S.S4 n vals k)=S.Sz ((List.range (k+1)).map (S.S4 n vals)):=by rw[<-ws,aE (by omega) (by omega)]
  simp only[sz,simprocAttr,fS,h5,h7,H,h8,rwa,u1,u2,ci,w1];exact⟨⟨by simp[St,sx,h1,h2,c],O,D⟩,e,i⟩
 ·rintro t df g ⟨rfl,⟨h1,h2,c,h5,-⟩,g0,L⟩;simp only[sz,simprocAttr,fU,h5]
  rfl
def S.TJ(vals e:List Int)(i:Nat):Bool:=decide (e[i]?.getD 0 = -1) || decide (e[i]?.getD 0=vals[i]?.getD 0)
def S.jm(vals e:List Int):Bool:=(List.range e.length).all (S.TJ vals e)
theorem IX(h:∀x∈e,-1<=x):S.jm vals e=S.TL vals e:=by
 have key:S.TJ vals e=S.TW vals e:=by
  funext i;have h1:-1<=e[i]?.getD 0:=by
   cases hx:e[i]? with
   |none=>decide
   |some x=>exact h x (Ul hx)
  unfold S.TJ S.TW;generalize e[i]?.getD 0=x at h1;congr 1;rw[decide_eq_decide];omega
 rw[S.jm,S.TL,key]
theorem HE[XOc]{k2:Nat}{P2:Nat->Prop}(hd:0<d)(hv:SlR P k g.h vals v)(hw:SlR P2 k2 g.h e w)(hl:e.length<=vals.length) :
  ae C0 d 133 [v,w] g=.val (.bool (S.jm vals e)):=by
 obtain⟨v',e1,p⟩:=dy hv d;obtain⟨w',o,n⟩:=dy hw d;have ra:∀h',ah h' 1 v'=some (vals.map ci):=λh'=>(p h').ints;have rb:∀h',ah h' 1 w'=some (e.map ci):=λh'=>(n h').ints;have n2:=λg=>(n .nil).len g;rw[vA];refine lF xN (xs:=[v',w']) (by simp only[aD,e1,o]) (by simp[lT]) hd ?_;simp only[sz,simprocAttr,lT,ni,n2];refine aV (m:=e.length) hw.1 (λj t df g=>df=[]/\St t [(0,v'),(8,w'),(5,.bool true)]/\(List.range j).all (S.TJ vals e)=true) ⟨rfl,by simp[St,sx],rfl⟩ (by simp[sx]) (by simp[sx]) (by decide) (by rintro j t df g v s (rfl|rfl|rfl)<;>simp[St,sx]) ?_ ?_
 ·rintro j t df g f ⟨rfl,⟨h0,h8,h5,-⟩,c⟩ a h9;obtain⟨x,hx,-,-⟩:=ay f;obtain⟨z,hz,-,-⟩:=ay (l:=vals) (j:=j) (by omega);have q1:j<(e.map ci).length:=by simpa using f
  have q2:j<(vals.map ci).length:=by rw[UK];omega
  have q3:(e.map ci)[j]?=some (ci x):=by rw[Uo,hx];rfl
  have i:(vals.map ci)[j]?=some (ci z):=by rw[Uo,hz];rfl
  have b:S.TJ vals e j=(decide (x = -1) || decide (x=z)):=by simp[S.TJ,hx,hz]
  by_cases c1:x = -1
  ·subst c1;simp only[sz,simprocAttr,a,h9,h8,rb,q1,q3,ci];refine⟨by simp[St,sx,h0,h8,h5],?_⟩;rw[r_,c,b];simp
  ·by_cases c2:x=z
   ·subst c2;simp only[sz,simprocAttr,a,h9,h8,h0,ra,rb,q1,q2,q3,i,ci,c1];refine⟨by simp[St,sx,h0,h8,h5],?_⟩;rw[r_,c,b];simp
   ·have:S.TJ vals e j=false:=by rw[b];simp[c1,c2]
    have hf:S.jm vals e=false:=by rw[S.jm,yI f this]
    simp only[sz,simprocAttr,a,h8,h0,ra,rb,q1,q2,q3,i,ci,c1,c2,io,hf]
 ·rintro t df g ⟨rfl,⟨h0,h8,h5,-⟩,c⟩;simp only[sz,simprocAttr,io,h5];rw[S.jm,c]
theorem Q0{α:Type} [Rp α]{l:List α}(hw:SlR P k h l w)(g:G):EX w g=.upd (X9 g.nx) (g.new (Xs 1 [[w]])):=by rw[GZ _ _ hw.cell.2,hw.cell.1];rfl
def LD{α:Type} [Rp α](x:α)(sz:Nat):VS:=λP k h v=>(∃id cs,v=X9 id/\P id/\h.get id=Xs sz [cs]/\Rp.rp P k h x cs)\/∃t cs,v=.tptr t sz [cs] 0 0/\t<=k/\Rp.rp NoP k .nil x cs
theorem Gn{α:Type} [Rp α]{x:α}{sz:Nat}{n:Nat}(d:Nat)(r:LD x sz P k h v)(hn:Rp.dp α<=n)(hd:Rp.dp α<=20:=by decide):∃v',Hx.snap h d (n+1) v=some v'/\LD x sz NoP (max k d) .nil v':=by
 rcases r with⟨id,cs,rfl,-,hg,r⟩|⟨t,cs,rfl,ht,r⟩
 ·obtain⟨cs',e,r'⟩:=Rp.snap (n:=n) d r hn (by show _<=24;omega);obtain⟨m,a,l2⟩:=Rp.tag (n:=an) r' (by show _<=24;omega);refine⟨.tptr (Nat.max d (Nat.max m 0)) sz [cs'] 0 0,?_,.inr ⟨_,cs',rfl,?_,r'⟩⟩
  ·simp only[Hx.snap,hg,show Nat.beq 0 0=true from rfl,aD,e,gz,h_,a]
  ·show max d (max m 0)<=max k d;omega
 ·exact⟨.tptr t sz [cs] 0 0,rfl,.inr ⟨t,cs,rfl,by omega,Rp.mono r (λi hi=>hi.elim) (by omega)⟩⟩
theorem Jv{α:Type} [Rp α]{x:α}{sz:Nat}{n:Nat}(r:LD x sz NoP k h v):∃m,eN (n+1) v=some m/\m<=k:=by
 rcases r with⟨id,cs,rfl,a,-⟩|⟨t,cs,rfl,ht,r⟩
 ·exact a.elim
 ·exact⟨t,rfl,ht⟩
def MtV(y:QnM)(e:List Int):VS:=λP k h v=>∃p q,v=.clo 132 [] [p,q]/\LD y 4 P k h p/\LD e 1 P k h q
theorem RE(y:QnM)(e:List Int):Snb (MtV y e) 2:=by
 refine⟨λ{P k h v n} d r hn=>?_,λ{k h v n} r hn=>?_⟩
 ·obtain⟨p,q,rfl,b,f⟩:=r;obtain⟨n,rfl⟩:∃q,n=q+2:=⟨n - 2,by omega⟩;obtain⟨p',e1,c⟩:=Gn (n:=n) d b (Uy (show Rp.dp QnM<=20 by decide) (by omega));obtain⟨q',a,i⟩:=Gn (n:=n) d f (Uy (show Rp.dp (List Int)<=20 by decide) (by omega));refine⟨.clo 132 [] [p',q'],?_,p',q',rfl,c,i⟩;simp only[Hx.snap,aD]at e1 a ⊢;rw[e1,a]
 ·obtain⟨p,q,rfl,b,f⟩:=r;obtain⟨n,rfl⟩:∃q,n=q+2:=⟨n - 2,by omega⟩;obtain⟨j,e1,l1⟩:=Jv (n:=n) b;obtain⟨l,a,l2⟩:=Jv (n:=n) f;refine⟨Nat.max j (Nat.max l 0),?_,by show max j (max l 0)<=k;omega⟩;show h_ (eN (n+1)) [p,q]=_;simp only[h_,e1,a]
theorem yx[XOc]{y:QnM}(hd:0<d)(hm:Agg y NoP 0 g.h v)(hw:SlR NoP kk g.h e w)(hk:kk<d:=by omega) :
  ∃cs z t1 t2,ae C0 d 106 [v,w] g=.val (.clo 132 [] [.tptr t1 4 [cs] 0 0,.tptr t2 1 [[z]] 0 0])/\Rp.rp NoP kk .nil y cs/\SlR NoP kk .nil e z:=by
 have e0:=lf d hm;obtain⟨cs,rfl,hc⟩:=hm;obtain⟨a,b,c,rfl,h1,h2,l⟩:=xf.1 hc;have key:∃r,ae C0 d 106 [.agg [X8 y.1.grain,a,b,c],w] g=.val r/\MtV y e NoP kk .nil r:=by rw[lL];refine a_ m7 (xs:=[.agg [X8 y.1.grain,a,b,c],w]) (by simp only[aD,e0,Ey d hw]) (by simp[dz]) (RE y e) (by decide) hk ?_;simp only[sz,simprocAttr,dz,fH,Q0 hw];refine⟨λ_=>True,_,_,rfl,.inl ⟨0,_,rfl,trivial,by simp[sx,SD],Rp.tree hc (US _)⟩,.inl ⟨1,[w],rfl,trivial,by simp[sx],?_⟩⟩;exact⟨w,rfl,hw.wide (Ui _)⟩
 obtain⟨r,hr,p,q,rfl,f,i⟩:=key;rcases f with⟨id,cs,rfl,k,-⟩|⟨t,cs,rfl,ht,f⟩
 ·exact k.elim
 rcases i with⟨id,cs,rfl,k,-⟩|⟨t2,cs2,rfl,j,i⟩
 ·exact k.elim
 obtain⟨z,rfl,hz⟩:=jx.1 i;exact⟨cs,z,t,t2,hr,f,hz⟩
theorem Nq{cs:List Int}(h:InC cs vs)(hc:∀c∈cs,1<=c){c:Int}(hi:vs[i]?=some x)(hci:cs[i]?=some c)(hx:x≠c - 1):InC cs (vs.take i++(x+1)::List.replicate (vs.length - (i+1)) 0):=by
 have d:=(Uh.1 hi).1;have hl:=h.len;refine D7 (by simp;omega) λj c' v a k=>?_;obtain⟨v',h1,h2,e⟩:=h.get a;have b:=hc c' (Ul a)
 by_cases h4:j<i
 ·rw[UF (by simp;omega),UV h4]at k;rw[h1]at k;injection k with k;omega
 ·rw[UA (by simp;omega)]at k;rw[U0,Wi (by omega)]at k
  by_cases h5:j=i
  ·subst h5;rw[Ve]at k;simp at k;rw[hi]at h1;injection h1 with h1;rw[hci]at a;injection a with a;omega
  ·obtain⟨m,hm⟩:∃m,j - i=m+1:=⟨j - i - 1,by omega⟩;rw[hm,WP]at k;have:=Ul k;rw[WB]at this;omega
theorem OE{cs:List Int}(hc:∀c∈cs,1<=c):InC cs (List.replicate cs.length 0) :=
 D7 (by simp) λj c v hj hv=>by have:=Ul hv;rw[WB]at this;have:=hc c (Ul hj);omega
section
variable {t1 t2:Nat}
theorem EK(h:m<vs.length):(vs.take (m+1)++List.replicate (vs.length - (m+1)) 0).set m 0=vs.take m++List.replicate (vs.length - m) 0:=by
 rw[Wd h,VB,VR _ _ (by simp;omega),U0,Wi (by omega),Ve];rw[show vs.length - m=(vs.length - (m+1))+1 by omega,VO]
 rfl
theorem EJ(h:m<vs.length)(y:Int):(vs.take (m+1)++List.replicate (vs.length - (m+1)) 0).set m y=vs.take m++y::List.replicate (vs.length - (m+1)) 0:=by
 rw[Wd h,VB,VR _ _ (by simp;omega),U0,Wi (by omega),Ve]
 rfl
structure OdoJ (n:Net) (vs:List Int) (L:List (Nat×AV)) (u:AV) (g0:G) (m:Nat) (t:T) (g:G):Prop where
 st:tat t 6=X8 ((m:Int) - 1)
 ss:St t L
 ow:Own g g0.nx u 1 ((vs.take m++List.replicate (vs.length - m) 0).map ci)
 mx:∀(j:Nat) (c:Int),m<=j->(S.Sx n)[j]?=some c->vs[j]?.getD 0=c - 1
def LM(id:Nat)(gr:Int)(b fl S_ w u:AV)(k t1 t2:Nat):List (Nat×AV):=[(0,.yld id),(1,.tptr t1 4 [[X8 gr,b,fl,S_]] 0 0),(2,.tptr t2 1 [[w]] 0 0),(4,u),(5,X8 (k:Int))]
theorem KN[XOc]{id:Nat}{b:AV}(hr:NR n)(hN:SlR NoP ky .nil n.nodes b)(hc:InC (S.Sx n) vs)(hm:m<=n.nodes.length)
  (h0:OdoJ n vs (LM id n.grain b fl S_ w u k t1 t2) u g0 m t g)
  (fin:∀m' t g',m'<=n.nodes.length->OdoJ n vs (LM id n.grain b fl S_ w u k t1 t2) u g0 m' t g'->g.nx<=g'.nx->(∀i,vid u≠some i->g'.h.get i=g.h.get i)->(m'=0\/∃x c,vs[m' - 1]?=some x/\(S.Sx n)[m' - 1]?=some c/\x≠c - 1/\0<m')->Q (.exit 2) t [] g') :
  wpL (wp C0 d none bF) Q t [] g:=by
 obtain⟨rows,z,M,J,K⟩:=hN.all;have z:∀h',ah h' 3 b=some rows:=z;have B:=hc.len;rw[bE]at B;have F:=hr.l2;refine pC (λm t df g'=>df=[]/\m<=n.nodes.length/\OdoJ n vs (LM id n.grain b fl S_ w u k t1 t2) u g0 m t g'/\g.nx<=g'.nx/\∀i,vid u≠some i->g'.h.get i=g.h.get i) m ⟨rfl,hm,h0,Ui _,λ_ _=>rfl⟩ ?_;rintro m t df g1 ⟨rfl,hm,⟨o,⟨h0,h1,h2,h4,h5,-⟩,f,r⟩,s,q⟩;simp only[bF];cases m with
 | zero =>
  have c1:¬((0:Int)<=((0:Nat):Int) - 1):=by omega
  simp only[sz,simprocAttr,o];refine fin 0 _ _ (US _) ⟨?_,?_,?_,r⟩ ?_ ?_ (.inl rfl)
  ·simp[sx,o]
  ·simp[St,LM,sx,h0,h1,h2,h4,h5]
  ·exact f
  ·exact s
  ·exact q
 | succ m =>
  have c1:(0:Int)<=((m+1:Nat):Int) - 1:=by omega
  have e1:((m+1:Nat):Int) - 1=(m:Int):=by omega
  rw[e1]at c1 o;obtain⟨x,hx,-,-⟩:=ay (l:=n.nodes) (j:=m) (by omega);obtain⟨row,q1,q2⟩:=J m x hx;obtain⟨pa,ra,rfl,-,-⟩:=fd.1 q2;have hlt:m<rows.length:=by omega
  have y:=K (by omega);have p:(S.Sx n)[m]?=some x.card:=by simp[S.Sx,hx]
  obtain⟨v,A,H,I⟩:=hc.get p;have E:=hr.card x (Ul hx);have D:m<((vs.take (m+1)++List.replicate (vs.length - (m+1)) 0).map ci).length:=by simp;omega
  have C:((vs.take (m+1)++List.replicate (vs.length - (m+1)) 0).map ci)[m]?=some (ci v):=by rw[Uo,UF (by simp;omega),UV (by omega),A];rfl
  have ru:=f.rows;have w1:IntKind.wrap .i64 (x.card - 1)=x.card - 1:=aE (by omega) (by omega)
  by_cases c2:v=x.card - 1
  ·simp only[sz,simprocAttr,o,h1,h4,c1,ru,D,C,z,hlt,q1,y,wO,iT,ci,w1,c2];refine cP (v:=u) (sz:=1) (n:=1) (i:=m) (off:=0) (x:=X8 0) (row':=ci 0) f C rfl rfl rfl λg4 hu4 n4 f4=>?_;rw[<-Vy,EK (by omega)]at hu4;have L:IntKind.wrap .i64 ((m:Int) - 1)=(m:Int) - 1:=aE (by omega) (by omega);simp only[sz,simprocAttr,o,L];refine⟨m,by omega,by omega,⟨by simp[sx],by simp[St,LM,sx,h0,h1,h2,h4,h5],hu4,λj c hj a=>?_⟩,by omega,λi hi=>by rw[f4 i hi,q i hi]⟩
   by_cases e:j=m
   ·subst e;rw[p]at a;injection a with a;rw[A,Us];omega
   ·exact r j c (by omega) a
  ·simp only[sz,simprocAttr,o,h1,h4,c1,ru,D,C,z,hlt,q1,y,wO,iT,ci,w1,c2];refine fin (m+1) _ _ hm ⟨?_,?_,?_,r⟩ ?_ ?_ (.inr ⟨v,x.card,A,p,c2,by omega⟩)
   ·simp[sx,o]
   ·simp[St,LM,sx,h0,h1,h2,h4,h5]
   ·exact f
   ·exact s
   ·exact q
theorem Rd{a b:AV}(ha:a.cells=[a]/\a.isTup=false)(hb:b.cells=[b]/\b.isTup=false)(hu:u.cells=[u]/\u.isTup=false):eF [X8 0,X8 0,.nils] [((0,1),a),((1,1),b),((2,1),u)]=some [a,b,u]:=by
 simp[eF,ha,hb,hu,dP]
 rfl
theorem KO[XOc]{id ke:Nat}{y:QnM}{b:AV}(hd:0<d)(hr:NR n)(hq:QnOk n y)(hcs:Rp.rp NoP ky .nil y [X8 n.grain,b,fl,S_])(hw:SlR NoP ke .nil e w)(hel:e.length<=n.nodes.length)
  (J:Nat->H->Prop) (E:G->Prop) (hJ:∀j h h',(∀i,i<g0.nx->h'.get i=h.get i)->J j h->J j h')
  (skip:∀(j:Nat) (h:H),j<S.SZ n->S.jm (S.ST (S.Sx n) j) e=false->J j h->J (j+1) h)
  (step:∀(j:Nat) (u:AV) (g:G) (K':AV->G->Prop) (D:ADf->Prop),j<S.SZ n->S.jm (S.ST (S.Sx n) j) e=true->g0.nx<=g.nx->J j g.h->SlR (λi=>g0.nx<=i/\i<g.nx) 0 g.h (S.ST (S.Sx n) j) u ->
   (∀g',J (j+1) g'.h->g.nx<=g'.nx->(∀i,g0.nx<=i->i<g.nx->g'.h.get i=g.h.get i)->K' (.bool true) g')->(∀g',E g'->K' (.bool false) g')->(cR (I C0) d id [.agg [X8 (j:Int),X8 (S.Tl n (S.ST (S.Sx n) j)),u]] g).sat K' g D)
  (h0:J 0 g0.h) (fin:∀g',J (S.SZ n) g'.h->g0.nx<=g'.nx->K (.tup []) g') (finE:∀g',E g'->K (.tup []) g') :
  wp C0 d none aF.code (fnQ C0 d aF.res K) (ba 0 [.yld id,.tptr t1 4 [[X8 n.grain,b,fl,S_]] 0 0,.tptr t2 1 [[w]] 0 0] .nil) [] g0:=by
 obtain⟨b',fl',S',e1,hN,hp,hS⟩:=xf.1 hcs;injection e1 with e1 X;injection X with X Y;injection Y with Y Z;injection Z with Z e5;subst X;subst Y;subst Z;have hN:SlR NoP ky .nil n.nodes b:=by rw[<-hq.net];exact hN
 have ht:=hr.l2;have hs:=hr.l1;obtain⟨W1,W2,W3⟩:=hr.wl;have q:=λc hc=>(hr.cs c hc).1;have nl:=hN.len;have hcl:=bE n;obtain⟨Qf,L⟩:∃Qf,Qf=fnQ C0 d aF.res K:=⟨_,rfl⟩;rw[<-L];simp only[sz,simprocAttr,aF,wO,iT,nl];refine wU (b:=g0.nx) (n:=n.nodes.length) (by unfold bz;omega) (by unfold bz;omega) (Ui _) λu g1 hu n1 fr1 v1=>?_;simp only[sz,simprocAttr];have h9:∀(g:G) (l:List Int),l.length=n.nodes.length->Own g g0.nx u 1 (l.map ci)->∀g2:G,jC .slice u g2=.val (X8 (n.nodes.length:Int)):=λg l hl ho g2=>by rw[mS ho.rows];simp[hl]
 obtain⟨INV,p⟩:∃INV:Nat->PT,INV=(λm t df g=>df=[]/\∃(j:Nat) (vs:List Int),m=S.SZ n - j/\j<S.SZ n/\InC (S.Sx n) vs/\S.SA (S.Sx n) vs=(j:Int)/\St t (LM id n.grain b fl S_ w u j t1 t2)/\Own g g0.nx u 1 (vs.map ci)/\J j g.h/\g0.nx<=g.nx):=⟨_,rfl⟩;refine pC INV (S.SZ n) ?_ ?_
 ·rw[p];exact⟨rfl,0,List.replicate n.nodes.length 0,rfl,by omega,by rw[<-hcl];exact OE q,by rw[AF];rfl,by simp[St,LM,sx],by simpa [ci] using hu,hJ 0 _ _ (λi hi=>fr1 i hi) h0,by omega⟩
 intro m t df g hI;have P:=hI;rw[p]at P;obtain⟨rfl,j,vs,rfl,hj,f,A,⟨h0,h1,h2,h4,h5,-⟩,ho,s,O⟩:=P;clear hI;have V:=f.len;rw[bE]at V;have o:S.ST (S.Sx n) (j:Int)=vs:=by rw[<-A];exact Ik q f
 have W:vid u=some g0.nx:=v1;have hsl:SlR (λi=>g0.nx<=i/\i<g.nx) 0 g.h vs u:=Own.sl (α:=Int) ho (by omega) (Sx (λa=>ax.2 rfl) _) λi hi=>ho.lt hi;have z:=HE (d:=d) (g:=g) (v:=u) (w:=w) (vals:=vs) (e:=e) hd hsl (hw.tree (h':=g.h) (Ui _)) (by omega);have h8:=h9 g vs V ho;have w1:IntKind.wrap .i64 ((n.nodes.length:Int) - 1)=(n.nodes.length:Int) - 1:=aE (by omega) (by omega);obtain⟨R,hR⟩:∃R,R=sQ [oM 28 4,oN 29 28,Xu 30 .sub 29 1,oM 6 30] (X7 (.blk 2 (.loop bF)) bG):=⟨_,rfl⟩;simp only[d8];rw[<-hR,dU,BA];obtain⟨Q1,F⟩:∃Q1,Q1=kB 1 (kS (wp C0 d none co (kL INV (S.SZ n - j) (kB 0 Qf))) (kL INV (S.SZ n - j) (kB 0 Qf))):=⟨_,rfl⟩;rw[<-F];have rest:∀(t:T) (g:G),St t (LM id n.grain b fl S_ w u j t1 t2)->Own g g0.nx u 1 (vs.map ci)->J (j+1) g.h->g0.nx<=g.nx->wp C0 d none R Q1 t [] g:=by
  rintro t g ⟨h0,h1,h2,h4,h5,-⟩ ho s O;rw[hR,F];simp only[sz,simprocAttr,h4,h8,w1];refine KN (t1:=t1) (t2:=t2) (id:=id) (k:=j) (m:=n.nodes.length) (n:=n) (b:=b) (fl:=fl) (S_:=S_) (w:=w) (u:=u) (vs:=vs) (g0:=g0) hr hN f (Ui _) ⟨by simp[sx],by simp[St,LM,sx,h0,h1,h2,h4,h5],?_,λi c hi hc=>?_⟩ ?_
  ·rw[Vm (by omega),show vs.length - n.nodes.length=0 by omega];simpa using ho
  ·have:=(Uh.1 hc).1;omega
  rintro m' t2 g2 hv ⟨h6,⟨h0,h1,h2,h4,h5,-⟩,U,Q⟩ k1 h3 M;have C:J (j+1) g2.h:=hJ _ _ _ (λi hi=>h3 i λe=>by rw[W]at e;injection e with e;omega) s;rcases M with rfl|⟨x,c,hx,hc,hg,hy⟩
  ·have N:j+1=S.SZ n:=by have:=D6 (cs:=S.Sx n) (vs:=vs) f.len.symm λi c hc=>Q i c (US _) hc;omega
   have c1:(((0:Nat):Int) - 1<0):=by omega
   rw[L];simp only[sz,simprocAttr,bG,aF,h6];rw[N]at C;exact fin g2 C (by omega)
  ·obtain⟨i,rfl⟩:∃i,m'=i+1:=⟨m' - 1,by omega⟩;rw[Nat.add_sub_cancel]at hx hc;have h7:=(Uh.1 hx).1;have e1:((i+1:Nat):Int) - 1=(i:Int):=by omega
   rw[e1]at h6;have c1:¬((i:Int)<0):=by omega
   have u1:i<((vs.take (i+1)++List.replicate (vs.length - (i+1)) 0).map ci).length:=by simp;omega
   have u2:((vs.take (i+1)++List.replicate (vs.length - (i+1)) 0).map ci)[i]?=some (ci x):=by rw[Uo,UF (by simp;omega),UV (by omega),hx];rfl
   have ru:=U.rows;obtain⟨x',hb,he,hf⟩:=f.get hc;rw[IS hb hx]at he hf;have hn:=hr.cs c (Ul hc);have w2:IntKind.wrap .i64 (x+1)=x+1:=aE (by omega) (by omega);simp only[sz,simprocAttr,bG,h6,c1,h4,ru,u1,u2,ci,w2];refine cP (v:=u) (sz:=1) (n:=1) (i:=i) (off:=0) (x:=X8 (x+1)) (row':=ci (x+1)) U u2 rfl rfl rfl λg4 hu4 n4 f4=>?_;rw[<-Vy,EJ h7]at hu4;have B:=Nq f q hx hc hg;have r:=MR (cs:=S.Sx n) (vs:=vs) f.len.symm hx λk c hk hc=>Q k c (by omega) hc;rw[A]at r;have hh:=iS hr.cs B;have w3:IntKind.wrap .i64 ((j:Int)+1)=((j+1:Nat):Int):=by rw[aE (by omega) (by omega)];rfl
   simp only[sz,simprocAttr,co,h5,w3];refine⟨S.SZ n - (j+1),by omega,?_⟩;rw[p];refine⟨rfl,j+1,_,rfl,by omega,B,by rw[r];rfl,by simp[St,LM,sx,h0,h1,h2,h4],hu4,hJ _ _ _ (λi hi=>f4 i λe=>by rw[W]at e;injection e with e;omega) C,by omega⟩
 cases hm:S.jm vs e with
 | false =>
  rw[hm]at z;rw[dU];simp only[sz,simprocAttr,h4,h2,iT,z];exact rest _ _ (by simp[St,LM,sx,h0,h1,h2,h4,h5]) ho (skip j _ hj (by rw[o];exact hm) s) O
 | true =>
  rw[hm]at z;rw[dU];have ha:=Lx (d:=d) (g:=g) (v:=.agg [X8 n.grain,b,fl,S_]) (w:=u) (vals:=vs) (y:=y) hd hr ⟨_,rfl,Rp.tree hcs (Ui _)⟩ hq hsl f;simp only[sz,simprocAttr,h0,h1,h5,h4,h2,iT,z,ha,Rd (a:=X8 (j:Int)) (b:=X8 (S.Tl n vs)) ⟨rfl,rfl⟩ ⟨rfl,rfl⟩ ho.cell];have st:=λK' D=>step j u g K' D hj (by rw[o];exact hm) O s (by rw[o];exact hsl);rw[o]at st;show (cR (I C0) d id [.agg [X8 (j:Int),X8 (S.Tl n vs),u]] g).sat _ _ _;refine st _ _ (λg' hJ' hn' hf'=>?_) λg' hE=>?_
  ·simp only[sz,simprocAttr];exact rest _ _ (by simp[St,LM,sx,h0,h1,h2,h4,h5]) (ho.fr hn' λi hi=>hf' i (ho.lt hi).1 (ho.lt hi).2) hJ' (by omega)
  ·rw[F,L];simp only[sz,simprocAttr,aF];exact finE g' hE
theorem K5{id:Nat}{ps:List Nat}{a b:SC}{args:List AV}{t':T}
  (hg:g.h.get id=.loop nt t ps assign body dfr .ready none) (ha:bQ C nt assign=a) (hb:bQ C nt body=b) (hp:di t nt ps args=some t')
  (h:wp C d (some id) a (λe t1 df g1=>e=.norm/\df=[]/\g1.h.get id=.loop nt t ps assign body dfr .ready none /\
   wp C d (some id) b (λe _ df g2=>df=[]/\g2.h.get id=.loop nt t ps assign body dfr .busy none/\((e=.norm/\K (.bool true) (g2.put id (.loop nt t ps assign body dfr .ready none)))\/(e=.ret/\K (.bool false) (g2.put id (.loop nt t ps assign body dfr .done (some .ret))))))
    t1 [] (g1.put id (.loop nt t ps assign body dfr .busy none))) t' [] g) :
  (cR (I C) d id args g).sat K g D:=by
 subst ha;subst hb;unfold cR;rw[show g.get id=_ from hg];dsimp only;rw[hp];dsimp only;have h1:=mM h;cases hc:(I C).code nt d (some id) assign t' [] g with
 |fail=>rw[hc]at h1;exact h1.elim
 | ok e t1 df g1 =>
  rw[hc]at h1;obtain⟨rfl,rfl,c,h2⟩:=h1;dsimp only;rw[show g1.get id=_ from c];dsimp only;have k:=mM h2;cases hc2:(I C).code nt d (some id) body t1 [] (g1.put id (.loop nt t ps assign body dfr .busy none)) with
  |fail=>rw[hc2]at k;exact k.elim
  | ok e t2 df2 g2 =>
   rw[hc2]at k;obtain⟨rfl,h4,h5⟩:=k;dsimp only;rw[show g2.get id=_ from h4];rcases h5 with⟨rfl,h5⟩|⟨rfl,h5⟩<;>exact h5
theorem Fs[XOc]:C0.ext 132=none:=by kernel_rfl
theorem C7[XOc]{p r ke:Nat}{y:QnM}{cs:List AV}{ca cb:SC}(hd:0<d)(hr:NR n)(hq:QnOk n y)(hcs:Rp.rp NoP ky .nil y cs)(hw:SlR NoP ke .nil e w)(hel:e.length<=n.nodes.length)
  (hv:tat t r=.clo 132 [] [.tptr t1 4 [cs] 0 0,.tptr t2 1 [[w]] 0 0]) (hp:p<nt)
  (J:Nat->H->Prop) (E:H->Prop) (hJ:∀j h h',(∀i,i<g.nx->h'.get i=h.get i)->J j h->J j h') (hE:∀h h',(∀i,i<g.nx->h'.get i=h.get i)->E h->E h') (h0:J 0 g.h)
  (skip:∀(j:Nat) (h:H),j<S.SZ n->S.jm (S.ST (S.Sx n) j) e=false->J j h->J (j+1) h)
  (step:∀(j:Nat) (u:AV) (g1:G),j<S.SZ n->S.jm (S.ST (S.Sx n) j) e=true->J j g1.h->g.nx+2<=g1.nx->SlR (λi=>g.nx+2<=i/\i<g1.nx) 0 g1.h (S.ST (S.Sx n) j) u ->
   wp C0 d (some (g.nx+1)) ca (λe t1 df g1'=>e=.norm/\df=[]/\Fr g1 g1'/\∀g2:G,g2.nx=g1'.nx->(∀i,i≠g.nx+1->g2.h.get i=g1'.h.get i) ->
    wp C0 d (some (g.nx+1)) cb (λe _ df g3=>df=[]/\RowQ g.nx g2 g3 e (J (j+1) g3.h) (E g3.h)) t1 [] g2)
    (fe t p (.agg [X8 (j:Int),X8 (S.Tl n (S.ST (S.Sx n) j)),u])) [] g1)
  (fin:∀g',J (S.SZ n) g'.h->g.nx+2<=g'.nx->g'.h.get g.nx=.dfr true->Q .norm t (.mark g.nx::df) g')
  (finE:∀g',E g'.h->g.nx+2<=g'.nx->g'.h.get g.nx=.dfr true->Q .ret t (.mark g.nx::df) g') :
  wp C0 d none (.rng nt (.t r) [p] ca cb) Q t df g:=by
 obtain⟨b,fl,S_,rfl,-,-,-⟩:=xf.1 hcs;rw[hq.net]at hv hcs;refine BC (fn:=132) (first:=[]) (cap:=[.tptr t1 4 [[X8 n.grain,b,fl,S_]] 0 0,.tptr t2 1 [[w]] 0 0]) (s:=aF) hv Fs lP (by simp[aF]) ?_;intro assign body ha hb;have e1:((g.new (.dfr true)).new (.loop nt t [p] assign body g.nx .ready none)).nx=g.nx+2:=by simp
 refine KO (g0:=(g.new (.dfr true)).new (.loop nt t [p] assign body g.nx .ready none)) (id:=g.nx+1) hd hr hq hcs hw hel
  (λj h=>J j h/\h.get g.nx=.dfr true/\h.get (g.nx+1)=.loop nt t [p] assign body g.nx .ready none)
  (λg'=>E g'.h/\g'.h.get g.nx=.dfr true/\g'.h.get (g.nx+1)=.loop nt t [p] assign body g.nx .done (some .ret)/\g.nx+2<=g'.nx) ?_ ?_ ?_ ?_ ?_ ?_
 ·rintro j h h' l ⟨a1,a2,a⟩;rw[e1]at l;exact⟨hJ j h h' (λi hi=>l i (by omega)) a1,by rw[l _ (by omega),a2],by rw[l _ (by omega),a]⟩
 ·rintro j h v hm ⟨a1,a2,a⟩;exact⟨skip j h v hm a1,a2,a⟩
 ·rintro j u g1 K' D v hm c ⟨a1,a2,a⟩ hsl kk kE;rw[e1]at c kk hsl;refine K5 a ha hb (t':=fe t p (.agg [X8 (j:Int),X8 (S.Tl n (S.ST (S.Sx n) j)),u])) ?_ ?_
  ·simp only[di,aa,U_,Un hp];rfl
  ·refine bO _ (step j u g1 v hm a1 (by omega) hsl) ?_;rintro e t1 df g1' ⟨rfl,rfl,k,h⟩;have f:g.nx+1<g1.nx:=by omega
   have hl:g.nx+1<g1'.nx:=UI f k.1;have m:g1'.h.get g.nx=.dfr true:=by rw[k.2 _ (by omega),a2]
   have o:g1'.h.get (g.nx+1)=.loop nt t [p] assign body g.nx .ready none:=by rw[k.2 _ f,a]
   refine⟨rfl,rfl,o,?_⟩;refine bO _ (h (g1'.put (g.nx+1) (.loop nt t [p] assign body g.nx .busy none)) (by simp) (λi hi=>by simp[SD,hi])) ?_;rintro e t2 df g3 ⟨rfl,⟨b2,q,b1⟩⟩;have B:g3.h.get (g.nx+1)=.loop nt t [p] assign body g.nx .busy none:=by rw[q _ (by omega) (by simpa using hl)];simp[SD]
   have z:g3.h.get g.nx=.dfr true:=by rw[q _ (by omega) (by simp;omega)];simp[SD,m]
   refine⟨rfl,B,?_⟩;have A:g1'.nx<=g3.nx:=by simpa using b2
   have C:=k.1;rcases b1 with⟨rfl,b1⟩|⟨rfl,b1⟩
   ·refine .inl ⟨rfl,kk _ ⟨hJ _ g3.h _ (λi hi=>by simp[SD,show ¬i=g.nx+1 by omega]) b1,?_,?_⟩ (by simp;omega) λi h1 h2=>?_⟩
    ·simp[SD,z]
    ·simp[SD]
    ·have x:¬i=g.nx+1:=by omega
     have:=q i (by omega) (by simp;omega);simp[SD,x]at this ⊢;rw[this,k.2 i h2]
   ·refine .inr ⟨rfl,kE _ ⟨hE g3.h _ (λi hi=>by simp[SD,show ¬i=g.nx+1 by omega]) b1,?_,?_,?_⟩⟩
    ·simp[SD,z]
    ·simp[SD]
    ·simp;omega
 ·refine⟨hJ 0 g.h _ (λi hi=>?_) h0,?_,?_⟩
  ·simp[SD,show ¬i=g.nx+1 by omega,show ¬i=g.nx by omega]
  ·simp[SD]
  ·simp[SD]
 ·rintro g' ⟨a1,a2,a⟩ c;rw[e1]at c;refine⟨_,_,_,_,_,_,.inl ⟨a,fin _ (hJ _ g'.h _ (λi hi=>by simp[SD,show ¬i=g.nx+1 by omega]) a1) (by simpa using c) ?_⟩⟩;simp[SD,a2]
 ·rintro g' ⟨a1,a2,a,c⟩;refine⟨_,_,_,_,_,_,.inr ⟨a,finE _ (hE g'.h _ (λi hi=>by simp[SD,show ¬i=g.nx+1 by omega]) a1) (by simpa using c) ?_⟩⟩;simp[SD,a2]
end
theorem Fp(h:S.SL n e=true):e.length=n.nodes.length/\∀x∈e,-1<=x:=by simp only[S.SL,Uk,UD,Uz]at h;refine⟨h.1,λx hx=>?_⟩;obtain⟨i,hi,he⟩:=VD.1 hx;have:=(h.2 i (Uw.2 hi)).1;rw[Uj hi,he]at this;exact this
def S.pe(n:Net)(e:List Int)(w:Nat):Bool:=S.TL (S.ST (S.Sx n) (w:Int)) e
theorem tL(n:Net)(e:List Int):S.SM n e=S.SJ n (S.pe n e) (S.SZ n):=rfl
theorem zw(h:NR n){p:Nat->Bool}(hj:j<=1024):0<=S.SJ n p j/\S.SJ n p j<=171992678400000000:=by have:=nP h p j;omega
theorem Qi(g:G)(o o':AObj):Fr g ((g.new o).put g.nx o'):=⟨by simp,λi hi=>by simp[SD,show ¬i=g.nx by omega]⟩
theorem Jh[XOc]{y:QnM}(hd:0<d)(hr:NR n)(hm:Agg y NoP 0 g.h v)(hq:QnOk n y)(he:SlR NoP kk g.h e w)(hev:S.SL n e=true)(hk:kk<=d:=by omega) :
  ae C0 d 68 [v,w] g=.val (X8 (S.SM n e)):=by
 have e0:=lf d hm;have ew:=Ey d he;obtain⟨cs,rfl,c⟩:=hm;obtain⟨b,fl,S_,rfl,-,-,-⟩:=xf.1 c;obtain⟨el,ege⟩:=Fp hev;obtain⟨W1,W2,W3⟩:=hr.wl;rw[oH];refine eX qB (xs:=[.agg [X8 y.1.grain,b,fl,S_],w]) (by simp only[aD,e0,ew]) (by simp[fE]) hd ?_;simp only[sz,simprocAttr,fE];unfold iD;refine i8 (P:=λt' df g'=>df=[]/\g'.nx=2/\g'.h.get 0=Xs 4 [[X8 y.1.grain,b,fl,S_]]/\g'.h.get 1=Xs 1 [[X8 0]]/\St t' [(1,w),(2,X9 0),(5,X9 1)]) ?_ ?_
 ·simp only[sz,simprocAttr];simp[St,sx]
 rintro t df g0 ⟨rfl,f2,f0,f1,h1,h2,h5,-⟩;obtain⟨cs,z,t1,t2,ez,f,hz⟩:=yx (d:=d+1) (g:=g0) (y:=y) (e:=e) (v:=.agg [X8 y.1.grain,b,fl,S_]) (w:=w) (UC d) ⟨_,rfl,Rp.tree c (Ui _)⟩ (he.tree (Ui _));rw[dU,dU];simp only[sz,simprocAttr,h1,h2,f0,ez];refine C7 (t1:=t1) (t2:=t2) (n:=n) (y:=y) (e:=e) (cs:=cs) (w:=z) (UC d) hr hq f hz (by omega) (by simp[sx]) (by decide)
  (λj h=>h.get 1=Xs 1 [[X8 (S.SJ n (S.pe n e) j)]]) (λ_=>False) (λj h h' hh h1=>by rw[hh 1 (by omega),h1]) (λ_ _ _ h=>h) f1 ?_ ?_ ?_ (λ_ h=>h.elim)
 ·intro j h m k h1;have hp:S.pe n e j=false:=by rw[S.pe,<-IX ege];exact k
  rw[h1,S.SJ,hp];simp
 ·intro j u g1 m k h1 o hu;have hp:S.pe n e j=true:=by rw[S.pe,<-IX ege];exact k
  have hb:=zw hr (p:=S.pe n e) (j:=j+1) (by omega);have hs:S.SJ n (S.pe n e) (j+1)=S.SJ n (S.pe n e) j+S.Tl n (S.ST (S.Sx n) (j:Int)):=by rw[S.SJ,hp];simp
  have w1:IntKind.wrap .i64 (S.SJ n (S.pe n e) j+S.Tl n (S.ST (S.Sx n) (j:Int)))=S.SJ n (S.pe n e) (j+1):=by rw[<-hs,aE (by omega) (by omega)]
  simp only[sz,simprocAttr,gR];refine⟨Qi _ _ _,?_⟩;intro g2 n2 a;have r:g2.h.get g1.nx=Xs 3 [[X8 (j:Int),X8 (S.Tl n (S.ST (S.Sx n) (j:Int))),u]]:=by rw[a _ (by omega),Un rfl]
  have q:g2.h.get 1=Xs 1 [[X8 (S.SJ n (S.pe n e) j)]]:=by rw[a 1 (by omega),Um (by omega),Um (by omega),h1]
  simp only[sz,simprocAttr,gS,h5,q,r,w1];exact⟨by simp,λi h1 h2=>by simp[SD,show ¬i=1 by omega],.inl ⟨rfl,by simp[SD]⟩⟩
 ·intro g' h1 o l;simp only[sz,simprocAttr,gT,h5,h1];refine iB l ?_;simp only[sx,↓reduceIte];rw[tL]
theorem NU(hl:SlR NoP k .nil l v):Rp.rp (λ_=>True) k h l [v]:=by obtain⟨w,hw,q⟩:=Rp.tree (P:=λ_=>True) (k':=k) (h':=h) (show Rp.rp NoP k .nil l [v] from ⟨v,rfl,hl⟩) (Ui _);exact⟨w,hw,q⟩
theorem Rh{a:List Int}{va:AV}{q:Nat}(ha:SlR NoP k .nil a va)(hq:h.get q=Xs 1 [[va]]):SlR (λ_=>True) k h [a] (.hsl q 0 0 1 none):=by refine⟨by show 1<_;decide,trivial,[[va]],?_,NU ha,trivial⟩;show ah h 1 _=_;simp only[ah,hq];rfl
theorem vo{ls:List (List Int)}(hv:OF n ls P k h v) :
  ∃y cs,v=.tup [.agg cs,X8 (S.To n ls)]/\(S.To n ls=0->QnOk n y)/\Rp.rp P k h y cs/\∃a1 a2 a3 a4,cs=[a1,a2,a3,a4]:=by
 obtain⟨y,b,a,c,rfl,⟨cs,rfl,hc⟩,hi⟩:=hv;have hi:=ax.1 hi;injection hi with hi;subst hi;obtain⟨a2,a3,a4,rfl,-⟩:=xf.1 hc;exact⟨y,_,rfl,b,hc,_,_,_,_,rfl⟩
theorem tU(n:Net)(e:List Int):S.To n [e]=S.SN n e:=by rw[S.To,S.SN];simp
theorem eQ:S.SN n e=0↔S.SW n=true/\S.SL n e=true:=by rw[S.SN];cases S.SW n<;>cases S.SL n e<;>simp
def S.TK(n:Net)(e:List Int):Int:=if S.SN n e=0 then S.SM n e else 0
theorem M1[XOc]{k0:Nat}{w0:AV}(hd:0<d)(hm:Agg n NoP 0 g.h v)(he:SlR P k0 g.h e w0)(hk:k0<=d:=by omega) :
  ae C0 d 78 [v,w0] g=.val (.tup [X8 (S.TK n e),X8 (S.SN n e)]):=by
 have key:∃r,ae C0 d 78 [v,w0] g=.val r/\oE (One (S.TK n e)) (One (S.SN n e)) NoP 0 .nil r:=by
  obtain⟨b,rows,rfl,e1,f,hN,o,p,q,s⟩:=dt d hm;obtain⟨w,ew,hw⟩:=dy he d;rw[Wv hk]at hw;have hw:=hw .nil;rw[yK];refine a_ BU (xs:=[.agg [X8 n.grain,b],w]) (by simp only[aD,e1,ew]) (by simp[qE]) (bY (m:=1) (aG _) (aG _) (by decide) (by decide)) (by decide) hd ?_;simp only[sz,simprocAttr,qE,sS,hw.cell.1,hw.cell.2];refine dE (GV (n:=n) (ls:=[e]) (UC d) (f _) (Rh hw (by simp[sx]))) λz hz=>?_;obtain⟨y,cs,rfl,j,hc,a1,a2,l,a4,rfl⟩:=vo hz;rw[tU]at j ⊢
  by_cases h0:S.SN n e=0
  ·have i:=j h0;obtain⟨h1,h2⟩:=eQ.1 h0;have hr:=bw.1 h1;have k:S.TK n e=S.SM n e:=by rw[S.TK,Un h0]
   simp only[sz,simprocAttr,h0];rw[Jh (y:=y) (n:=n) (e:=e) (UC d) hr ⟨_,rfl,Rp.tree hc (Ui _)⟩ i (hw.tree (Ui _)) h2];simp only[sz,simprocAttr];rw[k];exact⟨λ_=>True,_,_,rfl,ax.2 rfl,ax.2 rfl⟩
  ·have k:S.TK n e=0:=by rw[S.TK,Um h0]
   simp only[sz,simprocAttr,h0];rw[k];exact⟨λ_=>True,_,_,rfl,ax.2 rfl,ax.2 rfl⟩
 obtain⟨r,hr,a,c,rfl,ha,hc⟩:=key;have ha:=ax.1 ha;have hc:=ax.1 hc;injection ha with ha;injection hc with hc;rw[hr,ha,hc]
def S.TA(n:Net)(e:List Int):QI:=if S.SN n e=0 then S.Tg (S.SM n e).toNat (S.TE n).toNat else (0,0)
theorem HI(hr:NR n):1<=S.TE n/\S.TE n<=167961600000000:=by
 have h1:=wX hr n.nodes.length hr.l2;have h2:1<=S.TE n:=kw λc hc=>by have:=(WB.1 hc).2;have:=hr.g1;omega
 exact⟨h2,h1.2⟩
def S.kn(e:List Int):Nat->Nat
 |0=>0
 |k+1=>if 0<=e[k]?.getD 0 then S.kn e k ||| 2 ^ k else S.kn e k
theorem Nc(e:List Int):∀k,S.kn e k<2 ^ k
 |0=>by simp[S.kn]
 | k+1=>by
  have ih:=Nc e k;rw[S.kn]
  split
  ·exact WZ (UI ih (Wr (by decide) (by omega))) (Nat.pow_lt_pow_right (by decide) (by omega))
  ·exact UI ih (Wr (by decide) (by omega))
def S.SP(e:List Int)(s:Nat):List Int:=(List.range e.length).map λi=>if s.testBit i then e[i]?.getD 0 else -1
theorem kZ(e:List Int)(s:Nat):(S.SP e s).length=e.length:=by simp[S.SP]
theorem zn(e:List Int)(s i:Nat)(hi:i<e.length):(S.SP e s)[i]?=some (if s.testBit i then e[i]?.getD 0 else -1):=by simp[S.SP,hi]
theorem dl:S.SL n e=true↔e.length=n.nodes.length/\∀i,i<e.length->-1<=e[i]?.getD 0/\e[i]?.getD 0<(S.Sx n)[i]?.getD 0:=by unfold S.SL;simp only[Uk,UD,Uz,Uw]
theorem Mf{v:Nat}(h:S.SL n e=true)(h0:-1<=x)(h1:x<(S.Sx n)[v]?.getD 0):S.SL n (e.set v x)=true:=by
 obtain⟨hl,he⟩:=dl.1 h;refine dl.2 ⟨by rw[WE];exact hl,λi hi=>?_⟩;rw[WE]at hi;rw[V1]
 by_cases e1:v=i
 ·subst e1;rw[Un rfl,Un hi,Us];exact⟨h0,h1⟩
 ·rw[Um e1];exact he i hi
theorem Fq{s:Nat}(h:S.SL n e=true)(hc:∀i,i<e.length->0<=(S.Sx n)[i]?.getD 0):S.SL n (S.SP e s)=true:=by
 obtain⟨hl,he⟩:=dl.1 h;refine dl.2 ⟨by rw[kZ];exact hl,λi hi=>?_⟩;rw[kZ]at hi;rw[zn e s i hi,Us];have:=hc i hi
 split
 ·exact he i hi
 ·exact⟨Int.le_refl _,by omega⟩
def Up(B:Nat)(g g':G):Prop:=(∀i,i<B->g'.h.get i=g.h.get i)/\∀i∈g'.lg,i∈g.lg\/B<=i
theorem Up.trans{B:Nat}{g1 g2:G}(h:Up B g g1)(h2:Up B g1 g2):Up B g g2:=⟨λi hi=>by rw[h2.1 i hi,h.1 i hi],λi hi=>(h2.2 i hi).elim (λh3=>h.2 i h3) .inr⟩
theorem Up.mono{B B':Nat}(h:Up B g g')(hb:B'<=B):Up B' g g':=⟨λi hi=>h.1 i (by omega),λi hi=>(h.2 i hi).imp id λh=>by omega⟩
theorem Up.new{B:Nat}{g:G}(hb:B<=g.nx)(o:AObj):Up B g (g.new o):=⟨λi hi=>by rw[G.new_h,aL _ _ _ (by omega)],λi hi=>by simp at hi;rcases hi with rfl|hi;exact .inr hb;exact .inl hi⟩
theorem Up.put{B:Nat}{g:G}{j:Nat}(hb:B<=j)(o:AObj):Up B g (g.put j o):=⟨λi hi=>by rw[G.put_h,aL _ _ _ (by omega)],λi hi=>by simp at hi;rcases hi with rfl|hi;exact .inr hb;exact .inl hi⟩
theorem rk{sz n off:Nat}{rows:List (List AV)}{row row':List AV}{x:AV}(hv:Own g b v sz rows)(hr:rows[i]?=some row)
  (hl:x.cells.length=n) (ht:x.isTup=false) (hp:cH row off x.cells=some row')
  (k:∀g',Own g' b v sz (rows.set i row')->g'.nx=g.nx->(∀i,vid v≠some i->g'.h.get i=g.h.get i)->Up b g g'->K .undef g'):(nO n (nZ sz v i off) x g).sat K g D:=by
 rcases hv with⟨rfl,rfl⟩|⟨id,ep,lo,h1,h2,rfl,a⟩
 ·simp at hr
 ·simp only[nZ,UU];rw[Bo a hr rfl ht hl hp];refine k _ (.inr ⟨id,ep,lo,h1,by simpa using h2,by simp,by simp[bg]⟩) (by simp) (λi hne=>?_) (Up.put h1 _);rw[G.put_h,aL _ _ _ (λe=>hne (by rw[e];rfl))]
theorem F9{sz bytes:Nat}{zero:List AV}{k1 k2:IntKind}{n:Nat}(hn:n<=bz)(hb:n*bytes<=bz)(hg:b<=g.nx)
  (k:∀v' g',Own g' b v' sz (List.replicate n zero)->g'.nx=g.nx+1->Up g.nx g g'->vid v'=some g.nx->K v' g') :
  (HF sz bytes zero (.int k1 (n:Int)) (.int k2 (n:Int)) g).sat K g D:=by
 show (match dN bz (.int k2 (.ofNat n)) with
  | some cn=>match dN cn (.int k1 (.ofNat n)) with
   |some ln=>ak (Nat.ble (cn*bytes) bz) (OR.upd (.hsl g.nx 0 0 ln none) (g.new (Xs sz (ib cn zero)))) .fail
   |none=>.fail
  |none=>.fail).sat K g D
 simp only[dN,aa,UR,Un hn,Ui,Un hb,if_true];exact k _ _ (.inr ⟨g.nx,0,false,hg,by simp,by simp,by simp[bg,ib]⟩) (by simp) (Up.new (Ui _) _) rfl
structure Ug (g g':G):Prop where
 nx:g.nx<=g'.nx
 up:Up g.nx g g'
theorem Ug.trans{g g1 g2:G}(h:Ug g g1)(h':Ug g1 g2):Ug g g2:=⟨Uy h.nx h'.nx,h.up.trans (h'.up.mono h.nx)⟩
theorem Ug.fr(h:Ug g g'):Fr g g':=⟨h.nx,h.up.1⟩
theorem Ug.new(g:G)(o:AObj):Ug g (g.new o):=⟨by simp,Up.new (Ui _) o⟩
theorem mN{x y:Foot}(hx:x.wr=[])(hb:x.lk.big=false)(hs:x.lk.sr=[])(h:∀i∈y.wr,i ∉ x.lk.rd):be x y=true:=by
 have k:meets y.wr []=false:=by simp[meets]
 have a:meets y.wr x.lk.rd=false:=by simp only[meets,List.any_eq_false];intro i hi hc;exact h i hi (VP.1 hc)
 simp only[be,eG,dg,hx,hb,hs,k,a,fst1,Vz,Wy,Wn,WH,Vd]
 split<;>rfl
theorem qr{x y:Foot}(hy:y.wr=[])(hb:y.lk.big=false)(hs:y.lk.sr=[])(h:∀i∈x.wr,i ∉ y.lk.rd):be x y=true:=by
 have k:meets x.wr []=false:=by simp[meets]
 have a:meets x.wr y.lk.rd=false:=by simp only[meets,List.any_eq_false];intro i hi hc;exact h i hi (VP.1 hc)
 simp only[be,eG,dg,hy,hb,hs,k,a,fst1,Vz,Wy,Wn,WH,Vd]
 split<;>rfl
def S.SG(set:Nat):List Nat:=((List.range 256).filter λs=>decide (s &&& set=s)).reverse
def S.TX(set part:Nat):Nat:=(part - 1) &&& set
def S.TN(set:Nat):List Nat->Bool
 |[]=>false
 |[a]=>decide (a=0)
 |a::b::r=>decide (a≠0)&&decide (S.TX set a=b)&&S.TN set (b::r)
theorem Kg:∀set:Nat,set<256->S.TN set (S.SG set)=true/\(S.SG set)[0]?=some set:=by decide +kernel
theorem LV:∀{l:List Nat} {set:Nat},S.TN set l=true->∀j a,l[j]?=some a->(a=0↔j+1=l.length)/\(a≠0->l[j+1]?=some (S.TX set a))
 |[],_,h,_,_,_=>by cases h
 | [b],set,h,0,a,e=>by simp at e;subst e;rw[S.TN,decide_eq_true_iff]at h;exact⟨⟨λ_=>rfl,λ_=>h⟩,λh'=>absurd h h'⟩
 |[b],set,h,j+1,a,e=>by simp at e
 | b::c::r,set,h,0,a,e=>by simp at e;subst e;rw[S.TN,Uk,Uk,decide_eq_true_iff,decide_eq_true_iff]at h;exact⟨⟨λh'=>absurd h' h.1.1,λh'=>by simp at h'⟩,λ_=>by simp[h.1.2]⟩
 | b::c::r,set,h,j+1,a,e=>by rw[S.TN,Uk]at h;have:=LV h.2 j a (by simpa using e);simpa using this
theorem kY{set s:Nat}(hs:set<256):s∈S.SG set↔s &&& set=s:=by
 rw[S.SG,List.mem_reverse,WU,Uw,decide_eq_true_iff];constructor
 ·exact λh=>h.2
 ·intro h;have:s<=set:=by rw[<-h];exact Wl
  exact⟨by omega,h⟩
theorem Ha(set:Nat):(S.SG set).Pairwise (· > ·):=by rw[S.SG,List.pairwise_reverse];exact List.pairwise_lt_range.filter _
def exC:Ex->Code
 |.norm=>.skip
 |.exit j=>.exit j
 |.ret=>.ret
theorem K6{id:Nat}{ps:List Nat}{a b:SC}{args:List AV}{t':T}{ex:Ex}(hne:ex≠.norm)
  (hg:g.h.get id=.loop nt t ps assign body dfr .ready none) (ha:bQ C nt assign=a) (hb:bQ C nt body=b) (hp:di t nt ps args=some t')
  (h:wp C d (some id) a (λe t1 df g1=>e=.norm/\df=[]/\g1.h.get id=.loop nt t ps assign body dfr .ready none /\
   wp C d (some id) b (λe _ df g2=>df=[]/\g2.h.get id=.loop nt t ps assign body dfr .busy none/\((e=.norm/\K (.bool true) (g2.put id (.loop nt t ps assign body dfr .ready none)))\/(e=ex/\K (.bool false) (g2.put id (.loop nt t ps assign body dfr .done (some (exC ex)))))))
    t1 [] (g1.put id (.loop nt t ps assign body dfr .busy none))) t' [] g) :
  (cR (I C) d id args g).sat K g D:=by
 subst ha;subst hb;unfold cR;rw[show g.get id=_ from hg];dsimp only;rw[hp];dsimp only;have h1:=mM h;cases hc:(I C).code nt d (some id) assign t' [] g with
 |fail=>rw[hc]at h1;exact h1.elim
 | ok e t1 df g1 =>
  rw[hc]at h1;obtain⟨rfl,rfl,c,h2⟩:=h1;dsimp only;rw[show g1.get id=_ from c];dsimp only;have k:=mM h2;cases hc2:(I C).code nt d (some id) body t1 [] (g1.put id (.loop nt t ps assign body dfr .busy none)) with
  |fail=>rw[hc2]at k;exact k.elim
  | ok e t2 df2 g2 =>
   rw[hc2]at k;obtain⟨rfl,h4,h5⟩:=k;dsimp only;rw[show g2.get id=_ from h4];rcases h5 with⟨rfl,h5⟩|⟨rfl,h5⟩
   ·exact h5
   ·cases e with
    |norm=>exact absurd rfl hne
    |exit j=>exact h5
    |ret=>exact h5
theorem Rv{fv:AV}{ps:List Nat}{fn:Nat}{first cap:List AV}{s:SF}{ex:Ex}(hne:ex≠.norm)(hv:fv=.clo fn first cap)(he:C.ext fn=none)(hs:nFn C fn=some s)
  (hl:(first++(.yld g.nx::cap)).length<=s.nt)
  (h:wp C d none s.code (fnQ C d s.res λ_ g2=>∃nt' t' ps' as' bd' dfr',(g2.h.get g.nx=.loop nt' t' ps' as' bd' dfr' .ready none/\Q .norm t df (g2.put g.nx (.loop nt' t' ps' as' bd' dfr' .exhausted none))) \/
     (g2.h.get g.nx=.loop nt' t' ps' as' bd' dfr' .done (some (exC ex))/\Q ex t df (g2.put g.nx (.loop nt' t' ps' as' bd' dfr' .exhausted (some (exC ex))))))
    (ba 0 (first++(.yld g.nx::cap)) .nil) [] (g.new (.loop nt t ps assign body dfr .ready none))) :
  (bK C (I C) nt d rd fv ps assign body t df dfr g).sat Q:=by
 have h:=i7 hs hl h;subst hv;unfold bK;dsimp only;rw[he];show (match (I C).call d fn (first++(AV.yld g.nx::cap)) (g.new (.loop nt t ps assign body dfr .ready none)) with
  |.ok _ g2=>cT (I C) nt d rd g.nx t df g2
  |.fail=>.fail).sat Q
 cases hc:(I C).call d fn (first++(AV.yld g.nx::cap)) (g.new (.loop nt t ps assign body dfr .ready none)) with
 |fail=>rw[hc]at h;exact h.elim
 | ok v g2 =>
  rw[hc]at h;obtain⟨nt',t',ps',as',bd',dfr',h⟩:=h;show (cT (I C) nt d rd g.nx t df g2).sat Q;unfold cT;rcases h with⟨h1,h2⟩|⟨h1,h2⟩
  ·rw[show g2.get g.nx=_ from h1];exact h2
  ·rw[show g2.get g.nx=_ from h1];dsimp only;rw[Dm];cases ex with
   |norm=>exact absurd rfl hne
   |exit j=>exact h2
   |ret=>exact h2
def ssC(s:Nat):AV:=.clo 118 [] [.tptr 0 1 [[X_ (s:Int)]] 0 0]
theorem Mg[XOc]:C0.ext 118=none:=by kernel_rfl
theorem PW{x:AV}{k:IntKind}{q:Int}{id:Nat}(hx:x=.int k q)(d n:Nat)(hg:h.get id=Xs 1 [[x]]):Hx.snap h d (n+3) (X9 id)=some (.tptr (Nat.max d 0) 1 [[x]] 0 0):=by
 subst hx;simp only[Hx.snap,hg,show Nat.beq 0 0=true from rfl,aD]
 rfl
def SsV(s:AV):VS:=λP k h v=>∃p,v=.clo 118 [] [p]/\((∃id,p=X9 id/\P id/\h.get id=Xs 1 [[s]])\/∃t,p=.tptr t 1 [[s]] 0 0/\t<=k)
theorem RG{s:AV}{k1:IntKind}{q1:Int}(hs:s=.int k1 q1):Snb (SsV s) 4:=by
 refine⟨λ{P k h v j} d r hn=>?_,λ{k h v j} r hn=>?_⟩
 ·obtain⟨p,rfl,a⟩:=r;obtain⟨j,rfl⟩:∃i,j=i+4:=⟨j - 4,by omega⟩;obtain⟨p',e1,c⟩:∃p',Hx.snap h d (j+3) p=some p'/\∃t,p'=.tptr t 1 [[s]] 0 0/\t<=max k d:=by
   rcases a with⟨id,rfl,-,hg⟩|⟨t,rfl,ht⟩
   ·exact⟨_,PW hs d j hg,_,rfl,by show max d 0<=_;omega⟩
   ·exact⟨_,rfl,_,rfl,by omega⟩
  refine⟨.clo 118 [] [p'],?_,p',rfl,.inr c⟩;show (match aD (Hx.snap h d (j+3)) [],aD (Hx.snap h d (j+3)) [p] with|some as',some cs=>some (AV.clo 118 as' cs)|_,_=>none)=_;simp only[aD,e1]
 ·obtain⟨p,rfl,a⟩:=r;obtain⟨j,rfl⟩:∃i,j=i+4:=⟨j - 4,by omega⟩;rcases a with⟨id,rfl,b,-⟩|⟨t,rfl,ht⟩
  ·exact b.elim
  subst hs;exact⟨_,rfl,by show max t 0<=k;omega⟩
theorem Bq[XOc]{s:Nat}(hd:0<d):ae C0 d 84 [X_ (s:Int)] g=.val (ssC s):=by
 have key:∃r,ae C0 d 84 [X_ (s:Int)] g=.val r/\SsV (X_ (s:Int)) NoP 0 .nil r:=by rw[uz];refine a_ wH (xs:=[X_ (s:Int)]) rfl (by simp[j_]) (RG rfl) (by decide) hd ?_;simp only[sz,simprocAttr,j_,nu];exact⟨λ_=>True,_,rfl,.inl ⟨0,rfl,trivial,by simp[sx,SD]⟩⟩
 obtain⟨r,h1,p,rfl,h2⟩:=key;rcases h2 with⟨id,rfl,h,-⟩|⟨t,rfl,ht⟩
 ·exact h.elim
 rw[h1,show t=0 by omega];rfl
theorem F3(t:Nat)(x:AV)(g:G):qh false 1 (.tptr t 1 [[x]] 0 0) g=.val x:=rfl
theorem RI[XOc]{id s:Nat}(hs:s<256)(J:Nat->G->Prop)(E:G->Prop)
  (step:∀(j a:Nat) (g:G) (K':AV->G->Prop) (D:ADf->Prop),(S.SG s)[j]?=some a->g0.nx<=g.nx->J j g ->
   (∀g',J (j+1) g'->g.nx<=g'.nx->K' (.bool true) g')->(∀g',E g'->g.nx<=g'.nx->K' (.bool false) g')->(cR (I C0) d id [X_ (a:Int)] g).sat K' g D)
  (h0:J 0 g0) (fin:∀g',J (S.SG s).length g'->g0.nx<=g'.nx->K (.tup []) g') (finE:∀g',E g'->g0.nx<=g'.nx->K (.tup []) g') :
  wp C0 d none cx.code (fnQ C0 d cx.res K) (ba 0 [.yld id,.tptr 0 1 [[X_ (s:Int)]] 0 0] .nil) [] g0:=by
 obtain⟨m,l⟩:=Kg s hs;simp only[sz,simprocAttr,cx,F3];refine pC (λn t df g=>df=[]/\∃j a:Nat,n=(S.SG s).length - j/\(S.SG s)[j]?=some a/\St t [(0,.yld id),(1,.tptr 0 1 [[X_ (s:Int)]] 0 0),(3,X_ (a:Int))]/\J j g/\g0.nx<=g.nx) (S.SG s).length
  ⟨rfl,0,s,by omega,l,by simp[St,sx],h0,Ui _⟩ ?_
 rintro n t df g ⟨rfl,j,a,rfl,h,⟨c,t1,e,-⟩,q,v⟩;have u:=(Uh.1 h).1;obtain⟨c1,p⟩:=LV m j a h;have i:=(kY hs).1 (Ul h);have r:a<=s:=by rw[<-i];exact Wl
 rw[show (S.SG s).length - j=(S.SG s).length - (j+1)+1 by omega];simp only[jH];simp only[sz,simprocAttr,c,t1,e];refine step j a _ _ _ h (by simpa using v) q ?_ ?_
 ·intro g' b o
  by_cases es:a=0
  ·have e':(a:Int)=0:=by omega
   simp only[sz,simprocAttr,c,t1,e,e'];exact fin _ (by rw[<-c1.1 es];exact b) (by omega)
  ·have e':¬(a:Int)=0:=by omega
   have w1:IntKind.wrap .u64 ((a:Int) - 1)=((a - 1:Nat):Int):=by rw[dR (by omega) (by omega)];omega
   have k:=mC (a - 1) s (by omega) (by omega);rw[show a - 1 &&& s=S.TX s a from rfl]at k;simp only[sz,simprocAttr,c,t1,e,e',w1,F3,k];exact⟨_,by omega,j+1,S.TX s a,rfl,p es,by simp[St,sx,c,t1],b,by omega⟩
 ·intro g' f o;simp only[sz,simprocAttr,c,t1,e];exact finE _ f (by omega)
theorem QL[XOc]{p s:Nat}{fv:AV}{ex:Ex}(hne:ex≠.norm)(hs:s<256)(hv:fv=ssC s)(hp:p<nt)
  (J:Nat->G->Prop) (E:G->Prop) (hJ:∀j (x y:G),x.nx<=y.nx->(∀i,i≠g.nx->y.h.get i=x.h.get i)->J j x->J j y) (hE:∀x y:G,x.nx<=y.nx->(∀i,i≠g.nx->y.h.get i=x.h.get i)->E x->E y) (h0:J 0 g)
  (step:∀(j a:Nat) (g1:G),(S.SG s)[j]?=some a->J j g1->g.nx<g1.nx ->
   wp C0 d (some g.nx) (bQ C0 nt assign) (λe t1 df g1'=>e=.norm/\df=[]/\g1.nx<=g1'.nx/\g1'.h.get g.nx=g1.h.get g.nx/\∀g2:G,g2.nx=g1'.nx->(∀i,i≠g.nx->g2.h.get i=g1'.h.get i)->(∃nt t ps ss bd st pe,g2.h.get g.nx=.loop nt t ps ss bd dfr st pe) ->
    wp C0 d (some g.nx) (bQ C0 nt body) (λe _ df g3=>df=[]/\g2.nx<=g3.nx/\g3.h.get g.nx=g2.h.get g.nx/\((e=.norm/\J (j+1) g3)\/(e=ex/\E g3))) t1 [] g2)
    (fe t p (X_ (a:Int))) [] g1)
  (fin:∀g',J (S.SG s).length g'->g.nx<g'.nx->Q .norm t df g')
  (finE:∀g',E g'->g.nx<g'.nx->Q ex t df g') :
  (bK C0 (I C0) nt d rd fv [p] assign body t df dfr g).sat Q:=by
 refine Rv (fn:=118) (first:=[]) (cap:=[.tptr 0 1 [[X_ (s:Int)]] 0 0]) (s:=cx) hne hv Mg uF (by simp[cx]) ?_;have e1:(g.new (.loop nt t [p] assign body dfr .ready none)).nx=g.nx+1:=by simp
 refine RI (g0:=g.new (.loop nt t [p] assign body dfr .ready none)) (id:=g.nx) hs
  (λj x=>J j x/\x.h.get g.nx=.loop nt t [p] assign body dfr .ready none)
  (λg'=>E g'/\g'.h.get g.nx=.loop nt t [p] assign body dfr .done (some (exC ex))/\g.nx<g'.nx) ?_ ?_ ?_ ?_
 ·rintro j a g1 K' D q b ⟨a1,k⟩ kk kE;rw[e1]at b;refine K6 hne k rfl rfl (t':=fe t p (X_ (a:Int))) ?_ ?_
  ·simp only[di,aa,U_,Un hp];rfl
  ·refine bO _ (step j a g1 q a1 (by omega)) ?_;rintro e t1 df g1' ⟨rfl,rfl,o,f,h⟩;have c:g1'.h.get g.nx=.loop nt t [p] assign body dfr .ready none:=by rw[f,k]
   refine⟨rfl,rfl,c,?_⟩;refine bO _ (h (g1'.put g.nx (.loop nt t [p] assign body dfr .busy none)) (by simp) (λi hi=>by simp[SD,hi]) ⟨nt,t,[p],assign,body,.busy,none,by rw[G.put_h,bg]⟩) ?_;rintro e t2 df g3 ⟨rfl,b2,m,b1⟩;have n:g3.h.get g.nx=.loop nt t [p] assign body dfr .busy none:=by rw[m];simp[SD]
   refine⟨rfl,n,?_⟩;have l:g1'.nx<=g3.nx:=by simpa using b2
   rcases b1 with⟨rfl,b1⟩|⟨rfl,b1⟩
   ·refine .inl ⟨rfl,kk _ ⟨hJ _ g3 _ (by simp) (λi hi=>by simp[SD,hi]) b1,?_⟩ (by simp;omega)⟩;simp[SD]
   ·refine .inr ⟨rfl,kE _ ⟨hE g3 _ (by simp) (λi hi=>by simp[SD,hi]) b1,?_,?_⟩ ?_⟩
    ·simp[SD]
    ·simp;omega
    ·simp;omega
 ·refine⟨hJ 0 g _ (by simp) (λi hi=>?_) h0,?_⟩
  ·simp[SD,hi]
  ·simp[SD]
 ·rintro g' ⟨a1,k⟩ b;rw[e1]at b;exact⟨_,_,_,_,_,_,.inl ⟨k,fin _ (hJ _ g' _ (by simp) (λi hi=>by simp[SD,hi]) a1) (by simp;omega)⟩⟩
 ·rintro g' ⟨a1,k,b⟩ -;exact⟨_,_,_,_,_,_,.inr ⟨k,finE _ (hE g' _ (by simp) (λi hi=>by simp[SD,hi]) a1) (by simpa using b)⟩⟩
theorem NP[XOc]{p s:Nat}{ca cb:SC}{ex:Ex}(hne:ex≠.norm)(hs:s<256)(hv:tat t y=ssC s)(hp:p<nt)
  (J:Nat->G->Prop) (E:G->Prop) (hJ:∀j (x y:G),x.nx<=y.nx->(∀i,i≠g.nx->i≠g.nx+1->y.h.get i=x.h.get i)->J j x->J j y) (hE:∀x y:G,x.nx<=y.nx->(∀i,i≠g.nx->i≠g.nx+1->y.h.get i=x.h.get i)->E x->E y) (h0:J 0 g)
  (step:∀(j a:Nat) (g1:G),(S.SG s)[j]?=some a->J j g1->g.nx+2<=g1.nx ->
   wp C0 d (some (g.nx+1)) ca (λe t1 df g1'=>e=.norm/\df=[]/\Fr g1 g1'/\∀g2:G,g2.nx=g1'.nx->(∀i,i≠g.nx+1->g2.h.get i=g1'.h.get i)->(∃nt t ps ss bd st pe,g2.h.get (g.nx+1)=.loop nt t ps ss bd g.nx st pe) ->
    wp C0 d (some (g.nx+1)) cb (λe _ df g3=>df=[]/\g2.nx<=g3.nx/\g3.h.get g.nx=g2.h.get g.nx/\g3.h.get (g.nx+1)=g2.h.get (g.nx+1)/\((e=.norm/\J (j+1) g3)\/(e=ex/\E g3))) t1 [] g2)
    (fe t p (X_ (a:Int))) [] g1)
  (fin:∀g',J (S.SG s).length g'->g.nx+2<=g'.nx->g'.h.get g.nx=.dfr true->Q .norm t (.mark g.nx::df) g')
  (finE:∀g',E g'->g.nx+2<=g'.nx->g'.h.get g.nx=.dfr true->Q ex t (.mark g.nx::df) g') :
  wp C0 d none (.rng nt (.t y) [p] ca cb) Q t df g:=by
 intro assign body ha hb;subst ha;subst hb;show (bK C0 (I C0) nt d none (tat t y) [p] assign body t (.mark g.nx::df) g.nx (g.new (.dfr true))).sat Q;have e1:(g.new (.dfr true)).nx=g.nx+1:=by simp
 refine QL hne hs hv hp (λj x=>J j x/\x.h.get g.nx=.dfr true) (λx=>E x/\x.h.get g.nx=.dfr true) ?_ ?_ ?_ ?_ ?_ ?_
 ·rintro j x y k b ⟨a1,a2⟩;rw[e1]at b;exact⟨hJ j x y k (λi _ hi=>b i hi) a1,by rw[b _ (by omega),a2]⟩
 ·rintro x y k b ⟨a1,a2⟩;rw[e1]at b;exact⟨hE x y k (λi _ hi=>b i hi) a1,by rw[b _ (by omega),a2]⟩
 ·exact⟨hJ 0 g _ (by simp) (λi hi hi'=>by simp[SD,hi]) h0,by simp[SD]⟩
 ·rintro j a g1 m ⟨a1,a2⟩ k;rw[e1]at k ⊢;refine bO _ (step j a g1 m a1 (by omega)) ?_;rintro e t1 df g1' ⟨rfl,rfl,hf,h⟩;refine⟨rfl,rfl,hf.1,hf.2 _ (by omega),λg2 hn2 hg2 hl=>?_⟩;refine bO _ (h g2 hn2 hg2 hl) ?_;rintro e t2 df g3 ⟨rfl,b2,f,l,b1⟩;have c:g3.h.get g.nx=.dfr true:=by rw[f,hg2 _ (by omega),hf.2 _ (by omega),a2]
  refine⟨rfl,b2,l,?_⟩;rcases b1 with⟨rfl,b1⟩|⟨rfl,b1⟩
  ·exact .inl ⟨rfl,b1,c⟩
  ·exact .inr ⟨rfl,b1,c⟩
 ·rintro g' ⟨a1,a2⟩ k;rw[e1]at k;exact fin g' a1 (by omega) a2
 ·rintro g' ⟨a1,a2⟩ k;rw[e1]at k;exact finE g' a1 (by omega) a2
theorem NQ[XOc]{p s l:Nat}{ca cb:SC}{ex:Ex}(hne:ex≠.norm)(hs:s<256)(hv:tat t y=ssC s)(hp:p<nt)(hl:∃nt t ps ss bd st pe,g.h.get l=.loop nt t ps ss bd dfr st pe)
  (J:Nat->G->Prop) (E:G->Prop) (hJ:∀j (x y:G),x.nx<=y.nx->(∀i,i≠g.nx->y.h.get i=x.h.get i)->J j x->J j y) (hE:∀x y:G,x.nx<=y.nx->(∀i,i≠g.nx->y.h.get i=x.h.get i)->E x->E y) (h0:J 0 g)
  (step:∀(j a:Nat) (g1:G),(S.SG s)[j]?=some a->J j g1->g.nx<g1.nx ->
   wp C0 d (some g.nx) ca (λe t1 df g1'=>e=.norm/\df=[]/\g1.nx<=g1'.nx/\g1'.h.get g.nx=g1.h.get g.nx/\∀g2:G,g2.nx=g1'.nx->(∀i,i≠g.nx->g2.h.get i=g1'.h.get i) ->
    wp C0 d (some g.nx) cb (λe _ df g3=>df=[]/\g2.nx<=g3.nx/\g3.h.get g.nx=g2.h.get g.nx/\((e=.norm/\J (j+1) g3)\/(e=ex/\E g3))) t1 [] g2)
    (fe t p (X_ (a:Int))) [] g1)
  (fin:∀g',J (S.SG s).length g'->g.nx<g'.nx->Q .norm t df g')
  (finE:∀g',E g'->g.nx<g'.nx->Q ex t df g') :
  wp C0 d (some l) (.rng nt (.t y) [p] ca cb) Q t df g:=by
 obtain⟨k,b,c,f,m,n,o,hl⟩:=hl;intro assign body ha hb;subst ha;subst hb;show (match g.get l with
  |.loop _ _ _ _ _ dfr _ _=>bK C0 (I C0) nt d (some l) (tat t y) [p] assign body t df dfr g
  |_=>.fail).sat Q
 rw[show g.get l=_ from hl];dsimp only;refine QL hne hs hv hp J E hJ hE h0 (λj a g1 h1 h2 h3=>?_) fin finE;refine bO _ (step j a g1 h1 h2 h3) ?_;rintro e t1 df g1' ⟨rfl,rfl,b1,b2,h⟩;exact⟨rfl,rfl,b1,b2,λg2 k1 k2 _=>h g2 k1 k2⟩
section
variable {c lo pm:Nat}
variable {α:Type} [DecidableEq α]
theorem xK[XOc](hd:0<d)(ha:a<18446744073709551616)(hb:b<18446744073709551616) :
  ae C0 d 101 [X_ (a:Int),X_ (b:Int)] g=.val (X_ (Nat.gcd a b:Int)):=by
 rw[xC];refine eX Am (xs:=[X_ (a:Int),X_ (b:Int)]) (by simp only[aD,cg 0]) (by simp[oS]) hd ?_;simp only[sz,simprocAttr,oS];refine pC (λk t df g=>df=[]/\∃x y:Nat,x<18446744073709551616/\y<18446744073709551616/\k=y/\Nat.gcd x y=Nat.gcd a b/\St t [(0,X_ (x:Int)),(1,X_ (y:Int))]) b
  ⟨rfl,a,b,ha,hb,rfl,rfl,by simp[sx,St]⟩ ?_
 rintro y t df g ⟨rfl,x,y',hx,c,rfl,hg,h0,h1,-⟩;simp only[sz,simprocAttr,pS,h1];refine ij (λhq=>?_) (λhq=>?_)
 ·have h:0<y:=by simp at hq;omega
  have hm:=VT x h;simp only[sz,simprocAttr,h0,h1,iX .u64 (show (0:Int)<=(x:Int) by omega) (show (0:Int)<(y:Int) by omega)];exact⟨x % y,hm,y,x % y,c,by omega,rfl,by rw[<-hg,Nat.gcd_comm y,<-Nat.gcd_rec,Nat.gcd_comm],by simp[St,sx]⟩
 ·have h:y=0:=by simp at hq;omega
  subst h;rw[Nat.gcd_zero_right]at hg;simp only[sz,simprocAttr,pT,h0,hg]
theorem tE[XOc]{a:Int}(hd:0<d)(ha:0<=a/\a<9223372036854775808):ae C0 d 102 [X8 a] g=.val (X_ a):=by
 rw[su];refine eX wD (xs:=[X8 a]) (by simp only[aD,cg 0]) (by simp[lp]) hd ?_;simp only[sz,simprocAttr,lp];refine ij (λhq=>?_) (λhq=>?_)
 ·simp at hq;omega
 ·simp only[sz,simprocAttr,dR ha.1 (show a<18446744073709551616 by omega)]
theorem Re[XOc]{x:Nat}(hd:0<d)(hx:x<=4611686018427387903)(hy:y<=4611686018427387903) :
  ae C0 d 103 [.bool false,.agg [X_ 0,X_ (x:Int)],.agg [X_ 0,X_ (y:Int)]] g=.val (.agg [X8 (x:Int),X8 (y:Int)]):=by
 have key:∃r,ae C0 d 103 [.bool false,.agg [X_ 0,X_ (x:Int)],.agg [X_ 0,X_ (y:Int)]] g=.val r/\Agg (((x:Int),(y:Int)):QI) NoP 0 .nil r:=by
  rw[BH];refine a_ Fl (xs:=[.bool false,.agg [X_ 0,X_ (x:Int)],.agg [X_ 0,X_ (y:Int)]]) rfl (by simp[vN]) (dw _) (by decide) hd ?_;have z0:∀id,AO 2 1 (X9 id) (X8 0)=.val (X9 id):=λid=>MX 2 1 id 0 0 0 .i64 (j:=0) (by decide);have z1:∀id,AO 2 1 (X9 id) (X8 1)=.val (.hptr id 0 0 1):=λid=>MX 2 1 id 0 0 0 .i64 (j:=1) (by decide);have h:decide ((4611686018427387903:Int)<(x:Int))=false:=by simp;omega
  have k:decide ((4611686018427387903:Int)<(y:Int))=false:=by simp;omega
  simp only[sz,simprocAttr,vN,wL,z0,z1,h,k];simp only[sz,simprocAttr,uQ,z1,aE (show -9223372036854775808<=(x:Int) by omega) (show (x:Int)<9223372036854775808 by omega),aE (show -9223372036854775808<=(y:Int) by omega) (show (y:Int)<9223372036854775808 by omega)];exact⟨NoP,rZ.2 rfl⟩
 obtain⟨r,h1,h2⟩:=key;rw[h1,rZ.1 h2]
theorem KA[XOc](d:Nat)(a b:AV)(g:G):∃v,(I C0).call d 128 [a,b] g=.ok v g:=by
 have key:=i7 (C:=C0) (d:=d) (f:=128) («as»:=[a,b]) (g:=g) (K:=λv g'=>g'=g) sI (by simp[gH]) ?_
 ·cases hc:(I C0).call d 128 [a,b] g with
  |fail=>rw[hc]at key;exact key.elim
  |ok v g'=>rw[hc]at key;exact⟨v,by rw[show g'=g from key]⟩
 have e:jZ true (.iface true) .nili .nili=.val (.bool false):=rfl;simp only[gH,sx,oC];simp only[sz,simprocAttr,e]
theorem ML[XOc]{fn:Nat}{a a':List AV}{x:QI}(hd:0<d)(hs:Hx.snap g.h d an (.clo fn [] a)=some (.clo fn [] a'))(hc:∀(g:G) (K:AV->G->Prop) (D:ADf->Prop),(∀g',Fr g g'->K (.agg [X8 x.1,X8 x.2]) g')->(dj C0 (I C0) (d+1) (.clo fn [] a') [] g).sat K g D) :
  ae C0 d 99 [.clo fn [] a] g=.val (.tup [.agg [X8 x.1,X8 x.2],X8 0]):=by
 have key:∃r,ae C0 d 99 [.clo fn [] a] g=.val r/\oE (Agg x) (One (0:Int)) NoP 0 .nil r:=by
  rw[sn];refine a_ vF (xs:=[.clo fn [] a']) (by simp only[aD,hs]) (by simp[jc]) (bY (m:=2) (dw _) (aG _) (by decide) (by decide)) (by decide) hd ?_;simp only[sz,simprocAttr,jc,mf];rw[rg (f:=128) (first:=[]) (cap:=[X9 0,X9 1]) (by simp[sx])];simp only[sz,simprocAttr,zq,zh];refine hc _ _ _ λg2 fr2=>?_;have e:g2.h.get 0=Xs 2 [[X8 0,X8 0]]:=by rw[fr2.2 0 (by simp[sx])];simp[sx,SD]
  have i:g2.h.get 1=Xs 1 [[X8 0]]:=by rw[fr2.2 1 (by simp[sx])];simp[sx]
  simp only[sz,simprocAttr,e,i];obtain⟨v,c⟩:=KA (d+1) (X9 0) (X9 1) ((g2.put 0 (Xs 2 [[X8 x.1,X8 x.2]])).put 1 (Xs 1 [[X8 0]]));refine ud c ?_;simp only[sx,sy,↓reduceIte,Nat.reduceEqDiff,Nat.reduceAdd,Nat.reduceLeDiff];exact⟨NoP,_,_,rfl,rZ.2 rfl,ax.2 rfl⟩
 obtain⟨r,h1,a,b,rfl,h2,k⟩:=key;have k:=ax.1 k;injection k with k;rw[h1,rZ.1 h2,k]
theorem Nk[XOc]{n z:Nat}(hd:0<d)(hn:n<=4611686018427387903)(hm0:0<m)(hm:m<=4611686018427387903)
  (kk:∀g',Fr g g'->K (.agg [X8 (S.Tg n m).1,X8 (S.Tg n m).2]) g') :
  (dj C0 (I C0) d (.clo 100 [] [.tptr z 1 [[X8 (n:Int)]] 0 0,.tptr z 1 [[X8 (m:Int)]] 0 0]) [] g).sat K g D:=by
 have hg0:0<Nat.gcd n m:=Nat.gcd_pos_of_pos_right n hm0;have q1:n / Nat.gcd n m<=n:=V9 _ _;have q2:m / Nat.gcd n m<=m:=V9 _ _;have e1:∀g,ae C0 d 102 [X8 (n:Int)] g=.val (X_ (n:Int)):=λg=>tE hd ⟨by omega,by omega⟩;have k:∀g,ae C0 d 102 [X8 (m:Int)] g=.val (X_ (m:Int)):=λg=>tE hd ⟨by omega,by omega⟩;have a:∀g,ae C0 d 101 [X_ (n:Int),X_ (m:Int)] g=.val (X_ (Nat.gcd n m:Int)):=λg=>xK hd (by omega) (by omega);have l1:decide ((n:Int)<0)=false:=by simp
 have l2:decide ((m:Int)<0)=false:=by simp
 have wq:∀x:Nat,x<=4611686018427387903->∀y:Nat,0<y->bB .quo (X_ (x:Int)) (X_ (y:Int))=.val (X_ ((x / y:Nat):Int)):=λx hx y hy=>by have h:x / y<=x:=V9 _ _;rw[Iy .u64 (Wz x) (by omega),<-Int.natCast_ediv];generalize x / y=z at h;rw[dR (by omega) (by omega)]
 have b:∀g,ae C0 d 103 [.bool false,.agg [X_ 0,X_ ((n / Nat.gcd n m:Nat):Int)],.agg [X_ 0,X_ ((m / Nat.gcd n m:Nat):Int)]] g=.val (.agg [X8 ((n / Nat.gcd n m:Nat):Int),X8 ((m / Nat.gcd n m:Nat):Int)]):=λg=>Re hd (by omega) (by omega);rw[Hb];refine kJ Al (by simp[oR]) ?_;simp only[sz,simprocAttr,oR,rB,sf,iT,e1,k,a,l1,l2,RW,wq n hn _ hg0,wq m hm _ hg0,b];refine⟨?_,kk _ ⟨by simp;omega,λi hi=>?_⟩⟩
 ·simp only[UQ,UP,UM,UE];exact bf (XI (XI (true::[]))) [] (by simp[All2,am,aA,tB,B6]) (by decide) (by simp)
 ·simp[SD,show ¬i=g.nx by omega]
theorem Ax[XOc]{n:Nat}(hd:0<d)(hn:n<=4611686018427387903)(hm0:0<m)(hm:m<=4611686018427387903) :
  ae C0 d 65 [X8 (n:Int),X8 (m:Int)] g=.val (.tup [.agg [X8 (S.Tg n m).1,X8 (S.Tg n m).2],X8 0]):=by
 have key:∃r,ae C0 d 65 [X8 (n:Int),X8 (m:Int)] g=.val r/\oE (Agg (S.Tg n m)) (One (0:Int)) NoP 0 .nil r:=by
  rw[zQ];refine a_ DO (xs:=[X8 (n:Int),X8 (m:Int)]) rfl (by simp[sP]) (bY (m:=2) (dw _) (aG _) (by decide) (by decide)) (by decide) hd ?_;have l1:decide ((m:Int)=0)=false:=by simp;omega
  simp only[sz,simprocAttr,sP,uP,l1];rw[ML (x:=S.Tg n m) (a':=[.tptr (Nat.max (d+1) 0) 1 [[X8 (n:Int)]] 0 0,.tptr (Nat.max (d+1) 0) 1 [[X8 (m:Int)]] 0 0]) (UC d) ?_ (λg K D kk=>Nk (UC _) hn hm0 hm kk)]
  ·simp only[sz,simprocAttr];exact⟨NoP,_,_,rfl,rZ.2 rfl,ax.2 rfl⟩
  ·rw[Li (a':=.tptr (Nat.max (d+1) 0) 1 [[X8 (n:Int)]] 0 0) (b':=.tptr (Nat.max (d+1) 0) 1 [[X8 (m:Int)]] 0 0) (GF (n:=(n:Int)) (d+1) 20 (by simp[sx,SD])) (GF (n:=(m:Int)) (d+1) 20 (by simp[sx,SD]))]
 obtain⟨r,h1,a,b,rfl,h2,h⟩:=key;have h:=ax.1 h;injection h with h;rw[h1,rZ.1 h2,h]
def RH(pm:List Nat)(ws:List (Bool×Bool)):Bool:=(List.range ws.length).all λj=>(List.range j).all λi=>!(ws.getD i (false,false)).2 || !(ws.getD j (false,false)).1 || (pm.getD j 0).testBit i
theorem yF{pm:List Nat}{i:Nat}{x:Foot}:∀{r:List Foot} {j:Nat},(∀b y,r[b]?=some y->y.wr=[]\/(pm.getD (j+b) 0).testBit i=true)->b_ pm i x j r=0
 |[],_,_=>rfl
 | y::r,j,h=>by
  have h0:=h 0 y rfl;have ih:b_ pm i x (Nat.succ j) r=0:=yF λb z hz=>by have:=h (b+1) z (by simpa using hz);rwa [show j+(b+1)=Nat.succ j+b by omega]at this
  have hc:((pm.getD j 0).testBit i || !meets y.wr (fst1 x.lk.sr))=true:=by
   rcases h0 with h0|h0
   ·rw[h0];simp[meets]
   ·rw[VH]at h0;rw[h0,WH]
  rw[b_,aa,Un hc,ih]
theorem Dd{pm:List Nat}:∀{l:List Foot} {i:Nat},(∀a x,l[a]?=some x->x.lk.sr=[]\/∀b y,a<b->l[b]?=some y->y.wr=[]\/(pm.getD (i+b) 0).testBit (i+a)=true)->gg pm i l=true
 |[],_,_=>rfl
 | x::r,i,h=>by
  have ih:gg pm (Nat.succ i) r=true:=Dd λa y hy=>by
   rcases h (a+1) y (by simpa using hy) with h'|h'
   ·exact .inl h'
   ·refine .inr λb z hb hz=>?_;have:=h' (b+1) z (by omega) (by simpa using hz);rwa [show i+(b+1)=Nat.succ i+b by omega,show i+(a+1)=Nat.succ i+a by omega]at this
  rw[gg,ih];rcases h 0 x rfl with h'|h'
  ·rw[h'];first|done|rfl
  ·have hc:b_ pm i x (Nat.succ i) r=0:=yF λb y hy=>by have:=h' (b+1) y (by omega) (by simpa using hy);rwa [show i+(b+1)=Nat.succ i+b by omega,VH]at this
   rw[hc];cases x.lk.sr<;>rfl
theorem FB{pm:List Nat}{fs:List Foot}(ws:List (Bool×Bool))(L:List (Nat×Nat))(hw:All2 (λ(f:Foot) (w:Bool×Bool)=>(w.2=false->f.lk.sr=[])/\(w.1=false->f.wr=[])) fs ws)(hs:RH pm ws=true)(hd:Er pm (ws.map (·.1)) L=true)
  (hL:∀p∈L,∀x y,fs[p.1]?=some x->fs[p.2]?=some y->be x y=true):jt pm fs=true:=by
 unfold jt;rw[aa,Un]
 ·refine Dd λa x ha=>?_;obtain⟨wa,d,ka⟩:=hw.get ha;cases e:wa.2 with
  |false=>exact .inl (ka.1 e)
  | true =>
   refine .inr λb y hab hb=>?_;obtain⟨wb,k,kb⟩:=hw.get hb;have c:=(Uh.1 k).1;have:=Uz.1 (Uz.1 hs b (Uw.2 c)) a (Uw.2 hab);simp only[U8,d,k,Us,e,WV,Bool.false_or,UZ,Vb]at this;rcases this with h|h
   ·exact .inl (kb.2 h)
   ·refine .inr ?_;rw[UU,UU,U8];exact h
 ·refine n_ λa b x y hab ha hb=>?_;simp only[UU];obtain⟨wa,d,ka⟩:=hw.get ha;obtain⟨wb,k,kb⟩:=hw.get hb;have c:=(Uh.1 k).1;have:=Uz.1 (Uz.1 hd b (Uw.2 (by simpa using c))) a (Uw.2 hab);simp only[Eq,UZ]at this;rcases this with (h|h)|h
  ·rw[h,WH]
  ·simp only[U8,Uo,d,k,VK,Us,Uk,Vb]at h;have ex:=ka.2 h.1;have ey:=kb.2 h.2;simp only[be,eG,dg,ex,ey,Wn,Xl]
  ·rw[hL (a,b) (VP.1 h) x y ha hb,Xl]
def mgt(L:List (α×Int))(k:α):Int:=match L with
 |[]=>0
 | (a,v)::r=>if k=a then v else mgt r k
def mst(k:α)(v:Int):List (α×Int)->List (α×Int)
 |[]=>[(k,v)]
 | (a,w)::r=>if k=a then (k,v)::r else (a,w)::mst k v r
theorem Ji(k j:α)(v:Int):∀L:List (α×Int),mgt (mst k v L) j=if j=k then v else mgt L j
 |[]=>by simp only[mst,mgt]
 | (a,w)::r=>by
  rw[mst]
  by_cases e:k=a
  ·subst e;rw[Un rfl,mgt,mgt]
   by_cases e2:j=k
   ·rw[Un e2,Un e2]
   ·rw[Um e2,Um e2,Um e2]
  ·rw[Um e,mgt,Ji k j v r,mgt]
   by_cases e2:j=a
   ·rw[Un e2,Un e2,Um (λh=>e (by rw[<-h,e2]))]
   ·rw[Um e2,Um e2]
def mcl(kf:α->AV)(L:List (α×Int)):List (AV×AV):=L.map λp=>(kf p.1,X8 p.2)
theorem IK{kf:α->AV}(hk:∀a b,jP (kf a) (kf b)=some (decide (a=b)))(k:α):∀L:List (α×Int),jO (kf k) (mcl kf L)=some (if L.any (λp=>decide (k=p.1)) then some (X8 (mgt L k)) else none)
 |[]=>rfl
 | (a,w)::r=>by
  rw[mcl,VM,jO,hk]
  by_cases e:k=a
  ·subst e;simp[mgt]
  ·have ih:=IK hk k r;rw[mcl]at ih;simp only[Va e];rw[ih,List.any_cons,mgt,Um e,Va e,Bool.false_or]
theorem F8(k:α):∀L:List (α×Int),L.any (λp=>decide (k=p.1))=false->mgt L k=0
 |[],_=>rfl
 | (a,w)::r,h=>by rw[List.any_cons,Bool.or_eq_false_iff]at h;rw[mgt,Um (of_decide_eq_false h.1),F8 k r h.2]
theorem Ng{kf:α->AV}(hk:∀a b,jP (kf a) (kf b)=some (decide (a=b))){kk:KeyKind}{m k:T->AV}{id:Nat}{a:α}{L:List (α×Int)}(h1:m t=.hmap id)(h2:k t=kf a)(ho:jQ kk (kf a)=true)(hg:g.h.get id=.map (mcl kf L)) :
  cz kk (X8 0) false m k t g=.val (X8 (mgt L a)):=by
 unfold cz;rw[h1,h2,ho];simp only[G.get_eq,hg,IK hk];cases h:L.any (λp=>decide (a=p.1)) with
 |true=>simp
 |false=>simp[F8 a L h]
theorem Be{kt et:Nat}{z:AV}{ok:Bool}(hu:C.P.underlying ty=some (.map kt et))(hz:rR C.P et=some z)(d:Nat)(rd:Option Nat)(t:T)(g:G):(SO.raw (.lookup ty (.tmp a) (.tmp b) ok)).run C d rd t g=cz (ck C.P kt) z ok (λt=>tat t a) (λt=>tat t b) t g:=by obtain⟨h,e1,e⟩:=aM (C:=C) (x:=.tmp a) (o:=.t a) rfl;obtain⟨k,c,f⟩:=aM (C:=C) (x:=.tmp b) (o:=.t b) rfl;show (bC C _).run (I C) d rd t g=_;rw[bI (s:=⟨cz (ck C.P kt) z ok h.run k.run⟩) rfl (by simp only[cm,e1,c,hu,hz])];rw[show h.run=λt=>tat t a from funext e,show k.run=λt=>tat t b from funext f]
theorem ue(t:T)(g:G):SO.foot C t g (.raw (.lookup ty (.tmp a) (.tmp b) false))=⟨[],(af (tat t a)).map (·,ty),[],false⟩:=by
 obtain⟨k,e1,h⟩:=aM (C:=C) (x:=.tmp a) (o:=.t a) rfl;show (aH C _).run t g=_;simp only[aH,e1,h]
 rfl
theorem OD[XOc]:rR C0.P 3=some (X8 0):=by kernel_rfl
def mix(k:α):List (α×Int)->Nat
 |[]=>0
 | (a,_)::r=>if k=a then 0 else mix k r+1
def y5(k:α):List (α×Int)->List (α×Int)
 |[]=>[(k,0)]
 | (a,w)::r=>if k=a then (a,w)::r else (a,w)::y5 k r
theorem Jf(k:α):∀L:List (α×Int),(y5 k L)[mix k L]?=some (k,mgt L k)
 |[]=>rfl
 | (a,w)::r=>by
  rw[y5,mix,mgt]
  by_cases e:k=a
  ·subst e;simp
  ·simp[e,Jf k r]
theorem F6(k:α)(x:Int):∀L:List (α×Int),(y5 k L).set (mix k L) (k,x)=mst k x L
 |[]=>rfl
 | (a,w)::r=>by
  rw[y5,mix,mst]
  by_cases e:k=a
  ·subst e;simp
  ·simp[e,F6 k x r]
theorem Jg(k:α):∀L:List (α×Int),L.any (λp=>decide (k=p.1))=true->y5 k L=L
 |[],h=>by cases h
 | (a,w)::r,h=>by
  rw[y5]
  by_cases e:k=a
  ·rw[Un e]
  ·rw[Um e,Jg k r (by simpa [e] using h)]
theorem F5(k:α):∀L:List (α×Int),L.any (λp=>decide (k=p.1))=false->y5 k L=L++[(k,0)]/\mix k L=L.length
 |[],_=>⟨rfl,rfl⟩
 | (a,w)::r,h=>by rw[List.any_cons,Bool.or_eq_false_iff]at h;have e:=of_decide_eq_false h.1;obtain⟨h1,h2⟩:=F5 k r h.2;rw[y5,mix,Um e,Um e,h1,h2];exact⟨rfl,rfl⟩
theorem Av{kf:α->AV}(hk:∀a b,jP (kf a) (kf b)=some (decide (a=b)))(k:α):∀(L:List (α×Int)) (s:Nat),gv (kf k) s (mcl kf L)=some (if L.any (λp=>decide (k=p.1)) then some (s+mix k L,X8 (mgt L k)) else none)
 |[],s=>rfl
 | (a,w)::r,s=>by
  rw[mcl,VM,gv,hk]
  by_cases e:k=a
  ·subst e;simp[mgt,mix]
  ·have ih:=Av hk k r (Nat.succ s);rw[mcl]at ih;simp only[Va e];rw[ih,List.any_cons,mgt,Um e,Va e,Bool.false_or,mix,Um e,show Nat.succ s+mix k r=s+(mix k r+1) by omega]
theorem Me{α:Type}{kf:α->AV}{m st x:T->AV}{id:Nat}{a:α}{y v:Int}{L:List (α×Int)}(h1:m t=.hmap id)(h2:st t=X8 (i:Int))(h3:x t=X8 v)(hg:g.h.get id=.map (mcl kf L))(hi:L[i]?=some (a,y)) :
  da m st x t g=.upd .undef (g.put id (.map (mcl kf (L.set i (a,v))))):=by
 have e:xV i (mcl kf L)=some (kf a,X8 y):=by rw[dO,mcl,Uo,hi];rfl
 have b:Ce i (kf a,X8 v) (mcl kf L)=mcl kf (L.set i (a,v)):=by rw[il,mcl,mcl,Vy]
 unfold da;simp only[h1,h2,h3,G.get_eq,hg];show (match xV i (mcl kf L) with|some (k,_)=>OR.upd .undef (g.put id (.map (Ce i (k,X8 v) (mcl kf L))))|none=>.fail)=_;rw[e];show OR.upd .undef (g.put id (.map (Ce i (kf a,X8 v) (mcl kf L))))=_;rw[b]
def pk(a:Int×Int):AV:=.agg [X8 a.1,X8 a.2]
theorem NJ(a b:Int×Int):jP (pk a) (pk b)=some (decide (a=b)):=by
 show (match m6 (X8 a.1) (X8 b.1),dY [X8 a.2] [X8 b.2] with|some x,some y=>some (ak x y false)|_,_=>none)=_;show some (ak (AG a.1 b.1) (ak (AG a.2 b.2) true false) false)=_;rw[kV,kV];obtain⟨a1,a2⟩:=a;obtain⟨b1,b2⟩:=b
 by_cases h1:a1=b1<;>by_cases h2:a2=b2<;>simp[h1,h2,ak]
def ktP[XOc]:Nat:=match C0.P.underlying tPP with|some (.map k _)=>k|_=>0
theorem Ih[XOc]:C0.P.underlying tPP=some (.map ktP 3):=by kernel_rfl
theorem Nb[XOc](a:Int×Int):jQ (ck C0.P ktP) (pk a)=true:=by
 have e:ck C0.P ktP=.flat [.int .i64,.int .i64]:=by kernel_rfl
 rw[e];rfl
theorem K2[XOc](d:Nat)(rd:Option Nat)(t:T)(g:G):(bC C0 (.makeMap tPP none)).run (I C0) d rd t g=.upd (.hmap g.nx) (g.new (.map [])):=by kernel_rfl
theorem C6{kt et:Nat}{z:AV}(hu:C.P.underlying ty=some (.map kt et))(hz:rR C.P et=some z)(d:Nat)(rd:Option Nat)(t:T)(g:G):(bC C (.mapEntry ty (.tmp a) (.tmp b))).run (I C) d rd t g=dh (ck C.P kt) z (λt=>tat t a) (λt=>tat t b) t g:=by obtain⟨h,e1,e⟩:=aM (C:=C) (x:=.tmp a) (o:=.t a) rfl;obtain⟨k,c,f⟩:=aM (C:=C) (x:=.tmp b) (o:=.t b) rfl;rw[bI (s:=⟨dh (ck C.P kt) z h.run k.run⟩) rfl (by simp only[cm,e1,c,hu,hz])];rw[show h.run=λt=>tat t a from funext e,show k.run=λt=>tat t b from funext f]
theorem HV(d:Nat)(rd:Option Nat)(t:T)(g:G):(bC C (.entryStore ty (.tmp a) (.tmp b) (.tmp c))).run (I C) d rd t g=da (λt=>tat t a) (λt=>tat t b) (λt=>tat t c) t g:=by obtain⟨h,e1,j⟩:=aM (C:=C) (x:=.tmp a) (o:=.t a) rfl;obtain⟨k,f,l⟩:=aM (C:=C) (x:=.tmp b) (o:=.t b) rfl;obtain⟨e,i,m⟩:=aM (C:=C) (x:=.tmp c) (o:=.t c) rfl;rw[bI (s:=⟨da h.run k.run e.run⟩) rfl (by simp only[cm,e1,f,i])];rw[show h.run=λt=>tat t a from funext j,show k.run=λt=>tat t b from funext l,show e.run=λt=>tat t c from funext m]
theorem FE(t:T)(g:G):SO.foot C t g (.raw (.mapEntry ty (.tmp a) (.tmp b)))=⟨af (tat t a),[],(af (tat t a)).map (·,ty),false⟩:=by
 obtain⟨k,e1,h⟩:=aM (C:=C) (x:=.tmp a) (o:=.t a) rfl;show (aH C _).run t g=_;simp only[aH,e1,h]
 rfl
theorem CN(t:T)(g:G):SO.foot C t g (.raw (.entryStore ty (.tmp a) (.tmp b) (.tmp c)))=am (af (tat t a)):=by
 obtain⟨k,e1,h⟩:=aM (C:=C) (x:=.tmp a) (o:=.t a) rfl;show (aH C _).run t g=_;simp only[aH,e1,h]
 rfl
theorem Jd[XOc]{id:Nat}{k:Int×Int}{L:List ((Int×Int)×Int)}(h1:tat t a=.hmap id)(h2:tat t b=pk k)(hg:g.h.get id=.map (mcl pk L)):(bC C0 (.lookup tPP (.tmp a) (.tmp b) false)).run (I C0) d rd t g=.val (X8 (mgt L k)):=by have:=Be (C:=C0) (a:=a) (b:=b) (ok:=false) Ih OD d rd t g;rw[show (SO.raw (.lookup tPP (.tmp a) (.tmp b) false)).run C0 d rd t g=(bC C0 (.lookup tPP (.tmp a) (.tmp b) false)).run (I C0) d rd t g from rfl]at this;rw[this];exact Ng NJ h1 h2 (Nb k) hg
theorem Ma[XOc]{id:Nat}{k:Int×Int}(L:List ((Int×Int)×Int)) :
  (∀(t:T) (g:G),tat t a=.hmap id->tat t b=pk k->g.h.get id=.map (mcl pk L)->(bC C0 (.mapEntry tPP (.tmp a) (.tmp b))).run (I C0) d rd t g=.val (.tup [X8 (mgt L k),X8 (mix k L:Int)]))/\y5 k L=L \/
  (∀(t:T) (g:G),tat t a=.hmap id->tat t b=pk k->g.h.get id=.map (mcl pk L)->(bC C0 (.mapEntry tPP (.tmp a) (.tmp b))).run (I C0) d rd t g=.upd (.tup [X8 0,X8 (mix k L:Int)]) (g.put id (.map (mcl pk (y5 k L))))):=by
 cases h:L.any (λp=>decide (k=p.1)) with
 | true =>
  refine .inl ⟨λt g h1 h2 hg=>?_,Jg k L h⟩;rw[C6 Ih OD];unfold dh;simp only[h1,h2,Nb,G.get_eq,hg,Av NJ,h];simp
 | false =>
  obtain⟨e1,c⟩:=F5 k L h;refine .inr λt g h1 h2 hg=>?_;rw[C6 Ih OD,e1,c];unfold dh;simp only[h1,h2,Nb,G.get_eq,hg,Av NJ,h];simp[mcl,ak,aq]
theorem Km[XOc]{id:Nat}{k:Int×Int}{y:Int}{L:List ((Int×Int)×Int)}(h1:tat t a=.hmap id)(h2:tat t b=X8 (i:Int))(h3:tat t c=X8 x)(hg:g.h.get id=.map (mcl pk L))(hi:L[i]?=some (k,y)):(bC C0 (.entryStore tPP (.tmp a) (.tmp b) (.tmp c))).run (I C0) d rd t g=.upd .undef (g.put id (.map (mcl pk (L.set i (k,x))))):=by rw[HV];exact Me (kf:=pk) h1 h2 h3 hg hi
def S.pq(n:Net)(e:List Int)(v:Nat)(x:Int)(w:Nat):Bool:=S.pe n e w&&decide ((S.ST (S.Sx n) (w:Int))[v]?=some x)
def S.S0(n:Net)(e:List Int)(v:Nat):List QI:=(List.range ((S.Sx n)[v]?.getD 0).toNat).map λx:Nat=>S.Tg (S.SJ n (S.pq n e v (x:Int)) (S.SZ n)).toNat (S.SM n e).toNat
def S.wt(n:Net)(w:Nat):Int:=S.Tl n (S.ST (S.Sx n) (w:Int))
theorem tD{pm:List Nat}{fs:List Foot}(ws:List Bool)(L:List (Nat×Nat))(hw:All2 (λ(f:Foot) (w:Bool)=>w=false->f.wr=[]) fs ws)(hs:gg pm 0 fs=true)(hd:Er pm ws L=true)
  (hL:∀p∈L,∀x y,fs[p.1]?=some x->fs[p.2]?=some y->be x y=true):jt pm fs=true:=by
 unfold jt;rw[aa,Un]
 ·exact hs
 ·refine n_ λa b x y hab ha hb=>?_;simp only[UU];obtain⟨wa,d,ka⟩:=hw.get ha;obtain⟨wb,k,kb⟩:=hw.get hb;have c:=(Uh.1 k).1;have:=Uz.1 (Uz.1 hd b (Uw.2 c)) a (Uw.2 hab);simp only[Eq,UZ]at this;rcases this with (h|h)|h
  ·rw[h,WH]
  ·simp only[U8,d,k,Us,Uk,Vb]at h;have ex:=ka h.1;have ey:=kb h.2;simp only[be,eG,dg,ex,ey,Wn,Xl]
  ·rw[hL (a,b) (VP.1 h) x y ha hb,Xl]
structure PoM (n:Net) (e vals:List Int) (j k m:Nat) (h:H):Prop where
 hm:∃L:List ((Int×Int)×Int),h.get m=.map (mcl pk L)/\∀(v:Nat) (x:Int),mgt L ((v:Int),x)=S.SJ n (S.pq n e v x) j+if v<k/\vals[v]?=some x then S.wt n j else 0
structure PoK (g0:G) (m:Nat) (g:G):Prop where
 nx:g0.nx<=g.nx
 fr:∀i,i≠m->i<g0.nx->g.h.get i=g0.h.get i
theorem PA[XOc]{pw:Nat}(hr:NR n)(hpe:S.pe n e j=true)(hvals:vals=S.ST (S.Sx n) (j:Int))(hj:j<1024)
  (hu:SlR (λi=>lo<=i/\i<g0.nx) 0 g0.h vals u) (hlo:m<lo) (hp:pm≠m/\pm<g0.nx) (hw:pw≠m/\pw<g0.nx)
  (k6:g0.h.get pm=Xs 1 [[.hmap m]]) (k8:g0.h.get pw=Xs 3 [[X8 (j:Int),X8 (S.wt n j),u]])
  (h0:PoM n e vals j 0 m g0.h) (h6:tat t 6=X9 pm) (h8:tat t 8=X9 pw) (h21:tat t 21=u) (h22:tat t 22=X8 (vals.length:Int)) (h23:tat t 23=X8 0)
  (fin:∀t g,PoK g0 m g->PoM n e vals j vals.length m g.h->Q (.exit 2) t [] g):wpL (wp C0 d rd cp) Q t [] g0:=by
 have O:vals.length<=8:=by rw[hvals,Il,bE];exact hr.l2
 have z:∀g,PoK g0 m g->ah g.h 1 u=some (vals.map ci):=λg hk=>(hu.wd λi hi=>⟨hi,hk.fr i (by omega) hi.2⟩:SlR (λi=>lo<=i/\i<g0.nx) 0 g.h vals u).ints;simp only[cp];refine aV (m:=vals.length) (by omega) (λk t df g=>df=[]/\St t [(6,X9 pm),(8,X9 pw),(21,u)]/\PoK g0 m g/\PoM n e vals j k m g.h) ⟨rfl,⟨h6,h8,h21,trivial⟩,⟨Ui _,λ_ _ _=>rfl⟩,h0⟩ h23 h22 (by decide)
  (by rintro k t df g v s (rfl|rfl|rfl) ⟨a1,⟨b1,b2,F,-⟩,E⟩<;>exact⟨a1,by simp[St,sx,b1,b2,F],E⟩) ?_ ?_
 ·clear h6 h8 h21 h22 h23 h0;rintro k t df g hk ⟨rfl,⟨h6,h8,h21,-⟩,hK,L,l1,l2⟩ h23 h22;have ru:=z g hK;obtain⟨x,hx,-,-⟩:=ay hk;have D:k<(vals.map ci).length:=by simpa using hk
  have R:(vals.map ci)[k]?=some (ci x):=by rw[Uo,hx];rfl
  have N:xX u=true:=Eu ru D;refine jy (P:=λt' df g'=>df=[]/\g'=g/\St t' [(9,X8 (k:Int)),(10,X8 x),(6,X9 pm),(8,X9 pw),(21,u),(22,X8 (vals.length:Int)),(23,X8 (k:Int))]) ?_ ?_
  ·simp only[sz,simprocAttr,h21,h23,ru,D,R,ci];simp[St,sx,h6,h8,h21,h22,h23]
  clear h6 h8 h21 h22 h23;rintro t df g' ⟨rfl,rfl,h9,l,h6,h8,h21,h22,h23,-⟩;obtain⟨K,f⟩:∃K:Int×Int,K=((k:Int),x):=⟨_,rfl⟩;have hb:=zw hr (p:=S.pq n e k x) (j:=j+1) (by omega);have w:S.pq n e k x j=true:=by rw[S.pq,hpe,<-hvals,hx];simp
  have r:mgt L K=S.SJ n (S.pq n e k x) j:=by rw[f,l2];simp
  have hs:S.SJ n (S.pq n e k x) (j+1)=mgt L K+S.wt n j:=by rw[S.SJ,w,r];simp[S.wt]
  have w1:IntKind.wrap .i64 (mgt L K+S.wt n j)=mgt L K+S.wt n j:=by rw[<-hs,aE (by omega) (by omega)]
  have A:g'.h.get pm=Xs 1 [[.hmap m]]:=by rw[hK.fr pm hp.1 hp.2,k6]
  have B:g'.h.get pw=Xs 3 [[X8 (j:Int),X8 (S.wt n j),u]]:=by rw[hK.fr pw hw.1 hw.2,k8]
  have epk:AV.agg [X8 (k:Int),X8 x]=pk K:=by rw[f];rfl
  have o:∀a b:Int,vy [X8 0,X8 0] [(0,1),(1,1)] [X8 a,X8 b]=.val (.agg [X8 a,X8 b]):=λa b=>rfl;have lk:∀(t:T) (g:G),tat t 28=.hmap m->tat t 31=pk K->g.h.get m=.map (mcl pk L)->(bC C0 (.lookup tPP (.tmp 28) (.tmp 31) false)).run (I C0) d rd t g=.val (X8 (mgt L K)):=λt g a b c=>Jd a b c;have es:∀(t:T) (g:G),tat t 28=.hmap m->tat t 37=X8 (mix K L:Int)->tat t 35=X8 (mgt L K+S.wt n j)->g.h.get m=.map (mcl pk (y5 K L))->(bC C0 (.entryStore tPP (.tmp 28) (.tmp 37) (.tmp 35))).run (I C0) d rd t g=.upd .undef (g.put m (.map (mcl pk (mst K (mgt L K+S.wt n j) L)))):=λt g a b c e=>by rw[Km a b c e (Jf K L),F6]
  have res:∀(v:Nat) (y:Int),mgt (mst K (mgt L K+S.wt n j) L) ((v:Int),y)=S.SJ n (S.pq n e v y) j+if v<k+1/\vals[v]?=some y then S.wt n j else 0:=λv y=>by
   rw[Ji]
   by_cases hvy:((v:Int),y)=K
   ·rw[Un hvy];rw[f]at hvy;injection hvy with e1 H;have e1:v=k:=by omega
    subst e1 H;rw[r,Un ⟨by omega,hx⟩]
   ·rw[Um hvy,l2];congr 1;have:(v<k+1/\vals[v]?=some y)↔(v<k/\vals[v]?=some y):=by
     constructor
     ·rintro⟨h1,h2⟩;refine⟨?_,h2⟩
      by_cases hvk:v=k
      ·subst hvk;rw[hx]at h2;injection h2 with h2;exact absurd (by rw[f,h2]) hvy
      ·omega
     ·rintro⟨h1,h2⟩;exact⟨by omega,h2⟩
    simp only[this]
  have M:=hK.nx;rcases Ma (d:=d) (rd:=rd) (a:=28) (b:=31) (id:=m) (k:=K) L with⟨en,em⟩|en
  ·rw[em]at es;simp only[sz,simprocAttr,sf,h6,h8,h9,l,A,B,o,epk,lk,l1,w1,en,es,ue,FE,CN];refine⟨?_,⟨by simp[St,sx,h6,h8,h21],⟨by simp;omega,λi h1 h2=>by simp[SD,h1];exact hK.fr i h1 h2⟩,_,by simp[SD],res⟩,h23,h22⟩;simp only[UQ,UP,UM,UE];exact FB [(false,false),(false,false),(false,false),(false,false),(false,true),(false,false),(false,false),(false,false),(false,false),(false,false),(true,false)] [] (by simp[All2,am,aA]) (by decide) (by decide) (by simp)
  ·simp only[sz,simprocAttr,sf,h6,h8,h9,l,A,B,o,epk,lk,l1,w1,en,es,ue,FE,CN];refine⟨?_,⟨by simp[St,sx,h6,h8,h21],⟨by simp;omega,λi h1 h2=>by simp[SD,h1];exact hK.fr i h1 h2⟩,_,by simp[SD],res⟩,h23,h22⟩;simp only[UQ,UP,UM,UE];refine tD (XI (true::(false::(true::[])))) [(4,8),(7,8)] (by simp[All2,am,aA]) ?_ (by decide) ?_
   ·simp[gg,b_,meets,fst1,am,aA,af,ak]
    rfl
   ·rintro q hq x y hx C;simp only[UW,Uu,WK]at hq;rcases hq with rfl|rfl<;>(simp at hx C;subst hx;subst C;simp[be,eG,dg,meets,fst1,A9,af,ak,aA,am])
 ·rintro t df g ⟨rfl,-,hK,J⟩;exact fin t g hK J
structure PoH (n:Net) (e:List Int) (cs:List AV) (p pm pq m lo:Nat) (g:G):Prop where
 kp:g.h.get p=Xs 4 [cs]
 km:g.h.get pm=Xs 1 [[.hmap m]]
 kq:g.h.get pq=Xs 1 [[X8 (S.SM n e)]]
 hm:∃L:List ((Int×Int)×Int),g.h.get m=.map (mcl pk L)/\∀(v:Nat) (x:Int),mgt L ((v:Int),x)=S.SJ n (S.pq n e v x) (S.SZ n)
 lo:lo<=p/\lo<=pm/\lo<=pq/\lo<=m
 hi:p<g.nx/\pm<g.nx/\pq<g.nx/\m<g.nx
theorem PoH.step{cs:List AV}{p pq:Nat}(h:PoH n e cs p pm pq m lo g)(f:Fr g g'):PoH n e cs p pm pq m lo g':=by obtain⟨a1,a2,k,⟨L,a4,a⟩,b,b1,b2,c,d⟩:=h;have:=f.1;exact⟨by rw[f.2 _ b1,a1],by rw[f.2 _ b2,a2],by rw[f.2 _ c,k],⟨L,by rw[f.2 _ d,a4],a⟩,b,by omega,by omega,by omega,by omega⟩
structure PoJ (g1:G) (n:Net) (e:List Int) (m pq j:Nat) (h:H):Prop where
 fr:∀i,i<g1.nx->i≠m->i≠pq->h.get i=g1.h.get i
 kq:h.get pq=Xs 1 [[X8 (S.SJ n (S.pe n e) j)]]
 hm:PoM n e [] j 0 m h
theorem Ca[XOc]{b:AV}{y:QnM}{ke:Nat}(hd:0<d)(hr:NR n)(hc:Rp.rp NoP 0 .nil y [X8 n.grain,b,fl,S_])(hq:QnOk n y)(he:SlR NoP ke .nil e w)(hke:ke<d)(hev:S.SL n e=true)
  (k0:S.SM n e=0->∀g',Fr g g'->K (.tup [.nilf,X8 7]) g')
  (k1:S.SM n e≠0->∀g' p pm pq m,Fr g g'->PoH n e [X8 n.grain,b,fl,S_] p pm pq m g.nx g'->K (.tup [.clo 135 [] [X9 p,X9 pm,X9 pq],X8 0]) g') :
  (ae C0 d 107 [.agg [X8 n.grain,b,fl,S_],w] g).sat K g D:=by
 obtain⟨el,ege⟩:=Fp hev;obtain⟨W1,W2,W3⟩:=hr.wl;rw[jV];refine kJ lQ (by simp[cV]) ?_;have r:∀(g:G) (i m:Nat),eI (Xs 1 [[.nilm]]) g i 0 0 1 0 (.hmap m)=.upd .undef (g.put i (Xs 1 [[.hmap m]])):=λg i m=>rfl;have w0:∀(d:Nat) (rd:Option Nat) (t:T) (g:G),(bC C0 (.makeMap tPP none)).run (I C0) d rd t g=.upd (.hmap g.nx) (g.new (.map [])):=K2;simp only[sz,simprocAttr,cV];unfold eP;refine jy (P:=λt' df g'=>df=[]/\g'.nx=g.nx+4/\(∀i,i<g.nx->g'.h.get i=g.h.get i)/\g'.h.get g.nx=Xs 4 [[X8 n.grain,b,fl,S_]]/\g'.h.get (g.nx+1)=.map []/\g'.h.get (g.nx+2)=Xs 1 [[.hmap (g.nx+1)]]/\g'.h.get (g.nx+3)=Xs 1 [[X8 0]]/\St t' [(1,w),(2,X9 g.nx),(6,X9 (g.nx+2)),(7,X9 (g.nx+3))]) ?_ ?_
 ·simp only[sz,simprocAttr,w0,r,show ¬g.nx=g.nx+1 by omega,show ¬g.nx+1=g.nx by omega];refine⟨λi hi=>?_,?_⟩
  ·rw[Um (by omega),Um (by omega),Um (by omega),Um (by omega),Um (by omega),Um (by omega)]
  ·simp[St,sx,show ¬g.nx=g.nx+2 by omega,show ¬g.nx=g.nx+1+1+1 by omega]
 rintro t df g1 ⟨rfl,n1,f1,kp,km,k2,N,h1,h2,o,h7,-⟩;obtain⟨cs,z,t1,t2,ez,c,hz⟩:=yx (d:=d) (g:=g1) (y:=y) (e:=e) (v:=.agg [X8 n.grain,b,fl,S_]) (w:=w) hd ⟨_,rfl,Rp.tree hc (Ui _)⟩ (he.tree (Ui _));rw[dU];simp only[sz,simprocAttr,h1,h2,kp,ez];refine C7 (t1:=t1) (t2:=t2) (n:=n) (y:=y) (e:=e) (cs:=cs) (w:=z) hd hr hq c hz (by omega) (by simp[sx]) (by decide)
  (λj h=>PoJ g1 n e (g.nx+1) (g.nx+3) j h) (λ_=>False) (λj h h' hh hg=>⟨λi h1 h2 h3=>by rw[hh i h1,hg.fr i h1 h2 h3],by rw[hh _ (by omega),hg.kq],by obtain⟨L,l1,l2⟩:=hg.hm;exact⟨L,by rw[hh _ (by omega),l1],l2⟩⟩) (λ_ _ _ h=>h) ⟨λ_ _ _ _=>rfl,N,[],km,λv x=>by simp[mgt,S.SJ]⟩ ?_ ?_ ?_ (λ_ h=>h.elim)
 ·intro j h F a hg;have hp:S.pe n e j=false:=by rw[S.pe,<-IX ege];exact a
  obtain⟨L,l1,l2⟩:=hg.hm;refine⟨hg.fr,by rw[hg.kq,S.SJ,hp];simp,L,l1,λv x=>?_⟩;rw[l2,S.SJ,S.pq,hp];simp
 ·intro j u g2 F a hg H hu;have hp:S.pe n e j=true:=by rw[S.pe,<-IX ege];exact a
  have hb:=zw hr (p:=S.pe n e) (j:=j+1) (by omega);have hs:S.SJ n (S.pe n e) (j+1)=S.SJ n (S.pe n e) j+S.wt n j:=by rw[S.SJ,hp];simp[S.wt]
  have w1:IntKind.wrap .i64 (S.SJ n (S.pe n e) j+S.wt n j)=S.SJ n (S.pe n e) (j+1):=by rw[<-hs,aE (by omega) (by omega)]
  obtain⟨vals,k⟩:∃vals,vals=S.ST (S.Sx n) (j:Int):=⟨_,rfl⟩;rw[<-k]at hu;simp only[sz,simprocAttr,d9];refine⟨Qi _ _ _,?_⟩;intro g3 n3 q;have A:g3.h.get g2.nx=Xs 3 [[X8 (j:Int),X8 (S.wt n j),u]]:=by rw[q _ (by omega),Un rfl];rfl
  have jo:∀i,i<g1.nx->g3.h.get i=g2.h.get i:=λi hi=>by rw[q i (by omega),Um (by omega),Um (by omega)]
  have M:g3.h.get (g.nx+3)=Xs 1 [[X8 (S.SJ n (S.pe n e) j)]]:=by rw[jo _ (by omega),hg.kq]
  have J:g3.h.get (g.nx+2)=Xs 1 [[.hmap (g.nx+1)]]:=by rw[jo _ (by omega),hg.fr _ (by omega) (by omega) (by omega),k2]
  have s:SlR (λi=>g1.nx+2<=i/\i<g3.nx) 0 g3.h vals u:=hu.wd λi hi=>⟨⟨hi.1,by rw[n3];omega⟩,by rw[q i (by omega),Um (by omega),Um (by omega)]⟩;simp only[d_];rw[BA];refine jy (P:=λt' df g'=>df=[]/\g'=g3.put (g.nx+3) (Xs 1 [[X8 (S.SJ n (S.pe n e) (j+1))]])/\St t' [(6,X9 (g.nx+2)),(8,X9 g2.nx)]) ?_ ?_
  ·simp only[sz,simprocAttr,h7,A,M,w1];simp[St,sx,o]
  rintro t df O ⟨rfl,rfl,o,h8,-⟩;have C:(g3.put (g.nx+3) (Xs 1 [[X8 (S.SJ n (S.pe n e) (j+1))]])).h.get g2.nx=Xs 3 [[X8 (j:Int),X8 (S.wt n j),u]]:=by simp[SD,show ¬g2.nx=g.nx+3 by omega];exact A
  have l:SlR (λi=>g1.nx+2<=i/\i<g3.nx) 0 (g3.put (g.nx+3) (Xs 1 [[X8 (S.SJ n (S.pe n e) (j+1))]])).h vals u:=s.wd λi hi=>⟨hi,by simp[SD,show ¬i=g.nx+3 by omega]⟩;have lu:=l.len;simp only[sz,simprocAttr,h8,C,lu,show ¬g2.nx=g.nx+3 by omega,A];refine PA (lo:=g1.nx+2) (pm:=g.nx+2) (pw:=g2.nx) (m:=g.nx+1) (j:=j) (n:=n) (e:=e) (vals:=vals) (u:=u) hr hp k (by omega) (l.wd λi hi=>⟨⟨hi.1,by simpa using hi.2⟩,rfl⟩) (by omega) ⟨by omega,by simp;omega⟩ ⟨by omega,by rw[G.put_nx,n3];simp⟩ (by simp[SD,J]) C ?_ (by simp[sx,o]) (by simp[sx,h8]) (by simp[sx]) (by simp[sx]) (by simp[sx]) ?_
  ·obtain⟨L,l1,l2⟩:=hg.hm;refine⟨L,by simp[SD];rw[jo _ (by omega),l1],λv x=>?_⟩;rw[l2];simp
  ·rintro t E hK ⟨L,l1,l2⟩;simp only[kX,if_true];have B:g3.nx<=E.nx:=by simpa using hK.nx
   refine⟨rfl,by omega,λi h1 h2=>?_,.inl ⟨rfl,λi h1 h2 h3=>?_,?_,L,l1,λv x=>?_⟩⟩
   ·rw[hK.fr i (by omega) (by simpa using h2)];simp[SD,show ¬i=g.nx+3 by omega]
   ·rw[hK.fr i h2 (by simp;omega)];simp[SD,h3];rw[jo i h1,hg.fr i h1 h2 h3]
   ·rw[hK.fr _ (by omega) (by simp;omega)];simp[SD]
   ·rw[l2,S.SJ,S.pq,hp,<-k];simp only[Vd,UD,Nat.not_lt_zero,false_and,if_false,Int.add_zero];congr 1
    by_cases hx:vals[v]?=some x
    ·have hl:=(Uh.1 hx).1;rw[Un ⟨hl,hx⟩,Un hx,k];rfl
    ·rw[Um λh=>hx h.2,Um hx]
 ·intro g' hg H f;have f':Fr g (g'.put g1.nx (.dfr false)):=⟨by simp;omega,λi hi=>by simp[SD,show ¬i=g1.nx by omega];rw[hg.fr i (by omega) (by omega) (by omega),f1 i hi]⟩
  by_cases hz0:S.SM n e=0
  ·have kq:=hg.kq;rw[<-tL,hz0]at kq;simp only[sz,simprocAttr,ct,h7,kq];refine iB f ?_;simp only[sx,↓reduceIte];exact k0 hz0 _ f'
  ·have kq:=hg.kq;rw[<-tL]at kq;simp only[sz,simprocAttr,ct,h7,kq,hz0,h2,o];refine iB f ?_;simp only[sx,↓reduceIte];obtain⟨L,l1,l2⟩:=hg.hm;refine k1 hz0 _ g.nx (g.nx+2) (g.nx+3) (g.nx+1) f' ⟨?_,?_,?_,⟨L,?_,λv x=>by rw[l2];simp⟩,⟨by omega,by omega,by omega,by omega⟩,by simp;omega⟩
   ·simp[SD,show ¬g.nx=g1.nx by omega];rw[hg.fr _ (by omega) (by omega) (by omega),kp]
   ·simp[SD,show ¬g.nx+2=g1.nx by omega];rw[hg.fr _ (by omega) (by omega) (by omega),k2]
   ·simp[SD,show ¬g.nx+3=g1.nx by omega];exact kq
   ·simp[SD,show ¬g.nx+1=g1.nx by omega];exact l1
def cq(q:QI):List AV:=[X8 q.1,X8 q.2]
theorem Hc[XOc](d:Nat)(a b c v:AV)(g:G):dj C0 (I C0) d (.clo 135 [] [a,b,c]) [v] g=orF ((I C0).call d 135 [v,a,b,c] g):=by kernel_rfl
theorem CV(n:Net)(e:List Int)(v:Nat):(S.S0 n e v).length=((S.Sx n)[v]?.getD 0).toNat:=by simp[S.S0]
theorem FV{v:Nat}(h:k<((S.Sx n)[v]?.getD 0).toNat):(S.S0 n e v)[k]?=some (S.Tg (S.SJ n (S.pq n e v (k:Int)) (S.SZ n)).toNat (S.SM n e).toNat):=by simp[S.S0,h]
theorem NL[XOc]{v p pq:Nat}{b:AV}(hd:0<d)(hr:NR n)(hN:SlR NoP 0 .nil n.nodes b)(hP:PoH n e [X8 n.grain,b,fl,S_] p pm pq m lo g)(hv:v<n.nodes.length)(hz0:S.SM n e≠0)
  (kk:∀U g',Own g' g.nx U 2 ((S.S0 n e v).map cq)->Fr g g'->K (.tup [U,X8 0]) g') :
  (dj C0 (I C0) d (.clo 135 [] [X9 p,X9 pm,X9 pq]) [X8 (v:Int)] g).sat K g D:=by
 obtain⟨rows,Z,r2,r3,r4⟩:=hN.all;have Z:∀h',ah h' 3 b=some rows:=Z;obtain⟨W1,W2,W3⟩:=hr.wl;obtain⟨x,hx,-,F⟩:=ay hv;obtain⟨row,q1,q2⟩:=r3 v x hx;obtain⟨fa,fb,rfl,-⟩:=fd.1 q2;have hlt:v<rows.length:=by omega
 have J:=r4 (by omega);have W:=hr.card x F;obtain⟨c,hc⟩:∃c:Nat,x.card=(c:Int):=Ur (by omega);have X:((S.Sx n)[v]?.getD 0).toNat=c:=by simp[S.Sx,hx,hc]
 have R:=oq hr e;have h1:(S.S0 n e v).length=c:=by rw[CV,X]
 rw[Hc];refine kJ jY (by simp[cD]) ?_;have kp:=hP.kp;rw[hc]at q1;simp only[sz,simprocAttr,cD,kp,Z,hlt,q1,J];refine wU (b:=g.nx) (n:=c) (by unfold bz;omega) (by unfold bz;omega) (Ui _) λU g1 hU n1 f1 vU=>?_;have lU:=mS hU.rows;rw[List.length_replicate]at lU;simp only[sz,simprocAttr,lU,dK];refine aV (m:=c) (by omega) (λk t df g'=>df=[]/\St t [(0,X8 (v:Int)),(2,X9 pm),(3,X9 pq),(7,U)]/\Fr g g'/\Own g' g.nx U 2 (((S.S0 n e v).take k).map cq++List.replicate (c - k) [X8 0,X8 0])) ⟨rfl,by simp[St,sx],⟨by omega,λi hi=>f1 i hi⟩,by simpa using hU⟩ (by simp[sx]) (by simp[sx]) (by decide)
  (by rintro k t df g v s (rfl|rfl|rfl) ⟨a1,⟨b1,b2,b3,b4,-⟩,a3⟩<;>exact⟨a1,by simp[St,sx,b1,b2,b3,b4],a3⟩) ?_ ?_
 ·rintro k t df g2 hk ⟨rfl,⟨h0,h2,o,h7,-⟩,hf,E⟩ f j;obtain⟨-,km,kq,⟨L,l1,l2⟩,-,-,bm,bq,bL⟩:=hP.step hf;obtain⟨A,hA⟩:=Ur (nP hr (S.pq n e v (k:Int)) (S.SZ n)).1;have h4:=(nP hr (S.pq n e v (k:Int)) (S.SZ n)).2;obtain⟨M,hM⟩:=Ur R.1;have l:=FV (n:=n) (e:=e) (v:=v) (k:=k) (by omega);obtain⟨q,hq⟩:∃q,q=S.Tg A M:=⟨_,rfl⟩;rw[hA,hM]at l;have l:(S.S0 n e v)[k]?=some q:=by rw[l,hq];rfl
  refine jy (P:=λt' df g'=>df=[]/\g'=g2/\St t' [(8,X8 (k:Int)),(0,X8 (v:Int)),(2,X9 pm),(3,X9 pq),(7,U),(20,X8 (c:Int)),(21,X8 (k:Int))]) ?_ ?_
  ·simp only[sz,simprocAttr,f];simp[St,sx,h0,h2,o,h7,j,f]
  clear h0 h2 o h7 j f;rintro t df g3 ⟨rfl,rfl,h8,h0,h2,o,h7,j,f,-⟩;obtain⟨KK,C⟩:∃K:Int×Int,K=((v:Int),(k:Int)):=⟨_,rfl⟩;have Y:mgt L KK=(A:Int):=by rw[C,l2,hA]
  have epk:AV.agg [X8 (v:Int),X8 (k:Int)]=pk KK:=by rw[C];rfl
  have V:∀a b:Int,vy [X8 0,X8 0] [(0,1),(1,1)] [X8 a,X8 b]=.val (.agg [X8 a,X8 b]):=λa b=>rfl;have lk:∀(t:T) (g:G),tat t 25=.hmap m->tat t 28=pk KK->g.h.get m=.map (mcl pk L)->(bC C0 (.lookup tPP (.tmp 25) (.tmp 28) false)).run (I C0) d none t g=.val (X8 (A:Int)):=λt g a b c=>by rw[<-Y];exact Jd a b c
  have kM:∀g,ae C0 d 65 [X8 (A:Int),X8 (M:Int)] g=.val (.tup [.agg [X8 q.1,X8 q.2],X8 0]):=λg=>by rw[hq];exact Ax hd (by omega) (by omega) (by omega)
  rw[hM]at kq;obtain⟨r,H⟩:∃r,r=g3.nx+10:=⟨_,rfl⟩;have nm:¬g3.nx+1+1+1+1+1+1+1+1+1+1=m/\¬g3.nx+1+1+1+1+1+1+1+1+1+1=pm/\¬g3.nx+1+1+1+1+1+1+1+1+1+1=pq:=by omega
  have si:∀h (z:Int),aw h an (X8 z)=[]:=λ_ _=>rfl;refine i8 (P:=λt' df g'=>df=[]/\Fr g3 g'/\r<g'.nx/\g'.h.get r=Xs 2 [[X8 q.1,X8 q.2]]/\St t' [(9,X9 r),(10,X8 0),(8,X8 (k:Int)),(0,X8 (v:Int)),(2,X9 pm),(3,X9 pq),(7,U),(20,X8 (c:Int)),(21,X8 (k:Int))]) ?_ ?_
  ·simp only[sz,simprocAttr,sf,h0,h2,o,h8,km,kq,V,epk,lk,l1,kM,ue,js];refine⟨?_,⟨by simp;omega,λi hi=>?_⟩,?_,?_,?_⟩
   ·simp only[UQ,UP,UM,UE];refine tD (XK (XI (true::(true::(false::[]))))) [(0,10),(1,10),(2,10),(3,10),(4,10),(5,10),(6,10),(7,10),(8,10),(9,10),(9,11)] (by simp[All2,am,aA]) ?_ (by decide) ?_
    ·simp[gg,b_,meets,fst1,am,aA,af,ak,nm]
     rfl
    rintro q hq x y hx B;simp only[UW,Uu,WK]at hq;rcases hq with rfl|rfl|rfl|rfl|rfl|rfl|rfl|rfl|rfl|rfl|rfl<;>(simp at hx B;subst hx;subst B;simp[be,eG,dg,meets,fst1,aA,am,af,si,eH,nm])
   ·simp[SD,show ¬i=g3.nx+1+1+1+1+1+1+1+1+1+1 by omega]
   ·omega
   ·simp[SD,H]
   ·simp[St,sx,h0,h2,o,h7,h8,j,f,H]
  clear h0 h2 o h7 h8 j f;rintro t df g4 ⟨rfl,O,h6,kr,h9,Q,h8,h0,h2,o,h7,j,f,-⟩;have u:=E.step O;have w:(((S.S0 n e v).take k).map cq).length=k:=by rw[UK,U0];omega
  have h5:(((S.S0 n e v).take k).map cq++List.replicate (c - k) [X8 0,X8 0]).length=c:=by rw[VG,w,List.length_replicate];omega
  obtain⟨y,B⟩:∃y,(((S.S0 n e v).take k).map cq++List.replicate (c - k) [X8 0,X8 0])[k]?=some y/\y=[X8 0,X8 0]:=⟨_,by rw[UA (by omega),w,List.getElem?_replicate,Un (by omega)],rfl⟩;obtain⟨B,rfl⟩:=B;have u1:k<(((S.S0 n e v).take k).map cq++List.replicate (c - k) [X8 0,X8 0]).length:=by omega
  have N:(((S.S0 n e v).take k).map cq++List.replicate (c - k) [X8 0,X8 0]).set k (cq q)=((S.S0 n e v).take (k+1)).map cq++List.replicate (c - (k+1)) [X8 0,X8 0]:=by
   rw[VR _ _ (by omega),w,Ve];have e2:List.replicate (c - k) [X8 0,X8 0]=[X8 0,X8 0]::List.replicate (c - (k+1)) [X8 0,X8 0]:=by rw[<-VO];congr 1;omega
   rw[e2,Wa,Ws,l];simp
  have ha:xX U=true:=Eu u.rows u1;have ru:=u.rows;simp only[sz,simprocAttr,Q,h9,h7,h8,kr,ru,u1,B];refine cP (v:=U) (sz:=2) (n:=2) (i:=k) (off:=0) (x:=.agg [X8 q.1,X8 q.2]) (row':=cq q) u B rfl rfl rfl λg5 hO5 n5 f5=>?_;rw[N]at hO5;simp only[sz,simprocAttr];refine⟨⟨by simp[St,sx,h0,h2,o,h7],⟨by have:=hf.1;have:=O.1;omega,λi hi=>?_⟩,hO5⟩,f,j⟩;rw[f5 i λe=>by have:=(E.lt e).1;omega,O.2 i (UI hi hf.1),hf.2 i hi]
 ·rintro t df g' ⟨rfl,⟨-,-,-,h7,-⟩,hf,E⟩;rw[Vm (by omega),Ve,WN,Ux]at E;simp only[kX,if_true,sz,simprocAttr,dL,h7];exact kk U g' E hf
def S.Tf(n:Net)(e:List Int)(v:Int):Int:=if S.SN n e=0 then (if 0<=v/\v<n.nodes.length then (if S.SM n e=0 then 7 else 0) else 2) else S.SN n e
def S.Tk(n:Net)(e:List Int)(v:Int):List QI:=if S.Tf n e v=0 then S.S0 n e v.toNat else []
theorem R8(q:QI):Rp.rp P k h q (cq q):=rf.2 ⟨[X8 q.1],[X8 q.2],rfl,ax.2 rfl,ax.2 rfl⟩
theorem FW(hr:NR n)(v:Nat):(S.S0 n e v).length<=4:=by
 rw[CV];cases h:(S.Sx n)[v]? with
 |none=>simp
 |some c=>have:=hr.cs c (Ul h);simp;omega
theorem Rq{U:AV}{v:Nat}(hr:NR n)(h:Own g b U 2 ((S.S0 n e v).map cq))(hP:∀i,b<=i->i<g.nx->P i):SlR P 0 g.h (S.S0 n e v) U:=by have:=FW (e:=e) hr v;exact Own.sl (α:=QI) h (by omega) (Sx (λq=>R8 q) _) λi hi=>hP i (h.lt hi).1 (h.lt hi).2
theorem uY[XOc]{z:Int}(hd:0<d)(hm:Agg n NoP 0 g.h v)(he:SlR P k g.h e w)(hk:k<=d) :
  ∃r,ae C0 d 69 [v,w,X8 z] g=.val r/\oE (One (S.Tk n e z)) (One (S.Tf n e z)) NoP 0 .nil r:=by
 obtain⟨b,rows,rfl,e1,q,hN,B,C,D,E⟩:=dt d hm;obtain⟨w',ew,hw⟩:=dy he d;rw[Wv hk]at hw;have hw:=hw .nil;rw[sA];refine a_ vH (xs:=[.agg [X8 n.grain,b],w',X8 z]) (by simp only[aD,e1,ew,cg]) (by simp[je]) (bY (m:=2) (aG _) (aG _) (by decide) (by decide)) (by decide) hd ?_;simp only[sz,simprocAttr,je];obtain⟨g0,hg0⟩:∃g0,g0=G.empty.new (Xs 2 [[X8 n.grain,b]]):=⟨_,rfl⟩;rw[<-hg0];have f0:g0.h.get 0=Xs 2 [[X8 n.grain,b]]:=by rw[hg0];simp[sx,SD]
 have l:g0.nx=1:=by rw[hg0];simp[sx]
 clear hg0;unfold mg;simp only[sz,simprocAttr,f0,hw.cell.1,hw.cell.2];refine dE (GV (n:=n) (ls:=[e]) (UC d) (q _) (Rh hw (by simp[SD]))) λv hv=>?_;obtain⟨y,cs,rfl,s,hc,a1,a2,x,a4,rfl⟩:=vo hv;rw[tU]at s ⊢
 by_cases h0:S.SN n e=0
 ·have j:=s h0;obtain⟨h1,h2⟩:=eQ.1 h0;have hr:=bw.1 h1;obtain⟨b',b2,A,ecs,i,t,u⟩:=xf.1 hc;injection ecs with ec1 ecs;injection ecs with ec2 ecs;rw[j.net]at ec1 i;subst ec1 ec2;have f:SlR NoP 0 .nil n.nodes a2:=i.tree (Ui 0);have lb:∀g,jC .slice a2 g=.val (X8 (n.nodes.length:Int)):=f.len
  by_cases hz:0<=z/\z<n.nodes.length
  ·obtain⟨vn,rfl⟩:=Ur hz.1;have c1:decide ((vn:Int)<0)=false:=by simp
   have o:decide ((n.nodes.length:Int)<=(vn:Int))=false:=by simp;omega
   simp only[sz,simprocAttr,l,h0,c1,lb,o];refine Ca (n:=n) (y:=y) (e:=e) (UC d) hr hc j hw (W8 d) h2 (λhz0 g' hf=>?_) (λhz0 g' p pm pq m hf hP=>?_)
   ·have a:S.Tf n e (vn:Int)=7:=by rw[S.Tf,Un h0,Un hz,Un hz0]
    have c:S.Tk n e (vn:Int)=[]:=by rw[S.Tk,a,Um (by decide)]
    simp only[sz,simprocAttr];rw[a,c];exact⟨λ_=>True,_,_,rfl,jx.2 ⟨_,rfl,by show 0<9223372036854775808;decide,rfl⟩,ax.2 rfl⟩
   ·have a:S.Tf n e (vn:Int)=0:=by rw[S.Tf,Un h0,Un hz,Um hz0]
    have c:S.Tk n e (vn:Int)=S.S0 n e vn:=by rw[S.Tk,a,Un rfl];rfl
    simp only[sz,simprocAttr];refine NL (UC d) hr f hP (by omega) hz0 λU g2 hU hf2=>?_;simp only[sz,simprocAttr];rw[a,c];exact⟨λ_=>True,_,_,rfl,jx.2 ⟨_,rfl,Rq hr hU λ_ _ _=>trivial⟩,ax.2 rfl⟩
  ·have a:S.Tf n e z=2:=by rw[S.Tf,Un h0,Um hz]
   have c:S.Tk n e z=[]:=by rw[S.Tk,a,Um (by decide)]
   rw[a,c]
   by_cases c1:z<0
   ·simp only[sz,simprocAttr,l,h0,c1];exact⟨λ_=>True,_,_,rfl,jx.2 ⟨_,rfl,by show 0<9223372036854775808;decide,rfl⟩,ax.2 rfl⟩
   ·have o:(n.nodes.length:Int)<=z:=by omega
    simp only[sz,simprocAttr,l,h0,c1,lb,o];exact⟨λ_=>True,_,_,rfl,jx.2 ⟨_,rfl,by show 0<9223372036854775808;decide,rfl⟩,ax.2 rfl⟩
 ·have a:S.Tf n e z=S.SN n e:=by rw[S.Tf,Um h0]
  have c:S.Tk n e z=[]:=by rw[S.Tk,a,Um h0]
  simp only[sz,simprocAttr,l,h0];rw[c,a];exact⟨λ_=>True,_,_,rfl,jx.2 ⟨_,rfl,by show 0<9223372036854775808;decide,rfl⟩,ax.2 rfl⟩
end
def S.SY(x:Nat):Nat:=x % 18446744073709551616
def S.SD(x y:Nat):Nat×Nat :=
 let x0:=x % 4294967296
 let x1:=x / 4294967296
 let y0:=y % 4294967296
 let y1:=y / 4294967296
 let w0:=S.SY (x0*y0)
 let t:=S.SY (S.SY (x1*y0)+w0 / 4294967296)
 let w1:=S.SY (t % 4294967296+S.SY (x0*y1))
 let w2:=t / 4294967296
 (S.SY (S.SY (S.SY (x1*y1)+w2)+w1 / 4294967296),S.SY (x*y))
theorem AY(x:Nat):S.SY x<18446744073709551616:=VT _ (by decide)
theorem zK(a b:Nat):bB .mul (X_ (a:Int)) (X_ (b:Int))=.val (X_ (S.SY (a*b):Int)):=by rw[Dw];congr 2
theorem Dt(a b:Nat):bB .add (X_ (a:Int)) (X_ (b:Int))=.val (X_ (S.SY (a+b):Int)):=by rw[wn];congr 2
theorem zE(m:Nat)(h:m<18446744073709551616):bB .and (X_ (m:Int)) (X_ 4294967295)=.val (X_ ((m % 4294967296:Nat):Int)):=by have:=mC m 4294967295 h (by decide);have e:m &&& 4294967295=m % 4294967296:=Nat.and_two_pow_sub_one_eq_mod m 32;rw[e]at this;exact this
theorem Bk(m:Nat)(h:m<18446744073709551616):bB .shr (X_ (m:Int)) (X_ 32)=.val (X_ ((m / 4294967296:Nat):Int)):=iY .u64 m 32 h
theorem KQ[XOc]{x:Nat}(hd:0<d)(hx:x<18446744073709551616)(hy:y<18446744073709551616) :
  ae C0 d 90 [X_ (x:Int),X_ (y:Int)] g=.val (.tup [X_ ((S.SD x y).1:Int),X_ ((S.SD x y).2:Int)]):=by
 have key:∃r,ae C0 d 90 [X_ (x:Int),X_ (y:Int)] g=.val r/\oE (One (S.SD x y).1) (One (S.SD x y).2) NoP 0 .nil r:=by rw[uy];refine a_ wE (xs:=[X_ (x:Int),X_ (y:Int)]) rfl (by simp[j4]) (bY (m:=1) (aG _) (aG _) (by decide) (by decide)) (by decide) hd ?_;have nx:=zE x hx;have ny:=zE y hy;have sx':=Bk x hx;have sy':=Bk y hy;have i:=zK x y;unfold S.SD;simp only;generalize x % 4294967296=x0 at *;generalize x / 4294967296=x1 at *;generalize y % 4294967296=y0 at *;generalize y / 4294967296=y1 at *;have k:=zK x0 y0;have b:=zK x1 y0;have e:=zK x0 y1;have f:=zK x1 y1;have j:=Bk (S.SY (x0*y0)) (AY _);have a1:=Dt (S.SY (x1*y0)) (S.SY (x0*y0) / 4294967296);generalize S.SY (x0*y0) / 4294967296=w0 at *;have ht:=AY (S.SY (x1*y0)+w0);generalize S.SY (S.SY (x1*y0)+w0)=tt at *;have n1:=zE tt ht;have l:=Bk tt ht;have a2:=Dt (tt % 4294967296) (S.SY (x0*y1));have h:=Dt (S.SY (x1*y1)) (tt / 4294967296);have hw:=AY (tt % 4294967296+S.SY (x0*y1));generalize S.SY (tt % 4294967296+S.SY (x0*y1))=w1 at *;have n:=Bk w1 hw;have a4:=Dt (S.SY (S.SY (x1*y1)+tt / 4294967296)) (w1 / 4294967296);simp only[j4,sx,SO.run,↓reduceIte,Nat.reduceEqDiff,nx,ny,sx',sy',k,b,e,f,i,j,l,n,n1,a1,a2,h,a4,qW];exact⟨NoP,_,_,rfl,l9.2 ⟨rfl,AY _⟩,l9.2 ⟨rfl,AY _⟩⟩
 obtain⟨r,hr,a,c,rfl,ha,hc⟩:=key;have ha:=l9.1 ha;have hc:=l9.1 hc;rw[hr];rw[List.cons.inj ha.1 |>.1,List.cons.inj hc.1 |>.1]
section
variable {α:Type} [DecidableEq α]
abbrev QN:=Nat×Nat
theorem P_{x:QN}(h1:x.1<18446744073709551616)(h2:x.2<18446744073709551616):Agg x P k h v↔v=.agg [X_ (x.1:Int),X_ (x.2:Int)]:=by
 constructor
 ·rintro⟨cs,rfl,hc⟩;obtain⟨a,b,rfl,q1,q2⟩:=rf.1 hc;rw[(l9.1 q1).1,(l9.1 q2).1];rfl
 ·rintro rfl;exact⟨_,rfl,rf.2 ⟨[X_ (x.1:Int)],[X_ (x.2:Int)],rfl,l9.2 ⟨rfl,h1⟩,l9.2 ⟨rfl,h2⟩⟩⟩
theorem CL[XOc]{n:Nat}(hd:0<d)(hn:n<=4611686018427387903)(hm0:0<m)(hm:m<=4611686018427387903)(hg:Nat.gcd n m=1):ae C0 d 77 [.agg [X8 (n:Int),X8 (m:Int)]] g=.val (X8 0):=by
 rw[rA];refine eX uO (xs:=[.agg [X8 (n:Int),X8 (m:Int)]]) rfl (by simp[cy]) hd ?_;have l1:decide ((m:Int)<1)=false:=by simp;omega
 have l2:decide ((4611686018427387903:Int)<(m:Int))=false:=by simp;omega
 have k:decide ((n:Int) < -4611686018427387903)=false:=by rw[decide_eq_false_iff_not];omega
 have a:decide ((4611686018427387903:Int)<(n:Int))=false:=by simp;omega
 have e1:∀g,ae C0 (d+1) 102 [X8 (n:Int)] g=.val (X_ (n:Int)):=λg=>tE (UC d) ⟨by omega,by omega⟩;have h:∀g,ae C0 (d+1) 101 [X_ (n:Int),X_ (m:Int)] g=.val (X_ 1):=λg=>by rw[xK (UC d) (by omega) (by omega),hg];rfl
 simp only[cy,cC,sx,sy,SO.run,↓reduceIte,Nat.reduceEqDiff,Nat.reduceAdd,l1,l2,k,a,e1,h,dR (show (0:Int)<=(m:Int) by omega) (show (m:Int)<18446744073709551616 by omega),decide_true,WV]
theorem JO{id:Nat}{a b:Int}(d k:Nat)(hg:h.get id=Xs 2 [[X8 a,X8 b]]):Hx.snap h d (k+3) (X9 id)=some (.tptr (Nat.max d 0) 2 [[X8 a,X8 b]] 0 0):=by
 simp only[Hx.snap,hg,show Nat.beq 0 0=true from rfl,aD]
 rfl
theorem PV{id f:Nat}(d k:Nat)(hg:h.get id=Xs 1 [[.clo f [] []]]):Hx.snap h d (k+3) (X9 id)=some (.tptr (Nat.max d 0) 1 [[.clo f [] []]] 0 0):=by
 simp only[Hx.snap,hg,show Nat.beq 0 0=true from rfl,aD]
 rfl
theorem Lj{f:Nat}{a b c a' b' c':AV}(ha:Hx.snap h d 23 a=some a')(hb:Hx.snap h d 23 b=some b')(hc:Hx.snap h d 23 c=some c'):Hx.snap h d an (.clo f [] [a,b,c])=some (.clo f [] [a',b',c']):=by show (match aD (Hx.snap h d 23) [],aD (Hx.snap h d 23) [a,b,c] with|some as',some cs=>some (AV.clo f as' cs)|_,_=>none)=_;simp only[aD,ha,hb,hc]
theorem A1{x:Nat}(hx:x<18446744073709551616)(hy:y<18446744073709551616):(S.SD x y).1*18446744073709551616+(S.SD x y).2=x*y/\(S.SD x y).2<18446744073709551616/\(S.SD x y).1<18446744073709551616:=by
 have k:x / 4294967296<=4294967295:=by omega
 have f:y / 4294967296<=4294967295:=by omega
 have h:x % 4294967296<=4294967295:=by omega
 have d:y % 4294967296<=4294967295:=by omega
 have ex:x=x / 4294967296*4294967296+x % 4294967296:=by omega
 have ey:y=y / 4294967296*4294967296+y % 4294967296:=by omega
 unfold S.SD S.SY;simp only;have key:x*y=(x / 4294967296*(y / 4294967296))*18446744073709551616+(x / 4294967296*(y % 4294967296)+x % 4294967296*(y / 4294967296))*4294967296+x % 4294967296*(y % 4294967296):=by
  generalize x / 4294967296=x1 at *;generalize x % 4294967296=x0 at *;generalize y / 4294967296=y1 at *;generalize y % 4294967296=y0 at *;subst ex ey;rw[UH,Nat.mul_add,Nat.mul_add];have h1:x1*4294967296*(y1*4294967296)=x1*y1*18446744073709551616:=by rw[Nat.mul_mul_mul_comm]
  have h2:x1*4294967296*y0=x1*y0*4294967296:=by rw[Nat.mul_right_comm]
  have i:x0*(y1*4294967296)=x0*y1*4294967296:=by rw[WW]
  rw[h1,h2,i];omega
 have j:x % 4294967296*(y % 4294967296)<=18446744065119617025:=Wq h d;have b1:x / 4294967296*(y % 4294967296)<=18446744065119617025:=Wq k d;have b2:x % 4294967296*(y / 4294967296)<=18446744065119617025:=Wq h f;have l:x / 4294967296*(y / 4294967296)<=18446744065119617025:=Wq k f;generalize x % 4294967296*(y % 4294967296)=a at *;generalize x / 4294967296*(y % 4294967296)=b at *;generalize x % 4294967296*(y / 4294967296)=c at *;generalize x / 4294967296*(y / 4294967296)=e at *;rw[key];clear key ex ey;omega
theorem KR{x x' y':Nat}(hx:x<18446744073709551616)(hy:y<18446744073709551616)(hx':x'<18446744073709551616)(hy':y'<18446744073709551616) :
  (((S.SD x y).1=(S.SD x' y').1/\(S.SD x y).2=(S.SD x' y').2)↔x*y=x'*y')/\(((S.SD x y).1<(S.SD x' y').1\/(S.SD x y).1=(S.SD x' y').1/\(S.SD x y).2<(S.SD x' y').2)↔x*y<x'*y'):=by
 obtain⟨a1,a2,h⟩:=A1 hx hy;obtain⟨b1,b2,k⟩:=A1 hx' hy';generalize S.SD x y=A at *;generalize S.SD x' y'=B at *;generalize x*y=p at *;generalize x'*y'=q at *;omega
def B_(x y:Nat):AV:=.agg [X_ ((S.SD x y).1:Int),X_ ((S.SD x y).2:Int)]
theorem Dh[XOc]{x:Nat}(hd:0<d)(hx:x<18446744073709551616)(hy:y<18446744073709551616):ae C0 d 110 [X_ (x:Int),X_ (y:Int)] g=.val (B_ x y):=by
 obtain⟨-,k,h⟩:=A1 hx hy;have key:∃r,ae C0 d 110 [X_ (x:Int),X_ (y:Int)] g=.val r/\Agg ((S.SD x y):QN) NoP 0 .nil r:=by rw[yJ];refine a_ BQ (xs:=[X_ (x:Int),X_ (y:Int)]) rfl (by simp[qD]) (dw _) (by decide) hd ?_;have a:∀g,ae C0 (d+1) 90 [X_ (x:Int),X_ (y:Int)] g=.val (.tup [X_ ((S.SD x y).1:Int),X_ ((S.SD x y).2:Int)]):=λg=>KQ (UC d) hx hy;simp only[sz,simprocAttr,qD,sR,a];exact⟨NoP,(P_ h k).2 rfl⟩
 obtain⟨r,h1,h2⟩:=key;rw[h1,(P_ h k).1 h2];rfl
theorem Om[XOc]{a' b':Nat}(hd:0<d):ae C0 d 111 [.agg [X_ (a:Int),X_ (b:Int)],.agg [X_ (a':Int),X_ (b':Int)]] g=.val (.bool (decide (a<a'\/a=a'/\b<b'))):=by
 rw[zR];refine lF DS (xs:=[.agg [X_ (a:Int),X_ (b:Int)],.agg [X_ (a':Int),X_ (b':Int)]]) rfl (by simp[lj]) hd ?_;have i0:∀id,AO 2 1 (X9 id) (X8 0)=.val (X9 id):=λ_=>rfl;have h:∀id,AO 2 1 (X9 id) (X8 1)=.val (.hptr id 0 0 1):=λ_=>rfl
 by_cases c1:a<a'
 ·have d1:decide ((a:Int)<(a':Int))=true:=by simp;exact c1
  simp only[sz,simprocAttr,lj,kK,i0,h,d1];congr 1;simp[c1]
 ·have d1:decide ((a:Int)<(a':Int))=false:=by simp;omega
  by_cases c2:a=a'
  ·subst c2;have d2:decide ((b:Int)<(b':Int))=decide (b<b'):=by rw[U7];simp
   simp only[sz,simprocAttr,lj,kK,i0,h,d1,d2];congr 1;simp
  ·have d2:decide ((a:Int)=(a':Int))=false:=by simp;omega
   simp only[sz,simprocAttr,lj,kK,i0,h,d1,d2];congr 1;simp[c1,c2]
def S.Th(a b:Nat):Int:=if a=b then 0 else if a<b then -1 else 1
theorem Kh[XOc](d:Nat)(a b:AV)(g:G):dj C0 (I C0) d (.clo 109 [] []) [a,b] g=orF ((I C0).call d 109 [a,b] g):=by kernel_rfl
theorem OT[XOc]{a1 a2 b1 b2:Nat}(hd:0<d)(l1:a1<=4611686018427387903)(l2:a2<=4611686018427387903)(l3:b1<=4611686018427387903)(l4:b2<=4611686018427387903)
  (kk:∀g',Fr g g'->K (X8 (S.Th (a1*b2) (b1*a2))) g'):(dj C0 (I C0) d (.clo 109 [] []) [.agg [X8 (a1:Int),X8 (a2:Int)],.agg [X8 (b1:Int),X8 (b2:Int)]] g).sat K g D:=by
 rw[Kh];refine kJ BP (by simp[mD]) ?_;have e1:∀x:Nat,x<=4611686018427387903->∀g,ae C0 d 102 [X8 (x:Int)] g=.val (X_ (x:Int)):=λx hx g=>tE hd ⟨by omega,by omega⟩;have u:=e1 a1 l1;have v:=e1 b1 l3;have w1:IntKind.wrap .u64 (b2:Int)=(b2:Int):=dR (by omega) (by omega);have A:IntKind.wrap .u64 (a2:Int)=(a2:Int):=dR (by omega) (by omega);have t1:∀g,ae C0 d 110 [X_ (a1:Int),X_ (b2:Int)] g=.val (B_ a1 b2):=λg=>Dh hd (by omega) (by omega);have t2:∀g,ae C0 d 110 [X_ (b1:Int),X_ (a2:Int)] g=.val (B_ b1 a2):=λg=>Dh hd (by omega) (by omega);obtain⟨o1,o2⟩:=KR (x:=a1) (y:=b2) (x':=b1) (y':=a2) (by omega) (by omega) (by omega) (by omega);have n1:decide ((a1:Int)<0)=false:=by simp
 have n2:decide ((b1:Int)<0)=false:=by simp
 have n3:decide ((0:Int)<=(a1:Int))=true:=by simp
 have eb:∀w:Bool,jZ true .bool (.bool w) (.bool w)=.val (.bool false):=λw=>by cases w<;>rfl
 obtain⟨p,hp⟩:∃p,p=S.Th (a1*b2) (b1*a2):=⟨_,rfl⟩;rw[<-hp]at kk;have b:∀x y,B_ x y=.agg [X_ ((S.SD x y).1:Int),X_ ((S.SD x y).2:Int)]:=λ_ _=>rfl;have st1:∀(g:G) (i x y:Nat),eI (Xs 2 [[X_ 0,X_ 0]]) g i 0 0 2 0 (B_ x y)=.upd .undef (g.put i (Xs 2 [[X_ ((S.SD x y).1:Int),X_ ((S.SD x y).2:Int)]])):=λ_ _ _ _=>rfl;have ld:∀(x y:Nat),aI (Xs 2 [[X_ ((S.SD x y).1:Int),X_ ((S.SD x y).2:Int)]]) 0 0 true 2 0=.val (B_ x y):=λ_ _=>rfl;have kl:∀g,ae C0 d 111 [B_ a1 b2,B_ b1 a2] g=.val (.bool (decide (a1*b2<b1*a2))):=λg=>by rw[b,b,Om hd];congr 2;exact decide_eq_decide.2 o2
 have eqm:jZ false (.flat [.int .u64,.int .u64]) (B_ a1 b2) (B_ b1 a2)=.val (.bool (decide (a1*b2=b1*a2))):=by
  rw[b,b];have ha:AG ((S.SD a1 b2).1:Int) ((S.SD b1 a2).1:Int)=decide ((S.SD a1 b2).1=(S.SD b1 a2).1):=by rw[kV,U7];simp only[UD];omega
  have hb:AG ((S.SD a1 b2).2:Int) ((S.SD b1 a2).2:Int)=decide ((S.SD a1 b2).2=(S.SD b1 a2).2):=by rw[kV,U7];simp only[UD];omega
  have:decide (a1*b2=b1*a2)=(decide ((S.SD a1 b2).1=(S.SD b1 a2).1)&&decide ((S.SD a1 b2).2=(S.SD b1 a2).2)):=by rw[U7];simp[o1]
  rw[this];simp only[jZ,eqA,dZ,dY,m6,ha,hb];cases decide ((S.SD a1 b2).1=(S.SD b1 a2).1)<;>cases decide ((S.SD a1 b2).2=(S.SD b1 a2).2)<;>rfl
 simp only[mD];refine jy (P:=λt' df g'=>df=[]/\g'=(g.new (Xs 2 [[X8 (a1:Int),X8 (a2:Int)]])).new (Xs 2 [[X8 (b1:Int),X8 (b2:Int)]])/\St t' [(2,X9 g.nx),(3,X9 (g.nx+1)),(4,X8 0)]) ?_ ?_
 ·simp only[sz,simprocAttr];simp[St,sx]
 rintro t df g1 ⟨rfl,a,h2,c,h4,-⟩;have k2:g1.h.get g.nx=Xs 2 [[X8 (a1:Int),X8 (a2:Int)]]:=by rw[a];simp[SD]
 have f:g1.h.get (g.nx+1)=Xs 2 [[X8 (b1:Int),X8 (b2:Int)]]:=by rw[a];simp[SD]
 have s:g1.nx=g.nx+2:=by rw[a];simp
 have f1:Fr g g1:=by rw[a];exact⟨by simp;omega,λi hi=>by simp[SD,show ¬i=g.nx by omega,show ¬i=g.nx+1 by omega]⟩
 clear a;simp only[sO];obtain⟨Qf,o⟩:∃Qf,Qf=fnQ C0 d mD.res K:=⟨_,rfl⟩;show wp C0 d none _ (fnQ C0 d [.tm 4] K) _ _ _;refine i8 (P:=λt' df g'=>df=[]/\Fr g g'/\∃p q,p≠q/\g'.h.get g.nx=Xs 2 [[X8 (a1:Int),X8 (a2:Int)]]/\g'.h.get (g.nx+1)=Xs 2 [[X8 (b1:Int),X8 (b2:Int)]]/\g'.h.get p=Xs 2 [[X_ ((S.SD a1 b2).1:Int),X_ ((S.SD a1 b2).2:Int)]]/\g'.h.get q=Xs 2 [[X_ ((S.SD b1 a2).1:Int),X_ ((S.SD b1 a2).2:Int)]]/\St t' [(2,X9 g.nx),(3,X9 (g.nx+1)),(5,X9 p),(6,X9 q)]) ?_ ?_
 ·simp only[sz,simprocAttr,sf,h2,c,k2,f,u,v,w1,A,t1,t2,st1,tB,yW,show ¬g1.nx=g1.nx+2 by omega,show ¬g1.nx+2=g1.nx by omega];have si:∀h (k:IntKind) (z:Int),aw h an (.int k z)=[]:=λ_ _ _=>rfl;refine⟨?_,⟨?_,λi hi=>?_⟩,g1.nx+14,g1.nx+16,by omega,?_,?_,?_,?_,?_⟩
  ·simp only[UQ,UP,UM,UE];refine bf (XK (XJ (XI (true::(true::(true::(true::[]))))))) [(0,14),(1,14),(2,14),(3,14),(4,14),(5,14),(6,14),(7,14),(8,14),(9,14),(10,14),(11,14),(12,14),(13,14),(0,15),(1,15),(2,15),(3,15),(4,15),(5,15),(6,15),(7,15),(8,15),(9,15),(10,15),(11,15),(12,15),(13,15),(14,15)] (by simp[All2,am,aA]) (by decide) ?_;rintro p e x y hx n;simp only[UW,Uu,WK]at e;rcases e with rfl|rfl|rfl|rfl|rfl|rfl|rfl|rfl|rfl|rfl|rfl|rfl|rfl|rfl|rfl|rfl|rfl|rfl|rfl|rfl|rfl|rfl|rfl|rfl|rfl|rfl|rfl|rfl|rfl<;>(simp at hx n;subst hx;subst n;refine fP rfl rfl rfl rfl ?_ ?_ ?_<;>simp[am,aA,af,eH,si]<;>omega)
  ·have:=f1.1;first| (simp;omega)|omega
  ·simp[SD,show ¬i=g1.nx+14 by omega,show ¬i=g1.nx+16 by omega];rw[f1.2 i hi]
  ·simp[SD,show ¬g.nx=g1.nx+14 by omega,show ¬g.nx=g1.nx+16 by omega,k2]
  ·repeat rw[Um (by omega)]
  ·simp[SD]
  ·simp[SD]
  ·simp[St,sx,h2,c]
 rintro t df g2 ⟨rfl,f2,p',q',r,k2,f,l,m,h2,c,h5,j,-⟩;have kf:=kk _ f2;have ef:jZ false .bool (.bool false) (.bool true)=.val (.bool false):=rfl;have et:jZ false .bool (.bool true) (.bool true)=.val (.bool true):=rfl
 by_cases c1:a1*b2=b1*a2
 ·have hp0:p=0:=by rw[hp,S.Th,Un c1]
  rw[VA c1]at eqm;rw[hp0]at kf;simp only[sz,simprocAttr,h2,c,h5,j,k2,f,l,m,n1,n2,eb,ld,eqm];exact kf
 ·rw[Va c1]at eqm
  by_cases c2:a1*b2<b1*a2
  ·have hp0:p = -1:=by rw[hp,S.Th,Um c1,Un c2]
   rw[VA c2]at kl;rw[hp0]at kf;simp only[sz,simprocAttr,h2,c,h5,j,k2,f,l,m,n1,n2,n3,eb,ld,eqm,kl,et];exact kf
  ·have hp0:p=1:=by rw[hp,S.Th,Um c1,Um c2]
   rw[Va c2]at kl;rw[hp0]at kf;simp only[sz,simprocAttr,h2,c,h5,j,k2,f,l,m,n1,n2,n3,eb,ld,eqm,kl,ef];exact kf
theorem Hq[XOc](d:Nat)(a b:AV)(g:G):∃v,(I C0).call d 157 [a,b] g=.ok v g:=by
 have key:=i7 (C:=C0) (d:=d) (f:=157) («as»:=[a,b]) (g:=g) (K:=λv g'=>g'=g) vG (by simp[jd]) ?_
 ·cases hc:(I C0).call d 157 [a,b] g with
  |fail=>rw[hc]at key;exact key.elim
  |ok v g'=>rw[hc]at key;exact⟨v,by rw[show g'=g from key]⟩
 have e:jZ true (.iface true) .nili .nili=.val (.bool false):=rfl;simp only[jd,sx,oC];simp only[sz,simprocAttr,e]
theorem KB[XOc]{fn:Nat}{a a':List AV}(hd:0<d)(hs:Hx.snap g.h d an (.clo fn [] a)=some (.clo fn [] a'))(hc:∀(g:G) (K:AV->G->Prop) (D:ADf->Prop),(∀g',Fr g g'->K (X8 x) g')->(dj C0 (I C0) (d+1) (.clo fn [] a') [] g).sat K g D) :
  ae C0 d 136 [.clo fn [] a] g=.val (.tup [X8 x,X8 0]):=by
 have key:∃r,ae C0 d 136 [.clo fn [] a] g=.val r/\oE (One x) (One (0:Int)) NoP 0 .nil r:=by
  rw[vz];refine a_ xM (xs:=[.clo fn [] a']) (by simp only[aD,hs]) (by simp[lS]) (bY (m:=2) (aG _) (aG _) (by decide) (by decide)) (by decide) hd ?_;simp only[sz,simprocAttr,lS,oh];rw[rg (f:=157) (first:=[]) (cap:=[X9 0,X9 1]) (by simp[sx])];simp only[sz,simprocAttr,zq,zh];refine hc _ _ _ λg2 fr2=>?_;have e:g2.h.get 0=Xs 1 [[X8 0]]:=by rw[fr2.2 0 (by simp[sx])];simp[sx,SD]
  have i:g2.h.get 1=Xs 1 [[X8 0]]:=by rw[fr2.2 1 (by simp[sx])];simp[sx]
  simp only[sz,simprocAttr,e,i];obtain⟨v,c⟩:=Hq (d+1) (X9 0) (X9 1) ((g2.put 0 (Xs 1 [[X8 x]])).put 1 (Xs 1 [[X8 0]]));refine ud c ?_;simp only[sx,sy,↓reduceIte,Nat.reduceEqDiff,Nat.reduceAdd,Nat.reduceLeDiff];exact⟨NoP,_,_,rfl,ax.2 rfl,ax.2 rfl⟩
 obtain⟨r,h1,a,b,rfl,h2,k⟩:=key;have h2:=ax.1 h2;injection h2 with h2;have k:=ax.1 k;injection k with k;rw[h1,h2,k]
theorem Fh[XOc](d:Nat)(a b c:AV)(g:G):dj C0 (I C0) d (.clo 137 [] [a,b,c]) [] g=orF ((I C0).call d 137 [a,b,c] g):=by kernel_rfl
theorem II[XOc]{a1 a2 b1 b2:Nat}(hd:0<d)(l1:a1<=4611686018427387903)(l2:a2<=4611686018427387903)(l3:b1<=4611686018427387903)(l4:b2<=4611686018427387903)(p2:0<a2)(p4:0<b2)(g1:Nat.gcd a1 a2=1)(g2:Nat.gcd b1 b2=1) :
  ae C0 d 70 [.agg [X8 (a1:Int),X8 (a2:Int)],.agg [X8 (b1:Int),X8 (b2:Int)]] g=.val (.tup [X8 (S.Th (a1*b2) (b1*a2)),X8 0]):=by
 have kb:∀(d:Nat) (g:G),0<d->ae C0 d 108 [.agg [X8 (a1:Int),X8 (a2:Int)],.agg [X8 (b1:Int),X8 (b2:Int)],.clo 109 [] []] g=.val (.tup [X8 (S.Th (a1*b2) (b1*a2)),X8 0]):=λd g hd=>by
  have key:∃z,ae C0 d 108 [.agg [X8 (a1:Int),X8 (a2:Int)],.agg [X8 (b1:Int),X8 (b2:Int)],.clo 109 [] []] g=.val z/\oE (One (S.Th (a1*b2) (b1*a2))) (One (0:Int)) NoP 0 .nil z:=by
   rw[wz];refine a_ yT (xs:=[.agg [X8 (a1:Int),X8 (a2:Int)],.agg [X8 (b1:Int),X8 (b2:Int)],.clo 109 [] []]) rfl (by simp[nc]) (bY (m:=2) (aG _) (aG _) (by decide) (by decide)) (by decide) hd ?_;have k:∀g,EX (.clo 109 [] []) g=.upd (X9 g.nx) (g.new (Xs 1 [[.clo 109 [] []]])):=λg=>rfl;have c1:∀g,ae C0 (d+1) 77 [.agg [X8 (a1:Int),X8 (a2:Int)]] g=.val (X8 0):=λg=>CL (UC d) l1 p2 l2 g1;have c:∀g,ae C0 (d+1) 77 [.agg [X8 (b1:Int),X8 (b2:Int)]] g=.val (X8 0):=λg=>CL (UC d) l3 p4 l4 g2;simp only[nc,pR,sx,sy,SO.run,↓reduceIte,Nat.reduceEqDiff,Nat.reduceAdd,Nat.reduceLeDiff,k,c1,c,decide_true,WV];rw[KB (x:=S.Th (a1*b2) (b1*a2)) (a':=[.tptr (Nat.max (d+1) 0) 1 [[.clo 109 [] []]] 0 0,.tptr (Nat.max (d+1) 0) 2 [[X8 (a1:Int),X8 (a2:Int)]] 0 0,.tptr (Nat.max (d+1) 0) 2 [[X8 (b1:Int),X8 (b2:Int)]] 0 0]) (UC d) ?_ ?_]
   ·simp only[sx,sy,SO.run,↓reduceIte,Nat.reduceEqDiff,Nat.reduceAdd,Nat.reduceLeDiff];exact⟨NoP,_,_,rfl,ax.2 rfl,ax.2 rfl⟩
   ·rw[Lj (PV (f:=109) (d+1) 20 (by simp[sx,SD])) (JO (a:=(a1:Int)) (b:=(a2:Int)) (d+1) 20 (by simp[sx,SD])) (JO (a:=(b1:Int)) (b:=(b2:Int)) (d+1) 20 (by simp[sx,SD]))]
   ·intro g K D kk;rw[Fh];refine kJ wC (by simp[j3]) ?_;simp only[j3,sx,sy,SO.run,↓reduceIte,Nat.reduceEqDiff,Nat.reduceAdd,Nat.reduceLeDiff,iT];refine OT (UC _) l1 l2 l3 l4 λg' hf=>?_;simp only[sx,sy,SO.run,↓reduceIte,Nat.reduceEqDiff,Nat.reduceAdd,Nat.reduceLeDiff];exact kk g' hf
  obtain⟨z,h1,a,b,rfl,h2,h⟩:=key;have h2:=ax.1 h2;injection h2 with h2;have h:=ax.1 h;injection h with h;rw[h1,h2,h]
 have key:∃r,ae C0 d 70 [.agg [X8 (a1:Int),X8 (a2:Int)],.agg [X8 (b1:Int),X8 (b2:Int)]] g=.val r/\oE (One (S.Th (a1*b2) (b1*a2))) (One (0:Int)) NoP 0 .nil r:=by rw[BG];refine a_ Fk (xs:=[.agg [X8 (a1:Int),X8 (a2:Int)],.agg [X8 (b1:Int),X8 (b2:Int)]]) rfl (by simp[vM]) (bY (m:=2) (aG _) (aG _) (by decide) (by decide)) (by decide) hd ?_;have e1:=λg=>kb (d+1) g (UC d);simp only[vM,wK,sx,sy,SO.run,↓reduceIte,Nat.reduceEqDiff,Nat.reduceAdd,Nat.reduceLeDiff,e1];exact⟨NoP,_,_,rfl,ax.2 rfl,ax.2 rfl⟩
 obtain⟨r,h1,a,b,rfl,h2,h⟩:=key;have h2:=ax.1 h2;injection h2 with h2;have h:=ax.1 h;injection h with h;rw[h1,h2,h]
end
theorem Sr{x:Nat}(h:x<=4611686018427387903):unV .neg (X_ (IntKind.wrap .u64 (-(x:Int))))=.val (X_ (x:Int)):=by have e:∀z:Int,unV .neg (X_ z)=.val (X_ (IntKind.wrap .u64 (0 - z))):=λz=>rfl;rw[e,show IntKind.wrap .u64 (-(x:Int))=(-(x:Int)) % 18446744073709551616 from rfl];show OR.val (X_ ((0 - (-(x:Int)) % 18446744073709551616) % 18446744073709551616))=_;congr 2;omega
def S.TB(x y:Int):Prop:=(1<=y/\y<=4611686018427387903/\-4611686018427387903<=x/\x<=4611686018427387903)/\Nat.gcd x.natAbs y.natAbs=1
instance (x y:Int):Decidable (S.TB x y):=by unfold S.TB;infer_instance
theorem Kx[XOc](hd:0<d)(h0:-4611686018427387903<=x)(h1:x<=4611686018427387903):ae C0 d 102 [X8 x] g=.val (X_ (x.natAbs:Int)):=by
 by_cases c:0<=x
 ·obtain⟨n,rfl⟩:=Ur c;exact tE hd ⟨by omega,by omega⟩
 ·obtain⟨n,h⟩:∃n:Nat,x = -(n:Int):=⟨x.natAbs,by omega⟩;subst h;rw[show (-(n:Int)).natAbs=n by omega,su];refine eX wD (xs:=[X8 (-(n:Int))]) (by simp only[aD,cg 0]) (by simp[lp]) hd ?_;have c':(-(n:Int))<0:=by omega
  simp only[sz,simprocAttr,lp,c',Sr (show n<=4611686018427387903 by omega)]
theorem Hj[XOc]{y:Int}(hd:0<d):ae C0 d 77 [.agg [X8 x,X8 y]] g=.val (X8 (if S.TB x y then 0 else 5)):=by
 rw[rA];refine eX uO (xs:=[.agg [X8 x,X8 y]]) rfl (by simp[cy]) hd ?_;have bad:¬(1<=y/\y<=4611686018427387903/\-4611686018427387903<=x/\x<=4611686018427387903)->(if S.TB x y then (0:Int) else 5)=5:=λh=>Um λh2=>h h2.1
 by_cases q1:y<1
 ·have:=bad (by omega);simp only[sz,simprocAttr,cy,cC,q1,this]
 by_cases q2:(4611686018427387903:Int)<y
 ·have:=bad (by omega);simp only[sz,simprocAttr,cy,cC,q1,q2,this]
 by_cases q4:x < -4611686018427387903
 ·have:=bad (by omega);simp only[sz,simprocAttr,cy,cC,q1,q2,q4,this]
 by_cases q3:(4611686018427387903:Int)<x
 ·have:=bad (by omega);simp only[sz,simprocAttr,cy,cC,q1,q2,q3,q4,this]
 have e1:∀g,ae C0 (d+1) 102 [X8 x] g=.val (X_ (x.natAbs:Int)):=λg=>Kx (UC d) (by omega) (by omega);have k:∀g,ae C0 (d+1) 101 [X_ (x.natAbs:Int),X_ (y.natAbs:Int)] g=.val (X_ (Nat.gcd x.natAbs y.natAbs:Int)):=λg=>xK (UC d) (by omega) (by omega);have wy:IntKind.wrap .u64 y=(y.natAbs:Int):=by rw[dR (by omega) (by omega)];omega
 obtain⟨G0,a⟩:∃G0,G0=Nat.gcd x.natAbs y.natAbs:=⟨_,rfl⟩;rw[<-a]at k
 by_cases c:G0=1
 ·have h:S.TB x y:=⟨by omega,by rw[<-a];exact c⟩;have c':(G0:Int)=1:=by omega
  rw[Un h];simp only[sz,simprocAttr,cy,cC,q1,q2,q3,q4,e1,wy,k,c']
 ·have h:¬S.TB x y:=λh=>c (by rw[a];exact h.2);have c':¬(G0:Int)=1:=by omega
  rw[Um h];simp only[sz,simprocAttr,cy,cC,q1,q2,q3,q4,e1,wy,k,c']
section
variable {C:Cfg}{d:Nat}
def Qt:Op->Bool
 |.panic _=>true
 |_=>false
def Pw(C:Cfg)(i:SI):Bool:=ul C i || (match i.op with|.raw op=>Qt op|_=>false)
def Px(C:Cfg):List SI->Bool
 |[]=>true
 |i::r=>Pw C i&&Px C r
def y8(C:Cfg):SC->Bool
 |.ops l=>Px C l
 |.seq a b=>y8 C a&&y8 C b
 |.cond _ a b=>y8 C a&&y8 C b
 |.blk _ b=>y8 C b
 |.loop b=>y8 C b
 |.raw _ _=>false
 |_=>true
theorem Ot:∀{l:List SI} {Q Q':PT} {t:T} {df:List ADf} {g:G},wpO C d none l Q t df g->(∀t df g,Q t df g->Q' t df g)->wpO C d none l Q' t df g:=by
 intro l
 induction l with
 |nil=>intro Q Q' t df g h hq;exact hq _ _ _ h
 | cons i r ih =>
  intro Q Q' t df g h hq;have ih:=λt df g h=>ih (t:=t) (df:=df) (g:=g) h hq;unfold wpO at h ⊢
  split at h
  ·exact dI ih h
  ·exact tF (λt df g h=>dI ih h) (λt df g h=>ih _ _ _ h) h
theorem PN{i:SI}{W:PT}(hi:(match i.op with|.raw op=>Qt op|_=>false)=true):¬pu C d none i W t df g:=by
 split at hi
 ·rename_i op h;cases op<;>first| (cases hi;done)|skip
  unfold pu;rw[h];exact λh=>h
 ·cases hi
theorem JE{i:SI}(h:Pw C i=true){W:PT}{Q:QP}(hr:pu C d none i W t df g):ma C d i W Q t df g:=by
 unfold Pw at h;rw[UZ]at h;rcases h with h|h
 ·exact xg h hr
 ·exact absurd hr (PN h)
theorem RO{Q:QP}:∀{l:List SI},Px C l=true->∀{t:T} {df:List ADf} {g:G},wpO C d none l (Q (.ex .norm)) t df g->wpQ C d l Q t df g:=by
 intro l
 induction l with
 |nil=>intro _ t df g h;exact h
 | cons i r ih =>
  intro hp t df g h;have hp:(Pw C i&&Px C r)=true:=hp;rw[Uk]at hp;have ih:=λt df g h=>ih hp.2 (t:=t) (df:=df) (g:=g) h;unfold wpO at h;unfold wpQ;cases hg:i.gd with
  | none =>
   rw[hg]at h;exact JE hp.1 (dI ih h)
  | some sw =>
   rw[hg]at h;exact tF (λt df g h=>JE hp.1 (dI ih h)) (λt df g h=>ih _ _ _ h) h
theorem RN:∀(s:SC),y8 C s=true->∀{Q:QT} {Q':QP} {t:T} {df:List ADf} {g:G},wp C d none s Q t df g->(∀e t df g,Q e t df g->Q' (.ex e) t df g)->wpP C d s Q' t df g:=by
 intro s
 induction s with
 | ops l =>
  intro hs Q Q' t df g h hq;rw[BB]at h;exact GR (Q:=λe t df g=>∃e',e=.ex e'/\Q e' t df g) (by rintro e t df g ⟨e',rfl,h⟩;exact hq _ _ _ _ h) (RO hs (Ot h λt df g h=>⟨_,rfl,h⟩))
 | seq a b iha ihb =>
  intro hs Q Q' t df g h hq;have hs:(y8 C a&&y8 C b)=true:=hs;rw[Uk]at hs;rw[dU]at h;refine iha hs.1 h λe t df g h=>?_;cases e with
  |norm=>exact ihb hs.2 h hq
  |exit x=>exact hq _ _ _ _ h
  |ret=>exact hq _ _ _ _ h
 | cond c a b iha ihb =>
  intro hs Q Q' t df g h hq;have hs:(y8 C a&&y8 C b)=true:=hs;rw[Uk]at hs;rw[EN]at h;show wpC (c.get t) (wpP C d a Q') (wpP C d b Q') t df g;unfold wpC at h ⊢
  split at h
  ·exact⟨λq=>iha hs.1 (h.1 q) hq,λq=>ihb hs.2 (h.2 q) hq⟩
  ·exact h
 | blk id b ih =>
  intro hs Q Q' t df g h hq;rw[BA]at h;refine ih hs h λe t df g h=>?_;cases e with
  |norm=>exact hq _ _ _ _ h
  |ret=>exact hq _ _ _ _ h
  | exit x =>
   rw[kX]at h;rw[wS]
   split at h
   ·rename_i e;rw[Un e];exact hq _ _ _ _ h
   ·rename_i e;rw[Um e];exact hq _ _ _ _ h
 | loop b ih =>
  intro hs Q Q' t df g h hq;rw[EO]at h;obtain⟨Inv,hk,f⟩:=h;refine⟨Inv,hk,λk t df g hi=>ih hs (f k t df g hi) λe t df g h=>?_⟩;cases e with
  |norm=>exact h
  |exit x=>exact hq _ _ _ _ h
  |ret=>exact hq _ _ _ _ h
 |raw nt c=>intro hs;cases hs
 |_=>intro _ Q Q' t df g h hq;exact bO _ h λe t df g h=>hq _ _ _ _ h
theorem pM{f:Nat}{s:SF}(hf:nFn C f=some s)(hs:y8 C s.code=true){xs:List AV}{KP:AV->G->Prop}(hl:xs.length<=s.nt)(h:wp C d none s.code (fnQ C d s.res K) (ba 0 xs .nil) [] g):CallsP C d f xs g K KP :=
 fA hf hl (RN _ hs h λe t df g h=>h)
end
theorem Eb(hj:j<=64):S.kn e j<18446744073709551616:=UI (Nc e j) (Wr (by decide) hj)
theorem Ja{y:Int}(hj:j<64)(hy:e[j]?=some y):S.kn e (j+1)=if 0<=y then S.kn e j ||| S.S3 j else S.kn e j:=by rw[S.kn,hy,Us,LI hj]
theorem N1[XOc]{v:Nat}(hd:0<d)(he:SlR P k g.h e w)(hl:e.length<=1000)(hv:v<e.length) :
  ∃r,ae C0 d 33 [w,X8 (v:Int),X8 x] g=.val r/\IT 0 (e.set v x) r:=by
 obtain⟨w',e1,c⟩:=dy he d;have rb:=λh=>(c h).ints;rw[yQ];refine a_ B2 (xs:=[w',X8 (v:Int),X8 x]) (by simp only[aD,e1,cg]) (by simp[qM]) (aG _) (by decide) hd ?_;simp only[sz,simprocAttr,qM];refine dS (b:=0) (rows:=[]) (new:=e.map ci) (.inr ⟨_,0,false,US _,?_,rfl,?_⟩) (rb _) (US _) (by simp[bz];omega) λv2 g2 hv2 n2 f2 _ l2=>?_
 ·simp[sx]
 ·simp[SD,sx]
 have a:Own g2 0 v2 1 (e.map ci):=by simpa using hv2
 obtain⟨y,f⟩:∃y,e[v]?=some y:=⟨_,Uj hv⟩;have j:v<(e.map ci).length:=by simpa using hv
 have l:(e.map ci)[v]?=some (ci y):=by rw[Uo,f];rfl
 simp only[sz,simprocAttr,a.rows,j];refine cP (v:=v2) (sz:=1) (n:=1) (i:=v) (off:=0) (x:=X8 x) (row':=ci x) a l rfl rfl rfl λg4 hu4 n4 f4=>?_;simp only[sz,simprocAttr];rw[show (e.map ci).set v (ci x)=(e.set v x).map ci by rw[Vy]]at hu4;exact⟨_,hu4.ints (by rw[WE];omega)⟩
section
variable {v:Int}
def S.TG(n:Net)(e:List Int)(v:Int):Prop:=S.SL n e=true/\0<=v/\v<(n.nodes.length:Int)/\e[v.toNat]?.getD 0<0
def S.Tc(n:Net)(v:Int)(x:Int):Prop:=0<=x/\x<(S.Sx n)[v.toNat]?.getD 0
open Classical in
def S.S6(n:Net)(e:List Int)(v:Int)(l:List Int):Int:=if S.SW n=true then if S.TG n e v/\∀x∈l,S.Tc n v x then 0 else 2 else 50
theorem qd:S.S6 n e v l=0↔S.SW n=true/\S.TG n e v/\∀x∈l,S.Tc n v x:=by
 unfold S.S6
 by_cases h:S.SW n=true
 ·rw[Un h]
  by_cases h2:S.TG n e v/\∀x∈l,S.Tc n v x
  ·rw[Un h2];exact⟨λ_=>⟨h,h2⟩,λ_=>rfl⟩
  ·rw[Um h2];exact⟨λh=>absurd h (by decide),λh=>absurd h.2 h2⟩
 ·rw[Um h];exact⟨λh=>absurd h (by decide),λh2=>absurd h2.1 h⟩
theorem Fz(h:S.SW n=true)(h2:¬(S.TG n e v/\∀x∈l,S.Tc n v x)):S.S6 n e v l=2:=by unfold S.S6;rw[Un h,Um h2]
theorem IL(h:S.SW n=true)(h2:S.TG n e v)(h3:∀x∈l,S.Tc n v x):S.S6 n e v l=0:=qd.2 ⟨h,h2,h3⟩
theorem Mq(h:S.SW n=false):S.S6 n e v l=50:=by unfold S.S6;rw[Um (by rw[h];decide)]
end
structure GvJ (g0:G) (q:Nat) (s:Int) (h:H):Prop where
 fr:∀i,i<g0.nx->i≠q->h.get i=g0.h.get i
 hq:h.get q=Xs 1 [[X8 s]]
section
variable {n:Nat}
structure ND where
 c:Nat->Int
 P:Nat->List Int
 m:Nat->Nat
 R:Nat->Nat->List Int
 o:Nat->Nat
def LN(n:Nat)(D:ND):Ky->Prop:=λk=>k=(0,0)\/∃i q,k=(i+1,q)/\i<n/\q<2+D.o i
theorem LN.z{D:ND}:LN n D (0,0):=.inl rfl
theorem LN.s{D:ND}{q:Nat}(h:i<n)(hq:q<2+D.o i):LN n D (i+1,q):=.inr ⟨i,q,rfl,h,hq⟩
theorem LN.p{D:ND}(h:i<n):LN n D (i+1,0):=LN.s h (by omega)
theorem LN.r{n:Nat}{D:ND}{i:Nat}(h:i<n):LN n D (i+1,1):=LN.s h (by omega)
def gQ(D:ND)(V:Ky->AV)(i:Nat):List AV:=[X8 (D.c i),V (i+1,0),V (i+1,1)]
def H3(V:Ky->AV)(i r:Nat):List AV:=[V (i+1,2+r)]
structure BN (K n:Nat) (V:Ky->AV) (E:Ky->En) (D:ND):Prop where
 ns:E (0,0)=.sl 3 ((List.range n).map (gQ D V))
 ps:∀i,i<n->E (i+1,0)=.sl 1 ((D.P i).map ci)/\(D.P i).length<=K
 rs:∀i,i<n->E (i+1,1)=.sl 1 ((List.range (D.m i)).map (H3 V i))/\D.m i<=K
 rr:∀i r,i<n->r<D.m i->(D.R i r).length<=K/\((r<D.o i/\E (i+1,2+r)=.sl 1 ((D.R i r).map ci))\/SlR NoP 0 .nil (D.R i r) (V (i+1,2+r)))
def ND.node(D:ND)(i:Nat):Node:=⟨D.c i,D.P i,(List.range (D.m i)).map (D.R i)⟩
theorem JN(h:Own g b v 1 (l.map ci))(hl:l.length<9223372036854775808)(hp:∀i,b<=i->P i):SlR P 0 g.h l v :=
 Own.sl (α:=Int) h hl (Sx (λa=>ax.2 rfl) _) λi hi=>hp i (h.lt hi).1
theorem BN.rows{K:Nat}{D:ND}{L:Ky->Prop}(hB:BN K n V E D)(hH:Hp g b L V E)(hL:∀k,LN n D k->L k)(hK:K<=1000000)(hi:i<n):SlR (λj=>b<=j) 0 g.h ((List.range (D.m i)).map (D.R i)) (V (i+1,1)):=by
 obtain⟨h1,h2⟩:=hB.rs i hi;have ho:=hH.own (hL _ (LN.r hi)) h1;refine Own.sl (α:=List Int) ho (by simp;omega) (xw λr hr=>?_) λj hj=>(ho.lt hj).1;have hr:=Uw.1 hr;obtain⟨h4,h3⟩:=hB.rr i r hi hr;rcases h3 with⟨h5,h3⟩|h3
 ·exact jx.2 ⟨_,rfl,JN (hH.own (hL _ (LN.s hi (by omega))) h3) (by omega) λ_ h=>h⟩
 ·exact jx.2 ⟨_,rfl,(h3.tree (h':=g.h) (Ui 0)).wd λ_ h=>h.elim⟩
theorem Hp.off{κ:Type} [DecidableEq κ]{L:κ->Prop}{V:κ->AV}{E:κ->En}{k:κ}{x:AV}(h:Hp g b L V E)(hk:¬L k):Hp g b L (ups V k x) E:=by have ne:∀j,L j->j≠k:=λj hj e=>hk (by rw[<-e];exact hj);exact⟨λj hj=>by rw[ap V x (ne j hj)];exact h.ok j hj,λj l hj hl hne id=>by rw[ap V x (ne j hj),ap V x (ne l hl)];exact h.sep j l hj hl hne id,h.nx⟩
theorem BN.pars{K:Nat}{D:ND}{L:Ky->Prop}(hB:BN K n V E D)(hH:Hp g b L V E)(hL:∀k,LN n D k->L k)(hK:K<=1000000)(hi:i<n):SlR (λj=>b<=j) 0 g.h (D.P i) (V (i+1,0)):=by obtain⟨h1,h2⟩:=hB.ps i hi;exact JN (hH.own (hL _ (LN.p hi)) h1) (by omega) λ_ h=>h
theorem BN.nodes{K:Nat}{D:ND}{L:Ky->Prop}(hB:BN K n V E D)(hH:Hp g b L V E)(hL:∀k,LN n D k->L k)(hK:K<=1000000)(hn:n<=1000000):SlR (λj=>b<=j) 0 g.h ((List.range n).map D.node) (V (0,0)):=by have ho:=hH.own (hL _ LN.z) hB.ns;refine Own.sl (α:=Node) ho (by simp;omega) (xw λi hi=>?_) λj hj=>(ho.lt hj).1;have hi:=Uw.1 hi;exact fd.2 ⟨_,_,rfl,hB.pars hH hL hK hi,hB.rows hH hL hK hi⟩
theorem po{α:Type}(f:Nat->α)(x:α)(hi:i<n):((List.range n).map f).set i x=(List.range n).map (ups f i x):=by
 refine List.ext_getElem (by simp) λj h1 h2=>?_;rw[List.getElem_set]
 by_cases e:i=j
 ·subst e;simp[aJ]
 ·rw[Um e];simp[ap _ _ (VC e)]
theorem hZ{α:Type}(f:Nat->α)(hi:i<n):((List.range n).map f)[i]?=some (f i):=by simp[hi]
theorem A4{D D':ND}{V':Ky->AV}{row:List AV}(h0:row=gQ D' V' i)(h:∀j,j<n->j≠i->gQ D V j=gQ D' V' j):(List.range n).map (ups (gQ D V) i row)=(List.range n).map (gQ D' V'):=by
 refine Vr λj k=>?_;have k:=Uw.1 k
 by_cases e:j=i
 ·subst e;rw[aJ,h0]
 ·rw[ap _ _ e,h j k e]
end
section
variable {X:List Int}
def OH(gr c:Int)(l:List Int):Prop:=(l.length:Int)=c/\(∀y∈l,0<=y/\y<=gr)/\l.sum=gr
def Sk(gr:Int)(C:Nat):VS:=λP k h v=>∃l:List Int,(l.length=C/\OH gr C l)/\One l P k h v
def S.rq(gr s x:Int):Int:=gr*x / s
theorem JB(gr s:Int):S.rq gr s 0=0:=by simp[S.rq]
theorem H0{gr s:Int}(hs:0<=s)(hg:0<=gr):∀l:List Int,(∀x∈l,0<=x/\x<=s)->0<=(l.map (S.rq gr s)).sum/\(l.map (S.rq gr s)).sum*s<=gr*l.sum
 |[],_=>by simp
 | x::l,h=>by
  have ih:=H0 hs hg l λy hy=>h y (U6 _ hy);have hx:=h x (U9 ..);have h1:0<=S.rq gr s x:=Int.ediv_nonneg (WO hg hx.1) hs;have h2:S.rq gr s x*s<=gr*x:=by
   by_cases e:s=0
   ·have:x=0:=by omega
    subst this;simp[S.rq,e]
   ·exact Int.ediv_mul_le _ e
  simp only[VM,Wu];refine⟨by omega,?_⟩;rw[Xr,Int.mul_add];omega
theorem zl:∀(l:List Int),(∀x∈l,0<=x)->0<=l.sum/\∀x∈l,x<=l.sum
 |[],_=>by simp
 | a::l,h=>by
  have ih:=zl l λy hy=>h y (U6 _ hy);have ha:=h a (U9 ..);simp only[Wu];refine⟨by omega,λx hx=>?_⟩;rcases UW.1 hx with rfl|hx
  ·omega
  ·have:=ih.2 x hx;omega
theorem JP:∀(l:List Int) (i:Nat) (x y:Int),l[i]?=some x->(l.set i y).sum=l.sum - x+y
 |[],i,x,y,h=>by simp at h
 | a::l,0,x,y,h=>by simp at h;subst h;simp only[Wa,Wu];omega
 | a::l,i+1,x,y,h=>by rw[Xi,Wu,Wu,JP l i x y (by simpa using h)];omega
theorem PL{s:Int}{la:Nat}(hg:0<=gr)(hX:∀x∈X,0<=x/\x<=s)(hs:s=X.sum)(hla:la<X.length)(hx:(X.map (S.rq gr s))[la]?=some x):OH gr X.length ((X.map (S.rq gr s)).set la (x+(gr - (X.map (S.rq gr s)).sum)))/\0<=x+(gr - (X.map (S.rq gr s)).sum)/\x+(gr - (X.map (S.rq gr s)).sum)<=gr:=by
 have b:0<=s:=by rw[hs];exact (zl X λx hx=>(hX x hx).1).1
 have hq:=H0 b hg X hX;have d:(X.map (S.rq gr s)).sum<=gr:=by
  by_cases e:s=0
  ·have h0:∀x∈X,x=0:=λx hx=>by have:=hX x hx;omega
   have:X.map (S.rq gr s)=List.replicate X.length 0:=by rw[List.eq_replicate_iff];refine⟨by simp,λy hy=>?_⟩;obtain⟨z,hz,rfl⟩:=U4.1 hy;rw[h0 z hz,JB]
   rw[this];have:∀n:Nat,(List.replicate n (0:Int)).sum=0:=λn=>by induction n with
    |zero=>rfl
    |succ n ih=>rw[VO,Wu,ih];rfl
   rw[this];exact hg
  ·have h1:=hq.2;rw[<-hs]at h1;exact Int.le_of_mul_le_mul_right h1 (by omega)
 have c:∀y∈X.map (S.rq gr s),0<=y:=λy hy=>by obtain⟨z,hz,rfl⟩:=U4.1 hy;exact Int.ediv_nonneg (WO hg (hX z hz).1) b
 have f:=c x (Ul hx);have k:((X.map (S.rq gr s)).set la (x+(gr - (X.map (S.rq gr s)).sum))).sum=gr:=by rw[JP _ _ _ _ hx];omega
 have a:∀y∈(X.map (S.rq gr s)).set la (x+(gr - (X.map (S.rq gr s)).sum)),0<=y:=λy hy=>by
  rcases List.mem_or_eq_of_mem_set hy with h|rfl
  ·exact c y h
  ·omega
 have hb:=zl _ a;rw[k]at hb;refine⟨⟨by simp,λy hy=>⟨a y hy,hb.2 y hy⟩,k⟩,by omega,hb.2 _ ?_⟩;exact List.mem_set (by simpa using hla) _
structure Rw1 (gr:Int) (nv u:AV) (C F j:Nat) (t:T) (g:G):Prop where
 st:St t [(0,X8 gr),(1,X8 (C:Int)),(2,nv),(3,X8 (F:Int)),(9,u)]
 hX:∃(X:List Int) (s:Int),tat t 10=X8 s/\X.length=C/\Own g 0 u 1 (X.map ci)/\(∀x∈X,0<=x/\x<=7)/\s=(X.take j).sum/\0<=s/\s<=7*j
theorem Ry[XOc]{C F:Nat}{nv:AV}{l:List UInt8}(hC:C<=3)(hF:F<=1000)(hl:SlR NoP kk .nil l nv)(h0:Rw1 gr nv u C F 0 t g)(h11:tat t 11=X8 0)
  (fin:∀t g,Rw1 gr nv u C F C t g->Q (.exit 0) t [] g):wpL (wp C0 d none nA) Q t [] g:=by
 obtain⟨nr,I,r2,r3,r4⟩:=hl.all;have I:∀h',ah h' 1 nv=some nr:=I;have U:=hl.1;have ll:=hl.len;simp only[nA,tf];refine im C (by omega) (λj t df g=>df=[]/\Rw1 gr nv u C F j t g) ⟨rfl,h0⟩ h11 (by decide) ?_ ?_ ?_ ?_
 ·rintro j t df g v s (rfl|rfl|rfl) ⟨a1,⟨b1,b2,M,N,O,-⟩,X,s',c1,R⟩<;>exact⟨a1,by simp[St,sx,b1,b2,M,N,O],X,s',by simp[sx,c1],R⟩
 ·rintro j t df g S ⟨rfl,⟨h0,h1,h2,c,h9,-⟩,X,s,k,hX⟩ h11;simp only[sz,simprocAttr,h11,h1];exact⟨by simp[St,sx,h0,h1,h2,c,h9],X,s,by simp[sx,k],hX⟩
 ·rintro j t df g S ⟨rfl,⟨h0,h1,h2,c,h9,-⟩,X,s,k,w,hX,q,D,V,W⟩ h11;refine i8 (P:=λt' df g'=>df=[]/\∃(X':List Int) (x':Int),St t' [(0,X8 gr),(1,X8 (C:Int)),(2,nv),(3,X8 (F:Int)),(9,u),(10,X8 s),(11,X8 (j:Int))]/\X'.length=C/\Own g' 0 u 1 (X'.map ci)/\(∀x∈X',0<=x/\x<=7)/\X'[j]?=some x'/\∀i,i≠j->X'[i]?=X[i]?) ?_ ?_
  ·have r:X[j]?=some X[j]:=Uj (by omega);simp only[sz,simprocAttr,h2,ll];refine ij (λhb=>?_) (λhb=>?_)
   ·have hb:0<l.length:=by simpa using hb
    have w1:IntKind.wrap .i64 ((F:Int)+(j:Int))=((F+j:Nat):Int):=by rw[aE (by omega) (by omega)];simp
    have q1:=Jy (x:=F+j) (y:=l.length) hb;have m:=VT (F+j) hb;generalize (F+j) % l.length=a at q1 m;obtain⟨y,Z,-,-⟩:=ay (l:=l) (j:=a) m;obtain⟨row,z1,z2⟩:=r3 a y Z;rw[fM.1 z2]at z1;have hlt:a<nr.length:=by omega
    have q2:=iX .u8 (a:=(y.toNat:Int)) (b:=8) (by omega) (by omega);have E:0<=(y.toNat:Int) % 8:=Int.emod_nonneg _ (by decide);have H:(y.toNat:Int) % 8<8:=Xh _ (by decide);have L:IntKind.wrap .i64 ((y.toNat:Int) % 8)=(y.toNat:Int) % 8:=aE (by omega) (by omega);generalize (y.toNat:Int) % 8=z at q2 E H L;have J:j<(X.map ci).length:=by simp;omega
    have K:(X.map ci)[j]?=some (ci X[j]):=by rw[Uo,r];rfl
    have rX:=hX.rows;simp only[sz,simprocAttr,h2,c,h9,h11,ll,w1,q1,I,hlt,z1,q2,L,rX,J];refine cP (v:=u) (sz:=1) (n:=1) (i:=j) (off:=0) (x:=X8 z) (row':=ci z) hX K rfl rfl rfl λg4 hu4 n4 f4=>?_;rw[<-Vy]at hu4;simp only[sx,sy];refine⟨X.set j z,z,by simp[St,sx,h0,h1,h2,c,h9,k,h11],by simp[w],hu4,λx hx=>?_,by rw[Vx (by omega)],λi hi=>by rw[W4 (VC hi)]⟩;rcases List.mem_or_eq_of_mem_set hx with h|rfl
    ·exact q x h
    ·omega
   ·simp only[sx,sy];exact⟨X,X[j],by simp[St,sx,h0,h1,h2,c,h9,k,h11],w,hX,q,r,λ_ _=>rfl⟩
  clear h0 h1 h2 c h9 k h11 hX;rintro t df g ⟨rfl,X',x',⟨h0,h1,h2,c,h9,k,h11,-⟩,A,p,f,o,B⟩;have J:j<(X'.map ci).length:=by simp;omega
  have K:(X'.map ci)[j]?=some (ci x'):=by rw[Uo,o];rfl
  have rX:=p.rows;have Y:=f x' (Ul o);have w1:IntKind.wrap .i64 (s+x')=s+x':=aE (by omega) (by omega);simp only[sz,simprocAttr,te,k,h9,h11,rX,J,K,ci,w1];have ht:X'.take j=X.take j:=List.ext_getElem? λi=>by
   by_cases e:i<j
   ·rw[UV e,UV e,B i (by omega)]
   ·rw[WY (by simp;omega),WY (by simp;omega)]
  refine⟨by simp[St,sx,h0,h1,h2,c,h9],X',s+x',by simp[sx],A,p,f,?_,by omega,by omega⟩;rw[Ws,o,ht,List.sum_append,<-D];simp
 ·rintro t df g ⟨rfl,h⟩;exact fin t g h
structure Rw2 (gr s:Int) (u:AV) (C:Nat) (X:List Int) (j:Nat) (t:T) (g:G):Prop where
 st:St t [(0,X8 gr),(1,X8 (C:Int)),(9,u),(10,X8 s)]
 hX:∃(la:Nat),tat t 12=X8 (gr - ((X.take j).map (S.rq gr s)).sum)/\tat t 13=X8 (la:Int)/\la<C/\Own g 0 u 1 (((X.take j).map (S.rq gr s)++X.drop j).map ci)
theorem PM{s:Int}(h:j<X.length):((X.take j).map (S.rq gr s)++X.drop j).set j (S.rq gr s X[j])=(X.take (j+1)).map (S.rq gr s)++X.drop (j+1):=by
 have hl:((X.take j).map (S.rq gr s)).length=j:=by simp;omega
 rw[VR _ _ (by omega),hl,Ve,VY h,Wa,Wd h,Wh,VB]
 rfl
theorem Rz[XOc]{C:Nat}{s:Int}(hC:C<=3)(hg:0<=gr/\gr<=60)(hXl:X.length=C)(hXb:∀x∈X,0<=x/\x<=7/\x<=s)(h0:Rw2 gr s u C X 0 t g)(h14:tat t 14=X8 0)
  (fin:∀t g,Rw2 gr s u C X C t g->Q (.exit 2) t [] g):wpL (wp C0 d none nB) Q t [] g:=by
 simp only[nB,th];refine im C (by omega) (λj t df g=>df=[]/\Rw2 gr s u C X j t g) ⟨rfl,h0⟩ h14 (by decide) ?_ ?_ ?_ ?_
 ·rintro j t df g v s (rfl|rfl|rfl) ⟨a1,⟨b1,b2,O,R,-⟩,la,c1,L,U⟩<;>exact⟨a1,by simp[St,sx,b1,b2,O,R],la,by simp[sx,c1],by simp[sx,L],U⟩
 ·rintro j t df g I ⟨rfl,⟨h0,h1,h9,k,-⟩,la,c,f,hX⟩ h14;simp only[sz,simprocAttr,h14,h1];exact⟨by simp[St,sx,h0,h1,h9,k],la,by simp[sx,c],by simp[sx,f],hX⟩
 ·rintro j t df g I ⟨rfl,⟨h0,h1,h9,k,-⟩,la,c,f,o,hX⟩ h14;have m:j<X.length:=by omega
  obtain⟨K,b1,b2⟩:=hXb X[j] (VL m);have F:((X.take j).map (S.rq gr s)++X.drop j).length=C:=by simp;omega
  have w:((X.take j).map (S.rq gr s)++X.drop j)[j]?=some X[j]:=by rw[UA (by simp;omega)];simp[show min j X.length=j by omega,m]
  have E:j<(((X.take j).map (S.rq gr s)++X.drop j).map ci).length:=by rw[UK,F];exact I
  have q:(((X.take j).map (S.rq gr s)++X.drop j).map ci)[j]?=some (ci X[j]):=by rw[Uo,w];rfl
  have rX:=hX.rows;have H:0<=gr*X[j]:=WO hg.1 K;have M:gr*X[j]<=60*7:=Int.mul_le_mul hg.2 b1 K (by decide);have p:=PM (gr:=gr) (s:=s) m;have D:(X.take (j+1)).map (S.rq gr s)=(X.take j).map (S.rq gr s)++[S.rq gr s X[j]]:=by rw[Wd m,Wh];rfl
  have Y:=H0 (gr:=gr) (s:=s) (by omega) hg.1 (X.take j) λy hy=>by have:=hXb y (Vh hy);omega
  have B:∀x∈X,0<=S.rq gr s x/\S.rq gr s x<=420:=λx hx=>by obtain⟨c0,c1,L⟩:=hXb x hx;have h1:0<=gr*x:=WO hg.1 c0;have h2:gr*x<=60*7:=Int.mul_le_mul hg.2 c1 c0 (by decide);refine⟨Int.ediv_nonneg h1 (by omega),?_⟩;have:=Int.ediv_le_self (b:=s) h1;unfold S.rq;omega
  have J:∀l:List Int,(∀x∈l,x∈X)->(l.map (S.rq gr s)).sum<=420*l.length:=λl=>by
   induction l with
   |nil=>intro _;simp
   | cons a l ih =>
    intro h;have h1:=B a (h a (U9 ..));have h2:=ih λy hy=>h y (U6 _ hy);simp only[VM,Wu,UX]
    push_cast
    omega
  have W:=J (X.take j) λx hx=>Vh hx;have N:(X.take j).length<=3:=by simp;omega
  have V:=B X[j] (VL m);refine i8 (P:=λt' df g'=>df=[]/\∃(la':Nat),St t' [(0,X8 gr),(1,X8 (C:Int)),(9,u),(10,X8 s),(12,X8 (gr - ((X.take j).map (S.rq gr s)).sum)),(13,X8 (la':Int)),(14,X8 (j:Int))]/\la'<C/\Own g' 0 u 1 (((X.take (j+1)).map (S.rq gr s)++X.drop (j+1)).map ci)) ?_ ?_
  ·simp only[sz,simprocAttr,h9,h14,rX,E,q,ci];refine ij (λhb=>?_) (λhb=>?_)
   ·have hb:0<X[j]:=by simpa using hb
    have w1:IntKind.wrap .i64 (gr*X[j])=gr*X[j]:=aE (by omega) (by omega);have q1:bB .quo (X8 (gr*X[j])) (X8 s)=.val (X8 (S.rq gr s X[j])):=LH (x:=gr*X[j]) (y:=s) H (by omega) (by omega);simp only[sz,simprocAttr,h0,h9,k,h14,rX,E,q,ci,w1,q1];refine cP (v:=u) (sz:=1) (n:=1) (i:=j) (off:=0) (x:=X8 (S.rq gr s X[j])) (row':=ci (S.rq gr s X[j])) hX q rfl rfl rfl λg4 hu4 n4 f4=>?_;rw[<-Vy,p]at hu4;simp only[sz,simprocAttr,h14];exact⟨j,by simp[St,sx,h0,h1,h9,k,c,h14],by omega,hu4⟩
   ·have hb:X[j]=0:=by
     have:¬0<X[j]:=by simpa using hb
     omega
    simp only[sx,sy];refine⟨la,by simp[St,sx,h0,h1,h9,k,c,f,h14],o,?_⟩;rw[<-p,hb,JB,<-hb];have:((X.take j).map (S.rq gr s)++X.drop j).set j X[j]=(X.take j).map (S.rq gr s)++X.drop j:=by
     refine List.ext_getElem? λi=>?_
     by_cases e:j=i
     ·subst e;rw[Vx (by omega),w]
     ·rw[W4 e]
    rw[this];exact hX
  clear h0 h1 h9 k c f h14 hX rX o E q;rintro t df g ⟨rfl,la',⟨h0,h1,h9,k,c,f,h14,-⟩,o,r⟩;have A:((X.take (j+1)).map (S.rq gr s)++X.drop (j+1)).length=C:=by simp;omega
  have z:((X.take (j+1)).map (S.rq gr s)++X.drop (j+1))[j]?=some (S.rq gr s X[j]):=by rw[UF (by simp;omega),D,UA (by simp;omega)];simp[show min j X.length=j by omega]
  have E:j<(((X.take (j+1)).map (S.rq gr s)++X.drop (j+1)).map ci).length:=by rw[UK,A];exact I
  have q:(((X.take (j+1)).map (S.rq gr s)++X.drop (j+1)).map ci)[j]?=some (ci (S.rq gr s X[j])):=by rw[Uo,z];rfl
  have rX:=r.rows;have w1:IntKind.wrap .i64 (gr - ((X.take j).map (S.rq gr s)).sum - S.rq gr s X[j])=gr - ((X.take (j+1)).map (S.rq gr s)).sum:=by rw[D,List.sum_append,aE (by omega) (by omega)];simp;omega
  simp only[sz,simprocAttr,tg,c,h9,h14,rX,E,q,ci,w1];exact⟨by simp[St,sx,h0,h1,h9,k],la',by simp[sx],by simp[sx,f],o,r⟩
 ·rintro t df g ⟨rfl,h⟩;exact fin t g h
theorem RA[XOc]{C F:Nat}{nv:AV}{l:List UInt8}(hd:0<d)(hC:1<=C/\C<=3)(hF:F<=1000)(hg:0<=gr/\gr<=60)(hl:SlR NoP kk .nil l nv) :
  ∃r,ae C0 d 32 [X8 gr,X8 (C:Int),nv,X8 (F:Int)] g=.val r/\Sk gr C NoP 0 .nil r:=by
 rw[zV];refine a_ DW (xs:=[X8 gr,X8 (C:Int),nv,X8 (F:Int)]) (by simp only[aD,Ey d (hl.tree (h':=g.h) (Ui _)),cg 0]) (by simp[td]) (mK λo=>aG _) (by decide) hd ?_;simp only[sz,simprocAttr,td];refine wU (b:=0) (n:=C) (by unfold bz;omega) (by unfold bz;omega) (US _) λu g1 hu n1 f1 vu=>?_;simp only[sz,simprocAttr];refine Ry (gr:=gr) (nv:=nv) (u:=u) (C:=C) (F:=F) hC.2 hF hl ⟨by simp[St,sx],List.replicate C 0,0,by simp[sx],by simp,by simpa [ci] using hu,λx hx=>by rw[(WB.1 hx).2];decide,by simp,by omega,by omega⟩ (by simp[sx]) ?_;rintro t g2 ⟨⟨h0,h1,h2,q,h9,-⟩,X,s,c,e,hX,k,a,y,z⟩;rw[Vm (by omega)]at a;have j:=zl X λx hx=>(k x hx).1;simp only[sz,simprocAttr,tu,h0];refine Rz (gr:=gr) (s:=s) (u:=u) (C:=C) (X:=X) hC.2 hg e (λx hx=>⟨(k x hx).1,(k x hx).2,by rw[a];exact j.2 x hx⟩) ⟨by simp[St,sx,h0,h1,h9,c],0,by simp[sx],by simp[sx],by omega,by simpa using hX⟩ (by simp[sx]) ?_;clear h0 h1 h2 q h9 c hX;rintro t g3 ⟨⟨h0,h1,h9,c,-⟩,la,f,m,w,hX⟩;rw[Vm (by omega)]at f hX;rw[List.drop_eq_nil_of_le (by omega),Ux]at hX;obtain⟨x,hx⟩:∃x,(X.map (S.rq gr s))[la]?=some x:=⟨_,Uj (by simp;omega)⟩;obtain⟨f1,f2,B⟩:=PL (gr:=gr) (s:=s) (X:=X) (la:=la) hg.1 (λx hx=>⟨(k x hx).1,by rw[a];exact j.2 x hx⟩) a (by omega) hx;have A:la<((X.map (S.rq gr s)).map ci).length:=by simp;omega
 have p:((X.map (S.rq gr s)).map ci)[la]?=some (ci x):=by rw[Uo,hx];rfl
 have rX:=hX.rows;have w1:IntKind.wrap .i64 (x+(gr - (X.map (S.rq gr s)).sum))=x+(gr - (X.map (S.rq gr s)).sum):=aE (by omega) (by omega);simp only[sz,simprocAttr,tj,h9,m,f,rX,A,p,ci,w1];refine cP (v:=u) (sz:=1) (n:=1) (i:=la) (off:=0) (x:=X8 (x+(gr - (X.map (S.rq gr s)).sum))) (row':=ci (x+(gr - (X.map (S.rq gr s)).sum))) hX p rfl rfl rfl λg4 hu4 n4 f4=>?_;rw[<-Vy]at hu4;simp only[sz,simprocAttr,h9];exact⟨λ_=>True,_,⟨by simp[e],by rw[<-e];exact f1⟩,hu4.ints (by simp;omega)⟩
end
theorem Ba(os:List UInt8):∀k,(S.S1 os k).Perm ((List.range k).map λi:Nat=>(i:Int))
 |0=>.refl _
 | k+1=>by rw[WG,Wh,S.S1];refine List.perm_middle.trans ?_;rw[Vi];exact ((Ba os k).cons _).trans (List.perm_append_comm (l₁:=[(k:Int)]))
structure Num (n:Nat) (pl:List Int) (num:Nat->Nat):Prop where
 len:pl.length=n
 at_:∀k,k<n->pl[k]?=some (num k:Int)
 lt:∀k,k<n->num k<n
 inj:∀i j,i<n->j<n->num i=num j->i=j
 sur:∀u,u<n->∃k,k<n/\num k=u
theorem Rn(os:List UInt8)(n:Nat):∃num,Num n (S.S1 os n) num:=by
 have hp:=Ba os n;have hl:=qk os n;have f:∀x∈S.S1 os n,∃i:Nat,i<n/\x=(i:Int):=λx hx=>by have:=hp.mem_iff.1 hx;obtain⟨i,hi,rfl⟩:=U4.1 this;exact⟨i,Uw.1 hi,rfl⟩
 have l:(S.S1 os n).Nodup:=by rw[hp.nodup_iff];refine List.Pairwise.map _ ?_ (List.nodup_range (n:=n));intro a b h e;exact h (by omega)
 have c:∀k,k<n->(S.S1 os n)[k]?=some (((S.S1 os n)[k]?.getD 0).toNat:Int)/\((S.S1 os n)[k]?.getD 0).toNat<n:=λk hk=>by
  have d:k<(S.S1 os n).length:=by omega
  have e:=Uj d;obtain⟨i,hi,h⟩:=f _ (VL d);rw[e,Us,h];simp[hi]
 refine⟨λk=>((S.S1 os n)[k]?.getD 0).toNat,hl,λk hk=>(c k hk).1,λk hk=>(c k hk).2,λi j hi hj h=>?_,λu hu=>?_⟩
 ·have h1:=(c i hi).1;have h2:=(c j hj).1;refine (List.getElem?_inj (by omega) l).1 ?_;rw[h1,h2];exact congrArg (λx:Nat=>some (x:Int)) h
 ·have:(u:Int)∈S.S1 os n:=hp.mem_iff.2 (U4.2 ⟨u,Uw.2 hu,rfl⟩);obtain⟨k,hk,he⟩:=VD.1 this;refine⟨k,by omega,?_⟩;rw[Uj hk,he];rfl
theorem PQ(m n:Nat):∃z:Int,bB .shl (X8 (m:Int)) (X_ (n:Int))=.val (X8 z):=⟨_,rfl⟩
def LNX(X:Ky->Prop)(n:Nat)(D:ND):Ky->Prop:=λk=>LN n D k\/X k
def X1:Ky->Prop:=λk=>k=(0,1)
def X2:Ky->Prop:=λk=>k=(0,1)\/k=(0,2)
structure DN (X:Ky->Prop) (r0:List AV) (n q K:Nat) (gr:Int) (V:Ky->AV) (E:Ky->En) (D:ND) (g:G):Prop where
 hp:Hp g 2 (LNX X n D) V E
 bn:BN K n V E D
 vb:V (0,1)=X9 q
 bx:E (0,1)=.bx [X8 gr,V (0,0)]
 h0:g.h.get 0=Xs 3 [r0]
 h1:g.h.get 1=Xs 2 [[X8 0,.nils]]
theorem DN.q{X:Ky->Prop}{r0:List AV}{n q K:Nat}{gr:Int}{V:Ky->AV}{E:Ky->En}{D:ND}{g:G}(h:DN X r0 n q K gr V E D g)(hX:X (0,1)):g.h.get q=Xs 2 [[X8 gr,V (0,0)]]/\2<=q/\q<g.nx:=by obtain⟨id,h1,h2,a,h4⟩:=h.hp.box (k:=(0,1)) (.inr hX) h.bx;rw[h.vb]at a;injection a with a;subst a;exact⟨h4,h1,h2⟩
theorem DN.ns{X:Ky->Prop}{r0:List AV}{n q K:Nat}{gr:Int}{V:Ky->AV}{E:Ky->En}{D:ND}{g:G}(h:DN X r0 n q K gr V E D g):Own g 2 (V (0,0)) 3 ((List.range n).map (gQ D V)):=h.hp.own (.inl LN.z) h.bn.ns
theorem DN.same{X:Ky->Prop}{r0:List AV}{n q K:Nat}{D:ND}(h:DN X r0 n q K gr V E D g)(hf:Fr g g'):DN X r0 n q K gr V E D g':=by have:=h.hp.nx;exact⟨h.hp.step hf.1 λi _ hi=>hf.2 i hi,h.bn,h.vb,h.bx,by rw[hf.2 0 (by omega),h.h0],by rw[hf.2 1 (by omega),h.h1]⟩
theorem wZ{sz:Nat}{rows:List (List AV)}(h:Own g b v sz rows)(hr:0<rows.length):xX v=true:=by
 rcases h with⟨rfl,rfl⟩|⟨id,ep,lo,-,-,rfl,-⟩
 ·simp at hr
 ·rfl
theorem DN.card{X:Ky->Prop}{r0:List AV}{n q K:Nat}{c:Int}{D:ND}{KK:AV->G->Prop}{DD:ADf->Prop}(h:DN X r0 n q K gr V E D g)(hi:i<n)(hX:∀k,X k->k≠(0,0))
  (kk:∀g' E',DN X r0 n q K gr V E' { D with c:=ups D.c i c } g'->g'.nx=g.nx->KK .undef g'):(nO 1 (nZ 3 (V (0,0)) i 0) (X8 c) g).sat KK g DD:=by
 refine h.hp.put (k:=(0,0)) (row:=gQ D V i) (row':=[X8 c,V (i+1,0),V (i+1,1)]) (.inl LN.z) h.bn.ns (hZ _ hi) rfl rfl rfl λg' hH hn hf1 hf2=>?_;refine kk g' _ ⟨hH.sub λk hk=>hk,⟨?_,λj hj=>?_,λj hj=>?_,λj r hj hr=>?_⟩,h.vb,?_,by rw[hf1 0 (by omega),h.h0],by rw[hf1 1 (by omega),h.h1]⟩ hn
 ·rw[aJ,po _ _ hi];congr 1;refine A4 (by simp[gQ,aJ]) λj hj hne=>by simp[gQ,ap _ _ hne]
 ·rw[ap _ _ (by simp)];exact h.bn.ps j hj
 ·rw[ap _ _ (by simp)];exact h.bn.rs j hj
 ·rw[ap _ _ (by simp)];exact h.bn.rr j r hj hr
 ·rw[ap _ _ (by simp)];exact h.bx
end
end Hx
