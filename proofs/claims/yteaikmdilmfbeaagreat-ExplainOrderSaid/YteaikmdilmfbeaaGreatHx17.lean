/- A part of the proof: what the functions of the chapter compute. -/
import Derived.Test.YteaikmdilmfbeaaGreatHx16
set_option linter.all false
set_option maxRecDepth 20000
set_option maxHeartbeats 8000000
namespace Hx
open Go
noncomputable section
variable {n:Net}{g:G}{e vars mw oth l:List Int}{d k j i tg q:Nat}{P:Nat->Prop}{v qv:AV}{m x:Int}{h:H}{K:AV->G->Prop}{t:T}
section
variable {Q:QT}
theorem Mv{n:Nat}{D:ADf->Prop}(hn:n<=65536)(k:∀g',g'.h.get g.nx=W8 1 ((List.replicate n 0).map ci)->g'.nx=g.nx+1->Up g.nx g g'->g'.lg=g.nx::g.lg->K (.hsl g.nx 0 0 n none) g') :
  (A0 1 8 [XL 0] (XL (n:Int)) (XL (n:Int)) g).sat K g D:=by
 have h1:n<=aQ:=by unfold aQ;omega
 have h2:n*8<=aQ:=by unfold aQ;omega
 have key:A0 1 8 [XL 0] (XL (n:Int)) (XL (n:Int)) g=.upd (.hsl g.nx 0 0 n none) (g.new (W8 1 (fj n [XL 0]))):=by
  show (match bU aQ (XL (.ofNat n)) with
   | some cn=>match bU cn (XL (.ofNat n)) with
    |some ln=>ay (Nat.ble (cn*8) aQ) (OR.upd (.hsl g.nx 0 0 ln none) (g.new (W8 1 (fj cn [XL 0])))) .fail
    |none=>.fail
   |none=>.fail)=_
  have a1:bU aQ (XL (.ofNat n))=some n:=by show ay (Nat.ble n aQ) (some n) none=_;rw[aa,TO (by simpa using h1)]
  have a2:bU n (XL (.ofNat n))=some n:=by show ay (Nat.ble n n) (some n) none=_;rw[aa,TO (by simp)]
  rw[a1];dsimp only;rw[a2];dsimp only;rw[aa,TO (by simpa using h2)]
 rw[key];refine k _ ?_ (by simp) (Up.new (TG _) _) (by simp);simp[aP,fj,ci]
theorem Qz{n:Nat}{D:ADf->Prop}(hn:n<=65536)(k:∀g',g'.h.get g.nx=W8 1 ((List.replicate n 0).map ci)->g'.nx=g.nx+1->Up g.nx g g'->K (.hsl g.nx 0 0 n none) g') :
  (A0 1 8 [XL 0] (XL (n:Int)) (XL (n:Int)) g).sat K g D:=Mv hn λg' a b c _=>k g' a b c
def S.SX(n:Net)(oth:List Int)(w:Nat):Int:=S.RQ (S.RO (S.RN n) oth) (S.RO (S.RT (S.RN n) (w:Int)) oth)
def LW(B tg:Nat)(qv:AV):List (Nat×AV):=[(1,.tptr tg 1 [[qv]] 0 0),(2,XM B),(3,XM (B+2))]
theorem RC{B:Nat}{vals:List Int}{uu vv:AV}{j:Int}{rd:Option Nat}(hq:zG n vars oth mw m k qv)(hp:∀x∈vars,0<=x/\x<(vals.length:Int))(hvl:vars.length<=8)(hu:SlR P 0 g.h vals uu)(hP:∀i,P i->i<g.nx/\B+3<=i)(hB:B+2<g.nx)
  (gv:Own g B (.hsl (B+1) 0 0 vars.length none) 1 (l.map ci)) (g2:g.h.get (B+2)=W8 1 [[.hsl (B+1) 0 0 vars.length none]]) (hl:l.length=vars.length)
  (ht:St t ((5,uu)::(4,XL j)::(29,vv)::LW B tg qv)) (hvv:SlR NoP k .nil vars vv) (h31:tat t 31=XL 0) (h30:tat t 30=XL (vars.length:Int))
  (fin:∀t g',St t ((5,uu)::(4,XL j)::LW B tg qv)->g.nx<=g'.nx->(∀i,i<g.nx->i≠B+1->g'.h.get i=g.h.get i)->Up B g g'->Own g' B (.hsl (B+1) 0 0 vars.length none) 1 ((S.RO vals vars).map ci)->Q (.exit 2) t [] g'):wpL (wp C0 d rd cx) Q t [] g:=by
 have rv:=λh=>(hvv.tree (h':=h) (TG _)).ints;have I:(S.RO vals vars).length=vars.length:=by simp[S.RO]
 simp only[cx];refine aI (m:=vars.length) (by omega) (λi t df g'=>df=[]/\St t ((5,uu)::(4,XL j)::(29,vv)::LW B tg qv)/\g.nx<=g'.nx/\(∀i,i<g.nx->i≠B+1->g'.h.get i=g.h.get i)/\Up B g g'/\Own g' B (.hsl (B+1) 0 0 vars.length none) 1 (((S.RO vals vars).take i++l.drop i).map ci)) ⟨rfl,ht,TG _,λ_ _ _=>rfl,Up.refl _ _,by simpa using gv⟩ h31 h30 (by decide)
  (by rintro i t df g v s (rfl|rfl|rfl) ⟨a1,⟨b1,b2,D,E,F,H,-⟩,c1⟩<;>exact⟨a1,by simp[St,LW,sx,b1,b2,D,E,F,H],c1⟩) ?_ ?_
 ·rintro i t df g1 hi ⟨rfl,⟨h5,h4,a,h1,h2,h3,-⟩,C,hf,f,A⟩ h31 h30;obtain⟨p,e,-,r⟩:=ae hi;obtain⟨K,O⟩:=hp p r;obtain⟨pn,rfl⟩:=TP K;obtain⟨x,hx,-,-⟩:=ae (l:=vals) (j:=pn) (by omega);have M:i<(vars.map ci).length:=by simpa using hi
  have N:(vars.map ci)[i]?=some (ci (pn:Int)):=by rw[TK,e];rfl
  have y1:pn<(vals.map ci).length:=by rw[TT];omega
  have L:(vals.map ci)[pn]?=some (ci x):=by rw[TK,hx];rfl
  have w:SlR P 0 g1.h vals uu:=hu.far8 λi hi=>hf i (hP i hi).1 (by have:=hP i hi;omega);have ru:=w.ints;have gs:g1.h.get (B+2)=W8 1 [[.hsl (B+1) 0 0 vars.length none]]:=by rw[hf _ hB (by omega),g2]
  have c:(S.RO vals vars)[i]?=some x:=by simp[S.RO,e,hx]
  obtain⟨y,J,-,-⟩:=ae (l:=l) (j:=i) (by omega);have e3:(((S.RO vals vars).take i++l.drop i).map ci).set i (ci x)=((S.RO vals vars).take (i+1)++l.drop (i+1)).map ci:=by
   rw[<-Vf,UU _ _ (by simp;omega),T_,UP (by omega),UD,Uh (by omega),UM (by omega),Vm,UJ];have:(S.RO vals vars)[i]=x:=by rw[TH (by omega)]at c;injection c
   rw[this];rfl
  have q:(((S.RO vals vars).take i++l.drop i).map ci).length=vars.length:=by simp;omega
  have o:i<(((S.RO vals vars).take i++l.drop i).map ci).length:=by rw[q];exact hi
  have u:(((S.RO vals vars).take i++l.drop i).map ci)[i]?=some (ci y):=by rw[TK,T0 (by simp;omega),Um];simp only[T_,UP (show i<=(S.RO vals vars).length by omega),UD,Vu,J,U0]
  simp only[sz,simprocAttr,sf,a,h31,rv,M,N,ci,h3,gs,h5,ru,y1,L,A.rows,o];refine qU (g:=_) (b:=B) (v:=.hsl (B+1) 0 0 vars.length none) (sz:=1) (n:=1) (i:=i) (off:=0) (x:=XL x) (row:=ci y) (row':=ci x) (A.fr (by simp<;>omega) (λi' hi'=>by simp)) u rfl rfl rfl λg5 o5 n5 f5 u5=>?_;rw[e3]at o5;have z:∀i',i'≠B+1->g5.h.get i'=g1.h.get i':=λi' hi'=>by rw[f5 i' (by simpa [vid] using λh:B+1=i'=>hi' h.symm)];simp
  simp only[sy]at n5;simp only[sz,simprocAttr,sf];refine⟨?_,?_⟩
  ·simp only[Uf,Ug,Ud,T4];exact aN (false::(Xp (Xo (true::[])))) [] (by simp[All2,am,aE]) (by decide) (by simp)
  refine⟨⟨by simp[St,LW,sx,h5,h4,a,h1,h2,h3],by first|omega| (simp<;>omega),λi' h1 h2=>by simp[z i' h2,hf i' h1 h2],f.trans ⟨λi' h=>by simp[z i' (by omega)],λi' h=>?_⟩,o5.fr (by simp<;>omega) λi' h=>by simp⟩,by simp[sx,h31],by simp[sx,h30]⟩;simp at h;rcases h with h|h
  ·rcases u5.2 i' h with h|h
   ·simp at h
   ·exact .inr h
  ·exact .inl h
 ·rintro t df g' ⟨rfl,⟨h5,h4,-,ht⟩,C,hf,f,gv1⟩;rw[TX (by omega),VU (by omega),T3]at gv1;exact fin t g' ⟨h5,h4,ht⟩ C hf f gv1
theorem RD{B t0:Nat}{vals:List Int}{b vw ow ww uu:AV}{j:Int}{rd:Option Nat}(hr:NR n)(hb:SlR NoP k .nil n.nodes b)(ho:SlR NoP k .nil oth ow)(hp:∀x∈oth,0<=x/\x<(n.nodes.length:Int))(hol:oth.length<=8)(hin:InC (S.RN n) vals)(hu:SlR P 0 g.h vals uu)
  (ht:St t ((5,uu)::(4,XL j)::(47,ow)::(8,XL 0)::LW B tg (.tptr t0 6 [[XL n.grain,b,vw,ow,ww,XL m]] 0 0))) (h49:tat t 49=XL 0) (h48:tat t 48=XL (oth.length:Int))
  (fin:∀t,St t ((8,XL (S.RQ (S.RO (S.RN n) oth) (S.RO vals oth)))::(4,XL j)::LW B tg (.tptr t0 6 [[XL n.grain,b,vw,ow,ww,XL m]] 0 0))->Q (.exit 4) t [] g):wpL (wp C0 d rd cy) Q t [] g:=by
 have ro:=λh=>(ho.tree (h':=h) (TG _)).ints;have w:=hin.len;rw[aB]at w;have M:(S.RO (S.RN n) oth).length=oth.length:=by simp[S.RO]
 have N:(S.RO vals oth).length=oth.length:=by simp[S.RO]
 have e:=aZ (ps:=oth) hr.cs (λp a=>by rw[aB];exact hp p a);have hC:=dx hin (λp a=>by rw[aB];exact hp p a);have ru:=hu.ints;simp only[cy];refine aI (m:=oth.length) (by omega) (λi t df g'=>df=[]/\g'=g/\St t ((5,uu)::(4,XL j)::(47,ow)::(8,XL (S.RQ ((S.RO (S.RN n) oth).take i) ((S.RO vals oth).take i)))::LW B tg (.tptr t0 6 [[XL n.grain,b,vw,ow,ww,XL m]] 0 0))) ⟨rfl,rfl,by simpa [S.RQ] using ht⟩ h49 h48 (by decide)
  (by rintro i t df g v s (rfl|rfl|rfl) ⟨a1,a2,⟨b1,b2,E,F,H,I,J,-⟩⟩<;>exact⟨a1,a2,by simp[St,LW,sx,b1,b2,E,F,H,I,J]⟩) ?_ ?_
 ·rintro i t df g' hi ⟨rfl,rfl,⟨h5,h4,o,h8,h1,h2,h3,-⟩⟩ h49 h48;obtain⟨p,f,-,a⟩:=ae hi;obtain⟨V,W⟩:=hp p a;obtain⟨pn,y,rows,pa,ra,rfl,hy,X,Y,Z,r4,z,r5⟩:=D_ hb V W;obtain⟨x,hx,-,-⟩:=ae (l:=vals) (j:=pn) (by omega);have z1:i<(oth.map ci).length:=by simpa using hi
  have z2:(oth.map ci)[i]?=some (ci (pn:Int)):=by rw[TK,f];rfl
  have y1:pn<(vals.map ci).length:=by rw[TT];omega
  have y2:(vals.map ci)[pn]?=some (ci x):=by rw[TK,hx];rfl
  have q:(S.RO (S.RN n) oth)[i]?=some y.card:=by simp[S.RO,f,r5]
  have r:(S.RO vals oth)[i]?=some x:=by simp[S.RO,f,hx]
  have c1:(S.RO (S.RN n) oth).take (i+1)=(S.RO (S.RN n) oth).take i++[y.card]:=by rw[Uh (by omega)];congr 2;rw[TH (by omega)]at q;injection q
  have K:(S.RO vals oth).take (i+1)=(S.RO vals oth).take i++[x]:=by rw[Uh (by omega)];congr 2;rw[TH (by omega)]at r;injection r
  have u:S.RQ ((S.RO (S.RN n) oth).take (i+1)) ((S.RO vals oth).take (i+1))=S.RQ ((S.RO (S.RN n) oth).take i) ((S.RO vals oth).take i)*y.card+x:=by rw[c1,K];exact AK (by simp;omega)
  have C:=bI (λc h=>e c (Uc h)) (hC.take i);have D:=bI (λc h=>e c (Uc h)) (hC.take (i+1));have q1:=dc e (by omega) i;have q2:=dc e (by omega) (i+1);rw[u]at D ⊢;have U:=hr.card y z;obtain⟨A,L⟩:∃A,A=S.RQ ((S.RO (S.RN n) oth).take i) ((S.RO vals oth).take i):=⟨_,rfl⟩;rw[<-L]at h8 C D ⊢;have O:0<=A*y.card:=Vp C.1 (by omega);have R:A*y.card<=65536*4:=Wy (by omega) (by omega) (by omega) (by omega);have w1:IntKind.wrap .i64 (A*y.card)=A*y.card:=ap (by omega) (by omega);have w2:IntKind.wrap .i64 (A*y.card+x)=A*y.card+x:=ap (by omega) (by omega);simp only[sz,simprocAttr,o,h49,ro,z1,z2,ci,h8,h1,h5,eo,bH,aT,X,Y,Z,r4,ru,y1,y2,w1,w2];simp[St,LW,sx,h1,h2,h3,h4,h5,o,h48,h49]
 ·rintro t df g' ⟨rfl,rfl,⟨-,h4,-,h8,ht⟩⟩;rw[TX (by omega),TX (by omega)]at h8;exact fin t ⟨h8,h4,ht⟩
theorem KO{id:Nat}{g0:G}(hd:0<d)(hr:NR n)(hq:zG n vars oth mw m k qv)(hp:∀x∈vars,0<=x/\x<(n.nodes.length:Int))(hvl:vars.length<=8)(hpo:∀x∈oth,0<=x/\x<(n.nodes.length:Int))(hol:oth.length<=8)(hmw:mw.length=S.RR n)
  (J:Nat->G->Prop) (hJ:∀j g g',(∀i,i<g0.nx->g'.h.get i=g.h.get i)->J j g->J j g')
  (step:∀(j:Nat) (w:Int) (u:AV) (g:G) (K':AV->G->Prop) (D:ADf->Prop),j<S.RR n->mw[j]?=some w->g0.nx<=g.nx->J j g->Own g g0.nx u 1 ((S.RO (S.RT (S.RN n) (j:Int)) vars).map ci) ->
   (∀g',J (j+1) g'->g.nx<=g'.nx->(∀i,g0.nx<=i->i<g.nx->g'.h.get i=g.h.get i)->K' (.bool true) g')->(bP (I C0) d id [.agg [XL (S.SX n oth j),XL w],u] g).sat K' g D)
  (h0:J 0 g0) (fin:∀g',J (S.RR n) g'->g0.nx<=g'.nx->K (.tup []) g') :
  wp C0 d none aX.code (fnQ C0 d aX.res K) (bN 0 [.yld id,.tptr tg 1 [[qv]] 0 0] .nil) [] g0:=by
 obtain⟨t0,b,vw,ow,ww,rfl,Q,hb,U,ho,y⟩:=hq;have X:=hr.l2;obtain⟨W1,W2,W3⟩:=hr.wl;have L:CsOk (S.RN n):=⟨hr.cs,by rw[aB];omega⟩;have s:S.nc (S.RN n)=S.RR n:=rfl;have lv:∀g:G,cH .slice vw g=.val (XL (vars.length:Int)):=λg=>U.len g;have lo:∀g:G,cH .slice ow g=.val (XL (oth.length:Int)):=λg=>ho.len g;have rw_:=λh=>(y.tree (h':=h) (TG _)).ints;obtain⟨B,o⟩:∃B,B=g0.nx:=⟨_,rfl⟩;have H:∀g:G,EH (.yld id) g=.upd (XM g.nx) (g.new (W8 1 [[.yld id]])):=λg=>rfl;obtain⟨Qf,p⟩:∃Qf,Qf=fnQ C0 d aX.res K:=⟨_,rfl⟩;rw[<-p];simp only[sz,simprocAttr,aX,H];unfold eX;refine ge (P:=λt' df g'=>df=[]/\g'.nx=B+3/\g'.h.get B=W8 1 [[.yld id]]/\Own g' B (.hsl (B+1) 0 0 vars.length none) 1 ((List.replicate vars.length 0).map ci)/\g'.h.get (B+2)=W8 1 [[.hsl (B+1) 0 0 vars.length none]]/\Up B g0 g'/\St t' (LW B tg (.tptr t0 6 [[XL n.grain,b,vw,ow,ww,XL m]] 0 0))) ?_ ?_
 ·simp only[sz,simprocAttr,aT,eo,bH,lv];refine Qz (by omega) λg2 m2 n2 u2=>?_;simp only[sx]at m2 n2 u2;rw[<-o]at m2 n2 u2;simp only[sz,simprocAttr,n2,<-o];have W:Own g2 B (.hsl (B+1) 0 0 vars.length none) 1 ((List.replicate vars.length 0).map ci):=.inr ⟨B+1,0,false,by omega,by omega,by simp,m2⟩;refine⟨?_,W.fr (by simp) λi hi=>?_,?_,by simp[St,LW,sx]⟩
  ·rw[TN (by omega),TN (by omega),u2.1 B (by omega),G.new_h,o,aP]
  ·have:i=B+1:=by simpa [vid] using hi.symm
   subst this;simp[RQ,n2]
  ·exact ((Up.new (by omega) _).trans (u2.mono (by omega))).trans ((Up.new (by omega) _).trans (Up.put (by omega) _))
 rintro t df g1 ⟨rfl,n1,gB,gV,gS,U1,h1,h2,h3,-⟩;have E:J 0 g1:=hJ _ _ _ (o ▸ U1).1 h0;simp only[sz,simprocAttr,h1,aT,eo,bH];refine bi (yi (n:=n) hd (hb.tree (h':=g1.h) (TG _)) (by omega)) λrc hrc=>?_;simp only[sz,simprocAttr];obtain⟨z,kz,hz⟩:=zg (d:=d) (g:=g1) (w:=rc) (cs:=S.RN n) hd (hrc.sl g1.h);simp only[sz,simprocAttr,kz];refine Bl (cs:=S.RN n) (w:=z) L hz (by simp[sx]) (by decide) (by decide)
  (λj g'=>J j g'/\g'.h.get B=W8 1 [[.yld id]]/\(∃l:List Int,l.length=vars.length/\∃lo,g'.h.get (B+1)=.cells 1 (l.map ci) 0 lo false)/\g'.h.get (B+2)=W8 1 [[.hsl (B+1) 0 0 vars.length none]]) (λ_=>False) ?_ (λ_ _ _ h=>h) ?_ ?_ ?_ (λ_ h=>h.elim)
 ·rintro j g3 g4 q ⟨a1,a2,e,a4⟩;rw[n1]at q;exact⟨hJ _ _ _ (λi hi=>q.1 i (by omega)) a1,by rw[q.1 _ (by omega),a2],by rw[q.1 _ (by omega)];exact e,by rw[q.1 _ (by omega),a4]⟩
 ·refine⟨E,gB,?_,gS⟩;rcases gV with⟨h,-⟩|⟨id,ep,lo,-,-,h,hg⟩
  ·cases h
  ·injection h with e1 e2;subst e1;subst e2;exact⟨_,by simp,lo,hg⟩
 ·rintro j uu g3 V ⟨a1,a2,e,a4⟩ O hu;rw[s]at V;rw[n1]at O hu;simp only[sz,simprocAttr,eF];refine⟨Fr.refl _,λg5 n5 f5 u5=>?_⟩;rw[n1]at f5 u5;obtain⟨l,hl,lo1,e⟩:=e;have M:=eD (λc hc=>(hr.cs c hc).1) (j:Int);have a:=cS (S.RN n) (j:Int);rw[aB]at a;have v:SlR (λi=>B+3+2<=i/\i<g3.nx) 0 g5.h (S.RT (S.RN n) (j:Int)) uu:=hu.far8 λi hi=>f5 i (by omega);have gB5:g5.h.get B=W8 1 [[.yld id]]:=by rw[u5.1 _ (by omega),a2]
  have gV5:Own g5 B (.hsl (B+1) 0 0 vars.length none) 1 (l.map ci):=.inr ⟨B+1,0,lo1,by omega,by omega,by rw[TT,hl],by rw[u5.1 _ (by omega),e]⟩;have gS5:g5.h.get (B+2)=W8 1 [[.hsl (B+1) 0 0 vars.length none]]:=by rw[u5.1 _ (by omega),a4]
  have F:J j g5:=hJ _ _ _ (λi hi=>u5.1 i (by omega)) a1;simp only[sz,simprocAttr,eG,h1,aT,eo,bH,lv];refine RC (B:=B) (n:=n) (vars:=vars) (m:=m) (mw:=mw) (oth:=oth) (vals:=S.RT (S.RN n) (j:Int)) (l:=l) (vv:=vw) (tg:=tg) (qv:=.tptr t0 6 [[XL n.grain,b,vw,ow,ww,XL m]] 0 0) (k:=k) (uu:=uu) (j:=(j:Int))
   ⟨t0,b,vw,ow,ww,rfl,Q,hb,U,ho,y⟩ (by rw[a];exact hp) hvl v (λi hi=>by omega) (by omega) gV5 gS5 hl (by simp[St,LW,sx,h1,h2,h3]) U (by simp[sx]) (by simp[sx]) ?_
  rintro t6 C ⟨h5,h4,h1,h2,h3,-⟩ n6 A U6 gV6;have R:SlR (λi=>B+3+2<=i/\i<g3.nx) 0 C.h (S.RT (S.RN n) (j:Int)) uu:=v.far8 λi hi=>A i (by omega) (by omega);simp only[sz,simprocAttr,eI,h1,aT,eo,bH,lo];refine RD (B:=B) (n:=n) (oth:=oth) (vals:=S.RT (S.RN n) (j:Int)) (tg:=tg) (k:=k) (uu:=uu) (j:=(j:Int)) (t0:=t0) (b:=b) (vw:=vw) (ow:=ow) (ww:=ww) (m:=m) hr hb ho hpo hol M R (by simp[St,LW,sx,h1,h2,h3,h4,h5]) (by simp[sx]) (by simp[sx]) ?_;rintro t7 ⟨h8,h4,h1,h2,h3,-⟩;have gB6:C.h.get B=W8 1 [[.yld id]]:=by rw[A _ (by omega) (by omega),gB5]
  have gS6:C.h.get (B+2)=W8 1 [[.hsl (B+1) 0 0 vars.length none]]:=by rw[A _ (by omega) (by omega),gS5]
  obtain⟨w,hw,-,-⟩:=ae (l:=mw) (j:=j) (by omega);have Z:j<(mw.map ci).length:=by rw[TT];omega
  have z2:(mw.map ci)[j]?=some (ci w):=by rw[TK,hw];rfl
  simp only[sz,simprocAttr,sf,eH,h2,gB6,h8,h1,aT,eo,bH,rw_,h4,Z,z2,ci,h3,gS6];show (bP (I C0) d id [.agg [XL (S.SX n oth j),XL w],.hsl (B+1) 0 0 vars.length none] _).sat _ _ _;have N:(S.RO (S.RT (S.RN n) (j:Int)) vars).length=vars.length:=by simp[S.RO]
  refine step j w (.hsl (B+1) 0 0 vars.length none) _ _ _ V hw ?_ (hJ _ _ _ (λi hi=>by simp[U6.1 i (by omega)]) F) ?_ λg8 hJ8 n8 f8=>?_
  ·simp;omega
  ·exact o ▸ gV6.fr (by simp<;>omega) λi hi=>by simp
  simp only[sy]at n8 f8;simp only[sz,simprocAttr,sf];refine⟨?_,?_⟩
  ·simp only[Uf,Ug,Ud,T4];refine aN (false::(Xp (Xn (true::(false::[]))))) [] ?_ (by decide) (by simp);have fd:∀(t:T) (g:G) (f:Od) (xs:List Od),f.get t=.yld id->(SO.foot C0 t g (.dyn f xs)).sr=[]:=λt g f xs h=>by simp only[SO.foot,h];rfl
   simp[All2,am,aE,fd,sx]
  refine⟨by simp;omega,λi h1 h2=>?_,.inl ⟨rfl,hJ _ _ _ (λi hi=>by simp) hJ8,by rw[f8 _ (by omega) (by omega),gB6],?_,by rw[f8 _ (by omega) (by omega),gS6]⟩⟩
  ·rw[n1]at h1;simp[f8 i (by omega) (by omega),A i h2 (by omega)]
  ·rw[f8 _ (by omega) (by omega)];rcases gV6 with⟨h,-⟩|⟨id,ep,lo,-,-,h,hg⟩
   ·cases h
   ·injection h with e1 e2;subst e1;subst e2;exact⟨_,N,lo,hg⟩
 ·rintro g' ⟨a1,a2,e,a4⟩ Y r;rw[s]at a1;rw[n1]at Y r;rw[p];show u7 C0 d [] t [.mark g1.nx] g' K;refine eM (by rw[n1];exact r) ?_;exact fin _ (hJ _ _ _ (λi hi=>by rw[G.put_h,au _ _ _ (by omega)]) a1) (by simp;omega)
theorem GO:C0.ext 132=none:=by kernel_rfl
theorem Hm{nt p r:Nat}{ca cb:SC}{df:List ADf}(hd:0<d)(hr:NR n)(hqv:zG n vars oth mw m k qv)(hpv:∀x∈vars,0<=x/\x<(n.nodes.length:Int))(hvl:vars.length<=8)(hpo:∀x∈oth,0<=x/\x<(n.nodes.length:Int))(hol:oth.length<=8)(hmw:mw.length=S.RR n)
  (hv:tat t r=.clo 132 [] [.tptr tg 1 [[qv]] 0 0]) (hp:p<nt) (hq:q<nt)
  (J:Nat->G->Prop) (hJ:∀j g1 g2,(∀i,i<g.nx->g2.h.get i=g1.h.get i)->J j g1->J j g2) (h0:J 0 g)
  (step:∀(j:Nat) (w:Int) (u:AV) (g1:G),j<S.RR n->mw[j]?=some w->J j g1->g.nx+2<=g1.nx->Own g1 (g.nx+2) u 1 ((S.RO (S.RT (S.RN n) (j:Int)) vars).map ci) ->
   wp C0 d (some (g.nx+1)) ca (λe t1 df g1'=>e=.norm/\df=[]/\Fr g1 g1'/\∀g2:G,g2.nx=g1'.nx->(∀i,i≠g.nx+1->g2.h.get i=g1'.h.get i) ->
    wp C0 d (some (g.nx+1)) cb (λe _ df g3=>df=[]/\RowQ g.nx g2 g3 e (J (j+1) g3) False) t1 [] g2)
    (d6 (d6 t p (.agg [XL (S.SX n oth j),XL w])) q u) [] g1)
  (fin:∀g',J (S.RR n) g'->g.nx+2<=g'.nx->g'.h.get g.nx=.dfr true->Q .norm t (.mark g.nx::df) g') :
  wp C0 d none (.rng nt (.t r) [p,q] ca cb) Q t df g:=by
 refine nC (fn:=132) (first:=[]) (cap:=[.tptr tg 1 [[qv]] 0 0]) (s:=aX) hv GO mF (by simp[aX]) ?_;intro assign body ha z;have e1:((g.new (.dfr true)).new (.loop nt t [p,q] assign body g.nx .ready none)).nx=g.nx+2:=by simp
 refine KO (g0:=(g.new (.dfr true)).new (.loop nt t [p,q] assign body g.nx .ready none)) (id:=g.nx+1) hd hr hqv hpv hvl hpo hol hmw
  (λj g'=>J j g'/\g'.h.get g.nx=.dfr true/\g'.h.get (g.nx+1)=.loop nt t [p,q] assign body g.nx .ready none) ?_ ?_ ?_ ?_
 ·rintro j h h' f ⟨a1,a2,b⟩;rw[e1]at f;exact⟨hJ j h h' (λi hi=>f i (by omega)) a1,by rw[f _ (by omega),a2],by rw[f _ (by omega),b]⟩
 ·rintro j w u g1 K' D H hw l ⟨a1,a2,b⟩ hsl kk;rw[e1]at l kk hsl;refine xY b ha z (t':=d6 (d6 t p (.agg [XL (S.SX n oth j),XL w])) q u) ?_ ?_
  ·simp only[cp,aa,UH,TO hp,TO hq];rfl
  ·refine bE _ (step j w u g1 H hw a1 (by omega) hsl) ?_;rintro e t1 df g1' ⟨rfl,rfl,a,h⟩;have c:g.nx+1<g1.nx:=by omega
   have hl:g.nx+1<g1'.nx:=TU c a.1;have o:g1'.h.get g.nx=.dfr true:=by rw[a.2 _ (by omega),a2]
   have v:g1'.h.get (g.nx+1)=.loop nt t [p,q] assign body g.nx .ready none:=by rw[a.2 _ c,b]
   refine⟨rfl,rfl,v,?_⟩;refine bE _ (h (g1'.put (g.nx+1) (.loop nt t [p,q] assign body g.nx .busy none)) (by simp) (λi hi=>by simp[RQ,hi])) ?_;rintro e t2 df g3 ⟨rfl,⟨b2,y,b1⟩⟩;have C:g3.h.get (g.nx+1)=.loop nt t [p,q] assign body g.nx .busy none:=by rw[y _ (by omega) (by simpa using hl)];simp[RQ]
   have E:g3.h.get g.nx=.dfr true:=by rw[y _ (by omega) (by simp;omega)];simp[RQ,o]
   refine⟨rfl,C,?_⟩;have B:g1'.nx<=g3.nx:=by simpa using b2
   have F:=a.1;rcases b1 with⟨rfl,b1⟩|⟨rfl,b1⟩
   ·refine .inl ⟨rfl,kk _ ⟨hJ _ g3 _ (λi hi=>by rw[G.put_h,au _ _ _ (by omega)]) b1,?_,?_⟩ (by simp;omega) λi h1 h2=>?_⟩
    ·simp[RQ,E]
    ·simp[RQ]
    ·have A:¬i=g.nx+1:=by omega
     have:=y i (by omega) (by simp;omega);simp[RQ,A]at this ⊢;rw[this,a.2 i h2]
   ·exact b1.elim
 ·refine⟨hJ 0 g _ (λi hi=>by rw[G.new_h,au _ _ _ (by simp;omega),G.new_h,au _ _ _ (by omega)]) h0,?_,?_⟩
  ·simp[RQ]
  ·simp[RQ]
 ·rintro g' ⟨a1,a2,b⟩ l;rw[e1]at l;refine⟨_,_,_,_,_,_,.inl ⟨b,fin _ (hJ _ g' _ (λi hi=>by rw[G.put_h,au _ _ _ (by omega)]) a1) (by simpa using l) ?_⟩⟩;simp[RQ,a2]
def WoV(q:AV)(t0:Nat):VS:=λP k h v=>t0<=k/\((∃id,v=.clo 132 [] [XM id]/\P id/\h.get id=W8 1 [[q]])\/∃tg,v=.clo 132 [] [.tptr tg 1 [[q]] 0 0]/\tg<=k)
theorem Q4{q:AV}{t0 sz off:Nat}{rows:List (List AV)}(hq:q=.tptr t0 sz rows i off):Snb (WoV q t0) 2:=by
 subst hq;refine⟨λ{P k h v n} d r hn=>?_,λ{k h v n} r hn=>?_⟩
 ·obtain⟨n,rfl⟩:∃q,n=q+3:=⟨n - 3,by omega⟩;obtain⟨r0,⟨id,rfl,-,hg⟩|⟨tg,rfl,ht⟩⟩:=r
  ·refine⟨.clo 132 [] [.tptr (Nat.max d (Nat.max (Nat.max t0 0) 0)) 1 [[.tptr t0 sz rows i off]] 0 0],?_,by omega,.inr ⟨_,rfl,?_⟩⟩
   ·simp only[Hx.snap,aF,hg,show Nat.beq 0 0=true from rfl,fg,eV]
    rfl
   ·show max d (max (max t0 0) 0)<=max k d;omega
  ·exact⟨.clo 132 [] [.tptr tg 1 [[.tptr t0 sz rows i off]] 0 0],rfl,by omega,.inr ⟨tg,rfl,by omega⟩⟩
 ·obtain⟨n,rfl⟩:∃q,n=q+3:=⟨n - 3,by omega⟩;obtain⟨r0,⟨id,-,h,-⟩|⟨tg,rfl,ht⟩⟩:=r
  ·exact h.elim
  ·exact⟨Nat.max tg 0,rfl,by show max tg 0<=k;omega⟩
theorem HE{q:AV}(hd:k<d)(hq:zG n vars oth mw m k q) :
  ∃tg,ah C0 d 100 [q] g=.val (.clo 132 [] [.tptr tg 1 [[q]] 0 0]):=by
 obtain⟨t0,b,vw,ow,ww,e0,ht,hb,e,ho,c⟩:=hq;have key:∃r,ah C0 d 100 [q] g=.val r/\WoV q t0 NoP k .nil r:=by
  rw[mu];refine aL oh (xs:=[q]) (by rw[e0];simp only[aF,ul]) (by simp[dH]) (Q4 e0) (by decide) hd ?_;have a:∀g:G,EH q g=.upd (XM g.nx) (g.new (W8 1 [[q]])):=λg=>by rw[e0];rfl
  simp only[sz,simprocAttr,dH,gi,a];exact⟨λ_=>True,ht,.inl ⟨0,rfl,trivial,by simp[RQ]⟩⟩
 obtain⟨r,hr,-,⟨id,-,h,-⟩|⟨tg,rfl,-⟩⟩:=key
 ·exact h.elim
 ·exact⟨tg,hr⟩
end
theorem Ls{k2:Nat}{P2:Nat->Prop}{w:AV}{l2:List Int}(hd:0<d)(hl:SlR P k g.h l v)(hl2:SlR P2 k2 g.h l2 w):ah C0 d 18 [v,w] g=.val (.bool (decide (l=l2))):=by
 obtain⟨v',ev,u⟩:=bm hl d;obtain⟨w',ew,hw⟩:=bm hl2 d;have rv:=λh=>(u h).ints;have rw':=λh=>(hw h).ints;have lv:=(u .nil).len;have lw:=(hw .nil).len;have D:=hl.1;rw[px];refine kV r_ (xs:=[v',w']) (by simp only[aF,ev,ew]) (by simp[dq]) hd ?_
 by_cases c:l.length=l2.length
 ·have c':(l.length:Int)=(l2.length:Int):=by omega
  simp only[sz,simprocAttr,dq,lv,lw,c'];simp only[iJ];refine aI (m:=l.length) (by omega) (λj t df g=>df=[]/\St t [(0,v'),(1,w'),(11,v')]/\l.take j=l2.take j) ⟨rfl,by simp[St,sx],by simp⟩ (by simp[sx]) (by simp[sx,c']) (by decide) (by rintro j t df g v s (rfl|rfl|rfl)<;>simp[St,sx]) ?_ ?_
  ·rintro j t df g r ⟨rfl,⟨h0,h1,b,-⟩,a⟩ f o;obtain⟨y,n,p,-⟩:=ae r;obtain⟨z,hz,q,-⟩:=ae (l:=l2) (j:=j) (by omega);have x:j<(l.map ci).length:=by simpa using r
   have A:(l.map ci)[j]?=some (ci y):=by rw[TK,n];rfl
   have B:j<(l2.map ci).length:=by rw[TT];omega
   have C:(l2.map ci)[j]?=some (ci z):=by rw[TK,hz];rfl
   by_cases e:y=z
   ·simp only[sz,simprocAttr,h0,h1,b,f,rv,rw',x,A,B,C,ci,e];simp[St,sx,h0,h1,b,o,f,p,q,a,e]
   ·have i:l≠l2:=λh=>e (by rw[h,hz]at n;injection n with n;exact n.symm);simp only[sz,simprocAttr,h0,h1,b,f,rv,rw',x,A,B,C,ci,e,i,decide_false]
  ·rintro t df g ⟨rfl,-,a⟩;rw[Ur,c,Ur]at a;simp only[sz,simprocAttr,iK,a,decide_true]
 ·have c':¬(l.length:Int)=(l2.length:Int):=by omega
  have i:l≠l2:=λh=>c (by rw[h]);simp only[sz,simprocAttr,dq,lv,lw,c',i,decide_false]
theorem Pb{b:Nat}{u:AV}(hu:Own g b u 1 (l.map ci)){n:Nat}(hn:n<=l.length)(hl:l.length<9223372036854775808) :
  ∃y,x_ 1 u none (some (XL (n:Int))) g=.val y/\∀(h':H),(∀i,vid u=some i->h'.get i=g.h.get i)->SlR (λi=>vid u=some i) 0 h' (l.take n) y:=by
 by_cases hne:l=[]
 ·subst hne;have:n=0:=by simpa using hn
  subst this;rcases hu with⟨rfl,-⟩|⟨id,ep,lo,h1,h2,rfl,h3⟩
  ·exact⟨.nils,rfl,λh' _=>⟨hl,rfl⟩⟩
  ·simp only[x_,lK,h3,Uv,U7,aA,Uy,aa,Uw,TG,if_true,aY,Vc,VY];simp only[bU];cases lo
   ·exact⟨.esl,rfl,λh' _=>⟨hl,rfl⟩⟩
   ·exact⟨.tsl 0 1 [],rfl,λh' _=>⟨hl,by decide,.inl rfl,trivial⟩⟩
 ·obtain⟨y,h1,-,h2⟩:=Pc (α:=Int) hu (by simpa using hne) (n:=n) (by simpa using hn);refine⟨y,h1,λh' hh=>h2 _ 0 l h' hh ?_⟩;have:=hu.sl (α:=Int) (P:=λi=>vid u=some i) (k:=0) hl (RN (λa=>ax.2 rfl) l) λi hi=>hi;exact this.far8 λi hi=>hh i hi
def S.TE(l:List Int)(i x:Int):List Int:=l.set i.toNat (max (l[i.toNat]?.getD 0) x)
def S.Ts(n:Net)(oth:List Int):Nat:=(S.RP (S.RO (S.RN n) oth)).toNat
theorem uQ(h:l[j]?=some x):(l.take (j+1)).sum=(l.take j).sum+x:=by have k:=(TJ.1 h).1;rw[Uh k];rw[TH k]at h;injection h with h;rw[h,WV];simp
theorem FF{kv:Nat}{r:AV}(h:NsV n e vars NoP kv .nil r):(S.Sf n e vars=0/\∃p,r=.tup [p,XL 0]/\zG n vars (S.S6 n vars) (S.RS n e) (S.R6 n e) kv p)\/(S.Sf n e vars≠0/\r=.tup [.nilp,XL (S.Sf n e vars)]):=by
 unfold NsV at h
 split at h
 ·rename_i c;obtain⟨p,q,rfl,h1,h2⟩:=h;have h2:=ax.1 h2;injection h2 with h2;exact .inl ⟨c,p,by rw[h2],O6 h1⟩
 ·rename_i c;obtain⟨p,q,rfl,h1,h2⟩:=h;have h2:=ax.1 h2;injection h2 with h2;have h1:p=.nilp:=h1;exact .inr ⟨c,by rw[h2,h1]⟩
theorem Bo:S.Sf n e vars=0↔(NR n/\S.Sc n e=true)/\S.Sa vars (n.nodes.length:Int)=true:=by
 unfold S.Sf
 split
 ·rename_i c;rw[iO,cA]at c;cases S.Sa vars (n.nodes.length:Int)<;>simp[c]
 ·rename_i c;constructor
  ·intro h;exact absurd h c
  ·rintro⟨⟨h1,h2⟩,-⟩;exact absurd (iO.2 ⟨cA.2 h1,h2⟩) c
theorem QJ:∀x∈S.S6 n vars,0<=x/\x<(n.nodes.length:Int):=by intro x hx;have h:=(List.mem_filter.1 hx).1;obtain⟨i,hi,rfl⟩:=UF.1 h;have:=T8.1 hi;omega
theorem xl(hr:NR n)(w:Nat):0<=S.wt n w/\S.wt n w<=167961600000000:=oZ hr (eD (λc hc=>(hr.cs c hc).1) (w:Int))
theorem J4(hr:NR n)(e:List Int):∀x∈S.RS n e,0<=x/\x<=167961600000000:=by
 intro x hx;obtain⟨w,-,rfl⟩:=UF.1 hx;unfold S.S5
 split
 ·omega
 ·exact xl hr w
theorem zm{w:Nat}(h:w<S.RR n):(S.RS n e)[w]?=some (if S.pe n e w then S.wt n w else 0):=by simp only[S.RS,S.Sd,TK,VD h,U0,S.S5];cases c:S.pe n e w<;>simp[h,c]
def S.wW(mw:List Int)(a:Int):Int:=mw[a.toNat]?.getD 0
def S.SN(mw:List Int)(a b:Int):Prop:=S.wW mw b<S.wW mw a\/(S.wW mw a=S.wW mw b/\a<b)
def S.ST(mw:List Int)(j:Nat):List Int:=((List.range j).map λi:Nat=>(i:Int)).filter λi=>decide (0<S.wW mw i)
def S.R4(mw:List Int):List Int:=S.ST mw mw.length
theorem C2(mw:List Int)(j:Nat):S.ST mw (j+1)=S.ST mw j++if 0<S.wW mw (j:Int) then [(j:Int)] else []:=by
 unfold S.ST;rw[VL,U_,List.filter_append];congr 1
 by_cases h:0<S.wW mw (j:Int)<;>simp[h]
theorem Bg(mw:List Int)(j:Nat):(S.ST mw j).length<=j:=by unfold S.ST;exact T6 (List.length_filter_le _ _) (by simp)
theorem kA:x∈S.R4 mw↔∃i:Nat,x=(i:Int)/\i<mw.length/\0<S.wW mw (i:Int):=by
 unfold S.R4 S.ST;rw[List.mem_filter,UF];constructor
 ·rintro⟨⟨i,h1,rfl⟩,h2⟩;exact⟨i,rfl,T8.1 h1,of_decide_eq_true h2⟩
 ·rintro⟨i,rfl,h1,h2⟩;exact⟨⟨i,T8.2 h1,rfl⟩,Wc h2⟩
structure IsSrt (mw R:List Int):Prop where
 mem:∀x,x∈R↔x∈S.R4 mw
 ord:R.Pairwise (S.SN mw)
theorem zB{a:Int}:¬S.SN mw a a:=by rintro (h|⟨-,h⟩)<;>omega
theorem IsSrt.at{mw R:List Int}(h:IsSrt mw R){i j:Nat}{x y:Int}(hij:i<j)(hx:R[i]?=some x)(hy:R[j]?=some y):S.SN mw x y:=by obtain⟨h1,e1⟩:=TJ.1 hx;obtain⟨h2,e2⟩:=TJ.1 hy;have:=VZ.1 h.ord i j h1 h2 hij;rw[e1,e2]at this;exact this
def S.Sq(mw:List Int)(us:Nat->Bool):Nat->Int×Int
 |0=>(0,-1)
 |w+1=>if us w=false/\(S.Sq mw us w).1<S.wW mw (w:Int) then (S.wW mw (w:Int),(w:Int)) else S.Sq mw us w
theorem OU{R:List Int}(h:IsSrt mw R){us:Nat->Bool}{r:Int}(hr:R[j]?=some r)(hu:∀w,w<mw.length->us w=decide ((w:Int)∈R.take j)):S.Sq mw us mw.length=(S.wW mw r,r):=by
 obtain⟨i,rfl,hi,hp⟩:=kA.1 ((h.mem r).1 (TL hr));have l:us i=false:=by
  rw[hu i hi,decide_eq_false_iff_not];intro hm;obtain⟨k,hk⟩:=Ua hm;have a:k<j:=by have:=(TJ.1 hk).1;rw[T_]at this;omega
  rw[T7 a]at hk;exact zB (h.at a hk hr)
 have b:∀w,w<mw.length->us w=false->w≠i->0<S.wW mw (w:Int)->S.SN mw (i:Int) (w:Int):=by
  intro w hw hf p f;have d:(w:Int)∈R:=(h.mem _).2 (kA.2 ⟨w,rfl,hw,f⟩);obtain⟨k,hk⟩:=Ua d;have a:¬k<j:=λa=>by rw[hu w hw,decide_eq_false_iff_not]at hf;exact hf (TL (by rw[T7 a];exact hk))
  have n:k≠j:=λe=>by rw[e,hr]at hk;injection hk with hk;omega
  exact h.at (by omega) hr hk
 have key:∀m,m<=mw.length->(i<m->S.Sq mw us m=(S.wW mw (i:Int),(i:Int)))/\(m<=i->0<=(S.Sq mw us m).1/\(S.Sq mw us m).1<S.wW mw (i:Int)):=by
  intro m
  induction m with
  |zero=>exact λ_=>⟨λh=>absurd h (Nat.not_lt_zero _),λ_=>⟨WJ _,hp⟩⟩
  | succ m ih =>
   intro hm;obtain⟨s,o⟩:=ih (by omega);refine⟨λhlt=>?_,λhle'=>?_⟩
   ·rw[S.Sq]
    by_cases c:i=m
    ·subst c;rw[TO ⟨l,(o (TG _)).2⟩]
    ·have e:=s (by omega);rw[TN,e];rintro⟨f1,f2⟩;rw[e]at f2;have:=b m (by omega) f1 (VG c) (by omega);rcases this with q|q<;>omega
   ·obtain⟨t,u⟩:=o (by omega);rw[S.Sq]
    split
    ·rename_i hc;have:=b m (by omega) hc.1 (by omega) (by omega);refine⟨by dsimp only;omega,?_⟩;dsimp only;rcases this with q|q<;>omega
    ·exact⟨t,u⟩
 exact (key mw.length (TG _)).1 hi
def S.Sz(x y:Int):Int:=if x<y then -1 else if y<x then 1 else 0
def S.Tn(a b:Int):Int:=if a≠0 then a else b
def S.SY(mw:List Int)(x y:Int):Int:=S.Tn (S.Sz (S.wW mw y) (S.wW mw x)) (S.Sz x y)
theorem I_{y:Int}:S.SY mw x y<0↔S.SN mw x y:=by
 unfold S.SY S.Tn S.Sz S.SN
 repeat' split
 all_goals omega
theorem sF:nFn CS 78=some g_:=by kernel_rfl
theorem ve:nFn CS 80=some dE:=by kernel_rfl
theorem BU:nFn CS 79=some sL:=by kernel_rfl
theorem xO:nFn CS 111=some dF:=by kernel_rfl
theorem sw(d:Nat)(xs:List AV)(g:G):ah CS d 80 xs g=af (I CS) d g 80 xs:=by kernel_rfl
theorem yN(d:Nat)(xs:List AV)(g:G):ah CS d 79 xs g=af (I CS) d g 79 xs:=by kernel_rfl
theorem uS(d:Nat)(xs:List AV)(g:G):ah CS d 111 xs g=af (I CS) d g 111 xs:=by kernel_rfl
theorem tF(t:T)(g:G)(xs:List Od):SO.foot CS t g (.call 80 xs)=am ((fZ t xs).flatMap (aw g.h aC)):=by kernel_rfl
theorem y8(t:T)(g:G)(xs:List Od):SO.foot CS t g (.call 79 xs)=am ((fZ t xs).flatMap (aw g.h aC)):=by kernel_rfl
theorem II(hd:0<d)(x:Int)(g:G):ah CS d 111 [XL x] g=.val (.bool false):=by rw[uS];refine kV xO (xs:=[XL x]) (by simp only[aF,bD 0]) (by simp[dF]) hd ?_;simp only[sz,simprocAttr,dF]
theorem Ib(hd:0<d)(x y:Int)(g:G):ah CS d 80 [XL x,XL y] g=.val (XL (S.Sz x y)):=by
 rw[sw];refine ff ve (xs:=[XL x,XL y]) (by simp only[aF,bD 0]) (by simp[dE]) hd ?_;have h:=λg=>II (TW d) x g;have k2:=λg=>II (TW d) y g
 by_cases h1:x<y
 ·have e:S.Sz x y = -1:=TO h1;rw[e];simp only[sz,simprocAttr,dE,h,k2,h1]
 ·by_cases h2:y<x
  ·have e:S.Sz x y=1:=by rw[S.Sz,TN h1,TO h2]
   rw[e];simp only[sz,simprocAttr,dE,h,k2,h1,h2]
  ·have e:S.Sz x y=0:=by rw[S.Sz,TN h1,TN h2]
   rw[e];simp only[sz,simprocAttr,dE,h,k2,h1,h2]
theorem QG{a b:Int}(hd:0<d)(hv:SlR P k g.h [a,b] v):ah CS d 79 [v] g=.val (XL (S.Tn a b)):=by
 obtain⟨v',e1,i⟩:=bm hv d;have vl:=λg=>(i .nil).len g;have va:=λh=>(i h).ints;rw[yN];refine ff BU (xs:=[v']) (by simp only[aF,e1]) (by simp[sL]) hd ?_;simp only[sz,simprocAttr,sL,vl,sM];refine aI (m:=2) (by decide) (λj t df g=>df=[]/\St t [(3,XL 0),(6,v')]/\(0<j->a=0)/\(1<j->b=0)) ⟨rfl,by simp[St,sx],by omega,by omega⟩ (by simp[sx]) (by simp[sx]) (by decide)
  (by rintro j t df g v s (rfl|rfl|rfl)<;>simp[sx,St]) ?_ ?_
 ·rintro j t df g n ⟨rfl,⟨h3,h6,-⟩,ha,hb⟩ h8 h7;obtain⟨x,hx,-,-⟩:=ae (l:=[a,b]) (j:=j) (by simpa using n);have o:j<([a,b].map ci).length:=by simpa using n
  have p:([a,b].map ci)[j]?=some (ci x):=by rw[TK,hx];rfl
  have f:j=0\/j=1:=by omega
  by_cases c:x=0
  ·subst c;simp only[sz,simprocAttr,h3,h6,h8,va,o,p,ci];refine⟨⟨by simp[St,sx,h3,h6],λ_=>?_,λh=>?_⟩,by simp[sx,h7]⟩
   ·rcases f with rfl|rfl
    ·simpa using hx
    ·exact ha (by omega)
   ·rcases f with rfl|rfl
    ·omega
    ·simpa using hx
  ·have e:S.Tn a b=x:=by
    rcases f with rfl|rfl
    ·have:a=x:=by simpa using hx
     subst this;exact TO c
    ·have h1:b=x:=by simpa using hx
     have h2:=ha (by omega);subst h1;subst h2;exact TN (by simp)
   rw[e];simp only[sz,simprocAttr,h3,h6,h8,va,o,p,ci,c]
 ·rintro t df g ⟨rfl,⟨h3,h6,-⟩,ha,hb⟩;have ha:=ha (by omega);have hb:=hb (by omega);subst ha;subst hb;simp only[sz,simprocAttr,sN,h3]
  rfl
theorem Ps(hd:0<d)(hq:zG n vars oth mw m k qv)(hg:g.h.get q=W8 1 [[qv]])(hi:i<mw.length)(hj:j<mw.length) :
  af (I CS) d g 78 [XL (i:Int),XL (j:Int),XM q]=.val (XL (S.SY mw (i:Int) (j:Int))):=by
 obtain⟨t0,b,vw,ow,ww,rfl,-,-,-,-,hw⟩:=hq;obtain⟨tg,hs⟩:∃tg,Hx.snap g.h d aC (XM q)=some (.tptr tg 1 [[.tptr t0 6 [[XL n.grain,b,vw,ow,ww,XL m]] 0 0]] 0 0):=by
  refine⟨Nat.max d (Nat.max (Nat.max t0 0) 0),?_⟩;show Hx.snap g.h d (21+3) _=_;simp only[Hx.snap,hg,show Nat.beq 0 0=true from rfl,aF]
  rfl
 have wr:=λh=>(hw.tree (h':=h) (TG k)).ints;have e:i<(mw.map ci).length:=by simpa using hi
 have f:(mw.map ci)[i]?=some (ci (S.wW mw (i:Int))):=by rw[TK,S.wW,Ux,TH hi];rfl
 have u3:j<(mw.map ci).length:=by simpa using hj
 have l:(mw.map ci)[j]?=some (ci (S.wW mw (j:Int))):=by rw[TK,S.wW,Ux,TH hj];rfl
 refine ff sF (xs:=[XL (i:Int),XL (j:Int),.tptr tg 1 [[.tptr t0 6 [[XL n.grain,b,vw,ow,ww,XL m]] 0 0]] 0 0]) (by simp only[aF,bD 0,hs]) (by simp[g_]) hd ?_;have c1:=λg=>Ib (TW d) (S.wW mw (j:Int)) (S.wW mw (i:Int)) g;have c:=λg=>Ib (TW d) (i:Int) (j:Int) g;simp only[sz,simprocAttr,sf,g_,eo,bH,aT,wr,e,f,u3,l,ci,c1,c,N5];refine bi (Q:=λr=>r=XL (S.SY mw (i:Int) (j:Int))) ⟨_,QG (P:=λi=>i=18) (k:=0) (a:=S.Sz (S.wW mw (j:Int)) (S.wW mw (i:Int))) (b:=S.Sz (i:Int) (j:Int)) (TW d) ⟨by show 2<9223372036854775808;decide,rfl,[[XL (S.Sz (S.wW mw (j:Int)) (S.wW mw (i:Int)))],[XL (S.Sz (i:Int) (j:Int))]],rfl,ax.2 rfl,ax.2 rfl,trivial⟩,rfl⟩ ?_;rintro r rfl;simp only[sz,simprocAttr,sf,tF,y8];simp only[Uf,Ug,Ud,T4];exact aN (Xp (Xn (Xn (true::(Xp []))))) [] (by simp[All2,am,aE]) (by decide) (by simp)
end
end Hx
section
namespace Hx
open Go Go.Proofs Go.Sort
noncomputable section
theorem C3(mw:List Int):(S.R4 mw).Nodup:=by unfold S.R4 S.ST;refine List.Pairwise.filter _ ?_;rw[List.pairwise_map];exact List.Pairwise.imp (λ{a b} (h:a≠b)=>by omega) List.nodup_range
theorem Pt{mw L:List Int}{cf:El L->El L->Int}(h:∀x y:El L,cf x y=S.SY mw x.1 y.1):SWO (ltOf cf):=by
 have e:∀x y:El L,ltOf cf x y=true↔S.SN mw x.1 y.1:=λx y=>by unfold ltOf;rw[h,T9];exact I_
 refine⟨λx=>?_,λx y z h1 h2=>?_,λx y z h1 h2=>?_⟩
 ·rw[<-Vh,e];exact zB
 ·rw[e]at *;unfold S.SN at *;omega
 ·rw[<-Vh,e]at *;unfold S.SN at *;omega
theorem Kt{C:Cfg}{d:Nat}{g:G}{id len f:Nat}{cap:List AV}{mw R:List Int}(hc:∀x∈S.R4 mw,∀y∈S.R4 mw,af (I C) d g f (XL x::XL y::cap)=.val (XL (S.SY mw x y)))
  (h:xp C d g id len ((S.R4 mw).map ci) f cap R):IsSrt mw R:=by
 obtain⟨L,hI,cf,z,q2,q3,B,q5,A,c⟩:=h;have e:L=S.R4 mw:=by have h2:(S.R4 mw).map ci=L.map ci:=z;have h3:=congrArg (List.map λr:List AV=>match r with|[.int _ x]=>x|_=>(0:Int)) h2;simpa [List.map_map,Function.comp_def,ci] using h3.symm
 have l:∀x y:El L,cf x y=S.SY mw x.1 y.1:=λx y=>by have h1:=hc x.1 (by rw[<-e];exact x.2) y.1 (by rw[<-e];exact y.2);have h2:=A x y;rw[h1]at h2;injection h2 with h2;injection h2 with _ h2;exact h2.symm
 obtain⟨D,t⟩:∃D,D=pdq (ltOf cf) (li L) 0 L.length (Lib.bitLen L.length) true true:=⟨_,rfl⟩;have b:=pdq_sorts (ltOf cf) q5 (li L) 0 L.length (Lib.bitLen L.length) true true (Uj _) (by rw[cL];exact TG _) (Or.inl rfl);rw[<-t]at b c;obtain⟨⟨q,-,s⟩,w⟩:=b;rw[cL]at q;have k:R.Perm L:=by
  have e1:(D.extract 0 L.length)=D:=by rw[<-q];simp
  have e2:((li L).extract 0 L.length)=li L:=by rw[<-cL L];simp
  rw[e1,e2]at s;have:=s.map (λx:El L=>x.1);rw[c];refine this.trans ?_;simp[li]
 have o:R.Nodup:=k.nodup_iff.2 (by rw[e];exact C3 mw);refine⟨λx=>by rw[<-e];exact k.mem_iff,?_⟩;rw[VZ];intro i j hi p a;have u:R.length=D.size:=by rw[c];simp
 have m:i<D.size:=by omega
 have n:j<D.size:=by omega
 have e1:R[i]=(D[i]!).1:=by
  have:R[i]?=some (D[i]!).1:=by rw[c,TK];simp[m]
  rw[TH hi]at this;injection this
 have e2:R[j]=(D[j]!).1:=by
  have:R[j]?=some (D[j]!).1:=by rw[c,TK];simp[n]
  rw[TH p]at this;injection this
 have hlt:=w i j (Uj _) a (by omega);unfold ltOf at hlt;rw[decide_eq_false_iff_not,l,I_,<-e1,<-e2]at hlt;have v:R[i]≠R[j]:=λh=>by have:=(VZ.1 o) i j hi p a;exact this h
 unfold S.SN at *;omega
theorem Nt{C:Cfg}{d:Nat}{g:G}{id ep len f:Nat}{lim:Option Nat}{cap:List AV}{rows:List (List AV)}{lo:Bool}(h3:g.h.get id=.cells 1 rows ep lo false)(hex:∃R,xp C d g id len rows f cap R) :
  ∃R,xp C d g id len rows f cap R/\tV C d [.hsl id ep 0 len lim,.clo f [] cap] g=.upd (.tup []) (g.put id (.cells 1 (R.map λx=>[XL x]) ep lo false)):=by
 refine⟨hex.choose,hex.choose_spec,?_⟩;simp only[tV,h3];rw[dif_pos ⟨rfl,hex⟩]
theorem NP{d k b q:Nat}{n:Net}{vars oth mw:List Int}{m:Int}{qv u:AV}{g:G}{K:AV->G->Prop}{D:ADf->Prop}(hd:0<d)(hq:zG n vars oth mw m k qv)(hg:g.h.get q=W8 1 [[qv]])(hu:Own g b u 1 ((S.R4 mw).map ci))(hne:S.R4 mw≠[])(hml:mw.length<=65536)(huq:vid u≠some q)
  (kk:∀R g',IsSrt mw R->Own g' b u 1 (R.map ci)->g.nx<=g'.nx->(∀i,vid u≠some i->g'.h.get i=g.h.get i)->K (.tup []) g') :
  (ah C0 d 77 [u,.clo 78 [] [XM q]] g).sat K g D:=by
 have hc:∀x∈S.R4 mw,∀y∈S.R4 mw,af (I CS) d g 78 [XL x,XL y,XM q]=.val (XL (S.SY mw x y)):=λx hx y hy=>by obtain⟨i,rfl,hi,-⟩:=kA.1 hx;obtain⟨j,rfl,t,-⟩:=kA.1 hy;exact Ps hd hq hg hi t
 have a:([XM q].flatMap (aw g.h aC))=[q]/\aw g.h aC (.clo 78 [] [XM q])=[q]:=by
  obtain⟨t0,w,vw,ow,ww,rfl,-⟩:=hq;have e1:aw g.h 23 (XM q)=[q]:=by show aw g.h (21+2) _=_;simp only[aw,hg,Uu,UT,T3]
  have e2:aw g.h aC (XM q)=[q]:=by show aw g.h (22+2) _=_;simp only[aw,hg,Uu,UT,T3]
  refine⟨by rw[Uu,e2];rfl,?_⟩;show aw g.h (23+1) _=_;rw[aw];simp[e1]
 rcases hu with⟨-,h0⟩|⟨id,ep,lo,h1,h2,rfl,h3⟩
 ·exact absurd (List.map_eq_nil_iff.1 h0) hne
 have c:id≠q:=λe=>huq (by rw[e];rfl);have s:(S.R4 mw).length<=65536:=T6 (Bg mw mw.length) hml;have hI:Inhabited (El (S.R4 mw)):=⟨⟨(S.R4 mw).head hne,List.head_mem hne⟩⟩;have o:∃R,xp CS d g id ((S.R4 mw).map ci).length ((S.R4 mw).map ci) 78 [XM q] R :=
  ⟨_,S.R4 mw,hI,λx y=>S.SY mw x.1 y.1,rfl,by simp,by omega,⟨by rw[a.1];simpa using c,λk hk=>by rw[a.2,<-a.1];exact hk⟩,Pt (mw:=mw) λ_ _=>rfl,λx y=>hc x.1 x.2 y.1 y.2,rfl⟩
 rw[mA];obtain⟨R,f,p⟩:=Nt (lim:=none) h3 o;rw[p];have r:=Kt hc f;have l:R.length=(S.R4 mw).length:=by obtain⟨L,hI,cf,z,q2,q3,A,q5,B,v⟩:=f;have:=(pdq_sorts (ltOf cf) q5 (li L) 0 L.length (Lib.bitLen L.length) true true (Uj _) (by rw[cL];exact TG _) (Or.inl rfl)).1.1;rw[v,TT,WQ,this,cL,<-q2,TT]
 refine kk R _ r (.inr ⟨id,ep,lo,h1,by simpa using h2,?_,?_⟩) (by simp) λi hi=>?_
 ·simp[l]
 ·rw[G.put_h,aP];rfl
 ·rw[G.put_h,au _ _ _ (λe=>hi (by rw[e];rfl))]
end
end Hx
end
namespace Hx
open Go
noncomputable section
variable {n:Net}{g:G}{e vars mw oth l:List Int}{d k j i tg q:Nat}{P:Nat->Prop}{v qv:AV}{m x:Int}{h:H}{K:AV->G->Prop}{t:T}
theorem OP(hr:NR n)(hpo:∀x∈oth,0<=x/\x<(n.nodes.length:Int))(j:Nat):0<=S.SX n oth j/\S.SX n oth j<(S.Ts n oth:Int):=by have h:=aZ (ps:=oth) hr.cs (λp hpm=>by rw[aB];exact hpo p hpm);have k:=eD (λc hc=>(hr.cs c hc).1) (j:Int);have hf:=bI h (dx k (λp hpm=>by rw[aB];exact hpo p hpm));have h1:=(bG h).1;unfold S.Ts;unfold S.SX;omega
theorem A3{cs vs:List Int}(hin:InC cs vs)(hc:∀c∈cs,1<=c):∀k,k<=vs.length->(∀(j:Nat) (c:Int),k<=j->cs[j]?=some c->vs[j]?.getD 0=c - 1) ->
  ((S.Tc cs (vs.take k++List.replicate (vs.length - k) 0) k).2=true/\InC cs (S.Tc cs (vs.take k++List.replicate (vs.length - k) 0) k).1/\S.RQ cs (S.Tc cs (vs.take k++List.replicate (vs.length - k) 0) k).1=S.RQ cs vs+1) \/
  ((S.Tc cs (vs.take k++List.replicate (vs.length - k) 0) k).2=false/\S.RQ cs vs=S.RP cs - 1)
 |0,_,h=>.inr ⟨rfl,wM hin.len.symm λi c hi=>h i c (Uj _) hi⟩
 | k+1,hk,h=>by
  have hl:=hin.len;obtain⟨c,b,-,d⟩:=ae (l:=cs) (j:=k) (by omega);obtain⟨x,hx,f,m⟩:=hin.get b;have hg:(vs.take (k+1)++List.replicate (vs.length - (k+1)) 0)[k]?=some x:=by rw[T5 (by simp;omega),T7 (by omega),hx]
  rw[S.Tc,hg,b,TS,TS]
  by_cases q:x+1<c
  ·rw[TO q,qW (by omega)];exact .inl ⟨rfl,A4 hin hc hx b (by omega),AJ hl.symm hx λj c' hj a=>h j c' (by omega) a⟩
  ·rw[TN q,qX (by omega)];refine A3 hin hc k (by omega) λj c' hj a=>?_
   by_cases e:j=k
   ·subst e;rw[b]at a;injection a with a;rw[hx,TS];omega
   ·exact h j c' (by omega) a
theorem J7{cs vs:List Int}(hin:InC cs vs)(hc:∀c∈cs,1<=c):((S.Ti cs vs).2=true/\InC cs (S.Ti cs vs).1/\S.RQ cs (S.Ti cs vs).1=S.RQ cs vs+1)\/((S.Ti cs vs).2=false/\S.RQ cs vs=S.RP cs - 1):=by
 have:=A3 hin hc vs.length (TG _) λj c hj hcj=>by have:=(TJ.1 hcj).1;have:=hin.len;omega
 rwa [Ur,UD,List.replicate_zero,T3]at this
theorem AL{cs:List Int}(hcs:CsOk cs):∀j:Nat,j<S.nc cs->S.RQ cs (S.RT cs (j:Int))=(j:Int)
 | 0,_=>by have k:=λc hc=>(hcs.b c hc).1;have:=q9 k (BF k);rw[pX]at this;rw[show ((0:Nat):Int)=0 from rfl,this,pX]
 | j+1,h=>by
  have k:=λc hc=>(hcs.b c hc).1;have ih:=AL hcs j (by omega);obtain⟨N1,N2,N3⟩:=hcs.nc;rcases J7 (eD k (j:Int)) k with⟨a,q2,q3⟩|⟨a,q2⟩
  ·have:=q9 k q2;rw[q3,ih]at this;rw[show ((j+1:Nat):Int)=(j:Int)+1 from rfl,this,q3,ih]
  ·omega
section
variable {α:Type} [DecidableEq α]
def mgt(L:List (α×Int))(k:α):Int:=match L with
 |[]=>0
 | (a,v)::r=>if k=a then v else mgt r k
def mcl(kf:α->AV)(L:List (α×Int)):List (AV×AV):=L.map λp=>(kf p.1,XL p.2)
end
def ik(a:Int):AV:=XL a
def S.R1(n:Net)(e:List Int)(w0:Int):Nat->Int×Int
 |0=>(w0,0)
 |j+1=>if S.pe n e j=true/\(S.R1 n e w0 j).2<S.wt n j then ((j:Int),S.wt n j) else S.R1 n e w0 j
theorem Cp{n:Net}(h:NR n)(e:List Int)(w0:Int):∀j,0<=(S.R1 n e w0 j).2/\(S.R1 n e w0 j).2<=167961600000000/\((S.R1 n e w0 j).1=w0\/0<=(S.R1 n e w0 j).1/\(S.R1 n e w0 j).1<j)
 |0=>⟨by simp[S.R1],by simp[S.R1],.inl rfl⟩
 | j+1=>by
  have ih:=Cp h e w0 j;have hw:=xl h j;rw[S.R1]
  split
  ·exact⟨hw.1,hw.2,.inr ⟨by omega,by show (j:Int)<_;omega⟩⟩
  ·exact⟨ih.1,ih.2.1,by omega⟩
def S.Sv(n:Net)(e:List Int):Int:=if S.RZ n e=0 then (if S.R6 n e=0 then 7 else 0) else S.RZ n e
def S.SS(n:Net)(e:List Int):Int:=if S.Sv n e=0 then (S.R1 n e 0 (S.RR n)).1 else 0
def S.SK(n:Net)(e:List Int):QI:=if S.Sv n e=0 then S.RY (S.R1 n e 0 (S.RR n)).2.toNat (S.R6 n e).toNat else (0,0)
structure BeJ (g0:G) (w m b:Int) (h:H):Prop where
 fr:∀i,i<g0.nx->i≠1->i≠5->i≠6->h.get i=g0.h.get i
 h1:h.get 1=W8 1 [[XL w]]
 h5:h.get 5=W8 1 [[XL m]]
 h6:h.get 6=W8 1 [[XL b]]
def LT0(w z:AV):List (Nat×AV):=[(1,w),(2,z),(3,XM 0),(6,XM 1),(7,XL 0),(8,XM 3),(11,XM 4)]
structure TbA (g0:G) (vars:List Int) (K:Int) (w z:AV) (j:Nat) (t:T) (g:G):Prop where
 st:St t (LT0 w z)
 h10:tat t 10=XL (jy vars j)
 h32:tat t 32=z
 pl:PlI vars K K.toNat j
 nx:g0.nx<=g.nx
 fr:∀i,i<g0.nx->i≠4->g.h.get i=g0.h.get i
 h4:g.h.get 4=W8 1 [[XN (S.R0 (vars.take j):Int)]]
theorem Fq{g:G}{rows:List (List AV)}(h:ak g.h 1 v=some rows)(hl:0<rows.length):∀g':G,g'.h=g.h->xX 1 v (XL 0) g'=.val (jF 1 v 0 0):=λg' e =>
 AS (by rw[e,h];rfl) (by decide) (by rw[e,h];simpa using hl)
structure BW (x:Node) (J:Nat) (g:G) (V:Ky->AV) (E:Ky->En) (rws:List (List AV)):Prop where
 own:Own g 3 (V (J+1,1)) 1 rws
 e1:E (J+1,1)=.sl 1 rws
 len:rws.length=x.rows.length
 at_:∀(r:Nat) (y:List Int),x.rows[r]?=some y->rws[r]?=some [V (J+1,2+r)]
section
variable {d K J:Nat}{L:List Node}{x:Node}{bx:HO}{gr Rw:Int}{t:T}{g:G}{V:Ky->AV}{E:Ky->En}{Q:QT}
end
def Node.wr(x:Node)(r:Nat)(y:List Int):Node:=⟨x.card,x.parents,x.rows.set r y⟩
section
variable {d K J r:Nat}{L:List Node}{x:Node}{bx:HO}{gr Rw:Int}{t t':T}{g gb:G}{V:Ky->AV}{E:Ky->En}{Q:QT}{y y':List Int}
structure BR (x:Node) (J r:Nat) (y:List Int) (g:G) (V:Ky->AV) (E:Ky->En) (rws:List (List AV)):Prop where
 wr:ak g.h 1 (V (J+1,1))=some rws
 rl:r<rws.length
 rw_:rws[r]?=some [V (J+1,2+r)]
 ry:vN (V (J+1,1))=true
 yr:ak g.h 1 (V (J+1,2+r))=some (y.map ci)
 ye:E (J+1,2+r)=.sl 1 (y.map ci)
 yl:y.length<=K
end
theorem PB(a b:Int):wD false (.flat [.int .i64,.int .i64]) (.agg [XL a,XL b]) (.agg [XL a,XL b])=.val (.bool true):=by
 have ha:DS a a=true:=by rw[nS];simp
 have hb:DS b b=true:=by rw[nS];simp
 simp only[wD,eqA,dt,dA,mE,ha,hb]
 rfl
theorem Dl{α:Type} [Rp α]{x:α}{cs:List AV}(h:Rp.rp NoP 0 .nil x cs)(h':H):Agg x P 0 h' (.agg cs):=⟨_,rfl,Rp.tree h (TG _)⟩
def K3:Nat->Prop:=λk=>k<=2
def LT1(w z:AV)(p:Nat):List (Nat×AV):=[(1,w),(2,z),(6,XM 1),(8,XM 3),(11,XM 4),(14,XM p)]
structure TbH (l cl:List Int) (p:Nat) (V:Nat->AV) (E:Nat->En) (g:G):Prop where
 hp:Hp g 5 K3 V E
 v0:V 0=XM p
 e0:E 0=.bx [V 1,V 2,.nils]
 e1:E 1=.sl 1 (l.map ci)
 e2:E 2=.sl 1 (cl.map ci)
structure TbB (g0:G) (cs vars:List Int) (w z:AV) (p j:Nat) (t:T) (g:G):Prop where
 st:St t (LT1 w z p)
 h15:tat t 15=XL (S.RP (S.RO cs (vars.take j)))
 h57:tat t 57=z
 hd:∃V E,TbH (vars.take j) (S.RO cs (vars.take j)) p V E g
 fr:∀i,i<5->g.h.get i=g0.h.get i
def K4:Nat->Prop:=λk=>k<=3
structure TbW (g0:G) (l cl W:List Int) (p r m:Nat) (V:Nat->AV) (E:Nat->En) (g:G):Prop where
 hp:Hp g 5 K4 V E
 v0:V 0=XM p
 e0:E 0=.bx [V 1,V 2,V 3]
 e1:E 1=.sl 1 (l.map ci)
 e2:E 2=.sl 1 (cl.map ci)
 e3:E 3=.sl 1 (W.map ci)
 nw:∀i,eid (V 3)=some i->g0.nx<=i
 fr:∀i,i<g0.nx->i≠p->g.h.get i=g0.h.get i
def S.pk(n:Net)(e vars:List Int)(i:Int)(w:Nat):Bool:=S.pe n e w&&decide (S.RQ (S.RO (S.RN n) vars) (S.RO (S.RT (S.RN n) (w:Int)) vars)=i)
def S.Sb(n:Net)(e vars:List Int)(j:Nat):List Int:=(List.range (S.RP (S.RO (S.RN n) vars)).toNat).map λi:Nat=>S.RW n (S.pk n e vars (i:Int)) j
structure TbJ (g0:G) (n:Net) (e vars:List Int) (m j:Nat) (h:H):Prop where
 fr:∀i,i<g0.nx->i≠m->h.get i=g0.h.get i
 hm:∃L:List (Int×Int),h.get m=.map (mcl ik L)/\∀k,mgt L k=S.RW n (S.pk n e vars k) j
theorem KC(h:S.pe n e j=false):S.Sb n e vars (j+1)=S.Sb n e vars j :=
 U8 λi _=>by rw[S.RW,S.pk,h];simp
theorem gU(n:Net)(e vars:List Int)(j:Nat):(S.Sb n e vars j).length=(S.RP (S.RO (S.RN n) vars)).toNat:=by simp[S.Sb]
theorem kC(hi:i<(S.RP (S.RO (S.RN n) vars)).toNat):(S.Sb n e vars j)[i]?=some (S.RW n (S.pk n e vars (i:Int)) j):=by simp[S.Sb,hi]
theorem KD(h:S.pe n e j=true)(hi:i<(S.RP (S.RO (S.RN n) vars)).toNat)(hK:S.RQ (S.RO (S.RN n) vars) (S.RO (S.RT (S.RN n) (j:Int)) vars)=(i:Int)) :
  (S.Sb n e vars j).set i (S.RW n (S.pk n e vars (i:Int)) j+S.wt n j)=S.Sb n e vars (j+1):=by
 refine Wd λq=>?_
 by_cases hq:q<(S.RP (S.RO (S.RN n) vars)).toNat
 ·rw[kC hq,Vi]
  by_cases e1:i=q
  ·subst e1;rw[TO rfl,TO (by rw[gU];exact hi),S.RW,S.pk,h,hK];simp[S.wt]
  ·rw[TN e1,kC hq,S.RW,S.pk,h,hK];have:¬((i:Int)=(q:Int)):=by omega
   simp[this]
 ·rw[Ut (by rw[List.length_set,gU];omega),Ut (by rw[gU];omega)]
structure RtH (l W:List Int) (C:AV) (V:Nat->AV) (E:Nat->En) (g:G):Prop where
 hp:Hp g 2 K4 V E
 v0:V 0=XM 2
 e0:E 0=.bx [V 1,C,V 3]
 e1:E 1=.sl 1 (l.map ci)
 e3:E 3=.sl 1 (W.map ci)
def S.R9(W:List Int):Nat->Nat
 |0=>0
 |j+1=>if W[S.R9 W j]?.getD 0<W[j+1]?.getD 0 then j+1 else S.R9 W j
theorem Gs(W:List Int):∀j,S.R9 W j<=j
 |0=>TG _
 | j+1=>by have:=Gs W j;rw[S.R9];split<;>omega
def S.Tk(n:Net)(e vars:List Int):Nat:=S.R9 (S.Sb n e vars (S.RR n)) (S.nc (S.RO (S.RN n) vars) - 1)
def S.Te(n:Net)(e vars:List Int):List Int:=S.RT (S.RO (S.RN n) vars) (S.Tk n e vars:Int)
def S.SZ(n:Net)(e vars:List Int):Int:=(S.Sb n e vars (S.RR n))[S.Tk n e vars]?.getD 0
theorem Cy{D:ADf->Prop}(hv:SlR P k g.h l v)(hP:∀i,P i->i<g.nx)(hl2:l.length<=1000)(kk:∀u g',Own g' g.nx u 1 (l.map ci)->Fr g g'->(∀i∈g'.lg,i∈g.lg\/g.nx<=i)->K u g') :
  (ah C0 d 37 [v] g).sat K g D:=by
 rw[il];refine wz jH (by simp[br]) ?_
 by_cases hn:v=.nils
 ·subst hn;have hl:l=[]:=by have h:=hv.2;unfold SlV at h;exact h
  have a:wD false .slice .nils .nils=.val (.bool true):=rfl;simp only[sz,simprocAttr,br,a];exact kk _ _ (.inl ⟨rfl,by rw[hl];rfl⟩) (Fr.refl g) λi hi=>.inl hi
 ·have a:wD false .slice v .nils=.val (.bool false):=by
   have h:=hv.2;unfold SlV at h
   split at h
   ·exact absurd rfl hn
   ·rfl
   ·rfl
   ·rfl
   ·exact h.elim
  simp only[sz,simprocAttr,br,a];refine bk (b:=g.nx) (v:=.hsl g.nx 0 0 0 none) (rows:=[]) (new:=l.map ci) (.inr ⟨g.nx,0,false,TG _,by simp,rfl,by simp[RQ]⟩) ?_ (by simp) (by simp[aQ];omega) λu g1 hu n1 f1 _ l1=>?_
  ·refine SlR.ints (P:=P) (k:=k) (hv.far8 λi hi=>?_);have:=hP i hi;simp[RQ,show ¬i=g.nx by omega]
  ·simp only[sz,simprocAttr];refine kk u g1 (by simpa using hu) ⟨by simp at n1;omega,λi hi=>by rw[f1 i (by simp;omega) (by simp[vid];omega)];simp[RQ,show ¬i=g.nx by omega]⟩ λi hi=>?_;rcases l1 i hi with h|h
   ·simp at h;rcases h with rfl|h
    ·exact .inr (TG _)
    ·exact .inl h
   ·exact .inr h
theorem L7{α:Type} [Rp α]{h':H}{l:List α}(hv:SlR NoP k h l v)(n:Nat):aw h' (n+1) v=[]:=by
 have r:=hv.2;unfold SlV at r
 split at r
 ·rfl
 ·rfl
 ·rfl
 ·exact r.1.elim
 ·exact r.elim
theorem L8(h:H)(n t sz i off:Nat)(rows:List (List AV)):aw h n (.tptr t sz rows i off)=[]:=by cases n<;>rfl
theorem KE(n:Net)(e vars:List Int):S.Sb n e vars 0=List.replicate (S.nc (S.RO (S.RN n) vars)) 0:=by
 refine Wd λi=>?_
 by_cases hi:i<(S.RP (S.RO (S.RN n) vars)).toNat
 ·rw[kC hi,VQ,S.nc,TO hi];rfl
 ·rw[Ut (by rw[gU];omega),Ut (by rw[List.length_replicate,S.nc];omega)]
theorem KB(hj:j<S.RR n)(hi:i<(S.RP (S.RO (S.RN n) vars)).toNat)(hK:S.SX n vars j=(i:Int)) :
  ∃y x,(S.Sb n e vars j)[i]?=some y/\(S.RS n e)[j]?=some x/\(S.Sb n e vars j).set i (y+x)=S.Sb n e vars (j+1)/\(S.Sb n e vars (j+1))[i]?=some (y+x):=by
 refine⟨_,_,kC hi,zm hj,?_,?_⟩
 ·cases c:S.pe n e j with
  | true =>
   rw[TO rfl];exact KD c hi hK
  | false =>
   rw[KC c,TN (by decide),Int.add_zero];refine Wd λq=>?_;rw[Vi]
   by_cases e1:i=q
   ·subst e1;rw[TO rfl,TO (by rw[gU];exact hi),kC hi]
   ·rw[TN e1]
 ·rw[kC hi,S.RW,S.pk];have:decide (S.RQ (S.RO (S.RN n) vars) (S.RO (S.RT (S.RN n) (j:Int)) vars)=(i:Int))=true:=Wc hK;rw[this,WE]
  rfl
theorem GM{C:Cfg}{r:List SR}(hi:g.h.get i=.dfr true)(hj:g.h.get j=.dfr true)(hij:i≠j)(h:xe r t ((g.put i (.dfr false)).put j (.dfr false)) λvs=>K (gQ vs) ((g.put i (.dfr false)).put j (.dfr false))):u7 C d r t [.mark i,.mark j] g K:=by
 unfold u7;have:d8 (I C) d [.mark i,.mark j] g=some ((g.put i (.dfr false)).put j (.dfr false)):=by
  have k:(g.put i (.dfr false)).h.get j=.dfr true:=by simp[RQ,show ¬j=i by omega,hj]
  simp only[d8,G.get_eq,hi,k]
 rw[this];exact h
def LBs(p:Nat):List (Nat×AV):=[(1,XM 0),(4,XM p)]
theorem NX{q:AV}(hd:k<d)(hr:NR n)(hq:zG n vars (S.S6 n vars) (S.RS n e) m k q)(hp:S.Sa vars (n.nodes.length:Int)=true) :
  ∃r,ah C0 d 52 [q] g=.val r/\pj (One (S.Te n e vars)) (One (S.SZ n e vars)) NoP 0 .nil r:=by
 have k7:=hq;obtain⟨t0,b,vw,ow,ww,e0,ht,hb,hv,ho,kp⟩:=k7;have kd:=hr.l2;have kk:=dy hp (by omega);have E:=da hp;have T:=aZ (ps:=vars) hr.cs (λp hpm=>by rw[aB];exact E p hpm);have k4:(S.RO (S.RN n) vars).length=vars.length:=by simp[S.RO]
 have C:CsOk (S.RO (S.RN n) vars):=⟨T,by omega⟩;obtain⟨N1,N2,N3⟩:=C.nc;obtain⟨W1,W2,W3⟩:=hr.wl;have ki:(S.S6 n vars).length<=n.nodes.length:=Bb _ _;have D:0<d+1:=TW d;have hw:∀g:G,EH q g=.upd (XM g.nx) (g.new (W8 1 [[q]])):=λg=>by rw[e0];rfl
 have iq:∀h,aw h aC q=[]:=λh=>by rw[e0];exact L8 h _ _ _ _ _ _
 have iv:∀h,aw h aC vw=[]:=λh=>L7 hv _;have Z:JN 2 q=.val (.tptr t0 6 [[XL n.grain,b,vw,ow,ww,XL m]] 0 2):=by rw[e0];exact bH _ _ _ _ _ _
 have h9:FC q=.val q:=by rw[e0];rfl
 rw[n0];refine aL qr (xs:=[q]) (by rw[e0];simp only[aF,ul]) (by simp[eS]) (bO (m:=1) (aJ _) (aJ _) (by decide) (by decide)) (by decide) (by omega) ?_;simp only[sz,simprocAttr,eS,hw];obtain⟨G0,I⟩:∃G0,G0=G.empty.new (W8 1 [[q]]):=⟨_,rfl⟩;have z0:G0.h.get 0=W8 1 [[q]]:=by rw[I];simp[RQ,show G.empty.nx=0 from rfl]
 have zn:G0.nx=1:=by rw[I];rfl
 rw[<-I];clear I;unfold io;refine iX (P:=λt' df g'=>df=[]/\∃A p,St t' (LBs p)/\g'.h.get 0=W8 1 [[q]]/\g'.h.get A=W8 1 ((List.replicate (S.nc (S.RO (S.RN n) vars)) 0).map ci)/\g'.h.get p=W8 1 [[.hsl A 0 0 (S.nc (S.RO (S.RN n) vars)) none]]/\0<A/\A<p/\p<g'.nx) ?_ ?_
 ·simp only[sz,simprocAttr,sf,h9,Z,aT,z0];refine bi (Dd D hq E (hv.tree (TG _)) (by omega)) λrc hrc=>?_;have ks:=λg:G=>Gp (d:=d+1) (g:=g) D (hrc.sl g.h);have ir:∀h,aw h aC rc=[]:=λh=>L7 (hrc.sl .nil) _;rw[x9 T (by omega),<-N3]at ks;simp only[sz,simprocAttr,sf,ks];refine Mv N2 λg1 m1 n1 u1 l1=>?_;simp only[sx,sy,sf]at m1 n1 u1 l1;have y0:g1.h.get 0=W8 1 [[q]]:=by rw[u1.1 0 (by omega)];simpa using z0
  have it:an (AV.tptr t0 6 [[XL n.grain,b,vw,ow,ww,XL m]] 0 2)=[]:=rfl;simp only[sz,simprocAttr,sf];refine⟨?_,?_⟩
  ·simp only[Uf,Ug,Ud,T4];refine aN (false::(Xp (Xo (true::(true::(true::[])))))) [(0,8),(1,8),(2,8),(3,8),(4,8),(5,8),(6,8),(7,8)] (by simp[All2,am,aE,gq,rP]) (by decide) ?_;rintro p hp x y hx H;simp only[Us,TY,Wt]at hp;rcases hp with rfl|rfl|rfl|rfl|rfl|rfl|rfl|rfl<;>(simp[gq,rP,fZ,iq,iv,ir,sx]at hx H;subst hx;subst H;refine dh rfl rfl rfl rfl ?_ ?_ ?_<;>simp[am,aE,kZ,it,l1]<;>omega)
  ·refine⟨G0.nx+7,g1.nx+1,by simp[St,LBs,sx],?_,?_,?_,by omega,by omega,by simp⟩
   ·simp[RQ,show ¬0=g1.nx+1 by omega,y0]
   ·simp[RQ,show ¬G0.nx+7=g1.nx+1 by omega,m1]
   ·simp[RQ]
 rintro t df g1 ⟨rfl,A,p,⟨h1,h4,-⟩,f0,fA,fp,hA,kb,kj⟩;refine iX (P:=λt' df g'=>∃dm,df=[.mark dm]/\g'.h.get dm=.dfr true/\p<dm/\dm<g'.nx/\St t' (LBs p)/\g'.h.get 0=W8 1 [[q]]/\(∃lo,g'.h.get A=.cells 1 ((S.Sb n e vars (S.RR n)).map ci) 0 lo false)/\g'.h.get p=W8 1 [[.hsl A 0 0 (S.nc (S.RO (S.RN n) vars)) none]]) ?_ ?_
 ·simp only[sz,simprocAttr,h1,f0];refine bi (Q:=λr=>∃tg,r=.clo 132 [] [.tptr tg 1 [[q]] 0 0]) (by obtain⟨tg,h⟩:=HE (g:=g1) (Nat.lt_succ_of_lt hd) hq;exact⟨_,h,tg,rfl⟩) ?_;rintro r ⟨tg,rfl⟩;simp only[sz,simprocAttr];refine Hm (n:=n) (vars:=vars) (oth:=S.S6 n vars) (mw:=S.RS n e) (m:=m) (k:=k) (tg:=tg) D hr hq E (by omega) QJ (by omega) (kw _ _ _) (by simp[sx]) (by decide) (by decide)
   (λj g'=>g'.h.get 0=W8 1 [[q]]/\(∃lo,g'.h.get A=.cells 1 ((S.Sb n e vars j).map ci) 0 lo false)/\g'.h.get p=W8 1 [[.hsl A 0 0 (S.nc (S.RO (S.RN n) vars)) none]]) ?_ ⟨f0,⟨false,?_⟩,fp⟩ ?_ ?_
  ·rintro j g3 g4 J ⟨a1,a2,F⟩;exact⟨by rw[J _ (by omega),a1],by rw[J _ (by omega)];exact a2,by rw[J _ (by omega),F]⟩
  ·rw[fA,KE]
  ·rintro j x u g3 hj hx ⟨a1,⟨lo,a2⟩,F⟩ ke hu;simp only[sz,simprocAttr,gE];refine⟨?_,λf n5 f5=>?_⟩
   ·exact LF _ _ _
   have k2:=eD (λc hc=>(hr.cs c hc).1) (j:Int);have hC:=dx k2 (ps:=vars) (λp hpm=>by rw[aB];exact E p hpm);have k5:=OP hr E j;obtain⟨fn,h6⟩:=TP k5.1;have R:fn<(S.RP (S.RO (S.RN n) vars)).toNat:=by have:(S.Ts n vars:Int)=S.RP (S.RO (S.RN n) vars):=N3;omega
   obtain⟨y,x',H,K,he,B⟩:=KB (e:=e) hj R h6;rw[hx]at K;injection K with K;subst K;have hk:0<=y+x/\y+x<=171992678400000000:=by rw[kC R]at B;injection B with B;rw[<-B];exact qV hr (by omega)
   have f6:∀i,i<g3.nx->i≠g1.nx+1->f.h.get i=g3.h.get i:=λi h1 h2=>by rw[f5 i h2,TN (by omega),TN (by omega)]
   have gp5:f.h.get g3.nx=W8 2 [[XL (S.SX n (S.S6 n vars) j),XL x]]:=by rw[f5 _ (by omega),TO rfl]
   have b0:f.h.get 0=W8 1 [[q]]:=by rw[f6 0 (by omega) (by omega),a1]
   have bA:f.h.get A=.cells 1 ((S.Sb n e vars j).map ci) 0 lo false:=by rw[f6 A (by omega) (by omega),a2]
   have bp:f.h.get p=W8 1 [[.hsl A 0 0 (S.nc (S.RO (S.RN n) vars)) none]]:=by rw[f6 p (by omega) (by omega),F]
   have U:SlR (λi=>vid u=some i) 0 f.h (S.RO (S.RT (S.RN n) (j:Int)) vars) u:=by have h1:SlR (λi=>vid u=some i) 0 g3.h (S.RO (S.RT (S.RN n) (j:Int)) vars) u:=hu.sl (α:=Int) (by simp[S.RO];omega) (RN (λa=>ax.2 rfl) _) λi hi=>hi;exact h1.far8 λi hi=>by have:=hu.lt hi;exact f6 i (by omega) (by omega)
   have kn:=λ(g:G) (h:SlR (λi=>vid u=some i) 0 g.h (S.RO (S.RT (S.RN n) (j:Int)) vars) u)=>Hy (d:=d+1) (g:=g) (l:=S.RO (S.RT (S.RN n) (j:Int)) vars) (w:=u) D hr hq hp h hC;have k6:S.RQ (S.RO (S.RN n) vars) (S.RO (S.RT (S.RN n) (j:Int)) vars)=(fn:Int):=h6;rw[k6]at kn;have oA:Own f 0 (.hsl A 0 0 (S.nc (S.RO (S.RN n) vars)) none) 1 ((S.Sb n e vars j).map ci):=.inr ⟨A,0,lo,by omega,by omega,by rw[TT,gU];rfl,bA⟩;have z1:fn<((S.Sb n e vars j).map ci).length:=by rw[TT,gU];exact R
   have V:((S.Sb n e vars j).map ci)[fn]?=some (ci y):=by rw[TK,H];rfl
   have ru:=oA.rows;have w1:IntKind.wrap .i64 (y+x)=y+x:=ap (by omega) (by omega);simp only[gG,sz,simprocAttr,sf,h1,h4,b0,bp];rw[kn _ ?hx]
   case hx=>simpa using U
   simp only[sz,simprocAttr,sf,ru,z1,V,ci,gp5,w1];refine bC (b:=0) (v:=.hsl A 0 0 (S.nc (S.RO (S.RN n) vars)) none) (sz:=1) (n:=1) (i:=fn) (off:=0) (x:=XL (y+x)) (row:=ci y) (row':=ci (y+x)) (oA.fr (by simp<;>omega) (λi' hi'=>by simp)) V rfl rfl rfl λg6 o6 n6 M=>?_;rw[<-Vf,he]at o6;have f8:∀i',i'≠A->g6.h.get i'=f.h.get i':=λi' hi'=>by rw[M i' (by simpa [vid] using λh:A=i'=>hi' h.symm)];simp
   simp only[sy]at n6;simp only[sz,simprocAttr,sf];refine⟨?_,?_⟩
   ·simp only[Uf,Ug,Ud,T4];exact aN (Xp (Xn (true::[]))) [] (by simp[All2,am,aE,m_]) (by decide) (by simp)
   rcases o6 with⟨h,-⟩|⟨id,ep,lo2,-,-,h,hg⟩
   ·cases h
   injection h with e1 e2;subst e1;subst e2;refine⟨by simp;omega,λi h1 h2=>by simp[f8 i (by omega)],.inl ⟨rfl,by rw[f8 0 (by omega),b0],⟨lo2,by simpa using hg⟩,by rw[f8 p (by omega),bp]⟩⟩
  ·rintro g' ⟨a1,a2,F⟩ hn O;simp only[sz,simprocAttr];exact⟨g1.nx,rfl,O,by omega,by omega,by simp[St,LBs,sx,h1,h4],a1,a2,F⟩
 rintro t df g2 ⟨dm,rfl,k1,k9,ka,⟨h1,h4,-⟩,f0,⟨lo,fA⟩,fp⟩;obtain⟨cs,o⟩:∃cs,cs=S.RO (S.RN n) vars:=⟨_,rfl⟩;obtain⟨W,hW⟩:∃W,W=S.Sb n e vars (S.RR n):=⟨_,rfl⟩;have hs:W.length=S.nc cs:=by rw[hW,gU,o];rfl
 have hm:∀i,i<S.nc cs->0<=W[i]?.getD 0:=λi hi=>by rw[hW,kC (by rw[o]at hi;exact hi)];exact (qV hr W2).1
 have hB:S.Te n e vars=S.RT cs (S.R9 W (S.nc cs - 1):Int):=by rw[o,hW];rfl
 have hl:S.SZ n e vars=W[S.R9 W (S.nc cs - 1)]?.getD 0:=by rw[o,hW];rfl
 rw[hB,hl];rw[<-hW]at fA;rw[<-o]at C N1 N2 N3 T k4 fp;have kc:=λc hc=>(C.b c hc).1;simp only[gI];refine ge (P:=λt' df g'=>df=[.mark dm]/\g'.nx=g2.nx+2/\(∀i,i<g2.nx->g'.h.get i=g2.h.get i)/\g'.h.get g2.nx=W8 1 [[.nils]]/\g'.h.get (g2.nx+1)=W8 1 [[XL (-1)]]/\St t' ((7,XM g2.nx)::(8,XM (g2.nx+1))::LBs p)) ?_ ?_
 ·have k8:∀(g:G) (i:Nat),iN (W8 1 [[.nils]]) g i 0 0 1 0 .nils=.upd .undef (g.put i (W8 1 [[.nils]])):=λg i=>rfl;simp only[sz,simprocAttr,RQ,k8,show ¬g2.nx=g2.nx+1 by omega,show ¬g2.nx+1=g2.nx by omega];simp[St,LBs,sx,h1,h4,RQ];intro i hi;rw[TN (by omega),TN (by omega),TN (by omega),TN (by omega)]
 rintro t df g3 ⟨rfl,n3,f3,e7,e8,h7,h8,h1,h4,-⟩;rw[b_,b_];simp only[sz,simprocAttr,h1,f3 0 (by omega),f0,h9,Z,aT];refine bi (Dd D hq E (hv.tree (TG _)) (by omega)) λrc hrc=>?_;rw[<-o]at hrc;obtain⟨z,kz,hz⟩:=zg (d:=d+1) (g:=aR g3 []) (w:=rc) (cs:=cs) D (hrc.sl _);simp only[sz,simprocAttr,kz];refine C4 (cs:=cs) (w:=z) C hz (by simp[sx]) (by decide) (by decide)
  (λj g'=>(∃lo,g'.h.get A=.cells 1 (W.map ci) 0 lo false)/\g'.h.get p=W8 1 [[.hsl A 0 0 (S.nc cs) none]]/\g'.h.get dm=.dfr true/\g'.h.get (g2.nx+1)=W8 1 [[XL (if j=0 then -1 else W[S.R9 W (j - 1)]?.getD 0)]] /\
   ∃u,g'.h.get g2.nx=W8 1 [[u]]/\(j=0\/Own g' (g3.nx+3) u 1 ((S.RT cs (S.R9 W (j - 1):Int)).map ci)))
  (λ_=>False) ?_ (λ_ _ _ h=>h) ?_ ?_ ?_ (λ_ h=>h.elim)
 ·rintro j g4 f ⟨J,hn,hf⟩ ⟨⟨lo,a1⟩,a2,F,a4,u,L,X⟩;exact⟨⟨lo,by rw[J.1 _ (by omega),a1]⟩,by rw[J.1 _ (by omega),a2],by rw[J.1 _ (by omega),F],by rw[J.1 _ (by omega),a4],u,by rw[J.1 _ (by omega),L],X.imp id λh=>h.fr hn λi hi=>by have:=h.lt hi;exact hf i (by omega) (by omega)⟩
 ·exact⟨⟨lo,by rw[f3 _ (by omega),fA]⟩,by rw[f3 _ (by omega),fp],by rw[f3 _ (by omega),k1],e8,.nils,e7,.inl rfl⟩
 ·rintro j u g4 hj ⟨⟨lo,a1⟩,a2,F,a4,u0,L,X⟩ kf hu;simp only[sz,simprocAttr,gF];refine⟨Fr.refl _,λf n5 f5 u5=>?_⟩;have b1:f.h.get A=.cells 1 (W.map ci) 0 lo false:=by rw[f5 _ (by omega),a1]
  have b2:f.h.get p=W8 1 [[.hsl A 0 0 (S.nc cs) none]]:=by rw[f5 _ (by omega),a2]
  have b3:f.h.get dm=.dfr true:=by rw[f5 _ (by omega),F]
  have Y:=f5 (g2.nx+1) (by omega);rw[a4]at Y;have b5:f.h.get g2.nx=W8 1 [[u0]]:=by rw[f5 _ (by omega),L]
  have U:SlR (λi=>g3.nx+2<=i/\i<g4.nx) 0 f.h (S.RT cs (j:Int)) u:=hu.far8 λi hi=>f5 i (by omega);have oA:Own f 0 (.hsl A 0 0 (S.nc cs) none) 1 (W.map ci):=.inr ⟨A,0,lo,by omega,by omega,by rw[TT,hs],b1⟩;have ru:=oA.rows;obtain⟨y,H,-,-⟩:=ae (l:=W) (j:=j) (by omega);have z1:j<(W.map ci).length:=by rw[TT];omega
  have V:(W.map ci)[j]?=some (ci y):=by rw[TK,H];rfl
  have hk:=hm j hj;rw[H,TS]at hk;obtain⟨Gm,N⟩:∃Gm,Gm=(if j=0 then (-1:Int) else W[S.R9 W (j - 1)]?.getD 0):=⟨_,rfl⟩;rw[<-N]at Y;have kl:(S.RT cs (j:Int)).length<=8:=by rw[cS];exact C.l
  by_cases c:Gm<y
  ·have s:S.R9 W j=j:=by
    cases j with
    |zero=>rfl
    | succ j =>
     rw[TN (by omega),VP]at N;rw[S.R9,H,TS,<-N,TO c]
   simp only[dw,sz,simprocAttr,sf,h1,h4,h7,h8,b2,Y,ru,z1,V,ci,c];refine Cy (l:=S.RT cs (j:Int)) (P:=λi=>g3.nx+2<=i/\i<g4.nx) (k:=0) (by simpa using U) (λi hi=>by simp;omega) (by omega) λu' g6 o6 fr6 l6=>?_;simp only[sy]at o6 fr6 l6;have M:∀i,i<f.nx->g6.h.get i=f.h.get i:=λi hi=>by have:=fr6.2 i (by simp;omega);simpa using this
   have n6:f.nx+1<=g6.nx:=by have:=fr6.1;simp at this;omega
   have oA6:Own g6 0 (.hsl A 0 0 (S.nc cs) none) 1 (W.map ci):=oA.fr (by omega) λi hi=>M i (by have:=oA.lt hi;omega);obtain⟨vc,vt⟩:=o6.cell;simp only[sz,simprocAttr,sf,h4,h7,h8,M p (by omega),M g2.nx (by omega),M (g2.nx+1) (by omega),b2,Y,b5,oA6.rows,z1,V,ci,vc,vt,show ¬g2.nx+1=g2.nx by omega];refine⟨?_,?_⟩
   ·simp only[Uf,Ug,Ud,T4];refine aN (false::(true::(Xo (true::(true::[]))))) [(1,2),(1,3),(1,4),(1,5),(2,6),(3,6),(4,6),(5,6)] (by simp[All2,am,aE,pV,cd]) (by decide) ?_;rintro p' ha x y' hx hh;simp only[Us,TY,Wt]at ha;have k3:∀i∈g6.lg,f.nx<i:=λi hi=>by have:=l6 i hi;simp at this;omega
    have L:A<f.nx:=by omega
    have ir:an (jF 1 (.hsl A 0 0 (S.nc cs) none) j 0)=[A]:=by rw[F3 rfl];rfl
    have p5:p<f.nx:=by omega
    have fresh:∀y:Foot,y.wr=[]->y.lk.big=false->(∀i∈y.lk.rd,i<f.nx)->y.lk.sr=[]->∀x:Foot,x.wr=g6.lg->bF x y=true:=λy h1 h2 h3 h4 x h5=>EC (b:=f.nx) (λi hi=>by rw[h5]at hi;exact Nat.le_of_lt (k3 i hi)) h1 h2 h3 h4;rcases ha with rfl|rfl|rfl|rfl|rfl|rfl|rfl|rfl<;>(simp at hx hh;subst hx;subst hh)
    ·exact fresh _ rfl rfl (by simp[am,kZ,p5]) rfl _ rfl
    ·exact fresh _ rfl rfl (by simp[aE]) rfl _ rfl
    ·exact fresh _ rfl rfl (by simp[am,Bk,L]) rfl _ rfl
    ·exact fresh _ rfl rfl (by simp[am,ir,L]) rfl _ rfl
    all_goals (refine dh rfl rfl rfl rfl ?_ ?_ ?_<;>simp[am,aE,kZ,Bk,ir]<;>omega)
   have e1:∀i,i<f.nx->i≠g2.nx->i≠g2.nx+1->(if i=g2.nx+1 then W8 1 [[XL y]] else if i=g2.nx then W8 1 [[u']] else g6.h.get i)=f.h.get i:=λi h1 h2 h3=>by rw[TN h3,TN h2,M i h1]
   refine⟨by simp<;>omega,λi h1 h2=>?_,.inl ⟨rfl,⟨lo,?_⟩,?_,?_,?_,u',?_,.inr ?_⟩⟩
   ·simpa [RQ] using e1 i h2 (by omega) (by omega)
   ·simpa [RQ,b1] using e1 A (by omega) (by omega) (by omega)
   ·simp[RQ,show ¬p=g2.nx+1 by omega,show ¬p=g2.nx by omega]
   ·simpa [RQ,b3] using e1 dm (by omega) (by omega) (by omega)
   ·simp[s,H]
   ·simp
   ·rw[s];refine Own.fr (g:=g6) ?_ (by simp<;>omega) λi hi=>?_
    ·rcases o6 with h|⟨id,ep,lo6,h1,h2⟩
     ·exact .inl h
     ·exact .inr ⟨id,ep,lo6,by omega,h2⟩
    ·have:=o6.lt hi;simp[RQ,show ¬i=g2.nx+1 by omega,show ¬i=g2.nx by omega]
  ·have s:S.R9 W j=S.R9 W (j - 1)/\j≠0:=by
    cases j with
    |zero=>rw[TO rfl]at N;omega
    | succ j =>
     rw[TN (by omega),VP]at N;rw[S.R9,H,TS,<-N,TN c];exact⟨rfl,by omega⟩
   simp only[dw,sz,simprocAttr,sf,h1,h4,h7,h8,b2,Y,ru,z1,V,ci,c];refine⟨TG _,λ_ _ _=>rfl,.inl ⟨rfl,⟨lo,b1⟩,b3,?_,u0,b5,.inr ?_⟩⟩
   ·rw[s.1,N,TN s.2]
   ·rw[s.1];rcases X with h|h
    ·exact absurd h s.2
    ·exact h.fr (by omega) λi hi=>by have:=h.lt hi;exact f5 i (by omega)
 ·rintro g' ⟨⟨lo,a1⟩,a2,F,a4,u,L,X⟩ hn O;rw[TN (by omega)]at a4;have o7:Own g' (g3.nx+3) u 1 ((S.RT cs (S.R9 W (S.nc cs - 1):Int)).map ci):=X.elim (λh=>by omega) id;simp only[sz,simprocAttr,gH,h7,h8,a4,L];show u7 C0 (d+1) _ _ [.mark g3.nx,.mark dm] g' _;refine GM O F (by omega) ?_;simp only[sz,simprocAttr];have o8:Own ((g'.put g3.nx (.dfr false)).put dm (.dfr false)) (g3.nx+3) u 1 ((S.RT cs (S.R9 W (S.nc cs - 1):Int)).map ci):=o7.fr (by simp) λi hi=>by have:=o7.lt hi;simp[RQ,show ¬i=g3.nx by omega,show ¬i=dm by omega]
  exact⟨λ_=>True,_,_,rfl,o8.ints (by rw[cS];have:=C.l;omega),ax.2 rfl⟩
theorem FZ{x y:Nat}(hd:0<d)(hx:x<=4611686018427387903)(hy0:0<y)(hy:y<=4611686018427387903) :
  ah C0 d 53 [XL (x:Int),XL (y:Int)] g=.val (.agg [XL (S.RY x y).1,XL (S.RY x y).2]):=by
 have key:∃r,ah C0 d 53 [XL (x:Int),XL (y:Int)] g=.val r/\Agg (S.RY x y) NoP 0 .nil r:=by
  obtain⟨q0,f,q2,q3⟩:=CL (x:=x) hy0;rw[xJ];refine aL AB (xs:=[XL (x:Int),XL (y:Int)]) (by simp only[aF,bD 0]) (by simp[oS]) (cq _) (by decide) hd ?_;have hm:max (x:Int) (-(x:Int))=(x:Int):=by omega
  simp only[sz,simprocAttr,oS,rM,IJ (show x<9223372036854775808 by omega),hm];refine eW (λb t df g=>df=[]/\∃a:Nat,St t [(0,XL (x:Int)),(1,XL (y:Int)),(4,XM 0),(5,XL (a:Int)),(6,XL (b:Int))]/\Nat.gcd a b=Nat.gcd x y/\a<9223372036854775808/\b<=y/\g.h.get 0=W8 2 [[XL 0,XL 0]]/\g.nx=1) y
   ⟨rfl,x,by simp[St,sx],rfl,by omega,TG _,by simp[RQ,show G.empty.nx=0 from rfl],by simp[show G.empty.nx=0 from rfl]⟩ ?_
  rintro b t df g ⟨rfl,a,⟨h0,h1,h4,h5,h6,-⟩,k,ha,e,g0,gn⟩
  by_cases hb:b=0
  ·subst hb;rw[Nat.gcd_zero_right]at k;subst k;have fw:d7 [XL 0,XL 0] [((0,1),XL ((x / Nat.gcd x y:Nat):Int)),((1,1),XL ((y / Nat.gcd x y:Nat):Int))]=some [XL ((x / Nat.gcd x y:Nat):Int),XL ((y / Nat.gcd x y:Nat):Int)]:=rfl;simp only[j7,pU,sz,simprocAttr,sf,h0,h1,h4,h5,h6,qR (show x<9223372036854775808 by omega) q0,qR (show y<9223372036854775808 by omega) q0,fw,g0];refine⟨?_,⟨λ_=>True,gC.2 rfl⟩⟩;simp only[Uf,Ug,Ud,T4];exact aN (false::(Xp (Xo (true::[])))) [] (by simp[All2,am,aE]) (by decide) (by simp)
  ·have c:¬(b:Int)=0:=by omega
   have hlt:=US a (WD hb);simp only[j7,sz,simprocAttr,h5,h6,c,xd (x:=a) (WD hb)];refine⟨a % b,hlt,b,?_,?_,by omega,by omega,g0,gn⟩
   ·simp[St,sx,h0,h1,h4,h5,h6]
   ·rw[<-k,W6 a b,W6 b (a % b),<-Nat.gcd_rec]
 obtain⟨r,hr,hc⟩:=key;rw[hr,gC.1 hc]
def S.SA(n:Net)(e vars:List Int):Int:=if S.Sf n e vars=0 then (if S.R6 n e=0 then 7 else 0) else S.Sf n e vars
def S.S3(n:Net)(e vars:List Int):List Int:=if S.SA n e vars=0 then S.Te n e vars else []
def S.SW(n:Net)(e vars:List Int):QI:=if S.SA n e vars=0 then S.RY (S.SZ n e vars).toNat (S.R6 n e).toNat else (0,0)
def Jk(n:Net)(e vars:List Int):VS:=NU (One (S.S3 n e vars)) (Agg (S.SW n e vars)) (One (S.SA n e vars))
theorem Pg(n:Net)(e vars:List Int):Snb (Jk n e vars) 2:=Bt (m:=2) (aJ _) (cq _) (aJ _) (by decide) (by decide) (by decide)
theorem J0{r:AV}(h:Jk n e vars NoP 0 .nil r):∃a,r=.tup [a,.agg [XL (S.SW n e vars).1,XL (S.SW n e vars).2],XL (S.SA n e vars)]/\SlR NoP 0 .nil (S.S3 n e vars) a:=by obtain⟨a,b,c,rfl,⟨a',k,ha⟩,hb,hc⟩:=h;injection k with k;subst k;have hc:=ax.1 hc;injection hc with hc;rw[gC.1 hb,hc];exact⟨_,rfl,ha⟩
theorem Fx{E:Int}(hE:S.SA n e vars=E)(h0:E≠0):Jk n e vars P 0 h (.tup [.nils,.agg [XL 0,XL 0],XL E]):=by
 have k:S.S3 n e vars=[]:=by rw[S.S3,TN (by rw[hE];exact h0)]
 have a:S.SW n e vars=(0,0):=by rw[S.SW,TN (by rw[hE];exact h0)]
 unfold Jk;rw[k,a,hE];exact⟨_,_,_,rfl,⟨.nils,rfl,by simp,rfl⟩,gC.2 rfl,ax.2 rfl⟩
theorem EG(hr:NR n)(e vars:List Int):0<=S.SZ n e vars/\S.SZ n e vars<=171992678400000000:=by
 have hw:=hr.wl.2.1;unfold S.SZ
 by_cases c:S.Tk n e vars<(S.RP (S.RO (S.RN n) vars)).toNat
 ·rw[kC c];exact qV hr hw
 ·rw[Ut (by rw[gU];omega)];decide
theorem Pw{k1 k2:Nat}{P1 P2:Nat->Prop}{w u:AV}(hd:0<d)(hm:Agg n NoP 0 g.h v)(he:SlR P1 k1 g.h e w)(hv:SlR P2 k2 g.h vars u)(hk2:k2<=d) :
  ∃r,ah C0 d 16 [v,w,u] g=.val r/\Jk n e vars NoP 0 .nil r:=by
 obtain⟨b,rows,rfl,e1,m,hN,C,D,E,F⟩:=fP d hm;obtain⟨w',e2,t⟩:=bm he d;obtain⟨u',e3,s⟩:=bm hv d;rw[xA];refine aL Aq (xs:=[.agg [XL n.grain,b],w',u']) (by simp only[aF,e1,e2,e3]) (by simp[oq]) (Pg n e vars) (by decide) hd ?_;have fw0:d7 [XL 0,XL 0] []=some [XL 0,XL 0]:=rfl;simp only[sz,simprocAttr,oq,rh];refine bi (wR (n:=n) (e:=e) (vars:=vars) (kv:=max k2 d) (by omega) (m _) (t _) (s _)) λr hns=>?_;rcases FF hns with⟨c,p,rfl,hp⟩|⟨c,rfl⟩
 ·obtain⟨⟨hr,B⟩,q⟩:=Bo.1 c
  by_cases c2:S.R6 n e=0
  ·have f:S.SA n e vars=7:=by rw[S.SA,TO c,TO c2]
   have hp0:=hp;obtain⟨t0,bb,vw,ow,ww,rfl,-⟩:=hp0;simp only[sz,simprocAttr,eo,bH,aT,c2,fw0];exact⟨λ_=>True,Fx f (by decide)⟩
  ·have f:S.SA n e vars=0:=by rw[S.SA,TO c,TN c2]
   have hp0:=hp;obtain⟨t0,bb,vw,ow,ww,rfl,-⟩:=hp0;simp only[sz,simprocAttr,eo,bH,aT,c2];refine bi (NX (Nat.lt_succ_of_le (WZ.2 ⟨hk2,TG d⟩)) hr hp q) ?_;rintro r ⟨a,c',rfl,⟨a',i,ha⟩,k⟩;injection i with i;subst i;have k:=ax.1 k;injection k with k;subst k;have hb:=EG hr e vars;have o:=nU hr e;obtain⟨bw,j⟩:=TP hb.1;obtain⟨ms,l⟩:=TP o.1;have A:S.SW n e vars=S.RY bw ms:=by rw[S.SW,TO f,j,l];rfl
   have z:S.S3 n e vars=S.Te n e vars:=by rw[S.S3,TO f]
   have kr:=λg=>FZ (d:=d+1) (g:=g) (x:=bw) (y:=ms) (by omega) (by omega) (by omega) (by omega);obtain⟨ac,at'⟩:=ha.cell;simp only[sz,simprocAttr,eo,bH,aT,j,l,kr,ac,at'];refine⟨λ_=>True,?_⟩;unfold Jk;rw[z,A,f];exact⟨_,_,_,rfl,⟨_,rfl,ha.wide (TG 0)⟩,gC.2 rfl,ax.2 rfl⟩
 ·have f:S.SA n e vars=S.Sf n e vars:=by rw[S.SA,TN c]
  simp only[sz,simprocAttr,c,fw0];exact⟨λ_=>True,Fx f c⟩
def wcq(q:QI):List AV:=[XL q.1,XL q.2]
def S.Sm(n:Net)(e:List Int)(k:Int):Int:=if S.RZ n e=0 then (if 1<=k/\k<=50 then (if S.R6 n e=0 then 7 else 0) else 2) else S.RZ n e
def S.SJ(n:Net)(e:List Int)(k:Int)(R:List Int):List Int:=if S.Sm n e k=0 then R.take k.toNat else []
def S.wq(n:Net)(e:List Int)(x:Int):QI:=S.RY (S.wW (S.RS n e) x).toNat (S.R6 n e).toNat
def S.Sg(n:Net)(e:List Int)(l:List Int):List QI:=l.map (S.wq n e)
def Jm(n:Net)(e:List Int)(k:Int)(R:List Int):VS:=NU (One (S.SJ n e k R)) (One (S.Sg n e (S.SJ n e k R))) (One (S.Sm n e k))
def Qe(n:Net)(e:List Int)(k:Int):VS:=λP q h v=>∃R,(S.Sm n e k=0->IsSrt (S.RS n e) R)/\Jm n e k R P q h v
theorem Ns(n:Net)(e:List Int)(k:Int)(R:List Int):Snb (Jm n e k R) 2:=Bt (m:=2) (aJ _) (aJ _) (aJ _) (by decide) (by decide) (by decide)
theorem Pi(n:Net)(e:List Int)(k:Int):Snb (Qe n e k) 2:=md λR=>Ns n e k R
theorem Pu{k E:Int}{R:List Int}(hE:S.Sm n e k=E)(h0:E≠0):Jm n e k R P q h (.tup [.nils,.nils,XL E]):=by
 have a:S.SJ n e k R=[]:=by rw[S.SJ,TN (by rw[hE];exact h0)]
 unfold Jm;rw[a,hE];exact⟨_,_,_,rfl,⟨_,rfl,by decide,rfl⟩,⟨_,rfl,by show 0<9223372036854775808;decide,rfl⟩,ax.2 rfl⟩
theorem xh{k E:Int}(hE:S.Sm n e k=E)(h0:E≠0):Qe n e k P q h (.tup [.nils,.nils,XL E]) :=
 ⟨[],λh=>absurd (hE.symm.trans h) h0,Pu hE h0⟩
theorem MY(hr:NR n)(h:S.R6 n e≠0):S.R4 (S.RS n e)≠[]:=by
 intro h0;have hz:∀w,w<S.RR n->S.pe n e w=true->S.wt n w=0:=λw hw hp=>by
  have hb:=xl hr w;have k:¬(w:Int)∈S.R4 (S.RS n e):=by rw[h0];simp
  have a:S.wW (S.RS n e) (w:Int)=S.wt n w:=by rw[S.wW,Ux,zm hw,hp];rfl
  have:¬0<S.wt n w:=λhlt=>k (kA.2 ⟨w,rfl,by rw[show (S.RS n e).length=S.RR n from kw n e _];exact hw,by rw[a];exact hlt⟩);omega
 have key:∀j,j<=S.RR n->S.RW n (S.pe n e) j=0:=by
  intro j
  induction j with
  |zero=>exact λ_=>rfl
  | succ j ih =>
   intro b;have e1:=ih (by omega);cases c:S.pe n e j with
   |false=>rw[S.RW,c,e1];rfl
   | true =>
    have e2:S.RW n (S.pe n e) (j+1)=S.RW n (S.pe n e) j+S.wt n j:=by rw[S.RW,c];rfl
    rw[e2,e1,hz j (by omega) c];rfl
 exact h (key (S.RR n) (TG _))
theorem Own.len{b:Nat}{sz:Nat}{rows:List (List AV)}(h:Own g b v sz rows)(g':G):cH .slice v g'=.val (XL (rows.length:Int)):=by rcases h with⟨rfl,rfl⟩|⟨id,ep,lo,-,-,rfl,-⟩<;>rfl
theorem QS(q:QI):Rp.rp P k h q (wcq q):=zt.2 ⟨[XL q.1],[XL q.2],rfl,ax.2 rfl,ax.2 rfl⟩
theorem NA:l.take (min k l.length)=l.take k:=by rw[List.take_eq_take_iff];omega
theorem Bh(hr:NR n)(h:x∈S.R4 (S.RS n e)):∃i wn:Nat,x=(i:Int)/\i<(S.RS n e).length/\(S.RS n e)[i]?=some (wn:Int)/\wn<=167961600000000/\S.wW (S.RS n e) (i:Int)=(wn:Int):=by obtain⟨i,rfl,hi,hp⟩:=kA.1 h;obtain⟨y,a,-,k⟩:=ae hi;have hb:=J4 hr e y k;obtain⟨wn,rfl⟩:=TP hb.1;exact⟨i,wn,rfl,hi,a,by omega,by rw[S.wW,Ux,a];rfl⟩
theorem L5(g:G)(id:Nat):iN (W8 1 [[.nilp]]) g id 0 0 1 0 .nilp=.upd (.tup []) (g.put id (W8 1 [[.nilp]])):=rfl
theorem wL(g:G)(id:Nat)(t sz:Nat)(rows:List (List AV))(i off:Nat):iN (W8 1 [[.nilp]]) g id 0 0 1 0 (.tptr t sz rows i off)=.upd (.tup []) (g.put id (W8 1 [[.tptr t sz rows i off]])):=rfl
theorem HN{k1:Nat}{P1:Nat->Prop}{w:AV}{kn:Int}(hd:0<d)(hm:Agg n NoP 0 g.h v)(he:SlR P1 k1 g.h e w) :
  ∃r,ah C0 d 28 [v,w,XL kn] g=.val r/\Qe n e kn NoP 0 .nil r:=by
 obtain⟨b,rows,rfl,e1,h7,hN,r1,r2,r3,r4⟩:=fP d hm;obtain⟨w',e2,hg⟩:=bm he d;have K:=TW d;rw[uw];refine aL wA (xs:=[.agg [XL n.grain,b],w',XL kn]) (by simp only[aF,e1,e2,bD 0]) (by simp[jX]) (Pi n e kn) (by decide) hd ?_;simp only[sz,simprocAttr,jX,mJ];refine bi (wR (n:=n) (e:=e) (vars:=[]) (kv:=0) (by omega) (h7 _) (hg _) (by exact⟨by decide,rfl⟩)) λr hns=>?_;have Q:S.Sa [] (n.nodes.length:Int)=true:=by simp[S.Sa]
 have H:S.Sf n e []=S.RZ n e:=by
  unfold S.Sf;rw[TO Q]
  split
  ·rename_i h;exact h.symm
  ·rfl
 rcases FF hns with⟨c,p,rfl,hp⟩|⟨c,rfl⟩
 ·have z:S.RZ n e=0:=by rw[<-H];exact c
  obtain⟨hr,hv⟩:=(Bo.1 c).1;obtain⟨Wl1,Wl2,Wl3⟩:=hr.wl;have hw:(S.RS n e).length=S.RR n:=kw n e _;have hp0:=hp;obtain⟨t0,bb,vw,ow,ww,rfl,-,-,-,-,T⟩:=hp0;have rww:=λh=>(T.tree (h':=h) (TG _)).ints;have lww:∀g:G,cH .slice ww g=.val (XL ((S.RS n e).length:Int)):=λg=>T.len g
  by_cases ck:1<=kn/\kn<=50
  ·have d1:¬kn<1:=by omega
   have d2:¬50<kn:=by omega
   by_cases c2:S.R6 n e=0
   ·have B:S.Sm n e kn=7:=by rw[S.Sm,TO z,TO ck,TO c2]
    simp only[sz,simprocAttr,wL,d1,d2,eo,bH,aT,c2];exact⟨λ_=>True,xh B (by decide)⟩
   ·have B:S.Sm n e kn=0:=by rw[S.Sm,TO z,TO ck,TN c2]
    have O:=nU hr e;obtain⟨ms,l⟩:=TP O.1;obtain⟨kk,rfl⟩:=TP (show 0<=kn by omega);rw[l]at O c2;obtain⟨pv,hb⟩:∃pv,pv=AV.tptr t0 6 [[XL n.grain,bb,vw,ow,ww,XL (S.R6 n e)]] 0 0:=⟨_,rfl⟩;rw[l]at hb hp;simp only[sz,simprocAttr,wL,d1,d2,eo,bH,aT,l,c2,lww,lO,lQ];refine aI (m:=(S.RS n e).length) (by omega) (λj t df g=>df=[]/\g.h.get 1=W8 1 [[.tptr t0 6 [[XL n.grain,bb,vw,ow,ww,XL (ms:Int)]] 0 0]]/\2<=g.nx/\∃u,Own g 2 u 1 ((S.ST (S.RS n e) j).map ci)/\St t [(2,XL (kk:Int)),(9,XM 1),(11,u),(40,ww)])
     ⟨rfl,by simp[RQ,show G.empty.nx=0 from rfl],by simp[show G.empty.nx=0 from rfl],.nils,.inl ⟨rfl,rfl⟩,by simp[St,sx,show G.empty.nx=0 from rfl]⟩ (by simp[sx]) (by simp[sx]) (by decide) ?_ ?_ ?_
    ·rintro j t df g v s (rfl|rfl|rfl) ⟨a1,a2,Y,u,a4,⟨b1,b2,Z,b4,-⟩⟩<;>exact⟨a1,a2,Y,u,a4,by simp[St,sx,b1,b2,Z,b4]⟩
    ·rintro j t df g N ⟨rfl,g1,gn,u,hu,h2,h9,k,f,-⟩ A I;obtain⟨x,hx,-,-⟩:=ae N;have W:j<((S.RS n e).map ci).length:=by simpa using N
     have X:((S.RS n e).map ci)[j]?=some (ci x):=by rw[TK,hx];rfl
     have ho:S.wW (S.RS n e) (j:Int)=x:=by rw[S.wW,Ux,hx];rfl
     have o:=C2 (S.RS n e) j;rw[ho]at o;have Q:=Bg (S.RS n e) j
     by_cases c3:0<x
     ·rw[TO c3]at o;simp only[sz,simprocAttr,f,A,rww,W,X,ci,c3,k];refine bk (new:=[ci (j:Int)]) (hu.step (Fr.new _ _)) (by simp[sx,sy,ci]) (by simp<;>omega) (by simp[aQ];omega) λv2 g2 hv2 n2 f2 _ l2=>?_;simp only[sz,simprocAttr];refine⟨⟨?_,?_,v2,?_,by simp[St,sx,h2,h9,f]⟩,by simp[sx,I,A]⟩
      ·rw[f2 1 (by simp;omega) (λe=>by have:=(hu.lt e).1;omega),G.new_h,au _ _ _ (by omega),g1]
      ·simp at n2;omega
      ·rw[o,U_];simpa [ci] using hv2
     ·rw[TN c3,T3]at o;simp only[sz,simprocAttr,f,A,rww,W,X,ci,c3];exact⟨⟨g1,gn,u,by rw[o];exact hu,by simp[St,sx,h2,h9,k,f]⟩,by simp[sx,I,A]⟩
    ·rintro t df g ⟨rfl,g1,gn,u,hu,h2,h9,k,f,-⟩;have ha:=MY hr (n:=n) (e:=e) (by rw[l];exact c2);simp only[sz,simprocAttr,lS,k,h9];refine NP (n:=n) (b:=2) (q:=1) K hp g1 hu ha (by omega) (λh=>by have:=(hu.lt h).1;omega) λR g2 hR hu2 n2 f2=>?_;have h3:g2.h.get 1=W8 1 [[.tptr t0 6 [[XL n.grain,bb,vw,ow,ww,XL (ms:Int)]] 0 0]]:=by rw[f2 1 (λh=>by have:=(hu.lt h).1;omega),g1]
     have lu:∀g:G,cH .slice u g=.val (XL (R.length:Int)):=λg=>by have:=hu2.len g;rwa [TT]at this
     have ht:R.length<=1024:=by
      have h1:R.Nodup:=hR.ord.imp λ{a b} h e=>by subst e;exact zB h
      have h2:=List.Nodup.length_le_of_subset h1 (λx hx=>(hR.mem x).1 hx);have:=Bg (S.RS n e) (S.RS n e).length;unfold S.R4 at h2;omega
     have h8:min (kk:Int) (R.length:Int)=((min kk R.length:Nat):Int):=by omega
     obtain⟨y,y1,y2⟩:=Pb hu2 (n:=min kk R.length) (by omega) (by omega);simp only[sz,simprocAttr,h2,k,lu,h8,W4,WU,y1];refine Cy (d:=d+1) (y2 _ λ_ _=>rfl) (λi hi=>(hu2.lt hi).2) (by rw[T_];omega) λu3 g3 hu3 fr3 _=>?_;rw[NA]at hu3;obtain⟨L,V⟩:∃L,L=R.take kk:=⟨_,rfl⟩;rw[<-V]at hu3;have h6:∀x∈L,x∈S.R4 (S.RS n e):=λx hx=>(hR.mem x).1 (Uc (by rw[<-V];exact hx));have hs:L.length<=50:=by rw[V,T_];omega
     have lu3:∀g:G,cH .slice u3 g=.val (XL (L.length:Int)):=λg=>by have:=hu3.len g;rwa [TT]at this
     have h4:g3.h.get 1=W8 1 [[.tptr t0 6 [[XL n.grain,bb,vw,ow,ww,XL (ms:Int)]] 0 0]]:=by rw[fr3.2 1 (by omega),h3]
     have hh:S.SJ n e (kk:Int) R=L:=by rw[S.SJ,TO B,V];rfl
     simp only[sz,simprocAttr,lu3,lP];have n3:=fr3.1;have lt3:∀i,vid u3=some i->i<g3.nx:=λi hi=>(hu3.lt hi).2;refine aI (m:=L.length) (by omega) (λj t df g=>df=[]/\g.h.get 1=W8 1 [[.tptr t0 6 [[XL n.grain,bb,vw,ow,ww,XL (ms:Int)]] 0 0]]/\g3.nx<=g.nx/\Own g g2.nx u3 1 (L.map ci)/\∃q,Own g g3.nx q 2 ((S.Sg n e (L.take j)).map wcq)/\St t [(9,XM 1),(11,u3),(14,q),(64,u3)])
      ⟨rfl,h4,TG _,hu3,.nils,.inl ⟨rfl,rfl⟩,by simp[St,sx,h9]⟩ (by simp[sx]) (by simp[sx]) (by decide) ?_ ?_ ?_
     ·rintro j t df g v s (rfl|rfl|rfl) ⟨a1,a2,Y,a4,q,a5,⟨b1,b2,Z,b4,-⟩⟩<;>exact⟨a1,a2,Y,a4,q,a5,by simp[St,sx,b1,b2,Z,b4]⟩
     ·rintro j t df g N ⟨rfl,D,gn4,C,q,hq,h9,k,E,F,-⟩ J h5;obtain⟨x,hx,hf,hn⟩:=ae N;obtain⟨i,wn,rfl,hi,hk,k2,U⟩:=Bh hr (h6 x hn);have u1:i<((S.RS n e).map ci).length:=by simpa using hi
      have u2:((S.RS n e).map ci)[i]?=some (ci (wn:Int)):=by rw[TK,hk];rfl
      have W:j<(L.map ci).length:=by simpa using N
      have X:(L.map ci)[j]?=some (ci (i:Int)):=by rw[TK,hx];rfl
      have kr:=λg=>FZ (d:=d+1) (g:=g) (x:=wn) (y:=ms) K (by omega) (by omega) (by omega);have hl:S.wq n e (i:Int)=S.RY wn ms:=by rw[S.wq,U,l];rfl
      simp only[sz,simprocAttr,sf,F,J,C.rows,W,X,ci,h9,D,E,eo,bH,aT,rww,u1,u2,kr];refine bk (b:=g3.nx) (rows:=(S.Sg n e (L.take j)).map wcq) (new:=[wcq (S.RY wn ms)]) (hq.fr (by simp<;>omega) λi' hi'=>?_) (by simp[sx,sy,wcq]) (by simp<;>omega) (by simp[aQ,S.Sg];omega) λq2 ga hq2 n1 f1 vid1 lg1=>?_
      ·have:=(hq.lt hi').2;simp[RQ];omega
      simp only[sx,sy]at n1 f1 lg1;simp only[sz,simprocAttr,sf];refine⟨?_,?_⟩
      ·simp only[Uf,Ug,Ud,T4];refine aN (false::(Xo (Xn (true::(true::(false::[])))))) [(0,13)] (by simp[All2,am,aE,xV]) (by decide) ?_;rintro p P x y hx hy;simp only[Us,TY,Wt]at P;subst P;simp at hx hy;subst hx;subst hy;refine dh rfl rfl rfl rfl ?_ ?_ ?_<;>simp[am,aE,an]
      have M:∀i',i'<g3.nx->ga.h.get i'=g.h.get i':=λi' hi'=>by rw[f1 i' (by omega) (λh=>by have:=(hq.lt h).1;omega)];simp[RQ];omega
      refine⟨⟨?_,?_,?_,q2,?_,by simp[St,sx,h9,k,F]⟩,by simp[sx,h5,J]⟩
      ·rw[M 1 (by omega),D]
      ·first|omega| (simp<;>omega)
      ·exact C.fr (by first|omega| (simp<;>omega)) λi' hi'=>M i' (lt3 i' hi')
      ·rw[hf];have hc:Own ga g3.nx q2 2 ((S.Sg n e (L.take j++[(i:Int)])).map wcq):=by simpa [S.Sg,hl] using hq2
       exact hc.fr (by first|omega| (simp<;>omega)) λi' hi'=>by simp
     ·rintro t df g ⟨rfl,D,gn4,C,q,hq,h9,k,E,F,-⟩;rw[Ur]at hq;simp only[sz,simprocAttr,lR,k,E];refine⟨λ_=>True,R,λ_=>hR,?_⟩;unfold Jm;rw[hh,B];exact⟨_,_,_,rfl,C.ints (by omega),⟨_,rfl,Own.sl (α:=QI) hq (by simp[S.Sg];omega) (RN (λq=>QS q) _) λ_ _=>trivial⟩,ax.2 rfl⟩
  ·have B:S.Sm n e kn=2:=by rw[S.Sm,TO z,TN ck]
   by_cases d1:kn<1
   ·simp only[sz,simprocAttr,wL,d1];exact⟨λ_=>True,xh B (by decide)⟩
   ·have d2:50<kn:=by omega
    simp only[sz,simprocAttr,wL,d1,d2];exact⟨λ_=>True,xh B (by decide)⟩
 ·have c':S.RZ n e≠0:=by rw[<-H];exact c
  have B:S.Sm n e kn=S.Sf n e []:=by rw[S.Sm,TN c',H]
  simp only[sz,simprocAttr,L5,c];exact⟨λ_=>True,xh B c⟩
def S.us(R:List Int)(j w:Nat):Bool:=decide ((w:Int)∈R.take j)
theorem MW(mw:List Int)(us:Nat->Bool):∀i,0<=(S.Sq mw us i).1
 |0=>WJ _
 | i+1=>by
  have:=MW mw us i;rw[S.Sq]
  split
  ·rename_i h;exact Int.le_of_lt (Int.lt_of_le_of_lt this h.2)
  ·exact this
theorem Lr(a b:Int):wD true (.flat [.int .i64,.int .i64]) (.agg [XL a,XL b]) (.agg [XL a,XL b])=.val (.bool false):=by
 have ha:DS a a=true:=by rw[nS];simp
 have hb:DS b b=true:=by rw[nS];simp
 simp only[wD,eqA,dt,dA,mE,ha,hb]
 rfl
theorem KN{R:List Int}{k:Int}{r:AV}(h:Jm n e k R NoP 0 .nil r):∃a b,r=.tup [a,b,XL (S.Sm n e k)]/\SlR NoP 0 .nil (S.SJ n e k R) a/\SlR NoP 0 .nil (S.Sg n e (S.SJ n e k R)) b:=by obtain⟨a,b,c,rfl,⟨a',d,ha⟩,⟨b',f,hb⟩,hc⟩:=h;injection d with d;injection f with f;subst d;subst f;have hc:=ax.1 hc;injection hc with hc;rw[hc];exact⟨_,_,rfl,ha,hb⟩
theorem SlR.qs{l:List QI}(r:SlR P k h l v):ak h 2 v=some (l.map wcq):=by
 obtain⟨rows,h1,h2⟩:=r.rows;rw[show (2:Nat)=Rp.sz QI from rfl,h1,h2.eq_map (f:=wcq) λa b r=>by
  obtain⟨p,q,rfl,hp,hq⟩:=zt.1 r;rw[ax.1 hp,ax.1 hq];rfl]
def uF:SC:=XK (sQ [oL 6 3,W_ 7 .eql 6 0] (XJ 7 (sQ [o 8 (.build [XL 0,XL 0] [] []),Xc 2 4 8,oK 5 2] (.ret)) (.skip))) (sQ [o 9 (.mkf 119 [] [.t 2,.t 3]),Xs 10 118 9,Xb 11 10 0,Xb 12 10 1,Xc 2 4 11,oM 5 12] (.ret))
def sO:SF:=⟨13,[.cell true 2 4,.tm 5],sQ [XF 2 0,XF 3 1,o 4 (.alloc [XL 0,XL 0]),oK 5 0] uF⟩
def lT:SC:=sQ [o 4 (.mkf 149 [] [.t 2,.t 3]),oz (.raw (.defer ⟨.value (.tmp 4),#[],#[]⟩))] (sQ [oM 5 0,o 6 (.dyn (.t 5) []),Xc 2 2 6,oz (.store 1 (.t 3) (qI 0))] (.ret))
def jf:SF:=⟨7,[.cell true 2 2,.cell false 1 3],sQ [o 2 (.alloc [XL 0,XL 0]),o 3 (.alloc [XL 0])] lT⟩
def rk:SC:=XK (.quiet [oL 4 0,Xs 5 121 4,oL 6 1,Xs 7 121 6,Xt 8 120 5 7,oM 3 8]) (XK (.feet [0,1,0,4,15,0,32,0,224,480,0,1120,0,7264,15456,32767,65535] [oL 9 0,W_ 10 .lss 9 0,oL 11 1,W_ 12 .lss 11 0,o 13 (.eq true .bool (.t 10) (.t 12)),oL 14 0,Xs 15 121 14,oM 16 3,W9 17 .quo 15 16,o 18 (.build [XN 0,XN 0] [(0,1),(1,1)] [.k (XN 0),.t 17]),oL 19 1,Xs 20 121 19,oM 21 3,W9 22 .quo 20 21,o 23 (.build [XN 0,XN 0] [(0,1),(1,1)] [.k (XN 0),.t 22]),Xu 24 122 13 18 23,Xc 2 2 24]) (.ret))
def ox:SF:=⟨25,[.cell true 2 2],sQ [o 2 (.alloc [XL 0,XL 0])] rk⟩
def pE:SC:=XK (sQ [oM 5 1,Xz 6 .neq 5 .u64 0] (XI 6 0)) (.blk 1 (.quiet [oM 7 1,oM 8 0,oM 9 1,W9 10 .rem 8 9,oM 0 7,oM 1 10]))
def pF:SC:=sQ [oM 11 0,oM 4 11] (.ret)
def oy:SF:=⟨12,[.tm 4],sQ [o 4 (.mv (.k (XN 0)))] (XK (.blk 0 (.loop pE)) pF)⟩
def sP:SF:=⟨10,[.tm 2],sQ [o 2 (.mv (.k (XN 0)))] (XK (sQ [oM 3 0,W_ 4 .lss 3 0] (XJ 4 (sQ [oM 5 0,XB 6 .u64 5,o 7 (.un .neg (.t 6)),oM 2 7] (.ret)) (.skip))) (sQ [oM 8 0,XB 9 .u64 8,oM 2 9] (.ret)))⟩
def uG:SC:=XK (sQ [oM 27 0] (XJ 27 (sQ [o 28 (.ixa 2 1 (.t 4) (qI 1)),oL 29 28,XB 30 .i64 29,o 31 (.un .neg (.t 30)),o 32 (.ixa 2 1 (.t 5) (qI 1)),oL 33 32,XB 34 .i64 33,o 35 (.build [XL 0,XL 0] [(0,1),(1,1)] [.t 31,.t 34]),Xc 2 6 35] (.ret)) (.skip))) (sQ [o 36 (.ixa 2 1 (.t 4) (qI 1)),oL 37 36,XB 38 .i64 37,o 39 (.ixa 2 1 (.t 5) (qI 1)),oL 40 39,XB 41 .i64 40,o 42 (.build [XL 0,XL 0] [(0,1),(1,1)] [.t 38,.t 41]),Xc 2 6 42] (.ret))
def wF:SC:=XK (sQ [o 7 (.ixa 2 1 (.t 4) (qI 0)),oL 8 7,Xz 9 .neq 8 .u64 0,oM 10 9,og 11 10 false (.ixa 2 1 (.t 4) (qI 1)),Xi 12 10 false 11,og 13 10 false (.bin .gtr (.t 12) (.k (XN 4611686018427387903))),Xe 14 10 13,oM 15 14,og 16 15 false (.ixa 2 1 (.t 5) (qI 0)),Xi 17 15 false 16,og 18 15 false (.bin .neq (.t 17) (.k (XN 0))),Xe 19 15 18,oM 20 19,og 21 20 false (.ixa 2 1 (.t 5) (qI 1)),Xi 22 20 false 21,og 23 20 false (.bin .gtr (.t 22) (.k (XN 4611686018427387903))),Xe 24 20 23] (XJ 24 (.ops [o 25 (.build [] [] []),o 26 (.raw (.makeInterface 223 (.tmp 25))),oz (.raw (.panic (.tmp 26)))]) (.skip))) uG
def vq:SF:=⟨43,[.cell true 2 6],sQ [XF 4 1,XF 5 2,o 6 (.alloc [XL 0,XL 0])] wF⟩
def gt:SF:=⟨6,[],sQ [o 3 (.raw (.call ⟨.builtin .recover,#[],#[]⟩)),o 4 (.eq true (.iface true) (.t 3) (.k (.nili)))] (XJ 4 (sQ [o 2 (.alloc [XL 0,XL 0])] (.ops [Xa 5 2 2,Xc 2 0 5,oz (.store 1 (.t 1) (qI 6))])) (.skip))⟩
theorem Dx:nFn C0 86=some sO:=by kernel_rfl
theorem zV(d:Nat)(xs:List AV)(g:G):ah C0 d 86 xs g=af (I C0) d g 86 xs:=by kernel_rfl
theorem vg:nFn C0 118=some jf:=by kernel_rfl
theorem sA(d:Nat)(xs:List AV)(g:G):ah C0 d 118 xs g=af (I C0) d g 118 xs:=by kernel_rfl
theorem Ar:nFn C0 119=some ox:=by kernel_rfl
theorem As:nFn C0 120=some oy:=by kernel_rfl
theorem xB(d:Nat)(xs:List AV)(g:G):ah C0 d 120 xs g=af (I C0) d g 120 xs:=by kernel_rfl
theorem Dy:nFn C0 121=some sP:=by kernel_rfl
theorem AF(t:T)(g:G)(xs:List Od):SO.foot C0 t g (.call 121 xs)=am ((fZ t xs).flatMap (aw g.h aC)):=by kernel_rfl
theorem zW(d:Nat)(xs:List AV)(g:G):ah C0 d 121 xs g=af (I C0) d g 121 xs:=by kernel_rfl
theorem E6:nFn C0 122=some vq:=by kernel_rfl
theorem B9(t:T)(g:G)(xs:List Od):SO.foot C0 t g (.call 122 xs)=am ((fZ t xs).flatMap (aw g.h aC)):=by kernel_rfl
theorem BJ(d:Nat)(xs:List AV)(g:G):ah C0 d 122 xs g=af (I C0) d g 122 xs:=by kernel_rfl
theorem sH:nFn C0 149=some gt:=by kernel_rfl
end
end Hx
