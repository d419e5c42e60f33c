/- A part of the proof: an interpreter over abstract values, shown right against the model, and what the functions of the chapter compute on it. -/
import Derived.Test.YteaikmdilmfbeaaGreatHx15
set_option linter.unusedVariables false
set_option linter.unusedSimpArgs false
set_option linter.unnecessarySimpa false
section
namespace Hx
open Go
noncomputable section
theorem J2 {g:G}{n:Nat}{K:AV->G->Prop}{D:ADf->Prop}(hn:n<=65536)(k:∀g',g'.h.get g.nx=.cells 1 ((List.replicate n 0).map ci) 0 false false->g'.nx=g.nx+1->Up g.nx g g'->g'.lg=g.nx::g.lg->K (.hsl g.nx 0 0 n none) g') :
  (y5 1 8 [.int .i64 0] (.int .i64 (n:Int)) (.int .i64 (n:Int)) g).sat K g D:=by
 have h1:n<=aP:=by unfold aP;omega
 have h2:n*8<=aP:=by unfold aP;omega
 have key:y5 1 8 [.int .i64 0] (.int .i64 (n:Int)) (.int .i64 (n:Int)) g=.upd (.hsl g.nx 0 0 n none) (g.new (.cells 1 (eU n [.int .i64 0]) 0 false false)):=by
  show (match b_ aP (.int .i64 (.ofNat n)) with
   | some cn=>match b_ cn (.int .i64 (.ofNat n)) with
    | some ln=>au (Nat.ble (cn*8) aP) (OR.upd (.hsl g.nx 0 0 ln none) (g.new (.cells 1 (eU cn [.int .i64 0]) 0 false false))) .fail
    | none=>.fail
   | none=>.fail)=_
  have a1:b_ aP (.int .i64 (.ofNat n))=some n:=by show au (Nat.ble n aP) (some n) none=_;rw[aa,if_pos (by simpa using h1)]
  have a2:b_ n (.int .i64 (.ofNat n))=some n:=by show au (Nat.ble n n) (some n) none=_;rw[aa,if_pos (by simp)]
  rw[a1];dsimp only;rw[a2];dsimp only;rw[aa,if_pos (by simpa using h2)]
 rw[key];refine k _ ?_ (by simp) (Up.new (Nat.le_refl _) _) (by simp);simp[aO,eU,ci]
theorem NL {g:G}{n:Nat}{K:AV->G->Prop}{D:ADf->Prop}(hn:n<=65536)(k:∀g',g'.h.get g.nx=.cells 1 ((List.replicate n 0).map ci) 0 false false->g'.nx=g.nx+1->Up g.nx g g'->K (.hsl g.nx 0 0 n none) g') :
  (y5 1 8 [.int .i64 0] (.int .i64 (n:Int)) (.int .i64 (n:Int)) g).sat K g D:=J2 hn λg' a b c _=>k g' a b c
def S.bB (n:Net)(oth:List Int)(w:Nat):Int:=S.ah (S.ae (S.aa n) oth) (S.ae (S.an (S.aa n) (w:Int)) oth)
def LW (B tg:Nat)(qv:AV):List (Nat×AV):=[(1,.tptr tg 1 [[qv]] 0 0),(2,.hptr B 0 0 0),(3,.hptr (B+2) 0 0 0)]
theorem OV {d B tg k:Nat}{n:Net}{vars oth mw vals l:List Int}{m:Int}{qv uu vv:AV}{P:Nat->Prop}{j:Int}{rd:Option Nat}{Q:QT}{t:T}{g:G}(hq:Bk n vars oth mw m k qv)(hp:∀x∈vars,0<=x/\x<(vals.length:Int))(hvl:vars.length<=8)(hu:SlR P 0 g.h vals uu)(hP:∀i,P i->i<g.nx/\B+3<=i)(hB:B+2<g.nx)
  (gv:Own g B (.hsl (B+1) 0 0 vars.length none) 1 (l.map ci)) (g2:g.h.get (B+2)=.cells 1 [[.hsl (B+1) 0 0 vars.length none]] 0 false false) (hl:l.length=vars.length)
  (ht:St t ((5,uu)::(4,.int .i64 j)::(29,vv)::LW B tg qv)) (hvv:SlR NoP k .nil vars vv) (h31:tat t 31=.int .i64 0) (h30:tat t 30=.int .i64 (vars.length:Int))
  (fin:∀t g',St t ((5,uu)::(4,.int .i64 j)::LW B tg qv)->g.nx<=g'.nx->(∀i,i<g.nx->i≠B+1->g'.h.get i=g.h.get i)->Up B g g'->Own g' B (.hsl (B+1) 0 0 vars.length none) 1 ((S.ae vals vars).map ci)->Q (.exit 2) t [] g'):wpL (wp C0 d rd ct) Q t [] g:=by
 have rv:=λh=>(hvv.tree (h':=h) (Nat.le_refl _)).ints;have hlp:(S.ae vals vars).length=vars.length:=by simp[S.ae]
 simp only[ct];refine aK (m:=vars.length) (by omega) (λi t df g'=>df=[]/\St t ((5,uu)::(4,.int .i64 j)::(29,vv)::LW B tg qv)/\g.nx<=g'.nx/\(∀i,i<g.nx->i≠B+1->g'.h.get i=g.h.get i)/\Up B g g'/\Own g' B (.hsl (B+1) 0 0 vars.length none) 1 (((S.ae vals vars).take i++l.drop i).map ci)) ⟨rfl,ht,Nat.le_refl _,λ_ _ _=>rfl,Up.refl _ _,by simpa using gv⟩ h31 h30 (by decide)
  (by rintro i t df g v s (rfl | rfl | rfl) ⟨a1,⟨b1,b2,b3,b4,b5,b6,-⟩,c1⟩<;>exact ⟨a1,by simp[St,LW,sx,b1,b2,b3,b4,b5,b6],c1⟩) ?_ ?_
 ·rintro i t df g1 hi ⟨rfl,⟨h5,h4,h29,h1,h2,h3,-⟩,hn,hf,hU,hO⟩ h31 h30;obtain ⟨p,hpx,-,hpm⟩:=ae hi;obtain ⟨p0,p1⟩:=hp p hpm;obtain ⟨pn,rfl⟩:=Int.eq_ofNat_of_zero_le p0;obtain ⟨x,hx,-,-⟩:=ae (l:=vals) (j:=pn) (by omega);have z1:i<(vars.map ci).length:=by simpa using hi
  have z2:(vars.map ci)[i]?=some (ci (pn:Int)):=by rw[List.getElem?_map,hpx];rfl
  have y1:pn<(vals.map ci).length:=by rw[List.length_map];omega
  have y2:(vals.map ci)[pn]?=some (ci x):=by rw[List.getElem?_map,hx];rfl
  have hu1:SlR P 0 g1.h vals uu:=hu.far8 λi hi=>hf i (hP i hi).1 (by have:=hP i hi;omega);have ru:=hu1.ints;have gs:g1.h.get (B+2)=.cells 1 [[.hsl (B+1) 0 0 vars.length none]] 0 false false:=by rw[hf _ hB (by omega),g2]
  have hcj:(S.ae vals vars)[i]?=some x:=by simp[S.ae,hpx,hx]
  obtain ⟨y,hy,-,-⟩:=ae (l:=l) (j:=i) (by omega);have e3:(((S.ae vals vars).take i++l.drop i).map ci).set i (ci x)=((S.ae vals vars).take (i+1)++l.drop (i+1)).map ci:=by
   rw[<-List.map_set,List.set_append_right _ _ (by simp;omega),List.length_take,Nat.min_eq_left (by omega),Nat.sub_self,List.take_succ_eq_append_getElem (by omega),List.drop_eq_getElem_cons (by omega),List.set_cons_zero,List.append_assoc];have:(S.ae vals vars)[i]=x:=by rw[List.getElem?_eq_getElem (by omega)] at hcj;injection hcj
   rw[this];rfl
  have hll:(((S.ae vals vars).take i++l.drop i).map ci).length=vars.length:=by simp;omega
  have hi2:i<(((S.ae vals vars).take i++l.drop i).map ci).length:=by rw[hll];exact hi
  have hro:(((S.ae vals vars).take i++l.drop i).map ci)[i]?=some (ci y):=by rw[List.getElem?_map,List.getElem?_append_right (by simp;omega),List.getElem?_drop];simp only[List.length_take,Nat.min_eq_left (show i<=(S.ae vals vars).length by omega),Nat.sub_self,Nat.add_zero,hy,Option.map_some]
  simp only[sz,simprocAttr,sf,h29,h31,rv,z1,z2,ci,h3,gs,h5,ru,y1,y2,hO.rows,hi2];refine qq (g:=_) (b:=B) (v:=.hsl (B+1) 0 0 vars.length none) (sz:=1) (n:=1) (i:=i) (off:=0) (x:=.int .i64 x) (row:=ci y) (row':=ci x) (hO.fr (by simp<;>omega) (λi' hi'=>by simp)) hro rfl rfl rfl λg5 o5 n5 f5 u5=>?_;rw[e3] at o5;have f6:∀i',i'≠B+1->g5.h.get i'=g1.h.get i':=λi' hi'=>by rw[f5 i' (by simpa [vid] using λh:B+1=i'=>hi' h.symm)];simp
  simp only[sy] at n5;simp only[sz,simprocAttr,sf];refine ⟨?_,?_⟩
  ·simp only[List.reverse_cons,List.reverse_nil,List.nil_append,List.cons_append];exact aV [false,false,false,false,false,false,false,true] [] (by simp[All2,an,aD]) (by decide) (by simp)
  refine ⟨⟨by simp[St,LW,sx,h5,h4,h29,h1,h2,h3],by first | omega | (simp<;>omega),λi' h1 h2=>by simp[f6 i' h2,hf i' h1 h2],hU.trans ⟨λi' h=>by simp[f6 i' (by omega)],λi' h=>?_⟩,o5.fr (by simp<;>omega) λi' h=>by simp⟩,by simp[sx,h31],by simp[sx,h30]⟩;simp at h;rcases h with h | h
  ·rcases u5.2 i' h with h | h
   ·simp at h
   ·exact .inr h
  ·exact .inl h
 ·rintro t df g' ⟨rfl,⟨h5,h4,-,ht⟩,hn,hf,hU,gv1⟩;rw[List.take_of_length_le (by omega),List.drop_of_length_le (by omega),List.append_nil] at gv1;exact fin t g' ⟨h5,h4,ht⟩ hn hf hU gv1
theorem OW {d B tg k t0:Nat}{n:Net}{oth vals:List Int}{m:Int}{b vw ow ww uu:AV}{P:Nat->Prop}{j:Int}{rd:Option Nat}{Q:QT}{t:T}{g:G}(hr:NR n)(hb:SlR NoP k .nil n.nodes b)(ho:SlR NoP k .nil oth ow)(hp:∀x∈oth,0<=x/\x<(n.nodes.length:Int))(hol:oth.length<=8)(hin:InC (S.aa n) vals)(hu:SlR P 0 g.h vals uu)
  (ht:St t ((5,uu)::(4,.int .i64 j)::(47,ow)::(8,.int .i64 0)::LW B tg (.tptr t0 6 [[.int .i64 n.grain,b,vw,ow,ww,.int .i64 m]] 0 0))) (h49:tat t 49=.int .i64 0) (h48:tat t 48=.int .i64 (oth.length:Int))
  (fin:∀t,St t ((8,.int .i64 (S.ah (S.ae (S.aa n) oth) (S.ae vals oth)))::(4,.int .i64 j)::LW B tg (.tptr t0 6 [[.int .i64 n.grain,b,vw,ow,ww,.int .i64 m]] 0 0))->Q (.exit 4) t [] g):wpL (wp C0 d rd cw) Q t [] g:=by
 have ro:=λh=>(ho.tree (h':=h) (Nat.le_refl _)).ints;have hvl:=hin.len;rw[aA] at hvl;have hlp:(S.ae (S.aa n) oth).length=oth.length:=by simp[S.ae]
 have hlv:(S.ae vals oth).length=oth.length:=by simp[S.ae]
 have hpb:=aM (ps:=oth) hr.cs (λp hpm=>by rw[aA];exact hp p hpm);have hC:=dx hin (λp hpm=>by rw[aA];exact hp p hpm);have ru:=hu.ints;simp only[cw];refine aK (m:=oth.length) (by omega) (λi t df g'=>df=[]/\g'=g/\St t ((5,uu)::(4,.int .i64 j)::(47,ow)::(8,.int .i64 (S.ah ((S.ae (S.aa n) oth).take i) ((S.ae vals oth).take i)))::LW B tg (.tptr t0 6 [[.int .i64 n.grain,b,vw,ow,ww,.int .i64 m]] 0 0))) ⟨rfl,rfl,by simpa [S.ah] using ht⟩ h49 h48 (by decide)
  (by rintro i t df g v s (rfl | rfl | rfl) ⟨a1,a2,⟨b1,b2,b3,b4,b5,b6,b7,-⟩⟩<;>exact ⟨a1,a2,by simp[St,LW,sx,b1,b2,b3,b4,b5,b6,b7]⟩) ?_ ?_
 ·rintro i t df g' hi ⟨rfl,rfl,⟨h5,h4,h47,h8,h1,h2,h3,-⟩⟩ h49 h48;obtain ⟨p,hpx,-,hpm⟩:=ae hi;obtain ⟨p0,p1⟩:=hp p hpm;obtain ⟨pn,y,rows,pa,ra,rfl,hy,r1,r2,r3,r4,hym,r5⟩:=xB hb p0 p1;obtain ⟨x,hx,-,-⟩:=ae (l:=vals) (j:=pn) (by omega);have z1:i<(oth.map ci).length:=by simpa using hi
  have z2:(oth.map ci)[i]?=some (ci (pn:Int)):=by rw[List.getElem?_map,hpx];rfl
  have y1:pn<(vals.map ci).length:=by rw[List.length_map];omega
  have y2:(vals.map ci)[pn]?=some (ci x):=by rw[List.getElem?_map,hx];rfl
  have hcj:(S.ae (S.aa n) oth)[i]?=some y.card:=by simp[S.ae,hpx,r5]
  have hvj:(S.ae vals oth)[i]?=some x:=by simp[S.ae,hpx,hx]
  have c1:(S.ae (S.aa n) oth).take (i+1)=(S.ae (S.aa n) oth).take i++[y.card]:=by rw[List.take_succ_eq_append_getElem (by omega)];congr 2;rw[List.getElem?_eq_getElem (by omega)] at hcj;injection hcj
  have c2:(S.ae vals oth).take (i+1)=(S.ae vals oth).take i++[x]:=by rw[List.take_succ_eq_append_getElem (by omega)];congr 2;rw[List.getElem?_eq_getElem (by omega)] at hvj;injection hvj
  have hsn:S.ah ((S.ae (S.aa n) oth).take (i+1)) ((S.ae vals oth).take (i+1))=S.ah ((S.ae (S.aa n) oth).take i) ((S.ae vals oth).take i)*y.card+x:=by rw[c1,c2];exact uL (by simp;omega)
  have i1:=bE (λc h=>hpb c (List.mem_of_mem_take h)) (hC.take i);have i2:=bE (λc h=>hpb c (List.mem_of_mem_take h)) (hC.take (i+1));have q1:=bN hpb (by omega) i;have q2:=bN hpb (by omega) (i+1);rw[hsn] at i2 ⊢;have hyc:=hr.card y hym;obtain ⟨A,hA⟩:∃A,A=S.ah ((S.ae (S.aa n) oth).take i) ((S.ae vals oth).take i):=⟨_,rfl⟩;rw[<-hA] at h8 i1 i2 ⊢;have hm0:0<=A*y.card:=Int.mul_nonneg i1.1 (by omega);have hm1:A*y.card<=65536*4:=Int.mul_le_mul (by omega) (by omega) (by omega) (by omega);have w1:IntKind.wrap .i64 (A*y.card)=A*y.card:=aq (by omega) (by omega);have w2:IntKind.wrap .i64 (A*y.card+x)=A*y.card+x:=aq (by omega) (by omega);simp only[sz,simprocAttr,h47,h49,ro,z1,z2,ci,h8,h1,h5,jl,cC,ba,r1,r2,r3,r4,ru,y1,y2,w1,w2];simp[St,LW,sx,h1,h2,h3,h4,h5,h47,h48,h49]
 ·rintro t df g' ⟨rfl,rfl,⟨-,h4,-,h8,ht⟩⟩;rw[List.take_of_length_le (by omega),List.take_of_length_le (by omega)] at h8;exact fin t ⟨h8,h4,ht⟩
theorem IB {d id k tg:Nat}{n:Net}{vars oth mw:List Int}{m:Int}{qv:AV}{g0:G}{K:AV->G->Prop}(hd:0<d)(hr:NR n)(hq:Bk n vars oth mw m k qv)(hp:∀x∈vars,0<=x/\x<(n.nodes.length:Int))(hvl:vars.length<=8)(hpo:∀x∈oth,0<=x/\x<(n.nodes.length:Int))(hol:oth.length<=8)(hmw:mw.length=S.am n)
  (J:Nat->G->Prop) (hJ:∀j g g',(∀i,i<g0.nx->g'.h.get i=g.h.get i)->J j g->J j g')
  (step:∀(j:Nat) (w:Int) (u:AV) (g:G) (K':AV->G->Prop) (D:ADf->Prop),j<S.am n->mw[j]?=some w->g0.nx<=g.nx->J j g->Own g g0.nx u 1 ((S.ae (S.an (S.aa n) (j:Int)) vars).map ci) ->
   (∀g',J (j+1) g'->g.nx<=g'.nx->(∀i,g0.nx<=i->i<g.nx->g'.h.get i=g.h.get i)->K' (.bool true) g')->(cg (I C0) d id [.agg [.int .i64 (S.bB n oth j),.int .i64 w],u] g).sat K' g D)
  (h0:J 0 g0) (fin:∀g',J (S.am n) g'->g0.nx<=g'.nx->K (.tup []) g') :
  wp C0 d none aX.code (fnQ C0 d aX.res K) (bO 0 [.yld id,.tptr tg 1 [[qv]] 0 0] .nil) [] g0:=by
 obtain ⟨t0,b,vw,ow,ww,rfl,ht0,hb,hv,ho,hww⟩:=hq;have hl8:=hr.l2;obtain ⟨W1,W2,W3⟩:=hr.wl;have hcs:CsOk (S.aa n):=⟨hr.cs,by rw[aA];omega⟩;have hnc:S.nc (S.aa n)=S.am n:=rfl;have lv:∀g:G,dv .slice vw g=.val (.int .i64 (vars.length:Int)):=λg=>hv.len g;have lo:∀g:G,dv .slice ow g=.val (.int .i64 (oth.length:Int)):=λg=>ho.len g;have rw_:=λh=>(hww.tree (h':=h) (Nat.le_refl _)).ints;obtain ⟨B,hB⟩:∃B,B=g0.nx:=⟨_,rfl⟩;have hbx:∀g:G,Cx (.yld id) g=.upd (.hptr g.nx 0 0 0) (g.new (.cells 1 [[.yld id]] 0 false false)):=λg=>rfl;obtain ⟨Qf,hQf⟩:∃Qf,Qf=fnQ C0 d aX.res K:=⟨_,rfl⟩;rw[<-hQf];simp only[sz,simprocAttr,aX,hbx];unfold eM;refine di (P:=λt' df g'=>df=[]/\g'.nx=B+3/\g'.h.get B=.cells 1 [[.yld id]] 0 false false/\Own g' B (.hsl (B+1) 0 0 vars.length none) 1 ((List.replicate vars.length 0).map ci)/\g'.h.get (B+2)=.cells 1 [[.hsl (B+1) 0 0 vars.length none]] 0 false false/\Up B g0 g'/\St t' (LW B tg (.tptr t0 6 [[.int .i64 n.grain,b,vw,ow,ww,.int .i64 m]] 0 0))) ?_ ?_
 ·simp only[sz,simprocAttr,ba,jl,cC,lv];refine NL (by omega) λg2 m2 n2 u2=>?_;simp only[sx] at m2 n2 u2;rw[<-hB] at m2 n2 u2;simp only[sz,simprocAttr,n2,<-hB];have hO:Own g2 B (.hsl (B+1) 0 0 vars.length none) 1 ((List.replicate vars.length 0).map ci):=.inr ⟨B+1,0,false,by omega,by omega,by simp,m2⟩;refine ⟨?_,hO.fr (by simp) λi hi=>?_,?_,by simp[St,LW,sx]⟩
  ·rw[if_neg (by omega),if_neg (by omega),u2.1 B (by omega),G.new_h,hB,aO]
  ·have:i=B+1:=by simpa [vid] using hi.symm
   subst this;simp[H.get_put,n2]
  ·exact ((Up.new (by omega) _).trans (u2.mono (by omega))).trans ((Up.new (by omega) _).trans (Up.put (by omega) _))
 rintro t df g1 ⟨rfl,n1,gB,gV,gS,U1,h1,h2,h3,-⟩;have hJ1:J 0 g1:=hJ _ _ _ (hB ▸ U1).1 h0;simp only[sz,simprocAttr,h1,ba,jl,cC];refine bH (wA (n:=n) hd (hb.tree (h':=g1.h) (Nat.le_refl _)) (by omega)) λrc hrc=>?_;simp only[sz,simprocAttr];obtain ⟨z,kz,hz⟩:=xw (d:=d) (g:=g1) (w:=rc) (cs:=S.aa n) hd (hrc.sl g1.h);simp only[sz,simprocAttr,kz];refine zq (cs:=S.aa n) (w:=z) hcs hz (by simp[sx]) (by decide) (by decide)
  (λj g'=>J j g'/\g'.h.get B=.cells 1 [[.yld id]] 0 false false/\(∃l:List Int,l.length=vars.length/\∃lo,g'.h.get (B+1)=.cells 1 (l.map ci) 0 lo false)/\g'.h.get (B+2)=.cells 1 [[.hsl (B+1) 0 0 vars.length none]] 0 false false) (λ_=>False) ?_ (λ_ _ _ h=>h) ?_ ?_ ?_ (λ_ h=>h.elim)
 ·rintro j g3 g4 hU ⟨a1,a2,a3,a4⟩;rw[n1] at hU;exact ⟨hJ _ _ _ (λi hi=>hU.1 i (by omega)) a1,by rw[hU.1 _ (by omega),a2],by rw[hU.1 _ (by omega)];exact a3,by rw[hU.1 _ (by omega),a4]⟩
 ·refine ⟨hJ1,gB,?_,gS⟩;rcases gV with ⟨h,-⟩ | ⟨id,ep,lo,-,-,h,hg⟩
  ·cases h
  ·injection h with e1 e2;subst e1;subst e2;exact ⟨_,by simp,lo,hg⟩
 ·rintro j uu g3 hj ⟨a1,a2,a3,a4⟩ hn3 hu;rw[hnc] at hj;rw[n1] at hn3 hu;simp only[sz,simprocAttr,eo];refine ⟨Fr.refl _,λg5 n5 f5 u5=>?_⟩;rw[n1] at f5 u5;obtain ⟨l,hl,lo1,a3⟩:=a3;have hin:=ea (λc hc=>(hr.cs c hc).1) (j:Int);have hvln:=mX (S.aa n) (j:Int);rw[aA] at hvln;have hu5:SlR (λi=>B+3+2<=i/\i<g3.nx) 0 g5.h (S.an (S.aa n) (j:Int)) uu:=hu.far8 λi hi=>f5 i (by omega);have gB5:g5.h.get B=.cells 1 [[.yld id]] 0 false false:=by rw[u5.1 _ (by omega),a2]
  have gV5:Own g5 B (.hsl (B+1) 0 0 vars.length none) 1 (l.map ci):=.inr ⟨B+1,0,lo1,by omega,by omega,by rw[List.length_map,hl],by rw[u5.1 _ (by omega),a3]⟩;have gS5:g5.h.get (B+2)=.cells 1 [[.hsl (B+1) 0 0 vars.length none]] 0 false false:=by rw[u5.1 _ (by omega),a4]
  have hJ5:J j g5:=hJ _ _ _ (λi hi=>u5.1 i (by omega)) a1;simp only[sz,simprocAttr,eA,h1,ba,jl,cC,lv];refine OV (B:=B) (n:=n) (vars:=vars) (m:=m) (mw:=mw) (oth:=oth) (vals:=S.an (S.aa n) (j:Int)) (l:=l) (vv:=vw) (tg:=tg) (qv:=.tptr t0 6 [[.int .i64 n.grain,b,vw,ow,ww,.int .i64 m]] 0 0) (k:=k) (uu:=uu) (j:=(j:Int))
   ⟨t0,b,vw,ow,ww,rfl,ht0,hb,hv,ho,hww⟩ (by rw[hvln];exact hp) hvl hu5 (λi hi=>by omega) (by omega) gV5 gS5 hl (by simp[St,LW,sx,h1,h2,h3]) hv (by simp[sx]) (by simp[sx]) ?_
  rintro t6 g6 ⟨h5,h4,h1,h2,h3,-⟩ n6 f6 U6 gV6;have hu6:SlR (λi=>B+3+2<=i/\i<g3.nx) 0 g6.h (S.an (S.aa n) (j:Int)) uu:=hu5.far8 λi hi=>f6 i (by omega) (by omega);simp only[sz,simprocAttr,eC,h1,ba,jl,cC,lo];refine OW (B:=B) (n:=n) (oth:=oth) (vals:=S.an (S.aa n) (j:Int)) (tg:=tg) (k:=k) (uu:=uu) (j:=(j:Int)) (t0:=t0) (b:=b) (vw:=vw) (ow:=ow) (ww:=ww) (m:=m) hr hb ho hpo hol hin hu6 (by simp[St,LW,sx,h1,h2,h3,h4,h5]) (by simp[sx]) (by simp[sx]) ?_;rintro t7 ⟨h8,h4,h1,h2,h3,-⟩;have gB6:g6.h.get B=.cells 1 [[.yld id]] 0 false false:=by rw[f6 _ (by omega) (by omega),gB5]
  have gS6:g6.h.get (B+2)=.cells 1 [[.hsl (B+1) 0 0 vars.length none]] 0 false false:=by rw[f6 _ (by omega) (by omega),gS5]
  obtain ⟨w,hw,-,-⟩:=ae (l:=mw) (j:=j) (by omega);have z1:j<(mw.map ci).length:=by rw[List.length_map];omega
  have z2:(mw.map ci)[j]?=some (ci w):=by rw[List.getElem?_map,hw];rfl
  simp only[sz,simprocAttr,sf,eB,h2,gB6,h8,h1,ba,jl,cC,rw_,h4,z1,z2,ci,h3,gS6];show (cg (I C0) d id [.agg [.int .i64 (S.bB n oth j),.int .i64 w],.hsl (B+1) 0 0 vars.length none] _).sat _ _ _;have hlp:(S.ae (S.an (S.aa n) (j:Int)) vars).length=vars.length:=by simp[S.ae]
  refine step j w (.hsl (B+1) 0 0 vars.length none) _ _ _ hj hw ?_ (hJ _ _ _ (λi hi=>by simp[U6.1 i (by omega)]) hJ5) ?_ λg8 hJ8 n8 f8=>?_
  ·simp;omega
  ·exact hB ▸ gV6.fr (by simp<;>omega) λi hi=>by simp
  simp only[sy] at n8 f8;simp only[sz,simprocAttr,sf];refine ⟨?_,?_⟩
  ·simp only[List.reverse_cons,List.reverse_nil,List.nil_append,List.cons_append];refine aV [false,false,false,false,false,false,false,false,false,false,false,true,false] [] ?_ (by decide) (by simp);have fd:∀(t:T) (g:G) (f:Od) (xs:List Od),f.get t=.yld id->(SO.foot C0 t g (.dyn f xs)).sr=[]:=λt g f xs h=>by simp only[SO.foot,h];rfl
   simp[All2,an,aD,fd,sx]
  refine ⟨by simp;omega,λi h1 h2=>?_,.inl ⟨rfl,hJ _ _ _ (λi hi=>by simp) hJ8,by rw[f8 _ (by omega) (by omega),gB6],?_,by rw[f8 _ (by omega) (by omega),gS6]⟩⟩
  ·rw[n1] at h1;simp[f8 i (by omega) (by omega),f6 i h2 (by omega)]
  ·rw[f8 _ (by omega) (by omega)];rcases gV6 with ⟨h,-⟩ | ⟨id,ep,lo,-,-,h,hg⟩
   ·cases h
   ·injection h with e1 e2;subst e1;subst e2;exact ⟨_,hlp,lo,hg⟩
 ·rintro g' ⟨a1,a2,a3,a4⟩ hn hdf;rw[hnc] at a1;rw[n1] at hn hdf;rw[hQf];show vY C0 d [] t [.mark g1.nx] g' K;refine ij (by rw[n1];exact hdf) ?_;exact fin _ (hJ _ _ _ (λi hi=>by rw[G.put_h,aw _ _ _ (by omega)]) a1) (by simp;omega)
theorem EJ:C0.ext N.aa=none:=by kernel_rfl
theorem Fj {d nt p q r k tg:Nat}{n:Net}{vars oth mw:List Int}{m:Int}{qv:AV}{ca cb:SC}{Q:QT}{t:T}{df:List ADf}{g:G}(hd:0<d)(hr:NR n)(hqv:Bk n vars oth mw m k qv)(hpv:∀x∈vars,0<=x/\x<(n.nodes.length:Int))(hvl:vars.length<=8)(hpo:∀x∈oth,0<=x/\x<(n.nodes.length:Int))(hol:oth.length<=8)(hmw:mw.length=S.am n)
  (hv:tat t r=.clo N.aa [] [.tptr tg 1 [[qv]] 0 0]) (hp:p<nt) (hq:q<nt)
  (J:Nat->G->Prop) (hJ:∀j g1 g2,(∀i,i<g.nx->g2.h.get i=g1.h.get i)->J j g1->J j g2) (h0:J 0 g)
  (step:∀(j:Nat) (w:Int) (u:AV) (g1:G),j<S.am n->mw[j]?=some w->J j g1->g.nx+2<=g1.nx->Own g1 (g.nx+2) u 1 ((S.ae (S.an (S.aa n) (j:Int)) vars).map ci) ->
   wp C0 d (some (g.nx+1)) ca (λe t1 df g1'=>e=.norm/\df=[]/\Fr g1 g1'/\∀g2:G,g2.nx=g1'.nx->(∀i,i≠g.nx+1->g2.h.get i=g1'.h.get i) ->
    wp C0 d (some (g.nx+1)) cb (λe _ df g3=>df=[]/\RowQ g.nx g2 g3 e (J (j+1) g3) False) t1 [] g2)
    (eV (eV t p (.agg [.int .i64 (S.bB n oth j),.int .i64 w])) q u) [] g1)
  (fin:∀g',J (S.am n) g'->g.nx+2<=g'.nx->g'.h.get g.nx=.dfr true->Q .norm t (.mark g.nx::df) g') :
  wp C0 d none (.rng nt (.t r) [p,q] ca cb) Q t df g:=by
 refine qz (fn:=N.aa) (first:=[]) (cap:=[.tptr tg 1 [[qv]] 0 0]) (s:=aX) hv EJ l8 (by simp[aX]) ?_;intro assign body ha hb';have e1:((g.new (.dfr true)).new (.loop nt t [p,q] assign body g.nx .ready none)).nx=g.nx+2:=by simp
 refine IB (g0:=(g.new (.dfr true)).new (.loop nt t [p,q] assign body g.nx .ready none)) (id:=g.nx+1) hd hr hqv hpv hvl hpo hol hmw
  (λj g'=>J j g'/\g'.h.get g.nx=.dfr true/\g'.h.get (g.nx+1)=.loop nt t [p,q] assign body g.nx .ready none) ?_ ?_ ?_ ?_
 ·rintro j h h' hh ⟨a1,a2,a3⟩;rw[e1] at hh;exact ⟨hJ j h h' (λi hi=>hh i (by omega)) a1,by rw[hh _ (by omega),a2],by rw[hh _ (by omega),a3]⟩
 ·rintro j w u g1 K' D hj hw hn ⟨a1,a2,a3⟩ hsl kk;rw[e1] at hn kk hsl;refine wm a3 ha hb' (t':=eV (eV t p (.agg [.int .i64 (S.bB n oth j),.int .i64 w])) q u) ?_ ?_
  ·simp only[cJ,aa,Nat.blt_eq,if_pos hp,if_pos hq];rfl
  ·refine bL _ (step j w u g1 hj hw a1 (by omega) hsl) ?_;rintro e t1 df g1' ⟨rfl,rfl,hfr,h⟩;have hl0:g.nx+1<g1.nx:=by omega
   have hl:g.nx+1<g1'.nx:=Nat.lt_of_lt_of_le hl0 hfr.1;have a2':g1'.h.get g.nx=.dfr true:=by rw[hfr.2 _ (by omega),a2]
   have a3':g1'.h.get (g.nx+1)=.loop nt t [p,q] assign body g.nx .ready none:=by rw[hfr.2 _ hl0,a3]
   refine ⟨rfl,rfl,a3',?_⟩;refine bL _ (h (g1'.put (g.nx+1) (.loop nt t [p,q] assign body g.nx .busy none)) (by simp) (λi hi=>by simp[H.get_put,hi])) ?_;rintro e t2 df g3 ⟨rfl,⟨b2,b3,b1⟩⟩;have b4:g3.h.get (g.nx+1)=.loop nt t [p,q] assign body g.nx .busy none:=by rw[b3 _ (by omega) (by simpa using hl)];simp[H.get_put]
   have b5:g3.h.get g.nx=.dfr true:=by rw[b3 _ (by omega) (by simp;omega)];simp[H.get_put,a2']
   refine ⟨rfl,b4,?_⟩;have b2':g1'.nx<=g3.nx:=by simpa using b2
   have hf1:=hfr.1;rcases b1 with ⟨rfl,b1⟩ | ⟨rfl,b1⟩
   ·refine .inl ⟨rfl,kk _ ⟨hJ _ g3 _ (λi hi=>by rw[G.put_h,aw _ _ _ (by omega)]) b1,?_,?_⟩ (by simp;omega) λi h1 h2=>?_⟩
    ·simp[H.get_put,b5]
    ·simp[H.get_put]
    ·have hne:¬i=g.nx+1:=by omega
     have:=b3 i (by omega) (by simp;omega);simp[H.get_put,hne] at this ⊢;rw[this,hfr.2 i h2]
   ·exact b1.elim
 ·refine ⟨hJ 0 g _ (λi hi=>by rw[G.new_h,aw _ _ _ (by simp;omega),G.new_h,aw _ _ _ (by omega)]) h0,?_,?_⟩
  ·simp[H.get_put]
  ·simp[H.get_put]
 ·rintro g' ⟨a1,a2,a3⟩ hn;rw[e1] at hn;refine ⟨_,_,_,_,_,_,.inl ⟨a3,fin _ (hJ _ g' _ (λi hi=>by rw[G.put_h,aw _ _ _ (by omega)]) a1) (by simpa using hn) ?_⟩⟩;simp[H.get_put,a2]
def WoV (q:AV)(t0:Nat):VS:=λP k h v=>t0<=k/\((∃id,v=.clo N.aa [] [.hptr id 0 0 0]/\P id/\h.get id=.cells 1 [[q]] 0 false false)\/∃tg,v=.clo N.aa [] [.tptr tg 1 [[q]] 0 0]/\tg<=k)
theorem Oe {q:AV}{t0 sz i off:Nat}{rows:List (List AV)}(hq:q=.tptr t0 sz rows i off):Snb (WoV q t0) 2:=by
 subst hq;refine ⟨λ{P k h v n} d r hn=>?_,λ{k h v n} r hn=>?_⟩
 ·obtain ⟨n,rfl⟩:∃q,n=q+3:=⟨n - 3,by omega⟩;obtain ⟨r0,⟨id,rfl,-,hg⟩ | ⟨tg,rfl,ht⟩⟩:=r
  ·refine ⟨.clo N.aa [] [.tptr (Nat.max d (Nat.max (Nat.max t0 0) 0)) 1 [[.tptr t0 sz rows i off]] 0 0],?_,by omega,.inr ⟨_,rfl,?_⟩⟩
   ·simp only[Hx.snap,aH,hg,show Nat.beq 0 0=true from rfl,eT,fL]
    rfl
   ·show max d (max (max t0 0) 0)<=max k d;omega
  ·exact ⟨.clo N.aa [] [.tptr tg 1 [[.tptr t0 sz rows i off]] 0 0],rfl,by omega,.inr ⟨tg,rfl,by omega⟩⟩
 ·obtain ⟨n,rfl⟩:∃q,n=q+3:=⟨n - 3,by omega⟩;obtain ⟨r0,⟨id,-,h,-⟩ | ⟨tg,rfl,ht⟩⟩:=r
  ·exact h.elim
  ·exact ⟨Nat.max tg 0,rfl,by show max tg 0<=k;omega⟩
theorem FA {d k:Nat}{g:G}{n:Net}{vars oth mw:List Int}{m:Int}{q:AV}(hd:k<d)(hq:Bk n vars oth mw m k q) :
  ∃tg,ap C0 d N.aJ [q] g=.val (.clo N.aa [] [.tptr tg 1 [[q]] 0 0]):=by
 obtain ⟨t0,b,vw,ow,ww,e0,ht,hb,hv,ho,hww⟩:=hq;have key:∃r,ap C0 d N.aJ [q] g=.val r/\WoV q t0 NoP k .nil r:=by
  rw[lT];refine aW nF (xs:=[q]) (by rw[e0];simp only[aH,s6]) (by simp[dD]) (Oe e0) (by decide) hd ?_;have hbx:∀g:G,Cx q g=.upd (.hptr g.nx 0 0 0) (g.new (.cells 1 [[q]] 0 false false)):=λg=>by rw[e0];rfl
  simp only[sz,simprocAttr,dD,gc,hbx];exact ⟨λ_=>True,ht,.inl ⟨0,rfl,trivial,by simp[H.get_put]⟩⟩
 obtain ⟨r,hr,-,⟨id,-,h,-⟩ | ⟨tg,rfl,-⟩⟩:=key
 ·exact h.elim
 ·exact ⟨tg,hr⟩
def S.cz (l:List Int)(i x:Int):List Int:=l.set i.toNat (max (l[i.toNat]?.getD 0) x)
def S.cg (n:Net)(oth:List Int):Nat:=(S.af (S.ae (S.aa n) oth)).toNat
theorem Ka {n:Net}{e vars:List Int}{kv:Nat}{r:AV}(h:NsV n e vars NoP kv .nil r):(S.aR n e vars=0/\∃p,r=.tup [p,.int .i64 0]/\Bk n vars (S.bF n vars) (S.bc n e) (S.aT n e) kv p)\/(S.aR n e vars≠0/\r=.tup [.nilp,.int .i64 (S.aR n e vars)]):=by
 unfold NsV at h
 split at h
 ·rename_i c;obtain ⟨p,q,rfl,h1,h2⟩:=h;have h2:=aF.1 h2;injection h2 with h2;exact .inl ⟨c,p,by rw[h2],Mr h1⟩
 ·rename_i c;obtain ⟨p,q,rfl,h1,h2⟩:=h;have h2:=aF.1 h2;injection h2 with h2;have h1:p=.nilp:=h1;exact .inr ⟨c,by rw[h2,h1]⟩
theorem D6 {n:Net}{e vars:List Int}:S.aR n e vars=0↔(NR n/\S.aI n e=true)/\S.aw vars (n.nodes.length:Int)=true:=by
 unfold S.aR
 split
 ·rename_i c;rw[iH,dw] at c;cases S.aw vars (n.nodes.length:Int)<;>simp[c]
 ·rename_i c;constructor
  ·intro h;exact absurd h c
  ·rintro ⟨⟨h1,h2⟩,-⟩;exact absurd (iH.2 ⟨dw.2 h1,h2⟩) c
theorem NU {n:Net}{vars:List Int}:∀x∈S.bF n vars,0<=x/\x<(n.nodes.length:Int):=by intro x hx;have h:=(List.mem_filter.1 hx).1;obtain ⟨i,hi,rfl⟩:=List.mem_map.1 h;have:=List.mem_range.1 hi;omega
theorem L9 {n:Net}{e:List Int}{w:Nat}(h:w<S.am n):(S.bc n e)[w]?=some (if S.pe n e w then S.wt n w else 0):=by simp only[S.bc,S.aG,List.getElem?_map,List.getElem?_range h,Option.map_some,S.bM];cases c:S.pe n e w<;>simp[h,c]
def Sl1 (v:AV):Prop:=∀t s rows,v=.tsl t s rows->s=1
theorem KR {P:Nat->Prop}{k d n:Nat}{h:H}{l:List Int}{v v':AV}(r:SlR P k h l v)(h1:Sl1 v)(e:Hx.snap h d (n+1) v=some v'):Sl1 v':=by
 have r:=r.2;unfold SlV at r
 split at r
 ·injection e with e;subst e;exact λ_ _ _ h=>by cases h
 ·injection e with e;subst e;exact λ_ _ _ h=>by cases h
 ·injection e with e;subst e;exact h1
 ·rename_i id ep off len lim;obtain ⟨-,rows,q2,-⟩:=r;simp only[ah] at q2;simp only[Hx.snap] at e
  split at q2
  ·rename_i sz' rows' ep' lo fz hg;rw[hg] at e;rw[aa] at q2
   split at q2
   ·rename_i hc;simp only[Bool.and_eq_true] at hc;obtain ⟨⟨hc1,hc2⟩,hc3⟩:=hc;have e1:=Nat.eq_of_beq_eq_true hc2;dsimp only at e;rw[aa] at e
    split at e
    ·split at e
     ·split at e
      ·injection e with e;subst e;intro t s rows h;injection h with a1 a2 a3;have:Rp.sz Int=1:=rfl;omega
      ·cases e
     ·cases e
    ·cases e
   ·cases q2
  ·cases q2
 ·exact r.elim
def Ox (l:List Int):VS:=λP k h v=>SlR P k h l v/\Sl1 v
theorem KU (l:List Int):Snb (Ox l) 0:=by
 refine ⟨λ{P k h v n} d r hn=>?_,λ{k h v n} r hn=>?_⟩
 ·obtain ⟨r,r1⟩:=r;obtain ⟨v',e,r'⟩:=(aR l).snap d (show One l P k h v from ⟨v,rfl,r⟩) hn;obtain ⟨n,rfl⟩:∃q,n=q+1:=⟨n - 1,by omega⟩;obtain ⟨w,hw,q⟩:=r';injection hw with hw;subst hw;exact ⟨v',e,q,KR r r1 e⟩
 ·exact (aR l).tag (show One l NoP k h v from ⟨v,rfl,r.1⟩) hn
theorem Me {n:Net}(hr:NR n){oth:List Int}(hpo:∀x∈oth,0<=x/\x<(n.nodes.length:Int))(j:Nat):0<=S.bB n oth j/\S.bB n oth j<(S.cg n oth:Int):=by have hpb:=aM (ps:=oth) hr.cs (λp hpm=>by rw[aA];exact hpo p hpm);have hin:=ea (λc hc=>(hr.cs c hc).1) (j:Int);have hf:=bE hpb (dx hin (λp hpm=>by rw[aA];exact hpo p hpm));have h1:=(bB hpb).1;unfold S.cg;unfold S.bB;omega
theorem y7 {cs vs:List Int}(hin:InC cs vs)(hc:∀c∈cs,1<=c):∀k,k<=vs.length->(∀(j:Nat) (c:Int),k<=j->cs[j]?=some c->vs[j]?.getD 0=c - 1) ->
  ((S.bN cs (vs.take k++List.replicate (vs.length - k) 0) k).2=true/\InC cs (S.bN cs (vs.take k++List.replicate (vs.length - k) 0) k).1/\S.ah cs (S.bN cs (vs.take k++List.replicate (vs.length - k) 0) k).1=S.ah cs vs+1) \/
  ((S.bN cs (vs.take k++List.replicate (vs.length - k) 0) k).2=false/\S.ah cs vs=S.af cs - 1)
 | 0,_,h=>.inr ⟨rfl,uK hin.len.symm λi c hi=>h i c (Nat.zero_le _) hi⟩
 | k+1,hk,h=>by
  have hl:=hin.len;obtain ⟨c,hck,-,hcm⟩:=ae (l:=cs) (j:=k) (by omega);obtain ⟨x,hx,hx0,hx1⟩:=hin.get hck;have hg:(vs.take (k+1)++List.replicate (vs.length - (k+1)) 0)[k]?=some x:=by rw[List.getElem?_append_left (by simp;omega),List.getElem?_take_of_lt (by omega),hx]
  rw[S.bN,hg,hck,Option.getD_some,Option.getD_some]
  by_cases q:x+1<c
  ·rw[if_pos q,qs (by omega)];exact .inl ⟨rfl,y8 hin hc hx hck (by omega),yN hl.symm hx λj c' hj hc'=>h j c' (by omega) hc'⟩
  ·rw[if_neg q,qt (by omega)];refine y7 hin hc k (by omega) λj c' hj hc'=>?_
   by_cases e:j=k
   ·subst e;rw[hck] at hc';injection hc' with hc';rw[hx,Option.getD_some];omega
   ·exact h j c' (by omega) hc'
theorem H5 {cs vs:List Int}(hin:InC cs vs)(hc:∀c∈cs,1<=c):((S.bT cs vs).2=true/\InC cs (S.bT cs vs).1/\S.ah cs (S.bT cs vs).1=S.ah cs vs+1)\/((S.bT cs vs).2=false/\S.ah cs vs=S.af cs - 1):=by
 have:=y7 hin hc vs.length (Nat.le_refl _) λj c hj hcj=>by have:=(List.getElem?_eq_some_iff.1 hcj).1;have:=hin.len;omega
 rwa [List.take_length,Nat.sub_self,List.replicate_zero,List.append_nil] at this
theorem yO {cs:List Int}(hcs:CsOk cs):∀j:Nat,j<S.nc cs->S.ah cs (S.an cs (j:Int))=(j:Int)
 | 0,_=>by have hc1:=λc hc=>(hcs.b c hc).1;have:=qy hc1 (zJ hc1);rw[pA] at this;rw[show ((0:Nat):Int)=0 from rfl,this,pA]
 | j+1,h=>by
  have hc1:=λc hc=>(hcs.b c hc).1;have ih:=yO hcs j (by omega);obtain ⟨N1,N2,N3⟩:=hcs.nc;rcases H5 (ea hc1 (j:Int)) hc1 with ⟨q1,q2,q3⟩ | ⟨q1,q2⟩
  ·have:=qy hc1 q2;rw[q3,ih] at this;rw[show ((j+1:Nat):Int)=(j:Int)+1 from rfl,this,q3,ih]
  ·omega
abbrev tI2:Nat:=142
def Of (pm:List Nat)(ws:List (Bool×Bool)):Bool:=(List.range ws.length).all λj=>(List.range j).all λi=>!(ws.getD i (false,false)).2 || !(ws.getD j (false,false)).1 || (pm.getD j 0).testBit i
theorem wS {pm:List Nat}{i:Nat}{x:Foot}:∀{r:List Foot} {j:Nat},(∀b y,r[b]?=some y->y.wr=[]\/(pm.getD (j+b) 0).testBit i=true)->cq pm i x j r=0
 | [],_,_=>rfl
 | y::r,j,h=>by
  have h0:=h 0 y rfl;have ih:cq pm i x (Nat.succ j) r=0:=wS λb z hz=>by have:=h (b+1) z (by simpa using hz);rwa [show j+(b+1)=Nat.succ j+b by omega] at this
  have hc:((pm.getD j 0).testBit i || !meets y.wr (fst1 x.lk.sr))=true:=by
   rcases h0 with h0 | h0
   ·rw[h0];simp[meets]
   ·rw[Nat.add_zero] at h0;rw[h0,Bool.true_or]
  rw[cq,aa,if_pos hc,ih]
theorem Bb {pm:List Nat}:∀{l:List Foot} {i:Nat},(∀a x,l[a]?=some x->x.lk.sr=[]\/∀b y,a<b->l[b]?=some y->y.wr=[]\/(pm.getD (i+b) 0).testBit (i+a)=true)->kG pm i l=true
 | [],_,_=>rfl
 | x::r,i,h=>by
  have ih:kG pm (Nat.succ i) r=true:=Bb λa y hy=>by
   rcases h (a+1) y (by simpa using hy) with h' | h'
   ·exact .inl h'
   ·refine .inr λb z hb hz=>?_;have:=h' (b+1) z (by omega) (by simpa using hz);rwa [show i+(b+1)=Nat.succ i+b by omega,show i+(a+1)=Nat.succ i+a by omega] at this
  rw[kG,ih];rcases h 0 x rfl with h' | h'
  ·rw[h'];first | done | rfl
  ·have hc:cq pm i x (Nat.succ i) r=0:=wS λb y hy=>by have:=h' (b+1) y (by omega) (by simpa using hy);rwa [show i+(b+1)=Nat.succ i+b by omega,Nat.add_zero] at this
   rw[hc];cases x.lk.sr<;>rfl
theorem C2 {pm:List Nat}{fs:List Foot}(ws:List (Bool×Bool))(L:List (Nat×Nat))(hw:All2 (λ(f:Foot) (w:Bool×Bool)=>(w.2=false->f.lk.sr=[])/\(w.1=false->f.wr=[])) fs ws)(hs:Of pm ws=true)(hd:GN pm (ws.map (·.1)) L=true)
  (hL:∀p∈L,∀x y,fs[p.1]?=some x->fs[p.2]?=some y->bz x y=true):lA pm fs=true:=by
 unfold lA;rw[aa,if_pos]
 ·refine Bb λa x ha=>?_;obtain ⟨wa,hwa,ka⟩:=hw.get ha;cases e:wa.2 with
  | false=>exact .inl (ka.1 e)
  | true =>
   refine .inr λb y hab hb=>?_;obtain ⟨wb,hwb,kb⟩:=hw.get hb;have hbl:=(List.getElem?_eq_some_iff.1 hwb).1;have:=List.all_eq_true.1 (List.all_eq_true.1 hs b (List.mem_range.2 hbl)) a (List.mem_range.2 hab);simp only[List.getD_eq_getElem?_getD,hwa,hwb,Option.getD_some,e,Bool.not_true,Bool.false_or,Bool.or_eq_true,Bool.not_eq_true'] at this;rcases this with h | h
   ·exact .inl (kb.2 h)
   ·refine .inr ?_;rw[Nat.zero_add,Nat.zero_add,List.getD_eq_getElem?_getD];exact h
 ·refine q_ λa b x y hab ha hb=>?_;simp only[Nat.zero_add];obtain ⟨wa,hwa,ka⟩:=hw.get ha;obtain ⟨wb,hwb,kb⟩:=hw.get hb;have hbl:=(List.getElem?_eq_some_iff.1 hwb).1;have:=List.all_eq_true.1 (List.all_eq_true.1 hd b (List.mem_range.2 (by simpa using hbl))) a (List.mem_range.2 hab);simp only[Fb,Bool.or_eq_true] at this;rcases this with (h | h) | h
  ·rw[h,Bool.true_or]
  ·simp only[List.getD_eq_getElem?_getD,List.getElem?_map,hwa,hwb,Option.map_some,Option.getD_some,Bool.and_eq_true,Bool.not_eq_true'] at h;have ex:=ka.2 h.1;have ey:=kb.2 h.2;simp only[bz,gK,eF,ex,ey,Bool.and_self,Bool.or_true]
  ·rw[hL (a,b) (List.contains_iff_mem.1 h) x y ha hb,Bool.or_true]
section
variable {α:Type} [DecidableEq α]
def mgt (L:List (α×Int))(k:α):Int:=match L with
 | []=>0
 | (a,v)::r=>if k=a then v else mgt r k
def mst (k:α)(v:Int):List (α×Int)->List (α×Int)
 | []=>[(k,v)]
 | (a,w)::r=>if k=a then (k,v)::r else (a,w)::mst k v r
theorem GE (k j:α)(v:Int):∀L:List (α×Int),mgt (mst k v L) j=if j=k then v else mgt L j
 | []=>by simp only[mst,mgt]
 | (a,w)::r=>by
  rw[mst]
  by_cases e:k=a
  ·subst e;rw[if_pos rfl,mgt,mgt]
   by_cases e2:j=k
   ·rw[if_pos e2,if_pos e2]
   ·rw[if_neg e2,if_neg e2,if_neg e2]
  ·rw[if_neg e,mgt,GE k j v r,mgt]
   by_cases e2:j=a
   ·rw[if_pos e2,if_pos e2,if_neg (λh=>e (by rw[<-h,e2]))]
   ·rw[if_neg e2,if_neg e2]
def mcl (kf:α->AV)(L:List (α×Int)):List (AV×AV):=L.map λp=>(kf p.1,.int .i64 p.2)
theorem Gg {kf:α->AV}(hk:∀a b,jC (kf a) (kf b)=some (decide (a=b)))(k:α):∀L:List (α×Int),li (kf k) (mcl kf L)=some (if L.any (λp=>decide (k=p.1)) then some (.int .i64 (mgt L k)) else none)
 | []=>rfl
 | (a,w)::r=>by
  rw[mcl,List.map_cons,li,hk]
  by_cases e:k=a
  ·subst e;simp[mgt]
  ·have ih:=Gg hk k r;rw[mcl] at ih;simp only[decide_eq_false e];rw[ih,List.any_cons,mgt,if_neg e,decide_eq_false e,Bool.false_or]
theorem Dl (k:α):∀L:List (α×Int),L.any (λp=>decide (k=p.1))=false->mgt L k=0
 | [],_=>rfl
 | (a,w)::r,h=>by rw[List.any_cons,Bool.or_eq_false_iff] at h;rw[mgt,if_neg (of_decide_eq_false h.1),Dl k r h.2]
theorem KM {kf:α->AV}(hk:∀a b,jC (kf a) (kf b)=some (decide (a=b)))(k:α)(x:Int):∀L:List (α×Int),D7 (kf k) (.int .i64 x) (mcl kf L)=some (mcl kf (mst k x L))
 | []=>rfl
 | (a,w)::r=>by
  rw[mcl,List.map_cons,D7,hk,mst]
  by_cases e:k=a
  ·subst e;simp[mcl]
  ·have ih:=KM hk k x r;rw[mcl] at ih;simp only[decide_eq_false e,if_neg e,ih]
   rfl
theorem JZ {kf:α->AV}(hk:∀a b,jC (kf a) (kf b)=some (decide (a=b))){kk:KeyKind}{m k:T->AV}{t:T}{g:G}{id:Nat}{a:α}{L:List (α×Int)}(h1:m t=.hmap id)(h2:k t=kf a)(ho:lj kk (kf a)=true)(hg:g.h.get id=.map (mcl kf L)) :
  bW kk (.int .i64 0) false m k t g=.val (.int .i64 (mgt L a)):=by
 unfold bW;rw[h1,h2,ho];simp only[G.get_eq,hg,Gg hk];cases h:L.any (λp=>decide (a=p.1)) with
 | true=>simp
 | false=>simp[Dl a L h]
theorem K9 {kf:α->AV}(hk:∀a b,jC (kf a) (kf b)=some (decide (a=b))){kk:KeyKind}{m k x:T->AV}{t:T}{g:G}{id:Nat}{a:α}{v:Int}{L:List (α×Int)}(h1:m t=.hmap id)(h2:k t=kf a)(h3:x t=.int .i64 v)(ho:lj kk (kf a)=true)(hg:g.h.get id=.map (mcl kf L)) :
  bU kk m k x t g=.upd .undef (g.put id (.map (mcl kf (mst a v L)))):=by
 unfold bU;rw[h1,h2,h3,ho];simp only[G.get_eq,hg,KM hk]
end
def ik (a:Int):AV:=.int .i64 a
theorem M7 (a b:Int):jC (ik a) (ik b)=some (decide (a=b)):=by show some (C_ a b)=_;rw[qa]
theorem Kr (d:Nat)(rd:Option Nat)(t:T)(g:G):(SO.raw (.makeMap tI2 none)).run C0 d rd t g=.upd (.hmap g.nx) (g.new (.map [])):=by kernel_rfl
theorem Fp {d:Nat}{rd:Option Nat}{t:T}{g:G}{a b id:Nat}{k:Int}{L:List (Int×Int)}{op:Op}(hr:(SO.raw op).run C0 d rd t g=bW (.one (.int .i64)) (.int .i64 0) false (λt=>tat t a) (λt=>tat t b) t g)(h1:tat t a=.hmap id)(h2:tat t b=.int .i64 k)(hg:g.h.get id=.map (mcl ik L)):(SO.raw op).run C0 d rd t g=.val (.int .i64 (mgt L k)):=by rw[hr];exact JZ M7 h1 h2 rfl hg
theorem Fq {d:Nat}{rd:Option Nat}{t:T}{g:G}{a b c id:Nat}{k x:Int}{L:List (Int×Int)}{op:Op}(hr:(SO.raw op).run C0 d rd t g=bU (.one (.int .i64)) (λt=>tat t a) (λt=>tat t b) (λt=>tat t c) t g)(h1:tat t a=.hmap id)(h2:tat t b=.int .i64 k)(h3:tat t c=.int .i64 x)(hg:g.h.get id=.map (mcl ik L)):(SO.raw op).run C0 d rd t g=.upd .undef (g.put id (.map (mcl ik (mst k x L)))):=by rw[hr];exact K9 M7 h1 h2 h3 rfl hg
theorem Fg {C:Cfg}{ty kt et a b:Nat}{z:AV}{ok:Bool}(hu:C.P.underlying ty=some (.map kt et))(hz:tF C.P et=some z)(d:Nat)(rd:Option Nat)(t:T)(g:G):(SO.raw (.lookup ty (.tmp a) (.tmp b) ok)).run C d rd t g=bW (cR C.P kt) z ok (λt=>tat t a) (λt=>tat t b) t g:=by obtain ⟨s1,e1,r1⟩:=bc (C:=C) (x:=.tmp a) (o:=.t a) rfl;obtain ⟨s2,e2,r2⟩:=bc (C:=C) (x:=.tmp b) (o:=.t b) rfl;show (bY C _).run (I C) d rd t g=_;rw[bI (s:=⟨bW (cR C.P kt) z ok s1.run s2.run⟩) rfl (by simp only[bZ,e1,e2,hu,hz])];rw[show s1.run=λt=>tat t a from funext r1,show s2.run=λt=>tat t b from funext r2]
theorem Fh {C:Cfg}{ty kt et a b c:Nat}(hu:C.P.underlying ty=some (.map kt et))(d:Nat)(rd:Option Nat)(t:T)(g:G):(SO.raw (.mapUpdate ty (.tmp a) (.tmp b) (.tmp c))).run C d rd t g=bU (cR C.P kt) (λt=>tat t a) (λt=>tat t b) (λt=>tat t c) t g:=by obtain ⟨s1,e1,r1⟩:=bc (C:=C) (x:=.tmp a) (o:=.t a) rfl;obtain ⟨s2,e2,r2⟩:=bc (C:=C) (x:=.tmp b) (o:=.t b) rfl;obtain ⟨s3,e3,r3⟩:=bc (C:=C) (x:=.tmp c) (o:=.t c) rfl;show (bY C _).run (I C) d rd t g=_;rw[bI (s:=⟨bU (cR C.P kt) s1.run s2.run s3.run⟩) rfl (by simp only[bZ,e1,e2,e3,hu])];rw[show s1.run=λt=>tat t a from funext r1,show s2.run=λt=>tat t b from funext r2,show s3.run=λt=>tat t c from funext r3]
theorem HR {C:Cfg}{ty a b:Nat}(t:T)(g:G):SO.foot C t g (.raw (.lookup ty (.tmp a) (.tmp b) false))=⟨[],(ak (tat t a)).map (·,ty),[],false⟩:=by
 obtain ⟨s1,e1,r1⟩:=bc (C:=C) (x:=.tmp a) (o:=.t a) rfl;show (aL C _).run t g=_;simp only[aL,e1,r1]
 rfl
theorem HT {C:Cfg}{ty a b c:Nat}(t:T)(g:G):SO.foot C t g (.raw (.mapUpdate ty (.tmp a) (.tmp b) (.tmp c)))=an (ak (tat t a)):=by
 obtain ⟨s1,e1,r1⟩:=bc (C:=C) (x:=.tmp a) (o:=.t a) rfl;show (aL C _).run t g=_;simp only[aL,e1,r1]
 rfl
theorem JV:cR C0.P 3=.one (.int .i64):=by kernel_rfl
theorem K6:C0.P.underlying tI2=some (.map 3 3):=by kernel_rfl
theorem OX:tF C0.P 3=some (.int .i64 0):=by kernel_rfl
theorem GC {d:Nat}{rd:Option Nat}{t:T}{g:G}{a b id:Nat}{k:Int}{L:List (Int×Int)}(h1:tat t a=.hmap id)(h2:tat t b=.int .i64 k)(hg:g.h.get id=.map (mcl ik L)):(SO.raw (.lookup tI2 (.tmp a) (.tmp b) false)).run C0 d rd t g=.val (.int .i64 (mgt L k)) :=
 Fp (by rw[Fg K6 OX,JV]) h1 h2 hg
theorem Oo {d:Nat}{rd:Option Nat}{t:T}{g:G}{a b c id:Nat}{k x:Int}{L:List (Int×Int)}(h1:tat t a=.hmap id)(h2:tat t b=.int .i64 k)(h3:tat t c=.int .i64 x)(hg:g.h.get id=.map (mcl ik L)):(SO.raw (.mapUpdate tI2 (.tmp a) (.tmp b) (.tmp c))).run C0 d rd t g=.upd .undef (g.put id (.map (mcl ik (mst k x L)))) :=
 Fq (by rw[Fh K6,JV]) h1 h2 h3 hg
end
end Hx
end
section
namespace Hx
open Go
noncomputable section
def S.aW (s j:Nat):List Int:=((List.range j).filter λv=>s.testBit v).map λv:Nat=>(v:Int)
theorem tH (s j:Nat):S.aW s (j+1)=S.aW s j++if s.testBit j then [(j:Int)] else []:=by rw[S.aW,List.range_succ,List.filter_append,List.map_append];congr 1;cases hb:s.testBit j<;>simp[List.filter,hb]
theorem IM {s j:Nat}:∀y∈S.aW s j,0<=y/\y<j:=λy hy=>by obtain ⟨v,hv,rfl⟩:=List.mem_map.1 hy;have:=List.mem_range.1 (List.mem_filter.1 hv).1;omega
def S.aL (n:Net)(vals:List Int)(s j:Nat):Int:=S.ah (S.ae (S.aa n) (S.aW s j)) (S.ae vals (S.aW s j))
theorem H6 {n:Net}{vals:List Int}{s j:Nat}:S.aL n vals s (j+1)=if s.testBit j then S.aL n vals s j*((S.aa n)[j]?.getD 0)+vals[j]?.getD 0 else S.aL n vals s j:=by
 rw[S.aL,tH,cy,cy,sS _ _ (by simp[d9])];cases s.testBit j with
 | true=>simp[S.ae,S.ah,S.af,S.aL]
 | false=>simp[S.ae,S.ah,S.af,S.aL]
theorem Aq (s:Nat):∀j,(S.aW s j).length<=j
 | 0=>by simp[S.aW]
 | j+1=>by
  have:=Aq s j;rw[tH,List.length_append]
  split<;>simp<;>omega
theorem zc {n:Net}(h:NR n){vals:List Int}(hv:InC (S.aa n) vals){s j:Nat}(hj:j<=n.nodes.length):0<=S.aL n vals s j/\S.aL n vals s j<65536:=by
 have hin:∀p∈S.aW s j,0<=p/\p<(S.aa n).length:=λp hp=>by have:=IM p hp;rw[aA];omega
 have h1:=bE (aM h.cs hin) (dx hv hin);have h2:=bB (l:=S.ae (S.aa n) (S.aW s j)) (aM h.cs hin);have h3:=cZ (a:=(S.ae (S.aa n) (S.aW s j)).length) (b:=8) (by rw[d9];have:=Aq s j;have:=h.l2;omega);have h4:(4:Int) ^ 8=65536:=by decide
 unfold S.aL;omega
theorem OA {s v:Nat}:decide (((s / 2 ^ v &&& 1:Nat):Int)=1)=s.testBit v:=by rw[Nat.and_one_is_mod,Nat.testBit_eq_decide_div_mod_eq];rw[Bool.eq_iff_iff,decide_eq_true_iff,decide_eq_true_iff];omega
theorem H7 {d kk s:Nat}{P:Nat->Prop}{g:G}{v w:AV}{n:Net}{y:QnM}{vals:List Int}(hd:0<d)(hr:NR n)(hm:Agg y NoP 0 g.h v)(hq:QnOk n y)(hv:SlR P kk g.h vals w)(hc:InC (S.aa n) vals)(hs:s<18446744073709551616) :
  ap C0 d N.ax [v,w,.int .u64 (s:Int)] g=.val (.int .i64 (S.aL n vals s n.nodes.length)):=by
 have e0:=j7 d hm;obtain ⟨cs,rfl,hcs⟩:=hm;obtain ⟨b,fl,S_,rfl,hN,hfl,hS⟩:=tE.1 hcs;have hN:SlR NoP 0 .nil y.1.nodes b:=hN.tree (Nat.le_refl 0);rw[hq.net] at hN;obtain ⟨w',e2,hw'⟩:=bG hv d;have hgr:y.1.grain=n.grain:=by rw[hq.net]
 obtain ⟨rows,r1,r2,r3,r4⟩:=hN.all;have r1:∀h',ah h' 3 b=some rows:=r1;have rv:=λh=>(hw' h).ints;have lv:∀g:G,dv .slice w' g=.val (.int .i64 (vals.length:Int)):=λg=>by rw[fW (rv g.h),List.length_map]
 have hvl:=hc.len;rw[aA] at hvl;have hl8:=hr.l2;rw[lU];refine jZ nG (xs:=[.agg [.int .i64 y.1.grain,b,fl,S_],w',.int .u64 (s:Int)]) (by simp only[aH,e0,e2,dy]) (by simp[dF]) hd ?_;rw[hgr];simp only[sz,simprocAttr,dF,ge,lv];simp only[e_,fc];refine aK (m:=n.nodes.length) (by omega) (λk t df g=>df=[]/\St t [(2,.int .u64 (s:Int)),(3,.hptr 0 0 0 0),(10,w'),(7,.int .i64 (S.aL n vals s k))]/\g.h.get 0=.cells 4 [[.int .i64 n.grain,b,fl,S_]] 0 false false) ⟨rfl,by simp[St,sx,S.aL,S.aW,S.ae,S.ah],by simp[sx]⟩ (by simp[sx]) (by simp[sx,hvl]) (by decide)
  (by rintro j t df g v s' (rfl | rfl | rfl) ⟨a1,⟨b1,b2,b3,b4,-⟩,c1⟩<;>exact ⟨a1,by simp[St,sx,b1,b2,b3,b4],c1⟩) ?_ ?_
 ·rintro k t df g hk ⟨rfl,⟨h2,h3,h10,h7,-⟩,g0⟩ h12 h11;obtain ⟨x,hx,-,-⟩:=ae hk;obtain ⟨row,q1,q2⟩:=r3 k x hx;obtain ⟨fa,fb,rfl,-⟩:=cp.1 q2;have hlt:k<rows.length:=by omega
  have hry:=r4 (by omega);have u1:k<(vals.map ci).length:=by simp;omega
  have u2:(vals.map ci)[k]?=some (ci (vals[k]?.getD 0)):=by rw[List.getElem?_map,List.getElem?_eq_getElem (by omega)];rfl
  have h2n:s / 2 ^ k<18446744073709551616:=Nat.lt_of_le_of_lt (Nat.div_le_self _ _) hs;have ha:cE .and (.int .u64 ((s / 2 ^ k:Nat):Int)) (.int .u64 1)=.val (.int .u64 ((s / 2 ^ k &&& 1:Nat):Int)):=FS (s / 2 ^ k) 1 h2n (by decide);have hn:=H6 (n:=n) (vals:=vals) (s:=s) (j:=k);have hcx:(S.aa n)[k]?.getD 0=x.card:=by simp[S.aa,hx]
  rw[hcx] at hn;have hb0:=zc hr hc (s:=s) (j:=k) (by omega);have hb1:=zc hr hc (s:=s) (j:=k+1) (by omega);have hcard:=hr.card x (List.mem_of_getElem? hx);simp only[sz,simprocAttr,h2,h10,h12,rv,u1,u2,ci,Br _ _ _ hs,ha,OA];cases hbt:s.testBit k with
  | true =>
   rw[hbt,if_pos rfl] at hn;have hp:0<=S.aL n vals s k*x.card/\S.aL n vals s k*x.card<=65536*4:=⟨Int.mul_nonneg hb0.1 (by omega),Int.mul_le_mul (by omega) hcard.2 (by omega) (by omega)⟩;have w1:IntKind.wrap .i64 (S.aL n vals s k*x.card)=S.aL n vals s k*x.card:=aq (by omega) (by omega);have w2:IntKind.wrap .i64 (S.aL n vals s k*x.card+vals[k]?.getD 0)=S.aL n vals s (k+1):=by rw[<-hn,aq (by omega) (by omega)]
   simp only[sz,simprocAttr,h3,h7,g0,r1,hlt,q1,hry,w1,w2];exact ⟨by simp[St,sx,h2,h3,h10],h12,h11⟩
  | false =>
   rw[hbt,if_neg (by simp)] at hn;simp only[sx,sy,↓reduceIte,Nat.reduceEqDiff];exact ⟨⟨by simp[St,sx,h2,h3,h10,h7,hn],g0⟩,h12,h11⟩
 ·rintro t df g ⟨rfl,⟨h2,h3,h10,h7,-⟩,g0⟩;simp only[sz,simprocAttr,fe,h7]
structure BeJ (g0:G) (w m b:Int) (h:H):Prop where
 fr:∀i,i<g0.nx->i≠1->i≠5->i≠6->h.get i=g0.h.get i
 h1:h.get 1=.cells 1 [[.int .i64 w]] 0 false false
 h5:h.get 5=.cells 1 [[.int .i64 m]] 0 false false
 h6:h.get 6=.cells 1 [[.int .i64 b]] 0 false false
theorem AJ:∀{l:List Int} (k:Int),l.Pairwise (·<·)->(l.filter λx=>decide (x<k+1))=(l.filter λx=>decide (x<k))++if k∈l then [k] else []
 | [],k,_=>by simp
 | a::t,k,h=>by
  obtain ⟨h1,h2⟩:=List.pairwise_cons.1 h;have ih:=AJ k h2;rcases Int.lt_trichotomy a k with hc | hc | hc
  ·rw[List.filter_cons_of_pos (by simpa using (by omega:a<k+1)),List.filter_cons_of_pos (by simpa using hc),ih,List.cons_append];have:(k∈a::t)↔k∈t:=by simp;omega
   simp only[this]
  ·subst hc;have e1:(t.filter λx=>decide (x<a+1))=[]:=List.filter_eq_nil_iff.2 λx hx=>by have:=h1 x hx;simp;omega
   have e2:(t.filter λx=>decide (x<a))=[]:=List.filter_eq_nil_iff.2 λx hx=>by have:=h1 x hx;simp;omega
   rw[List.filter_cons_of_pos (by simp;omega),List.filter_cons_of_neg (by simp),e1,e2];simp
  ·have e1:(t.filter λx=>decide (x<k+1))=[]:=List.filter_eq_nil_iff.2 λx hx=>by have:=h1 x hx;simp;omega
   have e2:(t.filter λx=>decide (x<k))=[]:=List.filter_eq_nil_iff.2 λx hx=>by have:=h1 x hx;simp;omega
   rw[List.filter_cons_of_neg (by simp;omega),List.filter_cons_of_neg (by simp;omega),e1,e2,if_neg]
   ·rfl
   ·intro hm;rcases List.mem_cons.1 hm with h | h
    ·omega
    ·have:=h1 k h;omega
theorem Id {l:List Int}{k:Int}(h:S.aw l k=true):l.Pairwise (·<·):=by rw[List.pairwise_iff_getElem];intro i j hi hj hij;exact A0 h (List.getElem?_eq_getElem hi) (List.getElem?_eq_getElem hj) hij
theorem Et {l:List Int}{k:Nat}(h:S.aw l k=true)(hk:k<=64):S.aW (S.ap l) k=l:=by
 have hin:=bm h;have hb:∀v,(S.ap l).testBit v=true↔(v:Int)∈l:=λv=>by rw[uO λy hy=>by have:=hin y hy;omega]
 have key:∀j:Nat,j<=k->S.aW (S.ap l) j=l.filter λx=>decide (x<(j:Int)):=by
  intro j
  induction j with
  | zero=>intro _;rw[List.filter_eq_nil_iff.2 λx hx=>by have:=hin x hx;simp;omega];rfl
  | succ j ih =>
   intro hj;rw[tH,ih (by omega),show ((j+1:Nat):Int)=(j:Int)+1 by omega,AJ _ (Id h)];congr 1
   by_cases hm:(j:Int)∈l
   ·rw[if_pos hm,if_pos ((hb j).2 hm)]
   ·rw[if_neg hm,if_neg λh'=>hm ((hb j).1 h')]
 rw[key k (Nat.le_refl _),List.filter_eq_self];intro x hx;have:=hin x hx;simp;omega
theorem DH {l:List Int}{k:Int}(h:S.aw l k=true){i:Nat}{p:Int}(hp:l[i]?=some p):dT l i<p/\p<k:=by
 have h1:=bm h p (List.mem_of_getElem? hp);refine ⟨?_,h1.2⟩;unfold dT
 split
 ·omega
 ·rename_i e;have hil:=(List.getElem?_eq_some_iff.1 hp).1;have hq:l[i - 1]?=some l[i - 1]:=List.getElem?_eq_getElem (by omega);rw[hq,Option.getD_some];exact qj h hq (by rw[show i - 1+1=i by omega];exact hp)
def LT0 (w z:AV):List (Nat×AV):=[(1,w),(2,z),(3,.hptr 0 0 0 0),(6,.hptr 1 0 0 0),(7,.int .i64 0),(8,.hptr 3 0 0 0),(11,.hptr 4 0 0 0)]
structure TbA (g0:G) (vars:List Int) (K:Int) (w z:AV) (j:Nat) (t:T) (g:G):Prop where
 st:St t (LT0 w z)
 h10:tat t 10=.int .i64 (dT vars j)
 h32:tat t 32=z
 pl:PlI vars K K.toNat j
 nx:g0.nx<=g.nx
 fr:∀i,i<g0.nx->i≠4->g.h.get i=g0.h.get i
 h4:g.h.get 4=.cells 1 [[.int .u64 (S.ap (vars.take j):Int)]] 0 false false
theorem Oj {d kz:Nat}{n:Net}{gr:Int}{vars:List Int}{b fl S_ w z:AV}{Q:QT}{t:T}{g g0:G}(hn:n.nodes.length<=8)(hN:SlR NoP 0 .nil n.nodes b)(hz:SlR NoP kz .nil vars z)(h4:5<=g0.nx)
  (k3:g0.h.get 3=.cells 4 [[.int .i64 gr,b,fl,S_]] 0 false false) (k1:g0.h.get 1=.cells 3 [[.nils,.nils,.nils]] 0 false false)
  (h0:TbA g0 vars n.nodes.length w z 0 t g) (h33:tat t 33=.int .i64 (vars.length:Int)) (h34:tat t 34=.int .i64 0)
  (bad:∀t g,S.aw vars n.nodes.length=false->tat t 6=.hptr 1 0 0 0->tat t 7=.int .i64 2->g.h.get 1=.cells 3 [[.nils,.nils,.nils]] 0 false false->Q .ret t [] g)
  (fin:∀t g,S.aw vars n.nodes.length=true->TbA g0 vars n.nodes.length w z vars.length t g->Q (.exit 0) t [] g):wpL (wp C0 d none jI) Q t [] g:=by
 have rz:=λh=>(hz.tree (h':=h) (Nat.le_refl _):SlR NoP kz h vars z).ints;have hvl:=hz.1;have lb:=hN.len;have hbd:vD [.nils,.nils,.nils] [] []=.val (.agg [.nils,.nils,.nils]):=rfl;simp only[jI];refine aK (m:=vars.length) (by omega) (λj t df g=>df=[]/\TbA g0 vars n.nodes.length w z j t g) ⟨rfl,h0⟩ h34 h33 (by decide)
  (by
   rintro j t df g v s (rfl | rfl | rfl) ⟨a1,⟨a2,a3,a4,a5,a6,a7,a8⟩⟩<;>(obtain ⟨b1,b2,b3,b4,b5,b6,b7,-⟩:=a2;exact ⟨a1,by simp[St,LT0,sx,b1,b2,b3,b4,b5,b6,b7],by simp[sx,a3],by simp[sx,a4],a5,a6,a7,a8⟩)) ?_ ?_
 ·rintro j t df g hj ⟨rfl,⟨⟨h1,h2,h3,h6,h7,h8,h11,-⟩,h10,h32,hpl,hnx,hfr,hk4⟩⟩ h34 h33;obtain ⟨p,hp,htk,-⟩:=ae hj;have u1:j<(vars.map ci).length:=by simpa using hj
  have u2:(vars.map ci)[j]?=some (ci p):=by rw[List.getElem?_map,hp];rfl
  have hry:ug z=true:=B9 (rz .nil) u1;have g3:g.h.get 3=.cells 4 [[.int .i64 gr,b,fl,S_]] 0 false false:=by rw[hfr 3 (by omega) (by omega),k3]
  have g1:g.h.get 1=.cells 3 [[.nils,.nils,.nils]] 0 false false:=by rw[hfr 1 (by omega) (by omega),k1]
  refine di (P:=λt' df g'=>df=[]/\g'=g/\St t' ((13,.int .i64 p)::(10,.int .i64 (dT vars j))::(32,z)::(33,.int .i64 (vars.length:Int))::(34,.int .i64 (j:Int))::LT0 w z)) ?_ ?_
  ·simp only[sz,simprocAttr,h32,h34,rz,u1,u2,ci];simp[St,LT0,sx,h1,h2,h3,h6,h7,h8,h11,h10,h32,h33,h34]
  clear h1 h2 h3 h6 h7 h8 h11 h10 h32 h33 h34;rintro t df g' ⟨rfl,rfl,h13,h10,h32,h33,h34,h1,h2,h3,h6,h7,h8,h11,-⟩
  by_cases hc:dT vars j<p/\p<n.nodes.length
  ·refine gx (P:=λt' df g''=>df=[]/\g''=g'/\St t' ((13,.int .i64 p)::(32,z)::(33,.int .i64 (vars.length:Int))::(34,.int .i64 (j:Int))::LT0 w z)) ?_ ?_
   ·have c1:decide (p<=dT vars j)=false:=by simp;omega
    have c2:decide ((n.nodes.length:Int)<=p)=false:=by simp;omega
    simp only[sz,simprocAttr,h13,h10,h8,g3,lb,c1,c2];simp[St,LT0,sx,h1,h2,h3,h6,h7,h8,h11,h13,h32,h33,h34]
   clear h1 h2 h3 h6 h7 h8 h11 h10 h32 h33 h34 h13;rintro t df g'' ⟨rfl,rfl,h13,h32,h33,h34,h1,h2,h3,h6,h7,h8,h11,-⟩;have pl':=DG hpl hp hc.1 hc.2 (by omega);obtain ⟨pn,hpn⟩:∃pn:Nat,p=(pn:Int):=Int.eq_ofNat_of_zero_le (pl'.rng j p (by omega) hp).1;have hm:=sT (vars.take j);have hb1:=rk .i64 pn;have hor:=Es (S.ap (vars.take j)) (S.aK pn) hm (vB pn);have hms:S.ap (vars.take j) ||| S.aK pn=S.ap (vars.take (j+1)):=by rw[htk,AW,hpn];rfl
   rw[hms] at hor;rw[<-hpn] at hb1;refine di (P:=λt' df g3=>df=[]/\g3=g''/\St t' ((10,.int .i64 p)::(13,.int .i64 p)::(32,z)::(33,.int .i64 (vars.length:Int))::(34,.int .i64 (j:Int))::LT0 w z)) ?_ ?_
   ·simp only[sz,simprocAttr,h13];simp[St,LT0,sx,h1,h2,h3,h6,h7,h8,h11,h13,h32,h33,h34]
   clear h1 h2 h3 h6 h7 h8 h11 h32 h33 h34 h13;rintro t df g3' ⟨rfl,rfl,h10,h13,h32,h33,h34,h1,h2,h3,h6,h7,h8,h11,-⟩;simp only[sz,simprocAttr,sf,h11,hk4,h13,hb1,hor];refine ⟨?_,⟨⟨by simp[St,LT0,sx,h1,h2,h3,h6,h7,h8,h11],by simp[sx,h10,sE hp],by simp[sx,h32],pl',?_,λi hi h=>?_,?_⟩,?_,?_⟩⟩
   ·simp only[List.reverse_cons,List.reverse_nil,List.nil_append,List.cons_append];exact aV [false,false,false,false,true] [] (by simp[All2,an,aD]) (by decide) (by simp)
   ·simp;omega
   ·simp[H.get_put,h];exact hfr i hi h
   ·simp[H.get_put]
   ·simp[h34]
   ·simp[h33]
  ·have hpf:S.aw vars n.nodes.length=false:=by rw[<-Bool.not_eq_true];exact λh=>hc (DH h hp)
   simp only[sz,simprocAttr,h13,h10]
   by_cases c1:p<=dT vars j
   ·simp only[sz,simprocAttr,c1,h6,g1];exact bad _ _ hpf (by simp[sx,h6]) (by simp[sx]) (by simp[H.get_put])
   ·have c2:(n.nodes.length:Int)<=p:=by omega
    simp only[sz,simprocAttr,c1,h13,h8,g3,lb,c2,h6,g1];exact bad _ _ hpf (by simp[sx,h6]) (by simp[sx]) (by simp[H.get_put])
 ·rintro t df g ⟨rfl,h⟩;refine fin t g (zl (v:=n.nodes.length) ?_) h;have:=h.pl;simpa using this
structure BW (x:Node) (J:Nat) (g:G) (V:Ky->AV) (E:Ky->En) (rws:List (List AV)):Prop where
 own:Own g 3 (V (J+1,1)) 1 rws
 e1:E (J+1,1)=.sl 1 rws
 len:rws.length=x.rows.length
 at_:∀(r:Nat) (y:List Int),x.rows[r]?=some y->rws[r]?=some [V (J+1,2+r)]
section
variable {d K J:Nat}{L:List Node}{x:Node}{bx:FK}{gr Rw:Int}{t:T}{g:G}{V:Ky->AV}{E:Ky->En}{Q:QT}
end
end
end Hx
end
section
namespace Hx
open Go
noncomputable section
def Node.wr (x:Node)(r:Nat)(y:List Int):Node:=⟨x.card,x.parents,x.rows.set r y⟩
section
variable {d K J r:Nat}{L:List Node}{x:Node}{bx:FK}{gr Rw:Int}{t t':T}{g gb:G}{V:Ky->AV}{E:Ky->En}{Q:QT}{y y':List Int}
structure BR (x:Node) (J r:Nat) (y:List Int) (g:G) (V:Ky->AV) (E:Ky->En) (rws:List (List AV)):Prop where
 wr:ah g.h 1 (V (J+1,1))=some rws
 rl:r<rws.length
 rw_:rws[r]?=some [V (J+1,2+r)]
 ry:ug (V (J+1,1))=true
 yr:ah g.h 1 (V (J+1,2+r))=some (y.map ci)
 ye:E (J+1,2+r)=.sl 1 (y.map ci)
 yl:y.length<=K
end
end
end Hx
end
section
namespace Hx
open Go
noncomputable section
theorem Bl {α:Type} [Rp α]{x:α}{P:Nat->Prop}{cs:List AV}(h:Rp.rp NoP 0 .nil x cs)(h':H):Agg x P 0 h' (.agg cs):=⟨_,rfl,Rp.tree h (Nat.le_refl _)⟩
def K3:Nat->Prop:=λk=>k<=2
def LT1 (w z:AV)(p:Nat):List (Nat×AV):=[(1,w),(2,z),(6,.hptr 1 0 0 0),(8,.hptr 3 0 0 0),(11,.hptr 4 0 0 0),(14,.hptr p 0 0 0)]
structure TbH (l cl:List Int) (p:Nat) (V:Nat->AV) (E:Nat->En) (g:G):Prop where
 hp:Hp g 5 K3 V E
 v0:V 0=.hptr p 0 0 0
 e0:E 0=.bx [V 1,V 2,.nils]
 e1:E 1=.sl 1 (l.map ci)
 e2:E 2=.sl 1 (cl.map ci)
theorem TbH.box {l cl:List Int}{p:Nat}{V:Nat->AV}{E:Nat->En}{g:G}(h:TbH l cl p V E g):g.h.get p=.cells 3 [[V 1,V 2,.nils]] 0 false false/\5<=p/\p<g.nx:=by obtain ⟨id,h1,h2,h3,h4⟩:=h.hp.box (k:=0) (by simp[K3]) h.e0;rw[h.v0] at h3;injection h3 with h3;subst h3;exact ⟨h4,h1,h2⟩
structure TbB (g0:G) (cs vars:List Int) (w z:AV) (p j:Nat) (t:T) (g:G):Prop where
 st:St t (LT1 w z p)
 h15:tat t 15=.int .i64 (S.af (S.ae cs (vars.take j)))
 h57:tat t 57=z
 hd:∃V E,TbH (vars.take j) (S.ae cs (vars.take j)) p V E g
 fr:∀i,i<5->g.h.get i=g0.h.get i
theorem Ko (c:Int):S.af [c]=c:=by simp[S.af]
theorem Ol {d kz:Nat}{n:Net}{vars:List Int}{b fl S_ w z:AV}{p:Nat}{Q:QT}{t:T}{g g0:G}(hr:NR n)(hN:SlR NoP 0 .nil n.nodes b)(hz:SlR NoP kz .nil vars z)(hpl:S.aw vars n.nodes.length=true)
  (k3:g0.h.get 3=.cells 4 [[.int .i64 n.grain,b,fl,S_]] 0 false false)
  (h0:TbB g0 (S.aa n) vars w z p 0 t g) (h58:tat t 58=.int .i64 (vars.length:Int)) (h59:tat t 59=.int .i64 0)
  (fin:∀t g,TbB g0 (S.aa n) vars w z p vars.length t g->Q (.exit 2) t [] g):wpL (wp C0 d none jJ) Q t [] g:=by
 have rz:=λh=>(hz.tree (h':=h) (Nat.le_refl _):SlR NoP kz h vars z).ints;have hvl:=bV hpl (by omega);have hl8:=hr.l2;have hin:=bm hpl;obtain ⟨rows,r1,r2,r3,r4⟩:=hN.all;have r1:∀h',ah h' 3 b=some rows:=r1;simp only[jJ];refine aK (m:=vars.length) (by omega) (λj t df g=>df=[]/\TbB g0 (S.aa n) vars w z p j t g) ⟨rfl,h0⟩ h59 h58 (by decide)
  (by
   rintro j t df g v s (rfl | rfl | rfl) ⟨a1,⟨a2,a3,a4,a5,a6⟩⟩<;>(obtain ⟨b1,b2,b3,b4,b5,b6,-⟩:=a2;exact ⟨a1,by simp[St,LT1,sx,b1,b2,b3,b4,b5,b6],by simp[sx,a3],by simp[sx,a4],a5,a6⟩)) ?_ ?_
 ·rintro j t df g hj ⟨rfl,⟨⟨h1,h2,h6,h8,h11,h14,-⟩,h15,h57,⟨V,E,hT⟩,hfr⟩⟩ h59 h58;obtain ⟨v,hv,htk,hm⟩:=ae hj;have hvi:=hin v hm;obtain ⟨vn,hvn⟩:∃vn:Nat,v=(vn:Int):=Int.eq_ofNat_of_zero_le hvi.1;obtain ⟨x,hx,-,-⟩:=ae (l:=n.nodes) (j:=vn) (by omega);obtain ⟨row,q1,q2⟩:=r3 vn x hx;obtain ⟨fa,fb,rfl,-⟩:=cp.1 q2;have hlt:vn<rows.length:=by omega
  have hryb:=r4 (by omega);have u1:j<(vars.map ci).length:=by simpa using hj
  have u2:(vars.map ci)[j]?=some (ci v):=by rw[List.getElem?_map,hv];rfl
  have hry:ug z=true:=B9 (rz .nil) u1;have hcx:S.ae (S.aa n) (vars.take (j+1))=S.ae (S.aa n) (vars.take j)++[x.card]:=by rw[htk,cy];congr 1;simp[S.ae,hvn,S.aa,hx]
  have hcard:=hr.card x (List.mem_of_getElem? hx);have hcb:∀k,∀c∈S.ae (S.aa n) (vars.take k),1<=c/\c<=4:=λk=>aM hr.cs λy hy=>by rw[aA];exact hin y (List.mem_of_mem_take hy)
  have hp1:=bB (hcb (j+1));have hp2:=cZ (a:=(S.ae (S.aa n) (vars.take (j+1))).length) (b:=8) (by rw[d9,List.length_take];omega);have hp3:(4:Int) ^ 8=65536:=by decide
  have hprod:S.af (S.ae (S.aa n) (vars.take j))*x.card=S.af (S.ae (S.aa n) (vars.take (j+1))):=by rw[hcx,mM,Ko]
  have w1:IntKind.wrap .i64 (S.af (S.ae (S.aa n) (vars.take j))*x.card)=S.af (S.ae (S.aa n) (vars.take (j+1))):=by rw[hprod,aq (by omega) (by omega)]
  refine di (P:=λt' df g'=>df=[]/\g'=g/\St t' ((17,.int .i64 v)::(15,.int .i64 (S.af (S.ae (S.aa n) (vars.take j))))::(57,z)::(58,.int .i64 (vars.length:Int))::(59,.int .i64 (j:Int))::LT1 w z p)) ?_ ?_
  ·simp only[sz,simprocAttr,h57,h59,rz,u1,u2,ci];simp[St,LT1,sx,h1,h2,h6,h8,h11,h14,h15,h57,h58,h59]
  clear h1 h2 h6 h8 h11 h14 h15 h57 h58 h59;rintro t df g' ⟨rfl,rfl,ht⟩;refine di (P:=λt' df g''=>df=[]/\St t' ((17,.int .i64 v)::(15,.int .i64 (S.af (S.ae (S.aa n) (vars.take j))))::(57,z)::(58,.int .i64 (vars.length:Int))::(59,.int .i64 (j:Int))::LT1 w z p)/\(∃V E,TbH (vars.take (j+1)) (S.ae (S.aa n) (vars.take j)) p V E g'')/\∀i,i<5->g''.h.get i=g0.h.get i) ?_ ?_
  ·obtain ⟨h17,h15,h57,h58,h59,h1,h2,h6,h8,h11,h14,-⟩:=ht;obtain ⟨kb,hp5,hpn⟩:=hT.box;have hnx:=hT.hp.nx;simp only[sz,simprocAttr,h14,h17,kb];refine (hT.hp.step (g':=_) (by simp) (λi hi hi2=>?_)).app (k:=1) (by simp[K3]) hT.e1 (new:=[ci v]) (by simp[sx,sy,ci]) (by simp[aP];omega) λv1 g1 hH1 n1 fb1 fo1 _ vc vt=>?_
   ·simp[H.get_put];omega
   simp only[sx,sy] at n1 fb1 fo1;obtain ⟨id,b1,b2,b3,b4⟩:=hH1.box (k:=0) (by simp[K3]) (by rw[af _ _ (by simp)];exact hT.e0);rw[af _ _ (by simp),hT.v0] at b3;injection b3 with b3;subst b3;have b4:g1.h.get p=.cells 3 [[V 1,V 2,.nils]] 0 false false:=b4;simp only[sz,simprocAttr,h14,b4,vc,vt];have hHb:=hH1.putb (k:=0) (by simp[K3]) (row:=[V 1,V 2,.nils]) (row':=[v1,V 2,.nils]) (by rw[af _ _ (by simp)];exact hT.e0) (by rw[af _ _ (by simp)];exact hT.v0) rfl;refine ⟨by simp[St,LT1,sx,h17,h15,h57,h58,h59,h1,h2,h6,h8,h11,h14],⟨_,_,hHb,by rw[af _ _ (by simp)];exact hT.v0,by rw[aC,aC,af _ _ (by simp)],?_,by rw[af _ _ (by simp),af _ _ (by simp)];exact hT.e2⟩,λi hi=>?_⟩
   ·rw[af _ _ (by simp),aC,htk];simp
   ·simp[show ¬i=p by omega];rw[fb1 i (by omega),if_neg (by omega),hfr i hi]
  clear ht hT hfr;rintro t df g1 ⟨rfl,ht,⟨V,E,hT⟩,hfr⟩;refine gx (P:=λt' df g''=>df=[]/\St t' ((17,.int .i64 v)::(15,.int .i64 (S.af (S.ae (S.aa n) (vars.take j))))::(57,z)::(58,.int .i64 (vars.length:Int))::(59,.int .i64 (j:Int))::LT1 w z p)/\(∃V E,TbH (vars.take (j+1)) (S.ae (S.aa n) (vars.take (j+1))) p V E g'')/\∀i,i<5->g''.h.get i=g0.h.get i) ?_ ?_
  ·obtain ⟨h17,h15,h57,h58,h59,h1,h2,h6,h8,h11,h14,-⟩:=ht;obtain ⟨kb,hp5,hpn⟩:=hT.box;have hnx:=hT.hp.nx;have kq:g1.h.get 3=.cells 4 [[.int .i64 n.grain,b,fl,S_]] 0 false false:=by rw[hfr 3 (by omega),k3]
   rw[hvn] at h17;simp only[sz,simprocAttr,sf,h8,h14,h17,kb,kq,r1,hlt,q1,hryb];refine (hT.hp.step (g':=_) (by simp;omega) (λi hi hi2=>?_)).app2 (k:=2) (by simp[K3]) hT.e2 (new:=[ci x.card]) (by simp[sx,sy,ci]) (by simp[aP,d9];omega) λv1 g2 hH1 n1 fb1 fo1 lg1 vc vt=>?_
   ·simp[H.get_put];omega
   simp only[sx,sy] at n1 fb1 fo1 lg1;obtain ⟨id,b1,b2,b3,b4⟩:=hH1.box (k:=0) (by simp[K3]) (by rw[af _ _ (by simp)];exact hT.e0);rw[af _ _ (by simp),hT.v0] at b3;injection b3 with b3;subst b3;have b4:g2.h.get p=.cells 3 [[V 1,V 2,.nils]] 0 false false:=b4;simp only[sz,simprocAttr,sf,h14,b4,vc,vt];have hHb:=(hH1.same (g':=aN (lQ (aN (lQ g2 []) []) []) []) (by simp) (by simp;omega)).putb (k:=0) (by simp[K3]) (row:=[V 1,V 2,.nils]) (row':=[V 1,v1,.nils]) (by rw[af _ _ (by simp)];exact hT.e0) (by rw[af _ _ (by simp)];exact hT.v0) rfl;refine ⟨?_,by rw[<-hvn] at h17;simp[St,LT1,sx,h17,h15,h57,h58,h59,h1,h2,h6,h8,h11,h14],⟨_,_,hHb.same (by simp) (by simp),by rw[af _ _ (by simp)];exact hT.v0,by rw[aC,aC,af _ _ (by simp)],by rw[af _ _ (by simp),af _ _ (by simp)];exact hT.e1,?_⟩,λi hi=>?_⟩
   ·simp only[List.reverse_cons,List.reverse_nil,List.nil_append,List.cons_append];refine aV [false,false,false,false,false,false,false,false,false,true,true,false,true] [(0,9),(1,9)] (by simp[All2,an,aD]) (by decide) ?_;rintro q hp' x y hx hy;simp only[List.mem_cons,List.not_mem_nil,or_false] at hp';rcases hp' with rfl | rfl<;>(simp at hx hy;subst hx;subst hy;refine eh rfl rfl rfl rfl ?_ ?_ ?_<;>simp[an,aD,ak]<;>omega)
   ·rw[af _ _ (by simp),aC,hcx];simp
   ·simp[show ¬i=p by omega];rw[fb1 i (by omega),if_neg (by omega),hfr i hi]
  clear ht hT hfr;rintro t df g2 ⟨rfl,⟨h17,h15,h57,h58,h59,h1,h2,h6,h8,h11,h14,-⟩,hT,hfr⟩;have kq:g2.h.get 3=.cells 4 [[.int .i64 n.grain,b,fl,S_]] 0 false false:=by rw[hfr 3 (by omega),k3]
  rw[hvn] at h17;simp only[sz,simprocAttr,h8,h15,h17,kq,r1,hlt,q1,hryb,w1];exact ⟨⟨by simp[St,LT1,sx,h1,h2,h6,h8,h11,h14],by simp[sx],by simp[sx,h57],hT,hfr⟩,h59,h58⟩
 ·rintro t df g ⟨rfl,h⟩;exact fin t g h
def PC (h:H):Nat->Prop:=λi=>5<=i/\∃sz rows ep lo fz,h.get i=.cells sz rows ep lo fz
theorem Own.pc {g:G}{v:AV}{l:List Int}(h:Own g 5 v 1 (l.map ci))(hl:l.length<9223372036854775808):SlR (PC g.h) 0 g.h l v:=by
 refine Own.sl (α:=Int) h hl (All2.of_map (λa=>aF.2 rfl) _) λi hi=>⟨(h.lt hi).1,?_⟩;rcases h with ⟨rfl,-⟩ | ⟨id,ep,lo,-,-,rfl,h3⟩
 ·cases hi
 ·injection hi with hi;subst hi;exact ⟨_,_,_,_,_,h3⟩
def K4:Nat->Prop:=λk=>k<=3
structure TbW (g0:G) (l cl W:List Int) (p r m:Nat) (V:Nat->AV) (E:Nat->En) (g:G):Prop where
 hp:Hp g 5 K4 V E
 v0:V 0=.hptr p 0 0 0
 e0:E 0=.bx [V 1,V 2,V 3]
 e1:E 1=.sl 1 (l.map ci)
 e2:E 2=.sl 1 (cl.map ci)
 e3:E 3=.sl 1 (W.map ci)
 nw:∀i,eid (V 3)=some i->g0.nx<=i
 fr:∀i,i<g0.nx->i≠p->g.h.get i=g0.h.get i
theorem TbW.box {g0:G}{l cl W:List Int}{p r m:Nat}{V:Nat->AV}{E:Nat->En}{g:G}(h:TbW g0 l cl W p r m V E g):g.h.get p=.cells 3 [[V 1,V 2,V 3]] 0 false false/\5<=p/\p<g.nx:=by obtain ⟨id,h1,h2,h3,h4⟩:=h.hp.box (k:=0) (by simp[K4]) h.e0;rw[h.v0] at h3;injection h3 with h3;subst h3;exact ⟨h4,h1,h2⟩
theorem Om {d:Nat}{l cl:List Int}{w z:AV}{p r m sz:Nat}{Q:QT}{t:T}{g0:G}{dl:List ADf}{V:Nat->AV}{E:Nat->En}{L:List (Int×Int)}{W:List Int}(hl:l.length<=1000)(hcl:cl.length<=1000)(hsz:sz<=65536)
  (ht:St t ((18,.hptr r 0 0 0)::(15,.int .i64 (sz:Int))::LT1 w z p)) (hT:TbH l cl p V E g0) (hr:g0.h.get r=.cells 1 [[.hmap m]] 0 false false) (hm:g0.h.get m=.map (mcl ik L)) (hrp:r≠p/\r<g0.nx) (hmp:m≠p/\m<g0.nx)
  (hW:W.length=sz) (hWg:∀i,i<sz->W[i]?.getD 0=mgt L (i:Int)) (h1:g0.h.get 1=.cells 3 [[.nils,.nils,.nils]] 0 false false)
  (fin:∀t g a1 a2 a3,tat t 6=.hptr 1 0 0 0->tat t 7=.int .i64 0->g.h.get 1=.cells 3 [[a1,a2,a3]] 0 false false->SlR (PC g.h) 0 g.h l a1->SlR (PC g.h) 0 g.h cl a2->SlR (PC g.h) 0 g.h W a3->(∀i,i<g0.nx->i≠1->i≠p->g.h.get i=g0.h.get i)->Q .ret t dl g) :
  wp C0 d none jL Q t dl g0:=by
 unfold jL;obtain ⟨kb,hp5,hpn⟩:=hT.box;have hnx:=hT.hp.nx;refine di (P:=λt' df g'=>dl=df/\St t' ((18,.hptr r 0 0 0)::LT1 w z p)/\∃V E,TbW g0 l cl (List.replicate sz 0) p r m V E g') ?_ ?_
 ·obtain ⟨h18,h15,h1',h2,h6,h8,h11,h14,-⟩:=ht;simp only[sx,SO.run,↓reduceIte,h15];refine lD (b:=5) (n:=sz) (by unfold aP;omega) (by unfold aP;omega) hnx λU g1 hU n1 f1 vU=>?_;have hH:=hT.hp.add (g':=g1) (k:=3) (L':=K4) (v':=U) (e':=.sl 1 ((List.replicate sz (0:Int)).map ci)) (by simp[K3]) (by rw[List.map_replicate];exact hU) (by omega) (λi _ hi=>f1 i (by omega)) (λi hi=>by rw[dc hU] at hi;have:=eg vU hi;omega) (λk hk=>by
   have hk:k<=3:=hk
   by_cases e:k=3
   ·exact .inr e
   ·exact .inl (by show k<=2;omega))
  have kb1:g1.h.get p=.cells 3 [[V 1,V 2,.nils]] 0 false false:=by rw[f1 p (by omega),kb]
  simp only[sx,sy,SO.run,↓reduceIte,Nat.reduceEqDiff,Nat.reduceAdd,Nat.reduceLeDiff,h14,kb1,hU.cell.1,hU.cell.2];have hHb:=hH.putb (k:=0) (by simp[K4]) (row:=[V 1,V 2,.nils]) (row':=[V 1,V 2,U]) (by rw[af _ _ (by simp)];exact hT.e0) (by rw[af _ _ (by simp)];exact hT.v0) rfl;refine ⟨by simp[St,LT1,sx,h18,h1',h2,h6,h8,h11,h14],_,_,hHb,by rw[af _ _ (by simp)];exact hT.v0,by rw[aC,aC,af _ _ (by simp),af _ _ (by simp)],by rw[af _ _ (by simp),af _ _ (by simp)];exact hT.e1,by rw[af _ _ (by simp),af _ _ (by simp)];exact hT.e2,by rw[af _ _ (by simp),aC],λi hi=>?_,λi hi hip=>?_⟩
  ·rw[aC,dc hU] at hi;have:=eg vU hi;omega
  ·simp[H.get_put,hip];exact f1 i hi
 clear ht;rintro t df g1 ⟨rfl,⟨h18,h1',h2,h6,h8,h11,h14,-⟩,V,E,hT⟩;obtain ⟨FR,hFR⟩:∃FR,FR=jK:=⟨_,rfl⟩;rw[<-hFR];refine gx (P:=λt' df g'=>dl=df/\St t' ((18,.hptr r 0 0 0)::LT1 w z p)/\∃V E,TbW g0 l cl W p r m V E g') ?_ ?_
 ·obtain ⟨kb1,-,-⟩:=hT.box;have o3:=hT.hp.own (k:=3) (by simp[K4]) hT.e3;have l3:=fW o3.rows;rw[List.length_map,List.length_replicate] at l3;simp only[sx,sy,SO.run,↓reduceIte,h14,kb1,l3];simp only[oT];refine aK (m:=sz) (by omega) (λj t df g=>dl=df/\St t ((18,.hptr r 0 0 0)::LT1 w z p)/\∃V E,TbW g0 l cl (W.take j++List.replicate (sz - j) 0) p r m V E g) ⟨rfl,by simp[St,LT1,sx,h18,h1',h2,h6,h8,h11,h14],V,E,by simpa using hT⟩ (by simp[sx]) (by simp[sx]) (by decide)
   (by rintro j t df g v s (rfl | rfl | rfl) ⟨a1,⟨b0,b1,b2,b3,b4,b5,b6,-⟩,a3⟩<;>exact ⟨a1,by simp[St,LT1,sx,b0,b1,b2,b3,b4,b5,b6],a3⟩) ?_ ?_
  ·clear h18 h1' h2 h6 h8 h11 h14 hT kb1 o3 l3;rintro j t df g hj ⟨rfl,⟨h18,h1',h2,h6,h8,h11,h14,-⟩,V,E,hT⟩ h112 h111;obtain ⟨kb1,-,-⟩:=hT.box;have o3:=hT.hp.own (k:=3) (by simp[K4]) hT.e3;have kr:g.h.get r=.cells 1 [[.hmap m]] 0 false false:=by rw[hT.fr r hrp.2 hrp.1,hr]
   have km:g.h.get m=.map (mcl ik L):=by rw[hT.fr m hmp.2 hmp.1,hm]
   have hlen:(W.take j++List.replicate (sz - j) (0:Int)).length=sz:=by simp;omega
   have u1:j<((W.take j++List.replicate (sz - j) (0:Int)).map ci).length:=by rw[List.length_map,hlen];exact hj
   obtain ⟨y,hy⟩:∃y,(W.take j++List.replicate (sz - j) (0:Int))[j]?=some y:=⟨_,List.getElem?_eq_getElem (by omega)⟩;have u2:((W.take j++List.replicate (sz - j) (0:Int)).map ci)[j]?=some (ci y):=by rw[List.getElem?_map,hy];rfl
   have hset:(W.take j++List.replicate (sz - j) (0:Int)).set j (mgt L (j:Int))=W.take (j+1)++List.replicate (sz - (j+1)) 0:=by
    have hWj:W[j]?=some (mgt L (j:Int)):=by have:=hWg j hj;rw[List.getElem?_eq_getElem (by omega),Option.getD_some] at this;rw[List.getElem?_eq_getElem (by omega),this]
    rw[List.set_append_right _ _ (by simp;omega)];have e1:j - (W.take j).length=0:=by simp;omega
    have e2:List.replicate (sz - j) (0:Int)=0::List.replicate (sz - (j+1)) 0:=by rw[<-List.replicate_succ];congr 1;omega
    rw[e1,e2,List.set_cons_zero,List.take_add_one,hWj];simp
   refine di (P:=λt' df g'=>dl=df/\g'=g/\St t' ((20,.int .i64 (j:Int))::(111,.int .i64 (sz:Int))::(112,.int .i64 (j:Int))::(18,.hptr r 0 0 0)::LT1 w z p)) ?_ ?_
   ·simp only[sx,sy,SO.run,↓reduceIte,h112];simp[St,LT1,sx,h18,h1',h2,h6,h8,h11,h14,h111,h112]
   clear h18 h1' h2 h6 h8 h11 h14 h111 h112;rintro t df g' ⟨rfl,rfl,h20,h111,h112,h18,h1',h2,h6,h8,h11,h14,-⟩;have lk:∀(t:T) (g:G),tat t 118=.hmap m->tat t 119=.int .i64 (j:Int)->g.h.get m=.map (mcl ik L)->(bY C0 (.lookup tI2 (.tmp 118) (.tmp 119) false)).run (I C0) d none t g=.val (.int .i64 (mgt L (j:Int))):=λt g a b c=>GC a b c;simp only[sx,sy,SO.run,↓reduceIte,Nat.reduceEqDiff,h14,h20,h18,kb1,kr,km,lk,o3.rows,u1,Option.isSome_some,Option.getD_some];refine hT.hp.put (k:=3) (i:=j) (off:=0) (n:=1) (row:=ci y) (row':=ci (mgt L (j:Int))) (by simp[K4]) hT.e3 u2 rfl rfl rfl λg3 hH n3 f3 fo=>?_;simp only[sx,sy,↓reduceIte,Nat.reduceEqDiff];rw[<-List.map_set,hset] at hH;have hp5':=hT.nw;refine ⟨⟨by simp[St,LT1,sx,h18,h1',h2,h6,h8,h11,h14],V,_,hH,hT.v0,by rw[af _ _ (by simp)];exact hT.e0,by rw[af _ _ (by simp)];exact hT.e1,by rw[af _ _ (by simp)];exact hT.e2,aC _ _ _,hT.nw,λi hi hip=>?_⟩,h112,h111⟩;rw[fo i λe=>by have:=hT.nw i e;omega];exact hT.fr i hi hip
  ·rintro t df g ⟨rfl,ht,V,E,hT⟩;rw[List.take_of_length_le (by omega),Nat.sub_self,List.replicate_zero,List.append_nil] at hT;simp only[qc,if_true];exact ⟨trivial,trivial,ht,V,E,hT⟩
 rintro t df g2 ⟨rfl,⟨h18,h1',h2,h6,h8,h11,h14,-⟩,V,E,hT⟩;rw[hFR];obtain ⟨kb2,-,-⟩:=hT.box;have g1e:g2.h.get 1=.cells 3 [[.nils,.nils,.nils]] 0 false false:=by rw[hT.fr 1 (by omega) (by omega),h1]
 simp only[jK,sx,sy,SO.run,↓reduceIte,Nat.reduceEqDiff,Nat.reduceAdd,Nat.reduceLeDiff,h14,h6,kb2,g1e];have far:∀{l:List Int} {k:Nat} (g':G),(∀i,i≠1->g'.h.get i=g2.h.get i)->k<=3->E k=.sl 1 (l.map ci)->l.length<=100000->SlR (PC g'.h) 0 g'.h l (V k):=λ{l k} g' hg hk he hl =>
  ((hT.hp.own (k:=k) hk he).pc (by omega)).wd λi hi=>by obtain ⟨h5,h6⟩:=hi;have e:=hg i (by omega);exact ⟨⟨h5,by rw[e];exact h6⟩,e⟩
 have hf:∀i,i≠1->(g2.put 1 (.cells 3 [[V 1,V 2,V 3]] 0 false false)).h.get i=g2.h.get i:=λi hi=>by simp[H.get_put,hi]
 refine fin _ _ (V 1) (V 2) (V 3) (by simp[sx,h6]) (by simp[sx]) (by simp[H.get_put]) (far _ hf (by omega) hT.e1 (by omega)) (far _ hf (by omega) hT.e2 (by omega)) (far _ hf (by omega) hT.e3 (by omega)) λi hi h1 h2=>?_;simp[H.get_put,h1];exact hT.fr i hi h2
def S.pk (n:Net)(e vars:List Int)(i:Int)(w:Nat):Bool:=S.pe n e w&&decide (S.ah (S.ae (S.aa n) vars) (S.ae (S.an (S.aa n) (w:Int)) vars)=i)
def S.aA (n:Net)(e vars:List Int)(j:Nat):List Int:=(List.range (S.af (S.ae (S.aa n) vars)).toNat).map λi:Nat=>S.au n (S.pk n e vars (i:Int)) j
def S.bk (n:Net)(e vars:List Int):Int:=if S.ay n e=0 then (if S.aw vars n.nodes.length then 0 else 2) else S.ay n e
def S.bu (n:Net)(e vars:List Int):Factor:=if S.bk n e vars=0 then ⟨vars,S.ae (S.aa n) vars,S.aA n e vars (S.am n)⟩ else ⟨[],[],[]⟩
theorem Cq (P:Nat->Prop)(h:H):Agg (⟨[],[],[]⟩:Factor) P 0 h (.agg [.nils,.nils,.nils]):=⟨_,rfl,iI.2 ⟨.nils,.nils,.nils,rfl,⟨by show 0<9223372036854775808;decide,rfl⟩,⟨by show 0<9223372036854775808;decide,rfl⟩,⟨by show 0<9223372036854775808;decide,rfl⟩⟩⟩
structure TbJ (g0:G) (n:Net) (e vars:List Int) (m j:Nat) (h:H):Prop where
 fr:∀i,i<g0.nx->i≠m->h.get i=g0.h.get i
 hm:∃L:List (Int×Int),h.get m=.map (mcl ik L)/\∀k,mgt L k=S.au n (S.pk n e vars k) j
set_option maxRecDepth 20000 in
theorem HW {d ka kb:Nat}{Pa Pb:Nat->Prop}{g:G}{v w0 z0:AV}{n:Net}{e vars:List Int}(hd:0<d)(hm:Agg n NoP 0 g.h v)(he:SlR Pa ka g.h e w0)(hvs:SlR Pb kb g.h vars z0)(hka:ka<=d:=by omega)(hkb:kb<=d:=by omega) :
  ∃r,ap C0 d N.a_ [v,w0,z0] g=.val r/\tG (Agg (S.bu n e vars)) (One (S.bk n e vars)) NoP 0 .nil r:=by
 obtain ⟨b,rows,rfl,e1,hm',hN,r1,r2,r3,r4⟩:=kw d hm;obtain ⟨w,ew,hw⟩:=bG he d;rw[Nat.max_eq_right hka] at hw;have hw:=hw .nil;obtain ⟨z,ez,hz⟩:=bG hvs d;rw[Nat.max_eq_right hkb] at hz;have hz:=hz .nil;have hbd:vD [.nils,.nils,.nils] [] []=.val (.agg [.nils,.nils,.nils]):=rfl;rw[vI];refine aW yx (xs:=[.agg [.int .i64 n.grain,b],w,z]) (by simp only[aH,e1,ew,ez]) (by simp[nM]) (dk (m:=2) (dj _) (aR _) (by decide) (by decide)) (by decide) hd ?_;simp only[nM,sx,sy,SO.run,↓reduceIte,Nat.reduceEqDiff,Nat.reduceAdd];obtain ⟨g0,hg0⟩:∃g0,g0=(G.empty.new (.cells 2 [[.int .i64 n.grain,b]] 0 false false)).new (.cells 3 [[.nils,.nils,.nils]] 0 false false):=⟨_,rfl⟩;rw[<-hg0];have f0:g0.h.get 0=.cells 2 [[.int .i64 n.grain,b]] 0 false false:=by rw[hg0];simp[sx,H.get_put]
 have f1:g0.h.get 1=.cells 3 [[.nils,.nils,.nils]] 0 false false:=by rw[hg0];simp[sx]
 have f3:g0.nx=2:=by rw[hg0];simp[sx]
 clear hg0;unfold qD;simp only[sx,sy,SO.run,↓reduceIte,Nat.reduceEqDiff,Nat.reduceAdd,Nat.reduceLeDiff,f0,hw.cell.1,hw.cell.2];refine bH (IJ (n:=n) (ls:=[e]) (Nat.succ_pos d) (hm' _) (OG hw (by simp[H.get_put]))) λv hv=>?_;obtain ⟨y,cs,rfl,hy,hc,a1,a2,a3,a4,rfl⟩:=xN hv;rw[wM] at hy ⊢
 by_cases h0:S.ay n e=0
 ·have hyo:=hy h0;obtain ⟨h1,h2⟩:=iH.1 h0;have hr:=dw.1 h1;obtain ⟨el,ege⟩:=yG h2;obtain ⟨W1,W2,W3⟩:=hr.wl;have lz:=hz.len;obtain ⟨b',b2,b3,ecs,hb',hb2,hb3⟩:=tE.1 hc;injection ecs with ec1 ecs;injection ecs with ec2 ecs;rw[hyo.net] at ec1 hb';subst ec1 ec2;have hN':SlR NoP 0 .nil n.nodes a2:=hb'.tree (Nat.le_refl _);simp only[sx,sy,SO.run,↓reduceIte,Nat.reduceEqDiff,Nat.reduceAdd,Nat.reduceLeDiff,f3,h0,decide_true,Bool.not_true,lz];refine EP (λt g=>∃g1:G,g=g1/\g1.nx=5/\g1.h.get 1=.cells 3 [[.nils,.nils,.nils]] 0 false false/\g1.h.get 3=.cells 4 [[.int .i64 n.grain,a2,a3,a4]] 0 false false/\g1.h.get 4=.cells 1 [[.int .u64 0]] 0 false false/\St t ((10,.int .i64 (-1))::(32,z)::(33,.int .i64 (vars.length:Int))::(34,.int .i64 0)::LT0 w z)) ?_ ?_
  ·refine ⟨_,rfl,by simp[f3],by simp[H.get_put,f3,f1],by simp[H.get_put,f3],by simp[H.get_put,f3],by simp[St,LT0,sx]⟩
  rintro t g1 ⟨_,rfl,n1,k1,k3,k4,h10,h32,h33,h34,ht0⟩;refine Oj (n:=n) (gr:=n.grain) (b:=a2) (fl:=a3) (S_:=a4) (g0:=g1) hr.l2 hN' hz (by omega) k3 k1 ⟨ht0,by rw[h10];rfl,h32,⟨λj p hj=>by omega,λj p q hj=>by omega⟩,Nat.le_refl _,λ_ _ _=>rfl,by rw[k4];rfl⟩ h33 h34 ?_ ?_
  ·intro t g hpl h6 h7 kg;have hE:S.bk n e vars=2:=by rw[S.bk,if_pos h0,hpl];rfl
   have hj:S.bu n e vars=⟨[],[],[]⟩:=by rw[S.bu,hE,if_neg (by decide)]
   simp only[sx,sy,h6,h7,kg];rw[hE,hj];exact ⟨λ_=>True,_,_,rfl,Cq _ _,aF.2 rfl⟩
  clear ht0 h10 h32 h33 h34;rintro t g2 hpl ⟨⟨h1,h2',h3,h6,h7,h8,h11,-⟩,-,-,-,hnx2,hfr2,hk4⟩;rw[List.take_length] at hk4;have hE:S.bk n e vars=0:=by rw[S.bk,if_pos h0,hpl];rfl
  have hj:S.bu n e vars=⟨vars,S.ae (S.aa n) vars,S.aA n e vars (S.am n)⟩:=by rw[S.bu,hE,if_pos rfl]
  have hbits:=Et hpl (by have:=hr.l2;omega);have hvl:=bV hpl (by omega);have hl8:=hr.l2;have hin:=bm hpl;have hcb:∀c∈S.ae (S.aa n) vars,1<=c/\c<=4:=aM hr.cs λy hy=>by rw[aA];exact hin y hy
  have hp1:=bB hcb;have hp2:=cZ (a:=(S.ae (S.aa n) vars).length) (b:=8) (by rw[d9];omega);have hp3:(4:Int) ^ 8=65536:=by decide
  obtain ⟨sz,hsz⟩:=Int.eq_ofNat_of_zero_le (show 0<=S.af (S.ae (S.aa n) vars) by omega);simp only[oV,sx,sy,SO.run,↓reduceIte,Nat.reduceEqDiff,Nat.reduceAdd,Nat.reduceLeDiff,h2',lz];obtain ⟨p,hp⟩:∃p,p=g2.nx:=⟨_,rfl⟩;refine EP (λt g=>∃g3:G,g=g3/\TbB g2 (S.aa n) vars w z p 0 t g3/\tat t 58=.int .i64 (vars.length:Int)/\tat t 59=.int .i64 0) ?_ ?_
  ·have hH:Hp ((g2.new (.cells 3 [[.nils,.nils,.nils]] 0 false false)).put g2.nx (.cells 3 [[.nils,.nils,.nils]] 0 false false)) 5 K3 (λk=>if k=0 then .hptr p 0 0 0 else .nils) (λk=>if k=0 then .bx [.nils,.nils,.nils] else .sl 1 []):=by
    refine ⟨λk hk=>?_,λk l hk hl hne id h h'=>?_,by simp;omega⟩
    ·by_cases e:k=0
     ·simp only[if_pos e];exact ⟨p,by omega,by simp;omega,rfl,by rw[hp];simp[H.get_put]⟩
     ·simp only[if_neg e];exact .inl ⟨rfl,rfl⟩
    ·by_cases e:k=0
     ·by_cases e':l=0
      ·omega
      ·simp only[if_neg e'] at h';cases h'
     ·simp only[if_neg e] at h;cases h
   refine ⟨_,rfl,⟨by simp[St,LT1,sx,h1,h2',h6,h8,h11,hp],by simp[sx,S.ae,S.af],by simp[sx],⟨_,_,hH,rfl,rfl,rfl,rfl⟩,λi hi=>by simp[H.get_put,show ¬i=g2.nx by omega]⟩,by simp[sx],by simp[sx]⟩
  clear h1 h2' h3 h6 h7 h8 h11;rintro t g3 ⟨_,rfl,hB,h58,h59⟩;have k3':g2.h.get 3=.cells 4 [[.int .i64 n.grain,a2,a3,a4]] 0 false false:=by rw[hfr2 3 (by omega) (by omega),k3]
  have k1':g2.h.get 1=.cells 3 [[.nils,.nils,.nils]] 0 false false:=by rw[hfr2 1 (by omega) (by omega),k1]
  refine Ol hr hN' hz hpl k3' hB h58 h59 ?_;clear hB h58 h59;rintro t g4 ⟨⟨h1,h2',h6,h8,h11,h14,-⟩,h15,-,⟨V,E,hT⟩,hfr4⟩;rw[List.take_length] at h15 hT;obtain ⟨kb,hp5,hpn⟩:=hT.box;have q3:g4.h.get 3=.cells 4 [[.int .i64 n.grain,a2,a3,a4]] 0 false false:=by rw[hfr4 3 (by omega),k3']
  have q1:g4.h.get 1=.cells 3 [[.nils,.nils,.nils]] 0 false false:=by rw[hfr4 1 (by omega),k1']
  have q4:g4.h.get 4=.cells 1 [[.int .u64 (S.ap vars:Int)]] 0 false false:=by rw[hfr4 4 (by omega),hk4]
  have hrm:∀(d:Nat) (rd:Option Nat) (t:T) (g:G),(bY C0 (.makeMap tI2 none)).run (I C0) d rd t g=.upd (.hmap g.nx) (g.new (.map [])):=λd rd t g=>Kr d rd t g;have hst:∀(g:G) (i m:Nat),jS (.cells 1 [[.nilm]] 0 false false) g i 0 0 1 0 (.hmap m)=.upd .undef (g.put i (.cells 1 [[.hmap m]] 0 false false)):=λg i m=>rfl;simp only[oU,sx,sy,SO.run,↓reduceIte,Nat.reduceEqDiff,Nat.reduceAdd,Nat.reduceLeDiff,h8,h1,hrm,hst,q3,show ¬3=g4.nx by omega,show ¬3=g4.nx+1 by omega];refine bH (Q:=λr=>∃cs z t1 t2,r=.clo N.ae [] [.tptr t1 4 [cs] 0 0,.tptr t2 1 [[z]] 0 0]/\Rp.rp NoP d .nil y cs/\SlR NoP d .nil e z) ?_ ?_
  ·obtain ⟨cs',z',t1,t2,ez,h1,h2⟩:=wI (d:=d+1) (y:=y) (e:=e) (v:=.agg [.int .i64 n.grain,a2,a3,a4]) (w:=w) (Nat.succ_pos d) ⟨_,rfl,Rp.tree hc (Nat.le_refl _)⟩ (hw.tree (Nat.le_refl _));exact ⟨_,ez,cs',z',t1,t2,rfl,h1,h2⟩
  rintro _ ⟨cs',z',t1,t2,rfl,hcs',hz'⟩;simp only[sx];refine EP (λt g=>∃g5:G,g=g5/\g5.nx=g4.nx+2/\g5.h.get g4.nx=.map []/\g5.h.get (g4.nx+1)=.cells 1 [[.hmap g4.nx]] 0 false false/\(∀i,i<g4.nx->g5.h.get i=g4.h.get i)/\St t ((94,.clo N.ae [] [.tptr t1 4 [cs'] 0 0,.tptr t2 1 [[z']] 0 0])::(18,.hptr (g4.nx+1) 0 0 0)::(15,.int .i64 (sz:Int))::LT1 w z p)) ?_ ?_
  ·refine ⟨_,rfl,by simp,by simp[H.get_put],by simp[H.get_put],λi hi=>by simp[H.get_put,show ¬i=g4.nx by omega,show ¬i=g4.nx+1 by omega],by simp[St,LT1,sx,h1,h2',h6,h8,h11,h14,h15,hsz]⟩
  clear h1 h2' h6 h8 h11 h14 h15;rintro t g5 ⟨_,rfl,n5,m0,m1,f5,h94,ht⟩;obtain ⟨h18,h15,h1,h2',h6,h8,h11,h14,-⟩:=ht;refine A2 (t1:=t1) (t2:=t2) (n:=n) (y:=y) (e:=e) (cs:=cs') (w:=z') (Nat.succ_pos d) hr hyo hcs' hz' (by omega) h94 (by decide)
   (λj h=>TbJ g5 n e vars g4.nx j h) (λ_=>False) (λj h h' hh hg=>⟨λi h1 h2=>by rw[hh i h1,hg.fr i h1 h2],by obtain ⟨L,l1,l2⟩:=hg.hm;exact ⟨L,by rw[hh _ (by omega),l1],l2⟩⟩) (λ_ _ _ h=>h) ⟨λ_ _ _=>rfl,[],m0,λk=>rfl⟩ ?_ ?_ ?_ (λ_ h=>h.elim)
  ·intro j h hj hmt hg;have hp:∀k,S.pk n e vars k j=false:=λk=>by rw[S.pk,S.pe,<-Gs ege,hmt];rfl
   obtain ⟨L,l1,l2⟩:=hg.hm;exact ⟨hg.fr,L,l1,λk=>by rw[S.au,hp];simp[l2]⟩
  ·intro j u g6 hj hmt hg hn hu;obtain ⟨L,l1,l2⟩:=hg.hm;have hpe:S.pe n e j=true:=by rw[S.pe,<-Gs ege,hmt]
   have hinC:=ea (λc hc=>(hr.cs c hc).1) (j:Int);simp only[oR,sx,sy,SO.run,↓reduceIte,Nat.reduceEqDiff,Nat.reduceAdd,Nat.reduceLeDiff];refine ⟨Jm _ _ _,?_⟩;intro g7 n7 f7;have j12:g7.h.get g6.nx=.cells 3 [[.int .i64 (j:Int),.int .i64 (S.wt n j),u]] 0 false false:=by rw[f7 _ (by omega),if_pos rfl];rfl
   have jo:∀i,i<g5.nx->g7.h.get i=g6.h.get i:=λi hi=>by rw[f7 i (by omega),if_neg (by omega),if_neg (by omega)]
   have j18:g7.h.get (g4.nx+1)=.cells 1 [[.hmap g4.nx]] 0 false false:=by rw[jo _ (by omega),hg.fr _ (by omega) (by omega),m1]
   have jm:g7.h.get g4.nx=.map (mcl ik L):=by rw[jo _ (by omega),l1]
   have j3:g7.h.get 3=.cells 4 [[.int .i64 n.grain,a2,a3,a4]] 0 false false:=by rw[jo 3 (by omega),hg.fr 3 (by omega) (by omega),f5 3 (by omega),q3]
   have j4:g7.h.get 4=.cells 1 [[.int .u64 (S.ap vars:Int)]] 0 false false:=by rw[jo 4 (by omega),hg.fr 4 (by omega) (by omega),f5 4 (by omega),q4]
   have hu3:SlR (λ_=>True) 0 g7.h (S.an (S.aa n) (j:Int)) u:=hu.wd λi hi=>⟨trivial,by rw[f7 i (by omega),if_neg (by omega),if_neg (by omega)]⟩;obtain ⟨K,hK⟩:∃K,K=S.ah (S.ae (S.aa n) vars) (S.ae (S.an (S.aa n) (j:Int)) vars):=⟨_,rfl⟩;have kn:∀g:G,g.h=g7.h->ap C0 (d+1) N.ax [.agg [.int .i64 n.grain,a2,a3,a4],u,.int .u64 (S.ap vars:Int)] g=.val (.int .i64 K):=λg hgh=>by have:=H7 (d:=d+1) (g:=g) (v:=.agg [.int .i64 n.grain,a2,a3,a4]) (w:=u) (s:=S.ap vars) (Nat.succ_pos d) hr ⟨_,rfl,Rp.tree hc (Nat.le_refl _)⟩ hyo (hgh ▸ hu3) hinC (sT vars);rw[this,S.aL,hbits,hK]
   have hb:=qr hr (p:=S.pk n e vars K) (j:=j+1) (by omega);have hpkK:S.pk n e vars K j=true:=by rw[S.pk,hpe,hK];simp
   have hs:S.au n (S.pk n e vars K) (j+1)=mgt L K+S.wt n j:=by rw[S.au,hpkK,l2];simp[S.wt]
   have w1:IntKind.wrap .i64 (mgt L K+S.wt n j)=mgt L K+S.wt n j:=by rw[<-hs,aq (by omega) (by omega)]
   have lk:∀(t:T) (g:G),tat t 96=.hmap g4.nx->tat t 101=.int .i64 K->g.h.get g4.nx=.map (mcl ik L)->(bY C0 (.lookup tI2 (.tmp 96) (.tmp 101) false)).run (I C0) (d+1) (some (g5.nx+1)) t g=.val (.int .i64 (mgt L K)):=λt g a b c=>GC a b c;have up:∀(t:T) (g:G),tat t 96=.hmap g4.nx->tat t 101=.int .i64 K->tat t 105=.int .i64 (mgt L K+S.wt n j)->g.h.get g4.nx=.map (mcl ik L)->(bY C0 (.mapUpdate tI2 (.tmp 96) (.tmp 101) (.tmp 105))).run (I C0) (d+1) (some (g5.nx+1)) t g=.upd .undef (g.put g4.nx (.map (mcl ik (mst K (mgt L K+S.wt n j) L)))):=λt g a b c e=>Oo a b c e;simp only[oS,sx,sy,sf,SO.run,↓reduceIte,Nat.reduceEqDiff,Nat.reduceAdd,Nat.reduceLeDiff,h18,h8,h11,j12,j18,j3,j4,kn,jm,lk,up,w1,HR,HT,mD];refine ⟨?_,by simp<;>omega,λi h1 h2=>by simp[H.get_put,show ¬i=g4.nx by omega],.inl ⟨rfl,λi h1 h2=>?_,mst K (mgt L K+S.wt n j) L,by simp[H.get_put],λk=>?_⟩⟩
   ·simp only[List.reverse_cons,List.reverse_nil,List.nil_append,List.cons_append];exact C2 [(false,false),(false,false),(false,false),(false,false),(false,false),(false,false),(false,true),(false,false),(false,false),(false,false),(true,false)] [] (by simp[All2,an,aD]) (by decide) (by decide) (by simp)
   ·simp[H.get_put,h2];rw[jo i h1,hg.fr i h1 h2]
   ·rw[GE]
    by_cases hk:k=K
    ·subst hk;rw[if_pos rfl,hs]
    ·rw[if_neg hk,l2,S.au,if_neg,Int.add_zero];rw[S.pk,hpe,<-hK];simp[Ne.symm hk]
  ·intro g' hg hn hdf;obtain ⟨L,l1,l2⟩:=hg.hm;refine Om (p:=p) (r:=g4.nx+1) (m:=g4.nx) (sz:=sz) (l:=vars) (cl:=S.ae (S.aa n) vars) (w:=w) (z:=z) (V:=V) (E:=E) (L:=L) (W:=S.aA n e vars (S.am n)) (by omega) (by rw[d9];omega) (by omega) ⟨h18,h15,h1,h2',h6,h8,h11,h14,trivial⟩ ⟨hT.hp.step (by omega) λi h5 hi=>by rw[hg.fr i (by omega) (by omega),f5 i hi],hT.v0,hT.e0,hT.e1,hT.e2⟩ (by rw[hg.fr _ (by omega) (by omega),m1]) l1 ⟨by omega,by omega⟩ ⟨by omega,by omega⟩ (by simp[S.aA,hsz]) (λi hi=>?_) (by rw[hg.fr 1 (by omega) (by omega),f5 1 (by omega),q1]) ?_
   ·simp[S.aA,hsz,hi,l2]
   ·intro t g8 a1 a2 a3 h6 h7 k8 s1 s2 s3 fr8;have hd8:g8.h.get g5.nx=.dfr true:=by rw[fr8 _ (by omega) (by omega) (by omega),hdf]
    rw[BI];refine ij hd8 ?_;simp only[sx,sy,↓reduceIte,h6,h7,k8,show ¬1=g5.nx by omega,Nat.reduceAdd,Nat.reduceLeDiff];rw[hE,hj];have far:∀{l:List Int} {v:AV},SlR (PC g8.h) 0 g8.h l v->SlR (λ_=>True) 0 (g8.put g5.nx (.dfr false)).h l v:=λh=>h.wd λi hi=>⟨trivial,by
     obtain ⟨-,a,b,c,e,f,hi⟩:=hi;have:i≠g5.nx:=λe'=>by rw[e',hd8] at hi;cases hi
     simp[H.get_put,this]⟩
    exact ⟨λ_=>True,_,_,rfl,⟨_,rfl,iI.2 ⟨a1,a2,a3,rfl,far s1,far s2,far s3⟩⟩,aF.2 rfl⟩
 ·have hE:S.bk n e vars=S.ay n e:=by rw[S.bk,if_neg h0]
  have hj:S.bu n e vars=⟨[],[],[]⟩:=by rw[S.bu,hE,if_neg h0]
  simp only[sx,sy,SO.run,↓reduceIte,Nat.reduceEqDiff,Nat.reduceAdd,Nat.reduceLeDiff,f3,h0,decide_false,Bool.not_false,f1];rw[hj,hE];exact ⟨λ_=>True,_,_,rfl,Cq _ _,aF.2 rfl⟩
theorem Iu {n:Net}{e vars:List Int}{j:Nat}(h:S.pe n e j=false):S.aA n e vars (j+1)=S.aA n e vars j :=
 List.map_congr_left λi _=>by rw[S.au,S.pk,h];simp
theorem gQ (n:Net)(e vars:List Int)(j:Nat):(S.aA n e vars j).length=(S.af (S.ae (S.aa n) vars)).toNat:=by simp[S.aA]
theorem lG {n:Net}{e vars:List Int}{j i:Nat}(hi:i<(S.af (S.ae (S.aa n) vars)).toNat):(S.aA n e vars j)[i]?=some (S.au n (S.pk n e vars (i:Int)) j):=by simp[S.aA,hi]
theorem Iv {n:Net}{e vars:List Int}{j i:Nat}(h:S.pe n e j=true)(hi:i<(S.af (S.ae (S.aa n) vars)).toNat)(hK:S.ah (S.ae (S.aa n) vars) (S.ae (S.an (S.aa n) (j:Int)) vars)=(i:Int)) :
  (S.aA n e vars j).set i (S.au n (S.pk n e vars (i:Int)) j+S.wt n j)=S.aA n e vars (j+1):=by
 refine List.ext_getElem? λq=>?_
 by_cases hq:q<(S.af (S.ae (S.aa n) vars)).toNat
 ·rw[lG hq,List.getElem?_set]
  by_cases e1:i=q
  ·subst e1;rw[if_pos rfl,if_pos (by rw[gQ];exact hi),S.au,S.pk,h,hK];simp[S.wt]
  ·rw[if_neg e1,lG hq,S.au,S.pk,h,hK];have:¬((i:Int)=(q:Int)):=by omega
   simp[this]
 ·rw[List.getElem?_eq_none (by rw[List.length_set,gQ];omega),List.getElem?_eq_none (by rw[gQ];omega)]
structure RtH (l W:List Int) (C:AV) (V:Nat->AV) (E:Nat->En) (g:G):Prop where
 hp:Hp g 2 K4 V E
 v0:V 0=.hptr 2 0 0 0
 e0:E 0=.bx [V 1,C,V 3]
 e1:E 1=.sl 1 (l.map ci)
 e3:E 3=.sl 1 (W.map ci)
end
end Hx
end
