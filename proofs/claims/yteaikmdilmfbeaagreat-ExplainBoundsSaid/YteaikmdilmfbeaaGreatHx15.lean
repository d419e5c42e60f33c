/- A part of the proof: an interpreter over abstract values, shown right against the model, and what the functions of the chapter compute on it. -/
import Derived.Test.YteaikmdilmfbeaaGreatHx14
set_option linter.unusedVariables false
set_option linter.unusedSimpArgs false
set_option linter.unnecessarySimpa false
section
namespace Hx
open Go
noncomputable section
theorem F8 {g:G}{n:Nat}{K:AV->G->Prop}{D:ADf->Prop}(hn:n<=65536)(k:∀g',g'.h.get g.nx=.cells 1 ((List.replicate n 0).map ci) 0 false false->g'.nx=g.nx+1->Up g.nx g g'->K (.hsl g.nx 0 0 n none) g') :
  (x9 1 8 [.int .i64 0] (.int .i64 (n:Int)) (.int .i64 (n:Int)) g).sat K g D:=by
 have h1:n<=aO:=by unfold aO;omega
 have h2:n*8<=aO:=by unfold aO;omega
 have key:x9 1 8 [.int .i64 0] (.int .i64 (n:Int)) (.int .i64 (n:Int)) g=.upd (.hsl g.nx 0 0 n none) (g.new (.cells 1 (eD n [.int .i64 0]) 0 false false)):=by
  show (match bN aO (.int .i64 (.ofNat n)) with
   | some cn=>match bN cn (.int .i64 (.ofNat n)) with
    | some ln=>aq (Nat.ble (cn*8) aO) (OR.upd (.hsl g.nx 0 0 ln none) (g.new (.cells 1 (eD cn [.int .i64 0]) 0 false false))) .fail
    | none=>.fail
   | none=>.fail)=_
  have a1:bN aO (.int .i64 (.ofNat n))=some n:=by
   show aq (Nat.ble n aO) (some n) none=_
   rw[aa,if_pos (by simpa using h1)]
  have a2:bN n (.int .i64 (.ofNat n))=some n:=by
   show aq (Nat.ble n n) (some n) none=_
   rw[aa,if_pos (by simp)]
  rw[a1];dsimp only;rw[a2];dsimp only
  rw[aa,if_pos (by simpa using h2)]
 rw[key]
 refine k _ ?_ (by simp) (Up.new (Nat.le_refl _) _)
 simp[aR,eD,ci]
def S.aJ (n:Net)(oth:List Int)(w:Nat):Int:=S.af (S.ac (S.aa n) oth) (S.ac (S.ak (S.aa n) (w:Int)) oth)
def LW (B tg:Nat)(qv:AV):List (Nat×AV):=[(1,.tptr tg 1 [[qv]] 0 0),(2,.hptr B 0 0 0),(3,.hptr (B+2) 0 0 0)]
theorem K7 {d B tg k:Nat}{n:Net}{vars oth mw vals l:List Int}{m:Int}{qv uu vv:AV}{P:Nat->Prop}{j:Int}{rd:Option Nat}{Q:QT}{t:T}{g:G}(hq:Ai n vars oth mw m k qv)(hp:∀x∈vars,0<=x/\x<(vals.length:Int))(hvl:vars.length<=8)(hu:SlR P 0 g.h vals uu)(hP:∀i,P i->i<g.nx/\B+3<=i)(hB:B+2<g.nx)
  (gv:Own g B (.hsl (B+1) 0 0 vars.length none) 1 (l.map ci)) (g2:g.h.get (B+2)=.cells 1 [[.hsl (B+1) 0 0 vars.length none]] 0 false false) (hl:l.length=vars.length)
  (ht:St t ((5,uu)::(4,.int .i64 j)::(29,vv)::LW B tg qv)) (hvv:SlR NoP k .nil vars vv) (h31:tat t 31=.int .i64 0) (h30:tat t 30=.int .i64 (vars.length:Int))
  (fin:∀t g',St t ((5,uu)::(4,.int .i64 j)::LW B tg qv)->g.nx<=g'.nx->(∀i,i<g.nx->i≠B+1->g'.h.get i=g.h.get i)->Up B g g'->Own g' B (.hsl (B+1) 0 0 vars.length none) 1 ((S.ac vals vars).map ci)->Q (.exit 2) t [] g'):wpL (wp C0 d rd co) Q t [] g:=by
 have rv:=fun h=>(hvv.tree (h':=h) (Nat.le_refl _)).ints
 have hlp:(S.ac vals vars).length=vars.length:=by simp[S.ac]
 simp only[co]
 refine aX (m:=vars.length) (by omega) (fun i t df g'=>df=[]/\St t ((5,uu)::(4,.int .i64 j)::(29,vv)::LW B tg qv)/\g.nx<=g'.nx/\(∀i,i<g.nx->i≠B+1->g'.h.get i=g.h.get i)/\Up B g g'/\Own g' B (.hsl (B+1) 0 0 vars.length none) 1 (((S.ac vals vars).take i++l.drop i).map ci)) ⟨rfl,ht,Nat.le_refl _,fun _ _ _=>rfl,Up.refl _ _,by simpa using gv⟩ h31 h30 (by decide)
  (by rintro i t df g v s (rfl | rfl | rfl) ⟨a1,⟨b1,b2,b3,b4,b5,b6,-⟩,c1⟩<;>exact ⟨a1,by simp[St,LW,sx,b1,b2,b3,b4,b5,b6],c1⟩) ?_ ?_
 ·rintro i t df g1 hi ⟨rfl,⟨h5,h4,h29,h1,h2,h3,-⟩,hn,hf,hU,hO⟩ h31 h30
  obtain ⟨p,hpx,-,hpm⟩:=ae hi
  obtain ⟨p0,p1⟩:=hp p hpm
  obtain ⟨pn,rfl⟩:=Int.eq_ofNat_of_zero_le p0
  obtain ⟨x,hx,-,-⟩:=ae (l:=vals) (j:=pn) (by omega)
  have z1:i<(vars.map ci).length:=by simpa using hi
  have z2:(vars.map ci)[i]?=some (ci (pn:Int)):=by rw[List.getElem?_map,hpx];rfl
  have y1:pn<(vals.map ci).length:=by rw[List.length_map];omega
  have y2:(vals.map ci)[pn]?=some (ci x):=by rw[List.getElem?_map,hx];rfl
  have hu1:SlR P 0 g1.h vals uu:=hu.far8 fun i hi=>hf i (hP i hi).1 (by have:=hP i hi;omega)
  have ru:=hu1.ints
  have gs:g1.h.get (B+2)=.cells 1 [[.hsl (B+1) 0 0 vars.length none]] 0 false false:=by rw[hf _ hB (by omega),g2]
  have hcj:(S.ac vals vars)[i]?=some x:=by simp[S.ac,hpx,hx]
  obtain ⟨y,hy,-,-⟩:=ae (l:=l) (j:=i) (by omega)
  have e3:(((S.ac vals vars).take i++l.drop i).map ci).set i (ci x)=((S.ac vals vars).take (i+1)++l.drop (i+1)).map ci:=by
   rw[<-List.map_set,List.set_append_right _ _ (by simp;omega),List.length_take,Nat.min_eq_left (by omega),Nat.sub_self,List.take_succ_eq_append_getElem (by omega),List.drop_eq_getElem_cons (by omega),List.set_cons_zero,List.append_assoc]
   have:(S.ac vals vars)[i]=x:=by
    rw[List.getElem?_eq_getElem (by omega)] at hcj;injection hcj
   rw[this];rfl
  have hll:(((S.ac vals vars).take i++l.drop i).map ci).length=vars.length:=by simp;omega
  have hi2:i<(((S.ac vals vars).take i++l.drop i).map ci).length:=by rw[hll];exact hi
  have hro:(((S.ac vals vars).take i++l.drop i).map ci)[i]?=some (ci y):=by
   rw[List.getElem?_map,List.getElem?_append_right (by simp;omega),List.getElem?_drop]
   simp only[List.length_take,Nat.min_eq_left (show i<=(S.ac vals vars).length by omega),Nat.sub_self,Nat.add_zero,hy,Option.map_some]
  simp only[sz,simprocAttr,sf,h29,h31,rv,z1,z2,ci,h3,gs,h5,ru,y1,y2,hO.rows,hi2]
  refine oU (g:=_) (b:=B) (v:=.hsl (B+1) 0 0 vars.length none) (sz:=1) (n:=1) (i:=i) (off:=0) (x:=.int .i64 x) (row:=ci y) (row':=ci x) (hO.fr (by simp<;>omega) (fun i' hi'=>by simp)) hro rfl rfl rfl fun g5 o5 n5 f5 u5=>?_
  rw[e3] at o5
  have f6:∀i',i'≠B+1->g5.h.get i'=g1.h.get i':=fun i' hi'=>by
   rw[f5 i' (by simpa [vid] using fun h:B+1=i'=>hi' h.symm)];simp
  simp only[sy] at n5
  simp only[sz,simprocAttr,sf]
  refine ⟨?_,?_⟩
  ·simp only[List.reverse_cons,List.reverse_nil,List.nil_append,List.cons_append]
   exact aJ [false,false,false,false,false,false,false,true] [] (by simp[All2,am,aB]) (by decide) (by simp)
  refine ⟨⟨by simp[St,LW,sx,h5,h4,h29,h1,h2,h3],by first | omega | (simp<;>omega),fun i' h1 h2=>by simp[f6 i' h2,hf i' h1 h2],hU.trans ⟨fun i' h=>by simp[f6 i' (by omega)],fun i' h=>?_⟩,o5.fr (by simp<;>omega) fun i' h=>by simp⟩,by simp[sx,h31],by simp[sx,h30]⟩
  simp at h
  rcases h with h | h
  ·rcases u5.2 i' h with h | h
   ·simp at h
   ·exact .inr h
  ·exact .inl h
 ·rintro t df g' ⟨rfl,⟨h5,h4,-,ht⟩,hn,hf,hU,gv1⟩
  rw[List.take_of_length_le (by omega),List.drop_of_length_le (by omega),List.append_nil] at gv1
  exact fin t g' ⟨h5,h4,ht⟩ hn hf hU gv1
theorem KM {d B tg k t0:Nat}{n:Net}{oth vals:List Int}{m:Int}{b vw ow ww uu:AV}{P:Nat->Prop}{j:Int}{rd:Option Nat}{Q:QT}{t:T}{g:G}(hr:NR n)(hb:SlR NoP k .nil n.nodes b)(ho:SlR NoP k .nil oth ow)(hp:∀x∈oth,0<=x/\x<(n.nodes.length:Int))(hol:oth.length<=8)(hin:InC (S.aa n) vals)(hu:SlR P 0 g.h vals uu)
  (ht:St t ((5,uu)::(4,.int .i64 j)::(47,ow)::(8,.int .i64 0)::LW B tg (.tptr t0 6 [[.int .i64 n.grain,b,vw,ow,ww,.int .i64 m]] 0 0))) (h49:tat t 49=.int .i64 0) (h48:tat t 48=.int .i64 (oth.length:Int))
  (fin:∀t,St t ((8,.int .i64 (S.af (S.ac (S.aa n) oth) (S.ac vals oth)))::(4,.int .i64 j)::LW B tg (.tptr t0 6 [[.int .i64 n.grain,b,vw,ow,ww,.int .i64 m]] 0 0))->Q (.exit 4) t [] g):wpL (wp C0 d rd b_) Q t [] g:=by
 have ro:=fun h=>(ho.tree (h':=h) (Nat.le_refl _)).ints
 have hvl:=hin.len
 rw[ay] at hvl
 have hlp:(S.ac (S.aa n) oth).length=oth.length:=by simp[S.ac]
 have hlv:(S.ac vals oth).length=oth.length:=by simp[S.ac]
 have hpb:=cA (ps:=oth) hr.cs (fun p hpm=>by rw[ay];exact hp p hpm)
 have hC:=eP hin (fun p hpm=>by rw[ay];exact hp p hpm)
 have ru:=hu.ints
 simp only[b_]
 refine aX (m:=oth.length) (by omega) (fun i t df g'=>df=[]/\g'=g/\St t ((5,uu)::(4,.int .i64 j)::(47,ow)::(8,.int .i64 (S.af ((S.ac (S.aa n) oth).take i) ((S.ac vals oth).take i)))::LW B tg (.tptr t0 6 [[.int .i64 n.grain,b,vw,ow,ww,.int .i64 m]] 0 0))) ⟨rfl,rfl,by simpa [S.af] using ht⟩ h49 h48 (by decide)
  (by rintro i t df g v s (rfl | rfl | rfl) ⟨a1,a2,⟨b1,b2,b3,b4,b5,b6,b7,-⟩⟩<;>exact ⟨a1,a2,by simp[St,LW,sx,b1,b2,b3,b4,b5,b6,b7]⟩) ?_ ?_
 ·rintro i t df g' hi ⟨rfl,rfl,⟨h5,h4,h47,h8,h1,h2,h3,-⟩⟩ h49 h48
  obtain ⟨p,hpx,-,hpm⟩:=ae hi
  obtain ⟨p0,p1⟩:=hp p hpm
  obtain ⟨pn,y,rows,pa,ra,rfl,hy,r1,r2,r3,r4,hym,r5⟩:=vN hb p0 p1
  obtain ⟨x,hx,-,-⟩:=ae (l:=vals) (j:=pn) (by omega)
  have z1:i<(oth.map ci).length:=by simpa using hi
  have z2:(oth.map ci)[i]?=some (ci (pn:Int)):=by rw[List.getElem?_map,hpx];rfl
  have y1:pn<(vals.map ci).length:=by rw[List.length_map];omega
  have y2:(vals.map ci)[pn]?=some (ci x):=by rw[List.getElem?_map,hx];rfl
  have hcj:(S.ac (S.aa n) oth)[i]?=some y.card:=by simp[S.ac,hpx,r5]
  have hvj:(S.ac vals oth)[i]?=some x:=by simp[S.ac,hpx,hx]
  have c1:(S.ac (S.aa n) oth).take (i+1)=(S.ac (S.aa n) oth).take i++[y.card]:=by
   rw[List.take_succ_eq_append_getElem (by omega)]
   congr 2
   rw[List.getElem?_eq_getElem (by omega)] at hcj;injection hcj
  have c2:(S.ac vals oth).take (i+1)=(S.ac vals oth).take i++[x]:=by
   rw[List.take_succ_eq_append_getElem (by omega)]
   congr 2
   rw[List.getElem?_eq_getElem (by omega)] at hvj;injection hvj
  have hsn:S.af ((S.ac (S.aa n) oth).take (i+1)) ((S.ac vals oth).take (i+1))=S.af ((S.ac (S.aa n) oth).take i) ((S.ac vals oth).take i)*y.card+x:=by
   rw[c1,c2]
   exact Bq (by simp;omega)
  have i1:=cT (fun c h=>hpb c (List.mem_of_mem_take h)) (hC.take i)
  have i2:=cT (fun c h=>hpb c (List.mem_of_mem_take h)) (hC.take (i+1))
  have q1:=gf hpb (by omega) i
  have q2:=gf hpb (by omega) (i+1)
  rw[hsn] at i2 ⊢
  have hyc:=hr.card y hym
  obtain ⟨A,hA⟩:∃A,A=S.af ((S.ac (S.aa n) oth).take i) ((S.ac vals oth).take i):=⟨_,rfl⟩
  rw[<-hA] at h8 i1 i2 ⊢
  have hm0:0<=A*y.card:=Int.mul_nonneg i1.1 (by omega)
  have hm1:A*y.card<=65536*4:=Int.mul_le_mul (by omega) (by omega) (by omega) (by omega)
  have w1:IntKind.wrap .i64 (A*y.card)=A*y.card:=aF (by omega) (by omega)
  have w2:IntKind.wrap .i64 (A*y.card+x)=A*y.card+x:=aF (by omega) (by omega)
  simp only[sz,simprocAttr,h47,h49,ro,z1,z2,ci,h8,h1,h5,f_,dD,bB,r1,r2,r3,r4,ru,y1,y2,w1,w2]
  simp[St,LW,sx,h1,h2,h3,h4,h5,h47,h48,h49]
 ·rintro t df g' ⟨rfl,rfl,⟨-,h4,-,h8,ht⟩⟩
  rw[List.take_of_length_le (by omega),List.take_of_length_le (by omega)] at h8
  exact fin t ⟨h8,h4,ht⟩
theorem ER {d id k tg:Nat}{n:Net}{vars oth mw:List Int}{m:Int}{qv:AV}{g0:G}{K:AV->G->Prop}(hd:0<d)(hr:NR n)(hq:Ai n vars oth mw m k qv)(hp:∀x∈vars,0<=x/\x<(n.nodes.length:Int))(hvl:vars.length<=8)(hpo:∀x∈oth,0<=x/\x<(n.nodes.length:Int))(hol:oth.length<=8)(hmw:mw.length=S.ah n)
  (J:Nat->G->Prop) (hJ:∀j g g',(∀i,i<g0.nx->g'.h.get i=g.h.get i)->J j g->J j g')
  (step:∀(j:Nat) (w:Int) (u:AV) (g:G) (K':AV->G->Prop) (D:ADf->Prop),j<S.ah n->mw[j]?=some w->g0.nx<=g.nx->J j g->Own g g0.nx u 1 ((S.ac (S.ak (S.aa n) (j:Int)) vars).map ci) ->
   (∀g',J (j+1) g'->g.nx<=g'.nx->(∀i,g0.nx<=i->i<g.nx->g'.h.get i=g.h.get i)->K' (.bool true) g')->(cy (I C0) d id [.agg [.int .i64 (S.aJ n oth j),.int .i64 w],u] g).sat K' g D)
  (h0:J 0 g0) (fin:∀g',J (S.ah n) g'->g0.nx<=g'.nx->K (.tup []) g') :
  wp C0 d none aP.code (fnQ C0 d aP.res K) (bH 0 [.yld id,.tptr tg 1 [[qv]] 0 0] .nil) [] g0:=by
 obtain ⟨t0,b,vw,ow,ww,rfl,ht0,hb,hv,ho,hww⟩:=hq
 have hl8:=hr.l2
 obtain ⟨W1,W2,W3⟩:=hr.wl
 have hcs:CsOk (S.aa n):=⟨hr.cs,by rw[ay];omega⟩
 have hnc:S.nc (S.aa n)=S.ah n:=rfl
 have lv:∀g:G,dG .slice vw g=.val (.int .i64 (vars.length:Int)):=fun g=>hv.len g
 have lo:∀g:G,dG .slice ow g=.val (.int .i64 (oth.length:Int)):=fun g=>ho.len g
 have rw_:=fun h=>(hww.tree (h':=h) (Nat.le_refl _)).ints
 obtain ⟨B,hB⟩:∃B,B=g0.nx:=⟨_,rfl⟩
 have hbx:∀g:G,CX (.yld id) g=.upd (.hptr g.nx 0 0 0) (g.new (.cells 1 [[.yld id]] 0 false false)):=fun g=>rfl
 obtain ⟨Qf,hQf⟩:∃Qf,Qf=fnQ C0 d aP.res K:=⟨_,rfl⟩
 rw[<-hQf]
 simp only[sz,simprocAttr,aP,hbx]
 unfold eC
 refine jg (P:=fun t' df g'=>df=[]/\g'.nx=B+3/\g'.h.get B=.cells 1 [[.yld id]] 0 false false/\Own g' B (.hsl (B+1) 0 0 vars.length none) 1 ((List.replicate vars.length 0).map ci)/\g'.h.get (B+2)=.cells 1 [[.hsl (B+1) 0 0 vars.length none]] 0 false false/\Up B g0 g'/\St t' (LW B tg (.tptr t0 6 [[.int .i64 n.grain,b,vw,ow,ww,.int .i64 m]] 0 0))) ?_ ?_
 ·simp only[sz,simprocAttr,bB,f_,dD,lv]
  refine F8 (by omega) fun g2 m2 n2 u2=>?_
  simp only[sx] at m2 n2 u2
  rw[<-hB] at m2 n2 u2
  simp only[sz,simprocAttr,n2,<-hB]
  have hO:Own g2 B (.hsl (B+1) 0 0 vars.length none) 1 ((List.replicate vars.length 0).map ci):=.inr ⟨B+1,0,false,by omega,by omega,by simp,m2⟩
  refine ⟨?_,hO.fr (by simp) fun i hi=>?_,?_,by simp[St,LW,sx]⟩
  ·rw[if_neg (by omega),if_neg (by omega),u2.1 B (by omega),G.new_h,hB,aR]
  ·have:i=B+1:=by simpa [vid] using hi.symm
   subst this
   simp[H.get_put,n2]
  ·exact ((Up.new (by omega) _).trans (u2.mono (by omega))).trans ((Up.new (by omega) _).trans (Up.put (by omega) _))
 rintro t df g1 ⟨rfl,n1,gB,gV,gS,U1,h1,h2,h3,-⟩
 have hJ1:J 0 g1:=hJ _ _ _ (hB ▸ U1).1 h0
 simp only[sz,simprocAttr,h1,bB,f_,dD]
 refine bo (ux (n:=n) hd (hb.tree (h':=g1.h) (Nat.le_refl _)) (by omega)) fun rc hrc=>?_
 simp only[sz,simprocAttr]
 obtain ⟨z,kz,hz⟩:=Ap (d:=d) (g:=g1) (w:=rc) (cs:=S.aa n) hd (hrc.sl g1.h)
 simp only[sz,simprocAttr,kz]
 refine wI (cs:=S.aa n) (w:=z) hcs hz (by simp[sx]) (by decide) (by decide)
  (fun j g'=>J j g'/\g'.h.get B=.cells 1 [[.yld id]] 0 false false/\(∃l:List Int,l.length=vars.length/\∃lo,g'.h.get (B+1)=.cells 1 (l.map ci) 0 lo false)/\g'.h.get (B+2)=.cells 1 [[.hsl (B+1) 0 0 vars.length none]] 0 false false) (fun _=>False) ?_ (fun _ _ _ h=>h) ?_ ?_ ?_ (fun _ h=>h.elim)
 ·rintro j g3 g4 hU ⟨a1,a2,a3,a4⟩
  rw[n1] at hU
  exact ⟨hJ _ _ _ (fun i hi=>hU.1 i (by omega)) a1,by rw[hU.1 _ (by omega),a2],by rw[hU.1 _ (by omega)];exact a3,by rw[hU.1 _ (by omega),a4]⟩
 ·refine ⟨hJ1,gB,?_,gS⟩
  rcases gV with ⟨h,-⟩ | ⟨id,ep,lo,-,-,h,hg⟩
  ·cases h
  ·injection h with e1 e2
   subst e1;subst e2
   exact ⟨_,by simp,lo,hg⟩
 ·rintro j uu g3 hj ⟨a1,a2,a3,a4⟩ hn3 hu
  rw[hnc] at hj
  rw[n1] at hn3 hu
  simp only[sz,simprocAttr,dU]
  refine ⟨Fr.refl _,fun g5 n5 f5 u5=>?_⟩
  rw[n1] at f5 u5
  obtain ⟨l,hl,lo1,a3⟩:=a3
  have hin:=cY (fun c hc=>(hr.cs c hc).1) (j:Int)
  have hvln:=oe (S.aa n) (j:Int)
  rw[ay] at hvln
  have hu5:SlR (fun i=>B+3+2<=i/\i<g3.nx) 0 g5.h (S.ak (S.aa n) (j:Int)) uu:=hu.far8 fun i hi=>f5 i (by omega)
  have gB5:g5.h.get B=.cells 1 [[.yld id]] 0 false false:=by rw[u5.1 _ (by omega),a2]
  have gV5:Own g5 B (.hsl (B+1) 0 0 vars.length none) 1 (l.map ci):=.inr ⟨B+1,0,lo1,by omega,by omega,by rw[List.length_map,hl],by rw[u5.1 _ (by omega),a3]⟩
  have gS5:g5.h.get (B+2)=.cells 1 [[.hsl (B+1) 0 0 vars.length none]] 0 false false:=by rw[u5.1 _ (by omega),a4]
  have hJ5:J j g5:=hJ _ _ _ (fun i hi=>u5.1 i (by omega)) a1
  simp only[sz,simprocAttr,dZ,h1,bB,f_,dD,lv]
  refine K7 (B:=B) (n:=n) (vars:=vars) (m:=m) (mw:=mw) (oth:=oth) (vals:=S.ak (S.aa n) (j:Int)) (l:=l) (vv:=vw) (tg:=tg) (qv:=.tptr t0 6 [[.int .i64 n.grain,b,vw,ow,ww,.int .i64 m]] 0 0) (k:=k) (uu:=uu) (j:=(j:Int))
   ⟨t0,b,vw,ow,ww,rfl,ht0,hb,hv,ho,hww⟩ (by rw[hvln];exact hp) hvl hu5 (fun i hi=>by omega) (by omega) gV5 gS5 hl (by simp[St,LW,sx,h1,h2,h3]) hv (by simp[sx]) (by simp[sx]) ?_
  rintro t6 g6 ⟨h5,h4,h1,h2,h3,-⟩ n6 f6 U6 gV6
  have hu6:SlR (fun i=>B+3+2<=i/\i<g3.nx) 0 g6.h (S.ak (S.aa n) (j:Int)) uu:=hu5.far8 fun i hi=>f6 i (by omega) (by omega)
  simp only[sz,simprocAttr,dV,h1,bB,f_,dD,lo]
  refine KM (B:=B) (n:=n) (oth:=oth) (vals:=S.ak (S.aa n) (j:Int)) (tg:=tg) (k:=k) (uu:=uu) (j:=(j:Int)) (t0:=t0) (b:=b) (vw:=vw) (ow:=ow) (ww:=ww) (m:=m) hr hb ho hpo hol hin hu6 (by simp[St,LW,sx,h1,h2,h3,h4,h5]) (by simp[sx]) (by simp[sx]) ?_
  rintro t7 ⟨h8,h4,h1,h2,h3,-⟩
  have gB6:g6.h.get B=.cells 1 [[.yld id]] 0 false false:=by rw[f6 _ (by omega) (by omega),gB5]
  have gS6:g6.h.get (B+2)=.cells 1 [[.hsl (B+1) 0 0 vars.length none]] 0 false false:=by rw[f6 _ (by omega) (by omega),gS5]
  obtain ⟨w,hw,-,-⟩:=ae (l:=mw) (j:=j) (by omega)
  have z1:j<(mw.map ci).length:=by rw[List.length_map];omega
  have z2:(mw.map ci)[j]?=some (ci w):=by rw[List.getElem?_map,hw];rfl
  simp only[sz,simprocAttr,sf,dT,h2,gB6,h8,h1,bB,f_,dD,rw_,h4,z1,z2,ci,h3,gS6]
  show (cy (I C0) d id [.agg [.int .i64 (S.aJ n oth j),.int .i64 w],.hsl (B+1) 0 0 vars.length none] _).sat _ _ _
  have hlp:(S.ac (S.ak (S.aa n) (j:Int)) vars).length=vars.length:=by simp[S.ac]
  refine step j w (.hsl (B+1) 0 0 vars.length none) _ _ _ hj hw ?_ (hJ _ _ _ (fun i hi=>by simp[U6.1 i (by omega)]) hJ5) ?_ fun g8 hJ8 n8 f8=>?_
  ·simp;omega
  ·exact hB ▸ gV6.fr (by simp<;>omega) fun i hi=>by simp
  simp only[sy] at n8 f8
  simp only[sz,simprocAttr,sf]
  refine ⟨?_,?_⟩
  ·simp only[List.reverse_cons,List.reverse_nil,List.nil_append,List.cons_append]
   refine aJ [false,false,false,false,false,false,false,false,false,false,false,true,false] [] ?_ (by decide) (by simp)
   have fd:∀(t:T) (g:G) (f:Od) (xs:List Od),f.get t=.yld id->(SO.foot C0 t g (.dyn f xs)).sr=[]:=fun t g f xs h=>by simp only[SO.foot,h];rfl
   simp[All2,am,aB,fd,sx]
  refine ⟨by simp;omega,fun i h1 h2=>?_,.inl ⟨rfl,hJ _ _ _ (fun i hi=>by simp) hJ8,by rw[f8 _ (by omega) (by omega),gB6],?_,by rw[f8 _ (by omega) (by omega),gS6]⟩⟩
  ·rw[n1] at h1
   simp[f8 i (by omega) (by omega),f6 i h2 (by omega)]
  ·rw[f8 _ (by omega) (by omega)]
   rcases gV6 with ⟨h,-⟩ | ⟨id,ep,lo,-,-,h,hg⟩
   ·cases h
   ·injection h with e1 e2
    subst e1;subst e2
    exact ⟨_,hlp,lo,hg⟩
 ·rintro g' ⟨a1,a2,a3,a4⟩ hn hdf
  rw[hnc] at a1
  rw[n1] at hn hdf
  rw[hQf]
  show wN C0 d [] t [.mark g1.nx] g' K
  refine j4 (by rw[n1];exact hdf) ?_
  exact fin _ (hJ _ _ _ (fun i hi=>by rw[G.put_h,ap _ _ _ (by omega)]) a1) (by simp;omega)
theorem Dg:C0.ext N.aa=none:=by kernel_rfl
theorem Da {d nt p q r k tg:Nat}{n:Net}{vars oth mw:List Int}{m:Int}{qv:AV}{ca cb:SC}{Q:QT}{t:T}{df:List ADf}{g:G}(hd:0<d)(hr:NR n)(hqv:Ai n vars oth mw m k qv)(hpv:∀x∈vars,0<=x/\x<(n.nodes.length:Int))(hvl:vars.length<=8)(hpo:∀x∈oth,0<=x/\x<(n.nodes.length:Int))(hol:oth.length<=8)(hmw:mw.length=S.ah n)
  (hv:tat t r=.clo N.aa [] [.tptr tg 1 [[qv]] 0 0]) (hp:p<nt) (hq:q<nt)
  (J:Nat->G->Prop) (hJ:∀j g1 g2,(∀i,i<g.nx->g2.h.get i=g1.h.get i)->J j g1->J j g2) (h0:J 0 g)
  (step:∀(j:Nat) (w:Int) (u:AV) (g1:G),j<S.ah n->mw[j]?=some w->J j g1->g.nx+2<=g1.nx->Own g1 (g.nx+2) u 1 ((S.ac (S.ak (S.aa n) (j:Int)) vars).map ci) ->
   wp C0 d (some (g.nx+1)) ca (fun e t1 df g1'=>e=.norm/\df=[]/\Fr g1 g1'/\∀g2:G,g2.nx=g1'.nx->(∀i,i≠g.nx+1->g2.h.get i=g1'.h.get i) ->
    wp C0 d (some (g.nx+1)) cb (fun e _ df g3=>df=[]/\RowQ g.nx g2 g3 e (J (j+1) g3) False) t1 [] g2)
    (dF (dF t p (.agg [.int .i64 (S.aJ n oth j),.int .i64 w])) q u) [] g1)
  (fin:∀g',J (S.ah n) g'->g.nx+2<=g'.nx->g'.h.get g.nx=.dfr true->Q .norm t (.mark g.nx::df) g') :
  wp C0 d none (.rng nt (.t r) [p,q] ca cb) Q t df g:=by
 refine su (fn:=N.aa) (first:=[]) (cap:=[.tptr tg 1 [[qv]] 0 0]) (s:=aP) hv Dg kA (by simp[aP]) ?_
 intro assign body ha hb'
 have e1:((g.new (.dfr true)).new (.loop nt t [p,q] assign body g.nx .ready none)).nx=g.nx+2:=by simp
 refine ER (g0:=(g.new (.dfr true)).new (.loop nt t [p,q] assign body g.nx .ready none)) (id:=g.nx+1) hd hr hqv hpv hvl hpo hol hmw
  (fun j g'=>J j g'/\g'.h.get g.nx=.dfr true/\g'.h.get (g.nx+1)=.loop nt t [p,q] assign body g.nx .ready none) ?_ ?_ ?_ ?_
 ·rintro j h h' hh ⟨a1,a2,a3⟩
  rw[e1] at hh
  exact ⟨hJ j h h' (fun i hi=>hh i (by omega)) a1,by rw[hh _ (by omega),a2],by rw[hh _ (by omega),a3]⟩
 ·rintro j w u g1 K' D hj hw hn ⟨a1,a2,a3⟩ hsl kk
  rw[e1] at hn kk hsl
  refine yB a3 ha hb' (t':=dF (dF t p (.agg [.int .i64 (S.aJ n oth j),.int .i64 w])) q u) ?_ ?_
  ·simp only[cQ,aa,Nat.blt_eq,if_pos hp,if_pos hq];rfl
  ·refine bX _ (step j w u g1 hj hw a1 (by omega) hsl) ?_
   rintro e t1 df g1' ⟨rfl,rfl,hfr,h⟩
   have hl0:g.nx+1<g1.nx:=by omega
   have hl:g.nx+1<g1'.nx:=Nat.lt_of_lt_of_le hl0 hfr.1
   have a2':g1'.h.get g.nx=.dfr true:=by rw[hfr.2 _ (by omega),a2]
   have a3':g1'.h.get (g.nx+1)=.loop nt t [p,q] assign body g.nx .ready none:=by rw[hfr.2 _ hl0,a3]
   refine ⟨rfl,rfl,a3',?_⟩
   refine bX _ (h (g1'.put (g.nx+1) (.loop nt t [p,q] assign body g.nx .busy none)) (by simp) (fun i hi=>by simp[H.get_put,hi])) ?_
   rintro e t2 df g3 ⟨rfl,⟨b2,b3,b1⟩⟩
   have b4:g3.h.get (g.nx+1)=.loop nt t [p,q] assign body g.nx .busy none:=by rw[b3 _ (by omega) (by simpa using hl)];simp[H.get_put]
   have b5:g3.h.get g.nx=.dfr true:=by
    rw[b3 _ (by omega) (by simp;omega)];simp[H.get_put,a2']
   refine ⟨rfl,b4,?_⟩
   have b2':g1'.nx<=g3.nx:=by simpa using b2
   have hf1:=hfr.1
   rcases b1 with ⟨rfl,b1⟩ | ⟨rfl,b1⟩
   ·refine .inl ⟨rfl,kk _ ⟨hJ _ g3 _ (fun i hi=>by rw[G.put_h,ap _ _ _ (by omega)]) b1,?_,?_⟩ (by simp;omega) fun i h1 h2=>?_⟩
    ·simp[H.get_put,b5]
    ·simp[H.get_put]
    ·have hne:¬i=g.nx+1:=by omega
     have:=b3 i (by omega) (by simp;omega)
     simp[H.get_put,hne] at this ⊢
     rw[this,hfr.2 i h2]
   ·exact b1.elim
 ·refine ⟨hJ 0 g _ (fun i hi=>by rw[G.new_h,ap _ _ _ (by simp;omega),G.new_h,ap _ _ _ (by omega)]) h0,?_,?_⟩
  ·simp[H.get_put]
  ·simp[H.get_put]
 ·rintro g' ⟨a1,a2,a3⟩ hn
  rw[e1] at hn
  refine ⟨_,_,_,_,_,_,.inl ⟨a3,fin _ (hJ _ g' _ (fun i hi=>by rw[G.put_h,ap _ _ _ (by omega)]) a1) (by simpa using hn) ?_⟩⟩
  simp[H.get_put,a2]
def WoV (q:AV)(t0:Nat):VS:=fun P k h v=>t0<=k/\((∃id,v=.clo N.aa [] [.hptr id 0 0 0]/\P id/\h.get id=.cells 1 [[q]] 0 false false)\/∃tg,v=.clo N.aa [] [.tptr tg 1 [[q]] 0 0]/\tg<=k)
theorem Kq {q:AV}{t0 sz i off:Nat}{rows:List (List AV)}(hq:q=.tptr t0 sz rows i off):Snb (WoV q t0) 2:=by
 subst hq
 refine ⟨fun {P k h v n} d r hn=>?_,fun {k h v n} r hn=>?_⟩
 ·obtain ⟨n,rfl⟩:∃q,n=q+3:=⟨n - 3,by omega⟩
  obtain ⟨r0,⟨id,rfl,-,hg⟩ | ⟨tg,rfl,ht⟩⟩:=r
  ·refine ⟨.clo N.aa [] [.tptr (Nat.max d (Nat.max (Nat.max t0 0) 0)) 1 [[.tptr t0 sz rows i off]] 0 0],?_,by omega,.inr ⟨_,rfl,?_⟩⟩
   ·simp only[Hx.snap,aD,hg,show Nat.beq 0 0=true from rfl,eB,fL]
    rfl
   ·show max d (max (max t0 0) 0)<=max k d;omega
  ·exact ⟨.clo N.aa [] [.tptr tg 1 [[.tptr t0 sz rows i off]] 0 0],rfl,by omega,.inr ⟨tg,rfl,by omega⟩⟩
 ·obtain ⟨n,rfl⟩:∃q,n=q+3:=⟨n - 3,by omega⟩
  obtain ⟨r0,⟨id,-,h,-⟩ | ⟨tg,rfl,ht⟩⟩:=r
  ·exact h.elim
  ·exact ⟨Nat.max tg 0,rfl,by show max tg 0<=k;omega⟩
theorem CG {d k:Nat}{g:G}{n:Net}{vars oth mw:List Int}{m:Int}{q:AV}(hd:k<d)(hq:Ai n vars oth mw m k q) :
  ∃tg,au C0 d N.aI [q] g=.val (.clo N.aa [] [.tptr tg 1 [[q]] 0 0]):=by
 obtain ⟨t0,b,vw,ow,ww,e0,ht,hb,hv,ho,hww⟩:=hq
 have key:∃r,au C0 d N.aI [q] g=.val r/\WoV q t0 NoP k .nil r:=by
  rw[ky]
  refine bp mB (xs:=[q]) (by rw[e0];simp only[aD,qY]) (by simp[dC]) (Kq e0) (by decide) hd ?_
  have hbx:∀g:G,CX q g=.upd (.hptr g.nx 0 0 0) (g.new (.cells 1 [[q]] 0 false false)):=fun g=>by rw[e0];rfl
  simp only[sz,simprocAttr,dC,fj,hbx]
  exact ⟨fun _=>True,ht,.inl ⟨0,rfl,trivial,by simp[H.get_put]⟩⟩
 obtain ⟨r,hr,-,⟨id,-,h,-⟩ | ⟨tg,rfl,-⟩⟩:=key
 ·exact h.elim
 ·exact ⟨tg,hr⟩
theorem Hc {d k k2:Nat}{P P2:Nat->Prop}{g:G}{v w:AV}{l l2:List Int}(hd:0<d)(hl:SlR P k g.h l v)(hl2:SlR P2 k2 g.h l2 w):au C0 d N.bC [v,w] g=.val (.bool (decide (l=l2))):=by
 obtain ⟨v',ev,hv⟩:=aV hl d
 obtain ⟨w',ew,hw⟩:=aV hl2 d
 have rv:=fun h=>(hv h).ints
 have rw':=fun h=>(hw h).ints
 have lv:=(hv .nil).len
 have lw:=(hw .nil).len
 have hn:=hl.1
 rw[mY]
 refine dy py (xs:=[v',w']) (by simp only[aD,ev,ew]) (by simp[cU]) hd ?_
 by_cases c:l.length=l2.length
 ·have c':(l.length:Int)=(l2.length:Int):=by omega
  simp only[sz,simprocAttr,cU,lv,lw,c']
  simp only[gP]
  refine aX (m:=l.length) (by omega) (fun j t df g=>df=[]/\St t [(0,v'),(1,w'),(11,v')]/\l.take j=l2.take j) ⟨rfl,by simp[St,sx],by simp⟩ (by simp[sx]) (by simp[sx,c']) (by decide) (by rintro j t df g v s (rfl | rfl | rfl)<;>simp[St,sx]) ?_ ?_
  ·rintro j t df g hj ⟨rfl,⟨h0,h1,h11,-⟩,hjj⟩ h13 h12
   obtain ⟨y,hy,hty,-⟩:=ae hj
   obtain ⟨z,hz,htz,-⟩:=ae (l:=l2) (j:=j) (by omega)
   have u1:j<(l.map ci).length:=by simpa using hj
   have u2:(l.map ci)[j]?=some (ci y):=by rw[List.getElem?_map,hy];rfl
   have v1:j<(l2.map ci).length:=by rw[List.length_map];omega
   have v2:(l2.map ci)[j]?=some (ci z):=by rw[List.getElem?_map,hz];rfl
   by_cases e:y=z
   ·simp only[sz,simprocAttr,h0,h1,h11,h13,rv,rw',u1,u2,v1,v2,ci,e]
    simp[St,sx,h0,h1,h11,h12,h13,hty,htz,hjj,e]
   ·have hne:l≠l2:=fun h=>e (by rw[h,hz] at hy;injection hy with hy;exact hy.symm)
    simp only[sz,simprocAttr,h0,h1,h11,h13,rv,rw',u1,u2,v1,v2,ci,e,hne,decide_false]
  ·rintro t df g ⟨rfl,-,hjj⟩
   rw[List.take_length,c,List.take_length] at hjj
   simp only[sz,simprocAttr,gK,hjj,decide_true]
 ·have c':¬(l.length:Int)=(l2.length:Int):=by omega
  have hne:l≠l2:=fun h=>c (by rw[h])
  simp only[sz,simprocAttr,cU,lv,lw,c',hne,decide_false]
theorem Jm {g:G}{b:Nat}{u:AV}{l:List Int}(hu:Own g b u 1 (l.map ci)){n:Nat}(hn:n<=l.length)(hl:l.length<9223372036854775808) :
  ∃y,nL 1 u none (some (.int .i64 (n:Int))) g=.val y/\∀(h':H),(∀i,vid u=some i->h'.get i=g.h.get i)->SlR (fun i=>vid u=some i) 0 h' (l.take n) y:=by
 by_cases hne:l=[]
 ·subst hne
  have:n=0:=by simpa using hn
  subst this
  rcases hu with ⟨rfl,-⟩ | ⟨id,ep,lo,h1,h2,rfl,h3⟩
  ·exact ⟨.nils,rfl,fun h' _=>⟨hl,rfl⟩⟩
  ·simp only[nL,jF,h3,Nat.beq_refl,Bool.true_and,ax,Nat.zero_add,aa,Nat.ble_eq,Nat.le_refl,if_true,aW,Option.getD_none,Nat.sub_zero]
   simp only[bN]
   cases lo
   ·exact ⟨.esl,rfl,fun h' _=>⟨hl,rfl⟩⟩
   ·exact ⟨.tsl 0 1 [],rfl,fun h' _=>⟨hl,by decide,.inl rfl,trivial⟩⟩
 ·obtain ⟨y,h1,-,h2⟩:=Ag (α:=Int) hu (by simpa using hne) (n:=n) (by simpa using hn)
  refine ⟨y,h1,fun h' hh=>h2 _ 0 l h' hh ?_⟩
  have:=hu.sl (α:=Int) (P:=fun i=>vid u=some i) (k:=0) hl (All2.of_map (fun a=>aU.2 rfl) l) fun i hi=>hi
  exact this.far8 fun i hi=>hh i hi
def S.aY (l:List Int)(i x:Int):List Int:=l.set i.toNat (max (l[i.toNat]?.getD 0) x)
def S.aw (f:Nat->Int)(N:Nat)(c:Nat->Bool)(x:Nat->Int):Nat->List Int
 | 0=>List.replicate N 0
 | j+1=>if c j then S.aY (S.aw f N c x j) (f j) (x j) else S.aw f N c x j
theorem oy (f:Nat->Int)(N:Nat)(c:Nat->Bool)(x:Nat->Int):∀j,(S.aw f N c x j).length=N
 | 0=>by simp[S.aw]
 | j+1=>by
  rw[S.aw]
  split
  ·rw[S.aY,List.length_set,oy f N c x j]
  ·exact oy f N c x j
theorem Iu {l:List Int}:∀{i:Nat} {y:Int},i<l.length->(l.set i y).sum=l.sum - l[i]?.getD 0+y:=by
 induction l with
 | nil=>intro i y h;simp at h
 | cons a l ih =>
  intro i y h
  cases i with
  | zero=>simp;omega
  | succ i =>
   simp only[List.set_cons_succ,List.sum_cons,List.getElem?_cons_succ]
   rw[ih (by simpa using h)]
   omega
theorem rm {f:Nat->Int}{N:Nat}{c:Nat->Bool}{x:Nat->Int}{M:Int}{W:Nat}(hf:∀j,j<W->0<=f j/\f j<(N:Int))(hx:∀j,j<W->0<=x j/\x j<=M):∀j,j<=W->(∀y∈S.aw f N c x j,0<=y)/\(S.aw f N c x j).sum<=M*j
 | 0,_=>by
  simp only[S.aw]
  exact ⟨fun y hy=>by rw[(List.mem_replicate.1 hy).2];exact Int.le_refl _,by simp⟩
 | j+1,h=>by
  obtain ⟨a1,a2⟩:=rm (c:=c) hf hx j (by omega)
  have hxj:=hx j (by omega)
  have hfj:=hf j (by omega)
  have hM:M*((j+1:Nat):Int)=M*j+M:=by rw[Int.natCast_add,Int.mul_add];simp
  rw[S.aw,hM]
  split
  ·have hlt:(f j).toNat<(S.aw f N c x j).length:=by rw[oy];omega
   have hg:(S.aw f N c x j)[(f j).toNat]?.getD 0=(S.aw f N c x j)[(f j).toNat]:=by rw[List.getElem?_eq_getElem hlt];rfl
   have hn:=a1 _ (List.getElem_mem hlt)
   refine ⟨fun y hy=>?_,?_⟩
   ·rcases List.mem_or_eq_of_mem_set hy with hy | rfl
    ·exact a1 y hy
    ·omega
   ·rw[S.aY,Iu hlt,hg]
    omega
  ·exact ⟨a1,by omega⟩
def S.a_ (n:Net)(vars l:List Int)(w:Nat):Bool:=decide ((S.ac (S.ak (S.aa n) (w:Int)) vars).take l.length=l)
def S.au (n:Net)(oth:List Int):Nat:=(S.ae (S.ac (S.aa n) oth)).toNat
def S.bC (n:Net)(vars oth mw l:List Int):Int:=(S.aw (S.aJ n oth) (S.au n oth) (S.a_ n vars l) (fun w=>mw[w]?.getD 0) (S.ah n)).sum
theorem rL {l:List Int}{j:Nat}{x:Int}(h:l[j]?=some x):(l.take (j+1)).sum=(l.take j).sum+x:=by
 have hj:=(List.getElem?_eq_some_iff.1 h).1
 rw[List.take_succ_eq_append_getElem hj]
 rw[List.getElem?_eq_getElem hj] at h;injection h with h
 rw[h,List.sum_append];simp
theorem Bv {l:List Int}(h:∀y∈l,0<=y):∀j,0<=(l.take j).sum/\(l.take j).sum<=l.sum:=by
 induction l with
 | nil=>intro j;simp
 | cons a l ih =>
  intro j
  have ha:=h a (by simp)
  have ih':=ih fun y hy=>h y (by simp[hy])
  cases j with
  | zero=>have:=ih' l.length;rw[List.take_length] at this;simp;omega
  | succ j=>have:=ih' j;simp;omega
def LBd (p:Nat)(u:AV):List (Nat×AV):=[(3,.hptr 0 0 0 0),(5,.hptr 2 0 0 0),(6,.hptr p 0 0 0),(7,u)]
theorem Lh {d p k2 N:Nat}{vals l gr:List Int}{w' u:AV}{f x:Int}{rd:Option Nat}{Q:QT}{t:T}{g:G}(hd:0<d)(hw:∀h,SlR NoP k2 h l w')(hl:l.length<=vals.length)(hvl:vals.length<=8)(hf:0<=f/\f<(N:Int))(hgl:gr.length=N)
  (g0:g.h.get 0=.cells 1 [[w']] 0 false false) (g1:∃lo,g.h.get 1=.cells 1 (gr.map ci) 0 lo false) (g2:g.h.get 2=.cells 1 [[.hsl 1 0 0 N none]] 0 false false) (gp:g.h.get p=.cells 2 [[.int .i64 f,.int .i64 x]] 0 false false) (hu:Own g 5 u 1 (vals.map ci)) (hn:5<=g.nx)
  (ht:St t (LBd p u))
  (fin:∀t g',g.nx<=g'.nx->(∀i,i<g.nx->i≠1->g'.h.get i=g.h.get i)->(∃lo,g'.h.get 1=.cells 1 ((if decide (vals.take l.length=l)=true then S.aY gr f x else gr).map ci) 0 lo false)->Q .norm t [] g'):wp C0 d rd bK Q t [] g:=by
 obtain ⟨h3,h5,h6,h7,-⟩:=ht
 obtain ⟨lo,g1⟩:=g1
 have lw:∀g:G,dG .slice w' g=.val (.int .i64 (l.length:Int)):=fun g=>(hw .nil).len g
 obtain ⟨y,y1,y2⟩:=Jm (g:=aG g []) (b:=5) (u:=u) (l:=vals) (n:=l.length) (hu.fr (by simp) fun i hi=>by simp) hl (by omega)
 have ke:=Hc (d:=d) (g:=aG g []) (w:=w') hd (y2 _ fun i hi=>rfl) (hw _)
 have hO:Own g 0 (.hsl 1 0 0 N none) 1 (gr.map ci):=.inr ⟨1,0,lo,by omega,by omega,by rw[List.length_map,hgl],g1⟩
 obtain ⟨fn,rfl⟩:=Int.eq_ofNat_of_zero_le hf.1
 obtain ⟨z,hz,-,-⟩:=ae (l:=gr) (j:=fn) (by omega)
 have z1:fn<(gr.map ci).length:=by rw[List.length_map];omega
 have z2:(gr.map ci)[fn]?=some (ci z):=by rw[List.getElem?_map,hz];rfl
 have hup:S.aY gr (fn:Int) x=gr.set fn (max z x):=by rw[S.aY,Int.toNat_natCast,hz];rfl
 by_cases c:vals.take l.length=l
 ·simp only[sz,simprocAttr,bK,h7,h3,g0,lw,List.head?_nil,List.head?_cons,y1,ke,c,decide_true]
  simp only[sz,simprocAttr,sf,h5,h6,g2,gp,hO.rows,z1,z2,ci]
  refine dB (b:=0) (v:=.hsl 1 0 0 N none) (sz:=1) (n:=1) (i:=fn) (off:=0) (x:=.int .i64 (max z x)) (row:=ci z) (row':=ci (max z x)) (hO.fr (by simp<;>omega) (fun i' hi'=>by simp)) z2 rfl rfl rfl fun g5 o5 n5 f5=>?_
  rw[<-List.map_set,<-hup] at o5
  have f6:∀i',i'≠1->g5.h.get i'=g.h.get i':=fun i' hi'=>by
   rw[f5 i' (by simpa [vid] using fun h:1=i'=>hi' h.symm)];simp
  simp only[sy] at n5
  simp only[sz,simprocAttr,sf]
  refine ⟨?_,?_⟩
  ·simp only[List.reverse_cons,List.reverse_nil,List.nil_append,List.cons_append]
   exact aJ [false,false,false,false,false,false,false,false,false,false,false,false,true] [] (by simp[All2,am,aB]) (by decide) (by simp)
  refine fin _ _ (by first | omega | (simp<;>omega)) (fun i' h1 h2=>by simp[f6 i' h2]) ?_
  rw[if_pos (by simpa using c)]
  rcases o5 with ⟨h,-⟩ | ⟨id,ep,lo2,-,-,h,hg⟩
  ·cases h
  ·injection h with e1 e2
   subst e1;subst e2
   exact ⟨lo2,by simpa using hg⟩
 ·simp only[sz,simprocAttr,bK,h7,h3,g0,lw,List.head?_nil,List.head?_cons,y1,ke,c,decide_false]
  exact fin _ g (Nat.le_refl _) (fun _ _ _=>rfl) ⟨lo,by rw[if_neg (by simpa using c)];exact g1⟩
theorem Hs {d k k2:Nat}{g:G}{P:Nat->Prop}{n:Net}{vars oth mw l:List Int}{m:Int}{q w:AV}(hd:k<d)(hr:NR n)(hq:Ai n vars oth mw m k q)(hpv:∀x∈vars,0<=x/\x<(n.nodes.length:Int))(hvl:vars.length<=8)(hpo:∀x∈oth,0<=x/\x<(n.nodes.length:Int))(hol:oth.length<=8)(hmw:mw.length=S.ah n)(hmb:∀x∈mw,0<=x/\x<=167961600000000)
  (hw:SlR P k2 g.h l w) (hl:l.length<=vars.length):au C0 d N.bj [q,w] g=.val (.int .i64 (S.bC n vars oth mw l)):=by
 have hq0:=hq
 obtain ⟨t0,b,vw,ow,ww,e0,ht,hb,hv,ho,hww⟩:=hq0
 obtain ⟨w',e2,hw'⟩:=aV hw d
 have lw:∀g:G,dG .slice w' g=.val (.int .i64 (l.length:Int)):=fun g=>(hw' .nil).len g
 have hpb:=cA (ps:=oth) hr.cs (fun p hpm=>by rw[ay];exact hpo p hpm)
 have hlp:(S.ac (S.aa n) oth).length=oth.length:=by simp[S.ac]
 have hcs:CsOk (S.ac (S.aa n) oth):=⟨hpb,by omega⟩
 obtain ⟨N1,N2,N3⟩:=hcs.nc
 have hN:S.nc (S.ac (S.aa n) oth)=S.au n oth:=rfl
 rw[hN] at N1 N2 N3
 have hd1:0<d+1:=Nat.succ_pos d
 rw[lK]
 refine eZ nw (xs:=[q,w']) (by rw[e0];simp only[aD,e2,qY]) (by simp[dM]) (by omega) ?_
 subst e0
 have rbx:=Ae (hw' .nil)
 simp only[sz,simprocAttr,dM,fO,rbx,f_,dD,bB]
 refine bo (Fs hd1 hq hpo (ho.tree (Nat.le_refl _)) hol) fun rc hrc=>?_
 simp only[sz,simprocAttr,AK hd1 (hrc.sl .nil |>.wide (P:=NoP) (k':=0) (Nat.le_refl 0))]
 rw[kf hpb (by omega),<-N3]
 refine F8 N2 fun g1 m1 n1 u1=>?_
 rw[show (G.empty.new (.cells 1 [[w']] 0 false false)).nx=1 from rfl] at m1 n1 u1 ⊢
 have b1:g1.h.get 0=.cells 1 [[w']] 0 false false:=by rw[u1.1 0 (by omega)];simp[H.get_put,show G.empty.nx=0 from rfl]
 clear u1
 simp only[sz,simprocAttr,n1]
 refine bo (Q:=fun r=>∃tg,r=.clo N.aa [] [.tptr tg 1 [[.tptr t0 6 [[.int .i64 n.grain,b,vw,ow,ww,.int .i64 m]] 0 0]] 0 0]) (by obtain ⟨tg,h⟩:=CG (g:=(g1.new (.cells 1 [[.nils]] 0 false false)).put (1+1) (.cells 1 [[.hsl 1 0 0 (S.au n oth) none]] 0 false false)) (Nat.lt_succ_of_lt hd) hq;exact ⟨_,h,tg,rfl⟩) ?_
 rintro r ⟨tg,rfl⟩
 have c0:((g1.new (.cells 1 [[.nils]] 0 false false)).put (1+1) (.cells 1 [[.hsl 1 0 0 (S.au n oth) none]] 0 false false)).h.get 0=.cells 1 [[w']] 0 false false:=by simp[H.get_put,n1,b1]
 have c1:((g1.new (.cells 1 [[.nils]] 0 false false)).put (1+1) (.cells 1 [[.hsl 1 0 0 (S.au n oth) none]] 0 false false)).h.get 1=.cells 1 ((List.replicate (S.au n oth) 0).map ci) 0 false false:=by rw[G.put_h,ap _ _ _ (by omega),G.new_h,ap _ _ _ (by omega),m1]
 have c2:((g1.new (.cells 1 [[.nils]] 0 false false)).put (1+1) (.cells 1 [[.hsl 1 0 0 (S.au n oth) none]] 0 false false)).h.get 2=.cells 1 [[.hsl 1 0 0 (S.au n oth) none]] 0 false false:=by simp[H.get_put]
 have c3:((g1.new (.cells 1 [[.nils]] 0 false false)).put (1+1) (.cells 1 [[.hsl 1 0 0 (S.au n oth) none]] 0 false false)).nx=3:=by simp[n1]
 generalize (g1.new (.cells 1 [[.nils]] 0 false false)).put (1+1) (.cells 1 [[.hsl 1 0 0 (S.au n oth) none]] 0 false false)=g2 at c0 c1 c2 c3 ⊢
 simp only[sz,simprocAttr]
 refine Da (n:=n) (vars:=vars) (oth:=oth) (mw:=mw) (m:=m) (k:=k) (tg:=tg) hd1 hr hq hpv hvl hpo hol hmw (by simp[sx]) (by decide) (by decide)
  (fun j g'=>g'.h.get 0=.cells 1 [[w']] 0 false false/\(∃lo,g'.h.get 1=.cells 1 ((S.aw (S.aJ n oth) (S.au n oth) (S.a_ n vars l) (fun w=>mw[w]?.getD 0) j).map ci) 0 lo false)/\g'.h.get 2=.cells 1 [[.hsl 1 0 0 (S.au n oth) none]] 0 false false) ?_ ⟨c0,⟨false,c1⟩,c2⟩ ?_ ?_
 ·rintro j g3 g4 hU ⟨a1,a2,a3⟩
  exact ⟨by rw[hU _ (by omega),a1],by rw[hU _ (by omega)];exact a2,by rw[hU _ (by omega),a3]⟩
 ·rintro j x u g3 hj hx ⟨a1,⟨lo,a2⟩,a3⟩ hn3 hu
  rw[c3] at hn3 hu
  simp only[sz,simprocAttr,fB]
  refine ⟨?_,fun g5 n5 f5=>?_⟩
  ·exact K8 _ _ _
  rw[c3] at f5 ⊢
  have hlp2:(S.ac (S.ak (S.aa n) (j:Int)) vars).length=vars.length:=by simp[S.ac]
  have hin:=cY (fun c hc=>(hr.cs c hc).1) (j:Int)
  have hf:=cT hpb (eP hin (fun p hpm=>by rw[ay];exact hpo p hpm))
  rw[<-N3] at hf
  have f6:∀i,i<g3.nx->i≠4->g5.h.get i=g3.h.get i:=fun i h1 h2=>by
   rw[f5 i (by omega),if_neg (by omega),if_neg (by omega)]
  refine Lh (p:=g3.nx) (N:=S.au n oth) (vals:=S.ac (S.ak (S.aa n) (j:Int)) vars) (l:=l) (gr:=S.aw (S.aJ n oth) (S.au n oth) (S.a_ n vars l) (fun w=>mw[w]?.getD 0) j) (w':=w') (u:=u) (f:=S.aJ n oth j) (x:=x) hd1 hw' (by omega) (by omega) hf (oy _ _ _ _ _) (by rw[f6 0 (by omega) (by omega),a1]) ⟨lo,by rw[f6 1 (by omega) (by omega),a2]⟩ (by rw[f6 2 (by omega) (by omega),a3]) (by rw[f5 _ (by omega),if_pos rfl]) (hu.fr (by omega) fun i hi=>by have:=hu.lt hi;exact f6 i (by omega) (by omega)) (by omega) (by simp[St,LBd,sx]) ?_
  intro t6 g6 n6 f7 h7
  refine ⟨rfl,n6,fun i h1 h2=>f7 i h2 (by omega),.inl ⟨rfl,by rw[f7 0 (by omega) (by omega),f6 0 (by omega) (by omega),a1],?_,by rw[f7 2 (by omega) (by omega),f6 2 (by omega) (by omega),a3]⟩⟩
  rw[S.aw,hx]
  exact h7
 ·rintro g' ⟨a1,⟨lo,a2⟩,a3⟩ hn hdf
  obtain ⟨GR,hGR⟩:∃GR,GR=S.aw (S.aJ n oth) (S.au n oth) (S.a_ n vars l) (fun w=>mw[w]?.getD 0) (S.ah n):=⟨_,rfl⟩
  rw[<-hGR] at a2
  have hB:=rm (f:=S.aJ n oth) (N:=S.au n oth) (c:=S.a_ n vars l) (x:=fun w=>mw[w]?.getD 0) (M:=167961600000000) (W:=S.ah n) (fun j _=>by
   have hin:=cY (fun c hc=>(hr.cs c hc).1) (j:Int)
   have hf:=cT hpb (eP hin (fun p hpm=>by rw[ay];exact hpo p hpm))
   rw[<-N3] at hf
   exact hf) (fun j hj=>by
   obtain ⟨y,hy,-,hym⟩:=ae (l:=mw) (j:=j) (by omega)
   rw[hy];exact hmb y hym) (S.ah n) (Nat.le_refl _)
  rw[<-hGR] at hB
  have hWW:=hr.wl.2.1
  have hgl:GR.length=S.au n oth:=by rw[hGR,oy]
  have hsum:S.bC n vars oth mw l=GR.sum:=by rw[hGR];rfl
  have hO:Own g' 0 (.hsl 1 0 0 (S.au n oth) none) 1 (GR.map ci):=.inr ⟨1,0,lo,by omega,by omega,by rw[List.length_map,hgl],a2⟩
  have lG:dG .slice (.hsl 1 0 0 (S.au n oth) none) g'=.val (.int .i64 (GR.length:Int)):=by
   have:=(hO.sl (α:=Int) (P:=fun _=>True) (k:=0) (by omega) (All2.of_map (fun a=>aU.2 rfl) _) fun _ _=>trivial).len g'
   exact this
  have ru:=hO.rows
  simp only[sz,simprocAttr,fA,a3,lG,fE]
  refine aX (m:=GR.length) (by omega) (fun j t df g=>df=[.mark g2.nx]/\g=g'/\St t [(41,.hsl 1 0 0 (S.au n oth) none),(8,.int .i64 ((GR.take j).sum))]) ⟨rfl,rfl,by simp[St,sx]⟩ (by simp[sx]) (by simp[sx]) (by decide)
   (by rintro j t df g v s (rfl | rfl | rfl)<;>simp[sx,St]) ?_ ?_
  ·rintro j t df g hj ⟨rfl,rfl,h41,h8,-⟩ h43 h42
   obtain ⟨y,hy,-,-⟩:=ae hj
   have z1:j<(GR.map ci).length:=by simpa using hj
   have z2:(GR.map ci)[j]?=some (ci y):=by rw[List.getElem?_map,hy];rfl
   have s1:=rL hy
   have s2:=Bv hB.1 (j+1)
   have w1:IntKind.wrap .i64 ((GR.take j).sum+y)=(GR.take (j+1)).sum:=by rw[<-s1,aF (by omega) (by omega)]
   simp only[sz,simprocAttr,h41,h43,ru,z1,z2,ci,h8,w1]
   simp[St,sx,h41,h42,h43]
  ·rintro t df g ⟨rfl,rfl,h41,h8,-⟩
   rw[List.take_length] at h8
   simp only[sz,simprocAttr,fk,h8,hsum]
   show wN C0 (d+1) [.tm 4] _ [.mark g2.nx] g fun v x=>v=.int .i64 GR.sum
   refine j4 hdf ?_
   simp[uk,sx,gX]
theorem H5 {n:Net}{e vars:List Int}{kv:Nat}{r:AV}(h:NsV n e vars NoP kv .nil r):(S.aF n e vars=0/\∃p,r=.tup [p,.int .i64 0]/\Ai n vars (S.am n vars) (S.aW n e) (S.bJ n e) kv p)\/(S.aF n e vars≠0/\r=.tup [.nilp,.int .i64 (S.aF n e vars)]):=by
 unfold NsV at h
 split at h
 ·rename_i c
  obtain ⟨p,q,rfl,h1,h2⟩:=h
  have h2:=aU.1 h2
  injection h2 with h2
  exact .inl ⟨c,p,by rw[h2],Jq h1⟩
 ·rename_i c
  obtain ⟨p,q,rfl,h1,h2⟩:=h
  have h2:=aU.1 h2
  injection h2 with h2
  have h1:p=.nilp:=h1
  exact .inr ⟨c,by rw[h2,h1]⟩
theorem BM {n:Net}{e vars:List Int}:S.aF n e vars=0↔(NR n/\S.aD n e=true)/\S.aq vars (n.nodes.length:Int)=true:=by
 unfold S.aF
 split
 ·rename_i c
  rw[p_,iZ] at c
  cases S.aq vars (n.nodes.length:Int)<;>simp[c]
 ·rename_i c
  constructor
  ·intro h;exact absurd h c
  ·rintro ⟨⟨h1,h2⟩,-⟩;exact absurd (p_.2 ⟨iZ.2 h1,h2⟩) c
theorem oH {n:Net}{vars:List Int}:∀x∈S.am n vars,0<=x/\x<(n.nodes.length:Int):=by
 intro x hx
 have h:=(List.mem_filter.1 hx).1
 obtain ⟨i,hi,rfl⟩:=List.mem_map.1 h
 have:=List.mem_range.1 hi
 omega
theorem wc {n:Net}(hr:NR n)(w:Nat):0<=S.wt n w/\S.wt n w<=167961600000000:=mD hr (cY (fun c hc=>(hr.cs c hc).1) (w:Int))
theorem FH {n:Net}(hr:NR n)(e:List Int):∀x∈S.aW n e,0<=x/\x<=167961600000000:=by
 intro x hx
 obtain ⟨w,-,rfl⟩:=List.mem_map.1 hx
 unfold S.bk
 split
 ·omega
 ·exact wc hr w
theorem DM {n:Net}{e:List Int}{w:Nat}(h:w<S.ah n):(S.aW n e)[w]?=some (if S.pe n e w then S.wt n w else 0):=by
 simp only[S.aW,S.aC,List.getElem?_map,List.getElem?_range h,Option.map_some,S.bk]
 cases c:S.pe n e w<;>simp[h,c]
def S.aN (n:Net)(e vars l:List Int):Int:=if S.aF n e vars=0 then (if S.aR n vars l then 0 else 2) else S.aF n e vars
def S.aT (n:Net)(e vars l:List Int):Int:=if S.aN n e vars l=0 then S.bC n vars (S.am n vars) (S.aW n e) l else 0
theorem Fl {d k1 k2 k3:Nat}{P1 P2 P3:Nat->Prop}{g:G}{n:Net}{e vars l:List Int}{v w u z:AV}(hd:0<d)(hm:Agg n NoP 0 g.h v)(he:SlR P1 k1 g.h e w)(hv:SlR P2 k2 g.h vars u)(hk2:k2<=d)(hl:SlR P3 k3 g.h l z) :
  au C0 d N.aF [v,w,u,z] g=.val (.tup [.int .i64 (S.aT n e vars l),.int .i64 (S.aN n e vars l)]):=by
 have key:∃r,au C0 d N.aF [v,w,u,z] g=.val r/\EM (One (S.aT n e vars l)) (One (S.aN n e vars l)) NoP 0 .nil r:=by
  obtain ⟨b,rows,rfl,e1,hm',hN,r1,r2,r3,r4⟩:=d8 d hm
  obtain ⟨w',e2,hw'⟩:=aV he d
  obtain ⟨u',e3,hu'⟩:=aV hv d
  obtain ⟨z',e4,hz'⟩:=aV hl d
  rw[sE]
  refine bp um (xs:=[.agg [.int .i64 n.grain,b],w',u',z']) (by simp only[aD,e1,e2,e3,e4]) (by simp[jC]) (qL (m:=1) (bi _) (bi _) (by decide) (by decide)) (by decide) hd ?_
  simp only[sz,simprocAttr,jC,l_]
  refine bo (zI (n:=n) (e:=e) (vars:=vars) (kv:=max k2 d) (by omega) (hm' _) (hw' _) (hu' _)) fun r hr=>?_
  rcases H5 hr with ⟨c,p,rfl,hp⟩ | ⟨c,rfl⟩
  ·obtain ⟨⟨hr,hev⟩,hpl⟩:=BM.1 c
   have hl8:=hr.l2
   have hpn:=cX hpl (by omega)
   have hol:(S.am n vars).length<=n.nodes.length:=qE _ _
   have kb:=fun g:G=>Ia (d:=d+1) (g:=g) (by omega) hp hpl (hz' g.h)
   by_cases c2:S.aR n vars l=true
   ·have hbl:l.length<=vars.length:=by
     rw[S.aR,Bool.and_eq_true] at c2;exact of_decide_eq_true c2.1
    have ko:=fun g:G=>Hs (d:=d+1) (g:=g) (by omega) hr hp (bZ hpl) (by omega) oH (by omega) (oh _ _ _) (FH hr e) (hz' g.h) hbl
    have hE:S.aN n e vars l=0:=by rw[S.aN,if_pos c,if_pos c2]
    have hV:S.aT n e vars l=S.bC n vars (S.am n vars) (S.aW n e) l:=by rw[S.aT,if_pos hE]
    simp only[sz,simprocAttr,kb,c2,ko]
    rw[hE,hV]
    exact ⟨fun _=>True,_,_,rfl,aU.2 rfl,aU.2 rfl⟩
   ·have hE:S.aN n e vars l=2:=by rw[S.aN,if_pos c,if_neg c2]
    have hV:S.aT n e vars l=0:=by rw[S.aT,hE];rfl
    rw[Bool.not_eq_true] at c2
    simp only[sz,simprocAttr,kb,c2]
    rw[hE,hV]
    exact ⟨fun _=>True,_,_,rfl,aU.2 rfl,aU.2 rfl⟩
  ·have hE:S.aN n e vars l=S.aF n e vars:=by rw[S.aN,if_neg c]
   have hV:S.aT n e vars l=0:=by rw[S.aT,hE,if_neg c]
   simp only[sz,simprocAttr,c]
   rw[hE,hV]
   exact ⟨fun _=>True,_,_,rfl,aU.2 rfl,aU.2 rfl⟩
 obtain ⟨r,hr,a,c,rfl,ha,hc⟩:=key
 have ha:=aU.1 ha
 have hc:=aU.1 hc
 injection ha with ha
 injection hc with hc
 rw[hr,ha,hc]
def Sl1 (v:AV):Prop:=∀t s rows,v=.tsl t s rows->s=1
theorem AR {P:Nat->Prop}{k d n:Nat}{h:H}{l:List Int}{v v':AV}(r:SlR P k h l v)(h1:Sl1 v)(e:Hx.snap h d (n+1) v=some v'):Sl1 v':=by
 have r:=r.2
 unfold SlV at r
 split at r
 ·injection e with e;subst e;exact fun _ _ _ h=>by cases h
 ·injection e with e;subst e;exact fun _ _ _ h=>by cases h
 ·injection e with e;subst e;exact h1
 ·rename_i id ep off len lim
  obtain ⟨-,rows,q2,-⟩:=r
  simp only[af] at q2
  simp only[Hx.snap] at e
  split at q2
  ·rename_i sz' rows' ep' lo fz hg
   rw[hg] at e
   rw[aa] at q2
   split at q2
   ·rename_i hc
    simp only[Bool.and_eq_true] at hc
    obtain ⟨⟨hc1,hc2⟩,hc3⟩:=hc
    have e1:=Nat.eq_of_beq_eq_true hc2
    dsimp only at e
    rw[aa] at e
    split at e
    ·split at e
     ·split at e
      ·injection e with e;subst e
       intro t s rows h
       injection h with a1 a2 a3
       have:Rp.sz Int=1:=rfl
       omega
      ·cases e
     ·cases e
    ·cases e
   ·cases q2
  ·cases q2
 ·exact r.elim
def ET (l:List Int):VS:=fun P k h v=>SlR P k h l v/\Sl1 v
theorem qi (l:List Int):Snb (ET l) 0:=by
 refine ⟨fun {P k h v n} d r hn=>?_,fun {k h v n} r hn=>?_⟩
 ·obtain ⟨r,r1⟩:=r
  obtain ⟨v',e,r'⟩:=(bi l).snap d (show One l P k h v from ⟨v,rfl,r⟩) hn
  obtain ⟨n,rfl⟩:∃q,n=q+1:=⟨n - 1,by omega⟩
  obtain ⟨w,hw,q⟩:=r'
  injection hw with hw;subst hw
  exact ⟨v',e,q,AR r r1 e⟩
 ·exact (bi l).tag (show One l NoP k h v from ⟨v,rfl,r.1⟩) hn
theorem Iw {P:Nat->Prop}{k:Nat}{h:H}{l:List Int}{v:AV}(r:SlR P k h l v)(r1:Sl1 v)(d:Nat):∃v',Hx.snap h d aE v=some v'/\(∀h',SlR NoP (max k d) h' l v')/\Sl1 v':=by
 obtain ⟨v',e,q⟩:=aV r d
 exact ⟨v',e,q,AR r r1 e⟩
theorem If {w:AV}{l:List Int}{k:Nat}(hw:SlR NoP k .nil l w)(h1:Sl1 w){c:Nat}(hc:c<=l.length) :
  ∃w',(∀g,nL 1 w none (some (.int .i64 (c:Int))) g=.val w')/\SlR NoP k .nil (l.take c) w':=by
 by_cases hne:l=[]
 ·subst hne
  have:c=0:=by simpa using hc
  subst this
  have hl:=hw.1
  have h:=hw.2
  unfold SlV at h
  split at h
  ·exact ⟨.nils,fun g=>rfl,hl,rfl⟩
  ·exact ⟨.esl,fun g=>rfl,hl,rfl⟩
  ·rename_i t s rows
   obtain ⟨h0,-,h2⟩:=h
   have hs:=h1 t s rows rfl
   subst hs
   have:rows=[]:=by have:=h2.len;simpa using this.symm
   subst this
   exact ⟨.tsl t 1 [],fun g=>rfl,hl,h0,.inl rfl,trivial⟩
  ·exact h.1.elim
  ·exact h.elim
 ·exact Le hw hne hc
theorem qc {d k2:Nat}{P2:Nat->Prop}{g:G}{n:Net}{l:List Int}{v w:AV}(hd:0<d)(hm:Agg n NoP 0 g.h v)(hw:SlR P2 k2 g.h l w)(hn:n.nodes.length<=8)(hll:l.length<=1000)(hin:∀x∈l,0<=x/\x<(n.nodes.length:Int)) :
  ∃r,au C0 d N.aq [v,w] g=.val r/\IT 0 (S.ac (S.aa n) l) r:=by
 obtain ⟨b,rows,rfl,e1,hm',hN,-⟩:=d8 d hm
 obtain ⟨w',e2,hw'⟩:=aV hw d
 rw[tW]
 refine bp xC (xs:=[.agg [.int .i64 n.grain,b],w']) (by simp only[aD,e1,e2]) (by simp[mJ]) (bi _) (by decide) hd ?_
 simp only[sz,simprocAttr,mJ,po]
 refine bo (q7 (n:=n) (Nat.succ_pos d) (hm' _) (by omega)) fun rc hrc=>?_
 simp only[sz,simprocAttr]
 refine bo (Av (l:=S.aa n) (p:=l) (Nat.succ_pos d) (hrc.sl _) (hw' _) (by omega) (by rw[ay];exact hin)) fun r hr=>?_
 simp only[sz,simprocAttr]
 exact ⟨NoP,_,rfl,hr.sl _⟩
def S.bp (cs vs:List Int)(i:Nat):Bool:=decide (0<=vs[i]?.getD 0)&&decide (vs[i]?.getD 0<cs[i]?.getD 0)
def S.bh (cs vs:List Int):Bool:=decide (vs.length=cs.length)&&(List.range vs.length).all (S.bp cs vs)
theorem GP {d k k2:Nat}{P P2:Nat->Prop}{g:G}{cs vs:List Int}{v w:AV}(hd:0<d)(hv:SlR P k g.h cs v)(hw:SlR P2 k2 g.h vs w) :
  au C0 d N.aX [v,w] g=.val (.bool (S.bh cs vs)):=by
 obtain ⟨v',e1,hv'⟩:=aV hv d
 obtain ⟨w',e2,hw'⟩:=aV hw d
 have lv:=(hv' .nil).len
 have lw:=(hw' .nil).len
 have rv:=fun h=>(hv' h).ints
 have rw':=fun h=>(hw' h).ints
 rw[oI]
 refine dy qu (xs:=[v',w']) (by simp only[aD,e1,e2]) (by simp[dq]) hd ?_
 by_cases c:vs.length=cs.length
 ·have c':(vs.length:Int)=(cs.length:Int):=by omega
  simp only[sz,simprocAttr,dq,ig,lv,lw,c']
  refine a_ vs.length hw.1 (fun j t df g=>df=[]/\St t [(0,v'),(1,w')]/\(List.range j).all (S.bp cs vs)=true) ⟨rfl,by simp[St,sx],rfl⟩ (by simp[sx]) (by decide) (by rintro j t df g v s (rfl | rfl | rfl)<;>simp[St,sx]) ?_ ?_ ?_
  ·rintro j t df g hj ⟨rfl,⟨h0,h1,-⟩,hA⟩ h5
   simp only[sz,simprocAttr,h0,h1,h5,lw,St,hA]
  ·rintro j t df g hj ⟨rfl,⟨h0,h1,-⟩,hA⟩ h5
   obtain ⟨x,hx,-,-⟩:=ae hj
   obtain ⟨y,hy,-,-⟩:=ae (l:=cs) (j:=j) (by omega)
   have q1:j<(vs.map ci).length:=by simpa using hj
   have q2:j<(cs.map ci).length:=by rw[List.length_map];omega
   have q3:(vs.map ci)[j]?=some (ci x):=by rw[List.getElem?_map,hx];rfl
   have q4:(cs.map ci)[j]?=some (ci y):=by rw[List.getElem?_map,hy];rfl
   have hat:S.bp cs vs j=(decide (0<=x)&&decide (x<y)):=by simp[S.bp,hx,hy]
   by_cases hx0:x<0
   ·simp only[sz,simprocAttr,h0,h1,h5,rv,rw',q1,q2,q3,q4,ci,hx0]
    have:S.bp cs vs j=false:=by rw[hat];simp;omega
    simp[S.bh,dY hj this]
   ·by_cases hxy:y<=x
    ·simp only[sz,simprocAttr,h0,h1,h5,rv,rw',q1,q2,q3,q4,ci,hx0,hxy]
     have:S.bp cs vs j=false:=by rw[hat];simp;omega
     simp[S.bh,dY hj this]
    ·simp only[sz,simprocAttr,h0,h1,h5,rv,rw',q1,q2,q3,q4,ci,hx0,hxy,St]
     rw[bF,hA,hat];simp;omega
  ·rintro t df g ⟨rfl,⟨h0,h1,-⟩,hA⟩
   simp only[sz,simprocAttr,ib]
   rw[S.bh,hA,decide_eq_true c];rfl
 ·have c':¬(vs.length:Int)=(cs.length:Int):=by omega
  have hf:S.bh cs vs=false:=by simp[S.bh,c]
  simp only[sz,simprocAttr,dq,lv,lw,c',hf]
theorem Gb (n:Net)(vars l:List Int):S.aR n vars l=(decide (l.length<=vars.length)&&S.bh (S.ac (S.aa n) (vars.take l.length)) l):=by
 unfold S.aR S.bh
 by_cases c:l.length<=vars.length
 ·have h1:l.length=(S.ac (S.aa n) (vars.take l.length)).length:=by simp[S.ac];omega
  rw[decide_eq_true h1,Bool.true_and]
  congr 1
  apply Bool.eq_iff_iff.2
  simp only[List.all_eq_true,List.mem_range]
  refine forall_congr' fun i=>forall_congr' fun hi=>?_
  have:(S.ac (S.aa n) (vars.take l.length))[i]?=(S.ac (S.aa n) vars)[i]?:=by
   simp[S.ac,List.getElem?_take,hi]
  simp[S.bz,S.bp,this]
 ·simp[c]
theorem I5 {d k2 k3:Nat}{P2 P3:Nat->Prop}{g:G}{n:Net}{vars l:List Int}{v u w:AV}(hd:0<d)(hm:Agg n NoP 0 g.h v)(hv:SlR P2 k2 g.h vars u)(hv1:Sl1 u)(hw:SlR P3 k3 g.h l w)(hr:NR n)(hp:S.aq vars (n.nodes.length:Int)=true) :
  au C0 d N.bB [v,u,w] g=.val (.bool (S.aR n vars l)):=by
 obtain ⟨b,rows,rfl,e1,hm',hN,-⟩:=d8 d hm
 obtain ⟨u',e2,hu',hu1⟩:=Iw hv hv1 d
 obtain ⟨w',e3,hw'⟩:=aV hw d
 have lu:=(hu' .nil).len
 have lw:=(hw' .nil).len
 have hl8:=hr.l2
 have hpl:=cX hp (by omega)
 rw[qG]
 refine dy sL (xs:=[.agg [.int .i64 n.grain,b],u',w']) (by simp only[aD,e1,e2,e3]) (by simp[eA]) hd ?_
 rw[Gb]
 by_cases c:vars.length<l.length
 ·have c':(vars.length:Int)<(l.length:Int):=by omega
  have hf:decide (l.length<=vars.length)=false:=by simp;omega
  simp only[sz,simprocAttr,eA,fJ,lu,lw,c',hf,Bool.false_and]
 ·have c':¬(vars.length:Int)<(l.length:Int):=by omega
  have hf:decide (l.length<=vars.length)=true:=by simp;omega
  obtain ⟨y,y1,y2⟩:=If (c:=l.length) (hu' .nil) hu1 (by omega)
  simp only[sz,simprocAttr,eA,fJ,lu,lw,c',hf,Bool.true_and,List.head?_nil,List.head?_cons,y1]
  refine bo (qc (n:=n) (l:=vars.take l.length) (Nat.succ_pos d) (hm' _) (y2.wide (P:=NoP) (Nat.le_refl _)) hl8 (by rw[List.length_take];omega) fun x hx=>bZ hp x (List.mem_of_mem_take hx)) fun rc hrc=>?_
  have kc:=fun g:G=>GP (d:=d+1) (g:=g) (cs:=S.ac (S.aa n) (vars.take l.length)) (vs:=l) (Nat.succ_pos d) (hrc.sl g.h) (hw' g.h)
  simp only[sz,simprocAttr,kc]
theorem Fv {d k2:Nat}{P2:Nat->Prop}{g:G}{n:Net}{e:List Int}{v w:AV}(hd:0<d)(hm:Agg n NoP 0 g.h v)(he:SlR P2 k2 g.h e w) :
  au C0 d N.aQ [v,w] g=.val (.int .i64 (S.aK n e)):=by
 obtain ⟨b,rows,rfl,e1,hm',hN,-⟩:=d8 d hm
 obtain ⟨w',e2,hw'⟩:=aV he d
 have k1:=fun g:G=>FS (d:=d+1) (g:=g) (Nat.succ_pos d) (hm' g.h)
 have k2:=fun g:G=>GG (d:=d+1) (g:=g) (P:=NoP) (k:=0) (Nat.succ_pos d) (hm' g.h) (hw' g.h)
 rw[uf]
 refine eZ xa (xs:=[.agg [.int .i64 n.grain,b],w']) (by simp only[aD,e1,e2]) (by simp[fS]) hd ?_
 rw[S.aK]
 cases c1:S.aB n with
 | false=>simp only[sz,simprocAttr,fS,ge,k1,c1]
 | true=>cases c2:S.aD n e with
  | false=>simp only[sz,simprocAttr,fS,ge,k1,c1,k2,c2]
  | true=>simp only[sz,simprocAttr,fS,ge,k1,c1,k2,c2]
theorem Jn {d k2 k3:Nat}{P2 P3:Nat->Prop}{g:G}{n:Net}{e vars:List Int}{v w u:AV}(hd:0<d)(hm:Agg n NoP 0 g.h v)(he:SlR P2 k2 g.h e w)(hv:SlR P3 k3 g.h vars u) :
  au C0 d N.bz [v,w,u] g=.val (.int .i64 (S.aF n e vars)):=by
 obtain ⟨b,rows,rfl,e1,hm',hN,-⟩:=d8 d hm
 obtain ⟨w',e2,hw'⟩:=aV he d
 obtain ⟨u',e3,hu'⟩:=aV hv d
 have lN:=(hN.tree (h':=.nil) (Nat.le_refl 0)).len
 have k1:=fun g:G=>Fv (d:=d+1) (g:=g) (Nat.succ_pos d) (hm' g.h) (hw' g.h)
 have k2:=fun g:G=>xr (d:=d+1) (g:=g) (n:=(n.nodes.length:Int)) (Nat.succ_pos d) (hu' g.h)
 rw[sX]
 refine eZ u7 (xs:=[.agg [.int .i64 n.grain,b],w',u']) (by simp only[aD,e1,e2,e3]) (by simp[eM]) hd ?_
 rw[S.aF]
 by_cases c:S.aK n e=0
 ·cases c2:S.aq vars (n.nodes.length:Int) with
  | false=>simp only[sz,simprocAttr,eM,fe,k1,c,lN,k2,c2]
  | true=>simp only[sz,simprocAttr,eM,fe,k1,c,lN,k2,c2]
 ·simp only[sz,simprocAttr,eM,fe,k1,c]
theorem CL {d k k2 k3:Nat}{P P2 P3:Nat->Prop}{g:G}{vals vars l:List Int}{v u w:AV}(hd:0<d)(hv:SlR P k g.h vals v)(hu:SlR P2 k2 g.h vars u)(hw:SlR P3 k3 g.h l w)(hp:∀x∈vars,0<=x/\x<(vals.length:Int))(hl:l.length<=vars.length) :
  au C0 d N.bc [v,u,w] g=.val (.bool (decide ((S.ac vals vars).take l.length=l))):=by
 obtain ⟨v',e1,hv'⟩:=aV hv d
 obtain ⟨u',e2,hu'⟩:=aV hu d
 obtain ⟨w',e3,hw'⟩:=aV hw d
 have lw:=(hw' .nil).len
 have rv:=fun h=>(hv' h).ints
 have ru:=fun h=>(hu' h).ints
 have rw':=fun h=>(hw' h).ints
 have hlp:(S.ac vals vars).length=vars.length:=by simp[S.ac]
 rw[tL]
 refine dy u9 (xs:=[v',u',w']) (by simp only[aD,e1,e2,e3]) (by simp[lz]) hd ?_
 simp only[sz,simprocAttr,lz,l9]
 refine a_ l.length hw.1 (fun j t df g=>df=[]/\St t [(0,v'),(1,u'),(2,w')]/\(S.ac vals vars).take j=l.take j) ⟨rfl,by simp[St,sx],by simp⟩ (by simp[sx]) (by decide) (by rintro j t df g v s (rfl | rfl | rfl)<;>simp[St,sx]) ?_ ?_ ?_
 ·rintro j t df g hj ⟨rfl,⟨h0,h1,h2,-⟩,hA⟩ h5
  simp only[sz,simprocAttr,h0,h1,h2,h5,lw,St,hA]
 ·rintro j t df g hj ⟨rfl,⟨h0,h1,h2,-⟩,hA⟩ h5
  obtain ⟨x,hx,hxt,-⟩:=ae hj
  obtain ⟨p,hpx,-,hpm⟩:=ae (l:=vars) (j:=j) (by omega)
  obtain ⟨p0,p1⟩:=hp p hpm
  obtain ⟨pn,rfl⟩:=Int.eq_ofNat_of_zero_le p0
  obtain ⟨y,hy,-,-⟩:=ae (l:=vals) (j:=pn) (by omega)
  have q1:j<(l.map ci).length:=by simpa using hj
  have q2:(l.map ci)[j]?=some (ci x):=by rw[List.getElem?_map,hx];rfl
  have q3:j<(vars.map ci).length:=by rw[List.length_map];omega
  have q4:(vars.map ci)[j]?=some (ci (pn:Int)):=by rw[List.getElem?_map,hpx];rfl
  have q5:pn<(vals.map ci).length:=by rw[List.length_map];omega
  have q6:(vals.map ci)[pn]?=some (ci y):=by rw[List.getElem?_map,hy];rfl
  have hcj:(S.ac vals vars)[j]?=some y:=by simp[S.ac,hpx,hy]
  have ht:(S.ac vals vars).take (j+1)=(S.ac vals vars).take j++[y]:=by
   rw[List.take_succ_eq_append_getElem (by omega)]
   congr 2
   rw[List.getElem?_eq_getElem (by omega)] at hcj;injection hcj
  by_cases e:y=x
  ·simp only[sz,simprocAttr,h0,h1,h2,h5,rv,ru,rw',q1,q2,q3,q4,q5,q6,ci,e,St]
   rw[ht,hxt,hA,e]
  ·have hne:¬(S.ac vals vars).take l.length=l:=fun h=>by
    have:=congrArg (·[j]?) h
    simp only[List.getElem?_take,hj,if_true,hcj,hx] at this
    injection this with this
    exact e this
   simp only[sz,simprocAttr,h0,h1,h2,h5,rv,ru,rw',q1,q2,q3,q4,q5,q6,ci,e,hne,decide_false]
 ·rintro t df g ⟨rfl,⟨h0,h1,h2,-⟩,hA⟩
  rw[List.take_length] at hA
  simp only[sz,simprocAttr,lX,hA,decide_true]
theorem Ik {l:List Int}{i:Int}(h:∀y∈l,0<=y)(hi:i.toNat<l.length):S.aY l i 0=l:=by
 unfold S.aY
 have:=h _ (List.getElem_mem hi)
 rw[List.getElem?_eq_getElem hi,Option.getD_some,Int.max_eq_left this,List.set_getElem_self]
theorem BK {f:Nat->Int}{N W:Nat}{c p:Nat->Bool}{x y:Nat->Int}{M:Int}(hf:∀j,j<W->0<=f j/\f j<(N:Int))(hx:∀j,j<W->0<=x j/\x j<=M)(hxy:∀j,j<W->x j=if p j then y j else 0):∀j,j<=W->S.aw f N c x j=S.aw f N (fun w=>p w&&c w) y j
 | 0,_=>rfl
 | j+1,h=>by
  have ih:=BK (c:=c) hf hx hxy j (by omega)
  rw[S.aw,S.aw,<-ih,hxy j (by omega)]
  cases hp:p j with
  | true=>simp
  | false =>
   have hb:=(rm (c:=c) hf hx j (by omega)).1
   have:=hf j (by omega)
   cases c j with
   | true=>simpa using Ik hb (by rw[oy];omega)
   | false=>simp
def S.bE (n:Net)(e vars oth l:List Int):Int:=(S.aw (S.aJ n oth) (S.au n oth) (fun w=>S.pe n e w&&S.a_ n vars l w) (S.wt n) (S.ah n)).sum
theorem Az {n:Net}(hr:NR n){oth:List Int}(hpo:∀x∈oth,0<=x/\x<(n.nodes.length:Int))(j:Nat):0<=S.aJ n oth j/\S.aJ n oth j<(S.au n oth:Int):=by
 have hpb:=cA (ps:=oth) hr.cs (fun p hpm=>by rw[ay];exact hpo p hpm)
 have hin:=cY (fun c hc=>(hr.cs c hc).1) (j:Int)
 have hf:=cT hpb (eP hin (fun p hpm=>by rw[ay];exact hpo p hpm))
 have h1:=(ch hpb).1
 unfold S.au
 unfold S.aJ
 omega
theorem IF {n:Net}(hr:NR n)(e vars l:List Int):S.bC n vars (S.am n vars) (S.aW n e) l=S.bE n e vars (S.am n vars) l:=by
 unfold S.bC S.bE
 congr 1
 refine BK (M:=167961600000000) (W:=S.ah n) (fun j _=>Az hr oH j) (fun j hj=>?_) (fun j hj=>?_) _ (Nat.le_refl _)
 ·rw[DM hj]
  have:=wc hr j
  simp only[Option.getD_some]
  split<;>omega
 ·rw[DM hj];rfl
def LRB (w' u' z':AV):List (Nat×AV):=[(1,w'),(2,u'),(3,z'),(4,.hptr 0 0 0 0)]
theorem K4 {d k:Nat}{n:Net}{vars:List Int}{b w' u' z':AV}{Q:QT}{t:T}{g:G}(hN:∀h,SlR NoP 0 h n.nodes b)(hn:n.nodes.length<=8)(hu:∀h,SlR NoP k h vars u')(h0:g.h.get 0=.cells 2 [[.int .i64 n.grain,b]] 0 false false)(hnx:1<=g.nx)
  (ht:St t (LRB w' u' z')) (h9:tat t 9=.nils) (h10:tat t 10=.int .i64 0)
  (fin:∀t g' u,St t ((9,u)::LRB w' u' z')->1<=g'.nx->g'.h.get 0=.cells 2 [[.int .i64 n.grain,b]] 0 false false->Own g' 1 u 1 ((S.am n vars).map ci)->Q (.exit 0) t [] g'):wpL (wp C0 d none jc) Q t [] g:=by
 have lN:=(hN .nil).len
 have lu:=(hu .nil).len
 have ru:=fun h=>(hu h).ints
 simp only[jc,nS]
 refine a_ n.nodes.length (by omega) (fun j t df g=>df=[]/\St t (LRB w' u' z')/\g.h.get 0=.cells 2 [[.int .i64 n.grain,b]] 0 false false/\1<=g.nx/\Own g 1 (tat t 9) 1 ((S.aZ vars j).map ci)) ⟨rfl,ht,h0,hnx,.inl ⟨h9,rfl⟩⟩ h10 (by decide)
  (by rintro j t df g v s (rfl | rfl | rfl) ⟨a1,⟨b1,b2,b3,b4,-⟩,c1,c2,c3⟩<;>exact ⟨a1,by simp[St,LRB,sx,b1,b2,b3,b4],c1,c2,by simpa [sx] using c3⟩) ?_ ?_ ?_
 ·rintro j t df g hj ⟨rfl,⟨h1,h2,h3,h4,-⟩,hg,hx,ho⟩ h10
  simp only[sz,simprocAttr,h4,h10,hg,lN]
  exact ⟨by simp[St,LRB,sx,h1,h2,h3,h4],hx,by simpa [sx] using ho⟩
 ·rintro j t df g hj ⟨rfl,⟨h1,h2,h3,h4,-⟩,hg,hx,ho⟩ h10
  have hol:=qE vars j
  simp only[sz,simprocAttr,nf]
  refine a_ vars.length (hu .nil).1 (fun i t df g'=>df=[]/\g'=g/\St t ((10,.int .i64 (j:Int))::(11,.bool (decide ((j:Int)∈vars.take i)))::LRB w' u' z')/\Own g 1 (tat t 9) 1 ((S.aZ vars j).map ci)) ⟨rfl,rfl,by simp[St,LRB,sx,h1,h2,h3,h4,h10],by simpa [sx] using ho⟩ (by simp[sx]) (by decide)
   (by rintro i t df g v s (rfl | rfl | rfl) ⟨a1,a2,⟨c1,c2,b1,b2,b3,b4,-⟩,c3⟩<;>exact ⟨a1,a2,by simp[St,LRB,sx,c1,c2,b1,b2,b3,b4],by simpa [sx] using c3⟩) ?_ ?_ ?_
  ·rintro i t df g' hi ⟨rfl,rfl,⟨h10,h11,h1,h2,h3,h4,-⟩,ho⟩ h12
   simp only[sz,simprocAttr,h2,h12,lu]
   exact ⟨by simp[St,LRB,sx,h1,h2,h3,h4,h10,h11],by simpa [sx] using ho⟩
  ·rintro i t df g' hi ⟨rfl,rfl,⟨h10,h11,h1,h2,h3,h4,-⟩,ho⟩ h12
   obtain ⟨x,hx',hxt,-⟩:=ae hi
   have z1:i<(vars.map ci).length:=by simpa using hi
   have z2:(vars.map ci)[i]?=some (ci x):=by rw[List.getElem?_map,hx'];rfl
   by_cases c:(j:Int)∈vars.take i
   ·rw[decide_eq_true c] at h11
    have c':(j:Int)∈vars.take (i+1):=by rw[hxt];simp[c]
    simp only[sz,simprocAttr,h11,h12]
    exact ⟨⟨by simp[sx,h10],by simp[St,LRB,sx,h1,h2,h3,h4,c']⟩,by simpa [sx] using ho⟩
   ·rw[decide_eq_false c] at h11
    have c':decide ((j:Int)∈vars.take (i+1))=decide (x=(j:Int)):=by
     rw[hxt];simp[c,eq_comm]
    simp only[sz,simprocAttr,h11,h12,h2,ru,z1,z2,ci,h10]
    exact ⟨⟨by simp[sx,h10],by simp[St,LRB,sx,h1,h2,h3,h4,c']⟩,by simpa [sx] using ho⟩
  ·rintro t df g' ⟨rfl,rfl,⟨h10,h11,h1,h2,h3,h4,-⟩,ho⟩
   rw[List.take_length] at h11
   by_cases c:(j:Int)∈vars
   ·rw[decide_eq_true c] at h11
    simp only[sz,simprocAttr,i_,h11]
    refine ⟨⟨by simp[St,LRB,sx,h1,h2,h3,h4],hg,hx,?_⟩,by simp[sx,h10]⟩
    rw[qS,if_pos c,List.append_nil]
    simpa [sx] using ho
   ·rw[decide_eq_false c] at h11
    simp only[sz,simprocAttr,i_,h11,h10]
    refine cF (ho.fr (g':=_) (by simp<;>omega) (fun i hi=>?_)) (new:=[[.int .i64 (j:Int)]]) ?_ (by simp<;>omega) (by simp[aO]<;>omega) fun v5 g5 o5 n5 f5 w5 _=>?_
    ·have:=ho.lt hi
     simp[H.get_put];omega
    ·simp[af,H.get_put];rfl
    ·have f0:g5.h.get 0=g'.h.get 0:=by
      rw[f5 0 (by simp<;>omega) fun h=>by have:=ho.lt h;omega]
      rw[G.new_h,ap _ _ _ (by omega)]
     have n5':g'.nx<=g5.nx:=Nat.le_trans (by simp) n5
     simp only[sz,simprocAttr]
     refine ⟨⟨by simp[St,LRB,sx,h1,h2,h3,h4],by rw[f0,hg],by omega,?_⟩,by simp[sx,h10]⟩
     rw[qS,if_neg c,List.map_append]
     simpa [sx,ci] using o5
 ·rintro t df g ⟨rfl,ht,hg,hx,ho⟩
  exact fin t g _ ⟨rfl,ht⟩ hx hg ho
theorem EZ {d k1 k2 k3:Nat}{P1 P2 P3:Nat->Prop}{g:G}{n:Net}{e vars l:List Int}{v w u z:AV}(hd:0<d)(hm:Agg n NoP 0 g.h v)(he:SlR P1 k1 g.h e w)(hv:SlR P2 k2 g.h vars u)(hl:SlR P3 k3 g.h l z)(hr:NR n)(hel:e.length=n.nodes.length)(hp:S.aq vars (n.nodes.length:Int)=true)(hbl:l.length<=vars.length) :
  au C0 d N.bo [v,w,u,z] g=.val (.int .i64 (S.bE n e vars (S.am n vars) l)):=by
 obtain ⟨b,rows,rfl,e1,hm',hN,-⟩:=d8 d hm
 obtain ⟨w',e2,hw'⟩:=aV he d
 obtain ⟨u',e3,hu'⟩:=aV hv d
 obtain ⟨z',e4,hz'⟩:=aV hl d
 have hN':∀h,SlR NoP 0 h n.nodes b:=fun h=>hN.tree (Nat.le_refl 0)
 have hl8:=hr.l2
 have hpn:=cX hp (by omega)
 have hol:(S.am n vars).length<=n.nodes.length:=qE _ _
 have hpb:=cA (ps:=S.am n vars) hr.cs (fun p hpm=>by rw[ay];exact oH p hpm)
 have hlp:(S.ac (S.aa n) (S.am n vars)).length=(S.am n vars).length:=by simp[S.ac]
 have hcs:CsOk (S.ac (S.aa n) (S.am n vars)):=⟨hpb,by omega⟩
 obtain ⟨N1,N2,N3⟩:=hcs.nc
 have hNN:S.nc (S.ac (S.aa n) (S.am n vars))=S.au n (S.am n vars):=rfl
 rw[hNN] at N1 N2 N3
 obtain ⟨W1,W2,W3⟩:=hr.wl
 have hd1:=Nat.succ_pos d
 rw[uC]
 refine eZ xk (xs:=[.agg [.int .i64 n.grain,b],w',u',z']) (by simp only[aD,e1,e2,e3,e4]) (by simp[mm]) hd ?_
 simp only[sz,simprocAttr,mm,pt]
 refine K4 (n:=n) (b:=b) (w':=w') (u':=u') (z':=z') hN' hl8 hu' (by simp[H.get_put,show G.empty.nx=0 from rfl]) (by simp) (by simp[St,LRB,sx]) (by simp[sx]) (by simp[sx]) ?_
 rintro t g1 uo ⟨h9,h1,h2,h3,h4,-⟩ hnx1 g0 hO
 have hso:SlR (fun i=>vid uo=some i) 0 g1.h (S.am n vars) uo:=hO.sl (α:=Int) (by omega) (All2.of_map (fun a=>aU.2 rfl) _) fun i hi=>hi
 simp only[kB,sz,simprocAttr,mV,h4,g0,h9]
 refine bo (qc (n:=n) (l:=S.am n vars) hd1 (hm' _) hso hl8 (by omega) oH) fun rc hrc=>?_
 simp only[sz,simprocAttr,tC hd1 (hrc.sl g1.h)]
 rw[kf hpb (by omega),<-N3]
 refine s7 (b:=1) (n:=S.au n (S.am n vars)) (by unfold aO;omega) (by unfold aO;omega) (by omega) fun bu g2 hB n2 f2 v2=>?_
 obtain ⟨GR,hGR⟩:∃GR,GR=S.aw (S.aJ n (S.am n vars)) (S.au n (S.am n vars)) (fun w=>S.pe n e w&&S.a_ n vars l w) (S.wt n):=⟨_,rfl⟩
 have hGl:∀j,(GR j).length=S.au n (S.am n vars):=fun j=>by rw[hGR,oy]
 simp only[sz,simprocAttr,nC,nD]
 refine a_ (S.ah n) (by omega) (fun j t df g=>df=[]/\St t ((9,uo)::(13,bu)::LRB w' u' z')/\Own g 1 bu 1 ((GR j).map ci)/\(∀i,i<g1.nx->g.h.get i=g1.h.get i)/\g1.nx<=g.nx)
  ⟨rfl,by simp[St,LRB,sx,h9,h1,h2,h3,h4],by simpa [hGR,S.aw,ci] using hB,f2,by omega⟩ (by simp[sx]) (by decide)
  (by rintro i t df g v s (rfl | rfl | rfl) ⟨a1,⟨c1,c2,b1,b2,b3,b4,-⟩,c3⟩<;>exact ⟨a1,by simp[St,LRB,sx,c1,c2,b1,b2,b3,b4],c3⟩) ?_ ?_ ?_
 ·rintro j t df g3 hj ⟨rfl,⟨h9,h13,h1,h2,h3,h4,-⟩,hB3,hf3,hn3⟩ h14
  have hw:=fun g=>CC (d:=d+1) (g:=g) (P:=NoP) (k:=0) hd1 (hm' g.h) hr
  have g03:g3.h.get 0=.cells 2 [[.int .i64 n.grain,b]] 0 false false:=by rw[hf3 0 (by omega),g0]
  simp only[sz,simprocAttr,h4,h14,g03,hw]
  exact ⟨by simp[St,LRB,sx,h9,h13,h1,h2,h3,h4],hB3,hf3,hn3⟩
 ·rintro j t df g3 hj ⟨rfl,⟨h9,h13,h1,h2,h3,h4,-⟩,hB3,hf3,hn3⟩ h14
  have g03:g3.h.get 0=.cells 2 [[.int .i64 n.grain,b]] 0 false false:=by rw[hf3 0 (by omega),g0]
  have hso3:SlR (fun i=>vid uo=some i) 0 g3.h (S.am n vars) uo:=hso.far8 fun i hi=>hf3 i (hO.lt hi).2
  have hvl:=oe (S.aa n) (j:Int)
  rw[ay] at hvl
  have hin:=cY (fun c hc=>(hr.cs c hc).1) (j:Int)
  simp only[sz,simprocAttr,h4,h14,g03]
  refine bo (we (d:=d+1) (P:=NoP) (k:=0) (w:=j) hd1 (hm' _) hr (by omega)) fun rv hrv=>?_
  have hma:=fun g=>B2 (d:=d+1) (g:=g) (P:=NoP) (P2:=NoP) (k:=0) (k2:=max k1 d) (vals:=S.ak (S.aa n) (j:Int)) (e:=e) hd1 (hrv.sl g.h) (hw' g.h) (by omega)
  have hbe:=fun g:G=>CL (d:=d+1) (g:=g) (vals:=S.ak (S.aa n) (j:Int)) (vars:=vars) (l:=l) hd1 (hrv.sl g.h) (hu' g.h) (hz' g.h) (by rw[hvl];exact bZ hp) hbl
  cases hmt:S.bi (S.ak (S.aa n) (j:Int)) e with
  | false =>
   have hpe:S.pe n e j=false:=hmt
   rw[hmt] at hma
   simp only[sz,simprocAttr,h1,h2,h3,hma]
   refine ⟨⟨by simp[St,LRB,sx,h9,h13,h1,h2,h3,h4],?_,hf3,hn3⟩,by simp[sx,h14]⟩
   have:GR (j+1)=GR j:=by rw[hGR,S.aw,if_neg (by simp[hpe])]
   rw[this];exact hB3
  | true =>
   have hpe:S.pe n e j=true:=hmt
   rw[hmt] at hma
   by_cases hb:(S.ac (S.ak (S.aa n) (j:Int)) vars).take l.length=l
   ·rw[decide_eq_true hb] at hbe
    have hbg:S.a_ n vars l j=true:=decide_eq_true hb
    have hG1:GR (j+1)=S.aY (GR j) (S.aJ n (S.am n vars) j) (S.wt n j):=by rw[hGR,S.aw,if_pos (by simp[hpe,hbg])]
    simp only[sz,simprocAttr,h1,h2,h3,hma,hbe,h4,g03,h9]
    refine bo (qc (n:=n) (l:=S.am n vars) hd1 (hm' _) hso3 hl8 (by omega) oH) fun rc2 hrc2=>?_
    simp only[sz,simprocAttr,h9]
    refine bo (Av (l:=S.ak (S.aa n) (j:Int)) (p:=S.am n vars) hd1 (hrv.sl _) hso3 (by omega) (by rw[hvl];exact oH)) fun ra hra=>?_
    have hid:=fun g:G=>AF (d:=d+1) (g:=g) hd1 (hrc2.sl g.h) (hra.sl g.h) (by omega) hpb (eP hin (fun p hpm=>by rw[ay];exact oH p hpm))
    have hf:=Az hr (oH (n:=n) (vars:=vars)) j
    have hox:S.af (S.ac (S.aa n) (S.am n vars)) (S.ac (S.ak (S.aa n) (j:Int)) (S.am n vars))=S.aJ n (S.am n vars) j:=rfl
    simp only[hox] at hid
    obtain ⟨fn,hfn⟩:=Int.eq_ofNat_of_zero_le hf.1
    rw[hfn] at hid hf hG1
    obtain ⟨y,hy,-,-⟩:=ae (l:=GR j) (j:=fn) (by rw[hGl];omega)
    have z1:fn<((GR j).map ci).length:=by rw[List.length_map,hGl];omega
    have z2:((GR j).map ci)[fn]?=some (ci y):=by rw[List.getElem?_map,hy];rfl
    have hup:S.aY (GR j) (fn:Int) (S.wt n j)=(GR j).set fn (max y (S.wt n j)):=by rw[S.aY,Int.toNat_natCast,hy];rfl
    have hwt:=fun g=>CP (d:=d+1) (g:=g) (w:=j) hd1 (hm' g.h) hr (by omega)
    have hwt':∀g,au C0 (d+1) N.ax [.agg [.int .i64 n.grain,b],.int .i64 (j:Int)] g=.val (.int .i64 (S.wt n j)):=hwt
    simp only[sz,simprocAttr,hid]
    simp only[sz,simprocAttr,sf,h13,hB3.rows,z1,z2,ci,h4,g03,h14,hwt']
    refine dB (b:=1) (v:=bu) (sz:=1) (n:=1) (i:=fn) (off:=0) (x:=.int .i64 (max y (S.wt n j))) (row:=ci y) (row':=ci (max y (S.wt n j))) (hB3.fr (by simp<;>omega) (fun i' hi'=>by simp)) z2 rfl rfl rfl fun g5 o5 n5 f5=>?_
    rw[<-List.map_set,<-hup,<-hG1] at o5
    simp only[sy] at n5 f5
    simp only[sz,simprocAttr,sf]
    refine ⟨?_,?_⟩
    ·simp only[List.reverse_cons,List.reverse_nil,List.nil_append,List.cons_append]
     exact aJ [false,false,false,false,false,false,false,false,false,false,false,true] [] (by simp[All2,am,aB,tD]) (by decide) (by simp)
    refine ⟨⟨by simp[St,LRB,sx,h9,h13,h1,h2,h3,h4],o5.fr (by simp<;>omega) fun i' h=>by simp,fun i hi=>?_,by first | omega | (simp<;>omega)⟩,by simp[sx,h14]⟩
    rw[f5 i (fun h=>by rw[v2] at h;injection h with h;omega),hf3 i hi]
   ·rw[decide_eq_false hb] at hbe
    have hbg:S.a_ n vars l j=false:=decide_eq_false hb
    simp only[sz,simprocAttr,h1,h2,h3,hma,hbe]
    refine ⟨⟨by simp[St,LRB,sx,h9,h13,h1,h2,h3,h4],?_,hf3,hn3⟩,by simp[sx,h14]⟩
    have:GR (j+1)=GR j:=by rw[hGR,S.aw,if_neg (by simp[hbg])]
    rw[this];exact hB3
 ·rintro t df g3 ⟨rfl,⟨h9,h13,h1,h2,h3,h4,-⟩,hB3,hf3,hn3⟩
  have hB:=rm (f:=S.aJ n (S.am n vars)) (N:=S.au n (S.am n vars)) (c:=fun w=>S.pe n e w&&S.a_ n vars l w) (x:=S.wt n) (M:=167961600000000) (W:=S.ah n) (fun j _=>Az hr oH j) (fun j _=>wc hr j) (S.ah n) (Nat.le_refl _)
  have hsum:S.bE n e vars (S.am n vars) l=(GR (S.ah n)).sum:=by rw[hGR];rfl
  have hgl:=hGl (S.ah n)
  rw[hsum]
  rw[<-hGR] at hB
  obtain ⟨G0,hG0⟩:∃G0,G0=GR (S.ah n):=⟨_,rfl⟩
  rw[<-hG0] at hB hB3 hgl ⊢
  have lG:dG .slice bu g3=.val (.int .i64 (G0.length:Int)):=(hB3.sl (α:=Int) (P:=fun _=>True) (k:=0) (by omega) (All2.of_map (fun a=>aU.2 rfl) _) fun _ _=>trivial).len g3
  have ru:=hB3.rows
  simp only[kB,sz,simprocAttr,ni,nW]
  refine a_ G0.length (by omega) (fun j t df g=>df=[]/\g=g3/\St t [(13,bu),(17,.int .i64 ((G0.take j).sum))]) ⟨rfl,rfl,by simp[St,sx,h13]⟩ (by simp[sx]) (by decide) (by rintro i t df g v s (rfl | rfl | rfl)<;>simp[St,sx]) ?_ ?_ ?_
  ·rintro j t df g hj ⟨rfl,rfl,h13,h17,-⟩ h18
   simp only[sz,simprocAttr,h13,h18,lG]
   simp[St,sx,h13,h17]
  ·rintro j t df g hj ⟨rfl,rfl,h13,h17,-⟩ h18
   obtain ⟨y,hy,-,-⟩:=ae hj
   have z1:j<(G0.map ci).length:=by simpa using hj
   have z2:(G0.map ci)[j]?=some (ci y):=by rw[List.getElem?_map,hy];rfl
   have s1:=rL hy
   have s2:=Bv hB.1 (j+1)
   have w1:IntKind.wrap .i64 ((G0.take j).sum+y)=(G0.take (j+1)).sum:=by rw[<-s1,aF (by omega) (by omega)]
   simp only[sz,simprocAttr,h13,h18,ru,z1,z2,ci,h17,w1]
   simp[St,sx,h13,h18]
  ·rintro t df g ⟨rfl,rfl,h13,h17,-⟩
   rw[List.take_length] at h17
   simp only[sz,simprocAttr,oa,h17]
theorem tp {α:Type}{l:List α}{i:Nat}{a:α}(h:l[i]?=some a):l.set i a=l:=by
 refine List.ext_getElem? fun j=>?_
 rw[List.getElem?_set]
 by_cases e:i=j
 ·subst e
  rw[if_pos rfl,if_pos (List.getElem?_eq_some_iff.1 h).1,h]
 ·rw[if_neg e]
theorem BS.fin0 {K J:Nat}{L:List Node}{x:Node}{bx:jU}{gr Rw:Int}{t t':T}{g:G}{V:Ky->AV}{E:Ky->En}{Q:QT}(hS:BS K J L x bx gr Rw t g V E)(fin:td Q)(h3:tat t' 3=.hptr 1 0 0 0)(h4:tat t' 4=.hptr 2 0 0 0):Q .norm t' [] g :=
 fin _ _ gr _ L h3 h4 hS.f1 hS.f2 hS.sl
theorem A8 {g:G}{v:AV}{rows:List (List AV)}(h:af g.h 1 v=some rows)(hl:0<rows.length):∀g':G,g'.h=g.h->zM 1 v (.int .i64 0) g'=.val (iQ 1 v 0 0):=fun g' e =>
 BX (by rw[e,h];rfl) (by decide) (by rw[e,h];simpa using hl)
structure BW (x:Node) (J:Nat) (g:G) (V:Ky->AV) (E:Ky->En) (rws:List (List AV)):Prop where
 own:Own g 3 (V (J+1,1)) 1 rws
 e1:E (J+1,1)=.sl 1 rws
 len:rws.length=x.rows.length
 at_:∀(r:Nat) (y:List Int),x.rows[r]?=some y->rws[r]?=some [V (J+1,2+r)]
theorem BS.bw {K J:Nat}{L:List Node}{x:Node}{bx:jU}{gr Rw:Int}{t:T}{g:G}{V:Ky->AV}{E:Ky->En}(hS:BS K J L x bx gr Rw t g V E):∃rws,BW x J g V E rws:=by
 obtain ⟨rws,q1,q2,q3⟩:=(hS.bl.nd J x hS.hx).rs
 exact ⟨rws,hS.hp.own (LS.s hS.hx (by omega)) q1,q1,q2,q3⟩
theorem zL {K r:Nat}{J:Nat}{x:Node}{V V':Ky->AV}{E E':Ky->En}{rws:List (List AV)}{y':List Int}(h:NdOk K V E J x)(hq:∀r y,x.rows[r]?=some y->rws[r]?=some [V (J+1,2+r)])(hl:rws.length=x.rows.length)(hr:r<x.rows.length)
  (hp:E' (J+1,0)=E (J+1,0)) (h1:E' (J+1,1)=.sl 1 (rws.set r [V' (J+1,2+r)])) (h2:E' (J+1,2+r)=.sl 1 (y'.map ci)) (hv:∀q,q≠r->V' (J+1,2+q)=V (J+1,2+q)) (he:∀q,q≠r->E' (J+1,2+q)=E (J+1,2+q)) (hy:y'.length<=K):NdOk K V' E' J ⟨x.card,x.parents,x.rows.set r y'⟩:=by
 refine ⟨by rw[hp];exact h.ps,⟨_,h1,by simp[hl],fun q z hz=>?_⟩,fun q z hz=>?_,h.len.1,by simpa using h.len.2.1,fun z hz=>?_⟩
 ·have hz:(x.rows.set r y')[q]?=some z:=hz
  by_cases e:r=q
  ·subst e
   rw[List.getElem?_set_self (by omega)]
  ·rw[List.getElem?_set_ne e] at hz ⊢
   rw[hv q (Ne.symm e)]
   exact hq q z hz
 ·have hz:(x.rows.set r y')[q]?=some z:=hz
  by_cases e:r=q
  ·subst e
   rw[List.getElem?_set_self (by omega)] at hz
   injection hz with hz;subst hz
   exact h2
  ·rw[List.getElem?_set_ne e] at hz
   rw[he q (Ne.symm e)]
   exact h.rr q z hz
 ·rcases List.mem_or_eq_of_mem_set hz with h' | rfl
  ·exact h.len.2.2 z h'
  ·exact hy
section
variable {d K J:Nat}{L:List Node}{x:Node}{bx:jU}{gr Rw:Int}{t:T}{g:G}{V:Ky->AV}{E:Ky->En}{Q:QT}
theorem bc4 (hS:BS K J L x bx gr Rw t g V E)(fin:td Q) :
  wp C0 d none (.feet [0,0,2,6,14,0,32,96,224,510,1023,2047,4095] [oM 142 10,oM 143 10,o 144 (.nilc (.t 143)),oF 145 2 144,oL 146 145,oF 147 3 2,oL 148 147,o 149 (.bsl 1 1 [.int .i64 0] [0] [.t 148]),o 150 (.bsl 1 1 [.nils] [0] [.t 149]),o 151 (.app 1 24 (.t 146) (.t 150)),o 152 (.nilc (.t 142)),oF 153 2 152,oz (.store 1 (.t 153) (.t 151))]) Q t [] g:=by
 obtain ⟨h2,h3,h4,h10,h11,-⟩:=hS.st
 obtain ⟨rows,hB⟩:=hS.bt
 obtain ⟨rws,hW⟩:=hS.bw
 have hK:=hS.hK
 have hl:=hS.hl
 have hnx:=hS.hp.nx
 have hlen:=hB.nd.len
 simp only[sz,simprocAttr,sf,h2,h10,hS.f0,bk hB.ry,bz hB.ry,hB.own.rows,hB.hlt,hB.row]
 refine (hS.hp.step (g':=_) (by simp<;>omega) (fun i hi hi2=>?_)).app2 (k:=(J+1,1)) (LS.s hS.hx (by omega)) hW.e1 (new:=[[.hsl (g.nx+1+1+1+1+1+1+1) 0 0 1 none]]) (by simp[sx,sy]) (by have:=hW.len;simp[aO];omega) fun v1 ga hHa na fra foa lga vca vta=>?_
 ·simp[H.get_put]
  rw[if_neg (by omega),if_neg (by omega)]
 simp only[sx,sy] at na fra foa lga
 have e00:ups V (J+1,1) v1 (0,0)=V (0,0):=ac _ _ (by simp<;>omega)
 have kn:ga.h.get (g.nx+1+1+1+1+1+1+1)=.cells 1 [[.int .i64 bx.2.2.2]] 0 false false:=by
  rw[foa (g.nx+1+1+1+1+1+1+1) (by omega) (fun e=>by rw[bP hW.own] at e;have:=(hW.own.lt e).2;omega)]
  simp[H.get_put]
 simp only[sz,simprocAttr,sf,bk hB.ry,bz hB.ry]
 refine (hHa.same (g':=_) (by simp) (by simp<;>omega)).putv (k:=(0,0)) LS.z e00 (row':=[.int .i64 x.card,V (J+1,0),v1]) (by rw[ac _ _ (by simp<;>omega)];exact hB.e0) hB.row (by rw[vca];rfl) vta (by rw[vca];rfl) fun gb hHb nb frb fob=>?_
 simp only[sy] at nb frb fob ⊢
 refine ⟨?_,?_⟩
 ·simp only[List.reverse_cons,List.reverse_nil,List.nil_append,List.cons_append]
  refine aJ [false,false,false,false,false,false,false,true,true,true,false,false,true] [(0,7),(1,7),(2,7),(3,7),(4,7),(0,8),(1,8),(2,8),(3,8),(4,8),(0,9)] (by simp[All2,am,aB]) (by decide) ?_
  rintro p hp x y hx hy
  simp only[List.mem_cons,List.not_mem_nil,or_false] at hp
  have ro1:=hB.own.refs_lt
  rcases hp with rfl | rfl | rfl | rfl | rfl | rfl | rfl | rfl | rfl | rfl | rfl<;>(simp at hx hy;subst hx;subst hy;refine dX rfl rfl rfl rfl ?_ ?_ ?_<;>simp[am,aB,jl hB.ry]<;>first | omega | (intro i' hi';have:=ro1 i' hi';omega) | skip)
 have knb:gb.h.get (g.nx+1+1+1+1+1+1+1)=.cells 1 [[.int .i64 bx.2.2.2]] 0 false false:=by
  rw[fob (g.nx+1+1+1+1+1+1+1) (fun e=>by rw[e00,bP hB.own] at e;have:=(hB.own.lt e).2;omega)]
  simpa using kn
 have hpar:SlR P3 0 gb.h x.parents (V (J+1,0)):=by
  have:=hHb.own (k:=(J+1,0)) (LS.s hS.hx (by omega)) (by rw[ac _ _ (by simp<;>omega),ac _ _ (by simp<;>omega)];exact hB.nd.ps)
  rw[ac _ _ (by simp<;>omega)] at this
  exact rg this (by omega) fun _ h=>h
 have hrws:SlR P3 0 gb.h (x.rows++[[bx.2.2.2]]) v1:=by
  have ho:=hHb.own (k:=(J+1,1)) (LS.s hS.hx (by omega)) (by rw[ac _ _ (by simp<;>omega),an])
  rw[an] at ho
  refine Own.sl (α:=List Int) ho (by simp<;>omega) (All2.append (sY hW.len.symm fun r y row hy hr=>?_) ⟨?_,trivial⟩) fun i hi=>(ho.lt hi).1
  ·rw[hW.at_ r y hy] at hr
   injection hr with hr;subst hr
   have hrl:=(List.getElem?_eq_some_iff.1 hy).1
   have:=hHb.own (k:=(J+1,2+r)) (LS.s hS.hx (by omega)) (by rw[ac _ _ (by simp<;>omega),ac _ _ (by simp<;>omega)];exact hB.nd.rr r y hy)
   rw[ac _ _ (by simp<;>omega)] at this
   exact cK.2 ⟨_,rfl,rg this (by have:=hlen.2.2 y (List.mem_of_getElem? hy);omega) fun _ h=>h⟩
  ·refine cK.2 ⟨_,rfl,by show 1<9223372036854775808;decide,(by show 3<=(g.nx+1+1+1+1+1+1+1);omega),[[.int .i64 bx.2.2.2]],?_,aU.2 rfl,trivial⟩
   show af gb.h 1 _=_
   simp only[af,knb];rfl
 obtain ⟨nds,hn⟩:=si (x':=⟨x.card,x.parents,x.rows++[[bx.2.2.2]]⟩) hHb (fun k hk=>hk) hB.oth.v.e.z (an _ _ _) e00 (bM.2 ⟨_,_,rfl,hpar,hrws⟩) (by omega) (by omega)
 have g1e:gb.h.get 1=.cells 2 [[.int .i64 gr,V (0,0)]] 0 false false:=by rw[frb 1 (by omega)];(try simp);rw[fra 1 (by omega),if_neg (by omega),if_neg (by omega),hS.f1]
 have g2e:gb.h.get 2=.cells 2 [[.int .i64 0,.nils]] 0 false false:=by rw[frb 2 (by omega)];(try simp);rw[fra 2 (by omega),if_neg (by omega),if_neg (by omega),hS.f2]
 exact fin _ _ gr _ nds (by simp[sx,h3]) (by simp[sx,h4]) (by simpa using g1e) (by simpa using g2e) (hn.heap (by simp))
theorem bc5 (hS:BS K J L x bx gr Rw t g V E)(fin:td Q) :
  wp C0 d none (sQ [oM 156 11,o 157 (.bin .geq (.t 156) (qI 0))] (.cond (.t 157) (.ops [oM 158 10,oM 159 10,o 160 (.nilc (.t 159)),oF 161 2 160,oL 162 161,oM 163 11,o 164 (.slc 1 (.t 162) [] [.t 163]),o 165 (.nilc (.t 158)),oF 166 2 165,oz (.store 1 (.t 166) (.t 164))]) (.skip))) Q t [] g:=by
 obtain ⟨h2,h3,h4,h10,h11,-⟩:=hS.st
 obtain ⟨rows,hB⟩:=hS.bt
 obtain ⟨rws,hW⟩:=hS.bw
 have hK:=hS.hK
 have hl:=hS.hl
 rcases hS.hR with ⟨rfl,h0⟩ | ⟨r,rfl,hr⟩
 ·simp only[sx,SO.run,↓reduceIte,h11]
  exact ⟨fun h=>by simp at h,fun _=>hS.fin0 fin (by simp[sx,h3]) (by simp[sx,h4])⟩
 ·simp only[sx,SO.run,↓reduceIte,h11]
  refine ⟨fun _=>?_,fun h=>by simp at h⟩
  obtain ⟨y,q1,q2,q3⟩:=Ag (α:=List Int) hW.own (n:=r) (by intro h;have:=hW.len;rw[h] at this;simp at this;omega) (by have:=hW.len;omega)
  have q1:nL 1 (V (J+1,1)) none (some (.int .i64 (r:Int))) g=.val y:=q1
  simp only[sx,sy,SO.run,↓reduceIte,Nat.reduceEqDiff,h10,h11,bk hB.ry,bz hB.ry,hB.own.rows,hB.hlt,hB.row,q1,List.head?_nil,List.head?_cons,Option.isSome_some,Option.getD_some]
  refine hS.hp.put LS.z (off:=2) (n:=1) (row':=[.int .i64 x.card,V (J+1,0),y]) hB.e0 hB.row (by simp[q2.1]) q2.2 (by rw[q2.1];rfl) fun gb hHb nb frb fob=>?_
  simp only[sx]
  have hnd:=hB.nd.congr (V':=V) (E':=ups E (0,0) (.sl 3 (rows.set J [.int .i64 x.card,V (J+1,0),y]))) (fun _=>rfl) (fun q=>ac _ _ (by simp<;>omega))
  have hrd:Rp.rp P3 0 gb.h (⟨x.card,x.parents,x.rows.take r⟩:Node) [.int .i64 x.card,V (J+1,0),y]:=by
   refine bM.2 ⟨_,_,rfl,hnd.pars hHb (LS.s hS.hx (by omega)) (by omega),q3 P3 0 _ gb.h (fun i hi=>fob i fun e=>?_) (hnd.rows hHb (fun q hq=>LS.s hS.hx hq) (by omega))⟩
   exact hS.hp.sep (0,0) (J+1,1) LS.z (LS.s hS.hx (by omega)) (by simp) i e (by rw[bP hW.own];exact hi)
  obtain ⟨nds,hn⟩:=si hHb (fun k hk=>hk) hB.oth.z (an _ _ _) rfl hrd (by omega) (by omega)
  exact fin _ _ gr _ nds (by simp[sx,h3]) (by simp[sx,h4]) (by rw[frb 1 (by omega),hS.f1]) (by rw[frb 2 (by omega),hS.f2]) hn
theorem bc6 (hS:BS K J L x bx gr Rw t g V E)(fin:td Q) :
  wp C0 d none (sQ [oM 169 11,o 170 (.bin .geq (.t 169) (qI 0)),oM 171 170,og 172 171 true (.mv (.t 10)),og 173 171 true (.nilc (.t 172)),og 174 171 true (.fad 2 (.t 173)),og 175 171 true (.load false 1 (.t 174)),og 176 171 true (.mv (.t 11)),og 177 171 true (.ixs 1 (.t 175) (.t 176)),og 178 171 true (.load false 1 (.t 177)),og 179 171 true (.len .slice (.t 178)),og 180 171 true (.bin .gtr (.t 179) (qI 0)),o 181 (.pick (.t 171) (.t 180) (.k (.bool false)))] (.cond (.t 181) (.feet [0,1,3,7,0,31,63,0,128,511,1023] [oM 182 10,o 183 (.nilc (.t 182)),oF 184 2 183,oL 185 184,oM 186 11,oX 187 185 186,oL 188 187,oF 189 3 2,oL 190 189,o 191 (.ixs 1 (.t 188) (qI 0)),oz (.store 1 (.t 191) (.t 190))]) (.skip))) Q t [] g:=by
 obtain ⟨h2,h3,h4,h10,h11,-⟩:=hS.st
 obtain ⟨rows,hB⟩:=hS.bt
 obtain ⟨rws,hW⟩:=hS.bw
 have hK:=hS.hK
 have hl:=hS.hl
 rcases hS.hR with ⟨rfl,h0⟩ | ⟨r,rfl,hr⟩
 ·simp only[sz,simprocAttr,h11,show decide ((-1:Int) >= 0)=false from rfl]
  exact hS.fin0 fin (by simp[sx,h3]) (by simp[sx,h4])
 ·obtain ⟨y,hy⟩:∃y,x.rows[r]?=some y:=⟨_,List.getElem?_eq_getElem hr⟩
  have hrw:=hW.at_ r y hy
  have hkL:LS L (J+1,2+r):=LS.s hS.hx (by omega)
  have hyo:=hS.hp.own hkL (hB.nd.rr r y hy)
  have hyl:=hB.nd.len.2.2 y (List.mem_of_getElem? hy)
  have ly:=ea hyo.rows
  rw[List.length_map] at ly
  have hrl:r<rws.length:=by have:=hW.len;omega
  have hryw:km (V (J+1,1))=true:=eL hW.own (by omega)
  simp only[sz,simprocAttr,h10,h11,show decide ((r:Int) >= 0)=true from by simp,bk hB.ry,bz hB.ry,hB.own.rows,hB.hlt,hB.row,hW.own.rows,hrl,hrw,ly]
  refine be (fun hb=>?_) (fun hb=>?_)
  ·have hpos:0<y.length:=by simpa using hb
   obtain ⟨z,hz⟩:∃z,y[0]?=some z:=⟨_,List.getElem?_eq_getElem hpos⟩
   have u1:0<(y.map ci).length:=by simpa using hpos
   have u2:(y.map ci)[0]?=some (ci z):=by rw[List.getElem?_map,hz];rfl
   have u3:=hyo.rows
   have hryy:km (V (J+1,2+r))=true:=eL hyo u1
   simp only[sz,simprocAttr,sf,h2,h10,h11,hS.f0,bk hB.ry,bz hB.ry,hB.own.rows,hB.hlt,hB.row,hW.own.rows,hrl,hrw,A8 u3 u1]
   refine (hS.hp.same (g':=_) (by simp) (by simp<;>omega)).put (k:=(J+1,2+r)) (i:=0) (off:=0) (n:=1) (row:=ci z) (row':=ci bx.2.2.2) hkL (hB.nd.rr r y hy) u2 rfl rfl rfl fun gb hHb nb frb fob=>?_
   simp only[sy] at nb frb fob ⊢
   refine ⟨?_,?_⟩
   ·simp only[List.reverse_cons,List.reverse_nil,List.nil_append,List.cons_append]
    exact aJ [false,false,false,false,false,false,false,false,false,false,true] [] (by simp[All2,am,aB]) (by decide) (by simp)
   have hnd:=zL (r:=r) (V':=V) (E':=ups E (J+1,2+r) (.sl 1 ((y.map ci).set 0 (ci bx.2.2.2)))) (y':=y.set 0 bx.2.2.2) hB.nd hW.at_ hW.len hr (ac _ _ (by simp<;>omega)) (by rw[ac _ _ (by simp<;>omega),hW.e1,tp hrw]) (by rw[an,List.map_set]) (fun _ _=>rfl) (fun q hq=>ac _ _ (by simp<;>omega)) (by simpa using hyl)
   have hrd:=hnd.rd hHb (fun q hq=>LS.s hS.hx (by simpa using hq)) (by omega)
   obtain ⟨nds,hn⟩:=si (rows:=rows) (J:=J) hHb (fun k hk=>hk) hB.oth.e (by rw[ac _ _ (by simp<;>omega),hB.e0];exact congrArg _ (tp hB.row).symm) rfl hrd (by omega) (by omega)
   exact fin _ _ gr _ nds (by simp[sx,h3]) (by simp[sx,h4]) (by simp only[bumpG_h];rw[frb 1 (by omega)];simpa using hS.f1) (by simp only[bumpG_h];rw[frb 2 (by omega)];simpa using hS.f2) (hn.heap (by simp))
  ·simp only[sx]
   exact hS.fin0 fin (by simp[sx,h3]) (by simp[sx,h4])
end
end
end Hx
end
section
namespace Hx
open Go
noncomputable section
section
variable {d K J:Nat}{L:List Node}{x:Node}{bx:jU}{gr Rw:Int}{t:T}{g:G}{V:Ky->AV}{E:Ky->En}{Q:QT}
theorem bc7 (hS:BS K J L x bx gr Rw t g V E)(fin:td Q) :
  wp C0 d none (sQ [oM 194 11,o 195 (.bin .geq (.t 194) (qI 0))] (.cond (.t 195) (.feet [0,1,3,7,0,0,32,96,224,0,992,2016,0,8160,16383,32767] [oM 196 10,o 197 (.nilc (.t 196)),oF 198 2 197,oL 199 198,oM 200 11,oM 201 10,o 202 (.nilc (.t 201)),oF 203 2 202,oL 204 203,oM 205 11,oX 206 204 205,oL 207 206,o 208 (.bsl 1 1 [.int .i64 0] [0] [.k (.int .i64 0)]),o 209 (.app 1 8 (.t 207) (.t 208)),oX 210 199 200,oz (.store 1 (.t 210) (.t 209))]) (.skip))) Q t [] g:=by
 obtain ⟨h2,h3,h4,h10,h11,-⟩:=hS.st
 obtain ⟨rows,hB⟩:=hS.bt
 obtain ⟨rws,hW⟩:=hS.bw
 have hK:=hS.hK
 have hl:=hS.hl
 have hnx:=hS.hp.nx
 rcases hS.hR with ⟨rfl,h0⟩ | ⟨r,rfl,hr⟩
 ·simp only[sx,SO.run,↓reduceIte,h11]
  exact ⟨fun h=>by simp at h,fun _=>hS.fin0 fin (by simp[sx,h3]) (by simp[sx,h4])⟩
 ·simp only[sx,SO.run,↓reduceIte,h11]
  refine ⟨fun _=>?_,fun h=>by simp at h⟩
  obtain ⟨y,hy⟩:∃y,x.rows[r]?=some y:=⟨_,List.getElem?_eq_getElem hr⟩
  have hrw:=hW.at_ r y hy
  have hkL:LS L (J+1,2+r):=LS.s hS.hx (by omega)
  have hE2:=hB.nd.rr r y hy
  have hyo:=hS.hp.own hkL hE2
  have hyl:=hB.nd.len.2.2 y (List.mem_of_getElem? hy)
  have hrl:r<rws.length:=by have:=hW.len;omega
  have hryw:km (V (J+1,1))=true:=eL hW.own (by omega)
  simp only[sx,sy,sf,SO.run,↓reduceIte,Nat.reduceEqDiff,h10,h11,bk hB.ry,bz hB.ry,hB.own.rows,hB.hlt,hB.row,hW.own.rows,hrl,hrw,Option.isSome_some,Option.getD_some]
  refine (hS.hp.step (g':=_) (by simp<;>omega) (fun i hi hi2=>?_)).app2 (k:=(J+1,2+r)) hkL hE2 (new:=[[.int .i64 0]]) (by simp[sx,sy]) (by simp[aO];omega) fun v1 ga hHa na fra foa lga vca vta=>?_
  ·simp[H.get_put];omega
  simp only[sx,sy] at na fra foa lga
  have e11:ups V (J+1,2+r) v1 (J+1,1)=V (J+1,1):=ac _ _ (by simp<;>omega)
  have hE1:ups E (J+1,2+r) (.sl 1 (y.map ci++[[.int .i64 0]])) (J+1,1)=.sl 1 rws:=by rw[ac _ _ (by simp<;>omega)];exact hW.e1
  have rwa:af ga.h 1 (V (J+1,1))=some rws:=by rw[<-e11];exact (hHa.own (LS.s hS.hx (by omega)) hE1).rows
  simp only[sx,sy,sf,SO.run,↓reduceIte,Nat.reduceEqDiff,rwa,hrl,Option.isSome_some,Option.getD_some]
  refine (hHa.same (g':=_) (by simp) (by simp<;>omega)).putv (k:=(J+1,1)) (i:=r) (off:=0) (n:=1) (LS.s hS.hx (by omega)) e11 (row':=[v1]) hE1 hrw (by rw[vca];rfl) vta (by rw[vca];rfl) fun gb hHb nb frb fob=>?_
  simp only[sy] at nb frb fob ⊢
  refine ⟨?_,?_⟩
  ·simp only[List.reverse_cons,List.reverse_nil,List.nil_append,List.cons_append]
   refine aJ [false,false,false,false,false,false,false,false,false,false,false,false,true,true,false,true] [(0,12),(1,12),(2,12),(3,12),(4,12),(5,12),(6,12),(7,12),(8,12),(9,12),(10,12),(11,12),(0,13),(1,13),(2,13),(3,13),(4,13)] (by simp[All2,am,aB]) (by decide) ?_
   have ro1:=hB.own.refs_lt
   have ro2:=hW.own.refs_lt
   have lg0:∀i∈ga.lg,i ∉ ak (V (0,0)):=fun i hi hm=>by
    obtain ⟨id0,hv0⟩:∃id,eid (V (0,0))=some id/\ak (V (0,0))=[id]:=by
     rcases hB.own with ⟨h,-⟩ | ⟨id,ep,lo,-,-,h,-⟩
     ·rw[h] at hm;simp[ak] at hm
     ·rw[h];exact ⟨id,rfl,rfl⟩
    rw[hv0.2] at hm
    have hm:=List.mem_singleton.1 hm
    subst hm
    rcases lga i hi with h | h | h
    ·simp at h
    ·exact hS.hp.sep (J+1,2+r) (0,0) hkL LS.z (by simp) i h hv0.1
    ·have:=ro1 i (by rw[hv0.2];simp);omega
   rintro p hp x y hx hy
   simp only[List.mem_cons,List.not_mem_nil,or_false] at hp
   rcases hp with rfl | rfl | rfl | rfl | rfl | rfl | rfl | rfl | rfl | rfl | rfl | rfl | rfl | rfl | rfl | rfl | rfl<;>(simp at hx hy;subst hx;subst hy;refine dX rfl rfl rfl rfl ?_ ?_ ?_<;>simp[am,aB,jl hB.ry,jl hryw]<;>first | omega | (intro i' hi';have:=ro1 i' hi';omega) | (intro i' hi';have:=ro2 i' hi';omega) | exact lg0 | exact (fun i hi h=>lg0 h hi) | exact (fun i hi h=>lg0 i h hi) | (intro i' hi' hm;exact lg0 _ hi' hm) | exact (fun i hi j hj e=>lg0 i hi (e ▸ hj)) | skip)
  have hnd:=zL (r:=r) (V':=ups V (J+1,2+r) v1) (E':=ups (ups E (J+1,2+r) (.sl 1 (y.map ci++[[.int .i64 0]]))) (J+1,1) (.sl 1 (rws.set r [v1]))) (y':=y++[0]) (hB.nd.up (show K<=K+1 by omega)) hW.at_ hW.len hr (by rw[ac _ _ (by simp<;>omega),ac _ _ (by simp<;>omega)]) (by rw[an,an]) (by rw[ac _ _ (by simp<;>omega),an];simp[ci]) (fun q hq=>ac _ _ (by simp<;>omega)) (fun q hq=>by rw[ac _ _ (by simp<;>omega),ac _ _ (by simp<;>omega)]) (by simp<;>omega)
  have hrd:=hnd.rd hHb (fun q hq=>LS.s hS.hx (by simpa using hq)) (by omega)
  obtain ⟨nds,hn⟩:=si (rows:=rows) (J:=J) hHb (fun k hk=>hk) hB.oth.v.e.e (by rw[ac _ _ (by simp<;>omega),ac _ _ (by simp<;>omega),hB.e0];rw[jI,ac _ _ (by simp<;>omega),ac _ _ (by simp<;>omega)];exact congrArg _ (tp hB.row).symm) (ac _ _ (by simp<;>omega)) hrd (by omega) (by omega)
  have g1e:gb.h.get 1=.cells 2 [[.int .i64 gr,V (0,0)]] 0 false false:=by rw[frb 1 (by omega)];(try simp);rw[fra 1 (by omega),if_neg (by omega),hS.f1]
  have g2e:gb.h.get 2=.cells 2 [[.int .i64 0,.nils]] 0 false false:=by rw[frb 2 (by omega)];(try simp);rw[fra 2 (by omega),if_neg (by omega),hS.f2]
  exact fin _ _ gr _ nds (by simp[sx,h3]) (by simp[sx,h4]) (by simpa using g1e) (by simpa using g2e) (hn.heap (by simp))
theorem Lk (hS:BS K J L x bx gr Rw t g V E)(fin:td Q) :
  wp C0 d none (.ops [oF 312 1 3,oL 313 312,oF 314 0 3,oL 315 314,o 316 (.bsl 1 1 [.int .i64 0] [0] [.t 315]),o 317 (.bsl 1 1 [.nils] [0] [.t 316]),o 318 (.build [.int .i64 0,.nils,.nils] [(0,1),(2,1)] [.k (.int .i64 1),.t 317]),o 319 (.bsl 3 1 [.int .i64 0,.nils,.nils] [0] [.t 318]),o 320 (.app 3 56 (.t 313) (.t 319)),oF 321 1 3,oz (.store 1 (.t 321) (.t 320))]) Q t [] g:=by
 obtain ⟨h2,h3,h4,h10,h11,-⟩:=hS.st
 obtain ⟨rows,hB⟩:=hS.bt
 have hK:=hS.hK
 have hl:=hS.hl
 have hnx:=hS.hp.nx
 have hrl:=hB.oth.len
 simp only[sz,simprocAttr,h3,hS.f1]
 refine (hS.hp.step (g':=_) (by simp<;>omega) (fun i hi hi2=>?_)).app2 (k:=(0,0)) LS.z hB.e0 (new:=[[.int .i64 1,.nils,.hsl (g.nx+1) 0 0 1 none]]) (by simp[sx,sy]) (by simp[aO];omega) fun v1 gb hHb nb frb fob _ vca vta=>?_
 ·simp[H.get_put]
  rw[if_neg (by omega),if_neg (by omega),if_neg (by omega)]
 simp only[sx,sy] at nb frb fob
 have ne:∀i,g.nx<=i->eid (V (0,0))≠some i:=fun i hi e=>by
  rw[bP hB.own] at e
  have:=(hB.own.lt e).2
  omega
 have k1:gb.h.get g.nx=.cells 1 [[.int .i64 gr]] 0 false false:=by
  rw[fob g.nx (by omega) (ne _ (Nat.le_refl _))];simp[H.get_put]<;>omega
 have k2:gb.h.get (g.nx+1)=.cells 1 [[.hsl g.nx 0 0 1 none]] 0 false false:=by
  rw[fob (g.nx+1) (by omega) (ne _ (by omega))];simp[H.get_put]<;>omega
 have hnew:Rp.rp P3 0 gb.h (⟨1,[],[[gr]]⟩:Node) [.int .i64 1,.nils,.hsl (g.nx+1) 0 0 1 none]:=by
  refine bM.2 ⟨_,_,rfl,⟨by show 0<9223372036854775808;decide,rfl⟩,⟨by show 1<9223372036854775808;decide,by show 3<=g.nx+1;omega,[[.hsl g.nx 0 0 1 none]],?_,cK.2 ⟨_,rfl,by show 1<9223372036854775808;decide,hnx,[[.int .i64 gr]],?_,aU.2 rfl,trivial⟩,trivial⟩⟩
  ·show af gb.h 1 _=_
   simp only[af,k2];rfl
  ·show af gb.h 1 _=_
   simp only[af,k1];rfl
 have ho:=hHb.own LS.z (an _ _ _)
 rw[an] at ho
 obtain ⟨nds,-,hn⟩:=AO ho (by simp<;>omega) fun i row hi=>by
  by_cases e:i<rows.length
  ·rw[List.getElem?_append_left e] at hi
   obtain ⟨z,hz⟩:∃z,L[i]?=some z:=⟨_,List.getElem?_eq_getElem (by omega)⟩
   have hnd:=(hS.bl.nd i z hz).congr (V':=ups V (0,0) v1) (E':=ups E (0,0) (.sl 3 (rows++[[.int .i64 1,.nils,.hsl (g.nx+1) 0 0 1 none]]))) (fun q=>ac _ _ (by simp<;>omega)) (fun q=>ac _ _ (by simp<;>omega))
   have hrd:=hnd.rd hHb (fun q hq=>LS.s hz hq) (by omega)
   have hrow:rows[i]?=some (jI V i z.card):=by
    by_cases e2:i=J
    ·subst e2
     rw[hS.hx] at hz;injection hz with hz;subst hz
     exact hB.row
    ·exact hB.oth.ns i z e2 hz
   rw[hrow] at hi
   injection hi with hi;subst hi
   rw[jI,ac _ _ (by simp<;>omega),ac _ _ (by simp<;>omega)] at hrd
   exact ⟨z,hrd⟩
  ·have hil:=(List.getElem?_eq_some_iff.1 hi).1
   simp at hil
   have e:i=rows.length:=by omega
   subst e
   rw[List.getElem?_concat_length] at hi
   injection hi with hi;subst hi
   exact ⟨_,hnew⟩
 have g1e:gb.h.get 1=.cells 2 [[.int .i64 gr,V (0,0)]] 0 false false:=by rw[frb 1 (by omega),if_neg (by omega),if_neg (by omega),if_neg (by omega),hS.f1]
 have g2e:gb.h.get 2=.cells 2 [[.int .i64 0,.nils]] 0 false false:=by rw[frb 2 (by omega),if_neg (by omega),if_neg (by omega),if_neg (by omega),hS.f2]
 simp only[sz,simprocAttr,h3,g1e,vca,vta]
 exact fin _ _ gr _ nds (by simp[sx,h3]) (by simp[sx,h4]) (by simp[H.get_put]) (by simp[H.get_put,g2e]) (hn.far fun i hi=>by simp[H.get_put,KH hi])
theorem Ll (hS:BS K J L x bx gr Rw t g V E)(fin:td Q) :
  wp C0 d none (.ops [oF 102 1 3,oL 103 102,oF 104 1 3,oL 105 104,oN 106 105,o 107 (.bin .sub (.t 106) (qI 1)),o 108 (.slc 3 (.t 103) [] [.t 107]),oF 109 1 3,oz (.store 1 (.t 109) (.t 108))]) Q t [] g:=by
 obtain ⟨h2,h3,h4,h10,h11,-⟩:=hS.st
 obtain ⟨rows,hB⟩:=hS.bt
 have hK:=hS.hK
 have hl:=hS.hl
 have hrl:=hB.oth.len
 have hlt:=hB.hlt
 have len1:=ea hB.own.rows
 have e1:((rows.length:Int) - 1)=((rows.length - 1:Nat):Int):=by omega
 obtain ⟨y,q1,q2,q3⟩:=Ag (α:=Node) hB.own (n:=rows.length - 1) (by intro h;rw[h] at hlt;simp at hlt) (by omega)
 have w9:IntKind.wrap .i64 ((rows.length - 1:Nat):Int)=((rows.length - 1:Nat):Int):=aF (by omega) (by omega)
 have q1:nL 3 (V (0,0)) none (some (.int .i64 ((rows.length - 1:Nat):Int))) g=.val y:=q1
 simp only[sz,simprocAttr,h3,hS.f1,len1,List.head?_nil,List.head?_cons,e1,w9,q1,q2.1,q2.2]
 have hn:=q3 P3 0 _ g.h (fun _ _=>rfl) hS.sl
 exact fin _ _ gr _ _ (by simp[sx,h3]) (by simp[sx,h4]) (by simp[H.get_put]) (by simp[H.get_put,hS.f2]) (hn.far fun i hi=>by simp[H.get_put,KH hi])
end
end
end Hx
end
