/- A part of the proof: an interpreter over abstract values, shown right against the model, and what the functions of the chapter compute on it. -/
import Derived.KernelRfl
import Derived.Test.YtjddchnjpobmkaaGreatHx13
set_option linter.unusedVariables false
set_option linter.unusedSimpArgs false
set_option linter.unnecessarySimpa false
section
namespace Hx
open Go
noncomputable section
theorem Gs {α:Type}{l:List α}{i:Nat}{x y:α}(h1:l[i]?=some x)(h2:l[i]?=some y):x=y:=by rw[h1] at h2;injection h2
structure WtI (y:QnM) (b fl S_ wv va ca wa:AV) (gr wt:Int) (p:Int) (cards pv:List Int) (m k fb i:Nat) (t:T) (g:G):Prop where
 st:St t [(1,wv),(2,.hptr 0 0 0 0),(12,fl),(13,.int .i64 (m:Int)),(14,.int .i64 (k:Int)),(5,.int .i64 wt),(6,.int .i64 (k:Int)),(7,.hptr fb 0 0 0),(20,va),(8,.int .i64 (p - S.ah (cards.drop i) (pv.drop i)))]
 h0:g.h.get 0=.cells 4 [[.int .i64 gr,b,fl,S_]] 0 false false
 hf:g.h.get fb=.cells 3 [[va,ca,wa]] 0 false false
 nn:0<=p - S.ah (cards.drop i) (pv.drop i)
 nx:1<=g.nx
theorem Ht {d m k fb:Nat}{y:QnM}{b fl S_ wv va ca wa:AV}{gr wt p:Int}{f:Factor}{R vals:List Int}{mm:Nat}{Q:QT}{t:T}{g:G}(hva:SlR NoP 0 .nil f.vars va)(hF:FOk mm f)(hR:S.bE mm f 0 R)(hvl:vals.length=mm)
  (hS:∃(srows:List (List AV)) (z:AV),(∀h,ah h 1 S_=some srows)/\srows[k]?=some [z]/\k<srows.length/\SlR NoP 0 .nil R z) (rv:∀h,ah h 1 wv=some (vals.map ci)) (hp:p=S.ah f.cards (S.ac vals f.vars)) (hin:InC f.cards (S.ac vals f.vars)) (hpb:p<=10000000)
  (h0:WtI y b fl S_ wv va ca wa gr wt p f.cards (S.ac vals f.vars) m k fb 0 t g) (h22:tat t 22=.int .i64 0) (h21:tat t 21=.int .i64 (f.vars.length:Int))
  (fin:∀t g,WtI y b fl S_ wv va ca wa gr wt p f.cards (S.ac vals f.vars) m k fb f.vars.length t g->Q (.exit 2) t [] g):wpL (wp C0 d none cC) Q t [] g:=by
 obtain ⟨srows,z,s1,s2,s3,hz⟩:=hS
 have rva:=fun h=>(hva.tree (h':=h) (Nat.le_refl 0)).ints
 have rz:=fun h=>(hz.tree (h':=h) (Nat.le_refl 0)).ints
 simp only[cC]
 refine bj (m:=f.vars.length) hva.1 (fun i t df g=>df=[]/\WtI y b fl S_ wv va ca wa gr wt p f.cards (S.ac vals f.vars) m k fb i t g) ⟨rfl,h0⟩ h22 h21 (by decide)
  (by rintro j t df g v s (rfl | rfl | rfl) ⟨a1,⟨b1,b2,b3,b4,b5,b6,b7,b8,b9,b10,-⟩,c1,c2,c3,c4⟩<;>exact ⟨a1,by simp[St,sx,b1,b2,b3,b4,b5,b6,b7,b8,b9,b10],c1,c2,c3,c4⟩) ?_ ?_
 ·rintro i t df g hi ⟨rfl,⟨h1,h2,h12,h13,h14,h5,h6,h7,h20,h8,-⟩,e0,ef,hnn,hnx⟩ h22 h21
  obtain ⟨u,hu,-,hum⟩:=af hi
  obtain ⟨hu0,hum⟩:=hF.vr u hum
  obtain ⟨un,rfl⟩:=Int.eq_ofNat_of_zero_le hu0
  have hcl:=hF.cl
  have hdr:f.cards.drop i=f.cards[i]::f.cards.drop (i+1):=List.drop_eq_getElem_cons (by omega)
  have hval:vals[un]?=some vals[un]:=List.getElem?_eq_getElem (by omega)
  have hpvi:(S.ac vals f.vars)[i]?=some vals[un]:=by simp[S.ac,hu,hval]
  have hdp:(S.ac vals f.vars).drop i=vals[un]::(S.ac vals f.vars).drop (i+1):=by
   have hl:i<(S.ac vals f.vars).length:=by rw[cg];exact hi
   rw[List.drop_eq_getElem_cons hl]
   rw[List.getElem?_eq_getElem hl] at hpvi
   injection hpvi with hpvi
   rw[hpvi]
  have hv0:0<=vals[un]:=by
   obtain ⟨v',h1,h2,-⟩:=hin.get (i:=i) (c:=f.cards[i]) (List.getElem?_eq_getElem (by omega))
   rw[Gs hpvi h1];exact h2
  generalize vals[un]=x at hval hpvi hdp hv0
  have hRu:=hR.2 i (un:Int) (Nat.zero_le _) hu
  rw[Int.toNat_natCast] at hRu
  have hRl:=(List.getElem?_eq_some_iff.1 hRu).1
  have u1:i<(f.vars.map ci).length:=by simpa using hi
  have u2:(f.vars.map ci)[i]?=some (ci (un:Int)):=by rw[List.getElem?_map,hu];rfl
  have u3:un<(vals.map ci).length:=by simp;omega
  have u4:(vals.map ci)[un]?=some (ci x):=by rw[List.getElem?_map,hval];rfl
  have u5:un<(R.map ci).length:=by simpa using hRl
  have u6:(R.map ci)[un]?=some (ci (S.ae (f.cards.drop (i+1)))):=by rw[List.getElem?_map,hRu];rfl
  have hidx:S.ah (f.cards.drop i) ((S.ac vals f.vars).drop i)=x*S.ae (f.cards.drop (i+1))+S.ah (f.cards.drop (i+1)) ((S.ac vals f.vars).drop (i+1)):=by rw[hdr,hdp,S.ah]
  have hb1:=cM (cards:=f.cards.drop (i+1)) (vals:=(S.ac vals f.vars).drop (i+1)) (fun c hc=>hF.cb c (List.mem_of_mem_drop hc)) (hin.drop (i+1))
  have hb2:=cM (cards:=f.cards.drop i) (vals:=(S.ac vals f.vars).drop i) (fun c hc=>hF.cb c (List.mem_of_mem_drop hc)) (hin.drop i)
  have hpp:=ks (cs:=f.cards.drop (i+1)) fun c hc=>(hF.cb c (List.mem_of_mem_drop hc)).1
  have hxs:0<=x*S.ae (f.cards.drop (i+1)):=Int.mul_nonneg hv0 (by omega)
  have w1:IntKind.wrap .i64 (x*S.ae (f.cards.drop (i+1)))=x*S.ae (f.cards.drop (i+1)):=aq (by omega) (by omega)
  have w2:IntKind.wrap .i64 (p - S.ah (f.cards.drop i) ((S.ac vals f.vars).drop i)+x*S.ae (f.cards.drop (i+1)))=p - S.ah (f.cards.drop (i+1)) ((S.ac vals f.vars).drop (i+1)):=by
   rw[aq (by omega) (by omega)];omega
  simp only[sz,simprocAttr,h1,h2,h6,h8,h20,h22,h21,e0,rva,u1,u2,rv,u3,u4,s1,s2,s3,rz,u5,u6,ci,w1,w2]
  refine ⟨by simp[St,sx,h1,h2,h12,h13,h14,h5,h6,h7,h20],e0,ef,by omega,by first | exact hnx | (simp;done) | (simp;omega)⟩
 ·rintro t df g ⟨rfl,h⟩
  exact fin t g h
structure WtJ (n:Net) (vals:List Int) (b fl S_ wv:AV) (k:Nat) (t:T) (g:G):Prop where
 st:St t [(1,wv),(2,.hptr 0 0 0 0),(12,fl),(5,.int .i64 (S.ae ((List.range k).map (S.aH n vals))))]
 h0:g.h.get 0=.cells 4 [[.int .i64 n.grain,b,fl,S_]] 0 false false
 nx:1<=g.nx
theorem GR {d kk:Nat}{P:Nat->Prop}{g:G}{v w:AV}{n:Net}{y:QnM}{vals:List Int}(hd:0<d)(hr:NR n)(hm:Agg y NoP 0 g.h v)(hq:QnOk n y)(hv:SlR P kk g.h vals w)(hc:InC (S.aa n) vals) :
  ae C0 d N.bE [v,w] g=.val (.int .i64 (S.ba n vals)):=by
 have e0:=eQ d hm
 obtain ⟨cs,rfl,hcs⟩:=hm
 obtain ⟨b,fl,S_,rfl,hN,hfl,hS⟩:=uf.1 hcs
 have hfl:SlR NoP 0 .nil y.2.1 fl:=hfl.tree (Nat.le_refl 0)
 have hS:SlR NoP 0 .nil y.2.2 S_:=hS.tree (Nat.le_refl 0)
 obtain ⟨w',e2,hw'⟩:=bB hv d
 have hgr:y.1.grain=n.grain:=by rw[hq.net]
 obtain ⟨frows,f1,f2,f3,f4⟩:=hfl.all
 have f1:∀h',ah h' 3 fl=some frows:=f1
 obtain ⟨srows,s1,s2,s3,s4⟩:=xi hS
 have rv:=fun h=>(hw' h).ints
 have hvl:=hc.len
 rw[aC] at hvl
 have hl8:=hr.l2
 have hfll:=hq.fl
 rw[lM]
 refine eA mS (xs:=[.agg [.int .i64 y.1.grain,b,fl,S_],w']) (by simp only[aB,e0,e2]) (by simp[du]) hd ?_
 rw[hgr]
 have ll:=hfl.len
 simp only[sz,simprocAttr,du,fp,ll,hfll]
 simp only[eW,eO]
 refine bj (m:=n.nodes.length) (by omega) (fun k t df g=>df=[]/\WtJ n vals b fl S_ w' k t g) ⟨rfl,by simp[St,sx,S.ae],by simp[sx],by simp⟩ (by simp[sx]) (by simp[sx]) (by decide)
  (by rintro j t df g v s (rfl | rfl | rfl) ⟨a1,⟨b1,b2,b3,b4,-⟩,c1,c2⟩<;>exact ⟨a1,by simp[St,sx,b1,b2,b3,b4],c1,c2⟩) ?_ ?_
 ·rintro k t df g hk ⟨rfl,⟨h1,h2,h12,h5,-⟩,g0,hnx⟩ h14 h13
  obtain ⟨x,hx,-,-⟩:=af hk
  obtain ⟨p,hp,hf⟩:=hq.fs k x (by omega) hx
  obtain ⟨row,q1,q2⟩:=f3 k _ hf
  obtain ⟨va,ca,wa,rfl,hva,hca,hwa⟩:=dy.1 q2
  have hF:=Ku hr hx hp
  obtain ⟨pn,i1,i2,i3⟩:=Nt hr hc hx p
  have hlt:k<frows.length:=by omega
  have hry:=f4 (by omega)
  obtain ⟨R,hR,-,-⟩:=af (l:=y.2.2) (j:=k) (by rw[hq.sl];exact hk)
  obtain ⟨z,z1,z2,z3⟩:=s3 k R hR
  have hinp:InC (S.aR n k x p).cards (S.ac vals (S.aR n k x p).vars):=dM hc fun u hu=>by rw[aC];exact ym hr hx p u hu
  have hib:=cM hF.cb hinp
  have hpb:=bo (l:=(S.aR n k x p).cards) hF.cb
  have hfv:=hF.vl
  have hp4:=bV (a:=(S.aR n k x p).cards.length) (b:=9) (by
   have h1:=dV (hr.places x (List.mem_of_getElem? hx)) (by omega)
   have h3:=rV x.parents p (k:Int) hp
   show (S.ac _ _).length<=9
   rw[cg];omega)
  have h48:(4:Int) ^ 9=262144:=by decide
  have ei:S.ah (S.aR n k x p).cards (S.ac vals (S.aR n k x p).vars)=(pn:Int):=i1
  have lva:=hva.len
  have rwa:=fun h=>(hwa.tree (h':=h) (Nat.le_refl 0)).ints
  refine aW (P:=fun t' df g'=>df=[]/\g'=(g.new (.cells 3 [[.nils,.nils,.nils]] 0 false false)).put g.nx (.cells 3 [[va,ca,wa]] 0 false false)/\St t' [(1,w'),(2,.hptr 0 0 0 0),(12,fl),(13,.int .i64 (n.nodes.length:Int)),(14,.int .i64 (k:Int)),(5,.int .i64 (S.ae ((List.range k).map (S.aH n vals)))),(6,.int .i64 (k:Int)),(7,.hptr g.nx 0 0 0)]) ?_ ?_
  ·simp only[sz,simprocAttr,h14,h12,f1,hlt,q1]
   simp[St,sx,h1,h2,h12,h13,h14,h5]
  clear h1 h2 h12 h5 h14 h13
  rintro t df g1 ⟨rfl,hg1,⟨h1,h2,h12,h13,h14,h5,h6,h7,-⟩⟩
  have k0:g1.h.get 0=.cells 4 [[.int .i64 n.grain,b,fl,S_]] 0 false false:=by rw[hg1];simp[H.get_put,show ¬0=g.nx by omega,g0]
  have k1:g1.h.get g.nx=.cells 3 [[va,ca,wa]] 0 false false:=by rw[hg1];simp[H.get_put]
  have kn:g1.nx=g.nx+1:=by rw[hg1];simp
  simp only[sz,simprocAttr,h7,k1,lva]
  refine Ht (y:=y) (b:=b) (fl:=fl) (S_:=S_) (wv:=w') (va:=va) (ca:=ca) (wa:=wa) (gr:=n.grain) (wt:=S.ae ((List.range k).map (S.aH n vals))) (p:=(pn:Int)) (f:=S.aR n k x p) (R:=R) (vals:=vals) (mm:=n.nodes.length) (m:=n.nodes.length) (k:=k) (fb:=g.nx) hva hF (hq.st k _ R hf hR) hvl ⟨srows,z,s1,z1,z2,z3⟩ rv ei.symm hinp (by omega)
   ⟨by simp[St,sx,h1,h2,h12,h13,h14,h5,h6,h7,ei],by simpa using k0,by simpa using k1,by simp[ei],by omega⟩ (by simp[sx]) (by simp[sx]) ?_
  clear h1 h2 h12 h13 h14 h5 h6 h7
  rintro t g2 ⟨⟨h1,h2,h12,h13,h14,h5,h6,h7,h20,h8,-⟩,k0,k1,-,hnx2⟩
  have hnil:S.ah ((S.aR n k x p).cards.drop (S.aR n k x p).vars.length) ((S.ac vals (S.aR n k x p).vars).drop (S.aR n k x p).vars.length)=0:=by
   rw[List.drop_of_length_le (by rw[hF.cl];exact Nat.le_refl _)];rfl
  rw[hnil,Int.sub_zero] at h8
  have u1:pn<((S.aR n k x p).w.map ci).length:=by
   rw[List.length_map]
   exact (List.getElem?_eq_some_iff.1 i3).1
  have u2:((S.aR n k x p).w.map ci)[pn]?=some (ci (S.aH n vals k)):=by rw[List.getElem?_map];exact congrArg (Option.map ci) i3
  have wb:=mM hr hc (j:=k+1) (by omega)
  have ws:=td n vals k
  have w1:IntKind.wrap .i64 (S.ae ((List.range k).map (S.aH n vals))*S.aH n vals k)=S.ae ((List.range (k+1)).map (S.aH n vals)):=by rw[<-ws,aq (by omega) (by omega)]
  simp only[sz,simprocAttr,eG,h5,h7,k1,h8,rwa,u1,u2,ci,w1]
  exact ⟨⟨by simp[St,sx,h1,h2,h12],k0,hnx2⟩,h14,h13⟩
 ·rintro t df g ⟨rfl,⟨h1,h2,h12,h5,-⟩,g0,hnx⟩
  simp only[sz,simprocAttr,eD,h5]
  rfl
def S.bB (vals e:List Int)(i:Nat):Bool:=decide (e[i]?.getD 0 = -1) || decide (e[i]?.getD 0=vals[i]?.getD 0)
def S.jm (vals e:List Int):Bool:=(List.range e.length).all (S.bB vals e)
theorem GI {vals e:List Int}(h:∀x∈e,-1<=x):S.jm vals e=S.aT vals e:=by
 have key:S.bB vals e=S.bA vals e:=by
  funext i
  have h1:-1<=e[i]?.getD 0:=by
   cases hx:e[i]? with
   | none=>decide
   | some x=>exact h x (List.mem_of_getElem? hx)
  unfold S.bB S.bA
  generalize e[i]?.getD 0=x at h1
  congr 1
  rw[decide_eq_decide]
  omega
 rw[S.jm,S.aT,key]
theorem Ee {d k k2:Nat}{g:G}{P P2:Nat->Prop}{v w:AV}{vals e:List Int}(hd:0<d)(hv:SlR P k g.h vals v)(hw:SlR P2 k2 g.h e w)(hl:e.length<=vals.length) :
  ae C0 d N.bz [v,w] g=.val (.bool (S.jm vals e)):=by
 obtain ⟨v',e1,r1⟩:=bB hv d
 obtain ⟨w',e2,r2⟩:=bB hw d
 have ra:∀h',ah h' 1 v'=some (vals.map ci):=fun h'=>(r1 h').ints
 have rb:∀h',ah h' 1 w'=some (e.map ci):=fun h'=>(r2 h').ints
 have n2:=fun g=>(r2 .nil).len g
 rw[tB]
 refine dI vX (xs:=[v',w']) (by simp only[aB,e1,e2]) (by simp[jA]) hd ?_
 simp only[sz,simprocAttr,jA,kH,n2]
 refine bj (m:=e.length) hw.1 (fun j t df g=>df=[]/\St t [(0,v'),(8,w'),(5,.bool true)]/\(List.range j).all (S.bB vals e)=true) ⟨rfl,by simp[St,sx],rfl⟩ (by simp[sx]) (by simp[sx]) (by decide) (by rintro j t df g v s (rfl | rfl | rfl)<;>simp[St,sx]) ?_ ?_
 ·rintro j t df g hj ⟨rfl,⟨h0,h8,h5,-⟩,hA⟩ h10 h9
  obtain ⟨x,hx,-,-⟩:=af hj
  obtain ⟨z,hz,-,-⟩:=af (l:=vals) (j:=j) (by omega)
  have q1:j<(e.map ci).length:=by simpa using hj
  have q2:j<(vals.map ci).length:=by rw[List.length_map];omega
  have q3:(e.map ci)[j]?=some (ci x):=by rw[List.getElem?_map,hx];rfl
  have q4:(vals.map ci)[j]?=some (ci z):=by rw[List.getElem?_map,hz];rfl
  have hat:S.bB vals e j=(decide (x = -1) || decide (x=z)):=by simp[S.bB,hx,hz]
  by_cases c1:x = -1
  ·subst c1
   simp only[sz,simprocAttr,h10,h9,h8,rb,q1,q3,ci]
   refine ⟨by simp[St,sx,h0,h8,h5],?_⟩
   rw[dt,hA,hat];simp
  ·by_cases c2:x=z
   ·subst c2
    simp only[sz,simprocAttr,h10,h9,h8,h0,ra,rb,q1,q2,q3,q4,ci,c1]
    refine ⟨by simp[St,sx,h0,h8,h5],?_⟩
    rw[dt,hA,hat];simp
   ·have:S.bB vals e j=false:=by rw[hat];simp[c1,c2]
    have hf:S.jm vals e=false:=by rw[S.jm,fR hj this]
    simp only[sz,simprocAttr,h10,h8,h0,ra,rb,q1,q2,q3,q4,ci,c1,c2,fX,hf]
 ·rintro t df g ⟨rfl,⟨h0,h8,h5,-⟩,hA⟩
  simp only[sz,simprocAttr,fX,h5]
  rw[S.jm,hA]
theorem ML {α:Type} [Rp α]{P:Nat->Prop}{k:Nat}{h:H}{l:List α}{w:AV}(hw:SlR P k h l w)(g:G):JJ w g=.upd (.hptr g.nx 0 0 0) (g.new (.cells 1 [[w]] 0 false false)):=by
 rw[EZ _ _ hw.cell.2,hw.cell.1];rfl
def KE {α:Type} [Rp α](x:α)(sz:Nat):VS:=fun P k h v=>(∃id cs,v=.hptr id 0 0 0/\P id/\h.get id=.cells sz [cs] 0 false false/\Rp.rp P k h x cs)\/∃t cs,v=.tptr t sz [cs] 0 0/\t<=k/\Rp.rp NoP k .nil x cs
theorem DW {α:Type} [Rp α]{x:α}{sz:Nat}{P:Nat->Prop}{k:Nat}{h:H}{v:AV}{n:Nat}(d:Nat)(r:KE x sz P k h v)(hn:Rp.dp α<=n)(hd:Rp.dp α<=20:=by decide):∃v',Hx.snap h d (n+1) v=some v'/\KE x sz NoP (max k d) .nil v':=by
 rcases r with ⟨id,cs,rfl,-,hg,r⟩ | ⟨t,cs,rfl,ht,r⟩
 ·obtain ⟨cs',e,r'⟩:=Rp.snap (n:=n) d r hn (by show _<=24;omega)
  obtain ⟨m,e2,l2⟩:=Rp.tag (n:=aF) r' (by show _<=24;omega)
  refine ⟨.tptr (Nat.max d (Nat.max m 0)) sz [cs'] 0 0,?_,.inr ⟨_,cs',rfl,?_,r'⟩⟩
  ·simp only[Hx.snap,hg,show Nat.beq 0 0=true from rfl,aB,e,eZ,fM,e2]
  ·show max d (max m 0)<=max k d
   omega
 ·exact ⟨.tptr t sz [cs] 0 0,rfl,.inr ⟨t,cs,rfl,by omega,Rp.mono r (fun i hi=>hi.elim) (by omega)⟩⟩
theorem Fm {α:Type} [Rp α]{x:α}{sz:Nat}{k:Nat}{h:H}{v:AV}{n:Nat}(r:KE x sz NoP k h v):∃m,dY (n+1) v=some m/\m<=k:=by
 rcases r with ⟨id,cs,rfl,hP,-⟩ | ⟨t,cs,rfl,ht,r⟩
 ·exact hP.elim
 ·exact ⟨t,rfl,ht⟩
def MtV (y:QnM)(e:List Int):VS:=fun P k h v=>∃p q,v=.clo N.aa [] [p,q]/\KE y 4 P k h p/\KE e 1 P k h q
theorem Ns (y:QnM)(e:List Int):Snb (MtV y e) 2:=by
 refine ⟨fun {P k h v n} d r hn=>?_,fun {k h v n} r hn=>?_⟩
 ·obtain ⟨p,q,rfl,r1,r2⟩:=r
  obtain ⟨n,rfl⟩:∃q,n=q+2:=⟨n - 2,by omega⟩
  obtain ⟨p',e1,r1'⟩:=DW (n:=n) d r1 (Nat.le_trans (show Rp.dp QnM<=20 by decide) (by omega))
  obtain ⟨q',e2,r2'⟩:=DW (n:=n) d r2 (Nat.le_trans (show Rp.dp (List Int)<=20 by decide) (by omega))
  refine ⟨.clo N.aa [] [p',q'],?_,p',q',rfl,r1',r2'⟩
  simp only[Hx.snap,aB] at e1 e2 ⊢
  rw[e1,e2]
 ·obtain ⟨p,q,rfl,r1,r2⟩:=r
  obtain ⟨n,rfl⟩:∃q,n=q+2:=⟨n - 2,by omega⟩
  obtain ⟨m1,e1,l1⟩:=Fm (n:=n) r1
  obtain ⟨m2,e2,l2⟩:=Fm (n:=n) r2
  refine ⟨Nat.max m1 (Nat.max m2 0),?_,by show max m1 (max m2 0)<=k;omega⟩
  show fM (dY (n+1)) [p,q]=_
  simp only[fM,e1,e2]
theorem wo {d:Nat}{g:G}{v w:AV}{y:QnM}{e:List Int}(hd:0<d)(hm:Agg y NoP 0 g.h v)(hw:SlR NoP 0 g.h e w) :
  ∃cs z,ae C0 d N.aR [v,w] g=.val (.clo N.aa [] [.tptr 0 4 [cs] 0 0,.tptr 0 1 [[z]] 0 0])/\Rp.rp NoP 0 .nil y cs/\SlR NoP 0 .nil e z:=by
 have e0:=eQ d hm
 obtain ⟨cs,rfl,hc⟩:=hm
 obtain ⟨a,b,c,rfl,h1,h2,h3⟩:=uf.1 hc
 have key:∃r,ae C0 d N.aR [.agg [.int .i64 y.1.grain,a,b,c],w] g=.val r/\MtV y e NoP 0 .nil r:=by
  rw[jD]
  refine aP kZ (xs:=[.agg [.int .i64 y.1.grain,a,b,c],w]) (by simp only[aB,e0,dQ d hw]) (by simp[cL]) (Ns y e) (by decide) hd ?_
  simp only[sz,simprocAttr,cL,eg,ML hw]
  refine ⟨fun _=>True,_,_,rfl,.inl ⟨0,_,rfl,trivial,by simp[sx,H.get_put],Rp.tree hc (Nat.le_refl _)⟩,.inl ⟨1,[w],rfl,trivial,by simp[sx],?_⟩⟩
  exact ⟨w,rfl,hw.wide (Nat.le_refl 0)⟩
 obtain ⟨r,hr,p,q,rfl,r1,r2⟩:=key
 rcases r1 with ⟨id,cs,rfl,hP,-⟩ | ⟨t,cs,rfl,ht,r1⟩
 ·exact hP.elim
 rcases r2 with ⟨id,cs,rfl,hP,-⟩ | ⟨t2,cs2,rfl,ht2,r2⟩
 ·exact hP.elim
 obtain ⟨z,rfl,hz⟩:=da.1 r2
 have:t=0:=by omega
 subst this
 have:t2=0:=by omega
 subst this
 exact ⟨cs,z,hr,r1,hz⟩
theorem Ke {cs vs:List Int}(h:InC cs vs)(hc:∀c∈cs,1<=c){i:Nat}{x c:Int}(hi:vs[i]?=some x)(hci:cs[i]?=some c)(hx:x≠c - 1):InC cs (vs.take i++(x+1)::List.replicate (vs.length - (i+1)) 0):=by
 have hil:=(List.getElem?_eq_some_iff.1 hi).1
 have hl:=h.len
 refine Bo (by simp;omega) fun j c' v hj hv=>?_
 obtain ⟨v',h1,h2,h3⟩:=h.get hj
 have hcp:=hc c' (List.mem_of_getElem? hj)
 by_cases h4:j<i
 ·rw[List.getElem?_append_left (by simp;omega),List.getElem?_take_of_lt h4] at hv
  rw[h1] at hv;injection hv with hv;omega
 ·rw[List.getElem?_append_right (by simp;omega)] at hv
  rw[List.length_take,Nat.min_eq_left (by omega)] at hv
  by_cases h5:j=i
  ·subst h5
   rw[Nat.sub_self] at hv
   simp at hv
   rw[hi] at h1;injection h1 with h1
   rw[hci] at hj;injection hj with hj
   omega
  ·obtain ⟨m,hm⟩:∃m,j - i=m+1:=⟨j - i - 1,by omega⟩
   rw[hm,List.getElem?_cons_succ] at hv
   have:=List.mem_of_getElem? hv
   rw[List.mem_replicate] at this
   omega
theorem IA {cs:List Int}(hc:∀c∈cs,1<=c):InC cs (List.replicate cs.length 0) :=
 Bo (by simp) fun j c v hj hv=>by
  have:=List.mem_of_getElem? hv
  rw[List.mem_replicate] at this
  have:=hc c (List.mem_of_getElem? hj)
  omega
theorem By {vs:List Int}{m:Nat}(h:m<vs.length):(vs.take (m+1)++List.replicate (vs.length - (m+1)) 0).set m 0=vs.take m++List.replicate (vs.length - m) 0:=by
 rw[List.take_succ_eq_append_getElem h,List.append_assoc,List.set_append_right _ _ (by simp;omega),List.length_take,Nat.min_eq_left (by omega),Nat.sub_self]
 rw[show vs.length - m=(vs.length - (m+1))+1 by omega,List.replicate_succ]
 rfl
theorem Bi {vs:List Int}{m:Nat}(h:m<vs.length)(y:Int):(vs.take (m+1)++List.replicate (vs.length - (m+1)) 0).set m y=vs.take m++y::List.replicate (vs.length - (m+1)) 0:=by
 rw[List.take_succ_eq_append_getElem h,List.append_assoc,List.set_append_right _ _ (by simp;omega),List.length_take,Nat.min_eq_left (by omega),Nat.sub_self]
 rfl
structure OdoJ (n:Net) (vs:List Int) (L:List (Nat×AV)) (u:AV) (g0:G) (m:Nat) (t:T) (g:G):Prop where
 st:tat t 6=.int .i64 ((m:Int) - 1)
 ss:St t L
 ow:Own g g0.nx u 1 ((vs.take m++List.replicate (vs.length - m) 0).map ci)
 mx:∀(j:Nat) (c:Int),m<=j->(S.aa n)[j]?=some c->vs[j]?.getD 0=c - 1
def LM (id:Nat)(gr:Int)(b fl S_ w u:AV)(k:Nat):List (Nat×AV):=[(0,.yld id),(1,.tptr 0 4 [[.int .i64 gr,b,fl,S_]] 0 0),(2,.tptr 0 1 [[w]] 0 0),(4,u),(5,.int .i64 (k:Int))]
theorem HE {d id k m:Nat}{n:Net}{b fl S_ w u:AV}{vs:List Int}{Q:QT}{t:T}{g g0:G}(hr:NR n)(hN:SlR NoP 0 .nil n.nodes b)(hc:InC (S.aa n) vs)(hm:m<=n.nodes.length)
  (h0:OdoJ n vs (LM id n.grain b fl S_ w u k) u g0 m t g)
  (fin:∀m' t g',m'<=n.nodes.length->OdoJ n vs (LM id n.grain b fl S_ w u k) u g0 m' t g'->g.nx<=g'.nx->(∀i,vid u≠some i->g'.h.get i=g.h.get i)->(m'=0\/∃x c,vs[m' - 1]?=some x/\(S.aa n)[m' - 1]?=some c/\x≠c - 1/\0<m')->Q (.exit 2) t [] g') :
  wpL (wp C0 d none bz) Q t [] g:=by
 obtain ⟨rows,r1,r2,r3,r4⟩:=hN.all
 have r1:∀h',ah h' 3 b=some rows:=r1
 have hvl:=hc.len
 rw[aC] at hvl
 have hl8:=hr.l2
 refine fF (fun m t df g'=>df=[]/\m<=n.nodes.length/\OdoJ n vs (LM id n.grain b fl S_ w u k) u g0 m t g'/\g.nx<=g'.nx/\∀i,vid u≠some i->g'.h.get i=g.h.get i) m ⟨rfl,hm,h0,Nat.le_refl _,fun _ _=>rfl⟩ ?_
 rintro m t df g1 ⟨rfl,hm,⟨h6,⟨h0,h1,h2,h4,h5,-⟩,how,hmx⟩,hnx,hfr⟩
 simp only[bz]
 cases m with
 | zero =>
  have c1:¬((0:Int)<=((0:Nat):Int) - 1):=by omega
  simp only[sz,simprocAttr,h6,c1]
  refine fin 0 _ _ (Nat.zero_le _) ⟨?_,?_,?_,hmx⟩ ?_ ?_ (.inl rfl)
  ·simp[sx,h6]
  ·simp[St,LM,sx,h0,h1,h2,h4,h5]
  ·exact how
  ·exact hnx
  ·exact hfr
 | succ m =>
  have c1:(0:Int)<=((m+1:Nat):Int) - 1:=by omega
  have e1:((m+1:Nat):Int) - 1=(m:Int):=by omega
  rw[e1] at c1 h6
  obtain ⟨x,hx,-,-⟩:=af (l:=n.nodes) (j:=m) (by omega)
  obtain ⟨row,q1,q2⟩:=r3 m x hx
  obtain ⟨pa,ra,rfl,-,-⟩:=bH.1 q2
  have hlt:m<rows.length:=by omega
  have hry:=r4 (by omega)
  have hci:(S.aa n)[m]?=some x.card:=by simp[S.aa,hx]
  obtain ⟨v,hv,hv0,hv1⟩:=hc.get hci
  have hcx:=hr.card x (List.mem_of_getElem? hx)
  have u1:m<((vs.take (m+1)++List.replicate (vs.length - (m+1)) 0).map ci).length:=by simp;omega
  have u2:((vs.take (m+1)++List.replicate (vs.length - (m+1)) 0).map ci)[m]?=some (ci v):=by
   rw[List.getElem?_map,List.getElem?_append_left (by simp;omega),List.getElem?_take_of_lt (by omega),hv];rfl
  have ru:=how.rows
  have w1:IntKind.wrap .i64 (x.card - 1)=x.card - 1:=aq (by omega) (by omega)
  by_cases c2:v=x.card - 1
  ·simp only[sz,simprocAttr,h6,h1,h4,c1,ru,u1,u2,r1,hlt,q1,hry,uU,iD,ci,w1,c2]
   refine bJ (v:=u) (sz:=1) (n:=1) (i:=m) (off:=0) (x:=.int .i64 0) (row':=ci 0) how u2 rfl rfl rfl fun g4 hu4 n4 f4=>?_
   rw[<-List.map_set,By (by omega)] at hu4
   have w2:IntKind.wrap .i64 ((m:Int) - 1)=(m:Int) - 1:=aq (by omega) (by omega)
   simp only[sz,simprocAttr,h6,w2]
   refine ⟨m,by omega,by omega,⟨by simp[sx],by simp[St,LM,sx,h0,h1,h2,h4,h5],hu4,fun j c hj hc'=>?_⟩,by omega,fun i hi=>by rw[f4 i hi,hfr i hi]⟩
   by_cases e:j=m
   ·subst e
    rw[hci] at hc';injection hc' with hc'
    rw[hv,Option.getD_some];omega
   ·exact hmx j c (by omega) hc'
  ·simp only[sz,simprocAttr,h6,h1,h4,c1,ru,u1,u2,r1,hlt,q1,hry,uU,iD,ci,w1,c2]
   refine fin (m+1) _ _ hm ⟨?_,?_,?_,hmx⟩ ?_ ?_ (.inr ⟨v,x.card,hv,hci,c2,by omega⟩)
   ·simp[sx,h6]
   ·simp[St,LM,sx,h0,h1,h2,h4,h5]
   ·exact how
   ·exact hnx
   ·exact hfr
theorem M6 {a b u:AV}(ha:a.cells=[a]/\a.isTup=false)(hb:b.cells=[b]/\b.isTup=false)(hu:u.cells=[u]/\u.isTup=false):dK [.int .i64 0,.int .i64 0,.nils] [((0,1),a),((1,1),b),((2,1),u)]=some [a,b,u]:=by
 simp[dK,ha,hb,hu,cP]
 rfl
theorem HD {d id:Nat}{n:Net}{y:QnM}{e:List Int}{b fl S_ w:AV}{g0:G}{K:AV->G->Prop}(hd:0<d)(hr:NR n)(hq:QnOk n y)(hcs:Rp.rp NoP 0 .nil y [.int .i64 n.grain,b,fl,S_])(hw:SlR NoP 0 .nil e w)(hel:e.length<=n.nodes.length)
  (J:Nat->H->Prop) (E:G->Prop) (hJ:∀j h h',(∀i,i<g0.nx->h'.get i=h.get i)->J j h->J j h')
  (skip:∀(j:Nat) (h:H),j<S.ap n->S.jm (S.am (S.aa n) j) e=false->J j h->J (j+1) h)
  (step:∀(j:Nat) (u:AV) (g:G) (K':AV->G->Prop) (D:ADf->Prop),j<S.ap n->S.jm (S.am (S.aa n) j) e=true->g0.nx<=g.nx->J j g.h->SlR (fun i=>g0.nx<=i/\i<g.nx) 0 g.h (S.am (S.aa n) j) u ->
   (∀g',J (j+1) g'.h->g.nx<=g'.nx->(∀i,g0.nx<=i->i<g.nx->g'.h.get i=g.h.get i)->K' (.bool true) g')->(∀g',E g'->K' (.bool false) g')->(cI (I C0) d id [.agg [.int .i64 (j:Int),.int .i64 (S.ba n (S.am (S.aa n) j)),u]] g).sat K' g D)
  (h0:J 0 g0.h) (fin:∀g',J (S.ap n) g'.h->g0.nx<=g'.nx->K (.tup []) g') (finE:∀g',E g'->K (.tup []) g') :
  wp C0 d none aG.code (fnQ C0 d aG.res K) (cq 0 [.yld id,.tptr 0 4 [[.int .i64 n.grain,b,fl,S_]] 0 0,.tptr 0 1 [[w]] 0 0] .nil) [] g0:=by
 obtain ⟨b',fl',S',e1,hN,hfl,hS⟩:=uf.1 hcs
 injection e1 with e1 e2
 injection e2 with e2 e3
 injection e3 with e3 e4
 injection e4 with e4 e5
 subst e2;subst e3;subst e4
 have hN:SlR NoP 0 .nil n.nodes b:=by rw[<-hq.net];exact hN
 have hl8:=hr.l2
 have hl1:=hr.l1
 obtain ⟨W1,W2,W3⟩:=hr.wl
 have hcs1:=fun c hc=>(hr.cs c hc).1
 have nl:=hN.len
 have hcl:=aC n
 obtain ⟨Qf,hQf⟩:∃Qf,Qf=fnQ C0 d aG.res K:=⟨_,rfl⟩
 rw[<-hQf]
 simp only[sz,simprocAttr,aG,uU,iD,nl]
 refine jV (b:=g0.nx) (n:=n.nodes.length) (by unfold aR;omega) (by unfold aR;omega) (Nat.le_refl _) fun u g1 hu n1 fr1 v1=>?_
 simp only[sz,simprocAttr]
 have hul:∀(g:G) (l:List Int),l.length=n.nodes.length->Own g g0.nx u 1 (l.map ci)->∀g2:G,d_ .slice u g2=.val (.int .i64 (n.nodes.length:Int)):=fun g l hl ho g2=>by rw[bN ho.rows];simp[hl]
 obtain ⟨INV,hINV⟩:∃INV:Nat->PT,INV=(fun m t df g=>df=[]/\∃(j:Nat) (vs:List Int),m=S.ap n - j/\j<S.ap n/\InC (S.aa n) vs/\S.ah (S.aa n) vs=(j:Int)/\St t (LM id n.grain b fl S_ w u j)/\Own g g0.nx u 1 (vs.map ci)/\J j g.h/\g0.nx<=g.nx):=⟨_,rfl⟩
 refine fF INV (S.ap n) ?_ ?_
 ·rw[hINV]
  exact ⟨rfl,0,List.replicate n.nodes.length 0,rfl,by omega,by rw[<-hcl];exact IA hcs1,by rw[xM];rfl,by simp[St,LM,sx],by simpa [ci] using hu,hJ 0 _ _ (fun i hi=>fr1 i hi) h0,by omega⟩
 intro m t df g hI
 have hI2:=hI
 rw[hINV] at hI2
 obtain ⟨rfl,j,vs,rfl,hj,hin,hidx,⟨h0,h1,h2,h4,h5,-⟩,ho,hJj,hnx⟩:=hI2
 clear hI
 have hvl:=hin.len
 rw[aC] at hvl
 have hval:S.am (S.aa n) (j:Int)=vs:=by rw[<-hidx];exact E6 hcs1 hin
 have hvu:vid u=some g0.nx:=v1
 have hsl:SlR (fun i=>g0.nx<=i/\i<g.nx) 0 g.h vs u:=Own.sl (α:=Int) ho (by omega) (All2.of_map (fun a=>aJ.2 rfl) _) fun i hi=>ho.lt hi
 have hmt:=Ee (d:=d) (g:=g) (v:=u) (w:=w) (vals:=vs) (e:=e) hd hsl (hw.tree (h':=g.h) (Nat.le_refl 0)) (by omega)
 have hlu:=hul g vs hvl ho
 have w1:IntKind.wrap .i64 ((n.nodes.length:Int) - 1)=(n.nodes.length:Int) - 1:=aq (by omega) (by omega)
 obtain ⟨R,hR⟩:∃R,R=sQ [oM 28 4,oN 29 28,o 30 (.bin .sub (.t 29) (qI 1)),oM 6 30] (.seq (.blk 2 (.loop bz)) bp):=⟨_,rfl⟩
 simp only[dz]
 rw[<-hR,eM,uW]
 obtain ⟨Q1,hQ1⟩:∃Q1,Q1=kB 1 (kS (wp C0 d none bP (kL INV (S.ap n - j) (kB 0 Qf))) (kL INV (S.ap n - j) (kB 0 Qf))):=⟨_,rfl⟩
 rw[<-hQ1]
 have rest:∀(t:T) (g:G),St t (LM id n.grain b fl S_ w u j)->Own g g0.nx u 1 (vs.map ci)->J (j+1) g.h->g0.nx<=g.nx->wp C0 d none R Q1 t [] g:=by
  rintro t g ⟨h0,h1,h2,h4,h5,-⟩ ho hJj hnx
  rw[hR,hQ1]
  simp only[sz,simprocAttr,h4,hlu,w1]
  refine HE (id:=id) (k:=j) (m:=n.nodes.length) (n:=n) (b:=b) (fl:=fl) (S_:=S_) (w:=w) (u:=u) (vs:=vs) (g0:=g0) hr hN hin (Nat.le_refl _) ⟨by simp[sx],by simp[St,LM,sx,h0,h1,h2,h4,h5],?_,fun i c hi hc=>?_⟩ ?_
  ·rw[List.take_of_length_le (by omega),show vs.length - n.nodes.length=0 by omega]
   simpa using ho
  ·have:=(List.getElem?_eq_some_iff.1 hc).1
   omega
  rintro m' t2 g2 hm' ⟨h6,⟨h0,h1,h2,h4,h5,-⟩,ho2,hmx⟩ hn2 hf2 hcase
  have hJ2:J (j+1) g2.h:=hJ _ _ _ (fun i hi=>hf2 i fun e=>by rw[hvu] at e;injection e with e;omega) hJj
  rcases hcase with rfl | ⟨x,c,hx,hc,hxc,hm0⟩
  ·have hlast:j+1=S.ap n:=by
    have:=A7 (cs:=S.aa n) (vs:=vs) hin.len.symm fun i c hc=>hmx i c (Nat.zero_le _) hc
    omega
   have c1:(((0:Nat):Int) - 1<0):=by omega
   rw[hQf]
   simp only[sz,simprocAttr,bp,aG,h6,c1]
   rw[hlast] at hJ2
   exact fin g2 hJ2 (by omega)
  ·obtain ⟨i,rfl⟩:∃i,m'=i+1:=⟨m' - 1,by omega⟩
   rw[Nat.add_sub_cancel] at hx hc
   have hil:=(List.getElem?_eq_some_iff.1 hx).1
   have e1:((i+1:Nat):Int) - 1=(i:Int):=by omega
   rw[e1] at h6
   have c1:¬((i:Int)<0):=by omega
   have u1:i<((vs.take (i+1)++List.replicate (vs.length - (i+1)) 0).map ci).length:=by simp;omega
   have u2:((vs.take (i+1)++List.replicate (vs.length - (i+1)) 0).map ci)[i]?=some (ci x):=by
    rw[List.getElem?_map,List.getElem?_append_left (by simp;omega),List.getElem?_take_of_lt (by omega),hx];rfl
   have ru:=ho2.rows
   obtain ⟨x',hx',hx0,hx1⟩:=hin.get hc
   rw[Gs hx' hx] at hx0 hx1
   have hcb:=hr.cs c (List.mem_of_getElem? hc)
   have w2:IntKind.wrap .i64 (x+1)=x+1:=aq (by omega) (by omega)
   simp only[sz,simprocAttr,bp,h6,c1,h4,ru,u1,u2,ci,w2]
   refine bJ (v:=u) (sz:=1) (n:=1) (i:=i) (off:=0) (x:=.int .i64 (x+1)) (row':=ci (x+1)) ho2 u2 rfl rfl rfl fun g4 hu4 n4 f4=>?_
   rw[<-List.map_set,Bi hil] at hu4
   have hin2:=Ke hin hcs1 hx hc hxc
   have hidx2:=Jm (cs:=S.aa n) (vs:=vs) hin.len.symm hx fun k c hk hc=>hmx k c (by omega) hc
   rw[hidx] at hidx2
   have hlt2:=cM hr.cs hin2
   have w3:IntKind.wrap .i64 ((j:Int)+1)=((j+1:Nat):Int):=by rw[aq (by omega) (by omega)];rfl
   simp only[sz,simprocAttr,bP,h5,w3]
   refine ⟨S.ap n - (j+1),by omega,?_⟩
   rw[hINV]
   refine ⟨rfl,j+1,_,rfl,by omega,hin2,by rw[hidx2];rfl,by simp[St,LM,sx,h0,h1,h2,h4],hu4,hJ _ _ _ (fun i hi=>f4 i fun e=>by rw[hvu] at e;injection e with e;omega) hJ2,by omega⟩
 cases hm:S.jm vs e with
 | false =>
  rw[hm] at hmt
  rw[eM]
  simp only[sz,simprocAttr,h4,h2,iD,hmt]
  exact rest _ _ (by simp[St,LM,sx,h0,h1,h2,h4,h5]) ho (skip j _ hj (by rw[hval];exact hm) hJj) hnx
 | true =>
  rw[hm] at hmt
  rw[eM]
  have hwt:=GR (d:=d) (g:=g) (v:=.agg [.int .i64 n.grain,b,fl,S_]) (w:=u) (vals:=vs) (y:=y) hd hr ⟨_,rfl,Rp.tree hcs (Nat.le_refl 0)⟩ hq hsl hin
  simp only[sz,simprocAttr,h0,h1,h5,h4,h2,iD,hmt,hwt,M6 (a:=.int .i64 (j:Int)) (b:=.int .i64 (S.ba n vs)) ⟨rfl,rfl⟩ ⟨rfl,rfl⟩ ho.cell]
  have st:=fun K' D=>step j u g K' D hj (by rw[hval];exact hm) hnx hJj (by rw[hval];exact hsl)
  rw[hval] at st
  show (cI (I C0) d id [.agg [.int .i64 (j:Int),.int .i64 (S.ba n vs),u]] g).sat _ _ _
  refine st _ _ (fun g' hJ' hn' hf'=>?_) fun g' hE=>?_
  ·simp only[sz,simprocAttr]
   exact rest _ _ (by simp[St,LM,sx,h0,h1,h2,h4,h5]) (ho.fr hn' fun i hi=>hf' i (ho.lt hi).1 (ho.lt hi).2) hJ' (by omega)
  ·rw[hQ1,hQf]
   simp only[sz,simprocAttr,aG]
   exact finE g' hE
theorem Hq {C:Cfg}{d id nt:Nat}{t:T}{ps:List Nat}{assign body:Code}{a b:SC}{dfr:Nat}{args:List AV}{g:G}{K:AV->G->Prop}{D:ADf->Prop}{t':T}
  (hg:g.h.get id=.loop nt t ps assign body dfr .ready none) (ha:dX C nt assign=a) (hb:dX C nt body=b) (hp:dB t nt ps args=some t')
  (h:wp C d (some id) a (fun e t1 df g1=>e=.norm/\df=[]/\g1.h.get id=.loop nt t ps assign body dfr .ready none /\
   wp C d (some id) b (fun e _ df g2=>df=[]/\g2.h.get id=.loop nt t ps assign body dfr .busy none/\((e=.norm/\K (.bool true) (g2.put id (.loop nt t ps assign body dfr .ready none)))\/(e=.ret/\K (.bool false) (g2.put id (.loop nt t ps assign body dfr .done (some .ret))))))
    t1 [] (g1.put id (.loop nt t ps assign body dfr .busy none))) t' [] g) :
  (cI (I C) d id args g).sat K g D:=by
 subst ha;subst hb
 unfold cI
 rw[show g.get id=_ from hg]
 dsimp only
 rw[hp]
 dsimp only
 have h1:=rQ h
 cases hc:(I C).code nt d (some id) assign t' [] g with
 | fail=>rw[hc] at h1;exact h1.elim
 | ok e t1 df g1 =>
  rw[hc] at h1
  obtain ⟨rfl,rfl,hg1,h2⟩:=h1
  dsimp only
  rw[show g1.get id=_ from hg1]
  dsimp only
  have h3:=rQ h2
  cases hc2:(I C).code nt d (some id) body t1 [] (g1.put id (.loop nt t ps assign body dfr .busy none)) with
  | fail=>rw[hc2] at h3;exact h3.elim
  | ok e t2 df2 g2 =>
   rw[hc2] at h3
   obtain ⟨rfl,h4,h5⟩:=h3
   dsimp only
   rw[show g2.get id=_ from h4]
   rcases h5 with ⟨rfl,h5⟩ | ⟨rfl,h5⟩<;>exact h5
theorem Cz:C0.ext N.aa=none:=by kernel_rfl
theorem Ak {d nt p r:Nat}{n:Net}{y:QnM}{e:List Int}{cs:List AV}{w:AV}{ca cb:SC}{Q:QT}{t:T}{g:G}(hd:0<d)(hr:NR n)(hq:QnOk n y)(hcs:Rp.rp NoP 0 .nil y cs)(hw:SlR NoP 0 .nil e w)(hel:e.length<=n.nodes.length)
  (hv:tat t r=.clo N.aa [] [.tptr 0 4 [cs] 0 0,.tptr 0 1 [[w]] 0 0]) (hp:p<nt)
  (J:Nat->H->Prop) (E:H->Prop) (hJ:∀j h h',(∀i,i<g.nx->h'.get i=h.get i)->J j h->J j h') (hE:∀h h',(∀i,i<g.nx->h'.get i=h.get i)->E h->E h') (h0:J 0 g.h)
  (skip:∀(j:Nat) (h:H),j<S.ap n->S.jm (S.am (S.aa n) j) e=false->J j h->J (j+1) h)
  (step:∀(j:Nat) (u:AV) (g1:G),j<S.ap n->S.jm (S.am (S.aa n) j) e=true->J j g1.h->g.nx+2<=g1.nx->SlR (fun i=>g.nx+2<=i/\i<g1.nx) 0 g1.h (S.am (S.aa n) j) u ->
   wp C0 d (some (g.nx+1)) ca (fun e t1 df g1'=>e=.norm/\df=[]/\Fr g1 g1'/\∀g2:G,g2.nx=g1'.nx->(∀i,i≠g.nx+1->g2.h.get i=g1'.h.get i) ->
    wp C0 d (some (g.nx+1)) cb (fun e _ df g3=>df=[]/\RowQ g.nx g2 g3 e (J (j+1) g3.h) (E g3.h)) t1 [] g2)
    (fC t p (.agg [.int .i64 (j:Int),.int .i64 (S.ba n (S.am (S.aa n) j)),u])) [] g1)
  (fin:∀g',J (S.ap n) g'.h->g.nx+2<=g'.nx->g'.h.get g.nx=.dfr true->Q .norm t [.mark g.nx] g')
  (finE:∀g',E g'.h->g.nx+2<=g'.nx->g'.h.get g.nx=.dfr true->Q .ret t [.mark g.nx] g') :
  wp C0 d none (.rng nt (.t r) [p] ca cb) Q t [] g:=by
 obtain ⟨b,fl,S_,rfl,-,-,-⟩:=uf.1 hcs
 rw[hq.net] at hv hcs
 refine yp (fn:=N.aa) (first:=[]) (cap:=[.tptr 0 4 [[.int .i64 n.grain,b,fl,S_]] 0 0,.tptr 0 1 [[w]] 0 0]) (s:=aG) hv Cz js (by simp[aG]) ?_
 intro assign body ha hb
 have e1:((g.new (.dfr true)).new (.loop nt t [p] assign body g.nx .ready none)).nx=g.nx+2:=by simp
 refine HD (g0:=(g.new (.dfr true)).new (.loop nt t [p] assign body g.nx .ready none)) (id:=g.nx+1) hd hr hq hcs hw hel
  (fun j h=>J j h/\h.get g.nx=.dfr true/\h.get (g.nx+1)=.loop nt t [p] assign body g.nx .ready none)
  (fun g'=>E g'.h/\g'.h.get g.nx=.dfr true/\g'.h.get (g.nx+1)=.loop nt t [p] assign body g.nx .done (some .ret)/\g.nx+2<=g'.nx) ?_ ?_ ?_ ?_ ?_ ?_
 ·rintro j h h' hh ⟨a1,a2,a3⟩
  rw[e1] at hh
  exact ⟨hJ j h h' (fun i hi=>hh i (by omega)) a1,by rw[hh _ (by omega),a2],by rw[hh _ (by omega),a3]⟩
 ·rintro j h hj hm ⟨a1,a2,a3⟩
  exact ⟨skip j h hj hm a1,a2,a3⟩
 ·rintro j u g1 K' D hj hm hn ⟨a1,a2,a3⟩ hsl kk kE
  rw[e1] at hn kk hsl
  refine Hq a3 ha hb (t':=fC t p (.agg [.int .i64 (j:Int),.int .i64 (S.ba n (S.am (S.aa n) j)),u])) ?_ ?_
  ·simp only[dB,aa,Nat.blt_eq,if_pos hp];rfl
  ·refine cw _ (step j u g1 hj hm a1 (by omega) hsl) ?_
   rintro e t1 df g1' ⟨rfl,rfl,hfr,h⟩
   have hl0:g.nx+1<g1.nx:=by omega
   have hl:g.nx+1<g1'.nx:=Nat.lt_of_lt_of_le hl0 hfr.1
   have a2':g1'.h.get g.nx=.dfr true:=by rw[hfr.2 _ (by omega),a2]
   have a3':g1'.h.get (g.nx+1)=.loop nt t [p] assign body g.nx .ready none:=by rw[hfr.2 _ hl0,a3]
   refine ⟨rfl,rfl,a3',?_⟩
   refine cw _ (h (g1'.put (g.nx+1) (.loop nt t [p] assign body g.nx .busy none)) (by simp) (fun i hi=>by simp[H.get_put,hi])) ?_
   rintro e t2 df g3 ⟨rfl,⟨b2,b3,b1⟩⟩
   have b4:g3.h.get (g.nx+1)=.loop nt t [p] assign body g.nx .busy none:=by rw[b3 _ (by omega) (by simpa using hl)];simp[H.get_put]
   have b5:g3.h.get g.nx=.dfr true:=by
    rw[b3 _ (by omega) (by simp;omega)];simp[H.get_put,a2']
   refine ⟨rfl,b4,?_⟩
   have b2':g1'.nx<=g3.nx:=by simpa using b2
   have hf1:=hfr.1
   rcases b1 with ⟨rfl,b1⟩ | ⟨rfl,b1⟩
   ·refine .inl ⟨rfl,kk _ ⟨hJ _ g3.h _ (fun i hi=>by simp[H.get_put,show ¬i=g.nx+1 by omega]) b1,?_,?_⟩ (by simp;omega) fun i h1 h2=>?_⟩
    ·simp[H.get_put,b5]
    ·simp[H.get_put]
    ·have hne:¬i=g.nx+1:=by omega
     have:=b3 i (by omega) (by simp;omega)
     simp[H.get_put,hne] at this ⊢
     rw[this,hfr.2 i h2]
   ·refine .inr ⟨rfl,kE _ ⟨hE g3.h _ (fun i hi=>by simp[H.get_put,show ¬i=g.nx+1 by omega]) b1,?_,?_,?_⟩⟩
    ·simp[H.get_put,b5]
    ·simp[H.get_put]
    ·simp;omega
 ·refine ⟨hJ 0 g.h _ (fun i hi=>?_) h0,?_,?_⟩
  ·simp[H.get_put,show ¬i=g.nx+1 by omega,show ¬i=g.nx by omega]
  ·simp[H.get_put]
  ·simp[H.get_put]
 ·rintro g' ⟨a1,a2,a3⟩ hn
  rw[e1] at hn
  refine ⟨_,_,_,_,_,_,.inl ⟨a3,fin _ (hJ _ g'.h _ (fun i hi=>by simp[H.get_put,show ¬i=g.nx+1 by omega]) a1) (by simpa using hn) ?_⟩⟩
  simp[H.get_put,a2]
 ·rintro g' ⟨a1,a2,a3,hn⟩
  refine ⟨_,_,_,_,_,_,.inr ⟨a3,finE _ (hE g'.h _ (fun i hi=>by simp[H.get_put,show ¬i=g.nx+1 by omega]) a1) (by simpa using hn) ?_⟩⟩
  simp[H.get_put,a2]
theorem q8 {n:Net}{e:List Int}(h:S.ay n e=true):e.length=n.nodes.length/\∀x∈e,-1<=x:=by
 simp only[S.ay,Bool.and_eq_true,decide_eq_true_eq,List.all_eq_true] at h
 refine ⟨h.1,fun x hx=>?_⟩
 obtain ⟨i,hi,he⟩:=List.mem_iff_getElem.1 hx
 have:=(h.2 i (List.mem_range.2 hi)).1
 rw[List.getElem?_eq_getElem hi,he] at this
 exact this
def S.pe (n:Net)(e:List Int)(w:Nat):Bool:=S.aT (S.am (S.aa n) (w:Int)) e
theorem CM (n:Net)(e:List Int):S.aJ n e=S.an n (S.pe n e) (S.ap n):=rfl
theorem BB {n:Net}(h:NR n){p:Nat->Bool}{j:Nat}(hj:j<=1024):0<=S.an n p j/\S.an n p j<=171992678400000000:=by
 have:=o9 h p j
 omega
theorem AT (g:G)(o o':AObj):Fr g ((g.new o).put g.nx o'):=⟨by simp,fun i hi=>by simp[H.get_put,show ¬i=g.nx by omega]⟩
def Nw (pm:List Nat)(ws:List (Bool×Bool)):Bool:=(List.range ws.length).all fun j=>(List.range j).all fun i=>!(ws.getD i (false,false)).2 || !(ws.getD j (false,false)).1 || (pm.getD j 0).testBit i
theorem wu {pm:List Nat}{i:Nat}{x:Foot}:∀{r:List Foot} {j:Nat},(∀b y,r[b]?=some y->y.wr=[]\/(pm.getD (j+b) 0).testBit i=true)->bY pm i x j r=0
 | [],_,_=>rfl
 | y::r,j,h=>by
  have h0:=h 0 y rfl
  have ih:bY pm i x (Nat.succ j) r=0:=wu fun b z hz=>by
   have:=h (b+1) z (by simpa using hz)
   rwa [show j+(b+1)=Nat.succ j+b by omega] at this
  have hc:((pm.getD j 0).testBit i || !meets y.wr (fst1 x.lk.sr))=true:=by
   rcases h0 with h0 | h0
   ·rw[h0];simp[meets]
   ·rw[Nat.add_zero] at h0;rw[h0,Bool.true_or]
  rw[bY,aa,if_pos hc,ih]
theorem z9 {pm:List Nat}:∀{l:List Foot} {i:Nat},(∀a x,l[a]?=some x->x.lk.sr=[]\/∀b y,a<b->l[b]?=some y->y.wr=[]\/(pm.getD (i+b) 0).testBit (i+a)=true)->jf pm i l=true
 | [],_,_=>rfl
 | x::r,i,h=>by
  have ih:jf pm (Nat.succ i) r=true:=z9 fun a y hy=>by
   rcases h (a+1) y (by simpa using hy) with h' | h'
   ·exact .inl h'
   ·refine .inr fun b z hb hz=>?_
    have:=h' (b+1) z (by omega) (by simpa using hz)
    rwa [show i+(b+1)=Nat.succ i+b by omega,show i+(a+1)=Nat.succ i+a by omega] at this
  rw[jf,ih]
  rcases h 0 x rfl with h' | h'
  ·rw[h'];first | done | rfl
  ·have hc:bY pm i x (Nat.succ i) r=0:=wu fun b y hy=>by
    have:=h' (b+1) y (by omega) (by simpa using hy)
    rwa [show i+(b+1)=Nat.succ i+b by omega,Nat.add_zero] at this
   rw[hc]
   cases x.lk.sr<;>rfl
theorem Co {pm:List Nat}{fs:List Foot}(ws:List (Bool×Bool))(L:List (Nat×Nat))(hw:All2 (fun (f:Foot) (w:Bool×Bool)=>(w.2=false->f.lk.sr=[])/\(w.1=false->f.wr=[])) fs ws)(hs:Nw pm ws=true)(hd:F_ pm (ws.map (·.1)) L=true)
  (hL:∀p∈L,∀x y,fs[p.1]?=some x->fs[p.2]?=some y->b_ x y=true):j9 pm fs=true:=by
 unfold j9
 rw[aa,if_pos]
 ·refine z9 fun a x ha=>?_
  obtain ⟨wa,hwa,ka⟩:=hw.get ha
  cases e:wa.2 with
  | false=>exact .inl (ka.1 e)
  | true =>
   refine .inr fun b y hab hb=>?_
   obtain ⟨wb,hwb,kb⟩:=hw.get hb
   have hbl:=(List.getElem?_eq_some_iff.1 hwb).1
   have:=List.all_eq_true.1 (List.all_eq_true.1 hs b (List.mem_range.2 hbl)) a (List.mem_range.2 hab)
   simp only[List.getD_eq_getElem?_getD,hwa,hwb,Option.getD_some,e,Bool.not_true,Bool.false_or,Bool.or_eq_true,Bool.not_eq_true'] at this
   rcases this with h | h
   ·exact .inl (kb.2 h)
   ·refine .inr ?_
    rw[Nat.zero_add,Nat.zero_add,List.getD_eq_getElem?_getD];exact h
 ·refine ro fun a b x y hab ha hb=>?_
  simp only[Nat.zero_add]
  obtain ⟨wa,hwa,ka⟩:=hw.get ha
  obtain ⟨wb,hwb,kb⟩:=hw.get hb
  have hbl:=(List.getElem?_eq_some_iff.1 hwb).1
  have:=List.all_eq_true.1 (List.all_eq_true.1 hd b (List.mem_range.2 (by simpa using hbl))) a (List.mem_range.2 hab)
  simp only[EW,Bool.or_eq_true] at this
  rcases this with (h | h) | h
  ·rw[h,Bool.true_or]
  ·simp only[List.getD_eq_getElem?_getD,List.getElem?_map,hwa,hwb,Option.map_some,Option.getD_some,Bool.and_eq_true,Bool.not_eq_true'] at h
   have ex:=ka.2 h.1
   have ey:=kb.2 h.2
   simp only[b_,ja,gx,ex,ey,Bool.and_self,Bool.or_true]
  ·rw[hL (a,b) (List.contains_iff_mem.1 h) x y ha hb,Bool.or_true]
section
variable {α:Type} [DecidableEq α]
def mgt (L:List (α×Int))(k:α):Int:=match L with
 | []=>0
 | (a,v)::r=>if k=a then v else mgt r k
def mst (k:α)(v:Int):List (α×Int)->List (α×Int)
 | []=>[(k,v)]
 | (a,w)::r=>if k=a then (k,v)::r else (a,w)::mst k v r
theorem Gd (k j:α)(v:Int):∀L:List (α×Int),mgt (mst k v L) j=if j=k then v else mgt L j
 | []=>by simp only[mst,mgt]
 | (a,w)::r=>by
  rw[mst]
  by_cases e:k=a
  ·subst e
   rw[if_pos rfl,mgt,mgt]
   by_cases e2:j=k
   ·rw[if_pos e2,if_pos e2]
   ·rw[if_neg e2,if_neg e2,if_neg e2]
  ·rw[if_neg e,mgt,Gd k j v r,mgt]
   by_cases e2:j=a
   ·rw[if_pos e2,if_pos e2,if_neg (fun h=>e (by rw[<-h,e2]))]
   ·rw[if_neg e2,if_neg e2]
def mcl (kf:α->AV)(L:List (α×Int)):List (AV×AV):=L.map fun p=>(kf p.1,.int .i64 p.2)
theorem Gp {kf:α->AV}(hk:∀a b,iz (kf a) (kf b)=some (decide (a=b)))(k:α):∀L:List (α×Int),jN (kf k) (mcl kf L)=some (if L.any (fun p=>decide (k=p.1)) then some (.int .i64 (mgt L k)) else none)
 | []=>rfl
 | (a,w)::r=>by
  rw[mcl,List.map_cons,jN,hk]
  by_cases e:k=a
  ·subst e;simp[mgt]
  ·have ih:=Gp hk k r
   rw[mcl] at ih
   simp only[decide_eq_false e]
   rw[ih,List.any_cons,mgt,if_neg e,decide_eq_false e,Bool.false_or]
theorem B7 (k:α):∀L:List (α×Int),L.any (fun p=>decide (k=p.1))=false->mgt L k=0
 | [],_=>rfl
 | (a,w)::r,h=>by
  rw[List.any_cons,Bool.or_eq_false_iff] at h
  rw[mgt,if_neg (of_decide_eq_false h.1),B7 k r h.2]
theorem Ig {kf:α->AV}(hk:∀a b,iz (kf a) (kf b)=some (decide (a=b)))(k:α)(x:Int):∀L:List (α×Int),Do (kf k) (.int .i64 x) (mcl kf L)=some (mcl kf (mst k x L))
 | []=>rfl
 | (a,w)::r=>by
  rw[mcl,List.map_cons,Do,hk,mst]
  by_cases e:k=a
  ·subst e;simp[mcl]
  ·have ih:=Ig hk k x r
   rw[mcl] at ih
   simp only[decide_eq_false e,if_neg e,ih]
   rfl
theorem KL {kf:α->AV}(hk:∀a b,iz (kf a) (kf b)=some (decide (a=b))){kk:KeyKind}{m k:T->AV}{t:T}{g:G}{id:Nat}{a:α}{L:List (α×Int)}(h1:m t=.hmap id)(h2:k t=kf a)(ho:jO kk (kf a)=true)(hg:g.h.get id=.map (mcl kf L)) :
  bQ kk (.int .i64 0) false m k t g=.val (.int .i64 (mgt L a)):=by
 unfold bQ
 rw[h1,h2,ho]
 simp only[G.get_eq,hg,Gp hk]
 cases h:L.any (fun p=>decide (a=p.1)) with
 | true=>simp
 | false=>simp[B7 a L h]
theorem J8 {kf:α->AV}(hk:∀a b,iz (kf a) (kf b)=some (decide (a=b))){kk:KeyKind}{m k x:T->AV}{t:T}{g:G}{id:Nat}{a:α}{v:Int}{L:List (α×Int)}(h1:m t=.hmap id)(h2:k t=kf a)(h3:x t=.int .i64 v)(ho:jO kk (kf a)=true)(hg:g.h.get id=.map (mcl kf L)) :
  bO kk m k x t g=.upd .undef (g.put id (.map (mcl kf (mst a v L)))):=by
 unfold bO
 rw[h1,h2,h3,ho]
 simp only[G.get_eq,hg,Ig hk]
end
def ik (a:Int):AV:=.int .i64 a
theorem Mq (a b:Int):iz (ik a) (ik b)=some (decide (a=b)):=by
 show some (Dj a b)=_
 rw[o_]
theorem IJ (d:Nat)(rd:Option Nat)(t:T)(g:G):(SO.raw (.makeMap 123 none)).run C0 d rd t g=.upd (.hmap g.nx) (g.new (.map [])):=by kernel_rfl
theorem EO {d:Nat}{rd:Option Nat}{t:T}{g:G}{a b id:Nat}{k:Int}{L:List (Int×Int)}{op:Op}(hr:(SO.raw op).run C0 d rd t g=bQ (.one (.int .i64)) (.int .i64 0) false (fun t=>tat t a) (fun t=>tat t b) t g)(h1:tat t a=.hmap id)(h2:tat t b=.int .i64 k)(hg:g.h.get id=.map (mcl ik L)):(SO.raw op).run C0 d rd t g=.val (.int .i64 (mgt L k)):=by
 rw[hr];exact KL Mq h1 h2 rfl hg
theorem Eo {d:Nat}{rd:Option Nat}{t:T}{g:G}{a b c id:Nat}{k x:Int}{L:List (Int×Int)}{op:Op}(hr:(SO.raw op).run C0 d rd t g=bO (.one (.int .i64)) (fun t=>tat t a) (fun t=>tat t b) (fun t=>tat t c) t g)(h1:tat t a=.hmap id)(h2:tat t b=.int .i64 k)(h3:tat t c=.int .i64 x)(hg:g.h.get id=.map (mcl ik L)):(SO.raw op).run C0 d rd t g=.upd .undef (g.put id (.map (mcl ik (mst k x L)))):=by
 rw[hr];exact J8 Mq h1 h2 h3 rfl hg
theorem EU {C:Cfg}{ty kt et a b:Nat}{z:AV}{ok:Bool}(hu:C.P.underlying ty=some (.map kt et))(hz:sJ C.P et=some z)(d:Nat)(rd:Option Nat)(t:T)(g:G):(SO.raw (.lookup ty (.tmp a) (.tmp b) ok)).run C d rd t g=bQ (cH C.P kt) z ok (fun t=>tat t a) (fun t=>tat t b) t g:=by
 obtain ⟨s1,e1,r1⟩:=a_ (C:=C) (x:=.tmp a) (o:=.t a) rfl
 obtain ⟨s2,e2,r2⟩:=a_ (C:=C) (x:=.tmp b) (o:=.t b) rfl
 show (ck C _).run (I C) d rd t g=_
 rw[bD (s:=⟨bQ (cH C.P kt) z ok s1.run s2.run⟩) rfl (by simp only[bU,e1,e2,hu,hz])]
 rw[show s1.run=fun t=>tat t a from funext r1,show s2.run=fun t=>tat t b from funext r2]
theorem Et {C:Cfg}{ty kt et a b c:Nat}(hu:C.P.underlying ty=some (.map kt et))(d:Nat)(rd:Option Nat)(t:T)(g:G):(SO.raw (.mapUpdate ty (.tmp a) (.tmp b) (.tmp c))).run C d rd t g=bO (cH C.P kt) (fun t=>tat t a) (fun t=>tat t b) (fun t=>tat t c) t g:=by
 obtain ⟨s1,e1,r1⟩:=a_ (C:=C) (x:=.tmp a) (o:=.t a) rfl
 obtain ⟨s2,e2,r2⟩:=a_ (C:=C) (x:=.tmp b) (o:=.t b) rfl
 obtain ⟨s3,e3,r3⟩:=a_ (C:=C) (x:=.tmp c) (o:=.t c) rfl
 show (ck C _).run (I C) d rd t g=_
 rw[bD (s:=⟨bO (cH C.P kt) s1.run s2.run s3.run⟩) rfl (by simp only[bU,e1,e2,e3,hu])]
 rw[show s1.run=fun t=>tat t a from funext r1,show s2.run=fun t=>tat t b from funext r2,show s3.run=fun t=>tat t c from funext r3]
theorem Hu {C:Cfg}{ty a b:Nat}(t:T)(g:G):SO.foot C t g (.raw (.lookup ty (.tmp a) (.tmp b) false))=⟨[],(an (tat t a)).map (·,ty),[],false⟩:=by
 obtain ⟨s1,e1,r1⟩:=a_ (C:=C) (x:=.tmp a) (o:=.t a) rfl
 show (aK C _).run t g=_
 simp only[aK,e1,r1]
 rfl
theorem HK {C:Cfg}{ty a b c:Nat}(t:T)(g:G):SO.foot C t g (.raw (.mapUpdate ty (.tmp a) (.tmp b) (.tmp c)))=ap (an (tat t a)):=by
 obtain ⟨s1,e1,r1⟩:=a_ (C:=C) (x:=.tmp a) (o:=.t a) rfl
 show (aK C _).run t g=_
 simp only[aK,e1,r1]
 rfl
theorem Ki:cH C0.P 3=.one (.int .i64):=by kernel_rfl
theorem Jj:C0.P.underlying 123=some (.map 3 3):=by kernel_rfl
theorem NT:sJ C0.P 3=some (.int .i64 0):=by kernel_rfl
theorem F2 {d:Nat}{rd:Option Nat}{t:T}{g:G}{a b id:Nat}{k:Int}{L:List (Int×Int)}(h1:tat t a=.hmap id)(h2:tat t b=.int .i64 k)(hg:g.h.get id=.map (mcl ik L)):(SO.raw (.lookup 123 (.tmp a) (.tmp b) false)).run C0 d rd t g=.val (.int .i64 (mgt L k)) :=
 EO (by rw[EU Jj NT,Ki]) h1 h2 hg
theorem Nd {d:Nat}{rd:Option Nat}{t:T}{g:G}{a b c id:Nat}{k x:Int}{L:List (Int×Int)}(h1:tat t a=.hmap id)(h2:tat t b=.int .i64 k)(h3:tat t c=.int .i64 x)(hg:g.h.get id=.map (mcl ik L)):(SO.raw (.mapUpdate 123 (.tmp a) (.tmp b) (.tmp c))).run C0 d rd t g=.upd .undef (g.put id (.map (mcl ik (mst k x L)))) :=
 Eo (by rw[Et Jj,Ki]) h1 h2 h3 hg
end
end Hx
end
section
namespace Hx
open Go
noncomputable section
def S.aY (s j:Nat):List Int:=((List.range j).filter fun v=>s.testBit v).map fun v:Nat=>(v:Int)
theorem tf (s j:Nat):S.aY s (j+1)=S.aY s j++if s.testBit j then [(j:Int)] else []:=by
 rw[S.aY,List.range_succ,List.filter_append,List.map_append]
 congr 1
 cases hb:s.testBit j<;>simp[List.filter,hb]
theorem KB {s j:Nat}:∀y∈S.aY s j,0<=y/\y<j:=fun y hy=>by
 obtain ⟨v,hv,rfl⟩:=List.mem_map.1 hy
 have:=List.mem_range.1 (List.mem_filter.1 hv).1
 omega
def S.aP (n:Net)(vals:List Int)(s j:Nat):Int:=S.ah (S.ac (S.aa n) (S.aY s j)) (S.ac vals (S.aY s j))
theorem Hs {n:Net}{vals:List Int}{s j:Nat}:S.aP n vals s (j+1)=if s.testBit j then S.aP n vals s j*((S.aa n)[j]?.getD 0)+vals[j]?.getD 0 else S.aP n vals s j:=by
 rw[S.aP,tf,bZ,bZ,rW _ _ (by simp[cg])]
 cases s.testBit j with
 | true=>simp[S.ac,S.ah,S.ae,S.aP]
 | false=>simp[S.ac,S.ah,S.ae,S.aP]
theorem A1 (s:Nat):∀j,(S.aY s j).length<=j
 | 0=>by simp[S.aY]
 | j+1=>by
  have:=A1 s j
  rw[tf,List.length_append]
  split<;>simp<;>omega
theorem xR {n:Net}(h:NR n){vals:List Int}(hv:InC (S.aa n) vals){s j:Nat}(hj:j<=n.nodes.length):0<=S.aP n vals s j/\S.aP n vals s j<65536:=by
 have hin:∀p∈S.aY s j,0<=p/\p<(S.aa n).length:=fun p hp=>by have:=KB p hp;rw[aC];omega
 have h1:=cM (aU h.cs hin) (dM hv hin)
 have h2:=bo (l:=S.ac (S.aa n) (S.aY s j)) (aU h.cs hin)
 have h3:=bV (a:=(S.ac (S.aa n) (S.aY s j)).length) (b:=8) (by rw[cg];have:=A1 s j;have:=h.l2;omega)
 have h4:(4:Int) ^ 8=65536:=by decide
 unfold S.aP
 omega
theorem NJ {s v:Nat}:decide (((s / 2 ^ v &&& 1:Nat):Int)=1)=s.testBit v:=by
 rw[Nat.and_one_is_mod,Nat.testBit_eq_decide_div_mod_eq]
 rw[Bool.eq_iff_iff,decide_eq_true_iff,decide_eq_true_iff]
 omega
theorem GU {d kk s:Nat}{P:Nat->Prop}{g:G}{v w:AV}{n:Net}{y:QnM}{vals:List Int}(hd:0<d)(hr:NR n)(hm:Agg y NoP 0 g.h v)(hq:QnOk n y)(hv:SlR P kk g.h vals w)(hc:InC (S.aa n) vals)(hs:s<18446744073709551616) :
  ae C0 d N.aS [v,w,.int .u64 (s:Int)] g=.val (.int .i64 (S.aP n vals s n.nodes.length)):=by
 have e0:=eQ d hm
 obtain ⟨cs,rfl,hcs⟩:=hm
 obtain ⟨b,fl,S_,rfl,hN,hfl,hS⟩:=uf.1 hcs
 have hN:SlR NoP 0 .nil y.1.nodes b:=hN.tree (Nat.le_refl 0)
 rw[hq.net] at hN
 obtain ⟨w',e2,hw'⟩:=bB hv d
 have hgr:y.1.grain=n.grain:=by rw[hq.net]
 obtain ⟨rows,r1,r2,r3,r4⟩:=hN.all
 have r1:∀h',ah h' 3 b=some rows:=r1
 have rv:=fun h=>(hw' h).ints
 have lv:∀g:G,d_ .slice w' g=.val (.int .i64 (vals.length:Int)):=fun g=>by rw[bN (rv g.h),List.length_map]
 have hvl:=hc.len
 rw[aC] at hvl
 have hl8:=hr.l2
 rw[lQ]
 refine eA nc (xs:=[.agg [.int .i64 y.1.grain,b,fl,S_],w',.int .u64 (s:Int)]) (by simp only[aB,e0,e2,bM]) (by simp[dH]) hd ?_
 rw[hgr]
 simp only[sz,simprocAttr,dH,fm,lv]
 simp only[eH,eL]
 refine bj (m:=n.nodes.length) (by omega) (fun k t df g=>df=[]/\St t [(2,.int .u64 (s:Int)),(3,.hptr 0 0 0 0),(10,w'),(7,.int .i64 (S.aP n vals s k))]/\g.h.get 0=.cells 4 [[.int .i64 n.grain,b,fl,S_]] 0 false false) ⟨rfl,by simp[St,sx,S.aP,S.aY,S.ac,S.ah],by simp[sx]⟩ (by simp[sx]) (by simp[sx,hvl]) (by decide)
  (by rintro j t df g v s' (rfl | rfl | rfl) ⟨a1,⟨b1,b2,b3,b4,-⟩,c1⟩<;>exact ⟨a1,by simp[St,sx,b1,b2,b3,b4],c1⟩) ?_ ?_
 ·rintro k t df g hk ⟨rfl,⟨h2,h3,h10,h7,-⟩,g0⟩ h12 h11
  obtain ⟨x,hx,-,-⟩:=af hk
  obtain ⟨row,q1,q2⟩:=r3 k x hx
  obtain ⟨fa,fb,rfl,-⟩:=bH.1 q2
  have hlt:k<rows.length:=by omega
  have hry:=r4 (by omega)
  have u1:k<(vals.map ci).length:=by simp;omega
  have u2:(vals.map ci)[k]?=some (ci (vals[k]?.getD 0)):=by rw[List.getElem?_map,List.getElem?_eq_getElem (by omega)];rfl
  have h2n:s / 2 ^ k<18446744073709551616:=Nat.lt_of_le_of_lt (Nat.div_le_self _ _) hs
  have ha:ct .and (.int .u64 ((s / 2 ^ k:Nat):Int)) (.int .u64 1)=.val (.int .u64 ((s / 2 ^ k &&& 1:Nat):Int)):=xx (s / 2 ^ k) 1 h2n (by decide)
  have hn:=Hs (n:=n) (vals:=vals) (s:=s) (j:=k)
  have hcx:(S.aa n)[k]?.getD 0=x.card:=by simp[S.aa,hx]
  rw[hcx] at hn
  have hb0:=xR hr hc (s:=s) (j:=k) (by omega)
  have hb1:=xR hr hc (s:=s) (j:=k+1) (by omega)
  have hcard:=hr.card x (List.mem_of_getElem? hx)
  simp only[sz,simprocAttr,h2,h10,h12,rv,u1,u2,ci,xp _ _ _ hs,ha,NJ]
  cases hbt:s.testBit k with
  | true =>
   rw[hbt,if_pos rfl] at hn
   have hp:0<=S.aP n vals s k*x.card/\S.aP n vals s k*x.card<=65536*4:=⟨Int.mul_nonneg hb0.1 (by omega),Int.mul_le_mul (by omega) hcard.2 (by omega) (by omega)⟩
   have w1:IntKind.wrap .i64 (S.aP n vals s k*x.card)=S.aP n vals s k*x.card:=aq (by omega) (by omega)
   have w2:IntKind.wrap .i64 (S.aP n vals s k*x.card+vals[k]?.getD 0)=S.aP n vals s (k+1):=by rw[<-hn,aq (by omega) (by omega)]
   simp only[sz,simprocAttr,h3,h7,g0,r1,hlt,q1,hry,w1,w2]
   exact ⟨by simp[St,sx,h2,h3,h10],h12,h11⟩
  | false =>
   rw[hbt,if_neg (by simp)] at hn
   simp only[sx,sy,↓reduceIte,Nat.reduceEqDiff]
   exact ⟨⟨by simp[St,sx,h2,h3,h10,h7,hn],g0⟩,h12,h11⟩
 ·rintro t df g ⟨rfl,⟨h2,h3,h10,h7,-⟩,g0⟩
  simp only[sz,simprocAttr,eK,h7]
theorem NL {a:List Int}{va:AV}{q:Nat}{h:H}(ha:SlR NoP 0 .nil a va)(hq:h.get q=.cells 1 [[va]] 0 false false):SlR (fun _=>True) 0 h [a] (.hsl q 0 0 1 none):=by
 refine ⟨by show 1<_;decide,trivial,[[va]],?_,Ln ha,trivial⟩
 show ah h 1 _=_
 simp only[ah,hq];rfl
theorem yO {n:Net}{ls:List (List Int)}{P:Nat->Prop}{k:Nat}{h:H}{v:AV}(hv:KQ n ls P k h v) :
  ∃y cs,v=.tup [.agg cs,.int .i64 (S.bc n ls)]/\(S.bc n ls=0->QnOk n y)/\Rp.rp P k h y cs/\∃a1 a2 a3 a4,cs=[a1,a2,a3,a4]:=by
 obtain ⟨y,hy,a,c,rfl,⟨cs,rfl,hc⟩,hi⟩:=hv
 have hi:=aJ.1 hi
 injection hi with hi
 subst hi
 obtain ⟨a2,a3,a4,rfl,-⟩:=uf.1 hc
 exact ⟨y,_,rfl,hy,hc,_,_,_,_,rfl⟩
theorem wA (n:Net)(e:List Int):S.bc n [e]=S.aw n e:=by
 rw[S.bc,S.aw];simp
theorem i6 {n:Net}{e:List Int}:S.aw n e=0↔S.aC n=true/\S.ay n e=true:=by
 rw[S.aw]
 cases S.aC n<;>cases S.ay n e<;>simp
theorem Ba {A:PT}{t:T}{df:List ADf}{g:G}(p:T->G->Prop)(hp:p t g)(h:∀t1 g1,p t1 g1->A t1 df g1):A t df g:=h t g hp
structure GvJ (g0:G) (q:Nat) (s:Int) (h:H):Prop where
 fr:∀i,i<g0.nx->i≠q->h.get i=g0.h.get i
 hq:h.get q=.cells 1 [[.int .i64 s]] 0 false false
def S.wt (n:Net)(w:Nat):Int:=S.ba n (S.am (S.aa n) (w:Int))
def S.ak (n:Net)(e:List Int)(w0:Int):Nat->Int×Int
 | 0=>(w0,0)
 | j+1=>if S.pe n e j=true/\(S.ak n e w0 j).2<S.wt n j then ((j:Int),S.wt n j) else S.ak n e w0 j
theorem Cb {n:Net}(h:NR n)(w:Nat):0<=S.wt n w/\S.wt n w<=167961600000000:=sD h (lB (fun c hc=>(h.cs c hc).1) (w:Int))
theorem rZ {n:Net}(h:NR n)(e:List Int)(w0:Int):∀j,0<=(S.ak n e w0 j).2/\(S.ak n e w0 j).2<=167961600000000/\((S.ak n e w0 j).1=w0\/0<=(S.ak n e w0 j).1/\(S.ak n e w0 j).1<j)
 | 0=>⟨by simp[S.ak],by simp[S.ak],.inl rfl⟩
 | j+1=>by
  have ih:=rZ h e w0 j
  have hw:=Cb h j
  rw[S.ak]
  split
  ·exact ⟨hw.1,hw.2,.inr ⟨by omega,by show (j:Int)<_;omega⟩⟩
  ·exact ⟨ih.1,ih.2.1,by omega⟩
theorem GM {n:Net}(h:NR n)(e:List Int)(w0:Int):∀j,(S.ak n e w0 j).2=0->S.an n (S.pe n e) j=0
 | 0,_=>rfl
 | j+1,h0=>by
  have ih:=GM h e w0 j
  have hw:=Cb h j
  have hb:=rZ h e w0 j
  rw[S.ak] at h0
  rw[S.an]
  split at h0
  ·have:S.wt n j=0:=h0
   omega
  ·rename_i hc
   rw[ih h0]
   split
   ·rename_i hp
    have:¬(S.ak n e w0 j).2<S.wt n j:=fun h=>hc ⟨hp,h⟩
    have:S.wt n j=0:=by omega
    unfold S.wt at this
    omega
   ·rfl
theorem Ap {n:Net}(e:List Int)(w0 w1:Int):∀j,(S.ak n e w0 j).2=(S.ak n e w1 j).2/\((S.ak n e w0 j).2≠0->(S.ak n e w0 j).1=(S.ak n e w1 j).1)
 | 0=>⟨rfl,fun h=>absurd rfl h⟩
 | j+1=>by
  have ih:=Ap (n:=n) e w0 w1 j
  rw[S.ak,S.ak,<-ih.1]
  split
  ·exact ⟨rfl,fun _=>rfl⟩
  ·exact ih
def S.aQ (n:Net)(e:List Int):Int:=if S.aw n e=0 then (if S.aJ n e=0 then 7 else 0) else S.aw n e
def S.aU (n:Net)(e:List Int):Int:=if S.aQ n e=0 then (S.ak n e 0 (S.ap n)).1 else 0
def S.aM (n:Net)(e:List Int):QI:=if S.aQ n e=0 then S.aE (S.ak n e 0 (S.ap n)).2.toNat (S.aJ n e).toNat else (0,0)
structure BeJ (g0:G) (w m b:Int) (h:H):Prop where
 fr:∀i,i<g0.nx->i≠1->i≠5->i≠6->h.get i=g0.h.get i
 h1:h.get 1=.cells 1 [[.int .i64 w]] 0 false false
 h5:h.get 5=.cells 1 [[.int .i64 m]] 0 false false
 h6:h.get 6=.cells 1 [[.int .i64 b]] 0 false false
theorem Kj {d:Nat}{g:G}{v w:AV}{n:Net}{e:List Int}(hd:0<d)(hm:Agg n NoP 0 g.h v)(he:SlR NoP 0 g.h e w) :
  ae C0 d N.aF [v,w] g=.val (.tup [.int .i64 (S.aU n e),.agg [.int .i64 (S.aM n e).1,.int .i64 (S.aM n e).2],.int .i64 (S.aQ n e)]):=by
 have key:∃r,ae C0 d N.aF [v,w] g=.val r/\NW (One (S.aU n e)) (Agg (S.aM n e)) (One (S.aQ n e)) NoP 0 .nil r:=by
  obtain ⟨b,rows,rfl,e1,hm',hN,r1,r2,r3,r4⟩:=cE d hm
  have ew:=dQ d he
  have hw:SlR NoP 0 .nil e w:=he.tree (Nat.le_refl 0)
  have hbd:o6 [.int .i64 0,.int .i64 0] [] []=.val (.agg [.int .i64 0,.int .i64 0]):=rfl
  rw[wT]
  refine aP zk (xs:=[.agg [.int .i64 n.grain,b],w]) (by simp only[aB,e1,ew]) (by simp[oS]) (Jr (m:=2) (aM _) (bh _) (aM _) (by decide) (by decide) (by decide)) (by decide) hd ?_
  simp only[sz,simprocAttr,oS]
  obtain ⟨g0,hg0⟩:∃g0,g0=((G.empty.new (.cells 2 [[.int .i64 n.grain,b]] 0 false false)).new (.cells 1 [[.int .i64 0]] 0 false false)).new (.cells 2 [[.int .i64 0,.int .i64 0]] 0 false false):=⟨_,rfl⟩
  rw[<-hg0]
  have f0:g0.h.get 0=.cells 2 [[.int .i64 n.grain,b]] 0 false false:=by rw[hg0];simp[sx,H.get_put]
  have f1:g0.h.get 1=.cells 1 [[.int .i64 0]] 0 false false:=by rw[hg0];simp[sx,H.get_put]
  have f2:g0.h.get 2=.cells 2 [[.int .i64 0,.int .i64 0]] 0 false false:=by rw[hg0];simp[sx]
  have f3:g0.nx=3:=by rw[hg0];simp[sx]
  clear hg0
  unfold qW
  simp only[sz,simprocAttr,f0,hw.cell.1,hw.cell.2]
  refine ba (Ir (n:=n) (ls:=[e]) (Nat.succ_pos d) (hm' _) (NL hw (by simp[H.get_put]))) fun v hv=>?_
  obtain ⟨y,cs,rfl,hy,hc,a1,a2,a3,a4,rfl⟩:=yO hv
  rw[wA] at hy ⊢
  by_cases h0:S.aw n e=0
  ·have hyo:=hy h0
   obtain ⟨h1,h2⟩:=i6.1 h0
   have hr:=cV.1 h1
   obtain ⟨el,ege⟩:=q8 h2
   obtain ⟨W1,W2,W3⟩:=hr.wl
   simp only[sz,simprocAttr,f3,h0]
   refine ba (Q:=fun r=>∃cs z,r=.clo N.aa [] [.tptr 0 4 [cs] 0 0,.tptr 0 1 [[z]] 0 0]/\Rp.rp NoP 0 .nil y cs/\SlR NoP 0 .nil e z) ?_ ?_
   ·obtain ⟨cs',z',ez,h1,h2⟩:=wo (d:=d+1) (y:=y) (e:=e) (v:=.agg [a1,a2,a3,a4]) (w:=w) (Nat.succ_pos d) ⟨_,rfl,Rp.tree hc (Nat.le_refl 0)⟩ (hw.tree (Nat.le_refl 0))
    exact ⟨_,ez,cs',z',rfl,h1,h2⟩
   rintro _ ⟨cs',z',rfl,hcs',hz'⟩
   simp only[sx]
   refine Ba (fun t g=>g.nx=7/\g.h.get 1=.cells 1 [[.int .i64 0]] 0 false false/\g.h.get 2=.cells 2 [[.int .i64 0,.int .i64 0]] 0 false false/\g.h.get 5=.cells 1 [[.int .i64 0]] 0 false false/\g.h.get 6=.cells 1 [[.int .i64 0]] 0 false false/\St t [(4,.hptr 1 0 0 0),(5,.hptr 2 0 0 0),(9,.hptr 5 0 0 0),(10,.hptr 6 0 0 0),(25,.clo N.aa [] [.tptr 0 4 [cs'] 0 0,.tptr 0 1 [[z']] 0 0])]) ?_ ?_
   ·refine ⟨by simp[f3],by simp[H.get_put,f3,f1],by simp[H.get_put,f3,f2],by simp[H.get_put,f3],by simp[H.get_put,f3],by simp[St,sx]⟩
   rintro t g1 ⟨n1,k1,k2,k5,k6,h4,h5,h9,h10,h25,-⟩
   refine Ak (n:=n) (y:=y) (e:=e) (cs:=cs') (w:=z') (Nat.succ_pos d) hr hyo hcs' hz' (by omega) h25 (by decide)
    (fun j h=>BeJ g1 (S.ak n e 0 j).1 (S.an n (S.pe n e) j) (S.ak n e 0 j).2 h) (fun _=>False) (fun j h h' hh hg=>⟨fun i h1 h2 h3 h4=>by rw[hh i h1,hg.fr i h1 h2 h3 h4],by rw[hh 1 (by omega),hg.h1],by rw[hh 5 (by omega),hg.h5],by rw[hh 6 (by omega),hg.h6]⟩) (fun _ _ _ h=>h) ⟨fun _ _ _ _ _=>rfl,k1,k5,k6⟩ ?_ ?_ ?_ (fun _ h=>h.elim)
   ·intro j h hj hmt hg
    have hp:S.pe n e j=false:=by rw[S.pe,<-GI ege,hmt]
    have hs:S.an n (S.pe n e) (j+1)=S.an n (S.pe n e) j:=by rw[S.an,hp];simp
    have hb:S.ak n e 0 (j+1)=S.ak n e 0 j:=by rw[S.ak,if_neg (by rw[hp];simp)]
    rw[hs,hb];exact hg
   ·intro j u g2 hj hmt hg hn hu
    have hp:S.pe n e j=true:=by rw[S.pe,<-GI ege,hmt]
    have hb:=BB hr (p:=S.pe n e) (j:=j+1) (by omega)
    have hs:S.an n (S.pe n e) (j+1)=S.an n (S.pe n e) j+S.wt n j:=by rw[S.an,hp];simp[S.wt]
    have w1:IntKind.wrap .i64 (S.an n (S.pe n e) j+S.wt n j)=S.an n (S.pe n e) (j+1):=by rw[<-hs,aq (by omega) (by omega)]
    simp only[sz,simprocAttr,pV]
    refine ⟨AT _ _ _,?_⟩
    intro g3 n3 f3'
    have hnx2:g1.nx+2<=g2.nx:=hn
    have j12:g3.h.get g2.nx=.cells 3 [[.int .i64 (j:Int),.int .i64 (S.wt n j),u]] 0 false false:=by rw[f3' _ (by omega),if_pos rfl];rfl
    have jo:∀i,i<7->g3.h.get i=g2.h.get i:=fun i hi=>by rw[f3' i (by omega),if_neg (by omega),if_neg (by omega)]
    have j1:g3.h.get 1=.cells 1 [[.int .i64 (S.ak n e 0 j).1]] 0 false false:=by rw[jo 1 (by omega),hg.h1]
    have j5:g3.h.get 5=.cells 1 [[.int .i64 (S.an n (S.pe n e) j)]] 0 false false:=by rw[jo 5 (by omega),hg.h5]
    have j6:g3.h.get 6=.cells 1 [[.int .i64 (S.ak n e 0 j).2]] 0 false false:=by rw[jo 6 (by omega),hg.h6]
    simp only[sz,simprocAttr,pO,h9,h10,j12,j5,j6,w1,show ¬g2.nx=5 by omega,show ¬6=5 by omega]
    refine aO (fun hb=>?_) (fun hb=>?_)
    ·have hb:(S.ak n e 0 j).2<S.wt n j:=by have:=of_decide_eq_true hb;omega
     have hbs:S.ak n e 0 (j+1)=((j:Int),S.wt n j):=by rw[S.ak,if_pos ⟨hp,hb⟩]
     simp only[sz,simprocAttr,sf,h4,h10,j12,j1,j6,show ¬g2.nx=5 by omega,show ¬g2.nx=1 by omega,show ¬6=5 by omega,show ¬1=5 by omega,show ¬6=1 by omega]
     rw[hbs]
     refine ⟨?_,by simp<;>omega,fun i h1 h2=>?_,.inl ⟨rfl,fun i h1 h2 h3 h4=>?_,?_,?_,?_⟩⟩
     ·simp only[List.reverse_cons,List.reverse_nil,List.nil_append,List.cons_append]
      refine aI [false,false,false,false,true,true] [(2,4),(3,4)] (by simp[All2,ap,ay]) (by decide) ?_
      rintro p hp' x y hx hy
      simp only[List.mem_cons,List.not_mem_nil,or_false] at hp'
      rcases hp' with rfl | rfl<;>(simp at hx hy;subst hx;subst hy;refine bT rfl rfl rfl rfl ?_ ?_ ?_<;>simp[ap,ay,an]<;>omega)
     ·simp[H.get_put,show ¬i=5 by omega,show ¬i=6 by omega,show ¬i=1 by omega]
     ·simp[H.get_put,h2,h3,h4];rw[jo i (by omega),hg.fr i h1 h2 h3 h4]
     ·simp[H.get_put]
     ·simp[H.get_put]
     ·simp[H.get_put]
    ·have hb:¬(S.ak n e 0 j).2<S.wt n j:=by have:=of_decide_eq_false hb;omega
     have hbs:S.ak n e 0 (j+1)=S.ak n e 0 j:=by rw[S.ak,if_neg fun h=>hb h.2]
     simp only[sx,sy]
     rw[hbs]
     refine ⟨by simp,fun i h1 h2=>by simp[H.get_put,show ¬i=5 by omega],.inl ⟨rfl,fun i h1 h2 h3 h4=>?_,?_,?_,?_⟩⟩
     ·simp[H.get_put,h3];rw[jo i (by omega),hg.fr i h1 h2 h3 h4]
     ·simp[H.get_put,j1]
     ·simp[H.get_put]
     ·simp[H.get_put,j6]
   ·intro g' hg hn hdf
    have hmass:S.an n (S.pe n e) (S.ap n)=S.aJ n e:=(CM n e).symm
    have g5:=hg.h5
    have g6:=hg.h6
    have g1':=hg.h1
    rw[hmass] at g5
    have q2:g'.h.get 2=.cells 2 [[.int .i64 0,.int .i64 0]] 0 false false:=by rw[hg.fr 2 (by omega) (by omega) (by omega) (by omega),k2]
    by_cases hm0:S.aJ n e=0
    ·have hE:S.aQ n e=7:=by rw[S.aQ,if_pos h0,if_pos hm0]
     have hW:S.aU n e=0:=by rw[S.aU,hE];rfl
     have hQ:S.aM n e=(0,0):=by rw[S.aM,hE];rfl
     rw[hm0] at g5
     simp only[sz,simprocAttr,jx,h4,h5,h9,g5,g1',q2,show ¬2=1 by omega]
     refine kh (by simp[H.get_put,show ¬g1.nx=2 by omega,show ¬g1.nx=1 by omega,hdf]) ?_
     simp only[sx,sy,↓reduceIte,Nat.reduceEqDiff,h4,h5,show ¬1=g1.nx by omega,show ¬2=g1.nx by omega,show ¬1=2 by omega,Nat.reduceAdd,Nat.reduceLeDiff]
     rw[hW,hQ,hE]
     exact ⟨fun _=>True,_,_,_,rfl,aJ.2 rfl,io.2 rfl,aJ.2 rfl⟩
    ·have hE:S.aQ n e=0:=by rw[S.aQ,if_pos h0,if_neg hm0]
     have hW:S.aU n e=(S.ak n e 0 (S.ap n)).1:=by rw[S.aU,hE];rfl
     have hQ:S.aM n e=S.aE (S.ak n e 0 (S.ap n)).2.toNat (S.aJ n e).toNat:=by rw[S.aM,hE];rfl
     have hb:=rZ hr e 0 (S.ap n)
     have hb1:=wc hr e
     obtain ⟨a,ha⟩:=Int.eq_ofNat_of_zero_le hb.1
     obtain ⟨c,hc'⟩:=Int.eq_ofNat_of_zero_le hb1.1
     rw[ha] at g6
     rw[hc'] at g5 hm0
     have hmk:=IG (d:=d+1) (g:=g') (n:=a) (m:=c) (Nat.succ_pos d) (by omega) (by omega) (by omega)
     simp only[sz,simprocAttr,jx,sf,h4,h5,h9,h10,g5,g6,g1',hm0,hmk,q2,show ¬2=1 by omega,show ¬1=2 by omega]
     refine ⟨?_,?_⟩
     ·simp only[List.reverse_cons,List.reverse_nil,List.nil_append,List.cons_append]
      refine aI [false,false,false,true,true,false] [(1,3),(2,3),(2,4)] (by simp[All2,ap,ay]) (by decide) ?_
      rintro p hp' x y hx hy
      simp only[List.mem_cons,List.not_mem_nil,or_false] at hp'
      rcases hp' with rfl | rfl | rfl<;>(simp at hx hy;subst hx;subst hy;refine bT rfl rfl rfl rfl ?_ ?_ ?_<;>simp[ap,ay,an])
     refine kh (by simp[H.get_put,show ¬g1.nx=2 by omega,show ¬g1.nx=1 by omega,hdf]) ?_
     simp only[sx,sy,↓reduceIte,Nat.reduceEqDiff,h4,h5,show ¬1=g1.nx by omega,show ¬2=g1.nx by omega,show ¬1=2 by omega,Nat.reduceAdd,Nat.reduceLeDiff]
     rw[hW,hQ,hE,ha,hc']
     exact ⟨fun _=>True,_,_,_,rfl,aJ.2 rfl,io.2 rfl,aJ.2 rfl⟩
  ·have hE:S.aQ n e=S.aw n e:=by rw[S.aQ,if_neg h0]
   have hW:S.aU n e=0:=by rw[S.aU,hE,if_neg h0]
   have hQ:S.aM n e=(0,0):=by rw[S.aM,hE,if_neg h0]
   simp only[sz,simprocAttr,f3,h0,f1,f2]
   rw[hW,hQ,hE]
   exact ⟨fun _=>True,_,_,_,rfl,aJ.2 rfl,io.2 rfl,aJ.2 rfl⟩
 obtain ⟨r,hr,a,b,c,rfl,ha,hb,hc⟩:=key
 have ha:=aJ.1 ha
 injection ha with ha
 have hc:=aJ.1 hc
 injection hc with hc
 rw[hr,io.1 hb,ha,hc]
end
end Hx
end
section
namespace Hx
open Go
set_option maxRecDepth 100000
noncomputable section
def iL:SC:=sQ [o 35 (.bin .lss (.t 34) (.t 33))] (.seq (.cond (.t 35) (.skip) (.exit 0)) (.seq (.blk 1 (sQ [oX 36 32 34,oL 37 36,oM 13 37] (.seq (sQ [oM 38 13,oM 39 10,o 40 (.bin .leq (.t 38) (.t 39)),oM 41 40,og 42 41 false (.mv (.t 13)),og 43 41 false (.fad 0 (.t 8)),og 44 41 false (.fad 1 (.t 43)),og 45 41 false (.load false 1 (.t 44)),og 46 41 false (.len .slice (.t 45)),og 47 41 false (.bin .geq (.t 42) (.t 46)),o 48 (.pick (.t 41) (.k (.bool true)) (.t 47))] (.cond (.t 48) (sQ [o 49 (.build [.nils,.nils,.nils] [] []),oz (.store 3 (.t 6) (.t 49)),oK 7 2] (.ret)) (.skip))) (sQ [oM 50 13,oM 10 50] (.feet [0,0,2,7,15] [oL 51 11,oM 52 13,o 53 (.bin .shl (.k (.int .u64 1)) (.t 52)),o 54 (.bin .or (.t 51) (.t 53)),oz (.store 1 (.t 11) (.t 54))]))))) (.ops [oA 55 34,oM 34 55])))
def iH:SC:=sQ [o 60 (.bin .lss (.t 59) (.t 58))] (.seq (.cond (.t 60) (.skip) (.exit 2)) (.seq (.blk 3 (sQ [oX 61 57 59,oL 62 61,oM 17 62] (sQ [oF 63 0 14,oL 64 63,oM 65 17,o 66 (.bsl 1 1 [.int .i64 0] [0] [.t 65]),o 67 (.app 1 8 (.t 64) (.t 66)),oF 68 0 14,oz (.store 1 (.t 68) (.t 67))] (.seq (.feet [0,1,0,4,12,0,60,124,252,508,1023,2047,4095] [oF 69 1 14,oL 70 69,oF 71 0 8,oF 72 1 71,oL 73 72,oM 74 17,o 75 (.ixs 3 (.t 73) (.t 74)),oF 76 0 75,oL 77 76,o 78 (.bsl 1 1 [.int .i64 0] [0] [.t 77]),o 79 (.app 1 8 (.t 70) (.t 78)),oF 80 1 14,oz (.store 1 (.t 80) (.t 79))]) (.ops [oM 81 15,oF 82 0 8,oF 83 1 82,oL 84 83,oM 85 17,o 86 (.ixs 3 (.t 84) (.t 85)),oF 87 0 86,oL 88 87,o 89 (.bin .mul (.t 81) (.t 88)),oM 15 89]))))) (.ops [oA 90 59,oM 59 90])))
def oh:SC:=.ops [o 19 (.alloc [.int .i64 0,.int .i64 0,.nils]),oz (.store 3 (.t 19) (.t 95))]
def ol:SC:=.blk 5 (.feet [0,0,0,4,0,30,63,0,128,511,1023] [oL 96 18,o 97 (.load true 4 (.t 8)),oF 98 2 19,oL 99 98,oL 100 11,o 101 (.call N.aS [.t 97,.t 99,.t 100]),o 102 (.raw (.lookup 123 (.tmp 96) (.tmp 101) false)),oF 103 1 19,oL 104 103,o 105 (.bin .add (.t 102) (.t 104)),oz (.raw (.mapUpdate 123 (.tmp 96) (.tmp 101) (.tmp 105)))])
def oG:SC:=sQ [o 113 (.bin .lss (.t 112) (.t 111))] (.seq (.cond (.t 113) (.skip) (.exit 6)) (.seq (.blk 7 (sQ [oM 114 112,oM 20 114] (.ops [oF 115 2 14,oL 116 115,oM 117 20,oL 118 18,oM 119 20,o 120 (.raw (.lookup 123 (.tmp 118) (.tmp 119) false)),oX 121 116 117,oz (.store 1 (.t 121) (.t 120))]))) (.ops [oA 122 112,oM 112 122])))
def iN:SC:=sQ [o 123 (.load true 3 (.t 14)),oz (.store 3 (.t 6) (.t 123)),oK 7 0] (.ret)
def iG:SC:=sQ [oM 106 15,o 107 (.mks 1 8 [.int .i64 0] (.t 106) (.t 106)),oF 108 2 14,oz (.store 1 (.t 108) (.t 107))] (.seq (sQ [oF 109 2 14,oL 110 109,oN 111 110,oK 112 0] (.blk 6 (.loop oG))) iN)
def nV:SC:=sQ [o 91 (.raw (.makeMap 123 none)),o 18 (.alloc [.nilm]),oz (.store 1 (.t 18) (.t 91))] (.seq (sQ [o 92 (.load true 4 (.t 8)),oM 93 1,o 94 (.call N.aR [.t 92,.t 93])] (.blk 4 (.rng 124 (.t 94) [95] oh ol))) iG)
def n_:SC:=sQ [o 56 (.build [.nils,.nils,.nils] [] []),o 14 (.alloc [.nils,.nils,.nils]),oz (.store 3 (.t 14) (.t 56)),oK 15 1] (.seq (sQ [oM 57 2,oN 58 57,oK 59 0] (.blk 2 (.loop iH))) nV)
def pK:SC:=sQ [o 22 (.load true 2 (.t 3)),oM 23 1,o 24 (.bsl 1 1 [.nils] [0] [.t 23]),o 25 (.call N.bf [.t 22,.t 24]),oM 21 25,o 26 (.ext (.t 21) 0),o 27 (.ext (.t 21) 1),o 8 (.alloc [.int .i64 0,.nils,.nils,.nils]),oz (.store 4 (.t 8) (.t 26)),oM 9 27] (.seq (sQ [oM 28 9,o 29 (.bin .neq (.t 28) (qI 0))] (.cond (.t 29) (sQ [o 30 (.build [.nils,.nils,.nils] [] []),oM 31 9,oz (.store 3 (.t 6) (.t 30)),oM 7 31] (.ret)) (.skip))) (sQ [o 11 (.alloc [.int .u64 0]),oK 10 (-1),oz (.store 1 (.t 11) (.k (.int .u64 0)))] (.seq (sQ [oM 32 2,oN 33 32,oK 34 0] (.blk 0 (.loop iL))) n_)))
def mT:SF:=⟨124,[.cell true 3 6,.tm 7],sQ [o 3 (.box (.t 0)),o 6 (.alloc [.nils,.nils,.nils]),oK 7 0] pK⟩
theorem yI:nFn C0 N.aZ=some mT:=by kernel_rfl
theorem vY (d:Nat)(xs:List AV)(g:G):ae C0 d N.aZ xs g=am (I C0) d g N.aZ xs:=by kernel_rfl
theorem AR:∀{l:List Int} (k:Int),l.Pairwise (·<·)->(l.filter fun x=>decide (x<k+1))=(l.filter fun x=>decide (x<k))++if k∈l then [k] else []
 | [],k,_=>by simp
 | a::t,k,h=>by
  obtain ⟨h1,h2⟩:=List.pairwise_cons.1 h
  have ih:=AR k h2
  rcases Int.lt_trichotomy a k with hc | hc | hc
  ·rw[List.filter_cons_of_pos (by simpa using (by omega:a<k+1)),List.filter_cons_of_pos (by simpa using hc),ih,List.cons_append]
   have:(k∈a::t)↔k∈t:=by simp;omega
   simp only[this]
  ·subst hc
   have e1:(t.filter fun x=>decide (x<a+1))=[]:=List.filter_eq_nil_iff.2 fun x hx=>by have:=h1 x hx;simp;omega
   have e2:(t.filter fun x=>decide (x<a))=[]:=List.filter_eq_nil_iff.2 fun x hx=>by have:=h1 x hx;simp;omega
   rw[List.filter_cons_of_pos (by simp;omega),List.filter_cons_of_neg (by simp),e1,e2]
   simp
  ·have e1:(t.filter fun x=>decide (x<k+1))=[]:=List.filter_eq_nil_iff.2 fun x hx=>by have:=h1 x hx;simp;omega
   have e2:(t.filter fun x=>decide (x<k))=[]:=List.filter_eq_nil_iff.2 fun x hx=>by have:=h1 x hx;simp;omega
   rw[List.filter_cons_of_neg (by simp;omega),List.filter_cons_of_neg (by simp;omega),e1,e2,if_neg]
   ·rfl
   ·intro hm
    rcases List.mem_cons.1 hm with h | h
    ·omega
    ·have:=h1 k h;omega
theorem H3 {l:List Int}{k:Int}(h:S.aA l k=true):l.Pairwise (·<·):=by
 rw[List.pairwise_iff_getElem]
 intro i j hi hj hij
 exact Av h (List.getElem?_eq_getElem hi) (List.getElem?_eq_getElem hj) hij
theorem ES {l:List Int}{k:Nat}(h:S.aA l k=true)(hk:k<=64):S.aY (S.aq l) k=l:=by
 have hin:=bI h
 have hb:∀v,(S.aq l).testBit v=true↔(v:Int)∈l:=fun v=>by rw[xr fun y hy=>by have:=hin y hy;omega]
 have key:∀j:Nat,j<=k->S.aY (S.aq l) j=l.filter fun x=>decide (x<(j:Int)):=by
  intro j
  induction j with
  | zero=>intro _;rw[List.filter_eq_nil_iff.2 fun x hx=>by have:=hin x hx;simp;omega];rfl
  | succ j ih =>
   intro hj
   rw[tf,ih (by omega),show ((j+1:Nat):Int)=(j:Int)+1 by omega,AR _ (H3 h)]
   congr 1
   by_cases hm:(j:Int)∈l
   ·rw[if_pos hm,if_pos ((hb j).2 hm)]
   ·rw[if_neg hm,if_neg fun h'=>hm ((hb j).1 h')]
 rw[key k (Nat.le_refl _),List.filter_eq_self]
 intro x hx
 have:=hin x hx
 simp;omega
theorem Di {l:List Int}{k:Int}(h:S.aA l k=true){i:Nat}{p:Int}(hp:l[i]?=some p):dj l i<p/\p<k:=by
 have h1:=bI h p (List.mem_of_getElem? hp)
 refine ⟨?_,h1.2⟩
 unfold dj
 split
 ·omega
 ·rename_i e
  have hil:=(List.getElem?_eq_some_iff.1 hp).1
  have hq:l[i - 1]?=some l[i - 1]:=List.getElem?_eq_getElem (by omega)
  rw[hq,Option.getD_some]
  exact oZ h hq (by rw[show i - 1+1=i by omega];exact hp)
def LT0 (w z:AV):List (Nat×AV):=[(1,w),(2,z),(3,.hptr 0 0 0 0),(6,.hptr 1 0 0 0),(7,.int .i64 0),(8,.hptr 3 0 0 0),(11,.hptr 4 0 0 0)]
structure TbA (g0:G) (vars:List Int) (K:Int) (w z:AV) (j:Nat) (t:T) (g:G):Prop where
 st:St t (LT0 w z)
 h10:tat t 10=.int .i64 (dj vars j)
 h32:tat t 32=z
 pl:PlI vars K K.toNat j
 nx:g0.nx<=g.nx
 fr:∀i,i<g0.nx->i≠4->g.h.get i=g0.h.get i
 h4:g.h.get 4=.cells 1 [[.int .u64 (S.aq (vars.take j):Int)]] 0 false false
theorem M1 {d:Nat}{n:Net}{gr:Int}{vars:List Int}{b fl S_ w z:AV}{Q:QT}{t:T}{g g0:G}(hn:n.nodes.length<=8)(hN:SlR NoP 0 .nil n.nodes b)(hz:SlR NoP 0 .nil vars z)(h4:5<=g0.nx)
  (k3:g0.h.get 3=.cells 4 [[.int .i64 gr,b,fl,S_]] 0 false false) (k1:g0.h.get 1=.cells 3 [[.nils,.nils,.nils]] 0 false false)
  (h0:TbA g0 vars n.nodes.length w z 0 t g) (h33:tat t 33=.int .i64 (vars.length:Int)) (h34:tat t 34=.int .i64 0)
  (bad:∀t g,S.aA vars n.nodes.length=false->tat t 6=.hptr 1 0 0 0->tat t 7=.int .i64 2->g.h.get 1=.cells 3 [[.nils,.nils,.nils]] 0 false false->Q .ret t [] g)
  (fin:∀t g,S.aA vars n.nodes.length=true->TbA g0 vars n.nodes.length w z vars.length t g->Q (.exit 0) t [] g):wpL (wp C0 d none iL) Q t [] g:=by
 have rz:=fun h=>(hz.tree (h':=h) (Nat.le_refl 0):SlR NoP 0 h vars z).ints
 have hvl:=hz.1
 have lb:=hN.len
 have hbd:o6 [.nils,.nils,.nils] [] []=.val (.agg [.nils,.nils,.nils]):=rfl
 simp only[iL]
 refine bj (m:=vars.length) (by omega) (fun j t df g=>df=[]/\TbA g0 vars n.nodes.length w z j t g) ⟨rfl,h0⟩ h34 h33 (by decide)
  (by
   rintro j t df g v s (rfl | rfl | rfl) ⟨a1,⟨a2,a3,a4,a5,a6,a7,a8⟩⟩<;>(obtain ⟨b1,b2,b3,b4,b5,b6,b7,-⟩:=a2;exact ⟨a1,by simp[St,LT0,sx,b1,b2,b3,b4,b5,b6,b7],by simp[sx,a3],by simp[sx,a4],a5,a6,a7,a8⟩)) ?_ ?_
 ·rintro j t df g hj ⟨rfl,⟨⟨h1,h2,h3,h6,h7,h8,h11,-⟩,h10,h32,hpl,hnx,hfr,hk4⟩⟩ h34 h33
  obtain ⟨p,hp,htk,-⟩:=af hj
  have u1:j<(vars.map ci).length:=by simpa using hj
  have u2:(vars.map ci)[j]?=some (ci p):=by rw[List.getElem?_map,hp];rfl
  have hry:jJ z=true:=rT (rz .nil) u1
  have g3:g.h.get 3=.cells 4 [[.int .i64 gr,b,fl,S_]] 0 false false:=by rw[hfr 3 (by omega) (by omega),k3]
  have g1:g.h.get 1=.cells 3 [[.nils,.nils,.nils]] 0 false false:=by rw[hfr 1 (by omega) (by omega),k1]
  refine aW (P:=fun t' df g'=>df=[]/\g'=g/\St t' ((13,.int .i64 p)::(10,.int .i64 (dj vars j))::(32,z)::(33,.int .i64 (vars.length:Int))::(34,.int .i64 (j:Int))::LT0 w z)) ?_ ?_
  ·simp only[sz,simprocAttr,h32,h34,rz,u1,u2,ci]
   simp[St,LT0,sx,h1,h2,h3,h6,h7,h8,h11,h10,h32,h33,h34]
  clear h1 h2 h3 h6 h7 h8 h11 h10 h32 h33 h34
  rintro t df g' ⟨rfl,rfl,h13,h10,h32,h33,h34,h1,h2,h3,h6,h7,h8,h11,-⟩
  by_cases hc:dj vars j<p/\p<n.nodes.length
  ·refine dC (P:=fun t' df g''=>df=[]/\g''=g'/\St t' ((13,.int .i64 p)::(32,z)::(33,.int .i64 (vars.length:Int))::(34,.int .i64 (j:Int))::LT0 w z)) ?_ ?_
   ·have c1:decide (p<=dj vars j)=false:=by simp;omega
    have c2:decide ((n.nodes.length:Int)<=p)=false:=by simp;omega
    simp only[sz,simprocAttr,h13,h10,h8,g3,lb,c1,c2]
    simp[St,LT0,sx,h1,h2,h3,h6,h7,h8,h11,h13,h32,h33,h34]
   clear h1 h2 h3 h6 h7 h8 h11 h10 h32 h33 h34 h13
   rintro t df g'' ⟨rfl,rfl,h13,h32,h33,h34,h1,h2,h3,h6,h7,h8,h11,-⟩
   have pl':=DO hpl hp hc.1 hc.2 (by omega)
   obtain ⟨pn,hpn⟩:∃pn:Nat,p=(pn:Int):=Int.eq_ofNat_of_zero_le (pl'.rng j p (by omega) hp).1
   have hm:=mE (vars.take j)
   have hb1:=jd .i64 pn
   have hor:=zc (S.aq (vars.take j)) (S.aG pn) hm (qK pn)
   have hms:S.aq (vars.take j) ||| S.aG pn=S.aq (vars.take (j+1)):=by rw[htk,u0,hpn];rfl
   rw[hms] at hor
   rw[<-hpn] at hb1
   refine aW (P:=fun t' df g3=>df=[]/\g3=g''/\St t' ((10,.int .i64 p)::(13,.int .i64 p)::(32,z)::(33,.int .i64 (vars.length:Int))::(34,.int .i64 (j:Int))::LT0 w z)) ?_ ?_
   ·simp only[sz,simprocAttr,h13]
    simp[St,LT0,sx,h1,h2,h3,h6,h7,h8,h11,h13,h32,h33,h34]
   clear h1 h2 h3 h6 h7 h8 h11 h32 h33 h34 h13
   rintro t df g3' ⟨rfl,rfl,h10,h13,h32,h33,h34,h1,h2,h3,h6,h7,h8,h11,-⟩
   simp only[sz,simprocAttr,sf,h11,hk4,h13,hb1,hor]
   refine ⟨?_,⟨⟨by simp[St,LT0,sx,h1,h2,h3,h6,h7,h8,h11],by simp[sx,h10,qz hp],by simp[sx,h32],pl',?_,fun i hi h=>?_,?_⟩,?_,?_⟩⟩
   ·simp only[List.reverse_cons,List.reverse_nil,List.nil_append,List.cons_append]
    exact aI [false,false,false,false,true] [] (by simp[All2,ap,ay]) (by decide) (by simp)
   ·simp;omega
   ·simp[H.get_put,h];exact hfr i hi h
   ·simp[H.get_put]
   ·simp[h34]
   ·simp[h33]
  ·have hpf:S.aA vars n.nodes.length=false:=by
    rw[<-Bool.not_eq_true]
    exact fun h=>hc (Di h hp)
   simp only[sz,simprocAttr,h13,h10]
   by_cases c1:p<=dj vars j
   ·simp only[sz,simprocAttr,c1,h6,g1]
    exact bad _ _ hpf (by simp[sx,h6]) (by simp[sx]) (by simp[H.get_put])
   ·have c2:(n.nodes.length:Int)<=p:=by omega
    simp only[sz,simprocAttr,c1,h13,h8,g3,lb,c2,h6,g1]
    exact bad _ _ hpf (by simp[sx,h6]) (by simp[sx]) (by simp[H.get_put])
 ·rintro t df g ⟨rfl,h⟩
  refine fin t g (yF (v:=n.nodes.length) ?_) h
  have:=h.pl
  simpa using this
structure ND where
 c:Nat->Int
 P:Nat->List Int
 m:Nat->Nat
 R:Nat->Nat->List Int
 o:Nat->Nat
def LN (n:Nat)(D:ND):Ky->Prop:=fun k=>k=(0,0)\/∃i q,k=(i+1,q)/\i<n/\q<2+D.o i
theorem LN.z {n:Nat}{D:ND}:LN n D (0,0):=.inl rfl
theorem LN.s {n:Nat}{D:ND}{i q:Nat}(h:i<n)(hq:q<2+D.o i):LN n D (i+1,q):=.inr ⟨i,q,rfl,h,hq⟩
theorem LN.p {n:Nat}{D:ND}{i:Nat}(h:i<n):LN n D (i+1,0):=LN.s h (by omega)
theorem LN.r {n:Nat}{D:ND}{i:Nat}(h:i<n):LN n D (i+1,1):=LN.s h (by omega)
def fq (D:ND)(V:Ky->AV)(i:Nat):List AV:=[.int .i64 (D.c i),V (i+1,0),V (i+1,1)]
def Eh (V:Ky->AV)(i r:Nat):List AV:=[V (i+1,2+r)]
structure BN (K n:Nat) (V:Ky->AV) (E:Ky->En) (D:ND):Prop where
 ns:E (0,0)=.sl 3 ((List.range n).map (fq D V))
 ps:∀i,i<n->E (i+1,0)=.sl 1 ((D.P i).map ci)/\(D.P i).length<=K
 rs:∀i,i<n->E (i+1,1)=.sl 1 ((List.range (D.m i)).map (Eh V i))/\D.m i<=K
 rr:∀i r,i<n->r<D.m i->(D.R i r).length<=K/\((r<D.o i/\E (i+1,2+r)=.sl 1 ((D.R i r).map ci))\/SlR NoP 0 .nil (D.R i r) (V (i+1,2+r)))
def ND.node (D:ND)(i:Nat):Node:=⟨D.c i,D.P i,(List.range (D.m i)).map (D.R i)⟩
theorem mj {g:G}{b:Nat}{v:AV}{l:List Int}{P:Nat->Prop}(h:Own g b v 1 (l.map ci))(hl:l.length<9223372036854775808)(hp:∀i,b<=i->P i):SlR P 0 g.h l v :=
 Own.sl (α:=Int) h hl (All2.of_map (fun a=>aJ.2 rfl) _) fun i hi=>hp i (h.lt hi).1
theorem BN.rows {g:G}{b K n i:Nat}{V:Ky->AV}{E:Ky->En}{D:ND}{L:Ky->Prop}(hB:BN K n V E D)(hH:Hp g b L V E)(hL:∀k,LN n D k->L k)(hK:K<=1000000)(hi:i<n):SlR (fun j=>b<=j) 0 g.h ((List.range (D.m i)).map (D.R i)) (V (i+1,1)):=by
 obtain ⟨h1,h2⟩:=hB.rs i hi
 have ho:=hH.own (hL _ (LN.r hi)) h1
 refine Own.sl (α:=List Int) ho (by simp;omega) (vK fun r hr=>?_) fun j hj=>(ho.lt hj).1
 have hr:=List.mem_range.1 hr
 obtain ⟨h4,h3⟩:=hB.rr i r hi hr
 rcases h3 with ⟨h5,h3⟩ | h3
 ·exact da.2 ⟨_,rfl,mj (hH.own (hL _ (LN.s hi (by omega))) h3) (by omega) fun _ h=>h⟩
 ·exact da.2 ⟨_,rfl,(h3.tree (h':=g.h) (Nat.le_refl 0)).wd fun _ h=>h.elim⟩
theorem Hp.off {κ:Type} [DecidableEq κ]{g:G}{b:Nat}{L:κ->Prop}{V:κ->AV}{E:κ->En}{k:κ}{x:AV}(h:Hp g b L V E)(hk:¬L k):Hp g b L (ups V k x) E:=by
 have ne:∀j,L j->j≠k:=fun j hj e=>hk (by rw[<-e];exact hj)
 exact ⟨fun j hj=>by rw[ac V x (ne j hj)];exact h.ok j hj,fun j l hj hl hne id=>by rw[ac V x (ne j hj),ac V x (ne l hl)];exact h.sep j l hj hl hne id,h.nx⟩
theorem BN.pars {g:G}{b K n i:Nat}{V:Ky->AV}{E:Ky->En}{D:ND}{L:Ky->Prop}(hB:BN K n V E D)(hH:Hp g b L V E)(hL:∀k,LN n D k->L k)(hK:K<=1000000)(hi:i<n):SlR (fun j=>b<=j) 0 g.h (D.P i) (V (i+1,0)):=by
 obtain ⟨h1,h2⟩:=hB.ps i hi
 exact mj (hH.own (hL _ (LN.p hi)) h1) (by omega) fun _ h=>h
theorem BN.nodes {g:G}{b K n:Nat}{V:Ky->AV}{E:Ky->En}{D:ND}{L:Ky->Prop}(hB:BN K n V E D)(hH:Hp g b L V E)(hL:∀k,LN n D k->L k)(hK:K<=1000000)(hn:n<=1000000):SlR (fun j=>b<=j) 0 g.h ((List.range n).map D.node) (V (0,0)):=by
 have ho:=hH.own (hL _ LN.z) hB.ns
 refine Own.sl (α:=Node) ho (by simp;omega) (vK fun i hi=>?_) fun j hj=>(ho.lt hj).1
 have hi:=List.mem_range.1 hi
 exact bH.2 ⟨_,_,rfl,hB.pars hH hL hK hi,hB.rows hH hL hK hi⟩
theorem mQ {α:Type}(f:Nat->α){n i:Nat}(x:α)(hi:i<n):((List.range n).map f).set i x=(List.range n).map (ups f i x):=by
 refine List.ext_getElem (by simp) fun j h1 h2=>?_
 rw[List.getElem_set]
 by_cases e:i=j
 ·subst e;simp[ak]
 ·rw[if_neg e];simp[ac _ _ (Ne.symm e)]
theorem fH {α:Type}(f:Nat->α){n i:Nat}(hi:i<n):((List.range n).map f)[i]?=some (f i):=by simp[hi]
theorem yv {D D':ND}{V V':Ky->AV}{n i:Nat}{row:List AV}(h0:row=fq D' V' i)(h:∀j,j<n->j≠i->fq D V j=fq D' V' j):(List.range n).map (ups (fq D V) i row)=(List.range n).map (fq D' V'):=by
 refine List.map_congr_left fun j hj=>?_
 have hj:=List.mem_range.1 hj
 by_cases e:j=i
 ·subst e;rw[ak,h0]
 ·rw[ac _ _ e,h j hj e]
def NZ (C:Nat):VS:=fun P k h v=>∃l:List Int,l.length=C/\One l P k h v
structure Rw1 (gr:Int) (nv u:AV) (C F j:Nat) (t:T) (g:G):Prop where
 st:St t [(0,.int .i64 gr),(1,.int .i64 (C:Int)),(2,nv),(3,.int .i64 (F:Int)),(9,u)]
 hX:∃(X:List Int) (s:Int),tat t 10=.int .i64 s/\X.length=C/\Own g 0 u 1 (X.map ci)/\(∀x∈X,0<=x/\x<=7)/\(∀(i:Nat) (x:Int),i<j->X[i]?=some x->x<=s)/\0<=s/\s<=7*j
theorem MY {d C F kk:Nat}{gr:Int}{nv u:AV}{l:List UInt8}{Q:QT}{t:T}{g:G}(hC:C<=3)(hF:F<=1000)(hl:SlR NoP kk .nil l nv)(h0:Rw1 gr nv u C F 0 t g)(h11:tat t 11=.int .i64 0)
  (fin:∀t g,Rw1 gr nv u C F C t g->Q (.exit 0) t [] g):wpL (wp C0 d none lN) Q t [] g:=by
 obtain ⟨nr,r1,r2,r3,r4⟩:=hl.all
 have r1:∀h',ah h' 1 nv=some nr:=r1
 have hll:=hl.1
 have ll:=hl.len
 simp only[lN,q7]
 refine bA C (by omega) (fun j t df g=>df=[]/\Rw1 gr nv u C F j t g) ⟨rfl,h0⟩ h11 (by decide) ?_ ?_ ?_ ?_
 ·rintro j t df g v s (rfl | rfl | rfl) ⟨a1,⟨b1,b2,b3,b4,b5,-⟩,X,s',c1,c2⟩<;>exact ⟨a1,by simp[St,sx,b1,b2,b3,b4,b5],X,s',by simp[sx,c1],c2⟩
 ·rintro j t df g hj ⟨rfl,⟨h0,h1,h2,h3,h9,-⟩,X,s,h10,hX⟩ h11
  simp only[sz,simprocAttr,h11,h1]
  exact ⟨by simp[St,sx,h0,h1,h2,h3,h9],X,s,by simp[sx,h10],hX⟩
 ·rintro j t df g hj ⟨rfl,⟨h0,h1,h2,h3,h9,-⟩,X,s,h10,hXl,hX,hXb,hXs,hs0,hs1⟩ h11
  refine dC (P:=fun t' df g'=>df=[]/\∃(X':List Int) (x':Int),St t' [(0,.int .i64 gr),(1,.int .i64 (C:Int)),(2,nv),(3,.int .i64 (F:Int)),(9,u),(10,.int .i64 s),(11,.int .i64 (j:Int))]/\X'.length=C/\Own g' 0 u 1 (X'.map ci)/\(∀x∈X',0<=x/\x<=7)/\X'[j]?=some x'/\∀i,i≠j->X'[i]?=X[i]?) ?_ ?_
  ·have hXj:X[j]?=some X[j]:=List.getElem?_eq_getElem (by omega)
   simp only[sz,simprocAttr,h2,ll]
   refine aO (fun hb=>?_) (fun hb=>?_)
   ·have hb:0<l.length:=by simpa using hb
    have w1:IntKind.wrap .i64 ((F:Int)+(j:Int))=((F+j:Nat):Int):=by rw[aq (by omega) (by omega)];simp
    have q1:=xn (x:=F+j) (y:=l.length) hb
    have hmod:=Nat.mod_lt (F+j) hb
    generalize (F+j) % l.length=a at q1 hmod
    obtain ⟨y,hy,-,-⟩:=af (l:=l) (j:=a) hmod
    obtain ⟨row,z1,z2⟩:=r3 a y hy
    rw[dJ.1 z2] at z1
    have hlt:a<nr.length:=by omega
    have q2:=fQ .u8 (a:=(y.toNat:Int)) (b:=8) (by omega) (by omega)
    have hm0:0<=(y.toNat:Int) % 8:=Int.emod_nonneg _ (by decide)
    have hm1:(y.toNat:Int) % 8<8:=Int.emod_lt_of_pos _ (by decide)
    have w2:IntKind.wrap .i64 ((y.toNat:Int) % 8)=(y.toNat:Int) % 8:=aq (by omega) (by omega)
    generalize (y.toNat:Int) % 8=z at q2 hm0 hm1 w2
    have u1:j<(X.map ci).length:=by simp;omega
    have u2:(X.map ci)[j]?=some (ci X[j]):=by rw[List.getElem?_map,hXj];rfl
    have rX:=hX.rows
    simp only[sz,simprocAttr,h2,h3,h9,h11,ll,w1,q1,r1,hlt,z1,q2,w2,rX,u1]
    refine bJ (v:=u) (sz:=1) (n:=1) (i:=j) (off:=0) (x:=.int .i64 z) (row':=ci z) hX u2 rfl rfl rfl fun g4 hu4 n4 f4=>?_
    rw[<-List.map_set] at hu4
    simp only[sx,sy]
    refine ⟨X.set j z,z,by simp[St,sx,h0,h1,h2,h3,h9,h10,h11],by simp[hXl],hu4,fun x hx=>?_,by rw[List.getElem?_set_self (by omega)],fun i hi=>by rw[List.getElem?_set_ne (Ne.symm hi)]⟩
    rcases List.mem_or_eq_of_mem_set hx with h | rfl
    ·exact hXb x h
    ·omega
   ·simp only[sx,sy]
    exact ⟨X,X[j],by simp[St,sx,h0,h1,h2,h3,h9,h10,h11],hXl,hX,hXb,hXj,fun _ _=>rfl⟩
  clear h0 h1 h2 h3 h9 h10 h11 hX
  rintro t df g ⟨rfl,X',x',⟨h0,h1,h2,h3,h9,h10,h11,-⟩,hXl',hX',hXb',hxj,hXo⟩
  have u1:j<(X'.map ci).length:=by simp;omega
  have u2:(X'.map ci)[j]?=some (ci x'):=by rw[List.getElem?_map,hxj];rfl
  have rX:=hX'.rows
  have hx':=hXb' x' (List.mem_of_getElem? hxj)
  have w1:IntKind.wrap .i64 (s+x')=s+x':=aq (by omega) (by omega)
  simp only[sz,simprocAttr,qL,h10,h9,h11,rX,u1,u2,ci,w1]
  refine ⟨by simp[St,sx,h0,h1,h2,h3,h9],X',s+x',by simp[sx],hXl',hX',hXb',fun i x hi hx=>?_,by omega,by omega⟩
  by_cases e:i=j
  ·subst e;rw[hxj] at hx;injection hx with hx;omega
  ·rw[hXo i e] at hx
   have:=hXs i x (by omega) hx
   omega
 ·rintro t df g ⟨rfl,h⟩
  exact fin t g h
structure Rw2 (gr s:Int) (u:AV) (C j:Nat) (t:T) (g:G):Prop where
 st:St t [(0,.int .i64 gr),(1,.int .i64 (C:Int)),(9,u),(10,.int .i64 s)]
 hX:∃(X:List Int) (left:Int) (la:Nat),tat t 12=.int .i64 left/\tat t 13=.int .i64 (la:Int)/\la<C/\X.length=C/\Own g 0 u 1 (X.map ci)/\∀(i:Nat) (x:Int),j<=i->X[i]?=some x->0<=x/\x<=7/\x<=s
theorem Nm {d C:Nat}{gr s:Int}{u:AV}{Q:QT}{t:T}{g:G}(hC:C<=3)(hg:0<=gr/\gr<=60)(h0:Rw2 gr s u C 0 t g)(h14:tat t 14=.int .i64 0)
  (fin:∀t g,Rw2 gr s u C C t g->Q (.exit 2) t [] g):wpL (wp C0 d none l9) Q t [] g:=by
 simp only[l9,rC]
 refine bA C (by omega) (fun j t df g=>df=[]/\Rw2 gr s u C j t g) ⟨rfl,h0⟩ h14 (by decide) ?_ ?_ ?_ ?_
 ·rintro j t df g v s (rfl | rfl | rfl) ⟨a1,⟨b1,b2,b3,b4,-⟩,X,s',la,c1,c2,c3⟩<;>exact ⟨a1,by simp[St,sx,b1,b2,b3,b4],X,s',la,by simp[sx,c1],by simp[sx,c2],c3⟩
 ·rintro j t df g hj ⟨rfl,⟨h0,h1,h9,h10,-⟩,X,left,la,h12,h13,hX⟩ h14
  simp only[sz,simprocAttr,h14,h1]
  exact ⟨by simp[St,sx,h0,h1,h9,h10],X,left,la,by simp[sx,h12],by simp[sx,h13],hX⟩
 ·rintro j t df g hj ⟨rfl,⟨h0,h1,h9,h10,-⟩,X,left,la,h12,h13,hla,hXl,hX,hXb⟩ h14
  have hXj:X[j]?=some X[j]:=List.getElem?_eq_getElem (by omega)
  obtain ⟨b0,b1,b2⟩:=hXb j _ (Nat.le_refl _) hXj
  have u1:j<(X.map ci).length:=by simp;omega
  have u2:(X.map ci)[j]?=some (ci X[j]):=by rw[List.getElem?_map,hXj];rfl
  have rX:=hX.rows
  refine dC (P:=fun t' df g'=>df=[]/\∃(X':List Int) (la':Nat),St t' [(0,.int .i64 gr),(1,.int .i64 (C:Int)),(9,u),(10,.int .i64 s),(12,.int .i64 left),(13,.int .i64 (la':Int)),(14,.int .i64 (j:Int))]/\la'<C/\X'.length=C/\Own g' 0 u 1 (X'.map ci)/\∀i,i≠j->X'[i]?=X[i]?) ?_ ?_
  ·simp only[sz,simprocAttr,h9,h14,rX,u1,u2,ci]
   generalize X[j]=x at *
   refine aO (fun hb=>?_) (fun hb=>?_)
   ·have hb:0<x:=by simpa using hb
    have hgx:0<=gr*x:=Int.mul_nonneg hg.1 b0
    have hgx2:gr*x<=60*7:=Int.mul_le_mul hg.2 b1 b0 (by decide)
    have w1:IntKind.wrap .i64 (gr*x)=gr*x:=aq (by omega) (by omega)
    have q1:=uA (x:=gr*x) (y:=s) hgx (by omega) (by omega)
    simp only[sz,simprocAttr,h0,h9,h10,h14,rX,u1,u2,ci,w1,q1]
    refine bJ (v:=u) (sz:=1) (n:=1) (i:=j) (off:=0) (x:=.int .i64 (gr*x / s)) (row':=ci (gr*x / s)) hX u2 rfl rfl rfl fun g4 hu4 n4 f4=>?_
    rw[<-List.map_set] at hu4
    simp only[sz,simprocAttr,h14]
    exact ⟨X.set j (gr*x / s),j,by simp[St,sx,h0,h1,h9,h10,h12,h14],by omega,by simp[hXl],hu4,fun i hi=>by rw[List.getElem?_set_ne (Ne.symm hi)]⟩
   ·simp only[sx,sy]
    exact ⟨X,la,by simp[St,sx,h0,h1,h9,h10,h12,h13,h14],hla,hXl,hX,fun _ _=>rfl⟩
  clear h0 h1 h9 h10 h12 h13 h14 hX rX hla
  rintro t df g ⟨rfl,X',la',⟨h0,h1,h9,h10,h12,h13,h14,-⟩,hla,hXl',hX',hXo⟩
  have hXj':X'[j]?=some X'[j]:=List.getElem?_eq_getElem (by omega)
  have u1:j<(X'.map ci).length:=by simp;omega
  have u2:(X'.map ci)[j]?=some (ci X'[j]):=by rw[List.getElem?_map,hXj'];rfl
  have rX:=hX'.rows
  simp only[sz,simprocAttr,qP,h12,h9,h14,rX,u1,u2,ci]
  refine ⟨by simp[St,sx,h0,h1,h9,h10],X',_,la',by simp[sx];rfl,by simp[sx,h13],hla,hXl',hX',fun i x hi hx=>?_⟩
  rw[hXo i (by omega)] at hx
  exact hXb i x (by omega) hx
 ·rintro t df g ⟨rfl,h⟩
  exact fin t g h
theorem Nr {d C F kk:Nat}{g:G}{nv:AV}{gr:Int}{l:List UInt8}(hd:0<d)(hC:1<=C/\C<=3)(hF:F<=1000)(hg:0<=gr/\gr<=60)(hl:SlR NoP kk .nil l nv) :
  ∃r,ae C0 d N.aC [.int .i64 gr,.int .i64 (C:Int),nv,.int .i64 (F:Int)] g=.val r/\NZ C NoP 0 .nil r:=by
 rw[ze]
 refine aP BH (xs:=[.int .i64 gr,.int .i64 (C:Int),nv,.int .i64 (F:Int)]) (by simp only[aB,dQ d (hl.tree (h':=g.h) (Nat.le_refl _)),bM 0]) (by simp[qs]) (iZ fun o=>aM _) (by decide) hd ?_
 simp only[sz,simprocAttr,qs]
 refine jV (b:=0) (n:=C) (by unfold aR;omega) (by unfold aR;omega) (Nat.zero_le _) fun u g1 hu n1 f1 vu=>?_
 simp only[sz,simprocAttr]
 refine MY (gr:=gr) (nv:=nv) (u:=u) (C:=C) (F:=F) hC.2 hF hl ⟨by simp[St,sx],List.replicate C 0,0,by simp[sx],by simp,by simpa [ci] using hu,fun x hx=>by rw[(List.mem_replicate.1 hx).2];decide,fun i x hi=>by omega,by omega,by omega⟩ (by simp[sx]) ?_
 rintro t g2 ⟨⟨h0,h1,h2,h3,h9,-⟩,X,s,h10,hXl,hX,hXb,hXs,hs0,hs1⟩
 simp only[sz,simprocAttr,rB,h0]
 refine Nm (gr:=gr) (s:=s) (u:=u) (C:=C) hC.2 hg ⟨by simp[St,sx,h0,h1,h9,h10],X,gr,0,by simp[sx],by simp[sx],by omega,hXl,hX,fun i x hi hx=>?_⟩ (by simp[sx]) ?_
 ·have h1:=(List.getElem?_eq_some_iff.1 hx).1
  have h2:=hXb x (List.mem_of_getElem? hx)
  exact ⟨h2.1,h2.2,hXs i x (by omega) hx⟩
 clear h0 h1 h2 h3 h9 h10 hX hXl hXb hXs
 rintro t g3 ⟨⟨h0,h1,h9,h10,-⟩,X,left,la,h12,h13,hla,hXl,hX,-⟩
 have hXj':X[la]?=some X[la]:=List.getElem?_eq_getElem (by omega)
 have u1:la<(X.map ci).length:=by simp;omega
 have u2:(X.map ci)[la]?=some (ci X[la]):=by rw[List.getElem?_map,hXj'];rfl
 have rX:=hX.rows
 simp only[sz,simprocAttr,qQ,h9,h13,h12,rX,u1,u2,ci]
 refine bJ (v:=u) (sz:=1) (n:=1) (i:=la) (off:=0) (x:=.int .i64 (IntKind.wrap .i64 (X[la]+left))) (row':=ci (IntKind.wrap .i64 (X[la]+left))) hX u2 rfl rfl rfl fun g4 hu4 n4 f4=>?_
 rw[<-List.map_set] at hu4
 simp only[sz,simprocAttr,h9]
 exact ⟨fun _=>True,_,by simp[hXl],hu4.ints (by simp;omega)⟩
theorem yA (os:List UInt8):∀k,(S.aF os k).Perm ((List.range k).map fun i:Nat=>(i:Int))
 | 0=>.refl _
 | k+1=>by
  rw[List.range_succ,List.map_append,S.aF]
  refine List.perm_middle.trans ?_
  rw[List.take_append_drop]
  exact ((yA os k).cons _).trans (List.perm_append_comm (l₁:=[(k:Int)]))
structure Num (n:Nat) (pl:List Int) (num:Nat->Nat):Prop where
 len:pl.length=n
 at_:∀k,k<n->pl[k]?=some (num k:Int)
 lt:∀k,k<n->num k<n
 inj:∀i j,i<n->j<n->num i=num j->i=j
 sur:∀u,u<n->∃k,k<n/\num k=u
theorem M4 (os:List UInt8)(n:Nat):∃num,Num n (S.aF os n) num:=by
 have hp:=yA os n
 have hl:=oC os n
 have hmem:∀x∈S.aF os n,∃i:Nat,i<n/\x=(i:Int):=fun x hx=>by
  have:=hp.mem_iff.1 hx
  obtain ⟨i,hi,rfl⟩:=List.mem_map.1 this
  exact ⟨i,List.mem_range.1 hi,rfl⟩
 have hnd:(S.aF os n).Nodup:=by
  rw[hp.nodup_iff]
  refine List.Pairwise.map _ ?_ (List.nodup_range (n:=n))
  intro a b h e
  exact h (by omega)
 have hat:∀k,k<n->(S.aF os n)[k]?=some (((S.aF os n)[k]?.getD 0).toNat:Int)/\((S.aF os n)[k]?.getD 0).toNat<n:=fun k hk=>by
  have hk':k<(S.aF os n).length:=by omega
  have e:=List.getElem?_eq_getElem hk'
  obtain ⟨i,hi,h⟩:=hmem _ (List.getElem_mem hk')
  rw[e,Option.getD_some,h]
  simp[hi]
 refine ⟨fun k=>((S.aF os n)[k]?.getD 0).toNat,hl,fun k hk=>(hat k hk).1,fun k hk=>(hat k hk).2,fun i j hi hj h=>?_,fun u hu=>?_⟩
 ·have h1:=(hat i hi).1
  have h2:=(hat j hj).1
  refine (List.getElem?_inj (by omega) hnd).1 ?_
  rw[h1,h2]
  exact congrArg (fun x:Nat=>some (x:Int)) h
 ·have:(u:Int)∈S.aF os n:=hp.mem_iff.2 (List.mem_map.2 ⟨u,List.mem_range.2 hu,rfl⟩)
  obtain ⟨k,hk,he⟩:=List.mem_iff_getElem.1 this
  refine ⟨k,by omega,?_⟩
  rw[List.getElem?_eq_getElem hk,he];rfl
theorem Ll (m n:Nat):∃z:Int,ct .shl (.int .i64 (m:Int)) (.int .u64 (n:Int))=.val (.int .i64 z):=⟨_,rfl⟩
def LNX (X:Ky->Prop)(n:Nat)(D:ND):Ky->Prop:=fun k=>LN n D k\/X k
def X1:Ky->Prop:=fun k=>k=(0,1)
def X2:Ky->Prop:=fun k=>k=(0,1)\/k=(0,2)
structure DN (X:Ky->Prop) (r0:List AV) (n q K:Nat) (gr:Int) (V:Ky->AV) (E:Ky->En) (D:ND) (g:G):Prop where
 hp:Hp g 2 (LNX X n D) V E
 bn:BN K n V E D
 vb:V (0,1)=.hptr q 0 0 0
 bx:E (0,1)=.bx [.int .i64 gr,V (0,0)]
 h0:g.h.get 0=.cells 3 [r0] 0 false false
 h1:g.h.get 1=.cells 2 [[.int .i64 0,.nils]] 0 false false
theorem DN.q {X:Ky->Prop}{r0:List AV}{n q K:Nat}{gr:Int}{V:Ky->AV}{E:Ky->En}{D:ND}{g:G}(h:DN X r0 n q K gr V E D g)(hX:X (0,1)):g.h.get q=.cells 2 [[.int .i64 gr,V (0,0)]] 0 false false/\2<=q/\q<g.nx:=by
 obtain ⟨id,h1,h2,h3,h4⟩:=h.hp.box (k:=(0,1)) (.inr hX) h.bx
 rw[h.vb] at h3;injection h3 with h3;subst h3
 exact ⟨h4,h1,h2⟩
theorem DN.ns {X:Ky->Prop}{r0:List AV}{n q K:Nat}{gr:Int}{V:Ky->AV}{E:Ky->En}{D:ND}{g:G}(h:DN X r0 n q K gr V E D g):Own g 2 (V (0,0)) 3 ((List.range n).map (fq D V)):=h.hp.own (.inl LN.z) h.bn.ns
theorem DN.same {X:Ky->Prop}{r0:List AV}{n q K:Nat}{gr:Int}{V:Ky->AV}{E:Ky->En}{D:ND}{g g':G}(h:DN X r0 n q K gr V E D g)(hf:Fr g g'):DN X r0 n q K gr V E D g':=by
 have:=h.hp.nx
 exact ⟨h.hp.step hf.1 fun i _ hi=>hf.2 i hi,h.bn,h.vb,h.bx,by rw[hf.2 0 (by omega),h.h0],by rw[hf.2 1 (by omega),h.h1]⟩
theorem dW {g:G}{b:Nat}{v:AV}{sz:Nat}{rows:List (List AV)}(h:Own g b v sz rows)(hr:0<rows.length):jJ v=true:=by
 rcases h with ⟨rfl,rfl⟩ | ⟨id,ep,lo,-,-,rfl,-⟩
 ·simp at hr
 ·rfl
theorem DN.card {X:Ky->Prop}{r0:List AV}{n q K i:Nat}{gr c:Int}{V:Ky->AV}{E:Ky->En}{D:ND}{g:G}{KK:AV->G->Prop}{DD:ADf->Prop}(h:DN X r0 n q K gr V E D g)(hi:i<n)(hX:∀k,X k->k≠(0,0))
  (kk:∀g' E',DN X r0 n q K gr V E' { D with c:=ups D.c i c } g'->g'.nx=g.nx->KK .undef g'):(mU 1 (jE 3 (V (0,0)) i 0) (.int .i64 c) g).sat KK g DD:=by
 refine h.hp.put (k:=(0,0)) (row:=fq D V i) (row':=[.int .i64 c,V (i+1,0),V (i+1,1)]) (.inl LN.z) h.bn.ns (fH _ hi) rfl rfl rfl fun g' hH hn hf1 hf2=>?_
 refine kk g' _ ⟨hH.sub fun k hk=>hk,⟨?_,fun j hj=>?_,fun j hj=>?_,fun j r hj hr=>?_⟩,h.vb,?_,by rw[hf1 0 (by omega),h.h0],by rw[hf1 1 (by omega),h.h1]⟩ hn
 ·rw[ak,mQ _ _ hi]
  congr 1
  refine yv (by simp[fq,ak]) fun j hj hne=>by simp[fq,ac _ _ hne]
 ·rw[ac _ _ (by simp)];exact h.bn.ps j hj
 ·rw[ac _ _ (by simp)];exact h.bn.rs j hj
 ·rw[ac _ _ (by simp)];exact h.bn.rr j r hj hr
 ·rw[ac _ _ (by simp)];exact h.bx
structure DAok (D:ND) (n i:Nat) (num:Nat->Nat):Prop where
 e:∀v,v<n->D.P v=[]/\D.m v=0
 c:∀k,k<i->D.c (num k)=2\/D.c (num k)=3
 o:∀u,D.o u=0
def LDA (n q:Nat)(r5:AV):List (Nat×AV):=[(1,.hptr 0 0 0 0),(2,.hptr 1 0 0 0),(3,.int .i64 (n:Int)),(4,.hptr q 0 0 0),(5,r5)]
structure DA (r0:List AV) (n q:Nat) (gr:Int) (r5:AV) (num:Nat->Nat) (i:Nat) (t:T) (g:G):Prop where
 st:St t (LDA n q r5)
 w:∃w:Nat,tat t 6=.int .i64 (w:Int)/\w<=3 ^ i
 hd:∃V E D,DN X1 r0 n q 1000 gr V E D g/\DAok D n i num
theorem N6 {i:Nat}(h:i<=5):3 ^ i<=243:=by
 have:i=0\/i=1\/i=2\/i=3\/i=4\/i=5:=by omega
 rcases this with rfl | rfl | rfl | rfl | rfl | rfl<;>decide
theorem Np {d n q kk:Nat}{x:tj}{gr:Int}{a b r5:AV}{pl:List Int}{num:Nat->Nat}{Q:QT}{t:T}{g:G}(hn:1<=n/\n<=5)(ha:SlR NoP kk .nil x.2.1 a)(h5:IT 0 pl r5)(hN:Num n pl num)
  (h0:DA [u8v x.1,a,b] n q gr r5 num 0 t g) (h7:tat t 7=.int .i64 0)
  (fin:∀t g,DA [u8v x.1,a,b] n q gr r5 num n t g->Q (.exit 0) t [] g):wpL (wp C0 d none eI) Q t [] g:=by
 obtain ⟨pr,r1,r2,r3,r4⟩:=ha.all
 have r1:∀h',ah h' 3 a=some pr:=r1
 have la:=ha.len
 have hal:=ha.1
 have r5i:∀h,ah h 1 r5=some (pl.map ci):=fun h=>(h5.sl h).ints
 simp only[eI,i8]
 refine bA n (by omega) (fun j t df g=>df=[]/\DA [u8v x.1,a,b] n q gr r5 num j t g) ⟨rfl,h0⟩ h7 (by decide) ?_ ?_ ?_ ?_
 ·rintro j t df g v s (rfl | rfl | rfl) ⟨a1,⟨b1,b2,b3,b4,b5,-⟩,⟨w,c1,c2⟩,c3⟩<;>exact ⟨a1,by simp[St,LDA,sx,b1,b2,b3,b4,b5],⟨w,by simp[sx,c1],c2⟩,c3⟩
 ·rintro j t df g hj ⟨rfl,⟨h1,h2,h3,h4,h5,-⟩,⟨w,h6,hw⟩,hD⟩ h7
  simp only[sz,simprocAttr,h7,h3]
  exact ⟨by simp[St,LDA,sx,h1,h2,h3,h4,h5],⟨w,by simp[sx,h6],hw⟩,hD⟩
 ·rintro j t df g hj ⟨rfl,⟨h1,h2,h3,h4,h5,-⟩,⟨w,h6,hw⟩,V,E,D,hD,hok⟩ h7
  obtain ⟨p8,hp8⟩:∃p8,p8=g.nx:=⟨_,rfl⟩
  have hnx:=hD.hp.nx
  refine dC (P:=fun t' df g'=>df=[]/\g'=g.new (.cells 3 [[.int .u8 0,.int .u8 0,.nils]] 0 false false)/\St t' ((6,.int .i64 (w:Int))::(7,.int .i64 (j:Int))::(8,.hptr p8 0 0 0)::LDA n q r5)) ?_ ?_
  ·simp only[sz,simprocAttr]
   simp[St,LDA,sx,h1,h2,h3,h4,h5,h6,h7,hp8]
  clear h1 h2 h3 h4 h5 h6 h7
  rintro t df g1 ⟨rfl,hg1,⟨h6,h7,h8,h1,h2,h3,h4,h5,-⟩⟩
  have f1:Fr g g1:=by rw[hg1];exact Fr.new _ _
  have k8:g1.h.get p8=.cells 3 [[.int .u8 0,.int .u8 0,.nils]] 0 false false:=by rw[hg1,hp8];simp[H.get_put]
  have n1:p8<g1.nx:=by rw[hg1,hp8];simp
  clear hg1
  have hD1:=hD.same f1
  have e0:=hD1.h0
  refine dC (P:=fun t' df g'=>df=[]/\Fr g g'/\St t' ((6,.int .i64 (w:Int))::(7,.int .i64 (j:Int))::(8,.hptr p8 0 0 0)::LDA n q r5)/\p8<g'.nx/\∃(y:UInt8) (z1 z2:AV),g'.h.get p8=.cells 3 [[u8v y,z1,z2]] 0 false false) ?_ ?_
  ·simp only[sz,simprocAttr,h7,h1,e0,la]
   refine aO (fun hb=>?_) (fun hb=>?_)
   ·have hb:j<x.2.1.length:=by simpa using hb
    obtain ⟨y,hy,-,-⟩:=af hb
    obtain ⟨row,q1,q2⟩:=r3 j y hy
    obtain ⟨wv,rfl,hwv⟩:=Ax.1 q2
    have hlt:j<pr.length:=by omega
    have hry:=r4 (by omega)
    simp only[sz,simprocAttr,h7,h1,e0,r1,hlt,q1,h8,k8]
    refine ⟨?_,by simp[St,LDA,sx,h1,h2,h3,h4,h5,h6,h7,h8],by simpa using n1,y.1,u8v y.2.1,wv,by simp[H.get_put]⟩
    exact ⟨Nat.le_trans f1.1 (by simp),fun i hi=>by simp[H.get_put,show ¬i=p8 by omega];exact f1.2 i hi⟩
   ·simp only[sx,sy]
    exact ⟨f1,by simp[St,LDA,sx,h1,h2,h3,h4,h5,h6,h7,h8],n1,0,.int .u8 0,.nils,k8⟩
  clear h1 h2 h3 h4 h5 h6 h7 h8 e0 hD1 k8 n1 f1
  rintro t df g2 ⟨rfl,f2,⟨h6,h7,h8,h1,h2,h3,h4,h5,-⟩,n2,y,z1,z2,k8⟩
  have hD2:=hD.same f2
  have q2:=fQ .u8 (a:=(y.toNat:Int)) (b:=2) (by omega) (by omega)
  obtain ⟨m,hm⟩:∃m:Nat,(y.toNat:Int) % 2=(m:Int):=Int.eq_ofNat_of_zero_le (Int.emod_nonneg _ (by decide))
  have hm2:m<2:=by have:=Int.emod_lt_of_pos (y.toNat:Int) (show (0:Int)<2 by decide);omega
  rw[hm] at q2
  have w2:IntKind.wrap .i64 (m:Int)=(m:Int):=aq (by omega) (by omega)
  have w3:IntKind.wrap .i64 (2+(m:Int))=((2+m:Nat):Int):=by rw[aq (by omega) (by omega)];rfl
  have hp3:=N6 (i:=j) (by omega)
  have hwc:w*(2+m)<=243*3:=Nat.mul_le_mul (by omega) (by omega)
  have w4:IntKind.wrap .i64 ((w:Int)*((2+m:Nat):Int))=((w*(2+m):Nat):Int):=by rw[<-Int.natCast_mul,aq (by omega) (by omega)]
  have w5:IntKind.wrap .i64 ((n:Int) - 1)=((n - 1:Nat):Int):=by rw[aq (by omega) (by omega)];omega
  have w6:IntKind.wrap .i64 (((n - 1:Nat):Int) - (j:Int))=((n - 1 - j:Nat):Int):=by rw[aq (by omega) (by omega)];omega
  have w7:IntKind.wrap .u64 ((n - 1 - j:Nat):Int)=((n - 1 - j:Nat):Int):=jU (by omega) (by omega)
  obtain ⟨z,hz⟩:=Ll (w*(2+m)) (n - 1 - j)
  refine dC (P:=fun t' df g'=>df=[]/\g'=g2/\St t' ((6,.int .i64 (w:Int))::(7,.int .i64 (j:Int))::(9,.int .i64 ((2+m:Nat):Int))::LDA n q r5)) ?_ ?_
  ·simp only[sz,simprocAttr,h8,k8,u8v,q2,w2,w3]
   simp[St,LDA,sx,h1,h2,h3,h4,h5,h6,h7]
  clear h1 h2 h3 h4 h5 h6 h7 h8
  rintro t df g3 ⟨rfl,rfl,⟨h6,h7,h9,h1,h2,h3,h4,h5,-⟩⟩
  refine dC (P:=fun t' df g'=>df=[]/\g'=g3/\∃C:Nat,(C=2\/C=3)/\St t' ((6,.int .i64 (w:Int))::(7,.int .i64 (j:Int))::(9,.int .i64 (C:Int))::LDA n q r5)) ?_ ?_
  ·simp only[sz,simprocAttr,h6,h7,h9,h3,w4,w5,w6,w7,hz]
   refine aO (fun hb=>?_) (fun hb=>?_)
   ·simp only[sz,simprocAttr]
    refine ⟨2,.inl rfl,?_⟩
    simp[St,LDA,sx,h1,h2,h3,h4,h5,h6,h7]
   ·simp only[sx,sy]
    refine ⟨2+m,by omega,?_⟩
    simp[St,LDA,sx,h1,h2,h3,h4,h5,h6,h7,h9]
  clear h1 h2 h3 h4 h5 h6 h7 h9 hwc w4 hz w3
  rintro t df g4 ⟨rfl,rfl,C,hC,⟨h6,h7,h9,h1,h2,h3,h4,h5,-⟩⟩
  have hwc:w*C<=3 ^ j*3:=Nat.mul_le_mul hw (by omega)
  have hwc2:w*C<=243*3:=Nat.mul_le_mul (by omega) (by omega)
  have w4:IntKind.wrap .i64 ((w:Int)*(C:Int))=((w*C:Nat):Int):=by rw[<-Int.natCast_mul,aq (by omega) (by omega)]
  refine dC (P:=fun t' df g'=>df=[]/\g'=g4/\St t' ((6,.int .i64 ((w*C:Nat):Int))::(7,.int .i64 (j:Int))::(9,.int .i64 (C:Int))::LDA n q r5)) ?_ ?_
  ·simp only[sz,simprocAttr,h6,h9,w4]
   simp[St,LDA,sx,h1,h2,h3,h4,h5,h7,h9]
  clear h1 h2 h3 h4 h5 h6 h7 h9
  rintro t df g5 ⟨rfl,rfl,⟨h6,h7,h9,h1,h2,h3,h4,h5,-⟩⟩
  obtain ⟨kq,q2a,q2b⟩:=hD2.q rfl
  have rns:=hD2.ns.rows
  have hry:=dW hD2.ns (by simp;omega)
  have hnj:=hN.lt j hj
  have u1:j<(pl.map ci).length:=by rw[List.length_map,hN.len];exact hj
  have u2:(pl.map ci)[j]?=some (ci (num j:Int)):=by rw[List.getElem?_map,hN.at_ j hj];rfl
  have u3:num j<((List.range n).map (fq D V)).length:=by simpa using hnj
  have u4:=fH (fq D V) hnj
  simp only[sz,simprocAttr,sf,h4,kq,h5,h7,h9,r5i,u1,u2,rns,u3,hry,ci]
  refine (hD2.same (g':=_) ⟨?_,?_⟩).card (i:=num j) (c:=(C:Int)) hnj (fun k hk=>by rw[hk];simp) fun g6 E' hD6 n6=>?_
  ·simp;omega
  ·intro i hi;simp
  simp only[sx,sy,↓reduceIte,Nat.reduceEqDiff]
  refine ⟨?_,⟨by simp[St,LDA,sx,h1,h2,h3,h4,h5],⟨w*C,by simp[sx,h6],by rw[Nat.pow_succ];exact hwc⟩,V,E',_,hD6.same ⟨by simp,fun i _=>by simp⟩,hok.e,fun k hk=>?_,hok.o⟩,by simp[h7]⟩
  ·simp only[List.reverse_cons,List.reverse_nil,List.nil_append,List.cons_append]
   exact aI [false,false,false,false,false,false,false,false,false,true] [] (by simp[All2,ap,ay]) (by decide) (by simp)
  ·by_cases e:num k=num j
   ·simp[e,ak];omega
   ·show ups D.c (num j) (C:Int) (num k)=2\/ups D.c (num j) (C:Int) (num k)=3
    rw[ac _ _ e]
    refine hok.c k ?_
    have:k≠j:=fun h=>e (by rw[h])
    omega
 ·rintro t df g ⟨rfl,h⟩
  exact fin t g h
end
end Hx
end
