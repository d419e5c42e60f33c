/- A part of the proof: an interpreter over abstract values, shown right against the model, and what the functions of the chapter compute on it. -/
import Derived.Test.YtfpjoiojhegfaaaDoorHx10
set_option linter.unusedVariables false
set_option linter.unusedSimpArgs false
set_option linter.unnecessarySimpa false
section
namespace Hx
open Go
noncomputable section
theorem xl {α:Type}{l:List α}{i:Nat}{x y:α}(h1:l[i]?=some x)(h2:l[i]?=some y):x=y:=by rw[h1] at h2;injection h2
structure WtI (y:QnM) (b fl S_ wv va ca wa:AV) (gr wt:Int) (p:Int) (cards pv:List Int) (m k fb i:Nat) (t:T) (g:G):Prop where
 st:St t [(1,wv),(2,.hptr 0 0 0 0),(12,fl),(13,.int .i64 (m:Int)),(14,.int .i64 (k:Int)),(5,.int .i64 wt),(6,.int .i64 (k:Int)),(7,.hptr fb 0 0 0),(20,va),(8,.int .i64 (p - S.ah (cards.drop i) (pv.drop i)))]
 h0:g.h.get 0=.cells 4 [[.int .i64 gr,b,fl,S_]] 0 false false
 hf:g.h.get fb=.cells 3 [[va,ca,wa]] 0 false false
 nn:0<=p - S.ah (cards.drop i) (pv.drop i)
 nx:1<=g.nx
theorem yM {d m k fb kv kz:Nat}{y:QnM}{b fl S_ wv va ca wa:AV}{gr wt p:Int}{f:Factor}{R vals:List Int}{mm:Nat}{Q:QT}{t:T}{g:G}(hva:SlR NoP kv .nil f.vars va)(hF:FOk mm f)(hR:S.be mm f 0 R)(hvl:vals.length=mm)
  (hS:∃(srows:List (List AV)) (z:AV),(∀h,ax h 1 S_=some srows)/\srows[k]?=some [z]/\k<srows.length/\SlR NoP kz .nil R z) (rv:∀h,ax h 1 wv=some (vals.map ci)) (hp:p=S.ah f.cards (S.ae vals f.vars)) (hin:InC f.cards (S.ae vals f.vars)) (hpb:p<=10000000)
  (h0:WtI y b fl S_ wv va ca wa gr wt p f.cards (S.ae vals f.vars) m k fb 0 t g) (h22:tat t 22=.int .i64 0) (h21:tat t 21=.int .i64 (f.vars.length:Int))
  (fin:∀t g,WtI y b fl S_ wv va ca wa gr wt p f.cards (S.ae vals f.vars) m k fb f.vars.length t g->Q (.exit 2) t [] g):wpL (wp C0 d none bJ) Q t [] g:=by
 obtain ⟨srows,z,s1,s2,s3,hz⟩:=hS
 have rva:=fun h=>(hva.tree (h':=h) (Nat.le_refl _)).ints
 have rz:=fun h=>(hz.tree (h':=h) (Nat.le_refl _)).ints
 simp only[bJ]
 refine a7 (m:=f.vars.length) hva.1 (fun i t df g=>df=[]/\WtI y b fl S_ wv va ca wa gr wt p f.cards (S.ae vals f.vars) m k fb i t g) ⟨rfl,h0⟩ h22 h21 (by decide)
  (by rintro j t df g v s (rfl | rfl | rfl) ⟨a1,⟨b1,b2,b3,b4,b5,b6,b7,b8,b9,b10,-⟩,c1,c2,c3,c4⟩<;>exact ⟨a1,by simp[St,sx,b1,b2,b3,b4,b5,b6,b7,b8,b9,b10],c1,c2,c3,c4⟩) ?_ ?_
 ·rintro i t df g hi ⟨rfl,⟨h1,h2,h12,h13,h14,h5,h6,h7,h20,h8,-⟩,e0,ef,hnn,hnx⟩ h22 h21
  obtain ⟨u,hu,-,hum⟩:=aG hi
  obtain ⟨hu0,hum⟩:=hF.vr u hum
  obtain ⟨un,rfl⟩:=Int.eq_ofNat_of_zero_le hu0
  have hcl:=hF.cl
  have hdr:f.cards.drop i=f.cards[i]::f.cards.drop (i+1):=List.drop_eq_getElem_cons (by omega)
  have hval:vals[un]?=some vals[un]:=List.getElem?_eq_getElem (by omega)
  have hpvi:(S.ae vals f.vars)[i]?=some vals[un]:=by simp[S.ae,hu,hval]
  have hdp:(S.ae vals f.vars).drop i=vals[un]::(S.ae vals f.vars).drop (i+1):=by
   have hl:i<(S.ae vals f.vars).length:=by rw[gK];exact hi
   rw[List.drop_eq_getElem_cons hl]
   rw[List.getElem?_eq_getElem hl] at hpvi
   injection hpvi with hpvi
   rw[hpvi]
  have hv0:0<=vals[un]:=by
   obtain ⟨v',h1,h2,-⟩:=hin.get (i:=i) (c:=f.cards[i]) (List.getElem?_eq_getElem (by omega))
   rw[xl hpvi h1];exact h2
  generalize vals[un]=x at hval hpvi hdp hv0
  have hRu:=hR.2 i (un:Int) (Nat.zero_le _) hu
  rw[Int.toNat_natCast] at hRu
  have hRl:=(List.getElem?_eq_some_iff.1 hRu).1
  have u1:i<(f.vars.map ci).length:=by simpa using hi
  have u2:(f.vars.map ci)[i]?=some (ci (un:Int)):=by rw[List.getElem?_map,hu];rfl
  have u3:un<(vals.map ci).length:=by simp;omega
  have u4:(vals.map ci)[un]?=some (ci x):=by rw[List.getElem?_map,hval];rfl
  have u5:un<(R.map ci).length:=by simpa using hRl
  have u6:(R.map ci)[un]?=some (ci (S.af (f.cards.drop (i+1)))):=by rw[List.getElem?_map,hRu];rfl
  have hidx:S.ah (f.cards.drop i) ((S.ae vals f.vars).drop i)=x*S.af (f.cards.drop (i+1))+S.ah (f.cards.drop (i+1)) ((S.ae vals f.vars).drop (i+1)):=by rw[hdr,hdp,S.ah]
  have hb1:=dw (cards:=f.cards.drop (i+1)) (vals:=(S.ae vals f.vars).drop (i+1)) (fun c hc=>hF.cb c (List.mem_of_mem_drop hc)) (hin.drop (i+1))
  have hb2:=dw (cards:=f.cards.drop i) (vals:=(S.ae vals f.vars).drop i) (fun c hc=>hF.cb c (List.mem_of_mem_drop hc)) (hin.drop i)
  have hpp:=gu (cs:=f.cards.drop (i+1)) fun c hc=>(hF.cb c (List.mem_of_mem_drop hc)).1
  have hxs:0<=x*S.af (f.cards.drop (i+1)):=Int.mul_nonneg hv0 (by omega)
  have w1:IntKind.wrap .i64 (x*S.af (f.cards.drop (i+1)))=x*S.af (f.cards.drop (i+1)):=bc (by omega) (by omega)
  have w2:IntKind.wrap .i64 (p - S.ah (f.cards.drop i) ((S.ae vals f.vars).drop i)+x*S.af (f.cards.drop (i+1)))=p - S.ah (f.cards.drop (i+1)) ((S.ae vals f.vars).drop (i+1)):=by
   rw[bc (by omega) (by omega)];omega
  simp only[sz,simprocAttr,h1,h2,h6,h8,h20,h22,h21,e0,rva,u1,u2,rv,u3,u4,s1,s2,s3,rz,u5,u6,ci,w1,w2]
  refine ⟨by simp[St,sx,h1,h2,h12,h13,h14,h5,h6,h7,h20],e0,ef,by omega,by first | exact hnx | (simp;done) | (simp;omega)⟩
 ·rintro t df g ⟨rfl,h⟩
  exact fin t g h
structure WtJ (n:Net) (vals:List Int) (b fl S_ wv:AV) (k:Nat) (t:T) (g:G):Prop where
 st:St t [(1,wv),(2,.hptr 0 0 0 0),(12,fl),(5,.int .i64 (S.af ((List.range k).map (S.aB n vals))))]
 h0:g.h.get 0=.cells 4 [[.int .i64 n.grain,b,fl,S_]] 0 false false
 nx:1<=g.nx
theorem x7 {d kk ky:Nat}{P:Nat->Prop}{g:G}{v w:AV}{n:Net}{y:QnM}{vals:List Int}(hd:0<d)(hr:NR n)(hm:Agg y NoP ky g.h v)(hq:QnOk n y)(hv:SlR P kk g.h vals w)(hc:InC (S.aa n) vals) :
  aO C0 d N.aD [v,w] g=.val (.int .i64 (S.aZ n vals)):=by
 have e0:=gZ d hm
 obtain ⟨cs,rfl,hcs⟩:=hm
 obtain ⟨b,fl,S_,rfl,hN,hfl,hS⟩:=mu.1 hcs
 have hfl:SlR NoP ky .nil y.2.1 fl:=hfl.tree (Nat.le_refl _)
 have hS:SlR NoP ky .nil y.2.2 S_:=hS.tree (Nat.le_refl _)
 obtain ⟨w',e2,hw'⟩:=jG hv d
 have hgr:y.1.grain=n.grain:=by rw[hq.net]
 obtain ⟨frows,f1,f2,f3,f4⟩:=hfl.all
 have f1:∀h',ax h' 3 fl=some frows:=f1
 obtain ⟨srows,s1,s2,s3,s4⟩:=w8 hS
 have rv:=fun h=>(hw' h).ints
 have hvl:=hc.len
 rw[aS] at hvl
 have hl8:=hr.l2
 have hfll:=hq.fl
 rw[gT]
 refine sw im (xs:=[.agg [.int .i64 y.1.grain,b,fl,S_],w']) (by simp only[aD,e0,e2]) (by simp[cp]) hd ?_
 rw[hgr]
 have ll:=hfl.len
 simp only[sz,simprocAttr,cp,dx,ll,hfll]
 simp only[cU,c_]
 refine a7 (m:=n.nodes.length) (by omega) (fun k t df g=>df=[]/\WtJ n vals b fl S_ w' k t g) ⟨rfl,by simp[St,sx,S.af],by simp[sx],by simp⟩ (by simp[sx]) (by simp[sx]) (by decide)
  (by rintro j t df g v s (rfl | rfl | rfl) ⟨a1,⟨b1,b2,b3,b4,-⟩,c1,c2⟩<;>exact ⟨a1,by simp[St,sx,b1,b2,b3,b4],c1,c2⟩) ?_ ?_
 ·rintro k t df g hk ⟨rfl,⟨h1,h2,h12,h5,-⟩,g0,hnx⟩ h14 h13
  obtain ⟨x,hx,-,-⟩:=aG hk
  obtain ⟨p,hp,hf⟩:=hq.fs k x (by omega) hx
  obtain ⟨row,q1,q2⟩:=f3 k _ hf
  obtain ⟨va,ca,wa,rfl,hva,hca,hwa⟩:=iQ.1 q2
  have hF:=zh hr hx hp
  obtain ⟨pn,i1,i2,i3⟩:=Db hr hc hx p
  have hlt:k<frows.length:=by omega
  have hry:=f4 (by omega)
  obtain ⟨R,hR,-,-⟩:=aG (l:=y.2.2) (j:=k) (by rw[hq.sl];exact hk)
  obtain ⟨z,z1,z2,z3⟩:=s3 k R hR
  have hinp:InC (S.aG n k x p).cards (S.ae vals (S.aG n k x p).vars):=fg hc fun u hu=>by rw[aS];exact oq hr hx p u hu
  have hib:=dw hF.cb hinp
  have hpb:=cE (l:=(S.aG n k x p).cards) hF.cb
  have hfv:=hF.vl
  have hp4:=fe (a:=(S.aG n k x p).cards.length) (b:=9) (by
   have h1:=iZ (hr.places x (List.mem_of_getElem? hx)) (by omega)
   have h3:=kw x.parents p (k:Int) hp
   show (S.ae _ _).length<=9
   rw[gK];omega)
  have h48:(4:Int) ^ 9=262144:=by decide
  have ei:S.ah (S.aG n k x p).cards (S.ae vals (S.aG n k x p).vars)=(pn:Int):=i1
  have lva:=hva.len
  have rwa:=fun h=>(hwa.tree (h':=h) (Nat.le_refl _)).ints
  refine bV (P:=fun t' df g'=>df=[]/\g'=(g.new (.cells 3 [[.nils,.nils,.nils]] 0 false false)).put g.nx (.cells 3 [[va,ca,wa]] 0 false false)/\St t' [(1,w'),(2,.hptr 0 0 0 0),(12,fl),(13,.int .i64 (n.nodes.length:Int)),(14,.int .i64 (k:Int)),(5,.int .i64 (S.af ((List.range k).map (S.aB n vals)))),(6,.int .i64 (k:Int)),(7,.hptr g.nx 0 0 0)]) ?_ ?_
  ·simp only[sz,simprocAttr,h14,h12,f1,hlt,q1]
   simp[St,sx,h1,h2,h12,h13,h14,h5]
  clear h1 h2 h12 h5 h14 h13
  rintro t df g1 ⟨rfl,hg1,⟨h1,h2,h12,h13,h14,h5,h6,h7,-⟩⟩
  have k0:g1.h.get 0=.cells 4 [[.int .i64 n.grain,b,fl,S_]] 0 false false:=by rw[hg1];simp[H.get_put,show ¬0=g.nx by omega,g0]
  have k1:g1.h.get g.nx=.cells 3 [[va,ca,wa]] 0 false false:=by rw[hg1];simp[H.get_put]
  have kn:g1.nx=g.nx+1:=by rw[hg1];simp
  simp only[sz,simprocAttr,h7,k1,lva]
  refine yM (y:=y) (b:=b) (fl:=fl) (S_:=S_) (wv:=w') (va:=va) (ca:=ca) (wa:=wa) (gr:=n.grain) (wt:=S.af ((List.range k).map (S.aB n vals))) (p:=(pn:Int)) (f:=S.aG n k x p) (R:=R) (vals:=vals) (mm:=n.nodes.length) (m:=n.nodes.length) (k:=k) (fb:=g.nx) hva hF (hq.st k _ R hf hR) hvl ⟨srows,z,s1,z1,z2,z3⟩ rv ei.symm hinp (by omega)
   ⟨by simp[St,sx,h1,h2,h12,h13,h14,h5,h6,h7,ei],by simpa using k0,by simpa using k1,by simp[ei],by omega⟩ (by simp[sx]) (by simp[sx]) ?_
  clear h1 h2 h12 h13 h14 h5 h6 h7
  rintro t g2 ⟨⟨h1,h2,h12,h13,h14,h5,h6,h7,h20,h8,-⟩,k0,k1,-,hnx2⟩
  have hnil:S.ah ((S.aG n k x p).cards.drop (S.aG n k x p).vars.length) ((S.ae vals (S.aG n k x p).vars).drop (S.aG n k x p).vars.length)=0:=by
   rw[List.drop_of_length_le (by rw[hF.cl];exact Nat.le_refl _)];rfl
  rw[hnil,Int.sub_zero] at h8
  have u1:pn<((S.aG n k x p).w.map ci).length:=by
   rw[List.length_map]
   exact (List.getElem?_eq_some_iff.1 i3).1
  have u2:((S.aG n k x p).w.map ci)[pn]?=some (ci (S.aB n vals k)):=by rw[List.getElem?_map];exact congrArg (Option.map ci) i3
  have wb:=ld hr hc (j:=k+1) (by omega)
  have ws:=uD n vals k
  have w1:IntKind.wrap .i64 (S.af ((List.range k).map (S.aB n vals))*S.aB n vals k)=S.af ((List.range (k+1)).map (S.aB n vals)):=by rw[<-ws,bc (by omega) (by omega)]
  simp only[sz,simprocAttr,cT,h5,h7,k1,h8,rwa,u1,u2,ci,w1]
  exact ⟨⟨by simp[St,sx,h1,h2,h12],k0,hnx2⟩,h14,h13⟩
 ·rintro t df g ⟨rfl,⟨h1,h2,h12,h5,-⟩,g0,hnx⟩
  simp only[sz,simprocAttr,di,h5]
  rfl
def S.bp (vals e:List Int)(i:Nat):Bool:=decide (e[i]?.getD 0 = -1) || decide (e[i]?.getD 0=vals[i]?.getD 0)
def S.jm (vals e:List Int):Bool:=(List.range e.length).all (S.bp vals e)
theorem vV {d k k2:Nat}{g:G}{P P2:Nat->Prop}{v w:AV}{vals e:List Int}(hd:0<d)(hv:SlR P k g.h vals v)(hw:SlR P2 k2 g.h e w)(hl:e.length<=vals.length) :
  aO C0 d N.aH [v,w] g=.val (.bool (S.jm vals e)):=by
 obtain ⟨v',e1,r1⟩:=jG hv d
 obtain ⟨w',e2,r2⟩:=jG hw d
 have ra:∀h',ax h' 1 v'=some (vals.map ci):=fun h'=>(r1 h').ints
 have rb:∀h',ax h' 1 w'=some (e.map ci):=fun h'=>(r2 h').ints
 have n2:=fun g=>(r2 .nil).len g
 rw[lO]
 refine jL mW (xs:=[v',w']) (by simp only[aD,e1,e2]) (by simp[fM]) hd ?_
 simp only[sz,simprocAttr,fM,gL,n2]
 refine a7 (m:=e.length) hw.1 (fun j t df g=>df=[]/\St t [(0,v'),(8,w'),(5,.bool true)]/\(List.range j).all (S.bp vals e)=true) ⟨rfl,by simp[St,sx],rfl⟩ (by simp[sx]) (by simp[sx]) (by decide) (by rintro j t df g v s (rfl | rfl | rfl)<;>simp[St,sx]) ?_ ?_
 ·rintro j t df g hj ⟨rfl,⟨h0,h8,h5,-⟩,hA⟩ h10 h9
  obtain ⟨x,hx,-,-⟩:=aG hj
  obtain ⟨z,hz,-,-⟩:=aG (l:=vals) (j:=j) (by omega)
  have q1:j<(e.map ci).length:=by simpa using hj
  have q2:j<(vals.map ci).length:=by rw[List.length_map];omega
  have q3:(e.map ci)[j]?=some (ci x):=by rw[List.getElem?_map,hx];rfl
  have q4:(vals.map ci)[j]?=some (ci z):=by rw[List.getElem?_map,hz];rfl
  have hat:S.bp vals e j=(decide (x = -1) || decide (x=z)):=by simp[S.bp,hx,hz]
  by_cases c1:x = -1
  ·subst c1
   simp only[sz,simprocAttr,h10,h9,h8,rb,q1,q3,ci]
   refine ⟨by simp[St,sx,h0,h8,h5],?_⟩
   rw[j7,hA,hat];simp
  ·by_cases c2:x=z
   ·subst c2
    simp only[sz,simprocAttr,h10,h9,h8,h0,ra,rb,q1,q2,q3,q4,ci,c1]
    refine ⟨by simp[St,sx,h0,h8,h5],?_⟩
    rw[j7,hA,hat];simp
   ·have:S.bp vals e j=false:=by rw[hat];simp[c1,c2]
    have hf:S.jm vals e=false:=by rw[S.jm,nV hj this]
    simp only[sz,simprocAttr,h10,h8,h0,ra,rb,q1,q2,q3,q4,ci,c1,c2,dO,hf]
 ·rintro t df g ⟨rfl,⟨h0,h8,h5,-⟩,hA⟩
  simp only[sz,simprocAttr,dO,h5]
  rw[S.jm,hA]
theorem DT {α:Type} [Rp α]{P:Nat->Prop}{k:Nat}{h:H}{l:List α}{w:AV}(hw:SlR P k h l w)(g:G):AL w g=.upd (.hptr g.nx 0 0 0) (g.new (.cells 1 [[w]] 0 false false)):=by
 rw[vM _ _ hw.cell.2,hw.cell.1];rfl
def Af {α:Type} [Rp α](x:α)(sz:Nat):VS:=fun P k h v=>(∃id cs,v=.hptr id 0 0 0/\P id/\h.get id=.cells sz [cs] 0 false false/\Rp.rp P k h x cs)\/∃t cs,v=.tptr t sz [cs] 0 0/\t<=k/\Rp.rp NoP k .nil x cs
theorem t9 {α:Type} [Rp α]{x:α}{sz:Nat}{P:Nat->Prop}{k:Nat}{h:H}{v:AV}{n:Nat}(d:Nat)(r:Af x sz P k h v)(hn:Rp.dp α<=n)(hd:Rp.dp α<=20:=by decide):∃v',Hx.snap h d (n+1) v=some v'/\Af x sz NoP (max k d) .nil v':=by
 rcases r with ⟨id,cs,rfl,-,hg,r⟩ | ⟨t,cs,rfl,ht,r⟩
 ·obtain ⟨cs',e,r'⟩:=Rp.snap (n:=n) d r hn (by show _<=24;omega)
  obtain ⟨m,e2,l2⟩:=Rp.tag (n:=ak) r' (by show _<=24;omega)
  refine ⟨.tptr (Nat.max d (Nat.max m 0)) sz [cs'] 0 0,?_,.inr ⟨_,cs',rfl,?_,r'⟩⟩
  ·simp only[Hx.snap,hg,show Nat.beq 0 0=true from rfl,aD,e,dl,dP,e2]
  ·show max d (max m 0)<=max k d
   omega
 ·exact ⟨.tptr t sz [cs] 0 0,rfl,.inr ⟨t,cs,rfl,by omega,Rp.mono r (fun i hi=>hi.elim) (by omega)⟩⟩
theorem xe {α:Type} [Rp α]{x:α}{sz:Nat}{k:Nat}{h:H}{v:AV}{n:Nat}(r:Af x sz NoP k h v):∃m,cJ (n+1) v=some m/\m<=k:=by
 rcases r with ⟨id,cs,rfl,hP,-⟩ | ⟨t,cs,rfl,ht,r⟩
 ·exact hP.elim
 ·exact ⟨t,rfl,ht⟩
def MtV (y:QnM)(e:List Int):VS:=fun P k h v=>∃p q,v=.clo N.aa [] [p,q]/\Af y 4 P k h p/\Af e 1 P k h q
theorem DH (y:QnM)(e:List Int):Snb (MtV y e) 2:=by
 refine ⟨fun {P k h v n} d r hn=>?_,fun {k h v n} r hn=>?_⟩
 ·obtain ⟨p,q,rfl,r1,r2⟩:=r
  obtain ⟨n,rfl⟩:∃q,n=q+2:=⟨n - 2,by omega⟩
  obtain ⟨p',e1,r1'⟩:=t9 (n:=n) d r1 (Nat.le_trans (show Rp.dp QnM<=20 by decide) (by omega))
  obtain ⟨q',e2,r2'⟩:=t9 (n:=n) d r2 (Nat.le_trans (show Rp.dp (List Int)<=20 by decide) (by omega))
  refine ⟨.clo N.aa [] [p',q'],?_,p',q',rfl,r1',r2'⟩
  simp only[Hx.snap,aD] at e1 e2 ⊢
  rw[e1,e2]
 ·obtain ⟨p,q,rfl,r1,r2⟩:=r
  obtain ⟨n,rfl⟩:∃q,n=q+2:=⟨n - 2,by omega⟩
  obtain ⟨m1,e1,l1⟩:=xe (n:=n) r1
  obtain ⟨m2,e2,l2⟩:=xe (n:=n) r2
  refine ⟨Nat.max m1 (Nat.max m2 0),?_,by show max m1 (max m2 0)<=k;omega⟩
  show dP (cJ (n+1)) [p,q]=_
  simp only[dP,e1,e2]
theorem nD {d kk:Nat}{g:G}{v w:AV}{y:QnM}{e:List Int}(hd:0<d)(hm:Agg y NoP 0 g.h v)(hw:SlR NoP kk g.h e w)(hk:kk<d:=by omega) :
  ∃cs z t1 t2,aO C0 d N.am [v,w] g=.val (.clo N.aa [] [.tptr t1 4 [cs] 0 0,.tptr t2 1 [[z]] 0 0])/\Rp.rp NoP kk .nil y cs/\SlR NoP kk .nil e z:=by
 have e0:=gZ d hm
 obtain ⟨cs,rfl,hc⟩:=hm
 obtain ⟨a,b,c,rfl,h1,h2,h3⟩:=mu.1 hc
 have key:∃r,aO C0 d N.am [.agg [.int .i64 y.1.grain,a,b,c],w] g=.val r/\MtV y e NoP kk .nil r:=by
  rw[fP]
  refine fy gS (xs:=[.agg [.int .i64 y.1.grain,a,b,c],w]) (by simp only[aD,e0,BK d hw]) (by simp[bN]) (DH y e) (by decide) hk ?_
  simp only[sz,simprocAttr,bN,cP,DT hw]
  refine ⟨fun _=>True,_,_,rfl,.inl ⟨0,_,rfl,trivial,by simp[sx,H.get_put],Rp.tree hc (Nat.zero_le _)⟩,.inl ⟨1,[w],rfl,trivial,by simp[sx],?_⟩⟩
  exact ⟨w,rfl,hw.wide (Nat.le_refl _)⟩
 obtain ⟨r,hr,p,q,rfl,r1,r2⟩:=key
 rcases r1 with ⟨id,cs,rfl,hP,-⟩ | ⟨t,cs,rfl,ht,r1⟩
 ·exact hP.elim
 rcases r2 with ⟨id,cs,rfl,hP,-⟩ | ⟨t2,cs2,rfl,ht2,r2⟩
 ·exact hP.elim
 obtain ⟨z,rfl,hz⟩:=mE.1 r2
 exact ⟨cs,z,t,t2,hr,r1,hz⟩
theorem z6 {cs vs:List Int}(h:InC cs vs)(hc:∀c∈cs,1<=c){i:Nat}{x c:Int}(hi:vs[i]?=some x)(hci:cs[i]?=some c)(hx:x≠c - 1):InC cs (vs.take i++(x+1)::List.replicate (vs.length - (i+1)) 0):=by
 have hil:=(List.getElem?_eq_some_iff.1 hi).1
 have hl:=h.len
 refine rx (by simp;omega) fun j c' v hj hv=>?_
 obtain ⟨v',h1,h2,h3⟩:=h.get hj
 have hcp:=hc c' (List.mem_of_getElem? hj)
 by_cases h4:j<i
 ·rw[List.getElem?_append_left (by simp;omega),List.getElem?_take_of_lt h4] at hv
  rw[h1] at hv;injection hv with hv;omega
 ·rw[List.getElem?_append_right (by simp;omega)] at hv
  rw[List.length_take,Nat.min_eq_left (by omega)] at hv
  by_cases h5:j=i
  ·subst h5
   rw[Nat.sub_self] at hv
   simp at hv
   rw[hi] at h1;injection h1 with h1
   rw[hci] at hj;injection hj with hj
   omega
  ·obtain ⟨m,hm⟩:∃m,j - i=m+1:=⟨j - i - 1,by omega⟩
   rw[hm,List.getElem?_cons_succ] at hv
   have:=List.mem_of_getElem? hv
   rw[List.mem_replicate] at this
   omega
theorem A2 {cs:List Int}(hc:∀c∈cs,1<=c):InC cs (List.replicate cs.length 0) :=
 rx (by simp) fun j c v hj hv=>by
  have:=List.mem_of_getElem? hv
  rw[List.mem_replicate] at this
  have:=hc c (List.mem_of_getElem? hj)
  omega
theorem rW {vs:List Int}{m:Nat}(h:m<vs.length):(vs.take (m+1)++List.replicate (vs.length - (m+1)) 0).set m 0=vs.take m++List.replicate (vs.length - m) 0:=by
 rw[List.take_succ_eq_append_getElem h,List.append_assoc,List.set_append_right _ _ (by simp;omega),List.length_take,Nat.min_eq_left (by omega),Nat.sub_self]
 rw[show vs.length - m=(vs.length - (m+1))+1 by omega,List.replicate_succ]
 rfl
theorem r_ {vs:List Int}{m:Nat}(h:m<vs.length)(y:Int):(vs.take (m+1)++List.replicate (vs.length - (m+1)) 0).set m y=vs.take m++y::List.replicate (vs.length - (m+1)) 0:=by
 rw[List.take_succ_eq_append_getElem h,List.append_assoc,List.set_append_right _ _ (by simp;omega),List.length_take,Nat.min_eq_left (by omega),Nat.sub_self]
 rfl
structure OdoJ (n:Net) (vs:List Int) (L:List (Nat×AV)) (u:AV) (g0:G) (m:Nat) (t:T) (g:G):Prop where
 st:tat t 6=.int .i64 ((m:Int) - 1)
 ss:St t L
 ow:Own g g0.nx u 1 ((vs.take m++List.replicate (vs.length - m) 0).map ci)
 mx:∀(j:Nat) (c:Int),m<=j->(S.aa n)[j]?=some c->vs[j]?.getD 0=c - 1
def LM (id:Nat)(gr:Int)(b fl S_ w u:AV)(k t1 t2:Nat):List (Nat×AV):=[(0,.yld id),(1,.tptr t1 4 [[.int .i64 gr,b,fl,S_]] 0 0),(2,.tptr t2 1 [[w]] 0 0),(4,u),(5,.int .i64 (k:Int))]
theorem x4 {d id k m t1 t2 ky:Nat}{n:Net}{b fl S_ w u:AV}{vs:List Int}{Q:QT}{t:T}{g g0:G}(hr:NR n)(hN:SlR NoP ky .nil n.nodes b)(hc:InC (S.aa n) vs)(hm:m<=n.nodes.length)
  (h0:OdoJ n vs (LM id n.grain b fl S_ w u k t1 t2) u g0 m t g)
  (fin:∀m' t g',m'<=n.nodes.length->OdoJ n vs (LM id n.grain b fl S_ w u k t1 t2) u g0 m' t g'->g.nx<=g'.nx->(∀i,vid u≠some i->g'.h.get i=g.h.get i)->(m'=0\/∃x c,vs[m' - 1]?=some x/\(S.aa n)[m' - 1]?=some c/\x≠c - 1/\0<m')->Q (.exit 2) t [] g') :
  wpL (wp C0 d none aT) Q t [] g:=by
 obtain ⟨rows,r1,r2,r3,r4⟩:=hN.all
 have r1:∀h',ax h' 3 b=some rows:=r1
 have hvl:=hc.len
 rw[aS] at hvl
 have hl8:=hr.l2
 refine lE (fun m t df g'=>df=[]/\m<=n.nodes.length/\OdoJ n vs (LM id n.grain b fl S_ w u k t1 t2) u g0 m t g'/\g.nx<=g'.nx/\∀i,vid u≠some i->g'.h.get i=g.h.get i) m ⟨rfl,hm,h0,Nat.le_refl _,fun _ _=>rfl⟩ ?_
 rintro m t df g1 ⟨rfl,hm,⟨h6,⟨h0,h1,h2,h4,h5,-⟩,how,hmx⟩,hnx,hfr⟩
 simp only[aT]
 cases m with
 | zero =>
  have c1:¬((0:Int)<=((0:Nat):Int) - 1):=by omega
  simp only[sz,simprocAttr,h6,c1]
  refine fin 0 _ _ (Nat.zero_le _) ⟨?_,?_,?_,hmx⟩ ?_ ?_ (.inl rfl)
  ·simp[sx,h6]
  ·simp[St,LM,sx,h0,h1,h2,h4,h5]
  ·exact how
  ·exact hnx
  ·exact hfr
 | succ m =>
  have c1:(0:Int)<=((m+1:Nat):Int) - 1:=by omega
  have e1:((m+1:Nat):Int) - 1=(m:Int):=by omega
  rw[e1] at c1 h6
  obtain ⟨x,hx,-,-⟩:=aG (l:=n.nodes) (j:=m) (by omega)
  obtain ⟨row,q1,q2⟩:=r3 m x hx
  obtain ⟨pa,ra,rfl,-,-⟩:=eR.1 q2
  have hlt:m<rows.length:=by omega
  have hry:=r4 (by omega)
  have hci:(S.aa n)[m]?=some x.card:=by simp[S.aa,hx]
  obtain ⟨v,hv,hv0,hv1⟩:=hc.get hci
  have hcx:=hr.card x (List.mem_of_getElem? hx)
  have u1:m<((vs.take (m+1)++List.replicate (vs.length - (m+1)) 0).map ci).length:=by simp;omega
  have u2:((vs.take (m+1)++List.replicate (vs.length - (m+1)) 0).map ci)[m]?=some (ci v):=by
   rw[List.getElem?_map,List.getElem?_append_left (by simp;omega),List.getElem?_take_of_lt (by omega),hv];rfl
  have ru:=how.rows
  have w1:IntKind.wrap .i64 (x.card - 1)=x.card - 1:=bc (by omega) (by omega)
  by_cases c2:v=x.card - 1
  ·simp only[sz,simprocAttr,h6,h1,h4,c1,ru,u1,u2,r1,hlt,q1,hry,mg,gx,ci,w1,c2]
   refine dR (v:=u) (sz:=1) (n:=1) (i:=m) (off:=0) (x:=.int .i64 0) (row':=ci 0) how u2 rfl rfl rfl fun g4 hu4 n4 f4=>?_
   rw[<-List.map_set,rW (by omega)] at hu4
   have w2:IntKind.wrap .i64 ((m:Int) - 1)=(m:Int) - 1:=bc (by omega) (by omega)
   simp only[sz,simprocAttr,h6,w2]
   refine ⟨m,by omega,by omega,⟨by simp[sx],by simp[St,LM,sx,h0,h1,h2,h4,h5],hu4,fun j c hj hc'=>?_⟩,by omega,fun i hi=>by rw[f4 i hi,hfr i hi]⟩
   by_cases e:j=m
   ·subst e
    rw[hci] at hc';injection hc' with hc'
    rw[hv,Option.getD_some];omega
   ·exact hmx j c (by omega) hc'
  ·simp only[sz,simprocAttr,h6,h1,h4,c1,ru,u1,u2,r1,hlt,q1,hry,mg,gx,ci,w1,c2]
   refine fin (m+1) _ _ hm ⟨?_,?_,?_,hmx⟩ ?_ ?_ (.inr ⟨v,x.card,hv,hci,c2,by omega⟩)
   ·simp[sx,h6]
   ·simp[St,LM,sx,h0,h1,h2,h4,h5]
   ·exact how
   ·exact hnx
   ·exact hfr
theorem DM {a b u:AV}(ha:a.cells=[a]/\a.isTup=false)(hb:b.cells=[b]/\b.isTup=false)(hu:u.cells=[u]/\u.isTup=false):eG [.int .i64 0,.int .i64 0,.nils] [((0,1),a),((1,1),b),((2,1),u)]=some [a,b,u]:=by
 simp[eG,ha,hb,hu,fK]
 rfl
theorem yL {d id t1 t2 ky ke:Nat}{n:Net}{y:QnM}{e:List Int}{b fl S_ w:AV}{g0:G}{K:AV->G->Prop}(hd:0<d)(hr:NR n)(hq:QnOk n y)(hcs:Rp.rp NoP ky .nil y [.int .i64 n.grain,b,fl,S_])(hw:SlR NoP ke .nil e w)(hel:e.length<=n.nodes.length)
  (J:Nat->H->Prop) (E:G->Prop) (hJ:∀j h h',(∀i,i<g0.nx->h'.get i=h.get i)->J j h->J j h')
  (skip:∀(j:Nat) (h:H),j<S.ap n->S.jm (S.an (S.aa n) j) e=false->J j h->J (j+1) h)
  (step:∀(j:Nat) (u:AV) (g:G) (K':AV->G->Prop) (D:ADf->Prop),j<S.ap n->S.jm (S.an (S.aa n) j) e=true->g0.nx<=g.nx->J j g.h->SlR (fun i=>g0.nx<=i/\i<g.nx) 0 g.h (S.an (S.aa n) j) u ->
   (∀g',J (j+1) g'.h->g.nx<=g'.nx->(∀i,g0.nx<=i->i<g.nx->g'.h.get i=g.h.get i)->K' (.bool true) g')->(∀g',E g'->K' (.bool false) g')->(bP (I C0) d id [.agg [.int .i64 (j:Int),.int .i64 (S.aZ n (S.an (S.aa n) j)),u]] g).sat K' g D)
  (h0:J 0 g0.h) (fin:∀g',J (S.ap n) g'.h->g0.nx<=g'.nx->K (.tup []) g') (finE:∀g',E g'->K (.tup []) g') :
  wp C0 d none ay.code (fnQ C0 d ay.res K) (bI 0 [.yld id,.tptr t1 4 [[.int .i64 n.grain,b,fl,S_]] 0 0,.tptr t2 1 [[w]] 0 0] .nil) [] g0:=by
 obtain ⟨b',fl',S',e1,hN,hfl,hS⟩:=mu.1 hcs
 injection e1 with e1 e2
 injection e2 with e2 e3
 injection e3 with e3 e4
 injection e4 with e4 e5
 subst e2;subst e3;subst e4
 have hN:SlR NoP ky .nil n.nodes b:=by rw[<-hq.net];exact hN
 have hl8:=hr.l2
 have hl1:=hr.l1
 obtain ⟨W1,W2,W3⟩:=hr.wl
 have hcs1:=fun c hc=>(hr.cs c hc).1
 have nl:=hN.len
 have hcl:=aS n
 obtain ⟨Qf,hQf⟩:∃Qf,Qf=fnQ C0 d ay.res K:=⟨_,rfl⟩
 rw[<-hQf]
 simp only[sz,simprocAttr,ay,mg,gx,nl]
 refine sP (b:=g0.nx) (n:=n.nodes.length) (by unfold bF;omega) (by unfold bF;omega) (Nat.le_refl _) fun u g1 hu n1 fr1 v1=>?_
 simp only[sz,simprocAttr]
 have hul:∀(g:G) (l:List Int),l.length=n.nodes.length->Own g g0.nx u 1 (l.map ci)->∀g2:G,gM .slice u g2=.val (.int .i64 (n.nodes.length:Int)):=fun g l hl ho g2=>by rw[kr ho.rows];simp[hl]
 obtain ⟨INV,hINV⟩:∃INV:Nat->PT,INV=(fun m t df g=>df=[]/\∃(j:Nat) (vs:List Int),m=S.ap n - j/\j<S.ap n/\InC (S.aa n) vs/\S.ah (S.aa n) vs=(j:Int)/\St t (LM id n.grain b fl S_ w u j t1 t2)/\Own g g0.nx u 1 (vs.map ci)/\J j g.h/\g0.nx<=g.nx):=⟨_,rfl⟩
 refine lE INV (S.ap n) ?_ ?_
 ·rw[hINV]
  exact ⟨rfl,0,List.replicate n.nodes.length 0,rfl,by omega,by rw[<-hcl];exact A2 hcs1,by rw[o8];rfl,by simp[St,LM,sx],by simpa [ci] using hu,hJ 0 _ _ (fun i hi=>fr1 i hi) h0,by omega⟩
 intro m t df g hI
 have hI2:=hI
 rw[hINV] at hI2
 obtain ⟨rfl,j,vs,rfl,hj,hin,hidx,⟨h0,h1,h2,h4,h5,-⟩,ho,hJj,hnx⟩:=hI2
 clear hI
 have hvl:=hin.len
 rw[aS] at hvl
 have hval:S.an (S.aa n) (j:Int)=vs:=by rw[<-hidx];exact vp hcs1 hin
 have hvu:vid u=some g0.nx:=v1
 have hsl:SlR (fun i=>g0.nx<=i/\i<g.nx) 0 g.h vs u:=Own.sl (α:=Int) ho (by omega) (All2.of_map (fun a=>a9.2 rfl) _) fun i hi=>ho.lt hi
 have hmt:=vV (d:=d) (g:=g) (v:=u) (w:=w) (vals:=vs) (e:=e) hd hsl (hw.tree (h':=g.h) (Nat.le_refl _)) (by omega)
 have hlu:=hul g vs hvl ho
 have w1:IntKind.wrap .i64 ((n.nodes.length:Int) - 1)=(n.nodes.length:Int) - 1:=bc (by omega) (by omega)
 obtain ⟨R,hR⟩:∃R,R=sQ [oM 28 4,oN 29 28,o 30 (.bin .sub (.t 29) (qI 1)),oM 6 30] (.seq (.blk 2 (.loop aT)) aU):=⟨_,rfl⟩
 simp only[cz]
 rw[<-hR,cM,lC]
 obtain ⟨Q1,hQ1⟩:∃Q1,Q1=kB 1 (kS (wp C0 d none bg (kL INV (S.ap n - j) (kB 0 Qf))) (kL INV (S.ap n - j) (kB 0 Qf))):=⟨_,rfl⟩
 rw[<-hQ1]
 have rest:∀(t:T) (g:G),St t (LM id n.grain b fl S_ w u j t1 t2)->Own g g0.nx u 1 (vs.map ci)->J (j+1) g.h->g0.nx<=g.nx->wp C0 d none R Q1 t [] g:=by
  rintro t g ⟨h0,h1,h2,h4,h5,-⟩ ho hJj hnx
  rw[hR,hQ1]
  simp only[sz,simprocAttr,h4,hlu,w1]
  refine x4 (t1:=t1) (t2:=t2) (id:=id) (k:=j) (m:=n.nodes.length) (n:=n) (b:=b) (fl:=fl) (S_:=S_) (w:=w) (u:=u) (vs:=vs) (g0:=g0) hr hN hin (Nat.le_refl _) ⟨by simp[sx],by simp[St,LM,sx,h0,h1,h2,h4,h5],?_,fun i c hi hc=>?_⟩ ?_
  ·rw[List.take_of_length_le (by omega),show vs.length - n.nodes.length=0 by omega]
   simpa using ho
  ·have:=(List.getElem?_eq_some_iff.1 hc).1
   omega
  rintro m' t2 g2 hm' ⟨h6,⟨h0,h1,h2,h4,h5,-⟩,ho2,hmx⟩ hn2 hf2 hcase
  have hJ2:J (j+1) g2.h:=hJ _ _ _ (fun i hi=>hf2 i fun e=>by rw[hvu] at e;injection e with e;omega) hJj
  rcases hcase with rfl | ⟨x,c,hx,hc,hxc,hm0⟩
  ·have hlast:j+1=S.ap n:=by
    have:=sC (cs:=S.aa n) (vs:=vs) hin.len.symm fun i c hc=>hmx i c (Nat.zero_le _) hc
    omega
   have c1:(((0:Nat):Int) - 1<0):=by omega
   rw[hQf]
   simp only[sz,simprocAttr,aU,ay,h6,c1]
   rw[hlast] at hJ2
   exact fin g2 hJ2 (by omega)
  ·obtain ⟨i,rfl⟩:∃i,m'=i+1:=⟨m' - 1,by omega⟩
   rw[Nat.add_sub_cancel] at hx hc
   have hil:=(List.getElem?_eq_some_iff.1 hx).1
   have e1:((i+1:Nat):Int) - 1=(i:Int):=by omega
   rw[e1] at h6
   have c1:¬((i:Int)<0):=by omega
   have u1:i<((vs.take (i+1)++List.replicate (vs.length - (i+1)) 0).map ci).length:=by simp;omega
   have u2:((vs.take (i+1)++List.replicate (vs.length - (i+1)) 0).map ci)[i]?=some (ci x):=by
    rw[List.getElem?_map,List.getElem?_append_left (by simp;omega),List.getElem?_take_of_lt (by omega),hx];rfl
   have ru:=ho2.rows
   obtain ⟨x',hx',hx0,hx1⟩:=hin.get hc
   rw[xl hx' hx] at hx0 hx1
   have hcb:=hr.cs c (List.mem_of_getElem? hc)
   have w2:IntKind.wrap .i64 (x+1)=x+1:=bc (by omega) (by omega)
   simp only[sz,simprocAttr,aU,h6,c1,h4,ru,u1,u2,ci,w2]
   refine dR (v:=u) (sz:=1) (n:=1) (i:=i) (off:=0) (x:=.int .i64 (x+1)) (row':=ci (x+1)) ho2 u2 rfl rfl rfl fun g4 hu4 n4 f4=>?_
   rw[<-List.map_set,r_ hil] at hu4
   have hin2:=z6 hin hcs1 hx hc hxc
   have hidx2:=z5 (cs:=S.aa n) (vs:=vs) hin.len.symm hx fun k c hk hc=>hmx k c (by omega) hc
   rw[hidx] at hidx2
   have hlt2:=dw hr.cs hin2
   have w3:IntKind.wrap .i64 ((j:Int)+1)=((j+1:Nat):Int):=by rw[bc (by omega) (by omega)];rfl
   simp only[sz,simprocAttr,bg,h5,w3]
   refine ⟨S.ap n - (j+1),by omega,?_⟩
   rw[hINV]
   refine ⟨rfl,j+1,_,rfl,by omega,hin2,by rw[hidx2];rfl,by simp[St,LM,sx,h0,h1,h2,h4],hu4,hJ _ _ _ (fun i hi=>f4 i fun e=>by rw[hvu] at e;injection e with e;omega) hJ2,by omega⟩
 cases hm:S.jm vs e with
 | false =>
  rw[hm] at hmt
  rw[cM]
  simp only[sz,simprocAttr,h4,h2,gx,hmt]
  exact rest _ _ (by simp[St,LM,sx,h0,h1,h2,h4,h5]) ho (skip j _ hj (by rw[hval];exact hm) hJj) hnx
 | true =>
  rw[hm] at hmt
  rw[cM]
  have hwt:=x7 (d:=d) (g:=g) (v:=.agg [.int .i64 n.grain,b,fl,S_]) (w:=u) (vals:=vs) (y:=y) hd hr ⟨_,rfl,Rp.tree hcs (Nat.le_refl _)⟩ hq hsl hin
  simp only[sz,simprocAttr,h0,h1,h5,h4,h2,gx,hmt,hwt,DM (a:=.int .i64 (j:Int)) (b:=.int .i64 (S.aZ n vs)) ⟨rfl,rfl⟩ ⟨rfl,rfl⟩ ho.cell]
  have st:=fun K' D=>step j u g K' D hj (by rw[hval];exact hm) hnx hJj (by rw[hval];exact hsl)
  rw[hval] at st
  show (bP (I C0) d id [.agg [.int .i64 (j:Int),.int .i64 (S.aZ n vs),u]] g).sat _ _ _
  refine st _ _ (fun g' hJ' hn' hf'=>?_) fun g' hE=>?_
  ·simp only[sz,simprocAttr]
   exact rest _ _ (by simp[St,LM,sx,h0,h1,h2,h4,h5]) (ho.fr hn' fun i hi=>hf' i (ho.lt hi).1 (ho.lt hi).2) hJ' (by omega)
  ·rw[hQ1,hQf]
   simp only[sz,simprocAttr,ay]
   exact finE g' hE
theorem ya {C:Cfg}{d id nt:Nat}{t:T}{ps:List Nat}{assign body:Code}{a b:SC}{dfr:Nat}{args:List AV}{g:G}{K:AV->G->Prop}{D:ADf->Prop}{t':T}
  (hg:g.h.get id=.loop nt t ps assign body dfr .ready none) (ha:cI C nt assign=a) (hb:cI C nt body=b) (hp:cA t nt ps args=some t')
  (h:wp C d (some id) a (fun e t1 df g1=>e=.norm/\df=[]/\g1.h.get id=.loop nt t ps assign body dfr .ready none /\
   wp C d (some id) b (fun e _ df g2=>df=[]/\g2.h.get id=.loop nt t ps assign body dfr .busy none/\((e=.norm/\K (.bool true) (g2.put id (.loop nt t ps assign body dfr .ready none)))\/(e=.ret/\K (.bool false) (g2.put id (.loop nt t ps assign body dfr .done (some .ret))))))
    t1 [] (g1.put id (.loop nt t ps assign body dfr .busy none))) t' [] g) :
  (bP (I C) d id args g).sat K g D:=by
 subst ha;subst hb
 unfold bP
 rw[show g.get id=_ from hg]
 dsimp only
 rw[hp]
 dsimp only
 have h1:=kI h
 cases hc:(I C).code nt d (some id) assign t' [] g with
 | fail=>rw[hc] at h1;exact h1.elim
 | ok e t1 df g1 =>
  rw[hc] at h1
  obtain ⟨rfl,rfl,hg1,h2⟩:=h1
  dsimp only
  rw[show g1.get id=_ from hg1]
  dsimp only
  have h3:=kI h2
  cases hc2:(I C).code nt d (some id) body t1 [] (g1.put id (.loop nt t ps assign body dfr .busy none)) with
  | fail=>rw[hc2] at h3;exact h3.elim
  | ok e t2 df2 g2 =>
   rw[hc2] at h3
   obtain ⟨rfl,h4,h5⟩:=h3
   dsimp only
   rw[show g2.get id=_ from h4]
   rcases h5 with ⟨rfl,h5⟩ | ⟨rfl,h5⟩<;>exact h5
theorem uc:C0.ext N.aa=none:=by kernel_rfl
theorem qv {d nt p r t1 t2 ky ke:Nat}{n:Net}{y:QnM}{e:List Int}{cs:List AV}{w:AV}{ca cb:SC}{Q:QT}{t:T}{df:List ADf}{g:G}(hd:0<d)(hr:NR n)(hq:QnOk n y)(hcs:Rp.rp NoP ky .nil y cs)(hw:SlR NoP ke .nil e w)(hel:e.length<=n.nodes.length)
  (hv:tat t r=.clo N.aa [] [.tptr t1 4 [cs] 0 0,.tptr t2 1 [[w]] 0 0]) (hp:p<nt)
  (J:Nat->H->Prop) (E:H->Prop) (hJ:∀j h h',(∀i,i<g.nx->h'.get i=h.get i)->J j h->J j h') (hE:∀h h',(∀i,i<g.nx->h'.get i=h.get i)->E h->E h') (h0:J 0 g.h)
  (skip:∀(j:Nat) (h:H),j<S.ap n->S.jm (S.an (S.aa n) j) e=false->J j h->J (j+1) h)
  (step:∀(j:Nat) (u:AV) (g1:G),j<S.ap n->S.jm (S.an (S.aa n) j) e=true->J j g1.h->g.nx+2<=g1.nx->SlR (fun i=>g.nx+2<=i/\i<g1.nx) 0 g1.h (S.an (S.aa n) j) u ->
   wp C0 d (some (g.nx+1)) ca (fun e t1 df g1'=>e=.norm/\df=[]/\Fr g1 g1'/\∀g2:G,g2.nx=g1'.nx->(∀i,i≠g.nx+1->g2.h.get i=g1'.h.get i) ->
    wp C0 d (some (g.nx+1)) cb (fun e _ df g3=>df=[]/\RowQ g.nx g2 g3 e (J (j+1) g3.h) (E g3.h)) t1 [] g2)
    (fL t p (.agg [.int .i64 (j:Int),.int .i64 (S.aZ n (S.an (S.aa n) j)),u])) [] g1)
  (fin:∀g',J (S.ap n) g'.h->g.nx+2<=g'.nx->g'.h.get g.nx=.dfr true->Q .norm t (.mark g.nx::df) g')
  (finE:∀g',E g'.h->g.nx+2<=g'.nx->g'.h.get g.nx=.dfr true->Q .ret t (.mark g.nx::df) g') :
  wp C0 d none (.rng nt (.t r) [p] ca cb) Q t df g:=by
 obtain ⟨b,fl,S_,rfl,-,-,-⟩:=mu.1 hcs
 rw[hq.net] at hv hcs
 refine pg (fn:=N.aa) (first:=[]) (cap:=[.tptr t1 4 [[.int .i64 n.grain,b,fl,S_]] 0 0,.tptr t2 1 [[w]] 0 0]) (s:=ay) hv uc fR (by simp[ay]) ?_
 intro assign body ha hb
 have e1:((g.new (.dfr true)).new (.loop nt t [p] assign body g.nx .ready none)).nx=g.nx+2:=by simp
 refine yL (g0:=(g.new (.dfr true)).new (.loop nt t [p] assign body g.nx .ready none)) (id:=g.nx+1) hd hr hq hcs hw hel
  (fun j h=>J j h/\h.get g.nx=.dfr true/\h.get (g.nx+1)=.loop nt t [p] assign body g.nx .ready none)
  (fun g'=>E g'.h/\g'.h.get g.nx=.dfr true/\g'.h.get (g.nx+1)=.loop nt t [p] assign body g.nx .done (some .ret)/\g.nx+2<=g'.nx) ?_ ?_ ?_ ?_ ?_ ?_
 ·rintro j h h' hh ⟨a1,a2,a3⟩
  rw[e1] at hh
  exact ⟨hJ j h h' (fun i hi=>hh i (by omega)) a1,by rw[hh _ (by omega),a2],by rw[hh _ (by omega),a3]⟩
 ·rintro j h hj hm ⟨a1,a2,a3⟩
  exact ⟨skip j h hj hm a1,a2,a3⟩
 ·rintro j u g1 K' D hj hm hn ⟨a1,a2,a3⟩ hsl kk kE
  rw[e1] at hn kk hsl
  refine ya a3 ha hb (t':=fL t p (.agg [.int .i64 (j:Int),.int .i64 (S.aZ n (S.an (S.aa n) j)),u])) ?_ ?_
  ·simp only[cA,aa,Nat.blt_eq,if_pos hp];rfl
  ·refine f_ _ (step j u g1 hj hm a1 (by omega) hsl) ?_
   rintro e t1 df g1' ⟨rfl,rfl,hfr,h⟩
   have hl0:g.nx+1<g1.nx:=by omega
   have hl:g.nx+1<g1'.nx:=Nat.lt_of_lt_of_le hl0 hfr.1
   have a2':g1'.h.get g.nx=.dfr true:=by rw[hfr.2 _ (by omega),a2]
   have a3':g1'.h.get (g.nx+1)=.loop nt t [p] assign body g.nx .ready none:=by rw[hfr.2 _ hl0,a3]
   refine ⟨rfl,rfl,a3',?_⟩
   refine f_ _ (h (g1'.put (g.nx+1) (.loop nt t [p] assign body g.nx .busy none)) (by simp) (fun i hi=>by simp[H.get_put,hi])) ?_
   rintro e t2 df g3 ⟨rfl,⟨b2,b3,b1⟩⟩
   have b4:g3.h.get (g.nx+1)=.loop nt t [p] assign body g.nx .busy none:=by rw[b3 _ (by omega) (by simpa using hl)];simp[H.get_put]
   have b5:g3.h.get g.nx=.dfr true:=by
    rw[b3 _ (by omega) (by simp;omega)];simp[H.get_put,a2']
   refine ⟨rfl,b4,?_⟩
   have b2':g1'.nx<=g3.nx:=by simpa using b2
   have hf1:=hfr.1
   rcases b1 with ⟨rfl,b1⟩ | ⟨rfl,b1⟩
   ·refine .inl ⟨rfl,kk _ ⟨hJ _ g3.h _ (fun i hi=>by simp[H.get_put,show ¬i=g.nx+1 by omega]) b1,?_,?_⟩ (by simp;omega) fun i h1 h2=>?_⟩
    ·simp[H.get_put,b5]
    ·simp[H.get_put]
    ·have hne:¬i=g.nx+1:=by omega
     have:=b3 i (by omega) (by simp;omega)
     simp[H.get_put,hne] at this ⊢
     rw[this,hfr.2 i h2]
   ·refine .inr ⟨rfl,kE _ ⟨hE g3.h _ (fun i hi=>by simp[H.get_put,show ¬i=g.nx+1 by omega]) b1,?_,?_,?_⟩⟩
    ·simp[H.get_put,b5]
    ·simp[H.get_put]
    ·simp;omega
 ·refine ⟨hJ 0 g.h _ (fun i hi=>?_) h0,?_,?_⟩
  ·simp[H.get_put,show ¬i=g.nx+1 by omega,show ¬i=g.nx by omega]
  ·simp[H.get_put]
  ·simp[H.get_put]
 ·rintro g' ⟨a1,a2,a3⟩ hn
  rw[e1] at hn
  refine ⟨_,_,_,_,_,_,.inl ⟨a3,fin _ (hJ _ g'.h _ (fun i hi=>by simp[H.get_put,show ¬i=g.nx+1 by omega]) a1) (by simpa using hn) ?_⟩⟩
  simp[H.get_put,a2]
 ·rintro g' ⟨a1,a2,a3,hn⟩
  refine ⟨_,_,_,_,_,_,.inr ⟨a3,finE _ (hE g'.h _ (fun i hi=>by simp[H.get_put,show ¬i=g.nx+1 by omega]) a1) (by simpa using hn) ?_⟩⟩
  simp[H.get_put,a2]
def S.pe (n:Net)(e:List Int)(w:Nat):Bool:=S.bL (S.an (S.aa n) (w:Int)) e
theorem w7 {n:Net}(h:NR n){p:Nat->Bool}{j:Nat}(hj:j<=1024):0<=S.aN n p j/\S.aN n p j<=171992678400000000:=by
 have:=pG h p j
 omega
theorem CJ (g:G)(o o':AObj):Fr g ((g.new o).put g.nx o'):=⟨by simp,fun i hi=>by simp[H.get_put,show ¬i=g.nx by omega]⟩
def Dw (pm:List Nat)(ws:List (Bool×Bool)):Bool:=(List.range ws.length).all fun j=>(List.range j).all fun i=>!(ws.getD i (false,false)).2 || !(ws.getD j (false,false)).1 || (pm.getD j 0).testBit i
theorem np {pm:List Nat}{i:Nat}{x:Foot}:∀{r:List Foot} {j:Nat},(∀b y,r[b]?=some y->y.wr=[]\/(pm.getD (j+b) 0).testBit i=true)->br pm i x j r=0
 | [],_,_=>rfl
 | y::r,j,h=>by
  have h0:=h 0 y rfl
  have ih:br pm i x (Nat.succ j) r=0:=np fun b z hz=>by
   have:=h (b+1) z (by simpa using hz)
   rwa [show j+(b+1)=Nat.succ j+b by omega] at this
  have hc:((pm.getD j 0).testBit i || !meets y.wr (fst1 x.lk.sr))=true:=by
   rcases h0 with h0 | h0
   ·rw[h0];simp[meets]
   ·rw[Nat.add_zero] at h0;rw[h0,Bool.true_or]
  rw[br,aa,if_pos hc,ih]
theorem qK {pm:List Nat}:∀{l:List Foot} {i:Nat},(∀a x,l[a]?=some x->x.lk.sr=[]\/∀b y,a<b->l[b]?=some y->y.wr=[]\/(pm.getD (i+b) 0).testBit (i+a)=true)->fC pm i l=true
 | [],_,_=>rfl
 | x::r,i,h=>by
  have ih:fC pm (Nat.succ i) r=true:=qK fun a y hy=>by
   rcases h (a+1) y (by simpa using hy) with h' | h'
   ·exact .inl h'
   ·refine .inr fun b z hb hz=>?_
    have:=h' (b+1) z (by omega) (by simpa using hz)
    rwa [show i+(b+1)=Nat.succ i+b by omega,show i+(a+1)=Nat.succ i+a by omega] at this
  rw[fC,ih]
  rcases h 0 x rfl with h' | h'
  ·rw[h'];first | done | rfl
  ·have hc:br pm i x (Nat.succ i) r=0:=np fun b y hy=>by
    have:=h' (b+1) y (by omega) (by simpa using hy)
    rwa [show i+(b+1)=Nat.succ i+b by omega,Nat.add_zero] at this
   rw[hc]
   cases x.lk.sr<;>rfl
theorem nG {pm:List Nat}{fs:List Foot}(ws:List (Bool×Bool))(L:List (Nat×Nat))(hw:All2 (fun (f:Foot) (w:Bool×Bool)=>(w.2=false->f.lk.sr=[])/\(w.1=false->f.wr=[])) fs ws)(hs:Dw pm ws=true)(hd:xa pm (ws.map (·.1)) L=true)
  (hL:∀p∈L,∀x y,fs[p.1]?=some x->fs[p.2]?=some y->bA x y=true):f8 pm fs=true:=by
 unfold f8
 rw[aa,if_pos]
 ·refine qK fun a x ha=>?_
  obtain ⟨wa,hwa,ka⟩:=hw.get ha
  cases e:wa.2 with
  | false=>exact .inl (ka.1 e)
  | true =>
   refine .inr fun b y hab hb=>?_
   obtain ⟨wb,hwb,kb⟩:=hw.get hb
   have hbl:=(List.getElem?_eq_some_iff.1 hwb).1
   have:=List.all_eq_true.1 (List.all_eq_true.1 hs b (List.mem_range.2 hbl)) a (List.mem_range.2 hab)
   simp only[List.getD_eq_getElem?_getD,hwa,hwb,Option.getD_some,e,Bool.not_true,Bool.false_or,Bool.or_eq_true,Bool.not_eq_true'] at this
   rcases this with h | h
   ·exact .inl (kb.2 h)
   ·refine .inr ?_
    rw[Nat.zero_add,Nat.zero_add,List.getD_eq_getElem?_getD];exact h
 ·refine jV fun a b x y hab ha hb=>?_
  simp only[Nat.zero_add]
  obtain ⟨wa,hwa,ka⟩:=hw.get ha
  obtain ⟨wb,hwb,kb⟩:=hw.get hb
  have hbl:=(List.getElem?_eq_some_iff.1 hwb).1
  have:=List.all_eq_true.1 (List.all_eq_true.1 hd b (List.mem_range.2 (by simpa using hbl))) a (List.mem_range.2 hab)
  simp only[uT,Bool.or_eq_true] at this
  rcases this with (h | h) | h
  ·rw[h,Bool.true_or]
  ·simp only[List.getD_eq_getElem?_getD,List.getElem?_map,hwa,hwb,Option.map_some,Option.getD_some,Bool.and_eq_true,Bool.not_eq_true'] at h
   have ex:=ka.2 h.1
   have ey:=kb.2 h.2
   simp only[bA,fI,d5,ex,ey,Bool.and_self,Bool.or_true]
  ·rw[hL (a,b) (List.contains_iff_mem.1 h) x y ha hb,Bool.or_true]
section
variable {α:Type} [DecidableEq α]
def mgt (L:List (α×Int))(k:α):Int:=match L with
 | []=>0
 | (a,v)::r=>if k=a then v else mgt r k
def mst (k:α)(v:Int):List (α×Int)->List (α×Int)
 | []=>[(k,v)]
 | (a,w)::r=>if k=a then (k,v)::r else (a,w)::mst k v r
theorem wH (k j:α)(v:Int):∀L:List (α×Int),mgt (mst k v L) j=if j=k then v else mgt L j
 | []=>by simp only[mst,mgt]
 | (a,w)::r=>by
  rw[mst]
  by_cases e:k=a
  ·subst e
   rw[if_pos rfl,mgt,mgt]
   by_cases e2:j=k
   ·rw[if_pos e2,if_pos e2]
   ·rw[if_neg e2,if_neg e2,if_neg e2]
  ·rw[if_neg e,mgt,wH k j v r,mgt]
   by_cases e2:j=a
   ·rw[if_pos e2,if_pos e2,if_neg (fun h=>e (by rw[<-h,e2]))]
   ·rw[if_neg e2,if_neg e2]
def mcl (kf:α->AV)(L:List (α×Int)):List (AV×AV):=L.map fun p=>(kf p.1,.int .i64 p.2)
theorem xH {kf:α->AV}(hk:∀a b,eT (kf a) (kf b)=some (decide (a=b)))(k:α):∀L:List (α×Int),fW (kf k) (mcl kf L)=some (if L.any (fun p=>decide (k=p.1)) then some (.int .i64 (mgt L k)) else none)
 | []=>rfl
 | (a,w)::r=>by
  rw[mcl,List.map_cons,fW,hk]
  by_cases e:k=a
  ·subst e;simp[mgt]
  ·have ih:=xH hk k r
   rw[mcl] at ih
   simp only[decide_eq_false e]
   rw[ih,List.any_cons,mgt,if_neg e,decide_eq_false e,Bool.false_or]
theorem tz (k:α):∀L:List (α×Int),L.any (fun p=>decide (k=p.1))=false->mgt L k=0
 | [],_=>rfl
 | (a,w)::r,h=>by
  rw[List.any_cons,Bool.or_eq_false_iff] at h
  rw[mgt,if_neg (of_decide_eq_false h.1),tz k r h.2]
theorem zc {kf:α->AV}(hk:∀a b,eT (kf a) (kf b)=some (decide (a=b)))(k:α)(x:Int):∀L:List (α×Int),sW (kf k) (.int .i64 x) (mcl kf L)=some (mcl kf (mst k x L))
 | []=>rfl
 | (a,w)::r=>by
  rw[mcl,List.map_cons,sW,hk,mst]
  by_cases e:k=a
  ·subst e;simp[mcl]
  ·have ih:=zc hk k x r
   rw[mcl] at ih
   simp only[decide_eq_false e,if_neg e,ih]
   rfl
theorem Aq {kf:α->AV}(hk:∀a b,eT (kf a) (kf b)=some (decide (a=b))){kk:KeyKind}{m k:T->AV}{t:T}{g:G}{id:Nat}{a:α}{L:List (α×Int)}(h1:m t=.hmap id)(h2:k t=kf a)(ho:fT kk (kf a)=true)(hg:g.h.get id=.map (mcl kf L)) :
  bk kk (.int .i64 0) false m k t g=.val (.int .i64 (mgt L a)):=by
 unfold bk
 rw[h1,h2,ho]
 simp only[G.get_eq,hg,xH hk]
 cases h:L.any (fun p=>decide (a=p.1)) with
 | true=>simp
 | false=>simp[tz a L h]
theorem Bd {kf:α->AV}(hk:∀a b,eT (kf a) (kf b)=some (decide (a=b))){kk:KeyKind}{m k x:T->AV}{t:T}{g:G}{id:Nat}{a:α}{v:Int}{L:List (α×Int)}(h1:m t=.hmap id)(h2:k t=kf a)(h3:x t=.int .i64 v)(ho:fT kk (kf a)=true)(hg:g.h.get id=.map (mcl kf L)) :
  bi kk m k x t g=.upd .undef (g.put id (.map (mcl kf (mst a v L)))):=by
 unfold bi
 rw[h1,h2,h3,ho]
 simp only[G.get_eq,hg,zc hk]
end
def ik (a:Int):AV:=.int .i64 a
theorem CX (a b:Int):eT (ik a) (ik b)=some (decide (a=b)):=by
 show some (uR a b)=_
 rw[kT]
theorem AZ (d:Nat)(rd:Option Nat)(t:T)(g:G):(SO.raw (.makeMap tII none)).run C0 d rd t g=.upd (.hmap g.nx) (g.new (.map [])):=by kernel_rfl
theorem vN {d:Nat}{rd:Option Nat}{t:T}{g:G}{a b id:Nat}{k:Int}{L:List (Int×Int)}{op:Op}(hr:(SO.raw op).run C0 d rd t g=bk (.one (.int .i64)) (.int .i64 0) false (fun t=>tat t a) (fun t=>tat t b) t g)(h1:tat t a=.hmap id)(h2:tat t b=.int .i64 k)(hg:g.h.get id=.map (mcl ik L)):(SO.raw op).run C0 d rd t g=.val (.int .i64 (mgt L k)):=by
 rw[hr];exact Aq CX h1 h2 rfl hg
theorem vY {d:Nat}{rd:Option Nat}{t:T}{g:G}{a b c id:Nat}{k x:Int}{L:List (Int×Int)}{op:Op}(hr:(SO.raw op).run C0 d rd t g=bi (.one (.int .i64)) (fun t=>tat t a) (fun t=>tat t b) (fun t=>tat t c) t g)(h1:tat t a=.hmap id)(h2:tat t b=.int .i64 k)(h3:tat t c=.int .i64 x)(hg:g.h.get id=.map (mcl ik L)):(SO.raw op).run C0 d rd t g=.upd .undef (g.put id (.map (mcl ik (mst k x L)))):=by
 rw[hr];exact Bd CX h1 h2 h3 rfl hg
theorem vO {C:Cfg}{ty kt et a b:Nat}{z:AV}{ok:Bool}(hu:C.P.underlying ty=some (.map kt et))(hz:lp C.P et=some z)(d:Nat)(rd:Option Nat)(t:T)(g:G):(SO.raw (.lookup ty (.tmp a) (.tmp b) ok)).run C d rd t g=bk (bL C.P kt) z ok (fun t=>tat t a) (fun t=>tat t b) t g:=by
 obtain ⟨s1,e1,r1⟩:=aL (C:=C) (x:=.tmp a) (o:=.t a) rfl
 obtain ⟨s2,e2,r2⟩:=aL (C:=C) (x:=.tmp b) (o:=.t b) rfl
 show (bE C _).run (I C) d rd t g=_
 rw[aZ (s:=⟨bk (bL C.P kt) z ok s1.run s2.run⟩) rfl (by simp only[bm,e1,e2,hu,hz])]
 rw[show s1.run=fun t=>tat t a from funext r1,show s2.run=fun t=>tat t b from funext r2]
theorem uO {C:Cfg}{ty kt et a b c:Nat}(hu:C.P.underlying ty=some (.map kt et))(d:Nat)(rd:Option Nat)(t:T)(g:G):(SO.raw (.mapUpdate ty (.tmp a) (.tmp b) (.tmp c))).run C d rd t g=bi (bL C.P kt) (fun t=>tat t a) (fun t=>tat t b) (fun t=>tat t c) t g:=by
 obtain ⟨s1,e1,r1⟩:=aL (C:=C) (x:=.tmp a) (o:=.t a) rfl
 obtain ⟨s2,e2,r2⟩:=aL (C:=C) (x:=.tmp b) (o:=.t b) rfl
 obtain ⟨s3,e3,r3⟩:=aL (C:=C) (x:=.tmp c) (o:=.t c) rfl
 show (bE C _).run (I C) d rd t g=_
 rw[aZ (s:=⟨bi (bL C.P kt) s1.run s2.run s3.run⟩) rfl (by simp only[bm,e1,e2,e3,hu])]
 rw[show s1.run=fun t=>tat t a from funext r1,show s2.run=fun t=>tat t b from funext r2,show s3.run=fun t=>tat t c from funext r3]
theorem qt {C:Cfg}{ty a b:Nat}(t:T)(g:G):SO.foot C t g (.raw (.lookup ty (.tmp a) (.tmp b) false))=⟨[],(ae (tat t a)).map (·,ty),[],false⟩:=by
 obtain ⟨s1,e1,r1⟩:=aL (C:=C) (x:=.tmp a) (o:=.t a) rfl
 show (aA C _).run t g=_
 simp only[aA,e1,r1]
 rfl
theorem xQ {C:Cfg}{ty a b c:Nat}(t:T)(g:G):SO.foot C t g (.raw (.mapUpdate ty (.tmp a) (.tmp b) (.tmp c)))=an (ae (tat t a)):=by
 obtain ⟨s1,e1,r1⟩:=aL (C:=C) (x:=.tmp a) (o:=.t a) rfl
 show (aA C _).run t g=_
 simp only[aA,e1,r1]
 rfl
theorem zM:bL C0.P 3=.one (.int .i64):=by kernel_rfl
theorem AB:C0.P.underlying tII=some (.map 3 3):=by kernel_rfl
theorem Ef:lp C0.P 3=some (.int .i64 0):=by kernel_rfl
theorem wR {d:Nat}{rd:Option Nat}{t:T}{g:G}{a b id:Nat}{k:Int}{L:List (Int×Int)}(h1:tat t a=.hmap id)(h2:tat t b=.int .i64 k)(hg:g.h.get id=.map (mcl ik L)):(SO.raw (.lookup tII (.tmp a) (.tmp b) false)).run C0 d rd t g=.val (.int .i64 (mgt L k)) :=
 vN (by rw[vO AB Ef,zM]) h1 h2 hg
theorem De {d:Nat}{rd:Option Nat}{t:T}{g:G}{a b c id:Nat}{k x:Int}{L:List (Int×Int)}(h1:tat t a=.hmap id)(h2:tat t b=.int .i64 k)(h3:tat t c=.int .i64 x)(hg:g.h.get id=.map (mcl ik L)):(SO.raw (.mapUpdate tII (.tmp a) (.tmp b) (.tmp c))).run C0 d rd t g=.upd .undef (g.put id (.map (mcl ik (mst k x L)))) :=
 vY (by rw[uO AB,zM]) h1 h2 h3 hg
end
end Hx
end
section
namespace Hx
open Go
noncomputable section
def S.aV (s j:Nat):List Int:=((List.range j).filter fun v=>s.testBit v).map fun v:Nat=>(v:Int)
theorem o_ (s j:Nat):S.aV s (j+1)=S.aV s j++if s.testBit j then [(j:Int)] else []:=by
 rw[S.aV,List.range_succ,List.filter_append,List.map_append]
 congr 1
 cases hb:s.testBit j<;>simp[List.filter,hb]
theorem AH {s j:Nat}:∀y∈S.aV s j,0<=y/\y<j:=fun y hy=>by
 obtain ⟨v,hv,rfl⟩:=List.mem_map.1 hy
 have:=List.mem_range.1 (List.mem_filter.1 hv).1
 omega
def S.aD (n:Net)(vals:List Int)(s j:Nat):Int:=S.ah (S.ae (S.aa n) (S.aV s j)) (S.ae vals (S.aV s j))
theorem yz {n:Net}{vals:List Int}{s j:Nat}:S.aD n vals s (j+1)=if s.testBit j then S.aD n vals s j*((S.aa n)[j]?.getD 0)+vals[j]?.getD 0 else S.aD n vals s j:=by
 rw[S.aD,o_,bH,bH,ks _ _ (by simp[gK])]
 cases s.testBit j with
 | true=>simp[S.ae,S.ah,S.af,S.aD]
 | false=>simp[S.ae,S.ah,S.af,S.aD]
theorem rg (s:Nat):∀j,(S.aV s j).length<=j
 | 0=>by simp[S.aV]
 | j+1=>by
  have:=rg s j
  rw[o_,List.length_append]
  split<;>simp<;>omega
theorem oU {n:Net}(h:NR n){vals:List Int}(hv:InC (S.aa n) vals){s j:Nat}(hj:j<=n.nodes.length):0<=S.aD n vals s j/\S.aD n vals s j<65536:=by
 have hin:∀p∈S.aV s j,0<=p/\p<(S.aa n).length:=fun p hp=>by have:=AH p hp;rw[aS];omega
 have h1:=dw (aY h.cs hin) (fg hv hin)
 have h2:=cE (l:=S.ae (S.aa n) (S.aV s j)) (aY h.cs hin)
 have h3:=fe (a:=(S.ae (S.aa n) (S.aV s j)).length) (b:=8) (by rw[gK];have:=rg s j;have:=h.l2;omega)
 have h4:(4:Int) ^ 8=65536:=by decide
 unfold S.aD
 omega
theorem D8 {s v:Nat}:decide (((s / 2 ^ v &&& 1:Nat):Int)=1)=s.testBit v:=by
 rw[Nat.and_one_is_mod,Nat.testBit_eq_decide_div_mod_eq]
 rw[Bool.eq_iff_iff,decide_eq_true_iff,decide_eq_true_iff]
 omega
theorem rn {d kk s:Nat}{P:Nat->Prop}{g:G}{v w:AV}{n:Net}{y:QnM}{vals:List Int}(hd:0<d)(hr:NR n)(hm:Agg y NoP 0 g.h v)(hq:QnOk n y)(hv:SlR P kk g.h vals w)(hc:InC (S.aa n) vals)(hs:s<18446744073709551616) :
  aO C0 d N.ah [v,w,.int .u64 (s:Int)] g=.val (.int .i64 (S.aD n vals s n.nodes.length)):=by
 have e0:=gZ d hm
 obtain ⟨cs,rfl,hcs⟩:=hm
 obtain ⟨b,fl,S_,rfl,hN,hfl,hS⟩:=mu.1 hcs
 have hN:SlR NoP 0 .nil y.1.nodes b:=hN.tree (Nat.le_refl 0)
 rw[hq.net] at hN
 obtain ⟨w',e2,hw'⟩:=jG hv d
 have hgr:y.1.grain=n.grain:=by rw[hq.net]
 obtain ⟨rows,r1,r2,r3,r4⟩:=hN.all
 have r1:∀h',ax h' 3 b=some rows:=r1
 have rv:=fun h=>(hw' h).ints
 have lv:∀g:G,gM .slice w' g=.val (.int .i64 (vals.length:Int)):=fun g=>by rw[kr (rv g.h),List.length_map]
 have hvl:=hc.len
 rw[aS] at hvl
 have hl8:=hr.l2
 rw[gE]
 refine sw ig (xs:=[.agg [.int .i64 y.1.grain,b,fl,S_],w',.int .u64 (s:Int)]) (by simp only[aD,e0,e2,ji]) (by simp[cd]) hd ?_
 rw[hgr]
 simp only[sz,simprocAttr,cd,dy,lv]
 simp only[cV,dc]
 refine a7 (m:=n.nodes.length) (by omega) (fun k t df g=>df=[]/\St t [(2,.int .u64 (s:Int)),(3,.hptr 0 0 0 0),(10,w'),(7,.int .i64 (S.aD n vals s k))]/\g.h.get 0=.cells 4 [[.int .i64 n.grain,b,fl,S_]] 0 false false) ⟨rfl,by simp[St,sx,S.aD,S.aV,S.ae,S.ah],by simp[sx]⟩ (by simp[sx]) (by simp[sx,hvl]) (by decide)
  (by rintro j t df g v s' (rfl | rfl | rfl) ⟨a1,⟨b1,b2,b3,b4,-⟩,c1⟩<;>exact ⟨a1,by simp[St,sx,b1,b2,b3,b4],c1⟩) ?_ ?_
 ·rintro k t df g hk ⟨rfl,⟨h2,h3,h10,h7,-⟩,g0⟩ h12 h11
  obtain ⟨x,hx,-,-⟩:=aG hk
  obtain ⟨row,q1,q2⟩:=r3 k x hx
  obtain ⟨fa,fb,rfl,-⟩:=eR.1 q2
  have hlt:k<rows.length:=by omega
  have hry:=r4 (by omega)
  have u1:k<(vals.map ci).length:=by simp;omega
  have u2:(vals.map ci)[k]?=some (ci (vals[k]?.getD 0)):=by rw[List.getElem?_map,List.getElem?_eq_getElem (by omega)];rfl
  have h2n:s / 2 ^ k<18446744073709551616:=Nat.lt_of_le_of_lt (Nat.div_le_self _ _) hs
  have ha:cD .and (.int .u64 ((s / 2 ^ k:Nat):Int)) (.int .u64 1)=.val (.int .u64 ((s / 2 ^ k &&& 1:Nat):Int)):=kC (s / 2 ^ k) 1 h2n (by decide)
  have hn:=yz (n:=n) (vals:=vals) (s:=s) (j:=k)
  have hcx:(S.aa n)[k]?.getD 0=x.card:=by simp[S.aa,hx]
  rw[hcx] at hn
  have hb0:=oU hr hc (s:=s) (j:=k) (by omega)
  have hb1:=oU hr hc (s:=s) (j:=k+1) (by omega)
  have hcard:=hr.card x (List.mem_of_getElem? hx)
  simp only[sz,simprocAttr,h2,h10,h12,rv,u1,u2,ci,mh _ _ _ hs,ha,D8]
  cases hbt:s.testBit k with
  | true =>
   rw[hbt,if_pos rfl] at hn
   have hp:0<=S.aD n vals s k*x.card/\S.aD n vals s k*x.card<=65536*4:=⟨Int.mul_nonneg hb0.1 (by omega),Int.mul_le_mul (by omega) hcard.2 (by omega) (by omega)⟩
   have w1:IntKind.wrap .i64 (S.aD n vals s k*x.card)=S.aD n vals s k*x.card:=bc (by omega) (by omega)
   have w2:IntKind.wrap .i64 (S.aD n vals s k*x.card+vals[k]?.getD 0)=S.aD n vals s (k+1):=by rw[<-hn,bc (by omega) (by omega)]
   simp only[sz,simprocAttr,h3,h7,g0,r1,hlt,q1,hry,w1,w2]
   exact ⟨by simp[St,sx,h2,h3,h10],h12,h11⟩
  | false =>
   rw[hbt,if_neg (by simp)] at hn
   simp only[sx,sy,↓reduceIte,Nat.reduceEqDiff]
   exact ⟨⟨by simp[St,sx,h2,h3,h10,h7,hn],g0⟩,h12,h11⟩
 ·rintro t df g ⟨rfl,⟨h2,h3,h10,h7,-⟩,g0⟩
  simp only[sz,simprocAttr,da,h7]
def S.aX (n:Net)(s:Nat)(w:Nat):Int:=S.aD n (S.an (S.aa n) (w:Int)) s n.nodes.length
def S.aJ (n:Net)(s:Nat)(K:Int)(j:Nat):Int:=S.aN n (fun u=>decide (S.aX n s u=K)) j
def S.aW (n:Net)(s w:Nat):Int:=S.aJ n s (S.aX n s w) (S.ap n)
theorem sZ {n:Net}(h:NR n)(s w:Nat):0<=S.aW n s w/\S.aW n s w<=171992678400000000:=w7 h h.wl.2.1
def S.ax (x:Nat):Nat:=x % 18446744073709551616
def S.aI (x y:Nat):Nat×Nat :=
 let x0:=x % 4294967296
 let x1:=x / 4294967296
 let y0:=y % 4294967296
 let y1:=y / 4294967296
 let w0:=S.ax (x0*y0)
 let t:=S.ax (S.ax (x1*y0)+w0 / 4294967296)
 let w1:=S.ax (t % 4294967296+S.ax (x0*y1))
 let w2:=t / 4294967296
 (S.ax (S.ax (S.ax (x1*y1)+w2)+w1 / 4294967296),S.ax (x*y))
theorem px (x:Nat):S.ax x<18446744073709551616:=Nat.mod_lt _ (by decide)
theorem oy (a b:Nat):cD .mul (.int .u64 (a:Int)) (.int .u64 (b:Int))=.val (.int .u64 (S.ax (a*b):Int)):=by
 rw[rP]
 congr 2
theorem sS (a b:Nat):cD .add (.int .u64 (a:Int)) (.int .u64 (b:Int))=.val (.int .u64 (S.ax (a+b):Int)):=by
 rw[sM]
 congr 2
theorem oO (m:Nat)(h:m<18446744073709551616):cD .and (.int .u64 (m:Int)) (.int .u64 4294967295)=.val (.int .u64 ((m % 4294967296:Nat):Int)):=by
 have:=kC m 4294967295 h (by decide)
 have e:m &&& 4294967295=m % 4294967296:=Nat.and_two_pow_sub_one_eq_mod m 32
 rw[e] at this
 exact this
theorem pD (m:Nat)(h:m<18446744073709551616):cD .shr (.int .u64 (m:Int)) (.int .u64 32)=.val (.int .u64 ((m / 4294967296:Nat):Int)):=mh .u64 m 32 h
theorem q9 {d:Nat}{g:G}{x y:Nat}(hd:0<d)(hx:x<18446744073709551616)(hy:y<18446744073709551616) :
  aO C0 d N.af [.int .u64 (x:Int),.int .u64 (y:Int)] g=.val (.tup [.int .u64 ((S.aI x y).1:Int),.int .u64 ((S.aI x y).2:Int)]):=by
 have key:∃r,aO C0 d N.af [.int .u64 (x:Int),.int .u64 (y:Int)] g=.val r/\rK (One (S.aI x y).1) (One (S.aI x y).2) NoP 0 .nil r:=by
  rw[kU]
  refine fy mM (xs:=[.int .u64 (x:Int),.int .u64 (y:Int)]) rfl (by simp[eZ]) (gN (m:=1) (dt _) (dt _) (by decide) (by decide)) (by decide) hd ?_
  have nx:=oO x hx
  have ny:=oO y hy
  have sx':=pD x hx
  have sy':=pD y hy
  have m5:=oy x y
  unfold S.aI
  simp only
  generalize x % 4294967296=x0 at *
  generalize x / 4294967296=x1 at *
  generalize y % 4294967296=y0 at *
  generalize y / 4294967296=y1 at *
  have m1:=oy x0 y0
  have m2:=oy x1 y0
  have m3:=oy x0 y1
  have m4:=oy x1 y1
  have s1:=pD (S.ax (x0*y0)) (px _)
  have a1:=sS (S.ax (x1*y0)) (S.ax (x0*y0) / 4294967296)
  generalize S.ax (x0*y0) / 4294967296=w0 at *
  have ht:=px (S.ax (x1*y0)+w0)
  generalize S.ax (S.ax (x1*y0)+w0)=tt at *
  have n1:=oO tt ht
  have s2:=pD tt ht
  have a2:=sS (tt % 4294967296) (S.ax (x0*y1))
  have a3:=sS (S.ax (x1*y1)) (tt / 4294967296)
  have hw:=px (tt % 4294967296+S.ax (x0*y1))
  generalize S.ax (tt % 4294967296+S.ax (x0*y1))=w1 at *
  have s3:=pD w1 hw
  have a4:=sS (S.ax (S.ax (x1*y1)+tt / 4294967296)) (w1 / 4294967296)
  simp only[eZ,sx,SO.run,↓reduceIte,Nat.reduceEqDiff,nx,ny,sx',sy',m1,m2,m3,m4,m5,s1,s2,s3,n1,a1,a2,a3,a4,i_]
  exact ⟨NoP,_,_,rfl,lQ.2 ⟨rfl,px _⟩,lQ.2 ⟨rfl,px _⟩⟩
 obtain ⟨r,hr,a,c,rfl,ha,hc⟩:=key
 have ha:=lQ.1 ha
 have hc:=lQ.1 hc
 rw[hr]
 rw[List.cons.inj ha.1 |>.1,List.cons.inj hc.1 |>.1]
def S.aw (xs ys zs:Nat):List Nat:=[xs ||| ys ||| zs,zs,xs ||| zs,ys ||| zs]
def S.ay (n:Net)(xs ys zs k w:Nat):Nat:=(S.aW n ((S.aw xs ys zs)[k]?.getD 0) w).toNat
def S.aS (n:Net)(xs ys zs w:Nat):Bool:=!decide (S.aI (S.ay n xs ys zs 0 w) (S.ay n xs ys zs 1 w)=S.aI (S.ay n xs ys zs 2 w) (S.ay n xs ys zs 3 w))
def S.a7 (n:Net)(xs ys zs:Nat):Bool:=(List.range (S.ap n)).any (S.aS n xs ys zs)
theorem wC {xs ys zs:Nat}(hx:xs<18446744073709551616)(hy:ys<18446744073709551616)(hz:zs<18446744073709551616):∀s∈S.aw xs ys zs,s<18446744073709551616:=by
 have o:=fun {a b:Nat} (ha:a<2 ^ 64) (hb:b<2 ^ 64)=>Nat.or_lt_two_pow ha hb
 intro s hs
 simp only[S.aw,List.mem_cons,List.not_mem_nil,or_false] at hs
 rcases hs with rfl | rfl | rfl | rfl
 ·exact o (o hx hy) hz
 ·exact hz
 ·exact o hx hz
 ·exact o hy hz
theorem vJ {n:Net}{ls:List (List Int)}{P:Nat->Prop}{k:Nat}{h:H}{v:AV}(hv:BP n ls P k h v) :
  ∃y cs,v=.tup [.agg cs,.int .i64 (S.aO n ls)]/\(S.aO n ls=0->QnOk n y)/\Rp.rp P k h y cs/\∃a1 a2 a3 a4,cs=[a1,a2,a3,a4]:=by
 obtain ⟨y,hy,a,c,rfl,⟨cs,rfl,hc⟩,hi⟩:=hv
 have hi:=a9.1 hi
 injection hi with hi
 subst hi
 obtain ⟨a2,a3,a4,rfl,-⟩:=mu.1 hc
 exact ⟨y,_,rfl,hy,hc,_,_,_,_,rfl⟩
structure GvJ (g0:G) (q:Nat) (s:Int) (h:H):Prop where
 fr:∀i,i<g0.nx->i≠q->h.get i=g0.h.get i
 hq:h.get q=.cells 1 [[.int .i64 s]] 0 false false
def S.wt (n:Net)(w:Nat):Int:=S.aZ n (S.an (S.aa n) (w:Int))
structure BeJ (g0:G) (w m b:Int) (h:H):Prop where
 fr:∀i,i<g0.nx->i≠1->i≠5->i≠6->h.get i=g0.h.get i
 h1:h.get 1=.cells 1 [[.int .i64 w]] 0 false false
 h5:h.get 5=.cells 1 [[.int .i64 m]] 0 false false
 h6:h.get 6=.cells 1 [[.int .i64 b]] 0 false false
def S.ba (n:Net)(xs ys zs i w:Nat):Int:=S.aX n ((S.aw xs ys zs)[i]?.getD 0) w
structure DpM (n:Net) (xs ys zs mb j k:Nat) (h:H):Prop where
 hm:∀i,i<4->∃L:List (Int×Int),h.get (mb+i)=.map (mcl ik L)/\∀K,mgt L K=S.aJ n ((S.aw xs ys zs)[i]?.getD 0) K j+if i<k/\S.ba n xs ys zs i j=K then S.wt n j else 0
structure DpK (g0:G) (mb:Nat) (g:G):Prop where
 nx:g0.nx<=g.nx
 fr:∀i,(i<mb\/mb+4<=i)->i<g0.nx->g.h.get i=g0.h.get i
theorem ixm (mb p k:Nat)(h:k<4):eP (.cells 4 [[.hmap mb,.hmap (mb+1),.hmap (mb+2),.hmap (mb+3)]] 0 false false) 0 0 false 1 k=.val (.hmap (mb+k)):=by
 have:k=0\/k=1\/k=2\/k=3:=by omega
 rcases this with rfl | rfl | rfl | rfl<;>rfl
theorem D4 (f:Nat->Int)(k:Nat)(h:k<4):ixV false 4 1 (.agg [.int .u64 (f 0),.int .u64 (f 1),.int .u64 (f 2),.int .u64 (f 3)]) (.int .i64 (k:Int))=.val (.int .u64 (f k)):=by
 have:k=0\/k=1\/k=2\/k=3:=by omega
 rcases this with rfl | rfl | rfl | rfl<;>rfl
def ql (xs ys zs:Nat):AV:=.agg [.int .u64 (((S.aw xs ys zs)[0]?.getD 0:Nat):Int),.int .u64 (((S.aw xs ys zs)[1]?.getD 0:Nat):Int),.int .u64 (((S.aw xs ys zs)[2]?.getD 0:Nat):Int),.int .u64 (((S.aw xs ys zs)[3]?.getD 0:Nat):Int)]
def LDm (xs ys zs p q r:Nat):List (Nat×AV):=[(10,.hptr q 0 0 0),(13,.hptr p 0 0 0),(14,.hptr r 0 0 0),(83,ql xs ys zs)]
set_option maxRecDepth 20000 in
theorem Do {d lo xs ys zs p q r mb j:Nat}{rd:Option Nat}{n:Net}{y:QnM}{b fl S_ u:AV}{Q:QT}{t:T}{g0:G}(hd:0<d)(hr:NR n)(hx:xs<18446744073709551616)(hy:ys<18446744073709551616)(hz:zs<18446744073709551616)(hj:j<1024)
  (hc:Rp.rp NoP 0 .nil y [.int .i64 n.grain,b,fl,S_]) (hq:QnOk n y)
  (hu:SlR (fun i=>lo<=i/\i<g0.nx) 0 g0.h (S.an (S.aa n) (j:Int)) u) (hlo:mb+4<=lo)
  (hp:(p<mb\/mb+4<=p)/\p<g0.nx) (hq':(q<mb\/mb+4<=q)/\q<g0.nx) (hr':(r<mb\/mb+4<=r)/\r<g0.nx)
  (k13:g0.h.get p=.cells 4 [[.hmap mb,.hmap (mb+1),.hmap (mb+2),.hmap (mb+3)]] 0 false false) (k10:g0.h.get q=.cells 4 [[.int .i64 n.grain,b,fl,S_]] 0 false false) (k14:g0.h.get r=.cells 3 [[.int .i64 (j:Int),.int .i64 (S.wt n j),u]] 0 false false)
  (h0:DpM n xs ys zs mb j 0 g0.h) (ht:St t (LDm xs ys zs p q r)) (h84:tat t 84=.int .i64 0)
  (fin:∀t g,DpK g0 mb g->DpM n xs ys zs mb j 4 g.h->Q (.exit 2) t [] g):wpL (wp C0 d rd eo) Q t [] g0:=by
 simp only[eo]
 refine nL (m:=4) rfl (by omega) (fun k t df g=>df=[]/\St t (LDm xs ys zs p q r)/\DpK g0 mb g/\DpM n xs ys zs mb j k g.h) ⟨rfl,ht,⟨Nat.le_refl _,fun _ _ _=>rfl⟩,h0⟩ h84 (by decide) (by rintro i t df g v s (rfl | rfl | rfl)<;>simp[St,LDm,sx]) ?_ ?_
 ·rintro k t df g hk ⟨rfl,⟨h10,h13,h14,h83,-⟩,hK,hM⟩ h84
  obtain ⟨L,l1,l2⟩:=hM.hm k hk
  have ix:=D4 (fun i=>(((S.aw xs ys zs)[i]?.getD 0:Nat):Int)) k hk
  have hds:(S.aw xs ys zs)[k]?.getD 0<18446744073709551616:=by
   obtain ⟨s,hs⟩:∃s,(S.aw xs ys zs)[k]?=some s:=⟨_,List.getElem?_eq_getElem (by simp[S.aw];omega)⟩
   rw[hs];exact wC hx hy hz s (List.mem_of_getElem? hs)
  obtain ⟨sk,hsk⟩:∃sk,sk=(S.aw xs ys zs)[k]?.getD 0:=⟨_,rfl⟩
  rw[<-hsk] at hds
  refine bV (P:=fun t' df g'=>df=[]/\g'=g/\St t' ((15,.int .i64 (k:Int))::(16,.int .u64 (sk:Int))::(84,.int .i64 (k:Int))::LDm xs ys zs p q r)) ?_ ?_
  ·simp only[sz,simprocAttr,h83,h84,ql,ix]
   simp[St,LDm,ql,sx,h10,h13,h14,h83,h84,hsk]
  clear h10 h13 h14 h83 h84
  rintro t df g' ⟨rfl,rfl,h15,h16,h84,h10,h13,h14,h83,-⟩
  have hinC:=lX (fun c hc=>(hr.cs c hc).1) (j:Int)
  obtain ⟨K,hKd⟩:∃K,K=S.ba n xs ys zs k j:=⟨_,rfl⟩
  have hu':SlR (fun _=>True) 0 g'.h (S.an (S.aa n) (j:Int)) u:=hu.wd fun i hi=>⟨trivial,hK.fr i (by omega) hi.2⟩
  have kn:∀g:G,g.h=g'.h->aO C0 d N.ah [.agg [.int .i64 n.grain,b,fl,S_],u,.int .u64 (sk:Int)] g=.val (.int .i64 K):=fun g hgh=>by
   have:=rn (d:=d) (g:=g) (v:=.agg [.int .i64 n.grain,b,fl,S_]) (w:=u) (s:=sk) hd hr ⟨_,rfl,Rp.tree hc (Nat.le_refl 0)⟩ hq (hgh ▸ hu') hinC hds
   rw[this,hKd,S.ba,hsk,S.aX]
  have hb:=w7 hr (p:=fun u=>decide (S.aX n sk u=K)) (j:=j+1) (by omega)
  have hmK:mgt L K=S.aJ n sk K j:=by rw[l2,hsk];simp
  have hs:S.aJ n sk K (j+1)=mgt L K+S.wt n j:=by
   rw[hmK,S.aJ,S.aJ,S.aN,if_pos];· rfl
   ·rw[hKd,S.ba,<-hsk];simp
  have w1:IntKind.wrap .i64 (mgt L K+S.wt n j)=mgt L K+S.wt n j:=by rw[<-hs,bc (by have:=hb.1;unfold S.aJ;omega) (by have:=hb.2;unfold S.aJ;omega)]
  have g13:g'.h.get p=.cells 4 [[.hmap mb,.hmap (mb+1),.hmap (mb+2),.hmap (mb+3)]] 0 false false:=by rw[hK.fr p hp.1 hp.2,k13]
  have g10:g'.h.get q=.cells 4 [[.int .i64 n.grain,b,fl,S_]] 0 false false:=by rw[hK.fr q hq'.1 hq'.2,k10]
  have g14:g'.h.get r=.cells 3 [[.int .i64 (j:Int),.int .i64 (S.wt n j),u]] 0 false false:=by rw[hK.fr r hr'.1 hr'.2,k14]
  have i1:pz 4 1 (.hptr p 0 0 0) (.int .i64 (k:Int))=.val (.hptr p 0 0 k):=by have:=xz 4 1 p 0 0 0 .i64 hk;simpa using this
  have i2:=ixm mb p k hk
  have lk:∀(t:T) (g:G),tat t 90=.hmap (mb+k)->tat t 95=.int .i64 K->g.h.get (mb+k)=.map (mcl ik L)->(bE C0 (.lookup 129 (.tmp 90) (.tmp 95) false)).run (I C0) d rd t g=.val (.int .i64 (mgt L K)):=fun t g a b c=>wR a b c
  have up:∀(t:T) (g:G),tat t 90=.hmap (mb+k)->tat t 95=.int .i64 K->tat t 99=.int .i64 (mgt L K+S.wt n j)->g.h.get (mb+k)=.map (mcl ik L)->(bE C0 (.mapUpdate 129 (.tmp 90) (.tmp 95) (.tmp 99))).run (I C0) d rd t g=.upd .undef (g.put (mb+k) (.map (mcl ik (mst K (mgt L K+S.wt n j) L)))):=fun t g a b c e=>De a b c e
  simp only[sz,simprocAttr,sf,h10,h13,h14,h15,h16,g10,g13,g14,i1,i2,kn,lk,l1,w1,up,qt,xQ,cW]
  have hnx:=hK.nx
  refine ⟨?_,⟨by simp[St,LDm,ql,sx,h10,h13,h14,h83],⟨by simp;omega,fun i h1 h2=>?_⟩,⟨fun i hi=>?_⟩⟩,?_⟩
  ·simp only[List.reverse_cons,List.reverse_nil,List.nil_append,List.cons_append]
   exact nG [(false,false),(false,false),(false,false),(false,false),(false,false),(false,false),(false,false),(false,false),(false,true),(false,false),(false,false),(false,false),(true,false)] [] (by simp[All2,an,aH]) (by decide) (by decide) (by simp)
  ·simp[H.get_put,show ¬i=mb+k by omega];exact hK.fr i h1 h2
  ·by_cases hik:i=k
   ·subst hik
    refine ⟨mst K (mgt L K+S.wt n j) L,by simp[H.get_put],fun K'=>?_⟩
    rw[wH]
    by_cases e:K'=K
    ·rw[if_pos e,e,hmK,hsk,if_pos ⟨by omega,hKd.symm⟩]
    ·rw[if_neg e,l2,if_neg (fun h=>by omega),if_neg (fun h=>e (by rw[<-h.2,hKd]))]
   ·obtain ⟨L',m1,m2⟩:=hM.hm i hi
    refine ⟨L',by simp[H.get_put,hik];exact m1,fun K'=>?_⟩
    rw[m2]
    have:i<k+1↔i<k:=by omega
    simp only[this]
  ·exact h84
 ·rintro t df g ⟨rfl,-,hK,hM⟩
  exact fin t g hK hM
def jv (c:Int->AV)(f:Nat->Int):List AV:=[c (f 0),c (f 1),c (f 2),c (f 3)]
def lV (x:Int):AV:=.int .u64 x
theorem ld4 (c:Int->AV)(f:Nat->Int)(k:Nat)(h:k<4):eP (.cells 4 [jv c f] 0 false false) 0 0 false 1 k=.val (c (f k)):=by
 have:k=0\/k=1\/k=2\/k=3:=by omega
 rcases this with rfl | rfl | rfl | rfl<;>rfl
def S.bK (n:Net)(xs ys zs w i u:Nat):Int:=S.aJ n ((S.aw xs ys zs)[i]?.getD 0) (S.aX n ((S.aw xs ys zs)[i]?.getD 0) w) u
structure DpL (n:Net) (U V:AV) (g:G):Prop where
 u:∃rows,Own g 1 U 1 rows/\All2 (Rp.rp NoP 0 .nil) ((List.range (S.ap n)).map fun w:Nat=>S.an (S.aa n) (w:Int)) rows
 v:Own g 1 V 1 ((List.range (S.ap n)).map fun w:Nat=>[AV.int .i64 (S.aZ n (S.an (S.aa n) (w:Int)))])
theorem vZ {c:Int->AV}{f f':Nat->Int}(h:∀i,i<4->f i=f' i):jv c f=jv c f':=by
 unfold jv
 rw[h 0 (by omega),h 1 (by omega),h 2 (by omega),h 3 (by omega)]
theorem jS {n:Net}(hr:NR n)(xs ys zs k w:Nat):S.bK n xs ys zs w k (S.ap n)=((S.ay n xs ys zs k w:Nat):Int)/\S.ay n xs ys zs k w<18446744073709551616:=by
 have hb:=sZ hr ((S.aw xs ys zs)[k]?.getD 0) w
 have e:S.bK n xs ys zs w k (S.ap n)=S.aW n ((S.aw xs ys zs)[k]?.getD 0) w:=rfl
 rw[e,S.ay]
 omega
def iK (n:Net)(xs ys zs w k:Nat):Nat->Int:=fun i=>if i<k then ((S.ay n xs ys zs i w:Nat):Int) else 0
theorem DY (f:Nat->Int)(k:Nat)(x:Int)(h:k<4):(if k+1<=(jv lV f).length then some ((jv lV f).take k++AV.int .u64 x::(jv lV f).drop (k+1)) else none)=some (jv lV fun i=>if i=k then x else f i):=by
 have:k=0\/k=1\/k=2\/k=3:=by omega
 rcases this with rfl | rfl | rfl | rfl<;>rfl
def LDn (xs ys zs p q r v:Nat):List (Nat×AV):=[(10,.hptr q 0 0 0),(13,.hptr p 0 0 0),(17,.hptr r 0 0 0),(18,.hptr v 0 0 0),(104,ql xs ys zs),(8,.hptr 1 0 0 0),(9,.hptr 2 0 0 0)]
set_option maxRecDepth 20000 in
theorem DU {d lo xs ys zs p q r v mb w:Nat}{rd:Option Nat}{n:Net}{y:QnM}{b fl S_ u:AV}{Q:QT}{t:T}{g0:G}(hd:0<d)(hr:NR n)(hx:xs<18446744073709551616)(hy:ys<18446744073709551616)(hz:zs<18446744073709551616)
  (hc:Rp.rp NoP 0 .nil y [.int .i64 n.grain,b,fl,S_]) (hq:QnOk n y)
  (hu:SlR (fun i=>lo<=i/\i<v) 0 g0.h (S.an (S.aa n) (w:Int)) u)
  (hp:p<v) (hq':q<v) (hr':r<v) (hm':mb+4<=v) (hv:v<g0.nx)
  (k13:g0.h.get p=.cells 4 [[.hmap mb,.hmap (mb+1),.hmap (mb+2),.hmap (mb+3)]] 0 false false) (k10:g0.h.get q=.cells 4 [[.int .i64 n.grain,b,fl,S_]] 0 false false) (k17:g0.h.get r=.cells 3 [[.int .i64 (w:Int),.int .i64 (S.wt n w),u]] 0 false false)
  (h0:DpM n xs ys zs mb (S.ap n) 0 g0.h) (k18:g0.h.get v=.cells 4 [jv lV (iK n xs ys zs w 0)] 0 false false) (ht:St t (LDn xs ys zs p q r v)) (h105:tat t 105=.int .i64 0)
  (fin:∀t g,St t (LDn xs ys zs p q r v)->g0.nx<=g.nx->(∀i,i≠v->i<g0.nx->g.h.get i=g0.h.get i)->g.h.get v=.cells 4 [jv lV (iK n xs ys zs w 4)] 0 false false->Q (.exit 6) t [] g):wpL (wp C0 d rd eQ) Q t [] g0:=by
 simp only[eQ]
 refine nL (m:=4) rfl (by omega) (fun k t df g=>df=[]/\St t (LDn xs ys zs p q r v)/\g0.nx<=g.nx/\(∀i,i≠v->i<g0.nx->g.h.get i=g0.h.get i)/\g.h.get v=.cells 4 [jv lV (iK n xs ys zs w k)] 0 false false) ⟨rfl,ht,Nat.le_refl _,fun _ _ _=>rfl,k18⟩ h105 (by decide) (by rintro i t df g v s (rfl | rfl | rfl)<;>simp[St,LDn,sx]) ?_ ?_
 ·rintro k t df g hk ⟨rfl,⟨h10,h13,h17,h18,h104,h8,h9,-⟩,hnx,hfr,kv⟩ h105
  have ix:=D4 (fun i=>(((S.aw xs ys zs)[i]?.getD 0:Nat):Int)) k hk
  have hds:(S.aw xs ys zs)[k]?.getD 0<18446744073709551616:=by
   obtain ⟨s,hs⟩:∃s,(S.aw xs ys zs)[k]?=some s:=⟨_,List.getElem?_eq_getElem (by simp[S.aw];omega)⟩
   rw[hs];exact wC hx hy hz s (List.mem_of_getElem? hs)
  obtain ⟨L,l1,l2⟩:=h0.hm k hk
  obtain ⟨K,hKd⟩:∃K,K=S.ba n xs ys zs k w:=⟨_,rfl⟩
  obtain ⟨cm,cb⟩:=jS hr xs ys zs k w
  have hmK:mgt L K=((S.ay n xs ys zs k w:Nat):Int):=by rw[l2,<-cm,hKd];simp;rfl
  obtain ⟨sk,hsk⟩:∃sk,sk=(S.aw xs ys zs)[k]?.getD 0:=⟨_,rfl⟩
  rw[<-hsk] at hds
  refine bV (P:=fun t' df g'=>df=[]/\g'=g/\St t' ((19,.int .i64 (k:Int))::(20,.int .u64 (sk:Int))::(105,.int .i64 (k:Int))::LDn xs ys zs p q r v)) ?_ ?_
  ·simp only[sz,simprocAttr,h104,h105,ql,ix]
   simp[St,LDn,ql,sx,h10,h13,h17,h18,h104,h8,h9,h105,hsk]
  clear h10 h13 h17 h18 h104 h105 h8 h9
  rintro t df g' ⟨rfl,rfl,h19,h20,h105,h10,h13,h17,h18,h104,h8,h9,-⟩
  have hinC:=lX (fun c hc=>(hr.cs c hc).1) (w:Int)
  have hu':SlR (fun _=>True) 0 g'.h (S.an (S.aa n) (w:Int)) u:=hu.wd fun i hi=>⟨trivial,hfr i (by omega) (by omega)⟩
  have kn:∀g:G,g.h=g'.h->aO C0 d N.ah [.agg [.int .i64 n.grain,b,fl,S_],u,.int .u64 (sk:Int)] g=.val (.int .i64 K):=fun g hgh=>by
   have:=rn (d:=d) (g:=g) (v:=.agg [.int .i64 n.grain,b,fl,S_]) (w:=u) (s:=sk) hd hr ⟨_,rfl,Rp.tree hc (Nat.le_refl 0)⟩ hq (hgh ▸ hu') hinC hds
   rw[this,hKd,S.ba,hsk,S.aX]
  have g13:g'.h.get p=.cells 4 [[.hmap mb,.hmap (mb+1),.hmap (mb+2),.hmap (mb+3)]] 0 false false:=by rw[hfr p (by omega) (by omega),k13]
  have g10:g'.h.get q=.cells 4 [[.int .i64 n.grain,b,fl,S_]] 0 false false:=by rw[hfr q (by omega) (by omega),k10]
  have g17:g'.h.get r=.cells 3 [[.int .i64 (w:Int),.int .i64 (S.wt n w),u]] 0 false false:=by rw[hfr r (by omega) (by omega),k17]
  have gm:g'.h.get (mb+k)=.map (mcl ik L):=by rw[hfr _ (by omega) (by omega),l1]
  have i1:pz 4 1 (.hptr p 0 0 0) (.int .i64 (k:Int))=.val (.hptr p 0 0 k):=by have:=xz 4 1 p 0 0 0 .i64 hk;simpa using this
  have i3:pz 4 1 (.hptr v 0 0 0) (.int .i64 (k:Int))=.val (.hptr v 0 0 k):=by have:=xz 4 1 v 0 0 0 .i64 hk;simpa using this
  have i2:=ixm mb p k hk
  have w1:IntKind.wrap .u64 (mgt L K)=((S.ay n xs ys zs k w:Nat):Int):=by rw[hmK,we (by omega) (by omega)]
  have lk:∀(t:T) (g:G),tat t 112=.hmap (mb+k)->tat t 117=.int .i64 K->g.h.get (mb+k)=.map (mcl ik L)->(bE C0 (.lookup 129 (.tmp 112) (.tmp 117) false)).run (I C0) d rd t g=.val (.int .i64 (mgt L K)):=fun t g a b c=>wR a b c
  have pt:=DY (iK n xs ys zs w k) k ((S.ay n xs ys zs k w:Nat):Int) hk
  have e:jv lV (iK n xs ys zs w (k+1))=jv lV (fun i=>if i=k then ((S.ay n xs ys zs k w:Nat):Int) else iK n xs ys zs w k i):=vZ fun i _=>by
   unfold iK
   by_cases hi:i=k
   ·subst hi;simp
   ·have:i<k+1↔i<k:=by omega
    simp only[this,if_neg hi]
  simp only[sz,simprocAttr,sf,h10,h13,h17,h18,h19,h20,g10,g13,g17,i1,i2,i3,kn,lk,gm,w1,kv,pt,qt,cW]
  rw[e]
  refine ⟨?_,⟨by simp[St,LDn,ql,sx,h10,h13,h17,h18,h104,h8,h9],by omega,fun i h1 h2=>?_,by simp[H.get_put]⟩,h105⟩
  ·simp only[List.reverse_cons,List.reverse_nil,List.nil_append,List.cons_append]
   exact nG [(false,false),(false,false),(false,false),(false,false),(false,false),(false,false),(false,false),(false,false),(false,false),(false,true),(false,false),(false,false),(true,false)] [] (by simp[All2,an,aH]) (by decide) (by decide) (by simp)
  ·simp[H.get_put,h1];exact hfr i h1 h2
 ·rintro t df g ⟨rfl,ht,hnx,hfr,kv⟩
  exact fin t g ht hnx hfr kv
theorem B9 (v k:Nat)(h:k<4):pz 4 1 (.hptr v 0 0 0) (.int .i64 (k:Int))=.val (.hptr v 0 0 k):=by
 have:=xz 4 1 v 0 0 0 .i64 h;simpa using this
theorem DW {d xs ys zs w v:Nat}{rd:Option Nat}{n:Net}{Q:QT}{t:T}{g:G}(hd:0<d)(hr:NR n)
  (kp:g.h.get v=.cells 4 [jv lV (iK n xs ys zs w 4)] 0 false false) (ht:St t [(18,.hptr v 0 0 0),(8,.hptr 1 0 0 0),(9,.hptr 2 0 0 0)])
  (q1:g.h.get 1=.cells 1 [[.bool false]] 0 false false) (q2:g.h.get 2=.cells 1 [[.int .i64 0]] 0 false false)
  (bad:∀t,S.aS n xs ys zs w=true->Q .ret t [] ((g.put 1 (.cells 1 [[.bool true]] 0 false false)).put 2 (.cells 1 [[.int .i64 0]] 0 false false)))
  (fin:∀t',S.aS n xs ys zs w=false->Q .norm t' [] g):wp C0 d rd eA Q t [] g:=by
 have i0:pz 4 1 (.hptr v 0 0 0) (.int .i64 0)=.val (.hptr v 0 0 0):=B9 v 0 (by omega)
 have i1:pz 4 1 (.hptr v 0 0 0) (.int .i64 1)=.val (.hptr v 0 0 1):=B9 v 1 (by omega)
 have i2:pz 4 1 (.hptr v 0 0 0) (.int .i64 2)=.val (.hptr v 0 0 2):=B9 v 2 (by omega)
 have i3:pz 4 1 (.hptr v 0 0 0) (.int .i64 3)=.val (.hptr v 0 0 3):=B9 v 3 (by omega)
 have l:∀k,k<4->eP (.cells 4 [jv lV (iK n xs ys zs w 4)] 0 false false) 0 0 false 1 k=.val (.int .u64 ((S.ay n xs ys zs k w:Nat):Int)):=fun k hk=>by rw[ld4 lV _ k hk,iK,if_pos hk];rfl
 have l0:=l 0 (by omega)
 have l1:=l 1 (by omega)
 have l2:=l 2 (by omega)
 have l3:=l 3 (by omega)
 obtain ⟨-,b0⟩:=jS hr xs ys zs 0 w
 obtain ⟨-,b1⟩:=jS hr xs ys zs 1 w
 obtain ⟨-,b2⟩:=jS hr xs ys zs 2 w
 obtain ⟨-,b3⟩:=jS hr xs ys zs 3 w
 have hdep:S.aS n xs ys zs w = !decide (S.aI (S.ay n xs ys zs 0 w) (S.ay n xs ys zs 1 w)=S.aI (S.ay n xs ys zs 2 w) (S.ay n xs ys zs 3 w)):=rfl
 clear l
 generalize S.ay n xs ys zs 0 w=m0 at *
 generalize S.ay n xs ys zs 1 w=m1 at *
 generalize S.ay n xs ys zs 2 w=m2 at *
 generalize S.ay n xs ys zs 3 w=m3 at *
 have k1:∀g,aO C0 d N.af [.int .u64 (m0:Int),.int .u64 (m1:Int)] g=.val (.tup [.int .u64 ((S.aI m0 m1).1:Int),.int .u64 ((S.aI m0 m1).2:Int)]):=fun g=>q9 hd b0 b1
 have k2:∀g,aO C0 d N.af [.int .u64 (m2:Int),.int .u64 (m3:Int)] g=.val (.tup [.int .u64 ((S.aI m2 m3).1:Int),.int .u64 ((S.aI m2 m3).2:Int)]):=fun g=>q9 hd b2 b3
 generalize S.aI m0 m1=A at *
 generalize S.aI m2 m3=B at *
 obtain ⟨a1,a2⟩:=A
 obtain ⟨b1',b2'⟩:=B
 unfold eA
 refine bV (P:=fun t' df g'=>df=[]/\g'=g/\St t' [(21,.int .u64 (a1:Int)),(22,.int .u64 (a2:Int)),(18,.hptr v 0 0 0),(8,.hptr 1 0 0 0),(9,.hptr 2 0 0 0)]) ?_ ?_
 ·obtain ⟨h18,h8,h9,-⟩:=ht
  simp only[sz,simprocAttr,h18,kp,i0,i1,l0,l1,k1]
  simp[St,sx,h18,h8,h9]
 clear ht
 rintro t1 df g1 ⟨rfl,rfl,ht⟩
 refine bV (P:=fun t' df g'=>df=[]/\g'=g1/\St t' [(23,.int .u64 (b1':Int)),(24,.int .u64 (b2':Int)),(21,.int .u64 (a1:Int)),(22,.int .u64 (a2:Int)),(8,.hptr 1 0 0 0),(9,.hptr 2 0 0 0)]) ?_ ?_
 ·obtain ⟨h21,h22,h18,h8,h9,-⟩:=ht
  simp only[sz,simprocAttr,h18,kp,i2,i3,l2,l3,k2]
  simp[St,sx,h21,h22,h8,h9]
 clear ht
 rintro t2 df g2 ⟨rfl,rfl,h23,h24,h21,h22,h8,h9,-⟩
 by_cases e1:b1'=a1
 ·by_cases e2:b2'=a2
  ·have hD:S.aS n xs ys zs w=false:=by rw[hdep,e1,e2];simp
   have q1:decide ((a1:Int)=(a1:Int))=true:=by simp
   have q2:decide ((a2:Int)=(a2:Int))=true:=by simp
   rw[e1] at h23
   rw[e2] at h24
   simp only[sz,simprocAttr,h21,h22,h23,h24,q1,q2]
   exact fin _ hD
  ·have hD:S.aS n xs ys zs w=true:=by rw[hdep,decide_eq_false (fun h=>e2 (congrArg Prod.snd h).symm)];rfl
   have q1':decide ((a1:Int)=(a1:Int))=true:=by simp
   have q2':decide ((b2':Int)=(a2:Int))=false:=by simp;omega
   rw[e1] at h23
   simp only[sz,simprocAttr,h21,h22,h23,h24,q1',q2',h8,h9,q1,q2]
   exact bad _ hD
 ·have hD:S.aS n xs ys zs w=true:=by rw[hdep,decide_eq_false (fun h=>e1 (congrArg Prod.fst h).symm)];rfl
  have q1':decide ((b1':Int)=(a1:Int))=false:=by simp;omega
  simp only[sz,simprocAttr,h21,h22,h23,h24,q1',h8,h9,q1,q2]
  exact bad _ hD
theorem DpM.next {n:Net}{xs ys zs mb j:Nat}{h:H}(hM:DpM n xs ys zs mb j 4 h):DpM n xs ys zs mb (j+1) 0 h:=⟨fun i hi=>by
 obtain ⟨L,l1,l2⟩:=hM.hm i hi
 refine ⟨L,l1,fun K=>?_⟩
 rw[l2,S.aJ,S.aJ,S.aN]
 simp only[hi,true_and,Nat.not_lt_zero,false_and,if_false,Int.add_zero,decide_eq_true_eq]
 rfl⟩
theorem DpM.cong {n:Net}{xs ys zs mb j k:Nat}{h h':H}(hM:DpM n xs ys zs mb j k h)(hh:∀i,i<4->h'.get (mb+i)=h.get (mb+i)):DpM n xs ys zs mb j k h':=⟨fun i hi=>by
 obtain ⟨L,l1,l2⟩:=hM.hm i hi
 exact ⟨L,by rw[hh i hi,l1],l2⟩⟩
theorem pu {C:Cfg}{d:Nat}{r:List SR}{t:T}{g:G}{K:AV->G->Prop}{i j:Nat}(hi:g.h.get i=.dfr true)(hj:g.h.get j=.dfr true)(hij:i≠j)(h:m8 r t ((g.put i (.dfr false)).put j (.dfr false)) fun vs=>K (eu vs) ((g.put i (.dfr false)).put j (.dfr false))):pX C d r t [.mark i,.mark j] g K:=by
 unfold pX
 have:cO (I C) d [.mark i,.mark j] g=some ((g.put i (.dfr false)).put j (.dfr false)):=by
  have hj':(g.put i (.dfr false)).h.get j=.dfr true:=by simp[H.get_put,show ¬j=i by omega,hj]
  simp only[cO,G.get_eq,hi,hj']
 rw[this];exact h
def S.bC (l xs ys zs:Nat):Bool:=(!decide ((xs ||| ys ||| zs) / 2 ^ l=0)) || !decide (xs &&& ys=0) || !decide (xs &&& zs=0) || !decide (ys &&& zs=0)
def S.aQ (n:Net)(xs ys zs:Nat):Int:=if S.aF n then (if S.bC n.nodes.length xs ys zs then 2 else 0) else 50
def S.aM (n:Net)(xs ys zs:Nat):Bool:=decide (S.aQ n xs ys zs=0)&&S.a7 n xs ys zs
def LDd (xs ys zs:Nat):List (Nat×AV):=[(1,.int .u64 (xs:Int)),(2,.int .u64 (ys:Int)),(3,.int .u64 (zs:Int)),(8,.hptr 1 0 0 0),(9,.hptr 2 0 0 0),(10,.hptr 3 0 0 0)]
structure DpS (n:Net) (xs ys zs:Nat) (b a3 a4:AV) (g:G):Prop where
 h1:g.h.get 1=.cells 1 [[.bool false]] 0 false false
 h2:g.h.get 2=.cells 1 [[.int .i64 0]] 0 false false
 h3:g.h.get 3=.cells 4 [[.int .i64 n.grain,b,a3,a4]] 0 false false
 h4:g.h.get 4=.cells 4 [[.int .u64 (((S.aw xs ys zs)[0]?.getD 0:Nat):Int),.int .u64 (((S.aw xs ys zs)[1]?.getD 0:Nat):Int),.int .u64 (((S.aw xs ys zs)[2]?.getD 0:Nat):Int),.int .u64 (((S.aw xs ys zs)[3]?.getD 0:Nat):Int)]] 0 false false
 h9:g.h.get 9=.cells 4 [[.hmap 5,.hmap (5+1),.hmap (5+2),.hmap (5+3)]] 0 false false
theorem BB {d xs ys zs l:Nat}{gr:Int}{b a3 a4:AV}{Q:QT}{t:T}{g:G}(hx:xs<18446744073709551616)(hy:ys<18446744073709551616)(hz:zs<18446744073709551616)(hb:∀g,gM .slice b g=.val (.int .i64 (l:Int)))
  (ht:St t (LDd xs ys zs)) (k3:g.h.get 3=.cells 4 [[.int .i64 gr,b,a3,a4]] 0 false false) (k1:g.h.get 1=.cells 1 [[.bool false]] 0 false false) (k2:g.h.get 2=.cells 1 [[.int .i64 0]] 0 false false)
  (bad:∀t,S.bC l xs ys zs=true->tat t 8=.hptr 1 0 0 0->tat t 9=.hptr 2 0 0 0->Q .ret t [] ((g.put 1 (.cells 1 [[.bool false]] 0 false false)).put 2 (.cells 1 [[.int .i64 2]] 0 false false)))
  (fin:∀t,S.bC l xs ys zs=false->St t (LDd xs ys zs)->Q .norm t [] g):wp C0 d none (sQ [oM 33 1,oM 34 2,o 35 (.bin .or (.t 33) (.t 34)),oM 36 3,o 37 (.bin .or (.t 35) (.t 36)),oF 38 0 10,oF 39 1 38,oL 40 39,oN 41 40,o 42 (.bin .shr (.t 37) (.t 41)),o 43 (.bin .neq (.t 42) (.k (.int .u64 0))),oM 44 43,og 45 44 false (.mv (.t 1)),og 46 44 false (.mv (.t 2)),og 47 44 false (.bin .and (.t 45) (.t 46)),og 48 44 false (.bin .neq (.t 47) (.k (.int .u64 0))),o 49 (.pick (.t 44) (.k (.bool true)) (.t 48)),oM 50 49,og 51 50 false (.mv (.t 1)),og 52 50 false (.mv (.t 3)),og 53 50 false (.bin .and (.t 51) (.t 52)),og 54 50 false (.bin .neq (.t 53) (.k (.int .u64 0))),o 55 (.pick (.t 50) (.k (.bool true)) (.t 54)),oM 56 55,og 57 56 false (.mv (.t 2)),og 58 56 false (.mv (.t 3)),og 59 56 false (.bin .and (.t 57) (.t 58)),og 60 56 false (.bin .neq (.t 59) (.k (.int .u64 0))),o 61 (.pick (.t 56) (.k (.bool true)) (.t 60))] (.cond (.t 61) (sQ [oz (.store 1 (.t 8) (.k (.bool false))),oz (.store 1 (.t 9) (qI 2))] (.ret)) (.skip))) Q t [] g:=by
 obtain ⟨h1,h2,h3,h8,h9,h10,-⟩:=ht
 have o1:=jQ xs ys hx hy
 have o2:=jQ (xs ||| ys) zs (pL hx hy) hz
 have s1:=mh .i64 (xs ||| ys ||| zs) l (pL (pL hx hy) hz)
 have a1:=kC xs ys hx hy
 have a2:=kC xs zs hx hz
 have a3':=kC ys zs hy hz
 have hB:S.bC l xs ys zs=((!decide ((xs ||| ys ||| zs) / 2 ^ l=0)) || !decide (xs &&& ys=0) || !decide (xs &&& zs=0) || !decide (ys &&& zs=0)):=rfl
 generalize (xs ||| ys ||| zs) / 2 ^ l=A at *
 generalize xs &&& ys=B at *
 generalize xs &&& zs=C at *
 generalize ys &&& zs=D at *
 have dz:∀m:Nat,decide ((m:Int)=0)=decide (m=0):=fun m=>by rw[Bool.eq_iff_iff];simp
 have d1:=dz A
 have d2:=dz B
 have d3:=dz C
 have d4:=dz D
 by_cases c1:A=0
 ·rw[decide_eq_true c1] at d1 hB
  by_cases c2:B=0
  ·rw[decide_eq_true c2] at d2 hB
   by_cases c3:C=0
   ·rw[decide_eq_true c3] at d3 hB
    by_cases c4:D=0
    ·rw[decide_eq_true c4] at d4 hB
     simp only[sz,simprocAttr,h1,h2,h3,h8,h9,h10,k3,hb,o1,o2,s1,a1,a2,a3',d1,d2,d3,d4]
     exact fin _ hB (by simp[St,LDd,sx,h1,h2,h3,h8,h9,h10])
    ·rw[decide_eq_false c4] at d4 hB
     simp only[sz,simprocAttr,h1,h2,h3,h8,h9,h10,k3,hb,o1,o2,s1,a1,a2,a3',d1,d2,d3,d4,k1,k2]
     exact bad _ hB (by simp[sx,h8]) (by simp[sx,h9])
   ·rw[decide_eq_false c3] at d3 hB
    simp only[sz,simprocAttr,h1,h2,h3,h8,h9,h10,k3,hb,o1,o2,s1,a1,a2,a3',d1,d2,d3,k1,k2]
    exact bad _ (by simpa using hB) (by simp[sx,h8]) (by simp[sx,h9])
  ·rw[decide_eq_false c2] at d2 hB
   simp only[sz,simprocAttr,h1,h2,h3,h8,h9,h10,k3,hb,o1,o2,s1,a1,a2,a3',d1,d2,k1,k2]
   exact bad _ (by simpa using hB) (by simp[sx,h8]) (by simp[sx,h9])
 ·rw[decide_eq_false c1] at d1 hB
  simp only[sz,simprocAttr,h1,h2,h3,h8,h9,h10,k3,hb,o1,o2,s1,a1,a2,a3',d1,k1,k2]
  exact bad _ (by simpa using hB) (by simp[sx,h8]) (by simp[sx,h9])
set_option maxRecDepth 20000 in
theorem Dh {d xs ys zs:Nat}{n:Net}{b a3 a4:AV}{Q:QT}{t:T}{g:G}{c:SC}(hx:xs<18446744073709551616)(hy:ys<18446744073709551616)(hz:zs<18446744073709551616)(hn:g.nx=4)
  (ht:St t (LDd xs ys zs)) (k3:g.h.get 3=.cells 4 [[.int .i64 n.grain,b,a3,a4]] 0 false false) (k1:g.h.get 1=.cells 1 [[.bool false]] 0 false false) (k2:g.h.get 2=.cells 1 [[.int .i64 0]] 0 false false)
  (fin:∀t g',g'.nx=10->DpS n xs ys zs b a3 a4 g'->DpM n xs ys zs 5 0 0 g'.h->St t ((12,.hptr 4 0 0 0)::(13,.hptr 9 0 0 0)::LDd xs ys zs)->wp C0 d none c Q t [] g'):wp C0 d none (sQ [oM 62 1,oM 63 2,o 64 (.bin .or (.t 62) (.t 63)),oM 65 3,o 66 (.bin .or (.t 64) (.t 65)),oM 67 3,oM 68 1,oM 69 3,o 70 (.bin .or (.t 68) (.t 69)),oM 71 2,oM 72 3,o 73 (.bin .or (.t 71) (.t 72)),o 74 (.build [.int .u64 0,.int .u64 0,.int .u64 0,.int .u64 0] [(0,1),(1,1),(2,1),(3,1)] [.t 66,.t 67,.t 70,.t 73]),o 12 (.alloc [.int .u64 0,.int .u64 0,.int .u64 0,.int .u64 0]),oz (.store 4 (.t 12) (.t 74))] (sQ [o 75 (.raw (.makeMap 129 none)),o 76 (.raw (.makeMap 129 none)),o 77 (.raw (.makeMap 129 none)),o 78 (.raw (.makeMap 129 none)),o 79 (.build [.nilm,.nilm,.nilm,.nilm] [(0,1),(1,1),(2,1),(3,1)] [.t 75,.t 76,.t 77,.t 78]),o 13 (.alloc [.nilm,.nilm,.nilm,.nilm]),oz (.store 4 (.t 13) (.t 79))] c)) Q t [] g:=by
 obtain ⟨h1,h2,h3,h8,h9,h10,-⟩:=ht
 have o1:=jQ xs ys hx hy
 have o2:=jQ (xs ||| ys) zs (pL hx hy) hz
 have o3:=jQ xs zs hx hz
 have o4:=jQ ys zs hy hz
 have b2:∀x y z w:Nat,eG [.nilm,.nilm,.nilm,.nilm] [((0,1),.hmap x),((1,1),.hmap y),((2,1),.hmap z),((3,1),.hmap w)]=some [.hmap x,.hmap y,.hmap z,.hmap w]:=fun _ _ _ _=>rfl
 have hrm:∀(d:Nat) (rd:Option Nat) (t:T) (g:G),(bE C0 (.makeMap 129 none)).run (I C0) d rd t g=.upd (.hmap g.nx) (g.new (.map [])):=fun d rd t g=>AZ d rd t g
 have st1:∀(g:G) (i:Nat) (x y z w:Int),gt (.cells 4 [[.int .u64 0,.int .u64 0,.int .u64 0,.int .u64 0]] 0 false false) g i 0 0 4 0 (.agg [.int .u64 x,.int .u64 y,.int .u64 z,.int .u64 w])=.upd .undef (g.put i (.cells 4 [[.int .u64 x,.int .u64 y,.int .u64 z,.int .u64 w]] 0 false false)):=fun _ _ _ _ _ _=>rfl
 have st2:∀(g:G) (i x y z w:Nat),gt (.cells 4 [[.nilm,.nilm,.nilm,.nilm]] 0 false false) g i 0 0 4 0 (.agg [.hmap x,.hmap y,.hmap z,.hmap w])=.upd .undef (g.put i (.cells 4 [[.hmap x,.hmap y,.hmap z,.hmap w]] 0 false false)):=fun _ _ _ _ _ _=>rfl
 refine bV (P:=fun t' df g'=>df=[]/\g'.nx=5/\g'.h.get 1=.cells 1 [[.bool false]] 0 false false/\g'.h.get 2=.cells 1 [[.int .i64 0]] 0 false false/\g'.h.get 3=.cells 4 [[.int .i64 n.grain,b,a3,a4]] 0 false false/\g'.h.get 4=.cells 4 [[.int .u64 ((xs ||| ys ||| zs:Nat):Int),.int .u64 (zs:Int),.int .u64 ((xs ||| zs:Nat):Int),.int .u64 ((ys ||| zs:Nat):Int)]] 0 false false/\St t' ((12,.hptr 4 0 0 0)::LDd xs ys zs)) ?_ ?_
 ·simp only[sz,simprocAttr,h1,h2,h3,o1,o2,o3,o4,st1,hn]
  simp[H.get_put,hn,k1,k2,k3,St,LDd,sx,h1,h2,h3,h8,h9,h10]
 clear h1 h2 h3 h8 h9 h10 k1 k2 k3
 rintro t df g1 ⟨rfl,n1,k1,k2,k3,k4,h12,h1,h2,h3,h8,h9,h10,-⟩
 refine bV (P:=fun t' df g'=>df=[]/\g'.nx=10/\DpS n xs ys zs b a3 a4 g'/\DpM n xs ys zs 5 0 0 g'.h/\St t' ((12,.hptr 4 0 0 0)::(13,.hptr 9 0 0 0)::LDd xs ys zs)) ?_ ?_
 ·simp only[sz,simprocAttr,hrm,n1,b2,st2]
  refine ⟨⟨by simp[H.get_put,n1,k1],by simp[H.get_put,n1,k2],by simp[H.get_put,n1,k3],by simp[H.get_put,n1,k4,S.aw],by simp[H.get_put,n1]⟩,⟨fun i hi=>⟨[],?_,fun K=>by simp[mgt,S.aJ,S.aN]⟩⟩,by simp[St,LDd,sx,h1,h2,h3,h8,h9,h10,h12]⟩
  have:i=0\/i=1\/i=2\/i=3:=by omega
  rcases this with rfl | rfl | rfl | rfl<;>simp[H.get_put,n1,mcl]
 rintro t df g2 ⟨rfl,n2,hS,hM,ht⟩
 exact fin t g2 n2 hS hM ht
structure DpJ (g0:G) (n:Net) (xs ys zs j:Nat) (h:H):Prop where
 fr:∀i,i<10->(i<5\/9<=i)->h.get i=g0.h.get i
 m:DpM n xs ys zs 5 j 0 h
theorem DS {d xs ys zs t1 t2 ky ke:Nat}{n:Net}{y:QnM}{cs:List AV}{b a3 a4 z:AV}{Q:QT}{t:T}{g:G}(hd:0<d)(hr:NR n)(hq:QnOk n y)(hcs:Rp.rp NoP ky .nil y cs)(hc:Rp.rp NoP 0 .nil y [.int .i64 n.grain,b,a3,a4])(hz':SlR NoP ke .nil ([]:List Int) z)(hx:xs<18446744073709551616)(hy:ys<18446744073709551616)(hz:zs<18446744073709551616)(hn:g.nx=10)
  (hS:DpS n xs ys zs b a3 a4 g) (hM:DpM n xs ys zs 5 0 0 g.h) (ht:St t ((81,.clo N.aa [] [.tptr t1 4 [cs] 0 0,.tptr t2 1 [[z]] 0 0])::(12,.hptr 4 0 0 0)::(13,.hptr 9 0 0 0)::LDd xs ys zs))
  (fin:∀g',12<=g'.nx->g'.h.get 10=.dfr true->DpS n xs ys zs b a3 a4 g'->DpM n xs ys zs 5 (S.ap n) 0 g'.h->Q .norm t [.mark 10] g'):wp C0 d none (.rng 146 (.t 81) [82] eB eC) Q t [] g:=by
 obtain ⟨h81,h12,h13,h1,h2,h3,h8,h9,h10,-⟩:=ht
 obtain ⟨W1,W2,W3⟩:=hr.wl
 refine qv (t1:=t1) (t2:=t2) (n:=n) (y:=y) (e:=[]) (cs:=cs) (w:=z) hd hr hq hcs hz' (by simp) h81 (by decide)
  (fun j h=>DpJ g n xs ys zs j h) (fun _=>False) (fun j h h' hh hg=>⟨fun i h1 h2=>by rw[hh i (by omega),hg.fr i h1 h2],hg.m.cong fun i hi=>hh _ (by omega)⟩) (fun _ _ _ h=>h) ⟨fun _ _ _=>rfl,hM⟩ ?_ ?_ ?_ (fun _ h=>h.elim)
 ·intro j h hj hmt hg
  simp[S.jm] at hmt
 ·intro j u g2 hj hmt hg hn2 hu
  simp only[sz,simprocAttr,eB]
  refine ⟨CJ _ _ _,?_⟩
  intro g3 n3 f3
  obtain ⟨r,hre⟩:∃r,r=g2.nx:=⟨_,rfl⟩
  rw[<-hre]
  have jo:∀i,i<g.nx->g3.h.get i=g2.h.get i:=fun i hi=>by rw[f3 i (by omega),if_neg (by omega),if_neg (by omega)]
  have j14:g3.h.get r=.cells 3 [[.int .i64 (j:Int),.int .i64 (S.wt n j),u]] 0 false false:=by rw[f3 _ (by omega),if_pos hre];rfl
  have j3:g3.h.get 3=.cells 4 [[.int .i64 n.grain,b,a3,a4]] 0 false false:=by rw[jo 3 (by omega),hg.fr 3 (by omega) (by omega),hS.h3]
  have j4:=hS.h4
  rw[<-hg.fr 4 (by omega) (by omega),<-jo 4 (by omega)] at j4
  have j9:g3.h.get 9=.cells 4 [[.hmap 5,.hmap (5+1),.hmap (5+2),.hmap (5+3)]] 0 false false:=by rw[jo 9 (by omega),hg.fr 9 (by omega) (by omega),hS.h9]
  have hu3:SlR (fun i=>12<=i/\i<g3.nx) 0 g3.h (S.an (S.aa n) (j:Int)) u:=hu.wd fun i hi=>⟨⟨by omega,by omega⟩,by rw[f3 i (by omega),if_neg (by omega),if_neg (by omega)]⟩
  have hn3:r<g3.nx:=by omega
  have l4:∀x y z w:Int,eP (.cells 4 [[.int .u64 x,.int .u64 y,.int .u64 z,.int .u64 w]] 0 false false) 0 0 true 4 0=.val (.agg [.int .u64 x,.int .u64 y,.int .u64 z,.int .u64 w]):=fun _ _ _ _=>rfl
  unfold eC
  rw[lC]
  refine bV (P:=fun t' df g'=>df=[]/\g'=g3/\St t' (LDm xs ys zs 9 3 r)/\tat t' 84=.int .i64 0) ?_ ?_
  ·simp only[sz,simprocAttr,h12,j4,l4]
   simp[St,LDm,ql,sx,h10,h13]
  rintro t df g4 ⟨rfl,rfl,ht,h84⟩
  simp only[lC,nZ]
  refine Do (lo:=12) (p:=9) (q:=3) (r:=r) (mb:=5) (j:=j) (n:=n) (y:=y) (b:=b) (fl:=a3) (S_:=a4) (u:=u) hd hr hx hy hz (by omega) hc hq hu3 (by omega) (by omega) (by omega) (by omega) j9 j3 j14 (hg.m.cong fun i hi=>jo _ (by omega)) ht h84 ?_
  intro t g5 hK hM5
  simp only[g9,if_true]
  refine ⟨rfl,hK.nx,fun i h1 h2=>hK.fr i (by omega) h2,.inl ⟨rfl,fun i h1 h2=>?_,hM5.next⟩⟩
  rw[hK.fr i (by omega) (by omega),jo i (by omega),hg.fr i h1 h2]
 ·intro g' hg hn' hdf
  rw[hn] at hdf ⊢
  refine fin g' (by omega) hdf ⟨?_,?_,?_,?_,?_⟩ hg.m
  ·rw[hg.fr 1 (by omega) (by omega),hS.h1]
  ·rw[hg.fr 2 (by omega) (by omega),hS.h2]
  ·rw[hg.fr 3 (by omega) (by omega),hS.h3]
  ·rw[hg.fr 4 (by omega) (by omega),hS.h4]
  ·rw[hg.fr 9 (by omega) (by omega),hS.h9]
theorem Dp {d xs ys zs t1 t2 ky ke:Nat}{n:Net}{y:QnM}{cs:List AV}{b a3 a4 z:AV}{Q:QT}{t:T}{g:G}(hd:0<d)(hr:NR n)(hq:QnOk n y)(hcs:Rp.rp NoP ky .nil y cs)(hc:Rp.rp NoP 0 .nil y [.int .i64 n.grain,b,a3,a4])(hz':SlR NoP ke .nil ([]:List Int) z)(hx:xs<18446744073709551616)(hy:ys<18446744073709551616)(hz:zs<18446744073709551616)(hn:12<=g.nx)
  (hS:DpS n xs ys zs b a3 a4 g) (hM:DpM n xs ys zs 5 (S.ap n) 0 g.h) (ht:St t ((102,.clo N.aa [] [.tptr t1 4 [cs] 0 0,.tptr t2 1 [[z]] 0 0])::(12,.hptr 4 0 0 0)::(13,.hptr 9 0 0 0)::LDd xs ys zs)) (hdf:g.h.get 10=.dfr true)
  (fin:∀g',S.a7 n xs ys zs=false->g'.h.get g.nx=.dfr true->g'.h.get 10=.dfr true->g'.h.get 1=.cells 1 [[.bool false]] 0 false false->g'.h.get 2=.cells 1 [[.int .i64 0]] 0 false false->Q .norm t [.mark g.nx,.mark 10] g')
  (bad:∀g',S.a7 n xs ys zs=true->g'.h.get g.nx=.dfr true->g'.h.get 10=.dfr true->g'.h.get 1=.cells 1 [[.bool true]] 0 false false->g'.h.get 2=.cells 1 [[.int .i64 0]] 0 false false->Q .ret t [.mark g.nx,.mark 10] g'):wp C0 d none (.rng 146 (.t 102) [103] eg el) Q t [.mark 10] g:=by
 obtain ⟨h102,h12,h13,h1,h2,h3,h8,h9,h10,-⟩:=ht
 obtain ⟨W1,W2,W3⟩:=hr.wl
 refine qv (t1:=t1) (t2:=t2) (n:=n) (y:=y) (e:=[]) (cs:=cs) (w:=z) hd hr hq hcs hz' (by simp) h102 (by decide)
  (fun j h=>(∀i,i<g.nx->h.get i=g.h.get i)/\∀w,w<j->S.aS n xs ys zs w=false)
  (fun h=>h.get 10=.dfr true/\h.get 1=.cells 1 [[.bool true]] 0 false false/\h.get 2=.cells 1 [[.int .i64 0]] 0 false false/\S.a7 n xs ys zs=true) (fun j h h' hh hg=>⟨fun i h1=>by rw[hh i h1,hg.1 i h1],hg.2⟩) (fun h h' hh hg=>⟨by rw[hh 10 (by omega)];exact hg.1,by rw[hh 1 (by omega)];exact hg.2.1,by rw[hh 2 (by omega)];exact hg.2.2.1,hg.2.2.2⟩) ⟨fun _ _=>rfl,fun w hw=>by omega⟩ ?_ ?_ ?_ ?_
 ·intro j h hj hmt hg
  simp[S.jm] at hmt
 ·intro j u g2 hj hmt hg hn2 hu
  simp only[sz,simprocAttr,eg]
  refine ⟨CJ _ _ _,?_⟩
  intro g3 n3 f3
  obtain ⟨r,hre⟩:∃r,r=g2.nx:=⟨_,rfl⟩
  rw[<-hre]
  have jo:∀i,i<g.nx->g3.h.get i=g.h.get i:=fun i hi=>by rw[f3 i (by omega),if_neg (by omega),if_neg (by omega),hg.1 i hi]
  have j17:g3.h.get r=.cells 3 [[.int .i64 (j:Int),.int .i64 (S.wt n j),u]] 0 false false:=by rw[f3 _ (by omega),if_pos hre];rfl
  have hu3:SlR (fun i=>12<=i/\i<g3.nx) 0 g3.h (S.an (S.aa n) (j:Int)) u:=hu.wd fun i hi=>⟨⟨by omega,by omega⟩,by rw[f3 i (by omega),if_neg (by omega),if_neg (by omega)]⟩
  have hn3:r<g3.nx:=by omega
  have j4:=hS.h4
  rw[<-jo 4 (by omega)] at j4
  have l4:∀x y z w:Int,eP (.cells 4 [[.int .u64 x,.int .u64 y,.int .u64 z,.int .u64 w]] 0 false false) 0 0 true 4 0=.val (.agg [.int .u64 x,.int .u64 y,.int .u64 z,.int .u64 w]):=fun _ _ _ _=>rfl
  obtain ⟨v,hv⟩:∃v,v=g3.nx:=⟨_,rfl⟩
  unfold el
  rw[lC]
  refine bV (P:=fun t' df g'=>df=[]/\g'.nx=v+1/\g'.h.get v=.cells 4 [jv lV (iK n xs ys zs j 0)] 0 false false/\(∀i,i<v->g'.h.get i=g3.h.get i)/\St t' [(18,.hptr v 0 0 0),(17,.hptr r 0 0 0),(10,.hptr 3 0 0 0),(12,.hptr 4 0 0 0),(13,.hptr 9 0 0 0),(8,.hptr 1 0 0 0),(9,.hptr 2 0 0 0)]) ?_ ?_
  ·simp only[sz,simprocAttr]
   refine ⟨hv.symm,by rw[hv];simp[H.get_put,jv,lV,iK],fun i hi=>by simp[H.get_put,show ¬i=g3.nx by omega],by simp[St,sx,h12,h13,h8,h9,h10,hv]⟩
  clear h102 h12 h13 h1 h2 h3 h8 h9 h10
  rintro t df g4 ⟨rfl,n4,k18,f4,h18,h17,h10,h12,h13,h8,h9,-⟩
  have k4:=j4
  rw[<-f4 4 (by omega)] at k4
  refine kV (P:=fun t' df g'=>df=[]/\g'.h.get v=.cells 4 [jv lV (iK n xs ys zs j 4)] 0 false false/\(∀i,i<v->g'.h.get i=g3.h.get i)/\v<g'.nx/\St t' [(18,.hptr v 0 0 0),(8,.hptr 1 0 0 0),(9,.hptr 2 0 0 0)]) ?_ ?_
  ·refine bV (P:=fun t' df g'=>df=[]/\g'=g4/\St t' (LDn xs ys zs 9 3 r v)/\tat t' 105=.int .i64 0) ?_ ?_
   ·simp only[sz,simprocAttr,h12,k4,l4]
    simp[St,LDn,ql,sx,h10,h13,h17,h18,h8,h9]
   clear h18 h17 h10 h12 h13 h8 h9
   rintro t df g5 ⟨rfl,rfl,ht,h105⟩
   simp only[lC,nZ]
   refine DU (lo:=12) (p:=9) (q:=3) (r:=r) (v:=v) (mb:=5) (w:=j) (n:=n) (y:=y) (b:=b) (fl:=a3) (S_:=a4) (u:=u) hd hr hx hy hz hc hq (hu3.wd fun i hi=>⟨⟨hi.1,by omega⟩,f4 i (by omega)⟩) (by omega) (by omega) (by omega) (by omega) (by omega) (by rw[f4 9 (by omega),jo 9 (by omega),hS.h9]) (by rw[f4 3 (by omega),jo 3 (by omega),hS.h3]) (by rw[f4 r (by omega),j17]) (hM.cong fun i hi=>by rw[f4 _ (by omega),jo _ (by omega)]) k18 ht h105 ?_
   rintro t g6 ⟨h10,h13,h17,h18,h104,h8,h9,-⟩ hn6 hf6 kv
   simp only[g9,if_true]
   exact ⟨trivial,trivial,kv,fun i hi=>by rw[hf6 i (by omega) (by omega),f4 i hi],by omega,h18,h8,h9,trivial⟩
  ·rintro t df g6 ⟨rfl,kv,f6,n6,ht⟩
   have e1:g6.h.get 1=.cells 1 [[.bool false]] 0 false false:=by rw[f6 1 (by omega),jo 1 (by omega),hS.h1]
   have e2:g6.h.get 2=.cells 1 [[.int .i64 0]] 0 false false:=by rw[f6 2 (by omega),jo 2 (by omega),hS.h2]
   have e10:g6.h.get 10=.dfr true:=by rw[f6 10 (by omega),jo 10 (by omega),hdf]
   refine DW (v:=v) (w:=j) hd hr kv ht e1 e2 ?_ ?_
   ·intro t hD
    refine ⟨rfl,by simp;omega,fun i a1 a2=>by simp[H.get_put,show ¬i=1 by omega,show ¬i=2 by omega];rw[f6 i (by omega)],.inr ⟨rfl,?_,?_,?_,?_⟩⟩
    ·simp[H.get_put,e10]
    ·simp[H.get_put]
    ·simp[H.get_put]
    ·rw[S.a7,List.any_eq_true];exact ⟨j,by simp[hj],hD⟩
   ·intro t hD
    refine ⟨rfl,by omega,fun i a1 a2=>f6 i (by omega),.inl ⟨rfl,fun i hi=>by rw[f6 i (by omega),jo i hi],fun w hw=>?_⟩⟩
    by_cases e:w=j
    ·rw[e];exact hD
    ·exact hg.2 w (by omega)
 ·intro g' hg hn' hdf'
  refine fin g' ?_ hdf' (by rw[hg.1 10 (by omega),hdf]) (by rw[hg.1 1 (by omega),hS.h1]) (by rw[hg.1 2 (by omega),hS.h2])
  rw[S.a7,List.any_eq_false]
  intro w hw
  rw[hg.2 w (by simpa using hw)];simp
 ·rintro g' ⟨e10,e1,e2,hD⟩ hn' hdf'
  exact bad g' hD hdf' e10 e1 e2
theorem lM {d xs ys zs:Nat}{g:G}{v:AV}{n:Net}(hd:0<d)(hm:Agg n NoP 0 g.h v)(hx:xs<18446744073709551616)(hy:ys<18446744073709551616)(hz:zs<18446744073709551616) :
  aO C0 d N.ak [v,.int .u64 (xs:Int),.int .u64 (ys:Int),.int .u64 (zs:Int)] g=.val (.tup [.bool (S.aM n xs ys zs),.int .i64 (S.aQ n xs ys zs)]):=by
 have key:∃r,aO C0 d N.ak [v,.int .u64 (xs:Int),.int .u64 (ys:Int),.int .u64 (zs:Int)] g=.val r/\rK (One (S.aM n xs ys zs)) (One (S.aQ n xs ys zs)) NoP 0 .nil r:=by
  obtain ⟨b,rows,rfl,e1,hm',hN,r1,r2,r3,r4⟩:=j5 d hm
  rw[cQ]
  refine fy nU (xs:=[.agg [.int .i64 n.grain,b],.int .u64 (xs:Int),.int .u64 (ys:Int),.int .u64 (zs:Int)]) (by simp only[aD,e1,ji 0]) (by simp[gy]) (gN (m:=1) (dt _) (dt _) (by decide) (by decide)) (by decide) hd ?_
  simp only[gy]
  obtain ⟨Qf,hQf⟩:∃Qf,Qf=fnQ C0 (d+1) [SR.cell false 1 8,SR.cell false 1 9] (fun v g'=>∃P,rK (One (S.aM n xs ys zs)) (One (S.aQ n xs ys zs)) P 0 g'.h v):=⟨_,rfl⟩
  rw[<-hQf]
  refine bV (P:=fun t' df g'=>df=[]/\g'.nx=3/\g'.h.get 0=.cells 2 [[.int .i64 n.grain,b]] 0 false false/\g'.h.get 1=.cells 1 [[.bool false]] 0 false false/\g'.h.get 2=.cells 1 [[.int .i64 0]] 0 false false/\St t' [(1,.int .u64 (xs:Int)),(2,.int .u64 (ys:Int)),(3,.int .u64 (zs:Int)),(4,.hptr 0 0 0 0),(8,.hptr 1 0 0 0),(9,.hptr 2 0 0 0)]) ?_ ?_
  ·simp only[sz,simprocAttr]
   simp[St,sx,H.get_put]
  rintro t df g0 ⟨rfl,n0,f0,f1,f2,h1,h2,h3,h4,h8,h9,-⟩
  unfold iU
  obtain ⟨va,ea,hva⟩:=Dd (d:=d+1) (g:=g0) (w:=.nils) (P:=NoP) (kk:=0) (n:=n) (ls:=[]) (Nat.succ_pos d) (hm' _) ⟨by show 0<9223372036854775808;decide,rfl⟩
  obtain ⟨y,cs,rfl,hy',hc,a1,a2,a3,a4,rfl⟩:=vJ hva
  cases hnr:S.aF n with
  | false =>
   have hE:S.aQ n xs ys zs=50:=by rw[S.aQ,hnr];rfl
   have hV:S.aM n xs ys zs=false:=by rw[S.aM,hE];rfl
   have hL:S.aO n []=50:=by rw[S.aO,hnr];rfl
   rw[hL] at ea
   simp only[sz,simprocAttr,h1,h2,h3,h4,h8,h9,f0,ea,n0,f1,f2,hQf]
   rw[hE,hV]
   exact ⟨fun _=>True,_,_,rfl,dJ.2 rfl,a9.2 rfl⟩
  | true =>
   have hr:=gW.1 hnr
   have hL:S.aO n []=0:=by rw[S.aO,hnr];rfl
   have hyo:=hy' hL
   rw[hL] at ea
   obtain ⟨b',b2,b3,ecs,hb',hb2,hb3⟩:=mu.1 hc
   injection ecs with ec1 ecs
   injection ecs with ec2 ecs
   rw[hyo.net] at ec1 hb'
   subst ec1 ec2
   have hN':SlR NoP 0 .nil n.nodes a2:=hb'.tree (Nat.le_refl _)
   refine bV (P:=fun t' df g'=>df=[]/\g'.nx=4/\g'.h.get 1=.cells 1 [[.bool false]] 0 false false/\g'.h.get 2=.cells 1 [[.int .i64 0]] 0 false false/\g'.h.get 3=.cells 4 [[.int .i64 n.grain,a2,a3,a4]] 0 false false/\tat t' 11=.int .i64 0/\St t' (LDd xs ys zs)) ?_ ?_
   ·simp only[sz,simprocAttr,h4,f0,ea]
    simp[St,LDd,sx,H.get_put,h1,h2,h3,h8,h9,n0,f1,f2]
   clear h1 h2 h3 h4 h8 h9
   rintro t df g1 ⟨rfl,n1,k1,k2,k3,h11,ht⟩
   refine kV (P:=fun t' df g'=>df=[]/\g'=g1/\St t' (LDd xs ys zs)) ?_ ?_
   ·obtain ⟨h1,h2,h3,h8,h9,h10,-⟩:=ht
    simp only[sz,simprocAttr,h11]
    simp[St,LDd,sx,h1,h2,h3,h8,h9,h10]
   clear ht
   rintro t df g2 ⟨rfl,rfl,ht⟩
   rw[cM]
   refine BB (l:=n.nodes.length) hx hy hz (hN'.len) ht k3 k1 k2 ?_ ?_
   ·intro t hB h8 h9
    have hE:S.aQ n xs ys zs=2:=by rw[S.aQ,hnr,hB];rfl
    have hV:S.aM n xs ys zs=false:=by rw[S.aM,hE];rfl
    simp only[sz,simprocAttr,hQf,h8,h9]
    rw[hE,hV]
    exact ⟨fun _=>True,_,_,rfl,dJ.2 rfl,a9.2 rfl⟩
   intro t hB ht
   have hE:S.aQ n xs ys zs=0:=by rw[S.aQ,hnr,hB];rfl
   have hV:S.aM n xs ys zs=S.a7 n xs ys zs:=by rw[S.aM,hE];rfl
   rw[rU]
   refine Dh hx hy hz n1 ht k3 k1 k2 ?_
   clear ht
   intro t g3 n3 hS hM ht
   have hnil:∀h,SlR NoP 0 h ([]:List Int) .nils:=fun h=>⟨by show 0<9223372036854775808;decide,rfl⟩
   rw[cM,cM]
   obtain ⟨cs',z',t1,t2,ez,hcs',hz'⟩:=nD (d:=d+1) (g:=g3) (y:=y) (e:=[]) (v:=.agg [.int .i64 n.grain,a2,a3,a4]) (w:=.nils) (Nat.succ_pos d) ⟨_,rfl,Rp.tree hc (Nat.le_refl _)⟩ (hnil _)
   obtain ⟨h12,h13,h1,h2,h3,h8,h9,h10,-⟩:=ht
   have s3:=hS.h3
   simp only[sz,simprocAttr,h10,s3,ez]
   refine DS (t1:=t1) (t2:=t2) (y:=y) (n:=n) (b:=a2) (a3:=a3) (a4:=a4) (Nat.succ_pos d) hr hyo hcs' hc hz' hx hy hz n3 hS hM (by simp[St,LDd,sx,h12,h13,h1,h2,h3,h8,h9,h10]) ?_
   clear hS hM s3 ez
   intro g4 n4 d4 hS hM
   obtain ⟨cs',z',t1,t2,ez,hcs',hz'⟩:=nD (d:=d+1) (g:=g4) (y:=y) (e:=[]) (v:=.agg [.int .i64 n.grain,a2,a3,a4]) (w:=.nils) (Nat.succ_pos d) ⟨_,rfl,Rp.tree hc (Nat.le_refl _)⟩ (hnil _)
   have s3:=hS.h3
   simp only[sz,simprocAttr,hQ,h10,s3,ez]
   refine Dp (t1:=t1) (t2:=t2) (y:=y) (n:=n) (b:=a2) (a3:=a3) (a4:=a4) (Nat.succ_pos d) hr hyo hcs' hc hz' hx hy hz n4 hS hM (by simp[St,LDd,sx,h12,h13,h1,h2,h3,h8,h9,h10]) d4 ?_ ?_
   ·intro g5 hD m1 m2 r1 r2
    simp only[sz,simprocAttr,hU,h8,h9,r1,r2,hQf]
    refine pu (by simp[H.get_put,show ¬g4.nx=2 by omega,show ¬g4.nx=1 by omega,m1]) (by simp[H.get_put,m2]) (by omega) ?_
    simp only[sx,sy,↓reduceIte,Nat.reduceEqDiff,h8,h9,show ¬1=g4.nx by omega,show ¬2=g4.nx by omega]
    rw[hE,hV,hD]
    exact ⟨fun _=>True,_,_,rfl,dJ.2 rfl,a9.2 rfl⟩
   ·intro g5 hD m1 m2 r1 r2
    simp only[sz,simprocAttr,hQf]
    refine pu m1 m2 (by omega) ?_
    simp only[sx,sy,↓reduceIte,Nat.reduceEqDiff,h8,h9,show ¬1=g4.nx by omega,show ¬2=g4.nx by omega,r1,r2]
    rw[hE,hV,hD]
    exact ⟨fun _=>True,_,_,rfl,dJ.2 rfl,a9.2 rfl⟩
 obtain ⟨r,hr,a,c,rfl,ha,hc⟩:=key
 have ha:=dJ.1 ha
 injection ha with ha
 have hc:=a9.1 hc
 injection hc with hc
 rw[hr,ha,hc]
structure ND where
 c:Nat->Int
 P:Nat->List Int
 m:Nat->Nat
 R:Nat->Nat->List Int
 o:Nat->Nat
def LN (n:Nat)(D:ND):Ky->Prop:=fun k=>k=(0,0)\/∃i q,k=(i+1,q)/\i<n/\q<2+D.o i
def Et (D:ND)(V:Ky->AV)(i:Nat):List AV:=[.int .i64 (D.c i),V (i+1,0),V (i+1,1)]
def Eu (V:Ky->AV)(i r:Nat):List AV:=[V (i+1,2+r)]
structure BN (K n:Nat) (V:Ky->AV) (E:Ky->En) (D:ND):Prop where
 ns:E (0,0)=.sl 3 ((List.range n).map (Et D V))
 ps:∀i,i<n->E (i+1,0)=.sl 1 ((D.P i).map ci)/\(D.P i).length<=K
 rs:∀i,i<n->E (i+1,1)=.sl 1 ((List.range (D.m i)).map (Eu V i))/\D.m i<=K
 rr:∀i r,i<n->r<D.m i->(D.R i r).length<=K/\((r<D.o i/\E (i+1,2+r)=.sl 1 ((D.R i r).map ci))\/SlR NoP 0 .nil (D.R i r) (V (i+1,2+r)))
def ND.node (D:ND)(i:Nat):Node:=⟨D.c i,D.P i,(List.range (D.m i)).map (D.R i)⟩
def Ep (gr c:Int)(l:List Int):Prop:=(l.length:Int)=c/\(∀y∈l,0<=y/\y<=gr)/\l.sum=gr
def S.rq (gr s x:Int):Int:=gr*x / s
structure Rw1 (gr:Int) (nv u:AV) (C F j:Nat) (t:T) (g:G):Prop where
 st:St t [(0,.int .i64 gr),(1,.int .i64 (C:Int)),(2,nv),(3,.int .i64 (F:Int)),(9,u)]
 hX:∃(X:List Int) (s:Int),tat t 10=.int .i64 s/\X.length=C/\Own g 0 u 1 (X.map ci)/\(∀x∈X,0<=x/\x<=7)/\s=(X.take j).sum/\0<=s/\s<=7*j
structure Rw2 (gr s:Int) (u:AV) (C:Nat) (X:List Int) (j:Nat) (t:T) (g:G):Prop where
 st:St t [(0,.int .i64 gr),(1,.int .i64 (C:Int)),(9,u),(10,.int .i64 s)]
 hX:∃(la:Nat),tat t 12=.int .i64 (gr - ((X.take j).map (S.rq gr s)).sum)/\tat t 13=.int .i64 (la:Int)/\la<C/\Own g 0 u 1 (((X.take j).map (S.rq gr s)++X.drop j).map ci)
structure Num (n:Nat) (pl:List Int) (num:Nat->Nat):Prop where
 len:pl.length=n
 at_:∀k,k<n->pl[k]?=some (num k:Int)
 lt:∀k,k<n->num k<n
 inj:∀i j,i<n->j<n->num i=num j->i=j
 sur:∀u,u<n->∃k,k<n/\num k=u
def LNX (X:Ky->Prop)(n:Nat)(D:ND):Ky->Prop:=fun k=>LN n D k\/X k
def X1:Ky->Prop:=fun k=>k=(0,1)
def X2:Ky->Prop:=fun k=>k=(0,1)\/k=(0,2)
structure DN (X:Ky->Prop) (r0:List AV) (n q K:Nat) (gr:Int) (V:Ky->AV) (E:Ky->En) (D:ND) (g:G):Prop where
 hp:Hp g 2 (LNX X n D) V E
 bn:BN K n V E D
 vb:V (0,1)=.hptr q 0 0 0
 bx:E (0,1)=.bx [.int .i64 gr,V (0,0)]
 h0:g.h.get 0=.cells 3 [r0] 0 false false
 h1:g.h.get 1=.cells 2 [[.int .i64 0,.nils]] 0 false false
structure DAok (D:ND) (n i:Nat) (num:Nat->Nat):Prop where
 e:∀v,v<n->D.P v=[]/\D.m v=0
 c:∀k,k<i->D.c (num k)=2\/D.c (num k)=3
 o:∀u,D.o u=0
def LDA (n q:Nat)(r5:AV):List (Nat×AV):=[(1,.hptr 0 0 0 0),(2,.hptr 1 0 0 0),(3,.int .i64 (n:Int)),(4,.hptr q 0 0 0),(5,r5)]
structure DA (r0:List AV) (n q:Nat) (gr:Int) (r5:AV) (num:Nat->Nat) (i:Nat) (t:T) (g:G):Prop where
 st:St t (LDA n q r5)
 w:∃w:Nat,tat t 6=.int .i64 (w:Int)/\w<=3 ^ i
 hd:∃V E D,DN X1 r0 n q 1000 gr V E D g/\DAok D n i num
section
variable {κ:Type} [DecidableEq κ]{g:G}{b:Nat}{L:κ->Prop}{V:κ->AV}{E:κ->En}{k:κ}
end
structure DB (D:ND) (n i v:Nat) (num:Nat->Nat):Prop where
 c:∀u,u<n->D.c u=2\/D.c u=3
 p:∀u,u<n->(D.P u).length<=3/\∀y∈D.P u,0<=y/\y<n
 m:∀u,u<n->D.m u<=64
 o:∀u,D.o u=0
 f:∀k,i<k->k<n->D.P (num k)=[]/\D.m (num k)=0
def S.bU (P0:List Int)(c0:Nat->Int):Int:=S.af (P0.map fun y=>c0 y.toNat)
structure DOk (gr:Int) (D:ND) (n i:Nat) (num:Nat->Nat):Prop where
 s:∀u,u<n->(D.P u).Pairwise (·<·)
 a:∀k,k<n->∀y∈D.P (num k),∃k',k'<k/\y=(num k':Int)
 w:∀k,k<i->(D.m (num k):Int)=S.bU (D.P (num k)) D.c
 r:∀u r,u<n->r<D.m u->Ep gr (D.c u) (D.R u r)
def LDB (n q i p v:Nat)(r5:AV):List (Nat×AV):=[(1,.hptr 0 0 0 0),(2,.hptr 1 0 0 0),(3,.int .i64 (n:Int)),(4,.hptr q 0 0 0),(5,r5),(10,.int .i64 (i:Int)),(11,.hptr p 0 0 0),(12,.int .i64 (v:Int))]
structure DP (r0 prow:List AV) (n q i p v:Nat) (gr:Int) (r5:AV) (num:Nat->Nat) (g:G) (V:Ky->AV) (E:Ky->En) (D:ND):Prop where
 dn:DN X2 r0 n q 1000 gr V E D g
 pb:V (0,2)=.hptr p 0 0 0/\E (0,2)=.bx prow
 db:DB D n i v num
 mv:D.m v=0
 ok:DOk gr D n i num
end
end Hx
end
section
namespace Hx
open Go
noncomputable section
structure DJ (r0 prow:List AV) (n q i p v u:Nat) (gr:Int) (r5:AV) (num:Nat->Nat) (j:Nat) (t:T) (g:G):Prop where
 st:St t ((13,.int .i64 (u:Int))::LDB n q i p v r5)
 hd:∃V E D,DP r0 prow n q i p v gr r5 num g V E D/\(∀y∈D.P v,y<=(u:Int))/\((∃k,k<j/\num k=u)\/∀y∈D.P v,y<(u:Int))
structure DK (r0 prow:List AV) (n q i p v:Nat) (gr:Int) (r5:AV) (num:Nat->Nat) (j:Nat) (t:T) (g:G):Prop where
 st:St t (LDB n q i p v r5)
 hd:∃V E D,DP r0 prow n q i p v gr r5 num g V E D/\∀y∈D.P v,y<(j:Int)
structure DQ (r0 prow:List AV) (n q i p v j:Nat) (gr:Int) (r5:AV) (num:Nat->Nat) (P0:List Int) (c0:Nat->Int) (g:G) (V:Ky->AV) (E:Ky->En) (D:ND):Prop where
 dn:DN X2 r0 n q 1000 gr V E D g
 pb:V (0,2)=.hptr p 0 0 0/\E (0,2)=.bx prow
 db:DB D n i v num
 mv:D.m v=j
 pv:D.P v=P0
 cv:D.c=c0
 ok:DOk gr D n i num
structure DRw (r0 prow:List AV) (n q i p v j:Nat) (gr:Int) (r5:AV) (num:Nat->Nat) (P0:List Int) (c0:Nat->Int) (t:T) (g:G):Prop where
 st:St t (LDB n q i p v r5)
 hd:∃V E D,DQ r0 prow n q i p v j gr r5 num P0 c0 g V E D
structure DBl (D:ND) (n i:Nat) (num:Nat->Nat):Prop where
 c:∀u,u<n->D.c u=2\/D.c u=3
 p:∀u,u<n->(D.P u).length<=3/\∀y∈D.P u,0<=y/\y<n
 m:∀u,u<n->D.m u<=64
 o:∀u,D.o u=0
 f:∀k,i<=k->k<n->D.P (num k)=[]/\D.m (num k)=0
structure DL (r0:List AV) (n q:Nat) (gr:Int) (r5:AV) (num:Nat->Nat) (i:Nat) (t:T) (g:G):Prop where
 st:St t (LDA n q r5)
 hd:∃V E D,DN X1 r0 n q 1000 gr V E D g/\DBl D n i num/\DOk gr D n i num
structure Drafted (m:Net):Prop where
 l:1<=m.nodes.length/\m.nodes.length<=5
 c:∀x∈m.nodes,x.card=2\/x.card=3
 b:∀x∈m.nodes,x.parents.length<=1000/\x.rows.length<=1000/\∀r∈x.rows,r.length<=1000
 nr:NR m
def V0 (W:AV)(q:Nat):Ky->AV:=fun k=>match k with
 | (0,0)=>W
 | (0,1)=>.hptr q 0 0 0
 | _=>.nils
def E0 (W:AV)(n:Nat)(gr:Int):Ky->En:=fun k=>match k with
 | (0,0)=>.sl 3 (List.replicate n [.int .i64 0,.nils,.nils])
 | (0,1)=>.bx [.int .i64 gr,W]
 | _=>.sl 1 []
def D0:ND:=⟨fun _=>0,fun _=>[],fun _=>0,fun _ _=>[],fun _=>0⟩
theorem hp0 {W:AV}{n q:Nat}{gr:Int}{g:G}(hW:Own g 2 W 3 (List.replicate n [.int .i64 0,.nils,.nils]))(hq:g.h.get q=.cells 2 [[.int .i64 gr,W]] 0 false false)(h2:2<=q/\q<g.nx)(hne:vid W≠some q):Hp g 2 (LNX X1 n D0) (V0 W q) (E0 W n gr):=by
 have hk:∀k,LNX X1 n D0 k->k=(0,0)\/k=(0,1)\/∃i s,k=(i+1,s):=fun k h=>by
  rcases h with h | h
  ·rcases h with h | ⟨i,s,h,-⟩
   ·exact .inl h
   ·exact .inr (.inr ⟨i,s,h⟩)
  ·exact .inr (.inl h)
 refine ⟨fun k h=>?_,fun k l h h' hkl id h1 h3=>?_,by omega⟩
 ·rcases hk k h with rfl | rfl | ⟨i,s,rfl⟩
  ·exact hW
  ·exact ⟨q,h2.1,h2.2,rfl,hq⟩
  ·exact .inl ⟨rfl,rfl⟩
 ·rcases hk k h with rfl | rfl | ⟨i,s,rfl⟩<;>rcases hk l h' with rfl | rfl | ⟨i',s',rfl⟩
  ·exact hkl rfl
  ·have h1:eid W=some id:=h1
   have h3:some q=some id:=h3
   rw[wJ hW] at h1
   injection h3 with h3;subst h3
   exact hne h1
  ·cases h3
  ·have h3:eid W=some id:=h3
   have h1:some q=some id:=h1
   rw[wJ hW] at h3
   injection h1 with h1;subst h1
   exact hne h3
  ·exact hkl rfl
  ·cases h3
  ·cases h1
  ·cases h1
  ·cases h1
end
end Hx
end
