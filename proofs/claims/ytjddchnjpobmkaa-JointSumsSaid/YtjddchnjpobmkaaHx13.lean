/- A part of the proof: an interpreter over abstract values, shown right against the model, and what the functions of the chapter compute on it. -/
import Derived.Test.YtjddchnjpobmkaaHx12
set_option linter.unusedVariables false
set_option linter.unusedSimpArgs false
set_option linter.unnecessarySimpa false
section
namespace Hx
open Go
noncomputable section
def S.aS (l:List Int)(i:Int)(j:Nat):List Int:=(S.ak l i).take j++List.replicate (l.length - j) 0
theorem Jf (l:List Int)(i:Int){j:Nat}(hj:j<=l.length):(S.aS l i j).length=l.length:=by
 simp[S.aS,gi];omega
theorem FU (l:List Int)(i:Int):S.aS l i 0=List.replicate l.length 0:=by simp[S.aS]
theorem Ii (l:List Int)(i:Int):S.aS l i l.length=S.ak l i:=by
 simp[S.aS,<-gi l i]
theorem FP {l:List Int}{i:Int}{j:Nat}(hj:j<l.length):(S.ak l i)[j]?=some (S.aR l i j):=by
 simp[S.ak,List.getElem?_map,List.getElem?_range hj]
theorem FA {l:List Int}{i:Int}{j:Nat}(hj:j<l.length):(S.aS l i j).set j (S.aR l i j)=S.aS l i (j+1):=by
 have e1:(S.ak l i).take (j+1)=(S.ak l i).take j++[S.aR l i j]:=by
  rw[List.take_add_one,FP hj];rfl
 have h1:((S.ak l i).take j).length=j:=by simp[gi];omega
 obtain ⟨m,hm⟩:∃m,l.length - j=m+1:=⟨l.length - j - 1,by omega⟩
 have hm':l.length - (j+1)=m:=by omega
 rw[S.aS,S.aS,e1,hm,hm',List.replicate_succ,List.set_append_right _ _ (by omega),h1,Nat.sub_self,List.set_cons_zero,List.append_assoc]
 rfl
structure ColJ (g0:G) (iw:Nat) (W:AV) (l:List Int) (i:Int) (j:Nat) (h:H):Prop where
 fr:∀k,k<g0.nx->k≠iw->h.get k=g0.h.get k
 ow:Own (GH h (iw+1)) 0 W 1 ((S.aS l i j).map ci)
theorem ColJ.up {g0:G}{iw:Nat}{W:AV}{l:List Int}{i:Int}{j:Nat}{h h':H}(hf:ColJ g0 iw W l i j h)(hv:vid W=some iw)(hi:iw<g0.nx)(hh:∀k,k<g0.nx->h'.get k=h.get k):ColJ g0 iw W l i j h' :=
 ⟨fun k h1 h2=>by rw[hh k h1,hf.fr k h1 h2],hf.ow.fr (by simp) fun k h=>by rw[hv] at h;injection h with h;subst h;exact hh _ hi⟩
theorem Cz {d kk t1 t2 t3:Nat}{g:G}{w:AV}{l:List Int}{i:Int}(hd:0<d)(hl:SlR NoP kk .nil l w)(hc:CdOk l)(hi0:0<=i)(hi:i<S.aa l) :
  ∃r,an C0 d N.bm [.int .i64 (l.length:Int),ivC t1 t2 t3 w (S.aa l) i] g=.val r/\IT 0 (S.ak l i) r:=by
 have hl8:=hc.l8
 rw[o_]
 refine ba qV (xs:=[.int .i64 (l.length:Int),ivC t1 t2 t3 w (S.aa l) i]) (by simp only[aB,cZ 0];rfl) (by simp[f_]) (aO _) (by decide) hd ?_
 simp only[sz,simprocAttr,f_,sY]
 refine jK (b:=0) (n:=l.length) (by unfold a_;omega) (by unfold a_;omega) (by simp) fun W g1 hW n1 f1 vW=>?_
 have n1:g1.nx=1:=n1
 have hW':Own g1 0 W 1 ((List.replicate l.length (0:Int)).map ci):=by simpa [ci] using hW
 simp only[sz,simprocAttr,hW.cell.1,hW.cell.2]
 rw[n1]
 obtain ⟨g2,hg2⟩:∃g2,g2=(g1.new (AObj.cells 1 [[AV.nils]] 0 false false)).put 1 (AObj.cells 1 [[W]] 0 false false):=⟨_,rfl⟩
 rw[<-hg2]
 have n2:g2.nx=2:=by rw[hg2];simp[n1]
 have k1:g2.h.get 1=.cells 1 [[W]] 0 false false:=by rw[hg2];simp[H.get_put]
 have hW2:Own g2 0 W 1 ((List.replicate l.length (0:Int)).map ci):=hW'.fr (by omega) fun i hi=>by have e:=br vW hi;have e0:g1.nx=1:=n1;rw[hg2];simp[H.get_put,n1,show ¬i=1 by omega]
 clear hg2 hW hW'
 refine GW (t1:=t1) (t2:=t2) (t3:=t3) (w:=w) hl hc hi0 hi (by simp[sx]) (by decide) (by decide) (fun j h=>ColJ g2 0 W l i j h) (fun j h h' hh hf=>hf.up vW (by omega) hh) ⟨fun _ _ _=>rfl,by rw[FU];exact hW2.gh vW⟩ ?_ ?_
 ·intro j g3 hj hJ hn
  simp only[sz,simprocAttr,iy]
  intro g4 hg4n hg4
  have hJ4:ColJ g2 0 W l i j g4.h:=hJ.up vW (by omega) fun k hk=>hg4 k (by omega)
  have k4:g4.h.get 1=.cells 1 [[W]] 0 false false:=by rw[hJ4.fr 1 (by omega) (by omega),k1]
  have hO4:Own g4 0 W 1 ((S.aS l i j).map ci):=hJ4.ow.fr (g':=g4) (by show 1<=g4.nx;omega) fun i _=>rfl
  have rW:=hO4.rows
  have hvp:=Jf l i (j:=j) (by omega)
  have u1:j<((S.aS l i j).map ci).length:=by simp;omega
  obtain ⟨y,hy⟩:∃y,(S.aS l i j)[j]?=some y:=⟨_,List.getElem?_eq_getElem (by omega)⟩
  have u2:((S.aS l i j).map ci)[j]?=some (ci y):=by rw[List.getElem?_map,hy];rfl
  simp only[sz,simprocAttr,io,k4,rW,u1]
  refine bC (v:=W) (sz:=1) (n:=1) (i:=j) (off:=0) (x:=.int .i64 (S.aR l i j)) (row':=ci (S.aR l i j)) hO4 u2 rfl rfl rfl fun g5 hO5 n5 f5=>?_
  rw[<-List.map_set,FA hj] at hO5
  simp only[sz,simprocAttr]
  refine ⟨by omega,fun k h1 h2=>f5 k fun e=>?_,.inl ⟨rfl,fun k h1 h2=>?_,hO5.gh vW⟩⟩
  ·have:=br vW e;omega
  ·rw[f5 k fun e=>h2 (br vW e).symm,hJ4.fr k h1 h2]
 ·intro g3 hJ hn hdf
  have k4:g3.h.get 1=.cells 1 [[W]] 0 false false:=by rw[hJ.fr 1 (by omega) (by omega),k1]
  have hO:=hJ.ow
  rw[Ii] at hO
  simp only[sz,simprocAttr,it,k4]
  refine iL hdf ?_
  simp only[sx,sy,↓reduceIte,Nat.reduceEqDiff]
  exact ⟨fun _=>True,(hO.fr (g':=g3.put g2.nx (.dfr false)) (by show 1<=g3.nx;omega) fun i hi=>by have e:=br vW hi;simp[H.get_put,show ¬i=g2.nx by omega]).ints (by rw[gi];omega)⟩
theorem I5 {d k:Nat}{P:Nat->Prop}{g:G}{v:AV}{l:List Int}(hd:0<d)(hl:SlR P k g.h l v)(hc:CdOk l):an C0 d N.aQ [v] g=.val (.tup [.int .i64 (S.aa l),.int .i64 0]):=by
 have key:∃r,an C0 d N.aQ [v] g=.val r/\nJ (One (S.aa l)) (One (0:Int)) NoP 0 .nil r:=by
  obtain ⟨w,ew,hw⟩:=dR hl d
  have kc:=fun g=>BZ (d:=d+1) (g:=g) (Nat.succ_pos d) (hw g.h) hc
  rw[vo]
  refine ba yf (xs:=[w]) (by simp only[aB,ew]) (by simp[nR]) (bN (m:=1) (aO _) (aO _) (by decide) (by decide)) (by decide) hd ?_
  simp only[sz,simprocAttr,nR,kc]
  exact ⟨fun _=>True,_,_,rfl,ay.2 rfl,ay.2 rfl⟩
 obtain ⟨r,hr,a,b,rfl,ha,hb⟩:=key
 have ha:=ay.1 ha
 injection ha with ha
 have hb:=ay.1 hb
 injection hb with hb
 rw[hr,ha,hb]
theorem wg {d kk:Nat}{g:G}{v:AV}{l:List Int}{i:Int}(hd:0<d)(hl:SlR NoP kk g.h l v)(hk:kk<=d)(hc:CdOk l)(hi0:0<=i)(hi:i<S.aa l) :
  ∃r,an C0 d N.aK [v,.int .i64 i] g=.val r/\∃w,r=.tup [w,.int .i64 0]/\IT 0 (S.ak l i) w:=by
 have key:∃r,an C0 d N.aK [v,.int .i64 i] g=.val r/\nJ (One (S.ak l i)) (One (0:Int)) NoP 0 .nil r:=by
  obtain ⟨w,ew,hw⟩:=dR hl d
  rw[Nat.max_eq_right hk] at hw
  have kc:=fun g=>BZ (d:=d+1) (g:=g) (Nat.succ_pos d) (hw g.h) hc
  have lw:=fun g:G=>(hw g.h).len g
  have n1:¬i<0:=by omega
  have n2:¬S.aa l<=i:=by omega
  rw[tx]
  refine ba vg (xs:=[w,.int .i64 i]) (by simp only[aB,ew,cZ 0]) (by simp[kU]) (bN (m:=2) (aO _) (aO _) (by decide) (by decide)) (by decide) hd ?_
  simp only[sz,simprocAttr,kU,kc,n1,n2,lw]
  refine cI (Q:=fun r=>∃u t1 t2 t3,r=ivC t1 t2 t3 u (S.aa l) i/\SlR NoP d .nil l u) ?_ ?_
  ·obtain ⟨u,t1,t2,t3,e,hu⟩:=Jm (d:=d+1) (g:=G.empty) (s:=S.aa l) (i:=i) (Nat.succ_pos d) (hw _) (by omega)
   exact ⟨_,e,u,t1,t2,t3,rfl,hu⟩
  rintro _ ⟨u,t1,t2,t3,rfl,hu⟩
  simp only[sz,simprocAttr]
  refine cI (Cz (d:=d+1) (Nat.succ_pos d) hu hc hi0 hi) fun z hz=>?_
  simp only[sz,simprocAttr]
  exact ⟨NoP,z,_,rfl,⟨z,rfl,hz.sl _⟩,ay.2 rfl⟩
 obtain ⟨r,hr,a,b,rfl,ha,hb⟩:=key
 have hb:=ay.1 hb
 injection hb with hb
 subst hb
 exact ⟨_,hr,a,rfl,ha⟩
theorem C4 {d w:Nat}{g:G}{v:AV}{n:Net}(hd:0<d)(hm:Agg n NoP 0 g.h v)(hr:NR n)(hw:w<S.an n) :
  ∃r,an C0 d N.aL [v,.int .i64 (w:Int)] g=.val r/\∃z,r=.tup [z,.int .i64 0]/\IT 0 (S.ak (S.ac n) (w:Int)) z:=by
 have key:∃r,an C0 d N.aL [v,.int .i64 (w:Int)] g=.val r/\nJ (One (S.ak (S.ac n) (w:Int))) (One (0:Int)) NoP 0 .nil r:=by
  obtain ⟨b,rows,rfl,e1,hm',hN,r1,r2,r3,r4⟩:=jk d hm
  rw[u9]
  refine ba ya (xs:=[.agg [.int .i64 n.grain,b],.int .i64 (w:Int)]) (by simp only[aB,e1,cZ 0]) (by simp[oH]) (bN (m:=2) (aO _) (aO _) (by decide) (by decide)) (by decide) hd ?_
  simp only[sz,simprocAttr,oH,qq]
  obtain ⟨z,ez,hz⟩:=vC (d:=d+1) (g:=G.empty.new (.cells 2 [[.int .i64 n.grain,b]] 0 false false)) (Nat.succ_pos d) (n:=n) (v:=.agg [.int .i64 n.grain,b]) (hm' _)
  rcases lP hz with ⟨hn,-⟩ | ⟨hn,b',cv,sv,oz,o,rfl,hb,hcv,hsv,hoz⟩
  ·rw[dW.2 hr] at hn;cases hn
  ·simp only[sz,simprocAttr,ez]
   refine cI (wg (d:=d+1) (i:=(w:Int)) (Nat.succ_pos d) (hcv.tree (Nat.le_refl 0)) (by omega) (EI hr) (by omega) (by have:=hr.wl;omega)) ?_
   rintro _ ⟨u,rfl,hu⟩
   simp only[sz,simprocAttr]
   exact ⟨NoP,u,_,rfl,⟨u,rfl,hu.sl _⟩,ay.2 rfl⟩
 obtain ⟨r,hr,a,b,rfl,ha,hb⟩:=key
 have hb:=ay.1 hb
 injection hb with hb
 subst hb
 exact ⟨_,hr,a,rfl,ha⟩
theorem L3 {d kk k:Nat}{P:Nat->Prop}{g:G}{v:AV}{l:List Int}{x:Int}(hd:0<d)(hl:SlR P kk g.h l v)(hx:l[k]?=some x)(hn:∀i,i<k->l[i]?≠some x):an C0 d N.bh [v,.int .i64 x] g=.val (.int .i64 (k:Int)):=by
 obtain ⟨w,ew,hw⟩:=dR hl d
 have rw':=fun h=>(hw h).ints
 have lw:=fun g:G=>(hw g.h).len g
 have hkl:=(List.getElem?_eq_some_iff.1 hx).1
 have hll:=hl.1
 rw[nK]
 refine lN pf (xs:=[w,.int .i64 x]) (by simp only[aB,ew,cZ 0]) (by simp[fc]) hd ?_
 simp only[sz,simprocAttr,fc,lw]
 simp only[gE]
 refine aJ (m:=l.length) hll (fun j t df g=>df=[]/\j<=k/\St t [(0,w),(1,.int .i64 x)]) ⟨rfl,Nat.zero_le _,by simp[St,sx]⟩ (by simp[sx]) (by simp[sx]) (by decide) (by rintro j t df g v s (rfl | rfl | rfl)<;>simp[St,sx]) ?_ ?_
 ·rintro j t df g hj ⟨rfl,hjk,h0,h1,-⟩ h8 h7
  obtain ⟨y,hy,-,-⟩:=au hj
  have u1:j<(l.map ci).length:=by simpa using hj
  have u2:(l.map ci)[j]?=some (ci y):=by rw[List.getElem?_map,hy];rfl
  by_cases e:x=y
  ·have hk:j=k:=by
    by_cases h:j<k
    ·exact absurd (by rw[hy,e]) (hn j h)
    ·omega
   have e':decide (x=y)=true:=decide_eq_true e
   simp only[sz,simprocAttr,h0,h1,h8,rw',u1,u2,ci,e']
   rw[hk]
  ·have hk:j≠k:=fun h=>by rw[h,hx] at hy;injection hy with hy;exact e hy
   have e':decide (x=y)=false:=decide_eq_false e
   simp only[sz,simprocAttr,h0,h1,h8,rw',u1,u2,ci,e']
   exact ⟨⟨by omega,by simp[St,sx,h0,h1]⟩,h7⟩
 ·rintro t df g ⟨rfl,hk,-⟩
  omega
abbrev TbM:=Factor×List Int
theorem pX {P:Nat->Prop}{k:Nat}{h:H}{x:TbM}{cs:List AV}:Rp.rp P k h x cs↔∃a b c s,cs=[a,b,c,s]/\SlR P k h x.1.vars a/\SlR P k h x.1.cards b/\SlR P k h x.1.w c/\SlR P k h x.2 s:=by
 constructor
 ·intro hx
  obtain ⟨c1,c2,rfl,h1,h2⟩:=Fk.1 hx
  obtain ⟨a,b,c,rfl,ha,hb,hc⟩:=aX.1 h1
  obtain ⟨s,rfl,hs⟩:=iQ.1 h2
  exact ⟨a,b,c,s,rfl,ha,hb,hc,hs⟩
 ·rintro ⟨a,b,c,s,rfl,ha,hb,hc,hs⟩
  exact Fk.2 ⟨[a,b,c],[s],rfl,aX.2 ⟨a,b,c,rfl,ha,hb,hc⟩,iQ.2 ⟨s,rfl,hs⟩⟩
theorem wP {d kk k:Nat}{g:G}{v:AV}{x:TbM}{y:Int}(hd:0<d)(hm:Agg x NoP kk g.h v)(hk:kk<=d)(hx:x.1.vars[k]?=some y)(hn:∀i,i<k->x.1.vars[i]?≠some y):an C0 d N.af [v,.int .i64 y] g=.val (.int .i64 (k:Int)):=by
 have e0:=cq d hm
 obtain ⟨cs,rfl,hc⟩:=hm
 obtain ⟨a,b,c,s,rfl,ha,-,-,-⟩:=pX.1 hc
 have kI:=fun g':G=>L3 (d:=d+1) (g:=g') (Nat.succ_pos d) ((ha.tree (h':=g'.h) (Nat.le_refl _)):SlR NoP kk g'.h _ a) hx hn
 rw[mP]
 refine lN pi (xs:=[.agg [a,b,c,s],.int .i64 y]) (by simp only[aB,e0,cZ 0]) (by simp[eG]) hd ?_
 simp only[sz,simprocAttr,eG,g_,kI]
structure FcOk (f:Factor):Prop where
 c:CdOk f.cards
 vl:f.vars.length=f.cards.length
 v:S.ax f.vars 64=true
 wl:(f.w.length:Int)=S.aa f.cards
 w:∀x∈f.w,0<=x/\x<=171992678400000000
theorem FW {l:List Int}{n:Int}(h:S.ax l n=true){j:Nat}{y:Int}(hy:l[j]?=some y):cd l j<y/\y<n:=by
 have hj:=(List.getElem?_eq_some_iff.1 hy).1
 have h1:=bh h y (List.mem_of_getElem? hy)
 refine ⟨?_,h1.2⟩
 unfold cd
 split
 ·omega
 ·rename_i e
  obtain ⟨x,hx⟩:∃x,l[j - 1]?=some x:=⟨_,List.getElem?_eq_getElem (by omega)⟩
  rw[hx,Option.getD_some]
  exact lr h hx (by rw[show j - 1+1=j by omega];exact hy)
theorem Mt {a b c s:AV}(hs:s.cells=[s]/\s.isTup=false):dv [.nils,.nils,.nils,.nils] [((0,3),.agg [a,b,c]),((3,1),s)]=some [a,b,c,s]:=by
 simp[dv,hs,cU]
 rfl
def RfV (f:Factor):VS:=fun P k h v=>∃st:List Int,True/\nJ (Agg ((f,st):TbM)) (One (0:Int)) P k h v
theorem wI {d:Nat}{g:G}{v:AV}{f:Factor}(hd:0<d)(hm:Agg f NoP 0 g.h v)(hf:FcOk f):∃r,an C0 d N.aC [v] g=.val r/\RfV f NoP 0 .nil r:=by
 have e0:=cq d hm
 obtain ⟨cs,rfl,hcs⟩:=hm
 obtain ⟨a,b,c,rfl,ha,hb,hc⟩:=aX.1 hcs
 have ha:=ha.tree (h':=.nil) (Nat.le_refl 0)
 have hb:=hb.tree (h':=.nil) (Nat.le_refl 0)
 have hc:=hc.tree (h':=.nil) (Nat.le_refl 0)
 have kc:=fun g':G=>I5 (d:=d+1) (g:=g') (Nat.succ_pos d) (hb.tree (h':=g'.h) (Nat.le_refl 0)) hf.c
 have la:=ha.len
 have lb:=hb.len
 have lc:=hc.len
 have ra:=fun h=>(ha.tree (h':=h) (Nat.le_refl 0):SlR NoP 0 h _ a).ints
 have rb:=fun h=>(hb.tree (h':=h) (Nat.le_refl 0):SlR NoP 0 h _ b).ints
 have rc:=fun h=>(hc.tree (h':=h) (Nat.le_refl 0):SlR NoP 0 h _ c).ints
 have hl8:=hf.c.l8
 have hp:=hf.c.p
 have hwl:=hf.wl
 rw[hf.vl] at la
 rw[hwl] at lc
 rw[uj]
 refine ba vN (xs:=[.agg [a,b,c]]) (by simp only[aB,e0]) (by simp[mK]) (jN fun o=>bN (m:=2) (dy _) (aO _) (by decide) (by decide)) (by decide) hd ?_
 simp only[sz,simprocAttr,mK]
 obtain ⟨g0,hg0⟩:∃g0,g0=(G.empty.new (.cells 3 [[a,b,c]] 0 false false)).new (.cells 4 [[.nils,.nils,.nils,.nils]] 0 false false):=⟨_,rfl⟩
 rw[<-hg0]
 have f0:g0.h.get 0=.cells 3 [[a,b,c]] 0 false false:=by rw[hg0];simp[sx,H.get_put]
 have f1:g0.h.get 1=.cells 4 [[.nils,.nils,.nils,.nils]] 0 false false:=by rw[hg0];simp[sx]
 have f2:g0.nx=2:=by rw[hg0];simp[sx]
 clear hg0
 have l0:aI (.cells 3 [[a,b,c]] 0 false false) 0 0 false 1 0=.val a:=rfl
 have l1:aI (.cells 3 [[a,b,c]] 0 false false) 0 0 false 1 1=.val b:=rfl
 have l2:aI (.cells 3 [[a,b,c]] 0 false false) 0 0 false 1 2=.val c:=rfl
 have l3:aI (.cells 3 [[a,b,c]] 0 false false) 0 0 true 3 0=.val (.agg [a,b,c]):=rfl
 simp only[o6]
 refine bk (P:=fun t' df g'=>df=[]/\g'=g0/\St t' [(1,.hptr 0 0 0 0),(2,.hptr 1 0 0 0),(4,.int .i64 (S.aa f.cards)),(5,.int .i64 0)]) ?_ ?_
 ·simp only[sz,simprocAttr,f0,l1,kc]
  simp[St,sx]
 rintro t df g1 ⟨rfl,hg,h1,h2,h4,h5,-⟩
 rw[hg];clear hg
 refine cV (P:=fun t' df g'=>df=[]/\g'=g0/\St t' [(1,.hptr 0 0 0 0),(2,.hptr 1 0 0 0)]) ?_ ?_
 ·simp only[sz,simprocAttr,h1,h4,h5,f0,l0,l1,l2,la,lb,lc]
  simp[St,sx,h1,h2]
 clear h1 h2 h4 h5
 rintro t df g1 ⟨rfl,hg,h1,h2,-⟩
 rw[hg];clear hg
 rw[<-hf.vl] at la
 rw[<-hwl] at lc
 refine bk (P:=fun t' df g'=>df=[]/\g'=g0/\St t' [(1,.hptr 0 0 0 0),(2,.hptr 1 0 0 0),(6,.int .i64 (-1))]) ?_ ?_
 ·simp only[sz,simprocAttr]
  simp[St,sx,h1,h2]
 clear h1 h2
 rintro t df g1 ⟨rfl,hg,h1,h2,h6,-⟩
 rw[hg];clear hg
 simp only[sz,simprocAttr,h1,f0,l0,la]
 simp only[mT]
 refine aJ (m:=f.vars.length) (by have:=hf.vl;omega) (fun j t df g=>df=[]/\g=g0/\St t [(1,.hptr 0 0 0 0),(2,.hptr 1 0 0 0),(6,.int .i64 (cd f.vars j)),(40,a)]) ⟨rfl,rfl,by simp[St,sx,cd,h1,h2,h6]⟩ (by simp[sx]) (by simp[sx]) (by decide) (by rintro j t df g v s (rfl | rfl | rfl)<;>simp[St,sx]) ?_ ?_
 ·rintro j t df g hj ⟨rfl,rfl,h1,h2,h6,h40,-⟩ h42 h41
  obtain ⟨y,hy,-,-⟩:=au hj
  have u1:j<(f.vars.map ci).length:=by simpa using hj
  have u2:(f.vars.map ci)[j]?=some (ci y):=by rw[List.getElem?_map,hy];rfl
  obtain ⟨q1,q2⟩:=FW hf.v hy
  have c1:¬y<=cd f.vars j:=by omega
  have c2:¬(63:Int)<y:=by omega
  simp only[sz,simprocAttr,h40,h42,ra,u1,u2,ci,h6,c1,c2]
  exact ⟨by simp[St,sx,lO hy,h1,h2,h40],h41⟩
 clear h1 h2 h6
 rintro t df g1 ⟨rfl,hg,h1,h2,h6,-⟩
 rw[hg];clear hg h6
 simp only[sz,simprocAttr,nG,h1,f0,l2,lc]
 simp only[nu]
 refine aJ (m:=f.w.length) (by omega) (fun j t df g=>df=[]/\g=g0/\St t [(1,.hptr 0 0 0 0),(2,.hptr 1 0 0 0),(57,c)]) ⟨rfl,rfl,by simp[St,sx,h1,h2]⟩ (by simp[sx]) (by simp[sx]) (by decide) (by rintro j t df g v s (rfl | rfl | rfl)<;>simp[St,sx]) ?_ ?_
 ·rintro j t df g hj ⟨rfl,rfl,h1,h2,h57,-⟩ h59 h58
  obtain ⟨y,hy,-,hym⟩:=au hj
  have u1:j<(f.w.map ci).length:=by simpa using hj
  have u2:(f.w.map ci)[j]?=some (ci y):=by rw[List.getElem?_map,hy];rfl
  have hyb:=hf.w y hym
  have c1:¬y<0:=by omega
  have c2:¬(4611686018427387903:Int)<y:=by omega
  simp only[sz,simprocAttr,h57,h59,rc,u1,u2,ci,c1,c2]
  exact ⟨by simp[St,sx,h1,h2,h57],h58⟩
 clear h1 h2
 rintro t df g1 ⟨rfl,hg,h1,h2,-⟩
 rw[hg];clear hg
 simp only[sz,simprocAttr,mQ,h1,f0,l1,lb]
 refine jK (b:=2) (n:=f.cards.length) (by unfold a_;omega) (by unfold a_;omega) (by omega) fun W g1 hW n1 fr1 vW=>?_
 have hW':Own g1 2 W 1 ((List.replicate f.cards.length (0:Int)).map ci):=by simpa [ci] using hW
 have hlW:∀(g:G) (X:List Int),X.length=f.cards.length->Own g 2 W 1 (X.map ci)->∀g2:G,ii .slice W g2=.val (.int .i64 (f.cards.length:Int)):=fun g X hX ho g2=>by rw[gG ho.rows];simp[hX]
 have lW:=hlW g1 _ (by simp) hW'
 have w1:IntKind.wrap .i64 ((f.cards.length:Int) - 1)=(f.cards.length:Int) - 1:=aC (by omega) (by omega)
 simp only[sz,simprocAttr,lW,w1]
 simp only[mV]
 have k0:g1.h.get 0=.cells 3 [[a,b,c]] 0 false false:=by rw[fr1 0 (by omega),f0]
 have k1:g1.h.get 1=.cells 4 [[.nils,.nils,.nils,.nils]] 0 false false:=by rw[fr1 1 (by omega),f1]
 refine xI (m:=f.cards.length) (by omega) (fun j t df g=>df=[]/\St t [(1,.hptr 0 0 0 0),(2,.hptr 1 0 0 0),(11,W),(12,.int .i64 (S.aa (f.cards.drop j)))]/\g.h.get 0=.cells 3 [[a,b,c]] 0 false false/\g.h.get 1=.cells 4 [[.nils,.nils,.nils,.nils]] 0 false false/\∃X:List Int,X.length=f.cards.length/\Own g 2 W 1 (X.map ci))
  ⟨rfl,by simp[St,sx,S.aa,h1,h2],k0,k1,_,by simp,hW'⟩ (by simp[sx]) (by decide) (by rintro j t df g v s (rfl | rfl | rfl | rfl | rfl)<;>simp[St,sx]) ?_ ?_
 ·rintro j t df g hj ⟨rfl,⟨h1,h2,h11,h12,-⟩,k0,k1,X,hX,hO⟩ h13
  obtain ⟨y,hy,-,hym⟩:=au hj
  have hyc:=hf.c.c y hym
  obtain ⟨x,hx⟩:∃x,X[j]?=some x:=⟨_,List.getElem?_eq_getElem (by omega)⟩
  have u1:j<(X.map ci).length:=by simp;omega
  have u2:(X.map ci)[j]?=some (ci x):=by rw[List.getElem?_map,hx];rfl
  have u3:j<(f.cards.map ci).length:=by simp;omega
  have u4:(f.cards.map ci)[j]?=some (ci y):=by rw[List.getElem?_map,hy];rfl
  have hpd:=qP hy
  have hpl:=jP hf.c j
  have hp1:1<=S.aa (f.cards.drop (j+1)):=aW fun c hc=>by have:=hf.c.c c (List.mem_of_mem_drop hc);omega
  have hp0:1<=S.aa (f.cards.drop j):=aW fun c hc=>by have:=hf.c.c c (List.mem_of_mem_drop hc);omega
  have w2:IntKind.wrap .i64 (S.aa (f.cards.drop (j+1))*y)=S.aa (f.cards.drop j):=by rw[Int.mul_comm,<-hpd,aC (by omega) (by omega)]
  have rO:=hO.rows
  have hry:qf W=true:=nW rO u1
  simp only[sz,simprocAttr,h11,h12,h13,rO,u1,hry]
  refine bC (v:=W) (sz:=1) (n:=1) (i:=j) (off:=0) (x:=.int .i64 (S.aa (f.cards.drop (j+1)))) (row':=ci (S.aa (f.cards.drop (j+1)))) hO u2 rfl rfl rfl fun g4 hO4 n4 f4=>?_
  rw[<-List.map_set] at hO4
  have q0:g4.h.get 0=.cells 3 [[a,b,c]] 0 false false:=by rw[f4 0 fun e=>by have:=(hO.lt e).1;omega,k0]
  have q1:g4.h.get 1=.cells 4 [[.nils,.nils,.nils,.nils]] 0 false false:=by rw[f4 1 fun e=>by have:=(hO.lt e).1;omega,k1]
  simp only[sz,simprocAttr,h1,h12,h13,q0,l1,rb,u3,u4,ci,w2]
  exact ⟨by simp[St,sx,h1,h2,h11],q1,_,by simpa using hX,hO4⟩
 ·rintro t df g ⟨rfl,⟨h1,h2,h11,h12,-⟩,k0,k1,X,hX,hO⟩
  simp only[sz,simprocAttr,mS,h1,h2,h11,k0,k1,l3,Mt hO.cell]
  refine ⟨fun _=>True,X,_,_,rfl,⟨_,rfl,pX.2 ⟨a,b,c,W,rfl,ha.wide (Nat.le_refl 0),hb.wide (Nat.le_refl 0),hc.wide (Nat.le_refl 0),?_⟩⟩,ay.2 rfl⟩
  obtain ⟨u',eu,hsl⟩:=(hO.fr (g':=g.put 1 (.cells 4 [[a,b,c,W]] 0 false false)) (by simp) fun i hi=>by have:=(hO.lt hi).1;simp[H.get_put,show ¬i=1 by omega]).ints (k:=0) (by omega)
  injection eu with eu
  subst eu
  exact hsl
def S.af (l:List Int)(ps:List Nat):List Int:=ps.map fun p=>l[p]?.getD 0
theorem dk (l:List Int)(ps:List Nat):(S.af l ps).length=ps.length:=by simp[S.af]
theorem rN {l:List Int}{ps:List Nat}{k p:Nat}(h:ps[k]?=some p):(S.af l ps)[k]?=some (l[p]?.getD 0):=by simp[S.af,h]
structure PsOk (f:Factor) (ps:List Nat):Prop where
 lt:∀p∈ps,p<f.vars.length
 nd:ps.Nodup
 c:CdOk (S.af f.cards ps)
theorem zC {f:Factor}(hf:FcOk f){p:Nat}{y:Int}(hy:f.vars[p]?=some y):∀i,i<p->f.vars[i]?≠some y:=fun i hi h=>by
 have:=tQ hf.v h hy hi
 omega
def LGa (m:Nat)(z:AV):List (Nat×AV):=[(1,z),(3,.hptr 0 0 0 0),(5,.hptr 1 0 0 0),(6,.hptr 2 0 0 0)]
structure GaH (cs:List AV) (op:AV) (g:G):Prop where
 h0:g.h.get 0=.cells 4 [cs] 0 false false
 h1:g.h.get 1=.cells 1 [[op]] 0 false false
 h2:g.h.get 2=.cells 3 [[.nils,.nils,.nils]] 0 false false
theorem GaH.fr {cs:List AV}{op:AV}{g g':G}(h:GaH cs op g)(hf:∀i,i<3->g'.h.get i=g.h.get i):GaH cs op g':=⟨by rw[hf 0 (by omega),h.h0],by rw[hf 1 (by omega),h.h1],by rw[hf 2 (by omega),h.h2]⟩
theorem Gt {d k0:Nat}{f:Factor}{st:List Int}{a b c s op z W:AV}{ps:List Nat}{Q:QT}{t:T}{g:G}(hd:0<d)(hf:FcOk f)(hps:PsOk f ps)(hm:Rp.rp NoP 0 .nil ((f,st):TbM) [a,b,c,s])(hz:SlR NoP k0 .nil (S.af f.vars ps) z)
  (ht:St t (LGa 0 z)) (h8:tat t 8=W) (h9:tat t 9=.int .i64 1) (h22:tat t 22=z) (h23:tat t 23=.int .i64 (ps.length:Int)) (h24:tat t 24=.int .i64 0) (hH:GaH [a,b,c,s] op g) (hW:Own g 3 W 1 ((List.replicate ps.length (0:Int)).map ci))
  (fin:∀t g',St t (LGa 0 z)->tat t 8=W->tat t 9=.int .i64 (S.aa (S.af f.cards ps))->GaH [a,b,c,s] op g'->Own g' 3 W 1 ((S.af f.cards ps).map ci)->3<=g'.nx->Q (.exit 0) t [] g') (hn:3<=g.nx):wpL (wp C0 d none dq) Q t [] g:=by
 obtain ⟨a',b',c',s',ecs,ha,hb,hc,hs⟩:=pX.1 hm
 injection ecs with e1 ecs
 injection ecs with e2 ecs
 injection ecs with e3 ecs
 injection ecs with e4 ecs
 subst e1;subst e2;subst e3;subst e4
 have rb:=fun h=>(hb.tree (h':=h) (Nat.le_refl 0):SlR NoP 0 h f.cards b).ints
 have rz:=fun h=>(hz.tree (h':=h) (Nat.le_refl _):SlR NoP k0 h _ z).ints
 have hl8:=hps.c.l8
 rw[dk] at hl8
 have hpb:=hps.c.p
 have l1:aI (.cells 4 [[a,b,c,s]] 0 false false) 0 0 false 1 1=.val b:=rfl
 have l4:aI (.cells 4 [[a,b,c,s]] 0 false false) 0 0 true 4 0=.val (.agg [a,b,c,s]):=rfl
 simp only[dq]
 refine aJ (m:=ps.length) (by omega) (fun j t df g'=>df=[]/\St t ((8,W)::(9,.int .i64 (S.aa ((S.af f.cards ps).take j)))::(22,z)::LGa 0 z)/\GaH [a,b,c,s] op g'/\3<=g'.nx/\Own g' 3 W 1 (((S.af f.cards ps).take j++List.replicate (ps.length - j) (0:Int)).map ci))
  ⟨rfl,?_,hH,hn,by simpa using hW⟩ h24 h23 (by decide) ?_ ?_ ?_
 ·obtain ⟨h1,h3,h5,h6,-⟩:=ht
  exact ⟨h8,by rw[h9];rfl,h22,h1,h3,h5,h6,trivial⟩
 ·rintro j t df g' v s hs ⟨a1,⟨b1,b2,b3,b4,b5,b6,b7,-⟩,a3⟩
  refine ⟨a1,?_,a3⟩
  rcases hs with rfl | rfl | rfl<;>simp[St,LGa,sx,b1,b2,b3,b4,b5,b6,b7]
 ·rintro j t df g hj ⟨rfl,⟨h8,h9,h22,h1,h3,h5,h6,-⟩,hH,hn,hO⟩ h24 h23
  obtain ⟨p,hp⟩:∃p,ps[j]?=some p:=⟨_,List.getElem?_eq_getElem hj⟩
  have hpl:=hps.lt p (List.mem_of_getElem? hp)
  obtain ⟨y,hy⟩:∃y,f.vars[p]?=some y:=⟨_,List.getElem?_eq_getElem hpl⟩
  have hpc:p<f.cards.length:=by rw[<-hf.vl];exact hpl
  obtain ⟨x,hx⟩:∃x,f.cards[p]?=some x:=⟨_,List.getElem?_eq_getElem hpc⟩
  have hx4:=hf.c.c x (List.mem_of_getElem? hx)
  have u1:j<((S.af f.vars ps).map ci).length:=by simp[dk];exact hj
  have u2:((S.af f.vars ps).map ci)[j]?=some (ci y):=by rw[List.getElem?_map,rN hp,hy];rfl
  have u3:p<(f.cards.map ci).length:=by simpa using hpc
  have u4:(f.cards.map ci)[p]?=some (ci x):=by rw[List.getElem?_map,hx];rfl
  have hax:(S.af f.cards ps)[j]?=some x:=by rw[rN hp,hx];rfl
  have htk:(S.af f.cards ps).take (j+1)=(S.af f.cards ps).take j++[x]:=by rw[List.take_add_one,hax];rfl
  have hlen:((S.af f.cards ps).take j).length=j:=by rw[List.length_take,dk];omega
  have u5:j<(((S.af f.cards ps).take j++List.replicate (ps.length - j) (0:Int)).map ci).length:=by simp[dk];omega
  have u6:(((S.af f.cards ps).take j++List.replicate (ps.length - j) (0:Int)).map ci)[j]?=some (ci 0):=by
   rw[List.getElem?_map,List.getElem?_append_right (by omega),hlen,Nat.sub_self,List.getElem?_replicate,if_pos (by omega)];rfl
  have hset:((S.af f.cards ps).take j++List.replicate (ps.length - j) (0:Int)).set j x=(S.af f.cards ps).take (j+1)++List.replicate (ps.length - (j+1)) 0:=by
   rw[List.set_append_right _ _ (by omega),hlen,Nat.sub_self,htk,List.append_assoc]
   obtain ⟨q,hq⟩:∃q,ps.length - j=q+1:=⟨ps.length - j - 1,by omega⟩
   rw[hq,show ps.length - (j+1)=q by omega,List.replicate_succ]
   rfl
  have hpt:=ta hps.c (j+1)
  have hpe:S.aa ((S.af f.cards ps).take (j+1))=S.aa ((S.af f.cards ps).take j)*x:=by rw[htk,gz]
  have w1:IntKind.wrap .i64 (S.aa ((S.af f.cards ps).take j)*x)=S.aa ((S.af f.cards ps).take (j+1)):=by rw[<-hpe,aC (by omega) (by omega)]
  have kP:∀g':G,an C0 d N.af [.agg [a,b,c,s],.int .i64 y] g'=.val (.int .i64 (p:Int)):=fun g'=>wP (kk:=0) (x:=((f,st):TbM)) hd ⟨_,rfl,Rp.tree hm (Nat.le_refl 0)⟩ (by omega) hy (zC hf hy)
  have rO:=hO.rows
  have hryW:qf W=true:=nW rO u5
  refine bk (P:=fun t' df g'=>df=[]/\g'=g/\St t' ((24,.int .i64 (j:Int))::(23,.int .i64 (ps.length:Int))::(10,.int .i64 (j:Int))::(11,.int .i64 y)::(8,W)::(9,.int .i64 (S.aa ((S.af f.cards ps).take j)))::(22,z)::LGa 0 z)) ?_ ?_
  ·simp only[sz,simprocAttr,h22,h24,rz,u1,u2,ci]
   simp[St,LGa,sx,h8,h9,h22,h1,h3,h5,h6,h23,h24]
  clear h8 h9 h22 h1 h3 h5 h6 h23 h24
  rintro t df g1 ⟨rfl,hg,h24,h23,h10,h11,h8,h9,h22,h1,h3,h5,h6,-⟩
  rw[hg];clear hg
  refine cV (P:=fun t' df g'=>df=[]/\GaH [a,b,c,s] op g'/\3<=g'.nx/\Own g' 3 W 1 (((S.af f.cards ps).take (j+1)++List.replicate (ps.length - (j+1)) (0:Int)).map ci)/\St t' ((24,.int .i64 (j:Int))::(23,.int .i64 (ps.length:Int))::(10,.int .i64 (j:Int))::(8,W)::(9,.int .i64 (S.aa ((S.af f.cards ps).take j)))::(22,z)::LGa 0 z)) ?_ ?_
  ·simp only[sz,simprocAttr,sf,h8,h10,h3,h11,hH.h0,l1,l4,kP,rb,u3,u4,ci,rO,u5,hryW]
   refine bC (v:=W) (sz:=1) (n:=1) (i:=j) (off:=0) (x:=.int .i64 x) (row':=ci x) (hO.fr (by simp;omega) fun i _=>by simp) u6 rfl rfl rfl fun g4 hu4 n4 f4=>?_
   rw[<-List.map_set,hset] at hu4
   simp only[bumpG_nx,setLog_nx] at n4
   simp only[sx,sy,↓reduceIte,Nat.reduceEqDiff]
   refine ⟨?_,⟨?_,by omega,hu4.fr (by simp) fun i _=>by simp,by simp[St,LGa,sx,h8,h9,h22,h1,h3,h5,h6,h10,h23,h24]⟩⟩
   ·simp only[List.reverse_cons,List.reverse_nil,List.nil_append,List.cons_append]
    exact aL [false,false,false,false,false,false,false,false,false,false,false,true] [] (by simp[All2,ae,aA,gx]) (by decide) (by simp)
   ·exact hH.fr fun i hi=>by rw[bumpG_h,f4 i fun e=>by have:=(hO.lt e).1;omega];simp
  clear h8 h9 h22 h1 h3 h5 h6 h10 h23 h24 hH hO hn rO
  rintro t df g1 ⟨rfl,hH,hn,hO,h24,h23,h10,h8,h9,h22,h1,h3,h5,h6,-⟩
  have rO:=hO.rows
  have u7:j<(((S.af f.cards ps).take (j+1)++List.replicate (ps.length - (j+1)) (0:Int)).map ci).length:=by simp[dk];omega
  have u8:(((S.af f.cards ps).take (j+1)++List.replicate (ps.length - (j+1)) (0:Int)).map ci)[j]?=some (ci x):=by
   rw[List.getElem?_map,List.getElem?_append_left (by rw[List.length_take,dk];omega),List.getElem?_take_of_lt (by omega),hax];rfl
  simp only[sz,simprocAttr,h8,h9,h10,rO,u7,u8,ci,w1]
  exact ⟨⟨by simp[St,LGa,sx,h8,h22,h1,h3,h5,h6],hH,hn,hO⟩,h24,h23⟩
 ·rintro t df g ⟨rfl,⟨h8,h9,h22,ht⟩,hH,hn,hO⟩
  have e:(S.af f.cards ps).take ps.length=S.af f.cards ps:=List.take_of_length_le (by rw[dk];omega)
  rw[e] at h9 hO
  exact fin t g ht h8 h9 hH (by simpa using hO) hn
structure StI (f:Factor) (ps:List Nat) (j:Nat) (X:List Int):Prop where
 len:X.length=f.vars.length
 b:∀x∈X,0<=x/\x<=1024
 zero:∀p,p ∉ ps.drop j->X[p]?.getD 0=0
 dt:∀vals:List Int,S.dt vals X f.vars.length=S.ah ((S.af f.cards ps).drop j) ((S.af vals ps).drop j)
theorem Iu {vals X:List Int}{p:Nat}{y:Int}(h0:X[p]?.getD 0=0):∀{m:Nat},p<X.length->m<=X.length->S.dt vals (X.set p y) m=S.dt vals X m+if p<m then vals[p]?.getD 0*y else 0
 | 0,_,_=>by simp[S.dt]
 | m+1,hp,hm=>by
  rw[S.dt,S.dt,Iu h0 hp (by omega)]
  by_cases e:p=m
  ·subst e
   rw[List.getElem?_set_self hp,h0,Option.getD_some,if_neg (by omega),if_pos (by omega)]
   omega
  ·rw[List.getElem?_set_ne e]
   by_cases h:p<m
   ·rw[if_pos h,if_pos (by omega)];omega
   ·rw[if_neg h,if_neg (by omega)];omega
theorem Ht {f:Factor}{ps:List Nat}:StI f ps ps.length (List.replicate f.vars.length 0):=by
 refine ⟨by simp,fun x hx=>?_,fun p _=>?_,fun vals=>?_⟩
 ·have:=(List.mem_replicate.1 hx).2;omega
 ·rw[List.getElem?_replicate];split<;>rfl
 ·have e1:(S.af f.cards ps).drop ps.length=[]:=List.drop_of_length_le (by rw[dk];omega)
  have e2:(S.af vals ps).drop ps.length=[]:=List.drop_of_length_le (by rw[dk];omega)
  rw[e1,e2]
  have:∀m,S.dt vals (List.replicate f.vars.length 0) m=0:=fun m=>by
   induction m with
   | zero=>rfl
   | succ m ih =>
    rw[S.dt,ih,List.getElem?_replicate]
    split<;>simp
  rw[this];rfl
theorem wS {α:Type}{l:List α}{j:Nat}{x:α}(h:l[j]?=some x):l.drop j=x::l.drop (j+1):=by
 obtain ⟨h1,h2⟩:=List.getElem?_eq_some_iff.1 h
 rw[<-h2];exact List.drop_eq_getElem_cons h1
theorem HM {f:Factor}{ps:List Nat}(hps:PsOk f ps){j p:Nat}{X:List Int}(hX:StI f ps (j+1) X)(hp:ps[j]?=some p):StI f ps j (X.set p (S.aa ((S.af f.cards ps).drop (j+1)))):=by
 have hpl:=hps.lt p (List.mem_of_getElem? hp)
 have hpd:ps.drop j=p::ps.drop (j+1):=wS hp
 have hnd:p ∉ ps.drop (j+1):=by
  have h1:(ps.drop j).Nodup:=hps.nd.sublist (List.drop_sublist j ps)
  rw[hpd] at h1
  exact (List.nodup_cons.1 h1).1
 have h0:=hX.zero p hnd
 have hle:=jP hps.c (j+1)
 have hpb:=hps.c.p
 have hpos:1<=S.aa ((S.af f.cards ps).drop (j+1)):=aW fun c hc=>by have:=hps.c.c c (List.mem_of_mem_drop hc);omega
 have hlen:=hX.len
 refine ⟨by simpa using hlen,fun x hx=>?_,fun q hq=>?_,fun vals=>?_⟩
 ·rcases List.mem_or_eq_of_mem_set hx with h | rfl
  ·exact hX.b x h
  ·omega
 ·rw[hpd] at hq
  simp only[List.mem_cons,not_or] at hq
  rw[List.getElem?_set_ne (Ne.symm hq.1)]
  exact hX.zero q hq.2
 ·rw[Iu h0 (by omega) (by omega),if_pos (by omega),hX.dt vals,wS (rN (l:=f.cards) hp),wS (rN (l:=vals) hp),S.ah]
  omega
theorem FQ {d k0:Nat}{f:Factor}{st:List Int}{a b c s op z W U:AV}{ps:List Nat}{Q:QT}{t:T}{g:G}{w12:AV}(hd:0<d)(hf:FcOk f)(hps:PsOk f ps)(hm:Rp.rp NoP 0 .nil ((f,st):TbM) [a,b,c,s])(hz:SlR NoP k0 .nil (S.af f.vars ps) z)
  (ht:St t (LGa 0 z)) (h8:tat t 8=W) (h12:tat t 12=w12) (h13:tat t 13=U) (h14:tat t 14=.int .i64 1) (h15:tat t 15=.int .i64 ((ps.length:Int) - 1)) (hH:GaH [a,b,c,s] op g) {lo:Nat} (hlo:3<=lo) (hgn:3<=g.nx) (hW:Own g 3 W 1 ((S.af f.cards ps).map ci)) (hWl:∀i,vid W=some i->i<lo) (hU:Own g lo U 1 ((List.replicate f.vars.length (0:Int)).map ci))
  (fin:∀t g' X,St t (LGa 0 z)->tat t 8=W->tat t 12=w12->tat t 13=U->StI f ps 0 X->Own g' lo U 1 (X.map ci)->(∀i,i<g.nx->vid U≠some i->g'.h.get i=g.h.get i)->g.nx<=g'.nx->Q (.exit 2) t [] g'):wpL (wp C0 d none dc) Q t [] g:=by
 obtain ⟨a',b',c',s',ecs,ha,hb,hc,hs⟩:=pX.1 hm
 injection ecs with e1 ecs
 injection ecs with e2 ecs
 injection ecs with e3 ecs
 injection ecs with e4 ecs
 subst e1;subst e2;subst e3;subst e4
 have rz:=fun h=>(hz.tree (h':=h) (Nat.le_refl _):SlR NoP k0 h _ z).ints
 have hl8:=hps.c.l8
 rw[dk] at hl8
 have hpb:=hps.c.p
 have l4:aI (.cells 4 [[a,b,c,s]] 0 false false) 0 0 true 4 0=.val (.agg [a,b,c,s]):=rfl
 simp only[dc]
 refine xI (m:=ps.length) (by omega) (fun j t df g'=>df=[]/\St t ((8,W)::(12,w12)::(13,U)::(14,.int .i64 (S.aa ((S.af f.cards ps).drop j)))::LGa 0 z)/\(∀i,i<g.nx->vid U≠some i->g'.h.get i=g.h.get i)/\g.nx<=g'.nx/\∃X,StI f ps j X/\Own g' lo U 1 (X.map ci))
  ⟨rfl,?_,fun _ _ _=>rfl,Nat.le_refl _,_,Ht,hU⟩ h15 (by decide) ?_ ?_ ?_
 ·obtain ⟨h1,h3,h5,h6,-⟩:=ht
  exact ⟨h8,h12,h13,by rw[h14,List.drop_of_length_le (by rw[dk];omega)];rfl,h1,h3,h5,h6,trivial⟩
 ·rintro j t df g' v s hs ⟨a1,⟨b1,b2,b3,b4,b5,b6,b7,b8,-⟩,a3⟩
  refine ⟨a1,?_,a3⟩
  rcases hs with rfl | rfl | rfl | rfl | rfl<;>simp[St,LGa,sx,b1,b2,b3,b4,b5,b6,b7,b8]
 ·rintro j t df g1 hj ⟨rfl,⟨h8,h12,h13,h14,h1,h3,h5,h6,-⟩,hfr,hn,X,hX,hO⟩ h15
  obtain ⟨p,hp⟩:∃p,ps[j]?=some p:=⟨_,List.getElem?_eq_getElem hj⟩
  have hpl:=hps.lt p (List.mem_of_getElem? hp)
  have hXl:=hX.len
  obtain ⟨y,hy⟩:∃y,f.vars[p]?=some y:=⟨_,List.getElem?_eq_getElem hpl⟩
  obtain ⟨x,hx⟩:∃x,X[p]?=some x:=⟨_,List.getElem?_eq_getElem (by omega)⟩
  have u1:j<((S.af f.vars ps).map ci).length:=by simp[dk];exact hj
  have u2:((S.af f.vars ps).map ci)[j]?=some (ci y):=by rw[List.getElem?_map,rN hp,hy];rfl
  have u5:p<(X.map ci).length:=by simp;omega
  have u6:(X.map ci)[p]?=some (ci x):=by rw[List.getElem?_map,hx];rfl
  obtain ⟨cc,hcc⟩:∃cc,(S.af f.cards ps)[j]?=some cc:=⟨_,rN hp⟩
  have hcc4:=hps.c.c cc (List.mem_of_getElem? hcc)
  have kP:∀g':G,an C0 d N.af [.agg [a,b,c,s],.int .i64 y] g'=.val (.int .i64 (p:Int)):=fun g'=>wP (kk:=0) (x:=((f,st):TbM)) hd ⟨_,rfl,Rp.tree hm (Nat.le_refl 0)⟩ (by omega) hy (zC hf hy)
  have rO:=hO.rows
  have hryU:qf U=true:=nW rO u5
  have q0:g1.h.get 0=.cells 4 [[a,b,c,s]] 0 false false:=by
   rw[hfr 0 (by omega) fun e=>by have:=(hO.lt e).1;omega,hH.h0]
  refine cV (P:=fun t' df g'=>df=[]/\(∀i,i<g.nx->vid U≠some i->g'.h.get i=g.h.get i)/\g.nx<=g'.nx/\(∃X,StI f ps j X/\Own g' lo U 1 (X.map ci))/\St t' ((15,.int .i64 (j:Int))::(8,W)::(12,w12)::(13,U)::(14,.int .i64 (S.aa ((S.af f.cards ps).drop (j+1))))::LGa 0 z)) ?_ ?_
  ·simp only[sz,simprocAttr,sf,h13,h14,h15,h1,h3,q0,l4,kP,rz,u1,u2,ci,rO,u5,hryU]
   refine bC (v:=U) (sz:=1) (n:=1) (i:=p) (off:=0) (x:=.int .i64 (S.aa ((S.af f.cards ps).drop (j+1)))) (row':=ci (S.aa ((S.af f.cards ps).drop (j+1)))) (hO.fr (by simp;omega) fun i _=>by simp) u6 rfl rfl rfl fun g4 hu4 n4 f4=>?_
   rw[<-List.map_set] at hu4
   simp only[bumpG_nx,setLog_nx] at n4
   simp only[sx,sy,↓reduceIte,Nat.reduceEqDiff]
   refine ⟨?_,⟨fun i hi hv=>?_,by omega,⟨_,HM hps hX hp,hu4.fr (by simp) fun i _=>by simp⟩,by simp[St,LGa,sx,h8,h12,h13,h14,h1,h3,h5,h6,h15]⟩⟩
   ·simp only[List.reverse_cons,List.reverse_nil,List.nil_append,List.cons_append]
    exact aL [false,false,false,false,false,false,false,false,false,true] [] (by simp[All2,ae,aA,gx]) (by decide) (by simp)
   ·rw[f4 i hv];simp;exact hfr i hi hv
  clear h8 h12 h13 h14 h1 h3 h5 h6 h15 hfr hn hO rO
  rintro t df g2 ⟨rfl,hfr,hn,hO,h15,h8,h12,h13,h14,h1,h3,h5,h6,-⟩
  have hW2:Own g2 3 W 1 ((S.af f.cards ps).map ci):=hW.fr hn fun i hi=>hfr i (hW.lt hi).2 fun e=>by
   obtain ⟨X',-,hO'⟩:=hO
   have:=(hO'.lt e).1
   have:=hWl i hi
   omega
  have rW:=hW2.rows
  have u7:j<((S.af f.cards ps).map ci).length:=by simp[dk];exact hj
  have u8:((S.af f.cards ps).map ci)[j]?=some (ci cc):=by rw[List.getElem?_map,hcc];rfl
  have hpd:=qP hcc
  have hple:=jP hps.c j
  have hpos:1<=S.aa ((S.af f.cards ps).drop j):=aW fun c hc=>by have:=hps.c.c c (List.mem_of_mem_drop hc);omega
  have w1:IntKind.wrap .i64 (S.aa ((S.af f.cards ps).drop (j+1))*cc)=S.aa ((S.af f.cards ps).drop j):=by rw[Int.mul_comm,<-hpd,aC (by omega) (by omega)]
  simp only[sz,simprocAttr,h8,h14,h15,rW,u7,u8,ci,w1]
  exact ⟨by simp[St,LGa,sx,h8,h12,h13,h1,h3,h5,h6],hfr,hn,hO⟩
 ·rintro t df g1 ⟨rfl,⟨h8,h12,h13,h14,ht⟩,hfr,hn,X,hX,hO⟩
  exact fin t g1 X ht h8 h12 h13 hX hO hfr hn
end
end Hx
end
section
namespace Hx
open Go
def S.sm (F:Nat->Int):Nat->Int
 | 0=>0
 | j+1=>S.sm F j+F j
theorem cJ {F G:Nat->Int}:∀{k:Nat},(∀i,i<k->F i=G i)->S.sm F k=S.sm G k
 | 0,_=>rfl
 | k+1,h=>by rw[S.sm,S.sm,cJ fun i hi=>h i (by omega),h k (by omega)]
theorem CT (F G:Nat->Int):∀k,S.sm (fun i=>F i+G i) k=S.sm F k+S.sm G k
 | 0=>rfl
 | k+1=>by rw[S.sm,S.sm,S.sm,CT F G k];omega
theorem wz (c:Int)(F:Nat->Int):∀k,S.sm (fun i=>c*F i) k=c*S.sm F k
 | 0=>by simp[S.sm]
 | k+1=>by rw[S.sm,S.sm,wz c F k,Int.mul_add]
theorem pR (c:Int):∀k:Nat,S.sm (fun _=>c) k=k*c
 | 0=>by simp[S.sm]
 | k+1=>by
  rw[S.sm,pR c k]
  have:((k+1:Nat):Int)=(k:Int)+1:=by omega
  rw[this,Int.add_mul,Int.one_mul]
theorem HI (F:Nat->Int)(a:Nat):∀b,S.sm F (a+b)=S.sm F a+S.sm (fun j=>F (a+j)) b
 | 0=>by simp[S.sm]
 | b+1=>by rw[<-Nat.add_assoc,S.sm,S.sm,HI F a b];omega
theorem AL (F:Nat->Int)(b:Nat):∀a,S.sm F (a*b)=S.sm (fun i=>S.sm (fun j=>F (i*b+j)) b) a
 | 0=>by simp[S.sm]
 | a+1=>by rw[Nat.add_mul,Nat.one_mul,HI,S.sm,AL F b a]
def S.au:List Int->(List Int->Int)->Int
 | [],F=>F []
 | c::cs,F=>S.sm (fun x=>S.au cs fun vs=>F ((x:Int)::vs)) c.toNat
theorem m_:∀{cs:List Int} {F G:List Int->Int},(∀vs,InC cs vs->F vs=G vs)->S.au cs F=S.au cs G
 | [],_,_,h=>h [] trivial
 | c::cs,F,G,h=>by
  rw[S.au,S.au]
  exact cJ fun i hi=>m_ fun vs hv=>h _ ⟨⟨by omega,by omega⟩,hv⟩
theorem Ez:∀(cs:List Int) (F G:List Int->Int),S.au cs (fun v=>F v+G v)=S.au cs F+S.au cs G
 | [],_,_=>rfl
 | c::cs,F,G=>by
  rw[S.au,S.au,S.au,<-CT]
  exact cJ fun i _=>Ez cs _ _
theorem Fv (k:Int):∀(cs:List Int) (F:List Int->Int),S.au cs (fun v=>k*F v)=k*S.au cs F
 | [],_=>rfl
 | c::cs,F=>by
  rw[S.au,S.au,<-wz]
  exact cJ fun i _=>Fv k cs _
theorem BQ:∀cs:List Int,S.au cs (fun _=>0)=0
 | []=>rfl
 | c::cs=>by
  rw[S.au,cJ (G:=fun _=>0) fun i _=>BQ cs,pR];simp
theorem IX (cs:List Int)(F:Nat->List Int->Int):∀k,S.au cs (fun v=>S.sm (fun x=>F x v) k)=S.sm (fun x=>S.au cs (F x)) k
 | 0=>BQ cs
 | k+1=>by
  rw[S.sm,<-IX cs F k,<-Ez]
  exact m_ fun _ _=>rfl
theorem Fn:∀{cs:List Int},(∀c∈cs,1<=c)->S.au cs (fun _=>1)=S.aa cs
 | [],_=>rfl
 | c::cs,h=>by
  rw[S.au,cJ (G:=fun _=>S.aa cs) fun i _=>Fn fun x hx=>h x (by simp[hx]),pR,bG]
  have:=h c (by simp)
  rw[Int.toNat_of_nonneg (by omega)]
theorem Fp:∀{a va b vb:List Int},InC a va->InC b vb->InC (a++b) (va++vb)
 | [],[],_,_,_,h=>h
 | _::_,_::_,_,_,h1,h2=>⟨h1.1,Fp h1.2 h2⟩
theorem xH:∀{cs pre pv:List Int} (F:List Int->Int),(∀c∈pre++cs,1<=c)->InC pre pv ->
  S.sm (fun j=>F (S.ak (pre++cs) (S.ah pre pv*S.aa cs+(j:Int)))) (S.aa cs).toNat=S.au cs fun vs=>F (pv++vs)
 | [],pre,pv,F,hc,hp=>by
  have e:S.ak pre (S.ah pre pv*S.aa []+((0:Nat):Int))=pv:=by
   have:S.ah pre pv*S.aa []+((0:Nat):Int)=S.ah pre pv:=by simp[S.aa]
   rw[this]
   exact nY (fun c h=>hc c (by simp[h])) hp
  show S.sm _ 1=F (pv++[])
  rw[S.sm,S.sm,List.append_nil,List.append_nil,e];omega
 | c::cs,pre,pv,F,hc,hp=>by
  have hcc:=hc c (by simp)
  have hP:1<=S.aa cs:=aW fun x hx=>hc x (by simp[hx])
  obtain ⟨P,hPe⟩:=Int.eq_ofNat_of_zero_le (show 0<=S.aa cs by omega)
  obtain ⟨C,hCe⟩:=Int.eq_ofNat_of_zero_le (show 0<=c by omega)
  have e1:(S.aa (c::cs)).toNat=C*P:=by rw[bG,hPe,hCe,<-Int.natCast_mul,Int.toNat_natCast]
  rw[e1,AL,S.au,hCe,Int.toNat_natCast]
  refine cJ fun i hi=>?_
  have ih:=xH (cs:=cs) (pre:=pre++[(C:Int)]) (pv:=pv++[(i:Int)]) F (by rw[<-hCe];simpa using hc) (Fp hp ⟨⟨by omega,by omega⟩,trivial⟩)
  rw[hPe,Int.toNat_natCast] at ih
  have el:=hp.len
  rw[lR _ _ el.symm] at ih
  have e2:∀vs,pv++[(i:Int)]++vs=pv++(i:Int)::vs:=fun vs=>by simp
  simp only[e2] at ih
  rw[<-ih]
  refine cJ fun j _=>?_
  have e3:pre++[(C:Int)]++cs=pre++(C:Int)::cs:=by simp
  rw[e3]
  congr 2
  have e4:S.ah [(C:Int)] [(i:Int)]=(i:Int):=by simp[S.ah,S.aa]
  have e5:S.aa [(C:Int)]=(C:Int):=by simp[S.aa]
  rw[e4,e5,bG,hPe,Int.add_mul,Int.natCast_add,Int.natCast_mul,Int.mul_assoc]
  omega
theorem yw (gr:Int):∀{cs:List Int} {v:Nat} {c:Int} {G f:List Int->Int},cs[v]?=some c->0<=c->(∀vs x,InC cs vs->G (vs.set v x)=G vs)->(∀vs,InC cs vs->S.sm (fun x=>f (vs.set v (x:Int))) c.toNat=gr) ->
  c*S.au cs (fun vs=>G vs*f vs)=gr*S.au cs G
 | [],v,c,G,f,hc,_,_,_=>by simp at hc
 | c'::cs,0,c,G,f,hc,h0,hG,hf=>by
  simp at hc
  subst hc
  by_cases hz:c'=0
  ·subst hz;simp[S.au,S.sm]
  have hin:∀vs,InC cs vs->InC (c'::cs) (0::vs):=fun vs hv=>⟨⟨Int.le_refl _,by omega⟩,hv⟩
  have e1:S.au (c'::cs) G=c'*S.au cs (fun vs=>G (0::vs)):=by
   rw[S.au,cJ (G:=fun _=>S.au cs fun vs=>G (0::vs)) fun i _=>m_ fun vs hv=>?_,pR,Int.toNat_of_nonneg h0]
   exact hG (0::vs) (i:Int) (hin vs hv)
  have e2:S.au (c'::cs) (fun vs=>G vs*f vs)=gr*S.au cs (fun vs=>G (0::vs)):=by
   rw[S.au,<-IX,<-Fv]
   refine m_ fun vs hv=>?_
   rw[cJ (G:=fun x=>G (0::vs)*f ((x:Int)::vs)) fun i _=>by rw[show G ((i:Int)::vs)=G (0::vs) from hG (0::vs) (i:Int) (hin vs hv)],wz]
   have:=hf (0::vs) (hin vs hv)
   simp only[List.set_cons_zero] at this
   rw[this,Int.mul_comm]
  rw[e1,e2,Int.mul_left_comm]
 | c'::cs,v+1,c,G,f,hc,h0,hG,hf=>by
  rw[S.au,S.au,<-wz,<-wz]
  refine cJ fun i hi=>?_
  have hc:cs[v]?=some c:=by simpa using hc
  have hin:∀vs,InC cs vs->InC (c'::cs) ((i:Int)::vs):=fun vs hv=>⟨⟨by omega,by omega⟩,hv⟩
  exact yw gr (G:=fun vs=>G ((i:Int)::vs)) (f:=fun vs=>f ((i:Int)::vs)) hc h0 (fun vs x hv=>hG ((i:Int)::vs) x (hin vs hv)) fun vs hv=>hf ((i:Int)::vs) (hin vs hv)
def S.pT (T:Nat)(n:Nat)(f:Nat->Int):Int:=S.aa ((List.range n).map fun u=>if T.testBit u then f u else 1)
theorem lM (T n:Nat)(f:Nat->Int):S.pT T (n+1) f=S.pT T n f*if T.testBit n then f n else 1:=by
 rw[S.pT,List.range_succ,List.map_append,List.map_singleton,gz];rfl
theorem Bj {T:Nat}{f g:Nat->Int}:∀{n:Nat},(∀u,u<n->T.testBit u=true->f u=g u)->S.pT T n f=S.pT T n g
 | 0,_=>rfl
 | n+1,h=>by
  rw[lM,lM,Bj fun u hu hb=>h u (by omega) hb]
  split
  ·rename_i hb;rw[h n (by omega) hb]
  ·rfl
theorem EO {T T':Nat}{f:Nat->Int}:∀{n:Nat},(∀u,u<n->T'.testBit u=T.testBit u)->S.pT T' n f=S.pT T n f
 | 0,_=>rfl
 | n+1,h=>by rw[lM,lM,EO fun u hu=>h u (by omega),h n (by omega)]
theorem As {T T' v:Nat}{f:Nat->Int}(h0:T.testBit v=false)(h1:T'.testBit v=true)(hs:∀u,u≠v->T'.testBit u=T.testBit u):∀{n:Nat},v<n->S.pT T' n f=S.pT T n f*f v
 | 0,h=>absurd h (Nat.not_lt_zero v)
 | n+1,h=>by
  rw[lM,lM]
  by_cases e:v=n
  ·subst e
   rw[h0,h1,EO fun u hu=>hs u (by omega)];simp
  ·rw[As h0 h1 hs (n:=n) (by omega),hs n (by omega),Int.mul_assoc,Int.mul_assoc,Int.mul_comm (f v)]
theorem zU {T:Nat}{f:Nat->Int}:∀{n:Nat},(∀u,u<n->T.testBit u=true)->S.pT T n f=S.aa ((List.range n).map f)
 | 0,_=>rfl
 | n+1,h=>by rw[lM,zU fun u hu=>h u (by omega),h n (by omega),List.range_succ,List.map_append,List.map_singleton,gz];rfl
theorem DZ {f:Nat->Int}:∀{n:Nat},S.pT 0 n f=1
 | 0=>rfl
 | n+1=>by rw[lM,DZ];simp
theorem wT {vals ps:List Int}{v:Nat}(x:Int)(h:∀p∈ps,p.toNat≠v):S.ae (vals.set v x) ps=S.ae vals ps:=by
 refine List.map_congr_left fun p hp=>?_
 rw[List.getElem?_set_ne fun e=>h p hp e.symm]
theorem Ke {n:Net}{vals:List Int}{u v:Nat}(x:Int)(hu:u≠v)(h:∀y,n.nodes[u]?=some y->∀p∈y.parents,p.toNat≠v):S.aw n (vals.set v x) u=S.aw n vals u:=by
 unfold S.aw
 split
 ·rfl
 ·rename_i y hy
  rw[wT x (h y hy),List.getElem?_set_ne (Ne.symm hu)]
theorem LL:∀(r:List Int),S.sm (fun x=>r[x]?.getD 0) r.length=r.sum:=by
 intro r
 have:∀k,k<=r.length->S.sm (fun x=>r[x]?.getD 0) k=(r.take k).sum:=by
  intro k
  induction k with
  | zero=>intro _;rfl
  | succ k ih =>
   intro hk
   rw[S.sm,ih (by omega),List.take_succ_eq_append_getElem (by omega),List.sum_append]
   simp[List.getElem?_eq_getElem (show k<r.length by omega)]
 rw[this _ (Nat.le_refl _),List.take_length]
end Hx
end
section
namespace Hx
open Go
noncomputable section
theorem Kd {d:Nat}{g:G}{a b:Int}(hd:0<d)(h0:0<=a+b)(h1:a+b<=4611686018427387903):an C0 d N.aP [.int .i64 a,.int .i64 b] g=.val (.tup [.int .i64 (a+b),.bool true]):=by
 have key:∃r,an C0 d N.aP [.int .i64 a,.int .i64 b] g=.val r/\nJ (One (a+b)) (One true) NoP 0 .nil r:=by
  have w1:IntKind.wrap .i64 (a+b)=a+b:=aC (by omega) (by omega)
  rw[uX]
  refine ba yd (xs:=[.int .i64 a,.int .i64 b]) rfl (by simp[od]) (bN (m:=1) (aO _) (aO _) (by decide) (by decide)) (by decide) hd ?_
  simp only[sz,simprocAttr,od,w1,h1]
  exact ⟨fun _=>True,_,_,rfl,ay.2 rfl,gT.2 rfl⟩
 obtain ⟨r,hr,x,y,rfl,ha,hb⟩:=key
 have ha:=ay.1 ha
 injection ha with ha
 have hb:=gT.1 hb
 injection hb with hb
 rw[hr,ha,hb]
theorem HJ (d:Nat)(a b:AV)(g:G):gM C0 (I C0) d (.clo 90 [] []) [a,b] g=an C0 d N.aP [a,b] g:=by kernel_rfl
def S.bu (f:Factor)(ps:List Nat)(i:Nat):Int:=S.ah (S.af f.cards ps) (S.af (S.ak f.cards (i:Int)) ps)
def S.aL (f:Factor)(ps:List Nat)(j:Nat)(q:Int):Int:=S.sm (fun i=>if S.bu f ps i=q then f.w[i]?.getD 0 else 0) j
def S.gl (f:Factor)(ps:List Nat)(j:Nat):List Int:=(List.range (S.aa (S.af f.cards ps)).toNat).map fun q:Nat=>S.aL f ps j (q:Int)
theorem zT (f:Factor)(ps:List Nat)(j:Nat):(S.gl f ps j).length=(S.aa (S.af f.cards ps)).toNat:=by simp[S.gl]
theorem K0 (f:Factor)(ps:List Nat):S.gl f ps 0=List.replicate (S.aa (S.af f.cards ps)).toNat 0:=by
 refine List.ext_getElem (by simp[S.gl]) fun i h1 h2=>?_
 simp[S.gl,S.aL,S.sm]
theorem Mm {f:Factor}{ps:List Nat}(hf:FcOk f)(hps:PsOk f ps){vals:List Int}(hv:InC f.cards vals):InC (S.af f.cards ps) (S.af vals ps):=by
 refine xG (by simp[dk]) fun i c v h1 h2=>?_
 obtain ⟨p,hp⟩:∃p,ps[i]?=some p:=⟨_,List.getElem?_eq_getElem (by have:=(List.getElem?_eq_some_iff.1 h1).1;rw[dk] at this;exact this)⟩
 rw[rN hp] at h1 h2
 have hpl:=hps.lt p (List.mem_of_getElem? hp)
 rw[hf.vl] at hpl
 obtain ⟨c',hc'⟩:∃c',f.cards[p]?=some c':=⟨_,List.getElem?_eq_getElem hpl⟩
 obtain ⟨v',hv',h3,h4⟩:=hv.get hc'
 rw[hc',Option.getD_some] at h1
 rw[hv',Option.getD_some] at h2
 injection h1 with h1;injection h2 with h2
 omega
theorem GO {f:Factor}{ps:List Nat}(hf:FcOk f)(hps:PsOk f ps)(i:Nat):0<=S.bu f ps i/\S.bu f ps i<S.aa (S.af f.cards ps) :=
 bV hps.c.c (Mm hf hps (gf (fun c hc=>(hf.c.c c hc).1) (i:Int)))
theorem y6 {f:Factor}{ps:List Nat}(hf:FcOk f)(q:Int):∀j,0<=S.aL f ps j q/\S.aL f ps j q<=S.sm (fun i=>f.w[i]?.getD 0) j
 | 0=>⟨Int.le_refl _,Int.le_refl _⟩
 | j+1=>by
  have ih:=y6 (ps:=ps) hf q j
  have hw:0<=f.w[j]?.getD 0:=by
   cases h:f.w[j]? with
   | none=>simp
   | some y=>simpa using (hf.w y (List.mem_of_getElem? h)).1
  rw[S.aL,S.sm,S.sm]
  rw[S.aL] at ih
  split<;>omega
theorem KV {f:Factor}{ps:List Nat}{j p:Nat}{y:Int}(hp:S.bu f ps j=(p:Int))(hpl:p<(S.aa (S.af f.cards ps)).toNat)(hy:f.w[j]?=some y):(S.gl f ps j).set p (S.aL f ps j (p:Int)+y)=S.gl f ps (j+1):=by
 refine List.ext_getElem? fun i=>?_
 rw[List.getElem?_set,zT]
 by_cases e:p=i
 ·subst e
  rw[if_pos rfl,if_pos hpl]
  simp only[S.gl,List.getElem?_map,List.getElem?_range hpl,Option.map_some]
  rw[S.aL,S.aL,S.sm,if_pos hp,hy,Option.getD_some]
 ·rw[if_neg e]
  simp only[S.gl,List.getElem?_map]
  by_cases hi:i<(S.aa (S.af f.cards ps)).toNat
  ·rw[List.getElem?_range hi,Option.map_some,Option.map_some,S.aL,S.aL,S.sm,if_neg (by rw[hp];omega),Int.add_zero]
  ·rw[List.getElem?_eq_none (by simpa using hi),Option.map_none,Option.map_none]
theorem MT {f:Factor}{ps:List Nat}{j p:Nat}(hpl:p<(S.aa (S.af f.cards ps)).toNat):(S.gl f ps j)[p]?=some (S.aL f ps j (p:Int)):=by
 simp[S.gl,hpl]
theorem Lc {F:Nat->Int}(h:∀i,0<=F i)(j:Nat):∀k,S.sm F j<=S.sm F (j+k)
 | 0=>Int.le_refl _
 | k+1=>by
  have:=Lc h j k
  have:=h (j+k)
  rw[<-Nat.add_assoc,S.sm]
  omega
theorem M2 {f:Factor}(hf:FcOk f)(j:Nat):0<=f.w[j]?.getD 0:=by
 cases h:f.w[j]? with
 | none=>simp
 | some y=>simpa using (hf.w y (List.mem_of_getElem? h)).1
theorem Kv (C:Cfg)(t:T)(g:G)(f:Od)(xs:List Od):(SO.foot C t g (.dyn f xs)).sr=[]:=by
 simp only[SO.foot]
 split
 ·rw[aa];split<;>rfl
 ·rfl
structure GnJ (g0:G) (q16 iw:Nat) (w:AV) (f:Factor) (ps:List Nat) (lo j:Nat) (h:H):Prop where
 fr:∀k,k<g0.nx->k≠iw->h.get k=g0.h.get k
 ow:Own (GH h (iw+1)) lo w 1 ((S.gl f ps j).map ci)
theorem GnJ.up {g0:G}{q16 iw lo:Nat}{w:AV}{f:Factor}{ps:List Nat}{j:Nat}{h h':H}(hf:GnJ g0 q16 iw w f ps lo j h)(hv:vid w=some iw)(hi:iw<g0.nx)(hh:∀k,k<g0.nx->h'.get k=h.get k):GnJ g0 q16 iw w f ps lo j h' :=
 ⟨fun k h1 h2=>by rw[hh k h1,hf.fr k h1 h2],hf.ow.fr (by simp) fun k h=>by rw[hv] at h;injection h with h;subst h;exact hh _ hi⟩
theorem CY {d t1 q12 q16 iw lo:Nat}{f:Factor}{st X:List Int}{a b c s z W w:AV}{ps:List Nat}{Q:QT}{t:T}{g:G}(hd:0<d)(hf:FcOk f)(hps:PsOk f ps)(hm:Rp.rp NoP 0 .nil ((f,st):TbM) [a,b,c,s])(hX:StI f ps 0 X)(htot:S.sm (fun i=>f.w[i]?.getD 0) f.w.length<=171992678400000000)
  (ht:St t ((8,W)::(12,.hptr q12 0 0 0)::(16,.hptr q16 0 0 0)::LGa 0 z)) (h80:tat t 80=.clo N.aa [] [.tptr t1 1 [[b]] 0 0,.tptr 0 1 [[.tsl 0 1 (X.map ci)]] 0 0])
  (hH:GaH [a,b,c,s] (.clo 90 [] []) g) (h12:g.h.get q12=.cells 1 [[w]] 0 false false) (h16:g.h.get q16=.cells 1 [[.bool true]] 0 false false) (hvw:vid w=some iw) (hlo:3<=lo) (hi1:lo<=iw) (hi2:iw<q12) (hi3:q12<q16) (hi4:q16<g.nx)
  (hw:Own g lo w 1 ((List.replicate (S.aa (S.af f.cards ps)).toNat (0:Int)).map ci))
  (fin:∀g',(∀k,k<g.nx->k≠iw->g'.h.get k=g.h.get k)->Own (GH g'.h (iw+1)) lo w 1 ((S.gl f ps f.w.length).map ci)->g.nx+2<=g'.nx->g'.h.get g.nx=.dfr true->Q .norm t [.mark g.nx] g') :
  wp C0 d none (.rng 112 (.t 80) [81,82] dg dj) Q t [] g:=by
 obtain ⟨a',b',c',s',ecs,ha,hb,hc,hs⟩:=pX.1 hm
 injection ecs with e1 ecs
 injection ecs with e2 ecs
 injection ecs with e3 ecs
 injection ecs with e4 ecs
 subst e1;subst e2;subst e3;subst e4
 have hlen:X.length=f.cards.length:=by rw[hX.len,hf.vl]
 have hstk:StOk f.cards X:=⟨hlen,hX.b⟩
 have hsl:SlR NoP 0 .nil X (.tsl 0 1 (X.map ci)):=⟨by have:=hf.c.l8;omega,Nat.le_refl 0,.inl rfl,All2.of_map (fun q=>ay.2 rfl) _⟩
 have rc:=fun h=>(hc.tree (h':=h) (Nat.le_refl 0):SlR NoP 0 h f.w c).ints
 have hwl:=hf.wl
 have hpos:=aW fun c hc=>(hps.c.c c hc).1
 have hp1:=hps.c.p
 have hN:(S.aa f.cards).toNat=f.w.length:=by omega
 have hb':SlR NoP 0 .nil f.cards b:=hb.tree (Nat.le_refl 0)
 obtain ⟨h8,h12',h16',h1,h3,h5,h6,-⟩:=ht
 refine JS (t1:=t1) (t2:=0) (w:=b) (z:=.tsl 0 1 (X.map ci)) hd hf.c hstk hb' hsl h80 (by decide) (by decide) (fun j h=>GnJ g q16 iw w f ps lo j h) (fun j h h' hh hj=>hj.up hvw (by omega) hh) ⟨fun _ _ _=>rfl,by rw[K0];exact hw.gh hvw⟩ ?_ ?_
 ·intro j g1 hj hJ hn
  simp only[sz,simprocAttr,dg]
  intro g2 hg2n hg2
  have hJ2:GnJ g q16 iw w f ps lo j g2.h:=hJ.up hvw (by omega) fun k hk=>hg2 k (by omega)
  have hjw:j<f.w.length:=by omega
  obtain ⟨y,hy⟩:∃y,f.w[j]?=some y:=⟨_,List.getElem?_eq_getElem hjw⟩
  have hdt:S.dt (S.ak f.cards (j:Int)) X f.cards.length=S.bu f ps j:=by
   rw[<-hf.vl,hX.dt];rfl
  obtain ⟨b0,b1⟩:=GO hf hps j
  obtain ⟨p,hp⟩:=Int.eq_ofNat_of_zero_le b0
  have hpl:p<(S.aa (S.af f.cards ps)).toNat:=by omega
  have k12:g2.h.get q12=.cells 1 [[w]] 0 false false:=by rw[hJ2.fr q12 (by omega) (by omega),h12]
  have k16:g2.h.get q16=.cells 1 [[.bool true]] 0 false false:=by rw[hJ2.fr q16 (by omega) (by omega),h16]
  have k0:g2.h.get 0=.cells 4 [[a,b,c,s]] 0 false false:=by rw[hJ2.fr 0 (by omega) (by omega),hH.h0]
  have k1:g2.h.get 1=.cells 1 [[.clo 90 [] []]] 0 false false:=by rw[hJ2.fr 1 (by omega) (by omega),hH.h1]
  have hO2:Own g2 lo w 1 ((S.gl f ps j).map ci):=hJ2.ow.fr (g':=g2) (by show iw+1<=g2.nx;omega) fun i _=>rfl
  have rO:=hO2.rows
  have u1:p<((S.gl f ps j).map ci).length:=by rw[List.length_map,zT];exact hpl
  have u2:((S.gl f ps j).map ci)[p]?=some (ci (S.aL f ps j (p:Int))):=by rw[List.getElem?_map,MT hpl];rfl
  have u3:j<(f.w.map ci).length:=by simpa using hjw
  have u4:(f.w.map ci)[j]?=some (ci y):=by rw[List.getElem?_map,hy];rfl
  have hyb:=hf.w y (List.mem_of_getElem? hy)
  have hgb:=y6 (ps:=ps) hf (p:Int) j
  have hsb:S.sm (fun i=>f.w[i]?.getD 0) j<=S.sm (fun i=>f.w[i]?.getD 0) f.w.length:=by
   have:=Lc (F:=fun i=>f.w[i]?.getD 0) (M2 hf) j (f.w.length - j)
   rw[show j+(f.w.length - j)=f.w.length by omega] at this
   exact this
  have kA:∀g':G,gM C0 (I C0) d (.clo 90 [] []) [.int .i64 (S.aL f ps j (p:Int)),.int .i64 y] g'=.val (.tup [.int .i64 (S.aL f ps j (p:Int)+y),.bool true]):=fun g'=>by rw[HJ];exact Kd hd (by omega) (by omega)
  have l1:aI (.cells 1 [[.clo 90 [] []]] 0 false false) 0 0 false 1 0=.val (.clo 90 [] []):=rfl
  have l2:aI (.cells 4 [[a,b,c,s]] 0 false false) 0 0 false 1 2=.val c:=rfl
  rw[hdt,hp]
  simp only[sz,simprocAttr,sf,dj,h12',h16',h5,h3,k12,k0,k1,l1,l2,rO,u1,u2,rc,u3,u4,ci,kA]
  refine bC (v:=w) (sz:=1) (n:=1) (i:=p) (off:=0) (x:=.int .i64 (S.aL f ps j (p:Int)+y)) (row':=ci (S.aL f ps j (p:Int)+y)) (hO2.fr (by simp;omega) fun i _=>by simp) u2 rfl rfl rfl fun g4 hu4 n4 f4=>?_
  rw[<-List.map_set,KV hp hpl hy] at hu4
  simp only[bumpG_nx,setLog_nx] at n4
  have k16':g4.h.get q16=.cells 1 [[.bool true]] 0 false false:=by rw[f4 q16 fun e=>by rw[hvw] at e;injection e with e;omega];simpa using k16
  simp only[sz,simprocAttr,sf,h16',k16']
  have hfr:∀i,i≠iw->(g4.h.put q16 (.cells 1 [[.bool true]] 0 false false)).get i=g2.h.get i:=fun i hi=>by
   by_cases e:i=q16
   ·subst e;simp[H.get_put,k16]
   ·simp[H.get_put,e]
    rw[f4 i fun e=>by rw[hvw] at e;injection e with e;exact hi e.symm];simp
  refine ⟨?_,⟨by simp;omega,fun i h1 h2=>?_,.inl ⟨rfl,⟨fun i h1 h2=>?_,?_⟩⟩⟩⟩
  ·simp only[List.reverse_cons,List.reverse_nil,List.nil_append,List.cons_append]
   refine aL [false,false,false,false,false,false,false,false,false,false,false,false,false,false,false,false,false,false,false,true,true] [(17,19)] (by simp[All2,ae,aA,Kv]) (by decide) ?_
   rintro p hp' x y hx hy
   simp only[List.mem_cons,List.not_mem_nil,or_false] at hp'
   subst hp'
   simp at hx hy
   subst hx;subst hy
   refine eH rfl rfl rfl rfl ?_ ?_ ?_<;>simp[ae,aA,ak]
  ·simpa using hfr i (by omega)
  ·exact (hfr i h2).trans (hJ2.fr i h1 h2)
  ·have hO5:Own (g4.put q16 (.cells 1 [[.bool true]] 0 false false)) lo w 1 ((S.gl f ps (j+1)).map ci):=hu4.fr (by simp) fun i hi=>by
    have:=br hvw hi
    simp[H.get_put,show ¬i=q16 by omega]
   exact hO5.gh hvw
 ·intro g2 hJ hn hdf
  rw[hN] at hJ
  exact fin g2 hJ.fr hJ.ow hn hdf
theorem LO {z W w:AV}(hz:z.cells=[z]/\z.isTup=false)(hW:W.cells=[W]/\W.isTup=false)(hw:w.cells=[w]/\w.isTup=false):dv [.nils,.nils,.nils] [((0,1),z),((1,1),W),((2,1),w)]=some [z,W,w]:=by
 simp[dv,hz,hW,hw,cU]
 rfl
theorem G2 {d iw iu lo lo2 q12:Nat}{f:Factor}{st X:List Int}{a b c s z W w U:AV}{ps:List Nat}{K:AV->G->Prop}{t:T}{g:G}(hd:0<d)(hf:FcOk f)(hps:PsOk f ps)(hm:Rp.rp NoP 0 .nil ((f,st):TbM) [a,b,c,s])(hzc:z.cells=[z]/\z.isTup=false)(hX:StI f ps 0 X)(htot:S.sm (fun i=>f.w[i]?.getD 0) f.w.length<=171992678400000000)
  (ht:St t ((8,W)::(12,.hptr q12 0 0 0)::(13,U)::LGa 0 z)) (hH:GaH [a,b,c,s] (.clo 90 [] []) g) (h12:g.h.get q12=.cells 1 [[w]] 0 false false) (hvw:vid w=some iw) (hvu:vid U=some iu) (hlo:3<=lo) (hi1:lo<=iw) (hi2:iw<iu) (hi3:iu<q12) (hi4:q12<g.nx)
  (hW:Own g 3 W 1 ((S.af f.cards ps).map ci)) (hWl:∀i,vid W=some i->i<lo) (hw:Own g lo w 1 ((List.replicate (S.aa (S.af f.cards ps)).toNat (0:Int)).map ci)) (hU:Own g lo2 U 1 (X.map ci))
  (kk:∀g':G,Own g' 3 W 1 ((S.af f.cards ps).map ci)->Own g' 3 w 1 ((S.gl f ps f.w.length).map ci)->3<=g'.nx->K (.tup [.agg [z,W,w],.int .i64 0]) g') :
  wp C0 d none dh (fnQ C0 d [.cell true 3 6,.tm 7] K) t [] g:=by
 obtain ⟨a',b',c',s',ecs,ha,hb,hc,hs⟩:=pX.1 hm
 injection ecs with e1 ecs
 injection ecs with e2 ecs
 injection ecs with e3 ecs
 injection ecs with e4 ecs
 subst e1;subst e2;subst e3;subst e4
 have hb':SlR NoP 0 .nil f.cards b:=hb.tree (Nat.le_refl 0)
 have hXl:=hX.len
 obtain ⟨ep,lo',rfl,hUo⟩:∃ep lo',U=.hsl iu ep 0 X.length none/\g.h.get iu=.cells 1 (X.map ci) ep lo' false:=by
  rcases hU with ⟨rfl,-⟩ | ⟨id,ep,lo',h1,h2,rfl,h3⟩
  ·cases hvu
  ·have:id=iu:=by injection hvu
   subst this
   exact ⟨ep,lo',by simp,h3⟩
 obtain ⟨h8,h12',h13,h1,h3,h5,h6,-⟩:=ht
 have l1:aI (.cells 4 [[a,b,c,s]] 0 false false) 0 0 false 1 1=.val b:=rfl
 simp only[dh]
 refine bk (P:=fun t' df g'=>df=[]/\g'.nx=g.nx+1/\(∀i,i<g.nx->g'.h.get i=g.h.get i)/\g'.h.get g.nx=.cells 1 [[.bool true]] 0 false false/\St t' ((8,W)::(12,.hptr q12 0 0 0)::(16,.hptr g.nx 0 0 0)::(13,.hsl iu ep 0 X.length none)::LGa 0 z)) ?_ ?_
 ·simp only[sz,simprocAttr]
  refine ⟨fun i hi=>by simp[H.get_put,show ¬i=g.nx by omega],by simp[St,LGa,sx,h8,h12',h13,h1,h3,h5,h6]⟩
 clear h8 h12' h13 h1 h3 h5 h6
 rintro t df g1 ⟨rfl,n1,fr1,k16,h8,h12',h16,h13,h1,h3,h5,h6,-⟩
 have hH1:=hH.fr (g':=g1) fun i hi=>fr1 i (by omega)
 have hUo1:g1.h.get iu=.cells 1 (X.map ci) ep lo' false:=by rw[fr1 iu (by omega),hUo]
 obtain ⟨t1,eE⟩:=Kp (d:=d) (kk:=0) (g:=g1) (v:=b) (l:=f.cards) (st:=X) hd hb' hd hUo1
 rw[dL,zM]
 simp only[sz,simprocAttr,h3,h13,hH1.h0,l1,eE]
 have fnx:=qK [iu] g1
 have fg:=fun i (hi:i≠iu)=>nZ [iu] g1 i (by simpa using hi)
 obtain ⟨g2,hg2⟩:∃g2,g2=bg g1 [iu]:=⟨_,rfl⟩
 rw[<-hg2] at fnx fg ⊢
 clear hg2
 have hne:∀i,vid w=some i->i≠iu:=fun i hi=>by have:=br hvw hi;omega
 have hw2:Own g2 lo w 1 ((List.replicate (S.aa (S.af f.cards ps)).toNat (0:Int)).map ci):=hw.fr (by omega) fun i hi=>by
  have:=br hvw hi
  rw[fg i (by omega),fr1 i (by omega)]
 have hW2:Own g2 3 W 1 ((S.af f.cards ps).map ci):=hW.fr (by omega) fun i hi=>by
  have:=hWl i hi
  rw[fg i (by omega),fr1 i (by omega)]
 have hH2:=hH1.fr (g':=g2) fun i hi=>fg i (by omega)
 have k12:g2.h.get q12=.cells 1 [[w]] 0 false false:=by rw[fg q12 (by omega),fr1 q12 (by omega),h12]
 have k16':g2.h.get g.nx=.cells 1 [[.bool true]] 0 false false:=by rw[fg g.nx (by omega),k16]
 refine CY (t1:=t1) (q12:=q12) (q16:=g.nx) (iw:=iw) (lo:=lo) (f:=f) (X:=X) (a:=a) (b:=b) (c:=c) (s:=s) (z:=z) (W:=W) (w:=w) (ps:=ps) hd hf hps hm hX htot (by simp[St,LGa,sx,h8,h12',h16,h1,h3,h5,h6]) (by simp[sx]) hH2 k12 k16' hvw hlo hi1 (by omega) (by omega) (by omega) hw2 ?_
 intro g3 fr3 hO3 n3 hdf
 have r2:g3.h.get 2=.cells 3 [[.nils,.nils,.nils]] 0 false false:=by rw[fr3 2 (by omega) (by omega),hH2.h2]
 have r12:g3.h.get q12=.cells 1 [[w]] 0 false false:=by rw[fr3 q12 (by omega) (by omega),k12]
 have r16:g3.h.get g.nx=.cells 1 [[.bool true]] 0 false false:=by rw[fr3 g.nx (by omega) (by omega),k16']
 have hW3:Own g3 3 W 1 ((S.af f.cards ps).map ci):=hW2.fr (by omega) fun i hi=>by
  have:=hWl i hi
  exact fr3 i (by omega) (by omega)
 simp only[sz,simprocAttr,fT,h1,h6,h8,h12',h16,r2,r12,r16,LO hzc hW3.cell hO3.cell]
 refine iL (by simp[H.get_put,show ¬g2.nx=2 by omega,hdf]) ?_
 simp only[sx,sy,↓reduceIte,Nat.reduceEqDiff,h6]
 rw[if_neg (by omega)]
 simp only[sx,sy,↓reduceIte,Nat.reduceAdd,Nat.reduceLeDiff]
 have hOw:Own ((g3.put 2 (.cells 3 [[z,W,w]] 0 false false)).put g2.nx (.dfr false)) 3 w 1 ((S.gl f ps f.w.length).map ci) :=
  Own.low (hO3.fr (g':=(g3.put 2 (.cells 3 [[z,W,w]] 0 false false)).put g2.nx (.dfr false)) (by show iw+1<=g3.nx;omega) fun i hi=>by
   have:=br hvw hi
   simp[H.get_put,show ¬i=2 by omega,show ¬i=g2.nx by omega]) hlo
 have hOW:Own ((g3.put 2 (.cells 3 [[z,W,w]] 0 false false)).put g2.nx (.dfr false)) 3 W 1 ((S.af f.cards ps).map ci):=hW3.fr (by simp) fun i hi=>by
  have h1:=hWl i hi
  have h2:=(hW3.lt hi).1
  simp[H.get_put,show ¬i=2 by omega,show ¬i=g2.nx by omega]
 exact kk _ hOW hOw (by simp;omega)
theorem ur {d k0:Nat}{f:Factor}{st:List Int}{a b c s z:AV}{ps:List Nat}{K:AV->G->Prop}{t:T}{g:G}(hd:0<d)(hf:FcOk f)(hps:PsOk f ps)(hm:Rp.rp NoP 0 .nil ((f,st):TbM) [a,b,c,s])(hz:SlR NoP k0 .nil (S.af f.vars ps) z)(htot:S.sm (fun i=>f.w[i]?.getD 0) f.w.length<=171992678400000000)
  (ht:St t (LGa 0 z)) (hH:GaH [a,b,c,s] (.clo 90 [] []) g) (hn:g.nx=3)
  (kk:∀(W w:AV) (g':G),Own g' 3 W 1 ((S.af f.cards ps).map ci)->Own g' 3 w 1 ((S.gl f ps f.w.length).map ci)->3<=g'.nx->K (.tup [.agg [z,W,w],.int .i64 0]) g') :
  wp C0 d none dK (fnQ C0 d [.cell true 3 6,.tm 7] K) t [] g:=by
 obtain ⟨h1,h3,h5,h6,-⟩:=ht
 have lz:=hz.len
 rw[dk] at lz
 have hl8:=hps.c.l8
 rw[dk] at hl8
 have hpb:=hps.c.p
 have hpos:=aW fun c hc=>(hps.c.c c hc).1
 have hvl:=hf.vl
 have hcl:=hf.c.l8
 simp only[dK]
 refine bk (P:=fun t' df g'=>df=[]/\∃W,vid W=some 3/\g'.nx=4/\GaH [a,b,c,s] (.clo 90 [] []) g'/\Own g' 3 W 1 ((List.replicate ps.length (0:Int)).map ci)/\St t' ((8,W)::(9,.int .i64 1)::LGa 0 z)) ?_ ?_
 ·simp only[sz,simprocAttr,h1,lz]
  refine jK (b:=3) (n:=ps.length) (by unfold a_;omega) (by unfold a_;omega) (by omega) fun W g1 hW n1 f1 vW=>?_
  simp only[sz,simprocAttr]
  exact ⟨W,by rw[vW,hn],by rw[n1,hn],hH.fr fun i hi=>f1 i (by omega),by simpa [ci] using hW,by simp[St,LGa,sx,h1,h3,h5,h6]⟩
 clear h1 h3 h5 h6
 rintro t df g1 ⟨rfl,W,vW,n1,hH1,hW,h8,h9,h1,h3,h5,h6,-⟩
 simp only[sz,simprocAttr,h1,lz]
 refine Gt (f:=f) (st:=st) (a:=a) (b:=b) (c:=c) (s:=s) (op:=.clo 90 [] []) (z:=z) (W:=W) (ps:=ps) hd hf hps hm hz (by simp[St,LGa,sx,h1,h3,h5,h6]) (by simp[sx,h8]) (by simp[sx,h9]) (by simp[sx]) (by simp[sx]) (by simp[sx]) hH1 hW ?_ (by omega)
 rintro t g2 ⟨h1,h3,h5,h6,-⟩ h8 h9 hH2 hW2 hn2
 have hW3:=(hW2.lt vW).2
 obtain ⟨N,hN⟩:=Int.eq_ofNat_of_zero_le (show 0<=S.aa (S.af f.cards ps) by omega)
 have hNn:(S.aa (S.af f.cards ps)).toNat=N:=by omega
 rw[hN] at h9
 obtain ⟨a',b',c',s',ecs,ha,-,-,-⟩:=pX.1 hm
 injection ecs with e1 ecs
 subst e1
 have la:=ha.len
 have l0:aI (.cells 4 [[a,b,c,s]] 0 false false) 0 0 false 1 0=.val a:=rfl
 simp only[sz,simprocAttr]
 simp only[fP]
 refine cV (P:=fun t' df g'=>df=[]/\∃w U iw iu q12,vid w=some iw/\vid U=some iu/\4<=iw/\iw<iu/\iu<q12/\q12<g'.nx/\(∀i,i<g2.nx->g'.h.get i=g2.h.get i)/\g2.nx<=g'.nx/\g'.h.get q12=.cells 1 [[w]] 0 false false/\Own g' 4 w 1 ((List.replicate N (0:Int)).map ci)/\Own g' 4 U 1 ((List.replicate f.vars.length (0:Int)).map ci)/\St t' ((8,W)::(12,.hptr q12 0 0 0)::(13,U)::(14,.int .i64 1)::LGa 0 z)) ?_ ?_
 ·simp only[sz,simprocAttr,sf,h9]
  refine jd (b:=4) (n:=N) (by unfold a_;omega) (by unfold a_;omega) (by simp<;>omega) fun w g3 hw n3 f3 vw lg3=>?_
  have hw':Own g3 4 w 1 ((List.replicate N (0:Int)).map ci):=by simpa [ci] using hw
  have q0:g3.h.get 0=.cells 4 [[a,b,c,s]] 0 false false:=by rw[f3 0 (by simp)];simpa using hH2.h0
  simp only[bumpG_nx,setLog_nx,bumpG_h,setLog_h,setLog_lg] at n3 f3 vw lg3
  simp only[sz,simprocAttr,sf,h3,q0,l0,la]
  refine jd (b:=4) (n:=f.vars.length) (by unfold a_;omega) (by unfold a_;omega) (by simp<;>omega) fun U g4 hU n4 f4 vu lg4=>?_
  have hU':Own g4 4 U 1 ((List.replicate f.vars.length (0:Int)).map ci):=by simpa [ci] using hU
  simp only[bumpG_nx,setLog_nx,bumpG_h,setLog_h,setLog_lg] at n4 f4 vu lg4
  simp only[sz,simprocAttr,sf,hw.cell.1,hw.cell.2]
  refine ⟨?_,w,U,_,_,g4.nx+1,vw,vu,by omega,by omega,by omega,by omega,fun i hi=>?_,by omega,by rw[if_pos rfl],?_,?_,by simp[St,LGa,sx,h8,h1,h3,h5,h6]⟩
  ·simp only[List.reverse_cons,List.reverse_nil,List.nil_append,List.cons_append]
   refine aL [false,true,false,false,false,false,true,true,true,false,false] [(1,2),(1,3),(1,4),(1,5),(0,6),(1,6),(0,7),(1,7),(2,7),(3,7),(4,7),(5,7),(6,7),(2,8),(3,8),(4,8),(5,8),(6,8)] (by simp[All2,ae,aA]) (by decide) ?_
   rintro p hp' x y hx hy
   simp only[List.mem_cons,List.not_mem_nil,or_false] at hp'
   rcases hp' with rfl | rfl | rfl | rfl | rfl | rfl | rfl | rfl | rfl | rfl | rfl | rfl | rfl | rfl | rfl | rfl | rfl | rfl<;>(simp at hx hy;subst hx;subst hy;refine eH rfl rfl rfl rfl ?_ ?_ ?_<;>simp[ae,aA,ak,lg3,lg4]<;>omega)
  ·rw[if_neg (by omega),if_neg (by omega),f4 i (by omega),f3 i (by omega)]
  ·refine hw'.fr (by simp;omega) fun i hi=>?_
   have:=br vw hi
   simp[H.get_put,show ¬i=g4.nx+1 by omega]
   exact f4 i (by omega)
  ·refine hU'.fr (by simp;omega) fun i hi=>?_
   have:=br vu hi
   simp[H.get_put,show ¬i=g4.nx+1 by omega]
 clear h1 h3 h5 h6 h8 h9
 rintro t df g3 ⟨rfl,w,U,iw,iu,q12,vw,vu,i1,i2,i3,i4,f3,n3,k12,hw,hU,h8,h12,h13,h14,h1,h3,h5,h6,-⟩
 have hH3:=hH2.fr (g':=g3) fun i hi=>f3 i (by omega)
 have hW4:Own g3 3 W 1 ((S.af f.cards ps).map ci):=hW2.fr n3 fun i hi=>f3 i (hW2.lt hi).2
 have w1:IntKind.wrap .i64 ((ps.length:Int) - 1)=(ps.length:Int) - 1:=aC (by omega) (by omega)
 have hWl:∀i,vid W=some i->i<4:=fun i hi=>by have:=br vW hi;omega
 simp only[sz,simprocAttr,h1,lz,w1]
 refine FQ (f:=f) (st:=st) (a:=a) (b:=b) (c:=c) (s:=s) (op:=.clo 90 [] []) (z:=z) (W:=W) (U:=U) (ps:=ps) (lo:=4) (w12:=.hptr q12 0 0 0) hd hf hps hm hz (by simp[St,LGa,sx,h1,h3,h5,h6]) (by simp[sx,h8]) (by simp[sx,h12]) (by simp[sx,h13]) (by simp[sx,h14]) (by simp[sx]) hH3 (by omega) (by omega) hW4 hWl hU ?_
 intro t4 g4 X ht4 q8 q12' q13 hX hU4 f4 n4
 have hu4:∀i,i<g3.nx->i≠iu->g4.h.get i=g3.h.get i:=fun i h1 h2=>f4 i h1 fun e=>h2 (by have:=br vu e;omega)
 simp only[sz,simprocAttr]
 refine G2 (iw:=iw) (iu:=iu) (lo:=4) (lo2:=4) (q12:=q12) (f:=f) (st:=st) (X:=X) (a:=a) (b:=b) (c:=c) (s:=s) (z:=z) (W:=W) (w:=w) (U:=U) (ps:=ps) hd hf hps hm hz.cell hX htot ?_ (hH3.fr fun i hi=>hu4 i (by omega) (by omega)) (by rw[hu4 q12 (by omega) (by omega),k12]) vw vu (by omega) i1 i2 i3 (by omega) (hW4.fr n4 fun i hi=>hu4 i (hW4.lt hi).2 (by have:=hWl i hi;omega)) hWl ?_ hU4 (fun g' a b c=>kk W w g' a b c)
 ·obtain ⟨h1,h3,h5,h6,-⟩:=ht4
  exact ⟨q8,q12',q13,h1,h3,h5,h6,trivial⟩
 ·rw[hNn]
  exact hw.fr n4 fun i hi=>by have:=br vw hi;exact hu4 i (hw.lt hi).2 (by omega)
end
end Hx
end
section
namespace Hx
open Go
set_option maxRecDepth 100000
noncomputable section
def fG:SC:=sQ [oM 18 0,oN 19 18,oM 7 19] (.seq (.feet [0,0,3,0,0,24,63,127] [oM 20 0,oM 21 1,o 22 (.slc 1 (.t 20) [] [.t 21]),oM 23 0,oM 24 2,o 25 (.slc 1 (.t 23) [.t 24] []),o 26 (.app 1 8 (.t 22) (.t 25)),oM 0 26]) (sQ [oM 27 0,oM 28 0,oN 29 28,oM 30 7,o 31 (.slc 1 (.t 27) [.t 29] [.t 30]),oz (.raw (.call ⟨.builtin .clear,#[.tmp 31],#[44]⟩))] (sQ [oM 32 0,oM 6 32] (.ret))))
def d8:SF:=⟨33,[.tm 6],sQ [o 6 (.mv (.k (.nils)))] (sQ [oM 8 0,oM 9 1,oM 10 2,oM 11 0,oN 12 11,o 13 (.raw (.slice 44 (.tmp 8) (some (.tmp 9)) (some (.tmp 10)) (some (.tmp 12))))] (.seq (sQ [oM 14 1,oM 15 2,o 16 (.bin .eql (.t 14) (.t 15))] (.cond (.t 16) (sQ [oM 17 0,oM 6 17] (.ret)) (.skip))) fG))⟩
theorem oy:nFn l9 N.aq=some d8:=by kernel_rfl
theorem fV (t:T)(g:G)(xs:List Od):SO.foot C0 t g (.call N.aq xs)=ae ((eI t xs).flatMap (ah g.h af)):=by kernel_rfl
theorem lT (d:Nat)(xs:List AV)(g:G):an C0 d N.aq xs g=tH l9 N.aq d xs g:=by kernel_rfl
theorem MO:i7 l9.P 44=some 3:=by kernel_rfl
theorem sz3:szT l9.P 3=some 1:=by kernel_rfl
theorem ze3:ej l9.P 3=some [.int .i64 0]:=by kernel_rfl
theorem J1 (d:Nat)(rd:Option Nat)(t:T)(g:G):(cm l9 (.slice 44 (.tmp 8) (some (.tmp 9)) (some (.tmp 10)) (some (.tmp 12)))).run (I l9) d rd t g=orV (eR 1 (tat t 8) (some (tat t 9)) (some (tat t 10)) (some (tat t 12)) g.h):=by
 obtain ⟨s1,e1,r1⟩:=aS (C:=l9) (x:=.tmp 8) (o:=.t 8) rfl
 obtain ⟨s2,e2,r2⟩:=aS (C:=l9) (x:=.tmp 9) (o:=.t 9) rfl
 obtain ⟨s3,e3,r3⟩:=aS (C:=l9) (x:=.tmp 10) (o:=.t 10) rfl
 obtain ⟨s4,e4,r4⟩:=aS (C:=l9) (x:=.tmp 12) (o:=.t 12) rfl
 rw[bD (s:=⟨fun t g=>orV (eR 1 (s1.run t) (some (s2.run t)) (some (s3.run t)) (some (s4.run t)) g.h)⟩) rfl (by simp only[bT,MO,sz3,e1,e2,e3,e4,Option.toList,bJ,List.head?_cons])]
 simp only[r1,r2,r3,r4]
 rfl
theorem DT (d:Nat)(rd:Option Nat)(t:T)(g:G):(cm l9 (.call ⟨.builtin .clear,#[.tmp 31],#[44]⟩)).run (I l9) d rd t g=md 1 [.int .i64 0] (tat t 31) g:=by
 obtain ⟨s1,e1,r1⟩:=aS (C:=l9) (x:=.tmp 31) (o:=.t 31) rfl
 rw[bD (s:=⟨fun t g=>md 1 [.int .i64 0] (s1.run t) g⟩) rfl (by
  show cp l9 .clear #[44] [.tmp 31]=_
  simp only[cp,show (#[44]:Array Nat)[0]?=some 44 from rfl,MO,sz3,ze3,e1]
  rfl)]
 show md 1 [.int .i64 0] (s1.run t) g=_
 rw[r1]
 rfl
theorem rQ (lim n:Nat)(h:n<=lim):dE lim (.int .i64 (n:Int))=some n:=by
 show aw (Nat.ble n lim) (some n) none=some n
 rw[aa,if_pos (by simpa using h)]
theorem slA {id ep off len l h:Nat}{lo fz:Bool}{rows:List (List AV)}{g:H}(hg:g.get id=.cells 1 rows ep lo fz)(hb:off+len<=rows.length)(h1:h<=rows.length - off)(h2:l<=h)(h3:l<rows.length - off) :
  eR 1 (.hsl id ep off len none) (some (.int .i64 (l:Int))) (some (.int .i64 (h:Int))) none g=some (.hsl id ep (off+l) (h - l) none):=by
 have e:Nat.beq (rows.length - off) l=false:=by rw[Bool.eq_false_iff];intro e;have:=Nat.eq_of_beq_eq_true e;omega
 simp only[eR,hg,Nat.beq_refl,Bool.true_and,aq,aa,Nat.ble_eq,hb,if_true,bc,Option.getD_none,rQ _ _ h1,rQ _ _ h2,e]
 rfl
theorem Mp {id ep n i j:Nat}{lo fz:Bool}{rows:List (List AV)}{g:H}(hg:g.get id=.cells 1 rows ep lo fz)(hn:rows.length=n)(hj:j<=n)(hi:i<=j)(h0:i<n) :
  ∃y,eR 1 (.hsl id ep 0 n none) (some (.int .i64 (i:Int))) (some (.int .i64 (j:Int))) (some (.int .i64 (n:Int))) g=some y:=by
 have e:Nat.beq n i=false:=by rw[Bool.eq_false_iff];intro e;have:=Nat.eq_of_beq_eq_true e;omega
 simp only[eR,hg,Nat.beq_refl,Bool.true_and,aq,hn,aa,Nat.ble_eq,Nat.zero_add,Nat.le_refl,if_true,bc,Option.getD_none,Nat.sub_zero,rQ _ _ (Nat.le_refl n),rQ _ _ hj,rQ _ _ hi,e]
 exact ⟨_,rfl⟩
theorem Di {rows:List (List AV)}{i:Nat}(hi:i<rows.length):(cN rows i (rows.drop (i+1))).length=rows.length/\(cN rows i (rows.drop (i+1))).take (rows.length - 1)=rows.eraseIdx i:=by
 have hl:i+(rows.drop (i+1)).length<=rows.length:=by simp;omega
 obtain ⟨h1,h2⟩:=pQ hl
 refine ⟨h1,List.ext_getElem? fun k=>?_⟩
 rw[List.getElem?_take,h2 k,List.getElem?_eraseIdx,List.length_drop]
 by_cases hk:k<rows.length - 1
 ·rw[if_pos hk]
  by_cases hki:k<i
  ·rw[if_neg (by omega),if_pos hki]
  ·rw[if_pos (by omega),if_neg hki,List.getElem?_drop]
   congr 1;omega
 ·rw[if_neg hk]
  split
  ·omega
  ·rw[List.getElem?_eq_none (by omega)]
theorem M3 {id ep n i:Nat}{lo fz:Bool}{rows:List (List AV)}{g:G}(hg:g.h.get id=.cells 1 rows ep lo fz)(hn:rows.length=n)(hi:i<=n)(h0:0<n):uT 1 (.hsl id ep 0 n none) none (some (.int .i64 (i:Int))) g=.val (.hsl id ep 0 i none):=by
 have e:Nat.beq n 0=false:=by rw[Bool.eq_false_iff];intro e;have:=Nat.eq_of_beq_eq_true e;omega
 simp only[uT,eR,hg,Nat.beq_refl,Bool.true_and,aq,hn,aa,Nat.ble_eq,Nat.zero_add,Nat.le_refl,if_true,bc,Option.getD_none,Nat.sub_zero,rQ _ _ hi,e]
 rfl
theorem M1 {id ep n i:Nat}{lo fz:Bool}{rows:List (List AV)}{g:G}(hg:g.h.get id=.cells 1 rows ep lo fz)(hn:rows.length=n)(hi:i<=n):∃y,uT 1 (.hsl id ep 0 n none) (some (.int .i64 (i:Int))) none g=.val y/\∀h:H,h.get id=.cells 1 rows ep lo fz->am h 1 y=some (rows.drop i):=by
 simp only[uT,eR,hg,Nat.beq_refl,Bool.true_and,aq,hn,aa,Nat.ble_eq,Nat.zero_add,Nat.le_refl,if_true,bc,Option.getD_none,Nat.sub_zero,rQ _ _ hi]
 by_cases h0:n=i
 ·have e:Nat.beq n i=true:=by rw[h0];exact Nat.beq_refl _
  rw[if_pos e,List.drop_of_length_le (by omega)]
  cases lo
  ·exact ⟨_,rfl,fun h _=>rfl⟩
  ·exact ⟨_,rfl,fun h _=>lf _ _ _ _⟩
 ·rw[if_neg fun e=>h0 (Nat.eq_of_beq_eq_true e)]
  refine ⟨_,rfl,fun h hh=>?_⟩
  rw[cE,hh,cx,if_pos (by omega),List.take_of_length_le (by simp;omega)]
theorem MZ {id ep i n:Nat}{lo:Bool}{rows new:List (List AV)}{x:AV}{g:G}(hg:g.h.get id=.cells 1 rows ep lo false)(hx:am g.h 1 x=some new)(hl:i+new.length<=n)(hn:rows.length=n)(hb:n<=1000){K:AV->G->Prop}{D:ADf->Prop}
  (k1:new=[]->K (.hsl id ep 0 i none) g) (k2:K (.hsl id ep 0 (i+new.length) none) (g.put id (.cells 1 (cN rows i new) ep lo false))):(cO 1 8 (.hsl id ep 0 i none) x g).sat K g D:=by
 have e3:g.get id=.cells 1 rows ep lo false:=hg
 simp only[cO,hx,bi,e3,aq,hn,aa,Nat.beq_refl,Bool.true_and,Nat.zero_add,Bool.and_eq_true,Nat.ble_eq,Option.getD_none,Nat.sub_zero,gK]
 rw[if_pos ⟨by omega,by unfold a_;omega⟩,if_pos hl]
 cases new with
 | nil=>exact k1 rfl
 | cons a new =>
  dsimp only
  rw[if_pos ⟨hl,trivial⟩]
  exact k2
theorem ML {id ep off:Nat}{lo:Bool}{rows:List (List AV)}{g:G}(hg:g.h.get id=.cells 1 rows ep lo false)(hb:off+1<=rows.length):md 1 [.int .i64 0] (.hsl id ep off 1 none) g=.upd .undef (g.put id (.cells 1 (cN rows off [[.int .i64 0]]) ep lo false)):=by
 have e3:g.get id=.cells 1 rows ep lo false:=hg
 have e4:ge 1 [AV.int IntKind.i64 0]=[[AV.int IntKind.i64 0]]:=rfl
 simp only[md,e3,aa,Nat.beq_refl,Bool.true_and,aq,Bool.and_eq_true,Nat.ble_eq,gK,e4]
 rw[if_pos ⟨hb,trivial⟩]
theorem AG {rows:List (List AV)}{m:Nat}{r:List AV}(h:m+1<=rows.length):(cN rows m [r]).length=rows.length/\(cN rows m [r]).take m=rows.take m:=by
 obtain ⟨h1,h2⟩:=pQ (rows:=rows) (new:=[r]) (off:=m) (by simpa using h)
 refine ⟨h1,List.ext_getElem? fun k=>?_⟩
 rw[List.getElem?_take,List.getElem?_take,h2 k]
 by_cases hk:k<m
 ·rw[if_pos hk,if_pos hk,if_neg (by omega)]
 ·rw[if_neg hk,if_neg hk]
theorem LT {d id ep i:Nat}{lo:Bool}{l:List Int}{g:G}{K:AV->G->Prop}{D:ADf->Prop}(hi:i<l.length)(hl:l.length<=1000)(hg:g.h.get id=.cells 1 (l.map ci) ep lo false)(hid:id<g.nx)
  (kk:∀(g':G) (rows:List (List AV)),g'.h.get id=.cells 1 rows ep lo false->rows.length=l.length->rows.take (l.length - 1)=(l.eraseIdx i).map ci->g.nx<=g'.nx->(∀k,k≠id->g'.h.get k=g.h.get k)->(∀k∈g'.lg,k=id\/k∈g.lg\/g.nx<=k)->K (.hsl id ep 0 (l.length - 1) none) g') :
  (orF ((I l9).call d N.aq [.hsl id ep 0 l.length none,.int .i64 (i:Int),.int .i64 ((i+1:Nat):Int)] g)).sat K g D:=by
 obtain ⟨n,hn⟩:∃n,l.length=n:=⟨_,rfl⟩
 rw[hn] at hi hl kk ⊢
 have hrl:(l.map ci).length=n:=by simpa using hn
 obtain ⟨y,hy⟩:=Mp hg hrl (j:=i+1) (i:=i) (by omega) (by omega) hi
 have ln:∀(m:Nat) (g:G),ii .slice (.hsl id ep 0 m none) g=.val (.int .i64 (m:Int)):=fun _ _=>rfl
 have c1:decide ((i:Int)=((i+1:Nat):Int))=false:=decide_eq_false (by omega)
 refine te oy (by simp[d8]) ?_
 simp only[d8]
 simp only[sz,simprocAttr,ln,J1,hy,c1,orV]
 simp only[fG]
 have lh:∀x:AV,List.head? [x]=some x:=fun _=>rfl
 have lh0:List.head? ([]:List AV)=none:=rfl
 simp only[sz,simprocAttr,ln,lh,lh0]
 rw[M3 (by simpa using hg) hrl (by omega) (by omega)]
 simp only[sz,simprocAttr,lh,lh0]
 refine cI (M1 (by simpa using hg) hrl (by omega)) fun y2 hy2=>?_
 simp only[sz,simprocAttr]
 have tail:∀(g2:G) (rows1:List (List AV)),g2.h.get id=.cells 1 rows1 ep lo false->rows1.length=n->rows1.take (n - 1)=(l.eraseIdx i).map ci->True:=fun _ _ _ _ _=>trivial
 have hdl:((l.map ci).drop (i+1)).length=n - (i+1):=by simp[hn]
 refine MZ (n:=n) (i:=i) (new:=(l.map ci).drop (i+1)) (by simpa using hg) (by simpa using hy2 _ hg) (by rw[hdl];omega) hrl hl ?_ ?_
 ·intro hnew
  have hin:i=n - 1:=by
   have:=congrArg List.length hnew
   rw[hdl] at this
   simp at this
   omega
  simp only[sz,simprocAttr,ln,lh,lh0]
  refine ⟨?_,?_⟩
  ·simp only[sf,List.reverse_cons,List.reverse_nil,List.nil_append,List.cons_append]
   exact aL [false,false,false,false,false,false,true,false] [] (by simp[All2,ae,aA]) (by decide) (by simp)
  have hm:n - 1+1=n:=by omega
  rw[hin]
  simp only[uT]
  rw[slA (l:=n - 1) (h:=n) (by simpa using hg) (by omega) (by omega) (by omega) (by omega)]
  rw[show 0+(n - 1)=n - 1 by omega,show n - (n - 1)=1 by omega]
  simp only[sz,simprocAttr,orV,DT]
  rw[ML (by simpa using hg) (by omega)]
  simp only[sz,simprocAttr]
  obtain ⟨t1,t2⟩:=AG (rows:=l.map ci) (m:=n - 1) (r:=[.int .i64 0]) (by omega)
  refine kk _ (cN (l.map ci) (n - 1) [[.int .i64 0]]) (by simp[H.get_put]) (by omega) ?_ (by simp;omega) (fun k hk=>by simp[H.get_put,hk]) ?_
  ·rw[t2,<-hin,<-List.map_take]
   congr 1
   rw[List.eraseIdx_eq_take_drop_succ,List.drop_of_length_le (by omega),List.append_nil]
  ·intro k hk
   simp at hk
   rcases hk with rfl | hk
   ·exact .inl rfl
   ·exact .inr (.inl hk)
 ·rw[hdl]
  have hm:i+(n - (i+1))=n - 1:=by omega
  rw[hm]
  obtain ⟨r1,r2⟩:=Di (rows:=l.map ci) (i:=i) (by omega)
  rw[hrl] at r1 r2
  obtain ⟨rows1,hr1⟩:∃rows1,rows1=cN (l.map ci) i ((l.map ci).drop (i+1)):=⟨_,rfl⟩
  rw[<-hr1] at r1 r2 ⊢
  simp only[sz,simprocAttr,ln,lh,lh0]
  refine ⟨?_,?_⟩
  ·simp only[sf,List.reverse_cons,List.reverse_nil,List.nil_append,List.cons_append]
   exact aL [false,false,false,false,false,false,true,false] [] (by simp[All2,ae,aA]) (by decide) (by simp)
  simp only[uT]
  rw[slA (rows:=rows1) (ep:=ep) (lo:=lo) (fz:=false) (l:=n - 1) (h:=n) (by simp[H.get_put]) (by omega) (by omega) (by omega) (by omega)]
  rw[show 0+(n - 1)=n - 1 by omega,show n - (n - 1)=1 by omega]
  simp only[sz,simprocAttr,orV,DT]
  rw[ML (rows:=rows1) (lo:=lo) (by simp[H.get_put]) (by omega)]
  simp only[sz,simprocAttr]
  obtain ⟨t1,t2⟩:=AG (rows:=rows1) (m:=n - 1) (r:=[.int .i64 0]) (by omega)
  refine kk _ (cN rows1 (n - 1) [[.int .i64 0]]) (by simp[H.get_put]) (by omega) ?_ (by simp;omega) (fun k hk=>by simp[H.get_put,hk]) ?_
  ·rw[t2,r2]
   simp[List.eraseIdx_eq_take_drop_succ]
  ·intro k hk
   simp at hk
   rcases hk with rfl | hk
   ·exact .inl rfl
   ·exact .inr (.inl hk)
theorem y9 (h:H)(n:Nat):∀l:List Int,(l.map ci).flatMap (·.flatMap (ah h n))=[]
 | []=>rfl
 | x::l=>by
  rw[List.map_cons,List.flatMap_cons,y9 h n l]
  cases n<;>rfl
theorem s_ {h:H}{id ep0 ep off len:Nat}{lim:Option Nat}{lo fz:Bool}{rows:List (List AV)}{l:List Int}(hg:h.get id=.cells 1 rows ep lo fz)(hr:(rows.drop off).take len=l.map ci):ah h af (.hsl id ep0 off len lim)=[id]:=by
 show id::(match h.get id with | .cells _ rows _ _ _=>(fS len (fp off rows)).flatMap (·.flatMap (ah h 23)) | _=>[])=[id]
 rw[hg]
 show id::(fS len (fp off rows)).flatMap (·.flatMap (ah h 23))=[id]
 rw[aT,aU,hr,y9]
theorem HD {d id ep i:Nat}{lo:Bool}{l:List Int}{g:G}{K:AV->G->Prop}{D:ADf->Prop}(hi:i<l.length)(hl:l.length<=1000)(hg:g.h.get id=.cells 1 (l.map ci) ep lo false)(hid:id<g.nx)
  (kk:∀(g':G) (rows:List (List AV)),g'.h.get id=.cells 1 rows ep lo false->rows.length=l.length->rows.take (l.length - 1)=(l.eraseIdx i).map ci->g.nx<=g'.nx->(∀k,k<g.nx->k≠id->g'.h.get k=g.h.get k)->(∀k∈g'.lg,k=id\/k∈g.lg\/g.nx<=k)->(∀k∈g'.lg,k∈g.lg\/k<g'.nx)->K (.hsl id ep 0 (l.length - 1) none) g') :
  (an C0 d N.aq [.hsl id ep 0 l.length none,.int .i64 (i:Int),.int .i64 ((i+1:Nat):Int)] g).sat K g D:=by
 have e0:([.hsl id ep 0 l.length none,.int .i64 (i:Int),.int .i64 ((i+1:Nat):Int)]:List AV).flatMap (ah g.h af)=[id]:=by
  rw[List.flatMap_cons,s_ hg (l:=l) (by rw[List.drop_zero,List.take_of_length_le (by simp)])]
  rfl
 have er:∀k,(eh g.h [id]).get k=if k=id then g.h.get k else .none:=fun k=>by
  rw[gF];simp
 rw[lT]
 refine zF CX (K':=fun v g''=>v=.hsl id ep 0 (l.length - 1) none/\∃rows,g''.h.get id=.cells 1 rows ep lo false/\rows.length=l.length/\rows.take (l.length - 1)=(l.eraseIdx i).map ci/\(∀k,k≠id->g''.h.get k=(eh g.h [id]).get k)) (D2:=fun _=>True) (by rw[e0];intro k hk;rw[List.mem_singleton.1 hk];exact hid) ?_ ?_
 ·rw[e0]
  refine LT hi hl (by show (eh g.h [id]).get id=_;rw[er,if_pos rfl,hg]) hid fun g' rows h1 h2 h3 h4 h5 _=>?_
  exact ⟨rfl,rows,h1,h2,h3,h5⟩
 ·rintro v g'' ⟨rfl,rows,h1,h2,h3,h4⟩ hn hlg ho
  rw[e0] at hlg ho
  refine kk _ rows ?_ h2 h3 hn (fun k hk hne=>?_) (fun k hk=>?_) fun k hk=>?_
  ·show (fD _ _ _).get id=_
   rw[dm]
   by_cases hin:id∈g''.lg
   ·rw[if_pos hin,h1]
   ·have:=ho id hin
    rw[er,if_pos rfl,h1] at this
    rw[if_neg hin,this]
  ·show (fD _ _ _).get k=_
   rw[dm,if_neg]
   intro hin
   exact hne (List.mem_singleton.1 ((hlg k hin).2 hk))
  ·rcases List.mem_append.1 hk with h | h
   ·by_cases hlt:k<g.nx
    ·exact .inl (List.mem_singleton.1 ((hlg k h).2 hlt))
    ·exact .inr (.inr (by omega))
   ·exact .inr (.inl h)
  ·rcases List.mem_append.1 hk with h | h
   ·exact .inr (hlg k h).1
   ·exact .inl h
theorem GI {h:H}{d q ep m:Nat}{lo fz:Bool}{rows:List (List AV)}{l:List Int}(hq:h.get q=.cells 1 rows ep lo fz)(hm:m<=rows.length)(hl:rows.take m=l.map ci)(n:Nat):Hx.snap h d (n+2) (.hsl q ep 0 m none)=some (.tsl d 1 (l.map ci)):=by
 rw[Hx.snap]
 simp only[hq,Nat.beq_refl,Bool.true_and,aq,Nat.zero_add,aa,Nat.ble_eq,hm,if_true]
 have e:fS m (fp 0 rows)=l.map ci:=by rw[aT,aU,List.drop_zero,hl]
 rw[e,za]
 dsimp only
 rw[s8]
 dsimp only
 rw[show Nat.max d 0=d from Nat.max_eq_left (Nat.zero_le d)]
theorem Am {h:H}{q ep m:Nat}{lo fz:Bool}{rows:List (List AV)}{l:List Int}(hq:h.get q=.cells 1 rows ep lo fz)(hl:rows.take m=l.map ci)(n:Nat):ah h (n+2) (.hsl q ep 0 m none)=[q]:=by
 rw[ah]
 simp only[hq]
 rw[nM]
 intro r hr
 rw[aT,aU,List.drop_zero,hl] at hr
 obtain ⟨x,-,rfl⟩:=List.mem_map.1 hr
 exact ⟨x,rfl⟩
def opA:AV:=.agg [.clo 90 [] []]
theorem Hh (l:List Int):S.af l []=[]:=rfl
theorem MG (f:Factor):PsOk f []:=by
 refine ⟨fun p hp=>absurd hp List.not_mem_nil,List.nodup_nil,⟨fun x hx=>absurd hx List.not_mem_nil,?_,?_⟩⟩
 ·show 0<=8;omega
 ·show S.aa []<=1024;decide
theorem v7 {k:Nat}{g:G}{b:Nat}{v:AV}{l:List Int}(h:Own g b v 1 (l.map ci))(hl:l.length<9223372036854775808):SlR (fun _=>True) k g.h l v:=by
 obtain ⟨u',eu,hsl⟩:=h.ints (k:=k) hl
 injection eu with eu
 subst eu
 exact hsl
theorem An {d:Nat}{g:G}{v:AV}{f:Factor}{st:List Int}(hd:0<d)(hf:FcOk f)(hm:Agg ((f,st):TbM) NoP 0 g.h v)(htot:S.sm (fun i=>f.w[i]?.getD 0) f.w.length<=171992678400000000) :
  ∃r,an C0 d N.ae [v,.nils,opA] g=.val r/\nJ (Agg (⟨[],[],S.gl f [] f.w.length⟩:Factor)) (One (0:Int)) NoP 0 .nil r:=by
 have e0:=cq d hm
 obtain ⟨cs,rfl,hc⟩:=hm
 obtain ⟨a,b,c,s,rfl,ha,hb,hcc,hs⟩:=pX.1 hc
 have hz:SlR NoP 0 .nil (S.af f.vars []) .nils:=⟨by show 0<9223372036854775808;decide,rfl⟩
 rw[fL]
 refine ba gV (xs:=[.agg [a,b,c,s],.nils,opA]) (by simp only[aB,e0];rfl) (by simp[bM]) (bN (m:=2) (dy _) (aO _) (by decide) (by decide)) (by decide) hd ?_
 simp only[sz,simprocAttr,bM,opA,mM]
 refine ur (f:=f) (st:=st) (ps:=[]) (Nat.succ_pos d) hf (MG f) (Rp.tree hc (Nat.le_refl 0)) hz htot (by simp[St,LGa,sx]) ⟨by simp[sx,H.get_put],by simp[sx,H.get_put],by simp[sx,H.get_put]⟩ (by simp[sx]) ?_
 intro W w g' hW hw hn
 have hgl:=zT f [] f.w.length
 have h1:(S.aa (S.af f.cards [])).toNat=1:=by rw[Hh];rfl
 have hgl2:(S.gl f [] f.w.length).length<9223372036854775808:=by omega
 exact ⟨fun _=>True,_,_,rfl,⟨_,rfl,aX.2 ⟨_,_,_,rfl,⟨by show 0<9223372036854775808;decide,rfl⟩,v7 hW (by show 0<9223372036854775808;decide),v7 hw hgl2⟩⟩,ay.2 rfl⟩
theorem Ci {d q ep m:Nat}{lo fz:Bool}{rows:List (List AV)}{g:G}{v:AV}{f:Factor}{st:List Int}{ps:List Nat}(hd:0<d)(hf:FcOk f)(hps:PsOk f ps)(hm:Agg ((f,st):TbM) NoP 0 g.h v)(htot:S.sm (fun i=>f.w[i]?.getD 0) f.w.length<=171992678400000000)
  (hq:g.h.get q=.cells 1 rows ep lo fz) (hmr:m<=rows.length) (hl:rows.take m=(S.af f.vars ps).map ci) :
  ∃r,an C0 d N.ae [v,.hsl q ep 0 m none,opA] g=.upd r (bg g [q])/\nJ (Agg (⟨S.af f.vars ps,S.af f.cards ps,S.gl f ps f.w.length⟩:Factor)) (One (0:Int)) NoP 0 .nil r:=by
 have e0:=cq d hm
 have ids:ah g.h af v=[]:=by
  have:=Rp.ids (n:=23) (P:=NoP) (k:=0) (h:=g.h) (x:=((f,st):TbM)) (cs:=match v with | .agg cs=>cs | _=>[]) (by obtain ⟨cs,rfl,hc⟩:=hm;exact hc)
  obtain ⟨cs,rfl,hc⟩:=hm
  show cs.flatMap (ah g.h 23)=[]
  exact List.eq_nil_iff_forall_not_mem.2 fun i hi=>this i hi
 obtain ⟨cs,rfl,hc⟩:=hm
 obtain ⟨a,b,c,s,rfl,ha,hb,hcc,hs⟩:=pX.1 hc
 have hl8:=hps.c.l8
 rw[dk] at hl8
 have hz:SlR NoP d .nil (S.af f.vars ps) (.tsl d 1 ((S.af f.vars ps).map ci)):=⟨by rw[dk];omega,Nat.le_refl d,.inl rfl,All2.of_map (fun q=>ay.2 rfl) _⟩
 have hsn:aB (Hx.snap g.h d af) [.agg [a,b,c,s],.hsl q ep 0 m none,opA]=some [.agg [a,b,c,s],.tsl d 1 ((S.af f.vars ps).map ci),opA]:=by
  simp only[aB,e0]
  rw[show af=22+2 from rfl,GI hq hmr hl 22]
  rfl
 have key:=lQ (C:=C0) (d:=d+1) (f:=N.ae) («as»:=[.agg [a,b,c,s],.tsl d 1 ((S.af f.vars ps).map ci),opA]) (g:=G.empty) (K:=fun r g'=>∃W w,r=.tup [.agg [.tsl d 1 ((S.af f.vars ps).map ci),W,w],.int .i64 0]/\SlR (fun _=>True) 0 g'.h (S.af f.cards ps) W/\SlR (fun _=>True) 0 g'.h (S.gl f ps f.w.length) w) gV (by simp[bM]) ?_
 ·cases hcl:(I C0).call (d+1) N.ae [.agg [a,b,c,s],.tsl d 1 ((S.af f.vars ps).map ci),opA] G.empty with
  | fail=>rw[hcl] at key;exact key.elim
  | ok r g1 =>
   rw[hcl] at key
   obtain ⟨W,w,rfl,hW,hw⟩:=key
   have sn:∀{l:List Int} {X:AV},SlR (fun _=>True) 0 g1.h l X->∃X',Hx.snap g1.h 0 22 X=some X'/\SlR NoP 0 .nil l X':=fun {l X} hX=>by
    obtain ⟨cs',e1,r1⟩:=Rp.snap (α:=List Int) (n:=22) 0 (show Rp.rp (fun _=>True) 0 g1.h l [X] from ⟨X,rfl,hX⟩) (Nat.le_trans (show Rp.dp (List Int)<=20 by decide) (by omega)) (Nat.le_trans (show Rp.dp (List Int)<=20 by decide) (by show 20<=24;omega))
    obtain ⟨X',rfl,hX'⟩:=iQ.1 r1
    refine ⟨X',?_,hX'⟩
    cases hs:Hx.snap g1.h 0 22 X with
    | none=>simp[aB,hs] at e1
    | some y =>
     simp[aB,hs] at e1
     rw[e1]
   obtain ⟨W',sW,hW'⟩:=sn hW
   obtain ⟨w',sw,hw'⟩:=sn hw
   obtain ⟨-,-,uW,m1,tW,lW⟩:=py (d:=d) (n:=21) (h:=g.h) hW' hd
   obtain ⟨-,-,uw,m2,tw,lw⟩:=py (d:=d) (n:=21) (h:=g.h) hw' hd
   have r1:Hx.snap g1.h 0 af (.tup [.agg [.tsl d 1 ((S.af f.vars ps).map ci),W,w],.int .i64 0])=some (.tup [.agg [.tsl d 1 ((S.af f.vars ps).map ci),W',w'],.int .i64 0]):=by
    have e1:Hx.snap g1.h 0 23 (.agg [.tsl d 1 ((S.af f.vars ps).map ci),W,w])=some (.agg [.tsl d 1 ((S.af f.vars ps).map ci),W',w']):=by
     show (match aB (Hx.snap g1.h 0 22) [.tsl d 1 ((S.af f.vars ps).map ci),W,w] with | some as'=>some (AV.agg as') | none=>none)=_
     simp only[aB,sW,sw,show Hx.snap g1.h 0 22 (.tsl d 1 ((S.af f.vars ps).map ci))=some (.tsl d 1 ((S.af f.vars ps).map ci)) from rfl]
    show (match aB (Hx.snap g1.h 0 23) [.agg [.tsl d 1 ((S.af f.vars ps).map ci),W,w],.int .i64 0] with | some as'=>some (AV.tup as') | none=>none)=_
    simp only[aB,e1,show Hx.snap g1.h 0 23 (.int .i64 0)=some (.int .i64 0) from rfl]
   have r2:bK af (.tup [.agg [.tsl d 1 ((S.af f.vars ps).map ci),W',w'],.int .i64 0])=some d:=by
    have e1:bK 23 (.agg [.tsl d 1 ((S.af f.vars ps).map ci),W',w'])=some d:=by
     show di (bK 22) [.tsl d 1 ((S.af f.vars ps).map ci),W',w']=_
     simp only[di,tW,tw,show bK 22 (.tsl d 1 ((S.af f.vars ps).map ci))=some d from rfl]
     congr 1
     show max d (max m1 (max m2 0))=d
     omega
    show di (bK 23) [.agg [.tsl d 1 ((S.af f.vars ps).map ci),W',w'],.int .i64 0]=_
    simp only[di,e1,show bK 23 (.int .i64 0)=some 0 from rfl]
    congr 1
    show max d (max 0 0)=d
    omega
   have r3:bo d af (.tup [.agg [.tsl d 1 ((S.af f.vars ps).map ci),W',w'],.int .i64 0])=some (.tup [.agg [.tsl 0 1 ((S.af f.vars ps).map ci),W',w'],.int .i64 0]):=by
    have e1:bo d 23 (.agg [.tsl d 1 ((S.af f.vars ps).map ci),W',w'])=some (.agg [.tsl 0 1 ((S.af f.vars ps).map ci),W',w']):=by
     show (match aB (bo d 22) [.tsl d 1 ((S.af f.vars ps).map ci),W',w'] with | some as'=>some (AV.agg as') | none=>none)=_
     simp only[aB,uW,uw,show bo d 22 (.tsl d 1 ((S.af f.vars ps).map ci))=some (.tsl 0 1 ((S.af f.vars ps).map ci)) from ze _]
    show (match aB (bo d 23) [.agg [.tsl d 1 ((S.af f.vars ps).map ci),W',w'],.int .i64 0] with | some as'=>some (AV.tup as') | none=>none)=_
    simp only[aB,e1,show bo d 23 (.int .i64 0)=some (.int .i64 0) from rfl]
   have r4:bK af (.tup [.agg [.tsl 0 1 ((S.af f.vars ps).map ci),W',w'],.int .i64 0])=some 0:=by
    have e1:bK 23 (.agg [.tsl 0 1 ((S.af f.vars ps).map ci),W',w'])=some 0:=by
     show di (bK 22) [.tsl 0 1 ((S.af f.vars ps).map ci),W',w']=_
     simp only[di,tW,tw,show bK 22 (.tsl 0 1 ((S.af f.vars ps).map ci))=some 0 from rfl]
     congr 1
     show max 0 (max m1 (max m2 0))=0
     omega
    show di (bK 23) [.agg [.tsl 0 1 ((S.af f.vars ps).map ci),W',w'],.int .i64 0]=_
    simp only[di,e1,show bK 23 (.int .i64 0)=some 0 from rfl]
    rfl
   refine ⟨.tup [.agg [.tsl 0 1 ((S.af f.vars ps).map ci),W',w'],.int .i64 0],?_,_,_,rfl,⟨_,rfl,aX.2 ⟨_,_,_,rfl,⟨by show (S.af f.vars ps).length<_;rw[dk];omega,Nat.le_refl 0,.inl rfl,All2.of_map (fun q=>ay.2 rfl) _⟩,hW',hw'⟩⟩,ay.2 rfl⟩
   rw[fL,MJ hsn hcl r1 r2 r3 r4 hd]
   congr 1
   simp only[List.flatMap_cons,List.flatMap_nil,List.append_nil,ids]
   rw[show af=22+2 from rfl,Am hq hl 22]
   rfl
 ·simp only[sz,simprocAttr,bM,opA,mM]
  refine ur (f:=f) (st:=st) (ps:=ps) (Nat.succ_pos d) hf hps (Rp.tree hc (Nat.le_refl 0)) hz htot (by simp[St,LGa,sx]) ⟨by simp[sx,H.get_put],by simp[sx,H.get_put],by simp[sx,H.get_put]⟩ (by simp[sx]) ?_
  intro W w g' hW hw hn
  have hgl:=zT f ps f.w.length
  have hpb:=hps.c.p
  exact ⟨W,w,rfl,v7 hW (by rw[dk];omega),v7 hw (by omega)⟩
theorem uK {x y:Foot}(hx:x.wr=[])(hb:x.lk.big=false)(hs:x.lk.sr=[])(h3:∀i∈y.wr,∀j∈x.lk.rd,i≠j):bm x y=true:=by
 have m3:=da h3
 have m5:∀l:List Nat,meets l []=false:=fun l=>by simp[meets]
 simp only[bm,eU,dO,hx,hb,hs,m3,m5,fst1,List.map_nil,Bool.not_false,Bool.and_self,Bool.true_or]
 split<;>rfl
theorem ie {x y:Foot}(hy:y.wr=[])(hb:y.lk.big=false)(hs:y.lk.sr=[])(h:∀i∈x.wr,∀j∈y.lk.rd,i≠j):bm x y=true:=by
 have m:=da h
 have m5:∀l:List Nat,meets l []=false:=fun l=>by simp[meets]
 simp only[bm,eU,dO,hy,hb,hs,m,m5,fst1,List.map_nil,Bool.not_false,Bool.and_self,Bool.and_true,Bool.true_or]
 split<;>rfl
theorem F8 {d k:Nat}{g:G}{l:List Int}{v:AV}{K:AV->G->Prop}{D:ADf->Prop}(hv:SlR NoP k .nil l v)(hl:0<l.length)(hl2:l.length<=1000)
  (kk:∀(id ep:Nat) (lo:Bool) (g':G),g'.h.get id=.cells 1 (l.map ci) ep lo false->g.nx<=id->id<g'.nx->(∀i,i<g.nx->g'.h.get i=g.h.get i)->(∀i∈g'.lg,i∈g.lg\/g.nx<=i)->K (.hsl id ep 0 l.length none) g') :
  (an C0 d N.ac [v] g).sat K g D:=by
 refine GP hv hl hl2 fun u g' hu hf hlg=>?_
 rcases hu with ⟨-,e⟩ | ⟨id,ep,lo,h1,h2,rfl,h3⟩
 ·have:=congrArg List.length e
  rw[List.length_map,List.length_nil] at this
  omega
 ·rw[List.length_map]
  exact kk id ep lo g' h3 h1 h2 hf.2 hlg
theorem tZ {f:Factor}{P:Nat->Prop}{k:Nat}{h:H}{r:AV}(hr:RfV f P k h r):∃st a b c s,r=.tup [.agg [a,b,c,s],.int .i64 0]/\Rp.rp P k h ((f,st):TbM) [a,b,c,s]:=by
 obtain ⟨st,-,x,y,rfl,⟨cs,rfl,hc⟩,hy⟩:=hr
 obtain ⟨a,b,c,s,rfl,h⟩:=pX.1 hc
 have hy:=ay.1 hy
 injection hy with hy
 exact ⟨st,a,b,c,s,by rw[hy],hc⟩
theorem Db {d:Nat}{g:G}{v:AV}{f:Factor}(hd:0<d)(hm:Agg f NoP 0 g.h v)(hf:FcOk f):an C0 d N.aU [v] g=.val (.int .i64 0):=by
 have e0:=cq d hm
 obtain ⟨cs,rfl,hcs⟩:=hm
 obtain ⟨a,b,c,rfl,ha,hb,hc⟩:=aX.1 hcs
 have l3:aI (.cells 3 [[a,b,c]] 0 false false) 0 0 true 3 0=.val (.agg [a,b,c]):=rfl
 rw[tk]
 refine lN uU (xs:=[.agg [a,b,c]]) (by simp only[aB,e0]) (by simp[j9]) hd ?_
 simp only[sz,simprocAttr,j9,nh,l3]
 refine cI (wI (f:=f) (Nat.succ_pos d) ⟨_,rfl,Rp.tree hcs (Nat.le_refl 0)⟩ hf) fun r hr=>?_
 obtain ⟨st,a',b',c',s,rfl,hx⟩:=tZ hr
 simp only[sz,simprocAttr]
theorem LR (f:Factor)(j:Nat):S.gl f [] j=[S.sm (fun i=>f.w[i]?.getD 0) j]:=by
 have h1:(S.aa (S.af f.cards [])).toNat=1:=by rw[Hh];rfl
 rw[S.gl,h1]
 show [S.aL f [] j ((0:Nat):Int)]=_
 congr 1
theorem Gk {d:Nat}{g:G}{v:AV}{f:Factor}(hd:0<d)(hm:Agg f NoP 0 g.h v)(hf:FcOk f)(htot:S.sm (fun i=>f.w[i]?.getD 0) f.w.length<=171992678400000000):an C0 d N.aw [v] g=.val (.tup [.int .i64 (S.sm (fun i=>f.w[i]?.getD 0) f.w.length),.int .i64 0]):=by
 have key:∃r,an C0 d N.aw [v] g=.val r/\nJ (One (S.sm (fun i=>f.w[i]?.getD 0) f.w.length)) (One (0:Int)) NoP 0 .nil r:=by
  have e0:=cq d hm
  obtain ⟨cs,rfl,hcs⟩:=hm
  obtain ⟨a,b,c,rfl,ha,hb,hc⟩:=aX.1 hcs
  have l3:aI (.cells 3 [[a,b,c]] 0 false false) 0 0 true 3 0=.val (.agg [a,b,c]):=rfl
  have hbd:dv [.nilf] [((0,1),.clo 90 [] [])]=some [.clo 90 [] []]:=rfl
  rw[tF]
  refine ba uM (xs:=[.agg [a,b,c]]) (by simp only[aB,e0]) (by simp[j7]) (bN (m:=1) (aO _) (aO _) (by decide) (by decide)) (by decide) hd ?_
  simp only[sz,simprocAttr,j7,nC,l3]
  refine cI (wI (f:=f) (Nat.succ_pos d) ⟨_,rfl,Rp.tree hcs (Nat.le_refl 0)⟩ hf) fun r hr=>?_
  obtain ⟨st,a',b',c',s,rfl,hx⟩:=tZ hr
  have l4:aI (.cells 4 [[a',b',c',s]] 0 false false) 0 0 true 4 0=.val (.agg [a',b',c',s]):=rfl
  simp only[sz,simprocAttr,l4,hbd]
  refine cI (An (f:=f) (st:=st) (Nat.succ_pos d) hf ⟨_,rfl,Rp.tree hx (Nat.le_refl 0)⟩ htot) fun r hr=>?_
  obtain ⟨z1,z2,rfl,⟨cs2,rfl,hc2⟩,hz2⟩:=hr
  rw[show z2=.int .i64 0 by have:=ay.1 hz2;injection this]
  obtain ⟨q1,q2,q3,rfl,-,-,hq3⟩:=aX.1 hc2
  rw[LR] at hq3
  have rq:=fun h=>(hq3.tree (h':=h) (Nat.le_refl 0):SlR NoP 0 h _ q3).ints
  have l5:aI (.cells 3 [[q1,q2,q3]] 0 false false) 0 0 false 1 2=.val q3:=rfl
  have i0:∀g:G,zJ 1 q3 (.int .i64 0) g=.val (mC 1 q3 0 0):=fun g=>zV (k:=.i64) (i:=0) (by rw[rq];rfl) (by rw[rq];simp)
  have u2:((List.map ci [S.sm (fun i=>f.w[i]?.getD 0) f.w.length]))[0]?=some (ci (S.sm (fun i=>f.w[i]?.getD 0) f.w.length)):=rfl
  have ld0:∀g:G,mO false 1 (mC 1 q3 0 0) g=.val (.int .i64 (S.sm (fun i=>f.w[i]?.getD 0) f.w.length)):=fun g=>by
   rw[tR (by rw[rq];rfl) (by rw[rq];simp),rq];rfl
  simp only[sz,simprocAttr,l5,i0,ld0]
  exact ⟨fun _=>True,_,_,rfl,ay.2 rfl,ay.2 rfl⟩
 obtain ⟨r,hr,x,y,rfl,hx,hy⟩:=key
 have hx:=ay.1 hx
 injection hx with hx
 have hy:=ay.1 hy
 injection hy with hy
 rw[hr,hx,hy]
def S.aF (n k:Nat):List Nat:=(List.range n).eraseIdx k
theorem CJ {l:List Int}{k:Nat}:S.af l (S.aF l.length k)=l.eraseIdx k:=by
 have e:S.af l (List.range l.length)=l:=by
  refine List.ext_getElem (by simp[S.af]) fun i h1 h2=>?_
  simp[S.af,List.getElem?_eq_getElem h2]
 refine List.ext_getElem? fun i=>?_
 rw[S.af,S.aF,List.getElem?_map,List.getElem?_eraseIdx,List.getElem?_eraseIdx]
 have h:∀j:Nat,((List.range l.length)[j]?).map (fun p:Nat=>l[p]?.getD 0)=l[j]?:=fun j=>by
  by_cases hj:j<l.length
  ·rw[List.getElem?_range hj,Option.map_some,List.getElem?_eq_getElem hj];rfl
  ·have h1:(List.range l.length)[j]?=none:=List.getElem?_eq_none (by simp;omega)
   have h2:l[j]?=none:=List.getElem?_eq_none (by omega)
   rw[h1,h2];rfl
 split
 ·exact h _
 ·exact h _
theorem Ce {d q ep m:Nat}{lo fz:Bool}{rows:List (List AV)}{g:G}{v:AV}{f:Factor}{st:List Int}{ps:List Nat}{K:AV->G->Prop}{D:ADf->Prop}(hd:0<d)(hf:FcOk f)(hps:PsOk f ps)(hm:Agg ((f,st):TbM) NoP 0 g.h v)(htot:S.sm (fun i=>f.w[i]?.getD 0) f.w.length<=171992678400000000)
  (hq:g.h.get q=.cells 1 rows ep lo fz) (hmr:m<=rows.length) (hl:rows.take m=(S.af f.vars ps).map ci)
  (kk:∀a b c g',Rp.rp NoP 0 .nil (⟨S.af f.vars ps,S.af f.cards ps,S.gl f ps f.w.length⟩:Factor) [a,b,c]->(∀i,i≠q->g'.h.get i=g.h.get i)->g'.nx=g.nx->K (.tup [.agg [a,b,c],.int .i64 0]) g'):(an C0 d N.ae [v,.hsl q ep 0 m none,opA] g).sat K g D:=by
 obtain ⟨r,e,x,y,rfl,⟨cs,rfl,hc⟩,hy⟩:=Ci hd hf hps hm htot hq hmr hl
 rw[e,show y=.int .i64 0 by have:=ay.1 hy;injection this]
 obtain ⟨a,b,c,rfl,-,-,-⟩:=aX.1 hc
 exact kk a b c _ hc (fun i hi=>nZ [q] g i (by simpa using hi)) (qK [q] g)
theorem Hl {d k:Nat}{g:G}{v:AV}{f:Factor}{y:Int}(hd:0<d)(hm:Agg f NoP 0 g.h v)(hf:FcOk f)(hps:PsOk f (S.aF f.vars.length k))(hy:f.vars[k]?=some y)(htot:S.sm (fun i=>f.w[i]?.getD 0) f.w.length<=171992678400000000) :
  ∃r,an C0 d N.aZ [v,.int .i64 y,opA] g=.val r/\nJ (Agg (⟨f.vars.eraseIdx k,S.af f.cards (S.aF f.vars.length k),S.gl f (S.aF f.vars.length k) f.w.length⟩:Factor)) (One (0:Int)) NoP 0 .nil r:=by
 have e0:=cq d hm
 obtain ⟨cs,rfl,hcs⟩:=hm
 obtain ⟨a,b,c,rfl,ha,hb,hc⟩:=aX.1 hcs
 have hkl:=(List.getElem?_eq_some_iff.1 hy).1
 have hvl:=hf.vl
 have hl8:=hf.c.l8
 have l3:aI (.cells 3 [[a,b,c]] 0 false false) 0 0 true 3 0=.val (.agg [a,b,c]):=rfl
 rw[sR]
 refine ba vd (xs:=[.agg [a,b,c],.int .i64 y,opA]) (by simp only[aB,e0,cZ 0];rfl) (by simp[jY]) (bN (m:=2) (dy _) (aO _) (by decide) (by decide)) (by decide) hd ?_
 simp only[sz,simprocAttr,jY,opA,mM]
 obtain ⟨g0,hg0⟩:∃g0,g0=((G.empty.new (.cells 3 [[a,b,c]] 0 false false)).new (.cells 1 [[.clo 90 [] []]] 0 false false)).new (.cells 3 [[.nils,.nils,.nils]] 0 false false):=⟨_,rfl⟩
 rw[<-hg0]
 have f0:g0.h.get 0=.cells 3 [[a,b,c]] 0 false false:=by rw[hg0];simp[sx,H.get_put]
 have f1:g0.h.get 1=.cells 1 [[.clo 90 [] []]] 0 false false:=by rw[hg0];simp[sx,H.get_put]
 have f2:g0.h.get 2=.cells 3 [[.nils,.nils,.nils]] 0 false false:=by rw[hg0];simp[sx]
 have f3:g0.nx=3:=by rw[hg0];simp[sx]
 clear hg0
 simp only[m9]
 refine bk (P:=fun t' df g'=>df=[]/\∃st a' b' c' s,Rp.rp NoP 0 .nil ((f,st):TbM) [a',b',c',s]/\g'.nx=4/\g'.h.get 1=.cells 1 [[.clo 90 [] []]] 0 false false/\g'.h.get 2=.cells 3 [[.nils,.nils,.nils]] 0 false false/\g'.h.get 3=.cells 4 [[a',b',c',s]] 0 false false/\St t' [(1,.int .i64 y),(5,.hptr 1 0 0 0),(6,.hptr 2 0 0 0),(8,.hptr 3 0 0 0),(9,.int .i64 0)]) ?_ ?_
 ·simp only[sz,simprocAttr,f0,l3]
  refine cI (wI (f:=f) (Nat.succ_pos d) ⟨_,rfl,Rp.tree hcs (Nat.le_refl 0)⟩ hf) fun r hr=>?_
  obtain ⟨st,a',b',c',s,rfl,hx⟩:=tZ hr
  simp only[sz,simprocAttr]
  exact ⟨st,a',b',c',s,hx,by simp[f3],by simp[H.get_put,f3,f1],by simp[H.get_put,f3,f2],by simp[H.get_put,f3],by simp[St,sx,f3]⟩
 rintro t df g1 ⟨rfl,st,a',b',c',s,hx,n1,k1,k2,k3,h1,h5,h6,h8,h9,-⟩
 obtain ⟨q1,q2,q3,q4,eq,hq1,-,-,-⟩:=pX.1 hx
 injection eq with eq1 eq
 subst eq1
 have l4:aI (.cells 4 [[a',b',c',s]] 0 false false) 0 0 true 4 0=.val (.agg [a',b',c',s]):=rfl
 have l5:aI (.cells 4 [[a',b',c',s]] 0 false false) 0 0 false 1 0=.val a':=rfl
 have l6:aI (.cells 1 [[.clo 90 [] []]] 0 false false) 0 0 true 1 0=.val opA:=rfl
 have kP:∀g':G,an C0 (d+1) N.af [.agg [a',b',c',s],.int .i64 y] g'=.val (.int .i64 (k:Int)):=fun g'=>wP (kk:=0) (x:=((f,st):TbM)) (Nat.succ_pos d) ⟨_,rfl,Rp.tree hx (Nat.le_refl 0)⟩ (by omega) hy (zC hf hy)
 refine cV (P:=fun t' df g'=>df=[]/\g'=g1/\St t' [(1,.int .i64 y),(5,.hptr 1 0 0 0),(6,.hptr 2 0 0 0),(8,.hptr 3 0 0 0)]) ?_ ?_
 ·simp only[sz,simprocAttr,h9]
  simp[St,sx,h1,h5,h6,h8]
 clear h1 h5 h6 h8 h9
 rintro t df g2 ⟨rfl,hg,h1,h5,h6,h8,-⟩
 rw[hg];clear hg
 refine bk (P:=fun t' df g'=>df=[]/\g'=g1/\St t' [(5,.hptr 1 0 0 0),(6,.hptr 2 0 0 0),(8,.hptr 3 0 0 0),(10,.int .i64 (k:Int))]) ?_ ?_
 ·simp only[sz,simprocAttr,h1,h8,k3,l4,kP]
  simp[St,sx,h5,h6,h8]
 clear h1 h5 h6 h8
 rintro t df g2 ⟨rfl,hg,h5,h6,h8,h10,-⟩
 rw[hg];clear hg
 have c1:¬(k:Int)<0:=by omega
 refine cV (P:=fun t' df g'=>df=[]/\g'=g1/\St t' [(5,.hptr 1 0 0 0),(6,.hptr 2 0 0 0),(8,.hptr 3 0 0 0),(10,.int .i64 (k:Int))]) ?_ ?_
 ·simp only[sz,simprocAttr,h10,c1]
  simp[St,sx,h5,h6,h8,h10]
 clear h5 h6 h8 h10
 rintro t df g2 ⟨rfl,hg,h5,h6,h8,h10,-⟩
 rw[hg];clear hg
 have w1:IntKind.wrap .i64 ((k:Int)+1)=((k+1:Nat):Int):=by rw[aC (by omega) (by omega)];rfl
 simp only[sz,simprocAttr,sf,h8,k3,l4,l5]
 refine F8 (k:=0) (l:=f.vars) hq1 (by omega) (by omega) fun id ep lo g3 hid i1 i2 f3 lg3=>?_
 simp only[bumpG_nx,setLog_nx,setLog_lg,List.not_mem_nil,false_or] at i1 f3 lg3
 simp only[sz,simprocAttr,sf,h10,w1]
 refine HD (l:=f.vars) (i:=k) hkl (by omega) (by simpa using hid) (by simp;omega) fun g4 rows r1 r2 r3 n4 f4 lg4 _=>?_
 simp only[bumpG_nx,setLog_nx] at n4
 simp only[bumpG_nx,setLog_nx,setLog_lg,List.not_mem_nil,false_or] at lg4
 have q1:g4.h.get 1=.cells 1 [[.clo 90 [] []]] 0 false false:=by rw[f4 1 (by simp) (by omega)];simp[f3 1 (by omega),k1]
 have q2:g4.h.get 2=.cells 3 [[.nils,.nils,.nils]] 0 false false:=by rw[f4 2 (by simp) (by omega)];simp[f3 2 (by omega),k2]
 simp only[sz,simprocAttr,sf,h5,q1,l6]
 refine Ce (f:=f) (st:=st) (ps:=S.aF f.vars.length k) (rows:=rows) (Nat.succ_pos d) hf hps ⟨_,rfl,Rp.tree hx (Nat.le_refl 0)⟩ htot (by simpa using r1) (by omega) (by rw[CJ];exact r3) fun y1 y2 y3 g5 hy' f5 n5=>?_
 simp only[bumpG_nx,setLog_nx] at n5
 have q2':g5.h.get 2=.cells 3 [[.nils,.nils,.nils]] 0 false false:=by rw[f5 2 (by omega)];simpa using q2
 simp only[sz,simprocAttr,sf,h6,q2',gJ,fV,lV]
 refine ⟨?_,?_⟩
 ·simp only[List.reverse_cons,List.reverse_nil,List.nil_append,List.cons_append]
  refine aL [false,false,false,false,true,false,false,false,true,false,true,false,false,true,false] [(0,4),(4,5),(4,6),(4,7),(0,8),(4,9),(8,9)] (by simp[All2,ae,aA,cW]) (by decide) ?_
  rintro p hp' x y hx hy
  simp only[List.mem_cons,List.not_mem_nil,or_false] at hp'
  have b3:∀i∈g3.lg,4<=i:=fun i hi=>by have:=lg3 i hi;omega
  have b4:∀i∈g4.lg,4<=i:=fun i hi=>by
   rcases lg4 i hi with h | h
   ·omega
   ·omega
  rcases hp' with rfl | rfl | rfl | rfl | rfl | rfl | rfl<;>simp at hx hy<;>subst hx<;>subst hy
  ·refine uK rfl rfl rfl fun i hi j hj=>?_
   have:=b3 i hi
   simp[ae,ak] at hj
   omega
  ·exact ie rfl rfl rfl fun i hi j hj=>by simp[aA] at hj
  ·exact ie rfl rfl rfl fun i hi j hj=>by simp[aA] at hj
  ·exact ie rfl rfl rfl fun i hi j hj=>by simp[aA] at hj
  ·refine uK rfl rfl rfl fun i hi j hj=>?_
   have:=b4 i hi
   simp[ae,ak] at hj
   omega
  ·refine ie rfl rfl rfl fun i hi j hj=>?_
   have:=b3 i hi
   simp[ae,ak] at hj
   omega
  ·refine ie rfl rfl rfl fun i hi j hj=>?_
   have:=b4 i hi
   simp[ae,ak] at hj
   omega
 ·rw[CJ] at hy'
  exact ⟨NoP,_,_,rfl,⟨_,rfl,Rp.tree hy' (Nat.le_refl 0)⟩,ay.2 rfl⟩
theorem Gy {d k:Nat}{g:G}{v:AV}{f:Factor}{y:Int}(hd:0<d)(hm:Agg f NoP 0 g.h v)(hf:FcOk f)(hps:PsOk f (S.aF f.vars.length k))(hy:f.vars[k]?=some y)(htot:S.sm (fun i=>f.w[i]?.getD 0) f.w.length<=171992678400000000) :
  ∃r,an C0 d N.ba [v,.int .i64 y] g=.val r/\nJ (Agg (⟨f.vars.eraseIdx k,S.af f.cards (S.aF f.vars.length k),S.gl f (S.aF f.vars.length k) f.w.length⟩:Factor)) (One (0:Int)) NoP 0 .nil r:=by
 have e0:=cq d hm
 obtain ⟨cs,rfl,hcs⟩:=hm
 obtain ⟨a,b,c,rfl,ha,hb,hc⟩:=aX.1 hcs
 have l3:aI (.cells 3 [[a,b,c]] 0 false false) 0 0 true 3 0=.val (.agg [a,b,c]):=rfl
 have hbd:dv [.nilf] [((0,1),.clo 90 [] [])]=some [.clo 90 [] []]:=rfl
 rw[rC]
 refine ba tG (xs:=[.agg [a,b,c],.int .i64 y]) (by simp only[aB,e0,cZ 0]) (by simp[jx]) (bN (m:=2) (dy _) (aO _) (by decide) (by decide)) (by decide) hd ?_
 simp only[sz,simprocAttr,jx,lL,l3,hbd]
 refine cI (Hl (f:=f) (k:=k) (Nat.succ_pos d) ⟨_,rfl,Rp.tree hcs (Nat.le_refl 0)⟩ hf hps hy htot) fun r hr=>?_
 obtain ⟨z1,z2,rfl,⟨cs2,rfl,hc2⟩,hz2⟩:=hr
 rw[show z2=.int .i64 0 by have:=ay.1 hz2;injection this]
 obtain ⟨q1,q2,q3,rfl,-,-,-⟩:=aX.1 hc2
 simp only[sz,simprocAttr]
 exact ⟨NoP,_,_,rfl,⟨_,rfl,Rp.tree hc2 (Nat.le_refl 0)⟩,ay.2 rfl⟩
end
end Hx
end
