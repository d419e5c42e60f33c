/- A part of the proof: an interpreter over abstract values, shown right against the model, and what the functions of the chapter compute on it. -/
import Derived.Test.YtjddchnjpobmkaaHx12
set_option linter.unusedVariables false
set_option linter.unusedSimpArgs false
set_option linter.unnecessarySimpa false
section
namespace Hx
open Go
noncomputable section
def S.a7 (s j:Nat):List Int:=((List.range j).filter fun v=>s.testBit v).map fun v:Nat=>(v:Int)
theorem uY (s j:Nat):S.a7 s (j+1)=S.a7 s j++if s.testBit j then [(j:Int)] else []:=by
 rw[S.a7,List.range_succ,List.filter_append,List.map_append]
 congr 1
 cases hb:s.testBit j<;>simp[List.filter,hb]
theorem FK {s j:Nat}:∀y∈S.a7 s j,0<=y/\y<j:=fun y hy=>by
 obtain ⟨v,hv,rfl⟩:=List.mem_map.1 hy
 have:=List.mem_range.1 (List.mem_filter.1 hv).1
 omega
def S.aq (n:Net)(vals:List Int)(s j:Nat):Int:=S.af (S.ac (S.aa n) (S.a7 s j)) (S.ac vals (S.a7 s j))
theorem rM {n:Net}{vals:List Int}{s j:Nat}:S.aq n vals s (j+1)=if s.testBit j then S.aq n vals s j*((S.aa n)[j]?.getD 0)+vals[j]?.getD 0 else S.aq n vals s j:=by
 rw[S.aq,uY,ch,ch,pA _ _ (by simp[jS])]
 cases s.testBit j with
 | true=>simp[S.ac,S.af,S.ae,S.aq]
 | false=>simp[S.ac,S.af,S.ae,S.aq]
theorem wo (s:Nat):∀j,(S.a7 s j).length<=j
 | 0=>by simp[S.a7]
 | j+1=>by
  have:=wo s j
  rw[uY,List.length_append]
  split<;>simp<;>omega
theorem uJ {n:Net}(h:NR n){vals:List Int}(hv:InC (S.aa n) vals){s j:Nat}(hj:j<=n.nodes.length):0<=S.aq n vals s j/\S.aq n vals s j<65536:=by
 have hin:∀p∈S.a7 s j,0<=p/\p<(S.aa n).length:=fun p hp=>by have:=FK p hp;rw[aI];omega
 have h1:=di (a8 h.cs hin) (fg hv hin)
 have h2:=bu (l:=S.ac (S.aa n) (S.a7 s j)) (a8 h.cs hin)
 have h3:=cV (a:=(S.ac (S.aa n) (S.a7 s j)).length) (b:=8) (by rw[jS];have:=wo s j;have:=h.l2;omega)
 have h4:(4:Int) ^ 8=65536:=by decide
 unfold S.aq
 omega
theorem II {s v:Nat}:decide (((s / 2 ^ v &&& 1:Nat):Int)=1)=s.testBit v:=by
 rw[Nat.and_one_is_mod,Nat.testBit_eq_decide_div_mod_eq]
 rw[Bool.eq_iff_iff,decide_eq_true_iff,decide_eq_true_iff]
 omega
theorem wX {d kk s:Nat}{P:Nat->Prop}{g:G}{v w:AV}{n:Net}{y:QnM}{vals:List Int}(hd:0<d)(hr:NR n)(hm:Agg y NoP 0 g.h v)(hq:QnOk n y)(hv:SlR P kk g.h vals w)(hc:InC (S.aa n) vals)(hs:s<18446744073709551616) :
  au C0 d N.af [v,w,.int .u64 (s:Int)] g=.val (.int .i64 (S.aq n vals s n.nodes.length)):=by
 have e0:=gK d hm
 obtain ⟨cs,rfl,hcs⟩:=hm
 obtain ⟨b,fl,S_,rfl,hN,hfl,hS⟩:=rh.1 hcs
 have hN:SlR NoP 0 .nil y.1.nodes b:=hN.tree (Nat.le_refl 0)
 rw[hq.net] at hN
 obtain ⟨w',e2,hw'⟩:=dN hv d
 have hgr:y.1.grain=n.grain:=by rw[hq.net]
 obtain ⟨rows,r1,r2,r3,r4⟩:=hN.all
 have r1:∀h',ae h' 3 b=some rows:=r1
 have rv:=fun h=>(hw' h).ints
 have lv:∀g:G,eO .slice w' g=.val (.int .i64 (vals.length:Int)):=fun g=>by rw[bJ (rv g.h),List.length_map]
 have hvl:=hc.len
 rw[aI] at hvl
 have hl8:=hr.l2
 rw[jQ]
 refine kH l8 (xs:=[.agg [.int .i64 y.1.grain,b,fl,S_],w',.int .u64 (s:Int)]) (by simp only[aE,e0,e2,co]) (by simp[cS]) hd ?_
 rw[hgr]
 simp only[sz,simprocAttr,cS,eJ,lv]
 simp only[dV,dQ]
 refine bk (m:=n.nodes.length) (by omega) (fun k t df g=>df=[]/\St t [(2,.int .u64 (s:Int)),(3,.hptr 0 0 0 0),(10,w'),(7,.int .i64 (S.aq n vals s k))]/\g.h.get 0=.cells 4 [[.int .i64 n.grain,b,fl,S_]] 0 false false) ⟨rfl,by simp[St,sx,S.aq,S.a7,S.ac,S.af],by simp[sx]⟩ (by simp[sx]) (by simp[sx,hvl]) (by decide)
  (by rintro j t df g v s' (rfl | rfl | rfl) ⟨a1,⟨b1,b2,b3,b4,-⟩,c1⟩<;>exact ⟨a1,by simp[St,sx,b1,b2,b3,b4],c1⟩) ?_ ?_
 ·rintro k t df g hk ⟨rfl,⟨h2,h3,h10,h7,-⟩,g0⟩ h12 h11
  obtain ⟨x,hx,-,-⟩:=am hk
  obtain ⟨row,q1,q2⟩:=r3 k x hx
  obtain ⟨fa,fb,rfl,-⟩:=bI.1 q2
  have hlt:k<rows.length:=by omega
  have hry:=r4 (by omega)
  have u1:k<(vals.map ci).length:=by simp;omega
  have u2:(vals.map ci)[k]?=some (ci (vals[k]?.getD 0)):=by rw[List.getElem?_map,List.getElem?_eq_getElem (by omega)];rfl
  have h2n:s / 2 ^ k<18446744073709551616:=Nat.lt_of_le_of_lt (Nat.div_le_self _ _) hs
  have ha:cj .and (.int .u64 ((s / 2 ^ k:Nat):Int)) (.int .u64 1)=.val (.int .u64 ((s / 2 ^ k &&& 1:Nat):Int)):=eG (s / 2 ^ k) 1 h2n (by decide)
  have hn:=rM (n:=n) (vals:=vals) (s:=s) (j:=k)
  have hcx:(S.aa n)[k]?.getD 0=x.card:=by simp[S.aa,hx]
  rw[hcx] at hn
  have hb0:=uJ hr hc (s:=s) (j:=k) (by omega)
  have hb1:=uJ hr hc (s:=s) (j:=k+1) (by omega)
  have hcard:=hr.card x (List.mem_of_getElem? hx)
  simp only[sz,simprocAttr,h2,h10,h12,rv,u1,u2,ci,mZ _ _ _ hs,ha,II]
  cases hbt:s.testBit k with
  | true =>
   rw[hbt,if_pos rfl] at hn
   have hp:0<=S.aq n vals s k*x.card/\S.aq n vals s k*x.card<=65536*4:=⟨Int.mul_nonneg hb0.1 (by omega),Int.mul_le_mul (by omega) hcard.2 (by omega) (by omega)⟩
   have w1:IntKind.wrap .i64 (S.aq n vals s k*x.card)=S.aq n vals s k*x.card:=aA (by omega) (by omega)
   have w2:IntKind.wrap .i64 (S.aq n vals s k*x.card+vals[k]?.getD 0)=S.aq n vals s (k+1):=by rw[<-hn,aA (by omega) (by omega)]
   simp only[sz,simprocAttr,h3,h7,g0,r1,hlt,q1,hry,w1,w2]
   exact ⟨by simp[St,sx,h2,h3,h10],h12,h11⟩
  | false =>
   rw[hbt,if_neg (by simp)] at hn
   simp only[sx,sy,↓reduceIte,Nat.reduceEqDiff]
   exact ⟨⟨by simp[St,sx,h2,h3,h10,h7,hn],g0⟩,h12,h11⟩
 ·rintro t df g ⟨rfl,⟨h2,h3,h10,h7,-⟩,g0⟩
  simp only[sz,simprocAttr,dZ,h7]
theorem zg {n:Net}(h:NR n){a b:List Int}(ha:InC (S.aa n) a)(hb:InC (S.aa n) b)(s:Nat):∀j,j<=n.nodes.length->(S.aq n a s j=S.aq n b s j↔∀v,v<j->s.testBit v=true->a[v]?.getD 0=b[v]?.getD 0)
 | 0,_=>by simp[S.aq,S.a7,S.ac,S.af]
 | j+1,hj=>by
  have ih:=zg h ha hb s j (by omega)
  rw[rM,rM]
  cases hs:s.testBit j with
  | false =>
   simp only[Bool.false_eq_true,if_false]
   rw[ih]
   constructor
   ·intro hh v hv hb'
    by_cases e:v=j
    ·subst e;rw[hs] at hb';cases hb'
    ·exact hh v (by omega) hb'
   ·exact fun hh v hv hb'=>hh v (by omega) hb'
  | true =>
   simp only[if_true]
   have hcl:j<(S.aa n).length:=by rw[aI];omega
   obtain ⟨c,hc⟩:∃c,(S.aa n)[j]?=some c:=⟨_,List.getElem?_eq_getElem hcl⟩
   obtain ⟨x,hx,hx1,hx2⟩:=ha.get hc
   obtain ⟨y,hy,hy1,hy2⟩:=hb.get hc
   rw[hc,hx,hy]
   simp only[Option.getD_some]
   have key:S.aq n a s j*c+x=S.aq n b s j*c+y↔S.aq n a s j=S.aq n b s j/\x=y:=by
    constructor
    ·intro e
     have e1:(S.aq n a s j*c+x) / c=S.aq n a s j:=by rw[Int.add_comm,Int.add_mul_ediv_right _ _ (by omega),Int.ediv_eq_zero_of_lt hx1 hx2,Int.zero_add]
     have e2:(S.aq n b s j*c+y) / c=S.aq n b s j:=by rw[Int.add_comm,Int.add_mul_ediv_right _ _ (by omega),Int.ediv_eq_zero_of_lt hy1 hy2,Int.zero_add]
     have e3:S.aq n a s j=S.aq n b s j:=by rw[<-e1,e,e2]
     rw[e3] at e
     exact ⟨e3,by omega⟩
    ·rintro ⟨e1,e2⟩;rw[e1,e2]
   rw[key,ih]
   constructor
   ·rintro ⟨h1,h2⟩ v hv hb'
    by_cases e:v=j
    ·subst e;rw[hx,hy];exact h2
    ·exact h1 v (by omega) hb'
   ·intro hh
    refine ⟨fun v hv hb'=>hh v (by omega) hb',?_⟩
    have:=hh j (by omega) hs
    rwa [hx,hy] at this
def S.aL (n:Net)(s:Nat)(w:Nat):Int:=S.aq n (S.ah (S.aa n) (w:Int)) s n.nodes.length
def S.aV (n:Net)(s:Nat)(K:Int)(j:Nat):Int:=S.a9 n (fun u=>decide (S.aL n s u=K)) j
def S.bD (n:Net)(s w:Nat):Int:=S.aV n s (S.aL n s w) (S.am n)
def S.bF (a b:List Int)(s:Nat)(j:Nat):Bool:=(List.range j).all fun v=>!s.testBit v || decide (a[v]?.getD 0=b[v]?.getD 0)
theorem Gn {n:Net}(h:NR n)(s u w:Nat):S.bF (S.ah (S.aa n) (u:Int)) (S.ah (S.aa n) (w:Int)) s n.nodes.length=decide (S.aL n s u=S.aL n s w):=by
 have hin:=fun w:Nat=>j7 (fun c hc=>(h.cs c hc).1) (w:Int)
 rw[Bool.eq_iff_iff,decide_eq_true_eq,S.aL,S.aL,zg h (hin u) (hin w) s _ (Nat.le_refl _),S.bF,List.all_eq_true]
 constructor
 ·intro hh v hv hb
  have:=hh v (List.mem_range.2 hv)
  rw[hb] at this
  simpa using this
 ·intro hh v hv
  have hv:=List.mem_range.1 hv
  cases hb:s.testBit v with
  | false=>rfl
  | true=>simpa using hh v hv hb
theorem yu {n:Net}(h:NR n)(s w:Nat):0<=S.bD n s w/\S.bD n s w<=171992678400000000:=yc h h.wl.2.1
def S.aA (x:Nat):Nat:=x % 18446744073709551616
def S.aE (x y:Nat):Nat×Nat :=
 let x0:=x % 4294967296
 let x1:=x / 4294967296
 let y0:=y % 4294967296
 let y1:=y / 4294967296
 let w0:=S.aA (x0*y0)
 let t:=S.aA (S.aA (x1*y0)+w0 / 4294967296)
 let w1:=S.aA (t % 4294967296+S.aA (x0*y1))
 let w2:=t / 4294967296
 (S.aA (S.aA (S.aA (x1*y1)+w2)+w1 / 4294967296),S.aA (x*y))
theorem uH (x:Nat):S.aA x<18446744073709551616:=Nat.mod_lt _ (by decide)
theorem uA (a b:Nat):cj .mul (.int .u64 (a:Int)) (.int .u64 (b:Int))=.val (.int .u64 (S.aA (a*b):Int)):=by
 rw[xK]
 congr 2
theorem xA (a b:Nat):cj .add (.int .u64 (a:Int)) (.int .u64 (b:Int))=.val (.int .u64 (S.aA (a+b):Int)):=by
 rw[xk]
 congr 2
theorem uV (m:Nat)(h:m<18446744073709551616):cj .and (.int .u64 (m:Int)) (.int .u64 4294967295)=.val (.int .u64 ((m % 4294967296:Nat):Int)):=by
 have:=eG m 4294967295 h (by decide)
 have e:m &&& 4294967295=m % 4294967296:=Nat.and_two_pow_sub_one_eq_mod m 32
 rw[e] at this
 exact this
theorem u7 (m:Nat)(h:m<18446744073709551616):cj .shr (.int .u64 (m:Int)) (.int .u64 32)=.val (.int .u64 ((m / 4294967296:Nat):Int)):=mZ .u64 m 32 h
theorem pD {d:Nat}{g:G}{x y:Nat}(hd:0<d)(hx:x<18446744073709551616)(hy:y<18446744073709551616) :
  au C0 d N.aa [.int .u64 (x:Int),.int .u64 (y:Int)] g=.val (.tup [.int .u64 ((S.aE x y).1:Int),.int .u64 ((S.aE x y).2:Int)]):=by
 have key:∃r,au C0 d N.aa [.int .u64 (x:Int),.int .u64 (y:Int)] g=.val r/\xi (One (S.aE x y).1) (One (S.aE x y).2) NoP 0 .nil r:=by
  rw[pH]
  refine bz qB (xs:=[.int .u64 (x:Int),.int .u64 (y:Int)]) rfl (by simp[il]) (jH (m:=1) (bo _) (bo _) (by decide) (by decide)) (by decide) hd ?_
  have nx:=uV x hx
  have ny:=uV y hy
  have sx':=u7 x hx
  have sy':=u7 y hy
  have m5:=uA x y
  unfold S.aE
  simp only
  generalize x % 4294967296=x0 at *
  generalize x / 4294967296=x1 at *
  generalize y % 4294967296=y0 at *
  generalize y / 4294967296=y1 at *
  have m1:=uA x0 y0
  have m2:=uA x1 y0
  have m3:=uA x0 y1
  have m4:=uA x1 y1
  have s1:=u7 (S.aA (x0*y0)) (uH _)
  have a1:=xA (S.aA (x1*y0)) (S.aA (x0*y0) / 4294967296)
  generalize S.aA (x0*y0) / 4294967296=w0 at *
  have ht:=uH (S.aA (x1*y0)+w0)
  generalize S.aA (S.aA (x1*y0)+w0)=tt at *
  have n1:=uV tt ht
  have s2:=u7 tt ht
  have a2:=xA (tt % 4294967296) (S.aA (x0*y1))
  have a3:=xA (S.aA (x1*y1)) (tt / 4294967296)
  have hw:=uH (tt % 4294967296+S.aA (x0*y1))
  generalize S.aA (tt % 4294967296+S.aA (x0*y1))=w1 at *
  have s3:=u7 w1 hw
  have a4:=xA (S.aA (S.aA (x1*y1)+tt / 4294967296)) (w1 / 4294967296)
  simp only[il,sx,SO.run,↓reduceIte,Nat.reduceEqDiff,nx,ny,sx',sy',m1,m2,m3,m4,m5,s1,s2,s3,n1,a1,a2,a3,a4,mV]
  exact ⟨NoP,_,_,rfl,oD.2 ⟨rfl,uH _⟩,oD.2 ⟨rfl,uH _⟩⟩
 obtain ⟨r,hr,a,c,rfl,ha,hc⟩:=key
 have ha:=oD.1 ha
 have hc:=oD.1 hc
 rw[hr]
 rw[List.cons.inj ha.1 |>.1,List.cons.inj hc.1 |>.1]
theorem F9 (s v:Nat):S.bh s v=s.testBit v:=by
 rw[S.bh,Nat.and_one_is_mod,Nat.testBit_eq_decide_div_mod_eq,Bool.eq_iff_iff]
 simp
def S.bE (a b:List Int)(s v:Nat):Bool:=!s.testBit v || decide (a[v]?.getD 0=b[v]?.getD 0)
theorem FX {d s:Nat}{g:G}{v w:AV}{a b:List Int}(hd:0<d)(hv:SlR NoP 0 .nil a v)(hw:SlR NoP 0 .nil b w)(hl:b.length=a.length)(hs:s<18446744073709551616) :
  au C0 d N.aH [v,w,.int .u64 (s:Int)] g=.val (.bool (S.bF a b s a.length)):=by
 have e1:=tz (h:=g.h) d (hv.tree (Nat.le_refl 0))
 have e2:=tz (h:=g.h) d (hw.tree (Nat.le_refl 0))
 have ra:∀h,ae h 1 v=some (a.map ci):=fun h=>(hv.tree (h':=h) (Nat.le_refl 0):SlR NoP 0 h a v).ints
 have rb:∀h,ae h 1 w=some (b.map ci):=fun h=>(hw.tree (h':=h) (Nat.le_refl 0):SlR NoP 0 h b w).ints
 have la:=hv.len
 have hal:=hv.1
 rw[so]
 refine d8 tZ (xs:=[v,w,.int .u64 (s:Int)]) (by simp only[aE,e1,e2,co 0]) (by simp[lO]) hd ?_
 simp only[sz,simprocAttr,lO]
 refine bi a.length hal (fun j t df g=>df=[]/\St t [(0,v),(1,w),(2,.int .u64 (s:Int))]/\(List.range j).all (S.bE a b s)=true) ⟨rfl,by simp[St,sx],rfl⟩ (by simp[sx]) (by decide) (by rintro j t df g v s (rfl | rfl | rfl)<;>simp[St,sx]) ?_ ?_ ?_
 ·rintro j t df g hj ⟨rfl,⟨h0,h1,h2,-⟩,hA⟩ h7
  simp only[sz,simprocAttr,h0,h1,h2,h7,la,St,hA]
 ·rintro j t df g hj ⟨rfl,⟨h0,h1,h2,-⟩,hA⟩ h7
  obtain ⟨x,hx,-,-⟩:=am hj
  obtain ⟨y,hy,-,-⟩:=am (l:=b) (j:=j) (by omega)
  have q1:j<(a.map ci).length:=by simpa using hj
  have q2:j<(b.map ci).length:=by rw[List.length_map];omega
  have q3:(a.map ci)[j]?=some (ci x):=by rw[List.getElem?_map,hx];rfl
  have q4:(b.map ci)[j]?=some (ci y):=by rw[List.getElem?_map,hy];rfl
  have ki:∀g,au C0 (d+1) N.ah [.int .u64 (s:Int),.int .i64 (j:Int)] g=.val (.bool (s.testBit j)):=fun g=>by rw[D1 (Nat.succ_pos d) hs (by omega),F9]
  have hat:S.bE a b s j=(!s.testBit j || decide (x=y)):=by simp[S.bE,hx,hy]
  simp only[sz,simprocAttr,h0,h1,h2,h7,ki]
  cases hb:s.testBit j with
  | false =>
   simp only[sz,simprocAttr,h0,h1,h2,h7,St]
   rw[cI,hA,hat,hb];simp
  | true =>
   by_cases hxy:x=y
   ·simp only[sz,simprocAttr,h0,h1,h2,h7,ra,rb,q1,q2,q3,q4,ci,hxy,St]
    rw[cI,hA,hat];simp[hxy]
   ·simp only[sz,simprocAttr,h0,h1,h2,h7,ra,rb,q1,q2,q3,q4,ci,hxy]
    have:S.bE a b s j=false:=by rw[hat,hb];simp[hxy]
    rw[S.bF]
    exact congrArg AV.bool (fc hj this).symm
 ·rintro t df g ⟨rfl,⟨h0,h1,h2,-⟩,hA⟩
  simp only[sz,simprocAttr,mg]
  exact congrArg AV.bool hA.symm
def S.ak (xs ys zs:Nat):List Nat:=[xs ||| ys ||| zs,zs,xs ||| zs,ys ||| zs]
def S.ax (n:Net)(xs ys zs k w:Nat):Nat:=(S.bD n ((S.ak xs ys zs)[k]?.getD 0) w).toNat
def S.aR (n:Net)(xs ys zs w:Nat):Bool:=!decide (S.aE (S.ax n xs ys zs 0 w) (S.ax n xs ys zs 1 w)=S.aE (S.ax n xs ys zs 2 w) (S.ax n xs ys zs 3 w))
def S.bc (n:Net)(xs ys zs:Nat):Bool:=(List.range (S.am n)).any (S.aR n xs ys zs)
theorem xy {xs ys zs:Nat}(hx:xs<18446744073709551616)(hy:ys<18446744073709551616)(hz:zs<18446744073709551616):∀s∈S.ak xs ys zs,s<18446744073709551616:=by
 have o:=fun {a b:Nat} (ha:a<2 ^ 64) (hb:b<2 ^ 64)=>Nat.or_lt_two_pow ha hb
 intro s hs
 simp only[S.ak,List.mem_cons,List.not_mem_nil,or_false] at hs
 rcases hs with rfl | rfl | rfl | rfl
 ·exact o (o hx hy) hz
 ·exact hz
 ·exact o hx hz
 ·exact o hy hz
theorem Am {n:Net}{ls:List (List Int)}{P:Nat->Prop}{k:Nat}{h:H}{v:AV}(hv:GP n ls P k h v) :
  ∃y cs,v=.tup [.agg cs,.int .i64 (S.aW n ls)]/\(S.aW n ls=0->QnOk n y)/\Rp.rp P k h y cs/\∃a1 a2 a3 a4,cs=[a1,a2,a3,a4]:=by
 obtain ⟨y,hy,a,c,rfl,⟨cs,rfl,hc⟩,hi⟩:=hv
 have hi:=a_.1 hi
 injection hi with hi
 subst hi
 obtain ⟨a2,a3,a4,rfl,-⟩:=rh.1 hc
 exact ⟨y,_,rfl,hy,hc,_,_,_,_,rfl⟩
structure GvJ (g0:G) (q:Nat) (s:Int) (h:H):Prop where
 fr:∀i,i<g0.nx->i≠q->h.get i=g0.h.get i
 hq:h.get q=.cells 1 [[.int .i64 s]] 0 false false
def S.wt (n:Net)(w:Nat):Int:=S.aG n (S.ah (S.aa n) (w:Int))
structure BeJ (g0:G) (w m b:Int) (h:H):Prop where
 fr:∀i,i<g0.nx->i≠1->i≠5->i≠6->h.get i=g0.h.get i
 h1:h.get 1=.cells 1 [[.int .i64 w]] 0 false false
 h5:h.get 5=.cells 1 [[.int .i64 m]] 0 false false
 h6:h.get 6=.cells 1 [[.int .i64 b]] 0 false false
def S.bz (n:Net)(xs ys zs i w:Nat):Int:=S.aL n ((S.ak xs ys zs)[i]?.getD 0) w
structure DpM (n:Net) (xs ys zs mb j k:Nat) (h:H):Prop where
 hm:∀i,i<4->∃L:List (Int×Int),h.get (mb+i)=.map (mcl ik L)/\∀K,mgt L K=S.aV n ((S.ak xs ys zs)[i]?.getD 0) K j+if i<k/\S.bz n xs ys zs i j=K then S.wt n j else 0
structure DpK (g0:G) (mb:Nat) (g:G):Prop where
 nx:g0.nx<=g.nx
 fr:∀i,(i<mb\/mb+4<=i)->i<g0.nx->g.h.get i=g0.h.get i
theorem ixm (mb p k:Nat)(h:k<4):cJ (.cells 4 [[.hmap mb,.hmap (mb+1),.hmap (mb+2),.hmap (mb+3)]] 0 false false) 0 0 false 1 k=.val (.hmap (mb+k)):=by
 have:k=0\/k=1\/k=2\/k=3:=by omega
 rcases this with rfl | rfl | rfl | rfl<;>rfl
theorem IA (f:Nat->Int)(k:Nat)(h:k<4):ixV false 4 1 (.agg [.int .u64 (f 0),.int .u64 (f 1),.int .u64 (f 2),.int .u64 (f 3)]) (.int .i64 (k:Int))=.val (.int .u64 (f k)):=by
 have:k=0\/k=1\/k=2\/k=3:=by omega
 rcases this with rfl | rfl | rfl | rfl<;>rfl
def vK (xs ys zs:Nat):AV:=.agg [.int .u64 (((S.ak xs ys zs)[0]?.getD 0:Nat):Int),.int .u64 (((S.ak xs ys zs)[1]?.getD 0:Nat):Int),.int .u64 (((S.ak xs ys zs)[2]?.getD 0:Nat):Int),.int .u64 (((S.ak xs ys zs)[3]?.getD 0:Nat):Int)]
def LDm (xs ys zs p q r:Nat):List (Nat×AV):=[(10,.hptr q 0 0 0),(13,.hptr p 0 0 0),(14,.hptr r 0 0 0),(83,vK xs ys zs)]
set_option maxRecDepth 20000 in
theorem In {d lo xs ys zs p q r mb j:Nat}{rd:Option Nat}{n:Net}{y:QnM}{b fl S_ u:AV}{Q:QT}{t:T}{g0:G}(hd:0<d)(hr:NR n)(hx:xs<18446744073709551616)(hy:ys<18446744073709551616)(hz:zs<18446744073709551616)(hj:j<1024)
  (hc:Rp.rp NoP 0 .nil y [.int .i64 n.grain,b,fl,S_]) (hq:QnOk n y)
  (hu:SlR (fun i=>lo<=i/\i<g0.nx) 0 g0.h (S.ah (S.aa n) (j:Int)) u) (hlo:mb+4<=lo)
  (hp:(p<mb\/mb+4<=p)/\p<g0.nx) (hq':(q<mb\/mb+4<=q)/\q<g0.nx) (hr':(r<mb\/mb+4<=r)/\r<g0.nx)
  (k13:g0.h.get p=.cells 4 [[.hmap mb,.hmap (mb+1),.hmap (mb+2),.hmap (mb+3)]] 0 false false) (k10:g0.h.get q=.cells 4 [[.int .i64 n.grain,b,fl,S_]] 0 false false) (k14:g0.h.get r=.cells 3 [[.int .i64 (j:Int),.int .i64 (S.wt n j),u]] 0 false false)
  (h0:DpM n xs ys zs mb j 0 g0.h) (ht:St t (LDm xs ys zs p q r)) (h84:tat t 84=.int .i64 0)
  (fin:∀t g,DpK g0 mb g->DpM n xs ys zs mb j 4 g.h->Q (.exit 2) t [] g):wpL (wp C0 d rd fY) Q t [] g0:=by
 simp only[fY]
 refine kT (m:=4) rfl (by omega) (fun k t df g=>df=[]/\St t (LDm xs ys zs p q r)/\DpK g0 mb g/\DpM n xs ys zs mb j k g.h) ⟨rfl,ht,⟨Nat.le_refl _,fun _ _ _=>rfl⟩,h0⟩ h84 (by decide) (by rintro i t df g v s (rfl | rfl | rfl)<;>simp[St,LDm,sx]) ?_ ?_
 ·rintro k t df g hk ⟨rfl,⟨h10,h13,h14,h83,-⟩,hK,hM⟩ h84
  obtain ⟨L,l1,l2⟩:=hM.hm k hk
  have ix:=IA (fun i=>(((S.ak xs ys zs)[i]?.getD 0:Nat):Int)) k hk
  have hds:(S.ak xs ys zs)[k]?.getD 0<18446744073709551616:=by
   obtain ⟨s,hs⟩:∃s,(S.ak xs ys zs)[k]?=some s:=⟨_,List.getElem?_eq_getElem (by simp[S.ak];omega)⟩
   rw[hs];exact xy hx hy hz s (List.mem_of_getElem? hs)
  obtain ⟨sk,hsk⟩:∃sk,sk=(S.ak xs ys zs)[k]?.getD 0:=⟨_,rfl⟩
  rw[<-hsk] at hds
  refine aO (P:=fun t' df g'=>df=[]/\g'=g/\St t' ((15,.int .i64 (k:Int))::(16,.int .u64 (sk:Int))::(84,.int .i64 (k:Int))::LDm xs ys zs p q r)) ?_ ?_
  ·simp only[sz,simprocAttr,h83,h84,vK,ix]
   simp[St,LDm,vK,sx,h10,h13,h14,h83,h84,hsk]
  clear h10 h13 h14 h83 h84
  rintro t df g' ⟨rfl,rfl,h15,h16,h84,h10,h13,h14,h83,-⟩
  have hinC:=j7 (fun c hc=>(hr.cs c hc).1) (j:Int)
  obtain ⟨K,hKd⟩:∃K,K=S.bz n xs ys zs k j:=⟨_,rfl⟩
  have hu':SlR (fun _=>True) 0 g'.h (S.ah (S.aa n) (j:Int)) u:=hu.wd fun i hi=>⟨trivial,hK.fr i (by omega) hi.2⟩
  have kn:∀g:G,g.h=g'.h->au C0 d N.af [.agg [.int .i64 n.grain,b,fl,S_],u,.int .u64 (sk:Int)] g=.val (.int .i64 K):=fun g hgh=>by
   have:=wX (d:=d) (g:=g) (v:=.agg [.int .i64 n.grain,b,fl,S_]) (w:=u) (s:=sk) hd hr ⟨_,rfl,Rp.tree hc (Nat.le_refl 0)⟩ hq (hgh ▸ hu') hinC hds
   rw[this,hKd,S.bz,hsk,S.aL]
  have hb:=yc hr (p:=fun u=>decide (S.aL n sk u=K)) (j:=j+1) (by omega)
  have hmK:mgt L K=S.aV n sk K j:=by rw[l2,hsk];simp
  have hs:S.aV n sk K (j+1)=mgt L K+S.wt n j:=by
   rw[hmK,S.aV,S.aV,S.a9,if_pos];· rfl
   ·rw[hKd,S.bz,<-hsk];simp
  have w1:IntKind.wrap .i64 (mgt L K+S.wt n j)=mgt L K+S.wt n j:=by rw[<-hs,aA (by have:=hb.1;unfold S.aV;omega) (by have:=hb.2;unfold S.aV;omega)]
  have g13:g'.h.get p=.cells 4 [[.hmap mb,.hmap (mb+1),.hmap (mb+2),.hmap (mb+3)]] 0 false false:=by rw[hK.fr p hp.1 hp.2,k13]
  have g10:g'.h.get q=.cells 4 [[.int .i64 n.grain,b,fl,S_]] 0 false false:=by rw[hK.fr q hq'.1 hq'.2,k10]
  have g14:g'.h.get r=.cells 3 [[.int .i64 (j:Int),.int .i64 (S.wt n j),u]] 0 false false:=by rw[hK.fr r hr'.1 hr'.2,k14]
  have i1:iA 4 1 (.hptr p 0 0 0) (.int .i64 (k:Int))=.val (.hptr p 0 0 k):=by have:=zO 4 1 p 0 0 0 .i64 hk;simpa using this
  have i2:=ixm mb p k hk
  have lk:∀(t:T) (g:G),tat t 90=.hmap (mb+k)->tat t 95=.int .i64 K->g.h.get (mb+k)=.map (mcl ik L)->(bW C0 (.lookup 118 (.tmp 90) (.tmp 95) false)).run (I C0) d rd t g=.val (.int .i64 (mgt L K)):=fun t g a b c=>BM a b c
  have up:∀(t:T) (g:G),tat t 90=.hmap (mb+k)->tat t 95=.int .i64 K->tat t 99=.int .i64 (mgt L K+S.wt n j)->g.h.get (mb+k)=.map (mcl ik L)->(bW C0 (.mapUpdate 118 (.tmp 90) (.tmp 95) (.tmp 99))).run (I C0) d rd t g=.upd .undef (g.put (mb+k) (.map (mcl ik (mst K (mgt L K+S.wt n j) L)))):=fun t g a b c e=>If a b c e
  simp only[sz,simprocAttr,sf,h10,h13,h14,h15,h16,g10,g13,g14,i1,i2,kn,lk,l1,w1,up,xh,C4,eA]
  have hnx:=hK.nx
  refine ⟨?_,⟨by simp[St,LDm,vK,sx,h10,h13,h14,h83],⟨by simp;omega,fun i h1 h2=>?_⟩,⟨fun i hi=>?_⟩⟩,?_⟩
  ·simp only[List.reverse_cons,List.reverse_nil,List.nil_append,List.cons_append]
   exact sD [(false,false),(false,false),(false,false),(false,false),(false,false),(false,false),(false,false),(false,false),(false,true),(false,false),(false,false),(false,false),(true,false)] [] (by simp[All2,ak,ay]) (by decide) (by decide) (by simp)
  ·simp[H.get_put,show ¬i=mb+k by omega];exact hK.fr i h1 h2
  ·by_cases hik:i=k
   ·subst hik
    refine ⟨mst K (mgt L K+S.wt n j) L,by simp[H.get_put],fun K'=>?_⟩
    rw[BQ]
    by_cases e:K'=K
    ·rw[if_pos e,e,hmK,hsk,if_pos ⟨by omega,hKd.symm⟩]
    ·rw[if_neg e,l2,if_neg (fun h=>by omega),if_neg (fun h=>e (by rw[<-h.2,hKd]))]
   ·obtain ⟨L',m1,m2⟩:=hM.hm i hi
    refine ⟨L',by simp[H.get_put,hik];exact m1,fun K'=>?_⟩
    rw[m2]
    have:i<k+1↔i<k:=by omega
    simp only[this]
  ·exact h84
 ·rintro t df g ⟨rfl,-,hK,hM⟩
  exact fin t g hK hM
def dj (c:Int->AV)(f:Nat->Int):List AV:=[c (f 0),c (f 1),c (f 2),c (f 3)]
def j8 (x:Int):AV:=.int .i64 x
def lI (x:Int):AV:=.int .u64 x
theorem C2 (id k:Nat)(h:k<4):iA 4 1 (.hptr id 0 0 0) (.int .i64 (k:Int))=.val (.hptr id 0 0 k):=by
 have:k=0\/k=1\/k=2\/k=3:=by omega
 rcases this with rfl | rfl | rfl | rfl<;>rfl
theorem ld4 (c:Int->AV)(f:Nat->Int)(k:Nat)(h:k<4):cJ (.cells 4 [dj c f] 0 false false) 0 0 false 1 k=.val (c (f k)):=by
 have:k=0\/k=1\/k=2\/k=3:=by omega
 rcases this with rfl | rfl | rfl | rfl<;>rfl
theorem IY (f:Nat->Int)(k:Nat)(x:Int)(h:k<4):(if k+1<=(dj j8 f).length then some ((dj j8 f).take k++AV.int .i64 x::(dj j8 f).drop (k+1)) else none)=some (dj j8 fun i=>if i=k then x else f i):=by
 have:k=0\/k=1\/k=2\/k=3:=by omega
 rcases this with rfl | rfl | rfl | rfl<;>rfl
def S.aC (n:Net)(xs ys zs w i u:Nat):Int:=S.aV n ((S.ak xs ys zs)[i]?.getD 0) (S.aL n ((S.ak xs ys zs)[i]?.getD 0) w) u
theorem EC {n:Net}{xs ys zs w i u:Nat}:S.aC n xs ys zs w i (u+1)=S.aC n xs ys zs w i u+if S.aL n ((S.ak xs ys zs)[i]?.getD 0) u=S.aL n ((S.ak xs ys zs)[i]?.getD 0) w then S.aG n (S.ah (S.aa n) (u:Int)) else 0:=by
 rw[S.aC,S.aC,S.aV,S.aV,S.a9]
 simp
structure DpL (n:Net) (U V:AV) (g:G):Prop where
 u:∃rows,Own g 1 U 1 rows/\All2 (Rp.rp NoP 0 .nil) ((List.range (S.am n)).map fun w:Nat=>S.ah (S.aa n) (w:Int)) rows
 v:Own g 1 V 1 ((List.range (S.am n)).map fun w:Nat=>[AV.int .i64 (S.aG n (S.ah (S.aa n) (w:Int)))])
theorem DpL.step {n:Net}{U V:AV}{g g':G}(h:DpL n U V g)(f:Fr g g'):DpL n U V g':=by
 obtain ⟨⟨rows,h1,h2⟩,h3⟩:=h
 exact ⟨⟨rows,h1.step f,h2⟩,h3.step f⟩
theorem DpL.at {n:Net}{U V:AV}{g:G}(h:DpL n U V g){u:Nat}(hu:u<S.am n):∃rows z,ae g.h 1 U=some rows/\u<rows.length/\rows[u]?=some [z]/\SlR NoP 0 .nil (S.ah (S.aa n) (u:Int)) z/\iB U=true/\rows.length=S.am n:=by
 obtain ⟨⟨rows,h1,h2⟩,-⟩:=h
 have hl:=h2.len
 rw[List.length_map,List.length_range] at hl
 obtain ⟨cs,hcs,z,rfl,hz⟩:=h2.get (i:=u) (a:=S.ah (S.aa n) (u:Int)) (by simp[hu])
 exact ⟨rows,z,h1.rows,by omega,hcs,hz,pz h1.rows (i:=u) (by omega),hl.symm⟩
def S.aI (n:Net)(xs ys zs w u k:Nat):Nat->Int:=fun i=>S.aC n xs ys zs w i (if i<k then u+1 else u)
theorem jG {c:Int->AV}{f f':Nat->Int}(h:∀i,i<4->f i=f' i):dj c f=dj c f':=by
 unfold dj
 rw[h 0 (by omega),h 1 (by omega),h 2 (by omega),h 3 (by omega)]
def LDp (U V:AV)(xs ys zs w u p q:Nat):List (Nat×AV):=[(9,U),(10,V),(12,.int .i64 (w:Int)),(13,.hptr p 0 0 0),(14,.hptr q 0 0 0),(15,.int .i64 (u:Int)),(1,.int .u64 (xs:Int)),(2,.int .u64 (ys:Int)),(3,.int .u64 (zs:Int))]
theorem GB {d xs ys zs w u p q:Nat}{n:Net}{U V:AV}{Q:QT}{t:T}{gL g0:G}(hd:0<d)(hr:NR n)(hx:xs<18446744073709551616)(hy:ys<18446744073709551616)(hz:zs<18446744073709551616)(hw:w<S.am n)(hu:u<S.am n)
  (hL:DpL n U V gL) (hf:Fr gL g0) (hp:gL.nx<=p) (hpq:q≠p) (hqn:q<g0.nx)
  (k13:g0.h.get p=.cells 4 [dj j8 (S.aI n xs ys zs w u 0)] 0 false false) (k14:g0.h.get q=.cells 4 [dj lI fun i=>(((S.ak xs ys zs)[i]?.getD 0:Nat):Int)] 0 false false)
  (ht:St t (LDp U V xs ys zs w u p q)) (h16:tat t 16=.int .i64 0)
  (fin:∀t g,St t (LDp U V xs ys zs w u p q)->Fr gL g->(∀i,i≠p->i<g0.nx->g.h.get i=g0.h.get i)->g0.nx<=g.nx->g.h.get p=.cells 4 [dj j8 (S.aI n xs ys zs w u 4)] 0 false false->Q (.exit 6) t [] g):wpL (wp C0 d none gu) Q t [] g0:=by
 obtain ⟨W1,W2,W3⟩:=hr.wl
 simp only[gu,ld]
 refine bi 4 (by omega) (fun k t df g=>df=[]/\St t (LDp U V xs ys zs w u p q)/\Fr gL g/\(∀i,i≠p->i<g0.nx->g.h.get i=g0.h.get i)/\g0.nx<=g.nx/\g.h.get p=.cells 4 [dj j8 (S.aI n xs ys zs w u k)] 0 false false) ⟨rfl,ht,hf,fun _ _ _=>rfl,Nat.le_refl _,k13⟩ h16 (by decide) (by rintro j t df g v s (rfl | rfl | rfl)<;>simp[St,LDp,sx]) ?_ ?_ ?_
 ·rintro k t df g hk ⟨rfl,⟨h9,h10,h12,h13,h14,h15,h1,h2,h3,-⟩,hf,hfr,hnx,kp⟩ h16
  simp only[sz,simprocAttr,h16]
  exact ⟨by simp[St,LDp,sx,h9,h10,h12,h13,h14,h15,h1,h2,h3],hf,hfr,hnx,kp⟩
 ·rintro k t df g hk ⟨rfl,⟨h9,h10,h12,h13,h14,h15,h1,h2,h3,-⟩,hf,hfr,hnx,kp⟩ h16
  have hLg:=hL.step hf
  obtain ⟨rows,zu,r1,r2,r3,r4,r5,r6⟩:=hLg.at hu
  obtain ⟨rows',zw,s1,s2,s3,s4,s5,s6⟩:=hLg.at hw
  rw[r1] at s1;injection s1 with s1;subst s1
  have kq:g.h.get q=.cells 4 [dj lI fun i=>(((S.ak xs ys zs)[i]?.getD 0:Nat):Int)] 0 false false:=by rw[hfr q hpq hqn,k14]
  have hds:(S.ak xs ys zs)[k]?.getD 0<18446744073709551616:=by
   obtain ⟨s,hs⟩:∃s,(S.ak xs ys zs)[k]?=some s:=⟨_,List.getElem?_eq_getElem (by simp[S.ak];omega)⟩
   rw[hs];exact xy hx hy hz s (List.mem_of_getElem? hs)
  have hvl:∀w:Nat,(S.ah (S.aa n) (w:Int)).length=n.nodes.length:=fun w=>by rw[tK,aI]
  have ka:∀g,au C0 d N.aH [zu,zw,.int .u64 (((S.ak xs ys zs)[k]?.getD 0:Nat):Int)] g=.val (.bool (decide (S.aL n ((S.ak xs ys zs)[k]?.getD 0) u=S.aL n ((S.ak xs ys zs)[k]?.getD 0) w))):=fun g=>by
   rw[FX hd r4 s4 (by rw[hvl,hvl]) hds,hvl,Gn hr]
  have lq:=ld4 lI (fun i=>(((S.ak xs ys zs)[i]?.getD 0:Nat):Int)) k hk
  have lp:=ld4 j8 (S.aI n xs ys zs w u k) k hk
  have hcs:S.aC n xs ys zs w k (u+1)=S.aC n xs ys zs w k u+if S.aL n ((S.ak xs ys zs)[k]?.getD 0) u=S.aL n ((S.ak xs ys zs)[k]?.getD 0) w then S.aG n (S.ah (S.aa n) (u:Int)) else 0:=EC
  have hmk:S.aI n xs ys zs w u k k=S.aC n xs ys zs w k u:=by simp[S.aI]
  have hm1:∀i,i≠k->S.aI n xs ys zs w u (k+1) i=S.aI n xs ys zs w u k i:=fun i hi=>by
   unfold S.aI
   congr 1
   have:(i<k+1)↔i<k:=by omega
   simp only[this]
  have hm2:S.aI n xs ys zs w u (k+1) k=S.aC n xs ys zs w k (u+1):=by simp[S.aI]
  have i1:=C2 q k hk
  have i2:=C2 p k hk
  have ry:iB U=true:=r5
  simp only[sz,simprocAttr,h9,h12,h14,h15,h16,r1,r2,r3,s2,s3,r5,kq,i1,lq,lI,ka]
  by_cases hc:S.aL n ((S.ak xs ys zs)[k]?.getD 0) u=S.aL n ((S.ak xs ys zs)[k]?.getD 0) w
  ·rw[if_pos hc] at hcs
   have hb:0<=S.aC n xs ys zs w k (u+1)/\S.aC n xs ys zs w k (u+1)<=171992678400000000:=yc hr (by omega)
   have w1:IntKind.wrap .i64 (S.aI n xs ys zs w u k k+S.aG n (S.ah (S.aa n) (u:Int)))=S.aC n xs ys zs w k (u+1):=by rw[hmk,<-hcs,aA (by omega) (by omega)]
   have rV:=hLg.v.rows
   have v1:u<((List.range (S.am n)).map fun w:Nat=>[AV.int .i64 (S.aG n (S.ah (S.aa n) (w:Int)))]).length:=by simp[hu]
   have v2:((List.range (S.am n)).map fun w:Nat=>[AV.int .i64 (S.aG n (S.ah (S.aa n) (w:Int)))])[u]?=some [AV.int .i64 (S.aG n (S.ah (S.aa n) (u:Int)))]:=by simp[hu]
   have v3:iB V=true:=pz rV v1
   have pt:=IY (S.aI n xs ys zs w u k) k (S.aC n xs ys zs w k (u+1)) hk
   simp only[sz,simprocAttr,sf,hc,h10,h13,h15,h16,kp,i2,lp,j8,rV,v1,v2,v3,w1,pt]
   have e:dj j8 (S.aI n xs ys zs w u (k+1))=dj j8 (fun i=>if i=k then S.aC n xs ys zs w k (u+1) else S.aI n xs ys zs w u k i):=jG fun i _=>by
    by_cases hi:i=k
    ·subst hi;rw[if_pos rfl,hm2]
    ·rw[if_neg hi,hm1 i hi]
   rw[e]
   refine ⟨?_,by simp[St,LDp,sx,h9,h10,h12,h13,h14,h15,h1,h2,h3],⟨by simp;have:=hf.1;omega,fun i hi=>?_⟩,fun i a1 a2=>?_,by omega,rfl⟩
   ·simp only[List.reverse_cons,List.reverse_nil,List.nil_append,List.cons_append]
    exact aN [false,false,false,false,false,false,false,false,false,false,true] [] (by simp[All2,ak,ay]) (by decide) (by simp)
   ·simp[H.get_put,show ¬i=p by omega];exact hf.2 i hi
   ·rw[if_neg a1];exact hfr i a1 a2
  ·rw[if_neg hc,Int.add_zero] at hcs
   have e:dj j8 (S.aI n xs ys zs w u (k+1))=dj j8 (S.aI n xs ys zs w u k):=jG fun i _=>by
    by_cases hi:i=k
    ·subst hi;rw[hm2,hmk,hcs]
    ·exact hm1 i hi
   simp only[sz,simprocAttr,hc,h16]
   rw[e]
   exact ⟨by simp[St,LDp,sx,h9,h10,h12,h13,h14,h15,h1,h2,h3],hf,hfr,hnx,kp⟩
 ·rintro t df g ⟨rfl,ht,hf,hfr,hnx,kp⟩
  exact fin t g ht hf hfr hnx kp
def LDw (U V:AV)(xs ys zs w p q:Nat):List (Nat×AV):=[(9,U),(10,V),(12,.int .i64 (w:Int)),(13,.hptr p 0 0 0),(14,.hptr q 0 0 0),(1,.int .u64 (xs:Int)),(2,.int .u64 (ys:Int)),(3,.int .u64 (zs:Int))]
theorem Gf {d xs ys zs w p q:Nat}{n:Net}{U V:AV}{Q:QT}{t:T}{gL g0:G}(hd:0<d)(hr:NR n)(hx:xs<18446744073709551616)(hy:ys<18446744073709551616)(hz:zs<18446744073709551616)(hw:w<S.am n)
  (hL:DpL n U V gL) (hf:Fr gL g0) (hp:gL.nx<=p) (hpq:q≠p) (hqn:q<g0.nx)
  (k13:g0.h.get p=.cells 4 [dj j8 fun i=>S.aC n xs ys zs w i 0] 0 false false) (k14:g0.h.get q=.cells 4 [dj lI fun i=>(((S.ak xs ys zs)[i]?.getD 0:Nat):Int)] 0 false false)
  (ht:St t (LDw U V xs ys zs w p q)) (h15:tat t 15=.int .i64 0)
  (fin:∀t g,St t (LDw U V xs ys zs w p q)->Fr gL g->g.h.get p=.cells 4 [dj j8 fun i=>S.aC n xs ys zs w i (S.am n)] 0 false false->Q (.exit 4) t [] g):wpL (wp C0 d none gJ) Q t [] g0:=by
 obtain ⟨W1,W2,W3⟩:=hr.wl
 simp only[gJ,kK]
 refine bi (S.am n) (by omega) (fun u t df g=>df=[]/\St t (LDw U V xs ys zs w p q)/\Fr gL g/\(∀i,i≠p->i<g0.nx->g.h.get i=g0.h.get i)/\g0.nx<=g.nx/\g.h.get p=.cells 4 [dj j8 fun i=>S.aC n xs ys zs w i u] 0 false false) ⟨rfl,ht,hf,fun _ _ _=>rfl,Nat.le_refl _,k13⟩ h15 (by decide) (by rintro j t df g v s (rfl | rfl | rfl)<;>simp[St,LDw,sx]) ?_ ?_ ?_
 ·rintro u t df g hu ⟨rfl,⟨h9,h10,h12,h13,h14,h1,h2,h3,-⟩,hf,hfr,hnx,kp⟩ h15
  obtain ⟨rows,zu,r1,-,-,-,-,r6⟩:=(hL.step hf).at hw
  have lU:eO .slice U g=.val (.int .i64 (S.am n:Int)):=by rw[bJ r1,r6]
  simp only[sz,simprocAttr,h15,h9,lU]
  exact ⟨by simp[St,LDw,sx,h9,h10,h12,h13,h14,h1,h2,h3],hf,hfr,hnx,kp⟩
 ·rintro u t df g hu ⟨rfl,⟨h9,h10,h12,h13,h14,h1,h2,h3,-⟩,hf,hfr,hnx,kp⟩ h15
  refine aO (P:=fun t' df g'=>df=[]/\g'=g/\St t' (LDp U V xs ys zs w u p q)/\tat t' 16=.int .i64 0) ?_ ?_
  ·simp only[sz,simprocAttr]
   simp[St,LDp,sx,h9,h10,h12,h13,h14,h15,h1,h2,h3]
  clear h9 h10 h12 h13 h14 h15 h1 h2 h3
  rintro t df g' ⟨rfl,rfl,ht,h16⟩
  simp only[iT,k_]
  refine GB (w:=w) (u:=u) (p:=p) (q:=q) (U:=U) (V:=V) hd hr hx hy hz hw hu hL hf hp hpq (by omega) (by rw[kp,jG (f':=S.aI n xs ys zs w u 0)];intro i _;simp[S.aI]) (by rw[hfr q hpq hqn,k14]) ht h16 ?_
  rintro t g2 ⟨h9,h10,h12,h13,h14,h15,h1,h2,h3,-⟩ hf2 hfr2 hnx2 kp2
  simp only[dK,if_true]
  refine ⟨⟨rfl,⟨h9,h10,h12,h13,h14,h1,h2,h3,trivial⟩,hf2,fun i a1 a2=>by rw[hfr2 i a1 (by omega),hfr i a1 a2],by omega,?_⟩,h15⟩
  rw[kp2,jG (f':=fun i=>S.aC n xs ys zs w i (u+1))]
  intro i hi;simp[S.aI,hi]
 ·rintro t df g ⟨rfl,ht,hf,hfr,hnx,kp⟩
  exact fin t g ht hf kp
theorem gq {n:Net}(hr:NR n)(xs ys zs k w:Nat):S.aC n xs ys zs w k (S.am n)=((S.ax n xs ys zs k w:Nat):Int)/\S.ax n xs ys zs k w<18446744073709551616:=by
 have hb:=yu hr ((S.ak xs ys zs)[k]?.getD 0) w
 have e:S.aC n xs ys zs w k (S.am n)=S.bD n ((S.ak xs ys zs)[k]?.getD 0) w:=rfl
 rw[e,S.ax]
 omega
def LDs (U V:AV)(xs ys zs:Nat):List (Nat×AV):=[(9,U),(10,V),(1,.int .u64 (xs:Int)),(2,.int .u64 (ys:Int)),(3,.int .u64 (zs:Int))]
theorem Gr {d xs ys zs w p:Nat}{n:Net}{U V:AV}{Q:QT}{t:T}{g:G}(hd:0<d)(hr:NR n)
  (kp:g.h.get p=.cells 4 [dj j8 fun i=>S.aC n xs ys zs w i (S.am n)] 0 false false) (ht:St t ((13,.hptr p 0 0 0)::(12,.int .i64 (w:Int))::LDs U V xs ys zs))
  (bad:∀t,S.aR n xs ys zs w=true->tat t 8=.bool true->Q .ret t [] g)
  (fin:∀t',S.aR n xs ys zs w=false->St t' ((12,.int .i64 (w:Int))::LDs U V xs ys zs)->Q .norm t' [] g):wp C0 d none gx Q t [] g:=by
 have i0:iA 4 1 (.hptr p 0 0 0) (.int .i64 0)=.val (.hptr p 0 0 0):=C2 p 0 (by omega)
 have i1:iA 4 1 (.hptr p 0 0 0) (.int .i64 1)=.val (.hptr p 0 0 1):=C2 p 1 (by omega)
 have i2:iA 4 1 (.hptr p 0 0 0) (.int .i64 2)=.val (.hptr p 0 0 2):=C2 p 2 (by omega)
 have i3:iA 4 1 (.hptr p 0 0 0) (.int .i64 3)=.val (.hptr p 0 0 3):=C2 p 3 (by omega)
 have l:=fun k hk=>ld4 j8 (fun i=>S.aC n xs ys zs w i (S.am n)) k hk
 have l0:=l 0 (by omega)
 have l1:=l 1 (by omega)
 have l2:=l 2 (by omega)
 have l3:=l 3 (by omega)
 obtain ⟨c0,b0⟩:=gq hr xs ys zs 0 w
 obtain ⟨c1,b1⟩:=gq hr xs ys zs 1 w
 obtain ⟨c2,b2⟩:=gq hr xs ys zs 2 w
 obtain ⟨c3,b3⟩:=gq hr xs ys zs 3 w
 have hdep:S.aR n xs ys zs w = !decide (S.aE (S.ax n xs ys zs 0 w) (S.ax n xs ys zs 1 w)=S.aE (S.ax n xs ys zs 2 w) (S.ax n xs ys zs 3 w)):=rfl
 rw[c0] at l0;rw[c1] at l1;rw[c2] at l2;rw[c3] at l3
 clear c0 c1 c2 c3 l
 generalize S.ax n xs ys zs 0 w=m0 at *
 generalize S.ax n xs ys zs 1 w=m1 at *
 generalize S.ax n xs ys zs 2 w=m2 at *
 generalize S.ax n xs ys zs 3 w=m3 at *
 have cv:∀m:Nat,m<18446744073709551616->yw .u64 (.int .i64 (m:Int))=.val (.int .u64 (m:Int)):=fun m h=>by rw[t6,li (by omega) (by omega)]
 have wv:∀m:Nat,m<18446744073709551616->IntKind.wrap .u64 (m:Int)=(m:Int):=fun m h=>li (by omega) (by omega)
 have w0:=wv m0 b0
 have w1:=wv m1 b1
 have w2:=wv m2 b2
 have w3:=wv m3 b3
 have k1:∀g,au C0 d N.aa [.int .u64 (m0:Int),.int .u64 (m1:Int)] g=.val (.tup [.int .u64 ((S.aE m0 m1).1:Int),.int .u64 ((S.aE m0 m1).2:Int)]):=fun g=>pD hd b0 b1
 have k2:∀g,au C0 d N.aa [.int .u64 (m2:Int),.int .u64 (m3:Int)] g=.val (.tup [.int .u64 ((S.aE m2 m3).1:Int),.int .u64 ((S.aE m2 m3).2:Int)]):=fun g=>pD hd b2 b3
 generalize S.aE m0 m1=A at *
 generalize S.aE m2 m3=B at *
 obtain ⟨a1,a2⟩:=A
 obtain ⟨b1',b2'⟩:=B
 unfold gx
 refine aO (P:=fun t' df g'=>df=[]/\g'=g/\St t' ((17,.int .u64 (a1:Int))::(18,.int .u64 (a2:Int))::(13,.hptr p 0 0 0)::(12,.int .i64 (w:Int))::LDs U V xs ys zs)) ?_ ?_
 ·obtain ⟨h13,h12,h9,h10,h1,h2,h3,-⟩:=ht
  simp only[sz,simprocAttr,h13,kp,i0,i1,l0,l1,j8,w0,w1,k1]
  simp[St,LDs,sx,h13,h12,h9,h10,h1,h2,h3]
 clear ht
 rintro t1 df g1 ⟨rfl,rfl,ht⟩
 refine aO (P:=fun t' df g'=>df=[]/\g'=g1/\St t' ((19,.int .u64 (b1':Int))::(20,.int .u64 (b2':Int))::(17,.int .u64 (a1:Int))::(18,.int .u64 (a2:Int))::(12,.int .i64 (w:Int))::LDs U V xs ys zs)) ?_ ?_
 ·obtain ⟨h17,h18,h13,h12,h9,h10,h1,h2,h3,-⟩:=ht
  simp only[sz,simprocAttr,h13,kp,i2,i3,l2,l3,j8,w2,w3,k2]
  simp[St,LDs,sx,h17,h18,h12,h9,h10,h1,h2,h3]
 clear ht
 rintro t2 df g2 ⟨rfl,rfl,h19,h20,h17,h18,h12,h9,h10,h1,h2,h3,-⟩
 by_cases e1:a1=b1'
 ·by_cases e2:a2=b2'
  ·have hD:S.aR n xs ys zs w=false:=by rw[hdep,e1,e2];simp
   have q1:decide ((b1':Int)=(b1':Int))=true:=by simp
   have q2:decide ((b2':Int)=(b2':Int))=true:=by simp
   rw[e1] at h17
   rw[e2] at h18
   simp only[sz,simprocAttr,h17,h18,h19,h20,q1,q2]
   exact fin _ hD (by simp[St,LDs,sx,h12,h9,h10,h1,h2,h3])
  ·have hD:S.aR n xs ys zs w=true:=by rw[hdep];simp[e2]
   have q1:decide ((b1':Int)=(b1':Int))=true:=by simp
   have q2:decide ((a2:Int)=(b2':Int))=false:=by simp;omega
   rw[e1] at h17
   simp only[sz,simprocAttr,h17,h18,h19,h20,q1,q2]
   exact bad _ hD (by simp[sx])
 ·have hD:S.aR n xs ys zs w=true:=by rw[hdep];simp[e1]
  have q1:decide ((a1:Int)=(b1':Int))=false:=by simp;omega
  simp only[sz,simprocAttr,h17,h18,h19,h20,q1]
  exact bad _ hD (by simp[sx])
def md (n:Net)(xs ys zs w k:Nat):Nat->Int:=fun i=>if i<k then ((S.ax n xs ys zs i w:Nat):Int) else 0
theorem IR (f:Nat->Int)(k:Nat)(x:Int)(h:k<4):(if k+1<=(dj lI f).length then some ((dj lI f).take k++AV.int .u64 x::(dj lI f).drop (k+1)) else none)=some (dj lI fun i=>if i=k then x else f i):=by
 have:k=0\/k=1\/k=2\/k=3:=by omega
 rcases this with rfl | rfl | rfl | rfl<;>rfl
def LDn (xs ys zs p q r v:Nat):List (Nat×AV):=[(10,.hptr q 0 0 0),(13,.hptr p 0 0 0),(17,.hptr r 0 0 0),(18,.hptr v 0 0 0),(104,vK xs ys zs),(8,.hptr 1 0 0 0),(9,.hptr 2 0 0 0)]
set_option maxRecDepth 20000 in
theorem Iy {d lo xs ys zs p q r v mb w:Nat}{rd:Option Nat}{n:Net}{y:QnM}{b fl S_ u:AV}{Q:QT}{t:T}{g0:G}(hd:0<d)(hr:NR n)(hx:xs<18446744073709551616)(hy:ys<18446744073709551616)(hz:zs<18446744073709551616)
  (hc:Rp.rp NoP 0 .nil y [.int .i64 n.grain,b,fl,S_]) (hq:QnOk n y)
  (hu:SlR (fun i=>lo<=i/\i<v) 0 g0.h (S.ah (S.aa n) (w:Int)) u)
  (hp:p<v) (hq':q<v) (hr':r<v) (hm':mb+4<=v) (hv:v<g0.nx)
  (k13:g0.h.get p=.cells 4 [[.hmap mb,.hmap (mb+1),.hmap (mb+2),.hmap (mb+3)]] 0 false false) (k10:g0.h.get q=.cells 4 [[.int .i64 n.grain,b,fl,S_]] 0 false false) (k17:g0.h.get r=.cells 3 [[.int .i64 (w:Int),.int .i64 (S.wt n w),u]] 0 false false)
  (h0:DpM n xs ys zs mb (S.am n) 0 g0.h) (k18:g0.h.get v=.cells 4 [dj lI (md n xs ys zs w 0)] 0 false false) (ht:St t (LDn xs ys zs p q r v)) (h105:tat t 105=.int .i64 0)
  (fin:∀t g,St t (LDn xs ys zs p q r v)->g0.nx<=g.nx->(∀i,i≠v->i<g0.nx->g.h.get i=g0.h.get i)->g.h.get v=.cells 4 [dj lI (md n xs ys zs w 4)] 0 false false->Q (.exit 6) t [] g):wpL (wp C0 d rd gA) Q t [] g0:=by
 simp only[gA]
 refine kT (m:=4) rfl (by omega) (fun k t df g=>df=[]/\St t (LDn xs ys zs p q r v)/\g0.nx<=g.nx/\(∀i,i≠v->i<g0.nx->g.h.get i=g0.h.get i)/\g.h.get v=.cells 4 [dj lI (md n xs ys zs w k)] 0 false false) ⟨rfl,ht,Nat.le_refl _,fun _ _ _=>rfl,k18⟩ h105 (by decide) (by rintro i t df g v s (rfl | rfl | rfl)<;>simp[St,LDn,sx]) ?_ ?_
 ·rintro k t df g hk ⟨rfl,⟨h10,h13,h17,h18,h104,h8,h9,-⟩,hnx,hfr,kv⟩ h105
  have ix:=IA (fun i=>(((S.ak xs ys zs)[i]?.getD 0:Nat):Int)) k hk
  have hds:(S.ak xs ys zs)[k]?.getD 0<18446744073709551616:=by
   obtain ⟨s,hs⟩:∃s,(S.ak xs ys zs)[k]?=some s:=⟨_,List.getElem?_eq_getElem (by simp[S.ak];omega)⟩
   rw[hs];exact xy hx hy hz s (List.mem_of_getElem? hs)
  obtain ⟨L,l1,l2⟩:=h0.hm k hk
  obtain ⟨K,hKd⟩:∃K,K=S.bz n xs ys zs k w:=⟨_,rfl⟩
  obtain ⟨cm,cb⟩:=gq hr xs ys zs k w
  have hmK:mgt L K=((S.ax n xs ys zs k w:Nat):Int):=by rw[l2,<-cm,hKd];simp;rfl
  obtain ⟨sk,hsk⟩:∃sk,sk=(S.ak xs ys zs)[k]?.getD 0:=⟨_,rfl⟩
  rw[<-hsk] at hds
  refine aO (P:=fun t' df g'=>df=[]/\g'=g/\St t' ((19,.int .i64 (k:Int))::(20,.int .u64 (sk:Int))::(105,.int .i64 (k:Int))::LDn xs ys zs p q r v)) ?_ ?_
  ·simp only[sz,simprocAttr,h104,h105,vK,ix]
   simp[St,LDn,vK,sx,h10,h13,h17,h18,h104,h8,h9,h105,hsk]
  clear h10 h13 h17 h18 h104 h105 h8 h9
  rintro t df g' ⟨rfl,rfl,h19,h20,h105,h10,h13,h17,h18,h104,h8,h9,-⟩
  have hinC:=j7 (fun c hc=>(hr.cs c hc).1) (w:Int)
  have hu':SlR (fun _=>True) 0 g'.h (S.ah (S.aa n) (w:Int)) u:=hu.wd fun i hi=>⟨trivial,hfr i (by omega) (by omega)⟩
  have kn:∀g:G,g.h=g'.h->au C0 d N.af [.agg [.int .i64 n.grain,b,fl,S_],u,.int .u64 (sk:Int)] g=.val (.int .i64 K):=fun g hgh=>by
   have:=wX (d:=d) (g:=g) (v:=.agg [.int .i64 n.grain,b,fl,S_]) (w:=u) (s:=sk) hd hr ⟨_,rfl,Rp.tree hc (Nat.le_refl 0)⟩ hq (hgh ▸ hu') hinC hds
   rw[this,hKd,S.bz,hsk,S.aL]
  have g13:g'.h.get p=.cells 4 [[.hmap mb,.hmap (mb+1),.hmap (mb+2),.hmap (mb+3)]] 0 false false:=by rw[hfr p (by omega) (by omega),k13]
  have g10:g'.h.get q=.cells 4 [[.int .i64 n.grain,b,fl,S_]] 0 false false:=by rw[hfr q (by omega) (by omega),k10]
  have g17:g'.h.get r=.cells 3 [[.int .i64 (w:Int),.int .i64 (S.wt n w),u]] 0 false false:=by rw[hfr r (by omega) (by omega),k17]
  have gm:g'.h.get (mb+k)=.map (mcl ik L):=by rw[hfr _ (by omega) (by omega),l1]
  have i1:iA 4 1 (.hptr p 0 0 0) (.int .i64 (k:Int))=.val (.hptr p 0 0 k):=by have:=zO 4 1 p 0 0 0 .i64 hk;simpa using this
  have i3:iA 4 1 (.hptr v 0 0 0) (.int .i64 (k:Int))=.val (.hptr v 0 0 k):=by have:=zO 4 1 v 0 0 0 .i64 hk;simpa using this
  have i2:=ixm mb p k hk
  have w1:IntKind.wrap .u64 (mgt L K)=((S.ax n xs ys zs k w:Nat):Int):=by rw[hmK,li (by omega) (by omega)]
  have lk:∀(t:T) (g:G),tat t 112=.hmap (mb+k)->tat t 117=.int .i64 K->g.h.get (mb+k)=.map (mcl ik L)->(bW C0 (.lookup 118 (.tmp 112) (.tmp 117) false)).run (I C0) d rd t g=.val (.int .i64 (mgt L K)):=fun t g a b c=>BM a b c
  have pt:=IR (md n xs ys zs w k) k ((S.ax n xs ys zs k w:Nat):Int) hk
  have e:dj lI (md n xs ys zs w (k+1))=dj lI (fun i=>if i=k then ((S.ax n xs ys zs k w:Nat):Int) else md n xs ys zs w k i):=jG fun i _=>by
   unfold md
   by_cases hi:i=k
   ·subst hi;simp
   ·have:i<k+1↔i<k:=by omega
    simp only[this,if_neg hi]
  simp only[sz,simprocAttr,sf,h10,h13,h17,h18,h19,h20,g10,g13,g17,i1,i2,i3,kn,lk,gm,w1,kv,pt,xh,eA]
  rw[e]
  refine ⟨?_,⟨by simp[St,LDn,vK,sx,h10,h13,h17,h18,h104,h8,h9],by omega,fun i h1 h2=>?_,by simp[H.get_put]⟩,h105⟩
  ·simp only[List.reverse_cons,List.reverse_nil,List.nil_append,List.cons_append]
   exact sD [(false,false),(false,false),(false,false),(false,false),(false,false),(false,false),(false,false),(false,false),(false,false),(false,true),(false,false),(false,false),(true,false)] [] (by simp[All2,ak,ay]) (by decide) (by decide) (by simp)
  ·simp[H.get_put,h1];exact hfr i h1 h2
 ·rintro t df g ⟨rfl,ht,hnx,hfr,kv⟩
  exact fin t g ht hnx hfr kv
theorem G8 (v k:Nat)(h:k<4):iA 4 1 (.hptr v 0 0 0) (.int .i64 (k:Int))=.val (.hptr v 0 0 k):=by
 have:=zO 4 1 v 0 0 0 .i64 h;simpa using this
theorem H0 {d xs ys zs w v:Nat}{rd:Option Nat}{n:Net}{Q:QT}{t:T}{g:G}(hd:0<d)(hr:NR n)
  (kp:g.h.get v=.cells 4 [dj lI (md n xs ys zs w 4)] 0 false false) (ht:St t [(18,.hptr v 0 0 0),(8,.hptr 1 0 0 0),(9,.hptr 2 0 0 0)])
  (q1:g.h.get 1=.cells 1 [[.bool false]] 0 false false) (q2:g.h.get 2=.cells 1 [[.int .i64 0]] 0 false false)
  (bad:∀t,S.aR n xs ys zs w=true->Q .ret t [] ((g.put 1 (.cells 1 [[.bool true]] 0 false false)).put 2 (.cells 1 [[.int .i64 0]] 0 false false)))
  (fin:∀t',S.aR n xs ys zs w=false->Q .norm t' [] g):wp C0 d rd gH Q t [] g:=by
 have i0:iA 4 1 (.hptr v 0 0 0) (.int .i64 0)=.val (.hptr v 0 0 0):=G8 v 0 (by omega)
 have i1:iA 4 1 (.hptr v 0 0 0) (.int .i64 1)=.val (.hptr v 0 0 1):=G8 v 1 (by omega)
 have i2:iA 4 1 (.hptr v 0 0 0) (.int .i64 2)=.val (.hptr v 0 0 2):=G8 v 2 (by omega)
 have i3:iA 4 1 (.hptr v 0 0 0) (.int .i64 3)=.val (.hptr v 0 0 3):=G8 v 3 (by omega)
 have l:∀k,k<4->cJ (.cells 4 [dj lI (md n xs ys zs w 4)] 0 false false) 0 0 false 1 k=.val (.int .u64 ((S.ax n xs ys zs k w:Nat):Int)):=fun k hk=>by rw[ld4 lI _ k hk,md,if_pos hk];rfl
 have l0:=l 0 (by omega)
 have l1:=l 1 (by omega)
 have l2:=l 2 (by omega)
 have l3:=l 3 (by omega)
 obtain ⟨-,b0⟩:=gq hr xs ys zs 0 w
 obtain ⟨-,b1⟩:=gq hr xs ys zs 1 w
 obtain ⟨-,b2⟩:=gq hr xs ys zs 2 w
 obtain ⟨-,b3⟩:=gq hr xs ys zs 3 w
 have hdep:S.aR n xs ys zs w = !decide (S.aE (S.ax n xs ys zs 0 w) (S.ax n xs ys zs 1 w)=S.aE (S.ax n xs ys zs 2 w) (S.ax n xs ys zs 3 w)):=rfl
 clear l
 generalize S.ax n xs ys zs 0 w=m0 at *
 generalize S.ax n xs ys zs 1 w=m1 at *
 generalize S.ax n xs ys zs 2 w=m2 at *
 generalize S.ax n xs ys zs 3 w=m3 at *
 have k1:∀g,au C0 d N.aa [.int .u64 (m0:Int),.int .u64 (m1:Int)] g=.val (.tup [.int .u64 ((S.aE m0 m1).1:Int),.int .u64 ((S.aE m0 m1).2:Int)]):=fun g=>pD hd b0 b1
 have k2:∀g,au C0 d N.aa [.int .u64 (m2:Int),.int .u64 (m3:Int)] g=.val (.tup [.int .u64 ((S.aE m2 m3).1:Int),.int .u64 ((S.aE m2 m3).2:Int)]):=fun g=>pD hd b2 b3
 generalize S.aE m0 m1=A at *
 generalize S.aE m2 m3=B at *
 obtain ⟨a1,a2⟩:=A
 obtain ⟨b1',b2'⟩:=B
 unfold gH
 refine aO (P:=fun t' df g'=>df=[]/\g'=g/\St t' [(21,.int .u64 (a1:Int)),(22,.int .u64 (a2:Int)),(18,.hptr v 0 0 0),(8,.hptr 1 0 0 0),(9,.hptr 2 0 0 0)]) ?_ ?_
 ·obtain ⟨h18,h8,h9,-⟩:=ht
  simp only[sz,simprocAttr,h18,kp,i0,i1,l0,l1,k1]
  simp[St,sx,h18,h8,h9]
 clear ht
 rintro t1 df g1 ⟨rfl,rfl,ht⟩
 refine aO (P:=fun t' df g'=>df=[]/\g'=g1/\St t' [(23,.int .u64 (b1':Int)),(24,.int .u64 (b2':Int)),(21,.int .u64 (a1:Int)),(22,.int .u64 (a2:Int)),(8,.hptr 1 0 0 0),(9,.hptr 2 0 0 0)]) ?_ ?_
 ·obtain ⟨h21,h22,h18,h8,h9,-⟩:=ht
  simp only[sz,simprocAttr,h18,kp,i2,i3,l2,l3,k2]
  simp[St,sx,h21,h22,h8,h9]
 clear ht
 rintro t2 df g2 ⟨rfl,rfl,h23,h24,h21,h22,h8,h9,-⟩
 by_cases e1:b1'=a1
 ·by_cases e2:b2'=a2
  ·have hD:S.aR n xs ys zs w=false:=by rw[hdep,e1,e2];simp
   have q1:decide ((a1:Int)=(a1:Int))=true:=by simp
   have q2:decide ((a2:Int)=(a2:Int))=true:=by simp
   rw[e1] at h23
   rw[e2] at h24
   simp only[sz,simprocAttr,h21,h22,h23,h24,q1,q2]
   exact fin _ hD
  ·have hD:S.aR n xs ys zs w=true:=by rw[hdep,decide_eq_false (fun h=>e2 (congrArg Prod.snd h).symm)];rfl
   have q1':decide ((a1:Int)=(a1:Int))=true:=by simp
   have q2':decide ((b2':Int)=(a2:Int))=false:=by simp;omega
   rw[e1] at h23
   simp only[sz,simprocAttr,h21,h22,h23,h24,q1',q2',h8,h9,q1,q2]
   exact bad _ hD
 ·have hD:S.aR n xs ys zs w=true:=by rw[hdep,decide_eq_false (fun h=>e1 (congrArg Prod.fst h).symm)];rfl
  have q1':decide ((b1':Int)=(a1:Int))=false:=by simp;omega
  simp only[sz,simprocAttr,h21,h22,h23,h24,q1',h8,h9,q1,q2]
  exact bad _ hD
theorem DpM.next {n:Net}{xs ys zs mb j:Nat}{h:H}(hM:DpM n xs ys zs mb j 4 h):DpM n xs ys zs mb (j+1) 0 h:=⟨fun i hi=>by
 obtain ⟨L,l1,l2⟩:=hM.hm i hi
 refine ⟨L,l1,fun K=>?_⟩
 rw[l2,S.aV,S.aV,S.a9]
 simp only[hi,true_and,Nat.not_lt_zero,false_and,if_false,Int.add_zero,decide_eq_true_eq]
 rfl⟩
theorem DpM.cong {n:Net}{xs ys zs mb j k:Nat}{h h':H}(hM:DpM n xs ys zs mb j k h)(hh:∀i,i<4->h'.get (mb+i)=h.get (mb+i)):DpM n xs ys zs mb j k h':=⟨fun i hi=>by
 obtain ⟨L,l1,l2⟩:=hM.hm i hi
 exact ⟨L,by rw[hh i hi,l1],l2⟩⟩
theorem tF {C:Cfg}{d:Nat}{r:List SR}{t:T}{g:G}{K:AV->G->Prop}{i j:Nat}(hi:g.h.get i=.dfr true)(hj:g.h.get j=.dfr true)(hij:i≠j)(h:si r t ((g.put i (.dfr false)).put j (.dfr false)) fun vs=>K (gg vs) ((g.put i (.dfr false)).put j (.dfr false))):v8 C d r t [.mark i,.mark j] g K:=by
 unfold v8
 have:dL (I C) d [.mark i,.mark j] g=some ((g.put i (.dfr false)).put j (.dfr false)):=by
  have hj':(g.put i (.dfr false)).h.get j=.dfr true:=by simp[H.get_put,show ¬j=i by omega,hj]
  simp only[dL,G.get_eq,hi,hj']
 rw[this];exact h
def S.ba (l xs ys zs:Nat):Bool:=(!decide ((xs ||| ys ||| zs) / 2 ^ l=0)) || !decide (xs &&& ys=0) || !decide (xs &&& zs=0) || !decide (ys &&& zs=0)
def S.aH (n:Net)(xs ys zs:Nat):Int:=if S.aw n then (if S.ba n.nodes.length xs ys zs then 2 else 0) else 50
def S.aN (n:Net)(xs ys zs:Nat):Bool:=decide (S.aH n xs ys zs=0)&&S.bc n xs ys zs
def LDd (xs ys zs:Nat):List (Nat×AV):=[(1,.int .u64 (xs:Int)),(2,.int .u64 (ys:Int)),(3,.int .u64 (zs:Int)),(8,.hptr 1 0 0 0),(9,.hptr 2 0 0 0),(10,.hptr 3 0 0 0)]
structure DpS (n:Net) (xs ys zs:Nat) (b a3 a4:AV) (g:G):Prop where
 h1:g.h.get 1=.cells 1 [[.bool false]] 0 false false
 h2:g.h.get 2=.cells 1 [[.int .i64 0]] 0 false false
 h3:g.h.get 3=.cells 4 [[.int .i64 n.grain,b,a3,a4]] 0 false false
 h4:g.h.get 4=.cells 4 [[.int .u64 (((S.ak xs ys zs)[0]?.getD 0:Nat):Int),.int .u64 (((S.ak xs ys zs)[1]?.getD 0:Nat):Int),.int .u64 (((S.ak xs ys zs)[2]?.getD 0:Nat):Int),.int .u64 (((S.ak xs ys zs)[3]?.getD 0:Nat):Int)]] 0 false false
 h9:g.h.get 9=.cells 4 [[.hmap 5,.hmap (5+1),.hmap (5+2),.hmap (5+3)]] 0 false false
theorem Gv {d xs ys zs l:Nat}{gr:Int}{b a3 a4:AV}{Q:QT}{t:T}{g:G}(hx:xs<18446744073709551616)(hy:ys<18446744073709551616)(hz:zs<18446744073709551616)(hb:∀g,eO .slice b g=.val (.int .i64 (l:Int)))
  (ht:St t (LDd xs ys zs)) (k3:g.h.get 3=.cells 4 [[.int .i64 gr,b,a3,a4]] 0 false false) (k1:g.h.get 1=.cells 1 [[.bool false]] 0 false false) (k2:g.h.get 2=.cells 1 [[.int .i64 0]] 0 false false)
  (bad:∀t,S.ba l xs ys zs=true->tat t 8=.hptr 1 0 0 0->tat t 9=.hptr 2 0 0 0->Q .ret t [] ((g.put 1 (.cells 1 [[.bool false]] 0 false false)).put 2 (.cells 1 [[.int .i64 2]] 0 false false)))
  (fin:∀t,S.ba l xs ys zs=false->St t (LDd xs ys zs)->Q .norm t [] g):wp C0 d none (sQ [oM 33 1,oM 34 2,o 35 (.bin .or (.t 33) (.t 34)),oM 36 3,o 37 (.bin .or (.t 35) (.t 36)),oF 38 0 10,oF 39 1 38,oL 40 39,oN 41 40,o 42 (.bin .shr (.t 37) (.t 41)),o 43 (.bin .neq (.t 42) (.k (.int .u64 0))),oM 44 43,og 45 44 false (.mv (.t 1)),og 46 44 false (.mv (.t 2)),og 47 44 false (.bin .and (.t 45) (.t 46)),og 48 44 false (.bin .neq (.t 47) (.k (.int .u64 0))),o 49 (.pick (.t 44) (.k (.bool true)) (.t 48)),oM 50 49,og 51 50 false (.mv (.t 1)),og 52 50 false (.mv (.t 3)),og 53 50 false (.bin .and (.t 51) (.t 52)),og 54 50 false (.bin .neq (.t 53) (.k (.int .u64 0))),o 55 (.pick (.t 50) (.k (.bool true)) (.t 54)),oM 56 55,og 57 56 false (.mv (.t 2)),og 58 56 false (.mv (.t 3)),og 59 56 false (.bin .and (.t 57) (.t 58)),og 60 56 false (.bin .neq (.t 59) (.k (.int .u64 0))),o 61 (.pick (.t 56) (.k (.bool true)) (.t 60))] (.cond (.t 61) (sQ [oz (.store 1 (.t 8) (.k (.bool false))),oz (.store 1 (.t 9) (qI 2))] (.ret)) (.skip))) Q t [] g:=by
 obtain ⟨h1,h2,h3,h8,h9,h10,-⟩:=ht
 have o1:=eL xs ys hx hy
 have o2:=eL (xs ||| ys) zs (oy hx hy) hz
 have s1:=mZ .i64 (xs ||| ys ||| zs) l (oy (oy hx hy) hz)
 have a1:=eG xs ys hx hy
 have a2:=eG xs zs hx hz
 have a3':=eG ys zs hy hz
 have hB:S.ba l xs ys zs=((!decide ((xs ||| ys ||| zs) / 2 ^ l=0)) || !decide (xs &&& ys=0) || !decide (xs &&& zs=0) || !decide (ys &&& zs=0)):=rfl
 generalize (xs ||| ys ||| zs) / 2 ^ l=A at *
 generalize xs &&& ys=B at *
 generalize xs &&& zs=C at *
 generalize ys &&& zs=D at *
 have dz:∀m:Nat,decide ((m:Int)=0)=decide (m=0):=fun m=>by rw[Bool.eq_iff_iff];simp
 have d1:=dz A
 have d2:=dz B
 have d3:=dz C
 have d4:=dz D
 by_cases c1:A=0
 ·rw[decide_eq_true c1] at d1 hB
  by_cases c2:B=0
  ·rw[decide_eq_true c2] at d2 hB
   by_cases c3:C=0
   ·rw[decide_eq_true c3] at d3 hB
    by_cases c4:D=0
    ·rw[decide_eq_true c4] at d4 hB
     simp only[sz,simprocAttr,h1,h2,h3,h8,h9,h10,k3,hb,o1,o2,s1,a1,a2,a3',d1,d2,d3,d4]
     exact fin _ hB (by simp[St,LDd,sx,h1,h2,h3,h8,h9,h10])
    ·rw[decide_eq_false c4] at d4 hB
     simp only[sz,simprocAttr,h1,h2,h3,h8,h9,h10,k3,hb,o1,o2,s1,a1,a2,a3',d1,d2,d3,d4,k1,k2]
     exact bad _ hB (by simp[sx,h8]) (by simp[sx,h9])
   ·rw[decide_eq_false c3] at d3 hB
    simp only[sz,simprocAttr,h1,h2,h3,h8,h9,h10,k3,hb,o1,o2,s1,a1,a2,a3',d1,d2,d3,k1,k2]
    exact bad _ (by simpa using hB) (by simp[sx,h8]) (by simp[sx,h9])
  ·rw[decide_eq_false c2] at d2 hB
   simp only[sz,simprocAttr,h1,h2,h3,h8,h9,h10,k3,hb,o1,o2,s1,a1,a2,a3',d1,d2,k1,k2]
   exact bad _ (by simpa using hB) (by simp[sx,h8]) (by simp[sx,h9])
 ·rw[decide_eq_false c1] at d1 hB
  simp only[sz,simprocAttr,h1,h2,h3,h8,h9,h10,k3,hb,o1,o2,s1,a1,a2,a3',d1,k1,k2]
  exact bad _ (by simpa using hB) (by simp[sx,h8]) (by simp[sx,h9])
set_option maxRecDepth 20000 in
theorem Ie {d xs ys zs:Nat}{n:Net}{b a3 a4:AV}{Q:QT}{t:T}{g:G}{c:SC}(hx:xs<18446744073709551616)(hy:ys<18446744073709551616)(hz:zs<18446744073709551616)(hn:g.nx=4)
  (ht:St t (LDd xs ys zs)) (k3:g.h.get 3=.cells 4 [[.int .i64 n.grain,b,a3,a4]] 0 false false) (k1:g.h.get 1=.cells 1 [[.bool false]] 0 false false) (k2:g.h.get 2=.cells 1 [[.int .i64 0]] 0 false false)
  (fin:∀t g',g'.nx=10->DpS n xs ys zs b a3 a4 g'->DpM n xs ys zs 5 0 0 g'.h->St t ((12,.hptr 4 0 0 0)::(13,.hptr 9 0 0 0)::LDd xs ys zs)->wp C0 d none c Q t [] g'):wp C0 d none (sQ [oM 62 1,oM 63 2,o 64 (.bin .or (.t 62) (.t 63)),oM 65 3,o 66 (.bin .or (.t 64) (.t 65)),oM 67 3,oM 68 1,oM 69 3,o 70 (.bin .or (.t 68) (.t 69)),oM 71 2,oM 72 3,o 73 (.bin .or (.t 71) (.t 72)),o 74 (.build [.int .u64 0,.int .u64 0,.int .u64 0,.int .u64 0] [(0,1),(1,1),(2,1),(3,1)] [.t 66,.t 67,.t 70,.t 73]),o 12 (.alloc [.int .u64 0,.int .u64 0,.int .u64 0,.int .u64 0]),oz (.store 4 (.t 12) (.t 74))] (sQ [o 75 (.raw (.makeMap 118 none)),o 76 (.raw (.makeMap 118 none)),o 77 (.raw (.makeMap 118 none)),o 78 (.raw (.makeMap 118 none)),o 79 (.build [.nilm,.nilm,.nilm,.nilm] [(0,1),(1,1),(2,1),(3,1)] [.t 75,.t 76,.t 77,.t 78]),o 13 (.alloc [.nilm,.nilm,.nilm,.nilm]),oz (.store 4 (.t 13) (.t 79))] c)) Q t [] g:=by
 obtain ⟨h1,h2,h3,h8,h9,h10,-⟩:=ht
 have o1:=eL xs ys hx hy
 have o2:=eL (xs ||| ys) zs (oy hx hy) hz
 have o3:=eL xs zs hx hz
 have o4:=eL ys zs hy hz
 have b2:∀x y z w:Nat,dH [.nilm,.nilm,.nilm,.nilm] [((0,1),.hmap x),((1,1),.hmap y),((2,1),.hmap z),((3,1),.hmap w)]=some [.hmap x,.hmap y,.hmap z,.hmap w]:=fun _ _ _ _=>rfl
 have hrm:∀(d:Nat) (rd:Option Nat) (t:T) (g:G),(bW C0 (.makeMap 118 none)).run (I C0) d rd t g=.upd (.hmap g.nx) (g.new (.map [])):=fun d rd t g=>FO d rd t g
 have st1:∀(g:G) (i:Nat) (x y z w:Int),hZ (.cells 4 [[.int .u64 0,.int .u64 0,.int .u64 0,.int .u64 0]] 0 false false) g i 0 0 4 0 (.agg [.int .u64 x,.int .u64 y,.int .u64 z,.int .u64 w])=.upd .undef (g.put i (.cells 4 [[.int .u64 x,.int .u64 y,.int .u64 z,.int .u64 w]] 0 false false)):=fun _ _ _ _ _ _=>rfl
 have st2:∀(g:G) (i x y z w:Nat),hZ (.cells 4 [[.nilm,.nilm,.nilm,.nilm]] 0 false false) g i 0 0 4 0 (.agg [.hmap x,.hmap y,.hmap z,.hmap w])=.upd .undef (g.put i (.cells 4 [[.hmap x,.hmap y,.hmap z,.hmap w]] 0 false false)):=fun _ _ _ _ _ _=>rfl
 refine aO (P:=fun t' df g'=>df=[]/\g'.nx=5/\g'.h.get 1=.cells 1 [[.bool false]] 0 false false/\g'.h.get 2=.cells 1 [[.int .i64 0]] 0 false false/\g'.h.get 3=.cells 4 [[.int .i64 n.grain,b,a3,a4]] 0 false false/\g'.h.get 4=.cells 4 [[.int .u64 ((xs ||| ys ||| zs:Nat):Int),.int .u64 (zs:Int),.int .u64 ((xs ||| zs:Nat):Int),.int .u64 ((ys ||| zs:Nat):Int)]] 0 false false/\St t' ((12,.hptr 4 0 0 0)::LDd xs ys zs)) ?_ ?_
 ·simp only[sz,simprocAttr,h1,h2,h3,o1,o2,o3,o4,st1,hn]
  simp[H.get_put,hn,k1,k2,k3,St,LDd,sx,h1,h2,h3,h8,h9,h10]
 clear h1 h2 h3 h8 h9 h10 k1 k2 k3
 rintro t df g1 ⟨rfl,n1,k1,k2,k3,k4,h12,h1,h2,h3,h8,h9,h10,-⟩
 refine aO (P:=fun t' df g'=>df=[]/\g'.nx=10/\DpS n xs ys zs b a3 a4 g'/\DpM n xs ys zs 5 0 0 g'.h/\St t' ((12,.hptr 4 0 0 0)::(13,.hptr 9 0 0 0)::LDd xs ys zs)) ?_ ?_
 ·simp only[sz,simprocAttr,hrm,n1,b2,st2]
  refine ⟨⟨by simp[H.get_put,n1,k1],by simp[H.get_put,n1,k2],by simp[H.get_put,n1,k3],by simp[H.get_put,n1,k4,S.ak],by simp[H.get_put,n1]⟩,⟨fun i hi=>⟨[],?_,fun K=>by simp[mgt,S.aV,S.a9]⟩⟩,by simp[St,LDd,sx,h1,h2,h3,h8,h9,h10,h12]⟩
  have:i=0\/i=1\/i=2\/i=3:=by omega
  rcases this with rfl | rfl | rfl | rfl<;>simp[H.get_put,n1,mcl]
 rintro t df g2 ⟨rfl,n2,hS,hM,ht⟩
 exact fin t g2 n2 hS hM ht
structure DpJ (g0:G) (n:Net) (xs ys zs j:Nat) (h:H):Prop where
 fr:∀i,i<10->(i<5\/9<=i)->h.get i=g0.h.get i
 m:DpM n xs ys zs 5 j 0 h
theorem HT {d xs ys zs:Nat}{n:Net}{y:QnM}{cs:List AV}{b a3 a4 z:AV}{Q:QT}{t:T}{g:G}(hd:0<d)(hr:NR n)(hq:QnOk n y)(hcs:Rp.rp NoP 0 .nil y cs)(hc:Rp.rp NoP 0 .nil y [.int .i64 n.grain,b,a3,a4])(hz':SlR NoP 0 .nil ([]:List Int) z)(hx:xs<18446744073709551616)(hy:ys<18446744073709551616)(hz:zs<18446744073709551616)(hn:g.nx=10)
  (hS:DpS n xs ys zs b a3 a4 g) (hM:DpM n xs ys zs 5 0 0 g.h) (ht:St t ((81,.clo N.ae [] [.tptr 0 4 [cs] 0 0,.tptr 0 1 [[z]] 0 0])::(12,.hptr 4 0 0 0)::(13,.hptr 9 0 0 0)::LDd xs ys zs))
  (fin:∀g',12<=g'.nx->g'.h.get 10=.dfr true->DpS n xs ys zs b a3 a4 g'->DpM n xs ys zs 5 (S.am n) 0 g'.h->Q .norm t [.mark 10] g'):wp C0 d none (.rng 146 (.t 81) [82] gF gf) Q t [] g:=by
 obtain ⟨h81,h12,h13,h1,h2,h3,h8,h9,h10,-⟩:=ht
 obtain ⟨W1,W2,W3⟩:=hr.wl
 refine wR (n:=n) (y:=y) (e:=[]) (cs:=cs) (w:=z) hd hr hq hcs hz' (by simp) h81 (by decide)
  (fun j h=>DpJ g n xs ys zs j h) (fun _=>False) (fun j h h' hh hg=>⟨fun i h1 h2=>by rw[hh i (by omega),hg.fr i h1 h2],hg.m.cong fun i hi=>hh _ (by omega)⟩) (fun _ _ _ h=>h) ⟨fun _ _ _=>rfl,hM⟩ ?_ ?_ ?_ (fun _ h=>h.elim)
 ·intro j h hj hmt hg
  simp[S.jm] at hmt
 ·intro j u g2 hj hmt hg hn2 hu
  simp only[sz,simprocAttr,gF]
  refine ⟨Cs _ _ _,?_⟩
  intro g3 n3 f3
  obtain ⟨r,hre⟩:∃r,r=g2.nx:=⟨_,rfl⟩
  rw[<-hre]
  have jo:∀i,i<g.nx->g3.h.get i=g2.h.get i:=fun i hi=>by rw[f3 i (by omega),if_neg (by omega),if_neg (by omega)]
  have j14:g3.h.get r=.cells 3 [[.int .i64 (j:Int),.int .i64 (S.wt n j),u]] 0 false false:=by rw[f3 _ (by omega),if_pos hre];rfl
  have j3:g3.h.get 3=.cells 4 [[.int .i64 n.grain,b,a3,a4]] 0 false false:=by rw[jo 3 (by omega),hg.fr 3 (by omega) (by omega),hS.h3]
  have j4:=hS.h4
  rw[<-hg.fr 4 (by omega) (by omega),<-jo 4 (by omega)] at j4
  have j9:g3.h.get 9=.cells 4 [[.hmap 5,.hmap (5+1),.hmap (5+2),.hmap (5+3)]] 0 false false:=by rw[jo 9 (by omega),hg.fr 9 (by omega) (by omega),hS.h9]
  have hu3:SlR (fun i=>12<=i/\i<g3.nx) 0 g3.h (S.ah (S.aa n) (j:Int)) u:=hu.wd fun i hi=>⟨⟨by omega,by omega⟩,by rw[f3 i (by omega),if_neg (by omega),if_neg (by omega)]⟩
  have hn3:r<g3.nx:=by omega
  have l4:∀x y z w:Int,cJ (.cells 4 [[.int .u64 x,.int .u64 y,.int .u64 z,.int .u64 w]] 0 false false) 0 0 true 4 0=.val (.agg [.int .u64 x,.int .u64 y,.int .u64 z,.int .u64 w]):=fun _ _ _ _=>rfl
  unfold gf
  rw[iT]
  refine aO (P:=fun t' df g'=>df=[]/\g'=g3/\St t' (LDm xs ys zs 9 3 r)/\tat t' 84=.int .i64 0) ?_ ?_
  ·simp only[sz,simprocAttr,h12,j4,l4]
   simp[St,LDm,vK,sx,h10,h13]
  rintro t df g4 ⟨rfl,rfl,ht,h84⟩
  simp only[iT,k_]
  refine In (lo:=12) (p:=9) (q:=3) (r:=r) (mb:=5) (j:=j) (n:=n) (y:=y) (b:=b) (fl:=a3) (S_:=a4) (u:=u) hd hr hx hy hz (by omega) hc hq hu3 (by omega) (by omega) (by omega) (by omega) j9 j3 j14 (hg.m.cong fun i hi=>jo _ (by omega)) ht h84 ?_
  intro t g5 hK hM5
  simp only[dK,if_true]
  refine ⟨rfl,hK.nx,fun i h1 h2=>hK.fr i (by omega) h2,.inl ⟨rfl,fun i h1 h2=>?_,hM5.next⟩⟩
  rw[hK.fr i (by omega) (by omega),jo i (by omega),hg.fr i h1 h2]
 ·intro g' hg hn' hdf
  rw[hn] at hdf ⊢
  refine fin g' (by omega) hdf ⟨?_,?_,?_,?_,?_⟩ hg.m
  ·rw[hg.fr 1 (by omega) (by omega),hS.h1]
  ·rw[hg.fr 2 (by omega) (by omega),hS.h2]
  ·rw[hg.fr 3 (by omega) (by omega),hS.h3]
  ·rw[hg.fr 4 (by omega) (by omega),hS.h4]
  ·rw[hg.fr 9 (by omega) (by omega),hS.h9]
theorem Ib {d xs ys zs:Nat}{n:Net}{y:QnM}{cs:List AV}{b a3 a4 z:AV}{Q:QT}{t:T}{g:G}(hd:0<d)(hr:NR n)(hq:QnOk n y)(hcs:Rp.rp NoP 0 .nil y cs)(hc:Rp.rp NoP 0 .nil y [.int .i64 n.grain,b,a3,a4])(hz':SlR NoP 0 .nil ([]:List Int) z)(hx:xs<18446744073709551616)(hy:ys<18446744073709551616)(hz:zs<18446744073709551616)(hn:12<=g.nx)
  (hS:DpS n xs ys zs b a3 a4 g) (hM:DpM n xs ys zs 5 (S.am n) 0 g.h) (ht:St t ((102,.clo N.ae [] [.tptr 0 4 [cs] 0 0,.tptr 0 1 [[z]] 0 0])::(12,.hptr 4 0 0 0)::(13,.hptr 9 0 0 0)::LDd xs ys zs)) (hdf:g.h.get 10=.dfr true)
  (fin:∀g',S.bc n xs ys zs=false->g'.h.get g.nx=.dfr true->g'.h.get 10=.dfr true->g'.h.get 1=.cells 1 [[.bool false]] 0 false false->g'.h.get 2=.cells 1 [[.int .i64 0]] 0 false false->Q .norm t [.mark g.nx,.mark 10] g')
  (bad:∀g',S.bc n xs ys zs=true->g'.h.get g.nx=.dfr true->g'.h.get 10=.dfr true->g'.h.get 1=.cells 1 [[.bool true]] 0 false false->g'.h.get 2=.cells 1 [[.int .i64 0]] 0 false false->Q .ret t [.mark g.nx,.mark 10] g'):wp C0 d none (.rng 146 (.t 102) [103] f_ fZ) Q t [.mark 10] g:=by
 obtain ⟨h102,h12,h13,h1,h2,h3,h8,h9,h10,-⟩:=ht
 obtain ⟨W1,W2,W3⟩:=hr.wl
 refine wR (n:=n) (y:=y) (e:=[]) (cs:=cs) (w:=z) hd hr hq hcs hz' (by simp) h102 (by decide)
  (fun j h=>(∀i,i<g.nx->h.get i=g.h.get i)/\∀w,w<j->S.aR n xs ys zs w=false)
  (fun h=>h.get 10=.dfr true/\h.get 1=.cells 1 [[.bool true]] 0 false false/\h.get 2=.cells 1 [[.int .i64 0]] 0 false false/\S.bc n xs ys zs=true) (fun j h h' hh hg=>⟨fun i h1=>by rw[hh i h1,hg.1 i h1],hg.2⟩) (fun h h' hh hg=>⟨by rw[hh 10 (by omega)];exact hg.1,by rw[hh 1 (by omega)];exact hg.2.1,by rw[hh 2 (by omega)];exact hg.2.2.1,hg.2.2.2⟩) ⟨fun _ _=>rfl,fun w hw=>by omega⟩ ?_ ?_ ?_ ?_
 ·intro j h hj hmt hg
  simp[S.jm] at hmt
 ·intro j u g2 hj hmt hg hn2 hu
  simp only[sz,simprocAttr,f_]
  refine ⟨Cs _ _ _,?_⟩
  intro g3 n3 f3
  obtain ⟨r,hre⟩:∃r,r=g2.nx:=⟨_,rfl⟩
  rw[<-hre]
  have jo:∀i,i<g.nx->g3.h.get i=g.h.get i:=fun i hi=>by rw[f3 i (by omega),if_neg (by omega),if_neg (by omega),hg.1 i hi]
  have j17:g3.h.get r=.cells 3 [[.int .i64 (j:Int),.int .i64 (S.wt n j),u]] 0 false false:=by rw[f3 _ (by omega),if_pos hre];rfl
  have hu3:SlR (fun i=>12<=i/\i<g3.nx) 0 g3.h (S.ah (S.aa n) (j:Int)) u:=hu.wd fun i hi=>⟨⟨by omega,by omega⟩,by rw[f3 i (by omega),if_neg (by omega),if_neg (by omega)]⟩
  have hn3:r<g3.nx:=by omega
  have j4:=hS.h4
  rw[<-jo 4 (by omega)] at j4
  have l4:∀x y z w:Int,cJ (.cells 4 [[.int .u64 x,.int .u64 y,.int .u64 z,.int .u64 w]] 0 false false) 0 0 true 4 0=.val (.agg [.int .u64 x,.int .u64 y,.int .u64 z,.int .u64 w]):=fun _ _ _ _=>rfl
  obtain ⟨v,hv⟩:∃v,v=g3.nx:=⟨_,rfl⟩
  unfold fZ
  rw[iT]
  refine aO (P:=fun t' df g'=>df=[]/\g'.nx=v+1/\g'.h.get v=.cells 4 [dj lI (md n xs ys zs j 0)] 0 false false/\(∀i,i<v->g'.h.get i=g3.h.get i)/\St t' [(18,.hptr v 0 0 0),(17,.hptr r 0 0 0),(10,.hptr 3 0 0 0),(12,.hptr 4 0 0 0),(13,.hptr 9 0 0 0),(8,.hptr 1 0 0 0),(9,.hptr 2 0 0 0)]) ?_ ?_
  ·simp only[sz,simprocAttr]
   refine ⟨hv.symm,by rw[hv];simp[H.get_put,dj,lI,md],fun i hi=>by simp[H.get_put,show ¬i=g3.nx by omega],by simp[St,sx,h12,h13,h8,h9,h10,hv]⟩
  clear h102 h12 h13 h1 h2 h3 h8 h9 h10
  rintro t df g4 ⟨rfl,n4,k18,f4,h18,h17,h10,h12,h13,h8,h9,-⟩
  have k4:=j4
  rw[<-f4 4 (by omega)] at k4
  refine dk (P:=fun t' df g'=>df=[]/\g'.h.get v=.cells 4 [dj lI (md n xs ys zs j 4)] 0 false false/\(∀i,i<v->g'.h.get i=g3.h.get i)/\v<g'.nx/\St t' [(18,.hptr v 0 0 0),(8,.hptr 1 0 0 0),(9,.hptr 2 0 0 0)]) ?_ ?_
  ·refine aO (P:=fun t' df g'=>df=[]/\g'=g4/\St t' (LDn xs ys zs 9 3 r v)/\tat t' 105=.int .i64 0) ?_ ?_
   ·simp only[sz,simprocAttr,h12,k4,l4]
    simp[St,LDn,vK,sx,h10,h13,h17,h18,h8,h9]
   clear h18 h17 h10 h12 h13 h8 h9
   rintro t df g5 ⟨rfl,rfl,ht,h105⟩
   simp only[iT,k_]
   refine Iy (lo:=12) (p:=9) (q:=3) (r:=r) (v:=v) (mb:=5) (w:=j) (n:=n) (y:=y) (b:=b) (fl:=a3) (S_:=a4) (u:=u) hd hr hx hy hz hc hq (hu3.wd fun i hi=>⟨⟨hi.1,by omega⟩,f4 i (by omega)⟩) (by omega) (by omega) (by omega) (by omega) (by omega) (by rw[f4 9 (by omega),jo 9 (by omega),hS.h9]) (by rw[f4 3 (by omega),jo 3 (by omega),hS.h3]) (by rw[f4 r (by omega),j17]) (hM.cong fun i hi=>by rw[f4 _ (by omega),jo _ (by omega)]) k18 ht h105 ?_
   rintro t g6 ⟨h10,h13,h17,h18,h104,h8,h9,-⟩ hn6 hf6 kv
   simp only[dK,if_true]
   exact ⟨trivial,trivial,kv,fun i hi=>by rw[hf6 i (by omega) (by omega),f4 i hi],by omega,h18,h8,h9,trivial⟩
  ·rintro t df g6 ⟨rfl,kv,f6,n6,ht⟩
   have e1:g6.h.get 1=.cells 1 [[.bool false]] 0 false false:=by rw[f6 1 (by omega),jo 1 (by omega),hS.h1]
   have e2:g6.h.get 2=.cells 1 [[.int .i64 0]] 0 false false:=by rw[f6 2 (by omega),jo 2 (by omega),hS.h2]
   have e10:g6.h.get 10=.dfr true:=by rw[f6 10 (by omega),jo 10 (by omega),hdf]
   refine H0 (v:=v) (w:=j) hd hr kv ht e1 e2 ?_ ?_
   ·intro t hD
    refine ⟨rfl,by simp;omega,fun i a1 a2=>by simp[H.get_put,show ¬i=1 by omega,show ¬i=2 by omega];rw[f6 i (by omega)],.inr ⟨rfl,?_,?_,?_,?_⟩⟩
    ·simp[H.get_put,e10]
    ·simp[H.get_put]
    ·simp[H.get_put]
    ·rw[S.bc,List.any_eq_true];exact ⟨j,by simp[hj],hD⟩
   ·intro t hD
    refine ⟨rfl,by omega,fun i a1 a2=>f6 i (by omega),.inl ⟨rfl,fun i hi=>by rw[f6 i (by omega),jo i hi],fun w hw=>?_⟩⟩
    by_cases e:w=j
    ·rw[e];exact hD
    ·exact hg.2 w (by omega)
 ·intro g' hg hn' hdf'
  refine fin g' ?_ hdf' (by rw[hg.1 10 (by omega),hdf]) (by rw[hg.1 1 (by omega),hS.h1]) (by rw[hg.1 2 (by omega),hS.h2])
  rw[S.bc,List.any_eq_false]
  intro w hw
  rw[hg.2 w (by simpa using hw)];simp
 ·rintro g' ⟨e10,e1,e2,hD⟩ hn' hdf'
  exact bad g' hD hdf' e10 e1 e2
theorem Bd {d xs ys zs:Nat}{g:G}{v:AV}{n:Net}(hd:0<d)(hm:Agg n NoP 0 g.h v)(hx:xs<18446744073709551616)(hy:ys<18446744073709551616)(hz:zs<18446744073709551616) :
  au C0 d N.an [v,.int .u64 (xs:Int),.int .u64 (ys:Int),.int .u64 (zs:Int)] g=.val (.tup [.bool (S.aN n xs ys zs),.int .i64 (S.aH n xs ys zs)]):=by
 have key:∃r,au C0 d N.an [v,.int .u64 (xs:Int),.int .u64 (ys:Int),.int .u64 (zs:Int)] g=.val r/\xi (One (S.aN n xs ys zs)) (One (S.aH n xs ys zs)) NoP 0 .nil r:=by
  obtain ⟨b,rows,rfl,e1,hm',hN,r1,r2,r3,r4⟩:=eS d hm
  rw[qW]
  refine bz tj (xs:=[.agg [.int .i64 n.grain,b],.int .u64 (xs:Int),.int .u64 (ys:Int),.int .u64 (zs:Int)]) (by simp only[aE,e1,co 0]) (by simp[jy]) (jH (m:=1) (bo _) (bo _) (by decide) (by decide)) (by decide) hd ?_
  simp only[jy]
  obtain ⟨Qf,hQf⟩:∃Qf,Qf=fnQ C0 (d+1) [SR.cell false 1 8,SR.cell false 1 9] (fun v g'=>∃P,xi (One (S.aN n xs ys zs)) (One (S.aH n xs ys zs)) P 0 g'.h v):=⟨_,rfl⟩
  rw[<-hQf]
  refine aO (P:=fun t' df g'=>df=[]/\g'.nx=3/\g'.h.get 0=.cells 2 [[.int .i64 n.grain,b]] 0 false false/\g'.h.get 1=.cells 1 [[.bool false]] 0 false false/\g'.h.get 2=.cells 1 [[.int .i64 0]] 0 false false/\St t' [(1,.int .u64 (xs:Int)),(2,.int .u64 (ys:Int)),(3,.int .u64 (zs:Int)),(4,.hptr 0 0 0 0),(8,.hptr 1 0 0 0),(9,.hptr 2 0 0 0)]) ?_ ?_
  ·simp only[sz,simprocAttr]
   simp[St,sx,H.get_put]
  rintro t df g0 ⟨rfl,n0,f0,f1,f2,h1,h2,h3,h4,h8,h9,-⟩
  unfold mS
  obtain ⟨va,ea,hva⟩:=H3 (d:=d+1) (g:=g0) (w:=.nils) (P:=NoP) (kk:=0) (n:=n) (ls:=[]) (Nat.succ_pos d) (hm' _) ⟨by show 0<9223372036854775808;decide,rfl⟩
  obtain ⟨y,cs,rfl,hy',hc,a1,a2,a3,a4,rfl⟩:=Am hva
  cases hnr:S.aw n with
  | false =>
   have hE:S.aH n xs ys zs=50:=by rw[S.aH,hnr];rfl
   have hV:S.aN n xs ys zs=false:=by rw[S.aN,hE];rfl
   have hL:S.aW n []=50:=by rw[S.aW,hnr];rfl
   rw[hL] at ea
   simp only[sz,simprocAttr,h1,h2,h3,h4,h8,h9,f0,ea,n0,f1,f2,hQf]
   rw[hE,hV]
   exact ⟨fun _=>True,_,_,rfl,e_.2 rfl,a_.2 rfl⟩
  | true =>
   have hr:=fw.1 hnr
   have hL:S.aW n []=0:=by rw[S.aW,hnr];rfl
   have hyo:=hy' hL
   rw[hL] at ea
   obtain ⟨b',b2,b3,ecs,hb',hb2,hb3⟩:=rh.1 hc
   injection ecs with ec1 ecs
   injection ecs with ec2 ecs
   rw[hyo.net] at ec1 hb'
   subst ec1 ec2
   have hN':SlR NoP 0 .nil n.nodes a2:=hb'.tree (Nat.le_refl 0)
   refine aO (P:=fun t' df g'=>df=[]/\g'.nx=4/\g'.h.get 1=.cells 1 [[.bool false]] 0 false false/\g'.h.get 2=.cells 1 [[.int .i64 0]] 0 false false/\g'.h.get 3=.cells 4 [[.int .i64 n.grain,a2,a3,a4]] 0 false false/\tat t' 11=.int .i64 0/\St t' (LDd xs ys zs)) ?_ ?_
   ·simp only[sz,simprocAttr,h4,f0,ea]
    simp[St,LDd,sx,H.get_put,h1,h2,h3,h8,h9,n0,f1,f2]
   clear h1 h2 h3 h4 h8 h9
   rintro t df g1 ⟨rfl,n1,k1,k2,k3,h11,ht⟩
   refine dk (P:=fun t' df g'=>df=[]/\g'=g1/\St t' (LDd xs ys zs)) ?_ ?_
   ·obtain ⟨h1,h2,h3,h8,h9,h10,-⟩:=ht
    simp only[sz,simprocAttr,h11]
    simp[St,LDd,sx,h1,h2,h3,h8,h9,h10]
   clear ht
   rintro t df g2 ⟨rfl,rfl,ht⟩
   rw[cN]
   refine Gv (l:=n.nodes.length) hx hy hz (hN'.len) ht k3 k1 k2 ?_ ?_
   ·intro t hB h8 h9
    have hE:S.aH n xs ys zs=2:=by rw[S.aH,hnr,hB];rfl
    have hV:S.aN n xs ys zs=false:=by rw[S.aN,hE];rfl
    simp only[sz,simprocAttr,hQf,h8,h9]
    rw[hE,hV]
    exact ⟨fun _=>True,_,_,rfl,e_.2 rfl,a_.2 rfl⟩
   intro t hB ht
   have hE:S.aH n xs ys zs=0:=by rw[S.aH,hnr,hB];rfl
   have hV:S.aN n xs ys zs=S.bc n xs ys zs:=by rw[S.aN,hE];rfl
   rw[pi]
   refine Ie hx hy hz n1 ht k3 k1 k2 ?_
   clear ht
   intro t g3 n3 hS hM ht
   have hnil:∀h,SlR NoP 0 h ([]:List Int) .nils:=fun h=>⟨by show 0<9223372036854775808;decide,rfl⟩
   rw[cN,cN]
   obtain ⟨cs',z',ez,hcs',hz'⟩:=sR (d:=d+1) (g:=g3) (y:=y) (e:=[]) (v:=.agg [.int .i64 n.grain,a2,a3,a4]) (w:=.nils) (Nat.succ_pos d) ⟨_,rfl,Rp.tree hc (Nat.le_refl 0)⟩ (hnil _)
   obtain ⟨h12,h13,h1,h2,h3,h8,h9,h10,-⟩:=ht
   have s3:=hS.h3
   simp only[sz,simprocAttr,h10,s3,ez]
   refine HT (y:=y) (n:=n) (b:=a2) (a3:=a3) (a4:=a4) (Nat.succ_pos d) hr hyo hcs' hc hz' hx hy hz n3 hS hM (by simp[St,LDd,sx,h12,h13,h1,h2,h3,h8,h9,h10]) ?_
   clear hS hM s3 ez
   intro g4 n4 d4 hS hM
   obtain ⟨cs',z',ez,hcs',hz'⟩:=sR (d:=d+1) (g:=g4) (y:=y) (e:=[]) (v:=.agg [.int .i64 n.grain,a2,a3,a4]) (w:=.nils) (Nat.succ_pos d) ⟨_,rfl,Rp.tree hc (Nat.le_refl 0)⟩ (hnil _)
   have s3:=hS.h3
   simp only[sz,simprocAttr,lf,h10,s3,ez]
   refine Ib (y:=y) (n:=n) (b:=a2) (a3:=a3) (a4:=a4) (Nat.succ_pos d) hr hyo hcs' hc hz' hx hy hz n4 hS hM (by simp[St,LDd,sx,h12,h13,h1,h2,h3,h8,h9,h10]) d4 ?_ ?_
   ·intro g5 hD m1 m2 r1 r2
    simp only[sz,simprocAttr,kz,h8,h9,r1,r2,hQf]
    refine tF (by simp[H.get_put,show ¬g4.nx=2 by omega,show ¬g4.nx=1 by omega,m1]) (by simp[H.get_put,m2]) (by omega) ?_
    simp only[sx,sy,↓reduceIte,Nat.reduceEqDiff,h8,h9,show ¬1=g4.nx by omega,show ¬2=g4.nx by omega]
    rw[hE,hV,hD]
    exact ⟨fun _=>True,_,_,rfl,e_.2 rfl,a_.2 rfl⟩
   ·intro g5 hD m1 m2 r1 r2
    simp only[sz,simprocAttr,hQf]
    refine tF m1 m2 (by omega) ?_
    simp only[sx,sy,↓reduceIte,Nat.reduceEqDiff,h8,h9,show ¬1=g4.nx by omega,show ¬2=g4.nx by omega,r1,r2]
    rw[hE,hV,hD]
    exact ⟨fun _=>True,_,_,rfl,e_.2 rfl,a_.2 rfl⟩
 obtain ⟨r,hr,a,c,rfl,ha,hc⟩:=key
 have ha:=e_.1 ha
 injection ha with ha
 have hc:=a_.1 hc
 injection hc with hc
 rw[hr,ha,hc]
theorem FV (f:Nat->Bool)(j:Nat):(List.range (j+1)).any f=((List.range j).any f || f j):=by
 rw[List.range_succ,List.any_append];simp
theorem EF {f:Nat->Bool}{j m:Nat}(h:j<m)(hf:f j=true):(List.range m).any f=true :=
 List.any_eq_true.2 ⟨j,List.mem_range.2 h,hf⟩
theorem GE {d xs ys zs:Nat}{n:Net}{U V:AV}{Q:QT}{t:T}{gL:G}(hd:0<d)(hr:NR n)(hx:xs<18446744073709551616)(hy:ys<18446744073709551616)(hz:zs<18446744073709551616)
  (hL:DpL n U V gL) (ht:St t (LDs U V xs ys zs)) (h12:tat t 12=.int .i64 0)
  (bad:∀t g,S.bc n xs ys zs=true->tat t 8=.bool true->Q .ret t [] g)
  (fin:∀t g,S.bc n xs ys zs=false->Q (.exit 2) t [] g):wpL (wp C0 d none gw) Q t [] gL:=by
 obtain ⟨W1,W2,W3⟩:=hr.wl
 have hbd:∀a b c e:Int,tM [.int .u64 0,.int .u64 0,.int .u64 0,.int .u64 0] [(0,1),(1,1),(2,1),(3,1)] [.int .u64 a,.int .u64 b,.int .u64 c,.int .u64 e]=.val (.agg [.int .u64 a,.int .u64 b,.int .u64 c,.int .u64 e]):=fun a b c e=>rfl
 have oxy:xs ||| ys<18446744073709551616:=Nat.or_lt_two_pow (n:=64) hx hy
 have b1:=eL xs ys hx hy
 have b2:=eL (xs ||| ys) zs oxy hz
 have b3:=eL xs zs hx hz
 have b4:=eL ys zs hy hz
 simp only[gw,kX]
 refine bi (S.am n) (by omega) (fun w t df g=>df=[]/\St t (LDs U V xs ys zs)/\Fr gL g/\(List.range w).any (S.aR n xs ys zs)=false) ⟨rfl,ht,Fr.refl _,rfl⟩ h12 (by decide) (by rintro j t df g v s (rfl | rfl | rfl)<;>simp[St,LDs,sx]) ?_ ?_ ?_
 ·rintro w t df g hw ⟨rfl,⟨h9,h10,h1,h2,h3,-⟩,hf,hA⟩ h12
  obtain ⟨rows,zu,r1,-,-,-,-,r6⟩:=(hL.step hf).at (u:=0) (by omega)
  have lU:eO .slice U g=.val (.int .i64 (S.am n:Int)):=by rw[bJ r1,r6]
  simp only[sz,simprocAttr,h12,h9,lU]
  exact ⟨by simp[St,LDs,sx,h9,h10,h1,h2,h3],hf,hA⟩
 ·rintro w t df g hw ⟨rfl,⟨h9,h10,h1,h2,h3,-⟩,hf,hA⟩ h12
  obtain ⟨p,hp⟩:∃p,p=g.nx:=⟨_,rfl⟩
  have hgn:=hf.1
  refine aO (P:=fun t' df g'=>df=[]/\g'.nx=p+1/\(∀i,i<p->g'.h.get i=g.h.get i)/\St t' ((13,.hptr p 0 0 0)::(12,.int .i64 (w:Int))::LDs U V xs ys zs)/\g'.h.get p=.cells 4 [dj j8 fun i=>S.aC n xs ys zs w i 0] 0 false false) ?_ ?_
  ·simp only[sz,simprocAttr]
   refine ⟨by simp[hp],fun i hi=>by simp[H.get_put,show ¬i=g.nx by omega],by simp[St,LDs,sx,h9,h10,h1,h2,h3,h12,hp],by simp[hp];rfl⟩
  clear h9 h10 h1 h2 h3 h12
  rintro t1 df g1 ⟨rfl,n1,f1,⟨h13,h12,h9,h10,h1,h2,h3,-⟩,k13⟩
  refine aO (P:=fun t' df g'=>df=[]/\g'.nx=p+2/\(∀i,i<p+1->g'.h.get i=g1.h.get i)/\St t' ((13,.hptr p 0 0 0)::(14,.hptr (p+1) 0 0 0)::(12,.int .i64 (w:Int))::LDs U V xs ys zs)/\g'.h.get (p+1)=.cells 4 [dj lI fun i=>(((S.ak xs ys zs)[i]?.getD 0:Nat):Int)] 0 false false) ?_ ?_
  ·simp only[sz,simprocAttr,h1,h2,h3,b1,b2,b3,b4,hbd]
   refine ⟨by simp[n1],fun i hi=>by simp[H.get_put,n1,show ¬i=p+1 by omega],by simp[St,LDs,sx,h9,h10,h1,h2,h3,h12,h13,n1],by simp[n1];rfl⟩
  clear h9 h10 h1 h2 h3 h12 h13
  rintro t2 df g2 ⟨rfl,n2,f2,⟨h13,h14,h12,h9,h10,h1,h2,h3,-⟩,k14⟩
  have hf2:Fr gL g2:=⟨by omega,fun i hi=>by rw[f2 i (by omega),f1 i (by omega),hf.2 i hi]⟩
  have k13':g2.h.get p=.cells 4 [dj j8 fun i=>S.aC n xs ys zs w i 0] 0 false false:=by rw[f2 p (by omega),k13]
  refine dk (P:=fun t' df g'=>df=[]/\Fr gL g'/\g'.h.get p=.cells 4 [dj j8 fun i=>S.aC n xs ys zs w i (S.am n)] 0 false false/\St t' ((13,.hptr p 0 0 0)::(12,.int .i64 (w:Int))::LDs U V xs ys zs)) ?_ ?_
  ·refine aO (P:=fun t' df g'=>df=[]/\g'=g2/\St t' (LDw U V xs ys zs w p (p+1))/\tat t' 15=.int .i64 0) ?_ ?_
   ·simp only[sz,simprocAttr]
    simp[St,LDw,sx,h9,h10,h12,h13,h14,h1,h2,h3]
   rintro t df g' ⟨rfl,rfl,ht,h15⟩
   simp only[iT,k_]
   refine Gf (w:=w) (p:=p) (q:=p+1) (U:=U) (V:=V) hd hr hx hy hz hw hL hf2 (by omega) (by omega) (by omega) k13' k14 ht h15 ?_
   rintro t g4 ⟨h9,h10,h12,h13,h14,h1,h2,h3,-⟩ hf4 k4
   simp only[dK,if_true]
   exact ⟨trivial,trivial,hf4,k4,h13,h12,h9,h10,h1,h2,h3,trivial⟩
  clear h9 h10 h1 h2 h3 h12 h13 h14
  rintro t3 df g3 ⟨rfl,hf3,k3,ht3⟩
  refine Gr hd hr k3 ht3 (fun t h h8=>?_) (fun t h ht=>?_)
  ·exact bad _ _ (EF hw h) h8
  ·obtain ⟨h12,hrest⟩:=ht
   exact ⟨⟨rfl,hrest,hf3,by rw[FV,hA,h];rfl⟩,h12⟩
 ·rintro t df g ⟨rfl,ht,hf,hA⟩
  exact fin t g hA
def K1:Nat->Prop:=fun k=>k<=1
theorem AP {d xs ys zs:Nat}{g:G}{v:AV}{n:Net}(hd:0<d)(hm:Agg n NoP 0 g.h v)(hr:NR n)(hx:xs<18446744073709551616)(hy:ys<18446744073709551616)(hz:zs<18446744073709551616) :
  au C0 d N.aA [v,.int .u64 (xs:Int),.int .u64 (ys:Int),.int .u64 (zs:Int)] g=.val (.bool (S.bc n xs ys zs)):=by
 obtain ⟨b,rows,rfl,e1,hm',hN,r1,r2,r3,r4⟩:=eS d hm
 obtain ⟨W1,W2,W3⟩:=hr.wl
 rw[qO]
 refine d8 tb (xs:=[.agg [.int .i64 n.grain,b],.int .u64 (xs:Int),.int .u64 (ys:Int),.int .u64 (zs:Int)]) (by simp only[aE,e1,co 0]) (by simp[jU]) hd ?_
 have kW:∀g,au C0 (d+1) N.aD [.agg [.int .i64 n.grain,b]] g=.val (.int .i64 (S.am n:Int)):=fun g=>Au (P:=NoP) (k:=0) (Nat.succ_pos d) (hm' g.h) hr
 simp only[sz,simprocAttr,jU,mO,kM]
 refine bi (S.am n) (by omega) (fun w t df g=>df=[]/\g.h.get 0=.cells 2 [[.int .i64 n.grain,b]] 0 false false/\St t [(1,.int .u64 (xs:Int)),(2,.int .u64 (ys:Int)),(3,.int .u64 (zs:Int)),(4,.hptr 0 0 0 0)]/\∃V E rows,Hp g 1 K1 V E/\tat t 9=V 0/\tat t 10=V 1/\E 0=.sl 1 rows/\All2 (Rp.rp NoP 0 .nil) ((List.range w).map fun w:Nat=>S.ah (S.aa n) (w:Int)) rows/\E 1=.sl 1 ((List.range w).map fun w:Nat=>[AV.int .i64 (S.aG n (S.ah (S.aa n) (w:Int)))])) ⟨rfl,by simp[sx],by simp[St,sx],fun _=>.nils,fun _=>.sl 1 [],[],⟨fun k hk=>.inl ⟨rfl,rfl⟩,fun k l _ _ _ id h=>by (cases h),by simp[sx]⟩,by simp[sx],by simp[sx],rfl,trivial,rfl⟩ (by simp[sx]) (by decide) (by rintro j t df g v s (rfl | rfl | rfl)<;>simp[St,sx]) ?_ ?_ ?_
 ·rintro w t df g hw ⟨rfl,g0,⟨h1,h2,h3,h4,-⟩,V,E,rows,hH,h9,h10,e0,ha,e1⟩ h11
  simp only[sz,simprocAttr,h11,h4,g0,kW]
  exact ⟨by simp[St,sx,h1,h2,h3,h4],V,E,rows,hH,h9,h10,e0,ha,e1⟩
 ·rintro w t df g hw ⟨rfl,g0,⟨h1,h2,h3,h4,-⟩,V,E,rows,hH,h9,h10,e0,ha,e1⟩ h11
  have hb1:=hH.nx
  refine aO (P:=fun t' df g'=>df=[]/\g'.h.get 0=.cells 2 [[.int .i64 n.grain,b]] 0 false false/\St t' [(1,.int .u64 (xs:Int)),(2,.int .u64 (ys:Int)),(3,.int .u64 (zs:Int)),(4,.hptr 0 0 0 0),(11,.int .i64 (w:Int))]/\∃V E rows,Hp g' 1 K1 V E/\tat t' 9=V 0/\tat t' 10=V 1/\E 0=.sl 1 rows/\All2 (Rp.rp NoP 0 .nil) ((List.range (w+1)).map fun w:Nat=>S.ah (S.aa n) (w:Int)) rows/\E 1=.sl 1 ((List.range w).map fun w:Nat=>[AV.int .i64 (S.aG n (S.ah (S.aa n) (w:Int)))])) ?_ ?_
  ·have hlr:=ha.len
   rw[List.length_map,List.length_range] at hlr
   simp only[sz,simprocAttr,h4,h9,h11,g0]
   refine dT (vd (w:=w) (Nat.succ_pos d) (hm' _) hr (by omega)) fun z hz=>?_
   have hzs:SlR NoP 0 .nil (S.ah (S.aa n) (w:Int)) z:=hz.sl .nil
   simp only[sz,simprocAttr,hzs.cell.1,hzs.cell.2]
   refine (hH.step (g':=_) (by simp) (fun i hi hi2=>?_)).app (k:=0) (by simp[K1]) e0 (new:=[[z]]) (by simp[sx,sy]) (by simp[aU];omega) fun v1 g1 hH1 n1 fb1 fo1 _ vc vt=>?_
   ·simp[H.get_put];omega
   simp only[sz,simprocAttr]
   refine ⟨by rw[fb1 0 (by omega)];simp[H.get_put,show ¬0=g.nx by omega,g0],by simp[St,sx,h1,h2,h3,h4,h11],_,_,_,hH1,(ah _ _ _).symm,?_,ah _ _ _,?_,by rw[ac _ _ (by simp)];exact e1⟩
   ·rw[ac _ _ (by simp)];exact h10
   ·rw[List.range_succ,List.map_append]
    exact All2.append ha ⟨⟨z,rfl,hzs⟩,trivial⟩
  clear h1 h2 h3 h4 h9 h10 h11 hH ha e0 e1 g0 hb1
  rintro t df g2 ⟨rfl,g0,⟨h1,h2,h3,h4,h11,-⟩,V,E,rows,hH,h9,h10,e0,ha,e1⟩
  have hb1:=hH.nx
  have kw:∀g,au C0 (d+1) N.aC [.agg [.int .i64 n.grain,b],.int .i64 (w:Int)] g=.val (.int .i64 (S.aG n (S.ah (S.aa n) (w:Int)))):=fun g=>A7 (Nat.succ_pos d) (hm' _) hr (by omega)
  simp only[sz,simprocAttr,h4,h10,h11,g0,kw]
  refine (hH.step (g':=_) (by simp) (fun i hi hi2=>?_)).app (k:=1) (by simp[K1]) e1 (new:=[[AV.int .i64 (S.aG n (S.ah (S.aa n) (w:Int)))]]) (by simp[sx,sy]) (by simp[aU];omega) fun v1 g1 hH1 n1 fb1 fo1 _ vc vt=>?_
  ·simp[H.get_put];omega
  simp only[sz,simprocAttr]
  refine ⟨⟨by rw[fb1 0 (by omega)];simp[H.get_put,show ¬0=g2.nx by omega,g0],by simp[St,sx,h1,h2,h3,h4],_,_,rows,hH1,?_,(ah _ _ _).symm,by rw[ac _ _ (by simp)];exact e0,ha,?_⟩,h11⟩
  ·rw[ac _ _ (by simp)];exact h9
  ·rw[ah,List.range_succ,List.map_append];rfl
 ·rintro t df g ⟨rfl,g0,⟨h1,h2,h3,h4,-⟩,V,E,rows,hH,h9,h10,e0,ha,e1⟩
  simp only[sz,simprocAttr,kJ]
  refine GE (U:=V 0) (V:=V 1) (xs:=xs) (ys:=ys) (zs:=zs) (n:=n) (Nat.succ_pos d) hr hx hy hz ⟨⟨rows,hH.own (k:=0) (by simp[K1]) e0,ha⟩,hH.own (k:=1) (by simp[K1]) e1⟩ (by simp[St,LDs,sx,h1,h2,h3,h9,h10]) (by simp[sx]) ?_ ?_
  ·intro t g hD h8
   simp only[sz,simprocAttr,h8,hD]
  ·intro t g hD
   simp only[dK,if_true,sz,simprocAttr,kV,hD]
structure ND where
 c:Nat->Int
 P:Nat->List Int
 m:Nat->Nat
 R:Nat->Nat->List Int
 o:Nat->Nat
def LN (n:Nat)(D:ND):Ky->Prop:=fun k=>k=(0,0)\/∃i q,k=(i+1,q)/\i<n/\q<2+D.o i
theorem LN.z {n:Nat}{D:ND}:LN n D (0,0):=.inl rfl
theorem LN.s {n:Nat}{D:ND}{i q:Nat}(h:i<n)(hq:q<2+D.o i):LN n D (i+1,q):=.inr ⟨i,q,rfl,h,hq⟩
theorem LN.p {n:Nat}{D:ND}{i:Nat}(h:i<n):LN n D (i+1,0):=LN.s h (by omega)
theorem LN.r {n:Nat}{D:ND}{i:Nat}(h:i<n):LN n D (i+1,1):=LN.s h (by omega)
def eN (D:ND)(V:Ky->AV)(i:Nat):List AV:=[.int .i64 (D.c i),V (i+1,0),V (i+1,1)]
def AJ (V:Ky->AV)(i r:Nat):List AV:=[V (i+1,2+r)]
structure BN (K n:Nat) (V:Ky->AV) (E:Ky->En) (D:ND):Prop where
 ns:E (0,0)=.sl 3 ((List.range n).map (eN D V))
 ps:∀i,i<n->E (i+1,0)=.sl 1 ((D.P i).map ci)/\(D.P i).length<=K
 rs:∀i,i<n->E (i+1,1)=.sl 1 ((List.range (D.m i)).map (AJ V i))/\D.m i<=K
 rr:∀i r,i<n->r<D.m i->(D.R i r).length<=K/\((r<D.o i/\E (i+1,2+r)=.sl 1 ((D.R i r).map ci))\/SlR NoP 0 .nil (D.R i r) (V (i+1,2+r)))
def ND.node (D:ND)(i:Nat):Node:=⟨D.c i,D.P i,(List.range (D.m i)).map (D.R i)⟩
theorem pE {g:G}{b:Nat}{v:AV}{l:List Int}{P:Nat->Prop}(h:Own g b v 1 (l.map ci))(hl:l.length<9223372036854775808)(hp:∀i,b<=i->P i):SlR P 0 g.h l v :=
 Own.sl (α:=Int) h hl (All2.of_map (fun a=>a_.2 rfl) _) fun i hi=>hp i (h.lt hi).1
theorem BN.rows {g:G}{b K n i:Nat}{V:Ky->AV}{E:Ky->En}{D:ND}{L:Ky->Prop}(hB:BN K n V E D)(hH:Hp g b L V E)(hL:∀k,LN n D k->L k)(hK:K<=1000000)(hi:i<n):SlR (fun j=>b<=j) 0 g.h ((List.range (D.m i)).map (D.R i)) (V (i+1,1)):=by
 obtain ⟨h1,h2⟩:=hB.rs i hi
 have ho:=hH.own (hL _ (LN.r hi)) h1
 refine Own.sl (α:=List Int) ho (by simp;omega) (sA fun r hr=>?_) fun j hj=>(ho.lt hj).1
 have hr:=List.mem_range.1 hr
 obtain ⟨h4,h3⟩:=hB.rr i r hi hr
 rcases h3 with ⟨h5,h3⟩ | h3
 ·exact gM.2 ⟨_,rfl,pE (hH.own (hL _ (LN.s hi (by omega))) h3) (by omega) fun _ h=>h⟩
 ·exact gM.2 ⟨_,rfl,(h3.tree (h':=g.h) (Nat.le_refl 0)).wd fun _ h=>h.elim⟩
theorem Hp.off {κ:Type} [DecidableEq κ]{g:G}{b:Nat}{L:κ->Prop}{V:κ->AV}{E:κ->En}{k:κ}{x:AV}(h:Hp g b L V E)(hk:¬L k):Hp g b L (ups V k x) E:=by
 have ne:∀j,L j->j≠k:=fun j hj e=>hk (by rw[<-e];exact hj)
 exact ⟨fun j hj=>by rw[ac V x (ne j hj)];exact h.ok j hj,fun j l hj hl hne id=>by rw[ac V x (ne j hj),ac V x (ne l hl)];exact h.sep j l hj hl hne id,h.nx⟩
theorem BN.pars {g:G}{b K n i:Nat}{V:Ky->AV}{E:Ky->En}{D:ND}{L:Ky->Prop}(hB:BN K n V E D)(hH:Hp g b L V E)(hL:∀k,LN n D k->L k)(hK:K<=1000000)(hi:i<n):SlR (fun j=>b<=j) 0 g.h (D.P i) (V (i+1,0)):=by
 obtain ⟨h1,h2⟩:=hB.ps i hi
 exact pE (hH.own (hL _ (LN.p hi)) h1) (by omega) fun _ h=>h
theorem BN.nodes {g:G}{b K n:Nat}{V:Ky->AV}{E:Ky->En}{D:ND}{L:Ky->Prop}(hB:BN K n V E D)(hH:Hp g b L V E)(hL:∀k,LN n D k->L k)(hK:K<=1000000)(hn:n<=1000000):SlR (fun j=>b<=j) 0 g.h ((List.range n).map D.node) (V (0,0)):=by
 have ho:=hH.own (hL _ LN.z) hB.ns
 refine Own.sl (α:=Node) ho (by simp;omega) (sA fun i hi=>?_) fun j hj=>(ho.lt hj).1
 have hi:=List.mem_range.1 hi
 exact bI.2 ⟨_,_,rfl,hB.pars hH hL hK hi,hB.rows hH hL hK hi⟩
theorem lE {α:Type}(f:Nat->α){n i:Nat}(x:α)(hi:i<n):((List.range n).map f).set i x=(List.range n).map (ups f i x):=by
 refine List.ext_getElem (by simp) fun j h1 h2=>?_
 rw[List.getElem_set]
 by_cases e:i=j
 ·subst e;simp[ah]
 ·rw[if_neg e];simp[ac _ _ (Ne.symm e)]
theorem eR {α:Type}(f:Nat->α){n i:Nat}(hi:i<n):((List.range n).map f)[i]?=some (f i):=by simp[hi]
theorem t9 {D D':ND}{V V':Ky->AV}{n i:Nat}{row:List AV}(h0:row=eN D' V' i)(h:∀j,j<n->j≠i->eN D V j=eN D' V' j):(List.range n).map (ups (eN D V) i row)=(List.range n).map (eN D' V'):=by
 refine List.map_congr_left fun j hj=>?_
 have hj:=List.mem_range.1 hj
 by_cases e:j=i
 ·subst e;rw[ah,h0]
 ·rw[ac _ _ e,h j hj e]
def IV (C:Nat):VS:=fun P k h v=>∃l:List Int,l.length=C/\One l P k h v
structure Rw1 (gr:Int) (nv u:AV) (C F j:Nat) (t:T) (g:G):Prop where
 st:St t [(0,.int .i64 gr),(1,.int .i64 (C:Int)),(2,nv),(3,.int .i64 (F:Int)),(9,u)]
 hX:∃(X:List Int) (s:Int),tat t 10=.int .i64 s/\X.length=C/\Own g 0 u 1 (X.map ci)/\(∀x∈X,0<=x/\x<=7)/\(∀(i:Nat) (x:Int),i<j->X[i]?=some x->x<=s)/\0<=s/\s<=7*j
theorem Im {d C F kk:Nat}{gr:Int}{nv u:AV}{l:List UInt8}{Q:QT}{t:T}{g:G}(hC:C<=3)(hF:F<=1000)(hl:SlR NoP kk .nil l nv)(h0:Rw1 gr nv u C F 0 t g)(h11:tat t 11=.int .i64 0)
  (fin:∀t g,Rw1 gr nv u C F C t g->Q (.exit 0) t [] g):wpL (wp C0 d none j6) Q t [] g:=by
 obtain ⟨nr,r1,r2,r3,r4⟩:=hl.all
 have r1:∀h',ae h' 1 nv=some nr:=r1
 have hll:=hl.1
 have ll:=hl.len
 simp only[j6,o9]
 refine bi C (by omega) (fun j t df g=>df=[]/\Rw1 gr nv u C F j t g) ⟨rfl,h0⟩ h11 (by decide) ?_ ?_ ?_ ?_
 ·rintro j t df g v s (rfl | rfl | rfl) ⟨a1,⟨b1,b2,b3,b4,b5,-⟩,X,s',c1,c2⟩<;>exact ⟨a1,by simp[St,sx,b1,b2,b3,b4,b5],X,s',by simp[sx,c1],c2⟩
 ·rintro j t df g hj ⟨rfl,⟨h0,h1,h2,h3,h9,-⟩,X,s,h10,hX⟩ h11
  simp only[sz,simprocAttr,h11,h1]
  exact ⟨by simp[St,sx,h0,h1,h2,h3,h9],X,s,by simp[sx,h10],hX⟩
 ·rintro j t df g hj ⟨rfl,⟨h0,h1,h2,h3,h9,-⟩,X,s,h10,hXl,hX,hXb,hXs,hs0,hs1⟩ h11
  refine dk (P:=fun t' df g'=>df=[]/\∃(X':List Int) (x':Int),St t' [(0,.int .i64 gr),(1,.int .i64 (C:Int)),(2,nv),(3,.int .i64 (F:Int)),(9,u),(10,.int .i64 s),(11,.int .i64 (j:Int))]/\X'.length=C/\Own g' 0 u 1 (X'.map ci)/\(∀x∈X',0<=x/\x<=7)/\X'[j]?=some x'/\∀i,i≠j->X'[i]?=X[i]?) ?_ ?_
  ·have hXj:X[j]?=some X[j]:=List.getElem?_eq_getElem (by omega)
   simp only[sz,simprocAttr,h2,ll]
   refine aY (fun hb=>?_) (fun hb=>?_)
   ·have hb:0<l.length:=by simpa using hb
    have w1:IntKind.wrap .i64 ((F:Int)+(j:Int))=((F+j:Nat):Int):=by rw[aA (by omega) (by omega)];simp
    have q1:=BY (x:=F+j) (y:=l.length) hb
    have hmod:=Nat.mod_lt (F+j) hb
    generalize (F+j) % l.length=a at q1 hmod
    obtain ⟨y,hy,-,-⟩:=am (l:=l) (j:=a) hmod
    obtain ⟨row,z1,z2⟩:=r3 a y hy
    rw[iy.1 z2] at z1
    have hlt:a<nr.length:=by omega
    have q2:=ir .u8 (a:=(y.toNat:Int)) (b:=8) (by omega) (by omega)
    have hm0:0<=(y.toNat:Int) % 8:=Int.emod_nonneg _ (by decide)
    have hm1:(y.toNat:Int) % 8<8:=Int.emod_lt_of_pos _ (by decide)
    have w2:IntKind.wrap .i64 ((y.toNat:Int) % 8)=(y.toNat:Int) % 8:=aA (by omega) (by omega)
    generalize (y.toNat:Int) % 8=z at q2 hm0 hm1 w2
    have u1:j<(X.map ci).length:=by simp;omega
    have u2:(X.map ci)[j]?=some (ci X[j]):=by rw[List.getElem?_map,hXj];rfl
    have rX:=hX.rows
    simp only[sz,simprocAttr,h2,h3,h9,h11,ll,w1,q1,r1,hlt,z1,q2,w2,rX,u1]
    refine bX (v:=u) (sz:=1) (n:=1) (i:=j) (off:=0) (x:=.int .i64 z) (row':=ci z) hX u2 rfl rfl rfl fun g4 hu4 n4 f4=>?_
    rw[<-List.map_set] at hu4
    simp only[sx,sy]
    refine ⟨X.set j z,z,by simp[St,sx,h0,h1,h2,h3,h9,h10,h11],by simp[hXl],hu4,fun x hx=>?_,by rw[List.getElem?_set_self (by omega)],fun i hi=>by rw[List.getElem?_set_ne (Ne.symm hi)]⟩
    rcases List.mem_or_eq_of_mem_set hx with h | rfl
    ·exact hXb x h
    ·omega
   ·simp only[sx,sy]
    exact ⟨X,X[j],by simp[St,sx,h0,h1,h2,h3,h9,h10,h11],hXl,hX,hXb,hXj,fun _ _=>rfl⟩
  clear h0 h1 h2 h3 h9 h10 h11 hX
  rintro t df g ⟨rfl,X',x',⟨h0,h1,h2,h3,h9,h10,h11,-⟩,hXl',hX',hXb',hxj,hXo⟩
  have u1:j<(X'.map ci).length:=by simp;omega
  have u2:(X'.map ci)[j]?=some (ci x'):=by rw[List.getElem?_map,hxj];rfl
  have rX:=hX'.rows
  have hx':=hXb' x' (List.mem_of_getElem? hxj)
  have w1:IntKind.wrap .i64 (s+x')=s+x':=aA (by omega) (by omega)
  simp only[sz,simprocAttr,o8,h10,h9,h11,rX,u1,u2,ci,w1]
  refine ⟨by simp[St,sx,h0,h1,h2,h3,h9],X',s+x',by simp[sx],hXl',hX',hXb',fun i x hi hx=>?_,by omega,by omega⟩
  by_cases e:i=j
  ·subst e;rw[hxj] at hx;injection hx with hx;omega
  ·rw[hXo i e] at hx
   have:=hXs i x (by omega) hx
   omega
 ·rintro t df g ⟨rfl,h⟩
  exact fin t g h
structure Rw2 (gr s:Int) (u:AV) (C j:Nat) (t:T) (g:G):Prop where
 st:St t [(0,.int .i64 gr),(1,.int .i64 (C:Int)),(9,u),(10,.int .i64 s)]
 hX:∃(X:List Int) (left:Int) (la:Nat),tat t 12=.int .i64 left/\tat t 13=.int .i64 (la:Int)/\la<C/\X.length=C/\Own g 0 u 1 (X.map ci)/\∀(i:Nat) (x:Int),j<=i->X[i]?=some x->0<=x/\x<=7/\x<=s
theorem HW {d C:Nat}{gr s:Int}{u:AV}{Q:QT}{t:T}{g:G}(hC:C<=3)(hg:0<=gr/\gr<=60)(h0:Rw2 gr s u C 0 t g)(h14:tat t 14=.int .i64 0)
  (fin:∀t g,Rw2 gr s u C C t g->Q (.exit 2) t [] g):wpL (wp C0 d none kr) Q t [] g:=by
 simp only[kr,pc]
 refine bi C (by omega) (fun j t df g=>df=[]/\Rw2 gr s u C j t g) ⟨rfl,h0⟩ h14 (by decide) ?_ ?_ ?_ ?_
 ·rintro j t df g v s (rfl | rfl | rfl) ⟨a1,⟨b1,b2,b3,b4,-⟩,X,s',la,c1,c2,c3⟩<;>exact ⟨a1,by simp[St,sx,b1,b2,b3,b4],X,s',la,by simp[sx,c1],by simp[sx,c2],c3⟩
 ·rintro j t df g hj ⟨rfl,⟨h0,h1,h9,h10,-⟩,X,left,la,h12,h13,hX⟩ h14
  simp only[sz,simprocAttr,h14,h1]
  exact ⟨by simp[St,sx,h0,h1,h9,h10],X,left,la,by simp[sx,h12],by simp[sx,h13],hX⟩
 ·rintro j t df g hj ⟨rfl,⟨h0,h1,h9,h10,-⟩,X,left,la,h12,h13,hla,hXl,hX,hXb⟩ h14
  have hXj:X[j]?=some X[j]:=List.getElem?_eq_getElem (by omega)
  obtain ⟨b0,b1,b2⟩:=hXb j _ (Nat.le_refl _) hXj
  have u1:j<(X.map ci).length:=by simp;omega
  have u2:(X.map ci)[j]?=some (ci X[j]):=by rw[List.getElem?_map,hXj];rfl
  have rX:=hX.rows
  refine dk (P:=fun t' df g'=>df=[]/\∃(X':List Int) (la':Nat),St t' [(0,.int .i64 gr),(1,.int .i64 (C:Int)),(9,u),(10,.int .i64 s),(12,.int .i64 left),(13,.int .i64 (la':Int)),(14,.int .i64 (j:Int))]/\la'<C/\X'.length=C/\Own g' 0 u 1 (X'.map ci)/\∀i,i≠j->X'[i]?=X[i]?) ?_ ?_
  ·simp only[sz,simprocAttr,h9,h14,rX,u1,u2,ci]
   generalize X[j]=x at *
   refine aY (fun hb=>?_) (fun hb=>?_)
   ·have hb:0<x:=by simpa using hb
    have hgx:0<=gr*x:=Int.mul_nonneg hg.1 b0
    have hgx2:gr*x<=60*7:=Int.mul_le_mul hg.2 b1 b0 (by decide)
    have w1:IntKind.wrap .i64 (gr*x)=gr*x:=aA (by omega) (by omega)
    have q1:=FP (x:=gr*x) (y:=s) hgx (by omega) (by omega)
    simp only[sz,simprocAttr,h0,h9,h10,h14,rX,u1,u2,ci,w1,q1]
    refine bX (v:=u) (sz:=1) (n:=1) (i:=j) (off:=0) (x:=.int .i64 (gr*x / s)) (row':=ci (gr*x / s)) hX u2 rfl rfl rfl fun g4 hu4 n4 f4=>?_
    rw[<-List.map_set] at hu4
    simp only[sz,simprocAttr,h14]
    exact ⟨X.set j (gr*x / s),j,by simp[St,sx,h0,h1,h9,h10,h12,h14],by omega,by simp[hXl],hu4,fun i hi=>by rw[List.getElem?_set_ne (Ne.symm hi)]⟩
   ·simp only[sx,sy]
    exact ⟨X,la,by simp[St,sx,h0,h1,h9,h10,h12,h13,h14],hla,hXl,hX,fun _ _=>rfl⟩
  clear h0 h1 h9 h10 h12 h13 h14 hX rX hla
  rintro t df g ⟨rfl,X',la',⟨h0,h1,h9,h10,h12,h13,h14,-⟩,hla,hXl',hX',hXo⟩
  have hXj':X'[j]?=some X'[j]:=List.getElem?_eq_getElem (by omega)
  have u1:j<(X'.map ci).length:=by simp;omega
  have u2:(X'.map ci)[j]?=some (ci X'[j]):=by rw[List.getElem?_map,hXj'];rfl
  have rX:=hX'.rows
  simp only[sz,simprocAttr,nV,h12,h9,h14,rX,u1,u2,ci]
  refine ⟨by simp[St,sx,h0,h1,h9,h10],X',_,la',by simp[sx];rfl,by simp[sx,h13],hla,hXl',hX',fun i x hi hx=>?_⟩
  rw[hXo i (by omega)] at hx
  exact hXb i x (by omega) hx
 ·rintro t df g ⟨rfl,h⟩
  exact fin t g h
theorem HU {d C F kk:Nat}{g:G}{nv:AV}{gr:Int}{l:List UInt8}(hd:0<d)(hC:1<=C/\C<=3)(hF:F<=1000)(hg:0<=gr/\gr<=60)(hl:SlR NoP kk .nil l nv) :
  ∃r,au C0 d N.ak [.int .i64 gr,.int .i64 (C:Int),nv,.int .i64 (F:Int)] g=.val r/\IV C NoP 0 .nil r:=by
 rw[uE]
 refine bz yf (xs:=[.int .i64 gr,.int .i64 (C:Int),nv,.int .i64 (F:Int)]) (by simp only[aE,tz d (hl.tree (h':=g.h) (Nat.le_refl _)),co 0]) (by simp[n_]) (jk fun o=>bo _) (by decide) hd ?_
 simp only[sz,simprocAttr,n_]
 refine re (b:=0) (n:=C) (by unfold aU;omega) (by unfold aU;omega) (Nat.zero_le _) fun u g1 hu n1 f1 vu=>?_
 simp only[sz,simprocAttr]
 refine Im (gr:=gr) (nv:=nv) (u:=u) (C:=C) (F:=F) hC.2 hF hl ⟨by simp[St,sx],List.replicate C 0,0,by simp[sx],by simp,by simpa [ci] using hu,fun x hx=>by rw[(List.mem_replicate.1 hx).2];decide,fun i x hi=>by omega,by omega,by omega⟩ (by simp[sx]) ?_
 rintro t g2 ⟨⟨h0,h1,h2,h3,h9,-⟩,X,s,h10,hXl,hX,hXb,hXs,hs0,hs1⟩
 simp only[sz,simprocAttr,ox,h0]
 refine HW (gr:=gr) (s:=s) (u:=u) (C:=C) hC.2 hg ⟨by simp[St,sx,h0,h1,h9,h10],X,gr,0,by simp[sx],by simp[sx],by omega,hXl,hX,fun i x hi hx=>?_⟩ (by simp[sx]) ?_
 ·have h1:=(List.getElem?_eq_some_iff.1 hx).1
  have h2:=hXb x (List.mem_of_getElem? hx)
  exact ⟨h2.1,h2.2,hXs i x (by omega) hx⟩
 clear h0 h1 h2 h3 h9 h10 hX hXl hXb hXs
 rintro t g3 ⟨⟨h0,h1,h9,h10,-⟩,X,left,la,h12,h13,hla,hXl,hX,-⟩
 have hXj':X[la]?=some X[la]:=List.getElem?_eq_getElem (by omega)
 have u1:la<(X.map ci).length:=by simp;omega
 have u2:(X.map ci)[la]?=some (ci X[la]):=by rw[List.getElem?_map,hXj'];rfl
 have rX:=hX.rows
 simp only[sz,simprocAttr,oO,h9,h13,h12,rX,u1,u2,ci]
 refine bX (v:=u) (sz:=1) (n:=1) (i:=la) (off:=0) (x:=.int .i64 (IntKind.wrap .i64 (X[la]+left))) (row':=ci (IntKind.wrap .i64 (X[la]+left))) hX u2 rfl rfl rfl fun g4 hu4 n4 f4=>?_
 rw[<-List.map_set] at hu4
 simp only[sz,simprocAttr,h9]
 exact ⟨fun _=>True,_,by simp[hXl],hu4.ints (by simp;omega)⟩
theorem uk (os:List UInt8):∀k,(S.aD os k).Perm ((List.range k).map fun i:Nat=>(i:Int))
 | 0=>.refl _
 | k+1=>by
  rw[List.range_succ,List.map_append,S.aD]
  refine List.perm_middle.trans ?_
  rw[List.take_append_drop]
  exact ((uk os k).cons _).trans (List.perm_append_comm (l₁:=[(k:Int)]))
structure Num (n:Nat) (pl:List Int) (num:Nat->Nat):Prop where
 len:pl.length=n
 at_:∀k,k<n->pl[k]?=some (num k:Int)
 lt:∀k,k<n->num k<n
 inj:∀i j,i<n->j<n->num i=num j->i=j
 sur:∀u,u<n->∃k,k<n/\num k=u
theorem Ij (os:List UInt8)(n:Nat):∃num,Num n (S.aD os n) num:=by
 have hp:=uk os n
 have hl:=mw os n
 have hmem:∀x∈S.aD os n,∃i:Nat,i<n/\x=(i:Int):=fun x hx=>by
  have:=hp.mem_iff.1 hx
  obtain ⟨i,hi,rfl⟩:=List.mem_map.1 this
  exact ⟨i,List.mem_range.1 hi,rfl⟩
 have hnd:(S.aD os n).Nodup:=by
  rw[hp.nodup_iff]
  refine List.Pairwise.map _ ?_ (List.nodup_range (n:=n))
  intro a b h e
  exact h (by omega)
 have hat:∀k,k<n->(S.aD os n)[k]?=some (((S.aD os n)[k]?.getD 0).toNat:Int)/\((S.aD os n)[k]?.getD 0).toNat<n:=fun k hk=>by
  have hk':k<(S.aD os n).length:=by omega
  have e:=List.getElem?_eq_getElem hk'
  obtain ⟨i,hi,h⟩:=hmem _ (List.getElem_mem hk')
  rw[e,Option.getD_some,h]
  simp[hi]
 refine ⟨fun k=>((S.aD os n)[k]?.getD 0).toNat,hl,fun k hk=>(hat k hk).1,fun k hk=>(hat k hk).2,fun i j hi hj h=>?_,fun u hu=>?_⟩
 ·have h1:=(hat i hi).1
  have h2:=(hat j hj).1
  refine (List.getElem?_inj (by omega) hnd).1 ?_
  rw[h1,h2]
  exact congrArg (fun x:Nat=>some (x:Int)) h
 ·have:(u:Int)∈S.aD os n:=hp.mem_iff.2 (List.mem_map.2 ⟨u,List.mem_range.2 hu,rfl⟩)
  obtain ⟨k,hk,he⟩:=List.mem_iff_getElem.1 this
  refine ⟨k,by omega,?_⟩
  rw[List.getElem?_eq_getElem hk,he];rfl
theorem Hb (m n:Nat):∃z:Int,cj .shl (.int .i64 (m:Int)) (.int .u64 (n:Int))=.val (.int .i64 z):=⟨_,rfl⟩
def LNX (X:Ky->Prop)(n:Nat)(D:ND):Ky->Prop:=fun k=>LN n D k\/X k
def X1:Ky->Prop:=fun k=>k=(0,1)
def X2:Ky->Prop:=fun k=>k=(0,1)\/k=(0,2)
structure DN (X:Ky->Prop) (r0:List AV) (n q K:Nat) (gr:Int) (V:Ky->AV) (E:Ky->En) (D:ND) (g:G):Prop where
 hp:Hp g 2 (LNX X n D) V E
 bn:BN K n V E D
 vb:V (0,1)=.hptr q 0 0 0
 bx:E (0,1)=.bx [.int .i64 gr,V (0,0)]
 h0:g.h.get 0=.cells 3 [r0] 0 false false
 h1:g.h.get 1=.cells 2 [[.int .i64 0,.nils]] 0 false false
theorem DN.q {X:Ky->Prop}{r0:List AV}{n q K:Nat}{gr:Int}{V:Ky->AV}{E:Ky->En}{D:ND}{g:G}(h:DN X r0 n q K gr V E D g)(hX:X (0,1)):g.h.get q=.cells 2 [[.int .i64 gr,V (0,0)]] 0 false false/\2<=q/\q<g.nx:=by
 obtain ⟨id,h1,h2,h3,h4⟩:=h.hp.box (k:=(0,1)) (.inr hX) h.bx
 rw[h.vb] at h3;injection h3 with h3;subst h3
 exact ⟨h4,h1,h2⟩
theorem DN.ns {X:Ky->Prop}{r0:List AV}{n q K:Nat}{gr:Int}{V:Ky->AV}{E:Ky->En}{D:ND}{g:G}(h:DN X r0 n q K gr V E D g):Own g 2 (V (0,0)) 3 ((List.range n).map (eN D V)):=h.hp.own (.inl LN.z) h.bn.ns
theorem DN.same {X:Ky->Prop}{r0:List AV}{n q K:Nat}{gr:Int}{V:Ky->AV}{E:Ky->En}{D:ND}{g g':G}(h:DN X r0 n q K gr V E D g)(hf:Fr g g'):DN X r0 n q K gr V E D g':=by
 have:=h.hp.nx
 exact ⟨h.hp.step hf.1 fun i _ hi=>hf.2 i hi,h.bn,h.vb,h.bx,by rw[hf.2 0 (by omega),h.h0],by rw[hf.2 1 (by omega),h.h1]⟩
theorem d9 {g:G}{b:Nat}{v:AV}{sz:Nat}{rows:List (List AV)}(h:Own g b v sz rows)(hr:0<rows.length):iB v=true:=by
 rcases h with ⟨rfl,rfl⟩ | ⟨id,ep,lo,-,-,rfl,-⟩
 ·simp at hr
 ·rfl
theorem DN.card {X:Ky->Prop}{r0:List AV}{n q K i:Nat}{gr c:Int}{V:Ky->AV}{E:Ky->En}{D:ND}{g:G}{KK:AV->G->Prop}{DD:ADf->Prop}(h:DN X r0 n q K gr V E D g)(hi:i<n)(hX:∀k,X k->k≠(0,0))
  (kk:∀g' E',DN X r0 n q K gr V E' { D with c:=ups D.c i c } g'->g'.nx=g.nx->KK .undef g'):(lA 1 (iY 3 (V (0,0)) i 0) (.int .i64 c) g).sat KK g DD:=by
 refine h.hp.put (k:=(0,0)) (row:=eN D V i) (row':=[.int .i64 c,V (i+1,0),V (i+1,1)]) (.inl LN.z) h.bn.ns (eR _ hi) rfl rfl rfl fun g' hH hn hf1 hf2=>?_
 refine kk g' _ ⟨hH.sub fun k hk=>hk,⟨?_,fun j hj=>?_,fun j hj=>?_,fun j r hj hr=>?_⟩,h.vb,?_,by rw[hf1 0 (by omega),h.h0],by rw[hf1 1 (by omega),h.h1]⟩ hn
 ·rw[ah,lE _ _ hi]
  congr 1
  refine t9 (by simp[eN,ah]) fun j hj hne=>by simp[eN,ac _ _ hne]
 ·rw[ac _ _ (by simp)];exact h.bn.ps j hj
 ·rw[ac _ _ (by simp)];exact h.bn.rs j hj
 ·rw[ac _ _ (by simp)];exact h.bn.rr j r hj hr
 ·rw[ac _ _ (by simp)];exact h.bx
structure DAok (D:ND) (n i:Nat) (num:Nat->Nat):Prop where
 e:∀v,v<n->D.P v=[]/\D.m v=0
 c:∀k,k<i->D.c (num k)=2\/D.c (num k)=3
 o:∀u,D.o u=0
def LDA (n q:Nat)(r5:AV):List (Nat×AV):=[(1,.hptr 0 0 0 0),(2,.hptr 1 0 0 0),(3,.int .i64 (n:Int)),(4,.hptr q 0 0 0),(5,r5)]
structure DA (r0:List AV) (n q:Nat) (gr:Int) (r5:AV) (num:Nat->Nat) (i:Nat) (t:T) (g:G):Prop where
 st:St t (LDA n q r5)
 w:∃w:Nat,tat t 6=.int .i64 (w:Int)/\w<=3 ^ i
 hd:∃V E D,DN X1 r0 n q 1000 gr V E D g/\DAok D n i num
theorem I4 {i:Nat}(h:i<=5):3 ^ i<=243:=by
 have:i=0\/i=1\/i=2\/i=3\/i=4\/i=5:=by omega
 rcases this with rfl | rfl | rfl | rfl | rfl | rfl<;>decide
theorem Ir {d n q kk:Nat}{x:sj}{gr:Int}{a b r5:AV}{pl:List Int}{num:Nat->Nat}{Q:QT}{t:T}{g:G}(hn:1<=n/\n<=5)(ha:SlR NoP kk .nil x.2.1 a)(h5:IT 0 pl r5)(hN:Num n pl num)
  (h0:DA [u8v x.1,a,b] n q gr r5 num 0 t g) (h7:tat t 7=.int .i64 0)
  (fin:∀t g,DA [u8v x.1,a,b] n q gr r5 num n t g->Q (.exit 0) t [] g):wpL (wp C0 d none dO) Q t [] g:=by
 obtain ⟨pr,r1,r2,r3,r4⟩:=ha.all
 have r1:∀h',ae h' 3 a=some pr:=r1
 have la:=ha.len
 have hal:=ha.1
 have r5i:∀h,ae h 1 r5=some (pl.map ci):=fun h=>(h5.sl h).ints
 simp only[dO,iM]
 refine bi n (by omega) (fun j t df g=>df=[]/\DA [u8v x.1,a,b] n q gr r5 num j t g) ⟨rfl,h0⟩ h7 (by decide) ?_ ?_ ?_ ?_
 ·rintro j t df g v s (rfl | rfl | rfl) ⟨a1,⟨b1,b2,b3,b4,b5,-⟩,⟨w,c1,c2⟩,c3⟩<;>exact ⟨a1,by simp[St,LDA,sx,b1,b2,b3,b4,b5],⟨w,by simp[sx,c1],c2⟩,c3⟩
 ·rintro j t df g hj ⟨rfl,⟨h1,h2,h3,h4,h5,-⟩,⟨w,h6,hw⟩,hD⟩ h7
  simp only[sz,simprocAttr,h7,h3]
  exact ⟨by simp[St,LDA,sx,h1,h2,h3,h4,h5],⟨w,by simp[sx,h6],hw⟩,hD⟩
 ·rintro j t df g hj ⟨rfl,⟨h1,h2,h3,h4,h5,-⟩,⟨w,h6,hw⟩,V,E,D,hD,hok⟩ h7
  obtain ⟨p8,hp8⟩:∃p8,p8=g.nx:=⟨_,rfl⟩
  have hnx:=hD.hp.nx
  refine dk (P:=fun t' df g'=>df=[]/\g'=g.new (.cells 3 [[.int .u8 0,.int .u8 0,.nils]] 0 false false)/\St t' ((6,.int .i64 (w:Int))::(7,.int .i64 (j:Int))::(8,.hptr p8 0 0 0)::LDA n q r5)) ?_ ?_
  ·simp only[sz,simprocAttr]
   simp[St,LDA,sx,h1,h2,h3,h4,h5,h6,h7,hp8]
  clear h1 h2 h3 h4 h5 h6 h7
  rintro t df g1 ⟨rfl,hg1,⟨h6,h7,h8,h1,h2,h3,h4,h5,-⟩⟩
  have f1:Fr g g1:=by rw[hg1];exact Fr.new _ _
  have k8:g1.h.get p8=.cells 3 [[.int .u8 0,.int .u8 0,.nils]] 0 false false:=by rw[hg1,hp8];simp[H.get_put]
  have n1:p8<g1.nx:=by rw[hg1,hp8];simp
  clear hg1
  have hD1:=hD.same f1
  have e0:=hD1.h0
  refine dk (P:=fun t' df g'=>df=[]/\Fr g g'/\St t' ((6,.int .i64 (w:Int))::(7,.int .i64 (j:Int))::(8,.hptr p8 0 0 0)::LDA n q r5)/\p8<g'.nx/\∃(y:UInt8) (z1 z2:AV),g'.h.get p8=.cells 3 [[u8v y,z1,z2]] 0 false false) ?_ ?_
  ·simp only[sz,simprocAttr,h7,h1,e0,la]
   refine aY (fun hb=>?_) (fun hb=>?_)
   ·have hb:j<x.2.1.length:=by simpa using hb
    obtain ⟨y,hy,-,-⟩:=am hb
    obtain ⟨row,q1,q2⟩:=r3 j y hy
    obtain ⟨wv,rfl,hwv⟩:=xa.1 q2
    have hlt:j<pr.length:=by omega
    have hry:=r4 (by omega)
    simp only[sz,simprocAttr,h7,h1,e0,r1,hlt,q1,h8,k8]
    refine ⟨?_,by simp[St,LDA,sx,h1,h2,h3,h4,h5,h6,h7,h8],by simpa using n1,y.1,u8v y.2.1,wv,by simp[H.get_put]⟩
    exact ⟨Nat.le_trans f1.1 (by simp),fun i hi=>by simp[H.get_put,show ¬i=p8 by omega];exact f1.2 i hi⟩
   ·simp only[sx,sy]
    exact ⟨f1,by simp[St,LDA,sx,h1,h2,h3,h4,h5,h6,h7,h8],n1,0,.int .u8 0,.nils,k8⟩
  clear h1 h2 h3 h4 h5 h6 h7 h8 e0 hD1 k8 n1 f1
  rintro t df g2 ⟨rfl,f2,⟨h6,h7,h8,h1,h2,h3,h4,h5,-⟩,n2,y,z1,z2,k8⟩
  have hD2:=hD.same f2
  have q2:=ir .u8 (a:=(y.toNat:Int)) (b:=2) (by omega) (by omega)
  obtain ⟨m,hm⟩:∃m:Nat,(y.toNat:Int) % 2=(m:Int):=Int.eq_ofNat_of_zero_le (Int.emod_nonneg _ (by decide))
  have hm2:m<2:=by have:=Int.emod_lt_of_pos (y.toNat:Int) (show (0:Int)<2 by decide);omega
  rw[hm] at q2
  have w2:IntKind.wrap .i64 (m:Int)=(m:Int):=aA (by omega) (by omega)
  have w3:IntKind.wrap .i64 (2+(m:Int))=((2+m:Nat):Int):=by rw[aA (by omega) (by omega)];rfl
  have hp3:=I4 (i:=j) (by omega)
  have hwc:w*(2+m)<=243*3:=Nat.mul_le_mul (by omega) (by omega)
  have w4:IntKind.wrap .i64 ((w:Int)*((2+m:Nat):Int))=((w*(2+m):Nat):Int):=by rw[<-Int.natCast_mul,aA (by omega) (by omega)]
  have w5:IntKind.wrap .i64 ((n:Int) - 1)=((n - 1:Nat):Int):=by rw[aA (by omega) (by omega)];omega
  have w6:IntKind.wrap .i64 (((n - 1:Nat):Int) - (j:Int))=((n - 1 - j:Nat):Int):=by rw[aA (by omega) (by omega)];omega
  have w7:IntKind.wrap .u64 ((n - 1 - j:Nat):Int)=((n - 1 - j:Nat):Int):=li (by omega) (by omega)
  obtain ⟨z,hz⟩:=Hb (w*(2+m)) (n - 1 - j)
  refine dk (P:=fun t' df g'=>df=[]/\g'=g2/\St t' ((6,.int .i64 (w:Int))::(7,.int .i64 (j:Int))::(9,.int .i64 ((2+m:Nat):Int))::LDA n q r5)) ?_ ?_
  ·simp only[sz,simprocAttr,h8,k8,u8v,q2,w2,w3]
   simp[St,LDA,sx,h1,h2,h3,h4,h5,h6,h7]
  clear h1 h2 h3 h4 h5 h6 h7 h8
  rintro t df g3 ⟨rfl,rfl,⟨h6,h7,h9,h1,h2,h3,h4,h5,-⟩⟩
  refine dk (P:=fun t' df g'=>df=[]/\g'=g3/\∃C:Nat,(C=2\/C=3)/\St t' ((6,.int .i64 (w:Int))::(7,.int .i64 (j:Int))::(9,.int .i64 (C:Int))::LDA n q r5)) ?_ ?_
  ·simp only[sz,simprocAttr,h6,h7,h9,h3,w4,w5,w6,w7,hz]
   refine aY (fun hb=>?_) (fun hb=>?_)
   ·simp only[sz,simprocAttr]
    refine ⟨2,.inl rfl,?_⟩
    simp[St,LDA,sx,h1,h2,h3,h4,h5,h6,h7]
   ·simp only[sx,sy]
    refine ⟨2+m,by omega,?_⟩
    simp[St,LDA,sx,h1,h2,h3,h4,h5,h6,h7,h9]
  clear h1 h2 h3 h4 h5 h6 h7 h9 hwc w4 hz w3
  rintro t df g4 ⟨rfl,rfl,C,hC,⟨h6,h7,h9,h1,h2,h3,h4,h5,-⟩⟩
  have hwc:w*C<=3 ^ j*3:=Nat.mul_le_mul hw (by omega)
  have hwc2:w*C<=243*3:=Nat.mul_le_mul (by omega) (by omega)
  have w4:IntKind.wrap .i64 ((w:Int)*(C:Int))=((w*C:Nat):Int):=by rw[<-Int.natCast_mul,aA (by omega) (by omega)]
  refine dk (P:=fun t' df g'=>df=[]/\g'=g4/\St t' ((6,.int .i64 ((w*C:Nat):Int))::(7,.int .i64 (j:Int))::(9,.int .i64 (C:Int))::LDA n q r5)) ?_ ?_
  ·simp only[sz,simprocAttr,h6,h9,w4]
   simp[St,LDA,sx,h1,h2,h3,h4,h5,h7,h9]
  clear h1 h2 h3 h4 h5 h6 h7 h9
  rintro t df g5 ⟨rfl,rfl,⟨h6,h7,h9,h1,h2,h3,h4,h5,-⟩⟩
  obtain ⟨kq,q2a,q2b⟩:=hD2.q rfl
  have rns:=hD2.ns.rows
  have hry:=d9 hD2.ns (by simp;omega)
  have hnj:=hN.lt j hj
  have u1:j<(pl.map ci).length:=by rw[List.length_map,hN.len];exact hj
  have u2:(pl.map ci)[j]?=some (ci (num j:Int)):=by rw[List.getElem?_map,hN.at_ j hj];rfl
  have u3:num j<((List.range n).map (eN D V)).length:=by simpa using hnj
  have u4:=eR (eN D V) hnj
  simp only[sz,simprocAttr,sf,h4,kq,h5,h7,h9,r5i,u1,u2,rns,u3,hry,ci]
  refine (hD2.same (g':=_) ⟨?_,?_⟩).card (i:=num j) (c:=(C:Int)) hnj (fun k hk=>by rw[hk];simp) fun g6 E' hD6 n6=>?_
  ·simp;omega
  ·intro i hi;simp
  simp only[sx,sy,↓reduceIte,Nat.reduceEqDiff]
  refine ⟨?_,⟨by simp[St,LDA,sx,h1,h2,h3,h4,h5],⟨w*C,by simp[sx,h6],by rw[Nat.pow_succ];exact hwc⟩,V,E',_,hD6.same ⟨by simp,fun i _=>by simp⟩,hok.e,fun k hk=>?_,hok.o⟩,by simp[h7]⟩
  ·simp only[List.reverse_cons,List.reverse_nil,List.nil_append,List.cons_append]
   exact aN [false,false,false,false,false,false,false,false,false,true] [] (by simp[All2,ak,ay]) (by decide) (by simp)
  ·by_cases e:num k=num j
   ·simp[e,ah];omega
   ·show ups D.c (num j) (C:Int) (num k)=2\/ups D.c (num j) (C:Int) (num k)=3
    rw[ac _ _ e]
    refine hok.c k ?_
    have:k≠j:=fun h=>e (by rw[h])
    omega
 ·rintro t df g ⟨rfl,h⟩
  exact fin t g h
end
end Hx
end
