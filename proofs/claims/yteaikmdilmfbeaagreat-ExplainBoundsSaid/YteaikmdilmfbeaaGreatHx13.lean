/- A part of the proof: an interpreter over abstract values, shown right against the model, and what the functions of the chapter compute on it. -/
import Derived.Test.YteaikmdilmfbeaaGreatHx12
set_option linter.unusedVariables false
set_option linter.unusedSimpArgs false
set_option linter.unnecessarySimpa false
section
namespace Hx
open Go
noncomputable section
theorem Ae {α:Type} [Rp α]{P:Nat->Prop}{k:Nat}{h:H}{l:List α}{w:AV}(hw:SlR P k h l w)(g:G):CX w g=.upd (.hptr g.nx 0 0 0) (g.new (.cells 1 [[w]] 0 false false)):=by
 rw[CY _ _ hw.cell.2,hw.cell.1];rfl
def CD {α:Type} [Rp α](x:α)(sz:Nat):VS:=fun P k h v=>(∃id cs,v=.hptr id 0 0 0/\P id/\h.get id=.cells sz [cs] 0 false false/\Rp.rp P k h x cs)\/∃t cs,v=.tptr t sz [cs] 0 0/\t<=k/\Rp.rp NoP k .nil x cs
theorem Cc {α:Type} [Rp α]{x:α}{sz:Nat}{P:Nat->Prop}{k:Nat}{h:H}{v:AV}{n:Nat}(d:Nat)(r:CD x sz P k h v)(hn:Rp.dp α<=n)(hd:Rp.dp α<=20:=by decide):∃v',Hx.snap h d (n+1) v=some v'/\CD x sz NoP (max k d) .nil v':=by
 rcases r with ⟨id,cs,rfl,-,hg,r⟩ | ⟨t,cs,rfl,ht,r⟩
 ·obtain ⟨cs',e,r'⟩:=Rp.snap (n:=n) d r hn (by show _<=24;omega)
  obtain ⟨m,e2,l2⟩:=Rp.tag (n:=aE) r' (by show _<=24;omega)
  refine ⟨.tptr (Nat.max d (Nat.max m 0)) sz [cs'] 0 0,?_,.inr ⟨_,cs',rfl,?_,r'⟩⟩
  ·simp only[Hx.snap,hg,show Nat.beq 0 0=true from rfl,aD,e,eB,fL,e2]
  ·show max d (max m 0)<=max k d
   omega
 ·exact ⟨.tptr t sz [cs] 0 0,rfl,.inr ⟨t,cs,rfl,by omega,Rp.mono r (fun i hi=>hi.elim) (by omega)⟩⟩
theorem D1 {α:Type} [Rp α]{x:α}{sz:Nat}{k:Nat}{h:H}{v:AV}{n:Nat}(r:CD x sz NoP k h v):∃m,d6 (n+1) v=some m/\m<=k:=by
 rcases r with ⟨id,cs,rfl,hP,-⟩ | ⟨t,cs,rfl,ht,r⟩
 ·exact hP.elim
 ·exact ⟨t,rfl,ht⟩
theorem HA {cs vs:List Int}(h:InC cs vs)(hc:∀c∈cs,1<=c){i:Nat}{x c:Int}(hi:vs[i]?=some x)(hci:cs[i]?=some c)(hx:x≠c - 1):InC cs (vs.take i++(x+1)::List.replicate (vs.length - (i+1)) 0):=by
 have hil:=(List.getElem?_eq_some_iff.1 hi).1
 have hl:=h.len
 refine Al (by simp;omega) fun j c' v hj hv=>?_
 obtain ⟨v',h1,h2,h3⟩:=h.get hj
 have hcp:=hc c' (List.mem_of_getElem? hj)
 by_cases h4:j<i
 ·rw[List.getElem?_append_left (by simp;omega),List.getElem?_take_of_lt h4] at hv
  rw[h1] at hv;injection hv with hv;omega
 ·rw[List.getElem?_append_right (by simp;omega)] at hv
  rw[List.length_take,Nat.min_eq_left (by omega)] at hv
  by_cases h5:j=i
  ·subst h5
   rw[Nat.sub_self] at hv
   simp at hv
   rw[hi] at h1;injection h1 with h1
   rw[hci] at hj;injection hj with hj
   omega
  ·obtain ⟨m,hm⟩:∃m,j - i=m+1:=⟨j - i - 1,by omega⟩
   rw[hm,List.getElem?_cons_succ] at hv
   have:=List.mem_of_getElem? hv
   rw[List.mem_replicate] at this
   omega
theorem Im {cs:List Int}(hc:∀c∈cs,1<=c):InC cs (List.replicate cs.length 0) :=
 Al (by simp) fun j c v hj hv=>by
  have:=List.mem_of_getElem? hv
  rw[List.mem_replicate] at this
  have:=hc c (List.mem_of_getElem? hj)
  omega
theorem zF {vs:List Int}{m:Nat}(h:m<vs.length):(vs.take (m+1)++List.replicate (vs.length - (m+1)) 0).set m 0=vs.take m++List.replicate (vs.length - m) 0:=by
 rw[List.take_succ_eq_append_getElem h,List.append_assoc,List.set_append_right _ _ (by simp;omega),List.length_take,Nat.min_eq_left (by omega),Nat.sub_self]
 rw[show vs.length - m=(vs.length - (m+1))+1 by omega,List.replicate_succ]
 rfl
theorem zR {vs:List Int}{m:Nat}(h:m<vs.length)(y:Int):(vs.take (m+1)++List.replicate (vs.length - (m+1)) 0).set m y=vs.take m++y::List.replicate (vs.length - (m+1)) 0:=by
 rw[List.take_succ_eq_append_getElem h,List.append_assoc,List.set_append_right _ _ (by simp;omega),List.length_take,Nat.min_eq_left (by omega),Nat.sub_self]
 rfl
structure OdoJ (n:Net) (vs:List Int) (L:List (Nat×AV)) (u:AV) (g0:G) (m:Nat) (t:T) (g:G):Prop where
 st:tat t 6=.int .i64 ((m:Int) - 1)
 ss:St t L
 ow:Own g g0.nx u 1 ((vs.take m++List.replicate (vs.length - m) 0).map ci)
 mx:∀(j:Nat) (c:Int),m<=j->(S.aa n)[j]?=some c->vs[j]?.getD 0=c - 1
theorem yB {C:Cfg}{d id nt:Nat}{t:T}{ps:List Nat}{assign body:Code}{a b:SC}{dfr:Nat}{args:List AV}{g:G}{K:AV->G->Prop}{D:ADf->Prop}{t':T}
  (hg:g.h.get id=.loop nt t ps assign body dfr .ready none) (ha:dW C nt assign=a) (hb:dW C nt body=b) (hp:cQ t nt ps args=some t')
  (h:wp C d (some id) a (fun e t1 df g1=>e=.norm/\df=[]/\g1.h.get id=.loop nt t ps assign body dfr .ready none /\
   wp C d (some id) b (fun e _ df g2=>df=[]/\g2.h.get id=.loop nt t ps assign body dfr .busy none/\((e=.norm/\K (.bool true) (g2.put id (.loop nt t ps assign body dfr .ready none)))\/(e=.ret/\K (.bool false) (g2.put id (.loop nt t ps assign body dfr .done (some .ret))))))
    t1 [] (g1.put id (.loop nt t ps assign body dfr .busy none))) t' [] g) :
  (cy (I C) d id args g).sat K g D:=by
 subst ha;subst hb
 unfold cy
 rw[show g.get id=_ from hg]
 dsimp only
 rw[hp]
 dsimp only
 have h1:=qX h
 cases hc:(I C).code nt d (some id) assign t' [] g with
 | fail=>rw[hc] at h1;exact h1.elim
 | ok e t1 df g1 =>
  rw[hc] at h1
  obtain ⟨rfl,rfl,hg1,h2⟩:=h1
  dsimp only
  rw[show g1.get id=_ from hg1]
  dsimp only
  have h3:=qX h2
  cases hc2:(I C).code nt d (some id) body t1 [] (g1.put id (.loop nt t ps assign body dfr .busy none)) with
  | fail=>rw[hc2] at h3;exact h3.elim
  | ok e t2 df2 g2 =>
   rw[hc2] at h3
   obtain ⟨rfl,h4,h5⟩:=h3
   dsimp only
   rw[show g2.get id=_ from h4]
   rcases h5 with ⟨rfl,h5⟩ | ⟨rfl,h5⟩<;>exact h5
structure CsOk (cs:List Int):Prop where
 b:∀c∈cs,1<=c/\c<=4
 l:cs.length<=8
def S.nc (cs:List Int):Nat:=(S.ae cs).toNat
theorem CsOk.nc {cs:List Int}(h:CsOk cs):1<=S.nc cs/\S.nc cs<=65536/\((S.nc cs:Nat):Int)=S.ae cs:=by
 obtain ⟨h1,h2⟩:=ch h.b
 have h3:(4:Int) ^ cs.length<=4 ^ 8:=by
  have:(4:Nat) ^ cs.length<=4 ^ 8:=Nat.pow_le_pow_right (by decide) h.l
  exact_mod_cast this
 have h4:(4:Int) ^ 8=65536:=by decide
 unfold S.nc
 omega
def Up (B:Nat)(g g':G):Prop:=(∀i,i<B->g'.h.get i=g.h.get i)/\∀i∈g'.lg,i∈g.lg\/B<=i
theorem Up.refl (B:Nat)(g:G):Up B g g:=⟨fun _ _=>rfl,fun _ h=>.inl h⟩
theorem Up.trans {B:Nat}{g g1 g2:G}(h:Up B g g1)(h2:Up B g1 g2):Up B g g2:=⟨fun i hi=>by rw[h2.1 i hi,h.1 i hi],fun i hi=>(h2.2 i hi).elim (fun h3=>h.2 i h3) .inr⟩
theorem Up.mono {B B':Nat}{g g':G}(h:Up B g g')(hb:B'<=B):Up B' g g':=⟨fun i hi=>h.1 i (by omega),fun i hi=>(h.2 i hi).imp id fun h=>by omega⟩
theorem Up.new {B:Nat}{g:G}(hb:B<=g.nx)(o:AObj):Up B g (g.new o):=⟨fun i hi=>by rw[G.new_h,ap _ _ _ (by omega)],fun i hi=>by simp at hi;rcases hi with rfl | hi;exact .inr hb;exact .inl hi⟩
theorem Up.put {B:Nat}{g:G}{j:Nat}(hb:B<=j)(o:AObj):Up B g (g.put j o):=⟨fun i hi=>by rw[G.put_h,ap _ _ _ (by omega)],fun i hi=>by simp at hi;rcases hi with rfl | hi;exact .inr hb;exact .inl hi⟩
theorem oU {g:G}{b:Nat}{v:AV}{sz n i off:Nat}{rows:List (List AV)}{row row':List AV}{x:AV}{K:AV->G->Prop}{D:ADf->Prop}(hv:Own g b v sz rows)(hr:rows[i]?=some row)
  (hl:x.cells.length=n) (ht:x.isTup=false) (hp:bV row off x.cells=some row')
  (k:∀g',Own g' b v sz (rows.set i row')->g'.nx=g.nx->(∀i,vid v≠some i->g'.h.get i=g.h.get i)->Up b g g'->K .undef g'):(lC n (iQ sz v i off) x g).sat K g D:=by
 rcases hv with ⟨rfl,rfl⟩ | ⟨id,ep,lo,h1,h2,rfl,h3⟩
 ·simp at hr
 ·simp only[iQ,Nat.zero_add]
  rw[xL h3 hr rfl ht hl hp]
  refine k _ (.inr ⟨id,ep,lo,h1,by simpa using h2,by simp,by simp[aR]⟩) (by simp) (fun i hne=>?_) (Up.put h1 _)
  rw[G.put_h,ap _ _ _ (fun e=>hne (by rw[e];rfl))]
def Uo (B:Nat)(g g':G):Prop:=Up B g g'/\g.nx<=g'.nx/\∀i,i≠B->i<g.nx->g'.h.get i=g.h.get i
theorem Uo.refl (B:Nat)(g:G):Uo B g g:=⟨Up.refl _ _,Nat.le_refl _,fun _ _ _=>rfl⟩
theorem Uo.trans {B:Nat}{g g1 g2:G}(h:Uo B g g1)(h2:Uo B g1 g2):Uo B g g2:=⟨h.1.trans h2.1,Nat.le_trans h.2.1 h2.2.1,fun i hi hn=>by rw[h2.2.2 i hi (Nat.lt_of_lt_of_le hn h.2.1),h.2.2 i hi hn]⟩
def Ul (B:Nat)(g g':G):Prop:=Up B g g'/\g.nx<=g'.nx/\∀i,(i<B\/B+3<=i)->i<g.nx->g'.h.get i=g.h.get i
theorem Ul.put {B:Nat}{g:G}{j:Nat}(hb:B<=j)(hb2:j<B+3)(o:AObj):Ul B g (g.put j o):=⟨Up.put hb o,by simp,fun i hi _=>by rw[G.put_h,ap _ _ _ (by omega)]⟩
def LMc (id:Nat)(w u:AV)(k:Nat):List (Nat×AV):=[(0,.yld id),(1,.tptr 0 1 [[w]] 0 0),(3,u),(4,.int .i64 (k:Int))]
structure OdoC (cs vs:List Int) (L:List (Nat×AV)) (u:AV) (g0:G) (m:Nat) (t:T) (g:G):Prop where
 st:tat t 5=.int .i64 ((m:Int) - 1)
 ss:St t L
 ow:Own g g0.nx u 1 ((vs.take m++List.replicate (vs.length - m) 0).map ci)
 mx:∀(j:Nat) (c:Int),m<=j->cs[j]?=some c->vs[j]?.getD 0=c - 1
theorem Iz {d id k m:Nat}{cs vs:List Int}{w u:AV}{Q:QT}{t:T}{g g0:G}(hb:CsOk cs)(hw:SlR NoP 0 .nil cs w)(hc:InC cs vs)(hm:m<=cs.length)
  (h0:OdoC cs vs (LMc id w u k) u g0 m t g) (hvu:vid u=some g0.nx)
  (fin:∀m' t g',m'<=cs.length->OdoC cs vs (LMc id w u k) u g0 m' t g'->g.nx<=g'.nx->Uo g0.nx g g'->(m'=0\/∃x c,vs[m' - 1]?=some x/\cs[m' - 1]?=some c/\x≠c - 1/\0<m')->Q (.exit 2) t [] g') :
  wpL (wp C0 d none bJ) Q t [] g:=by
 have hvl:=hc.len
 have hl8:=hb.l
 have ri:=fun h=>(hw.tree (h':=h) (Nat.le_refl 0):SlR NoP 0 h cs w).ints
 refine sI (fun m t df g'=>df=[]/\m<=cs.length/\OdoC cs vs (LMc id w u k) u g0 m t g'/\g.nx<=g'.nx/\Uo g0.nx g g') m ⟨rfl,hm,h0,Nat.le_refl _,Uo.refl _ _⟩ ?_
 rintro m t df g1 ⟨rfl,hm,⟨h5,⟨h0,h1,h3,h4,-⟩,how,hmx⟩,hnx,hfr⟩
 simp only[bJ]
 cases m with
 | zero =>
  have c1:¬((0:Int)<=((0:Nat):Int) - 1):=by omega
  simp only[sz,simprocAttr,h5,c1]
  refine fin 0 _ _ (Nat.zero_le _) ⟨?_,?_,?_,hmx⟩ ?_ ?_ (.inl rfl)
  ·simp[sx,h5]
  ·simp[St,LMc,sx,h0,h1,h3,h4]
  ·exact how
  ·exact hnx
  ·exact hfr
 | succ m =>
  have c1:(0:Int)<=((m+1:Nat):Int) - 1:=by omega
  have e1:((m+1:Nat):Int) - 1=(m:Int):=by omega
  rw[e1] at c1 h5
  obtain ⟨x,hx,-,hxm⟩:=ae (l:=cs) (j:=m) (by omega)
  obtain ⟨v,hv,hv0,hv1⟩:=hc.get hx
  have hcx:=hb.b x hxm
  have u1:m<((vs.take (m+1)++List.replicate (vs.length - (m+1)) 0).map ci).length:=by simp;omega
  have u2:((vs.take (m+1)++List.replicate (vs.length - (m+1)) 0).map ci)[m]?=some (ci v):=by
   rw[List.getElem?_map,List.getElem?_append_left (by simp;omega),List.getElem?_take_of_lt (by omega),hv];rfl
  have z1:m<(cs.map ci).length:=by simp;omega
  have z2:(cs.map ci)[m]?=some (ci x):=by rw[List.getElem?_map,hx];rfl
  have ru:=how.rows
  have w1:IntKind.wrap .i64 (x - 1)=x - 1:=aF (by omega) (by omega)
  by_cases c2:v=x - 1
  ·simp only[sz,simprocAttr,h5,h1,h3,c1,ru,u1,u2,ri,z1,z2,bB,ci,w1,c2]
   refine oU (v:=u) (sz:=1) (n:=1) (i:=m) (off:=0) (x:=.int .i64 0) (row':=ci 0) how u2 rfl rfl rfl fun g4 hu4 n4 f4 p4=>?_
   rw[<-List.map_set,zF (by omega)] at hu4
   have w2:IntKind.wrap .i64 ((m:Int) - 1)=(m:Int) - 1:=aF (by omega) (by omega)
   simp only[sz,simprocAttr,h5,w2]
   refine ⟨m,by omega,by omega,⟨by simp[sx],by simp[St,LMc,sx,h0,h1,h3,h4],hu4,fun j c hj hc'=>?_⟩,by omega,hfr.trans ⟨p4,by omega,fun i hi _=>f4 i fun e=>hi (by rw[hvu] at e;injection e with e;exact e.symm)⟩⟩
   by_cases e:j=m
   ·subst e
    rw[hx] at hc';injection hc' with hc'
    rw[hv,Option.getD_some];omega
   ·exact hmx j c (by omega) hc'
  ·simp only[sz,simprocAttr,h5,h1,h3,c1,ru,u1,u2,ri,z1,z2,bB,ci,w1,c2]
   refine fin (m+1) _ _ hm ⟨?_,?_,?_,hmx⟩ ?_ ?_ (.inr ⟨v,x,hv,hx,c2,by omega⟩)
   ·simp[sx,h5]
   ·simp[St,LMc,sx,h0,h1,h3,h4]
   ·exact how
   ·exact hnx
   ·exact hfr
theorem IZ {d id:Nat}{cs:List Int}{w:AV}{g0:G}{K:AV->G->Prop}(hb:CsOk cs)(hw:SlR NoP 0 .nil cs w)
  (J:Nat->G->Prop) (E:G->Prop) (hJ:∀j g g',Uo g0.nx g g'->J j g->J j g')
  (step:∀(j:Nat) (u:AV) (g:G) (K':AV->G->Prop) (D:ADf->Prop),j<S.nc cs->g0.nx<=g.nx->J j g->SlR (fun i=>g0.nx<=i/\i<g.nx) 0 g.h (S.ak cs j) u ->
   (∀g',J (j+1) g'->g.nx<=g'.nx->(∀i,g0.nx<=i->i<g.nx->g'.h.get i=g.h.get i)->K' (.bool true) g')->(∀g',E g'->K' (.bool false) g')->(cy (I C0) d id [.int .i64 (j:Int),u] g).sat K' g D)
  (h0:J 0 g0) (fin:∀g',J (S.nc cs) g'->g0.nx<=g'.nx->K (.tup []) g') (finE:∀g',E g'->K (.tup []) g') :
  wp C0 d none aN.code (fnQ C0 d aN.res K) (bH 0 [.yld id,.tptr 0 1 [[w]] 0 0] .nil) [] g0:=by
 have hl8:=hb.l
 obtain ⟨W1,W2,W3⟩:=hb.nc
 have hcs1:=fun c hc=>(hb.b c hc).1
 have nl:=hw.len
 have ri:=fun h=>(hw.tree (h':=h) (Nat.le_refl 0):SlR NoP 0 h cs w).ints
 obtain ⟨Qf,hQf⟩:∃Qf,Qf=fnQ C0 d aN.res K:=⟨_,rfl⟩
 rw[<-hQf]
 simp only[sz,simprocAttr,aN,bB,nl]
 refine nA (b:=g0.nx) (n:=cs.length) (by unfold aO;omega) (by unfold aO;omega) (Nat.le_refl _) fun u g1 hu n1 fr1 v1 l1=>?_
 simp only[sz,simprocAttr]
 obtain ⟨INV,hINV⟩:∃INV:Nat->PT,INV=(fun m t df g=>df=[]/\∃(j:Nat) (vs:List Int),m=S.nc cs - j/\j<S.nc cs/\InC cs vs/\S.af cs vs=(j:Int)/\St t (LMc id w u j)/\Own g g0.nx u 1 (vs.map ci)/\J j g/\g0.nx<=g.nx):=⟨_,rfl⟩
 refine sI INV (S.nc cs) ?_ ?_
 ·rw[hINV]
  exact ⟨rfl,0,List.replicate cs.length 0,rfl,by omega,Im hcs1,by rw[wG];rfl,by simp[St,LMc,sx],by simpa [ci] using hu,hJ 0 _ _ ⟨⟨fr1,fun i hi=>by rw[l1] at hi;rcases List.mem_cons.1 hi with rfl | hi;exact .inr (Nat.le_refl _);exact .inl hi⟩,by omega,fun i _ hn=>fr1 i hn⟩ h0,by omega⟩
 intro m t df g hI
 have hI2:=hI
 rw[hINV] at hI2
 obtain ⟨rfl,j,vs,rfl,hj,hin,hidx,⟨h0,h1,h3,h4,-⟩,ho,hJj,hnx⟩:=hI2
 clear hI
 have hvl:=hin.len
 have hval:S.ak cs (j:Int)=vs:=by rw[<-hidx];exact CK hcs1 hin
 have hvu:vid u=some g0.nx:=v1
 have hsl:SlR (fun i=>g0.nx<=i/\i<g.nx) 0 g.h vs u:=Own.sl (α:=Int) ho (by omega) (All2.of_map (fun a=>aU.2 rfl) _) fun i hi=>ho.lt hi
 have w1:IntKind.wrap .i64 ((cs.length:Int) - 1)=(cs.length:Int) - 1:=aF (by omega) (by omega)
 obtain ⟨R,hR⟩:∃R,R=(SC.seq (.blk 1 (sQ [oL 15 1,oN 16 15,o 17 (.bin .sub (.t 16) (qI 1)),oM 5 17] (.seq (.blk 2 (.loop bJ)) bL))) cO):=⟨_,rfl⟩
 simp only[fC]
 rw[<-hR,ei]
 obtain ⟨Q1,hQ1⟩:∃Q1,Q1=kL INV (S.nc cs - j) (kB 0 Qf):=⟨_,rfl⟩
 rw[<-hQ1]
 have rest:∀(t:T) (g:G),St t (LMc id w u j)->Own g g0.nx u 1 (vs.map ci)->J (j+1) g->g0.nx<=g.nx->wp C0 d none R Q1 t [] g:=by
  rintro t g ⟨h0,h1,h3,h4,-⟩ ho hJj hnx
  rw[hR,hQ1]
  simp only[sz,simprocAttr,h1,bB,nl,w1]
  refine Iz (id:=id) (k:=j) (m:=cs.length) (w:=w) (u:=u) (vs:=vs) (g0:=g0) hb hw hin (Nat.le_refl _) ⟨by simp[sx],by simp[St,LMc,sx,h0,h1,h3,h4],?_,fun i c hi hc=>?_⟩ hvu ?_
  ·rw[List.take_of_length_le (by omega),show vs.length - cs.length=0 by omega]
   simpa using ho
  ·have:=(List.getElem?_eq_some_iff.1 hc).1
   omega
  rintro m' t2 g2 hm' ⟨h5,⟨h0,h1,h3,h4,-⟩,ho2,hmx⟩ hn2 hf2 hcase
  have hJ2:J (j+1) g2:=hJ _ _ _ hf2 hJj
  rcases hcase with rfl | ⟨x,c,hx,hc,hxc,hm0⟩
  ·have hlast:j+1=S.nc cs:=by
    have:=Ab (cs:=cs) (vs:=vs) hin.len.symm fun i c hc=>hmx i c (Nat.zero_le _) hc
    omega
   have c1:(((0:Nat):Int) - 1<0):=by omega
   rw[hQf]
   simp only[sz,simprocAttr,bL,aN,h5,c1]
   rw[hlast] at hJ2
   exact fin g2 hJ2 (by omega)
  ·obtain ⟨i,rfl⟩:∃i,m'=i+1:=⟨m' - 1,by omega⟩
   rw[Nat.add_sub_cancel] at hx hc
   have hil:=(List.getElem?_eq_some_iff.1 hx).1
   have e1:((i+1:Nat):Int) - 1=(i:Int):=by omega
   rw[e1] at h5
   have c1:¬((i:Int)<0):=by omega
   have u1:i<((vs.take (i+1)++List.replicate (vs.length - (i+1)) 0).map ci).length:=by simp;omega
   have u2:((vs.take (i+1)++List.replicate (vs.length - (i+1)) 0).map ci)[i]?=some (ci x):=by
    rw[List.getElem?_map,List.getElem?_append_left (by simp;omega),List.getElem?_take_of_lt (by omega),hx];rfl
   have ru:=ho2.rows
   obtain ⟨x',hx',hx0,hx1⟩:=hin.get hc
   rw[Ix hx' hx] at hx0 hx1
   have hcb:=hb.b c (List.mem_of_getElem? hc)
   have w2:IntKind.wrap .i64 (x+1)=x+1:=aF (by omega) (by omega)
   simp only[sz,simprocAttr,bL,h5,c1,h3,ru,u1,u2,ci,w2]
   refine oU (v:=u) (sz:=1) (n:=1) (i:=i) (off:=0) (x:=.int .i64 (x+1)) (row':=ci (x+1)) ho2 u2 rfl rfl rfl fun g4 hu4 n4 f4 p4=>?_
   rw[<-List.map_set,zR hil] at hu4
   have hin2:=HA hin hcs1 hx hc hxc
   have hidx2:=Hk (cs:=cs) (vs:=vs) hin.len.symm hx fun k c hk hc=>hmx k c (by omega) hc
   rw[hidx] at hidx2
   have hlt2:=cT hb.b hin2
   have w3:IntKind.wrap .i64 ((j:Int)+1)=((j+1:Nat):Int):=by rw[aF (by omega) (by omega)];rfl
   simp only[sz,simprocAttr,cO,h4,w3]
   refine ⟨S.nc cs - (j+1),by omega,?_⟩
   rw[hINV]
   refine ⟨rfl,j+1,_,rfl,by omega,hin2,by rw[hidx2];rfl,by simp[St,LMc,sx,h0,h1,h3],hu4,hJ _ _ _ ⟨p4,by omega,fun i hi _=>f4 i fun e=>hi (by rw[hvu] at e;injection e with e;exact e.symm)⟩ hJ2,by omega⟩
 simp only[sz,simprocAttr,h0,h3,h4]
 have st:=fun K' D=>step j u g K' D hj hnx hJj (by rw[hval];exact hsl)
 show (cy (I C0) d id [.int .i64 (j:Int),u] g).sat _ _ _
 refine st _ _ (fun g' hJ' hn' hf'=>?_) fun g' hE=>?_
 ·simp only[sz,simprocAttr]
  exact rest _ _ (by simp[St,LMc,sx,h0,h1,h3,h4]) (ho.fr hn' fun i hi=>hf' i (ho.lt hi).1 (ho.lt hi).2) hJ' (by omega)
 ·rw[hQ1,hQf]
  simp only[sz,simprocAttr,aN]
  exact finE g' hE
theorem Gx:C0.ext N.ae=none:=by kernel_rfl
theorem EW {d nt p q r:Nat}{cs:List Int}{w:AV}{ca cb:SC}{Q:QT}{t:T}{df:List ADf}{g:G}(hb:CsOk cs)(hw:SlR NoP 0 .nil cs w)
  (hv:tat t r=.clo N.ae [] [.tptr 0 1 [[w]] 0 0]) (hp:p<nt) (hq:q<nt)
  (J:Nat->G->Prop) (E:G->Prop) (hJ:∀j g1 g2,Ul g.nx g1 g2->J j g1->J j g2) (hE:∀g1 g2,Ul g.nx g1 g2->E g1->E g2) (h0:J 0 g)
  (step:∀(j:Nat) (u:AV) (g1:G),j<S.nc cs->J j g1->g.nx+2<=g1.nx->SlR (fun i=>g.nx+2<=i/\i<g1.nx) 0 g1.h (S.ak cs j) u ->
   wp C0 d (some (g.nx+1)) ca (fun e t1 df g1'=>e=.norm/\df=[]/\Fr g1 g1'/\∀g2:G,g2.nx=g1'.nx->(∀i,i≠g.nx+1->g2.h.get i=g1'.h.get i)->Up g.nx g1' g2 ->
    wp C0 d (some (g.nx+1)) cb (fun e _ df g3=>df=[]/\RowQ g.nx g2 g3 e (J (j+1) g3) (E g3)) t1 [] g2)
    (dF (dF t p (.int .i64 (j:Int))) q u) [] g1)
  (fin:∀g',J (S.nc cs) g'->g.nx+2<=g'.nx->g'.h.get g.nx=.dfr true->Q .norm t (.mark g.nx::df) g')
  (finE:∀g',E g'->g.nx+2<=g'.nx->g'.h.get g.nx=.dfr true->Q .ret t (.mark g.nx::df) g') :
  wp C0 d none (.rng nt (.t r) [p,q] ca cb) Q t df g:=by
 refine su (fn:=N.ae) (first:=[]) (cap:=[.tptr 0 1 [[w]] 0 0]) (s:=aN) hv Gx nk (by simp[aN]) ?_
 intro assign body ha hb'
 have e1:((g.new (.dfr true)).new (.loop nt t [p,q] assign body g.nx .ready none)).nx=g.nx+2:=by simp
 refine IZ (g0:=(g.new (.dfr true)).new (.loop nt t [p,q] assign body g.nx .ready none)) (id:=g.nx+1) hb hw
  (fun j g'=>J j g'/\g'.h.get g.nx=.dfr true/\g'.h.get (g.nx+1)=.loop nt t [p,q] assign body g.nx .ready none)
  (fun g'=>E g'/\g'.h.get g.nx=.dfr true/\g'.h.get (g.nx+1)=.loop nt t [p,q] assign body g.nx .done (some .ret)/\g.nx+2<=g'.nx) ?_ ?_ ?_ ?_ ?_
 ·rintro j h h' hh ⟨a1,a2,a3⟩
  rw[e1] at hh
  exact ⟨hJ j h h' ⟨hh.1.mono (by omega),hh.2.1,fun i hi hn=>hh.2.2 i (by omega) hn⟩ a1,by rw[hh.1.1 _ (by omega),a2],by rw[hh.1.1 _ (by omega),a3]⟩
 ·rintro j u g1 K' D hj hn ⟨a1,a2,a3⟩ hsl kk kE
  rw[e1] at hn kk hsl
  refine yB a3 ha hb' (t':=dF (dF t p (.int .i64 (j:Int))) q u) ?_ ?_
  ·simp only[cQ,aa,Nat.blt_eq,if_pos hp,if_pos hq];rfl
  ·refine bX _ (step j u g1 hj a1 (by omega) hsl) ?_
   rintro e t1 df g1' ⟨rfl,rfl,hfr,h⟩
   have hl0:g.nx+1<g1.nx:=by omega
   have hl:g.nx+1<g1'.nx:=Nat.lt_of_lt_of_le hl0 hfr.1
   have a2':g1'.h.get g.nx=.dfr true:=by rw[hfr.2 _ (by omega),a2]
   have a3':g1'.h.get (g.nx+1)=.loop nt t [p,q] assign body g.nx .ready none:=by rw[hfr.2 _ hl0,a3]
   refine ⟨rfl,rfl,a3',?_⟩
   refine bX _ (h (g1'.put (g.nx+1) (.loop nt t [p,q] assign body g.nx .busy none)) (by simp) (fun i hi=>by simp[H.get_put,hi]) (Up.put (by omega) _)) ?_
   rintro e t2 df g3 ⟨rfl,⟨b2,b3,b1⟩⟩
   have b4:g3.h.get (g.nx+1)=.loop nt t [p,q] assign body g.nx .busy none:=by rw[b3 _ (by omega) (by simpa using hl)];simp[H.get_put]
   have b5:g3.h.get g.nx=.dfr true:=by
    rw[b3 _ (by omega) (by simp;omega)];simp[H.get_put,a2']
   refine ⟨rfl,b4,?_⟩
   have b2':g1'.nx<=g3.nx:=by simpa using b2
   have hf1:=hfr.1
   rcases b1 with ⟨rfl,b1⟩ | ⟨rfl,b1⟩
   ·refine .inl ⟨rfl,kk _ ⟨hJ _ g3 _ (Ul.put (by omega) (by omega) _) b1,?_,?_⟩ (by simp;omega) fun i h1 h2=>?_⟩
    ·simp[H.get_put,b5]
    ·simp[H.get_put]
    ·have hne:¬i=g.nx+1:=by omega
     have:=b3 i (by omega) (by simp;omega)
     simp[H.get_put,hne] at this ⊢
     rw[this,hfr.2 i h2]
   ·refine .inr ⟨rfl,kE _ ⟨hE g3 _ (Ul.put (by omega) (by omega) _) b1,?_,?_,?_⟩⟩
    ·simp[H.get_put,b5]
    ·simp[H.get_put]
    ·simp;omega
 ·refine ⟨hJ 0 g _ ⟨(Up.new (Nat.le_refl _) _).trans (Up.new (by simp) _),by simp;omega,fun i hi hn=>by simp[H.get_put,show ¬i=g.nx by omega,show ¬i=g.nx+1 by omega]⟩ h0,?_,?_⟩
  ·simp[H.get_put]
  ·simp[H.get_put]
 ·rintro g' ⟨a1,a2,a3⟩ hn
  rw[e1] at hn
  refine ⟨_,_,_,_,_,_,.inl ⟨a3,fin _ (hJ _ g' _ (Ul.put (by omega) (by omega) _) a1) (by simpa using hn) ?_⟩⟩
  simp[H.get_put,a2]
 ·rintro g' ⟨a1,a2,a3,hn⟩
  refine ⟨_,_,_,_,_,_,.inr ⟨a3,finE _ (hE g' _ (Ul.put (by omega) (by omega) _) a1) (by simpa using hn) ?_⟩⟩
  simp[H.get_put,a2]
theorem wI {d nt p q r:Nat}{cs:List Int}{w:AV}{ca cb:SC}{Q:QT}{t:T}{df:List ADf}{g:G}(hb:CsOk cs)(hw:SlR NoP 0 .nil cs w)
  (hv:tat t r=.clo N.ae [] [.tptr 0 1 [[w]] 0 0]) (hp:p<nt) (hq:q<nt)
  (J:Nat->G->Prop) (E:G->Prop) (hJ:∀j g1 g2,Up g.nx g1 g2->J j g1->J j g2) (hE:∀g1 g2,Up g.nx g1 g2->E g1->E g2) (h0:J 0 g)
  (step:∀(j:Nat) (u:AV) (g1:G),j<S.nc cs->J j g1->g.nx+2<=g1.nx->SlR (fun i=>g.nx+2<=i/\i<g1.nx) 0 g1.h (S.ak cs j) u ->
   wp C0 d (some (g.nx+1)) ca (fun e t1 df g1'=>e=.norm/\df=[]/\Fr g1 g1'/\∀g2:G,g2.nx=g1'.nx->(∀i,i≠g.nx+1->g2.h.get i=g1'.h.get i)->Up g.nx g1' g2 ->
    wp C0 d (some (g.nx+1)) cb (fun e _ df g3=>df=[]/\RowQ g.nx g2 g3 e (J (j+1) g3) (E g3)) t1 [] g2)
    (dF (dF t p (.int .i64 (j:Int))) q u) [] g1)
  (fin:∀g',J (S.nc cs) g'->g.nx+2<=g'.nx->g'.h.get g.nx=.dfr true->Q .norm t (.mark g.nx::df) g')
  (finE:∀g',E g'->g.nx+2<=g'.nx->g'.h.get g.nx=.dfr true->Q .ret t (.mark g.nx::df) g') :
  wp C0 d none (.rng nt (.t r) [p,q] ca cb) Q t df g :=
 EW hb hw hv hp hq J E (fun j g1 g2 h=>hJ j g1 g2 h.1) (fun g1 g2 h=>hE g1 g2 h.1) h0 step fin finE
def CbV (cs:List Int):VS:=fun P k h v=>∃p,v=.clo N.ae [] [p]/\CD cs 1 P k h p
theorem Km (cs:List Int):Snb (CbV cs) 2:=by
 refine ⟨fun {P k h v n} d r hn=>?_,fun {k h v n} r hn=>?_⟩
 ·obtain ⟨p,rfl,r1⟩:=r
  obtain ⟨n,rfl⟩:∃q,n=q+2:=⟨n - 2,by omega⟩
  obtain ⟨p',e1,r1'⟩:=Cc (n:=n) d r1 (Nat.le_trans (show Rp.dp (List Int)<=20 by decide) (by omega))
  refine ⟨.clo N.ae [] [p'],?_,p',rfl,r1'⟩
  simp only[Hx.snap,aD] at e1 ⊢
  rw[e1]
 ·obtain ⟨p,rfl,r1⟩:=r
  obtain ⟨n,rfl⟩:∃q,n=q+2:=⟨n - 2,by omega⟩
  obtain ⟨m1,e1,l1⟩:=D1 (n:=n) r1
  refine ⟨Nat.max m1 0,?_,by show max m1 0<=k;omega⟩
  show fL (d6 (n+1)) [p]=_
  simp only[fL,e1]
theorem Ap {d:Nat}{g:G}{w:AV}{cs:List Int}(hd:0<d)(hw:SlR NoP 0 g.h cs w) :
  ∃z,au C0 d N.am [w] g=.val (.clo N.ae [] [.tptr 0 1 [[z]] 0 0])/\SlR NoP 0 .nil cs z:=by
 have key:∃r,au C0 d N.am [w] g=.val r/\CbV cs NoP 0 .nil r:=by
  rw[nK]
  refine bp pz (xs:=[w]) (by simp only[aD,qN d hw]) (by simp[eT]) (Km cs) (by decide) hd ?_
  simp only[sz,simprocAttr,eT,ij,Ae hw]
  refine ⟨fun _=>True,_,rfl,.inl ⟨0,[w],rfl,trivial,by simp[sx,H.get_put],?_⟩⟩
  exact ⟨w,rfl,hw.wide (Nat.le_refl 0)⟩
 obtain ⟨r,hr,p,rfl,r1⟩:=key
 rcases r1 with ⟨id,cs,rfl,hP,-⟩ | ⟨t,cs2,rfl,ht,r1⟩
 ·exact hP.elim
 obtain ⟨z,rfl,hz⟩:=cK.1 r1
 have:t=0:=by omega
 subst this
 exact ⟨z,hr,hz⟩
theorem Bq {cs vs:List Int}{c v:Int}(h:cs.length=vs.length):S.af (cs++[c]) (vs++[v])=S.af cs vs*c+v:=by
 have h1:=sW (cs++[c]) (vs++[v]) 0 (by simp[h])
 have h2:=sW cs vs 0 h
 have h3:S.bD (cs++[c]) (vs++[v]) 0=S.bD cs vs 0*c+v:=by
  unfold S.bD
  rw[List.zip_append h,List.foldl_append]
  rfl
 rw[Int.zero_mul,Int.zero_add] at h1 h2
 rw[<-h1,h3,h2]
theorem gf {cs:List Int}(hc:∀c∈cs,1<=c/\c<=4)(hl:cs.length<=8)(j:Nat):S.ae (cs.take j)<=65536:=by
 obtain ⟨-,h2⟩:=ch (l:=cs.take j) fun c h=>hc c (List.mem_of_mem_take h)
 have h3:(4:Int) ^ (cs.take j).length<=4 ^ 8:=by
  have:(4:Nat) ^ (cs.take j).length<=4 ^ 8:=Nat.pow_le_pow_right (by decide) (by rw[List.length_take];omega)
  exact_mod_cast this
 have h4:(4:Int) ^ 8=65536:=by decide
 omega
theorem IM {d k2 i:Nat}{g:G}{P2:Nat->Prop}{v w:AV}{n:Net}{x:Node}{vals:List Int}(hd:0<d)(hv:SlR NoP 0 .nil n.nodes v)(hr:NR n)(hx:n.nodes[i]?=some x)(hw:SlR P2 k2 g.h vals w)(hin:InC (S.aa n) vals) :
  au C0 d N.aW [v,.int .i64 (i:Int),w] g=.val (.int .i64 (S.af (S.ac (S.aa n) x.parents) (S.ac vals x.parents))):=by
 obtain ⟨w',e2,hw'⟩:=aV hw d
 have e1:=qN (h:=g.h) d (hv.tree (h':=g.h) (Nat.le_refl 0))
 obtain ⟨rows,r1,r2,r3,r4⟩:=hv.all
 have r1:∀h',af h' 3 v=some rows:=r1
 have hil:=(List.getElem?_eq_some_iff.1 hx).1
 have hxm:=List.mem_of_getElem? hx
 obtain ⟨row,q1,q2⟩:=r3 i x hx
 obtain ⟨pa,ra,rfl,hpa,-⟩:=bM.1 q2
 have hlt:i<rows.length:=by omega
 have hry:=r4 (by omega)
 have hl8:=hr.l2
 have hvl:=hin.len
 rw[ay] at hvl
 have hpl:=cX (hr.places x hxm) (by omega)
 have hpin:=hr.pin hxm
 have lpa:=hpa.len
 have rpa:=fun h=>(hpa.tree (h':=h) (Nat.le_refl 0)).ints
 have rw':=fun h=>(hw' h).ints
 have hC:=eP hin hpin
 have hb:=cA hr.cs hpin
 have hll:(S.ac (S.aa n) x.parents).length=x.parents.length:=by simp[S.ac]
 have hlv:(S.ac vals x.parents).length=x.parents.length:=by simp[S.ac]
 rw[wn]
 refine eZ z9 (xs:=[v,.int .i64 (i:Int),w']) (by simp only[aD,e1,e2,eW 0]) (by simp[pU]) hd ?_
 simp only[sz,simprocAttr,pU,r1,hlt,q1,hry,lpa,qb]
 refine aX (m:=x.parents.length) (by omega) (fun j t df g=>df=[]/\St t [(0,v),(2,w'),(14,pa),(7,.int .i64 (S.af ((S.ac (S.aa n) x.parents).take j) ((S.ac vals x.parents).take j)))]) ⟨rfl,by simp[St,sx,S.af]⟩ (by simp[sx]) (by simp[sx]) (by decide)
  (by rintro j t df g v s (rfl | rfl | rfl)<;>simp[sx,St]) ?_ ?_
 ·rintro j t df g hj ⟨rfl,h0,h2,h14,h7,-⟩ h16 h15
  obtain ⟨p,hp,-,hpm⟩:=ae hj
  obtain ⟨p0,p1⟩:=hpin p hpm
  rw[ay] at p1
  obtain ⟨pn,rfl⟩:=Int.eq_ofNat_of_zero_le p0
  have hpn:pn<n.nodes.length:=by omega
  obtain ⟨y,hy,-,hym⟩:=ae (l:=n.nodes) (j:=pn) hpn
  obtain ⟨row2,s1,s2⟩:=r3 pn y hy
  obtain ⟨pa2,ra2,rfl,-,-⟩:=bM.1 s2
  have hlt2:pn<rows.length:=by omega
  obtain ⟨z,hz,-,-⟩:=ae (l:=vals) (j:=pn) (by omega)
  have a1:j<(x.parents.map ci).length:=by simpa using hj
  have a2:(x.parents.map ci)[j]?=some (ci (pn:Int)):=by rw[List.getElem?_map,hp];rfl
  have b1:pn<(vals.map ci).length:=by rw[List.length_map];omega
  have b2:(vals.map ci)[pn]?=some (ci z):=by rw[List.getElem?_map,hz];rfl
  have c1:(S.ac (S.aa n) x.parents).take (j+1)=(S.ac (S.aa n) x.parents).take j++[y.card]:=by
   rw[List.take_succ_eq_append_getElem (by omega)]
   congr 1
   simp only[S.ac,List.getElem_map]
   have:x.parents[j]=(pn:Int):=by rw[List.getElem?_eq_getElem hj] at hp;injection hp
   rw[this]
   simp[S.aa,hy]
  have c2:(S.ac vals x.parents).take (j+1)=(S.ac vals x.parents).take j++[z]:=by
   rw[List.take_succ_eq_append_getElem (by omega)]
   congr 1
   simp only[S.ac,List.getElem_map]
   have:x.parents[j]=(pn:Int):=by rw[List.getElem?_eq_getElem hj] at hp;injection hp
   rw[this]
   simp[hz]
  have hsn:S.af ((S.ac (S.aa n) x.parents).take (j+1)) ((S.ac vals x.parents).take (j+1))=S.af ((S.ac (S.aa n) x.parents).take j) ((S.ac vals x.parents).take j)*y.card+z:=by
   rw[c1,c2]
   exact Bq (by simp[hll,hlv])
  have i1:=cT (fun c h=>hb c (List.mem_of_mem_take h)) (hC.take j)
  have i2:=cT (fun c h=>hb c (List.mem_of_mem_take h)) (hC.take (j+1))
  have p1:=gf hb (by rw[hll];omega) j
  have p2:=gf hb (by rw[hll];omega) (j+1)
  rw[hsn] at i2 ⊢
  have hyc:=hr.card y hym
  obtain ⟨A,hA⟩:∃A,A=S.af ((S.ac (S.aa n) x.parents).take j) ((S.ac vals x.parents).take j):=⟨_,rfl⟩
  rw[<-hA] at h7 i1 i2 ⊢
  have hm0:0<=A*y.card:=Int.mul_nonneg i1.1 (by omega)
  have hm1:A*y.card<=65536*4:=Int.mul_le_mul (by omega) (by omega) (by omega) (by omega)
  have w1:IntKind.wrap .i64 (A*y.card)=A*y.card:=aF (by omega) (by omega)
  have w2:IntKind.wrap .i64 (A*y.card+z)=A*y.card+z:=aF (by omega) (by omega)
  simp only[sz,simprocAttr,h0,h2,h14,h7,h16,rpa,a1,a2,ci,r1,hlt2,s1,hry,rw',b1,b2,w1,w2]
  simp[St,sx,h0,h2,h14,h15,h16]
 ·rintro t df g ⟨rfl,h0,h2,h14,h7,-⟩
  rw[List.take_of_length_le (by omega),List.take_of_length_le (by omega)] at h7
  simp only[sz,simprocAttr,qe,h7]
theorem Kd {g:G}{n:Nat}{K:AV->G->Prop}{D:ADf->Prop}(hn:n<=65536)(k:∀g',g'.h.get g.nx=.cells 1 ((List.replicate n 0).map ci) 0 false false->g'.nx=g.nx+1->Up g.nx g g'->K (.hsl g.nx 0 0 0 none) g') :
  (x9 1 8 [.int .i64 0] (.int .i64 0) (.int .i64 (n:Int)) g).sat K g D:=by
 have h1:n<=aO:=by unfold aO;omega
 have h2:n*8<=aO:=by unfold aO;omega
 have key:x9 1 8 [.int .i64 0] (.int .i64 0) (.int .i64 (n:Int)) g=.upd (.hsl g.nx 0 0 0 none) (g.new (.cells 1 (eD n [.int .i64 0]) 0 false false)):=by
  show (match bN aO (.int .i64 (.ofNat n)) with
   | some cn=>match bN cn (.int .i64 0) with
    | some ln=>aq (Nat.ble (cn*8) aO) (OR.upd (.hsl g.nx 0 0 ln none) (g.new (.cells 1 (eD cn [.int .i64 0]) 0 false false))) .fail
    | none=>.fail
   | none=>.fail)=_
  have a1:bN aO (.int .i64 (.ofNat n))=some n:=by
   show aq (Nat.ble n aO) (some n) none=_
   rw[aa,if_pos (by simpa using h1)]
  have a2:bN n (.int .i64 0)=some 0:=by
   show aq (Nat.ble 0 n) (some 0) none=_
   rw[aa,if_pos (by simp)]
  rw[a1];dsimp only;rw[a2];dsimp only
  rw[aa,if_pos (by simpa using h2)]
 rw[key]
 refine k _ ?_ (by simp) (Up.new (Nat.le_refl _) _)
 simp[aR,eD,ci]
theorem FA {g:G}{id:Nat}{l tl:List Int}{x y:Int}{w:AV}{K:AV->G->Prop}{D:ADf->Prop}(hv:g.h.get id=.cells 1 (l.map ci++(y::tl).map ci) 0 false false)(hx:af g.h 1 w=some [ci x])(hr:l.length<=65536)
  (k:K (.hsl id 0 0 (l++[x]).length none) (g.put id (.cells 1 ((l++[x]).map ci++tl.map ci) 0 false false))):(dk 1 8 (.hsl id 0 0 l.length none) w g).sat K g D:=by
 unfold dk
 rw[hx]
 simp only[bj,G.get_eq,hv,ax,aa,Nat.beq_refl,Bool.true_and,Nat.ble_eq,Bool.and_eq_true,Nat.zero_add,Option.getD_none,Nat.sub_zero,List.length_append,List.length_map,List.length_cons,List.length_nil]
 rw[if_pos ⟨by omega,by unfold aO;omega⟩,if_pos (by omega)]
 have hnb:iD false=true:=rfl
 rw[if_pos ⟨by omega,hnb⟩]
 have e:hZ (l.map ci++(y::tl).map ci) l.length [ci x]=(l++[x]).map ci++tl.map ci:=by
  simp only[hZ,gc]
  rw[List.map_append,List.append_assoc,List.map_cons,List.set_append_right _ _ (by simp)]
  simp
 rw[e]
 have e3:l.length+1=(l++[x]).length:=by simp
 rw[e3]
 exact k
def S.wt (n:Net)(w:Nat):Int:=S.bA n (S.ak (S.aa n) (w:Int))
def S.ax (n:Net)(j:Nat):List Int:=(List.range j).map (S.wt n)
theorem HJ (n:Net)(j:Nat):S.ax n (j+1)=S.ax n j++[S.wt n j]:=by simp[S.ax,List.range_succ]
theorem EF (n:Net)(j:Nat):(S.ax n j).length=j:=by simp[S.ax]
def LWt (B:Nat):List (Nat×AV):=[(1,.hptr B 0 0 0),(4,.hptr (B+2) 0 0 0)]
theorem Ck {d B:Nat}{n:Net}{b u:AV}{vals:List Int}{P:Nat->Prop}{rd:Option Nat}{Q:QT}{t:T}{g:G}(hd:0<d)(hr:NR n)(hN:SlR NoP 0 .nil n.nodes b)(hin:InC (S.aa n) vals)(hu:SlR P 0 g.h vals u)(hP:∀i,P i->i<g.nx)(hB:B<g.nx)
  (gB:g.h.get B=.cells 2 [[.int .i64 n.grain,b]] 0 false false)
  (ht:St t ((6,u)::(21,b)::LWt B)) (h7:tat t 7=.int .i64 1) (h23:tat t 23=.int .i64 0) (h22:tat t 22=.int .i64 (n.nodes.length:Int))
  (fin:∀t g',St t ((7,.int .i64 (S.bA n vals))::(6,u)::LWt B)->Fr g g'->Up g.nx g g'->Q (.exit 2) t [] g'):wpL (wp C0 d rd gx) Q t [] g:=by
 obtain ⟨rows,r1,r2,r3,r4⟩:=hN.all
 have r1:∀h',af h' 3 b=some rows:=r1
 have hl8:=hr.l2
 have hvl:=hin.len
 rw[ay] at hvl
 simp only[gx]
 refine aX (m:=n.nodes.length) (by omega) (fun k t df g'=>df=[]/\St t ((7,.int .i64 (S.ae ((List.range k).map (S.aE n vals))))::(6,u)::(21,b)::LWt B)/\Fr g g'/\Up g.nx g g') ⟨rfl,by
   obtain ⟨h6,h21,h1,h4,-⟩:=ht
   simp[St,LWt,h1,h4,h6,h7,h21,S.ae],Fr.refl _,Up.refl _ _⟩ h23 h22 (by decide)
  (by rintro j t df g v s (rfl | rfl | rfl) ⟨a1,⟨b1,b2,b3,b4,b5,-⟩,c1,c2⟩<;>exact ⟨a1,by simp[St,LWt,sx,b1,b2,b3,b4,b5],c1,c2⟩) ?_ ?_
 ·rintro k t df g1 hk ⟨rfl,⟨h7,h6,h21,h1,h4,-⟩,hF,hU⟩ h23 h22
  obtain ⟨x,hx,-,-⟩:=ae hk
  obtain ⟨row,q1,q2⟩:=r3 k x hx
  obtain ⟨pa,ra,rfl,hpa,hra⟩:=bM.1 q2
  obtain ⟨i,r,c,y,i1,i2,i3,i4,i5,i6,i7,i8,i9⟩:=xD hr hin hx
  obtain ⟨cn,rfl⟩:=Int.eq_ofNat_of_zero_le i5
  rw[Int.toNat_natCast] at i7
  obtain ⟨rr,s1,s2,s3,s4⟩:=vE hra
  obtain ⟨z,t1,t2,hz⟩:=s3 i r i3
  have hlt:k<rows.length:=by omega
  have hry:=r4 (by omega)
  have hry2:=s4 (by omega)
  have hu1:∀g2:G,Fr g1 g2->SlR P 0 g2.h vals u:=fun g2 hF2=>hu.far8 fun i hi=>by
   have:=hP i hi
   rw[hF2.2 i (Nat.lt_of_lt_of_le this hF.1),hF.2 i this]
  have hB1:B<g1.nx:=Nat.lt_of_lt_of_le hB hF.1
  have gB1:g1.h.get B=.cells 2 [[.int .i64 n.grain,b]] 0 false false:=by rw[hF.2 B hB,gB]
  have rz:=fun h=>(hz.tree (h':=h) (Nat.le_refl 0)).ints
  have u1:k<(vals.map ci).length:=by rw[List.length_map];exact (List.getElem?_eq_some_iff.1 i4).1
  have u2:(vals.map ci)[k]?=some (ci (cn:Int)):=by rw[List.getElem?_map,i4];rfl
  have v1:cn<(r.map ci).length:=by rw[List.length_map];exact (List.getElem?_eq_some_iff.1 i7).1
  have v2:(r.map ci)[cn]?=some (ci y):=by rw[List.getElem?_map,i7];rfl
  have wb:=mz hr hin (j:=k+1) (by omega)
  have ws:=rZ n vals k
  rw[i8] at ws
  have w1:IntKind.wrap .i64 (S.ae ((List.range k).map (S.aE n vals))*y)=S.ae ((List.range (k+1)).map (S.aE n vals)):=by rw[<-ws,aF (by omega) (by omega)]
  refine jg (P:=fun t' df g'=>df=[]/\g'=(g1.new (.cells 3 [[.int .i64 0,.nils,.nils]] 0 false false)).put g1.nx (.cells 3 [[.int .i64 x.card,pa,ra]] 0 false false)/\St t' ((9,.hptr g1.nx 0 0 0)::(8,.int .i64 (k:Int))::(23,.int .i64 (k:Int))::(22,.int .i64 (n.nodes.length:Int))::(7,.int .i64 (S.ae ((List.range k).map (S.aE n vals))))::(6,u)::(21,b)::LWt B)) ?_ ?_
  ·have fw:eo [.int .i64 0,.nils,.nils] [((0,3),.agg [.int .i64 x.card,pa,ra])]=some [.int .i64 x.card,pa,ra]:=rfl
   simp only[sz,simprocAttr,h23,h21,r1,hlt,q1,hry]
   simp[St,LWt,sx,h1,h4,h6,h7,h21,h22,h23]
  clear h1 h4 h6 h7 h21 h22 h23
  rintro t df g2 ⟨rfl,hg2,h9,h8,h23,h22,h7,h6,h21,h1,h4,-⟩
  have hF2:Fr g1 g2:=by rw[hg2];exact ⟨by simp,fun i hi=>by simp[H.get_put,show ¬i=g1.nx by omega]⟩
  have hU2:Up g.nx g1 g2:=by rw[hg2];exact (Up.new hF.1 _).trans (Up.put hF.1 _)
  have g9:g2.h.get g1.nx=.cells 3 [[.int .i64 x.card,pa,ra]] 0 false false:=by rw[hg2];simp[H.get_put]
  have gB2:g2.h.get B=.cells 2 [[.int .i64 n.grain,b]] 0 false false:=by rw[hF2.2 B hB1,gB1]
  have kr:=IM (d:=d) (i:=k) (g:=aG g2 []) (P2:=P) (k2:=0) (v:=b) (w:=u) (x:=x) (vals:=vals) hd hN hr hx (by simpa using hu1 g2 hF2) hin
  rw[i1] at kr
  have ru:=(hu1 g2 hF2).ints
  simp only[sz,simprocAttr,h7,h9,g9,h1,gB2,h8,h6,kr,s1,t1,t2,hry2,ru,u1,u2,ci,rz,v1,v2,w1]
  exact ⟨⟨by simp[St,LWt,sx,h1,h4,h6,h21],hF.trans hF2,hU.trans hU2⟩,h23,h22⟩
 ·rintro t df g' ⟨rfl,⟨h7,h6,h21,h1,h4,-⟩,hF,hU⟩
  exact fin t g' ⟨h7,h6,h1,h4,trivial⟩ hF hU
theorem Cp {d:Nat}{g:G}{n:Net}{v:AV}{K:AV->G->Prop}{D:ADf->Prop}(hd:0<d)(hr:NR n)(hm:Agg n NoP 0 .nil v)
  (kk:∀g',g'.h.get (g.nx+1)=.cells 1 ((S.ax n (S.ah n)).map ci) 0 false false->g.nx+2<=g'.nx->Fr g g'->Up g.nx g g'->K (.hsl (g.nx+1) 0 0 (S.ah n) none) g') :
  (au C0 d N.aB [v] g).sat K g D:=by
 obtain ⟨cs,rfl,hc⟩:=hm
 obtain ⟨b,rfl,hN⟩:=ck.1 hc
 have hl8:=hr.l2
 obtain ⟨W1,W2,W3⟩:=hr.wl
 have hcs:CsOk (S.aa n):=⟨hr.cs,by rw[ay];omega⟩
 have hnc:S.nc (S.aa n)=S.ah n:=rfl
 obtain ⟨B,hB⟩:∃B,B=g.nx:=⟨_,rfl⟩
 have hrow:∀h,SlR NoP 0 h n.nodes b:=fun h=>hN.tree (Nat.le_refl 0)
 have lb:∀g:G,dG .slice b g=.val (.int .i64 (n.nodes.length:Int)):=fun g=>(hrow .nil).len g
 rw[sF]
 refine I9 uD (by simp[jG]) ?_
 simp only[sz,simprocAttr,jG]
 unfold mj
 refine jg (P:=fun t' df g'=>df=[]/\g'=g.new (.cells 2 [[.int .i64 n.grain,b]] 0 false false)/\∃rc,IT 0 (S.aa n) rc/\St t' [(1,.hptr B 0 0 0),(3,rc)]) ?_ ?_
 ·simp only[sz,simprocAttr,<-hB]
  refine bo (ux hd (hrow _) (by omega)) fun rc hrc=>?_
  simp only[sz,simprocAttr]
  exact ⟨rc,hrc,by simp[St,sx,As]⟩
 rintro t df g1 ⟨rfl,hg1,rc,hrc,h1,h3,-⟩
 have k1:=AK (d:=d) (g:=g1) hd (hrc.sl g1.h)
 rw[kf hr.cs (by rw[ay];omega),<-W3] at k1
 have n1:g1.nx=B+1:=by rw[hg1,hB];simp
 have gB:g1.h.get B=.cells 2 [[.int .i64 n.grain,b]] 0 false false:=by rw[hg1,hB];simp[H.get_put]
 have F1:Fr g g1:=by rw[hg1];exact Fr.new _ _
 have U1:Up B g g1:=by rw[hg1];exact Up.new (by omega) _
 clear hg1
 refine jg (P:=fun t' df g'=>df=[]/\g'.nx=B+3/\g'.h.get B=.cells 2 [[.int .i64 n.grain,b]] 0 false false/\g'.h.get (B+1)=.cells 1 ((List.replicate (S.ah n) 0).map ci) 0 false false/\g'.h.get (B+2)=.cells 1 [[.hsl (B+1) 0 0 0 none]] 0 false false/\Fr g g'/\Up B g g'/\St t' [(1,.hptr B 0 0 0),(3,rc),(4,.hptr (B+2) 0 0 0)]) ?_ ?_
 ·simp only[sz,simprocAttr,h3,k1]
  refine Kd (by omega) fun g2 m2 n2 u2=>?_
  rw[n1] at m2 n2 u2 ⊢
  simp only[sz,simprocAttr,n2]
  refine ⟨?_,?_,?_,?_,by simp[St,sx,h1,h3]⟩
  ·rw[if_neg (by omega),if_neg (by omega),u2.1 B (by omega),gB]
  ·rw[if_neg (by omega),if_neg (by omega),m2]
  ·exact ⟨by have:=F1.1;simp[n2];omega,fun i hi=>by
    have:=F1.2 i hi
    simp[H.get_put,show ¬i=B+1+1 by omega,show ¬i=g2.nx by omega,u2.1 i (by omega),this]⟩
  ·exact (U1.trans (u2.mono (by omega))).trans ((Up.new (by omega) _).trans (Up.put (by omega) _))
 clear h1 h3 k1 n1 gB F1 U1
 rintro t df g2 ⟨rfl,n2,gB,gA,gS,F2,U2,h1,h3,h4,-⟩
 obtain ⟨z,kz,hz⟩:=Ap (d:=d) (g:=g2) (w:=rc) (cs:=S.aa n) hd (hrc.sl g2.h)
 rw[ei,ei]
 simp only[sz,simprocAttr,h3,kz]
 refine wI (cs:=S.aa n) (w:=z) hcs hz (by simp[sx]) (by decide) (by decide)
  (fun j g'=>g'.h.get B=.cells 2 [[.int .i64 n.grain,b]] 0 false false/\g'.h.get (B+1)=.cells 1 ((S.ax n j).map ci++(List.replicate (S.ah n - j) 0).map ci) 0 false false/\g'.h.get (B+2)=.cells 1 [[.hsl (B+1) 0 0 (S.ax n j).length none]] 0 false false/\(∀i,i<B->g'.h.get i=g.h.get i)/\Up B g g')
  (fun _=>False) ?_ (fun _ _ _ h=>h) ?_ ?_ ?_ (fun _ h=>h.elim)
 ·rintro j g3 g4 hU ⟨a1,a2,a3,a4,a5⟩
  rw[n2] at hU
  exact ⟨by rw[hU.1 _ (by omega),a1],by rw[hU.1 _ (by omega),a2],by rw[hU.1 _ (by omega),a3],fun i hi=>by rw[hU.1 i (by omega),a4 i hi],a5.trans (hU.mono (by omega))⟩
 ·exact ⟨gB,by simpa [S.ax] using gA,by simpa [S.ax] using gS,fun i hi=>F2.2 i (by omega),U2⟩
 ·rintro j u g3 hj ⟨a1,a2,a3,a4,a5⟩ hn3 hu
  rw[n2] at hn3 hu
  simp only[sz,simprocAttr,lH]
  refine ⟨Fr.refl _,fun g4 n4 f4 u4=>?_⟩
  rw[n2] at f4 u4
  have hin:=cY (fun c hc=>(hr.cs c hc).1) (j:Int)
  have b1:g4.h.get B=.cells 2 [[.int .i64 n.grain,b]] 0 false false:=by rw[f4 _ (by omega),a1]
  have b2:g4.h.get (B+1)=.cells 1 ((S.ax n j).map ci++(List.replicate (S.ah n - j) 0).map ci) 0 false false:=by rw[f4 _ (by omega),a2]
  have b3:g4.h.get (B+2)=.cells 1 [[.hsl (B+1) 0 0 (S.ax n j).length none]] 0 false false:=by rw[f4 _ (by omega),a3]
  have hu4:SlR (fun i=>B+3+2<=i/\i<g3.nx) 0 g4.h (S.ak (S.aa n) (j:Int)) u:=hu.far8 fun i hi=>f4 i (by omega)
  rw[hnc] at hj
  simp only[sz,simprocAttr,kh,h1,b1,lb]
  refine Ck (n:=n) (b:=b) (u:=u) (B:=B) hd hr hN hin hu4 (fun i hi=>by omega) (by omega) b1 (by simp[St,LWt,sx,h1,h4]) (by simp[sx]) (by simp[sx]) (by simp[sx]) ?_
  rintro t5 g5 ⟨h7,-,h1',h4',-⟩ F5 U5
  have c3:g5.h.get (B+2)=.cells 1 [[.hsl (B+1) 0 0 (S.ax n j).length none]] 0 false false:=by rw[F5.2 _ (by omega),b3]
  have c2:g5.h.get (B+1)=.cells 1 ((S.ax n j).map ci++((0:Int)::List.replicate (S.ah n - (j+1)) 0).map ci) 0 false false:=by
   rw[F5.2 _ (by omega),b2,show S.ah n - j=(S.ah n - (j+1))+1 by omega,List.replicate_succ]
  simp only[sz,simprocAttr,ks,h4',c3,h7]
  have hl5:B+2<g5.nx:=Nat.lt_of_lt_of_le (by omega) F5.1
  refine FA (x:=S.wt n j) (g:=g5.new (.cells 1 [[.int .i64 (S.wt n j)]] 0 false false)) (l:=S.ax n j) (y:=0) (tl:=List.replicate (S.ah n - (j+1)) 0) ?_ ?_ (by rw[EF];omega) ?_
  ·rw[G.new_h,ap _ _ _ (by omega),c2]
  ·simp only[af,G.new_h,aR,ci];rfl
  rw[<-HJ]
  have c6:((g5.new (.cells 1 [[.int .i64 (S.wt n j)]] 0 false false)).put (B+1) (.cells 1 ((S.ax n (j+1)).map ci++(List.replicate (S.ah n - (j+1)) 0).map ci) 0 false false)).h.get (B+2)=.cells 1 [[.hsl (B+1) 0 0 (S.ax n j).length none]] 0 false false:=by
   rw[G.put_h,ap _ _ _ (by omega),G.new_h,ap _ _ _ (by omega),c3]
  have d1:Up B g5 ((g5.new (.cells 1 [[.int .i64 (S.wt n j)]] 0 false false)).put (B+1) (.cells 1 ((S.ax n (j+1)).map ci++(List.replicate (S.ah n - (j+1)) 0).map ci) 0 false false)):=(Up.new (by omega) _).trans (Up.put (by omega) _)
  have d2:∀i,B+3<=i->i<g5.nx->((g5.new (.cells 1 [[.int .i64 (S.wt n j)]] 0 false false)).put (B+1) (.cells 1 ((S.ax n (j+1)).map ci++(List.replicate (S.ah n - (j+1)) 0).map ci) 0 false false)).h.get i=g5.h.get i:=fun i h1 h2=>by
   rw[G.put_h,ap _ _ _ (by omega),G.new_h,ap _ _ _ (by omega)]
  have d3:((g5.new (.cells 1 [[.int .i64 (S.wt n j)]] 0 false false)).put (B+1) (.cells 1 ((S.ax n (j+1)).map ci++(List.replicate (S.ah n - (j+1)) 0).map ci) 0 false false)).nx=g5.nx+1:=by simp
  have d4:((g5.new (.cells 1 [[.int .i64 (S.wt n j)]] 0 false false)).put (B+1) (.cells 1 ((S.ax n (j+1)).map ci++(List.replicate (S.ah n - (j+1)) 0).map ci) 0 false false)).h.get (B+1)=.cells 1 ((S.ax n (j+1)).map ci++(List.replicate (S.ah n - (j+1)) 0).map ci) 0 false false:=by
   rw[G.put_h,aR]
  have d5:((g5.new (.cells 1 [[.int .i64 (S.wt n j)]] 0 false false)).put (B+1) (.cells 1 ((S.ax n (j+1)).map ci++(List.replicate (S.ah n - (j+1)) 0).map ci) 0 false false)).h.get B=g5.h.get B:=by
   rw[G.put_h,ap _ _ _ (by omega),G.new_h,ap _ _ _ (by omega)]
  generalize (g5.new (.cells 1 [[.int .i64 (S.wt n j)]] 0 false false)).put (B+1) (.cells 1 ((S.ax n (j+1)).map ci++(List.replicate (S.ah n - (j+1)) 0).map ci) 0 false false)=g6 at c6 d1 d2 d3 d4 d5 ⊢
  simp only[sz,simprocAttr,h4',c6]
  have hl4:g4.nx<=g5.nx:=F5.1
  refine ⟨by simp[d3];omega,fun i h1 h2=>?_,.inl ⟨rfl,?_,?_,fun i hi=>?_,?_⟩⟩
  ·rw[n2] at h1
   rw[G.put_h,ap _ _ _ (by omega),d2 i h1 (by omega),F5.2 i h2]
  ·rw[if_neg (by omega),d5,F5.2 B (by omega),b1]
  ·rw[if_neg (by omega),d4]
  ·rw[if_neg (by omega),d1.1 i hi,F5.2 i (by omega),f4 i (by omega),a4 i hi]
  ·exact ((a5.trans (u4.mono (by omega))).trans (U5.mono (by omega))).trans (d1.trans (Up.put (by omega) _))
 ·rintro g' ⟨a1,a2,a3,a4,a5⟩ hn hdf
  rw[hnc,Nat.sub_self] at a2
  rw[hnc,EF] at a3
  simp only[sz,simprocAttr,kU,h4,a3]
  refine j4 hdf ?_
  simp only[sx,↓reduceIte]
  rw[hB]
  have e1:∀i,i<B+3->(g'.put g2.nx (.dfr false)).h.get i=g'.h.get i:=fun i hi=>by rw[G.put_h,ap _ _ _ (by omega)]
  refine kk _ ?_ (by simp;omega) ⟨by simp;omega,fun i hi=>?_⟩ (by rw[<-hB];exact a5.trans (Up.put (by omega) _))
  ·rw[<-hB,e1 _ (by omega),a2];simp
  ·rw[e1 i (by omega),a4 i (by omega)]
theorem AM {n:Net}{e:List Int}(h:S.aD n e=true):e.length=n.nodes.length/\∀x∈e,-1<=x:=by
 simp only[S.aD,Bool.and_eq_true,decide_eq_true_eq,List.all_eq_true] at h
 refine ⟨h.1,fun x hx=>?_⟩
 obtain ⟨i,hi,he⟩:=List.mem_iff_getElem.1 hx
 have:=(h.2 i (List.mem_range.2 hi)).1
 rw[List.getElem?_eq_getElem hi,he] at this
 exact this
def S.pe (n:Net)(e:List Int)(w:Nat):Bool:=S.bi (S.ak (S.aa n) (w:Int)) e
theorem El {n:Net}(h:NR n){p:Nat->Bool}{j:Nat}(hj:j<=1024):0<=S.aL n p j/\S.aL n p j<=171992678400000000:=by
 have:=wT h p j
 omega
theorem K8 (g:G)(o o':AObj):Fr g ((g.new o).put g.nx o'):=⟨by simp,fun i hi=>by simp[H.get_put,show ¬i=g.nx by omega]⟩
theorem p_ {n:Net}{e:List Int}:S.aK n e=0↔S.aB n=true/\S.aD n e=true:=by
 rw[S.aK]
 cases S.aB n<;>cases S.aD n e<;>simp
structure GvJ (g0:G) (q:Nat) (s:Int) (h:H):Prop where
 fr:∀i,i<g0.nx->i≠q->h.get i=g0.h.get i
 hq:h.get q=.cells 1 [[.int .i64 s]] 0 false false
structure ND where
 c:Nat->Int
 P:Nat->List Int
 m:Nat->Nat
 R:Nat->Nat->List Int
 o:Nat->Nat
def LN (n:Nat)(D:ND):Ky->Prop:=fun k=>k=(0,0)\/∃i q,k=(i+1,q)/\i<n/\q<2+D.o i
theorem LN.z {n:Nat}{D:ND}:LN n D (0,0):=.inl rfl
theorem LN.s {n:Nat}{D:ND}{i q:Nat}(h:i<n)(hq:q<2+D.o i):LN n D (i+1,q):=.inr ⟨i,q,rfl,h,hq⟩
theorem LN.p {n:Nat}{D:ND}{i:Nat}(h:i<n):LN n D (i+1,0):=LN.s h (by omega)
theorem LN.r {n:Nat}{D:ND}{i:Nat}(h:i<n):LN n D (i+1,1):=LN.s h (by omega)
def fH (D:ND)(V:Ky->AV)(i:Nat):List AV:=[.int .i64 (D.c i),V (i+1,0),V (i+1,1)]
def Di (V:Ky->AV)(i r:Nat):List AV:=[V (i+1,2+r)]
structure BN (K n:Nat) (V:Ky->AV) (E:Ky->En) (D:ND):Prop where
 ns:E (0,0)=.sl 3 ((List.range n).map (fH D V))
 ps:∀i,i<n->E (i+1,0)=.sl 1 ((D.P i).map ci)/\(D.P i).length<=K
 rs:∀i,i<n->E (i+1,1)=.sl 1 ((List.range (D.m i)).map (Di V i))/\D.m i<=K
 rr:∀i r,i<n->r<D.m i->(D.R i r).length<=K/\((r<D.o i/\E (i+1,2+r)=.sl 1 ((D.R i r).map ci))\/SlR NoP 0 .nil (D.R i r) (V (i+1,2+r)))
def ND.node (D:ND)(i:Nat):Node:=⟨D.c i,D.P i,(List.range (D.m i)).map (D.R i)⟩
theorem rg {g:G}{b:Nat}{v:AV}{l:List Int}{P:Nat->Prop}(h:Own g b v 1 (l.map ci))(hl:l.length<9223372036854775808)(hp:∀i,b<=i->P i):SlR P 0 g.h l v :=
 Own.sl (α:=Int) h hl (All2.of_map (fun a=>aU.2 rfl) _) fun i hi=>hp i (h.lt hi).1
theorem BN.rows {g:G}{b K n i:Nat}{V:Ky->AV}{E:Ky->En}{D:ND}{L:Ky->Prop}(hB:BN K n V E D)(hH:Hp g b L V E)(hL:∀k,LN n D k->L k)(hK:K<=1000000)(hi:i<n):SlR (fun j=>b<=j) 0 g.h ((List.range (D.m i)).map (D.R i)) (V (i+1,1)):=by
 obtain ⟨h1,h2⟩:=hB.rs i hi
 have ho:=hH.own (hL _ (LN.r hi)) h1
 refine Own.sl (α:=List Int) ho (by simp;omega) (uE fun r hr=>?_) fun j hj=>(ho.lt hj).1
 have hr:=List.mem_range.1 hr
 obtain ⟨h4,h3⟩:=hB.rr i r hi hr
 rcases h3 with ⟨h5,h3⟩ | h3
 ·exact cK.2 ⟨_,rfl,rg (hH.own (hL _ (LN.s hi (by omega))) h3) (by omega) fun _ h=>h⟩
 ·exact cK.2 ⟨_,rfl,(h3.tree (h':=g.h) (Nat.le_refl 0)).wd fun _ h=>h.elim⟩
theorem Hp.off {κ:Type} [DecidableEq κ]{g:G}{b:Nat}{L:κ->Prop}{V:κ->AV}{E:κ->En}{k:κ}{x:AV}(h:Hp g b L V E)(hk:¬L k):Hp g b L (ups V k x) E:=by
 have ne:∀j,L j->j≠k:=fun j hj e=>hk (by rw[<-e];exact hj)
 exact ⟨fun j hj=>by rw[ac V x (ne j hj)];exact h.ok j hj,fun j l hj hl hne id=>by rw[ac V x (ne j hj),ac V x (ne l hl)];exact h.sep j l hj hl hne id,h.nx⟩
theorem BN.pars {g:G}{b K n i:Nat}{V:Ky->AV}{E:Ky->En}{D:ND}{L:Ky->Prop}(hB:BN K n V E D)(hH:Hp g b L V E)(hL:∀k,LN n D k->L k)(hK:K<=1000000)(hi:i<n):SlR (fun j=>b<=j) 0 g.h (D.P i) (V (i+1,0)):=by
 obtain ⟨h1,h2⟩:=hB.ps i hi
 exact rg (hH.own (hL _ (LN.p hi)) h1) (by omega) fun _ h=>h
theorem BN.nodes {g:G}{b K n:Nat}{V:Ky->AV}{E:Ky->En}{D:ND}{L:Ky->Prop}(hB:BN K n V E D)(hH:Hp g b L V E)(hL:∀k,LN n D k->L k)(hK:K<=1000000)(hn:n<=1000000):SlR (fun j=>b<=j) 0 g.h ((List.range n).map D.node) (V (0,0)):=by
 have ho:=hH.own (hL _ LN.z) hB.ns
 refine Own.sl (α:=Node) ho (by simp;omega) (uE fun i hi=>?_) fun j hj=>(ho.lt hj).1
 have hi:=List.mem_range.1 hi
 exact bM.2 ⟨_,_,rfl,hB.pars hH hL hK hi,hB.rows hH hL hK hi⟩
theorem mN {α:Type}(f:Nat->α){n i:Nat}(x:α)(hi:i<n):((List.range n).map f).set i x=(List.range n).map (ups f i x):=by
 refine List.ext_getElem (by simp) fun j h1 h2=>?_
 rw[List.getElem_set]
 by_cases e:i=j
 ·subst e;simp[an]
 ·rw[if_neg e];simp[ac _ _ (Ne.symm e)]
theorem fU {α:Type}(f:Nat->α){n i:Nat}(hi:i<n):((List.range n).map f)[i]?=some (f i):=by simp[hi]
theorem xM {D D':ND}{V V':Ky->AV}{n i:Nat}{row:List AV}(h0:row=fH D' V' i)(h:∀j,j<n->j≠i->fH D V j=fH D' V' j):(List.range n).map (ups (fH D V) i row)=(List.range n).map (fH D' V'):=by
 refine List.map_congr_left fun j hj=>?_
 have hj:=List.mem_range.1 hj
 by_cases e:j=i
 ·subst e;rw[an,h0]
 ·rw[ac _ _ e,h j hj e]
def Lr (C:Nat):VS:=fun P k h v=>∃l:List Int,l.length=C/\One l P k h v
structure Rw1 (gr:Int) (nv u:AV) (C F j:Nat) (t:T) (g:G):Prop where
 st:St t [(0,.int .i64 gr),(1,.int .i64 (C:Int)),(2,nv),(3,.int .i64 (F:Int)),(9,u)]
 hX:∃(X:List Int) (s:Int),tat t 10=.int .i64 s/\X.length=C/\Own g 0 u 1 (X.map ci)/\(∀x∈X,0<=x/\x<=7)/\(∀(i:Nat) (x:Int),i<j->X[i]?=some x->x<=s)/\0<=s/\s<=7*j
theorem Kj {d C F kk:Nat}{gr:Int}{nv u:AV}{l:List UInt8}{Q:QT}{t:T}{g:G}(hC:C<=3)(hF:F<=1000)(hl:SlR NoP kk .nil l nv)(h0:Rw1 gr nv u C F 0 t g)(h11:tat t 11=.int .i64 0)
  (fin:∀t g,Rw1 gr nv u C F C t g->Q (.exit 0) t [] g):wpL (wp C0 d none lj) Q t [] g:=by
 obtain ⟨nr,r1,r2,r3,r4⟩:=hl.all
 have r1:∀h',af h' 1 nv=some nr:=r1
 have hll:=hl.1
 have ll:=hl.len
 simp only[lj,qr]
 refine a_ C (by omega) (fun j t df g=>df=[]/\Rw1 gr nv u C F j t g) ⟨rfl,h0⟩ h11 (by decide) ?_ ?_ ?_ ?_
 ·rintro j t df g v s (rfl | rfl | rfl) ⟨a1,⟨b1,b2,b3,b4,b5,-⟩,X,s',c1,c2⟩<;>exact ⟨a1,by simp[St,sx,b1,b2,b3,b4,b5],X,s',by simp[sx,c1],c2⟩
 ·rintro j t df g hj ⟨rfl,⟨h0,h1,h2,h3,h9,-⟩,X,s,h10,hX⟩ h11
  simp only[sz,simprocAttr,h11,h1]
  exact ⟨by simp[St,sx,h0,h1,h2,h3,h9],X,s,by simp[sx,h10],hX⟩
 ·rintro j t df g hj ⟨rfl,⟨h0,h1,h2,h3,h9,-⟩,X,s,h10,hXl,hX,hXb,hXs,hs0,hs1⟩ h11
  refine jW (P:=fun t' df g'=>df=[]/\∃(X':List Int) (x':Int),St t' [(0,.int .i64 gr),(1,.int .i64 (C:Int)),(2,nv),(3,.int .i64 (F:Int)),(9,u),(10,.int .i64 s),(11,.int .i64 (j:Int))]/\X'.length=C/\Own g' 0 u 1 (X'.map ci)/\(∀x∈X',0<=x/\x<=7)/\X'[j]?=some x'/\∀i,i≠j->X'[i]?=X[i]?) ?_ ?_
  ·have hXj:X[j]?=some X[j]:=List.getElem?_eq_getElem (by omega)
   simp only[sz,simprocAttr,h2,ll]
   refine be (fun hb=>?_) (fun hb=>?_)
   ·have hb:0<l.length:=by simpa using hb
    have w1:IntKind.wrap .i64 ((F:Int)+(j:Int))=((F+j:Nat):Int):=by rw[aF (by omega) (by omega)];simp
    have q1:=D2 (x:=F+j) (y:=l.length) hb
    have hmod:=Nat.mod_lt (F+j) hb
    generalize (F+j) % l.length=a at q1 hmod
    obtain ⟨y,hy,-,-⟩:=ae (l:=l) (j:=a) hmod
    obtain ⟨row,z1,z2⟩:=r3 a y hy
    rw[dj.1 z2] at z1
    have hlt:a<nr.length:=by omega
    have q2:=it .u8 (a:=(y.toNat:Int)) (b:=8) (by omega) (by omega)
    have hm0:0<=(y.toNat:Int) % 8:=Int.emod_nonneg _ (by decide)
    have hm1:(y.toNat:Int) % 8<8:=Int.emod_lt_of_pos _ (by decide)
    have w2:IntKind.wrap .i64 ((y.toNat:Int) % 8)=(y.toNat:Int) % 8:=aF (by omega) (by omega)
    generalize (y.toNat:Int) % 8=z at q2 hm0 hm1 w2
    have u1:j<(X.map ci).length:=by simp;omega
    have u2:(X.map ci)[j]?=some (ci X[j]):=by rw[List.getElem?_map,hXj];rfl
    have rX:=hX.rows
    simp only[sz,simprocAttr,h2,h3,h9,h11,ll,w1,q1,r1,hlt,z1,q2,w2,rX,u1]
    refine dB (v:=u) (sz:=1) (n:=1) (i:=j) (off:=0) (x:=.int .i64 z) (row':=ci z) hX u2 rfl rfl rfl fun g4 hu4 n4 f4=>?_
    rw[<-List.map_set] at hu4
    simp only[sx,sy]
    refine ⟨X.set j z,z,by simp[St,sx,h0,h1,h2,h3,h9,h10,h11],by simp[hXl],hu4,fun x hx=>?_,by rw[List.getElem?_set_self (by omega)],fun i hi=>by rw[List.getElem?_set_ne (Ne.symm hi)]⟩
    rcases List.mem_or_eq_of_mem_set hx with h | rfl
    ·exact hXb x h
    ·omega
   ·simp only[sx,sy]
    exact ⟨X,X[j],by simp[St,sx,h0,h1,h2,h3,h9,h10,h11],hXl,hX,hXb,hXj,fun _ _=>rfl⟩
  clear h0 h1 h2 h3 h9 h10 h11 hX
  rintro t df g ⟨rfl,X',x',⟨h0,h1,h2,h3,h9,h10,h11,-⟩,hXl',hX',hXb',hxj,hXo⟩
  have u1:j<(X'.map ci).length:=by simp;omega
  have u2:(X'.map ci)[j]?=some (ci x'):=by rw[List.getElem?_map,hxj];rfl
  have rX:=hX'.rows
  have hx':=hXb' x' (List.mem_of_getElem? hxj)
  have w1:IntKind.wrap .i64 (s+x')=s+x':=aF (by omega) (by omega)
  simp only[sz,simprocAttr,qM,h10,h9,h11,rX,u1,u2,ci,w1]
  refine ⟨by simp[St,sx,h0,h1,h2,h3,h9],X',s+x',by simp[sx],hXl',hX',hXb',fun i x hi hx=>?_,by omega,by omega⟩
  by_cases e:i=j
  ·subst e;rw[hxj] at hx;injection hx with hx;omega
  ·rw[hXo i e] at hx
   have:=hXs i x (by omega) hx
   omega
 ·rintro t df g ⟨rfl,h⟩
  exact fin t g h
structure Rw2 (gr s:Int) (u:AV) (C j:Nat) (t:T) (g:G):Prop where
 st:St t [(0,.int .i64 gr),(1,.int .i64 (C:Int)),(9,u),(10,.int .i64 s)]
 hX:∃(X:List Int) (left:Int) (la:Nat),tat t 12=.int .i64 left/\tat t 13=.int .i64 (la:Int)/\la<C/\X.length=C/\Own g 0 u 1 (X.map ci)/\∀(i:Nat) (x:Int),j<=i->X[i]?=some x->0<=x/\x<=7/\x<=s
theorem Kh {d C:Nat}{gr s:Int}{u:AV}{Q:QT}{t:T}{g:G}(hC:C<=3)(hg:0<=gr/\gr<=60)(h0:Rw2 gr s u C 0 t g)(h14:tat t 14=.int .i64 0)
  (fin:∀t g,Rw2 gr s u C C t g->Q (.exit 2) t [] g):wpL (wp C0 d none ld) Q t [] g:=by
 simp only[ld,qH]
 refine a_ C (by omega) (fun j t df g=>df=[]/\Rw2 gr s u C j t g) ⟨rfl,h0⟩ h14 (by decide) ?_ ?_ ?_ ?_
 ·rintro j t df g v s (rfl | rfl | rfl) ⟨a1,⟨b1,b2,b3,b4,-⟩,X,s',la,c1,c2,c3⟩<;>exact ⟨a1,by simp[St,sx,b1,b2,b3,b4],X,s',la,by simp[sx,c1],by simp[sx,c2],c3⟩
 ·rintro j t df g hj ⟨rfl,⟨h0,h1,h9,h10,-⟩,X,left,la,h12,h13,hX⟩ h14
  simp only[sz,simprocAttr,h14,h1]
  exact ⟨by simp[St,sx,h0,h1,h9,h10],X,left,la,by simp[sx,h12],by simp[sx,h13],hX⟩
 ·rintro j t df g hj ⟨rfl,⟨h0,h1,h9,h10,-⟩,X,left,la,h12,h13,hla,hXl,hX,hXb⟩ h14
  have hXj:X[j]?=some X[j]:=List.getElem?_eq_getElem (by omega)
  obtain ⟨b0,b1,b2⟩:=hXb j _ (Nat.le_refl _) hXj
  have u1:j<(X.map ci).length:=by simp;omega
  have u2:(X.map ci)[j]?=some (ci X[j]):=by rw[List.getElem?_map,hXj];rfl
  have rX:=hX.rows
  refine jW (P:=fun t' df g'=>df=[]/\∃(X':List Int) (la':Nat),St t' [(0,.int .i64 gr),(1,.int .i64 (C:Int)),(9,u),(10,.int .i64 s),(12,.int .i64 left),(13,.int .i64 (la':Int)),(14,.int .i64 (j:Int))]/\la'<C/\X'.length=C/\Own g' 0 u 1 (X'.map ci)/\∀i,i≠j->X'[i]?=X[i]?) ?_ ?_
  ·simp only[sz,simprocAttr,h9,h14,rX,u1,u2,ci]
   generalize X[j]=x at *
   refine be (fun hb=>?_) (fun hb=>?_)
   ·have hb:0<x:=by simpa using hb
    have hgx:0<=gr*x:=Int.mul_nonneg hg.1 b0
    have hgx2:gr*x<=60*7:=Int.mul_le_mul hg.2 b1 b0 (by decide)
    have w1:IntKind.wrap .i64 (gr*x)=gr*x:=aF (by omega) (by omega)
    have q1:=HT (x:=gr*x) (y:=s) hgx (by omega) (by omega)
    simp only[sz,simprocAttr,h0,h9,h10,h14,rX,u1,u2,ci,w1,q1]
    refine dB (v:=u) (sz:=1) (n:=1) (i:=j) (off:=0) (x:=.int .i64 (gr*x / s)) (row':=ci (gr*x / s)) hX u2 rfl rfl rfl fun g4 hu4 n4 f4=>?_
    rw[<-List.map_set] at hu4
    simp only[sz,simprocAttr,h14]
    exact ⟨X.set j (gr*x / s),j,by simp[St,sx,h0,h1,h9,h10,h12,h14],by omega,by simp[hXl],hu4,fun i hi=>by rw[List.getElem?_set_ne (Ne.symm hi)]⟩
   ·simp only[sx,sy]
    exact ⟨X,la,by simp[St,sx,h0,h1,h9,h10,h12,h13,h14],hla,hXl,hX,fun _ _=>rfl⟩
  clear h0 h1 h9 h10 h12 h13 h14 hX rX hla
  rintro t df g ⟨rfl,X',la',⟨h0,h1,h9,h10,h12,h13,h14,-⟩,hla,hXl',hX',hXo⟩
  have hXj':X'[j]?=some X'[j]:=List.getElem?_eq_getElem (by omega)
  have u1:j<(X'.map ci).length:=by simp;omega
  have u2:(X'.map ci)[j]?=some (ci X'[j]):=by rw[List.getElem?_map,hXj'];rfl
  have rX:=hX'.rows
  simp only[sz,simprocAttr,qK,h12,h9,h14,rX,u1,u2,ci]
  refine ⟨by simp[St,sx,h0,h1,h9,h10],X',_,la',by simp[sx];rfl,by simp[sx,h13],hla,hXl',hX',fun i x hi hx=>?_⟩
  rw[hXo i (by omega)] at hx
  exact hXb i x (by omega) hx
 ·rintro t df g ⟨rfl,h⟩
  exact fin t g h
theorem Kg {d C F kk:Nat}{g:G}{nv:AV}{gr:Int}{l:List UInt8}(hd:0<d)(hC:1<=C/\C<=3)(hF:F<=1000)(hg:0<=gr/\gr<=60)(hl:SlR NoP kk .nil l nv) :
  ∃r,au C0 d N.ak [.int .i64 gr,.int .i64 (C:Int),nv,.int .i64 (F:Int)] g=.val r/\Lr C NoP 0 .nil r:=by
 rw[xp]
 refine bp An (xs:=[.int .i64 gr,.int .i64 (C:Int),nv,.int .i64 (F:Int)]) (by simp only[aD,qN d (hl.tree (h':=g.h) (Nat.le_refl _)),eW 0]) (by simp[pV]) (mb fun o=>bi _) (by decide) hd ?_
 simp only[sz,simprocAttr,pV]
 refine s7 (b:=0) (n:=C) (by unfold aO;omega) (by unfold aO;omega) (Nat.zero_le _) fun u g1 hu n1 f1 vu=>?_
 simp only[sz,simprocAttr]
 refine Kj (gr:=gr) (nv:=nv) (u:=u) (C:=C) (F:=F) hC.2 hF hl ⟨by simp[St,sx],List.replicate C 0,0,by simp[sx],by simp,by simpa [ci] using hu,fun x hx=>by rw[(List.mem_replicate.1 hx).2];decide,fun i x hi=>by omega,by omega,by omega⟩ (by simp[sx]) ?_
 rintro t g2 ⟨⟨h0,h1,h2,h3,h9,-⟩,X,s,h10,hXl,hX,hXb,hXs,hs0,hs1⟩
 simp only[sz,simprocAttr,pL,h0]
 refine Kh (gr:=gr) (s:=s) (u:=u) (C:=C) hC.2 hg ⟨by simp[St,sx,h0,h1,h9,h10],X,gr,0,by simp[sx],by simp[sx],by omega,hXl,hX,fun i x hi hx=>?_⟩ (by simp[sx]) ?_
 ·have h1:=(List.getElem?_eq_some_iff.1 hx).1
  have h2:=hXb x (List.mem_of_getElem? hx)
  exact ⟨h2.1,h2.2,hXs i x (by omega) hx⟩
 clear h0 h1 h2 h3 h9 h10 hX hXl hXb hXs
 rintro t g3 ⟨⟨h0,h1,h9,h10,-⟩,X,left,la,h12,h13,hla,hXl,hX,-⟩
 have hXj':X[la]?=some X[la]:=List.getElem?_eq_getElem (by omega)
 have u1:la<(X.map ci).length:=by simp;omega
 have u2:(X.map ci)[la]?=some (ci X[la]):=by rw[List.getElem?_map,hXj'];rfl
 have rX:=hX.rows
 simp only[sz,simprocAttr,qJ,h9,h13,h12,rX,u1,u2,ci]
 refine dB (v:=u) (sz:=1) (n:=1) (i:=la) (off:=0) (x:=.int .i64 (IntKind.wrap .i64 (X[la]+left))) (row':=ci (IntKind.wrap .i64 (X[la]+left))) hX u2 rfl rfl rfl fun g4 hu4 n4 f4=>?_
 rw[<-List.map_set] at hu4
 simp only[sz,simprocAttr,h9]
 exact ⟨fun _=>True,_,by simp[hXl],hu4.ints (by simp;omega)⟩
theorem wY (os:List UInt8):∀k,(S.aA os k).Perm ((List.range k).map fun i:Nat=>(i:Int))
 | 0=>.refl _
 | k+1=>by
  rw[List.range_succ,List.map_append,S.aA]
  refine List.perm_middle.trans ?_
  rw[List.take_append_drop]
  exact ((wY os k).cons _).trans (List.perm_append_comm (l₁:=[(k:Int)]))
structure Num (n:Nat) (pl:List Int) (num:Nat->Nat):Prop where
 len:pl.length=n
 at_:∀k,k<n->pl[k]?=some (num k:Int)
 lt:∀k,k<n->num k<n
 inj:∀i j,i<n->j<n->num i=num j->i=j
 sur:∀u,u<n->∃k,k<n/\num k=u
theorem Kc (os:List UInt8)(n:Nat):∃num,Num n (S.aA os n) num:=by
 have hp:=wY os n
 have hl:=nJ os n
 have hmem:∀x∈S.aA os n,∃i:Nat,i<n/\x=(i:Int):=fun x hx=>by
  have:=hp.mem_iff.1 hx
  obtain ⟨i,hi,rfl⟩:=List.mem_map.1 this
  exact ⟨i,List.mem_range.1 hi,rfl⟩
 have hnd:(S.aA os n).Nodup:=by
  rw[hp.nodup_iff]
  refine List.Pairwise.map _ ?_ (List.nodup_range (n:=n))
  intro a b h e
  exact h (by omega)
 have hat:∀k,k<n->(S.aA os n)[k]?=some (((S.aA os n)[k]?.getD 0).toNat:Int)/\((S.aA os n)[k]?.getD 0).toNat<n:=fun k hk=>by
  have hk':k<(S.aA os n).length:=by omega
  have e:=List.getElem?_eq_getElem hk'
  obtain ⟨i,hi,h⟩:=hmem _ (List.getElem_mem hk')
  rw[e,Option.getD_some,h]
  simp[hi]
 refine ⟨fun k=>((S.aA os n)[k]?.getD 0).toNat,hl,fun k hk=>(hat k hk).1,fun k hk=>(hat k hk).2,fun i j hi hj h=>?_,fun u hu=>?_⟩
 ·have h1:=(hat i hi).1
  have h2:=(hat j hj).1
  refine (List.getElem?_inj (by omega) hnd).1 ?_
  rw[h1,h2]
  exact congrArg (fun x:Nat=>some (x:Int)) h
 ·have:(u:Int)∈S.aA os n:=hp.mem_iff.2 (List.mem_map.2 ⟨u,List.mem_range.2 hu,rfl⟩)
  obtain ⟨k,hk,he⟩:=List.mem_iff_getElem.1 this
  refine ⟨k,by omega,?_⟩
  rw[List.getElem?_eq_getElem hk,he];rfl
theorem ID (m n:Nat):∃z:Int,cN .shl (.int .i64 (m:Int)) (.int .u64 (n:Int))=.val (.int .i64 z):=⟨_,rfl⟩
def LNX (X:Ky->Prop)(n:Nat)(D:ND):Ky->Prop:=fun k=>LN n D k\/X k
def X1:Ky->Prop:=fun k=>k=(0,1)
def X2:Ky->Prop:=fun k=>k=(0,1)\/k=(0,2)
structure DN (X:Ky->Prop) (r0:List AV) (n q K:Nat) (gr:Int) (V:Ky->AV) (E:Ky->En) (D:ND) (g:G):Prop where
 hp:Hp g 2 (LNX X n D) V E
 bn:BN K n V E D
 vb:V (0,1)=.hptr q 0 0 0
 bx:E (0,1)=.bx [.int .i64 gr,V (0,0)]
 h0:g.h.get 0=.cells 3 [r0] 0 false false
 h1:g.h.get 1=.cells 2 [[.int .i64 0,.nils]] 0 false false
theorem DN.q {X:Ky->Prop}{r0:List AV}{n q K:Nat}{gr:Int}{V:Ky->AV}{E:Ky->En}{D:ND}{g:G}(h:DN X r0 n q K gr V E D g)(hX:X (0,1)):g.h.get q=.cells 2 [[.int .i64 gr,V (0,0)]] 0 false false/\2<=q/\q<g.nx:=by
 obtain ⟨id,h1,h2,h3,h4⟩:=h.hp.box (k:=(0,1)) (.inr hX) h.bx
 rw[h.vb] at h3;injection h3 with h3;subst h3
 exact ⟨h4,h1,h2⟩
theorem DN.ns {X:Ky->Prop}{r0:List AV}{n q K:Nat}{gr:Int}{V:Ky->AV}{E:Ky->En}{D:ND}{g:G}(h:DN X r0 n q K gr V E D g):Own g 2 (V (0,0)) 3 ((List.range n).map (fH D V)):=h.hp.own (.inl LN.z) h.bn.ns
theorem DN.same {X:Ky->Prop}{r0:List AV}{n q K:Nat}{gr:Int}{V:Ky->AV}{E:Ky->En}{D:ND}{g g':G}(h:DN X r0 n q K gr V E D g)(hf:Fr g g'):DN X r0 n q K gr V E D g':=by
 have:=h.hp.nx
 exact ⟨h.hp.step hf.1 fun i _ hi=>hf.2 i hi,h.bn,h.vb,h.bx,by rw[hf.2 0 (by omega),h.h0],by rw[hf.2 1 (by omega),h.h1]⟩
theorem eL {g:G}{b:Nat}{v:AV}{sz:Nat}{rows:List (List AV)}(h:Own g b v sz rows)(hr:0<rows.length):km v=true:=by
 rcases h with ⟨rfl,rfl⟩ | ⟨id,ep,lo,-,-,rfl,-⟩
 ·simp at hr
 ·rfl
theorem DN.card {X:Ky->Prop}{r0:List AV}{n q K i:Nat}{gr c:Int}{V:Ky->AV}{E:Ky->En}{D:ND}{g:G}{KK:AV->G->Prop}{DD:ADf->Prop}(h:DN X r0 n q K gr V E D g)(hi:i<n)(hX:∀k,X k->k≠(0,0))
  (kk:∀g' E',DN X r0 n q K gr V E' { D with c:=ups D.c i c } g'->g'.nx=g.nx->KK .undef g'):(lC 1 (iQ 3 (V (0,0)) i 0) (.int .i64 c) g).sat KK g DD:=by
 refine h.hp.put (k:=(0,0)) (row:=fH D V i) (row':=[.int .i64 c,V (i+1,0),V (i+1,1)]) (.inl LN.z) h.bn.ns (fU _ hi) rfl rfl rfl fun g' hH hn hf1 hf2=>?_
 refine kk g' _ ⟨hH.sub fun k hk=>hk,⟨?_,fun j hj=>?_,fun j hj=>?_,fun j r hj hr=>?_⟩,h.vb,?_,by rw[hf1 0 (by omega),h.h0],by rw[hf1 1 (by omega),h.h1]⟩ hn
 ·rw[an,mN _ _ hi]
  congr 1
  refine xM (by simp[fH,an]) fun j hj hne=>by simp[fH,ac _ _ hne]
 ·rw[ac _ _ (by simp)];exact h.bn.ps j hj
 ·rw[ac _ _ (by simp)];exact h.bn.rs j hj
 ·rw[ac _ _ (by simp)];exact h.bn.rr j r hj hr
 ·rw[ac _ _ (by simp)];exact h.bx
structure DAok (D:ND) (n i:Nat) (num:Nat->Nat):Prop where
 e:∀v,v<n->D.P v=[]/\D.m v=0
 c:∀k,k<i->D.c (num k)=2\/D.c (num k)=3
 o:∀u,D.o u=0
def LDA (n q:Nat)(r5:AV):List (Nat×AV):=[(1,.hptr 0 0 0 0),(2,.hptr 1 0 0 0),(3,.int .i64 (n:Int)),(4,.hptr q 0 0 0),(5,r5)]
structure DA (r0:List AV) (n q:Nat) (gr:Int) (r5:AV) (num:Nat->Nat) (i:Nat) (t:T) (g:G):Prop where
 st:St t (LDA n q r5)
 w:∃w:Nat,tat t 6=.int .i64 (w:Int)/\w<=3 ^ i
 hd:∃V E D,DN X1 r0 n q 1000 gr V E D g/\DAok D n i num
theorem Lo {i:Nat}(h:i<=5):3 ^ i<=243:=by
 have:i=0\/i=1\/i=2\/i=3\/i=4\/i=5:=by omega
 rcases this with rfl | rfl | rfl | rfl | rfl | rfl<;>decide
theorem Kt {d n q kk:Nat}{x:sA}{gr:Int}{a b r5:AV}{pl:List Int}{num:Nat->Nat}{Q:QT}{t:T}{g:G}(hn:1<=n/\n<=5)(ha:SlR NoP kk .nil x.2.1 a)(h5:IT 0 pl r5)(hN:Num n pl num)
  (h0:DA [u8v x.1,a,b] n q gr r5 num 0 t g) (h7:tat t 7=.int .i64 0)
  (fin:∀t g,DA [u8v x.1,a,b] n q gr r5 num n t g->Q (.exit 0) t [] g):wpL (wp C0 d none eF) Q t [] g:=by
 obtain ⟨pr,r1,r2,r3,r4⟩:=ha.all
 have r1:∀h',af h' 3 a=some pr:=r1
 have la:=ha.len
 have hal:=ha.1
 have r5i:∀h,af h 1 r5=some (pl.map ci):=fun h=>(h5.sl h).ints
 simp only[eF,jo]
 refine a_ n (by omega) (fun j t df g=>df=[]/\DA [u8v x.1,a,b] n q gr r5 num j t g) ⟨rfl,h0⟩ h7 (by decide) ?_ ?_ ?_ ?_
 ·rintro j t df g v s (rfl | rfl | rfl) ⟨a1,⟨b1,b2,b3,b4,b5,-⟩,⟨w,c1,c2⟩,c3⟩<;>exact ⟨a1,by simp[St,LDA,sx,b1,b2,b3,b4,b5],⟨w,by simp[sx,c1],c2⟩,c3⟩
 ·rintro j t df g hj ⟨rfl,⟨h1,h2,h3,h4,h5,-⟩,⟨w,h6,hw⟩,hD⟩ h7
  simp only[sz,simprocAttr,h7,h3]
  exact ⟨by simp[St,LDA,sx,h1,h2,h3,h4,h5],⟨w,by simp[sx,h6],hw⟩,hD⟩
 ·rintro j t df g hj ⟨rfl,⟨h1,h2,h3,h4,h5,-⟩,⟨w,h6,hw⟩,V,E,D,hD,hok⟩ h7
  obtain ⟨p8,hp8⟩:∃p8,p8=g.nx:=⟨_,rfl⟩
  have hnx:=hD.hp.nx
  refine jW (P:=fun t' df g'=>df=[]/\g'=g.new (.cells 3 [[.int .u8 0,.int .u8 0,.nils]] 0 false false)/\St t' ((6,.int .i64 (w:Int))::(7,.int .i64 (j:Int))::(8,.hptr p8 0 0 0)::LDA n q r5)) ?_ ?_
  ·simp only[sz,simprocAttr]
   simp[St,LDA,sx,h1,h2,h3,h4,h5,h6,h7,hp8]
  clear h1 h2 h3 h4 h5 h6 h7
  rintro t df g1 ⟨rfl,hg1,⟨h6,h7,h8,h1,h2,h3,h4,h5,-⟩⟩
  have f1:Fr g g1:=by rw[hg1];exact Fr.new _ _
  have k8:g1.h.get p8=.cells 3 [[.int .u8 0,.int .u8 0,.nils]] 0 false false:=by rw[hg1,hp8];simp[H.get_put]
  have n1:p8<g1.nx:=by rw[hg1,hp8];simp
  clear hg1
  have hD1:=hD.same f1
  have e0:=hD1.h0
  refine jW (P:=fun t' df g'=>df=[]/\Fr g g'/\St t' ((6,.int .i64 (w:Int))::(7,.int .i64 (j:Int))::(8,.hptr p8 0 0 0)::LDA n q r5)/\p8<g'.nx/\∃(y:UInt8) (z1 z2:AV),g'.h.get p8=.cells 3 [[u8v y,z1,z2]] 0 false false) ?_ ?_
  ·simp only[sz,simprocAttr,h7,h1,e0,la]
   refine be (fun hb=>?_) (fun hb=>?_)
   ·have hb:j<x.2.1.length:=by simpa using hb
    obtain ⟨y,hy,-,-⟩:=ae hb
    obtain ⟨row,q1,q2⟩:=r3 j y hy
    obtain ⟨wv,rfl,hwv⟩:=yQ.1 q2
    have hlt:j<pr.length:=by omega
    have hry:=r4 (by omega)
    simp only[sz,simprocAttr,h7,h1,e0,r1,hlt,q1,h8,k8]
    refine ⟨?_,by simp[St,LDA,sx,h1,h2,h3,h4,h5,h6,h7,h8],by simpa using n1,y.1,u8v y.2.1,wv,by simp[H.get_put]⟩
    exact ⟨Nat.le_trans f1.1 (by simp),fun i hi=>by simp[H.get_put,show ¬i=p8 by omega];exact f1.2 i hi⟩
   ·simp only[sx,sy]
    exact ⟨f1,by simp[St,LDA,sx,h1,h2,h3,h4,h5,h6,h7,h8],n1,0,.int .u8 0,.nils,k8⟩
  clear h1 h2 h3 h4 h5 h6 h7 h8 e0 hD1 k8 n1 f1
  rintro t df g2 ⟨rfl,f2,⟨h6,h7,h8,h1,h2,h3,h4,h5,-⟩,n2,y,z1,z2,k8⟩
  have hD2:=hD.same f2
  have q2:=it .u8 (a:=(y.toNat:Int)) (b:=2) (by omega) (by omega)
  obtain ⟨m,hm⟩:∃m:Nat,(y.toNat:Int) % 2=(m:Int):=Int.eq_ofNat_of_zero_le (Int.emod_nonneg _ (by decide))
  have hm2:m<2:=by have:=Int.emod_lt_of_pos (y.toNat:Int) (show (0:Int)<2 by decide);omega
  rw[hm] at q2
  have w2:IntKind.wrap .i64 (m:Int)=(m:Int):=aF (by omega) (by omega)
  have w3:IntKind.wrap .i64 (2+(m:Int))=((2+m:Nat):Int):=by rw[aF (by omega) (by omega)];rfl
  have hp3:=Lo (i:=j) (by omega)
  have hwc:w*(2+m)<=243*3:=Nat.mul_le_mul (by omega) (by omega)
  have w4:IntKind.wrap .i64 ((w:Int)*((2+m:Nat):Int))=((w*(2+m):Nat):Int):=by rw[<-Int.natCast_mul,aF (by omega) (by omega)]
  have w5:IntKind.wrap .i64 ((n:Int) - 1)=((n - 1:Nat):Int):=by rw[aF (by omega) (by omega)];omega
  have w6:IntKind.wrap .i64 (((n - 1:Nat):Int) - (j:Int))=((n - 1 - j:Nat):Int):=by rw[aF (by omega) (by omega)];omega
  have w7:IntKind.wrap .u64 ((n - 1 - j:Nat):Int)=((n - 1 - j:Nat):Int):=qR (by omega) (by omega)
  obtain ⟨z,hz⟩:=ID (w*(2+m)) (n - 1 - j)
  refine jW (P:=fun t' df g'=>df=[]/\g'=g2/\St t' ((6,.int .i64 (w:Int))::(7,.int .i64 (j:Int))::(9,.int .i64 ((2+m:Nat):Int))::LDA n q r5)) ?_ ?_
  ·simp only[sz,simprocAttr,h8,k8,u8v,q2,w2,w3]
   simp[St,LDA,sx,h1,h2,h3,h4,h5,h6,h7]
  clear h1 h2 h3 h4 h5 h6 h7 h8
  rintro t df g3 ⟨rfl,rfl,⟨h6,h7,h9,h1,h2,h3,h4,h5,-⟩⟩
  refine jW (P:=fun t' df g'=>df=[]/\g'=g3/\∃C:Nat,(C=2\/C=3)/\St t' ((6,.int .i64 (w:Int))::(7,.int .i64 (j:Int))::(9,.int .i64 (C:Int))::LDA n q r5)) ?_ ?_
  ·simp only[sz,simprocAttr,h6,h7,h9,h3,w4,w5,w6,w7,hz]
   refine be (fun hb=>?_) (fun hb=>?_)
   ·simp only[sz,simprocAttr]
    refine ⟨2,.inl rfl,?_⟩
    simp[St,LDA,sx,h1,h2,h3,h4,h5,h6,h7]
   ·simp only[sx,sy]
    refine ⟨2+m,by omega,?_⟩
    simp[St,LDA,sx,h1,h2,h3,h4,h5,h6,h7,h9]
  clear h1 h2 h3 h4 h5 h6 h7 h9 hwc w4 hz w3
  rintro t df g4 ⟨rfl,rfl,C,hC,⟨h6,h7,h9,h1,h2,h3,h4,h5,-⟩⟩
  have hwc:w*C<=3 ^ j*3:=Nat.mul_le_mul hw (by omega)
  have hwc2:w*C<=243*3:=Nat.mul_le_mul (by omega) (by omega)
  have w4:IntKind.wrap .i64 ((w:Int)*(C:Int))=((w*C:Nat):Int):=by rw[<-Int.natCast_mul,aF (by omega) (by omega)]
  refine jW (P:=fun t' df g'=>df=[]/\g'=g4/\St t' ((6,.int .i64 ((w*C:Nat):Int))::(7,.int .i64 (j:Int))::(9,.int .i64 (C:Int))::LDA n q r5)) ?_ ?_
  ·simp only[sz,simprocAttr,h6,h9,w4]
   simp[St,LDA,sx,h1,h2,h3,h4,h5,h7,h9]
  clear h1 h2 h3 h4 h5 h6 h7 h9
  rintro t df g5 ⟨rfl,rfl,⟨h6,h7,h9,h1,h2,h3,h4,h5,-⟩⟩
  obtain ⟨kq,q2a,q2b⟩:=hD2.q rfl
  have rns:=hD2.ns.rows
  have hry:=eL hD2.ns (by simp;omega)
  have hnj:=hN.lt j hj
  have u1:j<(pl.map ci).length:=by rw[List.length_map,hN.len];exact hj
  have u2:(pl.map ci)[j]?=some (ci (num j:Int)):=by rw[List.getElem?_map,hN.at_ j hj];rfl
  have u3:num j<((List.range n).map (fH D V)).length:=by simpa using hnj
  have u4:=fU (fH D V) hnj
  simp only[sz,simprocAttr,sf,h4,kq,h5,h7,h9,r5i,u1,u2,rns,u3,hry,ci]
  refine (hD2.same (g':=_) ⟨?_,?_⟩).card (i:=num j) (c:=(C:Int)) hnj (fun k hk=>by rw[hk];simp) fun g6 E' hD6 n6=>?_
  ·simp;omega
  ·intro i hi;simp
  simp only[sx,sy,↓reduceIte,Nat.reduceEqDiff]
  refine ⟨?_,⟨by simp[St,LDA,sx,h1,h2,h3,h4,h5],⟨w*C,by simp[sx,h6],by rw[Nat.pow_succ];exact hwc⟩,V,E',_,hD6.same ⟨by simp,fun i _=>by simp⟩,hok.e,fun k hk=>?_,hok.o⟩,by simp[h7]⟩
  ·simp only[List.reverse_cons,List.reverse_nil,List.nil_append,List.cons_append]
   exact aJ [false,false,false,false,false,false,false,false,false,true] [] (by simp[All2,am,aB]) (by decide) (by simp)
  ·by_cases e:num k=num j
   ·simp[e,an];omega
   ·show ups D.c (num j) (C:Int) (num k)=2\/ups D.c (num j) (C:Int) (num k)=3
    rw[ac _ _ e]
    refine hok.c k ?_
    have:k≠j:=fun h=>e (by rw[h])
    omega
 ·rintro t df g ⟨rfl,h⟩
  exact fin t g h
theorem lV {g:G}{b:Nat}{v x:AV}{sz bytes:Nat}{rows new:List (List AV)}{K:AV->G->Prop}{D:ADf->Prop}(hv:Own g b v sz rows)(hx:af g.h sz x=some new)(hb:b<=g.nx)
  (hr:(rows.length+new.length)*bytes<=aO)
  (k:∀v' g',Own g' b v' sz (rows++new)->g.nx<=g'.nx->(∀i,i<g.nx->vid v≠some i->g'.h.get i=g.h.get i)->(vid v'=vid v\/∃i,vid v'=some i/\g.nx<=i)->(∀i∈g'.lg,i∈g.lg\/vid v=some i\/g.nx<=i)->K v' g') :
  (dk sz bytes v x g).sat K g D:=by
 unfold dk
 rw[hx]
 dsimp only
 rcases hv with ⟨rfl,rfl⟩ | ⟨id,ep,lo,h1,h2,rfl,h3⟩
 ·cases new with
  | nil=>exact k _ _ (.inl ⟨rfl,rfl⟩) (Nat.le_refl _) (fun _ _ _=>rfl) (.inl rfl) (fun i hi=>.inl hi)
  | cons r new =>
   simp only[bj,ax,aa,Nat.ble_eq]
   rw[if_pos (by simpa using hr)]
   refine k _ _ (.inr ⟨g.nx,0,true,hb,by simp,rfl,by simp[aR]⟩) (by simp) (fun i hi _=>?_) (.inr ⟨g.nx,rfl,Nat.le_refl _⟩) (fun i hi=>by simp at hi;rcases hi with rfl | hi;exact .inr (.inr (Nat.le_refl _));exact .inl hi)
   rw[G.new_h,ap _ _ _ (by omega)]
 ·simp only[bj,G.get_eq,h3,ax,aa,show Nat.beq ep ep=true from Nat.beq_refl ep,show Nat.beq sz sz=true from Nat.beq_refl sz,Bool.true_and,Nat.ble_eq,Bool.and_eq_true,Nat.zero_add,Option.getD_none,Nat.sub_zero]
  rw[if_pos ⟨Nat.le_refl _,hr⟩]
  cases new with
  | nil =>
   rw[if_pos (by simp)]
   refine k _ _ (.inr ⟨id,ep,lo,h1,h2,by simp,by simpa using h3⟩) (Nat.le_refl _) (fun _ _ _=>rfl) (.inl rfl) (fun i hi=>.inl hi)
  | cons r new =>
   rw[if_neg (by simp)]
   have ht:ii rows.length (gH 0 rows)=rows:=by rw[bc,bg];simp
   cases lo with
   | false =>
    rw[if_pos (by simp)]
    refine k _ _ (.inr ⟨g.nx,0,true,by omega,by simp,by simp,by simp[aR,ht]⟩) (by simp) (fun i hi _=>?_) (.inr ⟨g.nx,rfl,Nat.le_refl _⟩) (fun i hi=>by simp at hi;rcases hi with rfl | hi;exact .inr (.inr (Nat.le_refl _));exact .inl hi)
    rw[G.new_h,ap _ _ _ (by omega)]
   | true =>
    rw[if_neg (by simp)]
    refine k _ _ (.inr ⟨id,ep+1,true,h1,by simpa using h2,by simp,by simp[aR,ht]⟩) (by simp) (fun i hi hne=>?_) (.inl rfl) (fun i hi=>by simp at hi;rcases hi with rfl | hi;exact .inr (.inl rfl);exact .inl hi)
    rw[G.put_h,ap _ _ _ (fun e=>hne (by rw[e];rfl))]
section
variable {κ:Type} [DecidableEq κ]{g:G}{b:Nat}{L:κ->Prop}{V:κ->AV}{E:κ->En}{k:κ}
theorem Hp.app2 (h:Hp g b L V E)(hk:L k){sz bytes:Nat}{rows new:List (List AV)}(he:E k=.sl sz rows){x:AV}{K:AV->G->Prop}{D:ADf->Prop}(hx:af g.h sz x=some new)
  (hr:(rows.length+new.length)*bytes<=aO)
  (kk:∀v' g',Hp g' b L (ups V k v') (ups E k (.sl sz (rows++new)))->g.nx<=g'.nx->(∀i,i<b->g'.h.get i=g.h.get i)->(∀i,i<g.nx->eid (V k)≠some i->g'.h.get i=g.h.get i)->(∀i∈g'.lg,i∈g.lg\/eid (V k)=some i\/g.nx<=i)->v'.cells=[v']->v'.isTup=false->K v' g') :
  (dk sz bytes (V k) x g).sat K g D:=by
 have ho:=h.own hk he
 refine lV ho hx h.nx hr fun v' g' hv' hn hf hvid hlg=>?_
 refine kk v' g' (h.set hk (e':=.sl sz (rows++new)) hv' hn (fun i _ hi hne=>hf i hi (by rw[<-bP ho];exact hne)) ?_) hn (fun i hi=>hf i (Nat.lt_of_lt_of_le hi h.nx) fun e=>by have:=(ho.lt e).1;omega)
  (fun i hi hne=>hf i hi (by rw[<-bP ho];exact hne)) (fun i hi=>by rw[bP ho];exact hlg i hi) hv'.cell.1 hv'.cell.2
 rw[bP hv',bP ho];exact hvid
theorem Hp.putv (h:Hp g b L V E)(hk:L k){v0:AV}(hv:V k=v0){sz n i off:Nat}{rows:List (List AV)}{row row':List AV}(he:E k=.sl sz rows){x:AV}{K:AV->G->Prop}{D:ADf->Prop}(hr:rows[i]?=some row)
  (hl:x.cells.length=n) (ht:x.isTup=false) (hp:bV row off x.cells=some row')
  (kk:∀g',Hp g' b L V (ups E k (.sl sz (rows.set i row')))->g'.nx=g.nx->(∀i,i<b->g'.h.get i=g.h.get i)->(∀i,eid (V k)≠some i->g'.h.get i=g.h.get i)->K .undef g'):(lC n (iQ sz v0 i off) x g).sat K g D:=by
 subst hv
 exact h.put hk he hr hl ht hp kk
end
theorem uF (m n:Nat):∃z:Nat,cN .shr (.int .u8 (m:Int)) (.int .u64 (n:Int))=.val (.int .u8 (z:Int)) :=
 ⟨m / 2 ^ (Nat.min n 8),rfl⟩
theorem tY (m n:Nat):∃z:Int,cN .and (.int .u8 (m:Int)) (.int .u8 (n:Int))=.val (.int .u8 z):=by
 have:∃z:Int,Op.intBits .and .u8 (.ofNat m) (.ofNat n)=.pure (.int .u8 z):=⟨_,rfl⟩
 obtain ⟨z,hz⟩:=this
 refine ⟨z,?_⟩
 show orV (pN (Op.intBits .and .u8 (.ofNat m) (.ofNat n)))=_
 rw[hz];rfl
structure DB (D:ND) (n i v:Nat) (num:Nat->Nat):Prop where
 c:∀u,u<n->D.c u=2\/D.c u=3
 p:∀u,u<n->(D.P u).length<=3/\∀y∈D.P u,0<=y/\y<n
 m:∀u,u<n->D.m u<=64
 o:∀u,D.o u=0
 f:∀k,i<k->k<n->D.P (num k)=[]/\D.m (num k)=0
def LDB (n q i p v:Nat)(r5:AV):List (Nat×AV):=[(1,.hptr 0 0 0 0),(2,.hptr 1 0 0 0),(3,.int .i64 (n:Int)),(4,.hptr q 0 0 0),(5,r5),(10,.int .i64 (i:Int)),(11,.hptr p 0 0 0),(12,.int .i64 (v:Int))]
structure DP (r0 prow:List AV) (n q i p v:Nat) (gr:Int) (r5:AV) (num:Nat->Nat) (g:G) (V:Ky->AV) (E:Ky->En) (D:ND):Prop where
 dn:DN X2 r0 n q 1000 gr V E D g
 pb:V (0,2)=.hptr p 0 0 0/\E (0,2)=.bx prow
 db:DB D n i v num
 mv:D.m v=0
theorem DP.p {r0 prow:List AV}{n q i p v:Nat}{gr:Int}{r5:AV}{num:Nat->Nat}{g:G}{V:Ky->AV}{E:Ky->En}{D:ND}(h:DP r0 prow n q i p v gr r5 num g V E D):g.h.get p=.cells prow.length [prow] 0 false false/\2<=p/\p<g.nx:=by
 obtain ⟨id,h1,h2,h3,h4⟩:=h.dn.hp.box (k:=(0,2)) (.inr (.inr rfl)) h.pb.2
 rw[h.pb.1] at h3;injection h3 with h3;subst h3
 exact ⟨h4,h1,h2⟩
theorem Ak {X:Ky->Prop}{n:Nat}{D:ND}{V:Ky->AV}{E:Ky->En}{g:G}(h:Hp g 2 (LNX X n D) V E){j k:Ky}(hj:LNX X n D j)(hk:LNX X n D k)(hne:j≠k){id:Nat}(he:eid (V j)=some id):eid (V k)≠some id:=h.sep j k hj hk hne id he
def xd:SC:=.feet [0,1,0,0,8,0,56,120,248,0,512,2040,4095,8191,16383] [oF 131 1 4,oL 132 131,oM 133 12,oF 134 1 4,oL 135 134,oM 136 12,o 137 (.ixs 3 (.t 135) (.t 136)),oF 138 1 137,oL 139 138,oM 140 13,o 141 (.bsl 1 1 [.int .i64 0] [0] [.t 140]),o 142 (.app 1 8 (.t 139) (.t 141)),o 143 (.ixs 3 (.t 132) (.t 133)),oF 144 1 143,oz (.store 1 (.t 144) (.t 142))]
theorem Jy {d n q i p v u:Nat}{gr:Int}{r0 prow:List AV}{r5:AV}{num:Nat->Nat}{Q:QT}{t:T}{g:G}{V:Ky->AV}{E:Ky->En}{D:ND}{rest:List (Nat×AV)}(hn:1<=n/\n<=5)(hv:v<n)(hvi:∀k,i<k->k<n->num k≠v)(hu:u<n)
  (h4:tat t 4=.hptr q 0 0 0) (h12:tat t 12=.int .i64 (v:Int)) (h13:tat t 13=.int .i64 (u:Int)) (hP:DP r0 prow n q i p v gr r5 num g V E D) (hl:(D.P v).length<3)
  (fin:∀t' g' V' E' D',(∀s,(s<131\/144<s)->tat t' s=tat t s)->DP r0 prow n q i p v gr r5 num g' V' E' D'->Q .norm t' [] g') :
  wp C0 d none xd Q t [] g:=by
 have hD:=hP.dn
 obtain ⟨kq,q2a,q2b⟩:=hD.q (.inl rfl)
 unfold xd
 have rns:=hD.ns.rows
 have hry:=eL hD.ns (by simp;omega)
 have u3:v<((List.range n).map (fH D V)).length:=by simpa using hv
 have u4:=fU (fH D V) hv
 have hps:=hD.bn.ps v hv
 have hnx:=hD.hp.nx
 simp only[sz,simprocAttr,sf,h4,h12,h13,kq,rns,u3,u4,hry,fH]
 refine (hD.hp.step (g':=_) ?_ ?_).app2 (k:=(v+1,0)) (.inl (LN.p hv)) hps.1 (new:=[ci (u:Int)]) (by simp[sx,sy,ci]) (by unfold aO;simp;omega) fun v1 g1 hH1 n1 fb1 fo1 lg1 vc vt=>?_
 ·simp;omega
 ·intro i _ hi
  simp[H.get_put];omega
 simp only[sx,sy] at n1 fb1 fo1 lg1
 have e00:ups V (v+1,0) v1 (0,0)=V (0,0):=ac _ _ (by simp)
 have hE00:ups E (v+1,0) (.sl 1 ((D.P v).map ci++[ci (u:Int)])) (0,0)=.sl 3 ((List.range n).map (fH D V)):=by rw[ac _ _ (by simp)];exact hD.bn.ns
 have rns1:af g1.h 3 (V (0,0))=some ((List.range n).map (fH D V)):=by rw[<-e00];exact (hH1.own (k:=(0,0)) (.inl LN.z) hE00).rows
 have u4':((List.range n).map (fH D V))[v]?=some [.int .i64 (D.c v),V (v+1,0),V (v+1,1)]:=u4
 simp only[sz,simprocAttr,sf,rns1,u3,hry]
 refine (hH1.same (g':=_) ?_ ?_).putv (k:=(0,0)) (.inl LN.z) e00 (row':=[.int .i64 (D.c v),v1,V (v+1,1)]) hE00 u4 (by rw[vc];rfl) vt (by rw[vc];rfl) fun g2 hH2 n2 fb2 fo2=>?_
 ·simp
 ·simp;omega
 simp only[sy]
 refine ⟨?_,?_⟩
 ·simp only[List.reverse_cons,List.reverse_nil,List.nil_append,List.cons_append]
  refine aJ [false,false,false,false,false,false,false,false,false,false,true,true,false,false,true] [(0,10),(1,10),(2,10),(3,10),(4,10),(5,10),(6,10),(7,10),(8,10),(0,11),(1,11),(2,11)] (by simp[All2,am,aB]) (by decide) ?_
  have hlg:∀i∈g1.lg,i≠q:=fun i hi e=>by
   rcases lg1 i hi with h | h | h
   ·simp at h
   ·exact Ak hD.hp (.inl (LN.p hv)) (.inr (.inl rfl)) (by simp) h (by rw[hD.vb,e];rfl)
   ·omega
  obtain ⟨id0,ep0,hid0,hv0⟩:∃id ep,id<g.nx/\V (0,0)=.hsl id ep 0 ((List.range n).map (fH D V)).length none:=by
   rcases hD.ns with ⟨h,e⟩ | ⟨id,ep,lo,-,h1,h2,-⟩
   ·have:=congrArg List.length e
    simp at this;omega
   ·exact ⟨id,ep,h1,h2⟩
  have hlg2:∀i∈g1.lg,i≠id0:=fun i hi e=>by
   rcases lg1 i hi with h | h | h
   ·simp at h
   ·exact Ak hD.hp (.inl (LN.p hv)) (.inl LN.z) (by simp) h (by rw[hv0,e];rfl)
   ·omega
  rintro p hp' x y hx hy
  simp only[List.mem_cons,List.not_mem_nil,or_false] at hp'
  rcases hp' with rfl | rfl | rfl | rfl | rfl | rfl | rfl | rfl | rfl | rfl | rfl | rfl<;>(simp at hx hy;subst hx;subst hy;refine dX rfl rfl rfl rfl ?_ ?_ ?_<;>simp[am,aB,ak,hv0,iQ]<;>first | omega | exact hlg | exact hlg2 | exact fun i hi e=>hlg i hi e.symm | exact fun i hi e=>hlg2 i hi e.symm)
 refine fin _ _ (ups V (v+1,0) v1) _ { D with P:=ups D.P v (D.P v++[(u:Int)]) } (fun s hs=>?_) ⟨⟨(hH2.same (g':=_) (by simp) (by simp)).sub fun k hk=>hk,⟨?_,fun j hj=>?_,fun j hj=>?_,fun j r hj hr=>?_⟩,?_,?_,?_,?_⟩,⟨?_,?_⟩,⟨hP.db.c,fun w hw=>?_,hP.db.m,hP.db.o,fun k hk hkn=>?_⟩,hP.mv⟩
 ·simp only[jz]
  repeat rw[if_neg (by omega)]
 ·rw[an,mN _ _ hv]
  congr 1
  refine xM (by simp[fH,an,ac]) fun j hj hne=>by simp[fH,ac,hne]
 ·by_cases e:j=v
  ·subst e
   rw[ac _ _ (by simp),an]
   show En.sl 1 _=En.sl 1 ((ups D.P j (D.P j++[(u:Int)]) j).map ci)/\(ups D.P j (D.P j++[(u:Int)]) j).length<=1000
   rw[an]
   exact ⟨by simp,by simp;omega⟩
  ·rw[ac _ _ (by simp),ac _ _ (by simp[e])]
   show E (j+1,0)=En.sl 1 ((ups D.P v (D.P v++[(u:Int)]) j).map ci)/\(ups D.P v (D.P v++[(u:Int)]) j).length<=1000
   rw[ac _ _ e]
   exact hD.bn.ps j hj
 ·rw[ac _ _ (by simp),ac _ _ (by simp)]
  have:=hD.bn.rs j hj
  refine ⟨?_,this.2⟩
  rw[this.1]
  congr 1
  exact List.map_congr_left fun r _=>by simp[Di,ac]
 ·rw[ac _ _ (by simp),ac _ _ (by simp),ac _ _ (by simp)];exact hD.bn.rr j r hj hr
 ·rw[ac _ _ (by simp)];exact hD.vb
 ·rw[ac _ _ (by simp),ac _ _ (by simp),ac _ _ (by simp)];exact hD.bx
 ·simp only[bumpG_h]
  rw[fb2 0 (by omega)]
  simp
  rw[fb1 0 (by omega),if_neg (by omega),hD.h0]
 ·simp only[bumpG_h]
  rw[fb2 1 (by omega)]
  simp
  rw[fb1 1 (by omega),if_neg (by omega),hD.h1]
 ·rw[ac _ _ (by simp)];exact hP.pb.1
 ·rw[ac _ _ (by simp),ac _ _ (by simp)];exact hP.pb.2
 ·by_cases e:w=v
  ·subst e
   show (ups D.P w (D.P w++[(u:Int)]) w).length<=3/\∀y∈ups D.P w (D.P w++[(u:Int)]) w,0<=y/\y<n
   rw[an]
   refine ⟨by simp;omega,fun y hy=>?_⟩
   rcases List.mem_append.1 hy with h | h
   ·exact (hP.db.p w hw).2 y h
   ·rw[List.mem_singleton.1 h];omega
  ·show (ups D.P v (D.P v++[(u:Int)]) w).length<=3/\∀y∈ups D.P v (D.P v++[(u:Int)]) w,0<=y/\y<n
   rw[ac _ _ e]
   exact hP.db.p w hw
 ·show ups D.P v (D.P v++[(u:Int)]) (num k)=[]/\D.m (num k)=0
  rw[ac _ _ (hvi k hk hkn)]
  exact hP.db.f k hk hkn
end
end Hx
end
section
namespace Hx
open Go
noncomputable section
structure DJ (r0 prow:List AV) (n q i p v u:Nat) (gr:Int) (r5:AV) (num:Nat->Nat) (t:T) (g:G):Prop where
 st:St t ((13,.int .i64 (u:Int))::LDB n q i p v r5)
 hd:∃V E D,DP r0 prow n q i p v gr r5 num g V E D
theorem Kk {d n q i p v u:Nat}{gr:Int}{r0:List AV}{y1 y2:UInt8}{wv r5:AV}{pl:List Int}{num:Nat->Nat}{Q:QT}{t:T}{g:G}(hn:1<=n/\n<=5)(h5:IT 0 pl r5)(hN:Num n pl num)(hi:i<n)(hv:v=num i)(hu:u<n)
  (h0:DJ r0 [u8v y1,u8v y2,wv] n q i p v u gr r5 num t g) (h14:tat t 14=.int .i64 0)
  (fin:∀t g,DJ r0 [u8v y1,u8v y2,wv] n q i p v u gr r5 num t g->Q (.exit 6) t [] g):wpL (wp C0 d none eH) Q t [] g:=by
 have r5i:∀h,af h 1 r5=some (pl.map ci):=fun h=>(h5.sl h).ints
 have hvn:v<n:=by rw[hv];exact hN.lt i hi
 have hvi:∀k,i<k->k<n->num k≠v:=fun k h1 h2 e=>by
  have:=hN.inj k i h2 hi (by rw[e,hv])
  omega
 obtain ⟨FR,hFR⟩:∃FR,FR=xd:=⟨_,rfl⟩
 simp only[eH,jt]
 rw[show (SC.feet [0,1,0,0,8,0,56,120,248,0,512,2040,4095,8191,16383] [oF 131 1 4,oL 132 131,oM 133 12,oF 134 1 4,oL 135 134,oM 136 12,o 137 (.ixs 3 (.t 135) (.t 136)),oF 138 1 137,oL 139 138,oM 140 13,o 141 (.bsl 1 1 [.int .i64 0] [0] [.t 140]),o 142 (.app 1 8 (.t 139) (.t 141)),o 143 (.ixs 3 (.t 132) (.t 133)),oF 144 1 143,oz (.store 1 (.t 144) (.t 142))])=FR from hFR.symm]
 refine a_ i (by omega) (fun j t df g=>df=[]/\DJ r0 [u8v y1,u8v y2,wv] n q i p v u gr r5 num t g) ⟨rfl,h0⟩ h14 (by decide) ?_ ?_ ?_ ?_
 ·rintro j t df g w s (rfl | rfl | rfl) ⟨a1,⟨b1,b2,b3,b4,b5,b6,b7,b8,b9,-⟩,c⟩<;>exact ⟨a1,by simp[St,LDB,sx,b1,b2,b3,b4,b5,b6,b7,b8,b9],c⟩
 ·rintro j t df g hj ⟨rfl,⟨h13,h1,h2,h3,h4,h5,h10,h11,h12,-⟩,hD⟩ h14
  simp only[sz,simprocAttr,h14,h10]
  exact ⟨by simp[St,LDB,sx,h13,h1,h2,h3,h4,h5,h10,h11,h12],hD⟩
 ·rintro j t df g hj ⟨rfl,⟨h13,h1,h2,h3,h4,h5,h10,h11,h12,-⟩,V,E,D,hP⟩ h14
  obtain ⟨kp,-,-⟩:=hP.p
  have kp:g.h.get p=.cells 3 [[u8v y1,u8v y2,wv]] 0 false false:=kp
  obtain ⟨kq,q2a,q2b⟩:=hP.dn.q (.inl rfl)
  have rns:=hP.dn.ns.rows
  have hry:=eL hP.dn.ns (by simp;omega)
  have u1:j<(pl.map ci).length:=by rw[List.length_map,hN.len];omega
  have u2:(pl.map ci)[j]?=some (ci (num j:Int)):=by rw[List.getElem?_map,hN.at_ j (by omega)];rfl
  have u3:v<((List.range n).map (fH D V)).length:=by simpa using hvn
  have u4:((List.range n).map (fH D V))[v]?=some [.int .i64 (D.c v),V (v+1,0),V (v+1,1)]:=fU (fH D V) hvn
  have hps:=hP.dn.bn.ps v hvn
  have hlen:∀g2:G,dG .slice (V (v+1,0)) g2=.val (.int .i64 ((D.P v).length:Int)):=fun g2=>by
   have:=(hP.dn.hp.own (.inl (LN.p hvn)) hps.1).rows
   rw[ea this];simp
  have w1:IntKind.wrap .u64 (j:Int)=(j:Int):=qR (by omega) (by omega)
  obtain ⟨z1,hz1⟩:=uF y2.toNat j
  obtain ⟨z2,hz2⟩:=tY z1 1
  have skip:∀t g,DJ r0 [u8v y1,u8v y2,wv] n q i p v u gr r5 num t g->tat t 14=.int .i64 (j:Int)->(([]:List ADf)=[]/\DJ r0 [u8v y1,u8v y2,wv] n q i p v u gr r5 num t g)/\tat t 14=.int .i64 (j:Int):=fun t g h1 h2=>⟨⟨rfl,h1⟩,h2⟩
  have hz2':cN .and (.int .u8 (z1:Int)) (.int .u8 1)=.val (.int .u8 z2):=hz2
  by_cases c1:(num j:Int)=(u:Int)
  ·by_cases c2:z2=1
   ·by_cases c3:((D.P v).length:Int)<3
    ·simp only[sz,simprocAttr,h14,h5,h13,r5i,u1,u2,ci,c1,h11,kp,u8v,w1,hz1,hz2',c2,h4,kq,h12,rns,u3,u4,hry,hlen,c3]
     rw[hFR]
     refine Jy (n:=n) (q:=q) (i:=i) (p:=p) (v:=v) (u:=u) (r5:=r5) (num:=num) hn hvn hvi hu ?_ ?_ ?_ hP (by omega) (rest:=[]) ?_
     ·simp[sx,h4]
     ·simp[sx,h12]
     ·simp[sx,h13]
     intro t' g' V' E' D' hst hP'
     simp only[sy]
     have hs:∀s,s<131->tat t' s=_:=fun s h=>hst s (.inl h)
     refine ⟨⟨?_,V',E',D',hP'⟩,?_⟩
     ·simp[St,LDB,hs,sx,h13,h1,h2,h3,h4,h5,h10,h11,h12]
     ·simp[hs,sx,h14]
    ·simp only[sz,simprocAttr,h14,h5,h13,r5i,u1,u2,ci,c1,h11,kp,u8v,w1,hz1,hz2',c2,h4,kq,h12,rns,u3,u4,hry,hlen,c3]
     exact ⟨by simp[St,LDB,sx,h13,h1,h2,h3,h4,h5,h10,h11,h12],V,E,D,hP⟩
   ·simp only[sz,simprocAttr,h14,h5,h13,r5i,u1,u2,ci,c1,h11,kp,u8v,w1,hz1,hz2',c2]
    exact ⟨by simp[St,LDB,sx,h13,h1,h2,h3,h4,h5,h10,h11,h12],V,E,D,hP⟩
  ·simp only[sz,simprocAttr,h14,h5,h13,r5i,u1,u2,ci,c1]
   exact ⟨by simp[St,LDB,sx,h13,h1,h2,h3,h4,h5,h10,h11,h12],V,E,D,hP⟩
 ·rintro t df g ⟨rfl,h⟩
  exact fin t g h
structure DK (r0 prow:List AV) (n q i p v:Nat) (gr:Int) (r5:AV) (num:Nat->Nat) (t:T) (g:G):Prop where
 st:St t (LDB n q i p v r5)
 hd:∃V E D,DP r0 prow n q i p v gr r5 num g V E D
theorem KA {d n q i p v:Nat}{gr:Int}{r0:List AV}{y1 y2:UInt8}{wv r5:AV}{pl:List Int}{num:Nat->Nat}{Q:QT}{t:T}{g:G}(hn:1<=n/\n<=5)(h5:IT 0 pl r5)(hN:Num n pl num)(hi:i<n)(hv:v=num i)
  (h0:DK r0 [u8v y1,u8v y2,wv] n q i p v gr r5 num t g) (h13:tat t 13=.int .i64 0)
  (fin:∀t g,DK r0 [u8v y1,u8v y2,wv] n q i p v gr r5 num t g->Q (.exit 4) t [] g):wpL (wp C0 d none eK) Q t [] g:=by
 simp only[eK,js]
 refine a_ n (by omega) (fun j t df g=>df=[]/\DK r0 [u8v y1,u8v y2,wv] n q i p v gr r5 num t g) ⟨rfl,h0⟩ h13 (by decide) ?_ ?_ ?_ ?_
 ·rintro j t df g w s (rfl | rfl | rfl) ⟨a1,⟨b1,b2,b3,b4,b5,b6,b7,b8,-⟩,c⟩<;>exact ⟨a1,by simp[St,LDB,sx,b1,b2,b3,b4,b5,b6,b7,b8],c⟩
 ·rintro j t df g hj ⟨rfl,⟨h1,h2,h3,h4,h5,h10,h11,h12,-⟩,hD⟩ h13
  simp only[sz,simprocAttr,h13,h3]
  exact ⟨by simp[St,LDB,sx,h1,h2,h3,h4,h5,h10,h11,h12],hD⟩
 ·rintro j t df g hj ⟨rfl,⟨h1,h2,h3,h4,h5',h10,h11,h12,-⟩,hD⟩ h13
  simp only[sz,simprocAttr]
  refine Kk (u:=j) hn h5 hN hi hv hj ⟨by simp[St,LDB,sx,h13,h1,h2,h3,h4,h5',h10,h11,h12],hD⟩ (by simp[sx]) ?_
  rintro t2 g2 ⟨⟨k13,k1,k2,k3,k4,k5,k10,k11,k12,-⟩,hD2⟩
  simp only[sx,sy,↓reduceIte]
  exact ⟨⟨by simp[St,LDB,k1,k2,k3,k4,k5,k10,k11,k12],hD2⟩,k13⟩
 ·rintro t df g ⟨rfl,h⟩
  exact fin t g h
def vQ:SC:=.feet [0,1,0,0,8,0,56,120,248,0,512,0,2048,0,14336,30720,63488,0,131072,0,0,1048576,0,7340032,15728640,32505856,66060288,133693440,268434944,536870400,1073741816,2147483647,4294967295,8589934591] [oF 153 1 4,oL 154 153,oM 155 12,oF 156 1 4,oL 157 156,oM 158 12,o 159 (.ixs 3 (.t 157) (.t 158)),oF 160 2 159,oL 161 160,oF 162 0 4,oL 163 162,oF 164 1 4,oL 165 164,oM 166 12,o 167 (.ixs 3 (.t 165) (.t 166)),oF 168 0 167,oL 169 168,oF 170 2 11,oL 171 170,oM 172 15,oF 173 1 4,oL 174 173,oM 175 12,o 176 (.ixs 3 (.t 174) (.t 175)),oF 177 0 176,oL 178 177,oA 179 178,o 180 (.bin .mul (.t 172) (.t 179)),o 181 (.call N.ak [.t 163,.t 169,.t 171,.t 180]),o 182 (.bsl 1 1 [.nils] [0] [.t 181]),o 183 (.app 1 24 (.t 161) (.t 182)),o 184 (.ixs 3 (.t 154) (.t 155)),oF 185 2 184,oz (.store 1 (.t 185) (.t 183))]
structure DQ (r0 prow:List AV) (n q i p v j:Nat) (gr:Int) (r5:AV) (num:Nat->Nat) (P0:List Int) (c0:Nat->Int) (g:G) (V:Ky->AV) (E:Ky->En) (D:ND):Prop where
 dn:DN X2 r0 n q 1000 gr V E D g
 pb:V (0,2)=.hptr p 0 0 0/\E (0,2)=.bx prow
 db:DB D n i v num
 mv:D.m v=j
 pv:D.P v=P0
 cv:D.c=c0
theorem DQ.p {r0 prow:List AV}{n q i p v j:Nat}{gr:Int}{r5:AV}{num:Nat->Nat}{P0:List Int}{c0:Nat->Int}{g:G}{V:Ky->AV}{E:Ky->En}{D:ND}(h:DQ r0 prow n q i p v j gr r5 num P0 c0 g V E D):g.h.get p=.cells prow.length [prow] 0 false false/\2<=p/\p<g.nx:=by
 obtain ⟨id,h1,h2,h3,h4⟩:=h.dn.hp.box (k:=(0,2)) (.inr (.inr rfl)) h.pb.2
 rw[h.pb.1] at h3;injection h3 with h3;subst h3
 exact ⟨h4,h1,h2⟩
theorem Js {d n q i p v j kk:Nat}{gr:Int}{r0:List AV}{y1 y2:UInt8}{W:List UInt8}{wv r5:AV}{num:Nat->Nat}{P0:List Int}{c0:Nat->Int}{Q:QT}{t:T}{g:G}{V:Ky->AV}{E:Ky->En}{D:ND}(hd:0<d)(hn:1<=n/\n<=5)(hv:v<n)(hvi:∀k,i<k->k<n->num k≠v)(hj:j<64)(hgr:0<=gr/\gr<=60)(hwv:SlR NoP kk .nil W wv)
  (h4:tat t 4=.hptr q 0 0 0) (h11:tat t 11=.hptr p 0 0 0) (h12:tat t 12=.int .i64 (v:Int)) (h15:tat t 15=.int .i64 (j:Int)) (hP:DQ r0 [u8v y1,u8v y2,wv] n q i p v j gr r5 num P0 c0 g V E D)
  (fin:∀t' g' V' E' D',(∀s,(s<153\/185<s)->tat t' s=tat t s)->DQ r0 [u8v y1,u8v y2,wv] n q i p v (j+1) gr r5 num P0 c0 g' V' E' D'->Q .norm t' [] g') :
  wp C0 d none vQ Q t [] g:=by
 have hD:=hP.dn
 obtain ⟨kq,q2a,q2b⟩:=hD.q (.inl rfl)
 obtain ⟨kp,-,hpx⟩:=hP.p
 have kp:g.h.get p=.cells 3 [[u8v y1,u8v y2,wv]] 0 false false:=kp
 unfold vQ
 have rns:=hD.ns.rows
 have hry:=eL hD.ns (by simp;omega)
 have u3:v<((List.range n).map (fH D V)).length:=by simpa using hv
 have u4:=fU (fH D V) hv
 have u4':((List.range n).map (fH D V))[v]?=some [.int .i64 (D.c v),V (v+1,0),V (v+1,1)]:=u4
 have hrs:=hD.bn.rs v hv
 have hnx:=hD.hp.nx
 obtain ⟨C,hC,hCb⟩:∃C:Nat,D.c v=(C:Int)/\(C=2\/C=3):=by
  rcases hP.db.c v hv with h | h
  ·exact ⟨2,h,.inl rfl⟩
  ·exact ⟨3,h,.inr rfl⟩
 have hjC:j*(C+1)<=64*4:=Nat.mul_le_mul (by omega) (by omega)
 have w1:IntKind.wrap .i64 ((C:Int)+1)=((C+1:Nat):Int):=by rw[aF (by omega) (by omega)];rfl
 have w2:IntKind.wrap .i64 ((j:Int)*((C+1:Nat):Int))=((j*(C+1):Nat):Int):=by rw[<-Int.natCast_mul,aF (by omega) (by omega)]
 rw[hC] at u4'
 simp only[sz,simprocAttr,sf,h4,h11,h12,h15,kq,kp,rns,u3,u4',hry,w1,w2,xz]
 refine bo (Kg (C:=C) (F:=j*(C+1)) (gr:=gr) (l:=W) hd (by omega) (by omega) hgr hwv) ?_
 rintro r ⟨l,hl,_,e1,hr⟩
 injection e1 with e1;subst e1
 have hrc:=hr.cell
 simp only[sz,simprocAttr,sf,hrc.1,hrc.2]
 refine (hD.hp.step (g':=_) ?_ ?_).app2 (k:=(v+1,1)) (.inl (LN.r hv)) hrs.1 (new:=[[r]]) (by simp[sx,sy]) (by unfold aO;simp;rw[hP.mv];omega) fun v1 g1 hH1 n1 fb1 fo1 lg1 vc vt=>?_
 ·simp;omega
 ·intro i _ hi
  simp[H.get_put];omega
 simp only[sx,sy] at n1 fb1 fo1 lg1
 have hnk:¬LNX X2 n D (v+1,2+j):=by
  rintro (h | h)
  ·rcases h with h | ⟨i',q',h,-,hq⟩
   ·simp at h
   ·rw[hP.db.o] at hq
    simp only[Prod.mk.injEq] at h
    omega
  ·rcases h with h | h<;>simp at h
 have hH1:=hH1.off (x:=r) hnk
 have e00:ups (ups V (v+1,1) v1) (v+1,2+j) r (0,0)=V (0,0):=by rw[ac _ _ (by simp),ac _ _ (by simp)]
 have hE00:ups E (v+1,1) (.sl 1 ((List.range (D.m v)).map (Di V v)++[[r]])) (0,0)=.sl 3 ((List.range n).map (fH D V)):=by rw[ac _ _ (by simp)];exact hD.bn.ns
 have rns1:af g1.h 3 (V (0,0))=some ((List.range n).map (fH D V)):=by rw[<-e00];exact (hH1.own (k:=(0,0)) (.inl LN.z) hE00).rows
 simp only[sz,simprocAttr,sf,rns1,u3,hry]
 refine (hH1.same (g':=_) ?_ ?_).putv (k:=(0,0)) (.inl LN.z) e00 (row':=[.int .i64 (C:Int),V (v+1,0),v1]) hE00 u4 (by rw[vc];rfl) vt (by rw[vc,fH,hC];rfl) fun g2 hH2 n2 fb2 fo2=>?_
 ·simp
 ·simp;omega
 simp only[sy]
 refine ⟨?_,?_⟩
 ·simp only[List.reverse_cons,List.reverse_nil,List.nil_append,List.cons_append]
  refine aJ [false,false,false,false,false,false,false,false,false,false,false,false,false,false,false,false,false,false,false,false,false,false,false,false,false,false,false,false,false,true,true,false,false,true] [(0,29),(1,29),(2,29),(3,29),(4,29),(5,29),(6,29),(7,29),(8,29),(0,30),(1,30),(2,30)] (by simp[All2,am,aB]) (by decide) ?_
  have hlg:∀i∈g1.lg,i≠q:=fun i hi e=>by
   rcases lg1 i hi with h | h | h
   ·simp at h
   ·exact Ak hD.hp (.inl (LN.r hv)) (.inr (.inl rfl)) (by simp) h (by rw[hD.vb,e];rfl)
   ·omega
  obtain ⟨id0,ep0,hid0,hv0⟩:∃id ep,id<g.nx/\V (0,0)=.hsl id ep 0 ((List.range n).map (fH D V)).length none:=by
   rcases hD.ns with ⟨h,e⟩ | ⟨id,ep,lo,-,h1,h2,-⟩
   ·have:=congrArg List.length e
    simp at this;omega
   ·exact ⟨id,ep,h1,h2⟩
  have hlg2:∀i∈g1.lg,i≠id0:=fun i hi e=>by
   rcases lg1 i hi with h | h | h
   ·simp at h
   ·exact Ak hD.hp (.inl (LN.r hv)) (.inl LN.z) (by simp) h (by rw[hv0,e];rfl)
   ·omega
  rintro p hp' x y hx hy
  simp only[List.mem_cons,List.not_mem_nil,or_false] at hp'
  rcases hp' with rfl | rfl | rfl | rfl | rfl | rfl | rfl | rfl | rfl | rfl | rfl | rfl<;>(simp at hx hy;subst hx;subst hy;refine dX rfl rfl rfl rfl ?_ ?_ ?_<;>simp[am,aB,ak,hv0,iQ]<;>first | omega | exact hlg | exact hlg2 | exact fun i hi e=>hlg i hi e.symm | exact fun i hi e=>hlg2 i hi e.symm)
 have hmv:=hP.mv
 refine fin _ _ (ups (ups V (v+1,1) v1) (v+1,2+j) r) _ { D with m:=ups D.m v (j+1),R:=ups D.R v (ups (D.R v) j l) } (fun s hs=>?_) ⟨⟨(hH2.same (g':=_) (by simp) (by simp)).sub fun k hk=>hk,⟨?_,fun u hu=>?_,fun u hu=>?_,fun u r' hu hr'=>?_⟩,?_,?_,?_,?_⟩,⟨?_,?_⟩,⟨hP.db.c,hP.db.p,fun u hu=>?_,hP.db.o,fun k hk hkn=>?_⟩,an _ _ _,hP.pv,hP.cv⟩
 ·simp only[jz]
  repeat rw[if_neg (by omega)]
 ·rw[an,mN _ _ hv]
  congr 1
  refine xM ?_ fun j hj hne=>by simp[fH,ac,hne]
  show _=[AV.int .i64 (D.c v),ups (ups V (v+1,1) v1) (v+1,2+j) r (v+1,0),ups (ups V (v+1,1) v1) (v+1,2+j) r (v+1,1)]
  rw[hC,ac _ _ (by first | (simp;done) | (simp;omega)),ac _ _ (by first | (simp;done) | (simp;omega)),ac _ _ (by first | (simp;done) | (simp;omega)),an]
 ·rw[ac _ _ (by simp),ac _ _ (by simp)]
  exact hD.bn.ps u hu
 ·by_cases e:u=v
  ·subst e
   rw[ac _ _ (by simp),an]
   show En.sl 1 _=En.sl 1 ((List.range (ups D.m u (j+1) u)).map _)/\ups D.m u (j+1) u<=1000
   rw[an]
   refine ⟨?_,by omega⟩
   rw[hmv,List.range_succ,List.map_append]
   congr 2
   ·exact List.map_congr_left fun r' hr'=>by
     have:=List.mem_range.1 hr'
     simp[Di,ac,show ¬r'=j by omega,show ¬2+r'=1 by omega]
   ·simp[Di,an]
  ·rw[ac _ _ (by simp),ac _ _ (by simp[e])]
   show E (u+1,1)=En.sl 1 ((List.range (ups D.m v (j+1) u)).map _)/\ups D.m v (j+1) u<=1000
   rw[ac _ _ e]
   have:=hD.bn.rs u hu
   refine ⟨?_,this.2⟩
   rw[this.1]
   congr 1
   exact List.map_congr_left fun r' _=>by simp[Di,ac,e]
 ·by_cases e:u=v
  ·subst e
   have hr':r'<ups D.m u (j+1) u:=hr'
   rw[an] at hr'
   show (ups D.R u (ups (D.R u) j l) u r').length<=1000/\((r'<D.o u/\_=En.sl 1 ((ups D.R u (ups (D.R u) j l) u r').map ci))\/SlR NoP 0 .nil (ups D.R u (ups (D.R u) j l) u r') _)
   rw[an]
   by_cases e2:r'=j
   ·subst e2
    rw[an,an]
    exact ⟨by omega,.inr hr⟩
   ·rw[ac _ _ e2,ac _ _ (by first | (simp;done) | (simp;omega)),ac _ _ (by first | (simp;done) | (simp;omega)),ac _ _ (by simp[e2]),ac _ _ (by first | (simp;done) | (simp;omega))]
    exact hD.bn.rr u r' hu (by omega)
  ·have hr':r'<ups D.m v (j+1) u:=hr'
   rw[ac _ _ e] at hr'
   show (ups D.R v (ups (D.R v) j l) u r').length<=1000/\((r'<D.o u/\_=En.sl 1 ((ups D.R v (ups (D.R v) j l) u r').map ci))\/SlR NoP 0 .nil (ups D.R v (ups (D.R v) j l) u r') _)
   rw[ac _ _ e,ac _ _ (by first | (simp;done) | (simp;omega)),ac _ _ (by first | (simp;done) | (simp;omega)),ac _ _ (by simp[e]),ac _ _ (by simp[e])]
   exact hD.bn.rr u r' hu hr'
 ·rw[ac _ _ (by simp),ac _ _ (by simp)];exact hD.vb
 ·rw[ac _ _ (by simp),ac _ _ (by simp),ac _ _ (by simp),ac _ _ (by simp)];exact hD.bx
 ·simp only[bumpG_h]
  rw[fb2 0 (by omega)]
  simp
  rw[fb1 0 (by omega),if_neg (by omega),hD.h0]
 ·simp only[bumpG_h]
  rw[fb2 1 (by omega)]
  simp
  rw[fb1 1 (by omega),if_neg (by omega),hD.h1]
 ·rw[ac _ _ (by simp),ac _ _ (by simp)];exact hP.pb.1
 ·rw[ac _ _ (by simp),ac _ _ (by simp)];exact hP.pb.2
 ·show ups D.m v (j+1) u<=64
  by_cases e:u=v
  ·rw[e,an];omega
  ·rw[ac _ _ e];exact hP.db.m u hu
 ·show D.P (num k)=[]/\ups D.m v (j+1) (num k)=0
  rw[ac _ _ (hvi k hk hkn)]
  exact hP.db.f k hk hkn
def S.bm (P0:List Int)(c0:Nat->Int):Int:=S.ae (P0.map fun y=>c0 y.toNat)
theorem Io {gr:Int}{n v:Nat}{D:ND}(hv:v<n)(hp:∀y∈D.P v,0<=y/\y<n):S.ac (S.aa ⟨gr,(List.range n).map D.node⟩) (D.P v)=(D.P v).map fun y=>D.c y.toNat:=by
 unfold S.ac S.aa
 refine List.map_congr_left fun y hy=>?_
 have:=hp y hy
 rw[List.map_map]
 have h:y.toNat<n:=by omega
 simp[h,ND.node]
theorem vY {n v:Nat}{D:ND}(hv:v<n)(hc:∀u,u<n->D.c u=2\/D.c u=3)(hp:(D.P v).length<=3/\∀y∈D.P v,0<=y/\y<n):(∀c∈(D.P v).map fun y=>D.c y.toNat,1<=c/\c<=4)/\1<=S.bm (D.P v) D.c/\S.bm (D.P v) D.c<=64:=by
 have h1:∀c∈(D.P v).map fun y=>D.c y.toNat,1<=c/\c<=4:=fun c h=>by
  obtain ⟨y,hy,rfl⟩:=List.mem_map.1 h
  have:=hp.2 y hy
  have:=hc y.toNat (by omega)
  omega
 have h2:=ch h1
 have h3:=j5 (a:=((D.P v).map fun y=>D.c y.toNat).length) (b:=3) (by simpa using hp.1)
 have h4:(4:Int) ^ 3=64:=by decide
 refine ⟨h1,h2.1,?_⟩
 unfold S.bm
 omega
structure DRw (r0 prow:List AV) (n q i p v j:Nat) (gr:Int) (r5:AV) (num:Nat->Nat) (P0:List Int) (c0:Nat->Int) (t:T) (g:G):Prop where
 st:St t (LDB n q i p v r5)
 hd:∃V E D,DQ r0 prow n q i p v j gr r5 num P0 c0 g V E D
theorem KB {d n q i p v kk:Nat}{gr:Int}{r0:List AV}{y1 y2:UInt8}{W:List UInt8}{wv r5:AV}{num:Nat->Nat}{P0:List Int}{c0:Nat->Int}{Q:QT}{t:T}{g:G}(hd:0<d)(hn:1<=n/\n<=5)(hv:v<n)(hvi:∀k,i<k->k<n->num k≠v)(hgr:0<=gr/\gr<=60)(hwv:SlR NoP kk .nil W wv)
  (h0:DRw r0 [u8v y1,u8v y2,wv] n q i p v 0 gr r5 num P0 c0 t g) (h15:tat t 15=.int .i64 0)
  (fin:∀t g j,DRw r0 [u8v y1,u8v y2,wv] n q i p v j gr r5 num P0 c0 t g->Q (.exit 8) t [] g):wpL (wp C0 d none eG) Q t [] g:=by
 have hM:1<=S.bm P0 c0/\S.bm P0 c0<=64:=by
  obtain ⟨-,V,E,D,hQ⟩:=h0
  have:=(vY hv hQ.db.c (hQ.db.p v hv)).2
  rw[hQ.pv,hQ.cv] at this
  exact this
 obtain ⟨M,hMe⟩:=Int.eq_ofNat_of_zero_le (show 0<=S.bm P0 c0 by omega)
 obtain ⟨FR,hFR⟩:∃FR,FR=vQ:=⟨_,rfl⟩
 simp only[eG]
 rw[show (SC.feet [0,1,0,0,8,0,56,120,248,0,512,0,2048,0,14336,30720,63488,0,131072,0,0,1048576,0,7340032,15728640,32505856,66060288,133693440,268434944,536870400,1073741816,2147483647,4294967295,8589934591] [oF 153 1 4,oL 154 153,oM 155 12,oF 156 1 4,oL 157 156,oM 158 12,o 159 (.ixs 3 (.t 157) (.t 158)),oF 160 2 159,oL 161 160,oF 162 0 4,oL 163 162,oF 164 1 4,oL 165 164,oM 166 12,o 167 (.ixs 3 (.t 165) (.t 166)),oF 168 0 167,oL 169 168,oF 170 2 11,oL 171 170,oM 172 15,oF 173 1 4,oL 174 173,oM 175 12,o 176 (.ixs 3 (.t 174) (.t 175)),oF 177 0 176,oL 178 177,oA 179 178,o 180 (.bin .mul (.t 172) (.t 179)),o 181 (.call N.ak [.t 163,.t 169,.t 171,.t 180]),o 182 (.bsl 1 1 [.nils] [0] [.t 181]),o 183 (.app 1 24 (.t 161) (.t 182)),o 184 (.ixs 3 (.t 154) (.t 155)),oF 185 2 184,oz (.store 1 (.t 185) (.t 183))])=FR from hFR.symm]
 refine a_ M (by omega) (fun j t df g=>df=[]/\DRw r0 [u8v y1,u8v y2,wv] n q i p v j gr r5 num P0 c0 t g) ⟨rfl,h0⟩ h15 (by decide) ?_ ?_ ?_ ?_
 ·rintro j t df g w s (rfl | rfl | rfl) ⟨a1,⟨b1,b2,b3,b4,b5,b6,b7,b8,-⟩,c⟩<;>exact ⟨a1,by simp[St,LDB,sx,b1,b2,b3,b4,b5,b6,b7,b8],c⟩
 ·rintro j t df g hj ⟨rfl,⟨h1,h2,h3,h4,h5,h10,h11,h12,-⟩,V,E,D,hQ⟩ h15
  obtain ⟨kq,q2a,q2b⟩:=hQ.dn.q (.inl rfl)
  have hnodes:=hQ.dn.bn.nodes hQ.dn.hp (fun k h=>.inl h) (by omega) (by omega)
  have hnet:Agg (⟨gr,(List.range n).map D.node⟩:Net) (fun j=>2<=j) 0 g.h (.agg [.int .i64 gr,V (0,0)]):=⟨_,rfl,ck.2 ⟨_,rfl,hnodes⟩⟩
  have hpv:=hQ.db.p v hv
  obtain ⟨r,er,hr⟩:=uh (d:=d) (g:=g) (i:=v) (x:=D.node v) hd hnet (by simp;omega) (by simp[hv]) (by show (D.P v).length<_;omega) (fun y hy=>by have:=hpv.2 y hy;simp;omega)
  have hpar:=Io (gr:=gr) hv hpv.2
  have hb:=vY hv hQ.db.c hpv
  have hsz:=tC (d:=d) (g:=g) hd (hr.sl g.h)
  have hse:S.aO (S.ac (S.aa ⟨gr,(List.range n).map D.node⟩) (D.node v).parents)=(M:Int):=by
   show S.aO (S.ac (S.aa ⟨gr,(List.range n).map D.node⟩) (D.P v))=(M:Int)
   rw[hpar,kf hb.1 (by simp;omega),<-hMe,S.bm,<-hQ.pv,<-hQ.cv]
  rw[hse] at hsz
  simp only[sz,simprocAttr,h15,h4,kq,h12,er,hsz]
  exact ⟨by simp[St,LDB,sx,h1,h2,h3,h4,h5,h10,h11,h12],V,E,D,hQ⟩
 ·rintro j t df g hj ⟨rfl,⟨h1,h2,h3,h4,h5,h10,h11,h12,-⟩,V,E,D,hQ⟩ h15
  rw[hFR]
  refine Js (n:=n) (q:=q) (i:=i) (p:=p) (v:=v) (j:=j) (r5:=r5) (num:=num) hd hn hv hvi (by omega) hgr hwv h4 h11 h12 h15 hQ ?_
  intro t' g' V' E' D' hst hQ'
  have hs:∀s,s<153->tat t' s=tat t s:=fun s h=>hst s (.inl h)
  rw[Aw]
  exact ⟨⟨rfl,by simp[St,LDB,hs,h1,h2,h3,h4,h5,h10,h11,h12],V',E',D',hQ'⟩,by rw[hs 15 (by omega),h15]⟩
 ·rintro t df g ⟨rfl,h⟩
  exact fin t g M h
end
end Hx
end
