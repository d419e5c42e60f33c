/- A part of the proof: what the functions of the chapter compute. -/
import Derived.RangeFuncIn
import Derived.AtR
import Derived.Test.YtcefdmhbbgafiaaHx2
set_option linter.all false
set_option maxHeartbeats 8000000
section
namespace Hx
open Go
noncomputable section
def tat(t:T)(n:Nat):AV:=Tr.get AV.undef t n
def fQ(t:T)(n:Nat)(v:AV):T:=(sp AV.undef n).run t v
inductive Od where
 |t (n:Nat)
 |k (v:AV)
def Od.get(t:T):Od->AV
 |.t n=>tat t n
 |.k v=>v
def fK(t:T):List Od->List AV
 |[]=>[]
 |o::os=>o.get t::fK t os
def I6(c a b:AV):OR:=match c with|.bool q=>aA q (.val a) (.val b)|_=>.fail
def Lo(x:AV)(g:G):OR:=aA x.isTup .fail (.upd (.hptr g.nx 0 0 0) (g.new (We (bL x.cells) [x.cells])))
def u9(zero:List AV)(pl:List (Nat×Nat))(vs:List AV):OR :=
 match jN zero (pl.zip vs) with|some cs=>.val (.agg cs)|none=>.fail
def BA(sz len:Nat)(zero:List AV)(is:List Nat)(vs:List AV)(g:G):OR :=
 match dy sz (ie len zero) (is.zip vs) with
 |some rows=>.upd (.hsl g.nx 0 0 len none) (g.new (We sz rows))
 |none=>.fail
def oy(ag:Bool)(n:Nat)(p:AV)(g:G):OR:=mz ag n (λ_=>p) .nil g
def qQ(n:Nat)(p x:AV)(g:G):OR:=pw n (λ_=>p) (λ_=>x) .nil g
def MQ(x:AV):OR:=match x with
 |.tptr l sz rows i off=>.val (.tptr l sz rows i off)
 |.hptr id ep i off=>.val (.hptr id ep i off)
 |.clo f a c=>.val (.clo f a c)
 |.yld id=>.val (.yld id)
 |_=>.fail
def dO(op:BinOp)(x y:AV):OR:=match x,y with|.int k a,.int k' b=>orV ((fL op).run k a k' b)|_,_=>.fail
def DI(neg:Bool)(ek:EqKind)(x y:AV):OR:=match eqA ek x y with|some b=>.val (.bool (aA neg (jF b) b))|none=>.fail
def OD(x:AV):OR:=match x with|.bool b=>.val (.bool (jF b))|_=>.fail
def unV(op:UnOp)(x:AV):OR:=match x with|.int k n=>orV (tL (Op.unary op (.int k n)))|_=>.fail
def Iq(k:IntKind)(x:AV):OR:=match x with|.int _ n=>.val (.int k (tW k n))|_=>.fail
def Ko(sz bytes:Nat)(zero:List AV)(l c:AV)(g:G):OR:=ic sz bytes zero (λ_=>l) (λ_=>c) .nil g
def Ei(sz:Nat)(x:AV)(lo hi:Option AV)(g:G):OR:=orV (nR sz x lo hi none g.h)
def QN(n sz:Nat)(x:AV)(lo hi:Option AV)(g:G):OR:=iS n sz (λ_=>x) (λ_=>lo) (λ_=>hi) .nil g
def J6(fo:Nat)(x:AV):OR:=match x with
 |.tptr l sz rows i off=>.val (.tptr l sz rows i (off+fo))
 |.hptr id ep i off=>.val (.hptr id ep i (off+fo))
 |_=>.fail
def P5(ag:Bool)(n fo:Nat)(x:AV):OR:=match x with|.agg cs=>orV (ch ag n cs fo)|_=>.fail
def B4(sz:Nat)(x i:AV)(g:G):OR:=gN sz (λ_=>x) (λ_=>i) .nil g
def AF(n sz:Nat)(x i:AV):OR:=nH n sz (λ_=>x) (λ_=>i) .nil G.empty
def ixV(ag:Bool)(n sz:Nat)(x i:AV):OR:=vL ag n sz (λ_=>x) (λ_=>i) .nil G.empty
def LI(x:AV)(i:Nat):OR:=match x with|.tup vs=>orV (AR i vs)|_=>.fail
def mxV(x y:AV):OR:=match x with
 |.int k m=>match y with|.int k' n=>aA (cZ k k') (.val (.int k (aA (zi m n) n m))) .fail|_=>.fail
 |_=>.fail
def mnV(x y:AV):OR:=match x with
 |.int k m=>match y with|.int k' n=>aA (cZ k k') (.val (.int k (aA (zi n m) n m))) .fail|_=>.fail
 |_=>.fail
def an(C:Cfg)(d f:Nat)(as:List AV)(g:G):OR :=
 match C.ext f with
 |some e=>e d as g
 |none=>aA (C.iso f) (am (I C) d g f as) (orF ((I C).call d f as g))
inductive SO where
 |mv (x:Od)
 |pick (c a b:Od)
 |alloc (cs:List AV)
 |box (x:Od)
 |build (zero:List AV) (pl:List (Nat×Nat)) (vs:List Od)
 |bsl (sz len:Nat) (zero:List AV) (is:List Nat) (vs:List Od)
 |load (ag:Bool) (n:Nat) (a:Od)
 |store (n:Nat) (a x:Od)
 |nilc (x:Od)
 |bin (op:BinOp) (x y:Od)
 |eq (neg:Bool) (ek:EqKind) (x y:Od)
 |not (x:Od)
 |un (op:UnOp) (x:Od)
 |conv (k:IntKind) (x:Od)
 |mkf (f:Nat) (a c:List Od)
 |mks (sz bytes:Nat) (zero:List AV) (l c:Od)
 |slc (sz:Nat) (x:Od) (lo hi:List Od)
 |sla (n sz:Nat) (x:Od) (lo hi:List Od)
 |fad (fo:Nat) (x:Od)
 |fld (ag:Bool) (n fo:Nat) (x:Od)
 |ixs (sz:Nat) (x i:Od)
 |ixa (n sz:Nat) (x i:Od)
 |ix (ag:Bool) (n sz:Nat) (x i:Od)
 |ext (x:Od) (i:Nat)
 |len (lk:LenKind) (x:Od)
 |app (sz bytes:Nat) (x y:Od)
 |cpy (sz:Nat) (x y:Od)
 |mx (x y:Od)
 |mn (x y:Od)
 |call (f:Nat) (as:List Od)
 |dyn (f:Od) (as:List Od)
 |raw (op:Op)
def SO.run(C:Cfg)(d:Nat)(rd:Option Nat)(t:T)(g:G):SO->OR
 |.mv x=>.val (x.get t)
 |.pick c a b=>I6 (c.get t) (a.get t) (b.get t)
 |.alloc cs=>.upd (.hptr g.nx 0 0 0) (g.new (We (bL cs) [cs]))
 |.box x=>Lo (x.get t) g
 |.build zero pl vs=>u9 zero pl (fK t vs)
 |.bsl sz n zero is vs=>BA sz n zero is (fK t vs) g
 |.load ag n a=>oy ag n (a.get t) g
 |.store n a x=>qQ n (a.get t) (x.get t) g
 |.nilc x=>MQ (x.get t)
 |.bin op x y=>dO op (x.get t) (y.get t)
 |.eq neg ek x y=>DI neg ek (x.get t) (y.get t)
 |.not x=>OD (x.get t)
 |.un op x=>unV op (x.get t)
 |.conv k x=>Iq k (x.get t)
 |.mkf f a c=>.val (.clo f (fK t a) (fK t c))
 |.mks sz bytes zero l c=>Ko sz bytes zero (l.get t) (c.get t) g
 |.slc sz x lo hi=>Ei sz (x.get t) (fK t lo).head? (fK t hi).head? g
 |.sla n sz x lo hi=>QN n sz (x.get t) (fK t lo).head? (fK t hi).head? g
 |.fad fo x=>J6 fo (x.get t)
 |.fld ag n fo x=>P5 ag n fo (x.get t)
 |.ixs sz x i=>B4 sz (x.get t) (i.get t) g
 |.ixa n sz x i=>AF n sz (x.get t) (i.get t)
 |.ix ag n sz x i=>ixV ag n sz (x.get t) (i.get t)
 |.ext x i=>LI (x.get t) i
 |.len lk x=>dm lk (x.get t) g
 |.app sz bytes x y=>cC sz bytes (x.get t) (y.get t) g
 |.cpy sz x y=>yx sz (x.get t) (y.get t) g
 |.mx x y=>mxV (x.get t) (y.get t)
 |.mn x y=>mnV (x.get t) (y.get t)
 |.call f as=>an C d f (fK t as) g
 |.dyn f as=>io C (I C) d (f.get t) (fK t as) g
 |.raw op=>(cB C op).run (I C) d rd t g
def nOd(C:Cfg):Operand->Option Od
 |.tmp n=>some (.t n)
 |.const v=>match ofV v with|some a=>some (.k a)|none=>none
 |.global g=>match C.glob g with|some (sz,rows)=>some (.k (.tptr 0 sz rows 0 0))|none=>none
 |.func f=>some (.k (.clo f [] []))
def qK(C:Cfg):List Operand->Option (List Od)
 |[]=>some []
 | x::xs=>match nOd C x,qK C xs with
  |some a,some as=>some (a::as)
  |_,_=>none
theorem br{C:Cfg}{x:Operand}{o:Od}(h:nOd C x=some o):∃s,aW C x=some s/\∀t,s.run t=o.get t:=by
 unfold nOd at h
 split at h
 ·injection h with h;subst h;exact⟨_,rfl,λt=>gp_run _ _ _⟩
 ·split at h
  ·rename_i a ha;injection h with h;subst h;exact⟨⟨λ_=>a⟩,by grind[aW],λt=>rfl⟩
  grind
 ·split at h
  ·rename_i sz rows ha;injection h with h;subst h;exact⟨⟨λ_=>.tptr 0 sz rows 0 0⟩,by grind[aW],λt=>rfl⟩
  grind
 ·injection h with h;subst h;exact⟨_,rfl,λt=>rfl⟩
theorem dh{C:Cfg}:∀{xs:List Operand} {os:List Od},qK C xs=some os->∃s,cg C xs=some s/\∀t,s.run t=fK t os
 |[],os,h=>by injection h with h;subst h;exact⟨_,rfl,λt=>rfl⟩
 | x::xs,os,h=>by
  unfold qK at h
  split at h
  ·rename_i a as ha has;injection h with h;subst h;obtain⟨s,h1,h2⟩:=br ha;obtain⟨ss,h3,h4⟩:=dh has;simp_all[cg,fK]
  grind
def ML(C:Cfg)(op:Op):SO :=
 match op with
 |.move x|.assign x=>match nOd C x with|some a=>.mv a|none=>.raw op
 | .pick c a b=>match nOd C c,nOd C a,nOd C b with
  |some c,some a,some b=>.pick c a b
  |_,_,_=>.raw op
 | .alloc ty=>match fS C.P ty with
  |some cs=>.alloc cs
  |none=>.raw op
 | .box _ x=>match nOd C x with
  |some a=>.box a
  |none=>.raw op
 | .build ty parts=>match fS C.P ty,qK C (parts.toList.map (·.2)) with
  | some zero,some vs =>
   match C.P.underlying ty with
   | some (.struct fs)=>match aK (λf:Field=>match szT C.P f.type with| some n=>some (f.offset,n)| none=>none) fs.toList with
    | some places=>match aK (λi=>places[i]?) (parts.toList.map (·.1)) with
     |some pl=>.build zero pl vs
     |none=>.raw op
    |none=>.raw op
   | some (.array _ e)=>match szT C.P e with
    |some n=>.build zero ((parts.toList.map (·.1)).map λi=>(i*n,n)) vs
    |none=>.raw op
   |_=>.raw op
  |_,_=>.raw op
 | .buildSlice ty len parts=>match l9 C.P ty,qK C (parts.toList.map (·.2)) with
  | some e,some vs=>match szT C.P e,fS C.P e with
   | some sz,some zero=>aA (Nat.beq (bL zero) sz&&Nat.blt 0 sz&&Nat.ble (len*sz) 1048576)
    (.bsl sz len zero (parts.toList.map (·.1)) vs) (.raw op)
   |_,_=>.raw op
  |_,_=>.raw op
 | .load ty a=>match nOd C a,rT C.P ty,szT C.P ty with
  |some a,some ag,some n=>.load ag n a
  |_,_,_=>.raw op
 | .store ty a x=>match nOd C a,nOd C x,szT C.P ty with
  |some a,some x,some n=>.store n a x
  |_,_,_=>.raw op
 | .nilCheck x=>match nOd C x with
  |some a=>.nilc a
  |none=>.raw op
 | .binOp b ty x y _=>match nOd C x,nOd C y with
  | some x,some y=>match b with
   | .eql=>match qs C.P ty with
    |.other=>.bin b x y
    |ek=>.eq false ek x y
   | .neq=>match qs C.P ty with
    |.other=>.bin b x y
    |ek=>.eq true ek x y
   |b=>.bin b x y
  |_,_=>.raw op
 | .unOp u _ x=>match nOd C x with
  | some x=>match u with
   |.not=>.not x
   |u=>.un u x
  |none=>.raw op
 | .convert src dst x=>match nOd C x,C.P.underlying src,C.P.underlying dst with
  |some x,some _,some (.int k)=>.conv k x
  |_,_,_=>.raw op
 | .makeFunc (.func f) first captured=>match qK C first.toList,qK C captured.toList with
  |some a,some c=>.mkf f a c
  |_,_=>.raw op
 | .makeSlice ty l c=>match l9 C.P ty,nOd C l,nOd C c with
  | some e,some l,some c=>match szT C.P e,jQ C.P e,fS C.P e with
   |some sz,some bytes,some zero=>aA (Nat.beq (bL zero) sz&&Nat.blt 0 sz) (.mks sz bytes zero l c) (.raw op)
   |_,_,_=>.raw op
  |_,_,_=>.raw op
 | .slice ty x lo hi none=>match C.P.underlying ty,nOd C x,qK C lo.toList,qK C hi.toList with
  | some (.slice e),some x,some l,some h=>match szT C.P e with
   |some sz=>.slc sz x l h
   |none=>.raw op
  | some (.array n e),some x,some l,some h=>match szT C.P e with
   |some (sz+1)=>.sla n (sz+1) x l h
   |_=>.raw op
  |_,_,_,_=>.raw op
 | .fieldAddr ty x f=>match nOd C x,tj C.P ty f with
  | some a,some (fo,ft)=>match szT C.P ft with
   |some (_+1)=>.fad fo a
   |_=>.raw op
  |_,_=>.raw op
 | .field ty x f=>match nOd C x,tj C.P ty f with
  | some a,some (fo,ft)=>match rT C.P ft,szT C.P ft with
   |some ag,some n=>.fld ag n fo a
   |_,_=>.raw op
  |_,_=>.raw op
 | .indexAddr ty x ix=>match nOd C x,nOd C ix with
  | some a,some i=>match C.P.underlying ty with
   | some (.slice e)=>match szT C.P e with
    |some sz=>.ixs sz a i
    |none=>.raw op
   | some (.array n e)=>match szT C.P e with
    |some sz=>.ixa n sz a i
    |none=>.raw op
   |_=>.raw op
  |_,_=>.raw op
 | .index ty x ix=>match nOd C x,nOd C ix with
  | some a,some i=>match C.P.underlying ty with
   | some (.array n e)=>match rT C.P e,szT C.P e with
    |some ag,some sz=>.ix ag n sz a i
    |_,_=>.raw op
   |_=>.raw op
  |_,_=>.raw op
 | .extract x i=>match nOd C x with
  |some a=>.ext a i
  |none=>.raw op
 |op=>.raw op
def nOp(C:Cfg)(op:Op):SO :=
 match op with
 | .call { callee:=.value (.func f),args,.. }=>match qK C args.toList with
  |some vs=>.call f vs
  |none=>.raw op
 | .call { callee:=.value fo,args,.. }=>match nOd C fo,qK C args.toList with
  |some f,some vs=>.dyn f vs
  |_,_=>.raw op
 | .call { callee:=.builtin b,args,argTypes }=>match b,qK C args.toList with
  | .len,some [x]=>match argTypes[0]? with
   |some t=>.len (mH C.P t) x
   |none=>.raw op
  | .append,some [a,x]=>match argTypes[0]?,argTypes[1]? with
   | some t,some xt=>match l9 C.P t,C.P.underlying xt with
    | some e,some (.slice _)=>match szT C.P e,jQ C.P e,fS C.P e with
     |some sz,some bytes,some zero=>aA (Nat.beq (bL zero) sz&&Nat.blt 0 sz&&Nat.blt 0 bytes) (.app sz bytes a x) (.raw op)
     |_,_,_=>.raw op
    |_,_=>.raw op
   |_,_=>.raw op
  | .copy,some [a,x]=>match argTypes[0]? with
   | some t=>match l9 C.P t with
    | some e=>match szT C.P e with
     |some sz=>.cpy sz a x
     |none=>.raw op
    |none=>.raw op
   |none=>.raw op
  |.max,some [x,y]=>.mx x y
  |.min,some [x,y]=>.mn x y
  |_,_=>.raw op
 |op=>ML C op
theorem bT{C:Cfg}{op:Op}{s:Stg SFn}(h1:cOp C op=match cx C op with|some s=>some ⟨λ_ _ _ t g=>s.run t g⟩|none=>none)(h:cx C op=some s)
  {ih:IH} {d:Nat} {rd:Option Nat} {t:T} {g:G}:(cB C op).run ih d rd t g=s.run t g:=by
 simp_all[cB]
theorem OC{C:Cfg}{op:Op}(h1:cOp C op=match cx C op with|some s=>some ⟨λ_ _ _ t g=>s.run t g⟩|none=>none){d:Nat}{rd:Option Nat}{t:T}{g:G} :
  (ML C op).run C d rd t g=(cB C op).run (I C) d rd t g:=by
 unfold ML
 split
 case h_1 x =>
  split
  ·rename_i a ha;obtain⟨s,hs,he⟩:=br ha;simp_all[bT,cx,SO.run]
  ·rfl
 case h_2 x =>
  split
  ·rename_i a ha;obtain⟨s,hs,he⟩:=br ha;simp_all[bT,cx,SO.run]
  ·rfl
 case h_3 c a b =>
  split
  ·rename_i c a b hc ha hb;obtain⟨s1,q1,e1⟩:=br hc;obtain⟨s2,q2,e2⟩:=br ha;obtain⟨s3,q3,e3⟩:=br hb;rw[bT h1 (by simp only[cx,q1,q2,q3];rfl)];grind[SO.run,I6]
  ·rfl
 case h_4 ty =>
  split
  ·rename_i cs hz;rw[bT h1 (by simp only[cx,hz];rfl)];rfl
  ·rfl
 case h_5 ty x =>
  split
  ·rename_i a ha;obtain⟨s,hs,he⟩:=br ha;simp_all[bT,cx,SO.run,Lo,Ln]
  ·rfl
 case h_6 ty parts =>
  split
  ·rename_i zero vs hz hv;obtain⟨s,hs,he⟩:=dh hv
   split
   ·rename_i fs hu
    split
    ·rename_i places hp
     split
     ·rename_i pl hpl;have hh:cx C (.build ty parts)=some ⟨oO zero pl s.run⟩:=by
       simp only[cx,hz,hs,hu]
       grind
      rw[bT h1 hh];grind[SO.run,u9,oO]
     ·rfl
    ·rfl
   ·rename_i n e hu
    split
    ·rename_i n hn;rw[bT h1 (by simp only[cx,hz,hs,hu,hn];rfl)];simp only[SO.run,u9,oO,he]<;>rfl
    ·rfl
   ·rfl
  ·rfl
 case h_7 ty len parts =>
  split
  ·rename_i e vs hz hv;obtain⟨s,hs,he⟩:=dh hv
   split
   ·rename_i sz zero h2 h3;rw[aa]
    split
    ·rename_i hc;rw[bT h1 (by simp only[cx,hz,hs,h2,h3,hc];rfl)];grind[SO.run,BA,il]
    ·rfl
   ·rfl
  ·rfl
 case h_8 ty a =>
  split
  ·rename_i a ag n ha h2 h3;obtain⟨s,hs,he⟩:=br ha;simp_all[bT,cx,SO.run,oy,mz]
  ·rfl
 case h_9 ty a x =>
  split
  ·rename_i a x n ha hx h3;obtain⟨s,hs,he⟩:=br ha;obtain⟨s2,hs2,he2⟩:=br hx;simp_all[bT,cx,SO.run,qQ,pw]
  ·rfl
 case h_10 x =>
  split
  ·rename_i a ha;obtain⟨s,hs,he⟩:=br ha;rw[bT h1 (by simp only[cx,hs];rfl)];grind[SO.run,MQ]
  ·rfl
 case h_11 b ty x y yt =>
  split
  ·rename_i x y hx hy;obtain⟨s,hs,he⟩:=br hx;obtain⟨s2,hs2,he2⟩:=br hy;rw[bT h1 (by simp only[cx,hs,hs2];rfl)];simp only[he,he2]
   split
   ·split
    ·rename_i hk;simp only[zJ,hk];rfl
    ·rename_i ek hk;simp only[SO.run,DI,zJ]<;>rfl
   ·split
    ·rename_i hk;simp only[zJ,hk];rfl
    ·rename_i ek hk;simp only[SO.run,DI,zJ]<;>rfl
   ·rename_i hn1 hn2;simp only[SO.run,zJ,dO]<;>rfl
  ·rfl
 case h_12 u ty x =>
  split
  ·rename_i a ha;obtain⟨s,hs,he⟩:=br ha;rw[bT h1 (by simp only[cx,hs];rfl)]
   split
   ·simp only[SO.run,OD,unA,he]<;>rfl
   ·rename_i hn;simp only[SO.run,unV,unA,he]<;>rfl
  ·rfl
 case h_13 src dst x =>
  split
  ·rename_i a ty k ha h2 h3;obtain⟨s,hs,he⟩:=br ha;rw[bT h1 (by simp only[cx,hs,h2,h3];rfl)];grind[SO.run,Iq]
  ·rfl
 case h_14 f first captured =>
  split
  ·rename_i a c ha hc;obtain⟨s,hs,he⟩:=dh ha;obtain⟨s2,hs2,he2⟩:=dh hc;simp_all[bT,cx,SO.run]
  ·rfl
 case h_15 ty l c =>
  split
  ·rename_i e l c h0 hl hc;obtain⟨s,hs,he⟩:=br hl;obtain⟨s2,hs2,he2⟩:=br hc
   split
   ·rename_i sz bytes zero h2 h3 h4;rw[aa]
    split
    ·rename_i hc;rw[bT h1 (by simp only[cx,h0,hs,hs2,h2,h3,h4,hc];rfl)];grind[SO.run,Ko,ic]
    ·rfl
   ·rfl
  ·rfl
 case h_16 ty x lo hi =>
  split
  ·rename_i e x l h h0 hx hl hh;obtain⟨s,hs,he⟩:=br hx;obtain⟨s2,hs2,he2⟩:=dh hl;obtain⟨s3,hs3,he3⟩:=dh hh
   split
   all_goals simp_all[bT,cx,SO.run,Ei]
  ·rename_i n e x l h h0 hx hl hh;obtain⟨s,hs,he⟩:=br hx;obtain⟨s2,hs2,he2⟩:=dh hl;obtain⟨s3,hs3,he3⟩:=dh hh
   split
   ·rename_i sz h2;rw[bT h1 (by simp only[cx,h0,hs,hs2,hs3,h2];rfl)];grind[SO.run,QN,iS]
   ·rfl
  ·rfl
 case h_17 ty x f =>
  split
  ·rename_i a fo ft ha h0;obtain⟨s,hs,he⟩:=br ha
   split
   ·rename_i k h2;rw[bT h1 (by simp only[cx,hs,h0,h2];rfl)];grind[SO.run,J6,kh]
   ·rfl
  ·rfl
 case h_18 ty x f =>
  split
  ·rename_i a fo ft ha h0;obtain⟨s,hs,he⟩:=br ha
   split
   ·rename_i ag n h2 h3;rw[bT h1 (by simp only[cx,hs,h0,h2,h3];rfl)];grind[SO.run,P5]
   ·rfl
  ·rfl
 case h_19 ty x ix =>
  split
  ·rename_i a i ha hi;obtain⟨s,hs,he⟩:=br ha;obtain⟨s2,hs2,he2⟩:=br hi
   split
   ·rename_i e h0
    split
    ·rename_i sz h2;rw[bT h1 (by simp only[cx,hs,hs2,h0,h2];rfl)];grind[SO.run,B4,gN]
    ·rfl
   ·rename_i n e h0
    split
    all_goals simp_all[bT,cx,SO.run,AF,nH]
   ·rfl
  ·rfl
 case h_20 ty x ix =>
  split
  ·rename_i a i ha hi;obtain⟨s,hs,he⟩:=br ha;obtain⟨s2,hs2,he2⟩:=br hi
   split
   ·rename_i n e h0
    split
    all_goals simp_all[bT,cx,SO.run,ixV,vL]
   ·rfl
  ·rfl
 case h_21 x i =>
  split
  ·rename_i a ha;obtain⟨s,hs,he⟩:=br ha;rw[bT h1 (by simp only[cx,hs];rfl)];grind[SO.run,LI]
  ·rfl
 case h_22=>rfl
theorem pz{C:Cfg}{xs:List Operand}{os:List Od}(h:qK C xs=some os) :
  (∀o,os=[o]->∃x s,xs=[x]/\aW C x=some s/\∀t,s.run t=o.get t) /\
  (∀o p,os=[o,p]->∃x y s u,xs=[x,y]/\aW C x=some s/\aW C y=some u/\(∀t,s.run t=o.get t)/\∀t,u.run t=p.get t):=by
 refine⟨λo ho=>?_,λo p ho=>?_⟩
 ·subst ho
  match xs,h with
  | [x],h =>
   unfold qK at h
   split at h
   all_goals simp_all[br]
  | x::y::xs,h =>
   grind[qK]
 ·subst ho
  match xs,h with
  | [x,y],h =>
   unfold qK at h
   split at h
   ·rename_i a as ha has;unfold qK at has
    split at has
    ·rename_i b bs hb hbs;injection has with has;subst has;injection h with h;injection h with h1 h2;injection h2 with h3 h4;subst h1;subst h3;obtain⟨s,q,e⟩:=br ha;obtain⟨s',q',e'⟩:=br hb<;>grind
    grind
   grind
  | [x],h =>
   grind[qK]
  | x::y::z::xs,h =>
   grind[qK]
theorem D7{C:Cfg}{op:Op}{d:Nat}{rd:Option Nat}{t:T}{g:G}:(nOp C op).run C d rd t g=(cB C op).run (I C) d rd t g:=by
 unfold nOp
 split
 ·rename_i f args ats
  split
  ·rename_i vs hv;obtain⟨s,hs,he⟩:=dh hv;simp only[SO.run,cB,cOp,hs,an];cases hx:C.ext f with
   |some e=>grind
   |none=>cases hi:C.iso f<;>simp only[he]
  ·rfl
 ·rename_i fo args ats hnf
  split
  ·rename_i f vs hf hv;obtain⟨s,hs,he⟩:=dh hv;obtain⟨s2,hs2,he2⟩:=br hf;simp_all[SO.run,cB,cOp]
  ·rfl
 ·rename_i b args ats;have hc:b≠.recover->cOp C (.call { callee:=.builtin b,args:=args,argTypes:=ats })=match cx C (.call { callee:=.builtin b,args:=args,argTypes:=ats }) with
    |some s=>some ⟨λ_ _ _ t g=>s.run t g⟩|none=>none:=by
   intro hb;cases b<;>first|rfl|grind
  split
  ·rename_i x hx;obtain⟨y,s,hxs,hs,he⟩:=(pz hx).1 _ rfl
   split
   all_goals simp_all[bT,cx,dt,SO.run]
  ·rename_i a x hx;obtain⟨y,z,s,u,hxs,hs,hu,he,he2⟩:=(pz hx).2 _ _ rfl
   split
   ·rename_i ty xt hty hxt
    split
    ·rename_i e e2 h1 h2
     split
     ·rename_i sz bytes zero h3 h4 h5;rw[aa]
      split
      ·rename_i hcc;rw[bT (hc (by simp)) (by simp only[cx,dt,hxs,hty,hxt,hs,hu,h1,h2,h3,h4,h5,hcc];rfl)];grind[SO.run]
      ·rfl
     ·rfl
    ·rfl
   ·rfl
  ·rename_i a x hx;obtain⟨y,z,s,u,hxs,hs,hu,he,he2⟩:=(pz hx).2 _ _ rfl
   split
   ·rename_i ty hty
    split
    ·rename_i e h1
     split
     all_goals simp_all[bT,cx,dt,SO.run]
    ·rfl
   ·rfl
  ·rename_i a x hx;obtain⟨y,z,s,u,hxs,hs,hu,he,he2⟩:=(pz hx).2 _ _ rfl;rw[bT (hc (by simp)) (by simp only[cx,dt,hxs,hs,hu];rfl)];grind[SO.run,mxV]
  ·rename_i a x hx;obtain⟨y,z,s,u,hxs,hs,hu,he,he2⟩:=(pz hx).2 _ _ rfl;rw[bT (hc (by simp)) (by simp only[cx,dt,hxs,hs,hu];rfl)];grind[SO.run,mnV]
  ·rfl
 ·rename_i h1 h2 h3;have key:∀op,(∀c,op≠.call c)->(∀c,op≠.defer c)->cOp C op=match cx C op with|some s=>some ⟨λ_ _ _ t g=>s.run t g⟩|none=>none:=by intro op hc hd;cases op<;>first|rfl|grind|grind
  cases op with
  |call c=>rfl
  |defer c=>rfl
  |_=>exact OC (by grind)
structure SI where
 dst:Option Nat
 gd:Option (Nat×Bool)
 op:SO
inductive SC where
 |skip
 |ops (l:List SI)
 |quiet (l:List SI)
 |feet (pm:List Nat) (l:List SI)
 |seq (a b:SC)
 |cond (c:Od) (a b:SC)
 |blk (id:Nat) (b:SC)
 |loop (b:SC)
 |exit (id:Nat)
 |ret
 |rng (nt:Nat) (f:Od) (ps:List Nat) (assign body:SC)
 |raw (nt:Nat) (c:Code)
def OR.sat(r:OR)(K:AV->G->Prop)(g:G)(D:ADf->Prop):Prop :=
 match r with
 |.fail=>False
 |.val v=>K v g
 |.upd v g'=>K v g'
 |.dfr a=>D a
def CR.sat(r:CR)(Q:Ex->T->List ADf->G->Prop):Prop :=
 match r with
 |.fail=>False
 |.ok e t df g=>Q e t df g
def FR.sat(r:FR)(Q:AV->G->Prop):Prop :=
 match r with
 |.fail=>False
 |.ok v g=>Q v g
def FV(dst:Option Nat)(t:T)(v:AV):T:=match dst with|none=>t|some d=>fQ t d v
abbrev PT:=T->List ADf->G->Prop
abbrev QT:=Ex->T->List ADf->G->Prop
def xy(q:Bool)(A B:PT)(t:T)(df:List ADf)(g:G):Prop:=(q=true->A t df g)/\(q=false->B t df g)
def gdP(v:AV)(w:Bool)(A B:PT)(t:T)(df:List ADf)(g:G):Prop :=
 match v with
 |.bool q=>aA w (xy q A B t df g) (xy q B A t df g)
 |.tup _=>B t df g
 |_=>False
def kO(W:PT)(dst:Option Nat)(t:T)(df:List ADf)(v:AV)(g:G):Prop:=W (FV dst t v) df g
def kD(W:PT)(dst:Option Nat)(t:T)(df:List ADf)(g:G)(a:ADf):Prop:=W (FV dst t .undef) (a::df) g
def Gi(C:Cfg)(d:Nat)(rd:Option Nat)(i:SI)(W:PT)(t:T)(df:List ADf)(g:G):Prop:=(i.op.run C d rd t g).sat (kO W i.dst t df) g (kD W i.dst t df g)
def Bg(i:SI)(W:PT)(t:T)(df:List ADf)(g:G):Prop:=W (FV i.dst t .undef) df g
def wpO(C:Cfg)(d:Nat)(rd:Option Nat):List SI->PT->T->List ADf->G->Prop
 |[],Q,t,df,g=>Q t df g
 | i::r,Q,t,df,g =>
  match i.gd with
  |none=>Gi C d rd i (wpO C d rd r Q) t df g
  |some (s,w)=>gdP (tat t s) w (Gi C d rd i (wpO C d rd r Q)) (Bg i (wpO C d rd r Q)) t df g
def SO.foot(C:Cfg)(t:T)(g:G):SO->Looks
 |.load _ _ a=>ae (ak (a.get t))
 |.store _ a _=>ae (ak (a.get t))
 |.slc _ a _ _=>ae (ak (a.get t))
 |.sla _ _ a _ _=>ae (ak (a.get t))
 |.ixs _ a _=>ae (ak (a.get t))
 |.app _ _ a x=>ae (ak (a.get t)++ak (x.get t))
 |.cpy _ a x=>ae (ak (a.get t)++ak (x.get t))
 |.mx a x=>ae (ak (a.get t)++ak (x.get t))
 |.mn a x=>ae (ak (a.get t)++ak (x.get t))
 |.len lk a=>match lk with|.map=>ae (xf (a.get t))|_=>aw
 |.call f as=>aA ((C.ext f).isSome || C.iso f) (ae ((fK t as).flatMap (aC g.h aD))) bf
 | .dyn f as=>match f.get t with
  |.clo f first cap=>aA ((C.ext f).isSome || C.iso f) (ae ((first++(fK t as++cap)).flatMap (aC g.h aD))) bf
  |_=>bf
 |.raw op=>(aP C op).run t g
 |_=>aw
abbrev FT:=T->List ADf->G->List Foot->Prop
def kF(W:FT)(dst:Option Nat)(t:T)(df:List ADf)(lg:List Nat)(fs:List Foot)(lk:Looks)(v:AV)(g':G):Prop:=W (FV dst t v) df (im g' (g'.lg++lg)) (⟨lk,g'.lg⟩::fs)
def KM(C:Cfg)(d:Nat)(rd:Option Nat)(i:SI)(W:FT)(fs:List Foot)(t:T)(df:List ADf)(g:G):Prop :=
 (i.op.run C d rd t (aO g [])).sat (kF W i.dst t df g.lg fs (i.op.foot C t g)) (aO g []) (λ_=>False)
def Gq(i:SI)(W:FT)(fs:List Foot)(t:T)(df:List ADf)(g:G):Prop:=W (FV i.dst t .undef) df g (⟨aw,[]⟩::fs)
def wpF(C:Cfg)(d:Nat)(rd:Option Nat)(pm:List Nat):List SI->PT->T->List ADf->G->List Foot->Prop
 |[],Q,t,df,g,fs=>mE pm fs.reverse=true/\Q t df g
 | i::r,Q,t,df,g,fs =>
  match i.gd with
  |none=>KM C d rd i (wpF C d rd pm r Q) fs t df g
  |some (s,w)=>gdP (tat t s) w (KM C d rd i (wpF C d rd pm r Q) fs) (Gq i (wpF C d rd pm r Q) fs) t df g
def kS(W:PT)(Q:QT)(e:Ex)(t:T)(df:List ADf)(g:G):Prop:=match e with|.norm=>W t df g|e=>Q e t df g
def kB(id:Nat)(Q:QT)(e:Ex)(t:T)(df:List ADf)(g:G):Prop:=match e with|.exit j=>aA (Nat.beq j id) (Q .norm t df g) (Q (.exit j) t df g)|e=>Q e t df g
def kL(Inv:Nat->PT)(k:Nat)(Q:QT)(e:Ex)(t:T)(df:List ADf)(g:G):Prop:=match e with|.norm=>∃k',k'<k/\Inv k' t df g|e=>Q e t df g
def kQ(g0:G)(Q:QT)(t:T)(df:List ADf)(g:G):Prop:=g.lg=[]/\g.nx=g0.nx/\Q .norm t df g0
def wpC(v:AV)(A B:PT)(t:T)(df:List ADf)(g:G):Prop:=match v with|.bool q=>xy q A B t df g|_=>False
def wpL(W:QT->PT)(Q:QT)(t:T)(df:List ADf)(g:G):Prop :=
 ∃Inv:Nat->PT,(∃k,Inv k t df g)/\∀k t df g,Inv k t df g->W (kL Inv k Q) t df g
def nGd(all:List Oper):Option (Nat×Bool)->Option (Option (Nat×Bool))
 |none=>some none
 | some (j,w)=>match all[j]? with
  | some o=>match o.dst with
   |some d=>some (some (d,w))
   |none=>none
  |none=>none
def QJ(nt:Nat):Option Nat->Bool
 |none=>true
 |some d=>Nat.blt d nt
def Kp(C:Cfg)(nt:Nat)(all:List Oper):List Oper->Option (List SI)
 |[]=>some []
 | o::rest=>match QJ nt o.dst,nGd all o.guard,Kp C nt all rest with
  |true,some gd,some r=>some (⟨o.dst,gd,nOp C o.op⟩::r)
  |_,_,_=>none
def dz(C:Cfg)(nt:Nat):Code->SC
 |.skip=>.skip
 |.label _=>.skip
 | .region p ops draw=>match Kp C nt ops.toList ops.toList with
  |some l=>aA draw (aA (D_ ops.toList) (aA (ops.toList.all λo=>zu C o.op) (.quiet l) (.feet (bJ ops.toList []) l)) (.raw nt (.region p ops draw))) (.ops l)
  |none=>.raw nt (.region p ops draw)
 |.seq a b=>.seq (dz C nt a) (dz C nt b)
 | .cond c a b=>match nOd C c with
  |some c=>.cond c (dz C nt a) (dz C nt b)
  |none=>.raw nt (.cond c a b)
 |.block id b=>.blk id (dz C nt b)
 |.loop b=>.loop (dz C nt b)
 |.scope b=>dz C nt b
 |.exit id=>.exit id
 |.ret=>.ret
 | .rangeFunc f ps assign body=>match nOd C f with
  |some f=>.rng nt f ps.toList (dz C nt assign) (dz C nt body)
  |none=>.raw nt (.rangeFunc f ps assign body)
 |c=>.raw nt c
def wp(C:Cfg)(d:Nat)(rd:Option Nat):SC->QT->T->List ADf->G->Prop
 |.skip,Q,t,df,g=>Q .norm t df g
 |.ops l,Q,t,df,g=>wpO C d rd l (Q .norm) t df g
 |.quiet l,Q,t,df,g=>wpO C d rd l (kQ g Q) t df (aO g [])
 |.feet pm l,Q,t,df,g=>wpF C d rd pm l (Q .norm) t df g []
 |.seq a b,Q,t,df,g=>wp C d rd a (kS (wp C d rd b Q) Q) t df g
 |.cond c a b,Q,t,df,g=>wpC (c.get t) (wp C d rd a Q) (wp C d rd b Q) t df g
 |.blk id b,Q,t,df,g=>wp C d rd b (kB id Q) t df g
 |.loop b,Q,t,df,g=>wpL (wp C d rd b) Q t df g
 |.exit id,Q,t,df,g=>Q (.exit id) t df g
 |.ret,Q,t,df,g=>Q .ret t df g
 |.rng nt f ps a b,Q,t,df,g=>∀assign body,dz C nt assign=a->dz C nt body=b->(nN C nt (λt=>f.get t) ps assign body (I C) d rd t df g).sat Q
 |.raw nt c,Q,t,df,g=>((aX C nt c).run (I C) d rd t df g).sat Q
theorem IZ{nt:Nat}{dst:Option Nat}(h:QJ nt dst=true):∃o,vQ nt dst=some o/\∀t v,o.run t v=FV dst t v:=by
 cases dst with
 |none=>exact⟨_,rfl,λt v=>rfl⟩
 | some d =>
  refine⟨sp AV.undef d,?_,λt v=>rfl⟩;have h:Nat.blt d nt=true:=h;simp only[vQ,h]
theorem Cn{all:List Oper}{j:Nat}{w:Bool}{r:Option (Nat×Bool)}(h:nGd all (some (j,w))=some r) :
  ∃s,r=some (s,w)/\jR all (some (j,w))=some ⟨λt=>match (gp AV.undef s).run t with|.bool b=>some (aA w b (jF b))|.tup _=>some false|_=>none⟩:=by
 unfold nGd at h;dsimp only at h
 split at h
 ·rename_i o ho
  split at h
  ·rename_i d hd;injection h with h;exact⟨d,h.symm,by grind[jR]⟩
  grind
 grind
theorem Bd{out:T->AV->T}{dst:Option Nat}(ho:∀t v,out t v=FV dst t v){next:T->List ADf->G->CR}{Q:QT}{K:PT}(hk:∀t df g,K t df g->(next t df g).sat Q)
  {t:T} {df:List ADf} {g:G} {r:OR} (h:r.sat (kO K dst t df) g (kD K dst t df g)):(px out next t df g r).sat Q:=by
 cases r with
 |fail=>exact h.elim
 |val v=>exact hk _ _ _ (by rw[ho];exact h)
 |upd v g'=>exact hk _ _ _ (by rw[ho];exact h)
 |dfr a=>exact hk _ _ _ (by rw[ho];exact h)
theorem Fp{v:AV}{w:Bool}{A B:PT}{t:T}{df:List ADf}{g:G}(h:gdP v w A B t df g) :
  ∃q,(match v with|.bool b=>some (aA w b (jF b))|.tup _=>some false|_=>none:Option Bool)=some q/\(q=true->A t df g)/\(q=false->B t df g):=by
 unfold gdP at h
 split at h
 ·rename_i q;rw[aa]at h;refine⟨_,rfl,?_,?_⟩
  ·cases w<;>cases q<;>simp_all [xy]
  ·cases w<;>cases q<;>simp_all [xy]
 all_goals grind
theorem NU{C:Cfg}{d:Nat}{rd:Option Nat}{nt:Nat}{all:List Oper}{Q:QT}:∀(l:List Oper) (s:List SI),Kp C nt all l=some s->∀t df g,wpO C d rd s (Q .norm) t df g ->
  ((jS C nt all l).run (I C) d rd t df g).sat Q:=by
 intro l
 induction l with
 |nil=>intro s h t df g hq;injection h with h;subst h;exact hq
 | cons o rest ih =>
  intro s h t df g hq;unfold Kp at h
  split at h
  ·rename_i gd r hd hg hr;injection h with h;subst h;obtain⟨ot,e1,e2⟩:=IZ hd;unfold jS;rw[e1];dsimp only;cases hgd:o.guard with
   | none =>
    rw[hgd]at hg;injection hg with hg;subst hg;dsimp only;rw[<-D7];exact Bd e2 (by grind) hq
   | some jw =>
    obtain⟨j,w⟩:=jw;rw[hgd]at hg;obtain⟨sl,h1,h2⟩:=Cn hg;subst h1;dsimp only;rw[h2];dsimp only;obtain⟨q,h3,h4,h5⟩:=Fp hq;have:(gp AV.undef sl).run t=tat t sl:=gp_run _ _ _;rw[this,h3];cases q with
    | true =>
     dsimp only;rw[<-D7];exact Bd e2 (by grind) (h4 rfl)
    | false =>
     dsimp only;rw[e2];exact ih r hr _ _ _ (h5 rfl)
  grind
theorem Kq{C:Cfg}{op:Op}(hc:∀c,op≠.call c){t:T}{g:G}:(ML C op).foot C t g=(aP C op).run t g:=by
 have hod:∀{x:Operand} {o:Od},nOd C x=some o->∃s,aW C x=some s/\∀t,s.run t=o.get t:=br;unfold ML
 split
 case h_8 ty a =>
  split
  ·rename_i a ag n ha h2 h3;obtain⟨s,hs,he⟩:=hod ha;simp_all[aP,SO.foot]
  ·rfl
 case h_9 ty a x =>
  split
  ·rename_i a x n ha hx h3;obtain⟨s,hs,he⟩:=hod ha;simp_all[aP,SO.foot]
  ·rfl
 case h_16 ty x lo hi =>
  split
  ·rename_i e x l h h0 hx hl hh;obtain⟨s,hs,he⟩:=hod hx
   split
   all_goals simp_all[aP,SO.foot]
  ·rename_i n e x l h h0 hx hl hh;obtain⟨s,hs,he⟩:=hod hx
   split
   all_goals simp_all[aP,SO.foot]
  ·rfl
 case h_19 ty x ix =>
  split
  ·rename_i a i ha hi;obtain⟨s,hs,he⟩:=hod ha
   split
   ·rename_i e h0
    split
    all_goals simp_all[aP,SO.foot]
   ·rename_i n e h0
    split
    all_goals simp_all[aP,SO.foot]
   ·rfl
  ·rfl
 all_goals (repeat' (first|rfl|split|rw[aa]))
theorem MK{C:Cfg}{op:Op}{t:T}{g:G}:(nOp C op).foot C t g=(aP C op).run t g:=by
 unfold nOp
 split
 ·rename_i f args ats
  split
  ·rename_i vs hv;obtain⟨s,hs,he⟩:=dh hv;simp_all[SO.foot,aP,aW]
  ·rfl
 ·rename_i fo args ats hnf
  split
  ·rename_i f vs hf hv;obtain⟨s,hs,he⟩:=dh hv;obtain⟨s2,hs2,he2⟩:=br hf;simp only[SO.foot,aP,hs,hs2,he,he2]
   grind
  ·rfl
 ·rename_i b args ats
  split
  ·rename_i x hx;obtain⟨s,hs,he⟩:=dh hx
   split
   ·rename_i ty hty;simp only[SO.foot,aP,hs,he,fK,U5,Vb,TZ,mA,hty];cases mH C.P ty<;>rfl
   ·rfl
  ·rename_i a x hx;obtain⟨s,hs,he⟩:=dh hx;have hfoot:(aP C (.call { callee:=.builtin .append,args:=args,argTypes:=ats })).run t g=ae (ak (a.get t)++ak (x.get t)):=by simp_all[aP,fK,mA]
   split
   ·split
    ·split
     ·rw[aa];split
      ·exact hfoot.symm
      ·rfl
     ·rfl
    ·rfl
   ·rfl
  ·rename_i a x hx;obtain⟨s,hs,he⟩:=dh hx;have hfoot:(aP C (.call { callee:=.builtin .copy,args:=args,argTypes:=ats })).run t g=ae (ak (a.get t)++ak (x.get t)):=by simp_all[aP,fK,mA]
   split
   ·split
    ·split
     ·exact hfoot.symm
     ·rfl
    ·rfl
   ·rfl
  ·rename_i a x hx;obtain⟨s,hs,he⟩:=dh hx;simp_all[SO.foot,aP,fK,mA]
  ·rename_i a x hx;obtain⟨s,hs,he⟩:=dh hx;simp_all[SO.foot,aP,fK,mA]
  ·rfl
 ·rename_i h1 h2 h3;cases op with
  |call c=>rfl
  |_=>exact Kq (by grind)
theorem Qq{C:Cfg}{d:Nat}{rd:Option Nat}{nt:Nat}{all:List Oper}{pm:List Nat}{Q:QT}:∀(l:List Oper) (s:List SI) (k:Nat),Kp C nt all l=some s->∀t df g fs,wpF C d rd pm s (Q .norm) t df g fs ->
  ((iX C nt pm all k l).run (I C) d rd t df g fs).sat Q:=by
 intro l
 induction l with
 | nil =>
  intro s k h t df g fs hq;injection h with h;subst h;obtain⟨h1,h2⟩:=hq;unfold iX;dsimp only;rw[h1];exact h2
 | cons o rest ih =>
  intro s k h t df g fs hq;unfold Kp at h
  split at h
  ·rename_i gd r hd hg hr;injection h with h;subst h;obtain⟨ot,e1,e2⟩:=IZ hd;have step:∀{x:OR},x.sat (kF (wpF C d rd pm r (Q .norm)) o.dst t df g.lg fs ((nOp C o.op).foot C t g)) (aO g []) (λ_=>False) ->
     (lL ot.run ((iX C nt pm all (k+1) rest).run (I C) d rd) t df g fs ((aP C o.op).run t g) x).sat Q:=by
    intro x hx;rw[MK]at hx;cases x with
    |fail=>exact hx.elim
    | val v =>
     simp only[lL,e2];refine ih r _ hr _ _ _ _ ?_;have hx:wpF C d rd pm r (Q .norm) (FV o.dst t v) df (im (aO g []) ((aO g []).lg++g.lg)) (⟨(aP C o.op).run t g,(aO g []).lg⟩::fs):=hx;obtain⟨h,nx,lg⟩:=g;exact hx
    | upd v g' =>
     simp only[lL,e2];exact ih r _ hr _ _ _ _ hx
    |dfr a=>exact hx.elim
   unfold iX;rw[e1];cases hgd:o.guard with
   | none =>
    rw[hgd]at hg;injection hg with hg;subst hg;simp only[jR];rw[<-D7];exact step hq
   | some jw =>
    obtain⟨j,w⟩:=jw;rw[hgd]at hg;obtain⟨sl,h1,h2⟩:=Cn hg;subst h1;rw[h2];dsimp only;obtain⟨q,h3,h4,h5⟩:=Fp hq;have:(gp AV.undef sl).run t=tat t sl:=gp_run _ _ _;rw[this,h3];cases q with
    | true =>
     dsimp only;rw[<-D7];exact step (h4 rfl)
    | false =>
     dsimp only;rw[e2];exact ih r _ hr _ _ _ _ (h5 rfl)
  grind
theorem CR.sat_mono{r:CR}{Q Q':QT}(h:r.sat Q)(hq:∀e t df g,Q e t df g->Q' e t df g):r.sat Q':=by
 cases r with
 |fail=>exact h
 |ok e t df g=>exact hq _ _ _ _ h
theorem PF{C:Cfg}{nt d:Nat}{rd:Option Nat}:∀(c:Code) (Q:QT) (t:T) (df:List ADf) (g:G),wp C d rd (dz C nt c) Q t df g->((aX C nt c).run (I C) d rd t df g).sat Q:=by
 intro c
 induction c with
 | seq a b iha ihb =>
  intro Q t df g h;have h:=iha _ t df g h;show (B_ _ ((aX C nt a).run (I C) d rd t df g)).sat Q;cases hr:(aX C nt a).run (I C) d rd t df g with
  |fail=>rw[hr]at h;exact h
  | ok e t1 df1 g1 =>
   rw[hr]at h;cases e with
   |norm=>exact ihb _ _ _ _ h
   |exit j=>exact h
   |ret=>exact h
 | cond q a b iha ihb =>
  intro Q t df g h;unfold dz at h
  split at h
  ·rename_i o ho;obtain⟨s,hs,he⟩:=br ho;simp only[aX,hs,he];have h:wpC (o.get t) (wp C d rd (dz C nt a) Q) (wp C d rd (dz C nt b) Q) t df g:=h;unfold wpC at h;cases hv:Od.get t o with
   | bool v =>
    rw[hv]at h;cases v with
    |true=>exact iha _ _ _ _ (h.1 rfl)
    |false=>exact ihb _ _ _ _ (h.2 rfl)
   |_=>grind
  ·exact h
 | block id body ih =>
  intro Q t df g h;have h:=ih _ t df g h;show (u7 id ((aX C nt body).run (I C) d rd t df g)).sat Q;cases hr:(aX C nt body).run (I C) d rd t df g with
  |fail=>rw[hr]at h;exact h
  | ok e t1 df1 g1 =>
   rw[hr]at h;cases e with
   |norm=>exact h
   | exit j =>
    have h:aA (Nat.beq j id) (Q .norm t1 df1 g1) (Q (.exit j) t1 df1 g1):=h;show (aA (Nat.beq j id) _ _:CR).sat Q;cases hb:Nat.beq j id
    ·rw[hb]at h;exact h
    ·rw[hb]at h;exact h
   |ret=>exact h
 | loop body ih =>
  intro Q t df g h;obtain⟨Inv,⟨k,hk⟩,hs⟩:=h
  induction k using Nat.strongRecOn generalizing t df g with
  | _ k rec =>
   have h:=ih _ t df g (hs k t df g hk);show (B_ (λt df g=>(I C).code nt d rd (.loop body) t df g) ((aX C nt body).run (I C) d rd t df g)).sat Q;cases hr:(aX C nt body).run (I C) d rd t df g with
   |fail=>rw[hr]at h;exact h
   | ok e t1 df1 g1 =>
    rw[hr]at h;cases e with
    | norm =>
     obtain⟨k',hlt,hi⟩:=h;show ((I C).code nt d rd (.loop body) t1 df1 g1).sat Q
     grind[GO]
    |exit j=>exact h
    |ret=>exact h
 |scope body ih=>intro Q t df g h;exact ih _ _ _ _ h
 | region p ops draw =>
  intro Q t df g h;show ((fV C nt ops.toList draw).run (I C) d rd t df g).sat Q;unfold dz at h
  split at h
  ·rename_i l hl;rw[aa,aa,aa]at h;unfold fV;rw[aa,aa,aa]
   split
   ·rename_i hd;rw[TE hd]at h
    split
    ·rename_i ho;rw[TE ho]at h
     split
     ·rename_i hq;rw[TE hq]at h;have h:wpO C d rd l (kQ g Q) t df (aO g []):=h;have h:=NU (C:=C) (d:=d) (rd:=rd) (Q:=λe t df g'=>e=.norm/\g'.lg=[]/\g'.nx=g.nx/\Q .norm t df g) (nt:=nt) (all:=ops.toList) ops.toList l hl t df (aO g [])
       (by
        refine cast ?_ h;congr 1;funext t df g';simp[kQ])
      dsimp only;cases hr:(jS C nt ops.toList ops.toList).run (I C) d rd t df (aO g []) with
      |fail=>rw[hr]at h;exact h
      | ok e t1 df1 g1 =>
       rw[hr]at h;obtain⟨h0,h1,h2,h3⟩:=h;subst h0;simp only[nM,h1,h2,Uq];exact h3
     ·rename_i hq;rw[TF hq]at h;exact Qq _ l 0 hl _ _ _ _ h
    ·rename_i ho;rw[TF ho]at h;unfold wp at h;simp only[aX,fV,aa,TE hd,TF ho]at h;exact h
   ·rename_i hd;rw[TF hd]at h;exact NU _ l hl _ _ _ h
  ·exact h
 | rangeFunc f ps assign body _ _ =>
  intro Q t df g h;unfold dz at h
  split at h
  ·rename_i o ho;obtain⟨s,hs,he⟩:=br ho;have he:s.run=λt=>o.get t:=funext he;simp only[aX,hs,he];exact h assign body rfl rfl
  ·exact h
 |skip=>intro Q t df g h;exact h
 |label l=>intro Q t df g h;exact h
 |exit id=>intro Q t df g h;exact h
 |ret=>intro Q t df g h;exact h
 |goto l=>intro Q t df g h;exact h
 |refuse w=>intro Q t df g h;exact h
theorem OR.sat_mono{r:OR}{K K':AV->G->Prop}{g:G}{D D':ADf->Prop}(h:r.sat K g D)(hk:∀v g',K v g'->K' v g')(hd:∀a,D a->D' a):r.sat K' g D':=by
 cases r with
 |fail=>exact h
 |val v=>exact hk _ _ h
 |upd v g'=>exact hk _ _ h
 |dfr a=>exact hd _ h
inductive SR where
 |tm (n:Nat)
 |cell (ag:Bool) (n a:Nat)
structure SF where
 nt:Nat
 res:List SR
 code:SC
def FH(C:Cfg):List ResultVar->Option (List SR)
 |[]=>some []
 | .tmp n::rs=>match FH C rs with
  |some k=>some (.tm n::k)
  |none=>none
 | .cell a ty::rs=>match FH C rs,rT C.P ty,szT C.P ty with
  |some k,some ag,some n=>some (.cell ag n a::k)
  |_,_,_=>none
def nFn(C:Cfg)(f:Nat):Option SF :=
 match C.P.funcs[f]? with
 |none=>none
 | some fn=>match fn.body with
  |none=>none
  | some c=>match FH C fn.results.toList with
   | some r => aA (fn.name == "runtime.NumGoroutine") none (some ⟨fn.ntmps, r, dz C fn.ntmps c⟩)
   |none=>none
def xZ:List SR->T->G->(List AV->Prop)->Prop
 |[],_,_,K=>K []
 |.tm n::rs,t,g,K=>xZ rs t g λvs=>K (tat t n::vs)
 | .cell ag n a::rs,t,g,K=>match oy ag n (tat t a) g with
  |.val v=>xZ rs t g λvs=>K (v::vs)
  |_=>False
theorem OM{C:Cfg}{t:T}{g:G}:∀(l:List ResultVar) (r:List SR) (K:List AV->Prop),FH C l=some r->xZ r t g K->∃s vs,xA C l=some s/\s.run t g=some vs/\K vs:=by
 intro l
 induction l with
 |nil=>intro r K h hk;injection h with h;subst h;exact⟨_,[],rfl,rfl,hk⟩
 | cons x l ih =>
  intro r K h hk;cases x with
  | tmp n =>
   unfold FH at h
   split at h
   ·rename_i k hr;injection h with h;subst h;obtain⟨s,vs,h1,h2,h3⟩:=ih k _ hr hk;refine⟨⟨λt g=>match s.run t g with|some vs=>some ((gp AV.undef n).run t::vs)|none=>none⟩,tat t n::vs,by grind[xA],?_,h3⟩;simp only[h2,gp_run];rfl
   grind
  | cell a ty =>
   unfold FH at h
   split at h
   ·rename_i k ag n hr ha hn;injection h with h;subst h;unfold xZ at hk
    split at hk
    ·rename_i v hv;obtain⟨s,vs,h1,h2,h3⟩:=ih k _ hr hk;have hl:mz ag n (gp AV.undef a).run t g=.val v:=by rw[<-hv];simp only[oy,mz,gp_run];rfl
     refine⟨⟨λt g=>match mz ag n (gp AV.undef a).run t g with|.val v=>(match s.run t g with|some vs=>some (v::vs)|none=>none)|_=>none⟩,v::vs,
      by simp only[xA,h1,cx,aW,ha,hn];rfl,?_,h3⟩
     grind
    grind
   grind
def BJ(C:Cfg)(d:Nat)(r:List SR)(t:T)(df:List ADf)(g:G)(K:AV->G->Prop):Prop :=
 match fp (I C) d df g with
 |some g'=>xZ r t g' λvs=>K (jB vs) g'
 |none=>False
def fnQ(C:Cfg)(d:Nat)(r:List SR)(K:AV->G->Prop):QT:=λe t df g=>match e with|.exit _=>False|_=>BJ C d r t df g K
theorem nZ{C:Cfg}{f:Nat}{s:SF}(hf:nFn C f=some s){d:Nat}{as:List AV}{g:G}{K:AV->G->Prop}(hl:as.length<=s.nt)(h:wp C d none s.code (fnQ C d s.res K) (cy 0 as .nil) [] g) :
  ((I C).call d f as g).sat K:=by
 rw[PH];unfold nFn at hf
 split at hf
 ·cases hf
 rename_i fn hfn
 split at hf
 ·cases hf
 rename_i c hc
 split at hf
 rotate_left
 ·cases hf
 rename_i r hr;rw[aa]at hf
 split at hf
 ·cases hf
 rename_i hn;injection hf with hf;subst hf;have h:=PF c _ _ _ _ h;have hres:∃s,xA C fn.results.toList=some s:=by
  have:∀(l:List ResultVar) (r:List SR),FH C l=some r->∃s,xA C l=some s:=by
   intro l
   induction l with
   |nil=>intro r _;exact⟨_,rfl⟩
   | cons x l ih =>
    intro r h;cases x<;>grind[FH,xA,cx,aW]
  grind
 obtain⟨rs,hrs⟩:=hres;unfold eP cFn;simp only[hfn,hc,hrs,aa,TF hn];rw[TE (by grind[ax,T8])];cases hrun:(aX C fn.ntmps c).run (I C) d none (cy 0 as .nil) [] g with
 |fail=>rw[hrun]at h;exact h
 | ok e t df g' =>
  rw[hrun]at h;have key:BJ C d r t df g' K->(gW (I C) d rs.run t df g').sat K:=by
   intro h;unfold BJ at h;unfold gW
   split at h
   ·rename_i g2 hg2;rw[hg2];obtain⟨s2,vs,h1,h2,h3⟩:=OM _ _ _ hr h;rw[hrs]at h1;injection h1 with h1;subst h1;simp only[h2];exact h3
   grind
  cases e with
  |exit j=>exact h
  |norm=>exact key h
  |ret=>exact key h
end
end Hx
end
section
namespace Hx
open Go
def All2{α β:Type}(R:α->β->Prop):List α->List β->Prop
 |[],[]=>True
 |a::as,b::bs=>R a b/\All2 R as bs
 |_,_=>False
section all2
variable {α β:Type}{R S:α->β->Prop}
theorem All2.len:∀{l:List α} {m:List β},All2 R l m->l.length=m.length
 |[],[],_=>rfl
 |_::_,_::_,h=>by simp only[Ud,All2.len h.2]
theorem All2.mono(hs:∀a b,R a b->S a b):∀{l:List α} {m:List β},All2 R l m->All2 S l m
 |[],[],_=>trivial
 |_::_,_::_,h=>⟨hs _ _ h.1,All2.mono hs h.2⟩
theorem All2.get:∀{l:List α} {m:List β},All2 R l m->∀{i:Nat} {a:α},l[i]?=some a->∃b,m[i]?=some b/\R a b
 |_::_,b::_,h,0,_,e=>by simp at e;subst e;exact⟨b,rfl,h.1⟩
 |_::_,_::_,h,i+1,a,e=>by simpa using All2.get h.2 (i:=i) (by grind)
 |[],[],_,i,a,e=>by simp at e
theorem All2.append:∀{l:List α} {m:List β} {l':List α} {m':List β},All2 R l m->All2 R l' m'->All2 R (l++l') (m++m')
 |[],[],_,_,_,h'=>h'
 |_::_,_::_,_,_,h,h'=>⟨h.1,All2.append h.2 h'⟩
theorem All2.take:∀{l:List α} {m:List β},All2 R l m->∀(i:Nat),All2 R (l.take i) (m.take i)
 |[],[],_,_=>by grind
 |_::_,_::_,h,0=>by simp[All2]
 |_::_,_::_,h,i+1=>⟨h.1,All2.take h.2 i⟩
theorem Q6{a:α}{b:β}(h:R a b):∀n,All2 R (List.replicate n a) (List.replicate n b)
 |0=>trivial
 |n+1=>⟨h,Q6 h n⟩
theorem Q5{f:α->β}(h:∀a,R a (f a)):∀l:List α,All2 R l (l.map f)
 |[]=>trivial
 |a::l=>⟨h a,Q5 h l⟩
theorem All2.eq_map{f:α->β}(hf:∀a b,R a b->b=f a):∀{l:List α} {m:List β},All2 R l m->m=l.map f
 |[],[],_=>rfl
 |a::l,b::m,h=>by rw[UV,hf _ _ h.1,All2.eq_map hf h.2]
end all2
def NoP:Nat->Prop:=λ_=>False
class Rp (α:Type) where
 sz:Nat
 dp:Nat
 rp:(Nat->Prop)->Nat->H->α->List AV->Prop
 len:∀{P k h x cs},rp P k h x cs->cs.length=sz
 mono:∀{P P':Nat->Prop} {k k':Nat} {h h':H} {x:α} {cs:List AV},rp P k h x cs->(∀i,P i->P' i/\h'.get i=h.get i)->k<=k'->rp P' k' h' x cs
 snap:∀{P k h x cs n} (d:Nat),rp P k h x cs->dp<=n->dp<=aD->∃cs',aK (Hx.snap h d n) cs=some cs'/\rp NoP (max k d) .nil x cs'
 same:∀{k h x cs n} (d:Nat),rp NoP k h x cs->dp<=n->aK (Hx.snap h d n) cs=some cs
 ids:∀{P k h x cs n},rp P k h x cs->∀i∈cs.flatMap (aC h n),P i
 tag:∀{k h x cs n},rp NoP k h x cs->dp<=n->∃m,gQ (eS n) cs=some m/\m<=k
theorem Rp.tree{α:Type} [Rp α]{P:Nat->Prop}{k k':Nat}{h h':H}{x:α}{cs:List AV}(r:Rp.rp NoP k h x cs)(hk:k<=k'):Rp.rp P k' h' x cs :=
 Rp.mono r (λ_ h=>h.elim) hk
def AV.flat:AV->Bool
 |.bool _|.int _ _|.str _=>true
 |_=>false
theorem C8{h:H}{d n:Nat}{v:AV}(hv:v.flat=true)(hn:1<=n):Hx.snap h d n v=some v:=by obtain⟨n,rfl⟩:∃m,n=m+1:=⟨n - 1,by omega⟩;cases v<;>first|rfl|cases hv
theorem NK{n:Nat}{v:AV}(hv:v.flat=true)(hn:1<=n):eS n v=some 0:=by obtain⟨n,rfl⟩:∃m,n=m+1:=⟨n - 1,by omega⟩;cases v<;>first|rfl|cases hv
theorem Mj{h:H}{n:Nat}{v:AV}(hv:v.flat=true):aC h n v=[]:=by
 cases n with
 |zero=>rfl
 |succ n=>cases v<;>first|rfl|cases hv
@[reducible] def Rp.plain {α:Type} (f:α->AV) (ok:α->Prop) (hf:∀x,(f x).flat=true):Rp α where
 sz:=1
 dp:=1
 rp:=λ_ _ _ x cs=>cs=[f x]/\ok x
 len:=by grind
 mono:=λr _ _=>r
 snap:=by simp_all[aK,C8]
 same:=by simp_all[aK,C8]
 ids:=by simp_all[Mj]
 tag:=by simp_all[gQ,NK]
def ci(x:Int):List AV:=[.int .i64 x]
def cu(x:Nat):List AV:=[.int .u64 (x:Int)]
instance : Rp Int:=Rp.plain (λx=>.int .i64 x) (λ_=>True) (λ_=>rfl)
instance : Rp Bool:=Rp.plain (λx=>.bool x) (λ_=>True) (λ_=>rfl)
instance : Rp Nat:=Rp.plain (λx=>.int .u64 (x:Int)) (λx=>x<18446744073709551616) (λ_=>rfl)
instance : Rp UInt8:=Rp.plain (λx=>.int .u8 (x.toNat:Int)) (λ_=>True) (λ_=>rfl)
instance : Rp UInt16:=Rp.plain (λx=>.int .u16 (x.toNat:Int)) (λ_=>True) (λ_=>rfl)
theorem tC{α β:Type}{f:α->Option β}:∀{l m:List α} {a b:List β},aK f l=some a->aK f m=some b->aK f (l++m)=some (a++b)
 |[],m,a,b,h1,h2=>by injection h1 with h1;grind
 | x::l,m,a,b,h1,h2=>by
  unfold aK at h1
  split at h1
  ·rename_i y hy
   split at h1
   ·rename_i ys hys;injection h1 with h1;subst h1;simp only[TJ,aK,hy,tC hys h2]
   ·cases h1
  ·cases h1
theorem yG{α:Type}{f:α->Option Nat}:∀{l m:List α} {a b:Nat},gQ f l=some a->gQ f m=some b->gQ f (l++m)=some (max a b)
 |[],m,a,b,h1,h2=>by injection h1 with h1;grind
 | x::l,m,a,b,h1,h2=>by
  unfold gQ at h1
  split at h1
  ·rename_i y hy
   split at h1
   ·rename_i ys hys;injection h1 with h1;subst h1;simp only[TJ,gQ,hy,yG hys h2,UQ,Nat.max_def]
    repeat' split
    all_goals omega
   ·cases h1
  ·cases h1
instance {α β:Type} [Rp α] [Rp β]:Rp (α×β) where
 sz:=Rp.sz α+Rp.sz β
 dp:=max (Rp.dp α) (Rp.dp β)
 rp:=λP k h x cs=>∃a b,cs=a++b/\Rp.rp P k h x.1 a/\Rp.rp P k h x.2 b
 len:=by rintro P k h x cs ⟨a,b,rfl,h1,h2⟩;rw[TP,Rp.len h1,Rp.len h2]
 mono:=by rintro P P' k k' h h' x cs ⟨a,b,rfl,h1,h2⟩ hp hk;exact⟨a,b,rfl,Rp.mono h1 hp hk,Rp.mono h2 hp hk⟩
 snap:=by rintro P k h x cs n d ⟨a,b,rfl,h1,h2⟩ hn hA;obtain⟨a',e1,r1⟩:=Rp.snap (n:=n) d h1 (by omega) (by omega);obtain⟨b',e2,r2⟩:=Rp.snap (n:=n) d h2 (by omega) (by omega);exact⟨a'++b',tC e1 e2,a',b',rfl,r1,r2⟩
 same:=by rintro k h x cs n d ⟨a,b,rfl,h1,h2⟩ hn;exact tC (Rp.same d h1 (by omega)) (Rp.same d h2 (by omega))
 ids:=by
  rintro P k h x cs n ⟨a,b,rfl,h1,h2⟩ i hi;rw[List.flatMap_append,Uf]at hi;rcases hi with hi|hi
  ·exact Rp.ids h1 i hi
  ·exact Rp.ids h2 i hi
 tag:=by rintro k h x cs n ⟨a,b,rfl,h1,h2⟩ hn;obtain⟨m1,e1,l1⟩:=Rp.tag (n:=n) h1 (by omega);obtain⟨m2,e2,l2⟩:=Rp.tag (n:=n) h2 (by omega);exact⟨max m1 m2,yG e1 e2,by omega⟩
@[reducible] def Rp.via {α β:Type} [Rp β] (f:α->β):Rp α where
 sz:=Rp.sz β
 dp:=Rp.dp β
 rp:=λP k h x cs=>Rp.rp P k h (f x) cs
 len:=Rp.len
 mono:=Rp.mono
 snap:=Rp.snap
 same:=Rp.same
 ids:=Rp.ids
 tag:=Rp.tag
def SlV{α:Type} [Rp α](P:Nat->Prop)(k:Nat)(h:H)(l:List α)(v:AV):Prop :=
 match v with
 |.nils|.esl=>l=[]
 |.tsl t s rows=>t<=k/\(s=Rp.sz α\/rows=[])/\All2 (Rp.rp NoP k .nil) l rows
 |.hsl id _ _ _ _=>P id/\∃rows,ac h (Rp.sz α) v=some rows/\All2 (Rp.rp P k h) l rows
 |_=>False
def SlR{α:Type} [Rp α](P:Nat->Prop)(k:Nat)(h:H)(l:List α)(v:AV):Prop:=l.length<9223372036854775808/\SlV P k h l v
theorem SlR.rows{α:Type} [Rp α]{P:Nat->Prop}{k:Nat}{h:H}{l:List α}{v:AV}(r:SlR P k h l v):∃rows,ac h (Rp.sz α) v=some rows/\All2 (Rp.rp P k h) l rows:=by
 have r:=r.2;unfold SlV at r
 split at r
 ·subst r;exact⟨[],rfl,trivial⟩
 ·subst r;exact⟨[],rfl,trivial⟩
 ·obtain⟨h1,h2,h3⟩:=r;refine⟨_,?_,h3.mono λa b r=>Rp.tree r (Tp _)⟩;simp only[ac];rw[aa];rcases h2 with h2|h2
  ·subst h2;simp
  ·subst h2;simp
 ·exact r.2
 ·exact r.elim
theorem CS{α β γ:Type}{R:α->β->Prop}{S:α->γ->Prop}{f:β->Option γ}(hf:∀a b,R a b->∃c,f b=some c/\S a c):∀{l:List α} {m:List β},All2 R l m->∃r,aK f m=some r/\All2 S l r
 |[],[],_=>⟨[],rfl,trivial⟩
 | a::l,b::m,h=>by obtain⟨c,e1,s1⟩:=hf a b h.1;obtain⟨r,e2,s2⟩:=CS hf h.2;exact⟨c::r,by grind[aK],s1,s2⟩
theorem CT{α β:Type}{R:α->β->Prop}{f:β->Option Nat}{k:Nat}(hf:∀a b,R a b->∃m,f b=some m/\m<=k):∀{l:List α} {m:List β},All2 R l m->∃r,gQ f m=some r/\r<=k
 |[],[],_=>⟨0,rfl,Ue _⟩
 | a::l,b::m,h=>by
  obtain⟨c,e1,s1⟩:=hf a b h.1;obtain⟨r,e2,s2⟩:=CT hf h.2
  grind[gQ]
theorem FF{α β:Type}{R:α->β->Prop}:∀{l:List α} {m:List β},All2 R l m->∀b∈m,∃a,R a b
 |[],[],_,b,hb=>by grind
 | a::l,c::m,h,b,hb=>by
  rcases T3.1 hb with rfl|hb
  ·exact⟨a,h.1⟩
  ·exact FF h.2 b hb
theorem yK{h h':H}{sz:Nat}{v:AV}(he:∀id ep off len lim,v=.hsl id ep off len lim->h'.get id=h.get id):ac h' sz v=ac h sz v:=by
 cases v with
 |hsl id ep off len lim=>simp_all[ac]
 |_=>rfl
instance {α:Type} [Rp α]:Rp (List α) where
 sz:=1
 dp:=Rp.dp α+1
 rp:=λP k h l cs=>∃v,cs=[v]/\SlR P k h l v
 len:=by rintro P k h x cs ⟨v,rfl,h1⟩;rfl
 mono:=by
  rintro P P' k k' h h' x cs ⟨v,rfl,h0,h1⟩ hp hk;refine⟨v,rfl,h0,?_⟩;unfold SlV at h1 ⊢
  split at h1
  ·exact h1
  ·exact h1
  ·exact⟨by omega,h1.2.1,h1.2.2.mono λa b r=>Rp.mono r (λi hi=>hi.elim) hk⟩
  ·rename_i id ep off len lim;obtain⟨a,rows,b,c⟩:=h1;refine⟨(hp _ a).1,rows,?_,c.mono λa b r=>Rp.mono r hp hk⟩;rw[<-b];exact yK λ_ _ _ _ _ e=>by injection e with e;subst e;exact (hp _ a).2
  ·exact h1
 snap:=by
  rintro P k h x cs n d ⟨v,rfl,h0,h1⟩ hn hA;obtain⟨n,rfl⟩:∃m,n=m+1:=⟨n - 1,by omega⟩;have hdA:(23:Nat)+1=aD:=rfl;cases v with
  |nils=>exact⟨_,rfl,_,rfl,h0,h1⟩
  |esl=>exact⟨_,rfl,_,rfl,h0,h1⟩
  | tsl t s rows =>
   refine⟨_,rfl,_,rfl,h0,?_⟩;obtain⟨q1,q2,q3⟩:=h1;exact⟨by omega,q2,q3.mono λa b r=>Rp.mono r (λi hi=>hi.elim) (by omega)⟩
  | hsl id ep off len lim =>
   obtain⟨q1,rows,q2,q3⟩:=h1;simp only[ac]at q2
   split at q2
   ·rename_i sz' rows' ep' lo fz hg;rw[aa]at q2
    split at q2
    ·rename_i hc;simp only[Ts]at hc;obtain⟨⟨hc1,hc2⟩,hc3⟩:=hc;injection q2 with q2;have e1:=UX hc2;subst e1;obtain⟨rs,e2,a2⟩:=CS (S:=Rp.rp NoP (max k d) .nil) (f:=aK (Hx.snap h d n)) (λa b r=>Rp.snap (n:=n) d r (by omega) (by omega)) q3;obtain⟨m,e3,l3⟩:=CT (f:=gQ (eS aD)) (k:=max k d) (λa b r=>Rp.tag (n:=aD) r (by omega)) a2;refine⟨[.tsl (Nat.max d m) (Rp.sz α) rs],?_,_,rfl,h0,?_⟩
     ·simp only[aK,Hx.snap,hg,hc1,hc3,Vx,q2,e2,fq,e3]
     ·refine⟨?_,.inl rfl,a2⟩;show max d m<=max k d;omega
    ·cases q2
   ·cases q2
  |_=>exact h1.elim
 same:=by
  rintro k h x cs n d ⟨v,rfl,-,h1⟩ hn;obtain⟨n,rfl⟩:∃m,n=m+1:=⟨n - 1,by omega⟩;cases v with
  |nils=>rfl
  |esl=>rfl
  |tsl t s rows=>rfl
  |hsl id ep off len lim=>exact h1.1.elim
  |_=>exact h1.elim
 ids:=by
  rintro P k h x cs n ⟨v,rfl,-,h1⟩ i hi;cases n with
  |zero=>simp[aC]at hi
  | succ n =>
   simp only[U5,Vb,TZ]at hi;cases v with
   | hsl id ep off len lim =>
    obtain⟨q1,rows,q2,q3⟩:=h1;unfold aC at hi;rcases T3.1 hi with rfl|hi
    ·exact q1
    ·simp only[ac]at q2
     split at q2
     ·rename_i sz' rows' ep' lo fz hg;rw[aa]at q2
      split at q2
      ·injection q2 with q2;rw[hg]at hi;simp only[q2,VU]at hi;obtain⟨row,hr,c,hc,hi⟩:=hi;obtain⟨a,r⟩:=FF q3 row hr;exact Rp.ids (n:=n) r i (VU.2 ⟨c,hc,hi⟩)
      ·cases q2
     ·cases q2
   |nils=>simp[aC]at hi
   |esl=>simp[aC]at hi
   |tsl t s rows=>simp[aC]at hi
   |_=>exact h1.elim
 tag:=by
  rintro k h x cs n ⟨v,rfl,-,h1⟩ hn;obtain⟨n,rfl⟩:∃m,n=m+1:=⟨n - 1,by omega⟩;cases v with
  |nils=>exact⟨0,rfl,Ue _⟩
  |esl=>exact⟨0,rfl,Ue _⟩
  |tsl t s rows=>exact⟨t,by simp[gQ,eS],h1.1⟩
  |hsl id ep off len lim=>exact h1.1.elim
  |_=>exact h1.elim
theorem f6{α:Type} [Rp α]{P:Nat->Prop}{k:Nat}{h:H}{l:List α}{cs:List AV}:Rp.rp P k h l cs↔∃v,cs=[v]/\SlR P k h l v:=Iff.rfl
theorem aB{P:Nat->Prop}{k:Nat}{h:H}{x:Int}{cs:List AV}:Rp.rp P k h x cs↔cs=[.int .i64 x]:=by simp[Rp.rp]
theorem HN{P:Nat->Prop}{k:Nat}{h:H}{x:Nat}{cs:List AV}:Rp.rp P k h x cs↔cs=[.int .u64 (x:Int)]/\x<18446744073709551616:=by simp[Rp.rp]
theorem kT{P:Nat->Prop}{k:Nat}{h:H}{x:Bool}{cs:List AV}:Rp.rp P k h x cs↔cs=[.bool x]:=by simp[Rp.rp]
theorem fP{P:Nat->Prop}{k:Nat}{h:H}{x:UInt8}{cs:List AV}:Rp.rp P k h x cs↔cs=[.int .u8 (x.toNat:Int)]:=by simp[Rp.rp]
theorem Jd{α β:Type} [Rp α] [Rp β]{P:Nat->Prop}{k:Nat}{h:H}{x:α×β}{cs:List AV}:Rp.rp P k h x cs↔∃a b,cs=a++b/\Rp.rp P k h x.1 a/\Rp.rp P k h x.2 b:=Iff.rfl
theorem SlR.ints{P:Nat->Prop}{k:Nat}{h:H}{l:List Int}{v:AV}(r:SlR P k h l v):ac h 1 v=some (l.map ci):=by obtain⟨rows,h1,h2⟩:=r.rows;rw[show (1:Nat)=Rp.sz Int from rfl,h1,h2.eq_map (f:=ci) λa b r=>aB.1 r]
theorem SlR.nats{P:Nat->Prop}{k:Nat}{h:H}{l:List Nat}{v:AV}(r:SlR P k h l v):ac h 1 v=some (l.map cu):=by obtain⟨rows,h1,h2⟩:=r.rows;rw[show (1:Nat)=Rp.sz Nat from rfl,h1,h2.eq_map (f:=cu) λa b r=>(HN.1 r).1]
end Hx
end
section
namespace Hx
open Go
noncomputable section
theorem tT(t:T)(n m:Nat)(v:AV):tat (fQ t n v) m=if m=n then v else tat t m:=sp_get _ _ _ _ _
theorem FO(a:AV)(t:T):cy 0 [a] t=fQ t 0 a:=rfl
theorem FP(a b:AV)(t:T):cy 0 [a,b] t=fQ (fQ t 0 a) 1 b:=rfl
theorem FQ(a b c:AV)(t:T):cy 0 [a,b,c] t=fQ (fQ (fQ t 0 a) 1 b) 2 c:=rfl
theorem FS(a b c e:AV)(t:T):cy 0 [a,b,c,e] t=fQ (fQ (fQ (fQ t 0 a) 1 b) 2 c) 3 e:=rfl
theorem AW(i:Nat)(t:T):cy i [] t=t:=rfl
theorem Jt(m:Nat):tat Tr.nil m=AV.undef:=Rd _ _
theorem CG(t:T)(n:Nat):Od.get t (.t n)=tat t n:=rfl
theorem IB(t:T)(v:AV):Od.get t (.k v)=v:=rfl
theorem wS(t:T):fK t []=[]:=rfl
theorem tZ(t:T)(o:Od)(os:List Od):fK t (o::os)=o.get t::fK t os:=rfl
theorem aU(h:H)(i:Nat)(o:AObj):(h.put i o).get i=o:=by simp_all[Q_]
theorem ah(h:H)(i:Nat)(o:AObj){k:Nat}(hk:k≠i):(h.put i o).get k=h.get k:=by simp_all[Q_]
theorem Is(k:Nat):G.empty.h.get k=AObj.none:=by simp[G.empty,H.get,Rd]
theorem E3:G.empty.nx=0:=rfl
theorem Ji(v:AV)(K:AV->G->Prop)(g:G)(D:ADf->Prop):(OR.val v).sat K g D=K v g:=rfl
theorem Jh(v:AV)(g':G)(K:AV->G->Prop)(g:G)(D:ADf->Prop):(OR.upd v g').sat K g D=K v g':=rfl
theorem FU(v:AV):orV (some v)=.val v:=rfl
theorem au{x:Int}(h:-9223372036854775808<=x)(h':x<9223372036854775808):IntKind.wrap .i64 x=x:=by
 by_cases h0:x<0
 ·grind[xq]
 ·obtain⟨n,rfl⟩:=Ty (show 0<=x by omega)
  grind[nU]
theorem xu{x:Int}(h:0<=x)(h':x<18446744073709551616):IntKind.wrap .u64 x=x:=by simp_all[IntKind.wrap,IntKind.bits,IntKind.signed,Int.emod_eq_of_lt]
theorem NX{x:Int}(h:0<=x)(h':x<256):IntKind.wrap .u8 x=x:=by simp_all[IntKind.wrap,IntKind.bits,IntKind.signed,Int.emod_eq_of_lt]
theorem bW(k:IntKind):cZ k k=true:=by cases k<;>rfl
theorem Ie(k:IntKind)(a b:Int):dO .add (.int k a) (.int k b)=.val (.int k (k.wrap (a+b))):=by simp only[dO,fL,bW,gU];rfl
theorem In(k:IntKind)(a b:Int):dO .sub (.int k a) (.int k b)=.val (.int k (k.wrap (a - b))):=by simp only[dO,fL,bW,gU];rfl
theorem Il(k:IntKind)(a b:Int):dO .mul (.int k a) (.int k b)=.val (.int k (k.wrap (a*b))):=by simp only[dO,fL,bW,gU];rfl
theorem Ig(k:IntKind)(a b:Int):dO .eql (.int k a) (.int k b)=.val (.bool (decide (a=b))):=by simp only[dO,fL,bW,qF];rfl
theorem Im(k:IntKind)(a b:Int):dO .neq (.int k a) (.int k b)=.val (.bool (!decide (a=b))):=by simp only[dO,fL,bW,qF,notb_eq];rfl
theorem Ik(k:IntKind)(a b:Int):dO .lss (.int k a) (.int k b)=.val (.bool (decide (a<b))):=by simp only[dO,fL,bW,mG];rfl
theorem Ii(k:IntKind)(a b:Int):dO .gtr (.int k a) (.int k b)=.val (.bool (decide (b<a))):=by simp only[dO,fL,bW,mG];rfl
theorem Ij(k:IntKind)(a b:Int):dO .leq (.int k a) (.int k b)=.val (.bool (decide (a<=b))):=by
 simp only[dO,fL,bW,mG,notb_eq]
 by_cases h:b<a
 ·rw[VV h,UU (show ¬a<=b by omega)];rfl
 ·rw[UU h,VV (show a<=b by omega)];rfl
theorem Ih(k:IntKind)(a b:Int):dO .geq (.int k a) (.int k b)=.val (.bool (decide (b<=a))):=by
 simp only[dO,fL,bW,mG,notb_eq]
 by_cases h:a<b
 ·rw[VV h,UU (show ¬b<=a by omega)];rfl
 ·rw[UU h,VV (show b<=a by omega)];rfl
theorem wj(k:IntKind){a b:Int}(ha:0<=a)(hb:0<b):dO .quo (.int k a) (.int k b)=.val (.int k (k.wrap (a / b))):=by
 obtain⟨m,rfl⟩:=Ty ha;obtain⟨n,rfl⟩:=Ty (show 0<=b by omega);obtain⟨n,rfl⟩:∃j,n=j+1:=⟨n - 1,by omega⟩;simp only[dO,fL,bW]
 grind[orV,Qa,gU]
theorem dc(k:IntKind){a b:Int}(ha:0<=a)(hb:0<b):dO .rem (.int k a) (.int k b)=.val (.int k (a % b)):=by
 obtain⟨m,rfl⟩:=Ty ha;obtain⟨n,rfl⟩:=Ty (show 0<=b by omega);obtain⟨n,rfl⟩:∃j,n=j+1:=⟨n - 1,by omega⟩;simp only[dO,fL,bW]
 grind[orV,Qc]
theorem N5(k':IntKind)(m n:Nat):dO .shl (.int .u64 (m:Int)) (.int k' (n:Int))=.val (.int .u64 ((m*2 ^ n % 18446744073709551616:Nat):Int)):=by
 show orV (Nu .u64 (.ofNat m) (.ofNat n))=_;simp only[Nu,IntKind.bits];show OR.val (.int .u64 (tW .u64 (.ofNat (m*2 ^ (Nat.min n 64)))))=_;simp only[tW];congr 2;show ((m*2 ^ (min n 64) % 18446744073709551616:Nat):Int)=_
 by_cases h:n<=64
 ·grind
 ·rw[Nat.min_eq_right (by omega)];obtain⟨j,rfl⟩:∃j,n=64+j:=⟨n - 64,by omega⟩;rw[Nat.pow_add,show (18446744073709551616:Nat)=2 ^ 64 from rfl,Nat.mul_mod_left,<-Wd,VO (m*2 ^ 64),<-Wd,Nat.mul_mod_left]
theorem Dt(k':IntKind)(m n:Nat)(h:m<18446744073709551616):dO .shr (.int .u64 (m:Int)) (.int k' (n:Int))=.val (.int .u64 ((m / 2 ^ n:Nat):Int)):=by
 show orV (Nv .u64 (.ofNat m) (.ofNat n))=_;simp only[Nv,IntKind.bits];show OR.val (.int .u64 (.ofNat (m / 2 ^ (Nat.min n 64))))=_;congr 2;show ((m / 2 ^ (min n 64):Nat):Int)=_
 by_cases h2:n<=64
 ·grind
 ·rw[Nat.min_eq_right (by omega)];obtain⟨j,rfl⟩:∃j,n=64+j:=⟨n - 64,by omega⟩;rw[Nat.pow_add,<-Nat.div_div_eq_div_mul,show (2 ^ 64:Nat)=18446744073709551616 from rfl,Vm h,Nat.zero_div]
theorem x_{m n:Nat}(h:m<18446744073709551616)(h':n<18446744073709551616):mK .u64 m n=true:=by simp_all[mK]
theorem zL(m n:Nat)(h:m<18446744073709551616)(h':n<18446744073709551616):dO .or (.int .u64 (m:Int)) (.int .u64 (n:Int))=.val (.int .u64 ((m ||| n:Nat):Int)):=by show orV (aA (mK .u64 m n) _ _)=_;rw[x_ h h'];rfl
theorem If(m n:Nat)(h:m<18446744073709551616)(h':n<18446744073709551616):dO .and (.int .u64 (m:Int)) (.int .u64 (n:Int))=.val (.int .u64 ((m &&& n:Nat):Int)):=by show orV (aA (mK .u64 m n) _ _)=_;rw[x_ h h'];rfl
theorem zK(m n:Nat)(h:m<18446744073709551616)(h':n<18446744073709551616):dO .andNot (.int .u64 (m:Int)) (.int .u64 (n:Int))=.val (.int .u64 ((m ^^^ (m &&& n):Nat):Int)):=by show orV (aA (mK .u64 m n) _ _)=_;rw[x_ h h'];rfl
theorem IY{m n:Nat}(h:m<18446744073709551616)(h':n<18446744073709551616):m ||| n<18446744073709551616:=Nat.or_lt_two_pow (n:=64) h h'
theorem FM(b:Bool):OD (.bool b)=.val (.bool (!b)):=by grind[OD,notb_eq]
theorem EU(k k':IntKind)(a:Int):Iq k (.int k' a)=.val (.int k (k.wrap a)):=by grind[Iq,gU]
theorem M5(a b:AV):I6 (.bool true) a b=.val a:=rfl
theorem M4(a b:AV):I6 (.bool false) a b=.val b:=rfl
theorem MJ(k:IntKind)(a b:Int):mxV (.int k a) (.int k b)=.val (.int k (max a b)):=by
 simp only[mxV,bW,mG]
 by_cases h:a<b
 ·rw[VV h,Int.max_eq_right (by omega)]
 simp_all[UU,Int.max_eq_left]
theorem MG(k:IntKind)(a b:Int):mnV (.int k a) (.int k b)=.val (.int k (min a b)):=by
 simp only[mnV,bW,mG]
 by_cases h:b<a
 ·rw[VV h,Int.min_eq_right (by omega)]
 simp_all[UU,Int.min_eq_left]
def nX(sz:Nat)(v:AV)(i off:Nat):AV :=
 match v with
 |.tsl l _ rows=>.tptr l sz rows i off
 |.hsl id ep o _ _=>.hptr id ep (o+i) off
 |_=>.undef
theorem FB{g:G}{sz:Nat}{v:AV}{rows:List (List AV)}(h:ac g.h sz v=some rows):dm .slice v g=.val (.int .i64 (rows.length:Int)):=by
 unfold ac at h
 split at h
 ·injection h with h;subst h;rfl
 ·injection h with h;subst h;rfl
 ·rw[aa]at h
  split at h
  ·injection h with h;subst h;simp only[dm,ax];rfl
  ·cases h
 ·split at h
  ·rw[aa]at h
   split at h
   ·rename_i hc;injection h with h;subst h;simp only[Ts,T8,ax]at hc;simp only[dm,a_,bj,Un,VT];congr 3;rw[V8 (by omega)]
   ·cases h
  ·cases h
 ·cases h
theorem bQ{h:H}{sz:Nat}{v:AV}{rows:List (List AV)}(hv:ac h sz v=some rows)(g:G):dm .slice v g=.val (.int .i64 (rows.length:Int)) :=
 (show dm .slice v g=dm .slice v ⟨h,0,[]⟩ from by cases v<;>rfl).trans (FB (g:=⟨h,0,[]⟩) hv)
theorem Mp{g:G}{sz:Nat}{v:AV}{rows:List (List AV)}{k:IntKind}{i:Int}(h:ac g.h sz v=some rows)(h0:0<=i)(hi:i<rows.length) :
  B4 sz v (.int k i) g=.val (nX sz v i.toNat 0):=by
 obtain⟨n,rfl⟩:=Ty h0;have hi:n<rows.length:=by omega
 show B4 sz v (.int k (.ofNat n)) g=.val (nX sz v n 0);unfold ac at h
 split at h
 ·grind
 ·grind
 ·rw[aa]at h
  split at h
  ·rename_i hc;injection h with h;subst h;rename_i sz' rows _;have:Nat.beq sz sz'=true:=by
    grind
   simp_all[B4,gN,ax,aa,nX]
  grind
 ·split at h
  ·rename_i sz' rows' ep' lo fz hg;rw[aa]at h
   split at h
   ·rename_i hc;injection h with h;subst h;simp only[Ts]at hc;simp only[a_,bj,Un,VT]at hi;simp only[B4,gN,G.get_eq,hg,hc.1.1,hc.1.2,Up,aa,UF];rw[TE (by omega)];rfl
   grind
  grind
 grind
theorem Kj{g:G}{sz:Nat}{v:AV}{rows:List (List AV)}{row:List AV}{i off n:Nat}{ag:Bool}(h:ac g.h sz v=some rows)(hr:rows[i]?=some row) :
  oy ag n (nX sz v i off) g=orV (ch ag n row off):=by
 unfold ac at h
 split at h
 ·grind
 ·grind
 ·grind[aa,oy,mz,nX,dB]
 ·split at h
  ·rename_i sz' rows' ep' lo fz hg;rw[aa]at h
   split at h
   ·rename_i hc;injection h with h;subst h;simp_all[a_,bj,List.getElem?_take,oy,mz,nX,dB]
   grind
  grind
 grind
theorem Fe(fo id ep i off:Nat):J6 fo (.hptr id ep i off)=.val (.hptr id ep i (off+fo)):=rfl
theorem A0{n:Nat}{row:List AV}{off:Nat}:ch false n row off=row[off]?:=by grind[ch,dB]
theorem M1{n:Nat}{row:List AV}{off:Nat}(h:off+n<=row.length):ch true n row off=some (.agg ((row.drop off).take n)):=by
 simp only[ch,a_,bj,ax,Un,VT,aa];rw[TE]
 grind[Uq]
theorem Bj{g:G}{id ep sz i off n:Nat}{rows:List (List AV)}{lo:Bool}{row cs row':List AV}{x:AV}(hg:g.h.get id=.cells sz rows ep lo false)(hr:rows[i]?=some row)
  (hc:x.cells=cs) (ht:x.isTup=false) (hl:cs.length=n) (hp:cL row off cs=some row') :
  qQ n (.hptr id ep i off) x g=.upd .undef (g.put id (.cells sz (rows.set i row') ep lo false)):=by
 simp_all[qQ,pw,dB,ax,f8]
def zp(o:AObj)(ep off len sz:Nat):Option (List (List AV)) :=
 match o with
 |.cells sz' rows ep' _ _=>aA (Nat.beq ep ep'&&Nat.beq sz sz'&&Nat.ble (off+len) (bL rows)) (some (jO len (i_ off rows))) none
 |_=>none
theorem yL(h:H)(sz:Nat):ac h sz .nils=some []:=rfl
theorem qN(h:H)(sz t:Nat)(rows:List (List AV)):ac h sz (.tsl t sz rows)=some rows:=by simp_all[ac]
theorem kG(h:H)(sz id ep off len:Nat)(lim:Option Nat):ac h sz (.hsl id ep off len lim)=zp (h.get id) ep off len sz:=rfl
theorem eT(sz:Nat)(rows:List (List AV))(ep:Nat)(lo fz:Bool)(off len:Nat) :
  zp (.cells sz rows ep lo fz) ep off len sz=if off+len<=rows.length then some ((rows.drop off).take len) else none:=by
 simp_all[zp,aa,ax,a_,bj]
theorem Ft(sz:Nat)(rows:List (List AV))(ep:Nat)(lo fz:Bool):zp (.cells sz rows ep lo fz) ep 0 rows.length sz=some rows:=by simp_all[eT]
def lD(o:AObj)(ep i:Nat)(ag:Bool)(n off:Nat):OR :=
 match o with
 |.cells _ rows ep' _ _=>aA (Nat.beq ep ep') (match rows[i]? with|some row=>orV (ch ag n row off)|none=>.fail) .fail
 |_=>.fail
theorem AL(g:G)(id ep i off n:Nat)(ag:Bool):oy ag n (.hptr id ep i off) g=lD (g.h.get id) ep i ag n off:=by
 grind[oy,mz,G.get_eq,lD,dB]
theorem tz(sz:Nat)(rows:List (List AV))(ep:Nat)(lo fz:Bool)(i n off:Nat)(ag:Bool) :
  lD (.cells sz rows ep lo fz) ep i ag n off=match rows[i]? with|some row=>orV (ch ag n row off)|none=>.fail:=by
 simp_all[lD]
def p_(o:AObj)(g:G)(id ep i n off:Nat)(x:AV):OR :=
 match o with
 | .cells sz rows ep' lo fz=>aA (Nat.beq ep ep'&&Nat.beq x.cells.length n&&jF fz&&jF x.isTup) (match rows[i]? with
   | some row=>match cL row off x.cells with
    |some row'=>.upd .undef (g.put id (.cells sz (rows.set i row') ep lo fz))
    |none=>.fail
   |none=>.fail) .fail
 |_=>.fail
theorem yU(g:G)(id ep i off n:Nat)(x:AV):qQ n (.hptr id ep i off) x g=p_ (g.h.get id) g id ep i n off x:=by
 simp only[qQ,pw,G.get_eq,p_,dB,ax,f8]
 rfl
theorem l5(sz:Nat)(rows:List (List AV))(ep:Nat)(lo:Bool)(g:G)(id i n off:Nat)(x:AV)(hl:x.cells.length=n)(ht:x.isTup=false) :
  p_ (.cells sz rows ep lo false) g id ep i n off x=match rows[i]? with
   | some row=>match cL row off x.cells with
    |some row'=>.upd .undef (g.put id (.cells sz (rows.set i row') ep lo false))
    |none=>.fail
   |none=>.fail:=by
 simp_all[p_]
theorem CQ{g:G}{sz:Nat}{v:AV}{i off n:Nat}{ag:Bool}(h:(ac g.h sz v).isSome=true)(hi:i<((ac g.h sz v).getD []).length) :
  oy ag n (nX sz v i off) g=orV (ch ag n (((ac g.h sz v).getD [])[i]?.getD []) off):=by
 obtain⟨rows,hr⟩:=Option.isSome_iff_exists.1 h
 grind[Kj]
theorem Mq{g:G}{sz:Nat}{v:AV}{k:IntKind}{i:Int}(h:(ac g.h sz v).isSome=true)(h0:0<=i)(hi:i<((ac g.h sz v).getD []).length) :
  B4 sz v (.int k i) g=.val (nX sz v i.toNat 0):=by
 obtain⟨rows,hr⟩:=Option.isSome_iff_exists.1 h
 grind[Mp]
theorem zq{g:G}{sz:Nat}{v:AV}{k:IntKind}{i:Nat}(h:(ac g.h sz v).isSome=true)(hi:i<((ac g.h sz v).getD []).length) :
  B4 sz v (.int k (i:Int)) g=.val (nX sz v i 0):=Mq h (US i) (by omega)
def rR:AV->Bool
 |.tsl ..|.hsl ..=>true
 |_=>false
theorem Ff{sz:Nat}{v:AV}{i off fo:Nat}(h:rR v=true):J6 fo (nX sz v i off)=.val (nX sz v i (off+fo)):=by cases v<;>first|rfl|cases h
theorem qO{h:H}{sz:Nat}{v:AV}{rows:List (List AV)}{i:Nat}(hv:ac h sz v=some rows)(hi:i<rows.length):rR v=true:=by
 unfold ac at hv
 split at hv
 ·grind
 ·grind
 ·rfl
 ·rfl
 grind
def pp(h:H)(v:AV):List Int:=((ac h 1 v).getD []).map λr=>match r with|[.int _ x]=>x|_=>0
def AC(h:H)(v:AV):Prop:=ac h 1 v=some ((pp h v).map ci)
theorem Mm(l:List Int):(l.map ci).map (λr=>match r with|[.int _ x]=>x|_=>0)=l:=by
 induction l<;>grind[ci]
theorem wT{h:H}{v:AV}{l:List Int}(hv:ac h 1 v=some (l.map ci)):pp h v=l:=by
 grind[pp,Mm]
theorem CK{h:H}{v:AV}{l:List Int}(hv:ac h 1 v=some (l.map ci)):AC h v:=by
 grind[wT,AC]
theorem Pr{α:Type}(a:α)(l:List α):(a::l)[0]?=some a:=rfl
theorem Ps{α:Type}(a b:α)(l:List α):(a::b::l)[1]?=some b:=rfl
theorem Pt{α:Type}(a b c:α)(l:List α):(a::b::c::l)[2]?=some c:=rfl
theorem Pu{α:Type}(a b c e:α)(l:List α):(a::b::c::e::l)[3]?=some e:=rfl
theorem Pv{α:Type}(a b c e p:α)(l:List α):(a::b::c::e::p::l)[4]?=some p:=rfl
theorem Px{α:Type}(a b c e p q:α)(l:List α):(a::b::c::e::p::q::l)[5]?=some q:=rfl
theorem Py{α:Type}(a b c e p q r:α)(l:List α):(a::b::c::e::p::q::r::l)[6]?=some r:=rfl
theorem Pz{α:Type}(a b c e p q r s:α)(l:List α):(a::b::c::e::p::q::r::s::l)[7]?=some s:=rfl
theorem PA{α:Type}(a b c e p q r s u:α)(l:List α):(a::b::c::e::p::q::r::s::u::l)[8]?=some u:=rfl
@[reducible] def o (d:Nat) (op:SO):SI:=⟨some d,none,op⟩
@[reducible] def oz (op:SO):SI:=⟨none,none,op⟩
@[reducible] def og (d s:Nat) (w:Bool) (op:SO):SI:=⟨some d,some (s,w),op⟩
@[reducible] def ozg (s:Nat) (w:Bool) (op:SO):SI:=⟨none,some (s,w),op⟩
section steps
variable {C:Cfg}{d:Nat}{rd:Option Nat}
theorem xp(Q:QT)(t:T)(df:List ADf)(g:G):wp C d rd .skip Q t df g=Q .norm t df g:=rfl
theorem Ez(l:List SI)(Q:QT)(t:T)(df:List ADf)(g:G):wp C d rd (.ops l) Q t df g=wpO C d rd l (Q .norm) t df g:=rfl
theorem GL(l:List SI)(Q:QT)(t:T)(df:List ADf)(g:G):wp C d rd (.quiet l) Q t df g=wpO C d rd l (kQ g Q) t df (aO g []):=rfl
theorem Jz(pm:List Nat)(l:List SI)(Q:QT)(t:T)(df:List ADf)(g:G):wp C d rd (.feet pm l) Q t df g=wpF C d rd pm l (Q .norm) t df g []:=rfl
theorem dK(a b:SC)(Q:QT)(t:T)(df:List ADf)(g:G):wp C d rd (.seq a b) Q t df g=wp C d rd a (kS (wp C d rd b Q) Q) t df g:=rfl
theorem zB(c:Od)(a b:SC)(Q:QT)(t:T)(df:List ADf)(g:G):wp C d rd (.cond c a b) Q t df g=wpC (c.get t) (wp C d rd a Q) (wp C d rd b Q) t df g:=rfl
theorem ym(id:Nat)(b:SC)(Q:QT)(t:T)(df:List ADf)(g:G):wp C d rd (.blk id b) Q t df g=wp C d rd b (kB id Q) t df g:=rfl
theorem xn(b:SC)(Q:QT)(t:T)(df:List ADf)(g:G):wp C d rd (.loop b) Q t df g=wpL (wp C d rd b) Q t df g:=rfl
theorem Ey(id:Nat)(Q:QT)(t:T)(df:List ADf)(g:G):wp C d rd (.exit id) Q t df g=Q (.exit id) t df g:=rfl
theorem NW(Q:QT)(t:T)(df:List ADf)(g:G):wp C d rd .ret Q t df g=Q .ret t df g:=rfl
theorem Po(g0:G)(Q:QT)(t:T)(df:List ADf)(g:G):kQ g0 Q t df g=(g.lg=[]/\g.nx=g0.nx/\Q .norm t df g0):=rfl
theorem Jx(Q:PT)(t:T)(df:List ADf)(g:G):wpO C d rd [] Q t df g=Q t df g:=rfl
theorem PE(n:Nat)(op:SO)(r:List SI)(Q:PT)(t:T)(df:List ADf)(g:G) :
  wpO C d rd (o n op::r) Q t df g=(op.run C d rd t g).sat (kO (wpO C d rd r Q) (some n) t df) g (kD (wpO C d rd r Q) (some n) t df g):=rfl
theorem NV(op:SO)(r:List SI)(Q:PT)(t:T)(df:List ADf)(g:G) :
  wpO C d rd (oz op::r) Q t df g=(op.run C d rd t g).sat (kO (wpO C d rd r Q) none t df) g (kD (wpO C d rd r Q) none t df g):=rfl
theorem NT(n s:Nat)(w:Bool)(op:SO)(r:List SI)(Q:PT)(t:T)(df:List ADf)(g:G) :
  wpO C d rd (og n s w op::r) Q t df g=gdP (tat t s) w (Gi C d rd (o n op) (wpO C d rd r Q)) (Bg (o n op) (wpO C d rd r Q)) t df g:=rfl
theorem Jy(s:Nat)(w:Bool)(op:SO)(r:List SI)(Q:PT)(t:T)(df:List ADf)(g:G) :
  wpO C d rd (ozg s w op::r) Q t df g=gdP (tat t s) w (Gi C d rd (oz op) (wpO C d rd r Q)) (Bg (oz op) (wpO C d rd r Q)) t df g:=rfl
theorem Nn(n:Nat)(op:SO)(W:PT)(t:T)(df:List ADf)(g:G):Gi C d rd (o n op) W t df g=(op.run C d rd t g).sat (kO W (some n) t df) g (kD W (some n) t df g):=rfl
theorem Je(op:SO)(W:PT)(t:T)(df:List ADf)(g:G):Gi C d rd (oz op) W t df g=(op.run C d rd t g).sat (kO W none t df) g (kD W none t df g):=rfl
theorem Jm(n:Nat)(op:SO)(W:PT)(t:T)(df:List ADf)(g:G):Bg (o n op) W t df g=W (fQ t n .undef) df g:=rfl
theorem Gr(op:SO)(W:PT)(t:T)(df:List ADf)(g:G):Bg (oz op) W t df g=W t df g:=rfl
theorem IQ(W:PT)(n:Nat)(t:T)(df:List ADf)(v:AV)(g:G):kO W (some n) t df v g=W (fQ t n v) df g:=rfl
theorem IP(W:PT)(t:T)(df:List ADf)(v:AV)(g:G):kO W none t df v g=W t df g:=rfl
theorem Pl(q:Bool)(A B:PT)(t:T)(df:List ADf)(g:G):gdP (.bool q) true A B t df g=xy q A B t df g:=rfl
theorem Pk(q:Bool)(A B:PT)(t:T)(df:List ADf)(g:G):gdP (.bool q) false A B t df g=xy q B A t df g:=rfl
theorem CF(w:Bool)(A B:PT)(t:T)(df:List ADf)(g:G):gdP (.tup []) w A B t df g=B t df g:=rfl
theorem xz(A B:PT)(t:T)(df:List ADf)(g:G):xy true A B t df g=A t df g:=by simp[xy]
theorem uZ(A B:PT)(t:T)(df:List ADf)(g:G):xy false A B t df g=B t df g:=by simp[xy]
theorem xl(q:Bool)(A B:PT)(t:T)(df:List ADf)(g:G):wpC (.bool q) A B t df g=xy q A B t df g:=rfl
theorem qH(W:PT)(Q:QT)(t:T)(df:List ADf)(g:G):kS W Q .norm t df g=W t df g:=rfl
theorem D3(W:PT)(Q:QT)(id:Nat)(t:T)(df:List ADf)(g:G):kS W Q (.exit id) t df g=Q (.exit id) t df g:=rfl
theorem Mw(W:PT)(Q:QT)(t:T)(df:List ADf)(g:G):kS W Q .ret t df g=Q .ret t df g:=rfl
theorem II(id:Nat)(Q:QT)(t:T)(df:List ADf)(g:G):kB id Q .norm t df g=Q .norm t df g:=rfl
theorem Mt(id:Nat)(Q:QT)(t:T)(df:List ADf)(g:G):kB id Q .ret t df g=Q .ret t df g:=rfl
theorem IJ(id:Nat)(Q:QT)(t:T)(df:List ADf)(g:G):kB id Q (.exit id) t df g=Q .norm t df g:=by simp[kB]
theorem Ms(id j:Nat)(Q:QT)(t:T)(df:List ADf)(g:G)(h:j≠id):kB id Q (.exit j) t df g=Q (.exit j) t df g:=by simp_all[aa,kB]
theorem kP(id j:Nat)(Q:QT)(t:T)(df:List ADf)(g:G):kB id Q (.exit j) t df g=if j=id then Q .norm t df g else Q (.exit j) t df g:=by
 by_cases h:j=id
 all_goals simp_all[IJ,Ms]
theorem IN(Inv:Nat->PT)(k:Nat)(Q:QT)(t:T)(df:List ADf)(g:G):kL Inv k Q .norm t df g=∃k',k'<k/\Inv k' t df g:=rfl
theorem IM(Inv:Nat->PT)(k:Nat)(Q:QT)(id:Nat)(t:T)(df:List ADf)(g:G):kL Inv k Q (.exit id) t df g=Q (.exit id) t df g:=rfl
theorem Mu(Inv:Nat->PT)(k:Nat)(Q:QT)(t:T)(df:List ADf)(g:G):kL Inv k Q .ret t df g=Q .ret t df g:=rfl
theorem aR{q:Bool}{A B:PT}{t:T}{df:List ADf}{g:G}(h1:q=true->A t df g)(h2:q=false->B t df g):xy q A B t df g:=⟨h1,h2⟩
theorem Fi(r:List SR)(K:AV->G->Prop)(t:T)(df:List ADf)(g:G):fnQ C d r K .norm t df g=BJ C d r t df g K:=rfl
theorem DU(r:List SR)(K:AV->G->Prop)(t:T)(df:List ADf)(g:G):fnQ C d r K .ret t df g=BJ C d r t df g K:=rfl
theorem E4(r:List SR)(K:AV->G->Prop)(t:T)(g:G):BJ C d r t [] g K=xZ r t g λvs=>K (jB vs) g:=rfl
theorem Gc(t:T)(g:G)(K:List AV->Prop):xZ [] t g K=K []:=rfl
theorem Ja(n:Nat)(r:List SR)(t:T)(g:G)(K:List AV->Prop):xZ (.tm n::r) t g K=xZ r t g λvs=>K (tat t n::vs):=rfl
theorem wZ(v:AV):jB [v]=v:=rfl
theorem qV{W:QT->PT}{Q:QT}{t:T}{df:List ADf}{g:G}(Inv:Nat->PT)(k:Nat)(h0:Inv k t df g)(h:∀k t df g,Inv k t df g->W (kL Inv k Q) t df g):wpL W Q t df g:=⟨Inv,⟨k,h0⟩,h⟩
end steps
end
end Hx
end
section
namespace Hx
open Go
noncomputable section
theorem sx:type_of% (To @Jx <|To @PE <|To @NV <|To @NT <|To @Jy <|To @Nn <|To @Je <|To @Jm <|To @Gr <|
 To @IQ <|To @IP <|To @Pl <|To @Pk <|To @CF <|To @xz <|To @uZ <|To @xl <|To @qH <|To @D3 <|To @Mw <|
 To @II <|To @Mt <|To @kP <|To @IN <|To @IM <|To @Mu <|To @Fi <|To @DU <|To @E4 <|To @Gc <|To @Ja <|
 To @wZ <|To @tT <|To @FO <|To @FP <|To @FQ <|To @FS <|To @xp <|To @Ez <|To @GL <|To @Jz <|To @dK <|To @zB <|To @ym <|To @xn <|To @Ey <|To @NW <|To @AW <|To @Jt <|To @CG <|To @IB <|To @wS <|To @tZ <|To @Ji <|To @Jh <|To @FU <|
 To @Ie <|To @In <|To @Il <|To @Ig <|To @Im <|To @Ik <|To @Ii <|To @Ij <|To @Ih <|To @FM <|To @EU <|To @M5 <|To @M4 <|
 To @MJ <|To @MG <|To @Fe <|To @AL <|To @tz <|To @yU <|To @A0 <|To @CQ <|To @Ff <|To @zq <|
 To @Pr <|To @Ps <|To @Pt <|To @Pu <|To @Pv <|To @Px <|To @Py <|To @Pz <|To @PA <|To @G.put_h <|To @G.put_nx <|To @G.new_h <|To @G.new_nx <|To @aU <|To @E3 <|@Is) :=
 To @Jx <|To @PE <|To @NV <|To @NT <|To @Jy <|To @Nn <|To @Je <|To @Jm <|To @Gr <|
 To @IQ <|To @IP <|To @Pl <|To @Pk <|To @CF <|To @xz <|To @uZ <|To @xl <|To @qH <|To @D3 <|To @Mw <|
 To @II <|To @Mt <|To @kP <|To @IN <|To @IM <|To @Mu <|To @Fi <|To @DU <|To @E4 <|To @Gc <|To @Ja <|
 To @wZ <|To @tT <|To @FO <|To @FP <|To @FQ <|To @FS <|To @xp <|To @Ez <|To @GL <|To @Jz <|To @dK <|To @zB <|To @ym <|To @xn <|To @Ey <|To @NW <|To @AW <|To @Jt <|To @CG <|To @IB <|To @wS <|To @tZ <|To @Ji <|To @Jh <|To @FU <|
 To @Ie <|To @In <|To @Il <|To @Ig <|To @Im <|To @Ik <|To @Ii <|To @Ij <|To @Ih <|To @FM <|To @EU <|To @M5 <|To @M4 <|
 To @MJ <|To @MG <|To @Fe <|To @AL <|To @tz <|To @yU <|To @A0 <|To @CQ <|To @Ff <|To @zq <|
 To @Pr <|To @Ps <|To @Pt <|To @Pu <|To @Pv <|To @Px <|To @Py <|To @Pz <|To @PA <|To @G.put_h <|To @G.put_nx <|To @G.new_h <|To @G.new_nx <|To @aU <|To @E3 <|@Is
def St(t:T):List (Nat×AV)->Prop
 |[]=>True
 | (n,v)::r=>tat t n=v/\St t r
abbrev VS:=(Nat->Prop)->Nat->H->AV->Prop
def One{α:Type} [Rp α](x:α):VS:=λP k h v=>Rp.rp P k h x [v]
def Agg{α:Type} [Rp α](x:α):VS:=λP k h v=>∃cs,v=.agg cs/\Rp.rp P k h x cs
def rK(S R:VS):VS:=λP k h v=>∃a b,v=.tup [a,b]/\S P k h a/\R P k h b
structure Snb (S:VS) (j:Nat):Prop where
 snap:∀{P k h v n} (d:Nat),S P k h v->20+j<=n->∃v',Hx.snap h d n v=some v'/\S NoP (max k d) .nil v'
 tag:∀{k h v n},S NoP k h v->20+j<=n->∃m,eS n v=some m/\m<=k
theorem a9{α:Type} [Rp α](x:α)(hd:Rp.dp α<=20:=by decide):Snb (One x) 0:=by
 refine⟨λ{P k h v n} d r hn=>?_,λ{k h v n} r hn=>?_⟩
 ·obtain⟨cs',e,r'⟩:=Rp.snap (n:=n) d r (by omega) (by show _<=24;omega);simp only[aK]at e
  split at e
  ·rename_i w hw;injection e with e;subst e;exact⟨w,hw,r'⟩
  grind
 ·obtain⟨m,e,l⟩:=Rp.tag (n:=n) r (by omega);simp only[gQ]at e
  grind
theorem bz{α:Type} [Rp α](x:α)(hd:Rp.dp α<=20:=by decide):Snb (Agg x) 1:=by
 refine⟨λ{P k h v n} d r hn=>?_,λ{k h v n} r hn=>?_⟩
 ·obtain⟨cs,rfl,r⟩:=r;obtain⟨n,rfl⟩:∃m,n=m+1:=⟨n - 1,by omega⟩;obtain⟨cs',e,r'⟩:=Rp.snap (n:=n) d r (by omega) (by show _<=24;omega);exact⟨.agg cs',by grind[Hx.snap],cs',rfl,r'⟩
 ·obtain⟨cs,rfl,r⟩:=r;obtain⟨n,rfl⟩:∃m,n=m+1:=⟨n - 1,by omega⟩;obtain⟨m,e,l⟩:=Rp.tag (n:=n) r (by omega)<;>grind[eS]
theorem cO{S R:VS}{i j m:Nat}(hs:Snb S i)(hr:Snb R j)(hi:i+1<=m)(hj:j+1<=m):Snb (rK S R) m:=by
 refine⟨λ{P k h v n} d r hn=>?_,λ{k h v n} r hn=>?_⟩
 ·obtain⟨a,b,rfl,r1,r2⟩:=r;obtain⟨n,rfl⟩:∃m,n=m+1:=⟨n - 1,by omega⟩;obtain⟨a',e1,r1'⟩:=hs.snap (n:=n) d r1 (by omega);obtain⟨b',e2,r2'⟩:=hr.snap (n:=n) d r2 (by omega);exact⟨.tup [a',b'],by grind[aK,Hx.snap],a',b',rfl,r1',r2'⟩
 ·obtain⟨a,b,rfl,r1,r2⟩:=r;obtain⟨n,rfl⟩:∃m,n=m+1:=⟨n - 1,by omega⟩;obtain⟨m1,e1,l1⟩:=hs.tag (n:=n) r1 (by omega);obtain⟨m2,e2,l2⟩:=hr.tag (n:=n) r2 (by omega);refine⟨max m1 m2,?_,by omega⟩<;>grind[eS,gQ]
def Arg(S:VS)(k d:Nat)(h:H)(v v':AV):Prop:=Hx.snap h d aD v=some v'/\S NoP k .nil v'
theorem eZ{S:VS}{j:Nat}(hs:Snb S j)(hj:j<=4){P:Nat->Prop}{k:Nat}{h:H}{v:AV}(d:Nat)(r:S P k h v):∃v',Arg S (max k d) d h v v':=by obtain⟨v',e,r'⟩:=hs.snap (n:=aD) d r (by show _<=24;omega);exact⟨v',e,r'⟩
theorem cW{α:Type} [Rp α]{x:α}{k:Nat}{h:H}{v:AV}(d:Nat)(r:Agg x NoP k h v)(hd:Rp.dp α<=20:=by decide):Hx.snap h d aD v=some v:=by
 obtain⟨cs,rfl,r⟩:=r;show (match aK (Hx.snap h d 23) cs with|some as=>some (AV.agg as)|none=>none)=_
 grind[Rp.same]
theorem qP{α:Type} [Rp α]{l:List α}{k:Nat}{h:H}{v:AV}(d:Nat)(r:SlR NoP k h l v):Hx.snap h d aD v=some v:=by
 have r:=r.2;unfold SlV at r
 split at r<;>first|rfl|exact r.1.elim|grind
theorem fg(k d:Nat)(h:H)(q:IntKind)(x:Int):Hx.snap h d aD (.int q x)=some (.int q x):=rfl
theorem Lg{h:H}{v:AV}(hv:AC h v)(hl:(pp h v).length<9223372036854775808)(d:Nat) :
  ∃v',Hx.snap h d aD v=some v'/\(∀h',ac h' 1 v'=some ((pp h v).map ci))/\∀g,dm .slice v' g=.val (.int .i64 ((pp h v).length:Int)):=by
 suffices hs:∃v',Hx.snap h d aD v=some v'/\(∀h',ac h' 1 v'=some ((pp h v).map ci)) by obtain⟨v',e,hr⟩:=hs;exact⟨v',e,hr,λg=>by rw[bQ (hr .nil),Tz]⟩
 obtain⟨k,r⟩:∃k,SlV (λ_=>True) k h (pp h v) v:=by
  have e:=hv;unfold AC at e;have all:∀P k h',All2 (Rp.rp P k h') (pp h v) ((pp h v).map ci):=λP k h'=>Q5 (λa=>aB.2 rfl) _;cases v with
  |nils=>exact⟨0,by simp only[ac]at e;injection e with e;exact (List.map_eq_nil_iff.1 e.symm)⟩
  |esl=>exact⟨0,by simp only[ac]at e;injection e with e;exact (List.map_eq_nil_iff.1 e.symm)⟩
  | tsl t s rows =>
   refine⟨t,Tp t,?_,?_⟩
   ·simp only[ac,aa]at e
    split at e
    ·rename_i hc;rw[Uo]at hc;rcases hc with hc|hc
     ·exact .inl (UX hc).symm
     grind
    grind
   ·simp only[ac,aa]at e
    grind
  |hsl id ep off len lim=>exact⟨0,trivial,_,e,all _ _ _⟩
  |_=>simp[ac]at e
 obtain⟨v',e,r'⟩:=(a9 (pp h v)).snap (n:=aD) d (show One (pp h v) _ k h v from ⟨v,rfl,hl,r⟩) (by decide);refine⟨v',e,λh'=>?_⟩;obtain⟨w,hw,r'⟩:=r';injection hw with hw;subst hw;have:SlR (λ_=>True) (max k d) h' (pp h v) v':=by have:=(Rp.mono (P':=λ_=>True) (k':=max k d) (h':=h') (show Rp.rp NoP (max k d) .nil (pp h v) [v'] from ⟨v',rfl,r'⟩) (λi hi=>hi.elim) (Tp _));obtain⟨w,hw,q⟩:=this<;>grind
 exact this.ints
abbrev IT (k:Nat)(l:List Int)(r:AV):Prop:=One l NoP k .nil r
theorem IT.sl{k:Nat}{l:List Int}{r:AV}(h:IT k l r)(h':H):SlR NoP k h' l r:=by obtain⟨w,hw,q⟩:=Rp.tree (P:=NoP) (k':=k) (h':=h') h (Tp _)<;>grind
theorem IT.rows{k:Nat}{l:List Int}{r:AV}(h:IT k l r)(h':H):ac h' 1 r=some (l.map ci):=(h.sl h').ints
theorem IT.len{k:Nat}{l:List Int}{r:AV}(h:IT k l r)(g:G):dm .slice r g=.val (.int .i64 (l.length:Int)):=by rw[bQ (h.rows .nil),Tz]
theorem SlR.cell{α:Type} [Rp α]{P:Nat->Prop}{k:Nat}{h:H}{l:List α}{v:AV}(r:SlR P k h l v):v.cells=[v]/\v.isTup=false:=by
 have r:=r.2;unfold SlV at r
 split at r<;>first|exact⟨rfl,rfl⟩|grind
theorem IT.cells{k:Nat}{l:List Int}{r:AV}(h:IT k l r):r.cells=[r]:=(h.sl .nil).cell.1
theorem IT.tup{k:Nat}{l:List Int}{r:AV}(h:IT k l r):r.isTup=false:=(h.sl .nil).cell.2
section iso
variable {C:Cfg}{f d:Nat}{s:SF}{g:G}{args xs:List AV}
theorem bg(hf:nFn C f=some s)(hs:aK (snap g.h d aD) args=some xs)(hl:xs.length<=s.nt){R:VS}{j:Nat}(hR:Snb R j)(hj:j<=4){k':Nat}(hk:k'<d)
  (h:wp C (d+1) none s.code (fnQ C (d+1) s.res λv g'=>∃P,R P k' g'.h v) (cy 0 xs .nil) [] G.empty):∃r,am (I C) d g f args=.val r/\R NoP k' .nil r:=by
 have h:=nZ hf hl h;unfold am;rw[hs];dsimp only;cases hc:(I C).call (Nat.succ d) f xs G.empty with
 |fail=>rw[show (I C).call (d+1) f xs G.empty=.fail from hc]at h;exact h.elim
 | ok v g' =>
  rw[show (I C).call (d+1) f xs G.empty=.ok v g' from hc]at h;obtain⟨P,h⟩:=h;obtain⟨r,e,hr⟩:=hR.snap (n:=aD) 0 h (by show _<=24;omega);rw[Nat.max_eq_left (Ue k')]at hr;obtain⟨m,em,lm⟩:=hR.tag (n:=aD) hr (by show _<=24;omega);refine⟨r,?_,hr⟩;simp only[e,em,aa,UF]
  grind
theorem mD(hf:nFn C f=some s)(hl:xs.length<=s.nt){K:AV->G->Prop}{D:ADf->Prop}(h:wp C d none s.code (fnQ C d s.res K) (cy 0 xs .nil) [] g):(orF ((I C).call d f xs g)).sat K g D:=by
 have h:=nZ hf hl h;cases hc:(I C).call d f xs g with
 |fail=>rw[hc]at h;exact h.elim
 |ok v g'=>rw[hc]at h;exact h
theorem oo(hf:nFn C f=some s)(hs:aK (snap g.h d aD) args=some xs)(hl:xs.length<=s.nt){q:IntKind}{x:Int}(hk:0<d)
  (h:wp C (d+1) none s.code (fnQ C (d+1) s.res λv _=>v=.int q x) (cy 0 xs .nil) [] G.empty):am (I C) d g f args=.val (.int q x):=by
 have h:=nZ hf hl h;unfold am;rw[hs];dsimp only;cases hc:(I C).call (Nat.succ d) f xs G.empty with
 |fail=>rw[show (I C).call (d+1) f xs G.empty=.fail from hc]at h;exact h.elim
 | ok v g' =>
  rw[show (I C).call (d+1) f xs G.empty=.ok v g' from hc]at h;have h:v=.int q x:=h;subst h;show (match eS aD (.int q x) with|none=>OR.fail|some m=>aA (Nat.blt m d) (.val (.int q x)) _)=_;rw[show eS aD (.int q x)=some 0 from rfl];simp_all[aa]
theorem eR(hf:nFn C f=some s)(hs:aK (snap g.h d aD) args=some xs)(hl:xs.length<=s.nt){x:Bool}(hk:0<d)
  (h:wp C (d+1) none s.code (fnQ C (d+1) s.res λv _=>v=.bool x) (cy 0 xs .nil) [] G.empty):am (I C) d g f args=.val (.bool x):=by
 have h:=nZ hf hl h;unfold am;rw[hs];dsimp only;cases hc:(I C).call (Nat.succ d) f xs G.empty with
 |fail=>rw[show (I C).call (d+1) f xs G.empty=.fail from hc]at h;exact h.elim
 | ok v g' =>
  rw[show (I C).call (d+1) f xs G.empty=.ok v g' from hc]at h;have h:v=.bool x:=h;subst h;show (match eS aD (.bool x) with|none=>OR.fail|some m=>aA (Nat.blt m d) (.val (.bool x)) _)=_;rw[show eS aD (.bool x)=some 0 from rfl];simp_all[aa]
end iso
end
end Hx
end
section
namespace Hx
open Go
section
variable {C:Cfg}{A:Nat->Nat->Prop}{bd:Nat}{w w':World}{γ γ':Gm}{hg:Nat->AObj}{nx:Nat}
variable {op:Op}{t:T}{g:G}{f:Stg SFn}
theorem yM{h:H}{sz id:Nat}{x:AV}(hid:id∈ak x)(hn:h.get id=.none):ac h sz x=none:=by cases x<;>simp[ak]at hid<;>grind[ac]
theorem C4{sz id:Nat}{x:AV}{bytes:Nat}{new:List (List AV)}(hid:id∈ak x)(hn:g.h.get id=.none):bp sz bytes x new g=.fail:=by
 cases x<;>simp[ak]at hid
 all_goals simp_all[bp]
theorem Gx(h:cx C op=some f){id:Nat}(hid:id∈bC C op t g)(hn:g.h.get id=.none):f.run t g=.fail:=by
 have one:∀{x:AV},id∈ak x->(∃a b c d,x=.hptr a b c d/\g.h.get a=.none)\/(∃a b c d e,x=.hsl a b c d e/\g.h.get a=.none)\/(∃a,x=.hmap a/\g.h.get a=.none):=by intro x hx;cases x<;>simp[ak]at hx<;>grind
 cases op<;>simp only[cx]at h<;>first| (cases h;done)|skip
 case call c =>
  obtain⟨callee,args,argTypes⟩:=c;cases callee<;>first| (cases h;done)|skip
  rename_i b;dsimp only at h;obtain⟨vs,hvs⟩:=uB h;have hid:id∈(vs.run t).flatMap (mA C b argTypes):=by simp_all[bC,aP,ae]
  generalize args.toList=l at h hvs;unfold dt at h
  split at h
  ·
   split at h
   ·rename_i tt s h0 hs;injection h with h;subst h;simp only[cg,hs,UQ]at hvs;subst hvs;simp only[U5,Vb,TZ,mA,h0]at hid;dsimp only;generalize s.run t=x at *;generalize mH C.P tt=k at *;cases k<;>simp at hid;cases x<;>simp[xf]at hid;simp_all[dm]
   grind
  ·
   split at h
   ·rename_i tt xt sa sx h0 h1 ha hx;simp only[cg,ha,hx,UQ]at hvs;subst hvs;simp only[U5,Vb,TZ,mA,Uf]at hid
    repeat' (first|split at h| (rw[aa]at h;split at h))
    all_goals first| (cases h;done)|skip
    all_goals (injection h with h;subst h)
    ·grind[cC,C4,yM]
    ·dsimp only[mB]
     split
     ·rfl
     ·rename_i n hnat;rcases hid with hid|hid
      ·grind[aa,C4]
      ·generalize sx.run t=x at *
       grind[dA]
   grind
  ·
   split at h
   ·rename_i tt sa sx h0 ha hx;simp only[cg,ha,hx,UQ]at hvs;subst hvs;simp only[U5,Vb,TZ,mA,Uf]at hid
    repeat' (first|split at h)
    all_goals first| (cases h;done)|skip
    all_goals (injection h with h;subst h)
    dsimp only[yx]
    split
    ·rfl
    ·rename_i src hsrc;rcases hid with hid|hid
     ·rcases one hid with⟨a,b,c,d,e,h1⟩|⟨a,b,c,d,e',e,h1⟩|⟨a,e,h1⟩<;>rw[e]<;>simp[h1]
     grind[yM]
   grind
  ·
   split at h
   ·rename_i tt s h0 hs;simp only[cg,hs,UQ]at hvs;subst hvs;simp only[U5,Vb,TZ,mA]at hid
    repeat' (first|split at h)
    all_goals first| (cases h;done)|skip
    all_goals (injection h with h;subst h)
    dsimp only[ET];rcases one hid with⟨a,b,c,d,e,h1⟩|⟨a,b,c,d,e',e,h1⟩|⟨a,e,h1⟩<;>rw[e]<;>simp[h1]
   grind
  ·
   split at h
   ·rename_i tt s h0 hs;simp only[cg,hs,UQ]at hvs;subst hvs;simp only[U5,Vb,TZ,mA]at hid
    repeat' (first|split at h| (rw[aa]at h;split at h))
    all_goals first| (cases h;done)|skip
    all_goals (injection h with h;subst h)
    dsimp only;generalize s.run t=x at *;cases x with
    | hsl i ep off len lim =>
     cases len with
     |zero=>simp_all[ud]
     | succ len =>
      simp_all[ud,z6]
    |_=>simp[ud]at hid
   grind
  ·
   split at h
   ·rename_i sa sx ha hx;injection h with h;subst h;simp only[cg,ha,hx,UQ]at hvs;subst hvs;simp only[U5,Vb,TZ,mA,Uf]at hid
    grind
   grind
  ·
   split at h
   ·rename_i sa sx ha hx;injection h with h;subst h;simp only[cg,ha,hx,UQ]at hvs;subst hvs;simp only[U5,Vb,TZ,mA,Uf]at hid
    grind
   grind
  grind
 case load ty a =>
  split at h
  ·rename_i s ag n hs hag hn';injection h with h;subst h;simp only[bC,aP,hs,ae,Uv,TZ]at hid;dsimp only[mz];rcases one hid with⟨a,b,c,d,e,h1⟩|⟨a,b,c,d,e',e,h1⟩|⟨a,e,h1⟩<;>rw[e]<;>simp[h1]
  grind
 case store ty a x =>
  split at h
  ·rename_i s u n hs hu hn';injection h with h;subst h;simp only[bC,aP,hs,ae,Uv,TZ]at hid;dsimp only[pw];rcases one hid with⟨a,b,c,d,e,h1⟩|⟨a,b,c,d,e',e,h1⟩|⟨a,e,h1⟩<;>rw[e]<;>simp[h1]
  grind
 case indexAddr ty x ix =>
  split at h
  ·rename_i s i hs hi
   split at h
   ·rename_i e hu
    split at h
    ·injection h with h;subst h;simp only[bC,aP,hs,hu,ae,Uv,TZ]at hid;dsimp only[gN];rcases one hid with⟨a,b,c,d,e,h1⟩|⟨a,b,c,d,e',e,h1⟩|⟨a,e,h1⟩<;>rw[e];dsimp only
     split<;>simp_all
    grind
   all_goals simp_all[bC,aP,aw]
  grind
 case lookup ty x k ok =>
  split at h
  ·rename_i sm kk kt et hm hk hu
   split at h
   ·injection h with h;subst h;have hid:id∈ak (sm.run t):=by cases ok<;>simpa [bC,aP,hm,ae] using hid
    dsimp only[cp];rw[aa]
    split
    ·rcases one hid with⟨a,b,c,d,e,h1⟩|⟨a,b,c,d,e',e,h1⟩|⟨a,e,h1⟩<;>rw[e]<;>simp[h1]
    ·rfl
   grind
  grind
 case mapUpdate ty m k x =>
  split at h
  ·rename_i sm sk sx kt et hm hk hx hu;injection h with h;subst h;simp only[bC,aP,hm,ae,Uv,TZ]at hid;dsimp only[ck];rw[aa]
   split
   ·rcases one hid with⟨a,b,c,d,e,h1⟩|⟨a,b,c,d,e',e,h1⟩|⟨a,e,h1⟩<;>rw[e]<;>simp[h1]
   ·rfl
  grind
 case insert ty m k x =>
  split at h
  ·rename_i sm sk sx kt et hm hk hx hu;injection h with h;subst h;simp only[bC,aP,hm,ae,Uv,TZ]at hid;dsimp only[ck];rw[aa]
   split
   ·rcases one hid with⟨a,b,c,d,e,h1⟩|⟨a,b,c,d,e',e,h1⟩|⟨a,e,h1⟩<;>rw[e]<;>simp[h1]
   ·rfl
  grind
 case mapEntry ty m k =>
  split at h
  ·rename_i sm sk kt et hm hk hu
   split at h
   ·injection h with h;subst h;simp only[bC,aP,hm,Uv,TZ]at hid;dsimp only[fZ];rw[aa]
    split
    ·rcases one hid with⟨a,b,c,d,e,h1⟩|⟨a,b,c,d,e',e,h1⟩|⟨a,e,h1⟩<;>rw[e]<;>simp[h1]
    ·rfl
   grind
  grind
 case entryStore ty m st x =>
  split at h
  ·rename_i sm ss sx hm hs hx;injection h with h;subst h;simp only[bC,aP,hm,ae,Uv,TZ]at hid;dsimp only[ip];rcases one hid with⟨a,b,c,d,e,h1⟩|⟨a,b,c,d,e',e,h1⟩|⟨a,e,h1⟩<;>rw[e]<;>simp[h1]
  grind
 case slice ty x lo hi mx =>
  have key:∀{sz:Nat} {y:AV} {l h' m:Option AV},id∈ak y->nR sz y l h' m g.h=none:=by
   grind[nR]
  cases mx with
  | none =>
   dsimp only at h
   split at h
   ·rename_i e sx sl sh hu hx hl hh
    split at h
    ·injection h with h;subst h;simp only[bC,aP,hx,ae,Uv,TZ]at hid;dsimp only;rw[key hid];rfl
    grind
   ·rename_i n e sx sl sh hu hx hl hh
    split at h
    ·injection h with h;subst h;simp only[bC,aP,hx,ae,Uv,TZ]at hid;dsimp only[iS]
     split
     ·rfl
     ·split
      ·rfl
      ·rcases one hid with⟨a,b,c,d,e,h1⟩|⟨a,b,c,d,e',e,h1⟩|⟨a,e,h1⟩<;>rw[e]<;>simp[h1]
    grind
   grind
  | some mx =>
   cases hi with
   |none=>cases h
   | some hi =>
    dsimp only at h
    split at h
    ·rename_i e sx sl sh sm he hx hl hh hm
     split at h
     ·injection h with h;subst h;simp only[bC,aP,hx,ae,Uv,TZ]at hid;dsimp only;rw[key hid];rfl
     grind
    grind
 all_goals simp[bC,aP,aw]at hid
structure CfgOk (C:Cfg):Prop where
 mixed:C.P.follows .mixedOrders=true
 recov:C.P.follows .rangeFuncRecover=true
 mon:oI C
 noDfr:∀f e,C.ext f=some e->∀d args g y,e d args g≠.dfr y
 ext:∀f e,C.ext f=some e->∀A bd w γ hg nx g as vs,Rel C A bd w γ hg nx->WF g->(∀id∈as.flatMap (aC g.h aD),g.h.get id≠.none->hg id=g.h.get id)->Free γ g (gOf g (e (bd+1) as g)) ->
  RVs w γ A bd as vs->e (bd+1) as g≠.fail->∀cs,
  ∃u w' γ' hg',Fin C A bd w γ hg nx g w' γ' hg' (gOf g (e (bd+1) as g))/\RV w' γ' A bd (vOf (e (bd+1) as g)) u /\
   ((callFunc f vs.toArray).run C.P w=.ok (.value u) w'\/(Enters C.P f/\Outs C.P .normal f vs.toArray cs w u w'))
def DR(w:World)(γ:Gm)(A:Nat->Nat->Prop)(bd:Nat):List ADf->List Deferred->Prop
 |[],[]=>True
 |.mark id::ds,d::es=>((γ id).kind=4/\d={ target:=.collected (γ id).blk,args:=#[] })/\DR w γ A bd ds es
 |.call fv args::ds,d::es=>(∃f ys us,fv=.clo f [] ys/\d.target=.fn (.func f) us/\RVs w γ A bd ys us.toList/\RVs w γ A bd args d.args.toList)/\DR w γ A bd ds es
 |_,_=>False
theorem DR.step{ds:List ADf}:∀{es:List Deferred},DR w γ A bd ds es->Stp w γ w' γ'->DR w' γ' A bd ds es:=by
 induction ds with
 |nil=>grind[DR]
 | cons d ds ih =>
  intro es h s;cases es with
  |nil=>grind[DR]
  | cons e es =>
   cases d with
   | mark id =>
    obtain⟨⟨h1,h2⟩,h3⟩:=h;have hk:(γ id).kind≠0:=by omega
    exact⟨⟨by rw[s.kind_eq hk,h1],by rw[h2,s.blk_eq hk (by omega)]⟩,ih h3 s⟩
   | call fv args =>
    obtain⟨⟨f,ys,us,h1,h2,h4,h5⟩,h3⟩:=h;exact⟨⟨f,ys,us,h1,h2,h4.step s,h5.step s⟩,ih h3 s⟩
theorem TR.step{nt:Nat}{tmps:Array Value}(h:TR w γ A bd nt t tmps)(s:Stp w γ w' γ'):TR w' γ' A bd nt t tmps :=
 ⟨h.1,λi=>(h.2 i).step s⟩
def RdOk(γ:Gm)(rd:Option Nat)(b:Frame):Prop :=
 match rd with
 |none=>b.roundOf=none
 |some id=>(γ id).kind=3/\b.roundOf=some (γ id).blk
theorem RdOk.step{rd:Option Nat}{b:Frame}(h:RdOk γ rd b)(s:Stp w γ w' γ'):RdOk γ' rd b:=by
 cases rd with
 |none=>exact h
 | some id =>
  obtain⟨h1,h2⟩:=h;have hk:(γ id).kind≠0:=by omega
  exact⟨by rw[s.kind_eq hk,h1],by rw[h2,s.blk_eq hk (by omega)]⟩
def Arr(P:Program)(m:Machine)(b:Frame)(k:List Item)(cs:List Frame):Ex->Act->World->Prop
 |.norm,a,w=>Steps P m (lone (b.atR a k) cs w)
 |.exit id,a,w=>∃k₁,exitTo id k₁=exitTo id k/\Steps P m (lone (b.atR a (.code (.exit id)::k₁)) cs w)
 |.ret,a,w=>∃k₁,Steps P m (lone (b.atR a (.code .ret::k₁)) cs w)
theorem Arr.of_steps{P:Program}{m m₁:Machine}{b:Frame}{k:List Item}{cs:List Frame}{e:Ex}{a:Act}(h:Steps P m m₁)(h':Arr P m₁ b k cs e a w):Arr P m b k cs e a w:=by
 cases e with
 |norm=>exact Steps.trans h h'
 |exit id=>obtain⟨k₁,h1,h2⟩:=h';exact⟨k₁,h1,Steps.trans h h2⟩
 |ret=>obtain⟨k₁,h2⟩:=h';exact⟨k₁,Steps.trans h h2⟩
def zm(C:Cfg)(bd nt:Nat)(rd:Option Nat)(c:Code)(t:T)(df:List ADf)(g:G)(e:Ex)(t':T)(df':List ADf)(g':G):Prop :=
 ∀A w γ hg nx b a k cs,Rel C A bd w γ hg nx->Ext g.h hg->WF g->Free γ g g'->TR w γ A bd nt t a.tmps->DR w γ A bd df a.defers->RdOk γ rd b->wc b.kind cs ->
  ∃a' w' γ' hg',Fin C A bd w γ hg nx g w' γ' hg' g'/\TR w' γ' A bd nt t' a'.tmps/\DR w' γ' A bd df' a'.defers /\
   Arr C.P (lone (b.atR a (.code c::k)) cs w) b k cs e a' w'
def PG(C:Cfg)(ih:IH):Prop :=
 ∀bd nt rd c t df g e t' df' g',ih.code nt (bd+1) rd c t df g=.ok e t' df' g'->zm C bd nt rd c t df g e t' df' g'
structure IHOk (C:Cfg) (ih:IH):Prop where
 mon:IHMon ih
 call:K_ C ih
 code:PG C ih
theorem RVs.append{xs ys:List AV}{vs us:List Value}(h1:RVs w γ A bd xs vs)(h2:RVs w γ A bd ys us):RVs w γ A bd (xs++ys) (vs++us):=by
 refine⟨by simp[h1.1,h2.1],λi x v hx hv=>?_⟩
 by_cases hi:i<xs.length
 ·rw[TD hi]at hx;rw[TD (by rw[<-h1.1];exact hi)]at hv;exact h1.2 i x v hx hv
 ·rw[TB (by omega)]at hx;rw[TB (by rw[<-h1.1];omega),<-h1.1]at hv;exact h2.2 _ x v hx hv
theorem Rc{xs:List AV}{vs:Array Value}(hl:xs.length=vs.size)(h:∀(i:Nat) x v,xs[i]?=some x->vs[i]?=some v->RV w γ A bd x v) :
  RVs w γ A bd xs vs.toList:=⟨by omega,λi x v hx hv=>h i x v hx (by grind)⟩
section
variable {P:Program}{b:Frame}{a:Act}{ops:Array Oper}{i:Nat}{rest:List Nat}{k:List Item}{cs:List Frame}{o:Oper}
theorem Bi{v:Value}(ho:ops[i]?=some o)(hw:Region.wanted o (yielded ops a.tmps)=true)(hd:∀c,o.op≠.defer c)
  (hrun:(execOp a.eval o).run P w=.ok (.value v) w') :
  step P (lone (b.atR a (.inRegion ops (i::rest)::k)) cs w)=.next (lone (b.atR (a.put o.dst v) (.inRegion ops rest::k)) cs w'):=by
 have hfin:=Frame.finish_atR b a ops i rest k v;rw[ho]at hfin;simp only[Vc]at hfin;refine step_lone_go ?_;simp_all[stepGR_op,Oper.semAt_eq,stepG.apply]
theorem KW(ho:ops[i]?=some o)(hw:Region.wanted o (yielded ops a.tmps)=true)(hd:∀c,o.op≠.defer c)
  (hrun:(execOp a.eval o).run P w=.ok .skip w') :
  step P (lone (b.atR a (.inRegion ops (i::rest)::k)) cs w)=.next (lone (b.atR (a.put o.dst undef) (.inRegion ops rest::k)) cs w'):=by
 have hfin:=Frame.finish_atR b a ops i rest k undef;rw[ho]at hfin;simp only[Vc]at hfin;refine step_lone_go ?_;simp_all[stepGR_op,Oper.semAt_eq,stepG.apply]
theorem vX{v:Value}(ho:ops[i]?=some o)(hw:Region.wanted o (yielded ops a.tmps)=true)(hd:∀c,o.op≠.defer c)
  (hrun:EB P o a.eval w v w') :
  Steps P (lone (b.atR a (.inRegion ops (i::rest)::k)) cs w) (lone (b.atR (a.put o.dst v) (.inRegion ops rest::k)) cs w'):=by
 rcases hrun with h|⟨h,rfl⟩
 all_goals grind[Steps.one,Bi,KW]
theorem HZ{f:FuncId}{args:Array Value}(ho:ops[i]?=some o)(hw:Region.wanted o (yielded ops a.tmps)=true)(hd:∀c,o.op≠.defer c)
  (hrun:(execOp a.eval o).run P w=.ok (.enter f args) w') :
  step P (lone (b.atR a (.inRegion ops (i::rest)::k)) cs w)=.next (lone (Frame.enter P f args .normal) (b.atR a (.inRegion ops (i::rest)::k)::cs) w'):=by
 refine step_lone_go ?_;rw[stepGR_op ho hw,Oper.semAt_eq _ _ _ hd];simp_all[stepG.apply,Frame.atR]
theorem H0{l:Nat}{f:FuncId}{tmps:Array Value}{assign body:Code}(ho:ops[i]?=some o)(hw:Region.wanted o (yielded ops a.tmps)=true)(hd:∀c,o.op≠.defer c)
  (hrun:(execOp a.eval o).run P w=.ok (.round l f tmps assign body) w') :
  step P (lone (b.atR a (.inRegion ops (i::rest)::k)) cs w)=.next (lone (Frame.round l f tmps assign body .normal) (b.atR a (.inRegion ops (i::rest)::k)::cs) w'):=by
 refine step_lone_go ?_;rw[stepGR_op ho hw,Oper.semAt_eq _ _ _ hd];simp_all[stepG.apply]
theorem vY{f:FuncId}{args:Array Value}{u:Value}{w₁:World}(ho:ops[i]?=some o)(hw:Region.wanted o (yielded ops a.tmps)=true)(hd:∀c,o.op≠.defer c)
  (hrun:(execOp a.eval o).run P w=.ok (.enter f args) w)
  (hout:Outs P .normal f args (b.atR a (.inRegion ops (i::rest)::k)::cs) w u w₁) :
  Steps P (lone (b.atR a (.inRegion ops (i::rest)::k)) cs w) (lone (b.atR (a.put o.dst u) (.inRegion ops rest::k)) cs w₁):=by
 obtain⟨fr,hs,h1,h2,h3,h4,fn,h5,h6⟩:=hout;have hfin:=Frame.finish_atR b a ops i rest k u;rw[ho]at hfin;simp only[Vc]at hfin;refine .head (HZ ho hw hd hrun) (Steps.trans hs (.one ?_));rw[<-hfin];exact step_leave_returned ⟨h1,h2,h3,fn,by grind,h6⟩
theorem Eo(ho:ops[i]?=some o)(hw:Region.wanted o (yielded ops a.tmps)=true)(hd:∀c,o.op≠.defer c)
  (hrec:P.follows .rangeFuncRecover=true) (hcalm:wc b.kind cs)
  (hrun:(execOp a.eval o).run P w=.ok .recover w) :
  step P (lone (b.atR a (.inRegion ops (i::rest)::k)) cs w)=.next (lone (b.atR (a.put o.dst .nilIface) (.inRegion ops rest::k)) cs w):=by
 have hfin:=Frame.finish_atR b a ops i rest k .nilIface;rw[ho]at hfin;simp only[Vc]at hfin;have htry:tryRecover (b.atR a (.inRegion ops (i::rest)::k)) cs=none:=by
  unfold tryRecover;rcases hcalm with h|⟨h,c,cs',rfl,hm|⟨_,_,_,hm⟩⟩
  all_goals grind[Frame.atR]
 refine step_lone_go ?_;rw[stepGR_op ho hw,Oper.semAt_eq _ _ _ hd,<-hfin];simp only[stepG.apply,Sem.runT_eq,hrun,hrec,if_true,htry];cases hro:(b.atR a (.inRegion ops (i::rest)::k)).roundOf<;>simp[GStep.bare_after]
end
theorem lC{P:Program}{l:Nat}{L:Loop}(h:w.heap[l]?=some (.loop L)):(Instr.getLoop l).run P w=.ok L w:=by simp_all[Instr.getLoop,fJ]
theorem tN{P:Program}{l:Nat}{L:Loop}{o:Obj}(h:w.heap[l]?=some (.loop L)):(setObj l o).run P w=.ok () (World.setBlk w l o) :=
 ii h (by simp)
theorem Rel.setLoop(hr:Rel C A bd w γ hg nx){id nt dfr:Nat}{t:T}{ps:List Nat}{assign body:Code}{st st':LoopState}{pend pend':Option Code}{L:Loop}
  (hid:hg id=.loop nt t ps assign body dfr st pend) (hL:w.heap[(γ id).blk]?=some (.loop L)) :
  Rel C A bd (World.setBlk w (γ id).blk (.loop { L with state:=st',pending:=pend' })) γ (upd hg id (.loop nt t ps assign body dfr st' pend')) nx /\
   Stp w γ (World.setBlk w (γ id).blk (.loop { L with state:=st',pending:=pend' })) γ:=by
 have hob:=hr.obj id;rw[hid]at hob;obtain⟨h1,h2,L',h3,h4,h5,h6,h7,h8,h9,h10,h11,h12⟩:=hob;rw[hL]at h3;injection h3 with h3;injection h3 with h3;subst h3;have hk:(γ id).kind≠0:=by omega
 have s:=uk (w:=w) (o:=.loop { L with state:=st',pending:=pend' }) hk h2;refine hr.setBlk hk h2 ⟨h1,h2,{ L with state:=st',pending:=pend' },?_,rfl,rfl,h6,h7,h8,h9,λi=>(h10 i).step s,h11,h12⟩
 grind[bm]
theorem Q8{g:G}{id:Nat}{o:AObj}(hr:Rel C A bd w' γ' (upd hg id o) nx)(s:Stp w γ w' γ') :
  Fin C A bd w γ hg nx g w' γ' (upd hg id o) (g.put id o):=by
 refine⟨hr.up (UM _ _),s,⟨[id],by simp,λj hj=>?_,λj hj=>?_⟩⟩
 all_goals simp_all[Q_,cQ]
theorem Q7{g:G}{o:AObj}(hr:Rel C A bd w' γ' (upd hg g.nx o) (Nat.max nx (g.nx+1)))(s:Stp w γ w' γ') :
  Fin C A bd w γ hg nx g w' γ' (upd hg g.nx o) (g.new o):=by
 refine⟨by simp_all,s,⟨[g.nx],by simp,λj hj=>?_,λj hj=>?_⟩⟩
 all_goals simp_all[Q_,cQ]
end
end Hx
end
section
namespace Hx
open Go
section
variable {C:Cfg}{A:Nat->Nat->Prop}{bd:Nat}{w w':World}{γ γ':Gm}{hg:Nat->AObj}{nx:Nat}
variable {t:T}{g:G}{ih:IH}
def Agr(lk:Looks)(g:G)(hg:Nat->AObj):Prop :=
 if lk.big then Ext g.h hg else ∀id∈lk.rd++lk.sr.map (·.1),g.h.get id≠.none->hg id=g.h.get id
theorem Ext.agr{lk:Looks}(h:Ext g.h hg):Agr lk g hg:=by
 unfold Agr
 split
 ·exact h
 ·exact λid _ hne=>h id hne
theorem Ca{nt:Nat}:∀{ps:List Nat} {xs:List AV} {us:List Value} {t t':T} {tmps:Array Value},cV t nt ps xs=some t'->TR w γ A bd nt t tmps->RVs w γ A bd xs us ->
  ps.length=us.length/\TR w γ A bd nt t' ((ps.zip us).foldl (λtmps (t,a)=>tmps.setIfInBounds t a) tmps):=by
 intro ps
 induction ps with
 | nil =>
  intro xs us t t' tmps h ht hv;cases xs with
  | nil =>
   simp only[cV]at h;injection h with h;subst h;have:us=[]:=List.length_eq_zero_iff.1 hv.1.symm;simp_all
  |cons x xs=>grind[cV]
 | cons p ps ih =>
  intro xs us t t' tmps h ht hv;cases xs with
  |nil=>grind[cV]
  | cons x xs =>
   cases us with
   |nil=>have:=hv.1;grind
   | cons u us =>
    simp only[cV,aa]at h
    split at h
    ·rename_i hp;rw[UF]at hp;have h0:RV w γ A bd x u:=hv.2 0 x u rfl rfl;have hrest:RVs w γ A bd xs us:=⟨by have:=hv.1;grind,λi x' u' hx hu=>hv.2 (i+1) x' u' (by grind) (by grind)⟩;have ht':TR w γ A bd nt ((sp AV.undef p).run t x) (tmps.setIfInBounds p u):=by
      refine⟨by simp[ht.1],λi=>?_⟩;rw[sp_get]
      by_cases hi:i=p
      ·subst hi;rw[TE rfl];have:i<tmps.size:=by rw[ht.1];exact hp
       simp_all
      ·rw[TF hi];have:=ht.2 i;simp_all[UP]
     obtain⟨a1,a2⟩:=ih h ht' hrest<;>simp_all
    grind
theorem KI(hi:IHOk C ih)(hr:Rel C A bd w γ hg nx)(hx:Ext g.h hg)(hwf:WF g){id:Nat}{args:List AV}{vs:List Value}
  (hk:(γ id).kind=3) (hv:RVs w γ A bd args vs) {r:OR} (h:cz ih (bd+1) id args g=r) (hne:r≠.fail) (hf:Free γ g (gOf g r)) (c:Frame) (cs:List Frame) :
  ∃f tmps assign body,(Instr.yield (γ id).blk vs.toArray).run C.P w=.ok (.round (γ id).blk f tmps assign body) w /\
   ∃u w' γ' hg',Fin C A bd w γ hg nx g w' γ' hg' (gOf g r)/\RV w' γ' A bd (vOf r) u /\
    Steps C.P (lone (Frame.round (γ id).blk f tmps assign body .normal) (c::cs) w) (lone (c.finish u) cs w'):=by
 unfold cz at h
 split at h
 rotate_left
 ·grind
 rename_i nt t0 ps assign bodyX dfr0 st0 pend0 hget;have hget:g.h.get id=.loop nt t0 ps assign bodyX dfr0 st0 pend0:=by simp_all
 have hid:hg id=.loop nt t0 ps assign bodyX dfr0 st0 pend0:=by rw[hx id (by grind),hget]
 have hob:=hr.obj id;rw[hid]at hob;obtain⟨k1,k2,L,k3,k4,k5,k6,k7,k8,k9,k10,k11,k12⟩:=hob
 split at h
 ·grind
 rename_i t' hset;have ht0:TR w γ A bd nt t0 L.tmps:=⟨k9,k10⟩;obtain⟨hlen,ht'⟩:=Ca hset ht0 hv
 split at h
 rotate_left
 ·grind
 rename_i t1 g1 h1
 split at h
 rotate_left
 ·grind
 rename_i nt1 t2 ps2 assign2 body1 dfr pend hget1;have hget1:g1.h.get id=.loop nt1 t2 ps2 assign2 body1 dfr .ready pend:=by simp_all
 split at h
 rotate_left
 ·grind
 rename_i e t3 g2 h2
 split at h
 rotate_left
 ·grind
 rename_i nt3 t4 ps4 assign4 body4 dfr4 st4 pend4 hget2;have hget2:g2.h.get id=.loop nt3 t4 ps4 assign4 body4 dfr4 st4 pend4:=by simp_all
 have m1:=hi.mon.code _ _ _ _ _ _ _ _ _ _ _ h1 hwf;have w1:WF g1:=m1.wf hwf;have m2:Mon g1 (g1.put id (.loop nt1 t2 ps2 assign2 body1 dfr .busy pend)):=Mon.put w1 (by grind);have w2:=m2.wf w1;have m3:=hi.mon.code _ _ _ _ _ _ _ _ _ _ _ h2 w2;have w3:=m3.wf w2;have m4:∀o,Mon g2 (g2.put id o):=λo=>Mon.put w3 (by grind);have hnx:(gOf g r).nx=g2.nx:=by subst h;cases e<;>simp[gOf]
 have hfree2:Free γ g g2:=λi a b=>hf i a (by omega)
 let bR:Frame:={ (default:Frame) with fn:=L.fn,kind:=.normal,roundOf:=some (γ id).blk }
 let tmps:=(L.params.zip vs.toArray).foldl (λtmps (t,a)=>tmps.setIfInBounds t a) L.tmps
 have htm:tmps=(ps.zip vs).foldl (λtmps (t,a)=>tmps.setIfInBounds t a) L.tmps:=by
  grind[Array.toList_zip]
 have hyield:(Instr.yield (γ id).blk vs.toArray).run C.P w=.ok (.round (γ id).blk L.fn tmps assign bodyX) w:=by
  unfold Instr.yield;have hs:vs.toArray.size=L.params.size:=by grind
  simp only[T0,lC k3,TN,hs,ne_eq,not_true_eq_false,if_false,k7,k8]
  rfl
 have hframe:Frame.round (γ id).blk L.fn tmps assign bodyX .normal=bR.atR { tmps:=tmps,defers:=[] } [.code assign,.beginRound,.code bodyX]:=by
  grind[Frame.round,Frame.atR]
 obtain⟨a1,wa,γa,hga,f1,tr1,dr1,ar1⟩:=hi.code _ _ _ _ _ _ _ _ _ _ _ h1 A w γ hg nx bR { tmps:=tmps,defers:=[] } [.beginRound,.code bodyX] (c::cs) hr hx hwf
  (hfree2.le (TU m2.nx m3.nx)) (by grind) trivial ⟨hk,rfl⟩ (.inl rfl)
 have hxa:Ext g1.h hga:=f1.ext m1 hx;have hida:hga id=.loop nt1 t2 ps2 assign2 body1 dfr .ready pend:=by rw[hxa id (by grind),hget1]
 have hka:(γ id).kind≠0:=by omega
 have hblka:(γa id).blk=(γ id).blk:=f1.stp.blk_eq hka (by omega);have hobA:=f1.rel.obj id;rw[hida]at hobA;obtain⟨ka1,ka2,La,ka3,ka4,ka5,ka6,ka7,ka8,ka9,ka10,ka11,ka12⟩:=hobA;have hsetA:=f1.rel.setLoop (st':=.busy) (pend':=pend) hida ka3;rw[hblka]at ka3 hsetA;have hbegin:(Instr.beginRound (γ id).blk).run C.P wa=.ok () (World.setBlk wa (γ id).blk (.loop { La with state:=.busy,pending:=pend })):=by simp_all[Instr.beginRound,lC,tN]
 have f2:Fin C A bd wa γa hga (Nat.max nx g1.nx) g1 _ γa _ (g1.put id (.loop nt1 t2 ps2 assign2 body1 dfr .busy pend)):=Q8 hsetA.1 hsetA.2;have f12:=f1.trans f2 m1 m2;obtain⟨a2,wb,γb,hgb,f3,tr3,dr3,ar3⟩:=hi.code _ _ _ _ _ _ _ _ _ _ _ h2 A _ γa _ (Nat.max nx (g1.put id (.loop nt1 t2 ps2 assign2 body1 dfr .busy pend)).nx) bR a1 [] (c::cs) f12.rel (f12.ext (m1.trans m2) hx) w2
  (f12.freed hr (m1.trans m2) hfree2) (tr1.step hsetA.2) (by
   grind[DR.step]) ⟨by omega,by grind⟩ (.inl rfl)
 have f123:=f12.trans f3 (m1.trans m2) m3;have hxb:Ext g2.h hgb:=f123.ext ((m1.trans m2).trans m3) hx;have hidb:hgb id=.loop nt3 t4 ps4 assign4 body4 dfr4 st4 pend4:=by rw[hxb id (by grind),hget2]
 have hblkb:(γb id).blk=(γ id).blk:=f123.stp.blk_eq hka (by omega);have hobB:=f123.rel.obj id;rw[hidb]at hobB;obtain⟨kb1,kb2,Lb,kb3,kb4,kb5,kb6,kb7,kb8,kb9,kb10,kb11,kb12⟩:=hobB;have hsetB:=λst' pend'=>f123.rel.setLoop (st':=st') (pend':=pend') hidb kb3;rw[hblkb]at kb3 hsetB;have hend:∀jump,(Instr.endRound (γ id).blk jump).run C.P wb=.ok (.bool jump.isNone) (World.setBlk wb (γ id).blk (.loop { Lb with state:=if jump.isNone then .ready else .done,pending:=jump })):=by simp_all[Instr.endRound,lC,tN]
 refine⟨L.fn,tmps,assign,bodyX,hyield,?_⟩;rw[hframe];have sbegin:Steps C.P (lone (bR.atR { tmps:=tmps,defers:=[] } [.code assign,.beginRound,.code bodyX]) (c::cs) w) (lone (bR.atR a1 [.code bodyX]) (c::cs) (World.setBlk wa (γ id).blk (.loop { La with state:=.busy,pending:=pend }))) :=
  Steps.trans ar1 (.one (stepR_beginRound rfl hbegin))
 have fin:∀(jump:Option Code) (st':LoopState),st'=(if jump.isNone then .ready else .done) ->
   Fin C A bd w γ hg nx g (World.setBlk wb (γ id).blk (.loop { Lb with state:=st',pending:=jump })) γb (upd hgb id (.loop nt3 t4 ps4 assign4 body4 dfr4 st' jump)) (g2.put id (.loop nt3 t4 ps4 assign4 body4 dfr4 st' jump)):=by
  grind[Fin.trans,Q8,Mon.trans]
 subst h;cases e with
 |norm=>exact⟨.bool true,_,γb,_,fin none .ready rfl,.bool _ _,Steps.trans sbegin (Steps.trans ar3 (.one (stepR_round_end rfl rfl (hend none))))⟩
 | exit j =>
  obtain⟨k₁,hk₁,har⟩:=ar3;exact⟨.bool false,_,γb,_,fin (some (.exit j)) .done rfl,.bool _ _,Steps.trans sbegin (Steps.trans har (.one (stepR_round_exit rfl rfl (by rw[hk₁];rfl) (by grind))))⟩
 | ret =>
  obtain⟨k₁,har⟩:=ar3;exact⟨.bool false,_,γb,_,fin (some .ret) .done rfl,.bool _ _,Steps.trans sbegin (Steps.trans har (.one (stepR_round_ret rfl rfl (hend (some .ret)))))⟩
noncomputable def Pp(C:Cfg)(fv:AV)(as:List AV)(g:G):Looks :=
 match fv with
 |.clo f first cap=>aA ((C.ext f).isSome || C.iso f) (ae ((first++(as++cap)).flatMap (aC g.h aD))) bf
 |_=>bf
theorem N2(h:Agr bf g hg):Ext g.h hg:=h
section
variable {b:Frame}{a:Act}{ops:Array Oper}{i:Nat}{rest:List Nat}{k:List Item}{cs:List Frame}{o:Oper}
theorem Co(hC:CfgOk C)(hi:IHOk C ih)(hr:Rel C A bd w γ hg nx)(hwf:WF g){fv:AV}{v:Value}{as:List AV}{vs:List Value}
  (hfv:RV w γ A bd fv v) (has:RVs w γ A bd as vs) (hag:Agr (Pp C fv as g) g hg)
  {r:OR} (h:io C ih (bd+1) fv as g=r) (hne:r≠.fail) (hf:Free γ g (gOf g r))
  (ho:ops[i]?=some o) (hw:Region.wanted o (yielded ops a.tmps)=true) (hd:∀c,o.op≠.defer c)
  (hexec:(execOp a.eval o).run C.P w=(do let d <-Deferred.ofValue v vs.toArray;invoke d.target d.args:Sem Next).run C.P w) :
  ∃u w' γ' hg',Fin C A bd w γ hg nx g w' γ' hg' (gOf g r)/\RV w' γ' A bd (vOf r) u /\
   Steps C.P (lone (b.atR a (.inRegion ops (i::rest)::k)) cs w) (lone (b.atR (a.put o.dst u) (.inRegion ops rest::k)) cs w'):=by
 cases hfv with
 | clo _ f xs ys vs1 us1 hl hl2 h1 h2 =>
  have hall:RVs w γ A bd (xs++(as++ys)) (vs1.toList++(vs++us1.toList)):=(Rc hl h1).append (has.append (Rc hl2 h2));have harr:(vs1.toList++(vs++us1.toList)).toArray=(vs1++vs.toArray)++us1:=by grind
  have henter:Enters C.P f->(execOp a.eval o).run C.P w=.ok (.enter f ((vs1++vs.toArray)++us1)) w:=by intro he;rw[hexec];simp only[Deferred.ofValue,invoke,T0,UT,TN];exact he _ _
  simp only[io]at h;simp only[Pp]at hag;cases hext:C.ext f with
  | some e =>
   simp only[hext]at h hag;have hx:∀id∈(xs++(as++ys)).flatMap (aC g.h aD),g.h.get id≠.none->hg id=g.h.get id:=by simp_all[ae,Agr]
   have hs:=hC.ext f e hext;subst h;obtain⟨u,w',γ',hg',f1,rv,out⟩:=hs A bd w γ hg nx g _ _ hr hwf hx hf hall hne (b.atR a (.inRegion ops (i::rest)::k)::cs)
   grind[Steps.one,Bi,Deferred.ofValue,invoke,vY]
  | none =>
   simp only[hext]at h hag;cases hiso:C.iso f with
   | true =>
    simp only[hiso]at h hag;have hx:∀id∈(xs++(as++ys)).flatMap (aC g.h aD),g.h.get id≠.none->hg id=g.h.get id:=by
     grind[ae,Agr]
    subst h;obtain⟨he,u,w',γ',hg',f1,rv,out⟩:=yE hi.call hi.mon.call hr hx hall hne (b.atR a (.inRegion ops (i::rest)::k)::cs)
    grind[vY]
   | false =>
    simp only[hiso]at h hag;have hx:Ext g.h hg:=hag;cases hcall:ih.call (bd+1) f (xs++(as++ys)) g with
    | fail =>
     rw[hcall]at h;exact absurd h.symm hne
    | ok rv0 g1 =>
     rw[hcall]at h;have h:OR.upd rv0 g1=r:=h;subst h;obtain⟨he,hs⟩:=hi.call _ _ _ _ _ _ hcall;obtain⟨u,w',γ',hg',f1,rv,out⟩:=hs A w γ hg nx _ hr hx hwf hf hall .normal (b.atR a (.inRegion ops (i::rest)::k)::cs) (.inl rfl);rw[harr]at out;exact⟨u,w',γ',hg',f1,rv,vY ho hw hd (henter he) out⟩
 | yld _ id bl hk hb =>
  subst hb;simp only[io]at h;have hx:Ext g.h hg:=N2 hag;obtain⟨f,tmps,assign,body,hy,u,w',γ',hg',f1,rv,st⟩:=KI hi hr hx hwf hk has h hne hf (b.atR a (.inRegion ops (i::rest)::k)) cs;have hfin:=Frame.finish_atR b a ops i rest k u;rw[ho]at hfin;simp only[Vc]at hfin;rw[hfin]at st;refine⟨u,w',γ',hg',f1,rv,.head (H0 ho hw hd ?_) st⟩<;>grind[Deferred.ofValue,invoke]
 |_=>exact absurd h.symm hne
theorem HB(hC:CfgOk C)(hi:IHOk C ih)(hr:Rel C A bd w γ hg nx)(hwf:WF g){nt:Nat}{rd:Option Nat}(ht:TR w γ A bd nt t a.tmps)(hcalm:wc b.kind cs)
  (hag:Agr ((aP C o.op).run t g) g hg) {r:OR} (h:(cB C o.op).run ih (bd+1) rd t g=r) (hne:r≠.fail) (hnd:∀x,r≠.dfr x) (hf:Free γ g (gOf g r))
  (ho:ops[i]?=some o) (hw:Region.wanted o (yielded ops a.tmps)=true) :
  ∃u w' γ' hg',Fin C A bd w γ hg nx g w' γ' hg' (gOf g r)/\RV w' γ' A bd (vOf r) u /\
   Steps C.P (lone (b.atR a (.inRegion ops (i::rest)::k)) cs w) (lone (b.atR (a.put o.dst u) (.inRegion ops rest::k)) cs w'):=by
 have hm:Mon g (gOf g r):=by grind[mX,CfgOk.mon,IHOk.mon]
 unfold cB at h
 split at h
 rotate_left
 ·grind
 rename_i f hcop;generalize hop:o.op=op at hcop hag;have hargs:∀(args:Array Operand),(args.toList.map a.eval).toArray=args.map a.eval:=λargs=>by grind
 unfold cOp at hcop
 split at hcop
 ·
  rename_i fx args at2;have hd:∀c,o.op≠.defer c:=by grind
  split at hcop
  ·rename_i vs hvs;simp only[aP,aW,hvs]at hag;refine Co (fv:=.clo fx [] []) (v:=.func (.func fx) #[] #[]) (as:=vs.run t) hC hi hr hwf (.clo _ fx [] [] #[] #[] rfl rfl (by grind) (by grind)) (jC ht hr hvs) hag ?_ hne hf ho hw hd ?_
   ·rw[<-h];simp only[io,TL,TZ]
    split at hcop
    ·rename_i e he;injection hcop with hcop;subst hcop;rfl
    ·rename_i he;rw[aa]at hcop
     split at hcop
     ·rename_i hiso;injection hcop with hcop;subst hcop;simp_all
     ·rename_i hiso;injection hcop with hcop;subst hcop;simp_all
   grind[execOp,resolve,Act.eval]
  grind
 ·
  rename_i fo args at2 hnf;have hd:∀c,o.op≠.defer c:=by grind
  split at hcop
  ·rename_i fv vs hfv hvs;injection hcop with hcop;subst hcop;simp only[aP,hfv,hvs]at hag;refine Co (fv:=fv.run t) (v:=a.eval fo) (as:=vs.run t) hC hi hr hwf (aF hfv ht hr) (jC ht hr hvs) hag h hne hf ho hw hd ?_
   grind[execOp,resolve]
  grind
 ·
  have hd:∀c,o.op≠.defer c:=by grind
  injection hcop with hcop;subst hcop;subst h;refine⟨.nilIface,w,γ,hg,Fin.refl hr,.nili _,.one (Eo ho hw hd hC.recov hcalm ?_)⟩;simp only[execOp,hop,resolve,invoke,T0,UT,TN]
  rfl
 ·
  split at hcop
  ·injection hcop with hcop;subst hcop
   grind
  grind
 ·
  split at hcop
  ·rename_i s hs;injection hcop with hcop;subst hcop;have hd:∀c,o.op≠.defer c:=by rw[hop];rintro c rfl;grind[cx]
   have hlook:∀id∈bC C op t g,hg id=g.h.get id:=by
    intro id hid;have hn:g.h.get id≠.none:=λhn=>hne (by grind[Gx]);unfold Agr at hag
    split at hag
    ·exact hag id hn
    ·exact hag id hid hn
   have hsim:=O0 hs hop ht hr (hf g.nx (Tp _) hm.nx) hlook;have h:s.run t g=r:=h;rw[h]at hsim;cases r with
   |fail=>grind
   | val x =>
    obtain⟨v,h1,h2⟩:=hsim;exact⟨v,w,γ,hg,Fin.refl hr,h2,vX ho hw hd h1⟩
   | upd x g' =>
    obtain⟨v,w',γ',id,ob,h1,h2,h3,h4⟩:=hsim;rcases h4 with⟨rfl,h4⟩|⟨rfl,rfl,h4⟩
    ·exact⟨v,w',γ',_,Q8 h4 h3,h2,vX ho hw hd h1⟩
    ·exact⟨v,w',γ',_,Q7 h4 h3,h2,vX ho hw hd h1⟩
   |dfr x=>grind
  grind
end
end
end Hx
end
section
namespace Hx
open Go
section
variable {K V:Type}
open Classical in
noncomputable def ov(S:Nat->Prop)(wr:Nat->K->Prop)(val:Nat->K->V)(base:K->V):Nat->K->V
 |0,k=>base k
 |i+1,k=>if S i/\wr i k then val (i+1) k else ov S wr val base i k
variable {S S':Nat->Prop}{wr:Nat->K->Prop}{val:Nat->K->V}{base:K->V}{k:K}
theorem MY{n:Nat}(h:∀j,j<n->wr j k->(S j↔S' j)):ov S wr val base n k=ov S' wr val base n k:=by
 induction n with
 |zero=>rfl
 | succ n ih =>
  simp only[ov]
  grind
theorem AY{n m:Nat}(hm:m<=n)(h:∀j,m<=j->j<n->S j->¬wr j k):ov S wr val base n k=ov S wr val base m k:=by
 induction n with
 |zero=>grind
 | succ n ih =>
  by_cases hmn:m=n+1
  ·grind
  ·simp only[ov]
   grind
theorem MW{n i:Nat}(hi:i<n)(hw:wr i k)(h:∀j,i<j->j<n->S j->¬wr j k):ov (λj=>S j\/j=i) wr val base n k=val (i+1) k:=by
 rw[AY (m:=i+1) (by omega) (λj h1 h2 h3=>by
  grind)]
 grind[ov]
theorem Ea{n i:Nat}(hw:¬wr i k):ov (λj=>S j\/j=i) wr val base n k=ov S wr val base n k:=by refine MY λj _ hj=>?_<;>grind
theorem MX{n i:Nat}(hi:i<=n)(keep:∀j,j<n->¬wr j k->val (j+1) k=val j k)(h:∀j,j<n->wr j k->(S j↔j<i)) :
  ((∃j,j<i/\wr j k)/\ov S wr val base n k=val i k)\/((∀j,j<i->¬wr j k)/\ov S wr val base n k=base k/\val i k=val 0 k):=by
 rw[AY hi (λj h1 h2 h3 h4=>by grind)];have key:∀m,m<=i->((∃j,j<m/\wr j k)/\ov S wr val base m k=val m k)\/((∀j,j<m->¬wr j k)/\ov S wr val base m k=base k/\val m k=val 0 k):=by
  intro m
  induction m with
  |zero=>intro _;exact .inr ⟨(by grind),rfl,rfl⟩
  | succ m ih =>
   intro hm
   by_cases hw:wr m k
   ·left;refine⟨(by grind),?_⟩;simp only[ov]
    grind
   ·simp only[ov]
    grind
 grind
end
theorem yh(es:List Edge)(acc:List Nat):∀(m i:Nat),
  (es.foldl (λm e=>aA (Region.binds .any e) (m ||| 2 ^ e.on ||| acc.getD e.on 0) m) m).testBit i=true ->
  m.testBit i=true\/∃e∈es,Region.binds .any e=true/\(e.on=i\/(acc.getD e.on 0).testBit i=true):=by
 induction es with
 |nil=>grind
 | cons e es ih =>
  intro m i h;simp only[VI]at h;rcases ih _ i h with h|⟨e',h1,h2,h3⟩
  ·rw[aa]at h
   grind
  grind
theorem A5{S:Nat->Prop}{all:List Oper}(hS:∀j o,all[j]?=some o->S j->∀e∈o.after.toList,Region.binds .any e=true->S e.on) :
  ∀(ops:List Oper) (acc:List Nat) (pre:List Oper),all=pre++ops->pre.length=acc.length->(∀j i,(acc.getD j 0).testBit i=true->S j->S i) ->
   ∀j i,((bJ ops acc).getD j 0).testBit i=true->S j->S i:=by
 intro ops
 induction ops with
 |nil=>intro acc pre _ _ h;exact h
 | cons o rest ih =>
  intro acc pre hall hlen h;simp only[bJ];refine ih _ (pre++[o]) (by grind) (by grind) λj i hj hSj=>?_
  by_cases hlt:j<acc.length
  ·grind
  ·by_cases hje:j=acc.length
   ·subst hje;rw[Vf,TB (Tp _)]at hj;simp only[UB,List.getElem?_cons_zero,Tq]at hj;have ho:all[acc.length]?=some o:=by grind
    rcases yh _ acc _ _ hj with h0|⟨e,h1,h2,h3⟩<;>grind
   grind
theorem xx{α:Type}{f:Nat->α->Nat->α->Bool}{i:Nat}{x:α}:∀{l:List α} {j0:Nat},fU f i x j0 l=true->∀(j:Nat) y,l[j]?=some y->f i x (j0+j) y=true:=by
 intro l
 induction l with
 |nil=>grind
 | cons a l ih =>
  intro j0 h j y hy;simp only[fU,Ts]at h;cases j<;>grind
theorem wi{α:Type}{f:Nat->α->Nat->α->Bool}:∀{l:List α} {i0:Nat},kX f i0 l=true->∀(i j:Nat) x y,i<j->l[i]?=some x->l[j]?=some y->f (i0+i) x (i0+j) y=true:=by
 intro l
 induction l with
 |nil=>grind
 | cons a l ih =>
  intro i0 h i j x y hij hx hy;simp only[kX,Ts]at h;cases j with
  |zero=>omega
  | succ j =>
   cases i<;>grind[xx]
theorem BI:∀{l:List Oper} {i0:Nat},pH i0 l=true->∀(i:Nat) o,l[i]?=some o->∀e∈o.after.toList,Region.binds .any e=true->e.on<i0+i:=by
 intro l
 induction l with
 |nil=>grind
 | cons a l ih =>
  intro i0 h i o ho e he hb;simp only[pH,Ts]at h;cases i with
  | zero =>
   simp at ho;subst ho;have:=TC.1 h.1 e he;simp_all
  | succ i =>
   grind
theorem Ay{pm:List Nat}:∀{l:List Oper} {i0:Nat},nG pm i0 l=true->∀(i:Nat) o,l[i]?=some o->∀j b,o.guard=some (j,b)->(pm.getD (i0+i) 0).testBit j=true:=by
 intro l
 induction l with
 |nil=>grind
 | cons a l ih =>
  intro i0 h i o ho j b hg;simp only[nG,Ts]at h;cases i<;>grind
def cnt(p:Nat->Bool):Nat->Nat
 |0=>0
 |n+1=>cnt p n+(if p n then 1 else 0)
theorem Lx{p:Nat->Bool}:∀{n:Nat},cnt p n=0->∀i,i<n->p i=false:=by
 intro n
 induction n<;>grind[cnt]
theorem PS{p q:Nat->Bool}(h:∀i,q i=true->p i=true):∀{n i:Nat},i<n->p i=true->q i=false->cnt q n<cnt p n:=by
 have hle:∀n,cnt q n<=cnt p n:=by
  intro n
  induction n with
  |zero=>exact Tp _
  | succ n ih =>
   grind[cnt]
 intro n
 induction n<;>grind[cnt]
end Hx
end
section
namespace Hx
open Go
section
variable {C:Cfg}{t t':T}{g:G}{ih:IH}
theorem G0{x:Operand}{s:Stg (T->AV)}(h:aW C x=some s)(hx:∀n,x=.tmp n->t.get AV.undef n=t'.get AV.undef n):s.run t=s.run t':=by
 cases x with
 |tmp n=>simp[aW]at h;subst h;simp_all
 | const v =>
  simp only[aW]at h
  split at h
  ·injection h with h;subst h;rfl
  grind
 | global gl =>
  simp only[aW]at h
  split at h
  ·injection h with h;subst h;rfl
  grind
 |func f=>simp[aW]at h;subst h;rfl
def Cf(C:Cfg)(t t':T)(xs:List Operand):Prop:=∀x∈xs,∀s,aW C x=some s->s.run t=s.run t'
theorem cS:∀{xs:List Operand} {vs:Stg (T->List AV)},cg C xs=some vs->Cf C t t' xs->vs.run t=vs.run t':=by
 intro xs
 induction xs with
 |nil=>simp_all[cg]
 | cons x xs ih =>
  intro vs h hx;simp only[cg]at h
  split at h
  ·rename_i a as h1 h2;injection h with h;subst h;simp only[hx x List.mem_cons_self a h1,ih h2 λy hy=>hx y (List.mem_cons_of_mem _ hy)]
  grind
variable {op:Op}{f:Stg SFn}
theorem zO{b:Builtin}{argTypes:Array TypeId}{args:List Operand}(h:dt C b argTypes args=some f)(hx:Cf C t t' args):f.run t g=f.run t' g:=by
 unfold dt at h
 split at h
 ·split at h
  ·rename_i s _ hs;injection h with h;subst h;simp only[hx _ (by simp) _ hs]
  grind
 ·split at h
  ·rename_i sa sx _ _ ha hb;have e1:=hx _ (by simp) _ ha;have e2:=hx _ (by simp) _ hb
   repeat' (first|split at h| (rw[aa]at h;split at h))
   all_goals first| (cases h;done)| (injection h with h;subst h;grind)
  grind
 ·split at h
  ·rename_i sa sx _ ha hb;have e1:=hx _ (by simp) _ ha;have e2:=hx _ (by simp) _ hb
   repeat' (first|split at h)
   all_goals first| (cases h;done)| (injection h with h;subst h;grind)
  grind
 ·split at h
  ·rename_i s _ hs;have e1:=hx _ (by simp) _ hs
   repeat' (first|split at h)
   all_goals first| (cases h;done)| (injection h with h;subst h;grind)
  grind
 ·split at h
  ·rename_i s _ hs;have e1:=hx _ (by simp) _ hs
   repeat' (first|split at h| (rw[aa]at h;split at h))
   all_goals first| (cases h;done)| (injection h with h;subst h;grind)
  grind
 ·split at h
  ·rename_i sa sx ha hb;injection h with h;subst h;simp only[hx _ (by simp) _ ha,hx _ (by simp) _ hb]
  grind
 ·split at h
  ·rename_i sa sx ha hb;injection h with h;subst h;simp only[hx _ (by simp) _ ha,hx _ (by simp) _ hb]
  grind
 grind
theorem G2(h:cx C op=some f)(hx:Cf C t t' op.operands.toList):f.run t g=f.run t' g:=by
 cases op<;>simp only[cx]at h<;>first| (cases h;done)|skip
 case call c =>
  obtain⟨callee,args,argTypes⟩:=c;cases callee<;>first| (cases h;done)|skip<;>grind[zO,Op.operands,Call.operands]
 case move x =>
  split at h
  ·rename_i s hs;injection h with h;subst h;simp only[hx _ (by simp[Op.operands]) _ hs]
  grind
 case assign x =>
  split at h
  ·rename_i s hs;injection h with h;subst h;simp only[hx _ (by simp[Op.operands]) _ hs]
  grind
 case pick c x y =>
  split at h
  ·rename_i sc sx sy hc h1 h2;injection h with h;subst h;simp only[hx _ (by simp[Op.operands]) _ hc,hx _ (by simp[Op.operands]) _ h1,hx _ (by simp[Op.operands]) _ h2]
  grind
 case alloc ty =>
  split at h
  ·injection h with h;subst h;rfl
  grind
 case box ty x =>
  split at h
  ·rename_i s hs;injection h with h;subst h;simp only[Ln,hx _ (by simp[Op.operands]) _ hs]
  grind
 case load ty x =>
  split at h
  ·rename_i s ag n hs hag hn;injection h with h;subst h;simp only[mz,hx _ (by simp[Op.operands]) _ hs]
  grind
 case store ty x y =>
  split at h
  ·rename_i s u n hs hu hn;injection h with h;subst h;simp only[pw,hx _ (by simp[Op.operands]) _ hs,hx _ (by simp[Op.operands]) _ hu]
  grind
 case binOp op ty x y p =>
  split at h
  ·rename_i s u hs hu;injection h with h;subst h;simp only[hx _ (by simp[Op.operands]) _ hs,hx _ (by simp[Op.operands]) _ hu]
  grind
 case unOp op ty x =>
  split at h
  ·rename_i s hs;injection h with h;subst h;simp only[hx _ (by simp[Op.operands]) _ hs]
  grind
 case convert src dst x =>
  split at h
  ·rename_i s sd k hs hsrc hk;injection h with h;subst h;simp only[hx _ (by simp[Op.operands]) _ hs]
  grind
 case nilCheck x =>
  split at h
  ·rename_i s hs;injection h with h;subst h;simp only[hx _ (by simp[Op.operands]) _ hs]
  grind
 case makeInterface ty x =>
  split at h
  ·cases h
  ·rename_i s d hne hs hu;injection h with h;subst h;simp only[hx _ (by simp[Op.operands]) _ hs]
  grind
 case makeSlice ty l c =>
  split at h
  ·rename_i e sl sc he hl hc
   split at h
   ·rw[aa]at h
    split at h
    ·injection h with h;subst h;simp only[ic,hx _ (by simp[Op.operands]) _ hl,hx _ (by simp[Op.operands]) _ hc]
    grind
   grind
  grind
 case fieldAddr ty x fi =>
  split at h
  ·rename_i s fo ft hs hfi
   split at h
   ·injection h with h;subst h;simp only[kh,hx _ (by simp[Op.operands]) _ hs]
   grind
  grind
 case field ty x fi =>
  split at h
  ·rename_i s fo ft hs hfi
   split at h
   ·injection h with h;subst h;simp only[hx _ (by simp[Op.operands]) _ hs]
   grind
  grind
 case indexAddr ty x ix =>
  split at h
  ·rename_i s i hs hi
   split at h
   ·split at h
    ·injection h with h;subst h;simp only[gN,hx _ (by simp[Op.operands]) _ hs,hx _ (by simp[Op.operands]) _ hi]
    grind
   ·split at h
    ·injection h with h;subst h;simp only[nH,hx _ (by simp[Op.operands]) _ hs,hx _ (by simp[Op.operands]) _ hi]
    grind
   grind
  grind
 case index ty x ix =>
  split at h
  ·rename_i s i hs hi
   split at h
   ·split at h
    ·injection h with h;subst h;simp only[vL,hx _ (by simp[Op.operands]) _ hs,hx _ (by simp[Op.operands]) _ hi]
    ·cases h
   ·injection h with h;subst h;simp only[qb,hx _ (by simp[Op.operands]) _ hs,hx _ (by simp[Op.operands]) _ hi]
   ·cases h
  grind
 case lookup ty x k ok =>
  split at h
  ·rename_i m kk kt et hm hk hu
   split at h
   ·injection h with h;subst h;simp only[cp,hx _ (by simp[Op.operands]) _ hm,hx _ (by simp[Op.operands]) _ hk]
   grind
  grind
 case mapUpdate ty m k x =>
  split at h
  ·rename_i sm sk sx kt et hm hk hx' hu;injection h with h;subst h;simp only[ck,hx _ (by simp[Op.operands]) _ hm,hx _ (by simp[Op.operands]) _ hk,hx _ (by simp[Op.operands]) _ hx']
  grind
 case insert ty m k x =>
  split at h
  ·rename_i sm sk sx kt et hm hk hx' hu;injection h with h;subst h;simp only[ck,hx _ (by simp[Op.operands]) _ hm,hx _ (by simp[Op.operands]) _ hk,hx _ (by simp[Op.operands]) _ hx']
  grind
 case mapEntry ty m k =>
  split at h
  ·rename_i sm sk kt et hm hk hu
   split at h
   ·injection h with h;subst h;simp only[fZ,hx _ (by simp[Op.operands]) _ hm,hx _ (by simp[Op.operands]) _ hk]
   grind
  grind
 case entryStore ty m st x =>
  split at h
  ·rename_i sm ss sx hm hs hx';injection h with h;subst h;simp only[ip,hx _ (by simp[Op.operands]) _ hm,hx _ (by simp[Op.operands]) _ hs,hx _ (by simp[Op.operands]) _ hx']
  grind
 case extract x i =>
  split at h
  ·rename_i s hs;injection h with h;subst h;simp only[hx _ (by simp[Op.operands]) _ hs]
  grind
 case makeMap ty r =>
  cases r with
  |some r=>cases h
  | none =>
   dsimp only at h
   split at h
   ·injection h with h;subst h;rfl
   grind
 case makeFunc fn fi ca =>
  cases fn with
  | func fx =>
   dsimp only at h
   split at h
   ·rename_i sa sc ha hc;injection h with h;subst h;have e1:=cS (t:=t) (t':=t') ha λx hm=>hx x (by grind[Op.operands]);have e2:=cS (t:=t) (t':=t') hc λx hm=>hx x (by grind[Op.operands])
    grind
   grind
  |_=>cases h
 case buildSlice ty len parts =>
  split at h
  ·rename_i e vs he hvs;have e1:=cS (t:=t) (t':=t') hvs λx hm=>hx x (by grind[Op.operands])
   split at h
   ·rw[aa]at h
    split at h
    ·injection h with h;subst h;grind[il]
    grind
   grind
  grind
 case build ty parts =>
  split at h
  ·rename_i zero vs hz hvs;have e1:=cS (t:=t) (t':=t') hvs λx hm=>hx x (by grind[Op.operands])
   split at h
   ·split at h
    ·split at h
     ·injection h with h;subst h;simp only[oO,e1]
     ·cases h
    ·cases h
   ·split at h
    ·injection h with h;subst h;simp only[oO,e1]
    ·cases h
   ·cases h
  grind
 case slice ty x lo hi mx =>
  have optR:∀{y:Option Operand} {s:Stg (T->List AV)},(∀z,y=some z->z∈(Op.slice ty x lo hi mx).operands.toList)->cg C y.toList=some s->s.run t=s.run t':=by
   intro y s hy hs;refine cS hs λz hm=>hx z (hy z ?_);cases y with
   |none=>simp at hm
   |some q=>simp at hm;rw[hm]
  cases mx with
  | none =>
   dsimp only at h
   split at h
   ·rename_i e sx sl sh hu h1 h2 h3
    split at h
    ·injection h with h;subst h;simp only[hx _ (by simp[Op.operands]) _ h1,optR (by simp_all[Op.operands]) h2,optR (by simp_all[Op.operands]) h3]
    grind
   ·rename_i n e sx sl sh hu h1 h2 h3
    split at h
    ·injection h with h;subst h;simp only[iS,hx _ (by simp[Op.operands]) _ h1,optR (by simp_all[Op.operands]) h2,optR (by simp_all[Op.operands]) h3]
    grind
   grind
  | some mx =>
   cases hi with
   |none=>cases h
   | some hi =>
    dsimp only at h
    split at h
    ·rename_i e sx sl sh sm he h1 h2 h3 h4
     split at h
     ·injection h with h;subst h;simp only[hx _ (by simp[Op.operands]) _ h1,optR (by simp_all[Op.operands]) h2,hx _ (by simp[Op.operands]) _ h3,hx _ (by simp[Op.operands]) _ h4]
     grind
    grind
theorem GY{d:Nat}{rd:Option Nat}(hx:Cf C t t' op.operands.toList):(cB C op).run ih d rd t g=(cB C op).run ih d rd t' g:=by
 unfold cB
 split
 rotate_left
 ·rfl
 rename_i f h;unfold cOp at h
 split at h
 ·rename_i fx args at2
  split at h
  ·rename_i vs hvs;have e1:=cS (t:=t) (t':=t') hvs λx hm=>hx x (by grind[Op.operands,Call.operands])
   repeat' (first|split at h| (rw[aa]at h;split at h))
   all_goals (injection h with h;subst h;grind)
  grind
 ·rename_i fo args at2 hnf
  split at h
  ·rename_i fv vs hfv hvs;have e1:=cS (t:=t) (t':=t') hvs λx hm=>hx x (by grind[Op.operands,Call.operands]);have e2:=hx fo (by simp[Op.operands,Call.operands]) _ hfv;injection h with h;subst h;grind
  grind
 ·injection h with h;subst h;rfl
 ·rename_i fo args at2
  split at h
  ·rename_i fv vs hfv hvs;have e1:=cS (t:=t) (t':=t') hvs λx hm=>hx x (by grind[Op.operands,Call.operands]);have e2:=hx fo (by simp[Op.operands,Call.operands]) _ hfv;injection h with h;subst h;grind
  grind
 ·split at h
  ·rename_i s hs;injection h with h;subst h
   grind[G2]
  grind
theorem EP{g':G}(hh:g.h=g'.h)(hx:Cf C t t' op.operands.toList):(aP C op).run t g=(aP C op).run t' g':=by
 have one:∀{x:Operand} {F:AV->Looks},x∈op.operands.toList ->
   (match aW C x with|some a=>(⟨λt _=>F (a.run t)⟩:Stg (T->G->Looks))|none=>⟨λ_ _=>bf⟩).run t g =
   (match aW C x with|some a=>(⟨λt _=>F (a.run t)⟩:Stg (T->G->Looks))|none=>⟨λ_ _=>bf⟩).run t' g':=by
  intro x F hm;cases hs:aW C x with
  |none=>rfl
  |some s=>simp only[hx x hm s hs]
 cases op<;>first|rfl|skip
 case load ty x=>exact one (F:=λv=>ae (ak v)) (by simp[Op.operands])
 case store ty x y=>exact one (F:=λv=>ae (ak v)) (by simp[Op.operands])
 case slice ty x lo hi mx=>exact one (F:=λv=>ae (ak v)) (by simp[Op.operands])
 case mapUpdate ty x k y=>exact one (F:=λv=>ae (ak v)) (by simp[Op.operands])
 case insert ty x k y=>exact one (F:=λv=>ae (ak v)) (by simp[Op.operands])
 case entryStore ty x k y=>exact one (F:=λv=>ae (ak v)) (by simp[Op.operands])
 case mapEntry ty x k=>exact one (F:=λv=>⟨ak v,[],(ak v).map (·,ty),false⟩) (by simp[Op.operands])
 case lookup ty x k ok =>
  cases ok
  ·exact one (F:=λv=>⟨[],(ak v).map (·,ty),[],false⟩) (by simp[Op.operands])
  ·exact one (F:=λv=>ae (ak v)) (by simp[Op.operands])
 case indexAddr ty x ix =>
  simp only[aP]
  split
  ·rename_i e s hu hs;simp only[hx x (by simp[Op.operands]) s hs]
  ·rfl
 case call c =>
  obtain⟨callee,args,argTypes⟩:=c;cases callee with
  | builtin b =>
   simp only[aP]
   split<;>grind[cS,Op.operands,Call.operands]
  | value fo =>
   simp only[aP]
   split
   ·rename_i fv vs hfv hvs;simp only[cS hvs λx hm=>hx x (by grind[Op.operands,Call.operands]),hx fo (by simp[Op.operands,Call.operands]) _ hfv,hh]
   ·rfl
  |invoke r m=>rfl
end
end Hx
end
section
namespace Hx
open Go
section
variable {C:Cfg}{A:Nat->Nat->Prop}{bd:Nat}{w w':World}{γ γ':Gm}{hg:Nat->AObj}{nx:Nat}
variable {t:T}{g:G}{ih:IH}
theorem TR.put{nt:Nat}{a:Act}{dst:Option Tmp}{out:Stg (T->AV->T)}{x:AV}{v:Value}(ho:vQ nt dst=some out)(ht:TR w γ A bd nt t a.tmps)(hv:RV w γ A bd x v) :
  TR w γ A bd nt (out.run t x) (a.put dst v).tmps:=by
 cases dst with
 |none=>simp[vQ]at ho;subst ho;exact ht
 | some d =>
  simp only[vQ,aa]at ho
  split at ho
  ·rename_i hd;rw[UF]at hd;injection ho with ho;subst ho;refine⟨by simp[Act.put,ht.1],λs=>?_⟩;rw[sp_get]
   by_cases hs:s=d
   ·subst hs;rw[TE rfl];have:s<a.tmps.size:=by rw[ht.1];exact hd
    simp_all[Act.put]
   ·rw[TF hs];have:=ht.2 s;simp_all[Act.put,UP]
  grind
theorem t5{ops:Array Oper}{o:Oper}{q:Stg (T->Option Bool)}{bv:Bool}{nt:Nat}{tmps:Array Value}(hq:jR ops.toList o.guard=some q)(ht:TR w γ A bd nt t tmps)
  (h:q.run t=some bv):Region.wanted o (yielded ops tmps)=bv:=by
 unfold Region.wanted;cases hg:o.guard with
 | none =>
  rw[hg]at hq;simp[jR]at hq;subst hq
  grind
 | some p =>
  obtain⟨j,want⟩:=p;rw[hg]at hq;simp only[jR]at hq
  split at hq
  ·rename_i oj hoj
   split at hq
   ·rename_i d hd;injection hq with hq;subst hq;have hoj':ops[j]?=some oj:=by grind
    dsimp only at h;rw[gp_run]at h;have hrv:=ht.2 d;simp only[yielded,hoj',Vc,hd];generalize t.get AV.undef d=y at h hrv
    split at h
    ·rename_i b;injection h with h;subst h;have hb:tmps[d]?=some (.bool b):=by
      cases hrv':tmps[d]? with
      |none=>simp[UL,hrv',undef]at hrv;cases hrv
      | some v =>
       simp only[UL,hrv',Tq]at hrv;cases hrv;rfl
     simp only[hb];cases want<;>cases b<;>rfl
    ·injection h with h;subst h;cases hrv':tmps[d]? with
     |none=>rfl
     | some v =>
      simp only[UL,hrv',Tq]at hrv;cases hrv;rfl
    grind
   grind
  grind
theorem Du{all:List Oper}{gd:Option (Nat×Bool)}{q:Stg (T->Option Bool)}{t t':T}(hq:jR all gd=some q)
  (h:∀j b oj d,gd=some (j,b)->all[j]?=some oj->oj.dst=some d->t.get AV.undef d=t'.get AV.undef d):q.run t=q.run t':=by
 cases gd with
 |none=>simp[jR]at hq;subst hq;rfl
 | some p =>
  obtain⟨j,want⟩:=p;simp only[jR]at hq
  split at hq
  ·rename_i oj hoj
   split at hq
   ·rename_i d hd;injection hq with hq;subst hq;dsimp only;rw[gp_run,gp_run,h j want oj d rfl hoj hd]
   grind
  grind
variable {b:Frame}{a:Act}{ops:Array Oper}{i:Nat}{rest:List Nat}{k:List Item}{cs:List Frame}{o:Oper}
theorem Em{P:Program}{d:Deferred}(ho:ops[i]?=some o)(hw:Region.wanted o (yielded ops a.tmps)=true)(hro:b.roundOf=none)
  (hrun:(execOp a.eval o).run P w=.ok (.defer d) w) :
  step P (lone (b.atR a (.inRegion ops (i::rest)::k)) cs w)=.next (lone (b.atR ({ a with defers:=d::a.defers }.put o.dst undef) (.inRegion ops rest::k)) cs w):=by
 have hfin:=Frame.finish_atR b { a with defers:=d::a.defers } ops i rest k undef;rw[ho]at hfin;simp only[Vc]at hfin;refine step_lone_go ?_;rw[stepGR_op ho hw,hro,Oper.semAt_none,<-hfin];simp_all[stepG.apply,Frame.atR]
theorem yT{P:Program}(ho:ops[i]?=some o)(hw:Region.wanted o (yielded ops a.tmps)=false) :
  step P (lone (b.atR a (.inRegion ops (i::rest)::k)) cs w)=.next (lone (b.atR (a.put o.dst undef) (.inRegion ops rest::k)) cs w):=by
 grind[stepR_op_skip]
theorem Og(hr:Rel C A bd w γ hg nx){nt:Nat}{rd:Option Nat}{d:Nat}{df:List ADf}(ht:TR w γ A bd nt t a.tmps)(hrd:RdOk γ rd b)(hdf:DR w γ A bd df a.defers)
  {x:ADf} (h:(cB C o.op).run ih d rd t g=.dfr x) (hE:∀f e d args g y,C.ext f=some e->e d args g≠.dfr y) (ho:ops[i]?=some o) (hw:Region.wanted o (yielded ops a.tmps)=true) :
  ∃dd,DR w γ A bd (x::df) (dd::a.defers) /\
   step C.P (lone (b.atR a (.inRegion ops (i::rest)::k)) cs w)=.next (lone (b.atR ({ a with defers:=dd::a.defers }.put o.dst undef) (.inRegion ops rest::k)) cs w):=by
 have iso:∀f args,am ih d g f args≠.dfr x:=by
  intro f args;unfold am
  repeat' (first|split|rw[aa])
  all_goals grind
 have orf:∀r,orF r≠.dfr x:=by intro r h;cases r<;>cases h
 have rnd:∀id args,cz ih d id args g≠.dfr x:=by
  intro id args;unfold cz
  repeat' split
  all_goals grind
 unfold cB at h
 split at h
 rotate_left
 ·cases h
 rename_i f hcop;generalize hop:o.op=op at hcop;unfold cOp at hcop
 split at hcop
 ·rename_i fx args at2
  split at hcop
  ·split at hcop
   ·rename_i e he;injection hcop with hcop;subst hcop;exact absurd h (hE _ _ _ _ _ _ he)
   ·rw[aa]at hcop
    split at hcop
    ·injection hcop with hcop;subst hcop;grind
    ·injection hcop with hcop;subst hcop;grind
  grind
 ·rename_i fo args at2 hnf
  split at hcop
  ·rename_i fv vs hfv hvs;injection hcop with hcop;subst hcop;dsimp only at h;unfold io at h
   split at h
   ·split at h
    ·rename_i e he;exact absurd h (hE _ _ _ _ _ _ he)
    grind[aa]
   all_goals grind
  grind
 ·injection hcop with hcop;subst hcop;cases h
 ·rename_i fo args at2
  split at hcop
  ·rename_i fv vs hfv hvs;injection hcop with hcop;subst hcop;dsimp only at h;cases rd with
   |some _=>cases h
   | none =>
    dsimp only at h;have hf:=aF hfv ht hr;have hv:=jC ht hr hvs;generalize hfo:a.eval fo=vfo at hf;generalize fv.run t=y at h hf;cases hf with
    | clo _ fx xs ys vs1 us1 hl hl2 h1 h2 =>
     dsimp only at h;injection h with h;subst h;refine⟨{ target:=.fn (.func fx) us1,args:=vs1++args.map a.eval },⟨⟨fx,ys,us1,rfl,rfl,Rc hl2 h2,?_⟩,hdf⟩,Em ho hw hrd ?_⟩
     ·have:=(Rc hl h1).append hv;simp_all
     grind[execOp,resolve,Deferred.ofValue,UT]
    |_=>cases h
  grind
 ·split at hcop
  ·rename_i s hs;injection hcop with hcop;subst hcop;have:=yd (t:=t) (g:=g) hs;have h:s.run t g=.dfr x:=h;rw[h]at this;exact this.elim
  grind
theorem Lr(hC:CfgOk C)(hi:IHOk C ih){nt:Nat}{rd:Option Nat}:∀(l:List Oper) (i:Nat) {t:T} {df:List ADf} {g:G} {e:Ex} {t':T} {df':List ADf} {g':G},
  ops.toList.drop i=l->(jS C nt ops.toList l).run ih (bd+1) rd t df g=.ok e t' df' g'->WF g ->
  ∀{w γ hg nx a},Rel C A bd w γ hg nx->Ext g.h hg->Free γ g g'->TR w γ A bd nt t a.tmps->DR w γ A bd df a.defers->RdOk γ rd b->wc b.kind cs ->
   e=.norm/\∃a' w' γ' hg',Fin C A bd w γ hg nx g w' γ' hg' g'/\TR w' γ' A bd nt t' a'.tmps/\DR w' γ' A bd df' a'.defers /\
    Steps C.P (lone (b.atR a (.inRegion ops (List.range' i l.length)::k)) cs w) (lone (b.atR a' k) cs w'):=by
 intro l
 induction l with
 | nil =>
  intro i t df g e t' df' g' _ h _ w γ hg nx a hr hx hf ht hdf hrd hcalm;simp only[jS]at h;injection h with h1 h2 h3 h4;subst h1;subst h2;subst h3;subst h4;exact⟨rfl,a,w,γ,hg,Fin.refl hr,ht,hdf,.one stepR_region_end⟩
 | cons o rest ihl =>
  intro i t df g e t' df' g' hdrop h hwf w γ hg nx a hr hx hf ht hdf hrd hcalm;have ho:ops[i]?=some o:=by
   have:(ops.toList.drop i)[0]?=some o:=by grind
   grind
  have hdrop':ops.toList.drop (i+1)=rest:=by rw[<-UI,hdrop];rfl
  have hrange:List.range' i (o::rest).length=i::List.range' (i+1) rest.length:=by simp[List.range'_succ]
  rw[hrange];have exec:∀{out:Stg (T->AV->T)},vQ nt o.dst=some out->Region.wanted o (yielded ops a.tmps)=true ->
    px out.run ((jS C nt ops.toList rest).run ih (bd+1) rd) t df g ((cB C o.op).run ih (bd+1) rd t g)=.ok e t' df' g' ->
    e=.norm/\∃a' w' γ' hg',Fin C A bd w γ hg nx g w' γ' hg' g'/\TR w' γ' A bd nt t' a'.tmps/\DR w' γ' A bd df' a'.defers /\
     Steps C.P (lone (b.atR a (.inRegion ops (i::List.range' (i+1) rest.length)::k)) cs w) (lone (b.atR a' k) cs w'):=by
   intro out hout hw h;have hm:=mX (op:=o.op) (d:=bd+1) (rd:=rd) (t:=t) hC.mon hi.mon hwf;generalize hres:(cB C o.op).run ih (bd+1) rd t g=r at h hm;have go:∀{x:AV} {g1:G},r≠.fail->(∀y,r≠.dfr y)->vOf r=x->gOf g r=g1->(jS C nt ops.toList rest).run ih (bd+1) rd (out.run t x) df g1=.ok e t' df' g' ->
     e=.norm/\∃a' w' γ' hg',Fin C A bd w γ hg nx g w' γ' hg' g'/\TR w' γ' A bd nt t' a'.tmps/\DR w' γ' A bd df' a'.defers /\
     Steps C.P (lone (b.atR a (.inRegion ops (i::List.range' (i+1) rest.length)::k)) cs w) (lone (b.atR a' k) cs w'):=by
    intro x g1 hne hnd hx' hg1 h;subst hx';subst hg1;have w1:=hm.wf hwf;have m2:=zQ hC.mon hi.mon h w1;obtain⟨u,wa,γa,hga,f1,rv,st⟩:=HB (b:=b) (cs:=cs) (rest:=List.range' (i+1) rest.length) (k:=k) hC hi hr hwf ht hcalm hx.agr hres hne hnd (hf.le m2.nx) ho hw;obtain⟨he,a',wb,γb,hgb,f2,tr,dr,st2⟩:=ihl (i+1) hdrop' h w1 (a:=a.put o.dst u) f1.rel (f1.ext hm hx) (f1.freed hr hm hf) ((ht.step f1.stp).put hout rv)
     (by have:=hdf.step f1.stp;cases hd:o.dst<;>simpa [Act.put,hd] using this) (hrd.step f1.stp) hcalm
    exact⟨he,a',wb,γb,hgb,f1.trans f2 hm m2,tr,dr,Steps.trans st st2⟩
   cases r with
   |fail=>cases h
   |val x=>exact go (by simp) (by simp) rfl rfl h
   |upd x g1=>exact go (by simp) (by simp) rfl rfl h
   | dfr x =>
    obtain⟨dd,hdr,st⟩:=Og (b:=b) (cs:=cs) (rest:=List.range' (i+1) rest.length) (k:=k) hr ht hrd hdf hres (λf e d args g y he hy=>by
     exact extNoDfr hC he hy) ho hw
    obtain⟨he,a',wb,γb,hgb,f2,tr,dr,st2⟩:=ihl (i+1) hdrop' h hwf (a:={ a with defers:=dd::a.defers }.put o.dst undef) hr hx hf
     (ht.put (a:={ a with defers:=dd::a.defers }) hout dH)
     (by cases hd:o.dst<;>simpa [Act.put,hd] using hdr) hrd hcalm
    grind[Steps.head]
  simp only[jS]at h
  split at h
  ·rename_i out hout
   split at h
   ·grind[Region.wanted]
   ·rename_i gd hgd
    split at h
    ·rename_i q hq;rw[<-hgd]at hq;dsimp only at h
     split at h
     ·grind[t5]
     ·rename_i hq';have hw:=t5 hq ht hq';obtain⟨he,a',wb,γb,hgb,f2,tr,dr,st2⟩:=ihl (i+1) hdrop' h hwf (a:=a.put o.dst undef) hr hx hf
       (ht.put hout dH) (by cases hd:o.dst<;>simpa [Act.put,hd] using hdf) hrd hcalm
      exact⟨he,a',wb,γb,hgb,f2,tr,dr,.head (yT ho hw) st2⟩
     grind
    ·cases h
  ·cases h where
 extNoDfr {f d:Nat} {e:Nat->List AV->G->OR} {args:List AV} {g:G} {y:ADf} (hC:CfgOk C) (he:C.ext f=some e) (hy:e d args g=.dfr y):False:=by exact (hC.noDfr f e he d args g y) hy
end
end Hx
end
section
namespace Hx
open Go
theorem uC{d:TypeDesc}{x y:AV}(hx:pr d x=true)(hy:pr d y=true):∃b,oS x y=some b:=by
 cases d<;>cases x<;>simp[pr]at hx<;>cases y<;>simp[pr]at hy
 all_goals simp_all[t7,oS]
theorem y7:∀{ds:List TypeDesc} {xs ys:List AV},dN ds xs=true->dN ds ys=true->∃b,eF xs ys=some b:=by
 intro ds
 induction ds with
 |nil=>intro xs ys hx hy;cases xs<;>simp[dN]at hx;cases ys<;>simp[dN]at hy;exact⟨_,rfl⟩
 | cons d ds ih =>
  intro xs ys hx hy;cases xs<;>simp[dN,aa]at hx;cases ys<;>simp[dN,aa]at hy<;>grind[uC,eF]
theorem Mx{kk:KeyKind}{x y:AV}(hx:my kk x=true)(hy:my kk y=true):∃b,lE x y=some b:=by
 cases kk with
 | one d =>
  simp only[my]at hx hy;obtain⟨b,hb⟩:=uC hx hy;cases x<;>first| (cases d<;>simp[pr]at hx;done)|skip
  all_goals
   cases y<;>first| (cases d<;>simp[pr]at hy;done)|grind[lE]|skip
 | flat ds =>
  cases x<;>simp[my]at hx;cases y<;>simp[my]at hy<;>grind[y7,lE]
 |other=>grind[my]
theorem Hb{k k0 z:AV}:∀{es:List (AV×AV)} {r:Option AV},pZ k es=some r->(∃b,lE k k0=some b) ->
  pZ k (es++[(k0,z)])=some (match r with|some v=>some v|none=>if lE k k0=some true then some z else none):=by
 intro es
 induction es<;>grind[pZ]
theorem FE{kk:KeyKind}{z:AV}{m k:T->AV}{t:T}{g g':G}{id:Nat}{es:List (AV×AV)}{k0 v:AV}(h:cp kk z false m k t g=.val v)(hm:m t=.hmap id)
  (hg:g.h.get id=.map es) (hg':g'.h.get id=.map (es++[(k0,z)])) (hk0:my kk k0=true):cp kk z false m k t g'=.val v:=by
 unfold cp at h ⊢;rw[aa]at h ⊢
 split at h
 ·rename_i hk;rw[TE hk];simp only[hm,G.get_eq,hg,hg']at h ⊢;cases hf:pZ (k t) es with
  |none=>grind
  | some r =>
   rw[Hb hf (Mx hk hk0)]
   grind
 grind
theorem QO{C:Cfg}{op:Op}{t:T}{g:G}(h:((aP C op).run t g).sr≠[]):∃ty x k a,op=.lookup ty x k false/\aW C x=some a /\
  (aP C op).run t g=⟨[],(ak (a.run t)).map (·,ty),[],false⟩:=by
 cases op<;>simp only[aP]at h ⊢<;>try (exact absurd rfl h)
 case lookup ty x k ok =>
  cases ok
  ·dsimp only at h ⊢
   split at h
   ·grind
   ·exact absurd rfl h
  ·dsimp only at h
   split at h<;>exact absurd rfl h
 case call c =>
  obtain⟨callee,args,at'⟩:=c;cases callee<;>simp only at h
  ·split at h
   ·dsimp only at h
    split at h
    ·rw[aa]at h;split at h<;>exact absurd rfl h
    ·exact absurd rfl h
   ·exact absurd rfl h
  ·exact absurd rfl h
  ·split at h<;>exact absurd rfl h
 all_goals (split at h<;>exact absurd rfl h)
theorem OZ{C:Cfg}{op:Op}{t:T}{g:G}{p:Nat×Nat}(h:p∈((aP C op).run t g).soft):∃x k a,op=.mapEntry p.2 x k/\aW C x=some a/\p.1∈ak (a.run t):=by
 cases op<;>simp only[aP]at h<;>try (exact absurd h TV)
 case mapEntry ty x k =>
  split at h
  ·rename_i a ha;dsimp only at h;obtain⟨id,h1,h2⟩:=T4.1 h;subst h2
   grind
  ·exact absurd h TV
 case lookup ty x k ok =>
  cases ok<;>dsimp only at h<;>split at h<;>exact absurd h TV
 case call c =>
  obtain⟨callee,args,at'⟩:=c;cases callee<;>simp only at h
  ·split at h
   ·dsimp only at h
    split at h
    ·rw[aa]at h;split at h<;>exact absurd h TV
    ·exact absurd h TV
   ·exact absurd h TV
  ·exact absurd h TV
  ·split at h<;>exact absurd h TV
 all_goals (split at h<;>exact absurd h TV)
theorem EQ{C:Cfg}{ih:IH}{ty:TypeId}{x k:Operand}{ok:Bool}{d:Nat}{rd:Option Nat}{t:T}{g:G}{r:OR}(h:(cB C (.lookup ty x k ok)).run ih d rd t g=r)(hne:r≠.fail) :
  ∃a kk kt et z,aW C x=some a/\aW C k=some kk/\C.P.underlying ty=some (.map kt et)/\uX C.P et=some z /\
   (∀t g,(cB C (.lookup ty x k ok)).run ih d rd t g=cp (dg C.P kt) z ok a.run kk.run t g)/\r=cp (dg C.P kt) z ok a.run kk.run t g:=by
 unfold cB at h ⊢;simp only[cOp,cx]at h ⊢
 split at h
 ·rename_i f hf
  split at hf
  ·rename_i s hs;injection hf with hf;subst hf
   split at hs
   ·rename_i a kk kt et ha hk hu
    split at hs
    ·rename_i z hz;injection hs with hs;subst hs
     grind
    grind
   grind
  grind
 grind
theorem BB{C:Cfg}{ih:IH}{ty:TypeId}{x k:Operand}{d:Nat}{rd:Option Nat}{t:T}{g:G}{r:OR}(h:(cB C (.mapEntry ty x k)).run ih d rd t g=r)(hne:r≠.fail) :
  ∃a kk kt et z,aW C x=some a/\aW C k=some kk/\C.P.underlying ty=some (.map kt et)/\uX C.P et=some z/\r=fZ (dg C.P kt) z a.run kk.run t g:=by
 unfold cB at h;simp only[cOp,cx]at h
 split at h
 ·rename_i f hf
  split at hf
  ·rename_i s hs;injection hf with hf;subst hf
   split at hs
   ·rename_i a kk kt et ha hk hu
    split at hs
    ·rename_i z hz;injection hs with hs;subst hs
     grind
    grind
   grind
  grind
 grind
theorem D5{kk:KeyKind}{z:AV}{m k:T->AV}{t:T}{g:G}{v:AV}{g':G}(h:fZ kk z m k t g=.upd v g') :
  ∃id es,m t=.hmap id/\g.h.get id=.map es/\g'=g.put id (.map (es++[(k t,z)]))/\my kk (k t)=true:=by
 unfold fZ at h;rw[aa]at h
 split at h
 ·rename_i hk
  split at h
  ·rename_i id hm
   split at h
   ·rename_i es hes
    split at h<;>simp_all
   grind
  grind
 grind
theorem Ek{pm:List Nat}{i:Nat}{x:Foot}:∀{l:List Foot} {j0 j:Nat} {y:Foot},l[j]?=some y->(pm.getD (j0+j) 0).testBit i=false->meets y.wr (fst1 x.lk.sr)=true ->
  1<=cH pm i x j0 l:=by
 intro l
 induction l with
 |nil=>grind
 | cons a l ih =>
  intro j0 j y h h1 h2;cases j with
  | zero =>
   simp_all[cH]
  | succ j =>
   have:=ih (j0:=Nat.succ j0) (by simpa using h) (by grind) h2
   grind[cH,aa]
theorem Cb{pm:List Nat}{i:Nat}{x:Foot}:∀{l:List Foot} {j0 j j':Nat} {y y':Foot},j<j'->l[j]?=some y->l[j']?=some y'->(pm.getD (j0+j) 0).testBit i=false->(pm.getD (j0+j') 0).testBit i=false ->
  meets y.wr (fst1 x.lk.sr)=true->meets y'.wr (fst1 x.lk.sr)=true->2<=cH pm i x j0 l:=by
 intro l
 induction l with
 |nil=>grind
 | cons a l ih =>
  intro j0 j j' y y' hlt h h' h1 h1' h2 h2';cases j' with
  |zero=>omega
  | succ j' =>
   cases j with
   | zero =>
    simp at h;subst h;have:=Ek (pm:=pm) (i:=i) (x:=x) (j0:=Nat.succ j0) (j:=j') (by simpa using h') (by grind) h2';simp only[cH,aa]
    grind
   | succ j =>
    have:=ih (j0:=Nat.succ j0) (j:=j) (j':=j') (by omega) (by grind) (by grind) (by grind) (by grind) h2 h2';simp only[cH,aa]
    split<;>omega
theorem Id{b x:Bool}(h:aA b x false=true):b=true/\x=true:=by cases b<;>grind
theorem El{pm:List Nat}:∀{l:List Foot} {i0:Nat},lK pm i0 l=true->∀(i j j':Nat) x y y',i<j->j<j'->l[i]?=some x->l[j]?=some y->l[j']?=some y'->x.lk.sr≠[] ->
  (pm.getD (i0+j) 0).testBit (i0+i)=false->(pm.getD (i0+j') 0).testBit (i0+i)=false->meets y.wr (fst1 x.lk.sr)=true->meets y'.wr (fst1 x.lk.sr)=true->False:=by
 intro l
 induction l with
 |nil=>grind
 | cons a l ih =>
  intro i0 h i j j' x y y' hij hjj hx hy hy' hsr h1 h1' h2 h2';obtain⟨hc,h⟩:=Id h;cases j' with
  |zero=>omega
  | succ j' =>
   cases j with
   |zero=>omega
   | succ j =>
    cases i with
    | zero =>
     simp at hx;subst hx;have hc':Nat.ble (cH pm i0 a (Nat.succ i0) l) 1=true:=by
      grind
     grind[T8,Cb]
    | succ i =>
     grind
theorem ki{a b:List Nat}{x:Nat}(ha:x∈a)(hb:x∈b):meets a b=true:=by
 unfold meets
 grind
theorem tx{l:List (Nat×Nat)}{x:Nat}(h:x∈l.map (·.1)):x∈fst1 l:=h
theorem HC{p:Nat×Nat}:∀{l:List (Nat×Nat)},Eb p l=true->p∈l:=by
 intro l
 induction l with
 |nil=>intro h;cases h
 | cons q l ih =>
  intro h;simp only[Eb,aa]at h
  split at h
  ·rename_i hc;simp only[Ts]at hc;have h1:=aL hc.1;have h2:=aL hc.2
   grind
  grind
end Hx
end
