/- A part of the proof. -/
import Derived.RangeFuncIn
import Derived.AtR
import Derived.Test.YtikpmbiklokdiaaGreatHx2
set_option linter.all false
set_option maxRecDepth 20000
set_option maxHeartbeats 8000000
namespace Hx
open Go
noncomputable section
variable {g:G}{v x:AV}{h:H}{k n i d nt off j m:Nat}{C:ZO}{t:T}{rd:Option Nat}{cs row:List AV}{op:Op}{r:OR}{l:List Int}{df:List ZU}{pm:List Nat}
def ZY(t:T)(n:Nat):AV:=Tr.get AV.undef t n
def f_(t:T)(n:Nat)(v:AV):T:=(sp AV.undef n).run t v
inductive Od where
 |t (n:Nat)
 |k (v:AV)
def Od.get(t:T):Od->AV
 |.t n=>ZY t n
 |.k v=>v
def eH(t:T):List Od->List AV
 |[]=>[]
 |o::os=>o.get t::eH t os
def O4(c a b:AV):OR:=match c with|.bool q=>ap q (.val a) (.val b)|_=>.fail
def Kl(x:AV)(g:G):OR:=ap x.isTup .fail (.upd (.ZD g.nx 0 0 0) (g.new (Z4 (bi x.cells) [x.cells])))
def BV(zero:List AV)(pl:List (Nat×Nat))(vs:List AV):OR :=match dX zero (pl.zip vs) with|some cs=>.val (.agg cs)|none=>.fail
def UX(sz len:Nat)(zero:List AV)(is:List Nat)(vs:List AV)(g:G):OR :=
 match i4 sz (jb len zero) (is.zip vs) with
 |some rows=>.upd (.ZG g.nx 0 0 len none) (g.new (Z4 sz rows))
 |none=>.fail
def t7(ag:Bool)(n:Nat)(p:AV)(g:G):OR:=qo ag n (λ_=>p) .nil g
def qA(n:Nat)(p x:AV)(g:G):OR:=sJ n (λ_=>p) (λ_=>x) .nil g
def OV(x:AV):OR:=match x with
 |.ZR l sz rows i off=>.val (.ZR l sz rows i off)
 |.ZD id ep i off=>.val (.ZD id ep i off)
 |.ZH f a c=>.val (.ZH f a c)
 |.NH id=>.val (.NH id)
 |_=>.fail
def bN(op:BinOp)(x y:AV):OR:=match x,y with|.int k a,.int k' b=>RK ((fT op).run k a k' b)|_,_=>.fail
def uz(neg:Bool)(ek:VR)(x y:AV):OR:=match TZ ek x y with|some b=>.val (.bool (ap neg (lq b) b))|none=>.fail
def VL(x:AV):OR:=match x with|.bool b=>.val (.bool (lq b))|_=>.fail
def RX(op:UnOp)(x:AV):OR:=match x with|.int k n=>RK (oJ (Op.unary op (.int k n)))|_=>.fail
def N7(k:IntKind)(x:AV):OR:=match x with|.int _ n=>.val (.int k (yw k n))|_=>.fail
def M9(sz bytes:Nat)(zero:List AV)(l c:AV)(g:G):OR:=ju sz bytes zero (λ_=>l) (λ_=>c) .nil g
def Au(sz:Nat)(x:AV)(lo hi:Option AV)(g:G):OR:=RK (qz sz x lo hi none g.h)
def YJ(n sz:Nat)(x:AV)(lo hi:Option AV)(g:G):OR:=jS n sz (λ_=>x) (λ_=>lo) (λ_=>hi) .nil g
def Sd(fo:Nat)(x:AV):OR:=match x with
 |.ZR l sz rows i off=>.val (.ZR l sz rows i (off+fo))
 |.ZD id ep i off=>.val (.ZD id ep i (off+fo))
 |_=>.fail
def XO(ag:Bool)(n fo:Nat)(x:AV):OR:=match x with|.agg cs=>RK (cK ag n cs fo)|_=>.fail
def Jv(sz:Nat)(x i:AV)(g:G):OR:=i7 sz (λ_=>x) (λ_=>i) .nil g
def FW(n sz:Nat)(x i:AV):OR:=qm n sz (λ_=>x) (λ_=>i) .nil G.empty
def ixV(ag:Bool)(n sz:Nat)(x i:AV):OR:=Al ag n sz (λ_=>x) (λ_=>i) .nil G.empty
def R9(x:AV)(i:Nat):OR:=match x with|.Zz vs=>RK (CB i vs)|_=>.fail
def mxV(x y:AV):OR:=match x with
 |.int k m=>match y with|.int k' n=>ap (dG k k') (.val (.int k (ap (DM m n) n m))) .fail|_=>.fail
 |_=>.fail
def mnV(x y:AV):OR:=match x with
 |.int k m=>match y with|.int k' n=>ap (dG k k') (.val (.int k (ap (DM n m) n m))) .fail|_=>.fail
 |_=>.fail
def ae(C:ZO)(d f:Nat)(as:List AV)(g:G):OR :=
 match C.ext f with
 |some e=>e d as g
 |none=>ap (C.Wd f) (af (I C) d g f as) (XV ((I C).call d f as g))
inductive SO where
 |mv (x:Od)
 |pick (c a b:Od)
 |alloc (cs:List AV)
 |box (x:Od)
 |build (zero:List AV) (pl:List (Nat×Nat)) (vs:List Od)
 |XD (sz len:Nat) (zero:List AV) (is:List Nat) (vs:List Od)
 |load (ag:Bool) (n:Nat) (a:Od)
 |store (n:Nat) (a x:Od)
 |SX (x:Od)
 |bin (op:BinOp) (x y:Od)
 |eq (neg:Bool) (ek:VR) (x y:Od)
 |not (x:Od)
 |un (op:UnOp) (x:Od)
 |conv (k:IntKind) (x:Od)
 |XZ (f:Nat) (a c:List Od)
 |mks (sz bytes:Nat) (zero:List AV) (l c:Od)
 |Vg (sz:Nat) (x:Od) (lo hi:List Od)
 |sla (n sz:Nat) (x:Od) (lo hi:List Od)
 |fad (fo:Nat) (x:Od)
 |fld (ag:Bool) (n fo:Nat) (x:Od)
 |SG (sz:Nat) (x i:Od)
 |ixa (n sz:Nat) (x i:Od)
 |ix (ag:Bool) (n sz:Nat) (x i:Od)
 |ext (x:Od) (i:Nat)
 |len (lk:KF) (x:Od)
 |app (sz bytes:Nat) (x y:Od)
 |cpy (sz:Nat) (x y:Od)
 |mx (x y:Od)
 |mn (x y:Od)
 |call (f:Nat) (as:List Od)
 |dyn (f:Od) (as:List Od)
 |raw (op:Op)
def SO.run(C:ZO)(d:Nat)(rd:Option Nat)(t:T)(g:G):SO->OR
 |.mv x=>.val (x.get t)
 |.pick c a b=>O4 (c.get t) (a.get t) (b.get t)
 |.alloc cs=>.upd (.ZD g.nx 0 0 0) (g.new (Z4 (bi cs) [cs]))
 |.box x=>Kl (x.get t) g
 |.build zero pl vs=>BV zero pl (eH t vs)
 |.XD sz n zero is vs=>UX sz n zero is (eH t vs) g
 |.load ag n a=>t7 ag n (a.get t) g
 |.store n a x=>qA n (a.get t) (x.get t) g
 |.SX x=>OV (x.get t)
 |.bin op x y=>bN op (x.get t) (y.get t)
 |.eq neg ek x y=>uz neg ek (x.get t) (y.get t)
 |.not x=>VL (x.get t)
 |.un op x=>RX op (x.get t)
 |.conv k x=>N7 k (x.get t)
 |.XZ f a c=>.val (.ZH f (eH t a) (eH t c))
 |.mks sz bytes zero l c=>M9 sz bytes zero (l.get t) (c.get t) g
 |.Vg sz x lo hi=>Au sz (x.get t) (eH t lo).head? (eH t hi).head? g
 |.sla n sz x lo hi=>YJ n sz (x.get t) (eH t lo).head? (eH t hi).head? g
 |.fad fo x=>Sd fo (x.get t)
 |.fld ag n fo x=>XO ag n fo (x.get t)
 |.SG sz x i=>Jv sz (x.get t) (i.get t) g
 |.ixa n sz x i=>FW n sz (x.get t) (i.get t)
 |.ix ag n sz x i=>ixV ag n sz (x.get t) (i.get t)
 |.ext x i=>R9 (x.get t) i
 |.len lk x=>gz lk (x.get t) g
 |.app sz bytes x y=>eS sz bytes (x.get t) (y.get t) g
 |.cpy sz x y=>H3 sz (x.get t) (y.get t) g
 |.mx x y=>mxV (x.get t) (y.get t)
 |.mn x y=>mnV (x.get t) (y.get t)
 |.call f as=>ae C d f (eH t as) g
 |.dyn f as=>dQ C (I C) d (f.get t) (eH t as) g
 |.raw op=>(bP C op).run (I C) d rd t g
def YX(C:ZO):Operand->Option Od
 |.tmp n=>some (.t n)
 |.const v=>match ofV v with|some a=>some (.k a)|none=>none
 |.global g=>match C.Q6 g with|some (sz,rows)=>some (.k (.ZR 0 sz rows 0 0))|none=>none
 |.func f=>some (.k (.ZH f [] []))
def qq(C:ZO):List Operand->Option (List Od)
 |[]=>some []
 | x::xs=>match YX C x,qq C xs with
  |some a,some as=>some (a::as)
  |_,_=>none
theorem aT{x:Operand}{o:Od}(h:YX C x=some o):∃s,aW C x=some s/\∀t,s.run t=o.get t:=by
 unfold YX at h
 split at h
 ·injection h with h;subst h;exact⟨_,rfl,λt=>WA _ _ _⟩
 ·split at h
  ·rename_i a ha;injection h with h;subst h;exact⟨⟨λ_=>a⟩,by grind[aW],λt=>rfl⟩
  grind
 ·split at h
  ·rename_i sz rows ha;injection h with h;subst h;exact⟨⟨λ_=>.ZR 0 sz rows 0 0⟩,by grind[aW],λt=>rfl⟩
  grind
 ·injection h with h;subst h;exact⟨_,rfl,λt=>rfl⟩
theorem dt{C:ZO}:∀{xs:List Operand} {os:List Od},qq C xs=some os->∃s,cC C xs=some s/\∀t,s.run t=eH t os
 |[],os,h=>by injection h with h;subst h;exact⟨_,rfl,λt=>rfl⟩
 | x::xs,os,h=>by
  unfold qq at h
  split at h
  ·rename_i a as ha k;injection h with h;subst h;obtain⟨s,h1,h2⟩:=aT ha;obtain⟨ss,b,h4⟩:=dt k;simp_all[cC,eH]
  grind
def JD(C:ZO)(op:Op):SO :=
 match op with
 |.move x|.assign x=>match YX C x with|some a=>.mv a|none=>.raw op
 | .pick c a b=>match YX C c,YX C a,YX C b with
  |some c,some a,some b=>.pick c a b
  |_,_,_=>.raw op
 | .alloc ty=>match ii C.P ty with
  |some cs=>.alloc cs
  |none=>.raw op
 | .box _ x=>match YX C x with
  |some a=>.box a
  |none=>.raw op
 | .build ty parts=>match ii C.P ty,qq C (parts.toList.map (·.2)) with
  | some zero,some vs =>
   match C.P.underlying ty with
   | some (.struct fs)=>match aD (λf:Field=>match R6 C.P f.type with| some n=>some (f.offset,n)| none=>none) fs.toList with
    | some places=>match aD (λi=>places[i]?) (parts.toList.map (·.1)) with
     |some pl=>.build zero pl vs
     |none=>.raw op
    |none=>.raw op
   | some (.array _ e)=>match R6 C.P e with
    |some n=>.build zero ((parts.toList.map (·.1)).map λi=>(i*n,n)) vs
    |none=>.raw op
   |_=>.raw op
  |_,_=>.raw op
 | .buildSlice ty len parts=>match od C.P ty,qq C (parts.toList.map (·.2)) with
  | some e,some vs=>match R6 C.P e,ii C.P e with
   | some sz,some zero=>ap (Nat.beq (bi zero) sz&&Nat.blt 0 sz&&Nat.ble (len*sz) 1048576)
    (.XD sz len zero (parts.toList.map (·.1)) vs) (.raw op)
   |_,_=>.raw op
  |_,_=>.raw op
 | .load ty a=>match YX C a,wC C.P ty,R6 C.P ty with
  |some a,some ag,some n=>.load ag n a
  |_,_,_=>.raw op
 | .store ty a x=>match YX C a,YX C x,R6 C.P ty with
  |some a,some x,some n=>.store n a x
  |_,_,_=>.raw op
 | .nilCheck x=>match YX C x with
  |some a=>.SX a
  |none=>.raw op
 | .binOp b ty x y _=>match YX C x,YX C y with
  | some x,some y=>match b with
   | .eql=>match uw C.P ty with
    |.other=>.bin b x y
    |ek=>.eq false ek x y
   | .neq=>match uw C.P ty with
    |.other=>.bin b x y
    |ek=>.eq true ek x y
   |b=>.bin b x y
  |_,_=>.raw op
 | .unOp u _ x=>match YX C x with
  | some x=>match u with
   |.not=>.not x
   |u=>.un u x
  |none=>.raw op
 | .convert src dst x=>match YX C x,C.P.underlying src,C.P.underlying dst with
  |some x,some _,some (.int k)=>.conv k x
  |_,_,_=>.raw op
 | .makeFunc (.func f) first captured=>match qq C first.toList,qq C captured.toList with
  |some a,some c=>.XZ f a c
  |_,_=>.raw op
 | .makeSlice ty l c=>match od C.P ty,YX C l,YX C c with
  | some e,some l,some c=>match R6 C.P e,lR C.P e,ii C.P e with
   |some sz,some bytes,some zero=>ap (Nat.beq (bi zero) sz&&Nat.blt 0 sz) (.mks sz bytes zero l c) (.raw op)
   |_,_,_=>.raw op
  |_,_,_=>.raw op
 | .slice ty x lo hi none=>match C.P.underlying ty,YX C x,qq C lo.toList,qq C hi.toList with
  | some (.slice e),some x,some l,some h=>match R6 C.P e with
   |some sz=>.Vg sz x l h
   |none=>.raw op
  | some (.array n e),some x,some l,some h=>match R6 C.P e with
   |some (sz+1)=>.sla n (sz+1) x l h
   |_=>.raw op
  |_,_,_,_=>.raw op
 | .fieldAddr ty x f=>match YX C x,xL C.P ty f with
  | some a,some (fo,ft)=>match R6 C.P ft with
   |some (_+1)=>.fad fo a
   |_=>.raw op
  |_,_=>.raw op
 | .field ty x f=>match YX C x,xL C.P ty f with
  | some a,some (fo,ft)=>match wC C.P ft,R6 C.P ft with
   |some ag,some n=>.fld ag n fo a
   |_,_=>.raw op
  |_,_=>.raw op
 | .indexAddr ty x ix=>match YX C x,YX C ix with
  | some a,some i=>match C.P.underlying ty with
   | some (.slice e)=>match R6 C.P e with
    |some sz=>.SG sz a i
    |none=>.raw op
   | some (.array n e)=>match R6 C.P e with
    |some sz=>.ixa n sz a i
    |none=>.raw op
   |_=>.raw op
  |_,_=>.raw op
 | .index ty x ix=>match YX C x,YX C ix with
  | some a,some i=>match C.P.underlying ty with
   | some (.array n e)=>match wC C.P e,R6 C.P e with
    |some ag,some sz=>.ix ag n sz a i
    |_,_=>.raw op
   |_=>.raw op
  |_,_=>.raw op
 | .extract x i=>match YX C x with
  |some a=>.ext a i
  |none=>.raw op
 |op=>.raw op
def Yf(C:ZO)(op:Op):SO :=
 match op with
 | .call { callee:=.value (.func f),args,.. }=>match qq C args.toList with
  |some vs=>.call f vs
  |none=>.raw op
 | .call { callee:=.value fo,args,.. }=>match YX C fo,qq C args.toList with
  |some f,some vs=>.dyn f vs
  |_,_=>.raw op
 | .call { callee:=.builtin b,args,argTypes }=>match b,qq C args.toList with
  | .len,some [x]=>match argTypes[0]? with
   |some t=>.len (oU C.P t) x
   |none=>.raw op
  | .append,some [a,x]=>match argTypes[0]?,argTypes[1]? with
   | some t,some xt=>match od C.P t,C.P.underlying xt with
    | some e,some (.slice _)=>match R6 C.P e,lR C.P e,ii C.P e with
     |some sz,some bytes,some zero=>ap (Nat.beq (bi zero) sz&&Nat.blt 0 sz&&Nat.blt 0 bytes) (.app sz bytes a x) (.raw op)
     |_,_,_=>.raw op
    |_,_=>.raw op
   |_,_=>.raw op
  | .copy,some [a,x]=>match argTypes[0]? with
   | some t=>match od C.P t with
    | some e=>match R6 C.P e with
     |some sz=>.cpy sz a x
     |none=>.raw op
    |none=>.raw op
   |none=>.raw op
  |.max,some [x,y]=>.mx x y
  |.min,some [x,y]=>.mn x y
  |_,_=>.raw op
 |op=>JD C op
theorem cd{s:TM VH}(h1:Uy C op=match cP C op with|some s=>some ⟨λ_ _ _ t g=>s.run t g⟩|none=>none)(h:cP C op=some s)
  {ih:IH}    :(bP C op).run ih d rd t g=s.run t g:=by
 simp_all[bP]
theorem VF(h1:Uy C op=match cP C op with|some s=>some ⟨λ_ _ _ t g=>s.run t g⟩|none=>none) :
  (JD C op).run C d rd t g=(bP C op).run (I C) d rd t g:=by
 unfold JD
 split
 case h_1 x =>
  split
  ·rename_i a ha;obtain⟨s,hs,he⟩:=aT ha;simp_all[cd,cP,SO.run]
  ·rfl
 case h_2 x =>
  split
  ·rename_i a ha;obtain⟨s,hs,he⟩:=aT ha;simp_all[cd,cP,SO.run]
  ·rfl
 case h_3 c a b =>
  split
  ·rename_i c a b hc ha hb;obtain⟨K,q1,e1⟩:=aT hc;obtain⟨p,q2,H⟩:=aT ha;obtain⟨A,q3,J⟩:=aT hb;rw[cd h1 (by simp only[cP,q1,q2,q3];rfl)];grind[SO.run,O4]
  ·rfl
 case h_4 ty =>
  split
  ·rename_i cs hz;rw[cd h1 (by simp only[cP,hz];rfl)];rfl
  ·rfl
 case h_5 ty x =>
  split
  ·rename_i a ha;obtain⟨s,hs,he⟩:=aT ha;simp_all[cd,cP,SO.run,Kl,RA]
  ·rfl
 case h_6 ty parts =>
  split
  ·rename_i zero vs hz w;obtain⟨s,hs,he⟩:=dt w
   split
   ·rename_i fs hu
    split
    ·rename_i places hp
     split
     ·rename_i pl E;have q:cP C (.build ty parts)=some ⟨rB zero pl s.run⟩:=by
       simp only[cP,hz,hs,hu]
       grind
      rw[cd h1 q];grind[SO.run,BV,rB]
     ·rfl
    ·rfl
   ·rename_i n e hu
    split
    ·rename_i n z;rw[cd h1 (by simp only[cP,hz,hs,hu,z];rfl)];simp only[SO.run,BV,rB,he]<;>rfl
    ·rfl
   ·rfl
  ·rfl
 case h_7 ty len parts =>
  split
  ·rename_i e vs hz w;obtain⟨s,hs,he⟩:=dt w
   split
   ·rename_i sz zero h2 o;rw[aa]
    split
    ·rename_i hc;rw[cd h1 (by simp only[cP,hz,hs,h2,o,hc];rfl)];grind[SO.run,UX,jC]
    ·rfl
   ·rfl
  ·rfl
 case h_8 ty a =>
  split
  ·rename_i a ag n ha h2 o;obtain⟨s,hs,he⟩:=aT ha;simp_all[cd,cP,SO.run,t7,qo]
  ·rfl
 case h_9 ty a x =>
  split
  ·rename_i a x n ha hx o;obtain⟨s,hs,he⟩:=aT ha;obtain⟨p,j,m⟩:=aT hx;simp_all[cd,cP,SO.run,qA,sJ]
  ·rfl
 case h_10 x =>
  split
  ·rename_i a ha;obtain⟨s,hs,he⟩:=aT ha;rw[cd h1 (by simp only[cP,hs];rfl)];grind[SO.run,OV]
  ·rfl
 case h_11 b ty x y yt =>
  split
  ·rename_i x y hx F;obtain⟨s,hs,he⟩:=aT hx;obtain⟨p,j,m⟩:=aT F;rw[cd h1 (by simp only[cP,hs,j];rfl)];simp only[he,m]
   split
   ·split
    ·rename_i hk;simp only[EE,hk];rfl
    ·rename_i ek hk;simp only[SO.run,uz,EE]<;>rfl
   ·split
    ·rename_i hk;simp only[EE,hk];rfl
    ·rename_i ek hk;simp only[SO.run,uz,EE]<;>rfl
   ·rename_i B D;simp only[SO.run,EE,bN]<;>rfl
  ·rfl
 case h_12 u ty x =>
  split
  ·rename_i a ha;obtain⟨s,hs,he⟩:=aT ha;rw[cd h1 (by simp only[cP,hs];rfl)]
   split
   ·simp only[SO.run,VL,unA,he]<;>rfl
   ·rename_i z;simp only[SO.run,RX,unA,he]<;>rfl
  ·rfl
 case h_13 src dst x =>
  split
  ·rename_i a ty k ha h2 o;obtain⟨s,hs,he⟩:=aT ha;rw[cd h1 (by simp only[cP,hs,h2,o];rfl)];grind[SO.run,N7]
  ·rfl
 case h_14 f first captured =>
  split
  ·rename_i a c ha hc;obtain⟨s,hs,he⟩:=dt ha;obtain⟨p,j,m⟩:=dt hc;simp_all[cd,cP,SO.run]
  ·rfl
 case h_15 ty l c =>
  split
  ·rename_i e l c h0 hl hc;obtain⟨s,hs,he⟩:=aT hl;obtain⟨p,j,m⟩:=aT hc
   split
   ·rename_i sz bytes zero h2 o h4;rw[aa]
    split
    ·rename_i hc;rw[cd h1 (by simp only[cP,h0,hs,j,h2,o,h4,hc];rfl)];grind[SO.run,M9,ju]
    ·rfl
   ·rfl
  ·rfl
 case h_16 ty x lo hi =>
  split
  ·rename_i e x l h h0 hx hl q;obtain⟨s,hs,he⟩:=aT hx;obtain⟨p,j,m⟩:=dt hl;obtain⟨A,r,v⟩:=dt q
   split
   all_goals simp_all[cd,cP,SO.run,Au]
  ·rename_i n e x l h h0 hx hl q;obtain⟨s,hs,he⟩:=aT hx;obtain⟨p,j,m⟩:=dt hl;obtain⟨A,r,v⟩:=dt q
   split
   ·rename_i sz h2;rw[cd h1 (by simp only[cP,h0,hs,j,r,h2];rfl)];grind[SO.run,YJ,jS]
   ·rfl
  ·rfl
 case h_17 ty x f =>
  split
  ·rename_i a fo ft ha h0;obtain⟨s,hs,he⟩:=aT ha
   split
   ·rename_i k h2;rw[cd h1 (by simp only[cP,hs,h0,h2];rfl)];grind[SO.run,Sd,mo]
   ·rfl
  ·rfl
 case h_18 ty x f =>
  split
  ·rename_i a fo ft ha h0;obtain⟨s,hs,he⟩:=aT ha
   split
   ·rename_i ag n h2 o;rw[cd h1 (by simp only[cP,hs,h0,h2,o];rfl)];grind[SO.run,XO]
   ·rfl
  ·rfl
 case h_19 ty x ix =>
  split
  ·rename_i a i ha hi;obtain⟨s,hs,he⟩:=aT ha;obtain⟨p,j,m⟩:=aT hi
   split
   ·rename_i e h0
    split
    ·rename_i sz h2;rw[cd h1 (by simp only[cP,hs,j,h0,h2];rfl)];grind[SO.run,Jv,i7]
    ·rfl
   ·rename_i n e h0
    split
    all_goals simp_all[cd,cP,SO.run,FW,qm]
   ·rfl
  ·rfl
 case h_20 ty x ix =>
  split
  ·rename_i a i ha hi;obtain⟨s,hs,he⟩:=aT ha;obtain⟨p,j,m⟩:=aT hi
   split
   ·rename_i n e h0
    split
    all_goals simp_all[cd,cP,SO.run,ixV,Al]
   ·rfl
  ·rfl
 case h_21 x i =>
  split
  ·rename_i a ha;obtain⟨s,hs,he⟩:=aT ha;rw[cd h1 (by simp only[cP,hs];rfl)];grind[SO.run,R9]
  ·rfl
 case h_22=>rfl
theorem sR{xs:List Operand}{os:List Od}(h:qq C xs=some os) :
  (∀o,os=[o]->∃x s,xs=[x]/\aW C x=some s/\∀t,s.run t=o.get t) /\
  (∀o p,os=[o,p]->∃x y s u,xs=[x,y]/\aW C x=some s/\aW C y=some u/\(∀t,s.run t=o.get t)/\∀t,u.run t=p.get t):=by
 refine⟨λo ho=>?_,λo p ho=>?_⟩
 ·subst ho
  match xs,h with
  | [x],h =>
   unfold qq at h
   split at h
   all_goals simp_all[aT]
  | x::y::xs,h =>grind[qq]
 ·subst ho
  match xs,h with
  | [x,y],h =>
   unfold qq at h
   split at h
   ·rename_i a as ha k;unfold qq at k
    split at k
    ·rename_i b bs hb d;injection k with k;subst k;injection h with h;injection h with h1 h2;injection h2 with c h4;subst h1;subst c;obtain⟨s,q,e⟩:=aT ha;obtain⟨s',q',e'⟩:=aT hb<;>grind
    grind
   grind
  | [x],h =>grind[qq]
  | x::y::z::xs,h =>grind[qq]
theorem CA:(Yf C op).run C d rd t g=(bP C op).run (I C) d rd t g:=by
 unfold Yf
 split
 ·rename_i f args ats
  split
  ·rename_i vs l;obtain⟨s,hs,he⟩:=dt l;simp only[SO.run,bP,Uy,hs,ae];cases hx:C.ext f with
   |some e=>grind
   |none=>cases hi:C.Wd f<;>simp only[he]
  ·rfl
 ·rename_i fo args ats o
  split
  ·rename_i f vs hf l;obtain⟨s,hs,he⟩:=dt l;obtain⟨r,p,k⟩:=aT hf;simp_all[SO.run,bP,Uy]
  ·rfl
 ·rename_i b args ats;have hc:b≠.recover->Uy C (.call { callee:=.builtin b,args:=args,argTypes:=ats })=match cP C (.call { callee:=.builtin b,args:=args,argTypes:=ats }) with
    |some s=>some ⟨λ_ _ _ t g=>s.run t g⟩|none=>none:=by
   intro hb;cases b<;>first|rfl|grind
  split
  ·rename_i x hx;obtain⟨y,s,h,hs,he⟩:=(sR hx).1 _ rfl
   split
   all_goals simp_all[cd,cP,eA,SO.run]
  ·rename_i a x hx;obtain⟨y,z,s,u,h,hs,hu,he,k⟩:=(sR hx).2 _ _ rfl
   split
   ·rename_i ty xt i m
    split
    ·rename_i e q h1 h2
     split
     ·rename_i sz bytes zero n h4 h5;rw[aa]
      split
      ·rename_i j;rw[cd (hc (by simp)) (by simp only[cP,eA,h,i,m,hs,hu,h1,h2,n,h4,h5,j];rfl)];grind[SO.run]
      ·rfl
     ·rfl
    ·rfl
   ·rfl
  ·rename_i a x hx;obtain⟨y,z,s,u,h,hs,hu,he,k⟩:=(sR hx).2 _ _ rfl
   split
   ·rename_i ty i
    split
    ·rename_i e h1
     split
     all_goals simp_all[cd,cP,eA,SO.run]
    ·rfl
   ·rfl
  ·rename_i a x hx;obtain⟨y,z,s,u,h,hs,hu,he,k⟩:=(sR hx).2 _ _ rfl;rw[cd (hc (by simp)) (by simp only[cP,eA,h,hs,hu];rfl)];grind[SO.run,mxV]
  ·rename_i a x hx;obtain⟨y,z,s,u,h,hs,hu,he,k⟩:=(sR hx).2 _ _ rfl;rw[cd (hc (by simp)) (by simp only[cP,eA,h,hs,hu];rfl)];grind[SO.run,mnV]
  ·rfl
 ·rename_i h1 h2 n;have key:∀op,(∀c,op≠.call c)->(∀c,op≠.defer c)->Uy C op=match cP C op with|some s=>some ⟨λ_ _ _ t g=>s.run t g⟩|none=>none:=by intro op hc hd;cases op<;>first|rfl|grind|grind
  cases op with
  |call c=>rfl
  |defer c=>rfl
  |_=>exact VF (by grind)
structure SI where
 dst:Option Nat
 gd:Option (Nat×Bool)
 op:SO
inductive SC where
 |skip
 |ops (l:List SI)
 |quiet (l:List SI)
 |Q8 (pm:List Nat) (l:List SI)
 |seq (a b:SC)
 |cond (c:Od) (a b:SC)
 |blk (id:Nat) (b:SC)
 |loop (b:SC)
 |exit (id:Nat)
 |ret
 |Yv (nt:Nat) (f:Od) (ps:List Nat) (assign body:SC)
 |raw (nt:Nat) (c:Code)
def OR.sat(r:OR)(K:AV->G->Prop)(g:G)(D:ZU->Prop):Prop :=
 match r with
 |.fail=>False
 |.val v=>K v g
 |.upd v g'=>K v g'
 |.ZP a=>D a
def CR.sat(r:CR)(Q:Ex->T->List ZU->G->Prop):Prop :=
 match r with
 |.fail=>False
 |.ok e t df g=>Q e t df g
def FR.sat(r:FR)(Q:AV->G->Prop):Prop :=
 match r with
 |.fail=>False
 |.ok v g=>Q v g
def qH(dst:Option Nat)(t:T)(v:AV):T:=match dst with|none=>t|some d=>f_ t d v
abbrev PT:=T->List ZU->G->Prop
abbrev QT:=Ex->T->List ZU->G->Prop
def BP(q:Bool)(A B:PT)(t:T)(df:List ZU)(g:G):Prop:=(q=true->A t df g)/\(q=false->B t df g)
def HB(v:AV)(w:Bool)(A B:PT)(t:T)(df:List ZU)(g:G):Prop :=
 match v with
 |.bool q=>ap w (BP q A B t df g) (BP q B A t df g)
 |.Zz _=>B t df g
 |_=>False
def kO(W:PT)(dst:Option Nat)(t:T)(df:List ZU)(v:AV)(g:G):Prop:=W (qH dst t v) df g
def kD(W:PT)(dst:Option Nat)(t:T)(df:List ZU)(g:G)(a:ZU):Prop:=W (qH dst t .undef) (a::df) g
def sG(C:ZO)(d:Nat)(rd:Option Nat)(i:SI)(W:PT)(t:T)(df:List ZU)(g:G):Prop:=(i.op.run C d rd t g).sat (kO W i.dst t df) g (kD W i.dst t df g)
def C8(i:SI)(W:PT)(t:T)(df:List ZU)(g:G):Prop:=W (qH i.dst t .undef) df g
def RZ(C:ZO)(d:Nat)(rd:Option Nat):List SI->PT->T->List ZU->G->Prop
 |[],Q,t,df,g=>Q t df g
 | i::r,Q,t,df,g =>
  match i.gd with
  |none=>sG C d rd i (RZ C d rd r Q) t df g
  |some (s,w)=>HB (ZY t s) w (sG C d rd i (RZ C d rd r Q)) (C8 i (RZ C d rd r Q)) t df g
def SO.foot(C:ZO)(t:T)(g:G):SO->Looks
 |.load _ _ a=>am (an (a.get t))
 |.store _ a _=>am (an (a.get t))
 |.Vg _ a _ _=>am (an (a.get t))
 |.sla _ _ a _ _=>am (an (a.get t))
 |.SG _ a _=>am (an (a.get t))
 |.app _ _ a x=>am (an (a.get t)++an (x.get t))
 |.cpy _ a x=>am (an (a.get t)++an (x.get t))
 |.mx a x=>am (an (a.get t)++an (x.get t))
 |.mn a x=>am (an (a.get t)++an (x.get t))
 |.len lk a=>match lk with|.map=>am (By (a.get t))|_=>aA
 |.call f as=>ap ((C.ext f).isSome || C.Wd f) (am ((eH t as).flatMap (aB g.h aw))) dj
 | .dyn f as=>match f.get t with
  |.ZH f first cap=>ap ((C.ext f).isSome || C.Wd f) (am ((first++(eH t as++cap)).flatMap (aB g.h aw))) dj
  |_=>dj
 |.raw op=>(aL C op).run t g
 |_=>aA
abbrev FT:=T->List ZU->G->List ZC->Prop
def kF(W:FT)(dst:Option Nat)(t:T)(df:List ZU)(lg:List Nat)(fs:List ZC)(lk:Looks)(v:AV)(g':G):Prop:=W (qH dst t v) df (lC g' (g'.lg++lg)) (⟨lk,g'.lg⟩::fs)
def QY(C:ZO)(d:Nat)(rd:Option Nat)(i:SI)(W:FT)(fs:List ZC)(t:T)(df:List ZU)(g:G):Prop :=(i.op.run C d rd t (aS g [])).sat (kF W i.dst t df g.lg fs (i.op.foot C t g)) (aS g []) (λ_=>False)
def L9(i:SI)(W:FT)(fs:List ZC)(t:T)(df:List ZU)(g:G):Prop:=W (qH i.dst t .undef) df g (⟨aA,[]⟩::fs)
def XU(C:ZO)(d:Nat)(rd:Option Nat)(pm:List Nat):List SI->PT->T->List ZU->G->List ZC->Prop
 |[],Q,t,df,g,fs=>lp pm fs.reverse=true/\Q t df g
 | i::r,Q,t,df,g,fs =>
  match i.gd with
  |none=>QY C d rd i (XU C d rd pm r Q) fs t df g
  |some (s,w)=>HB (ZY t s) w (QY C d rd i (XU C d rd pm r Q) fs) (L9 i (XU C d rd pm r Q) fs) t df g
def kS(W:PT)(Q:QT)(e:Ex)(t:T)(df:List ZU)(g:G):Prop:=match e with|.norm=>W t df g|e=>Q e t df g
def kB(id:Nat)(Q:QT)(e:Ex)(t:T)(df:List ZU)(g:G):Prop:=match e with|.exit j=>ap (Nat.beq j id) (Q .norm t df g) (Q (.exit j) t df g)|e=>Q e t df g
def kL(Inv:Nat->PT)(k:Nat)(Q:QT)(e:Ex)(t:T)(df:List ZU)(g:G):Prop:=match e with|.norm=>∃k',k'<k/\Inv k' t df g|e=>Q e t df g
def kQ(g0:G)(Q:QT)(t:T)(df:List ZU)(g:G):Prop:=g.lg=[]/\g.nx=g0.nx/\Q .norm t df g0
def wpC(v:AV)(A B:PT)(t:T)(df:List ZU)(g:G):Prop:=match v with|.bool q=>BP q A B t df g|_=>False
def Uk(W:QT->PT)(Q:QT)(t:T)(df:List ZU)(g:G):Prop :=∃Inv:Nat->PT,(∃k,Inv k t df g)/\∀k t df g,Inv k t df g->W (kL Inv k Q) t df g
def nGd(all:List Oper):Option (Nat×Bool)->Option (Option (Nat×Bool))
 |none=>some none
 | some (j,w)=>match all[j]? with
  | some o=>match o.dst with
   |some d=>some (some (d,w))
   |none=>none
  |none=>none
def YC(nt:Nat):Option Nat->Bool
 |none=>true
 |some d=>Nat.blt d nt
def JC(C:ZO)(nt:Nat)(all:List Oper):List Oper->Option (List SI)
 |[]=>some []
 | o::rest=>match YC nt o.dst,nGd all o.guard,JC C nt all rest with
  |true,some gd,some r=>some (⟨o.dst,gd,Yf C o.op⟩::r)
  |_,_,_=>none
def cx(C:ZO)(nt:Nat):Code->SC
 |.skip=>.skip
 |.label _=>.skip
 | .region p ops draw=>match JC C nt ops.toList ops.toList with
  |some l=>ap draw (ap (JJ ops.toList) (ap (ops.toList.all λo=>Ei C o.op) (.quiet l) (.Q8 (bO ops.toList []) l)) (.raw nt (.region p ops draw))) (.ops l)
  |none=>.raw nt (.region p ops draw)
 |.seq a b=>.seq (cx C nt a) (cx C nt b)
 | .cond c a b=>match YX C c with
  |some c=>.cond c (cx C nt a) (cx C nt b)
  |none=>.raw nt (.cond c a b)
 |.block id b=>.blk id (cx C nt b)
 |.loop b=>.loop (cx C nt b)
 |.scope b=>cx C nt b
 |.exit id=>.exit id
 |.ret=>.ret
 | .rangeFunc f ps assign body=>match YX C f with
  |some f=>.Yv nt f ps.toList (cx C nt assign) (cx C nt body)
  |none=>.raw nt (.rangeFunc f ps assign body)
 |c=>.raw nt c
def wp(C:ZO)(d:Nat)(rd:Option Nat):SC->QT->T->List ZU->G->Prop
 |.skip,Q,t,df,g=>Q .norm t df g
 |.ops l,Q,t,df,g=>RZ C d rd l (Q .norm) t df g
 |.quiet l,Q,t,df,g=>RZ C d rd l (kQ g Q) t df (aS g [])
 |.Q8 pm l,Q,t,df,g=>XU C d rd pm l (Q .norm) t df g []
 |.seq a b,Q,t,df,g=>wp C d rd a (kS (wp C d rd b Q) Q) t df g
 |.cond c a b,Q,t,df,g=>wpC (c.get t) (wp C d rd a Q) (wp C d rd b Q) t df g
 |.blk id b,Q,t,df,g=>wp C d rd b (kB id Q) t df g
 |.loop b,Q,t,df,g=>Uk (wp C d rd b) Q t df g
 |.exit id,Q,t,df,g=>Q (.exit id) t df g
 |.ret,Q,t,df,g=>Q .ret t df g
 |.Yv nt f ps a b,Q,t,df,g=>∀assign body,cx C nt assign=a->cx C nt body=b->(qu C nt (λt=>f.get t) ps assign body (I C) d rd t df g).sat Q
 |.raw nt c,Q,t,df,g=>((aR C nt c).run (I C) d rd t df g).sat Q
theorem Eg{dst:Option Nat}(h:YC nt dst=true):∃o,ua nt dst=some o/\∀t v,o.run t v=qH dst t v:=by
 cases dst with
 |none=>exact⟨_,rfl,λt v=>rfl⟩
 | some d =>refine⟨sp AV.undef d,?_,λt v=>rfl⟩;have h:Nat.blt d nt=true:=h;simp only[ua,h]
theorem yy{all:List Oper}{w:Bool}{r:Option (Nat×Bool)}(h:nGd all (some (j,w))=some r) :
  ∃s,r=some (s,w)/\jZ all (some (j,w))=some ⟨λt=>match (gp AV.undef s).run t with|.bool b=>some (ap w b (lq b))|.Zz _=>some false|_=>none⟩:=by
 unfold nGd at h;dsimp only at h
 split at h
 ·rename_i o ho
  split at h
  ·rename_i d hd;injection h with h;exact⟨d,h.symm,by grind[jZ]⟩
  grind
 grind
theorem Gw{out:T->AV->T}{dst:Option Nat}(ho:∀t v,out t v=qH dst t v){next:T->List ZU->G->CR}{Q:QT}{K:PT}(hk:∀t df g,K t df g->(next t df g).sat Q)
      (h:r.sat (kO K dst t df) g (kD K dst t df g)):(sL out next t df g r).sat Q:=by
 cases r with
 |fail=>exact h.elim
 |val v=>exact hk _ _ _ (by rw[ho];exact h)
 |upd v g'=>exact hk _ _ _ (by rw[ho];exact h)
 |ZP a=>exact hk _ _ _ (by rw[ho];exact h)
theorem FF{w:Bool}{A B:PT}(h:HB v w A B t df g) :
  ∃q,(match v with|.bool b=>some (ap w b (lq b))|.Zz _=>some false|_=>none:Option Bool)=some q/\(q=true->A t df g)/\(q=false->B t df g):=by
 unfold HB at h
 split at h
 ·rename_i q;rw[aa]at h;refine⟨_,rfl,?_,?_⟩
  ·cases w<;>cases q<;>simp_all [BP]
  ·cases w<;>cases q<;>simp_all [BP]
 all_goals grind
theorem UA{all:List Oper}{Q:QT}:∀(l:List Oper) (s:List SI),JC C nt all l=some s->∀t df g,RZ C d rd s (Q .norm) t df g ->
  ((lV C nt all l).run (I C) d rd t df g).sat Q:=by
 intro l
 induction l with
 |nil=>intro s h t df g hq;injection h with h;subst h;exact hq
 | cons o rest ih =>
  intro s h t df g hq;unfold JC at h
  split at h
  ·rename_i gd r hd hg hr;injection h with h;subst h;obtain⟨ot,e1,k⟩:=Eg hd;unfold lV;rw[e1];dsimp only;cases hgd:o.guard with
   | none =>rw[hgd]at hg;injection hg with hg;subst hg;dsimp only;rw[<-CA];exact Gw k (by grind) hq
   | some jw =>
    obtain⟨j,w⟩:=jw;rw[hgd]at hg;obtain⟨sl,h1,h2⟩:=yy hg;subst h1;dsimp only;rw[h2];dsimp only;obtain⟨q,a,h4,h5⟩:=FF hq;have:(gp AV.undef sl).run t=ZY t sl:=WA _ _ _;rw[this,a];cases q with
    | true =>dsimp only;rw[<-CA];exact Gw k (by grind) (h4 rfl)
    | false =>dsimp only;rw[k];exact ih r hr _ _ _ (h5 rfl)
  grind
theorem Qz(hc:∀c,op≠.call c):(JD C op).foot C t g=(aL C op).run t g:=by
 have k:∀{x:Operand} {o:Od},YX C x=some o->∃s,aW C x=some s/\∀t,s.run t=o.get t:=aT;unfold JD
 split
 case h_8 ty a =>
  split
  ·rename_i a ag n ha h2 b;obtain⟨s,hs,he⟩:=k ha;simp_all[aL,SO.foot]
  ·rfl
 case h_9 ty a x =>
  split
  ·rename_i a x n ha hx b;obtain⟨s,hs,he⟩:=k ha;simp_all[aL,SO.foot]
  ·rfl
 case h_16 ty x lo hi =>
  split
  ·rename_i e x l h h0 hx hl d;obtain⟨s,hs,he⟩:=k hx
   split
   all_goals simp_all[aL,SO.foot]
  ·rename_i n e x l h h0 hx hl d;obtain⟨s,hs,he⟩:=k hx
   split
   all_goals simp_all[aL,SO.foot]
  ·rfl
 case h_19 ty x ix =>
  split
  ·rename_i a i ha hi;obtain⟨s,hs,he⟩:=k ha
   split
   ·rename_i e h0
    split
    all_goals simp_all[aL,SO.foot]
   ·rename_i n e h0
    split
    all_goals simp_all[aL,SO.foot]
   ·rfl
  ·rfl
 all_goals (repeat' (first|rfl|split|rw[aa]))
theorem Tl:(Yf C op).foot C t g=(aL C op).run t g:=by
 unfold Yf
 split
 ·rename_i f args ats
  split
  ·rename_i vs i;obtain⟨s,hs,he⟩:=dt i;simp_all[SO.foot,aL,aW]
  ·rfl
 ·rename_i fo args ats j
  split
  ·rename_i f vs hf i;obtain⟨s,hs,he⟩:=dt i;obtain⟨m,d,k⟩:=aT hf;simp only[SO.foot,aL,hs,d,he,k]
   grind
  ·rfl
 ·rename_i b args ats
  split
  ·rename_i x hx;obtain⟨s,hs,he⟩:=dt hx
   split
   ·rename_i ty e;simp only[SO.foot,aL,hs,he,eH,X4,TO,VM,oO,e];cases oU C.P ty<;>rfl
   ·rfl
  ·rename_i a x hx;obtain⟨s,hs,he⟩:=dt hx;have h:(aL C (.call { callee:=.builtin .append,args:=args,argTypes:=ats })).run t g=am (an (a.get t)++an (x.get t)):=by simp_all[aL,eH,oO]
   split
   ·split
    ·split
     ·rw[aa];split
      ·exact h.symm
      ·rfl
     ·rfl
    ·rfl
   ·rfl
  ·rename_i a x hx;obtain⟨s,hs,he⟩:=dt hx;have h:(aL C (.call { callee:=.builtin .copy,args:=args,argTypes:=ats })).run t g=am (an (a.get t)++an (x.get t)):=by simp_all[aL,eH,oO]
   split
   ·split
    ·split
     ·exact h.symm
     ·rfl
    ·rfl
   ·rfl
  ·rename_i a x hx;obtain⟨s,hs,he⟩:=dt hx;simp_all[SO.foot,aL,eH,oO]
  ·rename_i a x hx;obtain⟨s,hs,he⟩:=dt hx;simp_all[SO.foot,aL,eH,oO]
  ·rfl
 ·rename_i h1 h2 l;cases op with
  |call c=>rfl
  |_=>exact Qz (by grind)
theorem Yn{all:List Oper}{Q:QT}:∀(l:List Oper) (s:List SI) (k:Nat),JC C nt all l=some s->∀t df g fs,XU C d rd pm s (Q .norm) t df g fs ->
  ((jY C nt pm all k l).run (I C) d rd t df g fs).sat Q:=by
 intro l
 induction l with
 | nil =>intro s k h t df g fs hq;injection h with h;subst h;obtain⟨h1,h2⟩:=hq;unfold jY;dsimp only;rw[h1];exact h2
 | cons o rest ih =>
  intro s k h t df g fs hq;unfold JC at h
  split at h
  ·rename_i gd r hd hg hr;injection h with h;subst h;obtain⟨ot,e1,b⟩:=Eg hd;have step:∀{x:OR},x.sat (kF (XU C d rd pm r (Q .norm)) o.dst t df g.lg fs ((Yf C o.op).foot C t g)) (aS g []) (λ_=>False) ->
     (nB ot.run ((jY C nt pm all (k+1) rest).run (I C) d rd) t df g fs ((aL C o.op).run t g) x).sat Q:=by
    intro x hx;rw[Tl]at hx;cases x with
    |fail=>exact hx.elim
    | val v =>simp only[nB,b];refine ih r _ hr _ _ _ _ ?_;have hx:XU C d rd pm r (Q .norm) (qH o.dst t v) df (lC (aS g []) ((aS g []).lg++g.lg)) (⟨(aL C o.op).run t g,(aS g []).lg⟩::fs):=hx;obtain⟨h,nx,lg⟩:=g;exact hx
    | upd v g' =>simp only[nB,b];exact ih r _ hr _ _ _ _ hx
    |ZP a=>exact hx.elim
   unfold jY;rw[e1];cases hgd:o.guard with
   | none =>rw[hgd]at hg;injection hg with hg;subst hg;simp only[jZ];rw[<-CA];exact step hq
   | some jw =>
    obtain⟨j,w⟩:=jw;rw[hgd]at hg;obtain⟨sl,h1,h2⟩:=yy hg;subst h1;rw[h2];dsimp only;obtain⟨q,c,h4,h5⟩:=FF hq;have:(gp AV.undef sl).run t=ZY t sl:=WA _ _ _;rw[this,c];cases q with
    | true =>dsimp only;rw[<-CA];exact step (h4 rfl)
    | false =>dsimp only;rw[b];exact ih r _ hr _ _ _ _ (h5 rfl)
  grind
theorem CR.sat_mono{r:CR}{Q Q':QT}(h:r.sat Q)(hq:∀e t df g,Q e t df g->Q' e t df g):r.sat Q':=by
 cases r with
 |fail=>exact h
 |ok e t df g=>exact hq _ _ _ _ h
theorem UG:∀(c:Code) (Q:QT) (t:T) (df:List ZU) (g:G),wp C d rd (cx C nt c) Q t df g->((aR C nt c).run (I C) d rd t df g).sat Q:=by
 intro c
 induction c with
 | seq a b iha ihb =>
  intro Q t df g h;have h:=iha _ t df g h;show (HH _ ((aR C nt a).run (I C) d rd t df g)).sat Q;cases hr:(aR C nt a).run (I C) d rd t df g with
  |fail=>rw[hr]at h;exact h
  | ok e t1 df1 g1 =>
   rw[hr]at h;cases e with
   |norm=>exact ihb _ _ _ _ h
   |exit j=>exact h
   |ret=>exact h
 | cond q a b iha ihb =>
  intro Q t df g h;unfold cx at h
  split at h
  ·rename_i o ho;obtain⟨s,hs,he⟩:=aT ho;simp only[aR,hs,he];have h:wpC (o.get t) (wp C d rd (cx C nt a) Q) (wp C d rd (cx C nt b) Q) t df g:=h;unfold wpC at h;cases hv:Od.get t o with
   | bool v =>
    rw[hv]at h;cases v with
    |true=>exact iha _ _ _ _ (h.1 rfl)
    |false=>exact ihb _ _ _ _ (h.2 rfl)
   |_=>grind
  ·exact h
 | block id body ih =>
  intro Q t df g h;have h:=ih _ t df g h;show (zE id ((aR C nt body).run (I C) d rd t df g)).sat Q;cases hr:(aR C nt body).run (I C) d rd t df g with
  |fail=>rw[hr]at h;exact h
  | ok e t1 df1 g1 =>
   rw[hr]at h;cases e with
   |norm=>exact h
   | exit j =>
    have h:ap (Nat.beq j id) (Q .norm t1 df1 g1) (Q (.exit j) t1 df1 g1):=h;show (ap (Nat.beq j id) _ _:CR).sat Q;cases hb:Nat.beq j id
    ·rw[hb]at h;exact h
    ·rw[hb]at h;exact h
   |ret=>exact h
 | loop body ih =>
  intro Q t df g h;obtain⟨Inv,⟨k,hk⟩,hs⟩:=h
  induction k using Nat.strongRecOn generalizing t df g with
  | _ k rec =>
   have h:=ih _ t df g (hs k t df g hk);show (HH (λt df g=>(I C).code nt d rd (.loop body) t df g) ((aR C nt body).run (I C) d rd t df g)).sat Q;cases hr:(aR C nt body).run (I C) d rd t df g with
   |fail=>rw[hr]at h;exact h
   | ok e t1 df1 g1 =>
    rw[hr]at h;cases e with
    | norm =>
     obtain⟨k',hlt,hi⟩:=h;show ((I C).code nt d rd (.loop body) t1 df1 g1).sat Q
     grind[IQ]
    |exit j=>exact h
    |ret=>exact h
 |scope body ih=>intro Q t df g h;exact ih _ _ _ _ h
 | region p ops draw =>
  intro Q t df g h;show ((im C nt ops.toList draw).run (I C) d rd t df g).sat Q;unfold cx at h
  split at h
  ·rename_i l hl;rw[aa,aa,aa]at h;unfold im;rw[aa,aa,aa]
   split
   ·rename_i hd;rw[ZN hd]at h
    split
    ·rename_i ho;rw[ZN ho]at h
     split
     ·rename_i hq;rw[ZN hq]at h;have h:RZ C d rd l (kQ g Q) t df (aS g []):=h;have h:=UA (C:=C) (d:=d) (rd:=rd) (Q:=λe t df g'=>e=.norm/\g'.lg=[]/\g'.nx=g.nx/\Q .norm t df g) (nt:=nt) (all:=ops.toList) ops.toList l hl t df (aS g [])
       (by refine cast ?_ h;congr 1;funext t df g';simp[kQ])
      dsimp only;cases hr:(lV C nt ops.toList ops.toList).run (I C) d rd t df (aS g []) with
      |fail=>rw[hr]at h;exact h
      | ok e t1 df1 g1 =>rw[hr]at h;obtain⟨h0,h1,h2,i⟩:=h;subst h0;simp only[qt,h1,h2,X_];exact i
     ·rename_i hq;rw[ZF hq]at h;exact Yn _ l 0 hl _ _ _ _ h
    ·rename_i ho;rw[ZF ho]at h;unfold wp at h;simp only[aR,im,aa,ZN hd,ZF ho]at h;exact h
   ·rename_i hd;rw[ZF hd]at h;exact UA _ l hl _ _ _ h
  ·exact h
 | rangeFunc f ps assign body _ _ =>
  intro Q t df g h;unfold cx at h
  split at h
  ·rename_i o ho;obtain⟨s,hs,he⟩:=aT ho;have he:s.run=λt=>o.get t:=funext he;simp only[aR,hs,he];exact h assign body rfl rfl
  ·exact h
 |skip=>intro Q t df g h;exact h
 |label l=>intro Q t df g h;exact h
 |exit id=>intro Q t df g h;exact h
 |ret=>intro Q t df g h;exact h
 |goto l=>intro Q t df g h;exact h
 |refuse w=>intro Q t df g h;exact h
theorem OR.sat_mono{K K':AV->G->Prop}{D D':ZU->Prop}(h:r.sat K g D)(hk:∀v g',K v g'->K' v g')(hd:∀a,D a->D' a):r.sat K' g D':=by
 cases r with
 |fail=>exact h
 |val v=>exact hk _ _ h
 |upd v g'=>exact hk _ _ h
 |ZP a=>exact hd _ h
inductive SR where
 |tm (n:Nat)
 |cell (ag:Bool) (n a:Nat)
structure SF where
 nt:Nat
 res:List SR
 code:SC
def DT(C:ZO):List ResultVar->Option (List SR)
 |[]=>some []
 | .tmp n::rs=>match DT C rs with
  |some k=>some (.tm n::k)
  |none=>none
 | .cell a ty::rs=>match DT C rs,wC C.P ty,R6 C.P ty with
  |some k,some ag,some n=>some (.cell ag n a::k)
  |_,_,_=>none
def ZE(C:ZO)(f:Nat):Option SF :=
 match C.P.funcs[f]? with
 |none=>none
 | some fn=>match fn.body with
  |none=>none
  | some c=>match DT C fn.results.toList with
   | some r => ap (fn.name == "runtime.NumGoroutine") none (some ⟨fn.ntmps, r, cx C fn.ntmps c⟩)
   |none=>none
def At:List SR->T->G->(List AV->Prop)->Prop
 |[],_,_,K=>K []
 |.tm n::rs,t,g,K=>At rs t g λvs=>K (ZY t n::vs)
 | .cell ag n a::rs,t,g,K=>match t7 ag n (ZY t a) g with
  |.val v=>At rs t g λvs=>K (v::vs)
  |_=>False
theorem JR:∀(l:List ResultVar) (r:List SR) (K:List AV->Prop),DT C l=some r->At r t g K->∃s vs,rC C l=some s/\s.run t g=some vs/\K vs:=by
 intro l
 induction l with
 |nil=>intro r K h hk;injection h with h;subst h;exact⟨_,[],rfl,rfl,hk⟩
 | cons x l ih =>
  intro r K h hk;cases x with
  | tmp n =>
   unfold DT at h
   split at h
   ·rename_i k hr;injection h with h;subst h;obtain⟨s,vs,h1,h2,b⟩:=ih k _ hr hk;refine⟨⟨λt g=>match s.run t g with|some vs=>some ((gp AV.undef n).run t::vs)|none=>none⟩,ZY t n::vs,by grind[rC],?_,b⟩;simp only[h2,WA];rfl
   grind
  | cell a ty =>
   unfold DT at h
   split at h
   ·rename_i k ag n hr ha c;injection h with h;subst h;unfold At at hk
    split at hk
    ·rename_i v d;obtain⟨s,vs,h1,h2,b⟩:=ih k _ hr hk;have hl:qo ag n (gp AV.undef a).run t g=.val v:=by rw[<-d];simp only[t7,qo,WA];rfl
     refine⟨⟨λt g=>match qo ag n (gp AV.undef a).run t g with|.val v=>(match s.run t g with|some vs=>some (v::vs)|none=>none)|_=>none⟩,v::vs,
      by simp only[rC,h1,cP,aW,ha,c];rfl,?_,b⟩
     grind
    grind
   grind
def yZ(C:ZO)(d:Nat)(r:List SR)(t:T)(df:List ZU)(g:G)(K:AV->G->Prop):Prop :=
 match gM (I C) d df g with
 |some g'=>At r t g' λvs=>K (lz vs) g'
 |none=>False
def Xs(C:ZO)(d:Nat)(r:List SR)(K:AV->G->Prop):QT:=λe t df g=>match e with|.exit _=>False|_=>yZ C d r t df g K
theorem j5{f:Nat}{s:SF}(hf:ZE C f=some s){as:List AV}{K:AV->G->Prop}(hl:as.length<=s.nt)(h:wp C d none s.code (Xs C d s.res K) (bk 0 as .nil) [] g) :
  ((I C).call d f as g).sat K:=by
 rw[Xm];unfold ZE at hf
 split at hf
 ·cases hf
 rename_i fn b
 split at hf
 ·cases hf
 rename_i c hc
 split at hf
 rotate_left
 ·cases hf
 rename_i r hr;rw[aa]at hf
 split at hf
 ·cases hf
 rename_i n;injection hf with hf;subst hf;have h:=UG c _ _ _ _ h;have k:∃s,rC C fn.results.toList=some s:=by
  have:∀(l:List ResultVar) (r:List SR),DT C l=some r->∃s,rC C l=some s:=by
   intro l
   induction l with
   |nil=>intro r _;exact⟨_,rfl⟩
   | cons x l ih =>intro r h;cases x<;>grind[DT,rC,cP,aW]
  grind
 obtain⟨rs,a⟩:=k;unfold gc YE;simp only[b,hc,a,aa,ZF n];rw[ZN (by grind[ax,R1])];cases hrun:(aR C fn.ntmps c).run (I C) d none (bk 0 as .nil) [] g with
 |fail=>rw[hrun]at h;exact h
 | ok e t df g' =>
  rw[hrun]at h;have key:yZ C d r t df g' K->(cp (I C) d rs.run t df g').sat K:=by
   intro h;unfold yZ at h;unfold cp
   split at h
   ·rename_i g2 i;rw[i];obtain⟨o,vs,h1,h2,m⟩:=JR _ _ _ hr h;rw[a]at h1;injection h1 with h1;subst h1;simp only[h2];exact m
   grind
  cases e with
  |exit j=>exact h
  |norm=>exact key h
  |ret=>exact key h
def ZL{α β:Type}(R:α->β->Prop):List α->List β->Prop
 |[],[]=>True
 |a::as,b::bs=>R a b/\ZL R as bs
 |_,_=>False
section all2
variable {α β:Type}{R S:α->β->Prop}
theorem ZL.len:∀{l:List α} {m:List β},ZL R l m->l.length=m.length
 |[],[],_=>rfl
 |_::_,_::_,h=>by simp only[V8,ZL.len h.2]
theorem ZL.mono(hs:∀a b,R a b->S a b):∀{l:List α} {m:List β},ZL R l m->ZL S l m
 |[],[],_=>trivial
 |_::_,_::_,h=>⟨hs _ _ h.1,ZL.mono hs h.2⟩
theorem ZL.get:∀{l:List α} {m:List β},ZL R l m->∀{i:Nat} {a:α},l[i]?=some a->∃b,m[i]?=some b/\R a b
 |_::_,b::_,h,0,_,e=>by simp at e;subst e;exact⟨b,rfl,h.1⟩
 |_::_,_::_,h,i+1,a,e=>by simpa using ZL.get h.2 (i:=i) (by grind)
 |[],[],_,i,a,e=>by simp at e
theorem ZL.append:∀{l:List α} {m:List β} {l':List α} {m':List β},ZL R l m->ZL R l' m'->ZL R (l++l') (m++m')
 |[],[],_,_,_,h'=>h'
 |_::_,_::_,_,_,h,h'=>⟨h.1,ZL.append h.2 h'⟩
theorem ZL.take:∀{l:List α} {m:List β},ZL R l m->∀(i:Nat),ZL R (l.take i) (m.take i)
 |[],[],_,_=>by grind
 |_::_,_::_,h,0=>by simp[ZL]
 |_::_,_::_,h,i+1=>⟨h.1,ZL.take h.2 i⟩
theorem ZL.drop:∀{l:List α} {m:List β},ZL R l m->∀(i:Nat),ZL R (l.drop i) (m.drop i)
 |[],[],_,_=>by grind
 |_::_,_::_,h,0=>h
 |_::_,_::_,h,i+1=>ZL.drop h.2 i
theorem Y7{f:α->β}(h:∀a,R a (f a)):∀l:List α,ZL R l (l.map f)
 |[]=>trivial
 |a::l=>⟨h a,Y7 h l⟩
theorem ZL.eq_map{f:α->β}(hf:∀a b,R a b->b=f a):∀{l:List α} {m:List β},ZL R l m->m=l.map f
 |[],[],_=>rfl
 |a::l,b::m,h=>by rw[Qv,hf _ _ h.1,ZL.eq_map hf h.2]
end all2
def ZX:Nat->Prop:=λ_=>False
class Rp (α:Type) where
 sz:Nat
 dp:Nat
 rp:(Nat->Prop)->Nat->H->α->List AV->Prop
 len:∀{P k h x cs},rp P k h x cs->cs.length=sz
 mono:∀{P P':Nat->Prop} {k k':Nat} {h h':H} {x:α} {cs:List AV},rp P k h x cs->(∀i,P i->P' i/\h'.get i=h.get i)->k<=k'->rp P' k' h' x cs
 ZS:∀{P k h x cs n} (d:Nat),rp P k h x cs->dp<=n->dp<=aw->∃cs',aD (Hx.ZS h d n) cs=some cs'/\rp ZX (max k d) .nil x cs'
 same:∀{k h x cs n} (d:Nat),rp ZX k h x cs->dp<=n->aD (Hx.ZS h d n) cs=some cs
 ids:∀{P k h x cs n},rp P k h x cs->∀i∈cs.flatMap (aB h n),P i
 tag:∀{k h x cs n},rp ZX k h x cs->dp<=n->∃m,jv (fZ n) cs=some m/\m<=k
theorem Rp.tree{α:Type} [Rp α]{P:Nat->Prop}{k':Nat}{h':H}{x:α}(r:Rp.rp ZX k h x cs)(hk:k<=k'):Rp.rp P k' h' x cs :=Rp.mono r (λ_ h=>h.elim) hk
def AV.flat:AV->Bool
 |.bool _|.int _ _|.str _=>true
 |_=>false
theorem ID(hv:v.flat=true)(hn:1<=n):Hx.ZS h d n v=some v:=by obtain⟨n,rfl⟩:∃m,n=m+1:=⟨n - 1,by omega⟩;cases v<;>first|rfl|cases hv
theorem Uo(hv:v.flat=true)(hn:1<=n):fZ n v=some 0:=by obtain⟨n,rfl⟩:∃m,n=m+1:=⟨n - 1,by omega⟩;cases v<;>first|rfl|cases hv
theorem SK{h:H}{n:Nat}{v:AV}(hv:v.flat=true):aB h n v=[]:=by
 cases n with
 |zero=>rfl
 |succ n=>cases v<;>first|rfl|cases hv
@[reducible] def Rp.plain {α:Type} (f:α->AV) (ok:α->Prop) (hf:∀x,(f x).flat=true):Rp α where
 sz:=1
 dp:=1
 rp:=λ_ _ _ x cs=>cs=[f x]/\ok x
 len:=by grind
 mono:=λr _ _=>r
 ZS:=by simp_all[aD,ID]
 same:=by simp_all[aD,ID]
 ids:=by simp_all[SK]
 tag:=by simp_all[jv,Uo]
def ci(x:Int):List AV:=[.int .i64 x]
def cu(x:Nat):List AV:=[.int .u64 (x:Int)]
instance : Rp Int:=Rp.plain (λx=>.int .i64 x) (λ_=>True) (λ_=>rfl)
instance : Rp Bool:=Rp.plain (λx=>.bool x) (λ_=>True) (λ_=>rfl)
instance : Rp Nat:=Rp.plain (λx=>.int .u64 (x:Int)) (λx=>x<2^64) (λ_=>rfl)
instance : Rp UInt8:=Rp.plain (λx=>.int .u8 (x.toNat:Int)) (λ_=>True) (λ_=>rfl)
instance : Rp UInt16:=Rp.plain (λx=>.int .u16 (x.toNat:Int)) (λ_=>True) (λ_=>rfl)
theorem xY{α β:Type}{f:α->Option β}:∀{l m:List α} {a b:List β},aD f l=some a->aD f m=some b->aD f (l++m)=some (a++b)
 |[],m,a,b,h1,h2=>by injection h1 with h1;grind
 | x::l,m,a,b,h1,h2=>by
  unfold aD at h1
  split at h1
  ·rename_i y k
   split at h1
   ·rename_i ys h;injection h1 with h1;subst h1;simp only[ML,aD,k,xY h h2]
   ·cases h1
  ·cases h1
theorem CZ{α:Type}{f:α->Option Nat}:∀{l m:List α} {a b:Nat},jv f l=some a->jv f m=some b->jv f (l++m)=some (max a b)
 |[],m,a,b,h1,h2=>by injection h1 with h1;grind
 | x::l,m,a,b,h1,h2=>by
  unfold jv at h1
  split at h1
  ·rename_i y k
   split at h1
   ·rename_i ys h;injection h1 with h1;subst h1;simp only[ML,jv,k,CZ h h2,P5,Nat.max_def]
    repeat' split
    all_goals omega
   ·cases h1
  ·cases h1
instance {α β:Type} [Rp α] [Rp β]:Rp (α×β) where
 sz:=Rp.sz α+Rp.sz β
 dp:=max (Rp.dp α) (Rp.dp β)
 rp:=λP k h x cs=>∃a b,cs=a++b/\Rp.rp P k h x.1 a/\Rp.rp P k h x.2 b
 len:=by rintro P k h x cs ⟨a,b,rfl,h1,h2⟩;rw[J6,Rp.len h1,Rp.len h2]
 mono:=by rintro P P' k k' h h' x cs ⟨a,b,rfl,h1,h2⟩ hp hk;exact⟨a,b,rfl,Rp.mono h1 hp hk,Rp.mono h2 hp hk⟩
 ZS:=by rintro P k h x cs n d ⟨a,b,rfl,h1,h2⟩ hn hA;obtain⟨a',e1,r1⟩:=Rp.ZS (n:=n) d h1 (by omega) (by omega);obtain⟨b',e2,r2⟩:=Rp.ZS (n:=n) d h2 (by omega) (by omega);exact⟨a'++b',xY e1 e2,a',b',rfl,r1,r2⟩
 same:=by rintro k h x cs n d ⟨a,b,rfl,h1,h2⟩ hn;exact xY (Rp.same d h1 (by omega)) (Rp.same d h2 (by omega))
 ids:=by
  rintro P k h x cs n ⟨a,b,rfl,h1,h2⟩ i hi;rw[afj,Tn]at hi;rcases hi with hi|hi
  ·exact Rp.ids h1 i hi
  ·exact Rp.ids h2 i hi
 tag:=by rintro k h x cs n ⟨a,b,rfl,h1,h2⟩ hn;obtain⟨m1,e1,l1⟩:=Rp.tag (n:=n) h1 (by omega);obtain⟨m2,e2,l2⟩:=Rp.tag (n:=n) h2 (by omega);exact⟨max m1 m2,CZ e1 e2,by omega⟩
@[reducible] def Rp.via {α β:Type} [Rp β] (f:α->β):Rp α where
 sz:=Rp.sz β
 dp:=Rp.dp β
 rp:=λP k h x cs=>Rp.rp P k h (f x) cs
 len:=Rp.len
 mono:=Rp.mono
 ZS:=Rp.ZS
 same:=Rp.same
 ids:=Rp.ids
 tag:=Rp.tag
def NJ{α:Type} [Rp α](P:Nat->Prop)(k:Nat)(h:H)(l:List α)(v:AV):Prop :=
 match v with
 |.Z6|.TT=>l=[]
 |.Zs t s rows=>t<=k/\(s=Rp.sz α\/rows=[])/\ZL (Rp.rp ZX k .nil) l rows
 |.ZG id _ _ _ _=>P id/\∃rows,ak h (Rp.sz α) v=some rows/\ZL (Rp.rp P k h) l rows
 |_=>False
def ZT{α:Type} [Rp α](P:Nat->Prop)(k:Nat)(h:H)(l:List α)(v:AV):Prop:=l.length<2^63/\NJ P k h l v
theorem ZT.rows{α:Type} [Rp α]{P:Nat->Prop}{k:Nat}{h:H}{l:List α}{v:AV}(r:ZT P k h l v):∃rows,ak h (Rp.sz α) v=some rows/\ZL (Rp.rp P k h) l rows:=by
 have r:=r.2;unfold NJ at r
 split at r
 ·subst r;exact⟨[],rfl,trivial⟩
 ·subst r;exact⟨[],rfl,trivial⟩
 ·obtain⟨h1,h2,c⟩:=r;refine⟨_,?_,c.mono λa b r=>Rp.tree r (ZV _)⟩;simp only[ak];rw[aa];rcases h2 with h2|h2
  ·subst h2;simp
  ·subst h2;simp
 ·exact r.2
 ·exact r.elim
theorem Im{α β γ:Type}{R:α->β->Prop}{S:α->γ->Prop}{f:β->Option γ}(hf:∀a b,R a b->∃c,f b=some c/\S a c):∀{l:List α} {m:List β},ZL R l m->∃r,aD f m=some r/\ZL S l r
 |[],[],_=>⟨[],rfl,trivial⟩
 | a::l,b::m,h=>by obtain⟨c,e1,k⟩:=hf a b h.1;obtain⟨r,e,d⟩:=Im hf h.2;exact⟨c::r,by grind[aD],k,d⟩
theorem Io{α β:Type}{R:α->β->Prop}{f:β->Option Nat}{k:Nat}(hf:∀a b,R a b->∃m,f b=some m/\m<=k):∀{l:List α} {m:List β},ZL R l m->∃r,jv f m=some r/\r<=k
 |[],[],_=>⟨0,rfl,Jq _⟩
 | a::l,b::m,h=>by
  obtain⟨c,e1,e⟩:=hf a b h.1;obtain⟨r,d,i⟩:=Io hf h.2
  grind[jv]
theorem Lq{α β:Type}{R:α->β->Prop}:∀{l:List α} {m:List β},ZL R l m->∀b∈m,∃a,R a b
 |[],[],_,b,hb=>by grind
 | a::l,c::m,h,b,hb=>by
  rcases Y0.1 hb with rfl|hb
  ·exact⟨a,h.1⟩
  ·exact Lq h.2 b hb
theorem yk{h h':H}{sz:Nat}{v:AV}(he:∀id ep off len lim,v=.ZG id ep off len lim->h'.get id=h.get id):ak h' sz v=ak h sz v:=by
 cases v with
 |ZG id ep off len lim=>simp_all[ak]
 |_=>rfl
instance {α:Type} [Rp α]:Rp (List α) where
 sz:=1
 dp:=Rp.dp α+1
 rp:=λP k h l cs=>∃v,cs=[v]/\ZT P k h l v
 len:=by rintro P k h x cs ⟨v,rfl,h1⟩;rfl
 mono:=by
  rintro P P' k k' h h' x cs ⟨v,rfl,h0,h1⟩ hp hk;refine⟨v,rfl,h0,?_⟩;unfold NJ at h1 ⊢
  split at h1
  ·exact h1
  ·exact h1
  ·exact⟨by omega,h1.2.1,h1.2.2.mono λa b r=>Rp.mono r (λi hi=>hi.elim) hk⟩
  ·rename_i id ep off len lim;obtain⟨a,rows,b,c⟩:=h1;refine⟨(hp _ a).1,rows,?_,c.mono λa b r=>Rp.mono r hp hk⟩;rw[<-b];exact yk λ_ _ _ _ _ e=>by injection e with e;subst e;exact (hp _ a).2
  ·exact h1
 ZS:=by
  rintro P k h x cs n d ⟨v,rfl,h0,h1⟩ hn hA;obtain⟨n,rfl⟩:∃m,n=m+1:=⟨n - 1,by omega⟩;have hdA:(23:Nat)+1=aw:=rfl;cases v with
  |Z6=>exact⟨_,rfl,_,rfl,h0,h1⟩
  |TT=>exact⟨_,rfl,_,rfl,h0,h1⟩
  | Zs t s rows =>refine⟨_,rfl,_,rfl,h0,?_⟩;obtain⟨q1,q2,q3⟩:=h1;exact⟨by omega,q2,q3.mono λa b r=>Rp.mono r (λi hi=>hi.elim) (by omega)⟩
  | ZG id ep off len lim =>
   obtain⟨q1,rows,q2,q3⟩:=h1;simp only[ak]at q2
   split at q2
   ·rename_i sz' rows' ep' lo fz hg;rw[aa]at q2
    split at q2
    ·rename_i hc;simp only[Zk]at hc;obtain⟨⟨hc1,hc2⟩,hc3⟩:=hc;injection q2 with q2;have e1:=Wj hc2;subst e1;obtain⟨rs,e2,a2⟩:=Im (S:=Rp.rp ZX (max k d) .nil) (f:=aD (Hx.ZS h d n)) (λa b r=>Rp.ZS (n:=n) d r (by omega) (by omega)) q3;obtain⟨m,e3,l3⟩:=Io (f:=jv (fZ aw)) (k:=max k d) (λa b r=>Rp.tag (n:=aw) r (by omega)) a2;refine⟨[.Zs (Nat.max d m) (Rp.sz α) rs],?_,_,rfl,h0,?_⟩
     ·simp only[aD,Hx.ZS,hg,hc1,hc3,XE,q2,e2,it,e3]
     ·refine⟨?_,.inl rfl,a2⟩;show max d m<=max k d;omega
    ·cases q2
   ·cases q2
  |_=>exact h1.elim
 same:=by
  rintro k h x cs n d ⟨v,rfl,-,h1⟩ hn;obtain⟨n,rfl⟩:∃m,n=m+1:=⟨n - 1,by omega⟩;cases v with
  |Z6=>rfl
  |TT=>rfl
  |Zs t s rows=>rfl
  |ZG id ep off len lim=>exact h1.1.elim
  |_=>exact h1.elim
 ids:=by
  rintro P k h x cs n ⟨v,rfl,-,h1⟩ i hi;cases n with
  |zero=>simp[aB]at hi
  | succ n =>
   simp only[X4,TO,VM]at hi;cases v with
   | ZG id ep off len lim =>
    obtain⟨q1,rows,q2,q3⟩:=h1;unfold aB at hi;rcases Y0.1 hi with rfl|hi
    ·exact q1
    ·simp only[ak]at q2
     split at q2
     ·rename_i sz' rows' ep' lo fz hg;rw[aa]at q2
      split at q2
      ·injection q2 with q2;rw[hg]at hi;simp only[q2,XP]at hi;obtain⟨row,hr,c,hc,hi⟩:=hi;obtain⟨a,r⟩:=Lq q3 row hr;exact Rp.ids (n:=n) r i (XP.2 ⟨c,hc,hi⟩)
      ·cases q2
     ·cases q2
   |Z6=>simp[aB]at hi
   |TT=>simp[aB]at hi
   |Zs t s rows=>simp[aB]at hi
   |_=>exact h1.elim
 tag:=by
  rintro k h x cs n ⟨v,rfl,-,h1⟩ hn;obtain⟨n,rfl⟩:∃m,n=m+1:=⟨n - 1,by omega⟩;cases v with
  |Z6=>exact⟨0,rfl,Jq _⟩
  |TT=>exact⟨0,rfl,Jq _⟩
  |Zs t s rows=>exact⟨t,by simp[jv,fZ],h1.1⟩
  |ZG id ep off len lim=>exact h1.1.elim
  |_=>exact h1.elim
theorem dW{α:Type} [Rp α]{P:Nat->Prop}{l:List α}:Rp.rp P k h l cs↔∃v,cs=[v]/\ZT P k h l v:=Iff.rfl
theorem ay{P:Nat->Prop}{x:Int}:Rp.rp P k h x cs↔cs=[.int .i64 x]:=by simp[Rp.rp]
theorem nX{P:Nat->Prop}{x:Nat}:Rp.rp P k h x cs↔cs=[.int .u64 (x:Int)]/\x<2^64:=by simp[Rp.rp]
theorem cE{P:Nat->Prop}{x:Bool}:Rp.rp P k h x cs↔cs=[.bool x]:=by simp[Rp.rp]
theorem fK{P:Nat->Prop}{x:UInt8}:Rp.rp P k h x cs↔cs=[.int .u8 (x.toNat:Int)]:=by simp[Rp.rp]
theorem u9{α β:Type} [Rp α] [Rp β]{P:Nat->Prop}{x:α×β}:Rp.rp P k h x cs↔∃a b,cs=a++b/\Rp.rp P k h x.1 a/\Rp.rp P k h x.2 b:=Iff.rfl
theorem ZT.ints{P:Nat->Prop}(r:ZT P k h l v):ak h 1 v=some (l.map ci):=by obtain⟨rows,h1,h2⟩:=r.rows;rw[show (1:Nat)=Rp.sz Int from rfl,h1,h2.eq_map (f:=ci) λa b r=>ay.1 r]
theorem ZT.nats{P:Nat->Prop}{l:List Nat}(r:ZT P k h l v):ak h 1 v=some (l.map cu):=by obtain⟨rows,h1,h2⟩:=r.rows;rw[show (1:Nat)=Rp.sz Nat from rfl,h1,h2.eq_map (f:=cu) λa b r=>(nX.1 r).1]
theorem gn(t:T)(n m:Nat)(v:AV):ZY (f_ t n v) m=if m=n then v else ZY t m:=SH _ _ _ _ _
theorem C1(i:Nat)(v:AV)(vs:List AV)(t:T):bk i (v::vs) t=bk (i+1) vs (f_ t i v):=rfl
theorem Lx(a:AV)(t:T):bk 0 [a] t=f_ t 0 a:=rfl
theorem Ly(a b:AV)(t:T):bk 0 [a,b] t=f_ (f_ t 0 a) 1 b:=rfl
theorem Lz(a b c:AV)(t:T):bk 0 [a,b,c] t=f_ (f_ (f_ t 0 a) 1 b) 2 c:=rfl
theorem LA(a b c e:AV)(t:T):bk 0 [a,b,c,e] t=f_ (f_ (f_ (f_ t 0 a) 1 b) 2 c) 3 e:=rfl
theorem Gd(i:Nat)(t:T):bk i [] t=t:=rfl
theorem Pr(m:Nat):ZY Tr.nil m=AV.undef:=Zg _ _
theorem bf(d:Nat)(t:T)(v:AV):qH (some d) t v=f_ t d v:=rfl
theorem K5(t:T)(n:Nat):Od.get t (.t n)=ZY t n:=rfl
theorem WX(t:T)(v:AV):Od.get t (.k v)=v:=rfl
theorem K6(t:T):eH t []=[]:=rfl
theorem If(t:T)(o:Od)(os:List Od):eH t (o::os)=o.get t::eH t os:=rfl
theorem aY(h:H)(i:Nat)(o:ZM):(h.put i o).get i=o:=by simp_all[Za]
theorem aF{h:H}{i:Nat}{o:ZM}(hk:k≠i:=by omega):(h.put i o).get k=h.get k:=by simp_all[Za]
theorem Of(k:Nat):G.empty.h.get k=ZM.none:=by simp[G.empty,H.get,Zg]
theorem KG:G.empty.nx=0:=rfl
theorem Pi(v:AV)(K:AV->G->Prop)(g:G)(D:ZU->Prop):(OR.val v).sat K g D=K v g:=rfl
theorem Ph(v:AV)(g':G)(K:AV->G->Prop)(g:G)(D:ZU->Prop):(OR.upd v g').sat K g D=K v g':=rfl
theorem LD(v:AV):RK (some v)=.val v:=rfl
theorem aq{x:Int}(h:-2^63<=x:=by omega)(h':x<2^63:=by omega):IntKind.wrap .i64 x=x:=by
 by_cases h0:x<0
 ·grind[BI]
 ·obtain⟨n,rfl⟩:=Wu (show 0<=x by omega)
  grind[qB]
theorem du{x:Int}(h:0<=x)(h':x<2^64):IntKind.wrap .u64 x=x:=by simp_all[IntKind.wrap,IntKind.bits,IntKind.signed,aeL]
theorem bQ(k:IntKind):dG k k=true:=by cases k<;>rfl
theorem AJ(k:IntKind)(a b:Int):bN .add (.int k a) (.int k b)=.val (.int k (k.wrap (a+b))):=by simp only[bN,fT,bQ,je];rfl
theorem I3(k:IntKind)(a b:Int):bN .sub (.int k a) (.int k b)=.val (.int k (k.wrap (a - b))):=by simp only[bN,fT,bQ,je];rfl
theorem IY(k:IntKind)(a b:Int):bN .mul (.int k a) (.int k b)=.val (.int k (k.wrap (a*b))):=by simp only[bN,fT,bQ,je];rfl
theorem N0(k:IntKind)(a b:Int):bN .eql (.int k a) (.int k b)=.val (.bool (decide (a=b))):=by simp only[bN,fT,bQ,mK];rfl
theorem N4(k:IntKind)(a b:Int):bN .neq (.int k a) (.int k b)=.val (.bool (!decide (a=b))):=by simp only[bN,fT,bQ,mK,rq];rfl
theorem N3(k:IntKind)(a b:Int):bN .lss (.int k a) (.int k b)=.val (.bool (decide (a<b))):=by simp only[bN,fT,bQ,oT];rfl
theorem N2(k:IntKind)(a b:Int):bN .gtr (.int k a) (.int k b)=.val (.bool (decide (b<a))):=by simp only[bN,fT,bQ,oT];rfl
theorem IX(k:IntKind)(a b:Int):bN .leq (.int k a) (.int k b)=.val (.bool (decide (a<=b))):=by
 simp only[bN,fT,bQ,oT,rq]
 by_cases h:b<a
 ·rw[Qe h,Vf (show ¬a<=b by omega)];rfl
 ·rw[Vf h,Qe (show a<=b by omega)];rfl
theorem N1(k:IntKind)(a b:Int):bN .geq (.int k a) (.int k b)=.val (.bool (decide (b<=a))):=by
 simp only[bN,fT,bQ,oT,rq]
 by_cases h:a<b
 ·rw[Qe h,Vf (show ¬b<=a by omega)];rfl
 ·rw[Vf h,Qe (show b<=a by omega)];rfl
theorem IZ(k:IntKind){a b:Int}(ha:0<=a)(hb:0<b):bN .quo (.int k a) (.int k b)=.val (.int k (k.wrap (a / b))):=by
 obtain⟨m,rfl⟩:=Wu ha;obtain⟨n,rfl⟩:=Wu (show 0<=b by omega);obtain⟨n,rfl⟩:∃j,n=j+1:=⟨n - 1,by omega⟩;simp only[bN,fT,bQ]
 grind[RK,X3,je]
theorem gC(k:IntKind){a b:Int}(ha:0<=a)(hb:0<b):bN .rem (.int k a) (.int k b)=.val (.int k (a % b)):=by
 obtain⟨m,rfl⟩:=Wu ha;obtain⟨n,rfl⟩:=Wu (show 0<=b by omega);obtain⟨n,rfl⟩:∃j,n=j+1:=⟨n - 1,by omega⟩;simp only[bN,fT,bQ]
 grind[RK,X6]
theorem UU(k':IntKind)(m n:Nat):bN .shl (.int .u64 (m:Int)) (.int k' (n:Int))=.val (.int .u64 ((m*2 ^ n % 18446744073709551616:Nat):Int)):=by
 show RK (T9 .u64 (.ofNat m) (.ofNat n))=_;simp only[T9,IntKind.bits];show OR.val (.int .u64 (yw .u64 (.ofNat (m*2 ^ (Nat.min n 64)))))=_;simp only[yw];congr 2;show ((m*2 ^ (min n 64) % 18446744073709551616:Nat):Int)=_
 by_cases h:n<=64
 ·grind
 ·rw[Nat.min_eq_right (by omega)];obtain⟨j,rfl⟩:∃j,n=64+j:=⟨n - 64,by omega⟩;rw[afz,show (18446744073709551616:Nat)=2 ^ 64 from rfl,Nat.mul_mod_left,<-QQ,TF (m*2 ^ 64),<-QQ,Nat.mul_mod_left]
theorem jX(k':IntKind)(m n:Nat)(h:m<2^64):bN .shr (.int .u64 (m:Int)) (.int k' (n:Int))=.val (.int .u64 ((m / 2 ^ n:Nat):Int)):=by
 show RK (T_ .u64 (.ofNat m) (.ofNat n))=_;simp only[T_,IntKind.bits];show OR.val (.int .u64 (.ofNat (m / 2 ^ (Nat.min n 64))))=_;congr 2;show ((m / 2 ^ (min n 64):Nat):Int)=_
 by_cases h2:n<=64
 ·grind
 ·rw[Nat.min_eq_right (by omega)];obtain⟨j,rfl⟩:∃j,n=64+j:=⟨n - 64,by omega⟩;rw[afz,<-Xq,show (2 ^ 64:Nat)=18446744073709551616 from rfl,VW h,Nat.zero_div]
theorem CI(h:m<2^64)(h':n<2^64):o5 .u64 m n=true:=by simp_all[o5]
theorem BQ(m n:Nat)(h:m<2^64)(h':n<2^64):bN .or (.int .u64 (m:Int)) (.int .u64 (n:Int))=.val (.int .u64 ((m ||| n:Nat):Int)):=by show RK (ap (o5 .u64 m n) _ _)=_;rw[CI h h'];rfl
theorem qK(m n:Nat)(h:m<2^64)(h':n<2^64):bN .and (.int .u64 (m:Int)) (.int .u64 (n:Int))=.val (.int .u64 ((m &&& n:Nat):Int)):=by show RK (ap (o5 .u64 m n) _ _)=_;rw[CI h h'];rfl
theorem EF(m n:Nat)(h:m<2^64)(h':n<2^64):bN .andNot (.int .u64 (m:Int)) (.int .u64 (n:Int))=.val (.int .u64 ((m ^^^ (m &&& n):Nat):Int)):=by show RK (ap (o5 .u64 m n) _ _)=_;rw[CI h h'];rfl
theorem O2(h:m<2^64)(h':n<2^64):m ||| n<2^64:=adQ (n:=64) h h'
theorem Lv(b:Bool):VL (.bool b)=.val (.bool (!b)):=by grind[VL,rq]
theorem Kv(k k':IntKind)(a:Int):N7 k (.int k' a)=.val (.int k (k.wrap a)):=by grind[N7,je]
theorem TB(a b:AV):O4 (.bool true) a b=.val a:=rfl
theorem TA(a b:AV):O4 (.bool false) a b=.val b:=rfl
theorem Tk(k:IntKind)(a b:Int):mxV (.int k a) (.int k b)=.val (.int k (max a b)):=by
 simp only[mxV,bQ,oT]
 by_cases h:a<b
 ·rw[Qe h,Int.max_eq_right (by omega)]
 simp_all[Vf,Int.max_eq_left]
theorem Ti(k:IntKind)(a b:Int):mnV (.int k a) (.int k b)=.val (.int k (min a b)):=by
 simp only[mnV,bQ,oT]
 by_cases h:b<a
 ·rw[Qe h,Int.min_eq_right (by omega)]
 simp_all[Vf,Int.min_eq_left]
def mA(sz:Nat)(v:AV)(i off:Nat):AV :=
 match v with
 |.Zs l _ rows=>.ZR l sz rows i off
 |.ZG id ep o _ _=>.ZD id ep (o+i) off
 |_=>.undef
theorem F0{sz:Nat}{rows:List (List AV)}(h:ak g.h sz v=some rows):gz .slice v g=.val (.int .i64 (rows.length:Int)):=by
 unfold ak at h
 split at h
 ·injection h with h;subst h;rfl
 ·injection h with h;subst h;rfl
 ·rw[aa]at h
  split at h
  ·injection h with h;subst h;simp only[gz,ax];rfl
  ·cases h
 ·split at h
  ·rw[aa]at h
   split at h
   ·rename_i hc;injection h with h;subst h;simp only[Zk,R1,ax]at hc;simp only[gz,bE,bu,Rk,Te];congr 3;rw[NT (by omega)]
   ·cases h
  ·cases h
 ·cases h
theorem dq{sz:Nat}{rows:List (List AV)}(hv:ak h sz v=some rows)(g:G):gz .slice v g=.val (.int .i64 (rows.length:Int)) :=(show gz .slice v g=gz .slice v ⟨h,0,[]⟩ from by cases v<;>rfl).trans (F0 (g:=⟨h,0,[]⟩) hv)
theorem SW{sz:Nat}{rows:List (List AV)}{k:IntKind}{i:Int}(h:ak g.h sz v=some rows)(h0:0<=i)(hi:i<rows.length) :
  Jv sz v (.int k i) g=.val (mA sz v i.toNat 0):=by
 obtain⟨n,rfl⟩:=Wu h0;have hi:n<rows.length:=by omega
 show Jv sz v (.int k (.ofNat n)) g=.val (mA sz v n 0);unfold ak at h
 split at h
 ·grind
 ·grind
 ·rw[aa]at h
  split at h
  ·rename_i hc;injection h with h;subst h;rename_i sz' rows _;have:Nat.beq sz sz'=true:=by
    grind
   simp_all[Jv,i7,ax,aa,mA]
  grind
 ·split at h
  ·rename_i sz' rows' ep' lo fz hg;rw[aa]at h
   split at h
   ·rename_i hc;injection h with h;subst h;simp only[Zk]at hc;simp only[bE,bu,Rk,Te]at hi;simp only[Jv,i7,G.get_eq,hg,hc.1.1,hc.1.2,U2,aa,YD];rw[i6];rfl
   grind
  grind
 grind
theorem Qt{sz:Nat}{rows:List (List AV)}{ag:Bool}(h:ak g.h sz v=some rows)(hr:rows[i]?=some row) :
  t7 ag n (mA sz v i off) g=RK (cK ag n row off):=by
 unfold ak at h
 split at h
 ·grind
 ·grind
 ·grind[aa,t7,qo,mA,eI]
 ·split at h
  ·rename_i sz' rows' ep' lo fz hg;rw[aa]at h
   split at h
   ·rename_i hc;injection h with h;subst h;simp_all[bE,bu,aeE,t7,qo,mA,eI]
   grind
  grind
 grind
theorem KV(fo id ep i off:Nat):Sd fo (.ZD id ep i off)=.val (.ZD id ep i (off+fo)):=rfl
theorem LG:cK false n row off=row[off]?:=by grind[cK,eI]
theorem Tz(h:off+n<=row.length):cK true n row off=some (.agg ((row.drop off).take n)):=by
 simp only[cK,bE,bu,ax,Rk,Te,aa];rw[ZN]
 grind[X_]
theorem GD{id ep sz:Nat}{rows:List (List AV)}{lo:Bool}{row':List AV}(hg:g.h.get id=.cells sz rows ep lo false)(hr:rows[i]?=some row)
  (hc:x.cells=cs) (ht:x.isTup=false) (hl:cs.length=n) (hp:dh row off cs=some row') :
  qA n (.ZD id ep i off) x g=.upd .undef (g.put id (.cells sz (rows.set i row') ep lo false)):=by
 simp_all[qA,sJ,eI,ax,jh]
def D9(o:ZM)(ep off len sz:Nat):Option (List (List AV)) :=
 match o with
 |.cells sz' rows ep' _ _=>ap (Nat.beq ep ep'&&Nat.beq sz sz'&&Nat.ble (off+len) (bi rows)) (some (iE len (gN off rows))) none
 |_=>none
theorem C4(h:H)(sz:Nat):ak h sz .Z6=some []:=rfl
theorem uZ(h:H)(sz t:Nat)(rows:List (List AV)):ak h sz (.Zs t sz rows)=some rows:=by simp_all[ak]
theorem fX(h:H)(sz id ep off len:Nat)(lim:Option Nat):ak h sz (.ZG id ep off len lim)=D9 (h.get id) ep off len sz:=rfl
theorem dJ(sz:Nat)(rows:List (List AV))(ep:Nat)(lo fz:Bool)(off len:Nat) :
  D9 (.cells sz rows ep lo fz) ep off len sz=if off+len<=rows.length then some ((rows.drop off).take len) else none:=by
 simp_all[D9,aa,ax,bE,bu]
theorem CV(sz:Nat)(rows:List (List AV))(ep:Nat)(lo fz:Bool):D9 (.cells sz rows ep lo fz) ep 0 rows.length sz=some rows:=by simp_all[dJ]
def aO(o:ZM)(ep i:Nat)(ag:Bool)(n off:Nat):OR :=
 match o with
 |.cells _ rows ep' _ _=>ap (Nat.beq ep ep') (match rows[i]? with|some row=>RK (cK ag n row off)|none=>.fail) .fail
 |_=>.fail
theorem F4(g:G)(id ep i off n:Nat)(ag:Bool):t7 ag n (.ZD id ep i off) g=aO (g.h.get id) ep i ag n off:=by grind[t7,qo,G.get_eq,aO,eI]
theorem xV(sz:Nat)(rows:List (List AV))(ep:Nat)(lo fz:Bool)(i n off:Nat)(ag:Bool) :
  aO (.cells sz rows ep lo fz) ep i ag n off=match rows[i]? with|some row=>RK (cK ag n row off)|none=>.fail:=by
 simp_all[aO]
def fC(o:ZM)(g:G)(id ep i n off:Nat)(x:AV):OR :=
 match o with
 | .cells sz rows ep' lo fz=>ap (Nat.beq ep ep'&&Nat.beq x.cells.length n&&lq fz&&lq x.isTup) (match rows[i]? with
   | some row=>match dh row off x.cells with
    |some row'=>.upd .undef (g.put id (.cells sz (rows.set i row') ep lo fz))
    |none=>.fail
   |none=>.fail) .fail
 |_=>.fail
theorem Da(g:G)(id ep i off n:Nat)(x:AV):qA n (.ZD id ep i off) x g=fC (g.h.get id) g id ep i n off x:=by
 simp only[qA,sJ,G.get_eq,fC,eI,ax,jh]
 rfl
theorem wj(sz:Nat)(rows:List (List AV))(ep:Nat)(lo:Bool)(g:G)(id i n off:Nat)(x:AV)(hl:x.cells.length=n)(ht:x.isTup=false) :
  fC (.cells sz rows ep lo false) g id ep i n off x=match rows[i]? with
   | some row=>match dh row off x.cells with
    |some row'=>.upd .undef (g.put id (.cells sz (rows.set i row') ep lo false))
    |none=>.fail
   |none=>.fail:=by
 simp_all[fC]
theorem Il{sz:Nat}{ag:Bool}(h:(ak g.h sz v).isSome=true)(hi:i<((ak g.h sz v).getD []).length) :
  t7 ag n (mA sz v i off) g=RK (cK ag n (((ak g.h sz v).getD [])[i]?.getD []) off):=by
 obtain⟨rows,hr⟩:=aeS.1 h
 grind[Qt]
theorem Le{sz:Nat}{k:IntKind}{i:Int}(h:(ak g.h sz v).isSome=true)(h0:0<=i)(hi:i<((ak g.h sz v).getD []).length) :
  Jv sz v (.int k i) g=.val (mA sz v i.toNat 0):=by
 obtain⟨rows,hr⟩:=aeS.1 h
 grind[SW]
theorem Oz{sz:Nat}{k:IntKind}(h:(ak g.h sz v).isSome=true)(hi:i<((ak g.h sz v).getD []).length) :
  Jv sz v (.int k (i:Int)) g=.val (mA sz v i 0):=Le h (Ws i) (by omega)
def nq:AV->Bool
 |.Zs ..|.ZG ..=>true
 |_=>false
theorem co{sz:Nat}{fo:Nat}(h:nq v=true):Sd fo (mA sz v i off)=.val (mA sz v i (off+fo)):=by cases v<;>first|rfl|cases h
theorem u7{sz:Nat}{rows:List (List AV)}(hv:ak h sz v=some rows)(hi:i<rows.length):nq v=true:=by
 unfold ak at hv
 split at hv
 ·grind
 ·grind
 ·rfl
 ·rfl
 grind
def sA(h:H)(v:AV):List Int:=((ak h 1 v).getD []).map λr=>match r with|[.int _ x]=>x|_=>0
def FP(h:H)(v:AV):Prop:=ak h 1 v=some ((sA h v).map ci)
theorem SS(l:List Int):(l.map ci).map (λr=>match r with|[.int _ x]=>x|_=>0)=l:=by induction l<;>grind[ci]
theorem Ow(hv:ak h 1 v=some (l.map ci)):sA h v=l:=by grind[sA,SS]
theorem Qq(hv:ak h 1 v=some (l.map ci)):FP h v:=by grind[Ow,FP]
theorem W6{α:Type}(a:α)(l:List α):(a::l)[0]?=some a:=rfl
theorem W7{α:Type}(a b:α)(l:List α):(a::b::l)[1]?=some b:=rfl
theorem W8{α:Type}(a b c:α)(l:List α):(a::b::c::l)[2]?=some c:=rfl
theorem W9{α:Type}(a b c e:α)(l:List α):(a::b::c::e::l)[3]?=some e:=rfl
theorem W_{α:Type}(a b c e p:α)(l:List α):(a::b::c::e::p::l)[4]?=some p:=rfl
theorem Xa{α:Type}(a b c e p q:α)(l:List α):(a::b::c::e::p::q::l)[5]?=some q:=rfl
theorem Xb{α:Type}(a b c e p q r:α)(l:List α):(a::b::c::e::p::q::r::l)[6]?=some r:=rfl
theorem Xc{α:Type}(a b c e p q r s:α)(l:List α):(a::b::c::e::p::q::r::s::l)[7]?=some s:=rfl
theorem Xd{α:Type}(a b c e p q r s u:α)(l:List α):(a::b::c::e::p::q::r::s::u::l)[8]?=some u:=rfl
@[reducible] def o (d:Nat) (op:SO):SI:=⟨some d,none,op⟩
@[reducible] def oz (op:SO):SI:=⟨none,none,op⟩
@[reducible] def og (d s:Nat) (w:Bool) (op:SO):SI:=⟨some d,some (s,w),op⟩
@[reducible] def ozg (s:Nat) (w:Bool) (op:SO):SI:=⟨none,some (s,w),op⟩
section steps
variable {C:ZO}{d:Nat}{rd:Option Nat}
theorem Kb(Q:QT)(t:T)(df:List ZU)(g:G):wp C d rd .skip Q t df g=Q .norm t df g:=rfl
theorem GQ(l:List SI)(Q:QT)(t:T)(df:List ZU)(g:G):wp C d rd (.ops l) Q t df g=RZ C d rd l (Q .norm) t df g:=rfl
theorem Mm(l:List SI)(Q:QT)(t:T)(df:List ZU)(g:G):wp C d rd (.quiet l) Q t df g=RZ C d rd l (kQ g Q) t df (aS g []):=rfl
theorem Pz(pm:List Nat)(l:List SI)(Q:QT)(t:T)(df:List ZU)(g:G):wp C d rd (.Q8 pm l) Q t df g=XU C d rd pm l (Q .norm) t df g []:=rfl
theorem eO(a b:SC)(Q:QT)(t:T)(df:List ZU)(g:G):wp C d rd (.seq a b) Q t df g=wp C d rd a (kS (wp C d rd b Q) Q) t df g:=rfl
theorem J_(c:Od)(a b:SC)(Q:QT)(t:T)(df:List ZU)(g:G):wp C d rd (.cond c a b) Q t df g=wpC (c.get t) (wp C d rd a Q) (wp C d rd b Q) t df g:=rfl
theorem GP(id:Nat)(b:SC)(Q:QT)(t:T)(df:List ZU)(g:G):wp C d rd (.blk id b) Q t df g=wp C d rd b (kB id Q) t df g:=rfl
theorem Ka(b:SC)(Q:QT)(t:T)(df:List ZU)(g:G):wp C d rd (.loop b) Q t df g=Uk (wp C d rd b) Q t df g:=rfl
theorem Py(id:Nat)(Q:QT)(t:T)(df:List ZU)(g:G):wp C d rd (.exit id) Q t df g=Q (.exit id) t df g:=rfl
theorem UH(Q:QT)(t:T)(df:List ZU)(g:G):wp C d rd .ret Q t df g=Q .ret t df g:=rfl
theorem W0(g0:G)(Q:QT)(t:T)(df:List ZU)(g:G):kQ g0 Q t df g=(g.lg=[]/\g.nx=g0.nx/\Q .norm t df g0):=rfl
theorem Pu(Q:PT)(t:T)(df:List ZU)(g:G):RZ C d rd [] Q t df g=Q t df g:=rfl
theorem Xk(n:Nat)(op:SO)(r:List SI)(Q:PT)(t:T)(df:List ZU)(g:G) :
  RZ C d rd (o n op::r) Q t df g=(op.run C d rd t g).sat (kO (RZ C d rd r Q) (some n) t df) g (kD (RZ C d rd r Q) (some n) t df g):=rfl
theorem UB(op:SO)(r:List SI)(Q:PT)(t:T)(df:List ZU)(g:G) :
  RZ C d rd (oz op::r) Q t df g=(op.run C d rd t g).sat (kO (RZ C d rd r Q) none t df) g (kD (RZ C d rd r Q) none t df g):=rfl
theorem Uz(n s:Nat)(w:Bool)(op:SO)(r:List SI)(Q:PT)(t:T)(df:List ZU)(g:G) :
  RZ C d rd (og n s w op::r) Q t df g=HB (ZY t s) w (sG C d rd (o n op) (RZ C d rd r Q)) (C8 (o n op) (RZ C d rd r Q)) t df g:=rfl
theorem Pv(s:Nat)(w:Bool)(op:SO)(r:List SI)(Q:PT)(t:T)(df:List ZU)(g:G) :
  RZ C d rd (ozg s w op::r) Q t df g=HB (ZY t s) w (sG C d rd (oz op) (RZ C d rd r Q)) (C8 (oz op) (RZ C d rd r Q)) t df g:=rfl
theorem T5(n:Nat)(op:SO)(W:PT)(t:T)(df:List ZU)(g:G):sG C d rd (o n op) W t df g=(op.run C d rd t g).sat (kO W (some n) t df) g (kD W (some n) t df g):=rfl
theorem Pe(op:SO)(W:PT)(t:T)(df:List ZU)(g:G):sG C d rd (oz op) W t df g=(op.run C d rd t g).sat (kO W none t df) g (kD W none t df g):=rfl
theorem Pn(n:Nat)(op:SO)(W:PT)(t:T)(df:List ZU)(g:G):C8 (o n op) W t df g=W (f_ t n .undef) df g:=rfl
theorem L_(op:SO)(W:PT)(t:T)(df:List ZU)(g:G):C8 (oz op) W t df g=W t df g:=rfl
theorem OG(W:PT)(n:Nat)(t:T)(df:List ZU)(v:AV)(g:G):kO W (some n) t df v g=W (f_ t n v) df g:=rfl
theorem OF(W:PT)(t:T)(df:List ZU)(v:AV)(g:G):kO W none t df v g=W t df g:=rfl
theorem WW(q:Bool)(A B:PT)(t:T)(df:List ZU)(g:G):HB (.bool q) true A B t df g=BP q A B t df g:=rfl
theorem WV(q:Bool)(A B:PT)(t:T)(df:List ZU)(g:G):HB (.bool q) false A B t df g=BP q B A t df g:=rfl
theorem Ie(w:Bool)(A B:PT)(t:T)(df:List ZU)(g:G):HB (.Zz []) w A B t df g=B t df g:=rfl
theorem HP(A B:PT)(t:T)(df:List ZU)(g:G):BP true A B t df g=A t df g:=by simp[BP]
theorem ED(A B:PT)(t:T)(df:List ZU)(g:G):BP false A B t df g=B t df g:=by simp[BP]
theorem Mj(q:Bool)(A B:PT)(t:T)(df:List ZU)(g:G):wpC (.bool q) A B t df g=BP q A B t df g:=rfl
theorem Bn(W:PT)(Q:QT)(t:T)(df:List ZU)(g:G):kS W Q .norm t df g=W t df g:=rfl
theorem OH(W:PT)(Q:QT)(id:Nat)(t:T)(df:List ZU)(g:G):kS W Q (.exit id) t df g=Q (.exit id) t df g:=rfl
theorem S5(W:PT)(Q:QT)(t:T)(df:List ZU)(g:G):kS W Q .ret t df g=Q .ret t df g:=rfl
theorem Jx(id:Nat)(Q:QT)(t:T)(df:List ZU)(g:G):kB id Q .norm t df g=Q .norm t df g:=rfl
theorem SZ(id:Nat)(Q:QT)(t:T)(df:List ZU)(g:G):kB id Q .ret t df g=Q .ret t df g:=rfl
theorem Vu(id:Nat)(Q:QT)(t:T)(df:List ZU)(g:G):kB id Q (.exit id) t df g=Q .norm t df g:=by simp[kB]
theorem SY(id j:Nat)(Q:QT)(t:T)(df:List ZU)(g:G)(h:j≠id):kB id Q (.exit j) t df g=Q (.exit j) t df g:=by simp_all[aa,kB]
theorem mN(id j:Nat)(Q:QT)(t:T)(df:List ZU)(g:G):kB id Q (.exit j) t df g=if j=id then Q .norm t df g else Q (.exit j) t df g:=by
 by_cases h:j=id
 all_goals simp_all[Vu,SY]
theorem OE(Inv:Nat->PT)(k:Nat)(Q:QT)(t:T)(df:List ZU)(g:G):kL Inv k Q .norm t df g=∃k',k'<k/\Inv k' t df g:=rfl
theorem OD(Inv:Nat->PT)(k:Nat)(Q:QT)(id:Nat)(t:T)(df:List ZU)(g:G):kL Inv k Q (.exit id) t df g=Q (.exit id) t df g:=rfl
theorem S2(Inv:Nat->PT)(k:Nat)(Q:QT)(t:T)(df:List ZU)(g:G):kL Inv k Q .ret t df g=Q .ret t df g:=rfl
theorem ba{q:Bool}{A B:PT}(h1:q=true->A t df g)(h2:q=false->B t df g):BP q A B t df g:=⟨h1,h2⟩
theorem KZ(r:List SR)(K:AV->G->Prop)(t:T)(df:List ZU)(g:G):Xs C d r K .norm t df g=yZ C d r t df g K:=rfl
theorem mH(r:List SR)(K:AV->G->Prop)(t:T)(df:List ZU)(g:G):Xs C d r K .ret t df g=yZ C d r t df g K:=rfl
theorem KH(r:List SR)(K:AV->G->Prop)(t:T)(g:G):yZ C d r t [] g K=At r t g λvs=>K (lz vs) g:=rfl
theorem LW(t:T)(g:G)(K:List AV->Prop):At [] t g K=K []:=rfl
theorem O_(n:Nat)(r:List SR)(t:T)(g:G)(K:List AV->Prop):At (.tm n::r) t g K=At r t g λvs=>K (ZY t n::vs):=rfl
theorem Bs(v:AV):lz [v]=v:=rfl
theorem gB{W:QT->PT}{Q:QT}(Inv:Nat->PT)(k:Nat)(h0:Inv k t df g)(h:∀k t df g,Inv k t df g->W (kL Inv k Q) t df g):Uk W Q t df g:=⟨Inv,⟨k,h0⟩,h⟩
end steps
theorem sx:type_of% (Z3 @Pu <|Z3 @Xk <|Z3 @UB <|Z3 @Uz <|Z3 @Pv <|Z3 @T5 <|Z3 @Pe <|Z3 @Pn <|Z3 @L_ <|
 Z3 @OG <|Z3 @OF <|Z3 @WW <|Z3 @WV <|Z3 @Ie <|Z3 @HP <|Z3 @ED <|Z3 @Mj <|Z3 @Bn <|Z3 @OH <|Z3 @S5 <|
 Z3 @Jx <|Z3 @SZ <|Z3 @mN <|Z3 @OE <|Z3 @OD <|Z3 @S2 <|Z3 @KZ <|Z3 @mH <|Z3 @KH <|Z3 @LW <|Z3 @O_ <|
 Z3 @Bs <|Z3 @gn <|Z3 @Lx <|Z3 @Ly <|Z3 @Lz <|Z3 @LA <|Z3 @Kb <|Z3 @GQ <|Z3 @Mm <|Z3 @Pz <|Z3 @eO <|Z3 @J_ <|Z3 @GP <|Z3 @Ka <|Z3 @Py <|Z3 @UH <|Z3 @Gd <|Z3 @Pr <|Z3 @K5 <|Z3 @WX <|Z3 @K6 <|Z3 @If <|Z3 @Pi <|Z3 @Ph <|Z3 @LD <|
 Z3 @AJ <|Z3 @I3 <|Z3 @IY <|Z3 @N0 <|Z3 @N4 <|Z3 @N3 <|Z3 @N2 <|Z3 @IX <|Z3 @N1 <|Z3 @Lv <|Z3 @Kv <|Z3 @TB <|Z3 @TA <|
 Z3 @Tk <|Z3 @Ti <|Z3 @KV <|Z3 @F4 <|Z3 @xV <|Z3 @Da <|Z3 @LG <|Z3 @Il <|Z3 @co <|Z3 @Oz <|
 Z3 @W6 <|Z3 @W7 <|Z3 @W8 <|Z3 @W9 <|Z3 @W_ <|Z3 @Xa <|Z3 @Xb <|Z3 @Xc <|Z3 @Xd <|Z3 @G.put_h <|Z3 @G.put_nx <|Z3 @G.new_h <|Z3 @G.new_nx <|Z3 @aY <|Z3 @KG <|@Of) :=
 Z3 @Pu <|Z3 @Xk <|Z3 @UB <|Z3 @Uz <|Z3 @Pv <|Z3 @T5 <|Z3 @Pe <|Z3 @Pn <|Z3 @L_ <|
 Z3 @OG <|Z3 @OF <|Z3 @WW <|Z3 @WV <|Z3 @Ie <|Z3 @HP <|Z3 @ED <|Z3 @Mj <|Z3 @Bn <|Z3 @OH <|Z3 @S5 <|
 Z3 @Jx <|Z3 @SZ <|Z3 @mN <|Z3 @OE <|Z3 @OD <|Z3 @S2 <|Z3 @KZ <|Z3 @mH <|Z3 @KH <|Z3 @LW <|Z3 @O_ <|
 Z3 @Bs <|Z3 @gn <|Z3 @Lx <|Z3 @Ly <|Z3 @Lz <|Z3 @LA <|Z3 @Kb <|Z3 @GQ <|Z3 @Mm <|Z3 @Pz <|Z3 @eO <|Z3 @J_ <|Z3 @GP <|Z3 @Ka <|Z3 @Py <|Z3 @UH <|Z3 @Gd <|Z3 @Pr <|Z3 @K5 <|Z3 @WX <|Z3 @K6 <|Z3 @If <|Z3 @Pi <|Z3 @Ph <|Z3 @LD <|
 Z3 @AJ <|Z3 @I3 <|Z3 @IY <|Z3 @N0 <|Z3 @N4 <|Z3 @N3 <|Z3 @N2 <|Z3 @IX <|Z3 @N1 <|Z3 @Lv <|Z3 @Kv <|Z3 @TB <|Z3 @TA <|
 Z3 @Tk <|Z3 @Ti <|Z3 @KV <|Z3 @F4 <|Z3 @xV <|Z3 @Da <|Z3 @LG <|Z3 @Il <|Z3 @co <|Z3 @Oz <|
 Z3 @W6 <|Z3 @W7 <|Z3 @W8 <|Z3 @W9 <|Z3 @W_ <|Z3 @Xa <|Z3 @Xb <|Z3 @Xc <|Z3 @Xd <|Z3 @G.put_h <|Z3 @G.put_nx <|Z3 @G.new_h <|Z3 @G.new_nx <|Z3 @aY <|Z3 @KG <|@Of
def St(t:T):List (Nat×AV)->Prop
 |[]=>True
 | (n,v)::r=>ZY t n=v/\St t r
abbrev VS:=(Nat->Prop)->Nat->H->AV->Prop
def One{α:Type} [Rp α](x:α):VS:=λP k h v=>Rp.rp P k h x [v]
def Zl{α:Type} [Rp α](x:α):VS:=λP k h v=>∃cs,v=.agg cs/\Rp.rp P k h x cs
def mQ(S R:VS):VS:=λP k h v=>∃a b,v=.Zz [a,b]/\S P k h a/\R P k h b
structure Qx (S:VS) (j:Nat):Prop where
 ZS:∀{P k h v n} (d:Nat),S P k h v->20+j<=n->∃v',Hx.ZS h d n v=some v'/\S ZX (max k d) .nil v'
 tag:∀{k h v n},S ZX k h v->20+j<=n->∃m,fZ n v=some m/\m<=k
theorem aE{α:Type} [Rp α](x:α)(hd:Rp.dp α<=20:=by decide):Qx (One x) 0:=by
 refine⟨λ{P k h v n} d r hn=>?_,λ{k h v n} r hn=>?_⟩
 ·obtain⟨cs',e,r'⟩:=Rp.ZS (n:=n) d r (by omega) (by show _<=24;omega);simp only[aD]at e
  split at e
  ·rename_i w hw;injection e with e;subst e;exact⟨w,hw,r'⟩
  grind
 ·obtain⟨m,e,l⟩:=Rp.tag (n:=n) r (by omega);simp only[jv]at e
  grind
theorem cH{α:Type} [Rp α](x:α)(hd:Rp.dp α<=20:=by decide):Qx (Zl x) 1:=by
 refine⟨λ{P k h v n} d r hn=>?_,λ{k h v n} r hn=>?_⟩
 ·obtain⟨cs,rfl,r⟩:=r;obtain⟨n,rfl⟩:∃m,n=m+1:=⟨n - 1,by omega⟩;obtain⟨cs',e,r'⟩:=Rp.ZS (n:=n) d r (by omega) (by show _<=24;omega);exact⟨.agg cs',by grind[Hx.ZS],cs',rfl,r'⟩
 ·obtain⟨cs,rfl,r⟩:=r;obtain⟨n,rfl⟩:∃m,n=m+1:=⟨n - 1,by omega⟩;obtain⟨m,e,l⟩:=Rp.tag (n:=n) r (by omega)<;>grind[fZ]
theorem bM{S R:VS}(hs:Qx S i)(hr:Qx R j)(hi:i+1<=m)(hj:j+1<=m):Qx (mQ S R) m:=by
 refine⟨λ{P k h v n} d r hn=>?_,λ{k h v n} r hn=>?_⟩
 ·obtain⟨a,b,rfl,c,f⟩:=r;obtain⟨n,rfl⟩:∃m,n=m+1:=⟨n - 1,by omega⟩;obtain⟨a',e1,e⟩:=hs.ZS (n:=n) d c (by omega);obtain⟨b',o,l⟩:=hr.ZS (n:=n) d f (by omega);exact⟨.Zz [a',b'],by grind[aD,Hx.ZS],a',b',rfl,e,l⟩
 ·obtain⟨a,b,rfl,c,f⟩:=r;obtain⟨n,rfl⟩:∃m,n=m+1:=⟨n - 1,by omega⟩;obtain⟨p,e1,l1⟩:=hs.tag (n:=n) c (by omega);obtain⟨q,o,l2⟩:=hr.tag (n:=n) f (by omega);refine⟨max p q,?_,by omega⟩<;>grind[fZ,jv]
def Arg(S:VS)(k d:Nat)(h:H)(v v':AV):Prop:=Hx.ZS h d aw v=some v'/\S ZX k .nil v'
theorem nC{S:VS}(hs:Qx S j)(hj:j<=4){P:Nat->Prop}(d:Nat)(r:S P k h v):∃v',Arg S (max k d) d h v v':=by obtain⟨v',e,r'⟩:=hs.ZS (n:=aw) d r (by show _<=24;omega);exact⟨v',e,r'⟩
theorem jV{α:Type} [Rp α]{x:α}(d:Nat)(r:Zl x ZX k h v)(hd:Rp.dp α<=20:=by decide):Hx.ZS h d aw v=some v:=by
 obtain⟨cs,rfl,r⟩:=r;show (match aD (Hx.ZS h d 23) cs with|some as=>some (AV.agg as)|none=>none)=_
 grind[Rp.same]
theorem oZ{α:Type} [Rp α]{l:List α}(d:Nat)(r:ZT ZX k h l v):Hx.ZS h d aw v=some v:=by
 have r:=r.2;unfold NJ at r
 split at r<;>first|rfl|exact r.1.elim|grind
theorem aU(k d:Nat)(h:H)(q:IntKind)(x:Int):Hx.ZS h d aw (.int q x)=some (.int q x):=rfl
theorem Rs(k d:Nat)(h:H)(x:Bool):Hx.ZS h d aw (.bool x)=some (.bool x):=rfl
theorem Ru(hv:FP h v)(hl:(sA h v).length<2^63)(d:Nat) :
  ∃v',Hx.ZS h d aw v=some v'/\(∀h',ak h' 1 v'=some ((sA h v).map ci))/\∀g,gz .slice v' g=.val (.int .i64 ((sA h v).length:Int)):=by
 suffices hs:∃v',Hx.ZS h d aw v=some v'/\(∀h',ak h' 1 v'=some ((sA h v).map ci)) by obtain⟨v',e,hr⟩:=hs;exact⟨v',e,hr,λg=>by rw[dq (hr .nil),Ju]⟩
 obtain⟨k,r⟩:∃k,NJ (λ_=>True) k h (sA h v) v:=by
  have e:=hv;unfold FP at e;have all:∀P k h',ZL (Rp.rp P k h') (sA h v) ((sA h v).map ci):=λP k h'=>Y7 (λa=>ay.2 rfl) _;cases v with
  |Z6=>exact⟨0,by simp only[ak]at e;injection e with e;exact (aey.1 e.symm)⟩
  |TT=>exact⟨0,by simp only[ak]at e;injection e with e;exact (aey.1 e.symm)⟩
  | Zs t s rows =>
   refine⟨t,ZV t,?_,?_⟩
   ·simp only[ak,aa]at e
    split at e
    ·rename_i hc;rw[T6]at hc;rcases hc with hc|hc
     ·exact .inl (Wj hc).symm
     grind
    grind
   ·simp only[ak,aa]at e
    grind
  |ZG id ep off len lim=>exact⟨0,trivial,_,e,all _ _ _⟩
  |_=>simp[ak]at e
 obtain⟨v',e,r'⟩:=(aE (sA h v)).ZS (n:=aw) d (show One (sA h v) _ k h v from ⟨v,rfl,hl,r⟩) (by decide);refine⟨v',e,λh'=>?_⟩;obtain⟨w,hw,r'⟩:=r';injection hw with hw;subst hw;have:ZT (λ_=>True) (max k d) h' (sA h v) v':=by have:=(Rp.mono (P':=λ_=>True) (k':=max k d) (h':=h') (show Rp.rp ZX (max k d) .nil (sA h v) [v'] from ⟨v',rfl,r'⟩) (λi hi=>hi.elim) (ZV _));obtain⟨w,hw,q⟩:=this<;>grind
 exact this.ints
abbrev IT (k:Nat)(l:List Int)(r:AV):Prop:=One l ZX k .nil r
theorem IT.sl{r:AV}(h:IT k l r)(h':H):ZT ZX k h' l r:=by obtain⟨w,hw,q⟩:=Rp.tree (P:=ZX) (k':=k) (h':=h') h (ZV _)<;>grind
theorem IT.rows{r:AV}(h:IT k l r)(h':H):ak h' 1 r=some (l.map ci):=(h.sl h').ints
theorem IT.len{r:AV}(h:IT k l r)(g:G):gz .slice r g=.val (.int .i64 (l.length:Int)):=by rw[dq (h.rows .nil),Ju]
theorem ZT.cell{α:Type} [Rp α]{P:Nat->Prop}{l:List α}(r:ZT P k h l v):v.cells=[v]/\v.isTup=false:=by
 have r:=r.2;unfold NJ at r
 split at r<;>first|exact⟨rfl,rfl⟩|grind
section Wd
variable {C:ZO}{f d:Nat}{s:SF}{g:G}{args xs:List AV}
theorem aI(hf:ZE C f=some s)(hs:aD (ZS g.h d aw) args=some xs)(hl:xs.length<=s.nt){R:VS}(hR:Qx R j)(hj:j<=4){k':Nat}(hk:k'<d)
  (h:wp C (d+1) none s.code (Xs C (d+1) s.res λv g'=>∃P,R P k' g'.h v) (bk 0 xs .nil) [] G.empty):∃r,af (I C) d g f args=.val r/\R ZX k' .nil r:=by
 have h:=j5 hf hl h;unfold af;rw[hs];dsimp only;cases hc:(I C).call (Nat.succ d) f xs G.empty with
 |fail=>rw[show (I C).call (d+1) f xs G.empty=.fail from hc]at h;exact h.elim
 | ok v g' =>
  rw[show (I C).call (d+1) f xs G.empty=.ok v g' from hc]at h;obtain⟨P,h⟩:=h;obtain⟨r,e,hr⟩:=hR.ZS (n:=aw) 0 h (by show _<=24;omega);rw[Nat.max_eq_left (Jq k')]at hr;obtain⟨m,em,lm⟩:=hR.tag (n:=aw) hr (by show _<=24;omega);refine⟨r,?_,hr⟩;simp only[e,em,aa,YD]
  grind
theorem j9(hf:ZE C f=some s)(hl:xs.length<=s.nt){K:AV->G->Prop}{D:ZU->Prop}(h:wp C d none s.code (Xs C d s.res K) (bk 0 xs .nil) [] g):(XV ((I C).call d f xs g)).sat K g D:=by
 have h:=j5 hf hl h;cases hc:(I C).call d f xs g with
 |fail=>rw[hc]at h;exact h.elim
 |ok v g'=>rw[hc]at h;exact h
theorem cz(hf:ZE C f=some s)(hs:aD (ZS g.h d aw) args=some xs)(hl:xs.length<=s.nt){q:IntKind}{x:Int}(hk:0<d)
  (h:wp C (d+1) none s.code (Xs C (d+1) s.res λv _=>v=.int q x) (bk 0 xs .nil) [] G.empty):af (I C) d g f args=.val (.int q x):=by
 have h:=j5 hf hl h;unfold af;rw[hs];dsimp only;cases hc:(I C).call (Nat.succ d) f xs G.empty with
 |fail=>rw[show (I C).call (d+1) f xs G.empty=.fail from hc]at h;exact h.elim
 | ok v g' =>rw[show (I C).call (d+1) f xs G.empty=.ok v g' from hc]at h;have h:v=.int q x:=h;subst h;show (match fZ aw (.int q x) with|none=>OR.fail|some m=>ap (Nat.blt m d) (.val (.int q x)) _)=_;rw[show fZ aw (.int q x)=some 0 from rfl];simp_all[aa]
theorem dA(hf:ZE C f=some s)(hs:aD (ZS g.h d aw) args=some xs)(hl:xs.length<=s.nt){x:Bool}(hk:0<d)
  (h:wp C (d+1) none s.code (Xs C (d+1) s.res λv _=>v=.bool x) (bk 0 xs .nil) [] G.empty):af (I C) d g f args=.val (.bool x):=by
 have h:=j5 hf hl h;unfold af;rw[hs];dsimp only;cases hc:(I C).call (Nat.succ d) f xs G.empty with
 |fail=>rw[show (I C).call (d+1) f xs G.empty=.fail from hc]at h;exact h.elim
 | ok v g' =>rw[show (I C).call (d+1) f xs G.empty=.ok v g' from hc]at h;have h:v=.bool x:=h;subst h;show (match fZ aw (.bool x) with|none=>OR.fail|some m=>ap (Nat.blt m d) (.val (.bool x)) _)=_;rw[show fZ aw (.bool x)=some 0 from rfl];simp_all[aa]
end Wd
section
variable {C:ZO}{A:Nat->Nat->Prop}{bd:Nat}{w w':World}{γ γ':Gm}{hg:Nat->ZM}{nx:Nat}
variable {op:Op}{t:T}{g:G}{f:TM VH}
theorem C5{sz id:Nat}(hid:id∈an x)(hn:h.get id=.none):ak h sz x=none:=by cases x<;>simp[an]at hid<;>grind[ak]
theorem Iw{sz id:Nat}{bytes:Nat}{new:List (List AV)}(hid:id∈an x)(hn:g.h.get id=.none):bK sz bytes x new g=.fail:=by
 cases x<;>simp[an]at hid
 all_goals simp_all[bK]
theorem Mc(h:cP C op=some f){id:Nat}(hid:id∈bI C op t g)(hn:g.h.get id=.none):f.run t g=.fail:=by
 have one:∀{x:AV},id∈an x->(∃a b c d,x=.ZD a b c d/\g.h.get a=.none)\/(∃a b c d e,x=.ZG a b c d e/\g.h.get a=.none)\/(∃a,x=.hmap a/\g.h.get a=.none):=by intro x hx;cases x<;>simp[an]at hx<;>grind
 cases op<;>simp only[cP]at h<;>first| (cases h;done)|skip
 case call c =>
  obtain⟨callee,args,argTypes⟩:=c;cases callee<;>first| (cases h;done)|skip
  rename_i b;dsimp only at h;obtain⟨vs,j⟩:=zd h;have hid:id∈(vs.run t).flatMap (oO C b argTypes):=by simp_all[bI,aL,am]
  generalize args.toList=l at h j;unfold eA at h
  split at h
  ·
   split at h
   ·rename_i tt s h0 hs;injection h with h;subst h;simp only[cC,hs,P5]at j;subst j;simp only[X4,TO,VM,oO,h0]at hid;dsimp only;generalize s.run t=x at *;generalize oU C.P tt=k at *;cases k<;>simp at hid;cases x<;>simp[By]at hid;simp_all[gz]
   grind
  ·
   split at h
   ·rename_i tt xt sa sx h0 h1 ha hx;simp only[cC,ha,hx,P5]at j;subst j;simp only[X4,TO,VM,oO,Tn]at hid
    repeat' (first|split at h| (rw[aa]at h;split at h))
    all_goals first| (cases h;done)|skip
    all_goals (injection h with h;subst h)
    ·grind[eS,Iw,C5]
    ·dsimp only[AI]
     split
     ·rfl
     ·rename_i n q;rcases hid with hid|hid
      ·grind[aa,Iw]
      ·generalize sx.run t=x at *
       grind[dU]
   grind
  ·
   split at h
   ·rename_i tt sa sx h0 ha hx;simp only[cC,ha,hx,P5]at j;subst j;simp only[X4,TO,VM,oO,Tn]at hid
    repeat' (first|split at h)
    all_goals first| (cases h;done)|skip
    all_goals (injection h with h;subst h)
    dsimp only[H3]
    split
    ·rfl
    ·rename_i src r;rcases hid with hid|hid
     ·rcases one hid with⟨a,b,c,d,e,h1⟩|⟨a,b,c,d,e',e,h1⟩|⟨a,e,h1⟩<;>rw[e]<;>simp[h1]
     grind[C5]
   grind
  ·
   split at h
   ·rename_i tt s h0 hs;simp only[cC,hs,P5]at j;subst j;simp only[X4,TO,VM,oO]at hid
    repeat' (first|split at h)
    all_goals first| (cases h;done)|skip
    all_goals (injection h with h;subst h)
    dsimp only[RG];rcases one hid with⟨a,b,c,d,e,h1⟩|⟨a,b,c,d,e',e,h1⟩|⟨a,e,h1⟩<;>rw[e]<;>simp[h1]
   grind
  ·
   split at h
   ·rename_i tt s h0 hs;simp only[cC,hs,P5]at j;subst j;simp only[X4,TO,VM,oO]at hid
    repeat' (first|split at h| (rw[aa]at h;split at h))
    all_goals first| (cases h;done)|skip
    all_goals (injection h with h;subst h)
    dsimp only;generalize s.run t=x at *;cases x with
    | ZG i ep off len lim =>
     cases len with
     |zero=>simp_all[yL]
     | succ len =>simp_all[yL,EZ]
    |_=>simp[yL]at hid
   grind
  ·
   split at h
   ·rename_i sa sx ha hx;injection h with h;subst h;simp only[cC,ha,hx,P5]at j;subst j;simp only[X4,TO,VM,oO,Tn]at hid
    grind
   grind
  ·
   split at h
   ·rename_i sa sx ha hx;injection h with h;subst h;simp only[cC,ha,hx,P5]at j;subst j;simp only[X4,TO,VM,oO,Tn]at hid
    grind
   grind
  grind
 case load ty a =>
  split at h
  ·rename_i s ag n hs v o;injection h with h;subst h;simp only[bI,aL,hs,am,MH,VM]at hid;dsimp only[qo];rcases one hid with⟨a,b,c,d,e,h1⟩|⟨a,b,c,d,e',e,h1⟩|⟨a,e,h1⟩<;>rw[e]<;>simp[h1]
  grind
 case store ty a x =>
  split at h
  ·rename_i s u n hs hu o;injection h with h;subst h;simp only[bI,aL,hs,am,MH,VM]at hid;dsimp only[sJ];rcases one hid with⟨a,b,c,d,e,h1⟩|⟨a,b,c,d,e',e,h1⟩|⟨a,e,h1⟩<;>rw[e]<;>simp[h1]
  grind
 case indexAddr ty x ix =>
  split at h
  ·rename_i s i hs hi
   split at h
   ·rename_i e hu
    split at h
    ·injection h with h;subst h;simp only[bI,aL,hs,hu,am,MH,VM]at hid;dsimp only[i7];rcases one hid with⟨a,b,c,d,e,h1⟩|⟨a,b,c,d,e',e,h1⟩|⟨a,e,h1⟩<;>rw[e];dsimp only
     split<;>simp_all
    grind
   all_goals simp_all[bI,aL,aA]
  grind
 case lookup ty x k ok =>
  split at h
  ·rename_i sm kk kt et hm hk hu
   split at h
   ·injection h with h;subst h;have hid:id∈an (sm.run t):=by cases ok<;>simpa [bI,aL,hm,am] using hid
    dsimp only[cW];rw[aa]
    split
    ·rcases one hid with⟨a,b,c,d,e,h1⟩|⟨a,b,c,d,e',e,h1⟩|⟨a,e,h1⟩<;>rw[e]<;>simp[h1]
    ·rfl
   grind
  grind
 case mapUpdate ty m k x =>
  split at h
  ·rename_i sm sk sx kt et hm hk hx hu;injection h with h;subst h;simp only[bI,aL,hm,am,MH,VM]at hid;dsimp only[dT];rw[aa]
   split
   ·rcases one hid with⟨a,b,c,d,e,h1⟩|⟨a,b,c,d,e',e,h1⟩|⟨a,e,h1⟩<;>rw[e]<;>simp[h1]
   ·rfl
  grind
 case insert ty m k x =>
  split at h
  ·rename_i sm sk sx kt et hm hk hx hu;injection h with h;subst h;simp only[bI,aL,hm,am,MH,VM]at hid;dsimp only[dT];rw[aa]
   split
   ·rcases one hid with⟨a,b,c,d,e,h1⟩|⟨a,b,c,d,e',e,h1⟩|⟨a,e,h1⟩<;>rw[e]<;>simp[h1]
   ·rfl
  grind
 case mapEntry ty m k =>
  split at h
  ·rename_i sm sk kt et hm hk hu
   split at h
   ·injection h with h;subst h;simp only[bI,aL,hm,MH,VM]at hid;dsimp only[dM];rw[aa]
    split
    ·rcases one hid with⟨a,b,c,d,e,h1⟩|⟨a,b,c,d,e',e,h1⟩|⟨a,e,h1⟩<;>rw[e]<;>simp[h1]
    ·rfl
   grind
  grind
 case entryStore ty m st x =>
  split at h
  ·rename_i sm ss sx hm hs hx;injection h with h;subst h;simp only[bI,aL,hm,am,MH,VM]at hid;dsimp only[dI];rcases one hid with⟨a,b,c,d,e,h1⟩|⟨a,b,c,d,e',e,h1⟩|⟨a,e,h1⟩<;>rw[e]<;>simp[h1]
  grind
 case slice ty x lo hi mx =>
  have key:∀{sz:Nat} {y:AV} {l h' m:Option AV},id∈an y->qz sz y l h' m g.h=none:=by grind[qz]
  cases mx with
  | none =>
   dsimp only at h
   split at h
   ·rename_i e sx sl sh hu hx hl p
    split at h
    ·injection h with h;subst h;simp only[bI,aL,hx,am,MH,VM]at hid;dsimp only;rw[key hid];rfl
    grind
   ·rename_i n e sx sl sh hu hx hl p
    split at h
    ·injection h with h;subst h;simp only[bI,aL,hx,am,MH,VM]at hid;dsimp only[jS]
     split
     ·rfl
     ·split
      ·rfl
      ·rcases one hid with⟨a,b,c,d,e,h1⟩|⟨a,b,c,d,e',e,h1⟩|⟨a,e,h1⟩<;>rw[e]<;>simp[h1]
    grind
   grind
  | some mx =>
   cases hi with
   |none=>cases h
   | some hi =>
    dsimp only at h
    split at h
    ·rename_i e sx sl sh sm he hx hl p hm
     split at h
     ·injection h with h;subst h;simp only[bI,aL,hx,am,MH,VM]at hid;dsimp only;rw[key hid];rfl
     grind
    grind
 all_goals simp[bI,aL,aA]at hid
structure ZK (C:ZO):Prop where
 mixed:C.P.follows .mixedOrders=true
 P8:C.P.follows .rangeFuncRecover=true
 ZA:fL C
 Vo:∀f e,C.ext f=some e->∀d args g y,e d args g≠.ZP y
 ext:∀f e,C.ext f=some e->∀A bd w γ hg nx g as vs,ZB C A bd w γ hg nx->WF g->(∀id∈as.flatMap (aB g.h aw),g.h.get id≠.none->hg id=g.h.get id)->Wg γ g (U7 g (e (bd+1) as g)) ->
  S9 w γ A bd as vs->e (bd+1) as g≠.fail->∀cs,
  ∃u w' γ' hg',Fin C A bd w γ hg nx g w' γ' hg' (U7 g (e (bd+1) as g))/\RV w' γ' A bd (Q0 (e (bd+1) as g)) u /\
   ((callFunc f vs.toArray).run C.P w=.ok (.value u) w'\/(mI C.P f/\Vi C.P .normal f vs.toArray cs w u w'))
def DR(w:World)(γ:Gm)(A:Nat->Nat->Prop)(bd:Nat):List ZU->List Deferred->Prop
 |[],[]=>True
 |.mark id::ds,d::es=>((γ id).kind=4/\d={ target:=.collected (γ id).blk,args:=#[] })/\DR w γ A bd ds es
 |.call fv args::ds,d::es=>(∃f ys us,fv=.ZH f [] ys/\d.target=.fn (.func f) us/\S9 w γ A bd ys us.toList/\S9 w γ A bd args d.args.toList)/\DR w γ A bd ds es
 |_,_=>False
theorem DR.step{ds:List ZU}:∀{es:List Deferred},DR w γ A bd ds es->Stp w γ w' γ'->DR w' γ' A bd ds es:=by
 induction ds with
 |nil=>grind[DR]
 | cons d ds ih =>
  intro es h s;cases es with
  |nil=>grind[DR]
  | cons e es =>
   cases d with
   | mark id =>
    obtain⟨⟨h1,h2⟩,k⟩:=h;have hk:(γ id).kind≠0:=by omega
    exact⟨⟨by rw[s.kind_eq hk,h1],by rw[h2,s.blk_eq hk (by omega)]⟩,ih k s⟩
   | call fv args =>obtain⟨⟨f,ys,us,h1,h2,h4,h5⟩,k⟩:=h;exact⟨⟨f,ys,us,h1,h2,h4.step s,h5.step s⟩,ih k s⟩
theorem TR.step{nt:Nat}{tmps:Array Value}(h:TR w γ A bd nt t tmps)(s:Stp w γ w' γ'):TR w' γ' A bd nt t tmps :=⟨h.1,λi=>(h.2 i).step s⟩
def Tf(γ:Gm)(rd:Option Nat)(b:Frame):Prop :=
 match rd with
 |none=>b.roundOf=none
 |some id=>(γ id).kind=3/\b.roundOf=some (γ id).blk
theorem Tf.step{b:Frame}(h:Tf γ rd b)(s:Stp w γ w' γ'):Tf γ' rd b:=by
 cases rd with
 |none=>exact h
 | some id =>
  obtain⟨h1,h2⟩:=h;have hk:(γ id).kind≠0:=by omega
  exact⟨by rw[s.kind_eq hk,h1],by rw[h2,s.blk_eq hk (by omega)]⟩
def XG(P:Program)(m:Machine)(b:Frame)(k:List Item)(cs:List Frame):Ex->Act->World->Prop
 |.norm,a,w=>Steps P m (lone (b.atR a k) cs w)
 |.exit id,a,w=>∃k₁,exitTo id k₁=exitTo id k/\Steps P m (lone (b.atR a (.code (.exit id)::k₁)) cs w)
 |.ret,a,w=>∃k₁,Steps P m (lone (b.atR a (.code .ret::k₁)) cs w)
theorem XG.of_steps{P:Program}{m m₁:Machine}{b:Frame}{k:List Item}{cs:List Frame}{e:Ex}{a:Act}(h:Steps P m m₁)(h':XG P m₁ b k cs e a w):XG P m b k cs e a w:=by
 cases e with
 |norm=>exact Steps.trans h h'
 |exit id=>obtain⟨k₁,h1,h2⟩:=h';exact⟨k₁,h1,Steps.trans h h2⟩
 |ret=>obtain⟨k₁,h2⟩:=h';exact⟨k₁,Steps.trans h h2⟩
def DX(C:ZO)(bd nt:Nat)(rd:Option Nat)(c:Code)(t:T)(df:List ZU)(g:G)(e:Ex)(t':T)(df':List ZU)(g':G):Prop :=
 ∀A w γ hg nx b a k cs,ZB C A bd w γ hg nx->Wo g.h hg->WF g->Wg γ g g'->TR w γ A bd nt t a.tmps->DR w γ A bd df a.defers->Tf γ rd b->sN b.kind cs ->
  ∃a' w' γ' hg',Fin C A bd w γ hg nx g w' γ' hg' g'/\TR w' γ' A bd nt t' a'.tmps/\DR w' γ' A bd df' a'.defers /\
   XG C.P (lone (b.atR a (.code c::k)) cs w) b k cs e a' w'
def Xl(C:ZO)(ih:IH):Prop :=∀bd nt rd c t df g e t' df' g',ih.code nt (bd+1) rd c t df g=.ok e t' df' g'->DX C bd nt rd c t df g e t' df' g'
structure Vv (C:ZO) (ih:IH):Prop where
 ZA:dg ih
 call:Ew C ih
 code:Xl C ih
theorem S9.append{xs ys:List AV}{vs us:List Value}(h1:S9 w γ A bd xs vs)(h2:S9 w γ A bd ys us):S9 w γ A bd (xs++ys) (vs++us):=by
 refine⟨by simp[h1.1,h2.1],λi x v hx hv=>?_⟩
 by_cases hi:i<xs.length
 ·rw[QJ hi]at hx;rw[QJ (by rw[<-h1.1];exact hi)]at hv;exact h1.2 i x v hx hv
 ·rw[Sl (by omega)]at hx;rw[Sl (by rw[<-h1.1];omega),<-h1.1]at hv;exact h2.2 _ x v hx hv
theorem Zf{xs:List AV}{vs:Array Value}(hl:xs.length=vs.size)(h:∀(i:Nat) x v,xs[i]?=some x->vs[i]?=some v->RV w γ A bd x v) :
  S9 w γ A bd xs vs.toList:=⟨by omega,λi x v hx hv=>h i x v hx (by grind)⟩
section
variable {P:Program}{b:Frame}{a:Act}{ops:Array Oper}{i:Nat}{rest:List Nat}{k:List Item}{cs:List Frame}{o:Oper}
theorem Aw{v:Value}(ho:ops[i]?=some o)(hw:Region.wanted o (yielded ops a.tmps)=true)(hd:∀c,o.op≠.defer c)
  (hrun:(execOp a.eval o).run P w=.ok (.value v) w') :
  step P (lone (b.atR a (.inRegion ops (i::rest)::k)) cs w)=.next (lone (b.atR (a.put o.dst v) (.inRegion ops rest::k)) cs w'):=by
 have h:=Frame.finish_atR b a ops i rest k v;rw[ho]at h;simp only[WC]at h;refine step_lone_go ?_;simp_all[stepGR_op,Oper.semAt_eq,stepG.apply]
theorem Rc(ho:ops[i]?=some o)(hw:Region.wanted o (yielded ops a.tmps)=true)(hd:∀c,o.op≠.defer c)
  (hrun:(execOp a.eval o).run P w=.ok .skip w') :
  step P (lone (b.atR a (.inRegion ops (i::rest)::k)) cs w)=.next (lone (b.atR (a.put o.dst undef) (.inRegion ops rest::k)) cs w'):=by
 have h:=Frame.finish_atR b a ops i rest k undef;rw[ho]at h;simp only[WC]at h;refine step_lone_go ?_;simp_all[stepGR_op,Oper.semAt_eq,stepG.apply]
theorem Av{v:Value}(ho:ops[i]?=some o)(hw:Region.wanted o (yielded ops a.tmps)=true)(hd:∀c,o.op≠.defer c)
  (hrun:Kc P o a.eval w v w') :
  Steps P (lone (b.atR a (.inRegion ops (i::rest)::k)) cs w) (lone (b.atR (a.put o.dst v) (.inRegion ops rest::k)) cs w'):=by
 rcases hrun with h|⟨h,rfl⟩
 all_goals grind[Steps.one,Aw,Rc]
theorem GC{f:FuncId}{args:Array Value}(ho:ops[i]?=some o)(hw:Region.wanted o (yielded ops a.tmps)=true)(hd:∀c,o.op≠.defer c)
  (hrun:(execOp a.eval o).run P w=.ok (.enter f args) w') :
  step P (lone (b.atR a (.inRegion ops (i::rest)::k)) cs w)=.next (lone (Frame.enter P f args .normal) (b.atR a (.inRegion ops (i::rest)::k)::cs) w'):=by
 refine step_lone_go ?_;rw[stepGR_op ho hw,Oper.semAt_eq _ _ _ hd];simp_all[stepG.apply,Frame.atR]
theorem NL{l:Nat}{f:FuncId}{tmps:Array Value}{assign body:Code}(ho:ops[i]?=some o)(hw:Region.wanted o (yielded ops a.tmps)=true)(hd:∀c,o.op≠.defer c)
  (hrun:(execOp a.eval o).run P w=.ok (.round l f tmps assign body) w') :
  step P (lone (b.atR a (.inRegion ops (i::rest)::k)) cs w)=.next (lone (Frame.round l f tmps assign body .normal) (b.atR a (.inRegion ops (i::rest)::k)::cs) w'):=by
 refine step_lone_go ?_;rw[stepGR_op ho hw,Oper.semAt_eq _ _ _ hd];simp_all[stepG.apply]
theorem vd{f:FuncId}{args:Array Value}{u:Value}{w₁:World}(ho:ops[i]?=some o)(hw:Region.wanted o (yielded ops a.tmps)=true)(hd:∀c,o.op≠.defer c)
  (hrun:(execOp a.eval o).run P w=.ok (.enter f args) w)
  (hout:Vi P .normal f args (b.atR a (.inRegion ops (i::rest)::k)::cs) w u w₁) :
  Steps P (lone (b.atR a (.inRegion ops (i::rest)::k)) cs w) (lone (b.atR (a.put o.dst u) (.inRegion ops rest::k)) cs w₁):=by
 obtain⟨fr,hs,h1,h2,d,h4,fn,h5,e⟩:=hout;have h:=Frame.finish_atR b a ops i rest k u;rw[ho]at h;simp only[WC]at h;refine .head (GC ho hw hd hrun) (Steps.trans hs (.one ?_));rw[<-h];exact step_leave_returned ⟨h1,h2,d,fn,by grind,e⟩
theorem JY(ho:ops[i]?=some o)(hw:Region.wanted o (yielded ops a.tmps)=true)(hd:∀c,o.op≠.defer c)
  (hrec:P.follows .rangeFuncRecover=true) (hcalm:sN b.kind cs)
  (hrun:(execOp a.eval o).run P w=.ok .recover w) :
  step P (lone (b.atR a (.inRegion ops (i::rest)::k)) cs w)=.next (lone (b.atR (a.put o.dst .nilIface) (.inRegion ops rest::k)) cs w):=by
 have d:=Frame.finish_atR b a ops i rest k .nilIface;rw[ho]at d;simp only[WC]at d;have e:tryRecover (b.atR a (.inRegion ops (i::rest)::k)) cs=none:=by
  unfold tryRecover;rcases hcalm with h|⟨h,c,cs',rfl,hm|⟨_,_,_,hm⟩⟩
  all_goals grind[Frame.atR]
 refine step_lone_go ?_;rw[stepGR_op ho hw,Oper.semAt_eq _ _ _ hd,<-d];simp only[stepG.apply,Sem.runT_eq,hrun,hrec,if_true,e];cases hro:(b.atR a (.inRegion ops (i::rest)::k)).roundOf<;>simp[GStep.bare_after]
end
theorem nf{P:Program}{l:Nat}{L:Loop}(h:w.heap[l]?=some (.loop L)):(Instr.getLoop l).run P w=.ok L w:=by simp_all[Instr.getLoop,ia]
theorem yp{P:Program}{l:Nat}{L:Loop}{o:Obj}(h:w.heap[l]?=some (.loop L)):(setObj l o).run P w=.ok () (World.setBlk w l o) :=jy h (by simp)
theorem ZB.setLoop(hr:ZB C A bd w γ hg nx){id ZP:Nat}{t:T}{ps:List Nat}{assign body:Code}{st st':LoopState}{pend pend':Option Code}{L:Loop}
  (hid:hg id=.loop nt t ps assign body ZP st pend) (hL:w.heap[(γ id).blk]?=some (.loop L)) :
  ZB C A bd (World.setBlk w (γ id).blk (.loop { L with state:=st',pending:=pend' })) γ (upd hg id (.loop nt t ps assign body ZP st' pend')) nx /\
   Stp w γ (World.setBlk w (γ id).blk (.loop { L with state:=st',pending:=pend' })) γ:=by
 have k:=hr.obj id;rw[hid]at k;obtain⟨h1,h2,L',h,h4,h5,d,h7,h8,h9,a,b,c⟩:=k;rw[hL]at h;injection h with h;injection h with h;subst h;have hk:(γ id).kind≠0:=by omega
 have s:=yS (w:=w) (o:=.loop { L with state:=st',pending:=pend' }) hk h2;refine hr.setBlk hk h2 ⟨h1,h2,{ L with state:=st',pending:=pend' },?_,rfl,rfl,d,h7,h8,h9,λi=>(a i).step s,b,c⟩
 grind[bo]
theorem Y_{g:G}{id:Nat}{o:ZM}(hr:ZB C A bd w' γ' (upd hg id o) nx)(s:Stp w γ w' γ') :
  Fin C A bd w γ hg nx g w' γ' (upd hg id o) (g.put id o):=by
 refine⟨hr.up (KT _ _),s,⟨[id],by simp,λj hj=>?_,λj hj=>?_⟩⟩
 all_goals simp_all[Za,dz]
theorem Y9{g:G}{o:ZM}(hr:ZB C A bd w' γ' (upd hg g.nx o) (Nat.max nx (g.nx+1)))(s:Stp w γ w' γ') :
  Fin C A bd w γ hg nx g w' γ' (upd hg g.nx o) (g.new o):=by
 refine⟨by simp_all,s,⟨[g.nx],by simp,λj hj=>?_,λj hj=>?_⟩⟩
 all_goals simp_all[Za,dz]
end
section
variable {C:ZO}{A:Nat->Nat->Prop}{bd:Nat}{w w':World}{γ γ':Gm}{hg:Nat->ZM}{nx:Nat}
variable {t:T}{g:G}{ih:IH}
def P9(lk:Looks)(g:G)(hg:Nat->ZM):Prop :=if lk.big then Wo g.h hg else ∀id∈lk.rd++lk.sr.map (·.1),g.h.get id≠.none->hg id=g.h.get id
theorem Wo.agr{lk:Looks}(h:Wo g.h hg):P9 lk g hg:=by
 unfold P9
 split
 ·exact h
 ·exact λid _ hne=>h id hne
theorem HI:∀{ps:List Nat} {xs:List AV} {us:List Value} {t t':T} {tmps:Array Value},dO t nt ps xs=some t'->TR w γ A bd nt t tmps->S9 w γ A bd xs us ->
  ps.length=us.length/\TR w γ A bd nt t' ((ps.zip us).foldl (λtmps (t,a)=>tmps.setIfInBounds t a) tmps):=by
 intro ps
 induction ps with
 | nil =>
  intro xs us t t' tmps h ht b;cases xs with
  | nil =>simp only[dO]at h;injection h with h;subst h;have:us=[]:=ad9.1 b.1.symm;simp_all
  |cons x xs=>grind[dO]
 | cons p ps ih =>
  intro xs us t t' tmps h ht b;cases xs with
  |nil=>grind[dO]
  | cons x xs =>
   cases us with
   |nil=>have:=b.1;grind
   | cons u us =>
    simp only[dO,aa]at h
    split at h
    ·rename_i hp;rw[YD]at hp;have h0:RV w γ A bd x u:=b.2 0 x u rfl rfl;have k:S9 w γ A bd xs us:=⟨by have:=b.1;grind,λi x' u' hx hu=>b.2 (i+1) x' u' (by grind) (by grind)⟩;have c:TR w γ A bd nt ((sp AV.undef p).run t x) (tmps.setIfInBounds p u):=by
      refine⟨by simp[ht.1],λi=>?_⟩;rw[SH]
      by_cases hi:i=p
      ·subst hi;rw[ZN rfl];have:i<tmps.size:=by rw[ht.1];exact hp
       simp_all
      ·rw[ZF hi];have:=ht.2 i;simp_all[Vw]
     obtain⟨a1,a2⟩:=ih h c k<;>simp_all
    grind
theorem QV(hi:Vv C ih)(hr:ZB C A bd w γ hg nx)(hx:Wo g.h hg)(hwf:WF g){id:Nat}{args:List AV}{vs:List Value}
  (hk:(γ id).kind=3) (hv:S9 w γ A bd args vs)  (h:dx ih (bd+1) id args g=r) (hne:r≠.fail) (hf:Wg γ g (U7 g r)) (c:Frame) (cs:List Frame) :
  ∃f tmps assign body,(Instr.yield (γ id).blk vs.toArray).run C.P w=.ok (.round (γ id).blk f tmps assign body) w /\
   ∃u w' γ' hg',Fin C A bd w γ hg nx g w' γ' hg' (U7 g r)/\RV w' γ' A bd (Q0 r) u /\
    Steps C.P (lone (Frame.round (γ id).blk f tmps assign body .normal) (c::cs) w) (lone (c.finish u) cs w'):=by
 unfold dx at h
 split at h
 rotate_left
 ·grind
 rename_i nt t0 ps assign bodyX dfr0 st0 pend0 y;have y:g.h.get id=.loop nt t0 ps assign bodyX dfr0 st0 pend0:=by simp_all
 have V:hg id=.loop nt t0 ps assign bodyX dfr0 st0 pend0:=by rw[hx id (by grind),y]
 have Q:=hr.obj id;rw[V]at Q;obtain⟨k1,k2,L,k3,k4,k5,k6,k7,k8,k9,h3,h8,h9⟩:=Q
 split at h
 ·grind
 rename_i t' R;have X:TR w γ A bd nt t0 L.tmps:=⟨k9,h3⟩;obtain⟨h4,h6⟩:=HI R X hv
 split at h
 rotate_left
 ·grind
 rename_i t1 g1 h1
 split at h
 rotate_left
 ·grind
 rename_i nt1 t2 ps2 assign2 body1 ZP pend m;have m:g1.h.get id=.loop nt1 t2 ps2 assign2 body1 ZP .ready pend:=by simp_all
 split at h
 rotate_left
 ·grind
 rename_i e t3 g2 h2
 split at h
 rotate_left
 ·grind
 rename_i nt3 U ps4 assign4 body4 dfr4 st4 pend4 n;have n:g2.h.get id=.loop nt3 U ps4 assign4 body4 dfr4 st4 pend4:=by simp_all
 have M:=hi.ZA.code _ _ _ _ _ _ _ _ _ _ _ h1 hwf;have w1:WF g1:=M.wf hwf;have N:Mon g1 (g1.put id (.loop nt1 t2 ps2 assign2 body1 ZP .busy pend)):=Mon.put w1 (by grind);have w2:=N.wf w1;have T:=hi.ZA.code _ _ _ _ _ _ _ _ _ _ _ h2 w2;have w3:=T.wf w2;have m4:∀o,Mon g2 (g2.put id o):=λo=>Mon.put w3 (by grind);have h5:(U7 g r).nx=g2.nx:=by subst h;cases e<;>simp[U7]
 have l:Wg γ g g2:=λi a b=>hf i a (by omega)
 let bR:Frame:={ (default:Frame) with fn:=L.fn,kind:=.normal,roundOf:=some (γ id).blk }
 let tmps:=(L.params.zip vs.toArray).foldl (λtmps (t,a)=>tmps.setIfInBounds t a) L.tmps
 have h7:tmps=(ps.zip vs).foldl (λtmps (t,a)=>tmps.setIfInBounds t a) L.tmps:=by grind[Array.toList_zip]
 have v:(Instr.yield (γ id).blk vs.toArray).run C.P w=.ok (.round (γ id).blk L.fn tmps assign bodyX) w:=by
  unfold Instr.yield;have hs:vs.toArray.size=L.params.size:=by grind
  simp only[Qk,nf k3,abi,hs,ne_eq,not_true_eq_false,if_false,k7,k8]
  rfl
 have s:Frame.round (γ id).blk L.fn tmps assign bodyX .normal=bR.atR { tmps:=tmps,defers:=[] } [.code assign,.beginRound,.code bodyX]:=by grind[Frame.round,Frame.atR]
 obtain⟨a1,wa,γa,I,f1,tr1,dr1,ar1⟩:=hi.code _ _ _ _ _ _ _ _ _ _ _ h1 A w γ hg nx bR { tmps:=tmps,defers:=[] } [.beginRound,.code bodyX] (c::cs) hr hx hwf
  (l.le (Y1 N.nx T.nx)) (by grind) trivial ⟨hk,rfl⟩ (.inl rfl)
 have Y:Wo g1.h I:=f1.ext M hx;have z:I id=.loop nt1 t2 ps2 assign2 body1 ZP .ready pend:=by rw[Y id (by grind),m]
 have O:(γ id).kind≠0:=by omega
 have G:(γa id).blk=(γ id).blk:=f1.WB.blk_eq O (by omega);have D:=f1.rel.obj id;rw[z]at D;obtain⟨ka1,ka2,La,ka3,ka4,ka5,ka6,ka7,ka8,ka9,ka10,ka11,ka12⟩:=D;have k:=f1.rel.setLoop (st':=.busy) (pend':=pend) z ka3;rw[G]at ka3 k;have q:(Instr.beginRound (γ id).blk).run C.P wa=.ok () (World.setBlk wa (γ id).blk (.loop { La with state:=.busy,pending:=pend })):=by simp_all[Instr.beginRound,nf,yp]
 have f2:Fin C A bd wa γa I (Nat.max nx g1.nx) g1 _ γa _ (g1.put id (.loop nt1 t2 ps2 assign2 body1 ZP .busy pend)):=Y_ k.1 k.2;have p:=f1.trans f2 M N;obtain⟨a2,wb,γb,J,f3,tr3,dr3,ar3⟩:=hi.code _ _ _ _ _ _ _ _ _ _ _ h2 A _ γa _ (Nat.max nx (g1.put id (.loop nt1 t2 ps2 assign2 body1 ZP .busy pend)).nx) bR a1 [] (c::cs) p.rel (p.ext (M.trans N) hx) w2
  (p.freed hr (M.trans N) l) (tr1.step k.2) (by grind[DR.step]) ⟨by omega,by grind⟩ (.inl rfl)
 have d:=p.trans f3 (M.trans N) T;have Z:Wo g2.h J:=d.ext ((M.trans N).trans T) hx;have B:J id=.loop nt3 U ps4 assign4 body4 dfr4 st4 pend4:=by rw[Z id (by grind),n]
 have H:(γb id).blk=(γ id).blk:=d.WB.blk_eq O (by omega);have E:=d.rel.obj id;rw[B]at E;obtain⟨kb1,kb2,Lb,kb3,kb4,kb5,kb6,kb7,kb8,kb9,kb10,kb11,kb12⟩:=E;have K:=λst' pend'=>d.rel.setLoop (st':=st') (pend':=pend') B kb3;rw[H]at kb3 K;have x:∀jump,(Instr.endRound (γ id).blk jump).run C.P wb=.ok (.bool jump.isNone) (World.setBlk wb (γ id).blk (.loop { Lb with state:=if jump.isNone then .ready else .done,pending:=jump })):=by simp_all[Instr.endRound,nf,yp]
 refine⟨L.fn,tmps,assign,bodyX,v,?_⟩;rw[s];have sbegin:Steps C.P (lone (bR.atR { tmps:=tmps,defers:=[] } [.code assign,.beginRound,.code bodyX]) (c::cs) w) (lone (bR.atR a1 [.code bodyX]) (c::cs) (World.setBlk wa (γ id).blk (.loop { La with state:=.busy,pending:=pend }))) :=Steps.trans ar1 (.one (stepR_beginRound rfl q))
 have fin:∀(jump:Option Code) (st':LoopState),st'=(if jump.isNone then .ready else .done) ->
   Fin C A bd w γ hg nx g (World.setBlk wb (γ id).blk (.loop { Lb with state:=st',pending:=jump })) γb (upd J id (.loop nt3 U ps4 assign4 body4 dfr4 st' jump)) (g2.put id (.loop nt3 U ps4 assign4 body4 dfr4 st' jump)):=by
  grind[Fin.trans,Y_,Mon.trans]
 subst h;cases e with
 |norm=>exact⟨.bool true,_,γb,_,fin none .ready rfl,.bool _ _,Steps.trans sbegin (Steps.trans ar3 (.one (stepR_round_end rfl rfl (x none))))⟩
 | exit j =>obtain⟨k₁,W,F⟩:=ar3;exact⟨.bool false,_,γb,_,fin (some (.exit j)) .done rfl,.bool _ _,Steps.trans sbegin (Steps.trans F (.one (stepR_round_exit rfl rfl (by rw[W];rfl) (by grind))))⟩
 | ret =>obtain⟨k₁,F⟩:=ar3;exact⟨.bool false,_,γb,_,fin (some .ret) .done rfl,.bool _ _,Steps.trans sbegin (Steps.trans F (.one (stepR_round_ret rfl rfl (x (some .ret)))))⟩
noncomputable def W5(C:ZO)(fv:AV)(as:List AV)(g:G):Looks :=
 match fv with
 |.ZH f first cap=>ap ((C.ext f).isSome || C.Wd f) (am ((first++(as++cap)).flatMap (aB g.h aw))) dj
 |_=>dj
theorem UP(h:P9 dj g hg):Wo g.h hg:=h
section
variable {b:Frame}{a:Act}{ops:Array Oper}{i:Nat}{rest:List Nat}{k:List Item}{cs:List Frame}{o:Oper}
theorem HV(hC:ZK C)(hi:Vv C ih)(hr:ZB C A bd w γ hg nx)(hwf:WF g){fv:AV}{v:Value}{as:List AV}{vs:List Value}
  (hfv:RV w γ A bd fv v) (has:S9 w γ A bd as vs) (hag:P9 (W5 C fv as g) g hg)
   (h:dQ C ih (bd+1) fv as g=r) (hne:r≠.fail) (hf:Wg γ g (U7 g r))
  (ho:ops[i]?=some o) (hw:Region.wanted o (yielded ops a.tmps)=true) (hd:∀c,o.op≠.defer c)
  (hexec:(execOp a.eval o).run C.P w=(do let d <-Deferred.ofValue v vs.toArray;invoke d.target d.args:Sem Next).run C.P w) :
  ∃u w' γ' hg',Fin C A bd w γ hg nx g w' γ' hg' (U7 g r)/\RV w' γ' A bd (Q0 r) u /\
   Steps C.P (lone (b.atR a (.inRegion ops (i::rest)::k)) cs w) (lone (b.atR (a.put o.dst u) (.inRegion ops rest::k)) cs w'):=by
 cases hfv with
 | ZH _ f xs ys vs1 us1 hl hl2 h1 h2 =>
  have j:S9 w γ A bd (xs++(as++ys)) (vs1.toList++(vs++us1.toList)):=(Zf hl h1).append (has.append (Zf hl2 h2));have n:(vs1.toList++(vs++us1.toList)).toArray=(vs1++vs.toArray)++us1:=by grind
  have m:mI C.P f->(execOp a.eval o).run C.P w=.ok (.enter f ((vs1++vs.toArray)++us1)) w:=by intro he;rw[hexec];simp only[Deferred.ofValue,invoke,Qk,MV,abi];exact he _ _
  simp only[dQ]at h;simp only[W5]at hag;cases hext:C.ext f with
  | some e =>
   simp only[hext]at h hag;have hx:∀id∈(xs++(as++ys)).flatMap (aB g.h aw),g.h.get id≠.none->hg id=g.h.get id:=by simp_all[am,P9]
   have hs:=hC.ext f e hext;subst h;obtain⟨u,w',γ',hg',f1,rv,out⟩:=hs A bd w γ hg nx g _ _ hr hwf hx hf j hne (b.atR a (.inRegion ops (i::rest)::k)::cs)
   grind[Steps.one,Aw,Deferred.ofValue,invoke,vd]
  | none =>
   simp only[hext]at h hag;cases hiso:C.Wd f with
   | true =>
    simp only[hiso]at h hag;have hx:∀id∈(xs++(as++ys)).flatMap (aB g.h aw),g.h.get id≠.none->hg id=g.h.get id:=by grind[am,P9]
    subst h;obtain⟨he,u,w',γ',hg',f1,rv,out⟩:=q9 hi.call hi.ZA.call hr hx j hne (b.atR a (.inRegion ops (i::rest)::k)::cs)
    grind[vd]
   | false =>
    simp only[hiso]at h hag;have hx:Wo g.h hg:=hag;cases hcall:ih.call (bd+1) f (xs++(as++ys)) g with
    | fail =>rw[hcall]at h;exact absurd h.symm hne
    | ok rv0 g1 =>rw[hcall]at h;have h:OR.upd rv0 g1=r:=h;subst h;obtain⟨he,hs⟩:=hi.call _ _ _ _ _ _ hcall;obtain⟨u,w',γ',hg',f1,rv,out⟩:=hs A w γ hg nx _ hr hx hwf hf j .normal (b.atR a (.inRegion ops (i::rest)::k)::cs) (.inl rfl);rw[n]at out;exact⟨u,w',γ',hg',f1,rv,vd ho hw hd (m he) out⟩
 | NH _ id bl hk hb =>subst hb;simp only[dQ]at h;have hx:Wo g.h hg:=UP hag;obtain⟨f,tmps,assign,body,p,u,w',γ',hg',f1,rv,st⟩:=QV hi hr hx hwf hk has h hne hf (b.atR a (.inRegion ops (i::rest)::k)) cs;have l:=Frame.finish_atR b a ops i rest k u;rw[ho]at l;simp only[WC]at l;rw[l]at st;refine⟨u,w',γ',hg',f1,rv,.head (NL ho hw hd ?_) st⟩<;>grind[Deferred.ofValue,invoke]
 |_=>exact absurd h.symm hne
theorem JI(hC:ZK C)(hi:Vv C ih)(hr:ZB C A bd w γ hg nx)(hwf:WF g)(ht:TR w γ A bd nt t a.tmps)(hcalm:sN b.kind cs)
  (hag:P9 ((aL C o.op).run t g) g hg)  (h:(bP C o.op).run ih (bd+1) rd t g=r) (hne:r≠.fail) (hnd:∀x,r≠.ZP x) (hf:Wg γ g (U7 g r))
  (ho:ops[i]?=some o) (hw:Region.wanted o (yielded ops a.tmps)=true) :
  ∃u w' γ' hg',Fin C A bd w γ hg nx g w' γ' hg' (U7 g r)/\RV w' γ' A bd (Q0 r) u /\
   Steps C.P (lone (b.atR a (.inRegion ops (i::rest)::k)) cs w) (lone (b.atR (a.put o.dst u) (.inRegion ops rest::k)) cs w'):=by
 have hm:Mon g (U7 g r):=by grind[j4,ZK.ZA,Vv.ZA]
 unfold bP at h
 split at h
 rotate_left
 ·grind
 rename_i f d;generalize hop:o.op=op at d hag;have q:∀(args:Array Operand),(args.toList.map a.eval).toArray=args.map a.eval:=λargs=>by grind
 unfold Uy at d
 split at d
 ·
  rename_i fx args at2;have hd:∀c,o.op≠.defer c:=by grind
  split at d
  ·rename_i vs l;simp only[aL,aW,l]at hag;refine HV (fv:=.ZH fx [] []) (v:=.func (.func fx) #[] #[]) (as:=vs.run t) hC hi hr hwf (.ZH _ fx [] [] #[] #[] rfl rfl (by grind) (by grind)) (jc ht hr l) hag ?_ hne hf ho hw hd ?_
   ·rw[<-h];simp only[dQ,DI,VM]
    split at d
    ·rename_i e he;injection d with d;subst d;rfl
    ·rename_i he;rw[aa]at d
     split at d
     ·rename_i p;injection d with d;subst d;simp_all
     ·rename_i p;injection d with d;subst d;simp_all
   grind[execOp,resolve,Act.eval]
  grind
 ·
  rename_i fo args at2 D;have hd:∀c,o.op≠.defer c:=by grind
  split at d
  ·rename_i fv vs n l;injection d with d;subst d;simp only[aL,n,l]at hag;refine HV (fv:=fv.run t) (v:=a.eval fo) (as:=vs.run t) hC hi hr hwf (aC n ht hr) (jc ht hr l) hag h hne hf ho hw hd ?_
   grind[execOp,resolve]
  grind
 ·
  have hd:∀c,o.op≠.defer c:=by grind
  injection d with d;subst d;subst h;refine⟨.nilIface,w,γ,hg,Fin.refl hr,.tO _,.one (JY ho hw hd hC.P8 hcalm ?_)⟩;simp only[execOp,hop,resolve,invoke,Qk,MV,abi]
  rfl
 ·
  split at d
  ·injection d with d;subst d
   grind
  grind
 ·
  split at d
  ·rename_i s hs;injection d with d;subst d;have hd:∀c,o.op≠.defer c:=by rw[hop];rintro c rfl;grind[cP]
   have m:∀id∈bI C op t g,hg id=g.h.get id:=by
    intro id y;have z:g.h.get id≠.none:=λz=>hne (by grind[Mc]);unfold P9 at hag
    split at hag
    ·exact hag id z
    ·exact hag id y z
   have j:=Wq hs hop ht hr (hf g.nx (ZV _) hm.nx) m;have h:s.run t g=r:=h;rw[h]at j;cases r with
   |fail=>grind
   | val x =>obtain⟨v,h1,h2⟩:=j;exact⟨v,w,γ,hg,Fin.refl hr,h2,Av ho hw hd h1⟩
   | upd x g' =>
    obtain⟨v,w',γ',id,ob,h1,h2,B,h4⟩:=j;rcases h4 with⟨rfl,h4⟩|⟨rfl,rfl,h4⟩
    ·exact⟨v,w',γ',_,Y_ h4 B,h2,Av ho hw hd h1⟩
    ·exact⟨v,w',γ',_,Y9 h4 B,h2,Av ho hw hd h1⟩
   |ZP x=>grind
  grind
end
end
section
variable {K V:Type}
open Classical in
noncomputable def ov(S:Nat->Prop)(wr:Nat->K->Prop)(val:Nat->K->V)(base:K->V):Nat->K->V
 |0,k=>base k
 |i+1,k=>if S i/\wr i k then val (i+1) k else ov S wr val base i k
variable {S S':Nat->Prop}{wr:Nat->K->Prop}{val:Nat->K->V}{base:K->V}{k:K}
theorem Tw(h:∀j,j<n->wr j k->(S j↔S' j)):ov S wr val base n k=ov S' wr val base n k:=by
 induction n with
 |zero=>rfl
 | succ n ih =>
  simp only[ov]
  grind
theorem Gf(hm:m<=n)(h:∀j,m<=j->j<n->S j->¬wr j k):ov S wr val base n k=ov S wr val base m k:=by
 induction n with
 |zero=>grind
 | succ n ih =>
  by_cases hmn:m=n+1
  ·grind
  ·simp only[ov]
   grind
theorem Tu(hi:i<n)(hw:wr i k)(h:∀j,i<j->j<n->S j->¬wr j k):ov (λj=>S j\/j=i) wr val base n k=val (i+1) k:=by
 rw[Gf (m:=i+1) (by omega) (λj h1 h2 h3=>by grind)]
 grind[ov]
theorem JK(hw:¬wr i k):ov (λj=>S j\/j=i) wr val base n k=ov S wr val base n k:=by refine Tw λj _ hj=>?_<;>grind
theorem Tv(hi:i<=n)(keep:∀j,j<n->¬wr j k->val (j+1) k=val j k)(h:∀j,j<n->wr j k->(S j↔j<i)) :
  ((∃j,j<i/\wr j k)/\ov S wr val base n k=val i k)\/((∀j,j<i->¬wr j k)/\ov S wr val base n k=base k/\val i k=val 0 k):=by
 rw[Gf hi (λj h1 h2 h3 h4=>by grind)];have key:∀m,m<=i->((∃j,j<m/\wr j k)/\ov S wr val base m k=val m k)\/((∀j,j<m->¬wr j k)/\ov S wr val base m k=base k/\val m k=val 0 k):=by
  intro m
  induction m with
  |zero=>intro _;exact .inr ⟨(by grind),rfl,rfl⟩
  | succ m ih =>
   intro hm
   by_cases hw:wr m k
   ·left;refine⟨(by grind),?_⟩;simp only[ov]
    grind
   ·simp only[ov]
    grind
 grind
end
theorem CM(es:List Edge)(acc:List Nat):∀(m i:Nat),
  (es.foldl (λm e=>ap (Region.binds .any e) (m ||| 2 ^ e.on ||| acc.getD e.on 0) m) m).testBit i=true ->
  m.testBit i=true\/∃e∈es,Region.binds .any e=true/\(e.on=i\/(acc.getD e.on 0).testBit i=true):=by
 induction es with
 |nil=>grind
 | cons e es ih =>
  intro m i h;simp only[IS]at h;rcases ih _ i h with h|⟨e',h1,h2,k⟩
  ·rw[aa]at h
   grind
  grind
theorem Gl{S:Nat->Prop}{all:List Oper}(hS:∀j o,all[j]?=some o->S j->∀e∈o.after.toList,Region.binds .any e=true->S e.on) :
  ∀(ops:List Oper) (acc:List Nat) (pre:List Oper),all=pre++ops->pre.length=acc.length->(∀j i,(acc.getD j 0).testBit i=true->S j->S i) ->
   ∀j i,((bO ops acc).getD j 0).testBit i=true->S j->S i:=by
 intro ops
 induction ops with
 |nil=>intro acc pre _ _ h;exact h
 | cons o rest ih =>
  intro acc pre k a h;simp only[bO];refine ih _ (pre++[o]) (by grind) (by grind) λj i hj hSj=>?_
  by_cases hlt:j<acc.length
  ·grind
  ·by_cases hje:j=acc.length
   ·subst hje;rw[acG,Sl (ZV _)]at hj;simp only[Yp,adc,Ns]at hj;have ho:all[acc.length]?=some o:=by grind
    rcases CM _ acc _ _ hj with h0|⟨e,h1,h2,b⟩<;>grind
   grind
theorem BO{α:Type}{f:Nat->α->Nat->α->Bool}{x:α}:∀{l:List α} {j0:Nat},il f i x j0 l=true->∀(j:Nat) y,l[j]?=some y->f i x (j0+j) y=true:=by
 intro l
 induction l with
 |nil=>grind
 | cons a l ih =>intro j0 h j y k;simp only[il,Zk]at h;cases j<;>grind
theorem AH{α:Type}{f:Nat->α->Nat->α->Bool}:∀{l:List α} {i0:Nat},mT f i0 l=true->∀(i j:Nat) x y,i<j->l[i]?=some x->l[j]?=some y->f (i0+i) x (i0+j) y=true:=by
 intro l
 induction l with
 |nil=>grind
 | cons a l ih =>
  intro i0 h i j x y k hx b;simp only[mT,Zk]at h;cases j with
  |zero=>omega
  | succ j =>cases i<;>grind[BO]
theorem G7:∀{l:List Oper} {i0:Nat},s7 i0 l=true->∀(i:Nat) o,l[i]?=some o->∀e∈o.after.toList,Region.binds .any e=true->e.on<i0+i:=by
 intro l
 induction l with
 |nil=>grind
 | cons a l ih =>
  intro i0 h i o ho e he hb;simp only[s7,Zk]at h;cases i with
  | zero =>simp at ho;subst ho;have:=Xw.1 h.1 e he;simp_all
  | succ i =>grind
theorem FH:∀{l:List Oper} {i0:Nat},qk pm i0 l=true->∀(i:Nat) o,l[i]?=some o->∀j b,o.guard=some (j,b)->(pm.getD (i0+i) 0).testBit j=true:=by
 intro l
 induction l with
 |nil=>grind
 | cons a l ih =>intro i0 h i o ho j b hg;simp only[qk,Zk]at h;cases i<;>grind
def cnt(p:Nat->Bool):Nat->Nat
 |0=>0
 |n+1=>cnt p n+(if p n then 1 else 0)
theorem RM{p:Nat->Bool}:∀{n:Nat},cnt p n=0->∀i,i<n->p i=false:=by
 intro n
 induction n<;>grind[cnt]
theorem XA{p q:Nat->Bool}(h:∀i,q i=true->p i=true):∀{n i:Nat},i<n->p i=true->q i=false->cnt q n<cnt p n:=by
 have k:∀n,cnt q n<=cnt p n:=by
  intro n
  induction n with
  |zero=>exact ZV _
  | succ n ih =>grind[cnt]
 intro n
 induction n<;>grind[cnt]
section
variable {C:ZO}{t t':T}{g:G}{ih:IH}
theorem Mw{x:Operand}{s:TM (T->AV)}(h:aW C x=some s)(hx:∀n,x=.tmp n->t.get AV.undef n=t'.get AV.undef n):s.run t=s.run t':=by
 cases x with
 |tmp n=>simp[aW]at h;subst h;simp_all
 | const v =>
  simp only[aW]at h
  split at h
  ·injection h with h;subst h;rfl
  grind
 | global gl =>
  simp only[aW]at h
  split at h
  ·injection h with h;subst h;rfl
  grind
 |func f=>simp[aW]at h;subst h;rfl
def HN(C:ZO)(t t':T)(xs:List Operand):Prop:=∀x∈xs,∀s,aW C x=some s->s.run t=s.run t'
theorem dH:∀{xs:List Operand} {vs:TM (T->List AV)},cC C xs=some vs->HN C t t' xs->vs.run t=vs.run t':=by
 intro xs
 induction xs with
 |nil=>simp_all[cC]
 | cons x xs ih =>
  intro vs h hx;simp only[cC]at h
  split at h
  ·rename_i a as h1 h2;injection h with h;subst h;simp only[hx x ado a h1,ih h2 λy hy=>hx y (ada _ hy)]
  grind
variable {op:Op}{f:TM VH}
theorem EJ{b:Builtin}{argTypes:Array TypeId}{args:List Operand}(h:eA C b argTypes args=some f)(hx:HN C t t' args):f.run t g=f.run t' g:=by
 unfold eA at h
 split at h
 ·split at h
  ·rename_i s _ hs;injection h with h;subst h;simp only[hx _ (by simp) _ hs]
  grind
 ·split at h
  ·rename_i sa sx _ _ ha hb;have e1:=hx _ (by simp) _ ha;have k:=hx _ (by simp) _ hb
   repeat' (first|split at h| (rw[aa]at h;split at h))
   all_goals first| (cases h;done)| (injection h with h;subst h;grind)
  grind
 ·split at h
  ·rename_i sa sx _ ha hb;have e1:=hx _ (by simp) _ ha;have k:=hx _ (by simp) _ hb
   repeat' (first|split at h)
   all_goals first| (cases h;done)| (injection h with h;subst h;grind)
  grind
 ·split at h
  ·rename_i s _ hs;have e1:=hx _ (by simp) _ hs
   repeat' (first|split at h)
   all_goals first| (cases h;done)| (injection h with h;subst h;grind)
  grind
 ·split at h
  ·rename_i s _ hs;have e1:=hx _ (by simp) _ hs
   repeat' (first|split at h| (rw[aa]at h;split at h))
   all_goals first| (cases h;done)| (injection h with h;subst h;grind)
  grind
 ·split at h
  ·rename_i sa sx ha hb;injection h with h;subst h;simp only[hx _ (by simp) _ ha,hx _ (by simp) _ hb]
  grind
 ·split at h
  ·rename_i sa sx ha hb;injection h with h;subst h;simp only[hx _ (by simp) _ ha,hx _ (by simp) _ hb]
  grind
 grind
theorem Mx(h:cP C op=some f)(hx:HN C t t' op.operands.toList):f.run t g=f.run t' g:=by
 cases op<;>simp only[cP]at h<;>first| (cases h;done)|skip
 case call c =>obtain⟨callee,args,argTypes⟩:=c;cases callee<;>first| (cases h;done)|skip<;>grind[EJ,Op.operands,Call.operands]
 case move x =>
  split at h
  ·rename_i s hs;injection h with h;subst h;simp only[hx _ (by simp[Op.operands]) _ hs]
  grind
 case assign x =>
  split at h
  ·rename_i s hs;injection h with h;subst h;simp only[hx _ (by simp[Op.operands]) _ hs]
  grind
 case pick c x y =>
  split at h
  ·rename_i sc sx sy hc h1 h2;injection h with h;subst h;simp only[hx _ (by simp[Op.operands]) _ hc,hx _ (by simp[Op.operands]) _ h1,hx _ (by simp[Op.operands]) _ h2]
  grind
 case alloc ty =>
  split at h
  ·injection h with h;subst h;rfl
  grind
 case box ty x =>
  split at h
  ·rename_i s hs;injection h with h;subst h;simp only[RA,hx _ (by simp[Op.operands]) _ hs]
  grind
 case load ty x =>
  split at h
  ·rename_i s ag n hs w A;injection h with h;subst h;simp only[qo,hx _ (by simp[Op.operands]) _ hs]
  grind
 case store ty x y =>
  split at h
  ·rename_i s u n hs hu A;injection h with h;subst h;simp only[sJ,hx _ (by simp[Op.operands]) _ hs,hx _ (by simp[Op.operands]) _ hu]
  grind
 case binOp op ty x y p =>
  split at h
  ·rename_i s u hs hu;injection h with h;subst h;simp only[hx _ (by simp[Op.operands]) _ hs,hx _ (by simp[Op.operands]) _ hu]
  grind
 case unOp op ty x =>
  split at h
  ·rename_i s hs;injection h with h;subst h;simp only[hx _ (by simp[Op.operands]) _ hs]
  grind
 case convert src dst x =>
  split at h
  ·rename_i s sd k hs v hk;injection h with h;subst h;simp only[hx _ (by simp[Op.operands]) _ hs]
  grind
 case nilCheck x =>
  split at h
  ·rename_i s hs;injection h with h;subst h;simp only[hx _ (by simp[Op.operands]) _ hs]
  grind
 case makeInterface ty x =>
  split at h
  ·cases h
  ·rename_i s d B hs hu;injection h with h;subst h;simp only[hx _ (by simp[Op.operands]) _ hs]
  grind
 case makeSlice ty l c =>
  split at h
  ·rename_i e sl sc he hl hc
   split at h
   ·rw[aa]at h
    split at h
    ·injection h with h;subst h;simp only[ju,hx _ (by simp[Op.operands]) _ hl,hx _ (by simp[Op.operands]) _ hc]
    grind
   grind
  grind
 case fieldAddr ty x fi =>
  split at h
  ·rename_i s fo ft hs o
   split at h
   ·injection h with h;subst h;simp only[mo,hx _ (by simp[Op.operands]) _ hs]
   grind
  grind
 case field ty x fi =>
  split at h
  ·rename_i s fo ft hs o
   split at h
   ·injection h with h;subst h;simp only[hx _ (by simp[Op.operands]) _ hs]
   grind
  grind
 case indexAddr ty x ix =>
  split at h
  ·rename_i s i hs hi
   split at h
   ·split at h
    ·injection h with h;subst h;simp only[i7,hx _ (by simp[Op.operands]) _ hs,hx _ (by simp[Op.operands]) _ hi]
    grind
   ·split at h
    ·injection h with h;subst h;simp only[qm,hx _ (by simp[Op.operands]) _ hs,hx _ (by simp[Op.operands]) _ hi]
    grind
   grind
  grind
 case index ty x ix =>
  split at h
  ·rename_i s i hs hi
   split at h
   ·split at h
    ·injection h with h;subst h;simp only[Al,hx _ (by simp[Op.operands]) _ hs,hx _ (by simp[Op.operands]) _ hi]
    ·cases h
   ·injection h with h;subst h;simp only[tX,hx _ (by simp[Op.operands]) _ hs,hx _ (by simp[Op.operands]) _ hi]
   ·cases h
  grind
 case lookup ty x k ok =>
  split at h
  ·rename_i m kk kt et hm hk hu
   split at h
   ·injection h with h;subst h;simp only[cW,hx _ (by simp[Op.operands]) _ hm,hx _ (by simp[Op.operands]) _ hk]
   grind
  grind
 case mapUpdate ty m k x =>
  split at h
  ·rename_i sm sk sx kt et hm hk a hu;injection h with h;subst h;simp only[dT,hx _ (by simp[Op.operands]) _ hm,hx _ (by simp[Op.operands]) _ hk,hx _ (by simp[Op.operands]) _ a]
  grind
 case insert ty m k x =>
  split at h
  ·rename_i sm sk sx kt et hm hk a hu;injection h with h;subst h;simp only[dT,hx _ (by simp[Op.operands]) _ hm,hx _ (by simp[Op.operands]) _ hk,hx _ (by simp[Op.operands]) _ a]
  grind
 case mapEntry ty m k =>
  split at h
  ·rename_i sm sk kt et hm hk hu
   split at h
   ·injection h with h;subst h;simp only[dM,hx _ (by simp[Op.operands]) _ hm,hx _ (by simp[Op.operands]) _ hk]
   grind
  grind
 case entryStore ty m st x =>
  split at h
  ·rename_i sm ss sx hm hs a;injection h with h;subst h;simp only[dI,hx _ (by simp[Op.operands]) _ hm,hx _ (by simp[Op.operands]) _ hs,hx _ (by simp[Op.operands]) _ a]
  grind
 case extract x i =>
  split at h
  ·rename_i s hs;injection h with h;subst h;simp only[hx _ (by simp[Op.operands]) _ hs]
  grind
 case makeMap ty r =>
  cases r with
  |some r=>cases h
  | none =>
   dsimp only at h
   split at h
   ·injection h with h;subst h;rfl
   grind
 case makeFunc fn fi ca =>
  cases fn with
  | func fx =>
   dsimp only at h
   split at h
   ·rename_i sa sc ha hc;injection h with h;subst h;have e1:=dH (t:=t) (t':=t') ha λx hm=>hx x (by grind[Op.operands]);have E:=dH (t:=t) (t':=t') hc λx hm=>hx x (by grind[Op.operands])
    grind
   grind
  |_=>cases h
 case buildSlice ty len parts =>
  split at h
  ·rename_i e vs he b;have e1:=dH (t:=t) (t':=t') b λx hm=>hx x (by grind[Op.operands])
   split at h
   ·rw[aa]at h
    split at h
    ·injection h with h;subst h;grind[jC]
    grind
   grind
  grind
 case build ty parts =>
  split at h
  ·rename_i zero vs hz b;have e1:=dH (t:=t) (t':=t') b λx hm=>hx x (by grind[Op.operands])
   split at h
   ·split at h
    ·split at h
     ·injection h with h;subst h;simp only[rB,e1]
     ·cases h
    ·cases h
   ·split at h
    ·injection h with h;subst h;simp only[rB,e1]
    ·cases h
   ·cases h
  grind
 case slice ty x lo hi mx =>
  have optR:∀{y:Option Operand} {s:TM (T->List AV)},(∀z,y=some z->z∈(Op.slice ty x lo hi mx).operands.toList)->cC C y.toList=some s->s.run t=s.run t':=by
   intro y s D hs;refine dH hs λz hm=>hx z (D z ?_);cases y with
   |none=>simp at hm
   |some q=>simp at hm;rw[hm]
  cases mx with
  | none =>
   dsimp only at h
   split at h
   ·rename_i e sx sl sh hu h1 h2 j
    split at h
    ·injection h with h;subst h;simp only[hx _ (by simp[Op.operands]) _ h1,optR (by simp_all[Op.operands]) h2,optR (by simp_all[Op.operands]) j]
    grind
   ·rename_i n e sx sl sh hu h1 h2 j
    split at h
    ·injection h with h;subst h;simp only[jS,hx _ (by simp[Op.operands]) _ h1,optR (by simp_all[Op.operands]) h2,optR (by simp_all[Op.operands]) j]
    grind
   grind
  | some mx =>
   cases hi with
   |none=>cases h
   | some hi =>
    dsimp only at h
    split at h
    ·rename_i e sx sl sh sm he h1 h2 j h4
     split at h
     ·injection h with h;subst h;simp only[hx _ (by simp[Op.operands]) _ h1,optR (by simp_all[Op.operands]) h2,hx _ (by simp[Op.operands]) _ j,hx _ (by simp[Op.operands]) _ h4]
     grind
    grind
theorem Mu(hx:HN C t t' op.operands.toList):(bP C op).run ih d rd t g=(bP C op).run ih d rd t' g:=by
 unfold bP
 split
 rotate_left
 ·rfl
 rename_i f h;unfold Uy at h
 split at h
 ·rename_i fx args at2
  split at h
  ·rename_i vs k;have e1:=dH (t:=t) (t':=t') k λx hm=>hx x (by grind[Op.operands,Call.operands])
   repeat' (first|split at h| (rw[aa]at h;split at h))
   all_goals (injection h with h;subst h;grind)
  grind
 ·rename_i fo args at2 c
  split at h
  ·rename_i fv vs a k;have e1:=dH (t:=t) (t':=t') k λx hm=>hx x (by grind[Op.operands,Call.operands]);have b:=hx fo (by simp[Op.operands,Call.operands]) _ a;injection h with h;subst h;grind
  grind
 ·injection h with h;subst h;rfl
 ·rename_i fo args at2
  split at h
  ·rename_i fv vs a k;have e1:=dH (t:=t) (t':=t') k λx hm=>hx x (by grind[Op.operands,Call.operands]);have b:=hx fo (by simp[Op.operands,Call.operands]) _ a;injection h with h;subst h;grind
  grind
 ·split at h
  ·rename_i s hs;injection h with h;subst h
   grind[Mx]
  grind
theorem Kp{g':G}(hh:g.h=g'.h)(hx:HN C t t' op.operands.toList):(aL C op).run t g=(aL C op).run t' g':=by
 have one:∀{x:Operand} {F:AV->Looks},x∈op.operands.toList ->
   (match aW C x with|some a=>(⟨λt _=>F (a.run t)⟩:TM (T->G->Looks))|none=>⟨λ_ _=>dj⟩).run t g =
   (match aW C x with|some a=>(⟨λt _=>F (a.run t)⟩:TM (T->G->Looks))|none=>⟨λ_ _=>dj⟩).run t' g':=by
  intro x F hm;cases hs:aW C x with
  |none=>rfl
  |some s=>simp only[hx x hm s hs]
 cases op<;>first|rfl|skip
 case load ty x=>exact one (F:=λv=>am (an v)) (by simp[Op.operands])
 case store ty x y=>exact one (F:=λv=>am (an v)) (by simp[Op.operands])
 case slice ty x lo hi mx=>exact one (F:=λv=>am (an v)) (by simp[Op.operands])
 case mapUpdate ty x k y=>exact one (F:=λv=>am (an v)) (by simp[Op.operands])
 case insert ty x k y=>exact one (F:=λv=>am (an v)) (by simp[Op.operands])
 case entryStore ty x k y=>exact one (F:=λv=>am (an v)) (by simp[Op.operands])
 case mapEntry ty x k=>exact one (F:=λv=>⟨an v,[],(an v).map (·,ty),false⟩) (by simp[Op.operands])
 case lookup ty x k ok =>
  cases ok
  ·exact one (F:=λv=>⟨[],(an v).map (·,ty),[],false⟩) (by simp[Op.operands])
  ·exact one (F:=λv=>am (an v)) (by simp[Op.operands])
 case indexAddr ty x ix =>
  simp only[aL]
  split
  ·rename_i e s hu hs;simp only[hx x (by simp[Op.operands]) s hs]
  ·rfl
 case call c =>
  obtain⟨callee,args,argTypes⟩:=c;cases callee with
  | builtin b =>
   simp only[aL]
   split<;>grind[dH,Op.operands,Call.operands]
  | value fo =>
   simp only[aL]
   split
   ·rename_i fv vs d f;simp only[dH f λx hm=>hx x (by grind[Op.operands,Call.operands]),hx fo (by simp[Op.operands,Call.operands]) _ d,hh]
   ·rfl
  |invoke r m=>rfl
end
section
variable {C:ZO}{A:Nat->Nat->Prop}{bd:Nat}{w w':World}{γ γ':Gm}{hg:Nat->ZM}{nx:Nat}
variable {t:T}{g:G}{ih:IH}
theorem TR.put{nt:Nat}{a:Act}{dst:Option Tmp}{out:TM (T->AV->T)}{x:AV}{v:Value}(ho:ua nt dst=some out)(ht:TR w γ A bd nt t a.tmps)(hv:RV w γ A bd x v) :
  TR w γ A bd nt (out.run t x) (a.put dst v).tmps:=by
 cases dst with
 |none=>simp[ua]at ho;subst ho;exact ht
 | some d =>
  simp only[ua,aa]at ho
  split at ho
  ·rename_i hd;rw[YD]at hd;injection ho with ho;subst ho;refine⟨by simp[Act.put,ht.1],λs=>?_⟩;rw[SH]
   by_cases hs:s=d
   ·subst hs;rw[ZN rfl];have:s<a.tmps.size:=by rw[ht.1];exact hd
    simp_all[Act.put]
   ·rw[ZF hs];have:=ht.2 s;simp_all[Act.put,Vw]
  grind
theorem pc{ops:Array Oper}{o:Oper}{q:TM (T->Option Bool)}{bv:Bool}{tmps:Array Value}(hq:jZ ops.toList o.guard=some q)(ht:TR w γ A bd nt t tmps)
  (h:q.run t=some bv):Region.wanted o (yielded ops tmps)=bv:=by
 unfold Region.wanted;cases hg:o.guard with
 | none =>
  rw[hg]at hq;simp[jZ]at hq;subst hq
  grind
 | some p =>
  obtain⟨j,want⟩:=p;rw[hg]at hq;simp only[jZ]at hq
  split at hq
  ·rename_i oj c
   split at hq
   ·rename_i d hd;injection hq with hq;subst hq;have a:ops[j]?=some oj:=by grind
    dsimp only at h;rw[WA]at h;have k:=ht.2 d;simp only[yielded,a,WC,hd];generalize t.get AV.undef d=y at h k
    split at h
    ·rename_i b;injection h with h;subst h;have hb:tmps[d]?=some (.bool b):=by
      cases hrv':tmps[d]? with
      |none=>simp[Un,hrv',undef]at k;cases k
      | some v =>simp only[Un,hrv',Ns]at k;cases k;rfl
     simp only[hb];cases want<;>cases b<;>rfl
    ·injection h with h;subst h;cases hrv':tmps[d]? with
     |none=>rfl
     | some v =>simp only[Un,hrv',Ns]at k;cases k;rfl
    grind
   grind
  grind
theorem I5{all:List Oper}{gd:Option (Nat×Bool)}{q:TM (T->Option Bool)}{t t':T}(hq:jZ all gd=some q)
  (h:∀j b oj d,gd=some (j,b)->all[j]?=some oj->oj.dst=some d->t.get AV.undef d=t'.get AV.undef d):q.run t=q.run t':=by
 cases gd with
 |none=>simp[jZ]at hq;subst hq;rfl
 | some p =>
  obtain⟨j,want⟩:=p;simp only[jZ]at hq
  split at hq
  ·rename_i oj k
   split at hq
   ·rename_i d hd;injection hq with hq;subst hq;dsimp only;rw[WA,WA,h j want oj d rfl k hd]
   grind
  grind
variable {b:Frame}{a:Act}{ops:Array Oper}{i:Nat}{rest:List Nat}{k:List Item}{cs:List Frame}{o:Oper}
theorem JX{P:Program}{d:Deferred}(ho:ops[i]?=some o)(hw:Region.wanted o (yielded ops a.tmps)=true)(hro:b.roundOf=none)
  (hrun:(execOp a.eval o).run P w=.ok (.defer d) w) :
  step P (lone (b.atR a (.inRegion ops (i::rest)::k)) cs w)=.next (lone (b.atR ({ a with defers:=d::a.defers }.put o.dst undef) (.inRegion ops rest::k)) cs w):=by
 have h:=Frame.finish_atR b { a with defers:=d::a.defers } ops i rest k undef;rw[ho]at h;simp only[WC]at h;refine step_lone_go ?_;rw[stepGR_op ho hw,hro,Oper.semAt_none,<-h];simp_all[stepG.apply,Frame.atR]
theorem yu{P:Program}(ho:ops[i]?=some o)(hw:Region.wanted o (yielded ops a.tmps)=false) :
  step P (lone (b.atR a (.inRegion ops (i::rest)::k)) cs w)=.next (lone (b.atR (a.put o.dst undef) (.inRegion ops rest::k)) cs w):=by
 grind[stepR_op_skip]
theorem N9(hr:ZB C A bd w γ hg nx)(ht:TR w γ A bd nt t a.tmps)(hrd:Tf γ rd b)(hdf:DR w γ A bd df a.defers)
  {x:ZU} (h:(bP C o.op).run ih d rd t g=.ZP x) (hE:∀f e d args g y,C.ext f=some e->e d args g≠.ZP y) (ho:ops[i]?=some o) (hw:Region.wanted o (yielded ops a.tmps)=true) :
  ∃dd,DR w γ A bd (x::df) (dd::a.defers) /\
   step C.P (lone (b.atR a (.inRegion ops (i::rest)::k)) cs w)=.next (lone (b.atR ({ a with defers:=dd::a.defers }.put o.dst undef) (.inRegion ops rest::k)) cs w):=by
 have Wd:∀f args,af ih d g f args≠.ZP x:=by
  intro f args;unfold af
  repeat' (first|split|rw[aa])
  all_goals grind
 have orf:∀r,XV r≠.ZP x:=by intro r h;cases r<;>cases h
 have rnd:∀id args,dx ih d id args g≠.ZP x:=by
  intro id args;unfold dx
  repeat' split
  all_goals grind
 unfold bP at h
 split at h
 rotate_left
 ·cases h
 rename_i f c;generalize hop:o.op=op at c;unfold Uy at c
 split at c
 ·rename_i fx args at2
  split at c
  ·split at c
   ·rename_i e he;injection c with c;subst c;exact absurd h (hE _ _ _ _ _ _ he)
   ·rw[aa]at c
    split at c
    ·injection c with c;subst c;grind
    ·injection c with c;subst c;grind
  grind
 ·rename_i fo args at2 m
  split at c
  ·rename_i fv vs j l;injection c with c;subst c;dsimp only at h;unfold dQ at h
   split at h
   ·split at h
    ·rename_i e he;exact absurd h (hE _ _ _ _ _ _ he)
    grind[aa]
   all_goals grind
  grind
 ·injection c with c;subst c;cases h
 ·rename_i fo args at2
  split at c
  ·rename_i fv vs j l;injection c with c;subst c;dsimp only at h;cases rd with
   |some _=>cases h
   | none =>
    dsimp only at h;have hf:=aC j ht hr;have n:=jc ht hr l;generalize hfo:a.eval fo=vfo at hf;generalize fv.run t=y at h hf;cases hf with
    | ZH _ fx xs ys vs1 us1 hl hl2 h1 h2 =>
     dsimp only at h;injection h with h;subst h;refine⟨{ target:=.fn (.func fx) us1,args:=vs1++args.map a.eval },⟨⟨fx,ys,us1,rfl,rfl,Zf hl2 h2,?_⟩,hdf⟩,JX ho hw hrd ?_⟩
     ·have:=(Zf hl h1).append n;simp_all
     grind[execOp,resolve,Deferred.ofValue,MV]
    |_=>cases h
  grind
 ·split at c
  ·rename_i s hs;injection c with c;subst c;have:=CJ (t:=t) (g:=g) hs;have h:s.run t g=.ZP x:=h;rw[h]at this;exact this.elim
  grind
theorem RD(hC:ZK C)(hi:Vv C ih):∀(l:List Oper) (i:Nat) {t:T} {df:List ZU} {g:G} {e:Ex} {t':T} {df':List ZU} {g':G},
  ops.toList.drop i=l->(lV C nt ops.toList l).run ih (bd+1) rd t df g=.ok e t' df' g'->WF g ->
  ∀{w γ hg nx a},ZB C A bd w γ hg nx->Wo g.h hg->Wg γ g g'->TR w γ A bd nt t a.tmps->DR w γ A bd df a.defers->Tf γ rd b->sN b.kind cs ->
   e=.norm/\∃a' w' γ' hg',Fin C A bd w γ hg nx g w' γ' hg' g'/\TR w' γ' A bd nt t' a'.tmps/\DR w' γ' A bd df' a'.defers /\
    Steps C.P (lone (b.atR a (.inRegion ops (List.range' i l.length)::k)) cs w) (lone (b.atR a' k) cs w'):=by
 intro l
 induction l with
 | nil =>intro i t df g e t' df' g' _ h _ w γ hg nx a hr hx hf ht n p c;simp only[lV]at h;injection h with h1 h2 M h4;subst h1;subst h2;subst M;subst h4;exact⟨rfl,a,w,γ,hg,Fin.refl hr,ht,n,.one stepR_region_end⟩
 | cons o rest ihl =>
  intro i t df g e t' df' g' B h s w γ hg nx a hr hx hf ht n p c;have ho:ops[i]?=some o:=by
   have:(ops.toList.drop i)[0]?=some o:=by grind
   grind
  have j:ops.toList.drop (i+1)=rest:=by rw[<-HE,B];rfl
  have z:List.range' i (o::rest).length=i::List.range' (i+1) rest.length:=by simp[adV]
  rw[z];have exec:∀{out:TM (T->AV->T)},ua nt o.dst=some out->Region.wanted o (yielded ops a.tmps)=true ->
    sL out.run ((lV C nt ops.toList rest).run ih (bd+1) rd) t df g ((bP C o.op).run ih (bd+1) rd t g)=.ok e t' df' g' ->
    e=.norm/\∃a' w' γ' hg',Fin C A bd w γ hg nx g w' γ' hg' g'/\TR w' γ' A bd nt t' a'.tmps/\DR w' γ' A bd df' a'.defers /\
     Steps C.P (lone (b.atR a (.inRegion ops (i::List.range' (i+1) rest.length)::k)) cs w) (lone (b.atR a' k) cs w'):=by
   intro out m hw h;have hm:=j4 (op:=o.op) (d:=bd+1) (rd:=rd) (t:=t) hC.ZA hi.ZA s;generalize hres:(bP C o.op).run ih (bd+1) rd t g=r at h hm;have go:∀{x:AV} {g1:G},r≠.fail->(∀y,r≠.ZP y)->Q0 r=x->U7 g r=g1->(lV C nt ops.toList rest).run ih (bd+1) rd (out.run t x) df g1=.ok e t' df' g' ->
     e=.norm/\∃a' w' γ' hg',Fin C A bd w γ hg nx g w' γ' hg' g'/\TR w' γ' A bd nt t' a'.tmps/\DR w' γ' A bd df' a'.defers /\
     Steps C.P (lone (b.atR a (.inRegion ops (i::List.range' (i+1) rest.length)::k)) cs w) (lone (b.atR a' k) cs w'):=by
    intro x g1 I H K E h;subst K;subst E;have w1:=hm.wf s;have L:=EL hC.ZA hi.ZA h w1;obtain⟨u,wa,γa,N,f1,rv,st⟩:=JI (b:=b) (cs:=cs) (rest:=List.range' (i+1) rest.length) (k:=k) hC hi hr s ht c hx.agr hres I H (hf.le L.nx) ho hw;obtain⟨he,a',wb,γb,v,f2,tr,dr,st2⟩:=ihl (i+1) j h w1 (a:=a.put o.dst u) f1.rel (f1.ext hm hx) (f1.freed hr hm hf) ((ht.step f1.WB).put m rv)
     (by have:=n.step f1.WB;cases hd:o.dst<;>simpa [Act.put,hd] using this) (p.step f1.WB) c
    exact⟨he,a',wb,γb,v,f1.trans f2 hm L,tr,dr,Steps.trans st st2⟩
   cases r with
   |fail=>cases h
   |val x=>exact go (by simp) (by simp) rfl rfl h
   |upd x g1=>exact go (by simp) (by simp) rfl rfl h
   | ZP x =>
    obtain⟨dd,D,st⟩:=N9 (b:=b) (cs:=cs) (rest:=List.range' (i+1) rest.length) (k:=k) hr ht p n hres (λf e d args g y he hy=>by exact extNoDfr hC he hy) ho hw
    obtain⟨he,a',wb,γb,v,f2,tr,dr,st2⟩:=ihl (i+1) j h s (a:={ a with defers:=dd::a.defers }.put o.dst undef) hr hx hf
     (ht.put (a:={ a with defers:=dd::a.defers }) m dC)
     (by cases hd:o.dst<;>simpa [Act.put,hd] using D) p c
    grind[Steps.head]
  simp only[lV]at h
  split at h
  ·rename_i out m
   split at h
   ·grind[Region.wanted]
   ·rename_i gd F
    split at h
    ·rename_i q hq;rw[<-F]at hq;dsimp only at h
     split at h
     ·grind[pc]
     ·rename_i J;have hw:=pc hq ht J;obtain⟨he,a',wb,γb,v,f2,tr,dr,st2⟩:=ihl (i+1) j h s (a:=a.put o.dst undef) hr hx hf
       (ht.put m dC) (by cases hd:o.dst<;>simpa [Act.put,hd] using n) p c
      exact⟨he,a',wb,γb,v,f2,tr,dr,.head (yu ho hw) st2⟩
     grind
    ·cases h
  ·cases h where
 extNoDfr {f d:Nat} {e:Nat->List AV->G->OR} {args:List AV} {g:G} {y:ZU} (hC:ZK C) (he:C.ext f=some e) (hy:e d args g=.ZP y):False:=by exact (hC.Vo f e he d args g y) hy
end
section
variable {z:AV}
theorem zf{d:TypeDesc}{y:AV}(hx:sD d x=true)(hy:sD d y=true):∃b,pA x y=some b:=by
 cases d<;>cases x<;>simp[sD]at hx<;>cases y<;>simp[sD]at hy
 all_goals simp_all[tZ,pA]
theorem Dp:∀{ds:List TypeDesc} {xs ys:List AV},eU ds xs=true->eU ds ys=true->∃b,eT xs ys=some b:=by
 intro ds
 induction ds with
 |nil=>intro xs ys hx h;cases xs<;>simp[eU]at hx;cases ys<;>simp[eU]at h;exact⟨_,rfl⟩
 | cons d ds ih =>intro xs ys hx h;cases xs<;>simp[eU,aa]at hx;cases ys<;>simp[eU,aa]at h<;>grind[zf,eT]
theorem S6{kk:Nm}{y:AV}(hx:lQ kk x=true)(hy:lQ kk y=true):∃b,ni x y=some b:=by
 cases kk with
 | one d =>
  simp only[lQ]at hx hy;obtain⟨b,hb⟩:=zf hx hy;cases x<;>first| (cases d<;>simp[sD]at hx;done)|skip
  all_goals
   cases y<;>first| (cases d<;>simp[sD]at hy;done)|grind[ni]|skip
 | flat ds =>cases x<;>simp[lQ]at hx;cases y<;>simp[lQ]at hy<;>grind[Dp,ni]
 |other=>grind[lQ]
theorem MR{k k0:AV}:∀{es:List (AV×AV)} {r:Option AV},qg k es=some r->(∃b,ni k k0=some b) ->
  qg k (es++[(k0,z)])=some (match r with|some v=>some v|none=>if ni k k0=some true then some z else none):=by
 intro es
 induction es<;>grind[qg]
theorem Ln{kk:Nm}{m k:T->AV}{g':G}{id:Nat}{es:List (AV×AV)}{k0:AV}(h:cW kk z false m k t g=.val v)(hm:m t=.hmap id)
  (hg:g.h.get id=.map es) (hg':g'.h.get id=.map (es++[(k0,z)])) (hk0:lQ kk k0=true):cW kk z false m k t g'=.val v:=by
 unfold cW at h ⊢;rw[aa]at h ⊢
 split at h
 ·rename_i hk;rw[ZN hk];simp only[hm,G.get_eq,hg,hg']at h ⊢;cases hf:qg (k t) es with
  |none=>grind
  | some r =>
   rw[MR hf (S6 hk hk0)]
   grind
 grind
theorem YK(h:((aL C op).run t g).sr≠[]):∃ty x k a,op=.lookup ty x k false/\aW C x=some a /\
  (aL C op).run t g=⟨[],(an (a.run t)).map (·,ty),[],false⟩:=by
 cases op<;>simp only[aL]at h ⊢<;>try (exact absurd rfl h)
 case lookup ty x k ok =>
  cases ok
  ·dsimp only at h ⊢
   split at h
   ·grind
   ·exact absurd rfl h
  ·dsimp only at h
   split at h<;>exact absurd rfl h
 case call c =>
  obtain⟨callee,args,at'⟩:=c;cases callee<;>simp only at h
  ·split at h
   ·dsimp only at h
    split at h
    ·rw[aa]at h;split at h<;>exact absurd rfl h
    ·exact absurd rfl h
   ·exact absurd rfl h
  ·exact absurd rfl h
  ·split at h<;>exact absurd rfl h
 all_goals (split at h<;>exact absurd rfl h)
theorem Wp{p:Nat×Nat}(h:p∈((aL C op).run t g).soft):∃x k a,op=.mapEntry p.2 x k/\aW C x=some a/\p.1∈an (a.run t):=by
 cases op<;>simp only[aL]at h<;>try (exact absurd h QA)
 case mapEntry ty x k =>
  split at h
  ·rename_i a ha;dsimp only at h;obtain⟨id,h1,h2⟩:=YY.1 h;subst h2
   grind
  ·exact absurd h QA
 case lookup ty x k ok =>cases ok<;>dsimp only at h<;>split at h<;>exact absurd h QA
 case call c =>
  obtain⟨callee,args,at'⟩:=c;cases callee<;>simp only at h
  ·split at h
   ·dsimp only at h
    split at h
    ·rw[aa]at h;split at h<;>exact absurd h QA
    ·exact absurd h QA
   ·exact absurd h QA
  ·exact absurd h QA
  ·split at h<;>exact absurd h QA
 all_goals (split at h<;>exact absurd h QA)
theorem Kq{ih:IH}{ty:TypeId}{x k:Operand}{ok:Bool}(h:(bP C (.lookup ty x k ok)).run ih d rd t g=r)(hne:r≠.fail) :
  ∃a kk kt et z,aW C x=some a/\aW C k=some kk/\C.P.underlying ty=some (.map kt et)/\wm C.P et=some z /\
   (∀t g,(bP C (.lookup ty x k ok)).run ih d rd t g=cW (cL C.P kt) z ok a.run kk.run t g)/\r=cW (cL C.P kt) z ok a.run kk.run t g:=by
 unfold bP at h ⊢;simp only[Uy,cP]at h ⊢
 split at h
 ·rename_i f hf
  split at hf
  ·rename_i s hs;injection hf with hf;subst hf
   split at hs
   ·rename_i a kk kt et ha hk hu
    split at hs
    ·rename_i z hz;injection hs with hs;subst hs
     grind
    grind
   grind
  grind
 grind
theorem GT{ih:IH}{ty:TypeId}{x k:Operand}(h:(bP C (.mapEntry ty x k)).run ih d rd t g=r)(hne:r≠.fail) :
  ∃a kk kt et z,aW C x=some a/\aW C k=some kk/\C.P.underlying ty=some (.map kt et)/\wm C.P et=some z/\r=dM (cL C.P kt) z a.run kk.run t g:=by
 unfold bP at h;simp only[Uy,cP]at h
 split at h
 ·rename_i f hf
  split at hf
  ·rename_i s hs;injection hf with hf;subst hf
   split at hs
   ·rename_i a kk kt et ha hk hu
    split at hs
    ·rename_i z hz;injection hs with hs;subst hs
     grind
    grind
   grind
  grind
 grind
theorem JB{kk:Nm}{m k:T->AV}{g':G}(h:dM kk z m k t g=.upd v g') :
  ∃id es,m t=.hmap id/\g.h.get id=.map es/\g'=g.put id (.map (es++[(k t,z)]))/\lQ kk (k t)=true:=by
 unfold dM at h;rw[aa]at h
 split at h
 ·rename_i hk
  split at h
  ·rename_i id hm
   split at h
   ·rename_i es a
    split at h<;>simp_all
   grind
  grind
 grind
theorem JU{x:ZC}:∀{l:List ZC} {j0 j:Nat} {y:ZC},l[j]?=some y->(pm.getD (j0+j) 0).testBit i=false->meets y.wr (FG x.lk.sr)=true ->
  1<=cJ pm i x j0 l:=by
 intro l
 induction l with
 |nil=>grind
 | cons a l ih =>
  intro j0 j y h h1 h2;cases j with
  | zero =>simp_all[cJ]
  | succ j =>
   have:=ih (j0:=Nat.succ j0) (by simpa using h) (by grind) h2
   grind[cJ,aa]
theorem HK{x:ZC}:∀{l:List ZC} {j0 j j':Nat} {y y':ZC},j<j'->l[j]?=some y->l[j']?=some y'->(pm.getD (j0+j) 0).testBit i=false->(pm.getD (j0+j') 0).testBit i=false ->
  meets y.wr (FG x.lk.sr)=true->meets y'.wr (FG x.lk.sr)=true->2<=cJ pm i x j0 l:=by
 intro l
 induction l with
 |nil=>grind
 | cons a l ih =>
  intro j0 j j' y y' hlt h h' h1 b h2 k;cases j' with
  |zero=>omega
  | succ j' =>
   cases j with
   | zero =>
    simp at h;subst h;have:=JU (pm:=pm) (i:=i) (x:=x) (j0:=Nat.succ j0) (j:=j') (by simpa using h') (by grind) k;simp only[cJ,aa]
    grind
   | succ j =>
    have:=ih (j0:=Nat.succ j0) (j:=j) (j':=j') (by omega) (by grind) (by grind) (by grind) (by grind) h2 k;simp only[cJ,aa]
    split<;>omega
theorem NZ{b x:Bool}(h:ap b x false=true):b=true/\x=true:=by cases b<;>grind
theorem JV:∀{l:List ZC} {i0:Nat},ic pm i0 l=true->∀(i j j':Nat) x y y',i<j->j<j'->l[i]?=some x->l[j]?=some y->l[j']?=some y'->x.lk.sr≠[] ->
  (pm.getD (i0+j) 0).testBit (i0+i)=false->(pm.getD (i0+j') 0).testBit (i0+i)=false->meets y.wr (FG x.lk.sr)=true->meets y'.wr (FG x.lk.sr)=true->False:=by
 intro l
 induction l with
 |nil=>grind
 | cons a l ih =>
  intro i0 h i j j' x y y' d e hx n m f h1 k h2 b;obtain⟨hc,h⟩:=NZ h;cases j' with
  |zero=>omega
  | succ j' =>
   cases j with
   |zero=>omega
   | succ j =>
    cases i with
    | zero =>
     simp at hx;subst hx;have c:Nat.ble (cJ pm i0 a (Nat.succ i0) l) 1=true:=by grind
     grind[R1,HK]
    | succ i =>grind
theorem mu{a b:List Nat}{x:Nat}(ha:x∈a)(hb:x∈b):meets a b=true:=by
 unfold meets
 grind
theorem xT{l:List (Nat×Nat)}{x:Nat}(h:x∈l.map (·.1)):x∈FG l:=h
theorem Ni{p:Nat×Nat}:∀{l:List (Nat×Nat)},Gg p l=true->p∈l:=by
 intro l
 induction l with
 |nil=>intro h;cases h
 | cons q l ih =>
  intro h;simp only[Gg,aa]at h
  split at h
  ·rename_i hc;simp only[Zk]at hc;have h1:=aH hc.1;have h2:=aH hc.2
   grind
  grind
end
end
end Hx
