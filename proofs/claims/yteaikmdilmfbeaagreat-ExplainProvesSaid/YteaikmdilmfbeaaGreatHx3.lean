/- A part of the proof. -/
import Derived.RangeFuncIn
import Derived.AtR
import Derived.Test.YteaikmdilmfbeaaGreatHx2
set_option linter.all false
set_option maxRecDepth 20000
set_option maxHeartbeats 8000000
namespace Hx
open Go
noncomputable section
variable {g:G}{v:AV}{h:H}{k n i d nt off j m:Nat}{C:Xg}{rd:Option Nat}{t:T}{P:Nat->Prop}{cs row:List AV}{op:Op}{r:OR}{l:List Int}{df:List Xo}{pm:List Nat}{x:Int}
def Xs(t:T)(n:Nat):AV:=Tr.get AV.undef t n
def eT(t:T)(n:Nat)(v:AV):T:=(sp AV.undef n).run t v
inductive Od where
 |t (n:Nat)
 |k (v:AV)
def Od.get(t:T):Od->AV
 |.t n=>Xs t n
 |.k v=>v
def fe(t:T):List Od->List AV
 |[]=>[]
 |o::os=>o.get t::fe t os
def Mh(c a b:AV):OR:=match c with|.bool q=>ax q (.val a) (.val b)|_=>.fail
def Gy(x:AV)(g:G):OR:=ax x.isTup .fail (.upd (.W9 g.nx 0 0 0) (g.new (Xy (bD x.cells) [x.cells])))
def Gz(zero:List AV)(pl:List (Nat×Nat))(vs:List AV):OR :=match d_ zero (pl.zip vs) with|some cs=>.val (.agg cs)|none=>.fail
def M4(sz len:Nat)(zero:List AV)(is:List Nat)(vs:List AV)(g:G):OR :=
 match cY sz (gz len zero) (is.zip vs) with
 |some rows=>.upd (.Xj g.nx 0 0 len none) (g.new (Xy sz rows))
 |none=>.fail
def uW(ag:Bool)(n:Nat)(p:AV)(g:G):OR:=pj ag n (λ_=>p) .nil g
def pA(n:Nat)(p x:AV)(g:G):OR:=rj n (λ_=>p) (λ_=>x) .nil g
def zV(x:AV):OR:=match x with
 |.Xn l sz rows i off=>.val (.Xn l sz rows i off)
 |.W9 id ep i off=>.val (.W9 id ep i off)
 |.W_ f a c=>.val (.W_ f a c)
 |.VZ id=>.val (.VZ id)
 |_=>.fail
def cL(op:BinOp)(x y:AV):OR:=match x,y with|.int k a,.int k' b=>VW ((fZ op).run k a k' b)|_,_=>.fail
def Ii(neg:Bool)(ek:Uu)(x y:AV):OR:=match UI ek x y with|some b=>.val (.bool (ax neg (m_ b) b))|none=>.fail
def Sy(x:AV):OR:=match x with|.bool b=>.val (.bool (m_ b))|_=>.fail
def unV(op:UnOp)(x:AV):OR:=match x with|.int k n=>VW (tc (Op.unary op (.int k n)))|_=>.fail
def Lw(k:IntKind)(x:AV):OR:=match x with|.int _ n=>.val (.int k (xf k n))|_=>.fail
def DX(sz bytes:Nat)(zero:List AV)(l c:AV)(g:G):OR:=jo sz bytes zero (λ_=>l) (λ_=>c) .nil g
def fE(sz:Nat)(x:AV)(lo hi:Option AV)(g:G):OR:=VW (ip sz x lo hi none g.h)
def Vo(n sz:Nat)(x:AV)(lo hi:Option AV)(g:G):OR:=nN n sz (λ_=>x) (λ_=>lo) (λ_=>hi) .nil g
def GO(fo:Nat)(x:AV):OR:=match x with
 |.Xn l sz rows i off=>.val (.Xn l sz rows i (off+fo))
 |.W9 id ep i off=>.val (.W9 id ep i (off+fo))
 |_=>.fail
def Ui(ag:Bool)(n fo:Nat)(x:AV):OR:=match x with|.agg cs=>VW (cD ag n cs fo)|_=>.fail
def Fi(sz:Nat)(x i:AV)(g:G):OR:=iY sz (λ_=>x) (λ_=>i) .nil g
def Ki(n sz:Nat)(x i:AV):OR:=pg n sz (λ_=>x) (λ_=>i) .nil G.empty
def Vj(ag:Bool)(n sz:Nat)(x i:AV):OR:=yQ ag n sz (λ_=>x) (λ_=>i) .nil G.empty
def Pf(x:AV)(i:Nat):OR:=match x with|.WM vs=>VW (IX i vs)|_=>.fail
def mxV(x y:AV):OR:=match x with
 |.int k m=>match y with|.int k' n=>ax (dA k k') (.val (.int k (ax (B_ m n) n m))) .fail|_=>.fail
 |_=>.fail
def mnV(x y:AV):OR:=match x with
 |.int k m=>match y with|.int k' n=>ax (dA k k') (.val (.int k (ax (B_ n m) n m))) .fail|_=>.fail
 |_=>.fail
def ah(C:Xg)(d f:Nat)(as:List AV)(g:G):OR :=
 match C.ext f with
 |some e=>e d as g
 |none=>ax (C.ON f) (aj (I C) d g f as) (K3 ((I C).call d f as g))
inductive SO where
 |mv (x:Od)
 |pick (c a b:Od)
 |alloc (cs:List AV)
 |box (x:Od)
 |build (zero:List AV) (pl:List (Nat×Nat)) (vs:List Od)
 |NF (sz len:Nat) (zero:List AV) (is:List Nat) (vs:List Od)
 |load (ag:Bool) (n:Nat) (a:Od)
 |store (n:Nat) (a x:Od)
 |Te (x:Od)
 |bin (op:BinOp) (x y:Od)
 |eq (neg:Bool) (ek:Uu) (x y:Od)
 |not (x:Od)
 |un (op:UnOp) (x:Od)
 |conv (k:IntKind) (x:Od)
 |HN (f:Nat) (a c:List Od)
 |VF (sz bytes:Nat) (zero:List AV) (l c:Od)
 |OK (sz:Nat) (x:Od) (lo hi:List Od)
 |sla (n sz:Nat) (x:Od) (lo hi:List Od)
 |fad (fo:Nat) (x:Od)
 |fld (ag:Bool) (n fo:Nat) (x:Od)
 |NQ (sz:Nat) (x i:Od)
 |Ka (n sz:Nat) (x i:Od)
 |ix (ag:Bool) (n sz:Nat) (x i:Od)
 |ext (x:Od) (i:Nat)
 |len (lk:Uw) (x:Od)
 |app (sz bytes:Nat) (x y:Od)
 |cpy (sz:Nat) (x y:Od)
 |mx (x y:Od)
 |mn (x y:Od)
 |call (f:Nat) (as:List Od)
 |dyn (f:Od) (as:List Od)
 |raw (op:Op)
def SO.run(C:Xg)(d:Nat)(rd:Option Nat)(t:T)(g:G):SO->OR
 |.mv x=>.val (x.get t)
 |.pick c a b=>Mh (c.get t) (a.get t) (b.get t)
 |.alloc cs=>.upd (.W9 g.nx 0 0 0) (g.new (Xy (bD cs) [cs]))
 |.box x=>Gy (x.get t) g
 |.build zero pl vs=>Gz zero pl (fe t vs)
 |.NF sz n zero is vs=>M4 sz n zero is (fe t vs) g
 |.load ag n a=>uW ag n (a.get t) g
 |.store n a x=>pA n (a.get t) (x.get t) g
 |.Te x=>zV (x.get t)
 |.bin op x y=>cL op (x.get t) (y.get t)
 |.eq neg ek x y=>Ii neg ek (x.get t) (y.get t)
 |.not x=>Sy (x.get t)
 |.un op x=>unV op (x.get t)
 |.conv k x=>Lw k (x.get t)
 |.HN f a c=>.val (.W_ f (fe t a) (fe t c))
 |.VF sz bytes zero l c=>DX sz bytes zero (l.get t) (c.get t) g
 |.OK sz x lo hi=>fE sz (x.get t) (fe t lo).head? (fe t hi).head? g
 |.sla n sz x lo hi=>Vo n sz (x.get t) (fe t lo).head? (fe t hi).head? g
 |.fad fo x=>GO fo (x.get t)
 |.fld ag n fo x=>Ui ag n fo (x.get t)
 |.NQ sz x i=>Fi sz (x.get t) (i.get t) g
 |.Ka n sz x i=>Ki n sz (x.get t) (i.get t)
 |.ix ag n sz x i=>Vj ag n sz (x.get t) (i.get t)
 |.ext x i=>Pf (x.get t) i
 |.len lk x=>bC lk (x.get t) g
 |.app sz bytes x y=>cZ sz bytes (x.get t) (y.get t) g
 |.cpy sz x y=>Lx sz (x.get t) (y.get t) g
 |.mx x y=>mxV (x.get t) (y.get t)
 |.mn x y=>mnV (x.get t) (y.get t)
 |.call f as=>ah C d f (fe t as) g
 |.dyn f as=>kT C (I C) d (f.get t) (fe t as) g
 |.raw op=>(cI C op).run (I C) d rd t g
def tM(C:Xg):Operand->Option Od
 |.tmp n=>some (.t n)
 |.const v=>match ofV v with|some a=>some (.k a)|none=>none
 |.global g=>match C.V_ g with|some (sz,rows)=>some (.k (.Xn 0 sz rows 0 0))|none=>none
 |.func f=>some (.k (.W_ f [] []))
def mD(C:Xg):List Operand->Option (List Od)
 |[]=>some []
 | x::xs=>match tM C x,mD C xs with
  |some a,some as=>some (a::as)
  |_,_=>none
def bG{x:Operand}{o:Od}(h:tM C x=some o):∃s,aW C x=some s/\∀t,s.run t=o.get t:=by
 unfold tM at h
 split at h
 ·cases h;exact⟨_,rfl,λt=>Wz _ _ _⟩
 ·split at h
  ·rename_i a ha;cases h;exact⟨⟨λ_=>a⟩,by simp only[aW,ha],λt=>rfl⟩
  ·cases h
 ·split at h
  ·rename_i sz rows ha;cases h;exact⟨⟨λ_=>.Xn 0 sz rows 0 0⟩,by simp only[aW,ha],λt=>rfl⟩
  ·cases h
 ·cases h;exact⟨_,rfl,λt=>rfl⟩
def cS{C:Xg}:∀{xs:List Operand} {os:List Od},mD C xs=some os->∃s,cp C xs=some s/\∀t,s.run t=fe t os
 |[],os,h=>by cases h;exact⟨_,rfl,λt=>rfl⟩
 | x::xs,os,h=>by
  unfold mD at h
  split at h
  ·rename_i a as ha k;cases h;let⟨s,h1,h2⟩:=bG ha;let⟨ss,h3,h4⟩:=cS k;exact⟨⟨λt=>s.run t::ss.run t⟩,by simp only[cp,h1,h3],λt=>by simp only[h2,h4,fe]⟩
  ·cases h
def G5(C:Xg)(op:Op):SO :=
 match op with
 |.move x|.assign x=>match tM C x with|some a=>.mv a|none=>.raw op
 | .pick c a b=>match tM C c,tM C a,tM C b with
  |some c,some a,some b=>.pick c a b
  |_,_,_=>.raw op
 | .alloc ty=>match gj C.P ty with
  |some cs=>.alloc cs
  |none=>.raw op
 | .box _ x=>match tM C x with
  |some a=>.box a
  |none=>.raw op
 | .build ty parts=>match gj C.P ty,mD C (parts.toList.map (·.2)) with
  | some zero,some vs =>
   match C.P.underlying ty with
   | some (.struct fs)=>match aD (λf:Field=>match Wx C.P f.type with| some n=>some (f.offset,n)| none=>none) fs.toList with
    | some places=>match aD (λi=>places[i]?) (parts.toList.map (·.1)) with
     |some pl=>.build zero pl vs
     |none=>.raw op
    |none=>.raw op
   | some (.array _ e)=>match Wx C.P e with
    |some n=>.build zero ((parts.toList.map (·.1)).map λi=>(i*n,n)) vs
    |none=>.raw op
   |_=>.raw op
  |_,_=>.raw op
 | .buildSlice ty len parts=>match nj C.P ty,mD C (parts.toList.map (·.2)) with
  | some e,some vs=>match Wx C.P e,gj C.P e with
   | some sz,some zero=>ax (Nat.beq (bD zero) sz&&Nat.blt 0 sz&&Nat.ble (len*sz) 1048576)
    (.NF sz len zero (parts.toList.map (·.1)) vs) (.raw op)
   |_,_=>.raw op
  |_,_=>.raw op
 | .load ty a=>match tM C a,vy C.P ty,Wx C.P ty with
  |some a,some ag,some n=>.load ag n a
  |_,_,_=>.raw op
 | .store ty a x=>match tM C a,tM C x,Wx C.P ty with
  |some a,some x,some n=>.store n a x
  |_,_,_=>.raw op
 | .nilCheck x=>match tM C x with
  |some a=>.Te a
  |none=>.raw op
 | .binOp b ty x y _=>match tM C x,tM C y with
  | some x,some y=>match b with
   | .eql=>match tH C.P ty with
    |.other=>.bin b x y
    |ek=>.eq false ek x y
   | .neq=>match tH C.P ty with
    |.other=>.bin b x y
    |ek=>.eq true ek x y
   |b=>.bin b x y
  |_,_=>.raw op
 | .unOp u _ x=>match tM C x with
  | some x=>match u with
   |.not=>.not x
   |u=>.un u x
  |none=>.raw op
 | .convert src dst x=>match tM C x,C.P.underlying src,C.P.underlying dst with
  |some x,some _,some (.int k)=>.conv k x
  |_,_,_=>.raw op
 | .makeFunc (.func f) first captured=>match mD C first.toList,mD C captured.toList with
  |some a,some c=>.HN f a c
  |_,_=>.raw op
 | .makeSlice ty l c=>match nj C.P ty,tM C l,tM C c with
  | some e,some l,some c=>match Wx C.P e,lj C.P e,gj C.P e with
   |some sz,some bytes,some zero=>ax (Nat.beq (bD zero) sz&&Nat.blt 0 sz) (.VF sz bytes zero l c) (.raw op)
   |_,_,_=>.raw op
  |_,_,_=>.raw op
 | .slice ty x lo hi none=>match C.P.underlying ty,tM C x,mD C lo.toList,mD C hi.toList with
  | some (.slice e),some x,some l,some h=>match Wx C.P e with
   |some sz=>.OK sz x l h
   |none=>.raw op
  | some (.array n e),some x,some l,some h=>match Wx C.P e with
   |some (sz+1)=>.sla n (sz+1) x l h
   |_=>.raw op
  |_,_,_,_=>.raw op
 | .fieldAddr ty x f=>match tM C x,wH C.P ty f with
  | some a,some (fo,ft)=>match Wx C.P ft with
   |some (_+1)=>.fad fo a
   |_=>.raw op
  |_,_=>.raw op
 | .field ty x f=>match tM C x,wH C.P ty f with
  | some a,some (fo,ft)=>match vy C.P ft,Wx C.P ft with
   |some ag,some n=>.fld ag n fo a
   |_,_=>.raw op
  |_,_=>.raw op
 | .indexAddr ty x ix=>match tM C x,tM C ix with
  | some a,some i=>match C.P.underlying ty with
   | some (.slice e)=>match Wx C.P e with
    |some sz=>.NQ sz a i
    |none=>.raw op
   | some (.array n e)=>match Wx C.P e with
    |some sz=>.Ka n sz a i
    |none=>.raw op
   |_=>.raw op
  |_,_=>.raw op
 | .index ty x ix=>match tM C x,tM C ix with
  | some a,some i=>match C.P.underlying ty with
   | some (.array n e)=>match vy C.P e,Wx C.P e with
    |some ag,some sz=>.ix ag n sz a i
    |_,_=>.raw op
   |_=>.raw op
  |_,_=>.raw op
 | .extract x i=>match tM C x with
  |some a=>.ext a i
  |none=>.raw op
 |op=>.raw op
def NL(C:Xg)(op:Op):SO :=
 match op with
 | .call { callee:=.value (.func f),args,.. }=>match mD C args.toList with
  |some vs=>.call f vs
  |none=>.raw op
 | .call { callee:=.value fo,args,.. }=>match tM C fo,mD C args.toList with
  |some f,some vs=>.dyn f vs
  |_,_=>.raw op
 | .call { callee:=.builtin b,args,argTypes }=>match b,mD C args.toList with
  | .len,some [x]=>match argTypes[0]? with
   |some t=>.len (nE C.P t) x
   |none=>.raw op
  | .append,some [a,x]=>match argTypes[0]?,argTypes[1]? with
   | some t,some xt=>match nj C.P t,C.P.underlying xt with
    | some e,some (.slice _)=>match Wx C.P e,lj C.P e,gj C.P e with
     |some sz,some bytes,some zero=>ax (Nat.beq (bD zero) sz&&Nat.blt 0 sz&&Nat.blt 0 bytes) (.app sz bytes a x) (.raw op)
     |_,_,_=>.raw op
    |_,_=>.raw op
   |_,_=>.raw op
  | .copy,some [a,x]=>match argTypes[0]? with
   | some t=>match nj C.P t with
    | some e=>match Wx C.P e with
     |some sz=>.cpy sz a x
     |none=>.raw op
    |none=>.raw op
   |none=>.raw op
  |.max,some [x,y]=>.mx x y
  |.min,some [x,y]=>.mn x y
  |_,_=>.raw op
 |op=>G5 C op
def co{s:Wv JU}(h1:Jc C op=match cT C op with|some s=>some ⟨λ_ _ _ t g=>s.run t g⟩|none=>none)(h:cT C op=some s)
  {ih:IH}    :(cI C op).run ih d rd t g=s.run t g:=by
 unfold cI;rw[h1,h]
def Sr(h1:Jc C op=match cT C op with|some s=>some ⟨λ_ _ _ t g=>s.run t g⟩|none=>none) :
  (G5 C op).run C d rd t g=(cI C op).run (I C) d rd t g:=by
 unfold G5
 split
 case h_1 x =>
  split
  ·rename_i a ha;let⟨s,hs,he⟩:=bG ha;rw[co h1 (by simp only[cT,hs];rfl)];simp only[SO.run,he]<;>rfl
  ·rfl
 case h_2 x =>
  split
  ·rename_i a ha;let⟨s,hs,he⟩:=bG ha;rw[co h1 (by simp only[cT,hs];rfl)];simp only[SO.run,he]<;>rfl
  ·rfl
 case h_3 c a b =>
  split
  ·rename_i c a b hc ha hb;let⟨F,E,e1⟩:=bG hc;let⟨o,q2,e2⟩:=bG ha;let⟨z,q3,e3⟩:=bG hb;rw[co h1 (by simp only[cT,E,q2,q3];rfl)];simp only[SO.run,e1,e2,e3,Mh]<;>rfl
  ·rfl
 case h_4 ty =>
  split
  ·rename_i cs hz;rw[co h1 (by simp only[cT,hz];rfl)];rfl
  ·rfl
 case h_5 ty x =>
  split
  ·rename_i a ha;let⟨s,hs,he⟩:=bG ha;rw[co h1 (by simp only[cT,hs];rfl)];simp only[SO.run,Gy,OT,he]<;>rfl
  ·rfl
 case h_6 ty parts =>
  split
  ·rename_i zero vs hz hv;let⟨s,hs,he⟩:=cS hv
   split
   ·rename_i fs hu
    split
    ·rename_i places hp
     split
     ·rename_i pl v;have r:cT C (.build ty parts)=some ⟨qC zero pl s.run⟩:=by
       simp only[cT,hz,hs,hu]
       split
       ·rename_i p' h';have:some places=some p':=hp.symm.trans h';cases this;rw[v]
       ·rename_i h';have:some places=none:=hp.symm.trans h';cases this
      rw[co h1 r];simp only[SO.run,Gz,qC,he]<;>rfl
     ·rfl
    ·rfl
   ·rename_i n e hu
    split
    ·rename_i n w;rw[co h1 (by simp only[cT,hz,hs,hu,w];rfl)];simp only[SO.run,Gz,qC,he]<;>rfl
    ·rfl
   ·rfl
  ·rfl
 case h_7 ty len parts =>
  split
  ·rename_i e vs hz hv;let⟨s,hs,he⟩:=cS hv
   split
   ·rename_i sz zero h2 h3;rw[aa]
    split
    ·rename_i hc;rw[co h1 (by simp only[cT,hz,hs,h2,h3,hc];rfl)];simp only[SO.run,M4,ju,he]<;>rfl
    ·rfl
   ·rfl
  ·rfl
 case h_8 ty a =>
  split
  ·rename_i a ag n ha h2 h3;let⟨s,hs,he⟩:=bG ha;rw[co h1 (by simp only[cT,hs,h2,h3];rfl)];simp only[SO.run,uW,pj,he]<;>rfl
  ·rfl
 case h_9 ty a x =>
  split
  ·rename_i a x n ha hx h3;let⟨s,hs,he⟩:=bG ha;let⟨o,m,j⟩:=bG hx;rw[co h1 (by simp only[cT,hs,m,h3];rfl)];simp only[SO.run,pA,rj,he,j]<;>rfl
  ·rfl
 case h_10 x =>
  split
  ·rename_i a ha;let⟨s,hs,he⟩:=bG ha;rw[co h1 (by simp only[cT,hs];rfl)];simp only[SO.run,zV,he]<;>rfl
  ·rfl
 case h_11 b ty x y yt =>
  split
  ·rename_i x y hx D;let⟨s,hs,he⟩:=bG hx;let⟨o,m,j⟩:=bG D;rw[co h1 (by simp only[cT,hs,m];rfl)];simp only[he,j]
   split
   ·split
    ·rename_i hk;simp only[CN,hk];rfl
    ·rename_i ek hk;simp only[SO.run,Ii,CN]<;>rfl
   ·split
    ·rename_i hk;simp only[CN,hk];rfl
    ·rename_i ek hk;simp only[SO.run,Ii,CN]<;>rfl
   ·rename_i A B;simp only[SO.run,CN,cL]<;>rfl
  ·rfl
 case h_12 u ty x =>
  split
  ·rename_i a ha;let⟨s,hs,he⟩:=bG ha;rw[co h1 (by simp only[cT,hs];rfl)]
   split
   ·simp only[SO.run,Sy,unA,he]<;>rfl
   ·rename_i w;simp only[SO.run,unV,unA,he]<;>rfl
  ·rfl
 case h_13 src dst x =>
  split
  ·rename_i a ty k ha h2 h3;let⟨s,hs,he⟩:=bG ha;rw[co h1 (by simp only[cT,hs,h2,h3];rfl)];simp only[SO.run,Lw,he]<;>rfl
  ·rfl
 case h_14 f first captured =>
  split
  ·rename_i a c ha hc;let⟨s,hs,he⟩:=cS ha;let⟨o,m,j⟩:=cS hc;rw[co h1 (by simp only[cT,hs,m];rfl)];simp only[SO.run,he,j]<;>rfl
  ·rfl
 case h_15 ty l c =>
  split
  ·rename_i e l c h0 hl hc;let⟨s,hs,he⟩:=bG hl;let⟨o,m,j⟩:=bG hc
   split
   ·rename_i sz bytes zero h2 h3 h4;rw[aa]
    split
    ·rename_i hc;rw[co h1 (by simp only[cT,h0,hs,m,h2,h3,h4,hc];rfl)];simp only[SO.run,DX,jo,he,j]<;>rfl
    ·rfl
   ·rfl
  ·rfl
 case h_16 ty x lo hi =>
  split
  ·rename_i e x l h h0 hx hl r;let⟨s,hs,he⟩:=bG hx;let⟨o,m,j⟩:=cS hl;let⟨z,q,p⟩:=cS r
   split
   ·rename_i sz h2;rw[co h1 (by simp only[cT,h0,hs,m,q,h2];rfl)];simp only[SO.run,fE,he,j,p]<;>rfl
   ·rfl
  ·rename_i n e x l h h0 hx hl r;let⟨s,hs,he⟩:=bG hx;let⟨o,m,j⟩:=cS hl;let⟨z,q,p⟩:=cS r
   split
   ·rename_i sz h2;rw[co h1 (by simp only[cT,h0,hs,m,q,h2];rfl)];simp only[SO.run,Vo,nN,he,j,p]<;>rfl
   ·rfl
  ·rfl
 case h_17 ty x f =>
  split
  ·rename_i a fo ft ha h0;let⟨s,hs,he⟩:=bG ha
   split
   ·rename_i k h2;rw[co h1 (by simp only[cT,hs,h0,h2];rfl)];simp only[SO.run,GO,lQ,he]<;>rfl
   ·rfl
  ·rfl
 case h_18 ty x f =>
  split
  ·rename_i a fo ft ha h0;let⟨s,hs,he⟩:=bG ha
   split
   ·rename_i ag n h2 h3;rw[co h1 (by simp only[cT,hs,h0,h2,h3];rfl)];simp only[SO.run,Ui,he]<;>rfl
   ·rfl
  ·rfl
 case h_19 ty x ix =>
  split
  ·rename_i a i ha hi;let⟨s,hs,he⟩:=bG ha;let⟨o,m,j⟩:=bG hi
   split
   ·rename_i e h0
    split
    ·rename_i sz h2;rw[co h1 (by simp only[cT,hs,m,h0,h2];rfl)];simp only[SO.run,Fi,iY,he,j]<;>rfl
    ·rfl
   ·rename_i n e h0
    split
    ·rename_i sz h2;rw[co h1 (by simp only[cT,hs,m,h0,h2];rfl)];simp only[SO.run,Ki,pg,he,j]<;>rfl
    ·rfl
   ·rfl
  ·rfl
 case h_20 ty x ix =>
  split
  ·rename_i a i ha hi;let⟨s,hs,he⟩:=bG ha;let⟨o,m,j⟩:=bG hi
   split
   ·rename_i n e h0
    split
    ·rename_i ag sz h2 h3;rw[co h1 (by simp only[cT,hs,m,h0,h2,h3];rfl)];simp only[SO.run,Vj,yQ,he,j]<;>rfl
    ·rfl
   ·rfl
  ·rfl
 case h_21 x i =>
  split
  ·rename_i a ha;let⟨s,hs,he⟩:=bG ha;rw[co h1 (by simp only[cT,hs];rfl)];simp only[SO.run,Pf,he]<;>rfl
  ·rfl
 case h_22=>rfl
def rF{xs:List Operand}{os:List Od}(h:mD C xs=some os) :
  (∀o,os=[o]->∃x s,xs=[x]/\aW C x=some s/\∀t,s.run t=o.get t) /\
  (∀o p,os=[o,p]->∃x y s u,xs=[x,y]/\aW C x=some s/\aW C y=some u/\(∀t,s.run t=o.get t)/\∀t,u.run t=p.get t):=by
 refine⟨λo ho=>?_,λo p ho=>?_⟩
 ·subst ho
  match xs,h with
  | [x],h =>
   unfold mD at h
   split at h
   ·rename_i a as ha k;injection h with h;injection h with h1 h2;subst h1;let⟨s,q,e⟩:=bG ha;exact⟨x,s,rfl,q,e⟩
   ·cases h
  | x::y::xs,h =>
   unfold mD at h
   split at h
   ·rename_i a as ha k;unfold mD at k
    split at k
    ·cases k;injection h with h;injection h with h1 h2;cases h2
    ·cases k
   ·cases h
 ·subst ho
  match xs,h with
  | [x,y],h =>
   unfold mD at h
   split at h
   ·rename_i a as ha k;unfold mD at k
    split at k
    ·rename_i b bs hb c;cases k;injection h with h;injection h with h1 h2;injection h2 with h3 h4;subst h1;subst h3;let⟨s,q,e⟩:=bG ha;let⟨s',q',e'⟩:=bG hb;exact⟨x,y,s,s',rfl,q,q',e,e'⟩
    ·cases k
   ·cases h
  | [x],h =>
   unfold mD at h
   split at h
   ·rename_i a as ha k;cases k;injection h with h;injection h with h1 h2;cases h2
   ·cases h
  | x::y::z::xs,h =>
   unfold mD at h
   split at h
   ·rename_i a as ha k;unfold mD at k
    split at k
    ·rename_i b bs hb c;unfold mD at c
     split at c
     ·cases c;cases k;injection h with h;injection h with h1 h2;injection h2 with h3 h4;cases h4
     ·cases c
    ·cases k
   ·cases h
def A7:(NL C op).run C d rd t g=(cI C op).run (I C) d rd t g:=by
 unfold NL
 split
 ·rename_i f args ats
  split
  ·rename_i vs hv;let⟨s,hs,he⟩:=cS hv;simp only[SO.run,cI,Jc,hs,ah];cases hx:C.ext f with
   |some e=>simp only[he]
   |none=>cases hi:C.ON f<;>simp only[he]
  ·rfl
 ·rename_i fo args ats o
  split
  ·rename_i f vs hf hv;let⟨s,hs,he⟩:=cS hv;let⟨q,m,i⟩:=bG hf;cases fo with
   |func k=>exact absurd rfl (o k)
   |tmp k=>simp only[SO.run,cI,Jc,hs,m,he,i]
   |const k=>simp only[SO.run,cI,Jc,hs,m,he,i]
   |global k=>simp only[SO.run,cI,Jc,hs,m,he,i]
  ·rfl
 ·rename_i b args ats;have hc:b≠.recover->Jc C (.call { callee:=.builtin b,args:=args,argTypes:=ats })=match cT C (.call { callee:=.builtin b,args:=args,argTypes:=ats }) with
    |some s=>some ⟨λ_ _ _ t g=>s.run t g⟩|none=>none:=by
   intro hb;cases b<;>first|rfl|exact absurd rfl hb
  split
  ·rename_i x hx;let⟨y,s,j,hs,he⟩:=(rF hx).1 _ rfl
   split
   ·rename_i ty l;rw[co (hc (by simp)) (by simp only[cT,dP,j,l,hs];rfl)];simp only[SO.run,he]<;>rfl
   ·rfl
  ·rename_i a x hx;let⟨y,z,s,u,j,hs,hu,he,i⟩:=(rF hx).2 _ _ rfl
   split
   ·rename_i ty xt l p
    split
    ·rename_i e e2 h1 h2
     split
     ·rename_i sz bytes zero h3 h4 h5;rw[aa]
      split
      ·rename_i n;rw[co (hc (by simp)) (by simp only[cT,dP,j,l,p,hs,hu,h1,h2,h3,h4,h5,n];rfl)];simp only[SO.run,he,i]<;>rfl
      ·rfl
     ·rfl
    ·rfl
   ·rfl
  ·rename_i a x hx;let⟨y,z,s,u,j,hs,hu,he,i⟩:=(rF hx).2 _ _ rfl
   split
   ·rename_i ty l
    split
    ·rename_i e h1
     split
     ·rename_i sz h3;rw[co (hc (by simp)) (by simp only[cT,dP,j,l,hs,hu,h1,h3];rfl)];simp only[SO.run,he,i]<;>rfl
     ·rfl
    ·rfl
   ·rfl
  ·rename_i a x hx;let⟨y,z,s,u,j,hs,hu,he,i⟩:=(rF hx).2 _ _ rfl;rw[co (hc (by simp)) (by simp only[cT,dP,j,hs,hu];rfl)];simp only[SO.run,mxV,he,i]<;>rfl
  ·rename_i a x hx;let⟨y,z,s,u,j,hs,hu,he,i⟩:=(rF hx).2 _ _ rfl;rw[co (hc (by simp)) (by simp only[cT,dP,j,hs,hu];rfl)];simp only[SO.run,mnV,he,i]<;>rfl
  ·rfl
 ·rename_i h1 h2 h3;have key:∀op,(∀c,op≠.call c)->(∀c,op≠.defer c)->Jc C op=match cT C op with|some s=>some ⟨λ_ _ _ t g=>s.run t g⟩|none=>none:=by intro op hc hd;cases op<;>first|rfl|exact absurd rfl (hc _)|exact absurd rfl (hd _)
  cases op with
  |call c=>rfl
  |defer c=>rfl
  |_=>exact Sr (key _ (λc h=>by cases h) (λc h=>by cases h))
structure SI where
 dst:Option Nat
 gd:Option (Nat×Bool)
 op:SO
inductive SC where
 |skip
 |ops (l:List SI)
 |quiet (l:List SI)
 |W6 (pm:List Nat) (l:List SI)
 |seq (a b:SC)
 |cond (c:Od) (a b:SC)
 |blk (id:Nat) (b:SC)
 |loop (b:SC)
 |exit (id:Nat)
 |ret
 |SL (nt:Nat) (f:Od) (ps:List Nat) (assign body:SC)
 |raw (nt:Nat) (c:Code)
def OR.sat(r:OR)(K:AV->G->Prop)(g:G)(D:Xo->Prop):Prop :=
 match r with
 |.fail=>False
 |.val v=>K v g
 |.upd v g'=>K v g'
 |.Xi a=>D a
def CR.sat(r:CR)(Q:Ex->T->List Xo->G->Prop):Prop :=
 match r with
 |.fail=>False
 |.ok e t df g=>Q e t df g
def FR.sat(r:FR)(Q:AV->G->Prop):Prop :=
 match r with
 |.fail=>False
 |.ok v g=>Q v g
def vo(dst:Option Nat)(t:T)(v:AV):T:=match dst with|none=>t|some d=>eT t d v
abbrev PT:=T->List Xo->G->Prop
abbrev QT:=Ex->T->List Xo->G->Prop
def Au(q:Bool)(A B:PT)(t:T)(df:List Xo)(g:G):Prop:=(q=true->A t df g)/\(q=false->B t df g)
def RI(v:AV)(w:Bool)(A B:PT)(t:T)(df:List Xo)(g:G):Prop :=
 match v with
 |.bool q=>ax w (Au q A B t df g) (Au q B A t df g)
 |.WM _=>B t df g
 |_=>False
def kO(W:PT)(dst:Option Nat)(t:T)(df:List Xo)(v:AV)(g:G):Prop:=W (vo dst t v) df g
def kD(W:PT)(dst:Option Nat)(t:T)(df:List Xo)(g:G)(a:Xo):Prop:=W (vo dst t .undef) (a::df) g
def vq(C:Xg)(d:Nat)(rd:Option Nat)(i:SI)(W:PT)(t:T)(df:List Xo)(g:G):Prop:=(i.op.run C d rd t g).sat (kO W i.dst t df) g (kD W i.dst t df g)
def BF(i:SI)(W:PT)(t:T)(df:List Xo)(g:G):Prop:=W (vo i.dst t .undef) df g
def Qz(C:Xg)(d:Nat)(rd:Option Nat):List SI->PT->T->List Xo->G->Prop
 |[],Q,t,df,g=>Q t df g
 | i::r,Q,t,df,g =>
  match i.gd with
  |none=>vq C d rd i (Qz C d rd r Q) t df g
  |some (s,w)=>RI (Xs t s) w (vq C d rd i (Qz C d rd r Q)) (BF i (Qz C d rd r Q)) t df g
def SO.foot(C:Xg)(t:T)(g:G):SO->Looks
 |.load _ _ a=>am (aw (a.get t))
 |.store _ a _=>am (aw (a.get t))
 |.OK _ a _ _=>am (aw (a.get t))
 |.sla _ _ a _ _=>am (aw (a.get t))
 |.NQ _ a _=>am (aw (a.get t))
 |.app _ _ a x=>am (aw (a.get t)++aw (x.get t))
 |.cpy _ a x=>am (aw (a.get t)++aw (x.get t))
 |.mx a x=>am (aw (a.get t)++aw (x.get t))
 |.mn a x=>am (aw (a.get t)++aw (x.get t))
 |.len lk a=>match lk with|.map=>am (Ae (a.get t))|_=>aC
 |.call f as=>ax ((C.ext f).isSome || C.ON f) (am ((fe t as).flatMap (aL g.h aF))) cz
 | .dyn f as=>match f.get t with
  |.W_ f first cap=>ax ((C.ext f).isSome || C.ON f) (am ((first++(fe t as++cap)).flatMap (aL g.h aF))) cz
  |_=>cz
 |.raw op=>(aV C op).run t g
 |_=>aC
abbrev FT:=T->List Xo->G->List W7->Prop
def kF(W:FT)(dst:Option Nat)(t:T)(df:List Xo)(lg:List Nat)(fs:List W7)(lk:Looks)(v:AV)(g':G):Prop:=W (vo dst t v) df (mg g' (g'.lg++lg)) (⟨lk,g'.lg⟩::fs)
def NY(C:Xg)(d:Nat)(rd:Option Nat)(i:SI)(W:FT)(fs:List W7)(t:T)(df:List Xo)(g:G):Prop :=(i.op.run C d rd t (aQ g [])).sat (kF W i.dst t df g.lg fs (i.op.foot C t g)) (aQ g []) (λ_=>False)
def Ju(i:SI)(W:FT)(fs:List W7)(t:T)(df:List Xo)(g:G):Prop:=W (vo i.dst t .undef) df g (⟨aC,[]⟩::fs)
def Q9(C:Xg)(d:Nat)(rd:Option Nat)(pm:List Nat):List SI->PT->T->List Xo->G->List W7->Prop
 |[],Q,t,df,g,fs=>t9 pm fs.reverse=true/\Q t df g
 | i::r,Q,t,df,g,fs =>
  match i.gd with
  |none=>NY C d rd i (Q9 C d rd pm r Q) fs t df g
  |some (s,w)=>RI (Xs t s) w (NY C d rd i (Q9 C d rd pm r Q) fs) (Ju i (Q9 C d rd pm r Q) fs) t df g
def kS(W:PT)(Q:QT)(e:Ex)(t:T)(df:List Xo)(g:G):Prop:=match e with|.norm=>W t df g|e=>Q e t df g
def kB(id:Nat)(Q:QT)(e:Ex)(t:T)(df:List Xo)(g:G):Prop:=match e with|.exit j=>ax (Nat.beq j id) (Q .norm t df g) (Q (.exit j) t df g)|e=>Q e t df g
def kL(Inv:Nat->PT)(k:Nat)(Q:QT)(e:Ex)(t:T)(df:List Xo)(g:G):Prop:=match e with|.norm=>∃k',k'<k/\Inv k' t df g|e=>Q e t df g
def kQ(g0:G)(Q:QT)(t:T)(df:List Xo)(g:G):Prop:=g.lg=[]/\g.nx=g0.nx/\Q .norm t df g0
def wpC(v:AV)(A B:PT)(t:T)(df:List Xo)(g:G):Prop:=match v with|.bool q=>Au q A B t df g|_=>False
def VY(W:QT->PT)(Q:QT)(t:T)(df:List Xo)(g:G):Prop :=∃Inv:Nat->PT,(∃k,Inv k t df g)/\∀k t df g,Inv k t df g->W (kL Inv k Q) t df g
def nGd(all:List Oper):Option (Nat×Bool)->Option (Option (Nat×Bool))
 |none=>some none
 | some (j,w)=>match all[j]? with
  | some o=>match o.dst with
   |some d=>some (some (d,w))
   |none=>none
  |none=>none
def Vg(nt:Nat):Option Nat->Bool
 |none=>true
 |some d=>Nat.blt d nt
def G4(C:Xg)(nt:Nat)(all:List Oper):List Oper->Option (List SI)
 |[]=>some []
 | o::rest=>match Vg nt o.dst,nGd all o.guard,G4 C nt all rest with
  |true,some gd,some r=>some (⟨o.dst,gd,NL C o.op⟩::r)
  |_,_,_=>none
def cF(C:Xg)(nt:Nat):Code->SC
 |.skip=>.skip
 |.label _=>.skip
 | .region p ops draw=>match G4 C nt ops.toList ops.toList with
  |some l=>ax draw (ax (G_ ops.toList) (ax (ops.toList.all λo=>Cx C o.op) (.quiet l) (.W6 (bN ops.toList []) l)) (.raw nt (.region p ops draw))) (.ops l)
  |none=>.raw nt (.region p ops draw)
 |.seq a b=>.seq (cF C nt a) (cF C nt b)
 | .cond c a b=>match tM C c with
  |some c=>.cond c (cF C nt a) (cF C nt b)
  |none=>.raw nt (.cond c a b)
 |.block id b=>.blk id (cF C nt b)
 |.loop b=>.loop (cF C nt b)
 |.scope b=>cF C nt b
 |.exit id=>.exit id
 |.ret=>.ret
 | .rangeFunc f ps assign body=>match tM C f with
  |some f=>.SL nt f ps.toList (cF C nt assign) (cF C nt body)
  |none=>.raw nt (.rangeFunc f ps assign body)
 |c=>.raw nt c
def wp(C:Xg)(d:Nat)(rd:Option Nat):SC->QT->T->List Xo->G->Prop
 |.skip,Q,t,df,g=>Q .norm t df g
 |.ops l,Q,t,df,g=>Qz C d rd l (Q .norm) t df g
 |.quiet l,Q,t,df,g=>Qz C d rd l (kQ g Q) t df (aQ g [])
 |.W6 pm l,Q,t,df,g=>Q9 C d rd pm l (Q .norm) t df g []
 |.seq a b,Q,t,df,g=>wp C d rd a (kS (wp C d rd b Q) Q) t df g
 |.cond c a b,Q,t,df,g=>wpC (c.get t) (wp C d rd a Q) (wp C d rd b Q) t df g
 |.blk id b,Q,t,df,g=>wp C d rd b (kB id Q) t df g
 |.loop b,Q,t,df,g=>VY (wp C d rd b) Q t df g
 |.exit id,Q,t,df,g=>Q (.exit id) t df g
 |.ret,Q,t,df,g=>Q .ret t df g
 |.SL nt f ps a b,Q,t,df,g=>∀assign body,cF C nt assign=a->cF C nt body=b->(pu C nt (λt=>f.get t) ps assign body (I C) d rd t df g).sat Q
 |.raw nt c,Q,t,df,g=>((aR C nt c).run (I C) d rd t df g).sat Q
def Cu{dst:Option Nat}(h:Vg nt dst=true):∃o,ta nt dst=some o/\∀t v,o.run t v=vo dst t v:=by
 cases dst with
 |none=>exact⟨_,rfl,λt v=>rfl⟩
 | some d =>refine⟨sp AV.undef d,?_,λt v=>rfl⟩;have h:Nat.blt d nt=true:=h;simp only[ta,h]
def xi{all:List Oper}{w:Bool}{r:Option (Nat×Bool)}(h:nGd all (some (j,w))=some r) :
  ∃s,r=some (s,w)/\jP all (some (j,w))=some ⟨λt=>match (gp AV.undef s).run t with|.bool b=>some (ax w b (m_ b))|.WM _=>some false|_=>none⟩:=by
 unfold nGd at h;dsimp only at h
 split at h
 ·rename_i o ho
  split at h
  ·rename_i d hd;injection h with h;exact⟨d,h.symm,by simp only[jP,ho,hd];rfl⟩
  ·cases h
 ·cases h
def Er{out:T->AV->T}{dst:Option Nat}(ho:∀t v,out t v=vo dst t v){next:T->List Xo->G->CR}{Q:QT}{K:PT}(hk:∀t df g,K t df g->(next t df g).sat Q)
      (h:r.sat (kO K dst t df) g (kD K dst t df g)):(rx out next t df g r).sat Q:=by
 cases r with
 |fail=>exact h.elim
 |val v=>exact hk _ _ _ (by rw[ho];exact h)
 |upd v g'=>exact hk _ _ _ (by rw[ho];exact h)
 |Xi a=>exact hk _ _ _ (by rw[ho];exact h)
def DC{w:Bool}{A B:PT}(h:RI v w A B t df g) :
  ∃q,(match v with|.bool b=>some (ax w b (m_ b))|.WM _=>some false|_=>none:Option Bool)=some q/\(q=true->A t df g)/\(q=false->B t df g):=by
 unfold RI at h
 split at h
 ·rename_i q;rw[aa]at h;refine⟨_,rfl,?_,?_⟩
  ·cases w<;>cases q<;>simp_all [Au]
  ·cases w<;>cases q<;>simp_all [Au]
 ·exact⟨false,rfl,λh=>(by cases h),λ_=>h⟩
 ·exact h.elim
def Rs{all:List Oper}{Q:QT}:∀(l:List Oper) (s:List SI),G4 C nt all l=some s->∀t df g,Qz C d rd s (Q .norm) t df g ->
  ((lA C nt all l).run (I C) d rd t df g).sat Q:=by
 intro l
 induction l with
 |nil=>intro s h t df g hq;cases h;exact hq
 | cons o rest ih =>
  intro s h t df g hq;unfold G4 at h
  split at h
  ·rename_i gd r hd hg hr;cases h;let⟨ot,e1,e2⟩:=Cu hd;unfold lA;rw[e1];dsimp only;cases hgd:o.guard with
   | none =>rw[hgd]at hg;cases hg;dsimp only;rw[<-A7];exact Er e2 (λt df g h=>ih r hr t df g h) hq
   | some jw =>
    let⟨j,w⟩:=jw;rw[hgd]at hg;let⟨sl,h1,h2⟩:=xi hg;subst h1;dsimp only;rw[h2];dsimp only;let⟨q,h3,h4,h5⟩:=DC hq;have:(gp AV.undef sl).run t=Xs t sl:=Wz _ _ _;rw[this,h3];cases q with
    | true =>dsimp only;rw[<-A7];exact Er e2 (λt df g h=>ih r hr t df g h) (h4 rfl)
    | false =>dsimp only;rw[e2];exact ih r hr _ _ _ (h5 rfl)
  ·cases h
def NG(hc:∀c,op≠.call c):(G5 C op).foot C t g=(aV C op).run t g:=by
 have k:∀{x:Operand} {o:Od},tM C x=some o->∃s,aW C x=some s/\∀t,s.run t=o.get t:=bG;unfold G5
 split
 case h_8 ty a =>
  split
  ·rename_i a ag n ha h2 h3;let⟨s,hs,he⟩:=k ha;simp only[aV,hs,SO.foot,he]
  ·rfl
 case h_9 ty a x =>
  split
  ·rename_i a x n ha hx h3;let⟨s,hs,he⟩:=k ha;simp only[aV,hs,SO.foot,he]
  ·rfl
 case h_16 ty x lo hi =>
  split
  ·rename_i e x l h h0 hx hl b;let⟨s,hs,he⟩:=k hx
   split
   ·simp only[aV,hs,SO.foot,he]
   ·rfl
  ·rename_i n e x l h h0 hx hl b;let⟨s,hs,he⟩:=k hx
   split
   ·simp only[aV,hs,SO.foot,he]
   ·rfl
  ·rfl
 case h_19 ty x ix =>
  split
  ·rename_i a i ha hi;let⟨s,hs,he⟩:=k ha
   split
   ·rename_i e h0
    split
    ·simp only[aV,h0,hs,SO.foot,he]
    ·rfl
   ·rename_i n e h0
    split
    ·simp only[aV,h0,SO.foot]
    ·rfl
   ·rfl
  ·rfl
 all_goals (repeat' (first|rfl|split|rw[aa]))
def Qe:(NL C op).foot C t g=(aV C op).run t g:=by
 unfold NL
 split
 ·rename_i f args ats
  split
  ·rename_i vs hv;let⟨s,hs,he⟩:=cS hv;simp only[SO.foot,aV,aW,hs,he,X3,X6]
  ·rfl
 ·rename_i fo args ats j
  split
  ·rename_i f vs hf hv;let⟨s,hs,he⟩:=cS hv;let⟨l,e,d⟩:=bG hf;simp only[SO.foot,aV,hs,e,he,d];cases Od.get t f<;>rfl
  ·rfl
 ·rename_i b args ats
  split
  ·rename_i x hx;let⟨s,hs,he⟩:=cS hx
   split
   ·rename_i ty i;simp only[SO.foot,aV,hs,he,fe,YL,YP,X6,nz,i];cases nE C.P ty<;>rfl
   ·rfl
  ·rename_i a x hx;let⟨s,hs,he⟩:=cS hx;have k:(aV C (.call { callee:=.builtin .append,args:=args,argTypes:=ats })).run t g=am (aw (a.get t)++aw (x.get t)):=by simp only[aV,hs,he,fe,YL,YP,X6,nz]
   split
   ·split
    ·split
     ·rw[aa];split
      ·exact k.symm
      ·rfl
     ·rfl
    ·rfl
   ·rfl
  ·rename_i a x hx;let⟨s,hs,he⟩:=cS hx;have k:(aV C (.call { callee:=.builtin .copy,args:=args,argTypes:=ats })).run t g=am (aw (a.get t)++aw (x.get t)):=by simp only[aV,hs,he,fe,YL,YP,X6,nz]
   split
   ·split
    ·split
     ·exact k.symm
     ·rfl
    ·rfl
   ·rfl
  ·rename_i a x hx;let⟨s,hs,he⟩:=cS hx;simp only[SO.foot,aV,hs,he,fe,YL,YP,X6,nz]
  ·rename_i a x hx;let⟨s,hs,he⟩:=cS hx;simp only[SO.foot,aV,hs,he,fe,YL,YP,X6,nz]
  ·rfl
 ·rename_i h1 h2 h3;cases op with
  |call c=>rfl
  |_=>exact NG (λc h=>by cases h)
def UR{all:List Oper}{Q:QT}:∀(l:List Oper) (s:List SI) (k:Nat),G4 C nt all l=some s->∀t df g fs,Q9 C d rd pm s (Q .norm) t df g fs ->
  ((jO C nt pm all k l).run (I C) d rd t df g fs).sat Q:=by
 intro l
 induction l with
 | nil =>intro s k h t df g fs hq;cases h;let⟨h1,h2⟩:=hq;unfold jO;dsimp only;rw[h1];exact h2
 | cons o rest ih =>
  intro s k h t df g fs hq;unfold G4 at h
  split at h
  ·rename_i gd r hd hg hr;cases h;let⟨ot,e1,e2⟩:=Cu hd;have step:∀{x:OR},x.sat (kF (Q9 C d rd pm r (Q .norm)) o.dst t df g.lg fs ((NL C o.op).foot C t g)) (aQ g []) (λ_=>False) ->
     (mH ot.run ((jO C nt pm all (k+1) rest).run (I C) d rd) t df g fs ((aV C o.op).run t g) x).sat Q:=by
    intro x hx;rw[Qe]at hx;cases x with
    |fail=>exact hx.elim
    | val v =>simp only[mH,e2];refine ih r _ hr _ _ _ _ ?_;have hx:Q9 C d rd pm r (Q .norm) (vo o.dst t v) df (mg (aQ g []) ((aQ g []).lg++g.lg)) (⟨(aV C o.op).run t g,(aQ g []).lg⟩::fs):=hx;let⟨h,nx,lg⟩:=g;exact hx
    | upd v g' =>simp only[mH,e2];exact ih r _ hr _ _ _ _ hx
    |Xi a=>exact hx.elim
   unfold jO;rw[e1];cases hgd:o.guard with
   | none =>rw[hgd]at hg;cases hg;simp only[jP];rw[<-A7];exact step hq
   | some jw =>
    let⟨j,w⟩:=jw;rw[hgd]at hg;let⟨sl,h1,h2⟩:=xi hg;subst h1;rw[h2];dsimp only;let⟨q,h3,h4,h5⟩:=DC hq;have:(gp AV.undef sl).run t=Xs t sl:=Wz _ _ _;rw[this,h3];cases q with
    | true =>dsimp only;rw[<-A7];exact step (h4 rfl)
    | false =>dsimp only;rw[e2];exact ih r _ hr _ _ _ _ (h5 rfl)
  ·cases h
def CR.sat_mono{r:CR}{Q Q':QT}(h:r.sat Q)(hq:∀e t df g,Q e t df g->Q' e t df g):r.sat Q':=by
 cases r with
 |fail=>exact h
 |ok e t df g=>exact hq _ _ _ _ h
def Ry:∀(c:Code) (Q:QT) (t:T) (df:List Xo) (g:G),wp C d rd (cF C nt c) Q t df g->((aR C nt c).run (I C) d rd t df g).sat Q:=by
 intro c
 induction c with
 | seq a b iha ihb =>
  intro Q t df g h;have h:=iha _ t df g h;show (Fk _ ((aR C nt a).run (I C) d rd t df g)).sat Q;cases hr:(aR C nt a).run (I C) d rd t df g with
  |fail=>rw[hr]at h;exact h
  | ok e t1 df1 g1 =>
   rw[hr]at h;cases e with
   |norm=>exact ihb _ _ _ _ h
   |exit j=>exact h
   |ret=>exact h
 | cond q a b iha ihb =>
  intro Q t df g h;unfold cF at h
  split at h
  ·rename_i o ho;let⟨s,hs,he⟩:=bG ho;simp only[aR,hs,he];have h:wpC (o.get t) (wp C d rd (cF C nt a) Q) (wp C d rd (cF C nt b) Q) t df g:=h;unfold wpC at h;cases hv:Od.get t o with
   | bool v =>
    rw[hv]at h;cases v with
    |true=>exact iha _ _ _ _ (h.1 rfl)
    |false=>exact ihb _ _ _ _ (h.2 rfl)
   |_=>rw[hv]at h;exact h.elim
  ·exact h
 | block id body ih =>
  intro Q t df g h;have h:=ih _ t df g h;show (yi id ((aR C nt body).run (I C) d rd t df g)).sat Q;cases hr:(aR C nt body).run (I C) d rd t df g with
  |fail=>rw[hr]at h;exact h
  | ok e t1 df1 g1 =>
   rw[hr]at h;cases e with
   |norm=>exact h
   | exit j =>
    have h:ax (Nat.beq j id) (Q .norm t1 df1 g1) (Q (.exit j) t1 df1 g1):=h;show (ax (Nat.beq j id) _ _:CR).sat Q;cases hb:Nat.beq j id
    ·rw[hb]at h;exact h
    ·rw[hb]at h;exact h
   |ret=>exact h
 | loop body ih =>
  intro Q t df g h;obtain⟨Inv,⟨k,hk⟩,hs⟩:=h
  induction k using Nat.strongRecOn generalizing t df g with
  | _ k rec =>
   have h:=ih _ t df g (hs k t df g hk);show (Fk (λt df g=>(I C).code nt d rd (.loop body) t df g) ((aR C nt body).run (I C) d rd t df g)).sat Q;cases hr:(aR C nt body).run (I C) d rd t df g with
   |fail=>rw[hr]at h;exact h
   | ok e t1 df1 g1 =>
    rw[hr]at h;cases e with
    | norm =>obtain⟨k',hlt,hi⟩:=h;show ((I C).code nt d rd (.loop body) t1 df1 g1).sat Q;rw[JP];exact rec k' hlt t1 df1 g1 hi
    |exit j=>exact h
    |ret=>exact h
 |scope body ih=>intro Q t df g h;exact ih _ _ _ _ h
 | region p ops draw =>
  intro Q t df g h;show ((gm C nt ops.toList draw).run (I C) d rd t df g).sat Q;unfold cF at h
  split at h
  ·rename_i l hl;rw[aa,aa,aa]at h;unfold gm;rw[aa,aa,aa]
   split
   ·rename_i hd;rw[XO hd]at h
    split
    ·rename_i ho;rw[XO ho]at h
     split
     ·rename_i hq;rw[XO hq]at h;have h:Qz C d rd l (kQ g Q) t df (aQ g []):=h;have h:=Rs (C:=C) (d:=d) (rd:=rd) (Q:=λe t df g'=>e=.norm/\g'.lg=[]/\g'.nx=g.nx/\Q .norm t df g) (nt:=nt) (all:=ops.toList) ops.toList l hl t df (aQ g [])
       (by refine cast ?_ h;congr 1;funext t df g';simp[kQ])
      dsimp only;cases hr:(lA C nt ops.toList ops.toList).run (I C) d rd t df (aQ g []) with
      |fail=>rw[hr]at h;exact h
      | ok e t1 df1 g1 =>rw[hr]at h;let⟨h0,h1,h2,h3⟩:=h;subst h0;simp only[pt,h1,h2,Yl];exact h3
     ·rename_i hq;rw[XS hq]at h;exact UR _ l 0 hl _ _ _ _ h
    ·rename_i ho;rw[XS ho]at h;unfold wp at h;simp only[aR,gm,aa,XO hd,XS ho]at h;exact h
   ·rename_i hd;rw[XS hd]at h;exact Rs _ l hl _ _ _ h
  ·exact h
 | rangeFunc f ps assign body _ _ =>
  intro Q t df g h;unfold cF at h
  split at h
  ·rename_i o ho;let⟨s,hs,he⟩:=bG ho;have he:s.run=λt=>o.get t:=funext he;simp only[aR,hs,he];exact h assign body rfl rfl
  ·exact h
 |skip=>intro Q t df g h;exact h
 |label l=>intro Q t df g h;exact h
 |exit id=>intro Q t df g h;exact h
 |ret=>intro Q t df g h;exact h
 |goto l=>intro Q t df g h;exact h
 |refuse w=>intro Q t df g h;exact h
def OR.sat_mono{K K':AV->G->Prop}{D D':Xo->Prop}(h:r.sat K g D)(hk:∀v g',K v g'->K' v g')(hd:∀a,D a->D' a):r.sat K' g D':=by
 cases r with
 |fail=>exact h
 |val v=>exact hk _ _ h
 |upd v g'=>exact hk _ _ h
 |Xi a=>exact hd _ h
inductive SR where
 |tm (n:Nat)
 |cell (ag:Bool) (n a:Nat)
structure SF where
 nt:Nat
 res:List SR
 code:SC
def A8(C:Xg):List ResultVar->Option (List SR)
 |[]=>some []
 | .tmp n::rs=>match A8 C rs with
  |some k=>some (.tm n::k)
  |none=>none
 | .cell a ty::rs=>match A8 C rs,vy C.P ty,Wx C.P ty with
  |some k,some ag,some n=>some (.cell ag n a::k)
  |_,_,_=>none
def WY(C:Xg)(f:Nat):Option SF :=
 match C.P.funcs[f]? with
 |none=>none
 | some fn=>match fn.body with
  |none=>none
  | some c=>match A8 C fn.results.toList with
   | some r => ax (fn.name == "runtime.NumGoroutine") none (some ⟨fn.ntmps, r, cF C fn.ntmps c⟩)
   |none=>none
def vp:List SR->T->G->(List AV->Prop)->Prop
 |[],_,_,K=>K []
 |.tm n::rs,t,g,K=>vp rs t g λvs=>K (Xs t n::vs)
 | .cell ag n a::rs,t,g,K=>match uW ag n (Xs t a) g with
  |.val v=>vp rs t g λvs=>K (v::vs)
  |_=>False
def Hi:∀(l:List ResultVar) (r:List SR) (K:List AV->Prop),A8 C l=some r->vp r t g K->∃s vs,pE C l=some s/\s.run t g=some vs/\K vs:=by
 intro l
 induction l with
 |nil=>intro r K h hk;cases h;exact⟨_,[],rfl,rfl,hk⟩
 | cons x l ih =>
  intro r K h hk;cases x with
  | tmp n =>
   unfold A8 at h
   split at h
   ·rename_i k hr;cases h;let⟨s,vs,h1,h2,h3⟩:=ih k _ hr hk;refine⟨⟨λt g=>match s.run t g with|some vs=>some ((gp AV.undef n).run t::vs)|none=>none⟩,Xs t n::vs,by simp only[pE,h1];rfl,?_,h3⟩;simp only[h2,Wz];rfl
   ·cases h
  | cell a ty =>
   unfold A8 at h
   split at h
   ·rename_i k ag n hr ha b;cases h;unfold vp at hk
    split at hk
    ·rename_i v hv;let⟨s,vs,h1,h2,h3⟩:=ih k _ hr hk;have hl:pj ag n (gp AV.undef a).run t g=.val v:=by rw[<-hv];simp only[uW,pj,Wz];rfl
     refine⟨⟨λt g=>match pj ag n (gp AV.undef a).run t g with|.val v=>(match s.run t g with|some vs=>some (v::vs)|none=>none)|_=>none⟩,v::vs,
      by simp only[pE,h1,cT,aW,ha,b];rfl,?_,h3⟩
     simp only[hl,h2]
    ·exact hk.elim
   ·cases h
def mN(C:Xg)(d:Nat)(r:List SR)(t:T)(df:List Xo)(g:G)(K:AV->G->Prop):Prop :=
 match eE (I C) d df g with
 |some g'=>vp r t g' λvs=>K (fg vs) g'
 |none=>False
def Sb(C:Xg)(d:Nat)(r:List SR)(K:AV->G->Prop):QT:=λe t df g=>match e with|.exit _=>False|_=>mN C d r t df g K
def tC{f:Nat}{s:SF}(hf:WY C f=some s){as:List AV}{K:AV->G->Prop}(hl:as.length<=s.nt)(h:wp C d none s.code (Sb C d s.res K) (bJ 0 as .nil) [] g) :
  ((I C).call d f as g).sat K:=by
 rw[TX];unfold WY at hf
 split at hf
 ·cases hf
 rename_i fn m
 split at hf
 ·cases hf
 rename_i c hc
 split at hf
 rotate_left
 ·cases hf
 rename_i r hr;rw[aa]at hf
 split at hf
 ·cases hf
 rename_i p;cases hf;have h:=Ry c _ _ _ _ h;have b:∃s,pE C fn.results.toList=some s:=by
  have:∀(l:List ResultVar) (r:List SR),A8 C l=some r->∃s,pE C l=some s:=by
   intro l
   induction l with
   |nil=>intro r _;exact⟨_,rfl⟩
   | cons x l ih =>
    intro r h;cases x with
    | tmp n =>
     unfold A8 at h
     split at h
     ·rename_i k hr;let⟨s,hs⟩:=ih k hr;exact⟨_,by simp only[pE,hs];rfl⟩
     ·cases h
    | cell a ty =>
     unfold A8 at h
     split at h
     ·rename_i k ag n hr ha p;let⟨s,hs⟩:=ih k hr;exact⟨_,by simp only[pE,hs,cT,aW,ha,p];rfl⟩
     ·cases h
  exact this _ _ hr
 let⟨rs,i⟩:=b;unfold eU UL;simp only[m,hc,i,aa,XS p];rw[XO (by rw[ay,Yt];exact hl)];cases hrun:(aR C fn.ntmps c).run (I C) d none (bJ 0 as .nil) [] g with
 |fail=>rw[hrun]at h;exact h
 | ok e t df g' =>
  rw[hrun]at h;have key:mN C d r t df g' K->(bV (I C) d rs.run t df g').sat K:=by
   intro h;unfold mN at h;unfold bV
   split at h
   ·rename_i g2 o;rw[o];let⟨q,vs,h1,h2,h3⟩:=Hi _ _ _ hr h;rw[i]at h1;cases h1;simp only[h2];exact h3
   ·exact h.elim
  cases e with
  |exit j=>exact h
  |norm=>exact key h
  |ret=>exact key h
def Xl{α β:Type}(R:α->β->Prop):List α->List β->Prop
 |[],[]=>True
 |a::as,b::bs=>R a b/\Xl R as bs
 |_,_=>False
section all2
variable {α β:Type}{R S:α->β->Prop}
def Xl.len:∀{l:List α} {m:List β},Xl R l m->l.length=m.length
 |[],[],_=>rfl
 |_::_,_::_,h=>by simp only[Yp,Xl.len h.2]
def Xl.mono(hs:∀a b,R a b->S a b):∀{l:List α} {m:List β},Xl R l m->Xl S l m
 |[],[],_=>trivial
 |_::_,_::_,h=>⟨hs _ _ h.1,Xl.mono hs h.2⟩
def Xl.get:∀{l:List α} {m:List β},Xl R l m->∀{i:Nat} {a:α},l[i]?=some a->∃b,m[i]?=some b/\R a b
 |_::_,b::_,h,0,_,e=>by simp at e;subst e;exact⟨b,rfl,h.1⟩
 |_::_,_::_,h,i+1,a,e=>by simpa using Xl.get h.2 (by simpa using e)
 |[],[],_,i,a,e=>by simp at e
def Xl.get':∀{l:List α} {m:List β},Xl R l m->∀{i:Nat} {b:β},m[i]?=some b->∃a,l[i]?=some a/\R a b
 |a::_,_::_,h,0,_,e=>by simp at e;subst e;exact⟨a,rfl,h.1⟩
 |_::_,_::_,h,i+1,a,e=>by simpa using Xl.get' h.2 (by simpa using e)
 |[],[],_,i,a,e=>by simp at e
def Xl.append:∀{l:List α} {m:List β} {l':List α} {m':List β},Xl R l m->Xl R l' m'->Xl R (l++l') (m++m')
 |[],[],_,_,_,h'=>h'
 |_::_,_::_,_,_,h,h'=>⟨h.1,Xl.append h.2 h'⟩
def Xl.take:∀{l:List α} {m:List β},Xl R l m->∀(i:Nat),Xl R (l.take i) (m.take i)
 |[],[],_,_=>by simp[Xl]
 |_::_,_::_,h,0=>by simp[Xl]
 |_::_,_::_,h,i+1=>⟨h.1,Xl.take h.2 i⟩
def Xl.drop:∀{l:List α} {m:List β},Xl R l m->∀(i:Nat),Xl R (l.drop i) (m.drop i)
 |[],[],_,_=>by simp[Xl]
 |_::_,_::_,h,0=>h
 |_::_,_::_,h,i+1=>Xl.drop h.2 i
def VK{a:α}{b:β}(h:R a b):∀n,Xl R (List.replicate n a) (List.replicate n b)
 |0=>trivial
 |n+1=>⟨h,VK h n⟩
def VJ{f:α->β}(h:∀a,R a (f a)):∀l:List α,Xl R l (l.map f)
 |[]=>trivial
 |a::l=>⟨h a,VJ h l⟩
def Xl.eq_map{f:α->β}(hf:∀a b,R a b->b=f a):∀{l:List α} {m:List β},Xl R l m->m=l.map f
 |[],[],_=>rfl
 |a::l,b::m,h=>by rw[Z7,hf _ _ h.1,Xl.eq_map hf h.2]
end all2
def Xt:Nat->Prop:=λ_=>False
class Rp (α:Type) where
 sz:Nat
 dp:Nat
 rp:(Nat->Prop)->Nat->H->α->List AV->Prop
 len:∀{P k h x cs},rp P k h x cs->cs.length=sz
 mono:∀{P P':Nat->Prop} {k k':Nat} {h h':H} {x:α} {cs:List AV},rp P k h x cs->(∀i,P i->P' i/\h'.get i=h.get i)->k<=k'->rp P' k' h' x cs
 Xm:∀{P k h x cs n} (d:Nat),rp P k h x cs->dp<=n->dp<=aF->∃cs',aD (Hx.Xm h d n) cs=some cs'/\rp Xt (max k d) .nil x cs'
 same:∀{k h x cs n} (d:Nat),rp Xt k h x cs->dp<=n->aD (Hx.Xm h d n) cs=some cs
 ids:∀{P k h x cs n},rp P k h x cs->∀i∈cs.flatMap (aL h n),P i
 tag:∀{k h x cs n},rp Xt k h x cs->dp<=n->∃m,il (gg n) cs=some m/\m<=k
def Rp.tree{α:Type} [Rp α]{k':Nat}{h':H}{x:α}(r:Rp.rp Xt k h x cs)(hk:k<=k'):Rp.rp P k' h' x cs :=Rp.mono r (λ_ h=>h.elim) hk
def AV.flat:AV->Bool
 |.bool _|.int _ _|.str _=>true
 |_=>false
def Gi(hv:v.flat=true)(hn:1<=n):Hx.Xm h d n v=some v:=by obtain⟨n,rfl⟩:∃m,n=m+1:=⟨n - 1,by omega⟩;cases v<;>first|rfl|cases hv
def Rg(hv:v.flat=true)(hn:1<=n):gg n v=some 0:=by obtain⟨n,rfl⟩:∃m,n=m+1:=⟨n - 1,by omega⟩;cases v<;>first|rfl|cases hv
def PJ{h:H}{n:Nat}{v:AV}(hv:v.flat=true):aL h n v=[]:=by
 cases n with
 |zero=>rfl
 |succ n=>cases v<;>first|rfl|cases hv
@[reducible] def Rp.plain {α:Type} (f:α->AV) (ok:α->Prop) (hf:∀x,(f x).flat=true):Rp α where
 sz:=1
 dp:=1
 rp:=λ_ _ _ x cs=>cs=[f x]/\ok x
 len:=by rintro P k h x cs ⟨rfl,-⟩;rfl
 mono:=λr _ _=>r
 Xm:=by rintro P k h x cs n d ⟨rfl,ho⟩ hn _;exact⟨[f x],by simp only[aD,Gi (hf x) hn],rfl,ho⟩
 same:=by rintro k h x cs n d ⟨rfl,ho⟩ hn;simp only[aD,Gi (hf x) hn]
 ids:=by rintro P k h x cs n ⟨rfl,ho⟩ i hi;simp[PJ (hf x)]at hi
 tag:=by rintro k h x cs n ⟨rfl,ho⟩ hn;exact⟨0,by simp[il,Rg (hf x) hn],Yi _⟩
def ci(x:Int):List AV:=[.int .i64 x]
def cu(x:Nat):List AV:=[.int .u64 (x:Int)]
instance : Rp Int:=Rp.plain (λx=>.int .i64 x) (λ_=>True) (λ_=>rfl)
instance : Rp Bool:=Rp.plain (λx=>.bool x) (λ_=>True) (λ_=>rfl)
instance : Rp Nat:=Rp.plain (λx=>.int .u64 (x:Int)) (λx=>x<2^64) (λ_=>rfl)
instance : Rp UInt8:=Rp.plain (λx=>.int .u8 (x.toNat:Int)) (λ_=>True) (λ_=>rfl)
instance : Rp UInt16:=Rp.plain (λx=>.int .u16 (x.toNat:Int)) (λ_=>True) (λ_=>rfl)
def wP{α β:Type}{f:α->Option β}:∀{l m:List α} {a b:List β},aD f l=some a->aD f m=some b->aD f (l++m)=some (a++b)
 |[],m,a,b,h1,h2=>by cases h1;exact h2
 | x::l,m,a,b,h1,h2=>by
  unfold aD at h1
  split at h1
  ·rename_i y k
   split at h1
   ·rename_i ys h;cases h1;simp only[XY,aD,k,wP h h2]
   ·cases h1
  ·cases h1
def By{α:Type}{f:α->Option Nat}:∀{l m:List α} {a b:Nat},il f l=some a->il f m=some b->il f (l++m)=some (max a b)
 |[],m,a,b,h1,h2=>by cases h1;simpa using h2
 | x::l,m,a,b,h1,h2=>by
  unfold il at h1
  split at h1
  ·rename_i y k
   split at h1
   ·rename_i ys h;cases h1;simp only[XY,il,k,By h h2,Y9,Nat.max_def]
    repeat' split
    all_goals omega
   ·cases h1
  ·cases h1
instance {α β:Type} [Rp α] [Rp β]:Rp (α×β) where
 sz:=Rp.sz α+Rp.sz β
 dp:=max (Rp.dp α) (Rp.dp β)
 rp:=λP k h x cs=>∃a b,cs=a++b/\Rp.rp P k h x.1 a/\Rp.rp P k h x.2 b
 len:=by rintro P k h x cs ⟨a,b,rfl,h1,h2⟩;rw[Yo,Rp.len h1,Rp.len h2]
 mono:=by rintro P P' k k' h h' x cs ⟨a,b,rfl,h1,h2⟩ hp hk;exact⟨a,b,rfl,Rp.mono h1 hp hk,Rp.mono h2 hp hk⟩
 Xm:=by rintro P k h x cs n d ⟨a,b,rfl,h1,h2⟩ hn hA;obtain⟨a',e1,r1⟩:=Rp.Xm (n:=n) d h1 (by omega) (by omega);obtain⟨b',e2,r2⟩:=Rp.Xm (n:=n) d h2 (by omega) (by omega);exact⟨a'++b',wP e1 e2,a',b',rfl,r1,r2⟩
 same:=by rintro k h x cs n d ⟨a,b,rfl,h1,h2⟩ hn;exact wP (Rp.same d h1 (by omega)) (Rp.same d h2 (by omega))
 ids:=by
  rintro P k h x cs n ⟨a,b,rfl,h1,h2⟩ i hi;rw[Z3,Yf]at hi;rcases hi with hi|hi
  ·exact Rp.ids h1 i hi
  ·exact Rp.ids h2 i hi
 tag:=by rintro k h x cs n ⟨a,b,rfl,h1,h2⟩ hn;obtain⟨m1,e1,l1⟩:=Rp.tag (n:=n) h1 (by omega);obtain⟨m2,e2,l2⟩:=Rp.tag (n:=n) h2 (by omega);exact⟨max m1 m2,By e1 e2,by omega⟩
@[reducible] def Rp.via {α β:Type} [Rp β] (f:α->β):Rp α where
 sz:=Rp.sz β
 dp:=Rp.dp β
 rp:=λP k h x cs=>Rp.rp P k h (f x) cs
 len:=Rp.len
 mono:=Rp.mono
 Xm:=Rp.Xm
 same:=Rp.same
 ids:=Rp.ids
 tag:=Rp.tag
def Oe{α:Type} [Rp α](P:Nat->Prop)(k:Nat)(h:H)(l:List α)(v:AV):Prop :=
 match v with
 |.XC|.Wd=>l=[]
 |.WO t s rows=>t<=k/\(s=Rp.sz α\/rows=[])/\Xl (Rp.rp Xt k .nil) l rows
 |.Xj id _ _ _ _=>P id/\∃rows,ak h (Rp.sz α) v=some rows/\Xl (Rp.rp P k h) l rows
 |_=>False
def Xu{α:Type} [Rp α](P:Nat->Prop)(k:Nat)(h:H)(l:List α)(v:AV):Prop:=l.length<2^63/\Oe P k h l v
def Xu.rows{α:Type} [Rp α]{P:Nat->Prop}{k:Nat}{h:H}{l:List α}{v:AV}(r:Xu P k h l v):∃rows,ak h (Rp.sz α) v=some rows/\Xl (Rp.rp P k h) l rows:=by
 have r:=r.2;unfold Oe at r
 split at r
 ·subst r;exact⟨[],rfl,trivial⟩
 ·subst r;exact⟨[],rfl,trivial⟩
 ·let⟨h1,h2,h3⟩:=r;refine⟨_,?_,h3.mono λa b r=>Rp.tree r (XH _)⟩;simp only[ak];rw[aa];rcases h2 with h2|h2
  ·subst h2;simp
  ·subst h2;simp
 ·exact r.2
 ·exact r.elim
def FX{α β γ:Type}{R:α->β->Prop}{S:α->γ->Prop}{f:β->Option γ}(hf:∀a b,R a b->∃c,f b=some c/\S a c):∀{l:List α} {m:List β},Xl R l m->∃r,aD f m=some r/\Xl S l r
 |[],[],_=>⟨[],rfl,trivial⟩
 | a::l,b::m,h=>by let⟨c,e1,k⟩:=hf a b h.1;let⟨r,e2,d⟩:=FX hf h.2;exact⟨c::r,by simp only[aD,e1,e2],k,d⟩
def FZ{α β:Type}{R:α->β->Prop}{f:β->Option Nat}{k:Nat}(hf:∀a b,R a b->∃m,f b=some m/\m<=k):∀{l:List α} {m:List β},Xl R l m->∃r,il f m=some r/\r<=k
 |[],[],_=>⟨0,rfl,Yi _⟩
 | a::l,b::m,h=>by let⟨c,e1,d⟩:=hf a b h.1;let⟨r,e2,e⟩:=FZ hf h.2;exact⟨max c r,by simp only[il,e1,e2],by omega⟩
def IN{α β:Type}{R:α->β->Prop}:∀{l:List α} {m:List β},Xl R l m->∀b∈m,∃a,R a b
 |[],[],_,b,hb=>by simp at hb
 | a::l,c::m,h,b,hb=>by
  rcases Yh.1 hb with rfl|hb
  ·exact⟨a,h.1⟩
  ·exact IN h.2 b hb
def BA{h h':H}{sz:Nat}{v:AV}(he:∀id ep off len lim,v=.Xj id ep off len lim->h'.get id=h.get id):ak h' sz v=ak h sz v:=by
 cases v with
 |Xj id ep off len lim=>simp only[ak,he id ep off len lim rfl]
 |_=>rfl
instance {α:Type} [Rp α]:Rp (List α) where
 sz:=1
 dp:=Rp.dp α+1
 rp:=λP k h l cs=>∃v,cs=[v]/\Xu P k h l v
 len:=by rintro P k h x cs ⟨v,rfl,h1⟩;rfl
 mono:=by
  rintro P P' k k' h h' x cs ⟨v,rfl,h0,h1⟩ hp hk;refine⟨v,rfl,h0,?_⟩;unfold Oe at h1 ⊢
  split at h1
  ·exact h1
  ·exact h1
  ·exact⟨by omega,h1.2.1,h1.2.2.mono λa b r=>Rp.mono r (λi hi=>hi.elim) hk⟩
  ·rename_i id ep off len lim;let⟨a,rows,b,c⟩:=h1;refine⟨(hp _ a).1,rows,?_,c.mono λa b r=>Rp.mono r hp hk⟩;rw[<-b];exact BA λ_ _ _ _ _ e=>by cases e;exact (hp _ a).2
  ·exact h1
 Xm:=by
  rintro P k h x cs n d ⟨v,rfl,h0,h1⟩ hn hA;obtain⟨n,rfl⟩:∃m,n=m+1:=⟨n - 1,by omega⟩;have hdA:(23:Nat)+1=aF:=rfl;cases v with
  |XC=>exact⟨_,rfl,_,rfl,h0,h1⟩
  |Wd=>exact⟨_,rfl,_,rfl,h0,h1⟩
  | WO t s rows =>refine⟨_,rfl,_,rfl,h0,?_⟩;obtain⟨q1,q2,q3⟩:=h1;exact⟨by omega,q2,q3.mono λa b r=>Rp.mono r (λi hi=>hi.elim) (by omega)⟩
  | Xj id ep off len lim =>
   obtain⟨q1,rows,q2,q3⟩:=h1;simp only[ak]at q2
   split at q2
   ·rename_i sz' rows' ep' lo fz hg;rw[aa]at q2
    split at q2
    ·rename_i hc;simp only[XM]at hc;obtain⟨⟨hc1,hc2⟩,hc3⟩:=hc;injection q2 with q2;have e1:=YJ hc2;subst e1;obtain⟨rs,e2,a2⟩:=FX (S:=Rp.rp Xt (max k d) .nil) (f:=aD (Hx.Xm h d n)) (λa b r=>Rp.Xm (n:=n) d r (by omega) (by omega)) q3;obtain⟨m,e3,l3⟩:=FZ (f:=il (gg aF)) (k:=max k d) (λa b r=>Rp.tag (n:=aF) r (by omega)) a2;refine⟨[.WO (Nat.max d m) (Rp.sz α) rs],?_,_,rfl,h0,?_⟩
     ·simp only[aD,Hx.Xm,hg,hc1,hc3,VT,q2,e2,jf,e3]
     ·refine⟨?_,.inl rfl,a2⟩;show max d m<=max k d;omega
    ·cases q2
   ·cases q2
  |_=>exact h1.elim
 same:=by
  rintro k h x cs n d ⟨v,rfl,-,h1⟩ hn;obtain⟨n,rfl⟩:∃m,n=m+1:=⟨n - 1,by omega⟩;cases v with
  |XC=>rfl
  |Wd=>rfl
  |WO t s rows=>rfl
  |Xj id ep off len lim=>exact h1.1.elim
  |_=>exact h1.elim
 ids:=by
  rintro P k h x cs n ⟨v,rfl,-,h1⟩ i hi;cases n with
  |zero=>simp[aL]at hi
  | succ n =>
   simp only[YL,YP,X6]at hi;cases v with
   | Xj id ep off len lim =>
    let⟨q1,rows,q2,q3⟩:=h1;unfold aL at hi;rcases Yh.1 hi with rfl|hi
    ·exact q1
    ·simp only[ak]at q2
     split at q2
     ·rename_i sz' rows' ep' lo fz hg;rw[aa]at q2
      split at q2
      ·injection q2 with q2;rw[hg]at hi;simp only[q2,ZF]at hi;let⟨row,hr,c,hc,hi⟩:=hi;let⟨a,r⟩:=IN q3 row hr;exact Rp.ids r i (ZF.2 ⟨c,hc,hi⟩)
      ·cases q2
     ·cases q2
   |XC=>simp[aL]at hi
   |Wd=>simp[aL]at hi
   |WO t s rows=>simp[aL]at hi
   |_=>exact h1.elim
 tag:=by
  rintro k h x cs n ⟨v,rfl,-,h1⟩ hn;obtain⟨n,rfl⟩:∃m,n=m+1:=⟨n - 1,by omega⟩;cases v with
  |XC=>exact⟨0,rfl,Yi _⟩
  |Wd=>exact⟨0,rfl,Yi _⟩
  |WO t s rows=>exact⟨t,by simp[il,gg],h1.1⟩
  |Xj id ep off len lim=>exact h1.1.elim
  |_=>exact h1.elim
def bo{α:Type} [Rp α]{l:List α}:Rp.rp P k h l cs↔∃v,cs=[v]/\Xu P k h l v:=Iff.rfl
def aK:Rp.rp P k h x cs↔cs=[.int .i64 x]:=by simp[Rp.rp]
def Hj{x:Nat}:Rp.rp P k h x cs↔cs=[.int .u64 (x:Int)]/\x<2^64:=by simp[Rp.rp]
def gD{x:Bool}:Rp.rp P k h x cs↔cs=[.bool x]:=by simp[Rp.rp]
def ea{x:UInt8}:Rp.rp P k h x cs↔cs=[.int .u8 (x.toNat:Int)]:=by simp[Rp.rp]
def Mr{α β:Type} [Rp α] [Rp β]{x:α×β}:Rp.rp P k h x cs↔∃a b,cs=a++b/\Rp.rp P k h x.1 a/\Rp.rp P k h x.2 b:=Iff.rfl
def Xu.ints(r:Xu P k h l v):ak h 1 v=some (l.map ci):=by let⟨rows,h1,h2⟩:=r.rows;rw[show (1:Nat)=Rp.sz Int from rfl,h1,h2.eq_map (f:=ci) λa b r=>aK.1 r]
def Xu.nats{l:List Nat}(r:Xu P k h l v):ak h 1 v=some (l.map cu):=by let⟨rows,h1,h2⟩:=r.rows;rw[show (1:Nat)=Rp.sz Nat from rfl,h1,h2.eq_map (f:=cu) λa b r=>(Hj.1 r).1]
def cw(t:T)(n m:Nat)(v:AV):Xs (eT t n v) m=if m=n then v else Xs t m:=Vc _ _ _ _ _
def dl(i:Nat)(v:AV)(vs:List AV)(t:T):bJ i (v::vs) t=bJ (i+1) vs (eT t i v):=rfl
def IY(a:AV)(t:T):bJ 0 [a] t=eT t 0 a:=rfl
def IZ(a b:AV)(t:T):bJ 0 [a,b] t=eT (eT t 0 a) 1 b:=rfl
def I3(a b c:AV)(t:T):bJ 0 [a,b,c] t=eT (eT (eT t 0 a) 1 b) 2 c:=rfl
def I4(a b c e:AV)(t:T):bJ 0 [a,b,c,e] t=eT (eT (eT (eT t 0 a) 1 b) 2 c) 3 e:=rfl
def D9(i:Nat)(t:T):bJ i [] t=t:=rfl
def MJ(m:Nat):Xs Tr.nil m=AV.undef:=VV _ _
def du(d:Nat)(t:T)(v:AV):vo (some d) t v=eT t d v:=rfl
def Io(t:T)(n:Nat):Od.get t (.t n)=Xs t n:=rfl
def TD(t:T)(v:AV):Od.get t (.k v)=v:=rfl
def Ip(t:T):fe t []=[]:=rfl
def FM(t:T)(o:Od)(os:List Od):fe t (o::os)=o.get t::fe t os:=rfl
def aY(h:H)(i:Nat)(o:Xh):(h.put i o).get i=o:=by rw[VO,XO rfl]
def aq{h:H}{i:Nat}{o:Xh}(hk:k≠i:=by omega):(h.put i o).get k=h.get k:=by rw[VO,XS hk]
def LF(k:Nat):G.empty.h.get k=Xh.none:=by simp[G.empty,H.get,VV]
def Ia:G.empty.nx=0:=rfl
def Mw(v:AV)(K:AV->G->Prop)(g:G)(D:Xo->Prop):(OR.val v).sat K g D=K v g:=rfl
def Mv(v:AV)(g':G)(K:AV->G->Prop)(g:G)(D:Xo->Prop):(OR.upd v g').sat K g D=K v g':=rfl
def I7(v:AV):VW (some v)=.val v:=rfl
def an(h:-2^63<=x:=by omega)(h':x<2^63:=by omega):IntKind.wrap .i64 x=x:=by
 by_cases h0:x<0
 ·exact Ap x h h0
 ·obtain⟨n,rfl⟩:=XU (show 0<=x by omega);exact pC n (by omega)
def xJ(h:0<=x)(h':x<2^64):IntKind.wrap .u64 x=x:=by simp only[IntKind.wrap,IntKind.bits,IntKind.signed,abB,ZR,if_false];exact aaQ h h'
def b_(k:IntKind):dA k k=true:=by cases k<;>rfl
def Lg(k:IntKind)(a b:Int):cL .add (.int k a) (.int k b)=.val (.int k (k.wrap (a+b))):=by simp only[cL,fZ,b_,jc];rfl
def Lr(k:IntKind)(a b:Int):cL .sub (.int k a) (.int k b)=.val (.int k (k.wrap (a - b))):=by simp only[cL,fZ,b_,jc];rfl
def Ln(k:IntKind)(a b:Int):cL .mul (.int k a) (.int k b)=.val (.int k (k.wrap (a*b))):=by simp only[cL,fZ,b_,jc];rfl
def Li(k:IntKind)(a b:Int):cL .eql (.int k a) (.int k b)=.val (.bool (decide (a=b))):=by simp only[cL,fZ,b_,Cp];rfl
def Lo(k:IntKind)(a b:Int):cL .neq (.int k a) (.int k b)=.val (.bool (!decide (a=b))):=by simp only[cL,fZ,b_,Cp,WU];rfl
def Lm(k:IntKind)(a b:Int):cL .lss (.int k a) (.int k b)=.val (.bool (decide (a<b))):=by simp only[cL,fZ,b_,nD];rfl
def Lk(k:IntKind)(a b:Int):cL .gtr (.int k a) (.int k b)=.val (.bool (decide (b<a))):=by simp only[cL,fZ,b_,nD];rfl
def Ll(k:IntKind)(a b:Int):cL .leq (.int k a) (.int k b)=.val (.bool (decide (a<=b))):=by
 simp only[cL,fZ,b_,nD,WU]
 by_cases h:b<a
 ·rw[Yj h,Yq (show ¬a<=b by omega)];rfl
 ·rw[Yq h,Yj (show a<=b by omega)];rfl
def Lj(k:IntKind)(a b:Int):cL .geq (.int k a) (.int k b)=.val (.bool (decide (b<=a))):=by
 simp only[cL,fZ,b_,nD,WU]
 by_cases h:a<b
 ·rw[Yj h,Yq (show ¬b<=a by omega)];rfl
 ·rw[Yq h,Yj (show b<=a by omega)];rfl
def Lp(k:IntKind){a b:Int}(ha:0<=a)(hb:0<b):cL .quo (.int k a) (.int k b)=.val (.int k (k.wrap (a / b))):=by obtain⟨m,rfl⟩:=XU ha;obtain⟨n,rfl⟩:=XU (show 0<=b by omega);obtain⟨n,rfl⟩:∃j,n=j+1:=⟨n - 1,by omega⟩;simp only[cL,fZ,b_];show VW (SJ k (.ofNat m) (.ofNat (n+1)))=_;simp only[SJ,jc];rfl
def ef(k:IntKind){a b:Int}(ha:0<=a)(hb:0<b):cL .rem (.int k a) (.int k b)=.val (.int k (a % b)):=by obtain⟨m,rfl⟩:=XU ha;obtain⟨n,rfl⟩:=XU (show 0<=b by omega);obtain⟨n,rfl⟩:∃j,n=j+1:=⟨n - 1,by omega⟩;simp only[cL,fZ,b_];show VW (SV k (.ofNat m) (.ofNat (n+1)))=_;simp only[SV];rfl
def RM(k':IntKind)(m n:Nat):cL .shl (.int .u64 (m:Int)) (.int k' (n:Int))=.val (.int .u64 ((m*2 ^ n % 18446744073709551616:Nat):Int)):=by
 show VW (Q4 .u64 (.ofNat m) (.ofNat n))=_;simp only[Q4,IntKind.bits];show OR.val (.int .u64 (xf .u64 (.ofNat (m*2 ^ (Nat.min n 64)))))=_;simp only[xf];congr 2;show ((m*2 ^ (min n 64) % 18446744073709551616:Nat):Int)=_
 by_cases h:n<=64
 ·rw[YG h]
 ·rw[Nat.min_eq_right (by omega)];obtain⟨j,rfl⟩:∃j,n=64+j:=⟨n - 64,by omega⟩;rw[abZ,show (18446744073709551616:Nat)=2 ^ 64 from rfl,Nat.mul_mod_left,<-aaD,Zm (m*2 ^ 64),<-aaD,Nat.mul_mod_left]
def Lq(k':IntKind)(m n:Nat)(h:m<2^64):cL .shr (.int .u64 (m:Int)) (.int k' (n:Int))=.val (.int .u64 ((m / 2 ^ n:Nat):Int)):=by
 show VW (Q5 .u64 (.ofNat m) (.ofNat n))=_;simp only[Q5,IntKind.bits];show OR.val (.int .u64 (.ofNat (m / 2 ^ (Nat.min n 64))))=_;congr 2;show ((m / 2 ^ (min n 64):Nat):Int)=_
 by_cases h2:n<=64
 ·rw[YG h2]
 ·rw[Nat.min_eq_right (by omega)];obtain⟨j,rfl⟩:∃j,n=64+j:=⟨n - 64,by omega⟩;rw[abZ,<-Y1,show (2 ^ 64:Nat)=18446744073709551616 from rfl,Zw h,Nat.zero_div]
def Be(h:m<2^64)(h':n<2^64):nG .u64 m n=true:=by simp only[nG,XM,YM];exact⟨h,h'⟩
def Gx(m n:Nat)(h:m<2^64)(h':n<2^64):cL .or (.int .u64 (m:Int)) (.int .u64 (n:Int))=.val (.int .u64 ((m ||| n:Nat):Int)):=by show VW (ax (nG .u64 m n) _ _)=_;rw[Be h h'];rfl
def Lh(m n:Nat)(h:m<2^64)(h':n<2^64):cL .and (.int .u64 (m:Int)) (.int .u64 (n:Int))=.val (.int .u64 ((m &&& n:Nat):Int)):=by show VW (ax (nG .u64 m n) _ _)=_;rw[Be h h'];rfl
def JW(m n:Nat)(h:m<2^64)(h':n<2^64):cL .andNot (.int .u64 (m:Int)) (.int .u64 (n:Int))=.val (.int .u64 ((m ^^^ (m &&& n):Nat):Int)):=by show VW (ax (nG .u64 m n) _ _)=_;rw[Be h h'];rfl
def Me(h:m<2^64)(h':n<2^64):m ||| n<2^64:=aaU (n:=64) h h'
def IW(b:Bool):Sy (.bool b)=.val (.bool (!b)):=by simp only[Sy,WU]
def H0(k k':IntKind)(a:Int):Lw k (.int k' a)=.val (.int k (k.wrap a)):=by simp only[Lw,jc]
def Qw(a b:AV):Mh (.bool true) a b=.val a:=rfl
def Qv(a b:AV):Mh (.bool false) a b=.val b:=rfl
def Qd(k:IntKind)(a b:Int):mxV (.int k a) (.int k b)=.val (.int k (max a b)):=by
 simp only[mxV,b_,nD]
 by_cases h:a<b
 ·rw[Yj h,Int.max_eq_right (by omega)]
 ·rw[Yq h,Int.max_eq_left (by omega)]
def Qa(k:IntKind)(a b:Int):mnV (.int k a) (.int k b)=.val (.int k (min a b)):=by
 simp only[mnV,b_,nD]
 by_cases h:b<a
 ·rw[Yj h,Int.min_eq_right (by omega)]
 ·rw[Yq h,Int.min_eq_left (by omega)]
def jK(sz:Nat)(v:AV)(i off:Nat):AV :=
 match v with
 |.WO l _ rows=>.Xn l sz rows i off
 |.Xj id ep o _ _=>.W9 id ep (o+i) off
 |_=>.undef
def P6{sz:Nat}{rows:List (List AV)}(h:ak g.h sz v=some rows):bC .slice v g=.val (.int .i64 (rows.length:Int)):=by
 unfold ak at h
 split at h
 ·cases h;rfl
 ·cases h;rfl
 ·rw[aa]at h
  split at h
  ·cases h;simp only[bC,ay];rfl
  ·cases h
 ·split at h
  ·rw[aa]at h
   split at h
   ·rename_i hc;cases h;simp only[XM,Yt,ay]at hc;simp only[bC,bI,bK,X5,ZD];congr 3;rw[YG (by omega)]
   ·cases h
  ·cases h
 ·cases h
def bQ{sz:Nat}{rows:List (List AV)}(hv:ak h sz v=some rows)(g:G):bC .slice v g=.val (.int .i64 (rows.length:Int)) :=(show bC .slice v g=bC .slice v ⟨h,0,[]⟩ from by cases v<;>rfl).trans (P6 hv)
def PU{sz:Nat}{rows:List (List AV)}{k:IntKind}{i:Int}(h:ak g.h sz v=some rows)(h0:0<=i)(hi:i<rows.length) :
  Fi sz v (.int k i) g=.val (jK sz v i.toNat 0):=by
 obtain⟨n,rfl⟩:=XU h0;have hi:n<rows.length:=by omega
 show Fi sz v (.int k (.ofNat n)) g=.val (jK sz v n 0);unfold ak at h
 split at h
 ·cases h;simp at hi
 ·injection h with h;subst h;simp at hi
 ·rw[aa]at h
  split at h
  ·rename_i hc;injection h with h;subst h;rename_i sz' rows _;have:Nat.beq sz sz'=true:=by
    simp only[YE,List.isEmpty_iff]at hc;rcases hc with hc|hc
    ·exact hc
    ·rw[hc]at hi;simp at hi
   simp only[Fi,iY,this,ay,YO,aa,YM,XO hi,jK]
  ·cases h
 ·split at h
  ·rename_i sz' rows' ep' lo fz hg;rw[aa]at h
   split at h
   ·rename_i hc;cases h;simp only[XM]at hc;simp only[bI,bK,X5,ZD]at hi;simp only[Fi,iY,G.get_eq,hg,hc.1.1,hc.1.2,YO,aa,YM];rw[dk];rfl
   ·cases h
  ·cases h
 ·cases h
def NE{sz:Nat}{rows:List (List AV)}{ag:Bool}(h:ak g.h sz v=some rows)(hr:rows[i]?=some row) :
  uW ag n (jK sz v i off) g=VW (cD ag n row off):=by
 unfold ak at h
 split at h
 ·cases h;simp at hr
 ·cases h;simp at hr
 ·rw[aa]at h
  split at h
  ·cases h;simp only[uW,pj,jK,gy,hr]
  ·cases h
 ·split at h
  ·rename_i sz' rows' ep' lo fz hg;rw[aa]at h
   split at h
   ·rename_i hc;cases h;simp only[XM]at hc;simp only[bI,bK,ZC,YH]at hr
    split at hr
    ·simp only[uW,pj,jK,G.get_eq,hg,hc.1.1,gy,hr]
    ·cases hr
   ·cases h
  ·cases h
 ·cases h
def Ij(fo id ep i off:Nat):GO fo (.W9 id ep i off)=.val (.W9 id ep i (off+fo)):=rfl
def I_:cD false n row off=row[off]?:=by simp only[cD,gy]
def Qu(h:off+n<=row.length):cD true n row off=some (.agg ((row.drop off).take n)):=by simp only[cD,bI,bK,ay,X5,ZD,aa];rw[XO];rw[YG (by omega)];exact Yl n
def ED{id ep sz:Nat}{rows:List (List AV)}{lo:Bool}{row':List AV}{x:AV}(hg:g.h.get id=.cells sz rows ep lo false)(hr:rows[i]?=some row)
  (hc:x.cells=cs) (ht:x.isTup=false) (hl:cs.length=n) (hp:cN row off cs=some row') :
  pA n (.W9 id ep i off) x g=.upd .undef (g.put id (.cells sz (rows.set i row') ep lo false)):=by
 subst hc;simp only[pA,rj,G.get_eq,hg,gy,hr,show Nat.beq ep ep=true from Yl ep,ay,hl,show Nat.beq n n=true from Yl n,ht,WU,ZK,VT,hp,kK]
def Cm(o:Xh)(ep off len sz:Nat):Option (List (List AV)) :=
 match o with
 |.cells sz' rows ep' _ _=>ax (Nat.beq ep ep'&&Nat.beq sz sz'&&Nat.ble (off+len) (bD rows)) (some (h_ len (gG off rows))) none
 |_=>none
def BB(h:H)(sz:Nat):ak h sz .XC=some []:=rfl
def uh(h:H)(sz t:Nat)(rows:List (List AV)):ak h sz (.WO t sz rows)=some rows:=by simp only[ak,show Nat.beq sz sz=true from Yl sz,ZV]
def bi(h:H)(sz id ep off len:Nat)(lim:Option Nat):ak h sz (.Xj id ep off len lim)=Cm (h.get id) ep off len sz:=rfl
def ck(sz:Nat)(rows:List (List AV))(ep:Nat)(lo fz:Bool)(off len:Nat) :
  Cm (.cells sz rows ep lo fz) ep off len sz=if off+len<=rows.length then some ((rows.drop off).take len) else none:=by
 simp only[Cm,show Nat.beq sz sz=true from Yl sz,show Nat.beq ep ep=true from Yl ep,YO,aa,Yt,ay,bI,bK]
def Bt(sz:Nat)(rows:List (List AV))(ep:Nat)(lo fz:Bool):Cm (.cells sz rows ep lo fz) ep 0 rows.length sz=some rows:=by rw[ck,dk];simp
def a_(o:Xh)(ep i:Nat)(ag:Bool)(n off:Nat):OR :=
 match o with
 |.cells _ rows ep' _ _=>ax (Nat.beq ep ep') (match rows[i]? with|some row=>VW (cD ag n row off)|none=>.fail) .fail
 |_=>.fail
def DV(g:G)(id ep i off n:Nat)(ag:Bool):uW ag n (.W9 id ep i off) g=a_ (g.h.get id) ep i ag n off:=by
 simp only[uW,pj,G.get_eq,a_,gy]
 rfl
def wK(sz:Nat)(rows:List (List AV))(ep:Nat)(lo fz:Bool)(i n off:Nat)(ag:Bool) :
  a_ (.cells sz rows ep lo fz) ep i ag n off=match rows[i]? with|some row=>VW (cD ag n row off)|none=>.fail:=by
 simp only[a_,show Nat.beq ep ep=true from Yl ep]
def dt(o:Xh)(g:G)(id ep i n off:Nat)(x:AV):OR :=
 match o with
 | .cells sz rows ep' lo fz=>ax (Nat.beq ep ep'&&Nat.beq x.cells.length n&&m_ fz&&m_ x.isTup) (match rows[i]? with
   | some row=>match cN row off x.cells with
    |some row'=>.upd .undef (g.put id (.cells sz (rows.set i row') ep lo fz))
    |none=>.fail
   |none=>.fail) .fail
 |_=>.fail
def BH(g:G)(id ep i off n:Nat)(x:AV):pA n (.W9 id ep i off) x g=dt (g.h.get id) g id ep i n off x:=by
 simp only[pA,rj,G.get_eq,dt,gy,ay,kK]
 rfl
def dL(sz:Nat)(rows:List (List AV))(ep:Nat)(lo:Bool)(g:G)(id i n off:Nat)(x:AV)(hl:x.cells.length=n)(ht:x.isTup=false) :
  dt (.cells sz rows ep lo false) g id ep i n off x=match rows[i]? with
   | some row=>match cN row off x.cells with
    |some row'=>.upd .undef (g.put id (.cells sz (rows.set i row') ep lo false))
    |none=>.fail
   |none=>.fail:=by
 simp only[dt,show Nat.beq ep ep=true from Yl ep,hl,show Nat.beq n n=true from Yl n,ht,WU,ZK,VT]
def FW{sz:Nat}{ag:Bool}(h:(ak g.h sz v).isSome=true)(hi:i<((ak g.h sz v).getD []).length) :
  uW ag n (jK sz v i off) g=VW (cD ag n (((ak g.h sz v).getD [])[i]?.getD []) off):=by
 let⟨rows,hr⟩:=abm.1 h;rw[hr]at hi ⊢;simp only[XP]at hi ⊢;rw[NE hr (XJ hi),XJ hi,XP]
def IA{sz:Nat}{k:IntKind}{i:Int}(h:(ak g.h sz v).isSome=true)(h0:0<=i)(hi:i<((ak g.h sz v).getD []).length) :
  Fi sz v (.int k i) g=.val (jK sz v i.toNat 0):=by
 let⟨rows,hr⟩:=abm.1 h;rw[hr]at hi;exact PU hr h0 hi
def LP{sz:Nat}{k:IntKind}(h:(ak g.h sz v).isSome=true)(hi:i<((ak g.h sz v).getD []).length) :
  Fi sz v (.int k (i:Int)) g=.val (jK sz v i 0):=IA h (ZS i) (by omega)
def px:AV->Bool
 |.WO ..|.Xj ..=>true
 |_=>false
def bT{sz:Nat}{fo:Nat}(h:px v=true):GO fo (jK sz v i off)=.val (jK sz v i (off+fo)):=by cases v<;>first|rfl|cases h
def Cz{sz:Nat}{rows:List (List AV)}(hv:ak h sz v=some rows)(hi:i<rows.length):px v=true:=by
 unfold ak at hv
 split at hv
 ·injection hv with h;subst h;simp at hi
 ·injection hv with h;subst h;simp at hi
 ·rfl
 ·rfl
 ·cases hv
def q9(h:H)(v:AV):List Int:=((ak h 1 v).getD []).map λr=>match r with|[.int _ x]=>x|_=>0
def DH(h:H)(v:AV):Prop:=ak h 1 v=some ((q9 h v).map ci)
def PP(l:List Int):(l.map ci).map (λr=>match r with|[.int _ x]=>x|_=>0)=l:=by
 induction l with
 |nil=>rfl
 |cons a l ih=>simp only[Z7,ih,ci]
def LL(hv:ak h 1 v=some (l.map ci)):q9 h v=l:=by simp only[q9,hv,XP,PP]
def Nz(hv:ak h 1 v=some (l.map ci)):DH h v:=by unfold DH;rw[LL hv,hv]
def TJ{α:Type}(a:α)(l:List α):(a::l)[0]?=some a:=rfl
def TK{α:Type}(a b:α)(l:List α):(a::b::l)[1]?=some b:=rfl
def TL{α:Type}(a b c:α)(l:List α):(a::b::c::l)[2]?=some c:=rfl
def TM{α:Type}(a b c e:α)(l:List α):(a::b::c::e::l)[3]?=some e:=rfl
def TN{α:Type}(a b c e p:α)(l:List α):(a::b::c::e::p::l)[4]?=some p:=rfl
def TO{α:Type}(a b c e p q:α)(l:List α):(a::b::c::e::p::q::l)[5]?=some q:=rfl
def TP{α:Type}(a b c e p q r:α)(l:List α):(a::b::c::e::p::q::r::l)[6]?=some r:=rfl
def TQ{α:Type}(a b c e p q r s:α)(l:List α):(a::b::c::e::p::q::r::s::l)[7]?=some s:=rfl
def TS{α:Type}(a b c e p q r s u:α)(l:List α):(a::b::c::e::p::q::r::s::u::l)[8]?=some u:=rfl
@[reducible] def o (d:Nat) (op:SO):SI:=⟨some d,none,op⟩
@[reducible] def oz (op:SO):SI:=⟨none,none,op⟩
@[reducible] def og (d s:Nat) (w:Bool) (op:SO):SI:=⟨some d,some (s,w),op⟩
@[reducible] def ozg (s:Nat) (w:Bool) (op:SO):SI:=⟨none,some (s,w),op⟩
section steps
variable {C:Xg}{d:Nat}{rd:Option Nat}
def CE(Q:QT)(t:T)(df:List Xo)(g:G):wp C d rd .skip Q t df g=Q .norm t df g:=rfl
def HE(l:List SI)(Q:QT)(t:T)(df:List Xo)(g:G):wp C d rd (.ops l) Q t df g=Qz C d rd l (Q .norm) t df g:=rfl
def JM(l:List SI)(Q:QT)(t:T)(df:List Xo)(g:G):wp C d rd (.quiet l) Q t df g=Qz C d rd l (kQ g Q) t df (aQ g []):=rfl
def MR(pm:List Nat)(l:List SI)(Q:QT)(t:T)(df:List Xo)(g:G):wp C d rd (.W6 pm l) Q t df g=Q9 C d rd pm l (Q .norm) t df g []:=rfl
def cX(a b:SC)(Q:QT)(t:T)(df:List Xo)(g:G):wp C d rd (.seq a b) Q t df g=wp C d rd a (kS (wp C d rd b Q) Q) t df g:=rfl
def MO(c:Od)(a b:SC)(Q:QT)(t:T)(df:List Xo)(g:G):wp C d rd (.cond c a b) Q t df g=wpC (c.get t) (wp C d rd a Q) (wp C d rd b Q) t df g:=rfl
def EJ(id:Nat)(b:SC)(Q:QT)(t:T)(df:List Xo)(g:G):wp C d rd (.blk id b) Q t df g=wp C d rd b (kB id Q) t df g:=rfl
def Ao(b:SC)(Q:QT)(t:T)(df:List Xo)(g:G):wp C d rd (.loop b) Q t df g=VY (wp C d rd b) Q t df g:=rfl
def MQ(id:Nat)(Q:QT)(t:T)(df:List Xo)(g:G):wp C d rd (.exit id) Q t df g=Q (.exit id) t df g:=rfl
def Rz(Q:QT)(t:T)(df:List Xo)(g:G):wp C d rd .ret Q t df g=Q .ret t df g:=rfl
def TG(g0:G)(Q:QT)(t:T)(df:List Xo)(g:G):kQ g0 Q t df g=(g.lg=[]/\g.nx=g0.nx/\Q .norm t df g0):=rfl
def MM(Q:PT)(t:T)(df:List Xo)(g:G):Qz C d rd [] Q t df g=Q t df g:=rfl
def TV(n:Nat)(op:SO)(r:List SI)(Q:PT)(t:T)(df:List Xo)(g:G) :
  Qz C d rd (o n op::r) Q t df g=(op.run C d rd t g).sat (kO (Qz C d rd r Q) (some n) t df) g (kD (Qz C d rd r Q) (some n) t df g):=rfl
def Ru(op:SO)(r:List SI)(Q:PT)(t:T)(df:List Xo)(g:G) :
  Qz C d rd (oz op::r) Q t df g=(op.run C d rd t g).sat (kO (Qz C d rd r Q) none t df) g (kD (Qz C d rd r Q) none t df g):=rfl
def Rr(n s:Nat)(w:Bool)(op:SO)(r:List SI)(Q:PT)(t:T)(df:List Xo)(g:G) :
  Qz C d rd (og n s w op::r) Q t df g=RI (Xs t s) w (vq C d rd (o n op) (Qz C d rd r Q)) (BF (o n op) (Qz C d rd r Q)) t df g:=rfl
def MN(s:Nat)(w:Bool)(op:SO)(r:List SI)(Q:PT)(t:T)(df:List Xo)(g:G) :
  Qz C d rd (ozg s w op::r) Q t df g=RI (Xs t s) w (vq C d rd (oz op) (Qz C d rd r Q)) (BF (oz op) (Qz C d rd r Q)) t df g:=rfl
def Q0(n:Nat)(op:SO)(W:PT)(t:T)(df:List Xo)(g:G):vq C d rd (o n op) W t df g=(op.run C d rd t g).sat (kO W (some n) t df) g (kD W (some n) t df g):=rfl
def Mt(op:SO)(W:PT)(t:T)(df:List Xo)(g:G):vq C d rd (oz op) W t df g=(op.run C d rd t g).sat (kO W none t df) g (kD W none t df g):=rfl
def MB(n:Nat)(op:SO)(W:PT)(t:T)(df:List Xo)(g:G):BF (o n op) W t df g=W (eT t n .undef) df g:=rfl
def Jv(op:SO)(W:PT)(t:T)(df:List Xo)(g:G):BF (oz op) W t df g=W t df g:=rfl
def LZ(W:PT)(n:Nat)(t:T)(df:List Xo)(v:AV)(g:G):kO W (some n) t df v g=W (eT t n v) df g:=rfl
def LY(W:PT)(t:T)(df:List Xo)(v:AV)(g:G):kO W none t df v g=W t df g:=rfl
def TC(q:Bool)(A B:PT)(t:T)(df:List Xo)(g:G):RI (.bool q) true A B t df g=Au q A B t df g:=rfl
def TB(q:Bool)(A B:PT)(t:T)(df:List Xo)(g:G):RI (.bool q) false A B t df g=Au q B A t df g:=rfl
def FL(w:Bool)(A B:PT)(t:T)(df:List Xo)(g:G):RI (.WM []) w A B t df g=B t df g:=rfl
def Fs(A B:PT)(t:T)(df:List Xo)(g:G):Au true A B t df g=A t df g:=by simp[Au]
def CM(A B:PT)(t:T)(df:List Xo)(g:G):Au false A B t df g=B t df g:=by simp[Au]
def JI(q:Bool)(A B:PT)(t:T)(df:List Xo)(g:G):wpC (.bool q) A B t df g=Au q A B t df g:=rfl
def xr(W:PT)(Q:QT)(t:T)(df:List Xo)(g:G):kS W Q .norm t df g=W t df g:=rfl
def L3(W:PT)(Q:QT)(id:Nat)(t:T)(df:List Xo)(g:G):kS W Q (.exit id) t df g=Q (.exit id) t df g:=rfl
def PZ(W:PT)(Q:QT)(t:T)(df:List Xo)(g:G):kS W Q .ret t df g=Q .ret t df g:=rfl
def GW(id:Nat)(Q:QT)(t:T)(df:List Xo)(g:G):kB id Q .norm t df g=Q .norm t df g:=rfl
def PW(id:Nat)(Q:QT)(t:T)(df:List Xo)(g:G):kB id Q .ret t df g=Q .ret t df g:=rfl
def Sj(id:Nat)(Q:QT)(t:T)(df:List Xo)(g:G):kB id Q (.exit id) t df g=Q .norm t df g:=by simp[kB]
def PV(id j:Nat)(Q:QT)(t:T)(df:List Xo)(g:G)(h:j≠id):kB id Q (.exit j) t df g=Q (.exit j) t df g:=by simp only[kB];rw[aa,XS (λe=>h (YJ e))]
def t_(id j:Nat)(Q:QT)(t:T)(df:List Xo)(g:G):kB id Q (.exit j) t df g=if j=id then Q .norm t df g else Q (.exit j) t df g:=by
 by_cases h:j=id
 ·subst h;rw[Sj,XO rfl]
 ·rw[PV _ _ _ _ _ _ h,XS h]
def LV(Inv:Nat->PT)(k:Nat)(Q:QT)(t:T)(df:List Xo)(g:G):kL Inv k Q .norm t df g=∃k',k'<k/\Inv k' t df g:=rfl
def LU(Inv:Nat->PT)(k:Nat)(Q:QT)(id:Nat)(t:T)(df:List Xo)(g:G):kL Inv k Q (.exit id) t df g=Q (.exit id) t df g:=rfl
def PX(Inv:Nat->PT)(k:Nat)(Q:QT)(t:T)(df:List Xo)(g:G):kL Inv k Q .ret t df g=Q .ret t df g:=rfl
def bk{q:Bool}{A B:PT}(h1:q=true->A t df g)(h2:q=false->B t df g):Au q A B t df g:=⟨h1,h2⟩
def Dx(r:List SR)(K:AV->G->Prop)(t:T)(df:List Xo)(g:G):Sb C d r K .norm t df g=mN C d r t df g K:=rfl
def GQ(r:List SR)(K:AV->G->Prop)(t:T)(df:List Xo)(g:G):Sb C d r K .ret t df g=mN C d r t df g K:=rfl
def Ib(r:List SR)(K:AV->G->Prop)(t:T)(g:G):mN C d r t [] g K=vp r t g λvs=>K (fg vs) g:=rfl
def Jm(t:T)(g:G)(K:List AV->Prop):vp [] t g K=K []:=rfl
def Mp(n:Nat)(r:List SR)(t:T)(g:G)(K:List AV->Prop):vp (.tm n::r) t g K=vp r t g λvs=>K (Xs t n::vs):=rfl
def zY(v:AV):fg [v]=v:=rfl
def gi{W:QT->PT}{Q:QT}(Inv:Nat->PT)(k:Nat)(h0:Inv k t df g)(h:∀k t df g,Inv k t df g->W (kL Inv k Q) t df g):VY W Q t df g:=⟨Inv,⟨k,h0⟩,h⟩
end steps
theorem sx:type_of% (XG @MM <|XG @TV <|XG @Ru <|XG @Rr <|XG @MN <|XG @Q0 <|XG @Mt <|XG @MB <|XG @Jv <|
 XG @LZ <|XG @LY <|XG @TC <|XG @TB <|XG @FL <|XG @Fs <|XG @CM <|XG @JI <|XG @xr <|XG @L3 <|XG @PZ <|
 XG @GW <|XG @PW <|XG @t_ <|XG @LV <|XG @LU <|XG @PX <|XG @Dx <|XG @GQ <|XG @Ib <|XG @Jm <|XG @Mp <|
 XG @zY <|XG @cw <|XG @IY <|XG @IZ <|XG @I3 <|XG @I4 <|XG @CE <|XG @HE <|XG @JM <|XG @MR <|XG @cX <|XG @MO <|XG @EJ <|XG @Ao <|XG @MQ <|XG @Rz <|XG @D9 <|XG @MJ <|XG @Io <|XG @TD <|XG @Ip <|XG @FM <|XG @Mw <|XG @Mv <|XG @I7 <|
 XG @Lg <|XG @Lr <|XG @Ln <|XG @Li <|XG @Lo <|XG @Lm <|XG @Lk <|XG @Ll <|XG @Lj <|XG @IW <|XG @H0 <|XG @Qw <|XG @Qv <|
 XG @Qd <|XG @Qa <|XG @Ij <|XG @DV <|XG @wK <|XG @BH <|XG @I_ <|XG @FW <|XG @bT <|XG @LP <|
 XG @TJ <|XG @TK <|XG @TL <|XG @TM <|XG @TN <|XG @TO <|XG @TP <|XG @TQ <|XG @TS <|XG @G.put_h <|XG @G.put_nx <|XG @G.new_h <|XG @G.new_nx <|XG @aY <|XG @Ia <|@LF) :=
 XG @MM <|XG @TV <|XG @Ru <|XG @Rr <|XG @MN <|XG @Q0 <|XG @Mt <|XG @MB <|XG @Jv <|
 XG @LZ <|XG @LY <|XG @TC <|XG @TB <|XG @FL <|XG @Fs <|XG @CM <|XG @JI <|XG @xr <|XG @L3 <|XG @PZ <|
 XG @GW <|XG @PW <|XG @t_ <|XG @LV <|XG @LU <|XG @PX <|XG @Dx <|XG @GQ <|XG @Ib <|XG @Jm <|XG @Mp <|
 XG @zY <|XG @cw <|XG @IY <|XG @IZ <|XG @I3 <|XG @I4 <|XG @CE <|XG @HE <|XG @JM <|XG @MR <|XG @cX <|XG @MO <|XG @EJ <|XG @Ao <|XG @MQ <|XG @Rz <|XG @D9 <|XG @MJ <|XG @Io <|XG @TD <|XG @Ip <|XG @FM <|XG @Mw <|XG @Mv <|XG @I7 <|
 XG @Lg <|XG @Lr <|XG @Ln <|XG @Li <|XG @Lo <|XG @Lm <|XG @Lk <|XG @Ll <|XG @Lj <|XG @IW <|XG @H0 <|XG @Qw <|XG @Qv <|
 XG @Qd <|XG @Qa <|XG @Ij <|XG @DV <|XG @wK <|XG @BH <|XG @I_ <|XG @FW <|XG @bT <|XG @LP <|
 XG @TJ <|XG @TK <|XG @TL <|XG @TM <|XG @TN <|XG @TO <|XG @TP <|XG @TQ <|XG @TS <|XG @G.put_h <|XG @G.put_nx <|XG @G.new_h <|XG @G.new_nx <|XG @aY <|XG @Ia <|@LF
def St(t:T):List (Nat×AV)->Prop
 |[]=>True
 | (n,v)::r=>Xs t n=v/\St t r
abbrev VS:=(Nat->Prop)->Nat->H->AV->Prop
def One{α:Type} [Rp α](x:α):VS:=λP k h v=>Rp.rp P k h x [v]
def WG{α:Type} [Rp α](x:α):VS:=λP k h v=>∃cs,v=.agg cs/\Rp.rp P k h x cs
def CH(S R:VS):VS:=λP k h v=>∃a b,v=.WM [a,b]/\S P k h a/\R P k h b
def T2(S R U:VS):VS:=λP k h v=>∃a b c,v=.WM [a,b,c]/\S P k h a/\R P k h b/\U P k h c
structure Q6 (S:VS) (j:Nat):Prop where
 Xm:∀{P k h v n} (d:Nat),S P k h v->20+j<=n->∃v',Hx.Xm h d n v=some v'/\S Xt (max k d) .nil v'
 tag:∀{k h v n},S Xt k h v->20+j<=n->∃m,gg n v=some m/\m<=k
def aI{α:Type} [Rp α](x:α)(hd:Rp.dp α<=20:=by decide):Q6 (One x) 0:=by
 refine⟨λ{P k h v n} d r hn=>?_,λ{k h v n} r hn=>?_⟩
 ·obtain⟨cs',e,r'⟩:=Rp.Xm (n:=n) d r (by omega) (by show _<=24;omega);simp only[aD]at e
  split at e
  ·rename_i w hw;injection e with e;subst e;exact⟨w,hw,r'⟩
  ·cases e
 ·obtain⟨m,e,l⟩:=Rp.tag (n:=n) r (by omega);simp only[il]at e
  split at e
  ·rename_i w hw;injection e with e;subst e;exact⟨w,hw,by have:Nat.max w 0=w:=aa8 (Yi w);omega⟩
  ·cases e
def di{α:Type} [Rp α](x:α)(hd:Rp.dp α<=20:=by decide):Q6 (WG x) 1:=by
 refine⟨λ{P k h v n} d r hn=>?_,λ{k h v n} r hn=>?_⟩
 ·obtain⟨cs,rfl,r⟩:=r;obtain⟨n,rfl⟩:∃m,n=m+1:=⟨n - 1,by omega⟩;obtain⟨cs',e,r'⟩:=Rp.Xm (n:=n) d r (by omega) (by show _<=24;omega);exact⟨.agg cs',by simp only[Hx.Xm,e],cs',rfl,r'⟩
 ·obtain⟨cs,rfl,r⟩:=r;obtain⟨n,rfl⟩:∃m,n=m+1:=⟨n - 1,by omega⟩;obtain⟨m,e,l⟩:=Rp.tag (n:=n) r (by omega);exact⟨m,by simp only[gg,e],l⟩
theorem jb{S R:VS}(hs:Q6 S i)(hr:Q6 R j)(hi:i+1<=m)(hj:j+1<=m):Q6 (CH S R) m:=by
 refine⟨λ{P k h v n} d r hn=>?_,λ{k h v n} r hn=>?_⟩
 ·obtain⟨a,b,rfl,c,f⟩:=r;obtain⟨n,rfl⟩:∃m,n=m+1:=⟨n - 1,by omega⟩;obtain⟨a',e1,e⟩:=hs.Xm (n:=n) d c (by omega);obtain⟨b',e2,l⟩:=hr.Xm (n:=n) d f (by omega);exact⟨.WM [a',b'],by simp only[Hx.Xm,aD,e1,e2],a',b',rfl,e,l⟩
 ·obtain⟨a,b,rfl,c,f⟩:=r;obtain⟨n,rfl⟩:∃m,n=m+1:=⟨n - 1,by omega⟩;obtain⟨o,e1,l1⟩:=hs.tag (n:=n) c (by omega);obtain⟨p,e2,l2⟩:=hr.tag (n:=n) f (by omega);refine⟨max o p,?_,by omega⟩;simp only[gg,il,e1,e2];congr 1;show max o (max p 0)=_;omega
theorem Jx{S R U:VS}{l:Nat}(hs:Q6 S i)(hr:Q6 R j)(hu:Q6 U l)(hi:i+1<=m)(hj:j+1<=m)(hl:l+1<=m):Q6 (T2 S R U) m:=by
 refine⟨λ{P k h v n} d r hn=>?_,λ{k h v n} r hn=>?_⟩
 ·obtain⟨a,b,c,rfl,e,o,q⟩:=r;obtain⟨n,rfl⟩:∃m,n=m+1:=⟨n - 1,by omega⟩;obtain⟨a',e1,f⟩:=hs.Xm (n:=n) d e (by omega);obtain⟨b',e2,p⟩:=hr.Xm (n:=n) d o (by omega);obtain⟨c',e3,s⟩:=hu.Xm (n:=n) d q (by omega);exact⟨.WM [a',b',c'],by simp only[Hx.Xm,aD,e1,e2,e3],a',b',c',rfl,f,p,s⟩
 ·obtain⟨a,b,c,rfl,e,o,q⟩:=r;obtain⟨n,rfl⟩:∃m,n=m+1:=⟨n - 1,by omega⟩;obtain⟨t,e1,l1⟩:=hs.tag (n:=n) e (by omega);obtain⟨u,e2,l2⟩:=hr.tag (n:=n) o (by omega);obtain⟨w,e3,x⟩:=hu.tag (n:=n) q (by omega);refine⟨max t (max u w),?_,by omega⟩;simp only[gg,il,e1,e2,e3];congr 1;show max t (max u (max w 0))=_;omega
def Arg(S:VS)(k d:Nat)(h:H)(v v':AV):Prop:=Hx.Xm h d aF v=some v'/\S Xt k .nil v'
def mK{S:VS}(hs:Q6 S j)(hj:j<=4)(d:Nat)(r:S P k h v):∃v',Arg S (max k d) d h v v':=by let⟨v',e,r'⟩:=hs.Xm (n:=aF) d r (by show _<=24;omega);exact⟨v',e,r'⟩
def jM{α:Type} [Rp α]{x:α}(d:Nat)(r:WG x Xt k h v)(hd:Rp.dp α<=20:=by decide):Hx.Xm h d aF v=some v:=by obtain⟨cs,rfl,r⟩:=r;show (match aD (Hx.Xm h d 23) cs with|some as=>some (AV.agg as)|none=>none)=_;rw[Rp.same (n:=23) d r (by omega)]
def mc{α:Type} [Rp α]{l:List α}(d:Nat)(r:Xu Xt k h l v):Hx.Xm h d aF v=some v:=by
 have r:=r.2;unfold Oe at r
 split at r<;>first|rfl|exact r.1.elim|exact r.elim
def cP(k d:Nat)(h:H)(q:IntKind)(x:Int):Hx.Xm h d aF (.int q x)=some (.int q x):=rfl
def Oy(k d:Nat)(h:H)(x:Bool):Hx.Xm h d aF (.bool x)=some (.bool x):=rfl
def Oz(hv:DH h v)(hl:(q9 h v).length<2^63)(d:Nat) :
  ∃v',Hx.Xm h d aF v=some v'/\(∀h',ak h' 1 v'=some ((q9 h v).map ci))/\∀g,bC .slice v' g=.val (.int .i64 ((q9 h v).length:Int)):=by
 suffices hs:∃v',Hx.Xm h d aF v=some v'/\(∀h',ak h' 1 v'=some ((q9 h v).map ci)) by obtain⟨v',e,hr⟩:=hs;exact⟨v',e,hr,λg=>by rw[bQ (hr .nil),XN]⟩
 obtain⟨k,r⟩:∃k,Oe (λ_=>True) k h (q9 h v) v:=by
  have e:=hv;unfold DH at e;have all:∀P k h',Xl (Rp.rp P k h') (q9 h v) ((q9 h v).map ci):=λP k h'=>VJ (λa=>aK.2 rfl) _;cases v with
  |XC=>exact⟨0,by simp only[ak]at e;injection e with e;exact (aal.1 e.symm)⟩
  |Wd=>exact⟨0,by simp only[ak]at e;injection e with e;exact (aal.1 e.symm)⟩
  | WO t s rows =>
   refine⟨t,XH t,?_,?_⟩
   ·simp only[ak,aa]at e
    split at e
    ·rename_i hc;rw[YE]at hc;rcases hc with hc|hc
     ·exact .inl (YJ hc).symm
     ·exact .inr (List.isEmpty_iff.1 hc)
    ·cases e
   ·simp only[ak,aa]at e
    split at e
    ·injection e with e;exact cast (congrArg _ e.symm) (all Xt t .nil)
    ·cases e
  |Xj id ep off len lim=>exact⟨0,trivial,_,e,all _ _ _⟩
  |_=>simp[ak]at e
 obtain⟨v',e,r'⟩:=(aI (q9 h v)).Xm (n:=aF) d (show One (q9 h v) _ k h v from ⟨v,rfl,hl,r⟩) (by decide);refine⟨v',e,λh'=>?_⟩;obtain⟨w,hw,r'⟩:=r';injection hw with hw;subst hw;have:Xu (λ_=>True) (max k d) h' (q9 h v) v':=by have:=(Rp.mono (P':=λ_=>True) (k':=max k d) (h':=h') (show Rp.rp Xt (max k d) .nil (q9 h v) [v'] from ⟨v',rfl,r'⟩) (λi hi=>hi.elim) (XH _));obtain⟨w,hw,q⟩:=this;injection hw with hw;subst hw;exact q
 exact this.ints
abbrev IT (k:Nat)(l:List Int)(r:AV):Prop:=One l Xt k .nil r
def IT.sl{r:AV}(h:IT k l r)(h':H):Xu Xt k h' l r:=by let⟨w,hw,q⟩:=Rp.tree (P:=Xt) (k':=k) (h':=h') h (XH _);cases hw;exact q
def IT.rows{r:AV}(h:IT k l r)(h':H):ak h' 1 r=some (l.map ci):=(h.sl h').ints
def IT.len{r:AV}(h:IT k l r)(g:G):bC .slice r g=.val (.int .i64 (l.length:Int)):=by rw[bQ (h.rows .nil),XN]
def Xu.cell{α:Type} [Rp α]{l:List α}(r:Xu P k h l v):v.cells=[v]/\v.isTup=false:=by
 have r:=r.2;unfold Oe at r
 split at r<;>first|exact⟨rfl,rfl⟩|exact r.elim
section ON
variable {C:Xg}{f d:Nat}{s:SF}{g:G}{args xs:List AV}
theorem aP(hf:WY C f=some s)(hs:aD (Xm g.h d aF) args=some xs)(hl:xs.length<=s.nt){R:VS}(hR:Q6 R j)(hj:j<=4){k':Nat}(hk:k'<d)
  (h:wp C (d+1) none s.code (Sb C (d+1) s.res λv g'=>∃P,R P k' g'.h v) (bJ 0 xs .nil) [] G.empty):∃r,aj (I C) d g f args=.val r/\R Xt k' .nil r:=by
 have h:=tC hf hl h;unfold aj;rw[hs];dsimp only;cases hc:(I C).call (Nat.succ d) f xs G.empty with
 |fail=>rw[show (I C).call (d+1) f xs G.empty=.fail from hc]at h;exact h.elim
 | ok v g' =>rw[show (I C).call (d+1) f xs G.empty=.ok v g' from hc]at h;obtain⟨P,h⟩:=h;obtain⟨r,e,hr⟩:=hR.Xm (n:=aF) 0 h (by show _<=24;omega);rw[aa8 (Yi k')]at hr;obtain⟨m,em,lm⟩:=hR.tag (n:=aF) hr (by show _<=24;omega);refine⟨r,?_,hr⟩;simp only[e,em,aa,YM];rw[dk]
def xl(hf:WY C f=some s)(hl:xs.length<=s.nt){K:AV->G->Prop}{D:Xo->Prop}(h:wp C d none s.code (Sb C d s.res K) (bJ 0 xs .nil) [] g):(K3 ((I C).call d f xs g)).sat K g D:=by
 have h:=tC hf hl h;cases hc:(I C).call d f xs g with
 |fail=>rw[hc]at h;exact h.elim
 |ok v g'=>rw[hc]at h;exact h
def cq(hf:WY C f=some s)(hs:aD (Xm g.h d aF) args=some xs)(hl:xs.length<=s.nt){q:IntKind}(hk:0<d)
  (h:wp C (d+1) none s.code (Sb C (d+1) s.res λv _=>v=.int q x) (bJ 0 xs .nil) [] G.empty):aj (I C) d g f args=.val (.int q x):=by
 have h:=tC hf hl h;unfold aj;rw[hs];dsimp only;cases hc:(I C).call (Nat.succ d) f xs G.empty with
 |fail=>rw[show (I C).call (d+1) f xs G.empty=.fail from hc]at h;exact h.elim
 | ok v g' =>rw[show (I C).call (d+1) f xs G.empty=.ok v g' from hc]at h;have h:v=.int q x:=h;subst h;show (match gg aF (.int q x) with|none=>OR.fail|some m=>ax (Nat.blt m d) (.val (.int q x)) _)=_;rw[show gg aF (.int q x)=some 0 from rfl];simp only[aa,YM];rw[XO hk]
def cM(hf:WY C f=some s)(hs:aD (Xm g.h d aF) args=some xs)(hl:xs.length<=s.nt){x:Bool}(hk:0<d)
  (h:wp C (d+1) none s.code (Sb C (d+1) s.res λv _=>v=.bool x) (bJ 0 xs .nil) [] G.empty):aj (I C) d g f args=.val (.bool x):=by
 have h:=tC hf hl h;unfold aj;rw[hs];dsimp only;cases hc:(I C).call (Nat.succ d) f xs G.empty with
 |fail=>rw[show (I C).call (d+1) f xs G.empty=.fail from hc]at h;exact h.elim
 | ok v g' =>rw[show (I C).call (d+1) f xs G.empty=.ok v g' from hc]at h;have h:v=.bool x:=h;subst h;show (match gg aF (.bool x) with|none=>OR.fail|some m=>ax (Nat.blt m d) (.val (.bool x)) _)=_;rw[show gg aF (.bool x)=some 0 from rfl];simp only[aa,YM];rw[XO hk]
end ON
section
variable {C:Xg}{A:Nat->Nat->Prop}{bd:Nat}{w w':World}{γ γ':Gm}{hg:Nat->Xh}{nx:Nat}
variable {op:Op}{t:T}{g:G}{f:Wv JU}
def Jp{sz id:Nat}{x:AV}(hid:id∈aw x)(hn:h.get id=.none):ak h sz x=none:=by
 cases x<;>simp[aw]at hid
 ·subst hid;simp[ak,hn]
 ·rfl
 ·rfl
def F_{sz id:Nat}{x:AV}{bytes:Nat}{new:List (List AV)}(hid:id∈aw x)(hn:g.h.get id=.none):bB sz bytes x new g=.fail:=by
 cases x<;>simp[aw]at hid
 ·subst hid;simp[bB,hn]
 ·rfl
 ·rfl
def Jz(h:cT C op=some f){id:Nat}(hid:id∈bE C op t g)(hn:g.h.get id=.none):f.run t g=.fail:=by
 have one:∀{x:AV},id∈aw x->(∃a b c d,x=.W9 a b c d/\g.h.get a=.none)\/(∃a b c d e,x=.Xj a b c d e/\g.h.get a=.none)\/(∃a,x=.hmap a/\g.h.get a=.none):=by
  intro x hx;cases x<;>simp[aw]at hx
  ·subst hx;exact .inr (.inl ⟨_,_,_,_,_,rfl,hn⟩)
  ·subst hx;exact .inl ⟨_,_,_,_,rfl,hn⟩
  ·subst hx;exact .inr (.inr ⟨_,rfl,hn⟩)
 cases op<;>simp only[cT]at h<;>first| (cases h;done)|skip
 case call c =>
  let⟨callee,args,argTypes⟩:=c;cases callee<;>first| (cases h;done)|skip
  rename_i b;dsimp only at h;let⟨vs,j⟩:=xR h;have hid:id∈(vs.run t).flatMap (nz C b argTypes):=by simpa only[bE,aV,j,am,Zl,X6] using hid
  generalize args.toList=l at h j;unfold dP at h
  split at h
  ·
   split at h
   ·rename_i tt s h0 hs;cases h;simp only[cp,hs,Y9]at j;subst j;simp only[YL,YP,X6,nz,h0]at hid;dsimp only;generalize s.run t=x at *;generalize nE C.P tt=k at *;cases k<;>simp at hid;cases x<;>simp[Ae]at hid;subst hid;simp[bC,hn]
   ·cases h
  ·
   split at h
   ·rename_i tt xt sa sx h0 h1 ha hx;simp only[cp,ha,hx,Y9]at j;subst j;simp only[YL,YP,X6,nz,Yf]at hid
    repeat' (first|split at h| (rw[aa]at h;split at h))
    all_goals first| (cases h;done)|skip
    all_goals (cases h)
    ·dsimp only[cZ]
     split
     ·rfl
     ·rename_i new o;rcases hid with hid|hid
      ·exact F_ hid hn
      ·rw[Jp hid hn]at o;cases o
    ·dsimp only[nA]
     split
     ·rfl
     ·rename_i n p;rcases hid with hid|hid
      ·rw[aa]
       split
       ·exact F_ hid hn
       ·rfl
      ·generalize sx.run t=x at *;cases x<;>simp[aw]at hid<;>simp[cd]at p
   ·cases h
  ·
   split at h
   ·rename_i tt sa sx h0 ha hx;simp only[cp,ha,hx,Y9]at j;subst j;simp only[YL,YP,X6,nz,Yf]at hid
    repeat' (first|split at h)
    all_goals first| (cases h;done)|skip
    all_goals (cases h)
    rfl
   ·cases h
  ·
   split at h
   ·rename_i tt s h0 hs;simp only[cp,hs,Y9]at j;subst j;simp only[YL,YP,X6,nz]at hid
    repeat' (first|split at h)
    all_goals first| (cases h;done)|skip
    all_goals (cases h)
    dsimp only[HX];rcases one hid with⟨a,b,c,d,e,h1⟩|⟨a,b,c,d,e',e,h1⟩|⟨a,e,h1⟩<;>rw[e]<;>simp[h1]
   ·cases h
  ·
   split at h
   ·rename_i tt s h0 hs;simp only[cp,hs,Y9]at j;subst j;simp only[YL,YP,X6,nz]at hid
    repeat' (first|split at h| (rw[aa]at h;split at h))
    all_goals first| (cases h;done)|skip
    all_goals (cases h)
    rfl
   ·cases h
  ·
   split at h
   ·rename_i sa sx ha hx;cases h;simp only[cp,ha,hx,Y9]at j;subst j;simp only[YL,YP,X6,nz,Yf]at hid;dsimp only;rcases hid with hid|hid
    ·rcases one hid with⟨a,b,c,d,e,h1⟩|⟨a,b,c,d,e',e,h1⟩|⟨a,e,h1⟩<;>rw[e]
    ·split
     ·rcases one hid with⟨a,b,c,d,e,h1⟩|⟨a,b,c,d,e',e,h1⟩|⟨a,e,h1⟩<;>rw[e]
     ·rfl
   ·cases h
  ·
   split at h
   ·rename_i sa sx ha hx;cases h;simp only[cp,ha,hx,Y9]at j;subst j;simp only[YL,YP,X6,nz,Yf]at hid;dsimp only;rcases hid with hid|hid
    ·rcases one hid with⟨a,b,c,d,e,h1⟩|⟨a,b,c,d,e',e,h1⟩|⟨a,e,h1⟩<;>rw[e]
    ·split
     ·rcases one hid with⟨a,b,c,d,e,h1⟩|⟨a,b,c,d,e',e,h1⟩|⟨a,e,h1⟩<;>rw[e]
     ·rfl
   ·cases h
  ·cases h
 case load ty a =>
  split at h
  ·rename_i s ag n hs v q;cases h;simp only[bE,aV,hs,am,Zl,X6]at hid;dsimp only[pj];rcases one hid with⟨a,b,c,d,e,h1⟩|⟨a,b,c,d,e',e,h1⟩|⟨a,e,h1⟩<;>rw[e]<;>simp[h1]
  ·cases h
 case store ty a x =>
  split at h
  ·rename_i s u n hs hu q;cases h;simp only[bE,aV,hs,am,Zl,X6]at hid;dsimp only[rj];rcases one hid with⟨a,b,c,d,e,h1⟩|⟨a,b,c,d,e',e,h1⟩|⟨a,e,h1⟩<;>rw[e]<;>simp[h1]
  ·cases h
 case indexAddr ty x ix =>
  split at h
  ·rename_i s i hs hi
   split at h
   ·rename_i e hu
    split at h
    ·cases h;simp only[bE,aV,hs,hu,am,Zl,X6]at hid;dsimp only[iY];rcases one hid with⟨a,b,c,d,e,h1⟩|⟨a,b,c,d,e',e,h1⟩|⟨a,e,h1⟩<;>rw[e];dsimp only
     split
     ·simp[h1]
     ·rfl
    ·cases h
   ·rename_i n e hu;simp[bE,aV,hs,hu,aC]at hid
   ·cases h
  ·cases h
 case lookup ty x k ok =>
  split at h
  ·rename_i sm kk kt et hm hk hu
   split at h
   ·cases h;have hid:id∈aw (sm.run t):=by cases ok<;>simpa [bE,aV,hm,am] using hid
    rfl
   ·cases h
  ·cases h
 case mapUpdate ty m k x =>
  split at h
  ·rename_i sm sk sx kt et hm hk hx hu;cases h;simp only[bE,aV,hm,am,Zl,X6]at hid
   rfl
  ·cases h
 case insert ty m k x =>
  split at h
  ·rename_i sm sk sx kt et hm hk hx hu;cases h;simp only[bE,aV,hm,am,Zl,X6]at hid
   rfl
  ·cases h
 case mapEntry ty m k =>
  split at h
  ·rename_i sm sk kt et hm hk hu
   split at h
   ·cases h;simp only[bE,aV,hm,Zl,X6]at hid
    rfl
   ·cases h
  ·cases h
 case entryStore ty m st x =>
  split at h
  ·rename_i sm ss sx hm hs hx;cases h;simp only[bE,aV,hm,am,Zl,X6]at hid
   rfl
  ·cases h
 case slice ty x lo hi mx =>
  have key:∀{sz:Nat} {y:AV} {l h' m:Option AV},id∈aw y->ip sz y l h' m g.h=none:=by intro sz y l h' m w;rcases one w with⟨a,b,c,d,e,h1⟩|⟨a,b,c,d,e',e,h1⟩|⟨a,e,h1⟩<;>rw[e]<;>simp[ip,h1]
  cases mx with
  | none =>
   dsimp only at h
   split at h
   ·rename_i e sx sl sh hu hx hl r
    split at h
    ·cases h;simp only[bE,aV,hx,am,Zl,X6]at hid;dsimp only;rw[key hid];rfl
    ·cases h
   ·rename_i n e sx sl sh hu hx hl r
    split at h
    ·cases h;simp only[bE,aV,hx,am,Zl,X6]at hid
     rfl
    ·cases h
   ·cases h
  | some mx =>
   cases hi with
   |none=>cases h
   | some hi =>
    dsimp only at h
    split at h
    ·rename_i e sx sl sh sm he hx hl r hm
     split at h
     ·cases h;simp only[bE,aV,hx,am,Zl,X6]at hid;dsimp only;rw[key hid];rfl
     ·cases h
    ·cases h
 all_goals simp[bE,aV,aC]at hid
structure Xa (C:Xg):Prop where
 mixed:C.P.follows .mixedOrders=true
 Vk:C.P.follows .rangeFuncRecover=true
 WZ:eG C
 UH:∀f e,C.ext f=some e->∀d args g y,e d args g≠.Xi y
 ext:∀f e,C.ext f=some e->∀A bd w γ hg nx g as vs,W4 C A bd w γ hg nx->WF g->(∀id∈as.flatMap (aL g.h aF),g.h.get id≠.none->hg id=g.h.get id)->Wm γ g (Wh g (e (bd+1) as g)) ->
  Wa w γ A bd as vs->e (bd+1) as g≠.fail->∀cs,
  ∃u w' γ' hg',Fin C A bd w γ hg nx g w' γ' hg' (Wh g (e (bd+1) as g))/\RV w' γ' A bd (OM (e (bd+1) as g)) u /\
   ((callFunc f vs.toArray).run C.P w=.ok (.value u) w'\/(Wk C.P f/\Jn C.P .normal f vs.toArray cs w u w'))
def DR(w:World)(γ:Gm)(A:Nat->Nat->Prop)(bd:Nat):List Xo->List Deferred->Prop
 |[],[]=>True
 |.mark id::ds,d::es=>((γ id).kind=4/\d={ target:=.collected (γ id).blk,args:=#[] })/\DR w γ A bd ds es
 |.call fv args::ds,d::es=>(∃f ys us,fv=.W_ f [] ys/\d.target=.fn (.func f) us/\Wa w γ A bd ys us.toList/\Wa w γ A bd args d.args.toList)/\DR w γ A bd ds es
 |_,_=>False
def DR.step{ds:List Xo}:∀{es:List Deferred},DR w γ A bd ds es->Stp w γ w' γ'->DR w' γ' A bd ds es:=by
 induction ds with
 |nil=>intro es h _;cases es<;>simpa [DR] using h
 | cons d ds ih =>
  intro es h s;cases es with
  |nil=>cases d<;>simp[DR]at h
  | cons e es =>
   cases d with
   | mark id =>
    let⟨⟨h1,h2⟩,h3⟩:=h;have hk:(γ id).kind≠0:=by rw[h1];decide
    exact⟨⟨by rw[s.kind_eq hk,h1],by rw[h2,s.blk_eq hk (by rw[h1];decide)]⟩,ih h3 s⟩
   | call fv args =>let⟨⟨f,ys,us,h1,h2,h4,h5⟩,h3⟩:=h;exact⟨⟨f,ys,us,h1,h2,h4.step s,h5.step s⟩,ih h3 s⟩
def TR.step{nt:Nat}{tmps:Array Value}(h:TR w γ A bd nt t tmps)(s:Stp w γ w' γ'):TR w' γ' A bd nt t tmps :=⟨h.1,λi=>(h.2 i).step s⟩
def VD(γ:Gm)(rd:Option Nat)(b:Frame):Prop :=
 match rd with
 |none=>b.roundOf=none
 |some id=>(γ id).kind=3/\b.roundOf=some (γ id).blk
def VD.step{b:Frame}(h:VD γ rd b)(s:Stp w γ w' γ'):VD γ' rd b:=by
 cases rd with
 |none=>exact h
 | some id =>
  let⟨h1,h2⟩:=h;have hk:(γ id).kind≠0:=by rw[h1];decide
  exact⟨by rw[s.kind_eq hk,h1],by rw[h2,s.blk_eq hk (by rw[h1];decide)]⟩
def JS(P:Program)(m:Machine)(b:Frame)(k:List Item)(cs:List Frame):Ex->Act->World->Prop
 |.norm,a,w=>Steps P m (lone (b.atR a k) cs w)
 |.exit id,a,w=>∃k₁,exitTo id k₁=exitTo id k/\Steps P m (lone (b.atR a (.code (.exit id)::k₁)) cs w)
 |.ret,a,w=>∃k₁,Steps P m (lone (b.atR a (.code .ret::k₁)) cs w)
def JS.of_steps{P:Program}{m m₁:Machine}{b:Frame}{k:List Item}{cs:List Frame}{e:Ex}{a:Act}(h:Steps P m m₁)(h':JS P m₁ b k cs e a w):JS P m b k cs e a w:=by
 cases e with
 |norm=>exact Steps.trans h h'
 |exit id=>let⟨k₁,h1,h2⟩:=h';exact⟨k₁,h1,Steps.trans h h2⟩
 |ret=>let⟨k₁,h2⟩:=h';exact⟨k₁,Steps.trans h h2⟩
def Cd(C:Xg)(bd nt:Nat)(rd:Option Nat)(c:Code)(t:T)(df:List Xo)(g:G)(e:Ex)(t':T)(df':List Xo)(g':G):Prop :=
 ∀A w γ hg nx b a k cs,W4 C A bd w γ hg nx->PI g.h hg->WF g->Wm γ g g'->TR w γ A bd nt t a.tmps->DR w γ A bd df a.defers->VD γ rd b->rC b.kind cs ->
  ∃a' w' γ' hg',Fin C A bd w γ hg nx g w' γ' hg' g'/\TR w' γ' A bd nt t' a'.tmps/\DR w' γ' A bd df' a'.defers /\
   JS C.P (lone (b.atR a (.code c::k)) cs w) b k cs e a' w'
def TW(C:Xg)(ih:IH):Prop :=∀bd nt rd c t df g e t' df' g',ih.code nt (bd+1) rd c t df g=.ok e t' df' g'->Cd C bd nt rd c t df g e t' df' g'
structure V7 (C:Xg) (ih:IH):Prop where
 WZ:WI ih
 call:Gs C ih
 code:TW C ih
def Wa.append{xs ys:List AV}{vs us:List Value}(h1:Wa w γ A bd xs vs)(h2:Wa w γ A bd ys us):Wa w γ A bd (xs++ys) (vs++us):=by
 refine⟨by simp[h1.1,h2.1],λi x v hx hv=>?_⟩
 by_cases hi:i<xs.length
 ·rw[XW hi]at hx;rw[XW (by rw[<-h1.1];exact hi)]at hv;exact h1.2 i x v hx hv
 ·rw[X_ (by omega)]at hx;rw[X_ (by rw[<-h1.1];omega),<-h1.1]at hv;exact h2.2 _ x v hx hv
def VU{xs:List AV}{vs:Array Value}(hl:xs.length=vs.size)(h:∀(i:Nat) x v,xs[i]?=some x->vs[i]?=some v->RV w γ A bd x v) :
  Wa w γ A bd xs vs.toList:=⟨by simpa using hl,λi x v hx hv=>h i x v hx (by simpa using hv)⟩
section
variable {P:Program}{b:Frame}{a:Act}{ops:Array Oper}{i:Nat}{rest:List Nat}{k:List Item}{cs:List Frame}{o:Oper}
def yZ{v:Value}(ho:ops[i]?=some o)(hw:Region.wanted o (yielded ops a.tmps)=true)(hd:∀c,o.op≠.defer c)
  (hrun:(execOp a.eval o).run P w=.ok (.value v) w') :
  step P (lone (b.atR a (.inRegion ops (i::rest)::k)) cs w)=.next (lone (b.atR (a.put o.dst v) (.inRegion ops rest::k)) cs w'):=by
 have h:=Frame.finish_atR b a ops i rest k v;rw[ho]at h;simp only[ZG]at h;refine step_lone_go ?_;rw[stepGR_op ho hw,Oper.semAt_eq _ _ _ hd,<-h];simp[stepG.apply,hrun]
def Oa(ho:ops[i]?=some o)(hw:Region.wanted o (yielded ops a.tmps)=true)(hd:∀c,o.op≠.defer c)
  (hrun:(execOp a.eval o).run P w=.ok .skip w') :
  step P (lone (b.atR a (.inRegion ops (i::rest)::k)) cs w)=.next (lone (b.atR (a.put o.dst undef) (.inRegion ops rest::k)) cs w'):=by
 have h:=Frame.finish_atR b a ops i rest k undef;rw[ho]at h;simp only[ZG]at h;refine step_lone_go ?_;rw[stepGR_op ho hw,Oper.semAt_eq _ _ _ hd,<-h];simp[stepG.apply,hrun]
def yY{v:Value}(ho:ops[i]?=some o)(hw:Region.wanted o (yielded ops a.tmps)=true)(hd:∀c,o.op≠.defer c)
  (hrun:HF P o a.eval w v w') :
  Steps P (lone (b.atR a (.inRegion ops (i::rest)::k)) cs w) (lone (b.atR (a.put o.dst v) (.inRegion ops rest::k)) cs w'):=by
 rcases hrun with h|⟨h,rfl⟩
 ·exact .one (yZ ho hw hd h)
 ·exact .one (Oa ho hw hd h)
def EB{f:FuncId}{args:Array Value}(ho:ops[i]?=some o)(hw:Region.wanted o (yielded ops a.tmps)=true)(hd:∀c,o.op≠.defer c)
  (hrun:(execOp a.eval o).run P w=.ok (.enter f args) w') :
  step P (lone (b.atR a (.inRegion ops (i::rest)::k)) cs w)=.next (lone (Frame.enter P f args .normal) (b.atR a (.inRegion ops (i::rest)::k)::cs) w'):=by
 refine step_lone_go ?_;rw[stepGR_op ho hw,Oper.semAt_eq _ _ _ hd];simp[stepG.apply,hrun,Frame.atR]
def KY{l:Nat}{f:FuncId}{tmps:Array Value}{assign body:Code}(ho:ops[i]?=some o)(hw:Region.wanted o (yielded ops a.tmps)=true)(hd:∀c,o.op≠.defer c)
  (hrun:(execOp a.eval o).run P w=.ok (.round l f tmps assign body) w') :
  step P (lone (b.atR a (.inRegion ops (i::rest)::k)) cs w)=.next (lone (Frame.round l f tmps assign body .normal) (b.atR a (.inRegion ops (i::rest)::k)::cs) w'):=by
 refine step_lone_go ?_;rw[stepGR_op ho hw,Oper.semAt_eq _ _ _ hd];simp[stepG.apply,hrun,Frame.atR]
def uk{f:FuncId}{args:Array Value}{u:Value}{w₁:World}(ho:ops[i]?=some o)(hw:Region.wanted o (yielded ops a.tmps)=true)(hd:∀c,o.op≠.defer c)
  (hrun:(execOp a.eval o).run P w=.ok (.enter f args) w)
  (hout:Jn P .normal f args (b.atR a (.inRegion ops (i::rest)::k)::cs) w u w₁) :
  Steps P (lone (b.atR a (.inRegion ops (i::rest)::k)) cs w) (lone (b.atR (a.put o.dst u) (.inRegion ops rest::k)) cs w₁):=by
 let⟨fr,hs,h1,h2,h3,h4,fn,h5,h6⟩:=hout;have h:=Frame.finish_atR b a ops i rest k u;rw[ho]at h;simp only[ZG]at h;refine .head (EB ho hw hd hrun) (Steps.trans hs (.one ?_));rw[<-h];exact step_leave_returned ⟨h1,h2,h3,fn,by rw[h4];exact h5,h6⟩
def Ht(ho:ops[i]?=some o)(hw:Region.wanted o (yielded ops a.tmps)=true)(hd:∀c,o.op≠.defer c)
  (hrec:P.follows .rangeFuncRecover=true) (hcalm:rC b.kind cs)
  (hrun:(execOp a.eval o).run P w=.ok .recover w) :
  step P (lone (b.atR a (.inRegion ops (i::rest)::k)) cs w)=.next (lone (b.atR (a.put o.dst .nilIface) (.inRegion ops rest::k)) cs w):=by
 have d:=Frame.finish_atR b a ops i rest k .nilIface;rw[ho]at d;simp only[ZG]at d;have e:tryRecover (b.atR a (.inRegion ops (i::rest)::k)) cs=none:=by
  unfold tryRecover;rcases hcalm with h|⟨h,c,cs',rfl,hm|⟨_,_,_,hm⟩⟩
  ·simp[Frame.atR,h]
  ·simp[Frame.atR,h,hm]
  ·simp[Frame.atR,h,hm]
 refine step_lone_go ?_;rw[stepGR_op ho hw,Oper.semAt_eq _ _ _ hd,<-d];simp only[stepG.apply,Sem.runT_eq,hrun,hrec,if_true,e];cases hro:(b.atR a (.inRegion ops (i::rest)::k)).roundOf<;>simp[GStep.bare_after]
end
def mz{P:Program}{l:Nat}{L:Loop}(h:w.heap[l]?=some (.loop L)):(Instr.getLoop l).run P w=.ok L w:=by
 unfold Instr.getLoop;simp only[Yb,yO h (by simp),XT]
 rfl
def wY{P:Program}{l:Nat}{L:Loop}{o:Obj}(h:w.heap[l]?=some (.loop L)):(setObj l o).run P w=.ok () (World.setBlk w l o) :=Eu h (by simp)
theorem W4.setLoop(hr:W4 C A bd w γ hg nx){id Xi:Nat}{t:T}{ps:List Nat}{assign body:Code}{st st':LoopState}{pend pend':Option Code}{L:Loop}
  (hid:hg id=.loop nt t ps assign body Xi st pend) (hL:w.heap[(γ id).blk]?=some (.loop L)) :
  W4 C A bd (World.setBlk w (γ id).blk (.loop { L with state:=st',pending:=pend' })) γ (upd hg id (.loop nt t ps assign body Xi st' pend')) nx /\
   Stp w γ (World.setBlk w (γ id).blk (.loop { L with state:=st',pending:=pend' })) γ:=by
 have h:=hr.obj id;rw[hid]at h;obtain⟨h1,h2,L',h3,h4,h5,h6,h7,h8,h9,Xp,k,a⟩:=h;rw[hL]at h3;injection h3 with h3;injection h3 with h3;subst h3;have hk:(γ id).kind≠0:=by rw[h1];decide
 have s:=Bg (w:=w) (o:=.loop { L with state:=st',pending:=pend' }) hk h2;refine hr.setBlk hk h2 ⟨h1,h2,{ L with state:=st',pending:=pend' },?_,rfl,rfl,h6,h7,h8,h9,λi=>(Xp i).step s,k,a⟩;rw[eF];simp[(hr.lt id hk).2]
def VN{g:G}{id:Nat}{o:Xh}(hr:W4 C A bd w' γ' (upd hg id o) nx)(s:Stp w γ w' γ') :
  Fin C A bd w γ hg nx g w' γ' (upd hg id o) (g.put id o):=by
 refine⟨hr.up (Y_ _ _),s,⟨[id],by simp,λj hj=>?_,λj hj=>?_⟩⟩
 ·simp at hj;subst hj;simp[VO]
 ·exact dD _ _ (by simpa using hj)
def VM{g:G}{o:Xh}(hr:W4 C A bd w' γ' (upd hg g.nx o) (Nat.max nx (g.nx+1)))(s:Stp w γ w' γ') :
  Fin C A bd w γ hg nx g w' γ' (upd hg g.nx o) (g.new o):=by
 refine⟨by simpa using hr,s,⟨[g.nx],by simp,λj hj=>?_,λj hj=>?_⟩⟩
 ·simp at hj;subst hj;simp[VO]
 ·exact dD _ _ (by simpa using hj)
end
section
variable {C:Xg}{A:Nat->Nat->Prop}{bd:Nat}{w w':World}{γ γ':Gm}{hg:Nat->Xh}{nx:Nat}
variable {t:T}{g:G}{ih:IH}
def UN(lk:Looks)(g:G)(hg:Nat->Xh):Prop :=if lk.big then PI g.h hg else ∀id∈lk.rd++lk.sr.map (·.1),g.h.get id≠.none->hg id=g.h.get id
def PI.agr{lk:Looks}(h:PI g.h hg):UN lk g hg:=by
 unfold UN
 split
 ·exact h
 ·exact λid _ hne=>h id hne
def Fm:∀{ps:List Nat} {xs:List AV} {us:List Value} {t t':T} {tmps:Array Value},dN t nt ps xs=some t'->TR w γ A bd nt t tmps->Wa w γ A bd xs us ->
  ps.length=us.length/\TR w γ A bd nt t' ((ps.zip us).foldl (λtmps (t,a)=>tmps.setIfInBounds t a) tmps):=by
 intro ps
 induction ps with
 | nil =>
  intro xs us t t' tmps h ht hv;cases xs with
  | nil =>simp only[dN]at h;cases h;have:us=[]:=Zq.1 hv.1.symm;subst this;exact⟨rfl,ht⟩
  |cons x xs=>simp[dN]at h
 | cons p ps ih =>
  intro xs us t t' tmps h ht hv;cases xs with
  |nil=>simp[dN]at h
  | cons x xs =>
   cases us with
   |nil=>have:=hv.1;simp at this
   | cons u us =>
    simp only[dN,aa]at h
    split at h
    ·rename_i hp;rw[YM]at hp;have h0:RV w γ A bd x u:=hv.2 0 x u rfl rfl;have k:Wa w γ A bd xs us:=⟨by have:=hv.1;simpa using this,λi x' u' hx hu=>hv.2 (i+1) x' u' (by simpa using hx) (by simpa using hu)⟩;have b:TR w γ A bd nt ((sp AV.undef p).run t x) (tmps.setIfInBounds p u):=by
      refine⟨by simp[ht.1],λi=>?_⟩;rw[Vc]
      by_cases hi:i=p
      ·subst hi;rw[XO rfl];have:i<tmps.size:=by rw[ht.1];exact hp
       simpa [Array.getD,this] using h0
      ·rw[XS hi];have:=ht.2 i;simp only[Yx]at this ⊢;rw[Zr (Y5 hi)];exact this
     let⟨a1,a2⟩:=ih h b k;exact⟨by simp[a1],by simpa using a2⟩
    ·cases h
def NW(hi:V7 C ih)(hr:W4 C A bd w γ hg nx)(hx:PI g.h hg)(hwf:WF g){id:Nat}{args:List AV}{vs:List Value}
  (hk:(γ id).kind=3) (hv:Wa w γ A bd args vs)  (h:da ih (bd+1) id args g=r) (hne:r≠.fail) (hf:Wm γ g (Wh g r)) (c:Frame) (cs:List Frame) :
  ∃f tmps assign body,(Instr.yield (γ id).blk vs.toArray).run C.P w=.ok (.round (γ id).blk f tmps assign body) w /\
   ∃u w' γ' hg',Fin C A bd w γ hg nx g w' γ' hg' (Wh g r)/\RV w' γ' A bd (OM r) u /\
    Steps C.P (lone (Frame.round (γ id).blk f tmps assign body .normal) (c::cs) w) (lone (c.finish u) cs w'):=by
 unfold da at h
 split at h
 rotate_left
 ·exact absurd h.symm hne
 rename_i nt t0 ps assign bodyX dfr0 st0 pend0 q;have q:g.h.get id=.loop nt t0 ps assign bodyX dfr0 st0 pend0:=by simpa using q
 have W:hg id=.loop nt t0 ps assign bodyX dfr0 st0 pend0:=by rw[hx id (by rw[q];simp),q]
 have R:=hr.obj id;rw[W]at R;obtain⟨k1,k2,L,k3,k4,k5,k6,k7,k8,k9,h7,h8,h9⟩:=R
 split at h
 ·exact absurd h.symm hne
 rename_i t' S;have h3:TR w γ A bd nt t0 L.tmps:=⟨k9,h7⟩;obtain⟨F,Z⟩:=Fm S h3 hv
 split at h
 rotate_left
 ·exact absurd h.symm hne
 rename_i t1 g1 h1
 split at h
 rotate_left
 ·exact absurd h.symm hne
 rename_i nt1 U ps2 assign2 body1 Xi pend k;have k:g1.h.get id=.loop nt1 U ps2 assign2 body1 Xi .ready pend:=by simpa using k
 split at h
 rotate_left
 ·exact absurd h.symm hne
 rename_i e t3 g2 h2
 split at h
 rotate_left
 ·exact absurd h.symm hne
 rename_i nt3 V ps4 assign4 body4 dfr4 st4 pend4 d;have d:g2.h.get id=.loop nt3 V ps4 assign4 body4 dfr4 st4 pend4:=by simpa using d
 have I:=hi.WZ.code _ _ _ _ _ _ _ _ _ _ _ h1 hwf;have w1:WF g1:=I.wf hwf;have J:Mon g1 (g1.put id (.loop nt1 U ps2 assign2 body1 Xi .busy pend)):=Mon.put w1 (by rw[k];simp);have w2:=J.wf w1;have T:=hi.WZ.code _ _ _ _ _ _ _ _ _ _ _ h2 w2;have w3:=T.wf w2;have m4:∀o,Mon g2 (g2.put id o):=λo=>Mon.put w3 (by rw[d];simp);have Y:(Wh g r).nx=g2.nx:=by subst h;cases e<;>simp[Wh]
 have p:Wm γ g g2:=λi a b=>hf i a (by rw[Y];exact b)
 let bR:Frame:={ (default:Frame) with fn:=L.fn,kind:=.normal,roundOf:=some (γ id).blk }
 let tmps:=(L.params.zip vs.toArray).foldl (λtmps (t,a)=>tmps.setIfInBounds t a) L.tmps
 have h4:tmps=(ps.zip vs).foldl (λtmps (t,a)=>tmps.setIfInBounds t a) L.tmps:=by simp only[tmps,<-abd,Array.toList_zip,k6]
 have B:(Instr.yield (γ id).blk vs.toArray).run C.P w=.ok (.round (γ id).blk L.fn tmps assign bodyX) w:=by
  unfold Instr.yield;have hs:vs.toArray.size=L.params.size:=by rw[<-k6]at F;simpa using F.symm
  simp only[Yb,mz k3,XT,hs,ne_eq,not_true_eq_false,if_false,k7,k8]
  rfl
 have z:Frame.round (γ id).blk L.fn tmps assign bodyX .normal=bR.atR { tmps:=tmps,defers:=[] } [.code assign,.beginRound,.code bodyX]:=by simp[Frame.round,Frame.atR,bR]
 obtain⟨a1,wa,γa,N,f1,tr1,dr1,ar1⟩:=hi.code _ _ _ _ _ _ _ _ _ _ _ h1 A w γ hg nx bR { tmps:=tmps,defers:=[] } [.beginRound,.code bodyX] (c::cs) hr hx hwf
  (p.le (Ya J.nx T.nx)) (by rw[h4];exact Z) trivial ⟨hk,rfl⟩ (.inl rfl)
 have h5:PI g1.h N:=f1.ext I hx;have D:N id=.loop nt1 U ps2 assign2 body1 Xi .ready pend:=by rw[h5 id (by rw[k];simp),k]
 have Q:(γ id).kind≠0:=by rw[hk];decide
 have s:(γa id).blk=(γ id).blk:=f1.pk.blk_eq Q (by rw[hk];decide);have G:=f1.rel.obj id;rw[D]at G;obtain⟨ka1,ka2,La,ka3,ka4,ka5,ka6,ka7,ka8,ka9,ka10,ka11,ka12⟩:=G;have l:=f1.rel.setLoop (st':=.busy) (pend':=pend) D ka3;rw[s]at ka3 l;have y:(Instr.beginRound (γ id).blk).run C.P wa=.ok () (World.setBlk wa (γ id).blk (.loop { La with state:=.busy,pending:=pend })):=by unfold Instr.beginRound;simp only[Yb,mz ka3,XT,wY ka3,ka4,Yu,<-ka5]
 have f2:Fin C A bd wa γa N (Nat.max nx g1.nx) g1 _ γa _ (g1.put id (.loop nt1 U ps2 assign2 body1 Xi .busy pend)):=VN l.1 l.2;have x:=f1.trans f2 I J;obtain⟨a2,wb,γb,O,f3,tr3,dr3,ar3⟩:=hi.code _ _ _ _ _ _ _ _ _ _ _ h2 A _ γa _ (Nat.max nx (g1.put id (.loop nt1 U ps2 assign2 body1 Xi .busy pend)).nx) bR a1 [] (c::cs) x.rel (x.ext (I.trans J) hx) w2
  (x.freed hr (I.trans J) p) (tr1.step l.2) (by have:=dr1.step l.2;exact this) ⟨by rw[f1.pk.kind_eq Q];exact hk,by simp[bR,s]⟩ (.inl rfl)
 have m:=x.trans f3 (I.trans J) T;have h6:PI g2.h O:=m.ext ((I.trans J).trans T) hx;have E:O id=.loop nt3 V ps4 assign4 body4 dfr4 st4 pend4:=by rw[h6 id (by rw[d];simp),d]
 have M:(γb id).blk=(γ id).blk:=m.pk.blk_eq Q (by rw[hk];decide);have H:=m.rel.obj id;rw[E]at H;obtain⟨kb1,kb2,Lb,kb3,kb4,kb5,kb6,kb7,kb8,kb9,kb10,kb11,kb12⟩:=H;have n:=λst' pend'=>m.rel.setLoop (st':=st') (pend':=pend') E kb3;rw[M]at kb3 n;have v:∀jump,(Instr.endRound (γ id).blk jump).run C.P wb=.ok (.bool jump.isNone) (World.setBlk wb (γ id).blk (.loop { Lb with state:=if jump.isNone then .ready else .done,pending:=jump })):=by intro jump;unfold Instr.endRound;simp only[Yb,mz kb3,XT,wY kb3,Yu]
 refine⟨L.fn,tmps,assign,bodyX,B,?_⟩;rw[z];have sbegin:Steps C.P (lone (bR.atR { tmps:=tmps,defers:=[] } [.code assign,.beginRound,.code bodyX]) (c::cs) w) (lone (bR.atR a1 [.code bodyX]) (c::cs) (World.setBlk wa (γ id).blk (.loop { La with state:=.busy,pending:=pend }))) :=Steps.trans ar1 (.one (stepR_beginRound rfl y))
 have fin:∀(jump:Option Code) (st':LoopState),st'=(if jump.isNone then .ready else .done) ->
   Fin C A bd w γ hg nx g (World.setBlk wb (γ id).blk (.loop { Lb with state:=st',pending:=jump })) γb (upd O id (.loop nt3 V ps4 assign4 body4 dfr4 st' jump)) (g2.put id (.loop nt3 V ps4 assign4 body4 dfr4 st' jump)):=by
  intro jump st' _;exact m.trans (VN (n st' jump).1 (n st' jump).2) ((I.trans J).trans T) (m4 _)
 subst h;cases e with
 |norm=>exact⟨.bool true,_,γb,_,fin none .ready rfl,.bool _ _,Steps.trans sbegin (Steps.trans ar3 (.one (stepR_round_end rfl rfl (v none))))⟩
 | exit j =>obtain⟨k₁,X,K⟩:=ar3;exact⟨.bool false,_,γb,_,fin (some (.exit j)) .done rfl,.bool _ _,Steps.trans sbegin (Steps.trans K (.one (stepR_round_exit rfl rfl (by rw[X];rfl) (v (some (.exit j))))))⟩
 | ret =>obtain⟨k₁,K⟩:=ar3;exact⟨.bool false,_,γb,_,fin (some .ret) .done rfl,.bool _ _,Steps.trans sbegin (Steps.trans K (.one (stepR_round_ret rfl rfl (v (some .ret)))))⟩
noncomputable def TH(C:Xg)(fv:AV)(as:List AV)(g:G):Looks :=
 match fv with
 |.W_ f first cap=>ax ((C.ext f).isSome || C.ON f) (am ((first++(as++cap)).flatMap (aL g.h aF))) cz
 |_=>cz
def RF(h:UN cz g hg):PI g.h hg:=h
section
variable {b:Frame}{a:Act}{ops:Array Oper}{i:Nat}{rest:List Nat}{k:List Item}{cs:List Frame}{o:Oper}
def Fv(hC:Xa C)(hi:V7 C ih)(hr:W4 C A bd w γ hg nx)(hwf:WF g){fv:AV}{v:Value}{as:List AV}{vs:List Value}
  (hfv:RV w γ A bd fv v) (has:Wa w γ A bd as vs) (hag:UN (TH C fv as g) g hg)
   (h:kT C ih (bd+1) fv as g=r) (hne:r≠.fail) (hf:Wm γ g (Wh g r))
  (ho:ops[i]?=some o) (hw:Region.wanted o (yielded ops a.tmps)=true) (hd:∀c,o.op≠.defer c)
  (hexec:(execOp a.eval o).run C.P w=(do let d <-Deferred.ofValue v vs.toArray;invoke d.target d.args:Sem Next).run C.P w) :
  ∃u w' γ' hg',Fin C A bd w γ hg nx g w' γ' hg' (Wh g r)/\RV w' γ' A bd (OM r) u /\
   Steps C.P (lone (b.atR a (.inRegion ops (i::rest)::k)) cs w) (lone (b.atR (a.put o.dst u) (.inRegion ops rest::k)) cs w'):=by
 cases hfv with
 | W_ _ f xs ys vs1 us1 hl hl2 h1 h2 =>
  have l:Wa w γ A bd (xs++(as++ys)) (vs1.toList++(vs++us1.toList)):=(VU hl h1).append (has.append (VU hl2 h2));have m:(vs1.toList++(vs++us1.toList)).toArray=(vs1++vs.toArray)++us1:=by apply On;simp
  have j:Wk C.P f->(execOp a.eval o).run C.P w=.ok (.enter f ((vs1++vs.toArray)++us1)) w:=by intro he;rw[hexec];simp only[Deferred.ofValue,invoke,Yb,Yu,XT];exact he _ _
  simp only[kT]at h;simp only[TH]at hag;cases hext:C.ext f with
  | some e =>
   simp only[hext]at h hag;have hx:∀id∈(xs++(as++ys)).flatMap (aL g.h aF),g.h.get id≠.none->hg id=g.h.get id:=by simpa [UN,am] using hag
   have hs:=hC.ext f e hext;subst h;let⟨u,w',γ',hg',f1,rv,out⟩:=hs A bd w γ hg nx g _ _ hr hwf hx hf l hne (b.atR a (.inRegion ops (i::rest)::k)::cs);rw[m]at out;rcases out with out|⟨he,out⟩
   ·refine⟨u,w',γ',hg',f1,rv,.one (yZ ho hw hd ?_)⟩;rw[hexec];simp only[Deferred.ofValue,invoke,Yb,Yu,XT];exact out
   ·exact⟨u,w',γ',hg',f1,rv,uk ho hw hd (j he) out⟩
  | none =>
   simp only[hext]at h hag;cases hiso:C.ON f with
   | true =>
    simp only[hiso]at h hag;have hx:∀id∈(xs++(as++ys)).flatMap (aL g.h aF),g.h.get id≠.none->hg id=g.h.get id:=by simpa [UN,am] using hag
    subst h;let⟨he,u,w',γ',hg',f1,rv,out⟩:=wO hi.call hi.WZ.call hr hx l hne (b.atR a (.inRegion ops (i::rest)::k)::cs);rw[m]at out;exact⟨u,w',γ',hg',f1,rv,uk ho hw hd (j he) out⟩
   | false =>
    simp only[hiso]at h hag;have hx:PI g.h hg:=hag;cases hcall:ih.call (bd+1) f (xs++(as++ys)) g with
    | fail =>rw[hcall]at h;exact absurd h.symm hne
    | ok rv0 g1 =>rw[hcall]at h;have h:OR.upd rv0 g1=r:=h;subst h;let⟨he,hs⟩:=hi.call _ _ _ _ _ _ hcall;let⟨u,w',γ',hg',f1,rv,out⟩:=hs A w γ hg nx _ hr hx hwf hf l .normal (b.atR a (.inRegion ops (i::rest)::k)::cs) (.inl rfl);rw[m]at out;exact⟨u,w',γ',hg',f1,rv,uk ho hw hd (j he) out⟩
 | VZ _ id bl hk hb =>subst hb;simp only[kT]at h;have hx:PI g.h hg:=RF hag;let⟨f,tmps,assign,body,p,u,w',γ',hg',f1,rv,st⟩:=NW hi hr hx hwf hk has h hne hf (b.atR a (.inRegion ops (i::rest)::k)) cs;have n:=Frame.finish_atR b a ops i rest k u;rw[ho]at n;simp only[ZG]at n;rw[n]at st;refine⟨u,w',γ',hg',f1,rv,.head (KY ho hw hd ?_) st⟩;rw[hexec];simp only[Deferred.ofValue,invoke,Yb,Yu,XT];simpa using p
 |_=>exact absurd h.symm hne
def Ks(hC:Xa C)(hi:V7 C ih)(hr:W4 C A bd w γ hg nx)(hwf:WF g)(ht:TR w γ A bd nt t a.tmps)(hcalm:rC b.kind cs)
  (hag:UN ((aV C o.op).run t g) g hg)  (h:(cI C o.op).run ih (bd+1) rd t g=r) (hne:r≠.fail) (hnd:∀x,r≠.Xi x) (hf:Wm γ g (Wh g r))
  (ho:ops[i]?=some o) (hw:Region.wanted o (yielded ops a.tmps)=true) :
  ∃u w' γ' hg',Fin C A bd w γ hg nx g w' γ' hg' (Wh g r)/\RV w' γ' A bd (OM r) u /\
   Steps C.P (lone (b.atR a (.inRegion ops (i::rest)::k)) cs w) (lone (b.atR (a.put o.dst u) (.inRegion ops rest::k)) cs w'):=by
 have hm:Mon g (Wh g r):=by rw[<-h];exact jQ hC.WZ hi.WZ hwf
 unfold cI at h
 split at h
 rotate_left
 ·exact absurd h.symm hne
 rename_i f d;generalize hop:o.op=op at d hag;have j:∀(args:Array Operand),(args.toList.map a.eval).toArray=args.map a.eval:=λargs=>by apply On;simp
 unfold Jc at d
 split at d
 ·
  rename_i fx args at2;have hd:∀c,o.op≠.defer c:=by rw[hop];intro c h;cases h
  split at d
  ·rename_i vs n;simp only[aV,aW,n]at hag;refine Fv hC hi hr hwf (.W_ _ fx [] [] #[] #[] rfl rfl (λi x v h=>by simp at h) (λi x v h=>by simp at h)) (i_ ht hr n) hag ?_ hne hf ho hw hd ?_
   ·rw[<-h];simp only[kT,X3,X6]
    split at d
    ·rename_i e he;cases d;rfl
    ·rename_i he;rw[aa]at d
     split at d
     ·rename_i l;cases d;simp only[l]
     ·rename_i l;cases d;have:C.ON fx=false:=by simpa using l
      simp only[this]
   ·simp only[execOp,hop,resolve,j,Act.eval]
  ·cases d
 ·
  rename_i fo args at2 B;have hd:∀c,o.op≠.defer c:=by rw[hop];intro c h;cases h
  split at d
  ·rename_i fv vs q n;cases d;simp only[aV,q,n]at hag;refine Fv hC hi hr hwf (aA q ht hr) (i_ ht hr n) hag h hne hf ho hw hd ?_;simp only[execOp,hop,resolve,j]
  ·cases d
 ·
  have hd:∀c,o.op≠.defer c:=by rw[hop];intro c h;cases h
  cases d;subst h;refine⟨.nilIface,w,γ,hg,Fin.refl hr,.WB _,.one (Ht ho hw hd hC.Vk hcalm ?_)⟩;simp only[execOp,hop,resolve,invoke,Yb,Yu,XT]
  rfl
 ·
  split at d
  ·cases d;exfalso;dsimp only at h
   split at h
   ·exact hne h.symm
   ·split at h
    ·exact hnd _ h.symm
    ·exact hne h.symm
  ·cases d
 ·
  split at d
  ·rename_i s hs;cases d;have hd:∀c,o.op≠.defer c:=by rw[hop];rintro c rfl;simp[cT]at hs
   have p:∀id∈bE C op t g,hg id=g.h.get id:=by
    intro id y;have z:g.h.get id≠.none:=λz=>hne (by rw[<-h];exact Jz hs y z);unfold UN at hag
    split at hag
    ·exact hag id z
    ·exact hag id y z
   have m:=Th hs hop ht hr (hf g.nx (XH _) hm.nx) p;have h:s.run t g=r:=h;rw[h]at m;cases r with
   |fail=>exact absurd rfl hne
   | val x =>let⟨v,h1,h2⟩:=m;exact⟨v,w,γ,hg,Fin.refl hr,h2,yY ho hw hd h1⟩
   | upd x g' =>
    let⟨v,w',γ',id,ob,h1,h2,h3,h4⟩:=m;rcases h4 with⟨rfl,h4⟩|⟨rfl,rfl,h4⟩
    ·exact⟨v,w',γ',_,VN h4 h3,h2,yY ho hw hd h1⟩
    ·exact⟨v,w',γ',_,VM h4 h3,h2,yY ho hw hd h1⟩
   |Xi x=>exact absurd rfl (hnd x)
  ·cases d
end
end
section
variable {K V:Type}
open Classical in
noncomputable def ov(S:Nat->Prop)(wr:Nat->K->Prop)(val:Nat->K->V)(base:K->V):Nat->K->V
 |0,k=>base k
 |i+1,k=>if S i/\wr i k then val (i+1) k else ov S wr val base i k
variable {S S':Nat->Prop}{wr:Nat->K->Prop}{val:Nat->K->V}{base:K->V}{k:K}
def Qr(h:∀j,j<n->wr j k->(S j↔S' j)):ov S wr val base n k=ov S' wr val base n k:=by
 induction n with
 |zero=>rfl
 | succ n ih =>
  simp only[ov];rw[ih λj hj=>h j (by omega)]
  by_cases hw:wr n k
  ·have hS:=h n (by omega) hw
   by_cases hs:S n
   ·rw[XO ⟨hs,hw⟩,XO ⟨hS.1 hs,hw⟩]
   ·rw[XS (λhh=>hs hh.1),XS (λhh=>hs (hS.2 hh.1))]
  ·rw[XS (λhh=>hw hh.2),XS (λhh=>hw hh.2)]
def Hb(hm:m<=n)(h:∀j,m<=j->j<n->S j->¬wr j k):ov S wr val base n k=ov S wr val base m k:=by
 induction n with
 | zero=>have:m=0:=by omega
         subst this;rfl
 | succ n ih =>
  by_cases hmn:m=n+1
  ·subst hmn;rfl
  ·simp only[ov];rw[XS (λhh=>h n (by omega) (by omega) hh.1 hh.2)];exact ih (by omega) λj h1 h2=>h j h1 (by omega)
def Qp(hi:i<n)(hw:wr i k)(h:∀j,i<j->j<n->S j->¬wr j k):ov (λj=>S j\/j=i) wr val base n k=val (i+1) k:=by
 rw[Hb (m:=i+1) (by omega) (λj h1 h2 h3=>by
  rcases h3 with h3|h3
  ·exact h j (by omega) h2 h3
  ·omega)]
 simp[ov,hw]
def Ha(hw:¬wr i k):ov (λj=>S j\/j=i) wr val base n k=ov S wr val base n k:=by
 refine Qr λj _ hj=>?_;constructor
 ·rintro (h|h)
  ·exact h
  ·subst h;exact absurd hj hw
 ·exact .inl
def Qq(hi:i<=n)(keep:∀j,j<n->¬wr j k->val (j+1) k=val j k)(h:∀j,j<n->wr j k->(S j↔j<i)) :
  ((∃j,j<i/\wr j k)/\ov S wr val base n k=val i k)\/((∀j,j<i->¬wr j k)/\ov S wr val base n k=base k/\val i k=val 0 k):=by
 rw[Hb hi (λj h1 h2 h3 h4=>by have:=(h j h2 h4).1 h3;omega)];have key:∀m,m<=i->((∃j,j<m/\wr j k)/\ov S wr val base m k=val m k)\/((∀j,j<m->¬wr j k)/\ov S wr val base m k=base k/\val m k=val 0 k):=by
  intro m
  induction m with
  |zero=>intro _;exact .inr ⟨λj hj=>absurd hj (aao j),rfl,rfl⟩
  | succ m ih =>
   intro hm
   by_cases hw:wr m k
   ·left;refine⟨⟨m,by omega,hw⟩,?_⟩;simp only[ov];rw[XO ⟨(h m (by omega) hw).2 (by omega),hw⟩]
   ·simp only[ov];rw[XS (λhh=>hw hh.2)];rcases ih (by omega) with⟨⟨j,h1,h2⟩,h3⟩|⟨h1,h2,h3⟩
    ·left;exact⟨⟨j,by omega,h2⟩,by rw[h3,keep m (by omega) hw]⟩
    ·right;refine⟨λj hj=>?_,h2,by rw[keep m (by omega) hw,h3]⟩
     by_cases hjm:j=m
     ·subst hjm;exact hw
     ·exact h1 j (by omega)
 exact key i (XH _)
end
def Bi(es:List Edge)(acc:List Nat):∀(m i:Nat),
  (es.foldl (λm e=>ax (Region.binds .any e) (m ||| 2 ^ e.on ||| acc.getD e.on 0) m) m).testBit i=true ->
  m.testBit i=true\/∃e∈es,Region.binds .any e=true/\(e.on=i\/(acc.getD e.on 0).testBit i=true):=by
 induction es with
 |nil=>intro m i h;exact .inl h
 | cons e es ih =>
  intro m i h;simp only[Z1]at h;rcases ih _ i h with h|⟨e',h1,h2,h3⟩
  ·rw[aa]at h
   split at h
   ·rename_i hb;simp only[Nat.testBit_or,YE]at h;rcases h with (h|h)|h
    ·exact .inl h
    ·right;refine⟨e,YQ,hb,.inl ?_⟩;rw[abH]at h;simpa using h
    ·exact .inr ⟨e,YQ,hb,.inr h⟩
   ·exact .inl h
  ·exact .inr ⟨e',Yw _ h1,h2,h3⟩
def Eg{S:Nat->Prop}{all:List Oper}(hS:∀j o,all[j]?=some o->S j->∀e∈o.after.toList,Region.binds .any e=true->S e.on) :
  ∀(ops:List Oper) (acc:List Nat) (pre:List Oper),all=pre++ops->pre.length=acc.length->(∀j i,(acc.getD j 0).testBit i=true->S j->S i) ->
   ∀j i,((bN ops acc).getD j 0).testBit i=true->S j->S i:=by
 intro ops
 induction ops with
 |nil=>intro acc pre _ _ h;exact h
 | cons o rest ih =>
  intro acc pre k a h;simp only[bN];refine ih _ (pre++[o]) (by simp[k]) (by simp[a]) λj i hj hSj=>?_
  by_cases hlt:j<acc.length
  ·refine h j i ?_ hSj;rw[Zs,XW hlt]at hj;rw[Zs];exact hj
  ·by_cases hje:j=acc.length
   ·subst hje;rw[Zs,X_ (XH _)]at hj;simp only[YN,abn,XP]at hj;have ho:all[acc.length]?=some o:=by rw[k,<-a];simp
    rcases Bi _ acc _ _ hj with h0|⟨e,h1,h2,h3⟩
    ·simp at h0
    ·have b:=hS _ o ho hSj e h1 h2;rcases h3 with h3|h3
     ·rw[<-h3];exact b
     ·exact h _ _ h3 b
   ·rw[Zs,Yg (by simp;omega)]at hj;simp at hj
def At{α:Type}{f:Nat->α->Nat->α->Bool}{x:α}:∀{l:List α} {j0:Nat},gk f i x j0 l=true->∀(j:Nat) y,l[j]?=some y->f i x (j0+j) y=true:=by
 intro l
 induction l with
 |nil=>intro j0 _ j y h;simp at h
 | cons a l ih =>
  intro j0 h j y k;simp only[gk,XM]at h;cases j with
  |zero=>simp at k;subst k;exact h.1
  | succ j =>have:=ih h.2 j y (by simpa using k);rw[show j0+(j+1)=j0+1+j by omega];exact this
def zd{α:Type}{f:Nat->α->Nat->α->Bool}:∀{l:List α} {i0:Nat},mf f i0 l=true->∀(i j:Nat) x y,i<j->l[i]?=some x->l[j]?=some y->f (i0+i) x (i0+j) y=true:=by
 intro l
 induction l with
 |nil=>intro i0 _ i j x y _ h;simp at h
 | cons a l ih =>
  intro i0 h i j x y b hx k;simp only[mf,XM]at h;cases j with
  |zero=>omega
  | succ j =>
   cases i with
   | zero =>simp at hx;subst hx;have:=At h.1 j y (by simpa using k);rw[show i0+(j+1)=i0+1+j by omega];simpa using this
   | succ i =>have:=ih h.2 i j x y (by omega) (by simpa using hx) (by simpa using k);rw[show i0+(i+1)=i0+1+i by omega,show i0+(j+1)=i0+1+j by omega];exact this
def EQ:∀{l:List Oper} {i0:Nat},rO i0 l=true->∀(i:Nat) o,l[i]?=some o->∀e∈o.after.toList,Region.binds .any e=true->e.on<i0+i:=by
 intro l
 induction l with
 |nil=>intro i0 _ i o h;simp at h
 | cons a l ih =>
  intro i0 h i o ho e he hb;simp only[rO,XM]at h;cases i with
  | zero =>simp at ho;subst ho;have:=XQ.1 h.1 e he;simp only[hb,abl,aaA,YM]at this;simpa using this
  | succ i =>have:=ih h.2 i o (by simpa using ho) e he hb;omega
def DE:∀{l:List Oper} {i0:Nat},pf pm i0 l=true->∀(i:Nat) o,l[i]?=some o->∀j b,o.guard=some (j,b)->(pm.getD (i0+i) 0).testBit j=true:=by
 intro l
 induction l with
 |nil=>intro i0 _ i o h;simp at h
 | cons a l ih =>
  intro i0 h i o ho j b hg;simp only[pf,XM]at h;cases i with
  | zero =>simp at ho;subst ho;have:=h.1;simp only[hg]at this;simpa using this
  | succ i =>have:=ih h.2 i o (by simpa using ho) j b hg;rw[show i0+(i+1)=i0+1+i by omega];exact this
def cnt(p:Nat->Bool):Nat->Nat
 |0=>0
 |n+1=>cnt p n+(if p n then 1 else 0)
def O3{p:Nat->Bool}:∀{n:Nat},cnt p n=0->∀i,i<n->p i=false:=by
 intro n
 induction n with
 |zero=>intro _ i hi;omega
 | succ n ih =>
  intro h i hi;simp only[cnt]at h
  by_cases hin:i=n
  ·subst hin;cases hp:p i
   ·rfl
   ·simp[hp]at h
  ·exact ih (by omega) i (by omega)
def Ub{p q:Nat->Bool}(h:∀i,q i=true->p i=true):∀{n i:Nat},i<n->p i=true->q i=false->cnt q n<cnt p n:=by
 have k:∀n,cnt q n<=cnt p n:=by
  intro n
  induction n with
  |zero=>exact XH _
  | succ n ih =>
   simp only[cnt];have:=h n;cases hq:q n
   ·cases p n<;>simp<;>omega
   ·simp[this hq];omega
 intro n
 induction n with
 |zero=>intro i hi;omega
 | succ n ih =>
  intro i hi hp hq;simp only[cnt]
  by_cases hin:i=n
  ·subst hin;simp[hp,hq];have:=k i;omega
  ·have:=ih (by omega) hp hq;have h2:=h n;cases hq':q n
   ·cases p n<;>simp<;>omega
   ·simp[h2 hq'];omega
section
variable {C:Xg}{t t':T}{g:G}{ih:IH}
def J2{x:Operand}{s:Wv (T->AV)}(h:aW C x=some s)(hx:∀n,x=.tmp n->t.get AV.undef n=t'.get AV.undef n):s.run t=s.run t':=by
 cases x with
 |tmp n=>simp[aW]at h;subst h;simpa using hx n rfl
 | const v =>
  simp only[aW]at h
  split at h
  ·cases h;rfl
  ·cases h
 | global gl =>
  simp only[aW]at h
  split at h
  ·cases h;rfl
  ·cases h
 |func f=>simp[aW]at h;subst h;rfl
def Fp(C:Xg)(t t':T)(xs:List Operand):Prop:=∀x∈xs,∀s,aW C x=some s->s.run t=s.run t'
def dj:∀{xs:List Operand} {vs:Wv (T->List AV)},cp C xs=some vs->Fp C t t' xs->vs.run t=vs.run t':=by
 intro xs
 induction xs with
 |nil=>intro vs h _;simp[cp]at h;subst h;rfl
 | cons x xs ih =>
  intro vs h hx;simp only[cp]at h
  split at h
  ·rename_i a as h1 h2;cases h;simp only[hx x YQ a h1,ih h2 λy hy=>hx y (Yw _ hy)]
  ·cases h
variable {op:Op}{f:Wv JU}
def CQ{b:Builtin}{argTypes:Array TypeId}{args:List Operand}(h:dP C b argTypes args=some f)(hx:Fp C t t' args):f.run t g=f.run t' g:=by
 unfold dP at h
 split at h
 ·split at h
  ·rename_i s _ hs;cases h;simp only[hx _ (by simp) _ hs]
  ·cases h
 ·split at h
  ·rename_i sa sx _ _ ha hb;have e1:=hx _ (by simp) _ ha;have e2:=hx _ (by simp) _ hb
   repeat' (first|split at h| (rw[aa]at h;split at h))
   all_goals first| (cases h;done)| (cases h;simp only[e1,e2])
  ·cases h
 ·split at h
  ·rename_i sa sx _ ha hb;have e1:=hx _ (by simp) _ ha;have e2:=hx _ (by simp) _ hb
   repeat' (first|split at h)
   all_goals first| (cases h;done)| (cases h;simp only[e1,e2])
  ·cases h
 ·split at h
  ·rename_i s _ hs;have e1:=hx _ (by simp) _ hs
   repeat' (first|split at h)
   all_goals first| (cases h;done)| (cases h;simp only[e1])
  ·cases h
 ·split at h
  ·rename_i s _ hs;have e1:=hx _ (by simp) _ hs
   repeat' (first|split at h| (rw[aa]at h;split at h))
   all_goals first| (cases h;done)| (cases h;simp only[e1])
  ·cases h
 ·split at h
  ·rename_i sa sx ha hb;cases h;simp only[hx _ (by simp) _ ha,hx _ (by simp) _ hb]
  ·cases h
 ·split at h
  ·rename_i sa sx ha hb;cases h;simp only[hx _ (by simp) _ ha,hx _ (by simp) _ hb]
  ·cases h
 ·cases h
def J3(h:cT C op=some f)(hx:Fp C t t' op.operands.toList):f.run t g=f.run t' g:=by
 cases op<;>simp only[cT]at h<;>first| (cases h;done)|skip
 case call c =>
  let⟨callee,args,argTypes⟩:=c;cases callee<;>first| (cases h;done)|skip
  dsimp only at h;exact CQ h λx hm=>hx x (by simpa [Op.operands,Call.operands] using hm)
 case move x =>
  split at h
  ·rename_i s hs;cases h;simp only[hx _ (by simp[Op.operands]) _ hs]
  ·cases h
 case assign x =>
  split at h
  ·rename_i s hs;cases h;simp only[hx _ (by simp[Op.operands]) _ hs]
  ·cases h
 case pick c x y =>
  split at h
  ·rename_i sc sx sy hc h1 h2;cases h;simp only[hx _ (by simp[Op.operands]) _ hc,hx _ (by simp[Op.operands]) _ h1,hx _ (by simp[Op.operands]) _ h2]
  ·cases h
 case alloc ty =>
  split at h
  ·cases h;rfl
  ·cases h
 case box ty x =>
  split at h
  ·rename_i s hs;cases h;simp only[OT,hx _ (by simp[Op.operands]) _ hs]
  ·cases h
 case load ty x =>
  split at h
  ·rename_i s ag n hs v w;cases h;simp only[pj,hx _ (by simp[Op.operands]) _ hs]
  ·cases h
 case store ty x y =>
  split at h
  ·rename_i s u n hs hu w;cases h;simp only[rj,hx _ (by simp[Op.operands]) _ hs,hx _ (by simp[Op.operands]) _ hu]
  ·cases h
 case binOp op ty x y p =>
  split at h
  ·rename_i s u hs hu;cases h;simp only[hx _ (by simp[Op.operands]) _ hs,hx _ (by simp[Op.operands]) _ hu]
  ·cases h
 case unOp op ty x =>
  split at h
  ·rename_i s hs;cases h;simp only[hx _ (by simp[Op.operands]) _ hs]
  ·cases h
 case convert src dst x =>
  split at h
  ·rename_i s sd k hs o hk;cases h;simp only[hx _ (by simp[Op.operands]) _ hs]
  ·cases h
 case nilCheck x =>
  split at h
  ·rename_i s hs;cases h;simp only[hx _ (by simp[Op.operands]) _ hs]
  ·cases h
 case makeInterface ty x =>
  split at h
  ·cases h
  ·rename_i s d A hs hu;cases h;simp only[hx _ (by simp[Op.operands]) _ hs]
  ·cases h
 case makeSlice ty l c =>
  split at h
  ·rename_i e sl sc he hl hc
   split at h
   ·rw[aa]at h
    split at h
    ·cases h;simp only[jo,hx _ (by simp[Op.operands]) _ hl,hx _ (by simp[Op.operands]) _ hc]
    ·cases h
   ·cases h
  ·cases h
 case fieldAddr ty x fi =>
  split at h
  ·rename_i s fo ft hs j
   split at h
   ·cases h;simp only[lQ,hx _ (by simp[Op.operands]) _ hs]
   ·cases h
  ·cases h
 case field ty x fi =>
  split at h
  ·rename_i s fo ft hs j
   split at h
   ·cases h;simp only[hx _ (by simp[Op.operands]) _ hs]
   ·cases h
  ·cases h
 case indexAddr ty x ix =>
  split at h
  ·rename_i s i hs hi
   split at h
   ·split at h
    ·cases h;simp only[iY,hx _ (by simp[Op.operands]) _ hs,hx _ (by simp[Op.operands]) _ hi]
    ·cases h
   ·split at h
    ·cases h;simp only[pg,hx _ (by simp[Op.operands]) _ hs,hx _ (by simp[Op.operands]) _ hi]
    ·cases h
   ·cases h
  ·cases h
 case index ty x ix =>
  split at h
  ·rename_i s i hs hi
   split at h
   ·split at h
    ·cases h;simp only[yQ,hx _ (by simp[Op.operands]) _ hs,hx _ (by simp[Op.operands]) _ hi]
    ·cases h
   ·cases h;simp only[sZ,hx _ (by simp[Op.operands]) _ hs,hx _ (by simp[Op.operands]) _ hi]
   ·cases h
  ·cases h
 case lookup ty x k ok =>
  split at h
  ·rename_i m kk kt et hm hk hu
   split at h
   ·cases h;rfl
   ·cases h
  ·cases h
 case mapUpdate ty m k x =>
  split at h
  ·rename_i sm sk sx kt et hm hk b hu;cases h
   rfl
  ·cases h
 case insert ty m k x =>
  split at h
  ·rename_i sm sk sx kt et hm hk b hu;cases h
   rfl
  ·cases h
 case mapEntry ty m k =>
  split at h
  ·rename_i sm sk kt et hm hk hu
   split at h
   ·cases h;simp only[xx,hx _ (by simp[Op.operands]) _ hm,hx _ (by simp[Op.operands]) _ hk]
   ·cases h
  ·cases h
 case entryStore ty m st x =>
  split at h
  ·rename_i sm ss sx hm hs b;cases h;simp only[pL,hx _ (by simp[Op.operands]) _ hm,hx _ (by simp[Op.operands]) _ hs,hx _ (by simp[Op.operands]) _ b]
  ·cases h
 case extract x i =>
  split at h
  ·rename_i s hs;cases h;simp only[hx _ (by simp[Op.operands]) _ hs]
  ·cases h
 case makeMap ty r =>
  cases r with
  |some r=>cases h
  | none =>
   dsimp only at h
   split at h
   ·cases h;rfl
   ·cases h
 case makeFunc fn fi ca =>
  cases fn with
  | func fx =>
   dsimp only at h
   split at h
   ·rename_i sa sc ha hc;cases h;have e1:=dj ha λx hm=>hx x (by simp[Op.operands]at hm ⊢;exact .inl hm);have e2:=dj hc λx hm=>hx x (by simp[Op.operands]at hm ⊢;exact .inr hm);simp only[e1,e2]
   ·cases h
  |_=>cases h
 case buildSlice ty len parts =>
  split at h
  ·rename_i e vs he a;have e1:=dj a λx hm=>hx x (by simpa [Op.operands] using hm)
   split at h
   ·rw[aa]at h
    split at h
    ·cases h;simp only[ju,e1]
    ·cases h
   ·cases h
  ·cases h
 case build ty parts =>
  split at h
  ·rename_i zero vs hz a;have e1:=dj a λx hm=>hx x (by simpa [Op.operands] using hm)
   split at h
   ·split at h
    ·split at h
     ·cases h;simp only[qC,e1]
     ·cases h
    ·cases h
   ·split at h
    ·cases h;simp only[qC,e1]
    ·cases h
   ·cases h
  ·cases h
 case slice ty x lo hi mx =>
  have optR:∀{y:Option Operand} {s:Wv (T->List AV)},(∀z,y=some z->z∈(Op.slice ty x lo hi mx).operands.toList)->cp C y.toList=some s->s.run t=s.run t':=by
   intro y s B hs;refine dj hs λz hm=>hx z (B z ?_);cases y with
   |none=>simp at hm
   |some q=>simp at hm;rw[hm]
  cases mx with
  | none =>
   dsimp only at h
   split at h
   ·rename_i e sx sl sh hu h1 h2 h3
    split at h
    ·cases h;simp only[hx _ (by simp[Op.operands]) _ h1,optR (by rintro z rfl;simp[Op.operands]) h2,optR (by rintro z rfl;simp[Op.operands]) h3]
    ·cases h
   ·rename_i n e sx sl sh hu h1 h2 h3
    split at h
    ·cases h;simp only[nN,hx _ (by simp[Op.operands]) _ h1,optR (by rintro z rfl;simp[Op.operands]) h2,optR (by rintro z rfl;simp[Op.operands]) h3]
    ·cases h
   ·cases h
  | some mx =>
   cases hi with
   |none=>cases h
   | some hi =>
    dsimp only at h
    split at h
    ·rename_i e sx sl sh sm he h1 h2 h3 h4
     split at h
     ·cases h;simp only[hx _ (by simp[Op.operands]) _ h1,optR (by rintro z rfl;simp[Op.operands]) h2,hx _ (by simp[Op.operands]) _ h3,hx _ (by simp[Op.operands]) _ h4]
     ·cases h
    ·cases h
def J0(hx:Fp C t t' op.operands.toList):(cI C op).run ih d rd t g=(cI C op).run ih d rd t' g:=by
 unfold cI
 split
 rotate_left
 ·rfl
 rename_i f h;unfold Jc at h
 split at h
 ·rename_i fx args at2
  split at h
  ·rename_i vs k;have e1:=dj k λx hm=>hx x (by simp[Op.operands,Call.operands]at hm ⊢;exact .inr hm)
   repeat' (first|split at h| (rw[aa]at h;split at h))
   all_goals (cases h;simp only[e1])
  ·cases h
 ·rename_i fo args at2 b
  split at h
  ·rename_i fv vs a k;have e1:=dj k λx hm=>hx x (by simp[Op.operands,Call.operands]at hm ⊢;exact .inr hm);have e2:=hx fo (by simp[Op.operands,Call.operands]) _ a;cases h;simp only[e1,e2]
  ·cases h
 ·cases h;rfl
 ·rename_i fo args at2
  split at h
  ·rename_i fv vs a k;have e1:=dj k λx hm=>hx x (by simp[Op.operands,Call.operands]at hm ⊢;exact .inr hm);have e2:=hx fo (by simp[Op.operands,Call.operands]) _ a;cases h;simp only[e1,e2]
  ·cases h
 ·split at h
  ·rename_i s hs;cases h;exact J3 hs hx
  ·cases h
theorem HT{g':G}(hh:g.h=g'.h)(hx:Fp C t t' op.operands.toList):(aV C op).run t g=(aV C op).run t' g':=by
 have one:∀{x:Operand} {F:AV->Looks},x∈op.operands.toList ->
   (match aW C x with|some a=>(⟨λt _=>F (a.run t)⟩:Wv (T->G->Looks))|none=>⟨λ_ _=>cz⟩).run t g =
   (match aW C x with|some a=>(⟨λt _=>F (a.run t)⟩:Wv (T->G->Looks))|none=>⟨λ_ _=>cz⟩).run t' g':=by
  intro x F hm;cases hs:aW C x with
  |none=>rfl
  |some s=>simp only[hx x hm s hs]
 cases op<;>first|rfl|skip
 case load ty x=>exact one (F:=λv=>am (aw v)) (by simp[Op.operands])
 case store ty x y=>exact one (F:=λv=>am (aw v)) (by simp[Op.operands])
 case slice ty x lo hi mx=>exact one (F:=λv=>am (aw v)) (by simp[Op.operands])
 case mapUpdate ty x k y=>exact one (F:=λv=>am (aw v)) (by simp[Op.operands])
 case insert ty x k y=>exact one (F:=λv=>am (aw v)) (by simp[Op.operands])
 case entryStore ty x k y=>exact one (F:=λv=>am (aw v)) (by simp[Op.operands])
 case mapEntry ty x k=>exact one (F:=λv=>⟨aw v,[],(aw v).map (·,ty),false⟩) (by simp[Op.operands])
 case lookup ty x k ok =>
  cases ok
  ·exact one (F:=λv=>⟨[],(aw v).map (·,ty),[],false⟩) (by simp[Op.operands])
  ·exact one (F:=λv=>am (aw v)) (by simp[Op.operands])
 case indexAddr ty x ix =>
  simp only[aV]
  split
  ·rename_i e s hu hs;simp only[hx x (by simp[Op.operands]) s hs]
  ·rfl
 case call c =>
  obtain⟨callee,args,argTypes⟩:=c;cases callee with
  | builtin b =>
   simp only[aV]
   split
   ·rename_i vs d;simp only[dj d λx hm=>hx x (by simpa [Op.operands,Call.operands] using hm)]
   ·rfl
  | value fo =>
   simp only[aV]
   split
   ·rename_i fv vs f d;simp only[dj d λx hm=>hx x (by simp[Op.operands,Call.operands]at hm ⊢;exact .inr hm),hx fo (by simp[Op.operands,Call.operands]) _ f,hh]
   ·rfl
  |invoke r m=>rfl
end
section
variable {C:Xg}{A:Nat->Nat->Prop}{bd:Nat}{w w':World}{γ γ':Gm}{hg:Nat->Xh}{nx:Nat}
variable {t:T}{g:G}{ih:IH}
def TR.put{nt:Nat}{a:Act}{dst:Option Tmp}{out:Wv (T->AV->T)}{x:AV}{v:Value}(ho:ta nt dst=some out)(ht:TR w γ A bd nt t a.tmps)(hv:RV w γ A bd x v) :
  TR w γ A bd nt (out.run t x) (a.put dst v).tmps:=by
 cases dst with
 |none=>simp[ta]at ho;subst ho;exact ht
 | some d =>
  simp only[ta,aa]at ho
  split at ho
  ·rename_i hd;rw[YM]at hd;cases ho;refine⟨by simp[Act.put,ht.1],λs=>?_⟩;rw[Vc]
   by_cases hs:s=d
   ·subst hs;rw[XO rfl];have:s<a.tmps.size:=by rw[ht.1];exact hd
    simpa [Act.put,Array.getD,this] using hv
   ·rw[XS hs];have:=ht.2 s;simp only[Act.put,Yx]at this ⊢;rw[Zr (Y5 hs)];exact this
  ·cases ho
def nI{ops:Array Oper}{o:Oper}{q:Wv (T->Option Bool)}{bv:Bool}{tmps:Array Value}(hq:jP ops.toList o.guard=some q)(ht:TR w γ A bd nt t tmps)
  (h:q.run t=some bv):Region.wanted o (yielded ops tmps)=bv:=by
 unfold Region.wanted;cases hg:o.guard with
 | none =>rw[hg]at hq;simp[jP]at hq;subst hq;injection h with h
 | some p =>
  let⟨j,want⟩:=p;rw[hg]at hq;simp only[jP]at hq
  split at hq
  ·rename_i oj c
   split at hq
   ·rename_i d hd;cases hq;have a:ops[j]?=some oj:=by simpa using c
    dsimp only at h;rw[Wz]at h;have k:=ht.2 d;simp only[yielded,a,ZG,hd];generalize t.get AV.undef d=y at h k
    split at h
    ·rename_i b;cases h;have hb:tmps[d]?=some (.bool b):=by
      cases hrv':tmps[d]? with
      |none=>simp[Yx,hrv',undef]at k;cases k
      | some v =>simp only[Yx,hrv',XP]at k;cases k;rfl
     simp only[hb];cases want<;>cases b<;>rfl
    ·cases h;cases hrv':tmps[d]? with
     |none=>rfl
     | some v =>simp only[Yx,hrv',XP]at k;cases k;rfl
    ·cases h
   ·cases hq
  ·cases hq
def GA{all:List Oper}{gd:Option (Nat×Bool)}{q:Wv (T->Option Bool)}{t t':T}(hq:jP all gd=some q)
  (h:∀j b oj d,gd=some (j,b)->all[j]?=some oj->oj.dst=some d->t.get AV.undef d=t'.get AV.undef d):q.run t=q.run t':=by
 cases gd with
 |none=>simp[jP]at hq;subst hq;rfl
 | some p =>
  let⟨j,want⟩:=p;simp only[jP]at hq
  split at hq
  ·rename_i oj k
   split at hq
   ·rename_i d hd;cases hq;dsimp only;rw[Wz,Wz,h j want oj d rfl k hd]
   ·cases hq
  ·cases hq
variable {b:Frame}{a:Act}{ops:Array Oper}{i:Nat}{rest:List Nat}{k:List Item}{cs:List Frame}{o:Oper}
def Hs{P:Program}{d:Deferred}(ho:ops[i]?=some o)(hw:Region.wanted o (yielded ops a.tmps)=true)(hro:b.roundOf=none)
  (hrun:(execOp a.eval o).run P w=.ok (.defer d) w) :
  step P (lone (b.atR a (.inRegion ops (i::rest)::k)) cs w)=.next (lone (b.atR ({ a with defers:=d::a.defers }.put o.dst undef) (.inRegion ops rest::k)) cs w):=by
 have h:=Frame.finish_atR b { a with defers:=d::a.defers } ops i rest k undef;rw[ho]at h;simp only[ZG]at h;refine step_lone_go ?_;rw[stepGR_op ho hw,hro,Oper.semAt_none,<-h];simp[stepG.apply,hrun,Frame.atR]
theorem w_{P:Program}(ho:ops[i]?=some o)(hw:Region.wanted o (yielded ops a.tmps)=false) :
  step P (lone (b.atR a (.inRegion ops (i::rest)::k)) cs w)=.next (lone (b.atR (a.put o.dst undef) (.inRegion ops rest::k)) cs w):=by
 have:=stepR_op_skip (P:=P) (b:=b) (a:=a) (k:=k) (cs:=cs) (w:=w) (ops:=ops) (i:=i) (rest:=rest) (by rw[ho];simpa using hw);rw[ho]at this;simpa using this
def Lz(hr:W4 C A bd w γ hg nx)(ht:TR w γ A bd nt t a.tmps)(hrd:VD γ rd b)(hdf:DR w γ A bd df a.defers)
  {x:Xo} (h:(cI C o.op).run ih d rd t g=.Xi x) (hE:∀f e d args g y,C.ext f=some e->e d args g≠.Xi y) (ho:ops[i]?=some o) (hw:Region.wanted o (yielded ops a.tmps)=true) :
  ∃dd,DR w γ A bd (x::df) (dd::a.defers) /\
   step C.P (lone (b.atR a (.inRegion ops (i::rest)::k)) cs w)=.next (lone (b.atR ({ a with defers:=dd::a.defers }.put o.dst undef) (.inRegion ops rest::k)) cs w):=by
 have ON:∀f args,aj ih d g f args≠.Xi x:=by
  intro f args;unfold aj
  repeat' (first|split|rw[aa])
  all_goals (intro h;cases h)
 have orf:∀r,K3 r≠.Xi x:=by intro r h;cases r<;>cases h
 have rnd:∀id args,da ih d id args g≠.Xi x:=by
  intro id args;unfold da
  repeat' split
  all_goals (intro h;cases h)
 unfold cI at h
 split at h
 rotate_left
 ·cases h
 rename_i f c;generalize hop:o.op=op at c;unfold Jc at c
 split at c
 ·rename_i fx args at2
  split at c
  ·split at c
   ·rename_i e he;cases c;exact absurd h (hE _ _ _ _ _ _ he)
   ·rw[aa]at c
    split at c
    ·cases c;exact absurd h (ON _ _)
    ·cases c;exact absurd h (orf _)
  ·cases c
 ·rename_i fo args at2 m
  split at c
  ·rename_i fv vs j l;cases c;dsimp only at h;unfold kT at h
   split at h
   ·split at h
    ·rename_i e he;exact absurd h (hE _ _ _ _ _ _ he)
    ·rw[aa]at h
     split at h
     ·exact absurd h (ON _ _)
     ·exact absurd h (orf _)
   ·exact absurd h (rnd _ _)
   ·cases h
  ·cases c
 ·cases c;cases h
 ·rename_i fo args at2
  split at c
  ·rename_i fv vs j l;cases c;dsimp only at h;cases rd with
   |some _=>cases h
   | none =>
    dsimp only at h;have hf:=aA j ht hr;have hv:=i_ ht hr l;generalize hfo:a.eval fo=vfo at hf;generalize fv.run t=y at h hf;cases hf with
    | W_ _ fx xs ys vs1 us1 hl hl2 h1 h2 =>
     dsimp only at h;injection h with h;subst h;refine⟨{ target:=.fn (.func fx) us1,args:=vs1++args.map a.eval },⟨⟨fx,ys,us1,rfl,rfl,VU hl2 h2,?_⟩,hdf⟩,Hs ho hw hrd ?_⟩
     ·have:=(VU hl h1).append hv;simpa using this
     ·simp only[execOp,hop,resolve,hfo,Deferred.ofValue,Yb,Yu,XT]
    |_=>cases h
  ·cases c
 ·split at c
  ·rename_i s hs;injection c with c;subst c;have:=Bf (t:=t) (g:=g) hs;have h:s.run t g=.Xi x:=h;rw[h]at this;exact this.elim
  ·cases c
theorem OW(hC:Xa C)(hi:V7 C ih):∀(l:List Oper) (i:Nat) {t:T} {df:List Xo} {g:G} {e:Ex} {t':T} {df':List Xo} {g':G},
  ops.toList.drop i=l->(lA C nt ops.toList l).run ih (bd+1) rd t df g=.ok e t' df' g'->WF g ->
  ∀{w γ hg nx a},W4 C A bd w γ hg nx->PI g.h hg->Wm γ g g'->TR w γ A bd nt t a.tmps->DR w γ A bd df a.defers->VD γ rd b->rC b.kind cs ->
   e=.norm/\∃a' w' γ' hg',Fin C A bd w γ hg nx g w' γ' hg' g'/\TR w' γ' A bd nt t' a'.tmps/\DR w' γ' A bd df' a'.defers /\
    Steps C.P (lone (b.atR a (.inRegion ops (List.range' i l.length)::k)) cs w) (lone (b.atR a' k) cs w'):=by
 intro l
 induction l with
 | nil =>intro i t df g e t' df' g' _ h _ w γ hg nx a hr hx hf ht n v c;simp only[lA]at h;injection h with h1 h2 h3 h4;subst h1;subst h2;subst h3;subst h4;exact⟨rfl,a,w,γ,hg,Fin.refl hr,ht,n,.one stepR_region_end⟩
 | cons o rest ihl =>
  intro i t df g e t' df' g' p h z w γ hg nx a hr hx hf ht n v c;have ho:ops[i]?=some o:=by
   have:(ops.toList.drop i)[0]?=some o:=by rw[p];rfl
   simpa [YH] using this
  have m:ops.toList.drop (i+1)=rest:=by rw[<-Zb,p];rfl
  have B:List.range' i (o::rest).length=i::List.range' (i+1) rest.length:=by simp[aaY]
  rw[B];have exec:∀{out:Wv (T->AV->T)},ta nt o.dst=some out->Region.wanted o (yielded ops a.tmps)=true ->
    rx out.run ((lA C nt ops.toList rest).run ih (bd+1) rd) t df g ((cI C o.op).run ih (bd+1) rd t g)=.ok e t' df' g' ->
    e=.norm/\∃a' w' γ' hg',Fin C A bd w γ hg nx g w' γ' hg' g'/\TR w' γ' A bd nt t' a'.tmps/\DR w' γ' A bd df' a'.defers /\
     Steps C.P (lone (b.atR a (.inRegion ops (i::List.range' (i+1) rest.length)::k)) cs w) (lone (b.atR a' k) cs w'):=by
   intro out j hw h;have hm:=jQ (op:=o.op) (d:=bd+1) (rd:=rd) (t:=t) hC.WZ hi.WZ z;generalize hres:(cI C o.op).run ih (bd+1) rd t g=r at h hm;have go:∀{x:AV} {g1:G},r≠.fail->(∀y,r≠.Xi y)->OM r=x->Wh g r=g1->(lA C nt ops.toList rest).run ih (bd+1) rd (out.run t x) df g1=.ok e t' df' g' ->
     e=.norm/\∃a' w' γ' hg',Fin C A bd w γ hg nx g w' γ' hg' g'/\TR w' γ' A bd nt t' a'.tmps/\DR w' γ' A bd df' a'.defers /\
     Steps C.P (lone (b.atR a (.inRegion ops (i::List.range' (i+1) rest.length)::k)) cs w) (lone (b.atR a' k) cs w'):=by
    intro x g1 J I K H h;subst K;subst H;have w1:=hm.wf z;have L:=CT hC.WZ hi.WZ h w1;obtain⟨u,wa,γa,M,f1,rv,st⟩:=Ks (b:=b) (cs:=cs) (rest:=List.range' (i+1) rest.length) (k:=k) hC hi hr z ht c hx.agr hres J I (hf.le L.nx) ho hw;obtain⟨he,a',wb,γb,s,f2,tr,dr,st2⟩:=ihl (i+1) m h w1 (a:=a.put o.dst u) f1.rel (f1.ext hm hx) (f1.freed hr hm hf) ((ht.step f1.pk).put j rv)
     (by have:=n.step f1.pk;cases hd:o.dst<;>simpa [Act.put,hd] using this) (v.step f1.pk) c
    exact⟨he,a',wb,γb,s,f1.trans f2 hm L,tr,dr,Steps.trans st st2⟩
   cases r with
   |fail=>cases h
   |val x=>exact go (by simp) (by simp) rfl rfl h
   |upd x g1=>exact go (by simp) (by simp) rfl rfl h
   | Xi x =>
    obtain⟨dd,F,st⟩:=Lz (b:=b) (cs:=cs) (rest:=List.range' (i+1) rest.length) (k:=k) hr ht v n hres (λf e d args g y he hy=>by exact extNoDfr hC he hy) ho hw
    obtain⟨he,a',wb,γb,s,f2,tr,dr,st2⟩:=ihl (i+1) m h z (a:={ a with defers:=dd::a.defers }.put o.dst undef) hr hx hf
     (ht.put (a:={ a with defers:=dd::a.defers }) j pB)
     (by cases hd:o.dst<;>simpa [Act.put,hd] using F) v c
    exact⟨he,a',wb,γb,s,f2,tr,dr,.head st st2⟩
  simp only[lA]at h
  split at h
  ·rename_i out j
   split at h
   ·rename_i D;refine exec j ?_ h;simp[Region.wanted,D]
   ·rename_i gd D
    split at h
    ·rename_i q hq;rw[<-D]at hq;dsimp only at h
     split at h
     ·rename_i E;exact exec j (nI hq ht E) h
     ·rename_i E;have hw:=nI hq ht E;obtain⟨he,a',wb,γb,s,f2,tr,dr,st2⟩:=ihl (i+1) m h z (a:=a.put o.dst undef) hr hx hf
       (ht.put j pB) (by cases hd:o.dst<;>simpa [Act.put,hd] using n) v c
      exact⟨he,a',wb,γb,s,f2,tr,dr,.head (w_ ho hw) st2⟩
     ·cases h
    ·cases h
  ·cases h where
 extNoDfr {f d:Nat} {e:Nat->List AV->G->OR} {args:List AV} {g:G} {y:Xo} (hC:Xa C) (he:C.ext f=some e) (hy:e d args g=.Xi y):False:=by exact (hC.UH f e he d args g y) hy
end
def Vq(h:((aV C op).run t g).sr≠[]):∃ty x k a,op=.lookup ty x k false/\aW C x=some a /\
  (aV C op).run t g=⟨[],(aw (a.run t)).map (·,ty),[],false⟩:=by
 cases op<;>simp only[aV]at h ⊢<;>try (exact absurd rfl h)
 case lookup ty x k ok =>
  cases ok
  ·dsimp only at h ⊢
   split at h
   ·rename_i a ha;exact⟨ty,x,k,a,rfl,ha,by simp[ha]⟩
   ·exact absurd rfl h
  ·dsimp only at h
   split at h<;>exact absurd rfl h
 case call c =>
  let⟨callee,args,at'⟩:=c;cases callee<;>simp only at h
  ·split at h
   ·dsimp only at h
    split at h
    ·rw[aa]at h;split at h<;>exact absurd rfl h
    ·exact absurd rfl h
   ·exact absurd rfl h
  ·exact absurd rfl h
  ·split at h<;>exact absurd rfl h
 all_goals (split at h<;>exact absurd rfl h)
def HU{ih:IH}{ty:TypeId}{x k:Operand}{ok:Bool}(h:(cI C (.lookup ty x k ok)).run ih d rd t g=r)(hne:r≠.fail) :
  ∃a kk kt et z,aW C x=some a/\aW C k=some kk/\C.P.underlying ty=some (.map kt et)/\JN C.P et=some z /\
   (∀t g,(cI C (.lookup ty x k ok)).run ih d rd t g=zR (qq C.P kt) z ok a.run kk.run t g)/\r=zR (qq C.P kt) z ok a.run kk.run t g:=by
 unfold cI at h ⊢;simp only[Jc,cT]at h ⊢
 split at h
 ·rename_i f hf
  split at hf
  ·rename_i s hs;cases hf
   split at hs
   ·rename_i a kk kt et ha hk hu
    split at hs
    ·rename_i z hz;cases hs;refine⟨a,kk,kt,et,z,ha,hk,hu,hz,λt g=>?_,h.symm⟩;simp only[ha]
    ·cases hs
   ·cases hs
  ·cases hf
 ·exact absurd h.symm hne
def Ho{x:W7}:∀{l:List W7} {j0 j:Nat} {y:W7},l[j]?=some y->(pm.getD (j0+j) 0).testBit i=false->meets y.wr (Uf x.lk.sr)=true ->
  1<=fk pm i x j0 l:=by
 intro l
 induction l with
 |nil=>intro j0 j y h;simp at h
 | cons a l ih =>
  intro j0 j y h h1 h2;cases j with
  | zero =>
   simp at h;subst h;simp only[fk,aa];rw[XS]
   ·omega
   ·simp only[Zf]at h1;rw[h1,h2];simp
  | succ j =>
   have:=ih (by simpa using h) (by rw[show Nat.succ j0+j=j0+(j+1) by omega];exact h1) h2;simp only[fk,aa]
   split<;>omega
theorem Fn{x:W7}:∀{l:List W7} {j0 j j':Nat} {y y':W7},j<j'->l[j]?=some y->l[j']?=some y'->(pm.getD (j0+j) 0).testBit i=false->(pm.getD (j0+j') 0).testBit i=false ->
  meets y.wr (Uf x.lk.sr)=true->meets y'.wr (Uf x.lk.sr)=true->2<=fk pm i x j0 l:=by
 intro l
 induction l with
 |nil=>intro j0 j j' y y' _ h;simp at h
 | cons a l ih =>
  intro j0 j j' y y' hlt h h' h1 k h2 b;cases j' with
  |zero=>omega
  | succ j' =>
   cases j with
   | zero =>
    simp at h;subst h;have:=Ho (pm:=pm) (i:=i) (x:=x) (j0:=Nat.succ j0) (j:=j') (by simpa using h') (by rw[show Nat.succ j0+j'=j0+(j'+1) by omega];exact k) b;simp only[fk,aa];rw[XS]
    ·omega
    ·simp only[Zf]at h1;rw[h1,h2];simp
   | succ j =>
    have:=ih (j0:=Nat.succ j0) (j:=j) (j':=j') (by omega) (by simpa using h) (by simpa using h') (by rw[show Nat.succ j0+j=j0+(j+1) by omega];exact h1) (by rw[show Nat.succ j0+j'=j0+(j'+1) by omega];exact k) h2 b;simp only[fk,aa]
    split<;>omega
def Lf{b x:Bool}(h:ax b x false=true):b=true/\x=true:=by
 cases b
 ·cases h
 ·exact⟨rfl,h⟩
theorem Hq:∀{l:List W7} {i0:Nat},wZ pm i0 l=true->∀(i j j':Nat) x y y',i<j->j<j'->l[i]?=some x->l[j]?=some y->l[j']?=some y'->x.lk.sr≠[] ->
  (pm.getD (i0+j) 0).testBit (i0+i)=false->(pm.getD (i0+j') 0).testBit (i0+i)=false->meets y.wr (Uf x.lk.sr)=true->meets y'.wr (Uf x.lk.sr)=true->False:=by
 intro l
 induction l with
 |nil=>intro i0 _ i j j' x y y' _ _ h;simp at h
 | cons a l ih =>
  intro i0 h i j j' x y y' m n hx f d c h1 k h2 b;obtain⟨hc,h⟩:=Lf h;cases j' with
  |zero=>omega
  | succ j' =>
   cases j with
   |zero=>omega
   | succ j =>
    cases i with
    | zero =>
     simp at hx;subst hx;have e:Nat.ble (fk pm i0 a (Nat.succ i0) l) 1=true:=by
      cases hsr':a.lk.sr with
      |nil=>exact absurd hsr' c
      |cons p r=>rw[hsr']at hc;exact hc
     rw[Yt]at e;have:=Fn (pm:=pm) (i:=i0) (x:=a) (j0:=Nat.succ i0) (j:=j) (j':=j') (by omega) (by simpa using f) (by simpa using d)
      (by rw[show Nat.succ i0+j=i0+(j+1) by omega];exact h1) (by rw[show Nat.succ i0+j'=i0+(j'+1) by omega];exact k) h2 b
     omega
    | succ i =>
     refine ih h i j j' x y y' (by omega) (by omega) (by simpa using hx) (by simpa using f) (by simpa using d) c ?_ ?_ h2 b
     ·rw[show Nat.succ i0+j=i0+(j+1) by omega,show Nat.succ i0+i=i0+(i+1) by omega];exact h1
     ·rw[show Nat.succ i0+j'=i0+(j'+1) by omega,show Nat.succ i0+i=i0+(i+1) by omega];exact k
def nJ{a b:List Nat}{x:Nat}(ha:x∈a)(hb:x∈b):meets a b=true:=by unfold meets;exact List.any_eq_true.2 ⟨x,ha,by simpa using hb⟩
def Ik{l:List (Nat×Nat)}{x:Nat}(h:x∈l.map (·.1)):x∈Uf l:=h
def Ku{p:Nat×Nat}:∀{l:List (Nat×Nat)},Hc p l=true->p∈l:=by
 intro l
 induction l with
 |nil=>intro h;cases h
 | cons q l ih =>
  intro h;simp only[Hc,aa]at h
  split at h
  ·rename_i hc;simp only[XM]at hc;have h1:=ba hc.1;have h2:=ba hc.2;exact Yh.2 (.inl (Prod.ext h1 h2))
  ·exact Yw _ (ih h)
end
end Hx
