/- A part of the proof: what the functions of the chapter compute. -/
import Derived.RangeFuncIn
import Derived.AtR
import Derived.Test.YtkbieohddgjioaaGreatHx2
set_option linter.all false
set_option maxRecDepth 20000
set_option maxHeartbeats 8000000
namespace Hx
open Go
noncomputable section
variable {g:G}{d k nt n i off j m f:Nat}{v:AV}{h:H}{t:T}{rd:Option Nat}{df:List ADf}{C:Cfg}{P:Nat->Prop}{cs row args:List AV}{op:Op}{l:List Int}{r:OR}{x:Int}{assign body:Code}
section
open Classical in
noncomputable def I(C:Cfg):IH :=
 ⟨λnt d rd c t df g=>if h:∃n,(sem C n).code nt d rd c t df g≠.fail then (sem C (Classical.choose h)).code nt d rd c t df g else .fail,
  λd f as g=>if h:∃n,(sem C n).call d f as g≠.fail then (sem C (Classical.choose h)).call d f as g else .fail⟩
def Ct(C:Cfg){α:Type}(F:IH->α):Prop:=∃n,∀m,n<=m->F (sem C m)=F (I C)
variable {C:Cfg}
theorem Ct.const{α:Type}(a:α):Ct C (λ_=>a):=⟨0,λ_ _=>rfl⟩
theorem Ct.bind{α β:Type}{F:IH->α}{K:IH->α->β}(h:Ct C F)(hk:Ct C λj=>K j (F (I C))):Ct C λj=>K j (F j):=by obtain⟨n,h⟩:=h;obtain⟨m,hk⟩:=hk;refine⟨max n m,λk hm=>?_⟩;have h1:=h k (by omega);have h2:=hk k (by omega);simp only[h1];exact h2
theorem Ct.map{α β:Type}{F:IH->α}(K:α->β)(h:Ct C F):Ct C λj=>K (F j):=Ct.bind (K:=λ_=>K) h (.const _)
theorem Ct.code(nt d:Nat)(rd:Option Nat)(c:Code)(t:T)(df:List ADf)(g:G):Ct C λj=>j.code nt d rd c t df g:=by
 by_cases h:∃n,(sem C n).code nt d rd c t df g≠.fail
 ·refine⟨Classical.choose h,λm hm=>?_⟩;have hs:=Classical.choose_spec h;have e:(I C).code nt d rd c t df g=(sem C (Classical.choose h)).code nt d rd c t df g:=dif_pos h;show _=(I C).code nt d rd c t df g;rw[e];rcases (OI C hm).code nt d rd c t df g with q|q
  ·exact absurd q hs
  ·exact q.symm
 ·refine⟨0,λm _=>?_⟩;have e:(I C).code nt d rd c t df g=.fail:=dif_neg h;show _=(I C).code nt d rd c t df g;rw[e];exact W6 λq=>h ⟨m,q⟩
theorem Ct.call(d f:Nat)(as:List AV)(g:G):Ct C λj=>j.call d f as g:=by
 by_cases h:∃n,(sem C n).call d f as g≠.fail
 ·refine⟨Classical.choose h,λm hm=>?_⟩;have hs:=Classical.choose_spec h;have e:(I C).call d f as g=(sem C (Classical.choose h)).call d f as g:=dif_pos h;show _=(I C).call d f as g;rw[e];rcases (OI C hm).call d f as g with q|q
  ·exact absurd q hs
  ·exact q.symm
 ·refine⟨0,λm _=>?_⟩;have e:(I C).call d f as g=.fail:=dif_neg h;show _=(I C).call d f as g;rw[e];exact W6 λq=>h ⟨m,q⟩
theorem Ax:Ct C λj=>an j d g f args:=by
 unfold an
 split
 ·exact .const _
 ·rename_i as _;obtain⟨n,h⟩:=Ct.call (C:=C) (Nat.succ d) f as G.empty;exact⟨n,λm hm=>by
   have e:(sem C m).call (Nat.succ d) f as G.empty=(I C).call (Nat.succ d) f as G.empty:=h m hm;simp only[e]⟩
theorem KO{id:Nat}:Ct C λj=>cL j d id args g:=by
 unfold cL
 split
 ·split
  ·exact .const _
  ·rename_i nt t ps assign body dfr st pend hg o t' ht;refine Ct.bind (K:=λj r=>match r with
    | .ok .norm t1 [] g1=>match g1.get id with
     | .loop nt1 t ps assign1 body1 dfr .ready pend =>
      match j.code nt d (some id) body t1 [] (g1.put id (.loop nt1 t ps assign1 body1 dfr .busy pend)) with
      | .ok e _ [] g2=>match g2.get id with
       | .loop nt t ps assign body dfr _ _=>match e with
        |.norm=>OR.upd (.bool true) (g2.put id (.loop nt t ps assign body dfr .ready none))
        |.exit j=>.upd (.bool false) (g2.put id (.loop nt t ps assign body dfr .done (some (.exit j))))
        |.ret=>.upd (.bool false) (g2.put id (.loop nt t ps assign body dfr .done (some .ret)))
       |_=>.fail
      |_=>.fail
     |_=>.fail
    |_=>.fail) (Ct.code nt d (some id) assign t' [] g) ?_
   split
   ·split
    ·rename_i t1 g1 _ _ nt1 h ps2 assign1 body1 dfr1 pend1 _;exact Ct.map (λr=>match r with
      | .ok e _ [] g2=>match g2.get id with
       | .loop nt t ps assign body dfr _ _=>match e with
        |.norm=>OR.upd (.bool true) (g2.put id (.loop nt t ps assign body dfr .ready none))
        |.exit j=>.upd (.bool false) (g2.put id (.loop nt t ps assign body dfr .done (some (.exit j))))
        |.ret=>.upd (.bool false) (g2.put id (.loop nt t ps assign body dfr .done (some .ret)))
       |_=>.fail
      |_=>.fail) (Ct.code nt d (some id) body t1 [] (g1.put id (.loop nt1 h ps2 assign1 body1 dfr1 .busy pend1)))
    ·exact .const _
   ·exact .const _
 ·exact .const _
theorem Mv{fv:AV}{vs:List AV}:Ct C λj=>j8 C j d fv vs g:=by
 unfold j8
 split
 ·split
  ·exact .const _
  ·simp only[aa]
   split
   ·exact Ax
   ·exact Ct.map orF (Ct.call _ _ _ _)
 ·exact KO
 ·exact .const _
theorem RT{x:Stg LW}(hx:cOp C op=some x):Ct C λj=>x.run j d rd t g:=by
 unfold cOp at hx
 repeat' (first|split at hx|rw[aa]at hx)
 all_goals first
  | (cases hx;done)
  | (injection hx with hx;subst hx;first|exact Ct.const _|exact Ax|exact Ct.map orF (Ct.call _ _ _ _)|exact Mv)
theorem DT:Ct C λj=>(dC C op).run j d rd t g:=by
 unfold dC
 split
 ·rename_i x hx;exact RT hx
 ·exact .const _
theorem CO{out:T->AV->T}{n:IH->T->List ADf->G->CR}{a:IH->OR}(h:Ct C a)(hn:∀t df g,Ct C λj=>n j t df g) :
  Ct C λj=>pt out (n j) t df g (a j):=by
 refine Ct.bind (K:=λj r=>pt out (n j) t df g r) h ?_;cases a (I C) with
 |fail=>exact .const _
 |val v=>exact hn _ _ _
 |upd v g'=>exact hn _ _ _
 |dfr a=>exact hn _ _ _
theorem FA{out:T->AV->T}{n:IH->T->List ADf->G->List Foot->CR}{fs:List Foot}{lk:Looks}{a:IH->OR}(h:Ct C a)
  (hn:∀t df g fs,Ct C λj=>n j t df g fs):Ct C λj=>kT out (n j) t df g fs lk (a j):=by
 refine Ct.bind (K:=λj r=>kT out (n j) t df g fs lk r) h ?_;cases a (I C) with
 |fail=>exact .const _
 |val v=>exact hn _ _ _ _
 |upd v g'=>exact hn _ _ _ _
 |dfr a=>exact .const _
theorem Jd{n:IH->T->List ADf->G->CR}{a:IH->CR}(h:Ct C a)(hn:∀t df g,Ct C λj=>n j t df g):Ct C λj=>Cu (n j) (a j):=by
 refine Ct.bind (K:=λj r=>Cu (n j) r) h ?_;unfold Cu
 split
 ·exact hn _ _ _
 ·exact .const _
theorem wE{nt:Nat}{all:List Oper}:∀(l:List Oper) (d:Nat) (rd:Option Nat) (t:T) (df:List ADf) (g:G),Ct C λj=>(jE C nt all l).run j d rd t df g
 |[],_,_,_,_,_=>.const _
 | o::rest,d,rd,t,df,g=>by
  unfold jE
  split
  ·split
   ·exact CO DT λt df g=>wE rest d rd t df g
   ·split
    ·dsimp only
     split
     ·exact CO DT λt df g=>wE rest d rd t df g
     ·exact wE rest d rd _ df g
     ·exact .const _
    ·exact .const _
  ·exact .const _
theorem Aw{nt:Nat}{pm:List Nat}{all:List Oper}:∀(l:List Oper) (k d:Nat) (rd:Option Nat) (t:T) (df:List ADf) (g:G) (fs:List Foot),
  Ct C λj=>(iN C nt pm all k l).run j d rd t df g fs
 |[],_,_,_,_,_,_,_=>.const _
 | o::rest,k,d,rd,t,df,g,fs=>by
  unfold iN
  split
  ·dsimp only
   split
   ·exact FA DT λt df g fs=>Aw rest (k+1) d rd t df g fs
   ·exact Aw rest (k+1) d rd _ df g _
   ·exact .const _
  ·exact .const _
theorem HC{ops:List Oper}{draw:Bool}:Ct C λj=>(fW C nt ops draw).run j d rd t df g:=by
 unfold fW;simp only[aa]
 split
 ·split
  ·split
   ·exact Ct.map (ny g) (wE _ _ _ _ _ _)
   ·exact Aw _ _ _ _ _ _ _ _
  ·exact .const _
 ·exact wE _ _ _ _ _ _
theorem Fz{id:Nat}:Ct C λj=>d_ j nt d rd id t df g:=by
 unfold d_
 split
 ·split
  ·exact .const _
  ·split
   ·exact .const _
   ·exact Ct.code _ _ _ _ _ _ _
 ·exact .const _
theorem wF{fv:AV}{ps:List Nat}{dfr:Nat} :
  Ct C λj=>cP C j nt d rd fv ps assign body t df dfr g:=by
 unfold cP
 split
 ·rename_i f first cap
  simp only[aa]
  split
  ·exact .const _
  ·refine Ct.bind (K:=λj r=>match r with|.ok _ g2=>d_ j nt d rd g.nx t df g2|.fail=>.fail) (Ct.call d f (first++(.yld g.nx::cap)) (g.new (.loop nt t ps assign body dfr .ready none))) ?_
   split
   ·exact Fz
   ·exact .const _
 ·exact .const _
theorem KN{fo:T->AV}{ps:List Nat}:Ct C λj=>nz C nt fo ps assign body j d rd t df g:=by
 unfold nz
 split
 ·split
  ·exact wF
  ·exact .const _
 ·exact wF
theorem Fw:∀(c:Code) (d:Nat) (rd:Option Nat) (t:T) (df:List ADf) (g:G),Ct C λj=>(aU C nt c).run j d rd t df g:=by
 intro c
 induction c with
 |seq a b iha ihb=>intro d rd t df g;unfold aU;exact Jd (iha _ _ _ _ _) λt df g=>ihb _ _ _ _ _
 | cond q a b iha ihb =>
  intro d rd t df g;unfold aU
  split
  ·dsimp only
   split
   ·simp only[aa]
    split
    ·exact iha _ _ _ _ _
    ·exact ihb _ _ _ _ _
   ·exact .const _
  ·exact .const _
 |block id body ih=>intro d rd t df g;unfold aU;exact Ct.map (uR id) (ih _ _ _ _ _)
 |loop body ih=>intro d rd t df g;unfold aU;exact Jd (ih _ _ _ _ _) λt df g=>Ct.code _ _ _ _ _ _ _
 |scope body ih=>intro d rd t df g;unfold aU;exact ih _ _ _ _ _
 |region p ops draw=>intro d rd t df g;unfold aU;exact HC
 | rangeFunc f ps assign body _ _ =>
  intro d rd t df g;unfold aU
  split
  ·exact KN
  ·exact .const _
 |_=>intro d rd t df g;exact .const _
theorem Mw:∀(l:List ADf) (g:G),Ct C λj=>gD j d l g:=by
 intro l
 induction l with
 |nil=>intro g;exact .const _
 | cons a l ih =>
  intro g;cases a with
  | mark id =>
   simp only[gD]
   split
   ·exact ih _
   ·exact .const _
  | call fv args =>
   cases fv with
   | clo f first cap =>
    simp only[gD];refine Ct.bind (K:=λj r=>match r with|.ok _ g'=>gD j d l g'|.fail=>none) (Ct.call d f (first++(args++cap)) g) ?_
    split
    ·exact ih _
    ·exact .const _
   |_=>exact .const _
theorem HD{res:T->G->Option (List AV)}:Ct C λj=>h_ j d res t df g:=by unfold h_;exact Ct.map (λr=>match r with|none=>FR.fail|some g'=>match res t g' with|some vs=>.ok (kM vs) g'|none=>.fail) (Mw df g)
theorem Fy:Ct C λj=>eK C j d f args g:=by
 unfold eK
 split
 ·rename_i x hx;unfold cFn at hx
  split at hx
  ·cases hx
  rename_i fn a
  split at hx
  ·cases hx
  rename_i c h
  split at hx
  rotate_left
  ·cases hx
  rename_i r k;rw[aa]at hx
  split at hx
  ·cases hx
  injection hx with hx;subst hx;dsimp only;simp only[aa]
  split
  ·refine Ct.bind (K:=λj q=>match q with|.ok (.exit _) _ _ _=>FR.fail|.ok _ t df g'=>h_ j d r.run t df g'|.fail=>.fail) (Fw c d none (cD 0 args .nil) [] g) ?_
   split
   ·exact .const _
   ·exact HD
   ·exact .const _
  ·exact .const _
 ·exact .const _
theorem Hm(nt d:Nat)(rd:Option Nat)(c:Code)(t:T)(df:List ADf)(g:G):(I C).code nt d rd c t df g=(aU C nt c).run (I C) d rd t df g:=by obtain⟨n,h⟩:=Fw (C:=C) (nt:=nt) c d rd t df g;obtain⟨m,h'⟩:=Ct.code (C:=C) nt d rd c t df g;have h1:=h (max n m) (by omega);have h2:=h' (max n m+1) (by omega);exact h2.symm.trans h1
theorem RF(d f:Nat)(as:List AV)(g:G):(I C).call d f as g=eK C (I C) d f as g:=by obtain⟨n,h⟩:=Fy (C:=C) (d:=d) (f:=f) (args:=as) (g:=g);obtain⟨m,h'⟩:=Ct.call (C:=C) d f as g;have h1:=h (max n m) (by omega);have h2:=h' (max n m+1) (by omega);exact h2.symm.trans h1
theorem LV{as:List AV}{g':G}(h:(I C).call d f as g=.ok v g'):∃n,(sem C n).call d f as g=.ok v g':=by obtain⟨m,h'⟩:=Ct.call (C:=C) d f as g;exact⟨m,by rw[<-h];exact h' m (Vu m)⟩
end
def tat(t:T)(n:Nat):AV:=Tr.get AV.undef t n
def eQ(t:T)(n:Nat)(v:AV):T:=(sp AV.undef n).run t v
inductive Od where
 |t (n:Nat)
 |k (v:AV)
def Od.get(t:T):Od->AV
 |.t n=>tat t n
 |.k v=>v
def gI(t:T):List Od->List AV
 |[]=>[]
 |o::os=>o.get t::gI t os
def JY(c a b:AV):OR:=match c with|.bool q=>aB q (.val a) (.val b)|_=>.fail
def Ah(x:AV)(g:G):OR:=aB x.isTup .fail (.upd (.hptr g.nx 0 0 0) (g.new (Y6 (bC x.cells) [x.cells])))
def DH(zero:List AV)(pl:List (Nat×Nat))(vs:List AV):OR :=
 match c8 zero (pl.zip vs) with|some cs=>.val (.agg cs)|none=>.fail
def L9(sz len:Nat)(zero:List AV)(is:List Nat)(vs:List AV)(g:G):OR :=
 match gW sz (qx len zero) (is.zip vs) with
 |some rows=>.upd (.hsl g.nx 0 0 len none) (g.new (Y6 sz rows))
 |none=>.fail
def sB(ag:Bool)(n:Nat)(p:AV)(g:G):OR:=nj ag n (λ_=>p) .nil g
def jV(n:Nat)(p x:AV)(g:G):OR:=po n (λ_=>p) (λ_=>x) .nil g
def Gp(x:AV):OR:=match x with
 |.tptr l sz rows i off=>.val (.tptr l sz rows i off)
 |.hptr id ep i off=>.val (.hptr id ep i off)
 |.clo f a c=>.val (.clo f a c)
 |.yld id=>.val (.yld id)
 |_=>.fail
def bQ(op:BinOp)(x y:AV):OR:=match x,y with|.int k a,.int k' b=>orV ((fO op).run k a k' b)|_,_=>.fail
def D6(neg:Bool)(ek:EqKind)(x y:AV):OR:=match eqA ek x y with|some b=>.val (.bool (aB neg (np b) b))|none=>.fail
def Qk(x:AV):OR:=match x with|.bool b=>.val (.bool (np b))|_=>.fail
def unV(op:UnOp)(x:AV):OR:=match x with|.int k n=>orV (qw (Op.unary op (.int k n)))|_=>.fail
def Jb(k:IntKind)(x:AV):OR:=match x with|.int _ n=>.val (.int k (tW k n))|_=>.fail
def HR(sz bytes:Nat)(zero:List AV)(l c:AV)(g:G):OR:=io sz bytes zero (λ_=>l) (λ_=>c) .nil g
def tR(sz:Nat)(x:AV)(lo hi:Option AV)(g:G):OR:=orV (nD sz x lo hi none g.h)
def Tb(n sz:Nat)(x:AV)(lo hi:Option AV)(g:G):OR:=mf n sz (λ_=>x) (λ_=>lo) (λ_=>hi) .nil g
def HI(fo:Nat)(x:AV):OR:=match x with
 |.tptr l sz rows i off=>.val (.tptr l sz rows i (off+fo))
 |.hptr id ep i off=>.val (.hptr id ep i (off+fo))
 |_=>.fail
def RY(ag:Bool)(n fo:Nat)(x:AV):OR:=match x with|.agg cs=>orV (bP ag n cs fo)|_=>.fail
def Eh(sz:Nat)(x i:AV)(g:G):OR:=gY sz (λ_=>x) (λ_=>i) .nil g
def No(n sz:Nat)(x i:AV):OR:=ni n sz (λ_=>x) (λ_=>i) .nil G.empty
def ixV(ag:Bool)(n sz:Nat)(x i:AV):OR:=vG ag n sz (λ_=>x) (λ_=>i) .nil G.empty
def ML(x:AV)(i:Nat):OR:=match x with|.tup vs=>orV (Gt i vs)|_=>.fail
def mxV(x y:AV):OR:=match x with
 |.int k m=>match y with|.int k' n=>aB (cS k k') (.val (.int k (aB (zx m n) n m))) .fail|_=>.fail
 |_=>.fail
def mnV(x y:AV):OR:=match x with
 |.int k m=>match y with|.int k' n=>aB (cS k k') (.val (.int k (aB (zx n m) n m))) .fail|_=>.fail
 |_=>.fail
def am(C:Cfg)(d f:Nat)(as:List AV)(g:G):OR :=
 match C.ext f with
 |some e=>e d as g
 |none=>aB (C.iso f) (an (I C) d g f as) (orF ((I C).call d f as g))
inductive SO where
 |mv (x:Od)
 |pick (c a b:Od)
 |alloc (cs:List AV)
 |box (x:Od)
 |build (zero:List AV) (pl:List (Nat×Nat)) (vs:List Od)
 |bsl (sz len:Nat) (zero:List AV) (is:List Nat) (vs:List Od)
 |load (ag:Bool) (n:Nat) (a:Od)
 |store (n:Nat) (a x:Od)
 |nilc (x:Od)
 |bin (op:BinOp) (x y:Od)
 |eq (neg:Bool) (ek:EqKind) (x y:Od)
 |not (x:Od)
 |un (op:UnOp) (x:Od)
 |conv (k:IntKind) (x:Od)
 |mkf (f:Nat) (a c:List Od)
 |mks (sz bytes:Nat) (zero:List AV) (l c:Od)
 |slc (sz:Nat) (x:Od) (lo hi:List Od)
 |sla (n sz:Nat) (x:Od) (lo hi:List Od)
 |fad (fo:Nat) (x:Od)
 |fld (ag:Bool) (n fo:Nat) (x:Od)
 |ixs (sz:Nat) (x i:Od)
 |ixa (n sz:Nat) (x i:Od)
 |ix (ag:Bool) (n sz:Nat) (x i:Od)
 |ext (x:Od) (i:Nat)
 |len (lk:LenKind) (x:Od)
 |app (sz bytes:Nat) (x y:Od)
 |cpy (sz:Nat) (x y:Od)
 |mx (x y:Od)
 |mn (x y:Od)
 |call (f:Nat) (as:List Od)
 |dyn (f:Od) (as:List Od)
 |raw (op:Op)
def SO.run(C:Cfg)(d:Nat)(rd:Option Nat)(t:T)(g:G):SO->OR
 |.mv x=>.val (x.get t)
 |.pick c a b=>JY (c.get t) (a.get t) (b.get t)
 |.alloc cs=>.upd (.hptr g.nx 0 0 0) (g.new (Y6 (bC cs) [cs]))
 |.box x=>Ah (x.get t) g
 |.build zero pl vs=>DH zero pl (gI t vs)
 |.bsl sz n zero is vs=>L9 sz n zero is (gI t vs) g
 |.load ag n a=>sB ag n (a.get t) g
 |.store n a x=>jV n (a.get t) (x.get t) g
 |.nilc x=>Gp (x.get t)
 |.bin op x y=>bQ op (x.get t) (y.get t)
 |.eq neg ek x y=>D6 neg ek (x.get t) (y.get t)
 |.not x=>Qk (x.get t)
 |.un op x=>unV op (x.get t)
 |.conv k x=>Jb k (x.get t)
 |.mkf f a c=>.val (.clo f (gI t a) (gI t c))
 |.mks sz bytes zero l c=>HR sz bytes zero (l.get t) (c.get t) g
 |.slc sz x lo hi=>tR sz (x.get t) (gI t lo).head? (gI t hi).head? g
 |.sla n sz x lo hi=>Tb n sz (x.get t) (gI t lo).head? (gI t hi).head? g
 |.fad fo x=>HI fo (x.get t)
 |.fld ag n fo x=>RY ag n fo (x.get t)
 |.ixs sz x i=>Eh sz (x.get t) (i.get t) g
 |.ixa n sz x i=>No n sz (x.get t) (i.get t)
 |.ix ag n sz x i=>ixV ag n sz (x.get t) (i.get t)
 |.ext x i=>ML (x.get t) i
 |.len lk x=>dH lk (x.get t) g
 |.app sz bytes x y=>cW sz bytes (x.get t) (y.get t) g
 |.cpy sz x y=>Jc sz (x.get t) (y.get t) g
 |.mx x y=>mxV (x.get t) (y.get t)
 |.mn x y=>mnV (x.get t) (y.get t)
 |.call f as=>am C d f (gI t as) g
 |.dyn f as=>j8 C (I C) d (f.get t) (gI t as) g
 |.raw op=>(dC C op).run (I C) d rd t g
def nOd(C:Cfg):Operand->Option Od
 |.tmp n=>some (.t n)
 |.const v=>match ofV v with|some a=>some (.k a)|none=>none
 |.global g=>match C.glob g with|some (sz,rows)=>some (.k (.tptr 0 sz rows 0 0))|none=>none
 |.func f=>some (.k (.clo f [] []))
def nK(C:Cfg):List Operand->Option (List Od)
 |[]=>some []
 | x::xs=>match nOd C x,nK C xs with
  |some a,some as=>some (a::as)
  |_,_=>none
theorem bg{x:Operand}{o:Od}(h:nOd C x=some o):∃s,aV C x=some s/\∀t,s.run t=o.get t:=by
 unfold nOd at h
 split at h
 ·injection h with h;subst h;exact⟨_,rfl,λt=>gp_run _ _ _⟩
 ·split at h
  ·rename_i a ha;injection h with h;subst h;exact⟨⟨λ_=>a⟩,by simp only[aV,ha],λt=>rfl⟩
  ·cases h
 ·split at h
  ·rename_i sz rows ha;injection h with h;subst h;exact⟨⟨λ_=>.tptr 0 sz rows 0 0⟩,by simp only[aV,ha],λt=>rfl⟩
  ·cases h
 ·injection h with h;subst h;exact⟨_,rfl,λt=>rfl⟩
theorem c7{C:Cfg}:∀{xs:List Operand} {os:List Od},nK C xs=some os->∃s,bY C xs=some s/\∀t,s.run t=gI t os
 |[],os,h=>by injection h with h;subst h;exact⟨_,rfl,λt=>rfl⟩
 | x::xs,os,h=>by
  unfold nK at h
  split at h
  ·rename_i a as ha k;injection h with h;subst h;obtain⟨s,h1,h2⟩:=bg ha;obtain⟨ss,b,h4⟩:=c7 k;exact⟨⟨λt=>s.run t::ss.run t⟩,by simp only[bY,h1,b],λt=>by simp only[h2,h4,gI]⟩
  ·cases h
def NU(C:Cfg)(op:Op):SO :=
 match op with
 |.move x|.assign x=>match nOd C x with|some a=>.mv a|none=>.raw op
 | .pick c a b=>match nOd C c,nOd C a,nOd C b with
  |some c,some a,some b=>.pick c a b
  |_,_,_=>.raw op
 | .alloc ty=>match fU C.P ty with
  |some cs=>.alloc cs
  |none=>.raw op
 | .box _ x=>match nOd C x with
  |some a=>.box a
  |none=>.raw op
 | .build ty parts=>match fU C.P ty,nK C (parts.toList.map (·.2)) with
  | some zero,some vs =>
   match C.P.underlying ty with
   | some (.struct fs)=>match aG (λf:Field=>match szT C.P f.type with| some n=>some (f.offset,n)| none=>none) fs.toList with
    | some places=>match aG (λi=>places[i]?) (parts.toList.map (·.1)) with
     |some pl=>.build zero pl vs
     |none=>.raw op
    |none=>.raw op
   | some (.array _ e)=>match szT C.P e with
    |some n=>.build zero ((parts.toList.map (·.1)).map λi=>(i*n,n)) vs
    |none=>.raw op
   |_=>.raw op
  |_,_=>.raw op
 | .buildSlice ty len parts=>match lJ C.P ty,nK C (parts.toList.map (·.2)) with
  | some e,some vs=>match szT C.P e,fU C.P e with
   | some sz,some zero=>aB (Nat.beq (bC zero) sz&&Nat.blt 0 sz&&Nat.ble (len*sz) 1048576)
    (.bsl sz len zero (parts.toList.map (·.1)) vs) (.raw op)
   |_,_=>.raw op
  |_,_=>.raw op
 | .load ty a=>match nOd C a,sM C.P ty,szT C.P ty with
  |some a,some ag,some n=>.load ag n a
  |_,_,_=>.raw op
 | .store ty a x=>match nOd C a,nOd C x,szT C.P ty with
  |some a,some x,some n=>.store n a x
  |_,_,_=>.raw op
 | .nilCheck x=>match nOd C x with
  |some a=>.nilc a
  |none=>.raw op
 | .binOp b ty x y _=>match nOd C x,nOd C y with
  | some x,some y=>match b with
   | .eql=>match qN C.P ty with
    |.other=>.bin b x y
    |ek=>.eq false ek x y
   | .neq=>match qN C.P ty with
    |.other=>.bin b x y
    |ek=>.eq true ek x y
   |b=>.bin b x y
  |_,_=>.raw op
 | .unOp u _ x=>match nOd C x with
  | some x=>match u with
   |.not=>.not x
   |u=>.un u x
  |none=>.raw op
 | .convert src dst x=>match nOd C x,C.P.underlying src,C.P.underlying dst with
  |some x,some _,some (.int k)=>.conv k x
  |_,_,_=>.raw op
 | .makeFunc (.func f) first captured=>match nK C first.toList,nK C captured.toList with
  |some a,some c=>.mkf f a c
  |_,_=>.raw op
 | .makeSlice ty l c=>match lJ C.P ty,nOd C l,nOd C c with
  | some e,some l,some c=>match szT C.P e,kW C.P e,fU C.P e with
   |some sz,some bytes,some zero=>aB (Nat.beq (bC zero) sz&&Nat.blt 0 sz) (.mks sz bytes zero l c) (.raw op)
   |_,_,_=>.raw op
  |_,_,_=>.raw op
 | .slice ty x lo hi none=>match C.P.underlying ty,nOd C x,nK C lo.toList,nK C hi.toList with
  | some (.slice e),some x,some l,some h=>match szT C.P e with
   |some sz=>.slc sz x l h
   |none=>.raw op
  | some (.array n e),some x,some l,some h=>match szT C.P e with
   |some (sz+1)=>.sla n (sz+1) x l h
   |_=>.raw op
  |_,_,_,_=>.raw op
 | .fieldAddr ty x f=>match nOd C x,tG C.P ty f with
  | some a,some (fo,ft)=>match szT C.P ft with
   |some (_+1)=>.fad fo a
   |_=>.raw op
  |_,_=>.raw op
 | .field ty x f=>match nOd C x,tG C.P ty f with
  | some a,some (fo,ft)=>match sM C.P ft,szT C.P ft with
   |some ag,some n=>.fld ag n fo a
   |_,_=>.raw op
  |_,_=>.raw op
 | .indexAddr ty x ix=>match nOd C x,nOd C ix with
  | some a,some i=>match C.P.underlying ty with
   | some (.slice e)=>match szT C.P e with
    |some sz=>.ixs sz a i
    |none=>.raw op
   | some (.array n e)=>match szT C.P e with
    |some sz=>.ixa n sz a i
    |none=>.raw op
   |_=>.raw op
  |_,_=>.raw op
 | .index ty x ix=>match nOd C x,nOd C ix with
  | some a,some i=>match C.P.underlying ty with
   | some (.array n e)=>match sM C.P e,szT C.P e with
    |some ag,some sz=>.ix ag n sz a i
    |_,_=>.raw op
   |_=>.raw op
  |_,_=>.raw op
 | .extract x i=>match nOd C x with
  |some a=>.ext a i
  |none=>.raw op
 |op=>.raw op
def nOp(C:Cfg)(op:Op):SO :=
 match op with
 | .call { callee:=.value (.func f),args,.. }=>match nK C args.toList with
  |some vs=>.call f vs
  |none=>.raw op
 | .call { callee:=.value fo,args,.. }=>match nOd C fo,nK C args.toList with
  |some f,some vs=>.dyn f vs
  |_,_=>.raw op
 | .call { callee:=.builtin b,args,argTypes }=>match b,nK C args.toList with
  | .len,some [x]=>match argTypes[0]? with
   |some t=>.len (l6 C.P t) x
   |none=>.raw op
  | .append,some [a,x]=>match argTypes[0]?,argTypes[1]? with
   | some t,some xt=>match lJ C.P t,C.P.underlying xt with
    | some e,some (.slice _)=>match szT C.P e,kW C.P e,fU C.P e with
     |some sz,some bytes,some zero=>aB (Nat.beq (bC zero) sz&&Nat.blt 0 sz&&Nat.blt 0 bytes) (.app sz bytes a x) (.raw op)
     |_,_,_=>.raw op
    |_,_=>.raw op
   |_,_=>.raw op
  | .copy,some [a,x]=>match argTypes[0]? with
   | some t=>match lJ C.P t with
    | some e=>match szT C.P e with
     |some sz=>.cpy sz a x
     |none=>.raw op
    |none=>.raw op
   |none=>.raw op
  |.max,some [x,y]=>.mx x y
  |.min,some [x,y]=>.mn x y
  |_,_=>.raw op
 |op=>NU C op
theorem bH{s:Stg SFn}(h1:cOp C op=match cq C op with|some s=>some ⟨λ_ _ _ t g=>s.run t g⟩|none=>none)(h:cq C op=some s)
  {ih:IH}    :(dC C op).run ih d rd t g=s.run t g:=by
 unfold dC;rw[h1,h]
theorem Qc(h1:cOp C op=match cq C op with|some s=>some ⟨λ_ _ _ t g=>s.run t g⟩|none=>none) :
  (NU C op).run C d rd t g=(dC C op).run (I C) d rd t g:=by
 unfold NU
 split
 case h_1 x =>
  split
  ·rename_i a ha;obtain⟨s,hs,he⟩:=bg ha;rw[bH h1 (by simp only[cq,hs];rfl)];simp only[SO.run,he]<;>rfl
  ·rfl
 case h_2 x =>
  split
  ·rename_i a ha;obtain⟨s,hs,he⟩:=bg ha;rw[bH h1 (by simp only[cq,hs];rfl)];simp only[SO.run,he]<;>rfl
  ·rfl
 case h_3 c a b =>
  split
  ·rename_i c a b hc ha hb;obtain⟨s1,F,e1⟩:=bg hc;obtain⟨s2,q2,e2⟩:=bg ha;obtain⟨s3,q3,A⟩:=bg hb;rw[bH h1 (by simp only[cq,F,q2,q3];rfl)];simp only[SO.run,e1,e2,A,JY]<;>rfl
  ·rfl
 case h_4 ty =>
  split
  ·rename_i cs hz;rw[bH h1 (by simp only[cq,hz];rfl)];rfl
  ·rfl
 case h_5 ty x =>
  split
  ·rename_i a ha;obtain⟨s,hs,he⟩:=bg ha;rw[bH h1 (by simp only[cq,hs];rfl)];simp only[SO.run,Ah,L8,he]<;>rfl
  ·rfl
 case h_6 ty parts =>
  split
  ·rename_i zero vs hz w;obtain⟨s,hs,he⟩:=c7 w
   split
   ·rename_i fs hu
    split
    ·rename_i places hp
     split
     ·rename_i pl v;have r:cq C (.build ty parts)=some ⟨oE zero pl s.run⟩:=by
       simp only[cq,hz,hs,hu]
       split
       ·rename_i p' h';have:some places=some p':=hp.symm.trans h';injection this with this;subst this;rw[v]
       ·rename_i h';have:some places=none:=hp.symm.trans h';cases this
      rw[bH h1 r];simp only[SO.run,DH,oE,he]<;>rfl
     ·rfl
    ·rfl
   ·rename_i n e hu
    split
    ·rename_i n z;rw[bH h1 (by simp only[cq,hz,hs,hu,z];rfl)];simp only[SO.run,DH,oE,he]<;>rfl
    ·rfl
   ·rfl
  ·rfl
 case h_7 ty len parts =>
  split
  ·rename_i e vs hz w;obtain⟨s,hs,he⟩:=c7 w
   split
   ·rename_i sz zero h2 o;rw[aa]
    split
    ·rename_i hc;rw[bH h1 (by simp only[cq,hz,hs,h2,o,hc];rfl)];simp only[SO.run,L9,iy,he]<;>rfl
    ·rfl
   ·rfl
  ·rfl
 case h_8 ty a =>
  split
  ·rename_i a ag n ha h2 o;obtain⟨s,hs,he⟩:=bg ha;rw[bH h1 (by simp only[cq,hs,h2,o];rfl)];simp only[SO.run,sB,nj,he]<;>rfl
  ·rfl
 case h_9 ty a x =>
  split
  ·rename_i a x n ha hx o;obtain⟨s,hs,he⟩:=bg ha;obtain⟨s2,m,j⟩:=bg hx;rw[bH h1 (by simp only[cq,hs,m,o];rfl)];simp only[SO.run,jV,po,he,j]<;>rfl
  ·rfl
 case h_10 x =>
  split
  ·rename_i a ha;obtain⟨s,hs,he⟩:=bg ha;rw[bH h1 (by simp only[cq,hs];rfl)];simp only[SO.run,Gp,he]<;>rfl
  ·rfl
 case h_11 b ty x y yt =>
  split
  ·rename_i x y hx E;obtain⟨s,hs,he⟩:=bg hx;obtain⟨s2,m,j⟩:=bg E;rw[bH h1 (by simp only[cq,hs,m];rfl)];simp only[he,j]
   split
   ·split
    ·rename_i hk;simp only[Ae,hk];rfl
    ·rename_i ek hk;simp only[SO.run,D6,Ae]<;>rfl
   ·split
    ·rename_i hk;simp only[Ae,hk];rfl
    ·rename_i ek hk;simp only[SO.run,D6,Ae]<;>rfl
   ·rename_i B D;simp only[SO.run,Ae,bQ]<;>rfl
  ·rfl
 case h_12 u ty x =>
  split
  ·rename_i a ha;obtain⟨s,hs,he⟩:=bg ha;rw[bH h1 (by simp only[cq,hs];rfl)]
   split
   ·simp only[SO.run,Qk,unA,he]<;>rfl
   ·rename_i z;simp only[SO.run,unV,unA,he]<;>rfl
  ·rfl
 case h_13 src dst x =>
  split
  ·rename_i a ty k ha h2 o;obtain⟨s,hs,he⟩:=bg ha;rw[bH h1 (by simp only[cq,hs,h2,o];rfl)];simp only[SO.run,Jb,he]<;>rfl
  ·rfl
 case h_14 f first captured =>
  split
  ·rename_i a c ha hc;obtain⟨s,hs,he⟩:=c7 ha;obtain⟨s2,m,j⟩:=c7 hc;rw[bH h1 (by simp only[cq,hs,m];rfl)];simp only[SO.run,he,j]<;>rfl
  ·rfl
 case h_15 ty l c =>
  split
  ·rename_i e l c h0 hl hc;obtain⟨s,hs,he⟩:=bg hl;obtain⟨s2,m,j⟩:=bg hc
   split
   ·rename_i sz bytes zero h2 o h4;rw[aa]
    split
    ·rename_i hc;rw[bH h1 (by simp only[cq,h0,hs,m,h2,o,h4,hc];rfl)];simp only[SO.run,HR,io,he,j]<;>rfl
    ·rfl
   ·rfl
  ·rfl
 case h_16 ty x lo hi =>
  split
  ·rename_i e x l h h0 hx hl r;obtain⟨s,hs,he⟩:=bg hx;obtain⟨s2,m,j⟩:=c7 hl;obtain⟨s3,q,p⟩:=c7 r
   split
   ·rename_i sz h2;rw[bH h1 (by simp only[cq,h0,hs,m,q,h2];rfl)];simp only[SO.run,tR,he,j,p]<;>rfl
   ·rfl
  ·rename_i n e x l h h0 hx hl r;obtain⟨s,hs,he⟩:=bg hx;obtain⟨s2,m,j⟩:=c7 hl;obtain⟨s3,q,p⟩:=c7 r
   split
   ·rename_i sz h2;rw[bH h1 (by simp only[cq,h0,hs,m,q,h2];rfl)];simp only[SO.run,Tb,mf,he,j,p]<;>rfl
   ·rfl
  ·rfl
 case h_17 ty x f =>
  split
  ·rename_i a fo ft ha h0;obtain⟨s,hs,he⟩:=bg ha
   split
   ·rename_i k h2;rw[bH h1 (by simp only[cq,hs,h0,h2];rfl)];simp only[SO.run,HI,jP,he]<;>rfl
   ·rfl
  ·rfl
 case h_18 ty x f =>
  split
  ·rename_i a fo ft ha h0;obtain⟨s,hs,he⟩:=bg ha
   split
   ·rename_i ag n h2 o;rw[bH h1 (by simp only[cq,hs,h0,h2,o];rfl)];simp only[SO.run,RY,he]<;>rfl
   ·rfl
  ·rfl
 case h_19 ty x ix =>
  split
  ·rename_i a i ha hi;obtain⟨s,hs,he⟩:=bg ha;obtain⟨s2,m,j⟩:=bg hi
   split
   ·rename_i e h0
    split
    ·rename_i sz h2;rw[bH h1 (by simp only[cq,hs,m,h0,h2];rfl)];simp only[SO.run,Eh,gY,he,j]<;>rfl
    ·rfl
   ·rename_i n e h0
    split
    ·rename_i sz h2;rw[bH h1 (by simp only[cq,hs,m,h0,h2];rfl)];simp only[SO.run,No,ni,he,j]<;>rfl
    ·rfl
   ·rfl
  ·rfl
 case h_20 ty x ix =>
  split
  ·rename_i a i ha hi;obtain⟨s,hs,he⟩:=bg ha;obtain⟨s2,m,j⟩:=bg hi
   split
   ·rename_i n e h0
    split
    ·rename_i ag sz h2 o;rw[bH h1 (by simp only[cq,hs,m,h0,h2,o];rfl)];simp only[SO.run,ixV,vG,he,j]<;>rfl
    ·rfl
   ·rfl
  ·rfl
 case h_21 x i =>
  split
  ·rename_i a ha;obtain⟨s,hs,he⟩:=bg ha;rw[bH h1 (by simp only[cq,hs];rfl)];simp only[SO.run,ML,he]<;>rfl
  ·rfl
 case h_22=>rfl
theorem pA{xs:List Operand}{os:List Od}(h:nK C xs=some os) :
  (∀o,os=[o]->∃x s,xs=[x]/\aV C x=some s/\∀t,s.run t=o.get t) /\
  (∀o p,os=[o,p]->∃x y s u,xs=[x,y]/\aV C x=some s/\aV C y=some u/\(∀t,s.run t=o.get t)/\∀t,u.run t=p.get t):=by
 refine⟨λo ho=>?_,λo p ho=>?_⟩
 ·subst ho
  match xs,h with
  | [x],h =>
   unfold nK at h
   split at h
   ·rename_i a as ha k;injection h with h;injection h with h1 h2;subst h1;obtain⟨s,q,e⟩:=bg ha;exact⟨x,s,rfl,q,e⟩
   ·cases h
  | x::y::xs,h =>
   unfold nK at h
   split at h
   ·rename_i a as ha k;unfold nK at k
    split at k
    ·injection k with k;subst k;injection h with h;injection h with h1 h2;cases h2
    ·cases k
   ·cases h
 ·subst ho
  match xs,h with
  | [x,y],h =>
   unfold nK at h
   split at h
   ·rename_i a as ha k;unfold nK at k
    split at k
    ·rename_i b bs hb c;injection k with k;subst k;injection h with h;injection h with h1 h2;injection h2 with d h4;subst h1;subst d;obtain⟨s,q,e⟩:=bg ha;obtain⟨s',q',e'⟩:=bg hb;exact⟨x,y,s,s',rfl,q,q',e,e'⟩
    ·cases k
   ·cases h
  | [x],h =>
   unfold nK at h
   split at h
   ·rename_i a as ha k;injection k with k;subst k;injection h with h;injection h with h1 h2;cases h2
   ·cases h
  | x::y::z::xs,h =>
   unfold nK at h
   split at h
   ·rename_i a as ha k;unfold nK at k
    split at k
    ·rename_i b bs hb c;unfold nK at c
     split at c
     ·injection c with c;subst c;injection k with k;subst k;injection h with h;injection h with h1 h2;injection h2 with d h4;cases h4
     ·cases c
    ·cases k
   ·cases h
theorem Et:(nOp C op).run C d rd t g=(dC C op).run (I C) d rd t g:=by
 unfold nOp
 split
 ·rename_i f args ats
  split
  ·rename_i vs q;obtain⟨s,hs,he⟩:=c7 q;simp only[SO.run,dC,cOp,hs,am];cases hx:C.ext f with
   |some e=>simp only[he]
   |none=>cases hi:C.iso f<;>simp only[he]
  ·rfl
 ·rename_i fo args ats p
  split
  ·rename_i f vs hf q;obtain⟨s,hs,he⟩:=c7 q;obtain⟨s2,m,i⟩:=bg hf;cases fo with
   |func k=>exact absurd rfl (p k)
   |tmp k=>simp only[SO.run,dC,cOp,hs,m,he,i]
   |const k=>simp only[SO.run,dC,cOp,hs,m,he,i]
   |global k=>simp only[SO.run,dC,cOp,hs,m,he,i]
  ·rfl
 ·rename_i b args ats;have hc:b≠.recover->cOp C (.call { callee:=.builtin b,args:=args,argTypes:=ats })=match cq C (.call { callee:=.builtin b,args:=args,argTypes:=ats }) with
    |some s=>some ⟨λ_ _ _ t g=>s.run t g⟩|none=>none:=by
   intro hb;cases b<;>first|rfl|exact absurd rfl hb
  split
  ·rename_i x hx;obtain⟨y,s,j,hs,he⟩:=(pA hx).1 _ rfl
   split
   ·rename_i ty l;rw[bH (hc (by simp)) (by simp only[cq,dt,j,l,hs];rfl)];simp only[SO.run,he]<;>rfl
   ·rfl
  ·rename_i a x hx;obtain⟨y,z,s,u,j,hs,hu,he,i⟩:=(pA hx).2 _ _ rfl
   split
   ·rename_i ty xt l r
    split
    ·rename_i e e2 h1 h2
     split
     ·rename_i sz bytes zero n h4 h5;rw[aa]
      split
      ·rename_i o;rw[bH (hc (by simp)) (by simp only[cq,dt,j,l,r,hs,hu,h1,h2,n,h4,h5,o];rfl)];simp only[SO.run,he,i]<;>rfl
      ·rfl
     ·rfl
    ·rfl
   ·rfl
  ·rename_i a x hx;obtain⟨y,z,s,u,j,hs,hu,he,i⟩:=(pA hx).2 _ _ rfl
   split
   ·rename_i ty l
    split
    ·rename_i e h1
     split
     ·rename_i sz n;rw[bH (hc (by simp)) (by simp only[cq,dt,j,l,hs,hu,h1,n];rfl)];simp only[SO.run,he,i]<;>rfl
     ·rfl
    ·rfl
   ·rfl
  ·rename_i a x hx;obtain⟨y,z,s,u,j,hs,hu,he,i⟩:=(pA hx).2 _ _ rfl;rw[bH (hc (by simp)) (by simp only[cq,dt,j,hs,hu];rfl)];simp only[SO.run,mxV,he,i]<;>rfl
  ·rename_i a x hx;obtain⟨y,z,s,u,j,hs,hu,he,i⟩:=(pA hx).2 _ _ rfl;rw[bH (hc (by simp)) (by simp only[cq,dt,j,hs,hu];rfl)];simp only[SO.run,mnV,he,i]<;>rfl
  ·rfl
 ·rename_i h1 h2 n;have key:∀op,(∀c,op≠.call c)->(∀c,op≠.defer c)->cOp C op=match cq C op with|some s=>some ⟨λ_ _ _ t g=>s.run t g⟩|none=>none:=by intro op hc hd;cases op<;>first|rfl|exact absurd rfl (hc _)|exact absurd rfl (hd _)
  cases op with
  |call c=>rfl
  |defer c=>rfl
  |_=>exact Qc (key _ (λc h=>by cases h) (λc h=>by cases h))
structure SI where
 dst:Option Nat
 gd:Option (Nat×Bool)
 op:SO
inductive SC where
 |skip
 |ops (l:List SI)
 |quiet (l:List SI)
 |feet (pm:List Nat) (l:List SI)
 |seq (a b:SC)
 |cond (c:Od) (a b:SC)
 |blk (id:Nat) (b:SC)
 |loop (b:SC)
 |exit (id:Nat)
 |ret
 |rng (nt:Nat) (f:Od) (ps:List Nat) (assign body:SC)
 |raw (nt:Nat) (c:Code)
def OR.sat(r:OR)(K:AV->G->Prop)(g:G)(D:ADf->Prop):Prop :=
 match r with
 |.fail=>False
 |.val v=>K v g
 |.upd v g'=>K v g'
 |.dfr a=>D a
def CR.sat(r:CR)(Q:Ex->T->List ADf->G->Prop):Prop :=
 match r with
 |.fail=>False
 |.ok e t df g=>Q e t df g
def FR.sat(r:FR)(Q:AV->G->Prop):Prop :=
 match r with
 |.fail=>False
 |.ok v g=>Q v g
def EG(dst:Option Nat)(t:T)(v:AV):T:=match dst with|none=>t|some d=>eQ t d v
abbrev PT:=T->List ADf->G->Prop
abbrev QT:=Ex->T->List ADf->G->Prop
def xC(q:Bool)(A B:PT)(t:T)(df:List ADf)(g:G):Prop:=(q=true->A t df g)/\(q=false->B t df g)
def gdP(v:AV)(w:Bool)(A B:PT)(t:T)(df:List ADf)(g:G):Prop :=
 match v with
 |.bool q=>aB w (xC q A B t df g) (xC q B A t df g)
 |.tup _=>B t df g
 |_=>False
def kO(W:PT)(dst:Option Nat)(t:T)(df:List ADf)(v:AV)(g:G):Prop:=W (EG dst t v) df g
def kD(W:PT)(dst:Option Nat)(t:T)(df:List ADf)(g:G)(a:ADf):Prop:=W (EG dst t .undef) (a::df) g
def GY(C:Cfg)(d:Nat)(rd:Option Nat)(i:SI)(W:PT)(t:T)(df:List ADf)(g:G):Prop:=(i.op.run C d rd t g).sat (kO W i.dst t df) g (kD W i.dst t df g)
def BA(i:SI)(W:PT)(t:T)(df:List ADf)(g:G):Prop:=W (EG i.dst t .undef) df g
def wpO(C:Cfg)(d:Nat)(rd:Option Nat):List SI->PT->T->List ADf->G->Prop
 |[],Q,t,df,g=>Q t df g
 | i::r,Q,t,df,g =>
  match i.gd with
  |none=>GY C d rd i (wpO C d rd r Q) t df g
  |some (s,w)=>gdP (tat t s) w (GY C d rd i (wpO C d rd r Q)) (BA i (wpO C d rd r Q)) t df g
def SO.foot(C:Cfg)(t:T)(g:G):SO->Looks
 |.load _ _ a=>ah (aw (a.get t))
 |.store _ a _=>ah (aw (a.get t))
 |.slc _ a _ _=>ah (aw (a.get t))
 |.sla _ _ a _ _=>ah (aw (a.get t))
 |.ixs _ a _=>ah (aw (a.get t))
 |.app _ _ a x=>ah (aw (a.get t)++aw (x.get t))
 |.cpy _ a x=>ah (aw (a.get t)++aw (x.get t))
 |.mx a x=>ah (aw (a.get t)++aw (x.get t))
 |.mn a x=>ah (aw (a.get t)++aw (x.get t))
 |.len lk a=>match lk with|.map=>ah (xf (a.get t))|_=>ay
 |.call f as=>aB ((C.ext f).isSome || C.iso f) (ah ((gI t as).flatMap (aD g.h aE))) bL
 | .dyn f as=>match f.get t with
  |.clo f first cap=>aB ((C.ext f).isSome || C.iso f) (ah ((first++(gI t as++cap)).flatMap (aD g.h aE))) bL
  |_=>bL
 |.raw op=>(aO C op).run t g
 |_=>ay
abbrev FT:=T->List ADf->G->List Foot->Prop
def kF(W:FT)(dst:Option Nat)(t:T)(df:List ADf)(lg:List Nat)(fs:List Foot)(lk:Looks)(v:AV)(g':G):Prop:=W (EG dst t v) df (j7 g' (g'.lg++lg)) (⟨lk,g'.lg⟩::fs)
def LC(C:Cfg)(d:Nat)(rd:Option Nat)(i:SI)(W:FT)(fs:List Foot)(t:T)(df:List ADf)(g:G):Prop :=
 (i.op.run C d rd t (aN g [])).sat (kF W i.dst t df g.lg fs (i.op.foot C t g)) (aN g []) (λ_=>False)
def G4(i:SI)(W:FT)(fs:List Foot)(t:T)(df:List ADf)(g:G):Prop:=W (EG i.dst t .undef) df g (⟨ay,[]⟩::fs)
def wpF(C:Cfg)(d:Nat)(rd:Option Nat)(pm:List Nat):List SI->PT->T->List ADf->G->List Foot->Prop
 |[],Q,t,df,g,fs=>q9 pm fs.reverse=true/\Q t df g
 | i::r,Q,t,df,g,fs =>
  match i.gd with
  |none=>LC C d rd i (wpF C d rd pm r Q) fs t df g
  |some (s,w)=>gdP (tat t s) w (LC C d rd i (wpF C d rd pm r Q) fs) (G4 i (wpF C d rd pm r Q) fs) t df g
def kS(W:PT)(Q:QT)(e:Ex)(t:T)(df:List ADf)(g:G):Prop:=match e with|.norm=>W t df g|e=>Q e t df g
def kB(id:Nat)(Q:QT)(e:Ex)(t:T)(df:List ADf)(g:G):Prop:=match e with|.exit j=>aB (Nat.beq j id) (Q .norm t df g) (Q (.exit j) t df g)|e=>Q e t df g
def kL(Inv:Nat->PT)(k:Nat)(Q:QT)(e:Ex)(t:T)(df:List ADf)(g:G):Prop:=match e with|.norm=>∃k',k'<k/\Inv k' t df g|e=>Q e t df g
def kQ(g0:G)(Q:QT)(t:T)(df:List ADf)(g:G):Prop:=g.lg=[]/\g.nx=g0.nx/\Q .norm t df g0
def wpC(v:AV)(A B:PT)(t:T)(df:List ADf)(g:G):Prop:=match v with|.bool q=>xC q A B t df g|_=>False
def wpL(W:QT->PT)(Q:QT)(t:T)(df:List ADf)(g:G):Prop :=
 ∃Inv:Nat->PT,(∃k,Inv k t df g)/\∀k t df g,Inv k t df g->W (kL Inv k Q) t df g
def nGd(all:List Oper):Option (Nat×Bool)->Option (Option (Nat×Bool))
 |none=>some none
 | some (j,w)=>match all[j]? with
  | some o=>match o.dst with
   |some d=>some (some (d,w))
   |none=>none
  |none=>none
def SY(nt:Nat):Option Nat->Bool
 |none=>true
 |some d=>Nat.blt d nt
def Le(C:Cfg)(nt:Nat)(all:List Oper):List Oper->Option (List SI)
 |[]=>some []
 | o::rest=>match SY nt o.dst,nGd all o.guard,Le C nt all rest with
  |true,some gd,some r=>some (⟨o.dst,gd,nOp C o.op⟩::r)
  |_,_,_=>none
def eN(C:Cfg)(nt:Nat):Code->SC
 |.skip=>.skip
 |.label _=>.skip
 | .region p ops draw=>match Le C nt ops.toList ops.toList with
  |some l=>aB draw (aB (EF ops.toList) (aB (ops.toList.all λo=>zS C o.op) (.quiet l) (.feet (bA ops.toList []) l)) (.raw nt (.region p ops draw))) (.ops l)
  |none=>.raw nt (.region p ops draw)
 |.seq a b=>.seq (eN C nt a) (eN C nt b)
 | .cond c a b=>match nOd C c with
  |some c=>.cond c (eN C nt a) (eN C nt b)
  |none=>.raw nt (.cond c a b)
 |.block id b=>.blk id (eN C nt b)
 |.loop b=>.loop (eN C nt b)
 |.scope b=>eN C nt b
 |.exit id=>.exit id
 |.ret=>.ret
 | .rangeFunc f ps assign body=>match nOd C f with
  |some f=>.rng nt f ps.toList (eN C nt assign) (eN C nt body)
  |none=>.raw nt (.rangeFunc f ps assign body)
 |c=>.raw nt c
def wp(C:Cfg)(d:Nat)(rd:Option Nat):SC->QT->T->List ADf->G->Prop
 |.skip,Q,t,df,g=>Q .norm t df g
 |.ops l,Q,t,df,g=>wpO C d rd l (Q .norm) t df g
 |.quiet l,Q,t,df,g=>wpO C d rd l (kQ g Q) t df (aN g [])
 |.feet pm l,Q,t,df,g=>wpF C d rd pm l (Q .norm) t df g []
 |.seq a b,Q,t,df,g=>wp C d rd a (kS (wp C d rd b Q) Q) t df g
 |.cond c a b,Q,t,df,g=>wpC (c.get t) (wp C d rd a Q) (wp C d rd b Q) t df g
 |.blk id b,Q,t,df,g=>wp C d rd b (kB id Q) t df g
 |.loop b,Q,t,df,g=>wpL (wp C d rd b) Q t df g
 |.exit id,Q,t,df,g=>Q (.exit id) t df g
 |.ret,Q,t,df,g=>Q .ret t df g
 |.rng nt f ps a b,Q,t,df,g=>∀assign body,eN C nt assign=a->eN C nt body=b->(nz C nt (λt=>f.get t) ps assign body (I C) d rd t df g).sat Q
 |.raw nt c,Q,t,df,g=>((aU C nt c).run (I C) d rd t df g).sat Q
theorem JW{dst:Option Nat}(h:SY nt dst=true):∃o,vJ nt dst=some o/\∀t v,o.run t v=EG dst t v:=by
 cases dst with
 |none=>exact⟨_,rfl,λt v=>rfl⟩
 | some d =>
  refine⟨sp AV.undef d,?_,λt v=>rfl⟩;have h:Nat.blt d nt=true:=h;simp only[vJ,h]
theorem CI{all:List Oper}{w:Bool}{r:Option (Nat×Bool)}(h:nGd all (some (j,w))=some r) :
  ∃s,r=some (s,w)/\jD all (some (j,w))=some ⟨λt=>match (gp AV.undef s).run t with|.bool b=>some (aB w b (np b))|.tup _=>some false|_=>none⟩:=by
 unfold nGd at h;dsimp only at h
 split at h
 ·rename_i o ho
  split at h
  ·rename_i d hd;injection h with h;exact⟨d,h.symm,by simp only[jD,ho,hd];rfl⟩
  ·cases h
 ·cases h
theorem Bz{out:T->AV->T}{dst:Option Nat}(ho:∀t v,out t v=EG dst t v){next:T->List ADf->G->CR}{Q:QT}{K:PT}(hk:∀t df g,K t df g->(next t df g).sat Q)
      (h:r.sat (kO K dst t df) g (kD K dst t df g)):(pt out next t df g r).sat Q:=by
 cases r with
 |fail=>exact h.elim
 |val v=>exact hk _ _ _ (by rw[ho];exact h)
 |upd v g'=>exact hk _ _ _ (by rw[ho];exact h)
 |dfr a=>exact hk _ _ _ (by rw[ho];exact h)
theorem FX{w:Bool}{A B:PT}(h:gdP v w A B t df g) :
  ∃q,(match v with|.bool b=>some (aB w b (np b))|.tup _=>some false|_=>none:Option Bool)=some q/\(q=true->A t df g)/\(q=false->B t df g):=by
 unfold gdP at h
 split at h
 ·rename_i q;rw[aa]at h;refine⟨_,rfl,?_,?_⟩
  ·cases w<;>cases q<;>simp_all [xC]
  ·cases w<;>cases q<;>simp_all [xC]
 ·exact⟨false,rfl,λh=>(by cases h),λ_=>h⟩
 ·exact h.elim
theorem Pe{all:List Oper}{Q:QT}:∀(l:List Oper) (s:List SI),Le C nt all l=some s->∀t df g,wpO C d rd s (Q .norm) t df g ->
  ((jE C nt all l).run (I C) d rd t df g).sat Q:=by
 intro l
 induction l with
 |nil=>intro s h t df g hq;injection h with h;subst h;exact hq
 | cons o rest ih =>
  intro s h t df g hq;unfold Le at h
  split at h
  ·rename_i gd r hd hg hr;injection h with h;subst h;obtain⟨ot,e1,e2⟩:=JW hd;unfold jE;rw[e1];dsimp only;cases hgd:o.guard with
   | none =>
    rw[hgd]at hg;injection hg with hg;subst hg;dsimp only;rw[<-Et];exact Bz e2 (λt df g h=>ih r hr t df g h) hq
   | some jw =>
    obtain⟨j,w⟩:=jw;rw[hgd]at hg;obtain⟨sl,h1,h2⟩:=CI hg;subst h1;dsimp only;rw[h2];dsimp only;obtain⟨q,k,h4,h5⟩:=FX hq;have:(gp AV.undef sl).run t=tat t sl:=gp_run _ _ _;rw[this,k];cases q with
    | true =>
     dsimp only;rw[<-Et];exact Bz e2 (λt df g h=>ih r hr t df g h) (h4 rfl)
    | false =>
     dsimp only;rw[e2];exact ih r hr _ _ _ (h5 rfl)
  ·cases h
theorem Lf(hc:∀c,op≠.call c):(NU C op).foot C t g=(aO C op).run t g:=by
 have k:∀{x:Operand} {o:Od},nOd C x=some o->∃s,aV C x=some s/\∀t,s.run t=o.get t:=bg;unfold NU
 split
 case h_8 ty a =>
  split
  ·rename_i a ag n ha h2 b;obtain⟨s,hs,he⟩:=k ha;simp only[aO,hs,SO.foot,he]
  ·rfl
 case h_9 ty a x =>
  split
  ·rename_i a x n ha hx b;obtain⟨s,hs,he⟩:=k ha;simp only[aO,hs,SO.foot,he]
  ·rfl
 case h_16 ty x lo hi =>
  split
  ·rename_i e x l h h0 hx hl d;obtain⟨s,hs,he⟩:=k hx
   split
   ·simp only[aO,hs,SO.foot,he]
   ·rfl
  ·rename_i n e x l h h0 hx hl d;obtain⟨s,hs,he⟩:=k hx
   split
   ·simp only[aO,hs,SO.foot,he]
   ·rfl
  ·rfl
 case h_19 ty x ix =>
  split
  ·rename_i a i ha hi;obtain⟨s,hs,he⟩:=k ha
   split
   ·rename_i e h0
    split
    ·simp only[aO,h0,hs,SO.foot,he]
    ·rfl
   ·rename_i n e h0
    split
    ·simp only[aO,h0,SO.foot]
    ·rfl
   ·rfl
  ·rfl
 all_goals (repeat' (first|rfl|split|rw[aa]))
theorem NT:(nOp C op).foot C t g=(aO C op).run t g:=by
 unfold nOp
 split
 ·rename_i f args ats
  split
  ·rename_i vs j;obtain⟨s,hs,he⟩:=c7 j;simp only[SO.foot,aO,aV,hs,he,VH,VV]
  ·rfl
 ·rename_i fo args ats l
  split
  ·rename_i f vs hf j;obtain⟨s,hs,he⟩:=c7 j;obtain⟨s2,e,d⟩:=bg hf;simp only[SO.foot,aO,hs,e,he,d];cases Od.get t f<;>rfl
  ·rfl
 ·rename_i b args ats
  split
  ·rename_i x hx;obtain⟨s,hs,he⟩:=c7 hx
   split
   ·rename_i ty i;simp only[SO.foot,aO,hs,he,gI,Ww,WQ,VV,lP,i];cases l6 C.P ty<;>rfl
   ·rfl
  ·rename_i a x hx;obtain⟨s,hs,he⟩:=c7 hx;have k:(aO C (.call { callee:=.builtin .append,args:=args,argTypes:=ats })).run t g=ah (aw (a.get t)++aw (x.get t)):=by simp only[aO,hs,he,gI,Ww,WQ,VV,lP]
   split
   ·split
    ·split
     ·rw[aa];split
      ·exact k.symm
      ·rfl
     ·rfl
    ·rfl
   ·rfl
  ·rename_i a x hx;obtain⟨s,hs,he⟩:=c7 hx;have k:(aO C (.call { callee:=.builtin .copy,args:=args,argTypes:=ats })).run t g=ah (aw (a.get t)++aw (x.get t)):=by simp only[aO,hs,he,gI,Ww,WQ,VV,lP]
   split
   ·split
    ·split
     ·exact k.symm
     ·rfl
    ·rfl
   ·rfl
  ·rename_i a x hx;obtain⟨s,hs,he⟩:=c7 hx;simp only[SO.foot,aO,hs,he,gI,Ww,WQ,VV,lP]
  ·rename_i a x hx;obtain⟨s,hs,he⟩:=c7 hx;simp only[SO.foot,aO,hs,he,gI,Ww,WQ,VV,lP]
  ·rfl
 ·rename_i h1 h2 m;cases op with
  |call c=>rfl
  |_=>exact Lf (λc h=>by cases h)
theorem SE{all:List Oper}{pm:List Nat}{Q:QT}:∀(l:List Oper) (s:List SI) (k:Nat),Le C nt all l=some s->∀t df g fs,wpF C d rd pm s (Q .norm) t df g fs ->
  ((iN C nt pm all k l).run (I C) d rd t df g fs).sat Q:=by
 intro l
 induction l with
 | nil =>
  intro s k h t df g fs hq;injection h with h;subst h;obtain⟨h1,h2⟩:=hq;unfold iN;dsimp only;rw[h1];exact h2
 | cons o rest ih =>
  intro s k h t df g fs hq;unfold Le at h
  split at h
  ·rename_i gd r hd hg hr;injection h with h;subst h;obtain⟨ot,e1,e2⟩:=JW hd;have step:∀{x:OR},x.sat (kF (wpF C d rd pm r (Q .norm)) o.dst t df g.lg fs ((nOp C o.op).foot C t g)) (aN g []) (λ_=>False) ->
     (kT ot.run ((iN C nt pm all (k+1) rest).run (I C) d rd) t df g fs ((aO C o.op).run t g) x).sat Q:=by
    intro x hx;rw[NT]at hx;cases x with
    |fail=>exact hx.elim
    | val v =>
     simp only[kT,e2];refine ih r _ hr _ _ _ _ ?_;have hx:wpF C d rd pm r (Q .norm) (EG o.dst t v) df (j7 (aN g []) ((aN g []).lg++g.lg)) (⟨(aO C o.op).run t g,(aN g []).lg⟩::fs):=hx;obtain⟨h,nx,lg⟩:=g;exact hx
    | upd v g' =>
     simp only[kT,e2];exact ih r _ hr _ _ _ _ hx
    |dfr a=>exact hx.elim
   unfold iN;rw[e1];cases hgd:o.guard with
   | none =>
    rw[hgd]at hg;injection hg with hg;subst hg;simp only[jD];rw[<-Et];exact step hq
   | some jw =>
    obtain⟨j,w⟩:=jw;rw[hgd]at hg;obtain⟨sl,h1,h2⟩:=CI hg;subst h1;rw[h2];dsimp only;obtain⟨q,b,h4,h5⟩:=FX hq;have:(gp AV.undef sl).run t=tat t sl:=gp_run _ _ _;rw[this,b];cases q with
    | true =>
     dsimp only;rw[<-Et];exact step (h4 rfl)
    | false =>
     dsimp only;rw[e2];exact ih r _ hr _ _ _ _ (h5 rfl)
  ·cases h
theorem CR.sat_mono{r:CR}{Q Q':QT}(h:r.sat Q)(hq:∀e t df g,Q e t df g->Q' e t df g):r.sat Q':=by
 cases r with
 |fail=>exact h
 |ok e t df g=>exact hq _ _ _ _ h
theorem RC:∀(c:Code) (Q:QT) (t:T) (df:List ADf) (g:G),wp C d rd (eN C nt c) Q t df g->((aU C nt c).run (I C) d rd t df g).sat Q:=by
 intro c
 induction c with
 | seq a b iha ihb =>
  intro Q t df g h;have h:=iha _ t df g h;show (Cu _ ((aU C nt a).run (I C) d rd t df g)).sat Q;cases hr:(aU C nt a).run (I C) d rd t df g with
  |fail=>rw[hr]at h;exact h
  | ok e t1 df1 g1 =>
   rw[hr]at h;cases e with
   |norm=>exact ihb _ _ _ _ h
   |exit j=>exact h
   |ret=>exact h
 | cond q a b iha ihb =>
  intro Q t df g h;unfold eN at h
  split at h
  ·rename_i o ho;obtain⟨s,hs,he⟩:=bg ho;simp only[aU,hs,he];have h:wpC (o.get t) (wp C d rd (eN C nt a) Q) (wp C d rd (eN C nt b) Q) t df g:=h;unfold wpC at h;cases hv:Od.get t o with
   | bool v =>
    rw[hv]at h;cases v with
    |true=>exact iha _ _ _ _ (h.1 rfl)
    |false=>exact ihb _ _ _ _ (h.2 rfl)
   |_=>rw[hv]at h;exact h.elim
  ·exact h
 | block id body ih =>
  intro Q t df g h;have h:=ih _ t df g h;show (uR id ((aU C nt body).run (I C) d rd t df g)).sat Q;cases hr:(aU C nt body).run (I C) d rd t df g with
  |fail=>rw[hr]at h;exact h
  | ok e t1 df1 g1 =>
   rw[hr]at h;cases e with
   |norm=>exact h
   | exit j =>
    have h:aB (Nat.beq j id) (Q .norm t1 df1 g1) (Q (.exit j) t1 df1 g1):=h;show (aB (Nat.beq j id) _ _:CR).sat Q;cases hb:Nat.beq j id
    ·rw[hb]at h;exact h
    ·rw[hb]at h;exact h
   |ret=>exact h
 | loop body ih =>
  intro Q t df g h;obtain⟨Inv,⟨k,hk⟩,hs⟩:=h
  induction k using Nat.strongRecOn generalizing t df g with
  | _ k rec =>
   have h:=ih _ t df g (hs k t df g hk);show (Cu (λt df g=>(I C).code nt d rd (.loop body) t df g) ((aU C nt body).run (I C) d rd t df g)).sat Q;cases hr:(aU C nt body).run (I C) d rd t df g with
   |fail=>rw[hr]at h;exact h
   | ok e t1 df1 g1 =>
    rw[hr]at h;cases e with
    | norm =>
     obtain⟨k',hlt,hi⟩:=h;show ((I C).code nt d rd (.loop body) t1 df1 g1).sat Q;rw[Hm];exact rec k' hlt t1 df1 g1 hi
    |exit j=>exact h
    |ret=>exact h
 |scope body ih=>intro Q t df g h;exact ih _ _ _ _ h
 | region p ops draw =>
  intro Q t df g h;show ((fW C nt ops.toList draw).run (I C) d rd t df g).sat Q;unfold eN at h
  split at h
  ·rename_i l hl;rw[aa,aa,aa]at h;unfold fW;rw[aa,aa,aa]
   split
   ·rename_i hd;rw[VC hd]at h
    split
    ·rename_i ho;rw[VC ho]at h
     split
     ·rename_i hq;rw[VC hq]at h;have h:wpO C d rd l (kQ g Q) t df (aN g []):=h;have h:=Pe (C:=C) (d:=d) (rd:=rd) (Q:=λe t df g'=>e=.norm/\g'.lg=[]/\g'.nx=g.nx/\Q .norm t df g) (nt:=nt) (all:=ops.toList) ops.toList l hl t df (aN g [])
       (by
        refine cast ?_ h;congr 1;funext t df g';simp[kQ])
      dsimp only;cases hr:(jE C nt ops.toList ops.toList).run (I C) d rd t df (aN g []) with
      |fail=>rw[hr]at h;exact h
      | ok e t1 df1 g1 =>
       rw[hr]at h;obtain⟨h0,h1,h2,i⟩:=h;subst h0;simp only[ny,h1,h2,Wm];exact i
     ·rename_i hq;rw[Vz hq]at h;exact SE _ l 0 hl _ _ _ _ h
    ·rename_i ho;rw[Vz ho]at h;unfold wp at h;simp only[aU,fW,aa,VC hd,Vz ho]at h;exact h
   ·rename_i hd;rw[Vz hd]at h;exact Pe _ l hl _ _ _ h
  ·exact h
 | rangeFunc f ps assign body _ _ =>
  intro Q t df g h;unfold eN at h
  split at h
  ·rename_i o ho;obtain⟨s,hs,he⟩:=bg ho;have he:s.run=λt=>o.get t:=funext he;simp only[aU,hs,he];exact h assign body rfl rfl
  ·exact h
 |skip=>intro Q t df g h;exact h
 |label l=>intro Q t df g h;exact h
 |exit id=>intro Q t df g h;exact h
 |ret=>intro Q t df g h;exact h
 |goto l=>intro Q t df g h;exact h
 |refuse w=>intro Q t df g h;exact h
theorem OR.sat_mono{K K':AV->G->Prop}{D D':ADf->Prop}(h:r.sat K g D)(hk:∀v g',K v g'->K' v g')(hd:∀a,D a->D' a):r.sat K' g D':=by
 cases r with
 |fail=>exact h
 |val v=>exact hk _ _ h
 |upd v g'=>exact hk _ _ h
 |dfr a=>exact hd _ h
inductive SR where
 |tm (n:Nat)
 |cell (ag:Bool) (n a:Nat)
structure SF where
 nt:Nat
 res:List SR
 code:SC
def Eu(C:Cfg):List ResultVar->Option (List SR)
 |[]=>some []
 | .tmp n::rs=>match Eu C rs with
  |some k=>some (.tm n::k)
  |none=>none
 | .cell a ty::rs=>match Eu C rs,sM C.P ty,szT C.P ty with
  |some k,some ag,some n=>some (.cell ag n a::k)
  |_,_,_=>none
def nFn(C:Cfg)(f:Nat):Option SF :=
 match C.P.funcs[f]? with
 |none=>none
 | some fn=>match fn.body with
  |none=>none
  | some c=>match Eu C fn.results.toList with
   | some r => aB (fn.name == "runtime.NumGoroutine") none (some ⟨fn.ntmps, r, eN C fn.ntmps c⟩)
   |none=>none
def zB:List SR->T->G->(List AV->Prop)->Prop
 |[],_,_,K=>K []
 |.tm n::rs,t,g,K=>zB rs t g λvs=>K (tat t n::vs)
 | .cell ag n a::rs,t,g,K=>match sB ag n (tat t a) g with
  |.val v=>zB rs t g λvs=>K (v::vs)
  |_=>False
theorem Qx:∀(l:List ResultVar) (r:List SR) (K:List AV->Prop),Eu C l=some r->zB r t g K->∃s vs,wm C l=some s/\s.run t g=some vs/\K vs:=by
 intro l
 induction l with
 |nil=>intro r K h hk;injection h with h;subst h;exact⟨_,[],rfl,rfl,hk⟩
 | cons x l ih =>
  intro r K h hk;cases x with
  | tmp n =>
   unfold Eu at h
   split at h
   ·rename_i k hr;injection h with h;subst h;obtain⟨s,vs,h1,h2,b⟩:=ih k _ hr hk;refine⟨⟨λt g=>match s.run t g with|some vs=>some ((gp AV.undef n).run t::vs)|none=>none⟩,tat t n::vs,by simp only[wm,h1];rfl,?_,b⟩;simp only[h2,gp_run];rfl
   ·cases h
  | cell a ty =>
   unfold Eu at h
   split at h
   ·rename_i k ag n hr ha c;injection h with h;subst h;unfold zB at hk
    split at hk
    ·rename_i v d;obtain⟨s,vs,h1,h2,b⟩:=ih k _ hr hk;have hl:nj ag n (gp AV.undef a).run t g=.val v:=by rw[<-d];simp only[sB,nj,gp_run];rfl
     refine⟨⟨λt g=>match nj ag n (gp AV.undef a).run t g with|.val v=>(match s.run t g with|some vs=>some (v::vs)|none=>none)|_=>none⟩,v::vs,
      by simp only[wm,h1,cq,aV,ha,c];rfl,?_,b⟩
     simp only[hl,h2]
    ·exact hk.elim
   ·cases h
def DU(C:Cfg)(d:Nat)(r:List SR)(t:T)(df:List ADf)(g:G)(K:AV->G->Prop):Prop :=
 match gD (I C) d df g with
 |some g'=>zB r t g' λvs=>K (kM vs) g'
 |none=>False
def fnQ(C:Cfg)(d:Nat)(r:List SR)(K:AV->G->Prop):QT:=λe t df g=>match e with|.exit _=>False|_=>DU C d r t df g K
theorem tZ{s:SF}(hf:nFn C f=some s){as:List AV}{K:AV->G->Prop}(hl:as.length<=s.nt)(h:wp C d none s.code (fnQ C d s.res K) (cD 0 as .nil) [] g) :
  ((I C).call d f as g).sat K:=by
 rw[RF];unfold nFn at hf
 split at hf
 ·cases hf
 rename_i fn m
 split at hf
 ·cases hf
 rename_i c hc
 split at hf
 rotate_left
 ·cases hf
 rename_i r hr;rw[aa]at hf
 split at hf
 ·cases hf
 rename_i p;injection hf with hf;subst hf;have h:=RC c _ _ _ _ h;have b:∃s,wm C fn.results.toList=some s:=by
  have:∀(l:List ResultVar) (r:List SR),Eu C l=some r->∃s,wm C l=some s:=by
   intro l
   induction l with
   |nil=>intro r _;exact⟨_,rfl⟩
   | cons x l ih =>
    intro r h;cases x with
    | tmp n =>
     unfold Eu at h
     split at h
     ·rename_i k hr;obtain⟨s,hs⟩:=ih k hr;exact⟨_,by simp only[wm,hs];rfl⟩
     ·cases h
    | cell a ty =>
     unfold Eu at h
     split at h
     ·rename_i k ag n hr ha p;obtain⟨s,hs⟩:=ih k hr;exact⟨_,by simp only[wm,hs,cq,aV,ha,p];rfl⟩
     ·cases h
  exact this _ _ hr
 obtain⟨rs,i⟩:=b;unfold eK cFn;simp only[m,hc,i,aa,Vz p];rw[VC (by rw[aF,Wt];exact hl)];cases hrun:(aU C fn.ntmps c).run (I C) d none (cD 0 as .nil) [] g with
 |fail=>rw[hrun]at h;exact h
 | ok e t df g' =>
  rw[hrun]at h;have key:DU C d r t df g' K->(h_ (I C) d rs.run t df g').sat K:=by
   intro h;unfold DU at h;unfold h_
   split at h
   ·rename_i g2 o;rw[o];obtain⟨s2,vs,h1,h2,q⟩:=Qx _ _ _ hr h;rw[i]at h1;injection h1 with h1;subst h1;simp only[h2];exact q
   ·exact h.elim
  cases e with
  |exit j=>exact h
  |norm=>exact key h
  |ret=>exact key h
def All2{α β:Type}(R:α->β->Prop):List α->List β->Prop
 |[],[]=>True
 |a::as,b::bs=>R a b/\All2 R as bs
 |_,_=>False
section all2
variable {α β:Type}{R S:α->β->Prop}
theorem All2.len:∀{l:List α} {m:List β},All2 R l m->l.length=m.length
 |[],[],_=>rfl
 |_::_,_::_,h=>by simp only[Wd,All2.len h.2]
theorem All2.mono(hs:∀a b,R a b->S a b):∀{l:List α} {m:List β},All2 R l m->All2 S l m
 |[],[],_=>trivial
 |_::_,_::_,h=>⟨hs _ _ h.1,All2.mono hs h.2⟩
theorem All2.get:∀{l:List α} {m:List β},All2 R l m->∀{i:Nat} {a:α},l[i]?=some a->∃b,m[i]?=some b/\R a b
 |_::_,b::_,h,0,_,e=>by simp at e;subst e;exact⟨b,rfl,h.1⟩
 |_::_,_::_,h,i+1,a,e=>by simpa using All2.get h.2 (i:=i) (by simpa using e)
 |[],[],_,i,a,e=>by simp at e
theorem All2.append:∀{l:List α} {m:List β} {l':List α} {m':List β},All2 R l m->All2 R l' m'->All2 R (l++l') (m++m')
 |[],[],_,_,_,h'=>h'
 |_::_,_::_,_,_,h,h'=>⟨h.1,All2.append h.2 h'⟩
theorem All2.take:∀{l:List α} {m:List β},All2 R l m->∀(i:Nat),All2 R (l.take i) (m.take i)
 |[],[],_,_=>by simp[All2]
 |_::_,_::_,h,0=>by simp[All2]
 |_::_,_::_,h,i+1=>⟨h.1,All2.take h.2 i⟩
theorem All2.drop:∀{l:List α} {m:List β},All2 R l m->∀(i:Nat),All2 R (l.drop i) (m.drop i)
 |[],[],_,_=>by simp[All2]
 |_::_,_::_,h,0=>h
 |_::_,_::_,h,i+1=>All2.drop h.2 i
theorem Tx{f:α->β}(h:∀a,R a (f a)):∀l:List α,All2 R l (l.map f)
 |[]=>trivial
 |a::l=>⟨h a,Tx h l⟩
theorem All2.eq_map{f:α->β}(hf:∀a b,R a b->b=f a):∀{l:List α} {m:List β},All2 R l m->m=l.map f
 |[],[],_=>rfl
 |a::l,b::m,h=>by rw[W4,hf _ _ h.1,All2.eq_map hf h.2]
end all2
def NoP:Nat->Prop:=λ_=>False
class Rp (α:Type) where
 sz:Nat
 dp:Nat
 rp:(Nat->Prop)->Nat->H->α->List AV->Prop
 len:∀{P k h x cs},rp P k h x cs->cs.length=sz
 mono:∀{P P':Nat->Prop} {k k':Nat} {h h':H} {x:α} {cs:List AV},rp P k h x cs->(∀i,P i->P' i/\h'.get i=h.get i)->k<=k'->rp P' k' h' x cs
 snap:∀{P k h x cs n} (d:Nat),rp P k h x cs->dp<=n->dp<=aE->∃cs',aG (Hx.snap h d n) cs=some cs'/\rp NoP (max k d) .nil x cs'
 same:∀{k h x cs n} (d:Nat),rp NoP k h x cs->dp<=n->aG (Hx.snap h d n) cs=some cs
 ids:∀{P k h x cs n},rp P k h x cs->∀i∈cs.flatMap (aD h n),P i
 tag:∀{k h x cs n},rp NoP k h x cs->dp<=n->∃m,jm (hY n) cs=some m/\m<=k
theorem Rp.tree{α:Type} [Rp α]{k':Nat}{h':H}{x:α}(r:Rp.rp NoP k h x cs)(hk:k<=k'):Rp.rp P k' h' x cs :=
 Rp.mono r (λ_ h=>h.elim) hk
def AV.flat:AV->Bool
 |.bool _|.int _ _|.str _=>true
 |_=>false
theorem Do(hv:v.flat=true)(hn:1<=n):Hx.snap h d n v=some v:=by obtain⟨n,rfl⟩:∃m,n=m+1:=⟨n - 1,by omega⟩;cases v<;>first|rfl|cases hv
theorem O2(hv:v.flat=true)(hn:1<=n):hY n v=some 0:=by obtain⟨n,rfl⟩:∃m,n=m+1:=⟨n - 1,by omega⟩;cases v<;>first|rfl|cases hv
theorem Ni{h:H}{n:Nat}{v:AV}(hv:v.flat=true):aD h n v=[]:=by
 cases n with
 |zero=>rfl
 |succ n=>cases v<;>first|rfl|cases hv
@[reducible] def Rp.plain {α:Type} (f:α->AV) (ok:α->Prop) (hf:∀x,(f x).flat=true):Rp α where
 sz:=1
 dp:=1
 rp:=λ_ _ _ x cs=>cs=[f x]/\ok x
 len:=by rintro P k h x cs ⟨rfl,-⟩;rfl
 mono:=λr _ _=>r
 snap:=by rintro P k h x cs n d ⟨rfl,ho⟩ hn _;exact⟨[f x],by simp only[aG,Do (hf x) hn],rfl,ho⟩
 same:=by rintro k h x cs n d ⟨rfl,ho⟩ hn;simp only[aG,Do (hf x) hn]
 ids:=by rintro P k h x cs n ⟨rfl,ho⟩ i hi;simp[Ni (hf x)]at hi
 tag:=by rintro k h x cs n ⟨rfl,ho⟩ hn;exact⟨0,by simp[jm,O2 (hf x) hn],Wp _⟩
def ci(x:Int):List AV:=[.int .i64 x]
def cu(x:Nat):List AV:=[.int .u64 (x:Int)]
instance : Rp Int:=Rp.plain (λx=>.int .i64 x) (λ_=>True) (λ_=>rfl)
instance : Rp Bool:=Rp.plain (λx=>.bool x) (λ_=>True) (λ_=>rfl)
instance : Rp Nat:=Rp.plain (λx=>.int .u64 (x:Int)) (λx=>x<18446744073709551616) (λ_=>rfl)
instance : Rp UInt8:=Rp.plain (λx=>.int .u8 (x.toNat:Int)) (λ_=>True) (λ_=>rfl)
instance : Rp UInt16:=Rp.plain (λx=>.int .u16 (x.toNat:Int)) (λ_=>True) (λ_=>rfl)
theorem tL{α β:Type}{f:α->Option β}:∀{l m:List α} {a b:List β},aG f l=some a->aG f m=some b->aG f (l++m)=some (a++b)
 |[],m,a,b,h1,h2=>by injection h1 with h1;subst h1;exact h2
 | x::l,m,a,b,h1,h2=>by
  unfold aG at h1
  split at h1
  ·rename_i y k
   split at h1
   ·rename_i ys h;injection h1 with h1;subst h1;simp only[VE,aG,k,tL h h2]
   ·cases h1
  ·cases h1
theorem yS{α:Type}{f:α->Option Nat}:∀{l m:List α} {a b:Nat},jm f l=some a->jm f m=some b->jm f (l++m)=some (max a b)
 |[],m,a,b,h1,h2=>by injection h1 with h1;subst h1;simpa using h2
 | x::l,m,a,b,h1,h2=>by
  unfold jm at h1
  split at h1
  ·rename_i y k
   split at h1
   ·rename_i ys h;injection h1 with h1;subst h1;simp only[VE,jm,k,yS h h2,Wj,Nat.max_def]
    repeat' split
    all_goals omega
   ·cases h1
  ·cases h1
instance {α β:Type} [Rp α] [Rp β]:Rp (α×β) where
 sz:=Rp.sz α+Rp.sz β
 dp:=max (Rp.dp α) (Rp.dp β)
 rp:=λP k h x cs=>∃a b,cs=a++b/\Rp.rp P k h x.1 a/\Rp.rp P k h x.2 b
 len:=by rintro P k h x cs ⟨a,b,rfl,h1,h2⟩;rw[Wr,Rp.len h1,Rp.len h2]
 mono:=by rintro P P' k k' h h' x cs ⟨a,b,rfl,h1,h2⟩ hp hk;exact⟨a,b,rfl,Rp.mono h1 hp hk,Rp.mono h2 hp hk⟩
 snap:=by rintro P k h x cs n d ⟨a,b,rfl,h1,h2⟩ hn hA;obtain⟨a',e1,r1⟩:=Rp.snap (n:=n) d h1 (by omega) (by omega);obtain⟨b',e2,r2⟩:=Rp.snap (n:=n) d h2 (by omega) (by omega);exact⟨a'++b',tL e1 e2,a',b',rfl,r1,r2⟩
 same:=by rintro k h x cs n d ⟨a,b,rfl,h1,h2⟩ hn;exact tL (Rp.same d h1 (by omega)) (Rp.same d h2 (by omega))
 ids:=by
  rintro P k h x cs n ⟨a,b,rfl,h1,h2⟩ i hi;rw[Ys,V7]at hi;rcases hi with hi|hi
  ·exact Rp.ids h1 i hi
  ·exact Rp.ids h2 i hi
 tag:=by rintro k h x cs n ⟨a,b,rfl,h1,h2⟩ hn;obtain⟨m1,e1,l1⟩:=Rp.tag (n:=n) h1 (by omega);obtain⟨m2,e2,l2⟩:=Rp.tag (n:=n) h2 (by omega);exact⟨max m1 m2,yS e1 e2,by omega⟩
@[reducible] def Rp.via {α β:Type} [Rp β] (f:α->β):Rp α where
 sz:=Rp.sz β
 dp:=Rp.dp β
 rp:=λP k h x cs=>Rp.rp P k h (f x) cs
 len:=Rp.len
 mono:=Rp.mono
 snap:=Rp.snap
 same:=Rp.same
 ids:=Rp.ids
 tag:=Rp.tag
def SlV{α:Type} [Rp α](P:Nat->Prop)(k:Nat)(h:H)(l:List α)(v:AV):Prop :=
 match v with
 |.nils|.esl=>l=[]
 |.tsl t s rows=>t<=k/\(s=Rp.sz α\/rows=[])/\All2 (Rp.rp NoP k .nil) l rows
 |.hsl id _ _ _ _=>P id/\∃rows,ak h (Rp.sz α) v=some rows/\All2 (Rp.rp P k h) l rows
 |_=>False
def SlR{α:Type} [Rp α](P:Nat->Prop)(k:Nat)(h:H)(l:List α)(v:AV):Prop:=l.length<9223372036854775808/\SlV P k h l v
theorem SlR.rows{α:Type} [Rp α]{P:Nat->Prop}{k:Nat}{h:H}{l:List α}{v:AV}(r:SlR P k h l v):∃rows,ak h (Rp.sz α) v=some rows/\All2 (Rp.rp P k h) l rows:=by
 have r:=r.2;unfold SlV at r
 split at r
 ·subst r;exact⟨[],rfl,trivial⟩
 ·subst r;exact⟨[],rfl,trivial⟩
 ·obtain⟨h1,h2,c⟩:=r;refine⟨_,?_,c.mono λa b r=>Rp.tree r (Vu _)⟩;simp only[ak];rw[aa];rcases h2 with h2|h2
  ·subst h2;simp
  ·subst h2;simp
 ·exact r.2
 ·exact r.elim
theorem Da{α β γ:Type}{R:α->β->Prop}{S:α->γ->Prop}{f:β->Option γ}(hf:∀a b,R a b->∃c,f b=some c/\S a c):∀{l:List α} {m:List β},All2 R l m->∃r,aG f m=some r/\All2 S l r
 |[],[],_=>⟨[],rfl,trivial⟩
 | a::l,b::m,h=>by obtain⟨c,e1,s1⟩:=hf a b h.1;obtain⟨r,e2,s2⟩:=Da hf h.2;exact⟨c::r,by simp only[aG,e1,e2],s1,s2⟩
theorem Dc{α β:Type}{R:α->β->Prop}{f:β->Option Nat}{k:Nat}(hf:∀a b,R a b->∃m,f b=some m/\m<=k):∀{l:List α} {m:List β},All2 R l m->∃r,jm f m=some r/\r<=k
 |[],[],_=>⟨0,rfl,Wp _⟩
 | a::l,b::m,h=>by obtain⟨c,e1,s1⟩:=hf a b h.1;obtain⟨r,e2,s2⟩:=Dc hf h.2;exact⟨max c r,by simp only[jm,e1,e2],by omega⟩
theorem Gk{α β:Type}{R:α->β->Prop}:∀{l:List α} {m:List β},All2 R l m->∀b∈m,∃a,R a b
 |[],[],_,b,hb=>by simp at hb
 | a::l,c::m,h,b,hb=>by
  rcases VP.1 hb with rfl|hb
  ·exact⟨a,h.1⟩
  ·exact Gk h.2 b hb
theorem yW{h h':H}{sz:Nat}{v:AV}(he:∀id ep off len lim,v=.hsl id ep off len lim->h'.get id=h.get id):ak h' sz v=ak h sz v:=by
 cases v with
 |hsl id ep off len lim=>simp only[ak,he id ep off len lim rfl]
 |_=>rfl
instance {α:Type} [Rp α]:Rp (List α) where
 sz:=1
 dp:=Rp.dp α+1
 rp:=λP k h l cs=>∃v,cs=[v]/\SlR P k h l v
 len:=by rintro P k h x cs ⟨v,rfl,h1⟩;rfl
 mono:=by
  rintro P P' k k' h h' x cs ⟨v,rfl,h0,h1⟩ hp hk;refine⟨v,rfl,h0,?_⟩;unfold SlV at h1 ⊢
  split at h1
  ·exact h1
  ·exact h1
  ·exact⟨by omega,h1.2.1,h1.2.2.mono λa b r=>Rp.mono r (λi hi=>hi.elim) hk⟩
  ·rename_i id ep off len lim;obtain⟨a,rows,b,c⟩:=h1;refine⟨(hp _ a).1,rows,?_,c.mono λa b r=>Rp.mono r hp hk⟩;rw[<-b];exact yW λ_ _ _ _ _ e=>by injection e with e;subst e;exact (hp _ a).2
  ·exact h1
 snap:=by
  rintro P k h x cs n d ⟨v,rfl,h0,h1⟩ hn hA;obtain⟨n,rfl⟩:∃m,n=m+1:=⟨n - 1,by omega⟩;have hdA:(23:Nat)+1=aE:=rfl;cases v with
  |nils=>exact⟨_,rfl,_,rfl,h0,h1⟩
  |esl=>exact⟨_,rfl,_,rfl,h0,h1⟩
  | tsl t s rows =>
   refine⟨_,rfl,_,rfl,h0,?_⟩;obtain⟨q1,q2,q3⟩:=h1;exact⟨by omega,q2,q3.mono λa b r=>Rp.mono r (λi hi=>hi.elim) (by omega)⟩
  | hsl id ep off len lim =>
   obtain⟨q1,rows,q2,q3⟩:=h1;simp only[ak]at q2
   split at q2
   ·rename_i sz' rows' ep' lo fz hg;rw[aa]at q2
    split at q2
    ·rename_i hc;simp only[Vx]at hc;obtain⟨⟨hc1,hc2⟩,hc3⟩:=hc;injection q2 with q2;have e1:=WT hc2;subst e1;obtain⟨rs,e2,a2⟩:=Da (S:=Rp.rp NoP (max k d) .nil) (f:=aG (Hx.snap h d n)) (λa b r=>Rp.snap (n:=n) d r (by omega) (by omega)) q3;obtain⟨m,e3,l3⟩:=Dc (f:=jm (hY aE)) (k:=max k d) (λa b r=>Rp.tag (n:=aE) r (by omega)) a2;refine⟨[.tsl (Nat.max d m) (Rp.sz α) rs],?_,_,rfl,h0,?_⟩
     ·simp only[aG,Hx.snap,hg,hc1,hc3,Yd,q2,e2,j4,e3]
     ·refine⟨?_,.inl rfl,a2⟩;show max d m<=max k d;omega
    ·cases q2
   ·cases q2
  |_=>exact h1.elim
 same:=by
  rintro k h x cs n d ⟨v,rfl,-,h1⟩ hn;obtain⟨n,rfl⟩:∃m,n=m+1:=⟨n - 1,by omega⟩;cases v with
  |nils=>rfl
  |esl=>rfl
  |tsl t s rows=>rfl
  |hsl id ep off len lim=>exact h1.1.elim
  |_=>exact h1.elim
 ids:=by
  rintro P k h x cs n ⟨v,rfl,-,h1⟩ i hi;cases n with
  |zero=>simp[aD]at hi
  | succ n =>
   simp only[Ww,WQ,VV]at hi;cases v with
   | hsl id ep off len lim =>
    obtain⟨q1,rows,q2,q3⟩:=h1;unfold aD at hi;rcases VP.1 hi with rfl|hi
    ·exact q1
    ·simp only[ak]at q2
     split at q2
     ·rename_i sz' rows' ep' lo fz hg;rw[aa]at q2
      split at q2
      ·injection q2 with q2;rw[hg]at hi;simp only[q2,Xu]at hi;obtain⟨row,hr,c,hc,hi⟩:=hi;obtain⟨a,r⟩:=Gk q3 row hr;exact Rp.ids (n:=n) r i (Xu.2 ⟨c,hc,hi⟩)
      ·cases q2
     ·cases q2
   |nils=>simp[aD]at hi
   |esl=>simp[aD]at hi
   |tsl t s rows=>simp[aD]at hi
   |_=>exact h1.elim
 tag:=by
  rintro k h x cs n ⟨v,rfl,-,h1⟩ hn;obtain⟨n,rfl⟩:∃m,n=m+1:=⟨n - 1,by omega⟩;cases v with
  |nils=>exact⟨0,rfl,Wp _⟩
  |esl=>exact⟨0,rfl,Wp _⟩
  |tsl t s rows=>exact⟨t,by simp[jm,hY],h1.1⟩
  |hsl id ep off len lim=>exact h1.1.elim
  |_=>exact h1.elim
theorem l8{α:Type} [Rp α]{l:List α}:Rp.rp P k h l cs↔∃v,cs=[v]/\SlR P k h l v:=Iff.rfl
theorem aW:Rp.rp P k h x cs↔cs=[.int .i64 x]:=by simp[Rp.rp]
theorem yu{x:Nat}:Rp.rp P k h x cs↔cs=[.int .u64 (x:Int)]/\x<18446744073709551616:=by simp[Rp.rp]
theorem jh{x:Bool}:Rp.rp P k h x cs↔cs=[.bool x]:=by simp[Rp.rp]
theorem co{x:UInt8}:Rp.rp P k h x cs↔cs=[.int .u8 (x.toNat:Int)]:=by simp[Rp.rp]
theorem ou{α β:Type} [Rp α] [Rp β]{x:α×β}:Rp.rp P k h x cs↔∃a b,cs=a++b/\Rp.rp P k h x.1 a/\Rp.rp P k h x.2 b:=Iff.rfl
theorem SlR.ints(r:SlR P k h l v):ak h 1 v=some (l.map ci):=by obtain⟨rows,h1,h2⟩:=r.rows;rw[show (1:Nat)=Rp.sz Int from rfl,h1,h2.eq_map (f:=ci) λa b r=>aW.1 r]
theorem SlR.nats{l:List Nat}(r:SlR P k h l v):ak h 1 v=some (l.map cu):=by obtain⟨rows,h1,h2⟩:=r.rows;rw[show (1:Nat)=Rp.sz Nat from rfl,h1,h2.eq_map (f:=cu) λa b r=>(yu.1 r).1]
theorem kP(t:T)(n m:Nat)(v:AV):tat (eQ t n v) m=if m=n then v else tat t m:=sp_get _ _ _ _ _
theorem Gu(a:AV)(t:T):cD 0 [a] t=eQ t 0 a:=rfl
theorem Gv(a b:AV)(t:T):cD 0 [a,b] t=eQ (eQ t 0 a) 1 b:=rfl
theorem Gw(a b c:AV)(t:T):cD 0 [a,b,c] t=eQ (eQ (eQ t 0 a) 1 b) 2 c:=rfl
theorem Gx(a b c e:AV)(t:T):cD 0 [a,b,c,e] t=eQ (eQ (eQ (eQ t 0 a) 1 b) 2 c) 3 e:=rfl
theorem Bj(i:Nat)(t:T):cD i [] t=t:=rfl
theorem Ko(m:Nat):tat Tr.nil m=AV.undef:=TF _ _
theorem Ng(t:T)(n:Nat):Od.get t (.t n)=tat t n:=rfl
theorem Rh(t:T)(v:AV):Od.get t (.k v)=v:=rfl
theorem FY(t:T):gI t []=[]:=rfl
theorem C2(t:T)(o:Od)(os:List Od):gI t (o::os)=o.get t::gI t os:=rfl
theorem aJ(h:H)(i:Nat)(o:AObj):(h.put i o).get i=o:=by rw[TA,VC rfl]
theorem af(h:H)(i:Nat)(o:AObj)(hk:k≠i):(h.put i o).get k=h.get k:=by rw[TA,Vz hk]
theorem Jk(k:Nat):G.empty.h.get k=AObj.none:=by simp[G.empty,H.get,TF]
theorem FE:G.empty.nx=0:=rfl
theorem Kc(v:AV)(K:AV->G->Prop)(g:G)(D:ADf->Prop):(OR.val v).sat K g D=K v g:=rfl
theorem Kb(v:AV)(g':G)(K:AV->G->Prop)(g:G)(D:ADf->Prop):(OR.upd v g').sat K g D=K v g':=rfl
theorem GA(v:AV):orV (some v)=.val v:=rfl
theorem ap(h:-9223372036854775808<=x)(h':x<9223372036854775808):IntKind.wrap .i64 x=x:=by
 by_cases h0:x<0
 ·exact xz x h h0
 ·obtain⟨n,rfl⟩:=Vy (show 0<=x by omega);exact nF n (by omega)
theorem rN(h:0<=x)(h':x<18446744073709551616):IntKind.wrap .u64 x=x:=by simp only[IntKind.wrap,IntKind.bits,IntKind.signed,Bool.false_and,WV,if_false];exact Ym h h'
theorem SG(h:0<=x)(h':x<256):IntKind.wrap .u8 x=x:=by simp only[IntKind.wrap,IntKind.bits,IntKind.signed,Bool.false_and,WV,if_false];exact Ym h h'
theorem bJ(k:IntKind):cS k k=true:=by cases k<;>rfl
theorem IG(k:IntKind)(a b:Int):bQ .add (.int k a) (.int k b)=.val (.int k (k.wrap (a+b))):=by simp only[bQ,fO,bJ,hZ];rfl
theorem IQ(k:IntKind)(a b:Int):bQ .sub (.int k a) (.int k b)=.val (.int k (k.wrap (a - b))):=by simp only[bQ,fO,bJ,hZ];rfl
theorem IN(k:IntKind)(a b:Int):bQ .mul (.int k a) (.int k b)=.val (.int k (k.wrap (a*b))):=by simp only[bQ,fO,bJ,hZ];rfl
theorem II(k:IntKind)(a b:Int):bQ .eql (.int k a) (.int k b)=.val (.bool (decide (a=b))):=by simp only[bQ,fO,bJ,q_];rfl
theorem IP(k:IntKind)(a b:Int):bQ .neq (.int k a) (.int k b)=.val (.bool (!decide (a=b))):=by simp only[bQ,fO,bJ,q_,notb_eq];rfl
theorem IM(k:IntKind)(a b:Int):bQ .lss (.int k a) (.int k b)=.val (.bool (decide (a<b))):=by simp only[bQ,fO,bJ,lZ];rfl
theorem IK(k:IntKind)(a b:Int):bQ .gtr (.int k a) (.int k b)=.val (.bool (decide (b<a))):=by simp only[bQ,fO,bJ,lZ];rfl
theorem IL(k:IntKind)(a b:Int):bQ .leq (.int k a) (.int k b)=.val (.bool (decide (a<=b))):=by
 simp only[bQ,fO,bJ,lZ,notb_eq]
 by_cases h:b<a
 ·rw[Wz h,We (show ¬a<=b by omega)];rfl
 ·rw[We h,Wz (show a<=b by omega)];rfl
theorem IJ(k:IntKind)(a b:Int):bQ .geq (.int k a) (.int k b)=.val (.bool (decide (b<=a))):=by
 simp only[bQ,fO,bJ,lZ,notb_eq]
 by_cases h:a<b
 ·rw[Wz h,We (show ¬b<=a by omega)];rfl
 ·rw[We h,Wz (show b<=a by omega)];rfl
theorem DG(k:IntKind){a b:Int}(ha:0<=a)(hb:0<b):bQ .quo (.int k a) (.int k b)=.val (.int k (k.wrap (a / b))):=by obtain⟨m,rfl⟩:=Vy ha;obtain⟨n,rfl⟩:=Vy (show 0<=b by omega);obtain⟨n,rfl⟩:∃j,n=j+1:=⟨n - 1,by omega⟩;simp only[bQ,fO,bJ];show orV (Qs k (.ofNat m) (.ofNat (n+1)))=_;simp only[Qs,hZ];rfl
theorem cX(k:IntKind){a b:Int}(ha:0<=a)(hb:0<b):bQ .rem (.int k a) (.int k b)=.val (.int k (a % b)):=by obtain⟨m,rfl⟩:=Vy ha;obtain⟨n,rfl⟩:=Vy (show 0<=b by omega);obtain⟨n,rfl⟩:∃j,n=j+1:=⟨n - 1,by omega⟩;simp only[bQ,fO,bJ];show orV (Qw k (.ofNat m) (.ofNat (n+1)))=_;simp only[Qw];rfl
theorem Pt(k':IntKind)(m n:Nat):bQ .shl (.int .u64 (m:Int)) (.int k' (n:Int))=.val (.int .u64 ((m*2 ^ n % 18446744073709551616:Nat):Int)):=by
 show orV (OL .u64 (.ofNat m) (.ofNat n))=_;simp only[OL,IntKind.bits];show OR.val (.int .u64 (tW .u64 (.ofNat (m*2 ^ (Nat.min n 64)))))=_;simp only[tW];congr 2;show ((m*2 ^ (min n 64) % 18446744073709551616:Nat):Int)=_
 by_cases h:n<=64
 ·rw[WX h]
 ·rw[Nat.min_eq_right (by omega)];obtain⟨j,rfl⟩:∃j,n=64+j:=⟨n - 64,by omega⟩;rw[Nat.pow_add,show (18446744073709551616:Nat)=2 ^ 64 from rfl,Nat.mul_mod_left,<-YO,Xy (m*2 ^ 64),<-YO,Nat.mul_mod_left]
theorem zF(k':IntKind)(m n:Nat)(h:m<18446744073709551616):bQ .shr (.int .u64 (m:Int)) (.int k' (n:Int))=.val (.int .u64 ((m / 2 ^ n:Nat):Int)):=by
 show orV (OM .u64 (.ofNat m) (.ofNat n))=_;simp only[OM,IntKind.bits];show OR.val (.int .u64 (.ofNat (m / 2 ^ (Nat.min n 64))))=_;congr 2;show ((m / 2 ^ (min n 64):Nat):Int)=_
 by_cases h2:n<=64
 ·rw[WX h2]
 ·rw[Nat.min_eq_right (by omega)];obtain⟨j,rfl⟩:∃j,n=64+j:=⟨n - 64,by omega⟩;rw[Nat.pow_add,<-WZ,show (2 ^ 64:Nat)=18446744073709551616 from rfl,Xw h,Nat.zero_div]
theorem yz(h:m<18446744073709551616)(h':n<18446744073709551616):l_ .u64 m n=true:=by simp only[l_,Vx,WN];exact⟨h,h'⟩
theorem mo(m n:Nat)(h:m<18446744073709551616)(h':n<18446744073709551616):bQ .or (.int .u64 (m:Int)) (.int .u64 (n:Int))=.val (.int .u64 ((m ||| n:Nat):Int)):=by show orV (aB (l_ .u64 m n) _ _)=_;rw[yz h h'];rfl
theorem nM(m n:Nat)(h:m<18446744073709551616)(h':n<18446744073709551616):bQ .and (.int .u64 (m:Int)) (.int .u64 (n:Int))=.val (.int .u64 ((m &&& n:Nat):Int)):=by show orV (aB (l_ .u64 m n) _ _)=_;rw[yz h h'];rfl
theorem Af(m n:Nat)(h:m<18446744073709551616)(h':n<18446744073709551616):bQ .andNot (.int .u64 (m:Int)) (.int .u64 (n:Int))=.val (.int .u64 ((m ^^^ (m &&& n):Nat):Int)):=by show orV (aB (l_ .u64 m n) _ _)=_;rw[yz h h'];rfl
theorem JV(h:m<18446744073709551616)(h':n<18446744073709551616):m ||| n<18446744073709551616:=XW (n:=64) h h'
theorem Gs(b:Bool):Qk (.bool b)=.val (.bool (!b)):=by simp only[Qk,notb_eq]
theorem Fv(k k':IntKind)(a:Int):Jb k (.int k' a)=.val (.int k (k.wrap a)):=by simp only[Jb,hZ]
theorem Oc(a b:AV):JY (.bool true) a b=.val a:=rfl
theorem Ob(a b:AV):JY (.bool false) a b=.val b:=rfl
theorem NS(k:IntKind)(a b:Int):mxV (.int k a) (.int k b)=.val (.int k (max a b)):=by
 simp only[mxV,bJ,lZ]
 by_cases h:a<b
 ·rw[Wz h,Int.max_eq_right (by omega)]
 ·rw[We h,Int.max_eq_left (by omega)]
theorem NP(k:IntKind)(a b:Int):mnV (.int k a) (.int k b)=.val (.int k (min a b)):=by
 simp only[mnV,bJ,lZ]
 by_cases h:b<a
 ·rw[Wz h,Int.min_eq_right (by omega)]
 ·rw[We h,Int.min_eq_left (by omega)]
def eJ(sz:Nat)(v:AV)(i off:Nat):AV :=
 match v with
 |.tsl l _ rows=>.tptr l sz rows i off
 |.hsl id ep o _ _=>.hptr id ep (o+i) off
 |_=>.undef
theorem NE{sz:Nat}{rows:List (List AV)}(h:ak g.h sz v=some rows):dH .slice v g=.val (.int .i64 (rows.length:Int)):=by
 unfold ak at h
 split at h
 ·injection h with h;subst h;rfl
 ·injection h with h;subst h;rfl
 ·rw[aa]at h
  split at h
  ·injection h with h;subst h;simp only[dH,aF];rfl
  ·cases h
 ·split at h
  ·rw[aa]at h
   split at h
   ·rename_i hc;injection h with h;subst h;simp only[Vx,Wt,aF]at hc;simp only[dH,bj,bp,Wf,Ye];congr 3;rw[WX (by omega)]
   ·cases h
  ·cases h
 ·cases h
theorem dl{sz:Nat}{rows:List (List AV)}(hv:ak h sz v=some rows)(g:G):dH .slice v g=.val (.int .i64 (rows.length:Int)) :=
 (show dH .slice v g=dH .slice v ⟨h,0,[]⟩ from by cases v<;>rfl).trans (NE (g:=⟨h,0,[]⟩) hv)
theorem Np{sz:Nat}{rows:List (List AV)}{k:IntKind}{i:Int}(h:ak g.h sz v=some rows)(h0:0<=i)(hi:i<rows.length) :
  Eh sz v (.int k i) g=.val (eJ sz v i.toNat 0):=by
 obtain⟨n,rfl⟩:=Vy h0;have hi:n<rows.length:=by omega
 show Eh sz v (.int k (.ofNat n)) g=.val (eJ sz v n 0);unfold ak at h
 split at h
 ·injection h with h;subst h;simp at hi
 ·injection h with h;subst h;simp at hi
 ·rw[aa]at h
  split at h
  ·rename_i hc;injection h with h;subst h;rename_i sz' rows _;have:Nat.beq sz sz'=true:=by
    simp only[Wh,List.isEmpty_iff]at hc;rcases hc with hc|hc
    ·exact hc
    ·rw[hc]at hi;simp at hi
   simp only[Eh,gY,this,aF,WA,aa,WN,VC hi,eJ]
  ·cases h
 ·split at h
  ·rename_i sz' rows' ep' lo fz hg;rw[aa]at h
   split at h
   ·rename_i hc;injection h with h;subst h;simp only[Vx]at hc;simp only[bj,bp,Wf,Ye]at hi;simp only[Eh,gY,G.get_eq,hg,hc.1.1,hc.1.2,WA,aa,WN];rw[VC (by omega)];rfl
   ·cases h
  ·cases h
 ·cases h
theorem Lc{sz:Nat}{rows:List (List AV)}{ag:Bool}(h:ak g.h sz v=some rows)(hr:rows[i]?=some row) :
  sB ag n (eJ sz v i off) g=orV (bP ag n row off):=by
 unfold ak at h
 split at h
 ·injection h with h;subst h;simp at hr
 ·injection h with h;subst h;simp at hr
 ·rw[aa]at h
  split at h
  ·injection h with h;subst h;simp only[sB,nj,eJ,ge,hr]
  ·cases h
 ·split at h
  ·rename_i sz' rows' ep' lo fz hg;rw[aa]at h
   split at h
   ·rename_i hc;injection h with h;subst h;simp only[Vx]at hc;simp only[bj,bp,Yv,WG]at hr
    split at hr
    ·simp only[sB,nj,eJ,G.get_eq,hg,hc.1.1,ge,hr]
    ·cases hr
   ·cases h
  ·cases h
 ·cases h
theorem FO(fo id ep i off:Nat):HI fo (.hptr id ep i off)=.val (.hptr id ep i (off+fo)):=rfl
theorem GG:bP false n row off=row[off]?:=by simp only[bP,ge]
theorem GF(h:off+n<=row.length):bP true n row off=some (.agg ((row.drop off).take n)):=by simp only[bP,bj,bp,aF,Wf,Ye,aa];rw[VC];rw[WX (by omega)];exact Wm n
theorem rI{id ep sz:Nat}{rows:List (List AV)}{lo:Bool}{row':List AV}{x:AV}(hg:g.h.get id=.cells sz rows ep lo false)(hr:rows[i]?=some row)
  (hc:x.cells=cs) (ht:x.isTup=false) (hl:cs.length=n) (hp:bu row off cs=some row') :
  jV n (.hptr id ep i off) x g=.upd .undef (g.put id (.cells sz (rows.set i row') ep lo false)):=by
 subst hc;simp only[jV,po,G.get_eq,hg,ge,hr,show Nat.beq ep ep=true from Wm ep,aF,hl,show Nat.beq n n=true from Wm n,ht,notb_eq,Yg,Yd,hp,jj]
theorem eH{c:AV}(h:off<row.length):bu row off [c]=some (row.set off c):=by simp only[bu,aF,XC,aa,Wt,jj];rw[VC (by omega)]
theorem w_(h:cs.length=row.length)(h2:2<=cs.length):bu row 0 cs=some cs:=by
 simp only[bu,aF,aa,Wt,jj,bj,bp];rw[VC (by omega)]
 split
 ·simp at h2
 ·simp[h]
def zJ(o:AObj)(ep off len sz:Nat):Option (List (List AV)) :=
 match o with
 |.cells sz' rows ep' _ _=>aB (Nat.beq ep ep'&&Nat.beq sz sz'&&Nat.ble (off+len) (bC rows)) (some (iJ len (iz off rows))) none
 |_=>none
theorem yX(h:H)(sz:Nat):ak h sz .nils=some []:=rfl
theorem rF(h:H)(sz t:Nat)(rows:List (List AV)):ak h sz (.tsl t sz rows)=some rows:=by simp only[ak,show Nat.beq sz sz=true from Wm sz,Yl]
theorem eI(h:H)(sz id ep off len:Nat)(lim:Option Nat):ak h sz (.hsl id ep off len lim)=zJ (h.get id) ep off len sz:=rfl
theorem cN(sz:Nat)(rows:List (List AV))(ep:Nat)(lo fz:Bool)(off len:Nat) :
  zJ (.cells sz rows ep lo fz) ep off len sz=if off+len<=rows.length then some ((rows.drop off).take len) else none:=by
 simp only[zJ,show Nat.beq sz sz=true from Wm sz,show Nat.beq ep ep=true from Wm ep,WA,aa,Wt,aF,bj,bp]
theorem yN(sz:Nat)(rows:List (List AV))(ep:Nat)(lo fz:Bool):zJ (.cells sz rows ep lo fz) ep 0 rows.length sz=some rows:=by rw[cN,VC (by omega)];simp
def be(o:AObj)(ep i:Nat)(ag:Bool)(n off:Nat):OR :=
 match o with
 |.cells _ rows ep' _ _=>aB (Nat.beq ep ep') (match rows[i]? with|some row=>orV (bP ag n row off)|none=>.fail) .fail
 |_=>.fail
theorem A9(g:G)(id ep i off n:Nat)(ag:Bool):sB ag n (.hptr id ep i off) g=be (g.h.get id) ep i ag n off:=by
 simp only[sB,nj,G.get_eq,be,ge]
 rfl
theorem nf(sz:Nat)(rows:List (List AV))(ep:Nat)(lo fz:Bool)(i n off:Nat)(ag:Bool) :
  be (.cells sz rows ep lo fz) ep i ag n off=match rows[i]? with|some row=>orV (bP ag n row off)|none=>.fail:=by
 simp only[be,show Nat.beq ep ep=true from Wm ep]
def ch(o:AObj)(g:G)(id ep i n off:Nat)(x:AV):OR :=
 match o with
 | .cells sz rows ep' lo fz=>aB (Nat.beq ep ep'&&Nat.beq x.cells.length n&&np fz&&np x.isTup) (match rows[i]? with
   | some row=>match bu row off x.cells with
    |some row'=>.upd .undef (g.put id (.cells sz (rows.set i row') ep lo fz))
    |none=>.fail
   |none=>.fail) .fail
 |_=>.fail
theorem y6(g:G)(id ep i off n:Nat)(x:AV):jV n (.hptr id ep i off) x g=ch (g.h.get id) g id ep i n off x:=by
 simp only[jV,po,G.get_eq,ch,ge,aF,jj]
 rfl
theorem bf(sz:Nat)(rows:List (List AV))(ep:Nat)(lo:Bool)(g:G)(id i n off:Nat)(x:AV)(hl:x.cells.length=n)(ht:x.isTup=false) :
  ch (.cells sz rows ep lo false) g id ep i n off x=match rows[i]? with
   | some row=>match bu row off x.cells with
    |some row'=>.upd .undef (g.put id (.cells sz (rows.set i row') ep lo false))
    |none=>.fail
   |none=>.fail:=by
 simp only[ch,show Nat.beq ep ep=true from Wm ep,hl,show Nat.beq n n=true from Wm n,ht,notb_eq,Yg,Yd]
theorem C_{sz:Nat}{ag:Bool}(h:(ak g.h sz v).isSome=true)(hi:i<((ak g.h sz v).getD []).length) :
  sB ag n (eJ sz v i off) g=orV (bP ag n (((ak g.h sz v).getD [])[i]?.getD []) off):=by
 obtain⟨rows,hr⟩:=Option.isSome_iff_exists.1 h;rw[hr]at hi ⊢;simp only[VB]at hi ⊢;rw[Lc hr (Vt hi),Vt hi,VB]
theorem Gb{sz:Nat}{k:IntKind}{i:Int}(h:(ak g.h sz v).isSome=true)(h0:0<=i)(hi:i<((ak g.h sz v).getD []).length) :
  Eh sz v (.int k i) g=.val (eJ sz v i.toNat 0):=by
 obtain⟨rows,hr⟩:=Option.isSome_iff_exists.1 h;rw[hr]at hi;exact Np hr h0 hi
theorem JC{sz:Nat}{k:IntKind}(h:(ak g.h sz v).isSome=true)(hi:i<((ak g.h sz v).getD []).length) :
  Eh sz v (.int k (i:Int)) g=.val (eJ sz v i 0):=Gb h (X4 i) (by omega)
def nA:AV->Bool
 |.tsl ..|.hsl ..=>true
 |_=>false
theorem bF{sz:Nat}{fo:Nat}(h:nA v=true):HI fo (eJ sz v i off)=.val (eJ sz v i (off+fo)):=by cases v<;>first|rfl|cases h
theorem xi{sz:Nat}{rows:List (List AV)}(hv:ak h sz v=some rows)(hi:i<rows.length):nA v=true:=by
 unfold ak at hv
 split at hv
 ·injection hv with h;subst h;simp at hi
 ·injection hv with h;subst h;simp at hi
 ·rfl
 ·rfl
 ·cases hv
def ph(h:H)(v:AV):List Int:=((ak h 1 v).getD []).map λr=>match r with|[.int _ x]=>x|_=>0
def A0(h:H)(v:AV):Prop:=ak h 1 v=some ((ph h v).map ci)
theorem Nm(l:List Int):(l.map ci).map (λr=>match r with|[.int _ x]=>x|_=>0)=l:=by
 induction l with
 |nil=>rfl
 |cons a l ih=>simp only[W4,ih,ci]
theorem Jz(hv:ak h 1 v=some (l.map ci)):ph h v=l:=by simp only[ph,hv,VB,Nm]
theorem K5(hv:ak h 1 v=some (l.map ci)):A0 h v:=by unfold A0;rw[Jz hv,hv]
theorem Rm{α:Type}(a:α)(l:List α):(a::l)[0]?=some a:=rfl
theorem Rn{α:Type}(a b:α)(l:List α):(a::b::l)[1]?=some b:=rfl
theorem Ro{α:Type}(a b c:α)(l:List α):(a::b::c::l)[2]?=some c:=rfl
theorem Rq{α:Type}(a b c e:α)(l:List α):(a::b::c::e::l)[3]?=some e:=rfl
theorem Rr{α:Type}(a b c e p:α)(l:List α):(a::b::c::e::p::l)[4]?=some p:=rfl
theorem Rs{α:Type}(a b c e p q:α)(l:List α):(a::b::c::e::p::q::l)[5]?=some q:=rfl
theorem Ru{α:Type}(a b c e p q r:α)(l:List α):(a::b::c::e::p::q::r::l)[6]?=some r:=rfl
theorem Rv{α:Type}(a b c e p q r s:α)(l:List α):(a::b::c::e::p::q::r::s::l)[7]?=some s:=rfl
theorem Rx{α:Type}(a b c e p q r s u:α)(l:List α):(a::b::c::e::p::q::r::s::u::l)[8]?=some u:=rfl
@[reducible] def o (d:Nat) (op:SO):SI:=⟨some d,none,op⟩
@[reducible] def oz (op:SO):SI:=⟨none,none,op⟩
@[reducible] def og (d s:Nat) (w:Bool) (op:SO):SI:=⟨some d,some (s,w),op⟩
@[reducible] def ozg (s:Nat) (w:Bool) (op:SO):SI:=⟨none,some (s,w),op⟩
section steps
variable {C:Cfg}{d:Nat}{rd:Option Nat}
theorem z0(Q:QT)(t:T)(df:List ADf)(g:G):wp C d rd .skip Q t df g=Q .norm t df g:=rfl
theorem E8(l:List SI)(Q:QT)(t:T)(df:List ADf)(g:G):wp C d rd (.ops l) Q t df g=wpO C d rd l (Q .norm) t df g:=rfl
theorem Hk(l:List SI)(Q:QT)(t:T)(df:List ADf)(g:G):wp C d rd (.quiet l) Q t df g=wpO C d rd l (kQ g Q) t df (aN g []):=rfl
theorem Kv(pm:List Nat)(l:List SI)(Q:QT)(t:T)(df:List ADf)(g:G):wp C d rd (.feet pm l) Q t df g=wpF C d rd pm l (Q .norm) t df g []:=rfl
theorem jl(a b:SC)(Q:QT)(t:T)(df:List ADf)(g:G):wp C d rd (.seq a b) Q t df g=wp C d rd a (kS (wp C d rd b Q) Q) t df g:=rfl
theorem E7(c:Od)(a b:SC)(Q:QT)(t:T)(df:List ADf)(g:G):wp C d rd (.cond c a b) Q t df g=wpC (c.get t) (wp C d rd a Q) (wp C d rd b Q) t df g:=rfl
theorem Iz(id:Nat)(b:SC)(Q:QT)(t:T)(df:List ADf)(g:G):wp C d rd (.blk id b) Q t df g=wp C d rd b (kB id Q) t df g:=rfl
theorem Kw(b:SC)(Q:QT)(t:T)(df:List ADf)(g:G):wp C d rd (.loop b) Q t df g=wpL (wp C d rd b) Q t df g:=rfl
theorem Ku(id:Nat)(Q:QT)(t:T)(df:List ADf)(g:G):wp C d rd (.exit id) Q t df g=Q (.exit id) t df g:=rfl
theorem Pg(Q:QT)(t:T)(df:List ADf)(g:G):wp C d rd .ret Q t df g=Q .ret t df g:=rfl
theorem Rj(g0:G)(Q:QT)(t:T)(df:List ADf)(g:G):kQ g0 Q t df g=(g.lg=[]/\g.nx=g0.nx/\Q .norm t df g0):=rfl
theorem Ks(Q:PT)(t:T)(df:List ADf)(g:G):wpO C d rd [] Q t df g=Q t df g:=rfl
theorem RB(n:Nat)(op:SO)(r:List SI)(Q:PT)(t:T)(df:List ADf)(g:G) :
  wpO C d rd (o n op::r) Q t df g=(op.run C d rd t g).sat (kO (wpO C d rd r Q) (some n) t df) g (kD (wpO C d rd r Q) (some n) t df g):=rfl
theorem Pf(op:SO)(r:List SI)(Q:PT)(t:T)(df:List ADf)(g:G) :
  wpO C d rd (oz op::r) Q t df g=(op.run C d rd t g).sat (kO (wpO C d rd r Q) none t df) g (kD (wpO C d rd r Q) none t df g):=rfl
theorem Pd(n s:Nat)(w:Bool)(op:SO)(r:List SI)(Q:PT)(t:T)(df:List ADf)(g:G) :
  wpO C d rd (og n s w op::r) Q t df g=gdP (tat t s) w (GY C d rd (o n op) (wpO C d rd r Q)) (BA (o n op) (wpO C d rd r Q)) t df g:=rfl
theorem Kt(s:Nat)(w:Bool)(op:SO)(r:List SI)(Q:PT)(t:T)(df:List ADf)(g:G) :
  wpO C d rd (ozg s w op::r) Q t df g=gdP (tat t s) w (GY C d rd (oz op) (wpO C d rd r Q)) (BA (oz op) (wpO C d rd r Q)) t df g:=rfl
theorem OG(n:Nat)(op:SO)(W:PT)(t:T)(df:List ADf)(g:G):GY C d rd (o n op) W t df g=(op.run C d rd t g).sat (kO W (some n) t df) g (kD W (some n) t df g):=rfl
theorem J_(op:SO)(W:PT)(t:T)(df:List ADf)(g:G):GY C d rd (oz op) W t df g=(op.run C d rd t g).sat (kO W none t df) g (kD W none t df g):=rfl
theorem Ki(n:Nat)(op:SO)(W:PT)(t:T)(df:List ADf)(g:G):BA (o n op) W t df g=W (eQ t n .undef) df g:=rfl
theorem G5(op:SO)(W:PT)(t:T)(df:List ADf)(g:G):BA (oz op) W t df g=W t df g:=rfl
theorem JJ(W:PT)(n:Nat)(t:T)(df:List ADf)(v:AV)(g:G):kO W (some n) t df v g=W (eQ t n v) df g:=rfl
theorem JI(W:PT)(t:T)(df:List ADf)(v:AV)(g:G):kO W none t df v g=W t df g:=rfl
theorem Rg(q:Bool)(A B:PT)(t:T)(df:List ADf)(g:G):gdP (.bool q) true A B t df g=xC q A B t df g:=rfl
theorem Re(q:Bool)(A B:PT)(t:T)(df:List ADf)(g:G):gdP (.bool q) false A B t df g=xC q B A t df g:=rfl
theorem C1(w:Bool)(A B:PT)(t:T)(df:List ADf)(g:G):gdP (.tup []) w A B t df g=B t df g:=rfl
theorem xD(A B:PT)(t:T)(df:List ADf)(g:G):xC true A B t df g=A t df g:=by simp[xC]
theorem Ad(A B:PT)(t:T)(df:List ADf)(g:G):xC false A B t df g=B t df g:=by simp[xC]
theorem BJ(q:Bool)(A B:PT)(t:T)(df:List ADf)(g:G):wpC (.bool q) A B t df g=xC q A B t df g:=rfl
theorem t9(W:PT)(Q:QT)(t:T)(df:List ADf)(g:G):kS W Q .norm t df g=W t df g:=rfl
theorem JK(W:PT)(Q:QT)(id:Nat)(t:T)(df:List ADf)(g:G):kS W Q (.exit id) t df g=Q (.exit id) t df g:=rfl
theorem Nu(W:PT)(Q:QT)(t:T)(df:List ADf)(g:G):kS W Q .ret t df g=Q .ret t df g:=rfl
theorem Ej(id:Nat)(Q:QT)(t:T)(df:List ADf)(g:G):kB id Q .norm t df g=Q .norm t df g:=rfl
theorem Nr(id:Nat)(Q:QT)(t:T)(df:List ADf)(g:G):kB id Q .ret t df g=Q .ret t df g:=rfl
theorem PV(id:Nat)(Q:QT)(t:T)(df:List ADf)(g:G):kB id Q (.exit id) t df g=Q .norm t df g:=by simp[kB]
theorem Nq(id j:Nat)(Q:QT)(t:T)(df:List ADf)(g:G)(h:j≠id):kB id Q (.exit j) t df g=Q (.exit j) t df g:=by simp only[kB];rw[aa,Vz (λe=>h (WT e))]
theorem rh(id j:Nat)(Q:QT)(t:T)(df:List ADf)(g:G):kB id Q (.exit j) t df g=if j=id then Q .norm t df g else Q (.exit j) t df g:=by
 by_cases h:j=id
 ·subst h;rw[PV,VC rfl]
 ·rw[Nq _ _ _ _ _ _ h,Vz h]
theorem JG(Inv:Nat->PT)(k:Nat)(Q:QT)(t:T)(df:List ADf)(g:G):kL Inv k Q .norm t df g=∃k',k'<k/\Inv k' t df g:=rfl
theorem JF(Inv:Nat->PT)(k:Nat)(Q:QT)(id:Nat)(t:T)(df:List ADf)(g:G):kL Inv k Q (.exit id) t df g=Q (.exit id) t df g:=rfl
theorem Ns(Inv:Nat->PT)(k:Nat)(Q:QT)(t:T)(df:List ADf)(g:G):kL Inv k Q .ret t df g=Q .ret t df g:=rfl
theorem aX{q:Bool}{A B:PT}(h1:q=true->A t df g)(h2:q=false->B t df g):xC q A B t df g:=⟨h1,h2⟩
theorem FQ(r:List SR)(K:AV->G->Prop)(t:T)(df:List ADf)(g:G):fnQ C d r K .norm t df g=DU C d r t df g K:=rfl
theorem Jq(r:List SR)(K:AV->G->Prop)(t:T)(df:List ADf)(g:G):fnQ C d r K .ret t df g=DU C d r t df g K:=rfl
theorem FF(r:List SR)(K:AV->G->Prop)(t:T)(g:G):DU C d r t [] g K=zB r t g λvs=>K (kM vs) g:=rfl
theorem GS(t:T)(g:G)(K:List AV->Prop):zB [] t g K=K []:=rfl
theorem J4(n:Nat)(r:List SR)(t:T)(g:G)(K:List AV->Prop):zB (.tm n::r) t g K=zB r t g λvs=>K (tat t n::vs):=rfl
theorem wY(v:AV):kM [v]=v:=rfl
theorem it{W:QT->PT}{Q:QT}(Inv:Nat->PT)(k:Nat)(h0:Inv k t df g)(h:∀k t df g,Inv k t df g->W (kL Inv k Q) t df g):wpL W Q t df g:=⟨Inv,⟨k,h0⟩,h⟩
end steps
theorem sx:type_of% (Vr @Ks <|Vr @RB <|Vr @Pf <|Vr @Pd <|Vr @Kt <|Vr @OG <|Vr @J_ <|Vr @Ki <|Vr @G5 <|
 Vr @JJ <|Vr @JI <|Vr @Rg <|Vr @Re <|Vr @C1 <|Vr @xD <|Vr @Ad <|Vr @BJ <|Vr @t9 <|Vr @JK <|Vr @Nu <|
 Vr @Ej <|Vr @Nr <|Vr @rh <|Vr @JG <|Vr @JF <|Vr @Ns <|Vr @FQ <|Vr @Jq <|Vr @FF <|Vr @GS <|Vr @J4 <|
 Vr @wY <|Vr @kP <|Vr @Gu <|Vr @Gv <|Vr @Gw <|Vr @Gx <|Vr @z0 <|Vr @E8 <|Vr @Hk <|Vr @Kv <|Vr @jl <|Vr @E7 <|Vr @Iz <|Vr @Kw <|Vr @Ku <|Vr @Pg <|Vr @Bj <|Vr @Ko <|Vr @Ng <|Vr @Rh <|Vr @FY <|Vr @C2 <|Vr @Kc <|Vr @Kb <|Vr @GA <|
 Vr @IG <|Vr @IQ <|Vr @IN <|Vr @II <|Vr @IP <|Vr @IM <|Vr @IK <|Vr @IL <|Vr @IJ <|Vr @Gs <|Vr @Fv <|Vr @Oc <|Vr @Ob <|
 Vr @NS <|Vr @NP <|Vr @FO <|Vr @A9 <|Vr @nf <|Vr @y6 <|Vr @GG <|Vr @C_ <|Vr @bF <|Vr @JC <|
 Vr @Rm <|Vr @Rn <|Vr @Ro <|Vr @Rq <|Vr @Rr <|Vr @Rs <|Vr @Ru <|Vr @Rv <|Vr @Rx <|Vr @G.put_h <|Vr @G.put_nx <|Vr @G.new_h <|Vr @G.new_nx <|Vr @aJ <|Vr @FE <|@Jk) :=
 Vr @Ks <|Vr @RB <|Vr @Pf <|Vr @Pd <|Vr @Kt <|Vr @OG <|Vr @J_ <|Vr @Ki <|Vr @G5 <|
 Vr @JJ <|Vr @JI <|Vr @Rg <|Vr @Re <|Vr @C1 <|Vr @xD <|Vr @Ad <|Vr @BJ <|Vr @t9 <|Vr @JK <|Vr @Nu <|
 Vr @Ej <|Vr @Nr <|Vr @rh <|Vr @JG <|Vr @JF <|Vr @Ns <|Vr @FQ <|Vr @Jq <|Vr @FF <|Vr @GS <|Vr @J4 <|
 Vr @wY <|Vr @kP <|Vr @Gu <|Vr @Gv <|Vr @Gw <|Vr @Gx <|Vr @z0 <|Vr @E8 <|Vr @Hk <|Vr @Kv <|Vr @jl <|Vr @E7 <|Vr @Iz <|Vr @Kw <|Vr @Ku <|Vr @Pg <|Vr @Bj <|Vr @Ko <|Vr @Ng <|Vr @Rh <|Vr @FY <|Vr @C2 <|Vr @Kc <|Vr @Kb <|Vr @GA <|
 Vr @IG <|Vr @IQ <|Vr @IN <|Vr @II <|Vr @IP <|Vr @IM <|Vr @IK <|Vr @IL <|Vr @IJ <|Vr @Gs <|Vr @Fv <|Vr @Oc <|Vr @Ob <|
 Vr @NS <|Vr @NP <|Vr @FO <|Vr @A9 <|Vr @nf <|Vr @y6 <|Vr @GG <|Vr @C_ <|Vr @bF <|Vr @JC <|
 Vr @Rm <|Vr @Rn <|Vr @Ro <|Vr @Rq <|Vr @Rr <|Vr @Rs <|Vr @Ru <|Vr @Rv <|Vr @Rx <|Vr @G.put_h <|Vr @G.put_nx <|Vr @G.new_h <|Vr @G.new_nx <|Vr @aJ <|Vr @FE <|@Jk
def St(t:T):List (Nat×AV)->Prop
 |[]=>True
 | (n,v)::r=>tat t n=v/\St t r
abbrev VS:=(Nat->Prop)->Nat->H->AV->Prop
def One{α:Type} [Rp α](x:α):VS:=λP k h v=>Rp.rp P k h x [v]
def Agg{α:Type} [Rp α](x:α):VS:=λP k h v=>∃cs,v=.agg cs/\Rp.rp P k h x cs
def Hn(S R:VS):VS:=λP k h v=>∃a b,v=.tup [a,b]/\S P k h a/\R P k h b
def SM(S R U:VS):VS:=λP k h v=>∃a b c,v=.tup [a,b,c]/\S P k h a/\R P k h b/\U P k h c
structure Snb (S:VS) (j:Nat):Prop where
 snap:∀{P k h v n} (d:Nat),S P k h v->20+j<=n->∃v',Hx.snap h d n v=some v'/\S NoP (max k d) .nil v'
 tag:∀{k h v n},S NoP k h v->20+j<=n->∃m,hY n v=some m/\m<=k
theorem aY{α:Type} [Rp α](x:α)(hd:Rp.dp α<=20:=by decide):Snb (One x) 0:=by
 refine⟨λ{P k h v n} d r hn=>?_,λ{k h v n} r hn=>?_⟩
 ·obtain⟨cs',e,r'⟩:=Rp.snap (n:=n) d r (by omega) (by show _<=24;omega);simp only[aG]at e
  split at e
  ·rename_i w hw;injection e with e;subst e;exact⟨w,hw,r'⟩
  ·cases e
 ·obtain⟨m,e,l⟩:=Rp.tag (n:=n) r (by omega);simp only[jm]at e
  split at e
  ·rename_i w hw;injection e with e;subst e;exact⟨w,hw,by have:Nat.max w 0=w:=Nat.max_eq_left (Wp w);omega⟩
  ·cases e
theorem bW{α:Type} [Rp α](x:α)(hd:Rp.dp α<=20:=by decide):Snb (Agg x) 1:=by
 refine⟨λ{P k h v n} d r hn=>?_,λ{k h v n} r hn=>?_⟩
 ·obtain⟨cs,rfl,r⟩:=r;obtain⟨n,rfl⟩:∃m,n=m+1:=⟨n - 1,by omega⟩;obtain⟨cs',e,r'⟩:=Rp.snap (n:=n) d r (by omega) (by show _<=24;omega);exact⟨.agg cs',by simp only[Hx.snap,e],cs',rfl,r'⟩
 ·obtain⟨cs,rfl,r⟩:=r;obtain⟨n,rfl⟩:∃m,n=m+1:=⟨n - 1,by omega⟩;obtain⟨m,e,l⟩:=Rp.tag (n:=n) r (by omega);exact⟨m,by simp only[hY,e],l⟩
theorem qA{S R:VS}(hs:Snb S i)(hr:Snb R j)(hi:i+1<=m)(hj:j+1<=m):Snb (Hn S R) m:=by
 refine⟨λ{P k h v n} d r hn=>?_,λ{k h v n} r hn=>?_⟩
 ·obtain⟨a,b,rfl,c,f⟩:=r;obtain⟨n,rfl⟩:∃m,n=m+1:=⟨n - 1,by omega⟩;obtain⟨a',e1,e⟩:=hs.snap (n:=n) d c (by omega);obtain⟨b',e2,l⟩:=hr.snap (n:=n) d f (by omega);exact⟨.tup [a',b'],by simp only[Hx.snap,aG,e1,e2],a',b',rfl,e,l⟩
 ·obtain⟨a,b,rfl,c,f⟩:=r;obtain⟨n,rfl⟩:∃m,n=m+1:=⟨n - 1,by omega⟩;obtain⟨o,e1,l1⟩:=hs.tag (n:=n) c (by omega);obtain⟨p,e2,l2⟩:=hr.tag (n:=n) f (by omega);refine⟨max o p,?_,by omega⟩;simp only[hY,jm,e1,e2];congr 1;show max o (max p 0)=_;omega
theorem G_{S R U:VS}{l:Nat}(hs:Snb S i)(hr:Snb R j)(hu:Snb U l)(hi:i+1<=m)(hj:j+1<=m)(hl:l+1<=m):Snb (SM S R U) m:=by
 refine⟨λ{P k h v n} d r hn=>?_,λ{k h v n} r hn=>?_⟩
 ·obtain⟨a,b,c,rfl,f,p,s⟩:=r;obtain⟨n,rfl⟩:∃m,n=m+1:=⟨n - 1,by omega⟩;obtain⟨a',e1,o⟩:=hs.snap (n:=n) d f (by omega);obtain⟨b',e2,q⟩:=hr.snap (n:=n) d p (by omega);obtain⟨c',e,t⟩:=hu.snap (n:=n) d s (by omega);exact⟨.tup [a',b',c'],by simp only[Hx.snap,aG,e1,e2,e],a',b',c',rfl,o,q,t⟩
 ·obtain⟨a,b,c,rfl,f,p,s⟩:=r;obtain⟨n,rfl⟩:∃m,n=m+1:=⟨n - 1,by omega⟩;obtain⟨u,e1,l1⟩:=hs.tag (n:=n) f (by omega);obtain⟨w,e2,l2⟩:=hr.tag (n:=n) p (by omega);obtain⟨x,e,l3⟩:=hu.tag (n:=n) s (by omega);refine⟨max u (max w x),?_,by omega⟩;simp only[hY,jm,e1,e2,e];congr 1;show max u (max w (max x 0))=_;omega
def Arg(S:VS)(k d:Nat)(h:H)(v v':AV):Prop:=Hx.snap h d aE v=some v'/\S NoP k .nil v'
theorem jC{S:VS}(hs:Snb S j)(hj:j<=4)(d:Nat)(r:S P k h v):∃v',Arg S (max k d) d h v v':=by obtain⟨v',e,r'⟩:=hs.snap (n:=aE) d r (by show _<=24;omega);exact⟨v',e,r'⟩
theorem mj{α:Type} [Rp α]{x:α}(d:Nat)(r:Agg x NoP k h v)(hd:Rp.dp α<=20:=by decide):Hx.snap h d aE v=some v:=by obtain⟨cs,rfl,r⟩:=r;show (match aG (Hx.snap h d 23) cs with|some as=>some (AV.agg as)|none=>none)=_;rw[Rp.same (n:=23) d r (by omega)]
theorem l9{α:Type} [Rp α]{l:List α}(d:Nat)(r:SlR NoP k h l v):Hx.snap h d aE v=some v:=by
 have r:=r.2;unfold SlV at r
 split at r<;>first|rfl|exact r.1.elim|exact r.elim
theorem bS(k d:Nat)(h:H)(q:IntKind)(x:Int):Hx.snap h d aE (.int q x)=some (.int q x):=rfl
theorem L0(k d:Nat)(h:H)(x:Bool):Hx.snap h d aE (.bool x)=some (.bool x):=rfl
theorem L1(hv:A0 h v)(hl:(ph h v).length<9223372036854775808)(d:Nat) :
  ∃v',Hx.snap h d aE v=some v'/\(∀h',ak h' 1 v'=some ((ph h v).map ci))/\∀g,dH .slice v' g=.val (.int .i64 ((ph h v).length:Int)):=by
 suffices hs:∃v',Hx.snap h d aE v=some v'/\(∀h',ak h' 1 v'=some ((ph h v).map ci)) by obtain⟨v',e,hr⟩:=hs;exact⟨v',e,hr,λg=>by rw[dl (hr .nil),VF]⟩
 obtain⟨k,r⟩:∃k,SlV (λ_=>True) k h (ph h v) v:=by
  have e:=hv;unfold A0 at e;have all:∀P k h',All2 (Rp.rp P k h') (ph h v) ((ph h v).map ci):=λP k h'=>Tx (λa=>aW.2 rfl) _;cases v with
  |nils=>exact⟨0,by simp only[ak]at e;injection e with e;exact (List.map_eq_nil_iff.1 e.symm)⟩
  |esl=>exact⟨0,by simp only[ak]at e;injection e with e;exact (List.map_eq_nil_iff.1 e.symm)⟩
  | tsl t s rows =>
   refine⟨t,Vu t,?_,?_⟩
   ·simp only[ak,aa]at e
    split at e
    ·rename_i hc;rw[Wh]at hc;rcases hc with hc|hc
     ·exact .inl (WT hc).symm
     ·exact .inr (List.isEmpty_iff.1 hc)
    ·cases e
   ·simp only[ak,aa]at e
    split at e
    ·injection e with e;exact cast (congrArg _ e.symm) (all NoP t .nil)
    ·cases e
  |hsl id ep off len lim=>exact⟨0,trivial,_,e,all _ _ _⟩
  |_=>simp[ak]at e
 obtain⟨v',e,r'⟩:=(aY (ph h v)).snap (n:=aE) d (show One (ph h v) _ k h v from ⟨v,rfl,hl,r⟩) (by decide);refine⟨v',e,λh'=>?_⟩;obtain⟨w,hw,r'⟩:=r';injection hw with hw;subst hw;have:SlR (λ_=>True) (max k d) h' (ph h v) v':=by have:=(Rp.mono (P':=λ_=>True) (k':=max k d) (h':=h') (show Rp.rp NoP (max k d) .nil (ph h v) [v'] from ⟨v',rfl,r'⟩) (λi hi=>hi.elim) (Vu _));obtain⟨w,hw,q⟩:=this;injection hw with hw;subst hw;exact q
 exact this.ints
abbrev IT (k:Nat)(l:List Int)(r:AV):Prop:=One l NoP k .nil r
theorem IT.sl{r:AV}(h:IT k l r)(h':H):SlR NoP k h' l r:=by obtain⟨w,hw,q⟩:=Rp.tree (P:=NoP) (k':=k) (h':=h') h (Vu _);injection hw with hw;subst hw;exact q
theorem IT.rows{r:AV}(h:IT k l r)(h':H):ak h' 1 r=some (l.map ci):=(h.sl h').ints
theorem IT.len{r:AV}(h:IT k l r)(g:G):dH .slice r g=.val (.int .i64 (l.length:Int)):=by rw[dl (h.rows .nil),VF]
theorem SlR.cell{α:Type} [Rp α]{l:List α}(r:SlR P k h l v):v.cells=[v]/\v.isTup=false:=by
 have r:=r.2;unfold SlV at r
 split at r<;>first|exact⟨rfl,rfl⟩|exact r.elim
section iso
variable {C:Cfg}{f d:Nat}{s:SF}{g:G}{args xs:List AV}
theorem a_(hf:nFn C f=some s)(hs:aG (snap g.h d aE) args=some xs)(hl:xs.length<=s.nt){R:VS}(hR:Snb R j)(hj:j<=4){k':Nat}(hk:k'<d)
  (h:wp C (d+1) none s.code (fnQ C (d+1) s.res λv g'=>∃P,R P k' g'.h v) (cD 0 xs .nil) [] G.empty):∃r,an (I C) d g f args=.val r/\R NoP k' .nil r:=by
 have h:=tZ hf hl h;unfold an;rw[hs];dsimp only;cases hc:(I C).call (Nat.succ d) f xs G.empty with
 |fail=>rw[show (I C).call (d+1) f xs G.empty=.fail from hc]at h;exact h.elim
 | ok v g' =>
  rw[show (I C).call (d+1) f xs G.empty=.ok v g' from hc]at h;obtain⟨P,h⟩:=h;obtain⟨r,e,hr⟩:=hR.snap (n:=aE) 0 h (by show _<=24;omega);rw[Nat.max_eq_left (Wp k')]at hr;obtain⟨m,em,lm⟩:=hR.tag (n:=aE) hr (by show _<=24;omega);refine⟨r,?_,hr⟩;simp only[e,em,aa,WN];rw[VC (by omega)]
theorem fX(hf:nFn C f=some s)(hl:xs.length<=s.nt){K:AV->G->Prop}{D:ADf->Prop}(h:wp C d none s.code (fnQ C d s.res K) (cD 0 xs .nil) [] g):(orF ((I C).call d f xs g)).sat K g D:=by
 have h:=tZ hf hl h;cases hc:(I C).call d f xs g with
 |fail=>rw[hc]at h;exact h.elim
 |ok v g'=>rw[hc]at h;exact h
theorem eE(hf:nFn C f=some s)(hs:aG (snap g.h d aE) args=some xs)(hl:xs.length<=s.nt){q:IntKind}(hk:0<d)
  (h:wp C (d+1) none s.code (fnQ C (d+1) s.res λv _=>v=.int q x) (cD 0 xs .nil) [] G.empty):an (I C) d g f args=.val (.int q x):=by
 have h:=tZ hf hl h;unfold an;rw[hs];dsimp only;cases hc:(I C).call (Nat.succ d) f xs G.empty with
 |fail=>rw[show (I C).call (d+1) f xs G.empty=.fail from hc]at h;exact h.elim
 | ok v g' =>
  rw[show (I C).call (d+1) f xs G.empty=.ok v g' from hc]at h;have h:v=.int q x:=h;subst h;show (match hY aE (.int q x) with|none=>OR.fail|some m=>aB (Nat.blt m d) (.val (.int q x)) _)=_;rw[show hY aE (.int q x)=some 0 from rfl];simp only[aa,WN];rw[VC hk]
theorem gZ(hf:nFn C f=some s)(hs:aG (snap g.h d aE) args=some xs)(hl:xs.length<=s.nt){x:Bool}(hk:0<d)
  (h:wp C (d+1) none s.code (fnQ C (d+1) s.res λv _=>v=.bool x) (cD 0 xs .nil) [] G.empty):an (I C) d g f args=.val (.bool x):=by
 have h:=tZ hf hl h;unfold an;rw[hs];dsimp only;cases hc:(I C).call (Nat.succ d) f xs G.empty with
 |fail=>rw[show (I C).call (d+1) f xs G.empty=.fail from hc]at h;exact h.elim
 | ok v g' =>
  rw[show (I C).call (d+1) f xs G.empty=.ok v g' from hc]at h;have h:v=.bool x:=h;subst h;show (match hY aE (.bool x) with|none=>OR.fail|some m=>aB (Nat.blt m d) (.val (.bool x)) _)=_;rw[show hY aE (.bool x)=some 0 from rfl];simp only[aa,WN];rw[VC hk]
end iso
section
variable {C:Cfg}{A:Nat->Nat->Prop}{bd:Nat}{w w':World}{γ γ':Gm}{hg:Nat->AObj}{nx:Nat}
variable {op:Op}{t:T}{g:G}{f:Stg SFn}
theorem GX{sz id:Nat}{x:AV}(hid:id∈aw x)(hn:h.get id=.none):ak h sz x=none:=by
 cases x<;>simp[aw]at hid
 ·subst hid;simp[ak,hn]
 ·rfl
 ·rfl
theorem Lz{sz id:Nat}{x:AV}{bytes:Nat}{new:List (List AV)}(hid:id∈aw x)(hn:g.h.get id=.none):bk sz bytes x new g=.fail:=by
 cases x<;>simp[aw]at hid
 ·subst hid;simp[bk,hn]
 ·rfl
 ·rfl
theorem Ha(h:cq C op=some f){id:Nat}(hid:id∈bh C op t g)(hn:g.h.get id=.none):f.run t g=.fail:=by
 have one:∀{x:AV},id∈aw x->(∃a b c d,x=.hptr a b c d/\g.h.get a=.none)\/(∃a b c d e,x=.hsl a b c d e/\g.h.get a=.none)\/(∃a,x=.hmap a/\g.h.get a=.none):=by
  intro x hx;cases x<;>simp[aw]at hx
  ·subst hx;exact .inr (.inl ⟨_,_,_,_,_,rfl,hn⟩)
  ·subst hx;exact .inl ⟨_,_,_,_,rfl,hn⟩
  ·subst hx;exact .inr (.inr ⟨_,rfl,hn⟩)
 cases op<;>simp only[cq]at h<;>first| (cases h;done)|skip
 case call c =>
  obtain⟨callee,args,argTypes⟩:=c;cases callee<;>first| (cases h;done)|skip
  rename_i b;dsimp only at h;obtain⟨vs,j⟩:=uD h;have hid:id∈(vs.run t).flatMap (lP C b argTypes):=by simpa only[bh,aO,j,ah,Xe,VV] using hid
  generalize args.toList=l at h j;unfold dt at h
  split at h
  ·
   split at h
   ·rename_i tt s h0 hs;injection h with h;subst h;simp only[bY,hs,Wj]at j;subst j;simp only[Ww,WQ,VV,lP,h0]at hid;dsimp only;generalize s.run t=x at *;generalize l6 C.P tt=k at *;cases k<;>simp at hid;cases x<;>simp[xf]at hid;subst hid;simp[dH,hn]
   ·cases h
  ·
   split at h
   ·rename_i tt xt sa sx h0 h1 ha hx;simp only[bY,ha,hx,Wj]at j;subst j;simp only[Ww,WQ,VV,lP,V7]at hid
    repeat' (first|split at h| (rw[aa]at h;split at h))
    all_goals first| (cases h;done)|skip
    all_goals (injection h with h;subst h)
    ·dsimp only[cW]
     split
     ·rfl
     ·rename_i new o;rcases hid with hid|hid
      ·exact Lz hid hn
      ·rw[GX hid hn]at o;cases o
    ·rfl
   ·cases h
  ·
   split at h
   ·rename_i tt sa sx h0 ha hx;simp only[bY,ha,hx,Wj]at j;subst j;simp only[Ww,WQ,VV,lP,V7]at hid
    repeat' (first|split at h)
    all_goals first| (cases h;done)|skip
    all_goals (injection h with h;subst h)
    rfl
   ·cases h
  ·
   split at h
   ·rename_i tt s h0 hs;simp only[bY,hs,Wj]at j;subst j;simp only[Ww,WQ,VV,lP]at hid
    repeat' (first|split at h)
    all_goals first| (cases h;done)|skip
    all_goals (injection h with h;subst h)
    rfl
   ·cases h
  ·
   split at h
   ·rename_i tt s h0 hs;simp only[bY,hs,Wj]at j;subst j;simp only[Ww,WQ,VV,lP]at hid
    repeat' (first|split at h| (rw[aa]at h;split at h))
    all_goals first| (cases h;done)|skip
    all_goals (injection h with h;subst h)
    rfl
   ·cases h
  ·
   split at h
   ·rename_i sa sx ha hx;injection h with h;subst h;simp only[bY,ha,hx,Wj]at j;subst j;simp only[Ww,WQ,VV,lP,V7]at hid;dsimp only;rcases hid with hid|hid
    ·rcases one hid with⟨a,b,c,d,e,h1⟩|⟨a,b,c,d,e',e,h1⟩|⟨a,e,h1⟩<;>rw[e]
    ·split
     ·rcases one hid with⟨a,b,c,d,e,h1⟩|⟨a,b,c,d,e',e,h1⟩|⟨a,e,h1⟩<;>rw[e]
     ·rfl
   ·cases h
  ·
   split at h
   ·rename_i sa sx ha hx;injection h with h;subst h;simp only[bY,ha,hx,Wj]at j;subst j;simp only[Ww,WQ,VV,lP,V7]at hid;dsimp only;rcases hid with hid|hid
    ·rcases one hid with⟨a,b,c,d,e,h1⟩|⟨a,b,c,d,e',e,h1⟩|⟨a,e,h1⟩<;>rw[e]
    ·split
     ·rcases one hid with⟨a,b,c,d,e,h1⟩|⟨a,b,c,d,e',e,h1⟩|⟨a,e,h1⟩<;>rw[e]
     ·rfl
   ·cases h
  ·cases h
 case load ty a =>
  split at h
  ·rename_i s ag n hs r p;injection h with h;subst h;simp only[bh,aO,hs,ah,Xe,VV]at hid;dsimp only[nj];rcases one hid with⟨a,b,c,d,e,h1⟩|⟨a,b,c,d,e',e,h1⟩|⟨a,e,h1⟩<;>rw[e]<;>simp[h1]
  ·cases h
 case store ty a x =>
  split at h
  ·rename_i s u n hs hu p;injection h with h;subst h;simp only[bh,aO,hs,ah,Xe,VV]at hid;dsimp only[po];rcases one hid with⟨a,b,c,d,e,h1⟩|⟨a,b,c,d,e',e,h1⟩|⟨a,e,h1⟩<;>rw[e]<;>simp[h1]
  ·cases h
 case indexAddr ty x ix =>
  split at h
  ·rename_i s i hs hi
   split at h
   ·rename_i e hu
    split at h
    ·injection h with h;subst h;simp only[bh,aO,hs,hu,ah,Xe,VV]at hid;dsimp only[gY];rcases one hid with⟨a,b,c,d,e,h1⟩|⟨a,b,c,d,e',e,h1⟩|⟨a,e,h1⟩<;>rw[e];dsimp only
     split
     ·simp[h1]
     ·rfl
    ·cases h
   ·rename_i n e hu;simp[bh,aO,hs,hu,ay]at hid
   ·cases h
  ·cases h
 case lookup ty x k ok =>
  split at h
  ·rename_i sm kk kt et hm hk hu
   split at h
   ·injection h with h;subst h;have hid:id∈aw (sm.run t):=by cases ok<;>simpa [bh,aO,hm,ah] using hid
    dsimp only[dL];rw[aa]
    split
    ·rcases one hid with⟨a,b,c,d,e,h1⟩|⟨a,b,c,d,e',e,h1⟩|⟨a,e,h1⟩<;>rw[e]<;>simp[h1]
    ·rfl
   ·cases h
  ·cases h
 case mapUpdate ty m k x =>
  split at h
  ·rename_i sm sk sx kt et hm hk hx hu;injection h with h;subst h;simp only[bh,aO,hm,ah,Xe,VV]at hid;dsimp only[cT];rw[aa]
   split
   ·rcases one hid with⟨a,b,c,d,e,h1⟩|⟨a,b,c,d,e',e,h1⟩|⟨a,e,h1⟩<;>rw[e]<;>simp[h1]
   ·rfl
  ·cases h
 case insert ty m k x =>
  split at h
  ·rename_i sm sk sx kt et hm hk hx hu;injection h with h;subst h;simp only[bh,aO,hm,ah,Xe,VV]at hid;dsimp only[cT];rw[aa]
   split
   ·rcases one hid with⟨a,b,c,d,e,h1⟩|⟨a,b,c,d,e',e,h1⟩|⟨a,e,h1⟩<;>rw[e]<;>simp[h1]
   ·rfl
  ·cases h
 case mapEntry ty m k =>
  split at h
  ·rename_i sm sk kt et hm hk hu
   split at h
   ·injection h with h;subst h;simp only[bh,aO,hm,Xe,VV]at hid
    rfl
   ·cases h
  ·cases h
 case entryStore ty m st x =>
  split at h
  ·rename_i sm ss sx hm hs hx;injection h with h;subst h;simp only[bh,aO,hm,ah,Xe,VV]at hid
   rfl
  ·cases h
 case slice ty x lo hi mx =>
  have key:∀{sz:Nat} {y:AV} {l h' m:Option AV},id∈aw y->nD sz y l h' m g.h=none:=by intro sz y l h' m v;rcases one v with⟨a,b,c,d,e,h1⟩|⟨a,b,c,d,e',e,h1⟩|⟨a,e,h1⟩<;>rw[e]<;>simp[nD,h1]
  cases mx with
  | none =>
   dsimp only at h
   split at h
   ·rename_i e sx sl sh hu hx hl q
    split at h
    ·injection h with h;subst h;simp only[bh,aO,hx,ah,Xe,VV]at hid;dsimp only;rw[key hid];rfl
    ·cases h
   ·rename_i n e sx sl sh hu hx hl q
    split at h
    ·injection h with h;subst h;simp only[bh,aO,hx,ah,Xe,VV]at hid
     rfl
    ·cases h
   ·cases h
  | some mx =>
   cases hi with
   |none=>cases h
   | some hi =>
    dsimp only at h
    split at h
    ·rename_i e sx sl sh sm he hx hl q hm
     split at h
     ·injection h with h;subst h;simp only[bh,aO,hx,ah,Xe,VV]at hid;dsimp only;rw[key hid];rfl
     ·cases h
    ·cases h
 all_goals simp[bh,aO,ay]at hid
structure CfgOk (C:Cfg):Prop where
 mixed:C.P.follows .mixedOrders=true
 recov:C.P.follows .rangeFuncRecover=true
 mon:oB C
 noDfr:∀f e,C.ext f=some e->∀d args g y,e d args g≠.dfr y
 ext:∀f e,C.ext f=some e->∀A bd w γ hg nx g as vs,Rel C A bd w γ hg nx->WF g->(∀id∈as.flatMap (aD g.h aE),g.h.get id≠.none->hg id=g.h.get id)->Free γ g (gOf g (e (bd+1) as g)) ->
  RVs w γ A bd as vs->e (bd+1) as g≠.fail->∀cs,
  ∃u w' γ' hg',Fin C A bd w γ hg nx g w' γ' hg' (gOf g (e (bd+1) as g))/\RV w' γ' A bd (vOf (e (bd+1) as g)) u /\
   ((callFunc f vs.toArray).run C.P w=.ok (.value u) w'\/(Enters C.P f/\Outs C.P .normal f vs.toArray cs w u w'))
def DR(w:World)(γ:Gm)(A:Nat->Nat->Prop)(bd:Nat):List ADf->List Deferred->Prop
 |[],[]=>True
 |.mark id::ds,d::es=>((γ id).kind=4/\d={ target:=.collected (γ id).blk,args:=#[] })/\DR w γ A bd ds es
 |.call fv args::ds,d::es=>(∃f ys us,fv=.clo f [] ys/\d.target=.fn (.func f) us/\RVs w γ A bd ys us.toList/\RVs w γ A bd args d.args.toList)/\DR w γ A bd ds es
 |_,_=>False
theorem DR.step{ds:List ADf}:∀{es:List Deferred},DR w γ A bd ds es->Stp w γ w' γ'->DR w' γ' A bd ds es:=by
 induction ds with
 |nil=>intro es h _;cases es<;>simpa [DR] using h
 | cons d ds ih =>
  intro es h s;cases es with
  |nil=>cases d<;>simp[DR]at h
  | cons e es =>
   cases d with
   | mark id =>
    obtain⟨⟨h1,h2⟩,k⟩:=h;have hk:(γ id).kind≠0:=by rw[h1];decide
    exact⟨⟨by rw[s.kind_eq hk,h1],by rw[h2,s.blk_eq hk (by rw[h1];decide)]⟩,ih k s⟩
   | call fv args =>
    obtain⟨⟨f,ys,us,h1,h2,h4,h5⟩,k⟩:=h;exact⟨⟨f,ys,us,h1,h2,h4.step s,h5.step s⟩,ih k s⟩
theorem TR.step{nt:Nat}{tmps:Array Value}(h:TR w γ A bd nt t tmps)(s:Stp w γ w' γ'):TR w' γ' A bd nt t tmps :=
 ⟨h.1,λi=>(h.2 i).step s⟩
def RdOk(γ:Gm)(rd:Option Nat)(b:Frame):Prop :=
 match rd with
 |none=>b.roundOf=none
 |some id=>(γ id).kind=3/\b.roundOf=some (γ id).blk
theorem RdOk.step{b:Frame}(h:RdOk γ rd b)(s:Stp w γ w' γ'):RdOk γ' rd b:=by
 cases rd with
 |none=>exact h
 | some id =>
  obtain⟨h1,h2⟩:=h;have hk:(γ id).kind≠0:=by rw[h1];decide
  exact⟨by rw[s.kind_eq hk,h1],by rw[h2,s.blk_eq hk (by rw[h1];decide)]⟩
def Arr(P:Program)(m:Machine)(b:Frame)(k:List Item)(cs:List Frame):Ex->Act->World->Prop
 |.norm,a,w=>Steps P m (lone (b.atR a k) cs w)
 |.exit id,a,w=>∃k₁,exitTo id k₁=exitTo id k/\Steps P m (lone (b.atR a (.code (.exit id)::k₁)) cs w)
 |.ret,a,w=>∃k₁,Steps P m (lone (b.atR a (.code .ret::k₁)) cs w)
theorem Arr.of_steps{P:Program}{m m₁:Machine}{b:Frame}{k:List Item}{cs:List Frame}{e:Ex}{a:Act}(h:Steps P m m₁)(h':Arr P m₁ b k cs e a w):Arr P m b k cs e a w:=by
 cases e with
 |norm=>exact Steps.trans h h'
 |exit id=>obtain⟨k₁,h1,h2⟩:=h';exact⟨k₁,h1,Steps.trans h h2⟩
 |ret=>obtain⟨k₁,h2⟩:=h';exact⟨k₁,Steps.trans h h2⟩
def zC(C:Cfg)(bd nt:Nat)(rd:Option Nat)(c:Code)(t:T)(df:List ADf)(g:G)(e:Ex)(t':T)(df':List ADf)(g':G):Prop :=
 ∀A w γ hg nx b a k cs,Rel C A bd w γ hg nx->Ext g.h hg->WF g->Free γ g g'->TR w γ A bd nt t a.tmps->DR w γ A bd df a.defers->RdOk γ rd b->vV b.kind cs ->
  ∃a' w' γ' hg',Fin C A bd w γ hg nx g w' γ' hg' g'/\TR w' γ' A bd nt t' a'.tmps/\DR w' γ' A bd df' a'.defers /\
   Arr C.P (lone (b.atR a (.code c::k)) cs w) b k cs e a' w'
def RE(C:Cfg)(ih:IH):Prop :=
 ∀bd nt rd c t df g e t' df' g',ih.code nt (bd+1) rd c t df g=.ok e t' df' g'->zC C bd nt rd c t df g e t' df' g'
structure IHOk (C:Cfg) (ih:IH):Prop where
 mon:IHMon ih
 call:LT C ih
 code:RE C ih
theorem RVs.append{xs ys:List AV}{vs us:List Value}(h1:RVs w γ A bd xs vs)(h2:RVs w γ A bd ys us):RVs w γ A bd (xs++ys) (vs++us):=by
 refine⟨by simp[h1.1,h2.1],λi x v hx hv=>?_⟩
 by_cases hi:i<xs.length
 ·rw[VO hi]at hx;rw[VO (by rw[<-h1.1];exact hi)]at hv;exact h1.2 i x v hx hv
 ·rw[VW (by omega)]at hx;rw[VW (by rw[<-h1.1];omega),<-h1.1]at hv;exact h2.2 _ x v hx hv
theorem TE{xs:List AV}{vs:Array Value}(hl:xs.length=vs.size)(h:∀(i:Nat) x v,xs[i]?=some x->vs[i]?=some v->RV w γ A bd x v) :
  RVs w γ A bd xs vs.toList:=⟨by simpa using hl,λi x v hx hv=>h i x v hx (by simpa using hv)⟩
section
variable {P:Program}{b:Frame}{a:Act}{ops:Array Oper}{i:Nat}{rest:List Nat}{k:List Item}{cs:List Frame}{o:Oper}
theorem BC{v:Value}(ho:ops[i]?=some o)(hw:Region.wanted o (yielded ops a.tmps)=true)(hd:∀c,o.op≠.defer c)
  (hrun:(execOp a.eval o).run P w=.ok (.value v) w') :
  step P (lone (b.atR a (.inRegion ops (i::rest)::k)) cs w)=.next (lone (b.atR (a.put o.dst v) (.inRegion ops rest::k)) cs w'):=by
 have h:=Frame.finish_atR b a ops i rest k v;rw[ho]at h;simp only[XS]at h;refine step_lone_go ?_;rw[stepGR_op ho hw,Oper.semAt_eq _ _ _ hd,<-h];simp[stepG.apply,hrun]
theorem LI(ho:ops[i]?=some o)(hw:Region.wanted o (yielded ops a.tmps)=true)(hd:∀c,o.op≠.defer c)
  (hrun:(execOp a.eval o).run P w=.ok .skip w') :
  step P (lone (b.atR a (.inRegion ops (i::rest)::k)) cs w)=.next (lone (b.atR (a.put o.dst undef) (.inRegion ops rest::k)) cs w'):=by
 have h:=Frame.finish_atR b a ops i rest k undef;rw[ho]at h;simp only[XS]at h;refine step_lone_go ?_;rw[stepGR_op ho hw,Oper.semAt_eq _ _ _ hd,<-h];simp[stepG.apply,hrun]
theorem vM{v:Value}(ho:ops[i]?=some o)(hw:Region.wanted o (yielded ops a.tmps)=true)(hd:∀c,o.op≠.defer c)
  (hrun:E_ P o a.eval w v w') :
  Steps P (lone (b.atR a (.inRegion ops (i::rest)::k)) cs w) (lone (b.atR (a.put o.dst v) (.inRegion ops rest::k)) cs w'):=by
 rcases hrun with h|⟨h,rfl⟩
 ·exact .one (BC ho hw hd h)
 ·exact .one (LI ho hw hd h)
theorem Ir{f:FuncId}{args:Array Value}(ho:ops[i]?=some o)(hw:Region.wanted o (yielded ops a.tmps)=true)(hd:∀c,o.op≠.defer c)
  (hrun:(execOp a.eval o).run P w=.ok (.enter f args) w') :
  step P (lone (b.atR a (.inRegion ops (i::rest)::k)) cs w)=.next (lone (Frame.enter P f args .normal) (b.atR a (.inRegion ops (i::rest)::k)::cs) w'):=by
 refine step_lone_go ?_;rw[stepGR_op ho hw,Oper.semAt_eq _ _ _ hd];simp[stepG.apply,hrun,Frame.atR]
theorem Is{l:Nat}{f:FuncId}{tmps:Array Value}(ho:ops[i]?=some o)(hw:Region.wanted o (yielded ops a.tmps)=true)(hd:∀c,o.op≠.defer c)
  (hrun:(execOp a.eval o).run P w=.ok (.round l f tmps assign body) w') :
  step P (lone (b.atR a (.inRegion ops (i::rest)::k)) cs w)=.next (lone (Frame.round l f tmps assign body .normal) (b.atR a (.inRegion ops (i::rest)::k)::cs) w'):=by
 refine step_lone_go ?_;rw[stepGR_op ho hw,Oper.semAt_eq _ _ _ hd];simp[stepG.apply,hrun,Frame.atR]
theorem vN{f:FuncId}{args:Array Value}{u:Value}{w₁:World}(ho:ops[i]?=some o)(hw:Region.wanted o (yielded ops a.tmps)=true)(hd:∀c,o.op≠.defer c)
  (hrun:(execOp a.eval o).run P w=.ok (.enter f args) w)
  (hout:Outs P .normal f args (b.atR a (.inRegion ops (i::rest)::k)::cs) w u w₁) :
  Steps P (lone (b.atR a (.inRegion ops (i::rest)::k)) cs w) (lone (b.atR (a.put o.dst u) (.inRegion ops rest::k)) cs w₁):=by
 obtain⟨fr,hs,h1,h2,d,h4,fn,h5,e⟩:=hout;have h:=Frame.finish_atR b a ops i rest k u;rw[ho]at h;simp only[XS]at h;refine .head (Ir ho hw hd hrun) (Steps.trans hs (.one ?_));rw[<-h];exact step_leave_returned ⟨h1,h2,d,fn,by rw[h4];exact h5,e⟩
theorem ES(ho:ops[i]?=some o)(hw:Region.wanted o (yielded ops a.tmps)=true)(hd:∀c,o.op≠.defer c)
  (hrec:P.follows .rangeFuncRecover=true) (hcalm:vV b.kind cs)
  (hrun:(execOp a.eval o).run P w=.ok .recover w) :
  step P (lone (b.atR a (.inRegion ops (i::rest)::k)) cs w)=.next (lone (b.atR (a.put o.dst .nilIface) (.inRegion ops rest::k)) cs w):=by
 have d:=Frame.finish_atR b a ops i rest k .nilIface;rw[ho]at d;simp only[XS]at d;have e:tryRecover (b.atR a (.inRegion ops (i::rest)::k)) cs=none:=by
  unfold tryRecover;rcases hcalm with h|⟨h,c,cs',rfl,hm|⟨_,_,_,hm⟩⟩
  ·simp[Frame.atR,h]
  ·simp[Frame.atR,h,hm]
  ·simp[Frame.atR,h,hm]
 refine step_lone_go ?_;rw[stepGR_op ho hw,Oper.semAt_eq _ _ _ hd,<-d];simp only[stepG.apply,Sem.runT_eq,hrun,hrec,if_true,e];cases hro:(b.atR a (.inRegion ops (i::rest)::k)).roundOf<;>simp[GStep.bare_after]
end
theorem kJ{P:Program}{l:Nat}{L:Loop}(h:w.heap[l]?=some (.loop L)):(Instr.getLoop l).run P w=.ok L w:=by
 unfold Instr.getLoop;simp only[VT,m9 h (by simp),VD]
 rfl
theorem tQ{P:Program}{l:Nat}{L:Loop}{o:Obj}(h:w.heap[l]?=some (.loop L)):(setObj l o).run P w=.ok () (World.setBlk w l o) :=
 rG h (by simp)
theorem Rel.setLoop(hr:Rel C A bd w γ hg nx){id dfr:Nat}{t:T}{ps:List Nat}{st st':LoopState}{pend pend':Option Code}{L:Loop}
  (hid:hg id=.loop nt t ps assign body dfr st pend) (hL:w.heap[(γ id).blk]?=some (.loop L)) :
  Rel C A bd (World.setBlk w (γ id).blk (.loop { L with state:=st',pending:=pend' })) γ (upd hg id (.loop nt t ps assign body dfr st' pend')) nx /\
   Stp w γ (World.setBlk w (γ id).blk (.loop { L with state:=st',pending:=pend' })) γ:=by
 have k:=hr.obj id;rw[hid]at k;obtain⟨h1,h2,L',h,h4,h5,d,h7,h8,h9,a,b,c⟩:=k;rw[hL]at h;injection h with h;injection h with h;subst h;have hk:(γ id).kind≠0:=by rw[h1];decide
 have s:=um (w:=w) (o:=.loop { L with state:=st',pending:=pend' }) hk h2;refine hr.setBlk hk h2 ⟨h1,h2,{ L with state:=st',pending:=pend' },?_,rfl,rfl,d,h7,h8,h9,λi=>(a i).step s,b,c⟩;rw[dz];simp[(hr.lt id hk).2]
theorem Tz{g:G}{id:Nat}{o:AObj}(hr:Rel C A bd w' γ' (upd hg id o) nx)(s:Stp w γ w' γ') :
  Fin C A bd w γ hg nx g w' γ' (upd hg id o) (g.put id o):=by
 refine⟨hr.up (Xf _ _),s,⟨[id],by simp,λj hj=>?_,λj hj=>?_⟩⟩
 ·simp at hj;subst hj;simp[TA]
 ·exact cV _ _ (by simpa using hj)
theorem Ty{g:G}{o:AObj}(hr:Rel C A bd w' γ' (upd hg g.nx o) (Nat.max nx (g.nx+1)))(s:Stp w γ w' γ') :
  Fin C A bd w γ hg nx g w' γ' (upd hg g.nx o) (g.new o):=by
 refine⟨by simpa using hr,s,⟨[g.nx],by simp,λj hj=>?_,λj hj=>?_⟩⟩
 ·simp at hj;subst hj;simp[TA]
 ·exact cV _ _ (by simpa using hj)
end
section
variable {C:Cfg}{A:Nat->Nat->Prop}{bd:Nat}{w w':World}{γ γ':Gm}{hg:Nat->AObj}{nx:Nat}
variable {t:T}{g:G}{ih:IH}
def Agr(lk:Looks)(g:G)(hg:Nat->AObj):Prop :=
 if lk.big then Ext g.h hg else ∀id∈lk.rd++lk.sr.map (·.1),g.h.get id≠.none->hg id=g.h.get id
theorem Ext.agr{lk:Looks}(h:Ext g.h hg):Agr lk g hg:=by
 unfold Agr
 split
 ·exact h
 ·exact λid _ hne=>h id hne
theorem Cw:∀{ps:List Nat} {xs:List AV} {us:List Value} {t t':T} {tmps:Array Value},dm t nt ps xs=some t'->TR w γ A bd nt t tmps->RVs w γ A bd xs us ->
  ps.length=us.length/\TR w γ A bd nt t' ((ps.zip us).foldl (λtmps (t,a)=>tmps.setIfInBounds t a) tmps):=by
 intro ps
 induction ps with
 | nil =>
  intro xs us t t' tmps h ht b;cases xs with
  | nil =>
   simp only[dm]at h;injection h with h;subst h;have:us=[]:=Yt.1 b.1.symm;subst this;exact⟨rfl,ht⟩
  |cons x xs=>simp[dm]at h
 | cons p ps ih =>
  intro xs us t t' tmps h ht b;cases xs with
  |nil=>simp[dm]at h
  | cons x xs =>
   cases us with
   |nil=>have:=b.1;simp at this
   | cons u us =>
    simp only[dm,aa]at h
    split at h
    ·rename_i hp;rw[WN]at hp;have h0:RV w γ A bd x u:=b.2 0 x u rfl rfl;have k:RVs w γ A bd xs us:=⟨by have:=b.1;simpa using this,λi x' u' hx hu=>b.2 (i+1) x' u' (by simpa using hx) (by simpa using hu)⟩;have c:TR w γ A bd nt ((sp AV.undef p).run t x) (tmps.setIfInBounds p u):=by
      refine⟨by simp[ht.1],λi=>?_⟩;rw[sp_get]
      by_cases hi:i=p
      ·subst hi;rw[VC rfl];have:i<tmps.size:=by rw[ht.1];exact hp
       simpa [Array.getD,this] using h0
      ·rw[Vz hi];have:=ht.2 i;simp only[Ws]at this ⊢;rw[Xn (WD hi)];exact this
     obtain⟨a1,a2⟩:=ih h c k;exact⟨by simp[a1],by simpa using a2⟩
    ·cases h
theorem Ly(hi:IHOk C ih)(hr:Rel C A bd w γ hg nx)(hx:Ext g.h hg)(hwf:WF g){id:Nat}{vs:List Value}
  (hk:(γ id).kind=3) (hv:RVs w γ A bd args vs)  (h:cL ih (bd+1) id args g=r) (hne:r≠.fail) (hf:Free γ g (gOf g r)) (c:Frame) (cs:List Frame) :
  ∃f tmps assign body,(Instr.yield (γ id).blk vs.toArray).run C.P w=.ok (.round (γ id).blk f tmps assign body) w /\
   ∃u w' γ' hg',Fin C A bd w γ hg nx g w' γ' hg' (gOf g r)/\RV w' γ' A bd (vOf r) u /\
    Steps C.P (lone (Frame.round (γ id).blk f tmps assign body .normal) (c::cs) w) (lone (c.finish u) cs w'):=by
 unfold cL at h
 split at h
 rotate_left
 ·exact absurd h.symm hne
 rename_i nt t0 ps assign bodyX dfr0 st0 pend0 q;have q:g.h.get id=.loop nt t0 ps assign bodyX dfr0 st0 pend0:=by simpa using q
 have W:hg id=.loop nt t0 ps assign bodyX dfr0 st0 pend0:=by rw[hx id (by rw[q];simp),q]
 have R:=hr.obj id;rw[W]at R;obtain⟨k1,k2,L,k3,k4,k5,k6,k7,k8,k9,h7,h8,h9⟩:=R
 split at h
 ·exact absurd h.symm hne
 rename_i t' S;have h3:TR w γ A bd nt t0 L.tmps:=⟨k9,h7⟩;obtain⟨F,Z⟩:=Cw S h3 hv
 split at h
 rotate_left
 ·exact absurd h.symm hne
 rename_i t1 g1 h1
 split at h
 rotate_left
 ·exact absurd h.symm hne
 rename_i nt1 U ps2 assign2 body1 dfr pend k;have k:g1.h.get id=.loop nt1 U ps2 assign2 body1 dfr .ready pend:=by simpa using k
 split at h
 rotate_left
 ·exact absurd h.symm hne
 rename_i e t3 g2 h2
 split at h
 rotate_left
 ·exact absurd h.symm hne
 rename_i nt3 V ps4 assign4 body4 dfr4 st4 pend4 d;have d:g2.h.get id=.loop nt3 V ps4 assign4 body4 dfr4 st4 pend4:=by simpa using d
 have I:=hi.mon.code _ _ _ _ _ _ _ _ _ _ _ h1 hwf;have w1:WF g1:=I.wf hwf;have J:Mon g1 (g1.put id (.loop nt1 U ps2 assign2 body1 dfr .busy pend)):=Mon.put w1 (by rw[k];simp);have w2:=J.wf w1;have T:=hi.mon.code _ _ _ _ _ _ _ _ _ _ _ h2 w2;have w3:=T.wf w2;have m4:∀o,Mon g2 (g2.put id o):=λo=>Mon.put w3 (by rw[d];simp);have Y:(gOf g r).nx=g2.nx:=by subst h;cases e<;>simp[gOf]
 have p:Free γ g g2:=λi a b=>hf i a (by rw[Y];exact b)
 let bR:Frame:={ (default:Frame) with fn:=L.fn,kind:=.normal,roundOf:=some (γ id).blk }
 let tmps:=(L.params.zip vs.toArray).foldl (λtmps (t,a)=>tmps.setIfInBounds t a) L.tmps
 have h4:tmps=(ps.zip vs).foldl (λtmps (t,a)=>tmps.setIfInBounds t a) L.tmps:=by simp only[tmps,<-Array.foldl_toList,Array.toList_zip,k6]
 have B:(Instr.yield (γ id).blk vs.toArray).run C.P w=.ok (.round (γ id).blk L.fn tmps assign bodyX) w:=by
  unfold Instr.yield;have hs:vs.toArray.size=L.params.size:=by rw[<-k6]at F;simpa using F.symm
  simp only[VT,kJ k3,VD,hs,ne_eq,not_true_eq_false,if_false,k7,k8]
  rfl
 have z:Frame.round (γ id).blk L.fn tmps assign bodyX .normal=bR.atR { tmps:=tmps,defers:=[] } [.code assign,.beginRound,.code bodyX]:=by simp[Frame.round,Frame.atR,bR]
 obtain⟨a1,wa,γa,N,f1,tr1,dr1,ar1⟩:=hi.code _ _ _ _ _ _ _ _ _ _ _ h1 A w γ hg nx bR { tmps:=tmps,defers:=[] } [.beginRound,.code bodyX] (c::cs) hr hx hwf
  (p.le (VR J.nx T.nx)) (by rw[h4];exact Z) trivial ⟨hk,rfl⟩ (.inl rfl)
 have h5:Ext g1.h N:=f1.ext I hx;have D:N id=.loop nt1 U ps2 assign2 body1 dfr .ready pend:=by rw[h5 id (by rw[k];simp),k]
 have Q:(γ id).kind≠0:=by rw[hk];decide
 have s:(γa id).blk=(γ id).blk:=f1.stp.blk_eq Q (by rw[hk];decide);have G:=f1.rel.obj id;rw[D]at G;obtain⟨ka1,ka2,La,ka3,ka4,ka5,ka6,ka7,ka8,ka9,ka10,ka11,ka12⟩:=G;have l:=f1.rel.setLoop (st':=.busy) (pend':=pend) D ka3;rw[s]at ka3 l;have y:(Instr.beginRound (γ id).blk).run C.P wa=.ok () (World.setBlk wa (γ id).blk (.loop { La with state:=.busy,pending:=pend })):=by unfold Instr.beginRound;simp only[VT,kJ ka3,VD,tQ ka3,ka4,Wq,<-ka5]
 have f2:Fin C A bd wa γa N (Nat.max nx g1.nx) g1 _ γa _ (g1.put id (.loop nt1 U ps2 assign2 body1 dfr .busy pend)):=Tz l.1 l.2;have x:=f1.trans f2 I J;obtain⟨a2,wb,γb,O,f3,tr3,dr3,ar3⟩:=hi.code _ _ _ _ _ _ _ _ _ _ _ h2 A _ γa _ (Nat.max nx (g1.put id (.loop nt1 U ps2 assign2 body1 dfr .busy pend)).nx) bR a1 [] (c::cs) x.rel (x.ext (I.trans J) hx) w2
  (x.freed hr (I.trans J) p) (tr1.step l.2) (by
   have:=dr1.step l.2;exact this) ⟨by rw[f1.stp.kind_eq Q];exact hk,by simp[bR,s]⟩ (.inl rfl)
 have m:=x.trans f3 (I.trans J) T;have h6:Ext g2.h O:=m.ext ((I.trans J).trans T) hx;have E:O id=.loop nt3 V ps4 assign4 body4 dfr4 st4 pend4:=by rw[h6 id (by rw[d];simp),d]
 have M:(γb id).blk=(γ id).blk:=m.stp.blk_eq Q (by rw[hk];decide);have H:=m.rel.obj id;rw[E]at H;obtain⟨kb1,kb2,Lb,kb3,kb4,kb5,kb6,kb7,kb8,kb9,kb10,kb11,kb12⟩:=H;have n:=λst' pend'=>m.rel.setLoop (st':=st') (pend':=pend') E kb3;rw[M]at kb3 n;have v:∀jump,(Instr.endRound (γ id).blk jump).run C.P wb=.ok (.bool jump.isNone) (World.setBlk wb (γ id).blk (.loop { Lb with state:=if jump.isNone then .ready else .done,pending:=jump })):=by intro jump;unfold Instr.endRound;simp only[VT,kJ kb3,VD,tQ kb3,Wq]
 refine⟨L.fn,tmps,assign,bodyX,B,?_⟩;rw[z];have sbegin:Steps C.P (lone (bR.atR { tmps:=tmps,defers:=[] } [.code assign,.beginRound,.code bodyX]) (c::cs) w) (lone (bR.atR a1 [.code bodyX]) (c::cs) (World.setBlk wa (γ id).blk (.loop { La with state:=.busy,pending:=pend }))) :=
  Steps.trans ar1 (.one (stepR_beginRound rfl y))
 have fin:∀(jump:Option Code) (st':LoopState),st'=(if jump.isNone then .ready else .done) ->
   Fin C A bd w γ hg nx g (World.setBlk wb (γ id).blk (.loop { Lb with state:=st',pending:=jump })) γb (upd O id (.loop nt3 V ps4 assign4 body4 dfr4 st' jump)) (g2.put id (.loop nt3 V ps4 assign4 body4 dfr4 st' jump)):=by
  intro jump st' _;exact m.trans (Tz (n st' jump).1 (n st' jump).2) ((I.trans J).trans T) (m4 _)
 subst h;cases e with
 |norm=>exact⟨.bool true,_,γb,_,fin none .ready rfl,.bool _ _,Steps.trans sbegin (Steps.trans ar3 (.one (stepR_round_end rfl rfl (v none))))⟩
 | exit j =>
  obtain⟨k₁,X,K⟩:=ar3;exact⟨.bool false,_,γb,_,fin (some (.exit j)) .done rfl,.bool _ _,Steps.trans sbegin (Steps.trans K (.one (stepR_round_exit rfl rfl (by rw[X];rfl) (v (some (.exit j))))))⟩
 | ret =>
  obtain⟨k₁,K⟩:=ar3;exact⟨.bool false,_,γb,_,fin (some .ret) .done rfl,.bool _ _,Steps.trans sbegin (Steps.trans K (.one (stepR_round_ret rfl rfl (v (some .ret)))))⟩
noncomputable def Rk(C:Cfg)(fv:AV)(as:List AV)(g:G):Looks :=
 match fv with
 |.clo f first cap=>aB ((C.ext f).isSome || C.iso f) (ah ((first++(as++cap)).flatMap (aD g.h aE))) bL
 |_=>bL
theorem Pn(h:Agr bL g hg):Ext g.h hg:=h
section
variable {b:Frame}{a:Act}{ops:Array Oper}{i:Nat}{rest:List Nat}{k:List Item}{cs:List Frame}{o:Oper}
theorem CJ(hC:CfgOk C)(hi:IHOk C ih)(hr:Rel C A bd w γ hg nx)(hwf:WF g){fv:AV}{v:Value}{as:List AV}{vs:List Value}
  (hfv:RV w γ A bd fv v) (has:RVs w γ A bd as vs) (hag:Agr (Rk C fv as g) g hg)
   (h:j8 C ih (bd+1) fv as g=r) (hne:r≠.fail) (hf:Free γ g (gOf g r))
  (ho:ops[i]?=some o) (hw:Region.wanted o (yielded ops a.tmps)=true) (hd:∀c,o.op≠.defer c)
  (hexec:(execOp a.eval o).run C.P w=(do let d <-Deferred.ofValue v vs.toArray;invoke d.target d.args:Sem Next).run C.P w) :
  ∃u w' γ' hg',Fin C A bd w γ hg nx g w' γ' hg' (gOf g r)/\RV w' γ' A bd (vOf r) u /\
   Steps C.P (lone (b.atR a (.inRegion ops (i::rest)::k)) cs w) (lone (b.atR (a.put o.dst u) (.inRegion ops rest::k)) cs w'):=by
 cases hfv with
 | clo _ f xs ys vs1 us1 hl hl2 h1 h2 =>
  have l:RVs w γ A bd (xs++(as++ys)) (vs1.toList++(vs++us1.toList)):=(TE hl h1).append (has.append (TE hl2 h2));have m:(vs1.toList++(vs++us1.toList)).toArray=(vs1++vs.toArray)++us1:=by apply Y5;simp
  have j:Enters C.P f->(execOp a.eval o).run C.P w=.ok (.enter f ((vs1++vs.toArray)++us1)) w:=by intro he;rw[hexec];simp only[Deferred.ofValue,invoke,VT,Wq,VD];exact he _ _
  simp only[j8]at h;simp only[Rk]at hag;cases hext:C.ext f with
  | some e =>
   simp only[hext]at h hag;have hx:∀id∈(xs++(as++ys)).flatMap (aD g.h aE),g.h.get id≠.none->hg id=g.h.get id:=by simpa [Agr,ah] using hag
   have hs:=hC.ext f e hext;subst h;obtain⟨u,w',γ',hg',f1,rv,out⟩:=hs A bd w γ hg nx g _ _ hr hwf hx hf l hne (b.atR a (.inRegion ops (i::rest)::k)::cs);rw[m]at out;rcases out with out|⟨he,out⟩
   ·refine⟨u,w',γ',hg',f1,rv,.one (BC ho hw hd ?_)⟩;rw[hexec];simp only[Deferred.ofValue,invoke,VT,Wq,VD];exact out
   ·exact⟨u,w',γ',hg',f1,rv,vN ho hw hd (j he) out⟩
  | none =>
   simp only[hext]at h hag;cases hiso:C.iso f with
   | true =>
    simp only[hiso]at h hag;have hx:∀id∈(xs++(as++ys)).flatMap (aD g.h aE),g.h.get id≠.none->hg id=g.h.get id:=by simpa [Agr,ah] using hag
    subst h;obtain⟨he,u,w',γ',hg',f1,rv,out⟩:=yP hi.call hi.mon.call hr hx l hne (b.atR a (.inRegion ops (i::rest)::k)::cs);rw[m]at out;exact⟨u,w',γ',hg',f1,rv,vN ho hw hd (j he) out⟩
   | false =>
    simp only[hiso]at h hag;have hx:Ext g.h hg:=hag;cases hcall:ih.call (bd+1) f (xs++(as++ys)) g with
    | fail =>
     rw[hcall]at h;exact absurd h.symm hne
    | ok rv0 g1 =>
     rw[hcall]at h;have h:OR.upd rv0 g1=r:=h;subst h;obtain⟨he,hs⟩:=hi.call _ _ _ _ _ _ hcall;obtain⟨u,w',γ',hg',f1,rv,out⟩:=hs A w γ hg nx _ hr hx hwf hf l .normal (b.atR a (.inRegion ops (i::rest)::k)::cs) (.inl rfl);rw[m]at out;exact⟨u,w',γ',hg',f1,rv,vN ho hw hd (j he) out⟩
 | yld _ id bl hk hb =>
  subst hb;simp only[j8]at h;have hx:Ext g.h hg:=Pn hag;obtain⟨f,tmps,assign,body,p,u,w',γ',hg',f1,rv,st⟩:=Ly hi hr hx hwf hk has h hne hf (b.atR a (.inRegion ops (i::rest)::k)) cs;have n:=Frame.finish_atR b a ops i rest k u;rw[ho]at n;simp only[XS]at n;rw[n]at st;refine⟨u,w',γ',hg',f1,rv,.head (Is ho hw hd ?_) st⟩;rw[hexec];simp only[Deferred.ofValue,invoke,VT,Wq,VD];simpa using p
 |_=>exact absurd h.symm hne
theorem N4(hC:CfgOk C)(hi:IHOk C ih)(hr:Rel C A bd w γ hg nx)(hwf:WF g)(ht:TR w γ A bd nt t a.tmps)(hcalm:vV b.kind cs)
  (hag:Agr ((aO C o.op).run t g) g hg)  (h:(dC C o.op).run ih (bd+1) rd t g=r) (hne:r≠.fail) (hnd:∀x,r≠.dfr x) (hf:Free γ g (gOf g r))
  (ho:ops[i]?=some o) (hw:Region.wanted o (yielded ops a.tmps)=true) :
  ∃u w' γ' hg',Fin C A bd w γ hg nx g w' γ' hg' (gOf g r)/\RV w' γ' A bd (vOf r) u /\
   Steps C.P (lone (b.atR a (.inRegion ops (i::rest)::k)) cs w) (lone (b.atR (a.put o.dst u) (.inRegion ops rest::k)) cs w'):=by
 have hm:Mon g (gOf g r):=by rw[<-h];exact mr hC.mon hi.mon hwf
 unfold dC at h
 split at h
 rotate_left
 ·exact absurd h.symm hne
 rename_i f d;generalize hop:o.op=op at d hag;have j:∀(args:Array Operand),(args.toList.map a.eval).toArray=args.map a.eval:=λargs=>by apply Y5;simp
 unfold cOp at d
 split at d
 ·
  rename_i fx args at2;have hd:∀c,o.op≠.defer c:=by rw[hop];intro c h;cases h
  split at d
  ·rename_i vs n;simp only[aO,aV,n]at hag;refine CJ (fv:=.clo fx [] []) (v:=.func (.func fx) #[] #[]) (as:=vs.run t) hC hi hr hwf (.clo _ fx [] [] #[] #[] rfl rfl (λi x v h=>by simp at h) (λi x v h=>by simp at h)) (jg ht hr n) hag ?_ hne hf ho hw hd ?_
   ·rw[<-h];simp only[j8,VH,VV]
    split at d
    ·rename_i e he;injection d with d;subst d;rfl
    ·rename_i he;rw[aa]at d
     split at d
     ·rename_i l;injection d with d;subst d;simp only[l]
     ·rename_i l;injection d with d;subst d;have:C.iso fx=false:=by simpa using l
      simp only[this]
   ·simp only[execOp,hop,resolve,j,Act.eval]
  ·cases d
 ·
  rename_i fo args at2 D;have hd:∀c,o.op≠.defer c:=by rw[hop];intro c h;cases h
  split at d
  ·rename_i fv vs q n;injection d with d;subst d;simp only[aO,q,n]at hag;refine CJ (fv:=fv.run t) (v:=a.eval fo) (as:=vs.run t) hC hi hr hwf (aC q ht hr) (jg ht hr n) hag h hne hf ho hw hd ?_;simp only[execOp,hop,resolve,j]
  ·cases d
 ·
  have hd:∀c,o.op≠.defer c:=by rw[hop];intro c h;cases h
  injection d with d;subst d;subst h;refine⟨.nilIface,w,γ,hg,Fin.refl hr,.nili _,.one (ES ho hw hd hC.recov hcalm ?_)⟩;simp only[execOp,hop,resolve,invoke,VT,Wq,VD]
  rfl
 ·
  split at d
  ·injection d with d;subst d;exfalso;dsimp only at h
   split at h
   ·exact hne h.symm
   ·split at h
    ·exact hnd _ h.symm
    ·exact hne h.symm
  ·cases d
 ·
  split at d
  ·rename_i s hs;injection d with d;subst d;have hd:∀c,o.op≠.defer c:=by rw[hop];rintro c rfl;simp[cq]at hs
   have p:∀id∈bh C op t g,hg id=g.h.get id:=by
    intro id y;have z:g.h.get id≠.none:=λz=>hne (by rw[<-h];exact Ha hs y z);unfold Agr at hag
    split at hag
    ·exact hag id z
    ·exact hag id y z
   have m:=QN hs hop ht hr (hf g.nx (Vu _) hm.nx) p;have h:s.run t g=r:=h;rw[h]at m;cases r with
   |fail=>exact absurd rfl hne
   | val x =>
    obtain⟨v,h1,h2⟩:=m;exact⟨v,w,γ,hg,Fin.refl hr,h2,vM ho hw hd h1⟩
   | upd x g' =>
    obtain⟨v,w',γ',id,ob,h1,h2,B,h4⟩:=m;rcases h4 with⟨rfl,h4⟩|⟨rfl,rfl,h4⟩
    ·exact⟨v,w',γ',_,Tz h4 B,h2,vM ho hw hd h1⟩
    ·exact⟨v,w',γ',_,Ty h4 B,h2,vM ho hw hd h1⟩
   |dfr x=>exact absurd rfl (hnd x)
  ·cases d
end
end
section
variable {K V:Type}
open Classical in
noncomputable def ov(S:Nat->Prop)(wr:Nat->K->Prop)(val:Nat->K->V)(base:K->V):Nat->K->V
 |0,k=>base k
 |i+1,k=>if S i/\wr i k then val (i+1) k else ov S wr val base i k
variable {S S':Nat->Prop}{wr:Nat->K->Prop}{val:Nat->K->V}{base:K->V}{k:K}
theorem N9(h:∀j,j<n->wr j k->(S j↔S' j)):ov S wr val base n k=ov S' wr val base n k:=by
 induction n with
 |zero=>rfl
 | succ n ih =>
  simp only[ov];rw[ih λj hj=>h j (by omega)]
  by_cases hw:wr n k
  ·have hS:=h n (by omega) hw
   by_cases hs:S n
   ·rw[VC ⟨hs,hw⟩,VC ⟨hS.1 hs,hw⟩]
   ·rw[Vz (λhh=>hs hh.1),Vz (λhh=>hs (hS.2 hh.1))]
  ·rw[Vz (λhh=>hw hh.2),Vz (λhh=>hw hh.2)]
theorem EI(hm:m<=n)(h:∀j,m<=j->j<n->S j->¬wr j k):ov S wr val base n k=ov S wr val base m k:=by
 induction n with
 | zero=>have:m=0:=by omega
         subst this;rfl
 | succ n ih =>
  by_cases hmn:m=n+1
  ·subst hmn;rfl
  ·simp only[ov];rw[Vz (λhh=>h n (by omega) (by omega) hh.1 hh.2)];exact ih (by omega) λj h1 h2=>h j h1 (by omega)
theorem N7(hi:i<n)(hw:wr i k)(h:∀j,i<j->j<n->S j->¬wr j k):ov (λj=>S j\/j=i) wr val base n k=val (i+1) k:=by
 rw[EI (m:=i+1) (by omega) (λj h1 h2 h3=>by
  rcases h3 with h3|h3
  ·exact h j (by omega) h2 h3
  ·omega)]
 simp[ov,hw]
theorem EH(hw:¬wr i k):ov (λj=>S j\/j=i) wr val base n k=ov S wr val base n k:=by
 refine N9 λj _ hj=>?_;constructor
 ·rintro (h|h)
  ·exact h
  ·subst h;exact absurd hj hw
 ·exact .inl
theorem N8(hi:i<=n)(keep:∀j,j<n->¬wr j k->val (j+1) k=val j k)(h:∀j,j<n->wr j k->(S j↔j<i)) :
  ((∃j,j<i/\wr j k)/\ov S wr val base n k=val i k)\/((∀j,j<i->¬wr j k)/\ov S wr val base n k=base k/\val i k=val 0 k):=by
 rw[EI hi (λj h1 h2 a h4=>by have:=(h j h2 h4).1 a;omega)];have key:∀m,m<=i->((∃j,j<m/\wr j k)/\ov S wr val base m k=val m k)\/((∀j,j<m->¬wr j k)/\ov S wr val base m k=base k/\val m k=val 0 k):=by
  intro m
  induction m with
  |zero=>intro _;exact .inr ⟨λj hj=>absurd hj (Nat.not_lt_zero j),rfl,rfl⟩
  | succ m ih =>
   intro hm
   by_cases hw:wr m k
   ·left;refine⟨⟨m,by omega,hw⟩,?_⟩;simp only[ov];rw[VC ⟨(h m (by omega) hw).2 (by omega),hw⟩]
   ·simp only[ov];rw[Vz (λhh=>hw hh.2)];rcases ih (by omega) with⟨⟨j,h1,h2⟩,a⟩|⟨h1,h2,a⟩
    ·left;exact⟨⟨j,by omega,h2⟩,by rw[a,keep m (by omega) hw]⟩
    ·right;refine⟨λj hj=>?_,h2,by rw[keep m (by omega) hw,a]⟩
     by_cases hjm:j=m
     ·subst hjm;exact hw
     ·exact h1 j (by omega)
 exact key i (Vu _)
end
theorem yD(es:List Edge)(acc:List Nat):∀(m i:Nat),
  (es.foldl (λm e=>aB (Region.binds .any e) (m ||| 2 ^ e.on ||| acc.getD e.on 0) m) m).testBit i=true ->
  m.testBit i=true\/∃e∈es,Region.binds .any e=true/\(e.on=i\/(acc.getD e.on 0).testBit i=true):=by
 induction es with
 |nil=>intro m i h;exact .inl h
 | cons e es ih =>
  intro m i h;simp only[XY]at h;rcases ih _ i h with h|⟨e',h1,h2,k⟩
  ·rw[aa]at h
   split at h
   ·rename_i hb;simp only[Nat.testBit_or,Wh]at h;rcases h with (h|h)|h
    ·exact .inl h
    ·right;refine⟨e,WO,hb,.inl ?_⟩;rw[Nat.testBit_two_pow]at h;simpa using h
    ·exact .inr ⟨e,WO,hb,.inr h⟩
   ·exact .inl h
  ·exact .inr ⟨e',WK _ h1,h2,k⟩
theorem Bp{S:Nat->Prop}{all:List Oper}(hS:∀j o,all[j]?=some o->S j->∀e∈o.after.toList,Region.binds .any e=true->S e.on) :
  ∀(ops:List Oper) (acc:List Nat) (pre:List Oper),all=pre++ops->pre.length=acc.length->(∀j i,(acc.getD j 0).testBit i=true->S j->S i) ->
   ∀j i,((bA ops acc).getD j 0).testBit i=true->S j->S i:=by
 intro ops
 induction ops with
 |nil=>intro acc pre _ _ h;exact h
 | cons o rest ih =>
  intro acc pre k a h;simp only[bA];refine ih _ (pre++[o]) (by simp[k]) (by simp[a]) λj i hj hSj=>?_
  by_cases hlt:j<acc.length
  ·refine h j i ?_ hSj;rw[Xq,VO hlt]at hj;rw[Xq];exact hj
  ·by_cases hje:j=acc.length
   ·subst hje;rw[Xq,VW (Vu _)]at hj;simp only[WR,VZ,VB]at hj;have ho:all[acc.length]?=some o:=by rw[k,<-a];simp
    rcases yD _ acc _ _ hj with h0|⟨e,h1,h2,h3⟩
    ·simp at h0
    ·have b:=hS _ o ho hSj e h1 h2;rcases h3 with h3|h3
     ·rw[<-h3];exact b
     ·exact h _ _ h3 b
   ·rw[Xq,Wx (by simp;omega)]at hj;simp at hj
theorem xB{α:Type}{f:Nat->α->Nat->α->Bool}{x:α}:∀{l:List α} {j0:Nat},fV f i x j0 l=true->∀(j:Nat) y,l[j]?=some y->f i x (j0+j) y=true:=by
 intro l
 induction l with
 |nil=>intro j0 _ j y h;simp at h
 | cons a l ih =>
  intro j0 h j y k;simp only[fV,Vx]at h;cases j with
  |zero=>simp at k;subst k;exact h.1
  | succ j =>
   have:=ih h.2 j y (by simpa using k);rw[show j0+(j+1)=j0+1+j by omega];exact this
theorem we{α:Type}{f:Nat->α->Nat->α->Bool}:∀{l:List α} {i0:Nat},j6 f i0 l=true->∀(i j:Nat) x y,i<j->l[i]?=some x->l[j]?=some y->f (i0+i) x (i0+j) y=true:=by
 intro l
 induction l with
 |nil=>intro i0 _ i j x y _ h;simp at h
 | cons a l ih =>
  intro i0 h i j x y b hx k;simp only[j6,Vx]at h;cases j with
  |zero=>omega
  | succ j =>
   cases i with
   | zero =>
    simp at hx;subst hx;have:=xB h.1 j y (by simpa using k);rw[show i0+(j+1)=i0+1+j by omega];simpa using this
   | succ i =>
    have:=ih h.2 i j x y (by omega) (by simpa using hx) (by simpa using k);rw[show i0+(i+1)=i0+1+i by omega,show i0+(j+1)=i0+1+j by omega];exact this
theorem BY:∀{l:List Oper} {i0:Nat},pF i0 l=true->∀(i:Nat) o,l[i]?=some o->∀e∈o.after.toList,Region.binds .any e=true->e.on<i0+i:=by
 intro l
 induction l with
 |nil=>intro i0 _ i o h;simp at h
 | cons a l ih =>
  intro i0 h i o ho e he hb;simp only[pF,Vx]at h;cases i with
  | zero =>
   simp at ho;subst ho;have:=VQ.1 h.1 e he;simp only[hb,YN,Bool.false_or,WN]at this;simpa using this
  | succ i =>
   have:=ih h.2 i o (by simpa using ho) e he hb;omega
theorem AU{pm:List Nat}:∀{l:List Oper} {i0:Nat},m_ pm i0 l=true->∀(i:Nat) o,l[i]?=some o->∀j b,o.guard=some (j,b)->(pm.getD (i0+i) 0).testBit j=true:=by
 intro l
 induction l with
 |nil=>intro i0 _ i o h;simp at h
 | cons a l ih =>
  intro i0 h i o ho j b hg;simp only[m_,Vx]at h;cases i with
  | zero =>
   simp at ho;subst ho;have:=h.1;simp only[hg]at this;simpa using this
  | succ i =>
   have:=ih h.2 i o (by simpa using ho) j b hg;rw[show i0+(i+1)=i0+1+i by omega];exact this
def cnt(p:Nat->Bool):Nat->Nat
 |0=>0
 |n+1=>cnt p n+(if p n then 1 else 0)
theorem Mq{p:Nat->Bool}:∀{n:Nat},cnt p n=0->∀i,i<n->p i=false:=by
 intro n
 induction n with
 |zero=>intro _ i hi;omega
 | succ n ih =>
  intro h i hi;simp only[cnt]at h
  by_cases hin:i=n
  ·subst hin;cases hp:p i
   ·rfl
   ·simp[hp]at h
  ·exact ih (by omega) i (by omega)
theorem RS{p q:Nat->Bool}(h:∀i,q i=true->p i=true):∀{n i:Nat},i<n->p i=true->q i=false->cnt q n<cnt p n:=by
 have k:∀n,cnt q n<=cnt p n:=by
  intro n
  induction n with
  |zero=>exact Vu _
  | succ n ih =>
   simp only[cnt];have:=h n;cases hq:q n
   ·cases p n<;>simp<;>omega
   ·simp[this hq];omega
 intro n
 induction n with
 |zero=>intro i hi;omega
 | succ n ih =>
  intro i hi hp hq;simp only[cnt]
  by_cases hin:i=n
  ·subst hin;simp[hp,hq];have:=k i;omega
  ·have:=ih (by omega) hp hq;have h2:=h n;cases hq':q n
   ·cases p n<;>simp<;>omega
   ·simp[h2 hq'];omega
section
variable {C:Cfg}{t t':T}{g:G}{ih:IH}
theorem Hy{x:Operand}{s:Stg (T->AV)}(h:aV C x=some s)(hx:∀n,x=.tmp n->t.get AV.undef n=t'.get AV.undef n):s.run t=s.run t':=by
 cases x with
 |tmp n=>simp[aV]at h;subst h;simpa using hx n rfl
 | const v =>
  simp only[aV]at h
  split at h
  ·injection h with h;subst h;rfl
  ·cases h
 | global gl =>
  simp only[aV]at h
  split at h
  ·injection h with h;subst h;rfl
  ·cases h
 |func f=>simp[aV]at h;subst h;rfl
def Cz(C:Cfg)(t t':T)(xs:List Operand):Prop:=∀x∈xs,∀s,aV C x=some s->s.run t=s.run t'
theorem cM:∀{xs:List Operand} {vs:Stg (T->List AV)},bY C xs=some vs->Cz C t t' xs->vs.run t=vs.run t':=by
 intro xs
 induction xs with
 |nil=>intro vs h _;simp[bY]at h;subst h;rfl
 | cons x xs ih =>
  intro vs h hx;simp only[bY]at h
  split at h
  ·rename_i a as h1 h2;injection h with h;subst h;simp only[hx x WO a h1,ih h2 λy hy=>hx y (WK _ hy)]
  ·cases h
variable {op:Op}{f:Stg SFn}
theorem Aj{b:Builtin}{argTypes:Array TypeId}{args:List Operand}(h:dt C b argTypes args=some f)(hx:Cz C t t' args):f.run t g=f.run t' g:=by
 unfold dt at h
 split at h
 ·split at h
  ·rename_i s _ hs;injection h with h;subst h;simp only[hx _ (by simp) _ hs]
  ·cases h
 ·split at h
  ·rename_i sa sx _ _ ha hb;have e1:=hx _ (by simp) _ ha;have e2:=hx _ (by simp) _ hb
   repeat' (first|split at h| (rw[aa]at h;split at h))
   all_goals first| (cases h;done)| (injection h with h;subst h;simp only[e1,e2])
  ·cases h
 ·split at h
  ·rename_i sa sx _ ha hb;have e1:=hx _ (by simp) _ ha;have e2:=hx _ (by simp) _ hb
   repeat' (first|split at h)
   all_goals first| (cases h;done)| (injection h with h;subst h;simp only[e1,e2])
  ·cases h
 ·split at h
  ·rename_i s _ hs;have e1:=hx _ (by simp) _ hs
   repeat' (first|split at h)
   all_goals first| (cases h;done)| (injection h with h;subst h;simp only[e1])
  ·cases h
 ·split at h
  ·rename_i s _ hs;have e1:=hx _ (by simp) _ hs
   repeat' (first|split at h| (rw[aa]at h;split at h))
   all_goals first| (cases h;done)| (injection h with h;subst h;simp only[e1])
  ·cases h
 ·split at h
  ·rename_i sa sx ha hb;injection h with h;subst h;simp only[hx _ (by simp) _ ha,hx _ (by simp) _ hb]
  ·cases h
 ·split at h
  ·rename_i sa sx ha hb;injection h with h;subst h;simp only[hx _ (by simp) _ ha,hx _ (by simp) _ hb]
  ·cases h
 ·cases h
theorem Hz(h:cq C op=some f)(hx:Cz C t t' op.operands.toList):f.run t g=f.run t' g:=by
 cases op<;>simp only[cq]at h<;>first| (cases h;done)|skip
 case call c =>
  obtain⟨callee,args,argTypes⟩:=c;cases callee<;>first| (cases h;done)|skip
  dsimp only at h;exact Aj h λx hm=>hx x (by simpa [Op.operands,Call.operands] using hm)
 case move x =>
  split at h
  ·rename_i s hs;injection h with h;subst h;simp only[hx _ (by simp[Op.operands]) _ hs]
  ·cases h
 case assign x =>
  split at h
  ·rename_i s hs;injection h with h;subst h;simp only[hx _ (by simp[Op.operands]) _ hs]
  ·cases h
 case pick c x y =>
  split at h
  ·rename_i sc sx sy hc h1 h2;injection h with h;subst h;simp only[hx _ (by simp[Op.operands]) _ hc,hx _ (by simp[Op.operands]) _ h1,hx _ (by simp[Op.operands]) _ h2]
  ·cases h
 case alloc ty =>
  split at h
  ·injection h with h;subst h;rfl
  ·cases h
 case box ty x =>
  split at h
  ·rename_i s hs;injection h with h;subst h;simp only[L8,hx _ (by simp[Op.operands]) _ hs]
  ·cases h
 case load ty x =>
  split at h
  ·rename_i s ag n hs w A;injection h with h;subst h;simp only[nj,hx _ (by simp[Op.operands]) _ hs]
  ·cases h
 case store ty x y =>
  split at h
  ·rename_i s u n hs hu A;injection h with h;subst h;simp only[po,hx _ (by simp[Op.operands]) _ hs,hx _ (by simp[Op.operands]) _ hu]
  ·cases h
 case binOp op ty x y p =>
  split at h
  ·rename_i s u hs hu;injection h with h;subst h;simp only[hx _ (by simp[Op.operands]) _ hs,hx _ (by simp[Op.operands]) _ hu]
  ·cases h
 case unOp op ty x =>
  split at h
  ·rename_i s hs;injection h with h;subst h;simp only[hx _ (by simp[Op.operands]) _ hs]
  ·cases h
 case convert src dst x =>
  split at h
  ·rename_i s sd k hs v hk;injection h with h;subst h;simp only[hx _ (by simp[Op.operands]) _ hs]
  ·cases h
 case nilCheck x =>
  split at h
  ·rename_i s hs;injection h with h;subst h;simp only[hx _ (by simp[Op.operands]) _ hs]
  ·cases h
 case makeInterface ty x =>
  split at h
  ·cases h
  ·rename_i s d B hs hu;injection h with h;subst h;simp only[hx _ (by simp[Op.operands]) _ hs]
  ·cases h
 case makeSlice ty l c =>
  split at h
  ·rename_i e sl sc he hl hc
   split at h
   ·rw[aa]at h
    split at h
    ·injection h with h;subst h;simp only[io,hx _ (by simp[Op.operands]) _ hl,hx _ (by simp[Op.operands]) _ hc]
    ·cases h
   ·cases h
  ·cases h
 case fieldAddr ty x fi =>
  split at h
  ·rename_i s fo ft hs o
   split at h
   ·injection h with h;subst h;simp only[jP,hx _ (by simp[Op.operands]) _ hs]
   ·cases h
  ·cases h
 case field ty x fi =>
  split at h
  ·rename_i s fo ft hs o
   split at h
   ·injection h with h;subst h;simp only[hx _ (by simp[Op.operands]) _ hs]
   ·cases h
  ·cases h
 case indexAddr ty x ix =>
  split at h
  ·rename_i s i hs hi
   split at h
   ·split at h
    ·injection h with h;subst h;simp only[gY,hx _ (by simp[Op.operands]) _ hs,hx _ (by simp[Op.operands]) _ hi]
    ·cases h
   ·split at h
    ·injection h with h;subst h;simp only[ni,hx _ (by simp[Op.operands]) _ hs,hx _ (by simp[Op.operands]) _ hi]
    ·cases h
   ·cases h
  ·cases h
 case index ty x ix =>
  split at h
  ·rename_i s i hs hi
   split at h
   ·split at h
    ·injection h with h;subst h;simp only[vG,hx _ (by simp[Op.operands]) _ hs,hx _ (by simp[Op.operands]) _ hi]
    ·cases h
   ·injection h with h;subst h;simp only[qs,hx _ (by simp[Op.operands]) _ hs,hx _ (by simp[Op.operands]) _ hi]
   ·cases h
  ·cases h
 case lookup ty x k ok =>
  split at h
  ·rename_i m kk kt et hm hk hu
   split at h
   ·injection h with h;subst h;simp only[dL,hx _ (by simp[Op.operands]) _ hm,hx _ (by simp[Op.operands]) _ hk]
   ·cases h
  ·cases h
 case mapUpdate ty m k x =>
  split at h
  ·rename_i sm sk sx kt et hm hk a hu;injection h with h;subst h;simp only[cT,hx _ (by simp[Op.operands]) _ hm,hx _ (by simp[Op.operands]) _ hk,hx _ (by simp[Op.operands]) _ a]
  ·cases h
 case insert ty m k x =>
  split at h
  ·rename_i sm sk sx kt et hm hk a hu;injection h with h;subst h;simp only[cT,hx _ (by simp[Op.operands]) _ hm,hx _ (by simp[Op.operands]) _ hk,hx _ (by simp[Op.operands]) _ a]
  ·cases h
 case mapEntry ty m k =>
  split at h
  ·rename_i sm sk kt et hm hk hu
   split at h
   ·injection h with h;subst h;simp only[qu,hx _ (by simp[Op.operands]) _ hm,hx _ (by simp[Op.operands]) _ hk]
   ·cases h
  ·cases h
 case entryStore ty m st x =>
  split at h
  ·rename_i sm ss sx hm hs a;injection h with h;subst h;simp only[nO,hx _ (by simp[Op.operands]) _ hm,hx _ (by simp[Op.operands]) _ hs,hx _ (by simp[Op.operands]) _ a]
  ·cases h
 case extract x i =>
  split at h
  ·rename_i s hs;injection h with h;subst h;simp only[hx _ (by simp[Op.operands]) _ hs]
  ·cases h
 case makeMap ty r =>
  cases r with
  |some r=>cases h
  | none =>
   dsimp only at h
   split at h
   ·injection h with h;subst h;rfl
   ·cases h
 case makeFunc fn fi ca =>
  cases fn with
  | func fx =>
   dsimp only at h
   split at h
   ·rename_i sa sc ha hc;injection h with h;subst h;have e1:=cM (t:=t) (t':=t') ha λx hm=>hx x (by simp[Op.operands]at hm ⊢;exact .inl hm);have e2:=cM (t:=t) (t':=t') hc λx hm=>hx x (by simp[Op.operands]at hm ⊢;exact .inr hm);simp only[e1,e2]
   ·cases h
  |_=>cases h
 case buildSlice ty len parts =>
  split at h
  ·rename_i e vs he b;have e1:=cM (t:=t) (t':=t') b λx hm=>hx x (by simpa [Op.operands] using hm)
   split at h
   ·rw[aa]at h
    split at h
    ·injection h with h;subst h;simp only[iy,e1]
    ·cases h
   ·cases h
  ·cases h
 case build ty parts =>
  split at h
  ·rename_i zero vs hz b;have e1:=cM (t:=t) (t':=t') b λx hm=>hx x (by simpa [Op.operands] using hm)
   split at h
   ·split at h
    ·split at h
     ·injection h with h;subst h;simp only[oE,e1]
     ·cases h
    ·cases h
   ·split at h
    ·injection h with h;subst h;simp only[oE,e1]
    ·cases h
   ·cases h
  ·cases h
 case slice ty x lo hi mx =>
  have optR:∀{y:Option Operand} {s:Stg (T->List AV)},(∀z,y=some z->z∈(Op.slice ty x lo hi mx).operands.toList)->bY C y.toList=some s->s.run t=s.run t':=by
   intro y s D hs;refine cM hs λz hm=>hx z (D z ?_);cases y with
   |none=>simp at hm
   |some q=>simp at hm;rw[hm]
  cases mx with
  | none =>
   dsimp only at h
   split at h
   ·rename_i e sx sl sh hu h1 h2 j
    split at h
    ·injection h with h;subst h;simp only[hx _ (by simp[Op.operands]) _ h1,optR (by rintro z rfl;simp[Op.operands]) h2,optR (by rintro z rfl;simp[Op.operands]) j]
    ·cases h
   ·rename_i n e sx sl sh hu h1 h2 j
    split at h
    ·injection h with h;subst h;simp only[mf,hx _ (by simp[Op.operands]) _ h1,optR (by rintro z rfl;simp[Op.operands]) h2,optR (by rintro z rfl;simp[Op.operands]) j]
    ·cases h
   ·cases h
  | some mx =>
   cases hi with
   |none=>cases h
   | some hi =>
    dsimp only at h
    split at h
    ·rename_i e sx sl sh sm he h1 h2 j h4
     split at h
     ·injection h with h;subst h;simp only[hx _ (by simp[Op.operands]) _ h1,optR (by rintro z rfl;simp[Op.operands]) h2,hx _ (by simp[Op.operands]) _ j,hx _ (by simp[Op.operands]) _ h4]
     ·cases h
    ·cases h
theorem Hv(hx:Cz C t t' op.operands.toList):(dC C op).run ih d rd t g=(dC C op).run ih d rd t' g:=by
 unfold dC
 split
 rotate_left
 ·rfl
 rename_i f h;unfold cOp at h
 split at h
 ·rename_i fx args at2
  split at h
  ·rename_i vs k;have e1:=cM (t:=t) (t':=t') k λx hm=>hx x (by simp[Op.operands,Call.operands]at hm ⊢;exact .inr hm)
   repeat' (first|split at h| (rw[aa]at h;split at h))
   all_goals (injection h with h;subst h;simp only[e1])
  ·cases h
 ·rename_i fo args at2 b
  split at h
  ·rename_i fv vs a k;have e1:=cM (t:=t) (t':=t') k λx hm=>hx x (by simp[Op.operands,Call.operands]at hm ⊢;exact .inr hm);have e2:=hx fo (by simp[Op.operands,Call.operands]) _ a;injection h with h;subst h;simp only[e1,e2]
  ·cases h
 ·injection h with h;subst h;rfl
 ·rename_i fo args at2
  split at h
  ·rename_i fv vs a k;have e1:=cM (t:=t) (t':=t') k λx hm=>hx x (by simp[Op.operands,Call.operands]at hm ⊢;exact .inr hm);have e2:=hx fo (by simp[Op.operands,Call.operands]) _ a;injection h with h;subst h;simp only[e1,e2]
  ·cases h
 ·split at h
  ·rename_i s hs;injection h with h;subst h;exact Hz hs hx
  ·cases h
theorem Fm{g':G}(hh:g.h=g'.h)(hx:Cz C t t' op.operands.toList):(aO C op).run t g=(aO C op).run t' g':=by
 have one:∀{x:Operand} {F:AV->Looks},x∈op.operands.toList ->
   (match aV C x with|some a=>(⟨λt _=>F (a.run t)⟩:Stg (T->G->Looks))|none=>⟨λ_ _=>bL⟩).run t g =
   (match aV C x with|some a=>(⟨λt _=>F (a.run t)⟩:Stg (T->G->Looks))|none=>⟨λ_ _=>bL⟩).run t' g':=by
  intro x F hm;cases hs:aV C x with
  |none=>rfl
  |some s=>simp only[hx x hm s hs]
 cases op<;>first|rfl|skip
 case load ty x=>exact one (F:=λv=>ah (aw v)) (by simp[Op.operands])
 case store ty x y=>exact one (F:=λv=>ah (aw v)) (by simp[Op.operands])
 case slice ty x lo hi mx=>exact one (F:=λv=>ah (aw v)) (by simp[Op.operands])
 case mapUpdate ty x k y=>exact one (F:=λv=>ah (aw v)) (by simp[Op.operands])
 case insert ty x k y=>exact one (F:=λv=>ah (aw v)) (by simp[Op.operands])
 case entryStore ty x k y=>exact one (F:=λv=>ah (aw v)) (by simp[Op.operands])
 case mapEntry ty x k=>exact one (F:=λv=>⟨aw v,[],(aw v).map (·,ty),false⟩) (by simp[Op.operands])
 case lookup ty x k ok =>
  cases ok
  ·exact one (F:=λv=>⟨[],(aw v).map (·,ty),[],false⟩) (by simp[Op.operands])
  ·exact one (F:=λv=>ah (aw v)) (by simp[Op.operands])
 case indexAddr ty x ix =>
  simp only[aO]
  split
  ·rename_i e s hu hs;simp only[hx x (by simp[Op.operands]) s hs]
  ·rfl
 case call c =>
  obtain⟨callee,args,argTypes⟩:=c;cases callee with
  | builtin b =>
   simp only[aO]
   split
   ·rename_i vs d;simp only[cM d λx hm=>hx x (by simpa [Op.operands,Call.operands] using hm)]
   ·rfl
  | value fo =>
   simp only[aO]
   split
   ·rename_i fv vs f d;simp only[cM d λx hm=>hx x (by simp[Op.operands,Call.operands]at hm ⊢;exact .inr hm),hx fo (by simp[Op.operands,Call.operands]) _ f,hh]
   ·rfl
  |invoke r m=>rfl
end
section
variable {C:Cfg}{A:Nat->Nat->Prop}{bd:Nat}{w w':World}{γ γ':Gm}{hg:Nat->AObj}{nx:Nat}
variable {t:T}{g:G}{ih:IH}
theorem TR.put{nt:Nat}{a:Act}{dst:Option Tmp}{out:Stg (T->AV->T)}{x:AV}{v:Value}(ho:vJ nt dst=some out)(ht:TR w γ A bd nt t a.tmps)(hv:RV w γ A bd x v) :
  TR w γ A bd nt (out.run t x) (a.put dst v).tmps:=by
 cases dst with
 |none=>simp[vJ]at ho;subst ho;exact ht
 | some d =>
  simp only[vJ,aa]at ho
  split at ho
  ·rename_i hd;rw[WN]at hd;injection ho with ho;subst ho;refine⟨by simp[Act.put,ht.1],λs=>?_⟩;rw[sp_get]
   by_cases hs:s=d
   ·subst hs;rw[VC rfl];have:s<a.tmps.size:=by rw[ht.1];exact hd
    simpa [Act.put,Array.getD,this] using hv
   ·rw[Vz hs];have:=ht.2 s;simp only[Act.put,Ws]at this ⊢;rw[Xn (WD hs)];exact this
  ·cases ho
theorem t8{ops:Array Oper}{o:Oper}{q:Stg (T->Option Bool)}{bv:Bool}{tmps:Array Value}(hq:jD ops.toList o.guard=some q)(ht:TR w γ A bd nt t tmps)
  (h:q.run t=some bv):Region.wanted o (yielded ops tmps)=bv:=by
 unfold Region.wanted;cases hg:o.guard with
 | none =>
  rw[hg]at hq;simp[jD]at hq;subst hq;injection h with h
 | some p =>
  obtain⟨j,want⟩:=p;rw[hg]at hq;simp only[jD]at hq
  split at hq
  ·rename_i oj c
   split at hq
   ·rename_i d hd;injection hq with hq;subst hq;have a:ops[j]?=some oj:=by simpa using c
    dsimp only at h;rw[gp_run]at h;have k:=ht.2 d;simp only[yielded,a,XS,hd];generalize t.get AV.undef d=y at h k
    split at h
    ·rename_i b;injection h with h;subst h;have hb:tmps[d]?=some (.bool b):=by
      cases hrv':tmps[d]? with
      |none=>simp[Ws,hrv',undef]at k;cases k
      | some v =>
       simp only[Ws,hrv',VB]at k;cases k;rfl
     simp only[hb];cases want<;>cases b<;>rfl
    ·injection h with h;subst h;cases hrv':tmps[d]? with
     |none=>rfl
     | some v =>
      simp only[Ws,hrv',VB]at k;cases k;rfl
    ·cases h
   ·cases hq
  ·cases hq
theorem DI{all:List Oper}{gd:Option (Nat×Bool)}{q:Stg (T->Option Bool)}{t t':T}(hq:jD all gd=some q)
  (h:∀j b oj d,gd=some (j,b)->all[j]?=some oj->oj.dst=some d->t.get AV.undef d=t'.get AV.undef d):q.run t=q.run t':=by
 cases gd with
 |none=>simp[jD]at hq;subst hq;rfl
 | some p =>
  obtain⟨j,want⟩:=p;simp only[jD]at hq
  split at hq
  ·rename_i oj k
   split at hq
   ·rename_i d hd;injection hq with hq;subst hq;dsimp only;rw[gp_run,gp_run,h j want oj d rfl k hd]
   ·cases hq
  ·cases hq
variable {b:Frame}{a:Act}{ops:Array Oper}{i:Nat}{rest:List Nat}{k:List Item}{cs:List Frame}{o:Oper}
theorem ER{P:Program}{d:Deferred}(ho:ops[i]?=some o)(hw:Region.wanted o (yielded ops a.tmps)=true)(hro:b.roundOf=none)
  (hrun:(execOp a.eval o).run P w=.ok (.defer d) w) :
  step P (lone (b.atR a (.inRegion ops (i::rest)::k)) cs w)=.next (lone (b.atR ({ a with defers:=d::a.defers }.put o.dst undef) (.inRegion ops rest::k)) cs w):=by
 have h:=Frame.finish_atR b { a with defers:=d::a.defers } ops i rest k undef;rw[ho]at h;simp only[XS]at h;refine step_lone_go ?_;rw[stepGR_op ho hw,hro,Oper.semAt_none,<-h];simp[stepG.apply,hrun,Frame.atR]
theorem y5{P:Program}(ho:ops[i]?=some o)(hw:Region.wanted o (yielded ops a.tmps)=false) :
  step P (lone (b.atR a (.inRegion ops (i::rest)::k)) cs w)=.next (lone (b.atR (a.put o.dst undef) (.inRegion ops rest::k)) cs w):=by
 have:=stepR_op_skip (P:=P) (b:=b) (a:=a) (k:=k) (cs:=cs) (w:=w) (ops:=ops) (i:=i) (rest:=rest) (by rw[ho];simpa using hw);rw[ho]at this;simpa using this
theorem PC(hr:Rel C A bd w γ hg nx)(ht:TR w γ A bd nt t a.tmps)(hrd:RdOk γ rd b)(hdf:DR w γ A bd df a.defers)
  {x:ADf} (h:(dC C o.op).run ih d rd t g=.dfr x) (hE:∀f e d args g y,C.ext f=some e->e d args g≠.dfr y) (ho:ops[i]?=some o) (hw:Region.wanted o (yielded ops a.tmps)=true) :
  ∃dd,DR w γ A bd (x::df) (dd::a.defers) /\
   step C.P (lone (b.atR a (.inRegion ops (i::rest)::k)) cs w)=.next (lone (b.atR ({ a with defers:=dd::a.defers }.put o.dst undef) (.inRegion ops rest::k)) cs w):=by
 have iso:∀f args,an ih d g f args≠.dfr x:=by
  intro f args;unfold an
  repeat' (first|split|rw[aa])
  all_goals (intro h;cases h)
 have orf:∀r,orF r≠.dfr x:=by intro r h;cases r<;>cases h
 have rnd:∀id args,cL ih d id args g≠.dfr x:=by
  intro id args;unfold cL
  repeat' split
  all_goals (intro h;cases h)
 unfold dC at h
 split at h
 rotate_left
 ·cases h
 rename_i f c;generalize hop:o.op=op at c;unfold cOp at c
 split at c
 ·rename_i fx args at2
  split at c
  ·split at c
   ·rename_i e he;injection c with c;subst c;exact absurd h (hE _ _ _ _ _ _ he)
   ·rw[aa]at c
    split at c
    ·injection c with c;subst c;exact absurd h (iso _ _)
    ·injection c with c;subst c;exact absurd h (orf _)
  ·cases c
 ·rename_i fo args at2 m
  split at c
  ·rename_i fv vs j l;injection c with c;subst c;dsimp only at h;unfold j8 at h
   split at h
   ·split at h
    ·rename_i e he;exact absurd h (hE _ _ _ _ _ _ he)
    ·rw[aa]at h
     split at h
     ·exact absurd h (iso _ _)
     ·exact absurd h (orf _)
   ·exact absurd h (rnd _ _)
   ·cases h
  ·cases c
 ·injection c with c;subst c;cases h
 ·rename_i fo args at2
  split at c
  ·rename_i fv vs j l;injection c with c;subst c;dsimp only at h;cases rd with
   |some _=>cases h
   | none =>
    dsimp only at h;have hf:=aC j ht hr;have n:=jg ht hr l;generalize hfo:a.eval fo=vfo at hf;generalize fv.run t=y at h hf;cases hf with
    | clo _ fx xs ys vs1 us1 hl hl2 h1 h2 =>
     dsimp only at h;injection h with h;subst h;refine⟨{ target:=.fn (.func fx) us1,args:=vs1++args.map a.eval },⟨⟨fx,ys,us1,rfl,rfl,TE hl2 h2,?_⟩,hdf⟩,ER ho hw hrd ?_⟩
     ·have:=(TE hl h1).append n;simpa using this
     ·simp only[execOp,hop,resolve,hfo,Deferred.ofValue,VT,Wq,VD]
    |_=>cases h
  ·cases c
 ·split at c
  ·rename_i s hs;injection c with c;subst c;have:=yA (t:=t) (g:=g) hs;have h:s.run t g=.dfr x:=h;rw[h]at this;exact this.elim
  ·cases c
theorem Mb(hC:CfgOk C)(hi:IHOk C ih):∀(l:List Oper) (i:Nat) {t:T} {df:List ADf} {g:G} {e:Ex} {t':T} {df':List ADf} {g':G},
  ops.toList.drop i=l->(jE C nt ops.toList l).run ih (bd+1) rd t df g=.ok e t' df' g'->WF g ->
  ∀{w γ hg nx a},Rel C A bd w γ hg nx->Ext g.h hg->Free γ g g'->TR w γ A bd nt t a.tmps->DR w γ A bd df a.defers->RdOk γ rd b->vV b.kind cs ->
   e=.norm/\∃a' w' γ' hg',Fin C A bd w γ hg nx g w' γ' hg' g'/\TR w' γ' A bd nt t' a'.tmps/\DR w' γ' A bd df' a'.defers /\
    Steps C.P (lone (b.atR a (.inRegion ops (List.range' i l.length)::k)) cs w) (lone (b.atR a' k) cs w'):=by
 intro l
 induction l with
 | nil =>
  intro i t df g e t' df' g' _ h _ w γ hg nx a hr hx hf ht n v c;simp only[jE]at h;injection h with h1 h2 M h4;subst h1;subst h2;subst M;subst h4;exact⟨rfl,a,w,γ,hg,Fin.refl hr,ht,n,.one stepR_region_end⟩
 | cons o rest ihl =>
  intro i t df g e t' df' g' p h z w γ hg nx a hr hx hf ht n v c;have ho:ops[i]?=some o:=by
   have:(ops.toList.drop i)[0]?=some o:=by rw[p];rfl
   simpa [WG] using this
  have m:ops.toList.drop (i+1)=rest:=by rw[<-W_,p];rfl
  have B:List.range' i (o::rest).length=i::List.range' (i+1) rest.length:=by simp[List.range'_succ]
  rw[B];have exec:∀{out:Stg (T->AV->T)},vJ nt o.dst=some out->Region.wanted o (yielded ops a.tmps)=true ->
    pt out.run ((jE C nt ops.toList rest).run ih (bd+1) rd) t df g ((dC C o.op).run ih (bd+1) rd t g)=.ok e t' df' g' ->
    e=.norm/\∃a' w' γ' hg',Fin C A bd w γ hg nx g w' γ' hg' g'/\TR w' γ' A bd nt t' a'.tmps/\DR w' γ' A bd df' a'.defers /\
     Steps C.P (lone (b.atR a (.inRegion ops (i::List.range' (i+1) rest.length)::k)) cs w) (lone (b.atR a' k) cs w'):=by
   intro out j hw h;have hm:=mr (op:=o.op) (d:=bd+1) (rd:=rd) (t:=t) hC.mon hi.mon z;generalize hres:(dC C o.op).run ih (bd+1) rd t g=r at h hm;have go:∀{x:AV} {g1:G},r≠.fail->(∀y,r≠.dfr y)->vOf r=x->gOf g r=g1->(jE C nt ops.toList rest).run ih (bd+1) rd (out.run t x) df g1=.ok e t' df' g' ->
     e=.norm/\∃a' w' γ' hg',Fin C A bd w γ hg nx g w' γ' hg' g'/\TR w' γ' A bd nt t' a'.tmps/\DR w' γ' A bd df' a'.defers /\
     Steps C.P (lone (b.atR a (.inRegion ops (i::List.range' (i+1) rest.length)::k)) cs w) (lone (b.atR a' k) cs w'):=by
    intro x g1 J I K H h;subst K;subst H;have w1:=hm.wf z;have L:=Al hC.mon hi.mon h w1;obtain⟨u,wa,γa,N,f1,rv,st⟩:=N4 (b:=b) (cs:=cs) (rest:=List.range' (i+1) rest.length) (k:=k) hC hi hr z ht c hx.agr hres J I (hf.le L.nx) ho hw;obtain⟨he,a',wb,γb,s,f2,tr,dr,st2⟩:=ihl (i+1) m h w1 (a:=a.put o.dst u) f1.rel (f1.ext hm hx) (f1.freed hr hm hf) ((ht.step f1.stp).put j rv)
     (by have:=n.step f1.stp;cases hd:o.dst<;>simpa [Act.put,hd] using this) (v.step f1.stp) c
    exact⟨he,a',wb,γb,s,f1.trans f2 hm L,tr,dr,Steps.trans st st2⟩
   cases r with
   |fail=>cases h
   |val x=>exact go (by simp) (by simp) rfl rfl h
   |upd x g1=>exact go (by simp) (by simp) rfl rfl h
   | dfr x =>
    obtain⟨dd,F,st⟩:=PC (b:=b) (cs:=cs) (rest:=List.range' (i+1) rest.length) (k:=k) hr ht v n hres (λf e d args g y he hy=>by
     exact extNoDfr hC he hy) ho hw
    obtain⟨he,a',wb,γb,s,f2,tr,dr,st2⟩:=ihl (i+1) m h z (a:={ a with defers:=dd::a.defers }.put o.dst undef) hr hx hf
     (ht.put (a:={ a with defers:=dd::a.defers }) j nE)
     (by cases hd:o.dst<;>simpa [Act.put,hd] using F) v c
    exact⟨he,a',wb,γb,s,f2,tr,dr,.head st st2⟩
  simp only[jE]at h
  split at h
  ·rename_i out j
   split at h
   ·rename_i D;refine exec j ?_ h;simp[Region.wanted,D]
   ·rename_i gd D
    split at h
    ·rename_i q hq;rw[<-D]at hq;dsimp only at h
     split at h
     ·rename_i E;exact exec j (t8 hq ht E) h
     ·rename_i E;have hw:=t8 hq ht E;obtain⟨he,a',wb,γb,s,f2,tr,dr,st2⟩:=ihl (i+1) m h z (a:=a.put o.dst undef) hr hx hf
       (ht.put j nE) (by cases hd:o.dst<;>simpa [Act.put,hd] using n) v c
      exact⟨he,a',wb,γb,s,f2,tr,dr,.head (y5 ho hw) st2⟩
     ·cases h
    ·cases h
  ·cases h where
 extNoDfr {f d:Nat} {e:Nat->List AV->G->OR} {args:List AV} {g:G} {y:ADf} (hC:CfgOk C) (he:C.ext f=some e) (hy:e d args g=.dfr y):False:=by exact (hC.noDfr f e he d args g y) hy
end
end
end Hx
