/- A part of the proof: what the functions of the chapter compute. -/
import Derived.Laws.Tables
import Derived.Test.YteaikmdilmfbeaaGreatHx1
set_option linter.all false
set_option maxRecDepth 20000
set_option maxHeartbeats 8000000
namespace Hx
open Go
noncomputable section
variable {ty e:TypeId}{rows:List (List AV)}{g:G}{n off len bytes b ep m:Nat}{v va vi y:Value}{x:AV}{zero cs:List AV}{t:T}{c:Array Value}{a ix:T->AV}{P:Program}{loose:Bool}
section
variable {C:Cfg}{A:Nat->Nat->Prop}{bd:Nat}{w:World}{γ:Gm}{hg:Nat->AObj}{nx:Nat}
theorem nu(h:fS P ty=some cs):∃v,(zeroValue ty).run P w=.ok v w/\zb v.cells.toList=some cs:=by
 unfold fS at h;cases hi:P.info? ty with
 |none=>rw[hi]at h;cases h
 | some i =>
  rw[hi]at h;cases hz:i.zero with
  |none=>simp[hz]at h
  |some v=>simp[hz]at h;exact⟨v,by simp[zeroValue,k_ hi,hz],h⟩
theorem Jn(hr:Rel C A bd w γ hg nx)(hz:fS C.P ty=some cs)(hf:(γ g.nx).kind=0)(t:T) :
  cV C A bd w γ hg nx (Instr.alloc ty true (.tuple #[])) g (Do cs t g):=by
 obtain⟨v,h1,h2⟩:=nu (w:=w) hz;obtain⟨k,q2⟩:=nV (w:=w) (γ:=γ) (A:=A) (bd:=bd) h2;obtain⟨γ',a,b,c,f,r5,l,d,e,m⟩:=D9 (sz:=cs.length) (rows:=[cs]) (cs:=v.cells) ty hr hf
  (λi row h=>by cases i with|zero=>simp at h;rw[<-h]|succ i=>simp at h)
  (λi j row y h hy=>by
   cases i with
   | zero =>
    simp at h;subst h;have hlt:j<v.cells.toList.length:=by rw[<-k.1];exact (TJ.1 hy).1
    have he:=TH hlt;exact⟨q2 j y hy,_,by simpa using he,k.2 j y _ hy he⟩
   | succ i=>simp at h) false 0 ⟨λ_=>rfl,λh=>by cases h⟩ (by
    have:=k.1;simp at this;simp[this])
 unfold Do;rw[aA];refine⟨.pointer (some (adr w.heap.size 0)),_,γ',g.nx,_,?_,?_,b,.inr ⟨rfl,rfl,a⟩⟩
 ·simp[Instr.alloc,newVar,ig,h1]
 ·exact .hptr _ _ _ _ _ _ _ c (by omega) (λ_=>⟨d.symm,by rw[e];simp⟩)
theorem wK(vs:List Value):∀(off k:Nat) (c:Array Value),
  (vs.zipIdx k).foldl (λcs (p:Value×Nat)=>cs.setIfInBounds (off+p.2) p.1) c=bc c (off+k) vs:=by
 induction vs with
 |nil=>intro off k c;rfl
 |cons v vs ih=>intro off k c;simp only[List.zipIdx_cons,Wp,bc];rw[ih];rfl
def pg(w:World)(γ:Gm)(A:Nat->Nat->Prop)(bd:Nat)(xs:List AV)(c:Array Value):Prop :=
 RVs w γ A bd xs c.toList/\∀(i:Nat) y,xs[i]?=some y->y.one=true
theorem Ei{xs row':List AV}{vs:List Value}(h:pg w γ A bd xs c)(hv:RVs w γ A bd cs vs)
  (h1:∀(i:Nat) y,cs[i]?=some y->y.one=true) (hp:bX xs off cs=some row'):pg w γ A bd row' (bc c off vs):=by
 obtain⟨a,b,k⟩:=qQ hp;have hl:off+vs.length<=c.size:=by have:=h.1.1;have:=hv.1;simp at *;omega
 refine⟨⟨by have:=h.1.1;simp[bK]at *;omega,λi x v hx hv'=>?_⟩,λi y hy=>?_⟩
 ·rw[k]at hx;simp only[WG]at hv';rw[bW _ _ _ _ hl]at hv';have:=hv.1
  split at hx
  ·rw[TO (by omega)]at hv';exact hv.2 _ _ _ hx hv'
  ·rw[TN (by omega)]at hv';exact h.1.2 _ _ _ hx (by simpa using hv')
 ·rw[k]at hy
  split at hy
  ·exact h1 _ _ hy
  ·exact h.2 _ _ hy
theorem JP{place:Nat->Option (Nat×Nat)}:∀{is:List Nat} {pl:List (Nat×Nat)} {xs:List AV} {vs:List Value} {zero cs:List AV} {c:Array Value},
  aF place is=some pl->pg w γ A bd zero c->RVs w γ A bd xs vs->d7 zero (pl.zip xs)=some cs->is.length=xs.length ->
  ∃c',Instr.fill place c (is.zip vs)=some c'/\pg w γ A bd cs c':=by
 intro is
 induction is with
 | nil =>
  intro pl xs vs zero cs c hp hc d h hl;simp[aF]at hp;subst hp;have:xs=[]:=Ui hl.symm;subst this;simp[d7]at h;subst h;exact⟨c,by simp[Instr.fill],hc⟩
 | cons i is ih =>
  intro pl xs vs zero cs c hp hc d h hl;cases xs with
  |nil=>cases hl
  | cons x xs =>
   cases vs with
   |nil=>have:=d.1;cases this
   | cons v vs =>
    simp only[aF]at hp;cases hpi:place i with
    |none=>rw[hpi]at hp;cases hp
    | some q =>
     rw[hpi]at hp;cases hpr:aF place is with
     |none=>rw[hpr]at hp;cases hp
     | some pl' =>
      rw[hpr]at hp;injection hp with hp;subst hp;obtain⟨off,size⟩:=q;simp only[V_,d7,aa,aA]at h
      split at h
      ·rename_i a;simp only[TM,notb_eq,Vd]at a;obtain⟨h1,h2⟩:=a;have h1:=aH h1;cases hput:bX zero off x.cells with
       |none=>rw[hput]at h;cases h
       | some row' =>
        rw[hput]at h;have hx:=d.2 0 x v rfl rfl;obtain⟨f,q2⟩:=pA hx h2;have e:v.cells.size=size:=by rw[<-h1];have:=f.1;simp at this;exact this.symm
        have l:=(qQ hput).2.1;have j:zero.length=c.size:=by have:=hc.1.1;simpa using this
        obtain⟨c',m,n⟩:=ih (c:=bc c off v.cells.toList) hpr (Ei hc f q2 hput) ⟨by have:=d.1;simpa using this,λk y u hy hu=>d.2 (k+1) y u (by simpa using hy) (by simpa using hu)⟩ h (by simpa using hl);refine⟨c',?_,n⟩;have b:(v.cells.zipIdx.foldl (λcs (p:Value×Nat)=>cs.setIfInBounds (off+p.2) p.1) c)=bc c off v.cells.toList:=by rw[<-Array.foldl_toList,Array.toList_zipIdx];exact wK _ _ _ _
        simp only[V_,Instr.fill,hpi];rw[TN (by simp[e];omega)];rw[show (v.cells.zipIdx.foldl (λcs x=>cs.setIfInBounds (off+x.2) x.1) c)=_ from b];exact m
      ·cases h
theorem Cq{parts:Array (Nat×Operand)}{pl:List (Nat×Nat)}{vs:T->List AV}{place:Nat->Option (Nat×Nat)}
  {ev:Operand->Value} (hz:fS C.P ty=some zero) (hv:RVs w γ A bd (vs t) ((parts.toList.map (·.2)).map ev))
  (hp:aF place (parts.toList.map (·.1))=some pl)
  (hrun:∀(z:Value) (cells:Array Value),(zeroValue ty).run C.P w=.ok z w->Instr.fill place z.cells ((parts.map λ(i,x)=>(i,ev x)).toList)=some cells ->
   (Instr.build ty (parts.map λ(i,x)=>(i,ev x))).run C.P w=.ok (.agg cells) w) :
  ValSim C A bd w γ (Instr.build ty (parts.map λ(i,x)=>(i,ev x))) (nZ zero pl vs t g):=by
 unfold nZ;cases hfl:d7 zero (pl.zip (vs t)) with
 |none=>trivial
 | some cs =>
  obtain⟨z,a,b⟩:=nu (w:=w) hz;have zr:=nV (w:=w) (γ:=γ) (A:=A) (bd:=bd) b;have hl:(parts.toList.map (·.1)).length=(vs t).length:=by have:=hv.1;simp at *;omega
  obtain⟨c',k,h⟩:=JP (c:=z.cells) hp zr hv hfl hl;have e:(parts.map λ(i,x)=>(i,ev x)).toList=(parts.toList.map (·.1)).zip ((parts.toList.map (·.2)).map ev):=by
   rw[Array.toList_map]
   induction parts.toList with
   |nil=>rfl
   |cons p ps ih=>simp[ih]
  exact⟨.agg c',hrun z c' a (by rw[e];exact k),.agg _ _ _ (by have:=h.1.1;simpa using this) h.2 (λi x v hx hv=>h.1.2 i x v hx (by simpa using hv))⟩
end
theorem IG{i j sz:Nat}(hj:j<sz):(i*sz+j) % sz=j:=by rw[VM,VW,VR hj]
section
variable {C:Cfg}{A:Nat->Nat->Prop}{bd:Nat}{w:World}{γ:Gm}{hg:Nat->AObj}{nx:Nat}
def gZ(zero:Array Value)(n:Nat):Array Value:=(Array.range n).map (zero[· % zero.size]!)
theorem nE(zero:Array Value)(n:Nat):(gZ zero n).size=n:=by simp[gZ]
theorem KP{zero:Array Value}{k:Nat}(h:k<n)(hz:0<zero.size):(gZ zero n)[k]?=zero[k % zero.size]?:=by have h2:k % zero.size<zero.size:=US _ hz;simp[gZ,h,TZ h2,getElem!_pos zero (k % zero.size) h2]
theorem F6{i:Nat}{row r:List AV}(h:(fj n row)[i]?=some r):r=row/\i<n:=by
 unfold fj at h;rw[VQ]at h
 split at h
 ·injection h with h;exact⟨h.symm,by assumption⟩
 ·cases h
def RowsRel(w:World)(γ:Gm)(A:Nat->Nat->Prop)(bd sz:Nat)(rows:List (List AV))(c:Array Value):Prop :=
 rows.length*sz<=c.size/\(∀(i:Nat) row,rows[i]?=some row->row.length=sz) /\
 ∀(i j:Nat) row x,rows[i]?=some row->row[j]?=some x->x.one=true/\∃v,c[i*sz+j]?=some v/\RV w γ A bd x v
theorem uv{ty:TypeId}{z:Value}{sz:Nat}(hz:zb z.cells.toList=some zero)(hsz:zero.length=sz)(h0:0<sz)(hn:n*sz<=m) :
  RowsRel w γ A bd sz (fj n zero) (gZ z.cells m):=by
 obtain⟨b,q2⟩:=nV (w:=w) (γ:=γ) (A:=A) (bd:=bd) hz;have a:z.cells.size=sz:=by have:=b.1;simp at this;omega
 refine⟨by simp[fj,nE,hn],λi row h=>by rw[(F6 h).1];exact hsz,λi j row x h hx=>?_⟩;obtain⟨e,hi⟩:=F6 h;subst e;have c:j<sz:=by rw[<-hsz];exact (TJ.1 hx).1
 have hlt:i*sz+j<n*sz:=by have:(i+1)*sz<=n*sz:=T2 _ hi;rw[Ub,UN]at this;omega
 have k:j<z.cells.toList.length:=by simp;omega
 refine⟨q2 j x hx,z.cells.toList[j],?_,b.2 j x _ hx (TH k)⟩;rw[KP (by omega) (by omega),a,IG c];have:j<z.cells.size:=by omega
 simp[this]
theorem DH{sz:Nat}(h0:0<sz):∀{is:List Nat} {xs:List AV} {vs:List Value} {rows rows':List (List AV)} {c:Array Value} {n:Nat},
  RowsRel w γ A bd sz rows c->rows.length=n->c.size=n*sz->RVs w γ A bd xs vs->gM sz rows (is.zip xs)=some rows'->is.length=xs.length ->
  ∃c',Instr.fill (λi=>some (i*sz,sz)) c (is.zip vs)=some c'/\RowsRel w γ A bd sz rows' c'/\rows'.length=n/\c'.size=n*sz:=by
 intro is
 induction is with
 | nil =>
  intro xs vs rows rows' c n hc hl b m h d;have:xs=[]:=Ui d.symm;subst this;simp[gM]at h;subst h;exact⟨c,by simp[Instr.fill],hc,hl,b⟩
 | cons i is ih =>
  intro xs vs rows rows' c n hc hl b m h d;cases xs with
  |nil=>cases d
  | cons x xs =>
   cases vs with
   |nil=>have:=m.1;cases this
   | cons v vs =>
    simp only[V_,gM,aa,aA,g7]at h
    split at h
    ·rename_i a;simp only[TM,notb_eq,Vd,UH]at a;obtain⟨⟨h1,h2⟩,h3⟩:=a;have h1:=aH h1;have hx:=m.2 0 x v rfl rfl;obtain⟨z,q2⟩:=pA hx h3;have o:v.cells.toList.length=sz:=by rw[<-z.1,h1]
     have e:(i+1)*sz<=rows.length*sz:=T2 _ h2;rw[Ub,UN]at e;have r:i*sz+v.cells.toList.length<=c.size:=by rw[o,b,<-hl];exact e
     have q:RowsRel w γ A bd sz (rows.set i x.cells) (bc c (i*sz) v.cells.toList):=by
      refine⟨by rw[bK,List.length_set];exact hc.1,λk row hk=>?_,λk j row y hk hy=>?_⟩
      ·rw[Vi]at hk
       by_cases hik:i=k
       ·subst hik;rw[TO rfl,TO h2]at hk;injection hk with hk;subst hk;exact h1
       ·rw[TN hik]at hk;exact hc.2.1 k row hk
      ·rw[Vi]at hk;rw[bW _ _ _ _ r]
       by_cases hik:i=k
       ·subst hik;rw[TO rfl,TO h2]at hk;injection hk with hk;subst hk;have t:j<sz:=by rw[<-h1];exact (TJ.1 hy).1
        have l:j<v.cells.toList.length:=by omega
        rw[TO (by omega),show i*sz+j - i*sz=j from by omega];exact⟨q2 j y hy,_,TH l,z.2 j y _ hy (TH l)⟩
       ·rw[TN hik]at hk;have t:j<sz:=by rw[<-hc.2.1 k row hk];exact (TJ.1 hy).1
        rw[TN]
        ·exact hc.2.2 k j row y hk hy
        ·rintro⟨l1,l2⟩;exact hik (L9 (i:=i) (i':=k) t l1 (by omega)).symm
     obtain⟨c',B,C,D,E⟩:=ih (c:=bc c (i*sz) v.cells.toList) (n:=n) q (by simp[hl]) (by rw[bK];exact b)
      ⟨by have:=m.1;simpa using this,λk y u hy hu=>m.2 (k+1) y u (by simpa using hy) (by simpa using hu)⟩ h (by simpa using d)
     refine⟨c',?_,C,D,E⟩;have f:(v.cells.zipIdx.foldl (λcs (p:Value×Nat)=>cs.setIfInBounds (i*sz+p.2) p.1) c)=bc c (i*sz) v.cells.toList:=by rw[<-Array.foldl_toList,Array.toList_zipIdx];exact wK _ _ _ _
     have s:v.cells.size=sz:=by simpa using o
     simp only[V_,Instr.fill];rw[TN (by simp[s];rw[b,<-hl];omega)];rw[show (v.cells.zipIdx.foldl (λcs x=>cs.setIfInBounds (i*sz+x.2) x.1) c)=_ from f];exact B
    ·cases h
theorem qO{sz:Nat}{cs:Array Value}(e:TypeId)(hr:Rel C A bd w γ hg nx)(hf:(γ g.nx).kind=0)
  (h:RowsRel w γ A bd sz rows cs) (len cap:Nat) (loose:Bool) (slack:Nat) (hs:(loose=false->slack=0)/\(loose=true->rows.length+slack<=9223372036854775807)) (hc:(rows.length+slack)*sz<=cs.size)
  (hcap:cap=rows.length+slack) (hlen:len<=rows.length) :
  ∃γ',Rel C A bd (World.add w (.cells cs e (0,0))) γ' (upd hg g.nx (.cells sz rows 0 loose false)) (Nat.max nx (g.nx+1))/\Stp w γ (World.add w (.cells cs e (0,0))) γ' /\
   RV (World.add w (.cells cs e (0,0))) γ' A bd (.hsl g.nx 0 0 len none) (.slice (some (adr w.heap.size 0)) len cap):=by
 obtain⟨γ',k,a,b,j,r5,c,d,f,i⟩:=D9 (sz:=sz) (rows:=rows) (cs:=cs) e hr hf h.2.1 h.2.2 loose slack hs hc;refine⟨γ',k,a,.hsl _ _ _ _ _ _ _ _ _ b (by omega) (by omega) λ_=>⟨d.symm,by rw[f];simp,?_⟩⟩;simp only[iS,c,i];omega
theorem zP{sz:Nat}{parts:Array (Nat×Operand)}{vs:T->List AV}{ev:Operand->Value}
  (hr:Rel C A bd w γ hg nx) (hf:(γ g.nx).kind=0) (hu:C.P.underlying ty=some (.slice e)) (hsz:szT C.P e=some sz) (hz:fS C.P e=some zero)
  (hzl:zero.length=sz) (h0:0<sz) (hsmall:len*sz<=1048576) (hv:RVs w γ A bd (vs t) ((parts.toList.map (·.2)).map ev)) :
  cV C A bd w γ hg nx (Instr.buildSlice ty len (parts.map λ(i,x)=>(i,ev x))) g (ij sz len (fj len zero) (parts.toList.map (·.1)) vs t g):=by
 unfold ij;cases hfl:gM sz (fj len zero) ((parts.toList.map (·.1)).zip (vs t)) with
 |none=>trivial
 | some rows =>
  obtain⟨z,q,f⟩:=nu (w:=w) hz;have j:z.cells.size=sz:=by have:=(nV (w:=w) (γ:=γ) (A:=A) (bd:=bd) f).1.1;simp at this;omega
  have hl:(parts.toList.map (·.1)).length=(vs t).length:=by have:=hv.1;simp at *;omega
  obtain⟨c',a,d,r,s⟩:=DH h0 (c:=gZ z.cells (len*sz)) (n:=len) (uv (ty:=e) (w:=w) (γ:=γ) (A:=A) (bd:=bd) f hzl h0 (TG _)) (by simp[fj]) (nE _ _) hv hfl hl;have he:(parts.map λ(i,x)=>(i,ev x)).toList=(parts.toList.map (·.1)).zip ((parts.toList.map (·.2)).map ev):=by
   rw[Array.toList_map]
   induction parts.toList with
   |nil=>rfl
   |cons p ps ih=>simp[ih]
  have k:(Instr.buildSlice ty len (parts.map λ(i,x)=>(i,ev x))).run C.P w=.ok (.slice (some (adr w.heap.size 0)) len len) (World.add w (.cells c' e (0,0))):=by
   have b:¬(2 ^ 24<len*sz):=by omega
   unfold Instr.buildSlice;rw[he]
   by_cases h:len*sz=0
   ·have e0:gZ z.cells (len*sz)=#[]:=by rw[h];simp[gZ]
    rw[e0]at a;have e1:(Array.range 0).map (λx=>(#[]:Array Value)[x % (#[]:Array Value).size]!)=#[]:=by simp
    simp only[TV,aG hu,TQ,a_ hsz];rw[TN (by omega)];simp only[TV,h,if_true,Un,TQ,e1,a,ig]
   ·have e0:(Array.range (len*sz)).map (λx=>z.cells[x % z.cells.size]!)=gZ z.cells (len*sz):=rfl;simp only[TV,aG hu,TQ,a_ hsz];rw[TN (by omega)];simp only[TV,h,if_false,q,TQ,Un,e0,a,ig]
  obtain⟨γ',l,m,o⟩:=qO (w:=w) e hr hf d len len false 0 ⟨λ_=>rfl,λh=>by cases h⟩ (by rw[Vu];exact d.1) (by omega) (by omega);exact⟨_,_,γ',g.nx,_,k,o,m,.inr ⟨rfl,rfl,l⟩⟩
end
section
variable {ag:Bool}
section
variable {C:Cfg}{A:Nat->Nat->Prop}{bd:Nat}{w:World}{γ:Gm}{hg:Nat->AObj}{nx:Nat}
theorem wQ{lim:Nat}(h:bU lim x=some n)(hv:RV w γ A bd x v):n<=lim/\∃k,v=.int k (n:Int):=by
 unfold bU at h
 split at h
 ·rw[aa]at h
  split at h
  ·rename_i hl;rw[Uw]at hl;injection h with h;subst h;cases hv;exact⟨hl,_,rfl⟩
  ·cases h
 ·cases h
theorem rf(n:Nat)(h:n<9223372036854775808):IntKind.wrap .i64 (n:Int)=(n:Int):=nD n h
theorem Cc{sz:Nat}{l c:T->AV}{vl vc:Value}
  (hr:Rel C A bd w γ hg nx) (hf:(γ g.nx).kind=0) (hu:C.P.underlying ty=some (.slice e)) (hsz:szT C.P e=some sz) (hby:jS C.P e=some bytes) (hz:fS C.P e=some zero)
  (hzl:zero.length=sz) (h0:0<sz) (hl:RV w γ A bd (l t) vl) (hc:RV w γ A bd (c t) vc) :
  cV C A bd w γ hg nx (Instr.makeSlice ty vl vc) g (ic sz bytes zero l c t g):=by
 unfold ic;cases hcn:bU aQ (c t) with
 |none=>trivial
 | some cn =>
  dsimp only;cases hln:bU cn (l t) with
  |none=>trivial
  | some ln =>
   dsimp only;rw[aa]
   split
   ·rename_i k;rw[Uw]at k;obtain⟨c1,kc,rfl⟩:=wQ hcn hc;obtain⟨l1,kl,rfl⟩:=wQ hln hl;obtain⟨z,s,a⟩:=nu (w:=w) hz;have f:z.cells.size=sz:=by have:=(nV (w:=w) (γ:=γ) (A:=A) (bd:=bd) a).1.1;simp at this;omega
    unfold aQ at c1 k;obtain⟨γ',o,p,q⟩:=qO (w:=w) (cs:=gZ z.cells (cn*sz)) e hr hf (uv (ty:=e) (n:=cn) a hzl h0 (TG _)) ln cn false 0 ⟨λ_=>rfl,λh=>by cases h⟩
     (by simp[fj,nE]) (by simp[fj]) (by simpa [fj] using l1)
    refine⟨_,_,γ',g.nx,_,?_,q,p,.inr ⟨rfl,rfl,o⟩⟩;have hi:∃i,C.P.info? e=some i/\i.bytes=bytes:=by
     unfold jS at hby;cases hie:C.P.info? e with
     |none=>rw[hie]at hby;cases hby
     |some i=>rw[hie]at hby;simp at hby;exact⟨i,rfl,hby⟩
    obtain⟨i,j,m⟩:=hi;have w1:=rf ln (by omega);have r:=rf cn (by omega);have b:¬((bytes:Int)*(cn:Int) > 2 ^ 48):=by rw[<-UW,UQ];omega
    have d:¬((bytes:Int)*(ln:Int) > 2 ^ 48):=by have h3:ln*bytes<=cn*bytes:=T2 _ l1;rw[<-UW,UQ];omega
    unfold Instr.makeSlice;simp only[TV,aG hu,TQ,asInt,asIntOf,Un,k_ j,m,w1,r];rw[TN (by simp only[UB,T9,not_or];omega)];simp only[TV,run_askRoom,TQ,a_ hsz,Ux]
    by_cases h:cn*sz=0
    ·have e0:gZ z.cells (cn*sz)=#[]:=by rw[h];simp[gZ]
     have e1:(Array.range 0).map (λx=>(#[]:Array Value)[x % (#[]:Array Value).size]!)=#[]:=by simp
     rw[e0,h];simp only[if_true,TV,Un,TQ,e1,ig]
    ·have e0:(Array.range (cn*sz)).map (λx=>z.cells[x % z.cells.size]!)=gZ z.cells (cn*sz):=rfl;simp only[h,if_false,TV,s,TQ,Un,e0,ig]
   ·trivial
theorem tA{f:Field}{o:Nat}(hn:szT C.P f.type=some (n+1)):(fieldPlace (adr b o) f).run C.P w=.ok (adr b (o+f.offset)) w:=by unfold fieldPlace;simp only[TV,a_ hn,TQ];rw[TN (by omega)];simp[fT]
theorem B7{f fo:Nat}{ft:TypeId}
  (ha:RV w γ A bd (a t) va) (hf:tB C.P ty f=some (fo,ft)) (hn:szT C.P ft=some (n+1)) :
  ValSim C A bd w γ (Instr.fieldAt ty va f) (j8 fo a t g):=by
 unfold tB at hf;cases hu:C.P.underlying ty with
 |none=>rw[hu]at hf;cases hf
 | some d =>
  rw[hu]at hf;cases d with
  | struct fs =>
   dsimp only at hf;cases hx:fs[f]? with
   |none=>rw[hx]at hf;cases hf
   | some x =>
    rw[hx]at hf;injection hf with hf;injection hf with h1 h2;subst h1;subst h2;unfold j8;generalize a t=y at *;cases ha with
    | tptr _ tag sz rows i0 off0 b o cell ht hb hm ha' hrl ho hw h hcl =>
     refine⟨_,?_,.tptr _ tag sz rows i0 (off0+x.offset) b o cell ht hb hm ha' hrl ho hw h hcl⟩;simp[Instr.fieldAt,aG hu,hx,Instr.sureAddr,tA hn,VK]
    | hptr _ id ep i off b o hk he h =>
     refine⟨.pointer (some (adr b (o+x.offset))),?_,.hptr _ id ep i (off+x.offset) b _ hk he λe=>?_⟩
     ·simp[Instr.fieldAt,aG hu,hx,Instr.sureAddr,tA hn]
     ·obtain⟨c1,k⟩:=h e;exact⟨c1,by rw[k];omega⟩
    |_=>trivial
  |_=>cases hf
theorem FS(hc:pg w γ A bd cs c)
  (hag:sj C.P ty=some ag) (hn:szT C.P ty=some n) (h:bT ag n cs off=some x):∃v,(part ty c off).run C.P w=.ok v w/\RV w γ A bd x v:=by
 unfold bT at h;cases ag with
 | false =>
  simp only[dD]at h;have hl:off<c.toList.length:=by rw[<-hc.1.1];exact (TJ.1 h).1
  have k:off<c.size:=by simpa using hl
  refine⟨c[off],?_,hc.1.2 off x _ h (by simp[k])⟩;simp[part,mh hag,k]
 | true =>
  simp only[be,ba,aA,aa]at h
  split at h
  ·rename_i hl;have hl:=aH hl;injection h with h;subst h;have a:cs.length=c.size:=by have:=hc.1.1;simpa using this
   have b:off+n<=c.size\/n=0:=by simp at hl;omega
   refine⟨.agg (c.extract off (off+n)),by simp[part,mh hag,a_ hn],.agg _ _ _ (by rw[hl];simp;omega) (λi y hy=>?_) (λi y v hy hv=>?_)⟩
   ·have hi:i<n:=by rw[<-hl];exact (TJ.1 hy).1
    rw[T7 hi,Um]at hy;exact hc.2 _ _ hy
   ·have hi:i<n:=by rw[<-hl];exact (TJ.1 hy).1
    rw[T7 hi,Um]at hy;rw[Array.getElem?_extract]at hv
    split at hv
    ·exact hc.1.2 _ _ _ hy (by simpa using hv)
    ·cases hv
  ·cases h
theorem Ck(h:RV w γ A bd (.agg cs) v):∃c,v=.agg c/\pg w γ A bd cs c:=by
 cases h with
 |agg _ _ c hl h1 h'=>exact⟨c,rfl,⟨by simpa using hl,λi x v hx hv=>h' i x v hx (by simpa using hv)⟩,h1⟩
theorem JO{f fo:Nat}{ft:TypeId}{y:AV}
  (ha:RV w γ A bd y va) (hf:tB C.P ty f=some (fo,ft)) (hag:sj C.P ft=some ag) (hn:szT C.P ft=some n) :
  ValSim C A bd w γ (Instr.field ty va f) (match y with|.agg cs=>orV (bT ag n cs fo)|_=>.fail):=by
 unfold tB at hf;cases hu:C.P.underlying ty with
 |none=>rw[hu]at hf;cases hf
 | some d =>
  rw[hu]at hf;cases d with
  | struct fs =>
   dsimp only at hf;cases hx:fs[f]? with
   |none=>rw[hx]at hf;cases hf
   | some x =>
    rw[hx]at hf;injection hf with hf;injection hf with h1 h2;subst h1;subst h2;cases y with
    | agg cs =>
     obtain⟨c,rfl,hc⟩:=Ck ha;refine nW λz hz=>?_;obtain⟨v,h1,h2⟩:=FS hc hag hn hz;exact⟨v,by simp[Instr.field,aG hu,hx,asAgg,h1],h2⟩
    |_=>trivial
  |_=>cases hf
theorem AN{k:IntKind}{n:Int}(h:RV w γ A bd (.int k n) v):v=.int k n:=by cases h;rfl
theorem Fo{sz:Nat}(hr:Rel C A bd w γ hg nx)
  (ha:RV w γ A bd (a t) va) (hi:RV w γ A bd (ix t) vi) (hu:C.P.underlying ty=some (.slice e)) (hsz:szT C.P e=some sz)
  (agree:∀id∈an (a t),hg id=g.h.get id) :
  ValSim C A bd w γ (Instr.indexAt ty va vi) (gN sz a ix t g):=by
 unfold gN;generalize a t=y at *;generalize ix t=z at *;cases ha with
 | tsl _ tag sz' rows b o cap cell ht hc hb hm ha' hrl ho hw h hcl =>
  dsimp only
  split
  ·rename_i k i;rw[aa]
   split
   ·rename_i c;simp only[TM,UH,aA]at c;obtain⟨h1,h2⟩:=c;have h1:=aH h1;subst h1;have f:=AN hi;subst f;refine⟨_,?_,.tptr _ tag sz rows i 0 b o cell ht hb hm ha' hrl ho hw h hcl⟩;simp[Instr.indexAt,asIntOf,aG hu,h2,a_ hsz,fT]
   ·trivial
  ·trivial
 | tnil _ tag sz' a' cap ht =>
  dsimp only
  split
  ·rename_i k i;rw[aa]
   split
   ·rename_i c;simp[aA]at c
   ·trivial
  ·trivial
 | hsl _ id ep off len lim b o cap hk he hc h =>
  have d:=agree id (by simp[an]);dsimp only
  split
  ·rename_i k i;simp only[G.get_eq,<-d];cases hid:hg id with
   | cells sz' rows ep' loose fz =>
    dsimp only;rw[aa]
    split
    ·rename_i c;simp only[TM,UH]at c;obtain⟨⟨h1,h2⟩,h3⟩:=c;have h1:=aH h1;have h2:=aH h2;subst h2;have f:=AN hi;subst f;have j:=hr.obj id;rw[hid]at j;obtain⟨n,k2,m,_⟩:=j;obtain⟨c1,l,_⟩:=h (h1.trans k2.symm);refine⟨.pointer (some (adr b (o+i*sz))),?_,.hptr _ id ep (off+i) 0 b _ hk he λ_=>⟨c1,?_⟩⟩
     ·simp[Instr.indexAt,asIntOf,aG hu,h3,a_ hsz,fT]
     ·rw[l,m,Ub];omega
    ·trivial
   |_=>trivial
  ·trivial
 |_=>trivial
theorem Fn{sz:Nat}
  (ha:RV w γ A bd (a t) va) (hi:RV w γ A bd (ix t) vi) (hu:C.P.underlying ty=some (.array n e)) (hsz:szT C.P e=some sz) :
  ValSim C A bd w γ (Instr.indexAt ty va vi) (nf n sz a ix t g):=by
 unfold nf;generalize a t=y at *;generalize ix t=z at *
 split
 ·rename_i k i;rw[aa]
  split
  ·rename_i hlt;rw[UH]at hlt;have c:=AN hi;subst c;have h2:=hlt;cases ha with
   | tptr _ tag sz' rows i0 off0 b o cell ht hb hm ha' hrl ho hw h hcl =>
    refine⟨_,?_,.tptr _ tag sz' rows i0 (off0+i*sz) b o cell ht hb hm ha' hrl ho hw h hcl⟩;simp[Instr.indexAt,asIntOf,aG hu,h2,a_ hsz,fT,Instr.sureAddr,VK]
   | hptr _ id ep j off b o hk he h =>
    refine⟨.pointer (some (adr b (o+i*sz))),?_,.hptr _ id ep j (off+i*sz) b _ hk he λe=>?_⟩
    ·simp[Instr.indexAt,asIntOf,aG hu,h2,a_ hsz,fT,Instr.sureAddr]
    ·obtain⟨c1,d⟩:=h e;exact⟨c1,by rw[d];omega⟩
   |_=>trivial
  ·trivial
 ·trivial
theorem JV{sz:Nat}
  (ha:RV w γ A bd (a t) va) (hi:RV w γ A bd (ix t) vi) (hu:C.P.underlying ty=some (.array n e)) (hag:sj C.P e=some ag) (hsz:szT C.P e=some sz) :
  ValSim C A bd w γ (Instr.index ty va vi) (vE ag n sz a ix t g):=by
 unfold vE;generalize a t=y at *;generalize ix t=z at *;cases y with
 | agg cs =>
  dsimp only
  split
  ·rename_i k i;rw[aa]
   split
   ·rename_i hlt;rw[UH]at hlt;have h:=AN hi;subst h;have h2:=hlt;obtain⟨c,rfl,hc⟩:=Ck ha;refine nW λx hx=>?_;obtain⟨v,h1,h3⟩:=FS hc hag hsz hx;exact⟨v,by simp[Instr.index,asIntOf,aG hu,h2,a_ hsz,h1],h3⟩
   ·trivial
  ·trivial
 |_=>trivial
theorem DU
  (ha:RV w γ A bd (a t) va) (hi:RV w γ A bd (ix t) vi) (hu:C.P.underlying ty=some .string) :
  ValSim C A bd w γ (Instr.index ty va vi) (pY a ix t g):=by
 unfold pY;generalize a t=y at *;generalize ix t=z at *;cases ha with
 | str _ s =>
  dsimp only
  split
  ·rename_i k i;simp only[dD];cases hb:s.data.toList[i]? with
   |none=>trivial
   | some b =>
    have c:=AN hi;subst c;refine⟨.int .u8 b.toNat,?_,.int _ _ _⟩;have hlt:i<s.size:=by have:=(TJ.1 hb).1;simpa using this
    have h:s[i]?=some b:=by rw[getElem?_pos s i hlt];have:=(TJ.1 hb).2;rw[Array.getElem_toList]at this;exact congrArg some this
    simp[Instr.index,asIntOf,aG hu,h]
  ·trivial
 |_=>trivial
end
end
section
variable {C:Cfg}{A:Nat->Nat->Prop}{bd:Nat}{w w':World}{γ γ':Gm}{hg:Nat->AObj}{nx:Nat}
def RowsAt(w:World)(γ:Gm)(A:Nat->Nat->Prop)(bd sz:Nat)(rows:List (List AV))(b o:Nat):Prop :=
 (∀(i:Nat) row,rows[i]?=some row->row.length=sz) /\
 ∀(i j:Nat) row x,rows[i]?=some row->row[j]?=some x->x.one=true/\∃v,w.cell? (adr b (o+i*sz+j))=some v/\RV w γ A bd x v
theorem C7{sz k:Nat}(hr:∀(i:Nat) row,rows[i]?=some row->row.length=sz)(hk:k<rows.length*sz) :
  ∃row x,rows[k / sz]?=some row/\row[k % sz]?=some x:=by
 have h0:0<sz:=by
  rcases WY sz with h|h
  ·subst h;simp at hk
  ·exact h
 have hi:k / sz<rows.length:=by rw[Nat.div_lt_iff_lt_mul h0];exact hk
 have e:=TH hi;have hl:=hr _ _ e;have a:k % sz<rows[k / sz].length:=by rw[hl];exact US _ h0
 exact⟨_,_,e,TH a⟩
theorem AW{sz o:Nat}(h:RowsAt w γ A bd sz rows b o)(P:Program) :
  ∃c,(loadCells (adr b o) (rows.length*sz)).run P w=.ok c w/\c.size=rows.length*sz/\RowsRel w γ A bd sz rows c:=by
 have n:∀k:Fin (rows.length*sz),∃v,w.cell? (adr b (o+k.1))=some v/\∀row x,rows[k.1 / sz]?=some row->row[k.1 % sz]?=some x->x.one=true/\RV w γ A bd x v:=by
  intro k;obtain⟨row,x,h1,h2⟩:=C7 h.1 k.2;obtain⟨a,v,c1,q⟩:=h.2 _ _ row x h1 h2;refine⟨v,?_,λrow' x' d e=>?_⟩
  ·have:o+k.1 / sz*sz+k.1 % sz=o+k.1:=by rw[VK,UQ,UI]
   rw[<-this];exact c1
  ·rw[h1]at d;injection d with d;subst d;rw[h2]at e;injection e with e;subst e;exact⟨a,q⟩
 let f:Fin (rows.length*sz)->Value:=λk=>Classical.choose (n k)
 have hf:=λk=>Classical.choose_spec (n k);have l:(List.ofFn f).length=rows.length*sz:=by simp
 have m:=uM (P:=P) (w:=w) (b:=b) (o:=o) (cs:=List.ofFn f) (λj c hc=>by
  have p:j<rows.length*sz:=by rw[<-l];exact (TJ.1 hc).1
  rw[List.getElem?_ofFn]at hc;simp[p]at hc;rw[<-hc];exact (hf ⟨j,p⟩).1)
 rw[l]at m;refine⟨_,m,by simp,by simp,h.1,λi j row x h1 h2=>?_⟩;have hi:i<rows.length:=(TJ.1 h1).1;have p:j<sz:=by rw[<-h.1 i row h1];exact (TJ.1 h2).1
 have hk:i*sz+j<rows.length*sz:=by have:(i+1)*sz<=rows.length*sz:=T2 _ hi;rw[Ub,UN]at this;omega
 have e1:(i*sz+j) / sz=i:=by rw[VM,VH _ _ (by omega),UO p];omega
 obtain⟨a,b'⟩:=(hf ⟨i*sz+j,hk⟩).2 row x (by rw[e1];exact h1) (by rw[IG p];exact h2);exact⟨a,f ⟨i*sz+j,hk⟩,by simp[hk],b'⟩
theorem RowsAt.sub{sz o:Nat}(h:RowsAt w γ A bd sz rows b o)(l n:Nat):RowsAt w γ A bd sz ((rows.drop l).take n) b (o+l*sz):=by
 refine⟨λi row hi=>?_,λi j row x hi hj=>?_⟩
 ·have k:i<n:=by have:=(TJ.1 hi).1;simp at this;omega
  rw[T7 k,Um]at hi;exact h.1 _ _ hi
 ·have k:i<n:=by have:=(TJ.1 hi).1;simp at this;omega
  rw[T7 k,Um]at hi;obtain⟨a,v,c1,c⟩:=h.2 _ _ row x hi hj;exact⟨a,v,by rw[show o+l*sz+i*sz+j=o+(l+i)*sz+j from by rw[Ub];omega];exact c1,c⟩
theorem A9(hr:Rel C A bd w γ hg nx){id sz:Nat}{fz:Bool}(hid:hg id=.cells sz rows ep loose fz) :
  RowsAt w γ A bd sz rows (γ id).blk (γ id).base:=by
 have h:=hr.obj id;rw[hid]at h;obtain⟨b,k2,d,f,l,m,c,e,n,o,a,k⟩:=h;exact⟨a,λi j row x h1 h2=>uh hr hid h1 j x h2⟩
theorem Ho(hr:Rel C A bd w γ hg nx){sz:Nat}{h:H}(hx:RV w γ A bd x v)
  (hrow:ak h sz x=some rows) (agree:∀id∈an x,hg id=h.get id) :
  ∃b o cap,(v=.slice none 0 0/\rows=[]\/v=.slice (some (adr b o)) rows.length cap\/(∃a,v=.slice (some a) 0 cap)/\rows=[])/\RowsAt w γ A bd sz rows b o:=by
 unfold ak at hrow;cases hx with
 |nils=>injection hrow with hrow;subst hrow;exact⟨0,0,0,.inl ⟨rfl,rfl⟩,λi row h=>by simp at h,λi j row x h=>by simp at h⟩
 |esl _ a=>injection hrow with hrow;subst hrow;exact⟨0,0,0,.inr (.inr ⟨⟨a,rfl⟩,rfl⟩),λi row h=>by simp at h,λi j row x h=>by simp at h⟩
 | tnil _ tag sz' a cap ht =>
  simp only[aa]at hrow
  split at hrow
  ·injection hrow with hrow;subst hrow;exact⟨0,0,cap,.inr (.inr ⟨⟨a,rfl⟩,rfl⟩),λi row h=>by simp at h,λi j row x h=>by simp at h⟩
  ·cases hrow
 | tsl _ tag sz' rows' b o cap cell ht hc hb hm ha hrl ho hw h =>
  simp only[aa]at hrow
  split at hrow
  ·rename_i hcond;injection hrow with hrow;subst hrow;refine⟨b,o,cap,.inr (.inl rfl),?_⟩;simp only[UB]at hcond;rcases hcond with hcond|hcond
   ·have:=aH hcond;subst this;exact⟨hrl,λi j row x h1 h2=>⟨ho i j row x h1 h2,_,hw i j row x h1 h2,(h i j row x h1 h2).mono ht⟩⟩
   ·have:rows'=[]:=by cases rows'<;>simp_all
    subst this;exact⟨λi row h=>by simp at h,λi j row x h=>by simp at h⟩
  ·cases hrow
 | hsl _ id ep off len lim b o cap hk he hc h =>
  have k:=agree id (by simp[an]);dsimp only at hrow;rw[<-k]at hrow;cases hid:hg id with
  | cells sz' rows' ep' loose fz =>
   rw[hid]at hrow;simp only[aa,aA,be,ba]at hrow
   split at hrow
   ·rename_i hcond;simp only[TM,Uw]at hcond;obtain⟨⟨h1,h2⟩,h3⟩:=hcond;have h1:=aH h1;have h2:=aH h2;subst h2;injection hrow with hrow;subst hrow;have c:=hr.obj id;rw[hid]at c;obtain⟨f,k2,e,_⟩:=c;obtain⟨c1,d,_⟩:=h (h1.trans k2.symm);refine⟨b,o,cap,.inr (.inl ?_),?_⟩
    ·simp;omega
    ·rw[c1,d,e];exact (A9 hr hid).sub off len
   ·cases hrow
  |_=>rw[hid]at hrow;cases hrow
 |_=>cases hrow
theorem RowsRel.append{sz:Nat}{r1 r2:List (List AV)}{c1 c2:Array Value}(h1:RowsRel w γ A bd sz r1 c1)(e1:c1.size=r1.length*sz)(h2:RowsRel w γ A bd sz r2 c2) :
  RowsRel w γ A bd sz (r1++r2) (c1++c2):=by
 refine⟨by have:=h2.1;simp[Ub];omega,λi row hi=>?_,λi j row x hi hj=>?_⟩
 ·rw[Wb]at hi
  split at hi
  ·exact h1.2.1 _ _ hi
  ·exact h2.2.1 _ _ hi
 ·rw[Wb]at hi
  split at hi
  ·rename_i hlt;obtain⟨a,v,b1,b2⟩:=h1.2.2 i j row x hi hj;have h:=(UR.1 b1).1;exact⟨a,v,by rw[U3 h];exact b1,b2⟩
  ·rename_i k;obtain⟨a,v,b1,b2⟩:=h2.2.2 _ j row x hi hj;have:i*sz=r1.length*sz+(i - r1.length)*sz:=by rw[<-Ub];congr 1;omega
   refine⟨a,v,?_,b2⟩;rw[Array.getElem?_append_right (by omega),<-b1];congr 1;omega
theorem RowsRel.more{sz:Nat}{r1:List (List AV)}{c1 c2:Array Value}(h1:RowsRel w γ A bd sz r1 c1):RowsRel w γ A bd sz r1 (c1++c2):=by refine⟨by have:=h1.1;simp;omega,h1.2.1,λi j row x hi hj=>?_⟩;obtain⟨a,v,b1,b2⟩:=h1.2.2 i j row x hi hj;have h:=(UR.1 b1).1;exact⟨a,v,by rw[U3 h];exact b1,b2⟩
theorem RowsRel.step{sz:Nat}{r1:List (List AV)}{c1:Array Value}(h1:RowsRel w γ A bd sz r1 c1)(s:Stp w γ w' γ'):RowsRel w' γ' A bd sz r1 c1 :=
 ⟨h1.1,h1.2.1,λi j row x hi hj=>let ⟨a,v,b1,b2⟩:=h1.2.2 i j row x hi hj;⟨a,v,b1,b2.step s⟩⟩
theorem RowsRel.flat{sz:Nat}(h:RowsRel w γ A bd sz rows c)(e:c.size=rows.length*sz) :
  RVs w γ A bd rows.flatten c.toList/\(∀(i:Nat) y,rows.flatten[i]?=some y->y.one=true) /\
  (∀(i j:Nat) row,rows[i]?=some row->j<sz->rows.flatten[i*sz+j]?=row[j]?):=by
 have f:rows.flatten.length=rows.length*sz:=by
  have h2:=h.2.1;clear e h
  induction rows with
  |nil=>simp
  | cons r rs ih =>
   have h0:=h2 0 r rfl;simp only[VE,Vl,Uq,Ub,UN];rw[ih (λi row hi=>h2 (i+1) row (by simpa using hi)),h0];omega
 have d:∀(i j:Nat) row,rows[i]?=some row->j<sz->rows.flatten[i*sz+j]?=row[j]?:=by
  have h2:=h.2.1;clear e f h
  induction rows with
  |nil=>intro i j row hi;simp at hi
  | cons r rs ih =>
   intro i j row hi m;have h0:=h2 0 r rfl;cases i with
   |zero=>simp at hi;subst hi;simp only[VE,WP,Uy];rw[T5 (by omega)]
   | succ i =>
    simp only[VE];rw[Ub,UN,T0 (by omega),h0,show i*sz+sz+j - sz=i*sz+j from by omega];exact ih (λi row hi=>h2 (i+1) row (by simpa using hi)) i j row (by simpa using hi) m
 have b:∀(k:Nat) y,rows.flatten[k]?=some y->∃row,rows[k / sz]?=some row/\row[k % sz]?=some y/\k / sz*sz+k % sz=k:=by
  intro k y l;have hk:k<rows.length*sz:=by rw[<-f];exact (TJ.1 l).1
  obtain⟨row,x,h1,h2⟩:=C7 h.2.1 hk;have h0:0<sz:=by
   rcases WY sz with h|h
   ·subst h;simp at hk
   ·exact h
  have ek:k / sz*sz+k % sz=k:=by rw[UQ,UI]
  have:=d _ _ row h1 (US k h0);rw[ek,l]at this;exact⟨row,h1,this.symm,ek⟩
 refine⟨⟨by rw[f];simp[e],λk y v l hv=>?_⟩,λk y l=>?_,d⟩
 ·obtain⟨row,h1,h2,h3⟩:=b k y l;obtain⟨a,u,b1,b2⟩:=h.2.2 _ _ row y h1 h2;rw[h3]at b1;simp only[WG]at hv;rw[hv]at b1;injection b1 with b1;subst b1;exact b2
 ·obtain⟨row,h1,h2,h3⟩:=b k y l;exact (h.2.2 _ _ row y h1 h2).1
end
section
variable {C:Cfg}{A:Nat->Nat->Prop}{bd:Nat}{w w':World}{γ γ':Gm}{hg:Nat->AObj}{nx:Nat}
def World.drewn(w:World):World:={ w with drawn:=w.drawn+1 }
theorem yg:Stp w γ (World.drewn w) γ :=
 ⟨TG _,rfl,rfl,rfl,λ_ _ _=>rfl,λ_ _ h=>h,λ_ _=>.inl ⟨rfl,rfl⟩,λ_ _=>⟨TG _,λ_=>⟨rfl,rfl,rfl,rfl,rfl⟩⟩,VF _⟩
theorem Rel.stpSame(h:Rel C A bd w γ hg nx)(s:Stp w γ w' γ)(hh:w'.heap=w.heap):Rel C A bd w' γ hg nx where
 obj id:=(h.obj id).step s rfl (λ_ _=>by rw[hh])
 lt id hk:=by rw[hh];exact h.lt id hk
 inj:=h.inj
 av:=h.av
 ab t b hb:=by rw[hh];exact h.ab t b hb
 glob g sz rows hg:=(h.glob g sz rows hg).step s
theorem za(need cap:Nat)(h:cap<need):Builtin.nextslicecap need cap<=2*need+192:=by
 have grow:∀(r c:Nat),c<=2*need+192->Builtin.growBy need r c<=2*need+192:=by
  intro r
  induction r with
  |zero=>intro c hc;exact hc
  | succ r ih =>
   intro c hc;simp only[Builtin.growBy]
   split
   ·exact hc
   ·exact ih _ (by omega)
 unfold Builtin.nextslicecap
 split
 ·omega
 ·split
  ·omega
  ·exact grow _ _ (by omega)
theorem MG:∀{vs:List Value} {as:List AV},zb vs=some as->vs.length=as.length:=by
 intro vs
 induction vs with
 |nil=>intro as h;simp[zb]at h;subst h;rfl
 | cons v vs ih =>
  intro as h;simp only[zb]at h
  split at h
  ·rename_i a as' h1 h2;injection h with h;subst h;simp[ih h2]
  ·cases h
structure Src (C:Cfg) (A:Nat->Nat->Prop) (bd sz:Nat) (w:World) (γ:Gm) (new:List (List AV)) (m:Sem (Array Value)):Prop where
 run:∀w1:World,w1.heap=w.heap->∃c,m.run C.P w1=.ok c w1/\c.size=new.length*sz/\RowsRel w γ A bd sz new c
def iT(e:TypeId)(sz bytes:Nat)(base:Option Addr)(sLen sCap n:Nat)(gZ:Bool)(s x:Value)(appended:Sem (Array Value)):Sem Value:=do
 let need:=sLen+n
 if need<=sCap then
  let new <-appended
  if let some a:=base then storeCells (a.add (sLen*sz)) new.toList
  pure (.slice base need sCap)
 else
  if (need : Int) > IntKind.i64.max ∧ (gZ ∨ (← typeInfo e).bytes = 0) then runtimePanic (.error "growslice: len out of range")
  if Builtin.nextslicecap need sCap * (← typeInfo e).bytes > 2 ^ 48 then (if gZ then runtimePanic (.error "growslice: len out of range") else do
   if !(<-Builtin.mayShare sz sLen n base x) then mark .noRoom
   unsupported (.resourceLimit "append: a slice or a string whose bytes no memory bears"))
  let newCap <-choose (.appendCap need sCap e)
  askRoom (newCap*(<-typeInfo e).bytes)
  let old <-Builtin.firstCells sz sLen s
  let new <-appended
  let rest:=Builtin.zeroCells (<-zeroValue e).cells (newCap - need)
  pure (.slice (some (<-newRow e (old++new++rest))) need newCap)
theorem qg{sz:Nat}{base:Option Addr}{sLen sCap:Nat}{zs:Bool}{s x:Value}{appended:Sem (Array Value)}
  (hby:jS C.P e=some bytes) (hz:fS C.P e=some zero) (hzl:zero.length=sz) (h0:0<bytes) (hroom:(sLen+n)*bytes<=aQ) (hn:¬sLen+n<=sCap)
  {oldc newc:Array Value} (hold:(Builtin.firstCells sz sLen s).run C.P (World.drewn w)=.ok oldc (World.drewn w))
  (hnew:appended.run C.P (World.drewn w)=.ok newc (World.drewn w)) :
  ∃newCap rest,(sLen+n<=newCap/\newCap<=9223372036854775807)/\rest.size=(newCap - (sLen+n))*sz /\
   (iT e sz bytes base sLen sCap n zs s x appended).run C.P w =
    .ok (.slice (some (adr w.heap.size 0)) (sLen+n) newCap) (World.add (World.drewn w) (.cells (oldc++newc++rest) e (0,0))):=by
 have hi:∃i,C.P.info? e=some i/\i.bytes=bytes:=by
  unfold jS at hby;cases hie:C.P.info? e with
  |none=>rw[hie]at hby;cases hby
  |some i=>rw[hie]at hby;simp at hby;exact⟨i,rfl,hby⟩
 obtain⟨i,j,m⟩:=hi;obtain⟨z,r,t⟩:=nu (w:=World.drewn w) hz;have f:z.cells.size=sz:=by have:=MG t;simp at this;omega
 unfold aQ at hroom;have p:sLen+n<=(sLen+n)*bytes:=Nat.le_mul_of_pos_right _ h0;have d:=za (sLen+n) sCap (by omega);have o:Builtin.nextslicecap (sLen+n) sCap*bytes<=2 ^ 48:=by
  have h1:Builtin.nextslicecap (sLen+n) sCap*bytes<=(2*(sLen+n)+192)*bytes:=T2 _ d;have h2:bytes<=(sLen+n)*bytes:=Nat.le_mul_of_pos_left _ (by omega);have h3:(2*(sLen+n)+192)*bytes=2*((sLen+n)*bytes)+192*bytes:=by rw[Ub,Wi]
  omega
 let q:Question:=.appendCap (sLen+n) sCap e
 let newCap:=q.cut (w.tape w.drawn q)
 have k:sLen+n<=newCap/\newCap<=9223372036854775807:=by have l:w.tape w.drawn q % (2 ^ 63 - (sLen+n))<2 ^ 63 - (sLen+n):=US _ (by omega);have:newCap=(sLen+n)+w.tape w.drawn q % (2 ^ 63 - (sLen+n)):=rfl;omega
 refine⟨newCap,Builtin.zeroCells z.cells (newCap - (sLen+n)),k,by simp[Builtin.zeroCells,f],?_⟩;unfold iT;have a:¬(((sLen+n:Nat):Int) > IntKind.i64.max):=by
  have:IntKind.i64.max=9223372036854775807:=by decide
  rw[this];omega
 have b:(choose (.appendCap (sLen+n) sCap e)).run C.P w=.ok newCap (World.drewn w):=by rw[run_choose];rfl
 have c:¬(Builtin.nextslicecap (sLen+n) sCap*bytes > 2 ^ 48):=by omega
 dsimp only;rw[TN hn];simp only[TV,k_ j,TQ,m];rw[TN (λh=>a h.1)];simp only[TQ,TV,k_ j,m];rw[TN c];simp only[TV,Un,TQ,b,k_ j,run_askRoom,hold,hnew,r,ig]
 rfl
theorem sn{sz:Nat}{base:Option Addr}{sLen sCap:Nat}{zs:Bool}{s x:Value}{appended:Sem (Array Value)}
  (hn:sLen+n<=sCap) {newc:Array Value} (hnew:appended.run C.P w=.ok newc w) :
  (iT e sz bytes base sLen sCap n zs s x appended).run C.P w =
   match base with
   |none=>.ok (.slice none (sLen+n) sCap) w
   |some a=>((storeCells (a.add (sLen*sz)) newc.toList).run C.P w).andThen λ_ w'=>.ok (.slice (some a) (sLen+n) sCap) w':=by
 unfold iT;dsimp only;rw[TO hn];simp only[TV,hnew,TQ];cases base with
 |none=>simp
 |some a=>simp
theorem tH(hr:Rel C A bd w γ hg nx){id sz:Nat}{lim:Option Nat}{fz:Bool}
  (hv:RV w γ A bd (.hsl id ep off len lim) v) (hid:hg id=.cells sz rows ep loose fz) :
  ∃cap,v=.slice (some (adr (γ id).blk ((γ id).base+off*sz))) len cap/\len<=cap/\iS lim off cap (γ id):=by
 cases hv with
 | hsl _ _ _ _ _ _ b o cap hk he hc h =>
  have k:=hr.obj id;rw[hid]at k;obtain⟨e,k2,d,_⟩:=k;obtain⟨c1,a,c⟩:=h k2.symm;exact⟨cap,by rw[c1,a,d],hc,c⟩
theorem tD{o cap sz:Nat}(h:RowsAt w γ A bd sz rows b o)(hl:rows.length=len) :
  ∃c,(Builtin.firstCells sz len (.slice (some (adr b o)) len cap)).run P w=.ok c w/\c.size=rows.length*sz/\RowsRel w γ A bd sz rows c:=by
 obtain⟨c,h1,h2,h3⟩:=AW h P;exact⟨c,by simp only[Builtin.firstCells];rw[<-hl];exact h1,h2,h3⟩
theorem RowsAt.same{sz o:Nat}(h:RowsAt w γ A bd sz rows b o)(s:Stp w γ w' γ)(hh:w'.heap=w.heap):RowsAt w' γ A bd sz rows b o :=
 ⟨h.1,λi j row x h1 h2=>let ⟨a,v,c,d⟩:=h.2 i j row x h1 h2;⟨a,v,by rw[zf (w:=w) (w':=w') (by rw[hh])];exact c,d.step s⟩⟩
theorem RowsRel.back{sz:Nat}(h:RowsRel (World.drewn w) γ A bd sz rows c):RowsRel w γ A bd sz rows c:=by obtain⟨h1,h2,h3⟩:=h;exact⟨h1,h2,λi j row x a b=>let ⟨c,v,d,e⟩:=h3 i j row x a b;⟨c,v,d,e.heap rfl⟩⟩
theorem xW{sz:Nat}{cs:Array Value}(hr:Rel C A bd w γ hg nx)(hf:(γ g.nx).kind=0)
  (h:RowsRel w γ A bd sz rows cs) (len cap:Nat) (hc:cap*sz<=cs.size) (hcap:rows.length<=cap) (hlen:len=rows.length) (hmax:cap<=9223372036854775807) :
  ∃γ',Rel C A bd (World.add (World.drewn w) (.cells cs e (0,0))) γ' (upd hg g.nx (.cells sz rows 0 true false)) (Nat.max nx (g.nx+1)) /\
   Stp w γ (World.add (World.drewn w) (.cells cs e (0,0))) γ' /\
   RV (World.add (World.drewn w) (.cells cs e (0,0))) γ' A bd (.hsl g.nx 0 0 len none) (.slice (some (adr w.heap.size 0)) len cap):=by
 have a:Stp w γ (World.drewn w) γ:=yg;have k:=hr.stpSame a rfl;obtain⟨γ',b,c,d⟩:=qO (w:=World.drewn w) e k hf (h.step a) len cap true (cap - rows.length) ⟨λh=>(by cases h),λ_=>(by omega)⟩
  (by rw[show rows.length+(cap - rows.length)=cap from by omega];exact hc) (by omega) (by omega)
 exact⟨γ',b,a.trans c,d⟩
theorem Rel.moved(hr:Rel C A bd w γ hg nx){id:Nat}{sz:Nat}{rows':List (List AV)}(hid:hg id=.cells sz rows ep loose false)
  {w1:World} {gh:Gh} (h1:gh.kind=1) (h2:gh.ep=ep+1) (h3:gh.sz=sz) (h4:gh.n=rows'.length) (h5:gh.wr=true)
  (hos:w1.os=w.os/\w1.tape=w.tape/\w1.output=w.output/\w.heap.size<=w1.heap.size) (hdr:w.drawn<=w1.drawn)
  (hmax:rows'.length+gh.slack<=9223372036854775807) (hb:gh.blk=(γ id).blk\/(gh.blk=w.heap.size/\w.heap.size<w1.heap.size))
  (hheap:∀b,b<w.heap.size->b≠(γ id).blk->w1.heap[b]?=w.heap[b]?)
    (hc:w1.heap[gh.blk]?=some (.cells c e (0,0))) (hsz:gh.base+(rows'.length+gh.slack)*sz<=c.size)
  (hrl:∀(i:Nat) row,rows'[i]?=some row->row.length=sz)
  (hcell:∀(i j:Nat) row x,rows'[i]?=some row->row[j]?=some x->x.one=true/\∃v,c[gh.base+i*sz+j]?=some v/\RV w γ A bd x v) :
  Rel C A bd w1 (upd γ id gh) (upd hg id (.cells sz rows' (ep+1) true false)) nx/\Stp w γ w1 (upd γ id gh):=by
 have k:=hr.obj id;rw[hid]at k;obtain⟨f,k2,r,u,y,o,_⟩:=k;have hk:(γ id).kind≠0:=by rw[f];decide
 have hw:(γ id).wr=true:=by simpa using o
 have hlt:=hr.lt id hk;have s:Stp w γ w1 (upd γ id gh):=by
  refine⟨hos.2.2.2,hos.1,hos.2.1,hos.2.2.1,λb hb' hm=>hheap b hb' (λe=>hm ⟨id,hk,hw,e.symm⟩),λb hb'=>?_,λj hj=>?_,λj hj=>?_,hdr⟩
  ·rintro⟨j,l,m,d⟩
   by_cases hj:j=id
   ·subst hj;simp only[upd_same]at d;rcases hb with hb|hb
    ·exact⟨j,hk,hw,by rw[<-hb];exact d⟩
    ·omega
   ·rw[bZ _ _ hj]at l m d;exact⟨j,l,m,d⟩
  ·by_cases hji:j=id
   ·subst hji;rw[upd_same];exact .inr ⟨f,h1,by rw[h2,k2];omega⟩
   ·rw[bZ _ _ hji];exact .inl ⟨rfl,rfl⟩
  ·by_cases hji:j=id
   ·subst hji;rw[upd_same,h2,k2];exact⟨by omega,λh=>by omega⟩
   ·rw[bZ _ _ hji];exact⟨TG _,λ_=>⟨rfl,rfl,rfl,rfl,rfl⟩⟩
 refine⟨hr.set rfl s (TG _) ?_ ⟨hlt.1,?_⟩ (λj hj hkj e=>?_) ?_ (λj hj hkj _=>?_),s⟩
 ·simp only[ObjRel,upd_same];refine⟨h1,h2,h3,h4,⟨λh=>(by cases h),λ_=>hmax⟩,by rw[h5];rfl,c,e,hc,hsz,hrl,λi j row x a b=>?_⟩;obtain⟨p,v,q,q2⟩:=hcell i j row x a b;exact⟨p,v,q,q2.step s⟩
 ·rcases hb with hb|hb
  ·rw[hb];omega
  ·omega
 ·rcases hb with hb|hb
  ·exact hj (hr.inj j id hkj hk (by rw[e,hb]))
  ·have:=(hr.lt j hkj).2;omega
 ·rcases hb with hb|hb
  ·rw[hb];exact hr.av id hk
  ·exact λt ht=>by have:=hr.ab t _ ht;omega
 ·exact hheap _ (hr.lt j hkj).2 (λe=>hj (hr.inj j id hkj hk e))
end
section
variable {new:List (List AV)}
section
variable {C:Cfg}{A:Nat->Nat->Prop}{bd:Nat}{w w':World}{γ γ':Gm}{hg:Nat->AObj}{nx:Nat}
theorem jD(a:Addr):(storeCells a []).run P w=.ok () w:=rfl
theorem FV(h:off+new.length<=rows.length) :
  (jA rows off new).length=rows.length/\∀i,(jA rows off new)[i]?=if off<=i/\i<off+new.length then new[i - off]? else rows[i]?:=by
 unfold jA;simp only[g7,be,ba,aA]
 split
 ·rename_i r;refine⟨by simp,λi=>?_⟩;simp only[Uq,Vq]at h ⊢;rw[Vi]
  by_cases hi:off=i
  ·subst hi;rw[TO rfl,TO (by omega),TO (by omega)];simp
  ·rw[TN hi,TN (by omega)]
 ·refine⟨by simp;omega,λi=>?_⟩
  by_cases h1:i<off
  ·rw[TN (by omega),T5 (by simp;omega),T7 h1]
  ·rw[T0 (by simp;omega)];simp only[T_,UP (show off<=rows.length by omega)]
   by_cases h2:i<off+new.length
   ·rw[TO ⟨by omega,h2⟩,T5 (by omega)]
   ·rw[TN (by omega),T0 (by omega),Um];congr 1;omega
theorem Rel.storeRows(hr:Rel C A bd w γ hg nx){id sz:Nat}(hid:hg id=.cells sz rows ep loose false)
   (hc:RowsRel w γ A bd sz new c) (hcs:c.size=new.length*sz) (hle:off+new.length<=rows.length) (P:Program) :
  ∃w',(Go.storeCells (adr (γ id).blk ((γ id).base+off*sz)) c.toList).run P w=.ok () w' /\
   Rel C A bd w' γ (upd hg id (.cells sz (jA rows off new) ep loose false)) nx/\Stp w γ w' γ:=by
 obtain⟨n,f⟩:=FV hle;have a:=hr.obj id;rw[hid]at a;obtain⟨p,k2,q,r,s,t,cc,e,u,v,d,m⟩:=a;obtain⟨f1,f2,l⟩:=hc.flat hcs;have hcl:c.toList.length=new.length*sz:=by simp[hcs]
 have k:(off+new.length)*sz<=rows.length*sz:=T2 _ hle;rw[Ub]at k;refine hr.storeCells hid (o:=(γ id).base+off*sz) (xs:=new.flatten) f1 f2 n (λi row hi=>?_) ⟨by omega,by omega⟩ (λi j row x hi hj=>?_) P
 ·rw[f]at hi
  split at hi
  ·exact hc.2.1 _ _ hi
  ·exact d _ _ hi
 ·rw[f]at hi;rw[hcl];have b:j<sz:=by
   have hl:row.length=sz:=by
    split at hi
    ·exact hc.2.1 _ _ hi
    ·exact d _ _ hi
   rw[<-hl];exact (TJ.1 hj).1
  by_cases hcond:off<=i/\i<off+new.length
  ·rw[TO hcond]at hi;have h1:off*sz<=i*sz:=T2 _ hcond.1;have h2:(i+1)*sz<=(off+new.length)*sz:=T2 _ hcond.2;rw[Ub,UN,Ub]at h2;rw[TO (by omega)];have h3:(i - off)*sz+off*sz=i*sz:=by rw[<-Ub];congr 1;omega
   rw[show (γ id).base+i*sz+j - ((γ id).base+off*sz)=(i - off)*sz+j from by omega,l _ _ row hi b];exact hj
  ·rw[TN hcond]at hi;rw[TN]
   ·exact⟨row,hi,hj⟩
   ·rintro⟨l1,l2⟩;apply hcond;refine⟨?_,?_⟩
    ·rcases Vn i off with h|h
     ·have:(i+1)*sz<=off*sz:=T2 _ h;rw[Ub,UN]at this;omega
     ·exact h
    ·rcases Vn i (off+new.length) with h|h
     ·exact h
     ·have:(off+new.length)*sz<=i*sz:=T2 _ h;rw[Ub]at this;omega
theorem Nw(h:off+len<=rows.length):((rows.drop off).take len).length=len:=by simp;omega
noncomputable def zH(sz bytes:Nat)(s0:AV)(new:List (List AV))(g:G):OR :=
 match new with
 |[]=>.val s0
 |_=>ay (Nat.ble (bj new*bytes) aQ) (.upd (.hsl g.nx 0 0 (bj new) none) (g.new (.cells sz new 0 true false))) .fail
theorem so{sz:Nat}{s:AV}{x:Value}{zs:Bool}{appended:Sem (Array Value)}
  (hr:Rel C A bd w γ hg nx) (hf:(γ g.nx).kind=0) (hs:RV w γ A bd s v) (hby:jS C.P e=some bytes) (hz:fS C.P e=some zero) (hzl:zero.length=sz)
  (hb0:0<bytes) (happ:∀w1:World,w1=w\/w1=World.drewn w->∃c,appended.run C.P w1=.ok c w1/\c.size=new.length*sz/\RowsRel w γ A bd sz new c)
  (agree:∀id∈an s,hg id=g.h.get id) :
  bg sz bytes s new g=.fail\/∃base sLen sCap,v=.slice base sLen sCap /\
   cV C A bd w γ hg nx (iT e sz bytes base sLen sCap new.length zs v x appended) g (bg sz bytes s new g):=by
 have D:∀(base:Option Addr) (cap:Nat),new=[]->∀len,len<=cap->(iT e sz bytes base len cap new.length zs (.slice base len cap) x appended).run C.P w=.ok (.slice base len cap) w:=by
  intro base cap hn len hl;obtain⟨c,c1,u,_⟩:=happ w (.inl rfl);have K:c=#[]:=by rw[hn]at u;simpa using u
  rw[sn (by rw[hn];simpa using hl) c1,hn,K];cases base<;>simp[jD]
 have B:∀(base:Option Addr) (W:AV),RV w γ A bd W (.slice base 0 0)->(Builtin.firstCells sz 0 (.slice base 0 0)).run C.P (World.drewn w)=.ok #[] (World.drewn w) ->
   zH sz bytes W new g=.fail \/
   cV C A bd w γ hg nx (iT e sz bytes base 0 0 new.length zs (.slice base 0 0) x appended) g (zH sz bytes W new g):=by
  intro base W hd V;rcases hnew:new with _|⟨r,rs⟩
  ·exact .inr ⟨.slice base 0 0,hnew ▸ D base 0 hnew 0 (TG _),hd⟩
  ·rw[<-hnew];have h9:zH sz bytes W new g=ay (Nat.ble (bj new*bytes) aQ) (OR.upd (.hsl g.nx 0 0 (bj new) none) (g.new (.cells sz new 0 true false))) OR.fail:=by rw[hnew];rfl
   rw[h9];simp only[aA,aa]
   split
   ·rename_i I;rw[Uw]at I;refine .inr ?_;obtain⟨c,c1,u,E⟩:=happ (World.drewn w) (.inr rfl);have hq:0<new.length:=by rw[hnew];simp
    obtain⟨newCap,rest,n1,n2,n3⟩:=qg (zs:=zs) (x:=x) (w:=w) hby hz hzl hb0 (sLen:=0) (n:=new.length) (sCap:=0) (by simpa using I) (by omega) V c1;have z:newCap*sz<=(#[]++c++rest).size:=by simp only[Array.size_append,n2,u,List.size_toArray,Vq];rw[Uy,<-Ub];apply T2;omega
    obtain⟨γ',R,S,s3⟩:=xW (e:=e) (cs:=#[]++c++rest) hr hf (by simpa using E.more) new.length newCap z (by omega) rfl n1.2;rw[Uy]at n3;exact⟨_,_,γ',g.nx,_,n3,s3,S,.inr ⟨rfl,rfl,R⟩⟩
   ·exact .inl rfl
 unfold bg;cases hs with
 |nils=>exact (B none .nils (.nils _) (by simp[Builtin.firstCells])).imp id λh=>⟨none,0,0,rfl,h⟩
 |esl _ a=>exact (B (some a) .esl (.esl _ a) (by simp[Builtin.firstCells,loadCells,loadCellsFrom])).imp id λh=>⟨some a,0,0,rfl,h⟩
 | tsl _ tag sz' rows b o cap cell ht hc hb hm ha hrl ho hw h hcl =>
  cases hnew:new with
  | nil =>
   refine .inr ⟨some (adr b o),rows.length,cap,rfl,.slice (some (adr b o)) rows.length cap,(hnew ▸ D _ cap hnew rows.length hc),.tsl _ tag sz' rows b o cap cell ht hc hb hm ha hrl ho hw h hcl⟩
  |cons r rs=>exact .inl rfl
 | tnil _ tag sz' a cap ht =>
  cases hnew:new with
  |nil=>exact .inr ⟨some a,0,cap,rfl,.slice (some a) 0 cap,(hnew ▸ D _ cap hnew 0 (Uj _)),.tnil _ tag sz' a cap ht⟩
  |cons r rs=>exact .inl rfl
 | hsl _ id ep off len lim b0 o0 cap0 hk he K h0 =>
  have J:=agree id (by simp[an]);simp only[G.get_eq,<-J];cases hid:hg id with
  | cells sz' rows ep' loose fz =>
   dsimp only;simp only[aA,aa]
   split
   ·rename_i F;simp only[TM,Uw]at F;obtain⟨⟨⟨h1,h2⟩,h3⟩,h4⟩:=F;have h1:=aH h1;have h2:=aH h2;subst h1;subst h2;obtain⟨cap,hv,h8,f⟩:=tH hr (RV.hsl bd id ep off len lim b0 o0 cap0 hk he K h0) hid;rw[hv];have U:=hr.obj id;rw[hid]at U;obtain⟨k1,k2,k3,k4,k5,k6,cc,ee,k7,k8,k9,hh⟩:=U
    split
    ·rename_i d;rw[Uw]at d;have p:len+new.length<=cap:=by
      unfold iS at f;cases lim with
      |none=>simp at d;dsimp only at f;omega
      |some c=>simp at d;dsimp only at f;omega
     cases hnew:new with
     | nil =>
      refine .inr ⟨some (adr (γ id).blk ((γ id).base+off*sz)),len,cap,rfl,.slice (some (adr (γ id).blk ((γ id).base+off*sz))) len cap,(hnew ▸ D _ cap hnew len h8),?_⟩;rw[<-hv];exact RV.hsl bd id ep off len lim b0 o0 cap0 hk he K h0
     | cons r rs =>
      dsimp only;rw[<-hnew]
      split
      ·rename_i T;simp only[TM,Uw,notb_eq,Vd]at T;obtain⟨h5,h6⟩:=T;subst h6;refine .inr ⟨_,_,_,rfl,?_⟩;obtain⟨c,c1,u,E⟩:=happ w (.inl rfl);obtain⟨w',r1,r2,r3⟩:=hr.storeRows hid (off:=off+len) E u (by omega) C.P;refine⟨.slice (some (adr (γ id).blk ((γ id).base+off*sz))) (len+new.length) cap,w',γ,id,_,?_,?_,r3,.inl ⟨rfl,r2⟩⟩
       ·rw[sn p c1];dsimp only;rw[fT,show (γ id).base+off*sz+len*sz=(γ id).base+(off+len)*sz from by rw[Ub];omega,r1]
        rfl
       ·exact .hsl _ id ep off _ lim _ _ cap k1 (by omega) p (λ_=>⟨rfl,by rw[k3],f⟩)
      ·exact .inl rfl
    ·rename_i l;rw[Uw]at l;have t:=(A9 hr hid).sub off len;have k:=Nw (rows:=rows) (off:=off) (len:=len) h3;have M:Stp w γ (World.drewn w) γ:=yg
     split
     ·rename_i q;refine .inr ⟨_,_,_,rfl,?_⟩;have Y:¬len+new.length<=cap:=by
       unfold iS at f;cases lim with
       | none =>
        simp at q;dsimp only at f;have:=k5.1 q;simp at l;omega
       |some c=>simp at l;dsimp only at f;omega
      obtain⟨c,c1,u,E⟩:=happ (World.drewn w) (.inr rfl);obtain⟨oc,o1,o2,o3⟩:=tD (P:=C.P) (cap:=cap) (t.same M rfl) k;rw[k]at o2;obtain⟨newCap,rest,n1,n2,n3⟩:=qg (zs:=zs) (x:=x) (w:=w) hby hz hzl hb0 (sLen:=len) (n:=new.length) (sCap:=cap) (base:=some (adr (γ id).blk ((γ id).base+off*sz))) (by simpa using h4) Y o1 c1;have z:newCap*sz<=(oc++c++rest).size:=by simp only[Array.size_append,n2,u,o2];rw[<-Ub,<-Ub];apply T2;omega
      have m:RowsRel w γ A bd sz ((rows.drop off).take len++new) (oc++c++rest):=(o3.back.append (by rw[k];exact o2) E).more;obtain⟨γ',R,S,s3⟩:=xW (e:=e) (cs:=oc++c++rest) hr hf m (len+new.length) newCap z (by simp[k];omega) (by simp[k]) n1.2;refine⟨_,_,γ',g.nx,_,n3,s3,S,.inr ⟨?_,rfl,R⟩⟩;simp only[be,ba]
     ·rename_i X
      split
      ·exact .inl rfl
      ·rename_i N;have N:fz=false:=by simpa using N
       subst N;have hl:lim=none/\loose=true:=by cases lim<;>cases loose<;>simp_all
       obtain⟨h7,hl2⟩:=hl;subst h7;subst hl2;have hp:off+cap=rows.length+(γ id).slack:=by unfold iS at f;dsimp only at f;omega
       refine .inr ⟨_,_,_,rfl,?_⟩
       by_cases d:len+new.length<=cap
       ·
        obtain⟨c,c1,u,E⟩:=happ w (.inl rfl);have H:(γ id).base+off*sz+len*sz+c.toList.length<=cc.size:=by have:(off+(len+new.length))*sz<=(rows.length+(γ id).slack)*sz:=T2 _ (by omega);rw[Ub,Ub]at this;simp[u];omega
        obtain⟨f1,f2,f3⟩:=E.flat u;have L:=tX (P:=C.P) c.toList 0 w cc k7 (o:=(γ id).base+off*sz+len*sz) (by simpa using H) (IX f1 f2);simp only[Vu]at L
        let gh:Gh:=⟨1,ep+1,sz,len+new.length,(γ id).blk,(γ id).base+off*sz,cap - (len+new.length),true⟩
        obtain⟨R,S⟩:=hr.moved hid (w1:=World.setBlk w (γ id).blk (.cells (bc cc ((γ id).base+off*sz+len*sz) c.toList) ee (0,0))) (gh:=gh)
         (rows':=(rows.drop off).take len++new) rfl rfl rfl (by simp[gh,k]) rfl ⟨rfl,rfl,rfl,by simp⟩ (TG _) (by have:=k5.2 rfl;simp[gh,k];omega) (.inl rfl)
         (λb _ hb=>by rw[a7,TN];rintro⟨e,_⟩;exact hb e)
         (c:=bc cc ((γ id).base+off*sz+len*sz) c.toList) (e:=ee)
         (by rw[a7];simp[gh,(hr.lt id (by rw[k1];decide)).2])
         (by
          simp only[gh,bK,Vl,k];have:(off+cap)*sz<=(rows.length+(γ id).slack)*sz:=T2 _ (by omega);rw[Ub]at this;rw[show len+new.length+(cap - (len+new.length))=cap from by omega];omega)
         (λi row hi=>by
          rw[Wb]at hi
          split at hi
          ·exact t.1 _ _ hi
          ·exact E.2.1 _ _ hi)
         (λi j row y hi hj=>by
          rw[Wb,k]at hi
          split at hi
          ·rename_i Q;have O:=hi;rw[T7 Q,Um]at O;have Z:j<sz:=by rw[<-k9 _ _ O];exact (TJ.1 hj).1
           obtain⟨a,v,b1,b2⟩:=hh _ j row y O hj;refine⟨a,v,?_,b2⟩;rw[bW _ _ _ _ H,TN]
           ·simp only[gh];rw[show (γ id).base+off*sz+i*sz+j=(γ id).base+(off+i)*sz+j from by rw[Ub];omega];exact b1
           ·simp only[gh];have:(i+1)*sz<=len*sz:=T2 _ Q;rw[Ub,UN]at this;omega
          ·rename_i Q;have Z:j<sz:=by rw[<-E.2.1 _ _ hi];exact (TJ.1 hj).1
           have hlt:i - len<new.length:=(TJ.1 hi).1;obtain⟨a,v,b1,b2⟩:=E.2.2 _ j row y hi hj;refine⟨a,v,?_,b2⟩;have e1:i*sz=len*sz+(i - len)*sz:=by rw[<-Ub];congr 1;omega
           have e2:(i - len+1)*sz<=new.length*sz:=T2 _ hlt;rw[Ub,UN]at e2;rw[bW _ _ _ _ H];simp only[gh];rw[TO (by simp[u];omega),show (γ id).base+off*sz+i*sz+j - ((γ id).base+off*sz+len*sz)=(i - len)*sz+j from by omega];simpa using b1)
        refine⟨.slice (some (adr (γ id).blk ((γ id).base+off*sz))) (len+new.length) cap,_,_,id,_,?_,?_,S,.inl ⟨?_,R⟩⟩
        ·rw[sn d c1];dsimp only;rw[fT,L];rfl
        ·refine .hsl _ id (ep+1) 0 _ none _ _ cap (by simp[gh]) (by simp[gh]) d (λ_=>⟨by simp[gh],by simp[gh],?_⟩);simp only[iS,upd_same,gh];omega
        ·simp only[be,ba]
       ·
        obtain⟨c,c1,u,E⟩:=happ (World.drewn w) (.inr rfl);obtain⟨oc,o1,o2,o3⟩:=tD (P:=C.P) (cap:=cap) (t.same M rfl) k;rw[k]at o2;obtain⟨newCap,rest,n1,n2,n3⟩:=qg (zs:=zs) (x:=x) (w:=w) hby hz hzl hb0 (sLen:=len) (n:=new.length) (sCap:=cap) (base:=some (adr (γ id).blk ((γ id).base+off*sz))) (by simpa using h4) d o1 c1;have z:newCap*sz<=(oc++c++rest).size:=by simp only[Array.size_append,n2,u,o2];rw[<-Ub,<-Ub];apply T2;omega
        have m:RowsRel w γ A bd sz ((rows.drop off).take len++new) (oc++c++rest):=(o3.back.append (by rw[k];exact o2) E).more
        let gh:Gh:=⟨1,ep+1,sz,len+new.length,w.heap.size,0,newCap - (len+new.length),true⟩
        obtain⟨R,S⟩:=hr.moved hid (w1:=World.add (World.drewn w) (.cells (oc++c++rest) e (0,0))) (gh:=gh)
         (rows':=(rows.drop off).take len++new) rfl rfl rfl (by simp[gh,k]) rfl ⟨rfl,rfl,rfl,by simp[World.drewn]⟩ (VF _) (by have:=n1.1;have:=n1.2;simp[gh,k];omega) (.inr ⟨rfl,by simp[World.drewn]⟩)
         (λb hb _=>by rw[kH,TN (by simp[World.drewn];omega)];rfl)
         (c:=oc++c++rest) (e:=e) (by rw[kH];simp[gh,World.drewn])
         (by simp only[gh,Vl,k];rw[show len+new.length+(newCap - (len+new.length))=newCap from by omega];omega)
         m.2.1 (λi j row y hi hj=>by simpa [gh] using m.2.2 i j row y hi hj)
        refine⟨_,_,_,id,_,n3,?_,S,.inl ⟨?_,R⟩⟩
        ·refine .hsl _ id (ep+1) 0 _ none _ _ newCap (by simp[gh]) (by simp[gh]) n1.1 (λ_=>⟨by simp[gh],by simp[gh],?_⟩);simp only[iS,upd_same,gh];omega
        ·simp only[be,ba]
   ·exact .inl rfl
  |_=>exact .inl rfl
 |_=>exact .inl rfl
end
end
section
variable {t:TypeId}
section
variable {C:Cfg}{A:Nat->Nat->Prop}{bd:Nat}{w w':World}{γ γ':Gm}{hg:Nat->AObj}{nx:Nat}
theorem Nv(hr:Rel C A bd w γ hg nx){sz:Nat}{h:H}(hx:RV w γ A bd x v)
  (hrow:ak h sz x=some rows) (agree:∀id∈an x,hg id=h.get id) (P:Program) :
  ∃base cap,v=.slice base rows.length cap/\∀n,n<=rows.length->∀w1:World,w1=w\/w1=World.drewn w ->
   ∃c,(Builtin.firstCells sz n v).run P w1=.ok c w1/\c.size=n*sz/\RowsRel w γ A bd sz (rows.take n) c:=by
 obtain⟨b,o,cap,m,e⟩:=Ho hr hx hrow agree;have d:RowsRel w γ A bd sz [] #[]:=⟨by simp,λi row h=>by simp at h,λi j row x h=>by simp at h⟩;rcases m with⟨rfl,rfl⟩|rfl|⟨⟨a,rfl⟩,rfl⟩
 ·exact⟨none,0,rfl,λn hn w1 _=>⟨#[],by simp[Builtin.firstCells],by simp at hn;simp[hn],by simpa using d⟩⟩
 ·refine⟨some (adr b o),cap,rfl,λn hn w1 h1=>?_⟩;have k:=e.sub 0 n;simp only[VI,WP,Vu]at k;have hl:(rows.take n).length=n:=by simp[hn]
  rcases h1 with rfl|rfl
  ·have:=AW k P;rw[hl]at this;simpa [Builtin.firstCells] using this
  ·have:=AW (k.same yg rfl) P;rw[hl]at this;obtain⟨c,c1,f,l⟩:=this;exact⟨c,by simpa [Builtin.firstCells] using c1,f,l.back⟩
 ·refine⟨some a,cap,rfl,λn hn w1 _=>?_⟩;simp at hn;subst hn;exact⟨#[],by simp[Builtin.firstCells,loadCells,loadCellsFrom],by simp,by simpa using d⟩
theorem Gu{argTypes:Array TypeId}{xt e':TypeId}{sz:Nat}{s:AV}
  (hr:Rel C A bd w γ hg nx) (hf:(γ g.nx).kind=0) (h0:argTypes[0]?=some t) (h1:argTypes[1]?=some xt) (hu:C.P.underlying t=some (.slice e)) (hux:C.P.underlying xt=some (.slice e'))
  (hsz:szT C.P e=some sz) (hby:jS C.P e=some bytes) (hz:fS C.P e=some zero) (hzl:zero.length=sz) (hb0:0<bytes)
  (hs:RV w γ A bd s v) (hx:RV w γ A bd x y) (agree:∀id∈an s,hg id=g.h.get id) (agree':∀id∈an x,hg id=g.h.get id) :
  cV C A bd w γ hg nx (Builtin.append_ argTypes ty #[v,y]) g (di sz bytes s x g):=by
 unfold di;cases hrow:ak g.h sz x with
 |none=>trivial
 | some new =>
  dsimp only;obtain⟨xb,xc,rfl,k⟩:=Nv hr hx hrow agree' C.P;rcases so (e:=e) (new:=new) (zs:=false) (x:=.slice xb new.length xc) (appended:=Builtin.firstCells sz new.length (.slice xb new.length xc)) hr hf hs hby hz hzl hb0
    (λw1 h=>by simpa using k new.length (TG _) w1 h) agree with h|⟨base,sLen,sCap,rfl,h⟩
  ·rw[h];trivial
  ·have e1:(Builtin.append_ argTypes ty #[.slice base sLen sCap,.slice xb new.length xc]).run C.P w =
     (iT e sz bytes base sLen sCap new.length false (.slice base sLen sCap) (.slice xb new.length xc) (Builtin.firstCells sz new.length (.slice xb new.length xc))).run C.P w:=by
    unfold Builtin.append_ iT;have a0:(#[Value.slice base sLen sCap,Value.slice xb new.length xc]:Array Value)[0]?=some (.slice base sLen sCap):=rfl;have a1:(#[Value.slice base sLen sCap,Value.slice xb new.length xc]:Array Value)[1]?=some (.slice xb new.length xc):=rfl;simp only[h0,h1,a0,a1,TV,aG hu,aG hux,a_ hsz,Builtin.lenOf,TQ,Un]
    rfl
   generalize bg sz bytes s new g=r at h ⊢;cases r<;>simpa only[cV,e1] using h
theorem ED{argTypes:Array TypeId}{xt:TypeId}{k:IntKind}{sz:Nat}{s:AV}
  (hr:Rel C A bd w γ hg nx) (hf:(γ g.nx).kind=0) (h0:argTypes[0]?=some t) (h1:argTypes[1]?=some xt) (hu:C.P.underlying t=some (.slice e)) (hux:C.P.underlying xt=some (.int k))
  (hsz:szT C.P e=some sz) (hby:jS C.P e=some bytes) (hz:fS C.P e=some zero) (hzl:zero.length=sz) (hs0:0<sz) (hb0:0<bytes)
  (hs:RV w γ A bd s v) (hx:RV w γ A bd x y) (agree:∀id∈an s,hg id=g.h.get id) :
  cV C A bd w γ hg nx (Builtin.append_ argTypes ty #[v,y]) g (we sz bytes zero s x g):=by
 unfold we;cases hn:bU aQ x with
 |none=>trivial
 | some n =>
  dsimp only;rw[aa]
  split
  ·rename_i a;rw[Uw]at a;obtain⟨n1,kk,rfl⟩:=wQ hn hx;have hl:(fj n zero).length=n:=by simp[fj]
   have b:∀w1:World,w1=w\/w1=World.drewn w->∃c,(if n*sz=0 then pure #[] else do pure (Builtin.zeroCells (<-zeroValue e).cells n):Sem (Array Value)).run C.P w1=.ok c w1 /\
     c.size=(fj n zero).length*sz/\RowsRel w γ A bd sz (fj n zero) c:=by
    intro w1 _;obtain⟨z,p,l⟩:=nu (w:=w1) hz;have j:z.cells.size=sz:=by have:=(nV (w:=w) (γ:=γ) (A:=A) (bd:=bd) l).1.1;simp at this;omega
    refine⟨gZ z.cells (n*sz),?_,by rw[hl];simp[nE],uv (ty:=e) l hzl hs0 (TG _)⟩
    by_cases h:n*sz=0
    ·rw[TO h,h];simp[gZ]
    ·rw[TN h];simp[p,Builtin.zeroCells,gZ,j]
   rcases so (e:=e) (new:=fj n zero) (zs:=true) (x:=.int kk (n:Int)) hr hf hs hby hz hzl hb0 b agree with h|⟨base,sLen,sCap,rfl,h⟩
   ·rw[h];trivial
   ·rw[hl]at h;have hi:∃i,C.P.info? e=some i/\i.bytes=bytes:=by
     unfold jS at hby;cases hie:C.P.info? e with
     |none=>rw[hie]at hby;cases hby
     |some i=>rw[hie]at hby;simp at hby;exact⟨i,rfl,hby⟩
    obtain⟨i,m,o⟩:=hi;unfold aQ at n1 a;have w1:=rf n (by omega);have f:¬((n:Int)*(bytes:Int) > 2 ^ 48):=by rw[<-UW];omega
    have e1:(Builtin.append_ argTypes ty #[.slice base sLen sCap,.int kk (n:Int)]).run C.P w =
      (iT e sz bytes base sLen sCap n true (.slice base sLen sCap) (.int kk (n:Int)) (if n*sz=0 then pure #[] else do pure (Builtin.zeroCells (<-zeroValue e).cells n))).run C.P w:=by
     unfold Builtin.append_ iT;have d:¬((n:Int)<0):=by omega
     have a0:(#[Value.slice base sLen sCap,Value.int kk (n:Int)]:Array Value)[0]?=some (.slice base sLen sCap):=rfl;have a1:(#[Value.slice base sLen sCap,Value.int kk (n:Int)]:Array Value)[1]?=some (.int kk (n:Int)):=rfl;simp only[h0,h1,a0,a1,TV,aG hu,aG hux,a_ hsz,TQ,Un,if_true,asInt,asIntOf,w1,k_ m,o,TN f,TN d]
     rfl
    generalize bg sz bytes s (fj n zero) g=r at h ⊢;cases r<;>simpa only[cV,e1] using h
  ·trivial
theorem Lf{argTypes:Array TypeId}{sz:Nat}{d:AV}
  (hr:Rel C A bd w γ hg nx) (h0:argTypes[0]?=some t) (hu:C.P.underlying t=some (.slice e)) (hsz:szT C.P e=some sz)
  (hd:RV w γ A bd d v) (hx:RV w γ A bd x y) (agree:∀id∈an d,hg id=g.h.get id) (agree':∀id∈an x,hg id=g.h.get id) :
  cV C A bd w γ hg nx (Builtin.copy_ argTypes ty #[v,y]) g (CA sz d x g):=by
 unfold CA;cases hrow:ak g.h sz x with
 |none=>trivial
 | some src =>
  dsimp only;obtain⟨xb,xc,rfl,q⟩:=Nv hr hx hrow agree' C.P;have f:∀base dLen dCap,v=.slice base dLen dCap->∃c,c.size=Nat.min src.length dLen*sz/\RowsRel w γ A bd sz (src.take (Nat.min src.length dLen)) c /\
    (Builtin.copy_ argTypes ty #[v,.slice xb src.length xc]).run C.P w =
     (do if let some a:=base then storeCells a c.toList
         pure (goInt (Nat.min src.length dLen)):Sem Value).run C.P w:=by
   intro base dLen dCap r;subst r;obtain⟨c,c1,m,j⟩:=q (Nat.min src.length dLen) (Nat.min_le_left _ _) w (.inl rfl);refine⟨c,m,j,?_⟩;have a0:(#[Value.slice base dLen dCap,Value.slice xb src.length xc]:Array Value)[0]?=some (.slice base dLen dCap):=rfl;have a1:(#[Value.slice base dLen dCap,Value.slice xb src.length xc]:Array Value)[1]?=some (.slice xb src.length xc):=rfl;unfold Builtin.copy_;simp only[h0,a0,a1,TV,aG hu,a_ hsz,Builtin.lenOf,TQ,Un,c1]
   rfl
  have i:∀n:Nat,RV w γ A bd (.int .i64 (n:Int)) (goInt n):=λn=>.int _ _ _;cases hd with
  | nils =>
   obtain⟨c,c1,m,j⟩:=f none 0 0 rfl;refine⟨goInt 0,?_,i 0⟩;rw[j];simp
  | esl _ a =>
   obtain⟨c,c1,m,j⟩:=f (some a) 0 0 rfl;have hc:c=#[]:=by simpa using c1
   refine⟨goInt 0,?_,i 0⟩;rw[j,hc];simp[jD]
  | tsl _ tag sz' rows b o cap cell ht hc hb hm ha hrl ho hw h =>
   dsimp only;rw[aa]
   split
   ·rename_i k;obtain⟨c,c1,m,j⟩:=f (some (adr b o)) rows.length cap rfl;have p:Nat.min src.length rows.length=0:=by simp only[UB,List.isEmpty_iff]at k;rcases k with h|h<;>subst h<;>simp[Nat.min_def]
    rw[p]at c1 j;have hc:c=#[]:=by simpa using c1
    refine⟨goInt 0,?_,i 0⟩;rw[j,hc];simp[jD]
   ·trivial
  | tnil _ tag sz' a cap ht =>
   dsimp only;rw[aa]
   split
   ·obtain⟨c,c1,m,j⟩:=f (some a) 0 cap rfl;have hc:c=#[]:=by simpa using c1
    refine⟨goInt 0,?_,i 0⟩;rw[j,hc];simp[jD]
   ·trivial
  | hsl _ id ep off len lim b0 o0 cap0 hk he hc0 h0' =>
   have l:=agree id (by simp[an]);simp only[G.get_eq,<-l];cases hid:hg id with
   | cells sz' rows ep' loose fz =>
    simp only[aA,aa,be]
    split
    ·rename_i k;simp only[TM,Uw,notb_eq,Vd]at k;obtain⟨⟨⟨h1,h2⟩,h3⟩,h4⟩:=k;have h1:=aH h1;have h2:=aH h2;subst h1;subst h2;subst h4;obtain⟨cap,r,u,s⟩:=tH hr (RV.hsl bd id ep off len lim b0 o0 cap0 hk he hc0 h0') hid;obtain⟨c,c1,m,j⟩:=f _ _ _ r;have hl:(src.take (Nat.min src.length len)).length=Nat.min src.length len:=by simp[Nat.min_le_left]
     have z:Nat.min src.length len<=len:=Nat.min_le_right _ _;obtain⟨w',B,D,E⟩:=hr.storeRows hid (off:=off) m (by rw[hl];exact c1) (by rw[hl];omega) C.P;refine⟨goInt (Nat.min src.length len),w',γ,id,_,?_,.int _ _ _,E,.inl ⟨rfl,D⟩⟩;rw[j];simp[B]
    ·trivial
   |_=>trivial
  |_=>trivial
theorem Jv{argTypes:Array TypeId}{sz:Nat}
  (hr:Rel C A bd w γ hg nx) (h0:argTypes[0]?=some t) (hu:C.P.underlying t=some (.slice e)) (hz:fS C.P e=some zero) (hzl:zero.length=sz) (hs0:0<sz)
  (hx:RV w γ A bd x y) (agree:∀id∈ug x,hg id=g.h.get id) :
  cV C A bd w γ hg nx (Builtin.clear_ argTypes ty #[y]) g (Af sz zero x g):=by
 have a0:(#[y]:Array Value)[0]?=some y:=rfl;have c:∀a cap,y=.slice a 0 cap->(Builtin.clear_ argTypes ty #[y]).run C.P w=.ok undef w:=by intro a cap h;subst h;unfold Builtin.clear_;cases a<;>simp[h0,aG hu,undef]
 unfold Af;cases hx with
 |nils=>exact⟨_,c _ _ rfl,cD⟩
 |esl _ a=>exact⟨_,c _ _ rfl,cD⟩
 | tsl _ tag sz' rows b o cap cell ht hc hb hm ha hrl ho hw h =>
  cases rows with
  |nil=>exact⟨_,c _ _ rfl,cD⟩
  |cons r rs=>trivial
 |tnil _ tag sz' a cap ht=>exact⟨_,c _ _ rfl,cD⟩
 | hsl _ id ep off len lim b0 o0 cap0 hk he hc0 h0' =>
  cases len with
  |zero=>exact⟨_,c _ _ rfl,cD⟩
  | succ len =>
   have d:=agree id (by simp[ug]);simp only[G.get_eq,<-d];cases hid:hg id with
   | cells sz' rows ep' loose fz =>
    simp only[aA,aa]
    split
    ·rename_i k;simp only[TM,Uw,notb_eq,Vd]at k;obtain⟨⟨⟨h1,h2⟩,h3⟩,h4⟩:=k;have h1:=aH h1;have h2:=aH h2;subst h1;subst h2;subst h4;obtain⟨cap,m,l,j⟩:=tH hr (RV.hsl bd id ep off (len+1) lim b0 o0 cap0 hk he hc0 h0') hid;have hl:(fj (len+1) zero).length=len+1:=by simp[fj]
     obtain⟨z,u,i⟩:=nu (w:=w) hz;have f:z.cells.size=sz:=by have:=(nV (w:=w) (γ:=γ) (A:=A) (bd:=bd) i).1.1;simp at this;omega
     obtain⟨w',p,q,s⟩:=hr.storeRows hid (off:=off) (uv (ty:=e) (n:=len+1) i hzl hs0 (TG _)) (by rw[hl];simp[nE]) (by rw[hl];omega) C.P;refine⟨undef,w',γ,id,_,?_,cD,s,.inl ⟨rfl,q⟩⟩;have e0:Builtin.zeroCells z.cells (len+1)=gZ z.cells ((len+1)*sz):=by simp[Builtin.zeroCells,gZ,f]
     rw[m];unfold Builtin.clear_;simp[h0,aG hu,u,e0,p,undef]
    ·trivial
   |_=>trivial
 |_=>trivial
end
end
section
variable {C:Cfg}{A:Nat->Nat->Prop}{bd:Nat}{w w':World}{γ γ':Gm}{hg:Nat->AObj}{nx:Nat}
def OVR(w:World)(γ:Gm)(A:Nat->Nat->Prop)(bd:Nat):Option AV->Option Value->Prop
 |none,none=>True
 |some x,some v=>RV w γ A bd x v
 |_,_=>False
theorem MO{xs:List AV}{vs:List Value}(h:RVs w γ A bd xs vs):OVR w γ A bd xs.head? vs.head?:=by
 cases xs with
 | nil=>cases vs with
  |nil=>trivial
  |cons v vs=>have:=h.1;simp at this
 | cons x xs=>cases vs with
  |nil=>have:=h.1;simp at this
  |cons v vs=>exact h.2 0 x v rfl rfl
theorem wP{lim:Nat}(h:bU lim x=some n):n<=lim:=by
 unfold bU at h
 split at h
 ·rw[aa]at h
  split at h
  ·rename_i hl;rw[Uw]at hl;injection h with h;omega
  ·cases h
 ·cases h
theorem mq{x:Option AV}(h:aY 0 0 x=some n):n=0:=by
 cases x with
 |none=>simp[aY]at h;omega
 |some z=>have:=wP h;omega
theorem cR{lim y:Nat}{code:BoundsCode}(h:bU lim x=some n)(hv:RV w γ A bd x v)(hy:lim<=y) :
  (Instr.sliceBound v y code).run P w=.ok n w/\n<=lim:=by
 obtain⟨h1,k,rfl⟩:=wQ h hv;refine⟨?_,h1⟩;unfold Instr.sliceBound;simp only[asIntOf,TV,Un,TQ];rw[TO (by omega)];simp
theorem cB{isSlice:Bool}{cap:Nat}{lo hi mx:Option AV}{lv hv mv:Option Value}{l h d limM lh:Nat}
  (hlo:OVR w γ A bd lo lv) (hhi:OVR w γ A bd hi hv) (hmx:OVR w γ A bd mx mv) (hm:mx=none->m=cap) (hm':mx≠none->aY d limM mx=some m/\limM<=cap)
  (hmh:mx≠none->hi≠none) (hh:aY len lh hi=some h) (hlh:lh<=m) (hl:aY 0 h lo=some l) :
  (Instr.sliceBounds isSlice len cap lv hv mv).run P w=.ok (l,h,m) w/\l<=h/\(hi=none/\h=len\/h<=lh):=by
 have H:l<=h/\∀code,(match lv with|some v=>Instr.sliceBound v h code|none=>pure 0:Sem Nat).run P w=.ok l w:=by
  cases lo with
  | none =>
   cases lv with
   |none=>simp[aY]at hl;subst hl;exact⟨Uj _,λ_=>rfl⟩
   |some v=>cases hlo
  | some x =>
   cases lv with
   |none=>cases hlo
   |some v=>exact⟨(cR (code:=.index) (P:=P) hl hlo (TG _)).2,λcode=>(cR hl hlo (TG _)).1⟩
 obtain⟨H1,H2⟩:=H;cases mx with
 | none =>
  cases mv with
  |some v=>cases hmx
  | none =>
   have:=hm rfl;subst this;cases hi with
   | none =>
    cases hv with
    |some v=>cases hhi
    | none =>
     simp[aY]at hh;subst hh;refine⟨?_,H1,.inl ⟨rfl,rfl⟩⟩;have h2:=H2 .sliceB;unfold Instr.sliceBounds;cases lv<;>simp_all
   | some x =>
    cases hv with
    |none=>cases hhi
    | some v =>
     have h3:=λcode=>(cR (P:=P) (code:=code) hh hhi hlh).1;refine⟨?_,H1,.inr (cR (P:=P) (code:=.index) hh hhi hlh).2⟩;have h2:=H2 .sliceB;unfold Instr.sliceBounds;cases lv<;>simp_all
 | some xm =>
  cases mv with
  |none=>cases hmx
  | some vm =>
   obtain⟨k,a⟩:=hm' (by simp);have h4:=λcode=>(cR (P:=P) (code:=code) k hmx a).1;cases hi with
   |none=>exact absurd rfl (hmh (by simp))
   | some x =>
    cases hv with
    |none=>cases hhi
    | some v =>
     have h3:=λcode=>(cR (P:=P) (code:=code) hh hhi hlh).1;refine⟨?_,H1,.inr (cR (P:=P) (code:=.index) hh hhi hlh).2⟩;have h2:=H2 .slice3C;unfold Instr.sliceBounds;cases lv<;>simp_all
theorem mi{sz cap l h:Nat}{a:Option Addr}{lv hv mv:Option Value}(hu:C.P.underlying ty=some (.slice e))(hsz:szT C.P e=some sz)
  (hb:(Instr.sliceBounds true len cap lv hv mv).run C.P w=.ok (l,h,m) w) :
  (Instr.sliceAt ty (.slice a len cap) lv hv mv).run C.P w=.ok (.slice (if m=l then a else a.map (·.add (l*sz))) (h - l) (m - l)) w:=by
 unfold Instr.sliceAt Instr.slice;simp[aG hu,hb,a_ hsz]
theorem Bs{sz:Nat}{lo hi mx:Option AV}{lv hv mv:Option Value}
  (hr:Rel C A bd w γ hg nx) (hu:C.P.underlying ty=some (.slice e)) (hsz:szT C.P e=some sz) (hx:RV w γ A bd x v)
  (hlo:OVR w γ A bd lo lv) (hhi:OVR w γ A bd hi hv) (hmx:OVR w γ A bd mx mv) (hmh:mx≠none->hi≠none) (agree:∀id∈an x,hg id=g.h.get id) :
  ValSim C A bd w γ (Instr.sliceAt ty v lv hv mv) (orV (lK sz x lo hi mx g.h)):=by
 refine nW λy k=>?_;have zero:∀(a:Option Addr),v=.slice a 0 0->∀p q r,aY 0 0 lo=some p->aY 0 0 hi=some q->aY 0 0 mx=some r ->
   (Instr.sliceAt ty v lv hv mv).run C.P w=.ok (.slice a 0 0) w:=by
  intro a J p q r h1 h2 h3;subst J;have T:=mq h3;have S:=mq h2;have hp0:=mq h1;subst T;subst S;subst hp0;obtain⟨b1,b2,K⟩:=cB (P:=C.P) (isSlice:=true) (len:=0) (cap:=0) (l:=0) (h:=0) (m:=0) hlo hhi hmx (λ_=>rfl) (λ_=>⟨h3,TG _⟩) hmh h2 (TG _) h1;rw[mi hu hsz b1];simp
 unfold lK at k;cases hx with
 | nils =>
  dsimp only at k
  split at k
  ·rename_i p q r h1 h2 h3;injection k with k;subst k;exact⟨_,zero none rfl p q r h1 h2 h3,.nils _⟩
  ·cases k
 | esl _ a =>
  dsimp only at k
  split at k
  ·rename_i p q r h1 h2 h3;injection k with k;subst k;exact⟨_,zero (some a) rfl p q r h1 h2 h3,.esl _ a⟩
  ·cases k
 | tnil _ tag sz' a cap ht =>
  cases mx with
  | none =>
   cases mv with
   |some z=>cases hmx
   | none =>
    dsimp only at k
    split at k
    ·cases k
    ·rename_i h L
     split at k
     ·cases k
     ·rename_i l hl;simp only[aa]at k
      split at k
      ·injection k with k;subst k;have M:(bj ([]:List (List AV)))=0:=rfl;rw[M]at L;obtain⟨b1,b2,K⟩:=cB (P:=C.P) (isSlice:=true) (len:=0) (cap:=cap) (d:=0) (limM:=0) hlo hhi hmx (λ_=>rfl) (λh=>absurd rfl h) hmh L (Uj _) hl;have e1:h=0:=by omega
       have e2:l=0:=by omega
       subst e1;subst e2;refine⟨_,mi hu hsz b1,?_⟩;have e3:iQ (0 - 0) (gD 0 ([]:List (List AV)))=[]:=by simp[be]
       rw[e3]
       by_cases hc:cap=0
       ·rw[TO hc];exact .tnil _ tag sz a _ ht
       ·rw[TN hc];exact .tnil _ tag sz _ _ ht
      ·cases k
  | some xm =>
   dsimp only at k;cases mv with
   |none=>cases hmx
   | some vm =>
    split at k
    ·rename_i p q r h1 h2 h3;injection k with k;subst k;have e1:p=0:=by have:=wP h1;omega
     subst e1;obtain⟨b1,b2,K⟩:=cB (P:=C.P) (isSlice:=true) (len:=0) (cap:=cap) (d:=0) (limM:=0) (m:=0) hlo hhi hmx (λh=>by cases h) (λ_=>⟨h1,Uj _⟩) hmh h2 (TG _)
      (by rw[mq h2];exact h3)
     have e1:q=0:=by omega
     have e2:r=0:=by omega
     subst e1;subst e2;refine⟨_,mi hu hsz b1,?_⟩;simpa using RV.esl _ a
    ·cases k
 | tsl _ tag sz' rows b o cap cell ht hc hb hm ha hrl ho hw hcell hcl =>
  cases mx with
  | none =>
   cases mv with
   |some z=>cases hmx
   | none =>
    simp only[aA,be,ba]at k
    split at k
    ·cases k
    ·rename_i h L
     split at k
     ·cases k
     ·rename_i l hl;simp only[aa]at k
      split at k
      ·rename_i E;have E:=aH E;subst E;injection k with k;subst k;obtain⟨b1,b2,K⟩:=cB (P:=C.P) (isSlice:=true) (len:=rows.length) (cap:=cap) (d:=0) (limM:=0) hlo hhi hmx (λ_=>rfl) (λh=>absurd rfl h) hmh L hc hl;have e1:h<=rows.length:=by omega
       refine⟨_,mi hu hsz b1,?_⟩;have t:((rows.drop l).take (h - l)).length=h - l:=by simp;omega
       by_cases hc0:cap=l
       ·rw[TO hc0];have e2:h - l=0:=by omega
        rw[e2,W5];exact .tnil _ tag sz _ _ ht
       ·rw[TN hc0];simp only[U0,fT];have:=RV.tsl (w:=w) (γ:=γ) (A:=A) bd tag sz ((rows.drop l).take (h - l)) b (o+l*sz) (cap - l) (λi j=>cell (l+i) j) ht (by rw[t];omega) hb hm ha
         (λi row hi=>?_) (λi j row x hi hj=>?_) (λi j row x hi hj=>?_) (λi j row x hi hj=>?_) (λrow hrow=>hcl row (Uz (Uc hrow)))
        ·rwa [t]at this
        all_goals
         have s:=hi;rw[V7,]at s
         split at s
         ·rw[Um]at s
          first
          |exact hrl _ _ s
          |exact ho _ _ _ _ s hj
          |exact hcell _ _ _ _ s hj
          | (have:=hw _ _ _ _ s hj
             rwa [show o+l*sz+i*sz+j=o+(l+i)*sz+j from by rw[Ub];omega])
         ·cases s
      ·cases k
  | some xm =>
   dsimp only at k;cases mv with
   |none=>cases hmx
   | some vm =>
    split at k
    ·rename_i p q r h1 h2 h3;injection k with k;subst k;have e1:p=0:=by have:=wP h1;omega
     subst e1;cases hi with
     |none=>exact absurd rfl (hmh (by simp))
     | some z =>
      cases hv with
      |none=>cases hhi
      | some vh =>
       have e0:=mq h2;subst e0;obtain⟨b1,b2,K⟩:=cB (P:=C.P) (isSlice:=true) (len:=rows.length) (cap:=cap) (d:=0) (limM:=0) (m:=0) (lh:=0) (h:=0) hlo hhi hmx (λh=>by cases h) (λ_=>⟨h1,Uj _⟩) hmh h2 (TG _) h3;have e2:r=0:=by omega
       subst e2;refine⟨_,mi hu hsz b1,?_⟩;simpa using RV.esl _ _
    ·cases k
 | hsl _ id ep off len lim b0 o0 cap0 hk he hc0 h0 =>
  have F:=agree id (by simp[an]);dsimp only at k;rw[<-F]at k;cases hid:hg id with
  | cells sz' rows ep' loose fz =>
   rw[hid]at k;simp only[aa,aA]at k
   split at k
   ·rename_i f;simp only[TM,Uw]at f;obtain⟨⟨h1,h2⟩,h3⟩:=f;have h1:=aH h1;have h2:=aH h2;subst h1;subst h2;obtain⟨cap,J,W,n⟩:=tH hr (RV.hsl bd id ep off len lim b0 o0 cap0 hk he hc0 h0) hid;rw[J];have O:=hr.obj id;rw[hid]at O;obtain⟨X,k2,Y,Z,k5,_⟩:=O
    split at k
    ·cases k
    ·rename_i m hm
     split at k
     ·cases k
     ·rename_i h L
      split at k
      ·cases k
      ·rename_i l hl
       let u:=lim.getD (rows.length - off)
       have N:u<=cap:=by unfold iS at n;cases lim<;>simp only[u,Option.getD]at *<;>omega
       have D:lim≠none\/loose=false->cap=u:=by
        unfold iS at n;intro h;cases lim with
        |none=>simp at h;have:=k5.1 h;simp only[u,Option.getD];dsimp only at n;omega
        |some c=>simp only[u,Option.getD];exact n.1
       have R:mx≠none->m<=u:=by
        intro h;cases mx with
        |none=>exact absurd rfl h
        | some z=>cases mv with
         |none=>cases hmx
         |some zv=>exact wP hm
       have I:mx=none->m=u:=by intro h;subst h;simp[aY]at hm;exact hm.symm
       let mR:=if mx=none then cap else m
       have Q:m<=mR:=by
        simp only[mR];split
        ·rename_i h;rw[I h];exact N
        ·exact TG _
       obtain⟨b1,b2,K⟩:=cB (P:=C.P) (isSlice:=true) (len:=len) (cap:=cap) (d:=u) (limM:=u) (m:=mR) (lh:=m) hlo hhi hmx
        (λh=>by simp[mR,h]) (λh=>⟨by simp only[mR,TN h];exact hm,N⟩) hmh L Q hl
       refine⟨_,mi hu hsz b1,?_⟩;have t:len<=u:=by
        unfold iS at n;cases lim with
        |none=>simp only[u,Option.getD];omega
        |some c=>simp only[u,Option.getD];omega
       have V:h<=m:=by
        rcases K with⟨e1,e2⟩|e1
        ·have:mx=none:=by
          cases mx with
          |none=>rfl
          |some z=>exact absurd e1 (hmh (by simp))
         rw[I this,e2];exact t
        ·exact e1
       split at k
       ·rename_i B;have B:=aH B;subst B;have e1:h=m:=by omega
        subst e1
        split at k
        ·rename_i f;injection k with k;subst k;have e2:mR=h:=by
          simp only[mR];split
          ·rename_i H;rw[D,I H];subst H;simp at f;cases lim with
           |none=>right;simpa using f
           |some c=>left;simp
          ·rfl
         rw[TO e2,e2,UD];exact .esl _ _
        ·injection k with k;subst k;rw[UD]
         by_cases h9:mR=h
         ·rw[TO h9];exact .tnil _ 0 sz _ _ (Uj _)
         ·rw[TN h9];exact .tnil _ 0 sz _ _ (Uj _)
       ·rename_i B;injection k with k;subst k;have hlt:l<m:=by
         rcases Vn l m with h9|h9
         ·exact h9
         ·exact absurd (by rw[show m=l from by omega];exact Uv l) B
        rw[TN (show ¬mR=l by omega)];simp only[U0,fT];refine .hsl _ id ep (off+l) (h - l) _ _ _ _ X (by omega) (by omega) λ_=>⟨rfl,by rw[Y,Ub];omega,?_⟩;cases mx with
        | some z =>
         have e3:mR=m:=by simp[mR]
         have U:=R (by simp);simp only[iS];rw[e3,Z];unfold iS at n;cases lim with
         |none=>simp only[u,Option.getD]at U;omega
         |some c=>simp only[u,Option.getD]at U;dsimp only at n;omega
        | none =>
         have e3:mR=cap:=by simp[mR]
         unfold iS at n ⊢;cases lim with
         |none=>dsimp only[Option.map]at n ⊢;omega
         |some c=>dsimp only[Option.map]at n ⊢;omega
   ·cases k
  |_=>rw[hid]at k;cases k
 |_=>cases k
end
section
variable {C:Cfg}{A:Nat->Nat->Prop}{bd:Nat}{w w':World}{γ γ':Gm}{hg:Nat->AObj}{nx:Nat}
theorem qM{α:Type}{f:α->Option Nat}:∀{l:List α} {m:Nat},eV f l=some m->∀x∈l,∃k,f x=some k/\k<=m:=by
 intro l
 induction l with
 |nil=>intro m _ x hx;cases hx
 | cons a l ih =>
  intro m h x hx;simp only[eV]at h
  split at h
  ·rename_i k hk
   split at h
   ·rename_i b hb;injection h with h;subst h;rcases Us.1 hx with rfl|hx
    ·exact⟨k,hk,Vb _ _⟩
    ·obtain⟨k',h1,h2⟩:=ih hb x hx;exact⟨k',h1,T6 h2 (VB _ _)⟩
   ·cases h
  ·cases h
theorem Et:∀(f:Nat) {x:AV} {v:Value} {m:Nat},dZ f x=some m->RV w γ A bd x v->RV w γ A m x v:=by
 intro f
 induction f with
 |zero=>intro x v m h;cases h
 | succ f ih =>
  intro x v m h hx;have hs:∀{cs:List AV} {vs:Array Value} {m':Nat},eV (dZ f) cs=some m'->m'<=m ->
    (∀(i:Nat) x v,cs[i]?=some x->vs[i]?=some v->RV w γ A bd x v)->∀(i:Nat) x v,cs[i]?=some x->vs[i]?=some v->RV w γ A m x v:=by
   intro cs vs m' h1 h2 h3 i x v hi c;obtain⟨k,d,k2⟩:=qM h1 x (TL hi);exact (ih d (h3 i x v hi c)).mono (T6 k2 h2)
  cases hx with
  | tsl _ tag sz rows b o cap cell ht hc hb hm ha hrl ho hw hcell hcl =>
   simp only[dZ]at h;injection h with h;subst h;exact .tsl _ tag sz rows b o cap cell (TG _) hc hb hm ha hrl ho hw hcell hcl
  | tnil _ tag sz a cap ht =>
   simp only[dZ]at h;injection h with h;subst h;exact .tnil _ tag sz a cap (TG _)
  | tptr _ tag sz rows i0 off0 b o cell ht hb hm ha hrl ho hw hcell hcl =>
   simp only[dZ]at h;injection h with h;subst h;exact .tptr _ tag sz rows i0 off0 b o cell (TG _) hb hm ha hrl ho hw hcell hcl
  |agg _ xs vs hl h1 h2=>exact .agg _ _ _ hl h1 (hs h (TG _) h2)
  |tup _ xs vs hl h2=>exact .tup _ _ _ hl (hs h (TG _) h2)
  | clo _ g xs ys vs us hl hl2 h1 h2 =>
   simp only[dZ]at h;have ha:=qM h;refine .clo _ g xs ys vs us hl hl2 (λi x v hi c=>?_) (λi x v hi c=>?_)
   ·obtain⟨k,d,k2⟩:=ha x (Vx _ (TL hi));exact (ih d (h1 i x v hi c)).mono k2
   ·obtain⟨k,d,k2⟩:=ha x (Vt _ (TL hi));exact (ih d (h2 i x v hi c)).mono k2
  |ifc _ t x v h1=>exact .ifc _ t x v (ih h h1)
  |bool=>exact .bool _ _
  |int=>exact .int _ _ _
  |str=>exact .str _ _
  |nilp=>exact .nilp _
  |nils=>exact .nils _
  |nilf=>exact .nilf _
  |nilm=>exact .nilm _
  |nili=>exact .nili _
  |esl _ a=>exact .esl _ a
  |hsl _ id ep off len lim b o cap hk he hc h'=>cases h
  |hptr _ id ep i off b o hk he h'=>cases h
  |hmap _ id b hk hb=>cases h
  |yld _ id b hk hb=>cases h
theorem ej{α:Type}{f:α->Option Nat}:∀{l:List α} {m:Nat},eV f l=some m->(∀x∈l,∀k,f x=some k->k<=b)->m<=b:=by
 intro l
 induction l with
 |nil=>intro m h _;simp[eV]at h;omega
 | cons a l ih =>
  intro m h hb;simp only[eV]at h
  split at h
  ·rename_i k hk
   split at h
   ·rename_i b' c;injection h with h;subst h;exact WZ.2 ⟨hb a UK k hk,ih c λx hx=>hb x (UC _ hx)⟩
   ·cases h
  ·cases h
theorem zy:∀(f:Nat) {x:AV} {v:Value} {m:Nat},dZ f x=some m->RV w γ A bd x v->m<=bd:=by
 intro f
 induction f with
 |zero=>intro x v m h;cases h
 | succ f ih =>
  intro x v m h hx;have hs:∀{cs:List AV} {vs:Array Value},cs.length=vs.size ->
    (∀(i:Nat) x v,cs[i]?=some x->vs[i]?=some v->RV w γ A bd x v)->∀x∈cs,∀k,dZ f x=some k->k<=bd:=by
   intro cs vs hl h3 x hx k hk;obtain⟨i,hi⟩:=Ua hx;have hlt:i<vs.size:=by rw[<-hl];exact (TJ.1 hi).1
   exact ih hk (h3 i x _ hi (TZ hlt))
  cases hx with
  |tsl _ tag sz rows b o cap cell ht hc hb hm ha hrl ho hw hcell hcl=>simp only[dZ]at h;injection h with h;omega
  |tnil _ tag sz a cap ht=>simp only[dZ]at h;injection h with h;omega
  |tptr _ tag sz rows i0 off0 b o cell ht hb hm ha hrl ho hw hcell hcl=>simp only[dZ]at h;injection h with h;omega
  |agg _ xs vs hl h1 h2=>exact ej h (hs hl h2)
  |tup _ xs vs hl h2=>exact ej h (hs hl h2)
  | clo _ g xs ys vs us hl hl2 h1 h2 =>
   refine ej h λx hx k hk=>?_;rcases Uk.1 hx with hx|hx
   ·exact hs hl h1 x hx k hk
   ·exact hs hl2 h2 x hx k hk
  |ifc _ t x v h1=>exact ih h h1
  |_=>first| (cases h;done)| (simp only[dZ]at h;injection h with h;omega)
theorem Gj:∀(f:Nat) {x:AV} {v:Value} {m:Nat},dZ f x=some m->RV w γ A bd x v->Closed x:=by
 intro f
 induction f with
 |zero=>intro x v m h;cases h
 | succ f ih =>
  intro x v m h hx;have hs:∀{cs:List AV} {vs:Array Value},cs.length=vs.size->(∀x∈cs,∃k,dZ f x=some k) ->
    (∀(i:Nat) x v,cs[i]?=some x->vs[i]?=some v->RV w γ A bd x v)->∀x∈cs,Closed x:=by
   intro cs vs hl h1 h3 x hx;obtain⟨i,hi⟩:=Ua hx;have hlt:i<vs.size:=by rw[<-hl];exact (TJ.1 hi).1
   obtain⟨k,hk⟩:=h1 x hx;exact ih hk (h3 i x _ hi (TZ hlt))
  have he:∀{cs:List AV} {m':Nat},eV (dZ f) cs=some m'->∀x∈cs,∃k,dZ f x=some k:=λh x hx=>by obtain⟨k,c,_⟩:=qM h x hx;exact⟨k,c⟩
  cases hx with
  |tsl _ tag sz rows b o cap cell ht hc hb hm ha hrl ho hw hcell hcl=>exact .tsl _ _ _ hcl
  |tnil=>exact .tsl _ _ _ (λrow h=>by cases h)
  |tptr _ tag sz rows i0 off0 b o cell ht hb hm ha hrl ho hw hcell hcl=>exact .tptr _ _ _ _ _ hcl
  |agg _ xs vs hl h1 h2=>exact .agg _ (hs hl (he h) h2)
  |tup _ xs vs hl h2=>exact .tup _ (hs hl (he h) h2)
  | clo _ g xs ys vs us hl hl2 h1 h2 =>
   have a:=he h;exact .clo _ _ _ (hs hl (λx hx=>a x (Vx _ hx)) h1) (hs hl2 (λx hx=>a x (Vt _ hx)) h2)
  |ifc _ t x v h1=>exact .ifc _ _ (ih h h1)
  |_=>first| (cases h;done)|constructor
theorem vT{i j:Nat}{row:List AV}(h:fg rows=some m)(hi:rows[i]?=some row)(hj:row[j]?=some x)
  (hv:RV w γ A bd x v):RV w γ A m x v:=by
 obtain⟨k,a,k2⟩:=qM h row (TL hi);obtain⟨k',b,c⟩:=qM a x (TL hj);exact (Et _ b hv).mono (T6 c k2)
theorem Ae{sz:Nat}:∀(n:Nat) (cs:List AV),n*sz<=cs.length ->
  (qo sz n cs).length=n/\∀(i:Nat) row,(qo sz n cs)[i]?=some row->row.length=sz/\∀(j:Nat) x,row[j]?=some x->cs[i*sz+j]?=some x:=by
 intro n
 induction n with
 |zero=>intro cs _;exact⟨rfl,λi row h=>by simp[qo]at h⟩
 | succ n ih =>
  intro cs h;rw[Ub,UN]at h;obtain⟨h1,h2⟩:=ih (cs.drop sz) (by simp;omega);simp only[qo,ba,be];refine⟨by simp[h1],λi row hi=>?_⟩;cases i with
  | zero =>
   simp at hi;subst hi;refine⟨by simp;omega,λj x hj=>?_⟩;rw[V7]at hj
   split at hj
   ·simpa using hj
   ·cases hj
  | succ i =>
   simp at hi;obtain⟨h3,h4⟩:=h2 i row hi;refine⟨h3,λj x hj=>?_⟩;have:=h4 j x hj;rw[Um]at this;rw[Ub,UN];rw[show i*sz+sz+j=sz+(i*sz+j) from by omega];exact this
theorem Rel.freeze(hr:Rel C A bd w γ hg nx){id sz:Nat}{fz:Bool}(hid:hg id=.cells sz rows ep loose fz) :
  ∃γ',Rel C A bd w γ' (upd hg id (.cells sz rows ep loose true)) nx/\Stp w γ w γ'/\γ'=upd γ id { γ id with wr:=false }/\¬Mut γ' (γ id).blk:=by
 have h:=hr.obj id;rw[hid]at h;obtain⟨k,k2,f,l,m,q,c,e,n,o,p,d⟩:=h;have s:Stp w γ w (upd γ id { γ id with wr:=false }):=by
  refine⟨TG _,rfl,rfl,rfl,λ_ _ _=>rfl,?_,?_,?_,TG _⟩
  ·rintro b _ ⟨j,h1,h2,h3⟩
   by_cases hj:j=id
   ·subst hj;simp at h2
   ·rw[bZ _ _ hj]at h1 h2 h3;exact⟨j,h1,h2,h3⟩
  ·intro j hk
   by_cases hj:j=id
   ·subst hj;left;simp
   ·rw[bZ _ _ hj];exact .inl ⟨rfl,rfl⟩
  ·intro j hk
   by_cases hj:j=id
   ·subst hj;simp
   ·rw[bZ _ _ hj];exact⟨TG _,λ_=>⟨rfl,rfl,rfl,rfl,rfl⟩⟩
 refine⟨_,hr.set rfl s (TG _) ?_ (hr.lt id (by rw[k];decide)) (λj hj hkj e=>hj (hr.inj j id hkj (by rw[k];decide) e)) (hr.av id (by rw[k];decide)) (λ_ _ _ _=>rfl),s,rfl,?_⟩
 ·simp only[ObjRel,upd_same];refine⟨k,k2,f,l,m,rfl,c,e,n,o,p,λi j row x h1 h2=>?_⟩;obtain⟨a,v,b1,b2⟩:=d i j row x h1 h2;exact⟨a,v,b1,b2.step s⟩
 ·rintro⟨j,h1,h2,h3⟩
  by_cases hj:j=id
  ·subst hj;simp at h2
  ·rw[bZ _ _ hj]at h1 h2 h3;exact hj (hr.inj j id h1 (by rw[k];decide) h3)
theorem Ek{sz:Nat}{lo hi:T->Option AV}{lv hv:Option Value}
  (hr:Rel C A bd w γ hg nx) (hu:C.P.underlying ty=some (.array n e)) (hsz:szT C.P e=some sz) (hs0:0<sz) (hx:RV w γ A bd (a t) v)
  (hlo:OVR w γ A bd (lo t) lv) (hhi:OVR w γ A bd (hi t) hv) (agree:∀id∈an (a t),hg id=g.h.get id) :
  cV C A bd w γ hg nx (Instr.sliceAt ty v lv hv none) g (iP n sz a lo hi t g):=by
 unfold iP;generalize a t=x at *;generalize lo t=lo at *;generalize hi t=hi at *
 split
 ·trivial
 ·rename_i h K
  split
  ·trivial
  ·rename_i l hl;obtain⟨b1,b2,O⟩:=cB (P:=C.P) (isSlice:=false) (len:=n) (cap:=n) (d:=0) (limM:=0) (mx:=none) (mv:=none) hlo hhi trivial (λ_=>rfl) (λh=>absurd rfl h)
    (λh=>absurd rfl h) K (TG _) hl
   have L:h<=n:=by omega
   have q:∀b o,v=.pointer (some (adr b o))->(Instr.sliceAt ty v lv hv none).run C.P w=.ok (.slice (some (if n=l then adr b o else adr b (o+l*sz))) (h - l) (n - l)) w:=by intro b o e;subst e;unfold Instr.sliceAt;simp[aG hu,Instr.sureAddr,b1,a_ hsz,fT]
   cases hx with
   | tptr _ tag sz' rows i0 off0 b o cell ht hb hm ha hrl ho hw c hcl =>
    simp only[dD];cases hrow:rows[i0]? with
    |none=>trivial
    | some row =>
     simp only[aa,aA,ba]
     split
     ·rename_i u;rw[Uw]at u;have F:l*sz+(h - l)*sz<=n*sz:=by rw[<-Ub];exact T2 _ (by omega)
      obtain⟨c1,z⟩:=Ae (sz:=sz) (h - l) (row.drop (off0+l*sz)) (by simp;omega);refine⟨_,q _ _ rfl,?_⟩
      by_cases hnl:n=l
      ·have e0:h - l=0:=by omega
       rw[e0,TO hnl];exact .tnil _ tag sz _ _ ht
      ·rw[TN hnl];have:=RV.tsl (w:=w) (γ:=γ) (A:=A) bd tag sz (qo sz (h - l) (row.drop (off0+l*sz))) b (o+i0*sz'+off0+l*sz) (n - l) (λi j=>cell i0 (off0+l*sz+(i*sz+j))) ht (by rw[c1];omega) hb hm ha
        (λi r hi=>(z i r hi).1) (λi j r y hi f=>?_) (λi j r y hi f=>?_) (λi j r y hi f=>?_)
        (λr hr' y hy=>by
         obtain⟨i,hi⟩:=Ua hr';obtain⟨j,f⟩:=Ua hy;have h9:=(z i r hi).2 j y f;rw[Um]at h9;exact hcl row (TL hrow) y (TL h9))
       ·rwa [c1]at this
       all_goals
        have h9:=(z i r hi).2 j y f;rw[Um]at h9
        first
        |exact ho _ _ _ _ hrow h9
        |exact c _ _ _ _ hrow h9
        | (have:=hw _ _ _ _ hrow h9
           rwa [show o+i0*sz'+off0+l*sz+i*sz+j=o+i0*sz'+(off0+l*sz+(i*sz+j)) from by omega])
     ·trivial
   | hptr _ id ep i off b o hk he h' =>
    have p:=agree id (by simp[an]);simp only[G.get_eq,<-p];cases hid:hg id with
    | cells sz' rows ep' loose fz =>
     simp only[aa,dD]
     split
     ·rename_i s;have s:=aH s;subst s;cases hrow:rows[i]? with
      |none=>trivial
      | some row =>
       simp only[aA,ba]
       split
       ·rename_i u;rw[Uw]at u;have F:l*sz+(h - l)*sz<=n*sz:=by rw[<-Ub];exact T2 _ (by omega)
        obtain⟨c1,z⟩:=Ae (sz:=sz) (h - l) (row.drop (off+l*sz)) (by simp;omega);generalize hch:qo sz (h - l) (row.drop (off+l*sz))=rs at *;cases htag:fg rs with
        |none=>trivial
        | some m =>
         dsimp only;have D:=hr.obj id;rw[hid]at D;obtain⟨E,k2,H,_⟩:=D;obtain⟨I,q2⟩:=h' k2.symm;obtain⟨γ',M,J,Q,N⟩:=hr.freeze hid;refine⟨_,w,γ',id,_,q _ _ (by rw[I,q2]),?_,J,.inl ⟨rfl,M⟩⟩;have c:∀(i' j:Nat) r y,rs[i']?=some r->r[j]?=some y->y.one=true/\∃v,w.cell? (adr (γ id).blk ((γ id).base+i*(γ id).sz+off+l*sz+i'*sz+j))=some v/\RV w γ A bd y v:=by intro i' j r y hi f;have h9:=(z i' r hi).2 j y f;rw[Um]at h9;have:=uh hr hid hrow _ y h9;rwa [<-H,show (γ id).base+i*(γ id).sz+(off+l*sz+(i'*sz+j))=(γ id).base+i*(γ id).sz+off+l*sz+i'*sz+j from by omega]at this
         have B:m<=bd:=by refine ej htag λr hr' k hk=>ej hk λy hy k' hk'=>?_;obtain⟨i',hi⟩:=Ua hr';obtain⟨j,f⟩:=Ua hy;obtain⟨_,v,_,h3⟩:=c i' j r y hi f;exact zy _ hk' h3
         by_cases hnl:n=l
         ·have e0:rs=[]:=by rw[<-WA];omega
          rw[TO hnl,show h - l=0 from by omega,e0];exact .tnil _ m sz _ _ B
         ·rw[TN hnl];subst I;have:=RV.tsl (w:=w) (γ:=γ') (A:=A) bd m sz rs (γ id).blk ((γ id).base+i*(γ id).sz+off+l*sz) (n - l)
           (λi' j=>(w.cell? (adr (γ id).blk ((γ id).base+i*(γ id).sz+off+l*sz+i'*sz+j))).getD undef) B (by rw[c1];omega)
           (hr.lt id (by rw[E];decide)).2 N (hr.av id (by rw[E];decide) m)
           (λi r hi=>(z i r hi).1) (λi j r y hi f=>(c i j r y hi f).1) (λi j r y hi f=>?_) (λi j r y hi f=>?_)
           (λr hr' y hy=>by
            obtain⟨i,hi⟩:=Ua hr';obtain⟨j,f⟩:=Ua hy;obtain⟨_,v,_,h3⟩:=c i j r y hi f;obtain⟨k,E,k2⟩:=qM htag r hr';obtain⟨k',H,_⟩:=qM E y hy;exact Gj _ H h3)
          ·rwa [c1]at this
          ·obtain⟨_,v,h3,_⟩:=c i j r y hi f;rw[h3];rfl
          ·obtain⟨_,v,h3,h4⟩:=c i j r y hi f;rw[h3];exact (vT htag hi f h4).step J
       ·trivial
     ·trivial
    |_=>trivial
   |_=>trivial
end
end
end Hx
