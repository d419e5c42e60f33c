/- A part of the proof: an interpreter over abstract values, shown right against the model, and what the functions of the chapter compute on it. -/
import Derived.Laws.Tables
import Derived.Test.YteaikmdilmfbeaaGreatHx1
set_option linter.unusedVariables false
set_option linter.unusedSimpArgs false
set_option linter.unnecessarySimpa false
section
namespace Hx
open Go
section
variable {C:Cfg}{A:Nat->Nat->Prop}{bd:Nat}{w:World}{γ:Gm}{hg:Nat->AObj}{nx:Nat}
theorem lI {P:Program}{ty:TypeId}{cs:List AV}(h:eB P ty=some cs):∃v,(zeroValue ty).run P w=.ok v w/\xl v.cells.toList=some cs:=by
 unfold eB at h;cases hi:P.info? ty with
 | none=>rw[hi] at h;cases h
 | some i =>
  rw[hi] at h;cases hz:i.zero with
  | none=>simp[hz] at h
  | some v=>simp[hz] at h;exact ⟨v,by simp[zeroValue,jf hi,hz],h⟩
theorem G5 {ty:TypeId}{cs:List AV}{g:G}(hr:Rel C A bd w γ hg nx)(hz:eB C.P ty=some cs)(hf:(γ g.nx).kind=0)(t:T) :
  cF C A bd w γ hg nx (Instr.alloc ty true (.tuple #[])) g (Bf cs t g):=by
 obtain ⟨v,h1,h2⟩:=lI (w:=w) hz;obtain ⟨q1,q2⟩:=mm (w:=w) (γ:=γ) (A:=A) (bd:=bd) h2;obtain ⟨γ',r1,r2,r3,r4,r5,r6,r7,r8,r9⟩:=BQ (sz:=cs.length) (rows:=[cs]) (cs:=v.cells) ty hr hf
  (λi row h=>by cases i with | zero=>simp at h;rw[<-h] | succ i=>simp at h)
  (λi j row y h hy=>by
   cases i with
   | zero =>
    simp at h;subst h;have hlt:j<v.cells.toList.length:=by rw[<-q1.1];exact (List.getElem?_eq_some_iff.1 hy).1
    have he:=List.getElem?_eq_getElem hlt;exact ⟨q2 j y hy,_,by simpa using he,q1.2 j y _ hy he⟩
   | succ i=>simp at h) false 0 ⟨λ_=>rfl,λh=>by cases h⟩ (by
    have:=q1.1;simp at this;simp[this])
 unfold Bf;rw[aw];refine ⟨.pointer (some (adr w.heap.size 0)),_,γ',g.nx,_,?_,?_,r2,.inr ⟨rfl,rfl,r1⟩⟩
 ·simp[Instr.alloc,newVar,fM,h1]
 ·exact .hptr _ _ _ _ _ _ _ r3 (by omega) (λ_=>⟨r7.symm,by rw[r8];simp⟩)
theorem uA (vs:List Value):∀(off k:Nat) (c:Array Value),
  (vs.zipIdx k).foldl (λcs (p:Value×Nat)=>cs.setIfInBounds (off+p.2) p.1) c=ba c (off+k) vs:=by
 induction vs with
 | nil=>intro off k c;rfl
 | cons v vs ih=>intro off k c;simp only[List.zipIdx_cons,List.foldl_cons,ba];rw[ih];rfl
def nj (w:World)(γ:Gm)(A:Nat->Nat->Prop)(bd:Nat)(xs:List AV)(c:Array Value):Prop :=
 RVs w γ A bd xs c.toList/\∀(i:Nat) y,xs[i]?=some y->y.one=true
theorem B1 {xs cs row':List AV}{c:Array Value}{vs:List Value}{off:Nat}(h:nj w γ A bd xs c)(hv:RVs w γ A bd cs vs)
  (h1:∀(i:Nat) y,cs[i]?=some y->y.one=true) (hp:bL xs off cs=some row'):nj w γ A bd row' (ba c off vs):=by
 obtain ⟨p1,p2,p3⟩:=pg hp;have hl:off+vs.length<=c.size:=by have:=h.1.1;have:=hv.1;simp at *;omega
 refine ⟨⟨by have:=h.1.1;simp[bA] at *;omega,λi x v hx hv'=>?_⟩,λi y hy=>?_⟩
 ·rw[p3] at hx;simp only[Array.getElem?_toList] at hv';rw[bJ _ _ _ _ hl] at hv';have:=hv.1
  split at hx
  ·rw[if_pos (by omega)] at hv';exact hv.2 _ _ _ hx hv'
  ·rw[if_neg (by omega)] at hv';exact h.1.2 _ _ _ hx (by simpa using hv')
 ·rw[p3] at hy
  split at hy
  ·exact h1 _ _ hy
  ·exact h.2 _ _ hy
theorem Hq {place:Nat->Option (Nat×Nat)}:∀{is:List Nat} {pl:List (Nat×Nat)} {xs:List AV} {vs:List Value} {zero cs:List AV} {c:Array Value},
  aE place is=some pl->nj w γ A bd zero c->RVs w γ A bd xs vs->eg zero (pl.zip xs)=some cs->is.length=xs.length ->
  ∃c',Instr.fill place c (is.zip vs)=some c'/\nj w γ A bd cs c':=by
 intro is
 induction is with
 | nil =>
  intro pl xs vs zero cs c hp hc hv h hl;simp[aE] at hp;subst hp;have:xs=[]:=List.eq_nil_of_length_eq_zero hl.symm;subst this;simp[eg] at h;subst h;exact ⟨c,by simp[Instr.fill],hc⟩
 | cons i is ih =>
  intro pl xs vs zero cs c hp hc hv h hl;cases xs with
  | nil=>cases hl
  | cons x xs =>
   cases vs with
   | nil=>have:=hv.1;cases this
   | cons v vs =>
    simp only[aE] at hp;cases hpi:place i with
    | none=>rw[hpi] at hp;cases hp
    | some q =>
     rw[hpi] at hp;cases hpr:aE place is with
     | none=>rw[hpr] at hp;cases hp
     | some pl' =>
      rw[hpr] at hp;injection hp with hp;subst hp;obtain ⟨off,size⟩:=q;simp only[List.zip_cons_cons,eg,aa,aw] at h
      split at h
      ·rename_i hcond;simp only[Bool.and_eq_true,notb_eq,Bool.not_eq_true'] at hcond;obtain ⟨h1,h2⟩:=hcond;have h1:=aD h1;cases hput:bL zero off x.cells with
       | none=>rw[hput] at h;cases h
       | some row' =>
        rw[hput] at h;have hx:=hv.2 0 x v rfl rfl;obtain ⟨q1,q2⟩:=nz hx h2;have hsz:v.cells.size=size:=by rw[<-h1];have:=q1.1;simp at this;exact this.symm
        have hin:=(pg hput).2.1;have hcs:zero.length=c.size:=by have:=hc.1.1;simpa using this
        obtain ⟨c',r1,r2⟩:=ih (c:=ba c off v.cells.toList) hpr (B1 hc q1 q2 hput) ⟨by have:=hv.1;simpa using this,λk y u hy hu=>hv.2 (k+1) y u (by simpa using hy) (by simpa using hu)⟩ h (by simpa using hl);refine ⟨c',?_,r2⟩;have hfold:(v.cells.zipIdx.foldl (λcs (p:Value×Nat)=>cs.setIfInBounds (off+p.2) p.1) c)=ba c off v.cells.toList:=by rw[<-Array.foldl_toList,Array.toList_zipIdx];exact uA _ _ _ _
        simp only[List.zip_cons_cons,Instr.fill,hpi];rw[if_neg (by simp[hsz];omega)];rw[show (v.cells.zipIdx.foldl (λcs x=>cs.setIfInBounds (off+x.2) x.1) c)=_ from hfold];exact r1
      ·cases h
theorem Am {ty:TypeId}{parts:Array (Nat×Operand)}{zero:List AV}{pl:List (Nat×Nat)}{vs:T->List AV}{t:T}{g:G}{place:Nat->Option (Nat×Nat)}
  {ev:Operand->Value} (hz:eB C.P ty=some zero) (hv:RVs w γ A bd (vs t) ((parts.toList.map (·.2)).map ev))
  (hp:aE place (parts.toList.map (·.1))=some pl)
  (hrun:∀(z:Value) (cells:Array Value),(zeroValue ty).run C.P w=.ok z w->Instr.fill place z.cells ((parts.map λ(i,x)=>(i,ev x)).toList)=some cells ->
   (Instr.build ty (parts.map λ(i,x)=>(i,ev x))).run C.P w=.ok (.agg cells) w) :
  ValSim C A bd w γ (Instr.build ty (parts.map λ(i,x)=>(i,ev x))) (mA zero pl vs t g):=by
 unfold mA;cases hfl:eg zero (pl.zip (vs t)) with
 | none=>trivial
 | some cs =>
  obtain ⟨z,z1,z2⟩:=lI (w:=w) hz;have zr:=mm (w:=w) (γ:=γ) (A:=A) (bd:=bd) z2;have hl:(parts.toList.map (·.1)).length=(vs t).length:=by have:=hv.1;simp at *;omega
  obtain ⟨c',r1,r2⟩:=Hq (c:=z.cells) hp zr hv hfl hl;have e:(parts.map λ(i,x)=>(i,ev x)).toList=(parts.toList.map (·.1)).zip ((parts.toList.map (·.2)).map ev):=by
   rw[Array.toList_map]
   induction parts.toList with
   | nil=>rfl
   | cons p ps ih=>simp[ih]
  exact ⟨.agg c',hrun z c' z1 (by rw[e];exact r1),.agg _ _ _ (by have:=r2.1.1;simpa using this) r2.2 (λi x v hx hv=>r2.1.2 i x v hx (by simpa using hv))⟩
end
end Hx
end
section
namespace Hx
open Go
theorem Gp {i j sz:Nat}(hj:j<sz):(i*sz+j) % sz=j:=by rw[Nat.add_comm,Nat.add_mul_mod_self_right,Nat.mod_eq_of_lt hj]
section
variable {C:Cfg}{A:Nat->Nat->Prop}{bd:Nat}{w:World}{γ:Gm}{hg:Nat->AObj}{nx:Nat}
def fq (zero:Array Value)(n:Nat):Array Value:=(Array.range n).map (zero[· % zero.size]!)
theorem lM (zero:Array Value)(n:Nat):(fq zero n).size=n:=by simp[fq]
theorem H9 {zero:Array Value}{n k:Nat}(h:k<n)(hz:0<zero.size):(fq zero n)[k]?=zero[k % zero.size]?:=by have h2:k % zero.size<zero.size:=Nat.mod_lt _ hz;simp[fq,h,Array.getElem?_eq_getElem h2,getElem!_pos zero (k % zero.size) h2]
theorem DH {n i:Nat}{row r:List AV}(h:(eV n row)[i]?=some r):r=row/\i<n:=by
 unfold eV at h;rw[List.getElem?_replicate] at h
 split at h
 ·injection h with h;exact ⟨h.symm,by assumption⟩
 ·cases h
def RowsRel (w:World)(γ:Gm)(A:Nat->Nat->Prop)(bd sz:Nat)(rows:List (List AV))(c:Array Value):Prop :=
 rows.length*sz<=c.size/\(∀(i:Nat) row,rows[i]?=some row->row.length=sz) /\
 ∀(i j:Nat) row x,rows[i]?=some row->row[j]?=some x->x.one=true/\∃v,c[i*sz+j]?=some v/\RV w γ A bd x v
theorem so {ty:TypeId}{zero:List AV}{z:Value}{sz n m:Nat}(hz:xl z.cells.toList=some zero)(hsz:zero.length=sz)(h0:0<sz)(hn:n*sz<=m) :
  RowsRel w γ A bd sz (eV n zero) (fq z.cells m):=by
 obtain ⟨q1,q2⟩:=mm (w:=w) (γ:=γ) (A:=A) (bd:=bd) hz;have hzs:z.cells.size=sz:=by have:=q1.1;simp at this;omega
 refine ⟨by simp[eV,lM,hn],λi row h=>by rw[(DH h).1];exact hsz,λi j row x h hx=>?_⟩;obtain ⟨e,hi⟩:=DH h;subst e;have hj:j<sz:=by rw[<-hsz];exact (List.getElem?_eq_some_iff.1 hx).1
 have hlt:i*sz+j<n*sz:=by have:(i+1)*sz<=n*sz:=Nat.mul_le_mul_right _ hi;rw[Nat.add_mul,Nat.one_mul] at this;omega
 have hj':j<z.cells.toList.length:=by simp;omega
 refine ⟨q2 j x hx,z.cells.toList[j],?_,q1.2 j x _ hx (List.getElem?_eq_getElem hj')⟩;rw[H9 (by omega) (by omega),hzs,Gp hj];have:j<z.cells.size:=by omega
 simp[this]
theorem Bu {sz:Nat}(h0:0<sz):∀{is:List Nat} {xs:List AV} {vs:List Value} {rows rows':List (List AV)} {c:Array Value} {n:Nat},
  RowsRel w γ A bd sz rows c->rows.length=n->c.size=n*sz->RVs w γ A bd xs vs->fd sz rows (is.zip xs)=some rows'->is.length=xs.length ->
  ∃c',Instr.fill (λi=>some (i*sz,sz)) c (is.zip vs)=some c'/\RowsRel w γ A bd sz rows' c'/\rows'.length=n/\c'.size=n*sz:=by
 intro is
 induction is with
 | nil =>
  intro xs vs rows rows' c n hc hl hcs hv h hle;have:xs=[]:=List.eq_nil_of_length_eq_zero hle.symm;subst this;simp[fd] at h;subst h;exact ⟨c,by simp[Instr.fill],hc,hl,hcs⟩
 | cons i is ih =>
  intro xs vs rows rows' c n hc hl hcs hv h hle;cases xs with
  | nil=>cases hle
  | cons x xs =>
   cases vs with
   | nil=>have:=hv.1;cases this
   | cons v vs =>
    simp only[List.zip_cons_cons,fd,aa,aw,fA] at h
    split at h
    ·rename_i hcond;simp only[Bool.and_eq_true,notb_eq,Bool.not_eq_true',Nat.blt_eq] at hcond;obtain ⟨⟨h1,h2⟩,h3⟩:=hcond;have h1:=aD h1;have hx:=hv.2 0 x v rfl rfl;obtain ⟨q1,q2⟩:=nz hx h3;have hvl:v.cells.toList.length=sz:=by rw[<-q1.1,h1]
     have hmul:(i+1)*sz<=rows.length*sz:=Nat.mul_le_mul_right _ h2;rw[Nat.add_mul,Nat.one_mul] at hmul;have hin:i*sz+v.cells.toList.length<=c.size:=by rw[hvl,hcs,<-hl];exact hmul
     have hc':RowsRel w γ A bd sz (rows.set i x.cells) (ba c (i*sz) v.cells.toList):=by
      refine ⟨by rw[bA,List.length_set];exact hc.1,λk row hk=>?_,λk j row y hk hy=>?_⟩
      ·rw[List.getElem?_set] at hk
       by_cases hik:i=k
       ·subst hik;rw[if_pos rfl,if_pos h2] at hk;injection hk with hk;subst hk;exact h1
       ·rw[if_neg hik] at hk;exact hc.2.1 k row hk
      ·rw[List.getElem?_set] at hk;rw[bJ _ _ _ _ hin]
       by_cases hik:i=k
       ·subst hik;rw[if_pos rfl,if_pos h2] at hk;injection hk with hk;subst hk;have hj:j<sz:=by rw[<-h1];exact (List.getElem?_eq_some_iff.1 hy).1
        have hjl:j<v.cells.toList.length:=by omega
        rw[if_pos (by omega),show i*sz+j - i*sz=j from by omega];exact ⟨q2 j y hy,_,List.getElem?_eq_getElem hjl,q1.2 j y _ hy (List.getElem?_eq_getElem hjl)⟩
       ·rw[if_neg hik] at hk;have hj:j<sz:=by rw[<-hc.2.1 k row hk];exact (List.getElem?_eq_some_iff.1 hy).1
        rw[if_neg]
        ·exact hc.2.2 k j row y hk hy
        ·rintro ⟨l1,l2⟩;exact hik (Ja (i:=i) (i':=k) hj l1 (by omega)).symm
     obtain ⟨c',r1,r2,r3,r4⟩:=ih (c:=ba c (i*sz) v.cells.toList) (n:=n) hc' (by simp[hl]) (by rw[bA];exact hcs)
      ⟨by have:=hv.1;simpa using this,λk y u hy hu=>hv.2 (k+1) y u (by simpa using hy) (by simpa using hu)⟩ h (by simpa using hle)
     refine ⟨c',?_,r2,r3,r4⟩;have hfold:(v.cells.zipIdx.foldl (λcs (p:Value×Nat)=>cs.setIfInBounds (i*sz+p.2) p.1) c)=ba c (i*sz) v.cells.toList:=by rw[<-Array.foldl_toList,Array.toList_zipIdx];exact uA _ _ _ _
     have hvs:v.cells.size=sz:=by simpa using hvl
     simp only[List.zip_cons_cons,Instr.fill];rw[if_neg (by simp[hvs];rw[hcs,<-hl];omega)];rw[show (v.cells.zipIdx.foldl (λcs x=>cs.setIfInBounds (i*sz+x.2) x.1) c)=_ from hfold];exact r1
    ·cases h
theorem pd {sz:Nat}{rows:List (List AV)}{cs:Array Value}(e:TypeId)(hr:Rel C A bd w γ hg nx){g:G}(hf:(γ g.nx).kind=0)
  (h:RowsRel w γ A bd sz rows cs) (len cap:Nat) (loose:Bool) (slack:Nat) (hs:(loose=false->slack=0)/\(loose=true->rows.length+slack<=9223372036854775807)) (hc:(rows.length+slack)*sz<=cs.size)
  (hcap:cap=rows.length+slack) (hlen:len<=rows.length) :
  ∃γ',Rel C A bd (World.add w (.cells cs e (0,0))) γ' (upd hg g.nx (.cells sz rows 0 loose false)) (Nat.max nx (g.nx+1))/\Stp w γ (World.add w (.cells cs e (0,0))) γ' /\
   RV (World.add w (.cells cs e (0,0))) γ' A bd (.hsl g.nx 0 0 len none) (.slice (some (adr w.heap.size 0)) len cap):=by
 obtain ⟨γ',r1,r2,r3,r4,r5,r6,r7,r8,r9⟩:=BQ (sz:=sz) (rows:=rows) (cs:=cs) e hr hf h.2.1 h.2.2 loose slack hs hc;refine ⟨γ',r1,r2,.hsl _ _ _ _ _ _ _ _ _ r3 (by omega) (by omega) λ_=>⟨r7.symm,by rw[r8];simp,?_⟩⟩;simp only[gg,r6,r9];omega
theorem xR {ty e:TypeId}{len sz:Nat}{parts:Array (Nat×Operand)}{zero:List AV}{vs:T->List AV}{t:T}{g:G}{ev:Operand->Value}
  (hr:Rel C A bd w γ hg nx) (hf:(γ g.nx).kind=0) (hu:C.P.underlying ty=some (.slice e)) (hsz:szT C.P e=some sz) (hz:eB C.P e=some zero)
  (hzl:zero.length=sz) (h0:0<sz) (hsmall:len*sz<=1048576) (hv:RVs w γ A bd (vs t) ((parts.toList.map (·.2)).map ev)) :
  cF C A bd w γ hg nx (Instr.buildSlice ty len (parts.map λ(i,x)=>(i,ev x))) g (fQ sz len (eV len zero) (parts.toList.map (·.1)) vs t g):=by
 unfold fQ;cases hfl:fd sz (eV len zero) ((parts.toList.map (·.1)).zip (vs t)) with
 | none=>trivial
 | some rows =>
  obtain ⟨z,z1,z2⟩:=lI (w:=w) hz;have hzs:z.cells.size=sz:=by have:=(mm (w:=w) (γ:=γ) (A:=A) (bd:=bd) z2).1.1;simp at this;omega
  have hl:(parts.toList.map (·.1)).length=(vs t).length:=by have:=hv.1;simp at *;omega
  obtain ⟨c',r1,r2,r3,r4⟩:=Bu h0 (c:=fq z.cells (len*sz)) (n:=len) (so (ty:=e) (w:=w) (γ:=γ) (A:=A) (bd:=bd) z2 hzl h0 (Nat.le_refl _)) (by simp[eV]) (lM _ _) hv hfl hl;have he:(parts.map λ(i,x)=>(i,ev x)).toList=(parts.toList.map (·.1)).zip ((parts.toList.map (·.2)).map ev):=by
   rw[Array.toList_map]
   induction parts.toList with
   | nil=>rfl
   | cons p ps ih=>simp[ih]
  have hrun:(Instr.buildSlice ty len (parts.map λ(i,x)=>(i,ev x))).run C.P w=.ok (.slice (some (adr w.heap.size 0)) len len) (World.add w (.cells c' e (0,0))):=by
   have hbig:¬(2 ^ 24<len*sz):=by omega
   unfold Instr.buildSlice;rw[he]
   by_cases h:len*sz=0
   ·have e0:fq z.cells (len*sz)=#[]:=by rw[h];simp[fq]
    rw[e0] at r1;have e1:(Array.range 0).map (λx=>(#[]:Array Value)[x % (#[]:Array Value).size]!)=#[]:=by simp
    simp only[Sem.run_bind,aC hu,Result.andThen_ok,aW hsz];rw[if_neg (by omega)];simp only[Sem.run_bind,h,if_true,Sem.run_pure,Result.andThen_ok,e1,r1,fM]
   ·have e0:(Array.range (len*sz)).map (λx=>z.cells[x % z.cells.size]!)=fq z.cells (len*sz):=rfl;simp only[Sem.run_bind,aC hu,Result.andThen_ok,aW hsz];rw[if_neg (by omega)];simp only[Sem.run_bind,h,if_false,z1,Result.andThen_ok,Sem.run_pure,e0,r1,fM]
  obtain ⟨γ',s1,s2,s3⟩:=pd (w:=w) e hr hf r2 len len false 0 ⟨λ_=>rfl,λh=>by cases h⟩ (by rw[Nat.add_zero];exact r2.1) (by omega) (by omega);exact ⟨_,_,γ',g.nx,_,hrun,s3,s2,.inr ⟨rfl,rfl,s1⟩⟩
end
end Hx
end
section
namespace Hx
open Go
section
variable {C:Cfg}{A:Nat->Nat->Prop}{bd:Nat}{w:World}{γ:Gm}{hg:Nat->AObj}{nx:Nat}
theorem uF {lim n:Nat}{x:AV}{v:Value}(h:bZ lim x=some n)(hv:RV w γ A bd x v):n<=lim/\∃k,v=.int k (n:Int):=by
 unfold bZ at h
 split at h
 ·rw[aa] at h
  split at h
  ·rename_i hl;rw[Nat.ble_eq] at hl;injection h with h;subst h;cases hv;exact ⟨hl,_,rfl⟩
  ·cases h
 ·cases h
theorem pt (n:Nat)(h:n<9223372036854775808):IntKind.wrap .i64 (n:Int)=(n:Int):=lL n h
theorem Ab {ty e:TypeId}{sz bytes:Nat}{zero:List AV}{l c:T->AV}{t:T}{g:G}{vl vc:Value}
  (hr:Rel C A bd w γ hg nx) (hf:(γ g.nx).kind=0) (hu:C.P.underlying ty=some (.slice e)) (hsz:szT C.P e=some sz) (hby:ii C.P e=some bytes) (hz:eB C.P e=some zero)
  (hzl:zero.length=sz) (h0:0<sz) (hl:RV w γ A bd (l t) vl) (hc:RV w γ A bd (c t) vc) :
  cF C A bd w γ hg nx (Instr.makeSlice ty vl vc) g (fK sz bytes zero l c t g):=by
 unfold fK;cases hcn:bZ aP (c t) with
 | none=>trivial
 | some cn =>
  dsimp only;cases hln:bZ cn (l t) with
  | none=>trivial
  | some ln =>
   dsimp only;rw[aa]
   split
   ·rename_i hroom;rw[Nat.ble_eq] at hroom;obtain ⟨c1,kc,rfl⟩:=uF hcn hc;obtain ⟨l1,kl,rfl⟩:=uF hln hl;obtain ⟨z,z1,z2⟩:=lI (w:=w) hz;have hzs:z.cells.size=sz:=by have:=(mm (w:=w) (γ:=γ) (A:=A) (bd:=bd) z2).1.1;simp at this;omega
    unfold aP at c1 hroom;obtain ⟨γ',s1,s2,s3⟩:=pd (w:=w) (cs:=fq z.cells (cn*sz)) e hr hf (so (ty:=e) (n:=cn) z2 hzl h0 (Nat.le_refl _)) ln cn false 0 ⟨λ_=>rfl,λh=>by cases h⟩
     (by simp[eV,lM]) (by simp[eV]) (by simpa [eV] using l1)
    refine ⟨_,_,γ',g.nx,_,?_,s3,s2,.inr ⟨rfl,rfl,s1⟩⟩;have hi:∃i,C.P.info? e=some i/\i.bytes=bytes:=by
     unfold ii at hby;cases hie:C.P.info? e with
     | none=>rw[hie] at hby;cases hby
     | some i=>rw[hie] at hby;simp at hby;exact ⟨i,rfl,hby⟩
    obtain ⟨i,i1,i2⟩:=hi;have w1:=pt ln (by omega);have w2:=pt cn (by omega);have hb1:¬((bytes:Int)*(cn:Int) > 2 ^ 48):=by rw[<-Int.natCast_mul,Nat.mul_comm];omega
    have hb2:¬((bytes:Int)*(ln:Int) > 2 ^ 48):=by have h3:ln*bytes<=cn*bytes:=Nat.mul_le_mul_right _ l1;rw[<-Int.natCast_mul,Nat.mul_comm];omega
    unfold Instr.makeSlice;simp only[Sem.run_bind,aC hu,Result.andThen_ok,asInt,asIntOf,Sem.run_pure,jf i1,i2,w1,w2];rw[if_neg (by simp only[Bool.or_eq_true,decide_eq_true_eq,not_or];omega)];simp only[Sem.run_bind,run_askRoom,Result.andThen_ok,aW hsz,Int.toNat_natCast]
    by_cases h:cn*sz=0
    ·have e0:fq z.cells (cn*sz)=#[]:=by rw[h];simp[fq]
     have e1:(Array.range 0).map (λx=>(#[]:Array Value)[x % (#[]:Array Value).size]!)=#[]:=by simp
     rw[e0,h];simp only[if_true,Sem.run_bind,Sem.run_pure,Result.andThen_ok,e1,fM]
    ·have e0:(Array.range (cn*sz)).map (λx=>z.cells[x % z.cells.size]!)=fq z.cells (cn*sz):=rfl;simp only[h,if_false,Sem.run_bind,z1,Result.andThen_ok,Sem.run_pure,e0,fM]
   ·trivial
theorem qV {f:Field}{n b o:Nat}(hn:szT C.P f.type=some (n+1)):(fieldPlace (adr b o) f).run C.P w=.ok (adr b (o+f.offset)) w:=by unfold fieldPlace;simp only[Sem.run_bind,aW hn,Result.andThen_ok];rw[if_neg (by omega)];simp[eC]
theorem zX {ty:TypeId}{f fo n:Nat}{ft:TypeId}{a:T->AV}{t:T}{g:G}{va:Value}
  (ha:RV w γ A bd (a t) va) (hf:qW C.P ty f=some (fo,ft)) (hn:szT C.P ft=some (n+1)) :
  ValSim C A bd w γ (Instr.fieldAt ty va f) (iB fo a t g):=by
 unfold qW at hf;cases hu:C.P.underlying ty with
 | none=>rw[hu] at hf;cases hf
 | some d =>
  rw[hu] at hf;cases d with
  | struct fs =>
   dsimp only at hf;cases hx:fs[f]? with
   | none=>rw[hx] at hf;cases hf
   | some x =>
    rw[hx] at hf;injection hf with hf;injection hf with h1 h2;subst h1;subst h2;unfold iB;generalize a t=y at *;cases ha with
    | tptr _ tag sz rows i0 off0 b o cell ht hb hm ha' hrl ho hw h hcl =>
     refine ⟨_,?_,.tptr _ tag sz rows i0 (off0+x.offset) b o cell ht hb hm ha' hrl ho hw h hcl⟩;simp[Instr.fieldAt,aC hu,hx,Instr.sureAddr,qV hn,Nat.add_assoc]
    | hptr _ id ep i off b o hk he h =>
     refine ⟨.pointer (some (adr b (o+x.offset))),?_,.hptr _ id ep i (off+x.offset) b _ hk he λe=>?_⟩
     ·simp[Instr.fieldAt,aC hu,hx,Instr.sureAddr,qV hn]
     ·obtain ⟨c1,c2⟩:=h e;exact ⟨c1,by rw[c2];omega⟩
    | _=>trivial
  | _=>cases hf
theorem Ds {ty:TypeId}{ag:Bool}{n off:Nat}{cs:List AV}{c:Array Value}{x:AV}(hc:nj w γ A bd cs c)
  (hag:p_ C.P ty=some ag) (hn:szT C.P ty=some n) (h:bG ag n cs off=some x):∃v,(part ty c off).run C.P w=.ok v w/\RV w γ A bd x v:=by
 unfold bG at h;cases ag with
 | false =>
  simp only[c_] at h;have hl:off<c.toList.length:=by rw[<-hc.1.1];exact (List.getElem?_eq_some_iff.1 h).1
  have hl':off<c.size:=by simpa using hl
  refine ⟨c[off],?_,hc.1.2 off x _ h (by simp[hl'])⟩;simp[part,jZ hag,hl']
 | true =>
  simp only[bh,bg,aw,aa] at h
  split at h
  ·rename_i hl;have hl:=aD hl;injection h with h;subst h;have hcs:cs.length=c.size:=by have:=hc.1.1;simpa using this
   have hln:off+n<=c.size\/n=0:=by simp at hl;omega
   refine ⟨.agg (c.extract off (off+n)),by simp[part,jZ hag,aW hn],.agg _ _ _ (by rw[hl];simp;omega) (λi y hy=>?_) (λi y v hy hv=>?_)⟩
   ·have hi:i<n:=by rw[<-hl];exact (List.getElem?_eq_some_iff.1 hy).1
    rw[List.getElem?_take_of_lt hi,List.getElem?_drop] at hy;exact hc.2 _ _ hy
   ·have hi:i<n:=by rw[<-hl];exact (List.getElem?_eq_some_iff.1 hy).1
    rw[List.getElem?_take_of_lt hi,List.getElem?_drop] at hy;rw[Array.getElem?_extract] at hv
    split at hv
    ·exact hc.1.2 _ _ _ hy (by simpa using hv)
    ·cases hv
  ·cases h
theorem Ak {cs:List AV}{v:Value}(h:RV w γ A bd (.agg cs) v):∃c,v=.agg c/\nj w γ A bd cs c:=by
 cases h with
 | agg _ _ c hl h1 h'=>exact ⟨c,rfl,⟨by simpa using hl,λi x v hx hv=>h' i x v hx (by simpa using hv)⟩,h1⟩
theorem Ho {ty:TypeId}{f fo n:Nat}{ft:TypeId}{ag:Bool}{y:AV}{va:Value}
  (ha:RV w γ A bd y va) (hf:qW C.P ty f=some (fo,ft)) (hag:p_ C.P ft=some ag) (hn:szT C.P ft=some n) :
  ValSim C A bd w γ (Instr.field ty va f) (match y with | .agg cs=>orV (bG ag n cs fo) | _=>.fail):=by
 unfold qW at hf;cases hu:C.P.underlying ty with
 | none=>rw[hu] at hf;cases hf
 | some d =>
  rw[hu] at hf;cases d with
  | struct fs =>
   dsimp only at hf;cases hx:fs[f]? with
   | none=>rw[hx] at hf;cases hf
   | some x =>
    rw[hx] at hf;injection hf with hf;injection hf with h1 h2;subst h1;subst h2;cases y with
    | agg cs =>
     obtain ⟨c,rfl,hc⟩:=Ak ha;refine mo λz hz=>?_;obtain ⟨v,h1,h2⟩:=Ds hc hag hn hz;exact ⟨v,by simp[Instr.field,aC hu,hx,asAgg,h1],h2⟩
    | _=>trivial
  | _=>cases hf
theorem yJ {k:IntKind}{n:Int}{v:Value}(h:RV w γ A bd (.int k n) v):v=.int k n:=by cases h;rfl
theorem C1 {ty e:TypeId}{sz:Nat}{a ix:T->AV}{t:T}{g:G}{va vi:Value}(hr:Rel C A bd w γ hg nx)
  (ha:RV w γ A bd (a t) va) (hi:RV w γ A bd (ix t) vi) (hu:C.P.underlying ty=some (.slice e)) (hsz:szT C.P e=some sz)
  (agree:∀id∈ak (a t),hg id=g.h.get id) :
  ValSim C A bd w γ (Instr.indexAt ty va vi) (fe sz a ix t g):=by
 unfold fe;generalize a t=y at *;generalize ix t=z at *;cases ha with
 | tsl _ tag sz' rows b o cap cell ht hc hb hm ha' hrl ho hw h hcl =>
  dsimp only
  split
  ·rename_i k i;rw[aa]
   split
   ·rename_i hcond;simp only[Bool.and_eq_true,Nat.blt_eq,aw] at hcond;obtain ⟨h1,h2⟩:=hcond;have h1:=aD h1;subst h1;have hvi:=yJ hi;subst hvi;refine ⟨_,?_,.tptr _ tag sz rows i 0 b o cell ht hb hm ha' hrl ho hw h hcl⟩;simp[Instr.indexAt,asIntOf,aC hu,h2,aW hsz,eC]
   ·trivial
  ·trivial
 | tnil _ tag sz' a' cap ht =>
  dsimp only
  split
  ·rename_i k i;rw[aa]
   split
   ·rename_i hcond;simp[aw] at hcond
   ·trivial
  ·trivial
 | hsl _ id ep off len lim b o cap hk he hc h =>
  have hagree:=agree id (by simp[ak]);dsimp only
  split
  ·rename_i k i;simp only[G.get_eq,<-hagree];cases hid:hg id with
   | cells sz' rows ep' loose fz =>
    dsimp only;rw[aa]
    split
    ·rename_i hcond;simp only[Bool.and_eq_true,Nat.blt_eq] at hcond;obtain ⟨⟨h1,h2⟩,h3⟩:=hcond;have h1:=aD h1;have h2:=aD h2;subst h2;have hvi:=yJ hi;subst hvi;have hob:=hr.obj id;rw[hid] at hob;obtain ⟨k1,k2,k3,_⟩:=hob;obtain ⟨c1,c2,_⟩:=h (h1.trans k2.symm);refine ⟨.pointer (some (adr b (o+i*sz))),?_,.hptr _ id ep (off+i) 0 b _ hk he λ_=>⟨c1,?_⟩⟩
     ·simp[Instr.indexAt,asIntOf,aC hu,h3,aW hsz,eC]
     ·rw[c2,k3,Nat.add_mul];omega
    ·trivial
   | _=>trivial
  ·trivial
 | _=>trivial
theorem CZ {ty e:TypeId}{n sz:Nat}{a ix:T->AV}{t:T}{g:G}{va vi:Value}
  (ha:RV w γ A bd (a t) va) (hi:RV w γ A bd (ix t) vi) (hu:C.P.underlying ty=some (.array n e)) (hsz:szT C.P e=some sz) :
  ValSim C A bd w γ (Instr.indexAt ty va vi) (lB n sz a ix t g):=by
 unfold lB;generalize a t=y at *;generalize ix t=z at *
 split
 ·rename_i k i;rw[aa]
  split
  ·rename_i hlt;rw[Nat.blt_eq] at hlt;have hvi:=yJ hi;subst hvi;have h2:=hlt;cases ha with
   | tptr _ tag sz' rows i0 off0 b o cell ht hb hm ha' hrl ho hw h hcl =>
    refine ⟨_,?_,.tptr _ tag sz' rows i0 (off0+i*sz) b o cell ht hb hm ha' hrl ho hw h hcl⟩;simp[Instr.indexAt,asIntOf,aC hu,h2,aW hsz,eC,Instr.sureAddr,Nat.add_assoc]
   | hptr _ id ep j off b o hk he h =>
    refine ⟨.pointer (some (adr b (o+i*sz))),?_,.hptr _ id ep j (off+i*sz) b _ hk he λe=>?_⟩
    ·simp[Instr.indexAt,asIntOf,aC hu,h2,aW hsz,eC,Instr.sureAddr]
    ·obtain ⟨c1,c2⟩:=h e;exact ⟨c1,by rw[c2];omega⟩
   | _=>trivial
  ·trivial
 ·trivial
theorem Hu {ty e:TypeId}{ag:Bool}{n sz:Nat}{a ix:T->AV}{t:T}{g:G}{va vi:Value}
  (ha:RV w γ A bd (a t) va) (hi:RV w γ A bd (ix t) vi) (hu:C.P.underlying ty=some (.array n e)) (hag:p_ C.P e=some ag) (hsz:szT C.P e=some sz) :
  ValSim C A bd w γ (Instr.index ty va vi) (tF ag n sz a ix t g):=by
 unfold tF;generalize a t=y at *;generalize ix t=z at *;cases y with
 | agg cs =>
  dsimp only
  split
  ·rename_i k i;rw[aa]
   split
   ·rename_i hlt;rw[Nat.blt_eq] at hlt;have hvi:=yJ hi;subst hvi;have h2:=hlt;obtain ⟨c,rfl,hc⟩:=Ak ha;refine mo λx hx=>?_;obtain ⟨v,h1,h3⟩:=Ds hc hag hsz hx;exact ⟨v,by simp[Instr.index,asIntOf,aC hu,h2,aW hsz,h1],h3⟩
   ·trivial
  ·trivial
 | _=>trivial
theorem BA {ty:TypeId}{a ix:T->AV}{t:T}{g:G}{va vi:Value}
  (ha:RV w γ A bd (a t) va) (hi:RV w γ A bd (ix t) vi) (hu:C.P.underlying ty=some .string) :
  ValSim C A bd w γ (Instr.index ty va vi) (oe a ix t g):=by
 unfold oe;generalize a t=y at *;generalize ix t=z at *;cases ha with
 | str _ s =>
  dsimp only
  split
  ·rename_i k i;simp only[c_];cases hb:s.data.toList[i]? with
   | none=>trivial
   | some b =>
    have hvi:=yJ hi;subst hvi;refine ⟨.int .u8 b.toNat,?_,.int _ _ _⟩;have hlt:i<s.size:=by have:=(List.getElem?_eq_some_iff.1 hb).1;simpa using this
    have hb':s[i]?=some b:=by rw[getElem?_pos s i hlt];have:=(List.getElem?_eq_some_iff.1 hb).2;rw[Array.getElem_toList] at this;exact congrArg some this
    simp[Instr.index,asIntOf,aC hu,hb']
  ·trivial
 | _=>trivial
end
end Hx
end
section
namespace Hx
open Go
section
variable {C:Cfg}{A:Nat->Nat->Prop}{bd:Nat}{w w':World}{γ γ':Gm}{hg:Nat->AObj}{nx:Nat}
def RowsAt (w:World)(γ:Gm)(A:Nat->Nat->Prop)(bd sz:Nat)(rows:List (List AV))(b o:Nat):Prop :=
 (∀(i:Nat) row,rows[i]?=some row->row.length=sz) /\
 ∀(i j:Nat) row x,rows[i]?=some row->row[j]?=some x->x.one=true/\∃v,w.cell? (adr b (o+i*sz+j))=some v/\RV w γ A bd x v
theorem AW {rows:List (List AV)}{sz k:Nat}(hr:∀(i:Nat) row,rows[i]?=some row->row.length=sz)(hk:k<rows.length*sz) :
  ∃row x,rows[k / sz]?=some row/\row[k % sz]?=some x:=by
 have h0:0<sz:=by
  rcases Nat.eq_zero_or_pos sz with h | h
  ·subst h;simp at hk
  ·exact h
 have hi:k / sz<rows.length:=by rw[Nat.div_lt_iff_lt_mul h0];exact hk
 have e:=List.getElem?_eq_getElem hi;have hl:=hr _ _ e;have hj:k % sz<rows[k / sz].length:=by rw[hl];exact Nat.mod_lt _ h0
 exact ⟨_,_,e,List.getElem?_eq_getElem hj⟩
theorem yQ {rows:List (List AV)}{sz b o:Nat}(h:RowsAt w γ A bd sz rows b o)(P:Program) :
  ∃c,(loadCells (adr b o) (rows.length*sz)).run P w=.ok c w/\c.size=rows.length*sz/\RowsRel w γ A bd sz rows c:=by
 have hex:∀k:Fin (rows.length*sz),∃v,w.cell? (adr b (o+k.1))=some v/\∀row x,rows[k.1 / sz]?=some row->row[k.1 % sz]?=some x->x.one=true/\RV w γ A bd x v:=by
  intro k;obtain ⟨row,x,h1,h2⟩:=AW h.1 k.2;obtain ⟨a,v,c1,c2⟩:=h.2 _ _ row x h1 h2;refine ⟨v,?_,λrow' x' h1' h2'=>?_⟩
  ·have:o+k.1 / sz*sz+k.1 % sz=o+k.1:=by rw[Nat.add_assoc,Nat.mul_comm,Nat.div_add_mod]
   rw[<-this];exact c1
  ·rw[h1] at h1';injection h1' with h1';subst h1';rw[h2] at h2';injection h2' with h2';subst h2';exact ⟨a,c2⟩
 let f:Fin (rows.length*sz)->Value:=λk=>Classical.choose (hex k)
 have hf:=λk=>Classical.choose_spec (hex k);have hlen:(List.ofFn f).length=rows.length*sz:=by simp
 have hrun:=sO (P:=P) (w:=w) (b:=b) (o:=o) (cs:=List.ofFn f) (λj c hc=>by
  have hj:j<rows.length*sz:=by rw[<-hlen];exact (List.getElem?_eq_some_iff.1 hc).1
  rw[List.getElem?_ofFn] at hc;simp[hj] at hc;rw[<-hc];exact (hf ⟨j,hj⟩).1)
 rw[hlen] at hrun;refine ⟨_,hrun,by simp,by simp,h.1,λi j row x h1 h2=>?_⟩;have hi:i<rows.length:=(List.getElem?_eq_some_iff.1 h1).1;have hj:j<sz:=by rw[<-h.1 i row h1];exact (List.getElem?_eq_some_iff.1 h2).1
 have hk:i*sz+j<rows.length*sz:=by have:(i+1)*sz<=rows.length*sz:=Nat.mul_le_mul_right _ hi;rw[Nat.add_mul,Nat.one_mul] at this;omega
 have e1:(i*sz+j) / sz=i:=by rw[Nat.add_comm,Nat.add_mul_div_right _ _ (by omega),Nat.div_eq_of_lt hj];omega
 obtain ⟨a,b'⟩:=(hf ⟨i*sz+j,hk⟩).2 row x (by rw[e1];exact h1) (by rw[Gp hj];exact h2);exact ⟨a,f ⟨i*sz+j,hk⟩,by simp[hk],b'⟩
theorem RowsAt.sub {rows:List (List AV)}{sz b o:Nat}(h:RowsAt w γ A bd sz rows b o)(l n:Nat):RowsAt w γ A bd sz ((rows.drop l).take n) b (o+l*sz):=by
 refine ⟨λi row hi=>?_,λi j row x hi hj=>?_⟩
 ·have hi':i<n:=by have:=(List.getElem?_eq_some_iff.1 hi).1;simp at this;omega
  rw[List.getElem?_take_of_lt hi',List.getElem?_drop] at hi;exact h.1 _ _ hi
 ·have hi':i<n:=by have:=(List.getElem?_eq_some_iff.1 hi).1;simp at this;omega
  rw[List.getElem?_take_of_lt hi',List.getElem?_drop] at hi;obtain ⟨a,v,c1,c2⟩:=h.2 _ _ row x hi hj;exact ⟨a,v,by rw[show o+l*sz+i*sz+j=o+(l+i)*sz+j from by rw[Nat.add_mul];omega];exact c1,c2⟩
theorem yY (hr:Rel C A bd w γ hg nx){id sz ep:Nat}{rows:List (List AV)}{loose fz:Bool}(hid:hg id=.cells sz rows ep loose fz) :
  RowsAt w γ A bd sz rows (γ id).blk (γ id).base:=by
 have hob:=hr.obj id;rw[hid] at hob;obtain ⟨k1,k2,k3,k4,k5,k6,c,e,k7,k8,k9,k10⟩:=hob;exact ⟨k9,λi j row x h1 h2=>rY hr hid h1 j x h2⟩
theorem E7 (hr:Rel C A bd w γ hg nx){sz:Nat}{x:AV}{v:Value}{h:H}{rows:List (List AV)}(hx:RV w γ A bd x v)
  (hrow:ah h sz x=some rows) (agree:∀id∈ak x,hg id=h.get id) :
  ∃b o cap,(v=.slice none 0 0/\rows=[]\/v=.slice (some (adr b o)) rows.length cap\/(∃a,v=.slice (some a) 0 cap)/\rows=[])/\RowsAt w γ A bd sz rows b o:=by
 unfold ah at hrow;cases hx with
 | nils=>injection hrow with hrow;subst hrow;exact ⟨0,0,0,.inl ⟨rfl,rfl⟩,λi row h=>by simp at h,λi j row x h=>by simp at h⟩
 | esl _ a=>injection hrow with hrow;subst hrow;exact ⟨0,0,0,.inr (.inr ⟨⟨a,rfl⟩,rfl⟩),λi row h=>by simp at h,λi j row x h=>by simp at h⟩
 | tnil _ tag sz' a cap ht =>
  simp only[aa] at hrow
  split at hrow
  ·injection hrow with hrow;subst hrow;exact ⟨0,0,cap,.inr (.inr ⟨⟨a,rfl⟩,rfl⟩),λi row h=>by simp at h,λi j row x h=>by simp at h⟩
  ·cases hrow
 | tsl _ tag sz' rows' b o cap cell ht hc hb hm ha hrl ho hw h =>
  simp only[aa] at hrow
  split at hrow
  ·rename_i hcond;injection hrow with hrow;subst hrow;refine ⟨b,o,cap,.inr (.inl rfl),?_⟩;simp only[Bool.or_eq_true] at hcond;rcases hcond with hcond | hcond
   ·have:=aD hcond;subst this;exact ⟨hrl,λi j row x h1 h2=>⟨ho i j row x h1 h2,_,hw i j row x h1 h2,(h i j row x h1 h2).mono ht⟩⟩
   ·have:rows'=[]:=by cases rows'<;>simp_all
    subst this;exact ⟨λi row h=>by simp at h,λi j row x h=>by simp at h⟩
  ·cases hrow
 | hsl _ id ep off len lim b o cap hk he hc h =>
  have hagree:=agree id (by simp[ak]);dsimp only at hrow;rw[<-hagree] at hrow;cases hid:hg id with
  | cells sz' rows' ep' loose fz =>
   rw[hid] at hrow;simp only[aa,aw,bh,bg] at hrow
   split at hrow
   ·rename_i hcond;simp only[Bool.and_eq_true,Nat.ble_eq] at hcond;obtain ⟨⟨h1,h2⟩,h3⟩:=hcond;have h1:=aD h1;have h2:=aD h2;subst h2;injection hrow with hrow;subst hrow;have hob:=hr.obj id;rw[hid] at hob;obtain ⟨k1,k2,k3,_⟩:=hob;obtain ⟨c1,c2,_⟩:=h (h1.trans k2.symm);refine ⟨b,o,cap,.inr (.inl ?_),?_⟩
    ·simp;omega
    ·rw[c1,c2,k3];exact (yY hr hid).sub off len
   ·cases hrow
  | _=>rw[hid] at hrow;cases hrow
 | _=>cases hrow
theorem RowsRel.append {sz:Nat}{r1 r2:List (List AV)}{c1 c2:Array Value}(h1:RowsRel w γ A bd sz r1 c1)(e1:c1.size=r1.length*sz)(h2:RowsRel w γ A bd sz r2 c2) :
  RowsRel w γ A bd sz (r1++r2) (c1++c2):=by
 refine ⟨by have:=h2.1;simp[Nat.add_mul];omega,λi row hi=>?_,λi j row x hi hj=>?_⟩
 ·rw[List.getElem?_append] at hi
  split at hi
  ·exact h1.2.1 _ _ hi
  ·exact h2.2.1 _ _ hi
 ·rw[List.getElem?_append] at hi
  split at hi
  ·rename_i hlt;obtain ⟨a,v,b1,b2⟩:=h1.2.2 i j row x hi hj;have hlt':=(Array.getElem?_eq_some_iff.1 b1).1;exact ⟨a,v,by rw[Array.getElem?_append_left hlt'];exact b1,b2⟩
  ·rename_i hge;obtain ⟨a,v,b1,b2⟩:=h2.2.2 _ j row x hi hj;have:i*sz=r1.length*sz+(i - r1.length)*sz:=by rw[<-Nat.add_mul];congr 1;omega
   refine ⟨a,v,?_,b2⟩;rw[Array.getElem?_append_right (by omega),<-b1];congr 1;omega
theorem RowsRel.more {sz:Nat}{r1:List (List AV)}{c1 c2:Array Value}(h1:RowsRel w γ A bd sz r1 c1):RowsRel w γ A bd sz r1 (c1++c2):=by refine ⟨by have:=h1.1;simp;omega,h1.2.1,λi j row x hi hj=>?_⟩;obtain ⟨a,v,b1,b2⟩:=h1.2.2 i j row x hi hj;have hlt':=(Array.getElem?_eq_some_iff.1 b1).1;exact ⟨a,v,by rw[Array.getElem?_append_left hlt'];exact b1,b2⟩
theorem RowsRel.step {sz:Nat}{r1:List (List AV)}{c1:Array Value}(h1:RowsRel w γ A bd sz r1 c1)(s:Stp w γ w' γ'):RowsRel w' γ' A bd sz r1 c1 :=
 ⟨h1.1,h1.2.1,λi j row x hi hj=>let ⟨a,v,b1,b2⟩:=h1.2.2 i j row x hi hj;⟨a,v,b1,b2.step s⟩⟩
theorem RowsRel.flat {sz:Nat}{rows:List (List AV)}{c:Array Value}(h:RowsRel w γ A bd sz rows c)(e:c.size=rows.length*sz) :
  RVs w γ A bd rows.flatten c.toList/\(∀(i:Nat) y,rows.flatten[i]?=some y->y.one=true) /\
  (∀(i j:Nat) row,rows[i]?=some row->j<sz->rows.flatten[i*sz+j]?=row[j]?):=by
 have hfl:rows.flatten.length=rows.length*sz:=by
  have h2:=h.2.1;clear e h
  induction rows with
  | nil=>simp
  | cons r rs ih =>
   have h0:=h2 0 r rfl;simp only[List.flatten_cons,List.length_append,List.length_cons,Nat.add_mul,Nat.one_mul];rw[ih (λi row hi=>h2 (i+1) row (by simpa using hi)),h0];omega
 have hidx:∀(i j:Nat) row,rows[i]?=some row->j<sz->rows.flatten[i*sz+j]?=row[j]?:=by
  have h2:=h.2.1;clear e hfl h
  induction rows with
  | nil=>intro i j row hi;simp at hi
  | cons r rs ih =>
   intro i j row hi hj;have h0:=h2 0 r rfl;cases i with
   | zero=>simp at hi;subst hi;simp only[List.flatten_cons,Nat.zero_mul,Nat.zero_add];rw[List.getElem?_append_left (by omega)]
   | succ i =>
    simp only[List.flatten_cons];rw[Nat.add_mul,Nat.one_mul,List.getElem?_append_right (by omega),h0,show i*sz+sz+j - sz=i*sz+j from by omega];exact ih (λi row hi=>h2 (i+1) row (by simpa using hi)) i j row (by simpa using hi) hj
 have hall:∀(k:Nat) y,rows.flatten[k]?=some y->∃row,rows[k / sz]?=some row/\row[k % sz]?=some y/\k / sz*sz+k % sz=k:=by
  intro k y hy;have hk:k<rows.length*sz:=by rw[<-hfl];exact (List.getElem?_eq_some_iff.1 hy).1
  obtain ⟨row,x,h1,h2⟩:=AW h.2.1 hk;have h0:0<sz:=by
   rcases Nat.eq_zero_or_pos sz with h | h
   ·subst h;simp at hk
   ·exact h
  have ek:k / sz*sz+k % sz=k:=by rw[Nat.mul_comm,Nat.div_add_mod]
  have:=hidx _ _ row h1 (Nat.mod_lt k h0);rw[ek,hy] at this;exact ⟨row,h1,this.symm,ek⟩
 refine ⟨⟨by rw[hfl];simp[e],λk y v hy hv=>?_⟩,λk y hy=>?_,hidx⟩
 ·obtain ⟨row,h1,h2,h3⟩:=hall k y hy;obtain ⟨a,u,b1,b2⟩:=h.2.2 _ _ row y h1 h2;rw[h3] at b1;simp only[Array.getElem?_toList] at hv;rw[hv] at b1;injection b1 with b1;subst b1;exact b2
 ·obtain ⟨row,h1,h2,h3⟩:=hall k y hy;exact (h.2.2 _ _ row y h1 h2).1
end
end Hx
end
section
namespace Hx
open Go
section
variable {C:Cfg}{A:Nat->Nat->Prop}{bd:Nat}{w w':World}{γ γ':Gm}{hg:Nat->AObj}{nx:Nat}
def World.drewn (w:World):World:={ w with drawn:=w.drawn+1 }
theorem wh:Stp w γ (World.drewn w) γ :=
 ⟨Nat.le_refl _,rfl,rfl,rfl,λ_ _ _=>rfl,λ_ _ h=>h,λ_ _=>.inl ⟨rfl,rfl⟩,λ_ _=>⟨Nat.le_refl _,λ_=>⟨rfl,rfl,rfl,rfl,rfl⟩⟩,Nat.le_succ _⟩
theorem Rel.stpSame (h:Rel C A bd w γ hg nx)(s:Stp w γ w' γ)(hh:w'.heap=w.heap):Rel C A bd w' γ hg nx where
 obj id:=(h.obj id).step s rfl (λ_ _=>by rw[hh])
 lt id hk:=by rw[hh];exact h.lt id hk
 inj:=h.inj
 av:=h.av
 ab t b hb:=by rw[hh];exact h.ab t b hb
 glob g sz rows hg:=(h.glob g sz rows hg).step s
theorem xk (need cap:Nat)(h:cap<need):Builtin.nextslicecap need cap<=2*need+192:=by
 have grow:∀(r c:Nat),c<=2*need+192->Builtin.growBy need r c<=2*need+192:=by
  intro r
  induction r with
  | zero=>intro c hc;exact hc
  | succ r ih =>
   intro c hc;simp only[Builtin.growBy]
   split
   ·exact hc
   ·exact ih _ (by omega)
 unfold Builtin.nextslicecap
 split
 ·omega
 ·split
  ·omega
  ·exact grow _ _ (by omega)
theorem JG:∀{vs:List Value} {as:List AV},xl vs=some as->vs.length=as.length:=by
 intro vs
 induction vs with
 | nil=>intro as h;simp[xl] at h;subst h;rfl
 | cons v vs ih =>
  intro as h;simp only[xl] at h
  split at h
  ·rename_i a as' h1 h2;injection h with h;subst h;simp[ih h2]
  ·cases h
structure Src (C:Cfg) (A:Nat->Nat->Prop) (bd sz:Nat) (w:World) (γ:Gm) (new:List (List AV)) (m:Sem (Array Value)):Prop where
 run:∀w1:World,w1.heap=w.heap->∃c,m.run C.P w1=.ok c w1/\c.size=new.length*sz/\RowsRel w γ A bd sz new c
def gi (e:TypeId)(sz bytes:Nat)(base:Option Addr)(sLen sCap n:Nat)(fq:Bool)(s x:Value)(appended:Sem (Array Value)):Sem Value:=do
 let need:=sLen+n
 if need<=sCap then
  let new <-appended
  if let some a:=base then storeCells (a.add (sLen*sz)) new.toList
  pure (.slice base need sCap)
 else
  if (need : Int) > IntKind.i64.max ∧ (fq ∨ (← typeInfo e).bytes = 0) then runtimePanic (.error "growslice: len out of range")
  if Builtin.nextslicecap need sCap * (← typeInfo e).bytes > 2 ^ 48 then (if fq then runtimePanic (.error "growslice: len out of range") else do
   if !(<-Builtin.mayShare sz sLen n base x) then mark .noRoom
   unsupported (.resourceLimit "append: a slice or a string whose bytes no memory bears"))
  let newCap <-choose (.appendCap need sCap e)
  askRoom (newCap*(<-typeInfo e).bytes)
  let old <-Builtin.firstCells sz sLen s
  let new <-appended
  let rest:=Builtin.zeroCells (<-zeroValue e).cells (newCap - need)
  pure (.slice (some (<-newRow e (old++new++rest))) need newCap)
theorem oD {e:TypeId}{sz bytes:Nat}{base:Option Addr}{sLen sCap n:Nat}{zs:Bool}{s x:Value}{appended:Sem (Array Value)}{zero:List AV}
  (hby:ii C.P e=some bytes) (hz:eB C.P e=some zero) (hzl:zero.length=sz) (h0:0<bytes) (hroom:(sLen+n)*bytes<=aP) (hn:¬sLen+n<=sCap)
  {oldc newc:Array Value} (hold:(Builtin.firstCells sz sLen s).run C.P (World.drewn w)=.ok oldc (World.drewn w))
  (hnew:appended.run C.P (World.drewn w)=.ok newc (World.drewn w)) :
  ∃newCap rest,(sLen+n<=newCap/\newCap<=9223372036854775807)/\rest.size=(newCap - (sLen+n))*sz /\
   (gi e sz bytes base sLen sCap n zs s x appended).run C.P w =
    .ok (.slice (some (adr w.heap.size 0)) (sLen+n) newCap) (World.add (World.drewn w) (.cells (oldc++newc++rest) e (0,0))):=by
 have hi:∃i,C.P.info? e=some i/\i.bytes=bytes:=by
  unfold ii at hby;cases hie:C.P.info? e with
  | none=>rw[hie] at hby;cases hby
  | some i=>rw[hie] at hby;simp at hby;exact ⟨i,rfl,hby⟩
 obtain ⟨i,i1,i2⟩:=hi;obtain ⟨z,z1,z2⟩:=lI (w:=World.drewn w) hz;have hzs:z.cells.size=sz:=by have:=JG z2;simp at this;omega
 unfold aP at hroom;have hle:sLen+n<=(sLen+n)*bytes:=Nat.le_mul_of_pos_right _ h0;have hns:=xk (sLen+n) sCap (by omega);have hb1:Builtin.nextslicecap (sLen+n) sCap*bytes<=2 ^ 48:=by
  have h1:Builtin.nextslicecap (sLen+n) sCap*bytes<=(2*(sLen+n)+192)*bytes:=Nat.mul_le_mul_right _ hns;have h2:bytes<=(sLen+n)*bytes:=Nat.le_mul_of_pos_left _ (by omega);have h3:(2*(sLen+n)+192)*bytes=2*((sLen+n)*bytes)+192*bytes:=by rw[Nat.add_mul,Nat.mul_assoc]
  omega
 let q:Question:=.appendCap (sLen+n) sCap e
 let newCap:=q.cut (w.tape w.drawn q)
 have hcut:sLen+n<=newCap/\newCap<=9223372036854775807:=by have hmod:w.tape w.drawn q % (2 ^ 63 - (sLen+n))<2 ^ 63 - (sLen+n):=Nat.mod_lt _ (by omega);have:newCap=(sLen+n)+w.tape w.drawn q % (2 ^ 63 - (sLen+n)):=rfl;omega
 refine ⟨newCap,Builtin.zeroCells z.cells (newCap - (sLen+n)),hcut,by simp[Builtin.zeroCells,hzs],?_⟩;unfold gi;have hi64:¬(((sLen+n:Nat):Int) > IntKind.i64.max):=by
  have:IntKind.i64.max=9223372036854775807:=by decide
  rw[this];omega
 have hch:(choose (.appendCap (sLen+n) sCap e)).run C.P w=.ok newCap (World.drewn w):=by rw[run_choose];rfl
 have hnb:¬(Builtin.nextslicecap (sLen+n) sCap*bytes > 2 ^ 48):=by omega
 dsimp only;rw[if_neg hn];simp only[Sem.run_bind,jf i1,Result.andThen_ok,i2];rw[if_neg (λh=>hi64 h.1)];simp only[Result.andThen_ok,Sem.run_bind,jf i1,i2];rw[if_neg hnb];simp only[Sem.run_bind,Sem.run_pure,Result.andThen_ok,hch,jf i1,run_askRoom,hold,hnew,z1,fM]
 rfl
theorem qa {e:TypeId}{sz bytes:Nat}{base:Option Addr}{sLen sCap n:Nat}{zs:Bool}{s x:Value}{appended:Sem (Array Value)}
  (hn:sLen+n<=sCap) {newc:Array Value} (hnew:appended.run C.P w=.ok newc w) :
  (gi e sz bytes base sLen sCap n zs s x appended).run C.P w =
   match base with
   | none=>.ok (.slice none (sLen+n) sCap) w
   | some a=>((storeCells (a.add (sLen*sz)) newc.toList).run C.P w).andThen λ_ w'=>.ok (.slice (some a) (sLen+n) sCap) w':=by
 unfold gi;dsimp only;rw[if_pos hn];simp only[Sem.run_bind,hnew,Result.andThen_ok];cases base with
 | none=>simp
 | some a=>simp
theorem rf (hr:Rel C A bd w γ hg nx){id ep off len sz:Nat}{lim:Option Nat}{v:Value}{rows:List (List AV)}{loose fz:Bool}
  (hv:RV w γ A bd (.hsl id ep off len lim) v) (hid:hg id=.cells sz rows ep loose fz) :
  ∃cap,v=.slice (some (adr (γ id).blk ((γ id).base+off*sz))) len cap/\len<=cap/\gg lim off cap (γ id):=by
 cases hv with
 | hsl _ _ _ _ _ _ b o cap hk he hc h =>
  have hob:=hr.obj id;rw[hid] at hob;obtain ⟨k1,k2,k3,_⟩:=hob;obtain ⟨c1,c2,c3⟩:=h k2.symm;exact ⟨cap,by rw[c1,c2,k3],hc,c3⟩
theorem qY {P:Program}{b o len cap sz:Nat}{rows:List (List AV)}(h:RowsAt w γ A bd sz rows b o)(hl:rows.length=len) :
  ∃c,(Builtin.firstCells sz len (.slice (some (adr b o)) len cap)).run P w=.ok c w/\c.size=rows.length*sz/\RowsRel w γ A bd sz rows c:=by
 obtain ⟨c,h1,h2,h3⟩:=yQ h P;exact ⟨c,by simp only[Builtin.firstCells];rw[<-hl];exact h1,h2,h3⟩
theorem RowsAt.same {rows:List (List AV)}{sz b o:Nat}(h:RowsAt w γ A bd sz rows b o)(s:Stp w γ w' γ)(hh:w'.heap=w.heap):RowsAt w' γ A bd sz rows b o :=
 ⟨h.1,λi j row x h1 h2=>let ⟨a,v,c,d⟩:=h.2 i j row x h1 h2;⟨a,v,by rw[xu (w:=w) (w':=w') (by rw[hh])];exact c,d.step s⟩⟩
theorem RowsRel.back {rows:List (List AV)}{sz:Nat}{c:Array Value}(h:RowsRel (World.drewn w) γ A bd sz rows c):RowsRel w γ A bd sz rows c:=by obtain ⟨h1,h2,h3⟩:=h;exact ⟨h1,h2,λi j row x a b=>let ⟨c,v,d,e⟩:=h3 i j row x a b;⟨c,v,d,e.heap rfl⟩⟩
theorem vS {e:TypeId}{sz:Nat}{rows:List (List AV)}{cs:Array Value}(hr:Rel C A bd w γ hg nx){g:G}(hf:(γ g.nx).kind=0)
  (h:RowsRel w γ A bd sz rows cs) (len cap:Nat) (hc:cap*sz<=cs.size) (hcap:rows.length<=cap) (hlen:len=rows.length) (hmax:cap<=9223372036854775807) :
  ∃γ',Rel C A bd (World.add (World.drewn w) (.cells cs e (0,0))) γ' (upd hg g.nx (.cells sz rows 0 true false)) (Nat.max nx (g.nx+1)) /\
   Stp w γ (World.add (World.drewn w) (.cells cs e (0,0))) γ' /\
   RV (World.add (World.drewn w) (.cells cs e (0,0))) γ' A bd (.hsl g.nx 0 0 len none) (.slice (some (adr w.heap.size 0)) len cap):=by
 have s0:Stp w γ (World.drewn w) γ:=wh;have hr':=hr.stpSame s0 rfl;obtain ⟨γ',s1,s2,s3⟩:=pd (w:=World.drewn w) e hr' hf (h.step s0) len cap true (cap - rows.length) ⟨λh=>(by cases h),λ_=>(by omega)⟩
  (by rw[show rows.length+(cap - rows.length)=cap from by omega];exact hc) (by omega) (by omega)
 exact ⟨γ',s1,s0.trans s2,s3⟩
theorem Rel.moved (hr:Rel C A bd w γ hg nx){id:Nat}{sz ep:Nat}{rows rows':List (List AV)}{loose:Bool}(hid:hg id=.cells sz rows ep loose false)
  {w1:World} {gh:Gh} (h1:gh.kind=1) (h2:gh.ep=ep+1) (h3:gh.sz=sz) (h4:gh.n=rows'.length) (h5:gh.wr=true)
  (hos:w1.os=w.os/\w1.tape=w.tape/\w1.output=w.output/\w.heap.size<=w1.heap.size) (hdr:w.drawn<=w1.drawn)
  (hmax:rows'.length+gh.slack<=9223372036854775807) (hb:gh.blk=(γ id).blk\/(gh.blk=w.heap.size/\w.heap.size<w1.heap.size))
  (hheap:∀b,b<w.heap.size->b≠(γ id).blk->w1.heap[b]?=w.heap[b]?)
  {c:Array Value} {e:TypeId} (hc:w1.heap[gh.blk]?=some (.cells c e (0,0))) (hsz:gh.base+(rows'.length+gh.slack)*sz<=c.size)
  (hrl:∀(i:Nat) row,rows'[i]?=some row->row.length=sz)
  (hcell:∀(i j:Nat) row x,rows'[i]?=some row->row[j]?=some x->x.one=true/\∃v,c[gh.base+i*sz+j]?=some v/\RV w γ A bd x v) :
  Rel C A bd w1 (upd γ id gh) (upd hg id (.cells sz rows' (ep+1) true false)) nx/\Stp w γ w1 (upd γ id gh):=by
 have hob:=hr.obj id;rw[hid] at hob;obtain ⟨k1,k2,k3,k4,k5,k6,_⟩:=hob;have hk:(γ id).kind≠0:=by rw[k1];decide
 have hw:(γ id).wr=true:=by simpa using k6
 have hlt:=hr.lt id hk;have s:Stp w γ w1 (upd γ id gh):=by
  refine ⟨hos.2.2.2,hos.1,hos.2.1,hos.2.2.1,λb hb' hm=>hheap b hb' (λe=>hm ⟨id,hk,hw,e.symm⟩),λb hb'=>?_,λj hj=>?_,λj hj=>?_,hdr⟩
  ·rintro ⟨j,m1,m2,m3⟩
   by_cases hj:j=id
   ·subst hj;simp only[upd_same] at m3;rcases hb with hb | hb
    ·exact ⟨j,hk,hw,by rw[<-hb];exact m3⟩
    ·omega
   ·rw[bN _ _ hj] at m1 m2 m3;exact ⟨j,m1,m2,m3⟩
  ·by_cases hji:j=id
   ·subst hji;rw[upd_same];exact .inr ⟨k1,h1,by rw[h2,k2];omega⟩
   ·rw[bN _ _ hji];exact .inl ⟨rfl,rfl⟩
  ·by_cases hji:j=id
   ·subst hji;rw[upd_same,h2,k2];exact ⟨by omega,λh=>by omega⟩
   ·rw[bN _ _ hji];exact ⟨Nat.le_refl _,λ_=>⟨rfl,rfl,rfl,rfl,rfl⟩⟩
 refine ⟨hr.set rfl s (Nat.le_refl _) ?_ ⟨hlt.1,?_⟩ (λj hj hkj e=>?_) ?_ (λj hj hkj _=>?_),s⟩
 ·simp only[ObjRel,upd_same];refine ⟨h1,h2,h3,h4,⟨λh=>(by cases h),λ_=>hmax⟩,by rw[h5];rfl,c,e,hc,hsz,hrl,λi j row x a b=>?_⟩;obtain ⟨p,v,q1,q2⟩:=hcell i j row x a b;exact ⟨p,v,q1,q2.step s⟩
 ·rcases hb with hb | hb
  ·rw[hb];omega
  ·omega
 ·rcases hb with hb | hb
  ·exact hj (hr.inj j id hkj hk (by rw[e,hb]))
  ·have:=(hr.lt j hkj).2;omega
 ·rcases hb with hb | hb
  ·rw[hb];exact hr.av id hk
  ·exact λt ht=>by have:=hr.ab t _ ht;omega
 ·exact hheap _ (hr.lt j hkj).2 (λe=>hj (hr.inj j id hkj hk e))
end
end Hx
end
section
namespace Hx
open Go
section
variable {C:Cfg}{A:Nat->Nat->Prop}{bd:Nat}{w w':World}{γ γ':Gm}{hg:Nat->AObj}{nx:Nat}
theorem gY {P:Program}(a:Addr):(storeCells a []).run P w=.ok () w:=rfl
theorem Dx {rows new:List (List AV)}{off:Nat}(h:off+new.length<=rows.length) :
  (gV rows off new).length=rows.length/\∀i,(gV rows off new)[i]?=if off<=i/\i<off+new.length then new[i - off]? else rows[i]?:=by
 unfold gV;simp only[fA,bh,bg,aw]
 split
 ·rename_i r;refine ⟨by simp,λi=>?_⟩;simp only[List.length_cons,List.length_nil] at h ⊢;rw[List.getElem?_set]
  by_cases hi:off=i
  ·subst hi;rw[if_pos rfl,if_pos (by omega),if_pos (by omega)];simp
  ·rw[if_neg hi,if_neg (by omega)]
 ·refine ⟨by simp;omega,λi=>?_⟩
  by_cases h1:i<off
  ·rw[if_neg (by omega),List.getElem?_append_left (by simp;omega),List.getElem?_take_of_lt h1]
  ·rw[List.getElem?_append_right (by simp;omega)];simp only[List.length_take,Nat.min_eq_left (show off<=rows.length by omega)]
   by_cases h2:i<off+new.length
   ·rw[if_pos ⟨by omega,h2⟩,List.getElem?_append_left (by omega)]
   ·rw[if_neg (by omega),List.getElem?_append_right (by omega),List.getElem?_drop];congr 1;omega
theorem Rel.storeRows (hr:Rel C A bd w γ hg nx){id sz ep off:Nat}{rows new:List (List AV)}{loose:Bool}(hid:hg id=.cells sz rows ep loose false)
  {c:Array Value} (hc:RowsRel w γ A bd sz new c) (hcs:c.size=new.length*sz) (hle:off+new.length<=rows.length) (P:Program) :
  ∃w',(Go.storeCells (adr (γ id).blk ((γ id).base+off*sz)) c.toList).run P w=.ok () w' /\
   Rel C A bd w' γ (upd hg id (.cells sz (gV rows off new) ep loose false)) nx/\Stp w γ w' γ:=by
 obtain ⟨p1,p2⟩:=Dx hle;have hob:=hr.obj id;rw[hid] at hob;obtain ⟨k1,k2,k3,k4,k5,k6,cc,e,k7,k8,k9,k10⟩:=hob;obtain ⟨f1,f2,f3⟩:=hc.flat hcs;have hcl:c.toList.length=new.length*sz:=by simp[hcs]
 have hmul:(off+new.length)*sz<=rows.length*sz:=Nat.mul_le_mul_right _ hle;rw[Nat.add_mul] at hmul;refine hr.storeCells hid (o:=(γ id).base+off*sz) (xs:=new.flatten) f1 f2 p1 (λi row hi=>?_) ⟨by omega,by omega⟩ (λi j row x hi hj=>?_) P
 ·rw[p2] at hi
  split at hi
  ·exact hc.2.1 _ _ hi
  ·exact k9 _ _ hi
 ·rw[p2] at hi;rw[hcl];have hj':j<sz:=by
   have hl:row.length=sz:=by
    split at hi
    ·exact hc.2.1 _ _ hi
    ·exact k9 _ _ hi
   rw[<-hl];exact (List.getElem?_eq_some_iff.1 hj).1
  by_cases hcond:off<=i/\i<off+new.length
  ·rw[if_pos hcond] at hi;have h1:off*sz<=i*sz:=Nat.mul_le_mul_right _ hcond.1;have h2:(i+1)*sz<=(off+new.length)*sz:=Nat.mul_le_mul_right _ hcond.2;rw[Nat.add_mul,Nat.one_mul,Nat.add_mul] at h2;rw[if_pos (by omega)];have h3:(i - off)*sz+off*sz=i*sz:=by rw[<-Nat.add_mul];congr 1;omega
   rw[show (γ id).base+i*sz+j - ((γ id).base+off*sz)=(i - off)*sz+j from by omega,f3 _ _ row hi hj'];exact hj
  ·rw[if_neg hcond] at hi;rw[if_neg]
   ·exact ⟨row,hi,hj⟩
   ·rintro ⟨l1,l2⟩;apply hcond;refine ⟨?_,?_⟩
    ·rcases Nat.lt_or_ge i off with h | h
     ·have:(i+1)*sz<=off*sz:=Nat.mul_le_mul_right _ h;rw[Nat.add_mul,Nat.one_mul] at this;omega
     ·exact h
    ·rcases Nat.lt_or_ge i (off+new.length) with h | h
     ·exact h
     ·have:(off+new.length)*sz<=i*sz:=Nat.mul_le_mul_right _ h;rw[Nat.add_mul] at this;omega
theorem Kz {rows:List (List AV)}{off len:Nat}(h:off+len<=rows.length):((rows.drop off).take len).length=len:=by simp;omega
noncomputable def xN (sz bytes:Nat)(s0:AV)(new:List (List AV))(g:G):OR :=
 match new with
 | []=>.val s0
 | _=>au (Nat.ble (aY new*bytes) aP) (.upd (.hsl g.nx 0 0 (aY new) none) (g.new (.cells sz new 0 true false))) .fail
theorem qb {e:TypeId}{sz bytes:Nat}{zero:List AV}{s:AV}{v x:Value}{new:List (List AV)}{zs:Bool}{appended:Sem (Array Value)}{g:G}
  (hr:Rel C A bd w γ hg nx) (hf:(γ g.nx).kind=0) (hs:RV w γ A bd s v) (hby:ii C.P e=some bytes) (hz:eB C.P e=some zero) (hzl:zero.length=sz)
  (hb0:0<bytes) (happ:∀w1:World,w1=w\/w1=World.drewn w->∃c,appended.run C.P w1=.ok c w1/\c.size=new.length*sz/\RowsRel w γ A bd sz new c)
  (agree:∀id∈ak s,hg id=g.h.get id) :
  bk sz bytes s new g=.fail\/∃base sLen sCap,v=.slice base sLen sCap /\
   cF C A bd w γ hg nx (gi e sz bytes base sLen sCap new.length zs v x appended) g (bk sz bytes s new g):=by
 have hnil:∀(base:Option Addr) (cap:Nat),new=[]->∀len,len<=cap->(gi e sz bytes base len cap new.length zs (.slice base len cap) x appended).run C.P w=.ok (.slice base len cap) w:=by
  intro base cap hn len hl;obtain ⟨c,c1,c2,_⟩:=happ w (.inl rfl);have hc0:c=#[]:=by rw[hn] at c2;simpa using c2
  rw[qa (by rw[hn];simpa using hl) c1,hn,hc0];cases base<;>simp[gY]
 have hempty:∀(base:Option Addr) (s0:AV),RV w γ A bd s0 (.slice base 0 0)->(Builtin.firstCells sz 0 (.slice base 0 0)).run C.P (World.drewn w)=.ok #[] (World.drewn w) ->
   xN sz bytes s0 new g=.fail \/
   cF C A bd w γ hg nx (gi e sz bytes base 0 0 new.length zs (.slice base 0 0) x appended) g (xN sz bytes s0 new g):=by
  intro base s0 hs0 hold;rcases hnew:new with _ | ⟨r,rs⟩
  ·exact .inr ⟨.slice base 0 0,hnew ▸ hnil base 0 hnew 0 (Nat.le_refl _),hs0⟩
  ·rw[<-hnew];have hne:xN sz bytes s0 new g=au (Nat.ble (aY new*bytes) aP) (OR.upd (.hsl g.nx 0 0 (aY new) none) (g.new (.cells sz new 0 true false))) OR.fail:=by rw[hnew];rfl
   rw[hne];simp only[aw,aa]
   split
   ·rename_i hroom;rw[Nat.ble_eq] at hroom;refine .inr ?_;obtain ⟨c,c1,c2,c3⟩:=happ (World.drewn w) (.inr rfl);have hpos:0<new.length:=by rw[hnew];simp
    obtain ⟨newCap,rest,n1,n2,n3⟩:=oD (zs:=zs) (x:=x) (w:=w) hby hz hzl hb0 (sLen:=0) (n:=new.length) (sCap:=0) (by simpa using hroom) (by omega) hold c1;have hcap:newCap*sz<=(#[]++c++rest).size:=by simp only[Array.size_append,n2,c2,List.size_toArray,List.length_nil];rw[Nat.zero_add,<-Nat.add_mul];apply Nat.mul_le_mul_right;omega
    obtain ⟨γ',s1,s2,s3⟩:=vS (e:=e) (cs:=#[]++c++rest) hr hf (by simpa using c3.more) new.length newCap hcap (by omega) rfl n1.2;rw[Nat.zero_add] at n3;exact ⟨_,_,γ',g.nx,_,n3,s3,s2,.inr ⟨rfl,rfl,s1⟩⟩
   ·exact .inl rfl
 unfold bk;cases hs with
 | nils=>exact (hempty none .nils (.nils _) (by simp[Builtin.firstCells])).imp id λh=>⟨none,0,0,rfl,h⟩
 | esl _ a=>exact (hempty (some a) .esl (.esl _ a) (by simp[Builtin.firstCells,loadCells,loadCellsFrom])).imp id λh=>⟨some a,0,0,rfl,h⟩
 | tsl _ tag sz' rows b o cap cell ht hc hb hm ha hrl ho hw h hcl =>
  cases hnew:new with
  | nil =>
   refine .inr ⟨some (adr b o),rows.length,cap,rfl,.slice (some (adr b o)) rows.length cap,(hnew ▸ hnil _ cap hnew rows.length hc),.tsl _ tag sz' rows b o cap cell ht hc hb hm ha hrl ho hw h hcl⟩
  | cons r rs=>exact .inl rfl
 | tnil _ tag sz' a cap ht =>
  cases hnew:new with
  | nil=>exact .inr ⟨some a,0,cap,rfl,.slice (some a) 0 cap,(hnew ▸ hnil _ cap hnew 0 (Nat.zero_le _)),.tnil _ tag sz' a cap ht⟩
  | cons r rs=>exact .inl rfl
 | hsl _ id ep off len lim b0 o0 cap0 hk he hc0 h0 =>
  have hagree:=agree id (by simp[ak]);simp only[G.get_eq,<-hagree];cases hid:hg id with
  | cells sz' rows ep' loose fz =>
   dsimp only;simp only[aw,aa]
   split
   ·rename_i hcond;simp only[Bool.and_eq_true,Nat.ble_eq] at hcond;obtain ⟨⟨⟨h1,h2⟩,h3⟩,h4⟩:=hcond;have h1:=aD h1;have h2:=aD h2;subst h1;subst h2;obtain ⟨cap,hv,hlc,hco⟩:=rf hr (RV.hsl bd id ep off len lim b0 o0 cap0 hk he hc0 h0) hid;rw[hv];have hob:=hr.obj id;rw[hid] at hob;obtain ⟨k1,k2,k3,k4,k5,k6,cc,ee,k7,k8,k9,k10⟩:=hob
    split
    ·rename_i hfit;rw[Nat.ble_eq] at hfit;have hcapfit:len+new.length<=cap:=by
      unfold gg at hco;cases lim with
      | none=>simp at hfit;dsimp only at hco;omega
      | some c=>simp at hfit;dsimp only at hco;omega
     cases hnew:new with
     | nil =>
      refine .inr ⟨some (adr (γ id).blk ((γ id).base+off*sz)),len,cap,rfl,.slice (some (adr (γ id).blk ((γ id).base+off*sz))) len cap,(hnew ▸ hnil _ cap hnew len hlc),?_⟩;rw[<-hv];exact RV.hsl bd id ep off len lim b0 o0 cap0 hk he hc0 h0
     | cons r rs =>
      dsimp only;rw[<-hnew]
      split
      ·rename_i hc2;simp only[Bool.and_eq_true,Nat.ble_eq,notb_eq,Bool.not_eq_true'] at hc2;obtain ⟨h5,h6⟩:=hc2;subst h6;refine .inr ⟨_,_,_,rfl,?_⟩;obtain ⟨c,c1,c2,c3⟩:=happ w (.inl rfl);obtain ⟨w',r1,r2,r3⟩:=hr.storeRows hid (off:=off+len) c3 c2 (by omega) C.P;refine ⟨.slice (some (adr (γ id).blk ((γ id).base+off*sz))) (len+new.length) cap,w',γ,id,_,?_,?_,r3,.inl ⟨rfl,r2⟩⟩
       ·rw[qa hcapfit c1];dsimp only;rw[eC,show (γ id).base+off*sz+len*sz=(γ id).base+(off+len)*sz from by rw[Nat.add_mul];omega,r1]
        rfl
       ·exact .hsl _ id ep off _ lim _ _ cap k1 (by omega) hcapfit (λ_=>⟨rfl,by rw[k3],hco⟩)
      ·exact .inl rfl
    ·rename_i hnofit;rw[Nat.ble_eq] at hnofit;have hold0:=(yY hr hid).sub off len;have hsub:=Kz (rows:=rows) (off:=off) (len:=len) h3;have hstp:Stp w γ (World.drewn w) γ:=wh
     split
     ·rename_i hstrict;refine .inr ⟨_,_,_,rfl,?_⟩;have hgt:¬len+new.length<=cap:=by
       unfold gg at hco;cases lim with
       | none =>
        simp at hstrict;dsimp only at hco;have:=k5.1 hstrict;simp at hnofit;omega
       | some c=>simp at hnofit;dsimp only at hco;omega
      obtain ⟨c,c1,c2,c3⟩:=happ (World.drewn w) (.inr rfl);obtain ⟨oc,o1,o2,o3⟩:=qY (P:=C.P) (cap:=cap) (hold0.same hstp rfl) hsub;rw[hsub] at o2;obtain ⟨newCap,rest,n1,n2,n3⟩:=oD (zs:=zs) (x:=x) (w:=w) hby hz hzl hb0 (sLen:=len) (n:=new.length) (sCap:=cap) (base:=some (adr (γ id).blk ((γ id).base+off*sz))) (by simpa using h4) hgt o1 c1;have hcap:newCap*sz<=(oc++c++rest).size:=by simp only[Array.size_append,n2,c2,o2];rw[<-Nat.add_mul,<-Nat.add_mul];apply Nat.mul_le_mul_right;omega
      have hrows:RowsRel w γ A bd sz ((rows.drop off).take len++new) (oc++c++rest):=(o3.back.append (by rw[hsub];exact o2) c3).more;obtain ⟨γ',s1,s2,s3⟩:=vS (e:=e) (cs:=oc++c++rest) hr hf hrows (len+new.length) newCap hcap (by simp[hsub];omega) (by simp[hsub]) n1.2;refine ⟨_,_,γ',g.nx,_,n3,s3,s2,.inr ⟨?_,rfl,s1⟩⟩;simp only[bh,bg]
     ·rename_i hloose
      split
      ·exact .inl rfl
      ·rename_i hfz;have hfz:fz=false:=by simpa using hfz
       subst hfz;have hl:lim=none/\loose=true:=by cases lim<;>cases loose<;>simp_all
       obtain ⟨hl1,hl2⟩:=hl;subst hl1;subst hl2;have hco':off+cap=rows.length+(γ id).slack:=by unfold gg at hco;dsimp only at hco;omega
       refine .inr ⟨_,_,_,rfl,?_⟩
       by_cases hfit:len+new.length<=cap
       ·
        obtain ⟨c,c1,c2,c3⟩:=happ w (.inl rfl);have hcsz:(γ id).base+off*sz+len*sz+c.toList.length<=cc.size:=by have:(off+(len+new.length))*sz<=(rows.length+(γ id).slack)*sz:=Nat.mul_le_mul_right _ (by omega);rw[Nat.add_mul,Nat.add_mul] at this;simp[c2];omega
        obtain ⟨f1,f2,f3⟩:=c3.flat c2;have hrun:=rG (P:=C.P) c.toList 0 w cc k7 (o:=(γ id).base+off*sz+len*sz) (by simpa using hcsz) (GG f1 f2);simp only[Nat.add_zero] at hrun
        let gh:Gh:=⟨1,ep+1,sz,len+new.length,(γ id).blk,(γ id).base+off*sz,cap - (len+new.length),true⟩
        obtain ⟨s1,s2⟩:=hr.moved hid (w1:=World.setBlk w (γ id).blk (.cells (ba cc ((γ id).base+off*sz+len*sz) c.toList) ee (0,0))) (gh:=gh)
         (rows':=(rows.drop off).take len++new) rfl rfl rfl (by simp[gh,hsub]) rfl ⟨rfl,rfl,rfl,by simp⟩ (Nat.le_refl _) (by have:=k5.2 rfl;simp[gh,hsub];omega) (.inl rfl)
         (λb _ hb=>by rw[aT,if_neg];rintro ⟨e,_⟩;exact hb e)
         (c:=ba cc ((γ id).base+off*sz+len*sz) c.toList) (e:=ee)
         (by rw[aT];simp[gh,(hr.lt id (by rw[k1];decide)).2])
         (by
          simp only[gh,bA,List.length_append,hsub];have:(off+cap)*sz<=(rows.length+(γ id).slack)*sz:=Nat.mul_le_mul_right _ (by omega);rw[Nat.add_mul] at this;rw[show len+new.length+(cap - (len+new.length))=cap from by omega];omega)
         (λi row hi=>by
          rw[List.getElem?_append] at hi
          split at hi
          ·exact hold0.1 _ _ hi
          ·exact c3.2.1 _ _ hi)
         (λi j row y hi hj=>by
          rw[List.getElem?_append,hsub] at hi
          split at hi
          ·rename_i hil;have hi':=hi;rw[List.getElem?_take_of_lt hil,List.getElem?_drop] at hi';have hjs:j<sz:=by rw[<-k9 _ _ hi'];exact (List.getElem?_eq_some_iff.1 hj).1
           obtain ⟨a,v,b1,b2⟩:=k10 _ j row y hi' hj;refine ⟨a,v,?_,b2⟩;rw[bJ _ _ _ _ hcsz,if_neg]
           ·simp only[gh];rw[show (γ id).base+off*sz+i*sz+j=(γ id).base+(off+i)*sz+j from by rw[Nat.add_mul];omega];exact b1
           ·simp only[gh];have:(i+1)*sz<=len*sz:=Nat.mul_le_mul_right _ hil;rw[Nat.add_mul,Nat.one_mul] at this;omega
          ·rename_i hil;have hjs:j<sz:=by rw[<-c3.2.1 _ _ hi];exact (List.getElem?_eq_some_iff.1 hj).1
           have hlt:i - len<new.length:=(List.getElem?_eq_some_iff.1 hi).1;obtain ⟨a,v,b1,b2⟩:=c3.2.2 _ j row y hi hj;refine ⟨a,v,?_,b2⟩;have e1:i*sz=len*sz+(i - len)*sz:=by rw[<-Nat.add_mul];congr 1;omega
           have e2:(i - len+1)*sz<=new.length*sz:=Nat.mul_le_mul_right _ hlt;rw[Nat.add_mul,Nat.one_mul] at e2;rw[bJ _ _ _ _ hcsz];simp only[gh];rw[if_pos (by simp[c2];omega),show (γ id).base+off*sz+i*sz+j - ((γ id).base+off*sz+len*sz)=(i - len)*sz+j from by omega];simpa using b1)
        refine ⟨.slice (some (adr (γ id).blk ((γ id).base+off*sz))) (len+new.length) cap,_,_,id,_,?_,?_,s2,.inl ⟨?_,s1⟩⟩
        ·rw[qa hfit c1];dsimp only;rw[eC,hrun];rfl
        ·refine .hsl _ id (ep+1) 0 _ none _ _ cap (by simp[gh]) (by simp[gh]) hfit (λ_=>⟨by simp[gh],by simp[gh],?_⟩);simp only[gg,upd_same,gh];omega
        ·simp only[bh,bg]
       ·
        obtain ⟨c,c1,c2,c3⟩:=happ (World.drewn w) (.inr rfl);obtain ⟨oc,o1,o2,o3⟩:=qY (P:=C.P) (cap:=cap) (hold0.same hstp rfl) hsub;rw[hsub] at o2;obtain ⟨newCap,rest,n1,n2,n3⟩:=oD (zs:=zs) (x:=x) (w:=w) hby hz hzl hb0 (sLen:=len) (n:=new.length) (sCap:=cap) (base:=some (adr (γ id).blk ((γ id).base+off*sz))) (by simpa using h4) hfit o1 c1;have hcap:newCap*sz<=(oc++c++rest).size:=by simp only[Array.size_append,n2,c2,o2];rw[<-Nat.add_mul,<-Nat.add_mul];apply Nat.mul_le_mul_right;omega
        have hrows:RowsRel w γ A bd sz ((rows.drop off).take len++new) (oc++c++rest):=(o3.back.append (by rw[hsub];exact o2) c3).more
        let gh:Gh:=⟨1,ep+1,sz,len+new.length,w.heap.size,0,newCap - (len+new.length),true⟩
        obtain ⟨s1,s2⟩:=hr.moved hid (w1:=World.add (World.drewn w) (.cells (oc++c++rest) e (0,0))) (gh:=gh)
         (rows':=(rows.drop off).take len++new) rfl rfl rfl (by simp[gh,hsub]) rfl ⟨rfl,rfl,rfl,by simp[World.drewn]⟩ (Nat.le_succ _) (by have:=n1.1;have:=n1.2;simp[gh,hsub];omega) (.inr ⟨rfl,by simp[World.drewn]⟩)
         (λb hb _=>by rw[iQ,if_neg (by simp[World.drewn];omega)];rfl)
         (c:=oc++c++rest) (e:=e) (by rw[iQ];simp[gh,World.drewn])
         (by simp only[gh,List.length_append,hsub];rw[show len+new.length+(newCap - (len+new.length))=newCap from by omega];omega)
         hrows.2.1 (λi j row y hi hj=>by simpa [gh] using hrows.2.2 i j row y hi hj)
        refine ⟨_,_,_,id,_,n3,?_,s2,.inl ⟨?_,s1⟩⟩
        ·refine .hsl _ id (ep+1) 0 _ none _ _ newCap (by simp[gh]) (by simp[gh]) n1.1 (λ_=>⟨by simp[gh],by simp[gh],?_⟩);simp only[gg,upd_same,gh];omega
        ·simp only[bh,bg]
   ·exact .inl rfl
  | _=>exact .inl rfl
 | _=>exact .inl rfl
end
end Hx
end
section
namespace Hx
open Go
section
variable {C:Cfg}{A:Nat->Nat->Prop}{bd:Nat}{w w':World}{γ γ':Gm}{hg:Nat->AObj}{nx:Nat}
theorem Kx (hr:Rel C A bd w γ hg nx){sz:Nat}{x:AV}{v:Value}{h:H}{rows:List (List AV)}(hx:RV w γ A bd x v)
  (hrow:ah h sz x=some rows) (agree:∀id∈ak x,hg id=h.get id) (P:Program) :
  ∃base cap,v=.slice base rows.length cap/\∀n,n<=rows.length->∀w1:World,w1=w\/w1=World.drewn w ->
   ∃c,(Builtin.firstCells sz n v).run P w1=.ok c w1/\c.size=n*sz/\RowsRel w γ A bd sz (rows.take n) c:=by
 obtain ⟨b,o,cap,hv,hat⟩:=E7 hr hx hrow agree;have hnil:RowsRel w γ A bd sz [] #[]:=⟨by simp,λi row h=>by simp at h,λi j row x h=>by simp at h⟩;rcases hv with ⟨rfl,rfl⟩ | rfl | ⟨⟨a,rfl⟩,rfl⟩
 ·exact ⟨none,0,rfl,λn hn w1 _=>⟨#[],by simp[Builtin.firstCells],by simp at hn;simp[hn],by simpa using hnil⟩⟩
 ·refine ⟨some (adr b o),cap,rfl,λn hn w1 h1=>?_⟩;have hsub:=hat.sub 0 n;simp only[List.drop_zero,Nat.zero_mul,Nat.add_zero] at hsub;have hl:(rows.take n).length=n:=by simp[hn]
  rcases h1 with rfl | rfl
  ·have:=yQ hsub P;rw[hl] at this;simpa [Builtin.firstCells] using this
  ·have:=yQ (hsub.same wh rfl) P;rw[hl] at this;obtain ⟨c,c1,c2,c3⟩:=this;exact ⟨c,by simpa [Builtin.firstCells] using c1,c2,c3.back⟩
 ·refine ⟨some a,cap,rfl,λn hn w1 _=>?_⟩;simp at hn;subst hn;exact ⟨#[],by simp[Builtin.firstCells,loadCells,loadCellsFrom],by simp,by simpa using hnil⟩
theorem Ee {argTypes:Array TypeId}{ty t xt e e':TypeId}{sz bytes:Nat}{zero:List AV}{s x:AV}{v y:Value}{g:G}
  (hr:Rel C A bd w γ hg nx) (hf:(γ g.nx).kind=0) (h0:argTypes[0]?=some t) (h1:argTypes[1]?=some xt) (hu:C.P.underlying t=some (.slice e)) (hux:C.P.underlying xt=some (.slice e'))
  (hsz:szT C.P e=some sz) (hby:ii C.P e=some bytes) (hz:eB C.P e=some zero) (hzl:zero.length=sz) (hb0:0<bytes)
  (hs:RV w γ A bd s v) (hx:RV w γ A bd x y) (agree:∀id∈ak s,hg id=g.h.get id) (agree':∀id∈ak x,hg id=g.h.get id) :
  cF C A bd w γ hg nx (Builtin.append_ argTypes ty #[v,y]) g (cW sz bytes s x g):=by
 unfold cW;cases hrow:ah g.h sz x with
 | none=>trivial
 | some new =>
  dsimp only;obtain ⟨xb,xc,rfl,hsrc⟩:=Kx hr hx hrow agree' C.P;rcases qb (e:=e) (new:=new) (zs:=false) (x:=.slice xb new.length xc) (appended:=Builtin.firstCells sz new.length (.slice xb new.length xc)) hr hf hs hby hz hzl hb0
    (λw1 h=>by simpa using hsrc new.length (Nat.le_refl _) w1 h) agree with h | ⟨base,sLen,sCap,rfl,h⟩
  ·rw[h];trivial
  ·have e1:(Builtin.append_ argTypes ty #[.slice base sLen sCap,.slice xb new.length xc]).run C.P w =
     (gi e sz bytes base sLen sCap new.length false (.slice base sLen sCap) (.slice xb new.length xc) (Builtin.firstCells sz new.length (.slice xb new.length xc))).run C.P w:=by
    unfold Builtin.append_ gi;have a0:(#[Value.slice base sLen sCap,Value.slice xb new.length xc]:Array Value)[0]?=some (.slice base sLen sCap):=rfl;have a1:(#[Value.slice base sLen sCap,Value.slice xb new.length xc]:Array Value)[1]?=some (.slice xb new.length xc):=rfl;simp only[h0,h1,a0,a1,Sem.run_bind,aC hu,aC hux,aW hsz,Builtin.lenOf,Result.andThen_ok,Sem.run_pure]
    rfl
   generalize bk sz bytes s new g=r at h ⊢;cases r<;>simpa only[cF,e1] using h
theorem Ck {argTypes:Array TypeId}{ty t xt e:TypeId}{k:IntKind}{sz bytes:Nat}{zero:List AV}{s x:AV}{v y:Value}{g:G}
  (hr:Rel C A bd w γ hg nx) (hf:(γ g.nx).kind=0) (h0:argTypes[0]?=some t) (h1:argTypes[1]?=some xt) (hu:C.P.underlying t=some (.slice e)) (hux:C.P.underlying xt=some (.int k))
  (hsz:szT C.P e=some sz) (hby:ii C.P e=some bytes) (hz:eB C.P e=some zero) (hzl:zero.length=sz) (hs0:0<sz) (hb0:0<bytes)
  (hs:RV w γ A bd s v) (hx:RV w γ A bd x y) (agree:∀id∈ak s,hg id=g.h.get id) :
  cF C A bd w γ hg nx (Builtin.append_ argTypes ty #[v,y]) g (t7 sz bytes zero s x g):=by
 unfold t7;cases hn:bZ aP x with
 | none=>trivial
 | some n =>
  dsimp only;rw[aa]
  split
  ·rename_i hroom;rw[Nat.ble_eq] at hroom;obtain ⟨n1,kk,rfl⟩:=uF hn hx;have hl:(eV n zero).length=n:=by simp[eV]
   have happ:∀w1:World,w1=w\/w1=World.drewn w->∃c,(if n*sz=0 then pure #[] else do pure (Builtin.zeroCells (<-zeroValue e).cells n):Sem (Array Value)).run C.P w1=.ok c w1 /\
     c.size=(eV n zero).length*sz/\RowsRel w γ A bd sz (eV n zero) c:=by
    intro w1 _;obtain ⟨z,z1,z2⟩:=lI (w:=w1) hz;have hzs:z.cells.size=sz:=by have:=(mm (w:=w) (γ:=γ) (A:=A) (bd:=bd) z2).1.1;simp at this;omega
    refine ⟨fq z.cells (n*sz),?_,by rw[hl];simp[lM],so (ty:=e) z2 hzl hs0 (Nat.le_refl _)⟩
    by_cases h:n*sz=0
    ·rw[if_pos h,h];simp[fq]
    ·rw[if_neg h];simp[z1,Builtin.zeroCells,fq,hzs]
   rcases qb (e:=e) (new:=eV n zero) (zs:=true) (x:=.int kk (n:Int)) hr hf hs hby hz hzl hb0 happ agree with h | ⟨base,sLen,sCap,rfl,h⟩
   ·rw[h];trivial
   ·rw[hl] at h;have hi:∃i,C.P.info? e=some i/\i.bytes=bytes:=by
     unfold ii at hby;cases hie:C.P.info? e with
     | none=>rw[hie] at hby;cases hby
     | some i=>rw[hie] at hby;simp at hby;exact ⟨i,rfl,hby⟩
    obtain ⟨i,i1,i2⟩:=hi;unfold aP at n1 hroom;have w1:=pt n (by omega);have hb1:¬((n:Int)*(bytes:Int) > 2 ^ 48):=by rw[<-Int.natCast_mul];omega
    have e1:(Builtin.append_ argTypes ty #[.slice base sLen sCap,.int kk (n:Int)]).run C.P w =
      (gi e sz bytes base sLen sCap n true (.slice base sLen sCap) (.int kk (n:Int)) (if n*sz=0 then pure #[] else do pure (Builtin.zeroCells (<-zeroValue e).cells n))).run C.P w:=by
     unfold Builtin.append_ gi;have hneg:¬((n:Int)<0):=by omega
     have a0:(#[Value.slice base sLen sCap,Value.int kk (n:Int)]:Array Value)[0]?=some (.slice base sLen sCap):=rfl;have a1:(#[Value.slice base sLen sCap,Value.int kk (n:Int)]:Array Value)[1]?=some (.int kk (n:Int)):=rfl;simp only[h0,h1,a0,a1,Sem.run_bind,aC hu,aC hux,aW hsz,Result.andThen_ok,Sem.run_pure,if_true,asInt,asIntOf,w1,jf i1,i2,if_neg hb1,if_neg hneg]
     rfl
    generalize bk sz bytes s (eV n zero) g=r at h ⊢;cases r<;>simpa only[cF,e1] using h
  ·trivial
theorem It {argTypes:Array TypeId}{ty t e:TypeId}{sz:Nat}{d x:AV}{v y:Value}{g:G}
  (hr:Rel C A bd w γ hg nx) (h0:argTypes[0]?=some t) (hu:C.P.underlying t=some (.slice e)) (hsz:szT C.P e=some sz)
  (hd:RV w γ A bd d v) (hx:RV w γ A bd x y) (agree:∀id∈ak d,hg id=g.h.get id) (agree':∀id∈ak x,hg id=g.h.get id) :
  cF C A bd w γ hg nx (Builtin.copy_ argTypes ty #[v,y]) g (Au sz d x g):=by
 unfold Au;cases hrow:ah g.h sz x with
 | none=>trivial
 | some src =>
  dsimp only;obtain ⟨xb,xc,rfl,hsrc⟩:=Kx hr hx hrow agree' C.P;have hrun:∀base dLen dCap,v=.slice base dLen dCap->∃c,c.size=Nat.min src.length dLen*sz/\RowsRel w γ A bd sz (src.take (Nat.min src.length dLen)) c /\
    (Builtin.copy_ argTypes ty #[v,.slice xb src.length xc]).run C.P w =
     (do if let some a:=base then storeCells a c.toList
         pure (goInt (Nat.min src.length dLen)):Sem Value).run C.P w:=by
   intro base dLen dCap hv;subst hv;obtain ⟨c,c1,c2,c3⟩:=hsrc (Nat.min src.length dLen) (Nat.min_le_left _ _) w (.inl rfl);refine ⟨c,c2,c3,?_⟩;have a0:(#[Value.slice base dLen dCap,Value.slice xb src.length xc]:Array Value)[0]?=some (.slice base dLen dCap):=rfl;have a1:(#[Value.slice base dLen dCap,Value.slice xb src.length xc]:Array Value)[1]?=some (.slice xb src.length xc):=rfl;unfold Builtin.copy_;simp only[h0,a0,a1,Sem.run_bind,aC hu,aW hsz,Builtin.lenOf,Result.andThen_ok,Sem.run_pure,c1]
   rfl
  have hint:∀n:Nat,RV w γ A bd (.int .i64 (n:Int)) (goInt n):=λn=>.int _ _ _;cases hd with
  | nils =>
   obtain ⟨c,c1,c2,c3⟩:=hrun none 0 0 rfl;refine ⟨goInt 0,?_,hint 0⟩;rw[c3];simp
  | esl _ a =>
   obtain ⟨c,c1,c2,c3⟩:=hrun (some a) 0 0 rfl;have hc:c=#[]:=by simpa using c1
   refine ⟨goInt 0,?_,hint 0⟩;rw[c3,hc];simp[gY]
  | tsl _ tag sz' rows b o cap cell ht hc hb hm ha hrl ho hw h =>
   dsimp only;rw[aa]
   split
   ·rename_i hcond;obtain ⟨c,c1,c2,c3⟩:=hrun (some (adr b o)) rows.length cap rfl;have hmin:Nat.min src.length rows.length=0:=by simp only[Bool.or_eq_true,List.isEmpty_iff] at hcond;rcases hcond with h | h<;>subst h<;>simp[Nat.min_def]
    rw[hmin] at c1 c3;have hc:c=#[]:=by simpa using c1
    refine ⟨goInt 0,?_,hint 0⟩;rw[c3,hc];simp[gY]
   ·trivial
  | tnil _ tag sz' a cap ht =>
   dsimp only;rw[aa]
   split
   ·obtain ⟨c,c1,c2,c3⟩:=hrun (some a) 0 cap rfl;have hc:c=#[]:=by simpa using c1
    refine ⟨goInt 0,?_,hint 0⟩;rw[c3,hc];simp[gY]
   ·trivial
  | hsl _ id ep off len lim b0 o0 cap0 hk he hc0 h0' =>
   have hagree:=agree id (by simp[ak]);simp only[G.get_eq,<-hagree];cases hid:hg id with
   | cells sz' rows ep' loose fz =>
    simp only[aw,aa,bh]
    split
    ·rename_i hcond;simp only[Bool.and_eq_true,Nat.ble_eq,notb_eq,Bool.not_eq_true'] at hcond;obtain ⟨⟨⟨h1,h2⟩,h3⟩,h4⟩:=hcond;have h1:=aD h1;have h2:=aD h2;subst h1;subst h2;subst h4;obtain ⟨cap,hv,hlc,hco⟩:=rf hr (RV.hsl bd id ep off len lim b0 o0 cap0 hk he hc0 h0') hid;obtain ⟨c,c1,c2,c3⟩:=hrun _ _ _ hv;have hl:(src.take (Nat.min src.length len)).length=Nat.min src.length len:=by simp[Nat.min_le_left]
     have hle:Nat.min src.length len<=len:=Nat.min_le_right _ _;obtain ⟨w',r1,r2,r3⟩:=hr.storeRows hid (off:=off) c2 (by rw[hl];exact c1) (by rw[hl];omega) C.P;refine ⟨goInt (Nat.min src.length len),w',γ,id,_,?_,.int _ _ _,r3,.inl ⟨rfl,r2⟩⟩;rw[c3];simp[r1]
    ·trivial
   | _=>trivial
  | _=>trivial
theorem Hb {argTypes:Array TypeId}{ty t e:TypeId}{sz:Nat}{zero:List AV}{x:AV}{y:Value}{g:G}
  (hr:Rel C A bd w γ hg nx) (h0:argTypes[0]?=some t) (hu:C.P.underlying t=some (.slice e)) (hz:eB C.P e=some zero) (hzl:zero.length=sz) (hs0:0<sz)
  (hx:RV w γ A bd x y) (agree:∀id∈rW x,hg id=g.h.get id) :
  cF C A bd w γ hg nx (Builtin.clear_ argTypes ty #[y]) g (yd sz zero x g):=by
 have a0:(#[y]:Array Value)[0]?=some y:=rfl;have hz0:∀a cap,y=.slice a 0 cap->(Builtin.clear_ argTypes ty #[y]).run C.P w=.ok undef w:=by intro a cap h;subst h;unfold Builtin.clear_;cases a<;>simp[h0,aC hu,undef]
 unfold yd;cases hx with
 | nils=>exact ⟨_,hz0 _ _ rfl,b_⟩
 | esl _ a=>exact ⟨_,hz0 _ _ rfl,b_⟩
 | tsl _ tag sz' rows b o cap cell ht hc hb hm ha hrl ho hw h =>
  cases rows with
  | nil=>exact ⟨_,hz0 _ _ rfl,b_⟩
  | cons r rs=>trivial
 | tnil _ tag sz' a cap ht=>exact ⟨_,hz0 _ _ rfl,b_⟩
 | hsl _ id ep off len lim b0 o0 cap0 hk he hc0 h0' =>
  cases len with
  | zero=>exact ⟨_,hz0 _ _ rfl,b_⟩
  | succ len =>
   have hagree:=agree id (by simp[rW]);simp only[G.get_eq,<-hagree];cases hid:hg id with
   | cells sz' rows ep' loose fz =>
    simp only[aw,aa]
    split
    ·rename_i hcond;simp only[Bool.and_eq_true,Nat.ble_eq,notb_eq,Bool.not_eq_true'] at hcond;obtain ⟨⟨⟨h1,h2⟩,h3⟩,h4⟩:=hcond;have h1:=aD h1;have h2:=aD h2;subst h1;subst h2;subst h4;obtain ⟨cap,hv,hlc,hco⟩:=rf hr (RV.hsl bd id ep off (len+1) lim b0 o0 cap0 hk he hc0 h0') hid;have hl:(eV (len+1) zero).length=len+1:=by simp[eV]
     obtain ⟨z,z1,z2⟩:=lI (w:=w) hz;have hzs:z.cells.size=sz:=by have:=(mm (w:=w) (γ:=γ) (A:=A) (bd:=bd) z2).1.1;simp at this;omega
     obtain ⟨w',r1,r2,r3⟩:=hr.storeRows hid (off:=off) (so (ty:=e) (n:=len+1) z2 hzl hs0 (Nat.le_refl _)) (by rw[hl];simp[lM]) (by rw[hl];omega) C.P;refine ⟨undef,w',γ,id,_,?_,b_,r3,.inl ⟨rfl,r2⟩⟩;have e0:Builtin.zeroCells z.cells (len+1)=fq z.cells ((len+1)*sz):=by simp[Builtin.zeroCells,fq,hzs]
     rw[hv];unfold Builtin.clear_;simp[h0,aC hu,z1,e0,r1,undef]
    ·trivial
   | _=>trivial
 | _=>trivial
end
end Hx
end
section
namespace Hx
open Go
section
variable {C:Cfg}{A:Nat->Nat->Prop}{bd:Nat}{w w':World}{γ γ':Gm}{hg:Nat->AObj}{nx:Nat}
def OVR (w:World)(γ:Gm)(A:Nat->Nat->Prop)(bd:Nat):Option AV->Option Value->Prop
 | none,none=>True
 | some x,some v=>RV w γ A bd x v
 | _,_=>False
theorem JM {xs:List AV}{vs:List Value}(h:RVs w γ A bd xs vs):OVR w γ A bd xs.head? vs.head?:=by
 cases xs with
 | nil=>cases vs with
  | nil=>trivial
  | cons v vs=>have:=h.1;simp at this
 | cons x xs=>cases vs with
  | nil=>have:=h.1;simp at this
  | cons v vs=>exact h.2 0 x v rfl rfl
theorem uE {lim n:Nat}{x:AV}(h:bZ lim x=some n):n<=lim:=by
 unfold bZ at h
 split at h
 ·rw[aa] at h
  split at h
  ·rename_i hl;rw[Nat.ble_eq] at hl;injection h with h;omega
  ·cases h
 ·cases h
theorem j6 {n:Nat}{x:Option AV}(h:aQ 0 0 x=some n):n=0:=by
 cases x with
 | none=>simp[aQ] at h;omega
 | some z=>have:=uE h;omega
theorem cB {P:Program}{lim y n:Nat}{x:AV}{v:Value}{code:BoundsCode}(h:bZ lim x=some n)(hv:RV w γ A bd x v)(hy:lim<=y) :
  (Instr.sliceBound v y code).run P w=.ok n w/\n<=lim:=by
 obtain ⟨h1,k,rfl⟩:=uF h hv;refine ⟨?_,h1⟩;unfold Instr.sliceBound;simp only[asIntOf,Sem.run_bind,Sem.run_pure,Result.andThen_ok];rw[if_pos (by omega)];simp
theorem bW {P:Program}{isSlice:Bool}{len cap:Nat}{lo hi mx:Option AV}{lv hv mv:Option Value}{l h m d limM lh:Nat}
  (hlo:OVR w γ A bd lo lv) (hhi:OVR w γ A bd hi hv) (hmx:OVR w γ A bd mx mv) (hm:mx=none->m=cap) (hm':mx≠none->aQ d limM mx=some m/\limM<=cap)
  (hmh:mx≠none->hi≠none) (hh:aQ len lh hi=some h) (hlh:lh<=m) (hl:aQ 0 h lo=some l) :
  (Instr.sliceBounds isSlice len cap lv hv mv).run P w=.ok (l,h,m) w/\l<=h/\(hi=none/\h=len\/h<=lh):=by
 have H:l<=h/\∀code,(match lv with | some v=>Instr.sliceBound v h code | none=>pure 0:Sem Nat).run P w=.ok l w:=by
  cases lo with
  | none =>
   cases lv with
   | none=>simp[aQ] at hl;subst hl;exact ⟨Nat.zero_le _,λ_=>rfl⟩
   | some v=>cases hlo
  | some x =>
   cases lv with
   | none=>cases hlo
   | some v=>exact ⟨(cB (code:=.index) (P:=P) hl hlo (Nat.le_refl _)).2,λcode=>(cB hl hlo (Nat.le_refl _)).1⟩
 obtain ⟨H1,H2⟩:=H;cases mx with
 | none =>
  cases mv with
  | some v=>cases hmx
  | none =>
   have:=hm rfl;subst this;cases hi with
   | none =>
    cases hv with
    | some v=>cases hhi
    | none =>
     simp[aQ] at hh;subst hh;refine ⟨?_,H1,.inl ⟨rfl,rfl⟩⟩;have h2:=H2 .sliceB;unfold Instr.sliceBounds;cases lv<;>simp_all
   | some x =>
    cases hv with
    | none=>cases hhi
    | some v =>
     have h3:=λcode=>(cB (P:=P) (code:=code) hh hhi hlh).1;refine ⟨?_,H1,.inr (cB (P:=P) (code:=.index) hh hhi hlh).2⟩;have h2:=H2 .sliceB;unfold Instr.sliceBounds;cases lv<;>simp_all
 | some xm =>
  cases mv with
  | none=>cases hmx
  | some vm =>
   obtain ⟨hm1,hm2⟩:=hm' (by simp);have h4:=λcode=>(cB (P:=P) (code:=code) hm1 hmx hm2).1;cases hi with
   | none=>exact absurd rfl (hmh (by simp))
   | some x =>
    cases hv with
    | none=>cases hhi
    | some v =>
     have h3:=λcode=>(cB (P:=P) (code:=code) hh hhi hlh).1;refine ⟨?_,H1,.inr (cB (P:=P) (code:=.index) hh hhi hlh).2⟩;have h2:=H2 .slice3C;unfold Instr.sliceBounds;cases lv<;>simp_all
theorem j4 {ty e:TypeId}{sz len cap l h m:Nat}{a:Option Addr}{lv hv mv:Option Value}(hu:C.P.underlying ty=some (.slice e))(hsz:szT C.P e=some sz)
  (hb:(Instr.sliceBounds true len cap lv hv mv).run C.P w=.ok (l,h,m) w) :
  (Instr.sliceAt ty (.slice a len cap) lv hv mv).run C.P w=.ok (.slice (if m=l then a else a.map (·.add (l*sz))) (h - l) (m - l)) w:=by
 unfold Instr.sliceAt Instr.slice;simp[aC hu,hb,aW hsz]
theorem zn {ty e:TypeId}{sz:Nat}{x:AV}{lo hi mx:Option AV}{v:Value}{lv hv mv:Option Value}{g:G}
  (hr:Rel C A bd w γ hg nx) (hu:C.P.underlying ty=some (.slice e)) (hsz:szT C.P e=some sz) (hx:RV w γ A bd x v)
  (hlo:OVR w γ A bd lo lv) (hhi:OVR w γ A bd hi hv) (hmx:OVR w γ A bd mx mv) (hmh:mx≠none->hi≠none) (agree:∀id∈ak x,hg id=g.h.get id) :
  ValSim C A bd w γ (Instr.sliceAt ty v lv hv mv) (orV (iI sz x lo hi mx g.h)):=by
 refine mo λy hy=>?_;have zero:∀(a:Option Addr),v=.slice a 0 0->∀p q r,aQ 0 0 lo=some p->aQ 0 0 hi=some q->aQ 0 0 mx=some r ->
   (Instr.sliceAt ty v lv hv mv).run C.P w=.ok (.slice a 0 0) w:=by
  intro a hv' p q r h1 h2 h3;subst hv';have hr0:=j6 h3;have hq0:=j6 h2;have hp0:=j6 h1;subst hr0;subst hq0;subst hp0;obtain ⟨b1,b2,b3⟩:=bW (P:=C.P) (isSlice:=true) (len:=0) (cap:=0) (l:=0) (h:=0) (m:=0) hlo hhi hmx (λ_=>rfl) (λ_=>⟨h3,Nat.le_refl _⟩) hmh h2 (Nat.le_refl _) h1;rw[j4 hu hsz b1];simp
 unfold iI at hy;cases hx with
 | nils =>
  dsimp only at hy
  split at hy
  ·rename_i p q r h1 h2 h3;injection hy with hy;subst hy;exact ⟨_,zero none rfl p q r h1 h2 h3,.nils _⟩
  ·cases hy
 | esl _ a =>
  dsimp only at hy
  split at hy
  ·rename_i p q r h1 h2 h3;injection hy with hy;subst hy;exact ⟨_,zero (some a) rfl p q r h1 h2 h3,.esl _ a⟩
  ·cases hy
 | tnil _ tag sz' a cap ht =>
  cases mx with
  | none =>
   cases mv with
   | some z=>cases hmx
   | none =>
    dsimp only at hy
    split at hy
    ·cases hy
    ·rename_i h hh
     split at hy
     ·cases hy
     ·rename_i l hl;simp only[aa] at hy
      split at hy
      ·injection hy with hy;subst hy;have hcap:(aY ([]:List (List AV)))=0:=rfl;rw[hcap] at hh;obtain ⟨b1,b2,b3⟩:=bW (P:=C.P) (isSlice:=true) (len:=0) (cap:=cap) (d:=0) (limM:=0) hlo hhi hmx (λ_=>rfl) (λh=>absurd rfl h) hmh hh (Nat.zero_le _) hl;have e1:h=0:=by omega
       have e2:l=0:=by omega
       subst e1;subst e2;refine ⟨_,j4 hu hsz b1,?_⟩;have e3:eO (0 - 0) (dZ 0 ([]:List (List AV)))=[]:=by simp[bh]
       rw[e3]
       by_cases hc:cap=0
       ·rw[if_pos hc];exact .tnil _ tag sz a _ ht
       ·rw[if_neg hc];exact .tnil _ tag sz _ _ ht
      ·cases hy
  | some xm =>
   dsimp only at hy;cases mv with
   | none=>cases hmx
   | some vm =>
    split at hy
    ·rename_i p q r h1 h2 h3;injection hy with hy;subst hy;have e1:p=0:=by have:=uE h1;omega
     subst e1;obtain ⟨b1,b2,b3⟩:=bW (P:=C.P) (isSlice:=true) (len:=0) (cap:=cap) (d:=0) (limM:=0) (m:=0) hlo hhi hmx (λh=>by cases h) (λ_=>⟨h1,Nat.zero_le _⟩) hmh h2 (Nat.le_refl _)
      (by rw[j6 h2];exact h3)
     have e1:q=0:=by omega
     have e2:r=0:=by omega
     subst e1;subst e2;refine ⟨_,j4 hu hsz b1,?_⟩;simpa using RV.esl _ a
    ·cases hy
 | tsl _ tag sz' rows b o cap cell ht hc hb hm ha hrl ho hw hcell hcl =>
  cases mx with
  | none =>
   cases mv with
   | some z=>cases hmx
   | none =>
    simp only[aw,bh,bg] at hy
    split at hy
    ·cases hy
    ·rename_i h hh
     split at hy
     ·cases hy
     ·rename_i l hl;simp only[aa] at hy
      split at hy
      ·rename_i hsz';have hsz':=aD hsz';subst hsz';injection hy with hy;subst hy;obtain ⟨b1,b2,b3⟩:=bW (P:=C.P) (isSlice:=true) (len:=rows.length) (cap:=cap) (d:=0) (limM:=0) hlo hhi hmx (λ_=>rfl) (λh=>absurd rfl h) hmh hh hc hl;have e1:h<=rows.length:=by omega
       refine ⟨_,j4 hu hsz b1,?_⟩;have hlen:((rows.drop l).take (h - l)).length=h - l:=by simp;omega
       by_cases hc0:cap=l
       ·rw[if_pos hc0];have e2:h - l=0:=by omega
        rw[e2,List.take_zero];exact .tnil _ tag sz _ _ ht
       ·rw[if_neg hc0];simp only[Option.map_some,eC];have:=RV.tsl (w:=w) (γ:=γ) (A:=A) bd tag sz ((rows.drop l).take (h - l)) b (o+l*sz) (cap - l) (λi j=>cell (l+i) j) ht (by rw[hlen];omega) hb hm ha
         (λi row hi=>?_) (λi j row x hi hj=>?_) (λi j row x hi hj=>?_) (λi j row x hi hj=>?_) (λrow hrow=>hcl row (List.mem_of_mem_drop (List.mem_of_mem_take hrow)))
        ·rwa [hlen] at this
        all_goals
         have hi':=hi;rw[List.getElem?_take,] at hi'
         split at hi'
         ·rw[List.getElem?_drop] at hi'
          first
          | exact hrl _ _ hi'
          | exact ho _ _ _ _ hi' hj
          | exact hcell _ _ _ _ hi' hj
          | (have:=hw _ _ _ _ hi' hj
             rwa [show o+l*sz+i*sz+j=o+(l+i)*sz+j from by rw[Nat.add_mul];omega])
         ·cases hi'
      ·cases hy
  | some xm =>
   dsimp only at hy;cases mv with
   | none=>cases hmx
   | some vm =>
    split at hy
    ·rename_i p q r h1 h2 h3;injection hy with hy;subst hy;have e1:p=0:=by have:=uE h1;omega
     subst e1;cases hi with
     | none=>exact absurd rfl (hmh (by simp))
     | some z =>
      cases hv with
      | none=>cases hhi
      | some vh =>
       have e0:=j6 h2;subst e0;obtain ⟨b1,b2,b3⟩:=bW (P:=C.P) (isSlice:=true) (len:=rows.length) (cap:=cap) (d:=0) (limM:=0) (m:=0) (lh:=0) (h:=0) hlo hhi hmx (λh=>by cases h) (λ_=>⟨h1,Nat.zero_le _⟩) hmh h2 (Nat.le_refl _) h3;have e2:r=0:=by omega
       subst e2;refine ⟨_,j4 hu hsz b1,?_⟩;simpa using RV.esl _ _
    ·cases hy
 | hsl _ id ep off len lim b0 o0 cap0 hk he hc0 h0 =>
  have hagree:=agree id (by simp[ak]);dsimp only at hy;rw[<-hagree] at hy;cases hid:hg id with
  | cells sz' rows ep' loose fz =>
   rw[hid] at hy;simp only[aa,aw] at hy
   split at hy
   ·rename_i hcond;simp only[Bool.and_eq_true,Nat.ble_eq] at hcond;obtain ⟨⟨h1,h2⟩,h3⟩:=hcond;have h1:=aD h1;have h2:=aD h2;subst h1;subst h2;obtain ⟨cap,hv',hlc,hco⟩:=rf hr (RV.hsl bd id ep off len lim b0 o0 cap0 hk he hc0 h0) hid;rw[hv'];have hob:=hr.obj id;rw[hid] at hob;obtain ⟨k1,k2,k3,k4,k5,_⟩:=hob
    split at hy
    ·cases hy
    ·rename_i m hm
     split at hy
     ·cases hy
     ·rename_i h hh
      split at hy
      ·cases hy
      ·rename_i l hl
       let m0:=lim.getD (rows.length - off)
       have hm0:m0<=cap:=by unfold gg at hco;cases lim<;>simp only[m0,Option.getD] at *<;>omega
       have hstrict:lim≠none\/loose=false->cap=m0:=by
        unfold gg at hco;intro h;cases lim with
        | none=>simp at h;have:=k5.1 h;simp only[m0,Option.getD];dsimp only at hco;omega
        | some c=>simp only[m0,Option.getD];exact hco.1
       have hmm:mx≠none->m<=m0:=by
        intro h;cases mx with
        | none=>exact absurd rfl h
        | some z=>cases mv with
         | none=>cases hmx
         | some zv=>exact uE hm
       have hmn:mx=none->m=m0:=by intro h;subst h;simp[aQ] at hm;exact hm.symm
       let mR:=if mx=none then cap else m
       have hmR:m<=mR:=by
        simp only[mR];split
        ·rename_i h;rw[hmn h];exact hm0
        ·exact Nat.le_refl _
       obtain ⟨b1,b2,b3⟩:=bW (P:=C.P) (isSlice:=true) (len:=len) (cap:=cap) (d:=m0) (limM:=m0) (m:=mR) (lh:=m) hlo hhi hmx
        (λh=>by simp[mR,h]) (λh=>⟨by simp only[mR,if_neg h];exact hm,hm0⟩) hmh hh hmR hl
       refine ⟨_,j4 hu hsz b1,?_⟩;have hlen:len<=m0:=by
        unfold gg at hco;cases lim with
        | none=>simp only[m0,Option.getD];omega
        | some c=>simp only[m0,Option.getD];omega
       have hhm:h<=m:=by
        rcases b3 with ⟨e1,e2⟩ | e1
        ·have:mx=none:=by
          cases mx with
          | none=>rfl
          | some z=>exact absurd e1 (hmh (by simp))
         rw[hmn this,e2];exact hlen
        ·exact e1
       split at hy
       ·rename_i hml;have hml:=aD hml;subst hml;have e1:h=m:=by omega
        subst e1
        split at hy
        ·rename_i hcond;injection hy with hy;subst hy;have e2:mR=h:=by
          simp only[mR];split
          ·rename_i hmx0;rw[hstrict,hmn hmx0];subst hmx0;simp at hcond;cases lim with
           | none=>right;simpa using hcond
           | some c=>left;simp
          ·rfl
         rw[if_pos e2,e2,Nat.sub_self];exact .esl _ _
        ·injection hy with hy;subst hy;rw[Nat.sub_self]
         by_cases h9:mR=h
         ·rw[if_pos h9];exact .tnil _ 0 sz _ _ (Nat.zero_le _)
         ·rw[if_neg h9];exact .tnil _ 0 sz _ _ (Nat.zero_le _)
       ·rename_i hml;injection hy with hy;subst hy;have hlt:l<m:=by
         rcases Nat.lt_or_ge l m with h9 | h9
         ·exact h9
         ·exact absurd (by rw[show m=l from by omega];exact Nat.beq_refl l) hml
        rw[if_neg (show ¬mR=l by omega)];simp only[Option.map_some,eC];refine .hsl _ id ep (off+l) (h - l) _ _ _ _ k1 (by omega) (by omega) λ_=>⟨rfl,by rw[k3,Nat.add_mul];omega,?_⟩;cases mx with
        | some z =>
         have e3:mR=m:=by simp[mR]
         have e4:=hmm (by simp);simp only[gg];rw[e3,k4];unfold gg at hco;cases lim with
         | none=>simp only[m0,Option.getD] at e4;omega
         | some c=>simp only[m0,Option.getD] at e4;dsimp only at hco;omega
        | none =>
         have e3:mR=cap:=by simp[mR]
         unfold gg at hco ⊢;cases lim with
         | none=>dsimp only[Option.map] at hco ⊢;omega
         | some c=>dsimp only[Option.map] at hco ⊢;omega
   ·cases hy
  | _=>rw[hid] at hy;cases hy
 | _=>cases hy
end
end Hx
end
section
namespace Hx
open Go
section
variable {C:Cfg}{A:Nat->Nat->Prop}{bd:Nat}{w w':World}{γ γ':Gm}{hg:Nat->AObj}{nx:Nat}
theorem pc {α:Type}{f:α->Option Nat}:∀{l:List α} {m:Nat},eT f l=some m->∀x∈l,∃k,f x=some k/\k<=m:=by
 intro l
 induction l with
 | nil=>intro m _ x hx;cases hx
 | cons a l ih =>
  intro m h x hx;simp only[eT] at h
  split at h
  ·rename_i k hk
   split at h
   ·rename_i b hb;injection h with h;subst h;rcases List.mem_cons.1 hx with rfl | hx
    ·exact ⟨k,hk,Nat.le_max_left _ _⟩
    ·obtain ⟨k',h1,h2⟩:=ih hb x hx;exact ⟨k',h1,Nat.le_trans h2 (Nat.le_max_right _ _)⟩
   ·cases h
  ·cases h
theorem Ca:∀(f:Nat) {x:AV} {v:Value} {m:Nat},dH f x=some m->RV w γ A bd x v->RV w γ A m x v:=by
 intro f
 induction f with
 | zero=>intro x v m h;cases h
 | succ f ih =>
  intro x v m h hx;have hs:∀{cs:List AV} {vs:Array Value} {m':Nat},eT (dH f) cs=some m'->m'<=m ->
    (∀(i:Nat) x v,cs[i]?=some x->vs[i]?=some v->RV w γ A bd x v)->∀(i:Nat) x v,cs[i]?=some x->vs[i]?=some v->RV w γ A m x v:=by
   intro cs vs m' h1 h2 h3 i x v hi hv;obtain ⟨k,k1,k2⟩:=pc h1 x (List.mem_of_getElem? hi);exact (ih k1 (h3 i x v hi hv)).mono (Nat.le_trans k2 h2)
  cases hx with
  | tsl _ tag sz rows b o cap cell ht hc hb hm ha hrl ho hw hcell hcl =>
   simp only[dH] at h;injection h with h;subst h;exact .tsl _ tag sz rows b o cap cell (Nat.le_refl _) hc hb hm ha hrl ho hw hcell hcl
  | tnil _ tag sz a cap ht =>
   simp only[dH] at h;injection h with h;subst h;exact .tnil _ tag sz a cap (Nat.le_refl _)
  | tptr _ tag sz rows i0 off0 b o cell ht hb hm ha hrl ho hw hcell hcl =>
   simp only[dH] at h;injection h with h;subst h;exact .tptr _ tag sz rows i0 off0 b o cell (Nat.le_refl _) hb hm ha hrl ho hw hcell hcl
  | agg _ xs vs hl h1 h2=>exact .agg _ _ _ hl h1 (hs h (Nat.le_refl _) h2)
  | tup _ xs vs hl h2=>exact .tup _ _ _ hl (hs h (Nat.le_refl _) h2)
  | clo _ g xs ys vs us hl hl2 h1 h2 =>
   simp only[dH] at h;have ha:=pc h;refine .clo _ g xs ys vs us hl hl2 (λi x v hi hv=>?_) (λi x v hi hv=>?_)
   ·obtain ⟨k,k1,k2⟩:=ha x (List.mem_append_left _ (List.mem_of_getElem? hi));exact (ih k1 (h1 i x v hi hv)).mono k2
   ·obtain ⟨k,k1,k2⟩:=ha x (List.mem_append_right _ (List.mem_of_getElem? hi));exact (ih k1 (h2 i x v hi hv)).mono k2
  | ifc _ t x v h1=>exact .ifc _ t x v (ih h h1)
  | bool=>exact .bool _ _
  | int=>exact .int _ _ _
  | str=>exact .str _ _
  | nilp=>exact .nilp _
  | nils=>exact .nils _
  | nilf=>exact .nilf _
  | nilm=>exact .nilm _
  | nili=>exact .nili _
  | esl _ a=>exact .esl _ a
  | hsl _ id ep off len lim b o cap hk he hc h'=>cases h
  | hptr _ id ep i off b o hk he h'=>cases h
  | hmap _ id b hk hb=>cases h
  | yld _ id b hk hb=>cases h
theorem dF {α:Type}{f:α->Option Nat}{b:Nat}:∀{l:List α} {m:Nat},eT f l=some m->(∀x∈l,∀k,f x=some k->k<=b)->m<=b:=by
 intro l
 induction l with
 | nil=>intro m h _;simp[eT] at h;omega
 | cons a l ih =>
  intro m h hb;simp only[eT] at h
  split at h
  ·rename_i k hk
   split at h
   ·rename_i b' hb';injection h with h;subst h;exact Nat.max_le.2 ⟨hb a List.mem_cons_self k hk,ih hb' λx hx=>hb x (List.mem_cons_of_mem _ hx)⟩
   ·cases h
  ·cases h
theorem xG:∀(f:Nat) {x:AV} {v:Value} {m:Nat},dH f x=some m->RV w γ A bd x v->m<=bd:=by
 intro f
 induction f with
 | zero=>intro x v m h;cases h
 | succ f ih =>
  intro x v m h hx;have hs:∀{cs:List AV} {vs:Array Value},cs.length=vs.size ->
    (∀(i:Nat) x v,cs[i]?=some x->vs[i]?=some v->RV w γ A bd x v)->∀x∈cs,∀k,dH f x=some k->k<=bd:=by
   intro cs vs hl h3 x hx k hk;obtain ⟨i,hi⟩:=List.getElem?_of_mem hx;have hlt:i<vs.size:=by rw[<-hl];exact (List.getElem?_eq_some_iff.1 hi).1
   exact ih hk (h3 i x _ hi (Array.getElem?_eq_getElem hlt))
  cases hx with
  | tsl _ tag sz rows b o cap cell ht hc hb hm ha hrl ho hw hcell hcl=>simp only[dH] at h;injection h with h;omega
  | tnil _ tag sz a cap ht=>simp only[dH] at h;injection h with h;omega
  | tptr _ tag sz rows i0 off0 b o cell ht hb hm ha hrl ho hw hcell hcl=>simp only[dH] at h;injection h with h;omega
  | agg _ xs vs hl h1 h2=>exact dF h (hs hl h2)
  | tup _ xs vs hl h2=>exact dF h (hs hl h2)
  | clo _ g xs ys vs us hl hl2 h1 h2 =>
   refine dF h λx hx k hk=>?_;rcases List.mem_append.1 hx with hx | hx
   ·exact hs hl h1 x hx k hk
   ·exact hs hl2 h2 x hx k hk
  | ifc _ t x v h1=>exact ih h h1
  | _=>first | (cases h;done) | (simp only[dH] at h;injection h with h;omega)
theorem D1:∀(f:Nat) {x:AV} {v:Value} {m:Nat},dH f x=some m->RV w γ A bd x v->Closed x:=by
 intro f
 induction f with
 | zero=>intro x v m h;cases h
 | succ f ih =>
  intro x v m h hx;have hs:∀{cs:List AV} {vs:Array Value},cs.length=vs.size->(∀x∈cs,∃k,dH f x=some k) ->
    (∀(i:Nat) x v,cs[i]?=some x->vs[i]?=some v->RV w γ A bd x v)->∀x∈cs,Closed x:=by
   intro cs vs hl h1 h3 x hx;obtain ⟨i,hi⟩:=List.getElem?_of_mem hx;have hlt:i<vs.size:=by rw[<-hl];exact (List.getElem?_eq_some_iff.1 hi).1
   obtain ⟨k,hk⟩:=h1 x hx;exact ih hk (h3 i x _ hi (Array.getElem?_eq_getElem hlt))
  have he:∀{cs:List AV} {m':Nat},eT (dH f) cs=some m'->∀x∈cs,∃k,dH f x=some k:=λh x hx=>by obtain ⟨k,k1,_⟩:=pc h x hx;exact ⟨k,k1⟩
  cases hx with
  | tsl _ tag sz rows b o cap cell ht hc hb hm ha hrl ho hw hcell hcl=>exact .tsl _ _ _ hcl
  | tnil=>exact .tsl _ _ _ (λrow h=>by cases h)
  | tptr _ tag sz rows i0 off0 b o cell ht hb hm ha hrl ho hw hcell hcl=>exact .tptr _ _ _ _ _ hcl
  | agg _ xs vs hl h1 h2=>exact .agg _ (hs hl (he h) h2)
  | tup _ xs vs hl h2=>exact .tup _ (hs hl (he h) h2)
  | clo _ g xs ys vs us hl hl2 h1 h2 =>
   have hh:=he h;exact .clo _ _ _ (hs hl (λx hx=>hh x (List.mem_append_left _ hx)) h1) (hs hl2 (λx hx=>hh x (List.mem_append_right _ hx)) h2)
  | ifc _ t x v h1=>exact .ifc _ _ (ih h h1)
  | _=>first | (cases h;done) | constructor
theorem tS {rows:List (List AV)}{m i j:Nat}{row:List AV}{x:AV}{v:Value}(h:eL rows=some m)(hi:rows[i]?=some row)(hj:row[j]?=some x)
  (hv:RV w γ A bd x v):RV w γ A m x v:=by
 obtain ⟨k,k1,k2⟩:=pc h row (List.mem_of_getElem? hi);obtain ⟨k',k3,k4⟩:=pc k1 x (List.mem_of_getElem? hj);exact (Ca _ k3 hv).mono (Nat.le_trans k4 k2)
theorem yc {sz:Nat}:∀(n:Nat) (cs:List AV),n*sz<=cs.length ->
  (oJ sz n cs).length=n/\∀(i:Nat) row,(oJ sz n cs)[i]?=some row->row.length=sz/\∀(j:Nat) x,row[j]?=some x->cs[i*sz+j]?=some x:=by
 intro n
 induction n with
 | zero=>intro cs _;exact ⟨rfl,λi row h=>by simp[oJ] at h⟩
 | succ n ih =>
  intro cs h;rw[Nat.add_mul,Nat.one_mul] at h;obtain ⟨h1,h2⟩:=ih (cs.drop sz) (by simp;omega);simp only[oJ,bg,bh];refine ⟨by simp[h1],λi row hi=>?_⟩;cases i with
  | zero =>
   simp at hi;subst hi;refine ⟨by simp;omega,λj x hj=>?_⟩;rw[List.getElem?_take] at hj
   split at hj
   ·simpa using hj
   ·cases hj
  | succ i =>
   simp at hi;obtain ⟨h3,h4⟩:=h2 i row hi;refine ⟨h3,λj x hj=>?_⟩;have:=h4 j x hj;rw[List.getElem?_drop] at this;rw[Nat.add_mul,Nat.one_mul];rw[show i*sz+sz+j=sz+(i*sz+j) from by omega];exact this
theorem Rel.freeze (hr:Rel C A bd w γ hg nx){id sz ep:Nat}{rows:List (List AV)}{loose fz:Bool}(hid:hg id=.cells sz rows ep loose fz) :
  ∃γ',Rel C A bd w γ' (upd hg id (.cells sz rows ep loose true)) nx/\Stp w γ w γ'/\γ'=upd γ id { γ id with wr:=false }/\¬Mut γ' (γ id).blk:=by
 have hob:=hr.obj id;rw[hid] at hob;obtain ⟨k1,k2,k3,k4,k5,k6,c,e,k7,k8,k9,k10⟩:=hob;have s:Stp w γ w (upd γ id { γ id with wr:=false }):=by
  refine ⟨Nat.le_refl _,rfl,rfl,rfl,λ_ _ _=>rfl,?_,?_,?_,Nat.le_refl _⟩
  ·rintro b _ ⟨j,h1,h2,h3⟩
   by_cases hj:j=id
   ·subst hj;simp at h2
   ·rw[bN _ _ hj] at h1 h2 h3;exact ⟨j,h1,h2,h3⟩
  ·intro j hk
   by_cases hj:j=id
   ·subst hj;left;simp
   ·rw[bN _ _ hj];exact .inl ⟨rfl,rfl⟩
  ·intro j hk
   by_cases hj:j=id
   ·subst hj;simp
   ·rw[bN _ _ hj];exact ⟨Nat.le_refl _,λ_=>⟨rfl,rfl,rfl,rfl,rfl⟩⟩
 refine ⟨_,hr.set rfl s (Nat.le_refl _) ?_ (hr.lt id (by rw[k1];decide)) (λj hj hkj e=>hj (hr.inj j id hkj (by rw[k1];decide) e)) (hr.av id (by rw[k1];decide)) (λ_ _ _ _=>rfl),s,rfl,?_⟩
 ·simp only[ObjRel,upd_same];refine ⟨k1,k2,k3,k4,k5,rfl,c,e,k7,k8,k9,λi j row x h1 h2=>?_⟩;obtain ⟨a,v,b1,b2⟩:=k10 i j row x h1 h2;exact ⟨a,v,b1,b2.step s⟩
 ·rintro ⟨j,h1,h2,h3⟩
  by_cases hj:j=id
  ·subst hj;simp at h2
  ·rw[bN _ _ hj] at h1 h2 h3;exact hj (hr.inj j id h1 (by rw[k1];decide) h3)
theorem B4 {ty e:TypeId}{n sz:Nat}{a:T->AV}{lo hi:T->Option AV}{t:T}{v:Value}{lv hv:Option Value}{g:G}
  (hr:Rel C A bd w γ hg nx) (hu:C.P.underlying ty=some (.array n e)) (hsz:szT C.P e=some sz) (hs0:0<sz) (hx:RV w γ A bd (a t) v)
  (hlo:OVR w γ A bd (lo t) lv) (hhi:OVR w γ A bd (hi t) hv) (agree:∀id∈ak (a t),hg id=g.h.get id) :
  cF C A bd w γ hg nx (Instr.sliceAt ty v lv hv none) g (gf n sz a lo hi t g):=by
 unfold gf;generalize a t=x at *;generalize lo t=lo at *;generalize hi t=hi at *
 split
 ·trivial
 ·rename_i h hh
  split
  ·trivial
  ·rename_i l hl;obtain ⟨b1,b2,b3⟩:=bW (P:=C.P) (isSlice:=false) (len:=n) (cap:=n) (d:=0) (limM:=0) (mx:=none) (mv:=none) hlo hhi trivial (λ_=>rfl) (λh=>absurd rfl h)
    (λh=>absurd rfl h) hh (Nat.le_refl _) hl
   have hhn:h<=n:=by omega
   have hrun:∀b o,v=.pointer (some (adr b o))->(Instr.sliceAt ty v lv hv none).run C.P w=.ok (.slice (some (if n=l then adr b o else adr b (o+l*sz))) (h - l) (n - l)) w:=by intro b o e;subst e;unfold Instr.sliceAt;simp[aC hu,Instr.sureAddr,b1,aW hsz,eC]
   cases hx with
   | tptr _ tag sz' rows i0 off0 b o cell ht hb hm ha hrl ho hw hcell hcl =>
    simp only[c_];cases hrow:rows[i0]? with
    | none=>trivial
    | some row =>
     simp only[aa,aw,bg]
     split
     ·rename_i hle;rw[Nat.ble_eq] at hle;have hm1:l*sz+(h - l)*sz<=n*sz:=by rw[<-Nat.add_mul];exact Nat.mul_le_mul_right _ (by omega)
      obtain ⟨c1,c2⟩:=yc (sz:=sz) (h - l) (row.drop (off0+l*sz)) (by simp;omega);refine ⟨_,hrun _ _ rfl,?_⟩
      by_cases hnl:n=l
      ·have e0:h - l=0:=by omega
       rw[e0,if_pos hnl];exact .tnil _ tag sz _ _ ht
      ·rw[if_neg hnl];have:=RV.tsl (w:=w) (γ:=γ) (A:=A) bd tag sz (oJ sz (h - l) (row.drop (off0+l*sz))) b (o+i0*sz'+off0+l*sz) (n - l) (λi j=>cell i0 (off0+l*sz+(i*sz+j))) ht (by rw[c1];omega) hb hm ha
        (λi r hi=>(c2 i r hi).1) (λi j r y hi hj=>?_) (λi j r y hi hj=>?_) (λi j r y hi hj=>?_)
        (λr hr' y hy=>by
         obtain ⟨i,hi⟩:=List.getElem?_of_mem hr';obtain ⟨j,hj⟩:=List.getElem?_of_mem hy;have h9:=(c2 i r hi).2 j y hj;rw[List.getElem?_drop] at h9;exact hcl row (List.mem_of_getElem? hrow) y (List.mem_of_getElem? h9))
       ·rwa [c1] at this
       all_goals
        have h9:=(c2 i r hi).2 j y hj;rw[List.getElem?_drop] at h9
        first
        | exact ho _ _ _ _ hrow h9
        | exact hcell _ _ _ _ hrow h9
        | (have:=hw _ _ _ _ hrow h9
           rwa [show o+i0*sz'+off0+l*sz+i*sz+j=o+i0*sz'+(off0+l*sz+(i*sz+j)) from by omega])
     ·trivial
   | hptr _ id ep i off b o hk he h' =>
    have hagree:=agree id (by simp[ak]);simp only[G.get_eq,<-hagree];cases hid:hg id with
    | cells sz' rows ep' loose fz =>
     simp only[aa,c_]
     split
     ·rename_i hep;have hep:=aD hep;subst hep;cases hrow:rows[i]? with
      | none=>trivial
      | some row =>
       simp only[aw,bg]
       split
       ·rename_i hle;rw[Nat.ble_eq] at hle;have hm1:l*sz+(h - l)*sz<=n*sz:=by rw[<-Nat.add_mul];exact Nat.mul_le_mul_right _ (by omega)
        obtain ⟨c1,c2⟩:=yc (sz:=sz) (h - l) (row.drop (off+l*sz)) (by simp;omega);generalize hch:oJ sz (h - l) (row.drop (off+l*sz))=rs at *;cases htag:eL rs with
        | none=>trivial
        | some m =>
         dsimp only;have hob:=hr.obj id;rw[hid] at hob;obtain ⟨k1,k2,k3,_⟩:=hob;obtain ⟨q1,q2⟩:=h' k2.symm;obtain ⟨γ',r1,r2,r3,r4⟩:=hr.freeze hid;refine ⟨_,w,γ',id,_,hrun _ _ (by rw[q1,q2]),?_,r2,.inl ⟨rfl,r1⟩⟩;have hcell:∀(i' j:Nat) r y,rs[i']?=some r->r[j]?=some y->y.one=true/\∃v,w.cell? (adr (γ id).blk ((γ id).base+i*(γ id).sz+off+l*sz+i'*sz+j))=some v/\RV w γ A bd y v:=by intro i' j r y hi hj;have h9:=(c2 i' r hi).2 j y hj;rw[List.getElem?_drop] at h9;have:=rY hr hid hrow _ y h9;rwa [<-k3,show (γ id).base+i*(γ id).sz+(off+l*sz+(i'*sz+j))=(γ id).base+i*(γ id).sz+off+l*sz+i'*sz+j from by omega] at this
         have hmb:m<=bd:=by refine dF htag λr hr' k hk=>dF hk λy hy k' hk'=>?_;obtain ⟨i',hi⟩:=List.getElem?_of_mem hr';obtain ⟨j,hj⟩:=List.getElem?_of_mem hy;obtain ⟨_,v,_,h3⟩:=hcell i' j r y hi hj;exact xG _ hk' h3
         by_cases hnl:n=l
         ·have e0:rs=[]:=by rw[<-List.length_eq_zero_iff];omega
          rw[if_pos hnl,show h - l=0 from by omega,e0];exact .tnil _ m sz _ _ hmb
         ·rw[if_neg hnl];subst q1;have:=RV.tsl (w:=w) (γ:=γ') (A:=A) bd m sz rs (γ id).blk ((γ id).base+i*(γ id).sz+off+l*sz) (n - l)
           (λi' j=>(w.cell? (adr (γ id).blk ((γ id).base+i*(γ id).sz+off+l*sz+i'*sz+j))).getD undef) hmb (by rw[c1];omega)
           (hr.lt id (by rw[k1];decide)).2 r4 (hr.av id (by rw[k1];decide) m)
           (λi r hi=>(c2 i r hi).1) (λi j r y hi hj=>(hcell i j r y hi hj).1) (λi j r y hi hj=>?_) (λi j r y hi hj=>?_)
           (λr hr' y hy=>by
            obtain ⟨i,hi⟩:=List.getElem?_of_mem hr';obtain ⟨j,hj⟩:=List.getElem?_of_mem hy;obtain ⟨_,v,_,h3⟩:=hcell i j r y hi hj;obtain ⟨k,k1,k2⟩:=pc htag r hr';obtain ⟨k',k3,_⟩:=pc k1 y hy;exact D1 _ k3 h3)
          ·rwa [c1] at this
          ·obtain ⟨_,v,h3,_⟩:=hcell i j r y hi hj;rw[h3];rfl
          ·obtain ⟨_,v,h3,h4⟩:=hcell i j r y hi hj;rw[h3];exact (tS htag hi hj h4).step r2
       ·trivial
     ·trivial
    | _=>trivial
   | _=>trivial
end
end Hx
end
