/- A part of the proof: an interpreter over abstract values, shown right against the model, and what the functions of the chapter compute on it. -/
import Derived.Shelf.Lays2
import Derived.Test.YteaikmdilmfbeaaGreatRows
import Derived.Shelf.Spec.SlicesInsertGrow
import Derived.KernelRfl
import Derived.Test.YteaikmdilmfbeaaGreatHx8
set_option linter.unusedVariables false
set_option linter.unusedSimpArgs false
set_option linter.unnecessarySimpa false
section
namespace Go.Proofs
open Go.Shelf
def Tryz.lays21_ren:Go.Shelf.Ren:=⟨λ| 21=>160 | 27=>169 | 28=>170 | 35=>171 | 39=>172 | n=>n,λ| 22=>31 | 3=>3 | 4=>4 | 0=>0 | n=>n,λ| n=>n⟩
theorem Tryz.lays21:Go.Proofs.Lays2.n21 Tryz.prog Tryz.lays21_ren:={
 mixed:=by kernel_rfl
 f21:=Tryz.func160.trans (congrArg some (by kernel_rfl))
 f27:=Tryz.func169.trans (congrArg some (by kernel_rfl))
 f28:=Tryz.func170.trans (congrArg some (by kernel_rfl))
 f35:=Tryz.func171.trans (congrArg some (by kernel_rfl))
 f39:=Tryz.func172.trans (congrArg some (by kernel_rfl))
 t0:=Tryz.underlying0
 a0:=Tryz.isAgg0
 z0:=Tryz.sizeOf0
 v0:=Tryz.zeroValue0
 t3:=Tryz.underlying3
 a3:=Tryz.isAgg3
 z3:=Tryz.sizeOf3
 v3:=Tryz.zeroValue3
 t4:=Tryz.underlying4
 a4:=Tryz.isAgg4
 z4:=Tryz.sizeOf4
 v4:=Tryz.zeroValue4
 t22:=Tryz.underlying31
 a22:=Tryz.isAgg31
 z22:=Tryz.sizeOf31
 v22:=Tryz.zeroValue31
 i3:=by kernel_rfl }
end Go.Proofs
end
section
namespace Hx
open Go Go.Proofs Go.Shelf
theorem jc {w:World}{o:Obj}:(Go.World.alloc w o).heap=w.heap.push o:=rfl
theorem gZ {w:World}:(Go.World.drew w).heap=w.heap:=rfl
theorem iE {b:Nat}{e:TypeId}{f:Nat×Nat}:∀(vs:List Value) (o:Nat) (w:World) (c:Array Value),w.heap[b]?=some (.cells c e f) ->
  Go.World.setCells w b o vs=World.setBlk w b (.cells (aW c o vs) e f):=by
 intro vs
 induction vs with
 | nil =>
  intro o w c h;have hb:b<w.heap.size:=by
   rcases Nat.lt_or_ge b w.heap.size with hl | hl
   ·exact hl
   ·rw[Array.getElem?_eq_none hl] at h;cases h
  have hx:w.heap[b]=.cells c e f:=by simpa [Array.getElem?_eq_getElem hb] using h
  show w=_;simp only[World.setBlk,aW];have:w.heap.setIfInBounds b (.cells c e f)=w.heap:=by
   apply Array.ext_getElem?;intro k;rw[Array.getElem?_setIfInBounds]
   by_cases hk:b=k
   ·subst hk;simp[hb,hx]
   ·rw[if_neg hk]
  rw[this]
 | cons v vs ih =>
  intro o w c h;have hb:b<w.heap.size:=by
   rcases Nat.lt_or_ge b w.heap.size with hl | hl
   ·exact hl
   ·rw[Array.getElem?_eq_none hl] at h;cases h
  show Go.World.setCells (w.setCell (adr b o) v) b (o+1) vs=_;rw[wx h,ih (o+1) _ (c.setIfInBounds o v) (by rw[aT];simp[hb]),mj]
  rfl
section
variable {P:Program}{ρ:Ren}
theorem fS {α:Type}{cs vs:List α}{i n m k:Nat}(hcl:cs.length=n)(hvl:vs.length=m)(hi:i<=n) :
  (cs.take i++(vs++cs.drop i))[k]?=if k<i then cs[k]? else if k<i+m then vs[k - i]? else cs[k - m]?:=by
 have hti:(cs.take i).length=i:=by rw[List.length_take];omega
 by_cases h1:k<i
 ·rw[if_pos h1,List.getElem?_append_left (by omega),List.getElem?_take_of_lt h1]
 ·rw[if_neg h1,List.getElem?_append_right (by omega),hti]
  by_cases h2:k<i+m
  ·rw[if_pos h2,List.getElem?_append_left (by omega)]
  ·rw[if_neg h2,List.getElem?_append_right (by omega),List.getElem?_drop,hvl];congr 1;omega
def Ins (P:Program)(f:FuncId)(args:Array Value)(w:World)(b n m:Nat)(rowV:List Value):Prop :=
 ∃b' o' cap' c' e' w',Calls P f args w (λx y=>x=.returned (.slice (some (adr b' o')) (n+m) cap')/\y=w')/\n+m<=cap'/\cap'<=9223372036854775807 /\
  (w'.os=w.os/\w'.tape=w.tape/\w'.output=w.output/\w.heap.size<=w'.heap.size)/\(b'=b\/(b'=w.heap.size/\w.heap.size<w'.heap.size)) /\
  (∀k,k<w.heap.size->k≠b->w'.heap[k]?=w.heap[k]?)/\w'.heap[b']?=some (.cells c' e' (0,0))/\o'+cap'<=c'.size /\
  ∀k,k<n+m->c'[o'+k]?=rowV[k]?
theorem BB (L:Lays2.n21 P ρ){w:World}{b off n c i vb voff m vc:Nat}{cc cv:Array Value}{e e2:TypeId}{cs vs:List Value}
  (hb:w.heap[b]?=some (.cells cc e (0,0))) (hv:w.heap[vb]?=some (.cells cv e2 (0,0))) (hne:vb≠b) (hin:i<=n) (hm:0<m) (hnc:n<=c)
  (hc63:c<=9223372036854775807) (hbig:(n+m)*8<=140737488355328) (hcc:off+c<=cc.size) (hcv:voff+m<=cv.size) (hn0:0<c)
  (hcl:cs.length=n) (hvl:vs.length=m) (hcs:∀j,j<n->cs[j]?=cc[off+j]?) (hvs:∀j,j<m->vs[j]?=cv[voff+j]?)
  (h1c:∀v∈cs,v.oneCell'=true) (h1v:∀v∈vs,v.oneCell'=true) :
  Ins P (ρ.f 21) #[.slice (some (adr b off)) n c,.int .i64 i,.slice (some (adr vb voff)) m vc] w b n m (cs.take i++(vs++cs.drop i)):=by
 have hbw:b<w.heap.size:=by
  rcases Nat.lt_or_ge b w.heap.size with hl | hl
  ·exact hl
  ·rw[Array.getElem?_eq_none hl] at hb;cases hb
 have hcs':∀j v,cs[j]?=some v->w.cell? (adr b (off+j))=some v:=λj v hj=>by rw[mH hb,<-hcs j (by rw[<-hcl];exact (List.getElem?_eq_some_iff.1 hj).1)];exact hj
 have hvs':∀j v,vs[j]?=some v->w.cell? (adr vb (voff+j))=some v:=λj v hj=>by rw[mH hv,<-hvs j (by rw[<-hvl];exact (List.getElem?_eq_some_iff.1 hj).1)];exact hj
 have hsp:∀j,j<c->(w.cell? (adr b (off+j))).isSome=true:=λj hj=>by rw[mH hb,Array.getElem?_eq_getElem (by omega)];rfl
 have hfz:∀j,w.frozen? (adr b j)=false:=λj=>by simp[World.frozen?,adr,hb]
 have hfv:∀j,w.frozen? (adr vb j)=false:=λj=>by simp[World.frozen?,adr,hv]
 have hdl:(cs.drop i).length=n - i:=by rw[List.length_drop,hcl]
 have htl:(cs.take i).length=i:=by rw[List.length_take];omega
 by_cases hroom:n+m<=c
 ·by_cases hlt:i<n
  ·
   have h:=Any2.slices_Insert_int_shift L b off n c i vb voff m vc cs vs w hlt hm hroom hc63 hne hcl hvl hcs' (λj hj=>hsp j (by omega)) (λj _=>hfz _) hvs' h1c h1v
    e2 e cv.size cc.size (by simp[World.shape?,hv]) (by simp[World.shape?,hb]) (by omega) (hfv _) (hfv _)
   have hb':w.drew.heap[b]?=some (.cells cc e (0,0)):=hb;rw[iE (cs.drop i) (off+(i+m)) w.drew cc hb'] at h;rw[iE vs (off+i) (World.setBlk w.drew b _) _ (by rw[aT,if_pos ⟨rfl,hbw⟩]),mj] at h;refine ⟨b,off,c,_,e,_,h,hroom,hc63,⟨rfl,rfl,rfl,by simp[gZ]⟩,.inl rfl,λk _ hk=>?_,by rw[aT,if_pos ⟨rfl,hbw⟩],by simp[bu];omega,λk hk=>?_⟩
   ·rw[aT,if_neg (λh=>hk h.1)];rfl
   ·rw[fS hcl hvl hin,bK _ _ _ _ (by rw[bu];omega),bK _ _ _ _ (by omega),hdl,hvl]
    by_cases h1:k<i
    ·rw[if_neg (by omega),if_neg (by omega),if_pos h1,hcs k (by omega)]
    ·rw[if_neg h1]
     by_cases h2:k<i+m
     ·rw[if_pos (by omega),if_pos h2];congr 1;omega
     ·rw[if_neg (by omega),if_pos (by omega),if_neg h2,List.getElem?_drop];congr 1;omega
  ·
   have hi:i=n:=by omega
   subst hi;have h:=Any2.slices_Insert_int_end_room L b off i c vb voff m vc vs w hm hroom hc63 hvl (λj hj=>by rw[Nat.add_assoc];exact hsp _ (by omega)) (λj _=>hfz _) hvs' h1v;rw[iE vs (off+i) w cc hb] at h;refine ⟨b,off,c,_,e,_,h,hroom,hc63,⟨rfl,rfl,rfl,by simp⟩,.inl rfl,λk _ hk=>?_,by rw[aT,if_pos ⟨rfl,hbw⟩],by simp[bu];omega,λk hk=>?_⟩
   ·rw[aT,if_neg (λh=>hk h.1)]
   ·rw[fS hcl hvl hin,bK _ _ _ _ (by omega),hvl]
    by_cases h1:k<i
    ·rw[if_neg (by omega),if_pos h1,hcs k (by omega)]
    ·rw[if_pos (by omega),if_neg h1,if_pos (by omega)];congr 1;omega
 ·have hgc:=grownCap_ge w (n+m) c (ρ.t 3);have hgm:grownCap w (n+m) c (ρ.t 3)<=9223372036854775807:=by have:=grownCap_le_maxLen w (n+m) c (ρ.t 3) (by unfold maxLen;omega);unfold maxLen at this;omega
  by_cases hlt:i<n
  ·
   have h:=Any2.slices_Insert_int_grow L b off n c i vb voff m vc cs vs w hlt hm hnc (by omega) hbig hcl hvl hcs' hvs' h1c h1v;obtain ⟨G,hG⟩:∃G,G=grownCap w (n+m) c (ρ.t 3):=⟨_,rfl⟩;rw[<-hG] at h hgc hgm;obtain ⟨ROW,hROW⟩:∃ROW:Array Value,ROW=(cs.take i).toArray++Builtin.zeroCells (Value.int .i64 0).cells (n+m - i)++Builtin.zeroCells (Value.int .i64 0).cells (G - (n+m)):=⟨_,rfl⟩;rw[<-hROW] at h;have hsz:ROW.size=G:=by rw[hROW];simp[Builtin.zeroCells,Value.cells];omega
   have hpre:∀k,k<i->ROW[k]?=cs[k]?:=λk hk=>by rw[hROW,Array.append_assoc,Array.getElem?_append_left (by simp;omega)];simp[List.getElem?_take,hk]
   have h0:(w.alloc (.cells ROW (ρ.t 3))).drew.heap[w.heap.size]?=some (.cells ROW (ρ.t 3) (0,0)):=by simp[jc,gZ]
   rw[iE vs i _ ROW h0] at h;rw[iE (cs.drop i) (i+m) _ (aW ROW i vs) (e:=ρ.t 3) (f:=(0,0)) (by
    show (World.setBlk _ _ _).heap[_]?=_;rw[aT,if_pos ⟨rfl,by simp[jc,gZ]⟩])] at h
   refine ⟨w.heap.size,0,G,aW (aW ROW i vs) (i+m) (cs.drop i),ρ.t 3,_,h,hgc,hgm,⟨rfl,rfl,rfl,by simp[jc,gZ]⟩,.inr ⟨rfl,by simp[jc,gZ]⟩,λk hk _=>?_,?_,by simp[bu,hsz],λk hk=>?_⟩
   ·rw[aT,if_neg (by omega)];show (World.setBlk _ _ _).heap[_]?=_;rw[aT,if_neg (by omega)];simp[jc,gZ,Array.getElem?_push,show k≠w.heap.size from by omega]
   ·rw[aT,if_pos ⟨rfl,by simp[jc,gZ]⟩]
   ·rw[fS hcl hvl hin,Nat.zero_add,bK _ _ _ _ (by rw[bu];omega),bK _ _ _ _ (by omega),hdl,hvl]
    by_cases h1:k<i
    ·rw[if_neg (by omega),if_neg (by omega),if_pos h1,hpre k h1]
    ·rw[if_neg h1]
     by_cases h2:k<i+m
     ·rw[if_neg (by omega),if_pos (by omega),if_pos h2]
     ·rw[if_pos (by omega),if_neg h2,List.getElem?_drop];congr 1;omega
  ·have hi:i=n:=by omega
   subst hi;have h:=Any2.slices_Insert_int_end_grow L (some (adr b off)) i c vb voff m vc cs vs w hm hnc (by omega) hbig hcl hvl (λh=>by cases h)
    (λa ha j v hj=>by injection ha with ha;subst ha;rw[eU];exact hcs' j v hj) hvs' h1v
   obtain ⟨G,hG⟩:∃G,G=grownCap w (i+m) c (ρ.t 3):=⟨_,rfl⟩;rw[<-hG] at h hgc hgm;refine ⟨w.heap.size,0,G,_,ρ.t 3,_,h,hgc,hgm,⟨rfl,rfl,rfl,by simp[jc,gZ]⟩,.inr ⟨rfl,by simp[jc,gZ]⟩,λk hk _=>?_,by simp[jc,gZ];rfl,?_,λk hk=>?_⟩
   ·simp[jc,gZ,Array.getElem?_push,show k≠w.heap.size from by omega]
   ·simp[Builtin.zeroCells,Value.cells];omega
   ·rw[Nat.zero_add,Array.getElem?_append_left (by simp;omega)];have:cs.take i++(vs++cs.drop i)=cs++vs:=by rw[<-hcl,List.take_length,List.drop_length,List.append_nil]
    rw[this];simp
theorem BC (L:Lays2.n21 P ρ){w:World}{base:Option Addr}{vb voff m vc:Nat}{vs:List Value}(hm:0<m)(hbig:m*8<=140737488355328)(hvl:vs.length=m)
  (hvs:∀j v,vs[j]?=some v->w.cell? (adr vb (voff+j))=some v) (h1v:∀v∈vs,v.oneCell'=true) :
  ∃cap rest,m<=cap/\cap<=9223372036854775807/\rest.size=cap - m /\
  Calls P (ρ.f 21) #[.slice base 0 0,.int .i64 0,.slice (some (adr vb voff)) m vc] w (λx y=>x=.returned (.slice (some (adr w.heap.size 0)) m cap)/\y=World.add (World.drewn w) (.cells (vs.toArray++rest) (ρ.t 3) (0,0))):=by
 have hgc:=grownCap_ge w (0+m) 0 (ρ.t 3);have hgm:grownCap w (0+m) 0 (ρ.t 3)<=9223372036854775807:=by have:=grownCap_le_maxLen w (0+m) 0 (ρ.t 3) (by unfold maxLen;omega);unfold maxLen at this;omega
 have h:=Any2.slices_Insert_int_end_grow L base 0 0 vb voff m vc [] vs w hm (Nat.le_refl _) (by omega) (by omega) rfl hvl (λ_=>rfl)
  (λa ha j v hj=>by simp at hj) hvs h1v
 obtain ⟨G,hG⟩:∃G,G=grownCap w (0+m) 0 (ρ.t 3):=⟨_,rfl⟩;rw[<-hG] at h hgc hgm;rw[Nat.zero_add] at h hgc;exact ⟨G,Builtin.zeroCells (Value.int .i64 0).cells (G - m),hgc,hgm,by simp[Builtin.zeroCells,Value.cells],h⟩
end
noncomputable def nK (i:Nat)(rows:List (List AV))(g:G):OR :=
 am (Nat.beq i 0&&Nat.ble (bh rows*8) 140737488355328) (.upd (.hsl g.nx 0 0 (bh rows) none) (g.new (.cells 1 rows 0 true false))) .fail
noncomputable def tX (id2 i:Nat)(s:AV)(vrows:List (List AV))(g:G):OR :=
 match s with
 | .nils=>nK i vrows g
 | .esl=>nK i vrows g
 | .hsl id ep off len none =>
  match g.get id with
  | .cells 1 [] ep' false _=>am ((Nat.beq ep ep'&&Nat.beq off 0)&&Nat.beq len 0) (nK i vrows g) .fail
  | .cells sz rows ep' true false =>
   am (((((((Nat.beq sz 1&&Nat.beq ep ep')&&Nat.beq off 0)&&Nat.beq len (bh rows))&&iB (Nat.beq id id2))&&Nat.ble i len)&&Nat.ble 1 len)&&Nat.ble ((len+bh vrows)*8) 140737488355328)
    (.upd (.hsl id (ep+1) 0 (len+bh vrows) none) (g.put id (.cells 1 (ju i rows++(vrows++iJ i rows)) (ep+1) true false))) .fail
  | _=>.fail
 | _=>.fail
noncomputable def jg:Nat->List AV->G->OR:=λ_ xs g =>
 match xs with
 | [s,.int .i64 (.ofNat i),.hsl id2 ep2 off2 len2 _] =>
  match g.get id2 with
  | .cells sz2 vrows ep2' _ _ =>
   am ((((Nat.beq sz2 1&&Nat.beq ep2 ep2')&&Nat.beq off2 0)&&Nat.beq len2 (bh vrows))&&Nat.ble 1 len2) (tX id2 i s vrows g) .fail
  | _=>.fail
 | _=>.fail
theorem pO {d:Nat}{xs:List AV}{g:G}(h:jg d xs g≠.fail):∃s i id2 ep2 len2 lim2 vrows lo fz,xs=[s,.int .i64 (Int.ofNat i),.hsl id2 ep2 0 len2 lim2] /\
  g.h.get id2=.cells 1 vrows ep2 lo fz/\len2=vrows.length/\0<vrows.length/\jg d xs g=tX id2 i s vrows g:=by
 unfold jg at h ⊢
 split at h
 ·split at h
  ·rename_i hg;rw[aa] at h ⊢
   split at h
   ·rename_i hc;simp only[Bool.and_eq_true,ap] at hc;obtain ⟨⟨⟨⟨c1,c2⟩,c3⟩,c4⟩,c5⟩:=hc;have c1:=aA c1;have c2:=aA c2;have c3:=aA c3;have c4:=aA c4;subst c1;subst c2;subst c3;subst c4;rw[Nat.ble_eq] at c5;refine ⟨_,_,_,_,_,_,_,_,_,rfl,hg,rfl,c5,?_⟩;rw[if_pos];simp[ap];omega
   ·exact absurd rfl h
  ·exact absurd rfl h
 ·exact absurd rfl h
theorem vy {id2 i:Nat}{s:AV}{vrows:List (List AV)}{g:G}(h:tX id2 i s vrows g≠.fail) :
  ((s=.nils\/s=.esl\/∃id ep fz,s=.hsl id ep 0 0 none/\g.h.get id=.cells 1 [] ep false fz)/\i=0/\vrows.length*8<=140737488355328/\tX id2 i s vrows g=.upd (.hsl g.nx 0 0 vrows.length none) (g.new (.cells 1 vrows 0 true false))) \/
  ∃id ep rows,s=.hsl id ep 0 rows.length none/\g.h.get id=.cells 1 rows ep true false/\id≠id2/\i<=rows.length/\0<rows.length/\(rows.length+vrows.length)*8<=140737488355328 /\
   tX id2 i s vrows g=.upd (.hsl id (ep+1) 0 (rows.length+vrows.length) none) (g.put id (.cells 1 (rows.take i++(vrows++rows.drop i)) (ep+1) true false)):=by
 have hnew:nK i vrows g≠.fail->i=0/\vrows.length*8<=140737488355328/\nK i vrows g=.upd (.hsl g.nx 0 0 vrows.length none) (g.new (.cells 1 vrows 0 true false)):=by
  intro h;unfold nK at h ⊢;rw[aa] at h ⊢
  split at h
  ·rename_i hc;rw[if_pos hc];simp only[Bool.and_eq_true,ap,Nat.ble_eq] at hc;exact ⟨aA hc.1,hc.2,by rw[ap]⟩
  ·exact absurd rfl h
 unfold tX at h ⊢
 split at h
 ·exact .inl ⟨.inl rfl,hnew h⟩
 ·exact .inl ⟨.inr (.inl rfl),hnew h⟩
 ·rename_i id ep off len
  split at h
  ·rename_i ep' fz hg;rw[aa] at h
   split at h
   ·rename_i hc;have hc':=hc;simp only[Bool.and_eq_true] at hc;obtain ⟨⟨c1,c2⟩,c3⟩:=hc;have c1:=aA c1;have c2:=aA c2;have c3:=aA c3;subst c1;subst c2;subst c3;have:=hnew h;refine .inl ⟨.inr (.inr ⟨id,ep,fz,rfl,hg⟩),this.1,this.2.1,?_⟩;rw[aa,if_pos hc',this.2.2]
   ·exact absurd rfl h
  ·rename_i sz rows ep' hg;rw[aa] at h
   split at h
   ·rename_i hc;have hc':=hc;simp only[Bool.and_eq_true,ap] at hc;obtain ⟨⟨⟨⟨⟨⟨⟨c1,c2⟩,c3⟩,c4⟩,c5⟩,c6⟩,c7⟩,c8⟩:=hc;have c1:=aA c1;have c2:=aA c2;have c3:=aA c3;have c4:=aA c4;subst c1;subst c2;subst c3;subst c4;rw[Nat.ble_eq] at c6 c7 c8;refine .inr ⟨id,ep,rows,rfl,hg,λe=>?_,c6,c7,c8,?_⟩
    ·subst e;rw[notb_eq] at c5;simp at c5
    ·rw[aa,if_pos hc'];simp only[ap,a_,a9]
   ·exact absurd rfl h
  ·exact absurd rfl h
 ·exact absurd rfl h
section
variable {C:Cfg}{A:Nat->Nat->Prop}{bd:Nat}{w w':World}{γ γ':Gm}{hg:Nat->AObj}{nx:Nat}{ρ:Ren}
theorem Ic {g:G}{id:Nat}{ob:AObj}(r:Rel C A bd w' γ' (upd hg id ob) nx)(s:Stp w γ w' γ'):Fin C A bd w γ hg nx g w' γ' (upd hg id ob) (g.put id ob) :=
 ⟨r.up (Nat.le_max_left _ _),s,[id],by simp,λk hk=>by simp at hk;subst hk;simp[G.put_h,H.get_put],λk hk=>by
  rw[bY];simpa using hk⟩
theorem Ib {g:G}{ob:AObj}(r:Rel C A bd w' γ' (upd hg g.nx ob) (Nat.max nx (g.nx+1)))(s:Stp w γ w' γ'):Fin C A bd w γ hg nx g w' γ' (upd hg g.nx ob) (g.new ob) :=
 ⟨r.up (by simp),s,[g.nx],by simp,λk hk=>by simp at hk;subst hk;simp[G.new_h,H.get_put],λk hk=>by
  rw[bY];simpa using hk⟩
theorem Au (hr:Rel C A bd w γ hg nx){id ep:Nat}{rows:List (List AV)}{lo fz:Bool}(hid:hg id=.cells 1 rows ep lo fz) :
  ∃(c:Array Value) (e:TypeId) (l:List Value),w.heap[(γ id).blk]?=some (.cells c e (0,0))/\(γ id).base+(rows.length+(γ id).slack)<=c.size/\l.length=rows.length/\(∀j,j<rows.length->l[j]?=c[(γ id).base+j]?) /\
   (∀v∈l,v.oneCell'=true)/\(∀(k:Nat) row,rows[k]?=some row->row.length=1) /\
   ∀(k j:Nat) row x,rows[k]?=some row->row[j]?=some x->j=0/\x.one=true/\∃v,l[k]?=some v/\RV w γ A bd x v:=by
 have hob:=hr.obj id;rw[hid] at hob;obtain ⟨k1,k2,k3,k4,k5,k6,c,e,k7,k8,k9,k10⟩:=hob;have hget:∀j,j<rows.length->((c.toList.drop (γ id).base).take rows.length)[j]?=c[(γ id).base+j]?:=λj hj=>by rw[List.getElem?_take_of_lt hj,List.getElem?_drop];simp
 refine ⟨c,e,(c.toList.drop (γ id).base).take rows.length,k7,by omega,by simp;omega,hget,λv hv=>?_,k9,λk j row x h1 h2=>?_⟩
 ·obtain ⟨k,hk⟩:=List.getElem?_of_mem hv;have hlt:k<rows.length:=by have:=(List.getElem?_eq_some_iff.1 hk).1;simp at this;omega
  rw[hget k hlt] at hk;have hrow:=List.getElem?_eq_getElem hlt;have hl1:=k9 k _ hrow;have hx:rows[k][0]?=some (rows[k][0]'(by omega)):=List.getElem?_eq_getElem _;obtain ⟨a,v',b1,b2⟩:=k10 k 0 _ _ hrow hx;rw[show (γ id).base+k*1+0=(γ id).base+k from by omega,hk] at b1;injection b1 with b1;subst b1;exact (BQ b2 a).1
 ·have hj:j=0:=by have h3:=k9 k _ h1;have:=(List.getElem?_eq_some_iff.1 h2).1;omega
  subst hj;obtain ⟨a,v',b1,b2⟩:=k10 k 0 _ _ h1 h2;refine ⟨rfl,a,v',?_,b2⟩;rw[hget k (List.getElem?_eq_some_iff.1 h1).1];rw[show (γ id).base+k*1+0=(γ id).base+k from by omega] at b1;exact b1
theorem qL {P:Program}{f:FuncId}{args:Array Value}{u:Value}(h:Calls P f args w (λx y=>x=.returned u/\y=w'))(cs:List Frame):Outs P .normal f args cs w u w':=by obtain ⟨e,w1,fr,⟨he,hw⟩,hc,hf,hl⟩:=h cs;subst he;subst hw;obtain ⟨m,d,k,fn,hfn,hres⟩:=hl;exact ⟨fr,hc,m,d,k,hf,fn,by rw[<-hf];exact hfn,hres⟩
theorem D_ {P : Program} {f : FuncId} {fn : Func} (h : P.funcs[f]? = some fn) (hn : (fn.name == "runtime.NumGoroutine") = false) (hb : fn.body.isSome = true) : Enters P f := by
 intro args w;unfold callFunc;have hn : fn.name ≠ "runtime.NumGoroutine" := by simpa using hn
 cases hb':fn.body with
 | none=>rw[hb'] at hb;cases hb
 | some c=>simp[h,hn,hb']
theorem BA (L:Lays2.n21 C.P ρ)(hent:Enters C.P (ρ.f 21)):ExtOk C (ρ.f 21) jg:=by
 refine ⟨λd xs g hwf=>?_,λd xs g y hy=>?_,λA bd w γ hg nx g xs vs hr hwf hx hf hv hne cs=>?_⟩
 ·apply Small.mon _ hwf
  by_cases h:jg d xs g=.fail
  ·rw[h];trivial
  ·obtain ⟨s,i,id2,ep2,len2,lim2,vrows,lo,fz,e1,e2,e3,e4,e5⟩:=pO h;rw[e5] at h ⊢;rcases vy h with ⟨_,_,_,h1⟩ | ⟨id,ep,rows,_,h2,_,_,_,_,h1⟩
   ·rw[h1];exact .inr ⟨_,rfl⟩
   ·rw[h1];exact .inl ⟨_,_,rfl,by rw[h2];simp⟩
 ·have h:jg d xs g≠.fail:=by rw[hy];simp
  obtain ⟨s,i,id2,ep2,len2,lim2,vrows,lo,fz,e1,e2,e3,e4,e5⟩:=pO h;rw[e5] at h hy;rcases vy h with ⟨_,_,_,h1⟩ | ⟨id,ep,rows,_,h2,_,_,_,_,h1⟩<;>(rw[h1] at hy;cases hy)
 ·obtain ⟨s,i,id2,ep2,len2,lim2,vrows,lo,fz,e1,e2,e3,e4,e5⟩:=pO hne;subst e1;subst e3;rw[e5] at hne hf ⊢;obtain ⟨v1,v2,v3,rfl⟩:∃v1 v2 v3,vs=[v1,v2,v3]:=by
   have:=hv.1
   match vs,this with
   | [a,b,c],_=>exact ⟨a,b,c,rfl⟩
  have r1:RV w γ A bd s v1:=hv.2 0 _ _ rfl rfl;have r2:RV w γ A bd (.int .i64 (Int.ofNat i)) v2:=hv.2 1 _ _ rfl rfl;have r3:RV w γ A bd (.hsl id2 ep2 0 vrows.length lim2) v3:=hv.2 2 _ _ rfl rfl;cases r2;have hid2:hg id2=.cells 1 vrows ep2 lo fz:=by rw[hx id2 (by simp[List.flatMap_cons,aL,aH]) (by rw[e2];simp),e2]
  obtain ⟨vc,hv3,hvc,_⟩:=q9 hr r3 hid2;subst hv3;obtain ⟨cv,ev,lv,p1,p2,p3,p4,p5,p6,p7⟩:=Au hr hid2;have hz:(γ id2).base+0*1=(γ id2).base:=by omega
  rw[hz] at r3 ⊢;rcases vy hne with ⟨hs,hi,hbig,h1⟩ | ⟨id,ep,rows,hs,h2,hne2,hin,hpos,hbig,h1⟩
  ·subst hi;rw[h1] at hf ⊢;have hfree:(γ g.nx).kind=0:=hf g.nx (Nat.le_refl _) (by simp[gOf]);have hbase:∃base,v1=.slice base 0 0:=by
    rcases hs with rfl | rfl | ⟨id,ep,fz2,rfl,hgid⟩
    ·cases r1;exact ⟨_,rfl⟩
    ·cases r1;exact ⟨_,rfl⟩
    ·have hid:hg id=.cells 1 [] ep false fz2:=by rw[hx id (by simp[List.flatMap_cons,aL,aH]) (by rw[hgid];simp),hgid]
     obtain ⟨c,hv1,hnc,hco⟩:=q9 hr r1 hid;have hob:=hr.obj id;rw[hid] at hob;obtain ⟨-,-,-,k4,k5,-⟩:=hob;have hk:=k5.1 rfl;have hc0:c=0:=by simp only[gO] at hco;simp at k4;omega
     subst hc0;exact ⟨_,hv1⟩
   obtain ⟨base,hb⟩:=hbase;subst hb;obtain ⟨cap,rest,q1,q2,q3,q4⟩:=BC L (w:=w) (base:=base) (vb:=(γ id2).blk) (voff:=(γ id2).base) (m:=vrows.length) (vc:=vc) (vs:=lv) e4 hbig p3
    (λj v hj=>by rw[mH p1,<-p4 j (by rw[<-p3];exact (List.getElem?_eq_some_iff.1 hj).1)];exact hj) p5
   have hrr:RowsRel w γ A bd 1 vrows (lv.toArray++rest):=by refine ⟨by simp[p3],p6,λk j row x a b=>?_⟩;obtain ⟨j0,o1,v,l1,l2⟩:=p7 k j row x a b;subst j0;refine ⟨o1,v,?_,l2⟩;have hk:=(List.getElem?_eq_some_iff.1 a).1;rw[Array.getElem?_append_left (by simp;omega)];simpa using l1
   obtain ⟨γ',s1,s2,s3⟩:=sY (e:=ρ.t 3) hr hfree hrr vrows.length cap (by simp[q3];omega) q1 rfl q2;exact ⟨_,_,γ',_,Ib s1 s2,s3,.inr ⟨hent,qL q4 cs⟩⟩
  ·subst hs;rw[h1] at hf ⊢;have hid:hg id=.cells 1 rows ep true false:=by rw[hx id (by simp[List.flatMap_cons,aL,aH]) (by rw[h2];simp),h2]
   obtain ⟨c,hv1,hnc,hco⟩:=q9 hr r1 hid;subst hv1;have hob:=hr.obj id;rw[hid] at hob;obtain ⟨k1,k2,k3,k4,k5,k6,_⟩:=hob;have hob2:=hr.obj id2;rw[hid2] at hob2;obtain ⟨m1,_⟩:=hob2;have hblk:(γ id2).blk≠(γ id).blk:=λe=>hne2 (hr.inj id id2 (by rw[k1];decide) (by rw[m1];decide) e.symm);obtain ⟨cc,ec,lc,c1,c2,c3,c4,c5,c6,c7⟩:=Au hr hid;have hcap:c=rows.length+(γ id).slack:=by simp only[gO] at hco;omega
   have hins:=BB L (w:=w) (b:=(γ id).blk) (off:=(γ id).base) (n:=rows.length) (c:=c) (i:=i) (vb:=(γ id2).blk) (voff:=(γ id2).base) (m:=vrows.length) (vc:=vc)
    c1 p1 hblk hin e4 hnc (by have:=k5.2 rfl;omega) hbig (by omega) (by omega) (by omega) c3 p3 c4 p4 c5 p5
   obtain ⟨b',o',cap',c',e',w',n1,n2,n3,n4,n5,n6,n7,n8,n9⟩:=hins
   let gh:Gh:=⟨1,ep+1,1,rows.length+vrows.length,b',o',cap' - (rows.length+vrows.length),true⟩
   have hrl:(rows.take i++(vrows++rows.drop i)).length=rows.length+vrows.length:=by simp;omega
   have hcell:∀(k:Nat) row,(rows.take i++(vrows++rows.drop i))[k]?=some row->row.length=1/\∀(j:Nat) x,row[j]?=some x->x.one=true/\∃v,c'[o'+k*1+j]?=some v/\RV w γ A bd x v:=by
    intro k row hk;have hkl:k<rows.length+vrows.length:=by rw[<-hrl];exact (List.getElem?_eq_some_iff.1 hk).1
    have hck:=n9 k hkl;rw[fS c3 p3 hin] at hck;rw[fS (n:=rows.length) (m:=vrows.length) rfl rfl hin] at hk
    split at hk
    ·rename_i h1;rw[if_pos h1] at hck;refine ⟨c6 _ _ hk,λj x hj=>?_⟩;obtain ⟨j0,o1,v,l1,l2⟩:=c7 _ j row x hk hj;subst j0;exact ⟨o1,v,by rw[show o'+k*1+0=o'+k from by omega,hck];exact l1,l2⟩
    ·rename_i h1;rw[if_neg h1] at hck
     split at hk
     ·rename_i h2;rw[if_pos h2] at hck;refine ⟨p6 _ _ hk,λj x hj=>?_⟩;obtain ⟨j0,o1,v,l1,l2⟩:=p7 _ j row x hk hj;subst j0;exact ⟨o1,v,by rw[show o'+k*1+0=o'+k from by omega,hck];exact l1,l2⟩
     ·rename_i h2;rw[if_neg h2] at hck;refine ⟨c6 _ _ hk,λj x hj=>?_⟩;obtain ⟨j0,o1,v,l1,l2⟩:=c7 _ j row x hk hj;subst j0;exact ⟨o1,v,by rw[show o'+k*1+0=o'+k from by omega,hck];exact l1,l2⟩
   obtain ⟨s1,s2⟩:=hr.moved hid (w1:=w') (gh:=gh) (rows':=rows.take i++(vrows++rows.drop i)) rfl rfl rfl (by rw[hrl]) rfl n4
    (by rw[hrl];simp only[gh];omega) n5 n6 (c:=c') (e:=e') n7 (by rw[hrl];simp only[gh];omega)
    (λk row hk=>(hcell k row hk).1) (λk j row x hk hj=>(hcell k row hk).2 j x hj)
   have hz':(γ id).base+0*1=(γ id).base:=by omega
   rw[hz'];refine ⟨.slice (some (adr b' o')) (rows.length+vrows.length) cap',w',_,_,Ic s1 s2,?_,.inr ⟨hent,qL n1 cs⟩⟩;refine .hsl _ id (ep+1) 0 _ none _ _ cap' (by simp[gh]) (by simp[gh]) n2 (λ_=>⟨by simp[gh],by simp[gh],?_⟩);simp only[gO,upd_same,gh];omega
end
end Hx
end
section
namespace Go.Proofs.YteaikmdilmfbeaaGreat.Gen
open Hx
noncomputable def cfg0:Cfg:={ P:=Tryz.prog,iso:=λf=>Nat.testBit 1474260566420002459681004656182214504914697923220056571903 f,ext:=λ_=>none,glob:=λ_=>none }
theorem cfg0Ok:CfgOk cfg0:=CfgOk.plain (by kernel_rfl) (by kernel_rfl)
theorem insOk:ExtOk cfg0 160 jg:=BA (C:=cfg0) (ρ:=Tryz.lays21_ren) Tryz.lays21 (Hx.D_ Tryz.func160 (by kernel_rfl) (by kernel_rfl))
noncomputable def cfg:Cfg:=cfg0.add 160 jg
theorem cfgOk:CfgOk cfg:=cfg0Ok.add insOk
noncomputable def cfgP:Cfg:=cfg.add 27 (Ks cfg 1000 1000 27)
theorem cfgPOk:CfgOk cfgP:=cfgOk.add (Ih cfgOk)
theorem wakes_run:ak (sem cfgP 20000) 1 G.empty 12 []=.val (.bool true):=by kernel_rfl
noncomputable def cfg1:Cfg:=cfg.add 12 (uQ (.bool true))
theorem cfg1Ok:CfgOk cfg1:=cfgOk.add (ExtOk.cfg (C:=cfgP) (C':=cfg) rfl rfl (D6 cfgPOk wakes_run))
end Go.Proofs.YteaikmdilmfbeaaGreat.Gen
end
section
namespace Hx
open Go
set_option maxRecDepth 100000
noncomputable section
def C0:Cfg:=Go.Proofs.YteaikmdilmfbeaaGreat.Gen.cfg1
abbrev N.aJ:Nat:=167
abbrev N.au:Nat:=111
abbrev N.aw:Nat:=19
abbrev N.aK:Nat:=51
abbrev N.aL:Nat:=58
abbrev N.aM:Nat:=99
abbrev N.aN:Nat:=57
abbrev N.ax:Nat:=100
abbrev N.aa:Nat:=132
abbrev N.ay:Nat:=38
abbrev N.aO:Nat:=81
abbrev N.aP:Nat:=114
abbrev N.aQ:Nat:=82
abbrev N.aA:Nat:=83
abbrev N.af:Nat:=113
abbrev N.aR:Nat:=115
abbrev N.be:Nat:=9
abbrev N.bh:Nat:=12
abbrev N.aB:Nat:=93
abbrev N.aS:Nat:=112
abbrev N.aT:Nat:=145
abbrev N.aC:Nat:=123
abbrev N.aD:Nat:=87
abbrev N.am:Nat:=150
abbrev N.ac:Nat:=165
abbrev N.aU:Nat:=124
abbrev N.aV:Nat:=68
abbrev N.aW:Nat:=91
abbrev N.an:Nat:=47
abbrev N.aE:Nat:=48
abbrev N.aX:Nat:=92
abbrev N.aY:Nat:=15
abbrev N.aZ:Nat:=31
abbrev N.a7:Nat:=49
abbrev N.ah:Nat:=50
abbrev N.a8:Nat:=32
abbrev N.aF:Nat:=159
abbrev N.ap:Nat:=37
abbrev N.a9:Nat:=94
abbrev N.a_:Nat:=18
abbrev N.ba:Nat:=129
abbrev N.bg:Nat:=160
abbrev N.aG:Nat:=168
abbrev N.aq:Nat:=97
abbrev N.ak:Nat:=96
abbrev N.ae:Nat:=131
abbrev N.bc:Nat:=130
abbrev N.aH:Nat:=98
abbrev N.aI:Nat:=95
def dc:SC:=sQ [o 70 (.bin .lss (.t 69) (.t 68))] (.seq (.cond (.t 70) (.skip) (.exit 2)) (.seq (.blk 3 (sQ [oM 71 69,oX 72 67 69,oL 73 72,oM 17 71,oM 18 73] (sQ [oM 74 16,oM 75 74,og 76 75 true (.mv (.t 15)),og 77 75 true (.mv (.t 9)),og 78 75 true (.mv (.t 17)),og 79 75 true (.ixs 1 (.t 77) (.t 78)),og 80 75 true (.load false 1 (.t 79)),og 81 75 true (.ixs 1 (.t 76) (.t 80)),og 82 75 true (.load false 1 (.t 81)),og 83 75 true (.bin .lss (.t 82) (qI 0)),og 84 75 true (.mv (.t 83)),og 85 84 false (.mv (.t 15)),og 86 84 false (.mv (.t 9)),og 87 84 false (.mv (.t 17)),og 88 84 false (.ixs 1 (.t 86) (.t 87)),og 89 84 false (.load false 1 (.t 88)),og 90 84 false (.ixs 1 (.t 85) (.t 89)),og 91 84 false (.load false 1 (.t 90)),og 92 84 false (.mv (.t 18)),og 93 84 false (.bin .eql (.t 91) (.t 92)),og 94 75 true (.pick (.t 84) (.k (.bool true)) (.t 93)),o 95 (.pick (.t 75) (.t 94) (.k (.bool false))),oM 16 95] (.ops [oM 96 15,oM 97 9,oM 98 17,oX 99 97 98,oL 100 99,oM 101 18,oX 102 96 100,oz (.store 1 (.t 102) (.t 101))])))) (.ops [oA 103 69,oM 69 103])))
def dh:SC:=.ops [oM 160 10,oM 161 21,o 162 (.bsl 1 1 [.int .i64 0] [0] [.t 161]),o 163 (.app 1 8 (.t 160) (.t 162)),oM 10 163]
def di:SC:=sQ [o 105 (.load true 2 (.t 7)),oM 106 15,o 107 (.call N.ay [.t 105,.t 106]),oM 104 107,o 108 (.ext (.t 104) 0),o 109 (.ext (.t 104) 1),oM 19 108,oM 20 109] (.seq (sQ [oM 110 20,o 111 (.bin .neq (.t 110) (qI 0)),oM 112 111,og 113 112 false (.mv (.t 16)),og 114 112 false (.not (.t 113)),og 115 112 false (.mv (.t 114)),og 116 115 true (.mv (.t 13)),og 117 115 true (.bin .neq (.t 116) (qI 0)),og 118 112 false (.pick (.t 115) (.t 117) (.k (.bool false))),o 119 (.pick (.t 112) (.k (.bool true)) (.t 118)),oM 120 119,og 121 120 false (.mv (.t 12)),og 122 120 false (.mv (.t 9)),og 123 120 false (.len .slice (.t 122)),og 124 120 false (.bin .eql (.t 121) (.t 123)),og 125 120 false (.mv (.t 124)),og 126 125 true (.mv (.t 16)),og 127 120 false (.pick (.t 125) (.t 126) (.k (.bool false))),og 128 120 false (.mv (.t 127)),og 129 128 true (.mv (.t 13)),og 130 128 true (.mv (.t 19)),og 131 128 true (.bin .neq (.t 129) (.t 130)),og 132 120 false (.pick (.t 128) (.t 131) (.k (.bool false))),o 133 (.pick (.t 120) (.k (.bool true)) (.t 132))] (.cond (.t 133) (sQ [o 6 (.mv (.k (.bool false)))] (.ret)) (.skip))) (sQ [oM 134 13,oM 11 134] (sQ [oM 135 12,oM 136 9,oN 137 136,o 138 (.bin .lss (.t 135) (.t 137))] (.cond (.t 138) (sQ [oK 21 0] (.seq (sQ [oM 139 2,oN 140 139,o 141 (.bin .gtr (.t 140) (qI 0))] (.cond (.t 141) (.quiet [oM 142 2,oM 143 12,oM 144 2,oN 145 144,o 146 (.bin .rem (.t 143) (.t 145)),oX 147 142 146,oL 148 147,o 149 (.conv .i64 (.t 148)),oF 150 1 7,oL 151 150,oM 152 9,oM 153 12,oX 154 152 153,oL 155 154,o 156 (.ixs 3 (.t 151) (.t 155)),oF 157 0 156,oL 158 157,o 159 (.bin .rem (.t 149) (.t 158)),oM 21 159]) (.skip))) dh)) (.skip)))))
def gw:SC:=.ops [oM 40 12,oA 41 40,oM 12 41]
def dg:SC:=.seq (sQ [oM 36 12,oM 37 9,oN 38 37,o 39 (.bin .leq (.t 36) (.t 38))] (.cond (.t 39) (.skip) (.exit 0))) (.seq (.blk 1 (sQ [o 43 (.load true 2 (.t 7)),oM 44 8,oM 45 9,oM 46 10,o 47 (.call N.aw [.t 43,.t 44,.t 45,.t 46]),oM 42 47,o 48 (.ext (.t 42) 0),o 49 (.ext (.t 42) 1),oM 13 48,oM 14 49] (.seq (sQ [oM 50 14,o 51 (.bin .neq (.t 50) (qI 0)),oM 52 51,og 53 52 false (.mv (.t 13)),og 54 52 false (.bin .lss (.t 53) (qI 0)),o 55 (.pick (.t 52) (.k (.bool true)) (.t 54)),oM 56 55,og 57 56 false (.mv (.t 11)),og 58 56 false (.bin .geq (.t 57) (qI 0)),og 59 56 false (.mv (.t 58)),og 60 59 true (.mv (.t 13)),og 61 59 true (.mv (.t 11)),og 62 59 true (.bin .gtr (.t 60) (.t 61)),og 63 56 false (.pick (.t 59) (.t 62) (.k (.bool false))),o 64 (.pick (.t 56) (.k (.bool true)) (.t 63))] (.cond (.t 64) (sQ [o 6 (.mv (.k (.bool false)))] (.ret)) (.skip))) (sQ [oM 65 8,o 66 (.call N.ap [.t 65]),oM 15 66] (sQ [o 16 (.mv (.k (.bool true)))] (.seq (sQ [oM 67 10,oN 68 67,oK 69 0] (.blk 2 (.loop dc))) di)))))) gw)
def gx:SC:=sQ [o 6 (.mv (.k (.bool true)))] (.ret)
def ig:SC:=.seq (sQ [o 22 (.call N.bh []),o 23 (.not (.t 22))] (.cond (.t 23) (sQ [o 6 (.mv (.k (.bool false)))] (.ret)) (.skip))) (sQ [o 24 (.load true 3 (.t 3)),o 25 (.call N.aY [.t 24]),o 7 (.alloc [.int .i64 0,.nils]),oz (.store 2 (.t 7) (.t 25))] (.seq (.quiet [oF 26 0 4,o 27 (.load true 9 (.t 26)),o 28 (.load true 2 (.t 7)),o 29 (.call N.aZ [.t 27,.t 28]),oF 30 9 4,oL 31 30,oF 32 1 7,oL 33 32,oN 34 33,o 35 (.call N.a8 [.t 31,.t 34]),oM 8 29,oM 9 35]) (sQ [o 10 (.mv (.k (.nils)))] (sQ [oK 11 (-1)] (.seq (sQ [oK 12 0] (.blk 0 (.loop dg))) gx)))))
def eD:SF:=⟨164,[.tm 6],sQ [o 3 (.box (.t 0)),o 4 (.box (.t 1)),o 6 (.mv (.k (.bool false)))] ig⟩
def pu:SC:=sQ [oM 65 6,oM 66 9,o 67 (.bin .mul (.t 65) (.t 66)),oM 6 67] (.feet [0,1,0,0,12,28,0,127,255,511] [oF 68 1 4,oL 69 68,oM 70 5,oM 71 7,oX 72 70 71,oL 73 72,oM 74 9,o 75 (.ixs 3 (.t 69) (.t 73)),oF 76 0 75,oz (.store 1 (.t 76) (.t 74))])
def px:SC:=sQ [oF 50 0 8,oL 51 50,o 52 (.bin .rem (.t 51) (.k (.int .u8 2))),o 53 (.conv .i64 (.t 52)),o 54 (.bin .add (qI 2) (.t 53)),oM 9 54] (.seq (sQ [oM 55 6,oM 56 9,o 57 (.bin .mul (.t 55) (.t 56)),oM 58 3,o 59 (.bin .sub (.t 58) (qI 1)),oM 60 7,o 61 (.bin .sub (.t 59) (.t 60)),o 62 (.conv .u64 (.t 61)),o 63 (.bin .shl (.t 57) (.t 62)),o 64 (.bin .gtr (.t 63) (qI 100))] (.cond (.t 64) (.ops [oK 9 2]) (.skip))) pu)
def jk:SC:=.ops [oM 38 7,oA 39 38,oM 7 39]
def eG:SC:=.seq (sQ [oM 35 7,oM 36 3,o 37 (.bin .lss (.t 35) (.t 36))] (.cond (.t 37) (.skip) (.exit 0))) (.seq (.blk 1 (sQ [o 8 (.alloc [.int .u8 0,.int .u8 0,.nils])] (.seq (sQ [oM 40 7,oF 41 1 1,oL 42 41,oN 43 42,o 44 (.bin .lss (.t 40) (.t 43))] (.cond (.t 44) (.ops [oF 45 1 1,oL 46 45,oM 47 7,o 48 (.ixs 3 (.t 46) (.t 47)),o 49 (.load true 3 (.t 48)),oz (.store 3 (.t 8) (.t 49))]) (.skip))) px))) jk)
def jl:SC:=.ops [oM 104 14,oA 105 104,oM 14 105]
def eH:SC:=.seq (sQ [oM 101 14,oM 102 10,o 103 (.bin .lss (.t 101) (.t 102))] (.cond (.t 103) (.skip) (.exit 6))) (.seq (.blk 7 (sQ [oM 106 5,oM 107 14,oX 108 106 107,oL 109 108,oM 110 13,o 111 (.bin .eql (.t 109) (.t 110)),oM 112 111,og 113 112 true (.fad 1 (.t 11)),og 114 112 true (.load false 1 (.t 113)),og 115 112 true (.mv (.t 14)),og 116 112 true (.conv .u64 (.t 115)),og 117 112 true (.bin .shr (.t 114) (.t 116)),og 118 112 true (.bin .and (.t 117) (.k (.int .u8 1))),og 119 112 true (.bin .eql (.t 118) (.k (.int .u8 1))),o 120 (.pick (.t 112) (.t 119) (.k (.bool false))),oM 121 120,og 122 121 true (.fad 1 (.t 4)),og 123 121 true (.load false 1 (.t 122)),og 124 121 true (.mv (.t 12)),og 125 121 true (.ixs 3 (.t 123) (.t 124)),og 126 121 true (.fad 1 (.t 125)),og 127 121 true (.load false 1 (.t 126)),og 128 121 true (.len .slice (.t 127)),og 129 121 true (.bin .lss (.t 128) (qI 3)),o 130 (.pick (.t 121) (.t 129) (.k (.bool false)))] (.cond (.t 130) (.feet [0,1,0,0,8,0,56,120,248,0,512,2040,4095,8191,16383] [oF 131 1 4,oL 132 131,oM 133 12,oF 134 1 4,oL 135 134,oM 136 12,o 137 (.ixs 3 (.t 135) (.t 136)),oF 138 1 137,oL 139 138,oM 140 13,o 141 (.bsl 1 1 [.int .i64 0] [0] [.t 140]),o 142 (.app 1 8 (.t 139) (.t 141)),o 143 (.ixs 3 (.t 132) (.t 133)),oF 144 1 143,oz (.store 1 (.t 144) (.t 142))]) (.skip)))) jl)
def jn:SC:=.ops [oM 99 13,oA 100 99,oM 13 100]
def eI:SC:=.seq (sQ [oM 96 13,oM 97 3,o 98 (.bin .lss (.t 96) (.t 97))] (.cond (.t 98) (.skip) (.exit 4))) (.seq (.blk 5 (sQ [oK 14 0] (.blk 6 (.loop eH)))) jn)
def eJ:SC:=.seq (sQ [oM 145 15,o 146 (.load true 2 (.t 4)),oM 147 12,o 148 (.call N.a7 [.t 146,.t 147]),o 149 (.call N.aE [.t 148]),o 150 (.bin .lss (.t 145) (.t 149))] (.cond (.t 150) (.skip) (.exit 8))) (.seq (.blk 9 (.feet [0,1,0,0,8,0,56,120,248,0,512,0,2048,0,14336,30720,63488,0,131072,0,0,1048576,0,7340032,15728640,32505856,66060288,133693440,268434944,536870400,1073741816,2147483647,4294967295,8589934591] [oF 153 1 4,oL 154 153,oM 155 12,oF 156 1 4,oL 157 156,oM 158 12,o 159 (.ixs 3 (.t 157) (.t 158)),oF 160 2 159,oL 161 160,oF 162 0 4,oL 163 162,oF 164 1 4,oL 165 164,oM 166 12,o 167 (.ixs 3 (.t 165) (.t 166)),oF 168 0 167,oL 169 168,oF 170 2 11,oL 171 170,oM 172 15,oF 173 1 4,oL 174 173,oM 175 12,o 176 (.ixs 3 (.t 174) (.t 175)),oF 177 0 176,oL 178 177,oA 179 178,o 180 (.bin .mul (.t 172) (.t 179)),o 181 (.call N.ah [.t 163,.t 169,.t 171,.t 180]),o 182 (.bsl 1 1 [.nils] [0] [.t 181]),o 183 (.app 1 24 (.t 161) (.t 182)),o 184 (.ixs 3 (.t 154) (.t 155)),oF 185 2 184,oz (.store 1 (.t 185) (.t 183))])) (.ops [oM 151 15,oA 152 151,oM 15 152]))
def jo:SC:=sQ [oK 15 0] (.blk 8 (.loop eJ))
def iN:SC:=sQ [oM 92 5,oM 93 10,oX 94 92 93,oL 95 94,oM 12 95] (.seq (sQ [oK 13 0] (.blk 4 (.loop eI))) jo)
def iO:SC:=.ops [oM 80 10,oA 81 80,oM 10 81]
def d6:SC:=.seq (sQ [oM 77 10,oM 78 3,o 79 (.bin .lss (.t 77) (.t 78))] (.cond (.t 79) (.skip) (.exit 2))) (.seq (.blk 3 (sQ [o 11 (.alloc [.int .u8 0,.int .u8 0,.nils])] (.seq (sQ [oM 82 10,oF 83 1 1,oL 84 83,oN 85 84,o 86 (.bin .lss (.t 82) (.t 85))] (.cond (.t 86) (.ops [oF 87 1 1,oL 88 87,oM 89 10,o 90 (.ixs 3 (.t 88) (.t 89)),o 91 (.load true 3 (.t 90)),oz (.store 3 (.t 11) (.t 91))]) (.skip))) iN))) iO)
def iP:SC:=sQ [o 186 (.load true 2 (.t 4)),oz (.store 2 (.t 2) (.t 186))] (.ret)
def iQ:SC:=.seq (sQ [oK 10 0] (.blk 2 (.loop d6))) iP
def jK:SC:=sQ [oF 16 1 1,oL 17 16,oN 18 17,o 19 (.mx (.t 18) (qI 1)),o 20 (.mn (.t 19) (qI 5)),oM 3 20] (.seq (.feet [0,1,3,7,15,0,32,127,0,511] [oF 21 0 1,oL 22 21,o 23 (.bin .rem (.t 22) (.k (.int .u8 60))),o 24 (.conv .i64 (.t 23)),o 25 (.bin .add (qI 1) (.t 24)),oM 26 3,o 27 (.mks 3 56 [.int .i64 0,.nils,.nils] (.t 26) (.t 26)),o 28 (.build [.int .i64 0,.nils] [(0,1),(1,1)] [.t 25,.t 27]),o 4 (.alloc [.int .i64 0,.nils]),oz (.store 2 (.t 4) (.t 28))]) (.seq (.feet [0,1,0,4,15,31,63] [oM 29 3,o 30 (.mks 1 1 [.int .u8 0] (.t 29) (.t 29)),oF 31 2 1,oL 32 31,o 33 (.build [.nils,.int .u16 0,.nils] [(0,1),(2,1)] [.t 30,.t 32]),o 34 (.call N.an [.t 33]),oM 5 34]) (sQ [oK 6 1] (.seq (sQ [oK 7 0] (.blk 0 (.loop eG))) iQ))))
def ir:SF:=⟨187,[.cell true 2 2],sQ [o 1 (.box (.t 0)),o 2 (.alloc [.int .i64 0,.nils])] jK⟩
def gI:SC:=sQ [o 14 (.bin .lss (.t 13) (.t 12))] (.seq (.cond (.t 14) (.skip) (.exit 0)) (.seq (.blk 1 (sQ [oM 15 13,oM 5 15] (.seq (.quiet [oM 16 0,oM 17 5,oX 18 16 17,oL 19 18,oM 20 1,oM 21 5,oX 22 20 21,oL 23 22,o 24 (.bin .neq (.t 19) (.t 23))]) (.cond (.t 24) (sQ [o 4 (.mv (.k (.bool false)))] (.ret)) (.skip))))) (.ops [oA 25 13,oM 13 25])))
def gJ:SC:=sQ [o 4 (.mv (.k (.bool true)))] (.ret)
def cR:SF:=⟨26,[.tm 4],sQ [o 4 (.mv (.k (.bool false)))] (.seq (sQ [oM 6 0,oN 7 6,oM 8 1,oN 9 8,o 10 (.bin .neq (.t 7) (.t 9))] (.cond (.t 10) (sQ [o 4 (.mv (.k (.bool false)))] (.ret)) (.skip))) (.seq (sQ [oM 11 0,oN 12 11,oK 13 0] (.blk 0 (.loop gI))) gJ))⟩
def lF:SC:=sQ [o 13 (.load true 2 (.t 4)),oM 14 1,oM 15 2,o 16 (.call N.aK [.t 13,.t 14,.t 15]),oM 12 16,o 17 (.ext (.t 12) 0),o 18 (.ext (.t 12) 1),oM 10 17,oM 11 18] (.seq (sQ [oM 19 11,o 20 (.bin .neq (.t 19) (qI 0))] (.cond (.t 20) (sQ [oM 21 11,oK 8 0,oM 9 21] (.ret)) (.skip))) (.seq (sQ [oM 22 10,oM 23 3,o 24 (.call N.aN [.t 22,.t 23]),o 25 (.not (.t 24))] (.cond (.t 25) (sQ [oK 8 0,oK 9 2] (.ret)) (.skip))) (sQ [oM 26 10,oM 27 3,o 28 (.call N.aL [.t 26,.t 27]),oM 8 28,oK 9 0] (.ret))))
def jB:SF:=⟨29,[.tm 8,.tm 9],sQ [o 4 (.box (.t 0)),oK 8 0,oK 9 0] lF⟩
def fG:SC:=.ops [oM 34 5,oM 35 7,o 36 (.bsl 1 1 [.int .i64 0] [0] [.t 35]),o 37 (.app 1 8 (.t 34) (.t 36)),oM 5 37]
def qy:SC:=.ops [oM 13 6,oA 14 13,oM 6 14]
def qw:SC:=.seq (sQ [oM 8 6,oF 9 1 3,oL 10 9,oN 11 10,o 12 (.bin .lss (.t 8) (.t 11))] (.cond (.t 12) (.skip) (.exit 0))) (.seq (.blk 1 (sQ [oK 7 (-1)] (.seq (sQ [oF 15 0 2,oL 16 15,oM 17 6,o 18 (.conv .u64 (.t 17)),o 19 (.bin .shr (.t 16) (.t 18)),o 20 (.bin .and (.t 19) (.k (.int .u8 1))),o 21 (.bin .eql (.t 20) (.k (.int .u8 1)))] (.cond (.t 21) (.quiet [oM 22 6,oF 23 1 2,o 24 (.ixa 8 1 (.t 23) (.t 22)),oL 25 24,o 26 (.conv .i64 (.t 25)),oF 27 1 3,oL 28 27,oM 29 6,o 30 (.ixs 3 (.t 28) (.t 29)),oF 31 0 30,oL 32 31,o 33 (.bin .rem (.t 26) (.t 32)),oM 7 33]) (.skip))) fG))) qy)
def jL:SC:=sQ [oM 38 5,oM 4 38] (.ret)
def kw:SC:=sQ [o 5 (.mv (.k (.nils)))] (.seq (sQ [oK 6 0] (.blk 0 (.loop qw))) jL)
def iY:SF:=⟨39,[.tm 4],sQ [o 2 (.box (.t 0)),o 3 (.box (.t 1)),o 4 (.mv (.k (.nils)))] kw⟩
def mU:SC:=.ops [oM 14 6,oA 15 14,oM 6 15]
def mT:SC:=.seq (sQ [oM 7 6,oM 8 1,o 9 (.bin .lss (.t 7) (.t 8)),oM 10 9,og 11 10 true (.mv (.t 6)),og 12 10 true (.bin .lss (.t 11) (qI 8)),o 13 (.pick (.t 10) (.t 12) (.k (.bool false)))] (.cond (.t 13) (.skip) (.exit 0))) (.seq (.blk 1 (sQ [oM 16 0,oM 17 6,o 18 (.conv .u64 (.t 17)),o 19 (.bin .shr (.t 16) (.t 18)),o 20 (.bin .and (.t 19) (.k (.int .u8 1))),o 21 (.bin .eql (.t 20) (.k (.int .u8 1)))] (.cond (.t 21) (.ops [oM 22 5,oM 23 6,o 24 (.bsl 1 1 [.int .i64 0] [0] [.t 23]),o 25 (.app 1 8 (.t 22) (.t 24)),oM 5 25]) (.skip)))) mU)
def mV:SC:=sQ [oM 26 5,oM 4 26] (.ret)
def ma:SF:=⟨27,[.tm 4],sQ [o 4 (.mv (.k (.nils)))] (sQ [o 5 (.mv (.k (.nils)))] (.seq (sQ [oK 6 0] (.blk 0 (.loop mT))) mV))⟩
def bg:SF:=⟨8,[.tm 2],sQ [o 2 (.mv (.k (.nils)))] (.seq (sQ [oM 3 0,o 4 (.eq false .slice (.t 3) (.k (.nils)))] (.cond (.t 4) (sQ [o 2 (.mv (.k (.nils)))] (.ret)) (.skip))) (sQ [o 5 (.bsl 1 0 [.int .i64 0] [] []),oM 6 0,o 7 (.app 1 8 (.t 5) (.t 6)),oM 2 7] (.ret)))⟩
def pi:SC:=sQ [o 9 (.load true 2 (.t 2)),oM 10 1,o 11 (.bsl 1 1 [.nils] [0] [.t 10]),o 12 (.call N.aO [.t 9,.t 11]),oM 8 12,o 13 (.ext (.t 8) 0),o 14 (.ext (.t 8) 1),o 6 (.alloc [.int .i64 0,.nils,.nils,.nils]),oz (.store 4 (.t 6) (.t 13)),oM 7 14] (.seq (sQ [oM 15 7,o 16 (.bin .neq (.t 15) (qI 0))] (.cond (.t 16) (sQ [oM 17 7,oK 4 0,oM 5 17] (.ret)) (.skip))) (sQ [o 18 (.load true 4 (.t 6)),oM 19 1,o 20 (.call N.aQ [.t 18,.t 19]),oM 4 20,oK 5 0] (.ret)))
def nE:SF:=⟨21,[.tm 4,.tm 5],sQ [o 2 (.box (.t 0)),oK 4 0,oK 5 0] pi⟩
def bV:SC:=sQ [o 6 (.mv (.k (.nils)))] (sQ [oM 28 6,oM 29 3,oM 30 5,o 31 (.slc 1 (.t 29) [] [.t 30]),o 32 (.app 1 8 (.t 28) (.t 31)),oM 33 4,o 34 (.bsl 1 1 [.int .i64 0] [0] [.t 33]),o 35 (.app 1 8 (.t 32) (.t 34)),oM 6 35] (.ops [oM 36 6,oM 37 3,oM 38 5,o 39 (.slc 1 (.t 37) [.t 38] []),o 40 (.app 1 8 (.t 36) (.t 39)),oM 3 40]))
def jE:SC:=.ops [oM 12 4,oA 13 12,oM 4 13]
def jD:SC:=.seq (sQ [oM 7 4,o 8 (.load true 3 (.t 1)),o 9 (.call N.aW [.t 8]),oN 10 9,o 11 (.bin .lss (.t 7) (.t 10))] (.cond (.t 11) (.skip) (.exit 0))) (.seq (.blk 1 (sQ [oK 5 0] (.seq (sQ [oM 14 4,oF 15 2 1,oL 16 15,oN 17 16,o 18 (.bin .lss (.t 14) (.t 17))] (.cond (.t 18) (.ops [oF 19 2 1,oL 20 19,oM 21 4,oX 22 20 21,oL 23 22,o 24 (.conv .i64 (.t 23)),oM 25 4,oA 26 25,o 27 (.bin .rem (.t 24) (.t 26)),oM 5 27]) (.skip))) bV))) jE)
def dS:SC:=sQ [oM 41 3,oM 2 41] (.ret)
def d_:SC:=sQ [o 3 (.mv (.k (.nils)))] (.seq (sQ [oK 4 0] (.blk 0 (.loop jD))) dS)
def cK:SF:=⟨42,[.tm 2],sQ [o 1 (.box (.t 0)),o 2 (.mv (.k (.nils)))] d_⟩
def tV:SC:=.seq (sQ [oM 5 4,oM 6 0,oN 7 6,o 8 (.bin .lss (.t 5) (.t 7))] (.cond (.t 8) (.skip) (.exit 0))) (.seq (.blk 1 (.ops [oM 11 3,oM 12 0,oM 13 4,oX 14 12 13,oL 15 14,o 16 (.bin .mul (.t 11) (.t 15)),oM 3 16])) (.ops [oM 9 4,oA 10 9,oM 4 10]))
def ox:SC:=sQ [oM 17 3,oM 2 17] (.ret)
def nH:SF:=⟨18,[.tm 2],sQ [oK 2 0] (sQ [oK 3 1] (.seq (sQ [oK 4 0] (.blk 0 (.loop tV))) ox))⟩
def iS:SC:=.seq (.quiet [o 5 (.load true 2 (.t 2)),o 6 (.call N.aX [.t 5]),oF 7 1 2,oL 8 7,oM 9 1,o 10 (.ixs 3 (.t 8) (.t 9)),oF 11 1 10,oL 12 11,o 13 (.call N.aV [.t 6,.t 12]),oM 4 13]) (.ret)
def fH:SF:=⟨14,[.tm 4],sQ [o 2 (.box (.t 0)),o 4 (.mv (.k (.nils)))] iS⟩
def pz:SC:=.ops [oM 39 10,oM 40 9,oM 41 11,oX 42 40 41,oL 43 42,o 44 (.bin .add (.t 39) (.t 43)),oM 10 44]
def pA:SC:=.ops [oM 20 11,oA 21 20,oM 11 21]
def kA:SC:=.seq (sQ [oM 17 11,oM 18 1,o 19 (.bin .lss (.t 17) (.t 18))] (.cond (.t 19) (.skip) (.exit 0))) (.seq (.blk 1 (.seq (sQ [oM 22 2,oN 23 22,o 24 (.bin .gtr (.t 23) (qI 0))] (.cond (.t 24) (.ops [oM 25 9,oM 26 11,oM 27 2,oM 28 3,oM 29 11,o 30 (.bin .add (.t 28) (.t 29)),oM 31 2,oN 32 31,o 33 (.bin .rem (.t 30) (.t 32)),oX 34 27 33,oL 35 34,o 36 (.bin .rem (.t 35) (.k (.int .u8 8))),o 37 (.conv .i64 (.t 36)),oX 38 25 26,oz (.store 1 (.t 38) (.t 37))]) (.skip))) pz)) pA)
def pB:SC:=.ops [oM 68 12,oM 69 9,oM 70 14,oX 71 69 70,oL 72 71,o 73 (.bin .sub (.t 68) (.t 72)),oM 12 73]
def pC:SC:=.ops [oM 49 14,oA 50 49,oM 14 50]
def kC:SC:=.seq (sQ [oM 46 14,oM 47 1,o 48 (.bin .lss (.t 46) (.t 47))] (.cond (.t 48) (.skip) (.exit 2))) (.seq (.blk 3 (.seq (sQ [oM 51 9,oM 52 14,oX 53 51 52,oL 54 53,o 55 (.bin .gtr (.t 54) (qI 0))] (.cond (.t 55) (sQ [oM 56 9,oM 57 14,oM 58 0,oM 59 9,oM 60 14,oX 61 59 60,oL 62 61,o 63 (.bin .mul (.t 58) (.t 62)),oM 64 10,o 65 (.bin .quo (.t 63) (.t 64)),oX 66 56 57,oz (.store 1 (.t 66) (.t 65))] (.ops [oM 67 14,oM 13 67])) (.skip))) pB)) pC)
def pD:SC:=sQ [oM 74 9,oM 75 13,oM 76 9,oM 77 13,oX 78 76 77,oL 79 78,oM 80 12,o 81 (.bin .add (.t 79) (.t 80)),oX 82 74 75,oz (.store 1 (.t 82) (.t 81))] (sQ [oM 83 9,oM 8 83] (.ret))
def pE:SC:=sQ [oM 45 0,oM 12 45,oK 13 0] (.seq (sQ [oK 14 0] (.blk 2 (.loop kC))) pD)
def py:SF:=⟨84,[.tm 8],sQ [o 8 (.mv (.k (.nils)))] (sQ [oM 15 1,o 16 (.mks 1 8 [.int .i64 0] (.t 15) (.t 15)),oM 9 16] (sQ [oK 10 0] (.seq (sQ [oK 11 0] (.blk 0 (.loop kA))) pE)))⟩
def ck:SC:=sQ [o 31 (.bin .lss (.t 30) (.t 29))] (.seq (.cond (.t 31) (.skip) (.exit 0)) (.seq (.blk 1 (sQ [oX 32 28 30,oL 33 32,oM 12 33] (.seq (sQ [oM 34 12,oM 35 10,o 36 (.bin .leq (.t 34) (.t 35)),oM 37 36,og 38 37 false (.mv (.t 12)),og 39 37 false (.fad 1 (.t 3)),og 40 37 false (.load false 1 (.t 39)),og 41 37 false (.len .slice (.t 40)),og 42 37 false (.bin .geq (.t 38) (.t 41)),o 43 (.pick (.t 37) (.k (.bool true)) (.t 42))] (.cond (.t 43) (sQ [o 6 (.mv (.k (.nilp))),oK 7 2] (.ret)) (.skip))) (.ops [oM 44 12,oM 10 44])))) (.ops [oA 45 30,oM 30 45])))
def nD:SC:=.ops [oA 66 49,oM 49 66]
def dB:SC:=sQ [o 50 (.bin .lss (.t 49) (.t 48))] (.seq (.cond (.t 50) (.skip) (.exit 2)) (.seq (.blk 3 (sQ [oM 51 49,oM 13 51] (sQ [oM 52 2,oM 53 13,o 54 (.call N.a9 [.t 52,.t 53]),o 55 (.not (.t 54))] (.cond (.t 55) (.feet [0,0,2,6,14,0,32,126,255,511,1023] [oL 56 9,oL 57 9,o 58 (.nilc (.t 57)),oF 59 3 58,oL 60 59,oM 61 13,o 62 (.bsl 1 1 [.int .i64 0] [0] [.t 61]),o 63 (.app 1 8 (.t 60) (.t 62)),o 64 (.nilc (.t 56)),oF 65 3 64,oz (.store 1 (.t 65) (.t 63))]) (.skip))))) nD))
def h_:SC:=sQ [oM 14 76] (.ops [oM 15 77])
def dC:SC:=sQ [o 81 (.bin .lss (.t 80) (.t 79))] (.seq (.cond (.t 81) (.skip) (.exit 6)) (.seq (.blk 7 (sQ [oM 82 80,oX 83 78 80,oL 84 83,oM 16 82,oM 17 84] (sQ [oM 85 17,o 86 (.bin .geq (.t 85) (qI 0)),oM 87 86,og 88 87 true (.mv (.t 17)),og 89 87 true (.mv (.t 15)),og 90 87 true (.mv (.t 16)),og 91 87 true (.ixs 1 (.t 89) (.t 90)),og 92 87 true (.load false 1 (.t 91)),og 93 87 true (.bin .neq (.t 88) (.t 92)),o 94 (.pick (.t 87) (.t 93) (.k (.bool false)))] (.cond (.t 94) (sQ [oL 95 9,o 96 (.nilc (.t 95)),oF 97 4 96,oL 98 97,oM 99 14,oX 100 98 99,oz (.store 1 (.t 100) (qI 0))] (.exit 5)) (.skip))))) (.ops [oA 101 80,oM 80 101])))
def ib:SC:=.feet [0,1,3,7,0,16,48,112,0,496,1008,2047,4095,8191,16383] [oL 102 9,o 103 (.nilc (.t 102)),oF 104 5 103,oL 105 104,oL 106 9,o 107 (.nilc (.t 106)),oF 108 4 107,oL 109 108,oM 110 14,oX 111 109 110,oL 112 111,o 113 (.bin .add (.t 105) (.t 112)),o 114 (.nilc (.t 102)),oF 115 5 114,oz (.store 1 (.t 115) (.t 113))]
def ia:SC:=.blk 5 (.seq (sQ [oL 78 4,oN 79 78,oK 80 0] (.blk 6 (.loop dC))) ib)
def ic:SC:=sQ [oL 116 9,oM 6 116,oK 7 0] (.ret)
def dD:SC:=.seq (.feet [0,0,2,7,15,31] [oL 67 9,o 68 (.load true 2 (.t 3)),o 69 (.call N.aI [.t 68]),o 70 (.nilc (.t 67)),oF 71 4 70,oz (.store 1 (.t 71) (.t 69))]) (.seq (.skip) (.seq (sQ [oF 72 1 3,oL 73 72,o 74 (.call N.aq [.t 73]),o 75 (.call N.ak [.t 74])] (.blk 4 (.rng 117 (.t 75) [76,77] h_ ia))) ic))
def ie:SC:=.seq (sQ [oF 46 1 3,oL 47 46,oN 48 47,oK 49 0] (.blk 2 (.loop dB))) dD
def dY:SC:=.seq (sQ [o 18 (.load true 2 (.t 3)),oL 19 4,o 20 (.call N.aB [.t 18,.t 19]),oM 8 20] (sQ [oM 21 8,o 22 (.bin .neq (.t 21) (qI 0))] (.cond (.t 22) (sQ [oM 23 8,o 6 (.mv (.k (.nilp))),oM 7 23] (.ret)) (.skip)))) (sQ [o 24 (.load true 2 (.t 3)),oM 25 2,o 26 (.build [.int .i64 0,.nils,.nils,.nils,.nils,.int .i64 0] [(0,2),(2,1)] [.t 24,.t 25]),o 27 (.box (.t 26)),o 9 (.alloc [.nilp]),oz (.store 1 (.t 9) (.t 27))] (sQ [oK 10 (-1)] (.seq (sQ [oM 28 2,oN 29 28,oK 30 0] (.blk 0 (.loop ck))) ie)))
def cW:SF:=⟨117,[.tm 6,.tm 7],sQ [o 3 (.box (.t 0)),o 4 (.box (.t 1)),o 6 (.mv (.k (.nilp))),oK 7 0] dY⟩
def cU:SC:=sQ [o 18 (.bin .lss (.t 17) (.t 16))] (.seq (.cond (.t 18) (.skip) (.exit 0)) (.seq (.blk 1 (sQ [oM 19 17,oX 20 15 17,oL 21 20,oM 5 19,oM 6 21] (.seq (.quiet [oM 22 6,o 23 (.bin .lss (.t 22) (qI 0)),oM 24 23,og 25 24 false (.mv (.t 6)),og 26 24 false (.mv (.t 0)),og 27 24 false (.nilc (.t 26)),og 28 24 false (.fad 0 (.t 27)),og 29 24 false (.fad 1 (.t 28)),og 30 24 false (.load false 1 (.t 29)),og 31 24 false (.mv (.t 0)),og 32 24 false (.nilc (.t 31)),og 33 24 false (.fad 2 (.t 32)),og 34 24 false (.load false 1 (.t 33)),og 35 24 false (.mv (.t 5)),og 36 24 false (.ixs 1 (.t 34) (.t 35)),og 37 24 false (.load false 1 (.t 36)),og 38 24 false (.ixs 3 (.t 30) (.t 37)),og 39 24 false (.fad 0 (.t 38)),og 40 24 false (.load false 1 (.t 39)),og 41 24 false (.bin .geq (.t 25) (.t 40)),o 42 (.pick (.t 24) (.k (.bool true)) (.t 41))]) (.cond (.t 42) (sQ [o 4 (.mv (.k (.bool false)))] (.ret)) (.skip))))) (.ops [oA 43 17,oM 17 43])))
def cV:SC:=sQ [o 4 (.mv (.k (.bool true)))] (.ret)
def bm:SF:=⟨44,[.tm 4],sQ [o 4 (.mv (.k (.bool false)))] (.seq (sQ [oM 7 1,oN 8 7,oM 9 0,o 10 (.nilc (.t 9)),oF 11 2 10,oL 12 11,oN 13 12,o 14 (.bin .gtr (.t 8) (.t 13))] (.cond (.t 14) (sQ [o 4 (.mv (.k (.bool false)))] (.ret)) (.skip))) (.seq (sQ [oM 15 1,oN 16 15,oK 17 0] (.blk 0 (.loop cU))) cV))⟩
def fj:SC:=sQ [o 6 (.alloc [.int .i64 0,.int .i64 0]),oz (.store 2 (.t 6) (.t 21))] (.ops [oM 7 22])
def bE:SC:=.blk 1 (.seq (.quiet [oM 23 7,oL 24 3,oN 25 24,o 26 (.slc 1 (.t 23) [] [.t 25]),oL 27 3,o 28 (.call N.a_ [.t 26,.t 27])]) (.cond (.t 28) (.feet [0,0,2,0,0,16,56,120,0,256,1016,2047,4095] [oL 29 5,oF 30 0 6,oL 31 30,oL 32 5,oF 33 0 6,oL 34 33,oX 35 32 34,oL 36 35,oF 37 1 6,oL 38 37,o 39 (.mx (.t 36) (.t 38)),oX 40 29 31,oz (.store 1 (.t 40) (.t 39))]) (.skip)))
def fk:SC:=sQ [o 44 (.bin .lss (.t 43) (.t 42))] (.seq (.cond (.t 44) (.skip) (.exit 2)) (.seq (.blk 3 (sQ [oX 45 41 43,oL 46 45,oM 10 46] (.ops [oM 47 8,oM 48 10,o 49 (.bin .add (.t 47) (.t 48)),oM 8 49]))) (.ops [oA 50 43,oM 43 50])))
def fm:SC:=sQ [oM 51 8,oM 4 51] (.ret)
def fp:SC:=sQ [oK 8 0] (.seq (sQ [oL 41 5,oN 42 41,oK 43 0] (.blk 2 (.loop fk))) fm)
def fJ:SC:=sQ [oM 11 0,oM 12 0,o 13 (.nilc (.t 12)),oF 14 3 13,oL 15 14,o 16 (.call N.aM [.t 11,.t 15]),o 17 (.call N.aH [.t 16]),o 18 (.mks 1 8 [.int .i64 0] (.t 17) (.t 17)),o 5 (.alloc [.nils]),oz (.store 1 (.t 5) (.t 18))] (.seq (sQ [oM 19 0,o 20 (.call N.ax [.t 19])] (.blk 0 (.rng 52 (.t 20) [21,22] fj bE))) fp)
def dE:SF:=⟨52,[.tm 4],sQ [o 3 (.box (.t 1)),oK 4 0] fJ⟩
def wY:SC:=.seq (sQ [oM 7 6,oM 8 1,oN 9 8,o 10 (.bin .lss (.t 7) (.t 9))] (.cond (.t 10) (.skip) (.exit 0))) (.seq (.blk 1 (.ops [oM 13 5,oM 14 0,oM 15 1,oM 16 6,oX 17 15 16,oL 18 17,oX 19 14 18,oL 20 19,o 21 (.bsl 1 1 [.int .i64 0] [0] [.t 20]),o 22 (.app 1 8 (.t 13) (.t 21)),oM 5 22])) (.ops [oM 11 6,oA 12 11,oM 6 12]))
def qG:SC:=sQ [oM 23 5,oM 4 23] (.ret)
def qY:SF:=⟨24,[.tm 4],sQ [o 4 (.mv (.k (.nils)))] (sQ [o 5 (.mv (.k (.nils)))] (.seq (sQ [oK 6 0] (.blk 0 (.loop wY))) qG))⟩
def po:SC:=sQ [o 28 (.bin .lss (.t 27) (.t 26))] (.seq (.cond (.t 28) (.skip) (.exit 0)) (.seq (.blk 1 (sQ [oX 29 25 27,oL 30 29,oM 9 30] (sQ [o 31 (.load true 2 (.t 2)),oM 32 9,o 33 (.call N.aB [.t 31,.t 32]),oM 10 33] (sQ [oM 34 10,o 35 (.bin .neq (.t 34) (qI 0))] (.cond (.t 35) (sQ [o 36 (.build [.int .i64 0,.nils,.nils,.nils] [] []),oM 37 10,oz (.store 4 (.t 4) (.t 36)),oM 5 37] (.ret)) (.skip)))))) (.ops [oA 38 27,oM 27 38])))
def kh:SC:=.seq (sQ [oM 64 15,o 65 (.bin .geq (.t 64) (qI 0))] (.cond (.t 65) (.skip) (.exit 4))) (.seq (.blk 5 (.seq (.feet [0,1,0,7,15,0,32,0,224,480,0,2047,4095] [oF 68 3 11,oL 69 68,oM 70 12,oX 71 69 70,oL 72 71,oF 73 0 13,oL 74 73,oM 75 15,oX 76 74 75,oL 77 76,oM 78 14,oX 79 72 77,oz (.store 1 (.t 79) (.t 78))]) (.ops [oM 80 14,oF 81 1 13,oL 82 81,oM 83 15,oX 84 82 83,oL 85 84,o 86 (.bin .mul (.t 80) (.t 85)),oM 14 86]))) (.ops [oM 66 15,o 67 (.bin .sub (.t 66) (qI 1)),oM 15 67]))
def pp:SC:=.ops [oA 87 47,oM 47 87]
def km:SC:=sQ [o 48 (.bin .lss (.t 47) (.t 46))] (.seq (.cond (.t 48) (.skip) (.exit 2)) (.seq (.blk 3 (sQ [oM 49 47,o 50 (.ixs 3 (.t 45) (.t 47)),o 51 (.load true 3 (.t 50)),o 13 (.alloc [.nils,.nils,.nils]),oM 12 49,oz (.store 3 (.t 13) (.t 51))] (.seq (.feet [0,1,0,0,8,24,56,127,255] [oF 52 3 11,oL 53 52,oM 54 12,oF 55 1 2,oL 56 55,oN 57 56,o 58 (.mks 1 8 [.int .i64 0] (.t 57) (.t 57)),oX 59 53 54,oz (.store 1 (.t 59) (.t 58))]) (sQ [oK 14 1] (sQ [oF 60 0 13,oL 61 60,oN 62 61,o 63 (.bin .sub (.t 62) (qI 1)),oM 15 63] (.blk 4 (.loop kh))))))) pp))
def pq:SC:=sQ [o 88 (.load true 4 (.t 11)),oz (.store 4 (.t 4) (.t 88)),oK 5 0] (.ret)
def pt:SC:=.seq (.feet [0,0,0,4,12,31,0,127] [o 39 (.load true 2 (.t 2)),oM 40 6,oM 41 6,oN 42 41,o 43 (.mks 1 24 [.nils] (.t 42) (.t 42)),o 44 (.build [.int .i64 0,.nils,.nils,.nils] [(0,2),(2,1),(3,1)] [.t 39,.t 40,.t 43]),o 11 (.alloc [.int .i64 0,.nils,.nils,.nils]),oz (.store 4 (.t 11) (.t 44))]) (.seq (sQ [oM 45 6,oN 46 45,oK 47 0] (.blk 2 (.loop km))) pq)
def qD:SC:=sQ [o 17 (.load true 2 (.t 2)),o 18 (.call N.aS [.t 17]),oM 16 18,o 19 (.ext (.t 16) 0),o 20 (.ext (.t 16) 1),oM 6 19,oM 7 20] (.seq (sQ [oM 21 7,o 22 (.bin .neq (.t 21) (qI 0))] (.cond (.t 22) (sQ [o 23 (.build [.int .i64 0,.nils,.nils,.nils] [] []),oM 24 7,oz (.store 4 (.t 4) (.t 23)),oM 5 24] (.ret)) (.skip))) (.seq (sQ [oM 25 1,oN 26 25,oK 27 0] (.blk 0 (.loop po))) pt))
def pj:SF:=⟨89,[.cell true 4 4,.tm 5],sQ [o 2 (.box (.t 0)),o 4 (.alloc [.int .i64 0,.nils,.nils,.nils]),oK 5 0] qD⟩
def fK:SC:=.ops [o 6 (.alloc [.int .i64 0,.int .i64 0,.nils]),oz (.store 3 (.t 6) (.t 10))]
def fL:SC:=.blk 1 (.ops [oL 11 5,oF 12 1 6,oL 13 12,o 14 (.bin .add (.t 11) (.t 13)),oz (.store 1 (.t 5) (.t 14))])
def fM:SC:=sQ [oL 15 5,oM 4 15] (.ret)
def gu:SC:=sQ [o 5 (.alloc [.int .i64 0]),oz (.store 1 (.t 5) (qI 0))] (.seq (sQ [o 7 (.load true 4 (.t 2)),oM 8 1,o 9 (.call N.aA [.t 7,.t 8])] (.blk 0 (.rng 16 (.t 9) [10] fK fL))) fM)
def dZ:SF:=⟨16,[.tm 4],sQ [o 2 (.box (.t 0)),oK 4 0] gu⟩
def d9:SC:=sQ [o 5 (.mkf N.af [] [.t 2,.t 3]),oM 4 5] (.ret)
def cJ:SF:=⟨6,[.tm 4],sQ [o 2 (.box (.t 0)),o 3 (.box (.t 1)),o 4 (.mv (.k (.nilf)))] d9⟩
def l0:SC:=sQ [o 51 (.bin .lss (.t 50) (.t 49))] (.seq (.cond (.t 51) (.skip) (.exit 0)) (.seq (.blk 1 (sQ [oM 52 50,o 53 (.ixs 3 (.t 48) (.t 50)),o 54 (.load true 3 (.t 53)),o 7 (.alloc [.int .i64 0,.nils,.nils]),oM 6 52,oz (.store 3 (.t 7) (.t 54))] (.seq (sQ [oF 55 0 7,oL 56 55,o 57 (.bin .lss (.t 56) (qI 1)),oM 58 57,og 59 58 false (.fad 0 (.t 7)),og 60 58 false (.load false 1 (.t 59)),og 61 58 false (.bin .gtr (.t 60) (qI 4)),o 62 (.pick (.t 58) (.k (.bool true)) (.t 61))] (.cond (.t 62) (sQ [o 63 (.build [.int .i64 0,.nils,.nils,.nils,.nils] [] []),oz (.store 5 (.t 2) (.t 63)),oK 3 50] (.ret)) (.skip))) (sQ [oF 64 2 4,oL 65 64,oM 66 6,oF 67 0 7,oL 68 67,oX 69 65 66,oz (.store 1 (.t 69) (.t 68))] (.ops [oM 70 5,oF 71 0 7,oL 72 71,o 73 (.bin .mul (.t 70) (.t 72)),oM 5 73]))))) (.ops [oA 74 50,oM 50 74])))
def l4:SC:=sQ [o 91 (.bin .lss (.t 90) (.t 89))] (.seq (.cond (.t 91) (.skip) (.exit 4)) (.seq (.blk 5 (sQ [oX 92 88 90,oL 93 92,oM 12 93] (.seq (sQ [oM 94 12,oM 95 10,o 96 (.bin .leq (.t 94) (.t 95)),oM 97 96,og 98 97 false (.mv (.t 12)),og 99 97 false (.fad 0 (.t 4)),og 100 97 false (.fad 1 (.t 99)),og 101 97 false (.load false 1 (.t 100)),og 102 97 false (.len .slice (.t 101)),og 103 97 false (.bin .geq (.t 98) (.t 102)),o 104 (.pick (.t 97) (.k (.bool true)) (.t 103)),oM 105 104,og 106 105 false (.mv (.t 12)),og 107 105 false (.mv (.t 8)),og 108 105 false (.bin .eql (.t 106) (.t 107)),o 109 (.pick (.t 105) (.k (.bool true)) (.t 108))] (.cond (.t 109) (sQ [o 110 (.build [.int .i64 0,.nils,.nils,.nils,.nils] [] []),oz (.store 5 (.t 2) (.t 110)),oK 3 50] (.ret)) (.skip))) (sQ [oM 111 12,oM 10 111] (.feet [0,1,0,7,15,0,32,127,255,511] [oF 112 3 4,oL 113 112,oM 114 8,oX 115 113 114,oL 116 115,oM 117 12,o 118 (.bin .shl (.k (.int .u64 1)) (.t 117)),o 119 (.bin .or (.t 116) (.t 118)),oX 120 113 114,oz (.store 1 (.t 120) (.t 119))]))))) (.ops [oA 121 90,oM 90 121])))
def l8:SC:=sQ [o 122 (.load true 5 (.t 4)),o 123 (.load true 3 (.t 9)),o 124 (.call N.aC [.t 122,.t 123]),o 125 (.not (.t 124))] (.cond (.t 125) (sQ [o 126 (.build [.int .i64 0,.nils,.nils,.nils,.nils] [] []),oz (.store 5 (.t 2) (.t 126)),oK 3 50] (.ret)) (.skip))
def qE:SC:=.ops [oA 127 82,oM 82 127]
def l6:SC:=sQ [o 83 (.bin .lss (.t 82) (.t 81))] (.seq (.cond (.t 83) (.skip) (.exit 2)) (.seq (.blk 3 (sQ [oM 84 82,o 85 (.ixs 3 (.t 80) (.t 82)),o 86 (.load true 3 (.t 85)),o 9 (.alloc [.int .i64 0,.nils,.nils]),oM 8 84,oz (.store 3 (.t 9) (.t 86))] (sQ [oK 10 (-1)] (.seq (sQ [oF 87 1 9,oL 88 87,oN 89 88,oK 90 0] (.blk 4 (.loop l4))) l8)))) qE))
def l9:SC:=sQ [oF 129 3 4,oL 130 129,o 131 (.call N.aU [.t 130]),oM 128 131,o 132 (.ext (.t 128) 0),o 133 (.ext (.t 128) 1),oM 13 132,oM 14 133] (.seq (sQ [oM 134 14,o 135 (.not (.t 134))] (.cond (.t 135) (sQ [o 136 (.build [.int .i64 0,.nils,.nils,.nils,.nils] [] []),oz (.store 5 (.t 2) (.t 136)),oK 3 50] (.ret)) (.skip))) (sQ [oM 137 13,oF 138 4 4,oz (.store 1 (.t 138) (.t 137))] (sQ [o 139 (.load true 5 (.t 4)),oz (.store 5 (.t 2) (.t 139)),oK 3 0] (.ret))))
def qF:SC:=.seq (sQ [oM 75 5,o 76 (.bin .gtr (.t 75) (qI 1024))] (.cond (.t 76) (sQ [o 77 (.build [.int .i64 0,.nils,.nils,.nils,.nils] [] []),oz (.store 5 (.t 2) (.t 77)),oK 3 50] (.ret)) (.skip))) (.seq (sQ [oF 78 0 4,oF 79 1 78,oL 80 79,oN 81 80,oK 82 0] (.blk 2 (.loop l6))) l9)
def rP:SC:=.seq (sQ [oF 15 0 1,oL 16 15,o 17 (.bin .lss (.t 16) (qI 1)),oM 18 17,og 19 18 false (.fad 0 (.t 1)),og 20 18 false (.load false 1 (.t 19)),og 21 18 false (.bin .gtr (.t 20) (qI 60)),o 22 (.pick (.t 18) (.k (.bool true)) (.t 21)),oM 23 22,og 24 23 false (.fad 1 (.t 1)),og 25 23 false (.load false 1 (.t 24)),og 26 23 false (.len .slice (.t 25)),og 27 23 false (.bin .lss (.t 26) (qI 1)),o 28 (.pick (.t 23) (.k (.bool true)) (.t 27)),oM 29 28,og 30 29 false (.fad 1 (.t 1)),og 31 29 false (.load false 1 (.t 30)),og 32 29 false (.len .slice (.t 31)),og 33 29 false (.bin .gtr (.t 32) (qI 8)),o 34 (.pick (.t 29) (.k (.bool true)) (.t 33))] (.cond (.t 34) (sQ [o 35 (.build [.int .i64 0,.nils,.nils,.nils,.nils] [] []),oz (.store 5 (.t 2) (.t 35)),oK 3 50] (.ret)) (.skip))) (.seq (.feet [0,0,2,6,14,0,32,96,224,511,0,2047] [o 36 (.load true 2 (.t 1)),oF 37 1 1,oL 38 37,oN 39 38,o 40 (.mks 1 8 [.int .i64 0] (.t 39) (.t 39)),oF 41 1 1,oL 42 41,oN 43 42,o 44 (.mks 1 8 [.int .u64 0] (.t 43) (.t 43)),o 45 (.build [.int .i64 0,.nils,.nils,.nils,.nils] [(0,2),(2,1),(3,1)] [.t 36,.t 40,.t 44]),o 4 (.alloc [.int .i64 0,.nils,.nils,.nils,.nils]),oz (.store 5 (.t 4) (.t 45))]) (sQ [oK 5 1] (.seq (sQ [oF 46 0 4,oF 47 1 46,oL 48 47,oN 49 48,oK 50 0] (.blk 0 (.loop l0))) qF)))
def ku:SF:=⟨140,[.cell true 5 2,.tm 3],sQ [o 1 (.box (.t 0)),o 2 (.alloc [.int .i64 0,.nils,.nils,.nils,.nils]),oK 3 0] rP⟩
def nG:SC:=.seq (sQ [oM 5 4,oF 6 0 1,oL 7 6,oN 8 7,o 9 (.bin .lss (.t 5) (.t 8)),oM 10 9,og 11 10 true (.mv (.t 4)),og 12 10 true (.bin .lss (.t 11) (qI 5)),o 13 (.pick (.t 10) (.t 12) (.k (.bool false)))] (.cond (.t 13) (.skip) (.exit 0))) (.seq (.blk 1 (.ops [oM 16 3,oF 17 0 1,oL 18 17,oM 19 4,oX 20 18 19,oL 21 20,o 22 (.bin .rem (.t 21) (.k (.int .u8 4))),o 23 (.conv .i64 (.t 22)),o 24 (.bin .add (qI 1) (.t 23)),o 25 (.bsl 1 1 [.int .i64 0] [0] [.t 24]),o 26 (.app 1 8 (.t 16) (.t 25)),oM 3 26])) (.ops [oM 14 4,oA 15 14,oM 4 15]))
def iq:SC:=sQ [oM 27 3,oM 2 27] (.ret)
def iM:SC:=sQ [o 3 (.mv (.k (.nils)))] (.seq (sQ [oK 4 0] (.blk 0 (.loop nG))) iq)
def fF:SF:=⟨28,[.tm 2],sQ [o 1 (.box (.t 0)),o 2 (.mv (.k (.nils)))] iM⟩
def mQ:SC:=.seq (sQ [oM 5 4,oF 6 1 1,oL 7 6,oN 8 7,o 9 (.bin .lss (.t 5) (.t 8))] (.cond (.t 9) (.skip) (.exit 0))) (.seq (.blk 1 (.ops [oM 12 3,oF 13 1 1,oL 14 13,oM 15 4,o 16 (.ixs 3 (.t 14) (.t 15)),oF 17 0 16,oL 18 17,o 19 (.bsl 1 1 [.int .i64 0] [0] [.t 18]),o 20 (.app 1 8 (.t 12) (.t 19)),oM 3 20])) (.ops [oM 10 4,oA 11 10,oM 4 11]))
def mS:SC:=sQ [oM 21 3,oM 2 21] (.ret)
def oy:SC:=sQ [o 3 (.mv (.k (.nils)))] (.seq (sQ [oK 4 0] (.blk 0 (.loop mQ))) mS)
def l_:SF:=⟨22,[.tm 2],sQ [o 1 (.box (.t 0)),o 2 (.mv (.k (.nils)))] oy⟩
def il:SC:=sQ [o 27 (.bin .lss (.t 26) (.t 25))] (.seq (.cond (.t 27) (.skip) (.exit 0)) (.seq (.blk 1 (sQ [oM 28 26,oX 29 24 26,oL 30 29,oM 7 28,oM 8 30] (sQ [oM 31 8,o 32 (.bin .lss (.t 31) (qI (-1))),oM 33 32,og 34 33 false (.mv (.t 8)),og 35 33 false (.fad 2 (.t 5)),og 36 33 false (.load false 1 (.t 35)),og 37 33 false (.mv (.t 7)),og 38 33 false (.ixs 1 (.t 36) (.t 37)),og 39 33 false (.load false 1 (.t 38)),og 40 33 false (.bin .geq (.t 34) (.t 39)),o 41 (.pick (.t 33) (.k (.bool true)) (.t 40))] (.cond (.t 41) (sQ [oK 4 2] (.ret)) (.skip))))) (.ops [oA 42 26,oM 26 42])))
def im:SC:=sQ [oK 4 0] (.ret)
def iL:SC:=sQ [o 10 (.load true 2 (.t 2)),o 11 (.call N.aD [.t 10]),oM 9 11,o 12 (.ext (.t 9) 0),o 13 (.ext (.t 9) 1),o 5 (.alloc [.int .i64 0,.nils,.nils,.nils,.nils]),oz (.store 5 (.t 5) (.t 12)),oM 6 13] (.seq (sQ [oM 14 6,o 15 (.bin .neq (.t 14) (qI 0))] (.cond (.t 15) (sQ [oM 16 6,oM 4 16] (.ret)) (.skip))) (.seq (sQ [oM 17 1,oN 18 17,oF 19 0 5,oF 20 1 19,oL 21 20,oN 22 21,o 23 (.bin .neq (.t 18) (.t 22))] (.cond (.t 23) (sQ [oK 4 2] (.ret)) (.skip))) (.seq (sQ [oM 24 1,oN 25 24,oK 26 0] (.blk 0 (.loop il))) im)))
def fE:SF:=⟨43,[.tm 4],sQ [o 2 (.box (.t 0)),oK 4 0] iL⟩
def dv:SF:=⟨9,[.tm 4],sQ [o 4 (.mv (.k (.bool false)))] (sQ [oM 5 0,oM 6 1,o 7 (.call N.ba [.t 5,.t 6]),o 8 (.bin .geq (.t 7) (qI 0)),oM 4 8] (.ret))⟩
def kG:SC:=.ops [oM 6 19]
def f_:SC:=sQ [o 24 (.bin .lss (.t 23) (.t 22))] (.seq (.cond (.t 24) (.skip) (.exit 2)) (.seq (.blk 3 (sQ [oM 25 23,o 26 (.ixs 3 (.t 21) (.t 23)),o 27 (.load true 3 (.t 26)),o 9 (.alloc [.int .i64 0,.nils,.nils]),oM 8 25,oz (.store 3 (.t 9) (.t 27))] (.quiet [oM 28 7,oF 29 2 9,oL 30 29,oF 31 1 1,oL 32 31,oM 33 8,oM 34 6,o 35 (.call N.bc [.t 32,.t 33,.t 34]),oX 36 30 35,oL 37 36,oM 38 6,oM 39 8,oX 40 38 39,oL 41 40,oX 42 37 41,oL 43 42,o 44 (.bin .mul (.t 28) (.t 43)),oM 7 44]))) (.ops [oA 45 23,oM 23 45])))
def kI:SC:=.ops [oL 46 4,oM 47 7,o 48 (.bsl 1 1 [.int .i64 0] [0] [.t 47]),o 49 (.app 1 8 (.t 46) (.t 48)),oz (.store 1 (.t 4) (.t 49))]
def kH:SC:=.blk 1 (sQ [oK 7 1] (.seq (sQ [oF 20 1 1,oL 21 20,oN 22 21,oK 23 0] (.blk 2 (.loop f_))) kI))
def kJ:SC:=sQ [oL 50 4,oM 2 50] (.ret)
def lH:SC:=sQ [oF 10 1 1,oL 11 10,o 12 (.call N.aq [.t 11]),oM 3 12] (sQ [oM 13 3,o 14 (.call N.aH [.t 13]),o 15 (.mks 1 8 [.int .i64 0] (qI 0) (.t 14)),o 4 (.alloc [.nils]),oz (.store 1 (.t 4) (.t 15))] (.seq (sQ [oM 16 3,o 17 (.call N.ak [.t 16])] (.blk 0 (.rng 51 (.t 17) [18,19] kG kH))) kJ))
def jF:SF:=⟨51,[.tm 2],sQ [o 1 (.box (.t 0)),o 2 (.mv (.k (.nils)))] lH⟩
def iv:SC:=sQ [o 3 (.mkf N.ae [] [.t 1]),oM 2 3] (.ret)
def eL:SF:=⟨4,[.tm 2],sQ [o 1 (.box (.t 0)),o 2 (.mv (.k (.nilf)))] iv⟩
def mW:SC:=sQ [o 12 (.bin .lss (.t 11) (.t 10))] (.seq (.cond (.t 12) (.skip) (.exit 0)) (.seq (.blk 1 (sQ [oM 13 11,o 14 (.ixs 3 (.t 9) (.t 11)),o 15 (.load true 3 (.t 14)),o 5 (.alloc [.int .i64 0,.nils,.nils]),oM 4 13,oz (.store 3 (.t 5) (.t 15))] (.ops [oM 16 3,oM 17 4,oF 18 0 5,oL 19 18,oX 20 16 17,oz (.store 1 (.t 20) (.t 19))]))) (.ops [oA 21 11,oM 11 21])))
def mX:SC:=sQ [oM 22 3,oM 2 22] (.ret)
def mb:SF:=⟨23,[.tm 2],sQ [o 2 (.mv (.k (.nils)))] (sQ [oM 6 0,oN 7 6,o 8 (.mks 1 8 [.int .i64 0] (.t 7) (.t 7)),oM 3 8] (.seq (sQ [oM 9 0,oN 10 9,oK 11 0] (.blk 0 (.loop mW))) mX))⟩
def oB:SC:=sQ [o 9 (.bin .lss (.t 8) (.t 7))] (.seq (.cond (.t 9) (.skip) (.exit 0)) (.seq (.blk 1 (sQ [oX 10 6 8,oL 11 10,oM 5 11] (.ops [oM 12 3,oM 13 5,o 14 (.bin .mul (.t 12) (.t 13)),oM 3 14]))) (.ops [oA 15 8,oM 8 15])))
def oD:SC:=sQ [oM 16 3,oM 2 16] (.ret)
def nI:SF:=⟨17,[.tm 2],sQ [oK 2 0] (sQ [oK 3 1] (.seq (sQ [oM 6 0,oN 7 6,oK 8 0] (.blk 0 (.loop oB))) oD))⟩
def fq:SC:=sQ [o 14 (.bin .lss (.t 13) (.t 12))] (.seq (.cond (.t 14) (.skip) (.exit 0)) (.seq (.blk 1 (sQ [oM 15 13,oX 16 11 13,oL 17 16,oM 6 15,oM 7 17] (.ops [oM 18 5,oM 19 6,oM 20 0,o 21 (.nilc (.t 20)),oF 22 0 21,oF 23 1 22,oL 24 23,oM 25 7,o 26 (.ixs 3 (.t 24) (.t 25)),oF 27 0 26,oL 28 27,oX 29 18 19,oz (.store 1 (.t 29) (.t 28))]))) (.ops [oA 30 13,oM 13 30])))
def fu:SC:=sQ [oM 31 5,oM 4 31] (.ret)
def dF:SF:=⟨32,[.tm 4],sQ [o 4 (.mv (.k (.nils)))] (sQ [oM 8 1,oN 9 8,o 10 (.mks 1 8 [.int .i64 0] (.t 9) (.t 9)),oM 5 10] (.seq (sQ [oM 11 1,oN 12 11,oK 13 0] (.blk 0 (.loop fq))) fu))⟩
def fy:SC:=sQ [o 3 (.mkf N.aa [] [.t 1]),oM 2 3] (.ret)
def cZ:SF:=⟨4,[.tm 2],sQ [o 1 (.box (.t 0)),o 2 (.mv (.k (.nilf)))] fy⟩
def kg:SF:=⟨6,[.tm 2],sQ [o 2 (.mv (.k (.bool false)))] (sQ [oM 3 0,oM 4 0,o 5 (.bin .neq (.t 3) (.t 4)),oM 2 5] (.ret))⟩
def mO:SC:=sQ [o 24 (.bin .lss (.t 23) (.t 22))] (.seq (.cond (.t 24) (.skip) (.exit 0)) (.seq (.blk 1 (sQ [oM 25 23,oM 7 25] (.ops [oM 26 6,oM 27 7,o 28 (.load true 5 (.t 4)),oM 29 7,o 30 (.call N.aT [.t 28,.t 29]),o 31 (.ixs 3 (.t 26) (.t 27)),oz (.store 3 (.t 31) (.t 30))]))) (.ops [oA 32 23,oM 23 32])))
def mP:SC:=sQ [oM 33 6,oM 2 33,oK 3 0] (.ret)
def oe:SC:=sQ [o 9 (.load true 2 (.t 1)),o 10 (.call N.aD [.t 9]),oM 8 10,o 11 (.ext (.t 8) 0),o 12 (.ext (.t 8) 1),o 4 (.alloc [.int .i64 0,.nils,.nils,.nils,.nils]),oz (.store 5 (.t 4) (.t 11)),oM 5 12] (.seq (sQ [oM 13 5,o 14 (.bin .neq (.t 13) (qI 0))] (.cond (.t 14) (sQ [oM 15 5,o 2 (.mv (.k (.nils))),oM 3 15] (.ret)) (.skip))) (sQ [oF 16 0 4,oF 17 1 16,oL 18 17,oN 19 18,o 20 (.mks 3 72 [.nils,.nils,.nils] (.t 19) (.t 19)),oM 6 20] (.seq (sQ [oM 21 6,oN 22 21,oK 23 0] (.blk 0 (.loop mO))) mP)))
def lZ:SF:=⟨34,[.tm 2,.tm 3],sQ [o 1 (.box (.t 0)),o 2 (.mv (.k (.nils))),oK 3 0] oe⟩
def bi:SC:=.seq (.seq (.quiet [oM 31 6,o 32 (.bin .geq (.t 31) (qI 0)),oM 33 32,og 34 33 true (.mv (.t 4)),og 35 33 true (.mv (.t 6)),og 36 33 true (.ixs 1 (.t 34) (.t 35)),og 37 33 true (.load false 1 (.t 36)),og 38 33 true (.fad 0 (.t 1)),og 39 33 true (.fad 1 (.t 38)),og 40 33 true (.load false 1 (.t 39)),og 41 33 true (.mv (.t 6)),og 42 33 true (.ixs 3 (.t 40) (.t 41)),og 43 33 true (.fad 0 (.t 42)),og 44 33 true (.load false 1 (.t 43)),og 45 33 true (.bin .sub (.t 44) (qI 1)),og 46 33 true (.bin .eql (.t 37) (.t 45)),o 47 (.pick (.t 33) (.t 46) (.k (.bool false)))]) (.cond (.t 47) (.skip) (.exit 2))) (.blk 3 (sQ [oM 48 4,oM 49 6,oX 50 48 49,oz (.store 1 (.t 50) (qI 0))] (.ops [oM 51 6,o 52 (.bin .sub (.t 51) (qI 1)),oM 6 52])))
def bj:SC:=.seq (sQ [oM 53 6,o 54 (.bin .lss (.t 53) (qI 0))] (.cond (.t 54) (.ret) (.skip))) (.ops [oM 55 4,oM 56 6,oX 57 55 56,oL 58 57,oA 59 58,oX 60 55 56,oz (.store 1 (.t 60) (.t 59))])
def bI:SC:=.ops [oM 12 5,oA 13 12,oM 5 13]
def c_:SC:=.seq (.blk 1 (.seq (sQ [oM 14 4,oL 15 2,o 16 (.call N.aP [.t 14,.t 15]),oM 17 16,og 18 17 true (.mv (.t 0)),og 19 17 true (.mv (.t 5)),og 20 17 true (.load true 4 (.t 1)),og 21 17 true (.mv (.t 4)),og 22 17 true (.call N.aR [.t 20,.t 21]),og 23 17 true (.mv (.t 4)),og 24 17 true (.build [.int .i64 0,.int .i64 0,.nils] [(0,1),(1,1),(2,1)] [.t 19,.t 22,.t 23]),og 25 17 true (.dyn (.t 18) [.t 24]),og 26 17 true (.not (.t 25)),o 27 (.pick (.t 17) (.t 26) (.k (.bool false)))] (.cond (.t 27) (.ret) (.skip))) (sQ [oM 28 4,oN 29 28,o 30 (.bin .sub (.t 29) (qI 1)),oM 6 30] (.seq (.blk 2 (.loop bi)) bj)))) bI
def aC:SF:=⟨61,[],sQ [oF 7 0 1,oF 8 1 7,oL 9 8,oN 10 9,o 11 (.mks 1 8 [.int .i64 0] (.t 10) (.t 10)),oM 4 11] (sQ [oK 5 0] (.blk 0 (.loop c_)))⟩
def ks:SC:=sQ [o 11 (.bin .lss (.t 10) (.t 9))] (.seq (.cond (.t 11) (.skip) (.exit 0)) (.seq (.blk 1 (sQ [oM 12 10,oX 13 8 10,oL 14 13,oM 6 12,oM 7 14] (sQ [oM 15 7] (.blk 2 (.seq (sQ [o 17 (.bin .eql (.t 15) (qI (-1))),oM 16 17] (.cond (.t 16) (.skip) (.ops [oM 18 0,oM 19 6,oX 20 18 19,oL 21 20,o 22 (.bin .eql (.t 15) (.t 21)),oM 16 22]))) (.cond (.t 16) (.skip) (sQ [o 5 (.mv (.k (.bool false)))] (.exit 0)))))))) (.ops [oA 23 10,oM 10 23])))
def fZ:SC:=sQ [oM 24 5,oM 4 24] (.ret)
def jC:SF:=⟨25,[.tm 4],sQ [o 4 (.mv (.k (.bool false)))] (sQ [o 5 (.mv (.k (.bool true)))] (.seq (.skip) (.seq (sQ [oM 8 1,oN 9 8,oK 10 0] (.blk 0 (.loop ks))) fZ)))⟩
def cA:SC:=sQ [o 23 (.bin .lss (.t 22) (.t 21))] (.seq (.cond (.t 23) (.skip) (.exit 2)) (.seq (.blk 3 (sQ [oX 24 20 22,oL 25 24,oM 10 25] (.quiet [oM 26 8,oM 27 1,oM 28 10,oX 29 27 28,oL 30 29,oF 31 3 2,oL 32 31,oM 33 6,oX 34 32 33,oL 35 34,oM 36 10,oX 37 35 36,oL 38 37,o 39 (.bin .mul (.t 30) (.t 38)),o 40 (.bin .add (.t 26) (.t 39)),oM 8 40]))) (.ops [oA 41 22,oM 22 41])))
def eA:SC:=.ops [oM 42 5,oF 43 2 7,oL 44 43,oM 45 8,oX 46 44 45,oL 47 46,o 48 (.bin .mul (.t 42) (.t 47)),oM 5 48]
def eB:SC:=.ops [oA 49 14,oM 14 49]
def eo:SC:=sQ [o 15 (.bin .lss (.t 14) (.t 13))] (.seq (.cond (.t 15) (.skip) (.exit 0)) (.seq (.blk 1 (sQ [oM 16 14,o 17 (.ixs 3 (.t 12) (.t 14)),o 18 (.load true 3 (.t 17)),o 7 (.alloc [.nils,.nils,.nils]),oM 6 16,oz (.store 3 (.t 7) (.t 18))] (sQ [oK 8 0] (.seq (sQ [oF 19 0 7,oL 20 19,oN 21 20,oK 22 0] (.blk 2 (.loop cA))) eA)))) eB))
def eC:SC:=sQ [oM 50 5,oM 4 50] (.ret)
def fA:SC:=sQ [oK 5 1] (.seq (sQ [oF 11 2 2,oL 12 11,oN 13 12,oK 14 0] (.blk 0 (.loop eo))) eC)
def da:SF:=⟨51,[.tm 4],sQ [o 2 (.box (.t 0)),oK 4 0] fA⟩
def gE:SC:=sQ [o 17 (.bin .lss (.t 16) (.t 15))] (.seq (.cond (.t 17) (.skip) (.exit 0)) (.seq (.blk 1 (sQ [oX 18 14 16,oL 19 18,oM 7 19] (.ops [oM 20 5,oF 21 2 2,oL 22 21,oM 23 7,oX 24 22 23,oL 25 24,o 26 (.bin .mul (.t 20) (.t 25)),oM 5 26]))) (.ops [oA 27 16,oM 16 27])))
def gD:SC:=.ops [oM 9 36]
def dq:SC:=sQ [o 43 (.bin .lss (.t 42) (.t 41))] (.seq (.cond (.t 43) (.skip) (.exit 4)) (.seq (.blk 5 (sQ [oX 44 40 42,oL 45 44,oM 12 45] (.seq (sQ [oM 46 12,o 47 (.bin .lss (.t 46) (qI 0)),oM 48 47,og 49 48 false (.mv (.t 12)),og 50 48 false (.mv (.t 10)),og 51 48 false (.bin .gtr (.t 49) (.t 50)),o 52 (.pick (.t 48) (.k (.bool true)) (.t 51))] (.cond (.t 52) (sQ [oz (.store 1 (.t 4) (.k (.bool false)))] (.ret)) (.skip))) (.ops [oM 53 10,oM 54 12,o 55 (.bin .sub (.t 53) (.t 54)),oM 10 55])))) (.ops [oA 56 42,oM 42 56])))
def bP:SC:=sQ [oM 57 9,oN 58 57,oF 59 0 3,oL 60 59,o 61 (.bin .neq (.t 58) (.t 60)),oM 62 61,og 63 62 false (.mv (.t 10)),og 64 62 false (.bin .neq (.t 63) (qI 0)),o 65 (.pick (.t 62) (.k (.bool true)) (.t 64))] (.cond (.t 65) (sQ [oz (.store 1 (.t 4) (.k (.bool false)))] (.ret)) (.skip))
def gF:SC:=.blk 3 (sQ [oF 37 0 2,oF 38 0 37,oL 39 38,oM 10 39] (.seq (sQ [oM 40 9,oN 41 40,oK 42 0] (.blk 4 (.loop dq))) bP))
def gG:SC:=sQ [oz (.store 1 (.t 4) (.k (.bool true)))] (.ret)
def gH:SC:=.seq (sQ [oF 28 2 3,oL 29 28,oN 30 29,oM 31 5,o 32 (.bin .neq (.t 30) (.t 31))] (.cond (.t 32) (sQ [oz (.store 1 (.t 4) (.k (.bool false)))] (.ret)) (.skip))) (.seq (sQ [o 33 (.load true 3 (.t 3)),o 34 (.call N.am [.t 33])] (.blk 2 (.rng 66 (.t 34) [35,36] gD gF))) gG)
def ip:SC:=sQ [oK 5 1] (.seq (sQ [oF 13 1 3,oL 14 13,oN 15 14,oK 16 0] (.blk 0 (.loop gE))) gH)
def eF:SF:=⟨66,[.cell false 1 4],sQ [o 2 (.box (.t 0)),o 3 (.box (.t 1)),o 4 (.alloc [.bool false])] ip⟩
def ol:SC:=sQ [o 19 (.bin .lss (.t 18) (.t 17))] (.seq (.cond (.t 19) (.skip) (.exit 2)) (.seq (.blk 3 (sQ [oM 20 18,oX 21 16 18,oL 22 21,oM 6 20,oM 7 22] (sQ [oM 23 5,oM 24 6,o 25 (.bin .shr (.t 23) (.t 24)),o 26 (.bin .and (.t 25) (.k (.int .u64 1))),o 27 (.bin .eql (.t 26) (.k (.int .u64 0))),oM 28 27,og 29 28 true (.mv (.t 7)),og 30 28 true (.mv (.t 5)),og 31 28 true (.bin .andNot (.t 29) (.t 30)),og 32 28 true (.bin .eql (.t 31) (.k (.int .u64 0))),o 33 (.pick (.t 28) (.t 32) (.k (.bool false)))] (.cond (.t 33) (sQ [oM 34 4,oM 35 6,o 36 (.bsl 1 1 [.int .i64 0] [0] [.t 35]),o 37 (.app 1 8 (.t 34) (.t 36)),oM 4 37] (sQ [oM 38 5,oM 39 6,o 40 (.bin .shl (.k (.int .u64 1)) (.t 39)),o 41 (.bin .or (.t 38) (.t 40)),oM 5 41] (.exit 1))) (.skip))))) (.ops [oA 42 18,oM 18 42])))
def oo:SC:=sQ [o 2 (.mv (.k (.nils))),o 3 (.mv (.k (.bool false)))] (.ret)
def om:SC:=.seq (sQ [oM 11 4,oN 12 11,oM 13 0,oN 14 13,o 15 (.bin .lss (.t 12) (.t 14))] (.cond (.t 15) (.skip) (.exit 0))) (.blk 1 (.seq (sQ [oM 16 0,oN 17 16,oK 18 0] (.blk 2 (.loop ol))) oo))
def oq:SC:=sQ [oM 43 4,oM 2 43,o 3 (.mv (.k (.bool true)))] (.ret)
def nF:SF:=⟨44,[.tm 2,.tm 3],sQ [o 2 (.mv (.k (.nils))),o 3 (.mv (.k (.bool false)))] (sQ [oM 8 0,oN 9 8,o 10 (.mks 1 8 [.int .i64 0] (qI 0) (.t 9)),oM 4 10,o 5 (.mv (.k (.int .u64 0)))] (.seq (.skip) (.seq (.blk 0 (.loop om)) oq)))⟩
def gK:SC:=sQ [o 9 (.bin .lss (.t 8) (.t 7))] (.seq (.cond (.t 9) (.skip) (.exit 0)) (.seq (.blk 1 (sQ [oM 10 8,oM 5 10] (sQ [oM 11 1,oM 12 0,oM 13 5,oX 14 12 13,oL 15 14,o 16 (.bin .eql (.t 11) (.t 15))] (.cond (.t 16) (sQ [oM 17 5,oM 4 17] (.ret)) (.skip))))) (.ops [oA 18 8,oM 8 18])))
def gL:SC:=sQ [oK 4 (-1)] (.ret)
def eK:SF:=⟨19,[.tm 4],sQ [oK 4 0] (.seq (sQ [oM 6 0,oN 7 6,oK 8 0] (.blk 0 (.loop gK))) gL)⟩
def pG:SC:=sQ [o 17 (.bin .lss (.t 16) (.t 15))] (.seq (.cond (.t 17) (.skip) (.exit 0)) (.seq (.blk 1 (sQ [oX 18 14 16,oL 19 18,oM 9 19] (.quiet [oM 20 7,oM 21 0,oM 22 9,o 23 (.ixs 3 (.t 21) (.t 22)),oF 24 0 23,oL 25 24,o 26 (.bin .mul (.t 20) (.t 25)),oM 27 2,oM 28 9,oX 29 27 28,oL 30 29,o 31 (.bin .add (.t 26) (.t 30)),oM 7 31]))) (.ops [oA 32 16,oM 16 32])))
def pH:SC:=sQ [oM 33 7,oM 6 33] (.ret)
def pF:SF:=⟨34,[.tm 6],sQ [oK 6 0] (sQ [oK 7 0] (.seq (sQ [oM 10 0,oM 11 1,o 12 (.ixs 3 (.t 10) (.t 11)),oF 13 1 12,oL 14 13,oN 15 14,oK 16 0] (.blk 0 (.loop pG))) pH))⟩
def bF:SC:=.seq (.seq (.quiet [oM 18 5,o 19 (.bin .geq (.t 18) (qI 0)),oM 20 19,og 21 20 true (.mv (.t 3)),og 22 20 true (.mv (.t 5)),og 23 20 true (.ixs 1 (.t 21) (.t 22)),og 24 20 true (.load false 1 (.t 23)),og 25 20 true (.load false 1 (.t 1)),og 26 20 true (.mv (.t 5)),og 27 20 true (.ixs 1 (.t 25) (.t 26)),og 28 20 true (.load false 1 (.t 27)),og 29 20 true (.bin .sub (.t 28) (qI 1)),og 30 20 true (.bin .eql (.t 24) (.t 29)),o 31 (.pick (.t 20) (.t 30) (.k (.bool false)))]) (.cond (.t 31) (.skip) (.exit 2))) (.blk 3 (sQ [oM 32 3,oM 33 5,oX 34 32 33,oz (.store 1 (.t 34) (qI 0))] (.ops [oM 35 5,o 36 (.bin .sub (.t 35) (qI 1)),oM 5 36])))
def bG:SC:=.seq (sQ [oM 37 5,o 38 (.bin .lss (.t 37) (qI 0))] (.cond (.t 38) (.ret) (.skip))) (.ops [oM 39 3,oM 40 5,oX 41 39 40,oL 42 41,oA 43 42,oX 44 39 40,oz (.store 1 (.t 44) (.t 43))])
def cL:SC:=.ops [oM 13 4,oA 14 13,oM 4 14]
def fB:SC:=.seq (sQ [oM 9 0,oM 10 4,oM 11 3,o 12 (.dyn (.t 9) [.t 10,.t 11])] (.cond (.t 12) (.skip) (.exit 0))) (.seq (.blk 1 (sQ [oL 15 1,oN 16 15,o 17 (.bin .sub (.t 16) (qI 1)),oM 5 17] (.seq (.blk 2 (.loop bF)) bG))) cL)
def aP:SF:=⟨45,[],sQ [oL 6 1,oN 7 6,o 8 (.mks 1 8 [.int .i64 0] (.t 7) (.t 7)),oM 3 8] (sQ [oK 4 0] (.blk 0 (.loop fB)))⟩
def dO:SC:=sQ [oM 4 24] (.ops [oM 5 25])
def bT:SC:=sQ [o 32 (.bin .lss (.t 31) (.t 30))] (.seq (.cond (.t 32) (.skip) (.exit 2)) (.seq (.blk 3 (sQ [oM 33 31,oX 34 29 31,oL 35 34,oM 6 33,oM 7 35] (.feet [0,0,0,0,12,28,63,127] [oL 36 3,oM 37 6,oM 38 5,oM 39 7,oX 40 38 39,oL 41 40,oX 42 36 37,oz (.store 1 (.t 42) (.t 41))]))) (.ops [oA 43 31,oM 31 43])))
def bU:SC:=sQ [o 50 (.bin .lss (.t 49) (.t 48))] (.seq (.cond (.t 50) (.skip) (.exit 4)) (.seq (.blk 5 (sQ [oX 51 47 49,oL 52 51,oM 10 52] (.quiet [oM 53 8,oL 54 1,o 55 (.nilc (.t 54)),oF 56 0 55,oF 57 1 56,oL 58 57,oM 59 10,o 60 (.ixs 3 (.t 58) (.t 59)),oF 61 0 60,oL 62 61,o 63 (.bin .mul (.t 53) (.t 62)),oM 64 5,oM 65 10,oX 66 64 65,oL 67 66,o 68 (.bin .add (.t 63) (.t 67)),oM 8 68]))) (.ops [oA 69 49,oM 49 69])))
def dQ:SC:=.seq (.feet [0,0,0,4,12,28,0,124,252,510,0,2047,4095] [oL 70 2,oM 71 8,oL 72 1,o 73 (.nilc (.t 72)),oF 74 4 73,oL 75 74,oM 76 4,oX 77 75 76,oL 78 77,o 79 (.build [.int .i64 0,.int .i64 0] [(0,1),(1,1)] [.t 71,.t 78]),oL 80 3,o 81 (.dyn (.t 70) [.t 79,.t 80]),o 82 (.not (.t 81))]) (.cond (.t 82) (.ret) (.skip))
def dR:SC:=sQ [oK 8 0] (.seq (sQ [oL 44 1,o 45 (.nilc (.t 44)),oF 46 3 45,oL 47 46,oN 48 47,oK 49 0] (.blk 4 (.loop bU))) dQ)
def dP:SC:=.blk 1 (.seq (sQ [oL 26 1,o 27 (.nilc (.t 26)),oF 28 2 27,oL 29 28,oN 30 29,oK 31 0] (.blk 2 (.loop bT))) dR)
def d8:SC:=sQ [oL 11 1,o 12 (.nilc (.t 11)),oF 13 2 12,oL 14 13,oN 15 14,o 16 (.mks 1 8 [.int .i64 0] (.t 15) (.t 15)),o 3 (.alloc [.nils]),oz (.store 1 (.t 3) (.t 16))] (sQ [oL 17 1,o 18 (.nilc (.t 17)),oF 19 0 18,oF 20 1 19,oL 21 20,o 22 (.call N.aq [.t 21]),o 23 (.call N.ak [.t 22])] (.blk 0 (.rng 83 (.t 23) [24,25] dO dP)))
def aR:SF:=⟨83,[],sQ [o 2 (.box (.t 0))] d8⟩
def gy:SC:=.ops [oA 65 40,oM 40 65]
def dk:SC:=sQ [o 41 (.bin .lss (.t 40) (.t 39))] (.seq (.cond (.t 41) (.skip) (.exit 0)) (.seq (.blk 1 (sQ [oM 42 40,oX 43 38 40,oL 44 43,oM 10 42,oM 11 44] (.seq (.feet [0,1,0,4,0,28,60,124,255,511,1023] [oF 45 1 8,oL 46 45,oF 47 2 2,oL 48 47,oM 49 11,oX 50 48 49,oL 51 50,o 52 (.bsl 1 1 [.int .i64 0] [0] [.t 51]),o 53 (.app 1 8 (.t 46) (.t 52)),oF 54 1 8,oz (.store 1 (.t 54) (.t 53))]) (sQ [oM 55 10,oM 56 6,o 57 (.bin .gtr (.t 55) (.t 56))] (.cond (.t 57) (.feet [0,0,2,0,14,30,63,127] [oL 58 9,oF 59 2 2,oL 60 59,oM 61 11,oX 62 60 61,oL 63 62,o 64 (.bin .mul (.t 58) (.t 63)),oz (.store 1 (.t 9) (.t 64))]) (.skip)))))) gy))
def dj:SC:=sQ [oM 12 76] (.ops [oM 13 77])
def dl:SC:=sQ [o 81 (.bin .lss (.t 80) (.t 79))] (.seq (.cond (.t 81) (.skip) (.exit 4)) (.seq (.blk 5 (sQ [oM 82 80,oX 83 78 80,oL 84 83,oM 14 82,oM 15 84] (.feet [0,1,0,0,12,0,32,124,0,508,0,2044,0,0,12288,32764,0,131071,262143] [oF 85 2 8,oL 86 85,oM 87 12,oL 88 9,o 89 (.bin .quo (.t 87) (.t 88)),oF 90 0 5,oL 91 90,o 92 (.bin .mul (.t 89) (.t 91)),oM 93 14,o 94 (.bin .add (.t 92) (.t 93)),oL 95 9,o 96 (.bin .mul (.t 94) (.t 95)),oM 97 12,oL 98 9,o 99 (.bin .rem (.t 97) (.t 98)),o 100 (.bin .add (.t 96) (.t 99)),oM 101 15,oX 102 86 100,oz (.store 1 (.t 102) (.t 101))]))) (.ops [oA 103 80,oM 80 103])))
def dm:SC:=.blk 3 (sQ [oM 78 13,oN 79 78,oK 80 0] (.blk 4 (.loop dl)))
def gz:SC:=sQ [o 104 (.load true 3 (.t 8)),oz (.store 3 (.t 4) (.t 104))] (.ret)
def gC:SC:=sQ [oF 66 2 5,oL 67 66,oN 68 67,oF 69 0 5,oL 70 69,o 71 (.bin .mul (.t 68) (.t 70)),o 72 (.mks 1 8 [.int .i64 0] (.t 71) (.t 71)),oF 73 2 8,oz (.store 1 (.t 73) (.t 72))] (.seq (sQ [o 74 (.load true 3 (.t 5)),o 75 (.call N.am [.t 74])] (.blk 2 (.rng 105 (.t 75) [76,77] dj dm))) gz)
def io:SC:=sQ [oF 16 0 2,oF 17 1 16,oL 18 17,oM 19 1,o 20 (.ixs 3 (.t 18) (.t 19)),o 21 (.load true 3 (.t 20)),o 5 (.alloc [.int .i64 0,.nils,.nils]),oz (.store 3 (.t 5) (.t 21))] (sQ [oF 23 1 5,oL 24 23,oM 25 1,o 26 (.call N.aF [.t 24,.t 25]),oM 22 26,o 27 (.ext (.t 22) 0),o 28 (.ext (.t 22) 1),oM 6 27,oM 7 28] (sQ [oF 29 1 5,oL 30 29,o 31 (.call N.ap [.t 30]),oM 32 6,oM 33 1,o 34 (.bsl 1 1 [.int .i64 0] [0] [.t 33]),o 35 (.call N.bg [.t 31,.t 32,.t 34]),o 36 (.build [.nils,.nils,.nils] [(0,1)] [.t 35]),o 8 (.alloc [.nils,.nils,.nils]),oz (.store 3 (.t 8) (.t 36))] (sQ [o 9 (.alloc [.int .i64 0]),oz (.store 1 (.t 9) (qI 1))] (.seq (sQ [oF 37 0 8,oL 38 37,oN 39 38,oK 40 0] (.blk 0 (.loop dk))) gC))))
def eE:SF:=⟨105,[.cell true 3 4],sQ [o 2 (.box (.t 0)),o 4 (.alloc [.nils,.nils,.nils])] io⟩
def rQ:SC:=sQ [o 3 (.mkf N.ac [] [.t 1]),oM 2 3] (.ret)
def qX:SF:=⟨4,[.tm 2],sQ [o 1 (.box (.t 0)),o 2 (.mv (.k (.nilf)))] rQ⟩
def dt:SC:=.seq (sQ [oM 13 7,oM 14 8,o 15 (.bin .lss (.t 13) (.t 14))] (.cond (.t 15) (.skip) (.exit 0))) (.blk 1 (sQ [oM 16 7,oM 17 8,o 18 (.bin .add (.t 16) (.t 17)),o 19 (.conv .u64 (.t 18)),o 20 (.bin .shr (.t 19) (.k (.int .u64 1))),o 21 (.conv .i64 (.t 20)),oM 9 21] (sQ [oM 22 0,oM 23 9,oX 24 22 23,oL 25 24,oM 26 1,o 27 (.call N.aJ [.t 25,.t 26])] (.cond (.t 27) (.ops [oM 28 9,oA 29 28,oM 7 29]) (.ops [oM 30 9,oM 8 30])))))
def du:SC:=sQ [oM 31 7,oM 32 7,oM 33 6,o 34 (.bin .lss (.t 32) (.t 33)),oM 35 34,og 36 35 true (.mv (.t 0)),og 37 35 true (.mv (.t 7)),og 38 35 true (.ixs 1 (.t 36) (.t 37)),og 39 35 true (.load false 1 (.t 38)),og 40 35 true (.mv (.t 1)),og 41 35 true (.bin .eql (.t 39) (.t 40)),og 42 35 true (.mv (.t 41)),og 43 42 false (.mv (.t 0)),og 44 42 false (.mv (.t 7)),og 45 42 false (.ixs 1 (.t 43) (.t 44)),og 46 42 false (.load false 1 (.t 45)),og 47 42 false (.call N.aG [.t 46]),og 48 42 false (.mv (.t 47)),og 49 48 true (.mv (.t 1)),og 50 48 true (.call N.aG [.t 49]),og 51 42 false (.pick (.t 48) (.t 50) (.k (.bool false))),og 52 35 true (.pick (.t 42) (.k (.bool true)) (.t 51)),o 53 (.pick (.t 35) (.t 52) (.k (.bool false))),oM 4 31,oM 5 53] (.ret)
def cm:SF:=⟨54,[.tm 4,.tm 5],sQ [oK 4 0,o 5 (.mv (.k (.bool false)))] (sQ [oM 10 0,oN 11 10,oM 6 11] (sQ [oM 12 6,oK 7 0,oM 8 12] (.seq (.blk 0 (.loop dt)) du)))⟩
def oh:SC:=sQ [o 9 (.bin .lss (.t 8) (.t 7))] (.seq (.cond (.t 9) (.skip) (.exit 0)) (.seq (.blk 1 (sQ [oM 10 8,oX 11 6 8,oL 12 11,oM 3 10,oM 4 12] (sQ [oM 13 0,oM 14 3,oM 15 4,o 16 (.dyn (.t 13) [.t 14,.t 15]),o 17 (.not (.t 16))] (.cond (.t 17) (.ret) (.skip))))) (.ops [oA 18 8,oM 8 18])))
def eX:SF:=⟨19,[],sQ [oF 5 2 1,oL 6 5,oN 7 6,oK 8 0] (.blk 0 (.loop oh))⟩
def lY:SF:=⟨17,[.tm 4],sQ [o 4 (.mv (.k (.bool false)))] (sQ [oM 5 0,o 6 (.call N.au [.t 5]),oM 7 6,og 8 7 true (.mv (.t 1)),og 9 7 true (.call N.au [.t 8]),og 10 7 true (.not (.t 9)),o 11 (.pick (.t 7) (.t 10) (.k (.bool false))),oM 12 11,og 13 12 false (.mv (.t 0)),og 14 12 false (.mv (.t 1)),og 15 12 false (.bin .lss (.t 13) (.t 14)),o 16 (.pick (.t 12) (.k (.bool true)) (.t 15)),oM 4 16] (.ret))⟩
def it:SF:=⟨6,[.tm 2],sQ [o 2 (.mv (.k (.bool false)))] (sQ [oM 3 0,oM 4 0,o 5 (.bin .neq (.t 3) (.t 4)),oM 2 5] (.ret))⟩
theorem oI:nFn C0 N.be=some eD:=by kernel_rfl
theorem qV:nFn C0 N.aY=some ir:=by kernel_rfl
theorem oZ (d:Nat)(xs:List AV)(g:G):ax C0 d N.aY xs g=ak (I C0) d g N.aY xs:=by kernel_rfl
theorem oP:nFn C0 N.a_=some cR:=by kernel_rfl
theorem mE (d:Nat)(xs:List AV)(g:G):ax C0 d N.a_ xs g=ak (I C0) d g N.a_ xs:=by kernel_rfl
theorem sV:nFn C0 N.aw=some jB:=by kernel_rfl
theorem qO (d:Nat)(xs:List AV)(g:G):ax C0 d N.aw xs g=ak (I C0) d g N.aw xs:=by kernel_rfl
theorem rO:nFn C0 N.aZ=some iY:=by kernel_rfl
theorem qu (d:Nat)(xs:List AV)(g:G):ax C0 d N.aZ xs g=ak (I C0) d g N.aZ xs:=by kernel_rfl
theorem u7:nFn C0 N.a8=some ma:=by kernel_rfl
theorem sS (d:Nat)(xs:List AV)(g:G):ax C0 d N.a8 xs g=ak (I C0) d g N.a8 xs:=by kernel_rfl
theorem iK:nFn C0 N.ap=some bg:=by kernel_rfl
theorem gn (d:Nat)(xs:List AV)(g:G):ax C0 d N.ap xs g=orF ((I C0).call d N.ap xs g):=by kernel_rfl
theorem wT:nFn C0 N.ay=some nE:=by kernel_rfl
theorem tP (d:Nat)(xs:List AV)(g:G):ax C0 d N.ay xs g=ak (I C0) d g N.ay xs:=by kernel_rfl
theorem j_:nFn C0 N.an=some cK:=by kernel_rfl
theorem jG (t:T)(g:G)(xs:List Od):SO.foot C0 t g (.call N.an xs)=an ((jH t xs).flatMap (aL g.h aH)):=by kernel_rfl
theorem jy (d:Nat)(xs:List AV)(g:G):ax C0 d N.an xs g=ak (I C0) d g N.an xs:=by kernel_rfl
theorem wW:nFn C0 N.aE=some nH:=by kernel_rfl
theorem tR (d:Nat)(xs:List AV)(g:G):ax C0 d N.aE xs g=ak (I C0) d g N.aE xs:=by kernel_rfl
theorem pf:nFn C0 N.a7=some fH:=by kernel_rfl
theorem ny (d:Nat)(xs:List AV)(g:G):ax C0 d N.a7 xs g=ak (I C0) d g N.a7 xs:=by kernel_rfl
theorem yI:nFn C0 N.ah=some py:=by kernel_rfl
theorem vg (t:T)(g:G)(xs:List Od):SO.foot C0 t g (.call N.ah xs)=an ((jH t xs).flatMap (aL g.h aH)):=by kernel_rfl
theorem uK (d:Nat)(xs:List AV)(g:G):ax C0 d N.ah xs g=ak (I C0) d g N.ah xs:=by kernel_rfl
theorem o_:nFn C0 N.aK=some cW:=by kernel_rfl
theorem np (d:Nat)(xs:List AV)(g:G):ax C0 d N.aK xs g=ak (I C0) d g N.aK xs:=by kernel_rfl
theorem jj:nFn C0 N.aN=some bm:=by kernel_rfl
theorem iI (d:Nat)(xs:List AV)(g:G):ax C0 d N.aN xs g=ak (I C0) d g N.aN xs:=by kernel_rfl
theorem mL:nFn C0 N.aL=some dE:=by kernel_rfl
theorem lA (d:Nat)(xs:List AV)(g:G):ax C0 d N.aL xs g=ak (I C0) d g N.aL xs:=by kernel_rfl
theorem zR:nFn C0 N.aV=some qY:=by kernel_rfl
theorem wQ (d:Nat)(xs:List AV)(g:G):ax C0 d N.aV xs g=ak (I C0) d g N.aV xs:=by kernel_rfl
theorem yH:nFn C0 N.aO=some pj:=by kernel_rfl
theorem uJ (d:Nat)(xs:List AV)(g:G):ax C0 d N.aO xs g=ak (I C0) d g N.aO xs:=by kernel_rfl
theorem nC:nFn C0 N.aQ=some dZ:=by kernel_rfl
theorem lR (d:Nat)(xs:List AV)(g:G):ax C0 d N.aQ xs g=ak (I C0) d g N.aQ xs:=by kernel_rfl
theorem j9:nFn C0 N.aA=some cJ:=by kernel_rfl
theorem jx (d:Nat)(xs:List AV)(g:G):ax C0 d N.aA xs g=ak (I C0) d g N.aA xs:=by kernel_rfl
theorem zP:nFn C0 N.aD=some ku:=by kernel_rfl
theorem wO (d:Nat)(xs:List AV)(g:G):ax C0 d N.aD xs g=ak (I C0) d g N.aD xs:=by kernel_rfl
theorem pd:nFn C0 N.aW=some fF:=by kernel_rfl
theorem nu (d:Nat)(xs:List AV)(g:G):ax C0 d N.aW xs g=ak (I C0) d g N.aW xs:=by kernel_rfl
theorem u0:nFn C0 N.aX=some l_:=by kernel_rfl
theorem sR (d:Nat)(xs:List AV)(g:G):ax C0 d N.aX xs g=ak (I C0) d g N.aX xs:=by kernel_rfl
theorem pc:nFn C0 N.aB=some fE:=by kernel_rfl
theorem nq (d:Nat)(xs:List AV)(g:G):ax C0 d N.aB xs g=ak (I C0) d g N.aB xs:=by kernel_rfl
theorem lX:nFn C0 N.a9=some dv:=by kernel_rfl
theorem j7 (d:Nat)(xs:List AV)(g:G):ax C0 d N.a9 xs g=ak (I C0) d g N.a9 xs:=by kernel_rfl
theorem sX:nFn C0 N.aI=some jF:=by kernel_rfl
theorem q7 (t:T)(g:G)(xs:List Od):SO.foot C0 t g (.call N.aI xs)=cE:=by kernel_rfl
theorem qQ (d:Nat)(xs:List AV)(g:G):ax C0 d N.aI xs g=orF ((I C0).call d N.aI xs g):=by kernel_rfl
theorem oR:nFn C0 N.ak=some eL:=by kernel_rfl
theorem mG (d:Nat)(xs:List AV)(g:G):ax C0 d N.ak xs g=ak (I C0) d g N.ak xs:=by kernel_rfl
theorem u9:nFn C0 N.aq=some mb:=by kernel_rfl
theorem sT (d:Nat)(xs:List AV)(g:G):ax C0 d N.aq xs g=ak (I C0) d g N.aq xs:=by kernel_rfl
theorem wX:nFn C0 N.aH=some nI:=by kernel_rfl
theorem tS (d:Nat)(xs:List AV)(g:G):ax C0 d N.aH xs g=ak (I C0) d g N.aH xs:=by kernel_rfl
theorem mM:nFn C0 N.aM=some dF:=by kernel_rfl
theorem lB (d:Nat)(xs:List AV)(g:G):ax C0 d N.aM xs g=ak (I C0) d g N.aM xs:=by kernel_rfl
theorem lT:nFn C0 N.ax=some cZ:=by kernel_rfl
theorem j5 (d:Nat)(xs:List AV)(g:G):ax C0 d N.ax xs g=ak (I C0) d g N.ax xs:=by kernel_rfl
theorem tU:nFn C0 N.au=some kg:=by kernel_rfl
theorem rL (d:Nat)(xs:List AV)(g:G):ax C0 d N.au xs g=ak (I C0) d g N.au xs:=by kernel_rfl
theorem uZ:nFn C0 N.aS=some lZ:=by kernel_rfl
theorem sP (d:Nat)(xs:List AV)(g:G):ax C0 d N.aS xs g=ak (I C0) d g N.aS xs:=by kernel_rfl
theorem jz:nFn C0 N.af=some aC:=by kernel_rfl
theorem sW:nFn C0 N.aP=some jC:=by kernel_rfl
theorem qP (d:Nat)(xs:List AV)(g:G):ax C0 d N.aP xs g=ak (I C0) d g N.aP xs:=by kernel_rfl
theorem lV:nFn C0 N.aR=some da:=by kernel_rfl
theorem j6 (d:Nat)(xs:List AV)(g:G):ax C0 d N.aR xs g=ak (I C0) d g N.aR xs:=by kernel_rfl
theorem oO:nFn C0 N.aC=some eF:=by kernel_rfl
theorem mD (d:Nat)(xs:List AV)(g:G):ax C0 d N.aC xs g=ak (I C0) d g N.aC xs:=by kernel_rfl
theorem wV:nFn C0 N.aU=some nF:=by kernel_rfl
theorem tQ (d:Nat)(xs:List AV)(g:G):ax C0 d N.aU xs g=ak (I C0) d g N.aU xs:=by kernel_rfl
theorem oQ:nFn C0 N.ba=some eK:=by kernel_rfl
theorem mF (d:Nat)(xs:List AV)(g:G):ax C0 d N.ba xs g=ak (I C0) d g N.ba xs:=by kernel_rfl
theorem yJ:nFn C0 N.bc=some pF:=by kernel_rfl
theorem uL (d:Nat)(xs:List AV)(g:G):ax C0 d N.bc xs g=ak (I C0) d g N.bc xs:=by kernel_rfl
theorem mN:nFn C0 N.ae=some aP:=by kernel_rfl
theorem j8:nFn C0 N.aa=some aR:=by kernel_rfl
theorem oJ:nFn C0 N.aT=some eE:=by kernel_rfl
theorem mC (d:Nat)(xs:List AV)(g:G):ax C0 d N.aT xs g=ak (I C0) d g N.aT xs:=by kernel_rfl
theorem zQ:nFn C0 N.am=some qX:=by kernel_rfl
theorem wP (d:Nat)(xs:List AV)(g:G):ax C0 d N.am xs g=ak (I C0) d g N.am xs:=by kernel_rfl
theorem jA:nFn C0 N.aF=some cm:=by kernel_rfl
theorem iX (d:Nat)(xs:List AV)(g:G):ax C0 d N.aF xs g=ak (I C0) d g N.aF xs:=by kernel_rfl
theorem wU:nFn C0 N.ac=some eX:=by kernel_rfl
theorem uY:nFn C0 N.aJ=some lY:=by kernel_rfl
theorem sO (d:Nat)(xs:List AV)(g:G):ax C0 d N.aJ xs g=ak (I C0) d g N.aJ xs:=by kernel_rfl
theorem qW:nFn C0 N.aG=some it:=by kernel_rfl
theorem o7 (d:Nat)(xs:List AV)(g:G):ax C0 d N.aG xs g=ak (I C0) d g N.aG xs:=by kernel_rfl
theorem od {α:Type}{f:Nat->α->Nat->α->Bool}{i:Nat}{x:α}:∀{l:List α} {j:Nat},(∀b y,l[b]?=some y->f i x (j+b) y=true)->eV f i x j l=true
 | [],_,_=>rfl
 | y::r,j,h=>by simp only[eV,Bool.and_eq_true];refine ⟨by simpa using h 0 y rfl,od λb z hb=>?_⟩;have:=h (b+1) z (by simpa using hb);rwa [show j+(b+1)=j+1+b by omega] at this
theorem th {α:Type}{f:Nat->α->Nat->α->Bool}:∀{l:List α} {i:Nat},(∀a b x y,a<b->l[a]?=some x->l[b]?=some y->f (i+a) x (i+b) y=true)->ji f i l=true
 | [],_,_=>rfl
 | x::r,i,h=>by
  simp only[ji,Bool.and_eq_true];refine ⟨od λb y hb=>?_,th λa b x' y hab ha hb=>?_⟩
  ·have:=h 0 (b+1) x y (by omega) rfl (by simpa using hb);rwa [Nat.add_zero,show i+(b+1)=i+1+b by omega] at this
  ·have:=h (a+1) (b+1) x' y (by omega) (by simpa using ha) (by simpa using hb);rwa [show i+(a+1)=i+1+a by omega,show i+(b+1)=i+1+b by omega] at this
theorem tK {pm:List Nat}:∀{l:List Foot} {i:Nat},(∀f∈l,f.lk.sr=[])->pX pm i l=true
 | [],_,_=>rfl
 | x::r,i,h=>by simp only[pX,h x (by simp)];exact tK λf hf=>h f (by simp[hf])
def GU (pm:List Nat)(ws:List Bool)(L:List (Nat×Nat))(i j:Nat):Bool:=(pm.getD j 0).testBit i || (!(ws.getD i false)&&!(ws.getD j false)) || L.contains (i,j)
def Iy (pm:List Nat)(ws:List Bool)(L:List (Nat×Nat)):Bool:=(List.range ws.length).all λj=>(List.range j).all λi=>GU pm ws L i j
theorem aZ {pm:List Nat}{fs:List Foot}(ws:List Bool)(L:List (Nat×Nat))(hw:All2 (λ(f:Foot) (w:Bool)=>f.lk.sr=[]/\(w=false->f.wr=[])) fs ws)(hd:Iy pm ws L=true)
  (hL:∀p∈L,∀x y,fs[p.1]?=some x->fs[p.2]?=some y->bW x y=true):nJ pm fs=true:=by
 unfold nJ;rw[aa,if_pos]
 ·exact tK λf hf=>by obtain ⟨i,hi,rfl⟩:=List.mem_iff_getElem.1 hf;obtain ⟨w,-,h⟩:=hw.get (List.getElem?_eq_getElem hi);exact h.1
 ·refine th λa b x y hab ha hb=>?_;simp only[Nat.zero_add];obtain ⟨wa,hwa,ka⟩:=hw.get ha;obtain ⟨wb,hwb,kb⟩:=hw.get hb;have hbl:=(List.getElem?_eq_some_iff.1 hwb).1;have:=List.all_eq_true.1 (List.all_eq_true.1 hd b (List.mem_range.2 hbl)) a (List.mem_range.2 hab);simp only[GU,Bool.or_eq_true] at this;rcases this with (h | h) | h
  ·rw[h,Bool.true_or]
  ·simp only[List.getD_eq_getElem?_getD,hwa,hwb,Option.getD_some,Bool.and_eq_true,Bool.not_eq_true'] at h;have ex:=ka.2 h.1;have ey:=kb.2 h.2;simp only[bW,jp,gM,ex,ey,Bool.and_self,Bool.or_true]
  ·rw[hL (a,b) (List.contains_iff_mem.1 h) x y ha hb,Bool.or_true]
structure Mech where
 card:Int
 frm:List Int
 noise:List Int
 out:List Int
structure Causal where
 grain:Int
 roots:List (List Int)
 nodes:List Mech
structure Node where
 card:Int
 parents:List Int
 rows:List (List Int)
structure Net where
 grain:Int
 nodes:List Node
structure Factor where
 vars:List Int
 cards:List Int
 w:List Int
instance : Rp Mech:=Rp.via λm:Mech=>(m.card,m.frm,m.noise,m.out)
instance : Rp Causal:=Rp.via λm:Causal=>(m.grain,m.roots,m.nodes)
instance : Rp Node:=Rp.via λm:Node=>(m.card,m.parents,m.rows)
instance : Rp Net:=Rp.via λm:Net=>(m.grain,m.nodes)
instance : Rp Factor:=Rp.via λm:Factor=>(m.vars,m.cards,m.w)
section
variable {P:Nat->Prop}{k:Nat}{h:H}{cs:List AV}
theorem cH {m:Node}:Rp.rp P k h m cs↔∃a b,cs=[.int .i64 m.card,a,b]/\SlR P k h m.parents a/\SlR P k h m.rows b:=by
 constructor
 ·rintro ⟨c1,c2,rfl,h1,d1,d2,rfl,⟨a,rfl,h2⟩,⟨b,rfl,h3⟩⟩;rw[aF.1 h1];exact ⟨a,b,rfl,h2,h3⟩
 ·rintro ⟨a,b,rfl,h2,h3⟩;exact ⟨[.int .i64 m.card],[a,b],rfl,aF.2 rfl,[a],[b],rfl,⟨a,rfl,h2⟩,⟨b,rfl,h3⟩⟩
theorem gf {m:Net}:Rp.rp P k h m cs↔∃a,cs=[.int .i64 m.grain,a]/\SlR P k h m.nodes a:=by
 constructor
 ·rintro ⟨c1,c2,rfl,h1,⟨a,rfl,h2⟩⟩;rw[aF.1 h1];exact ⟨a,rfl,h2⟩
 ·rintro ⟨a,rfl,h2⟩;exact ⟨[.int .i64 m.grain],[a],rfl,aF.2 rfl,⟨a,rfl,h2⟩⟩
theorem nj {m:Factor}:Rp.rp P k h m cs↔∃a b c,cs=[a,b,c]/\SlR P k h m.vars a/\SlR P k h m.cards b/\SlR P k h m.w c:=by
 constructor
 ·rintro ⟨c1,c2,rfl,⟨a,rfl,h2⟩,e1,e2,rfl,⟨b,rfl,h3⟩,⟨c,rfl,h4⟩⟩;exact ⟨a,b,c,rfl,h2,h3,h4⟩
 ·rintro ⟨a,b,c,rfl,h2,h3,h4⟩;exact ⟨[a],[b,c],rfl,⟨a,rfl,h2⟩,[b],[c],rfl,⟨b,rfl,h3⟩,⟨c,rfl,h4⟩⟩
end
theorem SlR.len {α:Type} [Rp α]{P:Nat->Prop}{k:Nat}{h:H}{l:List α}{v:AV}(r:SlR P k h l v)(g:G):dz .slice v g=.val (.int .i64 (l.length:Int)):=by obtain ⟨rows,h1,h2⟩:=r.rows;rw[na h1,h2.len]
theorem SlR.tree {α:Type} [Rp α]{k k':Nat}{h h':H}{l:List α}{v:AV}(r:SlR NoP k h l v)(hk:k<=k'):SlR NoP k' h' l v:=by obtain ⟨w,hw,q⟩:=Rp.tree (P:=NoP) (k':=k') (h':=h') (show Rp.rp NoP k h l [v] from ⟨v,rfl,r⟩) hk;injection hw with hw;subst hw;exact q
theorem ch {α:Type} [Rp α]{P:Nat->Prop}{k:Nat}{h:H}{l:List α}{v:AV}(r:SlR P k h l v)(d:Nat)(hd:Rp.dp (List α)<=20:=by decide) :
  ∃v',Hx.snap h d aH v=some v'/\∀h',SlR NoP (max k d) h' l v':=by
 obtain ⟨v',e,w,hw,q⟩:=oY (be l hd) (by decide) d (show One l P k h v from ⟨v,rfl,r⟩);injection hw with hw;subst hw;exact ⟨v',e,λh'=>q.tree (Nat.le_refl _)⟩
theorem SlR.all {α:Type} [Rp α]{k:Nat}{h:H}{l:List α}{v:AV}(r:SlR NoP k h l v) :
  ∃rows:List (List AV),(∀h',ae h' (Rp.sz α) v=some rows)/\rows.length=l.length/\(∀(i:Nat) (x:α),l[i]?=some x->∃row,rows[i]?=some row/\Rp.rp NoP k .nil x row)/\(0<l.length->t8 v=true):=by
 have r0:=(r.tree (h':=.nil) (Nat.le_refl _));obtain ⟨rows,h1,h2⟩:=r0.rows;refine ⟨rows,λh'=>?_,h2.len.symm,λi x hi=>h2.get hi,λhl=>II h1 (i:=0) (by rw[<-h2.len];exact hl)⟩;rw[<-h1];exact tD λid ep off len lim e=>by subst e;exact r.2.1.elim
theorem yu {P:Nat->Prop}{k:Nat}{h:H}{l:List Nat}{v:AV}(r:SlR P k h l v):∀x∈l,x<18446744073709551616:=by obtain ⟨rows,h1,h2⟩:=r.rows;intro x hx;obtain ⟨i,hi,e⟩:=List.mem_iff_getElem.1 hx;obtain ⟨row,h3,h4⟩:=h2.get (i:=i) (a:=x) (by rw[List.getElem?_eq_getElem hi,e]);exact (B5.1 h4).2
theorem cw (p:Nat->Bool)(j:Nat):(List.range (j+1)).all p=((List.range j).all p&&p j):=by rw[List.range_succ,List.all_append];simp
theorem tN {p:Nat->Bool}{j n:Nat}(h:j<n)(hp:p j=false):(List.range n).all p=false:=by rw[List.all_eq_false];exact ⟨j,List.mem_range.2 h,by rw[hp];decide⟩
end
end Hx
end
section
namespace Hx
open Go
noncomputable section
theorem qb {C:Cfg}{nt d:Nat}{rd:Option Nat}{c:Code}{t:T}{df:List ADf}{g:G}{Q:QT}(h:wp C d rd (dT C nt c) Q t df g):((I C).code nt d rd c t df g).sat Q:=by rw[A_];exact JA _ _ _ _ _ h
end
end Hx
end
