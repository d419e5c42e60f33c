/- A part of the proof: an interpreter over abstract values, shown right against the model, and what the functions of the chapter compute on it. -/
import Derived.Shelf.Lays2
import Derived.Test.YteaikmdilmfbeaaGreatRows
import Derived.Shelf.Spec.SlicesInsertGrow
import Derived.Test.YteaikmdilmfbeaaGreatHx8
set_option linter.unusedVariables false
set_option linter.unusedSimpArgs false
set_option linter.unnecessarySimpa false
section
namespace Go.Proofs
open Go.Shelf
def Tryz.lays21_ren:Go.Shelf.Ren:=⟨λ| 21=>160 | 27=>169 | 28=>170 | 35=>171 | 39=>172 | n=>n,λ| 22=>31 | 3=>3 | 4=>4 | 0=>0 | n=>n,λ| n=>n⟩
theorem Tryz.lays21:Go.Proofs.Lays2.n21 Tryz.prog Tryz.lays21_ren:={
 mixed:=by kernel_rfl
 f21:=Tryz.func160.trans (congrArg some (by kernel_rfl))
 f27:=Tryz.func169.trans (congrArg some (by kernel_rfl))
 f28:=Tryz.func170.trans (congrArg some (by kernel_rfl))
 f35:=Tryz.func171.trans (congrArg some (by kernel_rfl))
 f39:=Tryz.func172.trans (congrArg some (by kernel_rfl))
 t0:=Tryz.underlying0
 a0:=Tryz.isAgg0
 z0:=Tryz.sizeOf0
 v0:=Tryz.zeroValue0
 t3:=Tryz.underlying3
 a3:=Tryz.isAgg3
 z3:=Tryz.sizeOf3
 v3:=Tryz.zeroValue3
 t4:=Tryz.underlying4
 a4:=Tryz.isAgg4
 z4:=Tryz.sizeOf4
 v4:=Tryz.zeroValue4
 t22:=Tryz.underlying31
 a22:=Tryz.isAgg31
 z22:=Tryz.sizeOf31
 v22:=Tryz.zeroValue31
 i3:=by kernel_rfl }
end Go.Proofs
end
section
namespace Hx
open Go Go.Proofs Go.Shelf
theorem jV {w:World}{o:Obj}:(Go.World.alloc w o).heap=w.heap.push o:=rfl
theorem iS {w:World}:(Go.World.drew w).heap=w.heap:=rfl
theorem jr {b:Nat}{e:TypeId}{f:Nat×Nat}:∀(vs:List Value) (o:Nat) (w:World) (c:Array Value),w.heap[b]?=some (.cells c e f) ->
  Go.World.setCells w b o vs=World.setBlk w b (.cells (bg c o vs) e f):=by
 intro vs
 induction vs with
 | nil =>
  intro o w c h;have hb:b<w.heap.size:=by
   rcases Nat.lt_or_ge b w.heap.size with hl | hl
   ·exact hl
   ·rw[Array.getElem?_eq_none hl] at h;cases h
  have hx:w.heap[b]=.cells c e f:=by simpa [Array.getElem?_eq_getElem hb] using h
  show w=_;simp only[World.setBlk,bg];have:w.heap.setIfInBounds b (.cells c e f)=w.heap:=by
   apply Array.ext_getElem?;intro k;rw[Array.getElem?_setIfInBounds]
   by_cases hk:b=k
   ·subst hk;simp[hb,hx]
   ·rw[if_neg hk]
  rw[this]
 | cons v vs ih =>
  intro o w c h;have hb:b<w.heap.size:=by
   rcases Nat.lt_or_ge b w.heap.size with hl | hl
   ·exact hl
   ·rw[Array.getElem?_eq_none hl] at h;cases h
  show Go.World.setCells (w.setCell (adr b o) v) b (o+1) vs=_;rw[zz h,ih (o+1) _ (c.setIfInBounds o v) (by rw[aY];simp[hb]),oh]
  rfl
section
variable {P:Program}{ρ:Ren}
theorem gR {α:Type}{cs vs:List α}{i n m k:Nat}(hcl:cs.length=n)(hvl:vs.length=m)(hi:i<=n) :
  (cs.take i++(vs++cs.drop i))[k]?=if k<i then cs[k]? else if k<i+m then vs[k - i]? else cs[k - m]?:=by
 have hti:(cs.take i).length=i:=by rw[List.length_take];omega
 by_cases h1:k<i
 ·rw[if_pos h1,List.getElem?_append_left (by omega),List.getElem?_take_of_lt h1]
 ·rw[if_neg h1,List.getElem?_append_right (by omega),hti]
  by_cases h2:k<i+m
  ·rw[if_pos h2,List.getElem?_append_left (by omega)]
  ·rw[if_neg h2,List.getElem?_append_right (by omega),List.getElem?_drop,hvl];congr 1;omega
def Ins (P:Program)(f:FuncId)(args:Array Value)(w:World)(b n m:Nat)(rowV:List Value):Prop :=
 ∃b' o' cap' c' e' w',Calls P f args w (λx y=>x=.returned (.slice (some (adr b' o')) (n+m) cap')/\y=w')/\n+m<=cap'/\cap'<=9223372036854775807 /\
  (w'.os=w.os/\w'.tape=w.tape/\w'.output=w.output/\w.heap.size<=w'.heap.size)/\(b'=b\/(b'=w.heap.size/\w.heap.size<w'.heap.size)) /\
  (∀k,k<w.heap.size->k≠b->w'.heap[k]?=w.heap[k]?)/\w'.heap[b']?=some (.cells c' e' (0,0))/\o'+cap'<=c'.size /\
  ∀k,k<n+m->c'[o'+k]?=rowV[k]?
theorem ES (L:Lays2.n21 P ρ){w:World}{b off n c i vb voff m vc:Nat}{cc cv:Array Value}{e e2:TypeId}{cs vs:List Value}
  (hb:w.heap[b]?=some (.cells cc e (0,0))) (hv:w.heap[vb]?=some (.cells cv e2 (0,0))) (hne:vb≠b) (hin:i<=n) (hm:0<m) (hnc:n<=c)
  (hc63:c<=9223372036854775807) (hbig:(n+m)*8<=140737488355328) (hcc:off+c<=cc.size) (hcv:voff+m<=cv.size) (hn0:0<c)
  (hcl:cs.length=n) (hvl:vs.length=m) (hcs:∀j,j<n->cs[j]?=cc[off+j]?) (hvs:∀j,j<m->vs[j]?=cv[voff+j]?)
  (h1c:∀v∈cs,v.oneCell'=true) (h1v:∀v∈vs,v.oneCell'=true) :
  Ins P (ρ.f 21) #[.slice (some (adr b off)) n c,.int .i64 i,.slice (some (adr vb voff)) m vc] w b n m (cs.take i++(vs++cs.drop i)):=by
 have hbw:b<w.heap.size:=by
  rcases Nat.lt_or_ge b w.heap.size with hl | hl
  ·exact hl
  ·rw[Array.getElem?_eq_none hl] at hb;cases hb
 have hcs':∀j v,cs[j]?=some v->w.cell? (adr b (off+j))=some v:=λj v hj=>by rw[oI hb,<-hcs j (by rw[<-hcl];exact (List.getElem?_eq_some_iff.1 hj).1)];exact hj
 have hvs':∀j v,vs[j]?=some v->w.cell? (adr vb (voff+j))=some v:=λj v hj=>by rw[oI hv,<-hvs j (by rw[<-hvl];exact (List.getElem?_eq_some_iff.1 hj).1)];exact hj
 have hsp:∀j,j<c->(w.cell? (adr b (off+j))).isSome=true:=λj hj=>by rw[oI hb,Array.getElem?_eq_getElem (by omega)];rfl
 have hfz:∀j,w.frozen? (adr b j)=false:=λj=>by simp[World.frozen?,adr,hb]
 have hfv:∀j,w.frozen? (adr vb j)=false:=λj=>by simp[World.frozen?,adr,hv]
 have hdl:(cs.drop i).length=n - i:=by rw[List.length_drop,hcl]
 have htl:(cs.take i).length=i:=by rw[List.length_take];omega
 by_cases hroom:n+m<=c
 ·by_cases hlt:i<n
  ·
   have h:=Any2.slices_Insert_int_shift L b off n c i vb voff m vc cs vs w hlt hm hroom hc63 hne hcl hvl hcs' (λj hj=>hsp j (by omega)) (λj _=>hfz _) hvs' h1c h1v
    e2 e cv.size cc.size (by simp[World.shape?,hv]) (by simp[World.shape?,hb]) (by omega) (hfv _) (hfv _)
   have hb':w.drew.heap[b]?=some (.cells cc e (0,0)):=hb;rw[jr (cs.drop i) (off+(i+m)) w.drew cc hb'] at h;rw[jr vs (off+i) (World.setBlk w.drew b _) _ (by rw[aY,if_pos ⟨rfl,hbw⟩]),oh] at h;refine ⟨b,off,c,_,e,_,h,hroom,hc63,⟨rfl,rfl,rfl,by simp[iS]⟩,.inl rfl,λk _ hk=>?_,by rw[aY,if_pos ⟨rfl,hbw⟩],by simp[bK];omega,λk hk=>?_⟩
   ·rw[aY,if_neg (λh=>hk h.1)];rfl
   ·rw[gR hcl hvl hin,bX _ _ _ _ (by rw[bK];omega),bX _ _ _ _ (by omega),hdl,hvl]
    by_cases h1:k<i
    ·rw[if_neg (by omega),if_neg (by omega),if_pos h1,hcs k (by omega)]
    ·rw[if_neg h1]
     by_cases h2:k<i+m
     ·rw[if_pos (by omega),if_pos h2];congr 1;omega
     ·rw[if_neg (by omega),if_pos (by omega),if_neg h2,List.getElem?_drop];congr 1;omega
  ·
   have hi:i=n:=by omega
   subst hi;have h:=Any2.slices_Insert_int_end_room L b off i c vb voff m vc vs w hm hroom hc63 hvl (λj hj=>by rw[Nat.add_assoc];exact hsp _ (by omega)) (λj _=>hfz _) hvs' h1v;rw[jr vs (off+i) w cc hb] at h;refine ⟨b,off,c,_,e,_,h,hroom,hc63,⟨rfl,rfl,rfl,by simp⟩,.inl rfl,λk _ hk=>?_,by rw[aY,if_pos ⟨rfl,hbw⟩],by simp[bK];omega,λk hk=>?_⟩
   ·rw[aY,if_neg (λh=>hk h.1)]
   ·rw[gR hcl hvl hin,bX _ _ _ _ (by omega),hvl]
    by_cases h1:k<i
    ·rw[if_neg (by omega),if_pos h1,hcs k (by omega)]
    ·rw[if_pos (by omega),if_neg h1,if_pos (by omega)];congr 1;omega
 ·have hgc:=grownCap_ge w (n+m) c (ρ.t 3);have hgm:grownCap w (n+m) c (ρ.t 3)<=9223372036854775807:=by have:=grownCap_le_maxLen w (n+m) c (ρ.t 3) (by unfold maxLen;omega);unfold maxLen at this;omega
  by_cases hlt:i<n
  ·
   have h:=Any2.slices_Insert_int_grow L b off n c i vb voff m vc cs vs w hlt hm hnc (by omega) hbig hcl hvl hcs' hvs' h1c h1v;obtain ⟨G,hG⟩:∃G,G=grownCap w (n+m) c (ρ.t 3):=⟨_,rfl⟩;rw[<-hG] at h hgc hgm;obtain ⟨ROW,hROW⟩:∃ROW:Array Value,ROW=(cs.take i).toArray++Builtin.zeroCells (Value.int .i64 0).cells (n+m - i)++Builtin.zeroCells (Value.int .i64 0).cells (G - (n+m)):=⟨_,rfl⟩;rw[<-hROW] at h;have hsz:ROW.size=G:=by rw[hROW];simp[Builtin.zeroCells,Value.cells];omega
   have hpre:∀k,k<i->ROW[k]?=cs[k]?:=λk hk=>by rw[hROW,Array.append_assoc,Array.getElem?_append_left (by simp;omega)];simp[List.getElem?_take,hk]
   have h0:(w.alloc (.cells ROW (ρ.t 3))).drew.heap[w.heap.size]?=some (.cells ROW (ρ.t 3) (0,0)):=by simp[jV,iS]
   rw[jr vs i _ ROW h0] at h;rw[jr (cs.drop i) (i+m) _ (bg ROW i vs) (e:=ρ.t 3) (f:=(0,0)) (by
    show (World.setBlk _ _ _).heap[_]?=_;rw[aY,if_pos ⟨rfl,by simp[jV,iS]⟩])] at h
   refine ⟨w.heap.size,0,G,bg (bg ROW i vs) (i+m) (cs.drop i),ρ.t 3,_,h,hgc,hgm,⟨rfl,rfl,rfl,by simp[jV,iS]⟩,.inr ⟨rfl,by simp[jV,iS]⟩,λk hk _=>?_,?_,by simp[bK,hsz],λk hk=>?_⟩
   ·rw[aY,if_neg (by omega)];show (World.setBlk _ _ _).heap[_]?=_;rw[aY,if_neg (by omega)];simp[jV,iS,Array.getElem?_push,show k≠w.heap.size from by omega]
   ·rw[aY,if_pos ⟨rfl,by simp[jV,iS]⟩]
   ·rw[gR hcl hvl hin,Nat.zero_add,bX _ _ _ _ (by rw[bK];omega),bX _ _ _ _ (by omega),hdl,hvl]
    by_cases h1:k<i
    ·rw[if_neg (by omega),if_neg (by omega),if_pos h1,hpre k h1]
    ·rw[if_neg h1]
     by_cases h2:k<i+m
     ·rw[if_neg (by omega),if_pos (by omega),if_pos h2]
     ·rw[if_pos (by omega),if_neg h2,List.getElem?_drop];congr 1;omega
  ·have hi:i=n:=by omega
   subst hi;have h:=Any2.slices_Insert_int_end_grow L (some (adr b off)) i c vb voff m vc cs vs w hm hnc (by omega) hbig hcl hvl (λh=>by cases h)
    (λa ha j v hj=>by injection ha with ha;subst ha;rw[fQ];exact hcs' j v hj) hvs' h1v
   obtain ⟨G,hG⟩:∃G,G=grownCap w (i+m) c (ρ.t 3):=⟨_,rfl⟩;rw[<-hG] at h hgc hgm;refine ⟨w.heap.size,0,G,_,ρ.t 3,_,h,hgc,hgm,⟨rfl,rfl,rfl,by simp[jV,iS]⟩,.inr ⟨rfl,by simp[jV,iS]⟩,λk hk _=>?_,by simp[jV,iS];rfl,?_,λk hk=>?_⟩
   ·simp[jV,iS,Array.getElem?_push,show k≠w.heap.size from by omega]
   ·simp[Builtin.zeroCells,Value.cells];omega
   ·rw[Nat.zero_add,Array.getElem?_append_left (by simp;omega)];have:cs.take i++(vs++cs.drop i)=cs++vs:=by rw[<-hcl,List.take_length,List.drop_length,List.append_nil]
    rw[this];simp
theorem ET (L:Lays2.n21 P ρ){w:World}{base:Option Addr}{vb voff m vc:Nat}{vs:List Value}(hm:0<m)(hbig:m*8<=140737488355328)(hvl:vs.length=m)
  (hvs:∀j v,vs[j]?=some v->w.cell? (adr vb (voff+j))=some v) (h1v:∀v∈vs,v.oneCell'=true) :
  ∃cap rest,m<=cap/\cap<=9223372036854775807/\rest.size=cap - m /\
  Calls P (ρ.f 21) #[.slice base 0 0,.int .i64 0,.slice (some (adr vb voff)) m vc] w (λx y=>x=.returned (.slice (some (adr w.heap.size 0)) m cap)/\y=World.add (World.drewn w) (.cells (vs.toArray++rest) (ρ.t 3) (0,0))):=by
 have hgc:=grownCap_ge w (0+m) 0 (ρ.t 3);have hgm:grownCap w (0+m) 0 (ρ.t 3)<=9223372036854775807:=by have:=grownCap_le_maxLen w (0+m) 0 (ρ.t 3) (by unfold maxLen;omega);unfold maxLen at this;omega
 have h:=Any2.slices_Insert_int_end_grow L base 0 0 vb voff m vc [] vs w hm (Nat.le_refl _) (by omega) (by omega) rfl hvl (λ_=>rfl)
  (λa ha j v hj=>by simp at hj) hvs h1v
 obtain ⟨G,hG⟩:∃G,G=grownCap w (0+m) 0 (ρ.t 3):=⟨_,rfl⟩;rw[<-hG] at h hgc hgm;rw[Nat.zero_add] at h hgc;exact ⟨G,Builtin.zeroCells (Value.int .i64 0).cells (G - m),hgc,hgm,by simp[Builtin.zeroCells,Value.cells],h⟩
end
noncomputable def qb (i:Nat)(rows:List (List AV))(g:G):OR :=
 au (Nat.beq i 0&&Nat.ble (bk rows*8) 140737488355328) (.upd (.hsl g.nx 0 0 (bk rows) none) (g.new (.cells 1 rows 0 true false))) .fail
noncomputable def xk (id2 i:Nat)(s:AV)(vrows:List (List AV))(g:G):OR :=
 match s with
 | .nils=>qb i vrows g
 | .esl=>qb i vrows g
 | .hsl id ep off len none =>
  match g.get id with
  | .cells 1 [] ep' false _=>au ((Nat.beq ep ep'&&Nat.beq off 0)&&Nat.beq len 0) (qb i vrows g) .fail
  | .cells sz rows ep' true false =>
   au (((((((Nat.beq sz 1&&Nat.beq ep ep')&&Nat.beq off 0)&&Nat.beq len (bk rows))&&jn (Nat.beq id id2))&&Nat.ble i len)&&Nat.ble 1 len)&&Nat.ble ((len+bk vrows)*8) 140737488355328)
    (.upd (.hsl id (ep+1) 0 (len+bk vrows) none) (g.put id (.cells 1 (iK i rows++(vrows++gy i rows)) (ep+1) true false))) .fail
  | _=>.fail
 | _=>.fail
noncomputable def jY:Nat->List AV->G->OR:=λ_ xs g =>
 match xs with
 | [s,.int .i64 (.ofNat i),.hsl id2 ep2 off2 len2 _] =>
  match g.get id2 with
  | .cells sz2 vrows ep2' _ _ =>
   au ((((Nat.beq sz2 1&&Nat.beq ep2 ep2')&&Nat.beq off2 0)&&Nat.beq len2 (bk vrows))&&Nat.ble 1 len2) (xk id2 i s vrows g) .fail
  | _=>.fail
 | _=>.fail
theorem sB {d:Nat}{xs:List AV}{g:G}(h:jY d xs g≠.fail):∃s i id2 ep2 len2 lim2 vrows lo fz,xs=[s,.int .i64 (Int.ofNat i),.hsl id2 ep2 0 len2 lim2] /\
  g.h.get id2=.cells 1 vrows ep2 lo fz/\len2=vrows.length/\0<vrows.length/\jY d xs g=xk id2 i s vrows g:=by
 unfold jY at h ⊢
 split at h
 ·split at h
  ·rename_i hg;rw[aa] at h ⊢
   split at h
   ·rename_i hc;simp only[Bool.and_eq_true,ax] at hc;obtain ⟨⟨⟨⟨c1,c2⟩,c3⟩,c4⟩,c5⟩:=hc;have c1:=aE c1;have c2:=aE c2;have c3:=aE c3;have c4:=aE c4;subst c1;subst c2;subst c3;subst c4;rw[Nat.ble_eq] at c5;refine ⟨_,_,_,_,_,_,_,_,_,rfl,hg,rfl,c5,?_⟩;rw[if_pos];simp[ax];omega
   ·exact absurd rfl h
  ·exact absurd rfl h
 ·exact absurd rfl h
theorem yP {id2 i:Nat}{s:AV}{vrows:List (List AV)}{g:G}(h:xk id2 i s vrows g≠.fail) :
  ((s=.nils\/s=.esl\/∃id ep fz,s=.hsl id ep 0 0 none/\g.h.get id=.cells 1 [] ep false fz)/\i=0/\vrows.length*8<=140737488355328/\xk id2 i s vrows g=.upd (.hsl g.nx 0 0 vrows.length none) (g.new (.cells 1 vrows 0 true false))) \/
  ∃id ep rows,s=.hsl id ep 0 rows.length none/\g.h.get id=.cells 1 rows ep true false/\id≠id2/\i<=rows.length/\0<rows.length/\(rows.length+vrows.length)*8<=140737488355328 /\
   xk id2 i s vrows g=.upd (.hsl id (ep+1) 0 (rows.length+vrows.length) none) (g.put id (.cells 1 (rows.take i++(vrows++rows.drop i)) (ep+1) true false)):=by
 have hnew:qb i vrows g≠.fail->i=0/\vrows.length*8<=140737488355328/\qb i vrows g=.upd (.hsl g.nx 0 0 vrows.length none) (g.new (.cells 1 vrows 0 true false)):=by
  intro h;unfold qb at h ⊢;rw[aa] at h ⊢
  split at h
  ·rename_i hc;rw[if_pos hc];simp only[Bool.and_eq_true,ax,Nat.ble_eq] at hc;exact ⟨aE hc.1,hc.2,by rw[ax]⟩
  ·exact absurd rfl h
 unfold xk at h ⊢
 split at h
 ·exact .inl ⟨.inl rfl,hnew h⟩
 ·exact .inl ⟨.inr (.inl rfl),hnew h⟩
 ·rename_i id ep off len
  split at h
  ·rename_i ep' fz hg;rw[aa] at h
   split at h
   ·rename_i hc;have hc':=hc;simp only[Bool.and_eq_true] at hc;obtain ⟨⟨c1,c2⟩,c3⟩:=hc;have c1:=aE c1;have c2:=aE c2;have c3:=aE c3;subst c1;subst c2;subst c3;have:=hnew h;refine .inl ⟨.inr (.inr ⟨id,ep,fz,rfl,hg⟩),this.1,this.2.1,?_⟩;rw[aa,if_pos hc',this.2.2]
   ·exact absurd rfl h
  ·rename_i sz rows ep' hg;rw[aa] at h
   split at h
   ·rename_i hc;have hc':=hc;simp only[Bool.and_eq_true,ax] at hc;obtain ⟨⟨⟨⟨⟨⟨⟨c1,c2⟩,c3⟩,c4⟩,c5⟩,c6⟩,c7⟩,c8⟩:=hc;have c1:=aE c1;have c2:=aE c2;have c3:=aE c3;have c4:=aE c4;subst c1;subst c2;subst c3;subst c4;rw[Nat.ble_eq] at c6 c7 c8;refine .inr ⟨id,ep,rows,rfl,hg,λe=>?_,c6,c7,c8,?_⟩
    ·subst e;rw[notb_eq] at c5;simp at c5
    ·rw[aa,if_pos hc'];simp only[ax,bh,be]
   ·exact absurd rfl h
  ·exact absurd rfl h
 ·exact absurd rfl h
section
variable {C:Cfg}{A:Nat->Nat->Prop}{bd:Nat}{w w':World}{γ γ':Gm}{hg:Nat->AObj}{nx:Nat}{ρ:Ren}
theorem LQ {g:G}{id:Nat}{ob:AObj}(r:Rel C A bd w' γ' (upd hg id ob) nx)(s:Stp w γ w' γ'):Fin C A bd w γ hg nx g w' γ' (upd hg id ob) (g.put id ob) :=
 ⟨r.up (Nat.le_max_left _ _),s,[id],by simp,λk hk=>by simp at hk;subst hk;simp[G.put_h,H.get_put],λk hk=>by
  rw[cA];simpa using hk⟩
theorem LP {g:G}{ob:AObj}(r:Rel C A bd w' γ' (upd hg g.nx ob) (Nat.max nx (g.nx+1)))(s:Stp w γ w' γ'):Fin C A bd w γ hg nx g w' γ' (upd hg g.nx ob) (g.new ob) :=
 ⟨r.up (by simp),s,[g.nx],by simp,λk hk=>by simp at hk;subst hk;simp[G.new_h,H.get_put],λk hk=>by
  rw[cA];simpa using hk⟩
theorem Dq (hr:Rel C A bd w γ hg nx){id ep:Nat}{rows:List (List AV)}{lo fz:Bool}(hid:hg id=.cells 1 rows ep lo fz) :
  ∃(c:Array Value) (e:TypeId) (l:List Value),w.heap[(γ id).blk]?=some (.cells c e (0,0))/\(γ id).base+(rows.length+(γ id).slack)<=c.size/\l.length=rows.length/\(∀j,j<rows.length->l[j]?=c[(γ id).base+j]?) /\
   (∀v∈l,v.oneCell'=true)/\(∀(k:Nat) row,rows[k]?=some row->row.length=1) /\
   ∀(k j:Nat) row x,rows[k]?=some row->row[j]?=some x->j=0/\x.one=true/\∃v,l[k]?=some v/\RV w γ A bd x v:=by
 have hob:=hr.obj id;rw[hid] at hob;obtain ⟨k1,k2,k3,k4,k5,k6,c,e,k7,k8,k9,k10⟩:=hob;have hget:∀j,j<rows.length->((c.toList.drop (γ id).base).take rows.length)[j]?=c[(γ id).base+j]?:=λj hj=>by rw[List.getElem?_take_of_lt hj,List.getElem?_drop];simp
 refine ⟨c,e,(c.toList.drop (γ id).base).take rows.length,k7,by omega,by simp;omega,hget,λv hv=>?_,k9,λk j row x h1 h2=>?_⟩
 ·obtain ⟨k,hk⟩:=List.getElem?_of_mem hv;have hlt:k<rows.length:=by have:=(List.getElem?_eq_some_iff.1 hk).1;simp at this;omega
  rw[hget k hlt] at hk;have hrow:=List.getElem?_eq_getElem hlt;have hl1:=k9 k _ hrow;have hx:rows[k][0]?=some (rows[k][0]'(by omega)):=List.getElem?_eq_getElem _;obtain ⟨a,v',b1,b2⟩:=k10 k 0 _ _ hrow hx;rw[show (γ id).base+k*1+0=(γ id).base+k from by omega,hk] at b1;injection b1 with b1;subst b1;exact (E_ b2 a).1
 ·have hj:j=0:=by have h3:=k9 k _ h1;have:=(List.getElem?_eq_some_iff.1 h2).1;omega
  subst hj;obtain ⟨a,v',b1,b2⟩:=k10 k 0 _ _ h1 h2;refine ⟨rfl,a,v',?_,b2⟩;rw[hget k (List.getElem?_eq_some_iff.1 h1).1];rw[show (γ id).base+k*1+0=(γ id).base+k from by omega] at b1;exact b1
theorem tC {P:Program}{f:FuncId}{args:Array Value}{u:Value}(h:Calls P f args w (λx y=>x=.returned u/\y=w'))(cs:List Frame):Outs P .normal f args cs w u w':=by obtain ⟨e,w1,fr,⟨he,hw⟩,hc,hf,hl⟩:=h cs;subst he;subst hw;obtain ⟨m,d,k,fn,hfn,hres⟩:=hl;exact ⟨fr,hc,m,d,k,hf,fn,by rw[<-hf];exact hfn,hres⟩
theorem HC {P : Program} {f : FuncId} {fn : Func} (h : P.funcs[f]? = some fn) (hn : (fn.name == "runtime.NumGoroutine") = false) (hb : fn.body.isSome = true) : Enters P f := by
 intro args w;unfold callFunc;have hn : fn.name ≠ "runtime.NumGoroutine" := by simpa using hn
 cases hb':fn.body with
 | none=>rw[hb'] at hb;cases hb
 | some c=>simp[h,hn,hb']
theorem ER (L:Lays2.n21 C.P ρ)(hent:Enters C.P (ρ.f 21)):ExtOk C (ρ.f 21) jY:=by
 refine ⟨λd xs g hwf=>?_,λd xs g y hy=>?_,λA bd w γ hg nx g xs vs hr hwf hx hf hv hne cs=>?_⟩
 ·apply Small.mon _ hwf
  by_cases h:jY d xs g=.fail
  ·rw[h];trivial
  ·obtain ⟨s,i,id2,ep2,len2,lim2,vrows,lo,fz,e1,e2,e3,e4,e5⟩:=sB h;rw[e5] at h ⊢;rcases yP h with ⟨_,_,_,h1⟩ | ⟨id,ep,rows,_,h2,_,_,_,_,h1⟩
   ·rw[h1];exact .inr ⟨_,rfl⟩
   ·rw[h1];exact .inl ⟨_,_,rfl,by rw[h2];simp⟩
 ·have h:jY d xs g≠.fail:=by rw[hy];simp
  obtain ⟨s,i,id2,ep2,len2,lim2,vrows,lo,fz,e1,e2,e3,e4,e5⟩:=sB h;rw[e5] at h hy;rcases yP h with ⟨_,_,_,h1⟩ | ⟨id,ep,rows,_,h2,_,_,_,_,h1⟩<;>(rw[h1] at hy;cases hy)
 ·obtain ⟨s,i,id2,ep2,len2,lim2,vrows,lo,fz,e1,e2,e3,e4,e5⟩:=sB hne;subst e1;subst e3;rw[e5] at hne hf ⊢;obtain ⟨v1,v2,v3,rfl⟩:∃v1 v2 v3,vs=[v1,v2,v3]:=by
   have:=hv.1
   match vs,this with
   | [a,b,c],_=>exact ⟨a,b,c,rfl⟩
  have r1:RV w γ A bd s v1:=hv.2 0 _ _ rfl rfl;have r2:RV w γ A bd (.int .i64 (Int.ofNat i)) v2:=hv.2 1 _ _ rfl rfl;have r3:RV w γ A bd (.hsl id2 ep2 0 vrows.length lim2) v3:=hv.2 2 _ _ rfl rfl;cases r2;have hid2:hg id2=.cells 1 vrows ep2 lo fz:=by rw[hx id2 (by simp[List.flatMap_cons,aG,aI]) (by rw[e2];simp),e2]
  obtain ⟨vc,hv3,hvc,_⟩:=t_ hr r3 hid2;subst hv3;obtain ⟨cv,ev,lv,p1,p2,p3,p4,p5,p6,p7⟩:=Dq hr hid2;have hz:(γ id2).base+0*1=(γ id2).base:=by omega
  rw[hz] at r3 ⊢;rcases yP hne with ⟨hs,hi,hbig,h1⟩ | ⟨id,ep,rows,hs,h2,hne2,hin,hpos,hbig,h1⟩
  ·subst hi;rw[h1] at hf ⊢;have hfree:(γ g.nx).kind=0:=hf g.nx (Nat.le_refl _) (by simp[gOf]);have hbase:∃base,v1=.slice base 0 0:=by
    rcases hs with rfl | rfl | ⟨id,ep,fz2,rfl,hgid⟩
    ·cases r1;exact ⟨_,rfl⟩
    ·cases r1;exact ⟨_,rfl⟩
    ·have hid:hg id=.cells 1 [] ep false fz2:=by rw[hx id (by simp[List.flatMap_cons,aG,aI]) (by rw[hgid];simp),hgid]
     obtain ⟨c,hv1,hnc,hco⟩:=t_ hr r1 hid;have hob:=hr.obj id;rw[hid] at hob;obtain ⟨-,-,-,k4,k5,-⟩:=hob;have hk:=k5.1 rfl;have hc0:c=0:=by simp only[iM] at hco;simp at k4;omega
     subst hc0;exact ⟨_,hv1⟩
   obtain ⟨base,hb⟩:=hbase;subst hb;obtain ⟨cap,rest,q1,q2,q3,q4⟩:=ET L (w:=w) (base:=base) (vb:=(γ id2).blk) (voff:=(γ id2).base) (m:=vrows.length) (vc:=vc) (vs:=lv) e4 hbig p3
    (λj v hj=>by rw[oI p1,<-p4 j (by rw[<-p3];exact (List.getElem?_eq_some_iff.1 hj).1)];exact hj) p5
   have hrr:RowsRel w γ A bd 1 vrows (lv.toArray++rest):=by refine ⟨by simp[p3],p6,λk j row x a b=>?_⟩;obtain ⟨j0,o1,v,l1,l2⟩:=p7 k j row x a b;subst j0;refine ⟨o1,v,?_,l2⟩;have hk:=(List.getElem?_eq_some_iff.1 a).1;rw[Array.getElem?_append_left (by simp;omega)];simpa using l1
   obtain ⟨γ',s1,s2,s3⟩:=wi (e:=ρ.t 3) hr hfree hrr vrows.length cap (by simp[q3];omega) q1 rfl q2;exact ⟨_,_,γ',_,LP s1 s2,s3,.inr ⟨hent,tC q4 cs⟩⟩
  ·subst hs;rw[h1] at hf ⊢;have hid:hg id=.cells 1 rows ep true false:=by rw[hx id (by simp[List.flatMap_cons,aG,aI]) (by rw[h2];simp),h2]
   obtain ⟨c,hv1,hnc,hco⟩:=t_ hr r1 hid;subst hv1;have hob:=hr.obj id;rw[hid] at hob;obtain ⟨k1,k2,k3,k4,k5,k6,_⟩:=hob;have hob2:=hr.obj id2;rw[hid2] at hob2;obtain ⟨m1,_⟩:=hob2;have hblk:(γ id2).blk≠(γ id).blk:=λe=>hne2 (hr.inj id id2 (by rw[k1];decide) (by rw[m1];decide) e.symm);obtain ⟨cc,ec,lc,c1,c2,c3,c4,c5,c6,c7⟩:=Dq hr hid;have hcap:c=rows.length+(γ id).slack:=by simp only[iM] at hco;omega
   have hins:=ES L (w:=w) (b:=(γ id).blk) (off:=(γ id).base) (n:=rows.length) (c:=c) (i:=i) (vb:=(γ id2).blk) (voff:=(γ id2).base) (m:=vrows.length) (vc:=vc)
    c1 p1 hblk hin e4 hnc (by have:=k5.2 rfl;omega) hbig (by omega) (by omega) (by omega) c3 p3 c4 p4 c5 p5
   obtain ⟨b',o',cap',c',e',w',n1,n2,n3,n4,n5,n6,n7,n8,n9⟩:=hins
   let gh:Gh:=⟨1,ep+1,1,rows.length+vrows.length,b',o',cap' - (rows.length+vrows.length),true⟩
   have hrl:(rows.take i++(vrows++rows.drop i)).length=rows.length+vrows.length:=by simp;omega
   have hcell:∀(k:Nat) row,(rows.take i++(vrows++rows.drop i))[k]?=some row->row.length=1/\∀(j:Nat) x,row[j]?=some x->x.one=true/\∃v,c'[o'+k*1+j]?=some v/\RV w γ A bd x v:=by
    intro k row hk;have hkl:k<rows.length+vrows.length:=by rw[<-hrl];exact (List.getElem?_eq_some_iff.1 hk).1
    have hck:=n9 k hkl;rw[gR c3 p3 hin] at hck;rw[gR (n:=rows.length) (m:=vrows.length) rfl rfl hin] at hk
    split at hk
    ·rename_i h1;rw[if_pos h1] at hck;refine ⟨c6 _ _ hk,λj x hj=>?_⟩;obtain ⟨j0,o1,v,l1,l2⟩:=c7 _ j row x hk hj;subst j0;exact ⟨o1,v,by rw[show o'+k*1+0=o'+k from by omega,hck];exact l1,l2⟩
    ·rename_i h1;rw[if_neg h1] at hck
     split at hk
     ·rename_i h2;rw[if_pos h2] at hck;refine ⟨p6 _ _ hk,λj x hj=>?_⟩;obtain ⟨j0,o1,v,l1,l2⟩:=p7 _ j row x hk hj;subst j0;exact ⟨o1,v,by rw[show o'+k*1+0=o'+k from by omega,hck];exact l1,l2⟩
     ·rename_i h2;rw[if_neg h2] at hck;refine ⟨c6 _ _ hk,λj x hj=>?_⟩;obtain ⟨j0,o1,v,l1,l2⟩:=c7 _ j row x hk hj;subst j0;exact ⟨o1,v,by rw[show o'+k*1+0=o'+k from by omega,hck];exact l1,l2⟩
   obtain ⟨s1,s2⟩:=hr.moved hid (w1:=w') (gh:=gh) (rows':=rows.take i++(vrows++rows.drop i)) rfl rfl rfl (by rw[hrl]) rfl n4
    (by rw[hrl];simp only[gh];omega) n5 n6 (c:=c') (e:=e') n7 (by rw[hrl];simp only[gh];omega)
    (λk row hk=>(hcell k row hk).1) (λk j row x hk hj=>(hcell k row hk).2 j x hj)
   have hz':(γ id).base+0*1=(γ id).base:=by omega
   rw[hz'];refine ⟨.slice (some (adr b' o')) (rows.length+vrows.length) cap',w',_,_,LQ s1 s2,?_,.inr ⟨hent,tC n1 cs⟩⟩;refine .hsl _ id (ep+1) 0 _ none _ _ cap' (by simp[gh]) (by simp[gh]) n2 (λ_=>⟨by simp[gh],by simp[gh],?_⟩);simp only[iM,upd_same,gh];omega
end
end Hx
end
section
namespace Go.Proofs.YteaikmdilmfbeaaGreat.Gen
open Hx
noncomputable def cfg0:Cfg:={ P:=Tryz.prog,iso:=λf=>Nat.testBit 1474260566420002459681004656182214504914697923220056571903 f,ext:=λ_=>none,glob:=λ_=>none }
theorem cfg0Ok:CfgOk cfg0:=CfgOk.plain (by kernel_rfl) (by kernel_rfl)
theorem insOk:ExtOk cfg0 160 jY:=ER (C:=cfg0) (ρ:=Tryz.lays21_ren) Tryz.lays21 (Hx.HC Tryz.func160 (by kernel_rfl) (by kernel_rfl))
noncomputable def cfg:Cfg:=cfg0.add 160 jY
theorem cfgOk:CfgOk cfg:=cfg0Ok.add insOk
noncomputable def cfgP:Cfg:=cfg.add 27 (OB cfg 1000 1000 27)
theorem cfgPOk:CfgOk cfgP:=cfgOk.add (LY cfgOk)
theorem wakes_run:am (sem cfgP 20000) 1 G.empty 12 []=.val (.bool true):=by kernel_rfl
noncomputable def cfg1:Cfg:=cfg.add 12 (yg (.bool true))
theorem cfg1Ok:CfgOk cfg1:=cfgOk.add (ExtOk.cfg (C:=cfgP) (C':=cfg) rfl rfl (Hw cfgPOk wakes_run))
end Go.Proofs.YteaikmdilmfbeaaGreat.Gen
end
