/- A part of the proof: an interpreter over abstract values, shown right against the model, and what the functions of the chapter compute on it. -/
import Derived.Shelf.Lays2
import Derived.Test.YtfpjoiojhegfaaaDoorRows
import Derived.Shelf.Spec.SlicesInsertGrow
import Derived.KernelRfl
import Derived.Test.YtfpjoiojhegfaaaDoorHx7
set_option linter.unusedVariables false
set_option linter.unusedSimpArgs false
set_option linter.unnecessarySimpa false
section
namespace Go.Proofs
open Go.Shelf
def Tryd.lays21_ren:Go.Shelf.Ren:=⟨fun | 21=>102 | 27=>106 | 28=>107 | 35=>109 | 39=>110 | n=>n,fun | 22=>71 | 3=>3 | 4=>4 | 0=>0 | n=>n,fun | n=>n⟩
theorem Tryd.lays21:Go.Proofs.Lays2.n21 Tryd.prog Tryd.lays21_ren:={
 mixed:=by kernel_rfl
 f21:=Tryd.func102.trans (congrArg some (by kernel_rfl))
 f27:=Tryd.func106.trans (congrArg some (by kernel_rfl))
 f28:=Tryd.func107.trans (congrArg some (by kernel_rfl))
 f35:=Tryd.func109.trans (congrArg some (by kernel_rfl))
 f39:=Tryd.func110.trans (congrArg some (by kernel_rfl))
 t0:=Tryd.underlying0
 a0:=Tryd.isAgg0
 z0:=Tryd.sizeOf0
 v0:=Tryd.zeroValue0
 t3:=Tryd.underlying3
 a3:=Tryd.isAgg3
 z3:=Tryd.sizeOf3
 v3:=Tryd.zeroValue3
 t4:=Tryd.underlying4
 a4:=Tryd.isAgg4
 z4:=Tryd.sizeOf4
 v4:=Tryd.zeroValue4
 t22:=Tryd.underlying71
 a22:=Tryd.isAgg71
 z22:=Tryd.sizeOf71
 v22:=Tryd.zeroValue71
 i3:=by kernel_rfl }
end Go.Proofs
end
section
namespace Hx
open Go Go.Proofs Go.Shelf
theorem eX {w:World}{o:Obj}:(Go.World.alloc w o).heap=w.heap.push o:=rfl
theorem ef {w:World}:(Go.World.drew w).heap=w.heap:=rfl
theorem eh {b:Nat}{e:TypeId}{f:Nat×Nat}:∀(vs:List Value) (o:Nat) (w:World) (c:Array Value),w.heap[b]?=some (.cells c e f) ->
  Go.World.setCells w b o vs=World.setBlk w b (.cells (aL c o vs) e f):=by
 intro vs
 induction vs with
 | nil =>
  intro o w c h
  have hb:b<w.heap.size:=by
   rcases Nat.lt_or_ge b w.heap.size with hl | hl
   ·exact hl
   ·rw[Array.getElem?_eq_none hl] at h;cases h
  have hx:w.heap[b]=.cells c e f:=by simpa [Array.getElem?_eq_getElem hb] using h
  show w=_
  simp only[World.setBlk,aL]
  have:w.heap.setIfInBounds b (.cells c e f)=w.heap:=by
   apply Array.ext_getElem?
   intro k
   rw[Array.getElem?_setIfInBounds]
   by_cases hk:b=k
   ·subst hk;simp[hb,hx]
   ·rw[if_neg hk]
  rw[this]
 | cons v vs ih =>
  intro o w c h
  have hb:b<w.heap.size:=by
   rcases Nat.lt_or_ge b w.heap.size with hl | hl
   ·exact hl
   ·rw[Array.getElem?_eq_none hl] at h;cases h
  show Go.World.setCells (w.setCell (adr b o) v) b (o+1) vs=_
  rw[nq h,ih (o+1) _ (c.setIfInBounds o v) (by rw[aG];simp[hb]),g8]
  rfl
section
variable {P:Program}{ρ:Ren}
theorem dH {α:Type}{cs vs:List α}{i n m k:Nat}(hcl:cs.length=n)(hvl:vs.length=m)(hi:i<=n) :
  (cs.take i++(vs++cs.drop i))[k]?=if k<i then cs[k]? else if k<i+m then vs[k - i]? else cs[k - m]?:=by
 have hti:(cs.take i).length=i:=by rw[List.length_take];omega
 by_cases h1:k<i
 ·rw[if_pos h1,List.getElem?_append_left (by omega),List.getElem?_take_of_lt h1]
 ·rw[if_neg h1,List.getElem?_append_right (by omega),hti]
  by_cases h2:k<i+m
  ·rw[if_pos h2,List.getElem?_append_left (by omega)]
  ·rw[if_neg h2,List.getElem?_append_right (by omega),List.getElem?_drop,hvl]
   congr 1;omega
def Ins (P:Program)(f:FuncId)(args:Array Value)(w:World)(b n m:Nat)(rowV:List Value):Prop :=
 ∃b' o' cap' c' e' w',Calls P f args w (fun x y=>x=.returned (.slice (some (adr b' o')) (n+m) cap')/\y=w')/\n+m<=cap'/\cap'<=9223372036854775807 /\
  (w'.os=w.os/\w'.tape=w.tape/\w'.output=w.output/\w.heap.size<=w'.heap.size)/\(b'=b\/(b'=w.heap.size/\w.heap.size<w'.heap.size)) /\
  (∀k,k<w.heap.size->k≠b->w'.heap[k]?=w.heap[k]?)/\w'.heap[b']?=some (.cells c' e' (0,0))/\o'+cap'<=c'.size /\
  ∀k,k<n+m->c'[o'+k]?=rowV[k]?
theorem tc (L:Lays2.n21 P ρ){w:World}{b off n c i vb voff m vc:Nat}{cc cv:Array Value}{e e2:TypeId}{cs vs:List Value}
  (hb:w.heap[b]?=some (.cells cc e (0,0))) (hv:w.heap[vb]?=some (.cells cv e2 (0,0))) (hne:vb≠b) (hin:i<=n) (hm:0<m) (hnc:n<=c)
  (hc63:c<=9223372036854775807) (hbig:(n+m)*8<=140737488355328) (hcc:off+c<=cc.size) (hcv:voff+m<=cv.size) (hn0:0<c)
  (hcl:cs.length=n) (hvl:vs.length=m) (hcs:∀j,j<n->cs[j]?=cc[off+j]?) (hvs:∀j,j<m->vs[j]?=cv[voff+j]?)
  (h1c:∀v∈cs,v.oneCell'=true) (h1v:∀v∈vs,v.oneCell'=true) :
  Ins P (ρ.f 21) #[.slice (some (adr b off)) n c,.int .i64 i,.slice (some (adr vb voff)) m vc] w b n m (cs.take i++(vs++cs.drop i)):=by
 have hbw:b<w.heap.size:=by
  rcases Nat.lt_or_ge b w.heap.size with hl | hl
  ·exact hl
  ·rw[Array.getElem?_eq_none hl] at hb;cases hb
 have hcs':∀j v,cs[j]?=some v->w.cell? (adr b (off+j))=some v:=fun j v hj=>by
  rw[hM hb,<-hcs j (by rw[<-hcl];exact (List.getElem?_eq_some_iff.1 hj).1)];exact hj
 have hvs':∀j v,vs[j]?=some v->w.cell? (adr vb (voff+j))=some v:=fun j v hj=>by
  rw[hM hv,<-hvs j (by rw[<-hvl];exact (List.getElem?_eq_some_iff.1 hj).1)];exact hj
 have hsp:∀j,j<c->(w.cell? (adr b (off+j))).isSome=true:=fun j hj=>by
  rw[hM hb,Array.getElem?_eq_getElem (by omega)];rfl
 have hfz:∀j,w.frozen? (adr b j)=false:=fun j=>by simp[World.frozen?,adr,hb]
 have hfv:∀j,w.frozen? (adr vb j)=false:=fun j=>by simp[World.frozen?,adr,hv]
 have hdl:(cs.drop i).length=n - i:=by rw[List.length_drop,hcl]
 have htl:(cs.take i).length=i:=by rw[List.length_take];omega
 by_cases hroom:n+m<=c
 ·by_cases hlt:i<n
  ·
   have h:=Any2.slices_Insert_int_shift L b off n c i vb voff m vc cs vs w hlt hm hroom hc63 hne hcl hvl hcs' (fun j hj=>hsp j (by omega)) (fun j _=>hfz _) hvs' h1c h1v
    e2 e cv.size cc.size (by simp[World.shape?,hv]) (by simp[World.shape?,hb]) (by omega) (hfv _) (hfv _)
   have hb':w.drew.heap[b]?=some (.cells cc e (0,0)):=hb
   rw[eh (cs.drop i) (off+(i+m)) w.drew cc hb'] at h
   rw[eh vs (off+i) (World.setBlk w.drew b _) _ (by rw[aG,if_pos ⟨rfl,hbw⟩]),g8] at h
   refine ⟨b,off,c,_,e,_,h,hroom,hc63,⟨rfl,rfl,rfl,by simp[ef]⟩,.inl rfl,fun k _ hk=>?_,by rw[aG,if_pos ⟨rfl,hbw⟩],by simp[bf];omega,fun k hk=>?_⟩
   ·rw[aG,if_neg (fun h=>hk h.1)];rfl
   ·rw[dH hcl hvl hin,bk _ _ _ _ (by rw[bf];omega),bk _ _ _ _ (by omega),hdl,hvl]
    by_cases h1:k<i
    ·rw[if_neg (by omega),if_neg (by omega),if_pos h1,hcs k (by omega)]
    ·rw[if_neg h1]
     by_cases h2:k<i+m
     ·rw[if_pos (by omega),if_pos h2];congr 1;omega
     ·rw[if_neg (by omega),if_pos (by omega),if_neg h2,List.getElem?_drop];congr 1;omega
  ·
   have hi:i=n:=by omega
   subst hi
   have h:=Any2.slices_Insert_int_end_room L b off i c vb voff m vc vs w hm hroom hc63 hvl (fun j hj=>by rw[Nat.add_assoc];exact hsp _ (by omega)) (fun j _=>hfz _) hvs' h1v
   rw[eh vs (off+i) w cc hb] at h
   refine ⟨b,off,c,_,e,_,h,hroom,hc63,⟨rfl,rfl,rfl,by simp⟩,.inl rfl,fun k _ hk=>?_,by rw[aG,if_pos ⟨rfl,hbw⟩],by simp[bf];omega,fun k hk=>?_⟩
   ·rw[aG,if_neg (fun h=>hk h.1)]
   ·rw[dH hcl hvl hin,bk _ _ _ _ (by omega),hvl]
    by_cases h1:k<i
    ·rw[if_neg (by omega),if_pos h1,hcs k (by omega)]
    ·rw[if_pos (by omega),if_neg h1,if_pos (by omega)];congr 1;omega
 ·have hgc:=grownCap_ge w (n+m) c (ρ.t 3)
  have hgm:grownCap w (n+m) c (ρ.t 3)<=9223372036854775807:=by
   have:=grownCap_le_maxLen w (n+m) c (ρ.t 3) (by unfold maxLen;omega)
   unfold maxLen at this;omega
  by_cases hlt:i<n
  ·
   have h:=Any2.slices_Insert_int_grow L b off n c i vb voff m vc cs vs w hlt hm hnc (by omega) hbig hcl hvl hcs' hvs' h1c h1v
   obtain ⟨G,hG⟩:∃G,G=grownCap w (n+m) c (ρ.t 3):=⟨_,rfl⟩
   rw[<-hG] at h hgc hgm
   obtain ⟨ROW,hROW⟩:∃ROW:Array Value,ROW=(cs.take i).toArray++Builtin.zeroCells (Value.int .i64 0).cells (n+m - i)++Builtin.zeroCells (Value.int .i64 0).cells (G - (n+m)):=⟨_,rfl⟩
   rw[<-hROW] at h
   have hsz:ROW.size=G:=by rw[hROW];simp[Builtin.zeroCells,Value.cells];omega
   have hpre:∀k,k<i->ROW[k]?=cs[k]?:=fun k hk=>by
    rw[hROW,Array.append_assoc,Array.getElem?_append_left (by simp;omega)]
    simp[List.getElem?_take,hk]
   have h0:(w.alloc (.cells ROW (ρ.t 3))).drew.heap[w.heap.size]?=some (.cells ROW (ρ.t 3) (0,0)):=by simp[eX,ef]
   rw[eh vs i _ ROW h0] at h
   rw[eh (cs.drop i) (i+m) _ (aL ROW i vs) (e:=ρ.t 3) (f:=(0,0)) (by
    show (World.setBlk _ _ _).heap[_]?=_
    rw[aG,if_pos ⟨rfl,by simp[eX,ef]⟩])] at h
   refine ⟨w.heap.size,0,G,aL (aL ROW i vs) (i+m) (cs.drop i),ρ.t 3,_,h,hgc,hgm,⟨rfl,rfl,rfl,by simp[eX,ef]⟩,.inr ⟨rfl,by simp[eX,ef]⟩,fun k hk _=>?_,?_,by simp[bf,hsz],fun k hk=>?_⟩
   ·rw[aG,if_neg (by omega)]
    show (World.setBlk _ _ _).heap[_]?=_
    rw[aG,if_neg (by omega)]
    simp[eX,ef,Array.getElem?_push,show k≠w.heap.size from by omega]
   ·rw[aG,if_pos ⟨rfl,by simp[eX,ef]⟩]
   ·rw[dH hcl hvl hin,Nat.zero_add,bk _ _ _ _ (by rw[bf];omega),bk _ _ _ _ (by omega),hdl,hvl]
    by_cases h1:k<i
    ·rw[if_neg (by omega),if_neg (by omega),if_pos h1,hpre k h1]
    ·rw[if_neg h1]
     by_cases h2:k<i+m
     ·rw[if_neg (by omega),if_pos (by omega),if_pos h2]
     ·rw[if_pos (by omega),if_neg h2,List.getElem?_drop];congr 1;omega
  ·have hi:i=n:=by omega
   subst hi
   have h:=Any2.slices_Insert_int_end_grow L (some (adr b off)) i c vb voff m vc cs vs w hm hnc (by omega) hbig hcl hvl (fun h=>by cases h)
    (fun a ha j v hj=>by injection ha with ha;subst ha;rw[dh];exact hcs' j v hj) hvs' h1v
   obtain ⟨G,hG⟩:∃G,G=grownCap w (i+m) c (ρ.t 3):=⟨_,rfl⟩
   rw[<-hG] at h hgc hgm
   refine ⟨w.heap.size,0,G,_,ρ.t 3,_,h,hgc,hgm,⟨rfl,rfl,rfl,by simp[eX,ef]⟩,.inr ⟨rfl,by simp[eX,ef]⟩,fun k hk _=>?_,by simp[eX,ef];rfl,?_,fun k hk=>?_⟩
   ·simp[eX,ef,Array.getElem?_push,show k≠w.heap.size from by omega]
   ·simp[Builtin.zeroCells,Value.cells];omega
   ·rw[Nat.zero_add,Array.getElem?_append_left (by simp;omega)]
    have:cs.take i++(vs++cs.drop i)=cs++vs:=by rw[<-hcl,List.take_length,List.drop_length,List.append_nil]
    rw[this];simp
theorem tW (L:Lays2.n21 P ρ){w:World}{base:Option Addr}{vb voff m vc:Nat}{vs:List Value}(hm:0<m)(hbig:m*8<=140737488355328)(hvl:vs.length=m)
  (hvs:∀j v,vs[j]?=some v->w.cell? (adr vb (voff+j))=some v) (h1v:∀v∈vs,v.oneCell'=true) :
  ∃cap rest,m<=cap/\cap<=9223372036854775807/\rest.size=cap - m /\
  Calls P (ρ.f 21) #[.slice base 0 0,.int .i64 0,.slice (some (adr vb voff)) m vc] w (fun x y=>x=.returned (.slice (some (adr w.heap.size 0)) m cap)/\y=World.add (World.drewn w) (.cells (vs.toArray++rest) (ρ.t 3) (0,0))):=by
 have hgc:=grownCap_ge w (0+m) 0 (ρ.t 3)
 have hgm:grownCap w (0+m) 0 (ρ.t 3)<=9223372036854775807:=by
  have:=grownCap_le_maxLen w (0+m) 0 (ρ.t 3) (by unfold maxLen;omega)
  unfold maxLen at this;omega
 have h:=Any2.slices_Insert_int_end_grow L base 0 0 vb voff m vc [] vs w hm (Nat.le_refl _) (by omega) (by omega) rfl hvl (fun _=>rfl)
  (fun a ha j v hj=>by simp at hj) hvs h1v
 obtain ⟨G,hG⟩:∃G,G=grownCap w (0+m) 0 (ρ.t 3):=⟨_,rfl⟩
 rw[<-hG] at h hgc hgm
 rw[Nat.zero_add] at h hgc
 exact ⟨G,Builtin.zeroCells (Value.int .i64 0).cells (G - m),hgc,hgm,by simp[Builtin.zeroCells,Value.cells],h⟩
end
noncomputable def md (i:Nat)(rows:List (List AV))(g:G):OR :=
 af (Nat.beq i 0&&Nat.ble (aX rows*8) 140737488355328) (.upd (.hsl g.nx 0 0 (aX rows) none) (g.new (.cells 1 rows 0 true false))) .fail
noncomputable def we (id2 i:Nat)(s:AV)(vrows:List (List AV))(g:G):OR :=
 match s with
 | .nils=>md i vrows g
 | .esl=>md i vrows g
 | .hsl id ep off len none =>
  match g.get id with
  | .cells 1 [] ep' false _=>af ((Nat.beq ep ep'&&Nat.beq off 0)&&Nat.beq len 0) (md i vrows g) .fail
  | .cells sz rows ep' true false =>
   af (((((((Nat.beq sz 1&&Nat.beq ep ep')&&Nat.beq off 0)&&Nat.beq len (aX rows))&&ff (Nat.beq id id2))&&Nat.ble i len)&&Nat.ble 1 len)&&Nat.ble ((len+aX vrows)*8) 140737488355328)
    (.upd (.hsl id (ep+1) 0 (len+aX vrows) none) (g.put id (.cells 1 (fD i rows++(vrows++fc i rows)) (ep+1) true false))) .fail
  | _=>.fail
 | _=>.fail
noncomputable def gP:Nat->List AV->G->OR:=fun _ xs g =>
 match xs with
 | [s,.int .i64 (.ofNat i),.hsl id2 ep2 off2 len2 _] =>
  match g.get id2 with
  | .cells sz2 vrows ep2' _ _ =>
   af ((((Nat.beq sz2 1&&Nat.beq ep2 ep2')&&Nat.beq off2 0)&&Nat.beq len2 (aX vrows))&&Nat.ble 1 len2) (we id2 i s vrows g) .fail
  | _=>.fail
 | _=>.fail
theorem ji {d:Nat}{xs:List AV}{g:G}(h:gP d xs g≠.fail):∃s i id2 ep2 len2 lim2 vrows lo fz,xs=[s,.int .i64 (Int.ofNat i),.hsl id2 ep2 0 len2 lim2] /\
  g.h.get id2=.cells 1 vrows ep2 lo fz/\len2=vrows.length/\0<vrows.length/\gP d xs g=we id2 i s vrows g:=by
 unfold gP at h ⊢
 split at h
 ·split at h
  ·rename_i hg
   rw[aa] at h ⊢
   split at h
   ·rename_i hc
    simp only[Bool.and_eq_true,ap] at hc
    obtain ⟨⟨⟨⟨c1,c2⟩,c3⟩,c4⟩,c5⟩:=hc
    have c1:=aq c1;have c2:=aq c2;have c3:=aq c3;have c4:=aq c4
    subst c1;subst c2;subst c3;subst c4
    rw[Nat.ble_eq] at c5
    refine ⟨_,_,_,_,_,_,_,_,_,rfl,hg,rfl,c5,?_⟩
    rw[if_pos]
    simp[ap];omega
   ·exact absurd rfl h
  ·exact absurd rfl h
 ·exact absurd rfl h
theorem nj {id2 i:Nat}{s:AV}{vrows:List (List AV)}{g:G}(h:we id2 i s vrows g≠.fail) :
  ((s=.nils\/s=.esl\/∃id ep fz,s=.hsl id ep 0 0 none/\g.h.get id=.cells 1 [] ep false fz)/\i=0/\vrows.length*8<=140737488355328/\we id2 i s vrows g=.upd (.hsl g.nx 0 0 vrows.length none) (g.new (.cells 1 vrows 0 true false))) \/
  ∃id ep rows,s=.hsl id ep 0 rows.length none/\g.h.get id=.cells 1 rows ep true false/\id≠id2/\i<=rows.length/\0<rows.length/\(rows.length+vrows.length)*8<=140737488355328 /\
   we id2 i s vrows g=.upd (.hsl id (ep+1) 0 (rows.length+vrows.length) none) (g.put id (.cells 1 (rows.take i++(vrows++rows.drop i)) (ep+1) true false)):=by
 have hnew:md i vrows g≠.fail->i=0/\vrows.length*8<=140737488355328/\md i vrows g=.upd (.hsl g.nx 0 0 vrows.length none) (g.new (.cells 1 vrows 0 true false)):=by
  intro h
  unfold md at h ⊢
  rw[aa] at h ⊢
  split at h
  ·rename_i hc
   rw[if_pos hc]
   simp only[Bool.and_eq_true,ap,Nat.ble_eq] at hc
   exact ⟨aq hc.1,hc.2,by rw[ap]⟩
  ·exact absurd rfl h
 unfold we at h ⊢
 split at h
 ·exact .inl ⟨.inl rfl,hnew h⟩
 ·exact .inl ⟨.inr (.inl rfl),hnew h⟩
 ·rename_i id ep off len
  split at h
  ·rename_i ep' fz hg
   rw[aa] at h
   split at h
   ·rename_i hc
    have hc':=hc
    simp only[Bool.and_eq_true] at hc
    obtain ⟨⟨c1,c2⟩,c3⟩:=hc
    have c1:=aq c1;have c2:=aq c2;have c3:=aq c3
    subst c1;subst c2;subst c3
    have:=hnew h
    refine .inl ⟨.inr (.inr ⟨id,ep,fz,rfl,hg⟩),this.1,this.2.1,?_⟩
    rw[aa,if_pos hc',this.2.2]
   ·exact absurd rfl h
  ·rename_i sz rows ep' hg
   rw[aa] at h
   split at h
   ·rename_i hc
    have hc':=hc
    simp only[Bool.and_eq_true,ap] at hc
    obtain ⟨⟨⟨⟨⟨⟨⟨c1,c2⟩,c3⟩,c4⟩,c5⟩,c6⟩,c7⟩,c8⟩:=hc
    have c1:=aq c1;have c2:=aq c2;have c3:=aq c3;have c4:=aq c4
    subst c1;subst c2;subst c3;subst c4
    rw[Nat.ble_eq] at c6 c7 c8
    refine .inr ⟨id,ep,rows,rfl,hg,fun e=>?_,c6,c7,c8,?_⟩
    ·subst e;rw[notb_eq] at c5;simp at c5
    ·rw[aa,if_pos hc']
     simp only[ap,aY,aW]
   ·exact absurd rfl h
  ·exact absurd rfl h
 ·exact absurd rfl h
section
variable {C:Cfg}{A:Nat->Nat->Prop}{bd:Nat}{w w':World}{γ γ':Gm}{hg:Nat->AObj}{nx:Nat}{ρ:Ren}
theorem z7 {g:G}{id:Nat}{ob:AObj}(r:Rel C A bd w' γ' (upd hg id ob) nx)(s:Stp w γ w' γ'):Fin C A bd w γ hg nx g w' γ' (upd hg id ob) (g.put id ob) :=
 ⟨r.up (Nat.le_max_left _ _),s,[id],by simp,fun k hk=>by simp at hk;subst hk;simp[G.put_h,H.get_put],fun k hk=>by
  rw[br];simpa using hk⟩
theorem AY {g:G}{ob:AObj}(r:Rel C A bd w' γ' (upd hg g.nx ob) (Nat.max nx (g.nx+1)))(s:Stp w γ w' γ'):Fin C A bd w γ hg nx g w' γ' (upd hg g.nx ob) (g.new ob) :=
 ⟨r.up (by simp),s,[g.nx],by simp,fun k hk=>by simp at hk;subst hk;simp[G.new_h,H.get_put],fun k hk=>by
  rw[br];simpa using hk⟩
theorem rI (hr:Rel C A bd w γ hg nx){id ep:Nat}{rows:List (List AV)}{lo fz:Bool}(hid:hg id=.cells 1 rows ep lo fz) :
  ∃(c:Array Value) (e:TypeId) (l:List Value),w.heap[(γ id).blk]?=some (.cells c e (0,0))/\(γ id).base+(rows.length+(γ id).slack)<=c.size/\l.length=rows.length/\(∀j,j<rows.length->l[j]?=c[(γ id).base+j]?) /\
   (∀v∈l,v.oneCell'=true)/\(∀(k:Nat) row,rows[k]?=some row->row.length=1) /\
   ∀(k j:Nat) row x,rows[k]?=some row->row[j]?=some x->j=0/\x.one=true/\∃v,l[k]?=some v/\RV w γ A bd x v:=by
 have hob:=hr.obj id
 rw[hid] at hob
 obtain ⟨k1,k2,k3,k4,k5,k6,c,e,k7,k8,k9,k10⟩:=hob
 have hget:∀j,j<rows.length->((c.toList.drop (γ id).base).take rows.length)[j]?=c[(γ id).base+j]?:=fun j hj=>by
  rw[List.getElem?_take_of_lt hj,List.getElem?_drop];simp
 refine ⟨c,e,(c.toList.drop (γ id).base).take rows.length,k7,by omega,by simp;omega,hget,fun v hv=>?_,k9,fun k j row x h1 h2=>?_⟩
 ·obtain ⟨k,hk⟩:=List.getElem?_of_mem hv
  have hlt:k<rows.length:=by
   have:=(List.getElem?_eq_some_iff.1 hk).1
   simp at this;omega
  rw[hget k hlt] at hk
  have hrow:=List.getElem?_eq_getElem hlt
  have hl1:=k9 k _ hrow
  have hx:rows[k][0]?=some (rows[k][0]'(by omega)):=List.getElem?_eq_getElem _
  obtain ⟨a,v',b1,b2⟩:=k10 k 0 _ _ hrow hx
  rw[show (γ id).base+k*1+0=(γ id).base+k from by omega,hk] at b1
  injection b1 with b1;subst b1
  exact (tP b2 a).1
 ·have hj:j=0:=by
   have h3:=k9 k _ h1
   have:=(List.getElem?_eq_some_iff.1 h2).1
   omega
  subst hj
  obtain ⟨a,v',b1,b2⟩:=k10 k 0 _ _ h1 h2
  refine ⟨rfl,a,v',?_,b2⟩
  rw[hget k (List.getElem?_eq_some_iff.1 h1).1]
  rw[show (γ id).base+k*1+0=(γ id).base+k from by omega] at b1
  exact b1
theorem jY {P:Program}{f:FuncId}{args:Array Value}{u:Value}(h:Calls P f args w (fun x y=>x=.returned u/\y=w'))(cs:List Frame):Outs P .normal f args cs w u w':=by
 obtain ⟨e,w1,fr,⟨he,hw⟩,hc,hf,hl⟩:=h cs
 subst he;subst hw
 obtain ⟨m,d,k,fn,hfn,hres⟩:=hl
 exact ⟨fr,hc,m,d,k,hf,fn,by rw[<-hf];exact hfn,hres⟩
theorem wj {P : Program} {f : FuncId} {fn : Func} (h : P.funcs[f]? = some fn) (hn : (fn.name == "runtime.NumGoroutine") = false) (hb : fn.body.isSome = true) : Enters P f := by
 intro args w
 unfold callFunc
 have hn : fn.name ≠ "runtime.NumGoroutine" := by simpa using hn
 cases hb':fn.body with
 | none=>rw[hb'] at hb;cases hb
 | some c=>simp[h,hn,hb']
theorem sN (L:Lays2.n21 C.P ρ)(hent:Enters C.P (ρ.f 21)):ExtOk C (ρ.f 21) gP:=by
 refine ⟨fun d xs g hwf=>?_,fun d xs g y hy=>?_,fun A bd w γ hg nx g xs vs hr hwf hx hf hv hne cs=>?_⟩
 ·apply Small.mon _ hwf
  by_cases h:gP d xs g=.fail
  ·rw[h];trivial
  ·obtain ⟨s,i,id2,ep2,len2,lim2,vrows,lo,fz,e1,e2,e3,e4,e5⟩:=ji h
   rw[e5] at h ⊢
   rcases nj h with ⟨_,_,_,h1⟩ | ⟨id,ep,rows,_,h2,_,_,_,_,h1⟩
   ·rw[h1];exact .inr ⟨_,rfl⟩
   ·rw[h1];exact .inl ⟨_,_,rfl,by rw[h2];simp⟩
 ·have h:gP d xs g≠.fail:=by rw[hy];simp
  obtain ⟨s,i,id2,ep2,len2,lim2,vrows,lo,fz,e1,e2,e3,e4,e5⟩:=ji h
  rw[e5] at h hy
  rcases nj h with ⟨_,_,_,h1⟩ | ⟨id,ep,rows,_,h2,_,_,_,_,h1⟩<;>(rw[h1] at hy;cases hy)
 ·obtain ⟨s,i,id2,ep2,len2,lim2,vrows,lo,fz,e1,e2,e3,e4,e5⟩:=ji hne
  subst e1;subst e3
  rw[e5] at hne hf ⊢
  obtain ⟨v1,v2,v3,rfl⟩:∃v1 v2 v3,vs=[v1,v2,v3]:=by
   have:=hv.1
   match vs,this with
   | [a,b,c],_=>exact ⟨a,b,c,rfl⟩
  have r1:RV w γ A bd s v1:=hv.2 0 _ _ rfl rfl
  have r2:RV w γ A bd (.int .i64 (Int.ofNat i)) v2:=hv.2 1 _ _ rfl rfl
  have r3:RV w γ A bd (.hsl id2 ep2 0 vrows.length lim2) v3:=hv.2 2 _ _ rfl rfl
  cases r2
  have hid2:hg id2=.cells 1 vrows ep2 lo fz:=by
   rw[hx id2 (by simp[List.flatMap_cons,au,ay]) (by rw[e2];simp),e2]
  obtain ⟨vc,hv3,hvc,_⟩:=kg hr r3 hid2
  subst hv3
  obtain ⟨cv,ev,lv,p1,p2,p3,p4,p5,p6,p7⟩:=rI hr hid2
  have hz:(γ id2).base+0*1=(γ id2).base:=by omega
  rw[hz] at r3 ⊢
  rcases nj hne with ⟨hs,hi,hbig,h1⟩ | ⟨id,ep,rows,hs,h2,hne2,hin,hpos,hbig,h1⟩
  ·subst hi
   rw[h1] at hf ⊢
   have hfree:(γ g.nx).kind=0:=hf g.nx (Nat.le_refl _) (by simp[gOf])
   have hbase:∃base,v1=.slice base 0 0:=by
    rcases hs with rfl | rfl | ⟨id,ep,fz2,rfl,hgid⟩
    ·cases r1;exact ⟨_,rfl⟩
    ·cases r1;exact ⟨_,rfl⟩
    ·have hid:hg id=.cells 1 [] ep false fz2:=by
      rw[hx id (by simp[List.flatMap_cons,au,ay]) (by rw[hgid];simp),hgid]
     obtain ⟨c,hv1,hnc,hco⟩:=kg hr r1 hid
     have hob:=hr.obj id
     rw[hid] at hob
     obtain ⟨-,-,-,k4,k5,-⟩:=hob
     have hk:=k5.1 rfl
     have hc0:c=0:=by simp only[ej] at hco;simp at k4;omega
     subst hc0
     exact ⟨_,hv1⟩
   obtain ⟨base,hb⟩:=hbase
   subst hb
   obtain ⟨cap,rest,q1,q2,q3,q4⟩:=tW L (w:=w) (base:=base) (vb:=(γ id2).blk) (voff:=(γ id2).base) (m:=vrows.length) (vc:=vc) (vs:=lv) e4 hbig p3
    (fun j v hj=>by rw[hM p1,<-p4 j (by rw[<-p3];exact (List.getElem?_eq_some_iff.1 hj).1)];exact hj) p5
   have hrr:RowsRel w γ A bd 1 vrows (lv.toArray++rest):=by
    refine ⟨by simp[p3],p6,fun k j row x a b=>?_⟩
    obtain ⟨j0,o1,v,l1,l2⟩:=p7 k j row x a b
    subst j0
    refine ⟨o1,v,?_,l2⟩
    have hk:=(List.getElem?_eq_some_iff.1 a).1
    rw[Array.getElem?_append_left (by simp;omega)]
    simpa using l1
   obtain ⟨γ',s1,s2,s3⟩:=ma (e:=ρ.t 3) hr hfree hrr vrows.length cap (by simp[q3];omega) q1 rfl q2
   exact ⟨_,_,γ',_,AY s1 s2,s3,.inr ⟨hent,jY q4 cs⟩⟩
  ·subst hs
   rw[h1] at hf ⊢
   have hid:hg id=.cells 1 rows ep true false:=by
    rw[hx id (by simp[List.flatMap_cons,au,ay]) (by rw[h2];simp),h2]
   obtain ⟨c,hv1,hnc,hco⟩:=kg hr r1 hid
   subst hv1
   have hob:=hr.obj id
   rw[hid] at hob
   obtain ⟨k1,k2,k3,k4,k5,k6,_⟩:=hob
   have hob2:=hr.obj id2
   rw[hid2] at hob2
   obtain ⟨m1,_⟩:=hob2
   have hblk:(γ id2).blk≠(γ id).blk:=fun e=>hne2 (hr.inj id id2 (by rw[k1];decide) (by rw[m1];decide) e.symm)
   obtain ⟨cc,ec,lc,c1,c2,c3,c4,c5,c6,c7⟩:=rI hr hid
   have hcap:c=rows.length+(γ id).slack:=by simp only[ej] at hco;omega
   have hins:=tc L (w:=w) (b:=(γ id).blk) (off:=(γ id).base) (n:=rows.length) (c:=c) (i:=i) (vb:=(γ id2).blk) (voff:=(γ id2).base) (m:=vrows.length) (vc:=vc)
    c1 p1 hblk hin e4 hnc (by have:=k5.2 rfl;omega) hbig (by omega) (by omega) (by omega) c3 p3 c4 p4 c5 p5
   obtain ⟨b',o',cap',c',e',w',n1,n2,n3,n4,n5,n6,n7,n8,n9⟩:=hins
   let gh:Gh:=⟨1,ep+1,1,rows.length+vrows.length,b',o',cap' - (rows.length+vrows.length),true⟩
   have hrl:(rows.take i++(vrows++rows.drop i)).length=rows.length+vrows.length:=by simp;omega
   have hcell:∀(k:Nat) row,(rows.take i++(vrows++rows.drop i))[k]?=some row->row.length=1/\∀(j:Nat) x,row[j]?=some x->x.one=true/\∃v,c'[o'+k*1+j]?=some v/\RV w γ A bd x v:=by
    intro k row hk
    have hkl:k<rows.length+vrows.length:=by rw[<-hrl];exact (List.getElem?_eq_some_iff.1 hk).1
    have hck:=n9 k hkl
    rw[dH c3 p3 hin] at hck
    rw[dH (n:=rows.length) (m:=vrows.length) rfl rfl hin] at hk
    split at hk
    ·rename_i h1;rw[if_pos h1] at hck
     refine ⟨c6 _ _ hk,fun j x hj=>?_⟩
     obtain ⟨j0,o1,v,l1,l2⟩:=c7 _ j row x hk hj
     subst j0
     exact ⟨o1,v,by rw[show o'+k*1+0=o'+k from by omega,hck];exact l1,l2⟩
    ·rename_i h1;rw[if_neg h1] at hck
     split at hk
     ·rename_i h2;rw[if_pos h2] at hck
      refine ⟨p6 _ _ hk,fun j x hj=>?_⟩
      obtain ⟨j0,o1,v,l1,l2⟩:=p7 _ j row x hk hj
      subst j0
      exact ⟨o1,v,by rw[show o'+k*1+0=o'+k from by omega,hck];exact l1,l2⟩
     ·rename_i h2;rw[if_neg h2] at hck
      refine ⟨c6 _ _ hk,fun j x hj=>?_⟩
      obtain ⟨j0,o1,v,l1,l2⟩:=c7 _ j row x hk hj
      subst j0
      exact ⟨o1,v,by rw[show o'+k*1+0=o'+k from by omega,hck];exact l1,l2⟩
   obtain ⟨s1,s2⟩:=hr.moved hid (w1:=w') (gh:=gh) (rows':=rows.take i++(vrows++rows.drop i)) rfl rfl rfl (by rw[hrl]) rfl n4
    (by rw[hrl];simp only[gh];omega) n5 n6 (c:=c') (e:=e') n7 (by rw[hrl];simp only[gh];omega)
    (fun k row hk=>(hcell k row hk).1) (fun k j row x hk hj=>(hcell k row hk).2 j x hj)
   have hz':(γ id).base+0*1=(γ id).base:=by omega
   rw[hz']
   refine ⟨.slice (some (adr b' o')) (rows.length+vrows.length) cap',w',_,_,z7 s1 s2,?_,.inr ⟨hent,jY n1 cs⟩⟩
   refine .hsl _ id (ep+1) 0 _ none _ _ cap' (by simp[gh]) (by simp[gh]) n2 (fun _=>⟨by simp[gh],by simp[gh],?_⟩)
   simp only[ej,upd_same,gh];omega
end
end Hx
end
section
namespace Hx
open Go
noncomputable def jo (h:H):List Nat->H
 | []=>.nil
 | id::l=>(jo h l).put id (h.get id)
noncomputable def iO (h h':H):List Nat->H
 | []=>h
 | id::l=>(iO h h' l).put id (h'.get id)
theorem Ar (k:Nat):H.get (Tr.nil:H) k=.none:=by
 simp[H.get,Tr.get_nil]
theorem jF (h:H)(k:Nat):∀l,(jo h l).get k=if k∈l then h.get k else .none
 | []=>by simp[jo,Ar]
 | id::l=>by
  rw[jo,H.get_put,jF h k l]
  by_cases hk:k=id
  ·subst hk;simp
  ·simp[hk]
theorem iQ (h h':H)(k:Nat):∀l,(iO h h' l).get k=if k∈l then h'.get k else h.get k
 | []=>by simp[iO]
 | id::l=>by
  rw[iO,H.get_put,iQ h h' k l]
  by_cases hk:k=id
  ·subst hk;simp
  ·simp[hk]
end Hx
end
section
namespace Hx
open Go
noncomputable def wi (C:Cfg)(f:Nat):Nat->List AV->G->OR:=fun d xs g =>
 match (I C).call d f xs ⟨jo g.h (xs.flatMap (au g.h ay)),g.nx,[]⟩ with
 | .ok v g'=>.upd v ⟨iO g.h g'.h g'.lg,g'.nx,g'.lg++g.lg⟩
 | .fail=>.fail
theorem zV {C:Cfg}(hC:CfgOk C){f:Nat}:ExtOk C f (wi C f):=by
 have wfr:∀(g:G) (ids:List Nat),WF g->WF ⟨jo g.h ids,g.nx,[]⟩:=by
  intro g ids hwf id hid
  show (jo g.h ids).get id=.none
  rw[jF]
  split
  ·exact hwf id hid
  ·rfl
 have sh:∀d xs g,wi C f d xs g=.fail\/∃n v g',(sem C n).call d f xs ⟨jo g.h (xs.flatMap (au g.h ay)),g.nx,[]⟩=.ok v g' /\
   wi C f d xs g=.upd v ⟨iO g.h g'.h g'.lg,g'.nx,g'.lg++g.lg⟩:=by
  intro d xs g
  unfold wi
  split
  ·rename_i v g' h;obtain ⟨n,hn⟩:=Bk h;exact .inr ⟨n,v,g',hn,rfl⟩
  ·exact .inl rfl
 refine ⟨fun d xs g hwf=>?_,fun d xs g y hy=>?_,fun A bd w γ hg nx g xs vs hr hwf hx hf hv hne cs=>?_⟩
 ·rcases sh d xs g with h | ⟨n,v,g',h1,h2⟩
  ·rw[h];exact Mon.refl g
  ·rw[h2]
   have hok:=pP hC n
   have m:=hok.mon.call _ _ _ _ _ _ h1 (wfr g _ hwf)
   obtain ⟨nw,a,b,c⟩:=m.new
   have ha:g'.lg=nw:=by simpa using a
   refine ⟨m.nx,⟨g'.lg,rfl,fun id hid=>?_,fun id hid=>?_⟩,fun hw id hid=>?_⟩
   ·show (iO _ _ _).get id=_
    rw[iQ,if_neg hid]
   ·obtain ⟨c1,c2⟩:=c id (by rw[<-ha];exact hid)
    refine ⟨c1,fun hn=>c2 ?_⟩
    show (jo _ _).get id=_
    rw[jF,hn];simp
   ·show (iO _ _ _).get id=_
    have hid:g'.nx<=id:=hid
    have hnx:g.nx<=g'.nx:=m.nx
    rw[iQ,if_neg]
    ·exact hw id (by omega)
    ·intro hl
     have:=(c id (by rw[<-ha];exact hl)).1
     omega
 ·rcases sh d xs g with h | ⟨n,v,g',h1,h2⟩
  ·rw[h] at hy;cases hy
  ·rw[h2] at hy;cases hy
 ·rcases sh (bd+1) xs g with h | ⟨n,v,g',h1,h2⟩
  ·exact absurd h hne
  ·rw[h2] at hf ⊢
   have hok:=pP hC n
   obtain ⟨he,run⟩:=hok.call _ _ _ _ _ _ h1
   obtain ⟨u,w',γ',hg',fin,rv,out⟩:=run A w γ hg nx vs hr (fun id hn=>by
     have hn':(jo g.h (xs.flatMap (au g.h ay))).get id≠.none:=hn
     show hg id=(jo _ _).get id
     rw[jF] at hn' ⊢
     split at hn'
     ·rename_i hm;rw[if_pos hm];exact hx id hm hn'
     ·exact absurd rfl hn') (wfr g _ hwf) (fun id h1 h2=>hf id h1 h2) hv .normal cs (.inl rfl)
   refine ⟨u,w',γ',hg',⟨fin.rel,fin.stp,?_⟩,rv,.inr ⟨he,out⟩⟩
   obtain ⟨nw,a,b,c⟩:=fin.new
   have ha:g'.lg=nw:=by simpa using a
   subst ha
   refine ⟨g'.lg,rfl,fun id hid=>?_,c⟩
   show hg' id=(iO _ _ _).get id
   rw[iQ,if_pos hid];exact b id hid
end Hx
end
section
namespace Go.Proofs.YtfpjoiojhegfaaaDoor.Gen
open Hx
noncomputable def cfg0:Cfg:={ P:=Tryd.prog,iso:=fun f=>Nat.testBit 21757468432525280001520595099783983529983 f,ext:=fun _=>none,glob:=fun g=>af (Nat.beq g 1) (some (64,[[.int .u8 0,.int .u8 1,.int .u8 56,.int .u8 2,.int .u8 57,.int .u8 49,.int .u8 28,.int .u8 3,.int .u8 61,.int .u8 58,.int .u8 42,.int .u8 50,.int .u8 38,.int .u8 29,.int .u8 17,.int .u8 4,.int .u8 62,.int .u8 47,.int .u8 59,.int .u8 36,.int .u8 45,.int .u8 43,.int .u8 51,.int .u8 22,.int .u8 53,.int .u8 39,.int .u8 33,.int .u8 30,.int .u8 24,.int .u8 18,.int .u8 12,.int .u8 5,.int .u8 63,.int .u8 55,.int .u8 48,.int .u8 27,.int .u8 60,.int .u8 41,.int .u8 37,.int .u8 16,.int .u8 46,.int .u8 35,.int .u8 44,.int .u8 21,.int .u8 52,.int .u8 32,.int .u8 23,.int .u8 11,.int .u8 54,.int .u8 26,.int .u8 40,.int .u8 15,.int .u8 34,.int .u8 20,.int .u8 31,.int .u8 10,.int .u8 25,.int .u8 14,.int .u8 19,.int .u8 9,.int .u8 13,.int .u8 8,.int .u8 7,.int .u8 6]])) none }
theorem cfg0Ok:CfgOk cfg0:=CfgOk.plain (by kernel_rfl) (by kernel_rfl)
theorem insOk:ExtOk cfg0 102 gP:=sN (C:=cfg0) (ρ:=Tryd.lays21_ren) Tryd.lays21 (Hx.wj Tryd.func102 (by kernel_rfl) (by kernel_rfl))
noncomputable def cfg:Cfg:=cfg0.add 102 gP
theorem cfgOk:CfgOk cfg:=cfg0Ok.add insOk
theorem works_run:ax (sem cfg 20000) 1 G.empty 11 []=.val (.bool true):=by kernel_rfl
noncomputable def cfgW:Cfg:=cfg.add 11 (nG (.bool true))
theorem cfgWOk:CfgOk cfgW:=cfgOk.add (vS cfgOk works_run)
theorem inl103:ExtOk cfg0 103 (wi cfg0 103):=zV cfg0Ok
noncomputable def cfg1:Cfg:=cfgW.add 103 (wi cfg0 103)
theorem cfg1Ok:CfgOk cfg1:=cfgWOk.add (ExtOk.cfg (C:=cfg0) (C':=cfgW) rfl rfl inl103)
end Go.Proofs.YtfpjoiojhegfaaaDoor.Gen
end
section
namespace Hx
open Go
set_option maxRecDepth 100000
noncomputable section
def C0:Cfg:=Go.Proofs.YtfpjoiojhegfaaaDoor.Gen.cfg1
abbrev N.aJ:Nat:=9
abbrev N.az:Nat:=32
abbrev N.aq:Nat:=63
abbrev N.ak:Nat:=30
abbrev N.aa:Nat:=62
abbrev N.ay:Nat:=33
abbrev N.am:Nat:=64
abbrev N.aK:Nat:=11
abbrev N.ax:Nat:=34
abbrev N.aM:Nat:=65
abbrev N.aF:Nat:=66
abbrev N.aI:Nat:=90
abbrev N.aL:Nat:=97
abbrev N.aG:Nat:=98
abbrev N.aE:Nat:=29
abbrev N.ap:Nat:=17
abbrev N.ae:Nat:=19
abbrev N.af:Nat:=39
abbrev N.aB:Nat:=40
abbrev N.aH:Nat:=69
abbrev N.aC:Nat:=43
abbrev N.ah:Nat:=70
abbrev N.aw:Nat:=89
abbrev N.aD:Nat:=37
abbrev N.aA:Nat:=44
abbrev N.au:Nat:=72
def dI:SC:=.ops [oA 51 38,oM 38 51]
def dE:SC:=sQ [o 39 (.bin .lss (.t 38) (.t 37))] (.seq (.cond (.t 39) (.skip) (.exit 4)) (.seq (.blk 5 (sQ [oM 40 38,oX 41 36 38,oL 42 41,oM 9 40,oM 10 42] (sQ [oM 43 10,oM 44 8,o 45 (.bin .and (.t 43) (.t 44)),o 46 (.bin .neq (.t 45) (.k (.int .u64 0)))] (.cond (.t 46) (.ops [oM 47 8,oM 48 9,o 49 (.bin .shl (.k (.int .u64 1)) (.t 48)),o 50 (.bin .or (.t 47) (.t 49)),oM 8 50]) (.skip))))) dI))
def dy:SC:=.ops [oA 52 34,oM 34 52]
def bX:SC:=sQ [o 35 (.bin .lss (.t 34) (.t 33))] (.seq (.cond (.t 35) (.skip) (.exit 2)) (.seq (.blk 3 (sQ [oM 36 5,oN 37 36,oK 38 0] (.blk 4 (.loop dE)))) dy))
def bS:SC:=.seq (.feet [0,0,0,4,0,0,48,0,0,384,896,2032,0,0,12288,28672,65535,131071,131071,524287,1048575] [o 53 (.call N.ak [.k (.bool true)]),oM 54 5,oM 55 7,o 56 (.bin .shl (.k (.int .u64 1)) (.t 55)),oM 57 6,oM 58 8,o 59 (.bin .andNot (.t 57) (.t 58)),oM 60 5,oM 61 7,oX 62 60 61,oL 63 62,o 64 (.bin .andNot (.t 59) (.t 63)),oM 65 5,oM 66 7,oX 67 65 66,oL 68 67,o 69 (.call N.ap [.t 54,.t 56,.t 64,.t 68]),o 70 (.ext (.t 69) 0),o 71 (.ext (.t 69) 1),o 72 (.dyn (.t 53) [.t 70,.t 71]),o 73 (.not (.t 72))]) (.cond (.t 73) (sQ [o 4 (.mv (.k (.bool false)))] (.ret)) (.skip))
def dB:SC:=.ops [oA 74 27,oM 27 74]
def b_:SC:=sQ [o 28 (.bin .lss (.t 27) (.t 26))] (.seq (.cond (.t 28) (.skip) (.exit 0)) (.seq (.blk 1 (sQ [oM 29 27,oM 7 29] (sQ [oM 30 7,o 31 (.bin .shl (.k (.int .u64 1)) (.t 30)),oM 8 31] (.seq (sQ [oM 32 5,oN 33 32,oK 34 0] (.blk 2 (.loop bX))) bS)))) dB))
def bY:SC:=sQ [o 160 (.bin .lss (.t 159) (.t 158))] (.seq (.cond (.t 160) (.skip) (.exit 6)) (.seq (.blk 7 (sQ [oM 161 159,oM 16 161] (.seq (.feet [0,0,3,7,15,31,31,127,255,511,1023,2047,4095,4095,16383,32767,65535,131071,262143,524287,1048575,524287,4194303,8388607,16777215,33554431,67108863,67108863,67108863,335544319,67108863,1140850687,67108863,8589934591,17179869183,17179869183,68719476735,137438953471,274877906943] [oM 162 16,oM 163 6,o 164 (.bin .andNot (.t 162) (.t 163)),o 165 (.bin .eql (.t 164) (.k (.int .u64 0))),oM 166 165,og 167 166 true (.mv (.t 16)),og 168 166 true (.mv (.t 11)),og 169 166 true (.bin .shr (.t 167) (.t 168)),og 170 166 true (.bin .and (.t 169) (.k (.int .u64 1))),og 171 166 true (.bin .eql (.t 170) (.k (.int .u64 0))),o 172 (.pick (.t 166) (.t 171) (.k (.bool false))),oM 173 172,og 174 173 true (.mv (.t 16)),og 175 173 true (.mv (.t 12)),og 176 173 true (.bin .shr (.t 174) (.t 175)),og 177 173 true (.bin .and (.t 176) (.k (.int .u64 1))),og 178 173 true (.bin .eql (.t 177) (.k (.int .u64 0))),o 179 (.pick (.t 173) (.t 178) (.k (.bool false))),oM 180 179,og 181 180 true (.mv (.t 16)),og 182 180 true (.call N.ax [.t 181]),og 183 180 true (.mv (.t 13)),og 184 180 true (.call N.ax [.t 183]),og 185 180 true (.bin .lss (.t 182) (.t 184)),o 186 (.pick (.t 180) (.t 185) (.k (.bool false))),oM 187 186,og 188 187 true (.call N.ak [.k (.bool false)]),og 189 187 true (.mv (.t 5)),og 190 187 true (.mv (.t 11)),og 191 187 true (.bin .shl (.k (.int .u64 1)) (.t 190)),og 192 187 true (.mv (.t 12)),og 193 187 true (.bin .shl (.k (.int .u64 1)) (.t 192)),og 194 187 true (.mv (.t 16)),og 195 187 true (.call N.ap [.t 189,.t 191,.t 193,.t 194]),og 196 187 true (.ext (.t 195) 0),og 197 187 true (.ext (.t 195) 1),og 198 187 true (.dyn (.t 188) [.t 196,.t 197]),og 199 187 true (.not (.t 198)),o 200 (.pick (.t 187) (.t 199) (.k (.bool false)))]) (.cond (.t 200) (sQ [o 4 (.mv (.k (.bool false)))] (.ret)) (.skip))))) (.ops [o 201 (.bin .add (.t 159) (.k (.int .u64 1))),oM 159 201])))
def dF:SC:=sQ [o 4 (.mv (.k (.bool true)))] (.ret)
def bV:SC:=.seq (.quiet [oM 75 1,o 76 (.conv .i64 (.t 75)),oM 77 5,oN 78 77,o 79 (.bin .rem (.t 76) (.t 78)),oM 80 1,o 81 (.bin .quo (.t 80) (.k (.int .u8 8))),o 82 (.conv .i64 (.t 81)),oM 83 5,oN 84 83,o 85 (.bin .rem (.t 82) (.t 84)),oM 11 79,oM 12 85]) (.seq (sQ [oM 86 11,oM 87 12,o 88 (.bin .eql (.t 86) (.t 87))] (.cond (.t 88) (sQ [o 89 (.call N.az [.k (.int .i64 2)]),oM 90 5,oM 91 11,oM 92 12,o 93 (.call N.ae [.t 90,.t 91,.t 92]),o 94 (.ext (.t 93) 0),o 95 (.ext (.t 93) 1),o 96 (.dyn (.t 89) [.t 94,.t 95]),oM 4 96] (.ret)) (.skip))) (sQ [oM 98 5,oM 99 11,oM 100 12,o 101 (.call N.ae [.t 98,.t 99,.t 100]),oM 97 101,o 102 (.ext (.t 97) 0),o 103 (.ext (.t 97) 1),oM 13 102,oM 14 103] (.seq (.seq (.quiet [oM 104 5,oM 105 11,oX 106 104 105,oL 107 106,oM 108 12,o 109 (.bin .shr (.t 107) (.t 108)),oM 110 5,oM 111 12,oX 112 110 111,oL 113 112,oM 114 11,o 115 (.bin .shr (.t 113) (.t 114)),o 116 (.bin .or (.t 109) (.t 115)),o 117 (.bin .and (.t 116) (.k (.int .u64 1))),o 118 (.bin .eql (.t 117) (.k (.int .u64 1))),oM 15 118]) (sQ [oM 119 15,oM 120 119,og 121 120 false (.mv (.t 14)),og 122 120 false (.bin .neq (.t 121) (qI 0)),o 123 (.pick (.t 120) (.k (.bool true)) (.t 122))] (.cond (.t 123) (sQ [oM 124 15,oM 125 124,og 126 125 true (.mv (.t 13)),og 127 125 true (.bin .eql (.t 126) (.k (.int .u64 0))),o 128 (.pick (.t 125) (.t 127) (.k (.bool false))),oM 129 128,og 130 129 true (.mv (.t 14)),og 131 129 true (.bin .eql (.t 130) (qI 4)),o 132 (.pick (.t 129) (.t 131) (.k (.bool false))),oM 4 132] (.ret)) (.skip)))) (.seq (.seq (.feet [0,0,0,4,0,16,0,127,255,255,1023,2047,4095,8191,16383,8191,8191,8191,262143,524287,524287,2097151,4194303,8388607] [o 133 (.call N.ak [.k (.bool true)]),oM 134 5,oM 135 11,o 136 (.bin .shl (.k (.int .u64 1)) (.t 135)),oM 137 12,o 138 (.bin .shl (.k (.int .u64 1)) (.t 137)),oM 139 13,o 140 (.call N.ap [.t 134,.t 136,.t 138,.t 139]),o 141 (.ext (.t 140) 0),o 142 (.ext (.t 140) 1),o 143 (.dyn (.t 133) [.t 141,.t 142]),o 144 (.not (.t 143)),oM 145 144,og 146 145 false (.mv (.t 13)),og 147 145 false (.call N.ay [.t 146]),og 148 145 false (.mv (.t 5)),og 149 145 false (.mv (.t 12)),og 150 145 false (.mv (.t 11)),og 151 145 false (.call N.ae [.t 148,.t 149,.t 150]),og 152 145 false (.ext (.t 151) 0),og 153 145 false (.ext (.t 151) 1),og 154 145 false (.dyn (.t 147) [.t 152,.t 153]),og 155 145 false (.not (.t 154)),o 156 (.pick (.t 145) (.k (.bool true)) (.t 155))]) (.cond (.t 156) (sQ [o 4 (.mv (.k (.bool false)))] (.ret)) (.skip))) (.seq (sQ [oM 157 6,o 158 (.bin .add (.t 157) (.k (.int .u64 1))),o 159 (.mv (.k (.int .u64 0)))] (.blk 6 (.loop bY))) dF)))))
def d5:SC:=.seq (sQ [o 17 (.call N.aK []),o 18 (.not (.t 17))] (.cond (.t 18) (sQ [o 4 (.mv (.k (.bool false)))] (.ret)) (.skip))) (sQ [o 19 (.load true 2 (.t 2)),o 20 (.call N.aE [.t 19]),oM 5 20] (sQ [oM 21 5,oN 22 21,o 23 (.bin .shl (.k (.int .u64 1)) (.t 22)),o 24 (.bin .sub (.t 23) (.k (.int .u64 1))),oM 6 24] (.seq (sQ [oM 25 5,oN 26 25,oK 27 0] (.blk 0 (.loop b_))) bV)))
def cO:SF:=⟨202,[.tm 4],sQ [o 2 (.box (.t 0)),o 4 (.mv (.k (.bool false)))] d5⟩
def eV:SF:=⟨34,[.tm 8,.tm 9],sQ [o 8 (.mv (.k (.bool false))),oK 9 0] (sQ [oM 13 0,o 14 (.call N.aD [.t 13]),oM 12 14,o 15 (.ext (.t 12) 0),o 16 (.ext (.t 12) 1),o 10 (.alloc [.nils,.nils]),oz (.store 2 (.t 10) (.t 15)),oM 11 16] (.seq (sQ [oM 17 11,o 18 (.bin .neq (.t 17) (qI 0))] (.cond (.t 18) (sQ [oM 19 11,o 8 (.mv (.k (.bool false))),oM 9 19] (.ret)) (.skip))) (.seq (sQ [o 20 (.load true 2 (.t 10)),oM 21 1,oM 22 2,oM 23 3,o 24 (.bsl 1 3 [.int .u64 0] [0,1,2] [.t 21,.t 22,.t 23]),o 25 (.call N.af [.t 20,.t 24]),o 26 (.not (.t 25))] (.cond (.t 26) (sQ [o 8 (.mv (.k (.bool false))),oK 9 2] (.ret)) (.skip))) (sQ [o 27 (.load true 2 (.t 10)),oM 28 1,oM 29 3,o 30 (.call N.aB [.t 27,.t 28,.t 29]),oM 31 2,o 32 (.bin .and (.t 30) (.t 31)),o 33 (.bin .eql (.t 32) (.k (.int .u64 0))),oM 8 33,oK 9 0] (.ret)))))⟩
def fB:SC:=.ops [oM 12 48]
def dv:SC:=.blk 3 (.seq (.quiet [o 49 (.load true 2 (.t 8)),oL 50 4,o 51 (.bin .shl (.k (.int .u64 1)) (.t 50)),oM 52 12,o 53 (.call N.aB [.t 49,.t 51,.t 52]),oL 54 5,o 55 (.bin .shr (.t 53) (.t 54)),o 56 (.bin .and (.t 55) (.k (.int .u64 1))),o 57 (.bin .eql (.t 56) (.k (.int .u64 0)))]) (.cond (.t 57) (sQ [oM 58 12,oz (.store 1 (.t 6) (.t 58)),oz (.store 1 (.t 7) (qI 0))] (.ret)) (.skip)))
def fu:SC:=.ops [oA 59 42,oM 42 59]
def du:SC:=sQ [o 43 (.bin .lss (.t 42) (.t 41))] (.seq (.cond (.t 43) (.skip) (.exit 0)) (.seq (.blk 1 (sQ [oM 44 42,oM 11 44] (sQ [oM 45 10,oM 46 11,o 47 (.call N.aA [.t 45,.t 46])] (.blk 2 (.rng 60 (.t 47) [48] fB dv))))) fu))
def fw:SC:=sQ [oz (.store 1 (.t 6) (.k (.int .u64 0))),oz (.store 1 (.t 7) (qI 4))] (.ret)
def f7:SC:=sQ [oM 14 0,o 15 (.call N.aD [.t 14]),oM 13 15,o 16 (.ext (.t 13) 0),o 17 (.ext (.t 13) 1),o 8 (.alloc [.nils,.nils]),oz (.store 2 (.t 8) (.t 16)),oM 9 17] (.seq (sQ [oM 18 9,o 19 (.bin .neq (.t 18) (qI 0))] (.cond (.t 19) (sQ [oM 20 9,oz (.store 1 (.t 6) (.k (.int .u64 0))),oz (.store 1 (.t 7) (.t 20))] (.ret)) (.skip))) (.seq (sQ [o 21 (.load true 2 (.t 8)),oL 22 4,oL 23 5,o 24 (.call N.aC [.t 21,.t 22,.t 23,.k (.int .u64 0)]),o 25 (.not (.t 24))] (.cond (.t 25) (sQ [oz (.store 1 (.t 6) (.k (.int .u64 0))),oz (.store 1 (.t 7) (qI 2))] (.ret)) (.skip))) (.seq (.quiet [oF 26 0 8,oF 27 0 26,oL 28 27,oN 29 28,o 30 (.bin .shl (.k (.int .u64 1)) (.t 29)),o 31 (.bin .sub (.t 30) (.k (.int .u64 1))),oL 32 4,o 33 (.bin .shl (.k (.int .u64 1)) (.t 32)),oL 34 5,o 35 (.bin .shl (.k (.int .u64 1)) (.t 34)),o 36 (.bin .or (.t 33) (.t 35)),o 37 (.bin .andNot (.t 31) (.t 36)),oM 10 37]) (.seq (sQ [oF 38 0 8,oF 39 0 38,oL 40 39,oN 41 40,oK 42 0] (.blk 0 (.loop du))) fw))))
def eL:SF:=⟨60,[.cell false 1 6,.cell false 1 7],sQ [o 4 (.box (.t 1)),o 5 (.box (.t 2)),o 6 (.alloc [.int .u64 0]),o 7 (.alloc [.int .i64 0])] f7⟩
def cD:SC:=sQ [o 7 (.mv (.k (.nils)))] (sQ [oM 36 7,oM 37 4,oM 38 6,o 39 (.slc 1 (.t 37) [] [.t 38]),o 40 (.app 1 8 (.t 36) (.t 39)),oM 41 5,o 42 (.bsl 1 1 [.int .i64 0] [0] [.t 41]),o 43 (.app 1 8 (.t 40) (.t 42)),oM 7 43] (.ops [oM 44 7,oM 45 4,oM 46 6,o 47 (.slc 1 (.t 45) [.t 46] []),o 48 (.app 1 8 (.t 44) (.t 47)),oM 4 48]))
def ez:SC:=.ops [oM 20 5,oA 21 20,oM 5 21]
def cz:SC:=.seq (sQ [oM 17 5,oM 18 3,o 19 (.bin .lss (.t 17) (.t 18))] (.cond (.t 19) (.skip) (.exit 0))) (.seq (.blk 1 (sQ [oK 6 0] (.seq (sQ [oM 22 5,oF 23 1 1,oL 24 23,oN 25 24,o 26 (.bin .lss (.t 22) (.t 25))] (.cond (.t 26) (.ops [oF 27 1 1,oL 28 27,oM 29 5,oX 30 28 29,oL 31 30,o 32 (.conv .i64 (.t 31)),oM 33 5,oA 34 33,o 35 (.bin .rem (.t 32) (.t 34)),oM 6 35]) (.skip))) cD))) ez)
def er:SC:=.ops [oM 66 11,oA 67 66,oM 11 67]
def cC:SC:=.seq (sQ [oM 63 11,oM 64 9,o 65 (.bin .lss (.t 63) (.t 64))] (.cond (.t 65) (.skip) (.exit 4))) (.seq (.blk 5 (sQ [oF 68 0 1,oL 69 68,oM 70 9,oX 71 69 70,oL 72 71,oM 73 11,o 74 (.conv .u64 (.t 73)),o 75 (.bin .shr (.t 72) (.t 74)),o 76 (.bin .and (.t 75) (.k (.int .u8 1))),o 77 (.bin .eql (.t 76) (.k (.int .u8 1))),oM 78 77,og 79 78 true (.mv (.t 10)),og 80 78 true (.bin .lss (.t 79) (qI 3)),o 81 (.pick (.t 78) (.t 80) (.k (.bool false)))] (.cond (.t 81) (.seq (.feet [0,0,0,6,14,0,0,0,192,448,992,2016,0,0,12288,28672,61440,126976,262112,524287,1048575] [oM 82 8,oM 83 4,oM 84 9,oX 85 83 84,oL 86 85,oM 87 8,oM 88 4,oM 89 9,oX 90 88 89,oL 91 90,oX 92 87 91,oL 93 92,oM 94 4,oM 95 11,oX 96 94 95,oL 97 96,o 98 (.conv .u64 (.t 97)),o 99 (.bin .shl (.k (.int .u64 1)) (.t 98)),o 100 (.bin .or (.t 93) (.t 99)),oX 101 82 86,oz (.store 1 (.t 101) (.t 100))]) (.ops [oM 102 10,oA 103 102,oM 10 103])) (.skip)))) er)
def eB:SC:=.ops [oM 61 9,oA 62 61,oM 9 62]
def cy:SC:=.seq (sQ [oM 51 9,oM 52 3,o 53 (.bin .lss (.t 51) (.t 52)),oM 54 53,og 55 54 true (.mv (.t 9)),og 56 54 true (.fad 0 (.t 1)),og 57 54 true (.load false 1 (.t 56)),og 58 54 true (.len .slice (.t 57)),og 59 54 true (.bin .lss (.t 55) (.t 58)),o 60 (.pick (.t 54) (.t 59) (.k (.bool false)))] (.cond (.t 60) (.skip) (.exit 2))) (.seq (.blk 3 (sQ [oK 10 0] (sQ [oK 11 0] (.blk 4 (.loop cC))))) eB)
def eG:SC:=sQ [oM 104 8,oM 2 104] (.ret)
def eA:SC:=sQ [oM 49 3,o 50 (.mks 1 8 [.int .u64 0] (.t 49) (.t 49)),oM 8 50] (.seq (sQ [oK 9 0] (.blk 2 (.loop cy))) eG)
def eH:SC:=sQ [oF 12 0 1,oL 13 12,oN 14 13,o 15 (.mx (.t 14) (qI 1)),o 16 (.mn (.t 15) (qI 6)),oM 3 16] (sQ [o 4 (.mv (.k (.nils)))] (.seq (sQ [oK 5 0] (.blk 0 (.loop cz))) eA))
def dw:SF:=⟨105,[.tm 2],sQ [o 1 (.box (.t 0)),o 2 (.mv (.k (.nils)))] eH⟩
def hU:SC:=sQ [o 3 (.mkf N.aa [] [.t 1]),oM 2 3] (.ret)
def gx:SF:=⟨4,[.tm 2],sQ [o 1 (.box (.t 0)),o 2 (.mv (.k (.nilf)))] hU⟩
def fC:SC:=sQ [o 3 (.mkf N.aq [] [.t 1]),oM 2 3] (.ret)
def eg:SF:=⟨4,[.tm 2],sQ [o 1 (.box (.t 0)),o 2 (.mv (.k (.nilf)))] fC⟩
def hZ:SC:=sQ [o 3 (.mkf N.am [] [.t 1]),oM 2 3] (.ret)
def gf:SF:=⟨4,[.tm 2],sQ [o 1 (.box (.t 0)),o 2 (.mv (.k (.nilf)))] hZ⟩
def cT:SF:=⟨8,[.tm 2],sQ [oK 2 0] (.seq (.cond (.k (.bool false)) (sQ [oM 3 0,o 4 (.conv .u32 (.t 3)),o 5 (.call N.aM [.t 4]),oM 2 5] (.ret)) (.skip)) (sQ [oM 6 0,o 7 (.call N.aF [.t 6]),oM 2 7] (.ret)))⟩
def dV:SC:=sQ [o 44 (.bin .lss (.t 43) (.t 42))] (.seq (.cond (.t 44) (.skip) (.exit 2)) (.seq (.blk 3 (sQ [oM 45 43,oM 7 45] (.feet [0,1,0,7,15,0,0,96,224,0,992,2047,4095,8191] [oF 46 1 4,oL 47 46,oM 48 7,oX 49 47 48,oL 50 49,oM 51 6,oM 52 7,o 53 (.bin .shr (.t 51) (.t 52)),o 54 (.bin .and (.t 53) (.k (.int .u64 1))),oM 55 5,o 56 (.bin .shl (.t 54) (.t 55)),o 57 (.bin .or (.t 50) (.t 56)),oX 58 47 48,oz (.store 1 (.t 58) (.t 57))]))) (.ops [oA 59 43,oM 43 59])))
def fY:SC:=.ops [oA 60 30,oM 30 60]
def dS:SC:=sQ [o 31 (.bin .lss (.t 30) (.t 29))] (.seq (.cond (.t 31) (.skip) (.exit 0)) (.seq (.blk 1 (sQ [oM 32 30,oX 33 28 30,oL 34 33,oM 5 32,oM 6 34] (.seq (sQ [oM 35 6,oM 36 0,oN 37 36,o 38 (.bin .shr (.t 35) (.t 37)),o 39 (.bin .neq (.t 38) (.k (.int .u64 0)))] (.cond (.t 39) (sQ [o 40 (.build [.nils,.nils] [] []),oz (.store 2 (.t 2) (.t 40)),oK 3 70] (.ret)) (.skip))) (sQ [oM 41 0,oN 42 41,oK 43 0] (.blk 2 (.loop dV)))))) fY))
def dT:SC:=sQ [o 72 (.bin .lss (.t 71) (.t 70))] (.seq (.cond (.t 72) (.skip) (.exit 6)) (.seq (.blk 7 (sQ [oM 73 71,oX 74 69 71,oL 75 74,oM 9 73,oM 10 75] (sQ [oM 76 8,oM 77 9,o 78 (.bin .shr (.t 76) (.t 77)),o 79 (.bin .and (.t 78) (.k (.int .u64 1))),o 80 (.bin .eql (.t 79) (.k (.int .u64 0))),oM 81 80,og 82 81 true (.mv (.t 10)),og 83 81 true (.mv (.t 8)),og 84 81 true (.bin .andNot (.t 82) (.t 83)),og 85 81 true (.bin .eql (.t 84) (.k (.int .u64 0))),o 86 (.pick (.t 81) (.t 85) (.k (.bool false)))] (.cond (.t 86) (sQ [oM 87 8,oM 88 9,o 89 (.bin .shl (.k (.int .u64 1)) (.t 88)),o 90 (.bin .or (.t 87) (.t 89)),oM 8 90] (.exit 5)) (.skip))))) (.ops [oA 91 71,oM 71 91])))
def gy:SC:=sQ [o 92 (.build [.nils,.nils] [] []),oz (.store 2 (.t 2) (.t 92)),oK 3 70] (.ret)
def gv:SC:=.ops [oA 93 65,oM 65 93]
def dQ:SC:=sQ [o 66 (.bin .lss (.t 65) (.t 64))] (.seq (.cond (.t 66) (.skip) (.exit 4)) (.seq (.blk 5 (.seq (sQ [oF 67 0 4,oF 68 0 67,oL 69 68,oN 70 69,oK 71 0] (.blk 6 (.loop dT))) gy)) gv))
def gc:SC:=sQ [o 94 (.load true 2 (.t 4)),oz (.store 2 (.t 2) (.t 94)),oK 3 0] (.ret)
def gn:SC:=sQ [o 8 (.mv (.k (.int .u64 0)))] (.seq (.skip) (.seq (sQ [oF 61 0 4,oF 62 0 61,oL 63 62,oN 64 63,oK 65 0] (.blk 4 (.loop dQ))) gc))
def cR:SC:=.seq (sQ [oM 11 0,oN 12 11,o 13 (.bin .lss (.t 12) (qI 1)),oM 14 13,og 15 14 false (.mv (.t 0)),og 16 14 false (.len .slice (.t 15)),og 17 14 false (.bin .gtr (.t 16) (qI 8)),o 18 (.pick (.t 14) (.k (.bool true)) (.t 17))] (.cond (.t 18) (sQ [o 19 (.build [.nils,.nils] [] []),oz (.store 2 (.t 2) (.t 19)),oK 3 70] (.ret)) (.skip))) (sQ [oM 20 0,o 21 (.build [.nils] [(0,1)] [.t 20]),oM 22 0,oN 23 22,o 24 (.mks 1 8 [.int .u64 0] (.t 23) (.t 23)),o 25 (.build [.nils,.nils] [(0,1),(1,1)] [.t 21,.t 24]),o 4 (.alloc [.nils,.nils]),oz (.store 2 (.t 4) (.t 25))] (.seq (sQ [oF 26 0 4,oF 27 0 26,oL 28 27,oN 29 28,oK 30 0] (.blk 0 (.loop dS))) gn))
def cG:SF:=⟨95,[.cell true 2 2,.tm 3],sQ [o 2 (.alloc [.nils,.nils]),oK 3 0] cR⟩
def cK:SC:=sQ [o 11 (.bin .lss (.t 10) (.t 9))] (.seq (.cond (.t 11) (.skip) (.exit 0)) (.seq (.blk 1 (sQ [oX 12 8 10,oL 13 12,oM 7 13] (.seq (sQ [oM 14 7,oF 15 0 2,oF 16 0 15,oL 17 16,oN 18 17,o 19 (.bin .shr (.t 14) (.t 18)),o 20 (.bin .neq (.t 19) (.k (.int .u64 0))),oM 21 20,og 22 21 false (.mv (.t 7)),og 23 21 false (.mv (.t 5)),og 24 21 false (.bin .and (.t 22) (.t 23)),og 25 21 false (.bin .neq (.t 24) (.k (.int .u64 0))),o 26 (.pick (.t 21) (.k (.bool true)) (.t 25))] (.cond (.t 26) (sQ [o 4 (.mv (.k (.bool false)))] (.ret)) (.skip))) (.ops [oM 27 5,oM 28 7,o 29 (.bin .or (.t 27) (.t 28)),oM 5 29])))) (.ops [oA 30 10,oM 10 30])))
def cH:SC:=sQ [o 4 (.mv (.k (.bool true)))] (.ret)
def cQ:SC:=sQ [o 5 (.mv (.k (.int .u64 0)))] (.seq (sQ [oM 8 1,oN 9 8,oK 10 0] (.blk 0 (.loop cK))) cH)
def bK:SF:=⟨31,[.tm 4],sQ [o 2 (.box (.t 0)),o 4 (.mv (.k (.bool false)))] cQ⟩
def dm:SC:=.ops [oA 38 25,oM 25 38]
def dj:SC:=sQ [o 26 (.bin .lss (.t 25) (.t 24))] (.seq (.cond (.t 26) (.skip) (.exit 2)) (.seq (.blk 3 (sQ [oM 27 25,oX 28 23 25,oL 29 28,oM 8 27,oM 9 29] (sQ [oL 30 7,oM 31 8,o 32 (.bin .shr (.t 30) (.t 31)),o 33 (.bin .and (.t 32) (.k (.int .u64 1))),o 34 (.bin .eql (.t 33) (.k (.int .u64 1)))] (.cond (.t 34) (.ops [oL 35 7,oM 36 9,o 37 (.bin .or (.t 35) (.t 36)),oz (.store 1 (.t 7) (.t 37))]) (.skip))))) dm))
def gG:SC:=.ops [oA 39 19,oM 19 39]
def gN:SC:=sQ [o 20 (.bin .lss (.t 19) (.t 18))] (.seq (.cond (.t 20) (.skip) (.exit 0)) (.seq (.blk 1 (sQ [oF 21 0 3,oF 22 0 21,oL 23 22,oN 24 23,oK 25 0] (.blk 2 (.loop dj)))) gG))
def dl:SC:=.ops [oM 13 44]
def dq:SC:=.blk 5 (.ops [oL 45 12,oM 46 13,o 47 (.build [.int .i64 0,.bool false] [(0,1),(1,1)] [.t 46,.k (.bool false)]),o 48 (.dyn (.t 45) [.t 47])])
def dk:SC:=sQ [oL 49 10,oM 6 49] (.ret)
def bh:SC:=sQ [o 40 (.raw (.makeMap 144 none)),o 10 (.alloc [.int .u64 0]),o 11 (.alloc [.nilm]),oz (.store 1 (.t 10) (.k (.int .u64 0))),oz (.store 1 (.t 11) (.t 40))] (sQ [o 12 (.alloc [.nilf])] (sQ [o 41 (.mkf N.aH [] [.t 11,.t 5,.t 10,.t 3,.t 12,.t 7]),oz (.store 1 (.t 12) (.t 41))] (.seq (sQ [oM 42 1,o 43 (.call N.ah [.t 42])] (.blk 4 (.rng 50 (.t 43) [44] dl dq))) dk)))
def dL:SC:=sQ [oL 14 5,o 7 (.alloc [.int .u64 0]),oz (.store 1 (.t 7) (.t 14))] (.seq (sQ [oF 15 0 3,oF 16 0 15,oL 17 16,oN 18 17,oK 19 0] (.blk 0 (.loop gN))) bh)
def cA:SF:=⟨50,[.tm 6],sQ [o 3 (.box (.t 0)),o 5 (.box (.t 2)),o 6 (.mv (.k (.int .u64 0)))] dL⟩
def aV:SC:=.seq (sQ [oM 9 1,o 10 (.bin .lss (.t 9) (qI 0)),oM 11 10,og 12 11 false (.mv (.t 1)),og 13 11 false (.fad 0 (.t 4)),og 14 11 false (.fad 0 (.t 13)),og 15 11 false (.load false 1 (.t 14)),og 16 11 false (.len .slice (.t 15)),og 17 11 false (.bin .geq (.t 12) (.t 16)),o 18 (.pick (.t 11) (.k (.bool true)) (.t 17)),oM 19 18,og 20 19 false (.mv (.t 2)),og 21 19 false (.bin .lss (.t 20) (qI 0)),o 22 (.pick (.t 19) (.k (.bool true)) (.t 21)),oM 23 22,og 24 23 false (.mv (.t 2)),og 25 23 false (.fad 0 (.t 4)),og 26 23 false (.fad 0 (.t 25)),og 27 23 false (.load false 1 (.t 26)),og 28 23 false (.len .slice (.t 27)),og 29 23 false (.bin .geq (.t 24) (.t 28)),o 30 (.pick (.t 23) (.k (.bool true)) (.t 29))] (.cond (.t 30) (sQ [o 8 (.mv (.k (.bool false)))] (.ret)) (.skip))) (.seq (.feet [0,0,2,0,8,0,62,127,255] [o 31 (.load true 2 (.t 4)),oM 32 1,o 33 (.bin .shl (.k (.int .u64 1)) (.t 32)),oM 34 2,o 35 (.bin .shl (.k (.int .u64 1)) (.t 34)),oM 36 3,o 37 (.bsl 1 3 [.int .u64 0] [0,1,2] [.t 33,.t 35,.t 36]),o 38 (.call N.af [.t 31,.t 37]),oM 8 38]) (.ret))
def aS:SF:=⟨39,[.tm 8],sQ [o 4 (.box (.t 0)),o 8 (.mv (.k (.bool false)))] aV⟩
def fd:SC:=sQ [o 5 (.mkf N.au [] [.t 2,.t 3]),oM 4 5] (.ret)
def dO:SF:=⟨6,[.tm 4],sQ [o 2 (.box (.t 0)),o 3 (.box (.t 1)),o 4 (.mv (.k (.nilf)))] fd⟩
def eN:SF:=⟨13,[.tm 5],sQ [o 5 (.mv (.k (.bool false)))] (sQ [oM 6 0,oL 7 2,o 8 (.eq false .bool (.t 6) (.t 7)),oM 9 8,og 10 9 true (.mv (.t 1)),og 11 9 true (.bin .eql (.t 10) (qI 0)),o 12 (.pick (.t 9) (.t 11) (.k (.bool false))),oM 5 12] (.ret))⟩
def dx:SF:=⟨15,[.tm 5],sQ [o 5 (.mv (.k (.bool false)))] (sQ [o 6 (.mv (.k (.int .u64 0)))] (sQ [oM 7 0,oM 8 6,o 9 (.bin .eql (.t 7) (.t 8)),oM 10 9,og 11 10 true (.mv (.t 1)),og 12 10 true (.load false 1 (.t 2)),og 13 10 true (.bin .eql (.t 11) (.t 12)),o 14 (.pick (.t 10) (.t 13) (.k (.bool false))),oM 5 14] (.ret)))⟩
def eO:SF:=⟨13,[.tm 5],sQ [o 5 (.mv (.k (.bool false)))] (sQ [oM 6 0,oL 7 2,o 8 (.bin .eql (.t 6) (.t 7)),oM 9 8,og 10 9 true (.mv (.t 1)),og 11 9 true (.bin .eql (.t 10) (qI 0)),o 12 (.pick (.t 9) (.t 11) (.k (.bool false))),oM 5 12] (.ret))⟩
def cE:SF:=⟨35,[.tm 2],sQ [oK 2 0] (sQ [oM 3 0,o 4 (.bin .shr (.t 3) (.k (.int .u64 1))),o 5 (.bin .and (.t 4) (.k (.int .u64 6148914691236517205))),oM 6 0,o 7 (.bin .and (.t 6) (.k (.int .u64 6148914691236517205))),o 8 (.bin .add (.t 5) (.t 7)),oM 0 8] (sQ [oM 9 0,o 10 (.bin .shr (.t 9) (.k (.int .u64 2))),o 11 (.bin .and (.t 10) (.k (.int .u64 3689348814741910323))),oM 12 0,o 13 (.bin .and (.t 12) (.k (.int .u64 3689348814741910323))),o 14 (.bin .add (.t 11) (.t 13)),oM 0 14] (sQ [oM 15 0,o 16 (.bin .shr (.t 15) (.k (.int .u64 4))),oM 17 0,o 18 (.bin .add (.t 16) (.t 17)),o 19 (.bin .and (.t 18) (.k (.int .u64 1085102592571150095))),oM 0 19] (sQ [oM 20 0,oM 21 0,o 22 (.bin .shr (.t 21) (.k (.int .u64 8))),o 23 (.bin .add (.t 20) (.t 22)),oM 0 23] (sQ [oM 24 0,oM 25 0,o 26 (.bin .shr (.t 25) (.k (.int .u64 16))),o 27 (.bin .add (.t 24) (.t 26)),oM 0 27] (sQ [oM 28 0,oM 29 0,o 30 (.bin .shr (.t 29) (.k (.int .u64 32))),o 31 (.bin .add (.t 28) (.t 30)),oM 0 31] (sQ [oM 32 0,o 33 (.conv .i64 (.t 32)),o 34 (.bin .and (.t 33) (qI 127)),oM 2 34] (.ret))))))))⟩
def a_:SC:=.ops [oM 8 33]
def ba:SC:=.blk 1 (.ops [oL 34 5,oM 35 8,o 36 (.build [.int .i64 0,.bool false] [(0,1),(1,1)] [.t 35,.k (.bool true)]),o 37 (.dyn (.t 34) [.t 36])])
def bc:SC:=.ops [oM 9 69]
def bb:SC:=.blk 3 (.ops [oL 70 5,oM 71 9,o 72 (.build [.int .i64 0,.bool false] [(0,1),(1,1)] [.t 71,.k (.bool false)]),o 73 (.dyn (.t 70) [.t 72])])
def be:SC:=.seq (sQ [oF 38 1 7,oL 39 38,oM 40 39,og 41 40 true (.load false 1 (.t 6)),og 42 40 true (.fad 0 (.t 7)),og 43 40 true (.load false 1 (.t 42)),og 44 40 true (.bin .shr (.t 41) (.t 43)),og 45 40 true (.bin .and (.t 44) (.k (.int .u64 1))),og 46 40 true (.bin .eql (.t 45) (.k (.int .u64 0))),o 47 (.pick (.t 40) (.t 46) (.k (.bool false))),oM 48 47,og 49 48 false (.fad 1 (.t 7)),og 50 48 false (.load false 1 (.t 49)),og 51 48 false (.not (.t 50)),og 52 48 false (.mv (.t 51)),og 53 52 true (.load false 1 (.t 2)),og 54 52 true (.fad 0 (.t 7)),og 55 52 true (.load false 1 (.t 54)),og 56 52 true (.bin .shr (.t 53) (.t 55)),og 57 52 true (.bin .and (.t 56) (.k (.int .u64 1))),og 58 52 true (.bin .eql (.t 57) (.k (.int .u64 1))),og 59 48 false (.pick (.t 52) (.t 58) (.k (.bool false))),o 60 (.pick (.t 48) (.k (.bool true)) (.t 59))] (.cond (.t 60) (.ret) (.skip))) (sQ [oF 61 0 4,oF 62 0 61,oL 63 62,oF 64 0 7,oL 65 64,oX 66 63 65,oL 67 66,o 68 (.call N.ah [.t 67])] (.blk 2 (.rng 74 (.t 68) [69] bc bb)))
def cV:SC:=.seq (sQ [oL 10 1,o 11 (.load true 2 (.t 7)),o 12 (.raw (.lookup 144 (.tmp 10) (.tmp 11) false))] (.cond (.t 12) (.ret) (.skip))) (sQ [oL 13 1,o 14 (.load true 2 (.t 7)),oz (.raw (.mapUpdate 144 (.tmp 13) (.tmp 14) (.const (.bool true))))] (.seq (sQ [oL 15 2,oF 16 0 7,oL 17 16,o 18 (.bin .shr (.t 15) (.t 17)),o 19 (.bin .and (.t 18) (.k (.int .u64 1))),o 20 (.bin .eql (.t 19) (.k (.int .u64 0)))] (.cond (.t 20) (.seq (.feet [0,0,2,6,15,31] [oL 21 3,oF 22 0 7,oL 23 22,o 24 (.bin .shl (.k (.int .u64 1)) (.t 23)),o 25 (.bin .or (.t 21) (.t 24)),oz (.store 1 (.t 3) (.t 25))]) (sQ [oF 26 1 4,oL 27 26,oF 28 0 7,oL 29 28,oX 30 27 29,oL 31 30,o 32 (.call N.ah [.t 31])] (.blk 0 (.rng 74 (.t 32) [33] a_ ba)))) (.skip))) be))
def bZ:SF:=⟨74,[],sQ [o 7 (.box (.t 0))] cV⟩
def fh:SC:=sQ [o 3 (.mkf N.aw [] [.t 1]),oM 2 3] (.ret)
def dU:SF:=⟨4,[.tm 2],sQ [o 1 (.box (.t 0)),o 2 (.mv (.k (.nilf)))] fh⟩
def dZ:SC:=.seq (.blk 1 (.seq (.seq (.feet [0,1,0,7,15,31,31,127,255,511] [oM 10 4,o 11 (.call N.ax [.t 10]),oL 12 2,o 13 (.bin .eql (.t 11) (.t 12)),oM 14 13,og 15 14 true (.mv (.t 0)),og 16 14 true (.mv (.t 4)),og 17 14 true (.dyn (.t 15) [.t 16]),og 18 14 true (.not (.t 17)),o 19 (.pick (.t 14) (.t 18) (.k (.bool false)))]) (.cond (.t 19) (.ret) (.skip))) (sQ [oM 20 4,oL 21 1,o 22 (.bin .eql (.t 20) (.t 21))] (.cond (.t 22) (.ret) (.skip))))) (.ops [oM 5 4,oL 6 1,o 7 (.bin .sub (.t 5) (.t 6)),oL 8 1,o 9 (.bin .and (.t 7) (.t 8)),oM 4 9])
def a7:SF:=⟨23,[],sQ [o 4 (.mv (.k (.int .u64 0)))] (.blk 0 (.loop dZ))⟩
def d8:SC:=.seq (sQ [oM 5 3,o 6 (.bin .neq (.t 5) (.k (.int .u64 0)))] (.cond (.t 6) (.skip) (.exit 0))) (.seq (.blk 1 (sQ [oM 11 0,oM 12 3,o 13 (.call N.aI [.t 12]),o 14 (.dyn (.t 11) [.t 13]),o 15 (.not (.t 14))] (.cond (.t 15) (.ret) (.skip)))) (.ops [oM 7 3,oM 8 3,o 9 (.bin .sub (.t 8) (.k (.int .u64 1))),o 10 (.bin .and (.t 7) (.t 9)),oM 3 10]))
def a9:SF:=⟨16,[],sQ [oL 4 1,oM 3 4] (.blk 0 (.loop d8))⟩
def bT:SF:=⟨8,[.tm 2],sQ [oK 2 0] (.seq (.cond (.k (.bool false)) (sQ [oM 3 0,o 4 (.conv .u32 (.t 3)),o 5 (.call N.aL [.t 4]),oM 2 5] (.ret)) (.skip)) (sQ [oM 6 0,o 7 (.call N.aG [.t 6]),oM 2 7] (.ret)))⟩
def bH:SF:=⟨14,[.tm 2],sQ [oK 2 0] (.seq (sQ [oM 3 0,o 4 (.bin .eql (.t 3) (.k (.int .u64 0)))] (.cond (.t 4) (sQ [oK 2 64] (.ret)) (.skip))) (sQ [oM 5 0,oM 6 0,o 7 (.un .neg (.t 6)),o 8 (.bin .and (.t 5) (.t 7)),o 9 (.bin .mul (.t 8) (.k (.int .u64 285870213051353865))),o 10 (.bin .shr (.t 9) (.k (.int .u64 58))),o 11 (.ixa 64 1 (.k (.tptr 0 64 [[.int .u8 0,.int .u8 1,.int .u8 56,.int .u8 2,.int .u8 57,.int .u8 49,.int .u8 28,.int .u8 3,.int .u8 61,.int .u8 58,.int .u8 42,.int .u8 50,.int .u8 38,.int .u8 29,.int .u8 17,.int .u8 4,.int .u8 62,.int .u8 47,.int .u8 59,.int .u8 36,.int .u8 45,.int .u8 43,.int .u8 51,.int .u8 22,.int .u8 53,.int .u8 39,.int .u8 33,.int .u8 30,.int .u8 24,.int .u8 18,.int .u8 12,.int .u8 5,.int .u8 63,.int .u8 55,.int .u8 48,.int .u8 27,.int .u8 60,.int .u8 41,.int .u8 37,.int .u8 16,.int .u8 46,.int .u8 35,.int .u8 44,.int .u8 21,.int .u8 52,.int .u8 32,.int .u8 23,.int .u8 11,.int .u8 54,.int .u8 26,.int .u8 40,.int .u8 15,.int .u8 34,.int .u8 20,.int .u8 31,.int .u8 10,.int .u8 25,.int .u8 14,.int .u8 19,.int .u8 9,.int .u8 13,.int .u8 8,.int .u8 7,.int .u8 6]] 0 0)) (.t 10)),oL 12 11,o 13 (.conv .i64 (.t 12)),oM 2 13] (.ret)))⟩
theorem iF:nFn C0 N.aJ=some cO:=by kernel_rfl
theorem kK:nFn C0 N.ap=some eV:=by kernel_rfl
theorem dt (t:T)(g:G)(xs:List Od):SO.foot C0 t g (.call N.ap xs)=ah ((dC t xs).flatMap (au g.h ay)):=by kernel_rfl
theorem jU (d:Nat)(xs:List AV)(g:G):aU C0 d N.ap xs g=ax (I C0) d g N.ap xs:=by kernel_rfl
theorem lV:nFn C0 N.ae=some eL:=by kernel_rfl
theorem jR (t:T)(g:G)(xs:List Od):SO.foot C0 t g (.call N.ae xs)=ah ((dC t xs).flatMap (au g.h ay)):=by kernel_rfl
theorem jQ (d:Nat)(xs:List AV)(g:G):aU C0 d N.ae xs g=ax (I C0) d g N.ae xs:=by kernel_rfl
theorem ja:nFn C0 N.aE=some dw:=by kernel_rfl
theorem iE (d:Nat)(xs:List AV)(g:G):aU C0 d N.aE xs g=ax (I C0) d g N.aE xs:=by kernel_rfl
theorem mN:nFn C0 N.ak=some gx:=by kernel_rfl
theorem eF (t:T)(g:G)(xs:List Od):SO.foot C0 t g (.call N.ak xs)=ah ((dC t xs).flatMap (au g.h ay)):=by kernel_rfl
theorem lR (d:Nat)(xs:List AV)(g:G):aU C0 d N.ak xs g=ax (I C0) d g N.ak xs:=by kernel_rfl
theorem kG:nFn C0 N.az=some eg:=by kernel_rfl
theorem jn (d:Nat)(xs:List AV)(g:G):aU C0 d N.az xs g=ax (I C0) d g N.az xs:=by kernel_rfl
theorem mL:nFn C0 N.ay=some gf:=by kernel_rfl
theorem lT (t:T)(g:G)(xs:List Od):SO.foot C0 t g (.call N.ay xs)=ah ((dC t xs).flatMap (au g.h ay)):=by kernel_rfl
theorem kH (d:Nat)(xs:List AV)(g:G):aU C0 d N.ay xs g=ax (I C0) d g N.ay xs:=by kernel_rfl
theorem iW:nFn C0 N.ax=some cT:=by kernel_rfl
theorem bp (t:T)(g:G)(xs:List Od):SO.foot C0 t g (.call N.ax xs)=ah ((dC t xs).flatMap (au g.h ay)):=by kernel_rfl
theorem hK (d:Nat)(xs:List AV)(g:G):aU C0 d N.ax xs g=ax (I C0) d g N.ax xs:=by kernel_rfl
theorem mm:nFn C0 N.aD=some cG:=by kernel_rfl
theorem kr (d:Nat)(xs:List AV)(g:G):aU C0 d N.aD xs g=ax (I C0) d g N.aD xs:=by kernel_rfl
theorem gt:nFn C0 N.af=some bK:=by kernel_rfl
theorem fk (t:T)(g:G)(xs:List Od):SO.foot C0 t g (.call N.af xs)=ah ((dC t xs).flatMap (au g.h ay)):=by kernel_rfl
theorem fp (d:Nat)(xs:List AV)(g:G):aU C0 d N.af xs g=ax (I C0) d g N.af xs:=by kernel_rfl
theorem ig:nFn C0 N.aB=some cA:=by kernel_rfl
theorem gH (d:Nat)(xs:List AV)(g:G):aU C0 d N.aB xs g=ax (I C0) d g N.aB xs:=by kernel_rfl
theorem i4:nFn C0 N.aC=some aS:=by kernel_rfl
theorem iq (d:Nat)(xs:List AV)(g:G):aU C0 d N.aC xs g=ax (I C0) d g N.aC xs:=by kernel_rfl
theorem jS:nFn C0 N.aA=some dO:=by kernel_rfl
theorem i6 (d:Nat)(xs:List AV)(g:G):aU C0 d N.aA xs g=ax (I C0) d g N.aA xs:=by kernel_rfl
theorem lG:nFn C0 N.aa=some eN:=by kernel_rfl
theorem jr:nFn C0 N.aq=some dx:=by kernel_rfl
theorem lU:nFn C0 N.am=some eO:=by kernel_rfl
theorem im:nFn C0 N.aF=some cE:=by kernel_rfl
theorem gL (d:Nat)(xs:List AV)(g:G):aU C0 d N.aF xs g=ax (I C0) d g N.aF xs:=by kernel_rfl
theorem gM:nFn C0 N.aH=some bZ:=by kernel_rfl
theorem jT:nFn C0 N.ah=some dU:=by kernel_rfl
theorem iX (d:Nat)(xs:List AV)(g:G):aU C0 d N.ah xs g=ax (I C0) d g N.ah xs:=by kernel_rfl
theorem iY:nFn C0 N.au=some a7:=by kernel_rfl
theorem iV:nFn C0 N.aw=some a9:=by kernel_rfl
theorem gK:nFn C0 N.aI=some bT:=by kernel_rfl
theorem fH (d:Nat)(xs:List AV)(g:G):aU C0 d N.aI xs g=ax (I C0) d g N.aI xs:=by kernel_rfl
theorem fL:nFn C0 N.aG=some bH:=by kernel_rfl
theorem e_ (d:Nat)(xs:List AV)(g:G):aU C0 d N.aG xs g=ax (I C0) d g N.aG xs:=by kernel_rfl
theorem iT {α:Type}{f:Nat->α->Nat->α->Bool}{i:Nat}{x:α}:∀{l:List α} {j:Nat},(∀b y,l[b]?=some y->f i x (j+b) y=true)->di f i x j l=true
 | [],_,_=>rfl
 | y::r,j,h=>by
  simp only[di,Bool.and_eq_true]
  refine ⟨by simpa using h 0 y rfl,iT fun b z hb=>?_⟩
  have:=h (b+1) z (by simpa using hb)
  rwa [show j+(b+1)=j+1+b by omega] at this
theorem mw {α:Type}{f:Nat->α->Nat->α->Bool}:∀{l:List α} {i:Nat},(∀a b x y,a<b->l[a]?=some x->l[b]?=some y->f (i+a) x (i+b) y=true)->fg f i l=true
 | [],_,_=>rfl
 | x::r,i,h=>by
  simp only[fg,Bool.and_eq_true]
  refine ⟨iT fun b y hb=>?_,mw fun a b x' y hab ha hb=>?_⟩
  ·have:=h 0 (b+1) x y (by omega) rfl (by simpa using hb)
   rwa [Nat.add_zero,show i+(b+1)=i+1+b by omega] at this
  ·have:=h (a+1) (b+1) x' y (by omega) (by simpa using ha) (by simpa using hb)
   rwa [show i+(a+1)=i+1+a by omega,show i+(b+1)=i+1+b by omega] at this
theorem mF {pm:List Nat}:∀{l:List Foot} {i:Nat},(∀f∈l,f.lk.sr=[])->jl pm i l=true
 | [],_,_=>rfl
 | x::r,i,h=>by
  simp only[jl,h x (by simp)]
  exact mF fun f hf=>h f (by simp[hf])
def yk (pm:List Nat)(ws:List Bool)(L:List (Nat×Nat))(i j:Nat):Bool:=(pm.getD j 0).testBit i || (!(ws.getD i false)&&!(ws.getD j false)) || L.contains (i,j)
def AN (pm:List Nat)(ws:List Bool)(L:List (Nat×Nat)):Bool:=(List.range ws.length).all fun j=>(List.range j).all fun i=>yk pm ws L i j
theorem bU {pm:List Nat}{fs:List Foot}(ws:List Bool)(L:List (Nat×Nat))(hw:All2 (fun (f:Foot) (w:Bool)=>f.lk.sr=[]/\(w=false->f.wr=[])) fs ws)(hd:AN pm ws L=true)
  (hL:∀p∈L,∀x y,fs[p.1]?=some x->fs[p.2]?=some y->cd x y=true):gR pm fs=true:=by
 unfold gR
 rw[aa,if_pos]
 ·exact mF fun f hf=>by
   obtain ⟨i,hi,rfl⟩:=List.mem_iff_getElem.1 hf
   obtain ⟨w,-,h⟩:=hw.get (List.getElem?_eq_getElem hi)
   exact h.1
 ·refine mw fun a b x y hab ha hb=>?_
  simp only[Nat.zero_add]
  obtain ⟨wa,hwa,ka⟩:=hw.get ha
  obtain ⟨wb,hwb,kb⟩:=hw.get hb
  have hbl:=(List.getElem?_eq_some_iff.1 hwb).1
  have:=List.all_eq_true.1 (List.all_eq_true.1 hd b (List.mem_range.2 hbl)) a (List.mem_range.2 hab)
  simp only[yk,Bool.or_eq_true] at this
  rcases this with (h | h) | h
  ·rw[h,Bool.true_or]
  ·simp only[List.getD_eq_getElem?_getD,hwa,hwb,Option.getD_some,Bool.and_eq_true,Bool.not_eq_true'] at h
   have ex:=ka.2 h.1
   have ey:=kb.2 h.2
   simp only[cd,f_,eK,ex,ey,Bool.and_self,Bool.or_true]
  ·rw[hL (a,b) (List.contains_iff_mem.1 h) x y ha hb,Bool.or_true]
structure Mech where
 card:Int
 frm:List Int
 noise:List Int
 out:List Int
structure Causal where
 grain:Int
 roots:List (List Int)
 nodes:List Mech
structure Node where
 card:Int
 parents:List Int
 rows:List (List Int)
structure Net where
 grain:Int
 nodes:List Node
structure Factor where
 vars:List Int
 cards:List Int
 w:List Int
instance : Rp Mech:=Rp.via fun m:Mech=>(m.card,m.frm,m.noise,m.out)
instance : Rp Causal:=Rp.via fun m:Causal=>(m.grain,m.roots,m.nodes)
instance : Rp Node:=Rp.via fun m:Node=>(m.card,m.parents,m.rows)
instance : Rp Net:=Rp.via fun m:Net=>(m.grain,m.nodes)
instance : Rp Factor:=Rp.via fun m:Factor=>(m.vars,m.cards,m.w)
section
variable {P:Nat->Prop}{k:Nat}{h:H}{cs:List AV}
end
theorem SlR.len {α:Type} [Rp α]{P:Nat->Prop}{k:Nat}{h:H}{l:List α}{v:AV}(r:SlR P k h l v)(g:G):ib .slice v g=.val (.int .i64 (l.length:Int)):=by
 obtain ⟨rows,h1,h2⟩:=r.rows
 rw[xa h1,h2.len]
theorem SlR.tree {α:Type} [Rp α]{k k':Nat}{h h':H}{l:List α}{v:AV}(r:SlR NoP k h l v)(hk:k<=k'):SlR NoP k' h' l v:=by
 obtain ⟨w,hw,q⟩:=Rp.tree (P:=NoP) (k':=k') (h':=h') (show Rp.rp NoP k h l [v] from ⟨v,rfl,r⟩) hk
 injection hw with hw;subst hw;exact q
theorem BR {α:Type} [Rp α]{P:Nat->Prop}{k:Nat}{h:H}{l:List α}{v:AV}(r:SlR P k h l v)(d:Nat)(hd:Rp.dp (List α)<=20:=by decide) :
  ∃v',Hx.snap h d ay v=some v'/\∀h',SlR NoP (max k d) h' l v':=by
 obtain ⟨v',e,w,hw,q⟩:=xU (iN l hd) (by decide) d (show One l P k h v from ⟨v,rfl,r⟩)
 injection hw with hw;subst hw
 exact ⟨v',e,fun h'=>q.tree (Nat.le_refl _)⟩
theorem SlR.all {α:Type} [Rp α]{k:Nat}{h:H}{l:List α}{v:AV}(r:SlR NoP k h l v) :
  ∃rows:List (List AV),(∀h',aw h' (Rp.sz α) v=some rows)/\rows.length=l.length/\(∀(i:Nat) (x:α),l[i]?=some x->∃row,rows[i]?=some row/\Rp.rp NoP k .nil x row)/\(0<l.length->nY v=true):=by
 have r0:=(r.tree (h':=.nil) (Nat.le_refl _))
 obtain ⟨rows,h1,h2⟩:=r0.rows
 refine ⟨rows,fun h'=>?_,h2.len.symm,fun i x hi=>h2.get hi,fun hl=>pZ h1 (i:=0) (by rw[<-h2.len];exact hl)⟩
 rw[<-h1]
 exact mz fun id ep off len lim e=>by subst e;exact r.2.1.elim
theorem fK {P:Nat->Prop}{k:Nat}{h:H}{l:List Nat}{v:AV}(r:SlR P k h l v):∀x∈l,x<18446744073709551616:=by
 obtain ⟨rows,h1,h2⟩:=r.rows
 intro x hx
 obtain ⟨i,hi,e⟩:=List.mem_iff_getElem.1 hx
 obtain ⟨row,h3,h4⟩:=h2.get (i:=i) (a:=x) (by rw[List.getElem?_eq_getElem hi,e])
 exact (nJ.1 h4).2
end
end Hx
end
section
namespace Hx
open Go
noncomputable section
theorem jL {C:Cfg}{nt d:Nat}{rd:Option Nat}{c:Code}{t:T}{df:List ADf}{g:G}{Q:QT}(h:wp C d rd (cJ C nt c) Q t df g):((I C).code nt d rd c t df g).sat Q:=by
 rw[td];exact Bi _ _ _ _ _ h
end
end Hx
end
section
section
namespace Hx
open Go
noncomputable section
theorem fS {α:Type}{l:List α}{j:Nat}(h:j<l.length):∃x,l[j]?=some x/\l.take (j+1)=l.take j++[x]/\x∈l :=
 ⟨l[j],List.getElem?_eq_getElem h,by rw[List.take_add_one,List.getElem?_eq_getElem h];rfl,List.getElem_mem h⟩
def S.bE (l:List Int):Int:=l.foldl (fun s x=>IntKind.wrap .i64 (s*x)) 1
def S.bm (l:List Int)(n:Int)(i:Nat):Bool:=decide (0<=l[i]?.getD 0)&&decide (l[i]?.getD 0<n)&&(i == 0 || decide (l[i - 1]?.getD 0<l[i]?.getD 0))
def S.aY (l:List Int)(n:Int):Bool:=(List.range l.length).all (S.bm l n)
def S.az (n:Nat):Nat:=1*2 ^ n % 18446744073709551616
def S.a_ (l:List Int):Nat:=l.foldl (fun s x=>s ||| S.az x.toNat) 0
theorem qa (n:Nat):S.az n<18446744073709551616:=Nat.mod_lt _ (by decide)
theorem aK (k':IntKind)(n:Nat):aT .shl (.int .u64 1) (.int k' (n:Int))=.val (.int .u64 (S.az n:Int)):=u4 k' 1 n
def S.aS (s v:Nat):Bool:=s / 2 ^ v &&& 1 == 1
def S.ax (p:List Nat)(s:Nat)(j:Nat):Nat:=(List.range j).foldl (fun s v=>if S.aS s v then s ||| p[v]?.getD 0 else s) s
def S.up (p:List Nat)(s:Nat)(j:Nat):Nat:=(List.range j).foldl (fun s _=>S.ax p s p.length) s
theorem eM (p:List Nat)(s j:Nat):S.ax p s (j+1)=if S.aS (S.ax p s j) j then S.ax p s j ||| p[j]?.getD 0 else S.ax p s j:=by
 unfold S.ax
 rw[List.range_succ,List.foldl_append];rfl
theorem gT (p:List Nat)(s j:Nat):S.up p s (j+1)=S.ax p (S.up p s j) p.length:=by
 unfold S.up
 rw[List.range_succ,List.foldl_append];rfl
def S.aG (p:List Nat):Bool:=(List.range p.length).all fun v=>!S.aS (S.up p (p[v]?.getD 0) p.length) v
def S.aA (l:List Int):Int:=l.foldl (·*·) 1
def S.bz (m:Causal)(p:Int):Int:=(m.nodes[p.toNat]?.map (·.card)).getD 0
def S.bf (m:Causal)(r:Int):Int:=(m.roots[r.toNat]?.map fun r=>(r.length:Int)).getD 0
def S.aO (a b:Nat):Nat:=a ^^^ (a &&& b)
theorem cm {n:Nat}(h:n<64):S.az n=2 ^ n:=by
 unfold S.az
 rw[Nat.one_mul,Nat.mod_eq_of_lt]
 exact Nat.pow_lt_pow_right (a:=2) (by decide) h
def S.br (m:Causal)(x:Mech):List Int:=x.frm.map (S.bz m)++x.noise.map (S.bf m)
def S.bg (m:Causal):Int:=S.aA (m.roots.map fun r=>(r.length:Int))
end
end Hx
end
section
namespace Hx
open Go
def Sub (a s:Nat):Prop:=∀v,a.testBit v=true->s.testBit v=true
theorem li (s v:Nat):S.aS s v=s.testBit v:=by
 rw[Nat.testBit_eq_decide_div_mod_eq,S.aS,Nat.and_one_is_mod]
 rw[Bool.eq_iff_iff,beq_iff_eq,decide_eq_true_iff]
theorem pq {a s:Nat}:S.aO a s=0↔Sub a s:=by
 constructor
 ·intro h v hv
  have:=congrArg (·.testBit v) h
  simp[S.aO,hv] at this
  exact this
 ·intro h
  refine Nat.eq_of_testBit_eq fun v=>?_
  have:=h v
  simp only[S.aO,Nat.testBit_xor,Nat.testBit_and,Nat.zero_testBit]
  cases ha:a.testBit v
  ·rfl
  ·rw[this ha];rfl
theorem iU (a b v:Nat):(a ||| b).testBit v=(a.testBit v || b.testBit v):=Nat.testBit_or a b v
theorem ta {n:Nat}(h:n<64)(v:Nat):(S.az n).testBit v=decide (n=v):=by rw[cm h,Nat.testBit_two_pow]
section
variable {p:List Nat}
def Par (p:List Nat)(v:Nat):Nat:=p[v]?.getD 0
def Cl (p:List Nat)(s:Nat):Prop:=∀v,v<p.length->s.testBit v=true->Sub (Par p v) s
theorem o7 {s t:Nat}(hc:Cl p t)(h:Sub s t):∀j,j<=p.length->Sub (S.ax p s j) t
 | 0,_=>h
 | j+1,hj=>by
  have ih:=o7 hc h j (by omega)
  rw[eM]
  split
  ·rename_i hb
   rw[li] at hb
   intro v hv
   rw[iU,Bool.or_eq_true] at hv
   rcases hv with hv | hv
   ·exact ih v hv
   ·exact hc j (by omega) (ih j hb) v hv
  ·exact ih
theorem nQ {s t:Nat}(hc:Cl p t)(h:Sub s t):∀j,Sub (S.up p s j) t
 | 0=>h
 | j+1=>by rw[gT];exact o7 hc (nQ hc h j) _ (Nat.le_refl _)
def tw (p:List Nat)(s:Nat):Prop:=Cl p s/\∀v,v<p.length->s.testBit v=true->(S.up p (Par p v) p.length).testBit v=false
theorem lZ:S.aG p=true↔∀v,v<p.length->(S.up p (Par p v) p.length).testBit v=false:=by
 unfold S.aG
 rw[List.all_eq_true]
 constructor
 ·intro h v hv
  have:=h v (List.mem_range.2 hv)
  rw[li] at this
  simpa [Par] using this
 ·intro h v hv
  have:=h v (List.mem_range.1 hv)
  rw[li]
  simpa [Par] using this
def bct (s:Nat):Nat->Nat
 | 0=>0
 | n+1=>bct s n+(if s.testBit n then 1 else 0)
theorem sR (s:Nat):∀n,bct s n<=n
 | 0=>Nat.le_refl _
 | n+1=>by have:=sR s n;unfold bct;split<;>omega
theorem rH {a s:Nat}(h:Sub a s):∀n,bct a n<=bct s n
 | 0=>Nat.le_refl _
 | n+1=>by
  have:=rH h n
  unfold bct
  split
  ·rename_i hb;rw[if_pos (h n hb)];omega
  ·split<;>omega
theorem ye {a s:Nat}(h:Sub a s){v:Nat}(hv:s.testBit v=true)(ha:a.testBit v=false):∀n,v<n->bct a n<bct s n
 | 0,h0=>by omega
 | n+1,hn=>by
  unfold bct
  by_cases hvn:v=n
  ·subst hvn
   have:=rH h v
   rw[if_pos hv,ha];simp;omega
  ·have:=ye h hv ha n (by omega)
   split
   ·rename_i hb;rw[if_pos (h n hb)];omega
   ·split<;>omega
theorem sw {s:Nat}:∀n,bct s n=n->∀v,v<n->s.testBit v=true
 | 0,_,v,h=>by omega
 | n+1,h,v,hv=>by
  unfold bct at h
  have:=sR s n
  split at h
  ·rename_i hb
   by_cases e:v=n
   ·subst e;exact hb
   ·exact sw n (by omega) v (by omega)
  ·omega
theorem lW {a s:Nat}(h:Sub a s)(h':Sub s a):a=s:=Nat.eq_of_testBit_eq fun v=>by
 cases ha:a.testBit v
 ·cases hs:s.testBit v
  ·rfl
  ·rw[h' v hs] at ha;cases ha
 ·rw[h v ha]
theorem xk {a s:Nat}(h:Sub a s):a<=s:=by
 have:a ||| s=s:=Nat.eq_of_testBit_eq fun v=>by
  rw[iU]
  cases ha:a.testBit v
  ·simp
  ·rw[h v ha];rfl
 rw[<-this];exact Nat.left_le_or
theorem ir (s:Nat):∀j,Sub s (S.ax p s j)
 | 0=>fun _ h=>h
 | j+1=>by
  have ih:=ir s j
  rw[eM]
  split
  ·intro v hv;rw[iU,ih v hv];rfl
  ·exact ih
theorem tx {s:Nat}{j k:Nat}(h:j<=k):Sub (S.ax p s j) (S.ax p s k):=by
 induction h with
 | refl=>exact fun _ h=>h
 | step _ ih =>
  rw[eM]
  split
  ·intro v hv;rw[iU,ih v hv];rfl
  ·exact ih
theorem w_ {s:Nat}(h:S.ax p s p.length=s):Cl p s:=by
 intro v hv hb u hu
 have h1:(S.ax p s v).testBit v=true:=ir s v v hb
 have h2:(S.ax p s (v+1)).testBit u=true:=by
  rw[eM,li,h1,if_pos rfl,iU]
  have:(p[v]?.getD 0).testBit u=true:=hu
  rw[this];simp
 have:=tx (p:=p) (s:=s) (show v+1<=p.length by omega) u h2
 rwa [h] at this
theorem ll {s n v:Nat}(h:s<2 ^ n)(hv:s.testBit v=true):v<n:=by
 rcases Nat.lt_or_ge v n with h1 | h1
 ·exact h1
 ·rw[Nat.testBit_lt_two_pow (Nat.lt_of_lt_of_le h (Nat.pow_le_pow_right (by decide) h1))] at hv;cases hv
theorem By {f:Nat->Nat}{n:Nat}(hm:∀j,Sub (f j) (f (j+1)))(hb:∀j,f j<2 ^ n)(hs:∀j,f (j+1)=f j->f (j+2)=f (j+1)):f (n+1)=f n:=by
 have key:∀j,j<=bct (f j) n\/f (j+1)=f j:=by
  intro j
  induction j with
  | zero=>exact .inl (Nat.zero_le _)
  | succ j ih =>
   rcases ih with ih | ih
   ·by_cases e:f (j+1)=f j
    ·exact .inr (hs j e)
    ·left
     have:∃v,(f (j+1)).testBit v=true/\(f j).testBit v=false:=by
      apply Classical.byContradiction
      intro hno
      apply e
      refine lW (fun v hv=>?_) (hm j)
      cases hc:(f j).testBit v
      ·exact absurd ⟨v,hv,hc⟩ hno
      ·rfl
     obtain ⟨v,h1,h2⟩:=this
     have:=ye (hm j) h1 h2 n (ll (hb _) h1)
     omega
   ·exact .inr (hs j ih)
 rcases key n with h | h
 ·have hc:bct (f n) n=n:=by have:=sR (f n) n;omega
  refine lW (fun v hv=>?_) (hm n)
  exact sw n hc v (ll (hb _) hv)
 ·exact h
theorem ya {a b n:Nat}(h:a<2 ^ n)(h':b<2 ^ n):a ||| b<2 ^ n:=Nat.or_lt_two_pow h h'
theorem jz {v:Nat}(hp:∀x∈p,x<2 ^ p.length):Par p v<2 ^ p.length:=by
 unfold Par
 cases h:p[v]? with
 | none=>exact Nat.pow_pos (by decide)
 | some x=>exact hp x (List.mem_of_getElem? h)
theorem mc (hp:∀x∈p,x<2 ^ p.length){s:Nat}(hs:s<2 ^ p.length):∀j,S.ax p s j<2 ^ p.length
 | 0=>hs
 | j+1=>by
  have ih:=mc hp hs j
  rw[eM]
  split
  ·exact ya ih (jz hp)
  ·exact ih
theorem qt (hp:∀x∈p,x<2 ^ p.length){s:Nat}(hs:s<2 ^ p.length):∀j,S.up p s j<2 ^ p.length
 | 0=>hs
 | j+1=>by rw[gT];exact mc hp (qt hp hs j) _
theorem l4 (hp:∀x∈p,x<2 ^ p.length){s:Nat}(hs:s<2 ^ p.length):Cl p (S.up p s p.length):=by
 apply w_
 rw[<-gT]
 exact By (f:=fun j=>S.up p s j) (fun j=>by rw[gT];exact ir _ _) (fun j=>qt hp hs j) (fun j e=>by
  have e:S.up p s (j+1)=S.up p s j:=e
  show S.up p s (j+1+1)=S.up p s (j+1)
  rw[gT,e,<-gT,e])
theorem mY {s:Nat}:∀j,Sub s (S.up p s j)
 | 0=>fun _ h=>h
 | j+1=>fun v hv=>by rw[gT];exact ir _ _ v (mY j v hv)
end
end Hx
end
section
namespace Hx
open Go
noncomputable section
theorem iG {a b:List Nat}(h:∀i∈a,∀j∈b,i≠j):meets a b=false:=by
 simp only[meets,List.any_eq_false]
 intro i hi hc
 exact h i hi i (List.contains_iff_mem.1 hc) rfl
theorem yH {x y:Foot}(hb:x.lk.big=false)(hb2:y.lk.big=false)(hs:x.lk.sr=[])(hs2:y.lk.sr=[])(h1:∀i∈x.wr,∀j∈y.wr,i≠j)(h2:∀i∈x.wr,∀j∈y.lk.rd,i≠j)(h3:∀i∈y.wr,∀j∈x.lk.rd,i≠j) :
  cd x y=true:=by
 have m1:=iG h1
 have m2:=iG h2
 have m3:=iG h3
 have m4:meets y.wr x.wr=false:=iG fun i hi j hj e=>h1 j hj i hi e.symm
 have m5:∀l:List Nat,meets l []=false:=fun l=>by simp[meets]
 simp only[cd,f_,eK,hb,hb2,hs,hs2,m1,m2,m3,m4,m5,fst1,List.map_nil,Bool.not_false,Bool.and_self,Bool.true_or]
 split<;>split<;>rfl
theorem pL (z:AV)(k k' k2:IntKind)(x y w:Int)(g:G):zL 1 3 [z] [0,1,2] [.int k x,.int k' y,.int k2 w] g=.upd (.hsl g.nx 0 0 3 none) (g.new (.cells 1 [[.int k x],[.int k' y],[.int k2 w]] 0 false false)):=rfl
theorem sV {g:G}{b sz:Nat}{u:AV}{rows:List (List AV)}(hu:Own g b u sz rows){n:Nat}(hn:n<=rows.length) :
  ∃y,wA sz u none (some (.int .i64 (n:Int))) g=.val y/\aw g.h sz y=some (rows.take n):=by
 rcases hu with ⟨rfl,rfl⟩ | ⟨id,ep,lo,h1,h2,rfl,h3⟩
 ·have:n=0:=by simpa using hn
  subst this
  exact ⟨.nils,rfl,rfl⟩
 ·simp only[wA,iz,h3,Nat.beq_refl,Nat.beq_refl,Bool.true_and,ap,Nat.zero_add,aa,Nat.ble_eq,Nat.le_refl,if_true,aR,Option.getD_none,Nat.sub_zero]
  simp only[eo]
  rw[show af (n.ble rows.length) (some n) none=some n from by rw[aa,if_pos (by simpa using hn)]]
  dsimp only
  by_cases h0:rows=[]
  ·subst h0
   have:n=0:=by simpa using hn
   subst this
   cases lo
   ·exact ⟨_,rfl,rfl⟩
   ·exact ⟨_,rfl,it _ _ _ _⟩
  ·have hb:rows.length.beq 0=false:=by cases rows with | nil=>exact absurd rfl h0 | cons a l=>rfl
   rw[hb]
   refine ⟨_,rfl,?_⟩
   rw[fZ,h3,dA,if_pos (by omega),List.drop_zero]
theorem tk {g:G}{b sz:Nat}{u:AV}{rows:List (List AV)}(hu:Own g b u sz rows){n:Nat}(hn:n<=rows.length) :
  ∃y,wA sz u (some (.int .i64 (n:Int))) none g=.val y/\aw g.h sz y=some (rows.drop n):=by
 rcases hu with ⟨rfl,rfl⟩ | ⟨id,ep,lo,h1,h2,rfl,h3⟩
 ·have:n=0:=by simpa using hn
  subst this
  exact ⟨.nils,rfl,rfl⟩
 ·simp only[wA,iz,h3,Nat.beq_refl,Nat.beq_refl,Bool.true_and,ap,Nat.zero_add,aa,Nat.ble_eq,Nat.le_refl,if_true,aR,Option.getD_none,Nat.sub_zero]
  simp only[eo]
  rw[show af (n.ble rows.length) (some n) none=some n from by rw[aa,if_pos (by simpa using hn)]]
  dsimp only
  by_cases h0:rows.length=n
  ·subst h0
   rw[if_pos (Nat.beq_refl _),List.drop_length]
   cases lo
   ·exact ⟨_,rfl,rfl⟩
   ·exact ⟨_,rfl,it _ _ _ _⟩
  ·rw[if_neg (fun e=>h0 (Nat.eq_of_beq_eq_true e))]
   refine ⟨_,rfl,?_⟩
   rw[fZ,h3,dA,if_pos (by omega),List.take_of_length_le (by simp)]
def S.aI (os:List UInt8)(k:Nat):Nat:=if k<os.length then ((os[k]?.map UInt8.toNat).getD 0) % (k+1) else 0
def S.ap (os:List UInt8):Nat->List Int
 | 0=>[]
 | k+1=>(S.ap os k).take (S.aI os k)++(k:Int)::(S.ap os k).drop (S.aI os k)
theorem jp (os:List UInt8):∀k,(S.ap os k).length=k
 | 0=>rfl
 | k+1=>by simp only[S.ap,List.length_append,List.length_cons,List.length_take,List.length_drop,jp os k];omega
def S.bc (cards:List Int):List Int->Nat->List Int×Bool
 | vals,0=>(vals,false)
 | vals,k+1=>if (vals[k]?.getD 0)+1<(cards[k]?.getD 0) then (vals.set k ((vals[k]?.getD 0)+1),true) else S.bc cards (vals.set k 0) k
def S.bb (cards vals:List Int):List Int×Bool:=S.bc cards vals vals.length
def S.a8 (cards:List Int):Nat->List Int->List (List Int)
 | 0,_=>[]
 | f+1,v=>v::(if (S.bb cards v).2 then S.a8 cards f (S.bb cards v).1 else [])
def S.bF (cards:List Int):List (List Int):=S.a8 cards (S.aA cards).toNat (List.replicate cards.length 0)
def S.aT:List Int->List Int->Int
 | _::cs,v::vs=>v*S.aA cs+S.aT cs vs
 | _,_=>0
end
end Hx
end
section
namespace Hx
open Go
def S.bp (x:Mech)(roots:List Int)(V:Nat->Int):List Int:=(x.frm.map fun q=>V q.toNat)++(x.noise.map fun r=>roots[r.toNat]?.getD 0)
def S.bw (m:Causal)(roots act:List Int)(V:Nat->Int)(i:Nat)(x:Mech):Int:=if 0<=act[i]?.getD 0 then act[i]?.getD 0 else x.out[(S.aT (S.br m x) (S.bp x roots V)).toNat]?.getD 0
def Sol (m:Causal)(roots act:List Int)(V:Nat->Int):Prop:=∀(i:Nat) (x:Mech),m.nodes[i]?=some x->V i=S.bw m roots act V i x
noncomputable def S.V (m:Causal)(roots act:List Int):Nat->Int:=Classical.epsilon (Sol m roots act)
noncomputable def S.bD (m:Causal)(roots act:List Int):List Int:=(List.range m.nodes.length).map (S.V m roots act)
end Hx
end
section
namespace Hx
open Go
noncomputable section
def hz (cs vs:List Int)(j:Nat):Int:=((cs.zip vs).take j).foldl (fun a p=>a*p.1+p.2) 0
section
variable {d k:Nat}{m:Causal}{roots act:List Int}{V:Nat->Int}{a b w u:AV}{p1 p2 p3 p4 iu:Nat}{hid:Int}{r:Nat->Nat}
end
end
end Hx
end
section
namespace Hx
open Go
noncomputable section
theorem cw (ag:Bool)(n l sz off:Nat)(row:List AV)(g:G):ik ag n (.tptr l sz [row] 0 off) g=orV (bg ag n row off):=rfl
section
variable {d:Nat}{m:Causal}{a b:AV}
end
end
end Hx
end
section
namespace Hx
open Go
noncomputable section
theorem l0 {C:Cfg}{d:Nat}{r:List SR}{t:T}{g:G}{K:AV->G->Prop}{id:Nat}(hg:g.h.get id=.dfr true)(h:km r t (g.put id (.dfr false)) fun vs=>K (cZ vs) (g.put id (.dfr false))):i_ C d r t [.mark id] g K:=by
 unfold i_
 have:cx (I C) d [.mark id] g=some (g.put id (.dfr false)):=by
  simp only[cx,G.get_eq,hg]
 rw[this];exact h
def Fam (g:G)(b K:Nat)(V:Nat->AV)(W:Nat->List (List AV)):Prop :=
 (∀k,k<K->Own g b (V k) 1 (W k))/\∀k l,k<K->l<K->k≠l->∀id,vid (V k)=some id->vid (V l)≠some id
def Co (c:Nat->Int)(V:Nat->AV)(i:Nat):List AV:=[.int .i64 (c i),V (3*i+1),V (3*i+2),V (3*i+3)]
def yR (n:Nat)(c:Nat->Int)(V:Nat->AV):List (List AV):=(List.range n).map (Co c V)
structure ME where
 (n p4 q i5 p7 i9 b:Nat)
 (nv w5 w9 e7:AV)
 (gr:Int)
 (row0:List AV)
 (prow:List (List AV))
 (us:List UInt8)
structure ME.Ok (e:ME):Prop where
 ord:1<e.q/\e.q<e.p4/\e.p4<e.i5/\e.i5<e.p7/\e.p7<e.i9/\e.i9<e.b
 n1:1<=e.n/\e.n<=4
 g1:2<=e.gr/\e.gr<=12
 vn:vid e.nv=some e.q
 v5:vid e.w5=some e.i5
 v9:vid e.w9=some e.i9
 l7:SlR NoP 0 .nil e.us e.e7
structure MI (e:ME) (g:G) (V:Nat->AV) (W:Nat->List (List AV)) (c:Nat->Int) (ow:List Bool) (cap:Nat):Prop where
 h0:g.h.get 0=.cells 5 [e.row0] 0 false false
 h1:g.h.get 1=.cells 3 [[.int .i64 0,.nils,.nils]] 0 false false
 hN:Own g 0 e.nv 4 (yR e.n c V)
 h4:g.h.get e.p4=.cells 3 [[.int .i64 e.gr,V 0,e.nv]] 0 false false
 h5:Own g 0 e.w5 4 e.prow
 h7:∃cc:Int,0<=cc/\cc<=(cap:Int)/\g.h.get e.p7=.cells 2 [[e.e7,.int .i64 cc]] 0 false false
 h9:Own g 0 e.w9 1 (ow.map fun x=>[.bool x])
 fam:Fam g e.b (3*e.n+1) V W
 nx:e.b<=g.nx
section
variable {e:ME}{g g':G}{V:Nat->AV}{W:Nat->List (List AV)}{c:Nat->Int}{ow:List Bool}{cap:Nat}
structure MP (e:ME) (g:G) (V V':Nat->AV) (W:Nat->List (List AV)) (c:Nat->Int) (ow:List Bool) (cap:Nat):Prop where
 h0:g.h.get 0=.cells 5 [e.row0] 0 false false
 h1:g.h.get 1=.cells 3 [[.int .i64 0,.nils,.nils]] 0 false false
 hN:Own g 0 e.nv 4 (yR e.n c V)
 h4:g.h.get e.p4=.cells 3 [[.int .i64 e.gr,V 0,e.nv]] 0 false false
 h5:Own g 0 e.w5 4 e.prow
 h7:∃cc:Int,0<=cc/\cc<=(cap:Int)/\g.h.get e.p7=.cells 2 [[e.e7,.int .i64 cc]] 0 false false
 h9:Own g 0 e.w9 1 (ow.map fun x=>[.bool x])
 fam:Fam g e.b (3*e.n+1) V' W
 nx:e.b<=g.nx
end
end
end Hx
end
section
namespace Hx
open Go
noncomputable section
structure MD (e:ME) (W:Nat->List (List AV)) (R:List (List Int)) (F N O:Nat->List Int):Prop where
 r:All2 (Rp.rp NoP 0 .nil) R (W 0)
 f:∀i,i<e.n->W (3*i+1)=(F i).map ci
 n:∀i,i<e.n->W (3*i+2)=(N i).map ci
 o:∀i,i<e.n->W (3*i+3)=(O i).map ci
theorem SlR.wide {α:Type} [Rp α]{P:Nat->Prop}{k k':Nat}{h h':H}{l:List α}{v:AV}(r:SlR NoP k h l v)(hk:k<=k'):SlR P k' h' l v:=by
 obtain ⟨w,hw,q⟩:=Rp.tree (P:=P) (k':=k') (h':=h') (show Rp.rp NoP k h l [v] from ⟨v,rfl,r⟩) hk
 injection hw with hw;subst hw;exact q
structure M0 (n p4 q i5 p7:Nat) (nv w5 cl:AV) (row0:List AV) (prow:List (List AV)) (gr:Int) (g:G) (cf:Nat->Int):Prop where
 h0:g.h.get 0=.cells 5 [row0] 0 false false
 h1:g.h.get 1=.cells 3 [[.int .i64 0,.nils,.nils]] 0 false false
 hN:Own g 2 nv 4 (yR n cf fun _=>.nils)
 h4:g.h.get p4=.cells 3 [[.int .i64 gr,.nils,nv]] 0 false false
 h5:Own g 2 w5 4 prow
 h7:g.h.get p7=.cells 2 [[cl,.int .i64 0]] 0 false false
 nx:p7<g.nx
section
variable {n p4 q i5 p7:Nat}{nv w5 cl:AV}{row0:List AV}{prow:List (List AV)}{gr:Int}{g g':G}{cf cf':Nat->Int}
end
end
end Hx
end
section
namespace Hx
open Go
noncomputable section
def eid:AV->Option Nat
 | .hsl id _ _ _ _=>some id
 | .hptr id _ _ _=>some id
 | _=>none
def Bx (g:G)(b:Nat)(v:AV)(row:List AV):Prop:=∃id,b<=id/\id<g.nx/\v=.hptr id 0 0 0/\g.h.get id=.cells row.length [row] 0 false false
inductive En where
 | sl (sz:Nat) (rows:List (List AV))
 | bx (row:List AV)
def En.ok (g:G)(b:Nat)(v:AV):En->Prop
 | .sl sz rows=>Own g b v sz rows
 | .bx row=>Bx g b v row
section
variable {κ:Type}
structure Hp (g:G) (b:Nat) (L:κ->Prop) (V:κ->AV) (E:κ->En):Prop where
 ok:∀k,L k->(E k).ok g b (V k)
 sep:∀k l,L k->L l->k≠l->∀id,eid (V k)=some id->eid (V l)≠some id
 nx:b<=g.nx
variable {g g':G}{b:Nat}{L L':κ->Prop}{V:κ->AV}{E:κ->En}{k:κ}
end
section
variable {κ:Type} [DecidableEq κ]
variable {g g':G}{b:Nat}{L L':κ->Prop}{V:κ->AV}{E:κ->En}{k:κ}
end
end
end Hx
end
section
namespace Hx
open Go
noncomputable section
theorem uV {C:Cfg}{d:Nat}{rd:Option Nat}{l:List SI}{b:SC}{Q:QT}{t:T}{df:List ADf}{g:G}{P:PT}(h1:wpO C d rd l P t df g)(h2:∀t df g,P t df g->wp C d rd b Q t df g):wp C d rd (.seq (.ops l) b) Q t df g:=by
 rw[nM]
 have:wp C d rd (.ops l) (fun e t df g=>e=.norm/\P t df g) t df g:=by rw[p0];simpa using h1
 refine dM _ this ?_
 rintro e t df g ⟨rfl,h⟩
 exact h2 t df g h
structure Bnd (K:Nat) (m:Causal):Prop where
 r:m.roots.length<=K
 rr:∀x∈m.roots,x.length<=K
 n:m.nodes.length<=K
 f:∀x∈m.nodes,x.frm.length<=K/\x.noise.length<=K/\x.out.length<=K
abbrev Ky:Type:=Nat×Nat
structure BD (K R n:Nat) (V:Ky->AV) (E:Ky->En) (Rt:Nat->List Int) (c:Nat->Int) (F:Nat->Nat->List Int):Prop where
 r:∀i,i<R->E (0,i)=.sl 1 ((Rt i).map ci)/\(Rt i).length<=K
 f:∀q i,1<=q->q<=3->i<n->E (q,i)=.sl 1 ((F q i).map ci)/\(F q i).length<=K
 rs:E (4,0)=.sl 1 ((List.range R).map fun i=>[V (0,i)])
 ns:E (4,1)=.sl 4 ((List.range n).map fun i=>[.int .i64 (c i),V (1,i),V (2,i),V (3,i)])
structure TI (g:G) (q:Nat) (m:Causal) (k1 k2 act u1 u2 u3:AV) (A B W:List Int):Prop where
 a1:g.h.get 1=.cells 1 [[act]] 0 false false
 a2:g.h.get 2=.cells 3 [[.nils,.nils,.nils]] 0 false false
 a4:g.h.get 4=.cells 4 [[.int .i64 m.grain,k1,k2,.int .i64 (S.bg m)]] 0 false false
 bq:g.h.get q=.cells 3 [[u1,u2,u3]] 0 false false
 o1:Own g 5 u1 1 (A.map ci)
 o2:Own g 5 u2 1 (B.map ci)
 o3:Own g 5 u3 1 (W.map ci)
 q5:5<=q/\q<g.nx
 n1:∀i,vid u1=some i->i≠q/\vid u2≠some i/\vid u3≠some i
 n2:∀i,vid u2=some i->i≠q/\vid u3≠some i
 n3:∀i,vid u3=some i->i≠q
section
variable {g g':G}{q:Nat}{m:Causal}{k1 k2 act u1 u2 u3:AV}{A B W:List Int}
end
end
end Hx
end
section
namespace Hx
open Go
noncomputable section
theorem oP {C:Cfg}{d:Nat}{rd:Option Nat}{a b:SC}{Q:QT}{t:T}{df:List ADf}{g:G}{P:PT}(h1:wp C d rd a (fun e t df g=>e=.norm/\P t df g) t df g)(h2:∀t df g,P t df g->wp C d rd b Q t df g):wp C d rd (.seq a b) Q t df g:=by
 rw[nM]
 refine dM _ h1 ?_
 rintro e t df g ⟨rfl,h⟩
 exact h2 t df g h
def S.bG (s a:List Int):List Int:=(List.range s.length).map fun i=>if a[i]?.getD 0<0 then -1 else s[i]?.getD 0
theorem Aa {α:Type}{C:α->Prop}{S:α->VS}{j:Nat}(h:∀a,Snb (S a) j):Snb (fun P k h v=>∃a,C a/\S a P k h v) j :=
 ⟨fun {P k hh v n} d r hn=>by
  obtain ⟨a,c,r⟩:=r
  obtain ⟨v',e,r'⟩:=(h a).snap d r hn
  exact ⟨v',e,a,c,r'⟩,fun {k hh v n} r hn=>by
  obtain ⟨a,c,r⟩:=r
  exact (h a).tag r hn⟩
theorem mh:∀{A L:List Nat},A.Nodup->(∀v∈A,v∈L)->A.length<=L.length
 | [],_,_,_=>Nat.zero_le _
 | a::A,L,hA,h=>by
  rw[List.nodup_cons] at hA
  have ha:=h a (by simp)
  have:=mh (A:=A) (L:=L.erase a) hA.2 fun v hv=>(List.mem_erase_of_ne (fun e=>hA.1 (by rw[<-e];exact hv))).2 (h v (by simp[hv]))
  rw[List.length_erase_of_mem ha] at this
  have:=List.length_pos_of_mem ha
  simp only[List.length_cons]
  omega
def Ord (p:List Nat)(L:List Nat):Prop:=(∀v,v<p.length->v∈L)/\∀(i v:Nat),L[i]?=some v->v<p.length/\∀q,(Par p v).testBit q=true->q∈L.take i
def th (p:List Nat)(L:List Nat):Prop:=L.Nodup/\∀(i v:Nat),L[i]?=some v->v<p.length/\∀q,(Par p v).testBit q=true->q∈L.take i
theorem xg {p L:List Nat}(h:th p L){v:Nat}(hv:v ∉ L)(hl:v<p.length)(hp:∀q,(Par p v).testBit q=true->q∈L):th p (L++[v]):=by
 refine ⟨?_,fun i u hu=>?_⟩
 ·rw[List.nodup_append]
  exact ⟨h.1,by simp,fun a ha b hb=>by simp at hb;subst hb;exact fun e=>hv (e ▸ ha)⟩
 ·rcases Nat.lt_or_ge i L.length with hi | hi
  ·rw[List.getElem?_append_left hi] at hu
   obtain ⟨h1,h2⟩:=h.2 i u hu
   exact ⟨h1,fun q hq=>by rw[List.take_append_of_le_length (by omega)];exact h2 q hq⟩
  ·rw[List.getElem?_append_right hi] at hu
   have:i=L.length:=by
    have:=(List.getElem?_eq_some_iff.1 hu).1;simp at this;omega
   subst this
   simp at hu;subst hu
   exact ⟨hl,fun q hq=>by rw[List.take_left];exact hp q hq⟩
theorem ww {p L:List Nat}(h:th p L)(hl:p.length<=L.length):Ord p L:=by
 refine ⟨fun v hv=>?_,h.2⟩
 by_cases hm:v∈L
 ·exact hm
 ·have:=mh (A:=v::L) (L:=List.range p.length) (List.nodup_cons.2 ⟨hm,h.1⟩) fun u hu=>by
   rcases List.mem_cons.1 hu with rfl | hu
   ·exact List.mem_range.2 hv
   ·obtain ⟨i,hi,rfl⟩:=List.mem_iff_getElem.1 hu
    exact List.mem_range.2 (h.2 i _ (List.getElem?_eq_getElem hi)).1
  simp at this
  omega
theorem zY {p L:List Nat}(h:th p L)(hl:L.length<p.length):∃v,v<p.length/\v ∉ L:=by
 by_cases hh:∃v,v<p.length/\v ∉ L
 ·exact hh
 ·exfalso
  have:=mh (A:=List.range p.length) (L:=L) List.nodup_range fun v hv=>by
   by_cases h':v∈L
   ·exact h'
   ·exact absurd ⟨v,List.mem_range.1 hv,h'⟩ hh
  simp at this
  omega
def zk (D:Nat)(L:List Nat):Prop:=D<18446744073709551616/\∀v,D.testBit v=true↔v∈L
theorem wJ {D:Nat}{L:List Nat}(h:zk D L){v:Nat}(hv:v<64):zk (D ||| S.az v) (L++[v]):=by
 refine ⟨uI h.1 (qa v),fun u=>?_⟩
 rw[iU,ta hv,Bool.or_eq_true,h.2,decide_eq_true_eq,List.mem_append,List.mem_singleton]
 constructor
 ·rintro (h | h)
  ·exact .inl h
  ·exact .inr h.symm
 ·rintro (h | h)
  ·exact .inl h
  ·exact .inr h.symm
section
variable {m:Causal}{c1 c2 l w c9 v35 ls v48:AV}{al:List Int}{hid kk:Int}{p:Nat}
end
end
end Hx
end
section
namespace Hx
open Go
noncomputable section
def S.aJ:List Int->Int
 | []=>0
 | x::l=>x+10000*S.aJ l
structure S.tI (bl:List Int) (n i:Nat) (V ai:Int) (k:Nat) (c:Int) (L:List Int):Prop where
 len:L.length=n
 rng:∀x∈L,0<=x/\x<10000
 zer:∀j,i+bl.length<=j->i+k<=j->L[j]?.getD 0=0
 kle:k<=bl.length+1
 c0:0<=c
 c1:c<10000
 ce:k=bl.length+1->c=0
 cs:k=0->c=0
 eq:S.aJ L+c*10000 ^ (i+k)=V+ai*10000 ^ i*S.aJ (bl.take k)
structure S.tO (al bl:List Int) (i:Nat) (L:List Int):Prop where
 len:L.length=al.length+bl.length
 rng:∀x∈L,0<=x/\x<10000
 zer:∀j,i+bl.length<=j->L[j]?.getD 0=0
 eq:S.aJ L=S.aJ (al.take i)*S.aJ bl
structure S.mI (al bl:List Int) (i:Nat) (r:Int) (L:List Int):Prop where
 len:L.length=i
 rng:∀x∈L,0<=x/\x<10000
 r01:r=0\/r=1
 eq:S.aJ L=S.aJ (al.take i) - S.aJ (bl.take i)+r*10000 ^ i
structure S.qI (x b n:Nat) (i:Nat) (L:List Int):Prop where
 len:L.length=n
 rng:∀z∈L,0<=z/\z<10000
 eq:S.aJ (L.drop i)=((x / 10000 ^ i / b:Nat):Int)
theorem SlR.wd {α:Type} [Rp α]{P P':Nat->Prop}{k:Nat}{h h':H}{l:List α}{v:AV}(r:SlR P k h l v)(hf:∀i,P i->P' i/\h'.get i=h.get i):SlR P' k h' l v:=by
 obtain ⟨w,hw,q⟩:=Rp.mono (k':=k) (P':=P') (h':=h') (show Rp.rp P k h l [v] from ⟨v,rfl,r⟩) hf (Nat.le_refl _)
 injection hw with hw;subst hw;exact q
structure HS (m:Causal) (c1 c2 la lb lc:AV) (p q:Nat) (gb g:G):Prop where
 fr:Fr gb g
 mp:g.h.get p=.cells 3 [[.int .i64 m.grain,c1,c2]] 0 false false
 ml:g.h.get q=.cells 3 [[la,lb,lc]] 0 false false
 pn:p<gb.nx
 q0:gb.nx<=q
 qn:q<g.nx
section
variable {m:Causal}{c1 c2 la lb lc w c28 vi c90 vj:AV}{A B Z:List Int}{p q:Nat}
end
end
end Hx
end
end
section
namespace Hx
open Go
section
variable {p:List Nat}
theorem wG:tw p 0:=⟨fun v _ hb=>by simp at hb,fun v _ hb=>by simp at hb⟩
theorem yv {q:Nat}(ih:tw p q){j:Nat}(hj:j<64)(hd:Sub (Par p j) q):tw p (q ||| S.az j):=by
 refine ⟨fun v hv hb=>?_,fun v hv hb=>?_⟩
 ·intro u hu
  rw[iU,ta hj,Bool.or_eq_true,decide_eq_true_eq] at hb
  rw[iU,Bool.or_eq_true]
  rcases hb with hb | hb
  ·exact .inl (ih.1 v hv hb u hu)
  ·subst hb;exact .inl (hd u hu)
 ·rw[iU,ta hj,Bool.or_eq_true,decide_eq_true_eq] at hb
  cases hq:q.testBit v
  ·rw[hq] at hb
   simp at hb
   subst hb
   rw[<-Bool.not_eq_true]
   intro hu
   have:=nQ ih.1 hd p.length j hu
   rw[hq] at this;cases this
  ·exact ih.2 v hv hq
theorem qK {q:Nat}(h:tw p q)(hf:∀v,v<p.length->q.testBit v=true):S.aG p=true :=
 lZ.2 fun v hv=>h.2 v hv (hf v hv)
theorem qu (hp:∀x∈p,x<2 ^ p.length)(h:S.aG p=true){T:Nat}(hst:∀v,v<p.length->T.testBit v=false->¬Sub (Par p v) T):∀v,v<p.length->T.testBit v=true:=by
 rw[lZ] at h
 have none:∀r v,v<p.length->T.testBit v=false->S.up p (Par p v) p.length=r->False:=by
  intro r
  induction r using Nat.strongRecOn with
  | _ r ih =>
   intro v hv hb hr
   have hns:=hst v hv hb
   have:∃u,(Par p v).testBit u=true/\T.testBit u=false:=by
    apply Classical.byContradiction
    intro hno
    apply hns
    intro u hu
    cases hc:T.testBit u
    ·exact absurd ⟨u,hu,hc⟩ hno
    ·rfl
   obtain ⟨u,hu,hub⟩:=this
   have hul:u<p.length:=ll (jz hp) hu
   have hcl:=l4 hp (s:=Par p v) (jz hp)
   have hin:(S.up p (Par p v) p.length).testBit u=true:=mY _ u hu
   have hsub:Sub (S.up p (Par p u) p.length) (S.up p (Par p v) p.length):=nQ hcl (hcl u hul hin) _
   have hlt:S.up p (Par p u) p.length<S.up p (Par p v) p.length:=by
    refine Nat.lt_of_le_of_ne (xk hsub) fun e=>?_
    have:=h u hul
    rw[e,hin] at this;cases this
   exact ih _ (by omega) u hul hub rfl
 intro v hv
 cases hc:T.testBit v
 ·exact (none _ v hv hc rfl).elim
 ·rfl
end
end Hx
end
section
namespace Hx
open Go
section
variable {p:List Nat}
def Eg (p:List Nat)(u v:Nat):Prop:=(Par p v).testBit u=true
def Bt (s v:Nat):Prop:=s.testBit v=true
theorem j8 (hp:∀x∈p,x<2 ^ p.length){u v:Nat}(h:Eg p u v):u<p.length/\v<p.length:=by
 refine ⟨ll (jz hp) h,?_⟩
 rcases Nat.lt_or_ge v p.length with h1 | h1
 ·exact h1
 ·unfold Eg Par at h
  rw[List.getElem?_eq_none h1] at h
  simp at h
theorem Cc {s:Nat}(hp:∀x∈p,x<2 ^ p.length)(hc:Cl p s){u v:Nat}(h:Ds (Eg p) u v)(hv:s.testBit v=true):s.testBit u=true:=by
 induction h with
 | rf=>exact hv
 | st e _ ih=>exact hc _ (j8 hp e).2 (ih hv) _ e
theorem Bv (hp:∀x∈p,x<2 ^ p.length){s:Nat}(hs:s<2 ^ p.length)(v:Nat):(S.up p s p.length).testBit v=true↔An (Eg p) (Bt s) v:=by
 constructor
 ·intro h
  have hc:Cl p (S.aa (An (Eg p) (Bt s)) p.length):=fun u hu hb x hx=>by
   rw[fG] at hb ⊢
   exact ⟨(j8 hp hx).1,An.up hx hb.2⟩
  have hsub:Sub s (S.aa (An (Eg p) (Bt s)) p.length):=fun u hu=>by
   rw[fG]
   exact ⟨ll hs hu,An.of hu⟩
  have:=nQ hc hsub p.length v h
  rw[fG] at this
  exact this.2
 ·rintro ⟨z,hz,hd⟩
  exact Cc hp (l4 hp hs) hd (mY _ z hz)
theorem p8 (hp:∀x∈p,x<2 ^ p.length)(h:S.aG p=true):∀u v,Eg p u v->S.up p (Par p u) p.length<S.up p (Par p v) p.length:=by
 intro u v e
 have hul:=(j8 hp e).1
 have hcl:=l4 hp (s:=Par p v) (jz hp)
 have hin:(S.up p (Par p v) p.length).testBit u=true:=mY _ u e
 have hsub:Sub (S.up p (Par p u) p.length) (S.up p (Par p v) p.length):=nQ hcl (hcl u hul hin) _
 refine Nat.lt_of_le_of_ne (xk hsub) fun e=>?_
 have:=lZ.1 h u hul
 rw[e,hin] at this;cases this
theorem qf (hp:∀x∈p,x<2 ^ p.length){rk:Nat->Nat}(hr:∀u v,Eg p u v->rk u<rk v):S.aG p=true:=by
 refine lZ.2 fun v hv=>?_
 cases h:(S.up p (Par p v) p.length).testBit v with
 | false=>rfl
 | true =>
  obtain ⟨z,hz,hd⟩:=(Bv hp (jz hp) v).1 h
  have h1:=hr _ _ (show Eg p z v from hz)
  rcases hd.rank hr with rfl | h2<;>omega
def S.ak (p:List Nat)(s:Nat):Nat->Nat
 | 0=>s
 | j+1=>if Par p j &&& S.ak p s j=0 then S.ak p s j else S.ak p s j ||| 2 ^ j
def S.dn (p:List Nat)(s:Nat):Nat->Nat
 | 0=>s
 | j+1=>S.ak p (S.dn p s j) p.length
theorem tV {a b:Nat}:a &&& b≠0↔∃v,a.testBit v=true/\b.testBit v=true:=by
 constructor
 ·intro h
  apply Classical.byContradiction
  intro hno
  apply h
  refine Nat.eq_of_testBit_eq fun v=>?_
  rw[Nat.testBit_and,Nat.zero_testBit]
  cases h1:a.testBit v<;>cases h2:b.testBit v<;>first | rfl | exact absurd ⟨v,h1,h2⟩ hno
 ·rintro ⟨v,h1,h2⟩ h
  have:=congrArg (·.testBit v) h
  simp[h1,h2] at this
theorem oB {s:Nat}(hs:s<2 ^ p.length):∀j,j<=p.length->S.ak p s j<2 ^ p.length
 | 0,_=>hs
 | j+1,hj=>by
  have ih:=oB hs j (by omega)
  unfold S.ak
  split
  ·exact ih
  ·exact ya ih (Nat.pow_lt_pow_right (by decide) (by omega))
theorem u9 {s:Nat}(hs:s<2 ^ p.length):∀j,S.dn p s j<2 ^ p.length
 | 0=>hs
 | j+1=>oB (u9 hs j) _ (Nat.le_refl _)
theorem iI {s:Nat}{j k:Nat}(h:j<=k):Sub (S.ak p s j) (S.ak p s k):=by
 induction h with
 | refl=>exact fun _ h=>h
 | step _ ih =>
  intro v hv
  unfold S.ak
  split
  ·exact ih v hv
  ·rw[iU,ih v hv];rfl
theorem nr {q:Nat->Prop}(hq:∀u v,q u->Eg p u v->q v){s:Nat}(hs:∀v,s.testBit v=true->q v):∀j,∀v,(S.ak p s j).testBit v=true->q v
 | 0,v,h=>hs v h
 | j+1,v,h=>by
  have ih:=nr hq hs j
  unfold S.ak at h
  split at h
  ·exact ih v h
  ·rename_i hne
   rw[iU,Bool.or_eq_true] at h
   rcases h with h | h
   ·exact ih v h
   ·rw[Nat.testBit_two_pow,decide_eq_true_iff] at h
    subst h
    obtain ⟨u,h1,h2⟩:=tV.1 hne
    exact hq u _ (ih u h2) h1
theorem uF {q:Nat->Prop}(hq:∀u v,q u->Eg p u v->q v){s:Nat}(hs:∀v,s.testBit v=true->q v):∀j,∀v,(S.dn p s j).testBit v=true->q v
 | 0,v,h=>hs v h
 | j+1,v,h=>nr hq (uF hq hs j) _ v h
theorem BE {s:Nat}(hs:s<2 ^ p.length):S.ak p (S.dn p s p.length) p.length=S.dn p s p.length :=
 By (f:=fun j=>S.dn p s j) (fun j=>iI (Nat.zero_le _)) (fun j=>u9 hs j) (fun j e=>by
  have e:S.dn p s (j+1)=S.dn p s j:=e
  show S.ak p (S.dn p s (j+1)) p.length=S.dn p s (j+1)
  rw[e];exact e)
theorem Ce {s:Nat}(hp:∀x∈p,x<2 ^ p.length)(hs:s<2 ^ p.length){u v:Nat}(e:Eg p u v)(hu:(S.dn p s p.length).testBit u=true):(S.dn p s p.length).testBit v=true:=by
 obtain ⟨T,hT⟩:∃T,T=S.dn p s p.length:=⟨_,rfl⟩
 have hf:=BE (p:=p) hs
 rw[<-hT] at hf hu ⊢
 have hv:=(j8 hp e).2
 have h1:(S.ak p T v).testBit u=true:=iI (Nat.zero_le _) u hu
 have h2:(S.ak p T (v+1)).testBit v=true:=by
  unfold S.ak
  rw[if_neg (tV.2 ⟨u,e,h1⟩),iU,Nat.testBit_two_pow]
  simp
 have:=iI (p:=p) (s:=T) (show v+1<=p.length by omega) v h2
 rwa [hf] at this
theorem qq {s:Nat}:∀j,Sub s (S.dn p s j)
 | 0=>fun _ h=>h
 | j+1=>fun v hv=>iI (Nat.zero_le _) v (qq j v hv)
theorem Bd (hp:∀x∈p,x<2 ^ p.length){s:Nat}(hs:s<2 ^ p.length)(v:Nat):(S.dn p s p.length).testBit v=true↔∃u,s.testBit u=true/\Ds (Eg p) u v:=by
 constructor
 ·exact uF (q:=fun v=>∃u,s.testBit u=true/\Ds (Eg p) u v) (fun u v ⟨x,h1,h2⟩ e=>⟨x,h1,h2.sn e⟩) (fun v h=>⟨v,h,.rf v⟩) p.length v
 ·rintro ⟨u,hu,hd⟩
  have h0:=qq (p:=p) (s:=s) p.length u hu
  clear hu
  induction hd with
  | rf=>exact h0
  | st e _ ih=>exact ih (Ce hp hs e h0)
end
end Hx
end
section
namespace Hx
inductive Tw (E:Nat->Nat->Prop) (x:Nat):List Nat->Prop
 | one:Tw E x [x]
 | ext {v w:Nat} {r:List Nat}:Tw E x (v::r)->E v w\/E w v->w ∉ v::r->Tw E x (w::v::r)
end Hx
end
