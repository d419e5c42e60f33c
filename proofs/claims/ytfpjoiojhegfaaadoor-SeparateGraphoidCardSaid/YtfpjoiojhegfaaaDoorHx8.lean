/- A part of the proof: an interpreter over abstract values, shown right against the model, and what the functions of the chapter compute on it. -/
import Derived.Shelf.Lays2
import Derived.Test.YtfpjoiojhegfaaaDoorRows
import Derived.Shelf.Spec.SlicesInsertGrow
import Derived.KernelRfl
import Derived.Test.YtfpjoiojhegfaaaDoorHx7
set_option linter.unusedVariables false
set_option linter.unusedSimpArgs false
set_option linter.unnecessarySimpa false
section
namespace Go.Proofs
open Go.Shelf
def Tryd.lays21_ren:Go.Shelf.Ren:=⟨fun | 21=>102 | 27=>106 | 28=>107 | 35=>109 | 39=>110 | n=>n,fun | 22=>71 | 3=>3 | 4=>4 | 0=>0 | n=>n,fun | n=>n⟩
theorem Tryd.lays21:Go.Proofs.Lays2.n21 Tryd.prog Tryd.lays21_ren:={
 mixed:=by kernel_rfl
 f21:=Tryd.func102.trans (congrArg some (by kernel_rfl))
 f27:=Tryd.func106.trans (congrArg some (by kernel_rfl))
 f28:=Tryd.func107.trans (congrArg some (by kernel_rfl))
 f35:=Tryd.func109.trans (congrArg some (by kernel_rfl))
 f39:=Tryd.func110.trans (congrArg some (by kernel_rfl))
 t0:=Tryd.underlying0
 a0:=Tryd.isAgg0
 z0:=Tryd.sizeOf0
 v0:=Tryd.zeroValue0
 t3:=Tryd.underlying3
 a3:=Tryd.isAgg3
 z3:=Tryd.sizeOf3
 v3:=Tryd.zeroValue3
 t4:=Tryd.underlying4
 a4:=Tryd.isAgg4
 z4:=Tryd.sizeOf4
 v4:=Tryd.zeroValue4
 t22:=Tryd.underlying71
 a22:=Tryd.isAgg71
 z22:=Tryd.sizeOf71
 v22:=Tryd.zeroValue71
 i3:=by kernel_rfl }
end Go.Proofs
end
section
namespace Hx
open Go Go.Proofs Go.Shelf
theorem eg {w:World}{o:Obj}:(Go.World.alloc w o).heap=w.heap.push o:=rfl
theorem dK {w:World}:(Go.World.drew w).heap=w.heap:=rfl
theorem dP {b:Nat}{e:TypeId}{f:Nat×Nat}:∀(vs:List Value) (o:Nat) (w:World) (c:Array Value),w.heap[b]?=some (.cells c e f) ->
  Go.World.setCells w b o vs=World.setBlk w b (.cells (aH c o vs) e f):=by
 intro vs
 induction vs with
 | nil =>
  intro o w c h
  have hb:b<w.heap.size:=by
   rcases Nat.lt_or_ge b w.heap.size with hl | hl
   ·exact hl
   ·rw[Array.getElem?_eq_none hl] at h;cases h
  have hx:w.heap[b]=.cells c e f:=by simpa [Array.getElem?_eq_getElem hb] using h
  show w=_
  simp only[World.setBlk,aH]
  have:w.heap.setIfInBounds b (.cells c e f)=w.heap:=by
   apply Array.ext_getElem?
   intro k
   rw[Array.getElem?_setIfInBounds]
   by_cases hk:b=k
   ·subst hk;simp[hb,hx]
   ·rw[if_neg hk]
  rw[this]
 | cons v vs ih =>
  intro o w c h
  have hb:b<w.heap.size:=by
   rcases Nat.lt_or_ge b w.heap.size with hl | hl
   ·exact hl
   ·rw[Array.getElem?_eq_none hl] at h;cases h
  show Go.World.setCells (w.setCell (adr b o) v) b (o+1) vs=_
  rw[lP h,ih (o+1) _ (c.setIfInBounds o v) (by rw[aE];simp[hb]),gf]
  rfl
section
variable {P:Program}{ρ:Ren}
theorem cZ {α:Type}{cs vs:List α}{i n m k:Nat}(hcl:cs.length=n)(hvl:vs.length=m)(hi:i<=n) :
  (cs.take i++(vs++cs.drop i))[k]?=if k<i then cs[k]? else if k<i+m then vs[k - i]? else cs[k - m]?:=by
 have hti:(cs.take i).length=i:=by rw[List.length_take];omega
 by_cases h1:k<i
 ·rw[if_pos h1,List.getElem?_append_left (by omega),List.getElem?_take_of_lt h1]
 ·rw[if_neg h1,List.getElem?_append_right (by omega),hti]
  by_cases h2:k<i+m
  ·rw[if_pos h2,List.getElem?_append_left (by omega)]
  ·rw[if_neg h2,List.getElem?_append_right (by omega),List.getElem?_drop,hvl]
   congr 1;omega
def Ins (P:Program)(f:FuncId)(args:Array Value)(w:World)(b n m:Nat)(rowV:List Value):Prop :=
 ∃b' o' cap' c' e' w',Calls P f args w (fun x y=>x=.returned (.slice (some (adr b' o')) (n+m) cap')/\y=w')/\n+m<=cap'/\cap'<=9223372036854775807 /\
  (w'.os=w.os/\w'.tape=w.tape/\w'.output=w.output/\w.heap.size<=w'.heap.size)/\(b'=b\/(b'=w.heap.size/\w.heap.size<w'.heap.size)) /\
  (∀k,k<w.heap.size->k≠b->w'.heap[k]?=w.heap[k]?)/\w'.heap[b']?=some (.cells c' e' (0,0))/\o'+cap'<=c'.size /\
  ∀k,k<n+m->c'[o'+k]?=rowV[k]?
theorem rR (L:Lays2.n21 P ρ){w:World}{b off n c i vb voff m vc:Nat}{cc cv:Array Value}{e e2:TypeId}{cs vs:List Value}
  (hb:w.heap[b]?=some (.cells cc e (0,0))) (hv:w.heap[vb]?=some (.cells cv e2 (0,0))) (hne:vb≠b) (hin:i<=n) (hm:0<m) (hnc:n<=c)
  (hc63:c<=9223372036854775807) (hbig:(n+m)*8<=140737488355328) (hcc:off+c<=cc.size) (hcv:voff+m<=cv.size) (hn0:0<c)
  (hcl:cs.length=n) (hvl:vs.length=m) (hcs:∀j,j<n->cs[j]?=cc[off+j]?) (hvs:∀j,j<m->vs[j]?=cv[voff+j]?)
  (h1c:∀v∈cs,v.oneCell'=true) (h1v:∀v∈vs,v.oneCell'=true) :
  Ins P (ρ.f 21) #[.slice (some (adr b off)) n c,.int .i64 i,.slice (some (adr vb voff)) m vc] w b n m (cs.take i++(vs++cs.drop i)):=by
 have hbw:b<w.heap.size:=by
  rcases Nat.lt_or_ge b w.heap.size with hl | hl
  ·exact hl
  ·rw[Array.getElem?_eq_none hl] at hb;cases hb
 have hcs':∀j v,cs[j]?=some v->w.cell? (adr b (off+j))=some v:=fun j v hj=>by
  rw[gt hb,<-hcs j (by rw[<-hcl];exact (List.getElem?_eq_some_iff.1 hj).1)];exact hj
 have hvs':∀j v,vs[j]?=some v->w.cell? (adr vb (voff+j))=some v:=fun j v hj=>by
  rw[gt hv,<-hvs j (by rw[<-hvl];exact (List.getElem?_eq_some_iff.1 hj).1)];exact hj
 have hsp:∀j,j<c->(w.cell? (adr b (off+j))).isSome=true:=fun j hj=>by
  rw[gt hb,Array.getElem?_eq_getElem (by omega)];rfl
 have hfz:∀j,w.frozen? (adr b j)=false:=fun j=>by simp[World.frozen?,adr,hb]
 have hfv:∀j,w.frozen? (adr vb j)=false:=fun j=>by simp[World.frozen?,adr,hv]
 have hdl:(cs.drop i).length=n - i:=by rw[List.length_drop,hcl]
 have htl:(cs.take i).length=i:=by rw[List.length_take];omega
 by_cases hroom:n+m<=c
 ·by_cases hlt:i<n
  ·
   have h:=Any2.slices_Insert_int_shift L b off n c i vb voff m vc cs vs w hlt hm hroom hc63 hne hcl hvl hcs' (fun j hj=>hsp j (by omega)) (fun j _=>hfz _) hvs' h1c h1v
    e2 e cv.size cc.size (by simp[World.shape?,hv]) (by simp[World.shape?,hb]) (by omega) (hfv _) (hfv _)
   have hb':w.drew.heap[b]?=some (.cells cc e (0,0)):=hb
   rw[dP (cs.drop i) (off+(i+m)) w.drew cc hb'] at h
   rw[dP vs (off+i) (World.setBlk w.drew b _) _ (by rw[aE,if_pos ⟨rfl,hbw⟩]),gf] at h
   refine ⟨b,off,c,_,e,_,h,hroom,hc63,⟨rfl,rfl,rfl,by simp[dK]⟩,.inl rfl,fun k _ hk=>?_,by rw[aE,if_pos ⟨rfl,hbw⟩],by simp[aY];omega,fun k hk=>?_⟩
   ·rw[aE,if_neg (fun h=>hk h.1)];rfl
   ·rw[cZ hcl hvl hin,ba _ _ _ _ (by rw[aY];omega),ba _ _ _ _ (by omega),hdl,hvl]
    by_cases h1:k<i
    ·rw[if_neg (by omega),if_neg (by omega),if_pos h1,hcs k (by omega)]
    ·rw[if_neg h1]
     by_cases h2:k<i+m
     ·rw[if_pos (by omega),if_pos h2];congr 1;omega
     ·rw[if_neg (by omega),if_pos (by omega),if_neg h2,List.getElem?_drop];congr 1;omega
  ·
   have hi:i=n:=by omega
   subst hi
   have h:=Any2.slices_Insert_int_end_room L b off i c vb voff m vc vs w hm hroom hc63 hvl (fun j hj=>by rw[Nat.add_assoc];exact hsp _ (by omega)) (fun j _=>hfz _) hvs' h1v
   rw[dP vs (off+i) w cc hb] at h
   refine ⟨b,off,c,_,e,_,h,hroom,hc63,⟨rfl,rfl,rfl,by simp⟩,.inl rfl,fun k _ hk=>?_,by rw[aE,if_pos ⟨rfl,hbw⟩],by simp[aY];omega,fun k hk=>?_⟩
   ·rw[aE,if_neg (fun h=>hk h.1)]
   ·rw[cZ hcl hvl hin,ba _ _ _ _ (by omega),hvl]
    by_cases h1:k<i
    ·rw[if_neg (by omega),if_pos h1,hcs k (by omega)]
    ·rw[if_pos (by omega),if_neg h1,if_pos (by omega)];congr 1;omega
 ·have hgc:=grownCap_ge w (n+m) c (ρ.t 3)
  have hgm:grownCap w (n+m) c (ρ.t 3)<=9223372036854775807:=by
   have:=grownCap_le_maxLen w (n+m) c (ρ.t 3) (by unfold maxLen;omega)
   unfold maxLen at this;omega
  by_cases hlt:i<n
  ·
   have h:=Any2.slices_Insert_int_grow L b off n c i vb voff m vc cs vs w hlt hm hnc (by omega) hbig hcl hvl hcs' hvs' h1c h1v
   obtain ⟨G,hG⟩:∃G,G=grownCap w (n+m) c (ρ.t 3):=⟨_,rfl⟩
   rw[<-hG] at h hgc hgm
   obtain ⟨ROW,hROW⟩:∃ROW:Array Value,ROW=(cs.take i).toArray++Builtin.zeroCells (Value.int .i64 0).cells (n+m - i)++Builtin.zeroCells (Value.int .i64 0).cells (G - (n+m)):=⟨_,rfl⟩
   rw[<-hROW] at h
   have hsz:ROW.size=G:=by rw[hROW];simp[Builtin.zeroCells,Value.cells];omega
   have hpre:∀k,k<i->ROW[k]?=cs[k]?:=fun k hk=>by
    rw[hROW,Array.append_assoc,Array.getElem?_append_left (by simp;omega)]
    simp[List.getElem?_take,hk]
   have h0:(w.alloc (.cells ROW (ρ.t 3))).drew.heap[w.heap.size]?=some (.cells ROW (ρ.t 3) (0,0)):=by simp[eg,dK]
   rw[dP vs i _ ROW h0] at h
   rw[dP (cs.drop i) (i+m) _ (aH ROW i vs) (e:=ρ.t 3) (f:=(0,0)) (by
    show (World.setBlk _ _ _).heap[_]?=_
    rw[aE,if_pos ⟨rfl,by simp[eg,dK]⟩])] at h
   refine ⟨w.heap.size,0,G,aH (aH ROW i vs) (i+m) (cs.drop i),ρ.t 3,_,h,hgc,hgm,⟨rfl,rfl,rfl,by simp[eg,dK]⟩,.inr ⟨rfl,by simp[eg,dK]⟩,fun k hk _=>?_,?_,by simp[aY,hsz],fun k hk=>?_⟩
   ·rw[aE,if_neg (by omega)]
    show (World.setBlk _ _ _).heap[_]?=_
    rw[aE,if_neg (by omega)]
    simp[eg,dK,Array.getElem?_push,show k≠w.heap.size from by omega]
   ·rw[aE,if_pos ⟨rfl,by simp[eg,dK]⟩]
   ·rw[cZ hcl hvl hin,Nat.zero_add,ba _ _ _ _ (by rw[aY];omega),ba _ _ _ _ (by omega),hdl,hvl]
    by_cases h1:k<i
    ·rw[if_neg (by omega),if_neg (by omega),if_pos h1,hpre k h1]
    ·rw[if_neg h1]
     by_cases h2:k<i+m
     ·rw[if_neg (by omega),if_pos (by omega),if_pos h2]
     ·rw[if_pos (by omega),if_neg h2,List.getElem?_drop];congr 1;omega
  ·have hi:i=n:=by omega
   subst hi
   have h:=Any2.slices_Insert_int_end_grow L (some (adr b off)) i c vb voff m vc cs vs w hm hnc (by omega) hbig hcl hvl (fun h=>by cases h)
    (fun a ha j v hj=>by injection ha with ha;subst ha;rw[cM];exact hcs' j v hj) hvs' h1v
   obtain ⟨G,hG⟩:∃G,G=grownCap w (i+m) c (ρ.t 3):=⟨_,rfl⟩
   rw[<-hG] at h hgc hgm
   refine ⟨w.heap.size,0,G,_,ρ.t 3,_,h,hgc,hgm,⟨rfl,rfl,rfl,by simp[eg,dK]⟩,.inr ⟨rfl,by simp[eg,dK]⟩,fun k hk _=>?_,by simp[eg,dK];rfl,?_,fun k hk=>?_⟩
   ·simp[eg,dK,Array.getElem?_push,show k≠w.heap.size from by omega]
   ·simp[Builtin.zeroCells,Value.cells];omega
   ·rw[Nat.zero_add,Array.getElem?_append_left (by simp;omega)]
    have:cs.take i++(vs++cs.drop i)=cs++vs:=by rw[<-hcl,List.take_length,List.drop_length,List.append_nil]
    rw[this];simp
theorem qY (L:Lays2.n21 P ρ){w:World}{base:Option Addr}{vb voff m vc:Nat}{vs:List Value}(hm:0<m)(hbig:m*8<=140737488355328)(hvl:vs.length=m)
  (hvs:∀j v,vs[j]?=some v->w.cell? (adr vb (voff+j))=some v) (h1v:∀v∈vs,v.oneCell'=true) :
  ∃cap rest,m<=cap/\cap<=9223372036854775807/\rest.size=cap - m /\
  Calls P (ρ.f 21) #[.slice base 0 0,.int .i64 0,.slice (some (adr vb voff)) m vc] w (fun x y=>x=.returned (.slice (some (adr w.heap.size 0)) m cap)/\y=World.add (World.drewn w) (.cells (vs.toArray++rest) (ρ.t 3) (0,0))):=by
 have hgc:=grownCap_ge w (0+m) 0 (ρ.t 3)
 have hgm:grownCap w (0+m) 0 (ρ.t 3)<=9223372036854775807:=by
  have:=grownCap_le_maxLen w (0+m) 0 (ρ.t 3) (by unfold maxLen;omega)
  unfold maxLen at this;omega
 have h:=Any2.slices_Insert_int_end_grow L base 0 0 vb voff m vc [] vs w hm (Nat.le_refl _) (by omega) (by omega) rfl hvl (fun _=>rfl)
  (fun a ha j v hj=>by simp at hj) hvs h1v
 obtain ⟨G,hG⟩:∃G,G=grownCap w (0+m) 0 (ρ.t 3):=⟨_,rfl⟩
 rw[<-hG] at h hgc hgm
 rw[Nat.zero_add] at h hgc
 exact ⟨G,Builtin.zeroCells (Value.int .i64 0).cells (G - m),hgc,hgm,by simp[Builtin.zeroCells,Value.cells],h⟩
end
noncomputable def kn (i:Nat)(rows:List (List AV))(g:G):OR :=
 af (Nat.beq i 0&&Nat.ble (aO rows*8) 140737488355328) (.upd (.hsl g.nx 0 0 (aO rows) none) (g.new (.cells 1 rows 0 true false))) .fail
noncomputable def uM (id2 i:Nat)(s:AV)(vrows:List (List AV))(g:G):OR :=
 match s with
 | .nils=>kn i vrows g
 | .esl=>kn i vrows g
 | .hsl id ep off len none =>
  match g.get id with
  | .cells 1 [] ep' false _=>af ((Nat.beq ep ep'&&Nat.beq off 0)&&Nat.beq len 0) (kn i vrows g) .fail
  | .cells sz rows ep' true false =>
   af (((((((Nat.beq sz 1&&Nat.beq ep ep')&&Nat.beq off 0)&&Nat.beq len (aO rows))&&eF (Nat.beq id id2))&&Nat.ble i len)&&Nat.ble 1 len)&&Nat.ble ((len+aO vrows)*8) 140737488355328)
    (.upd (.hsl id (ep+1) 0 (len+aO vrows) none) (g.put id (.cells 1 (eQ i rows++(vrows++eD i rows)) (ep+1) true false))) .fail
  | _=>.fail
 | _=>.fail
noncomputable def fV:Nat->List AV->G->OR:=fun _ xs g =>
 match xs with
 | [s,.int .i64 (.ofNat i),.hsl id2 ep2 off2 len2 _] =>
  match g.get id2 with
  | .cells sz2 vrows ep2' _ _ =>
   af ((((Nat.beq sz2 1&&Nat.beq ep2 ep2')&&Nat.beq off2 0)&&Nat.beq len2 (aO vrows))&&Nat.ble 1 len2) (uM id2 i s vrows g) .fail
  | _=>.fail
 | _=>.fail
theorem iq {d:Nat}{xs:List AV}{g:G}(h:fV d xs g≠.fail):∃s i id2 ep2 len2 lim2 vrows lo fz,xs=[s,.int .i64 (Int.ofNat i),.hsl id2 ep2 0 len2 lim2] /\
  g.h.get id2=.cells 1 vrows ep2 lo fz/\len2=vrows.length/\0<vrows.length/\fV d xs g=uM id2 i s vrows g:=by
 unfold fV at h ⊢
 split at h
 ·split at h
  ·rename_i hg
   rw[aa] at h ⊢
   split at h
   ·rename_i hc
    simp only[Bool.and_eq_true,am] at hc
    obtain ⟨⟨⟨⟨c1,c2⟩,c3⟩,c4⟩,c5⟩:=hc
    have c1:=an c1;have c2:=an c2;have c3:=an c3;have c4:=an c4
    subst c1;subst c2;subst c3;subst c4
    rw[Nat.ble_eq] at c5
    refine ⟨_,_,_,_,_,_,_,_,_,rfl,hg,rfl,c5,?_⟩
    rw[if_pos]
    simp[am];omega
   ·exact absurd rfl h
  ·exact absurd rfl h
 ·exact absurd rfl h
theorem mj {id2 i:Nat}{s:AV}{vrows:List (List AV)}{g:G}(h:uM id2 i s vrows g≠.fail) :
  ((s=.nils\/s=.esl\/∃id ep fz,s=.hsl id ep 0 0 none/\g.h.get id=.cells 1 [] ep false fz)/\i=0/\vrows.length*8<=140737488355328/\uM id2 i s vrows g=.upd (.hsl g.nx 0 0 vrows.length none) (g.new (.cells 1 vrows 0 true false))) \/
  ∃id ep rows,s=.hsl id ep 0 rows.length none/\g.h.get id=.cells 1 rows ep true false/\id≠id2/\i<=rows.length/\0<rows.length/\(rows.length+vrows.length)*8<=140737488355328 /\
   uM id2 i s vrows g=.upd (.hsl id (ep+1) 0 (rows.length+vrows.length) none) (g.put id (.cells 1 (rows.take i++(vrows++rows.drop i)) (ep+1) true false)):=by
 have hnew:kn i vrows g≠.fail->i=0/\vrows.length*8<=140737488355328/\kn i vrows g=.upd (.hsl g.nx 0 0 vrows.length none) (g.new (.cells 1 vrows 0 true false)):=by
  intro h
  unfold kn at h ⊢
  rw[aa] at h ⊢
  split at h
  ·rename_i hc
   rw[if_pos hc]
   simp only[Bool.and_eq_true,am,Nat.ble_eq] at hc
   exact ⟨an hc.1,hc.2,by rw[am]⟩
  ·exact absurd rfl h
 unfold uM at h ⊢
 split at h
 ·exact .inl ⟨.inl rfl,hnew h⟩
 ·exact .inl ⟨.inr (.inl rfl),hnew h⟩
 ·rename_i id ep off len
  split at h
  ·rename_i ep' fz hg
   rw[aa] at h
   split at h
   ·rename_i hc
    have hc':=hc
    simp only[Bool.and_eq_true] at hc
    obtain ⟨⟨c1,c2⟩,c3⟩:=hc
    have c1:=an c1;have c2:=an c2;have c3:=an c3
    subst c1;subst c2;subst c3
    have:=hnew h
    refine .inl ⟨.inr (.inr ⟨id,ep,fz,rfl,hg⟩),this.1,this.2.1,?_⟩
    rw[aa,if_pos hc',this.2.2]
   ·exact absurd rfl h
  ·rename_i sz rows ep' hg
   rw[aa] at h
   split at h
   ·rename_i hc
    have hc':=hc
    simp only[Bool.and_eq_true,am] at hc
    obtain ⟨⟨⟨⟨⟨⟨⟨c1,c2⟩,c3⟩,c4⟩,c5⟩,c6⟩,c7⟩,c8⟩:=hc
    have c1:=an c1;have c2:=an c2;have c3:=an c3;have c4:=an c4
    subst c1;subst c2;subst c3;subst c4
    rw[Nat.ble_eq] at c6 c7 c8
    refine .inr ⟨id,ep,rows,rfl,hg,fun e=>?_,c6,c7,c8,?_⟩
    ·subst e;rw[notb_eq] at c5;simp at c5
    ·rw[aa,if_pos hc']
     simp only[am,aP,aQ]
   ·exact absurd rfl h
  ·exact absurd rfl h
 ·exact absurd rfl h
section
variable {C:Cfg}{A:Nat->Nat->Prop}{bd:Nat}{w w':World}{γ γ':Gm}{hg:Nat->AObj}{nx:Nat}{ρ:Ren}
theorem yn {g:G}{id:Nat}{ob:AObj}(r:Rel C A bd w' γ' (upd hg id ob) nx)(s:Stp w γ w' γ'):Fin C A bd w γ hg nx g w' γ' (upd hg id ob) (g.put id ob) :=
 ⟨r.up (Nat.le_max_left _ _),s,[id],by simp,fun k hk=>by simp at hk;subst hk;simp[G.put_h,H.get_put],fun k hk=>by
  rw[be];simpa using hk⟩
theorem yg {g:G}{ob:AObj}(r:Rel C A bd w' γ' (upd hg g.nx ob) (Nat.max nx (g.nx+1)))(s:Stp w γ w' γ'):Fin C A bd w γ hg nx g w' γ' (upd hg g.nx ob) (g.new ob) :=
 ⟨r.up (by simp),s,[g.nx],by simp,fun k hk=>by simp at hk;subst hk;simp[G.new_h,H.get_put],fun k hk=>by
  rw[be];simpa using hk⟩
theorem qA (hr:Rel C A bd w γ hg nx){id ep:Nat}{rows:List (List AV)}{lo fz:Bool}(hid:hg id=.cells 1 rows ep lo fz) :
  ∃(c:Array Value) (e:TypeId) (l:List Value),w.heap[(γ id).blk]?=some (.cells c e (0,0))/\(γ id).base+(rows.length+(γ id).slack)<=c.size/\l.length=rows.length/\(∀j,j<rows.length->l[j]?=c[(γ id).base+j]?) /\
   (∀v∈l,v.oneCell'=true)/\(∀(k:Nat) row,rows[k]?=some row->row.length=1) /\
   ∀(k j:Nat) row x,rows[k]?=some row->row[j]?=some x->j=0/\x.one=true/\∃v,l[k]?=some v/\RV w γ A bd x v:=by
 have hob:=hr.obj id
 rw[hid] at hob
 obtain ⟨k1,k2,k3,k4,k5,k6,c,e,k7,k8,k9,k10⟩:=hob
 have hget:∀j,j<rows.length->((c.toList.drop (γ id).base).take rows.length)[j]?=c[(γ id).base+j]?:=fun j hj=>by
  rw[List.getElem?_take_of_lt hj,List.getElem?_drop];simp
 refine ⟨c,e,(c.toList.drop (γ id).base).take rows.length,k7,by omega,by simp;omega,hget,fun v hv=>?_,k9,fun k j row x h1 h2=>?_⟩
 ·obtain ⟨k,hk⟩:=List.getElem?_of_mem hv
  have hlt:k<rows.length:=by
   have:=(List.getElem?_eq_some_iff.1 hk).1
   simp at this;omega
  rw[hget k hlt] at hk
  have hrow:=List.getElem?_eq_getElem hlt
  have hl1:=k9 k _ hrow
  have hx:rows[k][0]?=some (rows[k][0]'(by omega)):=List.getElem?_eq_getElem _
  obtain ⟨a,v',b1,b2⟩:=k10 k 0 _ _ hrow hx
  rw[show (γ id).base+k*1+0=(γ id).base+k from by omega,hk] at b1
  injection b1 with b1;subst b1
  exact (rK b2 a).1
 ·have hj:j=0:=by
   have h3:=k9 k _ h1
   have:=(List.getElem?_eq_some_iff.1 h2).1
   omega
  subst hj
  obtain ⟨a,v',b1,b2⟩:=k10 k 0 _ _ h1 h2
  refine ⟨rfl,a,v',?_,b2⟩
  rw[hget k (List.getElem?_eq_some_iff.1 h1).1]
  rw[show (γ id).base+k*1+0=(γ id).base+k from by omega] at b1
  exact b1
theorem iY {P:Program}{f:FuncId}{args:Array Value}{u:Value}(h:Calls P f args w (fun x y=>x=.returned u/\y=w'))(cs:List Frame):Outs P .normal f args cs w u w':=by
 obtain ⟨e,w1,fr,⟨he,hw⟩,hc,hf,hl⟩:=h cs
 subst he;subst hw
 obtain ⟨m,d,k,fn,hfn,hres⟩:=hl
 exact ⟨fr,hc,m,d,k,hf,fn,by rw[<-hf];exact hfn,hres⟩
theorem uU {P : Program} {f : FuncId} {fn : Func} (h : P.funcs[f]? = some fn) (hn : (fn.name == "runtime.NumGoroutine") = false) (hb : fn.body.isSome = true) : Enters P f := by
 intro args w
 unfold callFunc
 have hn : fn.name ≠ "runtime.NumGoroutine" := by simpa using hn
 cases hb':fn.body with
 | none=>rw[hb'] at hb;cases hb
 | some c=>simp[h,hn,hb']
theorem ru (L:Lays2.n21 C.P ρ)(hent:Enters C.P (ρ.f 21)):ExtOk C (ρ.f 21) fV:=by
 refine ⟨fun d xs g hwf=>?_,fun d xs g y hy=>?_,fun A bd w γ hg nx g xs vs hr hwf hx hf hv hne cs=>?_⟩
 ·apply Small.mon _ hwf
  by_cases h:fV d xs g=.fail
  ·rw[h];trivial
  ·obtain ⟨s,i,id2,ep2,len2,lim2,vrows,lo,fz,e1,e2,e3,e4,e5⟩:=iq h
   rw[e5] at h ⊢
   rcases mj h with ⟨_,_,_,h1⟩ | ⟨id,ep,rows,_,h2,_,_,_,_,h1⟩
   ·rw[h1];exact .inr ⟨_,rfl⟩
   ·rw[h1];exact .inl ⟨_,_,rfl,by rw[h2];simp⟩
 ·have h:fV d xs g≠.fail:=by rw[hy];simp
  obtain ⟨s,i,id2,ep2,len2,lim2,vrows,lo,fz,e1,e2,e3,e4,e5⟩:=iq h
  rw[e5] at h hy
  rcases mj h with ⟨_,_,_,h1⟩ | ⟨id,ep,rows,_,h2,_,_,_,_,h1⟩<;>(rw[h1] at hy;cases hy)
 ·obtain ⟨s,i,id2,ep2,len2,lim2,vrows,lo,fz,e1,e2,e3,e4,e5⟩:=iq hne
  subst e1;subst e3
  rw[e5] at hne hf ⊢
  obtain ⟨v1,v2,v3,rfl⟩:∃v1 v2 v3,vs=[v1,v2,v3]:=by
   have:=hv.1
   match vs,this with
   | [a,b,c],_=>exact ⟨a,b,c,rfl⟩
  have r1:RV w γ A bd s v1:=hv.2 0 _ _ rfl rfl
  have r2:RV w γ A bd (.int .i64 (Int.ofNat i)) v2:=hv.2 1 _ _ rfl rfl
  have r3:RV w γ A bd (.hsl id2 ep2 0 vrows.length lim2) v3:=hv.2 2 _ _ rfl rfl
  cases r2
  have hid2:hg id2=.cells 1 vrows ep2 lo fz:=by
   rw[hx id2 (by simp[List.flatMap_cons,au,aA]) (by rw[e2];simp),e2]
  obtain ⟨vc,hv3,hvc,_⟩:=jm hr r3 hid2
  subst hv3
  obtain ⟨cv,ev,lv,p1,p2,p3,p4,p5,p6,p7⟩:=qA hr hid2
  have hz:(γ id2).base+0*1=(γ id2).base:=by omega
  rw[hz] at r3 ⊢
  rcases mj hne with ⟨hs,hi,hbig,h1⟩ | ⟨id,ep,rows,hs,h2,hne2,hin,hpos,hbig,h1⟩
  ·subst hi
   rw[h1] at hf ⊢
   have hfree:(γ g.nx).kind=0:=hf g.nx (Nat.le_refl _) (by simp[gOf])
   have hbase:∃base,v1=.slice base 0 0:=by
    rcases hs with rfl | rfl | ⟨id,ep,fz2,rfl,hgid⟩
    ·cases r1;exact ⟨_,rfl⟩
    ·cases r1;exact ⟨_,rfl⟩
    ·have hid:hg id=.cells 1 [] ep false fz2:=by
      rw[hx id (by simp[List.flatMap_cons,au,aA]) (by rw[hgid];simp),hgid]
     obtain ⟨c,hv1,hnc,hco⟩:=jm hr r1 hid
     have hob:=hr.obj id
     rw[hid] at hob
     obtain ⟨-,-,-,k4,k5,-⟩:=hob
     have hk:=k5.1 rfl
     have hc0:c=0:=by simp only[dC] at hco;simp at k4;omega
     subst hc0
     exact ⟨_,hv1⟩
   obtain ⟨base,hb⟩:=hbase
   subst hb
   obtain ⟨cap,rest,q1,q2,q3,q4⟩:=qY L (w:=w) (base:=base) (vb:=(γ id2).blk) (voff:=(γ id2).base) (m:=vrows.length) (vc:=vc) (vs:=lv) e4 hbig p3
    (fun j v hj=>by rw[gt p1,<-p4 j (by rw[<-p3];exact (List.getElem?_eq_some_iff.1 hj).1)];exact hj) p5
   have hrr:RowsRel w γ A bd 1 vrows (lv.toArray++rest):=by
    refine ⟨by simp[p3],p6,fun k j row x a b=>?_⟩
    obtain ⟨j0,o1,v,l1,l2⟩:=p7 k j row x a b
    subst j0
    refine ⟨o1,v,?_,l2⟩
    have hk:=(List.getElem?_eq_some_iff.1 a).1
    rw[Array.getElem?_append_left (by simp;omega)]
    simpa using l1
   obtain ⟨γ',s1,s2,s3⟩:=j6 (e:=ρ.t 3) hr hfree hrr vrows.length cap (by simp[q3];omega) q1 rfl q2
   exact ⟨_,_,γ',_,yg s1 s2,s3,.inr ⟨hent,iY q4 cs⟩⟩
  ·subst hs
   rw[h1] at hf ⊢
   have hid:hg id=.cells 1 rows ep true false:=by
    rw[hx id (by simp[List.flatMap_cons,au,aA]) (by rw[h2];simp),h2]
   obtain ⟨c,hv1,hnc,hco⟩:=jm hr r1 hid
   subst hv1
   have hob:=hr.obj id
   rw[hid] at hob
   obtain ⟨k1,k2,k3,k4,k5,k6,_⟩:=hob
   have hob2:=hr.obj id2
   rw[hid2] at hob2
   obtain ⟨m1,_⟩:=hob2
   have hblk:(γ id2).blk≠(γ id).blk:=fun e=>hne2 (hr.inj id id2 (by rw[k1];decide) (by rw[m1];decide) e.symm)
   obtain ⟨cc,ec,lc,c1,c2,c3,c4,c5,c6,c7⟩:=qA hr hid
   have hcap:c=rows.length+(γ id).slack:=by simp only[dC] at hco;omega
   have hins:=rR L (w:=w) (b:=(γ id).blk) (off:=(γ id).base) (n:=rows.length) (c:=c) (i:=i) (vb:=(γ id2).blk) (voff:=(γ id2).base) (m:=vrows.length) (vc:=vc)
    c1 p1 hblk hin e4 hnc (by have:=k5.2 rfl;omega) hbig (by omega) (by omega) (by omega) c3 p3 c4 p4 c5 p5
   obtain ⟨b',o',cap',c',e',w',n1,n2,n3,n4,n5,n6,n7,n8,n9⟩:=hins
   let gh:Gh:=⟨1,ep+1,1,rows.length+vrows.length,b',o',cap' - (rows.length+vrows.length),true⟩
   have hrl:(rows.take i++(vrows++rows.drop i)).length=rows.length+vrows.length:=by simp;omega
   have hcell:∀(k:Nat) row,(rows.take i++(vrows++rows.drop i))[k]?=some row->row.length=1/\∀(j:Nat) x,row[j]?=some x->x.one=true/\∃v,c'[o'+k*1+j]?=some v/\RV w γ A bd x v:=by
    intro k row hk
    have hkl:k<rows.length+vrows.length:=by rw[<-hrl];exact (List.getElem?_eq_some_iff.1 hk).1
    have hck:=n9 k hkl
    rw[cZ c3 p3 hin] at hck
    rw[cZ (n:=rows.length) (m:=vrows.length) rfl rfl hin] at hk
    split at hk
    ·rename_i h1;rw[if_pos h1] at hck
     refine ⟨c6 _ _ hk,fun j x hj=>?_⟩
     obtain ⟨j0,o1,v,l1,l2⟩:=c7 _ j row x hk hj
     subst j0
     exact ⟨o1,v,by rw[show o'+k*1+0=o'+k from by omega,hck];exact l1,l2⟩
    ·rename_i h1;rw[if_neg h1] at hck
     split at hk
     ·rename_i h2;rw[if_pos h2] at hck
      refine ⟨p6 _ _ hk,fun j x hj=>?_⟩
      obtain ⟨j0,o1,v,l1,l2⟩:=p7 _ j row x hk hj
      subst j0
      exact ⟨o1,v,by rw[show o'+k*1+0=o'+k from by omega,hck];exact l1,l2⟩
     ·rename_i h2;rw[if_neg h2] at hck
      refine ⟨c6 _ _ hk,fun j x hj=>?_⟩
      obtain ⟨j0,o1,v,l1,l2⟩:=c7 _ j row x hk hj
      subst j0
      exact ⟨o1,v,by rw[show o'+k*1+0=o'+k from by omega,hck];exact l1,l2⟩
   obtain ⟨s1,s2⟩:=hr.moved hid (w1:=w') (gh:=gh) (rows':=rows.take i++(vrows++rows.drop i)) rfl rfl rfl (by rw[hrl]) rfl n4
    (by rw[hrl];simp only[gh];omega) n5 n6 (c:=c') (e:=e') n7 (by rw[hrl];simp only[gh];omega)
    (fun k row hk=>(hcell k row hk).1) (fun k j row x hk hj=>(hcell k row hk).2 j x hj)
   have hz':(γ id).base+0*1=(γ id).base:=by omega
   rw[hz']
   refine ⟨.slice (some (adr b' o')) (rows.length+vrows.length) cap',w',_,_,yn s1 s2,?_,.inr ⟨hent,iY n1 cs⟩⟩
   refine .hsl _ id (ep+1) 0 _ none _ _ cap' (by simp[gh]) (by simp[gh]) n2 (fun _=>⟨by simp[gh],by simp[gh],?_⟩)
   simp only[dC,upd_same,gh];omega
end
end Hx
end
section
namespace Hx
open Go
noncomputable def ir (h:H):List Nat->H
 | []=>.nil
 | id::l=>(ir h l).put id (h.get id)
noncomputable def gM (h h':H):List Nat->H
 | []=>h
 | id::l=>(gM h h' l).put id (h'.get id)
theorem yv (k:Nat):H.get (Tr.nil:H) k=.none:=by
 simp[H.get,Tr.get_nil]
theorem iB (h:H)(k:Nat):∀l,(ir h l).get k=if k∈l then h.get k else .none
 | []=>by simp[ir,yv]
 | id::l=>by
  rw[ir,H.get_put,iB h k l]
  by_cases hk:k=id
  ·subst hk;simp
  ·simp[hk]
theorem gS (h h':H)(k:Nat):∀l,(gM h h' l).get k=if k∈l then h'.get k else h.get k
 | []=>by simp[gM]
 | id::l=>by
  rw[gM,H.get_put,gS h h' k l]
  by_cases hk:k=id
  ·subst hk;simp
  ·simp[hk]
end Hx
end
section
namespace Hx
open Go
noncomputable def um (C:Cfg)(f:Nat):Nat->List AV->G->OR:=fun d xs g =>
 match (I C).call d f xs ⟨ir g.h (xs.flatMap (au g.h aA)),g.nx,[]⟩ with
 | .ok v g'=>.upd v ⟨gM g.h g'.h g'.lg,g'.nx,g'.lg++g.lg⟩
 | .fail=>.fail
theorem yy {C:Cfg}(hC:CfgOk C){f:Nat}:ExtOk C f (um C f):=by
 have wfr:∀(g:G) (ids:List Nat),WF g->WF ⟨ir g.h ids,g.nx,[]⟩:=by
  intro g ids hwf id hid
  show (ir g.h ids).get id=.none
  rw[iB]
  split
  ·exact hwf id hid
  ·rfl
 have sh:∀d xs g,um C f d xs g=.fail\/∃n v g',(sem C n).call d f xs ⟨ir g.h (xs.flatMap (au g.h aA)),g.nx,[]⟩=.ok v g' /\
   um C f d xs g=.upd v ⟨gM g.h g'.h g'.lg,g'.nx,g'.lg++g.lg⟩:=by
  intro d xs g
  unfold um
  split
  ·rename_i v g' h;obtain ⟨n,hn⟩:=y9 h;exact .inr ⟨n,v,g',hn,rfl⟩
  ·exact .inl rfl
 refine ⟨fun d xs g hwf=>?_,fun d xs g y hy=>?_,fun A bd w γ hg nx g xs vs hr hwf hx hf hv hne cs=>?_⟩
 ·rcases sh d xs g with h | ⟨n,v,g',h1,h2⟩
  ·rw[h];exact Mon.refl g
  ·rw[h2]
   have hok:=oI hC n
   have m:=hok.mon.call _ _ _ _ _ _ h1 (wfr g _ hwf)
   obtain ⟨nw,a,b,c⟩:=m.new
   have ha:g'.lg=nw:=by simpa using a
   refine ⟨m.nx,⟨g'.lg,rfl,fun id hid=>?_,fun id hid=>?_⟩,fun hw id hid=>?_⟩
   ·show (gM _ _ _).get id=_
    rw[gS,if_neg hid]
   ·obtain ⟨c1,c2⟩:=c id (by rw[<-ha];exact hid)
    refine ⟨c1,fun hn=>c2 ?_⟩
    show (ir _ _).get id=_
    rw[iB,hn];simp
   ·show (gM _ _ _).get id=_
    have hid:g'.nx<=id:=hid
    have hnx:g.nx<=g'.nx:=m.nx
    rw[gS,if_neg]
    ·exact hw id (by omega)
    ·intro hl
     have:=(c id (by rw[<-ha];exact hl)).1
     omega
 ·rcases sh d xs g with h | ⟨n,v,g',h1,h2⟩
  ·rw[h] at hy;cases hy
  ·rw[h2] at hy;cases hy
 ·rcases sh (bd+1) xs g with h | ⟨n,v,g',h1,h2⟩
  ·exact absurd h hne
  ·rw[h2] at hf ⊢
   have hok:=oI hC n
   obtain ⟨he,run⟩:=hok.call _ _ _ _ _ _ h1
   obtain ⟨u,w',γ',hg',fin,rv,out⟩:=run A w γ hg nx vs hr (fun id hn=>by
     have hn':(ir g.h (xs.flatMap (au g.h aA))).get id≠.none:=hn
     show hg id=(ir _ _).get id
     rw[iB] at hn' ⊢
     split at hn'
     ·rename_i hm;rw[if_pos hm];exact hx id hm hn'
     ·exact absurd rfl hn') (wfr g _ hwf) (fun id h1 h2=>hf id h1 h2) hv .normal cs (.inl rfl)
   refine ⟨u,w',γ',hg',⟨fin.rel,fin.stp,?_⟩,rv,.inr ⟨he,out⟩⟩
   obtain ⟨nw,a,b,c⟩:=fin.new
   have ha:g'.lg=nw:=by simpa using a
   subst ha
   refine ⟨g'.lg,rfl,fun id hid=>?_,c⟩
   show hg' id=(gM _ _ _).get id
   rw[gS,if_pos hid];exact b id hid
end Hx
end
section
namespace Go.Proofs.YtfpjoiojhegfaaaDoor.Gen
open Hx
noncomputable def cfg0:Cfg:={ P:=Tryd.prog,iso:=fun f=>Nat.testBit 21757468432525280001520595099783983529983 f,ext:=fun _=>none,glob:=fun g=>af (Nat.beq g 1) (some (64,[[.int .u8 0,.int .u8 1,.int .u8 56,.int .u8 2,.int .u8 57,.int .u8 49,.int .u8 28,.int .u8 3,.int .u8 61,.int .u8 58,.int .u8 42,.int .u8 50,.int .u8 38,.int .u8 29,.int .u8 17,.int .u8 4,.int .u8 62,.int .u8 47,.int .u8 59,.int .u8 36,.int .u8 45,.int .u8 43,.int .u8 51,.int .u8 22,.int .u8 53,.int .u8 39,.int .u8 33,.int .u8 30,.int .u8 24,.int .u8 18,.int .u8 12,.int .u8 5,.int .u8 63,.int .u8 55,.int .u8 48,.int .u8 27,.int .u8 60,.int .u8 41,.int .u8 37,.int .u8 16,.int .u8 46,.int .u8 35,.int .u8 44,.int .u8 21,.int .u8 52,.int .u8 32,.int .u8 23,.int .u8 11,.int .u8 54,.int .u8 26,.int .u8 40,.int .u8 15,.int .u8 34,.int .u8 20,.int .u8 31,.int .u8 10,.int .u8 25,.int .u8 14,.int .u8 19,.int .u8 9,.int .u8 13,.int .u8 8,.int .u8 7,.int .u8 6]])) none }
theorem cfg0Ok:CfgOk cfg0:=CfgOk.plain (by kernel_rfl) (by kernel_rfl)
theorem insOk:ExtOk cfg0 102 fV:=ru (C:=cfg0) (ρ:=Tryd.lays21_ren) Tryd.lays21 (Hx.uU Tryd.func102 (by kernel_rfl) (by kernel_rfl))
noncomputable def cfg:Cfg:=cfg0.add 102 fV
theorem cfgOk:CfgOk cfg:=cfg0Ok.add insOk
theorem works_run:az (sem cfg 20000) 1 G.empty 11 []=.val (.bool true):=by kernel_rfl
noncomputable def cfgW:Cfg:=cfg.add 11 (mb (.bool true))
theorem cfgWOk:CfgOk cfgW:=cfgOk.add (uR cfgOk works_run)
theorem inl103:ExtOk cfg0 103 (um cfg0 103):=yy cfg0Ok
noncomputable def cfg1:Cfg:=cfgW.add 103 (um cfg0 103)
theorem cfg1Ok:CfgOk cfg1:=cfgWOk.add (ExtOk.cfg (C:=cfg0) (C':=cfgW) rfl rfl inl103)
end Go.Proofs.YtfpjoiojhegfaaaDoor.Gen
end
section
namespace Hx
open Go
set_option maxRecDepth 100000
noncomputable section
def C0:Cfg:=Go.Proofs.YtfpjoiojhegfaaaDoor.Gen.cfg1
abbrev N.ay:Nat:=8
abbrev N.ah:Nat:=31
abbrev N.az:Nat:=11
abbrev N.au:Nat:=90
abbrev N.aA:Nat:=97
abbrev N.aq:Nat:=98
abbrev N.ax:Nat:=29
abbrev N.ap:Nat:=17
abbrev N.am:Nat:=15
abbrev N.ae:Nat:=39
abbrev N.ak:Nat:=40
abbrev N.aw:Nat:=69
abbrev N.aa:Nat:=70
abbrev N.af:Nat:=89
abbrev N.an:Nat:=37
def cB:SC:=.seq (sQ [o 15 (.call N.az []),o 16 (.not (.t 15))] (.cond (.t 16) (sQ [o 4 (.mv (.k (.bool false)))] (.ret)) (.skip))) (sQ [o 17 (.load true 2 (.t 2)),o 18 (.call N.ax [.t 17]),o 5 (.alloc [.nils]),oz (.store 1 (.t 5) (.t 18))] (sQ [oL 19 5,oN 20 19,o 21 (.bin .shl (.k (.int .u64 1)) (.t 20)),o 22 (.bin .sub (.t 21) (.k (.int .u64 1))),oM 6 22] (sQ [o 23 (.ixa 4 1 (.t 3) (qI 0)),oL 24 23,oM 25 6,o 26 (.bin .and (.t 24) (.t 25)),oM 7 26] (sQ [o 27 (.ixa 4 1 (.t 3) (qI 1)),oL 28 27,oM 29 6,o 30 (.bin .and (.t 28) (.t 29)),oM 31 7,o 32 (.bin .andNot (.t 30) (.t 31)),oM 8 32] (sQ [o 33 (.ixa 4 1 (.t 3) (qI 2)),oL 34 33,oM 35 6,o 36 (.bin .and (.t 34) (.t 35)),oM 37 7,o 38 (.bin .andNot (.t 36) (.t 37)),oM 39 8,o 40 (.bin .andNot (.t 38) (.t 39)),oM 9 40] (sQ [o 41 (.ixa 4 1 (.t 3) (qI 3)),oL 42 41,oM 43 6,o 44 (.bin .and (.t 42) (.t 43)),oM 45 7,o 46 (.bin .andNot (.t 44) (.t 45)),oM 47 8,o 48 (.bin .andNot (.t 46) (.t 47)),oM 49 9,o 50 (.bin .andNot (.t 48) (.t 49)),oM 10 50] (sQ [o 51 (.mkf N.ah [] [.t 5]),oM 11 51] (sQ [oM 52 11,oM 53 7,oM 54 8,oM 55 9,o 56 (.bin .or (.t 54) (.t 55)),oM 57 10,o 58 (.dyn (.t 52) [.t 53,.t 56,.t 57]),oM 12 58] (sQ [oL 60 5,oM 61 7,oM 62 10,o 63 (.call N.am [.t 60,.t 61,.t 62]),oM 59 63,o 64 (.ext (.t 59) 0),o 65 (.ext (.t 59) 1),oM 13 64,oM 14 65] (.seq (sQ [oM 66 14,o 67 (.bin .neq (.t 66) (qI 0)),oM 68 67,og 69 68 false (.mv (.t 13)),og 70 68 false (.mv (.t 7)),og 71 68 false (.bin .and (.t 69) (.t 70)),og 72 68 false (.mv (.t 7)),og 73 68 false (.bin .neq (.t 71) (.t 72)),o 74 (.pick (.t 68) (.k (.bool true)) (.t 73)),oM 75 74,og 76 75 false (.mv (.t 13)),og 77 75 false (.mv (.t 10)),og 78 75 false (.bin .and (.t 76) (.t 77)),og 79 75 false (.bin .neq (.t 78) (.k (.int .u64 0))),o 80 (.pick (.t 75) (.k (.bool true)) (.t 79)),oM 81 80,og 82 81 false (.mv (.t 13)),og 83 81 false (.mv (.t 8)),og 84 81 false (.mv (.t 9)),og 85 81 false (.bin .or (.t 83) (.t 84)),og 86 81 false (.bin .and (.t 82) (.t 85)),og 87 81 false (.bin .eql (.t 86) (.k (.int .u64 0))),og 88 81 false (.mv (.t 12)),og 89 81 false (.eq true .bool (.t 87) (.t 88)),o 90 (.pick (.t 81) (.k (.bool true)) (.t 89)),oM 91 90,og 92 91 false (.mv (.t 11)),og 93 91 false (.mv (.t 7)),og 94 91 false (.mv (.t 8)),og 95 91 false (.mv (.t 10)),og 96 91 false (.dyn (.t 92) [.t 93,.t 94,.t 95]),og 97 91 false (.mv (.t 11)),og 98 91 false (.mv (.t 8)),og 99 91 false (.mv (.t 7)),og 100 91 false (.mv (.t 10)),og 101 91 false (.dyn (.t 97) [.t 98,.t 99,.t 100]),og 102 91 false (.eq true .bool (.t 96) (.t 101)),o 103 (.pick (.t 91) (.k (.bool true)) (.t 102))] (.cond (.t 103) (sQ [o 4 (.mv (.k (.bool false)))] (.ret)) (.skip))) (.seq (sQ [oM 104 12,oM 105 104,og 106 105 true (.mv (.t 11)),og 107 105 true (.mv (.t 7)),og 108 105 true (.mv (.t 8)),og 109 105 true (.mv (.t 10)),og 110 105 true (.dyn (.t 106) [.t 107,.t 108,.t 109]),og 111 105 true (.not (.t 110)),og 112 105 true (.mv (.t 111)),og 113 112 false (.mv (.t 11)),og 114 112 false (.mv (.t 7)),og 115 112 false (.mv (.t 9)),og 116 112 false (.mv (.t 10)),og 117 112 false (.dyn (.t 113) [.t 114,.t 115,.t 116]),og 118 112 false (.not (.t 117)),og 119 105 true (.pick (.t 112) (.k (.bool true)) (.t 118)),og 120 105 true (.mv (.t 119)),og 121 120 false (.mv (.t 11)),og 122 120 false (.mv (.t 7)),og 123 120 false (.mv (.t 8)),og 124 120 false (.mv (.t 10)),og 125 120 false (.mv (.t 9)),og 126 120 false (.bin .or (.t 124) (.t 125)),og 127 120 false (.dyn (.t 121) [.t 122,.t 123,.t 126]),og 128 120 false (.not (.t 127)),og 129 105 true (.pick (.t 120) (.k (.bool true)) (.t 128)),o 130 (.pick (.t 105) (.t 129) (.k (.bool false)))] (.cond (.t 130) (sQ [o 4 (.mv (.k (.bool false)))] (.ret)) (.skip))) (sQ [oM 131 11,oM 132 7,oM 133 8,oM 134 10,o 135 (.dyn (.t 131) [.t 132,.t 133,.t 134]),o 136 (.not (.t 135)),oM 137 136,og 138 137 false (.mv (.t 11)),og 139 137 false (.mv (.t 7)),og 140 137 false (.mv (.t 9)),og 141 137 false (.mv (.t 10)),og 142 137 false (.mv (.t 8)),og 143 137 false (.bin .or (.t 141) (.t 142)),og 144 137 false (.dyn (.t 138) [.t 139,.t 140,.t 143]),og 145 137 false (.not (.t 144)),o 146 (.pick (.t 137) (.k (.bool true)) (.t 145)),oM 147 146,og 148 147 false (.mv (.t 12)),o 149 (.pick (.t 147) (.k (.bool true)) (.t 148)),oM 4 149] (.ret)))))))))))))
def bK:SF:=⟨150,[.tm 4],sQ [o 2 (.box (.t 0)),o 3 (.box (.t 1)),o 4 (.mv (.k (.bool false)))] cB⟩
def dW:SF:=⟨28,[.tm 6,.tm 7],sQ [o 6 (.mv (.k (.int .u64 0))),oK 7 0] (sQ [oM 11 0,o 12 (.call N.an [.t 11]),oM 10 12,o 13 (.ext (.t 10) 0),o 14 (.ext (.t 10) 1),o 8 (.alloc [.nils,.nils]),oz (.store 2 (.t 8) (.t 13)),oM 9 14] (.seq (sQ [oM 15 9,o 16 (.bin .neq (.t 15) (qI 0))] (.cond (.t 16) (sQ [oM 17 9,o 6 (.mv (.k (.int .u64 0))),oM 7 17] (.ret)) (.skip))) (.seq (sQ [o 18 (.load true 2 (.t 8)),oM 19 1,oM 20 2,o 21 (.bsl 1 2 [.int .u64 0] [0,1] [.t 19,.t 20]),o 22 (.call N.ae [.t 18,.t 21]),o 23 (.not (.t 22))] (.cond (.t 23) (sQ [o 6 (.mv (.k (.int .u64 0))),oK 7 2] (.ret)) (.skip))) (sQ [o 24 (.load true 2 (.t 8)),oM 25 1,oM 26 2,o 27 (.call N.ak [.t 24,.t 25,.t 26]),oM 6 27,oK 7 0] (.ret)))))⟩
def d9:SF:=⟨34,[.tm 8,.tm 9],sQ [o 8 (.mv (.k (.bool false))),oK 9 0] (sQ [oM 13 0,o 14 (.call N.an [.t 13]),oM 12 14,o 15 (.ext (.t 12) 0),o 16 (.ext (.t 12) 1),o 10 (.alloc [.nils,.nils]),oz (.store 2 (.t 10) (.t 15)),oM 11 16] (.seq (sQ [oM 17 11,o 18 (.bin .neq (.t 17) (qI 0))] (.cond (.t 18) (sQ [oM 19 11,o 8 (.mv (.k (.bool false))),oM 9 19] (.ret)) (.skip))) (.seq (sQ [o 20 (.load true 2 (.t 10)),oM 21 1,oM 22 2,oM 23 3,o 24 (.bsl 1 3 [.int .u64 0] [0,1,2] [.t 21,.t 22,.t 23]),o 25 (.call N.ae [.t 20,.t 24]),o 26 (.not (.t 25))] (.cond (.t 26) (sQ [o 8 (.mv (.k (.bool false))),oK 9 2] (.ret)) (.skip))) (sQ [o 27 (.load true 2 (.t 10)),oM 28 1,oM 29 3,o 30 (.call N.ak [.t 27,.t 28,.t 29]),oM 31 2,o 32 (.bin .and (.t 30) (.t 31)),o 33 (.bin .eql (.t 32) (.k (.int .u64 0))),oM 8 33,oK 9 0] (.ret)))))⟩
def bZ:SC:=sQ [o 7 (.mv (.k (.nils)))] (sQ [oM 36 7,oM 37 4,oM 38 6,o 39 (.slc 1 (.t 37) [] [.t 38]),o 40 (.app 1 8 (.t 36) (.t 39)),oM 41 5,o 42 (.bsl 1 1 [.int .i64 0] [0] [.t 41]),o 43 (.app 1 8 (.t 40) (.t 42)),oM 7 43] (.ops [oM 44 7,oM 45 4,oM 46 6,o 47 (.slc 1 (.t 45) [.t 46] []),o 48 (.app 1 8 (.t 44) (.t 47)),oM 4 48]))
def dO:SC:=.ops [oM 20 5,oA 21 20,oM 5 21]
def bY:SC:=.seq (sQ [oM 17 5,oM 18 3,o 19 (.bin .lss (.t 17) (.t 18))] (.cond (.t 19) (.skip) (.exit 0))) (.seq (.blk 1 (sQ [oK 6 0] (.seq (sQ [oM 22 5,oF 23 1 1,oL 24 23,oN 25 24,o 26 (.bin .lss (.t 22) (.t 25))] (.cond (.t 26) (.ops [oF 27 1 1,oL 28 27,oM 29 5,oX 30 28 29,oL 31 30,o 32 (.conv .i64 (.t 31)),oM 33 5,oA 34 33,o 35 (.bin .rem (.t 32) (.t 34)),oM 6 35]) (.skip))) bZ))) dO)
def dQ:SC:=.ops [oM 66 11,oA 67 66,oM 11 67]
def b9:SC:=.seq (sQ [oM 63 11,oM 64 9,o 65 (.bin .lss (.t 63) (.t 64))] (.cond (.t 65) (.skip) (.exit 4))) (.seq (.blk 5 (sQ [oF 68 0 1,oL 69 68,oM 70 9,oX 71 69 70,oL 72 71,oM 73 11,o 74 (.conv .u64 (.t 73)),o 75 (.bin .shr (.t 72) (.t 74)),o 76 (.bin .and (.t 75) (.k (.int .u8 1))),o 77 (.bin .eql (.t 76) (.k (.int .u8 1))),oM 78 77,og 79 78 true (.mv (.t 10)),og 80 78 true (.bin .lss (.t 79) (qI 3)),o 81 (.pick (.t 78) (.t 80) (.k (.bool false)))] (.cond (.t 81) (.seq (.feet [0,0,0,6,14,0,0,0,192,448,992,2016,0,0,12288,28672,61440,126976,262112,524287,1048575] [oM 82 8,oM 83 4,oM 84 9,oX 85 83 84,oL 86 85,oM 87 8,oM 88 4,oM 89 9,oX 90 88 89,oL 91 90,oX 92 87 91,oL 93 92,oM 94 4,oM 95 11,oX 96 94 95,oL 97 96,o 98 (.conv .u64 (.t 97)),o 99 (.bin .shl (.k (.int .u64 1)) (.t 98)),o 100 (.bin .or (.t 93) (.t 99)),oX 101 82 86,oz (.store 1 (.t 101) (.t 100))]) (.ops [oM 102 10,oA 103 102,oM 10 103])) (.skip)))) dQ)
def dS:SC:=.ops [oM 61 9,oA 62 61,oM 9 62]
def bX:SC:=.seq (sQ [oM 51 9,oM 52 3,o 53 (.bin .lss (.t 51) (.t 52)),oM 54 53,og 55 54 true (.mv (.t 9)),og 56 54 true (.fad 0 (.t 1)),og 57 54 true (.load false 1 (.t 56)),og 58 54 true (.len .slice (.t 57)),og 59 54 true (.bin .lss (.t 55) (.t 58)),o 60 (.pick (.t 54) (.t 59) (.k (.bool false)))] (.cond (.t 60) (.skip) (.exit 2))) (.seq (.blk 3 (sQ [oK 10 0] (sQ [oK 11 0] (.blk 4 (.loop b9))))) dS)
def dH:SC:=sQ [oM 104 8,oM 2 104] (.ret)
def dD:SC:=sQ [oM 49 3,o 50 (.mks 1 8 [.int .u64 0] (.t 49) (.t 49)),oM 8 50] (.seq (sQ [oK 9 0] (.blk 2 (.loop bX))) dH)
def dT:SC:=sQ [oF 12 0 1,oL 13 12,oN 14 13,o 15 (.mx (.t 14) (qI 1)),o 16 (.mn (.t 15) (qI 6)),oM 3 16] (sQ [o 4 (.mv (.k (.nils)))] (.seq (sQ [oK 5 0] (.blk 0 (.loop bY))) dD))
def cT:SF:=⟨105,[.tm 2],sQ [o 1 (.box (.t 0)),o 2 (.mv (.k (.nils)))] dT⟩
def br:SF:=⟨23,[.tm 7],sQ [o 7 (.mv (.k (.bool false)))] (sQ [oL 11 3,oM 12 0,oM 13 1,oM 14 2,o 15 (.call N.ap [.t 11,.t 12,.t 13,.t 14]),oM 10 15,o 16 (.ext (.t 10) 0),o 17 (.ext (.t 10) 1),oM 8 16,oM 9 17] (sQ [oM 18 8,oM 19 18,og 20 19 true (.mv (.t 9)),og 21 19 true (.bin .eql (.t 20) (qI 0)),o 22 (.pick (.t 19) (.t 21) (.k (.bool false))),oM 7 22] (.ret)))⟩
def dh:SC:=sQ [o 44 (.bin .lss (.t 43) (.t 42))] (.seq (.cond (.t 44) (.skip) (.exit 2)) (.seq (.blk 3 (sQ [oM 45 43,oM 7 45] (.feet [0,1,0,7,15,0,0,96,224,0,992,2047,4095,8191] [oF 46 1 4,oL 47 46,oM 48 7,oX 49 47 48,oL 50 49,oM 51 6,oM 52 7,o 53 (.bin .shr (.t 51) (.t 52)),o 54 (.bin .and (.t 53) (.k (.int .u64 1))),oM 55 5,o 56 (.bin .shl (.t 54) (.t 55)),o 57 (.bin .or (.t 50) (.t 56)),oX 58 47 48,oz (.store 1 (.t 58) (.t 57))]))) (.ops [oA 59 43,oM 43 59])))
def fI:SC:=.ops [oA 60 30,oM 30 60]
def dl:SC:=sQ [o 31 (.bin .lss (.t 30) (.t 29))] (.seq (.cond (.t 31) (.skip) (.exit 0)) (.seq (.blk 1 (sQ [oM 32 30,oX 33 28 30,oL 34 33,oM 5 32,oM 6 34] (.seq (sQ [oM 35 6,oM 36 0,oN 37 36,o 38 (.bin .shr (.t 35) (.t 37)),o 39 (.bin .neq (.t 38) (.k (.int .u64 0)))] (.cond (.t 39) (sQ [o 40 (.build [.nils,.nils] [] []),oz (.store 2 (.t 2) (.t 40)),oK 3 70] (.ret)) (.skip))) (sQ [oM 41 0,oN 42 41,oK 43 0] (.blk 2 (.loop dh)))))) fI))
def dv:SC:=sQ [o 72 (.bin .lss (.t 71) (.t 70))] (.seq (.cond (.t 72) (.skip) (.exit 6)) (.seq (.blk 7 (sQ [oM 73 71,oX 74 69 71,oL 75 74,oM 9 73,oM 10 75] (sQ [oM 76 8,oM 77 9,o 78 (.bin .shr (.t 76) (.t 77)),o 79 (.bin .and (.t 78) (.k (.int .u64 1))),o 80 (.bin .eql (.t 79) (.k (.int .u64 0))),oM 81 80,og 82 81 true (.mv (.t 10)),og 83 81 true (.mv (.t 8)),og 84 81 true (.bin .andNot (.t 82) (.t 83)),og 85 81 true (.bin .eql (.t 84) (.k (.int .u64 0))),o 86 (.pick (.t 81) (.t 85) (.k (.bool false)))] (.cond (.t 86) (sQ [oM 87 8,oM 88 9,o 89 (.bin .shl (.k (.int .u64 1)) (.t 88)),o 90 (.bin .or (.t 87) (.t 89)),oM 8 90] (.exit 5)) (.skip))))) (.ops [oA 91 71,oM 71 91])))
def fG:SC:=sQ [o 92 (.build [.nils,.nils] [] []),oz (.store 2 (.t 2) (.t 92)),oK 3 70] (.ret)
def fE:SC:=.ops [oA 93 65,oM 65 93]
def dm:SC:=sQ [o 66 (.bin .lss (.t 65) (.t 64))] (.seq (.cond (.t 66) (.skip) (.exit 4)) (.seq (.blk 5 (.seq (sQ [oF 67 0 4,oF 68 0 67,oL 69 68,oN 70 69,oK 71 0] (.blk 6 (.loop dv))) fG)) fE))
def fk:SC:=sQ [o 94 (.load true 2 (.t 4)),oz (.store 2 (.t 2) (.t 94)),oK 3 0] (.ret)
def fL:SC:=sQ [o 8 (.mv (.k (.int .u64 0)))] (.seq (.skip) (.seq (sQ [oF 61 0 4,oF 62 0 61,oL 63 62,oN 64 63,oK 65 0] (.blk 4 (.loop dm))) fk))
def cw:SC:=.seq (sQ [oM 11 0,oN 12 11,o 13 (.bin .lss (.t 12) (qI 1)),oM 14 13,og 15 14 false (.mv (.t 0)),og 16 14 false (.len .slice (.t 15)),og 17 14 false (.bin .gtr (.t 16) (qI 8)),o 18 (.pick (.t 14) (.k (.bool true)) (.t 17))] (.cond (.t 18) (sQ [o 19 (.build [.nils,.nils] [] []),oz (.store 2 (.t 2) (.t 19)),oK 3 70] (.ret)) (.skip))) (sQ [oM 20 0,o 21 (.build [.nils] [(0,1)] [.t 20]),oM 22 0,oN 23 22,o 24 (.mks 1 8 [.int .u64 0] (.t 23) (.t 23)),o 25 (.build [.nils,.nils] [(0,1),(1,1)] [.t 21,.t 24]),o 4 (.alloc [.nils,.nils]),oz (.store 2 (.t 4) (.t 25))] (.seq (sQ [oF 26 0 4,oF 27 0 26,oL 28 27,oN 29 28,oK 30 0] (.blk 0 (.loop dl))) fL))
def b_:SF:=⟨95,[.cell true 2 2,.tm 3],sQ [o 2 (.alloc [.nils,.nils]),oK 3 0] cw⟩
def cg:SC:=sQ [o 11 (.bin .lss (.t 10) (.t 9))] (.seq (.cond (.t 11) (.skip) (.exit 0)) (.seq (.blk 1 (sQ [oX 12 8 10,oL 13 12,oM 7 13] (.seq (sQ [oM 14 7,oF 15 0 2,oF 16 0 15,oL 17 16,oN 18 17,o 19 (.bin .shr (.t 14) (.t 18)),o 20 (.bin .neq (.t 19) (.k (.int .u64 0))),oM 21 20,og 22 21 false (.mv (.t 7)),og 23 21 false (.mv (.t 5)),og 24 21 false (.bin .and (.t 22) (.t 23)),og 25 21 false (.bin .neq (.t 24) (.k (.int .u64 0))),o 26 (.pick (.t 21) (.k (.bool true)) (.t 25))] (.cond (.t 26) (sQ [o 4 (.mv (.k (.bool false)))] (.ret)) (.skip))) (.ops [oM 27 5,oM 28 7,o 29 (.bin .or (.t 27) (.t 28)),oM 5 29])))) (.ops [oA 30 10,oM 10 30])))
def ck:SC:=sQ [o 4 (.mv (.k (.bool true)))] (.ret)
def cx:SC:=sQ [o 5 (.mv (.k (.int .u64 0)))] (.seq (sQ [oM 8 1,oN 9 8,oK 10 0] (.blk 0 (.loop cg))) ck)
def bB:SF:=⟨31,[.tm 4],sQ [o 2 (.box (.t 0)),o 4 (.mv (.k (.bool false)))] cx⟩
def cO:SC:=.ops [oA 38 25,oM 25 38]
def cQ:SC:=sQ [o 26 (.bin .lss (.t 25) (.t 24))] (.seq (.cond (.t 26) (.skip) (.exit 2)) (.seq (.blk 3 (sQ [oM 27 25,oX 28 23 25,oL 29 28,oM 8 27,oM 9 29] (sQ [oL 30 7,oM 31 8,o 32 (.bin .shr (.t 30) (.t 31)),o 33 (.bin .and (.t 32) (.k (.int .u64 1))),o 34 (.bin .eql (.t 33) (.k (.int .u64 1)))] (.cond (.t 34) (.ops [oL 35 7,oM 36 9,o 37 (.bin .or (.t 35) (.t 36)),oz (.store 1 (.t 7) (.t 37))]) (.skip))))) cO))
def fN:SC:=.ops [oA 39 19,oM 19 39]
def fR:SC:=sQ [o 20 (.bin .lss (.t 19) (.t 18))] (.seq (.cond (.t 20) (.skip) (.exit 0)) (.seq (.blk 1 (sQ [oF 21 0 3,oF 22 0 21,oL 23 22,oN 24 23,oK 25 0] (.blk 2 (.loop cQ)))) fN))
def cP:SC:=.ops [oM 13 44]
def cR:SC:=.blk 5 (.ops [oL 45 12,oM 46 13,o 47 (.build [.int .i64 0,.bool false] [(0,1),(1,1)] [.t 46,.k (.bool false)]),o 48 (.dyn (.t 45) [.t 47])])
def cS:SC:=sQ [oL 49 10,oM 6 49] (.ret)
def a7:SC:=sQ [o 40 (.raw (.makeMap 144 none)),o 10 (.alloc [.int .u64 0]),o 11 (.alloc [.nilm]),oz (.store 1 (.t 10) (.k (.int .u64 0))),oz (.store 1 (.t 11) (.t 40))] (sQ [o 12 (.alloc [.nilf])] (sQ [o 41 (.mkf N.aw [] [.t 11,.t 5,.t 10,.t 3,.t 12,.t 7]),oz (.store 1 (.t 12) (.t 41))] (.seq (sQ [oM 42 1,o 43 (.call N.aa [.t 42])] (.blk 4 (.rng 50 (.t 43) [44] cP cR))) cS)))
def cY:SC:=sQ [oL 14 5,o 7 (.alloc [.int .u64 0]),oz (.store 1 (.t 7) (.t 14))] (.seq (sQ [oF 15 0 3,oF 16 0 15,oL 17 16,oN 18 17,oK 19 0] (.blk 0 (.loop fR))) a7)
def bU:SF:=⟨50,[.tm 6],sQ [o 3 (.box (.t 0)),o 5 (.box (.t 2)),o 6 (.mv (.k (.int .u64 0)))] cY⟩
def aT:SC:=.ops [oM 8 33]
def aU:SC:=.blk 1 (.ops [oL 34 5,oM 35 8,o 36 (.build [.int .i64 0,.bool false] [(0,1),(1,1)] [.t 35,.k (.bool true)]),o 37 (.dyn (.t 34) [.t 36])])
def aX:SC:=.ops [oM 9 69]
def aW:SC:=.blk 3 (.ops [oL 70 5,oM 71 9,o 72 (.build [.int .i64 0,.bool false] [(0,1),(1,1)] [.t 71,.k (.bool false)]),o 73 (.dyn (.t 70) [.t 72])])
def aV:SC:=.seq (sQ [oF 38 1 7,oL 39 38,oM 40 39,og 41 40 true (.load false 1 (.t 6)),og 42 40 true (.fad 0 (.t 7)),og 43 40 true (.load false 1 (.t 42)),og 44 40 true (.bin .shr (.t 41) (.t 43)),og 45 40 true (.bin .and (.t 44) (.k (.int .u64 1))),og 46 40 true (.bin .eql (.t 45) (.k (.int .u64 0))),o 47 (.pick (.t 40) (.t 46) (.k (.bool false))),oM 48 47,og 49 48 false (.fad 1 (.t 7)),og 50 48 false (.load false 1 (.t 49)),og 51 48 false (.not (.t 50)),og 52 48 false (.mv (.t 51)),og 53 52 true (.load false 1 (.t 2)),og 54 52 true (.fad 0 (.t 7)),og 55 52 true (.load false 1 (.t 54)),og 56 52 true (.bin .shr (.t 53) (.t 55)),og 57 52 true (.bin .and (.t 56) (.k (.int .u64 1))),og 58 52 true (.bin .eql (.t 57) (.k (.int .u64 1))),og 59 48 false (.pick (.t 52) (.t 58) (.k (.bool false))),o 60 (.pick (.t 48) (.k (.bool true)) (.t 59))] (.cond (.t 60) (.ret) (.skip))) (sQ [oF 61 0 4,oF 62 0 61,oL 63 62,oF 64 0 7,oL 65 64,oX 66 63 65,oL 67 66,o 68 (.call N.aa [.t 67])] (.blk 2 (.rng 74 (.t 68) [69] aX aW)))
def cA:SC:=.seq (sQ [oL 10 1,o 11 (.load true 2 (.t 7)),o 12 (.raw (.lookup 144 (.tmp 10) (.tmp 11) false))] (.cond (.t 12) (.ret) (.skip))) (sQ [oL 13 1,o 14 (.load true 2 (.t 7)),oz (.raw (.mapUpdate 144 (.tmp 13) (.tmp 14) (.const (.bool true))))] (.seq (sQ [oL 15 2,oF 16 0 7,oL 17 16,o 18 (.bin .shr (.t 15) (.t 17)),o 19 (.bin .and (.t 18) (.k (.int .u64 1))),o 20 (.bin .eql (.t 19) (.k (.int .u64 0)))] (.cond (.t 20) (.seq (.feet [0,0,2,6,15,31] [oL 21 3,oF 22 0 7,oL 23 22,o 24 (.bin .shl (.k (.int .u64 1)) (.t 23)),o 25 (.bin .or (.t 21) (.t 24)),oz (.store 1 (.t 3) (.t 25))]) (sQ [oF 26 1 4,oL 27 26,oF 28 0 7,oL 29 28,oX 30 27 29,oL 31 30,o 32 (.call N.aa [.t 31])] (.blk 0 (.rng 74 (.t 32) [33] aT aU)))) (.skip))) aV))
def bJ:SF:=⟨74,[],sQ [o 7 (.box (.t 0))] cA⟩
def eI:SC:=sQ [o 3 (.mkf N.af [] [.t 1]),oM 2 3] (.ret)
def dk:SF:=⟨4,[.tm 2],sQ [o 1 (.box (.t 0)),o 2 (.mv (.k (.nilf)))] eI⟩
def dy:SC:=.seq (sQ [oM 5 3,o 6 (.bin .neq (.t 5) (.k (.int .u64 0)))] (.cond (.t 6) (.skip) (.exit 0))) (.seq (.blk 1 (sQ [oM 11 0,oM 12 3,o 13 (.call N.au [.t 12]),o 14 (.dyn (.t 11) [.t 13]),o 15 (.not (.t 14))] (.cond (.t 15) (.ret) (.skip)))) (.ops [oM 7 3,oM 8 3,o 9 (.bin .sub (.t 8) (.k (.int .u64 1))),o 10 (.bin .and (.t 7) (.t 9)),oM 3 10]))
def aS:SF:=⟨16,[],sQ [oL 4 1,oM 3 4] (.blk 0 (.loop dy))⟩
def bI:SF:=⟨8,[.tm 2],sQ [oK 2 0] (.seq (.cond (.k (.bool false)) (sQ [oM 3 0,o 4 (.conv .u32 (.t 3)),o 5 (.call N.aA [.t 4]),oM 2 5] (.ret)) (.skip)) (sQ [oM 6 0,o 7 (.call N.aq [.t 6]),oM 2 7] (.ret)))⟩
def bm:SF:=⟨14,[.tm 2],sQ [oK 2 0] (.seq (sQ [oM 3 0,o 4 (.bin .eql (.t 3) (.k (.int .u64 0)))] (.cond (.t 4) (sQ [oK 2 64] (.ret)) (.skip))) (sQ [oM 5 0,oM 6 0,o 7 (.un .neg (.t 6)),o 8 (.bin .and (.t 5) (.t 7)),o 9 (.bin .mul (.t 8) (.k (.int .u64 285870213051353865))),o 10 (.bin .shr (.t 9) (.k (.int .u64 58))),o 11 (.ixa 64 1 (.k (.tptr 0 64 [[.int .u8 0,.int .u8 1,.int .u8 56,.int .u8 2,.int .u8 57,.int .u8 49,.int .u8 28,.int .u8 3,.int .u8 61,.int .u8 58,.int .u8 42,.int .u8 50,.int .u8 38,.int .u8 29,.int .u8 17,.int .u8 4,.int .u8 62,.int .u8 47,.int .u8 59,.int .u8 36,.int .u8 45,.int .u8 43,.int .u8 51,.int .u8 22,.int .u8 53,.int .u8 39,.int .u8 33,.int .u8 30,.int .u8 24,.int .u8 18,.int .u8 12,.int .u8 5,.int .u8 63,.int .u8 55,.int .u8 48,.int .u8 27,.int .u8 60,.int .u8 41,.int .u8 37,.int .u8 16,.int .u8 46,.int .u8 35,.int .u8 44,.int .u8 21,.int .u8 52,.int .u8 32,.int .u8 23,.int .u8 11,.int .u8 54,.int .u8 26,.int .u8 40,.int .u8 15,.int .u8 34,.int .u8 20,.int .u8 31,.int .u8 10,.int .u8 25,.int .u8 14,.int .u8 19,.int .u8 9,.int .u8 13,.int .u8 8,.int .u8 7,.int .u8 6]] 0 0)) (.t 10)),oL 12 11,o 13 (.conv .i64 (.t 12)),oM 2 13] (.ret)))⟩
theorem fM:nFn C0 N.ay=some bK:=by kernel_rfl
theorem jo:nFn C0 N.am=some dW:=by kernel_rfl
theorem iN (d:Nat)(xs:List AV)(g:G):bT C0 d N.am xs g=az (I C0) d g N.am xs:=by kernel_rfl
theorem jx:nFn C0 N.ap=some d9:=by kernel_rfl
theorem iO (d:Nat)(xs:List AV)(g:G):bT C0 d N.ap xs g=az (I C0) d g N.ap xs:=by kernel_rfl
theorem ip:nFn C0 N.ax=some cT:=by kernel_rfl
theorem gG (d:Nat)(xs:List AV)(g:G):bT C0 d N.ax xs g=az (I C0) d g N.ax xs:=by kernel_rfl
theorem eV:nFn C0 N.ah=some br:=by kernel_rfl
theorem kv:nFn C0 N.an=some b_:=by kernel_rfl
theorem jn (d:Nat)(xs:List AV)(g:G):bT C0 d N.an xs g=az (I C0) d g N.an xs:=by kernel_rfl
theorem fy:nFn C0 N.ae=some bB:=by kernel_rfl
theorem eN (d:Nat)(xs:List AV)(g:G):bT C0 d N.ae xs g=az (I C0) d g N.ae xs:=by kernel_rfl
theorem gE:nFn C0 N.ak=some bU:=by kernel_rfl
theorem fT (d:Nat)(xs:List AV)(g:G):bT C0 d N.ak xs g=az (I C0) d g N.ak xs:=by kernel_rfl
theorem fQ:nFn C0 N.aw=some bJ:=by kernel_rfl
theorem iP:nFn C0 N.aa=some dk:=by kernel_rfl
theorem g9 (d:Nat)(xs:List AV)(g:G):bT C0 d N.aa xs g=az (I C0) d g N.aa xs:=by kernel_rfl
theorem g7:nFn C0 N.af=some aS:=by kernel_rfl
theorem fO:nFn C0 N.au=some bI:=by kernel_rfl
theorem eU (d:Nat)(xs:List AV)(g:G):bT C0 d N.au xs g=az (I C0) d g N.au xs:=by kernel_rfl
theorem eS:nFn C0 N.aq=some bm:=by kernel_rfl
theorem eE (d:Nat)(xs:List AV)(g:G):bT C0 d N.aq xs g=az (I C0) d g N.aq xs:=by kernel_rfl
theorem g6 {α:Type}{f:Nat->α->Nat->α->Bool}{i:Nat}{x:α}:∀{l:List α} {j:Nat},(∀b y,l[b]?=some y->f i x (j+b) y=true)->cI f i x j l=true
 | [],_,_=>rfl
 | y::r,j,h=>by
  simp only[cI,Bool.and_eq_true]
  refine ⟨by simpa using h 0 y rfl,g6 fun b z hb=>?_⟩
  have:=h (b+1) z (by simpa using hb)
  rwa [show j+(b+1)=j+1+b by omega] at this
theorem kI {α:Type}{f:Nat->α->Nat->α->Bool}:∀{l:List α} {i:Nat},(∀a b x y,a<b->l[a]?=some x->l[b]?=some y->f (i+a) x (i+b) y=true)->eH f i l=true
 | [],_,_=>rfl
 | x::r,i,h=>by
  simp only[eH,Bool.and_eq_true]
  refine ⟨g6 fun b y hb=>?_,kI fun a b x' y hab ha hb=>?_⟩
  ·have:=h 0 (b+1) x y (by omega) rfl (by simpa using hb)
   rwa [Nat.add_zero,show i+(b+1)=i+1+b by omega] at this
  ·have:=h (a+1) (b+1) x' y (by omega) (by simpa using ha) (by simpa using hb)
   rwa [show i+(a+1)=i+1+a by omega,show i+(b+1)=i+1+b by omega] at this
theorem kK {pm:List Nat}:∀{l:List Foot} {i:Nat},(∀f∈l,f.lk.sr=[])->im pm i l=true
 | [],_,_=>rfl
 | x::r,i,h=>by
  simp only[im,h x (by simp)]
  exact kK fun f hf=>h f (by simp[hf])
def wH (pm:List Nat)(ws:List Bool)(L:List (Nat×Nat))(i j:Nat):Bool:=(pm.getD j 0).testBit i || (!(ws.getD i false)&&!(ws.getD j false)) || L.contains (i,j)
def yD (pm:List Nat)(ws:List Bool)(L:List (Nat×Nat)):Bool:=(List.range ws.length).all fun j=>(List.range j).all fun i=>wH pm ws L i j
theorem jd {pm:List Nat}{fs:List Foot}(ws:List Bool)(L:List (Nat×Nat))(hw:All2 (fun (f:Foot) (w:Bool)=>f.lk.sr=[]/\(w=false->f.wr=[])) fs ws)(hd:yD pm ws L=true)
  (hL:∀p∈L,∀x y,fs[p.1]?=some x->fs[p.2]?=some y->cC x y=true):gO pm fs=true:=by
 unfold gO
 rw[aa,if_pos]
 ·exact kK fun f hf=>by
   obtain ⟨i,hi,rfl⟩:=List.mem_iff_getElem.1 hf
   obtain ⟨w,-,h⟩:=hw.get (List.getElem?_eq_getElem hi)
   exact h.1
 ·refine kI fun a b x y hab ha hb=>?_
  simp only[Nat.zero_add]
  obtain ⟨wa,hwa,ka⟩:=hw.get ha
  obtain ⟨wb,hwb,kb⟩:=hw.get hb
  have hbl:=(List.getElem?_eq_some_iff.1 hwb).1
  have:=List.all_eq_true.1 (List.all_eq_true.1 hd b (List.mem_range.2 hbl)) a (List.mem_range.2 hab)
  simp only[wH,Bool.or_eq_true] at this
  rcases this with (h | h) | h
  ·rw[h,Bool.true_or]
  ·simp only[List.getD_eq_getElem?_getD,hwa,hwb,Option.getD_some,Bool.and_eq_true,Bool.not_eq_true'] at h
   have ex:=ka.2 h.1
   have ey:=kb.2 h.2
   simp only[cC,gC,e8,ex,ey,Bool.and_self,Bool.or_true]
  ·rw[hL (a,b) (List.contains_iff_mem.1 h) x y ha hb,Bool.or_true]
structure Mech where
 card:Int
 frm:List Int
 noise:List Int
 out:List Int
structure Causal where
 grain:Int
 roots:List (List Int)
 nodes:List Mech
structure Node where
 card:Int
 parents:List Int
 rows:List (List Int)
structure Net where
 grain:Int
 nodes:List Node
structure Factor where
 vars:List Int
 cards:List Int
 w:List Int
instance : Rp Mech:=Rp.via fun m:Mech=>(m.card,m.frm,m.noise,m.out)
instance : Rp Causal:=Rp.via fun m:Causal=>(m.grain,m.roots,m.nodes)
instance : Rp Node:=Rp.via fun m:Node=>(m.card,m.parents,m.rows)
instance : Rp Net:=Rp.via fun m:Net=>(m.grain,m.nodes)
instance : Rp Factor:=Rp.via fun m:Factor=>(m.vars,m.cards,m.w)
section
variable {P:Nat->Prop}{k:Nat}{h:H}{cs:List AV}
end
theorem SlR.len {α:Type} [Rp α]{P:Nat->Prop}{k:Nat}{h:H}{l:List α}{v:AV}(r:SlR P k h l v)(g:G):gn .slice v g=.val (.int .i64 (l.length:Int)):=by
 obtain ⟨rows,h1,h2⟩:=r.rows
 rw[tZ h1,h2.len]
theorem SlR.tree {α:Type} [Rp α]{k k':Nat}{h h':H}{l:List α}{v:AV}(r:SlR NoP k h l v)(hk:k<=k'):SlR NoP k' h' l v:=by
 obtain ⟨w,hw,q⟩:=Rp.tree (P:=NoP) (k':=k') (h':=h') (show Rp.rp NoP k h l [v] from ⟨v,rfl,r⟩) hk
 injection hw with hw;subst hw;exact q
theorem zD {α:Type} [Rp α]{P:Nat->Prop}{k:Nat}{h:H}{l:List α}{v:AV}(r:SlR P k h l v)(d:Nat)(hd:Rp.dp (List α)<=20:=by decide) :
  ∃v',Hx.snap h d aA v=some v'/\∀h',SlR NoP (max k d) h' l v':=by
 obtain ⟨v',e,w,hw,q⟩:=wG (gP l hd) (by decide) d (show One l P k h v from ⟨v,rfl,r⟩)
 injection hw with hw;subst hw
 exact ⟨v',e,fun h'=>q.tree (Nat.le_refl _)⟩
theorem SlR.all {α:Type} [Rp α]{k:Nat}{h:H}{l:List α}{v:AV}(r:SlR NoP k h l v) :
  ∃rows:List (List AV),(∀h',aq h' (Rp.sz α) v=some rows)/\rows.length=l.length/\(∀(i:Nat) (x:α),l[i]?=some x->∃row,rows[i]?=some row/\Rp.rp NoP k .nil x row)/\(0<l.length->me v=true):=by
 have r0:=(r.tree (h':=.nil) (Nat.le_refl _))
 obtain ⟨rows,h1,h2⟩:=r0.rows
 refine ⟨rows,fun h'=>?_,h2.len.symm,fun i x hi=>h2.get hi,fun hl=>o7 h1 (i:=0) (by rw[<-h2.len];exact hl)⟩
 rw[<-h1]
 exact kC fun id ep off len lim e=>by subst e;exact r.2.1.elim
theorem jE {P:Nat->Prop}{k:Nat}{h:H}{l:List Nat}{v:AV}(r:SlR P k h l v):∀x∈l,x<18446744073709551616:=by
 obtain ⟨rows,h1,h2⟩:=r.rows
 intro x hx
 obtain ⟨i,hi,e⟩:=List.mem_iff_getElem.1 hx
 obtain ⟨row,h3,h4⟩:=h2.get (i:=i) (a:=x) (by rw[List.getElem?_eq_getElem hi,e])
 exact (mq.1 h4).2
end
end Hx
end
section
namespace Hx
open Go
noncomputable section
theorem nq {C:Cfg}{nt d:Nat}{rd:Option Nat}{c:Code}{t:T}{df:List ADf}{g:G}{Q:QT}(h:wp C d rd (cD C nt c) Q t df g):((I C).code nt d rd c t df g).sat Q:=by
 rw[qW];exact y6 _ _ _ _ _ h
end
end Hx
end
section
section
namespace Hx
open Go
noncomputable section
theorem iG {α:Type}{l:List α}{j:Nat}(h:j<l.length):∃x,l[j]?=some x/\l.take (j+1)=l.take j++[x]/\x∈l :=
 ⟨l[j],List.getElem?_eq_getElem h,by rw[List.take_add_one,List.getElem?_eq_getElem h];rfl,List.getElem_mem h⟩
def S.bm (l:List Int):Int:=l.foldl (fun s x=>IntKind.wrap .i64 (s*x)) 1
def S.aW (l:List Int)(n:Int)(i:Nat):Bool:=decide (0<=l[i]?.getD 0)&&decide (l[i]?.getD 0<n)&&(i == 0 || decide (l[i - 1]?.getD 0<l[i]?.getD 0))
def S.aO (l:List Int)(n:Int):Bool:=(List.range l.length).all (S.aW l n)
def S.au (n:Nat):Nat:=1*2 ^ n % 18446744073709551616
def S.aR (l:List Int):Nat:=l.foldl (fun s x=>s ||| S.au x.toNat) 0
theorem o4 (n:Nat):S.au n<18446744073709551616:=Nat.mod_lt _ (by decide)
theorem er (k':IntKind)(n:Nat):bS .shl (.int .u64 1) (.int k' (n:Int))=.val (.int .u64 (S.au n:Int)):=sU k' 1 n
def S.aH (s v:Nat):Bool:=s / 2 ^ v &&& 1 == 1
def S.aq (p:List Nat)(s:Nat)(j:Nat):Nat:=(List.range j).foldl (fun s v=>if S.aH s v then s ||| p[v]?.getD 0 else s) s
def S.up (p:List Nat)(s:Nat)(j:Nat):Nat:=(List.range j).foldl (fun s _=>S.aq p s p.length) s
theorem dU (p:List Nat)(s j:Nat):S.aq p s (j+1)=if S.aH (S.aq p s j) j then S.aq p s j ||| p[j]?.getD 0 else S.aq p s j:=by
 unfold S.aq
 rw[List.range_succ,List.foldl_append];rfl
theorem fU (p:List Nat)(s j:Nat):S.up p s (j+1)=S.aq p (S.up p s j) p.length:=by
 unfold S.up
 rw[List.range_succ,List.foldl_append];rfl
def S.aF (p:List Nat):Bool:=(List.range p.length).all fun v=>!S.aH (S.up p (p[v]?.getD 0) p.length) v
def S.aw (l:List Int):Int:=l.foldl (·*·) 1
def S.a_ (m:Causal)(p:Int):Int:=(m.nodes[p.toNat]?.map (·.card)).getD 0
def S.ba (m:Causal)(r:Int):Int:=(m.roots[r.toNat]?.map fun r=>(r.length:Int)).getD 0
def S.aG (a b:Nat):Nat:=a ^^^ (a &&& b)
theorem i4 {n:Nat}(h:n<64):S.au n=2 ^ n:=by
 unfold S.au
 rw[Nat.one_mul,Nat.mod_eq_of_lt]
 exact Nat.pow_lt_pow_right (a:=2) (by decide) h
def S.aZ (m:Causal)(x:Mech):List Int:=x.frm.map (S.a_ m)++x.noise.map (S.ba m)
def S.a7 (m:Causal):Int:=S.aw (m.roots.map fun r=>(r.length:Int))
end
end Hx
end
section
namespace Hx
open Go
def Sub (a s:Nat):Prop:=∀v,a.testBit v=true->s.testBit v=true
theorem jI (s v:Nat):S.aH s v=s.testBit v:=by
 rw[Nat.testBit_eq_decide_div_mod_eq,S.aH,Nat.and_one_is_mod]
 rw[Bool.eq_iff_iff,beq_iff_eq,decide_eq_true_iff]
theorem nD {a s:Nat}:S.aG a s=0↔Sub a s:=by
 constructor
 ·intro h v hv
  have:=congrArg (·.testBit v) h
  simp[S.aG,hv] at this
  exact this
 ·intro h
  refine Nat.eq_of_testBit_eq fun v=>?_
  have:=h v
  simp only[S.aG,Nat.testBit_xor,Nat.testBit_and,Nat.zero_testBit]
  cases ha:a.testBit v
  ·rfl
  ·rw[this ha];rfl
theorem jY (a b v:Nat):(a ||| b).testBit v=(a.testBit v || b.testBit v):=Nat.testBit_or a b v
theorem re {n:Nat}(h:n<64)(v:Nat):(S.au n).testBit v=decide (n=v):=by rw[i4 h,Nat.testBit_two_pow]
section
variable {p:List Nat}
def Par (p:List Nat)(v:Nat):Nat:=p[v]?.getD 0
def Cl (p:List Nat)(s:Nat):Prop:=∀v,v<p.length->s.testBit v=true->Sub (Par p v) s
theorem nE {s t:Nat}(hc:Cl p t)(h:Sub s t):∀j,j<=p.length->Sub (S.aq p s j) t
 | 0,_=>h
 | j+1,hj=>by
  have ih:=nE hc h j (by omega)
  rw[dU]
  split
  ·rename_i hb
   rw[jI] at hb
   intro v hv
   rw[jY,Bool.or_eq_true] at hv
   rcases hv with hv | hv
   ·exact ih v hv
   ·exact hc j (by omega) (ih j hb) v hv
  ·exact ih
theorem oG {s t:Nat}(hc:Cl p t)(h:Sub s t):∀j,Sub (S.up p s j) t
 | 0=>h
 | j+1=>by rw[fU];exact nE hc (oG hc h j) _ (Nat.le_refl _)
def qQ (p:List Nat)(s:Nat):Prop:=Cl p s/\∀v,v<p.length->s.testBit v=true->(S.up p (Par p v) p.length).testBit v=false
theorem mF:S.aF p=true↔∀v,v<p.length->(S.up p (Par p v) p.length).testBit v=false:=by
 unfold S.aF
 rw[List.all_eq_true]
 constructor
 ·intro h v hv
  have:=h v (List.mem_range.2 hv)
  rw[jI] at this
  simpa [Par] using this
 ·intro h v hv
  have:=h v (List.mem_range.1 hv)
  rw[jI]
  simpa [Par] using this
def bct (s:Nat):Nat->Nat
 | 0=>0
 | n+1=>bct s n+(if s.testBit n then 1 else 0)
theorem q7 (s:Nat):∀n,bct s n<=n
 | 0=>Nat.le_refl _
 | n+1=>by have:=q7 s n;unfold bct;split<;>omega
theorem pW {a s:Nat}(h:Sub a s):∀n,bct a n<=bct s n
 | 0=>Nat.le_refl _
 | n+1=>by
  have:=pW h n
  unfold bct
  split
  ·rename_i hb;rw[if_pos (h n hb)];omega
  ·split<;>omega
theorem vz {a s:Nat}(h:Sub a s){v:Nat}(hv:s.testBit v=true)(ha:a.testBit v=false):∀n,v<n->bct a n<bct s n
 | 0,h0=>by omega
 | n+1,hn=>by
  unfold bct
  by_cases hvn:v=n
  ·subst hvn
   have:=pW h v
   rw[if_pos hv,ha];simp;omega
  ·have:=vz h hv ha n (by omega)
   split
   ·rename_i hb;rw[if_pos (h n hb)];omega
   ·split<;>omega
theorem qt {s:Nat}:∀n,bct s n=n->∀v,v<n->s.testBit v=true
 | 0,_,v,h=>by omega
 | n+1,h,v,hv=>by
  unfold bct at h
  have:=q7 s n
  split at h
  ·rename_i hb
   by_cases e:v=n
   ·subst e;exact hb
   ·exact qt n (by omega) v (by omega)
  ·omega
theorem jP {a s:Nat}(h:Sub a s)(h':Sub s a):a=s:=Nat.eq_of_testBit_eq fun v=>by
 cases ha:a.testBit v
 ·cases hs:s.testBit v
  ·rfl
  ·rw[h' v hs] at ha;cases ha
 ·rw[h v ha]
theorem zC {a s:Nat}(h:Sub a s):a<=s:=by
 have:a ||| s=s:=Nat.eq_of_testBit_eq fun v=>by
  rw[jY]
  cases ha:a.testBit v
  ·simp
  ·rw[h v ha];rfl
 rw[<-this];exact Nat.left_le_or
theorem gI (s:Nat):∀j,Sub s (S.aq p s j)
 | 0=>fun _ h=>h
 | j+1=>by
  have ih:=gI s j
  rw[dU]
  split
  ·intro v hv;rw[jY,ih v hv];rfl
  ·exact ih
theorem rH {s:Nat}{j k:Nat}(h:j<=k):Sub (S.aq p s j) (S.aq p s k):=by
 induction h with
 | refl=>exact fun _ h=>h
 | step _ ih =>
  rw[dU]
  split
  ·intro v hv;rw[jY,ih v hv];rfl
  ·exact ih
theorem uV {s:Nat}(h:S.aq p s p.length=s):Cl p s:=by
 intro v hv hb u hu
 have h1:(S.aq p s v).testBit v=true:=gI s v v hb
 have h2:(S.aq p s (v+1)).testBit u=true:=by
  rw[dU,jI,h1,if_pos rfl,jY]
  have:(p[v]?.getD 0).testBit u=true:=hu
  rw[this];simp
 have:=rH (p:=p) (s:=s) (show v+1<=p.length by omega) u h2
 rwa [h] at this
theorem jS {s n v:Nat}(h:s<2 ^ n)(hv:s.testBit v=true):v<n:=by
 rcases Nat.lt_or_ge v n with h1 | h1
 ·exact h1
 ·rw[Nat.testBit_lt_two_pow (Nat.lt_of_lt_of_le h (Nat.pow_le_pow_right (by decide) h1))] at hv;cases hv
theorem z8 {f:Nat->Nat}{n:Nat}(hm:∀j,Sub (f j) (f (j+1)))(hb:∀j,f j<2 ^ n)(hs:∀j,f (j+1)=f j->f (j+2)=f (j+1)):f (n+1)=f n:=by
 have key:∀j,j<=bct (f j) n\/f (j+1)=f j:=by
  intro j
  induction j with
  | zero=>exact .inl (Nat.zero_le _)
  | succ j ih =>
   rcases ih with ih | ih
   ·by_cases e:f (j+1)=f j
    ·exact .inr (hs j e)
    ·left
     have:∃v,(f (j+1)).testBit v=true/\(f j).testBit v=false:=by
      apply Classical.byContradiction
      intro hno
      apply e
      refine jP (fun v hv=>?_) (hm j)
      cases hc:(f j).testBit v
      ·exact absurd ⟨v,hv,hc⟩ hno
      ·rfl
     obtain ⟨v,h1,h2⟩:=this
     have:=vz (hm j) h1 h2 n (jS (hb _) h1)
     omega
   ·exact .inr (hs j ih)
 rcases key n with h | h
 ·have hc:bct (f n) n=n:=by have:=q7 (f n) n;omega
  refine jP (fun v hv=>?_) (hm n)
  exact qt n hc v (jS (hb _) hv)
 ·exact h
theorem z5 {a b n:Nat}(h:a<2 ^ n)(h':b<2 ^ n):a ||| b<2 ^ n:=Nat.or_lt_two_pow h h'
theorem j9 {v:Nat}(hp:∀x∈p,x<2 ^ p.length):Par p v<2 ^ p.length:=by
 unfold Par
 cases h:p[v]? with
 | none=>exact Nat.pow_pos (by decide)
 | some x=>exact hp x (List.mem_of_getElem? h)
theorem kh (hp:∀x∈p,x<2 ^ p.length){s:Nat}(hs:s<2 ^ p.length):∀j,S.aq p s j<2 ^ p.length
 | 0=>hs
 | j+1=>by
  have ih:=kh hp hs j
  rw[dU]
  split
  ·exact z5 ih (j9 hp)
  ·exact ih
theorem o8 (hp:∀x∈p,x<2 ^ p.length){s:Nat}(hs:s<2 ^ p.length):∀j,S.up p s j<2 ^ p.length
 | 0=>hs
 | j+1=>by rw[fU];exact kh hp (o8 hp hs j) _
theorem nj (hp:∀x∈p,x<2 ^ p.length){s:Nat}(hs:s<2 ^ p.length):Cl p (S.up p s p.length):=by
 apply uV
 rw[<-fU]
 exact z8 (f:=fun j=>S.up p s j) (fun j=>by rw[fU];exact gI _ _) (fun j=>o8 hp hs j) (fun j e=>by
  have e:S.up p s (j+1)=S.up p s j:=e
  show S.up p s (j+1+1)=S.up p s (j+1)
  rw[fU,e,<-fU,e])
theorem oD {s:Nat}:∀j,Sub s (S.up p s j)
 | 0=>fun _ h=>h
 | j+1=>fun v hv=>by rw[fU];exact gI _ _ v (oD j v hv)
end
end Hx
end
section
namespace Hx
open Go
noncomputable section
theorem x4 (z:AV)(k k':IntKind)(x y:Int)(g:G):uP 1 2 [z] [0,1] [.int k x,.int k' y] g=.upd (.hsl g.nx 0 0 2 none) (g.new (.cells 1 [[.int k x],[.int k' y]] 0 false false)):=rfl
theorem tR (z:AV)(k k' k2:IntKind)(x y w:Int)(g:G):uP 1 3 [z] [0,1,2] [.int k x,.int k' y,.int k2 w] g=.upd (.hsl g.nx 0 0 3 none) (g.new (.cells 1 [[.int k x],[.int k' y],[.int k2 w]] 0 false false)):=rfl
theorem rB {g:G}{b sz:Nat}{u:AV}{rows:List (List AV)}(hu:Own g b u sz rows){n:Nat}(hn:n<=rows.length) :
  ∃y,uQ sz u none (some (.int .i64 (n:Int))) g=.val y/\aq g.h sz y=some (rows.take n):=by
 rcases hu with ⟨rfl,rfl⟩ | ⟨id,ep,lo,h1,h2,rfl,h3⟩
 ·have:n=0:=by simpa using hn
  subst this
  exact ⟨.nils,rfl,rfl⟩
 ·simp only[uQ,gF,h3,Nat.beq_refl,Nat.beq_refl,Bool.true_and,am,Nat.zero_add,aa,Nat.ble_eq,Nat.le_refl,if_true,aM,Option.getD_none,Nat.sub_zero]
  simp only[dL]
  rw[show af (n.ble rows.length) (some n) none=some n from by rw[aa,if_pos (by simpa using hn)]]
  dsimp only
  by_cases h0:rows=[]
  ·subst h0
   have:n=0:=by simpa using hn
   subst this
   cases lo
   ·exact ⟨_,rfl,rfl⟩
   ·exact ⟨_,rfl,gY _ _ _ _⟩
  ·have hb:rows.length.beq 0=false:=by cases rows with | nil=>exact absurd rfl h0 | cons a l=>rfl
   rw[hb]
   refine ⟨_,rfl,?_⟩
   rw[fw,h3,cX,if_pos (by omega),List.drop_zero]
theorem rG {g:G}{b sz:Nat}{u:AV}{rows:List (List AV)}(hu:Own g b u sz rows){n:Nat}(hn:n<=rows.length) :
  ∃y,uQ sz u (some (.int .i64 (n:Int))) none g=.val y/\aq g.h sz y=some (rows.drop n):=by
 rcases hu with ⟨rfl,rfl⟩ | ⟨id,ep,lo,h1,h2,rfl,h3⟩
 ·have:n=0:=by simpa using hn
  subst this
  exact ⟨.nils,rfl,rfl⟩
 ·simp only[uQ,gF,h3,Nat.beq_refl,Nat.beq_refl,Bool.true_and,am,Nat.zero_add,aa,Nat.ble_eq,Nat.le_refl,if_true,aM,Option.getD_none,Nat.sub_zero]
  simp only[dL]
  rw[show af (n.ble rows.length) (some n) none=some n from by rw[aa,if_pos (by simpa using hn)]]
  dsimp only
  by_cases h0:rows.length=n
  ·subst h0
   rw[if_pos (Nat.beq_refl _),List.drop_length]
   cases lo
   ·exact ⟨_,rfl,rfl⟩
   ·exact ⟨_,rfl,gY _ _ _ _⟩
  ·rw[if_neg (fun e=>h0 (Nat.eq_of_beq_eq_true e))]
   refine ⟨_,rfl,?_⟩
   rw[fw,h3,cX,if_pos (by omega),List.take_of_length_le (by simp)]
def S.aA (os:List UInt8)(k:Nat):Nat:=if k<os.length then ((os[k]?.map UInt8.toNat).getD 0) % (k+1) else 0
def S.am (os:List UInt8):Nat->List Int
 | 0=>[]
 | k+1=>(S.am os k).take (S.aA os k)++(k:Int)::(S.am os k).drop (S.aA os k)
theorem hY (os:List UInt8):∀k,(S.am os k).length=k
 | 0=>rfl
 | k+1=>by simp only[S.am,List.length_append,List.length_cons,List.length_take,List.length_drop,hY os k];omega
def S.aT (cards:List Int):List Int->Nat->List Int×Bool
 | vals,0=>(vals,false)
 | vals,k+1=>if (vals[k]?.getD 0)+1<(cards[k]?.getD 0) then (vals.set k ((vals[k]?.getD 0)+1),true) else S.aT cards (vals.set k 0) k
def S.aV (cards vals:List Int):List Int×Bool:=S.aT cards vals vals.length
def S.aU (cards:List Int):Nat->List Int->List (List Int)
 | 0,_=>[]
 | f+1,v=>v::(if (S.aV cards v).2 then S.aU cards f (S.aV cards v).1 else [])
def S.bj (cards:List Int):List (List Int):=S.aU cards (S.aw cards).toNat (List.replicate cards.length 0)
def S.aJ:List Int->List Int->Int
 | _::cs,v::vs=>v*S.aw cs+S.aJ cs vs
 | _,_=>0
end
end Hx
end
section
namespace Hx
open Go
def S.a8 (x:Mech)(roots:List Int)(V:Nat->Int):List Int:=(x.frm.map fun q=>V q.toNat)++(x.noise.map fun r=>roots[r.toNat]?.getD 0)
def S.aX (m:Causal)(roots act:List Int)(V:Nat->Int)(i:Nat)(x:Mech):Int:=if 0<=act[i]?.getD 0 then act[i]?.getD 0 else x.out[(S.aJ (S.aZ m x) (S.a8 x roots V)).toNat]?.getD 0
def Sol (m:Causal)(roots act:List Int)(V:Nat->Int):Prop:=∀(i:Nat) (x:Mech),m.nodes[i]?=some x->V i=S.aX m roots act V i x
noncomputable def S.V (m:Causal)(roots act:List Int):Nat->Int:=Classical.epsilon (Sol m roots act)
noncomputable def S.bk (m:Causal)(roots act:List Int):List Int:=(List.range m.nodes.length).map (S.V m roots act)
end Hx
end
section
namespace Hx
open Go
noncomputable section
def hz (cs vs:List Int)(j:Nat):Int:=((cs.zip vs).take j).foldl (fun a p=>a*p.1+p.2) 0
section
variable {d k:Nat}{m:Causal}{roots act:List Int}{V:Nat->Int}{a b w u:AV}{p1 p2 p3 p4 iu:Nat}{hid:Int}{r:Nat->Nat}
end
end
end Hx
end
section
namespace Hx
open Go
noncomputable section
theorem uy (ag:Bool)(n l sz off:Nat)(row:List AV)(g:G):gv ag n (.tptr l sz [row] 0 off) g=orV (a8 ag n row off):=rfl
section
variable {d:Nat}{m:Causal}{a b:AV}
end
end
end Hx
end
section
namespace Hx
open Go
noncomputable section
theorem kf {C:Cfg}{d:Nat}{r:List SR}{t:T}{g:G}{K:AV->G->Prop}{id:Nat}(hg:g.h.get id=.dfr true)(h:jB r t (g.put id (.dfr false)) fun vs=>K (da vs) (g.put id (.dfr false))):i_ C d r t [.mark id] g K:=by
 unfold i_
 have:cd (I C) d [.mark id] g=some (g.put id (.dfr false)):=by
  simp only[cd,G.get_eq,hg]
 rw[this];exact h
def Fam (g:G)(b K:Nat)(V:Nat->AV)(W:Nat->List (List AV)):Prop :=
 (∀k,k<K->Own g b (V k) 1 (W k))/\∀k l,k<K->l<K->k≠l->∀id,vid (V k)=some id->vid (V l)≠some id
def Aq (c:Nat->Int)(V:Nat->AV)(i:Nat):List AV:=[.int .i64 (c i),V (3*i+1),V (3*i+2),V (3*i+3)]
def vu (n:Nat)(c:Nat->Int)(V:Nat->AV):List (List AV):=(List.range n).map (Aq c V)
structure ME where
 (n p4 q i5 p7 i9 b:Nat)
 (nv w5 w9 e7:AV)
 (gr:Int)
 (row0:List AV)
 (prow:List (List AV))
 (us:List UInt8)
structure ME.Ok (e:ME):Prop where
 ord:1<e.q/\e.q<e.p4/\e.p4<e.i5/\e.i5<e.p7/\e.p7<e.i9/\e.i9<e.b
 n1:1<=e.n/\e.n<=4
 g1:2<=e.gr/\e.gr<=12
 vn:vid e.nv=some e.q
 v5:vid e.w5=some e.i5
 v9:vid e.w9=some e.i9
 l7:SlR NoP 0 .nil e.us e.e7
structure MI (e:ME) (g:G) (V:Nat->AV) (W:Nat->List (List AV)) (c:Nat->Int) (ow:List Bool) (cap:Nat):Prop where
 h0:g.h.get 0=.cells 5 [e.row0] 0 false false
 h1:g.h.get 1=.cells 3 [[.int .i64 0,.nils,.nils]] 0 false false
 hN:Own g 0 e.nv 4 (vu e.n c V)
 h4:g.h.get e.p4=.cells 3 [[.int .i64 e.gr,V 0,e.nv]] 0 false false
 h5:Own g 0 e.w5 4 e.prow
 h7:∃cc:Int,0<=cc/\cc<=(cap:Int)/\g.h.get e.p7=.cells 2 [[e.e7,.int .i64 cc]] 0 false false
 h9:Own g 0 e.w9 1 (ow.map fun x=>[.bool x])
 fam:Fam g e.b (3*e.n+1) V W
 nx:e.b<=g.nx
section
variable {e:ME}{g g':G}{V:Nat->AV}{W:Nat->List (List AV)}{c:Nat->Int}{ow:List Bool}{cap:Nat}
structure MP (e:ME) (g:G) (V V':Nat->AV) (W:Nat->List (List AV)) (c:Nat->Int) (ow:List Bool) (cap:Nat):Prop where
 h0:g.h.get 0=.cells 5 [e.row0] 0 false false
 h1:g.h.get 1=.cells 3 [[.int .i64 0,.nils,.nils]] 0 false false
 hN:Own g 0 e.nv 4 (vu e.n c V)
 h4:g.h.get e.p4=.cells 3 [[.int .i64 e.gr,V 0,e.nv]] 0 false false
 h5:Own g 0 e.w5 4 e.prow
 h7:∃cc:Int,0<=cc/\cc<=(cap:Int)/\g.h.get e.p7=.cells 2 [[e.e7,.int .i64 cc]] 0 false false
 h9:Own g 0 e.w9 1 (ow.map fun x=>[.bool x])
 fam:Fam g e.b (3*e.n+1) V' W
 nx:e.b<=g.nx
end
end
end Hx
end
section
namespace Hx
open Go
noncomputable section
structure MD (e:ME) (W:Nat->List (List AV)) (R:List (List Int)) (F N O:Nat->List Int):Prop where
 r:All2 (Rp.rp NoP 0 .nil) R (W 0)
 f:∀i,i<e.n->W (3*i+1)=(F i).map ci
 n:∀i,i<e.n->W (3*i+2)=(N i).map ci
 o:∀i,i<e.n->W (3*i+3)=(O i).map ci
theorem SlR.wide {α:Type} [Rp α]{P:Nat->Prop}{k k':Nat}{h h':H}{l:List α}{v:AV}(r:SlR NoP k h l v)(hk:k<=k'):SlR P k' h' l v:=by
 obtain ⟨w,hw,q⟩:=Rp.tree (P:=P) (k':=k') (h':=h') (show Rp.rp NoP k h l [v] from ⟨v,rfl,r⟩) hk
 injection hw with hw;subst hw;exact q
structure M0 (n p4 q i5 p7:Nat) (nv w5 cl:AV) (row0:List AV) (prow:List (List AV)) (gr:Int) (g:G) (cf:Nat->Int):Prop where
 h0:g.h.get 0=.cells 5 [row0] 0 false false
 h1:g.h.get 1=.cells 3 [[.int .i64 0,.nils,.nils]] 0 false false
 hN:Own g 2 nv 4 (vu n cf fun _=>.nils)
 h4:g.h.get p4=.cells 3 [[.int .i64 gr,.nils,nv]] 0 false false
 h5:Own g 2 w5 4 prow
 h7:g.h.get p7=.cells 2 [[cl,.int .i64 0]] 0 false false
 nx:p7<g.nx
section
variable {n p4 q i5 p7:Nat}{nv w5 cl:AV}{row0:List AV}{prow:List (List AV)}{gr:Int}{g g':G}{cf cf':Nat->Int}
end
end
end Hx
end
section
namespace Hx
open Go
noncomputable section
def eid:AV->Option Nat
 | .hsl id _ _ _ _=>some id
 | .hptr id _ _ _=>some id
 | _=>none
def Bx (g:G)(b:Nat)(v:AV)(row:List AV):Prop:=∃id,b<=id/\id<g.nx/\v=.hptr id 0 0 0/\g.h.get id=.cells row.length [row] 0 false false
inductive En where
 | sl (sz:Nat) (rows:List (List AV))
 | bx (row:List AV)
def En.ok (g:G)(b:Nat)(v:AV):En->Prop
 | .sl sz rows=>Own g b v sz rows
 | .bx row=>Bx g b v row
section
variable {κ:Type}
structure Hp (g:G) (b:Nat) (L:κ->Prop) (V:κ->AV) (E:κ->En):Prop where
 ok:∀k,L k->(E k).ok g b (V k)
 sep:∀k l,L k->L l->k≠l->∀id,eid (V k)=some id->eid (V l)≠some id
 nx:b<=g.nx
variable {g g':G}{b:Nat}{L L':κ->Prop}{V:κ->AV}{E:κ->En}{k:κ}
end
section
variable {κ:Type} [DecidableEq κ]
variable {g g':G}{b:Nat}{L L':κ->Prop}{V:κ->AV}{E:κ->En}{k:κ}
end
end
end Hx
end
section
namespace Hx
open Go
noncomputable section
theorem yk {C:Cfg}{d:Nat}{rd:Option Nat}{l:List SI}{b:SC}{Q:QT}{t:T}{df:List ADf}{g:G}{P:PT}(h1:wpO C d rd l P t df g)(h2:∀t df g,P t df g->wp C d rd b Q t df g):wp C d rd (.seq (.ops l) b) Q t df g:=by
 rw[lR]
 have:wp C d rd (.ops l) (fun e t df g=>e=.norm/\P t df g) t df g:=by rw[oW];simpa using h1
 refine ef _ this ?_
 rintro e t df g ⟨rfl,h⟩
 exact h2 t df g h
structure Bnd (K:Nat) (m:Causal):Prop where
 r:m.roots.length<=K
 rr:∀x∈m.roots,x.length<=K
 n:m.nodes.length<=K
 f:∀x∈m.nodes,x.frm.length<=K/\x.noise.length<=K/\x.out.length<=K
abbrev Ky:Type:=Nat×Nat
structure BD (K R n:Nat) (V:Ky->AV) (E:Ky->En) (Rt:Nat->List Int) (c:Nat->Int) (F:Nat->Nat->List Int):Prop where
 r:∀i,i<R->E (0,i)=.sl 1 ((Rt i).map ci)/\(Rt i).length<=K
 f:∀q i,1<=q->q<=3->i<n->E (q,i)=.sl 1 ((F q i).map ci)/\(F q i).length<=K
 rs:E (4,0)=.sl 1 ((List.range R).map fun i=>[V (0,i)])
 ns:E (4,1)=.sl 4 ((List.range n).map fun i=>[.int .i64 (c i),V (1,i),V (2,i),V (3,i)])
structure TI (g:G) (q:Nat) (m:Causal) (k1 k2 act u1 u2 u3:AV) (A B W:List Int):Prop where
 a1:g.h.get 1=.cells 1 [[act]] 0 false false
 a2:g.h.get 2=.cells 3 [[.nils,.nils,.nils]] 0 false false
 a4:g.h.get 4=.cells 4 [[.int .i64 m.grain,k1,k2,.int .i64 (S.a7 m)]] 0 false false
 bq:g.h.get q=.cells 3 [[u1,u2,u3]] 0 false false
 o1:Own g 5 u1 1 (A.map ci)
 o2:Own g 5 u2 1 (B.map ci)
 o3:Own g 5 u3 1 (W.map ci)
 q5:5<=q/\q<g.nx
 n1:∀i,vid u1=some i->i≠q/\vid u2≠some i/\vid u3≠some i
 n2:∀i,vid u2=some i->i≠q/\vid u3≠some i
 n3:∀i,vid u3=some i->i≠q
section
variable {g g':G}{q:Nat}{m:Causal}{k1 k2 act u1 u2 u3:AV}{A B W:List Int}
end
end
end Hx
end
section
namespace Hx
open Go
noncomputable section
theorem vC {C:Cfg}{d:Nat}{rd:Option Nat}{a b:SC}{Q:QT}{t:T}{df:List ADf}{g:G}{P:PT}(h1:wp C d rd a (fun e t df g=>e=.norm/\P t df g) t df g)(h2:∀t df g,P t df g->wp C d rd b Q t df g):wp C d rd (.seq a b) Q t df g:=by
 rw[lR]
 refine ef _ h1 ?_
 rintro e t df g ⟨rfl,h⟩
 exact h2 t df g h
def S.bo (s a:List Int):List Int:=(List.range s.length).map fun i=>if a[i]?.getD 0<0 then -1 else s[i]?.getD 0
theorem yA {α:Type}{C:α->Prop}{S:α->VS}{j:Nat}(h:∀a,Snb (S a) j):Snb (fun P k h v=>∃a,C a/\S a P k h v) j :=
 ⟨fun {P k hh v n} d r hn=>by
  obtain ⟨a,c,r⟩:=r
  obtain ⟨v',e,r'⟩:=(h a).snap d r hn
  exact ⟨v',e,a,c,r'⟩,fun {k hh v n} r hn=>by
  obtain ⟨a,c,r⟩:=r
  exact (h a).tag r hn⟩
theorem ke:∀{A L:List Nat},A.Nodup->(∀v∈A,v∈L)->A.length<=L.length
 | [],_,_,_=>Nat.zero_le _
 | a::A,L,hA,h=>by
  rw[List.nodup_cons] at hA
  have ha:=h a (by simp)
  have:=ke (A:=A) (L:=L.erase a) hA.2 fun v hv=>(List.mem_erase_of_ne (fun e=>hA.1 (by rw[<-e];exact hv))).2 (h v (by simp[hv]))
  rw[List.length_erase_of_mem ha] at this
  have:=List.length_pos_of_mem ha
  simp only[List.length_cons]
  omega
def Ord (p:List Nat)(L:List Nat):Prop:=(∀v,v<p.length->v∈L)/\∀(i v:Nat),L[i]?=some v->v<p.length/\∀q,(Par p v).testBit q=true->q∈L.take i
def rh (p:List Nat)(L:List Nat):Prop:=L.Nodup/\∀(i v:Nat),L[i]?=some v->v<p.length/\∀q,(Par p v).testBit q=true->q∈L.take i
theorem tS {p L:List Nat}(h:rh p L){v:Nat}(hv:v ∉ L)(hl:v<p.length)(hp:∀q,(Par p v).testBit q=true->q∈L):rh p (L++[v]):=by
 refine ⟨?_,fun i u hu=>?_⟩
 ·rw[List.nodup_append]
  exact ⟨h.1,by simp,fun a ha b hb=>by simp at hb;subst hb;exact fun e=>hv (e ▸ ha)⟩
 ·rcases Nat.lt_or_ge i L.length with hi | hi
  ·rw[List.getElem?_append_left hi] at hu
   obtain ⟨h1,h2⟩:=h.2 i u hu
   exact ⟨h1,fun q hq=>by rw[List.take_append_of_le_length (by omega)];exact h2 q hq⟩
  ·rw[List.getElem?_append_right hi] at hu
   have:i=L.length:=by
    have:=(List.getElem?_eq_some_iff.1 hu).1;simp at this;omega
   subst this
   simp at hu;subst hu
   exact ⟨hl,fun q hq=>by rw[List.take_left];exact hp q hq⟩
theorem ub {p L:List Nat}(h:rh p L)(hl:p.length<=L.length):Ord p L:=by
 refine ⟨fun v hv=>?_,h.2⟩
 by_cases hm:v∈L
 ·exact hm
 ·have:=ke (A:=v::L) (L:=List.range p.length) (List.nodup_cons.2 ⟨hm,h.1⟩) fun u hu=>by
   rcases List.mem_cons.1 hu with rfl | hu
   ·exact List.mem_range.2 hv
   ·obtain ⟨i,hi,rfl⟩:=List.mem_iff_getElem.1 hu
    exact List.mem_range.2 (h.2 i _ (List.getElem?_eq_getElem hi)).1
  simp at this
  omega
theorem xZ {p L:List Nat}(h:rh p L)(hl:L.length<p.length):∃v,v<p.length/\v ∉ L:=by
 by_cases hh:∃v,v<p.length/\v ∉ L
 ·exact hh
 ·exfalso
  have:=ke (A:=List.range p.length) (L:=L) List.nodup_range fun v hv=>by
   by_cases h':v∈L
   ·exact h'
   ·exact absurd ⟨v,List.mem_range.1 hv,h'⟩ hh
  simp at this
  omega
def xk (D:Nat)(L:List Nat):Prop:=D<18446744073709551616/\∀v,D.testBit v=true↔v∈L
theorem ur {D:Nat}{L:List Nat}(h:xk D L){v:Nat}(hv:v<64):xk (D ||| S.au v) (L++[v]):=by
 refine ⟨zh h.1 (o4 v),fun u=>?_⟩
 rw[jY,re hv,Bool.or_eq_true,h.2,decide_eq_true_eq,List.mem_append,List.mem_singleton]
 constructor
 ·rintro (h | h)
  ·exact .inl h
  ·exact .inr h.symm
 ·rintro (h | h)
  ·exact .inl h
  ·exact .inr h.symm
section
variable {m:Causal}{c1 c2 l w c9 v35 ls v48:AV}{al:List Int}{hid kk:Int}{p:Nat}
end
end
end Hx
end
section
namespace Hx
open Go
noncomputable section
def S.aB:List Int->Int
 | []=>0
 | x::l=>x+10000*S.aB l
structure S.tI (bl:List Int) (n i:Nat) (V ai:Int) (k:Nat) (c:Int) (L:List Int):Prop where
 len:L.length=n
 rng:∀x∈L,0<=x/\x<10000
 zer:∀j,i+bl.length<=j->i+k<=j->L[j]?.getD 0=0
 kle:k<=bl.length+1
 c0:0<=c
 c1:c<10000
 ce:k=bl.length+1->c=0
 cs:k=0->c=0
 eq:S.aB L+c*10000 ^ (i+k)=V+ai*10000 ^ i*S.aB (bl.take k)
structure S.tO (al bl:List Int) (i:Nat) (L:List Int):Prop where
 len:L.length=al.length+bl.length
 rng:∀x∈L,0<=x/\x<10000
 zer:∀j,i+bl.length<=j->L[j]?.getD 0=0
 eq:S.aB L=S.aB (al.take i)*S.aB bl
structure S.mI (al bl:List Int) (i:Nat) (r:Int) (L:List Int):Prop where
 len:L.length=i
 rng:∀x∈L,0<=x/\x<10000
 r01:r=0\/r=1
 eq:S.aB L=S.aB (al.take i) - S.aB (bl.take i)+r*10000 ^ i
structure S.qI (x b n:Nat) (i:Nat) (L:List Int):Prop where
 len:L.length=n
 rng:∀z∈L,0<=z/\z<10000
 eq:S.aB (L.drop i)=((x / 10000 ^ i / b:Nat):Int)
theorem SlR.wd {α:Type} [Rp α]{P P':Nat->Prop}{k:Nat}{h h':H}{l:List α}{v:AV}(r:SlR P k h l v)(hf:∀i,P i->P' i/\h'.get i=h.get i):SlR P' k h' l v:=by
 obtain ⟨w,hw,q⟩:=Rp.mono (k':=k) (P':=P') (h':=h') (show Rp.rp P k h l [v] from ⟨v,rfl,r⟩) hf (Nat.le_refl _)
 injection hw with hw;subst hw;exact q
structure HS (m:Causal) (c1 c2 la lb lc:AV) (p q:Nat) (gb g:G):Prop where
 fr:Fr gb g
 mp:g.h.get p=.cells 3 [[.int .i64 m.grain,c1,c2]] 0 false false
 ml:g.h.get q=.cells 3 [[la,lb,lc]] 0 false false
 pn:p<gb.nx
 q0:gb.nx<=q
 qn:q<g.nx
section
variable {m:Causal}{c1 c2 la lb lc w c28 vi c90 vj:AV}{A B Z:List Int}{p q:Nat}
end
end
end Hx
end
end
section
namespace Hx
open Go
section
variable {p:List Nat}
theorem uB:qQ p 0:=⟨fun v _ hb=>by simp at hb,fun v _ hb=>by simp at hb⟩
theorem xy {q:Nat}(ih:qQ p q){j:Nat}(hj:j<64)(hd:Sub (Par p j) q):qQ p (q ||| S.au j):=by
 refine ⟨fun v hv hb=>?_,fun v hv hb=>?_⟩
 ·intro u hu
  rw[jY,re hj,Bool.or_eq_true,decide_eq_true_eq] at hb
  rw[jY,Bool.or_eq_true]
  rcases hb with hb | hb
  ·exact .inl (ih.1 v hv hb u hu)
  ·subst hb;exact .inl (hd u hu)
 ·rw[jY,re hj,Bool.or_eq_true,decide_eq_true_eq] at hb
  cases hq:q.testBit v
  ·rw[hq] at hb
   simp at hb
   subst hb
   rw[<-Bool.not_eq_true]
   intro hu
   have:=oG ih.1 hd p.length j hu
   rw[hq] at this;cases this
  ·exact ih.2 v hv hq
theorem oH {q:Nat}(h:qQ p q)(hf:∀v,v<p.length->q.testBit v=true):S.aF p=true :=
 mF.2 fun v hv=>h.2 v hv (hf v hv)
theorem nX (hp:∀x∈p,x<2 ^ p.length)(h:S.aF p=true){T:Nat}(hst:∀v,v<p.length->T.testBit v=false->¬Sub (Par p v) T):∀v,v<p.length->T.testBit v=true:=by
 rw[mF] at h
 have none:∀r v,v<p.length->T.testBit v=false->S.up p (Par p v) p.length=r->False:=by
  intro r
  induction r using Nat.strongRecOn with
  | _ r ih =>
   intro v hv hb hr
   have hns:=hst v hv hb
   have:∃u,(Par p v).testBit u=true/\T.testBit u=false:=by
    apply Classical.byContradiction
    intro hno
    apply hns
    intro u hu
    cases hc:T.testBit u
    ·exact absurd ⟨u,hu,hc⟩ hno
    ·rfl
   obtain ⟨u,hu,hub⟩:=this
   have hul:u<p.length:=jS (j9 hp) hu
   have hcl:=nj hp (s:=Par p v) (j9 hp)
   have hin:(S.up p (Par p v) p.length).testBit u=true:=oD _ u hu
   have hsub:Sub (S.up p (Par p u) p.length) (S.up p (Par p v) p.length):=oG hcl (hcl u hul hin) _
   have hlt:S.up p (Par p u) p.length<S.up p (Par p v) p.length:=by
    refine Nat.lt_of_le_of_ne (zC hsub) fun e=>?_
    have:=h u hul
    rw[e,hin] at this;cases this
   exact ih _ (by omega) u hul hub rfl
 intro v hv
 cases hc:T.testBit v
 ·exact (none _ v hv hc rfl).elim
 ·rfl
end
end Hx
end
section
namespace Hx
open Go
section
variable {p:List Nat}
def Eg (p:List Nat)(u v:Nat):Prop:=(Par p v).testBit u=true
def Bt (s v:Nat):Prop:=s.testBit v=true
theorem kW (hp:∀x∈p,x<2 ^ p.length){u v:Nat}(h:Eg p u v):u<p.length/\v<p.length:=by
 refine ⟨jS (j9 hp) h,?_⟩
 rcases Nat.lt_or_ge v p.length with h1 | h1
 ·exact h1
 ·unfold Eg Par at h
  rw[List.getElem?_eq_none h1] at h
  simp at h
theorem Ad {s:Nat}(hp:∀x∈p,x<2 ^ p.length)(hc:Cl p s){u v:Nat}(h:Ds (Eg p) u v)(hv:s.testBit v=true):s.testBit u=true:=by
 induction h with
 | rf=>exact hv
 | st e _ ih=>exact hc _ (kW hp e).2 (ih hv) _ e
theorem yR (hp:∀x∈p,x<2 ^ p.length){s:Nat}(hs:s<2 ^ p.length)(v:Nat):(S.up p s p.length).testBit v=true↔An (Eg p) (Bt s) v:=by
 constructor
 ·intro h
  have hc:Cl p (S.aa (An (Eg p) (Bt s)) p.length):=fun u hu hb x hx=>by
   rw[el] at hb ⊢
   exact ⟨(kW hp hx).1,An.up hx hb.2⟩
  have hsub:Sub s (S.aa (An (Eg p) (Bt s)) p.length):=fun u hu=>by
   rw[el]
   exact ⟨jS hs hu,An.of hu⟩
  have:=oG hc hsub p.length v h
  rw[el] at this
  exact this.2
 ·rintro ⟨z,hz,hd⟩
  exact Ad hp (nj hp hs) hd (oD _ z hz)
theorem oZ (hp:∀x∈p,x<2 ^ p.length){rk:Nat->Nat}(hr:∀u v,Eg p u v->rk u<rk v):S.aF p=true:=by
 refine mF.2 fun v hv=>?_
 cases h:(S.up p (Par p v) p.length).testBit v with
 | false=>rfl
 | true =>
  obtain ⟨z,hz,hd⟩:=(yR hp (j9 hp) v).1 h
  have h1:=hr _ _ (show Eg p z v from hz)
  rcases hd.rank hr with rfl | h2<;>omega
theorem zN {a b:Nat}:a &&& b≠0↔∃v,a.testBit v=true/\b.testBit v=true:=by
 constructor
 ·intro h
  apply Classical.byContradiction
  intro hno
  apply h
  refine Nat.eq_of_testBit_eq fun v=>?_
  rw[Nat.testBit_and,Nat.zero_testBit]
  cases h1:a.testBit v<;>cases h2:b.testBit v<;>first | rfl | exact absurd ⟨v,h1,h2⟩ hno
 ·rintro ⟨v,h1,h2⟩ h
  have:=congrArg (·.testBit v) h
  simp[h1,h2] at this
end
end Hx
end
section
namespace Hx
inductive Tw (E:Nat->Nat->Prop) (x:Nat):List Nat->Prop
 | one:Tw E x [x]
 | ext {v w:Nat} {r:List Nat}:Tw E x (v::r)->E v w\/E w v->w ∉ v::r->Tw E x (w::v::r)
end Hx
end
section
namespace Hx
open Go
noncomputable section
theorem vZ {q:Nat->Prop}{n:Nat}(h:∀i,i<n->¬q i):S.aa q n=0 :=
 (pf (n:=n) (p:=q) fun i=>by
  rw[Nat.zero_testBit]
  exact ⟨fun h'=>(by cases h'),fun ⟨a,b⟩=>(h i a b).elim⟩).symm
theorem zT {p q:Nat->Prop}{n v:Nat}(hv:v<n)(h:∀i,q i↔p i\/i=v):S.aa q n=S.aa p n ||| 2 ^ v:=by
 symm
 refine pf fun i=>?_
 rw[Nat.testBit_or,Nat.testBit_two_pow,Bool.or_eq_true,el,decide_eq_true_iff,h]
 constructor
 ·rintro (⟨a,b⟩ | e)
  ·exact ⟨a,.inl b⟩
  ·exact ⟨by omega,.inr e.symm⟩
 ·rintro ⟨a,b | e⟩
  ·exact .inl ⟨a,b⟩
  ·exact .inr e.symm
def S.ap (p:List Nat)(j i:Nat):List Nat:=(List.range p.length).map fun u=>S.aa (fun v=>Eg p u v/\(v<j\/v=j/\u<i)) p.length
def S.aC (p:List Nat):List Nat:=(List.range p.length).map fun u=>S.aa (Eg p u) p.length
theorem jR {p:List Nat}{j i:Nat}:(S.ap p j i).length=p.length:=by simp[S.ap]
theorem nY {p:List Nat}:(S.aC p).length=p.length:=by simp[S.aC]
theorem jQ {p:List Nat}{j i u:Nat}(h:u<p.length):(S.ap p j i)[u]?=some (S.aa (fun v=>Eg p u v/\(v<j\/v=j/\u<i)) p.length):=by simp[S.ap,h]
theorem v_ {p:List Nat}:S.ap p 0 0=List.replicate p.length 0:=by
 refine List.ext_getElem? fun u=>?_
 by_cases h:u<p.length
 ·rw[jQ h,List.getElem?_replicate,if_pos h,vZ]
  rintro i - ⟨-,h | h⟩<;>omega
 ·rw[List.getElem?_eq_none (by rw[jR];omega),List.getElem?_eq_none (by simp;omega)]
theorem wL {p:List Nat}{j:Nat}:S.ap p j p.length=S.ap p (j+1) 0 :=
 List.map_congr_left fun u hu=>fc fun v hv=>by
  have hu:=List.mem_range.1 hu
  constructor
  ·rintro ⟨a,b⟩;exact ⟨a,by omega⟩
  ·rintro ⟨a,b⟩;exact ⟨a,by omega⟩
theorem ye {p:List Nat}:S.ap p p.length 0=S.aC p :=
 List.map_congr_left fun u hu=>fc fun v hv=>⟨fun a=>a.1,fun a=>⟨a,.inl hv⟩⟩
theorem x7 {x i:Nat}:x / 2 ^ i &&& 1=if x.testBit i then 1 else 0:=by
 rw[Nat.and_one_is_mod,Nat.testBit_eq_decide_div_mod_eq]
 have:=Nat.mod_lt (x / 2 ^ i) (show 0<2 by decide)
 by_cases h:x / 2 ^ i % 2=1
 ·rw[if_pos (by rw[decide_eq_true_iff];exact h),h]
 ·rw[if_neg (by rw[decide_eq_true_iff];exact h)];omega
theorem vg {p:List Nat}{j i x:Nat}(hi:i<p.length)(hj:j<p.length)(h8:p.length<=8)(hx:p[j]?=some x) :
  (S.ap p j i).set i (S.aa (fun v=>Eg p i v/\(v<j\/v=j/\i<i)) p.length ||| (x / 2 ^ i &&& 1)*2 ^ j % 18446744073709551616)=S.ap p j (i+1):=by
 have h2:(2:Nat) ^ j<=2 ^ 8:=Nat.pow_le_pow_right (by decide) (by omega)
 have hPx:Par p j=x:=by simp[Par,hx]
 have hE:Eg p i j↔x.testBit i=true:=by rw[Eg,hPx]
 refine List.ext_getElem? fun u=>?_
 by_cases e:i=u
 ·subst e
  rw[List.getElem?_set_self (by rw[jR];exact hi),jQ hi,x7]
  congr 1
  by_cases hb:x.testBit i=true
  ·rw[if_pos hb,Nat.one_mul,Nat.mod_eq_of_lt (by omega)]
   refine (zT hj fun v=>?_).symm
   constructor
   ·rintro ⟨a,b⟩
    by_cases ev:v=j
    ·exact .inr ev
    ·exact .inl ⟨a,by omega⟩
   ·rintro (⟨a,b⟩ | rfl)
    ·exact ⟨a,by omega⟩
    ·exact ⟨hE.2 hb,by omega⟩
  ·rw[if_neg hb,Nat.zero_mul,Nat.zero_mod,Nat.or_zero]
   refine fc fun v _=>?_
   constructor
   ·rintro ⟨a,b⟩;exact ⟨a,by omega⟩
   ·rintro ⟨a,b⟩
    refine ⟨a,?_⟩
    by_cases ev:v=j
    ·subst ev;exact absurd (hE.1 a) hb
    ·omega
 ·rw[List.getElem?_set_ne e]
  by_cases h:u<p.length
  ·rw[jQ h,jQ h]
   refine congrArg some (fc fun v _=>?_)
   constructor<;>exact fun ⟨a,b⟩=>⟨a,by omega⟩
  ·rw[List.getElem?_eq_none (by rw[jR];omega),List.getElem?_eq_none (by rw[jR];omega)]
def S.ay (p:List Nat):Bool:=decide (1<=p.length)&&decide (p.length<=8)&&p.all (fun x=>decide (x<2 ^ p.length))&&S.aF p
structure GOk (p:List Nat):Prop where
 l1:1<=p.length
 l8:p.length<=8
 hp:∀x∈p,x<2 ^ p.length
 ac:S.aF p=true
theorem iD {p:List Nat}:S.ay p=true↔GOk p:=by
 simp only[S.ay,Bool.and_eq_true,decide_eq_true_eq,List.all_eq_true]
 exact ⟨fun ⟨⟨⟨a,b⟩,c⟩,d⟩=>⟨a,b,c,d⟩,fun ⟨a,b,c,d⟩=>⟨⟨⟨a,b⟩,c⟩,d⟩⟩
theorem z7 {p:List Nat}(h:¬GOk p):S.ay p=false:=by
 cases e:S.ay p with
 | false=>rfl
 | true=>exact absurd (iD.1 e) h
def S.gr (p:List Nat):List Nat×List Nat:=if S.ay p then (p,S.aC p) else ([],[])
def S.aQ (x:Nat):Nat->Nat
 | 0=>8
 | k+1=>if x.testBit (7 - k) then 7 - k else S.aQ x k
def S.tz (x:Nat):Nat:=S.aQ x 8
theorem zZ:∀x:Nat,x<256->x≠0->x &&& (18446744073709551616 - x)=2 ^ S.tz x/\S.tz x<8/\x &&& (x - 1)=x ^^^ 2 ^ S.tz x/\x.testBit (S.tz x)=true:=by decide +kernel
def mM:List (List AV):=[[.int .u8 0,.int .u8 1,.int .u8 56,.int .u8 2,.int .u8 57,.int .u8 49,.int .u8 28,.int .u8 3,.int .u8 61,.int .u8 58,.int .u8 42,.int .u8 50,.int .u8 38,.int .u8 29,.int .u8 17,.int .u8 4,.int .u8 62,.int .u8 47,.int .u8 59,.int .u8 36,.int .u8 45,.int .u8 43,.int .u8 51,.int .u8 22,.int .u8 53,.int .u8 39,.int .u8 33,.int .u8 30,.int .u8 24,.int .u8 18,.int .u8 12,.int .u8 5,.int .u8 63,.int .u8 55,.int .u8 48,.int .u8 27,.int .u8 60,.int .u8 41,.int .u8 37,.int .u8 16,.int .u8 46,.int .u8 35,.int .u8 44,.int .u8 21,.int .u8 52,.int .u8 32,.int .u8 23,.int .u8 11,.int .u8 54,.int .u8 26,.int .u8 40,.int .u8 15,.int .u8 34,.int .u8 20,.int .u8 31,.int .u8 10,.int .u8 25,.int .u8 14,.int .u8 19,.int .u8 9,.int .u8 13,.int .u8 8,.int .u8 7,.int .u8 6]]
theorem zV (b:Nat)(hb:b<8):∃i p,bS .shr (.int .u64 (IntKind.u64.wrap (((2 ^ b:Nat):Int)*285870213051353865))) (.int .u64 58)=.val i/\rQ 64 1 (.tptr 0 64 mM 0 0) i=.val p/\∀g,gv false 1 p g=.val (.int .u8 (b:Int)):=by
 match b,hb with
 | 0,_=>exact ⟨.int .u64 0,.tptr 0 64 mM 0 0,by kernel_rfl,by kernel_rfl,fun g=>by kernel_rfl⟩
 | 1,_=>exact ⟨.int .u64 1,.tptr 0 64 mM 0 1,by kernel_rfl,by kernel_rfl,fun g=>by kernel_rfl⟩
 | 2,_=>exact ⟨.int .u64 3,.tptr 0 64 mM 0 3,by kernel_rfl,by kernel_rfl,fun g=>by kernel_rfl⟩
 | 3,_=>exact ⟨.int .u64 7,.tptr 0 64 mM 0 7,by kernel_rfl,by kernel_rfl,fun g=>by kernel_rfl⟩
 | 4,_=>exact ⟨.int .u64 15,.tptr 0 64 mM 0 15,by kernel_rfl,by kernel_rfl,fun g=>by kernel_rfl⟩
 | 5,_=>exact ⟨.int .u64 31,.tptr 0 64 mM 0 31,by kernel_rfl,by kernel_rfl,fun g=>by kernel_rfl⟩
 | 6,_=>exact ⟨.int .u64 63,.tptr 0 64 mM 0 63,by kernel_rfl,by kernel_rfl,fun g=>by kernel_rfl⟩
 | 7,_=>exact ⟨.int .u64 62,.tptr 0 64 mM 0 62,by kernel_rfl,by kernel_rfl,fun g=>by kernel_rfl⟩
theorem xR {d x:Nat}{g:G}(hd:0<d)(hx:x<256)(h0:x≠0):bT C0 d N.aq [.int .u64 (x:Int)] g=.val (.int .i64 (S.tz x:Int)):=by
 obtain ⟨h1,h2,-⟩:=zZ x hx h0
 rw[eE]
 refine oh eS (xs:=[.int .u64 (x:Int)]) (by simp only[aK,jX 0]) (by simp[bm]) hd ?_
 have c0:¬(x:Int)=0:=by omega
 have hneg:unV .neg (.int .u64 (x:Int))=.val (.int .u64 ((18446744073709551616 - x:Nat):Int)):=by
  show OR.val (.int .u64 (IntKind.wrap .u64 (0 - (x:Int))))=_
  have:IntKind.wrap .u64 (0 - (x:Int))=((18446744073709551616 - x:Nat):Int):=by
   show (0 - (x:Int)) % 18446744073709551616=_
   omega
  rw[this]
 have hand:bS .and (.int .u64 (x:Int)) (.int .u64 ((18446744073709551616 - x:Nat):Int))=.val (.int .u64 ((2 ^ S.tz x:Nat):Int)):=by
  rw[cJ x (18446744073709551616 - x) (by omega) (by omega),h1]
 simp only[sz,simprocAttr,bm,c0,hneg,hand]
 obtain ⟨b,hb⟩:∃b,b=S.tz x:=⟨_,rfl⟩
 rw[<-hb] at h2 ⊢
 clear hand hb h1
 obtain ⟨i,p,t1,t2,t3⟩:=zV b h2
 rw[mM] at t2
 simp only[sz,simprocAttr,t1,t2,t3]
 rw[ku (by omega) (by omega)]
end
end Hx
end
section
namespace Hx
open Go
def S.az (n:Net):List Int:=n.nodes.map (·.card)
def S.aD (cs ps:List Int):List Int:=ps.map fun p=>cs[p.toNat]?.getD 0
def S.aM (n:Net):List Nat:=n.nodes.map fun x=>S.aR x.parents
def S.aI (gr card:Int)(r:List Int):Bool:=decide ((r.length:Int)=card)&&r.all (fun x=>decide (0<=x)&&decide (x<=gr))&&decide (r.sum=gr)
def S.bf (k:Int)(x:Node):Bool:=decide (1<=x.card)&&decide (x.card<=4)&&S.aO x.parents k
def S.bc (n:Net)(x:Node):Bool:=decide ((x.rows.length:Int)=S.aw (S.aD (S.az n) x.parents))&&x.rows.all (S.aI n.grain x.card)
structure NR (n:Net):Prop where
 g1:1<=n.grain
 g2:n.grain<=60
 l1:1<=n.nodes.length
 l2:n.nodes.length<=8
 card:∀x∈n.nodes,1<=x.card/\x.card<=4
 places:∀x∈n.nodes,S.aO x.parents n.nodes.length=true
 worlds:S.aw (S.az n)<=1024
 acyc:S.aF (S.aM n)=true
 rows:∀x∈n.nodes,(x.rows.length:Int)=S.aw (S.aD (S.az n) x.parents)
 row:∀x∈n.nodes,∀r∈x.rows,(r.length:Int)=x.card/\(∀y∈r,0<=y/\y<=n.grain)/\r.sum=n.grain
def S.bg (n:Net)(vals:List Int)(v:Nat):Int:=match n.nodes[v]? with
 | none=>1
 | some x=>(x.rows[(S.aJ (S.aD (S.az n) x.parents) (S.aD vals x.parents)).toNat]?.getD [])[(vals[v]?.getD 0).toNat]?.getD 0
end Hx
end
section
namespace Hx
open Go
section
variable {b card:Nat}
def S.aN (b card p:Nat):Nat:=p / (b*card)*b+p % b
def S.aL (b card p:Nat):Nat:=p / b % card
def S.aY (rows:List (List Int))(b card t:Nat):List Int:=(List.range (rows.length*card)).map fun p=>if S.aN b card p*card+S.aL b card p<t then (rows[S.aN b card p]?.getD [])[S.aL b card p]?.getD 0 else 0
def S.bh (rows:List (List Int))(b card:Nat):List Int:=(List.range (rows.length*card)).map fun p=>(rows[S.aN b card p]?.getD [])[S.aL b card p]?.getD 0
end
def S.aP (ps:List Int)(k:Nat)(v:Int):List Int:=ps.take k++v::ps.drop k
end Hx
end
section
namespace Hx
open Go
noncomputable section
section
variable {d:Nat}{b pa ra z:AV}{gr card:Int}{r:List Int}
def LR5 (v:Nat)(q:Nat):List (Nat×AV):=[(1,.hptr 0 0 0 0),(6,.int .i64 (v:Int)),(7,.hptr q 0 0 0)]
structure RJ1 (gr:Int) (r:List Int) (v q i j:Nat) (t:T):Prop where
 st:St t ((8,.int .i64 (i:Int))::LR5 v q)
 s9:tat t 9=.int .i64 (r.take j).sum
 all:∀y∈r.take j,0<=y/\y<=gr
structure RJ4 (gr card:Int) (rws:List (List Int)) (v q j:Nat) (t:T):Prop where
 st:St t (LR5 v q)
 all:∀r∈rws.take j,S.aI gr card r=true
structure RJ0 (n:Net) (b:AV) (j:Nat) (t:T) (g:G):Prop where
 st:St t [(1,.hptr 0 0 0 0),(3,.int .i64 (S.aw ((S.az n).take j)))]
 hg:g.h.get 0=.cells 2 [[.int .i64 n.grain,b]] 0 false false
 nx:1<=g.nx
 all:∀x∈n.nodes.take j,S.bf n.nodes.length x=true
structure RJ6 (n:Net) (b:AV) (j:Nat) (t:T) (g:G):Prop where
 st:St t [(1,.hptr 0 0 0 0)]
 hg:g.h.get 0=.cells 2 [[.int .i64 n.grain,b]] 0 false false
 nx:1<=g.nx
 all:∀x∈n.nodes.take j,S.bc n x=true
end
end
end Hx
end
section
namespace Hx
open Go
noncomputable section
theorem uq {C:Cfg}{d id nt:Nat}{t:T}{ps:List Nat}{assign body:Code}{a b:SC}{dfr:Nat}{args:List AV}{g:G}{K:AV->G->Prop}{D:ADf->Prop}{t':T}
  (hg:g.h.get id=.loop nt t ps assign body dfr .ready none) (ha:cD C nt assign=a) (hb:cD C nt body=b) (hp:cK t nt ps args=some t')
  (h:wp C d (some id) a (fun e t1 df g1=>e=.norm/\df=[]/\g1=g /\
   wp C d (some id) b (fun e _ df g2=>df=[]/\g2.h.get id=.loop nt t ps assign body dfr .busy none/\((e=.norm/\K (.bool true) (g2.put id (.loop nt t ps assign body dfr .ready none)))\/(e=.ret/\K (.bool false) (g2.put id (.loop nt t ps assign body dfr .done (some .ret))))))
    t1 [] (g.put id (.loop nt t ps assign body dfr .busy none))) t' [] g) :
  (ct (I C) d id args g).sat K g D:=by
 subst ha;subst hb
 unfold ct
 rw[show g.get id=_ from hg]
 dsimp only
 rw[hp]
 dsimp only
 have h1:=nq h
 cases hc:(I C).code nt d (some id) assign t' [] g with
 | fail=>rw[hc] at h1;exact h1.elim
 | ok e t1 df g1 =>
  rw[hc] at h1
  obtain ⟨rfl,rfl,rfl,h2⟩:=h1
  dsimp only
  rw[show g1.get id=_ from hg]
  dsimp only
  have h3:=nq h2
  cases hc2:(I C).code nt d (some id) body t1 [] (g1.put id (.loop nt t ps assign body dfr .busy none)) with
  | fail=>rw[hc2] at h3;exact h3.elim
  | ok e t2 df2 g2 =>
   rw[hc2] at h3
   obtain ⟨rfl,h4,h5⟩:=h3
   dsimp only
   rw[show g2.get id=_ from h4]
   rcases h5 with ⟨rfl,h5⟩ | ⟨rfl,h5⟩<;>exact h5
theorem rx {C:Cfg}{d nt:Nat}{f:Od}{ps:List Nat}{a b:SC}{Q:QT}{t:T}{df:List ADf}{g:G}{fn:Nat}{first cap:List AV}{s:SF}(hv:f.get t=.clo fn first cap)(he:C.ext fn=none)(hs:nFn C fn=some s)
  (hl:(first++(.yld (g.nx+1)::cap)).length<=s.nt)
  (h:∀assign body,cD C nt assign=a->cD C nt body=b ->
   wp C d none s.code (fnQ C d s.res fun _ g2=>∃nt' t' ps' as' bd' dfr',(g2.h.get (g.nx+1)=.loop nt' t' ps' as' bd' dfr' .ready none/\Q .norm t (.mark g.nx::df) (g2.put (g.nx+1) (.loop nt' t' ps' as' bd' dfr' .exhausted none))) \/
     (g2.h.get (g.nx+1)=.loop nt' t' ps' as' bd' dfr' .done (some .ret)/\Q .ret t (.mark g.nx::df) (g2.put (g.nx+1) (.loop nt' t' ps' as' bd' dfr' .exhausted (some .ret)))))
    (bu 0 (first++(.yld (g.nx+1)::cap)) .nil) [] ((g.new (.dfr true)).new (.loop nt t ps assign body g.nx .ready none))) :
  wp C d none (.rng nt f ps a b) Q t df g:=by
 intro assign body ha hb
 have h:=gT hs hl (h assign body ha hb)
 show (bk C (I C) nt d none (f.get t) ps assign body t (.mark g.nx::df) g.nx (g.new (.dfr true))).sat Q
 rw[hv]
 unfold bk
 dsimp only
 rw[he]
 show (match (I C).call d fn (first++(AV.yld (g.nx+1)::cap)) ((g.new (.dfr true)).new (.loop nt t ps assign body g.nx .ready none)) with
  | .ok _ g2=>bO (I C) nt d none (g.nx+1) t (.mark g.nx::df) g2
  | .fail=>.fail).sat Q
 cases hc:(I C).call d fn (first++(AV.yld (g.nx+1)::cap)) ((g.new (.dfr true)).new (.loop nt t ps assign body g.nx .ready none)) with
 | fail=>rw[hc] at h;exact h.elim
 | ok v g2 =>
  rw[hc] at h
  obtain ⟨nt',t',ps',as',bd',dfr',h⟩:=h
  show (bO (I C) nt d none (g.nx+1) t (.mark g.nx::df) g2).sat Q
  unfold bO
  rcases h with ⟨h1,h2⟩ | ⟨h1,h2⟩
  ·rw[show g2.get (g.nx+1)=_ from h1]
   exact h2
  ·rw[show g2.get (g.nx+1)=_ from h1]
   dsimp only
   rw[qW]
   exact h2
structure RowQ (b:Nat) (g2 g3:G) (e:Ex) (A B:Prop):Prop where
 nx:g2.nx<=g3.nx
 fr:∀i,b<=i->i<g2.nx->g3.h.get i=g2.h.get i
 st:(e=.norm/\A)\/(e=.ret/\B)
end
end Hx
end
