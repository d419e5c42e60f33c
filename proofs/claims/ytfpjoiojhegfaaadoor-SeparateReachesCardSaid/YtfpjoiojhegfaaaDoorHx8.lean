/- A part of the proof: an interpreter over abstract values, shown right against the model, and what the functions of the chapter compute on it. -/
import Derived.Shelf.Lays2
import Derived.Test.YtfpjoiojhegfaaaDoorRows
import Derived.Shelf.Spec.SlicesInsertGrow
import Derived.KernelRfl
import Derived.Test.YtfpjoiojhegfaaaDoorHx7
set_option linter.unusedVariables false
set_option linter.unusedSimpArgs false
set_option linter.unnecessarySimpa false
section
namespace Go.Proofs
open Go.Shelf
def Tryd.lays21_ren:Go.Shelf.Ren:=⟨fun | 21=>102 | 27=>106 | 28=>107 | 35=>109 | 39=>110 | n=>n,fun | 22=>71 | 3=>3 | 4=>4 | 0=>0 | n=>n,fun | n=>n⟩
theorem Tryd.lays21:Go.Proofs.Lays2.n21 Tryd.prog Tryd.lays21_ren:={
 mixed:=by kernel_rfl
 f21:=Tryd.func102.trans (congrArg some (by kernel_rfl))
 f27:=Tryd.func106.trans (congrArg some (by kernel_rfl))
 f28:=Tryd.func107.trans (congrArg some (by kernel_rfl))
 f35:=Tryd.func109.trans (congrArg some (by kernel_rfl))
 f39:=Tryd.func110.trans (congrArg some (by kernel_rfl))
 t0:=Tryd.underlying0
 a0:=Tryd.isAgg0
 z0:=Tryd.sizeOf0
 v0:=Tryd.zeroValue0
 t3:=Tryd.underlying3
 a3:=Tryd.isAgg3
 z3:=Tryd.sizeOf3
 v3:=Tryd.zeroValue3
 t4:=Tryd.underlying4
 a4:=Tryd.isAgg4
 z4:=Tryd.sizeOf4
 v4:=Tryd.zeroValue4
 t22:=Tryd.underlying71
 a22:=Tryd.isAgg71
 z22:=Tryd.sizeOf71
 v22:=Tryd.zeroValue71
 i3:=by kernel_rfl }
end Go.Proofs
end
section
namespace Hx
open Go Go.Proofs Go.Shelf
theorem eI {w:World}{o:Obj}:(Go.World.alloc w o).heap=w.heap.push o:=rfl
theorem d6 {w:World}:(Go.World.drew w).heap=w.heap:=rfl
theorem dS {b:Nat}{e:TypeId}{f:Nat×Nat}:∀(vs:List Value) (o:Nat) (w:World) (c:Array Value),w.heap[b]?=some (.cells c e f) ->
  Go.World.setCells w b o vs=World.setBlk w b (.cells (aJ c o vs) e f):=by
 intro vs
 induction vs with
 | nil =>
  intro o w c h
  have hb:b<w.heap.size:=by
   rcases Nat.lt_or_ge b w.heap.size with hl | hl
   ·exact hl
   ·rw[Array.getElem?_eq_none hl] at h;cases h
  have hx:w.heap[b]=.cells c e f:=by simpa [Array.getElem?_eq_getElem hb] using h
  show w=_
  simp only[World.setBlk,aJ]
  have:w.heap.setIfInBounds b (.cells c e f)=w.heap:=by
   apply Array.ext_getElem?
   intro k
   rw[Array.getElem?_setIfInBounds]
   by_cases hk:b=k
   ·subst hk;simp[hb,hx]
   ·rw[if_neg hk]
  rw[this]
 | cons v vs ih =>
  intro o w c h
  have hb:b<w.heap.size:=by
   rcases Nat.lt_or_ge b w.heap.size with hl | hl
   ·exact hl
   ·rw[Array.getElem?_eq_none hl] at h;cases h
  show Go.World.setCells (w.setCell (adr b o) v) b (o+1) vs=_
  rw[nq h,ih (o+1) _ (c.setIfInBounds o v) (by rw[aG];simp[hb]),gH]
  rfl
section
variable {P:Program}{ρ:Ren}
theorem dl {α:Type}{cs vs:List α}{i n m k:Nat}(hcl:cs.length=n)(hvl:vs.length=m)(hi:i<=n) :
  (cs.take i++(vs++cs.drop i))[k]?=if k<i then cs[k]? else if k<i+m then vs[k - i]? else cs[k - m]?:=by
 have hti:(cs.take i).length=i:=by rw[List.length_take];omega
 by_cases h1:k<i
 ·rw[if_pos h1,List.getElem?_append_left (by omega),List.getElem?_take_of_lt h1]
 ·rw[if_neg h1,List.getElem?_append_right (by omega),hti]
  by_cases h2:k<i+m
  ·rw[if_pos h2,List.getElem?_append_left (by omega)]
  ·rw[if_neg h2,List.getElem?_append_right (by omega),List.getElem?_drop,hvl]
   congr 1;omega
def Ins (P:Program)(f:FuncId)(args:Array Value)(w:World)(b n m:Nat)(rowV:List Value):Prop :=
 ∃b' o' cap' c' e' w',Calls P f args w (fun x y=>x=.returned (.slice (some (adr b' o')) (n+m) cap')/\y=w')/\n+m<=cap'/\cap'<=9223372036854775807 /\
  (w'.os=w.os/\w'.tape=w.tape/\w'.output=w.output/\w.heap.size<=w'.heap.size)/\(b'=b\/(b'=w.heap.size/\w.heap.size<w'.heap.size)) /\
  (∀k,k<w.heap.size->k≠b->w'.heap[k]?=w.heap[k]?)/\w'.heap[b']?=some (.cells c' e' (0,0))/\o'+cap'<=c'.size /\
  ∀k,k<n+m->c'[o'+k]?=rowV[k]?
theorem uf (L:Lays2.n21 P ρ){w:World}{b off n c i vb voff m vc:Nat}{cc cv:Array Value}{e e2:TypeId}{cs vs:List Value}
  (hb:w.heap[b]?=some (.cells cc e (0,0))) (hv:w.heap[vb]?=some (.cells cv e2 (0,0))) (hne:vb≠b) (hin:i<=n) (hm:0<m) (hnc:n<=c)
  (hc63:c<=9223372036854775807) (hbig:(n+m)*8<=140737488355328) (hcc:off+c<=cc.size) (hcv:voff+m<=cv.size) (hn0:0<c)
  (hcl:cs.length=n) (hvl:vs.length=m) (hcs:∀j,j<n->cs[j]?=cc[off+j]?) (hvs:∀j,j<m->vs[j]?=cv[voff+j]?)
  (h1c:∀v∈cs,v.oneCell'=true) (h1v:∀v∈vs,v.oneCell'=true) :
  Ins P (ρ.f 21) #[.slice (some (adr b off)) n c,.int .i64 i,.slice (some (adr vb voff)) m vc] w b n m (cs.take i++(vs++cs.drop i)):=by
 have hbw:b<w.heap.size:=by
  rcases Nat.lt_or_ge b w.heap.size with hl | hl
  ·exact hl
  ·rw[Array.getElem?_eq_none hl] at hb;cases hb
 have hcs':∀j v,cs[j]?=some v->w.cell? (adr b (off+j))=some v:=fun j v hj=>by
  rw[gY hb,<-hcs j (by rw[<-hcl];exact (List.getElem?_eq_some_iff.1 hj).1)];exact hj
 have hvs':∀j v,vs[j]?=some v->w.cell? (adr vb (voff+j))=some v:=fun j v hj=>by
  rw[gY hv,<-hvs j (by rw[<-hvl];exact (List.getElem?_eq_some_iff.1 hj).1)];exact hj
 have hsp:∀j,j<c->(w.cell? (adr b (off+j))).isSome=true:=fun j hj=>by
  rw[gY hb,Array.getElem?_eq_getElem (by omega)];rfl
 have hfz:∀j,w.frozen? (adr b j)=false:=fun j=>by simp[World.frozen?,adr,hb]
 have hfv:∀j,w.frozen? (adr vb j)=false:=fun j=>by simp[World.frozen?,adr,hv]
 have hdl:(cs.drop i).length=n - i:=by rw[List.length_drop,hcl]
 have htl:(cs.take i).length=i:=by rw[List.length_take];omega
 by_cases hroom:n+m<=c
 ·by_cases hlt:i<n
  ·
   have h:=Any2.slices_Insert_int_shift L b off n c i vb voff m vc cs vs w hlt hm hroom hc63 hne hcl hvl hcs' (fun j hj=>hsp j (by omega)) (fun j _=>hfz _) hvs' h1c h1v
    e2 e cv.size cc.size (by simp[World.shape?,hv]) (by simp[World.shape?,hb]) (by omega) (hfv _) (hfv _)
   have hb':w.drew.heap[b]?=some (.cells cc e (0,0)):=hb
   rw[dS (cs.drop i) (off+(i+m)) w.drew cc hb'] at h
   rw[dS vs (off+i) (World.setBlk w.drew b _) _ (by rw[aG,if_pos ⟨rfl,hbw⟩]),gH] at h
   refine ⟨b,off,c,_,e,_,h,hroom,hc63,⟨rfl,rfl,rfl,by simp[d6]⟩,.inl rfl,fun k _ hk=>?_,by rw[aG,if_pos ⟨rfl,hbw⟩],by simp[a7];omega,fun k hk=>?_⟩
   ·rw[aG,if_neg (fun h=>hk h.1)];rfl
   ·rw[dl hcl hvl hin,be _ _ _ _ (by rw[a7];omega),be _ _ _ _ (by omega),hdl,hvl]
    by_cases h1:k<i
    ·rw[if_neg (by omega),if_neg (by omega),if_pos h1,hcs k (by omega)]
    ·rw[if_neg h1]
     by_cases h2:k<i+m
     ·rw[if_pos (by omega),if_pos h2];congr 1;omega
     ·rw[if_neg (by omega),if_pos (by omega),if_neg h2,List.getElem?_drop];congr 1;omega
  ·
   have hi:i=n:=by omega
   subst hi
   have h:=Any2.slices_Insert_int_end_room L b off i c vb voff m vc vs w hm hroom hc63 hvl (fun j hj=>by rw[Nat.add_assoc];exact hsp _ (by omega)) (fun j _=>hfz _) hvs' h1v
   rw[dS vs (off+i) w cc hb] at h
   refine ⟨b,off,c,_,e,_,h,hroom,hc63,⟨rfl,rfl,rfl,by simp⟩,.inl rfl,fun k _ hk=>?_,by rw[aG,if_pos ⟨rfl,hbw⟩],by simp[a7];omega,fun k hk=>?_⟩
   ·rw[aG,if_neg (fun h=>hk h.1)]
   ·rw[dl hcl hvl hin,be _ _ _ _ (by omega),hvl]
    by_cases h1:k<i
    ·rw[if_neg (by omega),if_pos h1,hcs k (by omega)]
    ·rw[if_pos (by omega),if_neg h1,if_pos (by omega)];congr 1;omega
 ·have hgc:=grownCap_ge w (n+m) c (ρ.t 3)
  have hgm:grownCap w (n+m) c (ρ.t 3)<=9223372036854775807:=by
   have:=grownCap_le_maxLen w (n+m) c (ρ.t 3) (by unfold maxLen;omega)
   unfold maxLen at this;omega
  by_cases hlt:i<n
  ·
   have h:=Any2.slices_Insert_int_grow L b off n c i vb voff m vc cs vs w hlt hm hnc (by omega) hbig hcl hvl hcs' hvs' h1c h1v
   obtain ⟨G,hG⟩:∃G,G=grownCap w (n+m) c (ρ.t 3):=⟨_,rfl⟩
   rw[<-hG] at h hgc hgm
   obtain ⟨ROW,hROW⟩:∃ROW:Array Value,ROW=(cs.take i).toArray++Builtin.zeroCells (Value.int .i64 0).cells (n+m - i)++Builtin.zeroCells (Value.int .i64 0).cells (G - (n+m)):=⟨_,rfl⟩
   rw[<-hROW] at h
   have hsz:ROW.size=G:=by rw[hROW];simp[Builtin.zeroCells,Value.cells];omega
   have hpre:∀k,k<i->ROW[k]?=cs[k]?:=fun k hk=>by
    rw[hROW,Array.append_assoc,Array.getElem?_append_left (by simp;omega)]
    simp[List.getElem?_take,hk]
   have h0:(w.alloc (.cells ROW (ρ.t 3))).drew.heap[w.heap.size]?=some (.cells ROW (ρ.t 3) (0,0)):=by simp[eI,d6]
   rw[dS vs i _ ROW h0] at h
   rw[dS (cs.drop i) (i+m) _ (aJ ROW i vs) (e:=ρ.t 3) (f:=(0,0)) (by
    show (World.setBlk _ _ _).heap[_]?=_
    rw[aG,if_pos ⟨rfl,by simp[eI,d6]⟩])] at h
   refine ⟨w.heap.size,0,G,aJ (aJ ROW i vs) (i+m) (cs.drop i),ρ.t 3,_,h,hgc,hgm,⟨rfl,rfl,rfl,by simp[eI,d6]⟩,.inr ⟨rfl,by simp[eI,d6]⟩,fun k hk _=>?_,?_,by simp[a7,hsz],fun k hk=>?_⟩
   ·rw[aG,if_neg (by omega)]
    show (World.setBlk _ _ _).heap[_]?=_
    rw[aG,if_neg (by omega)]
    simp[eI,d6,Array.getElem?_push,show k≠w.heap.size from by omega]
   ·rw[aG,if_pos ⟨rfl,by simp[eI,d6]⟩]
   ·rw[dl hcl hvl hin,Nat.zero_add,be _ _ _ _ (by rw[a7];omega),be _ _ _ _ (by omega),hdl,hvl]
    by_cases h1:k<i
    ·rw[if_neg (by omega),if_neg (by omega),if_pos h1,hpre k h1]
    ·rw[if_neg h1]
     by_cases h2:k<i+m
     ·rw[if_neg (by omega),if_pos (by omega),if_pos h2]
     ·rw[if_pos (by omega),if_neg h2,List.getElem?_drop];congr 1;omega
  ·have hi:i=n:=by omega
   subst hi
   have h:=Any2.slices_Insert_int_end_grow L (some (adr b off)) i c vb voff m vc cs vs w hm hnc (by omega) hbig hcl hvl (fun h=>by cases h)
    (fun a ha j v hj=>by injection ha with ha;subst ha;rw[cT];exact hcs' j v hj) hvs' h1v
   obtain ⟨G,hG⟩:∃G,G=grownCap w (i+m) c (ρ.t 3):=⟨_,rfl⟩
   rw[<-hG] at h hgc hgm
   refine ⟨w.heap.size,0,G,_,ρ.t 3,_,h,hgc,hgm,⟨rfl,rfl,rfl,by simp[eI,d6]⟩,.inr ⟨rfl,by simp[eI,d6]⟩,fun k hk _=>?_,by simp[eI,d6];rfl,?_,fun k hk=>?_⟩
   ·simp[eI,d6,Array.getElem?_push,show k≠w.heap.size from by omega]
   ·simp[Builtin.zeroCells,Value.cells];omega
   ·rw[Nat.zero_add,Array.getElem?_append_left (by simp;omega)]
    have:cs.take i++(vs++cs.drop i)=cs++vs:=by rw[<-hcl,List.take_length,List.drop_length,List.append_nil]
    rw[this];simp
theorem tC (L:Lays2.n21 P ρ){w:World}{base:Option Addr}{vb voff m vc:Nat}{vs:List Value}(hm:0<m)(hbig:m*8<=140737488355328)(hvl:vs.length=m)
  (hvs:∀j v,vs[j]?=some v->w.cell? (adr vb (voff+j))=some v) (h1v:∀v∈vs,v.oneCell'=true) :
  ∃cap rest,m<=cap/\cap<=9223372036854775807/\rest.size=cap - m /\
  Calls P (ρ.f 21) #[.slice base 0 0,.int .i64 0,.slice (some (adr vb voff)) m vc] w (fun x y=>x=.returned (.slice (some (adr w.heap.size 0)) m cap)/\y=World.add (World.drewn w) (.cells (vs.toArray++rest) (ρ.t 3) (0,0))):=by
 have hgc:=grownCap_ge w (0+m) 0 (ρ.t 3)
 have hgm:grownCap w (0+m) 0 (ρ.t 3)<=9223372036854775807:=by
  have:=grownCap_le_maxLen w (0+m) 0 (ρ.t 3) (by unfold maxLen;omega)
  unfold maxLen at this;omega
 have h:=Any2.slices_Insert_int_end_grow L base 0 0 vb voff m vc [] vs w hm (Nat.le_refl _) (by omega) (by omega) rfl hvl (fun _=>rfl)
  (fun a ha j v hj=>by simp at hj) hvs h1v
 obtain ⟨G,hG⟩:∃G,G=grownCap w (0+m) 0 (ρ.t 3):=⟨_,rfl⟩
 rw[<-hG] at h hgc hgm
 rw[Nat.zero_add] at h hgc
 exact ⟨G,Builtin.zeroCells (Value.int .i64 0).cells (G - m),hgc,hgm,by simp[Builtin.zeroCells,Value.cells],h⟩
end
noncomputable def mi (i:Nat)(rows:List (List AV))(g:G):OR :=
 af (Nat.beq i 0&&Nat.ble (aN rows*8) 140737488355328) (.upd (.hsl g.nx 0 0 (aN rows) none) (g.new (.cells 1 rows 0 true false))) .fail
noncomputable def xi (id2 i:Nat)(s:AV)(vrows:List (List AV))(g:G):OR :=
 match s with
 | .nils=>mi i vrows g
 | .esl=>mi i vrows g
 | .hsl id ep off len none =>
  match g.get id with
  | .cells 1 [] ep' false _=>af ((Nat.beq ep ep'&&Nat.beq off 0)&&Nat.beq len 0) (mi i vrows g) .fail
  | .cells sz rows ep' true false =>
   af (((((((Nat.beq sz 1&&Nat.beq ep ep')&&Nat.beq off 0)&&Nat.beq len (aN rows))&&eU (Nat.beq id id2))&&Nat.ble i len)&&Nat.ble 1 len)&&Nat.ble ((len+aN vrows)*8) 140737488355328)
    (.upd (.hsl id (ep+1) 0 (len+aN vrows) none) (g.put id (.cells 1 (el i rows++(vrows++dU i rows)) (ep+1) true false))) .fail
  | _=>.fail
 | _=>.fail
noncomputable def gC:Nat->List AV->G->OR:=fun _ xs g =>
 match xs with
 | [s,.int .i64 (.ofNat i),.hsl id2 ep2 off2 len2 _] =>
  match g.get id2 with
  | .cells sz2 vrows ep2' _ _ =>
   af ((((Nat.beq sz2 1&&Nat.beq ep2 ep2')&&Nat.beq off2 0)&&Nat.beq len2 (aN vrows))&&Nat.ble 1 len2) (xi id2 i s vrows g) .fail
  | _=>.fail
 | _=>.fail
theorem jl {d:Nat}{xs:List AV}{g:G}(h:gC d xs g≠.fail):∃s i id2 ep2 len2 lim2 vrows lo fz,xs=[s,.int .i64 (Int.ofNat i),.hsl id2 ep2 0 len2 lim2] /\
  g.h.get id2=.cells 1 vrows ep2 lo fz/\len2=vrows.length/\0<vrows.length/\gC d xs g=xi id2 i s vrows g:=by
 unfold gC at h ⊢
 split at h
 ·split at h
  ·rename_i hg
   rw[aa] at h ⊢
   split at h
   ·rename_i hc
    simp only[Bool.and_eq_true,ak] at hc
    obtain ⟨⟨⟨⟨c1,c2⟩,c3⟩,c4⟩,c5⟩:=hc
    have c1:=ap c1;have c2:=ap c2;have c3:=ap c3;have c4:=ap c4
    subst c1;subst c2;subst c3;subst c4
    rw[Nat.ble_eq] at c5
    refine ⟨_,_,_,_,_,_,_,_,_,rfl,hg,rfl,c5,?_⟩
    rw[if_pos]
    simp[ak];omega
   ·exact absurd rfl h
  ·exact absurd rfl h
 ·exact absurd rfl h
theorem oq {id2 i:Nat}{s:AV}{vrows:List (List AV)}{g:G}(h:xi id2 i s vrows g≠.fail) :
  ((s=.nils\/s=.esl\/∃id ep fz,s=.hsl id ep 0 0 none/\g.h.get id=.cells 1 [] ep false fz)/\i=0/\vrows.length*8<=140737488355328/\xi id2 i s vrows g=.upd (.hsl g.nx 0 0 vrows.length none) (g.new (.cells 1 vrows 0 true false))) \/
  ∃id ep rows,s=.hsl id ep 0 rows.length none/\g.h.get id=.cells 1 rows ep true false/\id≠id2/\i<=rows.length/\0<rows.length/\(rows.length+vrows.length)*8<=140737488355328 /\
   xi id2 i s vrows g=.upd (.hsl id (ep+1) 0 (rows.length+vrows.length) none) (g.put id (.cells 1 (rows.take i++(vrows++rows.drop i)) (ep+1) true false)):=by
 have hnew:mi i vrows g≠.fail->i=0/\vrows.length*8<=140737488355328/\mi i vrows g=.upd (.hsl g.nx 0 0 vrows.length none) (g.new (.cells 1 vrows 0 true false)):=by
  intro h
  unfold mi at h ⊢
  rw[aa] at h ⊢
  split at h
  ·rename_i hc
   rw[if_pos hc]
   simp only[Bool.and_eq_true,ak,Nat.ble_eq] at hc
   exact ⟨ap hc.1,hc.2,by rw[ak]⟩
  ·exact absurd rfl h
 unfold xi at h ⊢
 split at h
 ·exact .inl ⟨.inl rfl,hnew h⟩
 ·exact .inl ⟨.inr (.inl rfl),hnew h⟩
 ·rename_i id ep off len
  split at h
  ·rename_i ep' fz hg
   rw[aa] at h
   split at h
   ·rename_i hc
    have hc':=hc
    simp only[Bool.and_eq_true] at hc
    obtain ⟨⟨c1,c2⟩,c3⟩:=hc
    have c1:=ap c1;have c2:=ap c2;have c3:=ap c3
    subst c1;subst c2;subst c3
    have:=hnew h
    refine .inl ⟨.inr (.inr ⟨id,ep,fz,rfl,hg⟩),this.1,this.2.1,?_⟩
    rw[aa,if_pos hc',this.2.2]
   ·exact absurd rfl h
  ·rename_i sz rows ep' hg
   rw[aa] at h
   split at h
   ·rename_i hc
    have hc':=hc
    simp only[Bool.and_eq_true,ak] at hc
    obtain ⟨⟨⟨⟨⟨⟨⟨c1,c2⟩,c3⟩,c4⟩,c5⟩,c6⟩,c7⟩,c8⟩:=hc
    have c1:=ap c1;have c2:=ap c2;have c3:=ap c3;have c4:=ap c4
    subst c1;subst c2;subst c3;subst c4
    rw[Nat.ble_eq] at c6 c7 c8
    refine .inr ⟨id,ep,rows,rfl,hg,fun e=>?_,c6,c7,c8,?_⟩
    ·subst e;rw[notb_eq] at c5;simp at c5
    ·rw[aa,if_pos hc']
     simp only[ak,aQ,aP]
   ·exact absurd rfl h
  ·exact absurd rfl h
 ·exact absurd rfl h
section
variable {C:Cfg}{A:Nat->Nat->Prop}{bd:Nat}{w w':World}{γ γ':Gm}{hg:Nat->AObj}{nx:Nat}{ρ:Ren}
theorem zV {g:G}{id:Nat}{ob:AObj}(r:Rel C A bd w' γ' (upd hg id ob) nx)(s:Stp w γ w' γ'):Fin C A bd w γ hg nx g w' γ' (upd hg id ob) (g.put id ob) :=
 ⟨r.up (Nat.le_max_left _ _),s,[id],by simp,fun k hk=>by simp at hk;subst hk;simp[G.put_h,H.get_put],fun k hk=>by
  rw[bi];simpa using hk⟩
theorem AO {g:G}{ob:AObj}(r:Rel C A bd w' γ' (upd hg g.nx ob) (Nat.max nx (g.nx+1)))(s:Stp w γ w' γ'):Fin C A bd w γ hg nx g w' γ' (upd hg g.nx ob) (g.new ob) :=
 ⟨r.up (by simp),s,[g.nx],by simp,fun k hk=>by simp at hk;subst hk;simp[G.new_h,H.get_put],fun k hk=>by
  rw[bi];simpa using hk⟩
theorem sj (hr:Rel C A bd w γ hg nx){id ep:Nat}{rows:List (List AV)}{lo fz:Bool}(hid:hg id=.cells 1 rows ep lo fz) :
  ∃(c:Array Value) (e:TypeId) (l:List Value),w.heap[(γ id).blk]?=some (.cells c e (0,0))/\(γ id).base+(rows.length+(γ id).slack)<=c.size/\l.length=rows.length/\(∀j,j<rows.length->l[j]?=c[(γ id).base+j]?) /\
   (∀v∈l,v.oneCell'=true)/\(∀(k:Nat) row,rows[k]?=some row->row.length=1) /\
   ∀(k j:Nat) row x,rows[k]?=some row->row[j]?=some x->j=0/\x.one=true/\∃v,l[k]?=some v/\RV w γ A bd x v:=by
 have hob:=hr.obj id
 rw[hid] at hob
 obtain ⟨k1,k2,k3,k4,k5,k6,c,e,k7,k8,k9,k10⟩:=hob
 have hget:∀j,j<rows.length->((c.toList.drop (γ id).base).take rows.length)[j]?=c[(γ id).base+j]?:=fun j hj=>by
  rw[List.getElem?_take_of_lt hj,List.getElem?_drop];simp
 refine ⟨c,e,(c.toList.drop (γ id).base).take rows.length,k7,by omega,by simp;omega,hget,fun v hv=>?_,k9,fun k j row x h1 h2=>?_⟩
 ·obtain ⟨k,hk⟩:=List.getElem?_of_mem hv
  have hlt:k<rows.length:=by
   have:=(List.getElem?_eq_some_iff.1 hk).1
   simp at this;omega
  rw[hget k hlt] at hk
  have hrow:=List.getElem?_eq_getElem hlt
  have hl1:=k9 k _ hrow
  have hx:rows[k][0]?=some (rows[k][0]'(by omega)):=List.getElem?_eq_getElem _
  obtain ⟨a,v',b1,b2⟩:=k10 k 0 _ _ hrow hx
  rw[show (γ id).base+k*1+0=(γ id).base+k from by omega,hk] at b1
  injection b1 with b1;subst b1
  exact (ug b2 a).1
 ·have hj:j=0:=by
   have h3:=k9 k _ h1
   have:=(List.getElem?_eq_some_iff.1 h2).1
   omega
  subst hj
  obtain ⟨a,v',b1,b2⟩:=k10 k 0 _ _ h1 h2
  refine ⟨rfl,a,v',?_,b2⟩
  rw[hget k (List.getElem?_eq_some_iff.1 h1).1]
  rw[show (γ id).base+k*1+0=(γ id).base+k from by omega] at b1
  exact b1
theorem jT {P:Program}{f:FuncId}{args:Array Value}{u:Value}(h:Calls P f args w (fun x y=>x=.returned u/\y=w'))(cs:List Frame):Outs P .normal f args cs w u w':=by
 obtain ⟨e,w1,fr,⟨he,hw⟩,hc,hf,hl⟩:=h cs
 subst he;subst hw
 obtain ⟨m,d,k,fn,hfn,hres⟩:=hl
 exact ⟨fr,hc,m,d,k,hf,fn,by rw[<-hf];exact hfn,hres⟩
theorem wM {P : Program} {f : FuncId} {fn : Func} (h : P.funcs[f]? = some fn) (hn : (fn.name == "runtime.NumGoroutine") = false) (hb : fn.body.isSome = true) : Enters P f := by
 intro args w
 unfold callFunc
 have hn : fn.name ≠ "runtime.NumGoroutine" := by simpa using hn
 cases hb':fn.body with
 | none=>rw[hb'] at hb;cases hb
 | some c=>simp[h,hn,hb']
theorem uk (L:Lays2.n21 C.P ρ)(hent:Enters C.P (ρ.f 21)):ExtOk C (ρ.f 21) gC:=by
 refine ⟨fun d xs g hwf=>?_,fun d xs g y hy=>?_,fun A bd w γ hg nx g xs vs hr hwf hx hf hv hne cs=>?_⟩
 ·apply Small.mon _ hwf
  by_cases h:gC d xs g=.fail
  ·rw[h];trivial
  ·obtain ⟨s,i,id2,ep2,len2,lim2,vrows,lo,fz,e1,e2,e3,e4,e5⟩:=jl h
   rw[e5] at h ⊢
   rcases oq h with ⟨_,_,_,h1⟩ | ⟨id,ep,rows,_,h2,_,_,_,_,h1⟩
   ·rw[h1];exact .inr ⟨_,rfl⟩
   ·rw[h1];exact .inl ⟨_,_,rfl,by rw[h2];simp⟩
 ·have h:gC d xs g≠.fail:=by rw[hy];simp
  obtain ⟨s,i,id2,ep2,len2,lim2,vrows,lo,fz,e1,e2,e3,e4,e5⟩:=jl h
  rw[e5] at h hy
  rcases oq h with ⟨_,_,_,h1⟩ | ⟨id,ep,rows,_,h2,_,_,_,_,h1⟩<;>(rw[h1] at hy;cases hy)
 ·obtain ⟨s,i,id2,ep2,len2,lim2,vrows,lo,fz,e1,e2,e3,e4,e5⟩:=jl hne
  subst e1;subst e3
  rw[e5] at hne hf ⊢
  obtain ⟨v1,v2,v3,rfl⟩:∃v1 v2 v3,vs=[v1,v2,v3]:=by
   have:=hv.1
   match vs,this with
   | [a,b,c],_=>exact ⟨a,b,c,rfl⟩
  have r1:RV w γ A bd s v1:=hv.2 0 _ _ rfl rfl
  have r2:RV w γ A bd (.int .i64 (Int.ofNat i)) v2:=hv.2 1 _ _ rfl rfl
  have r3:RV w γ A bd (.hsl id2 ep2 0 vrows.length lim2) v3:=hv.2 2 _ _ rfl rfl
  cases r2
  have hid2:hg id2=.cells 1 vrows ep2 lo fz:=by
   rw[hx id2 (by simp[List.flatMap_cons,aw,aB]) (by rw[e2];simp),e2]
  obtain ⟨vc,hv3,hvc,_⟩:=j9 hr r3 hid2
  subst hv3
  obtain ⟨cv,ev,lv,p1,p2,p3,p4,p5,p6,p7⟩:=sj hr hid2
  have hz:(γ id2).base+0*1=(γ id2).base:=by omega
  rw[hz] at r3 ⊢
  rcases oq hne with ⟨hs,hi,hbig,h1⟩ | ⟨id,ep,rows,hs,h2,hne2,hin,hpos,hbig,h1⟩
  ·subst hi
   rw[h1] at hf ⊢
   have hfree:(γ g.nx).kind=0:=hf g.nx (Nat.le_refl _) (by simp[gOf])
   have hbase:∃base,v1=.slice base 0 0:=by
    rcases hs with rfl | rfl | ⟨id,ep,fz2,rfl,hgid⟩
    ·cases r1;exact ⟨_,rfl⟩
    ·cases r1;exact ⟨_,rfl⟩
    ·have hid:hg id=.cells 1 [] ep false fz2:=by
      rw[hx id (by simp[List.flatMap_cons,aw,aB]) (by rw[hgid];simp),hgid]
     obtain ⟨c,hv1,hnc,hco⟩:=j9 hr r1 hid
     have hob:=hr.obj id
     rw[hid] at hob
     obtain ⟨-,-,-,k4,k5,-⟩:=hob
     have hk:=k5.1 rfl
     have hc0:c=0:=by simp only[d_] at hco;simp at k4;omega
     subst hc0
     exact ⟨_,hv1⟩
   obtain ⟨base,hb⟩:=hbase
   subst hb
   obtain ⟨cap,rest,q1,q2,q3,q4⟩:=tC L (w:=w) (base:=base) (vb:=(γ id2).blk) (voff:=(γ id2).base) (m:=vrows.length) (vc:=vc) (vs:=lv) e4 hbig p3
    (fun j v hj=>by rw[gY p1,<-p4 j (by rw[<-p3];exact (List.getElem?_eq_some_iff.1 hj).1)];exact hj) p5
   have hrr:RowsRel w γ A bd 1 vrows (lv.toArray++rest):=by
    refine ⟨by simp[p3],p6,fun k j row x a b=>?_⟩
    obtain ⟨j0,o1,v,l1,l2⟩:=p7 k j row x a b
    subst j0
    refine ⟨o1,v,?_,l2⟩
    have hk:=(List.getElem?_eq_some_iff.1 a).1
    rw[Array.getElem?_append_left (by simp;omega)]
    simpa using l1
   obtain ⟨γ',s1,s2,s3⟩:=l5 (e:=ρ.t 3) hr hfree hrr vrows.length cap (by simp[q3];omega) q1 rfl q2
   exact ⟨_,_,γ',_,AO s1 s2,s3,.inr ⟨hent,jT q4 cs⟩⟩
  ·subst hs
   rw[h1] at hf ⊢
   have hid:hg id=.cells 1 rows ep true false:=by
    rw[hx id (by simp[List.flatMap_cons,aw,aB]) (by rw[h2];simp),h2]
   obtain ⟨c,hv1,hnc,hco⟩:=j9 hr r1 hid
   subst hv1
   have hob:=hr.obj id
   rw[hid] at hob
   obtain ⟨k1,k2,k3,k4,k5,k6,_⟩:=hob
   have hob2:=hr.obj id2
   rw[hid2] at hob2
   obtain ⟨m1,_⟩:=hob2
   have hblk:(γ id2).blk≠(γ id).blk:=fun e=>hne2 (hr.inj id id2 (by rw[k1];decide) (by rw[m1];decide) e.symm)
   obtain ⟨cc,ec,lc,c1,c2,c3,c4,c5,c6,c7⟩:=sj hr hid
   have hcap:c=rows.length+(γ id).slack:=by simp only[d_] at hco;omega
   have hins:=uf L (w:=w) (b:=(γ id).blk) (off:=(γ id).base) (n:=rows.length) (c:=c) (i:=i) (vb:=(γ id2).blk) (voff:=(γ id2).base) (m:=vrows.length) (vc:=vc)
    c1 p1 hblk hin e4 hnc (by have:=k5.2 rfl;omega) hbig (by omega) (by omega) (by omega) c3 p3 c4 p4 c5 p5
   obtain ⟨b',o',cap',c',e',w',n1,n2,n3,n4,n5,n6,n7,n8,n9⟩:=hins
   let gh:Gh:=⟨1,ep+1,1,rows.length+vrows.length,b',o',cap' - (rows.length+vrows.length),true⟩
   have hrl:(rows.take i++(vrows++rows.drop i)).length=rows.length+vrows.length:=by simp;omega
   have hcell:∀(k:Nat) row,(rows.take i++(vrows++rows.drop i))[k]?=some row->row.length=1/\∀(j:Nat) x,row[j]?=some x->x.one=true/\∃v,c'[o'+k*1+j]?=some v/\RV w γ A bd x v:=by
    intro k row hk
    have hkl:k<rows.length+vrows.length:=by rw[<-hrl];exact (List.getElem?_eq_some_iff.1 hk).1
    have hck:=n9 k hkl
    rw[dl c3 p3 hin] at hck
    rw[dl (n:=rows.length) (m:=vrows.length) rfl rfl hin] at hk
    split at hk
    ·rename_i h1;rw[if_pos h1] at hck
     refine ⟨c6 _ _ hk,fun j x hj=>?_⟩
     obtain ⟨j0,o1,v,l1,l2⟩:=c7 _ j row x hk hj
     subst j0
     exact ⟨o1,v,by rw[show o'+k*1+0=o'+k from by omega,hck];exact l1,l2⟩
    ·rename_i h1;rw[if_neg h1] at hck
     split at hk
     ·rename_i h2;rw[if_pos h2] at hck
      refine ⟨p6 _ _ hk,fun j x hj=>?_⟩
      obtain ⟨j0,o1,v,l1,l2⟩:=p7 _ j row x hk hj
      subst j0
      exact ⟨o1,v,by rw[show o'+k*1+0=o'+k from by omega,hck];exact l1,l2⟩
     ·rename_i h2;rw[if_neg h2] at hck
      refine ⟨c6 _ _ hk,fun j x hj=>?_⟩
      obtain ⟨j0,o1,v,l1,l2⟩:=c7 _ j row x hk hj
      subst j0
      exact ⟨o1,v,by rw[show o'+k*1+0=o'+k from by omega,hck];exact l1,l2⟩
   obtain ⟨s1,s2⟩:=hr.moved hid (w1:=w') (gh:=gh) (rows':=rows.take i++(vrows++rows.drop i)) rfl rfl rfl (by rw[hrl]) rfl n4
    (by rw[hrl];simp only[gh];omega) n5 n6 (c:=c') (e:=e') n7 (by rw[hrl];simp only[gh];omega)
    (fun k row hk=>(hcell k row hk).1) (fun k j row x hk hj=>(hcell k row hk).2 j x hj)
   have hz':(γ id).base+0*1=(γ id).base:=by omega
   rw[hz']
   refine ⟨.slice (some (adr b' o')) (rows.length+vrows.length) cap',w',_,_,zV s1 s2,?_,.inr ⟨hent,jT n1 cs⟩⟩
   refine .hsl _ id (ep+1) 0 _ none _ _ cap' (by simp[gh]) (by simp[gh]) n2 (fun _=>⟨by simp[gh],by simp[gh],?_⟩)
   simp only[d_,upd_same,gh];omega
end
end Hx
end
section
namespace Hx
open Go
noncomputable def jk (h:H):List Nat->H
 | []=>.nil
 | id::l=>(jk h l).put id (h.get id)
noncomputable def ib (h h':H):List Nat->H
 | []=>h
 | id::l=>(ib h h' l).put id (h'.get id)
theorem Ai (k:Nat):H.get (Tr.nil:H) k=.none:=by
 simp[H.get,Tr.get_nil]
theorem jE (h:H)(k:Nat):∀l,(jk h l).get k=if k∈l then h.get k else .none
 | []=>by simp[jk,Ai]
 | id::l=>by
  rw[jk,H.get_put,jE h k l]
  by_cases hk:k=id
  ·subst hk;simp
  ·simp[hk]
theorem iE (h h':H)(k:Nat):∀l,(ib h h' l).get k=if k∈l then h'.get k else h.get k
 | []=>by simp[ib]
 | id::l=>by
  rw[ib,H.get_put,iE h h' k l]
  by_cases hk:k=id
  ·subst hk;simp
  ·simp[hk]
end Hx
end
section
namespace Hx
open Go
noncomputable def wQ (C:Cfg)(f:Nat):Nat->List AV->G->OR:=fun d xs g =>
 match (I C).call d f xs ⟨jk g.h (xs.flatMap (aw g.h aB)),g.nx,[]⟩ with
 | .ok v g'=>.upd v ⟨ib g.h g'.h g'.lg,g'.nx,g'.lg++g.lg⟩
 | .fail=>.fail
theorem zT {C:Cfg}(hC:CfgOk C){f:Nat}:ExtOk C f (wQ C f):=by
 have wfr:∀(g:G) (ids:List Nat),WF g->WF ⟨jk g.h ids,g.nx,[]⟩:=by
  intro g ids hwf id hid
  show (jk g.h ids).get id=.none
  rw[jE]
  split
  ·exact hwf id hid
  ·rfl
 have sh:∀d xs g,wQ C f d xs g=.fail\/∃n v g',(sem C n).call d f xs ⟨jk g.h (xs.flatMap (aw g.h aB)),g.nx,[]⟩=.ok v g' /\
   wQ C f d xs g=.upd v ⟨ib g.h g'.h g'.lg,g'.nx,g'.lg++g.lg⟩:=by
  intro d xs g
  unfold wQ
  split
  ·rename_i v g' h;obtain ⟨n,hn⟩:=Bq h;exact .inr ⟨n,v,g',hn,rfl⟩
  ·exact .inl rfl
 refine ⟨fun d xs g hwf=>?_,fun d xs g y hy=>?_,fun A bd w γ hg nx g xs vs hr hwf hx hf hv hne cs=>?_⟩
 ·rcases sh d xs g with h | ⟨n,v,g',h1,h2⟩
  ·rw[h];exact Mon.refl g
  ·rw[h2]
   have hok:=qz hC n
   have m:=hok.mon.call _ _ _ _ _ _ h1 (wfr g _ hwf)
   obtain ⟨nw,a,b,c⟩:=m.new
   have ha:g'.lg=nw:=by simpa using a
   refine ⟨m.nx,⟨g'.lg,rfl,fun id hid=>?_,fun id hid=>?_⟩,fun hw id hid=>?_⟩
   ·show (ib _ _ _).get id=_
    rw[iE,if_neg hid]
   ·obtain ⟨c1,c2⟩:=c id (by rw[<-ha];exact hid)
    refine ⟨c1,fun hn=>c2 ?_⟩
    show (jk _ _).get id=_
    rw[jE,hn];simp
   ·show (ib _ _ _).get id=_
    have hid:g'.nx<=id:=hid
    have hnx:g.nx<=g'.nx:=m.nx
    rw[iE,if_neg]
    ·exact hw id (by omega)
    ·intro hl
     have:=(c id (by rw[<-ha];exact hl)).1
     omega
 ·rcases sh d xs g with h | ⟨n,v,g',h1,h2⟩
  ·rw[h] at hy;cases hy
  ·rw[h2] at hy;cases hy
 ·rcases sh (bd+1) xs g with h | ⟨n,v,g',h1,h2⟩
  ·exact absurd h hne
  ·rw[h2] at hf ⊢
   have hok:=qz hC n
   obtain ⟨he,run⟩:=hok.call _ _ _ _ _ _ h1
   obtain ⟨u,w',γ',hg',fin,rv,out⟩:=run A w γ hg nx vs hr (fun id hn=>by
     have hn':(jk g.h (xs.flatMap (aw g.h aB))).get id≠.none:=hn
     show hg id=(jk _ _).get id
     rw[jE] at hn' ⊢
     split at hn'
     ·rename_i hm;rw[if_pos hm];exact hx id hm hn'
     ·exact absurd rfl hn') (wfr g _ hwf) (fun id h1 h2=>hf id h1 h2) hv .normal cs (.inl rfl)
   refine ⟨u,w',γ',hg',⟨fin.rel,fin.stp,?_⟩,rv,.inr ⟨he,out⟩⟩
   obtain ⟨nw,a,b,c⟩:=fin.new
   have ha:g'.lg=nw:=by simpa using a
   subst ha
   refine ⟨g'.lg,rfl,fun id hid=>?_,c⟩
   show hg' id=(ib _ _ _).get id
   rw[iE,if_pos hid];exact b id hid
end Hx
end
section
namespace Go.Proofs.YtfpjoiojhegfaaaDoor.Gen
open Hx
noncomputable def cfg0:Cfg:={ P:=Tryd.prog,iso:=fun f=>Nat.testBit 21757468432525280001520595099783983529983 f,ext:=fun _=>none,glob:=fun g=>af (Nat.beq g 1) (some (64,[[.int .u8 0,.int .u8 1,.int .u8 56,.int .u8 2,.int .u8 57,.int .u8 49,.int .u8 28,.int .u8 3,.int .u8 61,.int .u8 58,.int .u8 42,.int .u8 50,.int .u8 38,.int .u8 29,.int .u8 17,.int .u8 4,.int .u8 62,.int .u8 47,.int .u8 59,.int .u8 36,.int .u8 45,.int .u8 43,.int .u8 51,.int .u8 22,.int .u8 53,.int .u8 39,.int .u8 33,.int .u8 30,.int .u8 24,.int .u8 18,.int .u8 12,.int .u8 5,.int .u8 63,.int .u8 55,.int .u8 48,.int .u8 27,.int .u8 60,.int .u8 41,.int .u8 37,.int .u8 16,.int .u8 46,.int .u8 35,.int .u8 44,.int .u8 21,.int .u8 52,.int .u8 32,.int .u8 23,.int .u8 11,.int .u8 54,.int .u8 26,.int .u8 40,.int .u8 15,.int .u8 34,.int .u8 20,.int .u8 31,.int .u8 10,.int .u8 25,.int .u8 14,.int .u8 19,.int .u8 9,.int .u8 13,.int .u8 8,.int .u8 7,.int .u8 6]])) none }
theorem cfg0Ok:CfgOk cfg0:=CfgOk.plain (by kernel_rfl) (by kernel_rfl)
theorem insOk:ExtOk cfg0 102 gC:=uk (C:=cfg0) (ρ:=Tryd.lays21_ren) Tryd.lays21 (Hx.wM Tryd.func102 (by kernel_rfl) (by kernel_rfl))
noncomputable def cfg:Cfg:=cfg0.add 102 gC
theorem cfgOk:CfgOk cfg:=cfg0Ok.add insOk
theorem works_run:an (sem cfg 20000) 1 G.empty 11 []=.val (.bool true):=by kernel_rfl
noncomputable def cfgW:Cfg:=cfg.add 11 (nX (.bool true))
theorem cfgWOk:CfgOk cfgW:=cfgOk.add (wi cfgOk works_run)
theorem inl103:ExtOk cfg0 103 (wQ cfg0 103):=zT cfg0Ok
noncomputable def cfg1:Cfg:=cfgW.add 103 (wQ cfg0 103)
theorem cfg1Ok:CfgOk cfg1:=cfgWOk.add (ExtOk.cfg (C:=cfg0) (C':=cfgW) rfl rfl inl103)
end Go.Proofs.YtfpjoiojhegfaaaDoor.Gen
end
section
namespace Hx
open Go
set_option maxRecDepth 100000
noncomputable section
def C0:Cfg:=Go.Proofs.YtfpjoiojhegfaaaDoor.Gen.cfg1
abbrev N.aL:Nat:=3
abbrev N.aG:Nat:=12
abbrev N.af:Nat:=14
abbrev N.aM:Nat:=11
abbrev N.az:Nat:=90
abbrev N.aN:Nat:=97
abbrev N.aA:Nat:=98
abbrev N.aJ:Nat:=68
abbrev N.ay:Nat:=92
abbrev N.aa:Nat:=41
abbrev N.aB:Nat:=88
abbrev N.aC:Nat:=18
abbrev N.aD:Nat:=29
abbrev N.ap:Nat:=16
abbrev N.aq:Nat:=36
abbrev N.aI:Nat:=38
abbrev N.aH:Nat:=91
abbrev N.ax:Nat:=42
abbrev N.aF:Nat:=71
abbrev N.au:Nat:=17
abbrev N.aK:Nat:=13
abbrev N.an:Nat:=15
abbrev N.ak:Nat:=39
abbrev N.aw:Nat:=40
abbrev N.aE:Nat:=69
abbrev N.ae:Nat:=70
abbrev N.ah:Nat:=89
abbrev N.am:Nat:=37
def bD:SC:=sQ [o 72 (.bin .lss (.t 71) (qI 3))] (.seq (.cond (.t 72) (.skip) (.exit 2)) (.seq (.blk 3 (sQ [o 73 (.ix true 3 3 (.t 70) (.t 71)),o 11 (.alloc [.int .u64 0,.int .u64 0,.int .u64 0]),oz (.store 3 (.t 11) (.t 73))] (sQ [oM 75 8,o 76 (.ixa 3 1 (.t 11) (qI 0)),oL 77 76,o 78 (.ixa 3 1 (.t 11) (qI 2)),oL 79 78,o 80 (.call N.an [.t 75,.t 77,.t 79]),oM 74 80,o 81 (.ext (.t 74) 0),o 82 (.ext (.t 74) 1),oM 12 81,oM 13 82] (sQ [oM 83 8,o 84 (.ixa 3 1 (.t 11) (qI 0)),oL 85 84,o 86 (.ixa 3 1 (.t 11) (qI 2)),oL 87 86,o 88 (.bsl 1 2 [.int .u64 0] [0,1] [.t 85,.t 87]),o 89 (.call N.af [.t 83,.t 88]),oM 14 89] (.seq (sQ [oM 90 13,oM 91 14,o 92 (.bin .neq (.t 90) (.t 91)),oM 93 92,og 94 93 false (.mv (.t 14)),og 95 93 false (.bin .neq (.t 94) (qI 0)),og 96 93 false (.mv (.t 95)),og 97 96 true (.mv (.t 12)),og 98 96 true (.bin .neq (.t 97) (.k (.int .u64 0))),og 99 93 false (.pick (.t 96) (.t 98) (.k (.bool false))),o 100 (.pick (.t 93) (.k (.bool true)) (.t 99)),oM 101 100,og 102 101 false (.mv (.t 14)),og 103 101 false (.bin .eql (.t 102) (qI 0)),og 104 101 false (.mv (.t 103)),og 105 104 true (.mv (.t 12)),og 106 104 true (.mv (.t 8)),og 107 104 true (.ixa 3 1 (.t 11) (qI 0)),og 108 104 true (.load false 1 (.t 107)),og 109 104 true (.ixa 3 1 (.t 11) (qI 2)),og 110 104 true (.load false 1 (.t 109)),og 111 104 true (.call N.ap [.t 106,.t 108,.t 110]),og 112 104 true (.bin .neq (.t 105) (.t 111)),og 113 101 false (.pick (.t 104) (.t 112) (.k (.bool false))),o 114 (.pick (.t 101) (.k (.bool true)) (.t 113))] (.cond (.t 114) (sQ [o 6 (.mv (.k (.bool false)))] (.ret)) (.skip))) (sQ [oM 116 8,o 117 (.ixa 3 1 (.t 11) (qI 0)),oL 118 117,o 119 (.ixa 3 1 (.t 11) (qI 1)),oL 120 119,o 121 (.ixa 3 1 (.t 11) (qI 2)),oL 122 121,o 123 (.call N.au [.t 116,.t 118,.t 120,.t 122]),oM 115 123,o 124 (.ext (.t 115) 0),o 125 (.ext (.t 115) 1),oM 15 124,oM 16 125] (sQ [oM 126 8,o 127 (.ixa 3 1 (.t 11) (qI 0)),oL 128 127,o 129 (.ixa 3 1 (.t 11) (qI 1)),oL 130 129,o 131 (.ixa 3 1 (.t 11) (qI 2)),oL 132 131,o 133 (.bsl 1 3 [.int .u64 0] [0,1,2] [.t 128,.t 130,.t 132]),o 134 (.call N.af [.t 126,.t 133]),oM 14 134] (sQ [oM 135 16,oM 136 14,o 137 (.bin .neq (.t 135) (.t 136)),oM 138 137,og 139 138 false (.mv (.t 15)),og 140 138 false (.mv (.t 14)),og 141 138 false (.bin .eql (.t 140) (qI 0)),og 142 138 false (.mv (.t 141)),og 143 142 true (.mv (.t 8)),og 144 142 true (.ixa 3 1 (.t 11) (qI 0)),og 145 142 true (.load false 1 (.t 144)),og 146 142 true (.ixa 3 1 (.t 11) (qI 1)),og 147 142 true (.load false 1 (.t 146)),og 148 142 true (.ixa 3 1 (.t 11) (qI 2)),og 149 142 true (.load false 1 (.t 148)),og 150 142 true (.call N.aC [.t 143,.t 145,.t 147,.t 149]),og 151 138 false (.pick (.t 142) (.t 150) (.k (.bool false))),og 152 138 false (.eq true .bool (.t 139) (.t 151)),o 153 (.pick (.t 138) (.k (.bool true)) (.t 152))] (.cond (.t 153) (sQ [o 6 (.mv (.k (.bool false)))] (.ret)) (.skip)))))))))) (.ops [oA 154 71,oM 71 154])))
def cF:SC:=.ops [oA 155 22,oM 22 155]
def bw:SC:=sQ [o 23 (.bin .lss (.t 22) (qI 2))] (.seq (.cond (.t 23) (.skip) (.exit 0)) (.seq (.blk 1 (sQ [o 24 (.ix false 2 1 (.t 21) (.t 22)),oM 8 24] (sQ [oM 25 8,oN 26 25,o 27 (.bin .shl (.k (.int .u64 1)) (.t 26)),o 28 (.bin .sub (.t 27) (.k (.int .u64 1))),oM 9 28] (.seq (sQ [oM 29 8,o 30 (.call N.aK [.t 29]),oM 31 8,o 32 (.call N.af [.t 31,.k (.nils)]),o 33 (.bin .neq (.t 30) (.t 32))] (.cond (.t 33) (sQ [o 6 (.mv (.k (.bool false)))] (.ret)) (.skip))) (sQ [o 34 (.load true 3 (.t 5)),o 35 (.ixa 3 1 (.t 5) (qI 0)),oL 36 35,oM 37 9,o 38 (.bin .and (.t 36) (.t 37)),o 39 (.ixa 3 1 (.t 5) (qI 1)),oL 40 39,oM 41 9,o 42 (.bin .and (.t 40) (.t 41)),o 43 (.ixa 3 1 (.t 5) (qI 2)),oL 44 43,oM 45 9,o 46 (.bin .and (.t 44) (.t 45)),o 47 (.build [.int .u64 0,.int .u64 0,.int .u64 0] [(0,1),(1,1),(2,1)] [.t 38,.t 42,.t 46]),o 48 (.ixa 3 1 (.t 5) (qI 0)),oL 49 48,oM 50 9,o 51 (.bin .and (.t 49) (.t 50)),o 52 (.ixa 3 1 (.t 5) (qI 1)),oL 53 52,oM 54 9,o 55 (.bin .and (.t 53) (.t 54)),o 56 (.ixa 3 1 (.t 5) (qI 0)),oL 57 56,o 58 (.bin .andNot (.t 55) (.t 57)),o 59 (.ixa 3 1 (.t 5) (qI 2)),oL 60 59,oM 61 9,o 62 (.bin .and (.t 60) (.t 61)),o 63 (.ixa 3 1 (.t 5) (qI 0)),oL 64 63,o 65 (.bin .andNot (.t 62) (.t 64)),o 66 (.ixa 3 1 (.t 5) (qI 1)),oL 67 66,o 68 (.bin .andNot (.t 65) (.t 67)),o 69 (.build [.int .u64 0,.int .u64 0,.int .u64 0] [(0,1),(1,1),(2,1)] [.t 51,.t 58,.t 68]),o 70 (.build [.int .u64 0,.int .u64 0,.int .u64 0,.int .u64 0,.int .u64 0,.int .u64 0,.int .u64 0,.int .u64 0,.int .u64 0] [(0,3),(3,3),(6,3)] [.t 34,.t 47,.t 69]),oK 71 0] (.blk 2 (.loop bD))))))) cF))
def cJ:SC:=sQ [o 6 (.mv (.k (.bool true)))] (.ret)
def cZ:SC:=.seq (sQ [o 17 (.call N.aM []),o 18 (.not (.t 17))] (.cond (.t 18) (sQ [o 6 (.mv (.k (.bool false)))] (.ret)) (.skip))) (.seq (sQ [oM 19 0,o 20 (.load true 2 (.t 4)),o 21 (.call N.aG [.t 19,.t 20]),oK 22 0] (.blk 0 (.loop bw))) cJ)
def bY:SF:=⟨156,[.tm 6],sQ [o 4 (.box (.t 1)),o 5 (.box (.t 2)),o 6 (.mv (.k (.bool false)))] cZ⟩
def eg:SC:=sQ [oM 19 0,o 20 (.load true 2 (.t 3)),o 21 (.call N.aD [.t 20]),o 22 (.build [.nils,.nils] [(0,1),(1,1)] [.t 19,.t 21]),oz (.store 2 (.t 4) (.t 22))] (.ret)
def hQ:SC:=sQ [oM 5 0,oM 6 0,oN 7 6,o 8 (.mn (.t 7) (qI 9)),o 9 (.slc 1 (.t 5) [] [.t 8]),oM 0 9] (.seq (sQ [oM 10 0,o 11 (.call N.aq [.t 10]),oM 12 11,og 13 12 true (.mv (.t 0)),og 14 12 true (.len .slice (.t 13)),og 15 12 true (.bin .gtr (.t 14) (qI 6)),o 16 (.pick (.t 12) (.t 15) (.k (.bool false)))] (.cond (.t 16) (.ops [oM 17 0,o 18 (.slc 1 (.t 17) [] [.k (.int .i64 0)]),oM 0 18]) (.skip))) eg)
def gi:SF:=⟨23,[.cell true 2 4],sQ [o 3 (.box (.t 1)),o 4 (.alloc [.nils,.nils])] hQ⟩
def eH:SF:=⟨11,[.tm 2],sQ [oK 2 0] (sQ [oM 6 0,o 7 (.call N.am [.t 6]),oM 5 7,o 8 (.ext (.t 5) 0),o 9 (.ext (.t 5) 1),o 3 (.alloc [.nils,.nils]),oz (.store 2 (.t 3) (.t 8)),oM 4 9] (sQ [oM 10 4,oM 2 10] (.ret)))⟩
def ff:SF:=⟨12,[.tm 4],sQ [oK 4 0] (.seq (sQ [oM 5 0,o 6 (.call N.aq [.t 5]),o 7 (.not (.t 6))] (.cond (.t 7) (sQ [oK 4 70] (.ret)) (.skip))) (.seq (sQ [oM 8 0,oM 9 1,o 10 (.call N.aI [.t 8,.t 9]),o 11 (.not (.t 10))] (.cond (.t 11) (sQ [oK 4 2] (.ret)) (.skip))) (sQ [oK 4 0] (.ret))))⟩
def eG:SF:=⟨28,[.tm 6,.tm 7],sQ [o 6 (.mv (.k (.int .u64 0))),oK 7 0] (sQ [oM 11 0,o 12 (.call N.am [.t 11]),oM 10 12,o 13 (.ext (.t 10) 0),o 14 (.ext (.t 10) 1),o 8 (.alloc [.nils,.nils]),oz (.store 2 (.t 8) (.t 13)),oM 9 14] (.seq (sQ [oM 15 9,o 16 (.bin .neq (.t 15) (qI 0))] (.cond (.t 16) (sQ [oM 17 9,o 6 (.mv (.k (.int .u64 0))),oM 7 17] (.ret)) (.skip))) (.seq (sQ [o 18 (.load true 2 (.t 8)),oM 19 1,oM 20 2,o 21 (.bsl 1 2 [.int .u64 0] [0,1] [.t 19,.t 20]),o 22 (.call N.ak [.t 18,.t 21]),o 23 (.not (.t 22))] (.cond (.t 23) (sQ [o 6 (.mv (.k (.int .u64 0))),oK 7 2] (.ret)) (.skip))) (sQ [o 24 (.load true 2 (.t 8)),oM 25 1,oM 26 2,o 27 (.call N.aw [.t 24,.t 25,.t 26]),oM 6 27,oK 7 0] (.ret)))))⟩
def h_:SC:=.ops [oM 13 8,oA 14 13,oM 8 14]
def gS:SC:=.seq (sQ [oM 9 8,oM 10 0,oN 11 10,o 12 (.bin .lss (.t 9) (.t 11))] (.cond (.t 12) (.skip) (.exit 0))) (.seq (.blk 1 (sQ [oM 15 1,oM 16 8,o 17 (.call N.aa [.t 15,.t 16])] (.cond (.t 17) (.ops [oM 18 7,oM 19 0,oM 20 8,o 21 (.bsl 1 1 [.int .i64 0] [0] [.t 20]),oM 22 2,o 23 (.call N.ax [.t 19,.t 21,.t 22]),o 24 (.bin .or (.t 18) (.t 23)),oM 7 24]) (.skip)))) h_)
def gT:SC:=sQ [oM 25 7,oM 6 25] (.ret)
def gJ:SF:=⟨26,[.tm 6],sQ [o 6 (.mv (.k (.int .u64 0)))] (sQ [o 7 (.mv (.k (.int .u64 0)))] (.seq (sQ [oK 8 0] (.blk 0 (.loop gS))) gT))⟩
def ew:SF:=⟨34,[.tm 8,.tm 9],sQ [o 8 (.mv (.k (.bool false))),oK 9 0] (sQ [oM 13 0,o 14 (.call N.am [.t 13]),oM 12 14,o 15 (.ext (.t 12) 0),o 16 (.ext (.t 12) 1),o 10 (.alloc [.nils,.nils]),oz (.store 2 (.t 10) (.t 15)),oM 11 16] (.seq (sQ [oM 17 11,o 18 (.bin .neq (.t 17) (qI 0))] (.cond (.t 18) (sQ [oM 19 11,o 8 (.mv (.k (.bool false))),oM 9 19] (.ret)) (.skip))) (.seq (sQ [o 20 (.load true 2 (.t 10)),oM 21 1,oM 22 2,oM 23 3,o 24 (.bsl 1 3 [.int .u64 0] [0,1,2] [.t 21,.t 22,.t 23]),o 25 (.call N.ak [.t 20,.t 24]),o 26 (.not (.t 25))] (.cond (.t 26) (sQ [o 8 (.mv (.k (.bool false))),oK 9 2] (.ret)) (.skip))) (sQ [o 27 (.load true 2 (.t 10)),oM 28 1,oM 29 3,o 30 (.call N.aw [.t 27,.t 28,.t 29]),oM 31 2,o 32 (.bin .and (.t 30) (.t 31)),o 33 (.bin .eql (.t 32) (.k (.int .u64 0))),oM 8 33,oK 9 0] (.ret)))))⟩
def gN:SF:=⟨16,[.tm 8],sQ [o 8 (.mv (.k (.bool false)))] (sQ [oM 9 0,oM 10 1,oM 11 3,o 12 (.call N.ap [.t 9,.t 10,.t 11]),oM 13 2,o 14 (.bin .and (.t 12) (.t 13)),o 15 (.bin .eql (.t 14) (.k (.int .u64 0))),oM 8 15] (.ret))⟩
def cj:SC:=sQ [o 7 (.mv (.k (.nils)))] (sQ [oM 36 7,oM 37 4,oM 38 6,o 39 (.slc 1 (.t 37) [] [.t 38]),o 40 (.app 1 8 (.t 36) (.t 39)),oM 41 5,o 42 (.bsl 1 1 [.int .i64 0] [0] [.t 41]),o 43 (.app 1 8 (.t 40) (.t 42)),oM 7 43] (.ops [oM 44 7,oM 45 4,oM 46 6,o 47 (.slc 1 (.t 45) [.t 46] []),o 48 (.app 1 8 (.t 44) (.t 47)),oM 4 48]))
def dQ:SC:=.ops [oM 20 5,oA 21 20,oM 5 21]
def b9:SC:=.seq (sQ [oM 17 5,oM 18 3,o 19 (.bin .lss (.t 17) (.t 18))] (.cond (.t 19) (.skip) (.exit 0))) (.seq (.blk 1 (sQ [oK 6 0] (.seq (sQ [oM 22 5,oF 23 1 1,oL 24 23,oN 25 24,o 26 (.bin .lss (.t 22) (.t 25))] (.cond (.t 26) (.ops [oF 27 1 1,oL 28 27,oM 29 5,oX 30 28 29,oL 31 30,o 32 (.conv .i64 (.t 31)),oM 33 5,oA 34 33,o 35 (.bin .rem (.t 32) (.t 34)),oM 6 35]) (.skip))) cj))) dQ)
def dW:SC:=.ops [oM 66 11,oA 67 66,oM 11 67]
def cd:SC:=.seq (sQ [oM 63 11,oM 64 9,o 65 (.bin .lss (.t 63) (.t 64))] (.cond (.t 65) (.skip) (.exit 4))) (.seq (.blk 5 (sQ [oF 68 0 1,oL 69 68,oM 70 9,oX 71 69 70,oL 72 71,oM 73 11,o 74 (.conv .u64 (.t 73)),o 75 (.bin .shr (.t 72) (.t 74)),o 76 (.bin .and (.t 75) (.k (.int .u8 1))),o 77 (.bin .eql (.t 76) (.k (.int .u8 1))),oM 78 77,og 79 78 true (.mv (.t 10)),og 80 78 true (.bin .lss (.t 79) (qI 3)),o 81 (.pick (.t 78) (.t 80) (.k (.bool false)))] (.cond (.t 81) (.seq (.feet [0,0,0,6,14,0,0,0,192,448,992,2016,0,0,12288,28672,61440,126976,262112,524287,1048575] [oM 82 8,oM 83 4,oM 84 9,oX 85 83 84,oL 86 85,oM 87 8,oM 88 4,oM 89 9,oX 90 88 89,oL 91 90,oX 92 87 91,oL 93 92,oM 94 4,oM 95 11,oX 96 94 95,oL 97 96,o 98 (.conv .u64 (.t 97)),o 99 (.bin .shl (.k (.int .u64 1)) (.t 98)),o 100 (.bin .or (.t 93) (.t 99)),oX 101 82 86,oz (.store 1 (.t 101) (.t 100))]) (.ops [oM 102 10,oA 103 102,oM 10 103])) (.skip)))) dW)
def d8:SC:=.ops [oM 61 9,oA 62 61,oM 9 62]
def b_:SC:=.seq (sQ [oM 51 9,oM 52 3,o 53 (.bin .lss (.t 51) (.t 52)),oM 54 53,og 55 54 true (.mv (.t 9)),og 56 54 true (.fad 0 (.t 1)),og 57 54 true (.load false 1 (.t 56)),og 58 54 true (.len .slice (.t 57)),og 59 54 true (.bin .lss (.t 55) (.t 58)),o 60 (.pick (.t 54) (.t 59) (.k (.bool false)))] (.cond (.t 60) (.skip) (.exit 2))) (.seq (.blk 3 (sQ [oK 10 0] (sQ [oK 11 0] (.blk 4 (.loop cd))))) d8)
def dT:SC:=sQ [oM 104 8,oM 2 104] (.ret)
def ed:SC:=sQ [oM 49 3,o 50 (.mks 1 8 [.int .u64 0] (.t 49) (.t 49)),oM 8 50] (.seq (sQ [oK 9 0] (.blk 2 (.loop b_))) dT)
def ej:SC:=sQ [oF 12 0 1,oL 13 12,oN 14 13,o 15 (.mx (.t 14) (qI 1)),o 16 (.mn (.t 15) (qI 6)),oM 3 16] (sQ [o 4 (.mv (.k (.nils)))] (.seq (sQ [oK 5 0] (.blk 0 (.loop b9))) ed))
def dh:SF:=⟨105,[.tm 2],sQ [o 1 (.box (.t 0)),o 2 (.mv (.k (.nils)))] ej⟩
def hU:SC:=.seq (sQ [oM 12 3,oM 13 0,oN 14 13,o 15 (.bin .lss (.t 12) (.t 14))] (.cond (.t 15) (.skip) (.exit 0))) (.seq (.blk 1 (sQ [oM 18 0,oM 19 3,oX 20 18 19,oL 21 20,oM 22 0,oN 23 22,o 24 (.conv .u64 (.t 23)),o 25 (.bin .shr (.t 21) (.t 24)),o 26 (.bin .neq (.t 25) (.k (.int .u64 0)))] (.cond (.t 26) (sQ [o 2 (.mv (.k (.bool false)))] (.ret)) (.skip)))) (.ops [oM 16 3,oA 17 16,oM 3 17]))
def gR:SC:=sQ [oM 27 0,o 28 (.call N.aJ [.t 27]),oM 2 28] (.ret)
def du:SF:=⟨29,[.tm 2],sQ [o 2 (.mv (.k (.bool false)))] (.seq (sQ [oM 4 0,oN 5 4,o 6 (.bin .lss (.t 5) (qI 1)),oM 7 6,og 8 7 false (.mv (.t 0)),og 9 7 false (.len .slice (.t 8)),og 10 7 false (.bin .gtr (.t 9) (qI 8)),o 11 (.pick (.t 7) (.k (.bool true)) (.t 10))] (.cond (.t 11) (sQ [o 2 (.mv (.k (.bool false)))] (.ret)) (.skip))) (.seq (sQ [oK 3 0] (.blk 0 (.loop hU))) gR))⟩
def dE:SC:=sQ [o 44 (.bin .lss (.t 43) (.t 42))] (.seq (.cond (.t 44) (.skip) (.exit 2)) (.seq (.blk 3 (sQ [oM 45 43,oM 7 45] (.feet [0,1,0,7,15,0,0,96,224,0,992,2047,4095,8191] [oF 46 1 4,oL 47 46,oM 48 7,oX 49 47 48,oL 50 49,oM 51 6,oM 52 7,o 53 (.bin .shr (.t 51) (.t 52)),o 54 (.bin .and (.t 53) (.k (.int .u64 1))),oM 55 5,o 56 (.bin .shl (.t 54) (.t 55)),o 57 (.bin .or (.t 50) (.t 56)),oX 58 47 48,oz (.store 1 (.t 58) (.t 57))]))) (.ops [oA 59 43,oM 43 59])))
def fV:SC:=.ops [oA 60 30,oM 30 60]
def dF:SC:=sQ [o 31 (.bin .lss (.t 30) (.t 29))] (.seq (.cond (.t 31) (.skip) (.exit 0)) (.seq (.blk 1 (sQ [oM 32 30,oX 33 28 30,oL 34 33,oM 5 32,oM 6 34] (.seq (sQ [oM 35 6,oM 36 0,oN 37 36,o 38 (.bin .shr (.t 35) (.t 37)),o 39 (.bin .neq (.t 38) (.k (.int .u64 0)))] (.cond (.t 39) (sQ [o 40 (.build [.nils,.nils] [] []),oz (.store 2 (.t 2) (.t 40)),oK 3 70] (.ret)) (.skip))) (sQ [oM 41 0,oN 42 41,oK 43 0] (.blk 2 (.loop dE)))))) fV))
def dC:SC:=sQ [o 72 (.bin .lss (.t 71) (.t 70))] (.seq (.cond (.t 72) (.skip) (.exit 6)) (.seq (.blk 7 (sQ [oM 73 71,oX 74 69 71,oL 75 74,oM 9 73,oM 10 75] (sQ [oM 76 8,oM 77 9,o 78 (.bin .shr (.t 76) (.t 77)),o 79 (.bin .and (.t 78) (.k (.int .u64 1))),o 80 (.bin .eql (.t 79) (.k (.int .u64 0))),oM 81 80,og 82 81 true (.mv (.t 10)),og 83 81 true (.mv (.t 8)),og 84 81 true (.bin .andNot (.t 82) (.t 83)),og 85 81 true (.bin .eql (.t 84) (.k (.int .u64 0))),o 86 (.pick (.t 81) (.t 85) (.k (.bool false)))] (.cond (.t 86) (sQ [oM 87 8,oM 88 9,o 89 (.bin .shl (.k (.int .u64 1)) (.t 88)),o 90 (.bin .or (.t 87) (.t 89)),oM 8 90] (.exit 5)) (.skip))))) (.ops [oA 91 71,oM 71 91])))
def fX:SC:=sQ [o 92 (.build [.nils,.nils] [] []),oz (.store 2 (.t 2) (.t 92)),oK 3 70] (.ret)
def ge:SC:=.ops [oA 93 65,oM 65 93]
def dG:SC:=sQ [o 66 (.bin .lss (.t 65) (.t 64))] (.seq (.cond (.t 66) (.skip) (.exit 4)) (.seq (.blk 5 (.seq (sQ [oF 67 0 4,oF 68 0 67,oL 69 68,oN 70 69,oK 71 0] (.blk 6 (.loop dC))) fX)) ge))
def fJ:SC:=sQ [o 94 (.load true 2 (.t 4)),oz (.store 2 (.t 2) (.t 94)),oK 3 0] (.ret)
def fI:SC:=sQ [o 8 (.mv (.k (.int .u64 0)))] (.seq (.skip) (.seq (sQ [oF 61 0 4,oF 62 0 61,oL 63 62,oN 64 63,oK 65 0] (.blk 4 (.loop dG))) fJ))
def cC:SC:=.seq (sQ [oM 11 0,oN 12 11,o 13 (.bin .lss (.t 12) (qI 1)),oM 14 13,og 15 14 false (.mv (.t 0)),og 16 14 false (.len .slice (.t 15)),og 17 14 false (.bin .gtr (.t 16) (qI 8)),o 18 (.pick (.t 14) (.k (.bool true)) (.t 17))] (.cond (.t 18) (sQ [o 19 (.build [.nils,.nils] [] []),oz (.store 2 (.t 2) (.t 19)),oK 3 70] (.ret)) (.skip))) (sQ [oM 20 0,o 21 (.build [.nils] [(0,1)] [.t 20]),oM 22 0,oN 23 22,o 24 (.mks 1 8 [.int .u64 0] (.t 23) (.t 23)),o 25 (.build [.nils,.nils] [(0,1),(1,1)] [.t 21,.t 24]),o 4 (.alloc [.nils,.nils]),oz (.store 2 (.t 4) (.t 25))] (.seq (sQ [oF 26 0 4,oF 27 0 26,oL 28 27,oN 29 28,oK 30 0] (.blk 0 (.loop dF))) fI))
def cp:SF:=⟨95,[.cell true 2 2,.tm 3],sQ [o 2 (.alloc [.nils,.nils]),oK 3 0] cC⟩
def iN:SC:=.seq (sQ [oM 7 6,oM 8 1,oN 9 8,o 10 (.bin .lss (.t 7) (.t 9))] (.cond (.t 10) (.skip) (.exit 0))) (.seq (.blk 1 (.seq (sQ [oM 13 1,oM 14 6,oX 15 13 14,oL 16 15,oM 17 0,oN 18 17,o 19 (.conv .u64 (.t 18)),o 20 (.bin .shr (.t 16) (.t 19)),o 21 (.bin .neq (.t 20) (.k (.int .u64 0))),oM 22 21,og 23 22 false (.mv (.t 1)),og 24 22 false (.mv (.t 6)),og 25 22 false (.ixs 1 (.t 23) (.t 24)),og 26 22 false (.load false 1 (.t 25)),og 27 22 false (.mv (.t 5)),og 28 22 false (.bin .and (.t 26) (.t 27)),og 29 22 false (.bin .neq (.t 28) (.k (.int .u64 0))),o 30 (.pick (.t 22) (.k (.bool true)) (.t 29))] (.cond (.t 30) (sQ [o 4 (.mv (.k (.bool false)))] (.ret)) (.skip))) (.ops [oM 31 5,oM 32 1,oM 33 6,oX 34 32 33,oL 35 34,o 36 (.bin .or (.t 31) (.t 35)),oM 5 36]))) (.ops [oM 11 6,oA 12 11,oM 6 12]))
def iQ:SC:=sQ [o 4 (.mv (.k (.bool true)))] (.ret)
def ir:SF:=⟨37,[.tm 4],sQ [o 4 (.mv (.k (.bool false)))] (sQ [o 5 (.mv (.k (.int .u64 0)))] (.seq (sQ [oK 6 0] (.blk 0 (.loop iN))) iQ))⟩
def cq:SC:=sQ [o 11 (.bin .lss (.t 10) (.t 9))] (.seq (.cond (.t 11) (.skip) (.exit 0)) (.seq (.blk 1 (sQ [oX 12 8 10,oL 13 12,oM 7 13] (.seq (sQ [oM 14 7,oF 15 0 2,oF 16 0 15,oL 17 16,oN 18 17,o 19 (.bin .shr (.t 14) (.t 18)),o 20 (.bin .neq (.t 19) (.k (.int .u64 0))),oM 21 20,og 22 21 false (.mv (.t 7)),og 23 21 false (.mv (.t 5)),og 24 21 false (.bin .and (.t 22) (.t 23)),og 25 21 false (.bin .neq (.t 24) (.k (.int .u64 0))),o 26 (.pick (.t 21) (.k (.bool true)) (.t 25))] (.cond (.t 26) (sQ [o 4 (.mv (.k (.bool false)))] (.ret)) (.skip))) (.ops [oM 27 5,oM 28 7,o 29 (.bin .or (.t 27) (.t 28)),oM 5 29])))) (.ops [oA 30 10,oM 10 30])))
def ct:SC:=sQ [o 4 (.mv (.k (.bool true)))] (.ret)
def cD:SC:=sQ [o 5 (.mv (.k (.int .u64 0)))] (.seq (sQ [oM 8 1,oN 9 8,oK 10 0] (.blk 0 (.loop cq))) ct)
def bF:SF:=⟨31,[.tm 4],sQ [o 2 (.box (.t 0)),o 4 (.mv (.k (.bool false)))] cD⟩
def da:SC:=.ops [oA 38 25,oM 25 38]
def cX:SC:=sQ [o 26 (.bin .lss (.t 25) (.t 24))] (.seq (.cond (.t 26) (.skip) (.exit 2)) (.seq (.blk 3 (sQ [oM 27 25,oX 28 23 25,oL 29 28,oM 8 27,oM 9 29] (sQ [oL 30 7,oM 31 8,o 32 (.bin .shr (.t 30) (.t 31)),o 33 (.bin .and (.t 32) (.k (.int .u64 1))),o 34 (.bin .eql (.t 33) (.k (.int .u64 1)))] (.cond (.t 34) (.ops [oL 35 7,oM 36 9,o 37 (.bin .or (.t 35) (.t 36)),oz (.store 1 (.t 7) (.t 37))]) (.skip))))) da))
def gm:SC:=.ops [oA 39 19,oM 19 39]
def gq:SC:=sQ [o 20 (.bin .lss (.t 19) (.t 18))] (.seq (.cond (.t 20) (.skip) (.exit 0)) (.seq (.blk 1 (sQ [oF 21 0 3,oF 22 0 21,oL 23 22,oN 24 23,oK 25 0] (.blk 2 (.loop cX)))) gm))
def c_:SC:=.ops [oM 13 44]
def cY:SC:=.blk 5 (.ops [oL 45 12,oM 46 13,o 47 (.build [.int .i64 0,.bool false] [(0,1),(1,1)] [.t 46,.k (.bool false)]),o 48 (.dyn (.t 45) [.t 47])])
def dc:SC:=sQ [oL 49 10,oM 6 49] (.ret)
def a_:SC:=sQ [o 40 (.raw (.makeMap 144 none)),o 10 (.alloc [.int .u64 0]),o 11 (.alloc [.nilm]),oz (.store 1 (.t 10) (.k (.int .u64 0))),oz (.store 1 (.t 11) (.t 40))] (sQ [o 12 (.alloc [.nilf])] (sQ [o 41 (.mkf N.aE [] [.t 11,.t 5,.t 10,.t 3,.t 12,.t 7]),oz (.store 1 (.t 12) (.t 41))] (.seq (sQ [oM 42 1,o 43 (.call N.ae [.t 42])] (.blk 4 (.rng 50 (.t 43) [44] c_ cY))) dc)))
def dq:SC:=sQ [oL 14 5,o 7 (.alloc [.int .u64 0]),oz (.store 1 (.t 7) (.t 14))] (.seq (sQ [oF 15 0 3,oF 16 0 15,oL 17 16,oN 18 17,oK 19 0] (.blk 0 (.loop gq))) a_)
def cm:SF:=⟨50,[.tm 6],sQ [o 3 (.box (.t 0)),o 5 (.box (.t 2)),o 6 (.mv (.k (.int .u64 0)))] dq⟩
def kg:SF:=⟨11,[.tm 4],sQ [o 4 (.mv (.k (.bool false)))] (sQ [oM 5 0,oM 6 1,o 7 (.conv .u64 (.t 6)),o 8 (.bin .shr (.t 5) (.t 7)),o 9 (.bin .and (.t 8) (.k (.int .u64 1))),o 10 (.bin .eql (.t 9) (.k (.int .u64 1))),oM 4 10] (.ret))⟩
def eZ:SC:=.seq (sQ [oM 51 11,oM 52 1,oN 53 52,o 54 (.bin .lss (.t 51) (.t 53))] (.cond (.t 54) (.skip) (.exit 2))) (.seq (.blk 3 (.ops [oM 57 10,oM 58 57,og 59 58 true (.mv (.t 1)),og 60 58 true (.mv (.t 11)),og 61 58 true (.ixs 1 (.t 59) (.t 60)),og 62 58 true (.load false 1 (.t 61)),og 63 58 true (.mv (.t 9)),og 64 58 true (.bin .neq (.t 62) (.t 63)),o 65 (.pick (.t 58) (.t 64) (.k (.bool false))),oM 10 65])) (.ops [oM 55 11,oA 56 55,oM 11 56]))
def fc:SC:=sQ [oM 66 10] (.cond (.t 66) (sQ [o 12 (.mv (.k (.nils)))] (.ops [oM 67 7,oM 68 0,oM 69 12,oM 70 1,o 71 (.app 1 8 (.t 69) (.t 70)),oM 72 9,o 73 (.bsl 1 1 [.int .i64 0] [0] [.t 72]),o 74 (.app 1 8 (.t 71) (.t 73)),oM 75 2,o 76 (.call N.ax [.t 68,.t 74,.t 75]),o 77 (.bin .or (.t 67) (.t 76)),oM 7 77])) (.skip))
def iJ:SC:=.ops [oM 35 9,oA 36 35,oM 9 36]
def iP:SC:=.seq (sQ [oM 31 9,oM 32 0,oN 33 32,o 34 (.bin .lss (.t 31) (.t 33))] (.cond (.t 34) (.skip) (.exit 0))) (.seq (.blk 1 (sQ [oM 37 0,oM 38 9,oX 39 37 38,oL 40 39,oM 41 8,o 42 (.call N.aa [.t 40,.t 41]),oM 43 42,og 44 43 false (.mv (.t 0)),og 45 43 false (.mv (.t 8)),og 46 43 false (.ixs 1 (.t 44) (.t 45)),og 47 43 false (.load false 1 (.t 46)),og 48 43 false (.mv (.t 9)),og 49 43 false (.call N.aa [.t 47,.t 48]),o 50 (.pick (.t 43) (.k (.bool true)) (.t 49)),oM 10 50] (.seq (sQ [oK 11 0] (.blk 2 (.loop eZ))) fc))) iJ)
def iS:SC:=sQ [oM 78 7,oM 6 78] (.ret)
def e9:SC:=.seq (sQ [oK 9 0] (.blk 0 (.loop iP))) iS
def eh:SF:=⟨79,[.tm 6],sQ [o 6 (.mv (.k (.int .u64 0)))] (.seq (sQ [oM 13 0,oM 14 1,oM 15 2,o 16 (.call N.aF [.t 13,.t 14,.t 15]),o 17 (.not (.t 16))] (.cond (.t 17) (sQ [o 6 (.mv (.k (.int .u64 0)))] (.ret)) (.skip))) (sQ [o 7 (.mv (.k (.int .u64 0)))] (sQ [oM 18 1,oM 19 1,oN 20 19,o 21 (.bin .sub (.t 20) (qI 1)),oX 22 18 21,oL 23 22,oM 8 23] (.seq (sQ [oM 24 2,oM 25 8,o 26 (.call N.aa [.t 24,.t 25]),o 27 (.not (.t 26))] (.cond (.t 27) (.ops [oM 28 8,o 29 (.conv .u64 (.t 28)),o 30 (.bin .shl (.k (.int .u64 1)) (.t 29)),oM 7 30]) (.skip))) e9))))⟩
def kp:SC:=.seq (sQ [oM 4 3,oM 5 0,oN 6 5,o 7 (.bin .lss (.t 4) (.t 6))] (.cond (.t 7) (.skip) (.exit 0))) (.seq (.blk 1 (sQ [oM 10 0,oM 11 0,oM 12 3,oX 13 11 12,oL 14 13,o 15 (.call N.aB [.t 10,.t 14]),oM 16 3,o 17 (.call N.aa [.t 15,.t 16])] (.cond (.t 17) (sQ [o 2 (.mv (.k (.bool false)))] (.ret)) (.skip)))) (.ops [oM 8 3,oA 9 8,oM 3 9]))
def fN:SC:=sQ [o 2 (.mv (.k (.bool true)))] (.ret)
def e6:SF:=⟨18,[.tm 2],sQ [o 2 (.mv (.k (.bool false)))] (.seq (sQ [oK 3 0] (.blk 0 (.loop kp))) fN)⟩
def aV:SC:=.ops [oM 8 33]
def aX:SC:=.blk 1 (.ops [oL 34 5,oM 35 8,o 36 (.build [.int .i64 0,.bool false] [(0,1),(1,1)] [.t 35,.k (.bool true)]),o 37 (.dyn (.t 34) [.t 36])])
def aY:SC:=.ops [oM 9 69]
def aZ:SC:=.blk 3 (.ops [oL 70 5,oM 71 9,o 72 (.build [.int .i64 0,.bool false] [(0,1),(1,1)] [.t 71,.k (.bool false)]),o 73 (.dyn (.t 70) [.t 72])])
def aW:SC:=.seq (sQ [oF 38 1 7,oL 39 38,oM 40 39,og 41 40 true (.load false 1 (.t 6)),og 42 40 true (.fad 0 (.t 7)),og 43 40 true (.load false 1 (.t 42)),og 44 40 true (.bin .shr (.t 41) (.t 43)),og 45 40 true (.bin .and (.t 44) (.k (.int .u64 1))),og 46 40 true (.bin .eql (.t 45) (.k (.int .u64 0))),o 47 (.pick (.t 40) (.t 46) (.k (.bool false))),oM 48 47,og 49 48 false (.fad 1 (.t 7)),og 50 48 false (.load false 1 (.t 49)),og 51 48 false (.not (.t 50)),og 52 48 false (.mv (.t 51)),og 53 52 true (.load false 1 (.t 2)),og 54 52 true (.fad 0 (.t 7)),og 55 52 true (.load false 1 (.t 54)),og 56 52 true (.bin .shr (.t 53) (.t 55)),og 57 52 true (.bin .and (.t 56) (.k (.int .u64 1))),og 58 52 true (.bin .eql (.t 57) (.k (.int .u64 1))),og 59 48 false (.pick (.t 52) (.t 58) (.k (.bool false))),o 60 (.pick (.t 48) (.k (.bool true)) (.t 59))] (.cond (.t 60) (.ret) (.skip))) (sQ [oF 61 0 4,oF 62 0 61,oL 63 62,oF 64 0 7,oL 65 64,oX 66 63 65,oL 67 66,o 68 (.call N.ae [.t 67])] (.blk 2 (.rng 74 (.t 68) [69] aY aZ)))
def cK:SC:=.seq (sQ [oL 10 1,o 11 (.load true 2 (.t 7)),o 12 (.raw (.lookup 144 (.tmp 10) (.tmp 11) false))] (.cond (.t 12) (.ret) (.skip))) (sQ [oL 13 1,o 14 (.load true 2 (.t 7)),oz (.raw (.mapUpdate 144 (.tmp 13) (.tmp 14) (.const (.bool true))))] (.seq (sQ [oL 15 2,oF 16 0 7,oL 17 16,o 18 (.bin .shr (.t 15) (.t 17)),o 19 (.bin .and (.t 18) (.k (.int .u64 1))),o 20 (.bin .eql (.t 19) (.k (.int .u64 0)))] (.cond (.t 20) (.seq (.feet [0,0,2,6,15,31] [oL 21 3,oF 22 0 7,oL 23 22,o 24 (.bin .shl (.k (.int .u64 1)) (.t 23)),o 25 (.bin .or (.t 21) (.t 24)),oz (.store 1 (.t 3) (.t 25))]) (sQ [oF 26 1 4,oL 27 26,oF 28 0 7,oL 29 28,oX 30 27 29,oL 31 30,o 32 (.call N.ae [.t 31])] (.blk 0 (.rng 74 (.t 32) [33] aV aX)))) (.skip))) aW))
def bO:SF:=⟨74,[],sQ [o 7 (.box (.t 0))] cK⟩
def eP:SC:=sQ [o 3 (.mkf N.ah [] [.t 1]),oM 2 3] (.ret)
def dD:SF:=⟨4,[.tm 2],sQ [o 1 (.box (.t 0)),o 2 (.mv (.k (.nilf)))] eP⟩
def iO:SC:=.ops [oM 14 7,oA 15 14,oM 7 15]
def iK:SC:=.seq (sQ [oM 9 7,oA 10 9,oM 11 1,oN 12 11,o 13 (.bin .lss (.t 10) (.t 12))] (.cond (.t 13) (.skip) (.exit 0))) (.seq (.blk 1 (sQ [oM 16 1,oM 17 7,oX 18 16 17,oL 19 18,oM 8 19] (sQ [oM 20 0,oM 21 1,oM 22 7,o 23 (.call N.aH [.t 20,.t 21,.t 22])] (.cond (.t 23) (sQ [oM 24 0,oM 25 8,o 26 (.conv .u64 (.t 25)),o 27 (.bin .shl (.k (.int .u64 1)) (.t 26)),o 28 (.call N.ay [.t 24,.t 27]),oM 29 2,o 30 (.bin .and (.t 28) (.t 29)),o 31 (.bin .eql (.t 30) (.k (.int .u64 0)))] (.cond (.t 31) (sQ [o 6 (.mv (.k (.bool false)))] (.ret)) (.skip))) (sQ [oM 32 2,oM 33 8,o 34 (.call N.aa [.t 32,.t 33])] (.cond (.t 34) (sQ [o 6 (.mv (.k (.bool false)))] (.ret)) (.skip))))))) iO)
def iL:SC:=sQ [o 6 (.mv (.k (.bool true)))] (.ret)
def ik:SF:=⟨35,[.tm 6],sQ [o 6 (.mv (.k (.bool false)))] (.seq (sQ [oK 7 1] (.blk 0 (.loop iK))) iL)⟩
def pp:SC:=.ops [oM 17 6,oA 18 17,oM 6 18]
def pf:SC:=.seq (sQ [oM 13 6,oM 14 0,oN 15 14,o 16 (.bin .lss (.t 13) (.t 15))] (.cond (.t 16) (.skip) (.exit 2))) (.seq (.blk 3 (sQ [oM 19 1,oM 20 6,o 21 (.call N.aa [.t 19,.t 20])] (.cond (.t 21) (.ops [oM 22 1,oM 23 0,oM 24 6,oX 25 23 24,oL 26 25,o 27 (.bin .or (.t 22) (.t 26)),oM 1 27]) (.skip)))) pp)
def pu:SC:=.ops [oM 11 5,oA 12 11,oM 5 12]
def ph:SC:=.seq (sQ [oM 7 5,oM 8 0,oN 9 8,o 10 (.bin .lss (.t 7) (.t 9))] (.cond (.t 10) (.skip) (.exit 0))) (.seq (.blk 1 (sQ [oK 6 0] (.blk 2 (.loop pf)))) pu)
def jU:SC:=sQ [oM 28 1,oM 4 28] (.ret)
def ky:SF:=⟨29,[.tm 4],sQ [o 4 (.mv (.k (.int .u64 0)))] (.seq (sQ [oK 5 0] (.blk 0 (.loop ph))) jU)⟩
def dM:SC:=.seq (sQ [oM 5 3,o 6 (.bin .neq (.t 5) (.k (.int .u64 0)))] (.cond (.t 6) (.skip) (.exit 0))) (.seq (.blk 1 (sQ [oM 11 0,oM 12 3,o 13 (.call N.az [.t 12]),o 14 (.dyn (.t 11) [.t 13]),o 15 (.not (.t 14))] (.cond (.t 15) (.ret) (.skip)))) (.ops [oM 7 3,oM 8 3,o 9 (.bin .sub (.t 8) (.k (.int .u64 1))),o 10 (.bin .and (.t 7) (.t 9)),oM 3 10]))
def aU:SF:=⟨16,[],sQ [oL 4 1,oM 3 4] (.blk 0 (.loop dM))⟩
def bP:SF:=⟨8,[.tm 2],sQ [oK 2 0] (.seq (.cond (.k (.bool false)) (sQ [oM 3 0,o 4 (.conv .u32 (.t 3)),o 5 (.call N.aN [.t 4]),oM 2 5] (.ret)) (.skip)) (sQ [oM 6 0,o 7 (.call N.aA [.t 6]),oM 2 7] (.ret)))⟩
def eE:SF:=⟨35,[.tm 6],sQ [o 6 (.mv (.k (.bool false)))] (.seq (.quiet [oM 7 0,oM 8 1,oM 9 2,oX 10 8 9,oL 11 10,oX 12 7 11,oL 13 12,oM 14 1,oM 15 2,o 16 (.bin .sub (.t 15) (qI 1)),oX 17 14 16,oL 18 17,o 19 (.call N.aa [.t 13,.t 18]),oM 20 19,og 21 20 true (.mv (.t 0)),og 22 20 true (.mv (.t 1)),og 23 20 true (.mv (.t 2)),og 24 20 true (.ixs 1 (.t 22) (.t 23)),og 25 20 true (.load false 1 (.t 24)),og 26 20 true (.ixs 1 (.t 21) (.t 25)),og 27 20 true (.load false 1 (.t 26)),og 28 20 true (.mv (.t 1)),og 29 20 true (.mv (.t 2)),og 30 20 true (.bin .add (.t 29) (qI 1)),og 31 20 true (.ixs 1 (.t 28) (.t 30)),og 32 20 true (.load false 1 (.t 31)),og 33 20 true (.call N.aa [.t 27,.t 32]),o 34 (.pick (.t 20) (.t 33) (.k (.bool false))),oM 6 34]) (.ret))⟩
def mN:SC:=.ops [oM 17 6,oA 18 17,oM 6 18]
def mW:SC:=.seq (sQ [oM 13 6,oM 14 0,oN 15 14,o 16 (.bin .lss (.t 13) (.t 15))] (.cond (.t 16) (.skip) (.exit 2))) (.seq (.blk 3 (sQ [oM 19 0,oM 20 6,oX 21 19 20,oL 22 21,oM 23 1,o 24 (.bin .and (.t 22) (.t 23)),o 25 (.bin .neq (.t 24) (.k (.int .u64 0)))] (.cond (.t 25) (.ops [oM 26 1,oM 27 6,o 28 (.conv .u64 (.t 27)),o 29 (.bin .shl (.k (.int .u64 1)) (.t 28)),o 30 (.bin .or (.t 26) (.t 29)),oM 1 30]) (.skip)))) mN)
def mZ:SC:=.ops [oM 11 5,oA 12 11,oM 5 12]
def mV:SC:=.seq (sQ [oM 7 5,oM 8 0,oN 9 8,o 10 (.bin .lss (.t 7) (.t 9))] (.cond (.t 10) (.skip) (.exit 0))) (.seq (.blk 1 (sQ [oK 6 0] (.blk 2 (.loop mW)))) mZ)
def iU:SC:=sQ [oM 31 1,oM 4 31] (.ret)
def ii:SF:=⟨32,[.tm 4],sQ [o 4 (.mv (.k (.int .u64 0)))] (.seq (sQ [oK 5 0] (.blk 0 (.loop mV))) iU)⟩
def bu:SF:=⟨14,[.tm 2],sQ [oK 2 0] (.seq (sQ [oM 3 0,o 4 (.bin .eql (.t 3) (.k (.int .u64 0)))] (.cond (.t 4) (sQ [oK 2 64] (.ret)) (.skip))) (sQ [oM 5 0,oM 6 0,o 7 (.un .neg (.t 6)),o 8 (.bin .and (.t 5) (.t 7)),o 9 (.bin .mul (.t 8) (.k (.int .u64 285870213051353865))),o 10 (.bin .shr (.t 9) (.k (.int .u64 58))),o 11 (.ixa 64 1 (.k (.tptr 0 64 [[.int .u8 0,.int .u8 1,.int .u8 56,.int .u8 2,.int .u8 57,.int .u8 49,.int .u8 28,.int .u8 3,.int .u8 61,.int .u8 58,.int .u8 42,.int .u8 50,.int .u8 38,.int .u8 29,.int .u8 17,.int .u8 4,.int .u8 62,.int .u8 47,.int .u8 59,.int .u8 36,.int .u8 45,.int .u8 43,.int .u8 51,.int .u8 22,.int .u8 53,.int .u8 39,.int .u8 33,.int .u8 30,.int .u8 24,.int .u8 18,.int .u8 12,.int .u8 5,.int .u8 63,.int .u8 55,.int .u8 48,.int .u8 27,.int .u8 60,.int .u8 41,.int .u8 37,.int .u8 16,.int .u8 46,.int .u8 35,.int .u8 44,.int .u8 21,.int .u8 52,.int .u8 32,.int .u8 23,.int .u8 11,.int .u8 54,.int .u8 26,.int .u8 40,.int .u8 15,.int .u8 34,.int .u8 20,.int .u8 31,.int .u8 10,.int .u8 25,.int .u8 14,.int .u8 19,.int .u8 9,.int .u8 13,.int .u8 8,.int .u8 7,.int .u8 6]] 0 0)) (.t 10)),oL 12 11,o 13 (.conv .i64 (.t 12)),oM 2 13] (.ret)))⟩
theorem gL:nFn C0 N.aL=some bY:=by kernel_rfl
theorem m6:nFn C0 N.aG=some gi:=by kernel_rfl
theorem lE (d:Nat)(xs:List AV)(g:G):aE C0 d N.aG xs g=an (I C0) d g N.aG xs:=by kernel_rfl
theorem lO:nFn C0 N.aK=some eH:=by kernel_rfl
theorem jO (d:Nat)(xs:List AV)(g:G):aE C0 d N.aK xs g=an (I C0) d g N.aK xs:=by kernel_rfl
theorem mb:nFn C0 N.af=some ff:=by kernel_rfl
theorem kv (d:Nat)(xs:List AV)(g:G):aE C0 d N.af xs g=an (I C0) d g N.af xs:=by kernel_rfl
theorem lH:nFn C0 N.an=some eG:=by kernel_rfl
theorem jR (d:Nat)(xs:List AV)(g:G):aE C0 d N.an xs g=an (I C0) d g N.an xs:=by kernel_rfl
theorem nF:nFn C0 N.ap=some gJ:=by kernel_rfl
theorem lZ (d:Nat)(xs:List AV)(g:G):aE C0 d N.ap xs g=an (I C0) d g N.ap xs:=by kernel_rfl
theorem kZ:nFn C0 N.au=some ew:=by kernel_rfl
theorem jP (d:Nat)(xs:List AV)(g:G):aE C0 d N.au xs g=an (I C0) d g N.au xs:=by kernel_rfl
theorem od:nFn C0 N.aC=some gN:=by kernel_rfl
theorem lW (d:Nat)(xs:List AV)(g:G):aE C0 d N.aC xs g=an (I C0) d g N.aC xs:=by kernel_rfl
theorem i8:nFn C0 N.aD=some dh:=by kernel_rfl
theorem iA (d:Nat)(xs:List AV)(g:G):aE C0 d N.aD xs g=an (I C0) d g N.aD xs:=by kernel_rfl
theorem nk:nFn C0 N.aq=some du:=by kernel_rfl
theorem mf (d:Nat)(xs:List AV)(g:G):aE C0 d N.aq xs g=an (I C0) d g N.aq xs:=by kernel_rfl
theorem mc:nFn C0 N.am=some cp:=by kernel_rfl
theorem kz (d:Nat)(xs:List AV)(g:G):aE C0 d N.am xs g=an (I C0) d g N.am xs:=by kernel_rfl
theorem pc:nFn C0 N.aI=some ir:=by kernel_rfl
theorem mY (d:Nat)(xs:List AV)(g:G):aE C0 d N.aI xs g=an (I C0) d g N.aI xs:=by kernel_rfl
theorem f7:nFn C0 N.ak=some bF:=by kernel_rfl
theorem e8 (d:Nat)(xs:List AV)(g:G):aE C0 d N.ak xs g=an (I C0) d g N.ak xs:=by kernel_rfl
theorem gV:nFn C0 N.aw=some cm:=by kernel_rfl
theorem gn (d:Nat)(xs:List AV)(g:G):aE C0 d N.aw xs g=an (I C0) d g N.aw xs:=by kernel_rfl
theorem si:nFn C0 N.aa=some kg:=by kernel_rfl
theorem pd (d:Nat)(xs:List AV)(g:G):aE C0 d N.aa xs g=an (I C0) d g N.aa xs:=by kernel_rfl
theorem oY:nFn C0 N.ax=some eh:=by kernel_rfl
theorem mQ (d:Nat)(xs:List AV)(g:G):aE C0 d N.ax xs g=an (I C0) d g N.ax xs:=by kernel_rfl
theorem me:nFn C0 N.aJ=some e6:=by kernel_rfl
theorem ke (d:Nat)(xs:List AV)(g:G):aE C0 d N.aJ xs g=an (I C0) d g N.aJ xs:=by kernel_rfl
theorem gx:nFn C0 N.aE=some bO:=by kernel_rfl
theorem jS:nFn C0 N.ae=some dD:=by kernel_rfl
theorem iX (d:Nat)(xs:List AV)(g:G):aE C0 d N.ae xs g=an (I C0) d g N.ae xs:=by kernel_rfl
theorem o9:nFn C0 N.aF=some ik:=by kernel_rfl
theorem mU (d:Nat)(xs:List AV)(g:G):aE C0 d N.aF xs g=an (I C0) d g N.aF xs:=by kernel_rfl
theorem s_:nFn C0 N.aB=some ky:=by kernel_rfl
theorem pt (d:Nat)(xs:List AV)(g:G):aE C0 d N.aB xs g=an (I C0) d g N.aB xs:=by kernel_rfl
theorem iW:nFn C0 N.ah=some aU:=by kernel_rfl
theorem gw:nFn C0 N.az=some bP:=by kernel_rfl
theorem fy (d:Nat)(xs:List AV)(g:G):aE C0 d N.az xs g=an (I C0) d g N.az xs:=by kernel_rfl
theorem lG:nFn C0 N.aH=some eE:=by kernel_rfl
theorem jQ (d:Nat)(xs:List AV)(g:G):aE C0 d N.aH xs g=an (I C0) d g N.aH xs:=by kernel_rfl
theorem oZ:nFn C0 N.ay=some ii:=by kernel_rfl
theorem mP (d:Nat)(xs:List AV)(g:G):aE C0 d N.ay xs g=an (I C0) d g N.ay xs:=by kernel_rfl
theorem fA:nFn C0 N.aA=some bu:=by kernel_rfl
theorem eQ (d:Nat)(xs:List AV)(g:G):aE C0 d N.aA xs g=an (I C0) d g N.aA xs:=by kernel_rfl
theorem iV {α:Type}{f:Nat->α->Nat->α->Bool}{i:Nat}{x:α}:∀{l:List α} {j:Nat},(∀b y,l[b]?=some y->f i x (j+b) y=true)->cS f i x j l=true
 | [],_,_=>rfl
 | y::r,j,h=>by
  simp only[cS,Bool.and_eq_true]
  refine ⟨by simpa using h 0 y rfl,iV fun b z hb=>?_⟩
  have:=h (b+1) z (by simpa using hb)
  rwa [show j+(b+1)=j+1+b by omega] at this
theorem mE {α:Type}{f:Nat->α->Nat->α->Bool}:∀{l:List α} {i:Nat},(∀a b x y,a<b->l[a]?=some x->l[b]?=some y->f (i+a) x (i+b) y=true)->eN f i l=true
 | [],_,_=>rfl
 | x::r,i,h=>by
  simp only[eN,Bool.and_eq_true]
  refine ⟨iV fun b y hb=>?_,mE fun a b x' y hab ha hb=>?_⟩
  ·have:=h 0 (b+1) x y (by omega) rfl (by simpa using hb)
   rwa [Nat.add_zero,show i+(b+1)=i+1+b by omega] at this
  ·have:=h (a+1) (b+1) x' y (by omega) (by simpa using ha) (by simpa using hb)
   rwa [show i+(a+1)=i+1+a by omega,show i+(b+1)=i+1+b by omega] at this
theorem mB {pm:List Nat}:∀{l:List Foot} {i:Nat},(∀f∈l,f.lk.sr=[])->jg pm i l=true
 | [],_,_=>rfl
 | x::r,i,h=>by
  simp only[jg,h x (by simp)]
  exact mB fun f hf=>h f (by simp[hf])
def y7 (pm:List Nat)(ws:List Bool)(L:List (Nat×Nat))(i j:Nat):Bool:=(pm.getD j 0).testBit i || (!(ws.getD i false)&&!(ws.getD j false)) || L.contains (i,j)
def zY (pm:List Nat)(ws:List Bool)(L:List (Nat×Nat)):Bool:=(List.range ws.length).all fun j=>(List.range j).all fun i=>y7 pm ws L i j
theorem kn {pm:List Nat}{fs:List Foot}(ws:List Bool)(L:List (Nat×Nat))(hw:All2 (fun (f:Foot) (w:Bool)=>f.lk.sr=[]/\(w=false->f.wr=[])) fs ws)(hd:zY pm ws L=true)
  (hL:∀p∈L,∀x y,fs[p.1]?=some x->fs[p.2]?=some y->cO x y=true):il pm fs=true:=by
 unfold il
 rw[aa,if_pos]
 ·exact mB fun f hf=>by
   obtain ⟨i,hi,rfl⟩:=List.mem_iff_getElem.1 hf
   obtain ⟨w,-,h⟩:=hw.get (List.getElem?_eq_getElem hi)
   exact h.1
 ·refine mE fun a b x y hab ha hb=>?_
  simp only[Nat.zero_add]
  obtain ⟨wa,hwa,ka⟩:=hw.get ha
  obtain ⟨wb,hwb,kb⟩:=hw.get hb
  have hbl:=(List.getElem?_eq_some_iff.1 hwb).1
  have:=List.all_eq_true.1 (List.all_eq_true.1 hd b (List.mem_range.2 hbl)) a (List.mem_range.2 hab)
  simp only[y7,Bool.or_eq_true] at this
  rcases this with (h | h) | h
  ·rw[h,Bool.true_or]
  ·simp only[List.getD_eq_getElem?_getD,hwa,hwb,Option.getD_some,Bool.and_eq_true,Bool.not_eq_true'] at h
   have ex:=ka.2 h.1
   have ey:=kb.2 h.2
   simp only[cO,hM,fH,ex,ey,Bool.and_self,Bool.or_true]
  ·rw[hL (a,b) (List.contains_iff_mem.1 h) x y ha hb,Bool.or_true]
structure Mech where
 card:Int
 frm:List Int
 noise:List Int
 out:List Int
structure Causal where
 grain:Int
 roots:List (List Int)
 nodes:List Mech
structure Node where
 card:Int
 parents:List Int
 rows:List (List Int)
structure Net where
 grain:Int
 nodes:List Node
structure Factor where
 vars:List Int
 cards:List Int
 w:List Int
instance : Rp Mech:=Rp.via fun m:Mech=>(m.card,m.frm,m.noise,m.out)
instance : Rp Causal:=Rp.via fun m:Causal=>(m.grain,m.roots,m.nodes)
instance : Rp Node:=Rp.via fun m:Node=>(m.card,m.parents,m.rows)
instance : Rp Net:=Rp.via fun m:Net=>(m.grain,m.nodes)
instance : Rp Factor:=Rp.via fun m:Factor=>(m.vars,m.cards,m.w)
section
variable {P:Nat->Prop}{k:Nat}{h:H}{cs:List AV}
end
theorem SlR.len {α:Type} [Rp α]{P:Nat->Prop}{k:Nat}{h:H}{l:List α}{v:AV}(r:SlR P k h l v)(g:G):eV .slice v g=.val (.int .i64 (l.length:Int)):=by
 obtain ⟨rows,h1,h2⟩:=r.rows
 rw[wo h1,h2.len]
theorem SlR.tree {α:Type} [Rp α]{k k':Nat}{h h':H}{l:List α}{v:AV}(r:SlR NoP k h l v)(hk:k<=k'):SlR NoP k' h' l v:=by
 obtain ⟨w,hw,q⟩:=Rp.tree (P:=NoP) (k':=k') (h':=h') (show Rp.rp NoP k h l [v] from ⟨v,rfl,r⟩) hk
 injection hw with hw;subst hw;exact q
theorem cP {α:Type} [Rp α]{P:Nat->Prop}{k:Nat}{h:H}{l:List α}{v:AV}(r:SlR P k h l v)(d:Nat)(hd:Rp.dp (List α)<=20:=by decide) :
  ∃v',Hx.snap h d aB v=some v'/\∀h',SlR NoP (max k d) h' l v':=by
 obtain ⟨v',e,w,hw,q⟩:=yZ (io l hd) (by decide) d (show One l P k h v from ⟨v,rfl,r⟩)
 injection hw with hw;subst hw
 exact ⟨v',e,fun h'=>q.tree (Nat.le_refl _)⟩
theorem SlR.all {α:Type} [Rp α]{k:Nat}{h:H}{l:List α}{v:AV}(r:SlR NoP k h l v) :
  ∃rows:List (List AV),(∀h',au h' (Rp.sz α) v=some rows)/\rows.length=l.length/\(∀(i:Nat) (x:α),l[i]?=some x->∃row,rows[i]?=some row/\Rp.rp NoP k .nil x row)/\(0<l.length->oC v=true):=by
 have r0:=(r.tree (h':=.nil) (Nat.le_refl _))
 obtain ⟨rows,h1,h2⟩:=r0.rows
 refine ⟨rows,fun h'=>?_,h2.len.symm,fun i x hi=>h2.get hi,fun hl=>qy h1 (i:=0) (by rw[<-h2.len];exact hl)⟩
 rw[<-h1]
 exact mu fun id ep off len lim e=>by subst e;exact r.2.1.elim
theorem bj {P:Nat->Prop}{k:Nat}{h:H}{l:List Nat}{v:AV}(r:SlR P k h l v):∀x∈l,x<18446744073709551616:=by
 obtain ⟨rows,h1,h2⟩:=r.rows
 intro x hx
 obtain ⟨i,hi,e⟩:=List.mem_iff_getElem.1 hx
 obtain ⟨row,h3,h4⟩:=h2.get (i:=i) (a:=x) (by rw[List.getElem?_eq_getElem hi,e])
 exact (l6.1 h4).2
theorem nJ (p:Nat->Bool)(j:Nat):(List.range (j+1)).all p=((List.range j).all p&&p j):=by rw[List.range_succ,List.all_append];simp
theorem mM {p:Nat->Bool}{j n:Nat}(h:j<n)(hp:p j=false):(List.range n).all p=false:=by
 rw[List.all_eq_false];exact ⟨j,List.mem_range.2 h,by rw[hp];decide⟩
end
end Hx
end
section
namespace Hx
open Go
noncomputable section
theorem qb {C:Cfg}{nt d:Nat}{rd:Option Nat}{c:Code}{t:T}{df:List ADf}{g:G}{Q:QT}(h:wp C d rd (cM C nt c) Q t df g):((I C).code nt d rd c t df g).sat Q:=by
 rw[tZ];exact AY _ _ _ _ _ h
end
end Hx
end
section
section
namespace Hx
open Go
noncomputable section
theorem bU {α:Type}{l:List α}{j:Nat}(h:j<l.length):∃x,l[j]?=some x/\l.take (j+1)=l.take j++[x]/\x∈l :=
 ⟨l[j],List.getElem?_eq_getElem h,by rw[List.take_add_one,List.getElem?_eq_getElem h];rfl,List.getElem_mem h⟩
def S.bm (l:List Int):Int:=l.foldl (fun s x=>IntKind.wrap .i64 (s*x)) 1
def S.be (l:List Int)(n:Int)(i:Nat):Bool:=decide (0<=l[i]?.getD 0)&&decide (l[i]?.getD 0<n)&&(i == 0 || decide (l[i - 1]?.getD 0<l[i]?.getD 0))
def S.aM (l:List Int)(n:Int):Bool:=(List.range l.length).all (S.be l n)
def S.aw (n:Nat):Nat:=1*2 ^ n % 18446744073709551616
def S.aX (l:List Int):Nat:=l.foldl (fun s x=>s ||| S.aw x.toNat) 0
theorem qw (n:Nat):S.aw n<18446744073709551616:=Nat.mod_lt _ (by decide)
theorem bZ (k':IntKind)(n:Nat):bK .shl (.int .u64 1) (.int k' (n:Int))=.val (.int .u64 (S.aw n:Int)):=u6 k' 1 n
def S.aH (s v:Nat):Bool:=s / 2 ^ v &&& 1 == 1
theorem kY {d:Nat}{g:G}{s v:Nat}(hd:0<d)(hs:s<18446744073709551616)(hv:v<9223372036854775808) :
  aE C0 d N.aa [.int .u64 (s:Int),.int .i64 (v:Int)] g=.val (.bool (S.aH s v)):=by
 rw[pd]
 refine eX si (xs:=[.int .u64 (s:Int),.int .i64 (v:Int)]) (by simp only[aF,cV 0]) (by simp[kg]) hd ?_
 have h1:s / 2 ^ v<18446744073709551616:=Nat.lt_of_le_of_lt (Nat.div_le_self _ _) hs
 have h2:bK .and (.int .u64 ((s / 2 ^ v:Nat):Int)) (.int .u64 1)=.val (.int .u64 ((s / 2 ^ v &&& 1:Nat):Int)):=bT (s / 2 ^ v) 1 h1 (by decide)
 simp only[sz,simprocAttr,kg,dy (show (0:Int)<=(v:Int) by omega) (by omega),a9 _ _ _ hs,h2,S.aH]
 congr 1
 generalize s / 2 ^ v &&& 1=z
 rw[Bool.eq_iff_iff,decide_eq_true_iff,beq_iff_eq];omega
def S.aq (p:List Nat)(s:Nat)(j:Nat):Nat:=(List.range j).foldl (fun s v=>if S.aH s v then s ||| p[v]?.getD 0 else s) s
def S.up (p:List Nat)(s:Nat)(j:Nat):Nat:=(List.range j).foldl (fun s _=>S.aq p s p.length) s
theorem sH {p:List Nat}(hp:∀x∈p,x<18446744073709551616){s:Nat}(hs:s<18446744073709551616):∀j,S.aq p s j<18446744073709551616:=by
 intro j
 induction j with
 | zero=>exact hs
 | succ j ih =>
  unfold S.aq at ih ⊢
  rw[List.range_succ,List.foldl_append]
  simp only[List.foldl_cons,List.foldl_nil]
  split
  ·refine vC ih ?_
   cases h:p[j]? with
   | none=>decide
   | some x=>exact hp x (List.mem_of_getElem? h)
  ·exact ih
theorem cG (p:List Nat)(s j:Nat):S.aq p s (j+1)=if S.aH (S.aq p s j) j then S.aq p s j ||| p[j]?.getD 0 else S.aq p s j:=by
 unfold S.aq
 rw[List.range_succ,List.foldl_append];rfl
theorem AZ {p:List Nat}(hp:∀x∈p,x<18446744073709551616){s:Nat}(hs:s<18446744073709551616):∀j,S.up p s j<18446744073709551616:=by
 intro j
 induction j with
 | zero=>exact hs
 | succ j ih =>
  unfold S.up at ih ⊢
  rw[List.range_succ,List.foldl_append]
  exact sH hp ih _
theorem fm (p:List Nat)(s j:Nat):S.up p s (j+1)=S.aq p (S.up p s j) p.length:=by
 unfold S.up
 rw[List.range_succ,List.foldl_append];rfl
theorem B_ {d k:Nat}{g:G}{P:Nat->Prop}{v:AV}{p:List Nat}{s:Nat}(hd:0<d)(hv:SlR P k g.h p v)(hs:s<18446744073709551616) :
  aE C0 d N.aB [v,.int .u64 (s:Int)] g=.val (.int .u64 (S.up p s p.length:Int)):=by
 obtain ⟨v',e,r1⟩:=cP hv d
 have hp:=bj hv
 have hl:=hv.1
 rw[pt]
 refine fq s_ (xs:=[v',.int .u64 (s:Int)]) (by simp only[aF,e,cV 0]) (by simp[ky]) hd ?_
 simp only[sz,simprocAttr,ky]
 refine eM hl (r1 .nil).len (fun j t df g=>df=[]/\tat t 1=.int .u64 (S.up p s j:Int)) ⟨rfl,by simp[sx,S.up]⟩ (by simp[sx]) (by simp[sx]) (by decide)
  (by rintro j t df g v s (rfl | rfl | rfl | rfl | rfl | rfl | rfl)<;>simp[sx]) ?_ ?_
 ·rintro j t df g hj ⟨rfl,h1⟩ h5 h0
  simp only[sz,simprocAttr]
  have hu:=AZ hp hs j
  refine eM hl (r1 .nil).len (fun i t df g=>df=[]/\tat t 5=.int .i64 (j:Int)/\tat t 1=.int .u64 (S.aq p (S.up p s j) i:Int)) ⟨rfl,by simp[sx,h5],by simp[sx,S.aq,h1]⟩ (by simp[sx]) (by simp[sx,h0]) (by decide)
   (by rintro j t df g v s (rfl | rfl | rfl | rfl | rfl | rfl | rfl)<;>simp[sx]) ?_ ?_
  ·rintro i t df g hi ⟨rfl,h5,h1⟩ h6 h0
   have hr:=sH hp hu i
   obtain ⟨x,hx,-,hm⟩:=bU hi
   simp only[sz,simprocAttr,h1,h6,kY (Nat.succ_pos d) hr (show i<9223372036854775808 by omega)]
   refine vw (fun hb=>?_) (fun hb=>?_)
   ·simp only[sz,simprocAttr,h0,h1,h5,h6,(r1 g.h).nats,hi,hx,List.length_map,List.getElem?_map,Option.map_some,cu,fe _ _ hr (hp x hm)]
    rw[cG,hb,hx];rfl
   ·simp only[sx,sy,↓reduceIte,Nat.reduceEqDiff,h0,h1,h5,h6]
    rw[cG,hb];rfl
  ·rintro t df g ⟨rfl,h5,h1⟩ h0
   simp only[sx,sy,↓reduceIte,h0,h5,h1]
   rw[fm]
 ·rintro t df g ⟨rfl,h1⟩ -
  simp only[sz,simprocAttr,jU,h1]
def S.ay (p:List Nat):Bool:=(List.range p.length).all fun v=>!S.aH (S.up p (p[v]?.getD 0) p.length) v
theorem rT {d k:Nat}{g:G}{P:Nat->Prop}{v:AV}{p:List Nat}(hd:0<d)(hv:SlR P k g.h p v) :
  aE C0 d N.aJ [v] g=.val (.bool (S.ay p)):=by
 obtain ⟨v',e,r1⟩:=cP hv d
 have hp:=bj hv
 have hl:=hv.1
 rw[ke]
 refine eX me (xs:=[v']) (by simp only[aF,e]) (by simp[e6]) hd ?_
 simp only[sz,simprocAttr,e6]
 refine eM hl (r1 .nil).len (fun j t df g=>df=[]/\(List.range j).all (fun v=>!S.aH (S.up p (p[v]?.getD 0) p.length) v)=true) ⟨rfl,rfl⟩ (by simp[sx]) (by simp[sx]) (by decide)
  (by rintro j t df g v s (rfl | rfl | rfl | rfl | rfl | rfl | rfl)<;>simp[sx]) ?_ ?_
 ·rintro j t df g hj ⟨rfl,hw⟩ h3 h0
  obtain ⟨x,hx,-,hm⟩:=bU hj
  have hx':=hp x hm
  simp only[sz,simprocAttr,h0,h3,(r1 g.h).nats,hj,hx,List.length_map,List.getElem?_map,Option.map_some,cu,B_ (Nat.succ_pos d) (r1 g.h) hx',kY (Nat.succ_pos d) (AZ hp hx' _) (show j<9223372036854775808 by omega)]
  refine vw (fun hb=>?_) (fun hb=>?_)
  ·simp only[sz,simprocAttr]
   rw[S.ay,mM hj (by rw[hx];simp[hb])]
  ·simp only[sx,sy,↓reduceIte,Nat.reduceEqDiff,h0,h3]
   rw[nJ,hw,hx];simp[hb]
 ·rintro t df g ⟨rfl,hw⟩ h0
  simp only[sz,simprocAttr,fN]
  rw[S.ay,hw]
def S.ax (l:List Int):Int:=l.foldl (·*·) 1
def S.bf (m:Causal)(p:Int):Int:=(m.nodes[p.toNat]?.map (·.card)).getD 0
def S.aZ (m:Causal)(r:Int):Int:=(m.roots[r.toNat]?.map fun r=>(r.length:Int)).getD 0
def S.aJ (a b:Nat):Nat:=a ^^^ (a &&& b)
theorem iC {n:Nat}(h:n<64):S.aw n=2 ^ n:=by
 unfold S.aw
 rw[Nat.one_mul,Nat.mod_eq_of_lt]
 exact Nat.pow_lt_pow_right (a:=2) (by decide) h
def S.bc (m:Causal)(x:Mech):List Int:=x.frm.map (S.bf m)++x.noise.map (S.aZ m)
def S.a_ (m:Causal):Int:=S.ax (m.roots.map fun r=>(r.length:Int))
end
end Hx
end
section
namespace Hx
open Go
def Sub (a s:Nat):Prop:=∀v,a.testBit v=true->s.testBit v=true
theorem jD (s v:Nat):S.aH s v=s.testBit v:=by
 rw[Nat.testBit_eq_decide_div_mod_eq,S.aH,Nat.and_one_is_mod]
 rw[Bool.eq_iff_iff,beq_iff_eq,decide_eq_true_iff]
theorem pT {a s:Nat}:S.aJ a s=0↔Sub a s:=by
 constructor
 ·intro h v hv
  have:=congrArg (·.testBit v) h
  simp[S.aJ,hv] at this
  exact this
 ·intro h
  refine Nat.eq_of_testBit_eq fun v=>?_
  have:=h v
  simp only[S.aJ,Nat.testBit_xor,Nat.testBit_and,Nat.zero_testBit]
  cases ha:a.testBit v
  ·rfl
  ·rw[this ha];rfl
theorem iT (a b v:Nat):(a ||| b).testBit v=(a.testBit v || b.testBit v):=Nat.testBit_or a b v
theorem tQ {n:Nat}(h:n<64)(v:Nat):(S.aw n).testBit v=decide (n=v):=by rw[iC h,Nat.testBit_two_pow]
section
variable {p:List Nat}
def Par (p:List Nat)(v:Nat):Nat:=p[v]?.getD 0
def Cl (p:List Nat)(s:Nat):Prop:=∀v,v<p.length->s.testBit v=true->Sub (Par p v) s
theorem qj {s t:Nat}(hc:Cl p t)(h:Sub s t):∀j,j<=p.length->Sub (S.aq p s j) t
 | 0,_=>h
 | j+1,hj=>by
  have ih:=qj hc h j (by omega)
  rw[cG]
  split
  ·rename_i hb
   rw[jD] at hb
   intro v hv
   rw[iT,Bool.or_eq_true] at hv
   rcases hv with hv | hv
   ·exact ih v hv
   ·exact hc j (by omega) (ih j hb) v hv
  ·exact ih
theorem oR {s t:Nat}(hc:Cl p t)(h:Sub s t):∀j,Sub (S.up p s j) t
 | 0=>h
 | j+1=>by rw[fm];exact qj hc (oR hc h j) _ (Nat.le_refl _)
def ur (p:List Nat)(s:Nat):Prop:=Cl p s/\∀v,v<p.length->s.testBit v=true->(S.up p (Par p v) p.length).testBit v=false
theorem lC:S.ay p=true↔∀v,v<p.length->(S.up p (Par p v) p.length).testBit v=false:=by
 unfold S.ay
 rw[List.all_eq_true]
 constructor
 ·intro h v hv
  have:=h v (List.mem_range.2 hv)
  rw[jD] at this
  simpa [Par] using this
 ·intro h v hv
  have:=h v (List.mem_range.1 hv)
  rw[jD]
  simpa [Par] using this
def bct (s:Nat):Nat->Nat
 | 0=>0
 | n+1=>bct s n+(if s.testBit n then 1 else 0)
theorem t9 (s:Nat):∀n,bct s n<=n
 | 0=>Nat.le_refl _
 | n+1=>by have:=t9 s n;unfold bct;split<;>omega
theorem rI {a s:Nat}(h:Sub a s):∀n,bct a n<=bct s n
 | 0=>Nat.le_refl _
 | n+1=>by
  have:=rI h n
  unfold bct
  split
  ·rename_i hb;rw[if_pos (h n hb)];omega
  ·split<;>omega
theorem zM {a s:Nat}(h:Sub a s){v:Nat}(hv:s.testBit v=true)(ha:a.testBit v=false):∀n,v<n->bct a n<bct s n
 | 0,h0=>by omega
 | n+1,hn=>by
  unfold bct
  by_cases hvn:v=n
  ·subst hvn
   have:=rI h v
   rw[if_pos hv,ha];simp;omega
  ·have:=zM h hv ha n (by omega)
   split
   ·rename_i hb;rw[if_pos (h n hb)];omega
   ·split<;>omega
theorem sF {s:Nat}:∀n,bct s n=n->∀v,v<n->s.testBit v=true
 | 0,_,v,h=>by omega
 | n+1,h,v,hv=>by
  unfold bct at h
  have:=t9 s n
  split at h
  ·rename_i hb
   by_cases e:v=n
   ·subst e;exact hb
   ·exact sF n (by omega) v (by omega)
  ·omega
theorem lF {a s:Nat}(h:Sub a s)(h':Sub s a):a=s:=Nat.eq_of_testBit_eq fun v=>by
 cases ha:a.testBit v
 ·cases hs:s.testBit v
  ·rfl
  ·rw[h' v hs] at ha;cases ha
 ·rw[h v ha]
theorem y4 {a s:Nat}(h:Sub a s):a<=s:=by
 have:a ||| s=s:=Nat.eq_of_testBit_eq fun v=>by
  rw[iT]
  cases ha:a.testBit v
  ·simp
  ·rw[h v ha];rfl
 rw[<-this];exact Nat.left_le_or
theorem iB (s:Nat):∀j,Sub s (S.aq p s j)
 | 0=>fun _ h=>h
 | j+1=>by
  have ih:=iB s j
  rw[cG]
  split
  ·intro v hv;rw[iT,ih v hv];rfl
  ·exact ih
theorem uj {s:Nat}{j k:Nat}(h:j<=k):Sub (S.aq p s j) (S.aq p s k):=by
 induction h with
 | refl=>exact fun _ h=>h
 | step _ ih =>
  rw[cG]
  split
  ·intro v hv;rw[iT,ih v hv];rfl
  ·exact ih
theorem w6 {s:Nat}(h:S.aq p s p.length=s):Cl p s:=by
 intro v hv hb u hu
 have h1:(S.aq p s v).testBit v=true:=iB s v v hb
 have h2:(S.aq p s (v+1)).testBit u=true:=by
  rw[cG,jD,h1,if_pos rfl,iT]
  have:(p[v]?.getD 0).testBit u=true:=hu
  rw[this];simp
 have:=uj (p:=p) (s:=s) (show v+1<=p.length by omega) u h2
 rwa [h] at this
theorem mz {s n v:Nat}(h:s<2 ^ n)(hv:s.testBit v=true):v<n:=by
 rcases Nat.lt_or_ge v n with h1 | h1
 ·exact h1
 ·rw[Nat.testBit_lt_two_pow (Nat.lt_of_lt_of_le h (Nat.pow_le_pow_right (by decide) h1))] at hv;cases hv
theorem A_ {f:Nat->Nat}{n:Nat}(hm:∀j,Sub (f j) (f (j+1)))(hb:∀j,f j<2 ^ n)(hs:∀j,f (j+1)=f j->f (j+2)=f (j+1)):f (n+1)=f n:=by
 have key:∀j,j<=bct (f j) n\/f (j+1)=f j:=by
  intro j
  induction j with
  | zero=>exact .inl (Nat.zero_le _)
  | succ j ih =>
   rcases ih with ih | ih
   ·by_cases e:f (j+1)=f j
    ·exact .inr (hs j e)
    ·left
     have:∃v,(f (j+1)).testBit v=true/\(f j).testBit v=false:=by
      apply Classical.byContradiction
      intro hno
      apply e
      refine lF (fun v hv=>?_) (hm j)
      cases hc:(f j).testBit v
      ·exact absurd ⟨v,hv,hc⟩ hno
      ·rfl
     obtain ⟨v,h1,h2⟩:=this
     have:=zM (hm j) h1 h2 n (mz (hb _) h1)
     omega
   ·exact .inr (hs j ih)
 rcases key n with h | h
 ·have hc:bct (f n) n=n:=by have:=t9 (f n) n;omega
  refine lF (fun v hv=>?_) (hm n)
  exact sF n hc v (mz (hb _) hv)
 ·exact h
theorem zg {a b n:Nat}(h:a<2 ^ n)(h':b<2 ^ n):a ||| b<2 ^ n:=Nat.or_lt_two_pow h h'
theorem ko {v:Nat}(hp:∀x∈p,x<2 ^ p.length):Par p v<2 ^ p.length:=by
 unfold Par
 cases h:p[v]? with
 | none=>exact Nat.pow_pos (by decide)
 | some x=>exact hp x (List.mem_of_getElem? h)
theorem lV (hp:∀x∈p,x<2 ^ p.length){s:Nat}(hs:s<2 ^ p.length):∀j,S.aq p s j<2 ^ p.length
 | 0=>hs
 | j+1=>by
  have ih:=lV hp hs j
  rw[cG]
  split
  ·exact zg ih (ko hp)
  ·exact ih
theorem qv (hp:∀x∈p,x<2 ^ p.length){s:Nat}(hs:s<2 ^ p.length):∀j,S.up p s j<2 ^ p.length
 | 0=>hs
 | j+1=>by rw[fm];exact lV hp (qv hp hs j) _
theorem mj (hp:∀x∈p,x<2 ^ p.length){s:Nat}(hs:s<2 ^ p.length):Cl p (S.up p s p.length):=by
 apply w6
 rw[<-fm]
 exact A_ (f:=fun j=>S.up p s j) (fun j=>by rw[fm];exact iB _ _) (fun j=>qv hp hs j) (fun j e=>by
  have e:S.up p s (j+1)=S.up p s j:=e
  show S.up p s (j+1+1)=S.up p s (j+1)
  rw[fm,e,<-fm,e])
theorem m7 {s:Nat}:∀j,Sub s (S.up p s j)
 | 0=>fun _ h=>h
 | j+1=>fun v hv=>by rw[fm];exact iB _ _ v (m7 j v hv)
end
end Hx
end
section
namespace Hx
open Go
noncomputable section
def Raw (w:AV):Prop:=w=.nils\/∃rows,w=.tsl 0 1 rows
theorem vY (z:AV)(k k':IntKind)(x y:Int)(g:G):wC 1 2 [z] [0,1] [.int k x,.int k' y] g=.upd (.hsl g.nx 0 0 2 none) (g.new (.cells 1 [[.int k x],[.int k' y]] 0 false false)):=rfl
theorem p_ (z:AV)(k k' k2:IntKind)(x y w:Int)(g:G):wC 1 3 [z] [0,1,2] [.int k x,.int k' y,.int k2 w] g=.upd (.hsl g.nx 0 0 3 none) (g.new (.cells 1 [[.int k x],[.int k' y],[.int k2 w]] 0 false false)):=rfl
theorem uh {g:G}{b sz:Nat}{u:AV}{rows:List (List AV)}(hu:Own g b u sz rows){n:Nat}(hn:n<=rows.length) :
  ∃y,sS sz u none (some (.int .i64 (n:Int))) g=.val y/\au g.h sz y=some (rows.take n):=by
 rcases hu with ⟨rfl,rfl⟩ | ⟨id,ep,lo,h1,h2,rfl,h3⟩
 ·have:n=0:=by simpa using hn
  subst this
  exact ⟨.nils,rfl,rfl⟩
 ·simp only[sS,ia,h3,Nat.beq_refl,Nat.beq_refl,Bool.true_and,ak,Nat.zero_add,aa,Nat.ble_eq,Nat.le_refl,if_true,aM,Option.getD_none,Nat.sub_zero]
  simp only[dV]
  rw[show af (n.ble rows.length) (some n) none=some n from by rw[aa,if_pos (by simpa using hn)]]
  dsimp only
  by_cases h0:rows=[]
  ·subst h0
   have:n=0:=by simpa using hn
   subst this
   cases lo
   ·exact ⟨_,rfl,rfl⟩
   ·exact ⟨_,rfl,ic _ _ _ _⟩
  ·have hb:rows.length.beq 0=false:=by cases rows with | nil=>exact absurd rfl h0 | cons a l=>rfl
   rw[hb]
   refine ⟨_,rfl,?_⟩
   rw[fU,h3,dk,if_pos (by omega),List.drop_zero]
theorem uu {g:G}{b sz:Nat}{u:AV}{rows:List (List AV)}(hu:Own g b u sz rows){n:Nat}(hn:n<=rows.length) :
  ∃y,sS sz u (some (.int .i64 (n:Int))) none g=.val y/\au g.h sz y=some (rows.drop n):=by
 rcases hu with ⟨rfl,rfl⟩ | ⟨id,ep,lo,h1,h2,rfl,h3⟩
 ·have:n=0:=by simpa using hn
  subst this
  exact ⟨.nils,rfl,rfl⟩
 ·simp only[sS,ia,h3,Nat.beq_refl,Nat.beq_refl,Bool.true_and,ak,Nat.zero_add,aa,Nat.ble_eq,Nat.le_refl,if_true,aM,Option.getD_none,Nat.sub_zero]
  simp only[dV]
  rw[show af (n.ble rows.length) (some n) none=some n from by rw[aa,if_pos (by simpa using hn)]]
  dsimp only
  by_cases h0:rows.length=n
  ·subst h0
   rw[if_pos (Nat.beq_refl _),List.drop_length]
   cases lo
   ·exact ⟨_,rfl,rfl⟩
   ·exact ⟨_,rfl,ic _ _ _ _⟩
  ·rw[if_neg (fun e=>h0 (Nat.eq_of_beq_eq_true e))]
   refine ⟨_,rfl,?_⟩
   rw[fU,h3,dk,if_pos (by omega),List.take_of_length_le (by simp)]
def S.aD (os:List UInt8)(k:Nat):Nat:=if k<os.length then ((os[k]?.map UInt8.toNat).getD 0) % (k+1) else 0
def S.an (os:List UInt8):Nat->List Int
 | 0=>[]
 | k+1=>(S.an os k).take (S.aD os k)++(k:Int)::(S.an os k).drop (S.aD os k)
theorem ja (os:List UInt8):∀k,(S.an os k).length=k
 | 0=>rfl
 | k+1=>by simp only[S.an,List.length_append,List.length_cons,List.length_take,List.length_drop,ja os k];omega
def S.aR (cards:List Int):List Int->Nat->List Int×Bool
 | vals,0=>(vals,false)
 | vals,k+1=>if (vals[k]?.getD 0)+1<(cards[k]?.getD 0) then (vals.set k ((vals[k]?.getD 0)+1),true) else S.aR cards (vals.set k 0) k
def S.aU (cards vals:List Int):List Int×Bool:=S.aR cards vals vals.length
def S.aS (cards:List Int):Nat->List Int->List (List Int)
 | 0,_=>[]
 | f+1,v=>v::(if (S.aU cards v).2 then S.aS cards f (S.aU cards v).1 else [])
def S.bo (cards:List Int):List (List Int):=S.aS cards (S.ax cards).toNat (List.replicate cards.length 0)
def S.aL:List Int->List Int->Int
 | _::cs,v::vs=>v*S.ax cs+S.aL cs vs
 | _,_=>0
end
end Hx
end
section
namespace Hx
open Go
def S.a7 (x:Mech)(roots:List Int)(V:Nat->Int):List Int:=(x.frm.map fun q=>V q.toNat)++(x.noise.map fun r=>roots[r.toNat]?.getD 0)
def S.bb (m:Causal)(roots act:List Int)(V:Nat->Int)(i:Nat)(x:Mech):Int:=if 0<=act[i]?.getD 0 then act[i]?.getD 0 else x.out[(S.aL (S.bc m x) (S.a7 x roots V)).toNat]?.getD 0
def Sol (m:Causal)(roots act:List Int)(V:Nat->Int):Prop:=∀(i:Nat) (x:Mech),m.nodes[i]?=some x->V i=S.bb m roots act V i x
noncomputable def S.V (m:Causal)(roots act:List Int):Nat->Int:=Classical.epsilon (Sol m roots act)
noncomputable def S.bp (m:Causal)(roots act:List Int):List Int:=(List.range m.nodes.length).map (S.V m roots act)
end Hx
end
section
namespace Hx
open Go
noncomputable section
def hz (cs vs:List Int)(j:Nat):Int:=((cs.zip vs).take j).foldl (fun a p=>a*p.1+p.2) 0
section
variable {d k:Nat}{m:Causal}{roots act:List Int}{V:Nat->Int}{a b w u:AV}{p1 p2 p3 p4 iu:Nat}{hid:Int}{r:Nat->Nat}
end
end
end Hx
end
section
namespace Hx
open Go
noncomputable section
theorem xu (ag:Bool)(n l sz off:Nat)(row:List AV)(g:G):gW ag n (.tptr l sz [row] 0 off) g=orV (ba ag n row off):=rfl
section
variable {d:Nat}{m:Causal}{a b:AV}
end
end
end Hx
end
section
namespace Hx
open Go
noncomputable section
theorem mg {C:Cfg}{d:Nat}{r:List SR}{t:T}{g:G}{K:AV->G->Prop}{id:Nat}(hg:g.h.get id=.dfr true)(h:lB r t (g.put id (.dfr false)) fun vs=>K (dv vs) (g.put id (.dfr false))):kH C d r t [.mark id] g K:=by
 unfold kH
 have:cw (I C) d [.mark id] g=some (g.put id (.dfr false)):=by
  simp only[cw,G.get_eq,hg]
 rw[this];exact h
def Fam (g:G)(b K:Nat)(V:Nat->AV)(W:Nat->List (List AV)):Prop :=
 (∀k,k<K->Own g b (V k) 1 (W k))/\∀k l,k<K->l<K->k≠l->∀id,vid (V k)=some id->vid (V l)≠some id
def Ci (c:Nat->Int)(V:Nat->AV)(i:Nat):List AV:=[.int .i64 (c i),V (3*i+1),V (3*i+2),V (3*i+3)]
def xD (n:Nat)(c:Nat->Int)(V:Nat->AV):List (List AV):=(List.range n).map (Ci c V)
structure ME where
 (n p4 q i5 p7 i9 b:Nat)
 (nv w5 w9 e7:AV)
 (gr:Int)
 (row0:List AV)
 (prow:List (List AV))
 (us:List UInt8)
structure ME.Ok (e:ME):Prop where
 ord:1<e.q/\e.q<e.p4/\e.p4<e.i5/\e.i5<e.p7/\e.p7<e.i9/\e.i9<e.b
 n1:1<=e.n/\e.n<=4
 g1:2<=e.gr/\e.gr<=12
 vn:vid e.nv=some e.q
 v5:vid e.w5=some e.i5
 v9:vid e.w9=some e.i9
 l7:SlR NoP 0 .nil e.us e.e7
structure MI (e:ME) (g:G) (V:Nat->AV) (W:Nat->List (List AV)) (c:Nat->Int) (ow:List Bool) (cap:Nat):Prop where
 h0:g.h.get 0=.cells 5 [e.row0] 0 false false
 h1:g.h.get 1=.cells 3 [[.int .i64 0,.nils,.nils]] 0 false false
 hN:Own g 0 e.nv 4 (xD e.n c V)
 h4:g.h.get e.p4=.cells 3 [[.int .i64 e.gr,V 0,e.nv]] 0 false false
 h5:Own g 0 e.w5 4 e.prow
 h7:∃cc:Int,0<=cc/\cc<=(cap:Int)/\g.h.get e.p7=.cells 2 [[e.e7,.int .i64 cc]] 0 false false
 h9:Own g 0 e.w9 1 (ow.map fun x=>[.bool x])
 fam:Fam g e.b (3*e.n+1) V W
 nx:e.b<=g.nx
section
variable {e:ME}{g g':G}{V:Nat->AV}{W:Nat->List (List AV)}{c:Nat->Int}{ow:List Bool}{cap:Nat}
structure MP (e:ME) (g:G) (V V':Nat->AV) (W:Nat->List (List AV)) (c:Nat->Int) (ow:List Bool) (cap:Nat):Prop where
 h0:g.h.get 0=.cells 5 [e.row0] 0 false false
 h1:g.h.get 1=.cells 3 [[.int .i64 0,.nils,.nils]] 0 false false
 hN:Own g 0 e.nv 4 (xD e.n c V)
 h4:g.h.get e.p4=.cells 3 [[.int .i64 e.gr,V 0,e.nv]] 0 false false
 h5:Own g 0 e.w5 4 e.prow
 h7:∃cc:Int,0<=cc/\cc<=(cap:Int)/\g.h.get e.p7=.cells 2 [[e.e7,.int .i64 cc]] 0 false false
 h9:Own g 0 e.w9 1 (ow.map fun x=>[.bool x])
 fam:Fam g e.b (3*e.n+1) V' W
 nx:e.b<=g.nx
end
end
end Hx
end
section
namespace Hx
open Go
noncomputable section
structure MD (e:ME) (W:Nat->List (List AV)) (R:List (List Int)) (F N O:Nat->List Int):Prop where
 r:All2 (Rp.rp NoP 0 .nil) R (W 0)
 f:∀i,i<e.n->W (3*i+1)=(F i).map ci
 n:∀i,i<e.n->W (3*i+2)=(N i).map ci
 o:∀i,i<e.n->W (3*i+3)=(O i).map ci
theorem SlR.wide {α:Type} [Rp α]{P:Nat->Prop}{k k':Nat}{h h':H}{l:List α}{v:AV}(r:SlR NoP k h l v)(hk:k<=k'):SlR P k' h' l v:=by
 obtain ⟨w,hw,q⟩:=Rp.tree (P:=P) (k':=k') (h':=h') (show Rp.rp NoP k h l [v] from ⟨v,rfl,r⟩) hk
 injection hw with hw;subst hw;exact q
structure M0 (n p4 q i5 p7:Nat) (nv w5 cl:AV) (row0:List AV) (prow:List (List AV)) (gr:Int) (g:G) (cf:Nat->Int):Prop where
 h0:g.h.get 0=.cells 5 [row0] 0 false false
 h1:g.h.get 1=.cells 3 [[.int .i64 0,.nils,.nils]] 0 false false
 hN:Own g 2 nv 4 (xD n cf fun _=>.nils)
 h4:g.h.get p4=.cells 3 [[.int .i64 gr,.nils,nv]] 0 false false
 h5:Own g 2 w5 4 prow
 h7:g.h.get p7=.cells 2 [[cl,.int .i64 0]] 0 false false
 nx:p7<g.nx
section
variable {n p4 q i5 p7:Nat}{nv w5 cl:AV}{row0:List AV}{prow:List (List AV)}{gr:Int}{g g':G}{cf cf':Nat->Int}
end
end
end Hx
end
section
namespace Hx
open Go
noncomputable section
def eid:AV->Option Nat
 | .hsl id _ _ _ _=>some id
 | .hptr id _ _ _=>some id
 | _=>none
def Bx (g:G)(b:Nat)(v:AV)(row:List AV):Prop:=∃id,b<=id/\id<g.nx/\v=.hptr id 0 0 0/\g.h.get id=.cells row.length [row] 0 false false
inductive En where
 | sl (sz:Nat) (rows:List (List AV))
 | bx (row:List AV)
def En.ok (g:G)(b:Nat)(v:AV):En->Prop
 | .sl sz rows=>Own g b v sz rows
 | .bx row=>Bx g b v row
section
variable {κ:Type}
structure Hp (g:G) (b:Nat) (L:κ->Prop) (V:κ->AV) (E:κ->En):Prop where
 ok:∀k,L k->(E k).ok g b (V k)
 sep:∀k l,L k->L l->k≠l->∀id,eid (V k)=some id->eid (V l)≠some id
 nx:b<=g.nx
variable {g g':G}{b:Nat}{L L':κ->Prop}{V:κ->AV}{E:κ->En}{k:κ}
end
section
variable {κ:Type} [DecidableEq κ]
variable {g g':G}{b:Nat}{L L':κ->Prop}{V:κ->AV}{E:κ->En}{k:κ}
end
end
end Hx
end
section
namespace Hx
open Go
noncomputable section
theorem gD {C:Cfg}{d:Nat}{rd:Option Nat}{l:List SI}{b:SC}{Q:QT}{t:T}{df:List ADf}{g:G}{P:PT}(h1:wpO C d rd l P t df g)(h2:∀t df g,P t df g->wp C d rd b Q t df g):wp C d rd (.seq (.ops l) b) Q t df g:=by
 rw[nZ]
 have:wp C d rd (.ops l) (fun e t df g=>e=.norm/\P t df g) t df g:=by rw[qZ];simpa using h1
 refine dx _ this ?_
 rintro e t df g ⟨rfl,h⟩
 exact h2 t df g h
structure Bnd (K:Nat) (m:Causal):Prop where
 r:m.roots.length<=K
 rr:∀x∈m.roots,x.length<=K
 n:m.nodes.length<=K
 f:∀x∈m.nodes,x.frm.length<=K/\x.noise.length<=K/\x.out.length<=K
abbrev Ky:Type:=Nat×Nat
structure BD (K R n:Nat) (V:Ky->AV) (E:Ky->En) (Rt:Nat->List Int) (c:Nat->Int) (F:Nat->Nat->List Int):Prop where
 r:∀i,i<R->E (0,i)=.sl 1 ((Rt i).map ci)/\(Rt i).length<=K
 f:∀q i,1<=q->q<=3->i<n->E (q,i)=.sl 1 ((F q i).map ci)/\(F q i).length<=K
 rs:E (4,0)=.sl 1 ((List.range R).map fun i=>[V (0,i)])
 ns:E (4,1)=.sl 4 ((List.range n).map fun i=>[.int .i64 (c i),V (1,i),V (2,i),V (3,i)])
structure TI (g:G) (q:Nat) (m:Causal) (k1 k2 act u1 u2 u3:AV) (A B W:List Int):Prop where
 a1:g.h.get 1=.cells 1 [[act]] 0 false false
 a2:g.h.get 2=.cells 3 [[.nils,.nils,.nils]] 0 false false
 a4:g.h.get 4=.cells 4 [[.int .i64 m.grain,k1,k2,.int .i64 (S.a_ m)]] 0 false false
 bq:g.h.get q=.cells 3 [[u1,u2,u3]] 0 false false
 o1:Own g 5 u1 1 (A.map ci)
 o2:Own g 5 u2 1 (B.map ci)
 o3:Own g 5 u3 1 (W.map ci)
 q5:5<=q/\q<g.nx
 n1:∀i,vid u1=some i->i≠q/\vid u2≠some i/\vid u3≠some i
 n2:∀i,vid u2=some i->i≠q/\vid u3≠some i
 n3:∀i,vid u3=some i->i≠q
section
variable {g g':G}{q:Nat}{m:Causal}{k1 k2 act u1 u2 u3:AV}{A B W:List Int}
end
end
end Hx
end
section
namespace Hx
open Go
noncomputable section
theorem qD {C:Cfg}{d:Nat}{rd:Option Nat}{a b:SC}{Q:QT}{t:T}{df:List ADf}{g:G}{P:PT}(h1:wp C d rd a (fun e t df g=>e=.norm/\P t df g) t df g)(h2:∀t df g,P t df g->wp C d rd b Q t df g):wp C d rd (.seq a b) Q t df g:=by
 rw[nZ]
 refine dx _ h1 ?_
 rintro e t df g ⟨rfl,h⟩
 exact h2 t df g h
def S.br (s a:List Int):List Int:=(List.range s.length).map fun i=>if a[i]?.getD 0<0 then -1 else s[i]?.getD 0
theorem v6 {α:Type}{C:α->Prop}{S:α->VS}{j:Nat}(h:∀a,Snb (S a) j):Snb (fun P k h v=>∃a,C a/\S a P k h v) j :=
 ⟨fun {P k hh v n} d r hn=>by
  obtain ⟨a,c,r⟩:=r
  obtain ⟨v',e,r'⟩:=(h a).snap d r hn
  exact ⟨v',e,a,c,r'⟩,fun {k hh v n} r hn=>by
  obtain ⟨a,c,r⟩:=r
  exact (h a).tag r hn⟩
theorem lX:∀{A L:List Nat},A.Nodup->(∀v∈A,v∈L)->A.length<=L.length
 | [],_,_,_=>Nat.zero_le _
 | a::A,L,hA,h=>by
  rw[List.nodup_cons] at hA
  have ha:=h a (by simp)
  have:=lX (A:=A) (L:=L.erase a) hA.2 fun v hv=>(List.mem_erase_of_ne (fun e=>hA.1 (by rw[<-e];exact hv))).2 (h v (by simp[hv]))
  rw[List.length_erase_of_mem ha] at this
  have:=List.length_pos_of_mem ha
  simp only[List.length_cons]
  omega
def Ord (p:List Nat)(L:List Nat):Prop:=(∀v,v<p.length->v∈L)/\∀(i v:Nat),L[i]?=some v->v<p.length/\∀q,(Par p v).testBit q=true->q∈L.take i
def tV (p:List Nat)(L:List Nat):Prop:=L.Nodup/\∀(i v:Nat),L[i]?=some v->v<p.length/\∀q,(Par p v).testBit q=true->q∈L.take i
theorem wN {p L:List Nat}(h:tV p L){v:Nat}(hv:v ∉ L)(hl:v<p.length)(hp:∀q,(Par p v).testBit q=true->q∈L):tV p (L++[v]):=by
 refine ⟨?_,fun i u hu=>?_⟩
 ·rw[List.nodup_append]
  exact ⟨h.1,by simp,fun a ha b hb=>by simp at hb;subst hb;exact fun e=>hv (e ▸ ha)⟩
 ·rcases Nat.lt_or_ge i L.length with hi | hi
  ·rw[List.getElem?_append_left hi] at hu
   obtain ⟨h1,h2⟩:=h.2 i u hu
   exact ⟨h1,fun q hq=>by rw[List.take_append_of_le_length (by omega)];exact h2 q hq⟩
  ·rw[List.getElem?_append_right hi] at hu
   have:i=L.length:=by
    have:=(List.getElem?_eq_some_iff.1 hu).1;simp at this;omega
   subst this
   simp at hu;subst hu
   exact ⟨hl,fun q hq=>by rw[List.take_left];exact hp q hq⟩
theorem xg {p L:List Nat}(h:tV p L)(hl:p.length<=L.length):Ord p L:=by
 refine ⟨fun v hv=>?_,h.2⟩
 by_cases hm:v∈L
 ·exact hm
 ·have:=lX (A:=v::L) (L:=List.range p.length) (List.nodup_cons.2 ⟨hm,h.1⟩) fun u hu=>by
   rcases List.mem_cons.1 hu with rfl | hu
   ·exact List.mem_range.2 hv
   ·obtain ⟨i,hi,rfl⟩:=List.mem_iff_getElem.1 hu
    exact List.mem_range.2 (h.2 i _ (List.getElem?_eq_getElem hi)).1
  simp at this
  omega
theorem zX {p L:List Nat}(h:tV p L)(hl:L.length<p.length):∃v,v<p.length/\v ∉ L:=by
 by_cases hh:∃v,v<p.length/\v ∉ L
 ·exact hh
 ·exfalso
  have:=lX (A:=List.range p.length) (L:=L) List.nodup_range fun v hv=>by
   by_cases h':v∈L
   ·exact h'
   ·exact absurd ⟨v,List.mem_range.1 hv,h'⟩ hh
  simp at this
  omega
def y3 (D:Nat)(L:List Nat):Prop:=D<18446744073709551616/\∀v,D.testBit v=true↔v∈L
theorem xr {D:Nat}{L:List Nat}(h:y3 D L){v:Nat}(hv:v<64):y3 (D ||| S.aw v) (L++[v]):=by
 refine ⟨vC h.1 (qw v),fun u=>?_⟩
 rw[iT,tQ hv,Bool.or_eq_true,h.2,decide_eq_true_eq,List.mem_append,List.mem_singleton]
 constructor
 ·rintro (h | h)
  ·exact .inl h
  ·exact .inr h.symm
 ·rintro (h | h)
  ·exact .inl h
  ·exact .inr h.symm
theorem mK {C:Cfg}{d:Nat}{rd:Option Nat}{body:SC}{c ti k B b:Nat}{Q:QT}{m:Nat}{lim:Int}(hlim:lim=(m:Int))(hm:m<9223372036854775808)(J:Nat->PT){t:T}{df:List ADf}{g:G}
  (h0:J 0 t df g) (hi:tat t ti=.int .i64 0) (hc:c≠ti/\b≠B)
  (hJ:∀j t df g v s,s=c\/s=ti\/s=k->J j t df g->J j (dO t s v) df g)
  (step:∀j t df g,j<m->J j t df g->tat t ti=.int .i64 (j:Int)->wp C d rd body (kR (fun t df g=>J (j+1) t df g/\tat t ti=.int .i64 (j:Int)) b Q) t df g)
  (fin:∀t df g,J m t df g->Q (.exit B) t df g) :
  wpL (wp C d rd (.seq (.ops [o c (.bin .lss (.t ti) (.k (.int .i64 lim)))]) (.seq (.cond (.t c) .skip (.exit B)) (.seq (.blk b body) (.ops [o k (.bin .add (.t ti) (.k (.int .i64 1))),o ti (.mv (.t k))]))))) Q t df g:=by
 subst hlim
 obtain ⟨c1,c5⟩:=hc
 refine ol (fun n t df g=>∃j:Nat,n=m - j/\j<=m/\J j t df g/\tat t ti=.int .i64 (j:Int)) m ⟨0,by omega,by omega,h0,hi⟩ ?_
 rintro n t df g ⟨j,rfl,hj,hjj,h1⟩
 simp only[sz,simprocAttr,h1]
 refine ⟨fun hq=>?_,fun hq=>?_⟩
 ·have hlt:j<m:=by simpa using hq
  simp only[sx]
  refine dx _ (step j _ df g hlt (hJ _ _ _ _ _ _ (.inl rfl) hjj) (by simp only[i_];rw[if_neg (Ne.symm c1),h1])) fun e t df g h=>?_
  have key:J (j+1) t df g/\tat t ti=.int .i64 (j:Int)->wp C d rd (.ops [o k (.bin .add (.t ti) (.k (.int .i64 1))),o ti (.mv (.t k))])
    (kL (fun n t df g=>∃j:Nat,n=m - j/\j<=m/\J j t df g/\tat t ti=.int .i64 (j:Int)) (m - j) Q) t df g:=by
   rintro ⟨a1,a2⟩
   simp only[sz,simprocAttr,a2]
   refine ⟨_,?_,j+1,rfl,by omega,hJ _ _ _ _ _ _ (.inr (.inl rfl)) (hJ _ _ _ _ _ _ (.inr (.inr rfl)) a1),?_⟩
   ·omega
   ·rw[fd (by omega) (by omega)];rfl
  cases e with
  | norm=>exact key h
  | ret=>exact h
  | exit x =>
   rw[iH] at h
   rw[jA]
   split at h
   ·rename_i e;rw[if_pos e];exact key h
   ·rename_i e;rw[if_neg e];exact h
 ·have:j=m:=by simp at hq;omega
  subst this
  simp only[sx]
  exact fin _ _ _ (hJ _ _ _ _ _ _ (.inl rfl) hjj)
section
variable {m:Causal}{c1 c2 l w c9 v35 ls v48:AV}{al:List Int}{hid kk:Int}{p:Nat}
end
end
end Hx
end
section
namespace Hx
open Go
noncomputable section
def S.aE:List Int->Int
 | []=>0
 | x::l=>x+10000*S.aE l
structure S.tI (bl:List Int) (n i:Nat) (V ai:Int) (k:Nat) (c:Int) (L:List Int):Prop where
 len:L.length=n
 rng:∀x∈L,0<=x/\x<10000
 zer:∀j,i+bl.length<=j->i+k<=j->L[j]?.getD 0=0
 kle:k<=bl.length+1
 c0:0<=c
 c1:c<10000
 ce:k=bl.length+1->c=0
 cs:k=0->c=0
 eq:S.aE L+c*10000 ^ (i+k)=V+ai*10000 ^ i*S.aE (bl.take k)
structure S.tO (al bl:List Int) (i:Nat) (L:List Int):Prop where
 len:L.length=al.length+bl.length
 rng:∀x∈L,0<=x/\x<10000
 zer:∀j,i+bl.length<=j->L[j]?.getD 0=0
 eq:S.aE L=S.aE (al.take i)*S.aE bl
structure S.mI (al bl:List Int) (i:Nat) (r:Int) (L:List Int):Prop where
 len:L.length=i
 rng:∀x∈L,0<=x/\x<10000
 r01:r=0\/r=1
 eq:S.aE L=S.aE (al.take i) - S.aE (bl.take i)+r*10000 ^ i
structure S.qI (x b n:Nat) (i:Nat) (L:List Int):Prop where
 len:L.length=n
 rng:∀z∈L,0<=z/\z<10000
 eq:S.aE (L.drop i)=((x / 10000 ^ i / b:Nat):Int)
theorem SlR.wd {α:Type} [Rp α]{P P':Nat->Prop}{k:Nat}{h h':H}{l:List α}{v:AV}(r:SlR P k h l v)(hf:∀i,P i->P' i/\h'.get i=h.get i):SlR P' k h' l v:=by
 obtain ⟨w,hw,q⟩:=Rp.mono (k':=k) (P':=P') (h':=h') (show Rp.rp P k h l [v] from ⟨v,rfl,r⟩) hf (Nat.le_refl _)
 injection hw with hw;subst hw;exact q
structure HS (m:Causal) (c1 c2 la lb lc:AV) (p q:Nat) (gb g:G):Prop where
 fr:Fr gb g
 mp:g.h.get p=.cells 3 [[.int .i64 m.grain,c1,c2]] 0 false false
 ml:g.h.get q=.cells 3 [[la,lb,lc]] 0 false false
 pn:p<gb.nx
 q0:gb.nx<=q
 qn:q<g.nx
section
variable {m:Causal}{c1 c2 la lb lc w c28 vi c90 vj:AV}{A B Z:List Int}{p q:Nat}
end
end
end Hx
end
end
