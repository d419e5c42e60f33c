/- A part of the proof: an interpreter over abstract values, shown right against the model, and what the functions of the chapter compute on it. -/
import Derived.Shelf.Lays2
import Derived.Test.YtfpjoiojhegfaaaDoorRows
import Derived.Shelf.Spec.SlicesInsertGrow
import Derived.KernelRfl
import Derived.Test.YtfpjoiojhegfaaaDoorHx7
set_option linter.unusedVariables false
set_option linter.unusedSimpArgs false
set_option linter.unnecessarySimpa false
section
namespace Go.Proofs
open Go.Shelf
def Tryd.lays21_ren:Go.Shelf.Ren:=⟨fun | 21=>102 | 27=>106 | 28=>107 | 35=>109 | 39=>110 | n=>n,fun | 22=>71 | 3=>3 | 4=>4 | 0=>0 | n=>n,fun | n=>n⟩
theorem Tryd.lays21:Go.Proofs.Lays2.n21 Tryd.prog Tryd.lays21_ren:={
 mixed:=by kernel_rfl
 f21:=Tryd.func102.trans (congrArg some (by kernel_rfl))
 f27:=Tryd.func106.trans (congrArg some (by kernel_rfl))
 f28:=Tryd.func107.trans (congrArg some (by kernel_rfl))
 f35:=Tryd.func109.trans (congrArg some (by kernel_rfl))
 f39:=Tryd.func110.trans (congrArg some (by kernel_rfl))
 t0:=Tryd.underlying0
 a0:=Tryd.isAgg0
 z0:=Tryd.sizeOf0
 v0:=Tryd.zeroValue0
 t3:=Tryd.underlying3
 a3:=Tryd.isAgg3
 z3:=Tryd.sizeOf3
 v3:=Tryd.zeroValue3
 t4:=Tryd.underlying4
 a4:=Tryd.isAgg4
 z4:=Tryd.sizeOf4
 v4:=Tryd.zeroValue4
 t22:=Tryd.underlying71
 a22:=Tryd.isAgg71
 z22:=Tryd.sizeOf71
 v22:=Tryd.zeroValue71
 i3:=by kernel_rfl }
end Go.Proofs
end
section
namespace Hx
open Go Go.Proofs Go.Shelf
theorem iE {w:World}{o:Obj}:(Go.World.alloc w o).heap=w.heap.push o:=rfl
theorem gO {w:World}:(Go.World.drew w).heap=w.heap:=rfl
theorem gE {b:Nat}{e:TypeId}{f:Nat×Nat}:∀(vs:List Value) (o:Nat) (w:World) (c:Array Value),w.heap[b]?=some (.cells c e f) ->
  Go.World.setCells w b o vs=World.setBlk w b (.cells (aT c o vs) e f):=by
 intro vs
 induction vs with
 | nil =>
  intro o w c h
  have hb:b<w.heap.size:=by
   rcases Nat.lt_or_ge b w.heap.size with hl | hl
   ·exact hl
   ·rw[Array.getElem?_eq_none hl] at h;cases h
  have hx:w.heap[b]=.cells c e f:=by simpa [Array.getElem?_eq_getElem hb] using h
  show w=_
  simp only[World.setBlk,aT]
  have:w.heap.setIfInBounds b (.cells c e f)=w.heap:=by
   apply Array.ext_getElem?
   intro k
   rw[Array.getElem?_setIfInBounds]
   by_cases hk:b=k
   ·subst hk;simp[hb,hx]
   ·rw[if_neg hk]
  rw[this]
 | cons v vs ih =>
  intro o w c h
  have hb:b<w.heap.size:=by
   rcases Nat.lt_or_ge b w.heap.size with hl | hl
   ·exact hl
   ·rw[Array.getElem?_eq_none hl] at h;cases h
  show Go.World.setCells (w.setCell (adr b o) v) b (o+1) vs=_
  rw[u_ h,ih (o+1) _ (c.setIfInBounds o v) (by rw[aP];simp[hb]),lM]
  rfl
section
variable {P:Program}{ρ:Ren}
theorem fy {α:Type}{cs vs:List α}{i n m k:Nat}(hcl:cs.length=n)(hvl:vs.length=m)(hi:i<=n) :
  (cs.take i++(vs++cs.drop i))[k]?=if k<i then cs[k]? else if k<i+m then vs[k - i]? else cs[k - m]?:=by
 have hti:(cs.take i).length=i:=by rw[List.length_take];omega
 by_cases h1:k<i
 ·rw[if_pos h1,List.getElem?_append_left (by omega),List.getElem?_take_of_lt h1]
 ·rw[if_neg h1,List.getElem?_append_right (by omega),hti]
  by_cases h2:k<i+m
  ·rw[if_pos h2,List.getElem?_append_left (by omega)]
  ·rw[if_neg h2,List.getElem?_append_right (by omega),List.getElem?_drop,hvl]
   congr 1;omega
def Ins (P:Program)(f:FuncId)(args:Array Value)(w:World)(b n m:Nat)(rowV:List Value):Prop :=
 ∃b' o' cap' c' e' w',Calls P f args w (fun x y=>x=.returned (.slice (some (adr b' o')) (n+m) cap')/\y=w')/\n+m<=cap'/\cap'<=9223372036854775807 /\
  (w'.os=w.os/\w'.tape=w.tape/\w'.output=w.output/\w.heap.size<=w'.heap.size)/\(b'=b\/(b'=w.heap.size/\w.heap.size<w'.heap.size)) /\
  (∀k,k<w.heap.size->k≠b->w'.heap[k]?=w.heap[k]?)/\w'.heap[b']?=some (.cells c' e' (0,0))/\o'+cap'<=c'.size /\
  ∀k,k<n+m->c'[o'+k]?=rowV[k]?
theorem Bh (L:Lays2.n21 P ρ){w:World}{b off n c i vb voff m vc:Nat}{cc cv:Array Value}{e e2:TypeId}{cs vs:List Value}
  (hb:w.heap[b]?=some (.cells cc e (0,0))) (hv:w.heap[vb]?=some (.cells cv e2 (0,0))) (hne:vb≠b) (hin:i<=n) (hm:0<m) (hnc:n<=c)
  (hc63:c<=9223372036854775807) (hbig:(n+m)*8<=140737488355328) (hcc:off+c<=cc.size) (hcv:voff+m<=cv.size) (hn0:0<c)
  (hcl:cs.length=n) (hvl:vs.length=m) (hcs:∀j,j<n->cs[j]?=cc[off+j]?) (hvs:∀j,j<m->vs[j]?=cv[voff+j]?)
  (h1c:∀v∈cs,v.oneCell'=true) (h1v:∀v∈vs,v.oneCell'=true) :
  Ins P (ρ.f 21) #[.slice (some (adr b off)) n c,.int .i64 i,.slice (some (adr vb voff)) m vc] w b n m (cs.take i++(vs++cs.drop i)):=by
 have hbw:b<w.heap.size:=by
  rcases Nat.lt_or_ge b w.heap.size with hl | hl
  ·exact hl
  ·rw[Array.getElem?_eq_none hl] at hb;cases hb
 have hcs':∀j v,cs[j]?=some v->w.cell? (adr b (off+j))=some v:=fun j v hj=>by
  rw[mo hb,<-hcs j (by rw[<-hcl];exact (List.getElem?_eq_some_iff.1 hj).1)];exact hj
 have hvs':∀j v,vs[j]?=some v->w.cell? (adr vb (voff+j))=some v:=fun j v hj=>by
  rw[mo hv,<-hvs j (by rw[<-hvl];exact (List.getElem?_eq_some_iff.1 hj).1)];exact hj
 have hsp:∀j,j<c->(w.cell? (adr b (off+j))).isSome=true:=fun j hj=>by
  rw[mo hb,Array.getElem?_eq_getElem (by omega)];rfl
 have hfz:∀j,w.frozen? (adr b j)=false:=fun j=>by simp[World.frozen?,adr,hb]
 have hfv:∀j,w.frozen? (adr vb j)=false:=fun j=>by simp[World.frozen?,adr,hv]
 have hdl:(cs.drop i).length=n - i:=by rw[List.length_drop,hcl]
 have htl:(cs.take i).length=i:=by rw[List.length_take];omega
 by_cases hroom:n+m<=c
 ·by_cases hlt:i<n
  ·
   have h:=Any2.slices_Insert_int_shift L b off n c i vb voff m vc cs vs w hlt hm hroom hc63 hne hcl hvl hcs' (fun j hj=>hsp j (by omega)) (fun j _=>hfz _) hvs' h1c h1v
    e2 e cv.size cc.size (by simp[World.shape?,hv]) (by simp[World.shape?,hb]) (by omega) (hfv _) (hfv _)
   have hb':w.drew.heap[b]?=some (.cells cc e (0,0)):=hb
   rw[gE (cs.drop i) (off+(i+m)) w.drew cc hb'] at h
   rw[gE vs (off+i) (World.setBlk w.drew b _) _ (by rw[aP,if_pos ⟨rfl,hbw⟩]),lM] at h
   refine ⟨b,off,c,_,e,_,h,hroom,hc63,⟨rfl,rfl,rfl,by simp[gO]⟩,.inl rfl,fun k _ hk=>?_,by rw[aP,if_pos ⟨rfl,hbw⟩],by simp[bz];omega,fun k hk=>?_⟩
   ·rw[aP,if_neg (fun h=>hk h.1)];rfl
   ·rw[fy hcl hvl hin,bK _ _ _ _ (by rw[bz];omega),bK _ _ _ _ (by omega),hdl,hvl]
    by_cases h1:k<i
    ·rw[if_neg (by omega),if_neg (by omega),if_pos h1,hcs k (by omega)]
    ·rw[if_neg h1]
     by_cases h2:k<i+m
     ·rw[if_pos (by omega),if_pos h2];congr 1;omega
     ·rw[if_neg (by omega),if_pos (by omega),if_neg h2,List.getElem?_drop];congr 1;omega
  ·
   have hi:i=n:=by omega
   subst hi
   have h:=Any2.slices_Insert_int_end_room L b off i c vb voff m vc vs w hm hroom hc63 hvl (fun j hj=>by rw[Nat.add_assoc];exact hsp _ (by omega)) (fun j _=>hfz _) hvs' h1v
   rw[gE vs (off+i) w cc hb] at h
   refine ⟨b,off,c,_,e,_,h,hroom,hc63,⟨rfl,rfl,rfl,by simp⟩,.inl rfl,fun k _ hk=>?_,by rw[aP,if_pos ⟨rfl,hbw⟩],by simp[bz];omega,fun k hk=>?_⟩
   ·rw[aP,if_neg (fun h=>hk h.1)]
   ·rw[fy hcl hvl hin,bK _ _ _ _ (by omega),hvl]
    by_cases h1:k<i
    ·rw[if_neg (by omega),if_pos h1,hcs k (by omega)]
    ·rw[if_pos (by omega),if_neg h1,if_pos (by omega)];congr 1;omega
 ·have hgc:=grownCap_ge w (n+m) c (ρ.t 3)
  have hgm:grownCap w (n+m) c (ρ.t 3)<=9223372036854775807:=by
   have:=grownCap_le_maxLen w (n+m) c (ρ.t 3) (by unfold maxLen;omega)
   unfold maxLen at this;omega
  by_cases hlt:i<n
  ·
   have h:=Any2.slices_Insert_int_grow L b off n c i vb voff m vc cs vs w hlt hm hnc (by omega) hbig hcl hvl hcs' hvs' h1c h1v
   obtain ⟨G,hG⟩:∃G,G=grownCap w (n+m) c (ρ.t 3):=⟨_,rfl⟩
   rw[<-hG] at h hgc hgm
   obtain ⟨ROW,hROW⟩:∃ROW:Array Value,ROW=(cs.take i).toArray++Builtin.zeroCells (Value.int .i64 0).cells (n+m - i)++Builtin.zeroCells (Value.int .i64 0).cells (G - (n+m)):=⟨_,rfl⟩
   rw[<-hROW] at h
   have hsz:ROW.size=G:=by rw[hROW];simp[Builtin.zeroCells,Value.cells];omega
   have hpre:∀k,k<i->ROW[k]?=cs[k]?:=fun k hk=>by
    rw[hROW,Array.append_assoc,Array.getElem?_append_left (by simp;omega)]
    simp[List.getElem?_take,hk]
   have h0:(w.alloc (.cells ROW (ρ.t 3))).drew.heap[w.heap.size]?=some (.cells ROW (ρ.t 3) (0,0)):=by simp[iE,gO]
   rw[gE vs i _ ROW h0] at h
   rw[gE (cs.drop i) (i+m) _ (aT ROW i vs) (e:=ρ.t 3) (f:=(0,0)) (by
    show (World.setBlk _ _ _).heap[_]?=_
    rw[aP,if_pos ⟨rfl,by simp[iE,gO]⟩])] at h
   refine ⟨w.heap.size,0,G,aT (aT ROW i vs) (i+m) (cs.drop i),ρ.t 3,_,h,hgc,hgm,⟨rfl,rfl,rfl,by simp[iE,gO]⟩,.inr ⟨rfl,by simp[iE,gO]⟩,fun k hk _=>?_,?_,by simp[bz,hsz],fun k hk=>?_⟩
   ·rw[aP,if_neg (by omega)]
    show (World.setBlk _ _ _).heap[_]?=_
    rw[aP,if_neg (by omega)]
    simp[iE,gO,Array.getElem?_push,show k≠w.heap.size from by omega]
   ·rw[aP,if_pos ⟨rfl,by simp[iE,gO]⟩]
   ·rw[fy hcl hvl hin,Nat.zero_add,bK _ _ _ _ (by rw[bz];omega),bK _ _ _ _ (by omega),hdl,hvl]
    by_cases h1:k<i
    ·rw[if_neg (by omega),if_neg (by omega),if_pos h1,hpre k h1]
    ·rw[if_neg h1]
     by_cases h2:k<i+m
     ·rw[if_neg (by omega),if_pos (by omega),if_pos h2]
     ·rw[if_pos (by omega),if_neg h2,List.getElem?_drop];congr 1;omega
  ·have hi:i=n:=by omega
   subst hi
   have h:=Any2.slices_Insert_int_end_grow L (some (adr b off)) i c vb voff m vc cs vs w hm hnc (by omega) hbig hcl hvl (fun h=>by cases h)
    (fun a ha j v hj=>by injection ha with ha;subst ha;rw[eP];exact hcs' j v hj) hvs' h1v
   obtain ⟨G,hG⟩:∃G,G=grownCap w (i+m) c (ρ.t 3):=⟨_,rfl⟩
   rw[<-hG] at h hgc hgm
   refine ⟨w.heap.size,0,G,_,ρ.t 3,_,h,hgc,hgm,⟨rfl,rfl,rfl,by simp[iE,gO]⟩,.inr ⟨rfl,by simp[iE,gO]⟩,fun k hk _=>?_,by simp[iE,gO];rfl,?_,fun k hk=>?_⟩
   ·simp[iE,gO,Array.getElem?_push,show k≠w.heap.size from by omega]
   ·simp[Builtin.zeroCells,Value.cells];omega
   ·rw[Nat.zero_add,Array.getElem?_append_left (by simp;omega)]
    have:cs.take i++(vs++cs.drop i)=cs++vs:=by rw[<-hcl,List.take_length,List.drop_length,List.append_nil]
    rw[this];simp
theorem Az (L:Lays2.n21 P ρ){w:World}{base:Option Addr}{vb voff m vc:Nat}{vs:List Value}(hm:0<m)(hbig:m*8<=140737488355328)(hvl:vs.length=m)
  (hvs:∀j v,vs[j]?=some v->w.cell? (adr vb (voff+j))=some v) (h1v:∀v∈vs,v.oneCell'=true) :
  ∃cap rest,m<=cap/\cap<=9223372036854775807/\rest.size=cap - m /\
  Calls P (ρ.f 21) #[.slice base 0 0,.int .i64 0,.slice (some (adr vb voff)) m vc] w (fun x y=>x=.returned (.slice (some (adr w.heap.size 0)) m cap)/\y=World.add (World.drewn w) (.cells (vs.toArray++rest) (ρ.t 3) (0,0))):=by
 have hgc:=grownCap_ge w (0+m) 0 (ρ.t 3)
 have hgm:grownCap w (0+m) 0 (ρ.t 3)<=9223372036854775807:=by
  have:=grownCap_le_maxLen w (0+m) 0 (ρ.t 3) (by unfold maxLen;omega)
  unfold maxLen at this;omega
 have h:=Any2.slices_Insert_int_end_grow L base 0 0 vb voff m vc [] vs w hm (Nat.le_refl _) (by omega) (by omega) rfl hvl (fun _=>rfl)
  (fun a ha j v hj=>by simp at hj) hvs h1v
 obtain ⟨G,hG⟩:∃G,G=grownCap w (0+m) 0 (ρ.t 3):=⟨_,rfl⟩
 rw[<-hG] at h hgc hgm
 rw[Nat.zero_add] at h hgc
 exact ⟨G,Builtin.zeroCells (Value.int .i64 0).cells (G - m),hgc,hgm,by simp[Builtin.zeroCells,Value.cells],h⟩
end
noncomputable def nf (i:Nat)(rows:List (List AV))(g:G):OR :=
 ak (Nat.beq i 0&&Nat.ble (a9 rows*8) 140737488355328) (.upd (.hsl g.nx 0 0 (a9 rows) none) (g.new (.cells 1 rows 0 true false))) .fail
noncomputable def tp (id2 i:Nat)(s:AV)(vrows:List (List AV))(g:G):OR :=
 match s with
 | .nils=>nf i vrows g
 | .esl=>nf i vrows g
 | .hsl id ep off len none =>
  match g.get id with
  | .cells 1 [] ep' false _=>ak ((Nat.beq ep ep'&&Nat.beq off 0)&&Nat.beq len 0) (nf i vrows g) .fail
  | .cells sz rows ep' true false =>
   ak (((((((Nat.beq sz 1&&Nat.beq ep ep')&&Nat.beq off 0)&&Nat.beq len (a9 rows))&&g8 (Nat.beq id id2))&&Nat.ble i len)&&Nat.ble 1 len)&&Nat.ble ((len+a9 vrows)*8) 140737488355328)
    (.upd (.hsl id (ep+1) 0 (len+a9 vrows) none) (g.put id (.cells 1 (iP i rows++(vrows++ib i rows)) (ep+1) true false))) .fail
  | _=>.fail
 | _=>.fail
noncomputable def iG:Nat->List AV->G->OR:=fun _ xs g =>
 match xs with
 | [s,.int .i64 (.ofNat i),.hsl id2 ep2 off2 len2 _] =>
  match g.get id2 with
  | .cells sz2 vrows ep2' _ _ =>
   ak ((((Nat.beq sz2 1&&Nat.beq ep2 ep2')&&Nat.beq off2 0)&&Nat.beq len2 (a9 vrows))&&Nat.ble 1 len2) (tp id2 i s vrows g) .fail
  | _=>.fail
 | _=>.fail
theorem px {d:Nat}{xs:List AV}{g:G}(h:iG d xs g≠.fail):∃s i id2 ep2 len2 lim2 vrows lo fz,xs=[s,.int .i64 (Int.ofNat i),.hsl id2 ep2 0 len2 lim2] /\
  g.h.get id2=.cells 1 vrows ep2 lo fz/\len2=vrows.length/\0<vrows.length/\iG d xs g=tp id2 i s vrows g:=by
 unfold iG at h ⊢
 split at h
 ·split at h
  ·rename_i hg
   rw[aa] at h ⊢
   split at h
   ·rename_i hc
    simp only[Bool.and_eq_true,an] at hc
    obtain ⟨⟨⟨⟨c1,c2⟩,c3⟩,c4⟩,c5⟩:=hc
    have c1:=aB c1;have c2:=aB c2;have c3:=aB c3;have c4:=aB c4
    subst c1;subst c2;subst c3;subst c4
    rw[Nat.ble_eq] at c5
    refine ⟨_,_,_,_,_,_,_,_,_,rfl,hg,rfl,c5,?_⟩
    rw[if_pos]
    simp[an];omega
   ·exact absurd rfl h
  ·exact absurd rfl h
 ·exact absurd rfl h
theorem uP {id2 i:Nat}{s:AV}{vrows:List (List AV)}{g:G}(h:tp id2 i s vrows g≠.fail) :
  ((s=.nils\/s=.esl\/∃id ep fz,s=.hsl id ep 0 0 none/\g.h.get id=.cells 1 [] ep false fz)/\i=0/\vrows.length*8<=140737488355328/\tp id2 i s vrows g=.upd (.hsl g.nx 0 0 vrows.length none) (g.new (.cells 1 vrows 0 true false))) \/
  ∃id ep rows,s=.hsl id ep 0 rows.length none/\g.h.get id=.cells 1 rows ep true false/\id≠id2/\i<=rows.length/\0<rows.length/\(rows.length+vrows.length)*8<=140737488355328 /\
   tp id2 i s vrows g=.upd (.hsl id (ep+1) 0 (rows.length+vrows.length) none) (g.put id (.cells 1 (rows.take i++(vrows++rows.drop i)) (ep+1) true false)):=by
 have hnew:nf i vrows g≠.fail->i=0/\vrows.length*8<=140737488355328/\nf i vrows g=.upd (.hsl g.nx 0 0 vrows.length none) (g.new (.cells 1 vrows 0 true false)):=by
  intro h
  unfold nf at h ⊢
  rw[aa] at h ⊢
  split at h
  ·rename_i hc
   rw[if_pos hc]
   simp only[Bool.and_eq_true,an,Nat.ble_eq] at hc
   exact ⟨aB hc.1,hc.2,by rw[an]⟩
  ·exact absurd rfl h
 unfold tp at h ⊢
 split at h
 ·exact .inl ⟨.inl rfl,hnew h⟩
 ·exact .inl ⟨.inr (.inl rfl),hnew h⟩
 ·rename_i id ep off len
  split at h
  ·rename_i ep' fz hg
   rw[aa] at h
   split at h
   ·rename_i hc
    have hc':=hc
    simp only[Bool.and_eq_true] at hc
    obtain ⟨⟨c1,c2⟩,c3⟩:=hc
    have c1:=aB c1;have c2:=aB c2;have c3:=aB c3
    subst c1;subst c2;subst c3
    have:=hnew h
    refine .inl ⟨.inr (.inr ⟨id,ep,fz,rfl,hg⟩),this.1,this.2.1,?_⟩
    rw[aa,if_pos hc',this.2.2]
   ·exact absurd rfl h
  ·rename_i sz rows ep' hg
   rw[aa] at h
   split at h
   ·rename_i hc
    have hc':=hc
    simp only[Bool.and_eq_true,an] at hc
    obtain ⟨⟨⟨⟨⟨⟨⟨c1,c2⟩,c3⟩,c4⟩,c5⟩,c6⟩,c7⟩,c8⟩:=hc
    have c1:=aB c1;have c2:=aB c2;have c3:=aB c3;have c4:=aB c4
    subst c1;subst c2;subst c3;subst c4
    rw[Nat.ble_eq] at c6 c7 c8
    refine .inr ⟨id,ep,rows,rfl,hg,fun e=>?_,c6,c7,c8,?_⟩
    ·subst e;rw[notb_eq] at c5;simp at c5
    ·rw[aa,if_pos hc']
     simp only[an,aY,aW]
   ·exact absurd rfl h
  ·exact absurd rfl h
 ·exact absurd rfl h
section
variable {C:Cfg}{A:Nat->Nat->Prop}{bd:Nat}{w w':World}{γ γ':Gm}{hg:Nat->AObj}{nx:Nat}{ρ:Ren}
theorem Im {g:G}{id:Nat}{ob:AObj}(r:Rel C A bd w' γ' (upd hg id ob) nx)(s:Stp w γ w' γ'):Fin C A bd w γ hg nx g w' γ' (upd hg id ob) (g.put id ob) :=
 ⟨r.up (Nat.le_max_left _ _),s,[id],by simp,fun k hk=>by simp at hk;subst hk;simp[G.put_h,H.get_put],fun k hk=>by
  rw[cd];simpa using hk⟩
theorem Iv {g:G}{ob:AObj}(r:Rel C A bd w' γ' (upd hg g.nx ob) (Nat.max nx (g.nx+1)))(s:Stp w γ w' γ'):Fin C A bd w γ hg nx g w' γ' (upd hg g.nx ob) (g.new ob) :=
 ⟨r.up (by simp),s,[g.nx],by simp,fun k hk=>by simp at hk;subst hk;simp[G.new_h,H.get_put],fun k hk=>by
  rw[cd];simpa using hk⟩
theorem zQ (hr:Rel C A bd w γ hg nx){id ep:Nat}{rows:List (List AV)}{lo fz:Bool}(hid:hg id=.cells 1 rows ep lo fz) :
  ∃(c:Array Value) (e:TypeId) (l:List Value),w.heap[(γ id).blk]?=some (.cells c e (0,0))/\(γ id).base+(rows.length+(γ id).slack)<=c.size/\l.length=rows.length/\(∀j,j<rows.length->l[j]?=c[(γ id).base+j]?) /\
   (∀v∈l,v.oneCell'=true)/\(∀(k:Nat) row,rows[k]?=some row->row.length=1) /\
   ∀(k j:Nat) row x,rows[k]?=some row->row[j]?=some x->j=0/\x.one=true/\∃v,l[k]?=some v/\RV w γ A bd x v:=by
 have hob:=hr.obj id
 rw[hid] at hob
 obtain ⟨k1,k2,k3,k4,k5,k6,c,e,k7,k8,k9,k10⟩:=hob
 have hget:∀j,j<rows.length->((c.toList.drop (γ id).base).take rows.length)[j]?=c[(γ id).base+j]?:=fun j hj=>by
  rw[List.getElem?_take_of_lt hj,List.getElem?_drop];simp
 refine ⟨c,e,(c.toList.drop (γ id).base).take rows.length,k7,by omega,by simp;omega,hget,fun v hv=>?_,k9,fun k j row x h1 h2=>?_⟩
 ·obtain ⟨k,hk⟩:=List.getElem?_of_mem hv
  have hlt:k<rows.length:=by
   have:=(List.getElem?_eq_some_iff.1 hk).1
   simp at this;omega
  rw[hget k hlt] at hk
  have hrow:=List.getElem?_eq_getElem hlt
  have hl1:=k9 k _ hrow
  have hx:rows[k][0]?=some (rows[k][0]'(by omega)):=List.getElem?_eq_getElem _
  obtain ⟨a,v',b1,b2⟩:=k10 k 0 _ _ hrow hx
  rw[show (γ id).base+k*1+0=(γ id).base+k from by omega,hk] at b1
  injection b1 with b1;subst b1
  exact (Bv b2 a).1
 ·have hj:j=0:=by
   have h3:=k9 k _ h1
   have:=(List.getElem?_eq_some_iff.1 h2).1
   omega
  subst hj
  obtain ⟨a,v',b1,b2⟩:=k10 k 0 _ _ h1 h2
  refine ⟨rfl,a,v',?_,b2⟩
  rw[hget k (List.getElem?_eq_some_iff.1 h1).1]
  rw[show (γ id).base+k*1+0=(γ id).base+k from by omega] at b1
  exact b1
theorem qg {P:Program}{f:FuncId}{args:Array Value}{u:Value}(h:Calls P f args w (fun x y=>x=.returned u/\y=w'))(cs:List Frame):Outs P .normal f args cs w u w':=by
 obtain ⟨e,w1,fr,⟨he,hw⟩,hc,hf,hl⟩:=h cs
 subst he;subst hw
 obtain ⟨m,d,k,fn,hfn,hres⟩:=hl
 exact ⟨fr,hc,m,d,k,hf,fn,by rw[<-hf];exact hfn,hres⟩
theorem Dn {P : Program} {f : FuncId} {fn : Func} (h : P.funcs[f]? = some fn) (hn : (fn.name == "runtime.NumGoroutine") = false) (hb : fn.body.isSome = true) : Enters P f := by
 intro args w
 unfold callFunc
 have hn : fn.name ≠ "runtime.NumGoroutine" := by simpa using hn
 cases hb':fn.body with
 | none=>rw[hb'] at hb;cases hb
 | some c=>simp[h,hn,hb']
theorem Aw (L:Lays2.n21 C.P ρ)(hent:Enters C.P (ρ.f 21)):ExtOk C (ρ.f 21) iG:=by
 refine ⟨fun d xs g hwf=>?_,fun d xs g y hy=>?_,fun A bd w γ hg nx g xs vs hr hwf hx hf hv hne cs=>?_⟩
 ·apply Small.mon _ hwf
  by_cases h:iG d xs g=.fail
  ·rw[h];trivial
  ·obtain ⟨s,i,id2,ep2,len2,lim2,vrows,lo,fz,e1,e2,e3,e4,e5⟩:=px h
   rw[e5] at h ⊢
   rcases uP h with ⟨_,_,_,h1⟩ | ⟨id,ep,rows,_,h2,_,_,_,_,h1⟩
   ·rw[h1];exact .inr ⟨_,rfl⟩
   ·rw[h1];exact .inl ⟨_,_,rfl,by rw[h2];simp⟩
 ·have h:iG d xs g≠.fail:=by rw[hy];simp
  obtain ⟨s,i,id2,ep2,len2,lim2,vrows,lo,fz,e1,e2,e3,e4,e5⟩:=px h
  rw[e5] at h hy
  rcases uP h with ⟨_,_,_,h1⟩ | ⟨id,ep,rows,_,h2,_,_,_,_,h1⟩<;>(rw[h1] at hy;cases hy)
 ·obtain ⟨s,i,id2,ep2,len2,lim2,vrows,lo,fz,e1,e2,e3,e4,e5⟩:=px hne
  subst e1;subst e3
  rw[e5] at hne hf ⊢
  obtain ⟨v1,v2,v3,rfl⟩:∃v1 v2 v3,vs=[v1,v2,v3]:=by
   have:=hv.1
   match vs,this with
   | [a,b,c],_=>exact ⟨a,b,c,rfl⟩
  have r1:RV w γ A bd s v1:=hv.2 0 _ _ rfl rfl
  have r2:RV w γ A bd (.int .i64 (Int.ofNat i)) v2:=hv.2 1 _ _ rfl rfl
  have r3:RV w γ A bd (.hsl id2 ep2 0 vrows.length lim2) v3:=hv.2 2 _ _ rfl rfl
  cases r2
  have hid2:hg id2=.cells 1 vrows ep2 lo fz:=by
   rw[hx id2 (by simp[List.flatMap_cons,au,ay]) (by rw[e2];simp),e2]
  obtain ⟨vc,hv3,hvc,_⟩:=qC hr r3 hid2
  subst hv3
  obtain ⟨cv,ev,lv,p1,p2,p3,p4,p5,p6,p7⟩:=zQ hr hid2
  have hz:(γ id2).base+0*1=(γ id2).base:=by omega
  rw[hz] at r3 ⊢
  rcases uP hne with ⟨hs,hi,hbig,h1⟩ | ⟨id,ep,rows,hs,h2,hne2,hin,hpos,hbig,h1⟩
  ·subst hi
   rw[h1] at hf ⊢
   have hfree:(γ g.nx).kind=0:=hf g.nx (Nat.le_refl _) (by simp[gOf])
   have hbase:∃base,v1=.slice base 0 0:=by
    rcases hs with rfl | rfl | ⟨id,ep,fz2,rfl,hgid⟩
    ·cases r1;exact ⟨_,rfl⟩
    ·cases r1;exact ⟨_,rfl⟩
    ·have hid:hg id=.cells 1 [] ep false fz2:=by
      rw[hx id (by simp[List.flatMap_cons,au,ay]) (by rw[hgid];simp),hgid]
     obtain ⟨c,hv1,hnc,hco⟩:=qC hr r1 hid
     have hob:=hr.obj id
     rw[hid] at hob
     obtain ⟨-,-,-,k4,k5,-⟩:=hob
     have hk:=k5.1 rfl
     have hc0:c=0:=by simp only[gN] at hco;simp at k4;omega
     subst hc0
     exact ⟨_,hv1⟩
   obtain ⟨base,hb⟩:=hbase
   subst hb
   obtain ⟨cap,rest,q1,q2,q3,q4⟩:=Az L (w:=w) (base:=base) (vb:=(γ id2).blk) (voff:=(γ id2).base) (m:=vrows.length) (vc:=vc) (vs:=lv) e4 hbig p3
    (fun j v hj=>by rw[mo p1,<-p4 j (by rw[<-p3];exact (List.getElem?_eq_some_iff.1 hj).1)];exact hj) p5
   have hrr:RowsRel w γ A bd 1 vrows (lv.toArray++rest):=by
    refine ⟨by simp[p3],p6,fun k j row x a b=>?_⟩
    obtain ⟨j0,o1,v,l1,l2⟩:=p7 k j row x a b
    subst j0
    refine ⟨o1,v,?_,l2⟩
    have hk:=(List.getElem?_eq_some_iff.1 a).1
    rw[Array.getElem?_append_left (by simp;omega)]
    simpa using l1
   obtain ⟨γ',s1,s2,s3⟩:=se (e:=ρ.t 3) hr hfree hrr vrows.length cap (by simp[q3];omega) q1 rfl q2
   exact ⟨_,_,γ',_,Iv s1 s2,s3,.inr ⟨hent,qg q4 cs⟩⟩
  ·subst hs
   rw[h1] at hf ⊢
   have hid:hg id=.cells 1 rows ep true false:=by
    rw[hx id (by simp[List.flatMap_cons,au,ay]) (by rw[h2];simp),h2]
   obtain ⟨c,hv1,hnc,hco⟩:=qC hr r1 hid
   subst hv1
   have hob:=hr.obj id
   rw[hid] at hob
   obtain ⟨k1,k2,k3,k4,k5,k6,_⟩:=hob
   have hob2:=hr.obj id2
   rw[hid2] at hob2
   obtain ⟨m1,_⟩:=hob2
   have hblk:(γ id2).blk≠(γ id).blk:=fun e=>hne2 (hr.inj id id2 (by rw[k1];decide) (by rw[m1];decide) e.symm)
   obtain ⟨cc,ec,lc,c1,c2,c3,c4,c5,c6,c7⟩:=zQ hr hid
   have hcap:c=rows.length+(γ id).slack:=by simp only[gN] at hco;omega
   have hins:=Bh L (w:=w) (b:=(γ id).blk) (off:=(γ id).base) (n:=rows.length) (c:=c) (i:=i) (vb:=(γ id2).blk) (voff:=(γ id2).base) (m:=vrows.length) (vc:=vc)
    c1 p1 hblk hin e4 hnc (by have:=k5.2 rfl;omega) hbig (by omega) (by omega) (by omega) c3 p3 c4 p4 c5 p5
   obtain ⟨b',o',cap',c',e',w',n1,n2,n3,n4,n5,n6,n7,n8,n9⟩:=hins
   let gh:Gh:=⟨1,ep+1,1,rows.length+vrows.length,b',o',cap' - (rows.length+vrows.length),true⟩
   have hrl:(rows.take i++(vrows++rows.drop i)).length=rows.length+vrows.length:=by simp;omega
   have hcell:∀(k:Nat) row,(rows.take i++(vrows++rows.drop i))[k]?=some row->row.length=1/\∀(j:Nat) x,row[j]?=some x->x.one=true/\∃v,c'[o'+k*1+j]?=some v/\RV w γ A bd x v:=by
    intro k row hk
    have hkl:k<rows.length+vrows.length:=by rw[<-hrl];exact (List.getElem?_eq_some_iff.1 hk).1
    have hck:=n9 k hkl
    rw[fy c3 p3 hin] at hck
    rw[fy (n:=rows.length) (m:=vrows.length) rfl rfl hin] at hk
    split at hk
    ·rename_i h1;rw[if_pos h1] at hck
     refine ⟨c6 _ _ hk,fun j x hj=>?_⟩
     obtain ⟨j0,o1,v,l1,l2⟩:=c7 _ j row x hk hj
     subst j0
     exact ⟨o1,v,by rw[show o'+k*1+0=o'+k from by omega,hck];exact l1,l2⟩
    ·rename_i h1;rw[if_neg h1] at hck
     split at hk
     ·rename_i h2;rw[if_pos h2] at hck
      refine ⟨p6 _ _ hk,fun j x hj=>?_⟩
      obtain ⟨j0,o1,v,l1,l2⟩:=p7 _ j row x hk hj
      subst j0
      exact ⟨o1,v,by rw[show o'+k*1+0=o'+k from by omega,hck];exact l1,l2⟩
     ·rename_i h2;rw[if_neg h2] at hck
      refine ⟨c6 _ _ hk,fun j x hj=>?_⟩
      obtain ⟨j0,o1,v,l1,l2⟩:=c7 _ j row x hk hj
      subst j0
      exact ⟨o1,v,by rw[show o'+k*1+0=o'+k from by omega,hck];exact l1,l2⟩
   obtain ⟨s1,s2⟩:=hr.moved hid (w1:=w') (gh:=gh) (rows':=rows.take i++(vrows++rows.drop i)) rfl rfl rfl (by rw[hrl]) rfl n4
    (by rw[hrl];simp only[gh];omega) n5 n6 (c:=c') (e:=e') n7 (by rw[hrl];simp only[gh];omega)
    (fun k row hk=>(hcell k row hk).1) (fun k j row x hk hj=>(hcell k row hk).2 j x hj)
   have hz':(γ id).base+0*1=(γ id).base:=by omega
   rw[hz']
   refine ⟨.slice (some (adr b' o')) (rows.length+vrows.length) cap',w',_,_,Im s1 s2,?_,.inr ⟨hent,qg n1 cs⟩⟩
   refine .hsl _ id (ep+1) 0 _ none _ _ cap' (by simp[gh]) (by simp[gh]) n2 (fun _=>⟨by simp[gh],by simp[gh],?_⟩)
   simp only[gN,upd_same,gh];omega
end
end Hx
end
section
namespace Hx
open Go
noncomputable def ie (h:H):List Nat->H
 | []=>.nil
 | id::l=>(ie h l).put id (h.get id)
noncomputable def jd (h h':H):List Nat->H
 | []=>h
 | id::l=>(jd h h' l).put id (h'.get id)
theorem C6 (k:Nat):H.get (Tr.nil:H) k=.none:=by
 simp[H.get,Tr.get_nil]
theorem jK (h:H)(k:Nat):∀l,(ie h l).get k=if k∈l then h.get k else .none
 | []=>by simp[ie,C6]
 | id::l=>by
  rw[ie,H.get_put,jK h k l]
  by_cases hk:k=id
  ·subst hk;simp
  ·simp[hk]
theorem iz (h h':H)(k:Nat):∀l,(jd h h' l).get k=if k∈l then h'.get k else h.get k
 | []=>by simp[jd]
 | id::l=>by
  rw[jd,H.get_put,iz h h' k l]
  by_cases hk:k=id
  ·subst hk;simp
  ·simp[hk]
end Hx
end
section
namespace Hx
open Go
noncomputable def vJ (C:Cfg)(f:Nat):Nat->List AV->G->OR:=fun d xs g =>
 match (I C).call d f xs ⟨ie g.h (xs.flatMap (au g.h ay)),g.nx,[]⟩ with
 | .ok v g'=>.upd v ⟨jd g.h g'.h g'.lg,g'.nx,g'.lg++g.lg⟩
 | .fail=>.fail
theorem Ig {C:Cfg}(hC:CfgOk C){f:Nat}:ExtOk C f (vJ C f):=by
 have wfr:∀(g:G) (ids:List Nat),WF g->WF ⟨ie g.h ids,g.nx,[]⟩:=by
  intro g ids hwf id hid
  show (ie g.h ids).get id=.none
  rw[jK]
  split
  ·exact hwf id hid
  ·rfl
 have sh:∀d xs g,vJ C f d xs g=.fail\/∃n v g',(sem C n).call d f xs ⟨ie g.h (xs.flatMap (au g.h ay)),g.nx,[]⟩=.ok v g' /\
   vJ C f d xs g=.upd v ⟨jd g.h g'.h g'.lg,g'.nx,g'.lg++g.lg⟩:=by
  intro d xs g
  unfold vJ
  split
  ·rename_i v g' h;obtain ⟨n,hn⟩:=GW h;exact .inr ⟨n,v,g',hn,rfl⟩
  ·exact .inl rfl
 refine ⟨fun d xs g hwf=>?_,fun d xs g y hy=>?_,fun A bd w γ hg nx g xs vs hr hwf hx hf hv hne cs=>?_⟩
 ·rcases sh d xs g with h | ⟨n,v,g',h1,h2⟩
  ·rw[h];exact Mon.refl g
  ·rw[h2]
   have hok:=uW hC n
   have m:=hok.mon.call _ _ _ _ _ _ h1 (wfr g _ hwf)
   obtain ⟨nw,a,b,c⟩:=m.new
   have ha:g'.lg=nw:=by simpa using a
   refine ⟨m.nx,⟨g'.lg,rfl,fun id hid=>?_,fun id hid=>?_⟩,fun hw id hid=>?_⟩
   ·show (jd _ _ _).get id=_
    rw[iz,if_neg hid]
   ·obtain ⟨c1,c2⟩:=c id (by rw[<-ha];exact hid)
    refine ⟨c1,fun hn=>c2 ?_⟩
    show (ie _ _).get id=_
    rw[jK,hn];simp
   ·show (jd _ _ _).get id=_
    have hid:g'.nx<=id:=hid
    have hnx:g.nx<=g'.nx:=m.nx
    rw[iz,if_neg]
    ·exact hw id (by omega)
    ·intro hl
     have:=(c id (by rw[<-ha];exact hl)).1
     omega
 ·rcases sh d xs g with h | ⟨n,v,g',h1,h2⟩
  ·rw[h] at hy;cases hy
  ·rw[h2] at hy;cases hy
 ·rcases sh (bd+1) xs g with h | ⟨n,v,g',h1,h2⟩
  ·exact absurd h hne
  ·rw[h2] at hf ⊢
   have hok:=uW hC n
   obtain ⟨he,run⟩:=hok.call _ _ _ _ _ _ h1
   obtain ⟨u,w',γ',hg',fin,rv,out⟩:=run A w γ hg nx vs hr (fun id hn=>by
     have hn':(ie g.h (xs.flatMap (au g.h ay))).get id≠.none:=hn
     show hg id=(ie _ _).get id
     rw[jK] at hn' ⊢
     split at hn'
     ·rename_i hm;rw[if_pos hm];exact hx id hm hn'
     ·exact absurd rfl hn') (wfr g _ hwf) (fun id h1 h2=>hf id h1 h2) hv .normal cs (.inl rfl)
   refine ⟨u,w',γ',hg',⟨fin.rel,fin.stp,?_⟩,rv,.inr ⟨he,out⟩⟩
   obtain ⟨nw,a,b,c⟩:=fin.new
   have ha:g'.lg=nw:=by simpa using a
   subst ha
   refine ⟨g'.lg,rfl,fun id hid=>?_,c⟩
   show hg' id=(jd _ _ _).get id
   rw[iz,if_pos hid];exact b id hid
theorem Iu {C:Cfg}(hC:CfgOk C){d f:Nat}{xs:List AV}{g:G}{K K':AV->G->Prop}{D D2:ADf->Prop}
  (hi:∀k∈xs.flatMap (au g.h ay),k<g.nx)
  (hs:(orF ((I C).call d f xs ⟨ie g.h (xs.flatMap (au g.h ay)),g.nx,[]⟩)).sat K' ⟨ie g.h (xs.flatMap (au g.h ay)),g.nx,[]⟩ D2)
  (hk:∀v g'',K' v g''->g.nx<=g''.nx->(∀k∈g''.lg,k<g''.nx/\(k<g.nx->k∈xs.flatMap (au g.h ay)))->(∀k,k ∉ g''.lg->g''.h.get k=(ie g.h (xs.flatMap (au g.h ay))).get k)->K v ⟨jd g.h g''.h g''.lg,g''.nx,g''.lg++g.lg⟩) :
  (vJ C f d xs g).sat K g D:=by
 have wf:WF ⟨ie g.h (xs.flatMap (au g.h ay)),g.nx,[]⟩:=fun id hid=>by
  show (ie g.h (xs.flatMap (au g.h ay))).get id=.none
  rw[jK,if_neg]
  intro h
  have h1:=hi id h
  have h2:g.nx<=id:=hid
  omega
 unfold vJ
 cases hc:(I C).call d f xs ⟨ie g.h (xs.flatMap (au g.h ay)),g.nx,[]⟩ with
 | fail=>rw[hc] at hs;exact hs.elim
 | ok v g' =>
  rw[hc] at hs
  obtain ⟨n,hn⟩:=GW hc
  have m:=(uW hC n).mon.call _ _ _ _ _ _ hn wf
  obtain ⟨nw,a,b,c⟩:=m.new
  have ha:g'.lg=nw:=by simpa using a
  subst ha
  refine hk v g' hs m.nx (fun k hk=>⟨(c k hk).1,fun hlt=>?_⟩) b
  by_cases hin:k∈xs.flatMap (au g.h ay)
  ·exact hin
  ·have:g.nx<=k:=(c k hk).2 (by show (ie _ _).get k=_;rw[jK,if_neg hin])
   omega
end Hx
end
section
namespace Go.Proofs.YtfpjoiojhegfaaaDoor.Gen
open Hx
noncomputable def cfg0:Cfg:={ P:=Tryd.prog,iso:=fun f=>Nat.testBit 21757468432525280001520595099783983529983 f,ext:=fun _=>none,glob:=fun g=>ak (Nat.beq g 1) (some (64,[[.int .u8 0,.int .u8 1,.int .u8 56,.int .u8 2,.int .u8 57,.int .u8 49,.int .u8 28,.int .u8 3,.int .u8 61,.int .u8 58,.int .u8 42,.int .u8 50,.int .u8 38,.int .u8 29,.int .u8 17,.int .u8 4,.int .u8 62,.int .u8 47,.int .u8 59,.int .u8 36,.int .u8 45,.int .u8 43,.int .u8 51,.int .u8 22,.int .u8 53,.int .u8 39,.int .u8 33,.int .u8 30,.int .u8 24,.int .u8 18,.int .u8 12,.int .u8 5,.int .u8 63,.int .u8 55,.int .u8 48,.int .u8 27,.int .u8 60,.int .u8 41,.int .u8 37,.int .u8 16,.int .u8 46,.int .u8 35,.int .u8 44,.int .u8 21,.int .u8 52,.int .u8 32,.int .u8 23,.int .u8 11,.int .u8 54,.int .u8 26,.int .u8 40,.int .u8 15,.int .u8 34,.int .u8 20,.int .u8 31,.int .u8 10,.int .u8 25,.int .u8 14,.int .u8 19,.int .u8 9,.int .u8 13,.int .u8 8,.int .u8 7,.int .u8 6]])) none }
theorem cfg0Ok:CfgOk cfg0:=CfgOk.plain (by kernel_rfl) (by kernel_rfl)
theorem insOk:ExtOk cfg0 102 iG:=Aw (C:=cfg0) (ρ:=Tryd.lays21_ren) Tryd.lays21 (Hx.Dn Tryd.func102 (by kernel_rfl) (by kernel_rfl))
noncomputable def cfg:Cfg:=cfg0.add 102 iG
theorem cfgOk:CfgOk cfg:=cfg0Ok.add insOk
theorem works_run:aq (sem cfg 20000) 1 G.empty 11 []=.val (.bool true):=by kernel_rfl
noncomputable def cfgW:Cfg:=cfg.add 11 (vA (.bool true))
theorem cfgWOk:CfgOk cfgW:=cfgOk.add (Ev cfgOk works_run)
theorem inl103:ExtOk cfg0 103 (vJ cfg0 103):=Ig cfg0Ok
noncomputable def cfg1:Cfg:=cfgW.add 103 (vJ cfg0 103)
theorem cfg1Ok:CfgOk cfg1:=cfgWOk.add (ExtOk.cfg (C:=cfg0) (C':=cfgW) rfl rfl inl103)
end Go.Proofs.YtfpjoiojhegfaaaDoor.Gen
end
section
namespace Hx
open Go
set_option maxRecDepth 100000
noncomputable section
def C0:Cfg:=Go.Proofs.YtfpjoiojhegfaaaDoor.Gen.cfg1
def E7:Cfg:=Go.Proofs.YtfpjoiojhegfaaaDoor.Gen.cfg0
theorem J0:CfgOk E7:=Go.Proofs.YtfpjoiojhegfaaaDoor.Gen.cfg0Ok
abbrev tII:Nat:=129
abbrev N.aP:Nat:=104
abbrev N.ax:Nat:=108
abbrev N.aC:Nat:=28
abbrev N.aY:Nat:=58
abbrev N.aU:Nat:=86
abbrev N.au:Nat:=59
abbrev N.af:Nat:=85
abbrev N.ak:Nat:=60
abbrev N.aX:Nat:=87
abbrev N.a7:Nat:=6
abbrev N.a9:Nat:=11
abbrev N.aa:Nat:=61
abbrev N.aO:Nat:=90
abbrev N.a_:Nat:=97
abbrev N.aV:Nat:=98
abbrev N.aS:Nat:=84
abbrev N.aQ:Nat:=83
abbrev N.aI:Nat:=27
abbrev N.aZ:Nat:=96
abbrev N.aF:Nat:=81
abbrev N.aq:Nat:=57
abbrev N.ap:Nat:=95
abbrev N.ah:Nat:=100
abbrev N.aR:Nat:=82
abbrev N.aH:Nat:=79
abbrev N.aG:Nat:=78
abbrev N.aw:Nat:=53
abbrev N.aE:Nat:=54
abbrev N.aM:Nat:=80
abbrev N.aW:Nat:=24
abbrev N.aK:Nat:=55
abbrev N.am:Nat:=56
abbrev N.aB:Nat:=17
abbrev N.ay:Nat:=39
abbrev N.aL:Nat:=40
abbrev N.aT:Nat:=69
abbrev N.ae:Nat:=70
abbrev N.an:Nat:=89
abbrev N.aN:Nat:=37
abbrev N.aA:Nat:=101
abbrev N.aJ:Nat:=103
abbrev N.a8:Nat:=102
abbrev N.aD:Nat:=105
def fZ:SC:=.seq (sQ [o 16 (.call N.a9 []),o 17 (.not (.t 16))] (.cond (.t 17) (sQ [o 4 (.mv (.k (.bool false)))] (.ret)) (.skip))) (sQ [o 18 (.load true 3 (.t 2)),o 19 (.call N.aW [.t 18]),o 5 (.alloc [.int .i64 0,.nils]),oz (.store 2 (.t 5) (.t 19))] (sQ [o 21 (.load true 2 (.t 5)),o 22 (.call N.aI [.t 21]),oM 20 22,o 23 (.ext (.t 20) 0),o 24 (.ext (.t 20) 1),oM 6 23,oM 7 24] (sQ [oF 25 1 5,oL 26 25,oN 27 26,o 28 (.bin .shl (.k (.int .u64 1)) (.t 27)),o 29 (.bin .sub (.t 28) (.k (.int .u64 1))),oM 8 29] (sQ [o 30 (.ixa 3 1 (.t 3) (qI 0)),oL 31 30,oM 32 8,o 33 (.bin .and (.t 31) (.t 32)),oM 9 33] (sQ [o 34 (.ixa 3 1 (.t 3) (qI 1)),oL 35 34,oM 36 8,o 37 (.bin .and (.t 35) (.t 36)),oM 38 9,o 39 (.bin .andNot (.t 37) (.t 38)),oM 10 39] (sQ [o 40 (.ixa 3 1 (.t 3) (qI 2)),oL 41 40,oM 42 8,o 43 (.bin .and (.t 41) (.t 42)),oM 44 9,o 45 (.bin .andNot (.t 43) (.t 44)),oM 46 10,o 47 (.bin .andNot (.t 45) (.t 46)),oM 11 47] (sQ [oM 49 6,oM 50 9,oM 51 10,oM 52 11,o 53 (.call N.aB [.t 49,.t 50,.t 51,.t 52]),oM 48 53,o 54 (.ext (.t 48) 0),o 55 (.ext (.t 48) 1),oM 12 54,oM 13 55] (sQ [o 57 (.load true 2 (.t 5)),oM 58 9,oM 59 10,oM 60 11,o 61 (.call N.aC [.t 57,.t 58,.t 59,.t 60]),oM 56 61,o 62 (.ext (.t 56) 0),o 63 (.ext (.t 56) 1),oM 14 62,oM 15 63] (sQ [oM 64 7,o 65 (.bin .eql (.t 64) (qI 0)),oM 66 65,og 67 66 true (.mv (.t 13)),og 68 66 true (.bin .eql (.t 67) (qI 0)),o 69 (.pick (.t 66) (.t 68) (.k (.bool false))),oM 70 69,og 71 70 true (.mv (.t 15)),og 72 70 true (.bin .eql (.t 71) (qI 0)),o 73 (.pick (.t 70) (.t 72) (.k (.bool false))),oM 74 73,og 75 74 true (.mv (.t 12)),og 76 74 true (.not (.t 75)),og 77 74 true (.mv (.t 76)),og 78 77 false (.mv (.t 14)),og 79 77 false (.not (.t 78)),og 80 74 true (.pick (.t 77) (.k (.bool true)) (.t 79)),o 81 (.pick (.t 74) (.t 80) (.k (.bool false))),oM 4 81] (.ret))))))))))
def dM:SF:=⟨82,[.tm 4],sQ [o 2 (.box (.t 0)),o 3 (.box (.t 1)),o 4 (.mv (.k (.bool false)))] fZ⟩
def im:SF:=⟨34,[.tm 8,.tm 9],sQ [o 8 (.mv (.k (.bool false))),oK 9 0] (sQ [oM 13 0,o 14 (.call N.aN [.t 13]),oM 12 14,o 15 (.ext (.t 12) 0),o 16 (.ext (.t 12) 1),o 10 (.alloc [.nils,.nils]),oz (.store 2 (.t 10) (.t 15)),oM 11 16] (.seq (sQ [oM 17 11,o 18 (.bin .neq (.t 17) (qI 0))] (.cond (.t 18) (sQ [oM 19 11,o 8 (.mv (.k (.bool false))),oM 9 19] (.ret)) (.skip))) (.seq (sQ [o 20 (.load true 2 (.t 10)),oM 21 1,oM 22 2,oM 23 3,o 24 (.bsl 1 3 [.int .u64 0] [0,1,2] [.t 21,.t 22,.t 23]),o 25 (.call N.ay [.t 20,.t 24]),o 26 (.not (.t 25))] (.cond (.t 26) (sQ [o 8 (.mv (.k (.bool false))),oK 9 2] (.ret)) (.skip))) (sQ [o 27 (.load true 2 (.t 10)),oM 28 1,oM 29 3,o 30 (.call N.aL [.t 27,.t 28,.t 29]),oM 31 2,o 32 (.bin .and (.t 30) (.t 31)),o 33 (.bin .eql (.t 32) (.k (.int .u64 0))),oM 8 33,oK 9 0] (.ret)))))⟩
def oU:SC:=sQ [oM 65 6,oM 66 9,o 67 (.bin .mul (.t 65) (.t 66)),oM 6 67] (.feet [0,1,0,0,12,28,0,127,255,511] [oF 68 1 4,oL 69 68,oM 70 5,oM 71 7,oX 72 70 71,oL 73 72,oM 74 9,o 75 (.ixs 3 (.t 69) (.t 73)),oF 76 0 75,oz (.store 1 (.t 76) (.t 74))])
def pz:SC:=sQ [oF 50 0 8,oL 51 50,o 52 (.bin .rem (.t 51) (.k (.int .u8 2))),o 53 (.conv .i64 (.t 52)),o 54 (.bin .add (qI 2) (.t 53)),oM 9 54] (.seq (sQ [oM 55 6,oM 56 9,o 57 (.bin .mul (.t 55) (.t 56)),oM 58 3,o 59 (.bin .sub (.t 58) (qI 1)),oM 60 7,o 61 (.bin .sub (.t 59) (.t 60)),o 62 (.conv .u64 (.t 61)),o 63 (.bin .shl (.t 57) (.t 62)),o 64 (.bin .gtr (.t 63) (qI 100))] (.cond (.t 64) (.ops [oK 9 2]) (.skip))) oU)
def iM:SC:=.ops [oM 38 7,oA 39 38,oM 7 39]
def ej:SC:=.seq (sQ [oM 35 7,oM 36 3,o 37 (.bin .lss (.t 35) (.t 36))] (.cond (.t 37) (.skip) (.exit 0))) (.seq (.blk 1 (sQ [o 8 (.alloc [.int .u8 0,.int .u8 0,.nils])] (.seq (sQ [oM 40 7,oF 41 1 1,oL 42 41,oN 43 42,o 44 (.bin .lss (.t 40) (.t 43))] (.cond (.t 44) (.ops [oF 45 1 1,oL 46 45,oM 47 7,o 48 (.ixs 3 (.t 46) (.t 47)),o 49 (.load true 3 (.t 48)),oz (.store 3 (.t 8) (.t 49))]) (.skip))) pz))) iM)
def iQ:SC:=.ops [oM 104 14,oA 105 104,oM 14 105]
def eF:SC:=.seq (sQ [oM 101 14,oM 102 10,o 103 (.bin .lss (.t 101) (.t 102))] (.cond (.t 103) (.skip) (.exit 6))) (.seq (.blk 7 (sQ [oM 106 5,oM 107 14,oX 108 106 107,oL 109 108,oM 110 13,o 111 (.bin .eql (.t 109) (.t 110)),oM 112 111,og 113 112 true (.fad 1 (.t 11)),og 114 112 true (.load false 1 (.t 113)),og 115 112 true (.mv (.t 14)),og 116 112 true (.conv .u64 (.t 115)),og 117 112 true (.bin .shr (.t 114) (.t 116)),og 118 112 true (.bin .and (.t 117) (.k (.int .u8 1))),og 119 112 true (.bin .eql (.t 118) (.k (.int .u8 1))),o 120 (.pick (.t 112) (.t 119) (.k (.bool false))),oM 121 120,og 122 121 true (.fad 1 (.t 4)),og 123 121 true (.load false 1 (.t 122)),og 124 121 true (.mv (.t 12)),og 125 121 true (.ixs 3 (.t 123) (.t 124)),og 126 121 true (.fad 1 (.t 125)),og 127 121 true (.load false 1 (.t 126)),og 128 121 true (.len .slice (.t 127)),og 129 121 true (.bin .lss (.t 128) (qI 3)),o 130 (.pick (.t 121) (.t 129) (.k (.bool false)))] (.cond (.t 130) (.feet [0,1,0,0,8,0,56,120,248,0,512,2040,4095,8191,16383] [oF 131 1 4,oL 132 131,oM 133 12,oF 134 1 4,oL 135 134,oM 136 12,o 137 (.ixs 3 (.t 135) (.t 136)),oF 138 1 137,oL 139 138,oM 140 13,o 141 (.bsl 1 1 [.int .i64 0] [0] [.t 140]),o 142 (.app 1 8 (.t 139) (.t 141)),o 143 (.ixs 3 (.t 132) (.t 133)),oF 144 1 143,oz (.store 1 (.t 144) (.t 142))]) (.skip)))) iQ)
def i6:SC:=.ops [oM 99 13,oA 100 99,oM 13 100]
def d9:SC:=.seq (sQ [oM 96 13,oM 97 3,o 98 (.bin .lss (.t 96) (.t 97))] (.cond (.t 98) (.skip) (.exit 4))) (.seq (.blk 5 (sQ [oK 14 0] (.blk 6 (.loop eF)))) i6)
def d8:SC:=.seq (sQ [oM 145 15,o 146 (.load true 2 (.t 4)),oM 147 12,o 148 (.call N.aK [.t 146,.t 147]),o 149 (.call N.aE [.t 148]),o 150 (.bin .lss (.t 145) (.t 149))] (.cond (.t 150) (.skip) (.exit 8))) (.seq (.blk 9 (.feet [0,1,0,0,8,0,56,120,248,0,512,0,2048,0,14336,30720,63488,0,131072,0,0,1048576,0,7340032,15728640,32505856,66060288,133693440,268434944,536870400,1073741816,2147483647,4294967295,8589934591] [oF 153 1 4,oL 154 153,oM 155 12,oF 156 1 4,oL 157 156,oM 158 12,o 159 (.ixs 3 (.t 157) (.t 158)),oF 160 2 159,oL 161 160,oF 162 0 4,oL 163 162,oF 164 1 4,oL 165 164,oM 166 12,o 167 (.ixs 3 (.t 165) (.t 166)),oF 168 0 167,oL 169 168,oF 170 2 11,oL 171 170,oM 172 15,oF 173 1 4,oL 174 173,oM 175 12,o 176 (.ixs 3 (.t 174) (.t 175)),oF 177 0 176,oL 178 177,oA 179 178,o 180 (.bin .mul (.t 172) (.t 179)),o 181 (.call N.am [.t 163,.t 169,.t 171,.t 180]),o 182 (.bsl 1 1 [.nils] [0] [.t 181]),o 183 (.app 1 24 (.t 161) (.t 182)),o 184 (.ixs 3 (.t 154) (.t 155)),oF 185 2 184,oz (.store 1 (.t 185) (.t 183))])) (.ops [oM 151 15,oA 152 151,oM 15 152]))
def iV:SC:=sQ [oK 15 0] (.blk 8 (.loop d8))
def il:SC:=sQ [oM 92 5,oM 93 10,oX 94 92 93,oL 95 94,oM 12 95] (.seq (sQ [oK 13 0] (.blk 4 (.loop d9))) iV)
def ig:SC:=.ops [oM 80 10,oA 81 80,oM 10 81]
def dL:SC:=.seq (sQ [oM 77 10,oM 78 3,o 79 (.bin .lss (.t 77) (.t 78))] (.cond (.t 79) (.skip) (.exit 2))) (.seq (.blk 3 (sQ [o 11 (.alloc [.int .u8 0,.int .u8 0,.nils])] (.seq (sQ [oM 82 10,oF 83 1 1,oL 84 83,oN 85 84,o 86 (.bin .lss (.t 82) (.t 85))] (.cond (.t 86) (.ops [oF 87 1 1,oL 88 87,oM 89 10,o 90 (.ixs 3 (.t 88) (.t 89)),o 91 (.load true 3 (.t 90)),oz (.store 3 (.t 11) (.t 91))]) (.skip))) il))) ig)
def g9:SC:=sQ [o 186 (.load true 2 (.t 4)),oz (.store 2 (.t 2) (.t 186))] (.ret)
def h_:SC:=.seq (sQ [oK 10 0] (.blk 2 (.loop dL))) g9
def jp:SC:=sQ [oF 16 1 1,oL 17 16,oN 18 17,o 19 (.mx (.t 18) (qI 1)),o 20 (.mn (.t 19) (qI 5)),oM 3 20] (.seq (.feet [0,1,3,7,15,0,32,127,0,511] [oF 21 0 1,oL 22 21,o 23 (.bin .rem (.t 22) (.k (.int .u8 60))),o 24 (.conv .i64 (.t 23)),o 25 (.bin .add (qI 1) (.t 24)),oM 26 3,o 27 (.mks 3 56 [.int .i64 0,.nils,.nils] (.t 26) (.t 26)),o 28 (.build [.int .i64 0,.nils] [(0,1),(1,1)] [.t 25,.t 27]),o 4 (.alloc [.int .i64 0,.nils]),oz (.store 2 (.t 4) (.t 28))]) (.seq (.feet [0,1,0,4,15,31,63] [oM 29 3,o 30 (.mks 1 1 [.int .u8 0] (.t 29) (.t 29)),oF 31 2 1,oL 32 31,o 33 (.build [.nils,.int .u16 0,.nils] [(0,1),(2,1)] [.t 30,.t 32]),o 34 (.call N.aw [.t 33]),oM 5 34]) (sQ [oK 6 1] (.seq (sQ [oK 7 0] (.blk 0 (.loop ej))) h_))))
def gH:SF:=⟨187,[.cell true 2 2],sQ [o 1 (.box (.t 0)),o 2 (.alloc [.int .i64 0,.nils])] jp⟩
def nR:SC:=sQ [o 7 (.load true 2 (.t 1)),o 8 (.call N.aq [.t 7]),oM 6 8,o 9 (.ext (.t 6) 0),o 10 (.ext (.t 6) 1),o 4 (.alloc [.int .i64 0,.nils,.nils,.nils,.nils]),oz (.store 5 (.t 4) (.t 9)),oM 5 10] (sQ [oF 11 3 4,oL 12 11,oM 13 5,oM 2 12,oM 3 13] (.ret))
def mg:SF:=⟨14,[.tm 2,.tm 3],sQ [o 1 (.box (.t 0)),o 2 (.mv (.k (.nils))),oK 3 0] nR⟩
def g7:SC:=.ops [o 14 (.alloc [.int .i64 0,.int .i64 0,.nils]),oz (.store 3 (.t 14) (.t 82))]
def gA:SC:=sQ [o 85 (.bin .lss (.t 84) (qI 4))] (.seq (.cond (.t 85) (.skip) (.exit 2)) (.seq (.blk 3 (sQ [oM 86 84,o 87 (.ix false 4 1 (.t 83) (.t 84)),oM 15 86,oM 16 87] (.feet [0,1,3,0,0,16,0,120,255,0,512,2047,4095] [oM 88 15,o 89 (.ixa 4 1 (.t 13) (.t 88)),oL 90 89,o 91 (.load true 4 (.t 10)),oF 92 2 14,oL 93 92,oM 94 16,o 95 (.call N.ak [.t 91,.t 93,.t 94]),o 96 (.raw (.lookup 129 (.tmp 90) (.tmp 95) false)),oF 97 1 14,oL 98 97,o 99 (.bin .add (.t 96) (.t 98)),oz (.raw (.mapUpdate 129 (.tmp 90) (.tmp 95) (.tmp 99)))]))) (.ops [oA 100 84,oM 84 100])))
def gV:SC:=.blk 1 (sQ [o 83 (.load true 4 (.t 12)),oK 84 0] (.blk 2 (.loop gA)))
def gS:SC:=.ops [o 17 (.alloc [.int .i64 0,.int .i64 0,.nils]),oz (.store 3 (.t 17) (.t 103))]
def gB:SC:=sQ [o 106 (.bin .lss (.t 105) (qI 4))] (.seq (.cond (.t 106) (.skip) (.exit 6)) (.seq (.blk 7 (sQ [oM 107 105,o 108 (.ix false 4 1 (.t 104) (.t 105)),oM 19 107,oM 20 108] (.feet [0,0,2,6,0,0,32,0,240,510,1022,2047,4095] [oM 109 19,oM 110 19,o 111 (.ixa 4 1 (.t 13) (.t 110)),oL 112 111,o 113 (.load true 4 (.t 10)),oF 114 2 17,oL 115 114,oM 116 20,o 117 (.call N.ak [.t 113,.t 115,.t 116]),o 118 (.raw (.lookup 129 (.tmp 112) (.tmp 117) false)),o 119 (.conv .u64 (.t 118)),o 120 (.ixa 4 1 (.t 18) (.t 109)),oz (.store 1 (.t 120) (.t 119))]))) (.ops [oA 121 105,oM 105 121])))
def gY:SC:=sQ [o 123 (.ixa 4 1 (.t 18) (qI 0)),oL 124 123,o 125 (.ixa 4 1 (.t 18) (qI 1)),oL 126 125,o 127 (.call N.aa [.t 124,.t 126]),oM 122 127,o 128 (.ext (.t 122) 0),o 129 (.ext (.t 122) 1),oM 21 128,oM 22 129] (sQ [o 131 (.ixa 4 1 (.t 18) (qI 2)),oL 132 131,o 133 (.ixa 4 1 (.t 18) (qI 3)),oL 134 133,o 135 (.call N.aa [.t 132,.t 134]),oM 130 135,o 136 (.ext (.t 130) 0),o 137 (.ext (.t 130) 1),oM 23 136,oM 24 137] (sQ [oM 138 23,oM 139 21,o 140 (.bin .neq (.t 138) (.t 139)),oM 141 140,og 142 141 false (.mv (.t 24)),og 143 141 false (.mv (.t 22)),og 144 141 false (.bin .neq (.t 142) (.t 143)),o 145 (.pick (.t 141) (.k (.bool true)) (.t 144))] (.cond (.t 145) (sQ [oz (.store 1 (.t 8) (.k (.bool true))),oz (.store 1 (.t 9) (qI 0))] (.ret)) (.skip))))
def gK:SC:=.blk 5 (sQ [o 18 (.alloc [.int .u64 0,.int .u64 0,.int .u64 0,.int .u64 0])] (.seq (sQ [o 104 (.load true 4 (.t 12)),oK 105 0] (.blk 6 (.loop gB))) gY))
def lA:SC:=sQ [oz (.store 1 (.t 8) (.k (.bool false))),oz (.store 1 (.t 9) (qI 0))] (.ret)
def lI:SC:=.seq (sQ [o 101 (.load true 4 (.t 10)),o 102 (.call N.au [.t 101,.k (.nils)])] (.blk 4 (.rng 146 (.t 102) [103] gS gK))) lA
def mi:SC:=sQ [o 26 (.load true 2 (.t 4)),o 27 (.call N.aY [.t 26,.k (.nils)]),oM 25 27,o 28 (.ext (.t 25) 0),o 29 (.ext (.t 25) 1),o 10 (.alloc [.int .i64 0,.nils,.nils,.nils]),oz (.store 4 (.t 10) (.t 28)),oM 11 29] (.seq (sQ [oM 30 11,o 31 (.bin .neq (.t 30) (qI 0))] (.cond (.t 31) (sQ [oM 32 11,oz (.store 1 (.t 8) (.k (.bool false))),oz (.store 1 (.t 9) (.t 32))] (.ret)) (.skip))) (.seq (sQ [oM 33 1,oM 34 2,o 35 (.bin .or (.t 33) (.t 34)),oM 36 3,o 37 (.bin .or (.t 35) (.t 36)),oF 38 0 10,oF 39 1 38,oL 40 39,oN 41 40,o 42 (.bin .shr (.t 37) (.t 41)),o 43 (.bin .neq (.t 42) (.k (.int .u64 0))),oM 44 43,og 45 44 false (.mv (.t 1)),og 46 44 false (.mv (.t 2)),og 47 44 false (.bin .and (.t 45) (.t 46)),og 48 44 false (.bin .neq (.t 47) (.k (.int .u64 0))),o 49 (.pick (.t 44) (.k (.bool true)) (.t 48)),oM 50 49,og 51 50 false (.mv (.t 1)),og 52 50 false (.mv (.t 3)),og 53 50 false (.bin .and (.t 51) (.t 52)),og 54 50 false (.bin .neq (.t 53) (.k (.int .u64 0))),o 55 (.pick (.t 50) (.k (.bool true)) (.t 54)),oM 56 55,og 57 56 false (.mv (.t 2)),og 58 56 false (.mv (.t 3)),og 59 56 false (.bin .and (.t 57) (.t 58)),og 60 56 false (.bin .neq (.t 59) (.k (.int .u64 0))),o 61 (.pick (.t 56) (.k (.bool true)) (.t 60))] (.cond (.t 61) (sQ [oz (.store 1 (.t 8) (.k (.bool false))),oz (.store 1 (.t 9) (qI 2))] (.ret)) (.skip))) (sQ [oM 62 1,oM 63 2,o 64 (.bin .or (.t 62) (.t 63)),oM 65 3,o 66 (.bin .or (.t 64) (.t 65)),oM 67 3,oM 68 1,oM 69 3,o 70 (.bin .or (.t 68) (.t 69)),oM 71 2,oM 72 3,o 73 (.bin .or (.t 71) (.t 72)),o 74 (.build [.int .u64 0,.int .u64 0,.int .u64 0,.int .u64 0] [(0,1),(1,1),(2,1),(3,1)] [.t 66,.t 67,.t 70,.t 73]),o 12 (.alloc [.int .u64 0,.int .u64 0,.int .u64 0,.int .u64 0]),oz (.store 4 (.t 12) (.t 74))] (sQ [o 75 (.raw (.makeMap 129 none)),o 76 (.raw (.makeMap 129 none)),o 77 (.raw (.makeMap 129 none)),o 78 (.raw (.makeMap 129 none)),o 79 (.build [.nilm,.nilm,.nilm,.nilm] [(0,1),(1,1),(2,1),(3,1)] [.t 75,.t 76,.t 77,.t 78]),o 13 (.alloc [.nilm,.nilm,.nilm,.nilm]),oz (.store 4 (.t 13) (.t 79))] (.seq (sQ [o 80 (.load true 4 (.t 10)),o 81 (.call N.au [.t 80,.k (.nils)])] (.blk 0 (.rng 146 (.t 81) [82] g7 gV))) lI)))))
def jR:SF:=⟨146,[.cell false 1 8,.cell false 1 9],sQ [o 4 (.box (.t 0)),o 8 (.alloc [.bool false]),o 9 (.alloc [.int .i64 0])] mi⟩
def fI:SC:=sQ [o 44 (.bin .lss (.t 43) (.t 42))] (.seq (.cond (.t 44) (.skip) (.exit 2)) (.seq (.blk 3 (sQ [oM 45 43,oM 7 45] (.feet [0,1,0,7,15,0,0,96,224,0,992,2047,4095,8191] [oF 46 1 4,oL 47 46,oM 48 7,oX 49 47 48,oL 50 49,oM 51 6,oM 52 7,o 53 (.bin .shr (.t 51) (.t 52)),o 54 (.bin .and (.t 53) (.k (.int .u64 1))),oM 55 5,o 56 (.bin .shl (.t 54) (.t 55)),o 57 (.bin .or (.t 50) (.t 56)),oX 58 47 48,oz (.store 1 (.t 58) (.t 57))]))) (.ops [oA 59 43,oM 43 59])))
def kU:SC:=.ops [oA 60 30,oM 30 60]
def fN:SC:=sQ [o 31 (.bin .lss (.t 30) (.t 29))] (.seq (.cond (.t 31) (.skip) (.exit 0)) (.seq (.blk 1 (sQ [oM 32 30,oX 33 28 30,oL 34 33,oM 5 32,oM 6 34] (.seq (sQ [oM 35 6,oM 36 0,oN 37 36,o 38 (.bin .shr (.t 35) (.t 37)),o 39 (.bin .neq (.t 38) (.k (.int .u64 0)))] (.cond (.t 39) (sQ [o 40 (.build [.nils,.nils] [] []),oz (.store 2 (.t 2) (.t 40)),oK 3 70] (.ret)) (.skip))) (sQ [oM 41 0,oN 42 41,oK 43 0] (.blk 2 (.loop fI)))))) kU))
def fH:SC:=sQ [o 72 (.bin .lss (.t 71) (.t 70))] (.seq (.cond (.t 72) (.skip) (.exit 6)) (.seq (.blk 7 (sQ [oM 73 71,oX 74 69 71,oL 75 74,oM 9 73,oM 10 75] (sQ [oM 76 8,oM 77 9,o 78 (.bin .shr (.t 76) (.t 77)),o 79 (.bin .and (.t 78) (.k (.int .u64 1))),o 80 (.bin .eql (.t 79) (.k (.int .u64 0))),oM 81 80,og 82 81 true (.mv (.t 10)),og 83 81 true (.mv (.t 8)),og 84 81 true (.bin .andNot (.t 82) (.t 83)),og 85 81 true (.bin .eql (.t 84) (.k (.int .u64 0))),o 86 (.pick (.t 81) (.t 85) (.k (.bool false)))] (.cond (.t 86) (sQ [oM 87 8,oM 88 9,o 89 (.bin .shl (.k (.int .u64 1)) (.t 88)),o 90 (.bin .or (.t 87) (.t 89)),oM 8 90] (.exit 5)) (.skip))))) (.ops [oA 91 71,oM 71 91])))
def kW:SC:=sQ [o 92 (.build [.nils,.nils] [] []),oz (.store 2 (.t 2) (.t 92)),oK 3 70] (.ret)
def kK:SC:=.ops [oA 93 65,oM 65 93]
def fK:SC:=sQ [o 66 (.bin .lss (.t 65) (.t 64))] (.seq (.cond (.t 66) (.skip) (.exit 4)) (.seq (.blk 5 (.seq (sQ [oF 67 0 4,oF 68 0 67,oL 69 68,oN 70 69,oK 71 0] (.blk 6 (.loop fH))) kW)) kK))
def ko:SC:=sQ [o 94 (.load true 2 (.t 4)),oz (.store 2 (.t 2) (.t 94)),oK 3 0] (.ret)
def j7:SC:=sQ [o 8 (.mv (.k (.int .u64 0)))] (.seq (.skip) (.seq (sQ [oF 61 0 4,oF 62 0 61,oL 63 62,oN 64 63,oK 65 0] (.blk 4 (.loop fK))) ko))
def dV:SC:=.seq (sQ [oM 11 0,oN 12 11,o 13 (.bin .lss (.t 12) (qI 1)),oM 14 13,og 15 14 false (.mv (.t 0)),og 16 14 false (.len .slice (.t 15)),og 17 14 false (.bin .gtr (.t 16) (qI 8)),o 18 (.pick (.t 14) (.k (.bool true)) (.t 17))] (.cond (.t 18) (sQ [o 19 (.build [.nils,.nils] [] []),oz (.store 2 (.t 2) (.t 19)),oK 3 70] (.ret)) (.skip))) (sQ [oM 20 0,o 21 (.build [.nils] [(0,1)] [.t 20]),oM 22 0,oN 23 22,o 24 (.mks 1 8 [.int .u64 0] (.t 23) (.t 23)),o 25 (.build [.nils,.nils] [(0,1),(1,1)] [.t 21,.t 24]),o 4 (.alloc [.nils,.nils]),oz (.store 2 (.t 4) (.t 25))] (.seq (sQ [oF 26 0 4,oF 27 0 26,oL 28 27,oN 29 28,oK 30 0] (.blk 0 (.loop fN))) j7))
def dF:SF:=⟨95,[.cell true 2 2,.tm 3],sQ [o 2 (.alloc [.nils,.nils]),oK 3 0] dV⟩
def dD:SC:=sQ [o 11 (.bin .lss (.t 10) (.t 9))] (.seq (.cond (.t 11) (.skip) (.exit 0)) (.seq (.blk 1 (sQ [oX 12 8 10,oL 13 12,oM 7 13] (.seq (sQ [oM 14 7,oF 15 0 2,oF 16 0 15,oL 17 16,oN 18 17,o 19 (.bin .shr (.t 14) (.t 18)),o 20 (.bin .neq (.t 19) (.k (.int .u64 0))),oM 21 20,og 22 21 false (.mv (.t 7)),og 23 21 false (.mv (.t 5)),og 24 21 false (.bin .and (.t 22) (.t 23)),og 25 21 false (.bin .neq (.t 24) (.k (.int .u64 0))),o 26 (.pick (.t 21) (.k (.bool true)) (.t 25))] (.cond (.t 26) (sQ [o 4 (.mv (.k (.bool false)))] (.ret)) (.skip))) (.ops [oM 27 5,oM 28 7,o 29 (.bin .or (.t 27) (.t 28)),oM 5 29])))) (.ops [oA 30 10,oM 10 30])))
def dA:SC:=sQ [o 4 (.mv (.k (.bool true)))] (.ret)
def dQ:SC:=sQ [o 5 (.mv (.k (.int .u64 0)))] (.seq (sQ [oM 8 1,oN 9 8,oK 10 0] (.blk 0 (.loop dD))) dA)
def cF:SF:=⟨31,[.tm 4],sQ [o 2 (.box (.t 0)),o 4 (.mv (.k (.bool false)))] dQ⟩
def fc:SC:=.ops [oA 38 25,oM 25 38]
def fg:SC:=sQ [o 26 (.bin .lss (.t 25) (.t 24))] (.seq (.cond (.t 26) (.skip) (.exit 2)) (.seq (.blk 3 (sQ [oM 27 25,oX 28 23 25,oL 29 28,oM 8 27,oM 9 29] (sQ [oL 30 7,oM 31 8,o 32 (.bin .shr (.t 30) (.t 31)),o 33 (.bin .and (.t 32) (.k (.int .u64 1))),o 34 (.bin .eql (.t 33) (.k (.int .u64 1)))] (.cond (.t 34) (.ops [oL 35 7,oM 36 9,o 37 (.bin .or (.t 35) (.t 36)),oz (.store 1 (.t 7) (.t 37))]) (.skip))))) fc))
def kY:SC:=.ops [oA 39 19,oM 19 39]
def li:SC:=sQ [o 20 (.bin .lss (.t 19) (.t 18))] (.seq (.cond (.t 20) (.skip) (.exit 0)) (.seq (.blk 1 (sQ [oF 21 0 3,oF 22 0 21,oL 23 22,oN 24 23,oK 25 0] (.blk 2 (.loop fg)))) kY))
def ff:SC:=.ops [oM 13 44]
def eZ:SC:=.blk 5 (.ops [oL 45 12,oM 46 13,o 47 (.build [.int .i64 0,.bool false] [(0,1),(1,1)] [.t 46,.k (.bool false)]),o 48 (.dyn (.t 45) [.t 47])])
def e_:SC:=sQ [oL 49 10,oM 6 49] (.ret)
def bF:SC:=sQ [o 40 (.raw (.makeMap 144 none)),o 10 (.alloc [.int .u64 0]),o 11 (.alloc [.nilm]),oz (.store 1 (.t 10) (.k (.int .u64 0))),oz (.store 1 (.t 11) (.t 40))] (sQ [o 12 (.alloc [.nilf])] (sQ [o 41 (.mkf N.aT [] [.t 11,.t 5,.t 10,.t 3,.t 12,.t 7]),oz (.store 1 (.t 12) (.t 41))] (.seq (sQ [oM 42 1,o 43 (.call N.ae [.t 42])] (.blk 4 (.rng 50 (.t 43) [44] ff eZ))) e_)))
def fu:SC:=sQ [oL 14 5,o 7 (.alloc [.int .u64 0]),oz (.store 1 (.t 7) (.t 14))] (.seq (sQ [oF 15 0 3,oF 16 0 15,oL 17 16,oN 18 17,oK 19 0] (.blk 0 (.loop li))) bF)
def dw:SF:=⟨50,[.tm 6],sQ [o 3 (.box (.t 0)),o 5 (.box (.t 2)),o 6 (.mv (.k (.int .u64 0)))] fu⟩
def b_:SC:=sQ [o 6 (.mv (.k (.nils)))] (sQ [oM 28 6,oM 29 3,oM 30 5,o 31 (.slc 1 (.t 29) [] [.t 30]),o 32 (.app 1 8 (.t 28) (.t 31)),oM 33 4,o 34 (.bsl 1 1 [.int .i64 0] [0] [.t 33]),o 35 (.app 1 8 (.t 32) (.t 34)),oM 6 35] (.ops [oM 36 6,oM 37 3,oM 38 5,o 39 (.slc 1 (.t 37) [.t 38] []),o 40 (.app 1 8 (.t 36) (.t 39)),oM 3 40]))
def jb:SC:=.ops [oM 12 4,oA 13 12,oM 4 13]
def jc:SC:=.seq (sQ [oM 7 4,o 8 (.load true 3 (.t 1)),o 9 (.call N.aG [.t 8]),oN 10 9,o 11 (.bin .lss (.t 7) (.t 10))] (.cond (.t 11) (.skip) (.exit 0))) (.seq (.blk 1 (sQ [oK 5 0] (.seq (sQ [oM 14 4,oF 15 2 1,oL 16 15,oN 17 16,o 18 (.bin .lss (.t 14) (.t 17))] (.cond (.t 18) (.ops [oF 19 2 1,oL 20 19,oM 21 4,oX 22 20 21,oL 23 22,o 24 (.conv .i64 (.t 23)),oM 25 4,oA 26 25,o 27 (.bin .rem (.t 24) (.t 26)),oM 5 27]) (.skip))) b_))) jb)
def dC:SC:=sQ [oM 41 3,oM 2 41] (.ret)
def dR:SC:=sQ [o 3 (.mv (.k (.nils)))] (.seq (sQ [oK 4 0] (.blk 0 (.loop jc))) dC)
def cE:SF:=⟨42,[.tm 2],sQ [o 1 (.box (.t 0)),o 2 (.mv (.k (.nils)))] dR⟩
def tk:SC:=.seq (sQ [oM 5 4,oM 6 0,oN 7 6,o 8 (.bin .lss (.t 5) (.t 7))] (.cond (.t 8) (.skip) (.exit 0))) (.seq (.blk 1 (.ops [oM 11 3,oM 12 0,oM 13 4,oX 14 12 13,oL 15 14,o 16 (.bin .mul (.t 11) (.t 15)),oM 3 16])) (.ops [oM 9 4,oA 10 9,oM 4 10]))
def nS:SC:=sQ [oM 17 3,oM 2 17] (.ret)
def m8:SF:=⟨18,[.tm 2],sQ [oK 2 0] (sQ [oK 3 1] (.seq (sQ [oK 4 0] (.blk 0 (.loop tk))) nS))⟩
def g_:SC:=.seq (.quiet [o 5 (.load true 2 (.t 2)),o 6 (.call N.aM [.t 5]),oF 7 1 2,oL 8 7,oM 9 1,o 10 (.ixs 3 (.t 8) (.t 9)),oF 11 1 10,oL 12 11,o 13 (.call N.aH [.t 6,.t 12]),oM 4 13]) (.ret)
def fj:SF:=⟨14,[.tm 4],sQ [o 2 (.box (.t 0)),o 4 (.mv (.k (.nils)))] g_⟩
def oC:SC:=.ops [oM 39 10,oM 40 9,oM 41 11,oX 42 40 41,oL 43 42,o 44 (.bin .add (.t 39) (.t 43)),oM 10 44]
def pk:SC:=.ops [oM 20 11,oA 21 20,oM 11 21]
def kG:SC:=.seq (sQ [oM 17 11,oM 18 1,o 19 (.bin .lss (.t 17) (.t 18))] (.cond (.t 19) (.skip) (.exit 0))) (.seq (.blk 1 (.seq (sQ [oM 22 2,oN 23 22,o 24 (.bin .gtr (.t 23) (qI 0))] (.cond (.t 24) (.ops [oM 25 9,oM 26 11,oM 27 2,oM 28 3,oM 29 11,o 30 (.bin .add (.t 28) (.t 29)),oM 31 2,oN 32 31,o 33 (.bin .rem (.t 30) (.t 32)),oX 34 27 33,oL 35 34,o 36 (.bin .rem (.t 35) (.k (.int .u8 8))),o 37 (.conv .i64 (.t 36)),oX 38 25 26,oz (.store 1 (.t 38) (.t 37))]) (.skip))) oC)) pk)
def po:SC:=.ops [oM 68 12,oM 69 9,oM 70 14,oX 71 69 70,oL 72 71,o 73 (.bin .sub (.t 68) (.t 72)),oM 12 73]
def oS:SC:=.ops [oM 49 14,oA 50 49,oM 14 50]
def jP:SC:=.seq (sQ [oM 46 14,oM 47 1,o 48 (.bin .lss (.t 46) (.t 47))] (.cond (.t 48) (.skip) (.exit 2))) (.seq (.blk 3 (.seq (sQ [oM 51 9,oM 52 14,oX 53 51 52,oL 54 53,o 55 (.bin .gtr (.t 54) (qI 0))] (.cond (.t 55) (sQ [oM 56 9,oM 57 14,oM 58 0,oM 59 9,oM 60 14,oX 61 59 60,oL 62 61,o 63 (.bin .mul (.t 58) (.t 62)),oM 64 10,o 65 (.bin .quo (.t 63) (.t 64)),oX 66 56 57,oz (.store 1 (.t 66) (.t 65))] (.ops [oM 67 14,oM 13 67])) (.skip))) po)) oS)
def o5:SC:=sQ [oM 74 9,oM 75 13,oM 76 9,oM 77 13,oX 78 76 77,oL 79 78,oM 80 12,o 81 (.bin .add (.t 79) (.t 80)),oX 82 74 75,oz (.store 1 (.t 82) (.t 81))] (sQ [oM 83 9,oM 8 83] (.ret))
def om:SC:=sQ [oM 45 0,oM 12 45,oK 13 0] (.seq (sQ [oK 14 0] (.blk 2 (.loop jP))) o5)
def pq:SF:=⟨84,[.tm 8],sQ [o 8 (.mv (.k (.nils)))] (sQ [oM 15 1,o 16 (.mks 1 8 [.int .i64 0] (.t 15) (.t 15)),oM 9 16] (sQ [oK 10 0] (.seq (sQ [oK 11 0] (.blk 0 (.loop kG))) om)))⟩
def lY:SC:=sQ [o 51 (.bin .lss (.t 50) (.t 49))] (.seq (.cond (.t 51) (.skip) (.exit 0)) (.seq (.blk 1 (sQ [oM 52 50,o 53 (.ixs 3 (.t 48) (.t 50)),o 54 (.load true 3 (.t 53)),o 7 (.alloc [.int .i64 0,.nils,.nils]),oM 6 52,oz (.store 3 (.t 7) (.t 54))] (.seq (sQ [oF 55 0 7,oL 56 55,o 57 (.bin .lss (.t 56) (qI 1)),oM 58 57,og 59 58 false (.fad 0 (.t 7)),og 60 58 false (.load false 1 (.t 59)),og 61 58 false (.bin .gtr (.t 60) (qI 4)),o 62 (.pick (.t 58) (.k (.bool true)) (.t 61))] (.cond (.t 62) (sQ [o 63 (.build [.int .i64 0,.nils,.nils,.nils,.nils] [] []),oz (.store 5 (.t 2) (.t 63)),oK 3 50] (.ret)) (.skip))) (sQ [oF 64 2 4,oL 65 64,oM 66 6,oF 67 0 7,oL 68 67,oX 69 65 66,oz (.store 1 (.t 69) (.t 68))] (.ops [oM 70 5,oF 71 0 7,oL 72 71,o 73 (.bin .mul (.t 70) (.t 72)),oM 5 73]))))) (.ops [oA 74 50,oM 50 74])))
def lN:SC:=sQ [o 91 (.bin .lss (.t 90) (.t 89))] (.seq (.cond (.t 91) (.skip) (.exit 4)) (.seq (.blk 5 (sQ [oX 92 88 90,oL 93 92,oM 12 93] (.seq (sQ [oM 94 12,oM 95 10,o 96 (.bin .leq (.t 94) (.t 95)),oM 97 96,og 98 97 false (.mv (.t 12)),og 99 97 false (.fad 0 (.t 4)),og 100 97 false (.fad 1 (.t 99)),og 101 97 false (.load false 1 (.t 100)),og 102 97 false (.len .slice (.t 101)),og 103 97 false (.bin .geq (.t 98) (.t 102)),o 104 (.pick (.t 97) (.k (.bool true)) (.t 103)),oM 105 104,og 106 105 false (.mv (.t 12)),og 107 105 false (.mv (.t 8)),og 108 105 false (.bin .eql (.t 106) (.t 107)),o 109 (.pick (.t 105) (.k (.bool true)) (.t 108))] (.cond (.t 109) (sQ [o 110 (.build [.int .i64 0,.nils,.nils,.nils,.nils] [] []),oz (.store 5 (.t 2) (.t 110)),oK 3 50] (.ret)) (.skip))) (sQ [oM 111 12,oM 10 111] (.feet [0,1,0,7,15,0,32,127,255,511] [oF 112 3 4,oL 113 112,oM 114 8,oX 115 113 114,oL 116 115,oM 117 12,o 118 (.bin .shl (.k (.int .u64 1)) (.t 117)),o 119 (.bin .or (.t 116) (.t 118)),oX 120 113 114,oz (.store 1 (.t 120) (.t 119))]))))) (.ops [oA 121 90,oM 90 121])))
def me:SC:=sQ [o 122 (.load true 5 (.t 4)),o 123 (.load true 3 (.t 9)),o 124 (.call N.aF [.t 122,.t 123]),o 125 (.not (.t 124))] (.cond (.t 125) (sQ [o 126 (.build [.int .i64 0,.nils,.nils,.nils,.nils] [] []),oz (.store 5 (.t 2) (.t 126)),oK 3 50] (.ret)) (.skip))
def ql:SC:=.ops [oA 127 82,oM 82 127]
def lR:SC:=sQ [o 83 (.bin .lss (.t 82) (.t 81))] (.seq (.cond (.t 83) (.skip) (.exit 2)) (.seq (.blk 3 (sQ [oM 84 82,o 85 (.ixs 3 (.t 80) (.t 82)),o 86 (.load true 3 (.t 85)),o 9 (.alloc [.int .i64 0,.nils,.nils]),oM 8 84,oz (.store 3 (.t 9) (.t 86))] (sQ [oK 10 (-1)] (.seq (sQ [oF 87 1 9,oL 88 87,oN 89 88,oK 90 0] (.blk 4 (.loop lN))) me)))) ql))
def lV:SC:=sQ [oF 129 3 4,oL 130 129,o 131 (.call N.aR [.t 130]),oM 128 131,o 132 (.ext (.t 128) 0),o 133 (.ext (.t 128) 1),oM 13 132,oM 14 133] (.seq (sQ [oM 134 14,o 135 (.not (.t 134))] (.cond (.t 135) (sQ [o 136 (.build [.int .i64 0,.nils,.nils,.nils,.nils] [] []),oz (.store 5 (.t 2) (.t 136)),oK 3 50] (.ret)) (.skip))) (sQ [oM 137 13,oF 138 4 4,oz (.store 1 (.t 138) (.t 137))] (sQ [o 139 (.load true 5 (.t 4)),oz (.store 5 (.t 2) (.t 139)),oK 3 0] (.ret))))
def qc:SC:=.seq (sQ [oM 75 5,o 76 (.bin .gtr (.t 75) (qI 1024))] (.cond (.t 76) (sQ [o 77 (.build [.int .i64 0,.nils,.nils,.nils,.nils] [] []),oz (.store 5 (.t 2) (.t 77)),oK 3 50] (.ret)) (.skip))) (.seq (sQ [oF 78 0 4,oF 79 1 78,oL 80 79,oN 81 80,oK 82 0] (.blk 2 (.loop lR))) lV)
def rF:SC:=.seq (sQ [oF 15 0 1,oL 16 15,o 17 (.bin .lss (.t 16) (qI 1)),oM 18 17,og 19 18 false (.fad 0 (.t 1)),og 20 18 false (.load false 1 (.t 19)),og 21 18 false (.bin .gtr (.t 20) (qI 60)),o 22 (.pick (.t 18) (.k (.bool true)) (.t 21)),oM 23 22,og 24 23 false (.fad 1 (.t 1)),og 25 23 false (.load false 1 (.t 24)),og 26 23 false (.len .slice (.t 25)),og 27 23 false (.bin .lss (.t 26) (qI 1)),o 28 (.pick (.t 23) (.k (.bool true)) (.t 27)),oM 29 28,og 30 29 false (.fad 1 (.t 1)),og 31 29 false (.load false 1 (.t 30)),og 32 29 false (.len .slice (.t 31)),og 33 29 false (.bin .gtr (.t 32) (qI 8)),o 34 (.pick (.t 29) (.k (.bool true)) (.t 33))] (.cond (.t 34) (sQ [o 35 (.build [.int .i64 0,.nils,.nils,.nils,.nils] [] []),oz (.store 5 (.t 2) (.t 35)),oK 3 50] (.ret)) (.skip))) (.seq (.feet [0,0,2,6,14,0,32,96,224,511,0,2047] [o 36 (.load true 2 (.t 1)),oF 37 1 1,oL 38 37,oN 39 38,o 40 (.mks 1 8 [.int .i64 0] (.t 39) (.t 39)),oF 41 1 1,oL 42 41,oN 43 42,o 44 (.mks 1 8 [.int .u64 0] (.t 43) (.t 43)),o 45 (.build [.int .i64 0,.nils,.nils,.nils,.nils] [(0,2),(2,1),(3,1)] [.t 36,.t 40,.t 44]),o 4 (.alloc [.int .i64 0,.nils,.nils,.nils,.nils]),oz (.store 5 (.t 4) (.t 45))]) (sQ [oK 5 1] (.seq (sQ [oF 46 0 4,oF 47 1 46,oL 48 47,oN 49 48,oK 50 0] (.blk 0 (.loop lY))) qc)))
def kV:SF:=⟨140,[.cell true 5 2,.tm 3],sQ [o 1 (.box (.t 0)),o 2 (.alloc [.int .i64 0,.nils,.nils,.nils,.nils]),oK 3 0] rF⟩
def oT:SC:=sQ [o 28 (.bin .lss (.t 27) (.t 26))] (.seq (.cond (.t 28) (.skip) (.exit 0)) (.seq (.blk 1 (sQ [oX 29 25 27,oL 30 29,oM 9 30] (sQ [o 31 (.load true 2 (.t 2)),oM 32 9,o 33 (.call N.aS [.t 31,.t 32]),oM 10 33] (sQ [oM 34 10,o 35 (.bin .neq (.t 34) (qI 0))] (.cond (.t 35) (sQ [o 36 (.build [.int .i64 0,.nils,.nils,.nils] [] []),oM 37 10,oz (.store 4 (.t 4) (.t 36)),oM 5 37] (.ret)) (.skip)))))) (.ops [oA 38 27,oM 27 38])))
def km:SC:=.seq (sQ [oM 64 15,o 65 (.bin .geq (.t 64) (qI 0))] (.cond (.t 65) (.skip) (.exit 4))) (.seq (.blk 5 (.seq (.feet [0,1,0,7,15,0,32,0,224,480,0,2047,4095] [oF 68 3 11,oL 69 68,oM 70 12,oX 71 69 70,oL 72 71,oF 73 0 13,oL 74 73,oM 75 15,oX 76 74 75,oL 77 76,oM 78 14,oX 79 72 77,oz (.store 1 (.t 79) (.t 78))]) (.ops [oM 80 14,oF 81 1 13,oL 82 81,oM 83 15,oX 84 82 83,oL 85 84,o 86 (.bin .mul (.t 80) (.t 85)),oM 14 86]))) (.ops [oM 66 15,o 67 (.bin .sub (.t 66) (qI 1)),oM 15 67]))
def oq:SC:=.ops [oA 87 47,oM 47 87]
def kP:SC:=sQ [o 48 (.bin .lss (.t 47) (.t 46))] (.seq (.cond (.t 48) (.skip) (.exit 2)) (.seq (.blk 3 (sQ [oM 49 47,o 50 (.ixs 3 (.t 45) (.t 47)),o 51 (.load true 3 (.t 50)),o 13 (.alloc [.nils,.nils,.nils]),oM 12 49,oz (.store 3 (.t 13) (.t 51))] (.seq (.feet [0,1,0,0,8,24,56,127,255] [oF 52 3 11,oL 53 52,oM 54 12,oF 55 1 2,oL 56 55,oN 57 56,o 58 (.mks 1 8 [.int .i64 0] (.t 57) (.t 57)),oX 59 53 54,oz (.store 1 (.t 59) (.t 58))]) (sQ [oK 14 1] (sQ [oF 60 0 13,oL 61 60,oN 62 61,o 63 (.bin .sub (.t 62) (qI 1)),oM 15 63] (.blk 4 (.loop km))))))) oq))
def pA:SC:=sQ [o 88 (.load true 4 (.t 11)),oz (.store 4 (.t 4) (.t 88)),oK 5 0] (.ret)
def pf:SC:=.seq (.feet [0,0,0,4,12,31,0,127] [o 39 (.load true 2 (.t 2)),oM 40 6,oM 41 6,oN 42 41,o 43 (.mks 1 24 [.nils] (.t 42) (.t 42)),o 44 (.build [.int .i64 0,.nils,.nils,.nils] [(0,2),(2,1),(3,1)] [.t 39,.t 40,.t 43]),o 11 (.alloc [.int .i64 0,.nils,.nils,.nils]),oz (.store 4 (.t 11) (.t 44))]) (.seq (sQ [oM 45 6,oN 46 45,oK 47 0] (.blk 2 (.loop kP))) pA)
def qj:SC:=sQ [o 17 (.load true 2 (.t 2)),o 18 (.call N.aQ [.t 17]),oM 16 18,o 19 (.ext (.t 16) 0),o 20 (.ext (.t 16) 1),oM 6 19,oM 7 20] (.seq (sQ [oM 21 7,o 22 (.bin .neq (.t 21) (qI 0))] (.cond (.t 22) (sQ [o 23 (.build [.int .i64 0,.nils,.nils,.nils] [] []),oM 24 7,oz (.store 4 (.t 4) (.t 23)),oM 5 24] (.ret)) (.skip))) (.seq (sQ [oM 25 1,oN 26 25,oK 27 0] (.blk 0 (.loop oT))) pf))
def pp:SF:=⟨89,[.cell true 4 4,.tm 5],sQ [o 2 (.box (.t 0)),o 4 (.alloc [.int .i64 0,.nils,.nils,.nils]),oK 5 0] qj⟩
def dS:SC:=sQ [o 5 (.mkf N.af [] [.t 2,.t 3]),oM 4 5] (.ret)
def cC:SF:=⟨6,[.tm 4],sQ [o 2 (.box (.t 0)),o 3 (.box (.t 1)),o 4 (.mv (.k (.nilf)))] dS⟩
def dY:SC:=.ops [oA 33 12,oM 12 33]
def d5:SC:=sQ [o 13 (.bin .lss (.t 12) (.t 11))] (.seq (.cond (.t 13) (.skip) (.exit 0)) (.seq (.blk 1 (sQ [oM 14 12,oX 15 10 12,oL 16 15,oM 8 14,oM 9 16] (sQ [oM 17 2,oM 18 8,o 19 (.bin .shr (.t 17) (.t 18)),o 20 (.bin .and (.t 19) (.k (.int .u64 1))),o 21 (.bin .eql (.t 20) (.k (.int .u64 1)))] (.cond (.t 21) (.ops [oM 22 7,oF 23 0 3,oF 24 1 23,oL 25 24,oM 26 8,o 27 (.ixs 3 (.t 25) (.t 26)),oF 28 0 27,oL 29 28,o 30 (.bin .mul (.t 22) (.t 29)),oM 31 9,o 32 (.bin .add (.t 30) (.t 31)),oM 7 32]) (.skip))))) dY))
def eA:SC:=sQ [oM 34 7,oM 6 34] (.ret)
def fe:SC:=sQ [oK 7 0] (.seq (sQ [oM 10 1,oN 11 10,oK 12 0] (.blk 0 (.loop d5))) eA)
def cR:SF:=⟨35,[.tm 6],sQ [o 3 (.box (.t 0)),oK 6 0] fe⟩
def cX:SF:=⟨51,[.tm 4,.tm 5],sQ [o 4 (.mv (.k (.int .u64 0))),o 5 (.mv (.k (.int .u64 0)))] (sQ [oM 14 0,o 15 (.bin .and (.t 14) (.k (.int .u64 4294967295))),oM 6 15] (sQ [oM 16 0,o 17 (.bin .shr (.t 16) (.k (.int .u64 32))),oM 7 17] (sQ [oM 18 1,o 19 (.bin .and (.t 18) (.k (.int .u64 4294967295))),oM 8 19] (sQ [oM 20 1,o 21 (.bin .shr (.t 20) (.k (.int .u64 32))),oM 9 21] (sQ [oM 22 6,oM 23 8,o 24 (.bin .mul (.t 22) (.t 23)),oM 10 24] (sQ [oM 25 7,oM 26 8,o 27 (.bin .mul (.t 25) (.t 26)),oM 28 10,o 29 (.bin .shr (.t 28) (.k (.int .u64 32))),o 30 (.bin .add (.t 27) (.t 29)),oM 11 30] (sQ [oM 31 11,o 32 (.bin .and (.t 31) (.k (.int .u64 4294967295))),oM 12 32] (sQ [oM 33 11,o 34 (.bin .shr (.t 33) (.k (.int .u64 32))),oM 13 34] (sQ [oM 35 12,oM 36 6,oM 37 9,o 38 (.bin .mul (.t 36) (.t 37)),o 39 (.bin .add (.t 35) (.t 38)),oM 12 39] (sQ [oM 40 7,oM 41 9,o 42 (.bin .mul (.t 40) (.t 41)),oM 43 13,o 44 (.bin .add (.t 42) (.t 43)),oM 45 12,o 46 (.bin .shr (.t 45) (.k (.int .u64 32))),o 47 (.bin .add (.t 44) (.t 46)),oM 4 47] (sQ [oM 48 0,oM 49 1,o 50 (.bin .mul (.t 48) (.t 49)),oM 5 50] (.ret))))))))))))⟩
def bw:SC:=.ops [oM 8 33]
def br:SC:=.blk 1 (.ops [oL 34 5,oM 35 8,o 36 (.build [.int .i64 0,.bool false] [(0,1),(1,1)] [.t 35,.k (.bool true)]),o 37 (.dyn (.t 34) [.t 36])])
def bp:SC:=.ops [oM 9 69]
def bu:SC:=.blk 3 (.ops [oL 70 5,oM 71 9,o 72 (.build [.int .i64 0,.bool false] [(0,1),(1,1)] [.t 71,.k (.bool false)]),o 73 (.dyn (.t 70) [.t 72])])
def bo:SC:=.seq (sQ [oF 38 1 7,oL 39 38,oM 40 39,og 41 40 true (.load false 1 (.t 6)),og 42 40 true (.fad 0 (.t 7)),og 43 40 true (.load false 1 (.t 42)),og 44 40 true (.bin .shr (.t 41) (.t 43)),og 45 40 true (.bin .and (.t 44) (.k (.int .u64 1))),og 46 40 true (.bin .eql (.t 45) (.k (.int .u64 0))),o 47 (.pick (.t 40) (.t 46) (.k (.bool false))),oM 48 47,og 49 48 false (.fad 1 (.t 7)),og 50 48 false (.load false 1 (.t 49)),og 51 48 false (.not (.t 50)),og 52 48 false (.mv (.t 51)),og 53 52 true (.load false 1 (.t 2)),og 54 52 true (.fad 0 (.t 7)),og 55 52 true (.load false 1 (.t 54)),og 56 52 true (.bin .shr (.t 53) (.t 55)),og 57 52 true (.bin .and (.t 56) (.k (.int .u64 1))),og 58 52 true (.bin .eql (.t 57) (.k (.int .u64 1))),og 59 48 false (.pick (.t 52) (.t 58) (.k (.bool false))),o 60 (.pick (.t 48) (.k (.bool true)) (.t 59))] (.cond (.t 60) (.ret) (.skip))) (sQ [oF 61 0 4,oF 62 0 61,oL 63 62,oF 64 0 7,oL 65 64,oX 66 63 65,oL 67 66,o 68 (.call N.ae [.t 67])] (.blk 2 (.rng 74 (.t 68) [69] bp bu)))
def eB:SC:=.seq (sQ [oL 10 1,o 11 (.load true 2 (.t 7)),o 12 (.raw (.lookup 144 (.tmp 10) (.tmp 11) false))] (.cond (.t 12) (.ret) (.skip))) (sQ [oL 13 1,o 14 (.load true 2 (.t 7)),oz (.raw (.mapUpdate 144 (.tmp 13) (.tmp 14) (.const (.bool true))))] (.seq (sQ [oL 15 2,oF 16 0 7,oL 17 16,o 18 (.bin .shr (.t 15) (.t 17)),o 19 (.bin .and (.t 18) (.k (.int .u64 1))),o 20 (.bin .eql (.t 19) (.k (.int .u64 0)))] (.cond (.t 20) (.seq (.feet [0,0,2,6,15,31] [oL 21 3,oF 22 0 7,oL 23 22,o 24 (.bin .shl (.k (.int .u64 1)) (.t 23)),o 25 (.bin .or (.t 21) (.t 24)),oz (.store 1 (.t 3) (.t 25))]) (sQ [oF 26 1 4,oL 27 26,oF 28 0 7,oL 29 28,oX 30 27 29,oL 31 30,o 32 (.call N.ae [.t 31])] (.blk 0 (.rng 74 (.t 32) [33] bw br)))) (.skip))) bo))
def cO:SF:=⟨74,[],sQ [o 7 (.box (.t 0))] eB⟩
def i4:SC:=sQ [o 3 (.mkf N.an [] [.t 1]),oM 2 3] (.ret)
def fL:SF:=⟨4,[.tm 2],sQ [o 1 (.box (.t 0)),o 2 (.mv (.k (.nilf)))] i4⟩
def nC:SC:=.seq (sQ [oM 5 4,oF 6 0 1,oL 7 6,oN 8 7,o 9 (.bin .lss (.t 5) (.t 8)),oM 10 9,og 11 10 true (.mv (.t 4)),og 12 10 true (.bin .lss (.t 11) (qI 5)),o 13 (.pick (.t 10) (.t 12) (.k (.bool false)))] (.cond (.t 13) (.skip) (.exit 0))) (.seq (.blk 1 (.ops [oM 16 3,oF 17 0 1,oL 18 17,oM 19 4,oX 20 18 19,oL 21 20,o 22 (.bin .rem (.t 21) (.k (.int .u8 4))),o 23 (.conv .i64 (.t 22)),o 24 (.bin .add (qI 1) (.t 23)),o 25 (.bsl 1 1 [.int .i64 0] [0] [.t 24]),o 26 (.app 1 8 (.t 16) (.t 25)),oM 3 26])) (.ops [oM 14 4,oA 15 14,oM 4 15]))
def gJ:SC:=sQ [oM 27 3,oM 2 27] (.ret)
def ij:SC:=sQ [o 3 (.mv (.k (.nils)))] (.seq (sQ [oK 4 0] (.blk 0 (.loop nC))) gJ)
def fk:SF:=⟨28,[.tm 2],sQ [o 1 (.box (.t 0)),o 2 (.mv (.k (.nils)))] ij⟩
def vM:SC:=.seq (sQ [oM 7 6,oM 8 1,oN 9 8,o 10 (.bin .lss (.t 7) (.t 9))] (.cond (.t 10) (.skip) (.exit 0))) (.seq (.blk 1 (.ops [oM 13 5,oM 14 0,oM 15 1,oM 16 6,oX 17 15 16,oL 18 17,oX 19 14 18,oL 20 19,o 21 (.bsl 1 1 [.int .i64 0] [0] [.t 20]),o 22 (.app 1 8 (.t 13) (.t 21)),oM 5 22])) (.ops [oM 11 6,oA 12 11,oM 6 12]))
def qh:SC:=sQ [oM 23 5,oM 4 23] (.ret)
def qH:SF:=⟨24,[.tm 4],sQ [o 4 (.mv (.k (.nils)))] (sQ [o 5 (.mv (.k (.nils)))] (.seq (sQ [oK 6 0] (.blk 0 (.loop vM))) qh))⟩
def mL:SC:=.seq (sQ [oM 5 4,oF 6 1 1,oL 7 6,oN 8 7,o 9 (.bin .lss (.t 5) (.t 8))] (.cond (.t 9) (.skip) (.exit 0))) (.seq (.blk 1 (.ops [oM 12 3,oF 13 1 1,oL 14 13,oM 15 4,o 16 (.ixs 3 (.t 14) (.t 15)),oF 17 0 16,oL 18 17,o 19 (.bsl 1 1 [.int .i64 0] [0] [.t 18]),o 20 (.app 1 8 (.t 12) (.t 19)),oM 3 20])) (.ops [oM 10 4,oA 11 10,oM 4 11]))
def mS:SC:=sQ [oM 21 3,oM 2 21] (.ret)
def nN:SC:=sQ [o 3 (.mv (.k (.nils)))] (.seq (sQ [oK 4 0] (.blk 0 (.loop mL))) mS)
def mc:SF:=⟨22,[.tm 2],sQ [o 1 (.box (.t 0)),o 2 (.mv (.k (.nils)))] nN⟩
def gn:SC:=sQ [o 17 (.bin .lss (.t 16) (.t 15))] (.seq (.cond (.t 17) (.skip) (.exit 0)) (.seq (.blk 1 (sQ [oX 18 14 16,oL 19 18,oM 7 19] (.ops [oM 20 5,oF 21 2 2,oL 22 21,oM 23 7,oX 24 22 23,oL 25 24,o 26 (.bin .mul (.t 20) (.t 25)),oM 5 26]))) (.ops [oA 27 16,oM 16 27])))
def gc:SC:=.ops [oM 9 36]
def dg:SC:=sQ [o 43 (.bin .lss (.t 42) (.t 41))] (.seq (.cond (.t 43) (.skip) (.exit 4)) (.seq (.blk 5 (sQ [oX 44 40 42,oL 45 44,oM 12 45] (.seq (sQ [oM 46 12,o 47 (.bin .lss (.t 46) (qI 0)),oM 48 47,og 49 48 false (.mv (.t 12)),og 50 48 false (.mv (.t 10)),og 51 48 false (.bin .gtr (.t 49) (.t 50)),o 52 (.pick (.t 48) (.k (.bool true)) (.t 51))] (.cond (.t 52) (sQ [oz (.store 1 (.t 4) (.k (.bool false)))] (.ret)) (.skip))) (.ops [oM 53 10,oM 54 12,o 55 (.bin .sub (.t 53) (.t 54)),oM 10 55])))) (.ops [oA 56 42,oM 42 56])))
def bO:SC:=sQ [oM 57 9,oN 58 57,oF 59 0 3,oL 60 59,o 61 (.bin .neq (.t 58) (.t 60)),oM 62 61,og 63 62 false (.mv (.t 10)),og 64 62 false (.bin .neq (.t 63) (qI 0)),o 65 (.pick (.t 62) (.k (.bool true)) (.t 64))] (.cond (.t 65) (sQ [oz (.store 1 (.t 4) (.k (.bool false)))] (.ret)) (.skip))
def ge:SC:=.blk 3 (sQ [oF 37 0 2,oF 38 0 37,oL 39 38,oM 10 39] (.seq (sQ [oM 40 9,oN 41 40,oK 42 0] (.blk 4 (.loop dg))) bO))
def fV:SC:=sQ [oz (.store 1 (.t 4) (.k (.bool true)))] (.ret)
def f_:SC:=.seq (sQ [oF 28 2 3,oL 29 28,oN 30 29,oM 31 5,o 32 (.bin .neq (.t 30) (.t 31))] (.cond (.t 32) (sQ [oz (.store 1 (.t 4) (.k (.bool false)))] (.ret)) (.skip))) (.seq (sQ [o 33 (.load true 3 (.t 3)),o 34 (.call N.ap [.t 33])] (.blk 2 (.rng 66 (.t 34) [35,36] gc ge))) fV)
def gF:SC:=sQ [oK 5 1] (.seq (sQ [oF 13 1 3,oL 14 13,oN 15 14,oK 16 0] (.blk 0 (.loop gn))) f_)
def eL:SF:=⟨66,[.cell false 1 4],sQ [o 2 (.box (.t 0)),o 3 (.box (.t 1)),o 4 (.alloc [.bool false])] gF⟩
def nU:SC:=sQ [o 19 (.bin .lss (.t 18) (.t 17))] (.seq (.cond (.t 19) (.skip) (.exit 2)) (.seq (.blk 3 (sQ [oM 20 18,oX 21 16 18,oL 22 21,oM 6 20,oM 7 22] (sQ [oM 23 5,oM 24 6,o 25 (.bin .shr (.t 23) (.t 24)),o 26 (.bin .and (.t 25) (.k (.int .u64 1))),o 27 (.bin .eql (.t 26) (.k (.int .u64 0))),oM 28 27,og 29 28 true (.mv (.t 7)),og 30 28 true (.mv (.t 5)),og 31 28 true (.bin .andNot (.t 29) (.t 30)),og 32 28 true (.bin .eql (.t 31) (.k (.int .u64 0))),o 33 (.pick (.t 28) (.t 32) (.k (.bool false)))] (.cond (.t 33) (sQ [oM 34 4,oM 35 6,o 36 (.bsl 1 1 [.int .i64 0] [0] [.t 35]),o 37 (.app 1 8 (.t 34) (.t 36)),oM 4 37] (sQ [oM 38 5,oM 39 6,o 40 (.bin .shl (.k (.int .u64 1)) (.t 39)),o 41 (.bin .or (.t 38) (.t 40)),oM 5 41] (.exit 1))) (.skip))))) (.ops [oA 42 18,oM 18 42])))
def nW:SC:=sQ [o 2 (.mv (.k (.nils))),o 3 (.mv (.k (.bool false)))] (.ret)
def nQ:SC:=.seq (sQ [oM 11 4,oN 12 11,oM 13 0,oN 14 13,o 15 (.bin .lss (.t 12) (.t 14))] (.cond (.t 15) (.skip) (.exit 0))) (.blk 1 (.seq (sQ [oM 16 0,oN 17 16,oK 18 0] (.blk 2 (.loop nU))) nW))
def nO:SC:=sQ [oM 43 4,oM 2 43,o 3 (.mv (.k (.bool true)))] (.ret)
def nL:SF:=⟨44,[.tm 2,.tm 3],sQ [o 2 (.mv (.k (.nils))),o 3 (.mv (.k (.bool false)))] (sQ [oM 8 0,oN 9 8,o 10 (.mks 1 8 [.int .i64 0] (qI 0) (.t 9)),oM 4 10,o 5 (.mv (.k (.int .u64 0)))] (.seq (.skip) (.seq (.blk 0 (.loop nQ)) nO)))⟩
def mQ:SC:=sQ [o 24 (.bin .lss (.t 23) (.t 22))] (.seq (.cond (.t 24) (.skip) (.exit 0)) (.seq (.blk 1 (sQ [oM 25 23,oM 7 25] (.ops [oM 26 6,oM 27 7,o 28 (.load true 5 (.t 4)),oM 29 7,o 30 (.call N.aZ [.t 28,.t 29]),o 31 (.ixs 3 (.t 26) (.t 27)),oz (.store 3 (.t 31) (.t 30))]))) (.ops [oA 32 23,oM 23 32])))
def mN:SC:=sQ [oM 33 6,oM 2 33,oK 3 0] (.ret)
def nT:SC:=sQ [o 9 (.load true 2 (.t 1)),o 10 (.call N.aq [.t 9]),oM 8 10,o 11 (.ext (.t 8) 0),o 12 (.ext (.t 8) 1),o 4 (.alloc [.int .i64 0,.nils,.nils,.nils,.nils]),oz (.store 5 (.t 4) (.t 11)),oM 5 12] (.seq (sQ [oM 13 5,o 14 (.bin .neq (.t 13) (qI 0))] (.cond (.t 14) (sQ [oM 15 5,o 2 (.mv (.k (.nils))),oM 3 15] (.ret)) (.skip))) (sQ [oF 16 0 4,oF 17 1 16,oL 18 17,oN 19 18,o 20 (.mks 3 72 [.nils,.nils,.nils] (.t 19) (.t 19)),oM 6 20] (.seq (sQ [oM 21 6,oN 22 21,oK 23 0] (.blk 0 (.loop mQ))) mN)))
def l5:SF:=⟨34,[.tm 2,.tm 3],sQ [o 1 (.box (.t 0)),o 2 (.mv (.k (.nils))),oK 3 0] nT⟩
def gZ:SC:=sQ [o 27 (.bin .lss (.t 26) (.t 25))] (.seq (.cond (.t 27) (.skip) (.exit 0)) (.seq (.blk 1 (sQ [oM 28 26,oX 29 24 26,oL 30 29,oM 7 28,oM 8 30] (sQ [oM 31 8,o 32 (.bin .lss (.t 31) (qI (-1))),oM 33 32,og 34 33 false (.mv (.t 8)),og 35 33 false (.fad 2 (.t 5)),og 36 33 false (.load false 1 (.t 35)),og 37 33 false (.mv (.t 7)),og 38 33 false (.ixs 1 (.t 36) (.t 37)),og 39 33 false (.load false 1 (.t 38)),og 40 33 false (.bin .geq (.t 34) (.t 39)),o 41 (.pick (.t 33) (.k (.bool true)) (.t 40))] (.cond (.t 41) (sQ [oK 4 2] (.ret)) (.skip))))) (.ops [oA 42 26,oM 26 42])))
def gL:SC:=sQ [oK 4 0] (.ret)
def ic:SC:=sQ [o 10 (.load true 2 (.t 2)),o 11 (.call N.aq [.t 10]),oM 9 11,o 12 (.ext (.t 9) 0),o 13 (.ext (.t 9) 1),o 5 (.alloc [.int .i64 0,.nils,.nils,.nils,.nils]),oz (.store 5 (.t 5) (.t 12)),oM 6 13] (.seq (sQ [oM 14 6,o 15 (.bin .neq (.t 14) (qI 0))] (.cond (.t 15) (sQ [oM 16 6,oM 4 16] (.ret)) (.skip))) (.seq (sQ [oM 17 1,oN 18 17,oF 19 0 5,oF 20 1 19,oL 21 20,oN 22 21,o 23 (.bin .neq (.t 18) (.t 22))] (.cond (.t 23) (sQ [oK 4 2] (.ret)) (.skip))) (.seq (sQ [oM 24 1,oN 25 24,oK 26 0] (.blk 0 (.loop gZ))) gL)))
def fp:SF:=⟨43,[.tm 4],sQ [o 2 (.box (.t 0)),oK 4 0] ic⟩
def a_:SC:=.seq (.seq (.quiet [oM 31 6,o 32 (.bin .geq (.t 31) (qI 0)),oM 33 32,og 34 33 true (.mv (.t 4)),og 35 33 true (.mv (.t 6)),og 36 33 true (.ixs 1 (.t 34) (.t 35)),og 37 33 true (.load false 1 (.t 36)),og 38 33 true (.fad 0 (.t 1)),og 39 33 true (.fad 1 (.t 38)),og 40 33 true (.load false 1 (.t 39)),og 41 33 true (.mv (.t 6)),og 42 33 true (.ixs 3 (.t 40) (.t 41)),og 43 33 true (.fad 0 (.t 42)),og 44 33 true (.load false 1 (.t 43)),og 45 33 true (.bin .sub (.t 44) (qI 1)),og 46 33 true (.bin .eql (.t 37) (.t 45)),o 47 (.pick (.t 33) (.t 46) (.k (.bool false)))]) (.cond (.t 47) (.skip) (.exit 2))) (.blk 3 (sQ [oM 48 4,oM 49 6,oX 50 48 49,oz (.store 1 (.t 50) (qI 0))] (.ops [oM 51 6,o 52 (.bin .sub (.t 51) (qI 1)),oM 6 52])))
def be:SC:=.seq (sQ [oM 53 6,o 54 (.bin .lss (.t 53) (qI 0))] (.cond (.t 54) (.ret) (.skip))) (.ops [oM 55 4,oM 56 6,oX 57 55 56,oL 58 57,oA 59 58,oX 60 55 56,oz (.store 1 (.t 60) (.t 59))])
def bH:SC:=.ops [oM 12 5,oA 13 12,oM 5 13]
def cT:SC:=.seq (.blk 1 (.seq (sQ [oM 14 4,oL 15 2,o 16 (.call N.aU [.t 14,.t 15]),oM 17 16,og 18 17 true (.mv (.t 0)),og 19 17 true (.mv (.t 5)),og 20 17 true (.load true 4 (.t 1)),og 21 17 true (.mv (.t 4)),og 22 17 true (.call N.aX [.t 20,.t 21]),og 23 17 true (.mv (.t 4)),og 24 17 true (.build [.int .i64 0,.int .i64 0,.nils] [(0,1),(1,1),(2,1)] [.t 19,.t 22,.t 23]),og 25 17 true (.dyn (.t 18) [.t 24]),og 26 17 true (.not (.t 25)),o 27 (.pick (.t 17) (.t 26) (.k (.bool false)))] (.cond (.t 27) (.ret) (.skip))) (sQ [oM 28 4,oN 29 28,o 30 (.bin .sub (.t 29) (qI 1)),oM 6 30] (.seq (.blk 2 (.loop a_)) be)))) bH
def aC:SF:=⟨61,[],sQ [oF 7 0 1,oF 8 1 7,oL 9 8,oN 10 9,o 11 (.mks 1 8 [.int .i64 0] (.t 10) (.t 10)),oM 4 11] (sQ [oK 5 0] (.blk 0 (.loop cT)))⟩
def kH:SC:=sQ [o 11 (.bin .lss (.t 10) (.t 9))] (.seq (.cond (.t 11) (.skip) (.exit 0)) (.seq (.blk 1 (sQ [oM 12 10,oX 13 8 10,oL 14 13,oM 6 12,oM 7 14] (sQ [oM 15 7] (.blk 2 (.seq (sQ [o 17 (.bin .eql (.t 15) (qI (-1))),oM 16 17] (.cond (.t 16) (.skip) (.ops [oM 18 0,oM 19 6,oX 20 18 19,oL 21 20,o 22 (.bin .eql (.t 15) (.t 21)),oM 16 22]))) (.cond (.t 16) (.skip) (sQ [o 5 (.mv (.k (.bool false)))] (.exit 0)))))))) (.ops [oA 23 10,oM 10 23])))
def fF:SC:=sQ [oM 24 5,oM 4 24] (.ret)
def jg:SF:=⟨25,[.tm 4],sQ [o 4 (.mv (.k (.bool false)))] (sQ [o 5 (.mv (.k (.bool true)))] (.seq (.skip) (.seq (sQ [oM 8 1,oN 9 8,oK 10 0] (.blk 0 (.loop kH))) fF)))⟩
def ct:SC:=sQ [o 23 (.bin .lss (.t 22) (.t 21))] (.seq (.cond (.t 23) (.skip) (.exit 2)) (.seq (.blk 3 (sQ [oX 24 20 22,oL 25 24,oM 10 25] (.quiet [oM 26 8,oM 27 1,oM 28 10,oX 29 27 28,oL 30 29,oF 31 3 2,oL 32 31,oM 33 6,oX 34 32 33,oL 35 34,oM 36 10,oX 37 35 36,oL 38 37,o 39 (.bin .mul (.t 30) (.t 38)),o 40 (.bin .add (.t 26) (.t 39)),oM 8 40]))) (.ops [oA 41 22,oM 22 41])))
def ew:SC:=.ops [oM 42 5,oF 43 2 7,oL 44 43,oM 45 8,oX 46 44 45,oL 47 46,o 48 (.bin .mul (.t 42) (.t 47)),oM 5 48]
def dX:SC:=.ops [oA 49 14,oM 14 49]
def d7:SC:=sQ [o 15 (.bin .lss (.t 14) (.t 13))] (.seq (.cond (.t 15) (.skip) (.exit 0)) (.seq (.blk 1 (sQ [oM 16 14,o 17 (.ixs 3 (.t 12) (.t 14)),o 18 (.load true 3 (.t 17)),o 7 (.alloc [.nils,.nils,.nils]),oM 6 16,oz (.store 3 (.t 7) (.t 18))] (sQ [oK 8 0] (.seq (sQ [oF 19 0 7,oL 20 19,oN 21 20,oK 22 0] (.blk 2 (.loop ct))) ew)))) dX))
def dZ:SC:=sQ [oM 50 5,oM 4 50] (.ret)
def fd:SC:=sQ [oK 5 1] (.seq (sQ [oF 11 2 2,oL 12 11,oN 13 12,oK 14 0] (.blk 0 (.loop d7))) dZ)
def cY:SF:=⟨51,[.tm 4],sQ [o 2 (.box (.t 0)),oK 4 0] fd⟩
def gk:SC:=.seq (sQ [oM 5 3,o 6 (.bin .neq (.t 5) (.k (.int .u64 0)))] (.cond (.t 6) (.skip) (.exit 0))) (.seq (.blk 1 (sQ [oM 11 0,oM 12 3,o 13 (.call N.aO [.t 12]),o 14 (.dyn (.t 11) [.t 13]),o 15 (.not (.t 14))] (.cond (.t 15) (.ret) (.skip)))) (.ops [oM 7 3,oM 8 3,o 9 (.bin .sub (.t 8) (.k (.int .u64 1))),o 10 (.bin .and (.t 7) (.t 9)),oM 3 10]))
def bm:SF:=⟨16,[],sQ [oL 4 1,oM 3 4] (.blk 0 (.loop gk))⟩
def cN:SF:=⟨8,[.tm 2],sQ [oK 2 0] (.seq (.cond (.k (.bool false)) (sQ [oM 3 0,o 4 (.conv .u32 (.t 3)),o 5 (.call N.a_ [.t 4]),oM 2 5] (.ret)) (.skip)) (sQ [oM 6 0,o 7 (.call N.aV [.t 6]),oM 2 7] (.ret)))⟩
def rJ:SC:=sQ [o 3 (.mkf N.ah [] [.t 1]),oM 2 3] (.ret)
def qp:SF:=⟨4,[.tm 2],sQ [o 1 (.box (.t 0)),o 2 (.mv (.k (.nilf)))] rJ⟩
def gq:SC:=.ops [oA 65 40,oM 40 65]
def dc:SC:=sQ [o 41 (.bin .lss (.t 40) (.t 39))] (.seq (.cond (.t 41) (.skip) (.exit 0)) (.seq (.blk 1 (sQ [oM 42 40,oX 43 38 40,oL 44 43,oM 10 42,oM 11 44] (.seq (.feet [0,1,0,4,0,28,60,124,255,511,1023] [oF 45 1 8,oL 46 45,oF 47 2 2,oL 48 47,oM 49 11,oX 50 48 49,oL 51 50,o 52 (.bsl 1 1 [.int .i64 0] [0] [.t 51]),o 53 (.app 1 8 (.t 46) (.t 52)),oF 54 1 8,oz (.store 1 (.t 54) (.t 53))]) (sQ [oM 55 10,oM 56 6,o 57 (.bin .gtr (.t 55) (.t 56))] (.cond (.t 57) (.feet [0,0,2,0,14,30,63,127] [oL 58 9,oF 59 2 2,oL 60 59,oM 61 11,oX 62 60 61,oL 63 62,o 64 (.bin .mul (.t 58) (.t 63)),oz (.store 1 (.t 9) (.t 64))]) (.skip)))))) gq))
def da:SC:=sQ [oM 12 76] (.ops [oM 13 77])
def c_:SC:=sQ [o 81 (.bin .lss (.t 80) (.t 79))] (.seq (.cond (.t 81) (.skip) (.exit 4)) (.seq (.blk 5 (sQ [oM 82 80,oX 83 78 80,oL 84 83,oM 14 82,oM 15 84] (.feet [0,1,0,0,12,0,32,124,0,508,0,2044,0,0,12288,32764,0,131071,262143] [oF 85 2 8,oL 86 85,oM 87 12,oL 88 9,o 89 (.bin .quo (.t 87) (.t 88)),oF 90 0 5,oL 91 90,o 92 (.bin .mul (.t 89) (.t 91)),oM 93 14,o 94 (.bin .add (.t 92) (.t 93)),oL 95 9,o 96 (.bin .mul (.t 94) (.t 95)),oM 97 12,oL 98 9,o 99 (.bin .rem (.t 97) (.t 98)),o 100 (.bin .add (.t 96) (.t 99)),oM 101 15,oX 102 86 100,oz (.store 1 (.t 102) (.t 101))]))) (.ops [oA 103 80,oM 80 103])))
def cU:SC:=.blk 3 (sQ [oM 78 13,oN 79 78,oK 80 0] (.blk 4 (.loop c_)))
def fX:SC:=sQ [o 104 (.load true 3 (.t 8)),oz (.store 3 (.t 4) (.t 104))] (.ret)
def fT:SC:=sQ [oF 66 2 5,oL 67 66,oN 68 67,oF 69 0 5,oL 70 69,o 71 (.bin .mul (.t 68) (.t 70)),o 72 (.mks 1 8 [.int .i64 0] (.t 71) (.t 71)),oF 73 2 8,oz (.store 1 (.t 73) (.t 72))] (.seq (sQ [o 74 (.load true 3 (.t 5)),o 75 (.call N.ap [.t 74])] (.blk 2 (.rng 105 (.t 75) [76,77] da cU))) fX)
def gM:SC:=sQ [oF 16 0 2,oF 17 1 16,oL 18 17,oM 19 1,o 20 (.ixs 3 (.t 18) (.t 19)),o 21 (.load true 3 (.t 20)),o 5 (.alloc [.int .i64 0,.nils,.nils]),oz (.store 3 (.t 5) (.t 21))] (sQ [oF 23 1 5,oL 24 23,oM 25 1,o 26 (.call N.aA [.t 24,.t 25]),oM 22 26,o 27 (.ext (.t 22) 0),o 28 (.ext (.t 22) 1),oM 6 27,oM 7 28] (sQ [oF 29 1 5,oL 30 29,o 31 (.call N.aJ [.t 30]),oM 32 6,oM 33 1,o 34 (.bsl 1 1 [.int .i64 0] [0] [.t 33]),o 35 (.call N.a8 [.t 31,.t 32,.t 34]),o 36 (.build [.nils,.nils,.nils] [(0,1)] [.t 35]),o 8 (.alloc [.nils,.nils,.nils]),oz (.store 3 (.t 8) (.t 36))] (sQ [o 9 (.alloc [.int .i64 0]),oz (.store 1 (.t 9) (qI 1))] (.seq (sQ [oF 37 0 8,oL 38 37,oN 39 38,oK 40 0] (.blk 0 (.loop dc))) fT))))
def eD:SF:=⟨105,[.cell true 3 4],sQ [o 2 (.box (.t 0)),o 4 (.alloc [.nils,.nils,.nils])] gM⟩
def cy:SF:=⟨14,[.tm 2],sQ [oK 2 0] (.seq (sQ [oM 3 0,o 4 (.bin .eql (.t 3) (.k (.int .u64 0)))] (.cond (.t 4) (sQ [oK 2 64] (.ret)) (.skip))) (sQ [oM 5 0,oM 6 0,o 7 (.un .neg (.t 6)),o 8 (.bin .and (.t 5) (.t 7)),o 9 (.bin .mul (.t 8) (.k (.int .u64 285870213051353865))),o 10 (.bin .shr (.t 9) (.k (.int .u64 58))),o 11 (.ixa 64 1 (.k (.tptr 0 64 [[.int .u8 0,.int .u8 1,.int .u8 56,.int .u8 2,.int .u8 57,.int .u8 49,.int .u8 28,.int .u8 3,.int .u8 61,.int .u8 58,.int .u8 42,.int .u8 50,.int .u8 38,.int .u8 29,.int .u8 17,.int .u8 4,.int .u8 62,.int .u8 47,.int .u8 59,.int .u8 36,.int .u8 45,.int .u8 43,.int .u8 51,.int .u8 22,.int .u8 53,.int .u8 39,.int .u8 33,.int .u8 30,.int .u8 24,.int .u8 18,.int .u8 12,.int .u8 5,.int .u8 63,.int .u8 55,.int .u8 48,.int .u8 27,.int .u8 60,.int .u8 41,.int .u8 37,.int .u8 16,.int .u8 46,.int .u8 35,.int .u8 44,.int .u8 21,.int .u8 52,.int .u8 32,.int .u8 23,.int .u8 11,.int .u8 54,.int .u8 26,.int .u8 40,.int .u8 15,.int .u8 34,.int .u8 20,.int .u8 31,.int .u8 10,.int .u8 25,.int .u8 14,.int .u8 19,.int .u8 9,.int .u8 13,.int .u8 8,.int .u8 7,.int .u8 6]] 0 0)) (.t 10)),oL 12 11,o 13 (.conv .i64 (.t 12)),oM 2 13] (.ret)))⟩
def nX:SC:=sQ [o 9 (.bin .lss (.t 8) (.t 7))] (.seq (.cond (.t 9) (.skip) (.exit 0)) (.seq (.blk 1 (sQ [oM 10 8,oX 11 6 8,oL 12 11,oM 3 10,oM 4 12] (sQ [oM 13 0,oM 14 3,oM 15 4,o 16 (.dyn (.t 13) [.t 14,.t 15]),o 17 (.not (.t 16))] (.cond (.t 17) (.ret) (.skip))))) (.ops [oA 18 8,oM 8 18])))
def eV:SF:=⟨19,[],sQ [oF 5 2 1,oL 6 5,oN 7 6,oK 8 0] (.blk 0 (.loop nX))⟩
def di:SC:=.seq (sQ [oM 13 7,oM 14 8,o 15 (.bin .lss (.t 13) (.t 14))] (.cond (.t 15) (.skip) (.exit 0))) (.blk 1 (sQ [oM 16 7,oM 17 8,o 18 (.bin .add (.t 16) (.t 17)),o 19 (.conv .u64 (.t 18)),o 20 (.bin .shr (.t 19) (.k (.int .u64 1))),o 21 (.conv .i64 (.t 20)),oM 9 21] (sQ [oM 22 0,oM 23 9,oX 24 22 23,oL 25 24,oM 26 1,o 27 (.call N.aP [.t 25,.t 26])] (.cond (.t 27) (.ops [oM 28 9,oA 29 28,oM 7 29]) (.ops [oM 30 9,oM 8 30])))))
def cS:SC:=sQ [oM 31 7,oM 32 7,oM 33 6,o 34 (.bin .lss (.t 32) (.t 33)),oM 35 34,og 36 35 true (.mv (.t 0)),og 37 35 true (.mv (.t 7)),og 38 35 true (.ixs 1 (.t 36) (.t 37)),og 39 35 true (.load false 1 (.t 38)),og 40 35 true (.mv (.t 1)),og 41 35 true (.bin .eql (.t 39) (.t 40)),og 42 35 true (.mv (.t 41)),og 43 42 false (.mv (.t 0)),og 44 42 false (.mv (.t 7)),og 45 42 false (.ixs 1 (.t 43) (.t 44)),og 46 42 false (.load false 1 (.t 45)),og 47 42 false (.call N.aD [.t 46]),og 48 42 false (.mv (.t 47)),og 49 48 true (.mv (.t 1)),og 50 48 true (.call N.aD [.t 49]),og 51 42 false (.pick (.t 48) (.t 50) (.k (.bool false))),og 52 35 true (.pick (.t 42) (.k (.bool true)) (.t 51)),o 53 (.pick (.t 35) (.t 52) (.k (.bool false))),oM 4 31,oM 5 53] (.ret)
def ck:SF:=⟨54,[.tm 4,.tm 5],sQ [oK 4 0,o 5 (.mv (.k (.bool false)))] (sQ [oM 10 0,oN 11 10,oM 6 11] (sQ [oM 12 6,oK 7 0,oM 8 12] (.seq (.blk 0 (.loop di)) cS)))⟩
def cI:SF:=⟨8,[.tm 2],sQ [o 2 (.mv (.k (.nils)))] (.seq (sQ [oM 3 0,o 4 (.eq false .slice (.t 3) (.k (.nils)))] (.cond (.t 4) (sQ [o 2 (.mv (.k (.nils)))] (.ret)) (.skip))) (sQ [o 5 (.bsl 1 0 [.int .i64 0] [] []),oM 6 0,o 7 (.app 1 8 (.t 5) (.t 6)),oM 2 7] (.ret)))⟩
def lU:SF:=⟨17,[.tm 4],sQ [o 4 (.mv (.k (.bool false)))] (sQ [oM 5 0,o 6 (.call N.ax [.t 5]),oM 7 6,og 8 7 true (.mv (.t 1)),og 9 7 true (.call N.ax [.t 8]),og 10 7 true (.not (.t 9)),o 11 (.pick (.t 7) (.t 10) (.k (.bool false))),oM 12 11,og 13 12 false (.mv (.t 0)),og 14 12 false (.mv (.t 1)),og 15 12 false (.bin .lss (.t 13) (.t 14)),o 16 (.pick (.t 12) (.k (.bool true)) (.t 15)),oM 4 16] (.ret))⟩
def gX:SF:=⟨6,[.tm 2],sQ [o 2 (.mv (.k (.bool false)))] (sQ [oM 3 0,oM 4 0,o 5 (.bin .neq (.t 3) (.t 4)),oM 2 5] (.ret))⟩
def kh:SF:=⟨6,[.tm 2],sQ [o 2 (.mv (.k (.bool false)))] (sQ [oM 3 0,oM 4 0,o 5 (.bin .neq (.t 3) (.t 4)),oM 2 5] (.ret))⟩
theorem mW:nFn C0 N.a7=some dM:=by kernel_rfl
theorem q7:nFn C0 N.aB=some im:=by kernel_rfl
theorem pW (d:Nat)(xs:List AV)(g:G):aA C0 d N.aB xs g=aq (I C0) d g N.aB xs:=by kernel_rfl
theorem qs:nFn C0 N.aW=some gH:=by kernel_rfl
theorem pi (d:Nat)(xs:List AV)(g:G):aA C0 d N.aW xs g=aq (I C0) d g N.aW xs:=by kernel_rfl
theorem uz:nFn C0 N.aI=some mg:=by kernel_rfl
theorem so (d:Nat)(xs:List AV)(g:G):aA C0 d N.aI xs g=aq (I C0) d g N.aI xs:=by kernel_rfl
theorem tw:nFn C0 N.aC=some jR:=by kernel_rfl
theorem qU (d:Nat)(xs:List AV)(g:G):aA C0 d N.aC xs g=aq (I C0) d g N.aC xs:=by kernel_rfl
theorem rZ:nFn C0 N.aN=some dF:=by kernel_rfl
theorem qR (d:Nat)(xs:List AV)(g:G):aA C0 d N.aN xs g=aq (I C0) d g N.aN xs:=by kernel_rfl
theorem jV:nFn C0 N.ay=some cF:=by kernel_rfl
theorem ja (d:Nat)(xs:List AV)(g:G):aA C0 d N.ay xs g=aq (I C0) d g N.ay xs:=by kernel_rfl
theorem mD:nFn C0 N.aL=some dw:=by kernel_rfl
theorem k_ (d:Nat)(xs:List AV)(g:G):aA C0 d N.aL xs g=aq (I C0) d g N.aL xs:=by kernel_rfl
theorem ku:nFn C0 N.aw=some cE:=by kernel_rfl
theorem jk (t:T)(g:G)(xs:List Od):SO.foot C0 t g (.call N.aw xs)=am ((iX t xs).flatMap (au g.h ay)):=by kernel_rfl
theorem ji (d:Nat)(xs:List AV)(g:G):aA C0 d N.aw xs g=aq (I C0) d g N.aw xs:=by kernel_rfl
theorem vQ:nFn C0 N.aE=some m8:=by kernel_rfl
theorem tx (d:Nat)(xs:List AV)(g:G):aA C0 d N.aE xs g=aq (I C0) d g N.aE xs:=by kernel_rfl
theorem oB:nFn C0 N.aK=some fj:=by kernel_rfl
theorem m6 (d:Nat)(xs:List AV)(g:G):aA C0 d N.aK xs g=aq (I C0) d g N.aK xs:=by kernel_rfl
theorem xz:nFn C0 N.am=some pq:=by kernel_rfl
theorem uv (t:T)(g:G)(xs:List Od):SO.foot C0 t g (.call N.am xs)=am ((iX t xs).flatMap (au g.h ay)):=by kernel_rfl
theorem uY (d:Nat)(xs:List AV)(g:G):aA C0 d N.am xs g=aq (I C0) d g N.am xs:=by kernel_rfl
theorem Ak:nFn C0 N.aq=some kV:=by kernel_rfl
theorem vP (d:Nat)(xs:List AV)(g:G):aA C0 d N.aq xs g=aq (I C0) d g N.aq xs:=by kernel_rfl
theorem xJ:nFn C0 N.aY=some pp:=by kernel_rfl
theorem tU (d:Nat)(xs:List AV)(g:G):aA C0 d N.aY xs g=aq (I C0) d g N.aY xs:=by kernel_rfl
theorem jT:nFn C0 N.au=some cC:=by kernel_rfl
theorem je (d:Nat)(xs:List AV)(g:G):aA C0 d N.au xs g=aq (I C0) d g N.au xs:=by kernel_rfl
theorem lL:nFn C0 N.ak=some cR:=by kernel_rfl
theorem d6 (t:T)(g:G)(xs:List Od):SO.foot C0 t g (.call N.ak xs)=am ((iX t xs).flatMap (au g.h ay)):=by kernel_rfl
theorem j_ (d:Nat)(xs:List AV)(g:G):aA C0 d N.ak xs g=aq (I C0) d g N.ak xs:=by kernel_rfl
theorem lG:nFn C0 N.aa=some cX:=by kernel_rfl
theorem jn (d:Nat)(xs:List AV)(g:G):aA C0 d N.aa xs g=aq (I C0) d g N.aa xs:=by kernel_rfl
theorem kZ:nFn C0 N.aT=some cO:=by kernel_rfl
theorem pV:nFn C0 N.ae=some fL:=by kernel_rfl
theorem nZ (d:Nat)(xs:List AV)(g:G):aA C0 d N.ae xs g=aq (I C0) d g N.ae xs:=by kernel_rfl
theorem oD:nFn C0 N.aG=some fk:=by kernel_rfl
theorem nM (d:Nat)(xs:List AV)(g:G):aA C0 d N.aG xs g=aq (I C0) d g N.aG xs:=by kernel_rfl
theorem yJ:nFn C0 N.aH=some qH:=by kernel_rfl
theorem vI (d:Nat)(xs:List AV)(g:G):aA C0 d N.aH xs g=aq (I C0) d g N.aH xs:=by kernel_rfl
theorem ua:nFn C0 N.aM=some mc:=by kernel_rfl
theorem sA (d:Nat)(xs:List AV)(g:G):aA C0 d N.aM xs g=aq (I C0) d g N.aM xs:=by kernel_rfl
theorem oa:nFn C0 N.aF=some eL:=by kernel_rfl
theorem mV (d:Nat)(xs:List AV)(g:G):aA C0 d N.aF xs g=aq (I C0) d g N.aF xs:=by kernel_rfl
theorem wg:nFn C0 N.aR=some nL:=by kernel_rfl
theorem tg (d:Nat)(xs:List AV)(g:G):aA C0 d N.aR xs g=aq (I C0) d g N.aR xs:=by kernel_rfl
theorem ve:nFn C0 N.aQ=some l5:=by kernel_rfl
theorem si (d:Nat)(xs:List AV)(g:G):aA C0 d N.aQ xs g=aq (I C0) d g N.aQ xs:=by kernel_rfl
theorem oe:nFn C0 N.aS=some fp:=by kernel_rfl
theorem na (d:Nat)(xs:List AV)(g:G):aA C0 d N.aS xs g=aq (I C0) d g N.aS xs:=by kernel_rfl
theorem jf:nFn C0 N.af=some aC:=by kernel_rfl
theorem sg:nFn C0 N.aU=some jg:=by kernel_rfl
theorem qB (d:Nat)(xs:List AV)(g:G):aA C0 d N.aU xs g=aq (I C0) d g N.aU xs:=by kernel_rfl
theorem l9:nFn C0 N.aX=some cY:=by kernel_rfl
theorem jW (d:Nat)(xs:List AV)(g:G):aA C0 d N.aX xs g=aq (I C0) d g N.aX xs:=by kernel_rfl
theorem od:nFn C0 N.an=some bm:=by kernel_rfl
theorem lj:nFn C0 N.aO=some cN:=by kernel_rfl
theorem jx (d:Nat)(xs:List AV)(g:G):aA C0 d N.aO xs g=aq (I C0) d g N.aO xs:=by kernel_rfl
theorem zg:nFn C0 N.ap=some qp:=by kernel_rfl
theorem wc (d:Nat)(xs:List AV)(g:G):aA C0 d N.ap xs g=aq (I C0) d g N.ap xs:=by kernel_rfl
theorem n_:nFn C0 N.aZ=some eD:=by kernel_rfl
theorem mr (d:Nat)(xs:List AV)(g:G):aA C0 d N.aZ xs g=aq (I C0) d g N.aZ xs:=by kernel_rfl
theorem jt:nFn C0 N.aV=some cy:=by kernel_rfl
theorem iU (d:Nat)(xs:List AV)(g:G):aA C0 d N.aV xs g=aq (I C0) d g N.aV xs:=by kernel_rfl
theorem v7:nFn C0 N.ah=some eV:=by kernel_rfl
theorem jj:nFn C0 N.aA=some ck:=by kernel_rfl
theorem io (d:Nat)(xs:List AV)(g:G):aA C0 d N.aA xs g=aq (I C0) d g N.aA xs:=by kernel_rfl
theorem m_:nFn E7 N.aJ=some cI:=by kernel_rfl
theorem mH (d:Nat)(xs:List AV)(g:G):aA C0 d N.aJ xs g=vJ E7 N.aJ d xs g:=by kernel_rfl
theorem vz:nFn C0 N.aP=some lU:=by kernel_rfl
theorem sK (d:Nat)(xs:List AV)(g:G):aA C0 d N.aP xs g=aq (I C0) d g N.aP xs:=by kernel_rfl
theorem qo:nFn C0 N.aD=some gX:=by kernel_rfl
theorem pc (d:Nat)(xs:List AV)(g:G):aA C0 d N.aD xs g=aq (I C0) d g N.aD xs:=by kernel_rfl
theorem tA:nFn C0 N.ax=some kh:=by kernel_rfl
theorem qT (d:Nat)(xs:List AV)(g:G):aA C0 d N.ax xs g=aq (I C0) d g N.ax xs:=by kernel_rfl
theorem nV {α:Type}{f:Nat->α->Nat->α->Bool}{i:Nat}{x:α}:∀{l:List α} {j:Nat},(∀b y,l[b]?=some y->f i x (j+b) y=true)->eQ f i x j l=true
 | [],_,_=>rfl
 | y::r,j,h=>by
  simp only[eQ,Bool.and_eq_true]
  refine ⟨by simpa using h 0 y rfl,nV fun b z hb=>?_⟩
  have:=h (b+1) z (by simpa using hb)
  rwa [show j+(b+1)=j+1+b by omega] at this
theorem oI {α:Type}{f:Nat->α->Nat->α->Bool}:∀{l:List α} {i:Nat},(∀a b x y,a<b->l[a]?=some x->l[b]?=some y->f (i+a) x (i+b) y=true)->iY f i l=true
 | [],_,_=>rfl
 | x::r,i,h=>by
  simp only[iY,Bool.and_eq_true]
  refine ⟨nV fun b y hb=>?_,oI fun a b x' y hab ha hb=>?_⟩
  ·have:=h 0 (b+1) x y (by omega) rfl (by simpa using hb)
   rwa [Nat.add_zero,show i+(b+1)=i+1+b by omega] at this
  ·have:=h (a+1) (b+1) x' y (by omega) (by simpa using ha) (by simpa using hb)
   rwa [show i+(a+1)=i+1+a by omega,show i+(b+1)=i+1+b by omega] at this
theorem sZ {pm:List Nat}:∀{l:List Foot} {i:Nat},(∀f∈l,f.lk.sr=[])->iZ pm i l=true
 | [],_,_=>rfl
 | x::r,i,h=>by
  simp only[iZ,h x (by simp)]
  exact sZ fun f hf=>h f (by simp[hf])
def Bo (pm:List Nat)(ws:List Bool)(L:List (Nat×Nat))(i j:Nat):Bool:=(pm.getD j 0).testBit i || (!(ws.getD i false)&&!(ws.getD j false)) || L.contains (i,j)
def Cq (pm:List Nat)(ws:List Bool)(L:List (Nat×Nat)):Bool:=(List.range ws.length).all fun j=>(List.range j).all fun i=>Bo pm ws L i j
theorem bj {pm:List Nat}{fs:List Foot}(ws:List Bool)(L:List (Nat×Nat))(hw:All2 (fun (f:Foot) (w:Bool)=>f.lk.sr=[]/\(w=false->f.wr=[])) fs ws)(hd:Cq pm ws L=true)
  (hL:∀p∈L,∀x y,fs[p.1]?=some x->fs[p.2]?=some y->bZ x y=true):js pm fs=true:=by
 unfold js
 rw[aa,if_pos]
 ·exact sZ fun f hf=>by
   obtain ⟨i,hi,rfl⟩:=List.mem_iff_getElem.1 hf
   obtain ⟨w,-,h⟩:=hw.get (List.getElem?_eq_getElem hi)
   exact h.1
 ·refine oI fun a b x y hab ha hb=>?_
  simp only[Nat.zero_add]
  obtain ⟨wa,hwa,ka⟩:=hw.get ha
  obtain ⟨wb,hwb,kb⟩:=hw.get hb
  have hbl:=(List.getElem?_eq_some_iff.1 hwb).1
  have:=List.all_eq_true.1 (List.all_eq_true.1 hd b (List.mem_range.2 hbl)) a (List.mem_range.2 hab)
  simp only[Bo,Bool.or_eq_true] at this
  rcases this with (h | h) | h
  ·rw[h,Bool.true_or]
  ·simp only[List.getD_eq_getElem?_getD,hwa,hwb,Option.getD_some,Bool.and_eq_true,Bool.not_eq_true'] at h
   have ex:=ka.2 h.1
   have ey:=kb.2 h.2
   simp only[bZ,i7,f8,ex,ey,Bool.and_self,Bool.or_true]
  ·rw[hL (a,b) (List.contains_iff_mem.1 h) x y ha hb,Bool.or_true]
structure Mech where
 card:Int
 frm:List Int
 noise:List Int
 out:List Int
structure Causal where
 grain:Int
 roots:List (List Int)
 nodes:List Mech
structure Node where
 card:Int
 parents:List Int
 rows:List (List Int)
structure Net where
 grain:Int
 nodes:List Node
structure Factor where
 vars:List Int
 cards:List Int
 w:List Int
instance : Rp Mech:=Rp.via fun m:Mech=>(m.card,m.frm,m.noise,m.out)
instance : Rp Causal:=Rp.via fun m:Causal=>(m.grain,m.roots,m.nodes)
instance : Rp Node:=Rp.via fun m:Node=>(m.card,m.parents,m.rows)
instance : Rp Net:=Rp.via fun m:Net=>(m.grain,m.nodes)
instance : Rp Factor:=Rp.via fun m:Factor=>(m.vars,m.cards,m.w)
section
variable {P:Nat->Prop}{k:Nat}{h:H}{cs:List AV}
theorem eN {m:Node}:Rp.rp P k h m cs↔∃a b,cs=[.int .i64 m.card,a,b]/\SlR P k h m.parents a/\SlR P k h m.rows b:=by
 constructor
 ·rintro ⟨c1,c2,rfl,h1,d1,d2,rfl,⟨a,rfl,h2⟩,⟨b,rfl,h3⟩⟩
  rw[aX.1 h1];exact ⟨a,b,rfl,h2,h3⟩
 ·rintro ⟨a,b,rfl,h2,h3⟩
  exact ⟨[.int .i64 m.card],[a,b],rfl,aX.2 rfl,[a],[b],rfl,⟨a,rfl,h2⟩,⟨b,rfl,h3⟩⟩
theorem lT {m:Net}:Rp.rp P k h m cs↔∃a,cs=[.int .i64 m.grain,a]/\SlR P k h m.nodes a:=by
 constructor
 ·rintro ⟨c1,c2,rfl,h1,⟨a,rfl,h2⟩⟩
  rw[aX.1 h1];exact ⟨a,rfl,h2⟩
 ·rintro ⟨a,rfl,h2⟩
  exact ⟨[.int .i64 m.grain],[a],rfl,aX.2 rfl,⟨a,rfl,h2⟩⟩
theorem mq {m:Factor}:Rp.rp P k h m cs↔∃a b c,cs=[a,b,c]/\SlR P k h m.vars a/\SlR P k h m.cards b/\SlR P k h m.w c:=by
 constructor
 ·rintro ⟨c1,c2,rfl,⟨a,rfl,h2⟩,e1,e2,rfl,⟨b,rfl,h3⟩,⟨c,rfl,h4⟩⟩
  exact ⟨a,b,c,rfl,h2,h3,h4⟩
 ·rintro ⟨a,b,c,rfl,h2,h3,h4⟩
  exact ⟨[a],[b,c],rfl,⟨a,rfl,h2⟩,[b],[c],rfl,⟨b,rfl,h3⟩,⟨c,rfl,h4⟩⟩
end
theorem SlR.len {α:Type} [Rp α]{P:Nat->Prop}{k:Nat}{h:H}{l:List α}{v:AV}(r:SlR P k h l v)(g:G):gT .slice v g=.val (.int .i64 (l.length:Int)):=by
 obtain ⟨rows,h1,h2⟩:=r.rows
 rw[jI h1,h2.len]
theorem SlR.tree {α:Type} [Rp α]{k k':Nat}{h h':H}{l:List α}{v:AV}(r:SlR NoP k h l v)(hk:k<=k'):SlR NoP k' h' l v:=by
 obtain ⟨w,hw,q⟩:=Rp.tree (P:=NoP) (k':=k') (h':=h') (show Rp.rp NoP k h l [v] from ⟨v,rfl,r⟩) hk
 injection hw with hw;subst hw;exact q
theorem jM {α:Type} [Rp α]{P:Nat->Prop}{k:Nat}{h:H}{l:List α}{v:AV}(r:SlR P k h l v)(d:Nat)(hd:Rp.dp (List α)<=20:=by decide) :
  ∃v',Hx.snap h d ay v=some v'/\∀h',SlR NoP (max k d) h' l v':=by
 obtain ⟨v',e,w,hw,q⟩:=qv (bc l hd) (by decide) d (show One l P k h v from ⟨v,rfl,r⟩)
 injection hw with hw;subst hw
 exact ⟨v',e,fun h'=>q.tree (Nat.le_refl _)⟩
theorem SlR.all {α:Type} [Rp α]{k:Nat}{h:H}{l:List α}{v:AV}(r:SlR NoP k h l v) :
  ∃rows:List (List AV),(∀h',af h' (Rp.sz α) v=some rows)/\rows.length=l.length/\(∀(i:Nat) (x:α),l[i]?=some x->∃row,rows[i]?=some row/\Rp.rp NoP k .nil x row)/\(0<l.length->ph v=true):=by
 have r0:=(r.tree (h':=.nil) (Nat.le_refl _))
 obtain ⟨rows,h1,h2⟩:=r0.rows
 refine ⟨rows,fun h'=>?_,h2.len.symm,fun i x hi=>h2.get hi,fun hl=>H8 h1 (i:=0) (by rw[<-h2.len];exact hl)⟩
 rw[<-h1]
 exact sW fun id ep off len lim e=>by subst e;exact r.2.1.elim
theorem nJ {P:Nat->Prop}{k:Nat}{h:H}{l:List Nat}{v:AV}(r:SlR P k h l v):∀x∈l,x<18446744073709551616:=by
 obtain ⟨rows,h1,h2⟩:=r.rows
 intro x hx
 obtain ⟨i,hi,e⟩:=List.mem_iff_getElem.1 hx
 obtain ⟨row,h3,h4⟩:=h2.get (i:=i) (a:=x) (by rw[List.getElem?_eq_getElem hi,e])
 exact (jU.1 h4).2
theorem jO (p:Nat->Bool)(j:Nat):(List.range (j+1)).all p=((List.range j).all p&&p j):=by rw[List.range_succ,List.all_append];simp
theorem tu {p:Nat->Bool}{j n:Nat}(h:j<n)(hp:p j=false):(List.range n).all p=false:=by
 rw[List.all_eq_false];exact ⟨j,List.mem_range.2 h,by rw[hp];decide⟩
end
end Hx
end
section
namespace Hx
open Go
noncomputable section
theorem pR {C:Cfg}{nt d:Nat}{rd:Option Nat}{c:Code}{t:T}{df:List ADf}{g:G}{Q:QT}(h:wp C d rd (dE C nt c) Q t df g):((I C).code nt d rd c t df g).sat Q:=by
 rw[AT];exact Jx _ _ _ _ _ h
end
end Hx
end
