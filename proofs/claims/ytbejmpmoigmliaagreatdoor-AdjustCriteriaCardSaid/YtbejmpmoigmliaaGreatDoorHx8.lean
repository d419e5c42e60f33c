/- A part of the proof: an interpreter over abstract values, shown right against the model, and what the functions of the chapter compute on it. -/
import Derived.Shelf.Lays2
import Derived.Test.YtbejmpmoigmliaaGreatDoorRows
import Derived.Shelf.Spec.SlicesInsertGrow
import Derived.KernelRfl
import Derived.Test.YtbejmpmoigmliaaGreatDoorHx7
set_option linter.unusedVariables false
set_option linter.unusedSimpArgs false
set_option linter.unnecessarySimpa false
section
namespace Go.Proofs
open Go.Shelf
def Tryz.lays21_ren:Go.Shelf.Ren:=⟨fun | 21=>164 | 27=>170 | 28=>171 | 35=>173 | 39=>174 | n=>n,fun | 22=>56 | 3=>3 | 4=>4 | 0=>0 | n=>n,fun | n=>n⟩
theorem Tryz.lays21:Go.Proofs.Lays2.n21 Tryz.prog Tryz.lays21_ren:={
 mixed:=by kernel_rfl
 f21:=Tryz.func164.trans (congrArg some (by kernel_rfl))
 f27:=Tryz.func170.trans (congrArg some (by kernel_rfl))
 f28:=Tryz.func171.trans (congrArg some (by kernel_rfl))
 f35:=Tryz.func173.trans (congrArg some (by kernel_rfl))
 f39:=Tryz.func174.trans (congrArg some (by kernel_rfl))
 t0:=Tryz.underlying0
 a0:=Tryz.isAgg0
 z0:=Tryz.sizeOf0
 v0:=Tryz.zeroValue0
 t3:=Tryz.underlying3
 a3:=Tryz.isAgg3
 z3:=Tryz.sizeOf3
 v3:=Tryz.zeroValue3
 t4:=Tryz.underlying4
 a4:=Tryz.isAgg4
 z4:=Tryz.sizeOf4
 v4:=Tryz.zeroValue4
 t22:=Tryz.underlying56
 a22:=Tryz.isAgg56
 z22:=Tryz.sizeOf56
 v22:=Tryz.zeroValue56
 i3:=by kernel_rfl }
end Go.Proofs
end
section
namespace Hx
open Go Go.Proofs Go.Shelf
theorem fy {w:World}{o:Obj}:(Go.World.alloc w o).heap=w.heap.push o:=rfl
theorem eM {w:World}:(Go.World.drew w).heap=w.heap:=rfl
theorem ez {b:Nat}{e:TypeId}{f:Nat×Nat}:∀(vs:List Value) (o:Nat) (w:World) (c:Array Value),w.heap[b]?=some (.cells c e f) ->
  Go.World.setCells w b o vs=World.setBlk w b (.cells (aM c o vs) e f):=by
 intro vs
 induction vs with
 | nil =>
  intro o w c h
  have hb:b<w.heap.size:=by
   rcases Nat.lt_or_ge b w.heap.size with hl | hl
   ·exact hl
   ·rw[Array.getElem?_eq_none hl] at h;cases h
  have hx:w.heap[b]=.cells c e f:=by simpa [Array.getElem?_eq_getElem hb] using h
  show w=_
  simp only[World.setBlk,aM]
  have:w.heap.setIfInBounds b (.cells c e f)=w.heap:=by
   apply Array.ext_getElem?
   intro k
   rw[Array.getElem?_setIfInBounds]
   by_cases hk:b=k
   ·subst hk;simp[hb,hx]
   ·rw[if_neg hk]
  rw[this]
 | cons v vs ih =>
  intro o w c h
  have hb:b<w.heap.size:=by
   rcases Nat.lt_or_ge b w.heap.size with hl | hl
   ·exact hl
   ·rw[Array.getElem?_eq_none hl] at h;cases h
  show Go.World.setCells (w.setCell (adr b o) v) b (o+1) vs=_
  rw[o_ h,ih (o+1) _ (c.setIfInBounds o v) (by rw[aF];simp[hb]),it]
  rfl
section
variable {P:Program}{ρ:Ren}
theorem dO {α:Type}{cs vs:List α}{i n m k:Nat}(hcl:cs.length=n)(hvl:vs.length=m)(hi:i<=n) :
  (cs.take i++(vs++cs.drop i))[k]?=if k<i then cs[k]? else if k<i+m then vs[k - i]? else cs[k - m]?:=by
 have hti:(cs.take i).length=i:=by rw[List.length_take];omega
 by_cases h1:k<i
 ·rw[if_pos h1,List.getElem?_append_left (by omega),List.getElem?_take_of_lt h1]
 ·rw[if_neg h1,List.getElem?_append_right (by omega),hti]
  by_cases h2:k<i+m
  ·rw[if_pos h2,List.getElem?_append_left (by omega)]
  ·rw[if_neg h2,List.getElem?_append_right (by omega),List.getElem?_drop,hvl]
   congr 1;omega
def Ins (P:Program)(f:FuncId)(args:Array Value)(w:World)(b n m:Nat)(rowV:List Value):Prop :=
 ∃b' o' cap' c' e' w',Calls P f args w (fun x y=>x=.returned (.slice (some (adr b' o')) (n+m) cap')/\y=w')/\n+m<=cap'/\cap'<=9223372036854775807 /\
  (w'.os=w.os/\w'.tape=w.tape/\w'.output=w.output/\w.heap.size<=w'.heap.size)/\(b'=b\/(b'=w.heap.size/\w.heap.size<w'.heap.size)) /\
  (∀k,k<w.heap.size->k≠b->w'.heap[k]?=w.heap[k]?)/\w'.heap[b']?=some (.cells c' e' (0,0))/\o'+cap'<=c'.size /\
  ∀k,k<n+m->c'[o'+k]?=rowV[k]?
theorem uV (L:Lays2.n21 P ρ){w:World}{b off n c i vb voff m vc:Nat}{cc cv:Array Value}{e e2:TypeId}{cs vs:List Value}
  (hb:w.heap[b]?=some (.cells cc e (0,0))) (hv:w.heap[vb]?=some (.cells cv e2 (0,0))) (hne:vb≠b) (hin:i<=n) (hm:0<m) (hnc:n<=c)
  (hc63:c<=9223372036854775807) (hbig:(n+m)*8<=140737488355328) (hcc:off+c<=cc.size) (hcv:voff+m<=cv.size) (hn0:0<c)
  (hcl:cs.length=n) (hvl:vs.length=m) (hcs:∀j,j<n->cs[j]?=cc[off+j]?) (hvs:∀j,j<m->vs[j]?=cv[voff+j]?)
  (h1c:∀v∈cs,v.oneCell'=true) (h1v:∀v∈vs,v.oneCell'=true) :
  Ins P (ρ.f 21) #[.slice (some (adr b off)) n c,.int .i64 i,.slice (some (adr vb voff)) m vc] w b n m (cs.take i++(vs++cs.drop i)):=by
 have hbw:b<w.heap.size:=by
  rcases Nat.lt_or_ge b w.heap.size with hl | hl
  ·exact hl
  ·rw[Array.getElem?_eq_none hl] at hb;cases hb
 have hcs':∀j v,cs[j]?=some v->w.cell? (adr b (off+j))=some v:=fun j v hj=>by
  rw[iL hb,<-hcs j (by rw[<-hcl];exact (List.getElem?_eq_some_iff.1 hj).1)];exact hj
 have hvs':∀j v,vs[j]?=some v->w.cell? (adr vb (voff+j))=some v:=fun j v hj=>by
  rw[iL hv,<-hvs j (by rw[<-hvl];exact (List.getElem?_eq_some_iff.1 hj).1)];exact hj
 have hsp:∀j,j<c->(w.cell? (adr b (off+j))).isSome=true:=fun j hj=>by
  rw[iL hb,Array.getElem?_eq_getElem (by omega)];rfl
 have hfz:∀j,w.frozen? (adr b j)=false:=fun j=>by simp[World.frozen?,adr,hb]
 have hfv:∀j,w.frozen? (adr vb j)=false:=fun j=>by simp[World.frozen?,adr,hv]
 have hdl:(cs.drop i).length=n - i:=by rw[List.length_drop,hcl]
 have htl:(cs.take i).length=i:=by rw[List.length_take];omega
 by_cases hroom:n+m<=c
 ·by_cases hlt:i<n
  ·
   have h:=Any2.slices_Insert_int_shift L b off n c i vb voff m vc cs vs w hlt hm hroom hc63 hne hcl hvl hcs' (fun j hj=>hsp j (by omega)) (fun j _=>hfz _) hvs' h1c h1v
    e2 e cv.size cc.size (by simp[World.shape?,hv]) (by simp[World.shape?,hb]) (by omega) (hfv _) (hfv _)
   have hb':w.drew.heap[b]?=some (.cells cc e (0,0)):=hb
   rw[ez (cs.drop i) (off+(i+m)) w.drew cc hb'] at h
   rw[ez vs (off+i) (World.setBlk w.drew b _) _ (by rw[aF,if_pos ⟨rfl,hbw⟩]),it] at h
   refine ⟨b,off,c,_,e,_,h,hroom,hc63,⟨rfl,rfl,rfl,by simp[eM]⟩,.inl rfl,fun k _ hk=>?_,by rw[aF,if_pos ⟨rfl,hbw⟩],by simp[be];omega,fun k hk=>?_⟩
   ·rw[aF,if_neg (fun h=>hk h.1)];rfl
   ·rw[dO hcl hvl hin,bm _ _ _ _ (by rw[be];omega),bm _ _ _ _ (by omega),hdl,hvl]
    by_cases h1:k<i
    ·rw[if_neg (by omega),if_neg (by omega),if_pos h1,hcs k (by omega)]
    ·rw[if_neg h1]
     by_cases h2:k<i+m
     ·rw[if_pos (by omega),if_pos h2];congr 1;omega
     ·rw[if_neg (by omega),if_pos (by omega),if_neg h2,List.getElem?_drop];congr 1;omega
  ·
   have hi:i=n:=by omega
   subst hi
   have h:=Any2.slices_Insert_int_end_room L b off i c vb voff m vc vs w hm hroom hc63 hvl (fun j hj=>by rw[Nat.add_assoc];exact hsp _ (by omega)) (fun j _=>hfz _) hvs' h1v
   rw[ez vs (off+i) w cc hb] at h
   refine ⟨b,off,c,_,e,_,h,hroom,hc63,⟨rfl,rfl,rfl,by simp⟩,.inl rfl,fun k _ hk=>?_,by rw[aF,if_pos ⟨rfl,hbw⟩],by simp[be];omega,fun k hk=>?_⟩
   ·rw[aF,if_neg (fun h=>hk h.1)]
   ·rw[dO hcl hvl hin,bm _ _ _ _ (by omega),hvl]
    by_cases h1:k<i
    ·rw[if_neg (by omega),if_pos h1,hcs k (by omega)]
    ·rw[if_pos (by omega),if_neg h1,if_pos (by omega)];congr 1;omega
 ·have hgc:=grownCap_ge w (n+m) c (ρ.t 3)
  have hgm:grownCap w (n+m) c (ρ.t 3)<=9223372036854775807:=by
   have:=grownCap_le_maxLen w (n+m) c (ρ.t 3) (by unfold maxLen;omega)
   unfold maxLen at this;omega
  by_cases hlt:i<n
  ·
   have h:=Any2.slices_Insert_int_grow L b off n c i vb voff m vc cs vs w hlt hm hnc (by omega) hbig hcl hvl hcs' hvs' h1c h1v
   obtain ⟨G,hG⟩:∃G,G=grownCap w (n+m) c (ρ.t 3):=⟨_,rfl⟩
   rw[<-hG] at h hgc hgm
   obtain ⟨ROW,hROW⟩:∃ROW:Array Value,ROW=(cs.take i).toArray++Builtin.zeroCells (Value.int .i64 0).cells (n+m - i)++Builtin.zeroCells (Value.int .i64 0).cells (G - (n+m)):=⟨_,rfl⟩
   rw[<-hROW] at h
   have hsz:ROW.size=G:=by rw[hROW];simp[Builtin.zeroCells,Value.cells];omega
   have hpre:∀k,k<i->ROW[k]?=cs[k]?:=fun k hk=>by
    rw[hROW,Array.append_assoc,Array.getElem?_append_left (by simp;omega)]
    simp[List.getElem?_take,hk]
   have h0:(w.alloc (.cells ROW (ρ.t 3))).drew.heap[w.heap.size]?=some (.cells ROW (ρ.t 3) (0,0)):=by simp[fy,eM]
   rw[ez vs i _ ROW h0] at h
   rw[ez (cs.drop i) (i+m) _ (aM ROW i vs) (e:=ρ.t 3) (f:=(0,0)) (by
    show (World.setBlk _ _ _).heap[_]?=_
    rw[aF,if_pos ⟨rfl,by simp[fy,eM]⟩])] at h
   refine ⟨w.heap.size,0,G,aM (aM ROW i vs) (i+m) (cs.drop i),ρ.t 3,_,h,hgc,hgm,⟨rfl,rfl,rfl,by simp[fy,eM]⟩,.inr ⟨rfl,by simp[fy,eM]⟩,fun k hk _=>?_,?_,by simp[be,hsz],fun k hk=>?_⟩
   ·rw[aF,if_neg (by omega)]
    show (World.setBlk _ _ _).heap[_]?=_
    rw[aF,if_neg (by omega)]
    simp[fy,eM,Array.getElem?_push,show k≠w.heap.size from by omega]
   ·rw[aF,if_pos ⟨rfl,by simp[fy,eM]⟩]
   ·rw[dO hcl hvl hin,Nat.zero_add,bm _ _ _ _ (by rw[be];omega),bm _ _ _ _ (by omega),hdl,hvl]
    by_cases h1:k<i
    ·rw[if_neg (by omega),if_neg (by omega),if_pos h1,hpre k h1]
    ·rw[if_neg h1]
     by_cases h2:k<i+m
     ·rw[if_neg (by omega),if_pos (by omega),if_pos h2]
     ·rw[if_pos (by omega),if_neg h2,List.getElem?_drop];congr 1;omega
  ·have hi:i=n:=by omega
   subst hi
   have h:=Any2.slices_Insert_int_end_grow L (some (adr b off)) i c vb voff m vc cs vs w hm hnc (by omega) hbig hcl hvl (fun h=>by cases h)
    (fun a ha j v hj=>by injection ha with ha;subst ha;rw[du];exact hcs' j v hj) hvs' h1v
   obtain ⟨G,hG⟩:∃G,G=grownCap w (i+m) c (ρ.t 3):=⟨_,rfl⟩
   rw[<-hG] at h hgc hgm
   refine ⟨w.heap.size,0,G,_,ρ.t 3,_,h,hgc,hgm,⟨rfl,rfl,rfl,by simp[fy,eM]⟩,.inr ⟨rfl,by simp[fy,eM]⟩,fun k hk _=>?_,by simp[fy,eM];rfl,?_,fun k hk=>?_⟩
   ·simp[fy,eM,Array.getElem?_push,show k≠w.heap.size from by omega]
   ·simp[Builtin.zeroCells,Value.cells];omega
   ·rw[Nat.zero_add,Array.getElem?_append_left (by simp;omega)]
    have:cs.take i++(vs++cs.drop i)=cs++vs:=by rw[<-hcl,List.take_length,List.drop_length,List.append_nil]
    rw[this];simp
theorem vG (L:Lays2.n21 P ρ){w:World}{base:Option Addr}{vb voff m vc:Nat}{vs:List Value}(hm:0<m)(hbig:m*8<=140737488355328)(hvl:vs.length=m)
  (hvs:∀j v,vs[j]?=some v->w.cell? (adr vb (voff+j))=some v) (h1v:∀v∈vs,v.oneCell'=true) :
  ∃cap rest,m<=cap/\cap<=9223372036854775807/\rest.size=cap - m /\
  Calls P (ρ.f 21) #[.slice base 0 0,.int .i64 0,.slice (some (adr vb voff)) m vc] w (fun x y=>x=.returned (.slice (some (adr w.heap.size 0)) m cap)/\y=World.add (World.drewn w) (.cells (vs.toArray++rest) (ρ.t 3) (0,0))):=by
 have hgc:=grownCap_ge w (0+m) 0 (ρ.t 3)
 have hgm:grownCap w (0+m) 0 (ρ.t 3)<=9223372036854775807:=by
  have:=grownCap_le_maxLen w (0+m) 0 (ρ.t 3) (by unfold maxLen;omega)
  unfold maxLen at this;omega
 have h:=Any2.slices_Insert_int_end_grow L base 0 0 vb voff m vc [] vs w hm (Nat.le_refl _) (by omega) (by omega) rfl hvl (fun _=>rfl)
  (fun a ha j v hj=>by simp at hj) hvs h1v
 obtain ⟨G,hG⟩:∃G,G=grownCap w (0+m) 0 (ρ.t 3):=⟨_,rfl⟩
 rw[<-hG] at h hgc hgm
 rw[Nat.zero_add] at h hgc
 exact ⟨G,Builtin.zeroCells (Value.int .i64 0).cells (G - m),hgc,hgm,by simp[Builtin.zeroCells,Value.cells],h⟩
end
noncomputable def nO (i:Nat)(rows:List (List AV))(g:G):OR :=
 af (Nat.beq i 0&&Nat.ble (aQ rows*8) 140737488355328) (.upd (.hsl g.nx 0 0 (aQ rows) none) (g.new (.cells 1 rows 0 true false))) .fail
noncomputable def yh (id2 i:Nat)(s:AV)(vrows:List (List AV))(g:G):OR :=
 match s with
 | .nils=>nO i vrows g
 | .esl=>nO i vrows g
 | .hsl id ep off len none =>
  match g.get id with
  | .cells 1 [] ep' false _=>af ((Nat.beq ep ep'&&Nat.beq off 0)&&Nat.beq len 0) (nO i vrows g) .fail
  | .cells sz rows ep' true false =>
   af (((((((Nat.beq sz 1&&Nat.beq ep ep')&&Nat.beq off 0)&&Nat.beq len (aQ rows))&&fG (Nat.beq id id2))&&Nat.ble i len)&&Nat.ble 1 len)&&Nat.ble ((len+aQ vrows)*8) 140737488355328)
    (.upd (.hsl id (ep+1) 0 (len+aQ vrows) none) (g.put id (.cells 1 (eZ i rows++(vrows++eI i rows)) (ep+1) true false))) .fail
  | _=>.fail
 | _=>.fail
noncomputable def h_:Nat->List AV->G->OR:=fun _ xs g =>
 match xs with
 | [s,.int .i64 (.ofNat i),.hsl id2 ep2 off2 len2 _] =>
  match g.get id2 with
  | .cells sz2 vrows ep2' _ _ =>
   af ((((Nat.beq sz2 1&&Nat.beq ep2 ep2')&&Nat.beq off2 0)&&Nat.beq len2 (aQ vrows))&&Nat.ble 1 len2) (yh id2 i s vrows g) .fail
  | _=>.fail
 | _=>.fail
theorem kf {d:Nat}{xs:List AV}{g:G}(h:h_ d xs g≠.fail):∃s i id2 ep2 len2 lim2 vrows lo fz,xs=[s,.int .i64 (Int.ofNat i),.hsl id2 ep2 0 len2 lim2] /\
  g.h.get id2=.cells 1 vrows ep2 lo fz/\len2=vrows.length/\0<vrows.length/\h_ d xs g=yh id2 i s vrows g:=by
 unfold h_ at h ⊢
 split at h
 ·split at h
  ·rename_i hg
   rw[aa] at h ⊢
   split at h
   ·rename_i hc
    simp only[Bool.and_eq_true,am] at hc
    obtain ⟨⟨⟨⟨c1,c2⟩,c3⟩,c4⟩,c5⟩:=hc
    have c1:=aq c1;have c2:=aq c2;have c3:=aq c3;have c4:=aq c4
    subst c1;subst c2;subst c3;subst c4
    rw[Nat.ble_eq] at c5
    refine ⟨_,_,_,_,_,_,_,_,_,rfl,hg,rfl,c5,?_⟩
    rw[if_pos]
    simp[am];omega
   ·exact absurd rfl h
  ·exact absurd rfl h
 ·exact absurd rfl h
theorem pD {id2 i:Nat}{s:AV}{vrows:List (List AV)}{g:G}(h:yh id2 i s vrows g≠.fail) :
  ((s=.nils\/s=.esl\/∃id ep fz,s=.hsl id ep 0 0 none/\g.h.get id=.cells 1 [] ep false fz)/\i=0/\vrows.length*8<=140737488355328/\yh id2 i s vrows g=.upd (.hsl g.nx 0 0 vrows.length none) (g.new (.cells 1 vrows 0 true false))) \/
  ∃id ep rows,s=.hsl id ep 0 rows.length none/\g.h.get id=.cells 1 rows ep true false/\id≠id2/\i<=rows.length/\0<rows.length/\(rows.length+vrows.length)*8<=140737488355328 /\
   yh id2 i s vrows g=.upd (.hsl id (ep+1) 0 (rows.length+vrows.length) none) (g.put id (.cells 1 (rows.take i++(vrows++rows.drop i)) (ep+1) true false)):=by
 have hnew:nO i vrows g≠.fail->i=0/\vrows.length*8<=140737488355328/\nO i vrows g=.upd (.hsl g.nx 0 0 vrows.length none) (g.new (.cells 1 vrows 0 true false)):=by
  intro h
  unfold nO at h ⊢
  rw[aa] at h ⊢
  split at h
  ·rename_i hc
   rw[if_pos hc]
   simp only[Bool.and_eq_true,am,Nat.ble_eq] at hc
   exact ⟨aq hc.1,hc.2,by rw[am]⟩
  ·exact absurd rfl h
 unfold yh at h ⊢
 split at h
 ·exact .inl ⟨.inl rfl,hnew h⟩
 ·exact .inl ⟨.inr (.inl rfl),hnew h⟩
 ·rename_i id ep off len
  split at h
  ·rename_i ep' fz hg
   rw[aa] at h
   split at h
   ·rename_i hc
    have hc':=hc
    simp only[Bool.and_eq_true] at hc
    obtain ⟨⟨c1,c2⟩,c3⟩:=hc
    have c1:=aq c1;have c2:=aq c2;have c3:=aq c3
    subst c1;subst c2;subst c3
    have:=hnew h
    refine .inl ⟨.inr (.inr ⟨id,ep,fz,rfl,hg⟩),this.1,this.2.1,?_⟩
    rw[aa,if_pos hc',this.2.2]
   ·exact absurd rfl h
  ·rename_i sz rows ep' hg
   rw[aa] at h
   split at h
   ·rename_i hc
    have hc':=hc
    simp only[Bool.and_eq_true,am] at hc
    obtain ⟨⟨⟨⟨⟨⟨⟨c1,c2⟩,c3⟩,c4⟩,c5⟩,c6⟩,c7⟩,c8⟩:=hc
    have c1:=aq c1;have c2:=aq c2;have c3:=aq c3;have c4:=aq c4
    subst c1;subst c2;subst c3;subst c4
    rw[Nat.ble_eq] at c6 c7 c8
    refine .inr ⟨id,ep,rows,rfl,hg,fun e=>?_,c6,c7,c8,?_⟩
    ·subst e;rw[notb_eq] at c5;simp at c5
    ·rw[aa,if_pos hc']
     simp only[am,aT,aU]
   ·exact absurd rfl h
  ·exact absurd rfl h
 ·exact absurd rfl h
section
variable {C:Cfg}{A:Nat->Nat->Prop}{bd:Nat}{w w':World}{γ γ':Gm}{hg:Nat->AObj}{nx:Nat}{ρ:Ren}
theorem BS {g:G}{id:Nat}{ob:AObj}(r:Rel C A bd w' γ' (upd hg id ob) nx)(s:Stp w γ w' γ'):Fin C A bd w γ hg nx g w' γ' (upd hg id ob) (g.put id ob) :=
 ⟨r.up (Nat.le_max_left _ _),s,[id],by simp,fun k hk=>by simp at hk;subst hk;simp[G.put_h,H.get_put],fun k hk=>by
  rw[bz];simpa using hk⟩
theorem Cg {g:G}{ob:AObj}(r:Rel C A bd w' γ' (upd hg g.nx ob) (Nat.max nx (g.nx+1)))(s:Stp w γ w' γ'):Fin C A bd w γ hg nx g w' γ' (upd hg g.nx ob) (g.new ob) :=
 ⟨r.up (by simp),s,[g.nx],by simp,fun k hk=>by simp at hk;subst hk;simp[G.new_h,H.get_put],fun k hk=>by
  rw[bz];simpa using hk⟩
theorem tN (hr:Rel C A bd w γ hg nx){id ep:Nat}{rows:List (List AV)}{lo fz:Bool}(hid:hg id=.cells 1 rows ep lo fz) :
  ∃(c:Array Value) (e:TypeId) (l:List Value),w.heap[(γ id).blk]?=some (.cells c e (0,0))/\(γ id).base+(rows.length+(γ id).slack)<=c.size/\l.length=rows.length/\(∀j,j<rows.length->l[j]?=c[(γ id).base+j]?) /\
   (∀v∈l,v.oneCell'=true)/\(∀(k:Nat) row,rows[k]?=some row->row.length=1) /\
   ∀(k j:Nat) row x,rows[k]?=some row->row[j]?=some x->j=0/\x.one=true/\∃v,l[k]?=some v/\RV w γ A bd x v:=by
 have hob:=hr.obj id
 rw[hid] at hob
 obtain ⟨k1,k2,k3,k4,k5,k6,c,e,k7,k8,k9,k10⟩:=hob
 have hget:∀j,j<rows.length->((c.toList.drop (γ id).base).take rows.length)[j]?=c[(γ id).base+j]?:=fun j hj=>by
  rw[List.getElem?_take_of_lt hj,List.getElem?_drop];simp
 refine ⟨c,e,(c.toList.drop (γ id).base).take rows.length,k7,by omega,by simp;omega,hget,fun v hv=>?_,k9,fun k j row x h1 h2=>?_⟩
 ·obtain ⟨k,hk⟩:=List.getElem?_of_mem hv
  have hlt:k<rows.length:=by
   have:=(List.getElem?_eq_some_iff.1 hk).1
   simp at this;omega
  rw[hget k hlt] at hk
  have hrow:=List.getElem?_eq_getElem hlt
  have hl1:=k9 k _ hrow
  have hx:rows[k][0]?=some (rows[k][0]'(by omega)):=List.getElem?_eq_getElem _
  obtain ⟨a,v',b1,b2⟩:=k10 k 0 _ _ hrow hx
  rw[show (γ id).base+k*1+0=(γ id).base+k from by omega,hk] at b1
  injection b1 with b1;subst b1
  exact (vE b2 a).1
 ·have hj:j=0:=by
   have h3:=k9 k _ h1
   have:=(List.getElem?_eq_some_iff.1 h2).1
   omega
  subst hj
  obtain ⟨a,v',b1,b2⟩:=k10 k 0 _ _ h1 h2
  refine ⟨rfl,a,v',?_,b2⟩
  rw[hget k (List.getElem?_eq_some_iff.1 h1).1]
  rw[show (γ id).base+k*1+0=(γ id).base+k from by omega] at b1
  exact b1
theorem lA {P:Program}{f:FuncId}{args:Array Value}{u:Value}(h:Calls P f args w (fun x y=>x=.returned u/\y=w'))(cs:List Frame):Outs P .normal f args cs w u w':=by
 obtain ⟨e,w1,fr,⟨he,hw⟩,hc,hf,hl⟩:=h cs
 subst he;subst hw
 obtain ⟨m,d,k,fn,hfn,hres⟩:=hl
 exact ⟨fr,hc,m,d,k,hf,fn,by rw[<-hf];exact hfn,hres⟩
theorem yP {P : Program} {f : FuncId} {fn : Func} (h : P.funcs[f]? = some fn) (hn : (fn.name == "runtime.NumGoroutine") = false) (hb : fn.body.isSome = true) : Enters P f := by
 intro args w
 unfold callFunc
 have hn : fn.name ≠ "runtime.NumGoroutine" := by simpa using hn
 cases hb':fn.body with
 | none=>rw[hb'] at hb;cases hb
 | some c=>simp[h,hn,hb']
theorem vz (L:Lays2.n21 C.P ρ)(hent:Enters C.P (ρ.f 21)):ExtOk C (ρ.f 21) h_:=by
 refine ⟨fun d xs g hwf=>?_,fun d xs g y hy=>?_,fun A bd w γ hg nx g xs vs hr hwf hx hf hv hne cs=>?_⟩
 ·apply Small.mon _ hwf
  by_cases h:h_ d xs g=.fail
  ·rw[h];trivial
  ·obtain ⟨s,i,id2,ep2,len2,lim2,vrows,lo,fz,e1,e2,e3,e4,e5⟩:=kf h
   rw[e5] at h ⊢
   rcases pD h with ⟨_,_,_,h1⟩ | ⟨id,ep,rows,_,h2,_,_,_,_,h1⟩
   ·rw[h1];exact .inr ⟨_,rfl⟩
   ·rw[h1];exact .inl ⟨_,_,rfl,by rw[h2];simp⟩
 ·have h:h_ d xs g≠.fail:=by rw[hy];simp
  obtain ⟨s,i,id2,ep2,len2,lim2,vrows,lo,fz,e1,e2,e3,e4,e5⟩:=kf h
  rw[e5] at h hy
  rcases pD h with ⟨_,_,_,h1⟩ | ⟨id,ep,rows,_,h2,_,_,_,_,h1⟩<;>(rw[h1] at hy;cases hy)
 ·obtain ⟨s,i,id2,ep2,len2,lim2,vrows,lo,fz,e1,e2,e3,e4,e5⟩:=kf hne
  subst e1;subst e3
  rw[e5] at hne hf ⊢
  obtain ⟨v1,v2,v3,rfl⟩:∃v1 v2 v3,vs=[v1,v2,v3]:=by
   have:=hv.1
   match vs,this with
   | [a,b,c],_=>exact ⟨a,b,c,rfl⟩
  have r1:RV w γ A bd s v1:=hv.2 0 _ _ rfl rfl
  have r2:RV w γ A bd (.int .i64 (Int.ofNat i)) v2:=hv.2 1 _ _ rfl rfl
  have r3:RV w γ A bd (.hsl id2 ep2 0 vrows.length lim2) v3:=hv.2 2 _ _ rfl rfl
  cases r2
  have hid2:hg id2=.cells 1 vrows ep2 lo fz:=by
   rw[hx id2 (by simp[List.flatMap_cons,ax,az]) (by rw[e2];simp),e2]
  obtain ⟨vc,hv3,hvc,_⟩:=lU hr r3 hid2
  subst hv3
  obtain ⟨cv,ev,lv,p1,p2,p3,p4,p5,p6,p7⟩:=tN hr hid2
  have hz:(γ id2).base+0*1=(γ id2).base:=by omega
  rw[hz] at r3 ⊢
  rcases pD hne with ⟨hs,hi,hbig,h1⟩ | ⟨id,ep,rows,hs,h2,hne2,hin,hpos,hbig,h1⟩
  ·subst hi
   rw[h1] at hf ⊢
   have hfree:(γ g.nx).kind=0:=hf g.nx (Nat.le_refl _) (by simp[gOf])
   have hbase:∃base,v1=.slice base 0 0:=by
    rcases hs with rfl | rfl | ⟨id,ep,fz2,rfl,hgid⟩
    ·cases r1;exact ⟨_,rfl⟩
    ·cases r1;exact ⟨_,rfl⟩
    ·have hid:hg id=.cells 1 [] ep false fz2:=by
      rw[hx id (by simp[List.flatMap_cons,ax,az]) (by rw[hgid];simp),hgid]
     obtain ⟨c,hv1,hnc,hco⟩:=lU hr r1 hid
     have hob:=hr.obj id
     rw[hid] at hob
     obtain ⟨-,-,-,k4,k5,-⟩:=hob
     have hk:=k5.1 rfl
     have hc0:c=0:=by simp only[eG] at hco;simp at k4;omega
     subst hc0
     exact ⟨_,hv1⟩
   obtain ⟨base,hb⟩:=hbase
   subst hb
   obtain ⟨cap,rest,q1,q2,q3,q4⟩:=vG L (w:=w) (base:=base) (vb:=(γ id2).blk) (voff:=(γ id2).base) (m:=vrows.length) (vc:=vc) (vs:=lv) e4 hbig p3
    (fun j v hj=>by rw[iL p1,<-p4 j (by rw[<-p3];exact (List.getElem?_eq_some_iff.1 hj).1)];exact hj) p5
   have hrr:RowsRel w γ A bd 1 vrows (lv.toArray++rest):=by
    refine ⟨by simp[p3],p6,fun k j row x a b=>?_⟩
    obtain ⟨j0,o1,v,l1,l2⟩:=p7 k j row x a b
    subst j0
    refine ⟨o1,v,?_,l2⟩
    have hk:=(List.getElem?_eq_some_iff.1 a).1
    rw[Array.getElem?_append_left (by simp;omega)]
    simpa using l1
   obtain ⟨γ',s1,s2,s3⟩:=nc (e:=ρ.t 3) hr hfree hrr vrows.length cap (by simp[q3];omega) q1 rfl q2
   exact ⟨_,_,γ',_,Cg s1 s2,s3,.inr ⟨hent,lA q4 cs⟩⟩
  ·subst hs
   rw[h1] at hf ⊢
   have hid:hg id=.cells 1 rows ep true false:=by
    rw[hx id (by simp[List.flatMap_cons,ax,az]) (by rw[h2];simp),h2]
   obtain ⟨c,hv1,hnc,hco⟩:=lU hr r1 hid
   subst hv1
   have hob:=hr.obj id
   rw[hid] at hob
   obtain ⟨k1,k2,k3,k4,k5,k6,_⟩:=hob
   have hob2:=hr.obj id2
   rw[hid2] at hob2
   obtain ⟨m1,_⟩:=hob2
   have hblk:(γ id2).blk≠(γ id).blk:=fun e=>hne2 (hr.inj id id2 (by rw[k1];decide) (by rw[m1];decide) e.symm)
   obtain ⟨cc,ec,lc,c1,c2,c3,c4,c5,c6,c7⟩:=tN hr hid
   have hcap:c=rows.length+(γ id).slack:=by simp only[eG] at hco;omega
   have hins:=uV L (w:=w) (b:=(γ id).blk) (off:=(γ id).base) (n:=rows.length) (c:=c) (i:=i) (vb:=(γ id2).blk) (voff:=(γ id2).base) (m:=vrows.length) (vc:=vc)
    c1 p1 hblk hin e4 hnc (by have:=k5.2 rfl;omega) hbig (by omega) (by omega) (by omega) c3 p3 c4 p4 c5 p5
   obtain ⟨b',o',cap',c',e',w',n1,n2,n3,n4,n5,n6,n7,n8,n9⟩:=hins
   let gh:Gh:=⟨1,ep+1,1,rows.length+vrows.length,b',o',cap' - (rows.length+vrows.length),true⟩
   have hrl:(rows.take i++(vrows++rows.drop i)).length=rows.length+vrows.length:=by simp;omega
   have hcell:∀(k:Nat) row,(rows.take i++(vrows++rows.drop i))[k]?=some row->row.length=1/\∀(j:Nat) x,row[j]?=some x->x.one=true/\∃v,c'[o'+k*1+j]?=some v/\RV w γ A bd x v:=by
    intro k row hk
    have hkl:k<rows.length+vrows.length:=by rw[<-hrl];exact (List.getElem?_eq_some_iff.1 hk).1
    have hck:=n9 k hkl
    rw[dO c3 p3 hin] at hck
    rw[dO (n:=rows.length) (m:=vrows.length) rfl rfl hin] at hk
    split at hk
    ·rename_i h1;rw[if_pos h1] at hck
     refine ⟨c6 _ _ hk,fun j x hj=>?_⟩
     obtain ⟨j0,o1,v,l1,l2⟩:=c7 _ j row x hk hj
     subst j0
     exact ⟨o1,v,by rw[show o'+k*1+0=o'+k from by omega,hck];exact l1,l2⟩
    ·rename_i h1;rw[if_neg h1] at hck
     split at hk
     ·rename_i h2;rw[if_pos h2] at hck
      refine ⟨p6 _ _ hk,fun j x hj=>?_⟩
      obtain ⟨j0,o1,v,l1,l2⟩:=p7 _ j row x hk hj
      subst j0
      exact ⟨o1,v,by rw[show o'+k*1+0=o'+k from by omega,hck];exact l1,l2⟩
     ·rename_i h2;rw[if_neg h2] at hck
      refine ⟨c6 _ _ hk,fun j x hj=>?_⟩
      obtain ⟨j0,o1,v,l1,l2⟩:=c7 _ j row x hk hj
      subst j0
      exact ⟨o1,v,by rw[show o'+k*1+0=o'+k from by omega,hck];exact l1,l2⟩
   obtain ⟨s1,s2⟩:=hr.moved hid (w1:=w') (gh:=gh) (rows':=rows.take i++(vrows++rows.drop i)) rfl rfl rfl (by rw[hrl]) rfl n4
    (by rw[hrl];simp only[gh];omega) n5 n6 (c:=c') (e:=e') n7 (by rw[hrl];simp only[gh];omega)
    (fun k row hk=>(hcell k row hk).1) (fun k j row x hk hj=>(hcell k row hk).2 j x hj)
   have hz':(γ id).base+0*1=(γ id).base:=by omega
   rw[hz']
   refine ⟨.slice (some (adr b' o')) (rows.length+vrows.length) cap',w',_,_,BS s1 s2,?_,.inr ⟨hent,lA n1 cs⟩⟩
   refine .hsl _ id (ep+1) 0 _ none _ _ cap' (by simp[gh]) (by simp[gh]) n2 (fun _=>⟨by simp[gh],by simp[gh],?_⟩)
   simp only[eG,upd_same,gh];omega
end
end Hx
end
section
namespace Hx
open Go
noncomputable def yF (C:Cfg)(f:Nat):Nat->List AV->G->OR:=fun d xs g =>
 match (I C).call d f xs ⟨eY g.h (xs.flatMap (ax g.h az)),g.nx,[]⟩ with
 | .ok v g'=>.upd v ⟨eA g.h g'.h g'.lg,g'.nx,g'.lg++g.lg⟩
 | .fail=>.fail
theorem Ch {C:Cfg}(hC:CfgOk C){f:Nat}:ExtOk C f (yF C f):=by
 have wfr:∀(g:G) (ids:List Nat),WF g->WF ⟨eY g.h ids,g.nx,[]⟩:=by
  intro g ids hwf id hid
  show (eY g.h ids).get id=.none
  rw[fg]
  split
  ·exact hwf id hid
  ·rfl
 have sh:∀d xs g,yF C f d xs g=.fail\/∃n v g',(sem C n).call d f xs ⟨eY g.h (xs.flatMap (ax g.h az)),g.nx,[]⟩=.ok v g' /\
   yF C f d xs g=.upd v ⟨eA g.h g'.h g'.lg,g'.nx,g'.lg++g.lg⟩:=by
  intro d xs g
  unfold yF
  split
  ·rename_i v g' h;obtain ⟨n,hn⟩:=CU h;exact .inr ⟨n,v,g',hn,rfl⟩
  ·exact .inl rfl
 refine ⟨fun d xs g hwf=>?_,fun d xs g y hy=>?_,fun A bd w γ hg nx g xs vs hr hwf hx hf hv hne cs=>?_⟩
 ·rcases sh d xs g with h | ⟨n,v,g',h1,h2⟩
  ·rw[h];exact Mon.refl g
  ·rw[h2]
   have hok:=po hC n
   have m:=hok.mon.call _ _ _ _ _ _ h1 (wfr g _ hwf)
   obtain ⟨nw,a,b,c⟩:=m.new
   have ha:g'.lg=nw:=by simpa using a
   refine ⟨m.nx,⟨g'.lg,rfl,fun id hid=>?_,fun id hid=>?_⟩,fun hw id hid=>?_⟩
   ·show (eA _ _ _).get id=_
    rw[d7,if_neg hid]
   ·obtain ⟨c1,c2⟩:=c id (by rw[<-ha];exact hid)
    refine ⟨c1,fun hn=>c2 ?_⟩
    show (eY _ _).get id=_
    rw[fg,hn];simp
   ·show (eA _ _ _).get id=_
    have hid:g'.nx<=id:=hid
    have hnx:g.nx<=g'.nx:=m.nx
    rw[d7,if_neg]
    ·exact hw id (by omega)
    ·intro hl
     have:=(c id (by rw[<-ha];exact hl)).1
     omega
 ·rcases sh d xs g with h | ⟨n,v,g',h1,h2⟩
  ·rw[h] at hy;cases hy
  ·rw[h2] at hy;cases hy
 ·rcases sh (bd+1) xs g with h | ⟨n,v,g',h1,h2⟩
  ·exact absurd h hne
  ·rw[h2] at hf ⊢
   have hok:=po hC n
   obtain ⟨he,run⟩:=hok.call _ _ _ _ _ _ h1
   obtain ⟨u,w',γ',hg',fin,rv,out⟩:=run A w γ hg nx vs hr (fun id hn=>by
     have hn':(eY g.h (xs.flatMap (ax g.h az))).get id≠.none:=hn
     show hg id=(eY _ _).get id
     rw[fg] at hn' ⊢
     split at hn'
     ·rename_i hm;rw[if_pos hm];exact hx id hm hn'
     ·exact absurd rfl hn') (wfr g _ hwf) (fun id h1 h2=>hf id h1 h2) hv .normal cs (.inl rfl)
   refine ⟨u,w',γ',hg',⟨fin.rel,fin.stp,?_⟩,rv,.inr ⟨he,out⟩⟩
   obtain ⟨nw,a,b,c⟩:=fin.new
   have ha:g'.lg=nw:=by simpa using a
   subst ha
   refine ⟨g'.lg,rfl,fun id hid=>?_,c⟩
   show hg' id=(eA _ _ _).get id
   rw[d7,if_pos hid];exact b id hid
end Hx
end
section
namespace Go.Proofs.YtbejmpmoigmliaaGreatDoor.Gen
open Hx
noncomputable def cfg0:Cfg:={ P:=Tryz.prog,iso:=fun f=>Nat.testBit 796811861359663404356330575176412241815613130441680752738303 f,ext:=fun _=>none,glob:=fun g=>af (Nat.beq g 3) (some (64,[[.int .u8 0,.int .u8 1,.int .u8 56,.int .u8 2,.int .u8 57,.int .u8 49,.int .u8 28,.int .u8 3,.int .u8 61,.int .u8 58,.int .u8 42,.int .u8 50,.int .u8 38,.int .u8 29,.int .u8 17,.int .u8 4,.int .u8 62,.int .u8 47,.int .u8 59,.int .u8 36,.int .u8 45,.int .u8 43,.int .u8 51,.int .u8 22,.int .u8 53,.int .u8 39,.int .u8 33,.int .u8 30,.int .u8 24,.int .u8 18,.int .u8 12,.int .u8 5,.int .u8 63,.int .u8 55,.int .u8 48,.int .u8 27,.int .u8 60,.int .u8 41,.int .u8 37,.int .u8 16,.int .u8 46,.int .u8 35,.int .u8 44,.int .u8 21,.int .u8 52,.int .u8 32,.int .u8 23,.int .u8 11,.int .u8 54,.int .u8 26,.int .u8 40,.int .u8 15,.int .u8 34,.int .u8 20,.int .u8 31,.int .u8 10,.int .u8 25,.int .u8 14,.int .u8 19,.int .u8 9,.int .u8 13,.int .u8 8,.int .u8 7,.int .u8 6]])) none }
theorem cfg0Ok:CfgOk cfg0:=CfgOk.plain (by kernel_rfl) (by kernel_rfl)
theorem insOk:ExtOk cfg0 164 h_:=vz (C:=cfg0) (ρ:=Tryz.lays21_ren) Tryz.lays21 (Hx.yP Tryz.func164 (by kernel_rfl) (by kernel_rfl))
theorem add116:ExtOk cfg0 116 mf:=yX (C:=cfg0) Tryz.func116 (by kernel_rfl) (by kernel_rfl) (by kernel_rfl) (by kernel_rfl)
noncomputable def cfgA:Cfg:=cfg0.add 116 mf
theorem cfgAOk:CfgOk cfgA:=cfg0Ok.add add116
noncomputable def cfg:Cfg:=cfgA.add 164 h_
theorem cfgOk:CfgOk cfg:=cfgAOk.add (ExtOk.cfg (C:=cfg0) (C':=cfgA) rfl rfl insOk)
theorem inl165:ExtOk cfg0 165 (ui cfg0 40 165):=xh cfg0Ok
noncomputable def cfgC:Cfg:=cfg.add 165 (ui cfg0 40 165)
theorem cfgCOk:CfgOk cfgC:=cfgOk.add (ExtOk.cfg (C:=cfg0) (C':=cfg) rfl rfl inl165)
theorem inl62:ExtOk cfg0 62 (ui cfg0 200 62):=xh cfg0Ok
noncomputable def cfgM:Cfg:=cfgC.add 62 (ui cfg0 200 62)
theorem cfgMOk:CfgOk cfgM:=cfgCOk.add (ExtOk.cfg (C:=cfg0) (C':=cfgC) rfl rfl inl62)
theorem works_run:ak (sem cfgM 20000) 1 G.empty 7 []=.val (.bool true):=by kernel_rfl
noncomputable def cfgW:Cfg:=cfg.add 7 (pQ (.bool true))
theorem cfgWOk:CfgOk cfgW:=cfgOk.add (ExtOk.cfg (C:=cfgM) (C':=cfg) rfl rfl (yV cfgMOk works_run))
theorem inl1:ExtOk cfg0 165 (yF cfg0 165):=Ch cfg0Ok
noncomputable def cfg1:Cfg:=cfgW.add 165 (yF cfg0 165)
theorem cfg1Ok:CfgOk cfg1:=cfgWOk.add (ExtOk.cfg (C:=cfg0) (C':=cfgW) rfl rfl inl1)
end Go.Proofs.YtbejmpmoigmliaaGreatDoor.Gen
end
section
namespace Hx
open Go
set_option maxRecDepth 100000
noncomputable section
def C0:Cfg:=Go.Proofs.YtbejmpmoigmliaaGreatDoor.Gen.cfg1
abbrev N.aB:Nat:=10
abbrev N.aD:Nat:=11
abbrev N.ax:Nat:=36
abbrev N.aq:Nat:=37
abbrev N.az:Nat:=35
abbrev N.aP:Nat:=45
abbrev N.ap:Nat:=39
abbrev N.aV:Nat:=3
abbrev N.aG:Nat:=8
abbrev N.ay:Nat:=9
abbrev N.aW:Nat:=7
abbrev N.aT:Nat:=135
abbrev N.aX:Nat:=156
abbrev N.aN:Nat:=157
abbrev N.aS:Nat:=54
abbrev N.aA:Nat:=40
abbrev N.aa:Nat:=55
abbrev N.aL:Nat:=88
abbrev N.ah:Nat:=41
abbrev N.aH:Nat:=34
abbrev N.aQ:Nat:=82
abbrev N.aE:Nat:=33
abbrev N.aI:Nat:=158
abbrev N.aC:Nat:=114
abbrev N.aO:Nat:=136
abbrev N.aR:Nat:=20
abbrev N.aK:Nat:=12
abbrev N.aF:Nat:=13
abbrev N.am:Nat:=43
abbrev N.an:Nat:=42
abbrev N.af:Nat:=38
abbrev N.aU:Nat:=44
abbrev N.aw:Nat:=80
abbrev N.aJ:Nat:=81
abbrev N.aM:Nat:=112
abbrev N.ae:Nat:=113
abbrev N.ak:Nat:=134
abbrev N.au:Nat:=79
def bP:SC:=sQ [o 66 (.bin .lss (.t 65) (qI 2))] (.seq (.cond (.t 66) (.skip) (.exit 4)) (.seq (.blk 5 (sQ [o 67 (.ix true 2 2 (.t 64) (.t 65)),o 20 (.alloc [.int .i64 0,.int .i64 0]),oz (.store 2 (.t 20) (.t 67))] (sQ [oM 68 14,o 69 (.ixa 2 1 (.t 20) (qI 0)),oL 70 69,o 71 (.ixa 2 1 (.t 20) (qI 1)),oL 72 71,oM 73 18,o 74 (.call N.ay [.t 68,.t 70,.t 72,.t 73,.k (.int .u64 0)]),oM 21 74] (sQ [oM 76 14,o 77 (.ixa 2 1 (.t 20) (qI 0)),oL 78 77,o 79 (.ixa 2 1 (.t 20) (qI 1)),oL 80 79,oM 81 18,o 82 (.call N.aB [.t 76,.t 78,.t 80,.t 81]),oM 75 82,o 83 (.ext (.t 75) 0),o 84 (.ext (.t 75) 1),oM 22 83,oM 23 84] (sQ [oM 86 14,o 87 (.ixa 2 1 (.t 20) (qI 0)),oL 88 87,o 89 (.ixa 2 1 (.t 20) (qI 1)),oL 90 89,oM 91 18,o 92 (.call N.aD [.t 86,.t 88,.t 90,.t 91]),oM 85 92,o 93 (.ext (.t 85) 0),o 94 (.ext (.t 85) 1),oM 24 93,oM 25 94] (sQ [oM 95 23,oM 96 21,o 97 (.bin .neq (.t 95) (.t 96)),oM 98 97,og 99 98 false (.mv (.t 25)),og 100 98 false (.mv (.t 21)),og 101 98 false (.bin .neq (.t 99) (.t 100)),o 102 (.pick (.t 98) (.k (.bool true)) (.t 101)),oM 103 102,og 104 103 false (.mv (.t 22)),og 105 103 false (.mv (.t 21)),og 106 103 false (.bin .eql (.t 105) (qI 0)),og 107 103 false (.mv (.t 106)),og 108 107 true (.mv (.t 14)),og 109 107 true (.ixa 2 1 (.t 20) (qI 0)),og 110 107 true (.load false 1 (.t 109)),og 111 107 true (.ixa 2 1 (.t 20) (qI 1)),og 112 107 true (.load false 1 (.t 111)),og 113 107 true (.mv (.t 18)),og 114 107 true (.call N.aK [.t 108,.t 110,.t 112,.t 113]),og 115 103 false (.pick (.t 107) (.t 114) (.k (.bool false))),og 116 103 false (.eq true .bool (.t 104) (.t 115)),o 117 (.pick (.t 103) (.k (.bool true)) (.t 116)),oM 118 117,og 119 118 false (.mv (.t 24)),og 120 118 false (.mv (.t 21)),og 121 118 false (.bin .eql (.t 120) (qI 0)),og 122 118 false (.mv (.t 121)),og 123 122 true (.mv (.t 14)),og 124 122 true (.ixa 2 1 (.t 20) (qI 0)),og 125 122 true (.load false 1 (.t 124)),og 126 122 true (.ixa 2 1 (.t 20) (qI 1)),og 127 122 true (.load false 1 (.t 126)),og 128 122 true (.mv (.t 18)),og 129 122 true (.call N.aF [.t 123,.t 125,.t 127,.t 128]),og 130 118 false (.pick (.t 122) (.t 129) (.k (.bool false))),og 131 118 false (.eq true .bool (.t 119) (.t 130)),o 132 (.pick (.t 118) (.k (.bool true)) (.t 131))] (.cond (.t 132) (sQ [o 12 (.mv (.k (.bool false)))] (.ret)) (.skip)))))))) (.ops [oA 133 65,oM 65 133])))
def dC:SC:=.ops [oA 134 55,oM 55 134]
def bM:SC:=sQ [o 56 (.bin .lss (.t 55) (qI 2))] (.seq (.cond (.t 56) (.skip) (.exit 2)) (.seq (.blk 3 (sQ [o 57 (.ix false 2 1 (.t 54) (.t 55)),oM 18 57] (sQ [oM 58 2,oM 59 3,o 60 (.build [.int .i64 0,.int .i64 0] [(0,1),(1,1)] [.t 58,.t 59]),oM 61 15,oM 62 16,o 63 (.build [.int .i64 0,.int .i64 0] [(0,1),(1,1)] [.t 61,.t 62]),o 64 (.build [.int .i64 0,.int .i64 0,.int .i64 0,.int .i64 0] [(0,2),(2,2)] [.t 60,.t 63]),oK 65 0] (.blk 4 (.loop bP))))) dC))
def dE:SC:=.ops [oA 135 31,oM 31 135]
def bQ:SC:=sQ [o 32 (.bin .lss (.t 31) (qI 2))] (.seq (.cond (.t 32) (.skip) (.exit 0)) (.seq (.blk 1 (sQ [o 33 (.ix false 2 1 (.t 30) (.t 31)),oM 14 33] (sQ [oM 34 5,o 35 (.bin .rem (.t 34) (.k (.int .u8 6))),o 36 (.conv .i64 (.t 35)),oM 37 5,o 38 (.bin .quo (.t 37) (.k (.int .u8 6))),o 39 (.bin .rem (.t 38) (.k (.int .u8 6))),o 40 (.conv .i64 (.t 39)),oM 15 36,oM 16 40] (.seq (.quiet [oM 41 4,oM 42 4,oM 43 14,oN 44 43,o 45 (.bin .shl (.k (.int .u64 1)) (.t 44)),o 46 (.bin .sub (.t 45) (.k (.int .u64 1))),o 47 (.bin .and (.t 42) (.t 46)),oM 48 15,o 49 (.bin .shl (.k (.int .u64 1)) (.t 48)),o 50 (.bin .andNot (.t 47) (.t 49)),oM 51 16,o 52 (.bin .shl (.k (.int .u64 1)) (.t 51)),o 53 (.bin .andNot (.t 50) (.t 52)),o 54 (.build [.int .u64 0,.int .u64 0] [(0,1),(1,1)] [.t 41,.t 53]),oK 55 0]) (.blk 2 (.loop bM)))))) dE))
def dD:SC:=sQ [o 12 (.mv (.k (.bool true)))] (.ret)
def dM:SC:=.seq (sQ [o 26 (.call N.aW []),o 27 (.not (.t 26))] (.cond (.t 27) (sQ [o 12 (.mv (.k (.bool false)))] (.ret)) (.skip))) (.seq (sQ [oM 28 0,o 29 (.load true 2 (.t 7)),o 30 (.call N.aG [.t 28,.t 29]),oK 31 0] (.blk 0 (.loop bQ))) dD)
def cx:SF:=⟨136,[.tm 12],sQ [o 7 (.box (.t 1)),o 12 (.mv (.k (.bool false)))] dM⟩
def eW:SC:=sQ [oM 19 0,o 20 (.load true 2 (.t 3)),o 21 (.call N.aH [.t 20]),o 22 (.build [.nils,.nils] [(0,1),(1,1)] [.t 19,.t 21]),oz (.store 2 (.t 4) (.t 22))] (.ret)
def iO:SC:=sQ [oM 5 0,oM 6 0,oN 7 6,o 8 (.mn (.t 7) (qI 9)),o 9 (.slc 1 (.t 5) [] [.t 8]),oM 0 9] (.seq (sQ [oM 10 0,o 11 (.call N.aE [.t 10]),oM 12 11,og 13 12 true (.mv (.t 0)),og 14 12 true (.len .slice (.t 13)),og 15 12 true (.bin .gtr (.t 14) (qI 6)),o 16 (.pick (.t 12) (.t 15) (.k (.bool false)))] (.cond (.t 16) (.ops [oM 17 0,o 18 (.slc 1 (.t 17) [] [.k (.int .i64 0)]),oM 0 18]) (.skip))) eW)
def gN:SF:=⟨23,[.cell true 2 4],sQ [o 3 (.box (.t 1)),o 4 (.alloc [.nils,.nils])] iO⟩
def cF:SF:=⟨23,[.tm 10],sQ [oK 10 0] (.seq (.blk 0 (sQ [oM 12 0,o 13 (.call N.aE [.t 12]),o 14 (.not (.t 13)),oM 11 14] (.cond (.t 11) (sQ [oK 10 70] (.ret)) (sQ [oM 16 0,oM 17 1,oM 18 2,oM 19 3,oM 20 4,o 21 (.call N.aR [.t 16,.t 17,.t 18,.t 19,.t 20]),o 22 (.not (.t 21)),oM 15 22] (.cond (.t 15) (sQ [oK 10 2] (.ret)) (.skip)))))) (sQ [oK 10 0] (.ret)))⟩
def cW:SF:=⟨26,[.tm 8,.tm 9],sQ [o 8 (.mv (.k (.bool false))),oK 9 0] (.seq (sQ [oM 11 0,oM 12 1,oM 13 2,oM 14 3,o 15 (.call N.az [.t 11,.t 12,.t 13,.t 14]),oM 10 15] (sQ [oM 16 10,o 17 (.bin .neq (.t 16) (qI 0))] (.cond (.t 17) (sQ [oM 18 10,o 8 (.mv (.k (.bool false))),oM 9 18] (.ret)) (.skip)))) (sQ [oM 19 0,oM 20 1,oM 21 2,oM 22 3,o 23 (.call N.ax [.t 19,.t 20,.t 21,.t 22]),o 24 (.ext (.t 23) 0),o 25 (.ext (.t 23) 1),oM 8 24,oM 9 25] (.ret)))⟩
def bk:SF:=⟨60,[.tm 8,.tm 9],sQ [o 8 (.mv (.k (.bool false))),oK 9 0] (.seq (sQ [oM 13 0,oM 14 1,oM 15 2,oM 16 3,o 17 (.call N.az [.t 13,.t 14,.t 15,.t 16]),oM 10 17] (sQ [oM 18 10,o 19 (.bin .neq (.t 18) (qI 0))] (.cond (.t 19) (sQ [oM 20 10,o 8 (.mv (.k (.bool false))),oM 9 20] (.ret)) (.skip)))) (.seq (sQ [oM 21 0,oM 22 1,oM 23 3,o 24 (.call N.aq [.t 21,.t 22,.t 23]),oM 25 2,o 26 (.bin .shr (.t 24) (.t 25)),o 27 (.bin .and (.t 26) (.k (.int .u64 1))),o 28 (.bin .eql (.t 27) (.k (.int .u64 1)))] (.cond (.t 28) (sQ [o 8 (.mv (.k (.bool false))),oK 9 0] (.ret)) (.skip))) (.seq (sQ [oM 29 3,o 30 (.bin .eql (.t 29) (.k (.int .u64 0)))] (.cond (.t 30) (sQ [o 8 (.mv (.k (.bool true))),oK 9 0] (.ret)) (.skip))) (.seq (.quiet [oM 32 0,oM 33 1,o 34 (.bin .shl (.k (.int .u64 1)) (.t 33)),o 35 (.call N.ap [.t 32,.t 34]),oM 36 1,o 37 (.bin .shl (.k (.int .u64 1)) (.t 36)),oM 38 3,o 39 (.call N.af [.t 35,.t 37,.t 38,.k (.int .u64 0)]),oM 31 39,o 40 (.ext (.t 31) 0),o 41 (.ext (.t 31) 1),oM 11 40,oM 12 41]) (.seq (sQ [oM 42 12,o 43 (.bin .neq (.t 42) (qI 0)),oM 44 43,og 45 44 false (.mv (.t 11)),og 46 44 false (.not (.t 45)),o 47 (.pick (.t 44) (.k (.bool true)) (.t 46))] (.cond (.t 47) (sQ [oM 48 12,o 8 (.mv (.k (.bool false))),oM 9 48] (.ret)) (.skip))) (.seq (.quiet [oM 49 0,oM 50 3,o 51 (.call N.ap [.t 49,.t 50]),oM 52 3,oM 53 2,o 54 (.bin .shl (.k (.int .u64 1)) (.t 53)),oM 55 1,o 56 (.bin .shl (.k (.int .u64 1)) (.t 55)),o 57 (.call N.af [.t 51,.t 52,.t 54,.t 56]),o 58 (.ext (.t 57) 0),o 59 (.ext (.t 57) 1),oM 8 58,oM 9 59]) (.ret)))))))⟩
def dl:SF:=⟨32,[.tm 8],sQ [o 8 (.mv (.k (.bool false)))] (sQ [oM 11 1,o 12 (.conv .u64 (.t 11)),o 13 (.bin .shl (.k (.int .u64 1)) (.t 12)),oM 14 2,o 15 (.conv .u64 (.t 14)),o 16 (.bin .shl (.k (.int .u64 1)) (.t 15)),oM 9 13,oM 10 16] (sQ [oM 17 0,oM 18 9,o 19 (.call N.aA [.t 17,.t 18]),oM 20 3,o 21 (.bin .and (.t 19) (.t 20)),o 22 (.bin .eql (.t 21) (.k (.int .u64 0))),oM 23 22,og 24 23 true (.mv (.t 0)),og 25 23 true (.mv (.t 9)),og 26 23 true (.call N.an [.t 24,.t 25]),og 27 23 true (.mv (.t 9)),og 28 23 true (.mv (.t 10)),og 29 23 true (.mv (.t 3)),og 30 23 true (.call N.ah [.t 26,.t 27,.t 28,.t 29]),o 31 (.pick (.t 23) (.t 30) (.k (.bool false))),oM 8 31] (.ret)))⟩
def cS:SF:=⟨40,[.tm 8],sQ [o 8 (.mv (.k (.bool false)))] (sQ [oM 11 1,o 12 (.conv .u64 (.t 11)),o 13 (.bin .shl (.k (.int .u64 1)) (.t 12)),oM 14 2,o 15 (.conv .u64 (.t 14)),o 16 (.bin .shl (.k (.int .u64 1)) (.t 15)),oM 9 13,oM 10 16] (sQ [oM 17 0,oM 18 1,oM 19 2,oM 20 3,o 21 (.call N.am [.t 17,.t 18,.t 19,.t 20]),o 22 (.not (.t 21)),oM 23 22,og 24 23 true (.mv (.t 0)),og 25 23 true (.mv (.t 9)),og 26 23 true (.call N.an [.t 24,.t 25]),og 27 23 true (.mv (.t 9)),og 28 23 true (.mv (.t 3)),og 29 23 true (.call N.ah [.t 26,.t 27,.t 28,.k (.int .u64 0)]),o 30 (.pick (.t 23) (.t 29) (.k (.bool false))),oM 31 30,og 32 31 true (.mv (.t 0)),og 33 31 true (.mv (.t 3)),og 34 31 true (.call N.an [.t 32,.t 33]),og 35 31 true (.mv (.t 3)),og 36 31 true (.mv (.t 10)),og 37 31 true (.mv (.t 9)),og 38 31 true (.call N.ah [.t 34,.t 35,.t 36,.t 37]),o 39 (.pick (.t 31) (.t 38) (.k (.bool false))),oM 8 39] (.ret)))⟩
def bc:SF:=⟨59,[.tm 10],sQ [o 10 (.mv (.k (.bool false)))] (sQ [oM 12 0,oN 13 12,oM 11 13] (.seq (sQ [oM 14 1,o 15 (.bin .lss (.t 14) (qI 0)),oM 16 15,og 17 16 false (.mv (.t 1)),og 18 16 false (.mv (.t 11)),og 19 16 false (.bin .geq (.t 17) (.t 18)),o 20 (.pick (.t 16) (.k (.bool true)) (.t 19)),oM 21 20,og 22 21 false (.mv (.t 2)),og 23 21 false (.bin .lss (.t 22) (qI 0)),o 24 (.pick (.t 21) (.k (.bool true)) (.t 23)),oM 25 24,og 26 25 false (.mv (.t 2)),og 27 25 false (.mv (.t 11)),og 28 25 false (.bin .geq (.t 26) (.t 27)),o 29 (.pick (.t 25) (.k (.bool true)) (.t 28)),oM 30 29,og 31 30 false (.mv (.t 1)),og 32 30 false (.mv (.t 2)),og 33 30 false (.bin .eql (.t 31) (.t 32)),o 34 (.pick (.t 30) (.k (.bool true)) (.t 33)),oM 35 34,og 36 35 false (.mv (.t 3)),og 37 35 false (.mv (.t 11)),og 38 35 false (.conv .u64 (.t 37)),og 39 35 false (.bin .shr (.t 36) (.t 38)),og 40 35 false (.bin .neq (.t 39) (.k (.int .u64 0))),o 41 (.pick (.t 35) (.k (.bool true)) (.t 40)),oM 42 41,og 43 42 false (.mv (.t 4)),og 44 42 false (.mv (.t 11)),og 45 42 false (.conv .u64 (.t 44)),og 46 42 false (.bin .shr (.t 43) (.t 45)),og 47 42 false (.bin .neq (.t 46) (.k (.int .u64 0))),o 48 (.pick (.t 42) (.k (.bool true)) (.t 47))] (.cond (.t 48) (sQ [o 10 (.mv (.k (.bool false)))] (.ret)) (.skip))) (sQ [oM 49 3,oM 50 1,o 51 (.call N.aa [.t 49,.t 50]),o 52 (.not (.t 51)),oM 53 52,og 54 53 true (.mv (.t 3)),og 55 53 true (.mv (.t 2)),og 56 53 true (.call N.aa [.t 54,.t 55]),og 57 53 true (.not (.t 56)),o 58 (.pick (.t 53) (.t 57) (.k (.bool false))),oM 10 58] (.ret))))⟩
def iD:SC:=.seq (sQ [oM 12 3,oM 13 0,oN 14 13,o 15 (.bin .lss (.t 12) (.t 14))] (.cond (.t 15) (.skip) (.exit 0))) (.seq (.blk 1 (sQ [oM 18 0,oM 19 3,oX 20 18 19,oL 21 20,oM 22 0,oN 23 22,o 24 (.conv .u64 (.t 23)),o 25 (.bin .shr (.t 21) (.t 24)),o 26 (.bin .neq (.t 25) (.k (.int .u64 0)))] (.cond (.t 26) (sQ [o 2 (.mv (.k (.bool false)))] (.ret)) (.skip)))) (.ops [oM 16 3,oA 17 16,oM 3 17]))
def iI:SC:=sQ [oM 27 0,o 28 (.call N.aS [.t 27]),oM 2 28] (.ret)
def dN:SF:=⟨29,[.tm 2],sQ [o 2 (.mv (.k (.bool false)))] (.seq (sQ [oM 4 0,oN 5 4,o 6 (.bin .lss (.t 5) (qI 1)),oM 7 6,og 8 7 false (.mv (.t 0)),og 9 7 false (.len .slice (.t 8)),og 10 7 false (.bin .gtr (.t 9) (qI 8)),o 11 (.pick (.t 7) (.k (.bool true)) (.t 10))] (.cond (.t 11) (sQ [o 2 (.mv (.k (.bool false)))] (.ret)) (.skip))) (.seq (sQ [oK 3 0] (.blk 0 (.loop iD))) iI))⟩
def cp:SC:=sQ [o 7 (.mv (.k (.nils)))] (sQ [oM 36 7,oM 37 4,oM 38 6,o 39 (.slc 1 (.t 37) [] [.t 38]),o 40 (.app 1 8 (.t 36) (.t 39)),oM 41 5,o 42 (.bsl 1 1 [.int .i64 0] [0] [.t 41]),o 43 (.app 1 8 (.t 40) (.t 42)),oM 7 43] (.ops [oM 44 7,oM 45 4,oM 46 6,o 47 (.slc 1 (.t 45) [.t 46] []),o 48 (.app 1 8 (.t 44) (.t 47)),oM 4 48]))
def eR:SC:=.ops [oM 20 5,oA 21 20,oM 5 21]
def cB:SC:=.seq (sQ [oM 17 5,oM 18 3,o 19 (.bin .lss (.t 17) (.t 18))] (.cond (.t 19) (.skip) (.exit 0))) (.seq (.blk 1 (sQ [oK 6 0] (.seq (sQ [oM 22 5,oF 23 1 1,oL 24 23,oN 25 24,o 26 (.bin .lss (.t 22) (.t 25))] (.cond (.t 26) (.ops [oF 27 1 1,oL 28 27,oM 29 5,oX 30 28 29,oL 31 30,o 32 (.conv .i64 (.t 31)),oM 33 5,oA 34 33,o 35 (.bin .rem (.t 32) (.t 34)),oM 6 35]) (.skip))) cp))) eR)
def eC:SC:=.ops [oM 66 11,oA 67 66,oM 11 67]
def cq:SC:=.seq (sQ [oM 63 11,oM 64 9,o 65 (.bin .lss (.t 63) (.t 64))] (.cond (.t 65) (.skip) (.exit 4))) (.seq (.blk 5 (sQ [oF 68 0 1,oL 69 68,oM 70 9,oX 71 69 70,oL 72 71,oM 73 11,o 74 (.conv .u64 (.t 73)),o 75 (.bin .shr (.t 72) (.t 74)),o 76 (.bin .and (.t 75) (.k (.int .u8 1))),o 77 (.bin .eql (.t 76) (.k (.int .u8 1))),oM 78 77,og 79 78 true (.mv (.t 10)),og 80 78 true (.bin .lss (.t 79) (qI 3)),o 81 (.pick (.t 78) (.t 80) (.k (.bool false)))] (.cond (.t 81) (.seq (.feet [0,0,0,6,14,0,0,0,192,448,992,2016,0,0,12288,28672,61440,126976,262112,524287,1048575] [oM 82 8,oM 83 4,oM 84 9,oX 85 83 84,oL 86 85,oM 87 8,oM 88 4,oM 89 9,oX 90 88 89,oL 91 90,oX 92 87 91,oL 93 92,oM 94 4,oM 95 11,oX 96 94 95,oL 97 96,o 98 (.conv .u64 (.t 97)),o 99 (.bin .shl (.k (.int .u64 1)) (.t 98)),o 100 (.bin .or (.t 93) (.t 99)),oX 101 82 86,oz (.store 1 (.t 101) (.t 100))]) (.ops [oM 102 10,oA 103 102,oM 10 103])) (.skip)))) eC)
def eQ:SC:=.ops [oM 61 9,oA 62 61,oM 9 62]
def cy:SC:=.seq (sQ [oM 51 9,oM 52 3,o 53 (.bin .lss (.t 51) (.t 52)),oM 54 53,og 55 54 true (.mv (.t 9)),og 56 54 true (.fad 0 (.t 1)),og 57 54 true (.load false 1 (.t 56)),og 58 54 true (.len .slice (.t 57)),og 59 54 true (.bin .lss (.t 55) (.t 58)),o 60 (.pick (.t 54) (.t 59) (.k (.bool false)))] (.cond (.t 60) (.skip) (.exit 2))) (.seq (.blk 3 (sQ [oK 10 0] (sQ [oK 11 0] (.blk 4 (.loop cq))))) eQ)
def eJ:SC:=sQ [oM 104 8,oM 2 104] (.ret)
def eO:SC:=sQ [oM 49 3,o 50 (.mks 1 8 [.int .u64 0] (.t 49) (.t 49)),oM 8 50] (.seq (sQ [oK 9 0] (.blk 2 (.loop cy))) eJ)
def e6:SC:=sQ [oF 12 0 1,oL 13 12,oN 14 13,o 15 (.mx (.t 14) (qI 1)),o 16 (.mn (.t 15) (qI 6)),oM 3 16] (sQ [o 4 (.mv (.k (.nils)))] (.seq (sQ [oK 5 0] (.blk 0 (.loop cB))) eO))
def dF:SF:=⟨105,[.tm 2],sQ [o 1 (.box (.t 0)),o 2 (.mv (.k (.nils)))] e6⟩
def bH:SF:=⟨39,[.tm 8],sQ [oK 8 0] (.seq (sQ [oM 10 0,o 11 (.call N.aU [.t 10]),oM 9 11] (sQ [oM 12 9,o 13 (.bin .neq (.t 12) (qI 0))] (.cond (.t 13) (sQ [oM 14 9,oM 8 14] (.ret)) (.skip)))) (.seq (.seq (.quiet [oM 15 0,oN 16 15,oM 17 1,oM 18 2,o 19 (.call N.aP [.t 16,.t 17,.t 18]),o 20 (.not (.t 19)),oM 21 20,og 22 21 false (.mv (.t 3)),og 23 21 false (.mv (.t 0)),og 24 21 false (.len .slice (.t 23)),og 25 21 false (.bin .shr (.t 22) (.t 24)),og 26 21 false (.bin .neq (.t 25) (.k (.int .u64 0))),o 27 (.pick (.t 21) (.k (.bool true)) (.t 26)),oM 28 27,og 29 28 false (.mv (.t 3)),og 30 28 false (.mv (.t 1)),og 31 28 false (.bin .shr (.t 29) (.t 30)),og 32 28 false (.mv (.t 3)),og 33 28 false (.mv (.t 2)),og 34 28 false (.bin .shr (.t 32) (.t 33)),og 35 28 false (.bin .or (.t 31) (.t 34)),og 36 28 false (.bin .and (.t 35) (.k (.int .u64 1))),og 37 28 false (.bin .eql (.t 36) (.k (.int .u64 1))),o 38 (.pick (.t 28) (.k (.bool true)) (.t 37))]) (.cond (.t 38) (sQ [oK 8 2] (.ret)) (.skip))) (sQ [oK 8 0] (.ret))))⟩
def cR:SF:=⟨28,[.tm 8,.tm 9],sQ [o 8 (.mv (.k (.bool false))),oK 9 0] (.seq (sQ [oM 10 0,oM 11 1,o 12 (.call N.aq [.t 10,.t 11,.k (.int .u64 0)]),oM 13 3,o 14 (.bin .and (.t 12) (.t 13)),o 15 (.bin .neq (.t 14) (.k (.int .u64 0)))] (.cond (.t 15) (sQ [o 8 (.mv (.k (.bool false))),oK 9 0] (.ret)) (.skip))) (.seq (.quiet [oM 16 0,oM 17 1,o 18 (.bin .shl (.k (.int .u64 1)) (.t 17)),o 19 (.call N.ap [.t 16,.t 18]),oM 20 1,o 21 (.bin .shl (.k (.int .u64 1)) (.t 20)),oM 22 2,o 23 (.bin .shl (.k (.int .u64 1)) (.t 22)),oM 24 3,o 25 (.call N.af [.t 19,.t 21,.t 23,.t 24]),o 26 (.ext (.t 25) 0),o 27 (.ext (.t 25) 1),oM 8 26,oM 9 27]) (.ret)))⟩
def m8:SC:=.ops [oA 38 18,oM 18 38]
def ii:SC:=sQ [o 19 (.bin .lss (.t 18) (.t 17))] (.seq (.cond (.t 19) (.skip) (.exit 2)) (.seq (.blk 3 (sQ [oM 20 18,oX 21 16 18,oL 22 21,oM 8 20,oM 9 22] (sQ [oM 23 9,oM 24 7,o 25 (.bin .and (.t 23) (.t 24)),o 26 (.bin .neq (.t 25) (.k (.int .u64 0))),oM 27 26,og 28 27 true (.mv (.t 2)),og 29 27 true (.mv (.t 8)),og 30 27 true (.bin .shr (.t 28) (.t 29)),og 31 27 true (.bin .and (.t 30) (.k (.int .u64 1))),og 32 27 true (.bin .eql (.t 31) (.k (.int .u64 0))),o 33 (.pick (.t 27) (.t 32) (.k (.bool false)))] (.cond (.t 33) (.ops [oM 34 7,oM 35 8,o 36 (.bin .shl (.k (.int .u64 1)) (.t 35)),o 37 (.bin .or (.t 34) (.t 36)),oM 7 37]) (.skip))))) m8))
def hU:SC:=.ops [oA 39 14,oM 14 39]
def hZ:SC:=sQ [o 15 (.bin .lss (.t 14) (.t 13))] (.seq (.cond (.t 15) (.skip) (.exit 0)) (.seq (.blk 1 (sQ [oM 16 0,oN 17 16,oK 18 0] (.blk 2 (.loop ii)))) hU))
def ia:SC:=sQ [oM 40 7,oM 6 40] (.ret)
def gR:SF:=⟨41,[.tm 6],sQ [o 6 (.mv (.k (.int .u64 0)))] (sQ [oM 10 1,o 11 (.bin .shl (.k (.int .u64 1)) (.t 10)),oM 7 11] (.seq (sQ [oM 12 0,oN 13 12,oK 14 0] (.blk 0 (.loop hZ))) ia))⟩
def fj:SF:=⟨34,[.tm 8,.tm 9],sQ [o 8 (.mv (.k (.bool false))),oK 9 0] (sQ [oM 13 0,o 14 (.call N.au [.t 13]),oM 12 14,o 15 (.ext (.t 12) 0),o 16 (.ext (.t 12) 1),o 10 (.alloc [.nils,.nils]),oz (.store 2 (.t 10) (.t 15)),oM 11 16] (.seq (sQ [oM 17 11,o 18 (.bin .neq (.t 17) (qI 0))] (.cond (.t 18) (sQ [oM 19 11,o 8 (.mv (.k (.bool false))),oM 9 19] (.ret)) (.skip))) (.seq (sQ [o 20 (.load true 2 (.t 10)),oM 21 1,oM 22 2,oM 23 3,o 24 (.bsl 1 3 [.int .u64 0] [0,1,2] [.t 21,.t 22,.t 23]),o 25 (.call N.aw [.t 20,.t 24]),o 26 (.not (.t 25))] (.cond (.t 26) (sQ [o 8 (.mv (.k (.bool false))),oK 9 2] (.ret)) (.skip))) (sQ [o 27 (.load true 2 (.t 10)),oM 28 1,oM 29 3,o 30 (.call N.aJ [.t 27,.t 28,.t 29]),oM 31 2,o 32 (.bin .and (.t 30) (.t 31)),o 33 (.bin .eql (.t 32) (.k (.int .u64 0))),oM 8 33,oK 9 0] (.ret)))))⟩
def fY:SC:=sQ [o 13 (.bin .lss (.t 12) (.t 11))] (.seq (.cond (.t 13) (.skip) (.exit 0)) (.seq (.blk 1 (sQ [oM 14 12,oM 6 14] (.ops [oM 15 5,oM 16 6,oX 17 15 16,oL 18 17,oM 19 1,o 20 (.bin .andNot (.t 18) (.t 19)),oX 21 15 16,oz (.store 1 (.t 21) (.t 20))]))) (.ops [oA 22 12,oM 12 22])))
def fX:SC:=sQ [oM 23 5,oM 4 23] (.ret)
def e_:SF:=⟨24,[.tm 4],sQ [o 4 (.mv (.k (.nils)))] (sQ [o 7 (.bsl 1 0 [.int .u64 0] [] []),oM 8 0,o 9 (.app 1 8 (.t 7) (.t 8)),oM 5 9] (.seq (sQ [oM 10 5,oN 11 10,oK 12 0] (.blk 0 (.loop fY))) fX))⟩
def oQ:SC:=.ops [oM 17 6,oA 18 17,oM 6 18]
def oO:SC:=.seq (sQ [oM 13 6,oM 14 0,oN 15 14,o 16 (.bin .lss (.t 13) (.t 15))] (.cond (.t 16) (.skip) (.exit 2))) (.seq (.blk 3 (sQ [oM 19 0,oM 20 6,oX 21 19 20,oL 22 21,oM 23 1,o 24 (.bin .and (.t 22) (.t 23)),o 25 (.bin .neq (.t 24) (.k (.int .u64 0)))] (.cond (.t 25) (.ops [oM 26 1,oM 27 6,o 28 (.conv .u64 (.t 27)),o 29 (.bin .shl (.k (.int .u64 1)) (.t 28)),o 30 (.bin .or (.t 26) (.t 29)),oM 1 30]) (.skip)))) oQ)
def oR:SC:=.ops [oM 11 5,oA 12 11,oM 5 12]
def oC:SC:=.seq (sQ [oM 7 5,oM 8 0,oN 9 8,o 10 (.bin .lss (.t 7) (.t 9))] (.cond (.t 10) (.skip) (.exit 0))) (.seq (.blk 1 (sQ [oK 6 0] (.blk 2 (.loop oO)))) oR)
def jA:SC:=sQ [oM 31 1,oM 4 31] (.ret)
def jg:SF:=⟨32,[.tm 4],sQ [o 4 (.mv (.k (.int .u64 0)))] (.seq (sQ [oK 5 0] (.blk 0 (.loop oC))) jA)⟩
def ij:SF:=⟨16,[.tm 8],sQ [o 8 (.mv (.k (.bool false)))] (sQ [oM 9 0,oM 10 1,oM 11 3,o 12 (.call N.aQ [.t 9,.t 10,.t 11]),oM 13 2,o 14 (.bin .and (.t 12) (.t 13)),o 15 (.bin .eql (.t 14) (.k (.int .u64 0))),oM 8 15] (.ret))⟩
def gH:SC:=.seq (sQ [oM 7 6,oM 8 0,oN 9 8,o 10 (.bin .lss (.t 7) (.t 9))] (.cond (.t 10) (.skip) (.exit 0))) (.seq (.blk 1 (.ops [oM 13 5,oM 14 0,oM 15 6,oX 16 14 15,oL 17 16,oM 18 1,o 19 (.bin .andNot (.t 17) (.t 18)),o 20 (.bsl 1 1 [.int .u64 0] [0] [.t 19]),o 21 (.app 1 8 (.t 13) (.t 20)),oM 5 21])) (.ops [oM 11 6,oA 12 11,oM 6 12]))
def gu:SC:=sQ [oM 22 5,oM 4 22] (.ret)
def fN:SF:=⟨23,[.tm 4],sQ [o 4 (.mv (.k (.nils)))] (sQ [o 5 (.mv (.k (.nils)))] (.seq (sQ [oK 6 0] (.blk 0 (.loop gH))) gu))⟩
def hM:SC:=.seq (sQ [oM 10 9,oM 11 0,oN 12 11,o 13 (.bin .lss (.t 10) (.t 12))] (.cond (.t 13) (.skip) (.exit 0))) (.seq (.blk 1 (sQ [oM 16 0,oM 17 9,oX 18 16 17,oL 19 18,oM 20 1,o 21 (.call N.aa [.t 19,.t 20]),oM 22 21,og 23 22 true (.mv (.t 9)),og 24 22 true (.mv (.t 2)),og 25 22 true (.bin .eql (.t 23) (.t 24)),og 26 22 true (.mv (.t 25)),og 27 26 false (.mv (.t 3)),og 28 26 false (.mv (.t 9)),og 29 26 false (.call N.aa [.t 27,.t 28]),og 30 26 false (.not (.t 29)),og 31 26 false (.mv (.t 30)),og 32 31 true (.mv (.t 0)),og 33 31 true (.mv (.t 9)),og 34 31 true (.mv (.t 2)),og 35 31 true (.mv (.t 3)),og 36 31 true (.call N.am [.t 32,.t 33,.t 34,.t 35]),og 37 26 false (.pick (.t 31) (.t 36) (.k (.bool false))),og 38 22 true (.pick (.t 26) (.k (.bool true)) (.t 37)),o 39 (.pick (.t 22) (.t 38) (.k (.bool false)))] (.cond (.t 39) (sQ [o 8 (.mv (.k (.bool true)))] (.ret)) (.skip)))) (.ops [oM 14 9,oA 15 14,oM 9 15]))
def ie:SC:=sQ [o 8 (.mv (.k (.bool false)))] (.ret)
def gF:SF:=⟨40,[.tm 8],sQ [o 8 (.mv (.k (.bool false)))] (.seq (sQ [oK 9 0] (.blk 0 (.loop hM))) ie)⟩
def fd:SF:=⟨11,[.tm 2],sQ [oK 2 0] (sQ [oM 6 0,o 7 (.call N.au [.t 6]),oM 5 7,o 8 (.ext (.t 5) 0),o 9 (.ext (.t 5) 1),o 3 (.alloc [.nils,.nils]),oz (.store 2 (.t 3) (.t 8)),oM 4 9] (sQ [oM 10 4,oM 2 10] (.ret)))⟩
def aV:SF:=⟨28,[.tm 6],sQ [o 6 (.mv (.k (.bool false)))] (sQ [oM 7 1,o 8 (.bin .geq (.t 7) (qI 0)),oM 9 8,og 10 9 true (.mv (.t 1)),og 11 9 true (.mv (.t 0)),og 12 9 true (.bin .lss (.t 10) (.t 11)),o 13 (.pick (.t 9) (.t 12) (.k (.bool false))),oM 14 13,og 15 14 true (.mv (.t 2)),og 16 14 true (.bin .geq (.t 15) (qI 0)),o 17 (.pick (.t 14) (.t 16) (.k (.bool false))),oM 18 17,og 19 18 true (.mv (.t 2)),og 20 18 true (.mv (.t 0)),og 21 18 true (.bin .lss (.t 19) (.t 20)),o 22 (.pick (.t 18) (.t 21) (.k (.bool false))),oM 23 22,og 24 23 true (.mv (.t 1)),og 25 23 true (.mv (.t 2)),og 26 23 true (.bin .neq (.t 24) (.t 25)),o 27 (.pick (.t 23) (.t 26) (.k (.bool false))),oM 6 27] (.ret))⟩
def l5:SC:=.seq (sQ [oM 4 3,oM 5 0,oN 6 5,o 7 (.bin .lss (.t 4) (.t 6))] (.cond (.t 7) (.skip) (.exit 0))) (.seq (.blk 1 (sQ [oM 10 0,oM 11 0,oM 12 3,oX 13 11 12,oL 14 13,o 15 (.call N.aL [.t 10,.t 14]),oM 16 3,o 17 (.call N.aa [.t 15,.t 16])] (.cond (.t 17) (sQ [o 2 (.mv (.k (.bool false)))] (.ret)) (.skip)))) (.ops [oM 8 3,oA 9 8,oM 3 9]))
def gC:SC:=sQ [o 2 (.mv (.k (.bool true)))] (.ret)
def fS:SF:=⟨18,[.tm 2],sQ [o 2 (.mv (.k (.bool false)))] (.seq (sQ [oK 3 0] (.blk 0 (.loop l5))) gC)⟩
def lK:SF:=⟨11,[.tm 4],sQ [o 4 (.mv (.k (.bool false)))] (sQ [oM 5 0,oM 6 1,o 7 (.conv .u64 (.t 6)),o 8 (.bin .shr (.t 5) (.t 7)),o 9 (.bin .and (.t 8) (.k (.int .u64 1))),o 10 (.bin .eql (.t 9) (.k (.int .u64 1))),oM 4 10] (.ret))⟩
def dX:SC:=sQ [o 44 (.bin .lss (.t 43) (.t 42))] (.seq (.cond (.t 44) (.skip) (.exit 2)) (.seq (.blk 3 (sQ [oM 45 43,oM 7 45] (.feet [0,1,0,7,15,0,0,96,224,0,992,2047,4095,8191] [oF 46 1 4,oL 47 46,oM 48 7,oX 49 47 48,oL 50 49,oM 51 6,oM 52 7,o 53 (.bin .shr (.t 51) (.t 52)),o 54 (.bin .and (.t 53) (.k (.int .u64 1))),oM 55 5,o 56 (.bin .shl (.t 54) (.t 55)),o 57 (.bin .or (.t 50) (.t 56)),oX 58 47 48,oz (.store 1 (.t 58) (.t 57))]))) (.ops [oA 59 43,oM 43 59])))
def gY:SC:=.ops [oA 60 30,oM 30 60]
def d_:SC:=sQ [o 31 (.bin .lss (.t 30) (.t 29))] (.seq (.cond (.t 31) (.skip) (.exit 0)) (.seq (.blk 1 (sQ [oM 32 30,oX 33 28 30,oL 34 33,oM 5 32,oM 6 34] (.seq (sQ [oM 35 6,oM 36 0,oN 37 36,o 38 (.bin .shr (.t 35) (.t 37)),o 39 (.bin .neq (.t 38) (.k (.int .u64 0)))] (.cond (.t 39) (sQ [o 40 (.build [.nils,.nils] [] []),oz (.store 2 (.t 2) (.t 40)),oK 3 70] (.ret)) (.skip))) (sQ [oM 41 0,oN 42 41,oK 43 0] (.blk 2 (.loop dX)))))) gY))
def dZ:SC:=sQ [o 72 (.bin .lss (.t 71) (.t 70))] (.seq (.cond (.t 72) (.skip) (.exit 6)) (.seq (.blk 7 (sQ [oM 73 71,oX 74 69 71,oL 75 74,oM 9 73,oM 10 75] (sQ [oM 76 8,oM 77 9,o 78 (.bin .shr (.t 76) (.t 77)),o 79 (.bin .and (.t 78) (.k (.int .u64 1))),o 80 (.bin .eql (.t 79) (.k (.int .u64 0))),oM 81 80,og 82 81 true (.mv (.t 10)),og 83 81 true (.mv (.t 8)),og 84 81 true (.bin .andNot (.t 82) (.t 83)),og 85 81 true (.bin .eql (.t 84) (.k (.int .u64 0))),o 86 (.pick (.t 81) (.t 85) (.k (.bool false)))] (.cond (.t 86) (sQ [oM 87 8,oM 88 9,o 89 (.bin .shl (.k (.int .u64 1)) (.t 88)),o 90 (.bin .or (.t 87) (.t 89)),oM 8 90] (.exit 5)) (.skip))))) (.ops [oA 91 71,oM 71 91])))
def gT:SC:=sQ [o 92 (.build [.nils,.nils] [] []),oz (.store 2 (.t 2) (.t 92)),oK 3 70] (.ret)
def gt:SC:=.ops [oA 93 65,oM 65 93]
def d9:SC:=sQ [o 66 (.bin .lss (.t 65) (.t 64))] (.seq (.cond (.t 66) (.skip) (.exit 4)) (.seq (.blk 5 (.seq (sQ [oF 67 0 4,oF 68 0 67,oL 69 68,oN 70 69,oK 71 0] (.blk 6 (.loop dZ))) gT)) gt))
def gM:SC:=sQ [o 94 (.load true 2 (.t 4)),oz (.store 2 (.t 2) (.t 94)),oK 3 0] (.ret)
def gS:SC:=sQ [o 8 (.mv (.k (.int .u64 0)))] (.seq (.skip) (.seq (sQ [oF 61 0 4,oF 62 0 61,oL 63 62,oN 64 63,oK 65 0] (.blk 4 (.loop d9))) gM))
def cQ:SC:=.seq (sQ [oM 11 0,oN 12 11,o 13 (.bin .lss (.t 12) (qI 1)),oM 14 13,og 15 14 false (.mv (.t 0)),og 16 14 false (.len .slice (.t 15)),og 17 14 false (.bin .gtr (.t 16) (qI 8)),o 18 (.pick (.t 14) (.k (.bool true)) (.t 17))] (.cond (.t 18) (sQ [o 19 (.build [.nils,.nils] [] []),oz (.store 2 (.t 2) (.t 19)),oK 3 70] (.ret)) (.skip))) (sQ [oM 20 0,o 21 (.build [.nils] [(0,1)] [.t 20]),oM 22 0,oN 23 22,o 24 (.mks 1 8 [.int .u64 0] (.t 23) (.t 23)),o 25 (.build [.nils,.nils] [(0,1),(1,1)] [.t 21,.t 24]),o 4 (.alloc [.nils,.nils]),oz (.store 2 (.t 4) (.t 25))] (.seq (sQ [oF 26 0 4,oF 27 0 26,oL 28 27,oN 29 28,oK 30 0] (.blk 0 (.loop d_))) gS))
def cE:SF:=⟨95,[.cell true 2 2,.tm 3],sQ [o 2 (.alloc [.nils,.nils]),oK 3 0] cQ⟩
def cI:SC:=sQ [o 11 (.bin .lss (.t 10) (.t 9))] (.seq (.cond (.t 11) (.skip) (.exit 0)) (.seq (.blk 1 (sQ [oX 12 8 10,oL 13 12,oM 7 13] (.seq (sQ [oM 14 7,oF 15 0 2,oF 16 0 15,oL 17 16,oN 18 17,o 19 (.bin .shr (.t 14) (.t 18)),o 20 (.bin .neq (.t 19) (.k (.int .u64 0))),oM 21 20,og 22 21 false (.mv (.t 7)),og 23 21 false (.mv (.t 5)),og 24 21 false (.bin .and (.t 22) (.t 23)),og 25 21 false (.bin .neq (.t 24) (.k (.int .u64 0))),o 26 (.pick (.t 21) (.k (.bool true)) (.t 25))] (.cond (.t 26) (sQ [o 4 (.mv (.k (.bool false)))] (.ret)) (.skip))) (.ops [oM 27 5,oM 28 7,o 29 (.bin .or (.t 27) (.t 28)),oM 5 29])))) (.ops [oA 30 10,oM 10 30])))
def cJ:SC:=sQ [o 4 (.mv (.k (.bool true)))] (.ret)
def cT:SC:=sQ [o 5 (.mv (.k (.int .u64 0)))] (.seq (sQ [oM 8 1,oN 9 8,oK 10 0] (.blk 0 (.loop cI))) cJ)
def bO:SF:=⟨31,[.tm 4],sQ [o 2 (.box (.t 0)),o 4 (.mv (.k (.bool false)))] cT⟩
def dA:SC:=.ops [oA 38 25,oM 25 38]
def dB:SC:=sQ [o 26 (.bin .lss (.t 25) (.t 24))] (.seq (.cond (.t 26) (.skip) (.exit 2)) (.seq (.blk 3 (sQ [oM 27 25,oX 28 23 25,oL 29 28,oM 8 27,oM 9 29] (sQ [oL 30 7,oM 31 8,o 32 (.bin .shr (.t 30) (.t 31)),o 33 (.bin .and (.t 32) (.k (.int .u64 1))),o 34 (.bin .eql (.t 33) (.k (.int .u64 1)))] (.cond (.t 34) (.ops [oL 35 7,oM 36 9,o 37 (.bin .or (.t 35) (.t 36)),oz (.store 1 (.t 7) (.t 37))]) (.skip))))) dA))
def g6:SC:=.ops [oA 39 19,oM 19 39]
def gZ:SC:=sQ [o 20 (.bin .lss (.t 19) (.t 18))] (.seq (.cond (.t 20) (.skip) (.exit 0)) (.seq (.blk 1 (sQ [oF 21 0 3,oF 22 0 21,oL 23 22,oN 24 23,oK 25 0] (.blk 2 (.loop dB)))) g6))
def dz:SC:=.ops [oM 13 44]
def dx:SC:=.blk 5 (.ops [oL 45 12,oM 46 13,o 47 (.build [.int .i64 0,.bool false] [(0,1),(1,1)] [.t 46,.k (.bool false)]),o 48 (.dyn (.t 45) [.t 47])])
def dy:SC:=sQ [oL 49 10,oM 6 49] (.ret)
def bh:SC:=sQ [o 40 (.raw (.makeMap 192 none)),o 10 (.alloc [.int .u64 0]),o 11 (.alloc [.nilm]),oz (.store 1 (.t 10) (.k (.int .u64 0))),oz (.store 1 (.t 11) (.t 40))] (sQ [o 12 (.alloc [.nilf])] (sQ [o 41 (.mkf N.aM [] [.t 11,.t 5,.t 10,.t 3,.t 12,.t 7]),oz (.store 1 (.t 12) (.t 41))] (.seq (sQ [oM 42 1,o 43 (.call N.ae [.t 42])] (.blk 4 (.rng 50 (.t 43) [44] dz dx))) dy)))
def dH:SC:=sQ [oL 14 5,o 7 (.alloc [.int .u64 0]),oz (.store 1 (.t 7) (.t 14))] (.seq (sQ [oF 15 0 3,oF 16 0 15,oL 17 16,oN 18 17,oK 19 0] (.blk 0 (.loop gZ))) bh)
def cC:SF:=⟨50,[.tm 6],sQ [o 3 (.box (.t 0)),o 5 (.box (.t 2)),o 6 (.mv (.k (.int .u64 0)))] dH⟩
def iB:SC:=.ops [oM 13 8,oA 14 13,oM 8 14]
def iW:SC:=.seq (sQ [oM 9 8,oM 10 0,oN 11 10,o 12 (.bin .lss (.t 9) (.t 11))] (.cond (.t 12) (.skip) (.exit 0))) (.seq (.blk 1 (sQ [oM 15 1,oM 16 8,o 17 (.call N.aa [.t 15,.t 16])] (.cond (.t 17) (.ops [oM 18 7,oM 19 0,oM 20 8,o 21 (.bsl 1 1 [.int .i64 0] [0] [.t 20]),oM 22 2,o 23 (.call N.aC [.t 19,.t 21,.t 22]),o 24 (.bin .or (.t 18) (.t 23)),oM 7 24]) (.skip)))) iB)
def iF:SC:=sQ [oM 25 7,oM 6 25] (.ret)
def iz:SF:=⟨26,[.tm 6],sQ [o 6 (.mv (.k (.int .u64 0)))] (sQ [o 7 (.mv (.k (.int .u64 0)))] (.seq (sQ [oK 8 0] (.blk 0 (.loop iW))) iF))⟩
def qs:SC:=.ops [oM 17 6,oA 18 17,oM 6 18]
def qq:SC:=.seq (sQ [oM 13 6,oM 14 0,oN 15 14,o 16 (.bin .lss (.t 13) (.t 15))] (.cond (.t 16) (.skip) (.exit 2))) (.seq (.blk 3 (sQ [oM 19 1,oM 20 6,o 21 (.call N.aa [.t 19,.t 20])] (.cond (.t 21) (.ops [oM 22 1,oM 23 0,oM 24 6,oX 25 23 24,oL 26 25,o 27 (.bin .or (.t 22) (.t 26)),oM 1 27]) (.skip)))) qs)
def qu:SC:=.ops [oM 11 5,oA 12 11,oM 5 12]
def qz:SC:=.seq (sQ [oM 7 5,oM 8 0,oN 9 8,o 10 (.bin .lss (.t 7) (.t 9))] (.cond (.t 10) (.skip) (.exit 0))) (.seq (.blk 1 (sQ [oK 6 0] (.blk 2 (.loop qq)))) qu)
def lG:SC:=sQ [oM 28 1,oM 4 28] (.ret)
def l4:SF:=⟨29,[.tm 4],sQ [o 4 (.mv (.k (.int .u64 0)))] (.seq (sQ [oK 5 0] (.blk 0 (.loop qz))) lG)⟩
def a_:SC:=.ops [oM 8 33]
def ba:SC:=.blk 1 (.ops [oL 34 5,oM 35 8,o 36 (.build [.int .i64 0,.bool false] [(0,1),(1,1)] [.t 35,.k (.bool true)]),o 37 (.dyn (.t 34) [.t 36])])
def a9:SC:=.ops [oM 9 69]
def bb:SC:=.blk 3 (.ops [oL 70 5,oM 71 9,o 72 (.build [.int .i64 0,.bool false] [(0,1),(1,1)] [.t 71,.k (.bool false)]),o 73 (.dyn (.t 70) [.t 72])])
def a8:SC:=.seq (sQ [oF 38 1 7,oL 39 38,oM 40 39,og 41 40 true (.load false 1 (.t 6)),og 42 40 true (.fad 0 (.t 7)),og 43 40 true (.load false 1 (.t 42)),og 44 40 true (.bin .shr (.t 41) (.t 43)),og 45 40 true (.bin .and (.t 44) (.k (.int .u64 1))),og 46 40 true (.bin .eql (.t 45) (.k (.int .u64 0))),o 47 (.pick (.t 40) (.t 46) (.k (.bool false))),oM 48 47,og 49 48 false (.fad 1 (.t 7)),og 50 48 false (.load false 1 (.t 49)),og 51 48 false (.not (.t 50)),og 52 48 false (.mv (.t 51)),og 53 52 true (.load false 1 (.t 2)),og 54 52 true (.fad 0 (.t 7)),og 55 52 true (.load false 1 (.t 54)),og 56 52 true (.bin .shr (.t 53) (.t 55)),og 57 52 true (.bin .and (.t 56) (.k (.int .u64 1))),og 58 52 true (.bin .eql (.t 57) (.k (.int .u64 1))),og 59 48 false (.pick (.t 52) (.t 58) (.k (.bool false))),o 60 (.pick (.t 48) (.k (.bool true)) (.t 59))] (.cond (.t 60) (.ret) (.skip))) (sQ [oF 61 0 4,oF 62 0 61,oL 63 62,oF 64 0 7,oL 65 64,oX 66 63 65,oL 67 66,o 68 (.call N.ae [.t 67])] (.blk 2 (.rng 74 (.t 68) [69] a9 bb)))
def dh:SC:=.seq (sQ [oL 10 1,o 11 (.load true 2 (.t 7)),o 12 (.raw (.lookup 192 (.tmp 10) (.tmp 11) false))] (.cond (.t 12) (.ret) (.skip))) (sQ [oL 13 1,o 14 (.load true 2 (.t 7)),oz (.raw (.mapUpdate 192 (.tmp 13) (.tmp 14) (.const (.bool true))))] (.seq (sQ [oL 15 2,oF 16 0 7,oL 17 16,o 18 (.bin .shr (.t 15) (.t 17)),o 19 (.bin .and (.t 18) (.k (.int .u64 1))),o 20 (.bin .eql (.t 19) (.k (.int .u64 0)))] (.cond (.t 20) (.seq (.feet [0,0,2,6,15,31] [oL 21 3,oF 22 0 7,oL 23 22,o 24 (.bin .shl (.k (.int .u64 1)) (.t 23)),o 25 (.bin .or (.t 21) (.t 24)),oz (.store 1 (.t 3) (.t 25))]) (sQ [oF 26 1 4,oL 27 26,oF 28 0 7,oL 29 28,oX 30 27 29,oL 31 30,o 32 (.call N.ae [.t 31])] (.blk 0 (.rng 74 (.t 32) [33] a_ ba)))) (.skip))) a8))
def bZ:SF:=⟨74,[],sQ [o 7 (.box (.t 0))] dh⟩
def fF:SC:=sQ [o 3 (.mkf N.ak [] [.t 1]),oM 2 3] (.ret)
def dW:SF:=⟨4,[.tm 2],sQ [o 1 (.box (.t 0)),o 2 (.mv (.k (.nilf)))] fF⟩
def fP:SC:=.seq (sQ [oM 51 11,oM 52 1,oN 53 52,o 54 (.bin .lss (.t 51) (.t 53))] (.cond (.t 54) (.skip) (.exit 2))) (.seq (.blk 3 (.ops [oM 57 10,oM 58 57,og 59 58 true (.mv (.t 1)),og 60 58 true (.mv (.t 11)),og 61 58 true (.ixs 1 (.t 59) (.t 60)),og 62 58 true (.load false 1 (.t 61)),og 63 58 true (.mv (.t 9)),og 64 58 true (.bin .neq (.t 62) (.t 63)),o 65 (.pick (.t 58) (.t 64) (.k (.bool false))),oM 10 65])) (.ops [oM 55 11,oA 56 55,oM 11 56]))
def fT:SC:=sQ [oM 66 10] (.cond (.t 66) (sQ [o 12 (.mv (.k (.nils)))] (.ops [oM 67 7,oM 68 0,oM 69 12,oM 70 1,o 71 (.app 1 8 (.t 69) (.t 70)),oM 72 9,o 73 (.bsl 1 1 [.int .i64 0] [0] [.t 72]),o 74 (.app 1 8 (.t 71) (.t 73)),oM 75 2,o 76 (.call N.aC [.t 68,.t 74,.t 75]),o 77 (.bin .or (.t 67) (.t 76)),oM 7 77])) (.skip))
def jp:SC:=.ops [oM 35 9,oA 36 35,oM 9 36]
def jt:SC:=.seq (sQ [oM 31 9,oM 32 0,oN 33 32,o 34 (.bin .lss (.t 31) (.t 33))] (.cond (.t 34) (.skip) (.exit 0))) (.seq (.blk 1 (sQ [oM 37 0,oM 38 9,oX 39 37 38,oL 40 39,oM 41 8,o 42 (.call N.aa [.t 40,.t 41]),oM 43 42,og 44 43 false (.mv (.t 0)),og 45 43 false (.mv (.t 8)),og 46 43 false (.ixs 1 (.t 44) (.t 45)),og 47 43 false (.load false 1 (.t 46)),og 48 43 false (.mv (.t 9)),og 49 43 false (.call N.aa [.t 47,.t 48]),o 50 (.pick (.t 43) (.k (.bool true)) (.t 49)),oM 10 50] (.seq (sQ [oK 11 0] (.blk 2 (.loop fP))) fT))) jp)
def jx:SC:=sQ [oM 78 7,oM 6 78] (.ret)
def fO:SC:=.seq (sQ [oK 9 0] (.blk 0 (.loop jt))) jx
def eL:SF:=⟨79,[.tm 6],sQ [o 6 (.mv (.k (.int .u64 0)))] (.seq (sQ [oM 13 0,oM 14 1,oM 15 2,o 16 (.call N.aO [.t 13,.t 14,.t 15]),o 17 (.not (.t 16))] (.cond (.t 17) (sQ [o 6 (.mv (.k (.int .u64 0)))] (.ret)) (.skip))) (sQ [o 7 (.mv (.k (.int .u64 0)))] (sQ [oM 18 1,oM 19 1,oN 20 19,o 21 (.bin .sub (.t 20) (qI 1)),oX 22 18 21,oL 23 22,oM 8 23] (.seq (sQ [oM 24 2,oM 25 8,o 26 (.call N.aa [.t 24,.t 25]),o 27 (.not (.t 26))] (.cond (.t 27) (.ops [oM 28 8,o 29 (.conv .u64 (.t 28)),o 30 (.bin .shl (.k (.int .u64 1)) (.t 29)),oM 7 30]) (.skip))) fO))))⟩
def ef:SC:=.seq (sQ [oM 5 3,o 6 (.bin .neq (.t 5) (.k (.int .u64 0)))] (.cond (.t 6) (.skip) (.exit 0))) (.seq (.blk 1 (sQ [oM 11 0,oM 12 3,o 13 (.call N.aT [.t 12]),o 14 (.dyn (.t 11) [.t 13]),o 15 (.not (.t 14))] (.cond (.t 15) (.ret) (.skip)))) (.ops [oM 7 3,oM 8 3,o 9 (.bin .sub (.t 8) (.k (.int .u64 1))),o 10 (.bin .and (.t 7) (.t 9)),oM 3 10]))
def a7:SF:=⟨16,[],sQ [oL 4 1,oM 3 4] (.blk 0 (.loop ef))⟩
def b_:SF:=⟨8,[.tm 2],sQ [oK 2 0] (.seq (.cond (.k (.bool false)) (sQ [oM 3 0,o 4 (.conv .u32 (.t 3)),o 5 (.call N.aX [.t 4]),oM 2 5] (.ret)) (.skip)) (sQ [oM 6 0,o 7 (.call N.aN [.t 6]),oM 2 7] (.ret)))⟩
def jv:SC:=.ops [oM 14 7,oA 15 14,oM 7 15]
def jr:SC:=.seq (sQ [oM 9 7,oA 10 9,oM 11 1,oN 12 11,o 13 (.bin .lss (.t 10) (.t 12))] (.cond (.t 13) (.skip) (.exit 0))) (.seq (.blk 1 (sQ [oM 16 1,oM 17 7,oX 18 16 17,oL 19 18,oM 8 19] (sQ [oM 20 0,oM 21 1,oM 22 7,o 23 (.call N.aI [.t 20,.t 21,.t 22])] (.cond (.t 23) (sQ [oM 24 0,oM 25 8,o 26 (.conv .u64 (.t 25)),o 27 (.bin .shl (.k (.int .u64 1)) (.t 26)),o 28 (.call N.aA [.t 24,.t 27]),oM 29 2,o 30 (.bin .and (.t 28) (.t 29)),o 31 (.bin .eql (.t 30) (.k (.int .u64 0)))] (.cond (.t 31) (sQ [o 6 (.mv (.k (.bool false)))] (.ret)) (.skip))) (sQ [oM 32 2,oM 33 8,o 34 (.call N.aa [.t 32,.t 33])] (.cond (.t 34) (sQ [o 6 (.mv (.k (.bool false)))] (.ret)) (.skip))))))) jv)
def js:SC:=sQ [o 6 (.mv (.k (.bool true)))] (.ret)
def jc:SF:=⟨35,[.tm 6],sQ [o 6 (.mv (.k (.bool false)))] (.seq (sQ [oK 7 1] (.blk 0 (.loop jr))) js)⟩
def bG:SF:=⟨14,[.tm 2],sQ [oK 2 0] (.seq (sQ [oM 3 0,o 4 (.bin .eql (.t 3) (.k (.int .u64 0)))] (.cond (.t 4) (sQ [oK 2 64] (.ret)) (.skip))) (sQ [oM 5 0,oM 6 0,o 7 (.un .neg (.t 6)),o 8 (.bin .and (.t 5) (.t 7)),o 9 (.bin .mul (.t 8) (.k (.int .u64 285870213051353865))),o 10 (.bin .shr (.t 9) (.k (.int .u64 58))),o 11 (.ixa 64 1 (.k (.tptr 0 64 [[.int .u8 0,.int .u8 1,.int .u8 56,.int .u8 2,.int .u8 57,.int .u8 49,.int .u8 28,.int .u8 3,.int .u8 61,.int .u8 58,.int .u8 42,.int .u8 50,.int .u8 38,.int .u8 29,.int .u8 17,.int .u8 4,.int .u8 62,.int .u8 47,.int .u8 59,.int .u8 36,.int .u8 45,.int .u8 43,.int .u8 51,.int .u8 22,.int .u8 53,.int .u8 39,.int .u8 33,.int .u8 30,.int .u8 24,.int .u8 18,.int .u8 12,.int .u8 5,.int .u8 63,.int .u8 55,.int .u8 48,.int .u8 27,.int .u8 60,.int .u8 41,.int .u8 37,.int .u8 16,.int .u8 46,.int .u8 35,.int .u8 44,.int .u8 21,.int .u8 52,.int .u8 32,.int .u8 23,.int .u8 11,.int .u8 54,.int .u8 26,.int .u8 40,.int .u8 15,.int .u8 34,.int .u8 20,.int .u8 31,.int .u8 10,.int .u8 25,.int .u8 14,.int .u8 19,.int .u8 9,.int .u8 13,.int .u8 8,.int .u8 7,.int .u8 6]] 0 0)) (.t 10)),oL 12 11,o 13 (.conv .i64 (.t 12)),oM 2 13] (.ret)))⟩
def fh:SF:=⟨35,[.tm 6],sQ [o 6 (.mv (.k (.bool false)))] (.seq (.quiet [oM 7 0,oM 8 1,oM 9 2,oX 10 8 9,oL 11 10,oX 12 7 11,oL 13 12,oM 14 1,oM 15 2,o 16 (.bin .sub (.t 15) (qI 1)),oX 17 14 16,oL 18 17,o 19 (.call N.aa [.t 13,.t 18]),oM 20 19,og 21 20 true (.mv (.t 0)),og 22 20 true (.mv (.t 1)),og 23 20 true (.mv (.t 2)),og 24 20 true (.ixs 1 (.t 22) (.t 23)),og 25 20 true (.load false 1 (.t 24)),og 26 20 true (.ixs 1 (.t 21) (.t 25)),og 27 20 true (.load false 1 (.t 26)),og 28 20 true (.mv (.t 1)),og 29 20 true (.mv (.t 2)),og 30 20 true (.bin .add (.t 29) (qI 1)),og 31 20 true (.ixs 1 (.t 28) (.t 30)),og 32 20 true (.load false 1 (.t 31)),og 33 20 true (.call N.aa [.t 27,.t 32]),o 34 (.pick (.t 20) (.t 33) (.k (.bool false))),oM 6 34]) (.ret))⟩
theorem iH:nFn C0 N.aV=some cx:=by kernel_rfl
theorem oo:nFn C0 N.aG=some gN:=by kernel_rfl
theorem mz (d:Nat)(xs:List AV)(g:G):ap C0 d N.aG xs g=ak (I C0) d g N.aG xs:=by kernel_rfl
theorem nf:nFn C0 N.ay=some cF:=by kernel_rfl
theorem ma (d:Nat)(xs:List AV)(g:G):ap C0 d N.ay xs g=ak (I C0) d g N.ay xs:=by kernel_rfl
theorem lL:nFn C0 N.aB=some cW:=by kernel_rfl
theorem jT (d:Nat)(xs:List AV)(g:G):ap C0 d N.aB xs g=ak (I C0) d g N.aB xs:=by kernel_rfl
theorem lj:nFn C0 N.aD=some bk:=by kernel_rfl
theorem jC (d:Nat)(xs:List AV)(g:G):ap C0 d N.aD xs g=ak (I C0) d g N.aD xs:=by kernel_rfl
theorem mT:nFn C0 N.aK=some dl:=by kernel_rfl
theorem kY (d:Nat)(xs:List AV)(g:G):ap C0 d N.aK xs g=ak (I C0) d g N.aK xs:=by kernel_rfl
theorem mh:nFn C0 N.aF=some cS:=by kernel_rfl
theorem kn (d:Nat)(xs:List AV)(g:G):ap C0 d N.aF xs g=ak (I C0) d g N.aF xs:=by kernel_rfl
theorem pM:nFn C0 N.aR=some bc:=by kernel_rfl
theorem nF (d:Nat)(xs:List AV)(g:G):ap C0 d N.aR xs g=ak (I C0) d g N.aR xs:=by kernel_rfl
theorem pT:nFn C0 N.aE=some dN:=by kernel_rfl
theorem nm (d:Nat)(xs:List AV)(g:G):ap C0 d N.aE xs g=ak (I C0) d g N.aE xs:=by kernel_rfl
theorem ks:nFn C0 N.aH=some dF:=by kernel_rfl
theorem i7 (d:Nat)(xs:List AV)(g:G):ap C0 d N.aH xs g=ak (I C0) d g N.aH xs:=by kernel_rfl
theorem ox:nFn C0 N.az=some bH:=by kernel_rfl
theorem mm (d:Nat)(xs:List AV)(g:G):ap C0 d N.az xs g=ak (I C0) d g N.az xs:=by kernel_rfl
theorem lO:nFn C0 N.ax=some cR:=by kernel_rfl
theorem jO (d:Nat)(xs:List AV)(g:G):ap C0 d N.ax xs g=ak (I C0) d g N.ax xs:=by kernel_rfl
theorem oH:nFn C0 N.aq=some gR:=by kernel_rfl
theorem mY (d:Nat)(xs:List AV)(g:G):ap C0 d N.aq xs g=ak (I C0) d g N.aq xs:=by kernel_rfl
theorem mB:nFn C0 N.af=some fj:=by kernel_rfl
theorem ll (d:Nat)(xs:List AV)(g:G):ap C0 d N.af xs g=ak (I C0) d g N.af xs:=by kernel_rfl
theorem mD:nFn C0 N.ap=some e_:=by kernel_rfl
theorem kX (d:Nat)(xs:List AV)(g:G):ap C0 d N.ap xs g=ak (I C0) d g N.ap xs:=by kernel_rfl
theorem qD:nFn C0 N.aA=some jg:=by kernel_rfl
theorem oD (d:Nat)(xs:List AV)(g:G):ap C0 d N.aA xs g=ak (I C0) d g N.aA xs:=by kernel_rfl
theorem pI:nFn C0 N.ah=some ij:=by kernel_rfl
theorem nQ (d:Nat)(xs:List AV)(g:G):ap C0 d N.ah xs g=ak (I C0) d g N.ah xs:=by kernel_rfl
theorem nb:nFn C0 N.an=some fN:=by kernel_rfl
theorem lW (d:Nat)(xs:List AV)(g:G):ap C0 d N.an xs g=ak (I C0) d g N.an xs:=by kernel_rfl
theorem oP:nFn C0 N.am=some gF:=by kernel_rfl
theorem mC (d:Nat)(xs:List AV)(g:G):ap C0 d N.am xs g=ak (I C0) d g N.am xs:=by kernel_rfl
theorem m7:nFn C0 N.aU=some fd:=by kernel_rfl
theorem k_ (d:Nat)(xs:List AV)(g:G):ap C0 d N.aU xs g=ak (I C0) d g N.aU xs:=by kernel_rfl
theorem lJ:nFn C0 N.aP=some aV:=by kernel_rfl
theorem kh (d:Nat)(xs:List AV)(g:G):ap C0 d N.aP xs g=ak (I C0) d g N.aP xs:=by kernel_rfl
theorem nH:nFn C0 N.aS=some fS:=by kernel_rfl
theorem lX (d:Nat)(xs:List AV)(g:G):ap C0 d N.aS xs g=ak (I C0) d g N.aS xs:=by kernel_rfl
theorem tT:nFn C0 N.aa=some lK:=by kernel_rfl
theorem qx (d:Nat)(xs:List AV)(g:G):ap C0 d N.aa xs g=ak (I C0) d g N.aa xs:=by kernel_rfl
theorem nq:nFn C0 N.au=some cE:=by kernel_rfl
theorem lZ (d:Nat)(xs:List AV)(g:G):ap C0 d N.au xs g=ak (I C0) d g N.au xs:=by kernel_rfl
theorem gU:nFn C0 N.aw=some bO:=by kernel_rfl
theorem fR (d:Nat)(xs:List AV)(g:G):ap C0 d N.aw xs g=ak (I C0) d g N.aw xs:=by kernel_rfl
theorem iM:nFn C0 N.aJ=some cC:=by kernel_rfl
theorem g_ (d:Nat)(xs:List AV)(g:G):ap C0 d N.aJ xs g=ak (I C0) d g N.aJ xs:=by kernel_rfl
theorem pG:nFn C0 N.aQ=some iz:=by kernel_rfl
theorem nI (d:Nat)(xs:List AV)(g:G):ap C0 d N.aQ xs g=ak (I C0) d g N.aQ xs:=by kernel_rfl
theorem uE:nFn C0 N.aL=some l4:=by kernel_rfl
theorem qp (d:Nat)(xs:List AV)(g:G):ap C0 d N.aL xs g=ak (I C0) d g N.aL xs:=by kernel_rfl
theorem g9:nFn C0 N.aM=some bZ:=by kernel_rfl
theorem kZ:nFn C0 N.ae=some dW:=by kernel_rfl
theorem jD (d:Nat)(xs:List AV)(g:G):ap C0 d N.ae xs g=ak (I C0) d g N.ae xs:=by kernel_rfl
theorem qE:nFn C0 N.aC=some eL:=by kernel_rfl
theorem oJ (d:Nat)(xs:List AV)(g:G):ap C0 d N.aC xs g=ak (I C0) d g N.aC xs:=by kernel_rfl
theorem jB:nFn C0 N.ak=some a7:=by kernel_rfl
theorem hK:nFn C0 N.aT=some b_:=by kernel_rfl
theorem f9 (d:Nat)(xs:List AV)(g:G):ap C0 d N.aT xs g=ak (I C0) d g N.aT xs:=by kernel_rfl
theorem qG:nFn C0 N.aO=some jc:=by kernel_rfl
theorem oy (d:Nat)(xs:List AV)(g:G):ap C0 d N.aO xs g=ak (I C0) d g N.aO xs:=by kernel_rfl
theorem f8:nFn C0 N.aN=some bG:=by kernel_rfl
theorem fL (d:Nat)(xs:List AV)(g:G):ap C0 d N.aN xs g=ak (I C0) d g N.aN xs:=by kernel_rfl
theorem mU:nFn C0 N.aI=some fh:=by kernel_rfl
theorem lf (d:Nat)(xs:List AV)(g:G):ap C0 d N.aI xs g=ak (I C0) d g N.aI xs:=by kernel_rfl
theorem jy {α:Type}{f:Nat->α->Nat->α->Bool}{i:Nat}{x:α}:∀{l:List α} {j:Nat},(∀b y,l[b]?=some y->f i x (j+b) y=true)->dv f i x j l=true
 | [],_,_=>rfl
 | y::r,j,h=>by
  simp only[dv,Bool.and_eq_true]
  refine ⟨by simpa using h 0 y rfl,jy fun b z hb=>?_⟩
  have:=h (b+1) z (by simpa using hb)
  rwa [show j+(b+1)=j+1+b by omega] at this
theorem nT {α:Type}{f:Nat->α->Nat->α->Bool}:∀{l:List α} {i:Nat},(∀a b x y,a<b->l[a]?=some x->l[b]?=some y->f (i+a) x (i+b) y=true)->fD f i l=true
 | [],_,_=>rfl
 | x::r,i,h=>by
  simp only[fD,Bool.and_eq_true]
  refine ⟨jy fun b y hb=>?_,nT fun a b x' y hab ha hb=>?_⟩
  ·have:=h 0 (b+1) x y (by omega) rfl (by simpa using hb)
   rwa [Nat.add_zero,show i+(b+1)=i+1+b by omega] at this
  ·have:=h (a+1) (b+1) x' y (by omega) (by simpa using ha) (by simpa using hb)
   rwa [show i+(a+1)=i+1+a by omega,show i+(b+1)=i+1+b by omega] at this
theorem nW {pm:List Nat}:∀{l:List Foot} {i:Nat},(∀f∈l,f.lk.sr=[])->ko pm i l=true
 | [],_,_=>rfl
 | x::r,i,h=>by
  simp only[ko,h x (by simp)]
  exact nW fun f hf=>h f (by simp[hf])
def Ak (pm:List Nat)(ws:List Bool)(L:List (Nat×Nat))(i j:Nat):Bool:=(pm.getD j 0).testBit i || (!(ws.getD i false)&&!(ws.getD j false)) || L.contains (i,j)
def Bu (pm:List Nat)(ws:List Bool)(L:List (Nat×Nat)):Bool:=(List.range ws.length).all fun j=>(List.range j).all fun i=>Ak pm ws L i j
theorem md {pm:List Nat}{fs:List Foot}(ws:List Bool)(L:List (Nat×Nat))(hw:All2 (fun (f:Foot) (w:Bool)=>f.lk.sr=[]/\(w=false->f.wr=[])) fs ws)(hd:Bu pm ws L=true)
  (hL:∀p∈L,∀x y,fs[p.1]?=some x->fs[p.2]?=some y->dc x y=true):i8 pm fs=true:=by
 unfold i8
 rw[aa,if_pos]
 ·exact nW fun f hf=>by
   obtain ⟨i,hi,rfl⟩:=List.mem_iff_getElem.1 hf
   obtain ⟨w,-,h⟩:=hw.get (List.getElem?_eq_getElem hi)
   exact h.1
 ·refine nT fun a b x y hab ha hb=>?_
  simp only[Nat.zero_add]
  obtain ⟨wa,hwa,ka⟩:=hw.get ha
  obtain ⟨wb,hwb,kb⟩:=hw.get hb
  have hbl:=(List.getElem?_eq_some_iff.1 hwb).1
  have:=List.all_eq_true.1 (List.all_eq_true.1 hd b (List.mem_range.2 hbl)) a (List.mem_range.2 hab)
  simp only[Ak,Bool.or_eq_true] at this
  rcases this with (h | h) | h
  ·rw[h,Bool.true_or]
  ·simp only[List.getD_eq_getElem?_getD,hwa,hwb,Option.getD_some,Bool.and_eq_true,Bool.not_eq_true'] at h
   have ex:=ka.2 h.1
   have ey:=kb.2 h.2
   simp only[dc,iG,gi,ex,ey,Bool.and_self,Bool.or_true]
  ·rw[hL (a,b) (List.contains_iff_mem.1 h) x y ha hb,Bool.or_true]
structure Mech where
 card:Int
 frm:List Int
 noise:List Int
 out:List Int
structure Causal where
 grain:Int
 roots:List (List Int)
 nodes:List Mech
structure Node where
 card:Int
 parents:List Int
 rows:List (List Int)
structure Net where
 grain:Int
 nodes:List Node
structure Factor where
 vars:List Int
 cards:List Int
 w:List Int
instance : Rp Mech:=Rp.via fun m:Mech=>(m.card,m.frm,m.noise,m.out)
instance : Rp Causal:=Rp.via fun m:Causal=>(m.grain,m.roots,m.nodes)
instance : Rp Node:=Rp.via fun m:Node=>(m.card,m.parents,m.rows)
instance : Rp Net:=Rp.via fun m:Net=>(m.grain,m.nodes)
instance : Rp Factor:=Rp.via fun m:Factor=>(m.vars,m.cards,m.w)
section
variable {P:Nat->Prop}{k:Nat}{h:H}{cs:List AV}
end
theorem SlR.len {α:Type} [Rp α]{P:Nat->Prop}{k:Nat}{h:H}{l:List α}{v:AV}(r:SlR P k h l v)(g:G):ej .slice v g=.val (.int .i64 (l.length:Int)):=by
 obtain ⟨rows,h1,h2⟩:=r.rows
 rw[x9 h1,h2.len]
theorem SlR.tree {α:Type} [Rp α]{k k':Nat}{h h':H}{l:List α}{v:AV}(r:SlR NoP k h l v)(hk:k<=k'):SlR NoP k' h' l v:=by
 obtain ⟨w,hw,q⟩:=Rp.tree (P:=NoP) (k':=k') (h':=h') (show Rp.rp NoP k h l [v] from ⟨v,rfl,r⟩) hk
 injection hw with hw;subst hw;exact q
theorem bY {α:Type} [Rp α]{P:Nat->Prop}{k:Nat}{h:H}{l:List α}{v:AV}(r:SlR P k h l v)(d:Nat)(hd:Rp.dp (List α)<=20:=by decide) :
  ∃v',Hx.snap h d az v=some v'/\∀h',SlR NoP (max k d) h' l v':=by
 obtain ⟨v',e,w,hw,q⟩:=Aa (dw l hd) (by decide) d (show One l P k h v from ⟨v,rfl,r⟩)
 injection hw with hw;subst hw
 exact ⟨v',e,fun h'=>q.tree (Nat.le_refl _)⟩
theorem SlR.all {α:Type} [Rp α]{k:Nat}{h:H}{l:List α}{v:AV}(r:SlR NoP k h l v) :
  ∃rows:List (List AV),(∀h',aw h' (Rp.sz α) v=some rows)/\rows.length=l.length/\(∀(i:Nat) (x:α),l[i]?=some x->∃row,rows[i]?=some row/\Rp.rp NoP k .nil x row)/\(0<l.length->pi v=true):=by
 have r0:=(r.tree (h':=.nil) (Nat.le_refl _))
 obtain ⟨rows,h1,h2⟩:=r0.rows
 refine ⟨rows,fun h'=>?_,h2.len.symm,fun i x hi=>h2.get hi,fun hl=>sK h1 (i:=0) (by rw[<-h2.len];exact hl)⟩
 rw[<-h1]
 exact n_ fun id ep off len lim e=>by subst e;exact r.2.1.elim
theorem bf {P:Nat->Prop}{k:Nat}{h:H}{l:List Nat}{v:AV}(r:SlR P k h l v):∀x∈l,x<18446744073709551616:=by
 obtain ⟨rows,h1,h2⟩:=r.rows
 intro x hx
 obtain ⟨i,hi,e⟩:=List.mem_iff_getElem.1 hx
 obtain ⟨row,h3,h4⟩:=h2.get (i:=i) (a:=x) (by rw[List.getElem?_eq_getElem hi,e])
 exact (sM.1 h4).2
theorem p0 (p:Nat->Bool)(j:Nat):(List.range (j+1)).all p=((List.range j).all p&&p j):=by rw[List.range_succ,List.all_append];simp
theorem oE {p:Nat->Bool}{j n:Nat}(h:j<n)(hp:p j=false):(List.range n).all p=false:=by
 rw[List.all_eq_false];exact ⟨j,List.mem_range.2 h,by rw[hp];decide⟩
end
end Hx
end
section
namespace Hx
open Go
noncomputable section
theorem rJ {C:Cfg}{nt d:Nat}{rd:Option Nat}{c:Code}{t:T}{df:List ADf}{g:G}{Q:QT}(h:wp C d rd (dg C nt c) Q t df g):((I C).code nt d rd c t df g).sat Q:=by
 rw[u7];exact C3 _ _ _ _ _ h
end
end Hx
end
