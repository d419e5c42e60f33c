/- A part of the proof: an interpreter over abstract values, shown right against the model, and what the functions of the chapter compute on it. -/
import Derived.Shelf.Lays2
import Derived.Test.YtbejmpmoigmliaaGreatDoorRows
import Derived.Shelf.Spec.SlicesInsertGrow
import Derived.KernelRfl
import Derived.Test.YtbejmpmoigmliaaGreatDoorHx7
set_option linter.unusedVariables false
set_option linter.unusedSimpArgs false
set_option linter.unnecessarySimpa false
section
namespace Go.Proofs
open Go.Shelf
def Tryz.lays21_ren:Go.Shelf.Ren:=⟨fun | 21=>164 | 27=>170 | 28=>171 | 35=>173 | 39=>174 | n=>n,fun | 22=>56 | 3=>3 | 4=>4 | 0=>0 | n=>n,fun | n=>n⟩
theorem Tryz.lays21:Go.Proofs.Lays2.n21 Tryz.prog Tryz.lays21_ren:={
 mixed:=by kernel_rfl
 f21:=Tryz.func164.trans (congrArg some (by kernel_rfl))
 f27:=Tryz.func170.trans (congrArg some (by kernel_rfl))
 f28:=Tryz.func171.trans (congrArg some (by kernel_rfl))
 f35:=Tryz.func173.trans (congrArg some (by kernel_rfl))
 f39:=Tryz.func174.trans (congrArg some (by kernel_rfl))
 t0:=Tryz.underlying0
 a0:=Tryz.isAgg0
 z0:=Tryz.sizeOf0
 v0:=Tryz.zeroValue0
 t3:=Tryz.underlying3
 a3:=Tryz.isAgg3
 z3:=Tryz.sizeOf3
 v3:=Tryz.zeroValue3
 t4:=Tryz.underlying4
 a4:=Tryz.isAgg4
 z4:=Tryz.sizeOf4
 v4:=Tryz.zeroValue4
 t22:=Tryz.underlying56
 a22:=Tryz.isAgg56
 z22:=Tryz.sizeOf56
 v22:=Tryz.zeroValue56
 i3:=by kernel_rfl }
end Go.Proofs
end
section
namespace Hx
open Go Go.Proofs Go.Shelf
theorem fL {w:World}{o:Obj}:(Go.World.alloc w o).heap=w.heap.push o:=rfl
theorem eZ {w:World}:(Go.World.drew w).heap=w.heap:=rfl
theorem eD {b:Nat}{e:TypeId}{f:Nat×Nat}:∀(vs:List Value) (o:Nat) (w:World) (c:Array Value),w.heap[b]?=some (.cells c e f) ->
  Go.World.setCells w b o vs=World.setBlk w b (.cells (aM c o vs) e f):=by
 intro vs
 induction vs with
 | nil =>
  intro o w c h
  have hb:b<w.heap.size:=by
   rcases Nat.lt_or_ge b w.heap.size with hl | hl
   ·exact hl
   ·rw[Array.getElem?_eq_none hl] at h;cases h
  have hx:w.heap[b]=.cells c e f:=by simpa [Array.getElem?_eq_getElem hb] using h
  show w=_
  simp only[World.setBlk,aM]
  have:w.heap.setIfInBounds b (.cells c e f)=w.heap:=by
   apply Array.ext_getElem?
   intro k
   rw[Array.getElem?_setIfInBounds]
   by_cases hk:b=k
   ·subst hk;simp[hb,hx]
   ·rw[if_neg hk]
  rw[this]
 | cons v vs ih =>
  intro o w c h
  have hb:b<w.heap.size:=by
   rcases Nat.lt_or_ge b w.heap.size with hl | hl
   ·exact hl
   ·rw[Array.getElem?_eq_none hl] at h;cases h
  show Go.World.setCells (w.setCell (adr b o) v) b (o+1) vs=_
  rw[qe h,ih (o+1) _ (c.setIfInBounds o v) (by rw[aG];simp[hb]),iQ]
  rfl
section
variable {P:Program}{ρ:Ren}
theorem dP {α:Type}{cs vs:List α}{i n m k:Nat}(hcl:cs.length=n)(hvl:vs.length=m)(hi:i<=n) :
  (cs.take i++(vs++cs.drop i))[k]?=if k<i then cs[k]? else if k<i+m then vs[k - i]? else cs[k - m]?:=by
 have hti:(cs.take i).length=i:=by rw[List.length_take];omega
 by_cases h1:k<i
 ·rw[if_pos h1,List.getElem?_append_left (by omega),List.getElem?_take_of_lt h1]
 ·rw[if_neg h1,List.getElem?_append_right (by omega),hti]
  by_cases h2:k<i+m
  ·rw[if_pos h2,List.getElem?_append_left (by omega)]
  ·rw[if_neg h2,List.getElem?_append_right (by omega),List.getElem?_drop,hvl]
   congr 1;omega
def Ins (P:Program)(f:FuncId)(args:Array Value)(w:World)(b n m:Nat)(rowV:List Value):Prop :=
 ∃b' o' cap' c' e' w',Calls P f args w (fun x y=>x=.returned (.slice (some (adr b' o')) (n+m) cap')/\y=w')/\n+m<=cap'/\cap'<=9223372036854775807 /\
  (w'.os=w.os/\w'.tape=w.tape/\w'.output=w.output/\w.heap.size<=w'.heap.size)/\(b'=b\/(b'=w.heap.size/\w.heap.size<w'.heap.size)) /\
  (∀k,k<w.heap.size->k≠b->w'.heap[k]?=w.heap[k]?)/\w'.heap[b']?=some (.cells c' e' (0,0))/\o'+cap'<=c'.size /\
  ∀k,k<n+m->c'[o'+k]?=rowV[k]?
theorem xe (L:Lays2.n21 P ρ){w:World}{b off n c i vb voff m vc:Nat}{cc cv:Array Value}{e e2:TypeId}{cs vs:List Value}
  (hb:w.heap[b]?=some (.cells cc e (0,0))) (hv:w.heap[vb]?=some (.cells cv e2 (0,0))) (hne:vb≠b) (hin:i<=n) (hm:0<m) (hnc:n<=c)
  (hc63:c<=9223372036854775807) (hbig:(n+m)*8<=140737488355328) (hcc:off+c<=cc.size) (hcv:voff+m<=cv.size) (hn0:0<c)
  (hcl:cs.length=n) (hvl:vs.length=m) (hcs:∀j,j<n->cs[j]?=cc[off+j]?) (hvs:∀j,j<m->vs[j]?=cv[voff+j]?)
  (h1c:∀v∈cs,v.oneCell'=true) (h1v:∀v∈vs,v.oneCell'=true) :
  Ins P (ρ.f 21) #[.slice (some (adr b off)) n c,.int .i64 i,.slice (some (adr vb voff)) m vc] w b n m (cs.take i++(vs++cs.drop i)):=by
 have hbw:b<w.heap.size:=by
  rcases Nat.lt_or_ge b w.heap.size with hl | hl
  ·exact hl
  ·rw[Array.getElem?_eq_none hl] at hb;cases hb
 have hcs':∀j v,cs[j]?=some v->w.cell? (adr b (off+j))=some v:=fun j v hj=>by
  rw[iZ hb,<-hcs j (by rw[<-hcl];exact (List.getElem?_eq_some_iff.1 hj).1)];exact hj
 have hvs':∀j v,vs[j]?=some v->w.cell? (adr vb (voff+j))=some v:=fun j v hj=>by
  rw[iZ hv,<-hvs j (by rw[<-hvl];exact (List.getElem?_eq_some_iff.1 hj).1)];exact hj
 have hsp:∀j,j<c->(w.cell? (adr b (off+j))).isSome=true:=fun j hj=>by
  rw[iZ hb,Array.getElem?_eq_getElem (by omega)];rfl
 have hfz:∀j,w.frozen? (adr b j)=false:=fun j=>by simp[World.frozen?,adr,hb]
 have hfv:∀j,w.frozen? (adr vb j)=false:=fun j=>by simp[World.frozen?,adr,hv]
 have hdl:(cs.drop i).length=n - i:=by rw[List.length_drop,hcl]
 have htl:(cs.take i).length=i:=by rw[List.length_take];omega
 by_cases hroom:n+m<=c
 ·by_cases hlt:i<n
  ·
   have h:=Any2.slices_Insert_int_shift L b off n c i vb voff m vc cs vs w hlt hm hroom hc63 hne hcl hvl hcs' (fun j hj=>hsp j (by omega)) (fun j _=>hfz _) hvs' h1c h1v
    e2 e cv.size cc.size (by simp[World.shape?,hv]) (by simp[World.shape?,hb]) (by omega) (hfv _) (hfv _)
   have hb':w.drew.heap[b]?=some (.cells cc e (0,0)):=hb
   rw[eD (cs.drop i) (off+(i+m)) w.drew cc hb'] at h
   rw[eD vs (off+i) (World.setBlk w.drew b _) _ (by rw[aG,if_pos ⟨rfl,hbw⟩]),iQ] at h
   refine ⟨b,off,c,_,e,_,h,hroom,hc63,⟨rfl,rfl,rfl,by simp[eZ]⟩,.inl rfl,fun k _ hk=>?_,by rw[aG,if_pos ⟨rfl,hbw⟩],by simp[bg];omega,fun k hk=>?_⟩
   ·rw[aG,if_neg (fun h=>hk h.1)];rfl
   ·rw[dP hcl hvl hin,bu _ _ _ _ (by rw[bg];omega),bu _ _ _ _ (by omega),hdl,hvl]
    by_cases h1:k<i
    ·rw[if_neg (by omega),if_neg (by omega),if_pos h1,hcs k (by omega)]
    ·rw[if_neg h1]
     by_cases h2:k<i+m
     ·rw[if_pos (by omega),if_pos h2];congr 1;omega
     ·rw[if_neg (by omega),if_pos (by omega),if_neg h2,List.getElem?_drop];congr 1;omega
  ·
   have hi:i=n:=by omega
   subst hi
   have h:=Any2.slices_Insert_int_end_room L b off i c vb voff m vc vs w hm hroom hc63 hvl (fun j hj=>by rw[Nat.add_assoc];exact hsp _ (by omega)) (fun j _=>hfz _) hvs' h1v
   rw[eD vs (off+i) w cc hb] at h
   refine ⟨b,off,c,_,e,_,h,hroom,hc63,⟨rfl,rfl,rfl,by simp⟩,.inl rfl,fun k _ hk=>?_,by rw[aG,if_pos ⟨rfl,hbw⟩],by simp[bg];omega,fun k hk=>?_⟩
   ·rw[aG,if_neg (fun h=>hk h.1)]
   ·rw[dP hcl hvl hin,bu _ _ _ _ (by omega),hvl]
    by_cases h1:k<i
    ·rw[if_neg (by omega),if_pos h1,hcs k (by omega)]
    ·rw[if_pos (by omega),if_neg h1,if_pos (by omega)];congr 1;omega
 ·have hgc:=grownCap_ge w (n+m) c (ρ.t 3)
  have hgm:grownCap w (n+m) c (ρ.t 3)<=9223372036854775807:=by
   have:=grownCap_le_maxLen w (n+m) c (ρ.t 3) (by unfold maxLen;omega)
   unfold maxLen at this;omega
  by_cases hlt:i<n
  ·
   have h:=Any2.slices_Insert_int_grow L b off n c i vb voff m vc cs vs w hlt hm hnc (by omega) hbig hcl hvl hcs' hvs' h1c h1v
   obtain ⟨G,hG⟩:∃G,G=grownCap w (n+m) c (ρ.t 3):=⟨_,rfl⟩
   rw[<-hG] at h hgc hgm
   obtain ⟨ROW,hROW⟩:∃ROW:Array Value,ROW=(cs.take i).toArray++Builtin.zeroCells (Value.int .i64 0).cells (n+m - i)++Builtin.zeroCells (Value.int .i64 0).cells (G - (n+m)):=⟨_,rfl⟩
   rw[<-hROW] at h
   have hsz:ROW.size=G:=by rw[hROW];simp[Builtin.zeroCells,Value.cells];omega
   have hpre:∀k,k<i->ROW[k]?=cs[k]?:=fun k hk=>by
    rw[hROW,Array.append_assoc,Array.getElem?_append_left (by simp;omega)]
    simp[List.getElem?_take,hk]
   have h0:(w.alloc (.cells ROW (ρ.t 3))).drew.heap[w.heap.size]?=some (.cells ROW (ρ.t 3) (0,0)):=by simp[fL,eZ]
   rw[eD vs i _ ROW h0] at h
   rw[eD (cs.drop i) (i+m) _ (aM ROW i vs) (e:=ρ.t 3) (f:=(0,0)) (by
    show (World.setBlk _ _ _).heap[_]?=_
    rw[aG,if_pos ⟨rfl,by simp[fL,eZ]⟩])] at h
   refine ⟨w.heap.size,0,G,aM (aM ROW i vs) (i+m) (cs.drop i),ρ.t 3,_,h,hgc,hgm,⟨rfl,rfl,rfl,by simp[fL,eZ]⟩,.inr ⟨rfl,by simp[fL,eZ]⟩,fun k hk _=>?_,?_,by simp[bg,hsz],fun k hk=>?_⟩
   ·rw[aG,if_neg (by omega)]
    show (World.setBlk _ _ _).heap[_]?=_
    rw[aG,if_neg (by omega)]
    simp[fL,eZ,Array.getElem?_push,show k≠w.heap.size from by omega]
   ·rw[aG,if_pos ⟨rfl,by simp[fL,eZ]⟩]
   ·rw[dP hcl hvl hin,Nat.zero_add,bu _ _ _ _ (by rw[bg];omega),bu _ _ _ _ (by omega),hdl,hvl]
    by_cases h1:k<i
    ·rw[if_neg (by omega),if_neg (by omega),if_pos h1,hpre k h1]
    ·rw[if_neg h1]
     by_cases h2:k<i+m
     ·rw[if_neg (by omega),if_pos (by omega),if_pos h2]
     ·rw[if_pos (by omega),if_neg h2,List.getElem?_drop];congr 1;omega
  ·have hi:i=n:=by omega
   subst hi
   have h:=Any2.slices_Insert_int_end_grow L (some (adr b off)) i c vb voff m vc cs vs w hm hnc (by omega) hbig hcl hvl (fun h=>by cases h)
    (fun a ha j v hj=>by injection ha with ha;subst ha;rw[dA];exact hcs' j v hj) hvs' h1v
   obtain ⟨G,hG⟩:∃G,G=grownCap w (i+m) c (ρ.t 3):=⟨_,rfl⟩
   rw[<-hG] at h hgc hgm
   refine ⟨w.heap.size,0,G,_,ρ.t 3,_,h,hgc,hgm,⟨rfl,rfl,rfl,by simp[fL,eZ]⟩,.inr ⟨rfl,by simp[fL,eZ]⟩,fun k hk _=>?_,by simp[fL,eZ];rfl,?_,fun k hk=>?_⟩
   ·simp[fL,eZ,Array.getElem?_push,show k≠w.heap.size from by omega]
   ·simp[Builtin.zeroCells,Value.cells];omega
   ·rw[Nat.zero_add,Array.getElem?_append_left (by simp;omega)]
    have:cs.take i++(vs++cs.drop i)=cs++vs:=by rw[<-hcl,List.take_length,List.drop_length,List.append_nil]
    rw[this];simp
theorem wW (L:Lays2.n21 P ρ){w:World}{base:Option Addr}{vb voff m vc:Nat}{vs:List Value}(hm:0<m)(hbig:m*8<=140737488355328)(hvl:vs.length=m)
  (hvs:∀j v,vs[j]?=some v->w.cell? (adr vb (voff+j))=some v) (h1v:∀v∈vs,v.oneCell'=true) :
  ∃cap rest,m<=cap/\cap<=9223372036854775807/\rest.size=cap - m /\
  Calls P (ρ.f 21) #[.slice base 0 0,.int .i64 0,.slice (some (adr vb voff)) m vc] w (fun x y=>x=.returned (.slice (some (adr w.heap.size 0)) m cap)/\y=World.add (World.drewn w) (.cells (vs.toArray++rest) (ρ.t 3) (0,0))):=by
 have hgc:=grownCap_ge w (0+m) 0 (ρ.t 3)
 have hgm:grownCap w (0+m) 0 (ρ.t 3)<=9223372036854775807:=by
  have:=grownCap_le_maxLen w (0+m) 0 (ρ.t 3) (by unfold maxLen;omega)
  unfold maxLen at this;omega
 have h:=Any2.slices_Insert_int_end_grow L base 0 0 vb voff m vc [] vs w hm (Nat.le_refl _) (by omega) (by omega) rfl hvl (fun _=>rfl)
  (fun a ha j v hj=>by simp at hj) hvs h1v
 obtain ⟨G,hG⟩:∃G,G=grownCap w (0+m) 0 (ρ.t 3):=⟨_,rfl⟩
 rw[<-hG] at h hgc hgm
 rw[Nat.zero_add] at h hgc
 exact ⟨G,Builtin.zeroCells (Value.int .i64 0).cells (G - m),hgc,hgm,by simp[Builtin.zeroCells,Value.cells],h⟩
end
noncomputable def oa (i:Nat)(rows:List (List AV))(g:G):OR :=
 af (Nat.beq i 0&&Nat.ble (aQ rows*8) 140737488355328) (.upd (.hsl g.nx 0 0 (aQ rows) none) (g.new (.cells 1 rows 0 true false))) .fail
noncomputable def yS (id2 i:Nat)(s:AV)(vrows:List (List AV))(g:G):OR :=
 match s with
 | .nils=>oa i vrows g
 | .esl=>oa i vrows g
 | .hsl id ep off len none =>
  match g.get id with
  | .cells 1 [] ep' false _=>af ((Nat.beq ep ep'&&Nat.beq off 0)&&Nat.beq len 0) (oa i vrows g) .fail
  | .cells sz rows ep' true false =>
   af (((((((Nat.beq sz 1&&Nat.beq ep ep')&&Nat.beq off 0)&&Nat.beq len (aQ rows))&&fR (Nat.beq id id2))&&Nat.ble i len)&&Nat.ble 1 len)&&Nat.ble ((len+aQ vrows)*8) 140737488355328)
    (.upd (.hsl id (ep+1) 0 (len+aQ vrows) none) (g.put id (.cells 1 (fm i rows++(vrows++eF i rows)) (ep+1) true false))) .fail
  | _=>.fail
 | _=>.fail
noncomputable def iF:Nat->List AV->G->OR:=fun _ xs g =>
 match xs with
 | [s,.int .i64 (.ofNat i),.hsl id2 ep2 off2 len2 _] =>
  match g.get id2 with
  | .cells sz2 vrows ep2' _ _ =>
   af ((((Nat.beq sz2 1&&Nat.beq ep2 ep2')&&Nat.beq off2 0)&&Nat.beq len2 (aQ vrows))&&Nat.ble 1 len2) (yS id2 i s vrows g) .fail
  | _=>.fail
 | _=>.fail
theorem kJ {d:Nat}{xs:List AV}{g:G}(h:iF d xs g≠.fail):∃s i id2 ep2 len2 lim2 vrows lo fz,xs=[s,.int .i64 (Int.ofNat i),.hsl id2 ep2 0 len2 lim2] /\
  g.h.get id2=.cells 1 vrows ep2 lo fz/\len2=vrows.length/\0<vrows.length/\iF d xs g=yS id2 i s vrows g:=by
 unfold iF at h ⊢
 split at h
 ·split at h
  ·rename_i hg
   rw[aa] at h ⊢
   split at h
   ·rename_i hc
    simp only[Bool.and_eq_true,am] at hc
    obtain ⟨⟨⟨⟨c1,c2⟩,c3⟩,c4⟩,c5⟩:=hc
    have c1:=aq c1;have c2:=aq c2;have c3:=aq c3;have c4:=aq c4
    subst c1;subst c2;subst c3;subst c4
    rw[Nat.ble_eq] at c5
    refine ⟨_,_,_,_,_,_,_,_,_,rfl,hg,rfl,c5,?_⟩
    rw[if_pos]
    simp[am];omega
   ·exact absurd rfl h
  ·exact absurd rfl h
 ·exact absurd rfl h
theorem p8 {id2 i:Nat}{s:AV}{vrows:List (List AV)}{g:G}(h:yS id2 i s vrows g≠.fail) :
  ((s=.nils\/s=.esl\/∃id ep fz,s=.hsl id ep 0 0 none/\g.h.get id=.cells 1 [] ep false fz)/\i=0/\vrows.length*8<=140737488355328/\yS id2 i s vrows g=.upd (.hsl g.nx 0 0 vrows.length none) (g.new (.cells 1 vrows 0 true false))) \/
  ∃id ep rows,s=.hsl id ep 0 rows.length none/\g.h.get id=.cells 1 rows ep true false/\id≠id2/\i<=rows.length/\0<rows.length/\(rows.length+vrows.length)*8<=140737488355328 /\
   yS id2 i s vrows g=.upd (.hsl id (ep+1) 0 (rows.length+vrows.length) none) (g.put id (.cells 1 (rows.take i++(vrows++rows.drop i)) (ep+1) true false)):=by
 have hnew:oa i vrows g≠.fail->i=0/\vrows.length*8<=140737488355328/\oa i vrows g=.upd (.hsl g.nx 0 0 vrows.length none) (g.new (.cells 1 vrows 0 true false)):=by
  intro h
  unfold oa at h ⊢
  rw[aa] at h ⊢
  split at h
  ·rename_i hc
   rw[if_pos hc]
   simp only[Bool.and_eq_true,am,Nat.ble_eq] at hc
   exact ⟨aq hc.1,hc.2,by rw[am]⟩
  ·exact absurd rfl h
 unfold yS at h ⊢
 split at h
 ·exact .inl ⟨.inl rfl,hnew h⟩
 ·exact .inl ⟨.inr (.inl rfl),hnew h⟩
 ·rename_i id ep off len
  split at h
  ·rename_i ep' fz hg
   rw[aa] at h
   split at h
   ·rename_i hc
    have hc':=hc
    simp only[Bool.and_eq_true] at hc
    obtain ⟨⟨c1,c2⟩,c3⟩:=hc
    have c1:=aq c1;have c2:=aq c2;have c3:=aq c3
    subst c1;subst c2;subst c3
    have:=hnew h
    refine .inl ⟨.inr (.inr ⟨id,ep,fz,rfl,hg⟩),this.1,this.2.1,?_⟩
    rw[aa,if_pos hc',this.2.2]
   ·exact absurd rfl h
  ·rename_i sz rows ep' hg
   rw[aa] at h
   split at h
   ·rename_i hc
    have hc':=hc
    simp only[Bool.and_eq_true,am] at hc
    obtain ⟨⟨⟨⟨⟨⟨⟨c1,c2⟩,c3⟩,c4⟩,c5⟩,c6⟩,c7⟩,c8⟩:=hc
    have c1:=aq c1;have c2:=aq c2;have c3:=aq c3;have c4:=aq c4
    subst c1;subst c2;subst c3;subst c4
    rw[Nat.ble_eq] at c6 c7 c8
    refine .inr ⟨id,ep,rows,rfl,hg,fun e=>?_,c6,c7,c8,?_⟩
    ·subst e;rw[notb_eq] at c5;simp at c5
    ·rw[aa,if_pos hc']
     simp only[am,aT,aU]
   ·exact absurd rfl h
  ·exact absurd rfl h
 ·exact absurd rfl h
section
variable {C:Cfg}{A:Nat->Nat->Prop}{bd:Nat}{w w':World}{γ γ':Gm}{hg:Nat->AObj}{nx:Nat}{ρ:Ren}
theorem Cs {g:G}{id:Nat}{ob:AObj}(r:Rel C A bd w' γ' (upd hg id ob) nx)(s:Stp w γ w' γ'):Fin C A bd w γ hg nx g w' γ' (upd hg id ob) (g.put id ob) :=
 ⟨r.up (Nat.le_max_left _ _),s,[id],by simp,fun k hk=>by simp at hk;subst hk;simp[G.put_h,H.get_put],fun k hk=>by
  rw[bD];simpa using hk⟩
theorem CW {g:G}{ob:AObj}(r:Rel C A bd w' γ' (upd hg g.nx ob) (Nat.max nx (g.nx+1)))(s:Stp w γ w' γ'):Fin C A bd w γ hg nx g w' γ' (upd hg g.nx ob) (g.new ob) :=
 ⟨r.up (by simp),s,[g.nx],by simp,fun k hk=>by simp at hk;subst hk;simp[G.new_h,H.get_put],fun k hk=>by
  rw[bD];simpa using hk⟩
theorem uR (hr:Rel C A bd w γ hg nx){id ep:Nat}{rows:List (List AV)}{lo fz:Bool}(hid:hg id=.cells 1 rows ep lo fz) :
  ∃(c:Array Value) (e:TypeId) (l:List Value),w.heap[(γ id).blk]?=some (.cells c e (0,0))/\(γ id).base+(rows.length+(γ id).slack)<=c.size/\l.length=rows.length/\(∀j,j<rows.length->l[j]?=c[(γ id).base+j]?) /\
   (∀v∈l,v.oneCell'=true)/\(∀(k:Nat) row,rows[k]?=some row->row.length=1) /\
   ∀(k j:Nat) row x,rows[k]?=some row->row[j]?=some x->j=0/\x.one=true/\∃v,l[k]?=some v/\RV w γ A bd x v:=by
 have hob:=hr.obj id
 rw[hid] at hob
 obtain ⟨k1,k2,k3,k4,k5,k6,c,e,k7,k8,k9,k10⟩:=hob
 have hget:∀j,j<rows.length->((c.toList.drop (γ id).base).take rows.length)[j]?=c[(γ id).base+j]?:=fun j hj=>by
  rw[List.getElem?_take_of_lt hj,List.getElem?_drop];simp
 refine ⟨c,e,(c.toList.drop (γ id).base).take rows.length,k7,by omega,by simp;omega,hget,fun v hv=>?_,k9,fun k j row x h1 h2=>?_⟩
 ·obtain ⟨k,hk⟩:=List.getElem?_of_mem hv
  have hlt:k<rows.length:=by
   have:=(List.getElem?_eq_some_iff.1 hk).1
   simp at this;omega
  rw[hget k hlt] at hk
  have hrow:=List.getElem?_eq_getElem hlt
  have hl1:=k9 k _ hrow
  have hx:rows[k][0]?=some (rows[k][0]'(by omega)):=List.getElem?_eq_getElem _
  obtain ⟨a,v',b1,b2⟩:=k10 k 0 _ _ hrow hx
  rw[show (γ id).base+k*1+0=(γ id).base+k from by omega,hk] at b1
  injection b1 with b1;subst b1
  exact (wZ b2 a).1
 ·have hj:j=0:=by
   have h3:=k9 k _ h1
   have:=(List.getElem?_eq_some_iff.1 h2).1
   omega
  subst hj
  obtain ⟨a,v',b1,b2⟩:=k10 k 0 _ _ h1 h2
  refine ⟨rfl,a,v',?_,b2⟩
  rw[hget k (List.getElem?_eq_some_iff.1 h1).1]
  rw[show (γ id).base+k*1+0=(γ id).base+k from by omega] at b1
  exact b1
theorem mb {P:Program}{f:FuncId}{args:Array Value}{u:Value}(h:Calls P f args w (fun x y=>x=.returned u/\y=w'))(cs:List Frame):Outs P .normal f args cs w u w':=by
 obtain ⟨e,w1,fr,⟨he,hw⟩,hc,hf,hl⟩:=h cs
 subst he;subst hw
 obtain ⟨m,d,k,fn,hfn,hres⟩:=hl
 exact ⟨fr,hc,m,d,k,hf,fn,by rw[<-hf];exact hfn,hres⟩
theorem zS {P : Program} {f : FuncId} {fn : Func} (h : P.funcs[f]? = some fn) (hn : (fn.name == "runtime.NumGoroutine") = false) (hb : fn.body.isSome = true) : Enters P f := by
 intro args w
 unfold callFunc
 have hn : fn.name ≠ "runtime.NumGoroutine" := by simpa using hn
 cases hb':fn.body with
 | none=>rw[hb'] at hb;cases hb
 | some c=>simp[h,hn,hb']
theorem wi (L:Lays2.n21 C.P ρ)(hent:Enters C.P (ρ.f 21)):ExtOk C (ρ.f 21) iF:=by
 refine ⟨fun d xs g hwf=>?_,fun d xs g y hy=>?_,fun A bd w γ hg nx g xs vs hr hwf hx hf hv hne cs=>?_⟩
 ·apply Small.mon _ hwf
  by_cases h:iF d xs g=.fail
  ·rw[h];trivial
  ·obtain ⟨s,i,id2,ep2,len2,lim2,vrows,lo,fz,e1,e2,e3,e4,e5⟩:=kJ h
   rw[e5] at h ⊢
   rcases p8 h with ⟨_,_,_,h1⟩ | ⟨id,ep,rows,_,h2,_,_,_,_,h1⟩
   ·rw[h1];exact .inr ⟨_,rfl⟩
   ·rw[h1];exact .inl ⟨_,_,rfl,by rw[h2];simp⟩
 ·have h:iF d xs g≠.fail:=by rw[hy];simp
  obtain ⟨s,i,id2,ep2,len2,lim2,vrows,lo,fz,e1,e2,e3,e4,e5⟩:=kJ h
  rw[e5] at h hy
  rcases p8 h with ⟨_,_,_,h1⟩ | ⟨id,ep,rows,_,h2,_,_,_,_,h1⟩<;>(rw[h1] at hy;cases hy)
 ·obtain ⟨s,i,id2,ep2,len2,lim2,vrows,lo,fz,e1,e2,e3,e4,e5⟩:=kJ hne
  subst e1;subst e3
  rw[e5] at hne hf ⊢
  obtain ⟨v1,v2,v3,rfl⟩:∃v1 v2 v3,vs=[v1,v2,v3]:=by
   have:=hv.1
   match vs,this with
   | [a,b,c],_=>exact ⟨a,b,c,rfl⟩
  have r1:RV w γ A bd s v1:=hv.2 0 _ _ rfl rfl
  have r2:RV w γ A bd (.int .i64 (Int.ofNat i)) v2:=hv.2 1 _ _ rfl rfl
  have r3:RV w γ A bd (.hsl id2 ep2 0 vrows.length lim2) v3:=hv.2 2 _ _ rfl rfl
  cases r2
  have hid2:hg id2=.cells 1 vrows ep2 lo fz:=by
   rw[hx id2 (by simp[List.flatMap_cons,ax,aA]) (by rw[e2];simp),e2]
  obtain ⟨vc,hv3,hvc,_⟩:=mm hr r3 hid2
  subst hv3
  obtain ⟨cv,ev,lv,p1,p2,p3,p4,p5,p6,p7⟩:=uR hr hid2
  have hz:(γ id2).base+0*1=(γ id2).base:=by omega
  rw[hz] at r3 ⊢
  rcases p8 hne with ⟨hs,hi,hbig,h1⟩ | ⟨id,ep,rows,hs,h2,hne2,hin,hpos,hbig,h1⟩
  ·subst hi
   rw[h1] at hf ⊢
   have hfree:(γ g.nx).kind=0:=hf g.nx (Nat.le_refl _) (by simp[gOf])
   have hbase:∃base,v1=.slice base 0 0:=by
    rcases hs with rfl | rfl | ⟨id,ep,fz2,rfl,hgid⟩
    ·cases r1;exact ⟨_,rfl⟩
    ·cases r1;exact ⟨_,rfl⟩
    ·have hid:hg id=.cells 1 [] ep false fz2:=by
      rw[hx id (by simp[List.flatMap_cons,ax,aA]) (by rw[hgid];simp),hgid]
     obtain ⟨c,hv1,hnc,hco⟩:=mm hr r1 hid
     have hob:=hr.obj id
     rw[hid] at hob
     obtain ⟨-,-,-,k4,k5,-⟩:=hob
     have hk:=k5.1 rfl
     have hc0:c=0:=by simp only[e6] at hco;simp at k4;omega
     subst hc0
     exact ⟨_,hv1⟩
   obtain ⟨base,hb⟩:=hbase
   subst hb
   obtain ⟨cap,rest,q1,q2,q3,q4⟩:=wW L (w:=w) (base:=base) (vb:=(γ id2).blk) (voff:=(γ id2).base) (m:=vrows.length) (vc:=vc) (vs:=lv) e4 hbig p3
    (fun j v hj=>by rw[iZ p1,<-p4 j (by rw[<-p3];exact (List.getElem?_eq_some_iff.1 hj).1)];exact hj) p5
   have hrr:RowsRel w γ A bd 1 vrows (lv.toArray++rest):=by
    refine ⟨by simp[p3],p6,fun k j row x a b=>?_⟩
    obtain ⟨j0,o1,v,l1,l2⟩:=p7 k j row x a b
    subst j0
    refine ⟨o1,v,?_,l2⟩
    have hk:=(List.getElem?_eq_some_iff.1 a).1
    rw[Array.getElem?_append_left (by simp;omega)]
    simpa using l1
   obtain ⟨γ',s1,s2,s3⟩:=n_ (e:=ρ.t 3) hr hfree hrr vrows.length cap (by simp[q3];omega) q1 rfl q2
   exact ⟨_,_,γ',_,CW s1 s2,s3,.inr ⟨hent,mb q4 cs⟩⟩
  ·subst hs
   rw[h1] at hf ⊢
   have hid:hg id=.cells 1 rows ep true false:=by
    rw[hx id (by simp[List.flatMap_cons,ax,aA]) (by rw[h2];simp),h2]
   obtain ⟨c,hv1,hnc,hco⟩:=mm hr r1 hid
   subst hv1
   have hob:=hr.obj id
   rw[hid] at hob
   obtain ⟨k1,k2,k3,k4,k5,k6,_⟩:=hob
   have hob2:=hr.obj id2
   rw[hid2] at hob2
   obtain ⟨m1,_⟩:=hob2
   have hblk:(γ id2).blk≠(γ id).blk:=fun e=>hne2 (hr.inj id id2 (by rw[k1];decide) (by rw[m1];decide) e.symm)
   obtain ⟨cc,ec,lc,c1,c2,c3,c4,c5,c6,c7⟩:=uR hr hid
   have hcap:c=rows.length+(γ id).slack:=by simp only[e6] at hco;omega
   have hins:=xe L (w:=w) (b:=(γ id).blk) (off:=(γ id).base) (n:=rows.length) (c:=c) (i:=i) (vb:=(γ id2).blk) (voff:=(γ id2).base) (m:=vrows.length) (vc:=vc)
    c1 p1 hblk hin e4 hnc (by have:=k5.2 rfl;omega) hbig (by omega) (by omega) (by omega) c3 p3 c4 p4 c5 p5
   obtain ⟨b',o',cap',c',e',w',n1,n2,n3,n4,n5,n6,n7,n8,n9⟩:=hins
   let gh:Gh:=⟨1,ep+1,1,rows.length+vrows.length,b',o',cap' - (rows.length+vrows.length),true⟩
   have hrl:(rows.take i++(vrows++rows.drop i)).length=rows.length+vrows.length:=by simp;omega
   have hcell:∀(k:Nat) row,(rows.take i++(vrows++rows.drop i))[k]?=some row->row.length=1/\∀(j:Nat) x,row[j]?=some x->x.one=true/\∃v,c'[o'+k*1+j]?=some v/\RV w γ A bd x v:=by
    intro k row hk
    have hkl:k<rows.length+vrows.length:=by rw[<-hrl];exact (List.getElem?_eq_some_iff.1 hk).1
    have hck:=n9 k hkl
    rw[dP c3 p3 hin] at hck
    rw[dP (n:=rows.length) (m:=vrows.length) rfl rfl hin] at hk
    split at hk
    ·rename_i h1;rw[if_pos h1] at hck
     refine ⟨c6 _ _ hk,fun j x hj=>?_⟩
     obtain ⟨j0,o1,v,l1,l2⟩:=c7 _ j row x hk hj
     subst j0
     exact ⟨o1,v,by rw[show o'+k*1+0=o'+k from by omega,hck];exact l1,l2⟩
    ·rename_i h1;rw[if_neg h1] at hck
     split at hk
     ·rename_i h2;rw[if_pos h2] at hck
      refine ⟨p6 _ _ hk,fun j x hj=>?_⟩
      obtain ⟨j0,o1,v,l1,l2⟩:=p7 _ j row x hk hj
      subst j0
      exact ⟨o1,v,by rw[show o'+k*1+0=o'+k from by omega,hck];exact l1,l2⟩
     ·rename_i h2;rw[if_neg h2] at hck
      refine ⟨c6 _ _ hk,fun j x hj=>?_⟩
      obtain ⟨j0,o1,v,l1,l2⟩:=c7 _ j row x hk hj
      subst j0
      exact ⟨o1,v,by rw[show o'+k*1+0=o'+k from by omega,hck];exact l1,l2⟩
   obtain ⟨s1,s2⟩:=hr.moved hid (w1:=w') (gh:=gh) (rows':=rows.take i++(vrows++rows.drop i)) rfl rfl rfl (by rw[hrl]) rfl n4
    (by rw[hrl];simp only[gh];omega) n5 n6 (c:=c') (e:=e') n7 (by rw[hrl];simp only[gh];omega)
    (fun k row hk=>(hcell k row hk).1) (fun k j row x hk hj=>(hcell k row hk).2 j x hj)
   have hz':(γ id).base+0*1=(γ id).base:=by omega
   rw[hz']
   refine ⟨.slice (some (adr b' o')) (rows.length+vrows.length) cap',w',_,_,Cs s1 s2,?_,.inr ⟨hent,mb n1 cs⟩⟩
   refine .hsl _ id (ep+1) 0 _ none _ _ cap' (by simp[gh]) (by simp[gh]) n2 (fun _=>⟨by simp[gh],by simp[gh],?_⟩)
   simp only[e6,upd_same,gh];omega
end
end Hx
end
section
namespace Hx
open Go
noncomputable def y7 (C:Cfg)(f:Nat):Nat->List AV->G->OR:=fun d xs g =>
 match (I C).call d f xs ⟨fd g.h (xs.flatMap (ax g.h aA)),g.nx,[]⟩ with
 | .ok v g'=>.upd v ⟨e9 g.h g'.h g'.lg,g'.nx,g'.lg++g.lg⟩
 | .fail=>.fail
theorem DI {C:Cfg}(hC:CfgOk C){f:Nat}:ExtOk C f (y7 C f):=by
 have wfr:∀(g:G) (ids:List Nat),WF g->WF ⟨fd g.h ids,g.nx,[]⟩:=by
  intro g ids hwf id hid
  show (fd g.h ids).get id=.none
  rw[fG]
  split
  ·exact hwf id hid
  ·rfl
 have sh:∀d xs g,y7 C f d xs g=.fail\/∃n v g',(sem C n).call d f xs ⟨fd g.h (xs.flatMap (ax g.h aA)),g.nx,[]⟩=.ok v g' /\
   y7 C f d xs g=.upd v ⟨e9 g.h g'.h g'.lg,g'.nx,g'.lg++g.lg⟩:=by
  intro d xs g
  unfold y7
  split
  ·rename_i v g' h;obtain ⟨n,hn⟩:=D2 h;exact .inr ⟨n,v,g',hn,rfl⟩
  ·exact .inl rfl
 refine ⟨fun d xs g hwf=>?_,fun d xs g y hy=>?_,fun A bd w γ hg nx g xs vs hr hwf hx hf hv hne cs=>?_⟩
 ·rcases sh d xs g with h | ⟨n,v,g',h1,h2⟩
  ·rw[h];exact Mon.refl g
  ·rw[h2]
   have hok:=pN hC n
   have m:=hok.mon.call _ _ _ _ _ _ h1 (wfr g _ hwf)
   obtain ⟨nw,a,b,c⟩:=m.new
   have ha:g'.lg=nw:=by simpa using a
   refine ⟨m.nx,⟨g'.lg,rfl,fun id hid=>?_,fun id hid=>?_⟩,fun hw id hid=>?_⟩
   ·show (e9 _ _ _).get id=_
    rw[eh,if_neg hid]
   ·obtain ⟨c1,c2⟩:=c id (by rw[<-ha];exact hid)
    refine ⟨c1,fun hn=>c2 ?_⟩
    show (fd _ _).get id=_
    rw[fG,hn];simp
   ·show (e9 _ _ _).get id=_
    have hid:g'.nx<=id:=hid
    have hnx:g.nx<=g'.nx:=m.nx
    rw[eh,if_neg]
    ·exact hw id (by omega)
    ·intro hl
     have:=(c id (by rw[<-ha];exact hl)).1
     omega
 ·rcases sh d xs g with h | ⟨n,v,g',h1,h2⟩
  ·rw[h] at hy;cases hy
  ·rw[h2] at hy;cases hy
 ·rcases sh (bd+1) xs g with h | ⟨n,v,g',h1,h2⟩
  ·exact absurd h hne
  ·rw[h2] at hf ⊢
   have hok:=pN hC n
   obtain ⟨he,run⟩:=hok.call _ _ _ _ _ _ h1
   obtain ⟨u,w',γ',hg',fin,rv,out⟩:=run A w γ hg nx vs hr (fun id hn=>by
     have hn':(fd g.h (xs.flatMap (ax g.h aA))).get id≠.none:=hn
     show hg id=(fd _ _).get id
     rw[fG] at hn' ⊢
     split at hn'
     ·rename_i hm;rw[if_pos hm];exact hx id hm hn'
     ·exact absurd rfl hn') (wfr g _ hwf) (fun id h1 h2=>hf id h1 h2) hv .normal cs (.inl rfl)
   refine ⟨u,w',γ',hg',⟨fin.rel,fin.stp,?_⟩,rv,.inr ⟨he,out⟩⟩
   obtain ⟨nw,a,b,c⟩:=fin.new
   have ha:g'.lg=nw:=by simpa using a
   subst ha
   refine ⟨g'.lg,rfl,fun id hid=>?_,c⟩
   show hg' id=(e9 _ _ _).get id
   rw[eh,if_pos hid];exact b id hid
end Hx
end
section
namespace Go.Proofs.YtbejmpmoigmliaaGreatDoor.Gen
open Hx
noncomputable def cfg0:Cfg:={ P:=Tryz.prog,iso:=fun f=>Nat.testBit 796811861359663404356330575176412241815613130441680752738303 f,ext:=fun _=>none,glob:=fun g=>af (Nat.beq g 3) (some (64,[[.int .u8 0,.int .u8 1,.int .u8 56,.int .u8 2,.int .u8 57,.int .u8 49,.int .u8 28,.int .u8 3,.int .u8 61,.int .u8 58,.int .u8 42,.int .u8 50,.int .u8 38,.int .u8 29,.int .u8 17,.int .u8 4,.int .u8 62,.int .u8 47,.int .u8 59,.int .u8 36,.int .u8 45,.int .u8 43,.int .u8 51,.int .u8 22,.int .u8 53,.int .u8 39,.int .u8 33,.int .u8 30,.int .u8 24,.int .u8 18,.int .u8 12,.int .u8 5,.int .u8 63,.int .u8 55,.int .u8 48,.int .u8 27,.int .u8 60,.int .u8 41,.int .u8 37,.int .u8 16,.int .u8 46,.int .u8 35,.int .u8 44,.int .u8 21,.int .u8 52,.int .u8 32,.int .u8 23,.int .u8 11,.int .u8 54,.int .u8 26,.int .u8 40,.int .u8 15,.int .u8 34,.int .u8 20,.int .u8 31,.int .u8 10,.int .u8 25,.int .u8 14,.int .u8 19,.int .u8 9,.int .u8 13,.int .u8 8,.int .u8 7,.int .u8 6]])) none }
theorem cfg0Ok:CfgOk cfg0:=CfgOk.plain (by kernel_rfl) (by kernel_rfl)
theorem insOk:ExtOk cfg0 164 iF:=wi (C:=cfg0) (ρ:=Tryz.lays21_ren) Tryz.lays21 (Hx.zS Tryz.func164 (by kernel_rfl) (by kernel_rfl))
theorem add116:ExtOk cfg0 116 mB:=zt (C:=cfg0) Tryz.func116 (by kernel_rfl) (by kernel_rfl) (by kernel_rfl) (by kernel_rfl)
noncomputable def cfgA:Cfg:=cfg0.add 116 mB
theorem cfgAOk:CfgOk cfgA:=cfg0Ok.add add116
noncomputable def cfg:Cfg:=cfgA.add 164 iF
theorem cfgOk:CfgOk cfg:=cfgAOk.add (ExtOk.cfg (C:=cfg0) (C':=cfgA) rfl rfl insOk)
theorem inl165:ExtOk cfg0 165 (uz cfg0 40 165):=xw cfg0Ok
noncomputable def cfgC:Cfg:=cfg.add 165 (uz cfg0 40 165)
theorem cfgCOk:CfgOk cfgC:=cfgOk.add (ExtOk.cfg (C:=cfg0) (C':=cfg) rfl rfl inl165)
theorem inl62:ExtOk cfg0 62 (uz cfg0 200 62):=xw cfg0Ok
noncomputable def cfgM:Cfg:=cfgC.add 62 (uz cfg0 200 62)
theorem cfgMOk:CfgOk cfgM:=cfgCOk.add (ExtOk.cfg (C:=cfg0) (C':=cfgC) rfl rfl inl62)
theorem works_run:ah (sem cfgM 20000) 1 G.empty 7 []=.val (.bool true):=by kernel_rfl
noncomputable def cfgW:Cfg:=cfg.add 7 (qW (.bool true))
theorem cfgWOk:CfgOk cfgW:=cfgOk.add (ExtOk.cfg (C:=cfgM) (C':=cfg) rfl rfl (y6 cfgMOk works_run))
theorem inl1:ExtOk cfg0 165 (y7 cfg0 165):=DI cfg0Ok
noncomputable def cfg1:Cfg:=cfgW.add 165 (y7 cfg0 165)
theorem cfg1Ok:CfgOk cfg1:=cfgWOk.add (ExtOk.cfg (C:=cfg0) (C':=cfgW) rfl rfl inl1)
end Go.Proofs.YtbejmpmoigmliaaGreatDoor.Gen
end
section
namespace Hx
open Go
set_option maxRecDepth 100000
noncomputable section
def C0:Cfg:=Go.Proofs.YtbejmpmoigmliaaGreatDoor.Gen.cfg1
abbrev N.aO:Nat:=14
abbrev N.ak:Nat:=36
abbrev N.ay:Nat:=37
abbrev N.ah:Nat:=47
abbrev N.aM:Nat:=45
abbrev N.aW:Nat:=39
abbrev N.aX:Nat:=4
abbrev N.aG:Nat:=8
abbrev N.aA:Nat:=9
abbrev N.aY:Nat:=7
abbrev N.aw:Nat:=46
abbrev N.aZ:Nat:=83
abbrev N.aE:Nat:=84
abbrev N.aJ:Nat:=135
abbrev N.a7:Nat:=156
abbrev N.aI:Nat:=157
abbrev N.aS:Nat:=54
abbrev N.ap:Nat:=40
abbrev N.aa:Nat:=55
abbrev N.aD:Nat:=15
abbrev N.aP:Nat:=88
abbrev N.aQ:Nat:=48
abbrev N.aB:Nat:=41
abbrev N.aC:Nat:=34
abbrev N.aK:Nat:=82
abbrev N.am:Nat:=33
abbrev N.aH:Nat:=158
abbrev N.az:Nat:=114
abbrev N.aU:Nat:=136
abbrev N.aT:Nat:=20
abbrev N.an:Nat:=12
abbrev N.aF:Nat:=16
abbrev N.aV:Nat:=42
abbrev N.aq:Nat:=38
abbrev N.aR:Nat:=44
abbrev N.au:Nat:=80
abbrev N.aN:Nat:=81
abbrev N.aL:Nat:=112
abbrev N.ae:Nat:=113
abbrev N.af:Nat:=134
abbrev N.ax:Nat:=79
def cX:SC:=sQ [o 54 (.bin .lss (.t 53) (qI 2))] (.seq (.cond (.t 54) (.skip) (.exit 4)) (.seq (.blk 5 (sQ [o 55 (.ix true 2 2 (.t 52) (.t 53)),o 18 (.alloc [.int .i64 0,.int .i64 0]),oz (.store 2 (.t 18) (.t 55))] (sQ [oM 56 14,o 57 (.ixa 2 1 (.t 18) (qI 0)),oL 58 57,o 59 (.ixa 2 1 (.t 18) (qI 1)),oL 60 59,oM 61 16,o 62 (.call N.aA [.t 56,.t 58,.t 60,.k (.int .u64 0),.t 61]),oM 19 62] (sQ [oM 64 14,oM 65 16,o 66 (.ixa 2 1 (.t 18) (qI 0)),oL 67 66,o 68 (.ixa 2 1 (.t 18) (qI 1)),oL 69 68,o 70 (.call N.aO [.t 64,.t 65,.t 67,.t 69]),oM 63 70,o 71 (.ext (.t 63) 0),o 72 (.ext (.t 63) 1),oM 20 71,oM 21 72] (sQ [oM 73 21,oM 74 19,o 75 (.bin .neq (.t 73) (.t 74)),oM 76 75,og 77 76 false (.mv (.t 19)),og 78 76 false (.bin .neq (.t 77) (qI 0)),og 79 76 false (.mv (.t 78)),og 80 79 true (.mv (.t 20)),og 81 79 true (.len .slice (.t 80)),og 82 79 true (.bin .neq (.t 81) (qI 0)),og 83 76 false (.pick (.t 79) (.t 82) (.k (.bool false))),o 84 (.pick (.t 76) (.k (.bool true)) (.t 83)),oM 85 84,og 86 85 false (.mv (.t 19)),og 87 85 false (.bin .eql (.t 86) (qI 0)),og 88 85 false (.mv (.t 87)),og 89 88 true (.mv (.t 20)),og 90 88 true (.mv (.t 14)),og 91 88 true (.mv (.t 16)),og 92 88 true (.ixa 2 1 (.t 18) (qI 0)),og 93 88 true (.load false 1 (.t 92)),og 94 88 true (.ixa 2 1 (.t 18) (qI 1)),og 95 88 true (.load false 1 (.t 94)),og 96 88 true (.call N.aF [.t 90,.t 91,.t 93,.t 95]),og 97 88 true (.call N.aD [.t 89,.t 96]),og 98 88 true (.not (.t 97)),og 99 85 false (.pick (.t 88) (.t 98) (.k (.bool false))),o 100 (.pick (.t 85) (.k (.bool true)) (.t 99))] (.cond (.t 100) (sQ [o 12 (.mv (.k (.bool false)))] (.ret)) (.skip))))))) (.ops [oA 101 53,oM 53 101])))
def fe:SC:=.ops [oA 102 38,oM 38 102]
def cV:SC:=sQ [o 39 (.bin .lss (.t 38) (qI 2))] (.seq (.cond (.t 39) (.skip) (.exit 2)) (.seq (.blk 3 (sQ [o 40 (.ix false 2 1 (.t 37) (.t 38)),oM 16 40] (sQ [oM 41 2,oM 42 3,o 43 (.build [.int .i64 0,.int .i64 0] [(0,1),(1,1)] [.t 41,.t 42]),oM 44 5,o 45 (.bin .rem (.t 44) (.k (.int .u8 6))),o 46 (.conv .i64 (.t 45)),oM 47 5,o 48 (.bin .quo (.t 47) (.k (.int .u8 6))),o 49 (.bin .rem (.t 48) (.k (.int .u8 6))),o 50 (.conv .i64 (.t 49)),o 51 (.build [.int .i64 0,.int .i64 0] [(0,1),(1,1)] [.t 46,.t 50]),o 52 (.build [.int .i64 0,.int .i64 0,.int .i64 0,.int .i64 0] [(0,2),(2,2)] [.t 43,.t 51]),oK 53 0] (.blk 4 (.loop cX))))) fe))
def fg:SC:=.ops [oA 103 27,oM 27 103]
def cU:SC:=sQ [o 28 (.bin .lss (.t 27) (qI 2))] (.seq (.cond (.t 28) (.skip) (.exit 0)) (.seq (.blk 1 (sQ [o 29 (.ix false 2 1 (.t 26) (.t 27)),oM 14 29] (sQ [oM 30 4,oM 31 4,oM 32 14,oN 33 32,o 34 (.bin .shl (.k (.int .u64 1)) (.t 33)),o 35 (.bin .sub (.t 34) (.k (.int .u64 1))),o 36 (.bin .and (.t 31) (.t 35)),o 37 (.build [.int .u64 0,.int .u64 0] [(0,1),(1,1)] [.t 30,.t 36]),oK 38 0] (.blk 2 (.loop cV))))) fg))
def fj:SC:=sQ [o 12 (.mv (.k (.bool true)))] (.ret)
def fY:SC:=.seq (sQ [o 22 (.call N.aY []),o 23 (.not (.t 22))] (.cond (.t 23) (sQ [o 12 (.mv (.k (.bool false)))] (.ret)) (.skip))) (.seq (sQ [oM 24 0,o 25 (.load true 2 (.t 7)),o 26 (.call N.aG [.t 24,.t 25]),oK 27 0] (.blk 0 (.loop cU))) fj)
def d7:SF:=⟨104,[.tm 12],sQ [o 7 (.box (.t 1)),o 12 (.mv (.k (.bool false)))] fY⟩
def eH:SC:=sQ [oM 19 0,o 20 (.load true 2 (.t 3)),o 21 (.call N.aC [.t 20]),o 22 (.build [.nils,.nils] [(0,1),(1,1)] [.t 19,.t 21]),oz (.store 2 (.t 4) (.t 22))] (.ret)
def jb:SC:=sQ [oM 5 0,oM 6 0,oN 7 6,o 8 (.mn (.t 7) (qI 9)),o 9 (.slc 1 (.t 5) [] [.t 8]),oM 0 9] (.seq (sQ [oM 10 0,o 11 (.call N.am [.t 10]),oM 12 11,og 13 12 true (.mv (.t 0)),og 14 12 true (.len .slice (.t 13)),og 15 12 true (.bin .gtr (.t 14) (qI 6)),o 16 (.pick (.t 12) (.t 15) (.k (.bool false)))] (.cond (.t 16) (.ops [oM 17 0,o 18 (.slc 1 (.t 17) [] [.k (.int .i64 0)]),oM 0 18]) (.skip))) eH)
def hZ:SF:=⟨23,[.cell true 2 4],sQ [o 3 (.box (.t 1)),o 4 (.alloc [.nils,.nils])] jb⟩
def cM:SF:=⟨23,[.tm 10],sQ [oK 10 0] (.seq (.blk 0 (sQ [oM 12 0,o 13 (.call N.am [.t 12]),o 14 (.not (.t 13)),oM 11 14] (.cond (.t 11) (sQ [oK 10 70] (.ret)) (sQ [oM 16 0,oM 17 1,oM 18 2,oM 19 3,oM 20 4,o 21 (.call N.aT [.t 16,.t 17,.t 18,.t 19,.t 20]),o 22 (.not (.t 21)),oM 15 22] (.cond (.t 15) (sQ [oK 10 2] (.ret)) (.skip)))))) (sQ [oK 10 0] (.ret)))⟩
def dF:SF:=⟨32,[.tm 8],sQ [o 8 (.mv (.k (.bool false)))] (sQ [oM 11 1,o 12 (.conv .u64 (.t 11)),o 13 (.bin .shl (.k (.int .u64 1)) (.t 12)),oM 14 2,o 15 (.conv .u64 (.t 14)),o 16 (.bin .shl (.k (.int .u64 1)) (.t 15)),oM 9 13,oM 10 16] (sQ [oM 17 0,oM 18 9,o 19 (.call N.ap [.t 17,.t 18]),oM 20 3,o 21 (.bin .and (.t 19) (.t 20)),o 22 (.bin .eql (.t 21) (.k (.int .u64 0))),oM 23 22,og 24 23 true (.mv (.t 0)),og 25 23 true (.mv (.t 9)),og 26 23 true (.call N.aV [.t 24,.t 25]),og 27 23 true (.mv (.t 9)),og 28 23 true (.mv (.t 10)),og 29 23 true (.mv (.t 3)),og 30 23 true (.call N.aB [.t 26,.t 27,.t 28,.t 29]),o 31 (.pick (.t 23) (.t 30) (.k (.bool false))),oM 8 31] (.ret)))⟩
def fc:SC:=.ops [o 85 (.bin .add (.t 51) (.k (.int .u64 1))),oM 51 85]
def cS:SC:=sQ [o 52 (.bin .lss (.t 51) (.t 50))] (.seq (.cond (.t 52) (.skip) (.exit 2)) (.seq (.blk 3 (sQ [oM 53 51,oM 13 53] (.seq (sQ [oM 54 13,oM 55 1,o 56 (.bin .andNot (.t 54) (.t 55)),o 57 (.bin .neq (.t 56) (.k (.int .u64 0))),oM 58 57,og 59 58 false (.mv (.t 13)),og 60 58 false (.call N.aw [.t 59]),og 61 58 false (.mv (.t 12)),og 62 58 false (.bin .neq (.t 60) (.t 61)),o 63 (.pick (.t 58) (.k (.bool true)) (.t 62)),oM 64 63,og 65 64 false (.mv (.t 13)),og 66 64 false (.mv (.t 11)),og 67 64 false (.call N.ah [.t 65,.t 66]),o 68 (.pick (.t 64) (.k (.bool true)) (.t 67))] (.cond (.t 68) (.exit 3) (.skip))) (sQ [oM 70 0,oM 71 2,oM 72 3,oM 73 13,o 74 (.call N.ak [.t 70,.t 71,.t 72,.t 73]),oM 69 74,o 75 (.ext (.t 69) 0),o 76 (.ext (.t 69) 1),oM 14 75,oM 15 76] (.seq (sQ [oM 77 15,o 78 (.bin .neq (.t 77) (qI 0))] (.cond (.t 78) (sQ [oM 79 15,o 8 (.mv (.k (.nils))),oM 9 79] (.ret)) (.skip))) (sQ [oM 80 14] (.cond (.t 80) (.ops [oM 81 11,oM 82 13,o 83 (.bsl 1 1 [.int .u64 0] [0] [.t 82]),o 84 (.app 1 8 (.t 81) (.t 83)),oM 11 84]) (.skip)))))))) fc))
def ff:SC:=.ops [oA 86 45,oM 45 86]
def fh:SC:=sQ [o 46 (.bin .lss (.t 45) (.t 44))] (.seq (.cond (.t 46) (.skip) (.exit 0)) (.seq (.blk 1 (sQ [oM 47 45,oM 12 47] (sQ [oM 48 0,oN 49 48,o 50 (.bin .shl (.k (.int .u64 1)) (.t 49)),o 51 (.mv (.k (.int .u64 0)))] (.blk 2 (.loop cS))))) ff))
def e_:SC:=sQ [oM 87 11,oM 8 87,oK 9 0] (.ret)
def br:SF:=⟨88,[.tm 8,.tm 9],sQ [o 8 (.mv (.k (.nils))),oK 9 0] (.seq (sQ [oM 16 0,o 17 (.call N.aR [.t 16]),oM 10 17] (sQ [oM 18 10,o 19 (.bin .neq (.t 18) (qI 0))] (.cond (.t 19) (sQ [oM 20 10,o 8 (.mv (.k (.nils))),oM 9 20] (.ret)) (.skip)))) (.seq (sQ [oM 21 1,oM 22 0,oN 23 22,o 24 (.bin .shr (.t 21) (.t 23)),o 25 (.bin .neq (.t 24) (.k (.int .u64 0))),oM 26 25,og 27 26 false (.mv (.t 0)),og 28 26 false (.len .slice (.t 27)),og 29 26 false (.mv (.t 2)),og 30 26 false (.mv (.t 3)),og 31 26 false (.call N.aM [.t 28,.t 29,.t 30]),og 32 26 false (.not (.t 31)),o 33 (.pick (.t 26) (.k (.bool true)) (.t 32))] (.cond (.t 33) (sQ [o 8 (.mv (.k (.nils))),oK 9 2] (.ret)) (.skip))) (.seq (.quiet [oM 34 1,oM 35 2,o 36 (.bin .shl (.k (.int .u64 1)) (.t 35)),oM 37 3,o 38 (.bin .shl (.k (.int .u64 1)) (.t 37)),o 39 (.bin .or (.t 36) (.t 38)),o 40 (.bin .andNot (.t 34) (.t 39)),oM 1 40]) (sQ [o 41 (.bsl 1 0 [.int .u64 0] [] []),oM 11 41] (.seq (sQ [oM 42 1,o 43 (.call N.aw [.t 42]),oA 44 43,oK 45 0] (.blk 0 (.loop fh))) e_)))))⟩
def pt:SC:=.seq (sQ [oM 11 5,oM 12 0,oN 13 12,o 14 (.bin .lss (.t 11) (.t 13))] (.cond (.t 14) (.skip) (.exit 0))) (.seq (.blk 1 (.seq (.quiet [oM 17 0,oM 18 5,oX 19 17 18,oL 20 19,oM 21 1,oM 22 5,oX 23 21 22,oL 24 23,o 25 (.bin .neq (.t 20) (.t 24))]) (.cond (.t 25) (sQ [o 4 (.mv (.k (.bool false)))] (.ret)) (.skip)))) (.ops [oM 15 5,oA 16 15,oM 5 16]))
def jZ:SC:=sQ [o 4 (.mv (.k (.bool true)))] (.ret)
def jP:SF:=⟨26,[.tm 4],sQ [o 4 (.mv (.k (.bool false)))] (.seq (sQ [oM 6 0,oN 7 6,oM 8 1,oN 9 8,o 10 (.bin .neq (.t 7) (.t 9))] (.cond (.t 10) (sQ [o 4 (.mv (.k (.bool false)))] (.ret)) (.skip))) (.seq (sQ [oK 5 0] (.blk 0 (.loop pt))) jZ))⟩
def fZ:SC:=.ops [oM 59 13,o 60 (.bin .add (.t 59) (.k (.int .u64 1))),oM 13 60]
def dq:SC:=.seq (sQ [oM 56 13,oM 57 11,o 58 (.bin .lss (.t 56) (.t 57))] (.cond (.t 58) (.skip) (.exit 4))) (.seq (.blk 5 (sQ [oM 61 13,oM 62 11,o 63 (.bin .andNot (.t 61) (.t 62)),o 64 (.bin .eql (.t 63) (.k (.int .u64 0))),oM 65 64,og 66 65 true (.mv (.t 0)),og 67 65 true (.mv (.t 2)),og 68 65 true (.mv (.t 3)),og 69 65 true (.mv (.t 13)),og 70 65 true (.call N.an [.t 66,.t 67,.t 68,.t 69]),o 71 (.pick (.t 65) (.t 70) (.k (.bool false)))] (.cond (.t 71) (.ops [o 12 (.mv (.k (.bool false)))]) (.skip)))) fZ)
def dw:SC:=sQ [oM 72 12] (.cond (.t 72) (.ops [oM 73 9,oM 74 11,o 75 (.bsl 1 1 [.int .u64 0] [0] [.t 74]),o 76 (.app 1 8 (.t 73) (.t 75)),oM 9 76]) (.skip))
def f_:SC:=.ops [oM 35 11,o 36 (.bin .add (.t 35) (.k (.int .u64 1))),oM 11 36]
def dk:SC:=.seq (sQ [oM 29 11,oM 30 0,oN 31 30,o 32 (.conv .u64 (.t 31)),o 33 (.bin .shl (.k (.int .u64 1)) (.t 32)),o 34 (.bin .lss (.t 29) (.t 33))] (.cond (.t 34) (.skip) (.exit 2))) (.seq (.blk 3 (.seq (sQ [oM 37 11,oM 38 1,o 39 (.bin .andNot (.t 37) (.t 38)),o 40 (.bin .neq (.t 39) (.k (.int .u64 0))),oM 41 40,og 42 41 false (.mv (.t 11)),og 43 41 false (.call N.aQ [.t 42]),og 44 41 false (.len .slice (.t 43)),og 45 41 false (.mv (.t 10)),og 46 41 false (.bin .neq (.t 44) (.t 45)),o 47 (.pick (.t 41) (.k (.bool true)) (.t 46)),oM 48 47,og 49 48 false (.mv (.t 0)),og 50 48 false (.mv (.t 2)),og 51 48 false (.mv (.t 3)),og 52 48 false (.mv (.t 11)),og 53 48 false (.call N.an [.t 49,.t 50,.t 51,.t 52]),og 54 48 false (.not (.t 53)),o 55 (.pick (.t 48) (.k (.bool true)) (.t 54))] (.cond (.t 55) (.exit 3) (.skip))) (sQ [o 12 (.mv (.k (.bool true)))] (.seq (sQ [o 13 (.mv (.k (.int .u64 0)))] (.blk 4 (.loop dq))) dw)))) f_)
def fS:SC:=.ops [oM 27 10,oA 28 27,oM 10 28]
def f8:SC:=.seq (sQ [oM 23 10,oM 24 0,oN 25 24,o 26 (.bin .leq (.t 23) (.t 25))] (.cond (.t 26) (.skip) (.exit 0))) (.seq (.blk 1 (sQ [o 11 (.mv (.k (.int .u64 0)))] (.blk 2 (.loop dk)))) fS)
def fP:SC:=sQ [oM 77 9,oM 8 77] (.ret)
def e8:SF:=⟨78,[.tm 8],sQ [o 8 (.mv (.k (.nils)))] (sQ [oM 14 1,oM 15 2,o 16 (.conv .u64 (.t 15)),o 17 (.bin .shl (.k (.int .u64 1)) (.t 16)),oM 18 3,o 19 (.conv .u64 (.t 18)),o 20 (.bin .shl (.k (.int .u64 1)) (.t 19)),o 21 (.bin .or (.t 17) (.t 20)),o 22 (.bin .andNot (.t 14) (.t 21)),oM 1 22] (sQ [o 9 (.mv (.k (.nils)))] (.seq (sQ [oK 10 0] (.blk 0 (.loop f8))) fP)))⟩
def bf:SF:=⟨59,[.tm 10],sQ [o 10 (.mv (.k (.bool false)))] (sQ [oM 12 0,oN 13 12,oM 11 13] (.seq (sQ [oM 14 1,o 15 (.bin .lss (.t 14) (qI 0)),oM 16 15,og 17 16 false (.mv (.t 1)),og 18 16 false (.mv (.t 11)),og 19 16 false (.bin .geq (.t 17) (.t 18)),o 20 (.pick (.t 16) (.k (.bool true)) (.t 19)),oM 21 20,og 22 21 false (.mv (.t 2)),og 23 21 false (.bin .lss (.t 22) (qI 0)),o 24 (.pick (.t 21) (.k (.bool true)) (.t 23)),oM 25 24,og 26 25 false (.mv (.t 2)),og 27 25 false (.mv (.t 11)),og 28 25 false (.bin .geq (.t 26) (.t 27)),o 29 (.pick (.t 25) (.k (.bool true)) (.t 28)),oM 30 29,og 31 30 false (.mv (.t 1)),og 32 30 false (.mv (.t 2)),og 33 30 false (.bin .eql (.t 31) (.t 32)),o 34 (.pick (.t 30) (.k (.bool true)) (.t 33)),oM 35 34,og 36 35 false (.mv (.t 3)),og 37 35 false (.mv (.t 11)),og 38 35 false (.conv .u64 (.t 37)),og 39 35 false (.bin .shr (.t 36) (.t 38)),og 40 35 false (.bin .neq (.t 39) (.k (.int .u64 0))),o 41 (.pick (.t 35) (.k (.bool true)) (.t 40)),oM 42 41,og 43 42 false (.mv (.t 4)),og 44 42 false (.mv (.t 11)),og 45 42 false (.conv .u64 (.t 44)),og 46 42 false (.bin .shr (.t 43) (.t 45)),og 47 42 false (.bin .neq (.t 46) (.k (.int .u64 0))),o 48 (.pick (.t 42) (.k (.bool true)) (.t 47))] (.cond (.t 48) (sQ [o 10 (.mv (.k (.bool false)))] (.ret)) (.skip))) (sQ [oM 49 3,oM 50 1,o 51 (.call N.aa [.t 49,.t 50]),o 52 (.not (.t 51)),oM 53 52,og 54 53 true (.mv (.t 3)),og 55 53 true (.mv (.t 2)),og 56 53 true (.call N.aa [.t 54,.t 55]),og 57 53 true (.not (.t 56)),o 58 (.pick (.t 53) (.t 57) (.k (.bool false))),oM 10 58] (.ret))))⟩
def ji:SC:=.seq (sQ [oM 12 3,oM 13 0,oN 14 13,o 15 (.bin .lss (.t 12) (.t 14))] (.cond (.t 15) (.skip) (.exit 0))) (.seq (.blk 1 (sQ [oM 18 0,oM 19 3,oX 20 18 19,oL 21 20,oM 22 0,oN 23 22,o 24 (.conv .u64 (.t 23)),o 25 (.bin .shr (.t 21) (.t 24)),o 26 (.bin .neq (.t 25) (.k (.int .u64 0)))] (.cond (.t 26) (sQ [o 2 (.mv (.k (.bool false)))] (.ret)) (.skip)))) (.ops [oM 16 3,oA 17 16,oM 3 17]))
def jf:SC:=sQ [oM 27 0,o 28 (.call N.aS [.t 27]),oM 2 28] (.ret)
def dV:SF:=⟨29,[.tm 2],sQ [o 2 (.mv (.k (.bool false)))] (.seq (sQ [oM 4 0,oN 5 4,o 6 (.bin .lss (.t 5) (qI 1)),oM 7 6,og 8 7 false (.mv (.t 0)),og 9 7 false (.len .slice (.t 8)),og 10 7 false (.bin .gtr (.t 9) (qI 8)),o 11 (.pick (.t 7) (.k (.bool true)) (.t 10))] (.cond (.t 11) (sQ [o 2 (.mv (.k (.bool false)))] (.ret)) (.skip))) (.seq (sQ [oK 3 0] (.blk 0 (.loop ji))) jf))⟩
def cB:SC:=sQ [o 7 (.mv (.k (.nils)))] (sQ [oM 36 7,oM 37 4,oM 38 6,o 39 (.slc 1 (.t 37) [] [.t 38]),o 40 (.app 1 8 (.t 36) (.t 39)),oM 41 5,o 42 (.bsl 1 1 [.int .i64 0] [0] [.t 41]),o 43 (.app 1 8 (.t 40) (.t 42)),oM 7 43] (.ops [oM 44 7,oM 45 4,oM 46 6,o 47 (.slc 1 (.t 45) [.t 46] []),o 48 (.app 1 8 (.t 44) (.t 47)),oM 4 48]))
def eN:SC:=.ops [oM 20 5,oA 21 20,oM 5 21]
def cA:SC:=.seq (sQ [oM 17 5,oM 18 3,o 19 (.bin .lss (.t 17) (.t 18))] (.cond (.t 19) (.skip) (.exit 0))) (.seq (.blk 1 (sQ [oK 6 0] (.seq (sQ [oM 22 5,oF 23 1 1,oL 24 23,oN 25 24,o 26 (.bin .lss (.t 22) (.t 25))] (.cond (.t 26) (.ops [oF 27 1 1,oL 28 27,oM 29 5,oX 30 28 29,oL 31 30,o 32 (.conv .i64 (.t 31)),oM 33 5,oA 34 33,o 35 (.bin .rem (.t 32) (.t 34)),oM 6 35]) (.skip))) cB))) eN)
def eC:SC:=.ops [oM 66 11,oA 67 66,oM 11 67]
def cF:SC:=.seq (sQ [oM 63 11,oM 64 9,o 65 (.bin .lss (.t 63) (.t 64))] (.cond (.t 65) (.skip) (.exit 4))) (.seq (.blk 5 (sQ [oF 68 0 1,oL 69 68,oM 70 9,oX 71 69 70,oL 72 71,oM 73 11,o 74 (.conv .u64 (.t 73)),o 75 (.bin .shr (.t 72) (.t 74)),o 76 (.bin .and (.t 75) (.k (.int .u8 1))),o 77 (.bin .eql (.t 76) (.k (.int .u8 1))),oM 78 77,og 79 78 true (.mv (.t 10)),og 80 78 true (.bin .lss (.t 79) (qI 3)),o 81 (.pick (.t 78) (.t 80) (.k (.bool false)))] (.cond (.t 81) (.seq (.feet [0,0,0,6,14,0,0,0,192,448,992,2016,0,0,12288,28672,61440,126976,262112,524287,1048575] [oM 82 8,oM 83 4,oM 84 9,oX 85 83 84,oL 86 85,oM 87 8,oM 88 4,oM 89 9,oX 90 88 89,oL 91 90,oX 92 87 91,oL 93 92,oM 94 4,oM 95 11,oX 96 94 95,oL 97 96,o 98 (.conv .u64 (.t 97)),o 99 (.bin .shl (.k (.int .u64 1)) (.t 98)),o 100 (.bin .or (.t 93) (.t 99)),oX 101 82 86,oz (.store 1 (.t 101) (.t 100))]) (.ops [oM 102 10,oA 103 102,oM 10 103])) (.skip)))) eC)
def eQ:SC:=.ops [oM 61 9,oA 62 61,oM 9 62]
def cC:SC:=.seq (sQ [oM 51 9,oM 52 3,o 53 (.bin .lss (.t 51) (.t 52)),oM 54 53,og 55 54 true (.mv (.t 9)),og 56 54 true (.fad 0 (.t 1)),og 57 54 true (.load false 1 (.t 56)),og 58 54 true (.len .slice (.t 57)),og 59 54 true (.bin .lss (.t 55) (.t 58)),o 60 (.pick (.t 54) (.t 59) (.k (.bool false)))] (.cond (.t 60) (.skip) (.exit 2))) (.seq (.blk 3 (sQ [oK 10 0] (sQ [oK 11 0] (.blk 4 (.loop cF))))) eQ)
def eU:SC:=sQ [oM 104 8,oM 2 104] (.ret)
def eT:SC:=sQ [oM 49 3,o 50 (.mks 1 8 [.int .u64 0] (.t 49) (.t 49)),oM 8 50] (.seq (sQ [oK 9 0] (.blk 2 (.loop cC))) eU)
def fk:SC:=sQ [oF 12 0 1,oL 13 12,oN 14 13,o 15 (.mx (.t 14) (qI 1)),o 16 (.mn (.t 15) (qI 6)),oM 3 16] (sQ [o 4 (.mv (.k (.nils)))] (.seq (sQ [oK 5 0] (.blk 0 (.loop cA))) eT))
def dN:SF:=⟨105,[.tm 2],sQ [o 1 (.box (.t 0)),o 2 (.mv (.k (.nils)))] fk⟩
def cY:SF:=⟨28,[.tm 8,.tm 9],sQ [o 8 (.mv (.k (.bool false))),oK 9 0] (.seq (sQ [oM 10 0,oM 11 1,o 12 (.call N.ay [.t 10,.t 11,.k (.int .u64 0)]),oM 13 3,o 14 (.bin .and (.t 12) (.t 13)),o 15 (.bin .neq (.t 14) (.k (.int .u64 0)))] (.cond (.t 15) (sQ [o 8 (.mv (.k (.bool false))),oK 9 0] (.ret)) (.skip))) (.seq (.quiet [oM 16 0,oM 17 1,o 18 (.bin .shl (.k (.int .u64 1)) (.t 17)),o 19 (.call N.aW [.t 16,.t 18]),oM 20 1,o 21 (.bin .shl (.k (.int .u64 1)) (.t 20)),oM 22 2,o 23 (.bin .shl (.k (.int .u64 1)) (.t 22)),oM 24 3,o 25 (.call N.aq [.t 19,.t 21,.t 23,.t 24]),o 26 (.ext (.t 25) 0),o 27 (.ext (.t 25) 1),oM 8 26,oM 9 27]) (.ret)))⟩
def na:SC:=.ops [oA 38 18,oM 18 38]
def iG:SC:=sQ [o 19 (.bin .lss (.t 18) (.t 17))] (.seq (.cond (.t 19) (.skip) (.exit 2)) (.seq (.blk 3 (sQ [oM 20 18,oX 21 16 18,oL 22 21,oM 8 20,oM 9 22] (sQ [oM 23 9,oM 24 7,o 25 (.bin .and (.t 23) (.t 24)),o 26 (.bin .neq (.t 25) (.k (.int .u64 0))),oM 27 26,og 28 27 true (.mv (.t 2)),og 29 27 true (.mv (.t 8)),og 30 27 true (.bin .shr (.t 28) (.t 29)),og 31 27 true (.bin .and (.t 30) (.k (.int .u64 1))),og 32 27 true (.bin .eql (.t 31) (.k (.int .u64 0))),o 33 (.pick (.t 27) (.t 32) (.k (.bool false)))] (.cond (.t 33) (.ops [oM 34 7,oM 35 8,o 36 (.bin .shl (.k (.int .u64 1)) (.t 35)),o 37 (.bin .or (.t 34) (.t 36)),oM 7 37]) (.skip))))) na))
def iE:SC:=.ops [oA 39 14,oM 14 39]
def iD:SC:=sQ [o 15 (.bin .lss (.t 14) (.t 13))] (.seq (.cond (.t 15) (.skip) (.exit 0)) (.seq (.blk 1 (sQ [oM 16 0,oN 17 16,oK 18 0] (.blk 2 (.loop iG)))) iE))
def iH:SC:=sQ [oM 40 7,oM 6 40] (.ret)
def ij:SF:=⟨41,[.tm 6],sQ [o 6 (.mv (.k (.int .u64 0)))] (sQ [oM 10 1,o 11 (.bin .shl (.k (.int .u64 1)) (.t 10)),oM 7 11] (.seq (sQ [oM 12 0,oN 13 12,oK 14 0] (.blk 0 (.loop iD))) iH))⟩
def fI:SF:=⟨34,[.tm 8,.tm 9],sQ [o 8 (.mv (.k (.bool false))),oK 9 0] (sQ [oM 13 0,o 14 (.call N.ax [.t 13]),oM 12 14,o 15 (.ext (.t 12) 0),o 16 (.ext (.t 12) 1),o 10 (.alloc [.nils,.nils]),oz (.store 2 (.t 10) (.t 15)),oM 11 16] (.seq (sQ [oM 17 11,o 18 (.bin .neq (.t 17) (qI 0))] (.cond (.t 18) (sQ [oM 19 11,o 8 (.mv (.k (.bool false))),oM 9 19] (.ret)) (.skip))) (.seq (sQ [o 20 (.load true 2 (.t 10)),oM 21 1,oM 22 2,oM 23 3,o 24 (.bsl 1 3 [.int .u64 0] [0,1,2] [.t 21,.t 22,.t 23]),o 25 (.call N.au [.t 20,.t 24]),o 26 (.not (.t 25))] (.cond (.t 26) (sQ [o 8 (.mv (.k (.bool false))),oK 9 2] (.ret)) (.skip))) (sQ [o 27 (.load true 2 (.t 10)),oM 28 1,oM 29 3,o 30 (.call N.aN [.t 27,.t 28,.t 29]),oM 31 2,o 32 (.bin .and (.t 30) (.t 31)),o 33 (.bin .eql (.t 32) (.k (.int .u64 0))),oM 8 33,oK 9 0] (.ret)))))⟩
def gA:SC:=sQ [o 13 (.bin .lss (.t 12) (.t 11))] (.seq (.cond (.t 13) (.skip) (.exit 0)) (.seq (.blk 1 (sQ [oM 14 12,oM 6 14] (.ops [oM 15 5,oM 16 6,oX 17 15 16,oL 18 17,oM 19 1,o 20 (.bin .andNot (.t 18) (.t 19)),oX 21 15 16,oz (.store 1 (.t 21) (.t 20))]))) (.ops [oA 22 12,oM 12 22])))
def gw:SC:=sQ [oM 23 5,oM 4 23] (.ret)
def fA:SF:=⟨24,[.tm 4],sQ [o 4 (.mv (.k (.nils)))] (sQ [o 7 (.bsl 1 0 [.int .u64 0] [] []),oM 8 0,o 9 (.app 1 8 (.t 7) (.t 8)),oM 5 9] (.seq (sQ [oM 10 5,oN 11 10,oK 12 0] (.blk 0 (.loop gA))) gw))⟩
def pp:SC:=.ops [oM 17 6,oA 18 17,oM 6 18]
def pz:SC:=.seq (sQ [oM 13 6,oM 14 0,oN 15 14,o 16 (.bin .lss (.t 13) (.t 15))] (.cond (.t 16) (.skip) (.exit 2))) (.seq (.blk 3 (sQ [oM 19 0,oM 20 6,oX 21 19 20,oL 22 21,oM 23 1,o 24 (.bin .and (.t 22) (.t 23)),o 25 (.bin .neq (.t 24) (.k (.int .u64 0)))] (.cond (.t 25) (.ops [oM 26 1,oM 27 6,o 28 (.conv .u64 (.t 27)),o 29 (.bin .shl (.k (.int .u64 1)) (.t 28)),o 30 (.bin .or (.t 26) (.t 29)),oM 1 30]) (.skip)))) pp)
def pw:SC:=.ops [oM 11 5,oA 12 11,oM 5 12]
def pi:SC:=.seq (sQ [oM 7 5,oM 8 0,oN 9 8,o 10 (.bin .lss (.t 7) (.t 9))] (.cond (.t 10) (.skip) (.exit 0))) (.seq (.blk 1 (sQ [oK 6 0] (.blk 2 (.loop pz)))) pw)
def j8:SC:=sQ [oM 31 1,oM 4 31] (.ret)
def jH:SF:=⟨32,[.tm 4],sQ [o 4 (.mv (.k (.int .u64 0)))] (.seq (sQ [oK 5 0] (.blk 0 (.loop pi))) j8)⟩
def iO:SF:=⟨16,[.tm 8],sQ [o 8 (.mv (.k (.bool false)))] (sQ [oM 9 0,oM 10 1,oM 11 3,o 12 (.call N.aK [.t 9,.t 10,.t 11]),oM 13 2,o 14 (.bin .and (.t 12) (.t 13)),o 15 (.bin .eql (.t 14) (.k (.int .u64 0))),oM 8 15] (.ret))⟩
def g7:SC:=.seq (sQ [oM 7 6,oM 8 0,oN 9 8,o 10 (.bin .lss (.t 7) (.t 9))] (.cond (.t 10) (.skip) (.exit 0))) (.seq (.blk 1 (.ops [oM 13 5,oM 14 0,oM 15 6,oX 16 14 15,oL 17 16,oM 18 1,o 19 (.bin .andNot (.t 17) (.t 18)),o 20 (.bsl 1 1 [.int .u64 0] [0] [.t 19]),o 21 (.app 1 8 (.t 13) (.t 20)),oM 5 21])) (.ops [oM 11 6,oA 12 11,oM 6 12]))
def g8:SC:=sQ [oM 22 5,oM 4 22] (.ret)
def ge:SF:=⟨23,[.tm 4],sQ [o 4 (.mv (.k (.nils)))] (sQ [o 5 (.mv (.k (.nils)))] (.seq (sQ [oK 6 0] (.blk 0 (.loop g7))) g8))⟩
def fF:SF:=⟨11,[.tm 2],sQ [oK 2 0] (sQ [oM 6 0,o 7 (.call N.ax [.t 6]),oM 5 7,o 8 (.ext (.t 5) 0),o 9 (.ext (.t 5) 1),o 3 (.alloc [.nils,.nils]),oz (.store 2 (.t 3) (.t 8)),oM 4 9] (sQ [oM 10 4,oM 2 10] (.ret)))⟩
def aY:SF:=⟨28,[.tm 6],sQ [o 6 (.mv (.k (.bool false)))] (sQ [oM 7 1,o 8 (.bin .geq (.t 7) (qI 0)),oM 9 8,og 10 9 true (.mv (.t 1)),og 11 9 true (.mv (.t 0)),og 12 9 true (.bin .lss (.t 10) (.t 11)),o 13 (.pick (.t 9) (.t 12) (.k (.bool false))),oM 14 13,og 15 14 true (.mv (.t 2)),og 16 14 true (.bin .geq (.t 15) (qI 0)),o 17 (.pick (.t 14) (.t 16) (.k (.bool false))),oM 18 17,og 19 18 true (.mv (.t 2)),og 20 18 true (.mv (.t 0)),og 21 18 true (.bin .lss (.t 19) (.t 20)),o 22 (.pick (.t 18) (.t 21) (.k (.bool false))),oM 23 22,og 24 23 true (.mv (.t 1)),og 25 23 true (.mv (.t 2)),og 26 23 true (.bin .neq (.t 24) (.t 25)),o 27 (.pick (.t 23) (.t 26) (.k (.bool false))),oM 6 27] (.ret))⟩
def du:SF:=⟨8,[.tm 2],sQ [oK 2 0] (.seq (.cond (.k (.bool false)) (sQ [oM 3 0,o 4 (.conv .u32 (.t 3)),o 5 (.call N.aZ [.t 4]),oM 2 5] (.ret)) (.skip)) (sQ [oM 6 0,o 7 (.call N.aE [.t 6]),oM 2 7] (.ret)))⟩
def gy:SC:=sQ [o 10 (.bin .lss (.t 9) (.t 8))] (.seq (.cond (.t 10) (.skip) (.exit 0)) (.seq (.blk 1 (sQ [oX 11 7 9,oL 12 11,oM 6 12] (sQ [oM 13 6,oM 14 0,o 15 (.bin .andNot (.t 13) (.t 14)),o 16 (.bin .eql (.t 15) (.k (.int .u64 0)))] (.cond (.t 16) (sQ [o 4 (.mv (.k (.bool true)))] (.ret)) (.skip))))) (.ops [oA 17 9,oM 9 17])))
def gt:SC:=sQ [o 4 (.mv (.k (.bool false)))] (.ret)
def fy:SF:=⟨18,[.tm 4],sQ [o 4 (.mv (.k (.bool false)))] (.seq (sQ [oM 7 1,oN 8 7,oK 9 0] (.blk 0 (.loop gy))) gt)⟩
def mw:SC:=.ops [oM 7 4,oA 8 7,oM 4 8]
def mu:SC:=.seq (sQ [oM 5 4,o 6 (.bin .lss (.t 5) (qI 64))] (.cond (.t 6) (.skip) (.exit 0))) (.seq (.blk 1 (sQ [oM 9 0,oM 10 4,o 11 (.call N.aa [.t 9,.t 10])] (.cond (.t 11) (.ops [oM 12 3,oM 13 4,o 14 (.bsl 1 1 [.int .i64 0] [0] [.t 13]),o 15 (.app 1 8 (.t 12) (.t 14)),oM 3 15]) (.skip)))) mw)
def gU:SC:=sQ [oM 16 3,oM 2 16] (.ret)
def gf:SF:=⟨17,[.tm 2],sQ [o 2 (.mv (.k (.nils)))] (sQ [o 3 (.mv (.k (.nils)))] (.seq (sQ [oK 4 0] (.blk 0 (.loop mu))) gU))⟩
def mg:SC:=.seq (sQ [oM 4 3,oM 5 0,oN 6 5,o 7 (.bin .lss (.t 4) (.t 6))] (.cond (.t 7) (.skip) (.exit 0))) (.seq (.blk 1 (sQ [oM 10 0,oM 11 0,oM 12 3,oX 13 11 12,oL 14 13,o 15 (.call N.aP [.t 10,.t 14]),oM 16 3,o 17 (.call N.aa [.t 15,.t 16])] (.cond (.t 17) (sQ [o 2 (.mv (.k (.bool false)))] (.ret)) (.skip)))) (.ops [oM 8 3,oA 9 8,oM 3 9]))
def g_:SC:=sQ [o 2 (.mv (.k (.bool true)))] (.ret)
def gi:SF:=⟨18,[.tm 2],sQ [o 2 (.mv (.k (.bool false)))] (.seq (sQ [oK 3 0] (.blk 0 (.loop mg))) g_)⟩
def mo:SF:=⟨11,[.tm 4],sQ [o 4 (.mv (.k (.bool false)))] (sQ [oM 5 0,oM 6 1,o 7 (.conv .u64 (.t 6)),o 8 (.bin .shr (.t 5) (.t 7)),o 9 (.bin .and (.t 8) (.k (.int .u64 1))),o 10 (.bin .eql (.t 9) (.k (.int .u64 1))),oM 4 10] (.ret))⟩
def d_:SC:=sQ [o 44 (.bin .lss (.t 43) (.t 42))] (.seq (.cond (.t 44) (.skip) (.exit 2)) (.seq (.blk 3 (sQ [oM 45 43,oM 7 45] (.feet [0,1,0,7,15,0,0,96,224,0,992,2047,4095,8191] [oF 46 1 4,oL 47 46,oM 48 7,oX 49 47 48,oL 50 49,oM 51 6,oM 52 7,o 53 (.bin .shr (.t 51) (.t 52)),o 54 (.bin .and (.t 53) (.k (.int .u64 1))),oM 55 5,o 56 (.bin .shl (.t 54) (.t 55)),o 57 (.bin .or (.t 50) (.t 56)),oX 58 47 48,oz (.store 1 (.t 58) (.t 57))]))) (.ops [oA 59 43,oM 43 59])))
def ii:SC:=.ops [oA 60 30,oM 30 60]
def ei:SC:=sQ [o 31 (.bin .lss (.t 30) (.t 29))] (.seq (.cond (.t 31) (.skip) (.exit 0)) (.seq (.blk 1 (sQ [oM 32 30,oX 33 28 30,oL 34 33,oM 5 32,oM 6 34] (.seq (sQ [oM 35 6,oM 36 0,oN 37 36,o 38 (.bin .shr (.t 35) (.t 37)),o 39 (.bin .neq (.t 38) (.k (.int .u64 0)))] (.cond (.t 39) (sQ [o 40 (.build [.nils,.nils] [] []),oz (.store 2 (.t 2) (.t 40)),oK 3 70] (.ret)) (.skip))) (sQ [oM 41 0,oN 42 41,oK 43 0] (.blk 2 (.loop d_)))))) ii))
def eg:SC:=sQ [o 72 (.bin .lss (.t 71) (.t 70))] (.seq (.cond (.t 72) (.skip) (.exit 6)) (.seq (.blk 7 (sQ [oM 73 71,oX 74 69 71,oL 75 74,oM 9 73,oM 10 75] (sQ [oM 76 8,oM 77 9,o 78 (.bin .shr (.t 76) (.t 77)),o 79 (.bin .and (.t 78) (.k (.int .u64 1))),o 80 (.bin .eql (.t 79) (.k (.int .u64 0))),oM 81 80,og 82 81 true (.mv (.t 10)),og 83 81 true (.mv (.t 8)),og 84 81 true (.bin .andNot (.t 82) (.t 83)),og 85 81 true (.bin .eql (.t 84) (.k (.int .u64 0))),o 86 (.pick (.t 81) (.t 85) (.k (.bool false)))] (.cond (.t 86) (sQ [oM 87 8,oM 88 9,o 89 (.bin .shl (.k (.int .u64 1)) (.t 88)),o 90 (.bin .or (.t 87) (.t 89)),oM 8 90] (.exit 5)) (.skip))))) (.ops [oA 91 71,oM 71 91])))
def gX:SC:=sQ [o 92 (.build [.nils,.nils] [] []),oz (.store 2 (.t 2) (.t 92)),oK 3 70] (.ret)
def hQ:SC:=.ops [oA 93 65,oM 65 93]
def ed:SC:=sQ [o 66 (.bin .lss (.t 65) (.t 64))] (.seq (.cond (.t 66) (.skip) (.exit 4)) (.seq (.blk 5 (.seq (sQ [oF 67 0 4,oF 68 0 67,oL 69 68,oN 70 69,oK 71 0] (.blk 6 (.loop eg))) gX)) hQ))
def ig:SC:=sQ [o 94 (.load true 2 (.t 4)),oz (.store 2 (.t 2) (.t 94)),oK 3 0] (.ret)
def g9:SC:=sQ [o 8 (.mv (.k (.int .u64 0)))] (.seq (.skip) (.seq (sQ [oF 61 0 4,oF 62 0 61,oL 63 62,oN 64 63,oK 65 0] (.blk 4 (.loop ed))) ig))
def da:SC:=.seq (sQ [oM 11 0,oN 12 11,o 13 (.bin .lss (.t 12) (qI 1)),oM 14 13,og 15 14 false (.mv (.t 0)),og 16 14 false (.len .slice (.t 15)),og 17 14 false (.bin .gtr (.t 16) (qI 8)),o 18 (.pick (.t 14) (.k (.bool true)) (.t 17))] (.cond (.t 18) (sQ [o 19 (.build [.nils,.nils] [] []),oz (.store 2 (.t 2) (.t 19)),oK 3 70] (.ret)) (.skip))) (sQ [oM 20 0,o 21 (.build [.nils] [(0,1)] [.t 20]),oM 22 0,oN 23 22,o 24 (.mks 1 8 [.int .u64 0] (.t 23) (.t 23)),o 25 (.build [.nils,.nils] [(0,1),(1,1)] [.t 21,.t 24]),o 4 (.alloc [.nils,.nils]),oz (.store 2 (.t 4) (.t 25))] (.seq (sQ [oF 26 0 4,oF 27 0 26,oL 28 27,oN 29 28,oK 30 0] (.blk 0 (.loop ei))) g9))
def cK:SF:=⟨95,[.cell true 2 2,.tm 3],sQ [o 2 (.alloc [.nils,.nils]),oK 3 0] da⟩
def cN:SC:=sQ [o 11 (.bin .lss (.t 10) (.t 9))] (.seq (.cond (.t 11) (.skip) (.exit 0)) (.seq (.blk 1 (sQ [oX 12 8 10,oL 13 12,oM 7 13] (.seq (sQ [oM 14 7,oF 15 0 2,oF 16 0 15,oL 17 16,oN 18 17,o 19 (.bin .shr (.t 14) (.t 18)),o 20 (.bin .neq (.t 19) (.k (.int .u64 0))),oM 21 20,og 22 21 false (.mv (.t 7)),og 23 21 false (.mv (.t 5)),og 24 21 false (.bin .and (.t 22) (.t 23)),og 25 21 false (.bin .neq (.t 24) (.k (.int .u64 0))),o 26 (.pick (.t 21) (.k (.bool true)) (.t 25))] (.cond (.t 26) (sQ [o 4 (.mv (.k (.bool false)))] (.ret)) (.skip))) (.ops [oM 27 5,oM 28 7,o 29 (.bin .or (.t 27) (.t 28)),oM 5 29])))) (.ops [oA 30 10,oM 10 30])))
def cH:SC:=sQ [o 4 (.mv (.k (.bool true)))] (.ret)
def c_:SC:=sQ [o 5 (.mv (.k (.int .u64 0)))] (.seq (sQ [oM 8 1,oN 9 8,oK 10 0] (.blk 0 (.loop cN))) cH)
def bU:SF:=⟨31,[.tm 4],sQ [o 2 (.box (.t 0)),o 4 (.mv (.k (.bool false)))] c_⟩
def dM:SC:=.ops [oA 38 25,oM 25 38]
def dJ:SC:=sQ [o 26 (.bin .lss (.t 25) (.t 24))] (.seq (.cond (.t 26) (.skip) (.exit 2)) (.seq (.blk 3 (sQ [oM 27 25,oX 28 23 25,oL 29 28,oM 8 27,oM 9 29] (sQ [oL 30 7,oM 31 8,o 32 (.bin .shr (.t 30) (.t 31)),o 33 (.bin .and (.t 32) (.k (.int .u64 1))),o 34 (.bin .eql (.t 33) (.k (.int .u64 1)))] (.cond (.t 34) (.ops [oL 35 7,oM 36 9,o 37 (.bin .or (.t 35) (.t 36)),oz (.store 1 (.t 7) (.t 37))]) (.skip))))) dM))
def iz:SC:=.ops [oA 39 19,oM 19 39]
def it:SC:=sQ [o 20 (.bin .lss (.t 19) (.t 18))] (.seq (.cond (.t 20) (.skip) (.exit 0)) (.seq (.blk 1 (sQ [oF 21 0 3,oF 22 0 21,oL 23 22,oN 24 23,oK 25 0] (.blk 2 (.loop dJ)))) iz))
def dL:SC:=.ops [oM 13 44]
def dI:SC:=.blk 5 (.ops [oL 45 12,oM 46 13,o 47 (.build [.int .i64 0,.bool false] [(0,1),(1,1)] [.t 46,.k (.bool false)]),o 48 (.dyn (.t 45) [.t 47])])
def dK:SC:=sQ [oL 49 10,oM 6 49] (.ret)
def bm:SC:=sQ [o 40 (.raw (.makeMap 192 none)),o 10 (.alloc [.int .u64 0]),o 11 (.alloc [.nilm]),oz (.store 1 (.t 10) (.k (.int .u64 0))),oz (.store 1 (.t 11) (.t 40))] (sQ [o 12 (.alloc [.nilf])] (sQ [o 41 (.mkf N.aL [] [.t 11,.t 5,.t 10,.t 3,.t 12,.t 7]),oz (.store 1 (.t 12) (.t 41))] (.seq (sQ [oM 42 1,o 43 (.call N.ae [.t 42])] (.blk 4 (.rng 50 (.t 43) [44] dL dI))) dK)))
def dQ:SC:=sQ [oL 14 5,o 7 (.alloc [.int .u64 0]),oz (.store 1 (.t 7) (.t 14))] (.seq (sQ [oF 15 0 3,oF 16 0 15,oL 17 16,oN 18 17,oK 19 0] (.blk 0 (.loop it))) bm)
def cy:SF:=⟨50,[.tm 6],sQ [o 3 (.box (.t 0)),o 5 (.box (.t 2)),o 6 (.mv (.k (.int .u64 0)))] dQ⟩
def jm:SC:=.ops [oM 13 8,oA 14 13,oM 8 14]
def jh:SC:=.seq (sQ [oM 9 8,oM 10 0,oN 11 10,o 12 (.bin .lss (.t 9) (.t 11))] (.cond (.t 12) (.skip) (.exit 0))) (.seq (.blk 1 (sQ [oM 15 1,oM 16 8,o 17 (.call N.aa [.t 15,.t 16])] (.cond (.t 17) (.ops [oM 18 7,oM 19 0,oM 20 8,o 21 (.bsl 1 1 [.int .i64 0] [0] [.t 20]),oM 22 2,o 23 (.call N.az [.t 19,.t 21,.t 22]),o 24 (.bin .or (.t 18) (.t 23)),oM 7 24]) (.skip)))) jm)
def jn:SC:=sQ [oM 25 7,oM 6 25] (.ret)
def iX:SF:=⟨26,[.tm 6],sQ [o 6 (.mv (.k (.int .u64 0)))] (sQ [o 7 (.mv (.k (.int .u64 0)))] (.seq (sQ [oK 8 0] (.blk 0 (.loop jh))) jn))⟩
def cE:SF:=⟨35,[.tm 2],sQ [oK 2 0] (sQ [oM 3 0,o 4 (.bin .shr (.t 3) (.k (.int .u64 1))),o 5 (.bin .and (.t 4) (.k (.int .u64 6148914691236517205))),oM 6 0,o 7 (.bin .and (.t 6) (.k (.int .u64 6148914691236517205))),o 8 (.bin .add (.t 5) (.t 7)),oM 0 8] (sQ [oM 9 0,o 10 (.bin .shr (.t 9) (.k (.int .u64 2))),o 11 (.bin .and (.t 10) (.k (.int .u64 3689348814741910323))),oM 12 0,o 13 (.bin .and (.t 12) (.k (.int .u64 3689348814741910323))),o 14 (.bin .add (.t 11) (.t 13)),oM 0 14] (sQ [oM 15 0,o 16 (.bin .shr (.t 15) (.k (.int .u64 4))),oM 17 0,o 18 (.bin .add (.t 16) (.t 17)),o 19 (.bin .and (.t 18) (.k (.int .u64 1085102592571150095))),oM 0 19] (sQ [oM 20 0,oM 21 0,o 22 (.bin .shr (.t 21) (.k (.int .u64 8))),o 23 (.bin .add (.t 20) (.t 22)),oM 0 23] (sQ [oM 24 0,oM 25 0,o 26 (.bin .shr (.t 25) (.k (.int .u64 16))),o 27 (.bin .add (.t 24) (.t 26)),oM 0 27] (sQ [oM 28 0,oM 29 0,o 30 (.bin .shr (.t 29) (.k (.int .u64 32))),o 31 (.bin .add (.t 28) (.t 30)),oM 0 31] (sQ [oM 32 0,o 33 (.conv .i64 (.t 32)),o 34 (.bin .and (.t 33) (qI 127)),oM 2 34] (.ret))))))))⟩
def rF:SC:=.ops [oM 17 6,oA 18 17,oM 6 18]
def qX:SC:=.seq (sQ [oM 13 6,oM 14 0,oN 15 14,o 16 (.bin .lss (.t 13) (.t 15))] (.cond (.t 16) (.skip) (.exit 2))) (.seq (.blk 3 (sQ [oM 19 1,oM 20 6,o 21 (.call N.aa [.t 19,.t 20])] (.cond (.t 21) (.ops [oM 22 1,oM 23 0,oM 24 6,oX 25 23 24,oL 26 25,o 27 (.bin .or (.t 22) (.t 26)),oM 1 27]) (.skip)))) rF)
def rL:SC:=.ops [oM 11 5,oA 12 11,oM 5 12]
def rE:SC:=.seq (sQ [oM 7 5,oM 8 0,oN 9 8,o 10 (.bin .lss (.t 7) (.t 9))] (.cond (.t 10) (.skip) (.exit 0))) (.seq (.blk 1 (sQ [oK 6 0] (.blk 2 (.loop qX)))) rL)
def l_:SC:=sQ [oM 28 1,oM 4 28] (.ret)
def mD:SF:=⟨29,[.tm 4],sQ [o 4 (.mv (.k (.int .u64 0)))] (.seq (sQ [oK 5 0] (.blk 0 (.loop rE))) l_)⟩
def bb:SC:=.ops [oM 8 33]
def a_:SC:=.blk 1 (.ops [oL 34 5,oM 35 8,o 36 (.build [.int .i64 0,.bool false] [(0,1),(1,1)] [.t 35,.k (.bool true)]),o 37 (.dyn (.t 34) [.t 36])])
def bc:SC:=.ops [oM 9 69]
def ba:SC:=.blk 3 (.ops [oL 70 5,oM 71 9,o 72 (.build [.int .i64 0,.bool false] [(0,1),(1,1)] [.t 71,.k (.bool false)]),o 73 (.dyn (.t 70) [.t 72])])
def be:SC:=.seq (sQ [oF 38 1 7,oL 39 38,oM 40 39,og 41 40 true (.load false 1 (.t 6)),og 42 40 true (.fad 0 (.t 7)),og 43 40 true (.load false 1 (.t 42)),og 44 40 true (.bin .shr (.t 41) (.t 43)),og 45 40 true (.bin .and (.t 44) (.k (.int .u64 1))),og 46 40 true (.bin .eql (.t 45) (.k (.int .u64 0))),o 47 (.pick (.t 40) (.t 46) (.k (.bool false))),oM 48 47,og 49 48 false (.fad 1 (.t 7)),og 50 48 false (.load false 1 (.t 49)),og 51 48 false (.not (.t 50)),og 52 48 false (.mv (.t 51)),og 53 52 true (.load false 1 (.t 2)),og 54 52 true (.fad 0 (.t 7)),og 55 52 true (.load false 1 (.t 54)),og 56 52 true (.bin .shr (.t 53) (.t 55)),og 57 52 true (.bin .and (.t 56) (.k (.int .u64 1))),og 58 52 true (.bin .eql (.t 57) (.k (.int .u64 1))),og 59 48 false (.pick (.t 52) (.t 58) (.k (.bool false))),o 60 (.pick (.t 48) (.k (.bool true)) (.t 59))] (.cond (.t 60) (.ret) (.skip))) (sQ [oF 61 0 4,oF 62 0 61,oL 63 62,oF 64 0 7,oL 65 64,oX 66 63 65,oL 67 66,o 68 (.call N.ae [.t 67])] (.blk 2 (.rng 74 (.t 68) [69] bc ba)))
def dl:SC:=.seq (sQ [oL 10 1,o 11 (.load true 2 (.t 7)),o 12 (.raw (.lookup 192 (.tmp 10) (.tmp 11) false))] (.cond (.t 12) (.ret) (.skip))) (sQ [oL 13 1,o 14 (.load true 2 (.t 7)),oz (.raw (.mapUpdate 192 (.tmp 13) (.tmp 14) (.const (.bool true))))] (.seq (sQ [oL 15 2,oF 16 0 7,oL 17 16,o 18 (.bin .shr (.t 15) (.t 17)),o 19 (.bin .and (.t 18) (.k (.int .u64 1))),o 20 (.bin .eql (.t 19) (.k (.int .u64 0)))] (.cond (.t 20) (.seq (.feet [0,0,2,6,15,31] [oL 21 3,oF 22 0 7,oL 23 22,o 24 (.bin .shl (.k (.int .u64 1)) (.t 23)),o 25 (.bin .or (.t 21) (.t 24)),oz (.store 1 (.t 3) (.t 25))]) (sQ [oF 26 1 4,oL 27 26,oF 28 0 7,oL 29 28,oX 30 27 29,oL 31 30,o 32 (.call N.ae [.t 31])] (.blk 0 (.rng 74 (.t 32) [33] bb a_)))) (.skip))) be))
def cj:SF:=⟨74,[],sQ [o 7 (.box (.t 0))] dl⟩
def f7:SC:=sQ [o 3 (.mkf N.af [] [.t 1]),oM 2 3] (.ret)
def eo:SF:=⟨4,[.tm 2],sQ [o 1 (.box (.t 0)),o 2 (.mv (.k (.nilf)))] f7⟩
def gk:SC:=.seq (sQ [oM 51 11,oM 52 1,oN 53 52,o 54 (.bin .lss (.t 51) (.t 53))] (.cond (.t 54) (.skip) (.exit 2))) (.seq (.blk 3 (.ops [oM 57 10,oM 58 57,og 59 58 true (.mv (.t 1)),og 60 58 true (.mv (.t 11)),og 61 58 true (.ixs 1 (.t 59) (.t 60)),og 62 58 true (.load false 1 (.t 61)),og 63 58 true (.mv (.t 9)),og 64 58 true (.bin .neq (.t 62) (.t 63)),o 65 (.pick (.t 58) (.t 64) (.k (.bool false))),oM 10 65])) (.ops [oM 55 11,oA 56 55,oM 11 56]))
def gc:SC:=sQ [oM 66 10] (.cond (.t 66) (sQ [o 12 (.mv (.k (.nils)))] (.ops [oM 67 7,oM 68 0,oM 69 12,oM 70 1,o 71 (.app 1 8 (.t 69) (.t 70)),oM 72 9,o 73 (.bsl 1 1 [.int .i64 0] [0] [.t 72]),o 74 (.app 1 8 (.t 71) (.t 73)),oM 75 2,o 76 (.call N.az [.t 68,.t 74,.t 75]),o 77 (.bin .or (.t 67) (.t 76)),oM 7 77])) (.skip))
def jW:SC:=.ops [oM 35 9,oA 36 35,oM 9 36]
def j6:SC:=.seq (sQ [oM 31 9,oM 32 0,oN 33 32,o 34 (.bin .lss (.t 31) (.t 33))] (.cond (.t 34) (.skip) (.exit 0))) (.seq (.blk 1 (sQ [oM 37 0,oM 38 9,oX 39 37 38,oL 40 39,oM 41 8,o 42 (.call N.aa [.t 40,.t 41]),oM 43 42,og 44 43 false (.mv (.t 0)),og 45 43 false (.mv (.t 8)),og 46 43 false (.ixs 1 (.t 44) (.t 45)),og 47 43 false (.load false 1 (.t 46)),og 48 43 false (.mv (.t 9)),og 49 43 false (.call N.aa [.t 47,.t 48]),o 50 (.pick (.t 43) (.k (.bool true)) (.t 49)),oM 10 50] (.seq (sQ [oK 11 0] (.blk 2 (.loop gk))) gc))) jW)
def jY:SC:=sQ [oM 78 7,oM 6 78] (.ret)
def gg:SC:=.seq (sQ [oK 9 0] (.blk 0 (.loop j6))) jY
def eM:SF:=⟨79,[.tm 6],sQ [o 6 (.mv (.k (.int .u64 0)))] (.seq (sQ [oM 13 0,oM 14 1,oM 15 2,o 16 (.call N.aU [.t 13,.t 14,.t 15]),o 17 (.not (.t 16))] (.cond (.t 17) (sQ [o 6 (.mv (.k (.int .u64 0)))] (.ret)) (.skip))) (sQ [o 7 (.mv (.k (.int .u64 0)))] (sQ [oM 18 1,oM 19 1,oN 20 19,o 21 (.bin .sub (.t 20) (qI 1)),oX 22 18 21,oL 23 22,oM 8 23] (.seq (sQ [oM 24 2,oM 25 8,o 26 (.call N.aa [.t 24,.t 25]),o 27 (.not (.t 26))] (.cond (.t 27) (.ops [oM 28 8,o 29 (.conv .u64 (.t 28)),o 30 (.bin .shl (.k (.int .u64 1)) (.t 29)),oM 7 30]) (.skip))) gg))))⟩
def eB:SC:=.seq (sQ [oM 5 3,o 6 (.bin .neq (.t 5) (.k (.int .u64 0)))] (.cond (.t 6) (.skip) (.exit 0))) (.seq (.blk 1 (sQ [oM 11 0,oM 12 3,o 13 (.call N.aJ [.t 12]),o 14 (.dyn (.t 11) [.t 13]),o 15 (.not (.t 14))] (.cond (.t 15) (.ret) (.skip)))) (.ops [oM 7 3,oM 8 3,o 9 (.bin .sub (.t 8) (.k (.int .u64 1))),o 10 (.bin .and (.t 7) (.t 9)),oM 3 10]))
def a9:SF:=⟨16,[],sQ [oL 4 1,oM 3 4] (.blk 0 (.loop eB))⟩
def cd:SF:=⟨8,[.tm 2],sQ [oK 2 0] (.seq (.cond (.k (.bool false)) (sQ [oM 3 0,o 4 (.conv .u32 (.t 3)),o 5 (.call N.a7 [.t 4]),oM 2 5] (.ret)) (.skip)) (sQ [oM 6 0,o 7 (.call N.aI [.t 6]),oM 2 7] (.ret)))⟩
def j9:SC:=.ops [oM 14 7,oA 15 14,oM 7 15]
def j_:SC:=.seq (sQ [oM 9 7,oA 10 9,oM 11 1,oN 12 11,o 13 (.bin .lss (.t 10) (.t 12))] (.cond (.t 13) (.skip) (.exit 0))) (.seq (.blk 1 (sQ [oM 16 1,oM 17 7,oX 18 16 17,oL 19 18,oM 8 19] (sQ [oM 20 0,oM 21 1,oM 22 7,o 23 (.call N.aH [.t 20,.t 21,.t 22])] (.cond (.t 23) (sQ [oM 24 0,oM 25 8,o 26 (.conv .u64 (.t 25)),o 27 (.bin .shl (.k (.int .u64 1)) (.t 26)),o 28 (.call N.ap [.t 24,.t 27]),oM 29 2,o 30 (.bin .and (.t 28) (.t 29)),o 31 (.bin .eql (.t 30) (.k (.int .u64 0)))] (.cond (.t 31) (sQ [o 6 (.mv (.k (.bool false)))] (.ret)) (.skip))) (sQ [oM 32 2,oM 33 8,o 34 (.call N.aa [.t 32,.t 33])] (.cond (.t 34) (sQ [o 6 (.mv (.k (.bool false)))] (.ret)) (.skip))))))) j9)
def jV:SC:=sQ [o 6 (.mv (.k (.bool true)))] (.ret)
def jE:SF:=⟨35,[.tm 6],sQ [o 6 (.mv (.k (.bool false)))] (.seq (sQ [oK 7 1] (.blk 0 (.loop j_))) jV)⟩
def bL:SF:=⟨14,[.tm 2],sQ [oK 2 0] (.seq (sQ [oM 3 0,o 4 (.bin .eql (.t 3) (.k (.int .u64 0)))] (.cond (.t 4) (sQ [oK 2 64] (.ret)) (.skip))) (sQ [oM 5 0,oM 6 0,o 7 (.un .neg (.t 6)),o 8 (.bin .and (.t 5) (.t 7)),o 9 (.bin .mul (.t 8) (.k (.int .u64 285870213051353865))),o 10 (.bin .shr (.t 9) (.k (.int .u64 58))),o 11 (.ixa 64 1 (.k (.tptr 0 64 [[.int .u8 0,.int .u8 1,.int .u8 56,.int .u8 2,.int .u8 57,.int .u8 49,.int .u8 28,.int .u8 3,.int .u8 61,.int .u8 58,.int .u8 42,.int .u8 50,.int .u8 38,.int .u8 29,.int .u8 17,.int .u8 4,.int .u8 62,.int .u8 47,.int .u8 59,.int .u8 36,.int .u8 45,.int .u8 43,.int .u8 51,.int .u8 22,.int .u8 53,.int .u8 39,.int .u8 33,.int .u8 30,.int .u8 24,.int .u8 18,.int .u8 12,.int .u8 5,.int .u8 63,.int .u8 55,.int .u8 48,.int .u8 27,.int .u8 60,.int .u8 41,.int .u8 37,.int .u8 16,.int .u8 46,.int .u8 35,.int .u8 44,.int .u8 21,.int .u8 52,.int .u8 32,.int .u8 23,.int .u8 11,.int .u8 54,.int .u8 26,.int .u8 40,.int .u8 15,.int .u8 34,.int .u8 20,.int .u8 31,.int .u8 10,.int .u8 25,.int .u8 14,.int .u8 19,.int .u8 9,.int .u8 13,.int .u8 8,.int .u8 7,.int .u8 6]] 0 0)) (.t 10)),oL 12 11,o 13 (.conv .i64 (.t 12)),oM 2 13] (.ret)))⟩
def fD:SF:=⟨35,[.tm 6],sQ [o 6 (.mv (.k (.bool false)))] (.seq (.quiet [oM 7 0,oM 8 1,oM 9 2,oX 10 8 9,oL 11 10,oX 12 7 11,oL 13 12,oM 14 1,oM 15 2,o 16 (.bin .sub (.t 15) (qI 1)),oX 17 14 16,oL 18 17,o 19 (.call N.aa [.t 13,.t 18]),oM 20 19,og 21 20 true (.mv (.t 0)),og 22 20 true (.mv (.t 1)),og 23 20 true (.mv (.t 2)),og 24 20 true (.ixs 1 (.t 22) (.t 23)),og 25 20 true (.load false 1 (.t 24)),og 26 20 true (.ixs 1 (.t 21) (.t 25)),og 27 20 true (.load false 1 (.t 26)),og 28 20 true (.mv (.t 1)),og 29 20 true (.mv (.t 2)),og 30 20 true (.bin .add (.t 29) (qI 1)),og 31 20 true (.ixs 1 (.t 28) (.t 30)),og 32 20 true (.load false 1 (.t 31)),og 33 20 true (.call N.aa [.t 27,.t 32]),o 34 (.pick (.t 20) (.t 33) (.k (.bool false))),oM 6 34]) (.ret))⟩
theorem lY:nFn C0 N.aX=some d7:=by kernel_rfl
theorem py:nFn C0 N.aG=some hZ:=by kernel_rfl
theorem mZ (d:Nat)(xs:List AV)(g:G):ap C0 d N.aG xs g=ah (I C0) d g N.aG xs:=by kernel_rfl
theorem nV:nFn C0 N.aA=some cM:=by kernel_rfl
theorem mH (d:Nat)(xs:List AV)(g:G):ap C0 d N.aA xs g=ah (I C0) d g N.aA xs:=by kernel_rfl
theorem nc:nFn C0 N.an=some dF:=by kernel_rfl
theorem lT (d:Nat)(xs:List AV)(g:G):ap C0 d N.an xs g=ah (I C0) d g N.an xs:=by kernel_rfl
theorem lR:nFn C0 N.aO=some br:=by kernel_rfl
theorem ke (d:Nat)(xs:List AV)(g:G):ap C0 d N.aO xs g=ah (I C0) d g N.aO xs:=by kernel_rfl
theorem rH:nFn C0 N.aD=some jP:=by kernel_rfl
theorem pA (d:Nat)(xs:List AV)(g:G):ap C0 d N.aD xs g=ah (I C0) d g N.aD xs:=by kernel_rfl
theorem mA:nFn C0 N.aF=some e8:=by kernel_rfl
theorem kP (d:Nat)(xs:List AV)(g:G):ap C0 d N.aF xs g=ah (I C0) d g N.aF xs:=by kernel_rfl
theorem qm:nFn C0 N.aT=some bf:=by kernel_rfl
theorem ox (d:Nat)(xs:List AV)(g:G):ap C0 d N.aT xs g=ah (I C0) d g N.aT xs:=by kernel_rfl
theorem qi:nFn C0 N.am=some dV:=by kernel_rfl
theorem oQ (d:Nat)(xs:List AV)(g:G):ap C0 d N.am xs g=ah (I C0) d g N.am xs:=by kernel_rfl
theorem kw:nFn C0 N.aC=some dN:=by kernel_rfl
theorem jG (d:Nat)(xs:List AV)(g:G):ap C0 d N.aC xs g=ah (I C0) d g N.aC xs:=by kernel_rfl
theorem mj:nFn C0 N.ak=some cY:=by kernel_rfl
theorem lu (d:Nat)(xs:List AV)(g:G):ap C0 d N.ak xs g=ah (I C0) d g N.ak xs:=by kernel_rfl
theorem pr:nFn C0 N.ay=some ij:=by kernel_rfl
theorem m_ (d:Nat)(xs:List AV)(g:G):ap C0 d N.ay xs g=ah (I C0) d g N.ay xs:=by kernel_rfl
theorem nU:nFn C0 N.aq=some fI:=by kernel_rfl
theorem lW (d:Nat)(xs:List AV)(g:G):ap C0 d N.aq xs g=ah (I C0) d g N.aq xs:=by kernel_rfl
theorem nq:nFn C0 N.aW=some fA:=by kernel_rfl
theorem lS (d:Nat)(xs:List AV)(g:G):ap C0 d N.aW xs g=ah (I C0) d g N.aW xs:=by kernel_rfl
theorem rG:nFn C0 N.ap=some jH:=by kernel_rfl
theorem po (d:Nat)(xs:List AV)(g:G):ap C0 d N.ap xs g=ah (I C0) d g N.ap xs:=by kernel_rfl
theorem qz:nFn C0 N.aB=some iO:=by kernel_rfl
theorem oT (d:Nat)(xs:List AV)(g:G):ap C0 d N.aB xs g=ah (I C0) d g N.aB xs:=by kernel_rfl
theorem nW:nFn C0 N.aV=some ge:=by kernel_rfl
theorem my (d:Nat)(xs:List AV)(g:G):ap C0 d N.aV xs g=ah (I C0) d g N.aV xs:=by kernel_rfl
theorem nG:nFn C0 N.aR=some fF:=by kernel_rfl
theorem lQ (d:Nat)(xs:List AV)(g:G):ap C0 d N.aR xs g=ah (I C0) d g N.aR xs:=by kernel_rfl
theorem mJ:nFn C0 N.aM=some aY:=by kernel_rfl
theorem kv (d:Nat)(xs:List AV)(g:G):ap C0 d N.aM xs g=ah (I C0) d g N.aM xs:=by kernel_rfl
theorem kh:nFn C0 N.aw=some du:=by kernel_rfl
theorem jc (d:Nat)(xs:List AV)(g:G):ap C0 d N.aw xs g=ah (I C0) d g N.aw xs:=by kernel_rfl
theorem nB:nFn C0 N.ah=some fy:=by kernel_rfl
theorem lU (d:Nat)(xs:List AV)(g:G):ap C0 d N.ah xs g=ah (I C0) d g N.ah xs:=by kernel_rfl
theorem oP:nFn C0 N.aQ=some gf:=by kernel_rfl
theorem mN (d:Nat)(xs:List AV)(g:G):ap C0 d N.aQ xs g=ah (I C0) d g N.aQ xs:=by kernel_rfl
theorem oH:nFn C0 N.aS=some gi:=by kernel_rfl
theorem mT (d:Nat)(xs:List AV)(g:G):ap C0 d N.aS xs g=ah (I C0) d g N.aS xs:=by kernel_rfl
theorem vT:nFn C0 N.aa=some mo:=by kernel_rfl
theorem qZ (d:Nat)(xs:List AV)(g:G):ap C0 d N.aa xs g=ah (I C0) d g N.aa xs:=by kernel_rfl
theorem oC:nFn C0 N.ax=some cK:=by kernel_rfl
theorem mG (d:Nat)(xs:List AV)(g:G):ap C0 d N.ax xs g=ah (I C0) d g N.ax xs:=by kernel_rfl
theorem ie:nFn C0 N.au=some bU:=by kernel_rfl
theorem gq (d:Nat)(xs:List AV)(g:G):ap C0 d N.au xs g=ah (I C0) d g N.au xs:=by kernel_rfl
theorem js:nFn C0 N.aN=some cy:=by kernel_rfl
theorem iq (d:Nat)(xs:List AV)(g:G):ap C0 d N.aN xs g=ah (I C0) d g N.aN xs:=by kernel_rfl
theorem qh:nFn C0 N.aK=some iX:=by kernel_rfl
theorem oD (d:Nat)(xs:List AV)(g:G):ap C0 d N.aK xs g=ah (I C0) d g N.aK xs:=by kernel_rfl
theorem jt:nFn C0 N.aE=some cE:=by kernel_rfl
theorem ir (d:Nat)(xs:List AV)(g:G):ap C0 d N.aE xs g=ah (I C0) d g N.aE xs:=by kernel_rfl
theorem vd:nFn C0 N.aP=some mD:=by kernel_rfl
theorem rJ (d:Nat)(xs:List AV)(g:G):ap C0 d N.aP xs g=ah (I C0) d g N.aP xs:=by kernel_rfl
theorem iB:nFn C0 N.aL=some cj:=by kernel_rfl
theorem lX:nFn C0 N.ae=some eo:=by kernel_rfl
theorem kf (d:Nat)(xs:List AV)(g:G):ap C0 d N.ae xs g=ah (I C0) d g N.ae xs:=by kernel_rfl
theorem rI:nFn C0 N.az=some eM:=by kernel_rfl
theorem pg (d:Nat)(xs:List AV)(g:G):ap C0 d N.az xs g=ah (I C0) d g N.az xs:=by kernel_rfl
theorem kg:nFn C0 N.af=some a9:=by kernel_rfl
theorem iy:nFn C0 N.aJ=some cd:=by kernel_rfl
theorem gD (d:Nat)(xs:List AV)(g:G):ap C0 d N.aJ xs g=ah (I C0) d g N.aJ xs:=by kernel_rfl
theorem rz:nFn C0 N.aU=some jE:=by kernel_rfl
theorem px (d:Nat)(xs:List AV)(g:G):ap C0 d N.aU xs g=ah (I C0) d g N.aU xs:=by kernel_rfl
theorem gK:nFn C0 N.aI=some bL:=by kernel_rfl
theorem fX (d:Nat)(xs:List AV)(g:G):ap C0 d N.aI xs g=ah (I C0) d g N.aI xs:=by kernel_rfl
theorem mW:nFn C0 N.aH=some fD:=by kernel_rfl
theorem lV (d:Nat)(xs:List AV)(g:G):ap C0 d N.aH xs g=ah (I C0) d g N.aH xs:=by kernel_rfl
theorem jX {α:Type}{f:Nat->α->Nat->α->Bool}{i:Nat}{x:α}:∀{l:List α} {j:Nat},(∀b y,l[b]?=some y->f i x (j+b) y=true)->dH f i x j l=true
 | [],_,_=>rfl
 | y::r,j,h=>by
  simp only[dH,Bool.and_eq_true]
  refine ⟨by simpa using h 0 y rfl,jX fun b z hb=>?_⟩
  have:=h (b+1) z (by simpa using hb)
  rwa [show j+(b+1)=j+1+b by omega] at this
theorem o7 {α:Type}{f:Nat->α->Nat->α->Bool}:∀{l:List α} {i:Nat},(∀a b x y,a<b->l[a]?=some x->l[b]?=some y->f (i+a) x (i+b) y=true)->fT f i l=true
 | [],_,_=>rfl
 | x::r,i,h=>by
  simp only[fT,Bool.and_eq_true]
  refine ⟨jX fun b y hb=>?_,o7 fun a b x' y hab ha hb=>?_⟩
  ·have:=h 0 (b+1) x y (by omega) rfl (by simpa using hb)
   rwa [Nat.add_zero,show i+(b+1)=i+1+b by omega] at this
  ·have:=h (a+1) (b+1) x' y (by omega) (by simpa using ha) (by simpa using hb)
   rwa [show i+(a+1)=i+1+a by omega,show i+(b+1)=i+1+b by omega] at this
theorem pd {pm:List Nat}:∀{l:List Foot} {i:Nat},(∀f∈l,f.lk.sr=[])->lr pm i l=true
 | [],_,_=>rfl
 | x::r,i,h=>by
  simp only[lr,h x (by simp)]
  exact pd fun f hf=>h f (by simp[hf])
def BG (pm:List Nat)(ws:List Bool)(L:List (Nat×Nat))(i j:Nat):Bool:=(pm.getD j 0).testBit i || (!(ws.getD i false)&&!(ws.getD j false)) || L.contains (i,j)
def C5 (pm:List Nat)(ws:List Bool)(L:List (Nat×Nat)):Bool:=(List.range ws.length).all fun j=>(List.range j).all fun i=>BG pm ws L i j
theorem mS {pm:List Nat}{fs:List Foot}(ws:List Bool)(L:List (Nat×Nat))(hw:All2 (fun (f:Foot) (w:Bool)=>f.lk.sr=[]/\(w=false->f.wr=[])) fs ws)(hd:C5 pm ws L=true)
  (hL:∀p∈L,∀x y,fs[p.1]?=some x->fs[p.2]?=some y->dj x y=true):jJ pm fs=true:=by
 unfold jJ
 rw[aa,if_pos]
 ·exact pd fun f hf=>by
   obtain ⟨i,hi,rfl⟩:=List.mem_iff_getElem.1 hf
   obtain ⟨w,-,h⟩:=hw.get (List.getElem?_eq_getElem hi)
   exact h.1
 ·refine o7 fun a b x y hab ha hb=>?_
  simp only[Nat.zero_add]
  obtain ⟨wa,hwa,ka⟩:=hw.get ha
  obtain ⟨wb,hwb,kb⟩:=hw.get hb
  have hbl:=(List.getElem?_eq_some_iff.1 hwb).1
  have:=List.all_eq_true.1 (List.all_eq_true.1 hd b (List.mem_range.2 hbl)) a (List.mem_range.2 hab)
  simp only[BG,Bool.or_eq_true] at this
  rcases this with (h | h) | h
  ·rw[h,Bool.true_or]
  ·simp only[List.getD_eq_getElem?_getD,hwa,hwb,Option.getD_some,Bool.and_eq_true,Bool.not_eq_true'] at h
   have ex:=ka.2 h.1
   have ey:=kb.2 h.2
   simp only[dj,jl,gR,ex,ey,Bool.and_self,Bool.or_true]
  ·rw[hL (a,b) (List.contains_iff_mem.1 h) x y ha hb,Bool.or_true]
structure Mech where
 card:Int
 frm:List Int
 noise:List Int
 out:List Int
structure Causal where
 grain:Int
 roots:List (List Int)
 nodes:List Mech
structure Node where
 card:Int
 parents:List Int
 rows:List (List Int)
structure Net where
 grain:Int
 nodes:List Node
structure Factor where
 vars:List Int
 cards:List Int
 w:List Int
instance : Rp Mech:=Rp.via fun m:Mech=>(m.card,m.frm,m.noise,m.out)
instance : Rp Causal:=Rp.via fun m:Causal=>(m.grain,m.roots,m.nodes)
instance : Rp Node:=Rp.via fun m:Node=>(m.card,m.parents,m.rows)
instance : Rp Net:=Rp.via fun m:Net=>(m.grain,m.nodes)
instance : Rp Factor:=Rp.via fun m:Factor=>(m.vars,m.cards,m.w)
section
variable {P:Nat->Prop}{k:Nat}{h:H}{cs:List AV}
theorem xE {m:Mech}:Rp.rp P k h m cs↔∃a b c,cs=[.int .i64 m.card,a,b,c]/\SlR P k h m.frm a/\SlR P k h m.noise b/\SlR P k h m.out c:=by
 constructor
 ·rintro ⟨c1,c2,rfl,h1,d1,d2,rfl,⟨a,rfl,h2⟩,e1,e2,rfl,⟨b,rfl,h3⟩,⟨c,rfl,h4⟩⟩
  rw[bz.1 h1];exact ⟨a,b,c,rfl,h2,h3,h4⟩
 ·rintro ⟨a,b,c,rfl,h2,h3,h4⟩
  exact ⟨[.int .i64 m.card],[a,b,c],rfl,bz.2 rfl,[a],[b,c],rfl,⟨a,rfl,h2⟩,[b],[c],rfl,⟨b,rfl,h3⟩,⟨c,rfl,h4⟩⟩
theorem zA {m:Causal}:Rp.rp P k h m cs↔∃a b,cs=[.int .i64 m.grain,a,b]/\SlR P k h m.roots a/\SlR P k h m.nodes b:=by
 constructor
 ·rintro ⟨c1,c2,rfl,h1,d1,d2,rfl,⟨a,rfl,h2⟩,⟨b,rfl,h3⟩⟩
  rw[bz.1 h1];exact ⟨a,b,rfl,h2,h3⟩
 ·rintro ⟨a,b,rfl,h2,h3⟩
  exact ⟨[.int .i64 m.grain],[a,b],rfl,bz.2 rfl,[a],[b],rfl,⟨a,rfl,h2⟩,⟨b,rfl,h3⟩⟩
theorem C6 {m:Node}:Rp.rp P k h m cs↔∃a b,cs=[.int .i64 m.card,a,b]/\SlR P k h m.parents a/\SlR P k h m.rows b:=by
 constructor
 ·rintro ⟨c1,c2,rfl,h1,d1,d2,rfl,⟨a,rfl,h2⟩,⟨b,rfl,h3⟩⟩
  rw[bz.1 h1];exact ⟨a,b,rfl,h2,h3⟩
 ·rintro ⟨a,b,rfl,h2,h3⟩
  exact ⟨[.int .i64 m.card],[a,b],rfl,bz.2 rfl,[a],[b],rfl,⟨a,rfl,h2⟩,⟨b,rfl,h3⟩⟩
end
theorem SlR.get {α:Type} [Rp α]{P:Nat->Prop}{k:Nat}{h:H}{l:List α}{v:AV}(r:SlR P k h l v){i:Nat}{x:α}(hi:l[i]?=some x) :
  ∃rows row,aw h (Rp.sz α) v=some rows/\rows.length=l.length/\rows[i]?=some row/\Rp.rp P k h x row:=by
 obtain ⟨rows,h1,h2⟩:=r.rows
 obtain ⟨row,h3,h4⟩:=h2.get hi
 exact ⟨rows,row,h1,h2.len.symm,h3,h4⟩
theorem SlR.len {α:Type} [Rp α]{P:Nat->Prop}{k:Nat}{h:H}{l:List α}{v:AV}(r:SlR P k h l v)(g:G):dc .slice v g=.val (.int .i64 (l.length:Int)):=by
 obtain ⟨rows,h1,h2⟩:=r.rows
 rw[oo h1,h2.len]
theorem SlR.tree {α:Type} [Rp α]{k k':Nat}{h h':H}{l:List α}{v:AV}(r:SlR NoP k h l v)(hk:k<=k'):SlR NoP k' h' l v:=by
 obtain ⟨w,hw,q⟩:=Rp.tree (P:=NoP) (k':=k') (h':=h') (show Rp.rp NoP k h l [v] from ⟨v,rfl,r⟩) hk
 injection hw with hw;subst hw;exact q
theorem bN {α:Type} [Rp α]{P:Nat->Prop}{k:Nat}{h:H}{l:List α}{v:AV}(r:SlR P k h l v)(d:Nat)(hd:Rp.dp (List α)<=20:=by decide) :
  ∃v',Hx.snap h d aA v=some v'/\∀h',SlR NoP (max k d) h' l v':=by
 obtain ⟨v',e,w,hw,q⟩:=A7 (dE l hd) (by decide) d (show One l P k h v from ⟨v,rfl,r⟩)
 injection hw with hw;subst hw
 exact ⟨v',e,fun h'=>q.tree (Nat.le_refl _)⟩
theorem SlR.all {α:Type} [Rp α]{k:Nat}{h:H}{l:List α}{v:AV}(r:SlR NoP k h l v) :
  ∃rows:List (List AV),(∀h',aw h' (Rp.sz α) v=some rows)/\rows.length=l.length/\(∀(i:Nat) (x:α),l[i]?=some x->∃row,rows[i]?=some row/\Rp.rp NoP k .nil x row)/\(0<l.length->p_ v=true):=by
 have r0:=(r.tree (h':=.nil) (Nat.le_refl _))
 obtain ⟨rows,h1,h2⟩:=r0.rows
 refine ⟨rows,fun h'=>?_,h2.len.symm,fun i x hi=>h2.get hi,fun hl=>s7 h1 (i:=0) (by rw[<-h2.len];exact hl)⟩
 rw[<-h1]
 exact oW fun id ep off len lim e=>by subst e;exact r.2.1.elim
theorem IT.mk {k:Nat}{l:List Int}{r:AV}(h:SlR NoP k .nil l r):IT k l r:=⟨r,rfl,h⟩
abbrev UT (k:Nat)(l:List Nat)(r:AV):Prop:=One l NoP k .nil r
theorem UT.sl {k:Nat}{l:List Nat}{r:AV}(h:UT k l r)(h':H):SlR NoP k h' l r:=by
 obtain ⟨w,hw,q⟩:=h
 injection hw with hw;subst hw;exact q.tree (Nat.le_refl _)
theorem aZ {P:Nat->Prop}{k:Nat}{h:H}{l:List Nat}{v:AV}(r:SlR P k h l v):∀x∈l,x<18446744073709551616:=by
 obtain ⟨rows,h1,h2⟩:=r.rows
 intro x hx
 obtain ⟨i,hi,e⟩:=List.mem_iff_getElem.1 hx
 obtain ⟨row,h3,h4⟩:=h2.get (i:=i) (a:=x) (by rw[List.getElem?_eq_getElem hi,e])
 exact (qN.1 h4).2
theorem Own.nats {g:G}{b:Nat}{v:AV}{l:List Nat}{k:Nat}(h:Own g b v 1 (l.map cu))(hl:l.length<9223372036854775808)(hb:∀x∈l,x<18446744073709551616):One l (fun _=>True) k g.h v:=by
 refine ⟨v,rfl,Own.sl (α:=Nat) h hl ?_ fun _ _=>trivial⟩
 clear h hl
 induction l with
 | nil=>trivial
 | cons a l ih=>exact ⟨qN.2 ⟨rfl,hb a (by simp)⟩,ih fun x hx=>hb x (by simp[hx])⟩
theorem eX (p:Nat->Bool)(j:Nat):(List.range (j+1)).all p=((List.range j).all p&&p j):=by rw[List.range_succ,List.all_append];simp
theorem pf {p:Nat->Bool}{j n:Nat}(h:j<n)(hp:p j=false):(List.range n).all p=false:=by
 rw[List.all_eq_false];exact ⟨j,List.mem_range.2 h,by rw[hp];decide⟩
end
end Hx
end
section
namespace Hx
open Go
noncomputable section
def Els (g:G)(b:Nat)(v:AV):Nat->Prop:=fun i=>b<=i/\i<g.nx/\vid v≠some i
def OwnT {α:Type} [Rp α](g:G)(b:Nat)(k:Nat)(v:AV)(l:List α):Prop:=∃rows,Own g b v (Rp.sz α) rows/\All2 (Rp.rp (Els g b v) k g.h) l rows
variable {α:Type} [Rp α]{g g':G}{b k:Nat}{v:AV}{l:List α}
theorem OwnT.nils:OwnT g b k .nils ([]:List α):=⟨[],.inl ⟨rfl,rfl⟩,trivial⟩
theorem OwnT.sl (h:OwnT g b k v l)(hl:l.length<9223372036854775808):SlR (fun i=>b<=i/\i<g.nx) k g.h l v:=by
 obtain ⟨rows,h1,h2⟩:=h
 exact Own.sl h1 hl (h2.mono fun x cs r=>Rp.mono r (fun i hi=>⟨⟨hi.1,hi.2.1⟩,rfl⟩) (Nat.le_refl _)) fun i hi=>h1.lt hi
theorem OwnT.fr (h:OwnT g b k v l)(hn:g.nx<=g'.nx)(hf:∀i,b<=i->i<g.nx->g'.h.get i=g.h.get i):OwnT g' b k v l:=by
 obtain ⟨rows,h1,h2⟩:=h
 exact ⟨rows,h1.fr hn fun i hi=>hf i (h1.lt hi).1 (h1.lt hi).2,h2.mono fun x cs r=>Rp.mono r (fun i hi=>⟨⟨hi.1,Nat.lt_of_lt_of_le hi.2.1 hn,hi.2.2⟩,hf i hi.1 hi.2.1⟩) (Nat.le_refl _)⟩
theorem OwnT.step (h:OwnT g b k v l)(f:Fr g g'):OwnT g' b k v l:=h.fr f.1 fun i _ hi=>f.2 i hi
theorem OwnT.lt (h:OwnT g b k v l){i:Nat}(hi:vid v=some i):b<=i/\i<g.nx:=by obtain ⟨rows,h1,-⟩:=h;exact h1.lt hi
theorem OwnT.cell (h:OwnT g b k v l):v.cells=[v]/\v.isTup=false:=by obtain ⟨rows,h1,-⟩:=h;exact h1.cell
theorem OwnT.len (h:OwnT g b k v l)(g0:G):dc .slice v g0=.val (.int .i64 (l.length:Int)):=by
 obtain ⟨rows,h1,h2⟩:=h
 rw[oo h1.rows,h2.len]
theorem OwnT.base {b':Nat}(h:OwnT g b k v l)(hb:b'<=b):OwnT g b' k v l:=by
 obtain ⟨rows,h1,h2⟩:=h
 refine ⟨rows,?_,h2.mono fun x cs r=>Rp.mono r (fun i hi=>⟨⟨by have:=hi.1;omega,hi.2⟩,rfl⟩) (Nat.le_refl _)⟩
 rcases h1 with h | ⟨id,ep,lo,p1,p2,p3,p4⟩
 ·exact .inl h
 ·exact .inr ⟨id,ep,lo,by omega,p2,p3,p4⟩
def FrW (b:Nat)(g g':G):Prop:=g.nx<=g'.nx/\(∀i,i<b->g'.h.get i=g.h.get i)/\∀i∈g'.lg,i∈g.lg\/b<=i
theorem FrW.refl (b:Nat)(g:G):FrW b g g:=⟨Nat.le_refl _,fun _ _=>rfl,fun _ h=>.inl h⟩
theorem FrW.trans {g1 g2 g3:G}(h:FrW b g1 g2)(h':FrW b g2 g3):FrW b g1 g3 :=
 ⟨Nat.le_trans h.1 h'.1,fun i hi=>by rw[h'.2.1 i hi,h.2.1 i hi],fun i hi=>by
  rcases h'.2.2 i hi with h1 | h1
  ·exact h.2.2 i h1
  ·exact .inr h1⟩
theorem FrW.new {g1:G}(o:AObj)(hb:b<=g1.nx):FrW b g1 (g1.new o) :=
 ⟨by simp,fun i hi=>by rw[G.new_h,bO _ _ _ (by omega)],fun i hi=>by
  simp at hi
  rcases hi with rfl | hi
  ·exact .inr hb
  ·exact .inl hi⟩
theorem FrW.put {g1:G}(id:Nat)(o:AObj)(hb:b<=id):FrW b g1 (g1.put id o) :=
 ⟨by simp,fun i hi=>by rw[G.put_h,bO _ _ _ (by omega)],fun i hi=>by
  simp at hi
  rcases hi with rfl | hi
  ·exact .inr hb
  ·exact .inl hi⟩
theorem FrW.fr {g1 g2:G}(h:FrW g1.nx g1 g2):Fr g1 g2:=⟨h.1,h.2.1⟩
end
end Hx
end
section
namespace Hx
open Go
noncomputable section
theorem rU {C:Cfg}{nt d:Nat}{rd:Option Nat}{c:Code}{t:T}{df:List ADf}{g:G}{Q:QT}(h:wp C d rd (dm C nt c) Q t df g):((I C).code nt d rd c t df g).sat Q:=by
 rw[wu];exact DZ _ _ _ _ _ h
end
end Hx
end
