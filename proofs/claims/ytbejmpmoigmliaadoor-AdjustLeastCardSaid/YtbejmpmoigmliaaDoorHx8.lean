/- A part of the proof: an interpreter over abstract values, shown right against the model, and what the functions of the chapter compute on it. -/
import Derived.Shelf.Lays2
import Derived.Test.YtbejmpmoigmliaaDoorRows
import Derived.Shelf.Spec.SlicesInsertGrow
import Derived.KernelRfl
import Derived.Test.YtbejmpmoigmliaaDoorHx7
set_option linter.unusedVariables false
set_option linter.unusedSimpArgs false
set_option linter.unnecessarySimpa false
section
namespace Go.Proofs
open Go.Shelf
def Tryd.lays21_ren:Go.Shelf.Ren:=⟨fun | 21=>85 | 27=>89 | 28=>90 | 35=>92 | 39=>93 | n=>n,fun | 22=>37 | 3=>3 | 4=>4 | 0=>0 | n=>n,fun | n=>n⟩
theorem Tryd.lays21:Go.Proofs.Lays2.n21 Tryd.prog Tryd.lays21_ren:={
 mixed:=by kernel_rfl
 f21:=Tryd.func85.trans (congrArg some (by kernel_rfl))
 f27:=Tryd.func89.trans (congrArg some (by kernel_rfl))
 f28:=Tryd.func90.trans (congrArg some (by kernel_rfl))
 f35:=Tryd.func92.trans (congrArg some (by kernel_rfl))
 f39:=Tryd.func93.trans (congrArg some (by kernel_rfl))
 t0:=Tryd.underlying0
 a0:=Tryd.isAgg0
 z0:=Tryd.sizeOf0
 v0:=Tryd.zeroValue0
 t3:=Tryd.underlying3
 a3:=Tryd.isAgg3
 z3:=Tryd.sizeOf3
 v3:=Tryd.zeroValue3
 t4:=Tryd.underlying4
 a4:=Tryd.isAgg4
 z4:=Tryd.sizeOf4
 v4:=Tryd.zeroValue4
 t22:=Tryd.underlying37
 a22:=Tryd.isAgg37
 z22:=Tryd.sizeOf37
 v22:=Tryd.zeroValue37
 i3:=by kernel_rfl }
end Go.Proofs
end
section
namespace Hx
open Go Go.Proofs Go.Shelf
theorem eY {w:World}{o:Obj}:(Go.World.alloc w o).heap=w.heap.push o:=rfl
theorem ed {w:World}:(Go.World.drew w).heap=w.heap:=rfl
theorem d6 {b:Nat}{e:TypeId}{f:Nat×Nat}:∀(vs:List Value) (o:Nat) (w:World) (c:Array Value),w.heap[b]?=some (.cells c e f) ->
  Go.World.setCells w b o vs=World.setBlk w b (.cells (aI c o vs) e f):=by
 intro vs
 induction vs with
 | nil =>
  intro o w c h
  have hb:b<w.heap.size:=by
   rcases Nat.lt_or_ge b w.heap.size with hl | hl
   ·exact hl
   ·rw[Array.getElem?_eq_none hl] at h;cases h
  have hx:w.heap[b]=.cells c e f:=by simpa [Array.getElem?_eq_getElem hb] using h
  show w=_
  simp only[World.setBlk,aI]
  have:w.heap.setIfInBounds b (.cells c e f)=w.heap:=by
   apply Array.ext_getElem?
   intro k
   rw[Array.getElem?_setIfInBounds]
   by_cases hk:b=k
   ·subst hk;simp[hb,hx]
   ·rw[if_neg hk]
  rw[this]
 | cons v vs ih =>
  intro o w c h
  have hb:b<w.heap.size:=by
   rcases Nat.lt_or_ge b w.heap.size with hl | hl
   ·exact hl
   ·rw[Array.getElem?_eq_none hl] at h;cases h
  show Go.World.setCells (w.setCell (adr b o) v) b (o+1) vs=_
  rw[ny h,ih (o+1) _ (c.setIfInBounds o v) (by rw[aE];simp[hb]),hK]
  rfl
section
variable {P:Program}{ρ:Ren}
theorem dt {α:Type}{cs vs:List α}{i n m k:Nat}(hcl:cs.length=n)(hvl:vs.length=m)(hi:i<=n) :
  (cs.take i++(vs++cs.drop i))[k]?=if k<i then cs[k]? else if k<i+m then vs[k - i]? else cs[k - m]?:=by
 have hti:(cs.take i).length=i:=by rw[List.length_take];omega
 by_cases h1:k<i
 ·rw[if_pos h1,List.getElem?_append_left (by omega),List.getElem?_take_of_lt h1]
 ·rw[if_neg h1,List.getElem?_append_right (by omega),hti]
  by_cases h2:k<i+m
  ·rw[if_pos h2,List.getElem?_append_left (by omega)]
  ·rw[if_neg h2,List.getElem?_append_right (by omega),List.getElem?_drop,hvl]
   congr 1;omega
def Ins (P:Program)(f:FuncId)(args:Array Value)(w:World)(b n m:Nat)(rowV:List Value):Prop :=
 ∃b' o' cap' c' e' w',Calls P f args w (fun x y=>x=.returned (.slice (some (adr b' o')) (n+m) cap')/\y=w')/\n+m<=cap'/\cap'<=9223372036854775807 /\
  (w'.os=w.os/\w'.tape=w.tape/\w'.output=w.output/\w.heap.size<=w'.heap.size)/\(b'=b\/(b'=w.heap.size/\w.heap.size<w'.heap.size)) /\
  (∀k,k<w.heap.size->k≠b->w'.heap[k]?=w.heap[k]?)/\w'.heap[b']?=some (.cells c' e' (0,0))/\o'+cap'<=c'.size /\
  ∀k,k<n+m->c'[o'+k]?=rowV[k]?
theorem tE (L:Lays2.n21 P ρ){w:World}{b off n c i vb voff m vc:Nat}{cc cv:Array Value}{e e2:TypeId}{cs vs:List Value}
  (hb:w.heap[b]?=some (.cells cc e (0,0))) (hv:w.heap[vb]?=some (.cells cv e2 (0,0))) (hne:vb≠b) (hin:i<=n) (hm:0<m) (hnc:n<=c)
  (hc63:c<=9223372036854775807) (hbig:(n+m)*8<=140737488355328) (hcc:off+c<=cc.size) (hcv:voff+m<=cv.size) (hn0:0<c)
  (hcl:cs.length=n) (hvl:vs.length=m) (hcs:∀j,j<n->cs[j]?=cc[off+j]?) (hvs:∀j,j<m->vs[j]?=cv[voff+j]?)
  (h1c:∀v∈cs,v.oneCell'=true) (h1v:∀v∈vs,v.oneCell'=true) :
  Ins P (ρ.f 21) #[.slice (some (adr b off)) n c,.int .i64 i,.slice (some (adr vb voff)) m vc] w b n m (cs.take i++(vs++cs.drop i)):=by
 have hbw:b<w.heap.size:=by
  rcases Nat.lt_or_ge b w.heap.size with hl | hl
  ·exact hl
  ·rw[Array.getElem?_eq_none hl] at hb;cases hb
 have hcs':∀j v,cs[j]?=some v->w.cell? (adr b (off+j))=some v:=fun j v hj=>by
  rw[h_ hb,<-hcs j (by rw[<-hcl];exact (List.getElem?_eq_some_iff.1 hj).1)];exact hj
 have hvs':∀j v,vs[j]?=some v->w.cell? (adr vb (voff+j))=some v:=fun j v hj=>by
  rw[h_ hv,<-hvs j (by rw[<-hvl];exact (List.getElem?_eq_some_iff.1 hj).1)];exact hj
 have hsp:∀j,j<c->(w.cell? (adr b (off+j))).isSome=true:=fun j hj=>by
  rw[h_ hb,Array.getElem?_eq_getElem (by omega)];rfl
 have hfz:∀j,w.frozen? (adr b j)=false:=fun j=>by simp[World.frozen?,adr,hb]
 have hfv:∀j,w.frozen? (adr vb j)=false:=fun j=>by simp[World.frozen?,adr,hv]
 have hdl:(cs.drop i).length=n - i:=by rw[List.length_drop,hcl]
 have htl:(cs.take i).length=i:=by rw[List.length_take];omega
 by_cases hroom:n+m<=c
 ·by_cases hlt:i<n
  ·
   have h:=Any2.slices_Insert_int_shift L b off n c i vb voff m vc cs vs w hlt hm hroom hc63 hne hcl hvl hcs' (fun j hj=>hsp j (by omega)) (fun j _=>hfz _) hvs' h1c h1v
    e2 e cv.size cc.size (by simp[World.shape?,hv]) (by simp[World.shape?,hb]) (by omega) (hfv _) (hfv _)
   have hb':w.drew.heap[b]?=some (.cells cc e (0,0)):=hb
   rw[d6 (cs.drop i) (off+(i+m)) w.drew cc hb'] at h
   rw[d6 vs (off+i) (World.setBlk w.drew b _) _ (by rw[aE,if_pos ⟨rfl,hbw⟩]),hK] at h
   refine ⟨b,off,c,_,e,_,h,hroom,hc63,⟨rfl,rfl,rfl,by simp[ed]⟩,.inl rfl,fun k _ hk=>?_,by rw[aE,if_pos ⟨rfl,hbw⟩],by simp[ba];omega,fun k hk=>?_⟩
   ·rw[aE,if_neg (fun h=>hk h.1)];rfl
   ·rw[dt hcl hvl hin,bi _ _ _ _ (by rw[ba];omega),bi _ _ _ _ (by omega),hdl,hvl]
    by_cases h1:k<i
    ·rw[if_neg (by omega),if_neg (by omega),if_pos h1,hcs k (by omega)]
    ·rw[if_neg h1]
     by_cases h2:k<i+m
     ·rw[if_pos (by omega),if_pos h2];congr 1;omega
     ·rw[if_neg (by omega),if_pos (by omega),if_neg h2,List.getElem?_drop];congr 1;omega
  ·
   have hi:i=n:=by omega
   subst hi
   have h:=Any2.slices_Insert_int_end_room L b off i c vb voff m vc vs w hm hroom hc63 hvl (fun j hj=>by rw[Nat.add_assoc];exact hsp _ (by omega)) (fun j _=>hfz _) hvs' h1v
   rw[d6 vs (off+i) w cc hb] at h
   refine ⟨b,off,c,_,e,_,h,hroom,hc63,⟨rfl,rfl,rfl,by simp⟩,.inl rfl,fun k _ hk=>?_,by rw[aE,if_pos ⟨rfl,hbw⟩],by simp[ba];omega,fun k hk=>?_⟩
   ·rw[aE,if_neg (fun h=>hk h.1)]
   ·rw[dt hcl hvl hin,bi _ _ _ _ (by omega),hvl]
    by_cases h1:k<i
    ·rw[if_neg (by omega),if_pos h1,hcs k (by omega)]
    ·rw[if_pos (by omega),if_neg h1,if_pos (by omega)];congr 1;omega
 ·have hgc:=grownCap_ge w (n+m) c (ρ.t 3)
  have hgm:grownCap w (n+m) c (ρ.t 3)<=9223372036854775807:=by
   have:=grownCap_le_maxLen w (n+m) c (ρ.t 3) (by unfold maxLen;omega)
   unfold maxLen at this;omega
  by_cases hlt:i<n
  ·
   have h:=Any2.slices_Insert_int_grow L b off n c i vb voff m vc cs vs w hlt hm hnc (by omega) hbig hcl hvl hcs' hvs' h1c h1v
   obtain ⟨G,hG⟩:∃G,G=grownCap w (n+m) c (ρ.t 3):=⟨_,rfl⟩
   rw[<-hG] at h hgc hgm
   obtain ⟨ROW,hROW⟩:∃ROW:Array Value,ROW=(cs.take i).toArray++Builtin.zeroCells (Value.int .i64 0).cells (n+m - i)++Builtin.zeroCells (Value.int .i64 0).cells (G - (n+m)):=⟨_,rfl⟩
   rw[<-hROW] at h
   have hsz:ROW.size=G:=by rw[hROW];simp[Builtin.zeroCells,Value.cells];omega
   have hpre:∀k,k<i->ROW[k]?=cs[k]?:=fun k hk=>by
    rw[hROW,Array.append_assoc,Array.getElem?_append_left (by simp;omega)]
    simp[List.getElem?_take,hk]
   have h0:(w.alloc (.cells ROW (ρ.t 3))).drew.heap[w.heap.size]?=some (.cells ROW (ρ.t 3) (0,0)):=by simp[eY,ed]
   rw[d6 vs i _ ROW h0] at h
   rw[d6 (cs.drop i) (i+m) _ (aI ROW i vs) (e:=ρ.t 3) (f:=(0,0)) (by
    show (World.setBlk _ _ _).heap[_]?=_
    rw[aE,if_pos ⟨rfl,by simp[eY,ed]⟩])] at h
   refine ⟨w.heap.size,0,G,aI (aI ROW i vs) (i+m) (cs.drop i),ρ.t 3,_,h,hgc,hgm,⟨rfl,rfl,rfl,by simp[eY,ed]⟩,.inr ⟨rfl,by simp[eY,ed]⟩,fun k hk _=>?_,?_,by simp[ba,hsz],fun k hk=>?_⟩
   ·rw[aE,if_neg (by omega)]
    show (World.setBlk _ _ _).heap[_]?=_
    rw[aE,if_neg (by omega)]
    simp[eY,ed,Array.getElem?_push,show k≠w.heap.size from by omega]
   ·rw[aE,if_pos ⟨rfl,by simp[eY,ed]⟩]
   ·rw[dt hcl hvl hin,Nat.zero_add,bi _ _ _ _ (by rw[ba];omega),bi _ _ _ _ (by omega),hdl,hvl]
    by_cases h1:k<i
    ·rw[if_neg (by omega),if_neg (by omega),if_pos h1,hpre k h1]
    ·rw[if_neg h1]
     by_cases h2:k<i+m
     ·rw[if_neg (by omega),if_pos (by omega),if_pos h2]
     ·rw[if_pos (by omega),if_neg h2,List.getElem?_drop];congr 1;omega
  ·have hi:i=n:=by omega
   subst hi
   have h:=Any2.slices_Insert_int_end_grow L (some (adr b off)) i c vb voff m vc cs vs w hm hnc (by omega) hbig hcl hvl (fun h=>by cases h)
    (fun a ha j v hj=>by injection ha with ha;subst ha;rw[dg];exact hcs' j v hj) hvs' h1v
   obtain ⟨G,hG⟩:∃G,G=grownCap w (i+m) c (ρ.t 3):=⟨_,rfl⟩
   rw[<-hG] at h hgc hgm
   refine ⟨w.heap.size,0,G,_,ρ.t 3,_,h,hgc,hgm,⟨rfl,rfl,rfl,by simp[eY,ed]⟩,.inr ⟨rfl,by simp[eY,ed]⟩,fun k hk _=>?_,by simp[eY,ed];rfl,?_,fun k hk=>?_⟩
   ·simp[eY,ed,Array.getElem?_push,show k≠w.heap.size from by omega]
   ·simp[Builtin.zeroCells,Value.cells];omega
   ·rw[Nat.zero_add,Array.getElem?_append_left (by simp;omega)]
    have:cs.take i++(vs++cs.drop i)=cs++vs:=by rw[<-hcl,List.take_length,List.drop_length,List.append_nil]
    rw[this];simp
theorem ua (L:Lays2.n21 P ρ){w:World}{base:Option Addr}{vb voff m vc:Nat}{vs:List Value}(hm:0<m)(hbig:m*8<=140737488355328)(hvl:vs.length=m)
  (hvs:∀j v,vs[j]?=some v->w.cell? (adr vb (voff+j))=some v) (h1v:∀v∈vs,v.oneCell'=true) :
  ∃cap rest,m<=cap/\cap<=9223372036854775807/\rest.size=cap - m /\
  Calls P (ρ.f 21) #[.slice base 0 0,.int .i64 0,.slice (some (adr vb voff)) m vc] w (fun x y=>x=.returned (.slice (some (adr w.heap.size 0)) m cap)/\y=World.add (World.drewn w) (.cells (vs.toArray++rest) (ρ.t 3) (0,0))):=by
 have hgc:=grownCap_ge w (0+m) 0 (ρ.t 3)
 have hgm:grownCap w (0+m) 0 (ρ.t 3)<=9223372036854775807:=by
  have:=grownCap_le_maxLen w (0+m) 0 (ρ.t 3) (by unfold maxLen;omega)
  unfold maxLen at this;omega
 have h:=Any2.slices_Insert_int_end_grow L base 0 0 vb voff m vc [] vs w hm (Nat.le_refl _) (by omega) (by omega) rfl hvl (fun _=>rfl)
  (fun a ha j v hj=>by simp at hj) hvs h1v
 obtain ⟨G,hG⟩:∃G,G=grownCap w (0+m) 0 (ρ.t 3):=⟨_,rfl⟩
 rw[<-hG] at h hgc hgm
 rw[Nat.zero_add] at h hgc
 exact ⟨G,Builtin.zeroCells (Value.int .i64 0).cells (G - m),hgc,hgm,by simp[Builtin.zeroCells,Value.cells],h⟩
end
noncomputable def l9 (i:Nat)(rows:List (List AV))(g:G):OR :=
 af (Nat.beq i 0&&Nat.ble (aS rows*8) 140737488355328) (.upd (.hsl g.nx 0 0 (aS rows) none) (g.new (.cells 1 rows 0 true false))) .fail
noncomputable def xk (id2 i:Nat)(s:AV)(vrows:List (List AV))(g:G):OR :=
 match s with
 | .nils=>l9 i vrows g
 | .esl=>l9 i vrows g
 | .hsl id ep off len none =>
  match g.get id with
  | .cells 1 [] ep' false _=>af ((Nat.beq ep ep'&&Nat.beq off 0)&&Nat.beq len 0) (l9 i vrows g) .fail
  | .cells sz rows ep' true false =>
   af (((((((Nat.beq sz 1&&Nat.beq ep ep')&&Nat.beq off 0)&&Nat.beq len (aS rows))&&fk (Nat.beq id id2))&&Nat.ble i len)&&Nat.ble 1 len)&&Nat.ble ((len+aS vrows)*8) 140737488355328)
    (.upd (.hsl id (ep+1) 0 (len+aS vrows) none) (g.put id (.cells 1 (fD i rows++(vrows++ff i rows)) (ep+1) true false))) .fail
  | _=>.fail
 | _=>.fail
noncomputable def gL:Nat->List AV->G->OR:=fun _ xs g =>
 match xs with
 | [s,.int .i64 (.ofNat i),.hsl id2 ep2 off2 len2 _] =>
  match g.get id2 with
  | .cells sz2 vrows ep2' _ _ =>
   af ((((Nat.beq sz2 1&&Nat.beq ep2 ep2')&&Nat.beq off2 0)&&Nat.beq len2 (aS vrows))&&Nat.ble 1 len2) (xk id2 i s vrows g) .fail
  | _=>.fail
 | _=>.fail
theorem jr {d:Nat}{xs:List AV}{g:G}(h:gL d xs g≠.fail):∃s i id2 ep2 len2 lim2 vrows lo fz,xs=[s,.int .i64 (Int.ofNat i),.hsl id2 ep2 0 len2 lim2] /\
  g.h.get id2=.cells 1 vrows ep2 lo fz/\len2=vrows.length/\0<vrows.length/\gL d xs g=xk id2 i s vrows g:=by
 unfold gL at h ⊢
 split at h
 ·split at h
  ·rename_i hg
   rw[aa] at h ⊢
   split at h
   ·rename_i hc
    simp only[Bool.and_eq_true,ak] at hc
    obtain ⟨⟨⟨⟨c1,c2⟩,c3⟩,c4⟩,c5⟩:=hc
    have c1:=ap c1;have c2:=ap c2;have c3:=ap c3;have c4:=ap c4
    subst c1;subst c2;subst c3;subst c4
    rw[Nat.ble_eq] at c5
    refine ⟨_,_,_,_,_,_,_,_,_,rfl,hg,rfl,c5,?_⟩
    rw[if_pos]
    simp[ak];omega
   ·exact absurd rfl h
  ·exact absurd rfl h
 ·exact absurd rfl h
theorem nj {id2 i:Nat}{s:AV}{vrows:List (List AV)}{g:G}(h:xk id2 i s vrows g≠.fail) :
  ((s=.nils\/s=.esl\/∃id ep fz,s=.hsl id ep 0 0 none/\g.h.get id=.cells 1 [] ep false fz)/\i=0/\vrows.length*8<=140737488355328/\xk id2 i s vrows g=.upd (.hsl g.nx 0 0 vrows.length none) (g.new (.cells 1 vrows 0 true false))) \/
  ∃id ep rows,s=.hsl id ep 0 rows.length none/\g.h.get id=.cells 1 rows ep true false/\id≠id2/\i<=rows.length/\0<rows.length/\(rows.length+vrows.length)*8<=140737488355328 /\
   xk id2 i s vrows g=.upd (.hsl id (ep+1) 0 (rows.length+vrows.length) none) (g.put id (.cells 1 (rows.take i++(vrows++rows.drop i)) (ep+1) true false)):=by
 have hnew:l9 i vrows g≠.fail->i=0/\vrows.length*8<=140737488355328/\l9 i vrows g=.upd (.hsl g.nx 0 0 vrows.length none) (g.new (.cells 1 vrows 0 true false)):=by
  intro h
  unfold l9 at h ⊢
  rw[aa] at h ⊢
  split at h
  ·rename_i hc
   rw[if_pos hc]
   simp only[Bool.and_eq_true,ak,Nat.ble_eq] at hc
   exact ⟨ap hc.1,hc.2,by rw[ak]⟩
  ·exact absurd rfl h
 unfold xk at h ⊢
 split at h
 ·exact .inl ⟨.inl rfl,hnew h⟩
 ·exact .inl ⟨.inr (.inl rfl),hnew h⟩
 ·rename_i id ep off len
  split at h
  ·rename_i ep' fz hg
   rw[aa] at h
   split at h
   ·rename_i hc
    have hc':=hc
    simp only[Bool.and_eq_true] at hc
    obtain ⟨⟨c1,c2⟩,c3⟩:=hc
    have c1:=ap c1;have c2:=ap c2;have c3:=ap c3
    subst c1;subst c2;subst c3
    have:=hnew h
    refine .inl ⟨.inr (.inr ⟨id,ep,fz,rfl,hg⟩),this.1,this.2.1,?_⟩
    rw[aa,if_pos hc',this.2.2]
   ·exact absurd rfl h
  ·rename_i sz rows ep' hg
   rw[aa] at h
   split at h
   ·rename_i hc
    have hc':=hc
    simp only[Bool.and_eq_true,ak] at hc
    obtain ⟨⟨⟨⟨⟨⟨⟨c1,c2⟩,c3⟩,c4⟩,c5⟩,c6⟩,c7⟩,c8⟩:=hc
    have c1:=ap c1;have c2:=ap c2;have c3:=ap c3;have c4:=ap c4
    subst c1;subst c2;subst c3;subst c4
    rw[Nat.ble_eq] at c6 c7 c8
    refine .inr ⟨id,ep,rows,rfl,hg,fun e=>?_,c6,c7,c8,?_⟩
    ·subst e;rw[notb_eq] at c5;simp at c5
    ·rw[aa,if_pos hc']
     simp only[ak,aR,aQ]
   ·exact absurd rfl h
  ·exact absurd rfl h
 ·exact absurd rfl h
section
variable {C:Cfg}{A:Nat->Nat->Prop}{bd:Nat}{w w':World}{γ γ':Gm}{hg:Nat->AObj}{nx:Nat}{ρ:Ren}
theorem zY {g:G}{id:Nat}{ob:AObj}(r:Rel C A bd w' γ' (upd hg id ob) nx)(s:Stp w γ w' γ'):Fin C A bd w γ hg nx g w' γ' (upd hg id ob) (g.put id ob) :=
 ⟨r.up (Nat.le_max_left _ _),s,[id],by simp,fun k hk=>by simp at hk;subst hk;simp[G.put_h,H.get_put],fun k hk=>by
  rw[br];simpa using hk⟩
theorem zS {g:G}{ob:AObj}(r:Rel C A bd w' γ' (upd hg g.nx ob) (Nat.max nx (g.nx+1)))(s:Stp w γ w' γ'):Fin C A bd w γ hg nx g w' γ' (upd hg g.nx ob) (g.new ob) :=
 ⟨r.up (by simp),s,[g.nx],by simp,fun k hk=>by simp at hk;subst hk;simp[G.new_h,H.get_put],fun k hk=>by
  rw[br];simpa using hk⟩
theorem sT (hr:Rel C A bd w γ hg nx){id ep:Nat}{rows:List (List AV)}{lo fz:Bool}(hid:hg id=.cells 1 rows ep lo fz) :
  ∃(c:Array Value) (e:TypeId) (l:List Value),w.heap[(γ id).blk]?=some (.cells c e (0,0))/\(γ id).base+(rows.length+(γ id).slack)<=c.size/\l.length=rows.length/\(∀j,j<rows.length->l[j]?=c[(γ id).base+j]?) /\
   (∀v∈l,v.oneCell'=true)/\(∀(k:Nat) row,rows[k]?=some row->row.length=1) /\
   ∀(k j:Nat) row x,rows[k]?=some row->row[j]?=some x->j=0/\x.one=true/\∃v,l[k]?=some v/\RV w γ A bd x v:=by
 have hob:=hr.obj id
 rw[hid] at hob
 obtain ⟨k1,k2,k3,k4,k5,k6,c,e,k7,k8,k9,k10⟩:=hob
 have hget:∀j,j<rows.length->((c.toList.drop (γ id).base).take rows.length)[j]?=c[(γ id).base+j]?:=fun j hj=>by
  rw[List.getElem?_take_of_lt hj,List.getElem?_drop];simp
 refine ⟨c,e,(c.toList.drop (γ id).base).take rows.length,k7,by omega,by simp;omega,hget,fun v hv=>?_,k9,fun k j row x h1 h2=>?_⟩
 ·obtain ⟨k,hk⟩:=List.getElem?_of_mem hv
  have hlt:k<rows.length:=by
   have:=(List.getElem?_eq_some_iff.1 hk).1
   simp at this;omega
  rw[hget k hlt] at hk
  have hrow:=List.getElem?_eq_getElem hlt
  have hl1:=k9 k _ hrow
  have hx:rows[k][0]?=some (rows[k][0]'(by omega)):=List.getElem?_eq_getElem _
  obtain ⟨a,v',b1,b2⟩:=k10 k 0 _ _ hrow hx
  rw[show (γ id).base+k*1+0=(γ id).base+k from by omega,hk] at b1
  injection b1 with b1;subst b1
  exact (tJ b2 a).1
 ·have hj:j=0:=by
   have h3:=k9 k _ h1
   have:=(List.getElem?_eq_some_iff.1 h2).1
   omega
  subst hj
  obtain ⟨a,v',b1,b2⟩:=k10 k 0 _ _ h1 h2
  refine ⟨rfl,a,v',?_,b2⟩
  rw[hget k (List.getElem?_eq_some_iff.1 h1).1]
  rw[show (γ id).base+k*1+0=(γ id).base+k from by omega] at b1
  exact b1
theorem jX {P:Program}{f:FuncId}{args:Array Value}{u:Value}(h:Calls P f args w (fun x y=>x=.returned u/\y=w'))(cs:List Frame):Outs P .normal f args cs w u w':=by
 obtain ⟨e,w1,fr,⟨he,hw⟩,hc,hf,hl⟩:=h cs
 subst he;subst hw
 obtain ⟨m,d,k,fn,hfn,hres⟩:=hl
 exact ⟨fr,hc,m,d,k,hf,fn,by rw[<-hf];exact hfn,hres⟩
theorem wG {P : Program} {f : FuncId} {fn : Func} (h : P.funcs[f]? = some fn) (hn : (fn.name == "runtime.NumGoroutine") = false) (hb : fn.body.isSome = true) : Enters P f := by
 intro args w
 unfold callFunc
 have hn : fn.name ≠ "runtime.NumGoroutine" := by simpa using hn
 cases hb':fn.body with
 | none=>rw[hb'] at hb;cases hb
 | some c=>simp[h,hn,hb']
theorem t_ (L:Lays2.n21 C.P ρ)(hent:Enters C.P (ρ.f 21)):ExtOk C (ρ.f 21) gL:=by
 refine ⟨fun d xs g hwf=>?_,fun d xs g y hy=>?_,fun A bd w γ hg nx g xs vs hr hwf hx hf hv hne cs=>?_⟩
 ·apply Small.mon _ hwf
  by_cases h:gL d xs g=.fail
  ·rw[h];trivial
  ·obtain ⟨s,i,id2,ep2,len2,lim2,vrows,lo,fz,e1,e2,e3,e4,e5⟩:=jr h
   rw[e5] at h ⊢
   rcases nj h with ⟨_,_,_,h1⟩ | ⟨id,ep,rows,_,h2,_,_,_,_,h1⟩
   ·rw[h1];exact .inr ⟨_,rfl⟩
   ·rw[h1];exact .inl ⟨_,_,rfl,by rw[h2];simp⟩
 ·have h:gL d xs g≠.fail:=by rw[hy];simp
  obtain ⟨s,i,id2,ep2,len2,lim2,vrows,lo,fz,e1,e2,e3,e4,e5⟩:=jr h
  rw[e5] at h hy
  rcases nj h with ⟨_,_,_,h1⟩ | ⟨id,ep,rows,_,h2,_,_,_,_,h1⟩<;>(rw[h1] at hy;cases hy)
 ·obtain ⟨s,i,id2,ep2,len2,lim2,vrows,lo,fz,e1,e2,e3,e4,e5⟩:=jr hne
  subst e1;subst e3
  rw[e5] at hne hf ⊢
  obtain ⟨v1,v2,v3,rfl⟩:∃v1 v2 v3,vs=[v1,v2,v3]:=by
   have:=hv.1
   match vs,this with
   | [a,b,c],_=>exact ⟨a,b,c,rfl⟩
  have r1:RV w γ A bd s v1:=hv.2 0 _ _ rfl rfl
  have r2:RV w γ A bd (.int .i64 (Int.ofNat i)) v2:=hv.2 1 _ _ rfl rfl
  have r3:RV w γ A bd (.hsl id2 ep2 0 vrows.length lim2) v3:=hv.2 2 _ _ rfl rfl
  cases r2
  have hid2:hg id2=.cells 1 vrows ep2 lo fz:=by
   rw[hx id2 (by simp[List.flatMap_cons,au,ax]) (by rw[e2];simp),e2]
  obtain ⟨vc,hv3,hvc,_⟩:=kr hr r3 hid2
  subst hv3
  obtain ⟨cv,ev,lv,p1,p2,p3,p4,p5,p6,p7⟩:=sT hr hid2
  have hz:(γ id2).base+0*1=(γ id2).base:=by omega
  rw[hz] at r3 ⊢
  rcases nj hne with ⟨hs,hi,hbig,h1⟩ | ⟨id,ep,rows,hs,h2,hne2,hin,hpos,hbig,h1⟩
  ·subst hi
   rw[h1] at hf ⊢
   have hfree:(γ g.nx).kind=0:=hf g.nx (Nat.le_refl _) (by simp[gOf])
   have hbase:∃base,v1=.slice base 0 0:=by
    rcases hs with rfl | rfl | ⟨id,ep,fz2,rfl,hgid⟩
    ·cases r1;exact ⟨_,rfl⟩
    ·cases r1;exact ⟨_,rfl⟩
    ·have hid:hg id=.cells 1 [] ep false fz2:=by
      rw[hx id (by simp[List.flatMap_cons,au,ax]) (by rw[hgid];simp),hgid]
     obtain ⟨c,hv1,hnc,hco⟩:=kr hr r1 hid
     have hob:=hr.obj id
     rw[hid] at hob
     obtain ⟨-,-,-,k4,k5,-⟩:=hob
     have hk:=k5.1 rfl
     have hc0:c=0:=by simp only[d7] at hco;simp at k4;omega
     subst hc0
     exact ⟨_,hv1⟩
   obtain ⟨base,hb⟩:=hbase
   subst hb
   obtain ⟨cap,rest,q1,q2,q3,q4⟩:=ua L (w:=w) (base:=base) (vb:=(γ id2).blk) (voff:=(γ id2).base) (m:=vrows.length) (vc:=vc) (vs:=lv) e4 hbig p3
    (fun j v hj=>by rw[h_ p1,<-p4 j (by rw[<-p3];exact (List.getElem?_eq_some_iff.1 hj).1)];exact hj) p5
   have hrr:RowsRel w γ A bd 1 vrows (lv.toArray++rest):=by
    refine ⟨by simp[p3],p6,fun k j row x a b=>?_⟩
    obtain ⟨j0,o1,v,l1,l2⟩:=p7 k j row x a b
    subst j0
    refine ⟨o1,v,?_,l2⟩
    have hk:=(List.getElem?_eq_some_iff.1 a).1
    rw[Array.getElem?_append_left (by simp;omega)]
    simpa using l1
   obtain ⟨γ',s1,s2,s3⟩:=mo (e:=ρ.t 3) hr hfree hrr vrows.length cap (by simp[q3];omega) q1 rfl q2
   exact ⟨_,_,γ',_,zS s1 s2,s3,.inr ⟨hent,jX q4 cs⟩⟩
  ·subst hs
   rw[h1] at hf ⊢
   have hid:hg id=.cells 1 rows ep true false:=by
    rw[hx id (by simp[List.flatMap_cons,au,ax]) (by rw[h2];simp),h2]
   obtain ⟨c,hv1,hnc,hco⟩:=kr hr r1 hid
   subst hv1
   have hob:=hr.obj id
   rw[hid] at hob
   obtain ⟨k1,k2,k3,k4,k5,k6,_⟩:=hob
   have hob2:=hr.obj id2
   rw[hid2] at hob2
   obtain ⟨m1,_⟩:=hob2
   have hblk:(γ id2).blk≠(γ id).blk:=fun e=>hne2 (hr.inj id id2 (by rw[k1];decide) (by rw[m1];decide) e.symm)
   obtain ⟨cc,ec,lc,c1,c2,c3,c4,c5,c6,c7⟩:=sT hr hid
   have hcap:c=rows.length+(γ id).slack:=by simp only[d7] at hco;omega
   have hins:=tE L (w:=w) (b:=(γ id).blk) (off:=(γ id).base) (n:=rows.length) (c:=c) (i:=i) (vb:=(γ id2).blk) (voff:=(γ id2).base) (m:=vrows.length) (vc:=vc)
    c1 p1 hblk hin e4 hnc (by have:=k5.2 rfl;omega) hbig (by omega) (by omega) (by omega) c3 p3 c4 p4 c5 p5
   obtain ⟨b',o',cap',c',e',w',n1,n2,n3,n4,n5,n6,n7,n8,n9⟩:=hins
   let gh:Gh:=⟨1,ep+1,1,rows.length+vrows.length,b',o',cap' - (rows.length+vrows.length),true⟩
   have hrl:(rows.take i++(vrows++rows.drop i)).length=rows.length+vrows.length:=by simp;omega
   have hcell:∀(k:Nat) row,(rows.take i++(vrows++rows.drop i))[k]?=some row->row.length=1/\∀(j:Nat) x,row[j]?=some x->x.one=true/\∃v,c'[o'+k*1+j]?=some v/\RV w γ A bd x v:=by
    intro k row hk
    have hkl:k<rows.length+vrows.length:=by rw[<-hrl];exact (List.getElem?_eq_some_iff.1 hk).1
    have hck:=n9 k hkl
    rw[dt c3 p3 hin] at hck
    rw[dt (n:=rows.length) (m:=vrows.length) rfl rfl hin] at hk
    split at hk
    ·rename_i h1;rw[if_pos h1] at hck
     refine ⟨c6 _ _ hk,fun j x hj=>?_⟩
     obtain ⟨j0,o1,v,l1,l2⟩:=c7 _ j row x hk hj
     subst j0
     exact ⟨o1,v,by rw[show o'+k*1+0=o'+k from by omega,hck];exact l1,l2⟩
    ·rename_i h1;rw[if_neg h1] at hck
     split at hk
     ·rename_i h2;rw[if_pos h2] at hck
      refine ⟨p6 _ _ hk,fun j x hj=>?_⟩
      obtain ⟨j0,o1,v,l1,l2⟩:=p7 _ j row x hk hj
      subst j0
      exact ⟨o1,v,by rw[show o'+k*1+0=o'+k from by omega,hck];exact l1,l2⟩
     ·rename_i h2;rw[if_neg h2] at hck
      refine ⟨c6 _ _ hk,fun j x hj=>?_⟩
      obtain ⟨j0,o1,v,l1,l2⟩:=c7 _ j row x hk hj
      subst j0
      exact ⟨o1,v,by rw[show o'+k*1+0=o'+k from by omega,hck];exact l1,l2⟩
   obtain ⟨s1,s2⟩:=hr.moved hid (w1:=w') (gh:=gh) (rows':=rows.take i++(vrows++rows.drop i)) rfl rfl rfl (by rw[hrl]) rfl n4
    (by rw[hrl];simp only[gh];omega) n5 n6 (c:=c') (e:=e') n7 (by rw[hrl];simp only[gh];omega)
    (fun k row hk=>(hcell k row hk).1) (fun k j row x hk hj=>(hcell k row hk).2 j x hj)
   have hz':(γ id).base+0*1=(γ id).base:=by omega
   rw[hz']
   refine ⟨.slice (some (adr b' o')) (rows.length+vrows.length) cap',w',_,_,zY s1 s2,?_,.inr ⟨hent,jX n1 cs⟩⟩
   refine .hsl _ id (ep+1) 0 _ none _ _ cap' (by simp[gh]) (by simp[gh]) n2 (fun _=>⟨by simp[gh],by simp[gh],?_⟩)
   simp only[d7,upd_same,gh];omega
end
end Hx
end
section
namespace Hx
open Go
noncomputable def vV (C:Cfg)(f:Nat):Nat->List AV->G->OR:=fun d xs g =>
 match (I C).call d f xs ⟨eI g.h (xs.flatMap (au g.h ax)),g.nx,[]⟩ with
 | .ok v g'=>.upd v ⟨dY g.h g'.h g'.lg,g'.nx,g'.lg++g.lg⟩
 | .fail=>.fail
theorem z6 {C:Cfg}(hC:CfgOk C){f:Nat}:ExtOk C f (vV C f):=by
 have wfr:∀(g:G) (ids:List Nat),WF g->WF ⟨eI g.h ids,g.nx,[]⟩:=by
  intro g ids hwf id hid
  show (eI g.h ids).get id=.none
  rw[eL]
  split
  ·exact hwf id hid
  ·rfl
 have sh:∀d xs g,vV C f d xs g=.fail\/∃n v g',(sem C n).call d f xs ⟨eI g.h (xs.flatMap (au g.h ax)),g.nx,[]⟩=.ok v g' /\
   vV C f d xs g=.upd v ⟨dY g.h g'.h g'.lg,g'.nx,g'.lg++g.lg⟩:=by
  intro d xs g
  unfold vV
  split
  ·rename_i v g' h;obtain ⟨n,hn⟩:=Bp h;exact .inr ⟨n,v,g',hn,rfl⟩
  ·exact .inl rfl
 refine ⟨fun d xs g hwf=>?_,fun d xs g y hy=>?_,fun A bd w γ hg nx g xs vs hr hwf hx hf hv hne cs=>?_⟩
 ·rcases sh d xs g with h | ⟨n,v,g',h1,h2⟩
  ·rw[h];exact Mon.refl g
  ·rw[h2]
   have hok:=nz hC n
   have m:=hok.mon.call _ _ _ _ _ _ h1 (wfr g _ hwf)
   obtain ⟨nw,a,b,c⟩:=m.new
   have ha:g'.lg=nw:=by simpa using a
   refine ⟨m.nx,⟨g'.lg,rfl,fun id hid=>?_,fun id hid=>?_⟩,fun hw id hid=>?_⟩
   ·show (dY _ _ _).get id=_
    rw[dG,if_neg hid]
   ·obtain ⟨c1,c2⟩:=c id (by rw[<-ha];exact hid)
    refine ⟨c1,fun hn=>c2 ?_⟩
    show (eI _ _).get id=_
    rw[eL,hn];simp
   ·show (dY _ _ _).get id=_
    have hid:g'.nx<=id:=hid
    have hnx:g.nx<=g'.nx:=m.nx
    rw[dG,if_neg]
    ·exact hw id (by omega)
    ·intro hl
     have:=(c id (by rw[<-ha];exact hl)).1
     omega
 ·rcases sh d xs g with h | ⟨n,v,g',h1,h2⟩
  ·rw[h] at hy;cases hy
  ·rw[h2] at hy;cases hy
 ·rcases sh (bd+1) xs g with h | ⟨n,v,g',h1,h2⟩
  ·exact absurd h hne
  ·rw[h2] at hf ⊢
   have hok:=nz hC n
   obtain ⟨he,run⟩:=hok.call _ _ _ _ _ _ h1
   obtain ⟨u,w',γ',hg',fin,rv,out⟩:=run A w γ hg nx vs hr (fun id hn=>by
     have hn':(eI g.h (xs.flatMap (au g.h ax))).get id≠.none:=hn
     show hg id=(eI _ _).get id
     rw[eL] at hn' ⊢
     split at hn'
     ·rename_i hm;rw[if_pos hm];exact hx id hm hn'
     ·exact absurd rfl hn') (wfr g _ hwf) (fun id h1 h2=>hf id h1 h2) hv .normal cs (.inl rfl)
   refine ⟨u,w',γ',hg',⟨fin.rel,fin.stp,?_⟩,rv,.inr ⟨he,out⟩⟩
   obtain ⟨nw,a,b,c⟩:=fin.new
   have ha:g'.lg=nw:=by simpa using a
   subst ha
   refine ⟨g'.lg,rfl,fun id hid=>?_,c⟩
   show hg' id=(dY _ _ _).get id
   rw[dG,if_pos hid];exact b id hid
end Hx
end
section
namespace Go.Proofs.YtbejmpmoigmliaaDoor.Gen
open Hx
noncomputable def cfg0:Cfg:={ P:=Tryd.prog,iso:=fun f=>Nat.testBit 329553661764477221476144219814887423 f,ext:=fun _=>none,glob:=fun g=>af (Nat.beq g 3) (some (64,[[.int .u8 0,.int .u8 1,.int .u8 56,.int .u8 2,.int .u8 57,.int .u8 49,.int .u8 28,.int .u8 3,.int .u8 61,.int .u8 58,.int .u8 42,.int .u8 50,.int .u8 38,.int .u8 29,.int .u8 17,.int .u8 4,.int .u8 62,.int .u8 47,.int .u8 59,.int .u8 36,.int .u8 45,.int .u8 43,.int .u8 51,.int .u8 22,.int .u8 53,.int .u8 39,.int .u8 33,.int .u8 30,.int .u8 24,.int .u8 18,.int .u8 12,.int .u8 5,.int .u8 63,.int .u8 55,.int .u8 48,.int .u8 27,.int .u8 60,.int .u8 41,.int .u8 37,.int .u8 16,.int .u8 46,.int .u8 35,.int .u8 44,.int .u8 21,.int .u8 52,.int .u8 32,.int .u8 23,.int .u8 11,.int .u8 54,.int .u8 26,.int .u8 40,.int .u8 15,.int .u8 34,.int .u8 20,.int .u8 31,.int .u8 10,.int .u8 25,.int .u8 14,.int .u8 19,.int .u8 9,.int .u8 13,.int .u8 8,.int .u8 7,.int .u8 6]])) none }
theorem cfg0Ok:CfgOk cfg0:=CfgOk.plain (by kernel_rfl) (by kernel_rfl)
theorem insOk:ExtOk cfg0 85 gL:=t_ (C:=cfg0) (ρ:=Tryd.lays21_ren) Tryd.lays21 (Hx.wG Tryd.func85 (by kernel_rfl) (by kernel_rfl))
theorem add62:ExtOk cfg0 62 ky:=wM (C:=cfg0) Tryd.func62 (by kernel_rfl) (by kernel_rfl) (by kernel_rfl) (by kernel_rfl)
noncomputable def cfgA:Cfg:=cfg0.add 62 ky
theorem cfgAOk:CfgOk cfgA:=cfg0Ok.add add62
noncomputable def cfg:Cfg:=cfgA.add 85 gL
theorem cfgOk:CfgOk cfg:=cfgAOk.add (ExtOk.cfg (C:=cfg0) (C':=cfgA) rfl rfl insOk)
theorem inl86:ExtOk cfg0 86 (rH cfg0 40 86):=uj cfg0Ok
noncomputable def cfgC:Cfg:=cfg.add 86 (rH cfg0 40 86)
theorem cfgCOk:CfgOk cfgC:=cfgOk.add (ExtOk.cfg (C:=cfg0) (C':=cfg) rfl rfl inl86)
theorem inl29:ExtOk cfg0 29 (rH cfg0 200 29):=uj cfg0Ok
noncomputable def cfgM:Cfg:=cfgC.add 29 (rH cfg0 200 29)
theorem cfgMOk:CfgOk cfgM:=cfgCOk.add (ExtOk.cfg (C:=cfg0) (C':=cfgC) rfl rfl inl29)
theorem works_run:aq (sem cfgM 20000) 1 G.empty 5 []=.val (.bool true):=by kernel_rfl
noncomputable def cfgW:Cfg:=cfgM.add 5 (l6 (.bool true))
theorem cfgWOk:CfgOk cfgW:=cfgMOk.add (pM cfgMOk works_run)
noncomputable def cfgV:Cfg:=cfg.add 5 (l6 (.bool true))
theorem cfgVOk:CfgOk cfgV:=cfgOk.add (ExtOk.cfg (C:=cfgM) (C':=cfg) rfl rfl (pM cfgMOk works_run))
theorem inl1:ExtOk cfg0 86 (vV cfg0 86):=z6 cfg0Ok
noncomputable def cfg1:Cfg:=cfgV.add 86 (vV cfg0 86)
theorem cfg1Ok:CfgOk cfg1:=cfgVOk.add (ExtOk.cfg (C:=cfg0) (C':=cfgV) rfl rfl inl1)
end Go.Proofs.YtbejmpmoigmliaaDoor.Gen
end
section
namespace Hx
open Go
set_option maxRecDepth 100000
noncomputable section
def C0:Cfg:=Go.Proofs.YtbejmpmoigmliaaDoor.Gen.cfg1
abbrev N.af:Nat:=9
abbrev N.aC:Nat:=7
abbrev N.am:Nat:=20
abbrev N.an:Nat:=35
abbrev N.aD:Nat:=22
abbrev N.aq:Nat:=19
abbrev N.au:Nat:=17
abbrev N.aE:Nat:=37
abbrev N.aJ:Nat:=3
abbrev N.ak:Nat:=8
abbrev N.ae:Nat:=21
abbrev N.aK:Nat:=5
abbrev N.ay:Nat:=18
abbrev N.aM:Nat:=43
abbrev N.aI:Nat:=44
abbrev N.aH:Nat:=73
abbrev N.aL:Nat:=81
abbrev N.aB:Nat:=82
abbrev N.aF:Nat:=6
abbrev N.ap:Nat:=36
abbrev N.ax:Nat:=16
abbrev N.az:Nat:=57
abbrev N.aG:Nat:=58
abbrev N.aA:Nat:=65
abbrev N.aa:Nat:=66
abbrev N.ah:Nat:=72
abbrev N.aw:Nat:=42
def ck:SC:=sQ [o 99 (.bin .lss (.t 98) (.t 97))] (.seq (.cond (.t 99) (.skip) (.exit 2)) (.seq (.blk 3 (sQ [oX 100 96 98,oL 101 100,oM 17 101] (sQ [oM 102 14,oM 103 102,og 104 103 false (.mv (.t 17)),og 105 103 false (.mv (.t 11)),og 106 103 false (.bin .neq (.t 104) (.t 105)),og 107 103 false (.mv (.t 106)),og 108 107 true (.mv (.t 17)),og 109 107 true (.mv (.t 11)),og 110 107 true (.bin .andNot (.t 108) (.t 109)),og 111 107 true (.bin .eql (.t 110) (.k (.int .u64 0))),og 112 103 false (.pick (.t 107) (.t 111) (.k (.bool false))),o 113 (.pick (.t 103) (.k (.bool true)) (.t 112)),oM 14 113] (.ops [oM 114 15,oM 115 114,og 116 115 false (.mv (.t 17)),og 117 115 false (.mv (.t 11)),og 118 115 false (.bin .eql (.t 116) (.t 117)),o 119 (.pick (.t 115) (.k (.bool true)) (.t 118)),oM 15 119])))) (.ops [oA 120 98,oM 98 120])))
def bz:SC:=sQ [oM 121 13,o 122 (.bin .neq (.t 121) (qI 0)),oM 123 122,og 124 123 false (.mv (.t 15)),og 125 123 false (.mv (.t 12)),og 126 123 false (.mv (.t 125)),og 127 126 true (.mv (.t 14)),og 128 126 true (.not (.t 127)),og 129 123 false (.pick (.t 126) (.t 128) (.k (.bool false))),og 130 123 false (.eq true .bool (.t 124) (.t 129)),o 131 (.pick (.t 123) (.k (.bool true)) (.t 130)),oM 132 131,og 133 132 false (.mv (.t 12)),og 134 132 false (.not (.t 133)),og 135 132 false (.mv (.t 134)),og 136 135 true (.mv (.t 15)),og 137 132 false (.pick (.t 135) (.t 136) (.k (.bool false))),o 138 (.pick (.t 132) (.k (.bool true)) (.t 137))] (.cond (.t 138) (sQ [o 4 (.mv (.k (.bool false)))] (.ret)) (.skip))
def eo:SC:=.ops [o 139 (.bin .add (.t 77) (.k (.int .u64 1))),oM 77 139]
def cj:SC:=sQ [o 78 (.bin .lss (.t 77) (.t 76))] (.seq (.cond (.t 78) (.skip) (.exit 0)) (.seq (.blk 1 (sQ [oM 79 77,oM 11 79] (.seq (.seq (.quiet [oM 80 11,oM 81 6,o 82 (.bin .shl (.k (.int .u64 1)) (.t 81)),oM 83 7,o 84 (.bin .shl (.k (.int .u64 1)) (.t 83)),o 85 (.bin .or (.t 82) (.t 84)),o 86 (.bin .and (.t 80) (.t 85)),o 87 (.bin .neq (.t 86) (.k (.int .u64 0)))]) (.cond (.t 87) (.exit 1) (.skip))) (sQ [oM 89 5,oM 90 6,oM 91 7,oM 92 11,o 93 (.call N.af [.t 89,.t 90,.t 91,.t 92]),oM 88 93,o 94 (.ext (.t 88) 0),o 95 (.ext (.t 88) 1),oM 12 94,oM 13 95] (sQ [o 14 (.mv (.k (.bool false))),o 15 (.mv (.k (.bool false)))] (.seq (sQ [oM 96 9,oN 97 96,oK 98 0] (.blk 2 (.loop ck))) bz)))))) eo))
def dW:SC:=sQ [o 4 (.mv (.k (.bool true)))] (.ret)
def eD:SC:=.seq (sQ [o 18 (.call N.aK []),o 19 (.not (.t 18))] (.cond (.t 19) (sQ [o 4 (.mv (.k (.bool false)))] (.ret)) (.skip))) (sQ [o 20 (.load true 2 (.t 2)),o 21 (.call N.aF [.t 20]),oM 5 21] (.seq (.quiet [oM 22 1,o 23 (.conv .i64 (.t 22)),oM 24 5,oN 25 24,o 26 (.bin .rem (.t 23) (.t 25)),oM 27 1,o 28 (.bin .quo (.t 27) (.k (.int .u8 8))),o 29 (.conv .i64 (.t 28)),oM 30 5,oN 31 30,o 32 (.bin .rem (.t 29) (.t 31)),oM 6 26,oM 7 32]) (.seq (sQ [oM 33 6,oM 34 7,o 35 (.bin .eql (.t 33) (.t 34))] (.cond (.t 35) (sQ [o 4 (.mv (.k (.bool true)))] (.ret)) (.skip))) (sQ [oM 36 5,oN 37 36,o 38 (.bin .shl (.k (.int .u64 1)) (.t 37)),o 39 (.bin .sub (.t 38) (.k (.int .u64 1))),oM 8 39] (sQ [oM 41 5,oM 42 8,oM 43 6,oM 44 7,o 45 (.call N.aC [.t 41,.t 42,.t 43,.t 44]),oM 40 45,o 46 (.ext (.t 40) 0),o 47 (.ext (.t 40) 1),oM 9 46,oM 10 47] (.seq (.seq (.feet [0,1,3,7,7,31,63,7,255,511,1023,2047,4095,4095,4095,4095,4095,4095,200703,462847,1048575,2097151,2097151,8388607,16777215,33554431,67108863] [oM 48 10,o 49 (.bin .neq (.t 48) (qI 0)),oM 50 49,og 51 50 false (.mv (.t 5)),og 52 50 false (.mv (.t 6)),og 53 50 false (.ixs 1 (.t 51) (.t 52)),og 54 50 false (.load false 1 (.t 53)),og 55 50 false (.mv (.t 7)),og 56 50 false (.bin .shr (.t 54) (.t 55)),og 57 50 false (.bin .and (.t 56) (.k (.int .u64 1))),og 58 50 false (.bin .eql (.t 57) (.k (.int .u64 0))),og 59 50 false (.mv (.t 58)),og 60 59 true (.call N.ak [.k (.bool true)]),og 61 59 true (.mv (.t 5)),og 62 59 true (.mv (.t 6)),og 63 59 true (.mv (.t 7)),og 64 59 true (.mv (.t 5)),og 65 59 true (.mv (.t 6)),og 66 59 true (.ixs 1 (.t 64) (.t 65)),og 67 59 true (.load false 1 (.t 66)),og 68 59 true (.call N.af [.t 61,.t 62,.t 63,.t 67]),og 69 59 true (.ext (.t 68) 0),og 70 59 true (.ext (.t 68) 1),og 71 59 true (.dyn (.t 60) [.t 69,.t 70]),og 72 59 true (.not (.t 71)),og 73 50 false (.pick (.t 59) (.t 72) (.k (.bool false))),o 74 (.pick (.t 50) (.k (.bool true)) (.t 73))]) (.cond (.t 74) (sQ [o 4 (.mv (.k (.bool false)))] (.ret)) (.skip))) (.seq (sQ [oM 75 8,o 76 (.bin .add (.t 75) (.k (.int .u64 1))),o 77 (.mv (.k (.int .u64 0)))] (.blk 0 (.loop cj))) dW)))))))
def dq:SF:=⟨140,[.tm 4],sQ [o 2 (.box (.t 0)),o 4 (.mv (.k (.bool false)))] eD⟩
def cg:SC:=sQ [o 7 (.mv (.k (.nils)))] (sQ [oM 36 7,oM 37 4,oM 38 6,o 39 (.slc 1 (.t 37) [] [.t 38]),o 40 (.app 1 8 (.t 36) (.t 39)),oM 41 5,o 42 (.bsl 1 1 [.int .i64 0] [0] [.t 41]),o 43 (.app 1 8 (.t 40) (.t 42)),oM 7 43] (.ops [oM 44 7,oM 45 4,oM 46 6,o 47 (.slc 1 (.t 45) [.t 46] []),o 48 (.app 1 8 (.t 44) (.t 47)),oM 4 48]))
def d4:SC:=.ops [oM 20 5,oA 21 20,oM 5 21]
def cp:SC:=.seq (sQ [oM 17 5,oM 18 3,o 19 (.bin .lss (.t 17) (.t 18))] (.cond (.t 19) (.skip) (.exit 0))) (.seq (.blk 1 (sQ [oK 6 0] (.seq (sQ [oM 22 5,oF 23 1 1,oL 24 23,oN 25 24,o 26 (.bin .lss (.t 22) (.t 25))] (.cond (.t 26) (.ops [oF 27 1 1,oL 28 27,oM 29 5,oX 30 28 29,oL 31 30,o 32 (.conv .i64 (.t 31)),oM 33 5,oA 34 33,o 35 (.bin .rem (.t 32) (.t 34)),oM 6 35]) (.skip))) cg))) d4)
def d5:SC:=.ops [oM 66 11,oA 67 66,oM 11 67]
def cd:SC:=.seq (sQ [oM 63 11,oM 64 9,o 65 (.bin .lss (.t 63) (.t 64))] (.cond (.t 65) (.skip) (.exit 4))) (.seq (.blk 5 (sQ [oF 68 0 1,oL 69 68,oM 70 9,oX 71 69 70,oL 72 71,oM 73 11,o 74 (.conv .u64 (.t 73)),o 75 (.bin .shr (.t 72) (.t 74)),o 76 (.bin .and (.t 75) (.k (.int .u8 1))),o 77 (.bin .eql (.t 76) (.k (.int .u8 1))),oM 78 77,og 79 78 true (.mv (.t 10)),og 80 78 true (.bin .lss (.t 79) (qI 3)),o 81 (.pick (.t 78) (.t 80) (.k (.bool false)))] (.cond (.t 81) (.seq (.feet [0,0,0,6,14,0,0,0,192,448,992,2016,0,0,12288,28672,61440,126976,262112,524287,1048575] [oM 82 8,oM 83 4,oM 84 9,oX 85 83 84,oL 86 85,oM 87 8,oM 88 4,oM 89 9,oX 90 88 89,oL 91 90,oX 92 87 91,oL 93 92,oM 94 4,oM 95 11,oX 96 94 95,oL 97 96,o 98 (.conv .u64 (.t 97)),o 99 (.bin .shl (.k (.int .u64 1)) (.t 98)),o 100 (.bin .or (.t 93) (.t 99)),oX 101 82 86,oz (.store 1 (.t 101) (.t 100))]) (.ops [oM 102 10,oA 103 102,oM 10 103])) (.skip)))) d5)
def eg:SC:=.ops [oM 61 9,oA 62 61,oM 9 62]
def cq:SC:=.seq (sQ [oM 51 9,oM 52 3,o 53 (.bin .lss (.t 51) (.t 52)),oM 54 53,og 55 54 true (.mv (.t 9)),og 56 54 true (.fad 0 (.t 1)),og 57 54 true (.load false 1 (.t 56)),og 58 54 true (.len .slice (.t 57)),og 59 54 true (.bin .lss (.t 55) (.t 58)),o 60 (.pick (.t 54) (.t 59) (.k (.bool false)))] (.cond (.t 60) (.skip) (.exit 2))) (.seq (.blk 3 (sQ [oK 10 0] (sQ [oK 11 0] (.blk 4 (.loop cd))))) eg)
def eh:SC:=sQ [oM 104 8,oM 2 104] (.ret)
def d_:SC:=sQ [oM 49 3,o 50 (.mks 1 8 [.int .u64 0] (.t 49) (.t 49)),oM 8 50] (.seq (sQ [oK 9 0] (.blk 2 (.loop cq))) eh)
def eC:SC:=sQ [oF 12 0 1,oL 13 12,oN 14 13,o 15 (.mx (.t 14) (qI 1)),o 16 (.mn (.t 15) (qI 6)),oM 3 16] (sQ [o 4 (.mv (.k (.nils)))] (.seq (sQ [oK 5 0] (.blk 0 (.loop cp))) d_))
def dm:SF:=⟨105,[.tm 2],sQ [o 1 (.box (.t 0)),o 2 (.mv (.k (.nils)))] eC⟩
def eE:SC:=.ops [o 85 (.bin .add (.t 51) (.k (.int .u64 1))),oM 51 85]
def cH:SC:=sQ [o 52 (.bin .lss (.t 51) (.t 50))] (.seq (.cond (.t 52) (.skip) (.exit 2)) (.seq (.blk 3 (sQ [oM 53 51,oM 13 53] (.seq (sQ [oM 54 13,oM 55 1,o 56 (.bin .andNot (.t 54) (.t 55)),o 57 (.bin .neq (.t 56) (.k (.int .u64 0))),oM 58 57,og 59 58 false (.mv (.t 13)),og 60 58 false (.call N.ay [.t 59]),og 61 58 false (.mv (.t 12)),og 62 58 false (.bin .neq (.t 60) (.t 61)),o 63 (.pick (.t 58) (.k (.bool true)) (.t 62)),oM 64 63,og 65 64 false (.mv (.t 13)),og 66 64 false (.mv (.t 11)),og 67 64 false (.call N.aq [.t 65,.t 66]),o 68 (.pick (.t 64) (.k (.bool true)) (.t 67))] (.cond (.t 68) (.exit 3) (.skip))) (sQ [oM 70 0,oM 71 2,oM 72 3,oM 73 13,o 74 (.call N.am [.t 70,.t 71,.t 72,.t 73]),oM 69 74,o 75 (.ext (.t 69) 0),o 76 (.ext (.t 69) 1),oM 14 75,oM 15 76] (.seq (sQ [oM 77 15,o 78 (.bin .neq (.t 77) (qI 0))] (.cond (.t 78) (sQ [oM 79 15,o 8 (.mv (.k (.nils))),oM 9 79] (.ret)) (.skip))) (sQ [oM 80 14] (.cond (.t 80) (.ops [oM 81 11,oM 82 13,o 83 (.bsl 1 1 [.int .u64 0] [0] [.t 82]),o 84 (.app 1 8 (.t 81) (.t 83)),oM 11 84]) (.skip)))))))) eE))
def eF:SC:=.ops [oA 86 45,oM 45 86]
def eG:SC:=sQ [o 46 (.bin .lss (.t 45) (.t 44))] (.seq (.cond (.t 46) (.skip) (.exit 0)) (.seq (.blk 1 (sQ [oM 47 45,oM 12 47] (sQ [oM 48 0,oN 49 48,o 50 (.bin .shl (.k (.int .u64 1)) (.t 49)),o 51 (.mv (.k (.int .u64 0)))] (.blk 2 (.loop cH))))) eF))
def eH:SC:=sQ [oM 87 11,oM 8 87,oK 9 0] (.ret)
def bg:SF:=⟨88,[.tm 8,.tm 9],sQ [o 8 (.mv (.k (.nils))),oK 9 0] (.seq (sQ [oM 16 0,o 17 (.call N.ax [.t 16]),oM 10 17] (sQ [oM 18 10,o 19 (.bin .neq (.t 18) (qI 0))] (.cond (.t 19) (sQ [oM 20 10,o 8 (.mv (.k (.nils))),oM 9 20] (.ret)) (.skip)))) (.seq (sQ [oM 21 1,oM 22 0,oN 23 22,o 24 (.bin .shr (.t 21) (.t 23)),o 25 (.bin .neq (.t 24) (.k (.int .u64 0))),oM 26 25,og 27 26 false (.mv (.t 0)),og 28 26 false (.len .slice (.t 27)),og 29 26 false (.mv (.t 2)),og 30 26 false (.mv (.t 3)),og 31 26 false (.call N.au [.t 28,.t 29,.t 30]),og 32 26 false (.not (.t 31)),o 33 (.pick (.t 26) (.k (.bool true)) (.t 32))] (.cond (.t 33) (sQ [o 8 (.mv (.k (.nils))),oK 9 2] (.ret)) (.skip))) (.seq (.quiet [oM 34 1,oM 35 2,o 36 (.bin .shl (.k (.int .u64 1)) (.t 35)),oM 37 3,o 38 (.bin .shl (.k (.int .u64 1)) (.t 37)),o 39 (.bin .or (.t 36) (.t 38)),o 40 (.bin .andNot (.t 34) (.t 39)),oM 1 40]) (sQ [o 41 (.bsl 1 0 [.int .u64 0] [] []),oM 11 41] (.seq (sQ [oM 42 1,o 43 (.call N.ay [.t 42]),oA 44 43,oK 45 0] (.blk 0 (.loop eG))) eH)))))⟩
def im:SC:=sQ [o 3 (.mkf N.ae [] [.t 1]),oM 2 3] (.ret)
def fV:SF:=⟨4,[.tm 2],sQ [o 1 (.box (.t 0)),o 2 (.mv (.k (.nilf)))] im⟩
def cJ:SF:=⟨26,[.tm 8,.tm 9],sQ [o 8 (.mv (.k (.bool false))),oK 9 0] (.seq (sQ [oM 11 0,oM 12 1,oM 13 2,oM 14 3,o 15 (.call N.aD [.t 11,.t 12,.t 13,.t 14]),oM 10 15] (sQ [oM 16 10,o 17 (.bin .neq (.t 16) (qI 0))] (.cond (.t 17) (sQ [oM 18 10,o 8 (.mv (.k (.bool false))),oM 9 18] (.ret)) (.skip)))) (sQ [oM 19 0,oM 20 1,oM 21 2,oM 22 3,o 23 (.call N.am [.t 19,.t 20,.t 21,.t 22]),o 24 (.ext (.t 23) 0),o 25 (.ext (.t 23) 1),oM 8 24,oM 9 25] (.ret)))⟩
def eM:SF:=⟨11,[.tm 2],sQ [oK 2 0] (sQ [oM 6 0,o 7 (.call N.aw [.t 6]),oM 5 7,o 8 (.ext (.t 5) 0),o 9 (.ext (.t 5) 1),o 3 (.alloc [.nils,.nils]),oz (.store 2 (.t 3) (.t 8)),oM 4 9] (sQ [oM 10 4,oM 2 10] (.ret)))⟩
def aU:SF:=⟨28,[.tm 6],sQ [o 6 (.mv (.k (.bool false)))] (sQ [oM 7 1,o 8 (.bin .geq (.t 7) (qI 0)),oM 9 8,og 10 9 true (.mv (.t 1)),og 11 9 true (.mv (.t 0)),og 12 9 true (.bin .lss (.t 10) (.t 11)),o 13 (.pick (.t 9) (.t 12) (.k (.bool false))),oM 14 13,og 15 14 true (.mv (.t 2)),og 16 14 true (.bin .geq (.t 15) (qI 0)),o 17 (.pick (.t 14) (.t 16) (.k (.bool false))),oM 18 17,og 19 18 true (.mv (.t 2)),og 20 18 true (.mv (.t 0)),og 21 18 true (.bin .lss (.t 19) (.t 20)),o 22 (.pick (.t 18) (.t 21) (.k (.bool false))),oM 23 22,og 24 23 true (.mv (.t 1)),og 25 23 true (.mv (.t 2)),og 26 23 true (.bin .neq (.t 24) (.t 25)),o 27 (.pick (.t 23) (.t 26) (.k (.bool false))),oM 6 27] (.ret))⟩
def cQ:SF:=⟨8,[.tm 2],sQ [oK 2 0] (.seq (.cond (.k (.bool false)) (sQ [oM 3 0,o 4 (.conv .u32 (.t 3)),o 5 (.call N.aM [.t 4]),oM 2 5] (.ret)) (.skip)) (sQ [oM 6 0,o 7 (.call N.aI [.t 6]),oM 2 7] (.ret)))⟩
def fA:SC:=sQ [o 10 (.bin .lss (.t 9) (.t 8))] (.seq (.cond (.t 10) (.skip) (.exit 0)) (.seq (.blk 1 (sQ [oX 11 7 9,oL 12 11,oM 6 12] (sQ [oM 13 6,oM 14 0,o 15 (.bin .andNot (.t 13) (.t 14)),o 16 (.bin .eql (.t 15) (.k (.int .u64 0)))] (.cond (.t 16) (sQ [o 4 (.mv (.k (.bool true)))] (.ret)) (.skip))))) (.ops [oA 17 9,oM 9 17])))
def fB:SC:=sQ [o 4 (.mv (.k (.bool false)))] (.ret)
def eQ:SF:=⟨18,[.tm 4],sQ [o 4 (.mv (.k (.bool false)))] (.seq (sQ [oM 7 1,oN 8 7,oK 9 0] (.blk 0 (.loop fA))) fB)⟩
def cN:SF:=⟨28,[.tm 8,.tm 9],sQ [o 8 (.mv (.k (.bool false))),oK 9 0] (.seq (sQ [oM 10 0,oM 11 1,o 12 (.call N.an [.t 10,.t 11,.k (.int .u64 0)]),oM 13 3,o 14 (.bin .and (.t 12) (.t 13)),o 15 (.bin .neq (.t 14) (.k (.int .u64 0)))] (.cond (.t 15) (sQ [o 8 (.mv (.k (.bool false))),oK 9 0] (.ret)) (.skip))) (.seq (.quiet [oM 16 0,oM 17 1,o 18 (.bin .shl (.k (.int .u64 1)) (.t 17)),o 19 (.call N.aE [.t 16,.t 18]),oM 20 1,o 21 (.bin .shl (.k (.int .u64 1)) (.t 20)),oM 22 2,o 23 (.bin .shl (.k (.int .u64 1)) (.t 22)),oM 24 3,o 25 (.call N.ap [.t 19,.t 21,.t 23,.t 24]),o 26 (.ext (.t 25) 0),o 27 (.ext (.t 25) 1),oM 8 26,oM 9 27]) (.ret)))⟩
def eK:SF:=⟨13,[.tm 5],sQ [o 5 (.mv (.k (.bool false)))] (sQ [oM 6 0,oL 7 2,o 8 (.eq false .bool (.t 6) (.t 7)),oM 9 8,og 10 9 true (.mv (.t 1)),og 11 9 true (.bin .eql (.t 10) (qI 0)),o 12 (.pick (.t 9) (.t 11) (.k (.bool false))),oM 5 12] (.ret))⟩
def bI:SF:=⟨39,[.tm 8],sQ [oK 8 0] (.seq (sQ [oM 10 0,o 11 (.call N.ax [.t 10]),oM 9 11] (sQ [oM 12 9,o 13 (.bin .neq (.t 12) (qI 0))] (.cond (.t 13) (sQ [oM 14 9,oM 8 14] (.ret)) (.skip)))) (.seq (.seq (.quiet [oM 15 0,oN 16 15,oM 17 1,oM 18 2,o 19 (.call N.au [.t 16,.t 17,.t 18]),o 20 (.not (.t 19)),oM 21 20,og 22 21 false (.mv (.t 3)),og 23 21 false (.mv (.t 0)),og 24 21 false (.len .slice (.t 23)),og 25 21 false (.bin .shr (.t 22) (.t 24)),og 26 21 false (.bin .neq (.t 25) (.k (.int .u64 0))),o 27 (.pick (.t 21) (.k (.bool true)) (.t 26)),oM 28 27,og 29 28 false (.mv (.t 3)),og 30 28 false (.mv (.t 1)),og 31 28 false (.bin .shr (.t 29) (.t 30)),og 32 28 false (.mv (.t 3)),og 33 28 false (.mv (.t 2)),og 34 28 false (.bin .shr (.t 32) (.t 33)),og 35 28 false (.bin .or (.t 31) (.t 34)),og 36 28 false (.bin .and (.t 35) (.k (.int .u64 1))),og 37 28 false (.bin .eql (.t 36) (.k (.int .u64 1))),o 38 (.pick (.t 28) (.k (.bool true)) (.t 37))]) (.cond (.t 38) (sQ [oK 8 2] (.ret)) (.skip))) (sQ [oK 8 0] (.ret))))⟩
def k_:SC:=.ops [oA 38 18,oM 18 38]
def gZ:SC:=sQ [o 19 (.bin .lss (.t 18) (.t 17))] (.seq (.cond (.t 19) (.skip) (.exit 2)) (.seq (.blk 3 (sQ [oM 20 18,oX 21 16 18,oL 22 21,oM 8 20,oM 9 22] (sQ [oM 23 9,oM 24 7,o 25 (.bin .and (.t 23) (.t 24)),o 26 (.bin .neq (.t 25) (.k (.int .u64 0))),oM 27 26,og 28 27 true (.mv (.t 2)),og 29 27 true (.mv (.t 8)),og 30 27 true (.bin .shr (.t 28) (.t 29)),og 31 27 true (.bin .and (.t 30) (.k (.int .u64 1))),og 32 27 true (.bin .eql (.t 31) (.k (.int .u64 0))),o 33 (.pick (.t 27) (.t 32) (.k (.bool false)))] (.cond (.t 33) (.ops [oM 34 7,oM 35 8,o 36 (.bin .shl (.k (.int .u64 1)) (.t 35)),o 37 (.bin .or (.t 34) (.t 36)),oM 7 37]) (.skip))))) k_))
def gY:SC:=.ops [oA 39 14,oM 14 39]
def gP:SC:=sQ [o 15 (.bin .lss (.t 14) (.t 13))] (.seq (.cond (.t 15) (.skip) (.exit 0)) (.seq (.blk 1 (sQ [oM 16 0,oN 17 16,oK 18 0] (.blk 2 (.loop gZ)))) gY))
def gN:SC:=sQ [oM 40 7,oM 6 40] (.ret)
def gv:SF:=⟨41,[.tm 6],sQ [o 6 (.mv (.k (.int .u64 0)))] (sQ [oM 10 1,o 11 (.bin .shl (.k (.int .u64 1)) (.t 10)),oM 7 11] (.seq (sQ [oM 12 0,oN 13 12,oK 14 0] (.blk 0 (.loop gP))) gN))⟩
def eT:SF:=⟨34,[.tm 8,.tm 9],sQ [o 8 (.mv (.k (.bool false))),oK 9 0] (sQ [oM 13 0,o 14 (.call N.aw [.t 13]),oM 12 14,o 15 (.ext (.t 12) 0),o 16 (.ext (.t 12) 1),o 10 (.alloc [.nils,.nils]),oz (.store 2 (.t 10) (.t 15)),oM 11 16] (.seq (sQ [oM 17 11,o 18 (.bin .neq (.t 17) (qI 0))] (.cond (.t 18) (sQ [oM 19 11,o 8 (.mv (.k (.bool false))),oM 9 19] (.ret)) (.skip))) (.seq (sQ [o 20 (.load true 2 (.t 10)),oM 21 1,oM 22 2,oM 23 3,o 24 (.bsl 1 3 [.int .u64 0] [0,1,2] [.t 21,.t 22,.t 23]),o 25 (.call N.az [.t 20,.t 24]),o 26 (.not (.t 25))] (.cond (.t 26) (sQ [o 8 (.mv (.k (.bool false))),oK 9 2] (.ret)) (.skip))) (sQ [o 27 (.load true 2 (.t 10)),oM 28 1,oM 29 3,o 30 (.call N.aG [.t 27,.t 28,.t 29]),oM 31 2,o 32 (.bin .and (.t 30) (.t 31)),o 33 (.bin .eql (.t 32) (.k (.int .u64 0))),oM 8 33,oK 9 0] (.ret)))))⟩
def fC:SC:=sQ [o 13 (.bin .lss (.t 12) (.t 11))] (.seq (.cond (.t 13) (.skip) (.exit 0)) (.seq (.blk 1 (sQ [oM 14 12,oM 6 14] (.ops [oM 15 5,oM 16 6,oX 17 15 16,oL 18 17,oM 19 1,o 20 (.bin .andNot (.t 18) (.t 19)),oX 21 15 16,oz (.store 1 (.t 21) (.t 20))]))) (.ops [oA 22 12,oM 12 22])))
def fw:SC:=sQ [oM 23 5,oM 4 23] (.ret)
def eJ:SF:=⟨24,[.tm 4],sQ [o 4 (.mv (.k (.nils)))] (sQ [o 7 (.bsl 1 0 [.int .u64 0] [] []),oM 8 0,o 9 (.app 1 8 (.t 7) (.t 8)),oM 5 9] (.seq (sQ [oM 10 5,oN 11 10,oK 12 0] (.blk 0 (.loop fC))) fw))⟩
def dQ:SC:=sQ [o 44 (.bin .lss (.t 43) (.t 42))] (.seq (.cond (.t 44) (.skip) (.exit 2)) (.seq (.blk 3 (sQ [oM 45 43,oM 7 45] (.feet [0,1,0,7,15,0,0,96,224,0,992,2047,4095,8191] [oF 46 1 4,oL 47 46,oM 48 7,oX 49 47 48,oL 50 49,oM 51 6,oM 52 7,o 53 (.bin .shr (.t 51) (.t 52)),o 54 (.bin .and (.t 53) (.k (.int .u64 1))),oM 55 5,o 56 (.bin .shl (.t 54) (.t 55)),o 57 (.bin .or (.t 50) (.t 56)),oX 58 47 48,oz (.store 1 (.t 58) (.t 57))]))) (.ops [oA 59 43,oM 43 59])))
def f8:SC:=.ops [oA 60 30,oM 30 60]
def dP:SC:=sQ [o 31 (.bin .lss (.t 30) (.t 29))] (.seq (.cond (.t 31) (.skip) (.exit 0)) (.seq (.blk 1 (sQ [oM 32 30,oX 33 28 30,oL 34 33,oM 5 32,oM 6 34] (.seq (sQ [oM 35 6,oM 36 0,oN 37 36,o 38 (.bin .shr (.t 35) (.t 37)),o 39 (.bin .neq (.t 38) (.k (.int .u64 0)))] (.cond (.t 39) (sQ [o 40 (.build [.nils,.nils] [] []),oz (.store 2 (.t 2) (.t 40)),oK 3 70] (.ret)) (.skip))) (sQ [oM 41 0,oN 42 41,oK 43 0] (.blk 2 (.loop dQ)))))) f8))
def dO:SC:=sQ [o 72 (.bin .lss (.t 71) (.t 70))] (.seq (.cond (.t 72) (.skip) (.exit 6)) (.seq (.blk 7 (sQ [oM 73 71,oX 74 69 71,oL 75 74,oM 9 73,oM 10 75] (sQ [oM 76 8,oM 77 9,o 78 (.bin .shr (.t 76) (.t 77)),o 79 (.bin .and (.t 78) (.k (.int .u64 1))),o 80 (.bin .eql (.t 79) (.k (.int .u64 0))),oM 81 80,og 82 81 true (.mv (.t 10)),og 83 81 true (.mv (.t 8)),og 84 81 true (.bin .andNot (.t 82) (.t 83)),og 85 81 true (.bin .eql (.t 84) (.k (.int .u64 0))),o 86 (.pick (.t 81) (.t 85) (.k (.bool false)))] (.cond (.t 86) (sQ [oM 87 8,oM 88 9,o 89 (.bin .shl (.k (.int .u64 1)) (.t 88)),o 90 (.bin .or (.t 87) (.t 89)),oM 8 90] (.exit 5)) (.skip))))) (.ops [oA 91 71,oM 71 91])))
def gt:SC:=sQ [o 92 (.build [.nils,.nils] [] []),oz (.store 2 (.t 2) (.t 92)),oK 3 70] (.ret)
def f7:SC:=.ops [oA 93 65,oM 65 93]
def dN:SC:=sQ [o 66 (.bin .lss (.t 65) (.t 64))] (.seq (.cond (.t 66) (.skip) (.exit 4)) (.seq (.blk 5 (.seq (sQ [oF 67 0 4,oF 68 0 67,oL 69 68,oN 70 69,oK 71 0] (.blk 6 (.loop dO))) gt)) f7))
def fW:SC:=sQ [o 94 (.load true 2 (.t 4)),oz (.store 2 (.t 2) (.t 94)),oK 3 0] (.ret)
def gy:SC:=sQ [o 8 (.mv (.k (.int .u64 0)))] (.seq (.skip) (.seq (sQ [oF 61 0 4,oF 62 0 61,oL 63 62,oN 64 63,oK 65 0] (.blk 4 (.loop dN))) fW))
def cK:SC:=.seq (sQ [oM 11 0,oN 12 11,o 13 (.bin .lss (.t 12) (qI 1)),oM 14 13,og 15 14 false (.mv (.t 0)),og 16 14 false (.len .slice (.t 15)),og 17 14 false (.bin .gtr (.t 16) (qI 8)),o 18 (.pick (.t 14) (.k (.bool true)) (.t 17))] (.cond (.t 18) (sQ [o 19 (.build [.nils,.nils] [] []),oz (.store 2 (.t 2) (.t 19)),oK 3 70] (.ret)) (.skip))) (sQ [oM 20 0,o 21 (.build [.nils] [(0,1)] [.t 20]),oM 22 0,oN 23 22,o 24 (.mks 1 8 [.int .u64 0] (.t 23) (.t 23)),o 25 (.build [.nils,.nils] [(0,1),(1,1)] [.t 21,.t 24]),o 4 (.alloc [.nils,.nils]),oz (.store 2 (.t 4) (.t 25))] (.seq (sQ [oF 26 0 4,oF 27 0 26,oL 28 27,oN 29 28,oK 30 0] (.blk 0 (.loop dP))) gy))
def cz:SF:=⟨95,[.cell true 2 2,.tm 3],sQ [o 2 (.alloc [.nils,.nils]),oK 3 0] cK⟩
def cm:SF:=⟨35,[.tm 2],sQ [oK 2 0] (sQ [oM 3 0,o 4 (.bin .shr (.t 3) (.k (.int .u64 1))),o 5 (.bin .and (.t 4) (.k (.int .u64 6148914691236517205))),oM 6 0,o 7 (.bin .and (.t 6) (.k (.int .u64 6148914691236517205))),o 8 (.bin .add (.t 5) (.t 7)),oM 0 8] (sQ [oM 9 0,o 10 (.bin .shr (.t 9) (.k (.int .u64 2))),o 11 (.bin .and (.t 10) (.k (.int .u64 3689348814741910323))),oM 12 0,o 13 (.bin .and (.t 12) (.k (.int .u64 3689348814741910323))),o 14 (.bin .add (.t 11) (.t 13)),oM 0 14] (sQ [oM 15 0,o 16 (.bin .shr (.t 15) (.k (.int .u64 4))),oM 17 0,o 18 (.bin .add (.t 16) (.t 17)),o 19 (.bin .and (.t 18) (.k (.int .u64 1085102592571150095))),oM 0 19] (sQ [oM 20 0,oM 21 0,o 22 (.bin .shr (.t 21) (.k (.int .u64 8))),o 23 (.bin .add (.t 20) (.t 22)),oM 0 23] (sQ [oM 24 0,oM 25 0,o 26 (.bin .shr (.t 25) (.k (.int .u64 16))),o 27 (.bin .add (.t 24) (.t 26)),oM 0 27] (sQ [oM 28 0,oM 29 0,o 30 (.bin .shr (.t 29) (.k (.int .u64 32))),o 31 (.bin .add (.t 28) (.t 30)),oM 0 31] (sQ [oM 32 0,o 33 (.conv .i64 (.t 32)),o 34 (.bin .and (.t 33) (qI 127)),oM 2 34] (.ret))))))))⟩
def cA:SC:=sQ [o 11 (.bin .lss (.t 10) (.t 9))] (.seq (.cond (.t 11) (.skip) (.exit 0)) (.seq (.blk 1 (sQ [oX 12 8 10,oL 13 12,oM 7 13] (.seq (sQ [oM 14 7,oF 15 0 2,oF 16 0 15,oL 17 16,oN 18 17,o 19 (.bin .shr (.t 14) (.t 18)),o 20 (.bin .neq (.t 19) (.k (.int .u64 0))),oM 21 20,og 22 21 false (.mv (.t 7)),og 23 21 false (.mv (.t 5)),og 24 21 false (.bin .and (.t 22) (.t 23)),og 25 21 false (.bin .neq (.t 24) (.k (.int .u64 0))),o 26 (.pick (.t 21) (.k (.bool true)) (.t 25))] (.cond (.t 26) (sQ [o 4 (.mv (.k (.bool false)))] (.ret)) (.skip))) (.ops [oM 27 5,oM 28 7,o 29 (.bin .or (.t 27) (.t 28)),oM 5 29])))) (.ops [oA 30 10,oM 10 30])))
def cC:SC:=sQ [o 4 (.mv (.k (.bool true)))] (.ret)
def cM:SC:=sQ [o 5 (.mv (.k (.int .u64 0)))] (.seq (sQ [oM 8 1,oN 9 8,oK 10 0] (.blk 0 (.loop cA))) cC)
def bL:SF:=⟨31,[.tm 4],sQ [o 2 (.box (.t 0)),o 4 (.mv (.k (.bool false)))] cM⟩
def dk:SC:=.ops [oA 38 25,oM 25 38]
def di:SC:=sQ [o 26 (.bin .lss (.t 25) (.t 24))] (.seq (.cond (.t 26) (.skip) (.exit 2)) (.seq (.blk 3 (sQ [oM 27 25,oX 28 23 25,oL 29 28,oM 8 27,oM 9 29] (sQ [oL 30 7,oM 31 8,o 32 (.bin .shr (.t 30) (.t 31)),o 33 (.bin .and (.t 32) (.k (.int .u64 1))),o 34 (.bin .eql (.t 33) (.k (.int .u64 1)))] (.cond (.t 34) (.ops [oL 35 7,oM 36 9,o 37 (.bin .or (.t 35) (.t 36)),oz (.store 1 (.t 7) (.t 37))]) (.skip))))) dk))
def gF:SC:=.ops [oA 39 19,oM 19 39]
def gH:SC:=sQ [o 20 (.bin .lss (.t 19) (.t 18))] (.seq (.cond (.t 20) (.skip) (.exit 0)) (.seq (.blk 1 (sQ [oF 21 0 3,oF 22 0 21,oL 23 22,oN 24 23,oK 25 0] (.blk 2 (.loop di)))) gF))
def dj:SC:=.ops [oM 13 44]
def dh:SC:=.blk 5 (.ops [oL 45 12,oM 46 13,o 47 (.build [.int .i64 0,.bool false] [(0,1),(1,1)] [.t 46,.k (.bool false)]),o 48 (.dyn (.t 45) [.t 47])])
def dl:SC:=sQ [oL 49 10,oM 6 49] (.ret)
def bb:SC:=sQ [o 40 (.raw (.makeMap 125 none)),o 10 (.alloc [.int .u64 0]),o 11 (.alloc [.nilm]),oz (.store 1 (.t 10) (.k (.int .u64 0))),oz (.store 1 (.t 11) (.t 40))] (sQ [o 12 (.alloc [.nilf])] (sQ [o 41 (.mkf N.aA [] [.t 11,.t 5,.t 10,.t 3,.t 12,.t 7]),oz (.store 1 (.t 12) (.t 41))] (.seq (sQ [oM 42 1,o 43 (.call N.aa [.t 42])] (.blk 4 (.rng 50 (.t 43) [44] dj dh))) dl)))
def dB:SC:=sQ [oL 14 5,o 7 (.alloc [.int .u64 0]),oz (.store 1 (.t 7) (.t 14))] (.seq (sQ [oF 15 0 3,oF 16 0 15,oL 17 16,oN 18 17,oK 19 0] (.blk 0 (.loop gH))) bb)
def b_:SF:=⟨50,[.tm 6],sQ [o 3 (.box (.t 0)),o 5 (.box (.t 2)),o 6 (.mv (.k (.int .u64 0)))] dB⟩
def a8:SC:=.ops [oM 8 33]
def aZ:SC:=.blk 1 (.ops [oL 34 5,oM 35 8,o 36 (.build [.int .i64 0,.bool false] [(0,1),(1,1)] [.t 35,.k (.bool true)]),o 37 (.dyn (.t 34) [.t 36])])
def a_:SC:=.ops [oM 9 69]
def a7:SC:=.blk 3 (.ops [oL 70 5,oM 71 9,o 72 (.build [.int .i64 0,.bool false] [(0,1),(1,1)] [.t 71,.k (.bool false)]),o 73 (.dyn (.t 70) [.t 72])])
def a9:SC:=.seq (sQ [oF 38 1 7,oL 39 38,oM 40 39,og 41 40 true (.load false 1 (.t 6)),og 42 40 true (.fad 0 (.t 7)),og 43 40 true (.load false 1 (.t 42)),og 44 40 true (.bin .shr (.t 41) (.t 43)),og 45 40 true (.bin .and (.t 44) (.k (.int .u64 1))),og 46 40 true (.bin .eql (.t 45) (.k (.int .u64 0))),o 47 (.pick (.t 40) (.t 46) (.k (.bool false))),oM 48 47,og 49 48 false (.fad 1 (.t 7)),og 50 48 false (.load false 1 (.t 49)),og 51 48 false (.not (.t 50)),og 52 48 false (.mv (.t 51)),og 53 52 true (.load false 1 (.t 2)),og 54 52 true (.fad 0 (.t 7)),og 55 52 true (.load false 1 (.t 54)),og 56 52 true (.bin .shr (.t 53) (.t 55)),og 57 52 true (.bin .and (.t 56) (.k (.int .u64 1))),og 58 52 true (.bin .eql (.t 57) (.k (.int .u64 1))),og 59 48 false (.pick (.t 52) (.t 58) (.k (.bool false))),o 60 (.pick (.t 48) (.k (.bool true)) (.t 59))] (.cond (.t 60) (.ret) (.skip))) (sQ [oF 61 0 4,oF 62 0 61,oL 63 62,oF 64 0 7,oL 65 64,oX 66 63 65,oL 67 66,o 68 (.call N.aa [.t 67])] (.blk 2 (.rng 74 (.t 68) [69] a_ a7)))
def cP:SC:=.seq (sQ [oL 10 1,o 11 (.load true 2 (.t 7)),o 12 (.raw (.lookup 125 (.tmp 10) (.tmp 11) false))] (.cond (.t 12) (.ret) (.skip))) (sQ [oL 13 1,o 14 (.load true 2 (.t 7)),oz (.raw (.mapUpdate 125 (.tmp 13) (.tmp 14) (.const (.bool true))))] (.seq (sQ [oL 15 2,oF 16 0 7,oL 17 16,o 18 (.bin .shr (.t 15) (.t 17)),o 19 (.bin .and (.t 18) (.k (.int .u64 1))),o 20 (.bin .eql (.t 19) (.k (.int .u64 0)))] (.cond (.t 20) (.seq (.feet [0,0,2,6,15,31] [oL 21 3,oF 22 0 7,oL 23 22,o 24 (.bin .shl (.k (.int .u64 1)) (.t 23)),o 25 (.bin .or (.t 21) (.t 24)),oz (.store 1 (.t 3) (.t 25))]) (sQ [oF 26 1 4,oL 27 26,oF 28 0 7,oL 29 28,oX 30 27 29,oL 31 30,o 32 (.call N.aa [.t 31])] (.blk 0 (.rng 74 (.t 32) [33] a8 aZ)))) (.skip))) a9))
def bT:SF:=⟨74,[],sQ [o 7 (.box (.t 0))] cP⟩
def fg:SC:=sQ [o 3 (.mkf N.ah [] [.t 1]),oM 2 3] (.ret)
def dK:SF:=⟨4,[.tm 2],sQ [o 1 (.box (.t 0)),o 2 (.mv (.k (.nilf)))] fg⟩
def dV:SC:=.seq (sQ [oM 5 3,o 6 (.bin .neq (.t 5) (.k (.int .u64 0)))] (.cond (.t 6) (.skip) (.exit 0))) (.seq (.blk 1 (sQ [oM 11 0,oM 12 3,o 13 (.call N.aH [.t 12]),o 14 (.dyn (.t 11) [.t 13]),o 15 (.not (.t 14))] (.cond (.t 15) (.ret) (.skip)))) (.ops [oM 7 3,oM 8 3,o 9 (.bin .sub (.t 8) (.k (.int .u64 1))),o 10 (.bin .and (.t 7) (.t 9)),oM 3 10]))
def aX:SF:=⟨16,[],sQ [oL 4 1,oM 3 4] (.blk 0 (.loop dV))⟩
def bU:SF:=⟨8,[.tm 2],sQ [oK 2 0] (.seq (.cond (.k (.bool false)) (sQ [oM 3 0,o 4 (.conv .u32 (.t 3)),o 5 (.call N.aL [.t 4]),oM 2 5] (.ret)) (.skip)) (sQ [oM 6 0,o 7 (.call N.aB [.t 6]),oM 2 7] (.ret)))⟩
def bE:SF:=⟨14,[.tm 2],sQ [oK 2 0] (.seq (sQ [oM 3 0,o 4 (.bin .eql (.t 3) (.k (.int .u64 0)))] (.cond (.t 4) (sQ [oK 2 64] (.ret)) (.skip))) (sQ [oM 5 0,oM 6 0,o 7 (.un .neg (.t 6)),o 8 (.bin .and (.t 5) (.t 7)),o 9 (.bin .mul (.t 8) (.k (.int .u64 285870213051353865))),o 10 (.bin .shr (.t 9) (.k (.int .u64 58))),o 11 (.ixa 64 1 (.k (.tptr 0 64 [[.int .u8 0,.int .u8 1,.int .u8 56,.int .u8 2,.int .u8 57,.int .u8 49,.int .u8 28,.int .u8 3,.int .u8 61,.int .u8 58,.int .u8 42,.int .u8 50,.int .u8 38,.int .u8 29,.int .u8 17,.int .u8 4,.int .u8 62,.int .u8 47,.int .u8 59,.int .u8 36,.int .u8 45,.int .u8 43,.int .u8 51,.int .u8 22,.int .u8 53,.int .u8 39,.int .u8 33,.int .u8 30,.int .u8 24,.int .u8 18,.int .u8 12,.int .u8 5,.int .u8 63,.int .u8 55,.int .u8 48,.int .u8 27,.int .u8 60,.int .u8 41,.int .u8 37,.int .u8 16,.int .u8 46,.int .u8 35,.int .u8 44,.int .u8 21,.int .u8 52,.int .u8 32,.int .u8 23,.int .u8 11,.int .u8 54,.int .u8 26,.int .u8 40,.int .u8 15,.int .u8 34,.int .u8 20,.int .u8 31,.int .u8 10,.int .u8 25,.int .u8 14,.int .u8 19,.int .u8 9,.int .u8 13,.int .u8 8,.int .u8 7,.int .u8 6]] 0 0)) (.t 10)),oL 12 11,o 13 (.conv .i64 (.t 12)),oM 2 13] (.ret)))⟩
theorem jz:nFn C0 N.aJ=some dq:=by kernel_rfl
theorem jv:nFn C0 N.aF=some dm:=by kernel_rfl
theorem iF (d:Nat)(xs:List AV)(g:G):aL C0 d N.aF xs g=aq (I C0) d g N.aF xs:=by kernel_rfl
theorem jS:nFn C0 N.aC=some bg:=by kernel_rfl
theorem iV (d:Nat)(xs:List AV)(g:G):aL C0 d N.aC xs g=aq (I C0) d g N.aC xs:=by kernel_rfl
theorem mW:nFn C0 N.ak=some fV:=by kernel_rfl
theorem lu (t:T)(g:G)(xs:List Od):SO.foot C0 t g (.call N.ak xs)=an ((fd t xs).flatMap (au g.h ax)):=by kernel_rfl
theorem lS (d:Nat)(xs:List AV)(g:G):aL C0 d N.ak xs g=aq (I C0) d g N.ak xs:=by kernel_rfl
theorem kp:nFn C0 N.af=some cJ:=by kernel_rfl
theorem jq (t:T)(g:G)(xs:List Od):SO.foot C0 t g (.call N.af xs)=an ((fd t xs).flatMap (au g.h ax)):=by kernel_rfl
theorem jo (d:Nat)(xs:List AV)(g:G):aL C0 d N.af xs g=aq (I C0) d g N.af xs:=by kernel_rfl
theorem kK:nFn C0 N.ax=some eM:=by kernel_rfl
theorem jO (d:Nat)(xs:List AV)(g:G):aL C0 d N.ax xs g=aq (I C0) d g N.ax xs:=by kernel_rfl
theorem kE:nFn C0 N.au=some aU:=by kernel_rfl
theorem js (d:Nat)(xs:List AV)(g:G):aL C0 d N.au xs g=aq (I C0) d g N.au xs:=by kernel_rfl
theorem iW:nFn C0 N.ay=some cQ:=by kernel_rfl
theorem ik (d:Nat)(xs:List AV)(g:G):aL C0 d N.ay xs g=aq (I C0) d g N.ay xs:=by kernel_rfl
theorem li:nFn C0 N.aq=some eQ:=by kernel_rfl
theorem jR (d:Nat)(xs:List AV)(g:G):aL C0 d N.aq xs g=aq (I C0) d g N.aq xs:=by kernel_rfl
theorem kJ:nFn C0 N.am=some cN:=by kernel_rfl
theorem ja (d:Nat)(xs:List AV)(g:G):aL C0 d N.am xs g=aq (I C0) d g N.am xs:=by kernel_rfl
theorem lz:nFn C0 N.ae=some eK:=by kernel_rfl
theorem mS:nFn C0 N.aD=some bI:=by kernel_rfl
theorem lI (d:Nat)(xs:List AV)(g:G):aL C0 d N.aD xs g=aq (I C0) d g N.aD xs:=by kernel_rfl
theorem mV:nFn C0 N.an=some gv:=by kernel_rfl
theorem kT (d:Nat)(xs:List AV)(g:G):aL C0 d N.an xs g=aq (I C0) d g N.an xs:=by kernel_rfl
theorem kY:nFn C0 N.ap=some eT:=by kernel_rfl
theorem jP (d:Nat)(xs:List AV)(g:G):aL C0 d N.ap xs g=aq (I C0) d g N.ap xs:=by kernel_rfl
theorem kN:nFn C0 N.aE=some eJ:=by kernel_rfl
theorem jN (d:Nat)(xs:List AV)(g:G):aL C0 d N.aE xs g=aq (I C0) d g N.aE xs:=by kernel_rfl
theorem mj:nFn C0 N.aw=some cz:=by kernel_rfl
theorem kn (d:Nat)(xs:List AV)(g:G):aL C0 d N.aw xs g=aq (I C0) d g N.aw xs:=by kernel_rfl
theorem ii:nFn C0 N.aI=some cm:=by kernel_rfl
theorem gK (d:Nat)(xs:List AV)(g:G):aL C0 d N.aI xs g=aq (I C0) d g N.aI xs:=by kernel_rfl
theorem gn:nFn C0 N.az=some bL:=by kernel_rfl
theorem fm (d:Nat)(xs:List AV)(g:G):aL C0 d N.az xs g=aq (I C0) d g N.az xs:=by kernel_rfl
theorem io:nFn C0 N.aG=some b_:=by kernel_rfl
theorem gD (d:Nat)(xs:List AV)(g:G):aL C0 d N.aG xs g=aq (I C0) d g N.aG xs:=by kernel_rfl
theorem gG:nFn C0 N.aA=some bT:=by kernel_rfl
theorem jM:nFn C0 N.aa=some dK:=by kernel_rfl
theorem iU (d:Nat)(xs:List AV)(g:G):aL C0 d N.aa xs g=aq (I C0) d g N.aa xs:=by kernel_rfl
theorem iX:nFn C0 N.ah=some aX:=by kernel_rfl
theorem gI:nFn C0 N.aH=some bU:=by kernel_rfl
theorem fH (d:Nat)(xs:List AV)(g:G):aL C0 d N.aH xs g=aq (I C0) d g N.aH xs:=by kernel_rfl
theorem fK:nFn C0 N.aB=some bE:=by kernel_rfl
theorem fh (d:Nat)(xs:List AV)(g:G):aL C0 d N.aB xs g=aq (I C0) d g N.aB xs:=by kernel_rfl
theorem iQ {α:Type}{f:Nat->α->Nat->α->Bool}{i:Nat}{x:α}:∀{l:List α} {j:Nat},(∀b y,l[b]?=some y->f i x (j+b) y=true)->cY f i x j l=true
 | [],_,_=>rfl
 | y::r,j,h=>by
  simp only[cY,Bool.and_eq_true]
  refine ⟨by simpa using h 0 y rfl,iQ fun b z hb=>?_⟩
  have:=h (b+1) z (by simpa using hb)
  rwa [show j+(b+1)=j+1+b by omega] at this
theorem mJ {α:Type}{f:Nat->α->Nat->α->Bool}:∀{l:List α} {i:Nat},(∀a b x y,a<b->l[a]?=some x->l[b]?=some y->f (i+a) x (i+b) y=true)->fc f i l=true
 | [],_,_=>rfl
 | x::r,i,h=>by
  simp only[fc,Bool.and_eq_true]
  refine ⟨iQ fun b y hb=>?_,mJ fun a b x' y hab ha hb=>?_⟩
  ·have:=h 0 (b+1) x y (by omega) rfl (by simpa using hb)
   rwa [Nat.add_zero,show i+(b+1)=i+1+b by omega] at this
  ·have:=h (a+1) (b+1) x' y (by omega) (by simpa using ha) (by simpa using hb)
   rwa [show i+(a+1)=i+1+a by omega,show i+(b+1)=i+1+b by omega] at this
theorem mO {pm:List Nat}:∀{l:List Foot} {i:Nat},(∀f∈l,f.lk.sr=[])->jd pm i l=true
 | [],_,_=>rfl
 | x::r,i,h=>by
  simp only[jd,h x (by simp)]
  exact mO fun f hf=>h f (by simp[hf])
def y4 (pm:List Nat)(ws:List Bool)(L:List (Nat×Nat))(i j:Nat):Bool:=(pm.getD j 0).testBit i || (!(ws.getD i false)&&!(ws.getD j false)) || L.contains (i,j)
def Ar (pm:List Nat)(ws:List Bool)(L:List (Nat×Nat)):Bool:=(List.range ws.length).all fun j=>(List.range j).all fun i=>y4 pm ws L i j
theorem gC {pm:List Nat}{fs:List Foot}(ws:List Bool)(L:List (Nat×Nat))(hw:All2 (fun (f:Foot) (w:Bool)=>f.lk.sr=[]/\(w=false->f.wr=[])) fs ws)(hd:Ar pm ws L=true)
  (hL:∀p∈L,∀x y,fs[p.1]?=some x->fs[p.2]?=some y->cV x y=true):iO pm fs=true:=by
 unfold iO
 rw[aa,if_pos]
 ·exact mO fun f hf=>by
   obtain ⟨i,hi,rfl⟩:=List.mem_iff_getElem.1 hf
   obtain ⟨w,-,h⟩:=hw.get (List.getElem?_eq_getElem hi)
   exact h.1
 ·refine mJ fun a b x y hab ha hb=>?_
  simp only[Nat.zero_add]
  obtain ⟨wa,hwa,ka⟩:=hw.get ha
  obtain ⟨wb,hwb,kb⟩:=hw.get hb
  have hbl:=(List.getElem?_eq_some_iff.1 hwb).1
  have:=List.all_eq_true.1 (List.all_eq_true.1 hd b (List.mem_range.2 hbl)) a (List.mem_range.2 hab)
  simp only[y4,Bool.or_eq_true] at this
  rcases this with (h | h) | h
  ·rw[h,Bool.true_or]
  ·simp only[List.getD_eq_getElem?_getD,hwa,hwb,Option.getD_some,Bool.and_eq_true,Bool.not_eq_true'] at h
   have ex:=ka.2 h.1
   have ey:=kb.2 h.2
   simp only[cV,ir,fT,ex,ey,Bool.and_self,Bool.or_true]
  ·rw[hL (a,b) (List.contains_iff_mem.1 h) x y ha hb,Bool.or_true]
structure Mech where
 card:Int
 frm:List Int
 noise:List Int
 out:List Int
structure Causal where
 grain:Int
 roots:List (List Int)
 nodes:List Mech
structure Node where
 card:Int
 parents:List Int
 rows:List (List Int)
structure Net where
 grain:Int
 nodes:List Node
structure Factor where
 vars:List Int
 cards:List Int
 w:List Int
instance : Rp Mech:=Rp.via fun m:Mech=>(m.card,m.frm,m.noise,m.out)
instance : Rp Causal:=Rp.via fun m:Causal=>(m.grain,m.roots,m.nodes)
instance : Rp Node:=Rp.via fun m:Node=>(m.card,m.parents,m.rows)
instance : Rp Net:=Rp.via fun m:Net=>(m.grain,m.nodes)
instance : Rp Factor:=Rp.via fun m:Factor=>(m.vars,m.cards,m.w)
section
variable {P:Nat->Prop}{k:Nat}{h:H}{cs:List AV}
end
theorem SlR.len {α:Type} [Rp α]{P:Nat->Prop}{k:Nat}{h:H}{l:List α}{v:AV}(r:SlR P k h l v)(g:G):fp .slice v g=.val (.int .i64 (l.length:Int)):=by
 obtain ⟨rows,h1,h2⟩:=r.rows
 rw[xl h1,h2.len]
theorem SlR.tree {α:Type} [Rp α]{k k':Nat}{h h':H}{l:List α}{v:AV}(r:SlR NoP k h l v)(hk:k<=k'):SlR NoP k' h' l v:=by
 obtain ⟨w,hw,q⟩:=Rp.tree (P:=NoP) (k':=k') (h':=h') (show Rp.rp NoP k h l [v] from ⟨v,rfl,r⟩) hk
 injection hw with hw;subst hw;exact q
theorem qE {α:Type} [Rp α]{P:Nat->Prop}{k:Nat}{h:H}{l:List α}{v:AV}(r:SlR P k h l v)(d:Nat)(hd:Rp.dp (List α)<=20:=by decide) :
  ∃v',Hx.snap h d ax v=some v'/\∀h',SlR NoP (max k d) h' l v':=by
 obtain ⟨v',e,w,hw,q⟩:=xI (dD l hd) (by decide) d (show One l P k h v from ⟨v,rfl,r⟩)
 injection hw with hw;subst hw
 exact ⟨v',e,fun h'=>q.tree (Nat.le_refl _)⟩
theorem SlR.all {α:Type} [Rp α]{k:Nat}{h:H}{l:List α}{v:AV}(r:SlR NoP k h l v) :
  ∃rows:List (List AV),(∀h',aw h' (Rp.sz α) v=some rows)/\rows.length=l.length/\(∀(i:Nat) (x:α),l[i]?=some x->∃row,rows[i]?=some row/\Rp.rp NoP k .nil x row)/\(0<l.length->nc v=true):=by
 have r0:=(r.tree (h':=.nil) (Nat.le_refl _))
 obtain ⟨rows,h1,h2⟩:=r0.rows
 refine ⟨rows,fun h'=>?_,h2.len.symm,fun i x hi=>h2.get hi,fun hl=>qr h1 (i:=0) (by rw[<-h2.len];exact hl)⟩
 rw[<-h1]
 exact mC fun id ep off len lim e=>by subst e;exact r.2.1.elim
theorem cx {P:Nat->Prop}{k:Nat}{h:H}{l:List Nat}{v:AV}(r:SlR P k h l v):∀x∈l,x<18446744073709551616:=by
 obtain ⟨rows,h1,h2⟩:=r.rows
 intro x hx
 obtain ⟨i,hi,e⟩:=List.mem_iff_getElem.1 hx
 obtain ⟨row,h3,h4⟩:=h2.get (i:=i) (a:=x) (by rw[List.getElem?_eq_getElem hi,e])
 exact (tR.1 h4).2
end
end Hx
end
section
namespace Hx
open Go
noncomputable section
theorem pw {C:Cfg}{nt d:Nat}{rd:Option Nat}{c:Code}{t:T}{df:List ADf}{g:G}{Q:QT}(h:wp C d rd (cX C nt c) Q t df g):((I C).code nt d rd c t df g).sat Q:=by
 rw[tY];exact Bj _ _ _ _ _ h
end
end Hx
end
section
section
namespace Hx
open Go
noncomputable section
theorem cZ {α:Type}{l:List α}{j:Nat}(h:j<l.length):∃x,l[j]?=some x/\l.take (j+1)=l.take j++[x]/\x∈l :=
 ⟨l[j],List.getElem?_eq_getElem h,by rw[List.take_add_one,List.getElem?_eq_getElem h];rfl,List.getElem_mem h⟩
def S.bM (l:List Int):Int:=l.foldl (fun s x=>IntKind.wrap .i64 (s*x)) 1
def S.bu (l:List Int)(n:Int)(i:Nat):Bool:=decide (0<=l[i]?.getD 0)&&decide (l[i]?.getD 0<n)&&(i == 0 || decide (l[i - 1]?.getD 0<l[i]?.getD 0))
def S.a_ (l:List Int)(n:Int):Bool:=(List.range l.length).all (S.bu l n)
def S.aD (n:Nat):Nat:=1*2 ^ n % 18446744073709551616
def S.bj (l:List Int):Nat:=l.foldl (fun s x=>s ||| S.aD x.toNat) 0
theorem qz (n:Nat):S.aD n<18446744073709551616:=Nat.mod_lt _ (by decide)
theorem aW (k':IntKind)(n:Nat):aT .shl (.int .u64 1) (.int k' (n:Int))=.val (.int .u64 (S.aD n:Int)):=vv k' 1 n
def S.a8 (s v:Nat):Bool:=s / 2 ^ v &&& 1 == 1
def S.az (p:List Nat)(s:Nat)(j:Nat):Nat:=(List.range j).foldl (fun s v=>if S.a8 s v then s ||| p[v]?.getD 0 else s) s
def S.up (p:List Nat)(s:Nat)(j:Nat):Nat:=(List.range j).foldl (fun s _=>S.az p s p.length) s
theorem eW (p:List Nat)(s j:Nat):S.az p s (j+1)=if S.a8 (S.az p s j) j then S.az p s j ||| p[j]?.getD 0 else S.az p s j:=by
 unfold S.az
 rw[List.range_succ,List.foldl_append];rfl
theorem gW (p:List Nat)(s j:Nat):S.up p s (j+1)=S.az p (S.up p s j) p.length:=by
 unfold S.up
 rw[List.range_succ,List.foldl_append];rfl
def S.aK (p:List Nat):Bool:=(List.range p.length).all fun v=>!S.a8 (S.up p (p[v]?.getD 0) p.length) v
def S.aE (l:List Int):Int:=l.foldl (·*·) 1
def S.bF (m:Causal)(p:Int):Int:=(m.nodes[p.toNat]?.map (·.card)).getD 0
def S.bG (m:Causal)(r:Int):Int:=(m.roots[r.toNat]?.map fun r=>(r.length:Int)).getD 0
def S.aW (a b:Nat):Nat:=a ^^^ (a &&& b)
theorem dM {n:Nat}(h:n<64):S.aD n=2 ^ n:=by
 unfold S.aD
 rw[Nat.one_mul,Nat.mod_eq_of_lt]
 exact Nat.pow_lt_pow_right (a:=2) (by decide) h
def S.bI (m:Causal)(x:Mech):List Int:=x.frm.map (S.bF m)++x.noise.map (S.bG m)
def S.bJ (m:Causal):Int:=S.aE (m.roots.map fun r=>(r.length:Int))
end
end Hx
end
section
namespace Hx
open Go
def Sub (a s:Nat):Prop:=∀v,a.testBit v=true->s.testBit v=true
theorem lF (s v:Nat):S.a8 s v=s.testBit v:=by
 rw[Nat.testBit_eq_decide_div_mod_eq,S.a8,Nat.and_one_is_mod]
 rw[Bool.eq_iff_iff,beq_iff_eq,decide_eq_true_iff]
theorem pQ {a s:Nat}:S.aW a s=0↔Sub a s:=by
 constructor
 ·intro h v hv
  have:=congrArg (·.testBit v) h
  simp[S.aW,hv] at this
  exact this
 ·intro h
  refine Nat.eq_of_testBit_eq fun v=>?_
  have:=h v
  simp only[S.aW,Nat.testBit_xor,Nat.testBit_and,Nat.zero_testBit]
  cases ha:a.testBit v
  ·rfl
  ·rw[this ha];rfl
theorem iS (a b v:Nat):(a ||| b).testBit v=(a.testBit v || b.testBit v):=Nat.testBit_or a b v
theorem sZ {n:Nat}(h:n<64)(v:Nat):(S.aD n).testBit v=decide (n=v):=by rw[dM h,Nat.testBit_two_pow]
section
variable {p:List Nat}
def Par (p:List Nat)(v:Nat):Nat:=p[v]?.getD 0
def Cl (p:List Nat)(s:Nat):Prop:=∀v,v<p.length->s.testBit v=true->Sub (Par p v) s
theorem pD {s t:Nat}(hc:Cl p t)(h:Sub s t):∀j,j<=p.length->Sub (S.az p s j) t
 | 0,_=>h
 | j+1,hj=>by
  have ih:=pD hc h j (by omega)
  rw[eW]
  split
  ·rename_i hb
   rw[lF] at hb
   intro v hv
   rw[iS,Bool.or_eq_true] at hv
   rcases hv with hv | hv
   ·exact ih v hv
   ·exact hc j (by omega) (ih j hb) v hv
  ·exact ih
theorem nr {s t:Nat}(hc:Cl p t)(h:Sub s t):∀j,Sub (S.up p s j) t
 | 0=>h
 | j+1=>by rw[gW];exact pD hc (nr hc h j) _ (Nat.le_refl _)
def uh (p:List Nat)(s:Nat):Prop:=Cl p s/\∀v,v<p.length->s.testBit v=true->(S.up p (Par p v) p.length).testBit v=false
theorem kZ:S.aK p=true↔∀v,v<p.length->(S.up p (Par p v) p.length).testBit v=false:=by
 unfold S.aK
 rw[List.all_eq_true]
 constructor
 ·intro h v hv
  have:=h v (List.mem_range.2 hv)
  rw[lF] at this
  simpa [Par] using this
 ·intro h v hv
  have:=h v (List.mem_range.1 hv)
  rw[lF]
  simpa [Par] using this
def bct (s:Nat):Nat->Nat
 | 0=>0
 | n+1=>bct s n+(if s.testBit n then 1 else 0)
theorem ub (s:Nat):∀n,bct s n<=n
 | 0=>Nat.le_refl _
 | n+1=>by have:=ub s n;unfold bct;split<;>omega
theorem sK {a s:Nat}(h:Sub a s):∀n,bct a n<=bct s n
 | 0=>Nat.le_refl _
 | n+1=>by
  have:=sK h n
  unfold bct
  split
  ·rename_i hb;rw[if_pos (h n hb)];omega
  ·split<;>omega
theorem zz {a s:Nat}(h:Sub a s){v:Nat}(hv:s.testBit v=true)(ha:a.testBit v=false):∀n,v<n->bct a n<bct s n
 | 0,h0=>by omega
 | n+1,hn=>by
  unfold bct
  by_cases hvn:v=n
  ·subst hvn
   have:=sK h v
   rw[if_pos hv,ha];simp;omega
  ·have:=zz h hv ha n (by omega)
   split
   ·rename_i hb;rw[if_pos (h n hb)];omega
   ·split<;>omega
theorem q8 {s:Nat}:∀n,bct s n=n->∀v,v<n->s.testBit v=true
 | 0,_,v,h=>by omega
 | n+1,h,v,hv=>by
  unfold bct at h
  have:=ub s n
  split at h
  ·rename_i hb
   by_cases e:v=n
   ·subst e;exact hb
   ·exact q8 n (by omega) v (by omega)
  ·omega
theorem lW {a s:Nat}(h:Sub a s)(h':Sub s a):a=s:=Nat.eq_of_testBit_eq fun v=>by
 cases ha:a.testBit v
 ·cases hs:s.testBit v
  ·rfl
  ·rw[h' v hs] at ha;cases ha
 ·rw[h v ha]
theorem kw {a s:Nat}(h:Sub a s):a<=s:=by
 have:a ||| s=s:=Nat.eq_of_testBit_eq fun v=>by
  rw[iS]
  cases ha:a.testBit v
  ·simp
  ·rw[h v ha];rfl
 rw[<-this];exact Nat.left_le_or
theorem iy (s:Nat):∀j,Sub s (S.az p s j)
 | 0=>fun _ h=>h
 | j+1=>by
  have ih:=iy s j
  rw[eW]
  split
  ·intro v hv;rw[iS,ih v hv];rfl
  ·exact ih
theorem tC {s:Nat}{j k:Nat}(h:j<=k):Sub (S.az p s j) (S.az p s k):=by
 induction h with
 | refl=>exact fun _ h=>h
 | step _ ih =>
  rw[eW]
  split
  ·intro v hv;rw[iS,ih v hv];rfl
  ·exact ih
theorem wP {s:Nat}(h:S.az p s p.length=s):Cl p s:=by
 intro v hv hb u hu
 have h1:(S.az p s v).testBit v=true:=iy s v v hb
 have h2:(S.az p s (v+1)).testBit u=true:=by
  rw[eW,lF,h1,if_pos rfl,iS]
  have:(p[v]?.getD 0).testBit u=true:=hu
  rw[this];simp
 have:=tC (p:=p) (s:=s) (show v+1<=p.length by omega) u h2
 rwa [h] at this
theorem mB {s n v:Nat}(h:s<2 ^ n)(hv:s.testBit v=true):v<n:=by
 rcases Nat.lt_or_ge v n with h1 | h1
 ·exact h1
 ·rw[Nat.testBit_lt_two_pow (Nat.lt_of_lt_of_le h (Nat.pow_le_pow_right (by decide) h1))] at hv;cases hv
theorem Bn {f:Nat->Nat}{n:Nat}(hm:∀j,Sub (f j) (f (j+1)))(hb:∀j,f j<2 ^ n)(hs:∀j,f (j+1)=f j->f (j+2)=f (j+1)):f (n+1)=f n:=by
 have key:∀j,j<=bct (f j) n\/f (j+1)=f j:=by
  intro j
  induction j with
  | zero=>exact .inl (Nat.zero_le _)
  | succ j ih =>
   rcases ih with ih | ih
   ·by_cases e:f (j+1)=f j
    ·exact .inr (hs j e)
    ·left
     have:∃v,(f (j+1)).testBit v=true/\(f j).testBit v=false:=by
      apply Classical.byContradiction
      intro hno
      apply e
      refine lW (fun v hv=>?_) (hm j)
      cases hc:(f j).testBit v
      ·exact absurd ⟨v,hv,hc⟩ hno
      ·rfl
     obtain ⟨v,h1,h2⟩:=this
     have:=zz (hm j) h1 h2 n (mB (hb _) h1)
     omega
   ·exact .inr (hs j ih)
 rcases key n with h | h
 ·have hc:bct (f n) n=n:=by have:=ub (f n) n;omega
  refine lW (fun v hv=>?_) (hm n)
  exact q8 n hc v (mB (hb _) hv)
 ·exact h
theorem yq {a b n:Nat}(h:a<2 ^ n)(h':b<2 ^ n):a ||| b<2 ^ n:=Nat.or_lt_two_pow h h'
theorem ki {v:Nat}(hp:∀x∈p,x<2 ^ p.length):Par p v<2 ^ p.length:=by
 unfold Par
 cases h:p[v]? with
 | none=>exact Nat.pow_pos (by decide)
 | some x=>exact hp x (List.mem_of_getElem? h)
theorem l_ (hp:∀x∈p,x<2 ^ p.length){s:Nat}(hs:s<2 ^ p.length):∀j,S.az p s j<2 ^ p.length
 | 0=>hs
 | j+1=>by
  have ih:=l_ hp hs j
  rw[eW]
  split
  ·exact yq ih (ki hp)
  ·exact ih
theorem p_ (hp:∀x∈p,x<2 ^ p.length){s:Nat}(hs:s<2 ^ p.length):∀j,S.up p s j<2 ^ p.length
 | 0=>hs
 | j+1=>by rw[gW];exact l_ hp (p_ hp hs j) _
theorem mb (hp:∀x∈p,x<2 ^ p.length){s:Nat}(hs:s<2 ^ p.length):Cl p (S.up p s p.length):=by
 apply wP
 rw[<-gW]
 exact Bn (f:=fun j=>S.up p s j) (fun j=>by rw[gW];exact iy _ _) (fun j=>p_ hp hs j) (fun j e=>by
  have e:S.up p s (j+1)=S.up p s j:=e
  show S.up p s (j+1+1)=S.up p s (j+1)
  rw[gW,e,<-gW,e])
theorem mZ {s:Nat}:∀j,Sub s (S.up p s j)
 | 0=>fun _ h=>h
 | j+1=>fun v hv=>by rw[gW];exact iy _ _ v (mZ j v hv)
end
end Hx
end
section
namespace Hx
open Go
noncomputable section
theorem wS (z:AV)(k k' k2:IntKind)(x y w:Int)(g:G):zu 1 3 [z] [0,1,2] [.int k x,.int k' y,.int k2 w] g=.upd (.hsl g.nx 0 0 3 none) (g.new (.cells 1 [[.int k x],[.int k' y],[.int k2 w]] 0 false false)):=rfl
theorem tH {g:G}{b sz:Nat}{u:AV}{rows:List (List AV)}(hu:Own g b u sz rows){n:Nat}(hn:n<=rows.length) :
  ∃y,wI sz u none (some (.int .i64 (n:Int))) g=.val y/\aw g.h sz y=some (rows.take n):=by
 rcases hu with ⟨rfl,rfl⟩ | ⟨id,ep,lo,h1,h2,rfl,h3⟩
 ·have:n=0:=by simpa using hn
  subst this
  exact ⟨.nils,rfl,rfl⟩
 ·simp only[wI,iB,h3,Nat.beq_refl,Nat.beq_refl,Bool.true_and,ak,Nat.zero_add,aa,Nat.ble_eq,Nat.le_refl,if_true,aO,Option.getD_none,Nat.sub_zero]
  simp only[ew]
  rw[show af (n.ble rows.length) (some n) none=some n from by rw[aa,if_pos (by simpa using hn)]]
  dsimp only
  by_cases h0:rows=[]
  ·subst h0
   have:n=0:=by simpa using hn
   subst this
   cases lo
   ·exact ⟨_,rfl,rfl⟩
   ·exact ⟨_,rfl,iD _ _ _ _⟩
  ·have hb:rows.length.beq 0=false:=by cases rows with | nil=>exact absurd rfl h0 | cons a l=>rfl
   rw[hb]
   refine ⟨_,rfl,?_⟩
   rw[fZ,h3,du,if_pos (by omega),List.drop_zero]
theorem tU {g:G}{b sz:Nat}{u:AV}{rows:List (List AV)}(hu:Own g b u sz rows){n:Nat}(hn:n<=rows.length) :
  ∃y,wI sz u (some (.int .i64 (n:Int))) none g=.val y/\aw g.h sz y=some (rows.drop n):=by
 rcases hu with ⟨rfl,rfl⟩ | ⟨id,ep,lo,h1,h2,rfl,h3⟩
 ·have:n=0:=by simpa using hn
  subst this
  exact ⟨.nils,rfl,rfl⟩
 ·simp only[wI,iB,h3,Nat.beq_refl,Nat.beq_refl,Bool.true_and,ak,Nat.zero_add,aa,Nat.ble_eq,Nat.le_refl,if_true,aO,Option.getD_none,Nat.sub_zero]
  simp only[ew]
  rw[show af (n.ble rows.length) (some n) none=some n from by rw[aa,if_pos (by simpa using hn)]]
  dsimp only
  by_cases h0:rows.length=n
  ·subst h0
   rw[if_pos (Nat.beq_refl _),List.drop_length]
   cases lo
   ·exact ⟨_,rfl,rfl⟩
   ·exact ⟨_,rfl,iD _ _ _ _⟩
  ·rw[if_neg (fun e=>h0 (Nat.eq_of_beq_eq_true e))]
   refine ⟨_,rfl,?_⟩
   rw[fZ,h3,du,if_pos (by omega),List.take_of_length_le (by simp)]
def S.aN (os:List UInt8)(k:Nat):Nat:=if k<os.length then ((os[k]?.map UInt8.toNat).getD 0) % (k+1) else 0
def S.ak (os:List UInt8):Nat->List Int
 | 0=>[]
 | k+1=>(S.ak os k).take (S.aN os k)++(k:Int)::(S.ak os k).drop (S.aN os k)
theorem jf (os:List UInt8):∀k,(S.ak os k).length=k
 | 0=>rfl
 | k+1=>by simp only[S.ak,List.length_append,List.length_cons,List.length_take,List.length_drop,jf os k];omega
def S.bg (cards:List Int):List Int->Nat->List Int×Bool
 | vals,0=>(vals,false)
 | vals,k+1=>if (vals[k]?.getD 0)+1<(cards[k]?.getD 0) then (vals.set k ((vals[k]?.getD 0)+1),true) else S.bg cards (vals.set k 0) k
def S.bf (cards vals:List Int):List Int×Bool:=S.bg cards vals vals.length
def S.bk (cards:List Int):Nat->List Int->List (List Int)
 | 0,_=>[]
 | f+1,v=>v::(if (S.bf cards v).2 then S.bk cards f (S.bf cards v).1 else [])
def S.bN (cards:List Int):List (List Int):=S.bk cards (S.aE cards).toNat (List.replicate cards.length 0)
def S.aZ:List Int->List Int->Int
 | _::cs,v::vs=>v*S.aE cs+S.aZ cs vs
 | _,_=>0
end
end Hx
end
section
namespace Hx
open Go
def S.br (x:Mech)(roots:List Int)(V:Nat->Int):List Int:=(x.frm.map fun q=>V q.toNat)++(x.noise.map fun r=>roots[r.toNat]?.getD 0)
def S.bE (m:Causal)(roots act:List Int)(V:Nat->Int)(i:Nat)(x:Mech):Int:=if 0<=act[i]?.getD 0 then act[i]?.getD 0 else x.out[(S.aZ (S.bI m x) (S.br x roots V)).toNat]?.getD 0
def Sol (m:Causal)(roots act:List Int)(V:Nat->Int):Prop:=∀(i:Nat) (x:Mech),m.nodes[i]?=some x->V i=S.bE m roots act V i x
noncomputable def S.V (m:Causal)(roots act:List Int):Nat->Int:=Classical.epsilon (Sol m roots act)
noncomputable def S.bK (m:Causal)(roots act:List Int):List Int:=(List.range m.nodes.length).map (S.V m roots act)
end Hx
end
section
namespace Hx
open Go
noncomputable section
def hz (cs vs:List Int)(j:Nat):Int:=((cs.zip vs).take j).foldl (fun a p=>a*p.1+p.2) 0
section
variable {d k:Nat}{m:Causal}{roots act:List Int}{V:Nat->Int}{a b w u:AV}{p1 p2 p3 p4 iu:Nat}{hid:Int}{r:Nat->Nat}
end
end
end Hx
end
section
namespace Hx
open Go
noncomputable section
theorem pJ (ag:Bool)(n l sz off:Nat)(row:List AV)(g:G):ic ag n (.tptr l sz [row] 0 off) g=orV (bc ag n row off):=rfl
section
variable {d:Nat}{m:Causal}{a b:AV}
end
end
end Hx
end
section
namespace Hx
open Go
noncomputable section
theorem lZ {C:Cfg}{d:Nat}{r:List SR}{t:T}{g:G}{K:AV->G->Prop}{id:Nat}(hg:g.h.get id=.dfr true)(h:lN r t (g.put id (.dfr false)) fun vs=>K (dz vs) (g.put id (.dfr false))):kf C d r t [.mark id] g K:=by
 unfold kf
 have:cB (I C) d [.mark id] g=some (g.put id (.dfr false)):=by
  simp only[cB,G.get_eq,hg]
 rw[this];exact h
def Fam (g:G)(b K:Nat)(V:Nat->AV)(W:Nat->List (List AV)):Prop :=
 (∀k,k<K->Own g b (V k) 1 (W k))/\∀k l,k<K->l<K->k≠l->∀id,vid (V k)=some id->vid (V l)≠some id
def Cu (c:Nat->Int)(V:Nat->AV)(i:Nat):List AV:=[.int .i64 (c i),V (3*i+1),V (3*i+2),V (3*i+3)]
def zM (n:Nat)(c:Nat->Int)(V:Nat->AV):List (List AV):=(List.range n).map (Cu c V)
structure ME where
 (n p4 q i5 p7 i9 b:Nat)
 (nv w5 w9 e7:AV)
 (gr:Int)
 (row0:List AV)
 (prow:List (List AV))
 (us:List UInt8)
structure ME.Ok (e:ME):Prop where
 ord:1<e.q/\e.q<e.p4/\e.p4<e.i5/\e.i5<e.p7/\e.p7<e.i9/\e.i9<e.b
 n1:1<=e.n/\e.n<=4
 g1:2<=e.gr/\e.gr<=12
 vn:vid e.nv=some e.q
 v5:vid e.w5=some e.i5
 v9:vid e.w9=some e.i9
 l7:SlR NoP 0 .nil e.us e.e7
structure MI (e:ME) (g:G) (V:Nat->AV) (W:Nat->List (List AV)) (c:Nat->Int) (ow:List Bool) (cap:Nat):Prop where
 h0:g.h.get 0=.cells 5 [e.row0] 0 false false
 h1:g.h.get 1=.cells 3 [[.int .i64 0,.nils,.nils]] 0 false false
 hN:Own g 0 e.nv 4 (zM e.n c V)
 h4:g.h.get e.p4=.cells 3 [[.int .i64 e.gr,V 0,e.nv]] 0 false false
 h5:Own g 0 e.w5 4 e.prow
 h7:∃cc:Int,0<=cc/\cc<=(cap:Int)/\g.h.get e.p7=.cells 2 [[e.e7,.int .i64 cc]] 0 false false
 h9:Own g 0 e.w9 1 (ow.map fun x=>[.bool x])
 fam:Fam g e.b (3*e.n+1) V W
 nx:e.b<=g.nx
section
variable {e:ME}{g g':G}{V:Nat->AV}{W:Nat->List (List AV)}{c:Nat->Int}{ow:List Bool}{cap:Nat}
structure MP (e:ME) (g:G) (V V':Nat->AV) (W:Nat->List (List AV)) (c:Nat->Int) (ow:List Bool) (cap:Nat):Prop where
 h0:g.h.get 0=.cells 5 [e.row0] 0 false false
 h1:g.h.get 1=.cells 3 [[.int .i64 0,.nils,.nils]] 0 false false
 hN:Own g 0 e.nv 4 (zM e.n c V)
 h4:g.h.get e.p4=.cells 3 [[.int .i64 e.gr,V 0,e.nv]] 0 false false
 h5:Own g 0 e.w5 4 e.prow
 h7:∃cc:Int,0<=cc/\cc<=(cap:Int)/\g.h.get e.p7=.cells 2 [[e.e7,.int .i64 cc]] 0 false false
 h9:Own g 0 e.w9 1 (ow.map fun x=>[.bool x])
 fam:Fam g e.b (3*e.n+1) V' W
 nx:e.b<=g.nx
end
end
end Hx
end
section
namespace Hx
open Go
noncomputable section
structure MD (e:ME) (W:Nat->List (List AV)) (R:List (List Int)) (F N O:Nat->List Int):Prop where
 r:All2 (Rp.rp NoP 0 .nil) R (W 0)
 f:∀i,i<e.n->W (3*i+1)=(F i).map ci
 n:∀i,i<e.n->W (3*i+2)=(N i).map ci
 o:∀i,i<e.n->W (3*i+3)=(O i).map ci
theorem SlR.wide {α:Type} [Rp α]{P:Nat->Prop}{k k':Nat}{h h':H}{l:List α}{v:AV}(r:SlR NoP k h l v)(hk:k<=k'):SlR P k' h' l v:=by
 obtain ⟨w,hw,q⟩:=Rp.tree (P:=P) (k':=k') (h':=h') (show Rp.rp NoP k h l [v] from ⟨v,rfl,r⟩) hk
 injection hw with hw;subst hw;exact q
structure M0 (n p4 q i5 p7:Nat) (nv w5 cl:AV) (row0:List AV) (prow:List (List AV)) (gr:Int) (g:G) (cf:Nat->Int):Prop where
 h0:g.h.get 0=.cells 5 [row0] 0 false false
 h1:g.h.get 1=.cells 3 [[.int .i64 0,.nils,.nils]] 0 false false
 hN:Own g 2 nv 4 (zM n cf fun _=>.nils)
 h4:g.h.get p4=.cells 3 [[.int .i64 gr,.nils,nv]] 0 false false
 h5:Own g 2 w5 4 prow
 h7:g.h.get p7=.cells 2 [[cl,.int .i64 0]] 0 false false
 nx:p7<g.nx
section
variable {n p4 q i5 p7:Nat}{nv w5 cl:AV}{row0:List AV}{prow:List (List AV)}{gr:Int}{g g':G}{cf cf':Nat->Int}
end
end
end Hx
end
section
namespace Hx
open Go
noncomputable section
def eid:AV->Option Nat
 | .hsl id _ _ _ _=>some id
 | .hptr id _ _ _=>some id
 | _=>none
def Bx (g:G)(b:Nat)(v:AV)(row:List AV):Prop:=∃id,b<=id/\id<g.nx/\v=.hptr id 0 0 0/\g.h.get id=.cells row.length [row] 0 false false
inductive En where
 | sl (sz:Nat) (rows:List (List AV))
 | bx (row:List AV)
def En.ok (g:G)(b:Nat)(v:AV):En->Prop
 | .sl sz rows=>Own g b v sz rows
 | .bx row=>Bx g b v row
section
variable {κ:Type}
structure Hp (g:G) (b:Nat) (L:κ->Prop) (V:κ->AV) (E:κ->En):Prop where
 ok:∀k,L k->(E k).ok g b (V k)
 sep:∀k l,L k->L l->k≠l->∀id,eid (V k)=some id->eid (V l)≠some id
 nx:b<=g.nx
variable {g g':G}{b:Nat}{L L':κ->Prop}{V:κ->AV}{E:κ->En}{k:κ}
end
section
variable {κ:Type} [DecidableEq κ]
variable {g g':G}{b:Nat}{L L':κ->Prop}{V:κ->AV}{E:κ->En}{k:κ}
end
end
end Hx
end
section
namespace Hx
open Go
noncomputable section
theorem gU {C:Cfg}{d:Nat}{rd:Option Nat}{l:List SI}{b:SC}{Q:QT}{t:T}{df:List ADf}{g:G}{P:PT}(h1:wpO C d rd l P t df g)(h2:∀t df g,P t df g->wp C d rd b Q t df g):wp C d rd (.seq (.ops l) b) Q t df g:=by
 rw[nG]
 have:wp C d rd (.ops l) (fun e t df g=>e=.norm/\P t df g) t df g:=by rw[qe];simpa using h1
 refine ef _ this ?_
 rintro e t df g ⟨rfl,h⟩
 exact h2 t df g h
structure Bnd (K:Nat) (m:Causal):Prop where
 r:m.roots.length<=K
 rr:∀x∈m.roots,x.length<=K
 n:m.nodes.length<=K
 f:∀x∈m.nodes,x.frm.length<=K/\x.noise.length<=K/\x.out.length<=K
abbrev Ky:Type:=Nat×Nat
structure BD (K R n:Nat) (V:Ky->AV) (E:Ky->En) (Rt:Nat->List Int) (c:Nat->Int) (F:Nat->Nat->List Int):Prop where
 r:∀i,i<R->E (0,i)=.sl 1 ((Rt i).map ci)/\(Rt i).length<=K
 f:∀q i,1<=q->q<=3->i<n->E (q,i)=.sl 1 ((F q i).map ci)/\(F q i).length<=K
 rs:E (4,0)=.sl 1 ((List.range R).map fun i=>[V (0,i)])
 ns:E (4,1)=.sl 4 ((List.range n).map fun i=>[.int .i64 (c i),V (1,i),V (2,i),V (3,i)])
structure TI (g:G) (q:Nat) (m:Causal) (k1 k2 act u1 u2 u3:AV) (A B W:List Int):Prop where
 a1:g.h.get 1=.cells 1 [[act]] 0 false false
 a2:g.h.get 2=.cells 3 [[.nils,.nils,.nils]] 0 false false
 a4:g.h.get 4=.cells 4 [[.int .i64 m.grain,k1,k2,.int .i64 (S.bJ m)]] 0 false false
 bq:g.h.get q=.cells 3 [[u1,u2,u3]] 0 false false
 o1:Own g 5 u1 1 (A.map ci)
 o2:Own g 5 u2 1 (B.map ci)
 o3:Own g 5 u3 1 (W.map ci)
 q5:5<=q/\q<g.nx
 n1:∀i,vid u1=some i->i≠q/\vid u2≠some i/\vid u3≠some i
 n2:∀i,vid u2=some i->i≠q/\vid u3≠some i
 n3:∀i,vid u3=some i->i≠q
section
variable {g g':G}{q:Nat}{m:Causal}{k1 k2 act u1 u2 u3:AV}{A B W:List Int}
end
end
end Hx
end
section
namespace Hx
open Go
noncomputable section
theorem qf {C:Cfg}{d:Nat}{rd:Option Nat}{a b:SC}{Q:QT}{t:T}{df:List ADf}{g:G}{P:PT}(h1:wp C d rd a (fun e t df g=>e=.norm/\P t df g) t df g)(h2:∀t df g,P t df g->wp C d rd b Q t df g):wp C d rd (.seq a b) Q t df g:=by
 rw[nG]
 refine ef _ h1 ?_
 rintro e t df g ⟨rfl,h⟩
 exact h2 t df g h
def S.bL (s a:List Int):List Int:=(List.range s.length).map fun i=>if a[i]?.getD 0<0 then -1 else s[i]?.getD 0
theorem Aw {α:Type}{C:α->Prop}{S:α->VS}{j:Nat}(h:∀a,Snb (S a) j):Snb (fun P k h v=>∃a,C a/\S a P k h v) j :=
 ⟨fun {P k hh v n} d r hn=>by
  obtain ⟨a,c,r⟩:=r
  obtain ⟨v',e,r'⟩:=(h a).snap d r hn
  exact ⟨v',e,a,c,r'⟩,fun {k hh v n} r hn=>by
  obtain ⟨a,c,r⟩:=r
  exact (h a).tag r hn⟩
theorem md:∀{A L:List Nat},A.Nodup->(∀v∈A,v∈L)->A.length<=L.length
 | [],_,_,_=>Nat.zero_le _
 | a::A,L,hA,h=>by
  rw[List.nodup_cons] at hA
  have ha:=h a (by simp)
  have:=md (A:=A) (L:=L.erase a) hA.2 fun v hv=>(List.mem_erase_of_ne (fun e=>hA.1 (by rw[<-e];exact hv))).2 (h v (by simp[hv]))
  rw[List.length_erase_of_mem ha] at this
  have:=List.length_pos_of_mem ha
  simp only[List.length_cons]
  omega
def Ord (p:List Nat)(L:List Nat):Prop:=(∀v,v<p.length->v∈L)/\∀(i v:Nat),L[i]?=some v->v<p.length/\∀q,(Par p v).testBit q=true->q∈L.take i
def tS (p:List Nat)(L:List Nat):Prop:=L.Nodup/\∀(i v:Nat),L[i]?=some v->v<p.length/\∀q,(Par p v).testBit q=true->q∈L.take i
theorem xh {p L:List Nat}(h:tS p L){v:Nat}(hv:v ∉ L)(hl:v<p.length)(hp:∀q,(Par p v).testBit q=true->q∈L):tS p (L++[v]):=by
 refine ⟨?_,fun i u hu=>?_⟩
 ·rw[List.nodup_append]
  exact ⟨h.1,by simp,fun a ha b hb=>by simp at hb;subst hb;exact fun e=>hv (e ▸ ha)⟩
 ·rcases Nat.lt_or_ge i L.length with hi | hi
  ·rw[List.getElem?_append_left hi] at hu
   obtain ⟨h1,h2⟩:=h.2 i u hu
   exact ⟨h1,fun q hq=>by rw[List.take_append_of_le_length (by omega)];exact h2 q hq⟩
  ·rw[List.getElem?_append_right hi] at hu
   have:i=L.length:=by
    have:=(List.getElem?_eq_some_iff.1 hu).1;simp at this;omega
   subst this
   simp at hu;subst hu
   exact ⟨hl,fun q hq=>by rw[List.take_left];exact hp q hq⟩
theorem xa {p L:List Nat}(h:tS p L)(hl:p.length<=L.length):Ord p L:=by
 refine ⟨fun v hv=>?_,h.2⟩
 by_cases hm:v∈L
 ·exact hm
 ·have:=md (A:=v::L) (L:=List.range p.length) (List.nodup_cons.2 ⟨hm,h.1⟩) fun u hu=>by
   rcases List.mem_cons.1 hu with rfl | hu
   ·exact List.mem_range.2 hv
   ·obtain ⟨i,hi,rfl⟩:=List.mem_iff_getElem.1 hu
    exact List.mem_range.2 (h.2 i _ (List.getElem?_eq_getElem hi)).1
  simp at this
  omega
theorem z5 {p L:List Nat}(h:tS p L)(hl:L.length<p.length):∃v,v<p.length/\v ∉ L:=by
 by_cases hh:∃v,v<p.length/\v ∉ L
 ·exact hh
 ·exfalso
  have:=md (A:=List.range p.length) (L:=L) List.nodup_range fun v hv=>by
   by_cases h':v∈L
   ·exact h'
   ·exact absurd ⟨v,List.mem_range.1 hv,h'⟩ hh
  simp at this
  omega
def zp (D:Nat)(L:List Nat):Prop:=D<18446744073709551616/\∀v,D.testBit v=true↔v∈L
theorem wL {D:Nat}{L:List Nat}(h:zp D L){v:Nat}(hv:v<64):zp (D ||| S.aD v) (L++[v]):=by
 refine ⟨rB h.1 (qz v),fun u=>?_⟩
 rw[iS,sZ hv,Bool.or_eq_true,h.2,decide_eq_true_eq,List.mem_append,List.mem_singleton]
 constructor
 ·rintro (h | h)
  ·exact .inl h
  ·exact .inr h.symm
 ·rintro (h | h)
  ·exact .inl h
  ·exact .inr h.symm
section
variable {m:Causal}{c1 c2 l w c9 v35 ls v48:AV}{al:List Int}{hid kk:Int}{p:Nat}
end
end
end Hx
end
section
namespace Hx
open Go
noncomputable section
def S.aQ:List Int->Int
 | []=>0
 | x::l=>x+10000*S.aQ l
structure S.tI (bl:List Int) (n i:Nat) (V ai:Int) (k:Nat) (c:Int) (L:List Int):Prop where
 len:L.length=n
 rng:∀x∈L,0<=x/\x<10000
 zer:∀j,i+bl.length<=j->i+k<=j->L[j]?.getD 0=0
 kle:k<=bl.length+1
 c0:0<=c
 c1:c<10000
 ce:k=bl.length+1->c=0
 cs:k=0->c=0
 eq:S.aQ L+c*10000 ^ (i+k)=V+ai*10000 ^ i*S.aQ (bl.take k)
structure S.tO (al bl:List Int) (i:Nat) (L:List Int):Prop where
 len:L.length=al.length+bl.length
 rng:∀x∈L,0<=x/\x<10000
 zer:∀j,i+bl.length<=j->L[j]?.getD 0=0
 eq:S.aQ L=S.aQ (al.take i)*S.aQ bl
structure S.mI (al bl:List Int) (i:Nat) (r:Int) (L:List Int):Prop where
 len:L.length=i
 rng:∀x∈L,0<=x/\x<10000
 r01:r=0\/r=1
 eq:S.aQ L=S.aQ (al.take i) - S.aQ (bl.take i)+r*10000 ^ i
structure S.qI (x b n:Nat) (i:Nat) (L:List Int):Prop where
 len:L.length=n
 rng:∀z∈L,0<=z/\z<10000
 eq:S.aQ (L.drop i)=((x / 10000 ^ i / b:Nat):Int)
theorem SlR.wd {α:Type} [Rp α]{P P':Nat->Prop}{k:Nat}{h h':H}{l:List α}{v:AV}(r:SlR P k h l v)(hf:∀i,P i->P' i/\h'.get i=h.get i):SlR P' k h' l v:=by
 obtain ⟨w,hw,q⟩:=Rp.mono (k':=k) (P':=P') (h':=h') (show Rp.rp P k h l [v] from ⟨v,rfl,r⟩) hf (Nat.le_refl _)
 injection hw with hw;subst hw;exact q
structure HS (m:Causal) (c1 c2 la lb lc:AV) (p q:Nat) (gb g:G):Prop where
 fr:Fr gb g
 mp:g.h.get p=.cells 3 [[.int .i64 m.grain,c1,c2]] 0 false false
 ml:g.h.get q=.cells 3 [[la,lb,lc]] 0 false false
 pn:p<gb.nx
 q0:gb.nx<=q
 qn:q<g.nx
section
variable {m:Causal}{c1 c2 la lb lc w c28 vi c90 vj:AV}{A B Z:List Int}{p q:Nat}
end
end
end Hx
end
end
section
namespace Hx
open Go
section
variable {p:List Nat}
theorem vW:uh p 0:=⟨fun v _ hb=>by simp at hb,fun v _ hb=>by simp at hb⟩
theorem yY {q:Nat}(ih:uh p q){j:Nat}(hj:j<64)(hd:Sub (Par p j) q):uh p (q ||| S.aD j):=by
 refine ⟨fun v hv hb=>?_,fun v hv hb=>?_⟩
 ·intro u hu
  rw[iS,sZ hj,Bool.or_eq_true,decide_eq_true_eq] at hb
  rw[iS,Bool.or_eq_true]
  rcases hb with hb | hb
  ·exact .inl (ih.1 v hv hb u hu)
  ·subst hb;exact .inl (hd u hu)
 ·rw[iS,sZ hj,Bool.or_eq_true,decide_eq_true_eq] at hb
  cases hq:q.testBit v
  ·rw[hq] at hb
   simp at hb
   subst hb
   rw[<-Bool.not_eq_true]
   intro hu
   have:=nr ih.1 hd p.length j hu
   rw[hq] at this;cases this
  ·exact ih.2 v hv hq
theorem qh {q:Nat}(h:uh p q)(hf:∀v,v<p.length->q.testBit v=true):S.aK p=true :=
 kZ.2 fun v hv=>h.2 v hv (hf v hv)
theorem qK (hp:∀x∈p,x<2 ^ p.length)(h:S.aK p=true){T:Nat}(hst:∀v,v<p.length->T.testBit v=false->¬Sub (Par p v) T):∀v,v<p.length->T.testBit v=true:=by
 rw[kZ] at h
 have none:∀r v,v<p.length->T.testBit v=false->S.up p (Par p v) p.length=r->False:=by
  intro r
  induction r using Nat.strongRecOn with
  | _ r ih =>
   intro v hv hb hr
   have hns:=hst v hv hb
   have:∃u,(Par p v).testBit u=true/\T.testBit u=false:=by
    apply Classical.byContradiction
    intro hno
    apply hns
    intro u hu
    cases hc:T.testBit u
    ·exact absurd ⟨u,hu,hc⟩ hno
    ·rfl
   obtain ⟨u,hu,hub⟩:=this
   have hul:u<p.length:=mB (ki hp) hu
   have hcl:=mb hp (s:=Par p v) (ki hp)
   have hin:(S.up p (Par p v) p.length).testBit u=true:=mZ _ u hu
   have hsub:Sub (S.up p (Par p u) p.length) (S.up p (Par p v) p.length):=nr hcl (hcl u hul hin) _
   have hlt:S.up p (Par p u) p.length<S.up p (Par p v) p.length:=by
    refine Nat.lt_of_le_of_ne (kw hsub) fun e=>?_
    have:=h u hul
    rw[e,hin] at this;cases this
   exact ih _ (by omega) u hul hub rfl
 intro v hv
 cases hc:T.testBit v
 ·exact (none _ v hv hc rfl).elim
 ·rfl
end
end Hx
end
section
namespace Hx
open Go
section
variable {p:List Nat}
def Eg (p:List Nat)(u v:Nat):Prop:=(Par p v).testBit u=true
def Bt (s v:Nat):Prop:=s.testBit v=true
theorem j8 (hp:∀x∈p,x<2 ^ p.length){u v:Nat}(h:Eg p u v):u<p.length/\v<p.length:=by
 refine ⟨mB (ki hp) h,?_⟩
 rcases Nat.lt_or_ge v p.length with h1 | h1
 ·exact h1
 ·unfold Eg Par at h
  rw[List.getElem?_eq_none h1] at h
  simp at h
theorem Ch {s:Nat}(hp:∀x∈p,x<2 ^ p.length)(hc:Cl p s){u v:Nat}(h:Ds (Eg p) u v)(hv:s.testBit v=true):s.testBit u=true:=by
 induction h with
 | rf=>exact hv
 | st e _ ih=>exact hc _ (j8 hp e).2 (ih hv) _ e
theorem BB (hp:∀x∈p,x<2 ^ p.length){s:Nat}(hs:s<2 ^ p.length)(v:Nat):(S.up p s p.length).testBit v=true↔An (Eg p) (Bt s) v:=by
 constructor
 ·intro h
  have hc:Cl p (S.aa (An (Eg p) (Bt s)) p.length):=fun u hu hb x hx=>by
   rw[gM] at hb ⊢
   exact ⟨(j8 hp hx).1,An.up hx hb.2⟩
  have hsub:Sub s (S.aa (An (Eg p) (Bt s)) p.length):=fun u hu=>by
   rw[gM]
   exact ⟨mB hs hu,An.of hu⟩
  have:=nr hc hsub p.length v h
  rw[gM] at this
  exact this.2
 ·rintro ⟨z,hz,hd⟩
  exact Ch hp (mb hp hs) hd (mZ _ z hz)
theorem mY (hp:∀x∈p,x<2 ^ p.length)(h:S.aK p=true):∀u v,Eg p u v->S.up p (Par p u) p.length<S.up p (Par p v) p.length:=by
 intro u v e
 have hul:=(j8 hp e).1
 have hcl:=mb hp (s:=Par p v) (ki hp)
 have hin:(S.up p (Par p v) p.length).testBit u=true:=mZ _ u e
 have hsub:Sub (S.up p (Par p u) p.length) (S.up p (Par p v) p.length):=nr hcl (hcl u hul hin) _
 refine Nat.lt_of_le_of_ne (kw hsub) fun e=>?_
 have:=kZ.1 h u hul
 rw[e,hin] at this;cases this
theorem lX (hp:∀x∈p,x<2 ^ p.length){rk:Nat->Nat}(hr:∀u v,Eg p u v->rk u<rk v):S.aK p=true:=by
 refine kZ.2 fun v hv=>?_
 cases h:(S.up p (Par p v) p.length).testBit v with
 | false=>rfl
 | true =>
  obtain ⟨z,hz,hd⟩:=(BB hp (ki hp) v).1 h
  have h1:=hr _ _ (show Eg p z v from hz)
  rcases hd.rank hr with rfl | h2<;>omega
def S.aq (p:List Nat)(s:Nat):Nat->Nat
 | 0=>s
 | j+1=>if Par p j &&& S.aq p s j=0 then S.aq p s j else S.aq p s j ||| 2 ^ j
def S.dn (p:List Nat)(s:Nat):Nat->Nat
 | 0=>s
 | j+1=>S.aq p (S.dn p s j) p.length
theorem sX {a b:Nat}:a &&& b≠0↔∃v,a.testBit v=true/\b.testBit v=true:=by
 constructor
 ·intro h
  apply Classical.byContradiction
  intro hno
  apply h
  refine Nat.eq_of_testBit_eq fun v=>?_
  rw[Nat.testBit_and,Nat.zero_testBit]
  cases h1:a.testBit v<;>cases h2:b.testBit v<;>first | rfl | exact absurd ⟨v,h1,h2⟩ hno
 ·rintro ⟨v,h1,h2⟩ h
  have:=congrArg (·.testBit v) h
  simp[h1,h2] at this
theorem oH {s:Nat}(hs:s<2 ^ p.length):∀j,j<=p.length->S.aq p s j<2 ^ p.length
 | 0,_=>hs
 | j+1,hj=>by
  have ih:=oH hs j (by omega)
  unfold S.aq
  split
  ·exact ih
  ·exact yq ih (Nat.pow_lt_pow_right (by decide) (by omega))
theorem vp {s:Nat}(hs:s<2 ^ p.length):∀j,S.dn p s j<2 ^ p.length
 | 0=>hs
 | j+1=>oH (vp hs j) _ (Nat.le_refl _)
theorem iG {s:Nat}{j k:Nat}(h:j<=k):Sub (S.aq p s j) (S.aq p s k):=by
 induction h with
 | refl=>exact fun _ h=>h
 | step _ ih =>
  intro v hv
  unfold S.aq
  split
  ·exact ih v hv
  ·rw[iS,ih v hv];rfl
theorem oy {q:Nat->Prop}(hq:∀u v,q u->Eg p u v->q v){s:Nat}(hs:∀v,s.testBit v=true->q v):∀j,∀v,(S.aq p s j).testBit v=true->q v
 | 0,v,h=>hs v h
 | j+1,v,h=>by
  have ih:=oy hq hs j
  unfold S.aq at h
  split at h
  ·exact ih v h
  ·rename_i hne
   rw[iS,Bool.or_eq_true] at h
   rcases h with h | h
   ·exact ih v h
   ·rw[Nat.testBit_two_pow,decide_eq_true_iff] at h
    subst h
    obtain ⟨u,h1,h2⟩:=sX.1 hne
    exact hq u _ (ih u h2) h1
theorem ve {q:Nat->Prop}(hq:∀u v,q u->Eg p u v->q v){s:Nat}(hs:∀v,s.testBit v=true->q v):∀j,∀v,(S.dn p s j).testBit v=true->q v
 | 0,v,h=>hs v h
 | j+1,v,h=>oy hq (ve hq hs j) _ v h
theorem Cb {s:Nat}(hs:s<2 ^ p.length):S.aq p (S.dn p s p.length) p.length=S.dn p s p.length :=
 Bn (f:=fun j=>S.dn p s j) (fun j=>iG (Nat.zero_le _)) (fun j=>vp hs j) (fun j e=>by
  have e:S.dn p s (j+1)=S.dn p s j:=e
  show S.aq p (S.dn p s (j+1)) p.length=S.dn p s (j+1)
  rw[e];exact e)
theorem Ck {s:Nat}(hp:∀x∈p,x<2 ^ p.length)(hs:s<2 ^ p.length){u v:Nat}(e:Eg p u v)(hu:(S.dn p s p.length).testBit u=true):(S.dn p s p.length).testBit v=true:=by
 obtain ⟨T,hT⟩:∃T,T=S.dn p s p.length:=⟨_,rfl⟩
 have hf:=Cb (p:=p) hs
 rw[<-hT] at hf hu ⊢
 have hv:=(j8 hp e).2
 have h1:(S.aq p T v).testBit u=true:=iG (Nat.zero_le _) u hu
 have h2:(S.aq p T (v+1)).testBit v=true:=by
  unfold S.aq
  rw[if_neg (sX.2 ⟨u,e,h1⟩),iS,Nat.testBit_two_pow]
  simp
 have:=iG (p:=p) (s:=T) (show v+1<=p.length by omega) v h2
 rwa [hf] at this
theorem u9 {s:Nat}:∀j,Sub s (S.dn p s j)
 | 0=>fun _ h=>h
 | j+1=>fun v hv=>iG (Nat.zero_le _) v (u9 j v hv)
theorem xA (hp:∀x∈p,x<2 ^ p.length){s:Nat}(hs:s<2 ^ p.length)(v:Nat):(S.dn p s p.length).testBit v=true↔∃u,s.testBit u=true/\Ds (Eg p) u v:=by
 constructor
 ·exact ve (q:=fun v=>∃u,s.testBit u=true/\Ds (Eg p) u v) (fun u v ⟨x,h1,h2⟩ e=>⟨x,h1,h2.sn e⟩) (fun v h=>⟨v,h,.rf v⟩) p.length v
 ·rintro ⟨u,hu,hd⟩
  have h0:=u9 (p:=p) (s:=s) p.length u hu
  clear hu
  induction hd with
  | rf=>exact h0
  | st e _ ih=>exact ih (Ck hp hs e h0)
end
end Hx
end
section
namespace Hx
inductive Tw (E:Nat->Nat->Prop) (x:Nat):List Nat->Prop
 | one:Tw E x [x]
 | ext {v w:Nat} {r:List Nat}:Tw E x (v::r)->E v w\/E w v->w ∉ v::r->Tw E x (w::v::r)
end Hx
end
