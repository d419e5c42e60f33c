/- A part of the proof: what the functions of the chapter compute. -/
import Derived.RangeFuncIn
import Derived.Laws.Sem
import Derived.Laws.Tables
import Derived.DeepKeys3
import Derived.AtR
import Derived.Orders
import Derived.Below
import Derived.Laws.Externs
import Derived.Shelf.Lays2
import Derived.Test.YtcefdmhbbgafiaaRows
import Derived.Calls
import Derived.Shelf.Spec.SlicesInsertGrow
import Derived.KernelRfl
import Derived.Test.YtcefdmhbbgafiaaHx4
set_option linter.all false
set_option maxHeartbeats 8000000
section
namespace Go.Proofs
open Go.Shelf
def Try.lays21_ren:Go.Shelf.Ren:=⟨λ| 21=>96 | 27=>101 | 28=>102 | 35=>105 | 39=>106 | n=>n,λ| 22=>36 | 3=>3 | 4=>4 | 0=>0 | n=>n,λ| n=>n⟩
theorem Re:Go.Proofs.Lays2.n21 Try.prog Try.lays21_ren:={
 mixed:=by kernel_rfl
 f21:=Try.func96.trans (congrArg some (by kernel_rfl))
 f27:=Try.func101.trans (congrArg some (by kernel_rfl))
 f28:=Try.func102.trans (congrArg some (by kernel_rfl))
 f35:=Try.func105.trans (congrArg some (by kernel_rfl))
 f39:=Try.func106.trans (congrArg some (by kernel_rfl))
 t0:=Try.underlying0
 a0:=Try.isAgg0
 z0:=Try.sizeOf0
 v0:=Try.zeroValue0
 t3:=Try.underlying3
 a3:=Try.isAgg3
 z3:=Try.sizeOf3
 v3:=Try.zeroValue3
 t4:=Try.underlying4
 a4:=Try.isAgg4
 z4:=Try.sizeOf4
 v4:=Try.zeroValue4
 t22:=Try.underlying36
 a22:=Try.isAgg36
 z22:=Try.sizeOf36
 v22:=Try.zeroValue36
 i3:=by kernel_rfl }
end Go.Proofs
end
section
namespace Hx
open Go
section
variable {C:Cfg}{A:Nat->Nat->Prop}{bd:Nat}{w w':World}{γ γ':Gm}{hg:Nat->AObj}{nx:Nat}
theorem On{g:G}{id:Nat}{ob:AObj}(r:Rel C A bd w' γ' (upd hg id ob) nx)(s:Stp w γ w' γ'):Fin C A bd w γ hg nx g w' γ' (upd hg id ob) (g.put id ob) :=
 ⟨r.up (UM _ _),s,[id],by simp,λk hk=>by simp_all[Q_],λk hk=>by
  grind[cQ]⟩
theorem Om{g:G}{ob:AObj}(r:Rel C A bd w' γ' (upd hg g.nx ob) (Nat.max nx (g.nx+1)))(s:Stp w γ w' γ'):Fin C A bd w γ hg nx g w' γ' (upd hg g.nx ob) (g.new ob) :=
 ⟨r.up (by simp),s,[g.nx],by simp,λk hk=>by simp_all[Q_],λk hk=>by
  grind[cQ]⟩
theorem FN(hr:Rel C A bd w γ hg nx){id ep:Nat}{rows:List (List AV)}{lo fz:Bool}(hid:hg id=.cells 1 rows ep lo fz) :
  ∃(c:Array Value) (e:TypeId) (l:List Value),w.heap[(γ id).blk]?=some (.cells c e (0,0))/\(γ id).base+(rows.length+(γ id).slack)<=c.size/\l.length=rows.length/\(∀j,j<rows.length->l[j]?=c[(γ id).base+j]?) /\
   (∀v∈l,v.oneCell'=true)/\(∀(k:Nat) row,rows[k]?=some row->row.length=1) /\
   ∀(k j:Nat) row x,rows[k]?=some row->row[j]?=some x->j=0/\x.one=true/\∃v,l[k]?=some v/\RV w γ A bd x v:=by
 have hob:=hr.obj id;rw[hid]at hob;obtain⟨k1,k2,k3,k4,k5,k6,c,e,k7,k8,k9,k10⟩:=hob;have hget:∀j,j<rows.length->((c.toList.drop (γ id).base).take rows.length)[j]?=c[(γ id).base+j]?:=λj hj=>by
  grind
 refine⟨c,e,(c.toList.drop (γ id).base).take rows.length,k7,by omega,by grind,hget,λv hv=>?_,k9,λk j row x h1 h2=>?_⟩
 ·obtain⟨k,hk⟩:=T2 hv;have hlt:k<rows.length:=by
   grind
  rw[hget k hlt]at hk;have hrow:=Tn hlt;have hl1:=k9 k _ hrow;have hx:rows[k][0]?=some (rows[k][0]'(by omega)):=Tn _;obtain⟨a,v',b1,b2⟩:=k10 k 0 _ _ hrow hx<;>grind[HA]
 grind
theorem uT{P:Program}{f:FuncId}{args:Array Value}{u:Value}(h:Calls P f args w (λx y=>x=.returned u/\y=w'))(cs:List Frame):Outs P .normal f args cs w u w':=by obtain⟨e,w1,fr,⟨he,hw⟩,hc,hf,hl⟩:=h cs;subst he;subst hw;obtain⟨m,d,k,fn,hfn,hres⟩:=hl;exact⟨fr,hc,m,d,k,hf,fn,by grind,hres⟩
theorem JX {P : Program} {f : FuncId} {fn : Func} (h : P.funcs[f]? = some fn) (hn : (fn.name == "runtime.NumGoroutine") = false) (hb : fn.body.isSome = true) : Enters P f := by
 intro args w;unfold callFunc;have hn : fn.name ≠ "runtime.NumGoroutine" := by grind
 cases hb':fn.body<;>simp_all
end
end Hx
end
section
namespace Hx
open Go Go.Proofs Go.Shelf
theorem zn{w:World}{o:Obj}:(Go.World.alloc w o).heap=w.heap.push o:=rfl
theorem wA{w:World}:(Go.World.drew w).heap=w.heap:=rfl
theorem jD{b:Nat}{e:TypeId}{f:Nat×Nat}:∀(vs:List Value) (o:Nat) (w:World) (c:Array Value),w.heap[b]?=some (.cells c e f) ->
  Go.World.setCells w b o vs=World.setBlk w b (.cells (bA c o vs) e f):=by
 intro vs
 induction vs with
 | nil =>
  intro o w c h;have hb:b<w.heap.size:=by
   grind
  have hx:w.heap[b]=.cells c e f:=by grind
  show w=_;simp only[World.setBlk,bA];have:w.heap.setIfInBounds b (.cells c e f)=w.heap:=by
   grind
  rw[this]
 | cons v vs ih =>
  intro o w c h;have hb:b<w.heap.size:=by
   grind
  show Go.World.setCells (w.setCell (adr b o) v) b (o+1) vs=_;rw[Be h,ih (o+1) _ (c.setIfInBounds o v) (by grind[bm]),pu]
  rfl
section
variable {P:Program}{ρ:Ren}
theorem gT{α:Type}{cs vs:List α}{i n m k:Nat}(hcl:cs.length=n)(hvl:vs.length=m)(hi:i<=n) :
  (cs.take i++(vs++cs.drop i))[k]?=if k<i then cs[k]? else if k<i+m then vs[k - i]? else cs[k - m]?:=by
 grind
def Ins(P:Program)(f:FuncId)(args:Array Value)(w:World)(b n m:Nat)(rowV:List Value):Prop :=
 ∃b' o' cap' c' e' w',Calls P f args w (λx y=>x=.returned (.slice (some (adr b' o')) (n+m) cap')/\y=w')/\n+m<=cap'/\cap'<=9223372036854775807 /\
  (w'.os=w.os/\w'.tape=w.tape/\w'.output=w.output/\w.heap.size<=w'.heap.size/\w.drawn<=w'.drawn)/\(b'=b\/(b'=w.heap.size/\w.heap.size<w'.heap.size)) /\
  (∀k,k<w.heap.size->k≠b->w'.heap[k]?=w.heap[k]?)/\w'.heap[b']?=some (.cells c' e' (0,0))/\o'+cap'<=c'.size /\
  ∀k,k<n+m->c'[o'+k]?=rowV[k]?
theorem Hi(L:Lays2.n21 P ρ){w:World}{b off n c i vb voff m vc:Nat}{cc cv:Array Value}{e e2:TypeId}{cs vs:List Value}
  (hb:w.heap[b]?=some (.cells cc e (0,0))) (hv:w.heap[vb]?=some (.cells cv e2 (0,0))) (hne:vb≠b) (hin:i<=n) (hm:0<m) (hnc:n<=c)
  (hc63:c<=9223372036854775807) (hbig:(n+m)*8<=140737488355328) (hcc:off+c<=cc.size) (hcv:voff+m<=cv.size) (hn0:0<c)
  (hcl:cs.length=n) (hvl:vs.length=m) (hcs:∀j,j<n->cs[j]?=cc[off+j]?) (hvs:∀j,j<m->vs[j]?=cv[voff+j]?)
  (h1c:∀v∈cs,v.oneCell'=true) (h1v:∀v∈vs,v.oneCell'=true) :
  Ins P (ρ.f 21) #[.slice (some (adr b off)) n c,.int .i64 i,.slice (some (adr vb voff)) m vc] w b n m (cs.take i++(vs++cs.drop i)):=by
 have hbw:b<w.heap.size:=by
  grind
 have hcs':∀j v,cs[j]?=some v->w.cell? (adr b (off+j))=some v:=λj v hj=>by rw[pE hb,<-hcs j (by grind)];exact hj
 have hvs':∀j v,vs[j]?=some v->w.cell? (adr vb (voff+j))=some v:=λj v hj=>by rw[pE hv,<-hvs j (by grind)];exact hj
 have hsp:∀j,j<c->(w.cell? (adr b (off+j))).isSome=true:=λj hj=>by
  grind[pE]
 have hfz:∀j,w.frozen? (adr b j)=false:=λj=>by grind[World.frozen?,adr]
 have hfv:∀j,w.frozen? (adr vb j)=false:=λj=>by grind[World.frozen?,adr]
 have hdl:(cs.drop i).length=n - i:=by grind
 have htl:(cs.take i).length=i:=by grind
 by_cases hroom:n+m<=c
 ·by_cases hlt:i<n
  ·
   have h:=Any2.slices_Insert_int_shift L b off n c i vb voff m vc cs vs w hlt hm hroom hc63 hne hcl hvl hcs' (λj hj=>hsp j (by omega)) (λj _=>hfz _) hvs' h1c h1v
    e2 e cv.size cc.size (by grind[World.shape?]) (by grind[World.shape?]) (by omega) (hfv _) (hfv _)
   have hb':w.drew.heap[b]?=some (.cells cc e (0,0)):=hb;rw[jD (cs.drop i) (off+(i+m)) w.drew cc hb']at h;rw[jD vs (off+i) (World.setBlk w.drew b _) _ (by rw[bm,TE ⟨rfl,hbw⟩]),pu]at h;refine⟨b,off,c,_,e,_,h,hroom,hc63,⟨rfl,rfl,rfl,by simp_all,by first|exact Tp _|exact VB _|exact Nat.le_succ_of_le (VB _)⟩,.inl rfl,λk _ hk=>?_,by rw[bm,TE ⟨rfl,hbw⟩],by grind[bX],λk hk=>?_⟩
   ·rw[bm,TF (λh=>hk h.1)];rfl
   ·rw[gT hcl hvl hin,cq _ _ _ _ (by grind[bX]),cq _ _ _ _ (by omega),hdl,hvl]
    grind
  ·
   have hi:i=n:=by omega
   subst hi;have h:=Any2.slices_Insert_int_end_room L b off i c vb voff m vc vs w hm hroom hc63 hvl (λj hj=>by rw[Vd];exact hsp _ (by omega)) (λj _=>hfz _) hvs' h1v;rw[jD vs (off+i) w cc hb]at h;refine⟨b,off,c,_,e,_,h,hroom,hc63,⟨rfl,rfl,rfl,by simp,by first|exact Tp _|exact VB _|exact Nat.le_succ_of_le (VB _)⟩,.inl rfl,λk _ hk=>?_,by rw[bm,TE ⟨rfl,hbw⟩],by grind[bX],λk hk=>?_⟩
   ·rw[bm,TF (λh=>hk h.1)]
   ·rw[gT hcl hvl hin,cq _ _ _ _ (by omega),hvl]
    grind
 ·have hgc:=grownCap_ge w (n+m) c (ρ.t 3);have hgm:grownCap w (n+m) c (ρ.t 3)<=9223372036854775807:=by
   have:=grownCap_le_maxLen w (n+m) c (ρ.t 3) (by grind[maxLen])
   grind[maxLen]
  by_cases hlt:i<n
  ·
   have h:=Any2.slices_Insert_int_grow L b off n c i vb voff m vc cs vs w hlt hm hnc (by omega) hbig hcl hvl hcs' hvs' h1c h1v;obtain⟨G,hG⟩:∃G,G=grownCap w (n+m) c (ρ.t 3):=⟨_,rfl⟩;rw[<-hG]at h hgc hgm;obtain⟨ROW,hROW⟩:∃ROW:Array Value,ROW=(cs.take i).toArray++Builtin.zeroCells (Value.int .i64 0).cells (n+m - i)++Builtin.zeroCells (Value.int .i64 0).cells (G - (n+m)):=⟨_,rfl⟩;rw[<-hROW]at h;have hsz:ROW.size=G:=by grind[Builtin.zeroCells,Value.cells]
   have hpre:∀k,k<i->ROW[k]?=cs[k]?:=λk hk=>by
    grind
   have h0:(w.alloc (.cells ROW (ρ.t 3))).drew.heap[w.heap.size]?=some (.cells ROW (ρ.t 3) (0,0)):=by simp[zn,wA]
   rw[jD vs i _ ROW h0]at h;rw[jD (cs.drop i) (i+m) _ (bA ROW i vs) (e:=ρ.t 3) (f:=(0,0)) (by
    simp_all[World.setBlk,wA])]at h
   refine⟨w.heap.size,0,G,bA (bA ROW i vs) (i+m) (cs.drop i),ρ.t 3,_,h,hgc,hgm,⟨rfl,rfl,rfl,by simp_all,by first|exact Tp _|exact VB _|exact Nat.le_succ_of_le (VB _)⟩,.inr ⟨rfl,by simp_all⟩,λk hk _=>?_,?_,by grind[bX],λk hk=>?_⟩
   ·rw[bm,TF (by omega)];show (World.setBlk _ _ _).heap[_]?=_;rw[bm,TF (by omega)]
    grind[zn,wA]
   ·rw[bm,TE ⟨rfl,by simp_all⟩]
   ·rw[gT hcl hvl hin,T6,cq _ _ _ _ (by grind[bX]),cq _ _ _ _ (by omega),hdl,hvl]
    by_cases h1:k<i
    ·grind
    grind
  ·have hi:i=n:=by omega
   subst hi;have h:=Any2.slices_Insert_int_end_grow L (some (adr b off)) i c vb voff m vc cs vs w hm hnc (by omega) hbig hcl hvl (by grind)
    (λa ha j v hj=>by grind[fT]) hvs' h1v
   obtain⟨G,hG⟩:∃G,G=grownCap w (i+m) c (ρ.t 3):=⟨_,rfl⟩;rw[<-hG]at h hgc hgm;refine⟨w.heap.size,0,G,_,ρ.t 3,_,h,hgc,hgm,⟨rfl,rfl,rfl,by simp_all,by simp_all⟩,.inr ⟨rfl,by simp_all⟩,λk hk _=>?_,by simp[zn,wA];rfl,?_,λk hk=>?_⟩
   ·grind[zn,wA]
   ·grind[Builtin.zeroCells,Value.cells]
   grind
theorem Hj(L:Lays2.n21 P ρ){w:World}{base:Option Addr}{vb voff m vc:Nat}{vs:List Value}(hm:0<m)(hbig:m*8<=140737488355328)(hvl:vs.length=m)
  (hvs:∀j v,vs[j]?=some v->w.cell? (adr vb (voff+j))=some v) (h1v:∀v∈vs,v.oneCell'=true) :
  ∃cap rest,m<=cap/\cap<=9223372036854775807/\rest.size=cap - m /\
  Calls P (ρ.f 21) #[.slice base 0 0,.int .i64 0,.slice (some (adr vb voff)) m vc] w (λx y=>x=.returned (.slice (some (adr w.heap.size 0)) m cap)/\y=World.add (World.drewn w) (.cells (vs.toArray++rest) (ρ.t 3) (0,0))):=by
 have hgc:=grownCap_ge w (0+m) 0 (ρ.t 3);have hgm:grownCap w (0+m) 0 (ρ.t 3)<=9223372036854775807:=by
  have:=grownCap_le_maxLen w (0+m) 0 (ρ.t 3) (by grind[maxLen])
  grind[maxLen]
 have h:=Any2.slices_Insert_int_end_grow L base 0 0 vb voff m vc [] vs w hm (Tp _) (by omega) (by omega) rfl hvl (λ_=>rfl)
  (λa ha j v hj=>by grind) hvs h1v
 obtain⟨G,hG⟩:∃G,G=grownCap w (0+m) 0 (ρ.t 3):=⟨_,rfl⟩;rw[<-hG]at h hgc hgm;rw[T6]at h hgc;exact⟨G,Builtin.zeroCells (Value.int .i64 0).cells (G - m),hgc,hgm,by simp[Builtin.zeroCells,Value.cells],h⟩
end
noncomputable def qG(i:Nat)(rows:List (List AV))(g:G):OR :=
 aA (Nat.beq i 0&&Nat.ble (bL rows*8) 140737488355328) (.upd (.hsl g.nx 0 0 (bL rows) none) (g.new (.cells 1 rows 0 true false))) .fail
noncomputable def zk(id2 i:Nat)(s:AV)(vrows:List (List AV))(g:G):OR :=
 match s with
 |.nils=>qG i vrows g
 |.esl=>qG i vrows g
 | .hsl id ep off len none =>
  match g.get id with
  |.cells 1 [] ep' false _=>aA ((Nat.beq ep ep'&&Nat.beq off 0)&&Nat.beq len 0) (qG i vrows g) .fail
  | .cells sz rows ep' true false =>
   aA (((((((Nat.beq sz 1&&Nat.beq ep ep')&&Nat.beq off 0)&&Nat.beq len (bL rows))&&jF (Nat.beq id id2))&&Nat.ble i len)&&Nat.ble 1 len)&&Nat.ble ((len+bL vrows)*8) 140737488355328)
    (.upd (.hsl id (ep+1) 0 (len+bL vrows) none) (g.put id (.cells 1 (jO i rows++(vrows++i_ i rows)) (ep+1) true false))) .fail
  |_=>.fail
 |_=>.fail
noncomputable def kM:Nat->List AV->G->OR:=λ_ xs g =>
 match xs with
 | [s,.int .i64 (.ofNat i),.hsl id2 ep2 off2 len2 _] =>
  match g.get id2 with
  | .cells sz2 vrows ep2' _ _ =>
   aA ((((Nat.beq sz2 1&&Nat.beq ep2 ep2')&&Nat.beq off2 0)&&Nat.beq len2 (bL vrows))&&Nat.ble 1 len2) (zk id2 i s vrows g) .fail
  |_=>.fail
 |_=>.fail
theorem tA{d:Nat}{xs:List AV}{g:G}(h:kM d xs g≠.fail):∃s i id2 ep2 len2 lim2 vrows lo fz,xs=[s,.int .i64 (Int.ofNat i),.hsl id2 ep2 0 len2 lim2] /\
  g.h.get id2=.cells 1 vrows ep2 lo fz/\len2=vrows.length/\0<vrows.length/\kM d xs g=zk id2 i s vrows g:=by
 unfold kM at h ⊢
 split at h
 ·split at h
  ·rename_i hg;rw[aa]at h ⊢
   split at h
   ·rename_i hc;simp only[Ts,ax]at hc;obtain⟨⟨⟨⟨c1,c2⟩,c3⟩,c4⟩,c5⟩:=hc;have c1:=aL c1;have c2:=aL c2;have c3:=aL c3;have c4:=aL c4;subst c1;subst c2;subst c3;subst c4;rw[T8]at c5;refine⟨_,_,_,_,_,_,_,_,_,rfl,hg,rfl,c5,?_⟩;simp_all[ax]
   grind
  grind
 grind
theorem AA{id2 i:Nat}{s:AV}{vrows:List (List AV)}{g:G}(h:zk id2 i s vrows g≠.fail) :
  ((s=.nils\/s=.esl\/∃id ep fz,s=.hsl id ep 0 0 none/\g.h.get id=.cells 1 [] ep false fz)/\i=0/\vrows.length*8<=140737488355328/\zk id2 i s vrows g=.upd (.hsl g.nx 0 0 vrows.length none) (g.new (.cells 1 vrows 0 true false))) \/
  ∃id ep rows,s=.hsl id ep 0 rows.length none/\g.h.get id=.cells 1 rows ep true false/\id≠id2/\i<=rows.length/\0<rows.length/\(rows.length+vrows.length)*8<=140737488355328 /\
   zk id2 i s vrows g=.upd (.hsl id (ep+1) 0 (rows.length+vrows.length) none) (g.put id (.cells 1 (rows.take i++(vrows++rows.drop i)) (ep+1) true false)):=by
 have hnew:qG i vrows g≠.fail->i=0/\vrows.length*8<=140737488355328/\qG i vrows g=.upd (.hsl g.nx 0 0 vrows.length none) (g.new (.cells 1 vrows 0 true false)):=by simp_all[qG,aa,ax]
 unfold zk at h ⊢
 split at h
 ·grind
 ·grind
 ·rename_i id ep off len
  split at h
  ·rename_i ep' fz hg;rw[aa]at h
   split at h
   ·rename_i hc;have hc':=hc;simp only[Ts]at hc;obtain⟨⟨c1,c2⟩,c3⟩:=hc;have c1:=aL c1;have c2:=aL c2;have c3:=aL c3;subst c1;subst c2;subst c3;have:=hnew h;refine .inl ⟨.inr (.inr ⟨id,ep,fz,rfl,hg⟩),this.1,this.2.1,?_⟩<;>simp_all
   grind
  ·rename_i sz rows ep' hg;rw[aa]at h
   split at h
   ·rename_i hc;have hc':=hc;simp only[Ts,ax]at hc;obtain⟨⟨⟨⟨⟨⟨⟨c1,c2⟩,c3⟩,c4⟩,c5⟩,c6⟩,c7⟩,c8⟩:=hc;have c1:=aL c1;have c2:=aL c2;have c3:=aL c3;have c4:=aL c4;subst c1;subst c2;subst c3;subst c4;rw[T8]at c6 c7 c8;refine .inr ⟨id,ep,rows,rfl,hg,λe=>?_,c6,c7,c8,?_⟩
    all_goals simp_all[aa,ax,a_,bj]
   grind
  grind
 grind
section
variable {C:Cfg}{A:Nat->Nat->Prop}{bd:Nat}{w w':World}{γ γ':Gm}{hg:Nat->AObj}{nx:Nat}{ρ:Ren}
theorem Hh(L:Lays2.n21 C.P ρ)(hent:Enters C.P (ρ.f 21)):ExtOk C (ρ.f 21) kM:=by
 refine⟨λd xs g hwf=>?_,λd xs g y hy=>?_,λA bd w γ hg nx g xs vs hr hwf hx hf hv hne cs=>?_⟩
 ·apply Small.mon _ hwf
  by_cases h:kM d xs g=.fail
  ·rw[h];trivial
  ·obtain⟨s,i,id2,ep2,len2,lim2,vrows,lo,fz,e1,e2,e3,e4,e5⟩:=tA h;rw[e5]at h ⊢;rcases AA h with⟨_,_,_,h1⟩|⟨id,ep,rows,_,h2,_,_,_,_,h1⟩
   ·rw[h1];exact .inr ⟨_,rfl⟩
   ·rw[h1];exact .inl ⟨_,_,rfl,by grind⟩
 ·have h:kM d xs g≠.fail:=by grind
  obtain⟨s,i,id2,ep2,len2,lim2,vrows,lo,fz,e1,e2,e3,e4,e5⟩:=tA h;rw[e5]at h hy;rcases AA h with⟨_,_,_,h1⟩|⟨id,ep,rows,_,h2,_,_,_,_,h1⟩<;>(grind)
 ·obtain⟨s,i,id2,ep2,len2,lim2,vrows,lo,fz,e1,e2,e3,e4,e5⟩:=tA hne;subst e1;subst e3;rw[e5]at hne hf ⊢;obtain⟨v1,v2,v3,rfl⟩:∃v1 v2 v3,vs=[v1,v2,v3]:=by
   have:=hv.1
   match vs,this with
   |[a,b,c],_=>grind
  have r1:RV w γ A bd s v1:=hv.2 0 _ _ rfl rfl;have r2:RV w γ A bd (.int .i64 (Int.ofNat i)) v2:=hv.2 1 _ _ rfl rfl;have r3:RV w γ A bd (.hsl id2 ep2 0 vrows.length lim2) v3:=hv.2 2 _ _ rfl rfl;cases r2;have hid2:hg id2=.cells 1 vrows ep2 lo fz:=by
   grind[aC,aD]
  obtain⟨vc,hv3,hvc,_⟩:=vK hr r3 hid2;subst hv3;obtain⟨cv,ev,lv,p1,p2,p3,p4,p5,p6,p7⟩:=FN hr hid2;have hz:(γ id2).base+0*1=(γ id2).base:=by omega
  rw[hz]at r3 ⊢;rcases AA hne with⟨hs,hi,hbig,h1⟩|⟨id,ep,rows,hs,h2,hne2,hin,hpos,hbig,h1⟩
  ·subst hi;rw[h1]at hf ⊢;have hfree:(γ g.nx).kind=0:=hf g.nx (Tp _) (by simp[gOf]);have hbase:∃base,v1=.slice base 0 0:=by
    rcases hs with rfl|rfl|⟨id,ep,fz2,rfl,hgid⟩
    ·cases r1<;>grind
    ·cases r1<;>grind
    ·have hid:hg id=.cells 1 [] ep false fz2:=by
      grind[aC,aD]
     obtain⟨c,hv1,hnc,hco⟩:=vK hr r1 hid;have hob:=hr.obj id;rw[hid]at hob;obtain⟨-,-,-,k4,k5,-⟩:=hob;have hk:=k5.1 rfl;have hc0:c=0:=by grind[iV]
     grind
   obtain⟨base,hb⟩:=hbase;subst hb;obtain⟨cap,rest,q1,q2,q3,q4⟩:=Hj L (w:=w) (base:=base) (vb:=(γ id2).blk) (voff:=(γ id2).base) (m:=vrows.length) (vc:=vc) (vs:=lv) e4 hbig p3
    (λj v hj=>by rw[pE p1,<-p4 j (by grind)];exact hj) p5
   have hrr:RowsRel w γ A bd 1 vrows (lv.toArray++rest):=by refine⟨by simp[p3],p6,λk j row x a b=>?_⟩<;>grind
   obtain⟨γ',s1,s2,s3⟩:=xV (e:=ρ.t 3) hr hfree hrr vrows.length cap (by grind) q1 rfl q2;exact⟨_,_,γ',_,Om s1 s2,s3,.inr ⟨hent,uT q4 cs⟩⟩
  ·subst hs;rw[h1]at hf ⊢;have hid:hg id=.cells 1 rows ep true false:=by
    grind[aC,aD]
   obtain⟨c,hv1,hnc,hco⟩:=vK hr r1 hid;subst hv1;have hob:=hr.obj id;rw[hid]at hob;obtain⟨k1,k2,k3,k4,k5,k6,_⟩:=hob;have hob2:=hr.obj id2;rw[hid2]at hob2;obtain⟨m1,_⟩:=hob2;have hblk:(γ id2).blk≠(γ id).blk:=λe=>hne2 (hr.inj id id2 (by omega) (by omega) e.symm);obtain⟨cc,ec,lc,c1,c2,c3,c4,c5,c6,c7⟩:=FN hr hid;have hcap:c=rows.length+(γ id).slack:=by grind[iV]
   have hins:=Hi L (w:=w) (b:=(γ id).blk) (off:=(γ id).base) (n:=rows.length) (c:=c) (i:=i) (vb:=(γ id2).blk) (voff:=(γ id2).base) (m:=vrows.length) (vc:=vc)
    c1 p1 hblk hin e4 hnc (by grind) hbig (by omega) (by omega) (by omega) c3 p3 c4 p4 c5 p5
   obtain⟨b',o',cap',c',e',w',n1,n2,n3,n4,n5,n6,n7,n8,n9⟩:=hins
   let gh:Gh:=⟨1,ep+1,1,rows.length+vrows.length,b',o',cap' - (rows.length+vrows.length),true⟩
   have hrl:(rows.take i++(vrows++rows.drop i)).length=rows.length+vrows.length:=by grind
   have hcell:∀(k:Nat) row,(rows.take i++(vrows++rows.drop i))[k]?=some row->row.length=1/\∀(j:Nat) x,row[j]?=some x->x.one=true/\∃v,c'[o'+k*1+j]?=some v/\RV w γ A bd x v:=by
    intro k row hk;have hkl:k<rows.length+vrows.length:=by grind
    have hck:=n9 k hkl;rw[gT c3 p3 hin]at hck;rw[gT (n:=rows.length) (m:=vrows.length) rfl rfl hin]at hk
    split at hk
    ·rename_i h1;rw[TE h1]at hck;refine⟨c6 _ _ hk,λj x hj=>?_⟩;obtain⟨j0,o1,v,l1,l2⟩:=c7 _ j row x hk hj;subst j0
     grind
    ·rename_i h1;rw[TF h1]at hck
     split at hk
     ·rename_i h2;rw[TE h2]at hck;refine⟨p6 _ _ hk,λj x hj=>?_⟩;obtain⟨j0,o1,v,l1,l2⟩:=p7 _ j row x hk hj;subst j0
      grind
     ·rename_i h2;rw[TF h2]at hck;refine⟨c6 _ _ hk,λj x hj=>?_⟩;obtain⟨j0,o1,v,l1,l2⟩:=c7 _ j row x hk hj;subst j0
      grind
   obtain⟨s1,s2⟩:=hr.moved hid (w1:=w') (gh:=gh) (rows':=rows.take i++(vrows++rows.drop i)) rfl rfl rfl (by rw[hrl]) rfl (by grind) n4.2.2.2.2
    (by grind) n5 n6 (c:=c') (e:=e') n7 (by grind)
    (by grind) (λk j row x hk hj=>(hcell k row hk).2 j x hj)
   have hz':(γ id).base+0*1=(γ id).base:=by omega
   rw[hz'];refine⟨.slice (some (adr b' o')) (rows.length+vrows.length) cap',w',_,_,On s1 s2,?_,.inr ⟨hent,uT n1 cs⟩⟩;refine .hsl _ id (ep+1) 0 _ none _ _ cap' (by simp[gh]) (by simp[gh]) n2 (λ_=>⟨by simp[gh],by simp[gh],?_⟩)<;>grind[upd_same,iV]
end
end Hx
end
section
namespace Go.Proofs.Ytcefdmhbbgafiaa.Gen
open Hx
noncomputable def cfg0:Cfg:={ P:=Try.prog,iso:=λf=>Nat.testBit 19979948011046205927738284457762750463 f,ext:=λ_=>none,glob:=λ_=>none }
theorem cfg0Ok:CfgOk cfg0:=CfgOk.plain (by kernel_rfl) (by kernel_rfl)
theorem insOk:ExtOk cfg0 96 kM:=Hh (C:=cfg0) (ρ:=Try.lays21_ren) Re (Hx.JX Try.func96 (by kernel_rfl) (by kernel_rfl))
noncomputable def cfg:Cfg:=cfg0.add 96 kM
theorem cfgOk:CfgOk cfg:=cfg0Ok.add insOk
theorem reasons_run:am (sem cfg 20000) 1 G.empty 5 []=.val (.bool true):=by kernel_rfl
noncomputable def cfgR:Cfg:=cfg.add 5 (xL (.bool true))
theorem cfgROk:CfgOk cfgR:=cfgOk.add (Cx cfgOk reasons_run)
theorem works_run:am (sem cfgR 20000) 1 G.empty 14 []=.val (.bool true):=by kernel_rfl
noncomputable def cfg1:Cfg:=cfgR.add 14 (xL (.bool true))
theorem cfg1Ok:CfgOk cfg1:=cfgROk.add (Cx cfgROk works_run)
end Go.Proofs.Ytcefdmhbbgafiaa.Gen
end
section
namespace Hx
open Go
set_option maxRecDepth 100000
set_option maxHeartbeats 8000000
noncomputable section
@[reducible] def Wf (d:Nat)(p:BinOp)(a b:Nat):SI:=o d (.bin p (.t a) (.t b))
@[reducible] def Wg (d:Nat)(p:BinOp)(a:Nat)(z:Int):SI:=o d (.bin p (.t a) (qI z))
@[reducible] def Wh (d n a:Nat):SI:=o d (.load true n (.t a))
@[reducible] def Wi (d a i:Nat):SI:=o d (.ext (.t a) i)
@[reducible] def Wj (n a b:Nat):SI:=oz (.store n (.t a) (.t b))
@[reducible] def Wk (d a:Nat):SI:=o d (.nilc (.t a))
@[reducible] def Wl (d a b:Nat):SI:=o d (.pick (.t a) (.k (.bool true)) (.t b))
@[reducible] def Wm (d a b:Nat):SI:=o d (.pick (.t a) (.t b) (.k (.bool false)))
@[reducible] def Wn (d n a b:Nat):SI:=o d (.ixs n (.t a) (.t b))
@[reducible] def Wo (d s:Nat)(w:Bool)(a:Nat):SI:=og d s w (.mv (.t a))
@[reducible] def Wp (d s:Nat)(w:Bool)(a:Nat):SI:=og d s w (.load false 1 (.t a))
@[reducible] def Wq (d s:Nat)(w:Bool)(n a:Nat):SI:=og d s w (.fad n (.t a))
@[reducible] def Wr (d s:Nat)(w:Bool)(p:BinOp)(a b:Nat):SI:=og d s w (.bin p (.t a) (.t b))
@[reducible] def Ws (d s:Nat)(w:Bool)(p:BinOp)(a:Nat)(z:Int):SI:=og d s w (.bin p (.t a) (qI z))
@[reducible] def Wt (d s:Nat)(w:Bool)(a:Nat):SI:=og d s w (.len .slice (.t a))
def C0:Cfg:=Go.Proofs.Ytcefdmhbbgafiaa.Gen.cfg1
abbrev tII:Nat:=124
abbrev N.RK:Nat:=99
abbrev N.RL:Nat:=104
abbrev N.Rb:Nat:=34
abbrev N.RM:Nat:=66
abbrev N.Rm:Nat:=67
abbrev N.Q9:Nat:=69
abbrev N.Rn:Nat:=65
abbrev N.Ro:Nat:=89
abbrev N.Q_:Nat:=68
abbrev N.Rc:Nat:=13
abbrev N.Rd:Nat:=15
abbrev N.RN:Nat:=39
abbrev N.RO:Nat:=42
abbrev N.RP:Nat:=40
abbrev N.Rq:Nat:=41
abbrev N.Q5:Nat:=77
abbrev N.Re:Nat:=51
abbrev N.RQ:Nat:=78
abbrev N.RR:Nat:=4
abbrev N.Si:Nat:=14
abbrev N.RS:Nat:=71
abbrev N.RT:Nat:=76
abbrev N.RU:Nat:=91
abbrev N.Rr:Nat:=93
abbrev N.RW:Nat:=90
abbrev N.Rs:Nat:=98
abbrev N.Q7:Nat:=103
abbrev N.RX:Nat:=94
abbrev N.RY:Nat:=24
abbrev N.Ru:Nat:=57
abbrev N.RZ:Nat:=55
abbrev N.Rv:Nat:=20
abbrev N.R1:Nat:=56
abbrev N.Rx:Nat:=58
abbrev N.R2:Nat:=6
abbrev N.R3:Nat:=7
abbrev N.Ry:Nat:=59
abbrev N.R4:Nat:=21
abbrev N.Rz:Nat:=23
abbrev N.R5:Nat:=25
abbrev N.RA:Nat:=22
abbrev N.RB:Nat:=95
abbrev N.R6:Nat:=97
abbrev N.Ra:Nat:=18
abbrev N.Sg:Nat:=96
abbrev N.Q6:Nat:=16
abbrev N.R7:Nat:=100
abbrev N.R8:Nat:=50
abbrev N.Rf:Nat:=12
abbrev N.R9:Nat:=8
abbrev N.Rg:Nat:=17
abbrev N.RC:Nat:=11
abbrev N.R_:Nat:=85
abbrev N.Rh:Nat:=92
abbrev N.RD:Nat:=29
abbrev N.Ri:Nat:=27
abbrev N.RE:Nat:=30
abbrev N.RF:Nat:=61
abbrev N.Sa:Nat:=33
abbrev N.Sf:Nat:=64
abbrev N.Sb:Nat:=28
abbrev N.RG:Nat:=31
abbrev N.Q8:Nat:=63
abbrev N.Rj:Nat:=32
abbrev N.Sc:Nat:=84
abbrev N.Sd:Nat:=26
abbrev N.Se:Nat:=83
abbrev N.RH:Nat:=79
abbrev N.RJ:Nat:=62
abbrev N.Rl:Nat:=60
@[reducible] def cN (n:Nat):SF:=cG (nFn Go.Proofs.Ytcefdmhbbgafiaa.Gen.cfg1 n)
@[reducible] def cP0 (n p:Nat) {b:SC} (h:(((cN n).code.gA p).gL [])=b:=by conv=>lhs;reduce;try simp only[Int.reduceOfNat,Int.reduceNegSucc]):SC:=b
@[reducible] def cF0 (n:Nat) {b:SF} (h:((cN n).gF [])=b:=by conv=>lhs;reduce;try simp only[Int.reduceOfNat,Int.reduceNegSucc]):SF:=b
@[reducible] def cP1 (n p:Nat) (q0:Nat) (c0:SC) {b:SC->SC} (h:(λx0=>((cN n).code.gA p).gL [(q0,x0)])=b:=by conv=>lhs;reduce;try simp only[Int.reduceOfNat,Int.reduceNegSucc]):SC:=b c0
@[reducible] def cF1 (n:Nat) (q0:Nat) (c0:SC) {b:SC->SF} (h:(λx0=>(cN n).gF [(q0,x0)])=b:=by conv=>lhs;reduce;try simp only[Int.reduceOfNat,Int.reduceNegSucc]):SF:=b c0
@[reducible] def cP2 (n p:Nat) (q0 q1:Nat) (c0 c1:SC) {b:SC->SC->SC} (h:(λx0 x1=>((cN n).code.gA p).gL [(q0,x0),(q1,x1)])=b:=by conv=>lhs;reduce;try simp only[Int.reduceOfNat,Int.reduceNegSucc]):SC:=b c0 c1
@[reducible] def cF2 (n:Nat) (q0 q1:Nat) (c0 c1:SC) {b:SC->SC->SF} (h:(λx0 x1=>(cN n).gF [(q0,x0),(q1,x1)])=b:=by conv=>lhs;reduce;try simp only[Int.reduceOfNat,Int.reduceNegSucc]):SF:=b c0 c1
@[reducible] def cP3 (n p:Nat) (q0 q1 q2:Nat) (c0 c1 c2:SC) {b:SC->SC->SC->SC} (h:(λx0 x1 x2=>((cN n).code.gA p).gL [(q0,x0),(q1,x1),(q2,x2)])=b:=by conv=>lhs;reduce;try simp only[Int.reduceOfNat,Int.reduceNegSucc]):SC:=b c0 c1 c2
def ma:SC:=cP0 4 4863
def gi:SC:=cP0 4 155647
def mb:SC:=cP0 4 311295
def gk:SC:=sQ [Wh 136 3 5,oM 137 7,o 138 (.call N.RC [.t 136,.t 137]),oM 135 138,Wi 139 135 0,Wi 140 135 1,o 21 (.alloc [.int .i64 0,.nils]),Wj 2 21 139,oM 22 140] (.seq (sQ [oM 141 22,Wg 142 .neq 141 0] (.cond (.t 142) (sQ [oM 143 22,Wg 144 .eql 143 6,oM 4 144] (.ret)) (.skip))) (sQ [o 145 (.bsl 1 1 [.int .i64 0] [0] [.k (.int .i64 (-1))]),oM 146 11,o 147 (.call N.Q6 [.t 145,.t 146]),oM 23 147] (sQ [oM 148 23,oM 149 6,o 150 (.bsl 1 1 [.int .i64 0] [0] [.k (.int .i64 (-1))]),oM 151 7,oN 152 151,o 153 (.call N.Q6 [.t 150,.t 152]),o 154 (.bsl 1 3 [.nils] [0,1,2] [.t 148,.t 149,.t 153]),o 155 (.call N.Ra [.t 154]),oM 24 155] (sQ [oM 156 23,o 157 (.bsl 1 1 [.int .i64 0] [0] [.k (.int .i64 (-1))]),oM 158 7,oN 159 158,o 160 (.call N.Q6 [.t 157,.t 159]),oM 161 8,o 162 (.bsl 1 3 [.nils] [0,1,2] [.t 156,.t 160,.t 161]),o 163 (.call N.Ra [.t 162]),oM 25 163] (sQ [Wh 165 3 5,oM 166 6,oM 167 7,oM 168 8,o 169 (.call N.Rf [.t 165,.t 166,.t 167,.t 168]),oM 164 169,Wi 170 164 0,Wi 171 164 1,o 26 (.alloc [.int .i64 0,.int .i64 0]),Wj 2 26 170,oM 27 171] (sQ [Wh 173 2 21,oM 174 24,oM 175 25,o 176 (.call N.Rc [.t 173,.t 174,.t 175]),oM 172 176,Wi 177 172 0,Wi 178 172 1,o 28 (.alloc [.int .i64 0,.int .i64 0]),Wj 2 28 177,oM 29 178] (sQ [oM 179 27,oM 180 29,Wf 181 .eql 179 180,oM 182 181,og 183 182 true (.load true 2 (.t 26)),og 184 182 true (.load true 2 (.t 28)),og 185 182 true (.eq false (.flat [.int .i64,.int .i64]) (.t 183) (.t 184)),Wm 186 182 185,oM 187 186,Wo 188 187 true 27,Ws 189 187 true .eql 188 0,Wo 190 187 true 189,Wo 191 190 false 27,Ws 192 190 false .eql 191 7,og 193 187 true (.pick (.t 190) (.k (.bool true)) (.t 192)),Wm 194 187 193,oM 4 194] (.ret))))))))
def dL:SC:=cP2 4 32767 18 3 mb gk
def dM:SC:=cP2 4 1023 303 63 gi dL
def nf:SC:=cP2 4 3 2431 511 ma dM
def j6:SF:=cF1 4 3 nf
def jh:SC:=cP0 6 2431
def ji:SC:=cP0 6 117759
def eG:SC:=cP1 6 19455 7 ji
def jk:SC:=cP0 6 235519
def eH:SC:=cP1 6 38911 7 jk
def jl:SC:=cP0 6 7669886975
def eI:SC:=cP1 6 1227436031 7 jl
def jn:SC:=cP0 6 120139775
def eJ:SC:=cP2 6 19476479 73 7 eI jn
def jp:SC:=cP0 6 3945774264319
def dX:SC:=cP1 6 647239380991 7 jp
def d5:SC:=cP0 6 269282258943
def iD:SC:=cP1 6 131843305471 3 d5
def bV:SC:=cP0 6 4068028415
def d6:SC:=cP3 6 1920544767 602 122 3 dX iD bV
def iE:SC:=cP0 6 242823167
def dY:SC:=cP2 6 41496575 57 7 d6 iE
def iF:SC:=cP1 6 3747839 19 dY
def iG:SC:=cP0 6 471039
def dZ:SC:=cP3 6 77823 297 57 7 eJ iF iG
def iH:SC:=cP0 6 16383
def iI:SC:=cP2 6 8191 18 3 dZ iH
def iJ:SC:=cP2 6 4095 18 3 eH iI
def d7:SC:=cP2 6 1023 37 7 eG iJ
def iK:SC:=cP1 6 511 3 d7
def jI:SC:=cP2 6 3 1215 255 jh iK
def gq:SF:=cF1 6 3 jI
def gt:SC:=cP0 7 3659
def uy:SC:=cP0 7 459
def ux:SC:=cP2 7 75 57 7 gt uy
def mc:SC:=cP0 7 15
def nj:SC:=cP2 7 3 37 7 ux mc
def j7:SF:=cF1 7 3 nj
def wK:SC:=cP0 8 3
def vG:SF:=cF1 8 3 wK
def uK:SC:=cP0 11 3
def sU:SF:=cF1 11 3 uK
def od:SC:=cP0 12 607
def js:SC:=cP0 12 863
def oe:SC:=cP0 12 127
def pW:SC:=cP3 12 3 303 431 63 od js oe
def np:SF:=cF1 12 3 pW
def pK:SC:=cP0 13 1215
def jV:SC:=cP0 13 1727
def pL:SC:=cP0 13 255
def qZ:SC:=cP3 13 3 607 863 127 pK jV pL
def o5:SF:=cF1 13 3 qZ
def jW:SC:=cP0 15 303
def jX:SC:=cP0 15 1215
def pM:SC:=cP0 15 4863
def pN:SC:=cP0 15 6911
def pO:SC:=cP0 15 19455
def jY:SC:=cP0 15 4095
def jZ:SC:=cP2 15 1023 37 7 pO jY
def pP:SC:=cP3 15 255 37 53 7 pM pN jZ
def pQ:SC:=cP2 15 63 37 7 jX pP
def q7:SC:=cP2 15 3 151 31 jW pQ
def o6:SF:=cF1 15 3 q7
def lX:SC:=cP0 17 607
def rC:SC:=cP0 17 2431
def rD:SC:=cP0 17 152959
def rE:SC:=cP0 17 30079
def lY:SC:=cP2 17 3455 74 14 rD rE
def rF:SC:=cP0 17 511
def rG:SC:=cP3 17 127 37 53 7 rC lY rF
def sT:SC:=cP2 17 3 303 63 lX rG
def qC:SF:=cF1 17 3 sT
def cI:SC:=cP0 20 3659
def lT:SC:=cP0 20 459
def lS:SC:=cP2 20 75 57 7 cI lT
def eQ:SC:=cP0 20 15
def fk:SC:=cP2 20 3 37 7 lS eQ
def dk:SF:=cF1 20 3 fk
def nm:SF:=cF0 21
def lV:SF:=cF0 22
def fH:SF:=cF0 23
def ni:SC:=cP0 24 143
def sR:SC:=cP0 24 63
def sP:SF:=cF2 24 143 63 ni sR
def rt:SC:=cP0 25 3
def ph:SF:=cF1 25 3 rt
def Ap:SC:=cP0 26 40139
def As:SC:=cP0 26 971
def Aq:SC:=cP2 26 75 627 15 Ap As
def Ar:SC:=cP0 26 303
def ta:SC:=cP0 26 63
def tb:SC:=cP2 26 15 37 7 Ar ta
def uL:SC:=cP2 26 3 37 7 Aq tb
def s_:SF:=cF1 26 3 uL
def sW:SC:=cP0 27 9419
def sY:SC:=cP0 27 971
def sX:SC:=cP2 27 75 147 15 sW sY
def lf:SC:=cP0 27 15
def mg:SC:=cP2 27 3 37 7 sX lf
def ju:SF:=cF1 27 3 mg
def rQ:SC:=cP0 28 75
def jL:SC:=cP0 28 15
def lj:SC:=cP2 28 3 37 7 rQ jL
def g_:SF:=cF1 28 3 lj
def gu:SC:=cP0 29 155239
def gv:SC:=cP0 29 161054311
def md:SC:=cP0 29 7962215
def gw:SC:=cP2 29 622183 307 15 gv md
def me:SC:=cP0 29 130663
def mf:SC:=cP2 29 32359 37 7 gw me
def uA:SC:=cP0 29 487
def uz:SC:=cP3 29 39 4851 1011 15 gu mf uA
def nu:SC:=cP1 29 3 19 uz
def j8:SF:=cF1 29 3 nu
def sZ:SC:=cP0 30 75
def li:SC:=cP0 30 15
def mh:SC:=cP2 30 3 37 7 sZ li
def jv:SF:=cF1 30 3 mh
def jM:SC:=cP0 31 3
def gx:SF:=cF1 31 3 jM
def ol:SC:=cP0 32 37
def om:SC:=cP0 32 7
def nA:SF:=cF2 32 37 7 ol om
def mi:SC:=cP0 33 303
def mj:SC:=cP0 33 63
def nz:SC:=cP2 33 3 151 31 mi mj
def j_:SF:=cF1 33 3 nz
def uE:SC:=cP0 34 3
def sI:SF:=cF1 34 3 uE
def sL:SC:=cP0 39 151
def m9:SC:=cP0 39 648799
def sM:SC:=cP0 39 7775
def m_:SC:=cP2 39 607 1267 15 m9 sM
def sN:SC:=cP0 39 127
def sO:SC:=cP2 39 31 37 7 m_ sN
def uG:SC:=cP2 39 3 75 15 sL sO
def sK:SF:=cF1 39 3 uG
def gy:SC:=cP0 40 75
def gz:SC:=cP0 40 107
def gB:SC:=cP0 40 15
def iq:SC:=cP3 40 3 37 53 7 gy gz gB
def e_:SF:=cF1 40 3 iq
def fj:SC:=cP0 41 3
def dj:SF:=cF1 41 3 fj
def nc:SC:=cP0 42 151
def gY:SC:=cP0 42 31
def lR:SF:=cF2 42 151 31 nc gY
def zd:SC:=cP0 50 151
def rB:SC:=cP0 50 31
def sS:SC:=cP2 50 3 75 15 zd rB
def qB:SF:=cF1 50 3 sS
def fy:SC:=cP0 51 971
def fu:SC:=cP1 51 75 15 fy
def fA:SC:=cP0 51 15
def ge:SC:=cP2 51 3 37 7 fu fA
def dQ:SF:=cF1 51 3 ge
def qz:SC:=cP0 55 75
def jg:SC:=cP0 55 15
def jH:SC:=cP2 55 3 37 7 qz jg
def gn:SF:=cF1 55 3 jH
def zc:SC:=cP0 56 151
def ri:SC:=cP0 56 31
def qA:SF:=cF2 56 151 31 zc ri
def BX:SC:=cP0 57 75
def uJ:SC:=cP0 57 15
def vE:SF:=cF2 57 75 15 BX uJ
def xQ:SC:=cP0 58 75
def pT:SC:=cP0 58 15
def rn:SC:=cP2 58 3 37 7 xQ pT
def pg:SF:=cF1 58 3 rn
def vF:SC:=cP0 59 75
def nk:SC:=cP0 59 15
def n_:SC:=cP2 59 3 37 7 vF nk
def lU:SF:=cF1 59 3 n_
def xR:SC:=cP0 60 37
def pY:SC:=cP0 60 7
def po:SF:=cF2 60 37 7 xR pY
def ny:SC:=cP0 61 3
def j9:SF:=cF1 61 3 ny
def zf:SC:=cP0 62 75
def zg:SC:=cP0 62 151
def rI:SC:=cP0 62 31
def rJ:SC:=cP2 62 15 18 3 zg rI
def tf:SC:=cP2 62 3 37 7 zf rJ
def qE:SF:=cF1 62 3 tf
def dJ:SC:=cP0 63 19251
def gK:SC:=cP0 63 3891
def gM:SC:=cP0 63 243
def gJ:SC:=cP3 63 19 1203 243 15 dJ gK gM
def bP:SF:=cF1 63 19 gJ
def fe:SC:=cP0 64 303
def ff:SC:=cP0 64 607
def jJ:SC:=cP0 64 127
def jK:SC:=cP2 64 63 18 3 ff jJ
def gZ:SF:=cF2 64 303 63 fe jK
def l_:SC:=cP0 65 3
def jb:SF:=cF1 65 3 l_
def qY:SC:=cP0 66 3
def oY:SF:=cF1 66 3 qY
def pI:SC:=cP0 67 17
def pJ:SC:=cP0 67 7
def oZ:SF:=cF2 67 17 7 pI pJ
def sJ:SF:=cF0 68
def uF:SC:=cP0 69 7
def wH:SC:=cP1 69 3 3 uF
def vC:SF:=cF1 69 3 wH
def jc:SC:=cP0 71 303
def jd:SC:=cP0 71 63
def jG:SC:=cP2 71 3 151 31 jc jd
def gm:SF:=cF1 71 3 jG
def pR:SC:=cP0 76 303
def pS:SC:=cP0 76 63
def q8:SC:=cP2 76 3 151 31 pR pS
def o7:SF:=cF1 76 3 q8
def bM:SC:=cP0 77 2243
def bN:SC:=cP0 77 963
def cj:SC:=cP0 77 51
def dP:SC:=cP3 77 19 140 60 3 bM bN cj
def aM:SF:=cF1 77 19 dP
def cY:SC:=cP0 78 77003
def fC:SC:=cP0 78 15563
def fD:SC:=cP0 78 971
def fB:SC:=cP3 78 75 1203 243 15 cY fC fD
def fE:SC:=cP0 78 15
def gf:SC:=cP2 78 3 37 7 fB fE
def dR:SF:=cF1 78 3 gf
def ze:SC:=cP0 79 75
def rH:SC:=cP0 79 15
def qD:SF:=cF2 79 75 15 ze rH
def tc:SC:=cP0 83 620951
def lA:SC:=cP0 83 129431
def te:SC:=cP0 83 1943
def td:SC:=cP3 83 151 4851 1011 15 tc lA te
def dx:SC:=cP0 83 31
def mq:SC:=cP2 83 3 75 15 td dx
def jy:SF:=cF1 83 3 mq
def s6:SC:=cP0 84 154827
def lp:SC:=cP0 84 31947
def s8:SC:=cP0 84 971
def s7:SC:=cP3 84 75 2419 499 15 s6 lp s8
def lr:SC:=cP0 84 15
def mo:SC:=cP2 84 3 37 7 s7 lr
def jx:SF:=cF1 84 3 mo
def wN:SC:=cP0 85 124107
def wL:SC:=cP1 85 9419 15 wN
def wO:SC:=cP0 85 971
def wM:SC:=cP2 85 75 147 15 wL wO
def oh:SC:=cP0 85 15
def pX:SC:=cP2 85 3 37 7 wM oh
def nq:SF:=cF1 85 3 pX
def gg:SF:=cF0 89
def o8:SC:=cP0 90 303
def o9:SC:=cP0 90 1232063
def pd:SC:=cP0 90 249023
def uH:SC:=cP0 90 15551
def o_:SC:=cP3 90 1215 1203 243 15 o9 pd uH
def pf:SC:=cP0 90 255
def uI:SC:=cP2 90 63 37 7 o_ pf
def wI:SC:=cP2 90 3 151 31 o8 uI
def nh:SF:=cF1 90 3 wI
def ir:SC:=cP0 91 7775
def dT:SC:=cP1 91 607 15 ir
def dS:SC:=cP0 91 2431
def dU:SC:=cP0 91 38271
def dV:SC:=cP1 91 3455 18 dU
def it:SC:=cP0 91 511
def iv:SC:=cP3 91 127 37 53 7 dS dV it
def je:SC:=cP2 91 3 303 63 dT iv
def fF:SF:=cF1 91 3 je
def sV:SC:=cP0 92 37
def k_:SC:=cP0 92 7
def jt:SF:=cF2 92 37 7 sV k_
def iz:SC:=cP0 93 75
def iy:SC:=cP0 93 303
def dW:SC:=cP0 93 19119
def cD:SC:=cP0 93 3759
def iA:SC:=cP2 93 431 74 14 dW cD
def iB:SC:=cP0 93 63
def iC:SC:=cP3 93 15 37 53 7 iy iA iB
def jf:SC:=cP2 93 3 37 7 iz iC
def fG:SF:=cF1 93 3 jf
def q_:SC:=cP0 94 4679
def rg:SC:=cP0 94 839
def re:SC:=cP2 94 71 73 13 q_ rg
def rh:SC:=cP0 94 31
def qy:SF:=cF2 94 71 31 re rh
def d8:SC:=cP0 95 71
def d9:SC:=cP0 95 31
def cP:SF:=cF2 95 71 31 d8 d9
def dw:SF:=cF0 97
def wJ:SC:=cP0 98 3
def vD:SF:=cF1 98 3 wJ
def oV:SF:=cF0 99
def jr:SF:=cF0 100
def q9:SC:=cP0 103 9
def fX:SF:=cF1 103 9 q9
def m8:SF:=cF0 104
theorem wB:nFn C0 N.RR=some j6:=by kernel_rfl
theorem sG:nFn C0 N.R2=some gq:=by kernel_rfl
theorem qm(d:Nat)(xs:List AV)(g:G):an C0 d N.R2 xs g=am (I C0) d g N.R2 xs:=by kernel_rfl
theorem wC:nFn C0 N.R3=some j7:=by kernel_rfl
theorem uq(d:Nat)(xs:List AV)(g:G):an C0 d N.R3 xs g=am (I C0) d g N.R3 xs:=by kernel_rfl
theorem E9:nFn C0 N.R9=some vG:=by kernel_rfl
theorem BH(d:Nat)(xs:List AV)(g:G):an C0 d N.R9 xs g=am (I C0) d g N.R9 xs:=by kernel_rfl
theorem DG:nFn C0 N.RC=some sU:=by kernel_rfl
theorem zV(d:Nat)(xs:List AV)(g:G):an C0 d N.RC xs g=am (I C0) d g N.RC xs:=by kernel_rfl
theorem y_:nFn C0 N.Rf=some np:=by kernel_rfl
theorem wo(d:Nat)(xs:List AV)(g:G):an C0 d N.Rf xs g=am (I C0) d g N.Rf xs:=by kernel_rfl
theorem Ag:nFn C0 N.Rc=some o5:=by kernel_rfl
theorem xD(d:Nat)(xs:List AV)(g:G):an C0 d N.Rc xs g=am (I C0) d g N.Rc xs:=by kernel_rfl
theorem Ah:nFn C0 N.Rd=some o6:=by kernel_rfl
theorem xS(t:T)(g:G)(xs:List Od):SO.foot C0 t g (.call N.Rd xs)=ae ((fK t xs).flatMap (aC g.h aD)):=by kernel_rfl
theorem xE(d:Nat)(xs:List AV)(g:G):an C0 d N.Rd xs g=am (I C0) d g N.Rd xs:=by kernel_rfl
theorem BQ:nFn C0 N.Rg=some qC:=by kernel_rfl
theorem zh(t:T)(g:G)(xs:List Od):SO.foot C0 t g (.call N.Rg xs)=ae ((fK t xs).flatMap (aC g.h aD)):=by kernel_rfl
theorem yY(d:Nat)(xs:List AV)(g:G):an C0 d N.Rg xs g=am (I C0) d g N.Rg xs:=by kernel_rfl
theorem m7:nFn C0 N.Rv=some dk:=by kernel_rfl
theorem lZ(t:T)(g:G)(xs:List Od):SO.foot C0 t g (.call N.Rv xs)=ae ((fK t xs).flatMap (aC g.h aD)):=by kernel_rfl
theorem lO(d:Nat)(xs:List AV)(g:G):an C0 d N.Rv xs g=am (I C0) d g N.Rv xs:=by kernel_rfl
theorem y9:nFn C0 N.R4=some nm:=by kernel_rfl
theorem wn(d:Nat)(xs:List AV)(g:G):an C0 d N.R4 xs g=orF ((I C0).call d N.R4 xs g):=by kernel_rfl
theorem xP:nFn C0 N.RA=some lV:=by kernel_rfl
theorem nF(t:T)(g:G)(xs:List Od):SO.foot C0 t g (.call N.RA xs)=ae ((fK t xs).flatMap (aC g.h aD)):=by kernel_rfl
theorem ve(d:Nat)(xs:List AV)(g:G):an C0 d N.RA xs g=am (I C0) d g N.RA xs:=by kernel_rfl
theorem rO:nFn C0 N.Rz=some fH:=by kernel_rfl
theorem iL(t:T)(g:G)(xs:List Od):SO.foot C0 t g (.call N.Rz xs)=bf:=by kernel_rfl
theorem pC(d:Nat)(xs:List AV)(g:G):an C0 d N.Rz xs g=orF ((I C0).call d N.Rz xs g):=by kernel_rfl
theorem DF:nFn C0 N.RY=some sP:=by kernel_rfl
theorem zU(d:Nat)(xs:List AV)(g:G):an C0 d N.RY xs g=am (I C0) d g N.RY xs:=by kernel_rfl
theorem Ak:nFn C0 N.R5=some ph:=by kernel_rfl
theorem xH(d:Nat)(xs:List AV)(g:G):an C0 d N.R5 xs g=am (I C0) d g N.R5 xs:=by kernel_rfl
theorem DH:nFn C0 N.Sd=some s_:=by kernel_rfl
theorem zW(d:Nat)(xs:List AV)(g:G):an C0 d N.Sd xs g=am (I C0) d g N.Sd xs:=by kernel_rfl
theorem vv:nFn C0 N.Ri=some ju:=by kernel_rfl
theorem si(d:Nat)(xs:List AV)(g:G):an C0 d N.Ri xs g=am (I C0) d g N.Ri xs:=by kernel_rfl
theorem uw:nFn C0 N.Sb=some g_:=by kernel_rfl
theorem rL(d:Nat)(xs:List AV)(g:G):an C0 d N.Sb xs g=orF ((I C0).call d N.Sb xs g):=by kernel_rfl
theorem wD:nFn C0 N.RD=some j8:=by kernel_rfl
theorem mr(t:T)(g:G)(xs:List Od):SO.foot C0 t g (.call N.RD xs)=bf:=by kernel_rfl
theorem ur(d:Nat)(xs:List AV)(g:G):an C0 d N.RD xs g=orF ((I C0).call d N.RD xs g):=by kernel_rfl
theorem vz:nFn C0 N.RE=some jv:=by kernel_rfl
theorem lB(t:T)(g:G)(xs:List Od):SO.foot C0 t g (.call N.RE xs)=ae ((fK t xs).flatMap (aC g.h aD)):=by kernel_rfl
theorem sj(d:Nat)(xs:List AV)(g:G):an C0 d N.RE xs g=am (I C0) d g N.RE xs:=by kernel_rfl
theorem sH:nFn C0 N.RG=some gx:=by kernel_rfl
theorem qo(d:Nat)(xs:List AV)(g:G):an C0 d N.RG xs g=am (I C0) d g N.RG xs:=by kernel_rfl
theorem zb:nFn C0 N.Rj=some nA:=by kernel_rfl
theorem ww(d:Nat)(xs:List AV)(g:G):an C0 d N.Rj xs g=am (I C0) d g N.Rj xs:=by kernel_rfl
theorem wF:nFn C0 N.Sa=some j_:=by kernel_rfl
theorem uu(d:Nat)(xs:List AV)(g:G):an C0 d N.Sa xs g=am (I C0) d g N.Sa xs:=by kernel_rfl
theorem DC:nFn C0 N.Rb=some sI:=by kernel_rfl
theorem zR(d:Nat)(xs:List AV)(g:G):an C0 d N.Rb xs g=am (I C0) d g N.Rb xs:=by kernel_rfl
theorem DE:nFn C0 N.RN=some sK:=by kernel_rfl
theorem zT(d:Nat)(xs:List AV)(g:G):an C0 d N.RN xs g=am (I C0) d g N.RN xs:=by kernel_rfl
theorem qt:nFn C0 N.RP=some e_:=by kernel_rfl
theorem oP(d:Nat)(xs:List AV)(g:G):an C0 d N.RP xs g=am (I C0) d g N.RP xs:=by kernel_rfl
theorem m6:nFn C0 N.Rq=some dj:=by kernel_rfl
theorem lN(d:Nat)(xs:List AV)(g:G):an C0 d N.Rq xs g=am (I C0) d g N.Rq xs:=by kernel_rfl
theorem xN:nFn C0 N.RO=some lR:=by kernel_rfl
theorem u_(d:Nat)(xs:List AV)(g:G):an C0 d N.RO xs g=am (I C0) d g N.RO xs:=by kernel_rfl
theorem BP:nFn C0 N.R8=some qB:=by kernel_rfl
theorem yX(d:Nat)(xs:List AV)(g:G):an C0 d N.R8 xs g=am (I C0) d g N.R8 xs:=by kernel_rfl
theorem oT:nFn C0 N.Re=some dQ:=by kernel_rfl
theorem nE(t:T)(g:G)(xs:List Od):SO.foot C0 t g (.call N.Re xs)=ae ((fK t xs).flatMap (aC g.h aD)):=by kernel_rfl
theorem mY(d:Nat)(xs:List AV)(g:G):an C0 d N.Re xs g=am (I C0) d g N.Re xs:=by kernel_rfl
theorem sF:nFn C0 N.RZ=some gn:=by kernel_rfl
theorem qk(d:Nat)(xs:List AV)(g:G):an C0 d N.RZ xs g=am (I C0) d g N.RZ xs:=by kernel_rfl
theorem BO:nFn C0 N.R1=some qA:=by kernel_rfl
theorem yW(d:Nat)(xs:List AV)(g:G):an C0 d N.R1 xs g=am (I C0) d g N.R1 xs:=by kernel_rfl
theorem E8:nFn C0 N.Ru=some vE:=by kernel_rfl
theorem uM(t:T)(g:G)(xs:List Od):SO.foot C0 t g (.call N.Ru xs)=bf:=by kernel_rfl
theorem BG(d:Nat)(xs:List AV)(g:G):an C0 d N.Ru xs g=orF ((I C0).call d N.Ru xs g):=by kernel_rfl
theorem Aj:nFn C0 N.Rx=some pg:=by kernel_rfl
theorem xT(t:T)(g:G)(xs:List Od):SO.foot C0 t g (.call N.Rx xs)=ae ((fK t xs).flatMap (aC g.h aD)):=by kernel_rfl
theorem xG(d:Nat)(xs:List AV)(g:G):an C0 d N.Rx xs g=am (I C0) d g N.Rx xs:=by kernel_rfl
theorem xO:nFn C0 N.Ry=some lU:=by kernel_rfl
theorem vI(t:T)(g:G)(xs:List Od):SO.foot C0 t g (.call N.Ry xs)=ae ((fK t xs).flatMap (aC g.h aD)):=by kernel_rfl
theorem vd(d:Nat)(xs:List AV)(g:G):an C0 d N.Ry xs g=am (I C0) d g N.Ry xs:=by kernel_rfl
theorem Am:nFn C0 N.Rl=some po:=by kernel_rfl
theorem xJ(d:Nat)(xs:List AV)(g:G):an C0 d N.Rl xs g=am (I C0) d g N.Rl xs:=by kernel_rfl
theorem wE:nFn C0 N.RF=some j9:=by kernel_rfl
theorem mu(t:T)(g:G)(xs:List Od):SO.foot C0 t g (.call N.RF xs)=ae ((fK t xs).flatMap (aC g.h aD)):=by kernel_rfl
theorem ut(d:Nat)(xs:List AV)(g:G):an C0 d N.RF xs g=am (I C0) d g N.RF xs:=by kernel_rfl
theorem BV:nFn C0 N.RJ=some qE:=by kernel_rfl
theorem y6(d:Nat)(xs:List AV)(g:G):an C0 d N.RJ xs g=am (I C0) d g N.RJ xs:=by kernel_rfl
theorem qw:nFn C0 N.Q8=some bP:=by kernel_rfl
theorem uv:nFn C0 N.Sf=some gZ:=by kernel_rfl
theorem vp:nFn C0 N.Rn=some jb:=by kernel_rfl
theorem rZ(d:Nat)(xs:List AV)(g:G):an C0 d N.Rn xs g=am (I C0) d g N.Rn xs:=by kernel_rfl
theorem Ae:nFn C0 N.RM=some oY:=by kernel_rfl
theorem Af:nFn C0 N.Rm=some oZ:=by kernel_rfl
theorem xC(d:Nat)(xs:List AV)(g:G):an C0 d N.Rm xs g=am (I C0) d g N.Rm xs:=by kernel_rfl
theorem DD:nFn C0 N.Q_=some sJ:=by kernel_rfl
theorem Av(t:T)(g:G)(xs:List Od):SO.foot C0 t g (.call N.Q_ xs)=ae ((fK t xs).flatMap (aC g.h aD)):=by kernel_rfl
theorem zS(d:Nat)(xs:List AV)(g:G):an C0 d N.Q_ xs g=am (I C0) d g N.Q_ xs:=by kernel_rfl
theorem E5:nFn C0 N.Q9=some vC:=by kernel_rfl
theorem B0(t:T)(g:G)(xs:List Od):SO.foot C0 t g (.call N.Q9 xs)=ae ((fK t xs).flatMap (aC g.h aD)):=by kernel_rfl
theorem BC(d:Nat)(xs:List AV)(g:G):an C0 d N.Q9 xs g=am (I C0) d g N.Q9 xs:=by kernel_rfl
theorem sE:nFn C0 N.RS=some gm:=by kernel_rfl
theorem qj(d:Nat)(xs:List AV)(g:G):an C0 d N.RS xs g=am (I C0) d g N.RS xs:=by kernel_rfl
theorem Ai:nFn C0 N.RT=some o7:=by kernel_rfl
theorem xF(d:Nat)(xs:List AV)(g:G):an C0 d N.RT xs g=am (I C0) d g N.RT xs:=by kernel_rfl
theorem lP:nFn C0 N.Q5=some aM:=by kernel_rfl
theorem oU:nFn C0 N.RQ=some dR:=by kernel_rfl
theorem mZ(d:Nat)(xs:List AV)(g:G):an C0 d N.RQ xs g=am (I C0) d g N.RQ xs:=by kernel_rfl
theorem BU:nFn C0 N.RH=some qD:=by kernel_rfl
theorem yZ(d:Nat)(xs:List AV)(g:G):an C0 d N.RH xs g=am (I C0) d g N.RH xs:=by kernel_rfl
theorem vB:nFn C0 N.Se=some jy:=by kernel_rfl
theorem su(d:Nat)(xs:List AV)(g:G):an C0 d N.Se xs g=am (I C0) d g N.Se xs:=by kernel_rfl
theorem vA:nFn C0 N.Sc=some jx:=by kernel_rfl
theorem so(d:Nat)(xs:List AV)(g:G):an C0 d N.Sc xs g=am (I C0) d g N.Sc xs:=by kernel_rfl
theorem za:nFn C0 N.R_=some nq:=by kernel_rfl
theorem wu(d:Nat)(xs:List AV)(g:G):an C0 d N.R_ xs g=am (I C0) d g N.R_ xs:=by kernel_rfl
theorem sD:nFn C0 N.Ro=some gg:=by kernel_rfl
theorem E6:nFn C0 N.RW=some nh:=by kernel_rfl
theorem BE(d:Nat)(xs:List AV)(g:G):an C0 d N.RW xs g=am (I C0) d g N.RW xs:=by kernel_rfl
theorem rM:nFn C0 N.RU=some fF:=by kernel_rfl
theorem pA(d:Nat)(xs:List AV)(g:G):an C0 d N.RU xs g=am (I C0) d g N.RU xs:=by kernel_rfl
theorem vu:nFn C0 N.Rh=some jt:=by kernel_rfl
theorem sg(d:Nat)(xs:List AV)(g:G):an C0 d N.Rh xs g=am (I C0) d g N.Rh xs:=by kernel_rfl
theorem rN:nFn C0 N.Rr=some fG:=by kernel_rfl
theorem pB(d:Nat)(xs:List AV)(g:G):an C0 d N.Rr xs g=am (I C0) d g N.Rr xs:=by kernel_rfl
theorem BM:nFn C0 N.RX=some qy:=by kernel_rfl
theorem yV(d:Nat)(xs:List AV)(g:G):an C0 d N.RX xs g=am (I C0) d g N.RX xs:=by kernel_rfl
theorem lQ:nFn C0 N.RB=some cP:=by kernel_rfl
theorem jT(d:Nat)(xs:List AV)(g:G):an C0 d N.RB xs g=am (I C0) d g N.RB xs:=by kernel_rfl
theorem rP:nFn C0 N.R6=some dw:=by kernel_rfl
theorem pD(d:Nat)(xs:List AV)(g:G):an C0 d N.R6 xs g=orF ((I C0).call d N.R6 xs g):=by kernel_rfl
theorem E7:nFn C0 N.Rs=some vD:=by kernel_rfl
theorem BF(d:Nat)(xs:List AV)(g:G):an C0 d N.Rs xs g=am (I C0) d g N.Rs xs:=by kernel_rfl
theorem Ad:nFn C0 N.RK=some oV:=by kernel_rfl
theorem xB(d:Nat)(xs:List AV)(g:G):an C0 d N.RK xs g=am (I C0) d g N.RK xs:=by kernel_rfl
theorem vq:nFn C0 N.R7=some jr:=by kernel_rfl
theorem r_(d:Nat)(xs:List AV)(g:G):an C0 d N.R7 xs g=am (I C0) d g N.R7 xs:=by kernel_rfl
theorem BL:nFn C0 N.Q7=some fX:=by kernel_rfl
theorem y8:nFn C0 N.RL=some m8:=by kernel_rfl
theorem wm(d:Nat)(xs:List AV)(g:G):an C0 d N.RL xs g=am (I C0) d g N.RL xs:=by kernel_rfl
theorem af{α:Type}{l:List α}{j:Nat}(h:j<l.length):∃x,l[j]?=some x/\l.take (j+1)=l.take j++[x]/\x∈l :=
 ⟨l[j],Tn h,by rw[U6,Tn h];rfl,TW h⟩
def S.R2(lo hi:Int)(l:List Int):Bool:=l.all λx=>decide (lo<=x)&&decide (x<=hi)
theorem Dj{d:Nat}{g:G}{lo hi:Int}{v:AV}(hd:0<d)(hv:AC g.h v)(hl:(pp g.h v).length<9223372036854775808) :
  an C0 d N.Rl [.int .i64 lo,.int .i64 hi,v] g=.val (.bool (S.R2 lo hi (pp g.h v))):=by
 obtain⟨v',e,hr,hlen⟩:=Lg hv hl d;generalize pp g.h v=l at hr hlen hl ⊢;rw[xJ];refine eR Am (xs:=[.int .i64 lo,.int .i64 hi,v']) (by simp only[aK,fg 0,e]) (by simp[po]) hd ?_;simp only[po,sx,SO.run,↓reduceIte,Nat.reduceEqDiff,hlen];refine aq hl (λj t df g=>df=[]/\St t [(0,.int .i64 lo),(1,.int .i64 hi),(9,v')]/\S.R2 lo hi (l.take j)=true)
  ⟨rfl,by simp[St,sx],rfl⟩ (by simp[sx]) (by simp[sx]) (by decide) (by rintro j t df g v s (rfl|rfl|rfl)<;>simp[St,sx]) ?_ ?_
 ·rintro j t df g hj ⟨rfl,⟨h0,h1,h9,-⟩,hw⟩ h11 h10;obtain⟨x,hx,htk,hm⟩:=af hj;simp only[sx,SO.run,↓reduceIte,Nat.reduceEqDiff,hr,h0,h9,h11,hx,hj,Tx,Tq,Tz,Tt,TQ,ci];have bad:(x<lo\/hi<x)->S.R2 lo hi l=false:=λh=>by simp only[S.R2,List.all_eq_false];exact⟨x,hm,by simp;omega⟩
  refine aR (λhb=>?_) (λhb=>?_)
  ·simp only[sx,sy,SO.run,↓reduceIte,Nat.reduceEqDiff,hb];rw[bad (.inl (by simpa using hb))]
  ·simp only[sx,SO.run,↓reduceIte,Nat.reduceEqDiff,hb,h1];refine aR (λhc=>?_) (λhc=>?_)
   ·simp only[sx,sy,SO.run,↓reduceIte];rw[bad (.inr (by simpa using hc))]
   ·simp only[sx,sy,↓reduceIte,Nat.reduceEqDiff,h10,h11,St,h0,h1,h9,htk];simp[S.R2]at *;exact⟨hw,by omega⟩
 ·rintro t df g ⟨rfl,-,hw⟩;rw[TO]at hw;simp only[pY,sx,SO.run,↓reduceIte,hw]
def S.Tm(l:List Int):Int:=l.foldl (λs x=>IntKind.wrap .i64 (s*x)) 1
theorem O9{d:Nat}{g:G}{v w:AV}{l p:List Int}{K:AV->G->Prop}{D:ADf->Prop}(hv:∀g',Fr g g'->ac g'.h 1 v=some (l.map ci))(hw:∀g',Fr g g'->ac g'.h 1 w=some (p.map ci))(hp:p.length<1073741824)
  (hin:∀x∈p,0<=x/\x<l.length) (k:∀r g',Own g' g.nx r 1 ((p.map λx=>l[x.toNat]?.getD 0).map ci)->Fr g g'->(∀i∈g'.lg,i∈g.lg\/g.nx<=i)->K r g'):(an C0 d N.Ru [v,w] g).sat K g D:=by
 rw[BG];refine mD E8 (by simp[vE]) ?_;simp only[vE,sx,SO.run];have hlen2:∀g,dm .slice w g=.val (.int .i64 (p.length:Int)):=λg'=>by rw[bQ (hw g (Fr.refl g)),Tz]
 refine O5 (by omega) hlen2 (λj t df g'=>df=[]/\(Fr g g'/\∀i∈g'.lg,i∈g.lg\/g.nx<=i)/\tat t 0=v/\∃u,tat t 5=u/\Own g' g.nx u 1 (((p.take j).map λx=>l[x.toNat]?.getD 0).map ci)) ⟨rfl,⟨Fr.refl g,λi hi=>.inl hi⟩,by simp[sx],_,rfl,.inl ⟨by simp[sx],rfl⟩⟩ (by simp[sx]) (by simp[sx]) (by decide)
  (by rintro j t df g v s (rfl|rfl|rfl|rfl|rfl|rfl|rfl)<;>simp[sx]) ?_ ?_
 ·rintro j t df g1 hj ⟨rfl,⟨hf,hlg⟩,h0,u,h5,hu⟩ h6 h1;obtain⟨x,hx,htk,hm⟩:=af hj;obtain⟨hx0,hxl⟩:=hin x hm;obtain⟨n,rfl⟩:=Ty hx0;have hn:n<l.length:=by omega
  simp only[sx,sy,SO.run,↓reduceIte,Nat.reduceEqDiff,hv g1 hf,hw g1 hf,h0,h1,h5,h6,hx,hj,hn,Tx,Tq,Tz,Tt,TQ,ci,Tn hn];refine aT (new:=[ci l[n]]) (hu.step (Fr.new _ _)) (by simp[sx,sy,ci]) (by have:=hf.1;simp;omega) (by simp[aQ];omega) λv2 g2 hv2 n2 f2 _ l2=>?_;have hf2:Fr g g2:=by refine⟨TU hf.1 (TU (by simp) n2),λi hi=>?_⟩;have:=hf.1;rw[f2 i (by simp;omega) (λe=>by have:=(hu.lt e).1;omega),G.new_h,ah _ _ _ (by omega),hf.2 i hi]
  simp only[sx,sy,SO.run,↓reduceIte,Nat.reduceEqDiff,h0,h1,h6];refine⟨⟨hf2,λi hi=>?_⟩,_,rfl,?_⟩
  ·rcases l2 i hi with h|h
   ·simp at h;rcases h with rfl|h
    ·exact .inr hf.1
    ·exact hlg i h
   ·exact .inr h
  rw[htk];simpa [hn,ci] using hv2
 ·rintro t df g1 ⟨rfl,⟨hf,hlg⟩,h0,u,h5,hu⟩ -;rw[TO]at hu;simp only[uJ,sx,SO.run,↓reduceIte,h5];exact k _ _ hu hf hlg
structure Mech where
 card:Int
 frm:List Int
 noise:List Int
 out:List Int
structure Causal where
 grain:Int
 roots:List (List Int)
 nodes:List Mech
structure Node where
 card:Int
 parents:List Int
 rows:List (List Int)
structure Net where
 grain:Int
 nodes:List Node
structure Factor where
 vars:List Int
 cards:List Int
 w:List Int
instance : Rp Mech:=Rp.via λm:Mech=>(m.card,m.frm,m.noise,m.out)
instance : Rp Causal:=Rp.via λm:Causal=>(m.grain,m.roots,m.nodes)
instance : Rp Node:=Rp.via λm:Node=>(m.card,m.parents,m.rows)
instance : Rp Net:=Rp.via λm:Net=>(m.grain,m.nodes)
instance : Rp Factor:=Rp.via λm:Factor=>(m.vars,m.cards,m.w)
section
variable {P:Nat->Prop}{k:Nat}{h:H}{cs:List AV}
theorem dG{m:Mech}:Rp.rp P k h m cs↔∃a b c,cs=[.int .i64 m.card,a,b,c]/\SlR P k h m.frm a/\SlR P k h m.noise b/\SlR P k h m.out c:=by
 constructor
 ·rintro⟨c1,c2,rfl,h1,d1,d2,rfl,⟨a,rfl,h2⟩,e1,e2,rfl,⟨b,rfl,h3⟩,⟨c,rfl,h4⟩⟩;rw[aB.1 h1];grind
 ·rintro⟨a,b,c,rfl,h2,h3,h4⟩;exact⟨[.int .i64 m.card],[a,b,c],rfl,aB.2 rfl,[a],[b,c],rfl,⟨a,rfl,h2⟩,[b],[c],rfl,⟨b,rfl,h3⟩,⟨c,rfl,h4⟩⟩
theorem aZ{m:Causal}:Rp.rp P k h m cs↔∃a b,cs=[.int .i64 m.grain,a,b]/\SlR P k h m.roots a/\SlR P k h m.nodes b:=by
 constructor
 ·rintro⟨c1,c2,rfl,h1,d1,d2,rfl,⟨a,rfl,h2⟩,⟨b,rfl,h3⟩⟩;rw[aB.1 h1];grind
 ·rintro⟨a,b,rfl,h2,h3⟩;exact⟨[.int .i64 m.grain],[a,b],rfl,aB.2 rfl,[a],[b],rfl,⟨a,rfl,h2⟩,⟨b,rfl,h3⟩⟩
theorem fm{m:Node}:Rp.rp P k h m cs↔∃a b,cs=[.int .i64 m.card,a,b]/\SlR P k h m.parents a/\SlR P k h m.rows b:=by
 constructor
 ·rintro⟨c1,c2,rfl,h1,d1,d2,rfl,⟨a,rfl,h2⟩,⟨b,rfl,h3⟩⟩;rw[aB.1 h1];grind
 ·rintro⟨a,b,rfl,h2,h3⟩;exact⟨[.int .i64 m.card],[a,b],rfl,aB.2 rfl,[a],[b],rfl,⟨a,rfl,h2⟩,⟨b,rfl,h3⟩⟩
theorem fO{m:Net}:Rp.rp P k h m cs↔∃a,cs=[.int .i64 m.grain,a]/\SlR P k h m.nodes a:=by
 constructor
 ·rintro⟨c1,c2,rfl,h1,⟨a,rfl,h2⟩⟩;simp_all[aB]
 ·rintro⟨a,rfl,h2⟩;exact⟨[.int .i64 m.grain],[a],rfl,aB.2 rfl,⟨a,rfl,h2⟩⟩
theorem eC{m:Factor}:Rp.rp P k h m cs↔∃a b c,cs=[a,b,c]/\SlR P k h m.vars a/\SlR P k h m.cards b/\SlR P k h m.w c:=by
 constructor
 ·rintro⟨c1,c2,rfl,⟨a,rfl,h2⟩,e1,e2,rfl,⟨b,rfl,h3⟩,⟨c,rfl,h4⟩⟩<;>grind
 ·rintro⟨a,b,c,rfl,h2,h3,h4⟩;exact⟨[a],[b,c],rfl,⟨a,rfl,h2⟩,[b],[c],rfl,⟨b,rfl,h3⟩,⟨c,rfl,h4⟩⟩
end
theorem SlR.get{α:Type} [Rp α]{P:Nat->Prop}{k:Nat}{h:H}{l:List α}{v:AV}(r:SlR P k h l v){i:Nat}{x:α}(hi:l[i]?=some x) :
  ∃rows row,ac h (Rp.sz α) v=some rows/\rows.length=l.length/\rows[i]?=some row/\Rp.rp P k h x row:=by
 obtain⟨rows,h1,h2⟩:=r.rows;obtain⟨row,h3,h4⟩:=h2.get hi;exact⟨rows,row,h1,h2.len.symm,h3,h4⟩
theorem SlR.len{α:Type} [Rp α]{P:Nat->Prop}{k:Nat}{h:H}{l:List α}{v:AV}(r:SlR P k h l v)(g:G):dm .slice v g=.val (.int .i64 (l.length:Int)):=by obtain⟨rows,h1,h2⟩:=r.rows;rw[bQ h1,h2.len]
theorem SlR.tree{α:Type} [Rp α]{k k':Nat}{h h':H}{l:List α}{v:AV}(r:SlR NoP k h l v)(hk:k<=k'):SlR NoP k' h' l v:=by obtain⟨w,hw,q⟩:=Rp.tree (P:=NoP) (k':=k') (h':=h') (show Rp.rp NoP k h l [v] from ⟨v,rfl,r⟩) hk<;>grind
theorem cX{α:Type} [Rp α]{P:Nat->Prop}{k:Nat}{h:H}{l:List α}{v:AV}(r:SlR P k h l v)(d:Nat)(hd:Rp.dp (List α)<=20:=by decide) :
  ∃v',Hx.snap h d aD v=some v'/\∀h',SlR NoP (max k d) h' l v':=by
 obtain⟨v',e,w,hw,q⟩:=eZ (a9 l hd) (by decide) d (show One l P k h v from ⟨v,rfl,r⟩);injection hw with hw;subst hw;exact⟨v',e,λh'=>q.tree (Tp _)⟩
theorem SlR.all{α:Type} [Rp α]{k:Nat}{h:H}{l:List α}{v:AV}(r:SlR NoP k h l v) :
  ∃rows:List (List AV),(∀h',ac h' (Rp.sz α) v=some rows)/\rows.length=l.length/\(∀(i:Nat) (x:α),l[i]?=some x->∃row,rows[i]?=some row/\Rp.rp NoP k .nil x row)/\(0<l.length->rR v=true):=by
 have r0:=(r.tree (h':=.nil) (Tp _));obtain⟨rows,h1,h2⟩:=r0.rows;refine⟨rows,λh'=>?_,h2.len.symm,λi x hi=>h2.get hi,λhl=>qO h1 (i:=0) (by grind[All2.len])⟩;rw[<-h1];exact yK λid ep off len lim e=>by subst e;exact r.2.1.elim
theorem IT.mk{k:Nat}{l:List Int}{r:AV}(h:SlR NoP k .nil l r):IT k l r:=⟨r,rfl,h⟩
theorem Dp{P:Nat->Prop}{k:Nat}{h:H}{l:List Nat}{v:AV}(r:SlR P k h l v):∀x∈l,x<18446744073709551616:=by obtain⟨rows,h1,h2⟩:=r.rows;intro x hx;obtain⟨i,hi,e⟩:=Ui.1 hx;obtain⟨row,h3,h4⟩:=h2.get (i:=i) (a:=x) (by grind);simp_all[HN]
theorem ct(p:Nat->Bool)(j:Nat):(List.range (j+1)).all p=((List.range j).all p&&p j):=by grind
theorem eO{p:Nat->Bool}{j n:Nat}(h:j<n)(hp:p j=false):(List.range n).all p=false:=by
 grind
end
end Hx
end
section
namespace Hx
open Go
noncomputable section
theorem Lv{d k:Nat}{g:G}{P:Nat->Prop}{v:AV}{m:Causal}(hd:0<d)(hm:Agg m P k g.h v)(hn:m.nodes.length<1073741824) :
  ∃r,an C0 d N.Rx [v] g=.val r/\IT 0 (m.nodes.map (·.card)) r:=by
 obtain⟨v',e,cs,rfl,hc⟩:=eZ (bz m) (by decide) d hm;obtain⟨a,b,rfl,hR,hN⟩:=aZ.1 hc;rw[xG];refine bg Aj (xs:=[.agg [.int .i64 m.grain,a,b]]) (by simp only[aK,e]) (by simp[pg]) (a9 _) (by decide) hd ?_;simp only[pg,rn,sx,sy,SO.run,↓reduceIte,Nat.reduceAdd];refine f_ m.nodes.length (by omega) (λj t df g=>df=[]/\tat t 1=.hptr 0 0 0 0/\g.h.get 0=We 3 [[.int .i64 m.grain,a,b]]/\1<=g.nx/\∃u,tat t 3=u/\Own g 1 u 1 (((m.nodes.take j).map (·.card)).map ci))
  ⟨rfl,by simp[sx],by simp[sx],by simp[sx],_,rfl,.inl ⟨by simp[sx],rfl⟩⟩ (by simp[sx]) (by decide)
  (by rintro j t df g v s (rfl|rfl|rfl)<;>simp[sx]) ?_ ?_ ?_
 ·rintro j t df g hj ⟨rfl,h1,hg,hnx,u,h3,hu⟩ h4;simp only[sx,sy,SO.run,↓reduceIte,Nat.reduceEqDiff,h1,h4,hg,hN.len];exact⟨hnx,u,h3,hu⟩
 ·rintro j t df g hj ⟨rfl,h1,hg,hnx,u,h3,hu⟩ h4;obtain⟨x,hx,htk,hm⟩:=af hj;obtain⟨rows,row,r1,r2,r3,r4⟩:=(hN.tree (h':=g.h) (Tp _)).get hx;obtain⟨a',b',c',rfl,-⟩:=dG.1 r4;have hlt:j<rows.length:=by omega
  simp only[sx,sy,SO.run,↓reduceIte,Nat.reduceEqDiff,h1,h3,h4,hg,show ac g.h 4 b=some rows from r1,hlt,r3,Tx,Tq,qO r1 hlt];refine aT (new:=[ci x.card]) (hu.step (Fr.new _ _)) (by simp[sx,sy,ci]) (by simp) (by simp[aQ];omega) λv2 g2 hv2 n2 f2 _ l2=>?_;simp only[sx,sy,SO.run,↓reduceIte,Nat.reduceEqDiff,h1,h4];refine⟨?_,?_,_,rfl,?_⟩
  ·rw[f2 0 (by simp) (λe=>by have:=(hu.lt e).1;omega),G.new_h,ah _ _ _ (by omega),hg]
  ·simp at n2;omega
  ·rw[htk];simpa [ci] using hv2
 ·rintro t df g ⟨rfl,h1,hg,hnx,u,h3,hu⟩;rw[TO]at hu;simp only[pT,sx,SO.run,↓reduceIte,h3];exact⟨_,hu.ints (by simp;omega)⟩
theorem Hn{d k:Nat}{g:G}{P:Nat->Prop}{v:AV}{m:Causal}(hd:0<d)(hm:Agg m P k g.h v)(hn:m.roots.length<1073741824) :
  ∃r,an C0 d N.Ry [v] g=.val r/\IT 0 (m.roots.map λr=>(r.length:Int)) r:=by
 obtain⟨v',e,cs,rfl,hc⟩:=eZ (bz m) (by decide) d hm;obtain⟨a,b,rfl,hR,hN⟩:=aZ.1 hc;rw[vd];refine bg xO (xs:=[.agg [.int .i64 m.grain,a,b]]) (by simp only[aK,e]) (by simp[lU]) (a9 _) (by decide) hd ?_;simp only[lU,n_,sx,sy,SO.run,↓reduceIte,Nat.reduceAdd];refine f_ m.roots.length (by omega) (λj t df g=>df=[]/\tat t 1=.hptr 0 0 0 0/\g.h.get 0=We 3 [[.int .i64 m.grain,a,b]]/\1<=g.nx/\∃u,tat t 3=u/\Own g 1 u 1 (((m.roots.take j).map λr=>(r.length:Int)).map ci))
  ⟨rfl,by simp[sx],by simp[sx],by simp[sx],_,rfl,.inl ⟨by simp[sx],rfl⟩⟩ (by simp[sx]) (by decide)
  (by rintro j t df g v s (rfl|rfl|rfl)<;>simp[sx]) ?_ ?_ ?_
 ·rintro j t df g hj ⟨rfl,h1,hg,hnx,u,h3,hu⟩ h4;simp only[sx,sy,SO.run,↓reduceIte,Nat.reduceEqDiff,h1,h4,hg,hR.len];exact⟨hnx,u,h3,hu⟩
 ·rintro j t df g hj ⟨rfl,h1,hg,hnx,u,h3,hu⟩ h4;obtain⟨x,hx,htk,hm⟩:=af hj;obtain⟨rows,row,r1,r2,r3,r4⟩:=(hR.tree (h':=g.h) (Tp _)).get hx;obtain⟨u',rfl,hu'⟩:=f6.1 r4;have hlt:j<rows.length:=by omega
  simp only[sx,sy,SO.run,↓reduceIte,Nat.reduceEqDiff,h1,h3,h4,hg,show ac g.h 1 a=some rows from r1,hu'.len,hlt,r3,Tx,Tq];refine aT (new:=[ci x.length]) (hu.step (Fr.new _ _)) (by simp[sx,sy,ci]) (by simp) (by simp[aQ];omega) λv2 g2 hv2 n2 f2 _ l2=>?_;simp only[sx,sy,SO.run,↓reduceIte,Nat.reduceEqDiff,h1,h4];refine⟨?_,?_,_,rfl,?_⟩
  ·rw[f2 0 (by simp) (λe=>by have:=(hu.lt e).1;omega),G.new_h,ah _ _ _ (by omega),hg]
  ·simp at n2;omega
  ·rw[htk];simpa [ci] using hv2
 ·rintro t df g ⟨rfl,h1,hg,hnx,u,h3,hu⟩;rw[TO]at hu;simp only[nk,sx,SO.run,↓reduceIte,h3];exact⟨_,hu.ints (by simp;omega)⟩
def S.RP(l:List Int)(n:Int)(i:Nat):Bool:=decide (0<=l[i]?.getD 0)&&decide (l[i]?.getD 0<n)&&(i == 0 || decide (l[i - 1]?.getD 0<l[i]?.getD 0))
def S.Rc(l:List Int)(n:Int):Bool:=(List.range l.length).all (S.RP l n)
theorem uO{d k:Nat}{g:G}{P:Nat->Prop}{v:AV}{l:List Int}{n:Int}(hd:0<d)(hv:SlR P k g.h l v) :
  an C0 d N.Rh [v,.int .i64 n] g=.val (.bool (S.Rc l n)):=by
 obtain⟨v',e,r1⟩:=cX hv d;rw[sg];refine eR vu (xs:=[v',.int .i64 n]) (by simp only[aK,fg 0,e]) (by simp[jt]) hd ?_;simp only[jt,sx,SO.run,↓reduceIte,Nat.reduceEqDiff,(r1 .nil).len];have hl:=hv.1;refine aq hl (λj t df g=>df=[]/\St t [(0,v'),(1,.int .i64 n),(7,v')]/\(List.range j).all (S.RP l n)=true)
  ⟨rfl,by simp[St,sx],rfl⟩ (by simp[sx]) (by simp[sx]) (by decide) (by rintro j t df g v s (rfl|rfl|rfl)<;>simp[St,sx]) ?_ ?_
 ·rintro j t df g hj ⟨rfl,⟨h0,h1,h7,-⟩,hw⟩ h9 h8;obtain⟨x,hx,htk,hm⟩:=af hj;have bad:S.RP l n j=false->S.Rc l n=false:=λh=>eO hj h;simp only[sx,SO.run,↓reduceIte,Nat.reduceEqDiff,(r1 g.h).ints,h7,h9,hx,hj,Tx,Tq,Tz,Tt,TQ,ci];refine aR (λhb=>?_) (λhb=>?_)
  ·simp only[sx,sy,SO.run,↓reduceIte,Nat.reduceEqDiff,hb];rw[bad (by simp[S.RP,hx]at *;omega)]
  ·simp only[sx,SO.run,↓reduceIte,Nat.reduceEqDiff,hb,h1];refine aR (λhc=>?_) (λhc=>?_)
   ·simp only[sx,sy,SO.run,↓reduceIte,Nat.reduceEqDiff,hc];rw[bad (by simp[S.RP,hx]at *;omega)]
   ·simp only[sx,SO.run,↓reduceIte,Nat.reduceEqDiff,hc];refine aR (λhd=>?_) (λhd=>?_)
    ·obtain⟨i,rfl⟩:∃i,j=i+1:=⟨j - 1,by simp at hd;omega⟩;obtain⟨y,hy,-,-⟩:=af (l:=l) (j:=i) (by omega);have hi:i<l.length:=by omega
     have e:IntKind.wrap .i64 (((i+1:Nat):Int) - 1)=(i:Int):=by rw[au (by omega) (by omega)];omega
     simp only[sx,SO.run,↓reduceIte,Nat.reduceEqDiff,(r1 g.h).ints,hd,e,h0,hy,hi,Tx,Tq,Tz,Tt,TQ,ci];refine aR (λhe=>?_) (λhe=>?_)
     ·simp only[sx,sy,SO.run,↓reduceIte];rw[bad (by simp[S.RP,hx,hy]at *;omega)]
     ·simp only[sx,sy,↓reduceIte,Nat.reduceEqDiff,St,h0,h1,h7,h8,h9];rw[ct,hw];simp[S.RP,hx,hy]at *;omega
    ·have:j=0:=by simp at hd;omega
     subst this;simp only[sx,sy,SO.run,↓reduceIte,Nat.reduceEqDiff,hd,St,h0,h1,h7,h8,h9];simp[S.RP,hx]at *;omega
 ·rintro t df g ⟨rfl,-,hw⟩;simp only[k_,sx,SO.run,↓reduceIte];rw[S.Rc,hw]
def S.RN(n:Nat):Nat:=1*2 ^ n % 18446744073709551616
def S.Re(l:List Int):Nat:=l.foldl (λs x=>s ||| S.RN x.toNat) 0
theorem qh(n:Nat):S.RN n<18446744073709551616:=U4 _ (by decide)
theorem yB{α:Type}(f:α->Nat)(hf:∀a,f a<18446744073709551616):∀(l:List α) (s:Nat),s<18446744073709551616->l.foldl (λs x=>s ||| f x) s<18446744073709551616
 |[],_,h=>h
 |a::l,s,h=>yB f hf l _ (IY h (hf a))
theorem oB(l:List Int):S.Re l<18446744073709551616:=yB _ (λa=>qh _) l 0 (by decide)
theorem xX(l:List Int)(x:Int):S.Re (l++[x])=S.Re l ||| S.RN x.toNat:=by simp[S.Re]
theorem ij(k':IntKind)(n:Nat):dO .shl (.int .u64 1) (.int k' (n:Int))=.val (.int .u64 (S.RN n:Int)):=N5 k' 1 n
theorem Nt{d k:Nat}{g:G}{P:Nat->Prop}{v:AV}{l:List Int}(hd:0<d)(hv:SlR P k g.h l v)(hp:∀x∈l,0<=x) :
  an C0 d N.RH [v] g=.val (.int .u64 (S.Re l:Int)):=by
 obtain⟨v',e,r1⟩:=cX hv d;rw[yZ];refine oo BU (xs:=[v']) (by simp only[aK,e]) (by simp[qD]) hd ?_;simp only[qD,sx,SO.run,↓reduceIte,Nat.reduceEqDiff,(r1 .nil).len];refine aq hv.1 (λj t df g=>df=[]/\St t [(6,v'),(3,.int .u64 (S.Re (l.take j):Int))])
  ⟨rfl,by simp[St,sx,S.Re]⟩ (by simp[sx]) (by simp[sx]) (by decide) (by rintro j t df g v s (rfl|rfl|rfl)<;>simp[St,sx]) ?_ ?_
 ·rintro j t df g hj ⟨rfl,h6,h3,-⟩ h8 h7;obtain⟨x,hx,htk,hm⟩:=af hj;obtain⟨n,rfl⟩:=Ty (hp x hm);simp only[sx,sy,SO.run,↓reduceIte,Nat.reduceEqDiff,(r1 g.h).ints,h3,h6,h7,h8,hx,hj,Tx,Tq,Tz,Tt,TQ,ci,ij,zL _ _ (oB _) (qh _),St];rw[htk,xX];rfl
 ·rintro t df g ⟨rfl,h6,h3,-⟩;rw[TO]at h3;simp only[rH,sx,SO.run,↓reduceIte,h3]
def S.S6(s v:Nat):Bool:=s / 2 ^ v &&& 1 == 1
def S.Sj(p:List Nat)(s:Nat)(j:Nat):Nat:=(List.range j).foldl (λs v=>if S.S6 s v then s ||| p[v]?.getD 0 else s) s
def S.up(p:List Nat)(s:Nat)(j:Nat):Nat:=(List.range j).foldl (λs _=>S.Sj p s p.length) s
theorem nT(p:List Nat)(s j:Nat):S.Sj p s (j+1)=if S.S6 (S.Sj p s j) j then S.Sj p s j ||| p[j]?.getD 0 else S.Sj p s j:=by unfold S.Sj;rw[Uw,List.foldl_append];rfl
theorem qT(p:List Nat)(s j:Nat):S.up p s (j+1)=S.Sj p (S.up p s j) p.length:=by unfold S.up;rw[Uw,List.foldl_append];rfl
def S.Sk(p:List Nat):Bool:=(List.range p.length).all λv=>!S.S6 (S.up p (p[v]?.getD 0) p.length) v
theorem kI{d:Nat}(hd:0<d)(g:G)(lo hi x:Int) :
  an C0 d N.Rl [.int .i64 lo,.int .i64 hi,.hsl g.nx 0 0 1 none] (g.new (We 1 [[.int .i64 x]]))=.val (.bool (decide (lo<=x)&&decide (x<=hi))):=by
 have hr:ac (g.new (We 1 [[.int .i64 x]])).h 1 (.hsl g.nx 0 0 1 none)=some ([x].map ci):=by simp[sx,sy,ci]
 rw[Dj hd (CK hr) (by rw[wT hr];simp),wT hr];simp[S.R2]
theorem Dk{d k:Nat}{P:Nat->Prop}(hd:0<d){g:G}{lo hi:Int}{v:AV}{l:List Int}(hv:SlR P k g.h l v) :
  an C0 d N.Rl [.int .i64 lo,.int .i64 hi,v] g=.val (.bool (S.R2 lo hi l)):=by
 rw[Dj hd (CK hv.ints) (by rw[wT hv.ints];exact hv.1),wT hv.ints]
def S.Sc(gr:Int)(r:List Int):Bool:=decide (1<=(r.length:Int))&&decide ((r.length:Int)<=4)&&S.R2 0 gr r&&decide (r.sum=gr)
def S.Q5(l:List Int):Int:=l.foldl (·*·) 1
def S.Sq(m:Causal):Bool:=m.roots.all (S.Sc m.grain)&&decide (S.Q5 (m.roots.map λr=>(r.length:Int))<=1024)
theorem cU(l:List Int)(x:Int):S.Q5 (l++[x])=S.Q5 l*x:=by simp[S.Q5]
theorem bI{a b:Nat}(h:a<=b):(4:Int) ^ a<=4 ^ b:=by
 obtain⟨c,rfl⟩:∃c,b=a+c:=⟨b - a,by omega⟩
 induction c with
 |zero=>exact VW _
 | succ c ih =>
  have:=ih (by omega);rw[show a+(c+1)=(a+c)+1 from rfl,Vr];have h0:(0:Int)<=4 ^ (a+c):=Int.le_of_lt (Int.pow_pos (by decide));omega
theorem bu(a:Int)(l:List Int):S.Q5 (a::l)=a*S.Q5 l:=by
 have:∀(l:List Int) (s:Int),l.foldl (·*·) s=s*l.foldl (·*·) 1:=by
  intro l
  induction l with
  |nil=>intro s;simp
  |cons x l ih=>intro s;rw[VI,ih,VI,ih (1*x),VA,UK]
 unfold S.Q5;rw[VI,this,VA]
theorem ba:∀{l:List Int},(∀x∈l,1<=x/\x<=4)->1<=S.Q5 l/\S.Q5 l<=4 ^ l.length
 |[],_=>⟨by decide,by decide⟩
 | a::l,h=>by
  obtain⟨h1,h2⟩:=ba (l:=l) λx hx=>h x (by simp[hx]);obtain⟨h3,h4⟩:=h a (by simp);rw[bu,Ud,Vr,VK (4 ^ l.length)];constructor
  ·have:=Uk h3 h1 (by decide) (by omega);simpa using this
  ·exact Uk h4 h2 (by omega) (by decide)
theorem Da{b:Int}(hb:0<=b):∀{l:List Int},(∀x∈l,0<=x/\x<=b)->0<=l.sum/\l.sum<=b*l.length
 |[],_=>by simp
 | a::l,h=>by
  obtain⟨h1,h2⟩:=Da hb (l:=l) λx hx=>h x (by simp[hx]);obtain⟨h3,h4⟩:=h a (by simp);rw[V6,Ud];have:b*((l.length+1:Nat):Int)=b*(l.length:Int)+b:=by rw[Vq,Int.mul_add];simp
  omega
theorem xh(l:List Int)(x:Int):(l++[x]).sum=l.sum+x:=by simp
theorem Bt{lo hi:Int}{l:List Int}:S.R2 lo hi l=true↔∀x∈l,lo<=x/\x<=hi:=by simp[S.R2]
theorem B8{d k:Nat}{g:G}{P:Nat->Prop}{v:AV}{m:Causal}(hd:0<d)(hm:Agg m P k g.h v)(hg1:1<=m.grain)(hg2:m.grain<=12)(hn:m.roots.length<=8) :
  an C0 d N.Se [v] g=.val (.bool (S.Sq m)):=by
 obtain⟨v',e,cs,rfl,hc⟩:=eZ (bz m) (by decide) d hm;obtain⟨a,b,rfl,hR,hN⟩:=aZ.1 hc;obtain⟨rows,r1,r2,r3,r4⟩:=hR.all;have r1:∀h',ac h' 1 a=some rows:=r1;rw[su];refine eR vB (xs:=[.agg [.int .i64 m.grain,a,b]]) (by simp only[aK,e]) (by simp[jy]) hd ?_;simp only[jy,mq,sx,sy,SO.run,↓reduceIte,Nat.reduceEqDiff,Nat.reduceAdd,hR.len];have fin:∀(q:Bool) (t:T) (g:G),tat t 3=.int .i64 (S.Q5 (m.roots.map λr=>(r.length:Int)))\/q=false->tat t 4=.bool q ->
   wp C0 (d+1) none dx (fnQ C0 (d+1) [SR.tm 2] λv x=>v=AV.bool (q&&decide (S.Q5 (m.roots.map λr=>(r.length:Int))<=1024))) t [] g:=by
  intro q t g h3 h4;simp only[dx,sx,SO.run,↓reduceIte,h4];refine aR (λhb=>?_) (λhb=>?_)
  ·subst hb;rcases h3 with h3|h3
   ·simp only[sx,SO.run,↓reduceIte,Nat.reduceEqDiff,h3,Up]
   ·cases h3
  ·subst hb;simp only[sx,SO.run,↓reduceIte,Nat.reduceEqDiff,VR]
 refine aq (m:=m.roots.length) (by omega) (λj t df g=>df=[]/\St t [(1,.hptr 0 0 0 0),(11,a),(3,.int .i64 (S.Q5 ((m.roots.take j).map λr=>(r.length:Int)))),(4,.bool true)]/\g.h.get 0=We 3 [[.int .i64 m.grain,a,b]]/\1<=g.nx/\(m.roots.take j).all (S.Sc m.grain)=true)
  ⟨rfl,by simp[St,sx,S.Q5],by simp[sx],by simp[sx],rfl⟩ (by simp[sx]) (by simp[sx]) (by decide) (by rintro j t df g v s (rfl|rfl|rfl)<;>simp[St,sx]) ?_ ?_
 ·rintro j t df g hj ⟨rfl,⟨h1,h11,h3,h4,-⟩,hg,hnx,hw⟩ h13 h12;obtain⟨x,hx,htk,hm⟩:=af hj;obtain⟨row,q1,q2⟩:=r3 j x hx;obtain⟨u,rfl,hu⟩:=f6.1 q2;have hlt:j<rows.length:=by omega
  have bad:S.Sc m.grain x=false->S.Sq m=false:=λh=>by rw[S.Sq,Bool.and_eq_false_iff];left;rw[List.all_eq_false];exact⟨x,hm,by simp[h]⟩
  have hbad:∀(t:T) (g:G),S.Sc m.grain x=false->tat t 4=.bool false->wp C0 (d+1) none dx (fnQ C0 (d+1) [SR.tm 2] λv x=>v=AV.bool (S.Sq m)) t [] g:=λt g h1 h2=>by rw[bad h1];exact fin false t g (.inr rfl) h2
  have hlen:((m.roots.take j).map λr=>(r.length:Int)).length<=8:=by simp;omega
  have hpb:1<=S.Q5 ((m.roots.take j).map λr=>(r.length:Int))/\S.Q5 ((m.roots.take j).map λr=>(r.length:Int))<=4 ^ 8:=by
   have:=ba (l:=(m.roots.take j).map λr=>(r.length:Int)) (by
    intro y hy;obtain⟨r,hr,rfl⟩:=T4.1 hy;have:=TC.1 hw r hr;simp[S.Sc]at this;omega)
   exact⟨this.1,VJ this.2 (bI hlen)⟩
  simp only[sx,sy,SO.run,↓reduceIte,h11,h13,r1,hlt,q1,Tx,Tq,hu.len,kI (TG d)];refine aR (λhb=>?_) (λhb=>?_)
  ·simp only[sx,sy,SO.run,↓reduceIte,Nat.reduceEqDiff,hb];exact hbad _ _ (by simp[S.Sc]at *;omega) (by simp only[sx,↓reduceIte])
  ·have hg':(g.new (We 1 [[AV.int IntKind.i64 ↑x.length]])).h.get 0=We 3 [[.int .i64 m.grain,a,b]]:=by rw[G.new_h,ah _ _ _ (by omega),hg]
   have hb':1<=x.length/\x.length<=4:=by simp at hb;omega
   have hnx':1<=(g.new (We 1 [[AV.int IntKind.i64 ↑x.length]])).nx:=by simp
   generalize g.new (We 1 [[AV.int IntKind.i64 ↑x.length]])=g' at *;simp only[sx,sy,SO.run,↓reduceIte,Nat.reduceEqDiff,hb,h1,hg'];rw[Dk (TG d) (hu.tree (h':=g'.h) (Tp _))];simp only[sx,SO.run,↓reduceIte,Nat.reduceEqDiff];cases hwi:S.R2 0 m.grain x with
   | false =>
    simp only[sx,sy,SO.run,↓reduceIte,Nat.reduceEqDiff,T9];exact hbad _ _ (by simp only[S.Sc,hwi,VC,VR]) (by simp only[sx,↓reduceIte])
   | true =>
    have hwx:=Bt.1 hwi;simp only[sx,SO.run,↓reduceIte,Nat.reduceEqDiff,Um,h3,hu.len,au (show -9223372036854775808<=S.Q5 ((m.roots.take j).map λr=>(r.length:Int))*(x.length:Int) by
      have:=Ur (show 0<=S.Q5 ((m.roots.take j).map λr=>(r.length:Int)) by omega) (show (0:Int)<=x.length by omega);omega)
     (show S.Q5 ((m.roots.take j).map λr=>(r.length:Int))*(x.length:Int)<9223372036854775808 by
      have:=Uk (show S.Q5 ((m.roots.take j).map λr=>(r.length:Int))<=65536 from hpb.2) (show (x.length:Int)<=4 by omega) (by omega) (by decide);omega)]
    refine aq hu.1 (λi t df g''=>df=[]/\g''=g'/\St t [(1,.hptr 0 0 0 0),(11,a),(12,.int .i64 m.roots.length),(13,.int .i64 j),(33,u),(3,.int .i64 (S.Q5 ((m.roots.take j).map λr=>(r.length:Int))*(x.length:Int))),(4,.bool true),(7,.int .i64 ((x.take i).sum))])
     ⟨rfl,rfl,by simp[St,sx,h1,h11,h12,h13,h4]⟩ (by simp[sx]) (by simp[sx]) (by decide) (by rintro j t df g v s (rfl|rfl|rfl)<;>simp[St,sx]) ?_ ?_
    ·rintro i t df g'' hi ⟨rfl,rfl,h1,h11,h12,h13,h33,h3,h4,h7,-⟩ h35 h34;obtain⟨y,hy,htk2,hm2⟩:=af hi;obtain⟨s1,s2⟩:=Da (b:=m.grain) (by omega) (l:=x.take i) λz hz=>hwx z (Uc hz);have hyb:=hwx y hm2;have s3:(x.take i).sum<=12*4:=VJ s2 (Uk hg2 (by simp;omega) (by omega) (by decide));simp only[sx,sy,SO.run,↓reduceIte,Nat.reduceEqDiff,h1,h3,h4,h7,h11,h12,h13,h33,h34,h35,(hu.tree (h':=g''.h) (Tp _)).ints,hi,hy,Tx,Tq,Tz,Tt,TQ,ci,St,au (show -9223372036854775808<=(x.take i).sum+y by omega) (show (x.take i).sum+y<9223372036854775808 by omega)];rw[htk2,xh]
    ·rintro t df g'' ⟨rfl,rfl,h1,h11,h12,h13,h33,h3,h4,h7,-⟩;rw[TO]at h7;simp only[lA,sx,sy,SO.run,↓reduceIte,Nat.reduceEqDiff,h1,h7,hg'];refine aR (λhs=>?_) (λhs=>?_)
     ·simp only[sx,sy,SO.run,↓reduceIte,Nat.reduceEqDiff];exact hbad _ _ (by simp at hs;simp[S.Sc,hs]) (by simp only[sx,↓reduceIte])
     ·have hs:x.sum=m.grain:=by simpa using hs
      simp only[sx,sy,↓reduceIte,Nat.reduceEqDiff,St,h1,h3,h4,h11,h12,h13,hg'];refine⟨?_,hnx',?_⟩
      ·rw[htk,Ub,UA,cU]
      ·rw[htk,List.all_append,hw];simp[S.Sc,hwi,hs];omega
 ·rintro t df g ⟨rfl,⟨h1,h11,h3,h4,-⟩,hg,hnx,hw⟩;rw[TO]at hw h3;simp only[sx,↓reduceIte];have:=fin true t g (.inl h3) h4;rw[S.Sq,hw];exact this
theorem A3{l:List Int}{n:Int}(h:S.Rc l n=true){i:Nat}(hi:i<l.length):S.RP l n i=true:=by have:=TC.1 h i (TK.2 hi);exact this
theorem aE{l:List Int}{n:Int}(h:S.Rc l n=true):∀x∈l,0<=x/\x<n:=by intro x hx;obtain⟨i,hi,rfl⟩:=Ui.1 hx;have:=A3 h hi;simp[S.RP,Tn hi]at this;omega
theorem Kx{l:List Int}{n:Int}(h:S.Rc l n=true):∀(i:Nat) (hi:i<l.length),(i:Int)<=l[i]:=by
 intro i
 induction i with
 |zero=>intro hi;have:=(aE h l[0] (TW hi)).1;simpa using this
 | succ i ih =>
  intro hi;have h1:=ih (by omega);have:=A3 h hi;simp[S.RP,Tn hi,Tn (show i<l.length by omega)]at this;omega
theorem bD{l:List Int}{n:Nat}(h:S.Rc l (n:Int)=true):l.length<=n:=by
 rcases Nat.eq_zero_or_pos l.length with h0|h0
 ·omega
 ·have h1:=Kx h (l.length - 1) (by omega);have h2:=(aE h l[l.length - 1] (TW (by omega))).2;omega
def S.Rf(m:Causal)(p:Int):Int:=(m.nodes[p.toNat]?.map (·.card)).getD 0
def S.RS(m:Causal)(r:Int):Int:=(m.roots[r.toNat]?.map λr=>(r.length:Int)).getD 0
def S.RM(m:Causal)(x:Mech):Int:=S.Q5 (x.frm.map (S.Rf m))
def S.RJ(m:Causal)(x:Mech):Int:=S.Q5 (x.noise.map (S.RS m))
structure S.Small (m:Causal):Prop where
 nodes:m.nodes.length<=5
 roots:m.roots.length<=8
 card:∀x∈m.nodes,1<=x.card/\x.card<=4
 len:∀r∈m.roots,1<=r.length/\r.length<=4
theorem iY{m:Causal}(hs:S.Small m){p:Int}(h:0<=p/\p<m.nodes.length):1<=S.Rf m p/\S.Rf m p<=4:=by unfold S.Rf;rw[Tn (show p.toNat<m.nodes.length by omega)];exact hs.card _ (TW _)
theorem lG{m:Causal}(hs:S.Small m){p:Int}(h:0<=p/\p<m.roots.length):1<=S.RS m p/\S.RS m p<=4:=by unfold S.RS;rw[Tn (show p.toNat<m.roots.length by omega)];have:=hs.len _ (TW (show p.toNat<m.roots.length by omega));simp;omega
theorem c_{f:Int->Int}{l:List Int}{n:Nat}(hf:∀x∈l,1<=f x/\f x<=4)(hl:l.length<=n):1<=S.Q5 (l.map f)/\S.Q5 (l.map f)<=4 ^ n:=by have:=ba (l:=l.map f) (by intro y hy;obtain⟨x,hx,rfl⟩:=T4.1 hy;exact hf x hx);exact⟨this.1,VJ this.2 (bI (by simpa using hl))⟩
theorem Gp{d k k2:Nat}{g:G}{P P2:Nat->Prop}{v w:AV}{m:Causal}{x:Mech}(hd:0<d)(hm:Agg m P k g.h v)(hx:Agg x P2 k2 g.h w)(hs:S.Small m)
  (hf:S.Rc x.frm m.nodes.length=true) (hn:S.Rc x.noise m.roots.length=true) :
  an C0 d N.RJ [v,w] g=.val (.tup [.int .i64 (S.RM m x),.int .i64 (S.RJ m x)]):=by
 obtain⟨v',e,cs,rfl,hc⟩:=eZ (bz m) (by decide) d hm;obtain⟨a,b,rfl,hR,hN⟩:=aZ.1 hc;obtain⟨w',e2,cs2,rfl,hc2⟩:=eZ (bz x) (by decide) d hx;obtain⟨fa,fb,fc,rfl,hfa,hfb,hfc⟩:=dG.1 hc2;obtain⟨rows,r1,r2,r3,r4⟩:=hN.all;have r1:∀h',ac h' 4 b=some rows:=r1;obtain⟨rows',r1',r2',r3',r4'⟩:=hR.all;have r1':∀h',ac h' 1 a=some rows':=r1';have hfm:=aE hf;have hnm:=aE hn;rw[y6]
 suffices hh:∃r,am (I C0) d g N.RJ [v,w]=.val r/\rK (One (S.RM m x)) (One (S.RJ m x)) NoP 0 .nil r by obtain⟨r,hr,ra,rb,rfl,h1,h2⟩:=hh;have h1:=aB.1 h1;have h2:=aB.1 h2;injection h1 with h1;injection h2 with h2;rw[hr,h1,h2]
 refine bg BV (xs:=[.agg [.int .i64 m.grain,a,b],.agg [.int .i64 x.card,fa,fb,fc]]) (by simp only[aK,e,e2]) (by simp[qE]) (cO (m:=1) (a9 _) (a9 _) (by decide) (by decide)) (by decide) hd ?_;simp only[qE,tf,sx,sy,SO.run,↓reduceIte,Nat.reduceEqDiff,Nat.reduceAdd,hfa.len]
 let B:H->Prop:=λh=>h.get 0=We 3 [[.int .i64 m.grain,a,b]]/\h.get 1=We 4 [[.int .i64 x.card,fa,fb,fc]]
 refine aq hfa.1 (λj t df g=>df=[]/\St t [(2,.hptr 0 0 0 0),(3,.hptr 1 0 0 0),(11,fa),(4,.int .i64 (S.Q5 ((x.frm.take j).map (S.Rf m)))),(5,.int .i64 1)]/\B g.h)
  ⟨rfl,by simp[St,sx,S.Q5],by simp[B,sx,sy]⟩ (by simp[sx]) (by simp[sx]) (by decide) (by rintro j t df g v s (rfl|rfl|rfl)<;>simp[St,sx]) ?_ ?_
 ·rintro j t df g hj ⟨rfl,⟨h2,h3,h11,h4,h5,-⟩,hB0,hB1⟩ h13 h12;obtain⟨p,hp,htk,hm⟩:=af hj;obtain⟨hp0,hp1⟩:=hfm p hm;obtain⟨q,rfl⟩:=Ty hp0;have hq:q<m.nodes.length:=by omega
  obtain⟨y,hy,-,-⟩:=af hq;obtain⟨row,q1,q2⟩:=r3 q y hy;obtain⟨ya,yb,yc,rfl,-⟩:=dG.1 q2;have hlt:q<rows.length:=by omega
  have hry:=r4 (by omega);have b1:=c_ (f:=S.Rf m) (l:=x.frm.take j) (n:=5) (λz hz=>iY hs (hfm z (Uc hz))) (by have:=bD hf;have:=hs.nodes;simp;omega);have b2:=iY hs ⟨hp0,hp1⟩;have hc:S.Rf m (q:Int)=y.card:=by simp[S.Rf,hy]
  rw[hc]at b2;have b3:=Uk b1.2 b2.2 (by omega) (by decide);have b4:=Ur (show 0<=S.Q5 ((x.frm.take j).map (S.Rf m)) by omega) (show 0<=y.card by omega);simp only[sx,sy,SO.run,↓reduceIte,Nat.reduceEqDiff,h2,h3,h4,h5,h11,h12,h13,(hfa.tree (h':=g.h) (Tp _)).ints,hj,hp,hB0,hB1,r1,hlt,q1,hry,Tx,Tq,Tz,Tt,TQ,ci,St,B,
   au (show -9223372036854775808<=S.Q5 ((x.frm.take j).map (S.Rf m))*y.card by omega) (show S.Q5 ((x.frm.take j).map (S.Rf m))*y.card<9223372036854775808 by omega)]
  rw[htk,Ub,UA,cU,hc]
 ·rintro t df g ⟨rfl,⟨h2,h3,h11,h4,h5,-⟩,hB0,hB1⟩;rw[TO]at h4;simp only[rJ,sx,sy,SO.run,↓reduceIte,h3,hB1,hfb.len];refine aq hfb.1 (λj t df g=>df=[]/\St t [(2,.hptr 0 0 0 0),(27,fb),(4,.int .i64 (S.RM m x)),(5,.int .i64 (S.Q5 ((x.noise.take j).map (S.RS m))))]/\B g.h)
   ⟨rfl,by simp[St,sx,S.Q5,h2,h4,h5,S.RM],by simp[B,hB0,hB1]⟩ (by simp[sx]) (by simp[sx]) (by decide) (by rintro j t df g v s (rfl|rfl|rfl)<;>simp[St,sx]) ?_ ?_
  ·rintro j t df g hj ⟨rfl,⟨h2,h27,h4,h5,-⟩,hB0,hB1⟩ h29 h28;obtain⟨p,hp,htk,hm⟩:=af hj;obtain⟨hp0,hp1⟩:=hnm p hm;obtain⟨q,rfl⟩:=Ty hp0;have hq:q<m.roots.length:=by omega
   obtain⟨y,hy,-,-⟩:=af hq;obtain⟨row,q1,q2⟩:=r3' q y hy;obtain⟨u,rfl,hu⟩:=f6.1 q2;have hlt:q<rows'.length:=by omega
   have b1:=c_ (f:=S.RS m) (l:=x.noise.take j) (n:=8) (λz hz=>lG hs (hnm z (Uc hz))) (by have:=bD hn;have:=hs.roots;simp;omega);have b2:=lG hs ⟨hp0,hp1⟩;have hc:S.RS m (q:Int)=y.length:=by simp[S.RS,hy]
   rw[hc]at b2;have b3:=Uk b1.2 b2.2 (by omega) (by decide);have b4:=Ur (show 0<=S.Q5 ((x.noise.take j).map (S.RS m)) by omega) (show 0<=(y.length:Int) by omega);simp only[sx,sy,SO.run,↓reduceIte,Nat.reduceEqDiff,h2,h4,h5,h27,h28,h29,(hfb.tree (h':=g.h) (Tp _)).ints,hj,hp,hB0,hB1,r1',hlt,q1,hu.len,Tx,Tq,Tz,Tt,TQ,ci,St,B,
    au (show -9223372036854775808<=S.Q5 ((x.noise.take j).map (S.RS m))*(y.length:Int) by omega) (show S.Q5 ((x.noise.take j).map (S.RS m))*(y.length:Int)<9223372036854775808 by omega)]
   rw[htk,Ub,UA,cU,hc]
  ·rintro t df g ⟨rfl,⟨h2,h27,h4,h5,-⟩,hB0,hB1⟩;rw[TO]at h5;simp only[rI,sx,sy,SO.run,↓reduceIte,Nat.reduceEqDiff,h4,h5];exact⟨NoP,_,_,rfl,aB.2 rfl,aB.2 rfl⟩
def S.So(m:Causal)(i:Nat)(x:Mech):Bool :=
 S.Rc x.frm m.nodes.length&&S.Rc x.noise m.roots.length&&!x.frm.contains (i:Int)&&decide ((x.out.length:Int)=S.RM m x*S.RJ m x)&&S.R2 0 (x.card - 1) x.out
def S.SB(m:Causal):Bool:=(List.range m.nodes.length).all (λi=>(m.nodes[i]?.map (S.So m i)).getD true)&&decide (S.Q5 (m.nodes.map (·.card))<=1024)
theorem B6{d k:Nat}{g:G}{P:Nat->Prop}{v:AV}{m:Causal}(hd:0<d)(hm:Agg m P k g.h v)(hs:S.Small m) :
  an C0 d N.Sc [v] g=.val (.bool (S.SB m)):=by
 obtain⟨v',e,cs,rfl,hc⟩:=eZ (bz m) (by decide) d hm;obtain⟨a,b,rfl,hR,hN⟩:=aZ.1 hc;obtain⟨rows,r1,r2,r3,r4⟩:=hN.all;have r1:∀h',ac h' 4 b=some rows:=r1;rw[so];refine eR vA (xs:=[.agg [.int .i64 m.grain,a,b]]) (by simp only[aK,e]) (by simp[jx]) hd ?_;simp only[jx,mo,sx,sy,SO.run,↓reduceIte,Nat.reduceEqDiff,Nat.reduceAdd,hN.len];refine aq (m:=m.nodes.length) (by have:=hs.nodes;omega) (λj t df g=>df=[]/\St t [(1,.hptr 0 0 0 0),(11,b),(3,.int .i64 (S.Q5 ((m.nodes.take j).map (·.card))))]/\g.h.get 0=We 3 [[.int .i64 m.grain,a,b]]/\1<=g.nx/\(List.range j).all (λi=>(m.nodes[i]?.map (S.So m i)).getD true)=true)
  ⟨rfl,by simp[St,sx,S.Q5],by simp[sx],by simp[sx],rfl⟩ (by simp[sx]) (by simp[sx]) (by decide) (by rintro j t df g v s (rfl|rfl|rfl)<;>simp[St,sx]) ?_ ?_
 ·rintro j t df g hj ⟨rfl,⟨h1,h11,h3,-⟩,hg,hnx,hw⟩ h13 h12;obtain⟨x,hx,htk,hm⟩:=af hj;obtain⟨row,q1,q2⟩:=r3 j x hx;obtain⟨fa,fb,fc,rfl,hfa,hfb,hfc⟩:=dG.1 q2;have hlt:j<rows.length:=by omega
  have hry:=r4 (by omega);have bad:S.So m j x=false->S.SB m=false:=λh=>by rw[S.SB,eO hj (by rw[hx];simp[h])];rfl
  have b1:=c_ (f:=λx=>x) (l:=(m.nodes.take j).map (·.card)) (n:=5) (λz hz=>by obtain⟨y,hy,rfl⟩:=T4.1 hz;exact hs.card y (Uc hy)) (by have:=hs.nodes;simp;omega);rw[List.map_id']at b1;have b2:=hs.card x hm;have b3:=Uk b1.2 b2.2 (by omega) (by decide);have b4:=Ur (show 0<=S.Q5 ((m.nodes.take j).map (·.card)) by omega) (show 0<=x.card by omega);have hne:¬(0=g.nx):=by omega
  have ia:∀(g:G) (n:Int),an C0 (d+1) N.Rh [fa,.int .i64 n] g=.val (.bool (S.Rc x.frm n)):=λg n=>uO (TG d) (hfa.tree (h':=g.h) (Tp _));have ib:∀(g:G) (n:Int),an C0 (d+1) N.Rh [fb,.int .i64 n] g=.val (.bool (S.Rc x.noise n)):=λg n=>uO (TG d) (hfb.tree (h':=g.h) (Tp _));simp only[sx,sy,SO.run,↓reduceIte,Nat.reduceEqDiff,Nat.reduceAdd,h1,h3,h11,h13,hg,r1,hlt,q1,Tx,Tq,Nat.reduceLeDiff,hne,hN.len,ia,
   au (show -9223372036854775808<=S.Q5 ((m.nodes.take j).map (·.card))*x.card by omega) (show S.Q5 ((m.nodes.take j).map (·.card))*x.card<9223372036854775808 by omega)]
  cases hpf:S.Rc x.frm m.nodes.length with
  | false =>
   simp only[sx,sy,SO.run,↓reduceIte,Nat.reduceEqDiff,T9];rw[bad (by simp only[S.So,hpf,VR])]
  | true =>
   simp only[sx,sy,SO.run,↓reduceIte,Nat.reduceEqDiff,Um,h1,hg,hne,hR.len,ib];cases hpn:S.Rc x.noise m.roots.length with
   | false =>
    simp only[sx,sy,SO.run,↓reduceIte,T9];rw[bad (by simp only[S.So,hpn,VC,VR])]
   | true =>
    simp only[sx,sy,SO.run,↓reduceIte,Nat.reduceEqDiff,Um,hfa.len];obtain⟨g1,hg1⟩:∃g1,g1=(g.new (We 4 [[AV.int IntKind.i64 0,AV.nils,AV.nils,AV.nils]])).put g.nx (We 4 [[AV.int IntKind.i64 x.card,fa,fb,fc]]):=⟨_,rfl⟩;have f0:g1.h.get 0=We 3 [[.int .i64 m.grain,a,b]]:=by rw[hg1];simp[Q_,hne,hg]
    have f1:g1.h.get g.nx=We 4 [[.int .i64 x.card,fa,fb,fc]]:=by rw[hg1];simp[Q_]
    have f2:g1.nx=g.nx+1:=by rw[hg1];simp
    rw[<-hg1];clear hg1;generalize g.nx=q at *;refine aq hfa.1 (λi t df g'=>df=[]/\g'=g1/\St t [(1,.hptr 0 0 0 0),(11,b),(12,.int .i64 m.nodes.length),(13,.int .i64 j),(3,.int .i64 (S.Q5 ((m.nodes.take j).map (·.card))*x.card)),(4,.int .i64 j),(5,.hptr q 0 0 0),(39,fa)]/\(x.frm.take i).contains (j:Int)=false)
     ⟨rfl,rfl,by simp[St,sx,h1,h11,h12,h13],by simp⟩ (by simp[sx]) (by simp[sx]) (by decide) (by rintro j t df g v s (rfl|rfl|rfl)<;>simp[St,sx]) ?_ ?_
    ·rintro i t df g' hi ⟨rfl,rfl,⟨h1,h11,h12,h13,h3,h4,h5,h39,-⟩,hcn⟩ h41 h40;obtain⟨p,hp,htk2,hm2⟩:=af hi;simp only[sx,SO.run,↓reduceIte,Nat.reduceEqDiff,h4,h39,h41,(hfa.tree (h':=g'.h) (Tp _)).ints,hi,hp,Tx,Tq,Tz,Tt,TQ,ci];refine aR (λhb=>?_) (λhb=>?_)
     ·simp only[sx,sy,SO.run,↓reduceIte];have hb:p=j:=by simpa using hb
      subst hb;rw[bad (by simp[S.So,hm2])]
     ·simp only[sx,sy,↓reduceIte,Nat.reduceEqDiff,St,h1,h3,h4,h5,h11,h12,h13,h39,h40,h41];have hb:p≠j:=by simpa using hb
      rw[htk2];simp at hcn ⊢;exact⟨hcn,λe=>hb e.symm⟩
    ·rintro t df g' ⟨rfl,rfl,⟨h1,h11,h12,h13,h3,h4,h5,h39,-⟩,hcn⟩;rw[TO]at hcn;have hms:Agg m NoP (max k d) g'.h (.agg [.int .i64 m.grain,a,b]):=⟨_,rfl,aZ.2 ⟨a,b,rfl,hR.tree (Tp _),hN.tree (Tp _)⟩⟩;have hxs:Agg x NoP (max k d) g'.h (.agg [.int .i64 x.card,fa,fb,fc]):=⟨_,rfl,dG.2 ⟨fa,fb,fc,rfl,hfa.tree (Tp _),hfb.tree (Tp _),hfc.tree (Tp _)⟩⟩;have c1:=c_ (f:=S.Rf m) (l:=x.frm) (n:=5) (λz hz=>iY hs (aE hpf z hz)) (by have:=bD hpf;have:=hs.nodes;omega);have c2:=c_ (f:=S.RS m) (l:=x.noise) (n:=8) (λz hz=>lG hs (aE hpn z hz)) (by have:=bD hpn;have:=hs.roots;omega);have c3:=Uk c1.2 c2.2 (by omega) (by decide);have c4:=Ur (show 0<=S.Q5 (x.frm.map (S.Rf m)) by omega) (show 0<=S.Q5 (x.noise.map (S.RS m)) by omega);change S.RM m x*S.RJ m x<=_ at c3;change 0<=S.RM m x*S.RJ m x at c4;simp only[lp,sx,sy,SO.run,↓reduceIte,Nat.reduceEqDiff,Nat.reduceAdd,Nat.reduceLeDiff,h1,h5,f0,f1,Gp (TG d) hms hxs hs hpf hpn,hfc.len,
      au (show -9223372036854775808<=S.RM m x*S.RJ m x by omega) (show S.RM m x*S.RJ m x<9223372036854775808 by omega)]
     refine aR (λhb=>?_) (λhb=>?_)
     ·simp only[sx,sy,SO.run,↓reduceIte,Nat.reduceEqDiff,hb];rw[bad (by simp at hb;simp[S.So,hb])]
     ·have ho:(x.out.length:Int)=S.RM m x*S.RJ m x:=by simpa using hb
      simp only[sx,sy,SO.run,↓reduceIte,Nat.reduceEqDiff,hb,h5,f1,au (show -9223372036854775808<=x.card - 1 by omega) (show x.card - 1<9223372036854775808 by omega),Dk (TG d) (hfc.tree (h':=g'.h) (Tp _))];cases hwi:S.R2 0 (x.card - 1) x.out with
      | false =>
       simp only[sx,sy,SO.run,↓reduceIte,T9];rw[bad (by simp only[S.So,hwi,VC])]
      | true =>
       simp only[sx,sy,↓reduceIte,Nat.reduceEqDiff,Um,St,h1,h3,h11,h12,h13,f0];refine⟨?_,by omega,?_⟩
       ·rw[htk,Ub,UA,cU]
       ·rw[ct,hw,hx];simp only[TQ,Tq,S.So,hpf,hpn,hcn,ho,hwi,T9,decide_true,Vx]
 ·rintro t df g ⟨rfl,⟨h1,h11,h3,-⟩,hg,hnx,hw⟩;rw[TO]at h3;simp only[sx,SO.run,↓reduceIte,lr,h3];rw[S.SB,hw];rfl
def S.Sr(a b:Nat):Nat:=a ^^^ (a &&& b)
def S.RH(p:List Nat)(s:Nat)(j:Nat):Nat:=(List.range j).foldl (λs v=>if S.Sr (p[v]?.getD 0) s=0 then s ||| S.RN v else s) s
def S.RE(p:List Nat)(j:Nat):Nat:=(List.range j).foldl (λs _=>S.RH p s p.length) 0
theorem dE(p:List Nat)(s j:Nat):S.RH p s (j+1)=if S.Sr (p[j]?.getD 0) (S.RH p s j)=0 then S.RH p s j ||| S.RN j else S.RH p s j:=by unfold S.RH;rw[Uw,List.foldl_append];rfl
theorem ue{p:List Nat}{s:Nat}(hs:s<18446744073709551616):∀j,S.RH p s j<18446744073709551616
 |0=>hs
 | j+1=>by
  rw[dE]
  split
  ·exact IY (ue hs j) (qh _)
  ·exact ue hs j
theorem dC(p:List Nat)(j:Nat):S.RE p (j+1)=S.RH p (S.RE p j) p.length:=by unfold S.RE;rw[Uw,List.foldl_append];rfl
theorem CW{p:List Nat}:∀j,S.RE p j<18446744073709551616
 |0=>by simp[S.RE]
 |j+1=>by rw[dC];exact ue (CW j) _
def S.Rq(m:Causal):List Nat:=m.nodes.map λx=>S.Re x.frm
def S.SZ(m:Causal):Bool:=decide (S.RE (S.Rq m) m.nodes.length=2 ^ m.nodes.length - 1)
theorem GU{n:Nat}(h:n<64):S.RN n=2 ^ n:=by unfold S.RN;rw[UC,Nat.mod_eq_of_lt];exact Nat.pow_lt_pow_right (a:=2) (by decide) h
theorem GQ{d k:Nat}{g:G}{P:Nat->Prop}{v:AV}{m:Causal}(hd:0<d)(hm:Agg m P k g.h v)(hn5:m.nodes.length<=5)(hf:∀x∈m.nodes,∀p∈x.frm,0<=p) :
  an C0 d N.R_ [v] g=.val (.bool (S.SZ m)):=by
 obtain⟨v',e,cs,rfl,hc⟩:=eZ (bz m) (by decide) d hm;obtain⟨a,b,rfl,hR,hN⟩:=aZ.1 hc;obtain⟨rows,r1,r2,r3,r4⟩:=hN.all;have r1:∀h',ac h' 4 b=some rows:=r1;have hpl:(S.Rq m).length=m.nodes.length:=by simp[S.Rq]
 rw[wu];refine eR za (xs:=[.agg [.int .i64 m.grain,a,b]]) (by simp only[aK,e]) (by simp[nq]) hd ?_;simp only[nq,pX,sx,sy,SO.run,↓reduceIte,Nat.reduceEqDiff,Nat.reduceAdd,hN.len];refine aq (m:=m.nodes.length) (by omega) (λj t df g=>df=[]/\St t [(1,.hptr 0 0 0 0),(3,.int .u64 (S.RE (S.Rq m) j:Int))]/\g.h.get 0=We 3 [[.int .i64 m.grain,a,b]]/\1<=g.nx)
  ⟨rfl,by simp[St,sx,S.RE],by simp[sx],by simp[sx]⟩ (by simp[sx]) (by simp[sx]) (by decide) (by rintro j t df g v s (rfl|rfl|rfl)<;>simp[St,sx]) ?_ ?_
 ·rintro j t df g hj ⟨rfl,⟨h1,h3,-⟩,hg,hnx⟩ h9 h8;simp only[sx,sy,SO.run,↓reduceIte,h1,hg,hN.len];refine aq (m:=m.nodes.length) (by omega) (λi t df g=>df=[]/\St t [(1,.hptr 0 0 0 0),(8,.int .i64 m.nodes.length),(9,.int .i64 j),(12,b),(3,.int .u64 (S.RH (S.Rq m) (S.RE (S.Rq m) j) i:Int))]/\g.h.get 0=We 3 [[.int .i64 m.grain,a,b]]/\1<=g.nx)
   ⟨rfl,by simp[St,sx,S.RH,h1,h3,h8,h9],hg,hnx⟩ (by simp[sx]) (by simp[sx]) (by decide) (by rintro j t df g v s (rfl|rfl|rfl)<;>simp[St,sx]) ?_ ?_
  ·rintro i t df g hi ⟨rfl,⟨h1,h8,h9,h12,h3,-⟩,hg,hnx⟩ h14 h13;obtain⟨x,hx,htk,hm⟩:=af hi;obtain⟨row,q1,q2⟩:=r3 i x hx;obtain⟨fa,fb,fc,rfl,hfa,hfb,hfc⟩:=dG.1 q2;have hlt:i<rows.length:=by omega
   have hry:=r4 (by omega);have hne:¬(0=g.nx):=by omega
   have hpi:(S.Rq m)[i]?.getD 0=S.Re x.frm:=by simp[S.Rq,hx]
   have sa:∀(g:G),an C0 (d+1) N.RH [fa] g=.val (.int .u64 (S.Re x.frm:Int)):=λg=>Nt (TG d) (hfa.tree (h':=g.h) (Tp _)) (hf x hm);have hlr:=ue (p:=S.Rq m) (CW (p:=S.Rq m) j) i;simp only[sx,sy,SO.run,↓reduceIte,Nat.reduceEqDiff,Nat.reduceAdd,Nat.reduceLeDiff,h3,h12,h14,r1,hlt,q1,Tx,Tq,sa,zK _ _ (oB _) hlr];refine aR (λhb=>?_) (λhb=>?_)
   ·have hb:S.Sr (S.Re x.frm) (S.RH (S.Rq m) (S.RE (S.Rq m) j) i)=0:=by unfold S.Sr;simp only[TA]at hb;omega
    simp only[sx,sy,SO.run,↓reduceIte,Nat.reduceEqDiff,h1,h3,h8,h9,h12,h13,h14,ij,zL _ _ hlr (qh _),St,hg,hne];refine⟨?_,by omega⟩;rw[dE,hpi,TE hb]
   ·have hb:¬S.Sr (S.Re x.frm) (S.RH (S.Rq m) (S.RE (S.Rq m) j) i)=0:=by unfold S.Sr;simp only[decide_eq_false_iff_not]at hb;omega
    simp only[sx,sy,↓reduceIte,Nat.reduceEqDiff,h1,h3,h8,h9,h12,h13,h14,St,hg,hne];refine⟨?_,by omega⟩;rw[dE,hpi,TF hb]
  ·rintro t df g ⟨rfl,⟨h1,h8,h9,h12,h3,-⟩,hg,hnx⟩;simp only[sx,sy,↓reduceIte,h1,h3,h8,h9,St,hg,hnx];rw[dC,hpl]
 ·rintro t df g ⟨rfl,⟨h1,h3,-⟩,hg,hnx⟩;have hp2:2 ^ m.nodes.length<=2 ^ 5:=Nat.pow_le_pow_right (by decide) hn5;have hp1:0<2 ^ m.nodes.length:=Nat.pow_pos (by decide);simp only[oh,sx,sy,SO.run,↓reduceIte,Nat.reduceEqDiff,h1,h3,hg,hN.len,ij,GU (show m.nodes.length<64 by omega),xu (show (0:Int)<=((2 ^ m.nodes.length:Nat):Int) - 1 by omega) (show ((2 ^ m.nodes.length:Nat):Int) - 1<18446744073709551616 by omega)];unfold S.SZ;congr 1;rw[VH,decide_eq_true_iff,decide_eq_true_iff];omega
def S.Q_(m:Causal):Bool :=
 decide (1<=m.grain)&&decide (m.grain<=12)&&decide (m.roots.length<=8)&&decide (1<=m.nodes.length)&&decide (m.nodes.length<=5)&&S.Sq m&&(m.nodes.all λx=>decide (1<=x.card)&&decide (x.card<=4))&&S.SB m&&S.SZ m
theorem Gu{m:Causal}(h1:m.roots.length<=8)(h2:m.nodes.length<=5)(h3:S.Sq m=true)(h4:∀x∈m.nodes,1<=x.card/\x.card<=4):S.Small m :=
 ⟨h2,h1,h4,λr hr=>by
  have:=(Ts _ _ ▸ h3:_/\_).1;have:=TC.1 this r hr;simp[S.Sc]at this;omega⟩
theorem tF{m:Causal}(h:S.SB m=true){i:Nat}{x:Mech}(hx:m.nodes[i]?=some x):S.So m i x=true:=by have:=(Ts _ _ ▸ h:_/\_).1;have:=TC.1 this i (TK.2 (Tu.1 hx).1);simpa [hx] using this
theorem FL{m:Causal}(h:S.SB m=true):∀x∈m.nodes,∀p∈x.frm,0<=p/\p<m.nodes.length:=by intro x hx p hp;obtain⟨i,hi,rfl⟩:=Ui.1 hx;have:=tF h (Tn hi);simp only[S.So,Ts]at this;exact aE this.1.1.1.1 p hp
theorem JM{d k:Nat}{g:G}{P:Nat->Prop}{v:AV}{m:Causal}(hd:0<d)(hm:Agg m P k g.h v) :
  an C0 d N.R8 [v] g=.val (.int .i64 (if S.Q_ m then 0 else 330)):=by
 obtain⟨v',e,cs,rfl,hc⟩:=eZ (bz m) (by decide) d hm;obtain⟨a,b,rfl,hR,hN⟩:=aZ.1 hc;obtain⟨rows,r1,r2,r3,r4⟩:=hN.all;have r1:∀h',ac h' 4 b=some rows:=r1;have hms:∀g:G,Agg m NoP (max k d) g.h (.agg [.int .i64 m.grain,a,b]):=λg=>⟨_,rfl,aZ.2 ⟨a,b,rfl,hR.tree (Tp _),hN.tree (Tp _)⟩⟩;rw[yX];refine oo BP (xs:=[.agg [.int .i64 m.grain,a,b]]) (by simp only[aK,e]) (by simp[qB]) hd ?_;simp only[qB,sx,sy,SO.run,↓reduceIte,Nat.reduceAdd];have bad':¬(S.Q_ m=true)->AV.int IntKind.i64 330=AV.int IntKind.i64 (if S.Q_ m=true then 0 else 330):=λh=>by rw[TF h]
 generalize hg0:(G.empty.new (We 3 [[AV.int IntKind.i64 m.grain,a,b]]))=g0;have f0:g0.h.get 0=We 3 [[.int .i64 m.grain,a,b]]:=by rw[<-hg0];simp[sx]
 have f1:1<=g0.nx:=by rw[<-hg0];simp[sx]
 clear hg0;simp only[sS,sx,sy,SO.run,↓reduceIte,Nat.reduceEqDiff,f0,kI (TG d)];cases c1:(decide (1<=m.grain)&&decide (m.grain<=12)) with
 | false =>
  simp only[sx,SO.run,↓reduceIte,Nat.reduceEqDiff,T9];simp only[S.Q_,c1,VR,UR,if_false]
 | true =>
  obtain⟨g1,hg1⟩:∃g1,g1=g0.new (We 1 [[AV.int IntKind.i64 m.grain]]):=⟨_,rfl⟩;have e0:g1.h.get 0=We 3 [[.int .i64 m.grain,a,b]]:=by rw[hg1,G.new_h,ah _ _ _ (by omega),f0]
  have e1:1<=g1.nx:=by rw[hg1];simp
  rw[<-hg1];clear hg1;simp only[sx,sy,SO.run,↓reduceIte,Nat.reduceEqDiff,Um,e0,hR.len,kI (TG d)];cases c2:(decide (0<=(m.roots.length:Int))&&decide ((m.roots.length:Int)<=8)) with
  | false =>
   simp only[sx,SO.run,↓reduceIte,Nat.reduceEqDiff,T9];have:decide (m.roots.length<=8)=false:=by simp at c2 ⊢;omega
   simp only[S.Q_,this,VR,VC,UR,if_false]
  | true =>
   obtain⟨g2,hg2⟩:∃g2,g2=g1.new (We 1 [[AV.int IntKind.i64 m.roots.length]]):=⟨_,rfl⟩;have d0:g2.h.get 0=We 3 [[.int .i64 m.grain,a,b]]:=by rw[hg2,G.new_h,ah _ _ _ (by omega),e0]
   have d1:1<=g2.nx:=by rw[hg2];simp
   rw[<-hg2];clear hg2;simp only[sx,sy,SO.run,↓reduceIte,Nat.reduceEqDiff,Um,d0,hN.len,kI (TG d)];cases c3:(decide (1<=(m.nodes.length:Int))&&decide ((m.nodes.length:Int)<=5)) with
   | false =>
    simp only[sx,SO.run,↓reduceIte,T9];exact bad' (λh=>by simp[S.Q_]at h;simp at c3;omega)
   | true =>
    obtain⟨g3,hg3⟩:∃g3,g3=g2.new (We 1 [[AV.int IntKind.i64 m.nodes.length]]):=⟨_,rfl⟩;have b0:g3.h.get 0=We 3 [[.int .i64 m.grain,a,b]]:=by rw[hg3,G.new_h,ah _ _ _ (by omega),d0]
    have b1:1<=g3.nx:=by rw[hg3];simp
    rw[<-hg3];clear hg3;have q1:1<=m.grain/\m.grain<=12:=by simpa using c1
    have q2:m.roots.length<=8:=by simp at c2;omega
    have q3:1<=m.nodes.length/\m.nodes.length<=5:=by simp at c3;omega
    simp only[sx,sy,SO.run,↓reduceIte,Nat.reduceEqDiff,Nat.reduceAdd,Nat.reduceLeDiff,Um,b0,B8 (TG d) (hms _) q1.1 q1.2 q2];cases c4:S.Sq m with
    | false =>
     simp only[sx,SO.run,↓reduceIte,T9];exact bad' (λh=>by simp[S.Q_,c4]at h)
    | true =>
     simp only[sx,sy,SO.run,↓reduceIte,Nat.reduceEqDiff,Um,b0,hN.len];refine aq (m:=m.nodes.length) (by omega) (λj t df g=>df=[]/\St t [(1,.hptr 0 0 0 0),(30,b)]/\g.h.get 0=We 3 [[.int .i64 m.grain,a,b]]/\1<=g.nx/\(m.nodes.take j).all (λx=>decide (1<=x.card)&&decide (x.card<=4))=true)
      ⟨rfl,by simp[St,sx],b0,b1,rfl⟩ (by simp[sx]) (by simp[sx]) (by decide) (by rintro j t df g v s (rfl|rfl|rfl)<;>simp[St,sx]) ?_ ?_
     ·rintro j t df g hj ⟨rfl,⟨h1,h30,-⟩,hg,hnx,hw⟩ h32 h31;obtain⟨x,hx,htk,hm⟩:=af hj;obtain⟨row,p1,p2⟩:=r3 j x hx;obtain⟨fa,fb,fc,rfl,hfa,hfb,hfc⟩:=dG.1 p2;have hlt:j<rows.length:=by omega
      have hry:=r4 (by omega);have hne:¬(0=g.nx):=by omega
      simp only[sx,sy,SO.run,↓reduceIte,Nat.reduceEqDiff,Nat.reduceAdd,Nat.reduceLeDiff,h30,h32,r1,hlt,p1,Tx,Tq];obtain⟨g4,hg4⟩:∃g4,g4=(g.new (We 4 [[AV.int IntKind.i64 0,AV.nils,AV.nils,AV.nils]])).put g.nx (We 4 [[AV.int IntKind.i64 x.card,fa,fb,fc]]):=⟨_,rfl⟩;have a0:g4.h.get 0=We 3 [[.int .i64 m.grain,a,b]]:=by rw[hg4];simp[Q_,hne,hg]
      have a2:g4.nx=g.nx+1:=by rw[hg4];simp
      rw[<-hg4];clear hg4;rw[show AV.hsl (g.nx+1) 0 0 1 none=AV.hsl g4.nx 0 0 1 none by rw[a2]];simp only[sx,SO.run,↓reduceIte,kI (TG d)];cases c5:(decide (1<=x.card)&&decide (x.card<=4)) with
      | false =>
       simp only[sx,sy,SO.run,↓reduceIte,T9];refine bad' (λh=>?_);simp only[S.Q_,Ts]at h;have:=TC.1 h.1.1.2 x hm;rw[c5]at this;cases this
      | true =>
       simp only[sx,sy,↓reduceIte,Nat.reduceEqDiff,Um,St,h1,h30,h31,h32];refine⟨?_,by simp,?_⟩
       ·rw[TF (by omega),a0]
       ·rw[htk,List.all_append,hw];simp only[List.all_cons,List.all_nil,c5];rfl
     ·rintro t df g ⟨rfl,⟨h1,h30,-⟩,hg,hnx,hw⟩;rw[TO]at hw;have hcard:∀x∈m.nodes,1<=x.card/\x.card<=4:=λx hx=>by have:=TC.1 hw x hx;simpa using this
      have hs:=Gu q2 q3.2 c4 hcard;simp only[rB,sx,sy,SO.run,↓reduceIte,Nat.reduceAdd,Nat.reduceLeDiff,h1,hg,B6 (TG d) (hms _) hs];cases c6:S.SB m with
      | false =>
       simp only[sx,SO.run,↓reduceIte,Nat.reduceEqDiff,T9];exact bad' (λh=>by simp[S.Q_,c6]at h)
      | true =>
       simp only[sx,sy,SO.run,↓reduceIte,Nat.reduceEqDiff,Nat.reduceAdd,Nat.reduceLeDiff,Um,h1,hg,GQ (TG d) (hms _) q3.2 (λx hx p hp=>(FL c6 x hx p hp).1)];cases c7:S.SZ m with
       | false =>
        simp only[sx,SO.run,↓reduceIte,T9];exact bad' (λh=>by simp[S.Q_,c7]at h)
       | true =>
        simp only[sx,SO.run,↓reduceIte,Um];rw[TE];simp[S.Q_,c4,c6,c7,q1,q2,q3];exact hcard
theorem qX{α:Type}{f:Nat->α->Nat->α->Bool}{i:Nat}{x:α}:∀{l:List α} {j:Nat},(∀b y,l[b]?=some y->f i x (j+b) y=true)->fU f i x j l=true
 |[],_,_=>rfl
 | y::r,j,h=>by
  simp only[fU,Ts];refine⟨by simpa using h 0 y rfl,qX λb z hb=>?_⟩;have:=h (b+1) z (by grind)
  grind
theorem rV{α:Type}{f:Nat->α->Nat->α->Bool}:∀{l:List α} {i:Nat},(∀a b x y,a<b->l[a]?=some x->l[b]?=some y->f (i+a) x (i+b) y=true)->kX f i l=true
 |[],_,_=>rfl
 | x::r,i,h=>by
  simp only[kX,Ts];refine⟨qX λb y hb=>?_,rV λa b x' y hab ha hb=>?_⟩
  ·have:=h 0 (b+1) x y (by omega) rfl (by grind)
   grind
  ·have:=h (a+1) (b+1) x' y (by omega) (by grind) (by grind)
   grind
theorem yS{pm:List Nat}:∀{l:List Foot} {i:Nat},(∀f∈l,f.lk.sr=[])->lK pm i l=true
 |[],_,_=>rfl
 | x::r,i,h=>by simp only[lK,h x (by simp)];exact yS λf hf=>h f (by simp[hf])
def HD(pm:List Nat)(ws:List Bool)(L:List (Nat×Nat))(i j:Nat):Bool:=(pm.getD j 0).testBit i || (!(ws.getD i false)&&!(ws.getD j false)) || L.contains (i,j)
def I5(pm:List Nat)(ws:List Bool)(L:List (Nat×Nat)):Bool:=(List.range ws.length).all λj=>(List.range j).all λi=>HD pm ws L i j
theorem aI{pm:List Nat}{fs:List Foot}(ws:List Bool)(L:List (Nat×Nat))(hw:All2 (λ(f:Foot) (w:Bool)=>f.lk.sr=[]/\(w=false->f.wr=[])) fs ws)(hd:I5 pm ws L=true)
  (hL:∀p∈L,∀x y,fs[p.1]?=some x->fs[p.2]?=some y->bE x y=true):mE pm fs=true:=by
 unfold mE;rw[aa,TE]
 ·exact yS λf hf=>by obtain⟨i,hi,rfl⟩:=Ui.1 hf;obtain⟨w,-,h⟩:=hw.get (Tn hi);exact h.1
 ·refine rV λa b x y hab ha hb=>?_;simp only[T6];obtain⟨wa,hwa,ka⟩:=hw.get ha;obtain⟨wb,hwb,kb⟩:=hw.get hb;have hbl:=(Tu.1 hwb).1;have:=TC.1 (TC.1 hd b (TK.2 hbl)) a (TK.2 hab);simp only[HD,Uo]at this;rcases this with (h|h)|h
  ·grind
  ·simp only[Vf,hwa,hwb,Tq,Ts,UH]at h;have ex:=ka.2 h.1;have ey:=kb.2 h.2;simp_all[bE,fI,d_]
  grind
theorem EH{x y:Foot}{b:Nat}(hx:∀i∈x.wr,b<=i)(hy:y.wr=[])(hb:y.lk.big=false)(hr:∀i∈y.lk.rd,i<b)(hs:y.lk.sr=[]):bE x y=true:=by
 have m1:meets x.wr []=false:=by simp[meets]
 have m2:meets x.wr y.lk.rd=false:=by
  simp only[meets,List.any_eq_false]
  grind
 simp only[bE,fI,d_,hy,hb,hs,m1,m2,fst1,Uv,T9,Vx,Vy]
 grind
def S.Rh(m:Causal)(x:Mech):List Int:=x.frm.map (S.Rf m)++x.noise.map (S.RS m)
theorem KK{d k:Nat}{g:G}{P:Nat->Prop}{v:AV}{m:Causal}{i:Nat}{x:Mech}(hd:0<d)(hm:Agg m P k g.h v)(hx:m.nodes[i]?=some x)(hn5:m.nodes.length<=5)(hn8:m.roots.length<=8)
  (hf:S.Rc x.frm m.nodes.length=true) (hn:S.Rc x.noise m.roots.length=true) :
  ∃r,an C0 d N.R5 [v,.int .i64 (i:Int)] g=.val r/\IT 0 (S.Rh m x) r:=by
 obtain⟨v',e,cs,rfl,hc⟩:=eZ (bz m) (by decide) d hm;obtain⟨a,b,rfl,hR,hN⟩:=aZ.1 hc;obtain⟨rows,r1,r2,r3,r4⟩:=hN.all;have r1:∀h',ac h' 4 b=some rows:=r1;obtain⟨row,q1,q2⟩:=r3 i x hx;obtain⟨fa,fb,fc,rfl,hfa,hfb,hfc⟩:=dG.1 q2;have hi:=(Tu.1 hx).1;have hlt:i<rows.length:=by omega
 have hry:=r4 (by omega);have hms:∀g:G,Agg m NoP (max k d) g.h (.agg [.int .i64 m.grain,a,b]):=λg=>⟨_,rfl,aZ.2 ⟨a,b,rfl,hR.tree (Tp _),hN.tree (Tp _)⟩⟩;rw[xH];refine bg Ak (xs:=[.agg [.int .i64 m.grain,a,b],.int .i64 i]) (by simp only[aK,e,fg 0]) (by simp[ph]) (a9 _) (by decide) hd ?_;simp only[ph,sx,sy,SO.run,↓reduceIte,Nat.reduceEqDiff,Nat.reduceAdd];generalize hg0:(G.empty.new (We 3 [[AV.int IntKind.i64 m.grain,a,b]]))=g0;have f0:g0.h.get 0=We 3 [[.int .i64 m.grain,a,b]]:=by rw[<-hg0];simp[sx]
 have f1:1<=g0.nx:=by rw[<-hg0];simp[sx]
 clear hg0;have ids0:∀g:G,aC g.h aD (.agg [.int .i64 m.grain,a,b])=[]:=λg=>Do (h:=g.h) (aZ.2 ⟨a,b,rfl,hR.tree (Tp _),hN.tree (Tp _)⟩);simp only[rt,sx,sy,sf,SO.run,xT,↓reduceIte,Nat.reduceEqDiff,Nat.reduceAdd,Nat.reduceLeDiff,f0];refine bH (Lv (TG d) (hms _) (by omega)) λr hr=>?_;simp only[sx,sy,sf,SO.run,uM,↓reduceIte,Nat.reduceEqDiff,f0,r1,hlt,q1,hry,Tx,Tq,eE hry,dD,hN.refs];have hcl:(m.nodes.map (·.card)).length=m.nodes.length:=by simp
 refine O9 (l:=m.nodes.map (·.card)) (p:=x.frm) (λg' _=>hr.rows _) (λg' _=>(hfa.tree (Tp _)).ints) (by have:=bD hf;omega) (λz hz=>by rw[hcl];exact aE hf z hz) λu g1 hu fr1 lg1=>?_;simp only[sy]at fr1 lg1;have e0:g1.h.get 0=We 3 [[.int .i64 m.grain,a,b]]:=by rw[fr1.2 0 (by simp)];simpa using f0
 simp only[sx,sy,sf,SO.run,vI,↓reduceIte,Nat.reduceEqDiff,Nat.reduceAdd,Nat.reduceLeDiff,e0];refine bH (Hn (TG d) (hms _) (by omega)) λr' hr'=>?_;simp only[sx,sy,sf,SO.run,uM,↓reduceIte,Nat.reduceEqDiff,e0,r1,hlt,q1,hry,Tx,Tq,eE hry,dD,hN.refs];have hrl:(m.roots.map λr=>(r.length:Int)).length=m.roots.length:=by simp
 refine O9 (l:=m.roots.map λr=>(r.length:Int)) (p:=x.noise) (λg' _=>hr'.rows _) (λg' _=>(hfb.tree (Tp _)).ints) (by have:=bD hn;omega) (λz hz=>by rw[hrl];exact aE hn z hz) λw g2 hw fr2 lg2=>?_;simp only[sy]at fr2 lg2;simp only[sx,sy,sf,SO.run,↓reduceIte,Nat.reduceEqDiff];have m1:∀i∈g1.lg,0<i:=λi hi=>by rcases lg1 i hi with h|h;simp at h;omega
 have hu2:Own (aO (im g2 (g2.lg++(g1.lg++g0.lg))) []) 1 u 1 ((x.frm.map λz=>(m.nodes.map (·.card))[z.toNat]?.getD 0).map ci):=by
  rcases hu with h|⟨id,ep,lo,p1,p2,rfl,p3⟩
  ·exact .inl h
  ·refine .inr ⟨id,ep,lo,?_,?_,rfl,?_⟩
   ·simp at p1;omega
   ·have:=fr2.1;simp at this ⊢;omega
   ·have:=fr2.2 id (by simp;omega);simp only[bumpG_h,setLog_h]at this ⊢;rw[this,p3]
 refine aT (new:=(x.noise.map λz=>(m.roots.map λr=>(r.length:Int))[z.toNat]?.getD 0).map ci) hu2 (by have:=hw.rows;simpa using this) (by simp) (by simp[aQ];have:=bD hf;have:=bD hn;omega) λz g3 hz n3 f3 _ l3=>?_;simp only[sx,sy,sf,SO.run,↓reduceIte];refine⟨?_,?_⟩
 ·simp only[TM,TS,TL,TJ];refine aI [false,false,false,false,false,false,false,false,true,false,false,false,false,false,false,false,false,true,true,false] [(8,9),(8,11),(8,12),(8,13),(8,14),(8,15),(8,16)] (by simp[All2,ae,aw,bf]) (by decide) ?_;rintro p hp x y hx hy;simp only[T3,TV,U_]at hp;rcases hp with rfl|rfl|rfl|rfl|rfl|rfl|rfl<;>(simp at hx hy;subst hx;subst hy;exact EH (b:=1) (λi hi=>m1 i hi) rfl rfl (by simp[ae,aw]) rfl)
 ·refine⟨λ_=>True,?_⟩;have e:(x.frm.map λz=>(m.nodes.map (·.card))[z.toNat]?.getD 0).map ci++(x.noise.map λz=>(m.roots.map λr=>(r.length:Int))[z.toNat]?.getD 0).map ci=(S.Rh m x).map ci:=by simp only[Tt];rw[S.Rh,Ub];rfl
  rw[e]at hz;have:=hz.ints (k:=0) (by simp[S.Rh];have:=bD hf;have:=bD hn;omega);simpa using this
def S.Tc(m:Causal)(x:Mech):Bool:=decide (1<=x.card)&&decide (x.card<=4)&&S.Rc x.frm m.nodes.length&&S.Rc x.noise m.roots.length
def S.Te(m:Causal)(x:Mech):Bool:=decide ((x.out.length:Int)=S.Q5 (S.Rh m x))&&S.R2 0 (x.card - 1) x.out
def S.S7(m:Causal):Bool :=
 decide (1<=m.grain)&&decide (m.grain<=12)&&decide (m.roots.length<=8)&&decide (1<=m.nodes.length)&&decide (m.nodes.length<=5)&&m.roots.all (S.Sc m.grain)&&m.nodes.all (S.Tc m) &&
  decide (S.Q5 (m.roots.map λr=>(r.length:Int))<=1024)&&decide (S.Q5 (m.nodes.map (·.card))<=1024)&&S.Sk (S.Rq m)&&m.nodes.all (S.Te m)
theorem iP(l p:List Int):S.Q5 (l++p)=S.Q5 l*S.Q5 p:=by
 induction l with
 |nil=>simp[S.Q5]
 |cons a l ih=>rw[TJ,bu,bu,ih,UK]
theorem A6(m:Causal)(x:Mech):S.Q5 (S.Rh m x)=S.RM m x*S.RJ m x:=by rw[S.Rh,iP];rfl
section
variable {d k:Nat}{m:Causal}{a b:AV}
end
end
end Hx
end
section
namespace Hx
open Go
noncomputable section
def Els(g:G)(b:Nat)(v:AV):Nat->Prop:=λi=>b<=i/\i<g.nx/\vid v≠some i
def OwnT{α:Type} [Rp α](g:G)(b:Nat)(k:Nat)(v:AV)(l:List α):Prop:=∃rows,Own g b v (Rp.sz α) rows/\All2 (Rp.rp (Els g b v) k g.h) l rows
variable {α:Type} [Rp α]{g g':G}{b k:Nat}{v:AV}{l:List α}
theorem OwnT.nils:OwnT g b k .nils ([]:List α):=⟨[],.inl ⟨rfl,rfl⟩,trivial⟩
theorem OwnT.sl(h:OwnT g b k v l)(hl:l.length<9223372036854775808):SlR (λi=>b<=i/\i<g.nx) k g.h l v:=by obtain⟨rows,h1,h2⟩:=h;exact Own.sl h1 hl (h2.mono λx cs r=>Rp.mono r (λi hi=>⟨⟨hi.1,hi.2.1⟩,rfl⟩) (Tp _)) λi hi=>h1.lt hi
theorem OwnT.fr(h:OwnT g b k v l)(hn:g.nx<=g'.nx)(hf:∀i,b<=i->i<g.nx->g'.h.get i=g.h.get i):OwnT g' b k v l:=by obtain⟨rows,h1,h2⟩:=h;exact⟨rows,h1.fr hn λi hi=>hf i (h1.lt hi).1 (h1.lt hi).2,h2.mono λx cs r=>Rp.mono r (λi hi=>⟨⟨hi.1,TX hi.2.1 hn,hi.2.2⟩,hf i hi.1 hi.2.1⟩) (Tp _)⟩
theorem OwnT.step(h:OwnT g b k v l)(f:Fr g g'):OwnT g' b k v l:=h.fr f.1 λi _ hi=>f.2 i hi
theorem OwnT.lt(h:OwnT g b k v l){i:Nat}(hi:vid v=some i):b<=i/\i<g.nx:=by obtain⟨rows,h1,-⟩:=h;exact h1.lt hi
theorem OwnT.cell(h:OwnT g b k v l):v.cells=[v]/\v.isTup=false:=by obtain⟨rows,h1,-⟩:=h;exact h1.cell
theorem yu{x:AV}{y:α}{cs:List AV}{bytes:Nat}{K:AV->G->Prop}{D:ADf->Prop}(hv:OwnT g b k v l)(hx:ac g.h (Rp.sz α) x=some [cs])(hy:Rp.rp (Els g b v) k g.h y cs)(hb:b<=g.nx)
  (hr:(l.length+1)*bytes<=aQ)
  (kk:∀v' g',OwnT g' b k v' (l++[y])->g.nx<=g'.nx->(∀i,i<g.nx->vid v≠some i->g'.h.get i=g.h.get i)->(vid v'=vid v\/∃i,vid v'=some i/\g.nx<=i)->(∀i∈g'.lg,i∈g.lg\/b<=i)->K v' g') :
  (cC (Rp.sz α) bytes v x g).sat K g D:=by
 obtain⟨rows,h1,h2⟩:=hv;refine aT (new:=[cs]) h1 hx hb (by grind[All2.len]) λv' g' hv' hn hf hvid hlg=>kk v' g' ⟨rows++[cs],hv',?_⟩ hn hf hvid hlg;have up:∀(z:α) (c:List AV),Rp.rp (Els g b v) k g.h z c->Rp.rp (Els g' b v') k g'.h z c:=λz c r=>Rp.mono r (λi hi=>⟨⟨hi.1,TX hi.2.1 hn,λe=>by
  rcases hvid with e2|⟨j,e2,hj⟩
  ·rw[e2]at e;exact hi.2.2 e
  ·rw[e2]at e;injection e with e;subst e;have:=hi.2.1;omega⟩,hf i hi.2.1 hi.2.2⟩) (Tp _)
 exact (h2.mono up).append ⟨up y cs hy,trivial⟩
theorem OwnT.base{b':Nat}(h:OwnT g b k v l)(hb:b'<=b):OwnT g b' k v l:=by
 obtain⟨rows,h1,h2⟩:=h;refine⟨rows,?_,h2.mono λx cs r=>Rp.mono r (λi hi=>⟨⟨by have:=hi.1;omega,hi.2⟩,rfl⟩) (Tp _)⟩;rcases h1 with h|⟨id,ep,lo,p1,p2,p3,p4⟩
 ·exact .inl h
 ·exact .inr ⟨id,ep,lo,by omega,p2,p3,p4⟩
def FrW(b:Nat)(g g':G):Prop:=g.nx<=g'.nx/\(∀i,i<b->g'.h.get i=g.h.get i)/\∀i∈g'.lg,i∈g.lg\/b<=i
theorem FrW.trans{g1 g2 g3:G}(h:FrW b g1 g2)(h':FrW b g2 g3):FrW b g1 g3 :=
 ⟨TU h.1 h'.1,λi hi=>by rw[h'.2.1 i hi,h.2.1 i hi],λi hi=>by
  rcases h'.2.2 i hi with h1|h1
  ·exact h.2.2 i h1
  omega⟩
theorem FrW.new{g1:G}(o:AObj)(hb:b<=g1.nx):FrW b g1 (g1.new o) :=
 ⟨by simp,λi hi=>by grind[G.new_h,ah],λi hi=>by
  simp at hi
  grind⟩
theorem FrW.put{g1:G}(id:Nat)(o:AObj)(hb:b<=id):FrW b g1 (g1.put id o) :=
 ⟨by simp,λi hi=>by grind[G.put_h,ah],λi hi=>by
  simp at hi
  grind⟩
theorem Q9{g1 g2:G}{v:AV}(hv:∀i,vid v=some i->b<=i)(hb:b<=g1.nx)(hn:g1.nx<=g2.nx)(hf:∀i,i<g1.nx->vid v≠some i->g2.h.get i=g1.h.get i)(hl:∀i∈g2.lg,i∈g1.lg\/b<=i):FrW b g1 g2 :=
 ⟨hn,λi hi=>hf i (by omega) (λe=>by grind),hl⟩
end
end Hx
end
section
namespace Hx
open Go
noncomputable section
structure KnownM where
 m:Causal
 hidden:Int
instance : Rp KnownM:=Rp.via λx:KnownM=>(x.m,x.hidden)
theorem dF{P:Nat->Prop}{k:Nat}{h:H}{x:KnownM}{cs:List AV}:Rp.rp P k h x cs↔∃a b,cs=[.int .i64 x.m.grain,a,b,.int .i64 x.hidden]/\SlR P k h x.m.roots a/\SlR P k h x.m.nodes b:=by
 constructor
 ·rintro⟨c1,c2,rfl,h1,h2⟩;obtain⟨a,b,rfl,h3,h4⟩:=aZ.1 h1;rw[aB.1 h2];exact⟨a,b,rfl,h3,h4⟩
 ·rintro⟨a,b,rfl,h3,h4⟩;exact⟨[.int .i64 x.m.grain,a,b],[.int .i64 x.hidden],rfl,aZ.2 ⟨a,b,rfl,h3,h4⟩,aB.2 rfl⟩
def S.Ry(gr:Int)(card value:Nat):List Int:=(List.replicate card 0).set value gr
theorem Nf{d k:Nat}{g:G}{P:Nat->Prop}{v:AV}{x:KnownM}{c i:Nat}(hd:0<d)(hm:Agg x P k g.h v)(hc:c<=4)(hi:i<c) :
  ∃r,an C0 d N.RF [v,.int .i64 (c:Int),.int .i64 (i:Int)] g=.val r/\IT 0 (S.Ry x.m.grain c i) r:=by
 obtain⟨v',e,cs,rfl,hcs⟩:=eZ (bz x) (by decide) d hm;obtain⟨a,b,rfl,hR,hN⟩:=dF.1 hcs;rw[ut];refine bg wE (xs:=[.agg [.int .i64 x.m.grain,a,b,.int .i64 x.hidden],.int .i64 c,.int .i64 i]) (by simp only[aK,e,fg 0]) (by simp[j9]) (a9 _) (by decide) hd ?_;simp only[j9,sx,sy,SO.run,↓reduceIte,Nat.reduceEqDiff,Nat.reduceAdd];generalize hg0:(G.empty.new (We 4 [[AV.int IntKind.i64 x.m.grain,a,b,AV.int IntKind.i64 x.hidden]]))=g0;have f0:g0.h.get 0=We 4 [[.int .i64 x.m.grain,a,b,.int .i64 x.hidden]]:=by rw[<-hg0];simp[sx]
 have f1:1<=g0.nx:=by rw[<-hg0];simp[sx]
 clear hg0;simp only[ny,sx,SO.run,↓reduceIte,Nat.reduceEqDiff];refine jA (b:=1) (n:=c) (by simp[aQ];omega) (by simp[aQ];omega) f1 λw g1 hw n1 fr1 v1=>?_;have e0:g1.h.get 0=We 4 [[.int .i64 x.m.grain,a,b,.int .i64 x.hidden]]:=by rw[fr1 0 (by omega),f0]
 have hlt:i<(List.replicate c [AV.int IntKind.i64 0]).length:=by simpa using hi
 simp only[sx,sy,SO.run,↓reduceIte,Nat.reduceEqDiff,e0,hw.rows,Tx,Tq,hlt];refine bw (row:=ci 0) (row':=ci x.m.grain) hw (by rw[Uh,TE hi];rfl) rfl rfl rfl λg2 hw2 n2 f2=>?_;simp only[sx,SO.run,↓reduceIte,Nat.reduceEqDiff];have e:(List.replicate c [AV.int IntKind.i64 0]).set i (ci x.m.grain)=(S.Ry x.m.grain c i).map ci:=by simp[S.Ry,UJ,ci]
 rw[e]at hw2;exact⟨_,hw2.ints (by simp[S.Ry];omega)⟩
theorem DW{d k:Nat}{g:G}{P:Nat->Prop}{v:AV}{x:KnownM}(hd:0<d)(hm:Agg x P k g.h v)(hn:x.m.nodes.length<=5) :
  ∃r,an C0 d N.RE [v] g=.val r/\IT 0 (List.replicate x.m.nodes.length (-1)) r:=by
 obtain⟨v',e,cs,rfl,hcs⟩:=eZ (bz x) (by decide) d hm;obtain⟨a,b,rfl,hR,hN⟩:=dF.1 hcs;rw[sj];refine bg vz (xs:=[.agg [.int .i64 x.m.grain,a,b,.int .i64 x.hidden]]) (by simp only[aK,e]) (by simp[jv]) (a9 _) (by decide) hd ?_;simp only[jv,sx,sy,SO.run,↓reduceIte,Nat.reduceAdd];generalize hg0:(G.empty.new (We 4 [[AV.int IntKind.i64 x.m.grain,a,b,AV.int IntKind.i64 x.hidden]]))=g0;have f0:g0.h.get 0=We 4 [[.int .i64 x.m.grain,a,b,.int .i64 x.hidden]]:=by rw[<-hg0];simp[sx]
 have f1:1<=g0.nx:=by rw[<-hg0];simp[sx]
 clear hg0;simp only[mh,sx,sy,SO.run,↓reduceIte,Nat.reduceEqDiff,f0,hN.len];refine jA (b:=1) (n:=x.m.nodes.length) (by simp[aQ];omega) (by simp[aQ];omega) f1 λw g1 hw n1 fr1 v1=>?_;have wl:∀g,dm .slice w g=.val (.int .i64 (x.m.nodes.length:Int)):=λg=>by rw[bQ hw.rows,TY]
 simp only[sx,SO.run,↓reduceIte,wl];refine aq (m:=x.m.nodes.length) (by omega) (λj t df g=>df=[]/\tat t 3=w/\Own g 1 w 1 ((List.replicate j (-1)++List.replicate (x.m.nodes.length - j) 0:List Int).map ci))
  ⟨rfl,by simp[sx],by simpa [ci] using hw⟩ (by simp[sx]) (by simp[sx]) (by decide) (by rintro j t df g v s (rfl|rfl|rfl)<;>simp[sx]) ?_ ?_
 ·rintro j t df g hj ⟨rfl,h3,hu⟩ h12 h11;have hlt:j<((List.replicate j (-1)++List.replicate (x.m.nodes.length - j) 0:List Int).map ci).length:=by rw[Tz,TP,TY,TY];omega
  have hrow:((List.replicate j (-1)++List.replicate (x.m.nodes.length - j) 0:List Int).map ci)[j]?=some (ci 0):=by rw[Tt,TB (by simp),TY,UB,Uh,TE (by omega)];rfl
  simp only[sx,SO.run,↓reduceIte,Nat.reduceEqDiff,h3,h12,hu.rows,Tx,Tq,hlt];refine bw (row:=ci 0) (row':=ci (-1)) hu hrow rfl rfl rfl λg2 hw2 n2 f2=>?_;simp only[sx,sy,↓reduceIte,Nat.reduceEqDiff,h3,h11,h12];have e:((List.replicate j (-1)++List.replicate (x.m.nodes.length - j) 0:List Int).map ci).set j (ci (-1))=(List.replicate (j+1) (-1)++List.replicate (x.m.nodes.length - (j+1)) 0:List Int).map ci:=by
   rw[<-UJ];congr 1;obtain⟨q,hq⟩:∃q,x.m.nodes.length - j=q+1:=⟨x.m.nodes.length - j - 1,by omega⟩;rw[hq,show x.m.nodes.length - (j+1)=q by omega,U8 _ _ (by simp),TY,UB,Uu,Va,List.replicate_succ',UO]
   rfl
  rw[e]at hw2;exact hw2
 ·rintro t df g ⟨rfl,h3,hu⟩;simp only[li,sx,SO.run,↓reduceIte,h3];rw[UB]at hu;simp only[V4,TZ]at hu;exact⟨_,hu.ints (by simp;omega)⟩
def S.SM(m:Causal)(l:List Int)(i:Nat):Bool:=decide (-1<=l[i]?.getD 0)&&decide (l[i]?.getD 0<=S.Rf m i - 1)
def S.Rd(m:Causal)(l:List Int):Bool:=decide (l.length=m.nodes.length)&&(List.range l.length).all (S.SM m l)
def S.Q8(m:Causal):Int:=S.Q5 (m.roots.map λr=>(r.length:Int))
def S.Tj:KnownM:=⟨⟨0,[],[]⟩,0⟩
def S.Rs(m:Causal)(ls:List (List Int)):Int:=if S.Q_ m then (if ls.all (S.Rd m) then 0 else 2) else 330
def S.Sp(m:Causal)(ls:List (List Int)):KnownM:=if S.Rs m ls=0 then ⟨m,S.Q8 m⟩ else S.Tj
theorem ap{m:Causal}(h:S.Q_ m=true):S.Small m/\(1<=m.grain/\m.grain<=12)/\1<=m.nodes.length/\S.Sq m=true/\S.SB m=true:=by simp only[S.Q_,Ts,TA]at h;obtain⟨⟨⟨⟨⟨⟨⟨⟨a1,a2⟩,a3⟩,a4⟩,a5⟩,hro⟩,hc⟩,hno⟩,hac⟩:=h;exact⟨Gu a3 a5 hro λx hx=>by have:=TC.1 hc x hx;simpa using this,⟨a1,a2⟩,a4,hro,hno⟩
theorem fY{m:Causal}(hs:S.Small m)(j:Nat):1<=S.Q5 ((m.roots.take j).map λr=>(r.length:Int))/\S.Q5 ((m.roots.take j).map λr=>(r.length:Int))<=4 ^ 8:=by
 have:=ba (l:=(m.roots.take j).map λr=>(r.length:Int)) (by
  intro y hy;obtain⟨r,hr,rfl⟩:=T4.1 hy;have:=hs.len r (Uc hr);omega)
 exact⟨this.1,VJ this.2 (bI (by have:=hs.roots;simp;omega))⟩
theorem xe{d k k2:Nat}{g:G}{P2:Nat->Prop}{v w:AV}{m:Causal}{ls:List (List Int)}(hd:0<d)(hk:k<d)(hm:Agg m NoP k g.h v)(hw:SlR P2 k2 g.h ls w) :
  ∃r,an C0 d N.Sd [v,w] g=.val r/\rK (Agg (S.Sp m ls)) (One (S.Rs m ls)) NoP k .nil r:=by
 have e:=cW d hm;obtain⟨cs,rfl,hc⟩:=hm;obtain⟨a,b,rfl,hR,hN⟩:=aZ.1 hc;obtain⟨w',e2,hl⟩:=cX hw d;obtain⟨rows,r1,r2,r3,r4⟩:=hN.all;have r1:∀h',ac h' 4 b=some rows:=r1;obtain⟨lrows,l1,l2,l3,l4⟩:=(hl .nil).all;have l1:∀h',ac h' 1 w'=some lrows:=l1;obtain⟨rrows,p1,p2,p3,p4⟩:=hR.all;have p1:∀h',ac h' 1 a=some rrows:=p1;have hms:∀g:G,Agg m NoP k g.h (.agg [.int .i64 m.grain,a,b]):=λg=>⟨_,rfl,aZ.2 ⟨a,b,rfl,hR.tree (Tp _),hN.tree (Tp _)⟩⟩;rw[zW];refine bg DH (xs:=[.agg [.int .i64 m.grain,a,b],w']) (by simp only[aK,e,e2]) (by simp[s_]) (cO (m:=2) (bz _) (a9 _) (by decide) (by decide)) (by decide) hk ?_;simp only[s_,sx,sy,SO.run,↓reduceIte,Nat.reduceEqDiff,Nat.reduceAdd];generalize hg0:(G.empty.new (We 3 [[AV.int IntKind.i64 m.grain,a,b]])).new (We 4 [[AV.int IntKind.i64 0,AV.nils,AV.nils,AV.int IntKind.i64 0]])=g0;have f0:g0.h.get 0=We 3 [[.int .i64 m.grain,a,b]]:=by rw[<-hg0];simp[sx,Q_]
 have f1:g0.h.get 1=We 4 [[.int .i64 0,.nils,.nils,.int .i64 0]]:=by rw[<-hg0];simp[sx]
 have f2:2<=g0.nx:=by rw[<-hg0];simp[sx]
 clear hg0;have bad:∀(hh:H) (z:Int),S.Rs m ls=z->z≠0->∃P,rK (Agg (S.Sp m ls)) (One (S.Rs m ls)) P k hh (.tup [.agg [.int .i64 0,.nils,.nils,.int .i64 0],.int .i64 z]):=λhh z hz h=>by
  subst hz;have:S.Sp m ls=S.Tj:=by rw[S.Sp,TF h]
  rw[this];exact⟨NoP,_,_,rfl,⟨_,rfl,dF.2 ⟨.nils,.nils,rfl,⟨by decide,rfl⟩,⟨by decide,rfl⟩⟩⟩,aB.2 rfl⟩
 simp only[uL,sx,sy,SO.run,↓reduceIte,Nat.reduceEqDiff,Nat.reduceAdd,Nat.reduceLeDiff,f0,JM (TG d) (hms _)];cases hck:S.Q_ m with
 | false =>
  refine aR (λhb=>?_) (λhb=>by simp at hb);simp only[sx,sy,SO.run,↓reduceIte,Nat.reduceEqDiff,Nat.reduceAdd,Nat.reduceLeDiff,f1,reduceCtorEq];exact bad _ 330 (by simp[S.Rs,hck]) (by decide)
 | true =>
  refine aR (λhb=>by simp at hb) (λhb=>?_);obtain⟨hs,hgr,hn1,hro,hno⟩:=ap hck;simp only[sx,SO.run,↓reduceIte,Nat.reduceEqDiff,(hl .nil).len];refine aq hw.1 (λj t df g=>df=[]/\St t [(1,w'),(2,.hptr 0 0 0 0),(4,.hptr 1 0 0 0),(20,w')]/\g.h.get 0=We 3 [[.int .i64 m.grain,a,b]]/\g.h.get 1=We 4 [[.int .i64 0,.nils,.nils,.int .i64 0]]/\2<=g.nx/\(ls.take j).all (S.Rd m)=true)
   ⟨rfl,by simp[St,sx],f0,f1,f2,rfl⟩ (by simp[sx]) (by simp[sx]) (by decide) (by rintro j t df g v s (rfl|rfl|rfl)<;>simp[St,sx]) ?_ ?_
  ·rintro j t df g hj ⟨rfl,⟨h1,h2,h4,h20,-⟩,hg,hg1,hnx,hwa⟩ h22 h21;obtain⟨l,hx,htk,hm⟩:=af hj;obtain⟨row,q1,q2⟩:=l3 j l hx;obtain⟨u,rfl,hu⟩:=f6.1 q2;have hlt:j<lrows.length:=by omega
   have badl:S.Rd m l=false->S.Rs m ls=2:=λh=>by rw[S.Rs,TE hck,TF];intro h2;have:=TC.1 h2 l hm;rw[h]at this;cases this
   simp only[sx,sy,SO.run,↓reduceIte,Nat.reduceEqDiff,h2,h20,h22,hg,l1,hlt,q1,Tx,Tq,hu.len,hN.len];refine aR (λhb=>?_) (λhb=>?_)
   ·simp only[sx,sy,SO.run,↓reduceIte,Nat.reduceEqDiff,Nat.reduceAdd,Nat.reduceLeDiff,h4,hg1];exact bad _ 2 (badl (by simp at hb;simp[S.Rd];intro h;omega)) (by decide)
   ·have hll:l.length=m.nodes.length:=by simp at hb;omega
    simp only[sx,SO.run,↓reduceIte,Nat.reduceEqDiff,hu.len];refine aq (m:=l.length) (by have:=hs.nodes;omega) (λi t df g=>df=[]/\St t [(1,w'),(2,.hptr 0 0 0 0),(4,.hptr 1 0 0 0),(20,w'),(21,.int .i64 ls.length),(22,.int .i64 j),(33,u)]/\g.h.get 0=We 3 [[.int .i64 m.grain,a,b]]/\g.h.get 1=We 4 [[.int .i64 0,.nils,.nils,.int .i64 0]]/\2<=g.nx/\(List.range i).all (S.SM m l)=true)
     ⟨rfl,by simp[St,sx,h1,h2,h4,h20,h21,h22],hg,hg1,hnx,rfl⟩ (by simp[sx]) (by simp[sx]) (by decide) (by rintro j t df g v s (rfl|rfl|rfl)<;>simp[St,sx]) ?_ ?_
    ·rintro i t df g hi ⟨rfl,⟨h1,h2,h4,h20,h21,h22,h33,-⟩,hg,hg1,hnx,hwi⟩ h35 h34;obtain⟨y,hy,-,-⟩:=af hi;obtain⟨x,hxn,-,hmn⟩:=af (l:=m.nodes) (j:=i) (by omega);obtain⟨row,q3,q4⟩:=r3 i x hxn;obtain⟨fa,fb,fc,rfl,hfa,hfb,hfc⟩:=dG.1 q4;have hlt2:i<rows.length:=by omega
     have hry:=r4 (by omega);have hcd:=hs.card x hmn;have hca:S.Rf m (i:Int)=x.card:=by simp[S.Rf,hxn]
     simp only[sx,sy,SO.run,↓reduceIte,Nat.reduceEqDiff,h2,h33,h35,hg,r1,hlt2,q3,hry,Tx,Tq,(hu.tree (h':=g.h) (Tp _)).ints,hi,hy,Tz,Tt,TQ,ci,
      au (show -9223372036854775808<=x.card - 1 by omega) (show x.card - 1<9223372036854775808 by omega),kI (TG d)]
     have e0:(g.new (We 1 [[AV.int IntKind.i64 y]])).h.get 0=We 3 [[.int .i64 m.grain,a,b]]:=by rw[G.new_h,ah _ _ _ (by omega),hg]
     have e1:(g.new (We 1 [[AV.int IntKind.i64 y]])).h.get 1=We 4 [[.int .i64 0,.nils,.nils,.int .i64 0]]:=by rw[G.new_h,ah _ _ _ (by omega),hg1]
     have e2:2<=(g.new (We 1 [[AV.int IntKind.i64 y]])).nx:=by simp;omega
     have hat:S.SM m l i=(decide (-1<=y)&&decide (y<=x.card - 1)):=by simp[S.SM,hy,hca]
     rw[<-hat];generalize g.new (We 1 [[AV.int IntKind.i64 y]])=g5 at *;cases hac:S.SM m l i with
     | false =>
      simp only[sx,sy,SO.run,↓reduceIte,Nat.reduceEqDiff,Nat.reduceAdd,Nat.reduceLeDiff,T9,h4,e1];exact bad _ 2 (badl (by rw[S.Rd,eO hi hac,VC])) (by decide)
     | true =>
      simp only[sx,sy,↓reduceIte,Nat.reduceEqDiff,Um,St,h1,h2,h4,h20,h21,h22,h33,h34,h35,e0,e1];refine⟨e2,?_⟩;rw[ct,hwi,hac];rfl
    ·rintro t df g ⟨rfl,⟨h1,h2,h4,h20,h21,h22,h33,-⟩,hg,hg1,hnx,hwi⟩;simp only[sx,sy,↓reduceIte,St,h1,h2,h4,h20,h21,h22,hg,hg1];refine⟨hnx,?_⟩;rw[htk,List.all_append,hwa];simp[S.Rd,hll];rw[<-hll];exact λz hz=>TC.1 hwi z (TK.2 hz)
  ·rintro t df g ⟨rfl,⟨h1,h2,h4,h20,-⟩,hg,hg1,hnx,hwa⟩;rw[TO]at hwa;have hE:S.Rs m ls=0:=by rw[S.Rs,TE hck,TE hwa]
   have hK:S.Sp m ls=⟨m,S.Q8 m⟩:=by rw[S.Sp,TE hE]
   have hne1:¬(1=g.nx):=by omega
   have hne0:¬(0=g.nx):=by omega
   simp only[tb,sx,sy,SO.run,↓reduceIte,Nat.reduceEqDiff,Nat.reduceAdd,Nat.reduceLeDiff,h2,hg,hne0,hR.len];refine aq (m:=m.roots.length) (by have:=hs.roots;omega) (λi t df g'=>df=[]/\St t [(4,.hptr 1 0 0 0),(11,.hptr g.nx 0 0 0),(57,a)]/\g'.h.get 1=We 4 [[.int .i64 0,.nils,.nils,.int .i64 0]]/\g'.h.get g.nx=We 4 [[.int .i64 m.grain,a,b,.int .i64 (S.Q5 ((m.roots.take i).map λr=>(r.length:Int)))]]/\g'.nx=g.nx+1)
    ⟨rfl,by simp[St,sx,h4],by simp[Q_,hne1,hg1],by simp[Q_,S.Q5],by simp⟩ (by simp[sx]) (by simp[sx]) (by decide) (by rintro j t df g v s (rfl|rfl|rfl)<;>simp[St,sx]) ?_ ?_
   ·rintro i t df g' hi ⟨rfl,⟨h4,h11,h57,-⟩,hg1,hgn,hn'⟩ h59 h58;obtain⟨x,hx,htk,hm⟩:=af hi;obtain⟨row,q1,q2⟩:=p3 i x hx;obtain⟨u,rfl,hu⟩:=f6.1 q2;have hlt:i<rrows.length:=by omega
    have b1:=fY hs i;have b2:=hs.len x hm;have b3:=Uk b1.2 (show (x.length:Int)<=4 by omega) (by omega) (by decide);have b4:=Ur (show 0<=S.Q5 ((m.roots.take i).map λr=>(r.length:Int)) by omega) (show (0:Int)<=x.length by omega);simp only[sx,sy,SO.run,↓reduceIte,Nat.reduceEqDiff,Nat.reduceAdd,Nat.reduceLeDiff,h4,h11,h57,h58,h59,hgn,p1,hlt,q1,Tx,Tq,hu.len,St,hne1,hg1,hn',
     au (show -9223372036854775808<=S.Q5 ((m.roots.take i).map λr=>(r.length:Int))*(x.length:Int) by omega) (show S.Q5 ((m.roots.take i).map λr=>(r.length:Int))*(x.length:Int)<9223372036854775808 by omega)]
    rw[htk,Ub,UA,cU]
   ·rintro t df g' ⟨rfl,⟨h4,h11,h57,-⟩,hg1,hgn,hn'⟩;rw[TO]at hgn;simp only[ta,sx,sy,SO.run,↓reduceIte,Nat.reduceEqDiff,Nat.reduceAdd,Nat.reduceLeDiff,h4,h11,hgn,hg1];rw[hE,hK];exact⟨NoP,_,_,rfl,⟨_,rfl,dF.2 ⟨a,b,rfl,hR.tree (Tp _),hN.tree (Tp _)⟩⟩,aB.2 rfl⟩
end
end Hx
end
section
namespace Hx
open Go
def Sub(a s:Nat):Prop:=∀v,a.testBit v=true->s.testBit v=true
theorem wU(s v:Nat):S.S6 s v=s.testBit v:=by rw[Nat.testBit_eq_decide_div_mod_eq,S.S6,Nat.and_one_is_mod];rw[VH,beq_iff_eq,decide_eq_true_iff]
theorem pG{a s:Nat}:S.Sr a s=0↔Sub a s:=by
 constructor
 ·intro h v hv;have:=congrArg (·.testBit v) h;simp[S.Sr,hv]at this;exact this
 ·intro h;refine Nat.eq_of_testBit_eq λv=>?_;have:=h v;simp only[S.Sr,Nat.testBit_xor,Nat.testBit_and,Nat.zero_testBit];cases ha:a.testBit v
  ·rfl
  ·rw[this ha];rfl
theorem gR(a b v:Nat):(a ||| b).testBit v=(a.testBit v || b.testBit v):=Nat.testBit_or a b v
theorem mV{n:Nat}(h:n<64)(v:Nat):(S.RN n).testBit v=decide (n=v):=by rw[GU h,Nat.testBit_two_pow]
section
variable {p:List Nat}
def Par(p:List Nat)(v:Nat):Nat:=p[v]?.getD 0
def Cl(p:List Nat)(s:Nat):Prop:=∀v,v<p.length->s.testBit v=true->Sub (Par p v) s
theorem Df{s t:Nat}(hc:Cl p t)(h:Sub s t):∀j,j<=p.length->Sub (S.Sj p s j) t
 |0,_=>h
 | j+1,hj=>by
  have ih:=Df hc h j (by omega);rw[nT]
  split
  ·rename_i hb;rw[wU]at hb;intro v hv;rw[gR,Uo]at hv;rcases hv with hv|hv
   ·exact ih v hv
   ·exact hc j (by omega) (ih j hb) v hv
  ·exact ih
theorem yk{s t:Nat}(hc:Cl p t)(h:Sub s t):∀j,Sub (S.up p s j) t
 |0=>h
 |j+1=>by rw[qT];exact Df hc (yk hc h j) _ (Tp _)
def Bw(p:List Nat)(s:Nat):Prop:=Cl p s/\∀v,v<p.length->s.testBit v=true->(S.up p (Par p v) p.length).testBit v=false
theorem Ax(hn:p.length<=5){s:Nat}(h:Bw p s):∀j,j<=p.length->Bw p (S.RH p s j)
 |0,_=>h
 | j+1,hj=>by
  have ih:=Ax hn h j (by omega);rw[dE]
  split
  ·rename_i hd;have hd:Sub (Par p j) (S.RH p s j):=pG.1 hd;generalize S.RH p s j=q at *;refine⟨λv hv hb=>?_,λv hv hb=>?_⟩
   ·intro u hu;rw[gR,mV (by omega),Uo,TA]at hb;rw[gR,Uo];rcases hb with hb|hb
    ·exact .inl (ih.1 v hv hb u hu)
    ·subst hb;exact .inl (hd u hu)
   ·rw[gR,mV (by omega),Uo,TA]at hb;cases hq:q.testBit v
    ·rw[hq]at hb;simp at hb;subst hb;rw[<-UG];intro hu;have:=yk ih.1 hd p.length j hu;rw[hq]at this;cases this
    ·exact ih.2 v hv hq
  ·exact ih
theorem yC(hn:p.length<=5):∀j,Bw p (S.RE p j)
 |0=>⟨λv _ hb=>by simp[S.RE]at hb,λv _ hb=>by simp[S.RE]at hb⟩
 |j+1=>by rw[dC];exact Ax hn (yC hn j) _ (Tp _)
theorem kV:S.Sk p=true↔∀v,v<p.length->(S.up p (Par p v) p.length).testBit v=false:=by
 unfold S.Sk;rw[TC];constructor
 ·intro h v hv;have:=h v (TK.2 hv);rw[wU]at this;simpa [Par] using this
 ·intro h v hv;have:=h v (TK.1 hv);rw[wU];simpa [Par] using this
theorem DX{n v:Nat}(h:v<n):(2 ^ n - 1).testBit v=true:=by rw[Nat.testBit_two_pow_sub_one];simpa using h
theorem zD(hn:p.length<=5)(h:S.RE p p.length=2 ^ p.length - 1):S.Sk p=true:=by rw[kV];intro v hv;exact (yC hn p.length).2 v hv (by rw[h];exact DX hv)
def bct(s:Nat):Nat->Nat
 |0=>0
 |n+1=>bct s n+(if s.testBit n then 1 else 0)
theorem GT(s:Nat):∀n,bct s n<=n
 |0=>Tp _
 |n+1=>by have:=GT s n;unfold bct;split<;>omega
theorem EL{a s:Nat}(h:Sub a s):∀n,bct a n<=bct s n
 |0=>Tp _
 | n+1=>by
  have:=EL h n;unfold bct
  split
  ·rename_i hb;rw[TE (h n hb)];omega
  ·split<;>omega
theorem Li{a s:Nat}(h:Sub a s){v:Nat}(hv:s.testBit v=true)(ha:a.testBit v=false):∀n,v<n->bct a n<bct s n
 |0,h0=>by omega
 | n+1,hn=>by
  unfold bct
  by_cases hvn:v=n
  ·subst hvn;have:=EL h v;rw[TE hv,ha];simp;omega
  ·have:=Li h hv ha n (by omega)
   split
   ·rename_i hb;rw[TE (h n hb)];omega
   ·split<;>omega
theorem EK{s:Nat}:∀n,bct s n=n->∀v,v<n->s.testBit v=true
 |0,_,v,h=>by omega
 | n+1,h,v,hv=>by
  unfold bct at h;have:=GT s n
  split at h
  ·rename_i hb
   by_cases e:v=n
   ·subst e;exact hb
   ·exact EK n (by omega) v (by omega)
  ·omega
theorem qR{a s:Nat}(h:Sub a s)(h':Sub s a):a=s:=Nat.eq_of_testBit_eq λv=>by
 cases ha:a.testBit v
 ·cases hs:s.testBit v
  ·rfl
  ·rw[h' v hs]at ha;cases ha
 ·rw[h v ha]
theorem NH{a s:Nat}(h:Sub a s):a<=s:=by
 have:a ||| s=s:=Nat.eq_of_testBit_eq λv=>by
  rw[gR];cases ha:a.testBit v
  ·simp
  ·rw[h v ha];rfl
 rw[<-this];exact Nat.left_le_or
theorem tM(s:Nat):∀j,Sub s (S.RH p s j)
 |0=>λ_ h=>h
 | j+1=>by
  have ih:=tM s j;rw[dE]
  split
  ·intro v hv;rw[gR,ih v hv];rfl
  ·exact ih
theorem qS(s:Nat):∀j,Sub s (S.Sj p s j)
 |0=>λ_ h=>h
 | j+1=>by
  have ih:=qS s j;rw[nT]
  split
  ·intro v hv;rw[gR,ih v hv];rfl
  ·exact ih
theorem Gg{s:Nat}{j k:Nat}(h:j<=k):Sub (S.RH p s j) (S.RH p s k):=by
 induction h with
 |refl=>exact λ_ h=>h
 | step _ ih =>
  rw[dE]
  split
  ·intro v hv;rw[gR,ih v hv];rfl
  ·exact ih
theorem H5{s:Nat}{j k:Nat}(h:j<=k):Sub (S.Sj p s j) (S.Sj p s k):=by
 induction h with
 |refl=>exact λ_ h=>h
 | step _ ih =>
  rw[nT]
  split
  ·intro v hv;rw[gR,ih v hv];rfl
  ·exact ih
theorem NG{s:Nat}(hn:p.length<=5)(h:S.RH p s p.length=s){v:Nat}(hv:v<p.length)(hb:s.testBit v=false):¬Sub (Par p v) s:=by
 intro hs;have h1:Sub (Par p v) (S.RH p s v):=λu hu=>tM s v u (hs u hu);have h2:(S.RH p s (v+1)).testBit v=true:=by rw[dE,TE (show S.Sr (p[v]?.getD 0) (S.RH p s v)=0 from pG.2 h1),gR,mV (by omega)];simp
 have:=Gg (p:=p) (s:=s) (show v+1<=p.length by omega) v h2;rw[h,hb]at this;cases this
theorem JP{s:Nat}(h:S.Sj p s p.length=s):Cl p s:=by
 intro v hv hb u hu;have h1:(S.Sj p s v).testBit v=true:=qS s v v hb;have h2:(S.Sj p s (v+1)).testBit u=true:=by rw[nT,wU,h1,TE rfl,gR];have:(p[v]?.getD 0).testBit u=true:=hu;rw[this];simp
 have:=H5 (p:=p) (s:=s) (show v+1<=p.length by omega) u h2;rwa [h]at this
theorem Db{s n v:Nat}(h:s<2 ^ n)(hv:s.testBit v=true):v<n:=by
 rcases VN v n with h1|h1
 ·exact h1
 ·rw[Nat.testBit_lt_two_pow (TX h (Nat.pow_le_pow_right (by decide) h1))]at hv;cases hv
theorem PB{f:Nat->Nat}{n:Nat}(hm:∀j,Sub (f j) (f (j+1)))(hb:∀j,f j<2 ^ n)(hs:∀j,f (j+1)=f j->f (j+2)=f (j+1)):f (n+1)=f n:=by
 have key:∀j,j<=bct (f j) n\/f (j+1)=f j:=by
  intro j
  induction j with
  |zero=>exact .inl (Ue _)
  | succ j ih =>
   rcases ih with ih|ih
   ·by_cases e:f (j+1)=f j
    ·exact .inr (hs j e)
    ·left;have:∃v,(f (j+1)).testBit v=true/\(f j).testBit v=false:=by
      apply UD;intro hno;apply e;refine qR (λv hv=>?_) (hm j);cases hc:(f j).testBit v
      ·exact absurd ⟨v,hv,hc⟩ hno
      ·rfl
     obtain⟨v,h1,h2⟩:=this;have:=Li (hm j) h1 h2 n (Db (hb _) h1);omega
   ·exact .inr (hs j ih)
 rcases key n with h|h
 ·have hc:bct (f n) n=n:=by have:=GT (f n) n;omega
  refine qR (λv hv=>?_) (hm n);exact EK n hc v (Db (hb _) hv)
 ·exact h
theorem MU{a b n:Nat}(h:a<2 ^ n)(h':b<2 ^ n):a ||| b<2 ^ n:=Nat.or_lt_two_pow h h'
theorem A_(hn:p.length<=5){s:Nat}(hs:s<2 ^ p.length):∀j,j<=p.length->S.RH p s j<2 ^ p.length
 |0,_=>hs
 | j+1,hj=>by
  have ih:=A_ hn hs j (by omega);rw[dE]
  split
  ·exact MU ih (by rw[GU (by omega)];exact Nat.pow_lt_pow_right (by decide) hj)
  ·exact ih
theorem vT(hn:p.length<=5):∀j,S.RE p j<2 ^ p.length
 |0=>Nat.pow_pos (by decide)
 |j+1=>by rw[dC];exact A_ hn (vT hn j) _ (Tp _)
theorem AZ{v:Nat}(hp:∀x∈p,x<2 ^ p.length):Par p v<2 ^ p.length:=by
 unfold Par;cases h:p[v]? with
 |none=>exact Nat.pow_pos (by decide)
 |some x=>exact hp x (Tv h)
theorem De(hp:∀x∈p,x<2 ^ p.length){s:Nat}(hs:s<2 ^ p.length):∀j,S.Sj p s j<2 ^ p.length
 |0=>hs
 | j+1=>by
  have ih:=De hp hs j;rw[nT]
  split
  ·exact MU ih (AZ hp)
  ·exact ih
theorem NN(hp:∀x∈p,x<2 ^ p.length){s:Nat}(hs:s<2 ^ p.length):∀j,S.up p s j<2 ^ p.length
 |0=>hs
 |j+1=>by rw[qT];exact De hp (NN hp hs j) _
theorem Dg(hp:∀x∈p,x<2 ^ p.length){s:Nat}(hs:s<2 ^ p.length):Cl p (S.up p s p.length):=by
 apply JP;rw[<-qT];exact PB (f:=λj=>S.up p s j) (λj=>by rw[qT];exact qS _ _) (λj=>NN hp hs j) (λj e=>by
  have e:S.up p s (j+1)=S.up p s j:=e;show S.up p s (j+1+1)=S.up p s (j+1);rw[qT,e,<-qT,e])
theorem um{s:Nat}:∀j,Sub s (S.up p s j)
 |0=>λ_ h=>h
 |j+1=>λv hv=>by rw[qT];exact qS _ _ v (um j v hv)
theorem A4(hn:p.length<=5)(hp:∀x∈p,x<2 ^ p.length)(h:S.Sk p=true):S.RE p p.length=2 ^ p.length - 1:=by
 rw[kV]at h;have hst:S.RH p (S.RE p p.length) p.length=S.RE p p.length:=by
  rw[<-dC];exact PB (f:=λj=>S.RE p j) (λj=>by rw[dC];exact tM _ _) (λj=>vT hn j) (λj e=>by
   have e:S.RE p (j+1)=S.RE p j:=e;show S.RE p (j+1+1)=S.RE p (j+1);rw[dC,e,<-dC,e])
 generalize hT:S.RE p p.length=T at hst;have hTl:T<2 ^ p.length:=by rw[<-hT];exact vT hn _
 have none:∀r v,v<p.length->T.testBit v=false->S.up p (Par p v) p.length=r->False:=by
  intro r
  induction r using Nat.strongRecOn with
  | _ r ih =>
   intro v hv hb hr;have hns:=NG hn hst hv hb;have:∃u,(Par p v).testBit u=true/\T.testBit u=false:=by
    apply UD;intro hno;apply hns;intro u hu;cases hc:T.testBit u
    ·exact absurd ⟨u,hu,hc⟩ hno
    ·rfl
   obtain⟨u,hu,hub⟩:=this;have hul:u<p.length:=Db (AZ hp) hu;have hcl:=Dg hp (s:=Par p v) (AZ hp);have hin:(S.up p (Par p v) p.length).testBit u=true:=um _ u hu;have hsub:Sub (S.up p (Par p u) p.length) (S.up p (Par p v) p.length):=yk hcl (hcl u hul hin) _;have hlt:S.up p (Par p u) p.length<S.up p (Par p v) p.length:=by refine Nat.lt_of_le_of_ne (NH hsub) λe=>?_;have:=h u hul;rw[e,hin]at this;cases this
   exact ih _ (by omega) u hul hub rfl
 refine qR (λv hv=>DX (Db hTl hv)) λv hv=>?_;have hvl:v<p.length:=Db (by have:=Nat.pow_pos (n:=p.length) (show 0<2 by decide);omega) hv;cases hc:T.testBit v
 ·exact (none _ v hvl hc rfl).elim
 ·rfl
end
end Hx
end
section
namespace Hx
open Go
noncomputable section
def S.RQ(m:Causal):Int:=S.Q5 (m.nodes.map (·.card))
def S.RG(m:Causal)(c:Nat):Bool:=decide ((m.roots.length:Int)+(c:Int)*(m.nodes.length:Int)<=8)&&decide (S.Q8 m*S.RQ m ^ c<=1024)
theorem n0{m:Causal}(hs:S.Small m)(j:Nat):1<=S.Q5 ((m.nodes.take j).map (·.card))/\S.Q5 ((m.nodes.take j).map (·.card))<=4 ^ 5:=by
 have:=ba (l:=(m.nodes.take j).map (·.card)) (by
  intro y hy;obtain⟨r,hr,rfl⟩:=T4.1 hy;exact hs.card r (Uc hr))
 exact⟨this.1,VJ this.2 (bI (by have:=hs.nodes;simp;omega))⟩
theorem Iv{d k:Nat}{g:G}{P:Nat->Prop}{v:AV}{m:Causal}{c:Nat}(hd:0<d)(hm:Agg (⟨m,S.Q8 m⟩:KnownM) P k g.h v)(hck:S.Q_ m=true)(hc:c<=2) :
  an C0 d N.Ri [v,.int .i64 (c:Int)] g=.val (.bool (S.RG m c)):=by
 obtain⟨v',e,cs,rfl,hcs⟩:=eZ (bz (⟨m,S.Q8 m⟩:KnownM)) (by decide) d hm;obtain⟨a,b,rfl,hR,hN⟩:=dF.1 hcs;obtain⟨rows,r1,r2,r3,r4⟩:=hN.all;have r1:∀h',ac h' 4 b=some rows:=r1;obtain⟨hs,hgr,hn1,hro,hno⟩:=ap hck;have hh:1<=S.Q8 m/\S.Q8 m<=1024:=by have:=fY hs m.roots.length;rw[TO]at this;simp only[S.Sq,Ts,TA]at hro;exact⟨this.1,hro.2⟩
 have hcd:1<=S.RQ m/\S.RQ m<=1024:=by have:=n0 hs m.nodes.length;rw[TO]at this;exact⟨this.1,this.2⟩
 have hN:SlR NoP (max k d) .nil m.nodes b:=hN;have r2:rows.length=m.nodes.length:=r2;have r3:∀(i:Nat) (x:Mech),m.nodes[i]?=some x->∃row,rows[i]?=some row/\Rp.rp NoP (max k d) .nil x row:=r3;have r4:0<m.nodes.length->rR b=true:=r4;have hR:SlR NoP (max k d) .nil m.roots a:=hR;rw[si];refine eR vv (xs:=[.agg [.int .i64 m.grain,a,b,.int .i64 (S.Q8 m)],.int .i64 c]) (by simp only[aK,e,fg 0]) (by simp[ju]) hd ?_;simp only[ju,sx,sy,SO.run,↓reduceIte,Nat.reduceEqDiff,Nat.reduceAdd];generalize hg0:(G.empty.new (We 4 [[AV.int IntKind.i64 m.grain,a,b,AV.int IntKind.i64 (S.Q8 m)]]))=g0;have f0:g0.h.get 0=We 4 [[.int .i64 m.grain,a,b,.int .i64 (S.Q8 m)]]:=by rw[<-hg0];simp[sx]
 have f1:1<=g0.nx:=by rw[<-hg0];simp[sx]
 clear hg0;simp only[mg,sx,sy,SO.run,↓reduceIte,Nat.reduceEqDiff,f0];refine aq (m:=c) (by omega) (λj t df g=>df=[]/\St t [(1,.int .i64 c),(2,.hptr 0 0 0 0),(5,.int .i64 (S.Q8 m*S.RQ m ^ j))]/\g.h.get 0=We 4 [[.int .i64 m.grain,a,b,.int .i64 (S.Q8 m)]]/\1<=g.nx)
  ⟨rfl,by simp[St,sx],f0,f1⟩ (by simp[sx]) (by simp[sx]) (by decide) (by rintro j t df g v s (rfl|rfl|rfl)<;>simp[St,sx]) ?_ ?_
 ·rintro j t df g hj ⟨rfl,⟨h1,h2,h5,-⟩,hg,hnx⟩ h11 h10;have pj:1<=S.RQ m ^ j/\S.RQ m ^ j<=1024:=by
   have:j=0\/j=1:=by omega
   rcases this with rfl|rfl
   ·simp
   ·rw[Vr,Int.pow_zero,VA];exact hcd
  have hb:=Uk hh.2 pj.2 (by omega) (by decide);have hb1:=Uk hh.1 pj.1 (by decide) (by omega);simp only[sx,sy,SO.run,↓reduceIte,h2,hg,hN.len];refine aq (m:=m.nodes.length) (by have:=hs.nodes;omega) (λi t df g=>df=[]/\St t [(1,.int .i64 c),(2,.hptr 0 0 0 0),(10,.int .i64 c),(11,.int .i64 j),(15,b),(5,.int .i64 (S.Q8 m*S.RQ m ^ j*S.Q5 ((m.nodes.take i).map (·.card))))]/\g.h.get 0=We 4 [[.int .i64 m.grain,a,b,.int .i64 (S.Q8 m)]]/\1<=g.nx)
   ⟨rfl,by simp[St,sx,h1,h2,h5,h10,h11,S.Q5],hg,hnx⟩ (by simp[sx]) (by simp[sx]) (by decide) (by rintro j t df g v s (rfl|rfl|rfl)<;>simp[St,sx]) ?_ ?_
  ·rintro i t df g hi ⟨rfl,⟨h1,h2,h10,h11,h15,h5,-⟩,hg,hnx⟩ h17 h16;obtain⟨x,hx,htk,hm⟩:=af hi;obtain⟨row,q1,q2⟩:=r3 i x hx;obtain⟨fa,fb,fc,rfl,hfa,hfb,hfc⟩:=dG.1 q2;have hlt:i<rows.length:=by omega
   have hry:=r4 (by omega);have hne:¬(0=g.nx):=by omega
   have b1:=n0 hs i;have b2:=hs.card x hm;have b3:=Uk hb b1.2 (by omega) (by decide);have b4:=Uk b3 b2.2 (by omega) (by decide);have b5:=Ur (Ur (show 0<=S.Q8 m*S.RQ m ^ j by omega) (show 0<=S.Q5 ((m.nodes.take i).map (·.card)) by omega)) (show 0<=x.card by omega);simp only[sx,sy,SO.run,↓reduceIte,Nat.reduceEqDiff,Nat.reduceAdd,Nat.reduceLeDiff,h1,h2,h5,h10,h11,h15,h16,h17,hg,r1,hlt,q1,hne,Tx,Tq,St,
    au (show -9223372036854775808<=S.Q8 m*S.RQ m ^ j*S.Q5 ((m.nodes.take i).map (·.card))*x.card by omega) (show S.Q8 m*S.RQ m ^ j*S.Q5 ((m.nodes.take i).map (·.card))*x.card<9223372036854775808 by omega)]
   rw[htk,Ub,UA,cU,UK _ (S.Q5 _)]
  ·rintro t df g ⟨rfl,⟨h1,h2,h10,h11,h15,h5,-⟩,hg,hnx⟩;rw[TO]at h5;simp only[sx,sy,↓reduceIte,St,h1,h2,h5,h10,h11,hg];refine⟨?_,hnx⟩;rw[Vr,UK];rfl
 ·rintro t df g ⟨rfl,⟨h1,h2,h5,-⟩,hg,hnx⟩;have e1:=hs.nodes;have e2:=hs.roots;have e3:(c:Int)*(m.nodes.length:Int)<=2*5:=Uk (by omega) (by omega) (by omega) (by decide);have e4:=Ur (show (0:Int)<=c by omega) (show (0:Int)<=m.nodes.length by omega);simp only[lf,sx,sy,SO.run,↓reduceIte,Nat.reduceEqDiff,h1,h2,hg,hR.len,hN.len,
   au (show -9223372036854775808<=(c:Int)*(m.nodes.length:Int) by omega) (show (c:Int)*(m.nodes.length:Int)<9223372036854775808 by omega),
   au (show -9223372036854775808<=(m.roots.length:Int)+(c:Int)*(m.nodes.length:Int) by omega) (show (m.roots.length:Int)+(c:Int)*(m.nodes.length:Int)<9223372036854775808 by omega)]
  refine aR (λhb=>?_) (λhb=>?_)
  ·simp only[sx,SO.run,↓reduceIte,Nat.reduceEqDiff,hb,h5];rw[S.RG,hb,Up]
  ·simp only[sx,SO.run,↓reduceIte,Nat.reduceEqDiff,hb];rw[S.RG,hb,VR]
def S.RU(w:List Int):Node:=⟨w.length,[],[w]⟩
theorem Gy{d k:Nat}{g:G}{x:KnownM}{v:AV}{K:AV->G->Prop}{D:ADf->Prop}(hm:Agg x NoP k g.h v)(hn:x.m.roots.length<=8)(hl:∀r∈x.m.roots,r.length<=4)
  (kk:∀w g',OwnT g' (g.nx+1) 0 w (x.m.roots.map S.RU)->FrW g.nx g g'->K (.agg [.int .i64 x.m.grain,w]) g'):(an C0 d N.Sb [v] g).sat K g D:=by
 obtain⟨cs,rfl,hcs⟩:=hm;obtain⟨a,b,rfl,hR,hN⟩:=dF.1 hcs;obtain⟨rows,r1,r2,r3,r4⟩:=hR.all;have r1:∀h',ac h' 1 a=some rows:=r1;rw[rL];refine mD uw (by simp[g_]) ?_;simp only[g_,sx,sy,SO.run,↓reduceIte,Nat.reduceAdd];obtain⟨q,hq⟩:∃q,q=g.nx:=⟨_,rfl⟩;generalize hg0:(g.new (We 4 [[AV.int IntKind.i64 x.m.grain,a,b,AV.int IntKind.i64 x.hidden]])).new (We 2 [[AV.int IntKind.i64 0,AV.nils]])=g0;have f0:g0.h.get q=We 4 [[.int .i64 x.m.grain,a,b,.int .i64 x.hidden]]:=by rw[<-hg0,hq];simp[sx,Q_]
 have f1:g0.h.get (q+1)=We 2 [[.int .i64 0,.nils]]:=by rw[<-hg0,hq];simp[sx]
 have f2:g0.nx=q+2:=by rw[<-hg0,hq];simp[sx]
 have f3:FrW q g g0:=by rw[<-hg0,hq];exact (FrW.new _ (Tp _)).trans (FrW.new _ (by simp))
 clear hg0;simp only[<-hq];have ne1:¬(q=q+2):=by omega
 have ne2:¬(q+1=q+2):=by omega
 simp only[lj,sx,sy,SO.run,↓reduceIte,Nat.reduceEqDiff,Nat.reduceAdd,Nat.reduceLeDiff,f0,f2,hR.len,ne1];refine aq (m:=x.m.roots.length) (by omega) (λj t df g'=>df=[]/\St t [(2,.hptr (q+1) 0 0 0),(3,.hptr (q+2) 0 0 0),(13,a)]/\g'.h.get (q+1)=We 2 [[.int .i64 0,.nils]]/\q+3<=g'.nx/\FrW q g g' /\
   ∃w,g'.h.get (q+2)=We 2 [[.int .i64 x.m.grain,w]]/\OwnT g' (q+3) 0 w ((x.m.roots.take j).map S.RU))
  ⟨rfl,by simp[St,sx],by simp[Q_,f1],by simp;omega,(f3.trans (FrW.new _ (by omega))).trans (FrW.put _ _ (by omega)),.nils,by simp[Q_],OwnT.nils⟩ (by simp[sx]) (by simp[sx]) (by decide) (by rintro j t df g v s (rfl|rfl|rfl)<;>simp[St,sx]) ?_ ?_
 ·rintro j t df g1 hj ⟨rfl,⟨h2,h3,h13,-⟩,e1,hnx,hfr,w,e2,hw⟩ h15 h14;obtain⟨ws,hx,htk,hm⟩:=af hj;obtain⟨row,q1,q2⟩:=r3 j ws hx;obtain⟨u,rfl,hu⟩:=f6.1 q2;have hlt:j<rows.length:=by omega
  simp only[sx,sy,SO.run,↓reduceIte,Nat.reduceEqDiff,h13,h15,r1,hlt,q1,Tx,Tq];have hwl:=hl ws hm;refine aT (b:=q+3) (rows:=[]) (new:=ws.map ci) (.inr ⟨g1.nx,0,false,hnx,by simp,rfl,by simp[aU]⟩) (by simpa using (hu.tree (h':=(g1.new (We 1 [])).h) (Tp _)).ints) (by simp;omega) (by simp[aQ];omega) λv2 g2 hv2 n2 fr2 vid2 lg2=>?_;simp only[G.new_nx,G.new_h,G.new_lg,TL]at hv2 n2 fr2 vid2 lg2;have hvid:∀i,vid v2=some i->g1.nx<=i/\i<g2.nx:=λi hi=>⟨by
   rcases vid2 with h|⟨j,h,hj⟩
   ·rw[h]at hi;injection hi with hi;omega
   ·rw[h]at hi;injection hi with hi;omega,(hv2.lt hi).2⟩
  have fw1:FrW q g1 g2:=(FrW.new _ (by omega)).trans (Q9 (v:=.hsl g1.nx 0 0 0 none) (λi hi=>by injection hi with hi;omega) (by simp;omega) (by simp;exact n2) (by simpa using fr2) (λi hi=>by rcases lg2 i hi with h|h;exact .inl (by simpa using h);exact .inr (by omega)));have e2':g2.h.get (q+2)=We 2 [[.int .i64 x.m.grain,w]]:=by rw[fr2 (q+2) (by omega) (by simp[vid];omega),ah _ _ _ (by omega),e2]
  have e1':g2.h.get (q+1)=We 2 [[.int .i64 0,.nils]]:=by rw[fr2 (q+1) (by omega) (by simp[vid];omega),ah _ _ _ (by omega),e1]
  have hw2:OwnT g2 (q+3) 0 w ((x.m.roots.take j).map S.RU):=hw.fr (by omega) λi hi hi2=>by rw[fr2 i (by omega) (by simp[vid];omega),ah _ _ _ (by omega)]
  have hv2l:∀g,dm .slice v2 g=.val (.int .i64 (ws.length:Int)):=λg=>by rw[bQ hv2.rows,Tz]
  simp only[sx,sy,SO.run,↓reduceIte,Nat.reduceEqDiff,Nat.reduceAdd,Nat.reduceLeDiff,h3,e2',hv2l,hv2.cell.1,hv2.cell.2];have nn:∀i,q+2≠g2.nx+i:=λi=>by omega
  refine yu (α:=Node) (b:=q+3) (k:=0) (l:=(x.m.roots.take j).map S.RU) (y:=S.RU ws) (cs:=[.int .i64 ws.length,.hsl g2.nx 0 0 0 none,.hsl (g2.nx+1) 0 0 1 none]) ?_ (by simp[sy,Rp.sz]) ?_ (by simp;omega) (by simp[aQ];omega) λv3 g3 hv3 n3 fr3 vid3 lg3=>?_
  ·exact ((hw2.step (Fr.new _ _)).step (Fr.new _ _)).step (Fr.new _ _)
  ·have els:∀i,g1.nx<=i->i<g2.nx+3->Els (((g2.new (We 1 [])).new (We 1 [[v2]])).new (We 3 [[.int .i64 ws.length,.hsl g2.nx 0 0 0 none,.hsl (g2.nx+1) 0 0 1 none]])) (q+3) w i:=λi hi hi2 =>
    ⟨by omega,by simp;omega,λe=>by have:=(hw.lt e).2;omega⟩
   refine fm.2 ⟨_,_,rfl,⟨by simp[S.RU],els _ (by omega) (by omega),[],by simp[sy,Rp.sz,show ¬(g2.nx=g2.nx+1+1) by omega],trivial⟩,⟨by simp[S.RU],els _ (by omega) (by omega),[[v2]],by simp[sy,Rp.sz],⟨v2,rfl,?_⟩,trivial⟩⟩;exact Own.sl (α:=Int) (((hv2.step (Fr.new _ _)).step (Fr.new _ _)).step (Fr.new _ _)) hu.1 (Q5 (λa=>aB.2 rfl) ws) λi hi=>els i (hvid i hi).1 (by have:=(hvid i hi).2;omega)
  ·simp only[G.new_nx,G.new_h,G.new_lg]at n3 fr3 lg3;have g3e:∀i,i<g2.nx->vid w≠some i->g3.h.get i=g2.h.get i:=λi hi hne=>by rw[fr3 i (by omega) hne,ah _ _ _ (by omega),ah _ _ _ (by omega),ah _ _ _ (by omega)]
   have vw:∀i,vid w=some i->q+3<=i:=λi hi=>(hw.lt hi).1;have e2'':g3.h.get (q+2)=We 2 [[.int .i64 x.m.grain,w]]:=by rw[g3e _ (by omega) (λe=>by have:=vw _ e;omega),e2']
   have e1'':g3.h.get (q+1)=We 2 [[.int .i64 0,.nils]]:=by rw[g3e _ (by omega) (λe=>by have:=vw _ e;omega),e1']
   have fw3:FrW q g2 g3:=((((FrW.new _ (by omega)).trans (FrW.new _ (by simp;omega))).trans (FrW.new _ (by simp;omega)))).trans (Q9 (v:=w) (λi hi=>by have:=vw i hi;omega) (by simp;omega) (by simpa using n3) (by simpa using fr3) (λi hi=>by rcases lg3 i hi with h|h;exact .inl (by simpa using h);exact .inr (by omega)));simp only[sx,sy,SO.run,↓reduceIte,Nat.reduceEqDiff,Nat.reduceAdd,Nat.reduceLeDiff,h2,h3,h13,h14,h15,e2'',e1'',hv3.cell.1,hv3.cell.2,St,ne2];refine⟨by omega,(hfr.trans fw1).trans (fw3.trans (FrW.put _ _ (by omega))),v3,rfl,?_⟩;rw[htk,Ub,UA];exact hv3.fr (by simp) λi hi _=>by rw[G.put_h,ah _ _ _ (by omega)]
 ·rintro t df g1 ⟨rfl,⟨h2,h3,h13,-⟩,e1,hnx,hfr,w,e2,hw⟩;rw[TO]at hw;simp only[jL,sx,sy,SO.run,↓reduceIte,Nat.reduceEqDiff,Nat.reduceAdd,Nat.reduceLeDiff,h2,h3,e2,e1];refine kk w _ ?_ ?_
  ·exact (hw.fr (by simp) λi hi _=>by rw[G.put_h,ah _ _ _ (by omega)]).base (by omega)
  ·rw[<-hq];exact hfr.trans (FrW.put _ _ (by omega))
end
end Hx
end
section
namespace Hx
open Go
theorem tD{l:List Int}{n:Nat}(hn:n<=64)(h:∀x∈l,0<=x/\x<n)(v:Nat):(S.Re l).testBit v=l.contains (v:Int):=by
 have:∀(l:List Int) (s:Nat),(∀x∈l,0<=x/\x<n)->(l.foldl (λs x=>s ||| S.RN x.toNat) s).testBit v=(s.testBit v || l.contains (v:Int)):=by
  intro l
  induction l with
  |nil=>intro s _;simp
  | cons a l ih =>
   intro s h;obtain⟨h1,h2⟩:=h a (by simp);rw[VI,ih _ (λx hx=>h x (by simp[hx])),gR,mV (by omega)];rw[VH];simp only[Uo,TA,List.contains_cons,beq_iff_eq];constructor
   ·rintro ((h|h)|h)
    ·exact .inl h
    ·exact .inr (.inl (by omega))
    ·exact .inr (.inr h)
   ·rintro (h|h|h)
    ·exact .inl (.inl h)
    ·exact .inl (.inr (by omega))
    ·exact .inr h
 have:=this l 0 h;rw[Nat.zero_testBit,Bool.false_or]at this;exact this
theorem Kl{l:List Int}{n:Nat}(hn:n<=64)(h:∀x∈l,0<=x/\x<n):S.Re l<2 ^ n:=by apply Nat.lt_pow_two_of_testBit;intro v hv;rw[tD hn h];rw[<-UG,U7];intro hm;have:=(h _ hm).2;omega
theorem yw(m:Causal):S.Q_ m=S.S7 m:=by
 have h0:∀{b c:Bool},(b=true->c=true)->(c=true->b=true)->b=c:=λh h'=>by rename_i b c;cases b<;>cases c<;>simp_all
 have hpl:(S.Rq m).length=m.nodes.length:=by simp[S.Rq]
 have plt:m.nodes.length<=5->(∀x∈m.nodes,S.Rc x.frm m.nodes.length=true)->∀q∈S.Rq m,q<2 ^ (S.Rq m).length:=λh5 h q hq=>by obtain⟨x,hx,rfl⟩:=T4.1 hq;rw[hpl];exact Kl (by omega) (aE (h x hx))
 apply h0
 ·intro h;simp only[S.Q_,Ts,TA]at h;obtain⟨⟨⟨⟨⟨⟨⟨⟨a1,a2⟩,a3⟩,a4⟩,a5⟩,hro⟩,hc⟩,hno⟩,hac⟩:=h;simp only[S.Sq,Ts,TA]at hro;have hno':=hno;simp only[S.SB,Ts,TA]at hno;have hnode:∀x∈m.nodes,S.Rc x.frm m.nodes.length=true/\S.Rc x.noise m.roots.length=true/\(x.out.length:Int)=S.RM m x*S.RJ m x/\S.R2 0 (x.card - 1) x.out=true:=λx hx=>by obtain⟨i,hi,rfl⟩:=Ui.1 hx;have:=tF hno' (Tn hi);simp only[S.So,Ts,TA]at this;exact⟨this.1.1.1.1,this.1.1.1.2,this.1.2,this.2⟩
  have hcard:∀x∈m.nodes,1<=x.card/\x.card<=4:=λx hx=>by have:=TC.1 hc x hx;simpa using this
  simp only[S.SZ,TA]at hac;rw[<-hpl]at hac;have:=zD (by rw[hpl];exact a5) hac;simp only[S.S7,Ts,TA];refine⟨⟨⟨⟨⟨⟨⟨⟨⟨⟨a1,a2⟩,a3⟩,a4⟩,a5⟩,hro.1⟩,?_⟩,hro.2⟩,hno.2⟩,this⟩,?_⟩
  ·rw[TC];intro x hx;obtain⟨p1,p2,-,-⟩:=hnode x hx;have:=hcard x hx;simp[S.Tc,p1,p2,this]
  ·rw[TC];intro x hx;obtain⟨-,-,p3,p4⟩:=hnode x hx;simp[S.Te,p4,A6,p3]
 ·intro h;simp only[S.S7,Ts,TA]at h;obtain⟨⟨⟨⟨⟨⟨⟨⟨⟨⟨a1,a2⟩,a3⟩,a4⟩,a5⟩,hro⟩,hno⟩,hp1⟩,hp2⟩,hac⟩,hou⟩:=h;have hnode:∀x∈m.nodes,(1<=x.card/\x.card<=4)/\S.Rc x.frm m.nodes.length=true/\S.Rc x.noise m.roots.length=true:=λx hx=>by have:=TC.1 hno x hx;simp only[S.Tc,Ts,TA]at this;exact⟨this.1.1,this.1.2,this.2⟩
  have hout:∀x∈m.nodes,(x.out.length:Int)=S.RM m x*S.RJ m x/\S.R2 0 (x.card - 1) x.out=true:=λx hx=>by have:=TC.1 hou x hx;simp only[S.Te,Ts,TA,A6]at this;exact this
  have hpl2:=A4 (by rw[hpl];exact a5) (plt a5 λx hx=>(hnode x hx).2.1) hac;have hself:∀(i:Nat) (x:Mech),m.nodes[i]?=some x->x.frm.contains (i:Int)=false:=by
   intro i x hx;have hi:=(Tu.1 hx).1;have hm:=Tv hx;have h1:=kV.1 hac i (by rw[hpl];exact hi);have hpar:Par (S.Rq m) i=S.Re x.frm:=by simp[Par,S.Rq,hx]
   rw[hpar]at h1;rw[<-UG];intro hcn;rw[<-tD (n:=m.nodes.length) (by omega) (aE (hnode x hm).2.1)]at hcn;rw[um _ i hcn]at h1;cases h1
  simp only[S.Q_,Ts,TA];refine⟨⟨⟨⟨⟨⟨⟨⟨a1,a2⟩,a3⟩,a4⟩,a5⟩,?_⟩,?_⟩,?_⟩,?_⟩
  ·simp only[S.Sq,Ts,TA];exact⟨hro,hp1⟩
  ·rw[TC];intro x hx;simpa using (hnode x hx).1
  ·simp only[S.SB,Ts,TA];refine⟨?_,hp2⟩;rw[TC];intro i hi;have hi:=TK.1 hi;rw[Tn hi];have hm:=TW hi;simp only[TQ,Tq,S.So,(hnode _ hm).2.1,(hnode _ hm).2.2,hself i _ (Tn hi),(hout _ hm).1,(hout _ hm).2,T9,decide_true,Vx]
  ·simp only[S.SZ,TA];rw[<-hpl];exact hpl2
end Hx
end
section
namespace Hx
open Go
noncomputable section
theorem nJ{a b:List Nat}(h:∀i∈a,∀j∈b,i≠j):meets a b=false:=by simp only[meets,List.any_eq_false];intro i hi hc;exact h i hi i (U7.1 hc) rfl
theorem bO{x y:Foot}(hb:x.lk.big=false)(hb2:y.lk.big=false)(hs:x.lk.sr=[])(hs2:y.lk.sr=[])(h1:∀i∈x.wr,∀j∈y.wr,i≠j)(h2:∀i∈x.wr,∀j∈y.lk.rd,i≠j)(h3:∀i∈y.wr,∀j∈x.lk.rd,i≠j) :
  bE x y=true:=by
 have m1:=nJ h1;have m2:=nJ h2;have m3:=nJ h3;have m4:meets y.wr x.wr=false:=nJ λi hi j hj e=>h1 j hj i hi e.symm;have m5:∀l:List Nat,meets l []=false:=λl=>by simp[meets]
 simp only[bE,fI,d_,hb,hb2,hs,hs2,m1,m2,m3,m4,m5,fst1,Uv,T9,Vx,Wa]
 split<;>split<;>rfl
theorem lH{g:G}{b sz bytes:Nat}{zero:List AV}{k1 k2:IntKind}{n:Nat}{K:AV->G->Prop}{D:ADf->Prop}(hn:n<=aQ)(hb:n*bytes<=aQ)(hg:b<=g.nx)
  (k:∀v' g',Own g' b v' sz (List.replicate n zero)->g'.nx=g.nx+1->(∀i,i<g.nx->g'.h.get i=g.h.get i)->vid v'=some g.nx->g'.lg=g.nx::g.lg->K v' g') :
  (Ko sz bytes zero (.int k1 (n:Int)) (.int k2 (n:Int)) g).sat K g D:=by
 show (match dA aQ (.int k2 (.ofNat n)) with
  | some cn=>match dA cn (.int k1 (.ofNat n)) with
   |some ln=>aA (Nat.ble (cn*bytes) aQ) (OR.upd (.hsl g.nx 0 0 ln none) (g.new (We sz (ie cn zero)))) .fail
   |none=>.fail
  |none=>.fail).sat K g D
 simp only[dA,aa,T8,TE hn,Tp,TE hb,if_true];refine k _ _ (.inr ⟨g.nx,0,false,hg,by simp,by simp,by simp[aU,ie]⟩) (by simp) (λi hi=>?_) rfl (by simp);rw[G.new_h,ah _ _ _ (by omega)]
end
end Hx
end
