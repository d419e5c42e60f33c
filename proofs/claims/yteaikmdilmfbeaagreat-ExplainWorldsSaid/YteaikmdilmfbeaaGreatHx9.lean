/- A part of the proof: an interpreter over abstract values, shown right against the model, and what the functions of the chapter compute on it. -/
import Derived.Shelf.Lays2
import Derived.Shelf.SlGeneric
import Derived.Shelf.SlLaysF
import Derived.Test.YteaikmdilmfbeaaGreatRows
import Derived.Calls
import Derived.Shelf.Spec.SlicesInsertGrow
import Derived.Shelf.SlSortCmp.Whole1
import Derived.Test.YteaikmdilmfbeaaGreatHx8
set_option linter.unusedVariables false
set_option linter.unusedSimpArgs false
set_option linter.unnecessarySimpa false
section
namespace Go.Proofs
open Go.Shelf
def Tryz.lays21_ren:Go.Shelf.Ren:=⟨λ| 21=>160 | 27=>169 | 28=>170 | 35=>171 | 39=>172 | n=>n,λ| 22=>31 | 3=>3 | 4=>4 | 0=>0 | n=>n,λ| n=>n⟩
theorem Tryz.lays21:Go.Proofs.Lays2.n21 Tryz.prog Tryz.lays21_ren:={
 mixed:=by kernel_rfl
 f21:=Tryz.func160.trans (congrArg some (by kernel_rfl))
 f27:=Tryz.func169.trans (congrArg some (by kernel_rfl))
 f28:=Tryz.func170.trans (congrArg some (by kernel_rfl))
 f35:=Tryz.func171.trans (congrArg some (by kernel_rfl))
 f39:=Tryz.func172.trans (congrArg some (by kernel_rfl))
 t0:=Tryz.underlying0
 a0:=Tryz.isAgg0
 z0:=Tryz.sizeOf0
 v0:=Tryz.zeroValue0
 t3:=Tryz.underlying3
 a3:=Tryz.isAgg3
 z3:=Tryz.sizeOf3
 v3:=Tryz.zeroValue3
 t4:=Tryz.underlying4
 a4:=Tryz.isAgg4
 z4:=Tryz.sizeOf4
 v4:=Tryz.zeroValue4
 t22:=Tryz.underlying31
 a22:=Tryz.isAgg31
 z22:=Tryz.sizeOf31
 v22:=Tryz.zeroValue31
 i3:=by kernel_rfl }
def Tryz.sort77_ren:Go.Shelf.Ren:=⟨λ| 6=>77 | 15=>110 | 14=>109 | 28=>143 | 29=>144 | 20=>135 | 21=>136 | 22=>137 | 23=>138 | 24=>139 | 25=>140 | 26=>141 | 27=>142 | 46=>154 | 47=>155 | 48=>156 | 49=>157 | 50=>158 | 57=>166 | n=>n,λ| 22=>31 | 24=>3 | 25=>135 | 3=>3 | 39=>105 | 0=>0 | 53=>216 | 55=>185 | 4=>4 | 46=>210 | 45=>209 | 50=>195 | 5=>5 | 9=>9 | 66=>228 | 70=>232 | 76=>236 | 77=>237 | n=>n,λ| n=>n⟩
theorem Tryz.sort77:Go.Proofs.SlLaysF.n6 Tryz.prog Tryz.sort77_ren:={
 mixed:=by kernel_rfl
 f6:=⟨Tryz.f77.name,by decide,Tryz.func77.trans (congrArg some (by kernel_rfl))⟩
 f14:=⟨Tryz.f109.name,by decide,Tryz.func109.trans (congrArg some (by kernel_rfl))⟩
 f15:=Tryz.func110.trans (congrArg some (by kernel_rfl))
 f20:=⟨Tryz.f135.name,by decide,Tryz.func135.trans (congrArg some (by kernel_rfl))⟩
 f21:=⟨Tryz.f136.name,by decide,Tryz.func136.trans (congrArg some (by kernel_rfl))⟩
 f22:=⟨Tryz.f137.name,by decide,Tryz.func137.trans (congrArg some (by kernel_rfl))⟩
 f23:=⟨Tryz.f138.name,by decide,Tryz.func138.trans (congrArg some (by kernel_rfl))⟩
 f24:=⟨Tryz.f139.name,by decide,Tryz.func139.trans (congrArg some (by kernel_rfl))⟩
 f25:=⟨Tryz.f140.name,by decide,Tryz.func140.trans (congrArg some (by kernel_rfl))⟩
 f26:=⟨Tryz.f141.name,by decide,Tryz.func141.trans (congrArg some (by kernel_rfl))⟩
 f27:=⟨Tryz.f142.name,by decide,Tryz.func142.trans (congrArg some (by kernel_rfl))⟩
 f28:=Tryz.func143.trans (congrArg some (by kernel_rfl))
 f29:=Tryz.func144.trans (congrArg some (by kernel_rfl))
 f46:=⟨Tryz.f154.name,by decide,Tryz.func154.trans (congrArg some (by kernel_rfl))⟩
 f47:=Tryz.func155.trans (congrArg some (by kernel_rfl))
 f48:=Tryz.func156.trans (congrArg some (by kernel_rfl))
 f49:=⟨Tryz.f157.name,by decide,Tryz.func157.trans (congrArg some (by kernel_rfl))⟩
 f50:=⟨Tryz.f158.name,by decide,Tryz.func158.trans (congrArg some (by kernel_rfl))⟩
 f57:=⟨Tryz.f166.name,by decide,Tryz.func166.trans (congrArg some (by kernel_rfl))⟩
 t0:=Tryz.underlying0
 a0:=Tryz.isAgg0
 z0:=Tryz.sizeOf0
 v0:=Tryz.zeroValue0
 t3:=Tryz.underlying3
 a3:=Tryz.isAgg3
 z3:=Tryz.sizeOf3
 v3:=Tryz.zeroValue3
 t4:=Tryz.underlying4
 a4:=Tryz.isAgg4
 z4:=Tryz.sizeOf4
 v4:=Tryz.zeroValue4
 t5:=Tryz.underlying5
 a5:=Tryz.isAgg5
 z5:=Tryz.sizeOf5
 v5:=Tryz.zeroValue5
 t9:=Tryz.underlying9
 a9:=Tryz.isAgg9
 z9:=Tryz.sizeOf9
 v9:=Tryz.zeroValue9
 t22:=Tryz.underlying31
 a22:=Tryz.isAgg31
 z22:=Tryz.sizeOf31
 v22:=Tryz.zeroValue31
 a24:=Tryz.isAgg3
 z24:=Tryz.sizeOf3
 t25:=Tryz.underlying135
 a25:=Tryz.isAgg135
 z25:=Tryz.sizeOf135
 v25:=Tryz.zeroValue135
 t39:=Tryz.underlying105
 a39:=Tryz.isAgg105
 z39:=Tryz.sizeOf105
 v39:=Tryz.zeroValue105
 t45:=Tryz.underlying209
 a45:=Tryz.isAgg209
 z45:=Tryz.sizeOf209
 v45:=Tryz.zeroValue209
 t46:=Tryz.underlying210
 a46:=Tryz.isAgg210
 z46:=Tryz.sizeOf210
 v46:=Tryz.zeroValue210
 t50:=Tryz.underlying195
 a50:=Tryz.isAgg195
 z50:=Tryz.sizeOf195
 v50:=Tryz.zeroValue195
 t53:=Tryz.underlying216
 a53:=Tryz.isAgg216
 z53:=Tryz.sizeOf216
 v53:=Tryz.zeroValue216
 t55:=Tryz.underlying185
 a55:=Tryz.isAgg185
 z55:=Tryz.sizeOf185
 v55:=Tryz.zeroValue185
 t66:=Tryz.underlying228
 a66:=Tryz.isAgg228
 z66:=Tryz.sizeOf228
 v66:=Tryz.zeroValue228
 t70:=Tryz.underlying232
 a70:=Tryz.isAgg232
 z70:=Tryz.sizeOf232
 v70:=Tryz.zeroValue232
 t76:=Tryz.underlying236
 a76:=Tryz.isAgg236
 z76:=Tryz.sizeOf236
 v76:=Tryz.zeroValue236
 t77:=Tryz.underlying237
 a77:=Tryz.isAgg237
 z77:=Tryz.sizeOf237
 v77:=Tryz.zeroValue237 }
end Go.Proofs
end
section
namespace Hx
open Go
section
variable {C:Cfg}{A:Nat->Nat->Prop}{bd:Nat}{w w':World}{γ γ':Gm}{hg:Nat->AObj}{nx:Nat}
theorem F3 {g:G}{id:Nat}{ob:AObj}(r:Rel C A bd w' γ' (upd hg id ob) nx)(s:Stp w γ w' γ'):Fin C A bd w γ hg nx g w' γ' (upd hg id ob) (g.put id ob) :=
 ⟨r.up (Nat.le_max_left _ _),s,[id],by simp,λk hk=>by simp at hk;subst hk;simp[G.put_h,H.get_put],λk hk=>by
  rw[bN];simpa using hk⟩
theorem Lp {g:G}{ob:AObj}(r:Rel C A bd w' γ' (upd hg g.nx ob) (Nat.max nx (g.nx+1)))(s:Stp w γ w' γ'):Fin C A bd w γ hg nx g w' γ' (upd hg g.nx ob) (g.new ob) :=
 ⟨r.up (by simp),s,[g.nx],by simp,λk hk=>by simp at hk;subst hk;simp[G.new_h,H.get_put],λk hk=>by
  rw[bN];simpa using hk⟩
theorem Dg (hr:Rel C A bd w γ hg nx){id ep:Nat}{rows:List (List AV)}{lo fz:Bool}(hid:hg id=.cells 1 rows ep lo fz) :
  ∃(c:Array Value) (e:TypeId) (l:List Value),w.heap[(γ id).blk]?=some (.cells c e (0,0))/\(γ id).base+(rows.length+(γ id).slack)<=c.size/\l.length=rows.length/\(∀j,j<rows.length->l[j]?=c[(γ id).base+j]?) /\
   (∀v∈l,v.oneCell'=true)/\(∀(k:Nat) row,rows[k]?=some row->row.length=1) /\
   ∀(k j:Nat) row x,rows[k]?=some row->row[j]?=some x->j=0/\x.one=true/\∃v,l[k]?=some v/\RV w γ A bd x v:=by
 have hob:=hr.obj id;rw[hid] at hob;obtain ⟨k1,k2,k3,k4,k5,k6,c,e,k7,k8,k9,k10⟩:=hob;have hget:∀j,j<rows.length->((c.toList.drop (γ id).base).take rows.length)[j]?=c[(γ id).base+j]?:=λj hj=>by rw[List.getElem?_take_of_lt hj,List.getElem?_drop];simp
 refine ⟨c,e,(c.toList.drop (γ id).base).take rows.length,k7,by omega,by simp;omega,hget,λv hv=>?_,k9,λk j row x h1 h2=>?_⟩
 ·obtain ⟨k,hk⟩:=List.getElem?_of_mem hv;have hlt:k<rows.length:=by have:=(List.getElem?_eq_some_iff.1 hk).1;simp at this;omega
  rw[hget k hlt] at hk;have hrow:=List.getElem?_eq_getElem hlt;have hl1:=k9 k _ hrow;have hx:rows[k][0]?=some (rows[k][0]'(by omega)):=List.getElem?_eq_getElem _;obtain ⟨a,v',b1,b2⟩:=k10 k 0 _ _ hrow hx;rw[show (γ id).base+k*1+0=(γ id).base+k from by omega,hk] at b1;injection b1 with b1;subst b1;exact (EQ b2 a).1
 ·have hj:j=0:=by have h3:=k9 k _ h1;have:=(List.getElem?_eq_some_iff.1 h2).1;omega
  subst hj;obtain ⟨a,v',b1,b2⟩:=k10 k 0 _ _ h1 h2;refine ⟨rfl,a,v',?_,b2⟩;rw[hget k (List.getElem?_eq_some_iff.1 h1).1];rw[show (γ id).base+k*1+0=(γ id).base+k from by omega] at b1;exact b1
theorem sR {P:Program}{f:FuncId}{args:Array Value}{u:Value}(h:Calls P f args w (λx y=>x=.returned u/\y=w'))(cs:List Frame):Outs P .normal f args cs w u w':=by obtain ⟨e,w1,fr,⟨he,hw⟩,hc,hf,hl⟩:=h cs;subst he;subst hw;obtain ⟨m,d,k,fn,hfn,hres⟩:=hl;exact ⟨fr,hc,m,d,k,hf,fn,by rw[<-hf];exact hfn,hres⟩
theorem AC {P : Program} {f : FuncId} {fn : Func} (h : P.funcs[f]? = some fn) (hn : (fn.name == "runtime.NumGoroutine") = false) (hb : fn.body.isSome = true) : Enters P f := by
 intro args w;unfold callFunc;have hn : fn.name ≠ "runtime.NumGoroutine" := by simpa using hn
 cases hb':fn.body with
 | none=>rw[hb'] at hb;cases hb
 | some c=>simp[h,hn,hb']
end
end Hx
end
section
namespace Hx
open Go Go.Proofs Go.Shelf
theorem iL {w:World}{o:Obj}:(Go.World.alloc w o).heap=w.heap.push o:=rfl
theorem gu {w:World}:(Go.World.drew w).heap=w.heap:=rfl
theorem gX {b:Nat}{e:TypeId}{f:Nat×Nat}:∀(vs:List Value) (o:Nat) (w:World) (c:Array Value),w.heap[b]?=some (.cells c e f) ->
  Go.World.setCells w b o vs=World.setBlk w b (.cells (ba c o vs) e f):=by
 intro vs
 induction vs with
 | nil =>
  intro o w c h;have hb:b<w.heap.size:=by
   rcases Nat.lt_or_ge b w.heap.size with hl | hl
   ·exact hl
   ·rw[Array.getElem?_eq_none hl] at h;cases h
  have hx:w.heap[b]=.cells c e f:=by simpa [Array.getElem?_eq_getElem hb] using h
  show w=_;simp only[World.setBlk,ba];have:w.heap.setIfInBounds b (.cells c e f)=w.heap:=by
   apply Array.ext_getElem?;intro k;rw[Array.getElem?_setIfInBounds]
   by_cases hk:b=k
   ·subst hk;simp[hb,hx]
   ·rw[if_neg hk]
  rw[this]
 | cons v vs ih =>
  intro o w c h;have hb:b<w.heap.size:=by
   rcases Nat.lt_or_ge b w.heap.size with hl | hl
   ·exact hl
   ·rw[Array.getElem?_eq_none hl] at h;cases h
  show Go.World.setCells (w.setCell (adr b o) v) b (o+1) vs=_;rw[zl h,ih (o+1) _ (c.setIfInBounds o v) (by rw[aT];simp[hb]),m8]
  rfl
section
variable {P:Program}{ρ:Ren}
theorem fm {α:Type}{cs vs:List α}{i n m k:Nat}(hcl:cs.length=n)(hvl:vs.length=m)(hi:i<=n) :
  (cs.take i++(vs++cs.drop i))[k]?=if k<i then cs[k]? else if k<i+m then vs[k - i]? else cs[k - m]?:=by
 have hti:(cs.take i).length=i:=by rw[List.length_take];omega
 by_cases h1:k<i
 ·rw[if_pos h1,List.getElem?_append_left (by omega),List.getElem?_take_of_lt h1]
 ·rw[if_neg h1,List.getElem?_append_right (by omega),hti]
  by_cases h2:k<i+m
  ·rw[if_pos h2,List.getElem?_append_left (by omega)]
  ·rw[if_neg h2,List.getElem?_append_right (by omega),List.getElem?_drop,hvl];congr 1;omega
def Ins (P:Program)(f:FuncId)(args:Array Value)(w:World)(b n m:Nat)(rowV:List Value):Prop :=
 ∃b' o' cap' c' e' w',Calls P f args w (λx y=>x=.returned (.slice (some (adr b' o')) (n+m) cap')/\y=w')/\n+m<=cap'/\cap'<=9223372036854775807 /\
  (w'.os=w.os/\w'.tape=w.tape/\w'.output=w.output/\w.heap.size<=w'.heap.size/\w.drawn<=w'.drawn)/\(b'=b\/(b'=w.heap.size/\w.heap.size<w'.heap.size)) /\
  (∀k,k<w.heap.size->k≠b->w'.heap[k]?=w.heap[k]?)/\w'.heap[b']?=some (.cells c' e' (0,0))/\o'+cap'<=c'.size /\
  ∀k,k<n+m->c'[o'+k]?=rowV[k]?
theorem EE (L:Lays2.n21 P ρ){w:World}{b off n c i vb voff m vc:Nat}{cc cv:Array Value}{e e2:TypeId}{cs vs:List Value}
  (hb:w.heap[b]?=some (.cells cc e (0,0))) (hv:w.heap[vb]?=some (.cells cv e2 (0,0))) (hne:vb≠b) (hin:i<=n) (hm:0<m) (hnc:n<=c)
  (hc63:c<=9223372036854775807) (hbig:(n+m)*8<=140737488355328) (hcc:off+c<=cc.size) (hcv:voff+m<=cv.size) (hn0:0<c)
  (hcl:cs.length=n) (hvl:vs.length=m) (hcs:∀j,j<n->cs[j]?=cc[off+j]?) (hvs:∀j,j<m->vs[j]?=cv[voff+j]?)
  (h1c:∀v∈cs,v.oneCell'=true) (h1v:∀v∈vs,v.oneCell'=true) :
  Ins P (ρ.f 21) #[.slice (some (adr b off)) n c,.int .i64 i,.slice (some (adr vb voff)) m vc] w b n m (cs.take i++(vs++cs.drop i)):=by
 have hbw:b<w.heap.size:=by
  rcases Nat.lt_or_ge b w.heap.size with hl | hl
  ·exact hl
  ·rw[Array.getElem?_eq_none hl] at hb;cases hb
 have hcs':∀j v,cs[j]?=some v->w.cell? (adr b (off+j))=some v:=λj v hj=>by rw[j_ hb,<-hcs j (by rw[<-hcl];exact (List.getElem?_eq_some_iff.1 hj).1)];exact hj
 have hvs':∀j v,vs[j]?=some v->w.cell? (adr vb (voff+j))=some v:=λj v hj=>by rw[j_ hv,<-hvs j (by rw[<-hvl];exact (List.getElem?_eq_some_iff.1 hj).1)];exact hj
 have hsp:∀j,j<c->(w.cell? (adr b (off+j))).isSome=true:=λj hj=>by rw[j_ hb,Array.getElem?_eq_getElem (by omega)];rfl
 have hfz:∀j,w.frozen? (adr b j)=false:=λj=>by simp[World.frozen?,adr,hb]
 have hfv:∀j,w.frozen? (adr vb j)=false:=λj=>by simp[World.frozen?,adr,hv]
 have hdl:(cs.drop i).length=n - i:=by rw[List.length_drop,hcl]
 have htl:(cs.take i).length=i:=by rw[List.length_take];omega
 by_cases hroom:n+m<=c
 ·by_cases hlt:i<n
  ·
   have h:=Any2.slices_Insert_int_shift L b off n c i vb voff m vc cs vs w hlt hm hroom hc63 hne hcl hvl hcs' (λj hj=>hsp j (by omega)) (λj _=>hfz _) hvs' h1c h1v
    e2 e cv.size cc.size (by simp[World.shape?,hv]) (by simp[World.shape?,hb]) (by omega) (hfv _) (hfv _)
   have hb':w.drew.heap[b]?=some (.cells cc e (0,0)):=hb;rw[gX (cs.drop i) (off+(i+m)) w.drew cc hb'] at h;rw[gX vs (off+i) (World.setBlk w.drew b _) _ (by rw[aT,if_pos ⟨rfl,hbw⟩]),m8] at h;refine ⟨b,off,c,_,e,_,h,hroom,hc63,⟨rfl,rfl,rfl,by simp[gu],by first | exact Nat.le_refl _ | exact Nat.le_succ _ | exact Nat.le_succ_of_le (Nat.le_succ _)⟩,.inl rfl,λk _ hk=>?_,by rw[aT,if_pos ⟨rfl,hbw⟩],by simp[bA];omega,λk hk=>?_⟩
   ·rw[aT,if_neg (λh=>hk h.1)];rfl
   ·rw[fm hcl hvl hin,bJ _ _ _ _ (by rw[bA];omega),bJ _ _ _ _ (by omega),hdl,hvl]
    by_cases h1:k<i
    ·rw[if_neg (by omega),if_neg (by omega),if_pos h1,hcs k (by omega)]
    ·rw[if_neg h1]
     by_cases h2:k<i+m
     ·rw[if_pos (by omega),if_pos h2];congr 1;omega
     ·rw[if_neg (by omega),if_pos (by omega),if_neg h2,List.getElem?_drop];congr 1;omega
  ·
   have hi:i=n:=by omega
   subst hi;have h:=Any2.slices_Insert_int_end_room L b off i c vb voff m vc vs w hm hroom hc63 hvl (λj hj=>by rw[Nat.add_assoc];exact hsp _ (by omega)) (λj _=>hfz _) hvs' h1v;rw[gX vs (off+i) w cc hb] at h;refine ⟨b,off,c,_,e,_,h,hroom,hc63,⟨rfl,rfl,rfl,by simp,by first | exact Nat.le_refl _ | exact Nat.le_succ _ | exact Nat.le_succ_of_le (Nat.le_succ _)⟩,.inl rfl,λk _ hk=>?_,by rw[aT,if_pos ⟨rfl,hbw⟩],by simp[bA];omega,λk hk=>?_⟩
   ·rw[aT,if_neg (λh=>hk h.1)]
   ·rw[fm hcl hvl hin,bJ _ _ _ _ (by omega),hvl]
    by_cases h1:k<i
    ·rw[if_neg (by omega),if_pos h1,hcs k (by omega)]
    ·rw[if_pos (by omega),if_neg h1,if_pos (by omega)];congr 1;omega
 ·have hgc:=grownCap_ge w (n+m) c (ρ.t 3);have hgm:grownCap w (n+m) c (ρ.t 3)<=9223372036854775807:=by have:=grownCap_le_maxLen w (n+m) c (ρ.t 3) (by unfold maxLen;omega);unfold maxLen at this;omega
  by_cases hlt:i<n
  ·
   have h:=Any2.slices_Insert_int_grow L b off n c i vb voff m vc cs vs w hlt hm hnc (by omega) hbig hcl hvl hcs' hvs' h1c h1v;obtain ⟨G,hG⟩:∃G,G=grownCap w (n+m) c (ρ.t 3):=⟨_,rfl⟩;rw[<-hG] at h hgc hgm;obtain ⟨ROW,hROW⟩:∃ROW:Array Value,ROW=(cs.take i).toArray++Builtin.zeroCells (Value.int .i64 0).cells (n+m - i)++Builtin.zeroCells (Value.int .i64 0).cells (G - (n+m)):=⟨_,rfl⟩;rw[<-hROW] at h;have hsz:ROW.size=G:=by rw[hROW];simp[Builtin.zeroCells,Value.cells];omega
   have hpre:∀k,k<i->ROW[k]?=cs[k]?:=λk hk=>by rw[hROW,Array.append_assoc,Array.getElem?_append_left (by simp;omega)];simp[List.getElem?_take,hk]
   have h0:(w.alloc (.cells ROW (ρ.t 3))).drew.heap[w.heap.size]?=some (.cells ROW (ρ.t 3) (0,0)):=by simp[iL,gu]
   rw[gX vs i _ ROW h0] at h;rw[gX (cs.drop i) (i+m) _ (ba ROW i vs) (e:=ρ.t 3) (f:=(0,0)) (by
    show (World.setBlk _ _ _).heap[_]?=_;rw[aT,if_pos ⟨rfl,by simp[iL,gu]⟩])] at h
   refine ⟨w.heap.size,0,G,ba (ba ROW i vs) (i+m) (cs.drop i),ρ.t 3,_,h,hgc,hgm,⟨rfl,rfl,rfl,by simp[iL,gu],by first | exact Nat.le_refl _ | exact Nat.le_succ _ | exact Nat.le_succ_of_le (Nat.le_succ _)⟩,.inr ⟨rfl,by simp[iL,gu]⟩,λk hk _=>?_,?_,by simp[bA,hsz],λk hk=>?_⟩
   ·rw[aT,if_neg (by omega)];show (World.setBlk _ _ _).heap[_]?=_;rw[aT,if_neg (by omega)];simp[iL,gu,Array.getElem?_push,show k≠w.heap.size from by omega]
   ·rw[aT,if_pos ⟨rfl,by simp[iL,gu]⟩]
   ·rw[fm hcl hvl hin,Nat.zero_add,bJ _ _ _ _ (by rw[bA];omega),bJ _ _ _ _ (by omega),hdl,hvl]
    by_cases h1:k<i
    ·rw[if_neg (by omega),if_neg (by omega),if_pos h1,hpre k h1]
    ·rw[if_neg h1]
     by_cases h2:k<i+m
     ·rw[if_neg (by omega),if_pos (by omega),if_pos h2]
     ·rw[if_pos (by omega),if_neg h2,List.getElem?_drop];congr 1;omega
  ·have hi:i=n:=by omega
   subst hi;have h:=Any2.slices_Insert_int_end_grow L (some (adr b off)) i c vb voff m vc cs vs w hm hnc (by omega) hbig hcl hvl (λh=>by cases h)
    (λa ha j v hj=>by injection ha with ha;subst ha;rw[eC];exact hcs' j v hj) hvs' h1v
   obtain ⟨G,hG⟩:∃G,G=grownCap w (i+m) c (ρ.t 3):=⟨_,rfl⟩;rw[<-hG] at h hgc hgm;refine ⟨w.heap.size,0,G,_,ρ.t 3,_,h,hgc,hgm,⟨rfl,rfl,rfl,by simp[iL,gu],by first | exact Nat.le_refl _ | exact Nat.le_succ _ | exact Nat.le_succ_of_le (Nat.le_succ _)⟩,.inr ⟨rfl,by simp[iL,gu]⟩,λk hk _=>?_,by simp[iL,gu];rfl,?_,λk hk=>?_⟩
   ·simp[iL,gu,Array.getElem?_push,show k≠w.heap.size from by omega]
   ·simp[Builtin.zeroCells,Value.cells];omega
   ·rw[Nat.zero_add,Array.getElem?_append_left (by simp;omega)];have:cs.take i++(vs++cs.drop i)=cs++vs:=by rw[<-hcl,List.take_length,List.drop_length,List.append_nil]
    rw[this];simp
theorem EF (L:Lays2.n21 P ρ){w:World}{base:Option Addr}{vb voff m vc:Nat}{vs:List Value}(hm:0<m)(hbig:m*8<=140737488355328)(hvl:vs.length=m)
  (hvs:∀j v,vs[j]?=some v->w.cell? (adr vb (voff+j))=some v) (h1v:∀v∈vs,v.oneCell'=true) :
  ∃cap rest,m<=cap/\cap<=9223372036854775807/\rest.size=cap - m /\
  Calls P (ρ.f 21) #[.slice base 0 0,.int .i64 0,.slice (some (adr vb voff)) m vc] w (λx y=>x=.returned (.slice (some (adr w.heap.size 0)) m cap)/\y=World.add (World.drewn w) (.cells (vs.toArray++rest) (ρ.t 3) (0,0))):=by
 have hgc:=grownCap_ge w (0+m) 0 (ρ.t 3);have hgm:grownCap w (0+m) 0 (ρ.t 3)<=9223372036854775807:=by have:=grownCap_le_maxLen w (0+m) 0 (ρ.t 3) (by unfold maxLen;omega);unfold maxLen at this;omega
 have h:=Any2.slices_Insert_int_end_grow L base 0 0 vb voff m vc [] vs w hm (Nat.le_refl _) (by omega) (by omega) rfl hvl (λ_=>rfl)
  (λa ha j v hj=>by simp at hj) hvs h1v
 obtain ⟨G,hG⟩:∃G,G=grownCap w (0+m) 0 (ρ.t 3):=⟨_,rfl⟩;rw[<-hG] at h hgc hgm;rw[Nat.zero_add] at h hgc;exact ⟨G,Builtin.zeroCells (Value.int .i64 0).cells (G - m),hgc,hgm,by simp[Builtin.zeroCells,Value.cells],h⟩
end
noncomputable def vT (i:Nat)(rows:List (List AV))(g:G):OR :=
 au (Nat.beq i 0&&Nat.ble (aY rows*8) 140737488355328) (.upd (.hsl g.nx 0 0 (aY rows) none) (g.new (.cells 1 rows 0 true false))) .fail
noncomputable def Hv (id2 i:Nat)(s:AV)(vrows:List (List AV))(g:G):OR :=
 match s with
 | .nils=>vT i vrows g
 | .esl=>vT i vrows g
 | .hsl id ep off len none =>
  match g.get id with
  | .cells 1 [] ep' false _=>au ((Nat.beq ep ep'&&Nat.beq off 0)&&Nat.beq len 0) (vT i vrows g) .fail
  | .cells sz rows ep' true false =>
   au (((((((Nat.beq sz 1&&Nat.beq ep ep')&&Nat.beq off 0)&&Nat.beq len (aY rows))&&gZ (Nat.beq id id2))&&Nat.ble i len)&&Nat.ble 1 len)&&Nat.ble ((len+aY vrows)*8) 140737488355328)
    (.upd (.hsl id (ep+1) 0 (len+aY vrows) none) (g.put id (.cells 1 (eO i rows++(vrows++dZ i rows)) (ep+1) true false))) .fail
  | _=>.fail
 | _=>.fail
noncomputable def mh:Nat->List AV->G->OR:=λ_ xs g =>
 match xs with
 | [s,.int .i64 (.ofNat i),.hsl id2 ep2 off2 len2 _] =>
  match g.get id2 with
  | .cells sz2 vrows ep2' _ _ =>
   au ((((Nat.beq sz2 1&&Nat.beq ep2 ep2')&&Nat.beq off2 0)&&Nat.beq len2 (aY vrows))&&Nat.ble 1 len2) (Hv id2 i s vrows g) .fail
  | _=>.fail
 | _=>.fail
theorem rg {d:Nat}{xs:List AV}{g:G}(h:mh d xs g≠.fail):∃s i id2 ep2 len2 lim2 vrows lo fz,xs=[s,.int .i64 (Int.ofNat i),.hsl id2 ep2 0 len2 lim2] /\
  g.h.get id2=.cells 1 vrows ep2 lo fz/\len2=vrows.length/\0<vrows.length/\mh d xs g=Hv id2 i s vrows g:=by
 unfold mh at h ⊢
 split at h
 ·split at h
  ·rename_i hg;rw[aa] at h ⊢
   split at h
   ·rename_i hc;simp only[Bool.and_eq_true,aw] at hc;obtain ⟨⟨⟨⟨c1,c2⟩,c3⟩,c4⟩,c5⟩:=hc;have c1:=aD c1;have c2:=aD c2;have c3:=aD c3;have c4:=aD c4;subst c1;subst c2;subst c3;subst c4;rw[Nat.ble_eq] at c5;refine ⟨_,_,_,_,_,_,_,_,_,rfl,hg,rfl,c5,?_⟩;rw[if_pos];simp[aw];omega
   ·exact absurd rfl h
  ·exact absurd rfl h
 ·exact absurd rfl h
theorem yI {id2 i:Nat}{s:AV}{vrows:List (List AV)}{g:G}(h:Hv id2 i s vrows g≠.fail) :
  ((s=.nils\/s=.esl\/∃id ep fz,s=.hsl id ep 0 0 none/\g.h.get id=.cells 1 [] ep false fz)/\i=0/\vrows.length*8<=140737488355328/\Hv id2 i s vrows g=.upd (.hsl g.nx 0 0 vrows.length none) (g.new (.cells 1 vrows 0 true false))) \/
  ∃id ep rows,s=.hsl id ep 0 rows.length none/\g.h.get id=.cells 1 rows ep true false/\id≠id2/\i<=rows.length/\0<rows.length/\(rows.length+vrows.length)*8<=140737488355328 /\
   Hv id2 i s vrows g=.upd (.hsl id (ep+1) 0 (rows.length+vrows.length) none) (g.put id (.cells 1 (rows.take i++(vrows++rows.drop i)) (ep+1) true false)):=by
 have hnew:vT i vrows g≠.fail->i=0/\vrows.length*8<=140737488355328/\vT i vrows g=.upd (.hsl g.nx 0 0 vrows.length none) (g.new (.cells 1 vrows 0 true false)):=by
  intro h;unfold vT at h ⊢;rw[aa] at h ⊢
  split at h
  ·rename_i hc;rw[if_pos hc];simp only[Bool.and_eq_true,aw,Nat.ble_eq] at hc;exact ⟨aD hc.1,hc.2,by rw[aw]⟩
  ·exact absurd rfl h
 unfold Hv at h ⊢
 split at h
 ·exact .inl ⟨.inl rfl,hnew h⟩
 ·exact .inl ⟨.inr (.inl rfl),hnew h⟩
 ·rename_i id ep off len
  split at h
  ·rename_i ep' fz hg;rw[aa] at h
   split at h
   ·rename_i hc;have hc':=hc;simp only[Bool.and_eq_true] at hc;obtain ⟨⟨c1,c2⟩,c3⟩:=hc;have c1:=aD c1;have c2:=aD c2;have c3:=aD c3;subst c1;subst c2;subst c3;have:=hnew h;refine .inl ⟨.inr (.inr ⟨id,ep,fz,rfl,hg⟩),this.1,this.2.1,?_⟩;rw[aa,if_pos hc',this.2.2]
   ·exact absurd rfl h
  ·rename_i sz rows ep' hg;rw[aa] at h
   split at h
   ·rename_i hc;have hc':=hc;simp only[Bool.and_eq_true,aw] at hc;obtain ⟨⟨⟨⟨⟨⟨⟨c1,c2⟩,c3⟩,c4⟩,c5⟩,c6⟩,c7⟩,c8⟩:=hc;have c1:=aD c1;have c2:=aD c2;have c3:=aD c3;have c4:=aD c4;subst c1;subst c2;subst c3;subst c4;rw[Nat.ble_eq] at c6 c7 c8;refine .inr ⟨id,ep,rows,rfl,hg,λe=>?_,c6,c7,c8,?_⟩
    ·subst e;rw[notb_eq] at c5;simp at c5
    ·rw[aa,if_pos hc'];simp only[aw,bh,bg]
   ·exact absurd rfl h
  ·exact absurd rfl h
 ·exact absurd rfl h
section
variable {C:Cfg}{A:Nat->Nat->Prop}{bd:Nat}{w w':World}{γ γ':Gm}{hg:Nat->AObj}{nx:Nat}{ρ:Ren}
theorem ED (L:Lays2.n21 C.P ρ)(hent:Enters C.P (ρ.f 21)):ExtOk C (ρ.f 21) mh:=by
 refine ⟨λd xs g hwf=>?_,λd xs g y hy=>?_,λA bd w γ hg nx g xs vs hr hwf hx hf hv hne cs=>?_⟩
 ·apply Small.mon _ hwf
  by_cases h:mh d xs g=.fail
  ·rw[h];trivial
  ·obtain ⟨s,i,id2,ep2,len2,lim2,vrows,lo,fz,e1,e2,e3,e4,e5⟩:=rg h;rw[e5] at h ⊢;rcases yI h with ⟨_,_,_,h1⟩ | ⟨id,ep,rows,_,h2,_,_,_,_,h1⟩
   ·rw[h1];exact .inr ⟨_,rfl⟩
   ·rw[h1];exact .inl ⟨_,_,rfl,by rw[h2];simp⟩
 ·have h:mh d xs g≠.fail:=by rw[hy];simp
  obtain ⟨s,i,id2,ep2,len2,lim2,vrows,lo,fz,e1,e2,e3,e4,e5⟩:=rg h;rw[e5] at h hy;rcases yI h with ⟨_,_,_,h1⟩ | ⟨id,ep,rows,_,h2,_,_,_,_,h1⟩<;>(rw[h1] at hy;cases hy)
 ·obtain ⟨s,i,id2,ep2,len2,lim2,vrows,lo,fz,e1,e2,e3,e4,e5⟩:=rg hne;subst e1;subst e3;rw[e5] at hne hf ⊢;obtain ⟨v1,v2,v3,rfl⟩:∃v1 v2 v3,vs=[v1,v2,v3]:=by
   have:=hv.1
   match vs,this with
   | [a,b,c],_=>exact ⟨a,b,c,rfl⟩
  have r1:RV w γ A bd s v1:=hv.2 0 _ _ rfl rfl;have r2:RV w γ A bd (.int .i64 (Int.ofNat i)) v2:=hv.2 1 _ _ rfl rfl;have r3:RV w γ A bd (.hsl id2 ep2 0 vrows.length lim2) v3:=hv.2 2 _ _ rfl rfl;cases r2;have hid2:hg id2=.cells 1 vrows ep2 lo fz:=by rw[hx id2 (by simp[List.flatMap_cons,aA,aB]) (by rw[e2];simp),e2]
  obtain ⟨vc,hv3,hvc,_⟩:=rf hr r3 hid2;subst hv3;obtain ⟨cv,ev,lv,p1,p2,p3,p4,p5,p6,p7⟩:=Dg hr hid2;have hz:(γ id2).base+0*1=(γ id2).base:=by omega
  rw[hz] at r3 ⊢;rcases yI hne with ⟨hs,hi,hbig,h1⟩ | ⟨id,ep,rows,hs,h2,hne2,hin,hpos,hbig,h1⟩
  ·subst hi;rw[h1] at hf ⊢;have hfree:(γ g.nx).kind=0:=hf g.nx (Nat.le_refl _) (by simp[gOf]);have hbase:∃base,v1=.slice base 0 0:=by
    rcases hs with rfl | rfl | ⟨id,ep,fz2,rfl,hgid⟩
    ·cases r1;exact ⟨_,rfl⟩
    ·cases r1;exact ⟨_,rfl⟩
    ·have hid:hg id=.cells 1 [] ep false fz2:=by rw[hx id (by simp[List.flatMap_cons,aA,aB]) (by rw[hgid];simp),hgid]
     obtain ⟨c,hv1,hnc,hco⟩:=rf hr r1 hid;have hob:=hr.obj id;rw[hid] at hob;obtain ⟨-,-,-,k4,k5,-⟩:=hob;have hk:=k5.1 rfl;have hc0:c=0:=by simp only[gg] at hco;simp at k4;omega
     subst hc0;exact ⟨_,hv1⟩
   obtain ⟨base,hb⟩:=hbase;subst hb;obtain ⟨cap,rest,q1,q2,q3,q4⟩:=EF L (w:=w) (base:=base) (vb:=(γ id2).blk) (voff:=(γ id2).base) (m:=vrows.length) (vc:=vc) (vs:=lv) e4 hbig p3
    (λj v hj=>by rw[j_ p1,<-p4 j (by rw[<-p3];exact (List.getElem?_eq_some_iff.1 hj).1)];exact hj) p5
   have hrr:RowsRel w γ A bd 1 vrows (lv.toArray++rest):=by refine ⟨by simp[p3],p6,λk j row x a b=>?_⟩;obtain ⟨j0,o1,v,l1,l2⟩:=p7 k j row x a b;subst j0;refine ⟨o1,v,?_,l2⟩;have hk:=(List.getElem?_eq_some_iff.1 a).1;rw[Array.getElem?_append_left (by simp;omega)];simpa using l1
   obtain ⟨γ',s1,s2,s3⟩:=vS (e:=ρ.t 3) hr hfree hrr vrows.length cap (by simp[q3];omega) q1 rfl q2;exact ⟨_,_,γ',_,Lp s1 s2,s3,.inr ⟨hent,sR q4 cs⟩⟩
  ·subst hs;rw[h1] at hf ⊢;have hid:hg id=.cells 1 rows ep true false:=by rw[hx id (by simp[List.flatMap_cons,aA,aB]) (by rw[h2];simp),h2]
   obtain ⟨c,hv1,hnc,hco⟩:=rf hr r1 hid;subst hv1;have hob:=hr.obj id;rw[hid] at hob;obtain ⟨k1,k2,k3,k4,k5,k6,_⟩:=hob;have hob2:=hr.obj id2;rw[hid2] at hob2;obtain ⟨m1,_⟩:=hob2;have hblk:(γ id2).blk≠(γ id).blk:=λe=>hne2 (hr.inj id id2 (by rw[k1];decide) (by rw[m1];decide) e.symm);obtain ⟨cc,ec,lc,c1,c2,c3,c4,c5,c6,c7⟩:=Dg hr hid;have hcap:c=rows.length+(γ id).slack:=by simp only[gg] at hco;omega
   have hins:=EE L (w:=w) (b:=(γ id).blk) (off:=(γ id).base) (n:=rows.length) (c:=c) (i:=i) (vb:=(γ id2).blk) (voff:=(γ id2).base) (m:=vrows.length) (vc:=vc)
    c1 p1 hblk hin e4 hnc (by have:=k5.2 rfl;omega) hbig (by omega) (by omega) (by omega) c3 p3 c4 p4 c5 p5
   obtain ⟨b',o',cap',c',e',w',n1,n2,n3,n4,n5,n6,n7,n8,n9⟩:=hins
   let gh:Gh:=⟨1,ep+1,1,rows.length+vrows.length,b',o',cap' - (rows.length+vrows.length),true⟩
   have hrl:(rows.take i++(vrows++rows.drop i)).length=rows.length+vrows.length:=by simp;omega
   have hcell:∀(k:Nat) row,(rows.take i++(vrows++rows.drop i))[k]?=some row->row.length=1/\∀(j:Nat) x,row[j]?=some x->x.one=true/\∃v,c'[o'+k*1+j]?=some v/\RV w γ A bd x v:=by
    intro k row hk;have hkl:k<rows.length+vrows.length:=by rw[<-hrl];exact (List.getElem?_eq_some_iff.1 hk).1
    have hck:=n9 k hkl;rw[fm c3 p3 hin] at hck;rw[fm (n:=rows.length) (m:=vrows.length) rfl rfl hin] at hk
    split at hk
    ·rename_i h1;rw[if_pos h1] at hck;refine ⟨c6 _ _ hk,λj x hj=>?_⟩;obtain ⟨j0,o1,v,l1,l2⟩:=c7 _ j row x hk hj;subst j0;exact ⟨o1,v,by rw[show o'+k*1+0=o'+k from by omega,hck];exact l1,l2⟩
    ·rename_i h1;rw[if_neg h1] at hck
     split at hk
     ·rename_i h2;rw[if_pos h2] at hck;refine ⟨p6 _ _ hk,λj x hj=>?_⟩;obtain ⟨j0,o1,v,l1,l2⟩:=p7 _ j row x hk hj;subst j0;exact ⟨o1,v,by rw[show o'+k*1+0=o'+k from by omega,hck];exact l1,l2⟩
     ·rename_i h2;rw[if_neg h2] at hck;refine ⟨c6 _ _ hk,λj x hj=>?_⟩;obtain ⟨j0,o1,v,l1,l2⟩:=c7 _ j row x hk hj;subst j0;exact ⟨o1,v,by rw[show o'+k*1+0=o'+k from by omega,hck];exact l1,l2⟩
   obtain ⟨s1,s2⟩:=hr.moved hid (w1:=w') (gh:=gh) (rows':=rows.take i++(vrows++rows.drop i)) rfl rfl rfl (by rw[hrl]) rfl ⟨n4.1,n4.2.1,n4.2.2.1,n4.2.2.2.1⟩ n4.2.2.2.2
    (by rw[hrl];simp only[gh];omega) n5 n6 (c:=c') (e:=e') n7 (by rw[hrl];simp only[gh];omega)
    (λk row hk=>(hcell k row hk).1) (λk j row x hk hj=>(hcell k row hk).2 j x hj)
   have hz':(γ id).base+0*1=(γ id).base:=by omega
   rw[hz'];refine ⟨.slice (some (adr b' o')) (rows.length+vrows.length) cap',w',_,_,F3 s1 s2,?_,.inr ⟨hent,sR n1 cs⟩⟩;refine .hsl _ id (ep+1) 0 _ none _ _ cap' (by simp[gh]) (by simp[gh]) n2 (λ_=>⟨by simp[gh],by simp[gh],?_⟩);simp only[gg,upd_same,gh];omega
end
end Hx
end
section
namespace Hx
open Go Go.Proofs Go.Shelf Go.Sort Go.RowKit
abbrev El (L:List Int):Type:={ x:Int // x∈L }
def mB (L:List Int):El L->Value:=λx=>.int .i64 x.1
def jm (L:List Int):Array (El L):=L.attach.toArray
def eci {L:List Int}(x:El L):List AV:=[.int .i64 x.1]
theorem cp (L:List Int):(jm L).size=L.length:=by simp[jm]
def Mt (C:Cfg)(d:Nat)(g:G)(f:Nat)(cap:List AV)(L:List Int)(cf:El L->El L->Int):Prop :=
 ∀x y,af (I C) d g f (.int .i64 x.1::.int .i64 y.1::cap)=.val (.int .i64 (cf x y))
def uU (C:Cfg)(d:Nat)(g:G)(id len:Nat)(rows:List (List AV))(f:Nat)(cap:List AV)(R:List Int):Prop :=
 ∃(L:List Int) (_:Inhabited (El L)) (cf:El L->El L->Int),rows=L.map (λx=>[.int .i64 x])/\len=L.length/\L.length<4611686018427387904/\(id ∉ cap.flatMap (aA g.h aB)/\∀k∈cap.flatMap (aA g.h aB),k∈aA g.h aB (.clo f [] cap)) /\
  SWO (ltOf cf)/\Mt C d g f cap L cf/\R=(pdq (ltOf cf) (jm L) 0 L.length (Lib.bitLen L.length) true true).toList.map (·.1)
open Classical in
noncomputable def rE (C:Cfg):Nat->List AV->G->OR:=λd xs g =>
 match xs with
 | [.hsl id ep 0 len _,.clo f [] cap]=>match g.h.get id with
  | .cells 1 rows ep' lo false=>if h:ep=ep'/\∃R,uU C d g id len rows f cap R then .upd (.tup []) (g.put id (.cells 1 (h.2.choose.map λx=>[.int .i64 x]) ep lo false)) else .fail
  | _=>.fail
 | _=>.fail
theorem wg {C:Cfg}{d:Nat}{xs:List AV}{g:G}(h:rE C d xs g≠.fail):∃id ep len lim f cap rows lo R,xs=[.hsl id ep 0 len lim,.clo f [] cap]/\g.h.get id=.cells 1 rows ep lo false/\uU C d g id len rows f cap R /\
  rE C d xs g=.upd (.tup []) (g.put id (.cells 1 (R.map λx=>[.int .i64 x]) ep lo false)):=by
 unfold rE at h ⊢
 split at h
 ·rename_i id ep len lim f cap
  split at h
  ·rename_i rows ep' lo hid
   split at h
   ·rename_i hc;obtain ⟨rfl,hR⟩:=hc;refine ⟨id,ep,len,lim,f,cap,rows,lo,hR.choose,rfl,hid,hR.choose_spec,?_⟩
    first | simp only[hid] | skip
    rw[dif_pos ⟨rfl,hR⟩]
   ·exact absurd rfl h
  ·exact absurd rfl h
 ·exact absurd rfl h
section
variable {C:Cfg}{A:Nat->Nat->Prop}{bd:Nat}{w:World}{γ:Gm}{hg:Nat->AObj}{nx:Nat}
theorem BB {ih:IH}{g:G}{f:Nat}{args:List AV}{vs:List Value}{k:IntKind}{z:Int}(hc:xJ C ih)(hm:tU ih)(hr:Rel C A bd w γ hg nx)
  (hx:∀id∈args.flatMap (aA g.h aB),g.h.get id≠.none->hg id=g.h.get id)
  (hv:RVs w γ A bd args vs) (hres:af ih (bd+1) g f args=.val (.int k z)) (cs:List Frame) :
  Enters C.P f/\∃w',Stp w γ w' γ/\(∀b,b<w.heap.size->w'.heap[b]?=w.heap[b]?)/\Outs C.P .normal f vs.toArray cs w (.int k z) w':=by
 let γc:Gm:=λ_=>⟨0,0,0,0,0,0,0,false⟩
 let L:Nat->Prop:=λid=>id∈args.flatMap (aA g.h aB)
 let isC:Nat->Prop:=λid=>∃sz rows ep lo fz,g.h.get id=.cells sz rows ep lo fz
 let Ac:Nat->Nat->Prop:=λt b=>(t<=bd/\(A t b\/Mut γ b))\/(t=bd+1/\b<w.heap.size/\¬∃id,L id/\isC id/\(γ id).kind=1/\(γ id).blk=b)
 have hmutc:∀b,¬Mut γc b:=by rintro b ⟨id,h,_⟩;exact h rfl
 unfold af at hres
 split at hres
 ·cases hres
 rename_i xs0 has;have hshift:∀t b,t<=bd->b<w.heap.size->¬A t b->¬Mut γ b->¬Ac t b/\¬Mut γc b:=by
  intro t b h1 _ h2 h3;refine ⟨?_,hmutc b⟩;rintro (⟨_,h | h⟩ | ⟨h,_⟩)
  ·exact h2 h
  ·exact h3 h
  ·omega
 have hargs:RVs w γc Ac (bd+1) xs0 vs:=by
  refine ⟨by rw[jb has];exact hv.1,λi y v hy hvi=>?_⟩;obtain ⟨x,h1,h2⟩:=dL has i y hy;refine (xF (L:=L) hr hx (Nat.le_succ _) (Nat.le_refl _) hshift ?_ aB h2 (hv.2 i x v h1 hvi) λid hid=>List.mem_flatMap.2 ⟨x,List.mem_of_getElem? h1,hid⟩).1;intro id hL hcell hk t h3 h4;have ht:t=bd+1:=Nat.le_antisymm h4 h3;refine ⟨?_,hmutc _⟩;rintro (⟨h,_⟩ | ⟨_,_,h⟩)
  ·omega
  ·exact h ⟨id,hL,hcell,hk,rfl⟩
 have hrc:Rel C Ac (bd+1) w γc (λ_=>.none) 0:=by
  refine ⟨λid=>rfl,λid h=>absurd rfl h,λi j h=>absurd rfl h,λid h=>absurd rfl h,?_,λgl sz rows h=>?_⟩
  ·rintro t b (⟨_,h | ⟨id,h1,h2,h3⟩⟩ | ⟨_,h,_⟩)
   ·exact hr.ab t b h
   ·rw[<-h3];exact (hr.lt id h1).2
   ·exact h
  ·have:=hr.glob gl sz rows h;exact (jg this (rA this (.inr ⟨_,_,_,_,_,rfl⟩)) hshift).mono (Nat.le_succ _)
 split at hres
 ·cases hres
 rename_i r g' hcall;have hempty:G.empty.h.get=λ_=>AObj.none:=by funext id;simp[G.empty,H.get,Tr.get_nil]
 obtain ⟨hent,hrun⟩:=hc (bd+1) f xs0 G.empty r g' hcall;obtain ⟨u,w',γ',hg',hfin,hru,hout⟩:=hrun Ac w γc (λ_=>.none) 0 vs hrc (λid h=>by rw[hempty] at h;exact absurd rfl h) (λid _=>by rw[hempty])
  (λ_ _ _=>rfl) hargs .normal cs (.inl rfl)
 have hextc:Ext g'.h hg':=hfin.ext (hm _ _ _ _ _ _ hcall (λid _=>by rw[hempty])) (λid h=>by rw[hempty] at h;exact absurd rfl h);have hsame:∀b,b<w.heap.size->w'.heap[b]?=w.heap[b]?:=λb hb=>hfin.stp.fr b hb (hmutc b);have hstp:Stp w γ w' γ:=zq hfin.stp.sz hfin.stp.os hfin.stp.tape hfin.stp.output hfin.stp.dr hsame
 split at hres
 ·cases hres
 rename_i r' hsnap;obtain ⟨hr',hcl⟩:=xF (A':=Ac) (γ':=γc) (L:=λ_=>True) hfin.rel (λid _=>hextc id) (Nat.le_refl _) (Nat.zero_le _) (λt b _ _ h _=>⟨h,hmutc b⟩)
  (λid _ _ hk t _ _=>⟨hfin.rel.av id (by rw[hk];decide) t,hmutc _⟩) aB hsnap hru λ_ _=>trivial
 split at hres
 ·cases hres
 rw[aa] at hres
 split at hres
 ·injection hres with hres;subst hres;cases hr';exact ⟨hent,w',hstp,hsame,hout⟩
 ·split at hres
  ·cases hres
  ·split at hres
   ·cases hres
   ·rw[aa] at hres
    split at hres<;>cases hres
theorem Fo {W w':World}(h1:W.heap.size<=w'.heap.size)(h2:w'.os=W.os)(h3:w'.tape=W.tape)(h4:w'.output=W.output)(h5:W.drawn<=w'.drawn)(hs:∀b,b<W.heap.size->w'.heap[b]?=W.heap[b]?) :
  ∃q os,w'=Sort.grow (W.drewN q) os:=by
 refine ⟨w'.drawn - W.drawn,w'.heap.extract W.heap.size w'.heap.size,?_⟩;obtain ⟨hp',tp',dr',os',ou'⟩:=w';obtain ⟨hp,tp,dr,os,ou⟩:=W;dsimp only at h1 h2 h3 h4 h5 hs;subst h2;subst h3;subst h4;have e1:hp'=hp++hp'.extract hp.size hp'.size:=by
  refine Array.ext_getElem? λk=>?_;rw[Array.getElem?_append]
  split
  ·rename_i hk;exact hs k hk
  ·rename_i hk;rw[Array.getElem?_extract]
   by_cases hk2:k<hp'.size
   ·rw[if_pos (by omega)];congr 1;omega
   ·rw[if_neg (by omega),Array.getElem?_eq_none (by omega)]
 have e2:dr'=dr+(dr' - dr):=by omega
 simp only[Sort.grow,World.drewN,World.mk.injEq,true_and,and_true];exact ⟨e1,e2⟩
theorem Fd {L:List Int} [Inhabited (El L)](blk off m:Nat)(os:Array Obj)(dk:Array (El L)):(sortWorld (mB L) w blk off m dk os).heap.size=w.heap.size+os.size:=by simp[sortWorld,Sort.grow,putRow,mapBlock,Sort.ahead]
theorem HZ {L:List Int} [Inhabited (El L)]{blk off m:Nat}{os:Array Obj}{dk:Array (El L)}{b:Nat}(hb:b<w.heap.size)(hne:b≠blk):(sortWorld (mB L) w blk off m dk os).heap[b]?=w.heap[b]?:=by simp only[sortWorld,Sort.grow,putRow,mapBlock,Sort.ahead];rw[Array.getElem?_append_left (by simpa using hb),Array.getElem?_modify,if_neg (Ne.symm hne)]
theorem HY {L:List Int} [Inhabited (El L)]{blk off m:Nat}{os:Array Obj}{dk:Array (El L)}{c:Array Value}{e:TypeId}{f:Nat×Nat}(h:w.heap[blk]?=some (.cells c e f)):(sortWorld (mB L) w blk off m dk os).heap[blk]?=some (.cells (Go.Sort.putCells (mB L) off dk c) e f):=by
 have hb:blk<w.heap.size:=(Array.getElem?_eq_some_iff.1 h).1;simp only[sortWorld,Sort.grow,putRow,mapBlock,Sort.ahead];rw[Array.getElem?_append_left (by simpa using hb),Array.getElem?_modify,if_pos rfl,h]
 rfl
theorem DG (hr:Rel C A bd w γ hg nx){id ep:Nat}{rows:List (List AV)}{lo:Bool}(hid:hg id=.cells 1 rows ep lo false){L:List Int} [Inhabited (El L)](hrows:rows.length=L.length)(m:Nat)(os:Array Obj)(dk:Array (El L))(hs:dk.size=L.length) :
  Stp w γ (sortWorld (mB L) w (γ id).blk (γ id).base m dk os) γ/\Rel C A bd (sortWorld (mB L) w (γ id).blk (γ id).base m dk os) γ (upd hg id (.cells 1 (dk.toList.map eci) ep lo false)) nx:=by
 have hob:=hr.obj id;rw[hid] at hob;obtain ⟨k1,k2,k3,k4,k5,k6,c,e,k7,k8,k9,k10⟩:=hob;have hk:(γ id).kind≠0:=by rw[k1];decide
 have hw:(γ id).wr=true:=by simpa using k6
 obtain ⟨W,hW⟩:∃W,W=sortWorld (mB L) w (γ id).blk (γ id).base m dk os:=⟨_,rfl⟩;rw[<-hW];have hsz:W.heap.size=w.heap.size+os.size:=by rw[hW];exact Fd _ _ _ _ _
 have hold:∀b,b<w.heap.size->b≠(γ id).blk->W.heap[b]?=w.heap[b]?:=λb h1 h2=>by rw[hW];exact HZ h1 h2
 have hblk:W.heap[(γ id).blk]?=some (.cells (Go.Sort.putCells (mB L) (γ id).base dk c) e (0,0)):=by rw[hW];exact HY k7
 have s:Stp w γ W γ:=⟨by omega,by rw[hW];rfl,by rw[hW];rfl,by rw[hW];rfl,λb hb hm=>hold b hb λe=>hm ⟨id,hk,hw,e.symm⟩,λ_ _ h=>h,λ_ _=>.inl ⟨rfl,rfl⟩,λ_ _=>⟨Nat.le_refl _,λ_=>⟨rfl,rfl,rfl,rfl,rfl⟩⟩,by rw[hW];exact Nat.le_add_right _ _⟩;refine ⟨s,?_⟩;have e:γ=upd γ id (γ id):=by funext k;unfold upd;split<;>simp_all
 have hdl:(dk.toList.map eci).length=rows.length:=by simp[hs,hrows]
 refine hr.set (gh:=γ id) e s (Nat.le_refl _) ?_ ?_ ?_ ?_ ?_
 ·simp only[ObjRel];refine ⟨k1,k2,k3,by rw[hdl];exact k4,by rw[hdl];exact k5,k6,_,_,hblk,by rw[hdl];simpa [Go.Sort.putCells] using k8,λi row hi=>?_,λi j row x hi hj=>?_⟩
  ·rw[List.getElem?_map,Option.map_eq_some_iff] at hi;obtain ⟨y,-,rfl⟩:=hi
   rfl
  ·rw[List.getElem?_map,Option.map_eq_some_iff] at hi;obtain ⟨y,hy,rfl⟩:=hi;have hil:i<dk.size:=by have:=(List.getElem?_eq_some_iff.1 hy).1;simpa using this
   have hj0:j=0:=by have:=(List.getElem?_eq_some_iff.1 hj).1;simp[eci] at this;omega
   subst hj0;simp[eci] at hj;subst hj;refine ⟨rfl,.int .i64 y.1,?_,.int _ _ _⟩;have hcl:(γ id).base+i<c.size:=by rw[hrows] at k8;omega
   have hdi:dk[i]! = y:=by rw[getElem!_pos dk i hil];have:=(List.getElem?_eq_some_iff.1 hy).2;simpa using this
   rw[show (γ id).base+i*1+0=(γ id).base+i from by omega];simp only[Go.Sort.putCells,Array.getElem?_mapIdx,Array.getElem?_eq_getElem hcl,Option.map_some];rw[if_pos ⟨by omega,by omega⟩,show (γ id).base+i - (γ id).base=i from by omega,hdi]
   rfl
 ·have:=hr.lt id hk;exact ⟨this.1,by omega⟩
 ·intro j hj hkj eb;exact hj (hr.inj j id hkj hk eb)
 ·exact hr.av id hk
 ·intro j hj hkj _;exact hold _ (hr.lt j hkj).2 λeb=>hj (hr.inj j id hkj hk eb)
theorem Ip (hC:CfgOk C)(hr:Rel C A bd w γ hg nx){g:G}{id ep f:Nat}{rows:List (List AV)}{lo:Bool}{cap:List AV}{us:List Value}{L:List Int} [hI:Inhabited (El L)]{cf:El L->El L->Int}(hx:∀k∈cap.flatMap (aA g.h aB),g.h.get k≠.none->hg k=g.h.get k)
  (hid:hg id=.cells 1 rows ep lo false) (hrows:rows.length=L.length) (hnot:id ∉ cap.flatMap (aA g.h aB)) (hv:RVs w γ A bd cap us) (hcmp:Mt C (bd+1) g f cap L cf) :
  Enters C.P f/\CmpLays1 C.P f us.toArray (mB L) cf (γ id).blk (γ id).base L.length w:=by
 have key:∀(m:Nat) (os:Array Obj) (dk:Array (El L)),dk.size=L.length->∀x y:El L,∀cs,Enters C.P f/\∃w',Stp (sortWorld (mB L) w (γ id).blk (γ id).base m dk os) γ w' γ/\(∀b,b<(sortWorld (mB L) w (γ id).blk (γ id).base m dk os).heap.size->w'.heap[b]?=(sortWorld (mB L) w (γ id).blk (γ id).base m dk os).heap[b]?) /\
   Outs C.P .normal f (mB L x::mB L y::us).toArray cs (sortWorld (mB L) w (γ id).blk (γ id).base m dk os) (.int .i64 (cf x y)) w':=by
  intro m os dk hs x y cs;obtain ⟨hst,hrel⟩:=DG hr hid hrows m os dk hs;have h:=hcmp x y;obtain ⟨N,hN⟩:=s_ (C:=C) (d:=bd+1) (g:=g) (f:=f) (args:=.int .i64 x.1::.int .i64 y.1::cap);have hN':af (sem C N) (bd+1) g f (.int .i64 x.1::.int .i64 y.1::cap)=af (I C) (bd+1) g f (.int .i64 x.1::.int .i64 y.1::cap):=hN N (Nat.le_refl _);rw[<-hN'] at h;have hok:=vZ hC N;refine BB hok.call hok.mon.call hrel (λk hk hn=>?_) ?_ h cs
  ·have hk':k∈cap.flatMap (aA g.h aB):=by
    rw[List.flatMap_cons,List.flatMap_cons,List.mem_append,List.mem_append] at hk;rcases hk with hk | hk | hk
    ·simp[aA,aB] at hk
    ·simp[aA,aB] at hk
    ·exact hk
   rw[bN _ _ (λe=>hnot (by rw[<-e];exact hk'))];exact hx k hk' hn
  ·refine ⟨by simp[hv.1],λi a v ha hva=>?_⟩
   match i,ha,hva with
   | 0,ha,hva=>simp at ha hva;subst ha;subst hva;exact .int _ _ _
   | 1,ha,hva=>simp at ha hva;subst ha;subst hva;exact .int _ _ _
   | i+2,ha,hva=>exact (hv.2 i a v (by simpa using ha) (by simpa using hva)).step hst
 refine ⟨(key 0 #[] (jm L) (cp L) default default []).1,λm os dk hs x y cs=>?_⟩;obtain ⟨-,w',s,same,fr,h1,h2,h3,h4,h5,fn,h6,h7⟩:=key m os dk hs x y cs;refine ⟨.returned (.int .i64 (cf x y)),w',fr,⟨rfl,Fo s.sz s.os s.tape s.output s.dr same⟩,?_,h5,h2,h3,h4,fn,by rw[h5];exact h6,h7⟩;have e:(#[mB L x,mB L y]++us.toArray:Array Value)=(mB L x::mB L y::us).toArray:=by simp
 rw[e];exact h1
theorem Kw {ρ:Ren}(L0:SlLaysF.n6 C.P ρ)(hent:Enters C.P (ρ.f 6))(hC:CfgOk C):ExtOk C (ρ.f 6) (rE C):=by
 refine ⟨λd xs g hwf=>?_,λd xs g y hy=>?_,λA bd w γ hg nx g xs vs hr hwf hx hf hv hne cs=>?_⟩
 ·apply Small.mon _ hwf
  by_cases h:rE C d xs g=.fail
  ·rw[h];trivial
  ·obtain ⟨id,ep,len,lim,f,cap,rows,lo,R,e1,e2,e3,e4⟩:=wg h;rw[e4];exact .inl ⟨_,_,rfl,by rw[e2];simp⟩
 ·have h:rE C d xs g≠.fail:=by rw[hy];simp
  obtain ⟨id,ep,len,lim,f,cap,rows,lo,R,e1,e2,e3,e4⟩:=wg h;rw[e4] at hy;cases hy
 ·obtain ⟨id,ep,len,lim,f,cap,rows,lo,R,rfl,e2,⟨L,hI,cf,q1,q2,q3,⟨q4,q8⟩,q5,q6,q7⟩,e4⟩:=wg hne;rw[e4] at hf ⊢;obtain ⟨v1,v2,rfl⟩:∃v1 v2,vs=[v1,v2]:=by
   have:=hv.1
   match vs,this with
   | [a,b],_=>exact ⟨a,b,rfl⟩
  have r1:RV w γ A bd (.hsl id ep 0 len lim) v1:=hv.2 0 _ _ rfl rfl;have r2:RV w γ A bd (.clo f [] cap) v2:=hv.2 1 _ _ rfl rfl;have hidL:id∈[AV.hsl id ep 0 len lim,.clo f [] cap].flatMap (aA g.h aB):=by simp[List.flatMap_cons,aA,aB]
  have hid:hg id=.cells 1 rows ep lo false:=by rw[hx id hidL (by rw[e2];simp),e2]
  have hrl:rows.length=L.length:=by rw[q1];simp
  obtain ⟨c,hv1,hnc,-⟩:=rf hr r1 hid;have hz:(γ id).base+0*1=(γ id).base:=by omega
  rw[hz] at hv1;subst hv1;cases r2 with
  | clo _ _ _ _ vs us hl hl2 h h2 =>
   have hvs:vs=#[]:=by
    have:vs.size=0:=by simpa using hl.symm
    exact Array.eq_empty_of_size_eq_zero this
   subst hvs;have hvu:RVs w γ A bd cap us.toList:=⟨by simpa using hl2,λi x v a b=>h2 i x v a (by simpa using b)⟩;obtain ⟨hef,hcmp⟩:=Ip (hI:=hI) hC hr (λk hk hn=>hx k (by
    rw[List.flatMap_cons,List.flatMap_cons,List.mem_append,List.mem_append];exact .inr (.inl (q8 k hk))) hn) hid hrl q4 hvu q6
   have hob:=hr.obj id;rw[hid] at hob;obtain ⟨k1,k2,k3,k4,k5,k6,cc,ec,k7,k8,k9,k10⟩:=hob;have hH:Holds (mB L) w (γ id).blk (γ id).base (jm L):=by
    intro j hj;rw[cp] at hj;have hrow:rows[j]?=some [.int .i64 L[j]]:=by rw[q1,List.getElem?_map,List.getElem?_eq_getElem hj];rfl
    obtain ⟨-,v,p1,p2⟩:=k10 j 0 _ (.int .i64 L[j]) hrow rfl;cases p2;have hd:(jm L)[j]! = ⟨L[j],List.getElem_mem hj⟩:=by rw[getElem!_pos (jm L) j (by rw[cp];exact hj)];simp[jm]
    refine ⟨?_,by simp[World.frozen?,k7]⟩;rw[hd];show World.cell? w (adr (γ id).blk ((γ id).base+j))=_;rw[j_ k7];rw[show (γ id).base+j*1+0=(γ id).base+j from by omega] at p1;exact p1
   have hcon:=Any.slices_SortFunc_eq L0 (mB L) (λ_=>rfl) cf q5 f us.toList.toArray (γ id).blk (γ id).base c (jm L) w hef (by rw[cp];exact hcmp) hH (hr.lt id (by rw[k1];decide)).2 (by rw[cp];exact q3);obtain ⟨e,w1,fr,⟨he,n,os,hw1⟩,hc1,hf1,hl1⟩:=hcon cs;subst he;obtain ⟨m1,d1,kk1,fn,hfn,hres⟩:=hl1;have hps:=(pdq_sorts (ltOf cf) q5 (jm L) 0 (jm L).size (Lib.bitLen (jm L).size) true true (Nat.zero_le _) (Nat.le_refl _) (Or.inl rfl)).1.1;obtain ⟨s,r⟩:=DG hr hid hrl n os (pdq (ltOf cf) (jm L) 0 (jm L).size (Lib.bitLen (jm L).size) true true) (by rw[hps,cp]);rw[<-hw1] at s r;have hR:(R.map λx=>[AV.int .i64 x])=(pdq (ltOf cf) (jm L) 0 (jm L).size (Lib.bitLen (jm L).size) true true).toList.map eci:=by rw[q7,List.map_map,cp];rfl
   rw[hR];refine ⟨.tuple #[],w1,γ,_,F3 r s,.tup _ _ _ rfl λi x v hx'=>by simp at hx',.inr ⟨hent,fr,?_,m1,d1,kk1,hf1,fn,by rw[<-hf1];exact hfn,hres⟩⟩;have e:(#[.slice (some ⟨(γ id).blk,(γ id).base,none⟩) (jm L).size c,.func (.func f) #[] us.toList.toArray]:Array Value)=[.slice (some (adr (γ id).blk (γ id).base)) len c,.func (.func f) #[] us].toArray:=by rw[cp,q2];simp[adr]
   rw[e] at hc1;exact hc1
end
end Hx
end
section
namespace Go.Proofs.YteaikmdilmfbeaaGreat.Gen
open Hx
noncomputable def cfg0:Cfg:={ P:=Tryz.prog,iso:=λf=>Nat.testBit 1474260566420002459681004656182214504914697923220056571903 f,ext:=λ_=>none,glob:=λ_=>none }
theorem cfg0Ok:CfgOk cfg0:=CfgOk.plain (by kernel_rfl) (by kernel_rfl)
theorem insOk:ExtOk cfg0 160 mh:=ED (C:=cfg0) (ρ:=Tryz.lays21_ren) Tryz.lays21 (Hx.AC Tryz.func160 (by kernel_rfl) (by kernel_rfl))
noncomputable def cfg:Cfg:=cfg0.add 160 mh
theorem cfgOk:CfgOk cfg:=cfg0Ok.add insOk
noncomputable def cfgP:Cfg:=cfg.add 27 (N2 cfg 1000 1000 27)
theorem cfgPOk:CfgOk cfgP:=cfgOk.add (Lw cfgOk)
theorem wakes_run:af (sem cfgP 20000) 1 G.empty 12 []=.val (.bool true):=by kernel_rfl
theorem sortOk:ExtOk cfg 77 (rE cfg):=Kw (C:=cfg) (ρ:=Tryz.sort77_ren) Tryz.sort77 (Hx.AC Tryz.func77 (by kernel_rfl) (by kernel_rfl)) cfgOk
noncomputable def cfgS:Cfg:=cfg.add 77 (rE cfg)
theorem cfgSOk:CfgOk cfgS:=cfgOk.add sortOk
noncomputable def cfg1:Cfg:=cfgS.add 12 (yg (.bool true))
theorem cfg1Ok:CfgOk cfg1:=cfgSOk.add (ExtOk.cfg (C:=cfgP) (C':=cfgS) rfl rfl (Hf cfgPOk wakes_run))
end Go.Proofs.YteaikmdilmfbeaaGreat.Gen
end
