/- A part of the proof: what the functions of the chapter compute. -/
import Derived.Shelf.Lays2
import Derived.Test.YtkbieohddgjioaaGreatRows
import Derived.Shelf.Spec.SlicesInsertGrow
import Derived.KernelRfl
import Derived.Test.YtkbieohddgjioaaGreatHx5
set_option linter.all false
section
namespace Go.Proofs
open Go.Shelf
def Tryz.lays21_ren:Go.Shelf.Ren:=⟨λ| 21=>110 | 27=>128 | 28=>129 | 35=>136 | 39=>138 | n=>n,λ| 22=>33 | 3=>3 | 4=>4 | 0=>0 | n=>n,λ| n=>n⟩
theorem R2:Go.Proofs.Lays2.n21 Tryz.prog Tryz.lays21_ren:={
 mixed:=by kernel_rfl
 f21:=Tryz.func110.trans (congrArg some (by kernel_rfl))
 f27:=Tryz.func128.trans (congrArg some (by kernel_rfl))
 f28:=Tryz.func129.trans (congrArg some (by kernel_rfl))
 f35:=Tryz.func136.trans (congrArg some (by kernel_rfl))
 f39:=Tryz.func138.trans (congrArg some (by kernel_rfl))
 t0:=Tryz.underlying0
 a0:=Tryz.isAgg0
 z0:=Tryz.sizeOf0
 v0:=Tryz.zeroValue0
 t3:=Tryz.underlying3
 a3:=Tryz.isAgg3
 z3:=Tryz.sizeOf3
 v3:=Tryz.zeroValue3
 t4:=Tryz.underlying4
 a4:=Tryz.isAgg4
 z4:=Tryz.sizeOf4
 v4:=Tryz.zeroValue4
 t22:=Tryz.underlying33
 a22:=Tryz.isAgg33
 z22:=Tryz.sizeOf33
 v22:=Tryz.zeroValue33
 i3:=by kernel_rfl }
end Go.Proofs
end
section
namespace Hx
open Go Go.Proofs Go.Shelf
theorem kY{w:World}{o:Obj}:(Go.World.alloc w o).heap=w.heap.push o:=rfl
theorem jy{w:World}:(Go.World.drew w).heap=w.heap:=rfl
theorem jW{b:Nat}{e:TypeId}{f:Nat×Nat}:∀(vs:List Value) (o:Nat) (w:World) (c:Array Value),w.heap[b]?=some (.cells c e f) ->
  Go.World.setCells w b o vs=World.setBlk w b (.cells (bj c o vs) e f):=by
 intro vs
 induction vs with
 | nil =>
  intro o w c h;have hb:b<w.heap.size:=by
   rcases TW b w.heap.size with hl|hl
   ·exact hl
   ·rw[TL hl]at h;cases h
  have hx:w.heap[b]=.cells c e f:=by simpa [Sv hb] using h
  show w=_;simp only[World.setBlk,bj];have:w.heap.setIfInBounds b (.cells c e f)=w.heap:=by
   apply U1;intro k;rw[TX]
   by_cases hk:b=k
   ·subst hk;simp[hb,hx]
   ·rw[Sa hk]
  rw[this]
 | cons v vs ih =>
  intro o w c h;have hb:b<w.heap.size:=by
   rcases TW b w.heap.size with hl|hl
   ·exact hl
   ·rw[TL hl]at h;cases h
  show Go.World.setCells (w.setCell (adr b o) v) b (o+1) vs=_;rw[An h,ih (o+1) _ (c.setIfInBounds o v) (by rw[aZ];simp[hb]),pA]
  rfl
section
variable {P:Program}{ρ:Ren}
theorem iM{α:Type}{cs vs:List α}{i n m k:Nat}(hcl:cs.length=n)(hvl:vs.length=m)(hi:i<=n) :
  (cs.take i++(vs++cs.drop i))[k]?=if k<i then cs[k]? else if k<i+m then vs[k - i]? else cs[k - m]?:=by
 have hti:(cs.take i).length=i:=by rw[SL];omega
 by_cases h1:k<i
 ·rw[Sb h1,So (by omega),SN h1]
 ·rw[Sa h1,Sj (by omega),hti]
  by_cases h2:k<i+m
  ·rw[Sb h2,So (by omega)]
  ·rw[Sa h2,Sj (by omega),ST,hvl];congr 1;omega
def Ins(P:Program)(f:FuncId)(args:Array Value)(w:World)(b n m:Nat)(rowV:List Value):Prop :=
 ∃b' o' cap' c' e' w',Calls P f args w (λx y=>x=.returned (.slice (some (adr b' o')) (n+m) cap')/\y=w')/\n+m<=cap'/\cap'<=9223372036854775807 /\
  (w'.os=w.os/\w'.tape=w.tape/\w'.output=w.output/\w.heap.size<=w'.heap.size)/\(b'=b\/(b'=w.heap.size/\w.heap.size<w'.heap.size)) /\
  (∀k,k<w.heap.size->k≠b->w'.heap[k]?=w.heap[k]?)/\w'.heap[b']?=some (.cells c' e' (0,0))/\o'+cap'<=c'.size /\
  ∀k,k<n+m->c'[o'+k]?=rowV[k]?
theorem FQ(L:Lays2.n21 P ρ){w:World}{b off n c i vb voff m vc:Nat}{cc cv:Array Value}{e e2:TypeId}{cs vs:List Value}
  (hb:w.heap[b]?=some (.cells cc e (0,0))) (hv:w.heap[vb]?=some (.cells cv e2 (0,0))) (hne:vb≠b) (hin:i<=n) (hm:0<m) (hnc:n<=c)
  (hc63:c<=9223372036854775807) (hbig:(n+m)*8<=140737488355328) (hcc:off+c<=cc.size) (hcv:voff+m<=cv.size) (hn0:0<c)
  (hcl:cs.length=n) (hvl:vs.length=m) (hcs:∀j,j<n->cs[j]?=cc[off+j]?) (hvs:∀j,j<m->vs[j]?=cv[voff+j]?)
  (h1c:∀v∈cs,v.oneCell'=true) (h1v:∀v∈vs,v.oneCell'=true) :
  Ins P (ρ.f 21) #[.slice (some (adr b off)) n c,.int .i64 i,.slice (some (adr vb voff)) m vc] w b n m (cs.take i++(vs++cs.drop i)):=by
 have hbw:b<w.heap.size:=by
  rcases TW b w.heap.size with hl|hl
  ·exact hl
  ·rw[TL hl]at hb;cases hb
 have hcs':∀j v,cs[j]?=some v->w.cell? (adr b (off+j))=some v:=λj v hj=>by rw[pK hb,<-hcs j (by rw[<-hcl];exact (R6.1 hj).1)];exact hj
 have hvs':∀j v,vs[j]?=some v->w.cell? (adr vb (voff+j))=some v:=λj v hj=>by rw[pK hv,<-hvs j (by rw[<-hvl];exact (R6.1 hj).1)];exact hj
 have hsp:∀j,j<c->(w.cell? (adr b (off+j))).isSome=true:=λj hj=>by rw[pK hb,Sv (by omega)];rfl
 have hfz:∀j,w.frozen? (adr b j)=false:=λj=>by simp[World.frozen?,adr,hb]
 have hfv:∀j,w.frozen? (adr vb j)=false:=λj=>by simp[World.frozen?,adr,hv]
 have hdl:(cs.drop i).length=n - i:=by rw[UZ,hcl]
 have htl:(cs.take i).length=i:=by rw[SL];omega
 by_cases hroom:n+m<=c
 ·by_cases hlt:i<n
  ·
   have h:=Any2.slices_Insert_int_shift L b off n c i vb voff m vc cs vs w hlt hm hroom hc63 hne hcl hvl hcs' (λj hj=>hsp j (by omega)) (λj _=>hfz _) hvs' h1c h1v
    e2 e cv.size cc.size (by simp[World.shape?,hv]) (by simp[World.shape?,hb]) (by omega) (hfv _) (hfv _)
   have hb':w.drew.heap[b]?=some (.cells cc e (0,0)):=hb;rw[jW (cs.drop i) (off+(i+m)) w.drew cc hb']at h;rw[jW vs (off+i) (World.setBlk w.drew b _) _ (by rw[aZ,Sb ⟨rfl,hbw⟩]),pA]at h;refine⟨b,off,c,_,e,_,h,hroom,hc63,⟨rfl,rfl,rfl,by simp[jy]⟩,.inl rfl,λk _ hk=>?_,by rw[aZ,Sb ⟨rfl,hbw⟩],by simp[bP];omega,λk hk=>?_⟩
   ·rw[aZ,Sa (λh=>hk h.1)];rfl
   ·rw[iM hcl hvl hin,ch _ _ _ _ (by rw[bP];omega),ch _ _ _ _ (by omega),hdl,hvl]
    by_cases h1:k<i
    ·rw[Sa (by omega),Sa (by omega),Sb h1,hcs k (by omega)]
    ·rw[Sa h1]
     by_cases h2:k<i+m
     ·rw[Sb (by omega),Sb h2];congr 1;omega
     ·rw[Sa (by omega),Sb (by omega),Sa h2,ST];congr 1;omega
  ·
   have hi:i=n:=by omega
   subst hi;have h:=Any2.slices_Insert_int_end_room L b off i c vb voff m vc vs w hm hroom hc63 hvl (λj hj=>by rw[TZ];exact hsp _ (by omega)) (λj _=>hfz _) hvs' h1v;rw[jW vs (off+i) w cc hb]at h;refine⟨b,off,c,_,e,_,h,hroom,hc63,⟨rfl,rfl,rfl,by simp⟩,.inl rfl,λk _ hk=>?_,by rw[aZ,Sb ⟨rfl,hbw⟩],by simp[bP];omega,λk hk=>?_⟩
   ·rw[aZ,Sa (λh=>hk h.1)]
   ·rw[iM hcl hvl hin,ch _ _ _ _ (by omega),hvl]
    by_cases h1:k<i
    ·rw[Sa (by omega),Sb h1,hcs k (by omega)]
    ·rw[Sb (by omega),Sa h1,Sb (by omega)];congr 1;omega
 ·have hgc:=grownCap_ge w (n+m) c (ρ.t 3);have hgm:grownCap w (n+m) c (ρ.t 3)<=9223372036854775807:=by have:=grownCap_le_maxLen w (n+m) c (ρ.t 3) (by unfold maxLen;omega);unfold maxLen at this;omega
  by_cases hlt:i<n
  ·
   have h:=Any2.slices_Insert_int_grow L b off n c i vb voff m vc cs vs w hlt hm hnc (by omega) hbig hcl hvl hcs' hvs' h1c h1v;obtain⟨G,hG⟩:∃G,G=grownCap w (n+m) c (ρ.t 3):=⟨_,rfl⟩;rw[<-hG]at h hgc hgm;obtain⟨ROW,hROW⟩:∃ROW:Array Value,ROW=(cs.take i).toArray++Builtin.zeroCells (Value.int .i64 0).cells (n+m - i)++Builtin.zeroCells (Value.int .i64 0).cells (G - (n+m)):=⟨_,rfl⟩;rw[<-hROW]at h;have hsz:ROW.size=G:=by rw[hROW];simp[Builtin.zeroCells,Value.cells];omega
   have hpre:∀k,k<i->ROW[k]?=cs[k]?:=λk hk=>by rw[hROW,Array.append_assoc,T4 (by simp;omega)];simp[Uv,hk]
   have h0:(w.alloc (.cells ROW (ρ.t 3))).drew.heap[w.heap.size]?=some (.cells ROW (ρ.t 3) (0,0)):=by simp[kY,jy]
   rw[jW vs i _ ROW h0]at h;rw[jW (cs.drop i) (i+m) _ (bj ROW i vs) (e:=ρ.t 3) (f:=(0,0)) (by
    show (World.setBlk _ _ _).heap[_]?=_;rw[aZ,Sb ⟨rfl,by simp[kY,jy]⟩])]at h
   refine⟨w.heap.size,0,G,bj (bj ROW i vs) (i+m) (cs.drop i),ρ.t 3,_,h,hgc,hgm,⟨rfl,rfl,rfl,by simp[kY,jy]⟩,.inr ⟨rfl,by simp[kY,jy]⟩,λk hk _=>?_,?_,by simp[bP,hsz],λk hk=>?_⟩
   ·rw[aZ,Sa (by omega)];show (World.setBlk _ _ _).heap[_]?=_;rw[aZ,Sa (by omega)];simp[kY,jy,US,show k≠w.heap.size from by omega]
   ·rw[aZ,Sb ⟨rfl,by simp[kY,jy]⟩]
   ·rw[iM hcl hvl hin,SU,ch _ _ _ _ (by rw[bP];omega),ch _ _ _ _ (by omega),hdl,hvl]
    by_cases h1:k<i
    ·rw[Sa (by omega),Sa (by omega),Sb h1,hpre k h1]
    ·rw[Sa h1]
     by_cases h2:k<i+m
     ·rw[Sa (by omega),Sb (by omega),Sb h2]
     ·rw[Sb (by omega),Sa h2,ST];congr 1;omega
  ·have hi:i=n:=by omega
   subst hi;have h:=Any2.slices_Insert_int_end_grow L (some (adr b off)) i c vb voff m vc cs vs w hm hnc (by omega) hbig hcl hvl (λh=>by cases h)
    (λa ha j v hj=>by injection ha with ha;subst ha;rw[gL];exact hcs' j v hj) hvs' h1v
   obtain⟨G,hG⟩:∃G,G=grownCap w (i+m) c (ρ.t 3):=⟨_,rfl⟩;rw[<-hG]at h hgc hgm;refine⟨w.heap.size,0,G,_,ρ.t 3,_,h,hgc,hgm,⟨rfl,rfl,rfl,by simp[kY,jy]⟩,.inr ⟨rfl,by simp[kY,jy]⟩,λk hk _=>?_,by simp[kY,jy];rfl,?_,λk hk=>?_⟩
   ·simp[kY,jy,US,show k≠w.heap.size from by omega]
   ·simp[Builtin.zeroCells,Value.cells];omega
   ·rw[SU,T4 (by simp;omega)];have:cs.take i++(vs++cs.drop i)=cs++vs:=by rw[<-hcl,S1,List.drop_length,Su]
    rw[this];simp
theorem FS(L:Lays2.n21 P ρ){w:World}{base:Option Addr}{vb voff m vc:Nat}{vs:List Value}(hm:0<m)(hbig:m*8<=140737488355328)(hvl:vs.length=m)
  (hvs:∀j v,vs[j]?=some v->w.cell? (adr vb (voff+j))=some v) (h1v:∀v∈vs,v.oneCell'=true) :
  ∃cap rest,m<=cap/\cap<=9223372036854775807/\rest.size=cap - m /\
  Calls P (ρ.f 21) #[.slice base 0 0,.int .i64 0,.slice (some (adr vb voff)) m vc] w (λx y=>x=.returned (.slice (some (adr w.heap.size 0)) m cap)/\y=World.add (World.drewn w) (.cells (vs.toArray++rest) (ρ.t 3) (0,0))):=by
 have hgc:=grownCap_ge w (0+m) 0 (ρ.t 3);have hgm:grownCap w (0+m) 0 (ρ.t 3)<=9223372036854775807:=by have:=grownCap_le_maxLen w (0+m) 0 (ρ.t 3) (by unfold maxLen;omega);unfold maxLen at this;omega
 have h:=Any2.slices_Insert_int_end_grow L base 0 0 vb voff m vc [] vs w hm (R5 _) (by omega) (by omega) rfl hvl (λ_=>rfl)
  (λa ha j v hj=>by simp at hj) hvs h1v
 obtain⟨G,hG⟩:∃G,G=grownCap w (0+m) 0 (ρ.t 3):=⟨_,rfl⟩;rw[<-hG]at h hgc hgm;rw[SU]at h hgc;exact⟨G,Builtin.zeroCells (Value.int .i64 0).cells (G - m),hgc,hgm,by simp[Builtin.zeroCells,Value.cells],h⟩
end
noncomputable def qJ(i:Nat)(rows:List (List AV))(g:G):OR :=
 aB (Nat.beq i 0&&Nat.ble (bz rows*8) 140737488355328) (.upd (.hsl g.nx 0 0 (bz rows) none) (g.new (.cells 1 rows 0 true false))) .fail
noncomputable def yf(id2 i:Nat)(s:AV)(vrows:List (List AV))(g:G):OR :=
 match s with
 |.nils=>qJ i vrows g
 |.esl=>qJ i vrows g
 | .hsl id ep off len none =>
  match g.get id with
  |.cells 1 [] ep' false _=>aB ((Nat.beq ep ep'&&Nat.beq off 0)&&Nat.beq len 0) (qJ i vrows g) .fail
  | .cells sz rows ep' true false =>
   aB (((((((Nat.beq sz 1&&Nat.beq ep ep')&&Nat.beq off 0)&&Nat.beq len (bz rows))&&j3 (Nat.beq id id2))&&Nat.ble i len)&&Nat.ble 1 len)&&Nat.ble ((len+bz vrows)*8) 140737488355328)
    (.upd (.hsl id (ep+1) 0 (len+bz vrows) none) (g.put id (.cells 1 (kg i rows++(vrows++jz i rows)) (ep+1) true false))) .fail
  |_=>.fail
 |_=>.fail
noncomputable def li:Nat->List AV->G->OR:=λ_ xs g =>
 match xs with
 | [s,.int .i64 (.ofNat i),.hsl id2 ep2 off2 len2 _] =>
  match g.get id2 with
  | .cells sz2 vrows ep2' _ _ =>
   aB ((((Nat.beq sz2 1&&Nat.beq ep2 ep2')&&Nat.beq off2 0)&&Nat.beq len2 (bz vrows))&&Nat.ble 1 len2) (yf id2 i s vrows g) .fail
  |_=>.fail
 |_=>.fail
theorem td{d:Nat}{xs:List AV}{g:G}(h:li d xs g≠.fail):∃s i id2 ep2 len2 lim2 vrows lo fz,xs=[s,.int .i64 (Int.ofNat i),.hsl id2 ep2 0 len2 lim2] /\
  g.h.get id2=.cells 1 vrows ep2 lo fz/\len2=vrows.length/\0<vrows.length/\li d xs g=yf id2 i s vrows g:=by
 unfold li at h ⊢
 split at h
 ·split at h
  ·rename_i hg;rw[aa]at h ⊢
   split at h
   ·rename_i hc;simp only[R7,ay]at hc;obtain⟨⟨⟨⟨c1,c2⟩,c3⟩,c4⟩,c5⟩:=hc;have c1:=aG c1;have c2:=aG c2;have c3:=aG c3;have c4:=aG c4;subst c1;subst c2;subst c3;subst c4;rw[SS]at c5;refine⟨_,_,_,_,_,_,_,_,_,rfl,hg,rfl,c5,?_⟩;rw[Sb];simp[ay];omega
   ·exact absurd rfl h
  ·exact absurd rfl h
 ·exact absurd rfl h
theorem zG{id2 i:Nat}{s:AV}{vrows:List (List AV)}{g:G}(h:yf id2 i s vrows g≠.fail) :
  ((s=.nils\/s=.esl\/∃id ep fz,s=.hsl id ep 0 0 none/\g.h.get id=.cells 1 [] ep false fz)/\i=0/\vrows.length*8<=140737488355328/\yf id2 i s vrows g=.upd (.hsl g.nx 0 0 vrows.length none) (g.new (.cells 1 vrows 0 true false))) \/
  ∃id ep rows,s=.hsl id ep 0 rows.length none/\g.h.get id=.cells 1 rows ep true false/\id≠id2/\i<=rows.length/\0<rows.length/\(rows.length+vrows.length)*8<=140737488355328 /\
   yf id2 i s vrows g=.upd (.hsl id (ep+1) 0 (rows.length+vrows.length) none) (g.put id (.cells 1 (rows.take i++(vrows++rows.drop i)) (ep+1) true false)):=by
 have hnew:qJ i vrows g≠.fail->i=0/\vrows.length*8<=140737488355328/\qJ i vrows g=.upd (.hsl g.nx 0 0 vrows.length none) (g.new (.cells 1 vrows 0 true false)):=by
  intro h;unfold qJ at h ⊢;rw[aa]at h ⊢
  split at h
  ·rename_i hc;rw[Sb hc];simp only[R7,ay,SS]at hc;exact⟨aG hc.1,hc.2,by rw[ay]⟩
  ·exact absurd rfl h
 unfold yf at h ⊢
 split at h
 ·exact .inl ⟨.inl rfl,hnew h⟩
 ·exact .inl ⟨.inr (.inl rfl),hnew h⟩
 ·rename_i id ep off len
  split at h
  ·rename_i ep' fz hg;rw[aa]at h
   split at h
   ·rename_i hc;have hc':=hc;simp only[R7]at hc;obtain⟨⟨c1,c2⟩,c3⟩:=hc;have c1:=aG c1;have c2:=aG c2;have c3:=aG c3;subst c1;subst c2;subst c3;have:=hnew h;refine .inl ⟨.inr (.inr ⟨id,ep,fz,rfl,hg⟩),this.1,this.2.1,?_⟩;rw[aa,Sb hc',this.2.2]
   ·exact absurd rfl h
  ·rename_i sz rows ep' hg;rw[aa]at h
   split at h
   ·rename_i hc;have hc':=hc;simp only[R7,ay]at hc;obtain⟨⟨⟨⟨⟨⟨⟨c1,c2⟩,c3⟩,c4⟩,c5⟩,c6⟩,c7⟩,c8⟩:=hc;have c1:=aG c1;have c2:=aG c2;have c3:=aG c3;have c4:=aG c4;subst c1;subst c2;subst c3;subst c4;rw[SS]at c6 c7 c8;refine .inr ⟨id,ep,rows,rfl,hg,λe=>?_,c6,c7,c8,?_⟩
    ·subst e;rw[notb_eq]at c5;simp at c5
    ·rw[aa,Sb hc'];simp only[ay,bh,bg]
   ·exact absurd rfl h
  ·exact absurd rfl h
 ·exact absurd rfl h
section
variable {C:Cfg}{A:Nat->Nat->Prop}{bd:Nat}{w w':World}{γ γ':Gm}{hg:Nat->AObj}{nx:Nat}{ρ:Ren}
theorem N4{g:G}{id:Nat}{ob:AObj}(r:Rel C A bd w' γ' (upd hg id ob) nx)(s:Stp w γ w' γ'):Fin C A bd w γ hg nx g w' γ' (upd hg id ob) (g.put id ob) :=
 ⟨r.up (TJ _ _),s,[id],by simp,λk hk=>by simp at hk;subst hk;simp[G.put_h,RW],λk hk=>by
  rw[cE];simpa using hk⟩
theorem N3{g:G}{ob:AObj}(r:Rel C A bd w' γ' (upd hg g.nx ob) (Nat.max nx (g.nx+1)))(s:Stp w γ w' γ'):Fin C A bd w γ hg nx g w' γ' (upd hg g.nx ob) (g.new ob) :=
 ⟨r.up (by simp),s,[g.nx],by simp,λk hk=>by simp at hk;subst hk;simp[G.new_h,RW],λk hk=>by
  rw[cE];simpa using hk⟩
theorem Ey(hr:Rel C A bd w γ hg nx){id ep:Nat}{rows:List (List AV)}{lo fz:Bool}(hid:hg id=.cells 1 rows ep lo fz) :
  ∃(c:Array Value) (e:TypeId) (l:List Value),w.heap[(γ id).blk]?=some (.cells c e (0,0))/\(γ id).base+(rows.length+(γ id).slack)<=c.size/\l.length=rows.length/\(∀j,j<rows.length->l[j]?=c[(γ id).base+j]?) /\
   (∀v∈l,v.oneCell'=true)/\(∀(k:Nat) row,rows[k]?=some row->row.length=1) /\
   ∀(k j:Nat) row x,rows[k]?=some row->row[j]?=some x->j=0/\x.one=true/\∃v,l[k]?=some v/\RV w γ A bd x v:=by
 have hob:=hr.obj id;rw[hid]at hob;obtain⟨k1,k2,k3,k4,k5,k6,c,e,k7,k8,k9,k10⟩:=hob;have hget:∀j,j<rows.length->((c.toList.drop (γ id).base).take rows.length)[j]?=c[(γ id).base+j]?:=λj hj=>by rw[SN hj,ST];simp
 refine⟨c,e,(c.toList.drop (γ id).base).take rows.length,k7,by omega,by simp;omega,hget,λv hv=>?_,k9,λk j row x h1 h2=>?_⟩
 ·obtain⟨k,hk⟩:=SE hv;have hlt:k<rows.length:=by have:=(R6.1 hk).1;simp at this;omega
  rw[hget k hlt]at hk;have hrow:=R4 hlt;have hl1:=k9 k _ hrow;have hx:rows[k][0]?=some (rows[k][0]'(by omega)):=R4 _;obtain⟨a,v',b1,b2⟩:=k10 k 0 _ _ hrow hx;rw[show (γ id).base+k*1+0=(γ id).base+k from by omega,hk]at b1;injection b1 with b1;subst b1;exact (Gl b2 a).1
 ·have hj:j=0:=by have h3:=k9 k _ h1;have:=(R6.1 h2).1;omega
  subst hj;obtain⟨a,v',b1,b2⟩:=k10 k 0 _ _ h1 h2;refine⟨rfl,a,v',?_,b2⟩;rw[hget k (R6.1 h1).1];rw[show (γ id).base+k*1+0=(γ id).base+k from by omega]at b1;exact b1
theorem uk{P:Program}{f:FuncId}{args:Array Value}{u:Value}(h:Calls P f args w (λx y=>x=.returned u/\y=w'))(cs:List Frame):Outs P .normal f args cs w u w':=by obtain⟨e,w1,fr,⟨he,hw⟩,hc,hf,hl⟩:=h cs;subst he;subst hw;obtain⟨m,d,k,fn,hfn,hres⟩:=hl;exact⟨fr,hc,m,d,k,hf,fn,by rw[<-hf];exact hfn,hres⟩
theorem I4 {P : Program} {f : FuncId} {fn : Func} (h : P.funcs[f]? = some fn) (hn : (fn.name == "runtime.NumGoroutine") = false) (hb : fn.body.isSome = true) : Enters P f := by
 intro args w;unfold callFunc;have hn : fn.name ≠ "runtime.NumGoroutine" := by simpa using hn
 cases hb':fn.body with
 |none=>rw[hb']at hb;cases hb
 |some c=>simp[h,hn,hb']
theorem FP(L:Lays2.n21 C.P ρ)(hent:Enters C.P (ρ.f 21)):ExtOk C (ρ.f 21) li:=by
 refine⟨λd xs g hwf=>?_,λd xs g y hy=>?_,λA bd w γ hg nx g xs vs hr hwf hx hf hv hne cs=>?_⟩
 ·apply Small.mon _ hwf
  by_cases h:li d xs g=.fail
  ·rw[h];trivial
  ·obtain⟨s,i,id2,ep2,len2,lim2,vrows,lo,fz,e1,e2,e3,e4,e5⟩:=td h;rw[e5]at h ⊢;rcases zG h with⟨_,_,_,h1⟩|⟨id,ep,rows,_,h2,_,_,_,_,h1⟩
   ·rw[h1];exact .inr ⟨_,rfl⟩
   ·rw[h1];exact .inl ⟨_,_,rfl,by rw[h2];simp⟩
 ·have h:li d xs g≠.fail:=by rw[hy];simp
  obtain⟨s,i,id2,ep2,len2,lim2,vrows,lo,fz,e1,e2,e3,e4,e5⟩:=td h;rw[e5]at h hy;rcases zG h with⟨_,_,_,h1⟩|⟨id,ep,rows,_,h2,_,_,_,_,h1⟩<;>(rw[h1]at hy;cases hy)
 ·obtain⟨s,i,id2,ep2,len2,lim2,vrows,lo,fz,e1,e2,e3,e4,e5⟩:=td hne;subst e1;subst e3;rw[e5]at hne hf ⊢;obtain⟨v1,v2,v3,rfl⟩:∃v1 v2 v3,vs=[v1,v2,v3]:=by
   have:=hv.1
   match vs,this with
   |[a,b,c],_=>exact⟨a,b,c,rfl⟩
  have r1:RV w γ A bd s v1:=hv.2 0 _ _ rfl rfl;have r2:RV w γ A bd (.int .i64 (Int.ofNat i)) v2:=hv.2 1 _ _ rfl rfl;have r3:RV w γ A bd (.hsl id2 ep2 0 vrows.length lim2) v3:=hv.2 2 _ _ rfl rfl;cases r2;have hid2:hg id2=.cells 1 vrows ep2 lo fz:=by rw[hx id2 (by simp[Tc,aC,aE]) (by rw[e2];simp),e2]
  obtain⟨vc,hv3,hvc,_⟩:=uI hr r3 hid2;subst hv3;obtain⟨cv,ev,lv,p1,p2,p3,p4,p5,p6,p7⟩:=Ey hr hid2;have hz:(γ id2).base+0*1=(γ id2).base:=by omega
  rw[hz]at r3 ⊢;rcases zG hne with⟨hs,hi,hbig,h1⟩|⟨id,ep,rows,hs,h2,hne2,hin,hpos,hbig,h1⟩
  ·subst hi;rw[h1]at hf ⊢;have hfree:(γ g.nx).kind=0:=hf g.nx (R5 _) (by simp[gOf]);have hbase:∃base,v1=.slice base 0 0:=by
    rcases hs with rfl|rfl|⟨id,ep,fz2,rfl,hgid⟩
    ·cases r1;exact⟨_,rfl⟩
    ·cases r1;exact⟨_,rfl⟩
    ·have hid:hg id=.cells 1 [] ep false fz2:=by rw[hx id (by simp[Tc,aC,aE]) (by rw[hgid];simp),hgid]
     obtain⟨c,hv1,hnc,hco⟩:=uI hr r1 hid;have hob:=hr.obj id;rw[hid]at hob;obtain⟨-,-,-,k4,k5,-⟩:=hob;have hk:=k5.1 rfl;have hc0:c=0:=by simp only[ju]at hco;simp at k4;omega
     subst hc0;exact⟨_,hv1⟩
   obtain⟨base,hb⟩:=hbase;subst hb;obtain⟨cap,rest,q1,q2,q3,q4⟩:=FS L (w:=w) (base:=base) (vb:=(γ id2).blk) (voff:=(γ id2).base) (m:=vrows.length) (vc:=vc) (vs:=lv) e4 hbig p3
    (λj v hj=>by rw[pK p1,<-p4 j (by rw[<-p3];exact (R6.1 hj).1)];exact hj) p5
   have hrr:RowsRel w γ A bd 1 vrows (lv.toArray++rest):=by refine⟨by simp[p3],p6,λk j row x a b=>?_⟩;obtain⟨j0,o1,v,l1,l2⟩:=p7 k j row x a b;subst j0;refine⟨o1,v,?_,l2⟩;have hk:=(R6.1 a).1;rw[T4 (by simp;omega)];simpa using l1
   obtain⟨γ',s1,s2,s3⟩:=xf (e:=ρ.t 3) hr hfree hrr vrows.length cap (by simp[q3];omega) q1 rfl q2;exact⟨_,_,γ',_,N3 s1 s2,s3,.inr ⟨hent,uk q4 cs⟩⟩
  ·subst hs;rw[h1]at hf ⊢;have hid:hg id=.cells 1 rows ep true false:=by rw[hx id (by simp[Tc,aC,aE]) (by rw[h2];simp),h2]
   obtain⟨c,hv1,hnc,hco⟩:=uI hr r1 hid;subst hv1;have hob:=hr.obj id;rw[hid]at hob;obtain⟨k1,k2,k3,k4,k5,k6,_⟩:=hob;have hob2:=hr.obj id2;rw[hid2]at hob2;obtain⟨m1,_⟩:=hob2;have hblk:(γ id2).blk≠(γ id).blk:=λe=>hne2 (hr.inj id id2 (by rw[k1];decide) (by rw[m1];decide) e.symm);obtain⟨cc,ec,lc,c1,c2,c3,c4,c5,c6,c7⟩:=Ey hr hid;have hcap:c=rows.length+(γ id).slack:=by simp only[ju]at hco;omega
   have hins:=FQ L (w:=w) (b:=(γ id).blk) (off:=(γ id).base) (n:=rows.length) (c:=c) (i:=i) (vb:=(γ id2).blk) (voff:=(γ id2).base) (m:=vrows.length) (vc:=vc)
    c1 p1 hblk hin e4 hnc (by have:=k5.2 rfl;omega) hbig (by omega) (by omega) (by omega) c3 p3 c4 p4 c5 p5
   obtain⟨b',o',cap',c',e',w',n1,n2,n3,n4,n5,n6,n7,n8,n9⟩:=hins
   let gh:Gh:=⟨1,ep+1,1,rows.length+vrows.length,b',o',cap' - (rows.length+vrows.length),true⟩
   have hrl:(rows.take i++(vrows++rows.drop i)).length=rows.length+vrows.length:=by simp;omega
   have hcell:∀(k:Nat) row,(rows.take i++(vrows++rows.drop i))[k]?=some row->row.length=1/\∀(j:Nat) x,row[j]?=some x->x.one=true/\∃v,c'[o'+k*1+j]?=some v/\RV w γ A bd x v:=by
    intro k row hk;have hkl:k<rows.length+vrows.length:=by rw[<-hrl];exact (R6.1 hk).1
    have hck:=n9 k hkl;rw[iM c3 p3 hin]at hck;rw[iM (n:=rows.length) (m:=vrows.length) rfl rfl hin]at hk
    split at hk
    ·rename_i h1;rw[Sb h1]at hck;refine⟨c6 _ _ hk,λj x hj=>?_⟩;obtain⟨j0,o1,v,l1,l2⟩:=c7 _ j row x hk hj;subst j0;exact⟨o1,v,by rw[show o'+k*1+0=o'+k from by omega,hck];exact l1,l2⟩
    ·rename_i h1;rw[Sa h1]at hck
     split at hk
     ·rename_i h2;rw[Sb h2]at hck;refine⟨p6 _ _ hk,λj x hj=>?_⟩;obtain⟨j0,o1,v,l1,l2⟩:=p7 _ j row x hk hj;subst j0;exact⟨o1,v,by rw[show o'+k*1+0=o'+k from by omega,hck];exact l1,l2⟩
     ·rename_i h2;rw[Sa h2]at hck;refine⟨c6 _ _ hk,λj x hj=>?_⟩;obtain⟨j0,o1,v,l1,l2⟩:=c7 _ j row x hk hj;subst j0;exact⟨o1,v,by rw[show o'+k*1+0=o'+k from by omega,hck];exact l1,l2⟩
   obtain⟨s1,s2⟩:=hr.moved hid (w1:=w') (gh:=gh) (rows':=rows.take i++(vrows++rows.drop i)) rfl rfl rfl (by rw[hrl]) rfl n4
    (by rw[hrl];simp only[gh];omega) n5 n6 (c:=c') (e:=e') n7 (by rw[hrl];simp only[gh];omega)
    (λk row hk=>(hcell k row hk).1) (λk j row x hk hj=>(hcell k row hk).2 j x hj)
   have hz':(γ id).base+0*1=(γ id).base:=by omega
   rw[hz'];refine⟨.slice (some (adr b' o')) (rows.length+vrows.length) cap',w',_,_,N4 s1 s2,?_,.inr ⟨hent,uk n1 cs⟩⟩;refine .hsl _ id (ep+1) 0 _ none _ _ cap' (by simp[gh]) (by simp[gh]) n2 (λ_=>⟨by simp[gh],by simp[gh],?_⟩);simp only[ju,upd_same,gh];omega
end
end Hx
end
section
namespace Go.Proofs.YtkbieohddgjioaaGreat.Gen
open Hx
noncomputable def cfg00:Cfg:={ P:=Tryz.prog,iso:=λf=>Nat.testBit 85813053817982002381904034765232832929400356863 f,ext:=λ_=>none,glob:=λ_=>none }
theorem cfg00Ok:CfgOk cfg00:=CfgOk.plain (by kernel_rfl) (by kernel_rfl)
theorem insOk:ExtOk cfg00 110 li:=FP (C:=cfg00) (ρ:=Tryz.lays21_ren) R2 (Hx.I4 Tryz.func110 (by kernel_rfl) (by kernel_rfl))
noncomputable def cfg0:Cfg:=cfg00.add 110 li
theorem cfg0Ok:CfgOk cfg0:=cfg00Ok.add insOk
noncomputable def cfgA:Cfg:=cfg0.add 55 (Jm cfg0 1000 55)
theorem cfgAOk:CfgOk cfgA:=cfg0Ok.add (HE cfg0Ok)
noncomputable def cfg:Cfg:=cfgA.add 18 (Jm cfgA 1000 18)
theorem cfgOk:CfgOk cfg:=cfgAOk.add (HE cfgAOk)
theorem wakes_run:ah (sem cfg 20000) 1 G.empty 5 []=.val (.bool true):=by kernel_rfl
noncomputable def cfgW:Cfg:=cfg0.add 5 (zc (.bool true))
theorem cfgWOk:CfgOk cfgW:=cfg0Ok.add (ExtOk.cfg (C:=cfg) (C':=cfg0) rfl rfl (IS cfgOk wakes_run))
theorem inl55:ExtOk cfg0 55 (zF cfg0 55):=N8 cfg0Ok
noncomputable def cfg1:Cfg:=cfgW.add 55 (zF cfg0 55)
theorem cfg1Ok:CfgOk cfg1:=cfgWOk.add (ExtOk.cfg (C:=cfg0) (C':=cfgW) rfl rfl inl55)
end Go.Proofs.YtkbieohddgjioaaGreat.Gen
end
section
namespace Hx
open Go
set_option maxRecDepth 100000
noncomputable section
@[reducible] def VH (d:Nat)(p:BinOp)(a b:Nat):SI:=o d (.bin p (.t a) (.t b))
@[reducible] def VI (d:Nat)(p:BinOp)(a:Nat)(z:Int):SI:=o d (.bin p (.t a) (qI z))
@[reducible] def VJ (d n a:Nat):SI:=o d (.load true n (.t a))
@[reducible] def VK (d a i:Nat):SI:=o d (.ext (.t a) i)
@[reducible] def VL (n a b:Nat):SI:=oz (.store n (.t a) (.t b))
@[reducible] def VM (d a:Nat):SI:=o d (.nilc (.t a))
@[reducible] def VN (d a b:Nat):SI:=o d (.pick (.t a) (.k (.bool true)) (.t b))
@[reducible] def VO (d a b:Nat):SI:=o d (.pick (.t a) (.t b) (.k (.bool false)))
@[reducible] def VP (d n a b:Nat):SI:=o d (.ixs n (.t a) (.t b))
@[reducible] def VQ (d s:Nat)(w:Bool)(a:Nat):SI:=og d s w (.mv (.t a))
@[reducible] def VR (d s:Nat)(w:Bool)(a:Nat):SI:=og d s w (.load false 1 (.t a))
@[reducible] def VT (d s:Nat)(w:Bool)(n a:Nat):SI:=og d s w (.fad n (.t a))
@[reducible] def VU (d s:Nat)(w:Bool)(p:BinOp)(a b:Nat):SI:=og d s w (.bin p (.t a) (.t b))
@[reducible] def VV (d s:Nat)(w:Bool)(p:BinOp)(a:Nat)(z:Int):SI:=og d s w (.bin p (.t a) (qI z))
@[reducible] def VW (d s:Nat)(w:Bool)(a:Nat):SI:=og d s w (.len .slice (.t a))
def C0:Cfg:=Go.Proofs.YtkbieohddgjioaaGreat.Gen.cfg1
def Fn:Cfg:=Go.Proofs.YtkbieohddgjioaaGreat.Gen.cfg0
theorem Kc:CfgOk Fn:=Go.Proofs.YtkbieohddgjioaaGreat.Gen.cfg0Ok
abbrev N.aY:Nat:=126
abbrev N.aD:Nat:=135
abbrev N.aZ:Nat:=20
abbrev N.a_:Nat:=14
abbrev N.ba:Nat:=45
abbrev N.bM:Nat:=46
abbrev N.ae:Nat:=11
abbrev N.bc:Nat:=43
abbrev N.aE:Nat:=44
abbrev N.bN:Nat:=80
abbrev N.be:Nat:=27
abbrev N.aw:Nat:=59
abbrev N.ax:Nat:=85
abbrev N.aF:Nat:=57
abbrev N.bf:Nat:=28
abbrev N.bg:Nat:=56
abbrev N.aG:Nat:=58
abbrev N.aH:Nat:=40
abbrev N.bh:Nat:=74
abbrev N.aI:Nat:=75
abbrev N.am:Nat:=77
abbrev N.aJ:Nat:=73
abbrev N.aK:Nat:=97
abbrev N.af:Nat:=76
abbrev N.ay:Nat:=13
abbrev N.bi:Nat:=38
abbrev N.bj:Nat:=99
abbrev N.bk:Nat:=41
abbrev N.aL:Nat:=78
abbrev N.an:Nat:=98
abbrev N.bm:Nat:=100
abbrev N.bK:Nat:=4
abbrev N.bO:Nat:=5
abbrev N.ac:Nat:=102
abbrev N.bo:Nat:=49
abbrev N.aM:Nat:=26
abbrev N.bp:Nat:=72
abbrev N.br:Nat:=42
abbrev N.aN:Nat:=39
abbrev N.bu:Nat:=96
abbrev N.aO:Nat:=82
abbrev N.ak:Nat:=54
abbrev N.aA:Nat:=103
abbrev N.ah:Nat:=121
abbrev N.bw:Nat:=83
abbrev N.bz:Nat:=52
abbrev N.bA:Nat:=51
abbrev N.aB:Nat:=21
abbrev N.aP:Nat:=22
abbrev N.bB:Nat:=53
abbrev N.bC:Nat:=6
abbrev N.bD:Nat:=9
abbrev N.bE:Nat:=23
abbrev N.ap:Nat:=24
abbrev N.aQ:Nat:=15
abbrev N.bF:Nat:=7
abbrev N.aR:Nat:=109
abbrev N.aa:Nat:=55
abbrev N.aS:Nat:=50
abbrev N.bG:Nat:=81
abbrev N.bL:Nat:=110
abbrev N.bH:Nat:=79
abbrev N.bP:Nat:=113
abbrev N.bQ:Nat:=114
abbrev N.bS:Nat:=112
abbrev N.bI:Nat:=111
abbrev N.aT:Nat:=127
abbrev N.bT:Nat:=116
abbrev N.bU:Nat:=118
abbrev N.bV:Nat:=117
abbrev N.aU:Nat:=101
abbrev N.bW:Nat:=115
abbrev N.bJ:Nat:=86
abbrev N.aV:Nat:=104
abbrev N.aC:Nat:=29
abbrev N.aW:Nat:=84
abbrev N.aX:Nat:=30
def sV:SC:=(sQ [o 76 (.ix false 2 1 (.t 73) (.t 74)),oM 18 76] (sQ [VJ 78 2 11,oM 79 12,oM 80 18,o 81 (.call N.ae [.t 78,.t 79,.t 80,.k (.int .i64 0)]),oM 77 81,VK 82 77 0,VK 83 77 1,VK 84 77 2,o 19 (.alloc [.int .i64 0,.int .i64 0]),VL 2 19 82,oM 20 83,oM 21 84] (sQ [VJ 86 2 11,oM 87 12,oM 88 18,oM 89 4,o 90 (.bin .rem (.t 89) (.k (.int .u16 1001))),o 91 (.conv .i64 (.t 90)),o 92 (.call N.ae [.t 86,.t 87,.t 88,.t 91]),oM 85 92,VK 93 85 0,VK 94 85 1,VK 95 85 2,o 22 (.alloc [.int .i64 0,.int .i64 0]),VL 2 22 93,oM 23 94,oM 24 95] (sQ [VJ 97 2 11,oM 98 12,oM 99 18,o 100 (.call N.ae [.t 97,.t 98,.t 99,.k (.int .i64 1000)]),oM 96 100,VK 101 96 0,VK 102 96 1,VK 103 96 2,o 25 (.alloc [.int .i64 0,.int .i64 0]),VL 2 25 101,oM 26 102,oM 27 103] (sQ [oM 104 21,VI 105 .neq 104 0,oM 106 105,VQ 107 106 false 24,VV 108 106 false .neq 107 0,VN 109 106 108,oM 110 109,VQ 111 110 false 27,VV 112 110 false .neq 111 0,VN 113 110 112,oM 114 113,og 115 114 false (.load true 2 (.t 19)),og 116 114 false (.load true 2 (.t 13)),og 117 114 false (.eq true (.flat [.int .i64,.int .i64]) (.t 115) (.t 116)),VN 118 114 117,oM 119 118,og 120 119 false (.load true 2 (.t 22)),og 121 119 false (.load true 2 (.t 13)),og 122 119 false (.eq true (.flat [.int .i64,.int .i64]) (.t 120) (.t 121)),VN 123 119 122,oM 124 123,og 125 124 false (.load true 2 (.t 25)),og 126 124 false (.load true 2 (.t 13)),og 127 124 false (.eq true (.flat [.int .i64,.int .i64]) (.t 125) (.t 126)),VN 128 124 127,oM 129 128,VQ 130 129 false 23,VQ 131 129 false 20,VU 132 129 false .gtr 130 131,VN 133 129 132,oM 134 133,VQ 135 134 false 26,VQ 136 134 false 20,VU 137 134 false .gtr 135 136,VN 138 134 137,oM 139 138,VQ 140 139 false 23,VQ 141 139 false 18,VW 142 139 false 141,VU 143 139 false .lss 140 142,VN 144 139 143,oM 145 144,VQ 146 145 false 26,VQ 147 145 false 18,VW 148 145 false 147,VU 149 145 false .lss 146 148,VN 150 145 149] (.cond (.t 150) (sQ [o 10 (.mv (.k (.bool false)))] (.ret)) (.skip)))))))
def iE:SC:=sQ [VI 75 .lss 74 2] (.seq (.cond (.t 75) (.skip) (.exit 0)) (.seq (.blk 1 sV) (.ops [oA 151 74,oM 74 151])))
def iF:SC:=sQ [o 10 (.mv (.k (.bool true)))] (.ret)
def je:SC:=.seq (sQ [o 28 (.call N.bO []),o 29 (.not (.t 28))] (.cond (.t 29) (sQ [o 10 (.mv (.k (.bool false)))] (.ret)) (.skip))) (sQ [VJ 30 3 5,o 31 (.call N.bC [.t 30]),o 11 (.alloc [.int .i64 0,.nils]),VL 2 11 31] (sQ [VJ 32 9 6,VJ 33 2 11,o 34 (.call N.bD [.t 32,.t 33]),oM 12 34] (sQ [VJ 36 2 11,oM 37 12,o 38 (.call N.ay [.t 36,.t 37]),oM 35 38,VK 39 35 0,VK 40 35 1,o 13 (.alloc [.int .i64 0,.int .i64 0]),VL 2 13 39,oM 14 40] (.seq (.quiet [VJ 42 2 11,oF 43 1 11,oL 44 43,oN 45 44,VJ 46 8 8,o 47 (.call N.aQ [.t 45,.k (.int .i64 (-1)),.t 46]),o 48 (.call N.a_ [.t 42,.t 47]),oM 41 48,VK 49 41 0,VK 50 41 1,oM 15 49,oM 16 50]) (.seq (sQ [oM 51 14,VI 52 .neq 51 0,oM 53 52,VQ 54 53 false 16,VV 55 53 false .neq 54 0,VN 56 53 55,oM 57 56,VQ 58 57 false 15,VW 59 57 false 58,VT 60 57 false 1 11,VR 61 57 false 60,VW 62 57 false 61,og 63 57 false (.bin .mul (qI 2) (.t 62)),VV 64 57 false .sub 63 1,VU 65 57 false .neq 59 64,VN 66 57 65] (.cond (.t 66) (sQ [o 10 (.mv (.k (.bool false)))] (.ret)) (.skip))) (.seq (sQ [oM 67 15,oF 68 1 11,oL 69 68,oN 70 69,VJ 71 8 7,o 72 (.call N.bF [.t 70,.t 71]),o 73 (.build [.nils,.nils] [(0,1),(1,1)] [.t 67,.t 72]),oK 74 0] (.blk 0 (.loop iE))) iF))))))
def fG:SF:=⟨152,[.tm 10],sQ [o 5 (.box (.t 0)),o 6 (.box (.t 1)),o 7 (.box (.t 2)),o 8 (.box (.t 3)),o 10 (.mv (.k (.bool false)))] je⟩
def sJ:SC:=sQ [oM 65 6,oM 66 9,VH 67 .mul 65 66,oM 6 67] (.feet [0,1,0,0,12,28,0,127,255,511] [oF 68 1 4,oL 69 68,oM 70 5,oM 71 7,oX 72 70 71,oL 73 72,oM 74 9,VP 75 3 69 73,oF 76 0 75,VL 1 76 74])
def sK:SC:=sQ [oF 50 0 8,oL 51 50,o 52 (.bin .rem (.t 51) (.k (.int .u8 2))),o 53 (.conv .i64 (.t 52)),o 54 (.bin .add (qI 2) (.t 53)),oM 9 54] (.seq (sQ [oM 55 6,oM 56 9,VH 57 .mul 55 56,oM 58 3,VI 59 .sub 58 1,oM 60 7,VH 61 .sub 59 60,o 62 (.conv .u64 (.t 61)),VH 63 .shl 57 62,VI 64 .gtr 63 100] (.cond (.t 64) (.ops [oK 9 2]) (.skip))) sJ)
def lC:SC:=.ops [oM 38 7,oA 39 38,oM 7 39]
def gm:SC:=.seq (sQ [oM 35 7,oM 36 3,VH 37 .lss 35 36] (.cond (.t 37) (.skip) (.exit 0))) (.seq (.blk 1 (sQ [o 8 (.alloc [.int .u8 0,.int .u8 0,.nils])] (.seq (sQ [oM 40 7,oF 41 1 1,oL 42 41,oN 43 42,VH 44 .lss 40 43] (.cond (.t 44) (.ops [oF 45 1 1,oL 46 45,oM 47 7,VP 48 3 46 47,VJ 49 3 48,VL 3 8 49]) (.skip))) sK))) lC)
def lD:SC:=.ops [oM 104 14,oA 105 104,oM 14 105]
def gq:SC:=.seq (sQ [oM 101 14,oM 102 10,VH 103 .lss 101 102] (.cond (.t 103) (.skip) (.exit 6))) (.seq (.blk 7 (sQ [oM 106 5,oM 107 14,oX 108 106 107,oL 109 108,oM 110 13,VH 111 .eql 109 110,oM 112 111,VT 113 112 true 1 11,VR 114 112 true 113,VQ 115 112 true 14,og 116 112 true (.conv .u64 (.t 115)),VU 117 112 true .shr 114 116,og 118 112 true (.bin .and (.t 117) (.k (.int .u8 1))),og 119 112 true (.bin .eql (.t 118) (.k (.int .u8 1))),VO 120 112 119,oM 121 120,VT 122 121 true 1 4,VR 123 121 true 122,VQ 124 121 true 12,og 125 121 true (.ixs 3 (.t 123) (.t 124)),VT 126 121 true 1 125,VR 127 121 true 126,VW 128 121 true 127,VV 129 121 true .lss 128 3,VO 130 121 129] (.cond (.t 130) (.feet [0,1,0,0,8,0,56,120,248,0,512,2040,4095,8191,16383] [oF 131 1 4,oL 132 131,oM 133 12,oF 134 1 4,oL 135 134,oM 136 12,VP 137 3 135 136,oF 138 1 137,oL 139 138,oM 140 13,o 141 (.bsl 1 1 [.int .i64 0] [0] [.t 140]),o 142 (.app 1 8 (.t 139) (.t 141)),VP 143 3 132 133,oF 144 1 143,VL 1 144 142]) (.skip)))) lD)
def lE:SC:=.ops [oM 99 13,oA 100 99,oM 13 100]
def gt:SC:=.seq (sQ [oM 96 13,oM 97 3,VH 98 .lss 96 97] (.cond (.t 98) (.skip) (.exit 4))) (.seq (.blk 5 (sQ [oK 14 0] (.blk 6 (.loop gq)))) lE)
def gu:SC:=.seq (sQ [oM 145 15,VJ 146 2 4,oM 147 12,o 148 (.call N.bE [.t 146,.t 147]),o 149 (.call N.aP [.t 148]),VH 150 .lss 145 149] (.cond (.t 150) (.skip) (.exit 8))) (.seq (.blk 9 (.feet [0,1,0,0,8,0,56,120,248,0,512,0,2048,0,14336,30720,63488,0,131072,0,0,1048576,0,7340032,15728640,32505856,66060288,133693440,268434944,536870400,1073741816,2147483647,4294967295,8589934591] [oF 153 1 4,oL 154 153,oM 155 12,oF 156 1 4,oL 157 156,oM 158 12,VP 159 3 157 158,oF 160 2 159,oL 161 160,oF 162 0 4,oL 163 162,oF 164 1 4,oL 165 164,oM 166 12,VP 167 3 165 166,oF 168 0 167,oL 169 168,oF 170 2 11,oL 171 170,oM 172 15,oF 173 1 4,oL 174 173,oM 175 12,VP 176 3 174 175,oF 177 0 176,oL 178 177,oA 179 178,VH 180 .mul 172 179,o 181 (.call N.ap [.t 163,.t 169,.t 171,.t 180]),o 182 (.bsl 1 1 [.nils] [0] [.t 181]),o 183 (.app 1 24 (.t 161) (.t 182)),VP 184 3 154 155,oF 185 2 184,VL 1 185 183])) (.ops [oM 151 15,oA 152 151,oM 15 152]))
def lF:SC:=sQ [oK 15 0] (.blk 8 (.loop gu))
def j6:SC:=sQ [oM 92 5,oM 93 10,oX 94 92 93,oL 95 94,oM 12 95] (.seq (sQ [oK 13 0] (.blk 4 (.loop gt))) lF)
def j7:SC:=.ops [oM 80 10,oA 81 80,oM 10 81]
def fH:SC:=.seq (sQ [oM 77 10,oM 78 3,VH 79 .lss 77 78] (.cond (.t 79) (.skip) (.exit 2))) (.seq (.blk 3 (sQ [o 11 (.alloc [.int .u8 0,.int .u8 0,.nils])] (.seq (sQ [oM 82 10,oF 83 1 1,oL 84 83,oN 85 84,VH 86 .lss 82 85] (.cond (.t 86) (.ops [oF 87 1 1,oL 88 87,oM 89 10,VP 90 3 88 89,VJ 91 3 90,VL 3 11 91]) (.skip))) j6))) j7)
def j8:SC:=sQ [VJ 186 2 4,VL 2 2 186] (.ret)
def j9:SC:=.seq (sQ [oK 10 0] (.blk 2 (.loop fH))) j8
def me:SC:=sQ [oF 16 1 1,oL 17 16,oN 18 17,o 19 (.mx (.t 18) (qI 1)),o 20 (.mn (.t 19) (qI 5)),oM 3 20] (.seq (.feet [0,1,3,7,15,0,32,127,0,511] [oF 21 0 1,oL 22 21,o 23 (.bin .rem (.t 22) (.k (.int .u8 60))),o 24 (.conv .i64 (.t 23)),o 25 (.bin .add (qI 1) (.t 24)),oM 26 3,o 27 (.mks 3 56 [.int .i64 0,.nils,.nils] (.t 26) (.t 26)),o 28 (.build [.int .i64 0,.nils] [(0,1),(1,1)] [.t 25,.t 27]),o 4 (.alloc [.int .i64 0,.nils]),VL 2 4 28]) (.seq (.feet [0,1,0,4,15,31,63] [oM 29 3,o 30 (.mks 1 1 [.int .u8 0] (.t 29) (.t 29)),oF 31 2 1,oL 32 31,o 33 (.build [.nils,.int .u16 0,.nils] [(0,1),(2,1)] [.t 30,.t 32]),o 34 (.call N.aB [.t 33]),oM 5 34]) (sQ [oK 6 1] (.seq (sQ [oK 7 0] (.blk 0 (.loop gm))) j9))))
def jM:SF:=⟨187,[.cell true 2 2],sQ [o 1 (.box (.t 0)),o 2 (.alloc [.int .i64 0,.nils])] me⟩
def n_:SC:=.seq (sQ [oM 13 7,oM 14 0,VH 15 .lss 13 14] (.cond (.t 15) (.skip) (.exit 0))) (.seq (.blk 1 (sQ [oM 18 5,oM 19 7,o 20 (.ixa 8 1 (.t 3) (qI 7)),oL 21 20,o 22 (.conv .i64 (.t 21)),VH 23 .add 19 22,oM 24 0,VH 25 .rem 23 24,o 26 (.build [.int .i64 0,.int .i64 0,.int .i64 0] [(0,1),(1,1),(2,1)] [.t 25,.k (.int .i64 (-1)),.k (.int .i64 (-1))]),o 27 (.bsl 3 1 [.int .i64 0,.int .i64 0,.int .i64 0] [0] [.t 26]),o 28 (.app 3 24 (.t 18) (.t 27)),oM 5 28] (.ops [oM 29 6,oM 30 7,o 31 (.bsl 1 1 [.int .i64 0] [0] [.t 30]),o 32 (.app 1 8 (.t 29) (.t 31)),oM 6 32]))) (.ops [oM 16 7,oA 17 16,oM 7 17]))
def oe:SC:=.ops [oM 77 12,oA 78 77,oM 12 78]
def jN:SC:=.seq (sQ [oM 73 12,oM 74 6,oN 75 74,VH 76 .lss 73 75] (.cond (.t 76) (.skip) (.exit 4))) (.seq (.blk 5 (sQ [oM 79 12,oM 80 9,VH 81 .neq 79 80,oM 82 81,VQ 83 82 true 12,VQ 84 82 true 10,VU 85 82 true .neq 83 84,VO 86 82 85] (.cond (.t 86) (.ops [oM 87 11,oM 88 6,oM 89 12,oX 90 88 89,oL 91 90,o 92 (.bsl 1 1 [.int .i64 0] [0] [.t 91]),o 93 (.app 1 8 (.t 87) (.t 92)),oM 11 93]) (.skip)))) oe)
def oh:SC:=.ops [oM 94 11,oM 95 5,oN 96 95,VI 97 .sub 96 1,o 98 (.bsl 1 1 [.int .i64 0] [0] [.t 97]),o 99 (.app 1 8 (.t 94) (.t 98)),oM 6 99]
def ol:SC:=.ops [oM 37 8,oA 38 37,oM 8 38]
def od:SC:=.seq (sQ [oM 33 8,oM 34 0,VI 35 .sub 34 1,VH 36 .lss 33 35] (.cond (.t 36) (.skip) (.exit 2))) (.seq (.blk 3 (sQ [oM 39 8,o 40 (.ixa 8 1 (.t 3) (.t 39)),oL 41 40,o 42 (.conv .i64 (.t 41)),oM 43 6,oN 44 43,VH 45 .rem 42 44,oM 9 45] (sQ [oM 46 9,oA 47 46,oM 48 8,o 49 (.ixa 8 1 (.t 3) (.t 48)),oL 50 49,o 51 (.bin .quo (.t 50) (.k (.int .u8 8))),o 52 (.conv .i64 (.t 51)),oM 53 6,oN 54 53,VI 55 .sub 54 1,VH 56 .rem 52 55,VH 57 .add 47 56,oM 58 6,oN 59 58,VH 60 .rem 57 59,oM 10 60] (.seq (.feet [0,0,0,6,14,0,0,96,224,510,1022,2047,4095] [oM 61 5,oM 62 6,oM 63 9,oX 64 62 63,oL 65 64,oM 66 6,oM 67 10,oX 68 66 67,oL 69 68,o 70 (.build [.int .i64 0,.int .i64 0,.int .i64 0] [(0,1),(1,1),(2,1)] [.k (.int .i64 (-1)),.t 65,.t 69]),o 71 (.bsl 3 1 [.int .i64 0,.int .i64 0,.int .i64 0] [0] [.t 70]),o 72 (.app 3 24 (.t 61) (.t 71)),oM 5 72]) (sQ [o 11 (.mv (.k (.nils)))] (.seq (sQ [oK 12 0] (.blk 4 (.loop jN))) oh)))))) ol)
def om:SC:=sQ [oM 100 5,oM 4 100] (.ret)
def oo:SC:=.seq (sQ [oK 8 0] (.blk 2 (.loop od))) om
def pY:SC:=sQ [o 5 (.mv (.k (.nils)))] (sQ [o 6 (.mv (.k (.nils)))] (.seq (sQ [oK 7 0] (.blk 0 (.loop n_))) oo))
def ni:SF:=⟨101,[.tm 4],sQ [o 3 (.box (.t 1)),o 4 (.mv (.k (.nils)))] pY⟩
def il:SC:=.ops [oM 34 5,oM 35 7,o 36 (.bsl 1 1 [.int .i64 0] [0] [.t 35]),o 37 (.app 1 8 (.t 34) (.t 36)),oM 5 37]
def tY:SC:=.ops [oM 13 6,oA 14 13,oM 6 14]
def tX:SC:=.seq (sQ [oM 8 6,oF 9 1 3,oL 10 9,oN 11 10,VH 12 .lss 8 11] (.cond (.t 12) (.skip) (.exit 0))) (.seq (.blk 1 (sQ [oK 7 (-1)] (.seq (sQ [oF 15 0 2,oL 16 15,oM 17 6,o 18 (.conv .u64 (.t 17)),VH 19 .shr 16 18,o 20 (.bin .and (.t 19) (.k (.int .u8 1))),o 21 (.bin .eql (.t 20) (.k (.int .u8 1)))] (.cond (.t 21) (.quiet [oM 22 6,oF 23 1 2,o 24 (.ixa 8 1 (.t 23) (.t 22)),oL 25 24,o 26 (.conv .i64 (.t 25)),oF 27 1 3,oL 28 27,oM 29 6,VP 30 3 28 29,oF 31 0 30,oL 32 31,VH 33 .rem 26 32,oM 7 33]) (.skip))) il))) tY)
def mf:SC:=sQ [oM 38 5,oM 4 38] (.ret)
def m8:SC:=sQ [o 5 (.mv (.k (.nils)))] (.seq (sQ [oK 6 0] (.blk 0 (.loop tX))) mf)
def kJ:SF:=⟨39,[.tm 4],sQ [o 2 (.box (.t 0)),o 3 (.box (.t 1)),o 4 (.mv (.k (.nils)))] m8⟩
def mX:SC:=.seq (sQ [VJ 15 2 4,oM 16 1,o 17 (.call N.aM [.t 15,.t 16]),oM 11 17] (sQ [oM 18 11,VI 19 .neq 18 0] (.cond (.t 19) (sQ [o 20 (.build [.int .i64 0,.int .i64 0] [] []),oM 21 11,VL 2 8 20,oK 9 0,oM 10 21] (.ret)) (.skip)))) (.seq (sQ [VJ 22 2 4,oM 23 2,o 24 (.call N.aZ [.t 22,.t 23]),oM 12 24] (sQ [oM 25 12,VI 26 .neq 25 0] (.cond (.t 26) (sQ [o 27 (.build [.int .i64 0,.int .i64 0] [] []),oM 28 12,VL 2 8 27,oK 9 0,oM 10 28] (.ret)) (.skip)))) (.seq (sQ [oM 29 3,VI 30 .lss 29 0,oM 31 30,VQ 32 31 false 3,VV 33 31 false .gtr 32 1000,VN 34 31 33] (.cond (.t 34) (sQ [o 35 (.build [.int .i64 0,.int .i64 0] [] []),VL 2 8 35,oK 9 0,oK 10 2] (.ret)) (.skip))) (sQ [VJ 36 2 4,oM 37 1,oM 38 2,oM 39 3,o 40 (.call N.be [.t 36,.t 37,.t 38,.t 39]),oM 13 40] (sQ [oM 41 13,o 42 (.call N.bf [.t 41]),oM 14 42] (.seq (.feet [0,0,2,6,14,30,0,64,192,448,960,1984,4094,8191,0,16384,49152,114688,16383,524287,1048575] [oM 43 14,oM 44 13,VM 45 44,oF 46 0 45,oF 47 0 46,oL 48 47,oM 49 13,VM 50 49,oF 51 0 50,oF 52 1 51,oL 53 52,oN 54 53,o 55 (.call N.aX [.t 48,.t 54]),o 56 (.call N.aC [.t 43,.t 55]),oM 57 13,VM 58 57,oF 59 8 58,oL 60 59,VL 2 8 56,oM 9 60,oK 10 0]) (.ret))))))
def kI:SF:=⟨61,[.cell true 2 8,.tm 9,.tm 10],sQ [o 4 (.box (.t 0)),o 8 (.alloc [.int .i64 0,.int .i64 0]),oK 9 0,oK 10 0] mX⟩
def sw:SC:=sQ [VJ 10 2 2,oM 11 1,o 12 (.bsl 1 1 [.nils] [0] [.t 11]),o 13 (.call N.bi [.t 10,.t 12]),oM 9 13,VK 14 9 0,VK 15 9 1,o 6 (.alloc [.int .i64 0,.nils,.nils,.nils]),VL 4 6 14,oM 7 15] (.seq (sQ [oM 16 7,VI 17 .neq 16 0] (.cond (.t 17) (sQ [o 18 (.build [.int .i64 0,.int .i64 0] [] []),oM 19 7,VL 2 4 18,oM 5 19] (.ret)) (.skip))) (sQ [VJ 21 2 2,o 22 (.call N.aN [.t 21]),oM 20 22,VK 23 20 0,VK 24 20 1,oM 8 23,oM 7 24] (.seq (sQ [oM 25 7,VI 26 .neq 25 0] (.cond (.t 26) (sQ [o 27 (.build [.int .i64 0,.int .i64 0] [] []),oM 28 7,VL 2 4 27,oM 5 28] (.ret)) (.skip))) (sQ [VJ 29 4 6,oM 30 1,o 31 (.call N.bk [.t 29,.t 30]),oM 32 8,o 33 (.call N.aH [.t 31,.t 32]),VK 34 33 0,VK 35 33 1,VL 2 4 34,oM 5 35] (.ret)))))
def qB:SF:=⟨36,[.cell true 2 4,.tm 5],sQ [o 2 (.box (.t 0)),o 4 (.alloc [.int .i64 0,.int .i64 0]),oK 5 0] sw⟩
def ie:SC:=sQ [VH 32 .lss 31 30] (.seq (.cond (.t 32) (.skip) (.exit 0)) (.seq (.blk 1 (sQ [oM 33 31,oX 34 29 31,oL 35 34,oM 9 33,oM 10 35] (sQ [oM 36 8,oM 37 8,VM 38 37,oF 39 0 38,oL 40 39,oM 41 9,o 42 (.build [.int .i64 0,.int .i64 0,.int .i64 0] [(0,1),(1,1),(2,1)] [.t 41,.k (.int .i64 (-1)),.k (.int .i64 (-1))]),o 43 (.bsl 3 1 [.int .i64 0,.int .i64 0,.int .i64 0] [0] [.t 42]),o 44 (.app 3 24 (.t 40) (.t 43)),VM 45 36,oF 46 0 45,VL 1 46 44] (.feet [0,0,2,6,14,0,0,0,128,448,992,2016,4094,8191,16383,32767] [oM 47 8,oM 48 8,VM 49 48,oF 50 1 49,oL 51 50,oM 52 9,oM 53 10,oM 54 9,o 55 (.bin .shl (.k (.int .u64 1)) (.t 54)),VH 56 .or 53 55,o 57 (.build [.int .i64 0,.int .u64 0] [(0,1),(1,1)] [.t 52,.t 56]),o 58 (.bsl 2 1 [.int .i64 0,.int .u64 0] [0] [.t 57]),o 59 (.app 2 16 (.t 51) (.t 58)),VM 60 47,oF 61 1 60,VL 1 61 59])))) (.ops [oA 62 31,oM 31 62])))
def ig:SC:=sQ [VH 66 .lss 65 64] (.seq (.cond (.t 66) (.skip) (.exit 2)) (.seq (.blk 3 (sQ [oX 67 63 65,oL 68 67,o 12 (.alloc [.int .i64 0]),VL 1 12 68] (.ops [oM 69 8,o 70 (.mkf N.ba [] [.t 12]),o 71 (.call N.aE [.t 69,.t 70])]))) (.ops [oA 72 65,oM 65 72])))
def l9:SC:=sQ [oM 73 8,o 74 (.call N.aE [.t 73,.k (.clo 46 [] [])])] (sQ [oM 75 8,VM 76 75,oF 77 0 76,oL 78 77,oM 4 78,oK 5 0] (.ret))
def l_:SC:=.seq (sQ [oM 63 1,oN 64 63,oK 65 0] (.blk 2 (.loop ig))) l9
def mW:SC:=sQ [VJ 14 2 2,o 15 (.call N.br [.t 14]),oM 13 15,VK 16 13 0,VK 17 13 1,oM 6 16,oM 7 17] (.seq (sQ [oM 18 7,VI 19 .neq 18 0] (.cond (.t 19) (sQ [oM 20 7,o 4 (.mv (.k (.nils))),oM 5 20] (.ret)) (.skip))) (.seq (sQ [oM 21 1,oF 22 1 2,oL 23 22,oN 24 23,o 25 (.call N.bc [.t 21,.t 24]),o 26 (.not (.t 25))] (.cond (.t 26) (sQ [o 4 (.mv (.k (.nils))),oK 5 2] (.ret)) (.skip))) (sQ [o 27 (.build [.nils,.nils] [] []),o 28 (.box (.t 27)),oM 8 28] (.seq (sQ [oM 29 6,oN 30 29,oK 31 0] (.blk 0 (.loop ie))) l_))))
def kH:SF:=⟨79,[.tm 4,.tm 5],sQ [o 2 (.box (.t 0)),o 4 (.mv (.k (.nils))),oK 5 0] mW⟩
def vK:SC:=.seq (sQ [oM 11 8,oM 12 0,VH 13 .lss 11 12] (.cond (.t 13) (.skip) (.exit 0))) (.seq (.blk 1 (.seq (sQ [oM 16 8,oM 17 1,VH 18 .eql 16 17] (.cond (.t 18) (.exit 1) (.skip))) (sQ [oM 19 8,VI 20 .rem 19 8,o 21 (.ixa 8 1 (.t 5) (.t 20)),oL 22 21,o 23 (.conv .i64 (.t 22)),oM 24 7,oN 25 24,oA 26 25,VH 27 .rem 23 26,oM 9 27] (sQ [o 10 (.mv (.k (.nils)))] (sQ [oM 28 10,oM 29 7,oM 30 9,o 31 (.slc 1 (.t 29) [] [.t 30]),o 32 (.app 1 8 (.t 28) (.t 31)),oM 33 8,o 34 (.bsl 1 1 [.int .i64 0] [0] [.t 33]),o 35 (.app 1 8 (.t 32) (.t 34)),oM 10 35] (.ops [oM 36 10,oM 37 7,oM 38 9,o 39 (.slc 1 (.t 37) [.t 38] []),o 40 (.app 1 8 (.t 36) (.t 39)),oM 7 40])))))) (.ops [oM 14 8,oA 15 14,oM 8 15]))
def nZ:SC:=sQ [oM 41 7,oM 6 41] (.ret)
def pX:SC:=sQ [o 7 (.mv (.k (.nils)))] (.seq (sQ [oK 8 0] (.blk 0 (.loop vK))) nZ)
def nf:SF:=⟨42,[.tm 6],sQ [o 5 (.box (.t 2)),o 6 (.mv (.k (.nils)))] pX⟩
def sj:SC:=.ops [oA 121 32,oM 32 121]
def lz:SC:=sQ [VH 33 .lss 32 31] (.seq (.cond (.t 33) (.skip) (.exit 0)) (.seq (.blk 1 (sQ [oM 34 32,VP 35 3 30 32,VJ 36 3 35,o 10 (.alloc [.int .i64 0,.int .i64 0,.int .i64 0]),oM 9 34,VL 3 10 36] (.blk 2 (sQ [oF 42 0 10,oL 43 42,VI 44 .eql 43 (-1),oM 41 44] (.cond (.t 41) (.seq (sQ [oF 45 1 10,oL 46 45,VI 47 .lss 46 0,oM 48 47,VT 49 48 false 1 10,VR 50 48 false 49,VQ 51 48 false 9,VU 52 48 false .geq 50 51,VN 53 48 52,oM 54 53,VT 55 54 false 2 10,VR 56 54 false 55,VV 57 54 false .lss 56 0,VN 58 54 57,oM 59 58,VT 60 59 false 2 10,VR 61 59 false 60,VQ 62 59 false 9,VU 63 59 false .geq 61 62,VN 64 59 63,oM 65 64,VT 66 65 false 1 10,VR 67 65 false 66,VT 68 65 false 2 10,VR 69 65 false 68,VU 70 65 false .eql 67 69,VN 71 65 70,oM 72 71,VQ 73 72 false 8,VT 74 72 false 1 10,VR 75 72 false 74,og 76 72 false (.ixs 1 (.t 73) (.t 75)),VR 77 72 false 76,VN 78 72 77,oM 79 78,VQ 80 79 false 8,VT 81 79 false 2 10,VR 82 79 false 81,og 83 79 false (.ixs 1 (.t 80) (.t 82)),VR 84 79 false 83,VN 85 79 84] (.cond (.t 85) (sQ [oK 4 130] (.ret)) (.skip))) (.feet [0,0,2,0,0,16,7,71,255,511] [oM 86 8,oF 87 1 10,oL 88 87,oM 89 8,oF 90 2 10,oL 91 90,oX 92 86 88,oz (.store 1 (.t 92) (.k (.bool true))),oX 93 89 91,oz (.store 1 (.t 93) (.k (.bool true)))])) (sQ [oF 95 0 10,oL 96 95,VI 97 .lss 96 0,oM 98 97,VT 99 98 false 0 10,VR 100 98 false 99,VQ 101 98 false 6,VU 102 98 false .geq 100 101,VN 103 98 102,oM 104 103,VT 105 104 false 1 10,VR 106 104 false 105,VV 107 104 false .neq 106 (-1),VN 108 104 107,oM 109 108,VT 110 109 false 2 10,VR 111 109 false 110,VV 112 109 false .neq 111 (-1),VN 113 109 112,oM 114 113,VQ 115 114 false 7,VT 116 114 false 0 10,VR 117 114 false 116,og 118 114 false (.ixs 1 (.t 115) (.t 117)),VR 119 114 false 118,VN 120 114 119,oM 94 120] (.cond (.t 94) (sQ [oK 4 130] (.ret)) (.ops [oM 37 7,oF 38 0 10,oL 39 38,oX 40 37 39,oz (.store 1 (.t 40) (.k (.bool true)))])))))))) sj))
def dE:SC:=.seq (sQ [oM 122 7,o 123 (.call N.aS [.t 122,.k (.bool false)]),oM 124 123,VQ 125 124 false 8,VQ 126 124 false 1,VW 127 124 false 126,VV 128 124 false .sub 127 1,og 129 124 false (.slc 1 (.t 125) [] [.t 128]),og 130 124 false (.call N.aS [.t 129,.k (.bool false)]),VN 131 124 130] (.cond (.t 131) (sQ [oK 4 130] (.ret)) (.skip))) (sQ [oK 4 0] (.ret))
def l8:SC:=.seq (sQ [VJ 11 2 2,o 12 (.call N.bo [.t 11]),oM 5 12] (sQ [oM 13 5,VI 14 .neq 13 0] (.cond (.t 14) (sQ [oM 15 5,oM 4 15] (.ret)) (.skip)))) (sQ [oF 16 1 2,oL 17 16,oN 18 17,oM 6 18] (.seq (sQ [oM 19 1,oN 20 19,oM 21 6,o 22 (.bin .mul (qI 2) (.t 21)),VI 23 .sub 22 1,VH 24 .neq 20 23] (.cond (.t 24) (sQ [oK 4 130] (.ret)) (.skip))) (.seq (.feet [0,1,0,4,12,3,63] [oM 25 6,o 26 (.mks 1 1 [.bool false] (.t 25) (.t 25)),oM 27 1,oN 28 27,o 29 (.mks 1 1 [.bool false] (.t 28) (.t 28)),oM 7 26,oM 8 29]) (.seq (sQ [oM 30 1,oN 31 30,oK 32 0] (.blk 0 (.loop lz))) dE))))
def jD:SF:=⟨132,[.tm 4],sQ [o 2 (.box (.t 0)),oK 4 0] l8⟩
def cy:SC:=sQ [o 6 (.mv (.k (.nils)))] (sQ [oM 28 6,oM 29 3,oM 30 5,o 31 (.slc 1 (.t 29) [] [.t 30]),o 32 (.app 1 8 (.t 28) (.t 31)),oM 33 4,o 34 (.bsl 1 1 [.int .i64 0] [0] [.t 33]),o 35 (.app 1 8 (.t 32) (.t 34)),oM 6 35] (.ops [oM 36 6,oM 37 3,oM 38 5,o 39 (.slc 1 (.t 37) [.t 38] []),o 40 (.app 1 8 (.t 36) (.t 39)),oM 3 40]))
def lU:SC:=.ops [oM 12 4,oA 13 12,oM 4 13]
def lT:SC:=.seq (sQ [oM 7 4,VJ 8 3 1,o 9 (.call N.bA [.t 8]),oN 10 9,VH 11 .lss 7 10] (.cond (.t 11) (.skip) (.exit 0))) (.seq (.blk 1 (sQ [oK 5 0] (.seq (sQ [oM 14 4,oF 15 2 1,oL 16 15,oN 17 16,VH 18 .lss 14 17] (.cond (.t 18) (.ops [oF 19 2 1,oL 20 19,oM 21 4,oX 22 20 21,oL 23 22,o 24 (.conv .i64 (.t 23)),oM 25 4,oA 26 25,VH 27 .rem 24 26,oM 5 27]) (.skip))) cy))) lU)
def fj:SC:=sQ [oM 41 3,oM 2 41] (.ret)
def fQ:SC:=sQ [o 3 (.mv (.k (.nils)))] (.seq (sQ [oK 4 0] (.blk 0 (.loop lT))) fj)
def dx:SF:=⟨42,[.tm 2],sQ [o 1 (.box (.t 0)),o 2 (.mv (.k (.nils)))] fQ⟩
def yd:SC:=.seq (sQ [oM 5 4,oM 6 0,oN 7 6,VH 8 .lss 5 7] (.cond (.t 8) (.skip) (.exit 0))) (.seq (.blk 1 (.ops [oM 11 3,oM 12 0,oM 13 4,oX 14 12 13,oL 15 14,VH 16 .mul 11 15,oM 3 16])) (.ops [oM 9 4,oA 10 9,oM 4 10]))
def rC:SC:=sQ [oM 17 3,oM 2 17] (.ret)
def qE:SF:=⟨18,[.tm 2],sQ [oK 2 0] (sQ [oK 3 1] (.seq (sQ [oK 4 0] (.blk 0 (.loop yd))) rC))⟩
def j_:SC:=.seq (.quiet [VJ 5 2 2,o 6 (.call N.bB [.t 5]),oF 7 1 2,oL 8 7,oM 9 1,VP 10 3 8 9,oF 11 1 10,oL 12 11,o 13 (.call N.bz [.t 6,.t 12]),oM 4 13]) (.ret)
def im:SF:=⟨14,[.tm 4],sQ [o 2 (.box (.t 0)),o 4 (.mv (.k (.nils)))] j_⟩
def sN:SC:=.ops [oM 39 10,oM 40 9,oM 41 11,oX 42 40 41,oL 43 42,VH 44 .add 39 43,oM 10 44]
def sO:SC:=.ops [oM 20 11,oA 21 20,oM 11 21]
def m9:SC:=.seq (sQ [oM 17 11,oM 18 1,VH 19 .lss 17 18] (.cond (.t 19) (.skip) (.exit 0))) (.seq (.blk 1 (.seq (sQ [oM 22 2,oN 23 22,VI 24 .gtr 23 0] (.cond (.t 24) (.ops [oM 25 9,oM 26 11,oM 27 2,oM 28 3,oM 29 11,VH 30 .add 28 29,oM 31 2,oN 32 31,VH 33 .rem 30 32,oX 34 27 33,oL 35 34,o 36 (.bin .rem (.t 35) (.k (.int .u8 8))),o 37 (.conv .i64 (.t 36)),oX 38 25 26,VL 1 38 37]) (.skip))) sN)) sO)
def sP:SC:=.ops [oM 68 12,oM 69 9,oM 70 14,oX 71 69 70,oL 72 71,VH 73 .sub 68 72,oM 12 73]
def sR:SC:=.ops [oM 49 14,oA 50 49,oM 14 50]
def m_:SC:=.seq (sQ [oM 46 14,oM 47 1,VH 48 .lss 46 47] (.cond (.t 48) (.skip) (.exit 2))) (.seq (.blk 3 (.seq (sQ [oM 51 9,oM 52 14,oX 53 51 52,oL 54 53,VI 55 .gtr 54 0] (.cond (.t 55) (sQ [oM 56 9,oM 57 14,oM 58 0,oM 59 9,oM 60 14,oX 61 59 60,oL 62 61,VH 63 .mul 58 62,oM 64 10,VH 65 .quo 63 64,oX 66 56 57,VL 1 66 65] (.ops [oM 67 14,oM 13 67])) (.skip))) sP)) sR)
def sS:SC:=sQ [oM 74 9,oM 75 13,oM 76 9,oM 77 13,oX 78 76 77,oL 79 78,oM 80 12,VH 81 .add 79 80,oX 82 74 75,VL 1 82 81] (sQ [oM 83 9,oM 8 83] (.ret))
def sT:SC:=sQ [oM 45 0,oM 12 45,oK 13 0] (.seq (sQ [oK 14 0] (.blk 2 (.loop m_))) sS)
def sM:SF:=⟨84,[.tm 8],sQ [o 8 (.mv (.k (.nils)))] (sQ [oM 15 1,o 16 (.mks 1 8 [.int .i64 0] (.t 15) (.t 15)),oM 9 16] (sQ [oK 10 0] (.seq (sQ [oK 11 0] (.blk 0 (.loop m9))) sT)))⟩
def jH:SC:=sQ [VH 27 .lss 26 25] (.seq (.cond (.t 27) (.skip) (.exit 0)) (.seq (.blk 1 (sQ [oM 28 26,oX 29 24 26,oL 30 29,oM 7 28,oM 8 30] (sQ [oM 31 8,VI 32 .lss 31 (-1),oM 33 32,VQ 34 33 false 8,VT 35 33 false 2 5,VR 36 33 false 35,VQ 37 33 false 7,og 38 33 false (.ixs 1 (.t 36) (.t 37)),VR 39 33 false 38,VU 40 33 false .geq 34 39,VN 41 33 40] (.cond (.t 41) (sQ [oK 4 2] (.ret)) (.skip))))) (.ops [oA 42 26,oM 26 42])))
def jI:SC:=sQ [oK 4 0] (.ret)
def j4:SC:=sQ [VJ 10 2 2,o 11 (.call N.ak [.t 10]),oM 9 11,VK 12 9 0,VK 13 9 1,o 5 (.alloc [.int .i64 0,.nils,.nils,.nils,.nils]),VL 5 5 12,oM 6 13] (.seq (sQ [oM 14 6,VI 15 .neq 14 0] (.cond (.t 15) (sQ [oM 16 6,oM 4 16] (.ret)) (.skip))) (.seq (sQ [oM 17 1,oN 18 17,oF 19 0 5,oF 20 1 19,oL 21 20,oN 22 21,VH 23 .neq 18 22] (.cond (.t 23) (sQ [oK 4 2] (.ret)) (.skip))) (.seq (sQ [oM 24 1,oN 25 24,oK 26 0] (.blk 0 (.loop jH))) jI)))
def ij:SF:=⟨43,[.tm 4],sQ [o 2 (.box (.t 0)),oK 4 0] j4⟩
def iq:SC:=.ops [oA 101 84,oM 84 101]
def dK:SC:=sQ [VH 85 .lss 84 83] (.seq (.cond (.t 85) (.skip) (.exit 2)) (.seq (.blk 3 (sQ [oX 86 82 84,oL 87 86,oM 15 87] (sQ [oM 88 1,oM 89 15,oX 90 88 89,oL 91 90,VI 92 .eql 91 (-1)] (.cond (.t 92) (.feet [0,0,3,7,0,16,63,127,255] [oM 93 10,oM 94 12,oX 95 93 94,oL 96 95,oM 97 15,o 98 (.bin .shl (.k (.int .u64 1)) (.t 97)),VH 99 .or 96 98,oX 100 93 94,VL 1 100 99]) (.skip))))) iq))
def ir:SC:=.ops [oA 102 46,oM 46 102]
def dL:SC:=sQ [VH 47 .lss 46 45] (.seq (.cond (.t 47) (.skip) (.exit 0)) (.seq (.blk 1 (sQ [oM 48 46,VP 49 3 44 46,VJ 50 3 49,o 13 (.alloc [.int .i64 0,.int .i64 0,.int .i64 0]),oM 12 48,VL 3 13 50] (.seq (sQ [oF 51 0 13,oL 52 51,VI 53 .eql 52 (-1)] (.cond (.t 53) (.seq (.feet [0,0,0,0,8,28,60,0,0,256,896,1920,4092,8191,16383] [oM 54 10,oM 55 12,oM 56 10,oF 57 1 13,oL 58 57,oX 59 56 58,oL 60 59,oM 61 10,oF 62 2 13,oL 63 62,oX 64 61 63,oL 65 64,VH 66 .or 60 65,oX 67 54 55,VL 1 67 66]) (.exit 1)) (.skip))) (.seq (.feet [0,1,3,7,15,0,32,127,255,511,1023,0,2048,6144,16383,32767,0] [oM 68 9,VM 69 68,oF 70 0 69,oF 71 1 70,oL 72 71,oF 73 0 13,oL 74 73,VP 75 3 72 74,oF 76 1 75,oL 77 76,o 78 (.call N.aa [.t 77]),oF 79 0 13,oL 80 79,o 81 (.bsl 1 1 [.int .i64 0] [0] [.t 80]),o 82 (.app 1 8 (.t 78) (.t 81)),oN 83 82,oK 84 0]) (.blk 2 (.loop dK)))))) ir))
def it:SC:=.ops [oM 108 16,VI 109 .sub 108 1,oM 16 109]
def dM:SC:=.seq (sQ [oM 106 16,VI 107 .geq 106 0] (.cond (.t 107) (.skip) (.exit 4))) (.seq (.blk 5 (.seq (.feet [0,1,3,7,0,0,0,96,224,0,0,1536,3584,8160,16383,32767] [oM 110 9,VM 111 110,oF 112 5 111,oL 113 112,oM 114 16,oM 115 10,oM 116 16,oX 117 115 116,oL 118 117,oM 119 11,oM 120 16,oX 121 119 120,oL 122 121,VH 123 .and 118 122,oX 124 113 114,VL 1 124 123]) (sQ [oM 125 2,oM 126 16,VP 127 3 125 126,VJ 128 3 127,o 17 (.alloc [.int .i64 0,.int .i64 0,.int .i64 0]),VL 3 17 128] (sQ [oF 129 0 17,oL 130 129,VI 131 .eql 130 (-1)] (.cond (.t 131) (.seq (.feet [0,1,3,7,0,0,0,64,224,480,0,0,2048,7168,15360,32736,0,0,196608,458752,1048544,2097151,4194303] [oM 132 9,VM 133 132,oF 134 4 133,oL 135 134,oM 136 16,oM 137 10,oF 138 1 17,oL 139 138,oX 140 137 139,oL 141 140,oM 142 10,oF 143 2 17,oL 144 143,oX 145 142 144,oL 146 145,VH 147 .and 141 146,oM 148 11,oM 149 16,oX 150 148 149,oL 151 150,VH 152 .andNot 147 151,oX 153 135 136,VL 1 153 152]) (.seq (.feet [0,0,2,0,0,24,56,0,128,384,896,0,3968,8064,16376,32767,65535] [oM 154 11,oF 155 1 17,oL 156 155,oM 157 11,oM 158 16,oX 159 157 158,oL 160 159,oM 161 9,VM 162 161,oF 163 4 162,oL 164 163,oM 165 16,oX 166 164 165,oL 167 166,VH 168 .or 160 167,oX 169 154 156,VL 1 169 168]) (.feet [0,0,2,0,0,16,56,120,255,511] [oM 170 11,oF 171 2 17,oL 172 171,oM 173 11,oF 174 1 17,oL 175 174,oX 176 173 175,oL 177 176,oX 178 170 172,VL 1 178 177]))) (.skip)))))) it)
def iy:SC:=sQ [oM 179 9,oM 8 179] (.ret)
def iz:SC:=.seq (sQ [oM 103 2,oN 104 103,VI 105 .sub 104 1,oM 16 105] (.blk 4 (.loop dM))) iy
def jc:SC:=.seq (.feet [0,0,0,4,0,0,63,127,255] [VJ 18 2 4,oM 19 2,oM 20 1,o 21 (.call N.aa [.t 20]),o 22 (.raw (.makeMap 88 none)),oM 23 3,o 24 (.build [.int .i64 0,.nils,.nils,.nils,.nils,.nils,.nilm,.int .i64 0,.int .i64 0] [(0,2),(2,1),(3,1),(6,1),(7,1)] [.t 18,.t 19,.t 21,.t 22,.t 23]),o 25 (.box (.t 24)),oM 9 25]) (.seq (.feet [0,0,0,4,12,0,32,96,29,285,797,2047,4095,8191] [oM 26 9,oM 27 9,oM 28 2,oN 29 28,o 30 (.mks 1 8 [.int .u64 0] (.t 29) (.t 29)),oM 31 2,oN 32 31,o 33 (.mks 1 8 [.int .u64 0] (.t 32) (.t 32)),VM 34 26,oF 35 4 34,VL 1 35 30,VM 36 27,oF 37 5 36,VL 1 37 33]) (.seq (.feet [0,1,3,0,8,24,7,127] [oM 38 2,oN 39 38,o 40 (.mks 1 8 [.int .u64 0] (.t 39) (.t 39)),oM 41 2,oN 42 41,o 43 (.mks 1 8 [.int .u64 0] (.t 42) (.t 42)),oM 10 40,oM 11 43]) (.seq (sQ [oM 44 2,oN 45 44,oK 46 0] (.blk 0 (.loop dL))) iz)))
def fE:SF:=⟨180,[.tm 8],sQ [o 4 (.box (.t 0)),o 8 (.mv (.k (.nilp)))] jc⟩
def iA:SC:=sQ [o 3 (.alloc [.nilf])] (sQ [o 4 (.mkf N.bg [] [.t 1,.t 3]),VL 1 3 4] (.seq (.feet [0,0,2,6,14,30,62,127,255] [oL 5 3,oL 6 1,VM 7 6,oF 8 2 7,oL 9 8,oN 10 9,VI 11 .sub 10 1,o 12 (.dyn (.t 5) [.t 11]),oM 2 12]) (.ret)))
def eR:SF:=⟨13,[.tm 2],sQ [o 1 (.box (.t 0)),oK 2 0] iA⟩
def kK:SC:=.seq (sQ [oM 12 6,VI 13 .neq 12 0] (.cond (.t 13) (.skip) (.exit 0))) (.blk 1 (.quiet [oM 14 6,oM 15 5,oM 16 6,VH 17 .rem 15 16,oM 5 14,oM 6 17]))
def pZ:SC:=.seq (.feet [0,0,3,0,0,24,63,127] [oM 18 0,oM 19 5,VH 20 .quo 18 19,oM 21 1,oM 22 5,VH 23 .quo 21 22,o 24 (.build [.int .i64 0,.int .i64 0] [(0,1),(1,1)] [.t 20,.t 23]),VL 2 4 24]) (.ret)
def rE:SC:=sQ [oM 7 0,oM 8 0,o 9 (.un .neg (.t 8)),o 10 (.mx (.t 7) (.t 9)),oM 11 1,oM 5 10,oM 6 11] (.seq (.blk 0 (.loop kK)) pZ)
def pj:SF:=⟨25,[.cell true 2 4],sQ [o 4 (.alloc [.int .i64 0,.int .i64 0])] rE⟩
def p_:SC:=sQ [VH 8 .lss 7 6] (.seq (.cond (.t 8) (.skip) (.exit 0)) (.seq (.blk 1 (.ops [oM 9 5,oM 10 0,VH 11 .mul 9 10,oM 5 11])) (.ops [oA 12 7,oM 7 12])))
def qa:SC:=sQ [oM 13 5,oM 4 13] (.ret)
def pk:SF:=⟨14,[.tm 4],sQ [oK 4 0] (sQ [oK 5 1] (.seq (sQ [oM 6 1,oK 7 0] (.blk 0 (.loop p_))) qa))⟩
def sB:SC:=sQ [VH 28 .lss 27 26] (.seq (.cond (.t 28) (.skip) (.exit 0)) (.seq (.blk 1 (sQ [oX 29 25 27,oL 30 29,oM 9 30] (sQ [VJ 31 2 2,oM 32 9,o 33 (.call N.aM [.t 31,.t 32]),oM 10 33] (sQ [oM 34 10,VI 35 .neq 34 0] (.cond (.t 35) (sQ [o 36 (.build [.int .i64 0,.nils,.nils,.nils] [] []),oM 37 10,VL 4 4 36,oM 5 37] (.ret)) (.skip)))))) (.ops [oA 38 27,oM 27 38])))
def mY:SC:=.seq (sQ [oM 64 15,VI 65 .geq 64 0] (.cond (.t 65) (.skip) (.exit 4))) (.seq (.blk 5 (.seq (.feet [0,1,0,7,15,0,32,0,224,480,0,2047,4095] [oF 68 3 11,oL 69 68,oM 70 12,oX 71 69 70,oL 72 71,oF 73 0 13,oL 74 73,oM 75 15,oX 76 74 75,oL 77 76,oM 78 14,oX 79 72 77,VL 1 79 78]) (.ops [oM 80 14,oF 81 1 13,oL 82 81,oM 83 15,oX 84 82 83,oL 85 84,VH 86 .mul 80 85,oM 14 86]))) (.ops [oM 66 15,VI 67 .sub 66 1,oM 15 67]))
def sC:SC:=.ops [oA 87 47,oM 47 87]
def mZ:SC:=sQ [VH 48 .lss 47 46] (.seq (.cond (.t 48) (.skip) (.exit 2)) (.seq (.blk 3 (sQ [oM 49 47,VP 50 3 45 47,VJ 51 3 50,o 13 (.alloc [.nils,.nils,.nils]),oM 12 49,VL 3 13 51] (.seq (.feet [0,1,0,0,8,24,56,127,255] [oF 52 3 11,oL 53 52,oM 54 12,oF 55 1 2,oL 56 55,oN 57 56,o 58 (.mks 1 8 [.int .i64 0] (.t 57) (.t 57)),oX 59 53 54,VL 1 59 58]) (sQ [oK 14 1] (sQ [oF 60 0 13,oL 61 60,oN 62 61,VI 63 .sub 62 1,oM 15 63] (.blk 4 (.loop mY))))))) sC))
def sD:SC:=sQ [VJ 88 4 11,VL 4 4 88,oK 5 0] (.ret)
def sE:SC:=.seq (.feet [0,0,0,4,12,31,0,127] [VJ 39 2 2,oM 40 6,oM 41 6,oN 42 41,o 43 (.mks 1 24 [.nils] (.t 42) (.t 42)),o 44 (.build [.int .i64 0,.nils,.nils,.nils] [(0,2),(2,1),(3,1)] [.t 39,.t 40,.t 43]),o 11 (.alloc [.int .i64 0,.nils,.nils,.nils]),VL 4 11 44]) (.seq (sQ [oM 45 6,oN 46 45,oK 47 0] (.blk 2 (.loop mZ))) sD)
def ub:SC:=sQ [VJ 17 2 2,o 18 (.call N.bp [.t 17]),oM 16 18,VK 19 16 0,VK 20 16 1,oM 6 19,oM 7 20] (.seq (sQ [oM 21 7,VI 22 .neq 21 0] (.cond (.t 22) (sQ [o 23 (.build [.int .i64 0,.nils,.nils,.nils] [] []),oM 24 7,VL 4 4 23,oM 5 24] (.ret)) (.skip))) (.seq (sQ [oM 25 1,oN 26 25,oK 27 0] (.blk 0 (.loop sB))) sE))
def sA:SF:=⟨89,[.cell true 4 4,.tm 5],sQ [o 2 (.box (.t 0)),o 4 (.alloc [.int .i64 0,.nils,.nils,.nils]),oK 5 0] ub⟩
def sH:SC:=sQ [VH 20 .lss 19 18] (.seq (.cond (.t 20) (.skip) (.exit 0)) (.seq (.blk 1 (.ops [oM 21 6,oF 22 0 4,oF 23 0 22,oL 24 23,VH 25 .mul 21 24,oM 6 25])) (.ops [oA 26 19,oM 19 26])))
def sI:SC:=sQ [oM 27 6,oM 2 27,oK 3 0] (.ret)
def ud:SC:=sQ [VJ 8 2 1,o 9 (.call N.ak [.t 8]),oM 7 9,VK 10 7 0,VK 11 7 1,o 4 (.alloc [.int .i64 0,.nils,.nils,.nils,.nils]),VL 5 4 10,oM 5 11] (.seq (sQ [oM 12 5,VI 13 .neq 12 0] (.cond (.t 13) (sQ [oM 14 5,oK 2 0,oM 3 14] (.ret)) (.skip))) (sQ [oK 6 1] (.seq (sQ [oF 15 0 4,oF 16 1 15,oL 17 16,oN 18 17,oK 19 0] (.blk 0 (.loop sH))) sI)))
def sG:SF:=⟨28,[.tm 2,.tm 3],sQ [o 1 (.box (.t 0)),oK 2 0,oK 3 0] ud⟩
def t_:SC:=.seq (sQ [oL 6 3,VI 7 .eql 6 0] (.cond (.t 7) (sQ [o 8 (.build [.int .i64 0,.int .i64 0] [] []),VL 2 4 8,oK 5 2] (.ret)) (.skip))) (sQ [o 9 (.mkf N.bh [] [.t 2,.t 3]),o 10 (.call N.aJ [.t 9]),VK 11 10 0,VK 12 10 1,VL 2 4 11,oM 5 12] (.ret))
def sn:SF:=⟨13,[.cell true 2 4,.tm 5],sQ [o 2 (.box (.t 0)),o 3 (.box (.t 1)),o 4 (.alloc [.int .i64 0,.int .i64 0]),oK 5 0] t_⟩
def iB:SC:=.ops [o 6 (.alloc [.int .i64 0,.int .i64 0,.nils]),VL 3 6 10]
def iC:SC:=.blk 1 (.ops [oL 11 5,oF 12 1 6,oL 13 12,VH 14 .add 11 13,VL 1 5 14])
def iD:SC:=sQ [oL 15 5,oM 4 15] (.ret)
def jd:SC:=sQ [o 5 (.alloc [.int .i64 0]),oz (.store 1 (.t 5) (qI 0))] (.seq (sQ [VJ 7 4 2,oM 8 1,o 9 (.call N.aL [.t 7,.t 8])] (.blk 0 (.rng 16 (.t 9) [10] iB iC))) iD)
def fF:SF:=⟨16,[.tm 4],sQ [o 2 (.box (.t 0)),oK 4 0] jd⟩
def rh:SC:=sQ [VJ 7 2 1,o 8 (.call N.ak [.t 7]),oM 6 8,VK 9 6 0,VK 10 6 1,o 4 (.alloc [.int .i64 0,.nils,.nils,.nils,.nils]),VL 5 4 9,oM 5 10] (sQ [oF 11 3 4,oL 12 11,oM 13 5,oM 2 12,oM 3 13] (.ret))
def o9:SF:=⟨14,[.tm 2,.tm 3],sQ [o 1 (.box (.t 0)),o 2 (.mv (.k (.nils))),oK 3 0] rh⟩
def jE:SC:=sQ [VH 15 .lss 14 13] (.seq (.cond (.t 15) (.skip) (.exit 0)) (.seq (.blk 1 (sQ [oX 16 12 14,oL 17 16,oM 7 17] (.seq (sQ [oM 18 7,VI 19 .lss 18 0,oM 20 19,VQ 21 20 false 7,VQ 22 20 false 1,VU 23 20 false .geq 21 22,VN 24 20 23,oM 25 24,VQ 26 25 false 5,VQ 27 25 false 7,VU 28 25 false .shr 26 27,og 29 25 false (.bin .and (.t 28) (.k (.int .u64 1))),og 30 25 false (.bin .eql (.t 29) (.k (.int .u64 1))),VN 31 25 30] (.cond (.t 31) (sQ [o 4 (.mv (.k (.bool false)))] (.ret)) (.skip))) (.ops [oM 32 5,oM 33 7,o 34 (.bin .shl (.k (.int .u64 1)) (.t 33)),VH 35 .or 32 34,oM 5 35])))) (.ops [oA 36 14,oM 14 36])))
def jF:SC:=sQ [o 4 (.mv (.k (.bool true)))] (.ret)
def dT:SF:=⟨37,[.tm 4],sQ [o 4 (.mv (.k (.bool false)))] (.seq (sQ [oM 8 0,oN 9 8,oM 10 1,VH 11 .neq 9 10] (.cond (.t 11) (sQ [o 4 (.mv (.k (.bool false)))] (.ret)) (.skip))) (sQ [o 5 (.mv (.k (.int .u64 0)))] (.seq (sQ [oM 12 0,oN 13 12,oK 14 0] (.blk 0 (.loop jE))) jF)))⟩
def gZ:SC:=.ops [oA 31 16,oM 16 31]
def dm:SC:=sQ [VH 17 .lss 16 15] (.seq (.cond (.t 17) (.skip) (.exit 0)) (.seq (.blk 1 (sQ [VP 18 2 14 16,VJ 19 2 18,o 7 (.alloc [.int .i64 0,.int .u64 0]),VL 2 7 19] (sQ [oM 20 1,VJ 21 2 7,o 22 (.dyn (.t 20) [.t 21])] (.cond (.t 22) (.ops [oM 23 4,VJ 24 2 7,o 25 (.bsl 2 1 [.int .i64 0,.int .u64 0] [0] [.t 24]),o 26 (.app 2 16 (.t 23) (.t 25)),oM 4 26]) (.ops [oM 27 5,VJ 28 2 7,o 29 (.bsl 2 1 [.int .i64 0,.int .u64 0] [0] [.t 28]),o 30 (.app 2 16 (.t 27) (.t 29)),oM 5 30]))))) gZ))
def dq:SC:=sQ [VH 42 .lss 41 40] (.seq (.cond (.t 42) (.skip) (.exit 2)) (.seq (.blk 3 (sQ [VP 43 2 39 41,VJ 44 2 43,o 10 (.alloc [.int .i64 0,.int .u64 0]),VL 2 10 44] (.seq (.feet [0,0,2,6,14,0,32,0,128,480,992,2046,4095,8191,16383] [oM 45 0,oM 46 0,VM 47 46,oF 48 0 47,oL 49 48,oF 50 0 8,oL 51 50,oF 52 0 10,oL 53 52,o 54 (.build [.int .i64 0,.int .i64 0,.int .i64 0] [(0,1),(1,1),(2,1)] [.k (.int .i64 (-1)),.t 51,.t 53]),o 55 (.bsl 3 1 [.int .i64 0,.int .i64 0,.int .i64 0] [0] [.t 54]),o 56 (.app 3 24 (.t 49) (.t 55)),VM 57 45,oF 58 0 57,VL 1 58 56]) (.feet [0,1,3,7,15,31,0,64,0,256,960,2047,4095] [oM 59 0,VM 60 59,oF 61 0 60,oL 62 61,oN 63 62,VI 64 .sub 63 1,oF 65 1 8,oL 66 65,oF 67 1 10,oL 68 67,VH 69 .or 66 68,o 70 (.build [.int .i64 0,.int .u64 0] [(0,1),(1,1)] [.t 64,.t 69]),VL 2 8 70])))) (.ops [oA 71 41,oM 41 71])))
def g7:SC:=sQ [oM 72 0,oM 73 5,VJ 74 2 8,o 75 (.bsl 2 1 [.int .i64 0,.int .u64 0] [0] [.t 74]),o 76 (.app 2 16 (.t 73) (.t 75)),VM 77 72,oF 78 1 77,VL 1 78 76] (.ops [oM 79 0,VM 80 79,oF 81 1 80,oL 82 81,o 83 (.call N.bH [.t 82,.k (.clo 80 [] [])])])
def dt:SC:=.seq (sQ [oM 32 4,oN 33 32,VI 34 .eql 33 0] (.cond (.t 34) (.ret) (.skip))) (sQ [oM 35 4,o 36 (.ixs 2 (.t 35) (qI 0)),VJ 37 2 36,o 8 (.alloc [.int .i64 0,.int .u64 0]),VL 2 8 37] (.seq (sQ [oM 38 4,o 39 (.slc 2 (.t 38) [.k (.int .i64 1)] []),oN 40 39,oK 41 0] (.blk 2 (.loop dq))) g7))
def eQ:SF:=⟨84,[],sQ [o 4 (.mv (.k (.nils))),o 5 (.mv (.k (.nils)))] (.seq (sQ [oM 11 0,VM 12 11,oF 13 1 12,oL 14 13,oN 15 14,oK 16 0] (.blk 0 (.loop dm))) dt)⟩
def lA:SC:=sQ [oF 4 1 2,oL 5 4,oL 6 1,VH 7 .shr 5 6,o 8 (.bin .and (.t 7) (.k (.int .u64 1))),o 9 (.bin .eql (.t 8) (.k (.int .u64 1))),oM 3 9] (.ret)
def iQ:SF:=⟨10,[.tm 3],sQ [o 2 (.box (.t 0)),o 3 (.mv (.k (.bool false)))] lA⟩
def lB:SC:=sQ [o 2 (.mv (.k (.bool true)))] (.ret)
def iS:SF:=⟨3,[.tm 2],sQ [o 1 (.box (.t 0)),o 2 (.mv (.k (.bool false)))] lB⟩
def uc:SC:=sQ [VJ 6 2 1,o 7 (.call N.ak [.t 6]),oM 5 7,VK 8 5 0,VK 9 5 1,o 3 (.alloc [.int .i64 0,.nils,.nils,.nils,.nils]),VL 5 3 8,oM 4 9] (sQ [oM 10 4,oM 2 10] (.ret))
def sF:SF:=⟨11,[.tm 2],sQ [o 1 (.box (.t 0)),oK 2 0] uc⟩
def dy:SF:=⟨9,[.tm 4],sQ [o 4 (.mv (.k (.bool false)))] (sQ [oM 5 0,oM 6 1,o 7 (.call N.bG [.t 5,.t 6]),VI 8 .geq 7 0,oM 4 8] (.ret))⟩
def qD:SC:=.seq (sQ [oM 5 4,oF 6 0 1,oL 7 6,oN 8 7,VH 9 .lss 5 8,oM 10 9,VQ 11 10 true 4,VV 12 10 true .lss 11 5,VO 13 10 12] (.cond (.t 13) (.skip) (.exit 0))) (.seq (.blk 1 (.ops [oM 16 3,oF 17 0 1,oL 18 17,oM 19 4,oX 20 18 19,oL 21 20,o 22 (.bin .rem (.t 21) (.k (.int .u8 4))),o 23 (.conv .i64 (.t 22)),o 24 (.bin .add (qI 1) (.t 23)),o 25 (.bsl 1 1 [.int .i64 0] [0] [.t 24]),o 26 (.app 1 8 (.t 16) (.t 25)),oM 3 26])) (.ops [oM 14 4,oA 15 14,oM 4 15]))
def jL:SC:=sQ [oM 27 3,oM 2 27] (.ret)
def j5:SC:=sQ [o 3 (.mv (.k (.nils)))] (.seq (sQ [oK 4 0] (.blk 0 (.loop qD))) jL)
def ik:SF:=⟨28,[.tm 2],sQ [o 1 (.box (.t 0)),o 2 (.mv (.k (.nils)))] j5⟩
def AO:SC:=.seq (sQ [oM 7 6,oM 8 1,oN 9 8,VH 10 .lss 7 9] (.cond (.t 10) (.skip) (.exit 0))) (.seq (.blk 1 (.ops [oM 13 5,oM 14 0,oM 15 1,oM 16 6,oX 17 15 16,oL 18 17,oX 19 14 18,oL 20 19,o 21 (.bsl 1 1 [.int .i64 0] [0] [.t 20]),o 22 (.app 1 8 (.t 13) (.t 21)),oM 5 22])) (.ops [oM 11 6,oA 12 11,oM 6 12]))
def ug:SC:=sQ [oM 23 5,oM 4 23] (.ret)
def uF:SF:=⟨24,[.tm 4],sQ [o 4 (.mv (.k (.nils)))] (sQ [o 5 (.mv (.k (.nils)))] (.seq (sQ [oK 6 0] (.blk 0 (.loop AO))) ug))⟩
def pV:SC:=.seq (sQ [oM 5 4,oF 6 1 1,oL 7 6,oN 8 7,VH 9 .lss 5 8] (.cond (.t 9) (.skip) (.exit 0))) (.seq (.blk 1 (.ops [oM 12 3,oF 13 1 1,oL 14 13,oM 15 4,VP 16 3 14 15,oF 17 0 16,oL 18 17,o 19 (.bsl 1 1 [.int .i64 0] [0] [.t 18]),o 20 (.app 1 8 (.t 12) (.t 19)),oM 3 20])) (.ops [oM 10 4,oA 11 10,oM 4 11]))
def pW:SC:=sQ [oM 21 3,oM 2 21] (.ret)
def rD:SC:=sQ [o 3 (.mv (.k (.nils)))] (.seq (sQ [oK 4 0] (.blk 0 (.loop pV))) pW)
def pi:SF:=⟨22,[.tm 2],sQ [o 1 (.box (.t 0)),o 2 (.mv (.k (.nils)))] rD⟩
def o_:SC:=sQ [VH 51 .lss 50 49] (.seq (.cond (.t 51) (.skip) (.exit 0)) (.seq (.blk 1 (sQ [oM 52 50,VP 53 3 48 50,VJ 54 3 53,o 7 (.alloc [.int .i64 0,.nils,.nils]),oM 6 52,VL 3 7 54] (.seq (sQ [oF 55 0 7,oL 56 55,VI 57 .lss 56 1,oM 58 57,VT 59 58 false 0 7,VR 60 58 false 59,VV 61 58 false .gtr 60 4,VN 62 58 61] (.cond (.t 62) (sQ [o 63 (.build [.int .i64 0,.nils,.nils,.nils,.nils] [] []),VL 5 2 63,oK 3 50] (.ret)) (.skip))) (sQ [oF 64 2 4,oL 65 64,oM 66 6,oF 67 0 7,oL 68 67,oX 69 65 66,VL 1 69 68] (.ops [oM 70 5,oF 71 0 7,oL 72 71,VH 73 .mul 70 72,oM 5 73]))))) (.ops [oA 74 50,oM 50 74])))
def pd:SC:=sQ [VH 91 .lss 90 89] (.seq (.cond (.t 91) (.skip) (.exit 4)) (.seq (.blk 5 (sQ [oX 92 88 90,oL 93 92,oM 12 93] (.seq (sQ [oM 94 12,oM 95 10,VH 96 .leq 94 95,oM 97 96,VQ 98 97 false 12,VT 99 97 false 0 4,VT 100 97 false 1 99,VR 101 97 false 100,VW 102 97 false 101,VU 103 97 false .geq 98 102,VN 104 97 103,oM 105 104,VQ 106 105 false 12,VQ 107 105 false 8,VU 108 105 false .eql 106 107,VN 109 105 108] (.cond (.t 109) (sQ [o 110 (.build [.int .i64 0,.nils,.nils,.nils,.nils] [] []),VL 5 2 110,oK 3 50] (.ret)) (.skip))) (sQ [oM 111 12,oM 10 111] (.feet [0,1,0,7,15,0,32,127,255,511] [oF 112 3 4,oL 113 112,oM 114 8,oX 115 113 114,oL 116 115,oM 117 12,o 118 (.bin .shl (.k (.int .u64 1)) (.t 117)),VH 119 .or 116 118,oX 120 113 114,VL 1 120 119]))))) (.ops [oA 121 90,oM 90 121])))
def pg:SC:=sQ [VJ 122 5 4,VJ 123 3 9,o 124 (.call N.aO [.t 122,.t 123]),o 125 (.not (.t 124))] (.cond (.t 125) (sQ [o 126 (.build [.int .i64 0,.nils,.nils,.nils,.nils] [] []),VL 5 2 126,oK 3 50] (.ret)) (.skip))
def ue:SC:=.ops [oA 127 82,oM 82 127]
def pf:SC:=sQ [VH 83 .lss 82 81] (.seq (.cond (.t 83) (.skip) (.exit 2)) (.seq (.blk 3 (sQ [oM 84 82,VP 85 3 80 82,VJ 86 3 85,o 9 (.alloc [.int .i64 0,.nils,.nils]),oM 8 84,VL 3 9 86] (sQ [oK 10 (-1)] (.seq (sQ [oF 87 1 9,oL 88 87,oN 89 88,oK 90 0] (.blk 4 (.loop pd))) pg)))) ue))
def ph:SC:=sQ [oF 129 3 4,oL 130 129,o 131 (.call N.bw [.t 130]),oM 128 131,VK 132 128 0,VK 133 128 1,oM 13 132,oM 14 133] (.seq (sQ [oM 134 14,o 135 (.not (.t 134))] (.cond (.t 135) (sQ [o 136 (.build [.int .i64 0,.nils,.nils,.nils,.nils] [] []),VL 5 2 136,oK 3 50] (.ret)) (.skip))) (sQ [oM 137 13,oF 138 4 4,VL 1 138 137] (sQ [VJ 139 5 4,VL 5 2 139,oK 3 0] (.ret))))
def uf:SC:=.seq (sQ [oM 75 5,VI 76 .gtr 75 1024] (.cond (.t 76) (sQ [o 77 (.build [.int .i64 0,.nils,.nils,.nils,.nils] [] []),VL 5 2 77,oK 3 50] (.ret)) (.skip))) (.seq (sQ [oF 78 0 4,oF 79 1 78,oL 80 79,oN 81 80,oK 82 0] (.blk 2 (.loop pf))) ph)
def vI:SC:=.seq (sQ [oF 15 0 1,oL 16 15,VI 17 .lss 16 1,oM 18 17,VT 19 18 false 0 1,VR 20 18 false 19,VV 21 18 false .gtr 20 60,VN 22 18 21,oM 23 22,VT 24 23 false 1 1,VR 25 23 false 24,VW 26 23 false 25,VV 27 23 false .lss 26 1,VN 28 23 27,oM 29 28,VT 30 29 false 1 1,VR 31 29 false 30,VW 32 29 false 31,VV 33 29 false .gtr 32 8,VN 34 29 33] (.cond (.t 34) (sQ [o 35 (.build [.int .i64 0,.nils,.nils,.nils,.nils] [] []),VL 5 2 35,oK 3 50] (.ret)) (.skip))) (.seq (.feet [0,0,2,6,14,0,32,96,224,511,0,2047] [VJ 36 2 1,oF 37 1 1,oL 38 37,oN 39 38,o 40 (.mks 1 8 [.int .i64 0] (.t 39) (.t 39)),oF 41 1 1,oL 42 41,oN 43 42,o 44 (.mks 1 8 [.int .u64 0] (.t 43) (.t 43)),o 45 (.build [.int .i64 0,.nils,.nils,.nils,.nils] [(0,2),(2,1),(3,1)] [.t 36,.t 40,.t 44]),o 4 (.alloc [.int .i64 0,.nils,.nils,.nils,.nils]),VL 5 4 45]) (sQ [oK 5 1] (.seq (sQ [oF 46 0 4,oF 47 1 46,oL 48 47,oN 49 48,oK 50 0] (.blk 0 (.loop o_))) uf)))
def m7:SF:=⟨140,[.cell true 5 2,.tm 3],sQ [o 1 (.box (.t 0)),o 2 (.alloc [.int .i64 0,.nils,.nils,.nils,.nils]),oK 3 0] vI⟩
def bu:SF:=⟨8,[.tm 2],sQ [o 2 (.mv (.k (.nils)))] (.seq (sQ [oM 3 0,o 4 (.eq false .slice (.t 3) (.k (.nils)))] (.cond (.t 4) (sQ [o 2 (.mv (.k (.nils)))] (.ret)) (.skip))) (sQ [o 5 (.bsl 1 0 [.int .i64 0] [] []),oM 6 0,o 7 (.app 1 8 (.t 5) (.t 6)),oM 2 7] (.ret)))⟩
def fK:SC:=.skip
def cF:SC:=.blk 1 (sQ [oL 63 2,oF 64 1 5,oL 65 64,o 66 (.dyn (.t 63) [.t 65]),oM 10 66] (.feet [0,0,0,0,8,28,62,127,255] [oL 67 9,oM 68 10,oL 69 2,oF 70 2 5,oL 71 70,o 72 (.dyn (.t 69) [.t 71]),VH 73 .mul 68 72,VH 74 .add 67 73,VL 1 9 74]))
def fL:SC:=sQ [oL 91 9,oM 4 91] (.ret)
def cG:SC:=.seq (.seq (.quiet [oL 75 1,VM 76 75,oF 77 6 76,oL 78 77,o 79 (.len .map (.t 78)),oL 80 1,VM 81 80,oF 82 7 81,oL 83 82,VH 84 .lss 79 83]) (.cond (.t 84) (.feet [0,1,3,7,0,0,63] [oL 85 1,VM 86 85,oF 87 6 86,oL 88 87,VJ 89 9 6,oL 90 9,oz (.raw (.mapUpdate 88 (.tmp 88) (.tmp 89) (.tmp 90)))]) (.skip))) fL
def bJ:SF:=⟨92,[.tm 4],sQ [oK 4 0] (sQ [oL 11 1,VM 12 11,oF 13 2 12,oL 14 13,oM 15 0,VP 16 3 14 15,VJ 17 3 16,o 5 (.alloc [.int .i64 0,.int .i64 0,.int .i64 0]),VL 3 5 17] (.seq (sQ [oF 18 0 5,oL 19 18,VI 20 .neq 19 (-1)] (.cond (.t 20) (sQ [oL 21 1,VM 22 21,oF 23 8 22,oL 24 23,oA 25 24,VM 26 21,oF 27 8 26,VL 1 27 25] (sQ [oL 28 1,oF 29 0 5,oL 30 29,o 31 (.call N.aF [.t 28,.t 30]),oM 4 31] (.ret))) (.skip))) (sQ [oL 32 1,oM 33 0,o 34 (.call N.aG [.t 32,.t 33]),o 6 (.alloc [.int .i64 0,.int .i64 0,.int .i64 0,.int .i64 0,.int .i64 0,.int .i64 0,.int .i64 0,.int .i64 0,.int .i64 0]),VL 9 6 34] (.seq (.seq (.quiet [oL 36 1,VM 37 36,oF 38 6 37,oL 39 38,VJ 40 9 6,o 41 (.raw (.lookup 88 (.tmp 39) (.tmp 40) true)),oM 35 41,VK 42 35 0,VK 43 35 1,oM 7 42,oM 8 43]) (sQ [oM 44 8] (.cond (.t 44) (sQ [oM 45 7,oM 4 45] (.ret)) (.skip)))) (sQ [oL 46 1,VM 47 46,oF 48 8 47,oL 49 48,oA 50 49,VM 51 46,oF 52 8 51,VL 1 52 50] (sQ [o 9 (.alloc [.int .i64 0]),oz (.store 1 (.t 9) (qI 0))] (.seq (.seq (.feet [0,0,2,6,14,0,62,126,255] [oL 53 1,oL 54 1,VM 55 54,oF 56 4 55,oL 57 56,oM 58 0,oX 59 57 58,oL 60 59,o 61 (.call N.aw [.t 53,.t 60])]) (.blk 0 (.rng 92 (.t 61) [62] fK cF))) cG)))))))⟩
def fX:SC:=.ops [oA 39 23,oM 23 39]
def cS:SC:=sQ [VH 24 .lss 23 22] (.seq (.cond (.t 24) (.skip) (.exit 0)) (.seq (.blk 1 (sQ [oX 25 21 23,oL 26 25,oM 7 26] (sQ [oL 27 2,VM 28 27,oF 29 3 28,oL 30 29,oM 31 7,oX 32 30 31,oL 33 32,VI 34 .eql 33 (-1)] (.cond (.t 34) (.ops [oM 35 5,oM 36 7,o 37 (.bin .shl (.k (.int .u64 1)) (.t 36)),VH 38 .or 35 37,oM 5 38]) (.skip))))) fX))
def fW:SC:=.skip
def bQ:SC:=.blk 3 (.feet [0,0,2,6,14,30,0,126,254,510,0,1024,3072,7168,15360,0,0,65536,196608,458752,1047552,2097150,4194302,0,8388608,25165824,58720256,0,260046848,528482304,1073741822,2147483646,4294967295,8589934591] [oL 44 8,oL 45 2,VM 46 45,oF 47 0 46,oF 48 1 47,oL 49 48,oL 50 3,VP 51 3 49 50,oF 52 2 51,oL 53 52,oL 54 2,VM 55 54,oF 56 0 55,oF 57 1 56,oL 58 57,oL 59 3,oL 60 2,VM 61 60,oF 62 3 61,oL 63 62,o 64 (.call N.aW [.t 58,.t 59,.t 63]),oX 65 53 64,oL 66 65,oL 67 2,VM 68 67,oF 69 3 68,oL 70 69,oL 71 3,oX 72 70 71,oL 73 72,oX 74 66 73,oL 75 74,VH 76 .add 44 75,VL 1 8 76])
def fY:SC:=sQ [oL 77 8,oM 4 77] (.ret)
def fZ:SC:=sQ [o 8 (.alloc [.int .i64 0]),oz (.store 1 (.t 8) (qI 0))] (.seq (sQ [oL 40 2,oM 41 5,o 42 (.call N.aw [.t 40,.t 41])] (.blk 2 (.rng 78 (.t 42) [43] fW bQ))) fY)
def g9:SC:=sQ [o 5 (.mv (.k (.int .u64 0)))] (.seq (.seq (.feet [0,1,3,7,15,0,63,127,255,511,0,1024,4095,8191,0] [oL 9 2,VM 10 9,oF 11 0 10,oF 12 1 11,oL 13 12,oL 14 3,VP 15 3 13 14,oF 16 1 15,oL 17 16,o 18 (.call N.aa [.t 17]),oL 19 3,o 20 (.bsl 1 1 [.int .i64 0] [0] [.t 19]),o 21 (.app 1 8 (.t 18) (.t 20)),oN 22 21,oK 23 0]) (.blk 0 (.loop cS))) fZ)
def eh:SF:=⟨78,[.tm 4],sQ [o 2 (.box (.t 0)),o 3 (.box (.t 1)),oK 4 0] g9⟩
def fN:SC:=.ops [oA 36 9,oM 9 36]
def fM:SC:=sQ [VI 10 .lss 9 8] (.seq (.cond (.t 10) (.skip) (.exit 0)) (.seq (.blk 1 (sQ [oM 11 9,oM 6 11] (sQ [oM 12 6,oF 13 1 5,o 14 (.ixa 8 1 (.t 13) (.t 12)),oz (.store 1 (.t 14) (qI (-1)))] (sQ [oM 15 0,VM 16 15,oF 17 5 16,oL 18 17,oM 19 1,oX 20 18 19,oL 21 20,oM 22 6,VH 23 .shr 21 22,o 24 (.bin .and (.t 23) (.k (.int .u64 1))),o 25 (.bin .eql (.t 24) (.k (.int .u64 1)))] (.cond (.t 25) (.ops [oM 26 6,oM 27 0,VM 28 27,oF 29 3 28,oL 30 29,oM 31 6,oX 32 30 31,oL 33 32,oF 34 1 5,o 35 (.ixa 8 1 (.t 34) (.t 26)),VL 1 35 33]) (.skip)))))) fN))
def fO:SC:=sQ [VJ 37 9 5,VL 9 4 37] (.ret)
def f_:SC:=sQ [oM 7 1,o 8 (.build [.int .i64 0,.int .i64 0,.int .i64 0,.int .i64 0,.int .i64 0,.int .i64 0,.int .i64 0,.int .i64 0,.int .i64 0] [(0,1)] [.t 7]),o 5 (.alloc [.int .i64 0,.int .i64 0,.int .i64 0,.int .i64 0,.int .i64 0,.int .i64 0,.int .i64 0,.int .i64 0,.int .i64 0]),VL 9 5 8] (.seq (sQ [oK 9 0] (.blk 0 (.loop fM))) fO)
def dN:SF:=⟨38,[.cell true 9 4],sQ [o 4 (.alloc [.int .i64 0,.int .i64 0,.int .i64 0,.int .i64 0,.int .i64 0,.int .i64 0,.int .i64 0,.int .i64 0,.int .i64 0])] f_⟩
def fJ:SC:=sQ [o 5 (.mkf N.ax [] [.t 2,.t 3]),oM 4 5] (.ret)
def du:SF:=⟨6,[.tm 4],sQ [o 2 (.box (.t 0)),o 3 (.box (.t 1)),o 4 (.mv (.k (.nilf)))] fJ⟩
def pT:SC:=sQ [VH 24 .lss 23 22] (.seq (.cond (.t 24) (.skip) (.exit 0)) (.seq (.blk 1 (sQ [oM 25 23,oM 7 25] (.ops [oM 26 6,oM 27 7,VJ 28 5 4,oM 29 7,o 30 (.call N.bu [.t 28,.t 29]),VP 31 3 26 27,VL 3 31 30]))) (.ops [oA 32 23,oM 23 32])))
def pU:SC:=sQ [oM 33 6,oM 2 33,oK 3 0] (.ret)
def rg:SC:=sQ [VJ 9 2 1,o 10 (.call N.ak [.t 9]),oM 8 10,VK 11 8 0,VK 12 8 1,o 4 (.alloc [.int .i64 0,.nils,.nils,.nils,.nils]),VL 5 4 11,oM 5 12] (.seq (sQ [oM 13 5,VI 14 .neq 13 0] (.cond (.t 14) (sQ [oM 15 5,o 2 (.mv (.k (.nils))),oM 3 15] (.ret)) (.skip))) (sQ [oF 16 0 4,oF 17 1 16,oL 18 17,oN 19 18,o 20 (.mks 3 72 [.nils,.nils,.nils] (.t 19) (.t 19)),oM 6 20] (.seq (sQ [oM 21 6,oN 22 21,oK 23 0] (.blk 0 (.loop pT))) pU)))
def o8:SF:=⟨34,[.tm 2,.tm 3],sQ [o 1 (.box (.t 0)),o 2 (.mv (.k (.nils))),oK 3 0] rg⟩
def md:SC:=sQ [o 4 (.mkf N.aK [] [.t 2,.t 3]),oz (.raw (.defer ⟨.value (.tmp 4),#[],#[]⟩))] (sQ [oM 5 0,o 6 (.dyn (.t 5) []),VL 2 2 6,oz (.store 1 (.t 3) (qI 0))] (.ret))
def jG:SF:=⟨7,[.cell true 2 2,.cell false 1 3],sQ [o 2 (.alloc [.int .i64 0,.int .i64 0]),o 3 (.alloc [.int .i64 0])] md⟩
def q_:SC:=.seq (.quiet [oL 4 0,o 5 (.call N.af [.t 4]),oL 6 1,o 7 (.call N.af [.t 6]),o 8 (.call N.aI [.t 5,.t 7]),oM 3 8]) (.seq (.feet [0,1,0,4,15,0,32,0,224,480,0,1120,0,7264,15456,32767,65535] [oL 9 0,VI 10 .lss 9 0,oL 11 1,VI 12 .lss 11 0,o 13 (.eq true .bool (.t 10) (.t 12)),oL 14 0,o 15 (.call N.af [.t 14]),oM 16 3,VH 17 .quo 15 16,o 18 (.build [.int .u64 0,.int .u64 0] [(0,1),(1,1)] [.k (.int .u64 0),.t 17]),oL 19 1,o 20 (.call N.af [.t 19]),oM 21 3,VH 22 .quo 20 21,o 23 (.build [.int .u64 0,.int .u64 0] [(0,1),(1,1)] [.k (.int .u64 0),.t 22]),o 24 (.call N.am [.t 13,.t 18,.t 23]),VL 2 2 24]) (.ret))
def o5:SF:=⟨25,[.cell true 2 2],sQ [o 2 (.alloc [.int .i64 0,.int .i64 0])] q_⟩
def pR:SC:=.seq (sQ [oM 5 1,o 6 (.bin .neq (.t 5) (.k (.int .u64 0)))] (.cond (.t 6) (.skip) (.exit 0))) (.blk 1 (.quiet [oM 7 1,oM 8 0,oM 9 1,VH 10 .rem 8 9,oM 0 7,oM 1 10]))
def pS:SC:=sQ [oM 11 0,oM 4 11] (.ret)
def o7:SF:=⟨12,[.tm 4],sQ [o 4 (.mv (.k (.int .u64 0)))] (.seq (.blk 0 (.loop pR)) pS)⟩
def su:SF:=⟨10,[.tm 2],sQ [o 2 (.mv (.k (.int .u64 0)))] (.seq (sQ [oM 3 0,VI 4 .lss 3 0] (.cond (.t 4) (sQ [oM 5 0,o 6 (.conv .u64 (.t 5)),o 7 (.un .neg (.t 6)),oM 2 7] (.ret)) (.skip))) (sQ [oM 8 0,o 9 (.conv .u64 (.t 8)),oM 2 9] (.ret)))⟩
def ua:SC:=.seq (sQ [oM 27 0] (.cond (.t 27) (sQ [o 28 (.ixa 2 1 (.t 4) (qI 1)),oL 29 28,o 30 (.conv .i64 (.t 29)),o 31 (.un .neg (.t 30)),o 32 (.ixa 2 1 (.t 5) (qI 1)),oL 33 32,o 34 (.conv .i64 (.t 33)),o 35 (.build [.int .i64 0,.int .i64 0] [(0,1),(1,1)] [.t 31,.t 34]),VL 2 6 35] (.ret)) (.skip))) (sQ [o 36 (.ixa 2 1 (.t 4) (qI 1)),oL 37 36,o 38 (.conv .i64 (.t 37)),o 39 (.ixa 2 1 (.t 5) (qI 1)),oL 40 39,o 41 (.conv .i64 (.t 40)),o 42 (.build [.int .i64 0,.int .i64 0] [(0,1),(1,1)] [.t 38,.t 41]),VL 2 6 42] (.ret))
def vH:SC:=.seq (sQ [o 7 (.ixa 2 1 (.t 4) (qI 0)),oL 8 7,o 9 (.bin .neq (.t 8) (.k (.int .u64 0))),oM 10 9,og 11 10 false (.ixa 2 1 (.t 4) (qI 1)),VR 12 10 false 11,og 13 10 false (.bin .gtr (.t 12) (.k (.int .u64 4611686018427387903))),VN 14 10 13,oM 15 14,og 16 15 false (.ixa 2 1 (.t 5) (qI 0)),VR 17 15 false 16,og 18 15 false (.bin .neq (.t 17) (.k (.int .u64 0))),VN 19 15 18,oM 20 19,og 21 20 false (.ixa 2 1 (.t 5) (qI 1)),VR 22 20 false 21,og 23 20 false (.bin .gtr (.t 22) (.k (.int .u64 4611686018427387903))),VN 24 20 23] (.cond (.t 24) (.ops [o 25 (.build [] [] []),o 26 (.raw (.makeInterface 190 (.tmp 25))),oz (.raw (.panic (.tmp 26)))]) (.skip))) ua
def uD:SF:=⟨43,[.cell true 2 6],sQ [o 4 (.box (.t 1)),o 5 (.box (.t 2)),o 6 (.alloc [.int .i64 0,.int .i64 0])] vH⟩
def fP:SC:=sQ [o 5 (.mkf N.an [] [.t 2,.t 3]),oM 4 5] (.ret)
def dw:SF:=⟨6,[.tm 4],sQ [o 2 (.box (.t 0)),o 3 (.box (.t 1)),o 4 (.mv (.k (.nilf)))] fP⟩
def aV:SF:=⟨14,[],sQ [oM 5 0,oN 6 5,oM 4 6] (.ops [oM 7 0,oM 8 4,oM 9 4,o 10 (.conv .u64 (.t 9)),o 11 (.call N.ac [.t 10]),oM 12 1,o 13 (.call N.aU [.t 7,.k (.int .i64 0),.t 8,.t 11,.t 12])])⟩
def fV:SC:=sQ [oF 5 0 2,oL 6 5,oF 7 0 3,oL 8 7,VH 9 .sub 6 8,oM 4 9] (.ret)
def dJ:SF:=⟨10,[.tm 4],sQ [o 2 (.box (.t 0)),o 3 (.box (.t 1)),oK 4 0] fV⟩
def hZ:SC:=sQ [VH 9 .lss 8 7] (.seq (.cond (.t 9) (.skip) (.exit 0)) (.seq (.blk 1 (sQ [oM 10 8,oM 5 10] (sQ [oM 11 1,oM 12 0,oM 13 5,oX 14 12 13,oL 15 14,o 16 (.eq false .bool (.t 11) (.t 15))] (.cond (.t 16) (sQ [oM 17 5,oM 4 17] (.ret)) (.skip))))) (.ops [oA 18 8,oM 8 18])))
def h_:SC:=sQ [oK 4 (-1)] (.ret)
def eS:SF:=⟨19,[.tm 4],sQ [oK 4 0] (.seq (sQ [oM 6 0,oN 7 6,oK 8 0] (.blk 0 (.loop hZ))) h_)⟩
def jj:SC:=sQ [VH 17 .lss 16 15] (.seq (.cond (.t 17) (.skip) (.exit 0)) (.seq (.blk 1 (sQ [oX 18 14 16,oL 19 18,oM 7 19] (.ops [oM 20 5,oF 21 2 2,oL 22 21,oM 23 7,oX 24 22 23,oL 25 24,VH 26 .mul 20 25,oM 5 26]))) (.ops [oA 27 16,oM 16 27])))
def ji:SC:=.ops [oM 9 36]
def eE:SC:=sQ [VH 43 .lss 42 41] (.seq (.cond (.t 43) (.skip) (.exit 4)) (.seq (.blk 5 (sQ [oX 44 40 42,oL 45 44,oM 12 45] (.seq (sQ [oM 46 12,VI 47 .lss 46 0,oM 48 47,VQ 49 48 false 12,VQ 50 48 false 10,VU 51 48 false .gtr 49 50,VN 52 48 51] (.cond (.t 52) (sQ [oz (.store 1 (.t 4) (.k (.bool false)))] (.ret)) (.skip))) (.ops [oM 53 10,oM 54 12,VH 55 .sub 53 54,oM 10 55])))) (.ops [oA 56 42,oM 42 56])))
def cq:SC:=sQ [oM 57 9,oN 58 57,oF 59 0 3,oL 60 59,VH 61 .neq 58 60,oM 62 61,VQ 63 62 false 10,VV 64 62 false .neq 63 0,VN 65 62 64] (.cond (.t 65) (sQ [oz (.store 1 (.t 4) (.k (.bool false)))] (.ret)) (.skip))
def jk:SC:=.blk 3 (sQ [oF 37 0 2,oF 38 0 37,oL 39 38,oM 10 39] (.seq (sQ [oM 40 9,oN 41 40,oK 42 0] (.blk 4 (.loop eE))) cq))
def jl:SC:=sQ [oz (.store 1 (.t 4) (.k (.bool true)))] (.ret)
def jo:SC:=.seq (sQ [oF 28 2 3,oL 29 28,oN 30 29,oM 31 5,VH 32 .neq 30 31] (.cond (.t 32) (sQ [oz (.store 1 (.t 4) (.k (.bool false)))] (.ret)) (.skip))) (.seq (sQ [VJ 33 3 3,o 34 (.call N.aA [.t 33])] (.blk 2 (.rng 66 (.t 34) [35,36] ji jk))) jl)
def jK:SC:=sQ [oK 5 1] (.seq (sQ [oF 13 1 3,oL 14 13,oN 15 14,oK 16 0] (.blk 0 (.loop jj))) jo)
def gk:SF:=⟨66,[.cell false 1 4],sQ [o 2 (.box (.t 0)),o 3 (.box (.t 1)),o 4 (.alloc [.bool false])] jK⟩
def rm:SC:=sQ [VH 19 .lss 18 17] (.seq (.cond (.t 19) (.skip) (.exit 2)) (.seq (.blk 3 (sQ [oM 20 18,oX 21 16 18,oL 22 21,oM 6 20,oM 7 22] (sQ [oM 23 5,oM 24 6,VH 25 .shr 23 24,o 26 (.bin .and (.t 25) (.k (.int .u64 1))),o 27 (.bin .eql (.t 26) (.k (.int .u64 0))),oM 28 27,VQ 29 28 true 7,VQ 30 28 true 5,VU 31 28 true .andNot 29 30,og 32 28 true (.bin .eql (.t 31) (.k (.int .u64 0))),VO 33 28 32] (.cond (.t 33) (sQ [oM 34 4,oM 35 6,o 36 (.bsl 1 1 [.int .i64 0] [0] [.t 35]),o 37 (.app 1 8 (.t 34) (.t 36)),oM 4 37] (sQ [oM 38 5,oM 39 6,o 40 (.bin .shl (.k (.int .u64 1)) (.t 39)),VH 41 .or 38 40,oM 5 41] (.exit 1))) (.skip))))) (.ops [oA 42 18,oM 18 42])))
def rA:SC:=sQ [o 2 (.mv (.k (.nils))),o 3 (.mv (.k (.bool false)))] (.ret)
def ro:SC:=.seq (sQ [oM 11 4,oN 12 11,oM 13 0,oN 14 13,VH 15 .lss 12 14] (.cond (.t 15) (.skip) (.exit 0))) (.blk 1 (.seq (sQ [oM 16 0,oN 17 16,oK 18 0] (.blk 2 (.loop rm))) rA))
def rB:SC:=sQ [oM 43 4,oM 2 43,o 3 (.mv (.k (.bool true)))] (.ret)
def qC:SF:=⟨44,[.tm 2,.tm 3],sQ [o 2 (.mv (.k (.nils))),o 3 (.mv (.k (.bool false)))] (sQ [oM 8 0,oN 9 8,o 10 (.mks 1 8 [.int .i64 0] (qI 0) (.t 9)),oM 4 10,o 5 (.mv (.k (.int .u64 0)))] (.seq (.skip) (.seq (.blk 0 (.loop ro)) rB)))⟩
def sX:SC:=sQ [VH 17 .lss 16 15] (.seq (.cond (.t 17) (.skip) (.exit 0)) (.seq (.blk 1 (sQ [oX 18 14 16,oL 19 18,oM 9 19] (.quiet [oM 20 7,oM 21 0,oM 22 9,VP 23 3 21 22,oF 24 0 23,oL 25 24,VH 26 .mul 20 25,oM 27 2,oM 28 9,oX 29 27 28,oL 30 29,VH 31 .add 26 30,oM 7 31]))) (.ops [oA 32 16,oM 16 32])))
def sY:SC:=sQ [oM 33 7,oM 6 33] (.ret)
def sW:SF:=⟨34,[.tm 6],sQ [oK 6 0] (sQ [oK 7 0] (.seq (sQ [oM 10 0,oM 11 1,VP 12 3 10 11,oF 13 1 12,oL 14 13,oN 15 14,oK 16 0] (.blk 0 (.loop sX))) sY))⟩
def dY:SC:=.ops [oA 39 20,oM 20 39]
def bY:SC:=sQ [VH 21 .lss 20 19] (.seq (.cond (.t 21) (.skip) (.exit 0)) (.seq (.blk 1 (sQ [oM 22 20,VP 23 3 18 20,VJ 24 3 23,o 7 (.alloc [.int .i64 0,.nils,.nils]),oM 6 22,VL 3 7 24] (sQ [oL 25 2,oM 26 6,VH 27 .shr 25 26,o 28 (.bin .and (.t 27) (.k (.int .u64 1))),o 29 (.bin .eql (.t 28) (.k (.int .u64 1)))] (.cond (.t 29) (.feet [0,0,2,7,0,0,32,96,255,511,1023] [oL 30 4,oM 31 6,o 32 (.bsl 1 1 [.int .i64 0] [0] [.t 31]),o 33 (.app 1 8 (.t 30) (.t 32)),oM 34 5,oF 35 0 7,oL 36 35,o 37 (.bsl 1 1 [.int .i64 0] [0] [.t 36]),o 38 (.app 1 8 (.t 34) (.t 37)),VL 1 4 33,oM 5 38]) (.skip))))) dY))
def dW:SC:=sQ [oM 8 42] (.ops [oM 9 43])
def bZ:SC:=sQ [VH 47 .lss 46 45] (.seq (.cond (.t 47) (.skip) (.exit 4)) (.seq (.blk 5 (sQ [oM 48 46,oX 49 44 46,oL 50 49,oM 10 48,oM 11 50] (.feet [0,1,3,7,0,0,0,96,224,511,1023] [oL 51 1,VM 52 51,oF 53 3 52,oL 54 53,oM 55 11,oM 56 9,oM 57 10,oX 58 56 57,oL 59 58,oX 60 54 55,VL 1 60 59]))) (.ops [oA 61 46,oM 46 61])))
def dZ:SC:=sQ [oL 62 3,oM 63 8,o 64 (.dyn (.t 62) [.t 63]),o 65 (.not (.t 64))] (.cond (.t 65) (.exit 2) (.skip))
def dX:SC:=.blk 3 (.seq (sQ [oL 44 4,oN 45 44,oK 46 0] (.blk 4 (.loop bZ))) dZ)
def b_:SC:=sQ [VH 69 .lss 68 67] (.seq (.cond (.t 69) (.skip) (.exit 6)) (.seq (.blk 7 (sQ [oX 70 66 68,oL 71 70,oM 13 71] (.ops [oL 72 1,VM 73 72,oF 74 3 73,oL 75 74,oM 76 13,oX 77 75 76,oz (.store 1 (.t 77) (qI (-1)))]))) (.ops [oA 78 68,oM 68 78])))
def d_:SC:=sQ [oL 66 4,oN 67 66,oK 68 0] (.blk 6 (.loop b_))
def eg:SC:=.seq (sQ [oM 40 5,o 41 (.call N.bJ [.t 40])] (.blk 2 (.rng 79 (.t 41) [42,43] dW dX))) d_
def eN:SC:=sQ [o 4 (.alloc [.nils]),o 5 (.mv (.k (.nils)))] (.seq (sQ [oL 14 1,VM 15 14,oF 16 0 15,oF 17 1 16,oL 18 17,oN 19 18,oK 20 0] (.blk 0 (.loop bY))) eg)
def aQ:SF:=⟨79,[],sQ [o 3 (.box (.t 0))] eN⟩
def jP:SC:=sQ [o 3 (.mkf N.aV [] [.t 1]),oM 2 3] (.ret)
def gv:SF:=⟨4,[.tm 2],sQ [o 1 (.box (.t 0)),o 2 (.mv (.k (.nilf)))] jP⟩
def jf:SC:=.ops [oA 65 40,oM 40 65]
def eB:SC:=sQ [VH 41 .lss 40 39] (.seq (.cond (.t 41) (.skip) (.exit 0)) (.seq (.blk 1 (sQ [oM 42 40,oX 43 38 40,oL 44 43,oM 10 42,oM 11 44] (.seq (.feet [0,1,0,4,0,28,60,124,255,511,1023] [oF 45 1 8,oL 46 45,oF 47 2 2,oL 48 47,oM 49 11,oX 50 48 49,oL 51 50,o 52 (.bsl 1 1 [.int .i64 0] [0] [.t 51]),o 53 (.app 1 8 (.t 46) (.t 52)),oF 54 1 8,VL 1 54 53]) (sQ [oM 55 10,oM 56 6,VH 57 .gtr 55 56] (.cond (.t 57) (.feet [0,0,2,0,14,30,63,127] [oL 58 9,oF 59 2 2,oL 60 59,oM 61 11,oX 62 60 61,oL 63 62,VH 64 .mul 58 63,VL 1 9 64]) (.skip)))))) jf))
def eA:SC:=sQ [oM 12 76] (.ops [oM 13 77])
def eC:SC:=sQ [VH 81 .lss 80 79] (.seq (.cond (.t 81) (.skip) (.exit 4)) (.seq (.blk 5 (sQ [oM 82 80,oX 83 78 80,oL 84 83,oM 14 82,oM 15 84] (.feet [0,1,0,0,12,0,32,124,0,508,0,2044,0,0,12288,32764,0,131071,262143] [oF 85 2 8,oL 86 85,oM 87 12,oL 88 9,VH 89 .quo 87 88,oF 90 0 5,oL 91 90,VH 92 .mul 89 91,oM 93 14,VH 94 .add 92 93,oL 95 9,VH 96 .mul 94 95,oM 97 12,oL 98 9,VH 99 .rem 97 98,VH 100 .add 96 99,oM 101 15,oX 102 86 100,VL 1 102 101]))) (.ops [oA 103 80,oM 80 103])))
def eD:SC:=.blk 3 (sQ [oM 78 13,oN 79 78,oK 80 0] (.blk 4 (.loop eC)))
def jg:SC:=sQ [VJ 104 3 8,VL 3 4 104] (.ret)
def jh:SC:=sQ [oF 66 2 5,oL 67 66,oN 68 67,oF 69 0 5,oL 70 69,VH 71 .mul 68 70,o 72 (.mks 1 8 [.int .i64 0] (.t 71) (.t 71)),oF 73 2 8,VL 1 73 72] (.seq (sQ [VJ 74 3 5,o 75 (.call N.aA [.t 74])] (.blk 2 (.rng 105 (.t 75) [76,77] eA eD))) jg)
def jJ:SC:=sQ [oF 16 0 2,oF 17 1 16,oL 18 17,oM 19 1,VP 20 3 18 19,VJ 21 3 20,o 5 (.alloc [.int .i64 0,.nils,.nils]),VL 3 5 21] (sQ [oF 23 1 5,oL 24 23,oM 25 1,o 26 (.call N.aR [.t 24,.t 25]),oM 22 26,VK 27 22 0,VK 28 22 1,oM 6 27,oM 7 28] (sQ [oF 29 1 5,oL 30 29,o 31 (.call N.aa [.t 30]),oM 32 6,oM 33 1,o 34 (.bsl 1 1 [.int .i64 0] [0] [.t 33]),o 35 (.call N.bL [.t 31,.t 32,.t 34]),o 36 (.build [.nils,.nils,.nils] [(0,1)] [.t 35]),o 8 (.alloc [.nils,.nils,.nils]),VL 3 8 36] (sQ [o 9 (.alloc [.int .i64 0]),oz (.store 1 (.t 9) (qI 1))] (.seq (sQ [oF 37 0 8,oL 38 37,oN 39 38,oK 40 0] (.blk 0 (.loop eB))) jh))))
def gi:SF:=⟨105,[.cell true 3 4],sQ [o 2 (.box (.t 0)),o 4 (.alloc [.nils,.nils,.nils])] jJ⟩
def ii:SF:=⟨6,[],sQ [o 3 (.raw (.call ⟨.builtin .recover,#[],#[]⟩)),o 4 (.eq true (.iface true) (.t 3) (.k (.nili)))] (.cond (.t 4) (sQ [o 2 (.alloc [.int .i64 0,.int .i64 0])] (.ops [VJ 5 2 2,VL 2 0 5,oz (.store 1 (.t 1) (qI 6))])) (.skip))⟩
def bA:SC:=.seq (.seq (.quiet [oM 31 6,VI 32 .geq 31 0,oM 33 32,VQ 34 33 true 4,VQ 35 33 true 6,og 36 33 true (.ixs 1 (.t 34) (.t 35)),VR 37 33 true 36,VT 38 33 true 0 1,VT 39 33 true 1 38,VR 40 33 true 39,VQ 41 33 true 6,og 42 33 true (.ixs 3 (.t 40) (.t 41)),VT 43 33 true 0 42,VR 44 33 true 43,VV 45 33 true .sub 44 1,VU 46 33 true .eql 37 45,VO 47 33 46]) (.cond (.t 47) (.skip) (.exit 2))) (.blk 3 (sQ [oM 48 4,oM 49 6,oX 50 48 49,oz (.store 1 (.t 50) (qI 0))] (.ops [oM 51 6,VI 52 .sub 51 1,oM 6 52])))
def bB:SC:=.seq (sQ [oM 53 6,VI 54 .lss 53 0] (.cond (.t 54) (.ret) (.skip))) (.ops [oM 55 4,oM 56 6,oX 57 55 56,oL 58 57,oA 59 58,oX 60 55 56,VL 1 60 59])
def cd:SC:=.ops [oM 12 5,oA 13 12,oM 5 13]
def ej:SC:=.seq (.blk 1 (.seq (sQ [oM 14 4,oL 15 2,o 16 (.call N.bj [.t 14,.t 15]),oM 17 16,VQ 18 17 true 0,VQ 19 17 true 5,og 20 17 true (.load true 4 (.t 1)),VQ 21 17 true 4,og 22 17 true (.call N.bm [.t 20,.t 21]),VQ 23 17 true 4,og 24 17 true (.build [.int .i64 0,.int .i64 0,.nils] [(0,1),(1,1),(2,1)] [.t 19,.t 22,.t 23]),og 25 17 true (.dyn (.t 18) [.t 24]),og 26 17 true (.not (.t 25)),VO 27 17 26] (.cond (.t 27) (.ret) (.skip))) (sQ [oM 28 4,oN 29 28,VI 30 .sub 29 1,oM 6 30] (.seq (.blk 2 (.loop bA)) bB)))) cd
def aH:SF:=⟨61,[],sQ [oF 7 0 1,oF 8 1 7,oL 9 8,oN 10 9,o 11 (.mks 1 8 [.int .i64 0] (.t 10) (.t 10)),oM 4 11] (sQ [oK 5 0] (.blk 0 (.loop ej)))⟩
def m6:SC:=sQ [VH 11 .lss 10 9] (.seq (.cond (.t 11) (.skip) (.exit 0)) (.seq (.blk 1 (sQ [oM 12 10,oX 13 8 10,oL 14 13,oM 6 12,oM 7 14] (sQ [oM 15 7] (.blk 2 (.seq (sQ [VI 17 .eql 15 (-1),oM 16 17] (.cond (.t 16) (.skip) (.ops [oM 18 0,oM 19 6,oX 20 18 19,oL 21 20,VH 22 .eql 15 21,oM 16 22]))) (.cond (.t 16) (.skip) (sQ [o 5 (.mv (.k (.bool false)))] (.exit 0)))))))) (.ops [oA 23 10,oM 10 23])))
def iT:SC:=sQ [oM 24 5,oM 4 24] (.ret)
def lS:SF:=⟨25,[.tm 4],sQ [o 4 (.mv (.k (.bool false)))] (sQ [o 5 (.mv (.k (.bool true)))] (.seq (.skip) (.seq (sQ [oM 8 1,oN 9 8,oK 10 0] (.blk 0 (.loop m6))) iT)))⟩
def cT:SC:=sQ [VH 23 .lss 22 21] (.seq (.cond (.t 23) (.skip) (.exit 2)) (.seq (.blk 3 (sQ [oX 24 20 22,oL 25 24,oM 10 25] (.quiet [oM 26 8,oM 27 1,oM 28 10,oX 29 27 28,oL 30 29,oF 31 3 2,oL 32 31,oM 33 6,oX 34 32 33,oL 35 34,oM 36 10,oX 37 35 36,oL 38 37,VH 39 .mul 30 38,VH 40 .add 26 39,oM 8 40]))) (.ops [oA 41 22,oM 22 41])))
def ge:SC:=.ops [oM 42 5,oF 43 2 7,oL 44 43,oM 45 8,oX 46 44 45,oL 47 46,VH 48 .mul 42 47,oM 5 48]
def gf:SC:=.ops [oA 49 14,oM 14 49]
def gc:SC:=sQ [VH 15 .lss 14 13] (.seq (.cond (.t 15) (.skip) (.exit 0)) (.seq (.blk 1 (sQ [oM 16 14,VP 17 3 12 14,VJ 18 3 17,o 7 (.alloc [.nils,.nils,.nils]),oM 6 16,VL 3 7 18] (sQ [oK 8 0] (.seq (sQ [oF 19 0 7,oL 20 19,oN 21 20,oK 22 0] (.blk 2 (.loop cT))) ge)))) gf))
def gg:SC:=sQ [oM 50 5,oM 4 50] (.ret)
def g_:SC:=sQ [oK 5 1] (.seq (sQ [oF 11 2 2,oL 12 11,oN 13 12,oK 14 0] (.blk 0 (.loop gc))) gg)
def eo:SF:=⟨51,[.tm 4],sQ [o 2 (.box (.t 0)),oK 4 0] g_⟩
def eT:SC:=.seq (.seq (.feet [0,1,3,7,7,7,39,119,247,7,7,1543,3591,8191,16383,32767,65535] [oM 81 1,VI 82 .gtr 81 0,oM 83 82,VQ 84 83 true 4,VQ 85 83 true 0,VQ 86 83 true 1,VV 87 83 true .sub 86 1,og 88 83 true (.ixs 2 (.t 85) (.t 87)),og 89 83 true (.load true 2 (.t 88)),VQ 90 83 true 0,VQ 91 83 true 13,og 92 83 true (.ixs 2 (.t 90) (.t 91)),og 93 83 true (.load true 2 (.t 92)),og 94 83 true (.dyn (.t 84) [.t 89,.t 93]),VV 95 83 true .lss 94 0,og 96 83 true (.not (.t 95)),VO 97 83 96]) (.cond (.t 97) (sQ [oM 98 0,oM 99 1,oM 100 2,oM 101 13,oM 102 4,o 103 (.call N.bV [.t 98,.t 99,.t 100,.t 101,.t 102]),oM 15 103] (sQ [oM 104 15,oM 1 104] (.exit 1))) (.skip))) (sQ [oM 106 0,oM 107 1,oM 108 2,oM 109 13,oM 110 4,o 111 (.call N.bU [.t 106,.t 107,.t 108,.t 109,.t 110]),oM 105 111,VK 112 105 0,VK 113 105 1,oM 16 112,oM 17 113] (sQ [oM 114 17,oM 11 114] (sQ [oM 115 16,oM 116 1,VH 117 .sub 115 116,oM 118 2,oM 119 16,VH 120 .sub 118 119,oM 18 117,oM 19 120] (sQ [oM 121 12,VI 122 .quo 121 8,oM 20 122] (sQ [oM 123 18,oM 124 19,VH 125 .lss 123 124] (.cond (.t 125) (sQ [oM 126 18,oM 127 20,VH 128 .geq 126 127,oM 10 128] (sQ [oM 129 0,oM 130 1,oM 131 16,oM 132 3,oM 133 4,o 134 (.call N.aU [.t 129,.t 130,.t 131,.t 132,.t 133])] (.ops [oM 135 16,oA 136 135,oM 1 136]))) (sQ [oM 137 19,oM 138 20,VH 139 .geq 137 138,oM 10 139] (sQ [oM 140 0,oM 141 16,oA 142 141,oM 143 2,oM 144 3,oM 145 4,o 146 (.call N.aU [.t 140,.t 142,.t 143,.t 144,.t 145])] (.ops [oM 147 16,oM 2 147])))))))))
def eU:SC:=.seq (sQ [oM 68 10,oM 69 68,VQ 70 69 true 11,VO 71 69 70,oM 72 71,VQ 73 72 true 14,VV 74 72 true .eql 73 1,VO 75 72 74] (.cond (.t 75) (sQ [oM 76 0,oM 77 1,oM 78 2,oM 79 4,o 80 (.call N.bT [.t 76,.t 77,.t 78,.t 79])] (.cond (.t 80) (.ret) (.skip))) (.skip))) eT
def eV:SC:=sQ [oM 48 0,oM 49 1,oM 50 2,oM 51 4,o 52 (.call N.bQ [.t 48,.t 49,.t 50,.t 51]),oM 47 52,VK 53 47 0,VK 54 47 1,oM 13 53,oM 14 54] (.seq (sQ [oM 55 14,VI 56 .eql 55 2] (.cond (.t 56) (sQ [oM 57 0,oM 58 1,oM 59 2,oM 60 4,o 61 (.call N.bW [.t 57,.t 58,.t 59,.t 60])] (sQ [oM 62 2,VI 63 .sub 62 1,oM 64 13,oM 65 1,VH 66 .sub 64 65,VH 67 .sub 63 66,oM 13 67] (.ops [oK 14 1]))) (.skip))) eU)
def bS:SC:=.blk 1 (sQ [oM 21 2,oM 22 1,VH 23 .sub 21 22,oM 12 23] (.seq (sQ [oM 24 12,VI 25 .leq 24 12] (.cond (.t 25) (sQ [oM 26 0,oM 27 1,oM 28 2,oM 29 4,o 30 (.call N.bI [.t 26,.t 27,.t 28,.t 29])] (.ret)) (.skip))) (.seq (sQ [oM 31 3,VI 32 .eql 31 0] (.cond (.t 32) (sQ [oM 33 0,oM 34 1,oM 35 2,oM 36 4,o 37 (.call N.bS [.t 33,.t 34,.t 35,.t 36])] (.ret)) (.skip))) (.seq (sQ [oM 38 10,o 39 (.not (.t 38))] (.cond (.t 39) (sQ [oM 40 0,oM 41 1,oM 42 2,oM 43 4,o 44 (.call N.bP [.t 40,.t 41,.t 42,.t 43])] (.ops [oM 45 3,VI 46 .sub 45 1,oM 3 46])) (.skip))) eV))))
def bp:SF:=⟨148,[],sQ [o 10 (.mv (.k (.bool true)))] (sQ [o 11 (.mv (.k (.bool true)))] (.blk 0 (.loop bS)))⟩
def vJ:SC:=sQ [o 3 (.mkf N.ah [] [.t 1]),oM 2 3] (.ret)
def uE:SF:=⟨4,[.tm 2],sQ [o 1 (.box (.t 0)),o 2 (.mv (.k (.nilf)))] vJ⟩
def bW:SC:=.seq (.seq (.quiet [oM 18 5,VI 19 .geq 18 0,oM 20 19,VQ 21 20 true 3,VQ 22 20 true 5,og 23 20 true (.ixs 1 (.t 21) (.t 22)),VR 24 20 true 23,VR 25 20 true 1,VQ 26 20 true 5,og 27 20 true (.ixs 1 (.t 25) (.t 26)),VR 28 20 true 27,VV 29 20 true .sub 28 1,VU 30 20 true .eql 24 29,VO 31 20 30]) (.cond (.t 31) (.skip) (.exit 2))) (.blk 3 (sQ [oM 32 3,oM 33 5,oX 34 32 33,oz (.store 1 (.t 34) (qI 0))] (.ops [oM 35 5,VI 36 .sub 35 1,oM 5 36])))
def bX:SC:=.seq (sQ [oM 37 5,VI 38 .lss 37 0] (.cond (.t 38) (.ret) (.skip))) (.ops [oM 39 3,oM 40 5,oX 41 39 40,oL 42 41,oA 43 42,oX 44 39 40,VL 1 44 43])
def dz:SC:=.ops [oM 13 4,oA 14 13,oM 4 14]
def ib:SC:=.seq (sQ [oM 9 0,oM 10 4,oM 11 3,o 12 (.dyn (.t 9) [.t 10,.t 11])] (.cond (.t 12) (.skip) (.exit 0))) (.seq (.blk 1 (sQ [oL 15 1,oN 16 15,VI 17 .sub 16 1,oM 5 17] (.seq (.blk 2 (.loop bW)) bX))) dz)
def aR:SF:=⟨45,[],sQ [oL 6 1,oN 7 6,o 8 (.mks 1 8 [.int .i64 0] (.t 7) (.t 7)),oM 3 8] (sQ [oK 4 0] (.blk 0 (.loop ib)))⟩
def eF:SC:=.seq (sQ [oM 13 7,oM 14 8,VH 15 .lss 13 14] (.cond (.t 15) (.skip) (.exit 0))) (.blk 1 (sQ [oM 16 7,oM 17 8,VH 18 .add 16 17,o 19 (.conv .u64 (.t 18)),o 20 (.bin .shr (.t 19) (.k (.int .u64 1))),o 21 (.conv .i64 (.t 20)),oM 9 21] (sQ [oM 22 0,oM 23 9,oX 24 22 23,oL 25 24,oM 26 1,o 27 (.call N.aY [.t 25,.t 26])] (.cond (.t 27) (.ops [oM 28 9,oA 29 28,oM 7 29]) (.ops [oM 30 9,oM 8 30])))))
def eG:SC:=sQ [oM 31 7,oM 32 7,oM 33 6,VH 34 .lss 32 33,oM 35 34,VQ 36 35 true 0,VQ 37 35 true 7,og 38 35 true (.ixs 1 (.t 36) (.t 37)),VR 39 35 true 38,VQ 40 35 true 1,VU 41 35 true .eql 39 40,VQ 42 35 true 41,VQ 43 42 false 0,VQ 44 42 false 7,og 45 42 false (.ixs 1 (.t 43) (.t 44)),VR 46 42 false 45,og 47 42 false (.call N.aT [.t 46]),VQ 48 42 false 47,VQ 49 48 true 1,og 50 48 true (.call N.aT [.t 49]),og 51 42 false (.pick (.t 48) (.t 50) (.k (.bool false))),og 52 35 true (.pick (.t 42) (.k (.bool true)) (.t 51)),VO 53 35 52,oM 4 31,oM 5 53] (.ret)
def cH:SF:=⟨54,[.tm 4,.tm 5],sQ [oK 4 0,o 5 (.mv (.k (.bool false)))] (sQ [oM 10 0,oN 11 10,oM 6 11] (sQ [oM 12 6,oK 7 0,oM 8 12] (.seq (.blk 0 (.loop eF)) eG)))⟩
def aL:SC:=.seq (.seq (.feet [0,0,3,7,15,15,15,111,239,15,15,1039,3599,7695,16383,32767,65535] [oM 18 9,oM 19 1,VH 20 .gtr 18 19,oM 21 20,VQ 22 21 true 3,VQ 23 21 true 0,VQ 24 21 true 9,og 25 21 true (.ixs 2 (.t 23) (.t 24)),og 26 21 true (.load true 2 (.t 25)),VQ 27 21 true 0,VQ 28 21 true 9,VV 29 21 true .sub 28 1,og 30 21 true (.ixs 2 (.t 27) (.t 29)),og 31 21 true (.load true 2 (.t 30)),og 32 21 true (.dyn (.t 22) [.t 26,.t 31]),VV 33 21 true .lss 32 0,VO 34 21 33]) (.cond (.t 34) (.skip) (.exit 2))) (.seq (.blk 3 (.feet [0,0,0,0,8,0,0,64,224,480,0,0,3072,7168,16355,32739,65535,131071] [oM 37 0,oM 38 9,oM 39 0,oM 40 9,VI 41 .sub 40 1,oM 42 0,oM 43 9,VI 44 .sub 43 1,VP 45 2 42 44,VJ 46 2 45,oM 47 0,oM 48 9,VP 49 2 47 48,VJ 50 2 49,VP 51 2 37 38,VL 2 51 46,VP 52 2 39 41,VL 2 52 50])) (.ops [oM 35 9,VI 36 .sub 35 1,oM 9 36]))
def bE:SC:=.ops [oM 15 8,oA 16 15,oM 8 16]
def bD:SC:=.seq (sQ [oM 12 8,oM 13 2,VH 14 .lss 12 13] (.cond (.t 14) (.skip) (.exit 0))) (.seq (.blk 1 (sQ [oM 17 8,oM 9 17] (.blk 2 (.loop aL)))) bE)
def bc:SF:=⟨53,[],sQ [oM 10 1,oA 11 10,oM 8 11] (.blk 0 (.loop bD))⟩
def rk:SC:=sQ [VH 9 .lss 8 7] (.seq (.cond (.t 9) (.skip) (.exit 0)) (.seq (.blk 1 (sQ [oM 10 8,oX 11 6 8,oL 12 11,oM 3 10,oM 4 12] (sQ [oM 13 0,oM 14 3,oM 15 4,o 16 (.dyn (.t 13) [.t 14,.t 15]),o 17 (.not (.t 16))] (.cond (.t 17) (.ret) (.skip))))) (.ops [oA 18 8,oM 8 18])))
def gP:SF:=⟨19,[],sQ [oF 5 2 1,oL 6 5,oN 7 6,oK 8 0] (.blk 0 (.loop rk))⟩
def o4:SF:=⟨17,[.tm 4],sQ [o 4 (.mv (.k (.bool false)))] (sQ [oM 5 0,o 6 (.call N.aD [.t 5]),oM 7 6,VQ 8 7 true 1,og 9 7 true (.call N.aD [.t 8]),og 10 7 true (.not (.t 9)),VO 11 7 10,oM 12 11,VQ 13 12 false 0,VQ 14 12 false 1,VU 15 12 false .lss 13 14,VN 16 12 15,oM 4 16] (.ret))⟩
def jO:SF:=⟨6,[.tm 2],sQ [o 2 (.mv (.k (.bool false)))] (sQ [oM 3 0,oM 4 0,VH 5 .neq 3 4,oM 2 5] (.ret))⟩
def mV:SF:=⟨6,[.tm 2],sQ [o 2 (.mv (.k (.bool false)))] (sQ [oM 3 0,oM 4 0,VH 5 .neq 3 4,oM 2 5] (.ret))⟩
theorem qA:nFn C0 N.bK=some fG:=by kernel_rfl
theorem uB:nFn C0 N.bC=some jM:=by kernel_rfl
theorem rT(d:Nat)(xs:List AV)(g:G):am C0 d N.bC xs g=ah (I C0) d g N.bC xs:=by kernel_rfl
theorem yb:nFn C0 N.bF=some ni:=by kernel_rfl
theorem vq(d:Nat)(xs:List AV)(g:G):am C0 d N.bF xs g=ah (I C0) d g N.bF xs:=by kernel_rfl
theorem vD:nFn C0 N.bD=some kJ:=by kernel_rfl
theorem tU(d:Nat)(xs:List AV)(g:G):am C0 d N.bD xs g=ah (I C0) d g N.bD xs:=by kernel_rfl
theorem vC:nFn C0 N.ae=some kI:=by kernel_rfl
theorem tT(d:Nat)(xs:List AV)(g:G):am C0 d N.ae xs g=ah (I C0) d g N.ae xs:=by kernel_rfl
theorem AK:nFn C0 N.ay=some qB:=by kernel_rfl
theorem xX(d:Nat)(xs:List AV)(g:G):am C0 d N.ay xs g=ah (I C0) d g N.ay xs:=by kernel_rfl
theorem vB:nFn C0 N.a_=some kH:=by kernel_rfl
theorem tS(d:Nat)(xs:List AV)(g:G):am C0 d N.a_ xs g=ah (I C0) d g N.a_ xs:=by kernel_rfl
theorem ya:nFn C0 N.aQ=some nf:=by kernel_rfl
theorem vp(d:Nat)(xs:List AV)(g:G):am C0 d N.aQ xs g=ah (I C0) d g N.aQ xs:=by kernel_rfl
theorem uz:nFn C0 N.aZ=some jD:=by kernel_rfl
theorem rQ(d:Nat)(xs:List AV)(g:G):am C0 d N.aZ xs g=ah (I C0) d g N.aZ xs:=by kernel_rfl
theorem mT:nFn C0 N.aB=some dx:=by kernel_rfl
theorem lY(t:T)(g:G)(xs:List Od):SO.foot C0 t g (.call N.aB xs)=ac ((iW t xs).flatMap (aC g.h aE)):=by kernel_rfl
theorem lN(d:Nat)(xs:List AV)(g:G):am C0 d N.aB xs g=ah (I C0) d g N.aB xs:=by kernel_rfl
theorem AN:nFn C0 N.aP=some qE:=by kernel_rfl
theorem xZ(d:Nat)(xs:List AV)(g:G):am C0 d N.aP xs g=ah (I C0) d g N.aP xs:=by kernel_rfl
theorem si:nFn C0 N.bE=some im:=by kernel_rfl
theorem qv(d:Nat)(xs:List AV)(g:G):am C0 d N.bE xs g=ah (I C0) d g N.bE xs:=by kernel_rfl
theorem Cd:nFn C0 N.ap=some sM:=by kernel_rfl
theorem zx(t:T)(g:G)(xs:List Od):SO.foot C0 t g (.call N.ap xs)=ac ((iW t xs).flatMap (aC g.h aE)):=by kernel_rfl
theorem y7(d:Nat)(xs:List AV)(g:G):am C0 d N.ap xs g=ah (I C0) d g N.ap xs:=by kernel_rfl
theorem se:nFn C0 N.aM=some ij:=by kernel_rfl
theorem qs(d:Nat)(xs:List AV)(g:G):am C0 d N.aM xs g=ah (I C0) d g N.aM xs:=by kernel_rfl
theorem qy:nFn C0 N.be=some fE:=by kernel_rfl
theorem oQ(d:Nat)(xs:List AV)(g:G):am C0 d N.be xs g=orF ((I C0).call d N.be xs g):=by kernel_rfl
theorem pO:nFn C0 N.bf=some eR:=by kernel_rfl
theorem nR(d:Nat)(xs:List AV)(g:G):am C0 d N.bf xs g=orF ((I C0).call d N.bf xs g):=by kernel_rfl
theorem zp:nFn C0 N.aC=some pj:=by kernel_rfl
theorem xd(t:T)(g:G)(xs:List Od):SO.foot C0 t g (.call N.aC xs)=ac ((iW t xs).flatMap (aC g.h aE)):=by kernel_rfl
theorem wU(d:Nat)(xs:List AV)(g:G):am C0 d N.aC xs g=ah (I C0) d g N.aC xs:=by kernel_rfl
theorem zq:nFn C0 N.aX=some pk:=by kernel_rfl
theorem xe(t:T)(g:G)(xs:List Od):SO.foot C0 t g (.call N.aX xs)=ac ((iW t xs).flatMap (aC g.h aE)):=by kernel_rfl
theorem wV(d:Nat)(xs:List AV)(g:G):am C0 d N.aX xs g=ah (I C0) d g N.aX xs:=by kernel_rfl
theorem Ca:nFn C0 N.bi=some sA:=by kernel_rfl
theorem yZ(d:Nat)(xs:List AV)(g:G):am C0 d N.bi xs g=ah (I C0) d g N.bi xs:=by kernel_rfl
theorem Cc:nFn C0 N.aN=some sG:=by kernel_rfl
theorem y6(d:Nat)(xs:List AV)(g:G):am C0 d N.aN xs g=ah (I C0) d g N.aN xs:=by kernel_rfl
theorem B9:nFn C0 N.aH=some sn:=by kernel_rfl
theorem yX(d:Nat)(xs:List AV)(g:G):am C0 d N.aH xs g=ah (I C0) d g N.aH xs:=by kernel_rfl
theorem qz:nFn C0 N.bk=some fF:=by kernel_rfl
theorem oR(d:Nat)(xs:List AV)(g:G):am C0 d N.bk xs g=ah (I C0) d g N.bk xs:=by kernel_rfl
theorem zn:nFn C0 N.br=some o9:=by kernel_rfl
theorem wS(d:Nat)(xs:List AV)(g:G):am C0 d N.br xs g=ah (I C0) d g N.br xs:=by kernel_rfl
theorem rZ:nFn C0 N.bc=some dT:=by kernel_rfl
theorem qr(d:Nat)(xs:List AV)(g:G):am C0 d N.bc xs g=ah (I C0) d g N.bc xs:=by kernel_rfl
theorem pN:nFn C0 N.aE=some eQ:=by kernel_rfl
theorem nQ(d:Nat)(xs:List AV)(g:G):am C0 d N.aE xs g=orF ((I C0).call d N.aE xs g):=by kernel_rfl
theorem tV:nFn C0 N.ba=some iQ:=by kernel_rfl
theorem tW:nFn C0 N.bM=some iS:=by kernel_rfl
theorem Cb:nFn C0 N.bo=some sF:=by kernel_rfl
theorem y5(d:Nat)(xs:List AV)(g:G):am C0 d N.bo xs g=ah (I C0) d g N.bo xs:=by kernel_rfl
theorem mU:nFn C0 N.aS=some dy:=by kernel_rfl
theorem lO(d:Nat)(xs:List AV)(g:G):am C0 d N.aS xs g=ah (I C0) d g N.aS xs:=by kernel_rfl
theorem sg:nFn C0 N.bA=some ik:=by kernel_rfl
theorem qu(d:Nat)(xs:List AV)(g:G):am C0 d N.bA xs g=ah (I C0) d g N.bA xs:=by kernel_rfl
theorem DG:nFn C0 N.bz=some uF:=by kernel_rfl
theorem AH(d:Nat)(xs:List AV)(g:G):am C0 d N.bz xs g=ah (I C0) d g N.bz xs:=by kernel_rfl
theorem zo:nFn C0 N.bB=some pi:=by kernel_rfl
theorem wT(d:Nat)(xs:List AV)(g:G):am C0 d N.bB xs g=ah (I C0) d g N.bB xs:=by kernel_rfl
theorem DE:nFn C0 N.ak=some m7:=by kernel_rfl
theorem AF(d:Nat)(xs:List AV)(g:G):am C0 d N.ak xs g=ah (I C0) d g N.ak xs:=by kernel_rfl
theorem jC:nFn Fn N.aa=some bu:=by kernel_rfl
theorem eI(t:T)(g:G)(xs:List Od):SO.foot C0 t g (.call N.aa xs)=ac ((iW t xs).flatMap (aC g.h aE)):=by kernel_rfl
theorem ja(d:Nat)(xs:List AV)(g:G):am C0 d N.aa xs g=zF Fn N.aa d xs g:=by kernel_rfl
theorem gY:nFn C0 N.bg=some bJ:=by kernel_rfl
theorem oY:nFn C0 N.aF=some eh:=by kernel_rfl
theorem mN(d:Nat)(xs:List AV)(g:G):am C0 d N.aF xs g=orF ((I C0).call d N.aF xs g):=by kernel_rfl
theorem nV:nFn C0 N.aG=some dN:=by kernel_rfl
theorem mj(d:Nat)(xs:List AV)(g:G):am C0 d N.aG xs g=orF ((I C0).call d N.aG xs g):=by kernel_rfl
theorem mQ:nFn C0 N.aw=some du:=by kernel_rfl
theorem lV(t:T)(g:G)(xs:List Od):SO.foot C0 t g (.call N.aw xs)=da:=by kernel_rfl
theorem lL(d:Nat)(xs:List AV)(g:G):am C0 d N.aw xs g=orF ((I C0).call d N.aw xs g):=by kernel_rfl
theorem zm:nFn C0 N.bp=some o8:=by kernel_rfl
theorem wR(d:Nat)(xs:List AV)(g:G):am C0 d N.bp xs g=ah (I C0) d g N.bp xs:=by kernel_rfl
theorem uA:nFn C0 N.aJ=some jG:=by kernel_rfl
theorem rR(d:Nat)(xs:List AV)(g:G):am C0 d N.aJ xs g=ah (I C0) d g N.aJ xs:=by kernel_rfl
theorem zk:nFn C0 N.bh=some o5:=by kernel_rfl
theorem zl:nFn C0 N.aI=some o7:=by kernel_rfl
theorem wQ(d:Nat)(xs:List AV)(g:G):am C0 d N.aI xs g=ah (I C0) d g N.aI xs:=by kernel_rfl
theorem B_:nFn C0 N.af=some su:=by kernel_rfl
theorem zw(t:T)(g:G)(xs:List Od):SO.foot C0 t g (.call N.af xs)=ac ((iW t xs).flatMap (aC g.h aE)):=by kernel_rfl
theorem yY(d:Nat)(xs:List AV)(g:G):am C0 d N.af xs g=ah (I C0) d g N.af xs:=by kernel_rfl
theorem DC:nFn C0 N.am=some uD:=by kernel_rfl
theorem AR(t:T)(g:G)(xs:List Od):SO.foot C0 t g (.call N.am xs)=ac ((iW t xs).flatMap (aC g.h aE)):=by kernel_rfl
theorem AE(d:Nat)(xs:List AV)(g:G):am C0 d N.am xs g=ah (I C0) d g N.am xs:=by kernel_rfl
theorem mS:nFn C0 N.aL=some dw:=by kernel_rfl
theorem lM(d:Nat)(xs:List AV)(g:G):am C0 d N.aL xs g=ah (I C0) d g N.aL xs:=by kernel_rfl
theorem cR:nFn C0 N.bH=some aV:=by kernel_rfl
theorem nU:nFn C0 N.bN=some dJ:=by kernel_rfl
theorem pP:nFn C0 N.bG=some eS:=by kernel_rfl
theorem nS(d:Nat)(xs:List AV)(g:G):am C0 d N.bG xs g=ah (I C0) d g N.bG xs:=by kernel_rfl
theorem rI:nFn C0 N.aO=some gk:=by kernel_rfl
theorem pI(d:Nat)(xs:List AV)(g:G):am C0 d N.aO xs g=ah (I C0) d g N.aO xs:=by kernel_rfl
theorem AM:nFn C0 N.bw=some qC:=by kernel_rfl
theorem xY(d:Nat)(xs:List AV)(g:G):am C0 d N.bw xs g=ah (I C0) d g N.bw xs:=by kernel_rfl
theorem Ce:nFn C0 N.aW=some sW:=by kernel_rfl
theorem zy(t:T)(g:G)(xs:List Od):SO.foot C0 t g (.call N.aW xs)=ac ((iW t xs).flatMap (aC g.h aE)):=by kernel_rfl
theorem y8(d:Nat)(xs:List AV)(g:G):am C0 d N.aW xs g=ah (I C0) d g N.aW xs:=by kernel_rfl
theorem lP:nFn C0 N.ax=some aQ:=by kernel_rfl
theorem rJ:nFn C0 N.bJ=some gv:=by kernel_rfl
theorem pJ(d:Nat)(xs:List AV)(g:G):am C0 d N.bJ xs g=orF ((I C0).call d N.bJ xs g):=by kernel_rfl
theorem rH:nFn C0 N.bu=some gi:=by kernel_rfl
theorem pH(d:Nat)(xs:List AV)(g:G):am C0 d N.bu xs g=ah (I C0) d g N.bu xs:=by kernel_rfl
theorem r_:nFn C0 N.aK=some ii:=by kernel_rfl
theorem lQ:nFn C0 N.an=some aH:=by kernel_rfl
theorem w_:nFn C0 N.bj=some lS:=by kernel_rfl
theorem uv(d:Nat)(xs:List AV)(g:G):am C0 d N.bj xs g=ah (I C0) d g N.bj xs:=by kernel_rfl
theorem oZ:nFn C0 N.bm=some eo:=by kernel_rfl
theorem mO(d:Nat)(xs:List AV)(g:G):am C0 d N.bm xs g=ah (I C0) d g N.bm xs:=by kernel_rfl
theorem fD:nFn C0 N.aU=some bp:=by kernel_rfl
theorem DF:nFn C0 N.aA=some uE:=by kernel_rfl
theorem AG(d:Nat)(xs:List AV)(g:G):am C0 d N.aA xs g=ah (I C0) d g N.aA xs:=by kernel_rfl
theorem pQ:nFn C0 N.aV=some aR:=by kernel_rfl
theorem lR:nFn C0 N.aR=some cH:=by kernel_rfl
theorem kC(d:Nat)(xs:List AV)(g:G):am C0 d N.aR xs g=ah (I C0) d g N.aR xs:=by kernel_rfl
theorem dI:nFn C0 N.bI=some bc:=by kernel_rfl
theorem dl(d:Nat)(xs:List AV)(g:G):am C0 d N.bI xs g=orF ((I C0).call d N.bI xs g):=by kernel_rfl
theorem AL:nFn C0 N.ah=some gP:=by kernel_rfl
theorem zi:nFn C0 N.aY=some o4:=by kernel_rfl
theorem wP(d:Nat)(xs:List AV)(g:G):am C0 d N.aY xs g=ah (I C0) d g N.aY xs:=by kernel_rfl
theorem uC:nFn C0 N.aT=some jO:=by kernel_rfl
theorem rU(d:Nat)(xs:List AV)(g:G):am C0 d N.aT xs g=ah (I C0) d g N.aT xs:=by kernel_rfl
theorem x_:nFn C0 N.aD=some mV:=by kernel_rfl
theorem vo(d:Nat)(xs:List AV)(g:G):am C0 d N.aD xs g=ah (I C0) d g N.aD xs:=by kernel_rfl
theorem q9{α:Type}{f:Nat->α->Nat->α->Bool}{i:Nat}{x:α}:∀{l:List α} {j:Nat},(∀b y,l[b]?=some y->f i x (j+b) y=true)->gM f i x j l=true
 |[],_,_=>rfl
 | y::r,j,h=>by simp only[gM,R7];refine⟨by simpa using h 0 y rfl,q9 λb z hb=>?_⟩;have:=h (b+1) z (by simpa using hb);rwa [show j+(b+1)=j+1+b by omega]at this
theorem xB{α:Type}{f:Nat->α->Nat->α->Bool}:∀{l:List α} {i:Nat},(∀a b x y,a<b->l[a]?=some x->l[b]?=some y->f (i+a) x (i+b) y=true)->lq f i l=true
 |[],_,_=>rfl
 | x::r,i,h=>by
  simp only[lq,R7];refine⟨q9 λb y hb=>?_,xB λa b x' y hab ha hb=>?_⟩
  ·have:=h 0 (b+1) x y (by omega) rfl (by simpa using hb);rwa [TV,show i+(b+1)=i+1+b by omega]at this
  ·have:=h (a+1) (b+1) x' y (by omega) (by simpa using ha) (by simpa using hb);rwa [show i+(a+1)=i+1+a by omega,show i+(b+1)=i+1+b by omega]at this
theorem xR{pm:List Nat}:∀{l:List Foot} {i:Nat},(∀f∈l,f.lk.sr=[])->tu pm i l=true
 |[],_,_=>rfl
 | x::r,i,h=>by simp only[tu,h x (by simp)];exact xR λf hf=>h f (by simp[hf])
def My(pm:List Nat)(ws:List Bool)(L:List (Nat×Nat))(i j:Nat):Bool:=(pm.getD j 0).testBit i || (!(ws.getD i false)&&!(ws.getD j false)) || L.contains (i,j)
def OH(pm:List Nat)(ws:List Bool)(L:List (Nat×Nat)):Bool:=(List.range ws.length).all λj=>(List.range j).all λi=>My pm ws L i j
theorem aA{pm:List Nat}{fs:List Foot}(ws:List Bool)(L:List (Nat×Nat))(hw:All2 (λ(f:Foot) (w:Bool)=>f.lk.sr=[]/\(w=false->f.wr=[])) fs ws)(hd:OH pm ws L=true)
  (hL:∀p∈L,∀x y,fs[p.1]?=some x->fs[p.2]?=some y->cz x y=true):qG pm fs=true:=by
 unfold qG;rw[aa,Sb]
 ·exact xR λf hf=>by obtain⟨i,hi,rfl⟩:=Tl.1 hf;obtain⟨w,-,h⟩:=hw.get (R4 hi);exact h.1
 ·refine xB λa b x y hab ha hb=>?_;simp only[SU];obtain⟨wa,hwa,ka⟩:=hw.get ha;obtain⟨wb,hwb,kb⟩:=hw.get hb;have hbl:=(R6.1 hwb).1;have:=Sy.1 (Sy.1 hd b (Sm.2 hbl)) a (Sm.2 hab);simp only[My,SY]at this;rcases this with (h|h)|h
  ·rw[h,U2]
  ·simp only[T6,hwa,hwb,Se,R7,SP]at h;have ex:=ka.2 h.1;have ey:=kb.2 h.2;simp only[cz,lG,jp,ex,ey,UQ,Vx]
  ·rw[hL (a,b) (UM.1 h) x y ha hb,Vx]
structure Mech where
 card:Int
 frm:List Int
 noise:List Int
 out:List Int
structure Causal where
 grain:Int
 roots:List (List Int)
 nodes:List Mech
structure Node where
 card:Int
 parents:List Int
 rows:List (List Int)
structure Net where
 grain:Int
 nodes:List Node
structure Factor where
 vars:List Int
 cards:List Int
 w:List Int
instance : Rp Mech:=Rp.via λm:Mech=>(m.card,m.frm,m.noise,m.out)
instance : Rp Causal:=Rp.via λm:Causal=>(m.grain,m.roots,m.nodes)
instance : Rp Node:=Rp.via λm:Node=>(m.card,m.parents,m.rows)
instance : Rp Net:=Rp.via λm:Net=>(m.grain,m.nodes)
instance : Rp Factor:=Rp.via λm:Factor=>(m.vars,m.cards,m.w)
section
variable {P:Nat->Prop}{k:Nat}{h:H}{cs:List AV}
theorem cK{m:Node}:Rp.rp P k h m cs↔∃a b,cs=[.int .i64 m.card,a,b]/\SlR P k h m.parents a/\SlR P k h m.rows b:=by
 constructor
 ·rintro⟨c1,c2,rfl,h1,d1,d2,rfl,⟨a,rfl,h2⟩,⟨b,rfl,h3⟩⟩;rw[aI.1 h1];exact⟨a,b,rfl,h2,h3⟩
 ·rintro⟨a,b,rfl,h2,h3⟩;exact⟨[.int .i64 m.card],[a,b],rfl,aI.2 rfl,[a],[b],rfl,⟨a,rfl,h2⟩,⟨b,rfl,h3⟩⟩
theorem nJ{m:Net}:Rp.rp P k h m cs↔∃a,cs=[.int .i64 m.grain,a]/\SlR P k h m.nodes a:=by
 constructor
 ·rintro⟨c1,c2,rfl,h1,⟨a,rfl,h2⟩⟩;rw[aI.1 h1];exact⟨a,rfl,h2⟩
 ·rintro⟨a,rfl,h2⟩;exact⟨[.int .i64 m.grain],[a],rfl,aI.2 rfl,⟨a,rfl,h2⟩⟩
theorem qj{m:Factor}:Rp.rp P k h m cs↔∃a b c,cs=[a,b,c]/\SlR P k h m.vars a/\SlR P k h m.cards b/\SlR P k h m.w c:=by
 constructor
 ·rintro⟨c1,c2,rfl,⟨a,rfl,h2⟩,e1,e2,rfl,⟨b,rfl,h3⟩,⟨c,rfl,h4⟩⟩;exact⟨a,b,c,rfl,h2,h3,h4⟩
 ·rintro⟨a,b,c,rfl,h2,h3,h4⟩;exact⟨[a],[b,c],rfl,⟨a,rfl,h2⟩,[b],[c],rfl,⟨b,rfl,h3⟩,⟨c,rfl,h4⟩⟩
end
theorem SlR.len{α:Type} [Rp α]{P:Nat->Prop}{k:Nat}{h:H}{l:List α}{v:AV}(r:SlR P k h l v)(g:G):dO .slice v g=.val (.int .i64 (l.length:Int)):=by obtain⟨rows,h1,h2⟩:=r.rows;rw[qf h1,h2.len]
theorem SlR.tree{α:Type} [Rp α]{k k':Nat}{h h':H}{l:List α}{v:AV}(r:SlR NoP k h l v)(hk:k<=k'):SlR NoP k' h' l v:=by obtain⟨w,hw,q⟩:=Rp.tree (P:=NoP) (k':=k') (h':=h') (show Rp.rp NoP k h l [v] from ⟨v,rfl,r⟩) hk;injection hw with hw;subst hw;exact q
theorem fU{α:Type} [Rp α]{P:Nat->Prop}{k:Nat}{h:H}{l:List α}{v:AV}(r:SlR P k h l v)(d:Nat)(hd:Rp.dp (List α)<=20:=by decide) :
  ∃v',Hx.snap h d aE v=some v'/\∀h',SlR NoP (max k d) h' l v':=by
 obtain⟨v',e,w,hw,q⟩:=rP (bm l hd) (by decide) d (show One l P k h v from ⟨v,rfl,r⟩);injection hw with hw;subst hw;exact⟨v',e,λh'=>q.tree (R5 _)⟩
theorem SlR.all{α:Type} [Rp α]{k:Nat}{h:H}{l:List α}{v:AV}(r:SlR NoP k h l v) :
  ∃rows:List (List AV),(∀h',ak h' (Rp.sz α) v=some rows)/\rows.length=l.length/\(∀(i:Nat) (x:α),l[i]?=some x->∃row,rows[i]?=some row/\Rp.rp NoP k .nil x row)/\(0<l.length->Ak v=true):=by
 have r0:=(r.tree (h':=.nil) (R5 _));obtain⟨rows,h1,h2⟩:=r0.rows;refine⟨rows,λh'=>?_,h2.len.symm,λi x hi=>h2.get hi,λhl=>OQ h1 (i:=0) (by rw[<-h2.len];exact hl)⟩;rw[<-h1];exact xM λid ep off len lim e=>by subst e;exact r.2.1.elim
theorem BU{P:Nat->Prop}{k:Nat}{h:H}{l:List Nat}{v:AV}(r:SlR P k h l v):∀x∈l,x<18446744073709551616:=by obtain⟨rows,h1,h2⟩:=r.rows;intro x hx;obtain⟨i,hi,e⟩:=Tl.1 hx;obtain⟨row,h3,h4⟩:=h2.get (i:=i) (a:=x) (by rw[R4 hi,e]);exact (GB.1 h4).2
theorem rM(p:Nat->Bool)(j:Nat):(List.range (j+1)).all p=((List.range j).all p&&p j):=by rw[Tw,List.all_append];simp
theorem xV{p:Nat->Bool}{j n:Nat}(h:j<n)(hp:p j=false):(List.range n).all p=false:=by rw[List.all_eq_false];exact⟨j,Sm.2 h,by rw[hp];decide⟩
end
end Hx
end
section
namespace Hx
open Go
noncomputable section
theorem tA{C:Cfg}{nt d:Nat}{rd:Option Nat}{c:Code}{t:T}{df:List ADf}{g:G}{Q:QT}(h:wp C d rd (fk C nt c) Q t df g):((I C).code nt d rd c t df g).sat Q:=by rw[Fp];exact PR _ _ _ _ _ h
end
end Hx
end
