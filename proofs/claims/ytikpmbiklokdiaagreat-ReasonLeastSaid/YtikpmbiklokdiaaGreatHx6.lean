/- A part of the proof: what the functions of the chapter compute. -/
import Derived.Shelf.Lays2
import Derived.Test.YtikpmbiklokdiaaGreatRows
import Derived.Calls
import Derived.Shelf.Spec.SlicesInsertGrow
import Derived.Test.YtikpmbiklokdiaaGreatHx5
set_option linter.all false
set_option maxRecDepth 20000
set_option maxHeartbeats 8000000
namespace Hx
open Go
noncomputable section
end
end Hx
section
namespace Go.Proofs
open Go.Shelf
def Tryz.lays21_ren:Go.Shelf.Ren:=⟨λ| 21=>154 | 27=>167 | 28=>168 | 35=>173 | 39=>174 | n=>n,λ| 22=>31 | 3=>3 | 4=>4 | 0=>0 | n=>n,λ| n=>n⟩
theorem SK:Go.Proofs.Lays2.n21 Tryz.prog Tryz.lays21_ren:={
 mixed:=by kernel_rfl
 f21:=Tryz.func154.trans (congrArg some (by kernel_rfl))
 f27:=Tryz.func167.trans (congrArg some (by kernel_rfl))
 f28:=Tryz.func168.trans (congrArg some (by kernel_rfl))
 f35:=Tryz.func173.trans (congrArg some (by kernel_rfl))
 f39:=Tryz.func174.trans (congrArg some (by kernel_rfl))
 t0:=Tryz.underlying0
 a0:=Tryz.isAgg0
 z0:=Tryz.sizeOf0
 v0:=Tryz.zeroValue0
 t3:=Tryz.underlying3
 a3:=Tryz.isAgg3
 z3:=Tryz.sizeOf3
 v3:=Tryz.zeroValue3
 t4:=Tryz.underlying4
 a4:=Tryz.isAgg4
 z4:=Tryz.sizeOf4
 v4:=Tryz.zeroValue4
 t22:=Tryz.underlying31
 a22:=Tryz.isAgg31
 z22:=Tryz.sizeOf31
 v22:=Tryz.zeroValue31
 i3:=by kernel_rfl }
end Go.Proofs
end
namespace Hx
open Go
noncomputable section
section
variable {C:Cfg}{A:Nat->Nat->Prop}{bd:Nat}{w w':World}{γ γ':Gm}{hg:Nat->AObj}{nx:Nat}
theorem IJ{g:G}{id:Nat}{ob:AObj}(r:Rel C A bd w' γ' (upd hg id ob) nx)(s:Stp w γ w' γ'):Fin C A bd w γ hg nx g w' γ' (upd hg id ob) (g.put id ob) :=
 ⟨r.up (Vv _ _),s,[id],by simp,λk hk=>by simp at hk;subst hk;simp[G.put_h,SD],λk hk=>by
  rw[cJ];simpa using hk⟩
theorem O4{g:G}{ob:AObj}(r:Rel C A bd w' γ' (upd hg g.nx ob) (Nat.max nx (g.nx+1)))(s:Stp w γ w' γ'):Fin C A bd w γ hg nx g w' γ' (upd hg g.nx ob) (g.new ob) :=
 ⟨r.up (by simp),s,[g.nx],by simp,λk hk=>by simp at hk;subst hk;simp[G.new_h,SD],λk hk=>by
  rw[cJ];simpa using hk⟩
theorem Gb(hr:Rel C A bd w γ hg nx){id ep:Nat}{rows:List (List AV)}{lo fz:Bool}(hid:hg id=.cells 1 rows ep lo fz) :
  ∃(c:Array Value) (e:TypeId) (l:List Value),w.heap[(γ id).blk]?=some (.cells c e (0,0))/\(γ id).base+(rows.length+(γ id).slack)<=c.size/\l.length=rows.length/\(∀j,j<rows.length->l[j]?=c[(γ id).base+j]?) /\
   (∀v∈l,v.oneCell'=true)/\(∀(k:Nat) row,rows[k]?=some row->row.length=1) /\
   ∀(k j:Nat) row x,rows[k]?=some row->row[j]?=some x->j=0/\x.one=true/\∃v,l[k]?=some v/\RV w γ A bd x v:=by
 have d:=hr.obj id;rw[hid]at d;obtain⟨q,k2,r,s,t,u,c,e,o,y,m,f⟩:=d;have h:∀j,j<rows.length->((c.toList.drop (γ id).base).take rows.length)[j]?=c[(γ id).base+j]?:=λj i=>by rw[UV i,UO];simp
 refine⟨c,e,(c.toList.drop (γ id).base).take rows.length,o,by omega,by simp;omega,h,λv hv=>?_,m,λk j row x h1 h2=>?_⟩
 ·obtain⟨k,hk⟩:=UG hv;have hlt:k<rows.length:=by have:=(Uh.1 hk).1;simp at this;omega
  rw[h k hlt]at hk;have b:=Uj hlt;have n:=m k _ b;have hx:rows[k][0]?=some (rows[k][0]'(by omega)):=Uj _;obtain⟨a,v',b1,b2⟩:=f k 0 _ _ b hx;rw[show (γ id).base+k*1+0=(γ id).base+k from by omega,hk]at b1;injection b1 with b1;subst b1;exact (HN b2 a).1
 ·have i:j=0:=by have p:=m k _ h1;have:=(Uh.1 h2).1;omega
  subst i;obtain⟨a,v',b1,b2⟩:=f k 0 _ _ h1 h2;refine⟨rfl,a,v',?_,b2⟩;rw[h k (Uh.1 h1).1];rw[show (γ id).base+k*1+0=(γ id).base+k from by omega]at b1;exact b1
theorem u9{P:Program}{f:FuncId}{args:Array Value}{u:Value}(h:Calls P f args w (λx y=>x=.returned u/\y=w'))(cs:List Frame):Outs P .normal f args cs w u w':=by obtain⟨e,w1,fr,⟨he,hw⟩,hc,hf,hl⟩:=h cs;subst he;subst hw;obtain⟨m,d,k,fn,b,a⟩:=hl;exact⟨fr,hc,m,d,k,hf,fn,by rw[<-hf];exact b,a⟩
theorem CB {P : Program} {f : FuncId} {fn : Func} (h : P.funcs[f]? = some fn) (hn : (fn.name == "runtime.NumGoroutine") = false) (hb : fn.body.isSome = true) : Enters P f := by
 intro args w;unfold callFunc;have hn : fn.name ≠ "runtime.NumGoroutine" := by simpa using hn
 cases hb':fn.body with
 |none=>rw[hb']at hb;cases hb
 |some c=>simp[h,hn,hb']
end
end
end Hx
section
namespace Hx
open Go Go.Proofs Go.Shelf
theorem kH{w:World}{o:Obj}:(Go.World.alloc w o).heap=w.heap.push o:=rfl
theorem i_{w:World}:(Go.World.drew w).heap=w.heap:=rfl
theorem jz{b:Nat}{e:TypeId}{f:Nat×Nat}:∀(vs:List Value) (o:Nat) (w:World) (c:Array Value),w.heap[b]?=some (.cells c e f) ->
  Go.World.setCells w b o vs=World.setBlk w b (.cells (bj c o vs) e f):=by
 intro vs
 induction vs with
 | nil =>
  intro o w c h;have hb:b<w.heap.size:=by
   rcases VI b w.heap.size with hl|hl
   ·exact hl
   ·rw[Vl hl]at h;cases h
  have hx:w.heap[b]=.cells c e f:=by simpa [Uv hb] using h
  show w=_;simp only[World.setBlk,bj];have:w.heap.setIfInBounds b (.cells c e f)=w.heap:=by
   apply Wx;intro k;rw[VJ]
   by_cases hk:b=k
   ·subst hk;simp[hb,hx]
   ·rw[Um hk]
  rw[this]
 | cons v vs ih =>
  intro o w c h;have hb:b<w.heap.size:=by
   rcases VI b w.heap.size with hl|hl
   ·exact hl
   ·rw[Vl hl]at h;cases h
  show Go.World.setCells (w.setCell (adr b o) v) b (o+1) vs=_;rw[Bj h,ih (o+1) _ (c.setIfInBounds o v) (by rw[aX];simp[hb]),px]
  rfl
section
variable {P:Program}{ρ:Ren}
theorem ie{α:Type}{cs vs:List α}{i n m k:Nat}(hcl:cs.length=n)(hvl:vs.length=m)(hi:i<=n) :
  (cs.take i++(vs++cs.drop i))[k]?=if k<i then cs[k]? else if k<i+m then vs[k - i]? else cs[k - m]?:=by
 have h:(cs.take i).length=i:=by rw[U0];omega
 by_cases h1:k<i
 ·rw[Un h1,UF (by omega),UV h1]
 ·rw[Um h1,UA (by omega),h]
  by_cases h2:k<i+m
  ·rw[Un h2,UF (by omega)]
  ·rw[Um h2,UA (by omega),UO,hvl];congr 1;omega
def Ins(P:Program)(f:FuncId)(args:Array Value)(w:World)(b n m:Nat)(rowV:List Value):Prop :=
 ∃b' o' cap' c' e' w',Calls P f args w (λx y=>x=.returned (.slice (some (adr b' o')) (n+m) cap')/\y=w')/\n+m<=cap'/\cap'<=9223372036854775807 /\
  (w'.os=w.os/\w'.tape=w.tape/\w'.output=w.output/\w.heap.size<=w'.heap.size/\w.drawn<=w'.drawn)/\(b'=b\/(b'=w.heap.size/\w.heap.size<w'.heap.size)) /\
  (∀k,k<w.heap.size->k≠b->w'.heap[k]?=w.heap[k]?)/\w'.heap[b']?=some (.cells c' e' (0,0))/\o'+cap'<=c'.size /\
  ∀k,k<n+m->c'[o'+k]?=rowV[k]?
theorem Hu(L:Lays2.n21 P ρ){w:World}{b off n c i vb voff m vc:Nat}{cc cv:Array Value}{e e2:TypeId}{cs vs:List Value}
  (hb:w.heap[b]?=some (.cells cc e (0,0))) (hv:w.heap[vb]?=some (.cells cv e2 (0,0))) (hne:vb≠b) (hin:i<=n) (hm:0<m) (hnc:n<=c)
  (hc63:c<=9223372036854775807) (hbig:(n+m)*8<=140737488355328) (hcc:off+c<=cc.size) (hcv:voff+m<=cv.size) (hn0:0<c)
  (hcl:cs.length=n) (hvl:vs.length=m) (hcs:∀j,j<n->cs[j]?=cc[off+j]?) (hvs:∀j,j<m->vs[j]?=cv[voff+j]?)
  (h1c:∀v∈cs,v.oneCell'=true) (h1v:∀v∈vs,v.oneCell'=true) :
  Ins P (ρ.f 21) #[.slice (some (adr b off)) n c,.int .i64 i,.slice (some (adr vb voff)) m vc] w b n m (cs.take i++(vs++cs.drop i)):=by
 have r:b<w.heap.size:=by
  rcases VI b w.heap.size with hl|hl
  ·exact hl
  ·rw[Vl hl]at hb;cases hb
 have o:∀j v,cs[j]?=some v->w.cell? (adr b (off+j))=some v:=λj v hj=>by rw[mZ hb,<-hcs j (by rw[<-hcl];exact (Uh.1 hj).1)];exact hj
 have d:∀j v,vs[j]?=some v->w.cell? (adr vb (voff+j))=some v:=λj v hj=>by rw[mZ hv,<-hvs j (by rw[<-hvl];exact (Uh.1 hj).1)];exact hj
 have z:∀j,j<c->(w.cell? (adr b (off+j))).isSome=true:=λj hj=>by rw[mZ hb,Uv (by omega)];rfl
 have x:∀j,w.frozen? (adr b j)=false:=λj=>by simp[World.frozen?,adr,hb]
 have u:∀j,w.frozen? (adr vb j)=false:=λj=>by simp[World.frozen?,adr,hv]
 have s:(cs.drop i).length=n - i:=by rw[WQ,hcl]
 have D:(cs.take i).length=i:=by rw[U0];omega
 by_cases hroom:n+m<=c
 ·by_cases hlt:i<n
  ·
   have h:=Any2.slices_Insert_int_shift L b off n c i vb voff m vc cs vs w hlt hm hroom hc63 hne hcl hvl o (λj hj=>z j (by omega)) (λj _=>x _) d h1c h1v
    e2 e cv.size cc.size (by simp[World.shape?,hv]) (by simp[World.shape?,hb]) (by omega) (u _) (u _)
   have B:w.drew.heap[b]?=some (.cells cc e (0,0)):=hb;rw[jz (cs.drop i) (off+(i+m)) w.drew cc B]at h;rw[jz vs (off+i) (World.setBlk w.drew b _) _ (by rw[aX,Un ⟨rfl,r⟩]),px]at h;refine⟨b,off,c,_,e,_,h,hroom,hc63,⟨rfl,rfl,rfl,by simp[i_],by first|exact Ui _|exact V6 _|exact Nat.le_succ_of_le (V6 _)⟩,.inl rfl,λk _ hk=>?_,by rw[aX,Un ⟨rfl,r⟩],by simp[bU];omega,λk hk=>?_⟩
   ·rw[aX,Um (λh=>hk h.1)];rfl
   ·rw[ie hcl hvl hin,cB _ _ _ _ (by rw[bU];omega),cB _ _ _ _ (by omega),s,hvl]
    by_cases h1:k<i
    ·rw[Um (by omega),Um (by omega),Un h1,hcs k (by omega)]
    ·rw[Um h1]
     by_cases h2:k<i+m
     ·rw[Un (by omega),Un h2];congr 1;omega
     ·rw[Um (by omega),Un (by omega),Um h2,UO];congr 1;omega
  ·
   have hi:i=n:=by omega
   subst hi;have h:=Any2.slices_Insert_int_end_room L b off i c vb voff m vc vs w hm hroom hc63 hvl (λj hj=>by rw[Wc];exact z _ (by omega)) (λj _=>x _) d h1v;rw[jz vs (off+i) w cc hb]at h;refine⟨b,off,c,_,e,_,h,hroom,hc63,⟨rfl,rfl,rfl,by simp,by first|exact Ui _|exact V6 _|exact Nat.le_succ_of_le (V6 _)⟩,.inl rfl,λk _ hk=>?_,by rw[aX,Un ⟨rfl,r⟩],by simp[bU];omega,λk hk=>?_⟩
   ·rw[aX,Um (λh=>hk h.1)]
   ·rw[ie hcl hvl hin,cB _ _ _ _ (by omega),hvl]
    by_cases h1:k<i
    ·rw[Um (by omega),Un h1,hcs k (by omega)]
    ·rw[Un (by omega),Um h1,Un (by omega)];congr 1;omega
 ·have p:=grownCap_ge w (n+m) c (ρ.t 3);have q:grownCap w (n+m) c (ρ.t 3)<=9223372036854775807:=by have:=grownCap_le_maxLen w (n+m) c (ρ.t 3) (by unfold maxLen;omega);unfold maxLen at this;omega
  by_cases hlt:i<n
  ·
   have h:=Any2.slices_Insert_int_grow L b off n c i vb voff m vc cs vs w hlt hm hnc (by omega) hbig hcl hvl o d h1c h1v;obtain⟨G,A⟩:∃G,G=grownCap w (n+m) c (ρ.t 3):=⟨_,rfl⟩;rw[<-A]at h p q;obtain⟨ROW,l⟩:∃ROW:Array Value,ROW=(cs.take i).toArray++Builtin.zeroCells (Value.int .i64 0).cells (n+m - i)++Builtin.zeroCells (Value.int .i64 0).cells (G - (n+m)):=⟨_,rfl⟩;rw[<-l]at h;have C:ROW.size=G:=by rw[l];simp[Builtin.zeroCells,Value.cells];omega
   have y:∀k,k<i->ROW[k]?=cs[k]?:=λk hk=>by rw[l,Array.append_assoc,Vp (by simp;omega)];simp[V_,hk]
   have h0:(w.alloc (.cells ROW (ρ.t 3))).drew.heap[w.heap.size]?=some (.cells ROW (ρ.t 3) (0,0)):=by simp[kH,i_]
   rw[jz vs i _ ROW h0]at h;rw[jz (cs.drop i) (i+m) _ (bj ROW i vs) (e:=ρ.t 3) (f:=(0,0)) (by
    show (World.setBlk _ _ _).heap[_]?=_;rw[aX,Un ⟨rfl,by simp[kH,i_]⟩])]at h
   refine⟨w.heap.size,0,G,bj (bj ROW i vs) (i+m) (cs.drop i),ρ.t 3,_,h,p,q,⟨rfl,rfl,rfl,by simp[kH,i_],by first|exact Ui _|exact V6 _|exact Nat.le_succ_of_le (V6 _)⟩,.inr ⟨rfl,by simp[kH,i_]⟩,λk hk _=>?_,?_,by simp[bU,C],λk hk=>?_⟩
   ·rw[aX,Um (by omega)];show (World.setBlk _ _ _).heap[_]?=_;rw[aX,Um (by omega)];simp[kH,i_,WM,show k≠w.heap.size from by omega]
   ·rw[aX,Un ⟨rfl,by simp[kH,i_]⟩]
   ·rw[ie hcl hvl hin,UU,cB _ _ _ _ (by rw[bU];omega),cB _ _ _ _ (by omega),s,hvl]
    by_cases h1:k<i
    ·rw[Um (by omega),Um (by omega),Un h1,y k h1]
    ·rw[Um h1]
     by_cases h2:k<i+m
     ·rw[Um (by omega),Un (by omega),Un h2]
     ·rw[Un (by omega),Um h2,UO];congr 1;omega
  ·have hi:i=n:=by omega
   subst hi;have h:=Any2.slices_Insert_int_end_grow L (some (adr b off)) i c vb voff m vc cs vs w hm hnc (by omega) hbig hcl hvl (λh=>by cases h)
    (λa ha j v hj=>by injection ha with ha;subst ha;rw[gn];exact o j v hj) d h1v
   obtain⟨G,A⟩:∃G,G=grownCap w (i+m) c (ρ.t 3):=⟨_,rfl⟩;rw[<-A]at h p q;refine⟨w.heap.size,0,G,_,ρ.t 3,_,h,p,q,⟨rfl,rfl,rfl,by simp[kH,i_],by first|exact Ui _|exact V6 _|exact Nat.le_succ_of_le (V6 _)⟩,.inr ⟨rfl,by simp[kH,i_]⟩,λk hk _=>?_,by simp[kH,i_];rfl,?_,λk hk=>?_⟩
   ·simp[kH,i_,WM,show k≠w.heap.size from by omega]
   ·simp[Builtin.zeroCells,Value.cells];omega
   ·rw[UU,Vp (by simp;omega)];have:cs.take i++(vs++cs.drop i)=cs++vs:=by rw[<-hcl,U3,List.drop_length,Ux]
    rw[this];simp
theorem Hv(L:Lays2.n21 P ρ){w:World}{base:Option Addr}{vb voff m vc:Nat}{vs:List Value}(hm:0<m)(hbig:m*8<=140737488355328)(hvl:vs.length=m)
  (hvs:∀j v,vs[j]?=some v->w.cell? (adr vb (voff+j))=some v) (h1v:∀v∈vs,v.oneCell'=true) :
  ∃cap rest,m<=cap/\cap<=9223372036854775807/\rest.size=cap - m /\
  Calls P (ρ.f 21) #[.slice base 0 0,.int .i64 0,.slice (some (adr vb voff)) m vc] w (λx y=>x=.returned (.slice (some (adr w.heap.size 0)) m cap)/\y=World.add (World.drewn w) (.cells (vs.toArray++rest) (ρ.t 3) (0,0))):=by
 have k:=grownCap_ge w (0+m) 0 (ρ.t 3);have b:grownCap w (0+m) 0 (ρ.t 3)<=9223372036854775807:=by have:=grownCap_le_maxLen w (0+m) 0 (ρ.t 3) (by unfold maxLen;omega);unfold maxLen at this;omega
 have h:=Any2.slices_Insert_int_end_grow L base 0 0 vb voff m vc [] vs w hm (Ui _) (by omega) (by omega) rfl hvl (λ_=>rfl)
  (λa ha j v hj=>by simp at hj) hvs h1v
 obtain⟨G,c⟩:∃G,G=grownCap w (0+m) 0 (ρ.t 3):=⟨_,rfl⟩;rw[<-c]at h k b;rw[UU]at h k;exact⟨G,Builtin.zeroCells (Value.int .i64 0).cells (G - m),k,b,by simp[Builtin.zeroCells,Value.cells],h⟩
end
noncomputable def qN(i:Nat)(rows:List (List AV))(g:G):OR :=
 ak (Nat.beq i 0&&Nat.ble (bi rows*8) 140737488355328) (.upd (.hsl g.nx 0 0 (bi rows) none) (g.new (.cells 1 rows 0 true false))) .fail
noncomputable def y4(id2 i:Nat)(s:AV)(vrows:List (List AV))(g:G):OR :=
 match s with
 |.nils=>qN i vrows g
 |.esl=>qN i vrows g
 | .hsl id ep off len none =>
  match g.get id with
  |.cells 1 [] ep' false _=>ak ((Nat.beq ep ep'&&Nat.beq off 0)&&Nat.beq len 0) (qN i vrows g) .fail
  | .cells sz rows ep' true false =>
   ak (((((((Nat.beq sz 1&&Nat.beq ep ep')&&Nat.beq off 0)&&Nat.beq len (bi rows))&&ju (Nat.beq id id2))&&Nat.ble i len)&&Nat.ble 1 len)&&Nat.ble ((len+bi vrows)*8) 140737488355328)
    (.upd (.hsl id (ep+1) 0 (len+bi vrows) none) (g.put id (.cells 1 (jB i rows++(vrows++iA i rows)) (ep+1) true false))) .fail
  |_=>.fail
 |_=>.fail
noncomputable def kW:Nat->List AV->G->OR:=λ_ xs g =>
 match xs with
 | [s,.int .i64 (.ofNat i),.hsl id2 ep2 off2 len2 _] =>
  match g.get id2 with
  | .cells sz2 vrows ep2' _ _ =>
   ak ((((Nat.beq sz2 1&&Nat.beq ep2 ep2')&&Nat.beq off2 0)&&Nat.beq len2 (bi vrows))&&Nat.ble 1 len2) (y4 id2 i s vrows g) .fail
  |_=>.fail
 |_=>.fail
theorem tJ{d:Nat}{xs:List AV}{g:G}(h:kW d xs g≠.fail):∃s i id2 ep2 len2 lim2 vrows lo fz,xs=[s,.int .i64 (Int.ofNat i),.hsl id2 ep2 0 len2 lim2] /\
  g.h.get id2=.cells 1 vrows ep2 lo fz/\len2=vrows.length/\0<vrows.length/\kW d xs g=y4 id2 i s vrows g:=by
 unfold kW at h ⊢
 split at h
 ·split at h
  ·rename_i hg;rw[aa]at h ⊢
   split at h
   ·rename_i hc;simp only[Uk,aq]at hc;obtain⟨⟨⟨⟨c1,k⟩,a⟩,b⟩,c⟩:=hc;have c1:=aB c1;have k:=aB k;have a:=aB a;have b:=aB b;subst c1;subst k;subst a;subst b;rw[UR]at c;refine⟨_,_,_,_,_,_,_,_,_,rfl,hg,rfl,c,?_⟩;rw[Un];simp[aq];omega
   ·exact absurd rfl h
  ·exact absurd rfl h
 ·exact absurd rfl h
theorem AH{id2 i:Nat}{s:AV}{vrows:List (List AV)}{g:G}(h:y4 id2 i s vrows g≠.fail) :
  ((s=.nils\/s=.esl\/∃id ep fz,s=.hsl id ep 0 0 none/\g.h.get id=.cells 1 [] ep false fz)/\i=0/\vrows.length*8<=140737488355328/\y4 id2 i s vrows g=.upd (.hsl g.nx 0 0 vrows.length none) (g.new (.cells 1 vrows 0 true false))) \/
  ∃id ep rows,s=.hsl id ep 0 rows.length none/\g.h.get id=.cells 1 rows ep true false/\id≠id2/\i<=rows.length/\0<rows.length/\(rows.length+vrows.length)*8<=140737488355328 /\
   y4 id2 i s vrows g=.upd (.hsl id (ep+1) 0 (rows.length+vrows.length) none) (g.put id (.cells 1 (rows.take i++(vrows++rows.drop i)) (ep+1) true false)):=by
 have k:qN i vrows g≠.fail->i=0/\vrows.length*8<=140737488355328/\qN i vrows g=.upd (.hsl g.nx 0 0 vrows.length none) (g.new (.cells 1 vrows 0 true false)):=by
  intro h;unfold qN at h ⊢;rw[aa]at h ⊢
  split at h
  ·rename_i hc;rw[Un hc];simp only[Uk,aq,UR]at hc;exact⟨aB hc.1,hc.2,by rw[aq]⟩
  ·exact absurd rfl h
 unfold y4 at h ⊢
 split at h
 ·exact .inl ⟨.inl rfl,k h⟩
 ·exact .inl ⟨.inr (.inl rfl),k h⟩
 ·rename_i id ep off len
  split at h
  ·rename_i ep' fz hg;rw[aa]at h
   split at h
   ·rename_i hc;have c:=hc;simp only[Uk]at hc;obtain⟨⟨c1,a⟩,b⟩:=hc;have c1:=aB c1;have a:=aB a;have b:=aB b;subst c1;subst a;subst b;have:=k h;refine .inl ⟨.inr (.inr ⟨id,ep,fz,rfl,hg⟩),this.1,this.2.1,?_⟩;rw[aa,Un c,this.2.2]
   ·exact absurd rfl h
  ·rename_i sz rows ep' hg;rw[aa]at h
   split at h
   ·rename_i hc;have c:=hc;simp only[Uk,aq]at hc;obtain⟨⟨⟨⟨⟨⟨⟨c1,a⟩,b⟩,d⟩,f⟩,j⟩,l⟩,m⟩:=hc;have c1:=aB c1;have a:=aB a;have b:=aB b;have d:=aB d;subst c1;subst a;subst b;subst d;rw[UR]at j l m;refine .inr ⟨id,ep,rows,rfl,hg,λe=>?_,j,l,m,?_⟩
    ·subst e;rw[notb_eq]at f;simp at f
    ·rw[aa,Un c];simp only[aq,bk,bh]
   ·exact absurd rfl h
  ·exact absurd rfl h
 ·exact absurd rfl h
section
variable {C:Cfg}{A:Nat->Nat->Prop}{bd:Nat}{w w':World}{γ γ':Gm}{hg:Nat->AObj}{nx:Nat}{ρ:Ren}
theorem Ht(L:Lays2.n21 C.P ρ)(hent:Enters C.P (ρ.f 21)):ExtOk C (ρ.f 21) kW:=by
 refine⟨λd xs g hwf=>?_,λd xs g y hy=>?_,λA bd w γ hg nx g xs vs hr hwf hx hf hv hne cs=>?_⟩
 ·apply Small.mon _ hwf
  by_cases h:kW d xs g=.fail
  ·rw[h];trivial
  ·obtain⟨s,i,id2,ep2,len2,lim2,vrows,lo,fz,e1,R,V,S,J⟩:=tJ h;rw[J]at h ⊢;rcases AH h with⟨_,_,_,h1⟩|⟨id,ep,rows,_,h2,_,_,_,_,h1⟩
   ·rw[h1];exact .inr ⟨_,rfl⟩
   ·rw[h1];exact .inl ⟨_,_,rfl,by rw[h2];simp⟩
 ·have h:kW d xs g≠.fail:=by rw[hy];simp
  obtain⟨s,i,id2,ep2,len2,lim2,vrows,lo,fz,e1,R,V,S,J⟩:=tJ h;rw[J]at h hy;rcases AH h with⟨_,_,_,h1⟩|⟨id,ep,rows,_,h2,_,_,_,_,h1⟩<;>(rw[h1]at hy;cases hy)
 ·obtain⟨s,i,id2,ep2,len2,lim2,vrows,lo,fz,e1,R,V,S,J⟩:=tJ hne;subst e1;subst V;rw[J]at hne hf ⊢;obtain⟨U,v2,v3,rfl⟩:∃U v2 v3,vs=[U,v2,v3]:=by
   have:=hv.1
   match vs,this with
   |[a,b,c],_=>exact⟨a,b,c,rfl⟩
  have T:RV w γ A bd s U:=hv.2 0 _ _ rfl rfl;have r2:RV w γ A bd (.int .i64 (Int.ofNat i)) v2:=hv.2 1 _ _ rfl rfl;have r3:RV w γ A bd (.hsl id2 ep2 0 vrows.length lim2) v3:=hv.2 2 _ _ rfl rfl;cases r2;have r:hg id2=.cells 1 vrows ep2 lo fz:=by rw[hx id2 (by simp[UY,aw,an]) (by rw[R];simp),R]
  obtain⟨vc,Z,h6,_⟩:=tH hr r3 r;subst Z;obtain⟨cv,ev,lv,p1,p2,p3,p4,p5,p6,p7⟩:=Gb hr r;have hz:(γ id2).base+0*1=(γ id2).base:=by omega
  rw[hz]at r3 ⊢;rcases AH hne with⟨hs,hi,p,h1⟩|⟨id,ep,rows,hs,h2,O,H,h5,p,h1⟩
  ·subst hi;rw[h1]at hf ⊢;have G:(γ g.nx).kind=0:=hf g.nx (Ui _) (by simp[gOf]);have E:∃base,U=.slice base 0 0:=by
    rcases hs with rfl|rfl|⟨id,ep,fz2,rfl,B⟩
    ·cases T;exact⟨_,rfl⟩
    ·cases T;exact⟨_,rfl⟩
    ·have o:hg id=.cells 1 [] ep false fz2:=by rw[hx id (by simp[UY,aw,an]) (by rw[B];simp),B]
     obtain⟨c,I,N,F⟩:=tH hr T o;have u:=hr.obj id;rw[o]at u;obtain⟨-,-,-,k4,k5,-⟩:=u;have hk:=k5.1 rfl;have W:c=0:=by simp only[iV]at F;simp at k4;omega
     subst W;exact⟨_,I⟩
   obtain⟨base,hb⟩:=E;subst hb;obtain⟨cap,rest,q1,q2,q3,q4⟩:=Hv L (w:=w) (base:=base) (vb:=(γ id2).blk) (voff:=(γ id2).base) (m:=vrows.length) (vc:=vc) (vs:=lv) S p p3
    (λj v hj=>by rw[mZ p1,<-p4 j (by rw[<-p3];exact (Uh.1 hj).1)];exact hj) p5
   have Y:RowsRel w γ A bd 1 vrows (lv.toArray++rest):=by refine⟨by simp[p3],p6,λk j row x a b=>?_⟩;obtain⟨j0,o1,v,l1,l2⟩:=p7 k j row x a b;subst j0;refine⟨o1,v,?_,l2⟩;have hk:=(Uh.1 a).1;rw[Vp (by simp;omega)];simpa using l1
   obtain⟨γ',s1,s2,s3⟩:=xQ (e:=ρ.t 3) hr G Y vrows.length cap (by simp[q3];omega) q1 rfl q2;exact⟨_,_,γ',_,O4 s1 s2,s3,.inr ⟨hent,u9 q4 cs⟩⟩
  ·subst hs;rw[h1]at hf ⊢;have o:hg id=.cells 1 rows ep true false:=by rw[hx id (by simp[UY,aw,an]) (by rw[h2];simp),h2]
   obtain⟨c,I,N,F⟩:=tH hr T o;subst I;have u:=hr.obj id;rw[o]at u;obtain⟨k1,k2,k3,k4,k5,k6,_⟩:=u;have D:=hr.obj id2;rw[r]at D;obtain⟨m1,_⟩:=D;have K:(γ id2).blk≠(γ id).blk:=λe=>O (hr.inj id id2 (by rw[k1];decide) (by rw[m1];decide) e.symm);obtain⟨cc,ec,lc,c1,c2,c3,c4,c5,c6,c7⟩:=Gb hr o;have h4:c=rows.length+(γ id).slack:=by simp only[iV]at F;omega
   have M:=Hu L (w:=w) (b:=(γ id).blk) (off:=(γ id).base) (n:=rows.length) (c:=c) (i:=i) (vb:=(γ id2).blk) (voff:=(γ id2).base) (m:=vrows.length) (vc:=vc)
    c1 p1 K H S N (by have:=k5.2 rfl;omega) p (by omega) (by omega) (by omega) c3 p3 c4 p4 c5 p5
   obtain⟨b',o',cap',c',e',w',n1,n2,n3,Q,n5,n6,n7,n8,n9⟩:=M
   let gh:Gh:=⟨1,ep+1,1,rows.length+vrows.length,b',o',cap' - (rows.length+vrows.length),true⟩
   have z:(rows.take i++(vrows++rows.drop i)).length=rows.length+vrows.length:=by simp;omega
   have q:∀(k:Nat) row,(rows.take i++(vrows++rows.drop i))[k]?=some row->row.length=1/\∀(j:Nat) x,row[j]?=some x->x.one=true/\∃v,c'[o'+k*1+j]?=some v/\RV w γ A bd x v:=by
    intro k row hk;have X:k<rows.length+vrows.length:=by rw[<-z];exact (Uh.1 hk).1
    have l:=n9 k X;rw[ie c3 p3 H]at l;rw[ie (n:=rows.length) (m:=vrows.length) rfl rfl H]at hk
    split at hk
    ·rename_i h1;rw[Un h1]at l;refine⟨c6 _ _ hk,λj x hj=>?_⟩;obtain⟨j0,o1,v,l1,l2⟩:=c7 _ j row x hk hj;subst j0;exact⟨o1,v,by rw[show o'+k*1+0=o'+k from by omega,l];exact l1,l2⟩
    ·rename_i h1;rw[Um h1]at l
     split at hk
     ·rename_i h2;rw[Un h2]at l;refine⟨p6 _ _ hk,λj x hj=>?_⟩;obtain⟨j0,o1,v,l1,l2⟩:=p7 _ j row x hk hj;subst j0;exact⟨o1,v,by rw[show o'+k*1+0=o'+k from by omega,l];exact l1,l2⟩
     ·rename_i h2;rw[Um h2]at l;refine⟨c6 _ _ hk,λj x hj=>?_⟩;obtain⟨j0,o1,v,l1,l2⟩:=c7 _ j row x hk hj;subst j0;exact⟨o1,v,by rw[show o'+k*1+0=o'+k from by omega,l];exact l1,l2⟩
   obtain⟨s1,s2⟩:=hr.moved o (w1:=w') (gh:=gh) (rows':=rows.take i++(vrows++rows.drop i)) rfl rfl rfl (by rw[z]) rfl ⟨Q.1,Q.2.1,Q.2.2.1,Q.2.2.2.1⟩ Q.2.2.2.2
    (by rw[z];simp only[gh];omega) n5 n6 (c:=c') (e:=e') n7 (by rw[z];simp only[gh];omega)
    (λk row hk=>(q k row hk).1) (λk j row x hk hj=>(q k row hk).2 j x hj)
   have h3:(γ id).base+0*1=(γ id).base:=by omega
   rw[h3];refine⟨.slice (some (adr b' o')) (rows.length+vrows.length) cap',w',_,_,IJ s1 s2,?_,.inr ⟨hent,u9 n1 cs⟩⟩;refine .hsl _ id (ep+1) 0 _ none _ _ cap' (by simp[gh]) (by simp[gh]) n2 (λ_=>⟨by simp[gh],by simp[gh],?_⟩);simp only[iV,upd_same,gh];omega
end
end Hx
end
namespace Hx
open Go
noncomputable section
end
end Hx
