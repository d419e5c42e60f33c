/- A part of the proof: what the functions of the chapter compute. -/
import Derived.Shelf.Lays2
import Derived.Shelf.SlGeneric
import Derived.Shelf.SlLaysF
import Derived.Test.YteaikmdilmfbeaaGreatRows
import Derived.Calls
import Derived.Shelf.Spec.SlicesInsertGrow
import Derived.Shelf.SlSortCmp.Whole1
import Derived.Test.YteaikmdilmfbeaaGreatHx8
set_option linter.all false
set_option maxRecDepth 20000
set_option maxHeartbeats 8000000
namespace Hx
open Go
noncomputable section
end
end Hx
section
namespace Go.Proofs
open Go.Shelf
def Tryz.lays21_ren:Go.Shelf.Ren:=⟨λ| 21=>160 | 27=>169 | 28=>170 | 35=>171 | 39=>172 | n=>n,λ| 22=>31 | 3=>3 | 4=>4 | 0=>0 | n=>n,λ| n=>n⟩
theorem RW:Go.Proofs.Lays2.n21 Tryz.prog Tryz.lays21_ren:={
 mixed:=by kernel_rfl
 f21:=Tryz.func160.trans (congrArg some (by kernel_rfl))
 f27:=Tryz.func169.trans (congrArg some (by kernel_rfl))
 f28:=Tryz.func170.trans (congrArg some (by kernel_rfl))
 f35:=Tryz.func171.trans (congrArg some (by kernel_rfl))
 f39:=Tryz.func172.trans (congrArg some (by kernel_rfl))
 t0:=Tryz.underlying0
 a0:=Tryz.isAgg0
 z0:=Tryz.sizeOf0
 v0:=Tryz.zeroValue0
 t3:=Tryz.underlying3
 a3:=Tryz.isAgg3
 z3:=Tryz.sizeOf3
 v3:=Tryz.zeroValue3
 t4:=Tryz.underlying4
 a4:=Tryz.isAgg4
 z4:=Tryz.sizeOf4
 v4:=Tryz.zeroValue4
 t22:=Tryz.underlying31
 a22:=Tryz.isAgg31
 z22:=Tryz.sizeOf31
 v22:=Tryz.zeroValue31
 i3:=by kernel_rfl }
def Tryz.sort77_ren:Go.Shelf.Ren:=⟨λ| 6=>77 | 15=>110 | 14=>109 | 28=>143 | 29=>144 | 20=>135 | 21=>136 | 22=>137 | 23=>138 | 24=>139 | 25=>140 | 26=>141 | 27=>142 | 46=>154 | 47=>155 | 48=>156 | 49=>157 | 50=>158 | 57=>166 | n=>n,λ| 22=>31 | 24=>3 | 25=>135 | 3=>3 | 39=>105 | 0=>0 | 53=>216 | 55=>185 | 4=>4 | 46=>210 | 45=>209 | 50=>195 | 5=>5 | 9=>9 | 66=>228 | 70=>232 | 76=>236 | 77=>237 | n=>n,λ| n=>n⟩
theorem RX:Go.Proofs.SlLaysF.n6 Tryz.prog Tryz.sort77_ren:={
 mixed:=by kernel_rfl
 f6:=⟨Tryz.f77.name,by decide,Tryz.func77.trans (congrArg some (by kernel_rfl))⟩
 f14:=⟨Tryz.f109.name,by decide,Tryz.func109.trans (congrArg some (by kernel_rfl))⟩
 f15:=Tryz.func110.trans (congrArg some (by kernel_rfl))
 f20:=⟨Tryz.f135.name,by decide,Tryz.func135.trans (congrArg some (by kernel_rfl))⟩
 f21:=⟨Tryz.f136.name,by decide,Tryz.func136.trans (congrArg some (by kernel_rfl))⟩
 f22:=⟨Tryz.f137.name,by decide,Tryz.func137.trans (congrArg some (by kernel_rfl))⟩
 f23:=⟨Tryz.f138.name,by decide,Tryz.func138.trans (congrArg some (by kernel_rfl))⟩
 f24:=⟨Tryz.f139.name,by decide,Tryz.func139.trans (congrArg some (by kernel_rfl))⟩
 f25:=⟨Tryz.f140.name,by decide,Tryz.func140.trans (congrArg some (by kernel_rfl))⟩
 f26:=⟨Tryz.f141.name,by decide,Tryz.func141.trans (congrArg some (by kernel_rfl))⟩
 f27:=⟨Tryz.f142.name,by decide,Tryz.func142.trans (congrArg some (by kernel_rfl))⟩
 f28:=Tryz.func143.trans (congrArg some (by kernel_rfl))
 f29:=Tryz.func144.trans (congrArg some (by kernel_rfl))
 f46:=⟨Tryz.f154.name,by decide,Tryz.func154.trans (congrArg some (by kernel_rfl))⟩
 f47:=Tryz.func155.trans (congrArg some (by kernel_rfl))
 f48:=Tryz.func156.trans (congrArg some (by kernel_rfl))
 f49:=⟨Tryz.f157.name,by decide,Tryz.func157.trans (congrArg some (by kernel_rfl))⟩
 f50:=⟨Tryz.f158.name,by decide,Tryz.func158.trans (congrArg some (by kernel_rfl))⟩
 f57:=⟨Tryz.f166.name,by decide,Tryz.func166.trans (congrArg some (by kernel_rfl))⟩
 t0:=Tryz.underlying0
 a0:=Tryz.isAgg0
 z0:=Tryz.sizeOf0
 v0:=Tryz.zeroValue0
 t3:=Tryz.underlying3
 a3:=Tryz.isAgg3
 z3:=Tryz.sizeOf3
 v3:=Tryz.zeroValue3
 t4:=Tryz.underlying4
 a4:=Tryz.isAgg4
 z4:=Tryz.sizeOf4
 v4:=Tryz.zeroValue4
 t5:=Tryz.underlying5
 a5:=Tryz.isAgg5
 z5:=Tryz.sizeOf5
 v5:=Tryz.zeroValue5
 t9:=Tryz.underlying9
 a9:=Tryz.isAgg9
 z9:=Tryz.sizeOf9
 v9:=Tryz.zeroValue9
 t22:=Tryz.underlying31
 a22:=Tryz.isAgg31
 z22:=Tryz.sizeOf31
 v22:=Tryz.zeroValue31
 a24:=Tryz.isAgg3
 z24:=Tryz.sizeOf3
 t25:=Tryz.underlying135
 a25:=Tryz.isAgg135
 z25:=Tryz.sizeOf135
 v25:=Tryz.zeroValue135
 t39:=Tryz.underlying105
 a39:=Tryz.isAgg105
 z39:=Tryz.sizeOf105
 v39:=Tryz.zeroValue105
 t45:=Tryz.underlying209
 a45:=Tryz.isAgg209
 z45:=Tryz.sizeOf209
 v45:=Tryz.zeroValue209
 t46:=Tryz.underlying210
 a46:=Tryz.isAgg210
 z46:=Tryz.sizeOf210
 v46:=Tryz.zeroValue210
 t50:=Tryz.underlying195
 a50:=Tryz.isAgg195
 z50:=Tryz.sizeOf195
 v50:=Tryz.zeroValue195
 t53:=Tryz.underlying216
 a53:=Tryz.isAgg216
 z53:=Tryz.sizeOf216
 v53:=Tryz.zeroValue216
 t55:=Tryz.underlying185
 a55:=Tryz.isAgg185
 z55:=Tryz.sizeOf185
 v55:=Tryz.zeroValue185
 t66:=Tryz.underlying228
 a66:=Tryz.isAgg228
 z66:=Tryz.sizeOf228
 v66:=Tryz.zeroValue228
 t70:=Tryz.underlying232
 a70:=Tryz.isAgg232
 z70:=Tryz.sizeOf232
 v70:=Tryz.zeroValue232
 t76:=Tryz.underlying236
 a76:=Tryz.isAgg236
 z76:=Tryz.sizeOf236
 v76:=Tryz.zeroValue236
 t77:=Tryz.underlying237
 a77:=Tryz.isAgg237
 z77:=Tryz.sizeOf237
 v77:=Tryz.zeroValue237 }
end Go.Proofs
end
namespace Hx
open Go
noncomputable section
section
variable {C:Cfg}{A:Nat->Nat->Prop}{bd:Nat}{w w':World}{γ γ':Gm}{hg:Nat->AObj}{nx:Nat}
theorem Il{g:G}{id:Nat}{ob:AObj}(r:Rel C A bd w' γ' (upd hg id ob) nx)(s:Stp w γ w' γ'):Fin C A bd w γ hg nx g w' γ' (upd hg id ob) (g.put id ob) :=
 ⟨r.up (Vb _ _),s,[id],by simp,λk hk=>by simp at hk;subst hk;simp[G.put_h,RQ],λk hk=>by
  rw[bZ];simpa using hk⟩
theorem Ou{g:G}{ob:AObj}(r:Rel C A bd w' γ' (upd hg g.nx ob) (Nat.max nx (g.nx+1)))(s:Stp w γ w' γ'):Fin C A bd w γ hg nx g w' γ' (upd hg g.nx ob) (g.new ob) :=
 ⟨r.up (by simp),s,[g.nx],by simp,λk hk=>by simp at hk;subst hk;simp[G.new_h,RQ],λk hk=>by
  rw[bZ];simpa using hk⟩
theorem FG(hr:Rel C A bd w γ hg nx){id ep:Nat}{rows:List (List AV)}{lo fz:Bool}(hid:hg id=.cells 1 rows ep lo fz) :
  ∃(c:Array Value) (e:TypeId) (l:List Value),w.heap[(γ id).blk]?=some (.cells c e (0,0))/\(γ id).base+(rows.length+(γ id).slack)<=c.size/\l.length=rows.length/\(∀j,j<rows.length->l[j]?=c[(γ id).base+j]?) /\
   (∀v∈l,v.oneCell'=true)/\(∀(k:Nat) row,rows[k]?=some row->row.length=1) /\
   ∀(k j:Nat) row x,rows[k]?=some row->row[j]?=some x->j=0/\x.one=true/\∃v,l[k]?=some v/\RV w γ A bd x v:=by
 have d:=hr.obj id;rw[hid]at d;obtain⟨p,k2,q,r,s,t,c,e,o,u,m,f⟩:=d;have h:∀j,j<rows.length->((c.toList.drop (γ id).base).take rows.length)[j]?=c[(γ id).base+j]?:=λj i=>by rw[T7 i,Um];simp
 refine⟨c,e,(c.toList.drop (γ id).base).take rows.length,o,by omega,by simp;omega,h,λv hv=>?_,m,λk j row x h1 h2=>?_⟩
 ·obtain⟨k,hk⟩:=Ua hv;have hlt:k<rows.length:=by have:=(TJ.1 hk).1;simp at this;omega
  rw[h k hlt]at hk;have b:=TH hlt;have n:=m k _ b;have hx:rows[k][0]?=some (rows[k][0]'(by omega)):=TH _;obtain⟨a,v',b1,b2⟩:=f k 0 _ _ b hx;rw[show (γ id).base+k*1+0=(γ id).base+k from by omega,hk]at b1;injection b1 with b1;subst b1;exact (Hc b2 a).1
 ·have i:j=0:=by have h3:=m k _ h1;have:=(TJ.1 h2).1;omega
  subst i;obtain⟨a,v',b1,b2⟩:=f k 0 _ _ h1 h2;refine⟨rfl,a,v',?_,b2⟩;rw[h k (TJ.1 h1).1];rw[show (γ id).base+k*1+0=(γ id).base+k from by omega]at b1;exact b1
theorem uO{P:Program}{f:FuncId}{args:Array Value}{u:Value}(h:Calls P f args w (λx y=>x=.returned u/\y=w'))(cs:List Frame):Outs P .normal f args cs w u w':=by obtain⟨e,w1,fr,⟨he,hw⟩,hc,hf,hl⟩:=h cs;subst he;subst hw;obtain⟨m,d,k,fn,b,a⟩:=hl;exact⟨fr,hc,m,d,k,hf,fn,by rw[<-hf];exact b,a⟩
theorem CI {P : Program} {f : FuncId} {fn : Func} (h : P.funcs[f]? = some fn) (hn : (fn.name == "runtime.NumGoroutine") = false) (hb : fn.body.isSome = true) : Enters P f := by
 intro args w;unfold callFunc;have hn : fn.name ≠ "runtime.NumGoroutine" := by simpa using hn
 cases hb':fn.body with
 |none=>rw[hb']at hb;cases hb
 |some c=>simp[h,hn,hb']
end
end
end Hx
section
namespace Hx
open Go Go.Proofs Go.Shelf
theorem kh{w:World}{o:Obj}:(Go.World.alloc w o).heap=w.heap.push o:=rfl
theorem iY{w:World}:(Go.World.drew w).heap=w.heap:=rfl
theorem jB{b:Nat}{e:TypeId}{f:Nat×Nat}:∀(vs:List Value) (o:Nat) (w:World) (c:Array Value),w.heap[b]?=some (.cells c e f) ->
  Go.World.setCells w b o vs=World.setBlk w b (.cells (bc c o vs) e f):=by
 intro vs
 induction vs with
 | nil =>
  intro o w c h;have hb:b<w.heap.size:=by
   rcases Vn b w.heap.size with hl|hl
   ·exact hl
   ·rw[UZ hl]at h;cases h
  have hx:w.heap[b]=.cells c e f:=by simpa [TZ hb] using h
  show w=_;simp only[World.setBlk,bc];have:w.heap.setIfInBounds b (.cells c e f)=w.heap:=by
   apply Wj;intro k;rw[Vo]
   by_cases hk:b=k
   ·subst hk;simp[hb,hx]
   ·rw[TN hk]
  rw[this]
 | cons v vs ih =>
  intro o w c h;have hb:b<w.heap.size:=by
   rcases Vn b w.heap.size with hl|hl
   ·exact hl
   ·rw[UZ hl]at h;cases h
  show Go.World.setCells (w.setCell (adr b o) v) b (o+1) vs=_;rw[Bq h,ih (o+1) _ (c.setIfInBounds o v) (by rw[a7];simp[hb]),o9]
  rfl
section
variable {P:Program}{ρ:Ren}
theorem gX{α:Type}{cs vs:List α}{i n m k:Nat}(hcl:cs.length=n)(hvl:vs.length=m)(hi:i<=n) :
  (cs.take i++(vs++cs.drop i))[k]?=if k<i then cs[k]? else if k<i+m then vs[k - i]? else cs[k - m]?:=by
 have h:(cs.take i).length=i:=by rw[T_];omega
 by_cases h1:k<i
 ·rw[TO h1,T5 (by omega),T7 h1]
 ·rw[TN h1,T0 (by omega),h]
  by_cases h2:k<i+m
  ·rw[TO h2,T5 (by omega)]
  ·rw[TN h2,T0 (by omega),Um,hvl];congr 1;omega
def Ins(P:Program)(f:FuncId)(args:Array Value)(w:World)(b n m:Nat)(rowV:List Value):Prop :=
 ∃b' o' cap' c' e' w',Calls P f args w (λx y=>x=.returned (.slice (some (adr b' o')) (n+m) cap')/\y=w')/\n+m<=cap'/\cap'<=9223372036854775807 /\
  (w'.os=w.os/\w'.tape=w.tape/\w'.output=w.output/\w.heap.size<=w'.heap.size/\w.drawn<=w'.drawn)/\(b'=b\/(b'=w.heap.size/\w.heap.size<w'.heap.size)) /\
  (∀k,k<w.heap.size->k≠b->w'.heap[k]?=w.heap[k]?)/\w'.heap[b']?=some (.cells c' e' (0,0))/\o'+cap'<=c'.size /\
  ∀k,k<n+m->c'[o'+k]?=rowV[k]?
theorem GW(L:Lays2.n21 P ρ){w:World}{b off n c i vb voff m vc:Nat}{cc cv:Array Value}{e e2:TypeId}{cs vs:List Value}
  (hb:w.heap[b]?=some (.cells cc e (0,0))) (hv:w.heap[vb]?=some (.cells cv e2 (0,0))) (hne:vb≠b) (hin:i<=n) (hm:0<m) (hnc:n<=c)
  (hc63:c<=9223372036854775807) (hbig:(n+m)*8<=140737488355328) (hcc:off+c<=cc.size) (hcv:voff+m<=cv.size) (hn0:0<c)
  (hcl:cs.length=n) (hvl:vs.length=m) (hcs:∀j,j<n->cs[j]?=cc[off+j]?) (hvs:∀j,j<m->vs[j]?=cv[voff+j]?)
  (h1c:∀v∈cs,v.oneCell'=true) (h1v:∀v∈vs,v.oneCell'=true) :
  Ins P (ρ.f 21) #[.slice (some (adr b off)) n c,.int .i64 i,.slice (some (adr vb voff)) m vc] w b n m (cs.take i++(vs++cs.drop i)):=by
 have r:b<w.heap.size:=by
  rcases Vn b w.heap.size with hl|hl
  ·exact hl
  ·rw[UZ hl]at hb;cases hb
 have o:∀j v,cs[j]?=some v->w.cell? (adr b (off+j))=some v:=λj v hj=>by rw[mB hb,<-hcs j (by rw[<-hcl];exact (TJ.1 hj).1)];exact hj
 have d:∀j v,vs[j]?=some v->w.cell? (adr vb (voff+j))=some v:=λj v hj=>by rw[mB hv,<-hvs j (by rw[<-hvl];exact (TJ.1 hj).1)];exact hj
 have z:∀j,j<c->(w.cell? (adr b (off+j))).isSome=true:=λj hj=>by rw[mB hb,TZ (by omega)];rfl
 have x:∀j,w.frozen? (adr b j)=false:=λj=>by simp[World.frozen?,adr,hb]
 have u:∀j,w.frozen? (adr vb j)=false:=λj=>by simp[World.frozen?,adr,hv]
 have s:(cs.drop i).length=n - i:=by rw[V8,hcl]
 have D:(cs.take i).length=i:=by rw[T_];omega
 by_cases hroom:n+m<=c
 ·by_cases hlt:i<n
  ·
   have h:=Any2.slices_Insert_int_shift L b off n c i vb voff m vc cs vs w hlt hm hroom hc63 hne hcl hvl o (λj hj=>z j (by omega)) (λj _=>x _) d h1c h1v
    e2 e cv.size cc.size (by simp[World.shape?,hv]) (by simp[World.shape?,hb]) (by omega) (u _) (u _)
   have B:w.drew.heap[b]?=some (.cells cc e (0,0)):=hb;rw[jB (cs.drop i) (off+(i+m)) w.drew cc B]at h;rw[jB vs (off+i) (World.setBlk w.drew b _) _ (by rw[a7,TO ⟨rfl,r⟩]),o9]at h;refine⟨b,off,c,_,e,_,h,hroom,hc63,⟨rfl,rfl,rfl,by simp[iY],by first|exact TG _|exact VF _|exact Nat.le_succ_of_le (VF _)⟩,.inl rfl,λk _ hk=>?_,by rw[a7,TO ⟨rfl,r⟩],by simp[bK];omega,λk hk=>?_⟩
   ·rw[a7,TN (λh=>hk h.1)];rfl
   ·rw[gX hcl hvl hin,bW _ _ _ _ (by rw[bK];omega),bW _ _ _ _ (by omega),s,hvl]
    by_cases h1:k<i
    ·rw[TN (by omega),TN (by omega),TO h1,hcs k (by omega)]
    ·rw[TN h1]
     by_cases h2:k<i+m
     ·rw[TO (by omega),TO h2];congr 1;omega
     ·rw[TN (by omega),TO (by omega),TN h2,Um];congr 1;omega
  ·
   have hi:i=n:=by omega
   subst hi;have h:=Any2.slices_Insert_int_end_room L b off i c vb voff m vc vs w hm hroom hc63 hvl (λj hj=>by rw[VK];exact z _ (by omega)) (λj _=>x _) d h1v;rw[jB vs (off+i) w cc hb]at h;refine⟨b,off,c,_,e,_,h,hroom,hc63,⟨rfl,rfl,rfl,by simp,by first|exact TG _|exact VF _|exact Nat.le_succ_of_le (VF _)⟩,.inl rfl,λk _ hk=>?_,by rw[a7,TO ⟨rfl,r⟩],by simp[bK];omega,λk hk=>?_⟩
   ·rw[a7,TN (λh=>hk h.1)]
   ·rw[gX hcl hvl hin,bW _ _ _ _ (by omega),hvl]
    by_cases h1:k<i
    ·rw[TN (by omega),TO h1,hcs k (by omega)]
    ·rw[TO (by omega),TN h1,TO (by omega)];congr 1;omega
 ·have p:=grownCap_ge w (n+m) c (ρ.t 3);have q:grownCap w (n+m) c (ρ.t 3)<=9223372036854775807:=by have:=grownCap_le_maxLen w (n+m) c (ρ.t 3) (by unfold maxLen;omega);unfold maxLen at this;omega
  by_cases hlt:i<n
  ·
   have h:=Any2.slices_Insert_int_grow L b off n c i vb voff m vc cs vs w hlt hm hnc (by omega) hbig hcl hvl o d h1c h1v;obtain⟨G,A⟩:∃G,G=grownCap w (n+m) c (ρ.t 3):=⟨_,rfl⟩;rw[<-A]at h p q;obtain⟨ROW,l⟩:∃ROW:Array Value,ROW=(cs.take i).toArray++Builtin.zeroCells (Value.int .i64 0).cells (n+m - i)++Builtin.zeroCells (Value.int .i64 0).cells (G - (n+m)):=⟨_,rfl⟩;rw[<-l]at h;have C:ROW.size=G:=by rw[l];simp[Builtin.zeroCells,Value.cells];omega
   have y:∀k,k<i->ROW[k]?=cs[k]?:=λk hk=>by rw[l,Array.append_assoc,U3 (by simp;omega)];simp[V7,hk]
   have h0:(w.alloc (.cells ROW (ρ.t 3))).drew.heap[w.heap.size]?=some (.cells ROW (ρ.t 3) (0,0)):=by simp[kh,iY]
   rw[jB vs i _ ROW h0]at h;rw[jB (cs.drop i) (i+m) _ (bc ROW i vs) (e:=ρ.t 3) (f:=(0,0)) (by
    show (World.setBlk _ _ _).heap[_]?=_;rw[a7,TO ⟨rfl,by simp[kh,iY]⟩])]at h
   refine⟨w.heap.size,0,G,bc (bc ROW i vs) (i+m) (cs.drop i),ρ.t 3,_,h,p,q,⟨rfl,rfl,rfl,by simp[kh,iY],by first|exact TG _|exact VF _|exact Nat.le_succ_of_le (VF _)⟩,.inr ⟨rfl,by simp[kh,iY]⟩,λk hk _=>?_,?_,by simp[bK,C],λk hk=>?_⟩
   ·rw[a7,TN (by omega)];show (World.setBlk _ _ _).heap[_]?=_;rw[a7,TN (by omega)];simp[kh,iY,Ww,show k≠w.heap.size from by omega]
   ·rw[a7,TO ⟨rfl,by simp[kh,iY]⟩]
   ·rw[gX hcl hvl hin,Uy,bW _ _ _ _ (by rw[bK];omega),bW _ _ _ _ (by omega),s,hvl]
    by_cases h1:k<i
    ·rw[TN (by omega),TN (by omega),TO h1,y k h1]
    ·rw[TN h1]
     by_cases h2:k<i+m
     ·rw[TN (by omega),TO (by omega),TO h2]
     ·rw[TO (by omega),TN h2,Um];congr 1;omega
  ·have hi:i=n:=by omega
   subst hi;have h:=Any2.slices_Insert_int_end_grow L (some (adr b off)) i c vb voff m vc cs vs w hm hnc (by omega) hbig hcl hvl (λh=>by cases h)
    (λa ha j v hj=>by injection ha with ha;subst ha;rw[fT];exact o j v hj) d h1v
   obtain⟨G,A⟩:∃G,G=grownCap w (i+m) c (ρ.t 3):=⟨_,rfl⟩;rw[<-A]at h p q;refine⟨w.heap.size,0,G,_,ρ.t 3,_,h,p,q,⟨rfl,rfl,rfl,by simp[kh,iY],by first|exact TG _|exact VF _|exact Nat.le_succ_of_le (VF _)⟩,.inr ⟨rfl,by simp[kh,iY]⟩,λk hk _=>?_,by simp[kh,iY];rfl,?_,λk hk=>?_⟩
   ·simp[kh,iY,Ww,show k≠w.heap.size from by omega]
   ·simp[Builtin.zeroCells,Value.cells];omega
   ·rw[Uy,U3 (by simp;omega)];have:cs.take i++(vs++cs.drop i)=cs++vs:=by rw[<-hcl,Ur,List.drop_length,T3]
    rw[this];simp
theorem GX(L:Lays2.n21 P ρ){w:World}{base:Option Addr}{vb voff m vc:Nat}{vs:List Value}(hm:0<m)(hbig:m*8<=140737488355328)(hvl:vs.length=m)
  (hvs:∀j v,vs[j]?=some v->w.cell? (adr vb (voff+j))=some v) (h1v:∀v∈vs,v.oneCell'=true) :
  ∃cap rest,m<=cap/\cap<=9223372036854775807/\rest.size=cap - m /\
  Calls P (ρ.f 21) #[.slice base 0 0,.int .i64 0,.slice (some (adr vb voff)) m vc] w (λx y=>x=.returned (.slice (some (adr w.heap.size 0)) m cap)/\y=World.add (World.drewn w) (.cells (vs.toArray++rest) (ρ.t 3) (0,0))):=by
 have k:=grownCap_ge w (0+m) 0 (ρ.t 3);have b:grownCap w (0+m) 0 (ρ.t 3)<=9223372036854775807:=by have:=grownCap_le_maxLen w (0+m) 0 (ρ.t 3) (by unfold maxLen;omega);unfold maxLen at this;omega
 have h:=Any2.slices_Insert_int_end_grow L base 0 0 vb voff m vc [] vs w hm (TG _) (by omega) (by omega) rfl hvl (λ_=>rfl)
  (λa ha j v hj=>by simp at hj) hvs h1v
 obtain⟨G,c⟩:∃G,G=grownCap w (0+m) 0 (ρ.t 3):=⟨_,rfl⟩;rw[<-c]at h k b;rw[Uy]at h k;exact⟨G,Builtin.zeroCells (Value.int .i64 0).cells (G - m),k,b,by simp[Builtin.zeroCells,Value.cells],h⟩
end
noncomputable def qJ(i:Nat)(rows:List (List AV))(g:G):OR :=
 ay (Nat.beq i 0&&Nat.ble (bj rows*8) 140737488355328) (.upd (.hsl g.nx 0 0 (bj rows) none) (g.new (.cells 1 rows 0 true false))) .fail
noncomputable def y_(id2 i:Nat)(s:AV)(vrows:List (List AV))(g:G):OR :=
 match s with
 |.nils=>qJ i vrows g
 |.esl=>qJ i vrows g
 | .hsl id ep off len none =>
  match g.get id with
  |.cells 1 [] ep' false _=>ay ((Nat.beq ep ep'&&Nat.beq off 0)&&Nat.beq len 0) (qJ i vrows g) .fail
  | .cells sz rows ep' true false =>
   ay (((((((Nat.beq sz 1&&Nat.beq ep ep')&&Nat.beq off 0)&&Nat.beq len (bj rows))&&jz (Nat.beq id id2))&&Nat.ble i len)&&Nat.ble 1 len)&&Nat.ble ((len+bj vrows)*8) 140737488355328)
    (.upd (.hsl id (ep+1) 0 (len+bj vrows) none) (g.put id (.cells 1 (iQ i rows++(vrows++gD i rows)) (ep+1) true false))) .fail
  |_=>.fail
 |_=>.fail
noncomputable def ku:Nat->List AV->G->OR:=λ_ xs g =>
 match xs with
 | [s,.int .i64 (.ofNat i),.hsl id2 ep2 off2 len2 _] =>
  match g.get id2 with
  | .cells sz2 vrows ep2' _ _ =>
   ay ((((Nat.beq sz2 1&&Nat.beq ep2 ep2')&&Nat.beq off2 0)&&Nat.beq len2 (bj vrows))&&Nat.ble 1 len2) (y_ id2 i s vrows g) .fail
  |_=>.fail
 |_=>.fail
theorem tK{d:Nat}{xs:List AV}{g:G}(h:ku d xs g≠.fail):∃s i id2 ep2 len2 lim2 vrows lo fz,xs=[s,.int .i64 (Int.ofNat i),.hsl id2 ep2 0 len2 lim2] /\
  g.h.get id2=.cells 1 vrows ep2 lo fz/\len2=vrows.length/\0<vrows.length/\ku d xs g=y_ id2 i s vrows g:=by
 unfold ku at h ⊢
 split at h
 ·split at h
  ·rename_i hg;rw[aa]at h ⊢
   split at h
   ·rename_i hc;simp only[TM,aA]at hc;obtain⟨⟨⟨⟨c1,k⟩,a⟩,b⟩,c⟩:=hc;have c1:=aH c1;have k:=aH k;have a:=aH a;have b:=aH b;subst c1;subst k;subst a;subst b;rw[Uw]at c;refine⟨_,_,_,_,_,_,_,_,_,rfl,hg,rfl,c,?_⟩;rw[TO];simp[aA];omega
   ·exact absurd rfl h
  ·exact absurd rfl h
 ·exact absurd rfl h
theorem AM{id2 i:Nat}{s:AV}{vrows:List (List AV)}{g:G}(h:y_ id2 i s vrows g≠.fail) :
  ((s=.nils\/s=.esl\/∃id ep fz,s=.hsl id ep 0 0 none/\g.h.get id=.cells 1 [] ep false fz)/\i=0/\vrows.length*8<=140737488355328/\y_ id2 i s vrows g=.upd (.hsl g.nx 0 0 vrows.length none) (g.new (.cells 1 vrows 0 true false))) \/
  ∃id ep rows,s=.hsl id ep 0 rows.length none/\g.h.get id=.cells 1 rows ep true false/\id≠id2/\i<=rows.length/\0<rows.length/\(rows.length+vrows.length)*8<=140737488355328 /\
   y_ id2 i s vrows g=.upd (.hsl id (ep+1) 0 (rows.length+vrows.length) none) (g.put id (.cells 1 (rows.take i++(vrows++rows.drop i)) (ep+1) true false)):=by
 have k:qJ i vrows g≠.fail->i=0/\vrows.length*8<=140737488355328/\qJ i vrows g=.upd (.hsl g.nx 0 0 vrows.length none) (g.new (.cells 1 vrows 0 true false)):=by
  intro h;unfold qJ at h ⊢;rw[aa]at h ⊢
  split at h
  ·rename_i hc;rw[TO hc];simp only[TM,aA,Uw]at hc;exact⟨aH hc.1,hc.2,by rw[aA]⟩
  ·exact absurd rfl h
 unfold y_ at h ⊢
 split at h
 ·exact .inl ⟨.inl rfl,k h⟩
 ·exact .inl ⟨.inr (.inl rfl),k h⟩
 ·rename_i id ep off len
  split at h
  ·rename_i ep' fz hg;rw[aa]at h
   split at h
   ·rename_i hc;have c:=hc;simp only[TM]at hc;obtain⟨⟨c1,a⟩,b⟩:=hc;have c1:=aH c1;have a:=aH a;have b:=aH b;subst c1;subst a;subst b;have:=k h;refine .inl ⟨.inr (.inr ⟨id,ep,fz,rfl,hg⟩),this.1,this.2.1,?_⟩;rw[aa,TO c,this.2.2]
   ·exact absurd rfl h
  ·rename_i sz rows ep' hg;rw[aa]at h
   split at h
   ·rename_i hc;have c:=hc;simp only[TM,aA]at hc;obtain⟨⟨⟨⟨⟨⟨⟨c1,a⟩,b⟩,d⟩,f⟩,j⟩,l⟩,m⟩:=hc;have c1:=aH c1;have a:=aH a;have b:=aH b;have d:=aH d;subst c1;subst a;subst b;subst d;rw[Uw]at j l m;refine .inr ⟨id,ep,rows,rfl,hg,λe=>?_,j,l,m,?_⟩
    ·subst e;rw[notb_eq]at f;simp at f
    ·rw[aa,TO c];simp only[aA,be,ba]
   ·exact absurd rfl h
  ·exact absurd rfl h
 ·exact absurd rfl h
section
variable {C:Cfg}{A:Nat->Nat->Prop}{bd:Nat}{w w':World}{γ γ':Gm}{hg:Nat->AObj}{nx:Nat}{ρ:Ren}
theorem GV(L:Lays2.n21 C.P ρ)(hent:Enters C.P (ρ.f 21)):ExtOk C (ρ.f 21) ku:=by
 refine⟨λd xs g hwf=>?_,λd xs g y hy=>?_,λA bd w γ hg nx g xs vs hr hwf hx hf hv hne cs=>?_⟩
 ·apply Small.mon _ hwf
  by_cases h:ku d xs g=.fail
  ·rw[h];trivial
  ·obtain⟨s,i,id2,ep2,len2,lim2,vrows,lo,fz,e1,e2,e3,S,J⟩:=tK h;rw[J]at h ⊢;rcases AM h with⟨_,_,_,h1⟩|⟨id,ep,rows,_,h2,_,_,_,_,h1⟩
   ·rw[h1];exact .inr ⟨_,rfl⟩
   ·rw[h1];exact .inl ⟨_,_,rfl,by rw[h2];simp⟩
 ·have h:ku d xs g≠.fail:=by rw[hy];simp
  obtain⟨s,i,id2,ep2,len2,lim2,vrows,lo,fz,e1,e2,e3,S,J⟩:=tK h;rw[J]at h hy;rcases AM h with⟨_,_,_,h1⟩|⟨id,ep,rows,_,h2,_,_,_,_,h1⟩<;>(rw[h1]at hy;cases hy)
 ·obtain⟨s,i,id2,ep2,len2,lim2,vrows,lo,fz,e1,e2,e3,S,J⟩:=tK hne;subst e1;subst e3;rw[J]at hne hf ⊢;obtain⟨U,v2,v3,rfl⟩:∃U v2 v3,vs=[U,v2,v3]:=by
   have:=hv.1
   match vs,this with
   |[a,b,c],_=>exact⟨a,b,c,rfl⟩
  have T:RV w γ A bd s U:=hv.2 0 _ _ rfl rfl;have r2:RV w γ A bd (.int .i64 (Int.ofNat i)) v2:=hv.2 1 _ _ rfl rfl;have r3:RV w γ A bd (.hsl id2 ep2 0 vrows.length lim2) v3:=hv.2 2 _ _ rfl rfl;cases r2;have r:hg id2=.cells 1 vrows ep2 lo fz:=by rw[hx id2 (by simp[Uu,aw,aC]) (by rw[e2];simp),e2]
  obtain⟨vc,Y,h5,_⟩:=tH hr r3 r;subst Y;obtain⟨cv,ev,lv,p1,p2,R,p4,p5,p6,p7⟩:=FG hr r;have hz:(γ id2).base+0*1=(γ id2).base:=by omega
  rw[hz]at r3 ⊢;rcases AM hne with⟨hs,hi,p,h1⟩|⟨id,ep,rows,hs,h2,O,H,h4,p,h1⟩
  ·subst hi;rw[h1]at hf ⊢;have G:(γ g.nx).kind=0:=hf g.nx (TG _) (by simp[gOf]);have E:∃base,U=.slice base 0 0:=by
    rcases hs with rfl|rfl|⟨id,ep,fz2,rfl,B⟩
    ·cases T;exact⟨_,rfl⟩
    ·cases T;exact⟨_,rfl⟩
    ·have o:hg id=.cells 1 [] ep false fz2:=by rw[hx id (by simp[Uu,aw,aC]) (by rw[B];simp),B]
     obtain⟨c,I,N,F⟩:=tH hr T o;have u:=hr.obj id;rw[o]at u;obtain⟨-,-,-,k4,k5,-⟩:=u;have hk:=k5.1 rfl;have V:c=0:=by simp only[iS]at F;simp at k4;omega
     subst V;exact⟨_,I⟩
   obtain⟨base,hb⟩:=E;subst hb;obtain⟨cap,rest,q1,q2,q3,q4⟩:=GX L (w:=w) (base:=base) (vb:=(γ id2).blk) (voff:=(γ id2).base) (m:=vrows.length) (vc:=vc) (vs:=lv) S p R
    (λj v hj=>by rw[mB p1,<-p4 j (by rw[<-R];exact (TJ.1 hj).1)];exact hj) p5
   have X:RowsRel w γ A bd 1 vrows (lv.toArray++rest):=by refine⟨by simp[R],p6,λk j row x a b=>?_⟩;obtain⟨j0,o1,v,l1,l2⟩:=p7 k j row x a b;subst j0;refine⟨o1,v,?_,l2⟩;have hk:=(TJ.1 a).1;rw[U3 (by simp;omega)];simpa using l1
   obtain⟨γ',s1,s2,s3⟩:=xW (e:=ρ.t 3) hr G X vrows.length cap (by simp[q3];omega) q1 rfl q2;exact⟨_,_,γ',_,Ou s1 s2,s3,.inr ⟨hent,uO q4 cs⟩⟩
  ·subst hs;rw[h1]at hf ⊢;have o:hg id=.cells 1 rows ep true false:=by rw[hx id (by simp[Uu,aw,aC]) (by rw[h2];simp),h2]
   obtain⟨c,I,N,F⟩:=tH hr T o;subst I;have u:=hr.obj id;rw[o]at u;obtain⟨k1,k2,k3,k4,k5,k6,_⟩:=u;have D:=hr.obj id2;rw[r]at D;obtain⟨m1,_⟩:=D;have K:(γ id2).blk≠(γ id).blk:=λe=>O (hr.inj id id2 (by rw[k1];decide) (by rw[m1];decide) e.symm);obtain⟨cc,ec,lc,c1,c2,c3,c4,c5,c6,c7⟩:=FG hr o;have h3:c=rows.length+(γ id).slack:=by simp only[iS]at F;omega
   have M:=GW L (w:=w) (b:=(γ id).blk) (off:=(γ id).base) (n:=rows.length) (c:=c) (i:=i) (vb:=(γ id2).blk) (voff:=(γ id2).base) (m:=vrows.length) (vc:=vc)
    c1 p1 K H S N (by have:=k5.2 rfl;omega) p (by omega) (by omega) (by omega) c3 R c4 p4 c5 p5
   obtain⟨b',o',cap',c',e',w',n1,n2,n3,Q,n5,n6,n7,n8,n9⟩:=M
   let gh:Gh:=⟨1,ep+1,1,rows.length+vrows.length,b',o',cap' - (rows.length+vrows.length),true⟩
   have z:(rows.take i++(vrows++rows.drop i)).length=rows.length+vrows.length:=by simp;omega
   have q:∀(k:Nat) row,(rows.take i++(vrows++rows.drop i))[k]?=some row->row.length=1/\∀(j:Nat) x,row[j]?=some x->x.one=true/\∃v,c'[o'+k*1+j]?=some v/\RV w γ A bd x v:=by
    intro k row hk;have W:k<rows.length+vrows.length:=by rw[<-z];exact (TJ.1 hk).1
    have l:=n9 k W;rw[gX c3 R H]at l;rw[gX (n:=rows.length) (m:=vrows.length) rfl rfl H]at hk
    split at hk
    ·rename_i h1;rw[TO h1]at l;refine⟨c6 _ _ hk,λj x hj=>?_⟩;obtain⟨j0,o1,v,l1,l2⟩:=c7 _ j row x hk hj;subst j0;exact⟨o1,v,by rw[show o'+k*1+0=o'+k from by omega,l];exact l1,l2⟩
    ·rename_i h1;rw[TN h1]at l
     split at hk
     ·rename_i h2;rw[TO h2]at l;refine⟨p6 _ _ hk,λj x hj=>?_⟩;obtain⟨j0,o1,v,l1,l2⟩:=p7 _ j row x hk hj;subst j0;exact⟨o1,v,by rw[show o'+k*1+0=o'+k from by omega,l];exact l1,l2⟩
     ·rename_i h2;rw[TN h2]at l;refine⟨c6 _ _ hk,λj x hj=>?_⟩;obtain⟨j0,o1,v,l1,l2⟩:=c7 _ j row x hk hj;subst j0;exact⟨o1,v,by rw[show o'+k*1+0=o'+k from by omega,l];exact l1,l2⟩
   obtain⟨s1,s2⟩:=hr.moved o (w1:=w') (gh:=gh) (rows':=rows.take i++(vrows++rows.drop i)) rfl rfl rfl (by rw[z]) rfl ⟨Q.1,Q.2.1,Q.2.2.1,Q.2.2.2.1⟩ Q.2.2.2.2
    (by rw[z];simp only[gh];omega) n5 n6 (c:=c') (e:=e') n7 (by rw[z];simp only[gh];omega)
    (λk row hk=>(q k row hk).1) (λk j row x hk hj=>(q k row hk).2 j x hj)
   have Z:(γ id).base+0*1=(γ id).base:=by omega
   rw[Z];refine⟨.slice (some (adr b' o')) (rows.length+vrows.length) cap',w',_,_,Il s1 s2,?_,.inr ⟨hent,uO n1 cs⟩⟩;refine .hsl _ id (ep+1) 0 _ none _ _ cap' (by simp[gh]) (by simp[gh]) n2 (λ_=>⟨by simp[gh],by simp[gh],?_⟩);simp only[iS,upd_same,gh];omega
end
end Hx
end
namespace Hx
open Go
noncomputable section
end
end Hx
section
namespace Hx
open Go Go.Proofs Go.Shelf Go.Sort Go.RowKit
abbrev El (L:List Int):Type:={ x:Int // x∈L }
def od(L:List Int):El L->Value:=λx=>.int .i64 x.1
def li(L:List Int):Array (El L):=L.attach.toArray
def eci{L:List Int}(x:El L):List AV:=[.int .i64 x.1]
theorem cL(L:List Int):(li L).size=L.length:=by simp[li]
def Py(C:Cfg)(d:Nat)(g:G)(f:Nat)(cap:List AV)(L:List Int)(cf:El L->El L->Int):Prop :=
 ∀x y,af (I C) d g f (.int .i64 x.1::.int .i64 y.1::cap)=.val (.int .i64 (cf x y))
def xp(C:Cfg)(d:Nat)(g:G)(id len:Nat)(rows:List (List AV))(f:Nat)(cap:List AV)(R:List Int):Prop :=
 ∃(L:List Int) (_:Inhabited (El L)) (cf:El L->El L->Int),rows=L.map (λx=>[.int .i64 x])/\len=L.length/\L.length<4611686018427387904/\(id ∉ cap.flatMap (aw g.h aC)/\∀k∈cap.flatMap (aw g.h aC),k∈aw g.h aC (.clo f [] cap)) /\
  SWO (ltOf cf)/\Py C d g f cap L cf/\R=(pdq (ltOf cf) (li L) 0 L.length (Lib.bitLen L.length) true true).toList.map (·.1)
open Classical in
noncomputable def tV(C:Cfg):Nat->List AV->G->OR:=λd xs g =>
 match xs with
 | [.hsl id ep 0 len _,.clo f [] cap]=>match g.h.get id with
  |.cells 1 rows ep' lo false=>if h:ep=ep'/\∃R,xp C d g id len rows f cap R then .upd (.tup []) (g.put id (.cells 1 (h.2.choose.map λx=>[.int .i64 x]) ep lo false)) else .fail
  |_=>.fail
 |_=>.fail
theorem yf{C:Cfg}{d:Nat}{xs:List AV}{g:G}(h:tV C d xs g≠.fail):∃id ep len lim f cap rows lo R,xs=[.hsl id ep 0 len lim,.clo f [] cap]/\g.h.get id=.cells 1 rows ep lo false/\xp C d g id len rows f cap R /\
  tV C d xs g=.upd (.tup []) (g.put id (.cells 1 (R.map λx=>[.int .i64 x]) ep lo false)):=by
 unfold tV at h ⊢
 split at h
 ·rename_i id ep len lim f cap
  split at h
  ·rename_i rows ep' lo k
   split at h
   ·rename_i hc;obtain⟨rfl,hR⟩:=hc;refine⟨id,ep,len,lim,f,cap,rows,lo,hR.choose,rfl,k,hR.choose_spec,?_⟩
    first|simp only[k]|skip
    rw[dif_pos ⟨rfl,hR⟩]
   ·exact absurd rfl h
  ·exact absurd rfl h
 ·exact absurd rfl h
section
variable {C:Cfg}{A:Nat->Nat->Prop}{bd:Nat}{w:World}{γ:Gm}{hg:Nat->AObj}{nx:Nat}
theorem DV{ih:IH}{g:G}{f:Nat}{args:List AV}{vs:List Value}{k:IntKind}{z:Int}(hc:zD C ih)(hm:vV ih)(hr:Rel C A bd w γ hg nx)
  (hx:∀id∈args.flatMap (aw g.h aC),g.h.get id≠.none->hg id=g.h.get id)
  (hv:RVs w γ A bd args vs) (hres:af ih (bd+1) g f args=.val (.int k z)) (cs:List Frame) :
  Enters C.P f/\∃w',Stp w γ w' γ/\(∀b,b<w.heap.size->w'.heap[b]?=w.heap[b]?)/\Outs C.P .normal f vs.toArray cs w (.int k z) w':=by
 let γc:Gm:=λ_=>⟨0,0,0,0,0,0,0,false⟩
 let L:Nat->Prop:=λid=>id∈args.flatMap (aw g.h aC)
 let isC:Nat->Prop:=λid=>∃sz rows ep lo fz,g.h.get id=.cells sz rows ep lo fz
 let Ac:Nat->Nat->Prop:=λt b=>(t<=bd/\(A t b\/Mut γ b))\/(t=bd+1/\b<w.heap.size/\¬∃id,L id/\isC id/\(γ id).kind=1/\(γ id).blk=b)
 have e:∀b,¬Mut γc b:=by rintro b ⟨id,h,_⟩;exact h rfl
 unfold af at hres
 split at hres
 ·cases hres
 rename_i xs0 B;have l:∀t b,t<=bd->b<w.heap.size->¬A t b->¬Mut γ b->¬Ac t b/\¬Mut γc b:=by
  intro t b h1 _ h2 h3;refine⟨?_,e b⟩;rintro (⟨_,h|h⟩|⟨h,_⟩)
  ·exact h2 h
  ·exact h3 h
  ·omega
 have o:RVs w γc Ac (bd+1) xs0 vs:=by
  refine⟨by rw[kX B];exact hv.1,λi y v hy hvi=>?_⟩;obtain⟨x,h1,h2⟩:=eK B i y hy;refine (zx (L:=L) hr hx (VF _) (TG _) l ?_ aC h2 (hv.2 i x v h1 hvi) λid hid=>V9.2 ⟨x,TL h1,hid⟩).1;intro id N p hk t h3 h4;have ht:t=bd+1:=WW h4 h3;refine⟨?_,e _⟩;rintro (⟨h,_⟩|⟨_,_,h⟩)
  ·omega
  ·exact h ⟨id,N,p,hk,rfl⟩
 have K:Rel C Ac (bd+1) w γc (λ_=>.none) 0:=by
  refine⟨λid=>rfl,λid h=>absurd rfl h,λi j h=>absurd rfl h,λid h=>absurd rfl h,?_,λgl sz rows h=>?_⟩
  ·rintro t b (⟨_,h|⟨id,h1,h2,h3⟩⟩|⟨_,h,_⟩)
   ·exact hr.ab t b h
   ·rw[<-h3];exact (hr.lt id h1).2
   ·exact h
  ·have:=hr.glob gl sz rows h;exact (ld this (tS this (.inr ⟨_,_,_,_,_,rfl⟩)) l).mono (VF _)
 split at hres
 ·cases hres
 rename_i r g' m;have d:G.empty.h.get=λ_=>AObj.none:=by funext id;simp[G.empty,H.get,RU]
 obtain⟨D,F⟩:=hc (bd+1) f xs0 G.empty r g' m;obtain⟨u,w',γ',hg',a,M,E⟩:=F Ac w γc (λ_=>.none) 0 vs K (λid h=>by rw[d]at h;exact absurd rfl h) (λid _=>by rw[d])
  (λ_ _ _=>rfl) o .normal cs (.inl rfl)
 have q:Ext g'.h hg':=a.ext (hm _ _ _ _ _ _ m (λid _=>by rw[d])) (λid h=>by rw[d]at h;exact absurd rfl h);have n:∀b,b<w.heap.size->w'.heap[b]?=w.heap[b]?:=λb hb=>a.stp.fr b hb (e b);have I:Stp w γ w' γ:=Bw a.stp.sz a.stp.os a.stp.tape a.stp.output a.stp.dr n
 split at hres
 ·cases hres
 rename_i r' s;obtain⟨J,hcl⟩:=zx (A':=Ac) (γ':=γc) (L:=λ_=>True) a.rel (λid _=>q id) (TG _) (Uj _) (λt b _ _ h _=>⟨h,e b⟩)
  (λid _ _ hk t _ _=>⟨a.rel.av id (by rw[hk];decide) t,e _⟩) aC s M λ_ _=>trivial
 split at hres
 ·cases hres
 rw[aa]at hres
 split at hres
 ·injection hres with hres;subst hres;cases J;exact⟨D,w',I,n,E⟩
 ·split at hres
  ·cases hres
  ·split at hres
   ·cases hres
   ·rw[aa]at hres
    split at hres<;>cases hres
theorem HL{W w':World}(h1:W.heap.size<=w'.heap.size)(h2:w'.os=W.os)(h3:w'.tape=W.tape)(h4:w'.output=W.output)(h5:W.drawn<=w'.drawn)(hs:∀b,b<W.heap.size->w'.heap[b]?=W.heap[b]?) :
  ∃q os,w'=Sort.grow (W.drewN q) os:=by
 refine⟨w'.drawn - W.drawn,w'.heap.extract W.heap.size w'.heap.size,?_⟩;obtain⟨h,tp',dr',os',ou'⟩:=w';obtain⟨hp,tp,dr,os,ou⟩:=W;dsimp only at h1 h2 h3 h4 h5 hs;subst h2;subst h3;subst h4;have e1:h=hp++h.extract hp.size h.size:=by
  refine Wj λk=>?_;rw[Array.getElem?_append]
  split
  ·rename_i hk;exact hs k hk
  ·rename_i hk;rw[Array.getElem?_extract]
   by_cases hk2:k<h.size
   ·rw[TO (by omega)];congr 1;omega
   ·rw[TN (by omega),UZ (by omega)]
 have e2:dr'=dr+(dr' - dr):=by omega
 simp only[Sort.grow,World.drewN,World.mk.injEq,true_and,and_true];exact⟨e1,e2⟩
theorem Hz{L:List Int} [Inhabited (El L)](blk off m:Nat)(os:Array Obj)(dk:Array (El L)):(sortWorld (od L) w blk off m dk os).heap.size=w.heap.size+os.size:=by simp[sortWorld,Sort.grow,putRow,mapBlock,Sort.ahead]
theorem Kv{L:List Int} [Inhabited (El L)]{blk off m:Nat}{os:Array Obj}{dk:Array (El L)}{b:Nat}(hb:b<w.heap.size)(hne:b≠blk):(sortWorld (od L) w blk off m dk os).heap[b]?=w.heap[b]?:=by simp only[sortWorld,Sort.grow,putRow,mapBlock,Sort.ahead];rw[U3 (by simpa using hb),V1,TN (VG hne)]
theorem Ku{L:List Int} [Inhabited (El L)]{blk off m:Nat}{os:Array Obj}{dk:Array (El L)}{c:Array Value}{e:TypeId}{f:Nat×Nat}(h:w.heap[blk]?=some (.cells c e f)):(sortWorld (od L) w blk off m dk os).heap[blk]?=some (.cells (Go.Sort.putCells (od L) off dk c) e f):=by
 have hb:blk<w.heap.size:=(UR.1 h).1;simp only[sortWorld,Sort.grow,putRow,mapBlock,Sort.ahead];rw[U3 (by simpa using hb),V1,TO rfl,h]
 rfl
theorem F4(hr:Rel C A bd w γ hg nx){id ep:Nat}{rows:List (List AV)}{lo:Bool}(hid:hg id=.cells 1 rows ep lo false){L:List Int} [Inhabited (El L)](hrows:rows.length=L.length)(m:Nat)(os:Array Obj)(dk:Array (El L))(hs:dk.size=L.length) :
  Stp w γ (sortWorld (od L) w (γ id).blk (γ id).base m dk os) γ/\Rel C A bd (sortWorld (od L) w (γ id).blk (γ id).base m dk os) γ (upd hg id (.cells 1 (dk.toList.map eci) ep lo false)) nx:=by
 have o:=hr.obj id;rw[hid]at o;obtain⟨u,k2,E,F,G,v,c,e,H,z,I,D⟩:=o;have hk:(γ id).kind≠0:=by rw[u];decide
 have hw:(γ id).wr=true:=by simpa using v
 obtain⟨W,hW⟩:∃W,W=sortWorld (od L) w (γ id).blk (γ id).base m dk os:=⟨_,rfl⟩;rw[<-hW];have B:W.heap.size=w.heap.size+os.size:=by rw[hW];exact Hz _ _ _ _ _
 have d:∀b,b<w.heap.size->b≠(γ id).blk->W.heap[b]?=w.heap[b]?:=λb h1 h2=>by rw[hW];exact Kv h1 h2
 have n:W.heap[(γ id).blk]?=some (.cells (Go.Sort.putCells (od L) (γ id).base dk c) e (0,0)):=by rw[hW];exact Ku H
 have s:Stp w γ W γ:=⟨by omega,by rw[hW];rfl,by rw[hW];rfl,by rw[hW];rfl,λb hb hm=>d b hb λe=>hm ⟨id,hk,hw,e.symm⟩,λ_ _ h=>h,λ_ _=>.inl ⟨rfl,rfl⟩,λ_ _=>⟨TG _,λ_=>⟨rfl,rfl,rfl,rfl,rfl⟩⟩,by rw[hW];exact Nat.le_add_right _ _⟩;refine⟨s,?_⟩;have e:γ=upd γ id (γ id):=by funext k;unfold upd;split<;>simp_all
 have f:(dk.toList.map eci).length=rows.length:=by simp[hs,hrows]
 refine hr.set (gh:=γ id) e s (TG _) ?_ ?_ ?_ ?_ ?_
 ·simp only[ObjRel];refine⟨u,k2,E,by rw[f];exact F,by rw[f];exact G,v,_,_,n,by rw[f];simpa [Go.Sort.putCells] using z,λi row hi=>?_,λi j row x hi l=>?_⟩
  ·rw[TK,Option.map_eq_some_iff]at hi;obtain⟨y,-,rfl⟩:=hi
   rfl
  ·rw[TK,Option.map_eq_some_iff]at hi;obtain⟨y,t,rfl⟩:=hi;have q:i<dk.size:=by have:=(TJ.1 t).1;simpa using this
   have r:j=0:=by have:=(TJ.1 l).1;simp[eci]at this;omega
   subst r;simp[eci]at l;subst l;refine⟨rfl,.int .i64 y.1,?_,.int _ _ _⟩;have hcl:(γ id).base+i<c.size:=by rw[hrows]at z;omega
   have p:dk[i]! = y:=by rw[getElem!_pos dk i q];have:=(TJ.1 t).2;simpa using this
   rw[show (γ id).base+i*1+0=(γ id).base+i from by omega];simp only[Go.Sort.putCells,Array.getElem?_mapIdx,TZ hcl,U0];rw[TO ⟨by omega,by omega⟩,show (γ id).base+i - (γ id).base=i from by omega,p]
   rfl
 ·have:=hr.lt id hk;exact⟨this.1,by omega⟩
 ·intro j l a eb;exact l (hr.inj j id a hk eb)
 ·exact hr.av id hk
 ·intro j l a _;exact d _ (hr.lt j a).2 λeb=>l (hr.inj j id a hk eb)
theorem K_(hC:CfgOk C)(hr:Rel C A bd w γ hg nx){g:G}{id ep f:Nat}{rows:List (List AV)}{lo:Bool}{cap:List AV}{us:List Value}{L:List Int} [hI:Inhabited (El L)]{cf:El L->El L->Int}(hx:∀k∈cap.flatMap (aw g.h aC),g.h.get k≠.none->hg k=g.h.get k)
  (hid:hg id=.cells 1 rows ep lo false) (hrows:rows.length=L.length) (hnot:id ∉ cap.flatMap (aw g.h aC)) (hv:RVs w γ A bd cap us) (hcmp:Py C (bd+1) g f cap L cf) :
  Enters C.P f/\CmpLays1 C.P f us.toArray (od L) cf (γ id).blk (γ id).base L.length w:=by
 have key:∀(m:Nat) (os:Array Obj) (dk:Array (El L)),dk.size=L.length->∀x y:El L,∀cs,Enters C.P f/\∃w',Stp (sortWorld (od L) w (γ id).blk (γ id).base m dk os) γ w' γ/\(∀b,b<(sortWorld (od L) w (γ id).blk (γ id).base m dk os).heap.size->w'.heap[b]?=(sortWorld (od L) w (γ id).blk (γ id).base m dk os).heap[b]?) /\
   Outs C.P .normal f (od L x::od L y::us).toArray cs (sortWorld (od L) w (γ id).blk (γ id).base m dk os) (.int .i64 (cf x y)) w':=by
  intro m os dk hs x y cs;obtain⟨o,l⟩:=F4 hr hid hrows m os dk hs;have h:=hcmp x y;obtain⟨N,hN⟩:=uX (C:=C) (d:=bd+1) (g:=g) (f:=f) (args:=.int .i64 x.1::.int .i64 y.1::cap);have n:af (sem C N) (bd+1) g f (.int .i64 x.1::.int .i64 y.1::cap)=af (I C) (bd+1) g f (.int .i64 x.1::.int .i64 y.1::cap):=hN N (TG _);rw[<-n]at h;have j:=xZ hC N;refine DV j.call j.mon.call l (λk hk hn=>?_) ?_ h cs
  ·have c:k∈cap.flatMap (aw g.h aC):=by
    rw[Uu,Uu,Uk,Uk]at hk;rcases hk with hk|hk|hk
    ·simp[aw,aC]at hk
    ·simp[aw,aC]at hk
    ·exact hk
   rw[bZ _ _ (λe=>hnot (by rw[<-e];exact c))];exact hx k c hn
  ·refine⟨by simp[hv.1],λi a v ha hva=>?_⟩
   match i,ha,hva with
   |0,ha,hva=>simp at ha hva;subst ha;subst hva;exact .int _ _ _
   |1,ha,hva=>simp at ha hva;subst ha;subst hva;exact .int _ _ _
   |i+2,ha,hva=>exact (hv.2 i a v (by simpa using ha) (by simpa using hva)).step o
 refine⟨(key 0 #[] (li L) (cL L) default default []).1,λm os dk hs x y cs=>?_⟩;obtain⟨-,w',s,same,fr,h1,h2,h3,h4,h5,fn,h6,h7⟩:=key m os dk hs x y cs;refine⟨.returned (.int .i64 (cf x y)),w',fr,⟨rfl,HL s.sz s.os s.tape s.output s.dr same⟩,?_,h5,h2,h3,h4,fn,by rw[h5];exact h6,h7⟩;have e:(#[od L x,od L y]++us.toArray:Array Value)=(od L x::od L y::us).toArray:=by simp
 rw[e];exact h1
theorem Nu{ρ:Ren}(L0:SlLaysF.n6 C.P ρ)(hent:Enters C.P (ρ.f 6))(hC:CfgOk C):ExtOk C (ρ.f 6) (tV C):=by
 refine⟨λd xs g hwf=>?_,λd xs g y hy=>?_,λA bd w γ hg nx g xs vs hr hwf hx hf hv hne cs=>?_⟩
 ·apply Small.mon _ hwf
  by_cases h:tV C d xs g=.fail
  ·rw[h];trivial
  ·obtain⟨id,ep,len,lim,f,cap,rows,lo,R,e1,e2,e3,m⟩:=yf h;rw[m];exact .inl ⟨_,_,rfl,by rw[e2];simp⟩
 ·have h:tV C d xs g≠.fail:=by rw[hy];simp
  obtain⟨id,ep,len,lim,f,cap,rows,lo,R,e1,e2,e3,m⟩:=yf h;rw[m]at hy;cases hy
 ·obtain⟨id,ep,len,lim,f,cap,rows,lo,R,rfl,e2,⟨L,hI,cf,W,q2,q3,⟨q4,q8⟩,q5,q6,q7⟩,m⟩:=yf hne;rw[m]at hf ⊢;obtain⟨S,T,rfl⟩:∃S T,vs=[S,T]:=by
   have:=hv.1
   match vs,this with
   |[a,b],_=>exact⟨a,b,rfl⟩
  have r1:RV w γ A bd (.hsl id ep 0 len lim) S:=hv.2 0 _ _ rfl rfl;have r2:RV w γ A bd (.clo f [] cap) T:=hv.2 1 _ _ rfl rfl;have u:id∈[AV.hsl id ep 0 len lim,.clo f [] cap].flatMap (aw g.h aC):=by simp[Uu,aw,aC]
  have l:hg id=.cells 1 rows ep lo false:=by rw[hx id u (by rw[e2];simp),e2]
  have D:rows.length=L.length:=by rw[W];simp
  obtain⟨c,F,Y,-⟩:=tH hr r1 l;have hz:(γ id).base+0*1=(γ id).base:=by omega
  rw[hz]at F;subst F;cases r2 with
  | clo _ _ _ _ vs us hl hl2 h h2 =>
   have M:vs=#[]:=by
    have:vs.size=0:=by simpa using hl.symm
    exact Array.eq_empty_of_size_eq_zero this
   subst M;have N:RVs w γ A bd cap us.toList:=⟨by simpa using hl2,λi x v a b=>h2 i x v a (by simpa using b)⟩;obtain⟨H,p⟩:=K_ (hI:=hI) hC hr (λk hk hn=>hx k (by
    rw[Uu,Uu,Uk,Uk];exact .inr (.inl (q8 k hk))) hn) l D q4 N q6
   have z:=hr.obj id;rw[l]at z;obtain⟨Z,k2,k3,k4,k5,k6,cc,ec,U,k8,k9,Q⟩:=z;have X:Holds (od L) w (γ id).blk (γ id).base (li L):=by
    intro j G;rw[cL]at G;have E:rows[j]?=some [.int .i64 L[j]]:=by rw[W,TK,TH G];rfl
    obtain⟨-,v,V,p2⟩:=Q j 0 _ (.int .i64 L[j]) E rfl;cases p2;have hd:(li L)[j]! = ⟨L[j],Vr G⟩:=by rw[getElem!_pos (li L) j (by rw[cL];exact G)];simp[li]
    refine⟨?_,by simp[World.frozen?,U]⟩;rw[hd];show World.cell? w (adr (γ id).blk ((γ id).base+j))=_;rw[mB U];rw[show (γ id).base+j*1+0=(γ id).base+j from by omega]at V;exact V
   have q:=Any.slices_SortFunc_eq L0 (od L) (λ_=>rfl) cf q5 f us.toList.toArray (γ id).blk (γ id).base c (li L) w H (by rw[cL];exact p) X (hr.lt id (by rw[Z];decide)).2 (by rw[cL];exact q3);obtain⟨e,w1,fr,⟨he,n,os,O⟩,o,t,J⟩:=q cs;subst he;obtain⟨m1,d1,kk1,fn,I,B⟩:=J;have K:=(pdq_sorts (ltOf cf) q5 (li L) 0 (li L).size (Lib.bitLen (li L).size) true true (Uj _) (TG _) (Or.inl rfl)).1.1;obtain⟨s,r⟩:=F4 hr l D n os (pdq (ltOf cf) (li L) 0 (li L).size (Lib.bitLen (li L).size) true true) (by rw[K,cL]);rw[<-O]at s r;have hR:(R.map λx=>[AV.int .i64 x])=(pdq (ltOf cf) (li L) 0 (li L).size (Lib.bitLen (li L).size) true true).toList.map eci:=by rw[q7,List.map_map,cL];rfl
   rw[hR];refine⟨.tuple #[],w1,γ,_,Il r s,.tup _ _ _ rfl λi x v hx'=>by simp at hx',.inr ⟨hent,fr,?_,m1,d1,kk1,t,fn,by rw[<-t];exact I,B⟩⟩;have e:(#[.slice (some ⟨(γ id).blk,(γ id).base,none⟩) (li L).size c,.func (.func f) #[] us.toList.toArray]:Array Value)=[.slice (some (adr (γ id).blk (γ id).base)) len c,.func (.func f) #[] us].toArray:=by rw[cL,q2];simp[adr]
   rw[e]at o;exact o
end
end Hx
end
namespace Hx
open Go
noncomputable section
end
end Hx
section
namespace Go.Proofs.YteaikmdilmfbeaaGreat.Gen
open Hx
noncomputable def cfg0:Cfg:={ P:=Tryz.prog,iso:=λf=>Nat.testBit 1474260566420002459681004656182214504914697923220056571903 f,ext:=λ_=>none,glob:=λ_=>none }
theorem cfg0Ok:CfgOk cfg0:=CfgOk.plain (by kernel_rfl) (by kernel_rfl)
theorem insOk:ExtOk cfg0 160 ku:=GV (C:=cfg0) (ρ:=Tryz.lays21_ren) RW (Hx.CI Tryz.func160 (by kernel_rfl) (by kernel_rfl))
noncomputable def cfg:Cfg:=cfg0.add 160 ku
theorem cfgOk:CfgOk cfg:=cfg0Ok.add insOk
noncomputable def cfgP:Cfg:=cfg.add 27 (Rg cfg 1000 1000 27)
theorem cfgPOk:CfgOk cfgP:=cfgOk.add (Oz cfgOk)
theorem wakes_run:af (sem cfgP 20000) 1 G.empty 12 []=.val (.bool true):=by kernel_rfl
theorem sortOk:ExtOk cfg 77 (tV cfg):=Nu (C:=cfg) (ρ:=Tryz.sort77_ren) RX (Hx.CI Tryz.func77 (by kernel_rfl) (by kernel_rfl)) cfgOk
noncomputable def cfgS:Cfg:=cfg.add 77 (tV cfg)
theorem cfgSOk:CfgOk cfgS:=cfgOk.add sortOk
noncomputable def cfg1:Cfg:=cfgS.add 12 (Ah (.bool true))
theorem cfg1Ok:CfgOk cfg1:=cfgSOk.add (ExtOk.cfg (C:=cfgP) (C':=cfgS) rfl rfl (Jz cfgPOk wakes_run))
end Go.Proofs.YteaikmdilmfbeaaGreat.Gen
end
namespace Hx
open Go
noncomputable section
end
end Hx
