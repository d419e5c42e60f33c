/- A part of the proof. -/
import Derived.Shelf.Lays2
import Derived.Test.YtikpmbiklokdiaaGreatRows
import Derived.Calls
import Derived.Shelf.Spec.SlicesInsertGrow
import Derived.Test.YtikpmbiklokdiaaGreatHx5
set_option linter.all false
set_option maxRecDepth 20000
set_option maxHeartbeats 8000000
namespace Hx
open Go
noncomputable section
end
end Hx
section
namespace Go.Proofs
open Go.Shelf
def Tryz.lays21_ren:Go.Shelf.Ren:=⟨λ| 21=>154 | 27=>167 | 28=>168 | 35=>173 | 39=>174 | n=>n,λ| 22=>31 | 3=>3 | 4=>4 | 0=>0 | n=>n,λ| n=>n⟩
theorem Zh:Go.Proofs.Lays2.n21 Tryz.prog Tryz.lays21_ren:={
 mixed:=by kernel_rfl
 f21:=Tryz.func154.trans (congrArg some (by kernel_rfl))
 f27:=Tryz.func167.trans (congrArg some (by kernel_rfl))
 f28:=Tryz.func168.trans (congrArg some (by kernel_rfl))
 f35:=Tryz.func173.trans (congrArg some (by kernel_rfl))
 f39:=Tryz.func174.trans (congrArg some (by kernel_rfl))
 t0:=Tryz.underlying0
 a0:=Tryz.isAgg0
 z0:=Tryz.sizeOf0
 v0:=Tryz.zeroValue0
 t3:=Tryz.underlying3
 a3:=Tryz.isAgg3
 z3:=Tryz.sizeOf3
 v3:=Tryz.zeroValue3
 t4:=Tryz.underlying4
 a4:=Tryz.isAgg4
 z4:=Tryz.sizeOf4
 v4:=Tryz.zeroValue4
 t22:=Tryz.underlying31
 a22:=Tryz.isAgg31
 z22:=Tryz.sizeOf31
 v22:=Tryz.zeroValue31
 i3:=by kernel_rfl }
end Go.Proofs
end
namespace Hx
open Go
noncomputable section
section
variable {C:ZO}{A:Nat->Nat->Prop}{bd:Nat}{w w':World}{γ γ':Gm}{hg:Nat->ZM}{nx:Nat}
theorem Oi{g:G}{id:Nat}{ob:ZM}(r:ZB C A bd w' γ' (upd hg id ob) nx)(s:Stp w γ w' γ'):Fin C A bd w γ hg nx g w' γ' (upd hg id ob) (g.put id ob) :=
 ⟨r.up (KT _ _),s,[id],by simp,λk hk=>by simp_all[Za],λk hk=>by grind[dz]⟩
theorem Vm{g:G}{ob:ZM}(r:ZB C A bd w' γ' (upd hg g.nx ob) (Nat.max nx (g.nx+1)))(s:Stp w γ w' γ'):Fin C A bd w γ hg nx g w' γ' (upd hg g.nx ob) (g.new ob) :=
 ⟨r.up (by simp),s,[g.nx],by simp,λk hk=>by simp_all[Za],λk hk=>by grind[dz]⟩
theorem Lw(hr:ZB C A bd w γ hg nx){id ep:Nat}{rows:List (List AV)}{lo fz:Bool}(hid:hg id=.cells 1 rows ep lo fz) :
  ∃(c:Array Value) (e:TypeId) (l:List Value),w.heap[(γ id).blk]?=some (.cells c e (0,0))/\(γ id).base+(rows.length+(γ id).Zr)<=c.size/\l.length=rows.length/\(∀j,j<rows.length->l[j]?=c[(γ id).base+j]?) /\
   (∀v∈l,v.oneCell'=true)/\(∀(k:Nat) row,rows[k]?=some row->row.length=1) /\
   ∀(k j:Nat) row x,rows[k]?=some row->row[j]?=some x->j=0/\x.one=true/\∃v,l[k]?=some v/\RV w γ A bd x v:=by
 have d:=hr.obj id;rw[hid]at d;obtain⟨o,k2,p,q,r,s,c,e,n,t,i,f⟩:=d;have h:∀j,j<rows.length->((c.toList.drop (γ id).base).take rows.length)[j]?=c[(γ id).base+j]?:=λj hj=>by grind
 refine⟨c,e,(c.toList.drop (γ id).base).take rows.length,n,by omega,by grind,h,λv hv=>?_,i,λk j row x h1 h2=>?_⟩
 ·obtain⟨k,hk⟩:=QG hv;have hlt:k<rows.length:=by
   grind
  rw[h k hlt]at hk;have b:=Zq hlt;have m:=i k _ b;have hx:rows[k][0]?=some (rows[k][0]'(by omega)):=Zq _;obtain⟨a,v',b1,b2⟩:=f k 0 _ _ b hx<;>grind[Nh]
 grind
theorem zA{P:Program}{f:FuncId}{args:Array Value}{u:Value}(h:Calls P f args w (λx y=>x=.returned u/\y=w'))(cs:List Frame):Vi P .normal f args cs w u w':=by obtain⟨e,w1,fr,⟨he,hw⟩,hc,hf,hl⟩:=h cs;subst he;subst hw;obtain⟨m,d,k,fn,b,a⟩:=hl;exact⟨fr,hc,m,d,k,hf,fn,by grind,a⟩
theorem H_ {P : Program} {f : FuncId} {fn : Func} (h : P.funcs[f]? = some fn) (hn : (fn.name == "runtime.NumGoroutine") = false) (hb : fn.body.isSome = true) : mI P f := by
 intro args w;unfold callFunc;have hn : fn.name ≠ "runtime.NumGoroutine" := by grind
 cases hb':fn.body<;>simp_all
end
end
end Hx
section
namespace Hx
open Go Go.Proofs Go.Shelf
theorem DZ{w:World}{o:Obj}:(Go.World.alloc w o).heap=w.heap.push o:=rfl
theorem A0{w:World}:(Go.World.drew w).heap=w.heap:=rfl
theorem lA{b:Nat}{e:TypeId}{f:Nat×Nat}:∀(vs:List Value) (o:Nat) (w:World) (c:Array Value),w.heap[b]?=some (.cells c e f) ->
  Go.World.setCells w b o vs=World.setBlk w b (.cells (bF c o vs) e f):=by
 intro vs
 induction vs with
 | nil =>
  intro o w c h;have hb:b<w.heap.size:=by grind
  have hx:w.heap[b]=.cells c e f:=by grind
  show w=_;simp only[World.setBlk,bF];have:w.heap.setIfInBounds b (.cells c e f)=w.heap:=by grind
  rw[this]
 | cons v vs ih =>
  intro o w c h;have hb:b<w.heap.size:=by grind
  show Go.World.setCells (w.setCell (Zo b o) v) b (o+1) vs=_;rw[Gy h,ih (o+1) _ (c.setIfInBounds o v) (by grind[bo]),sH]
  rfl
section
variable {P:Program}{ρ:Ren}
theorem jd{α:Type}{cs vs:List α}{i n m k:Nat}(hcl:cs.length=n)(hvl:vs.length=m)(hi:i<=n) :
  (cs.take i++(vs++cs.drop i))[k]?=if k<i then cs[k]? else if k<i+m then vs[k - i]? else cs[k - m]?:=by
 grind
def Ins(P:Program)(f:FuncId)(args:Array Value)(w:World)(b n m:Nat)(rowV:List Value):Prop :=
 ∃b' o' cap' c' e' w',Calls P f args w (λx y=>x=.returned (.slice (some (Zo b' o')) (n+m) cap')/\y=w')/\n+m<=cap'/\cap'<=9223372036854775807 /\
  (w'.os=w.os/\w'.tape=w.tape/\w'.output=w.output/\w.heap.size<=w'.heap.size/\w.drawn<=w'.drawn)/\(b'=b\/(b'=w.heap.size/\w.heap.size<w'.heap.size)) /\
  (∀k,k<w.heap.size->k≠b->w'.heap[k]?=w.heap[k]?)/\w'.heap[b']?=some (.cells c' e' (0,0))/\o'+cap'<=c'.size /\
  ∀k,k<n+m->c'[o'+k]?=rowV[k]?
theorem MZ(L:Lays2.n21 P ρ){w:World}{b off n c i vb voff m vc:Nat}{cc cv:Array Value}{e e2:TypeId}{cs vs:List Value}
  (hb:w.heap[b]?=some (.cells cc e (0,0))) (hv:w.heap[vb]?=some (.cells cv e2 (0,0))) (hne:vb≠b) (hin:i<=n) (hm:0<m) (hnc:n<=c)
  (hc63:c<=9223372036854775807) (hbig:(n+m)*8<=140737488355328) (hcc:off+c<=cc.size) (hcv:voff+m<=cv.size) (hn0:0<c)
  (hcl:cs.length=n) (hvl:vs.length=m) (hcs:∀j,j<n->cs[j]?=cc[off+j]?) (hvs:∀j,j<m->vs[j]?=cv[voff+j]?)
  (h1c:∀v∈cs,v.oneCell'=true) (h1v:∀v∈vs,v.oneCell'=true) :
  Ins P (ρ.f 21) #[.slice (some (Zo b off)) n c,.int .i64 i,.slice (some (Zo vb voff)) m vc] w b n m (cs.take i++(vs++cs.drop i)):=by
 have q:b<w.heap.size:=by grind
 have p:∀j v,cs[j]?=some v->w.cell? (Zo b (off+j))=some v:=λj v hj=>by rw[px hb,<-hcs j (by grind)];exact hj
 have d:∀j v,vs[j]?=some v->w.cell? (Zo vb (voff+j))=some v:=λj v hj=>by rw[px hv,<-hvs j (by grind)];exact hj
 have y:∀j,j<c->(w.cell? (Zo b (off+j))).isSome=true:=λj hj=>by grind[px]
 have x:∀j,w.frozen? (Zo b j)=false:=λj=>by grind[World.frozen?,Zo]
 have u:∀j,w.frozen? (Zo vb j)=false:=λj=>by grind[World.frozen?,Zo]
 have s:(cs.drop i).length=n - i:=by grind
 have D:(cs.take i).length=i:=by grind
 by_cases hroom:n+m<=c
 ·by_cases hlt:i<n
  ·
   have h:=Any2.slices_Insert_int_shift L b off n c i vb voff m vc cs vs w hlt hm hroom hc63 hne hcl hvl p (λj hj=>y j (by omega)) (λj _=>x _) d h1c h1v
    e2 e cv.size cc.size (by grind[World.shape?]) (by grind[World.shape?]) (by omega) (u _) (u _)
   have A:w.drew.heap[b]?=some (.cells cc e (0,0)):=hb;rw[lA (cs.drop i) (off+(i+m)) w.drew cc A]at h;rw[lA vs (off+i) (World.setBlk w.drew b _) _ (by rw[bo,ZN ⟨rfl,q⟩]),sH]at h;refine⟨b,off,c,_,e,_,h,hroom,hc63,⟨rfl,rfl,rfl,by simp_all,by first|exact ZV _|exact XM _|exact aeP (XM _)⟩,.inl rfl,λk _ hk=>?_,by rw[bo,ZN ⟨rfl,q⟩],by grind[cB],λk hk=>?_⟩
   ·rw[bo,ZF (λh=>hk h.1)];rfl
   ·rw[jd hcl hvl hin,cX _ _ _ _ (by grind[cB]),cX _ _ _ _ (by omega),s,hvl]
    grind
  ·
   have hi:i=n:=by omega
   subst hi;have h:=Any2.slices_Insert_int_end_room L b off i c vb voff m vc vs w hm hroom hc63 hvl (λj hj=>by rw[Nk];exact y _ (by omega)) (λj _=>x _) d h1v;rw[lA vs (off+i) w cc hb]at h;refine⟨b,off,c,_,e,_,h,hroom,hc63,⟨rfl,rfl,rfl,by simp,by first|exact ZV _|exact XM _|exact aeP (XM _)⟩,.inl rfl,λk _ hk=>?_,by rw[bo,ZN ⟨rfl,q⟩],by grind[cB],λk hk=>?_⟩
   ·rw[bo,ZF (λh=>hk h.1)]
   ·rw[jd hcl hvl hin,cX _ _ _ _ (by omega),hvl]
    grind
 ·have l:=grownCap_ge w (n+m) c (ρ.t 3);have o:grownCap w (n+m) c (ρ.t 3)<=9223372036854775807:=by
   have:=grownCap_le_maxLen w (n+m) c (ρ.t 3) (by grind[maxLen])
   grind[maxLen]
  by_cases hlt:i<n
  ·
   have h:=Any2.slices_Insert_int_grow L b off n c i vb voff m vc cs vs w hlt hm hnc (by omega) hbig hcl hvl p d h1c h1v;obtain⟨G,z⟩:∃G,G=grownCap w (n+m) c (ρ.t 3):=⟨_,rfl⟩;rw[<-z]at h l o;obtain⟨ROW,r⟩:∃ROW:Array Value,ROW=(cs.take i).toArray++Builtin.zeroCells (Value.int .i64 0).cells (n+m - i)++Builtin.zeroCells (Value.int .i64 0).cells (G - (n+m)):=⟨_,rfl⟩;rw[<-r]at h;have C:ROW.size=G:=by grind[Builtin.zeroCells,Value.cells]
   have B:∀k,k<i->ROW[k]?=cs[k]?:=λk hk=>by grind
   have h0:(w.alloc (.cells ROW (ρ.t 3))).drew.heap[w.heap.size]?=some (.cells ROW (ρ.t 3) (0,0)):=by simp[DZ,A0]
   rw[lA vs i _ ROW h0]at h;rw[lA (cs.drop i) (i+m) _ (bF ROW i vs) (e:=ρ.t 3) (f:=(0,0)) (by simp_all[World.setBlk,A0])]at h
   refine⟨w.heap.size,0,G,bF (bF ROW i vs) (i+m) (cs.drop i),ρ.t 3,_,h,l,o,⟨rfl,rfl,rfl,by simp_all,by first|exact ZV _|exact XM _|exact aeP (XM _)⟩,.inr ⟨rfl,by simp_all⟩,λk hk _=>?_,?_,by grind[cB],λk hk=>?_⟩
   ·rw[bo,bJ];show (World.setBlk _ _ _).heap[_]?=_;rw[bo,bJ]
    grind[DZ,A0]
   ·rw[bo,ZN ⟨rfl,by simp_all⟩]
   ·rw[jd hcl hvl hin,Ku,cX _ _ _ _ (by grind[cB]),cX _ _ _ _ (by omega),s,hvl]
    by_cases h1:k<i
    ·grind
    grind
  ·have hi:i=n:=by omega
   subst hi;have h:=Any2.slices_Insert_int_end_grow L (some (Zo b off)) i c vb voff m vc cs vs w hm hnc (by omega) hbig hcl hvl (by grind)
    (λa ha j v hj=>by grind[ij]) d h1v
   obtain⟨G,z⟩:∃G,G=grownCap w (i+m) c (ρ.t 3):=⟨_,rfl⟩;rw[<-z]at h l o;refine⟨w.heap.size,0,G,_,ρ.t 3,_,h,l,o,⟨rfl,rfl,rfl,by simp_all,by simp_all⟩,.inr ⟨rfl,by simp_all⟩,λk hk _=>?_,by simp[DZ,A0];rfl,?_,λk hk=>?_⟩
   ·grind[DZ,A0]
   ·grind[Builtin.zeroCells,Value.cells]
   grind
theorem M1(L:Lays2.n21 P ρ){w:World}{base:Option Addr}{vb voff m vc:Nat}{vs:List Value}(hm:0<m)(hbig:m*8<=140737488355328)(hvl:vs.length=m)
  (hvs:∀j v,vs[j]?=some v->w.cell? (Zo vb (voff+j))=some v) (h1v:∀v∈vs,v.oneCell'=true) :
  ∃cap rest,m<=cap/\cap<=9223372036854775807/\rest.size=cap - m /\
  Calls P (ρ.f 21) #[.slice base 0 0,.int .i64 0,.slice (some (Zo vb voff)) m vc] w (λx y=>x=.returned (.slice (some (Zo w.heap.size 0)) m cap)/\y=World.add (World.drewn w) (.cells (vs.toArray++rest) (ρ.t 3) (0,0))):=by
 have k:=grownCap_ge w (0+m) 0 (ρ.t 3);have b:grownCap w (0+m) 0 (ρ.t 3)<=9223372036854775807:=by
  have:=grownCap_le_maxLen w (0+m) 0 (ρ.t 3) (by grind[maxLen])
  grind[maxLen]
 have h:=Any2.slices_Insert_int_end_grow L base 0 0 vb voff m vc [] vs w hm (ZV _) (by omega) (by omega) rfl hvl (λ_=>rfl)
  (λa ha j v hj=>by grind) hvs h1v
 obtain⟨G,c⟩:∃G,G=grownCap w (0+m) 0 (ρ.t 3):=⟨_,rfl⟩;rw[<-c]at h k b;rw[Ku]at h k;exact⟨G,Builtin.zeroCells (Value.int .i64 0).cells (G - m),k,b,by simp[Builtin.zeroCells,Value.cells],h⟩
end
noncomputable def uO(i:Nat)(rows:List (List AV))(g:G):OR :=ap (Nat.beq i 0&&Nat.ble (bi rows*8) 140737488355328) (.upd (.ZG g.nx 0 0 (bi rows) none) (g.new (.cells 1 rows 0 true false))) .fail
noncomputable def DO(id2 i:Nat)(s:AV)(vrows:List (List AV))(g:G):OR :=
 match s with
 |.Z6=>uO i vrows g
 |.TT=>uO i vrows g
 | .ZG id ep off len none =>
  match g.get id with
  |.cells 1 [] ep' false _=>ap ((Nat.beq ep ep'&&Nat.beq off 0)&&Nat.beq len 0) (uO i vrows g) .fail
  | .cells sz rows ep' true false =>
   ap (((((((Nat.beq sz 1&&Nat.beq ep ep')&&Nat.beq off 0)&&Nat.beq len (bi rows))&&lq (Nat.beq id id2))&&Nat.ble i len)&&Nat.ble 1 len)&&Nat.ble ((len+bi vrows)*8) 140737488355328)
    (.upd (.ZG id (ep+1) 0 (len+bi vrows) none) (g.put id (.cells 1 (iE i rows++(vrows++gN i rows)) (ep+1) true false))) .fail
  |_=>.fail
 |_=>.fail
noncomputable def mL:Nat->List AV->G->OR:=λ_ xs g =>
 match xs with
 | [s,.int .i64 (.ofNat i),.ZG id2 ep2 off2 len2 _] =>
  match g.get id2 with
  | .cells sz2 vrows ep2' _ _ =>ap ((((Nat.beq sz2 1&&Nat.beq ep2 ep2')&&Nat.beq off2 0)&&Nat.beq len2 (bi vrows))&&Nat.ble 1 len2) (DO id2 i s vrows g) .fail
  |_=>.fail
 |_=>.fail
theorem xX{d:Nat}{xs:List AV}{g:G}(h:mL d xs g≠.fail):∃s i id2 ep2 len2 lim2 vrows lo fz,xs=[s,.int .i64 (Int.ofNat i),.ZG id2 ep2 0 len2 lim2] /\
  g.h.get id2=.cells 1 vrows ep2 lo fz/\len2=vrows.length/\0<vrows.length/\mL d xs g=DO id2 i s vrows g:=by
 unfold mL at h ⊢
 split at h
 ·split at h
  ·rename_i hg;rw[aa]at h ⊢
   split at h
   ·rename_i hc;simp only[Zk,ax]at hc;obtain⟨⟨⟨⟨c1,k⟩,a⟩,b⟩,c⟩:=hc;have c1:=aH c1;have k:=aH k;have a:=aH a;have b:=aH b;subst c1;subst k;subst a;subst b;rw[R1]at c;refine⟨_,_,_,_,_,_,_,_,_,rfl,hg,rfl,c,?_⟩;simp_all[ax]
   grind
  grind
 grind
theorem FN{id2 i:Nat}{s:AV}{vrows:List (List AV)}{g:G}(h:DO id2 i s vrows g≠.fail) :
  ((s=.Z6\/s=.TT\/∃id ep fz,s=.ZG id ep 0 0 none/\g.h.get id=.cells 1 [] ep false fz)/\i=0/\vrows.length*8<=140737488355328/\DO id2 i s vrows g=.upd (.ZG g.nx 0 0 vrows.length none) (g.new (.cells 1 vrows 0 true false))) \/
  ∃id ep rows,s=.ZG id ep 0 rows.length none/\g.h.get id=.cells 1 rows ep true false/\id≠id2/\i<=rows.length/\0<rows.length/\(rows.length+vrows.length)*8<=140737488355328 /\
   DO id2 i s vrows g=.upd (.ZG id (ep+1) 0 (rows.length+vrows.length) none) (g.put id (.cells 1 (rows.take i++(vrows++rows.drop i)) (ep+1) true false)):=by
 have b:uO i vrows g≠.fail->i=0/\vrows.length*8<=140737488355328/\uO i vrows g=.upd (.ZG g.nx 0 0 vrows.length none) (g.new (.cells 1 vrows 0 true false)):=by simp_all[uO,aa,ax]
 unfold DO at h ⊢
 split at h
 ·grind
 ·grind
 ·rename_i id ep off len
  split at h
  ·rename_i ep' fz hg;rw[aa]at h
   split at h
   ·rename_i hc;have d:=hc;simp only[Zk]at hc;obtain⟨⟨c1,k⟩,a⟩:=hc;have c1:=aH c1;have k:=aH k;have a:=aH a;subst c1;subst k;subst a;have:=b h;refine .inl ⟨.inr (.inr ⟨id,ep,fz,rfl,hg⟩),this.1,this.2.1,?_⟩<;>simp_all
   grind
  ·rename_i sz rows ep' hg;rw[aa]at h
   split at h
   ·rename_i hc;have d:=hc;simp only[Zk,ax]at hc;obtain⟨⟨⟨⟨⟨⟨⟨c1,k⟩,a⟩,c⟩,m⟩,f⟩,j⟩,l⟩:=hc;have c1:=aH c1;have k:=aH k;have a:=aH a;have c:=aH c;subst c1;subst k;subst a;subst c;rw[R1]at f j l;refine .inr ⟨id,ep,rows,rfl,hg,λe=>?_,f,j,l,?_⟩
    all_goals simp_all[aa,ax,bE,bu]
   grind
  grind
 grind
section
variable {C:ZO}{A:Nat->Nat->Prop}{bd:Nat}{w w':World}{γ γ':Gm}{hg:Nat->ZM}{nx:Nat}{ρ:Ren}
theorem MY(L:Lays2.n21 C.P ρ)(hent:mI C.P (ρ.f 21)):Zm C (ρ.f 21) mL:=by
 refine⟨λd xs g hwf=>?_,λd xs g y hy=>?_,λA bd w γ hg nx g xs vs hr hwf hx hf hv hne cs=>?_⟩
 ·apply XF.ZA _ hwf
  by_cases h:mL d xs g=.fail
  ·rw[h];trivial
  ·obtain⟨s,i,id2,ep2,len2,lim2,vrows,lo,fz,e1,e2,Q,M,F⟩:=xX h;rw[F]at h ⊢;rcases FN h with⟨_,_,_,h1⟩|⟨id,ep,rows,_,h2,_,_,_,_,h1⟩
   ·rw[h1];exact .inr ⟨_,rfl⟩
   ·rw[h1];exact .inl ⟨_,_,rfl,by grind⟩
 ·have h:mL d xs g≠.fail:=by grind
  obtain⟨s,i,id2,ep2,len2,lim2,vrows,lo,fz,e1,e2,Q,M,F⟩:=xX h;rw[F]at h hy;rcases FN h with⟨_,_,_,h1⟩|⟨id,ep,rows,_,h2,_,_,_,_,h1⟩<;>(grind)
 ·obtain⟨s,i,id2,ep2,len2,lim2,vrows,lo,fz,e1,e2,Q,M,F⟩:=xX hne;subst e1;subst Q;rw[F]at hne hf ⊢;obtain⟨O,v2,v3,rfl⟩:∃O v2 v3,vs=[O,v2,v3]:=by
   have:=hv.1
   match vs,this with
   |[a,b,c],_=>grind
  have N:RV w γ A bd s O:=hv.2 0 _ _ rfl rfl;have r2:RV w γ A bd (.int .i64 (Int.ofNat i)) v2:=hv.2 1 _ _ rfl rfl;have r3:RV w γ A bd (.ZG id2 ep2 0 vrows.length lim2) v3:=hv.2 2 _ _ rfl rfl;cases r2;have q:hg id2=.cells 1 vrows ep2 lo fz:=by grind[aB,aw]
  obtain⟨vc,W,h7,_⟩:=xW hr r3 q;subst W;obtain⟨cv,ev,lv,p1,p2,p3,p4,p5,p6,p7⟩:=Lw hr q;have hz:(γ id2).base+0*1=(γ id2).base:=by omega
  rw[hz]at r3 ⊢;rcases FN hne with⟨hs,hi,o,h1⟩|⟨id,ep,rows,hs,h2,J,E,h5,o,h1⟩
  ·subst hi;rw[h1]at hf ⊢;have D:(γ g.nx).kind=0:=hf g.nx (ZV _) (by simp[U7]);have z:∃base,O=.slice base 0 0:=by
    rcases hs with rfl|rfl|⟨id,ep,fz2,rfl,h4⟩
    ·cases N<;>grind
    ·cases N<;>grind
    ·have l:hg id=.cells 1 [] ep false fz2:=by
      grind[aB,aw]
     obtain⟨c,K,I,R⟩:=xW hr N l;have r:=hr.obj id;rw[l]at r;obtain⟨-,-,-,k4,k5,-⟩:=r;have hk:=k5.1 rfl;have h6:c=0:=by grind[jU]
     grind
   obtain⟨base,hb⟩:=z;subst hb;obtain⟨cap,rest,q1,q2,q3,q4⟩:=M1 L (w:=w) (base:=base) (vb:=(γ id2).blk) (voff:=(γ id2).base) (m:=vrows.length) (vc:=vc) (vs:=lv) M o p3
    (λj v hj=>by rw[px p1,<-p4 j (by grind)];exact hj) p5
   have V:ZJ w γ A bd 1 vrows (lv.toArray++rest):=by refine⟨by simp[p3],p6,λk j row x a b=>?_⟩<;>grind
   obtain⟨γ',Y,Z,s3⟩:=Cv (e:=ρ.t 3) hr D V vrows.length cap (by grind) q1 rfl q2;exact⟨_,_,γ',_,Vm Y Z,s3,.inr ⟨hent,zA q4 cs⟩⟩
  ·subst hs;rw[h1]at hf ⊢;have l:hg id=.cells 1 rows ep true false:=by
    grind[aB,aw]
   obtain⟨c,K,I,R⟩:=xW hr N l;subst K;have r:=hr.obj id;rw[l]at r;obtain⟨k1,k2,k3,k4,k5,k6,_⟩:=r;have u:=hr.obj id2;rw[q]at u;obtain⟨m1,_⟩:=u;have G:(γ id2).blk≠(γ id).blk:=λe=>J (hr.inj id id2 (by omega) (by omega) e.symm);obtain⟨cc,ec,lc,c1,c2,c3,c4,c5,c6,c7⟩:=Lw hr l;have h3:c=rows.length+(γ id).Zr:=by grind[jU]
   have H:=MZ L (w:=w) (b:=(γ id).blk) (off:=(γ id).base) (n:=rows.length) (c:=c) (i:=i) (vb:=(γ id2).blk) (voff:=(γ id2).base) (m:=vrows.length) (vc:=vc)
    c1 p1 G E M I (by grind) o (by omega) (by omega) (by omega) c3 p3 c4 p4 c5 p5
   obtain⟨b',o',cap',c',e',w',n1,n2,n3,n4,n5,n6,n7,n8,n9⟩:=H
   let gh:Gh:=⟨1,ep+1,1,rows.length+vrows.length,b',o',cap' - (rows.length+vrows.length),true⟩
   have U:(rows.take i++(vrows++rows.drop i)).length=rows.length+vrows.length:=by grind
   have B:∀(k:Nat) row,(rows.take i++(vrows++rows.drop i))[k]?=some row->row.length=1/\∀(j:Nat) x,row[j]?=some x->x.one=true/\∃v,c'[o'+k*1+j]?=some v/\RV w γ A bd x v:=by
    intro k row hk;have T:k<rows.length+vrows.length:=by grind
    have p:=n9 k T;rw[jd c3 p3 E]at p;rw[jd (n:=rows.length) (m:=vrows.length) rfl rfl E]at hk
    split at hk
    ·rename_i h1;rw[ZN h1]at p;refine⟨c6 _ _ hk,λj x hj=>?_⟩;obtain⟨j0,o1,v,l1,l2⟩:=c7 _ j row x hk hj;subst j0
     grind
    ·rename_i h1;rw[ZF h1]at p
     split at hk
     ·rename_i h2;rw[ZN h2]at p;refine⟨p6 _ _ hk,λj x hj=>?_⟩;obtain⟨j0,o1,v,l1,l2⟩:=p7 _ j row x hk hj;subst j0
      grind
     ·rename_i h2;rw[ZF h2]at p;refine⟨c6 _ _ hk,λj x hj=>?_⟩;obtain⟨j0,o1,v,l1,l2⟩:=c7 _ j row x hk hj;subst j0
      grind
   obtain⟨Y,Z⟩:=hr.moved l (w1:=w') (gh:=gh) (rows':=rows.take i++(vrows++rows.drop i)) rfl rfl rfl (by rw[U]) rfl (by grind) n4.2.2.2.2
    (by grind) n5 n6 (c:=c') (e:=e') n7 (by grind)
    (by grind) (λk j row x hk hj=>(B k row hk).2 j x hj)
   have X:(γ id).base+0*1=(γ id).base:=by omega
   rw[X];refine⟨.slice (some (Zo b' o')) (rows.length+vrows.length) cap',w',_,_,Oi Y Z,?_,.inr ⟨hent,zA n1 cs⟩⟩;refine .ZG _ id (ep+1) 0 _ none _ _ cap' (by simp[gh]) (by simp[gh]) n2 (λ_=>⟨by simp[gh],by simp[gh],?_⟩)<;>grind[upd_same,jU]
end
end Hx
end
namespace Hx
open Go
noncomputable section
end
end Hx
