/- A part of the proof: an interpreter over abstract values, shown right against the model, and what the functions of the chapter compute on it. -/
import Derived.KernelRfl
import Derived.Test.YtfpjoiojhegfaaaDoorHx11
set_option linter.unusedVariables false
set_option linter.unusedSimpArgs false
set_option linter.unnecessarySimpa false
section
namespace Hx
open Go
noncomputable section
def Dz (V:Ky->AV)(i:Nat)(c:Int):List AV:=[.int .i64 c,V (i+1,0),V (i+1,1)]
structure NdOk (K:Nat) (V:Ky->AV) (E:Ky->En) (i:Nat) (x:Node):Prop where
 ps:E (i+1,0)=.sl 1 (x.parents.map ci)
 rs:∃rws,E (i+1,1)=.sl 1 rws/\rws.length=x.rows.length/\∀(r:Nat) (y:List Int),x.rows[r]?=some y->rws[r]?=some [V (i+1,2+r)]
 rr:∀(r:Nat) (y:List Int),x.rows[r]?=some y->E (i+1,2+r)=.sl 1 (y.map ci)
 len:x.parents.length<=K/\x.rows.length<=K/\∀y∈x.rows,y.length<=K
def LS (L:List Node):Ky->Prop:=fun k=>k=(0,0)\/∃i q x,k=(i+1,q)/\L[i]?=some x/\q<2+x.rows.length
structure BLs (K:Nat) (V:Ky->AV) (E:Ky->En) (L:List Node):Prop where
 ns:∃rows,E (0,0)=.sl 3 rows/\rows.length=L.length/\∀(i:Nat) (x:Node),L[i]?=some x->rows[i]?=some (Dz V i x.card)
 nd:∀(i:Nat) (x:Node),L[i]?=some x->NdOk K V E i x
def BBn (g:G)(brow:List AV)(gr:Int)(b:AV):Prop:=g.h.get 0=.cells 4 [brow] 0 false false/\g.h.get 1=.cells 2 [[.int .i64 gr,b]] 0 false false/\g.h.get 2=.cells 2 [[.int .i64 0,.nils]] 0 false false
def LX (L:List Node)(x:Node):Ky->Prop:=fun k=>LS L k\/k=(0,1)\/∃q,k=(L.length+1,q)/\q<2+x.rows.length
structure NB (K p:Nat) (L:List Node) (x:Node) (g:G) (brow:List AV) (gr:Int) (b W:AV) (V:Ky->AV) (E:Ky->En):Prop where
 hp:Hp g 3 (LX L x) V E
 bb:BBn g brow gr b
 vb:V (0,1)=.hptr p 0 0 0
 bx:E (0,1)=.bx (Dz V L.length x.card)
 nd:NdOk K V E L.length x
 bl:BLs K V E L
 vw:V (0,0)=W
structure Oth (K:Nat) (L:List Node) (J:Nat) (V:Ky->AV) (E:Ky->En) (rows:List (List AV)):Prop where
 len:rows.length=L.length
 ns:∀(i:Nat) (y:Node),i≠J->L[i]?=some y->rows[i]?=some (Dz V i y.card)
 nd:∀(i:Nat) (y:Node),i≠J->L[i]?=some y->NdOk K V E i y
structure BS (K J:Nat) (L:List Node) (x:Node) (bx:wh) (gr Rw:Int) (t:T) (g:G) (V:Ky->AV) (E:Ky->En):Prop where
 st:St t [(2,.hptr 0 0 0 0),(3,.hptr 1 0 0 0),(4,.hptr 2 0 0 0),(10,mN 3 (V (0,0)) J 0),(11,.int .i64 Rw)]
 hp:Hp g 3 (LS L) V E
 f0:g.h.get 0=.cells 4 [[u8v bx.1,u8v bx.2.1,u8v bx.2.2.1,.int .i64 bx.2.2.2]] 0 false false
 f1:g.h.get 1=.cells 2 [[.int .i64 gr,V (0,0)]] 0 false false
 f2:g.h.get 2=.cells 2 [[.int .i64 0,.nils]] 0 false false
 bl:BLs K V E L
 hx:L[J]?=some x
 hR:(Rw = -1/\x.rows.length=0)\/∃r:Nat,Rw=(r:Int)/\r<x.rows.length
 hK:K<=1000000
 hl:L.length<=K
structure BT (K J:Nat) (L:List Node) (x:Node) (g:G) (V:Ky->AV) (E:Ky->En) (rows:List (List AV)):Prop where
 own:Own g 3 (V (0,0)) 3 rows
 e0:E (0,0)=.sl 3 rows
 ry:nS (V (0,0))=true
 hlt:J<rows.length
 row:rows[J]?=some [.int .i64 x.card,V (J+1,0),V (J+1,1)]
 oth:Oth K L J V E rows
 nd:NdOk K V E J x
section
variable {d K J:Nat}{L:List Node}{x:Node}{bx:wh}{gr Rw:Int}{t:T}{g:G}{V:Ky->AV}{E:Ky->En}{Q:QT}
end
end
end Hx
end
section
namespace Hx
open Go
noncomputable section
structure BW (x:Node) (J:Nat) (g:G) (V:Ky->AV) (E:Ky->En) (rws:List (List AV)):Prop where
 own:Own g 3 (V (J+1,1)) 1 rws
 e1:E (J+1,1)=.sl 1 rws
 len:rws.length=x.rows.length
 at_:∀(r:Nat) (y:List Int),x.rows[r]?=some y->rws[r]?=some [V (J+1,2+r)]
section
variable {d K J:Nat}{L:List Node}{x:Node}{bx:wh}{gr Rw:Int}{t:T}{g:G}{V:Ky->AV}{E:Ky->En}{Q:QT}
end
end
end Hx
end
section
namespace Hx
open Go
noncomputable section
def Node.wr (x:Node)(r:Nat)(y:List Int):Node:=⟨x.card,x.parents,x.rows.set r y⟩
section
variable {d K J r:Nat}{L:List Node}{x:Node}{bx:wh}{gr Rw:Int}{t t':T}{g gb:G}{V:Ky->AV}{E:Ky->En}{Q:QT}{y y':List Int}
structure BR (x:Node) (J r:Nat) (y:List Int) (g:G) (V:Ky->AV) (E:Ky->En) (rws:List (List AV)):Prop where
 wr:ax g.h 1 (V (J+1,1))=some rws
 rl:r<rws.length
 rw_:rws[r]?=some [V (J+1,2+r)]
 ry:nS (V (J+1,1))=true
 yr:ax g.h 1 (V (J+1,2+r))=some (y.map ci)
 ye:E (J+1,2+r)=.sl 1 (y.map ci)
 yl:y.length<=K
end
end
end Hx
end
section
namespace Hx
open Go
noncomputable section
section
variable {α:Type} [DecidableEq α]
end
def pk (a:Int×Int):AV:=.agg [.int .i64 a.1,.int .i64 a.2]
def S.pq (n:Net)(e:List Int)(v:Nat)(x:Int)(w:Nat):Bool:=S.pe n e w&&decide ((S.an (S.aa n) (w:Int))[v]?=some x)
end
end Hx
end
section
namespace Hx
open Go
noncomputable section
structure PoM (n:Net) (e vals:List Int) (j k m:Nat) (h:H):Prop where
 hm:∃L:List ((Int×Int)×Int),h.get m=.map (mcl pk L)/\∀(v:Nat) (x:Int),mgt L ((v:Int),x)=S.aN n (S.pq n e v x) j+if v<k/\vals[v]?=some x then S.wt n j else 0
structure PoK (g0:G) (m:Nat) (g:G):Prop where
 nx:g0.nx<=g.nx
 fr:∀i,i≠m->i<g0.nx->g.h.get i=g0.h.get i
structure PoH (n:Net) (e:List Int) (cs:List AV) (p pm pq m lo:Nat) (g:G):Prop where
 kp:g.h.get p=.cells 4 [cs] 0 false false
 km:g.h.get pm=.cells 1 [[.hmap m]] 0 false false
 kq:g.h.get pq=.cells 1 [[.int .i64 (S.bV n e)]] 0 false false
 hm:∃L:List ((Int×Int)×Int),g.h.get m=.map (mcl pk L)/\∀(v:Nat) (x:Int),mgt L ((v:Int),x)=S.aN n (S.pq n e v x) (S.ap n)
 lo:lo<=p/\lo<=pm/\lo<=pq/\lo<=m
 hi:p<g.nx/\pm<g.nx/\pq<g.nx/\m<g.nx
structure PoJ (g1:G) (n:Net) (e:List Int) (m pq j:Nat) (h:H):Prop where
 fr:∀i,i<g1.nx->i≠m->i≠pq->h.get i=g1.h.get i
 kq:h.get pq=.cells 1 [[.int .i64 (S.aN n (S.pe n e) j)]] 0 false false
 hm:PoM n e [] j 0 m h
end
end Hx
end
section
namespace Hx
open Go
set_option maxRecDepth 100000
noncomputable section
theorem lI {C:Cfg}{d f:Nat}{xs:List AV}{v:AV}(hs:aD (Hx.snap G.empty.h d ak) xs=some xs)(h:aw (I C) d G.empty f xs=.val v):∃n,yA d ((sem C n).call (Nat.succ d) f xs G.empty)=some v:=by
 unfold aw at h
 rw[hs] at h
 dsimp only at h
 cases hc:(I C).call d.succ f xs G.empty with
 | fail=>rw[hc] at h;cases h
 | ok r g' =>
  obtain ⟨n,hn⟩:=zf hc
  refine ⟨n,?_⟩
  rw[hn]
  rw[hc] at h
  dsimp only at h
  simp only[yA]
  split at h
  ·cases h
  rename_i r' hr'
  rw[hr']
  dsimp only
  split at h
  ·cases h
  rename_i m hm
  rw[hm]
  dsimp only
  rw[aa] at h ⊢
  split at h
  ·rename_i hb
   rw[if_pos hb]
   injection h with h
   rw[h]
  ·split at h
   ·cases h
   split at h
   ·cases h
   rw[aa] at h
   split at h<;>cases h
def ivA (l:List Int):AV:=.tsl 0 1 (l.map ci)
theorem sL {α:Type} [Rp α]{l:List α}{rows:List (List AV)}(hl:l.length<9223372036854775808)(h:All2 (Rp.rp NoP 0 .nil) l rows)(P:Nat->Prop)(g:H):SlR P 0 g l (.tsl 0 (Rp.sz α) rows):=⟨hl,Nat.le_refl 0,.inl rfl,h⟩
theorem CQ (l:List Int)(hl:l.length<=1000)(h:H):SlR NoP 0 h l (ivA l) :=
 sL (α:=Int) (by omega) (All2.of_map (fun q=>a9.2 rfl) _) NoP h
end
end Hx
end
section
namespace Hx
inductive Ds (E:Nat->Nat->Prop):Nat->Nat->Prop
 | rf (v:Nat):Ds E v v
 | st {u v w:Nat}:E u v->Ds E v w->Ds E u w
def An (E:Nat->Nat->Prop)(Z:Nat->Prop)(v:Nat):Prop:=∃z,Z z/\Ds E v z
def okP (E:Nat->Nat->Prop)(Z:Nat->Prop)(v:Nat):Bool->Bool->Prop
 | true,true=>An E Z v
 | _,_=>¬Z v
inductive Rs (E:Nat->Nat->Prop) (Z X:Nat->Prop):Nat->Bool->Prop
 | st {x:Nat}:X x->Rs E Z X x false
 | dn {v c:Nat} {d:Bool}:Rs E Z X v d->okP E Z v d false->E v c->Rs E Z X c true
 | up {v p:Nat} {d:Bool}:Rs E Z X v d->okP E Z v d true->E p v->Rs E Z X p false
inductive Con (E:Nat->Nat->Prop) (Z:Nat->Prop):Nat->Bool->Nat->Bool->Prop
 | f {u v:Nat}:E u v->Con E Z u false v true
 | b {u v:Nat}:E v u->Con E Z u true v false
 | tf {x v w:Nat} {a b:Bool}:Con E Z x a v b->okP E Z v b false->E v w->Con E Z x a w true
 | tb {x v w:Nat} {a b:Bool}:Con E Z x a v b->okP E Z v b true->E w v->Con E Z x a w false
end Hx
end
section
namespace Hx
open Classical
def opT (E:Nat->Nat->Prop)(Z:Nat->Prop)(v:Nat)(r:List Nat)(w:Nat):Prop :=
 match r with
 | []=>True
 | u::_=>(E u v/\E w v->An E Z v)/\(¬(E u v/\E w v)->¬Z v)
inductive Tl (E:Nat->Nat->Prop) (Z:Nat->Prop) (x:Nat):List Nat->Prop
 | one:Tl E Z x [x]
 | ext {v w:Nat} {r:List Nat}:Tl E Z x (v::r)->E v w\/E w v->w ∉ v::r->opT E Z v r w->Tl E Z x (w::v::r)
end Hx
end
section
namespace Hx
open Classical
noncomputable def S.bG (p:Nat->Prop):Nat->Nat
 | 0=>0
 | n+1=>S.bG p n ||| if p n then 2 ^ n else 0
inductive Sx (E:Nat->Nat->Prop) (Z A:Nat->Prop):Nat×Bool->Nat×Bool->Prop
 | dn {v c:Nat} {d:Bool}:¬Z v->E v c->Sx E Z A (v,d) (c,true)
 | up {v p:Nat} {d:Bool}:(d=true->A v)->(d=false->¬Z v)->E p v->Sx E Z A (v,d) (p,false)
structure Dst (R:Nat×Bool->Nat×Bool->Prop) (T:Nat×Bool->Prop) (L L':List (Nat×Bool)):Prop where
 pre:∀s∈L,s∈L'
 good:∀s∈L',T s
 cl:∀s∈L',s ∉ L->∀t,R s t->t∈L'
def Eo (Z:Nat->Prop)(L:List (Nat×Bool))(v:Nat):Prop:=(∃d,(v,d)∈L)/\¬Z v
end Hx
end
section
namespace Hx
open Go
section
variable {p:List Nat}
def Eg (p:List Nat)(u v:Nat):Prop:=(Par p v).testBit u=true
def Bt (s v:Nat):Prop:=s.testBit v=true
end
end Hx
end
section
namespace Hx
inductive Tw (E:Nat->Nat->Prop) (x:Nat):List Nat->Prop
 | one:Tw E x [x]
 | ext {v w:Nat} {r:List Nat}:Tw E x (v::r)->E v w\/E w v->w ∉ v::r->Tw E x (w::v::r)
end Hx
end
section
namespace Hx
open Go
noncomputable section
def S.bW (p:List Nat):List Nat:=(List.range p.length).map fun u=>S.bG (Eg p u) p.length
def S.bQ (p:List Nat):Bool:=decide (1<=p.length)&&decide (p.length<=8)&&p.all (fun x=>decide (x<2 ^ p.length))&&S.aT p
structure GOk (p:List Nat):Prop where
 l1:1<=p.length
 l8:p.length<=8
 hp:∀x∈p,x<2 ^ p.length
 ac:S.aT p=true
def S.gr (p:List Nat):List Nat×List Nat:=if S.bQ p then (p,S.bW p) else ([],[])
def sk (s:Nat×Bool):AV:=.agg [.int .i64 (s.1:Int),.bool s.2]
def bcl (L:List (Nat×Bool)):List (AV×AV):=L.map fun s=>(sk s,.bool true)
def Eq:AV:=.clo N.aJ [] [.hptr 5 0 0 0,.hptr 1 0 0 0,.hptr 4 0 0 0,.hptr 0 0 0 0,.hptr 6 0 0 0,.hptr 2 0 0 0]
structure GrI (p c:List Nat) (pa ch:AV) (Zs:Nat):Prop where
 hp:∀x∈p,x<2 ^ p.length
 n8:p.length<=8
 rp:∀h,ax h 1 pa=some (p.map cu)
 rc:∀h,ax h 1 ch=some (c.map cu)
 yp:0<p.length->nS pa=true
 yc:0<p.length->nS ch=true
 cl:c.length=p.length
 cb:∀v u,(c[v]?.getD 0).testBit u=true↔Eg p v u
 zs:Zs<2 ^ p.length
structure VI (p:List Nat) (pa ch:AV) (Zs:Nat) (L:List (Nat×Bool)) (h:H):Prop where
 g0:h.get 0=.cells 2 [[pa,ch]] 0 false false
 z:h.get 1=.cells 1 [[.int .u64 (Zs:Int)]] 0 false false
 a:h.get 2=.cells 1 [[.int .u64 (S.up p Zs p.length:Int)]] 0 false false
 m:h.get 3=.map (bcl L)
 r:h.get 4=.cells 1 [[.int .u64 (S.bG (Eo (Bt Zs) L) p.length:Int)]] 0 false false
 p:h.get 5=.cells 1 [[.hmap 3]] 0 false false
 v:h.get 6=.cells 1 [[Eq]] 0 false false
abbrev RX (p:List Nat)(Zs:Nat):=Sx (Eg p) (Bt Zs) (An (Eg p) (Bt Zs))
structure VJ (p:List Nat) (pa ch:AV) (Zs:Nat) (Gd:Nat×Bool->Prop) (L:List (Nat×Bool)) (b:Bool) (l:List Nat) (g0:G) (j:Nat) (h:H):Prop where
 ex:∃L',VI p pa ch Zs L' h/\Dst (RX p Zs) Gd L L'/\∀i v,i<j->l[i]?=some v->(v,b)∈L'
 fr:∀i,7<=i->i<g0.nx->h.get i=g0.h.get i
structure GrB (pa cv:AV) (q:Nat) (Y:List Nat) (g:G):Prop where
 h0:g.h.get 0=.cells 2 [[.nils,.nils]] 0 false false
 hq:g.h.get q=.cells 2 [[pa,cv]] 0 false false
 hs:Own g 1 cv 1 (Y.map cu)
 q1:1<=q
 qn:q<g.nx
 d1:vid cv≠some q
section
variable {d:Nat}{p:List Nat}{pa cv:AV}{q:Nat}
end
end
end Hx
end
section
namespace Hx
open Go
noncomputable section
structure Chl (p c:List Nat):Prop where
 cl:c.length=p.length
 cb:∀v u,(c[v]?.getD 0).testBit u=true↔Eg p v u
set_option maxRecDepth 5000 in
def cn (i:Nat):Int:=(i:Int)
structure NumI (n:Nat) (num:Nat->Nat) (Y:List Nat):Prop where
 l:Y.length=n
 b:∀i,i<n->∀u,(Par Y (num i)).testBit u=true->∃k,k<i/\u=num k
structure GD (a b u v:AV) (n:Nat) (num:Nat->Nat) (pl:List Int) (Y:List Nat) (g:G):Prop where
 h0:g.h.get 0=.cells 2 [[a,b]] 0 false false
 nu:Own g 1 u 1 (pl.map ci)
 ou:Own g 1 v 1 (Y.map cu)
 ne:∀i,vid u=some i->vid v≠some i
 ni:NumI n num Y
section
variable {d n:Nat}{a b u v:AV}{num:Nat->Nat}{pl:List Int}
end
end
end Hx
end
section
namespace Hx
open Go
noncomputable section
structure LeB (a b:Nat) (pa ch:AV) (r e:AV) (ms:List Nat) (h:H):Prop where
 x:h.get 0=.cells 1 [[.int .i64 (a:Int)]] 0 false false
 y:h.get 1=.cells 1 [[.int .i64 (b:Int)]] 0 false false
 r:h.get 2=.cells 1 [[r]] 0 false false
 e:h.get 3=.cells 1 [[e]] 0 false false
 g:h.get 4=.cells 2 [[pa,ch]] 0 false false
 m:∀m∈ms,h.get m=.dfr true
end
end Hx
end
section
namespace Hx
open Go
set_option maxRecDepth 100000
noncomputable section
def nC7:Net:=⟨60,[⟨2,[],[[48,12]]⟩,⟨2,[0],[[13,47],[38,22]]⟩,⟨2,[1],[[43,17],[21,39]]⟩,⟨2,[2],[[28,32],[47,13]]⟩,⟨2,[3],[[13,47],[43,17]]⟩,⟨2,[4],[[36,24],[40,20]]⟩,⟨2,[5],[[53,7],[57,3]]⟩,⟨2,[6],[[25,35],[53,7]]⟩]⟩
def nF7:Net:=⟨60,[⟨2,[],[[48,12]]⟩,⟨2,[0],[[13,47],[38,22]]⟩,⟨2,[0,1],[[43,17],[21,39],[18,42],[53,7]]⟩,⟨2,[0,1,2],[[28,32],[47,13],[27,33],[23,37],[9,51],[56,4],[46,14],[6,54]]⟩,⟨2,[0,1,2,3],[[13,47],[43,17],[55,5],[5,55],[49,11],[57,3],[40,20],[50,10],[58,2],[22,38],[15,45],[7,53],[26,34],[12,48],[31,29],[52,8]]⟩,⟨2,[0,1,2,3,4],[[36,24],[40,20],[3,57],[47,13],[38,22],[49,11],[51,9],[53,7],[55,5],[27,33],[41,19],[43,17],[38,22],[1,59],[17,43],[54,6],[17,43],[40,20],[37,23],[25,35],[47,13],[52,8],[2,58],[6,54],[35,25],[27,33],[47,13],[59,1],[20,40],[51,9],[48,12],[36,24]]⟩,⟨2,[0,1,2,3,4,5],[[53,7],[57,3],[18,42],[38,22],[2,58],[7,53],[53,7],[56,4],[46,14],[46,14],[24,36],[57,3],[30,30],[27,33],[50,10],[9,51],[33,27],[13,47],[54,6],[49,11],[49,11],[14,46],[30,30],[48,12],[53,7],[1,59],[52,8],[22,38],[44,16],[44,16],[42,18],[35,25],[37,23],[48,12],[18,42],[59,1],[1,59],[21,39],[5,55],[17,43],[14,46],[16,44],[2,58],[43,17],[4,56],[9,51],[22,38],[54,6],[44,16],[43,17],[18,42],[9,51],[39,21],[7,53],[34,26],[56,4],[33,27],[44,16],[32,28],[6,54],[42,18],[47,13],[24,36],[21,39]]⟩,⟨2,[0,1,2,3,4,5,6],[[25,35],[53,7],[34,26],[22,38],[19,41],[24,36],[59,1],[12,48],[18,42],[57,3],[7,53],[23,37],[9,51],[45,15],[27,33],[57,3],[53,7],[15,45],[29,31],[8,52],[21,39],[1,59],[54,6],[14,46],[49,11],[42,18],[45,15],[35,25],[48,12],[33,27],[2,58],[10,50],[43,17],[52,8],[33,27],[42,18],[20,40],[34,26],[34,26],[18,42],[57,3],[55,5],[14,46],[54,6],[54,6],[53,7],[51,9],[15,45],[55,5],[36,24],[26,34],[54,6],[24,36],[29,31],[28,32],[15,45],[31,29],[34,26],[53,7],[49,11],[58,2],[16,44],[13,47],[59,1],[36,24],[6,54],[25,35],[13,47],[19,41],[24,36],[52,8],[54,6],[44,16],[57,3],[6,54],[53,7],[42,18],[59,1],[54,6],[2,58],[49,11],[42,18],[4,56],[55,5],[50,10],[44,16],[47,13],[33,27],[19,41],[51,9],[20,40],[36,24],[36,24],[32,28],[2,58],[6,54],[5,55],[21,39],[11,49],[5,55],[3,57],[32,28],[5,55],[32,28],[19,41],[47,13],[51,9],[8,52],[38,22],[31,29],[32,28],[1,59],[55,5],[54,6],[42,18],[25,35],[39,21],[16,44],[54,6],[40,20],[34,26],[14,46],[47,13],[2,58],[24,36],[10,50],[39,21],[51,9]]⟩]⟩
def psA (l:List Int):AV:=match l with | []=>.nils | _=>ivA l
def ndV (x:Node):List AV:=[.int .i64 x.card,psA x.parents,.tsl 0 1 (x.rows.map fun r=>[ivA r])]
def Cp (n:Net):AV:=.agg [.int .i64 n.grain,.tsl 0 3 (n.nodes.map ndV)]
theorem Eb (l:List Int)(hl:l.length<=1000):SlR NoP 0 .nil l (psA l):=by
 cases l with
 | nil=>exact ⟨by show 0<9223372036854775808;decide,rfl⟩
 | cons a l=>exact CQ (a::l) hl .nil
theorem Da (x:Node)(h1:x.parents.length<=1000)(h2:x.rows.length<=1000)(h3:∀r∈x.rows,r.length<=1000):Rp.rp NoP 0 .nil x (ndV x):=by
 have a2:∀l:List (List Int),(∀r∈l,r.length<=1000)->All2 (Rp.rp NoP 0 .nil) l (l.map fun r=>[ivA r]):=fun l=>by
  induction l with
  | nil=>exact fun _=>trivial
  | cons r l ih=>exact fun h=>⟨mE.2 ⟨_,rfl,CQ r (h r (by simp)) .nil⟩,ih fun q hq=>h q (by simp[hq])⟩
 exact eR.2 ⟨_,_,rfl,Eb _ h1,sL (α:=List Int) (by omega) (a2 _ h3) NoP .nil⟩
def S.bA (n:Net):Bool:=decide (n.nodes.length<=1000)&&n.nodes.all fun x=>decide (x.parents.length<=1000)&&decide (x.rows.length<=1000)&&x.rows.all fun r=>decide (r.length<=1000)
theorem sN {n:Net}(hn:S.bA n=true)(h:H):Agg n NoP 0 h (Cp n):=by
 simp only[S.bA,Bool.and_eq_true,decide_eq_true_eq,List.all_eq_true] at hn
 have a2:∀l:List Node,(∀x∈l,(x.parents.length<=1000/\x.rows.length<=1000)/\∀r∈x.rows,r.length<=1000)->All2 (Rp.rp NoP 0 .nil) l (l.map ndV):=fun l=>by
  induction l with
  | nil=>exact fun _=>trivial
  | cons x l ih=>exact fun hl=>⟨Da x (hl x (by simp)).1.1 (hl x (by simp)).1.2 (hl x (by simp)).2,ih fun q hq=>hl q (by simp[hq])⟩
 exact ⟨_,rfl,mX.2 ⟨_,rfl,sL (α:=Node) (by omega) (a2 _ hn.2) NoP h⟩⟩
theorem ug:S.bA nC7=true:=by decide +kernel
theorem zo:S.bA nF7=true:=by decide +kernel
theorem gn:S.ap nC7=256:=by decide +kernel
theorem yQ:S.ap nF7=256:=by decide +kernel
theorem wK:S.aQ nC7 1 128 0=0:=by decide +kernel
theorem Bs:S.aQ nC7 1 128 2=0:=by decide +kernel
theorem AK:S.aQ nF7 8 32 215=0:=by decide +kernel
theorem zZ:S.aS nC7 1 128 0 0=true:=by decide +kernel
theorem Cf:S.aS nF7 8 32 215 0=true:=by decide +kernel
theorem AN {n:Net}{x y z w:Nat}(h:S.aS n x y z w=true)(hw:w<S.ap n):S.a7 n x y z=true:=by
 rw[S.a7,List.any_eq_true]
 exact ⟨w,List.mem_range.2 hw,h⟩
theorem Bu:S.aM nC7 1 128 0=true:=by
 rw[S.aM,wK,AN zZ (by rw[gn];decide)];rfl
theorem C8:S.aM nF7 8 32 215=true:=by
 rw[S.aM,AK,AN Cf (by rw[yQ];decide)];rfl
def S.bw:List Nat:=[13387227310080,15726116689920,48412649687040,56843286312960,9782973803520,11492162196480,5665310069760,6651873930240]
def S.bj (w:Nat):Nat:=(((0)*2+w / 128 % 2)*2+w / 64 % 2)*2+w / 1 % 2
theorem y3:∀w<256,S.aX nC7 131 w=((S.bj w:Nat):Int):=by decide +kernel
theorem xT:∀k:Nat,k<8->S.aJ nC7 131 (k:Int) 256=(((S.bw[k]?).getD 0:Nat):Int):=by decide +kernel
theorem Al:∀w<256,S.bj w<8:=by decide +kernel
theorem Bm {w:Nat}(hw:w<256):(S.aW nC7 131 w).toNat=(S.bw[S.bj w]?).getD 0:=by
 rw[S.aW,gn,y3 w hw,xT _ (Al w hw),Int.toNat_natCast]
def S.bB:List Nat:=[50388480000000,117573120000000]
def S.bo (w:Nat):Nat:=(0)*2+w / 64 % 2
theorem Dv:∀w<256,S.aX nC7 2 w=((S.bo w:Nat):Int):=by decide +kernel
theorem Cw:∀k:Nat,k<2->S.aJ nC7 2 (k:Int) 256=(((S.bB[k]?).getD 0:Nat):Int):=by decide +kernel
theorem DE:∀w<256,S.bo w<2:=by decide +kernel
theorem D7 {w:Nat}(hw:w<256):(S.aW nC7 2 w).toNat=(S.bB[S.bo w]?).getD 0:=by
 rw[S.aW,gn,Dv w hw,Cw _ (DE w hw),Int.toNat_natCast]
def S.br:List Nat:=[29113344000000,105255936000000,21275136000000,12317184000000]
def S.bh (w:Nat):Nat:=((0)*2+w / 128 % 2)*2+w / 64 % 2
theorem DI:∀w<256,S.aX nC7 3 w=((S.bh w:Nat):Int):=by decide +kernel
theorem Cm:∀k:Nat,k<4->S.aJ nC7 3 (k:Int) 256=(((S.br[k]?).getD 0:Nat):Int):=by decide +kernel
theorem DD:∀w<256,S.bh w<4:=by decide +kernel
theorem D1 {w:Nat}(hw:w<256):(S.aW nC7 3 w).toNat=(S.br[S.bh w]?).getD 0:=by
 rw[S.aW,gn,DI w hw,Cm _ (DD w hw),Int.toNat_natCast]
def S.bu:List Nat:=[23170201113600,27218278886400,54077959756800,63495160243200]
def S.bm (w:Nat):Nat:=((0)*2+w / 64 % 2)*2+w / 1 % 2
theorem AD:∀w<256,S.aX nC7 130 w=((S.bm w:Nat):Int):=by decide +kernel
theorem yi:∀k:Nat,k<4->S.aJ nC7 130 (k:Int) 256=(((S.bu[k]?).getD 0:Nat):Int):=by decide +kernel
theorem zB:∀w<256,S.bm w<4:=by decide +kernel
theorem BI {w:Nat}(hw:w<256):(S.aW nC7 130 w).toNat=(S.bu[S.bm w]?).getD 0:=by
 rw[S.aW,gn,AD w hw,yi _ (zB w hw),Int.toNat_natCast]
theorem Eh:∀w<256,S.aI ((S.bw[S.bj w]?).getD 0) ((S.bB[S.bo w]?).getD 0)=S.aI ((S.br[S.bh w]?).getD 0) ((S.bu[S.bm w]?).getD 0):=by decide +kernel
theorem B3:S.aM nC7 1 128 2=false:=by
 have h:S.a7 nC7 1 128 2=false:=by
  rw[S.a7,gn,List.any_eq_false]
  intro w hw
  have hw:=List.mem_range.1 hw
  have d0:S.ay nC7 1 128 2 0 w=(S.bw[S.bj w]?).getD 0:=Bm hw
  have d1:S.ay nC7 1 128 2 1 w=(S.bB[S.bo w]?).getD 0:=D7 hw
  have d2:S.ay nC7 1 128 2 2 w=(S.br[S.bh w]?).getD 0:=D1 hw
  have d3:S.ay nC7 1 128 2 3 w=(S.bu[S.bm w]?).getD 0:=BI hw
  rw[S.aS,d0,d1,d2,d3,Eh w hw,decide_eq_true rfl]
  decide
 rw[S.aM,h,Bool.and_false]
end
end Hx
end
section
namespace Hx
open Go
set_option maxRecDepth 100000
noncomputable section
def AP:List (List AV×AV):=[([Cp nC7,.int .u64 1,.int .u64 128,.int .u64 0],.tup [.bool true,.int .i64 0]),([Cp nC7,.int .u64 1,.int .u64 128,.int .u64 2],.tup [.bool false,.int .i64 0]),([Cp nF7,.int .u64 8,.int .u64 32,.int .u64 215],.tup [.bool true,.int .i64 0])]
theorem AY:∀e∈AP,(∃n,yA 2 ((sem C0 n).call 3 N.ak e.1 G.empty)=some e.2)/\mJ 5 e.2=true:=by
 intro e he
 simp only[AP,List.mem_cons,List.not_mem_nil,or_false] at he
 rcases he with rfl | rfl | rfl
 ·refine ⟨lI (by kernel_rfl) ?_,rfl⟩
  rw[<-cQ]
  have:=lM (d:=2) (g:=G.empty) (n:=nC7) (xs:=1) (ys:=128) (zs:=0) (by decide) (sN ug _) (by decide) (by decide) (by decide)
  rw[Bu,wK] at this
  exact this
 ·refine ⟨lI (by kernel_rfl) ?_,rfl⟩
  rw[<-cQ]
  have:=lM (d:=2) (g:=G.empty) (n:=nC7) (xs:=1) (ys:=128) (zs:=2) (by decide) (sN ug _) (by decide) (by decide) (by decide)
  rw[B3,Bs] at this
  exact this
 ·refine ⟨lI (by kernel_rfl) ?_,rfl⟩
  rw[<-cQ]
  have:=lM (d:=2) (g:=G.empty) (n:=nF7) (xs:=8) (ys:=32) (zs:=215) (by decide) (sN zo _) (by decide) (by decide) (by decide)
  rw[C8,AK] at this
  exact this
def fbk (f:Nat):Nat->List AV->G->OR:=Ek C0 20000 f
def Dq:Cfg:=C0.add N.ak (yu 2 AP (fbk N.ak))
theorem Dt:CfgOk C0:=Go.Proofs.YtfpjoiojhegfaaaDoor.Gen.cfg1Ok
theorem Dg:CfgOk Dq:=Dt.add (BA Dt AY (BY Dt))
end
end Hx
end
section
namespace Hx
open Go
set_option maxRecDepth 100000
theorem mA:uE ((sem Dq 20000).call 1 N.aK [] G.empty)=true:=by kernel_rfl
end Hx
end
