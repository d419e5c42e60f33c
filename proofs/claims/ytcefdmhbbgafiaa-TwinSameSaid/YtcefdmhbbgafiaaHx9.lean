/- A part of the proof: what the functions of the chapter compute. -/
import Derived.RangeFuncIn
import Derived.Laws.Sem
import Derived.Laws.Tables
import Derived.DeepKeys3
import Derived.AtR
import Derived.Orders
import Derived.Below
import Derived.Laws.Externs
import Derived.KernelRfl
import Derived.Test.YtcefdmhbbgafiaaHx8
set_option linter.all false
set_option maxHeartbeats 8000000
section
namespace Hx
open Go
noncomputable section
def EA(p:Nat)(g:G)(b:Nat)(v:AV):Nat->Prop:=λi=>b<=i/\i<g.nx/\i≠p/\vid v≠some i
def OwnX{α:Type} [Rp α](p:Nat)(g:G)(b:Nat)(k:Nat)(v:AV)(l:List α):Prop:=vid v≠some p/\∃rows,Own g b v (Rp.sz α) rows/\All2 (Rp.rp (EA p g b v) k g.h) l rows
section
variable {α:Type} [Rp α]{p:Nat}{g g':G}{b k:Nat}{v:AV}{l:List α}
theorem OwnX.sl(h:OwnX p g b k v l)(hl:l.length<9223372036854775808):SlR (λi=>b<=i/\i<g.nx/\i≠p) k g.h l v:=by obtain⟨h0,rows,h1,h2⟩:=h;exact Own.sl h1 hl (h2.mono λx cs r=>Rp.mono r (λi hi=>⟨⟨hi.1,hi.2.1,hi.2.2.1⟩,rfl⟩) (Tp _)) λi hi=>⟨(h1.lt hi).1,(h1.lt hi).2,λe=>h0 (by rw[hi,e])⟩
theorem OwnX.fr(h:OwnX p g b k v l)(hn:g.nx<=g'.nx)(hf:∀i,b<=i->i<g.nx->i≠p->g'.h.get i=g.h.get i):OwnX p g' b k v l:=by obtain⟨h0,rows,h1,h2⟩:=h;exact⟨h0,rows,h1.fr hn λi hi=>hf i (h1.lt hi).1 (h1.lt hi).2 (λe=>h0 (by rw[hi,e])),h2.mono λx cs r=>Rp.mono r (λi hi=>⟨⟨hi.1,TX hi.2.1 hn,hi.2.2⟩,hf i hi.1 hi.2.1 hi.2.2.1⟩) (Tp _)⟩
theorem OwnX.step(h:OwnX p g b k v l)(f:Fr g g'):OwnX p g' b k v l:=h.fr f.1 λi _ hi _=>f.2 i hi
theorem OwnX.lt(h:OwnX p g b k v l){i:Nat}(hi:vid v=some i):b<=i/\i<g.nx:=by obtain⟨-,rows,h1,-⟩:=h;exact h1.lt hi
theorem OwnX.cell(h:OwnX p g b k v l):v.cells=[v]/\v.isTup=false:=by obtain⟨-,rows,h1,-⟩:=h;exact h1.cell
theorem OwnX.len(h:OwnX p g b k v l)(g0:G):dm .slice v g0=.val (.int .i64 (l.length:Int)):=by obtain⟨-,rows,h1,h2⟩:=h;rw[bQ h1.rows,h2.len]
theorem OwnT.x(h:OwnT g b k v l)(hn:g.nx<=g'.nx)(hp:g.nx<=p)(hf:∀i,b<=i->i<g.nx->g'.h.get i=g.h.get i):OwnX p g' b k v l:=by obtain⟨rows,h1,h2⟩:=h;exact⟨λe=>by have:=(h1.lt e).2;omega,rows,h1.fr hn λi hi=>hf i (h1.lt hi).1 (h1.lt hi).2,h2.mono λx cs r=>Rp.mono r (λi hi=>⟨⟨hi.1,TX hi.2.1 hn,by have:=hi.2.1;omega,hi.2.2⟩,hf i hi.1 hi.2.1⟩) (Tp _)⟩
theorem yv{x:AV}{y:α}{cs:List AV}{bytes:Nat}{K:AV->G->Prop}{D:ADf->Prop}(hv:OwnX p g b k v l)(hx:ac g.h (Rp.sz α) x=some [cs])(hy:Rp.rp (EA p g b v) k g.h y cs)(hb:b<=g.nx)(hp:p<g.nx)
  (hr:(l.length+1)*bytes<=aQ)
  (kk:∀v' g',OwnX p g' b k v' (l++[y])->g.nx<=g'.nx->(∀i,i<g.nx->vid v≠some i->g'.h.get i=g.h.get i)->(vid v'=vid v\/∃i,vid v'=some i/\g.nx<=i)->(∀i∈g'.lg,i∈g.lg\/b<=i)->K v' g') :
  (cC (Rp.sz α) bytes v x g).sat K g D:=by
 obtain⟨h0,rows,h1,h2⟩:=hv;refine aT (new:=[cs]) h1 hx hb (by rw[<-h2.len];exact hr) λv' g' hv' hn hf hvid hlg=>kk v' g' ⟨λe=>?_,rows++[cs],hv',?_⟩ hn hf hvid hlg
 ·rcases hvid with h|⟨i,h,hi⟩
  ·rw[h]at e;exact h0 e
  ·rw[h]at e;injection e;omega
 have up:∀(z:α) (c:List AV),Rp.rp (EA p g b v) k g.h z c->Rp.rp (EA p g' b v') k g'.h z c:=λz c r=>Rp.mono r (λi hi=>⟨⟨hi.1,TX hi.2.1 hn,hi.2.2.1,λe=>by
  rcases hvid with e2|⟨j,e2,hj⟩
  ·rw[e2]at e;exact hi.2.2.2 e
  ·rw[e2]at e;injection e with e;subst e;have:=hi.2.1;omega⟩,hf i hi.2.1 hi.2.2.2⟩) (Tp _)
 exact (h2.mono up).append ⟨up y cs hy,trivial⟩
end
def S.RF(gr:Int)(card:Nat)(ab be:Nat)(out:List Int)(j:Nat):List (List Int):=(List.range j).flatMap λj=>(List.range ab).map λi=>S.Ry gr card (out[i*be+j]?.getD 0).toNat
def S.S3(gr:Int)(ab be:Nat)(first a:Int)(x:Mech):Node :=
 if 0<=a then ⟨x.card,[],[S.Ry gr x.card.toNat a.toNat]⟩ else ⟨x.card,x.noise++x.frm.map (first+·),S.RF gr x.card.toNat ab be x.out be⟩
def S.R9(m:Causal)(first:Int)(act:List Int)(i:Nat):Node :=
 S.S3 m.grain (S.RM m (m.nodes[i]?.getD ⟨0,[],[],[]⟩)).toNat (S.RJ m (m.nodes[i]?.getD ⟨0,[],[],[]⟩)).toNat first (act[i]?.getD 0) (m.nodes[i]?.getD ⟨0,[],[],[]⟩)
def S.Sg(m:Causal)(first:Int)(act:List Int)(j:Nat):List Node:=(List.range j).map (S.R9 m first act)
def S.SN(m:Causal)(first:Int)(act:List Int):List Node:=S.Sg m first act m.nodes.length
theorem P6{d p k0 q b:Nat}{act w bb:AV}{gr card first:Int}{nb jj:Int}{nds:List Node}{ps:List Int}{rws:List (List Int)}{rr:List (List AV)}{Q:QT}{t:T}{g g0:G}{V:Nat->AV}{E:Nat->En}{L:Nat->Prop}
  (ht:St t [(1,.hptr p 0 0 0),(2,act),(3,.hptr k0 0 0 0),(6,.int .i64 first),(9,V 0),(23,bb),(24,.int .i64 nb),(25,.int .i64 jj)]) (hfr:Fr g0 g) (hH:Hp g q L V E) (hq:g0.nx=q) (L0:L 0) (L1:L 1) (L2:L 2)
  (e0:E 0=.bx [.int .i64 card,V 1,V 2]) (e1:E 1=.sl 1 (ps.map ci)) (e2:E 2=.sl 1 rr) (hrr:All2 (Rp.rp NoP 0 .nil) rws rr) (hps:ps.length<1000000) (hrw:rws.length<=1000000000) (hW:OwnX p g0 b 0 w nds) (hnl:nds.length<=1000000)
  (hp:g0.h.get p=We 2 [[.int .i64 gr,w]]) (hpq:p<q) (hbq:b<=q)
  (kk:∀t' g' w',St t' [(1,.hptr p 0 0 0),(2,act),(3,.hptr k0 0 0 0),(6,.int .i64 first),(9,V 0),(23,bb),(24,.int .i64 nb),(25,.int .i64 jj)]->g'.h.get p=We 2 [[.int .i64 gr,w']]->OwnX p g' b 0 w' (nds++[⟨card,ps,rws⟩]) ->
   (∀i,i<q->i≠p->vid w≠some i->g'.h.get i=g0.h.get i)->q<=g'.nx->(vid w'=vid w\/∃i,vid w'=some i/\q<=i)->Q .norm t' [] g'):wp C0 d none (.feet [0,0,2,6,14,0,32,126,255,511,1023] [o 49 (.mv (.t 1)),o 50 (.mv (.t 1)),Wk 51 50,o 52 (.fad 1 (.t 51)),o 53 (.load false 1 (.t 52)),Wh 54 3 9,o 55 (.bsl 3 1 [.int .i64 0,.nils,.nils] [0] [.t 54]),o 56 (.app 3 56 (.t 53) (.t 55)),Wk 57 49,o 58 (.fad 1 (.t 57)),Wj 1 58 56]) Q t [] g:=by
 obtain⟨h1,h2,h3,h6,h9,h23,h24,h25,-⟩:=ht;obtain⟨i9,p1,p2,p3,p4⟩:=hH.box L0 e0;rw[p3]at h9 kk;have p4:g.h.get i9=We 3 [[.int .i64 card,V 1,V 2]]:=p4;have hpg:g.h.get p=We 2 [[.int .i64 gr,w]]:=by rw[hfr.2 p (by omega),hp]
 have hWg:=hW.step hfr;have hwlt:∀i,vid w=some i->b<=i/\i<q:=λi hi=>by have:=hW.lt hi;omega
 have o1:=hH.own L1 e1;have o2:=hH.own L2 e2;have hn:=hfr.1;simp only[sx,sy,sf,SO.run,↓reduceIte,Nat.reduceEqDiff,Nat.reduceAdd,Nat.reduceLeDiff,h1,h9,hpg,p4,ko];have hy:∀(ga:G),(∀i,i<g.nx->ga.h.get i=g.h.get i)->g.nx<=ga.nx->Rp.rp (EA p ga b w) 0 ga.h (⟨card,ps,rws⟩:Node) [.int .i64 card,V 1,V 2]:=λga hf hnx=>by
  have hp3:∀{j:Nat} {sz:Nat} {rows:List (List AV)},Own g q (V j) sz rows->∀i,vid (V j)=some i->EA p ga b w i:=λh i hi=>by have:=h.lt hi;exact⟨by omega,by omega,by omega,λe=>by have:=hwlt i e;omega⟩
  have oa1:=o1.fr hnx λi hi=>hf i (o1.lt hi).2;have oa2:=o2.fr hnx λi hi=>hf i (o2.lt hi).2;exact fm.2 ⟨V 1,V 2,rfl,Own.sl (α:=Int) oa1 (by show ps.length<_;omega) (Q5 (λa=>aB.2 rfl) _) (hp3 o1),Own.sl (α:=List Int) oa2 (by show rws.length<_;omega) (hrr.mono λa c r=>Rp.tree r (Tp _)) (hp3 o2)⟩
 refine yv (p:=p) (α:=Node) (b:=b) (k:=0) (l:=nds) (y:=⟨card,ps,rws⟩) (cs:=[.int .i64 card,V 1,V 2]) (hWg.step (Fr.trans (g':=?ga) ?fr1 ?fr2)) (by simp[sy,Q_,Rp.sz]) (hy _ (λi hi=>?_) (by simp;omega)) (by simp;omega) (by simp;omega) (by simp[aQ];omega) λw' g1 hw' n1 f1 vid1 lg1=>?_
 case ga=>exact g
 case fr1=>exact Fr.refl _
 case fr2=>exact⟨by simp;omega,λi hi=>by simp[Q_];omega⟩
 ·simp[Q_];omega
 simp only[sx,sy]at n1 f1 vid1 lg1;have hp1:g1.h.get p=We 2 [[.int .i64 gr,w]]:=by rw[f1 p (by omega) hW.1,TF (by omega),hpg]
 simp only[sx,sy,sf,SO.run,↓reduceIte,Nat.reduceEqDiff,Nat.reduceAdd,Nat.reduceLeDiff,h1,h9,hp1,ko,hw'.cell.1,hw'.cell.2];refine⟨?_,?_⟩
 ·simp only[TM,TS,TL,TJ];refine aI [false,false,false,false,false,false,true,true,false,false,true] [(0,6),(1,6),(2,6),(3,6),(4,6),(0,7)] (by simp[All2,ae,aw,bf]) (by decide) ?_;rintro p hp x y hx hy;simp only[T3,TV,U_]at hp;rcases hp with rfl|rfl|rfl|rfl|rfl|rfl<;>(simp at hx hy;subst hx;subst hy;refine bO rfl rfl rfl rfl ?_ ?_ ?_<;>simp[ae,aw,ak]<;>omega)
 ·refine kk _ _ w' (by simp[St,sx,h1,h2,h3,h6,h9,h23,h24,h25]) (by simp[Q_]) (hw'.fr (by simp;omega) λi hi _ hne=>by simp[Q_];intro e;exact absurd e hne) (λi hi hne hnv=>?_) (by simp;omega) ?_
  ·simp only[sx,sy,sf,SO.run,↓reduceIte,Nat.reduceEqDiff,Nat.reduceAdd,Nat.reduceLeDiff];rw[TF hne,f1 i (by omega) hnv,TF (by omega),hfr.2 i (by omega)]
  ·rcases vid1 with h|⟨i,h,hi⟩
   ·exact .inl h
   ·exact .inr ⟨i,h,by omega⟩
theorem Ox{d p k0 q b:Nat}{act w bb:AV}{gr card first:Int}{nb jj:Int}{nds:List Node}{ps:List Int}{rws:List (List Int)}{rr:List (List AV)}{Q:QT}{t:T}{g g0:G}{V:Nat->AV}{E:Nat->En}{L:Nat->Prop}
  (ht:St t [(1,.hptr p 0 0 0),(2,act),(3,.hptr k0 0 0 0),(6,.int .i64 first),(9,V 0),(23,bb),(24,.int .i64 nb),(25,.int .i64 jj)]) (hfr:Fr g0 g) (hH:Hp g q L V E) (hq:g0.nx=q) (L0:L 0) (L1:L 1) (L2:L 2)
  (e0:E 0=.bx [.int .i64 card,V 1,V 2]) (e1:E 1=.sl 1 (ps.map ci)) (e2:E 2=.sl 1 rr) (hrr:All2 (Rp.rp NoP 0 .nil) rws rr) (hps:ps.length<1000000) (hrw:rws.length<=1000000000) (hW:OwnX p g0 b 0 w nds) (hnl:nds.length<=1000000)
  (hp:g0.h.get p=We 2 [[.int .i64 gr,w]]) (hpq:p<q) (hbq:b<=q)
  (kk:∀t' g' w',St t' [(1,.hptr p 0 0 0),(2,act),(3,.hptr k0 0 0 0),(6,.int .i64 first),(9,V 0),(23,bb),(24,.int .i64 nb),(25,.int .i64 jj)]->g'.h.get p=We 2 [[.int .i64 gr,w']]->OwnX p g' b 0 w' (nds++[⟨card,ps,rws⟩]) ->
   (∀i,i<q->i≠p->vid w≠some i->g'.h.get i=g0.h.get i)->q<=g'.nx->(vid w'=vid w\/∃i,vid w'=some i/\q<=i)->Q .norm t' [] g'):wp C0 d none (.feet [0,0,2,6,14,0,32,126,255,511,1023] [o 116 (.mv (.t 1)),o 117 (.mv (.t 1)),Wk 118 117,o 119 (.fad 1 (.t 118)),o 120 (.load false 1 (.t 119)),Wh 121 3 9,o 122 (.bsl 3 1 [.int .i64 0,.nils,.nils] [0] [.t 121]),o 123 (.app 3 56 (.t 120) (.t 122)),Wk 124 116,o 125 (.fad 1 (.t 124)),Wj 1 125 123]) Q t [] g:=by
 obtain⟨h1,h2,h3,h6,h9,h23,h24,h25,-⟩:=ht;obtain⟨i9,p1,p2,p3,p4⟩:=hH.box L0 e0;rw[p3]at h9 kk;have p4:g.h.get i9=We 3 [[.int .i64 card,V 1,V 2]]:=p4;have hpg:g.h.get p=We 2 [[.int .i64 gr,w]]:=by rw[hfr.2 p (by omega),hp]
 have hWg:=hW.step hfr;have hwlt:∀i,vid w=some i->b<=i/\i<q:=λi hi=>by have:=hW.lt hi;omega
 have o1:=hH.own L1 e1;have o2:=hH.own L2 e2;have hn:=hfr.1;simp only[sx,sy,sf,SO.run,↓reduceIte,Nat.reduceEqDiff,Nat.reduceAdd,Nat.reduceLeDiff,h1,h9,hpg,p4,ko];have hy:∀(ga:G),(∀i,i<g.nx->ga.h.get i=g.h.get i)->g.nx<=ga.nx->Rp.rp (EA p ga b w) 0 ga.h (⟨card,ps,rws⟩:Node) [.int .i64 card,V 1,V 2]:=λga hf hnx=>by
  have hp3:∀{j:Nat} {sz:Nat} {rows:List (List AV)},Own g q (V j) sz rows->∀i,vid (V j)=some i->EA p ga b w i:=λh i hi=>by have:=h.lt hi;exact⟨by omega,by omega,by omega,λe=>by have:=hwlt i e;omega⟩
  have oa1:=o1.fr hnx λi hi=>hf i (o1.lt hi).2;have oa2:=o2.fr hnx λi hi=>hf i (o2.lt hi).2;exact fm.2 ⟨V 1,V 2,rfl,Own.sl (α:=Int) oa1 (by show ps.length<_;omega) (Q5 (λa=>aB.2 rfl) _) (hp3 o1),Own.sl (α:=List Int) oa2 (by show rws.length<_;omega) (hrr.mono λa c r=>Rp.tree r (Tp _)) (hp3 o2)⟩
 refine yv (p:=p) (α:=Node) (b:=b) (k:=0) (l:=nds) (y:=⟨card,ps,rws⟩) (cs:=[.int .i64 card,V 1,V 2]) (hWg.step (Fr.trans (g':=?ga) ?fr1 ?fr2)) (by simp[sy,Q_,Rp.sz]) (hy _ (λi hi=>?_) (by simp;omega)) (by simp;omega) (by simp;omega) (by simp[aQ];omega) λw' g1 hw' n1 f1 vid1 lg1=>?_
 case ga=>exact g
 case fr1=>exact Fr.refl _
 case fr2=>exact⟨by simp;omega,λi hi=>by simp[Q_];omega⟩
 ·simp[Q_];omega
 simp only[sx,sy]at n1 f1 vid1 lg1;have hp1:g1.h.get p=We 2 [[.int .i64 gr,w]]:=by rw[f1 p (by omega) hW.1,TF (by omega),hpg]
 simp only[sx,sy,sf,SO.run,↓reduceIte,Nat.reduceEqDiff,Nat.reduceAdd,Nat.reduceLeDiff,h1,h9,hp1,ko,hw'.cell.1,hw'.cell.2];refine⟨?_,?_⟩
 ·simp only[TM,TS,TL,TJ];refine aI [false,false,false,false,false,false,true,true,false,false,true] [(0,6),(1,6),(2,6),(3,6),(4,6),(0,7)] (by simp[All2,ae,aw,bf]) (by decide) ?_;rintro p hp x y hx hy;simp only[T3,TV,U_]at hp;rcases hp with rfl|rfl|rfl|rfl|rfl|rfl<;>(simp at hx hy;subst hx;subst hy;refine bO rfl rfl rfl rfl ?_ ?_ ?_<;>simp[ae,aw,ak]<;>omega)
 ·refine kk _ _ w' (by simp[St,sx,h1,h2,h3,h6,h9,h23,h24,h25]) (by simp[Q_]) (hw'.fr (by simp;omega) λi hi _ hne=>by simp[Q_];intro e;exact absurd e hne) (λi hi hne hnv=>?_) (by simp;omega) ?_
  ·simp only[sx,sy,sf,SO.run,↓reduceIte,Nat.reduceEqDiff,Nat.reduceAdd,Nat.reduceLeDiff];rw[TF hne,f1 i (by omega) hnv,TF (by omega),hfr.2 i (by omega)]
  ·rcases vid1 with h|⟨i,h,hi⟩
   ·exact .inl h
   ·exact .inr ⟨i,h,by omega⟩
structure AS (q i8 i9:Nat) (card:Int) (fa fb fc:AV) (g0 g:G) (V:Nat->AV) (E:Nat->En) (ps:List Int) (rws:List (List Int)):Prop where
 fr:Fr g0 g
 q0:g0.nx=q
 hp:Hp g q (·<4) V E
 v0:V 0=.hptr i9 0 0 0
 e0:E 0=.bx [.int .i64 card,V 1,V 2]
 e1:E 1=.sl 1 (ps.map ci)
 e2:∃rr,E 2=.sl 1 rr/\All2 (Rp.rp NoP 0 .nil) rws rr
 v3:V 3=.hptr i8 0 0 0
 e3:E 3=.bx [.int .i64 card,fa,fb,fc]
section
variable {q i8 i9:Nat}{card:Int}{fa fb fc:AV}{g0 g ga:G}{V:Nat->AV}{E:Nat->En}{ps ps':List Int}{rws:List (List Int)}
theorem AS.b9(h:AS q i8 i9 card fa fb fc g0 g V E ps rws):g.h.get i9=We 3 [[.int .i64 card,V 1,V 2]]/\q<=i9/\i9<g.nx:=by obtain⟨i,a,b,c,e⟩:=h.hp.box (k:=0) (by decide) h.e0;rw[h.v0]at c;injection c with c;subst c;exact⟨e,a,b⟩
theorem AS.b8(h:AS q i8 i9 card fa fb fc g0 g V E ps rws):g.h.get i8=We 4 [[.int .i64 card,fa,fb,fc]]:=by obtain⟨i,a,b,c,e⟩:=h.hp.box (k:=3) (by decide) h.e3;rw[h.v3]at c;injection c with c;subst c;exact e
theorem AS.same(h:AS q i8 i9 card fa fb fc g0 g V E ps rws)(hf:ga.h=g.h)(hn:g.nx<=ga.nx):AS q i8 i9 card fa fb fc g0 ga V E ps rws :=
 ⟨⟨by have:=h.fr.1;omega,λi hi=>by rw[hf,h.fr.2 i hi]⟩,h.q0,h.hp.same hf hn,h.v0,h.e0,h.e1,h.e2,h.v3,h.e3⟩
theorem AS.par(h:AS q i8 i9 card fa fb fc g0 g V E ps rws){v1:AV}(hp':Hp ga q (·<4) (ups V 1 v1) (ups E 1 (.sl 1 (ps'.map ci))))(hfr:∀i,i<q->ga.h.get i=g.h.get i)(hn:g.nx<=ga.nx) :
  AS q i8 i9 card fa fb fc g0 (ga.put i9 (We 3 [[.int .i64 card,v1,V 2]])) (ups V 1 v1) (ups (ups E 1 (.sl 1 (ps'.map ci))) 0 (.bx [.int .i64 card,v1,V 2])) ps' rws:=by
 have hq:=h.q0;have:=h.b9
 exact { fr:=⟨by have:=h.fr.1;simp;omega,λi hi=>by rw[G.put_h,ah _ _ _ (by omega),hfr i (by omega),h.fr.2 i hi]⟩,q0:=hq
         hp:=hp'.putb (k:=0) (by decide) (row:=[.int .i64 card,V 1,V 2]) (by rw[aJ _ _ (by decide)];exact h.e0) (by rw[aJ _ _ (by decide)];exact h.v0) rfl
         v0:=by rw[aJ _ _ (by decide)];exact h.v0,e0:=by rw[bB,bB,aJ _ _ (by decide)],e1:=by rw[aJ _ _ (by decide),bB]
         e2:=by rw[aJ _ _ (by decide),aJ _ _ (by decide)];exact h.e2,v3:=by rw[aJ _ _ (by decide)];exact h.v3,e3:=by rw[aJ _ _ (by decide),aJ _ _ (by decide)];exact h.e3 }
theorem AS.row(h:AS q i8 i9 card fa fb fc g0 g V E ps rws){v1:AV}{rr:List (List AV)}{rws':List (List Int)}(hp':Hp ga q (·<4) (ups V 2 v1) (ups E 2 (.sl 1 rr)))(hrr:All2 (Rp.rp NoP 0 .nil) rws' rr)(hfr:∀i,i<q->ga.h.get i=g.h.get i)(hn:g.nx<=ga.nx) :
  AS q i8 i9 card fa fb fc g0 (ga.put i9 (We 3 [[.int .i64 card,V 1,v1]])) (ups V 2 v1) (ups (ups E 2 (.sl 1 rr)) 0 (.bx [.int .i64 card,V 1,v1])) ps rws':=by
 have hq:=h.q0;have:=h.b9
 exact { fr:=⟨by have:=h.fr.1;simp;omega,λi hi=>by rw[G.put_h,ah _ _ _ (by omega),hfr i (by omega),h.fr.2 i hi]⟩,q0:=hq
         hp:=hp'.putb (k:=0) (by decide) (row:=[.int .i64 card,V 1,V 2]) (by rw[aJ _ _ (by decide)];exact h.e0) (by rw[aJ _ _ (by decide)];exact h.v0) rfl
         v0:=by rw[aJ _ _ (by decide)];exact h.v0,e0:=by rw[bB,bB,aJ _ _ (by decide)],e1:=by rw[aJ _ _ (by decide),aJ _ _ (by decide)];exact h.e1
         e2:=by rw[aJ _ _ (by decide),bB];exact⟨rr,rfl,hrr⟩,v3:=by rw[aJ _ _ (by decide)];exact h.v3,e3:=by rw[aJ _ _ (by decide),aJ _ _ (by decide)];exact h.e3 }
end
def ASt(p k0 i8 i9:Nat)(act bb:AV)(first:Int)(nn i:Nat)(t:T):Prop :=
 St t [(1,.hptr p 0 0 0),(2,act),(3,.hptr k0 0 0 0),(6,.int .i64 first),(9,.hptr i9 0 0 0),(23,bb),(24,.int .i64 (nn:Int)),(25,.int .i64 (i:Int)),(7,.int .i64 (i:Int)),(8,.hptr i8 0 0 0)]
theorem PJ{d p k0 q i8 i9 nn i:Nat}{act bb fa fb fc:AV}{card:Int}{first:Nat}{frm noise:List Int}{rws:List (List Int)}{Q:QT}{t:T}{g g0:G}{V:Nat->AV}{E:Nat->En}(hfa:SlR NoP 0 .nil frm fa)(hf:frm.length<=100)(hfn:∀y∈frm,0<=y/\y<100)(hno:noise.length<=100)(hfi:first<=1000)
  (ht:ASt p k0 i8 i9 act bb first nn i t) (h66:tat t 66=fa) (h67:tat t 67=.int .i64 (frm.length:Int)) (h68:tat t 68=.int .i64 0) (hA:AS q i8 i9 card fa fb fc g0 g V E noise rws)
  (fin:∀t g V E,ASt p k0 i8 i9 act bb first nn i t->AS q i8 i9 card fa fb fc g0 g V E (noise++frm.map ((first:Int)+·)) rws->Q (.exit 2) t [] g) :
  wpL (wp C0 d none gu) Q t [] g:=by
 have hr:=hfa.ints;simp only[gu];refine aq (m:=frm.length) (by omega) (λj t df g=>df=[]/\ASt p k0 i8 i9 act bb first nn i t/\tat t 66=fa/\∃V E,AS q i8 i9 card fa fb fc g0 g V E (noise++(frm.take j).map ((first:Int)+·)) rws)
  ⟨rfl,ht,h66,V,E,by simpa using hA⟩ h68 h67 (by decide) (by rintro j t df g v s (rfl|rfl|rfl)<;>simp[ASt,St,sx]) ?_ ?_
 ·clear ht h66 h67 h68 hA;rintro j t df g hj ⟨rfl,⟨h1,h2,h3,h6,h9,h23,h24,h25,h7,h8,-⟩,h66,V,E,hA⟩ h68 h67;obtain⟨y,hy,htk,hm⟩:=af hj;have hyb:=hfn y hm;have hr:=(hfa.tree (h':=g.h) (Tp _)).ints;obtain⟨b9,c1,c2⟩:=hA.b9;have hnx:=hA.hp.nx;simp only[sx,sy,SO.run,↓reduceIte,Nat.reduceEqDiff,Nat.reduceAdd,Nat.reduceLeDiff,h6,h9,h66,h68,hr,hj,hy,ci,Tz,Tt,TQ,Tx,Tq,b9,au (show -9223372036854775808<=(first:Int)+y by omega) (show (first:Int)+y<9223372036854775808 by omega)];refine Hp.app (k:=1) (hA.hp.step (by simp) (λi' _ hi'=>by rw[G.new_h,ah _ _ _ (by omega)])) (by decide) hA.e1 (new:=[[.int .i64 ((first:Int)+y)]]) (by simp[sx,sy,Q_]) (by simp[aQ];omega) λv1 ga hHa na fra _ _ vca vta=>?_;simp only[sx,sy]at na fra;have e:(List.map ci (noise++(frm.take j).map ((first:Int)+·))++[[AV.int .i64 ((first:Int)+y)]])=List.map ci (noise++(frm.take (j+1)).map ((first:Int)+·)):=by rw[htk];simp[ci]
  rw[e]at hHa;have hA2:=hA.par hHa (λi' hi'=>by rw[fra i' hi',TF (by omega)]) (by omega);have b9a:ga.h.get i9=We 3 [[.int .i64 card,V 1,V 2]]:=by obtain⟨i,a,b,c,e⟩:=hHa.box (k:=0) (by decide) (by rw[aJ _ _ (by decide)];exact hA.e0);rw[aJ _ _ (by decide),hA.v0]at c;injection c with c;subst c;exact e
  simp only[sx,sy,SO.run,↓reduceIte,Nat.reduceEqDiff,Nat.reduceAdd,Nat.reduceLeDiff,h1,h2,h3,h6,h7,h8,h9,h23,h24,h25,h66,h67,h68,b9a,vca,vta,ASt,St];exact⟨_,_,hA2⟩
 ·rintro t df g ⟨rfl,ht,h66,V,E,hA⟩;rw[TO]at hA;exact fin t g V E ht hA
def zC(p k0 i8 i9:Nat)(act bb:AV)(first:Int)(nn i ab be:Nat)(t:T):Prop :=
 St t [(1,.hptr p 0 0 0),(2,act),(3,.hptr k0 0 0 0),(6,.int .i64 first),(9,.hptr i9 0 0 0),(23,bb),(24,.int .i64 (nn:Int)),(25,.int .i64 (i:Int)),(7,.int .i64 (i:Int)),(8,.hptr i8 0 0 0),(12,.int .i64 (ab:Int)),(13,.int .i64 (be:Int))]
theorem PK{d p k0 q i8 i9 nn i ab be j cN:Nat}{x:KnownM}{act bb fa fb fc ra na:AV}{first:Int}{out ps:List Int}{R0:List (List Int)}{Q:QT}{t:T}{g g0:G}{V:Nat->AV}{E:Nat->En}(hd:0<d)
  (hm:∀h,Agg x NoP 0 h (.agg [.int .i64 x.m.grain,ra,na,.int .i64 x.hidden])) (hk:g0.h.get k0=We 4 [[.int .i64 x.m.grain,ra,na,.int .i64 x.hidden]]) (hkq:k0<q) (hc4:cN<=4)
  (hfc:SlR NoP 0 .nil out fc) (hol:out.length=ab*be) (hob:ab*be<=100000000) (hov:∀y∈out,0<=y/\y<(cN:Int)) (hj:j<be) (hR:R0.length<=100000000)
  (ht:zC p k0 i8 i9 act bb first nn i ab be t) (h88:tat t 88=.int .i64 (be:Int)) (h89:tat t 89=.int .i64 (j:Int)) (h14:tat t 14=.int .i64 (j:Int)) (h92:tat t 92=.int .i64 (ab:Int)) (h93:tat t 93=.int .i64 0) (hA:AS q i8 i9 cN fa fb fc g0 g V E ps R0)
  (fin:∀t g V E,zC p k0 i8 i9 act bb first nn i ab be t->tat t 88=.int .i64 (be:Int)->tat t 89=.int .i64 (j:Int)->AS q i8 i9 cN fa fb fc g0 g V E ps (R0++(List.range ab).map λi=>S.Ry x.m.grain cN (out[i*be+j]?.getD 0).toNat)->Q (.exit 6) t [] g) :
  wpL (wp C0 d none gv) Q t [] g:=by
 simp only[gv];have hbe:be<=100000000\/ab=0:=by
  by_cases h:ab=0
  ·exact .inr h
  ·exact .inl (TU (Nat.le_mul_of_pos_left be (by omega)) hob)
 have hab:ab<=100000000:=TU (Nat.le_mul_of_pos_right ab (by omega)) hob;refine aq (m:=ab) (by omega) (λa t df g=>df=[]/\zC p k0 i8 i9 act bb first nn i ab be t/\tat t 88=.int .i64 (be:Int)/\tat t 89=.int .i64 (j:Int)/\tat t 14=.int .i64 (j:Int)/\∃V E,AS q i8 i9 cN fa fb fc g0 g V E ps (R0++(List.range a).map λi=>S.Ry x.m.grain cN (out[i*be+j]?.getD 0).toNat))
  ⟨rfl,ht,h88,h89,h14,V,E,by simpa using hA⟩ h93 h92 (by decide) (by rintro j t df g v s (rfl|rfl|rfl)<;>simp[zC,St,sx]) ?_ ?_
 ·clear ht h88 h89 h14 h92 h93 hA;rintro a t df g ha ⟨rfl,⟨h1,h2,h3,h6,h9,h23,h24,h25,h7,h8,h12,h13,-⟩,h88,h89,h14,V,E,hA⟩ h93 h92;obtain⟨b9,c1,c2⟩:=hA.b9;have b8:=hA.b8;have hnx:=hA.hp.nx;have hq0:=hA.q0;have bk:g.h.get k0=We 4 [[.int .i64 x.m.grain,ra,na,.int .i64 x.hidden]]:=by rw[hA.fr.2 k0 (by omega),hk]
  have hlt:a*be+j<ab*be:=by have:(a+1)*be<=ab*be:=TT be (by omega);rw[T_,UC]at this;omega
  have hlt2:a*be+j<out.length:=by omega
  obtain⟨y,hy⟩:∃y,out[a*be+j]?=some y:=⟨_,Tn hlt2⟩;obtain⟨y0,y1⟩:=hov y (Tv hy);obtain⟨yN,rfl⟩:=Ty y0;have hr:=(hfc.tree (h':=g.h) (Tp _)).ints;have hmul:(a:Int)*(be:Int)=((a*be:Nat):Int):=by simp
  have hadd:((a*be:Nat):Int)+(j:Int)=((a*be+j:Nat):Int):=by simp
  simp only[sx,sy,sf,SO.run,↓reduceIte,Nat.reduceEqDiff,Nat.reduceAdd,Nat.reduceLeDiff,h3,h8,h9,h13,h14,h93,b8,b9,bk,hmul,hadd,au (show -9223372036854775808<=((a*be:Nat):Int) by omega) (show ((a*be:Nat):Int)<9223372036854775808 by omega),au (show -9223372036854775808<=((a*be+j:Nat):Int) by omega) (show ((a*be+j:Nat):Int)<9223372036854775808 by omega),hr,hlt2,hy,ci,Tz,Tt,TQ,Tx,Tq];refine bH (Nf (c:=cN) (i:=yN) hd (hm _) hc4 (by omega)) λr hr2=>?_;simp only[sx,sy,sf,SO.run,↓reduceIte,Nat.reduceEqDiff,Nat.reduceAdd,Nat.reduceLeDiff];rw[mC 1 [.nils] r _ (by rw[hr2.cells];rfl) hr2.tup,hr2.cells];simp only[sx,sy,sf,SO.run,↓reduceIte,Nat.reduceEqDiff,Nat.reduceAdd,Nat.reduceLeDiff];obtain⟨rr,e2,hrr⟩:=hA.e2;have hrl:=hrr.len;simp only[TP,Tz,Vp]at hrl;refine Hp.app (k:=2) (hA.hp.step (by simp;omega) (λi' _ hi'=>?_)) (by decide) e2 (new:=[[r]]) (by simp[sx,sy,Q_]) (by simp[aQ];omega) λv1 ga hHa na fra _ lga vca vta=>?_
  ·simp[Q_];omega
  simp only[sx,sy]at na fra lga;have hA2:=hA.row hHa (rws':=R0++(List.range (a+1)).map λi=>S.Ry x.m.grain cN (out[i*be+j]?.getD 0).toNat) (by
   rw[Uw,Ub,<-UO];refine hrr.append ⟨?_,trivial⟩;show Rp.rp NoP 0 .nil (S.Ry x.m.grain cN (out[a*be+j]?.getD 0).toNat) [r];rw[hy];exact hr2) (λi' hi'=>by rw[fra i' hi',TF (by omega)]) (by omega)
  have b9a:ga.h.get i9=We 3 [[.int .i64 (cN:Int),V 1,V 2]]:=by obtain⟨i,a,b,c,e⟩:=hHa.box (k:=0) (by decide) (by rw[aJ _ _ (by decide)];exact hA.e0);rw[aJ _ _ (by decide),hA.v0]at c;injection c with c;subst c;exact e
  have ro:=(hA.hp.own (k:=2) (by decide) e2).refs_ltT;simp only[sx,sy,sf,SO.run,↓reduceIte,Nat.reduceEqDiff,Nat.reduceAdd,Nat.reduceLeDiff,h1,h2,h3,h6,h7,h8,h9,h12,h13,h14,h23,h24,h25,h88,h89,h92,h93,b9a,vca,vta,mu,zC,St];refine⟨?_,?_⟩
  ·simp only[TM,TS,TL,TJ];refine aI [false,false,false,false,false,false,false,false,false,false,false,false,false,false,false,true,true,false,true] [(0,15),(1,15)] (by simp[All2,ae,aw,bf]) (by decide) ?_;rintro p hp x y hx hy;simp only[T3,TV,U_]at hp;rcases hp with rfl|rfl<;>(simp at hx hy;subst hx;subst hy;refine bO rfl rfl rfl rfl ?_ ?_ ?_<;>simp[ae,aw,ak]<;>omega)
  ·exact⟨_,_,hA2.same (by simp) (by simp;omega)⟩
 ·rintro t df g ⟨rfl,ht,h88,h89,h14,V,E,hA⟩;exact fin t g V E ht h88 h89 hA
theorem PL{d p k0 q i8 i9 nn i ab be cN:Nat}{x:KnownM}{act bb fa fb fc ra na:AV}{first:Int}{out ps:List Int}{Q:QT}{t:T}{g g0:G}{V:Nat->AV}{E:Nat->En}(hd:0<d)
  (hm:∀h,Agg x NoP 0 h (.agg [.int .i64 x.m.grain,ra,na,.int .i64 x.hidden])) (hk:g0.h.get k0=We 4 [[.int .i64 x.m.grain,ra,na,.int .i64 x.hidden]]) (hkq:k0<q) (hc4:cN<=4)
  (hfc:SlR NoP 0 .nil out fc) (hol:out.length=ab*be) (hob:ab*be<=100000000) (hbe:be<=100000000) (hov:∀y∈out,0<=y/\y<(cN:Int))
  (ht:zC p k0 i8 i9 act bb first nn i ab be t) (h88:tat t 88=.int .i64 (be:Int)) (h89:tat t 89=.int .i64 0) (hA:AS q i8 i9 cN fa fb fc g0 g V E ps [])
  (fin:∀t g V E,zC p k0 i8 i9 act bb first nn i ab be t->AS q i8 i9 cN fa fb fc g0 g V E ps (S.RF x.m.grain cN ab be out be)->Q (.exit 4) t [] g) :
  wpL (wp C0 d none gw) Q t [] g:=by
 have hlen:∀j,(S.RF x.m.grain cN ab be out j).length=j*ab:=λj=>by
  induction j with
  |zero=>simp[S.RF]
  | succ j ih =>
   have:S.RF x.m.grain cN ab be out (j+1)=S.RF x.m.grain cN ab be out j++(List.range ab).map λi=>S.Ry x.m.grain cN (out[i*be+j]?.getD 0).toNat:=by simp[S.RF,Uw]
   rw[this,TP,ih,Tz,Vp,T_,UC]
 simp only[gw,md];refine aq (m:=be) (by omega) (λj t df g=>df=[]/\zC p k0 i8 i9 act bb first nn i ab be t/\∃V E,AS q i8 i9 cN fa fb fc g0 g V E ps (S.RF x.m.grain cN ab be out j))
  ⟨rfl,ht,V,E,by simpa [S.RF] using hA⟩ h89 h88 (by decide) (by rintro j t df g v s (rfl|rfl|rfl)<;>simp[zC,St,sx]) ?_ ?_
 ·clear ht h88 h89 hA;rintro j t df g hj ⟨rfl,ht,V,E,hA⟩ h89 h88;obtain⟨h1,h2,h3,h6,h9,h23,h24,h25,h7,h8,h12,h13,-⟩:=ht;simp only[sx,sy,SO.run,↓reduceIte,Nat.reduceEqDiff,Nat.reduceAdd,Nat.reduceLeDiff,h12,h89];have hjl:j*ab<=ab*be:=by rw[VO];exact V5 ab (by omega)
  refine PK (p:=p) (act:=act) (first:=first) (bb:=bb) (nn:=nn) (i:=i) (j:=j) hd hm hk hkq hc4 hfc hol hob hov hj (by rw[hlen];omega) (by simp[zC,St,sx,h1,h2,h3,h6,h9,h23,h24,h25,h7,h8,h12,h13]) (by simp[sx,h88]) (by simp[sx,h89]) (by simp[sx]) (by simp[sx]) (by simp[sx]) hA ?_;intro t g V E ht h88 h89 hA;simp only[sx,sy,SO.run,↓reduceIte,Nat.reduceEqDiff,Nat.reduceAdd,Nat.reduceLeDiff];refine⟨⟨ht,V,E,?_⟩,h89,h88⟩;have:S.RF x.m.grain cN ab be out (j+1)=S.RF x.m.grain cN ab be out j++(List.range ab).map λi=>S.Ry x.m.grain cN (out[i*be+j]?.getD 0).toNat:=by simp[S.RF,Uw]
  rw[this];exact hA
 ·rintro t df g ⟨rfl,ht,V,E,hA⟩;exact fin t g V E ht hA
end
end Hx
end
section
namespace Hx
open Go
noncomputable section
theorem EV(m:Causal)(first:Int)(act:List Int)(j:Nat):S.Sg m first act (j+1)=S.Sg m first act j++[S.R9 m first act j]:=by simp[S.Sg,Uw]
theorem G5(m:Causal)(first:Int)(act:List Int)(j:Nat):(S.Sg m first act j).length=j:=by simp[S.Sg]
theorem Nr{C:Cfg}{d:Nat}{rd:Option Nat}{a b:SC}{Q:QT}{t:T}{df:List ADf}{g:G}{P:PT}(h1:wp C d rd a (λe t df g=>e=.norm/\P t df g) t df g)(h2:∀t df g,P t df g->wp C d rd b Q t df g):wp C d rd (.seq a b) Q t df g:=by rw[dK];refine cR _ h1 ?_;rintro e t df g ⟨rfl,h⟩;exact h2 t df g h
theorem GR{d:Nat}{g:G}{x:KnownM}{v act w:AV}{al:List Int}{p b:Nat}{nds:List Node}{K:AV->G->Prop}{D:ADf->Prop}(hd:0<d)(hm:Agg x NoP 0 g.h v)(hck:S.Q_ x.m=true)(ha:SlR NoP 0 .nil al act)(hact:S.Rd x.m al=true)
  (hp:g.h.get p=We 2 [[.int .i64 x.m.grain,w]]) (hpn:p<g.nx) (hb:b<=g.nx) (hW:OwnX p g b 0 w nds) (hn:nds.length<=1000)
  (kk:∀z g' w',g'.h.get p=We 2 [[.int .i64 x.m.grain,w']]->OwnX p g' b 0 w' (nds++S.SN x.m nds.length al)->(∀i,i<b->i≠p->g'.h.get i=g.h.get i)->g.nx<=g'.nx->K z g') :
  (an C0 d N.RD [v,.hptr p 0 0 0,act] g).sat K g D:=by
 obtain⟨hs,hgr,hn1,hro,hno⟩:=ap hck;have hn5:=hs.nodes;simp only[S.Rd,Ts,TA]at hact;obtain⟨hall,hact⟩:=hact;obtain⟨cs,rfl,hc⟩:=hm;obtain⟨ra,na,rfl,hR,hN⟩:=dF.1 hc;have hms:∀h,Agg x NoP 0 h (.agg [.int .i64 x.m.grain,ra,na,.int .i64 x.hidden]):=λh=>⟨_,rfl,Rp.tree hc (Tp _)⟩;have hmc:∀h,Agg x.m NoP 0 h (.agg [.int .i64 x.m.grain,ra,na]):=λh=>⟨_,rfl,aZ.2 ⟨ra,na,rfl,hR.tree (Tp _),hN.tree (Tp _)⟩⟩;obtain⟨rows,r1,r2,r3,r4⟩:=hN.all;have r1:∀h',ac h' 4 na=some rows:=r1;rw[ur];refine mD wD (by simp[j8]) ?_;have hwl:=hW.len;simp only[j8,nu,sx,sy,SO.run,↓reduceIte,Nat.reduceEqDiff,Nat.reduceAdd,Nat.reduceLeDiff,Q_,show ¬p=g.nx by omega,hp,hwl,hN.len,ko];obtain⟨k0,hk0⟩:∃k0,k0=g.nx:=⟨_,rfl⟩;rw[<-hk0];refine aq (m:=x.m.nodes.length) (by omega) (λj t df g'=>df=[]/\St t [(1,.hptr p 0 0 0),(2,act),(3,.hptr k0 0 0 0),(6,.int .i64 (nds.length:Int)),(23,na)]/\k0<g'.nx/\g'.h.get k0=We 4 [[.int .i64 x.m.grain,ra,na,.int .i64 x.hidden]] /\
   (∀i,i<b->i≠p->g'.h.get i=g.h.get i)/\∃w,g'.h.get p=We 2 [[.int .i64 x.m.grain,w]]/\OwnX p g' b 0 w (nds++S.Sg x.m nds.length al j)/\vid w≠some k0)
  ⟨rfl,by simp[St,sx],by simp[hk0],by simp[Q_,hk0],λi hi _=>by simp[Q_];omega,w,by simp[Q_,hp];omega,?_,λe=>by have:=(hW.lt e).2;omega⟩ (by simp[sx]) (by simp[sx]) (by decide) (by rintro j t df g v s (rfl|rfl|rfl)<;>simp[St,sx]) ?_ ?_
 ·have:S.Sg x.m nds.length al 0=[]:=rfl;rw[this,TZ];exact hW.step (Fr.new _ _)
 ·rintro i t df g1 hi ⟨rfl,⟨h1,h2,h3,h6,h23,-⟩,hkn,hkg,hfr,w1,hp1,hW1,hvk⟩ h25 h24;obtain⟨y,hy,-,hym⟩:=af hi;obtain⟨row,q1,q2⟩:=r3 i y hy;obtain⟨fa,fb,fc,rfl,hfa,hfb,hfc⟩:=dG.1 q2;have hlt:i<rows.length:=by omega
  have hry:=r4 (by omega);have hnode:=tF hno hy;simp only[S.So,Ts,TA]at hnode;obtain⟨⟨⟨⟨pl1,pl2⟩,-⟩,hol⟩,hwi⟩:=hnode;obtain⟨hc1,hc4⟩:=hs.card y hym;obtain⟨cN,hcN⟩:=Ty (show 0<=y.card by omega);have hai:i<al.length:=by omega
  obtain⟨a,hal⟩:∃a,al[i]?=some a:=⟨_,Tn hai⟩;have haa:=TC.1 hact i (TK.2 hai);simp only[S.SM,hal,Tq,Ts,TA,S.Rf,TH,hy,TQ]at haa;obtain⟨a0,a1⟩:=haa;have hcopy:S.R9 x.m nds.length al i=S.S3 x.m.grain (S.RM x.m y).toNat (S.RJ x.m y).toNat nds.length a y:=by unfold S.R9;rw[hy,hal];rfl
  obtain⟨q,hq⟩:∃q,q=g1.nx:=⟨_,rfl⟩;rw[hcN]at q1;refine bh (P:=λt df g'=>df=[]/\St t [(1,.hptr p 0 0 0),(2,act),(3,.hptr k0 0 0 0),(6,.int .i64 (nds.length:Int)),(23,na),(24,.int .i64 (x.m.nodes.length:Int)),(25,.int .i64 (i:Int)),(7,.int .i64 (i:Int)),(8,.hptr q 0 0 0)] /\
   g'=(g1.new (We 4 [[.int .i64 0,.nils,.nils,.nils]])).put q (We 4 [[.int .i64 (cN:Int),fa,fb,fc]])) ?_ ?_
  ·simp only[sx,sy,SO.run,↓reduceIte,Nat.reduceEqDiff,Nat.reduceAdd,Nat.reduceLeDiff,h1,h2,h3,h6,h23,h24,h25,r1,hlt,q1,hry,Tx,Tq,St,hq]
  clear h1 h2 h3 h6 h23 h24 h25;rintro t df g2 ⟨rfl,⟨h1,h2,h3,h6,h23,h24,h25,h7,h8,-⟩,hg2⟩;have b8:g2.h.get q=We 4 [[.int .i64 (cN:Int),fa,fb,fc]]:=by rw[hg2];simp[Q_]
  have n2:g2.nx=q+1:=by rw[hg2,hq];simp
  have f2:∀i,i<q->g2.h.get i=g1.h.get i:=λi hi=>by rw[hg2,G.put_h,ah _ _ _ (by omega),G.new_h,ah _ _ _ (by omega)]
  clear hg2;refine bh (P:=λt df g'=>df=[]/\St t [(1,.hptr p 0 0 0),(2,act),(3,.hptr k0 0 0 0),(6,.int .i64 (nds.length:Int)),(23,na),(24,.int .i64 (x.m.nodes.length:Int)),(25,.int .i64 (i:Int)),(7,.int .i64 (i:Int)),(8,.hptr q 0 0 0),(9,.hptr (q+2) 0 0 0)] /\
   g'=((g2.new (We 1 [])).new (We 3 [[.int .i64 0,.nils,.nils]])).put (q+2) (We 3 [[.int .i64 (cN:Int),.hsl (q+1) 0 0 0 none,.nils]])) ?_ ?_
  ·simp only[sx,sy,SO.run,↓reduceIte,Nat.reduceEqDiff,Nat.reduceAdd,Nat.reduceLeDiff,h1,h2,h3,h6,h7,h8,h23,h24,h25,b8,n2,St]
  clear h1 h2 h3 h6 h23 h24 h25 h7 h8;rintro t df g3 ⟨rfl,⟨h1,h2,h3,h6,h23,h24,h25,h7,h8,h9,-⟩,hg3⟩;have hA:AS q q (q+2) cN fa fb fc g1 g3 (λk=>if k=0 then .hptr (q+2) 0 0 0 else if k=1 then .hsl (q+1) 0 0 0 none else if k=2 then .nils else .hptr q 0 0 0)
    (λk=>if k=0 then .bx [.int .i64 (cN:Int),.hsl (q+1) 0 0 0 none,.nils] else if k=1 then .sl 1 [] else if k=2 then .sl 1 [] else .bx [.int .i64 (cN:Int),fa,fb,fc]) [] []:=by
   have k3:g3.h.get q=We 4 [[.int .i64 (cN:Int),fa,fb,fc]]:=by rw[hg3];simp[Q_,n2,b8];omega
   have k0':g3.h.get (q+2)=We 3 [[.int .i64 (cN:Int),.hsl (q+1) 0 0 0 none,.nils]]:=by rw[hg3];simp[Q_]
   have k1:g3.h.get (q+1)=We 1 []:=by rw[hg3];simp[Q_,n2]
   have n3:g3.nx=q+3:=by rw[hg3];simp[n2]
   refine⟨⟨by omega,λi hi=>?_⟩,hq.symm,⟨λk hk=>?_,λk l hk hl hne id e1 e2=>?_,by omega⟩,rfl,rfl,rfl,⟨[],rfl,trivial⟩,rfl,rfl⟩
   ·rw[<-hq]at hi;rw[hg3,G.put_h,ah _ _ _ (by omega),G.new_h,ah _ _ _ (by simp[n2];omega),G.new_h,ah _ _ _ (by omega),f2 i hi]
   ·have:k=0\/k=1\/k=2\/k=3:=by omega
    rcases this with rfl|rfl|rfl|rfl
    ·exact⟨q+2,by omega,by omega,rfl,k0'⟩
    ·exact .inr ⟨q+1,0,false,by omega,by omega,rfl,k1⟩
    ·exact .inl ⟨rfl,rfl⟩
    ·exact⟨q,by omega,by omega,rfl,k3⟩
   ·have hk':k=0\/k=1\/k=2\/k=3:=by omega
    have hl':l=0\/l=1\/l=2\/l=3:=by omega
    rcases hk' with rfl|rfl|rfl|rfl<;>rcases hl' with rfl|rfl|rfl|rfl<;>simp[eid]at e1 e2 hne<;>omega
  clear hg3 b8 n2 f2;generalize (λk=>if k=0 then AV.hptr (q+2) 0 0 0 else if k=1 then .hsl (q+1) 0 0 0 none else if k=2 then .nils else .hptr q 0 0 0:Nat->AV)=V at hA;generalize (λk=>if k=0 then En.bx [.int .i64 (cN:Int),.hsl (q+1) 0 0 0 none,.nils] else if k=1 then .sl 1 [] else if k=2 then .sl 1 [] else .bx [.int .i64 (cN:Int),fa,fb,fc]:Nat->En)=E at hA;have hkq:k0<q:=by omega
  have hbq:b<=q:=by omega
  have hck4:cN<=4:=by omega
  have last:∀(t':T) (g':G) (w':AV),St t' [(1,.hptr p 0 0 0),(2,act),(3,.hptr k0 0 0 0),(6,.int .i64 (nds.length:Int)),(9,.hptr (q+2) 0 0 0),(23,na),(24,.int .i64 (x.m.nodes.length:Int)),(25,.int .i64 (i:Int))]->g'.h.get p=We 2 [[.int .i64 x.m.grain,w']] ->
    OwnX p g' b 0 w' (nds++S.Sg x.m nds.length al i++[S.R9 x.m nds.length al i])->(∀i,i<q->i≠p->vid w1≠some i->g'.h.get i=g1.h.get i)->q<=g'.nx->(vid w'=vid w1\/∃i,vid w'=some i/\q<=i) ->
    (([]:List ADf)=[]/\St t' [(1,.hptr p 0 0 0),(2,act),(3,.hptr k0 0 0 0),(6,.int .i64 (nds.length:Int)),(23,na)]/\k0<g'.nx/\g'.h.get k0=We 4 [[.int .i64 x.m.grain,ra,na,.int .i64 x.hidden]] /\
    (∀i,i<b->i≠p->g'.h.get i=g.h.get i)/\∃w,g'.h.get p=We 2 [[.int .i64 x.m.grain,w]]/\OwnX p g' b 0 w (nds++S.Sg x.m nds.length al (i+1))/\vid w≠some k0)/\tat t' 25=.int .i64 (i:Int)/\tat t' 24=.int .i64 (x.m.nodes.length:Int):=by
   rintro t' g' w' ⟨h1,h2,h3,h6,h9,h23,h24,h25,-⟩ hp' hW' hf' hq' hv';refine⟨⟨rfl,⟨h1,h2,h3,h6,h23,trivial⟩,by omega,by rw[hf' k0 hkq (by omega) hvk,hkg],λi' hi' hne=>by rw[hf' i' (by omega) hne (λe=>by have:=(hW1.lt e).1;omega),hfr i' hi' hne],w',hp',by rw[EV,<-UO];exact hW',?_⟩,h25,h24⟩;rcases hv' with h|⟨j,h,hj⟩
   ·rw[h];exact hvk
   ·rw[h];intro e;injection e;omega
  have hyf:=bD pl1;have hyn:=bD pl2;have hnr:=hs.roots;have hfm:=aE pl1;have bk:g3.h.get k0=We 4 [[.int .i64 x.m.grain,ra,na,.int .i64 x.hidden]]:=by rw[hA.fr.2 k0 (by omega),hkg]
  have hkk1:g1.h.get k0=We 4 [[.int .i64 x.m.grain,ra,na,.int .i64 x.hidden]]:=hkg;have hnl2:(nds++S.Sg x.m nds.length al i).length<=1000000:=by rw[TP,G5];omega
  rw[dK];refine bh (P:=λt df g'=>df=[]/\g'=g3/\tat t 38=.bool (decide (0<=a))/\ASt p k0 q (q+2) act na nds.length x.m.nodes.length i t) ?_ ?_
  ·simp only[sx,sy,SO.run,↓reduceIte,Nat.reduceEqDiff,Nat.reduceAdd,Nat.reduceLeDiff,h1,h2,h3,h6,h7,h8,h9,h23,h24,h25,(ha.tree (h':=g3.h) (Tp 0)).ints,hai,hal,ci,Tz,Tt,TQ,Tx,Tq,ASt,St]
  clear h1 h2 h3 h6 h23 h24 h25 h7 h8 h9;rintro t df g' ⟨rfl,rfl,h38,h1,h2,h3,h6,h9,h23,h24,h25,h7,h8,-⟩;obtain⟨b9,c1,c2⟩:=hA.b9;have b8:=hA.b8;have hnx3:=hA.hp.nx
  by_cases h0:0<=a
  ·obtain⟨aN,rfl⟩:=Ty h0;have hd38:decide ((0:Int)<=(aN:Int))=true:=by simp
   rw[zB];simp only[CG,h38,hd38,xl,xz];refine Nr (P:=λt df g'=>df=[]/\ASt p k0 q (q+2) act na nds.length x.m.nodes.length i t/\∃V' E',AS q q (q+2) cN fa fb fc g1 g' V' E' [] [S.Ry x.m.grain cN aN]) ?_ ?_
   ·simp only[sx,sy,sf,SO.run,↓reduceIte,Nat.reduceEqDiff,Nat.reduceAdd,Nat.reduceLeDiff,h1,h2,h3,h6,h7,h8,h9,bk,b8,(ha.tree (h':=g'.h) (Tp 0)).ints,hai,hal,ci,Tz,Tt,TQ,Tx,Tq];refine bH (Nf (c:=cN) (i:=aN) hd (hms _) hck4 (by omega)) λr hr2=>?_;simp only[sx,sy,sf,SO.run,↓reduceIte,Nat.reduceEqDiff,Nat.reduceAdd,Nat.reduceLeDiff];rw[mC 1 [.nils] r _ (by rw[hr2.cells];rfl) hr2.tup,hr2.cells];have e9:¬(q+2=g'.nx+1+1+1+1+1+1+1+1):=by omega
    obtain⟨S0,hS0⟩:∃S0:G,S0=G.mk g'.h (g'.nx+1+1+1+1+1+1+1+1) []:=⟨_,rfl⟩;have sh:S0.h=g'.h:=by rw[hS0]
    have sn:S0.nx=g'.nx+1+1+1+1+1+1+1+1:=by rw[hS0]
    have hAS:=hA.same (ga:=S0) sh (by omega);have hH2:=hAS.hp.set (k:=2) (g':=S0.new (We 1 [[r]])) (v':=.hsl S0.nx 0 0 1 none) (e':=.sl 1 [[r]]) (by decide) (I4 (by omega) _) (by simp) (λi' _ hi' _=>by rw[G.new_h,ah _ _ _ (by omega)]) (.inr ⟨S0.nx,rfl,Tp _⟩);have hA2:=hAS.row hH2 (rws':=[S.Ry x.m.grain cN aN]) ⟨hr2,trivial⟩ (λi' hi'=>by rw[G.new_h,ah _ _ _ (by omega)]) (by simp);simp only[sx,sy,sf,SO.run,↓reduceIte,Nat.reduceEqDiff,Nat.reduceAdd,Nat.reduceLeDiff,h1,h2,h3,h6,h7,h8,h9,h23,h24,h25,Q_,e9,b9,mu,ASt,St];refine⟨?_,_,_,hA2.same (by simp[sh,sn]) (by simp[sn])⟩;simp only[TM,TS,TL,TJ];exact aI [false,false,false,false,false,false,false,false,true,false,true] [] (by simp[All2,ae,aw,bf]) (by decide) (by simp)
   ·rintro t df g4 ⟨rfl,⟨h1,h2,h3,h6,h9,h23,h24,h25,h7,h8,-⟩,V',E',hA'⟩;obtain⟨rr,e2,hrr⟩:=hA'.e2;rw[dK];refine P6 (V:=V') (E:=E') (L:=(·<4)) (g0:=g1) (q:=q) (b:=b) (w:=w1) (nds:=nds++S.Sg x.m nds.length al i) (ps:=[]) (rws:=[S.Ry x.m.grain cN aN]) (rr:=rr) (gr:=x.m.grain) (card:=cN) (by simp[St,h1,h2,h3,h6,h9,h23,h24,h25,hA'.v0];exact⟨rfl,rfl,rfl,rfl,rfl,rfl⟩) hA'.fr hA'.hp hA'.q0 (by decide) (by decide) (by decide) hA'.e0 hA'.e1 e2 hrr (by simp) (by simp) hW1 hnl2 hp1 (by omega) hbq ?_;intro t' g5 w' ht' hp' hW' hf' hq' hv';rw[hA'.v0]at ht';rw[qH,Ey,D3,ox,TE rfl];refine last t' g5 w' ht' hp' ?_ hf' hq' hv';rw[hcopy,S.S3,TE h0,hcN,TH,TH];exact hW'
  ·have hd38:decide ((0:Int)<=a)=false:=by simp;omega
   rw[zB];simp only[CG,h38,hd38,xl,uZ,xp,qH];refine bh (P:=λt df g'=>df=[]/\ASt p k0 q (q+2) act na nds.length x.m.nodes.length i t/\∃V' E',AS q q (q+2) cN fa fb fc g1 g' V' E' y.noise []) ?_ ?_
   ·simp only[sx,sy,SO.run,↓reduceIte,Nat.reduceEqDiff,Nat.reduceAdd,Nat.reduceLeDiff,h1,h2,h3,h6,h7,h8,h9,b8,b9];refine hA.hp.app (k:=1) (by decide) hA.e1 (new:=y.noise.map ci) (hfb.tree (h':=g'.h) (Tp 0)).ints (by simp[aQ];omega) λv1 ga hHa na' fra _ _ vca vta=>?_;have b9a:ga.h.get (q+2)=We 3 [[.int .i64 (cN:Int),V 1,V 2]]:=by obtain⟨i,a,b,c,e⟩:=hHa.box (k:=0) (by decide) (by rw[aJ _ _ (by decide)];exact hA.e0);rw[aJ _ _ (by decide),hA.v0]at c;injection c with c;subst c;exact e
    have hA2:=hA.par (ps':=y.noise) hHa fra na';simp only[sx,sy,SO.run,↓reduceIte,Nat.reduceEqDiff,Nat.reduceAdd,Nat.reduceLeDiff,h1,h2,h3,h6,h7,h8,h9,h23,h24,h25,b9a,vca,vta,ASt,St];exact⟨_,_,hA2⟩
   rintro t df g4 ⟨rfl,⟨h1,h2,h3,h6,h9,h23,h24,h25,h7,h8,-⟩,V',E',hA'⟩;have b8:=hA'.b8;simp only[sx,sy,SO.run,↓reduceIte,Nat.reduceEqDiff,Nat.reduceAdd,Nat.reduceLeDiff,h8,b8,hfa.len];refine PJ (p:=p) (k0:=k0) (i8:=q) (act:=act) (bb:=na) (first:=nds.length) (nn:=x.m.nodes.length) (i:=i) hfa (by omega) (λz hz=>by have:=hfm z hz;omega) (by omega) hn (by simp[ASt,St,sx,h1,h2,h3,h6,h7,h8,h9,h23,h24,h25]) (by simp[sx]) (by simp[sx]) (by simp[sx]) hA' ?_;clear h1 h2 h3 h6 h9 h23 h24 h25 h7 h8 b8 hA';rintro t g5 V' E' ⟨h1,h2,h3,h6,h9,h23,h24,h25,h7,h8,-⟩ hA';have b8:=hA'.b8;have bk5:g5.h.get k0=We 4 [[.int .i64 x.m.grain,ra,na,.int .i64 x.hidden]]:=by rw[hA'.fr.2 k0 (by omega),hkg]
   have hy8:∀h,Agg y NoP 0 h (.agg [.int .i64 (cN:Int),fa,fb,fc]):=λh=>⟨_,rfl,dG.2 ⟨fa,fb,fc,by rw[hcN],hfa.tree (Tp _),hfb.tree (Tp _),hfc.tree (Tp _)⟩⟩;have ab1:=c_ (f:=S.Rf x.m) (l:=y.frm) (n:=5) (λz hz=>iY hs (hfm z hz)) (by omega);have be1:=c_ (f:=S.RS x.m) (l:=y.noise) (n:=8) (λz hz=>lG hs (aE pl2 z hz)) (by omega);have p5:(4:Int) ^ 5=1024:=by decide
   have p8:(4:Int) ^ 8=65536:=by decide
   obtain⟨ab,hab⟩:=Ty (show 0<=S.RM x.m y by unfold S.RM;omega);obtain⟨be,hbe⟩:=Ty (show 0<=S.RJ x.m y by unfold S.RJ;omega);have hab2:ab<=1024:=by (have:S.RM x.m y<=1024:=(by unfold S.RM;omega));omega
   have hbe2:be<=65536:=by (have:S.RJ x.m y<=65536:=(by unfold S.RJ;omega));omega
   have hmul:ab*be<=1024*65536:=Nat.mul_le_mul hab2 hbe2;rw[hab,hbe]at hol;have hol2:y.out.length=ab*be:=by (have:((y.out.length:Nat):Int)=((ab*be:Nat):Int):=(by rw[hol];simp));omega
   have hwi2:=Bt.1 hwi;simp only[mf,sx,sy,SO.run,↓reduceIte,Nat.reduceEqDiff,Nat.reduceAdd,Nat.reduceLeDiff,h3,h8,b8,bk5,Gp hd (hmc _) (hy8 _) hs pl1 pl2,hab,hbe];refine PL (p:=p) (k0:=k0) (i8:=q) (act:=act) (bb:=na) (first:=nds.length) (nn:=x.m.nodes.length) (i:=i) (ab:=ab) (be:=be) (x:=x) hd hms hkk1 hkq hck4 hfc hol2 (by omega) (by omega) (λz hz=>by have:=hwi2 z hz;omega) (by simp[zC,St,sx,h1,h2,h3,h6,h7,h8,h9,h23,h24,h25]) (by simp[sx]) (by simp[sx]) hA' ?_;clear h1 h2 h3 h6 h9 h23 h24 h25 h7 h8 b8 hA' bk5;rintro t g6 V' E' ⟨h1,h2,h3,h6,h9,h23,h24,h25,h7,h8,h12,h13,-⟩ hA';obtain⟨rr,e2,hrr⟩:=hA'.e2;have hrl:(S.RF x.m.grain cN ab be y.out be).length=be*ab:=by
    have:∀j,(S.RF x.m.grain cN ab be y.out j).length=j*ab:=λj=>by
     induction j with
     |zero=>simp[S.RF]
     | succ j ih =>
      have:S.RF x.m.grain cN ab be y.out (j+1)=S.RF x.m.grain cN ab be y.out j++(List.range ab).map λi=>S.Ry x.m.grain cN (y.out[i*be+j]?.getD 0).toNat:=by simp[S.RF,Uw]
      rw[this,TP,ih,Tz,Vp,T_,UC]
    exact this be
   rw[VO]at hrl;rw[IJ,qH];simp only[me];refine Ox (V:=V') (E:=E') (L:=(·<4)) (g0:=g1) (q:=q) (b:=b) (w:=w1) (nds:=nds++S.Sg x.m nds.length al i) (ps:=y.noise++y.frm.map ((nds.length:Int)+·)) (rws:=S.RF x.m.grain cN ab be y.out be) (rr:=rr) (gr:=x.m.grain) (card:=cN) (by simp[St,h1,h2,h3,h6,h9,h23,h24,h25,hA'.v0];exact⟨rfl,rfl,rfl,rfl,rfl,rfl⟩) hA'.fr hA'.hp hA'.q0 (by decide) (by decide) (by decide) hA'.e0 hA'.e1 e2 hrr (by simp;omega) (by rw[hrl];omega) hW1 hnl2 hp1 (by omega) hbq ?_;intro t' g7 w' ht' hp' hW' hf' hq' hv';rw[hA'.v0]at ht';rw[zt];refine last t' g7 w' ht' hp' ?_ hf' hq' hv';rw[hcopy,S.S3,TF h0,hab,hbe,hcN,TH,TH,TH];exact hW'
 ·rintro t df g1 ⟨rfl,⟨h1,h2,h3,h6,h23,-⟩,hkn,hkg,hfr,w1,hp1,hW1,hvk⟩;simp only[sx,sy,SO.run,↓reduceIte,Nat.reduceEqDiff,Nat.reduceAdd,Nat.reduceLeDiff];exact kk _ _ w1 hp1 hW1 hfr (by omega)
theorem SlR.wider{α:Type} [Rp α]{P P':Nat->Prop}{k:Nat}{h:H}{l:List α}{v:AV}(r:SlR P k h l v)(hf:∀i,P i->P' i):SlR P' k h l v:=by obtain⟨w,hw,q⟩:=Rp.mono (P':=P') (h':=h) (show Rp.rp P k h l [v] from ⟨v,rfl,r⟩) (λi hi=>⟨hf i hi,rfl⟩) (Tp _);injection hw with hw;subst hw;exact q
def S.RY(m:Causal):List Int:=List.replicate m.nodes.length (-1)
def S.Sw(m:Causal):Int:=if S.Q_ m then (if S.RG m 1 then 0 else 6) else 330
def S.Rm(m:Causal):Net:=⟨m.grain,m.roots.map S.RU++S.SN m (m.roots.length:Nat) (S.RY m)⟩
def S.SS(m:Causal):Net:=if S.Sw m=0 then S.Rm m else ⟨0,[]⟩
theorem kU{m:Causal}(h:S.Small m):S.Rd m (S.RY m)=true:=by
 simp only[S.Rd,S.RY,TY,decide_true,Up,TC,TK];intro i hi;simp only[S.SM,Uh,TE hi,Tq,Ts,TA];have:=h.card _ (TW hi);refine⟨VW _,?_⟩;have e:S.Rf m i=(m.nodes[i]).card:=by unfold S.Rf;rw[TH,Tn hi];rfl
 rw[e];omega
theorem F6(m:Causal):S.Rs m []=if S.Q_ m then 0 else 330:=by unfold S.Rs;simp
theorem kZ(m:Causal)(f:Int)(l:List Int):(S.SN m f l).length=m.nodes.length:=by simp[S.SN,S.Sg]
theorem P8{d:Nat}{g:G}{v:AV}{m:Causal}(hd:0<d)(hm:Agg m NoP 0 g.h v) :
  ∃r,an C0 d N.R9 [v] g=.val r/\rK (Agg (S.SS m)) (One (S.Sw m)) NoP 0 .nil r:=by
 have e0:=cW d hm;obtain⟨cs,rfl,hc⟩:=hm;obtain⟨a,b,rfl,hR,hN⟩:=aZ.1 hc;have hms:∀h,Agg m NoP 0 h (.agg [.int .i64 m.grain,a,b]):=λh=>⟨_,rfl,Rp.tree hc (Tp _)⟩;rw[BH];refine bg E9 (xs:=[.agg [.int .i64 m.grain,a,b]]) (by simp only[aK,e0]) (by simp[vG]) (cO (m:=2) (bz _) (a9 _) (by decide) (by decide)) (by decide) hd ?_;simp only[vG,sx,sy,SO.run,↓reduceIte,Nat.reduceEqDiff,Nat.reduceAdd];obtain⟨g0,hg0⟩:∃g0,g0=(G.empty.new (We 3 [[AV.int IntKind.i64 m.grain,a,b]])).new (We 2 [[AV.int IntKind.i64 0,AV.nils]]):=⟨_,rfl⟩;rw[<-hg0];have f0:g0.h.get 0=We 3 [[.int .i64 m.grain,a,b]]:=by rw[hg0];simp[sx,Q_]
 have f1:g0.h.get 1=We 2 [[.int .i64 0,.nils]]:=by rw[hg0];simp[sx,Q_]
 have f2:g0.nx=2:=by rw[hg0];simp[sx]
 clear hg0;simp only[wK,sx,sy,SO.run,↓reduceIte,Nat.reduceEqDiff,Nat.reduceAdd,Nat.reduceLeDiff,f0];refine bH (xe (ls:=[]) (P2:=NoP) (k2:=0) (TG d) (TG d) (hms _) ⟨by decide,rfl⟩) λr hr=>?_;obtain⟨ra,rb,rfl,hra,hrb⟩:=hr;have hrb:=aB.1 hrb;injection hrb with hrb;subst hrb;obtain⟨kc,rfl,hkc⟩:=hra;obtain⟨k1,k2,rfl,hk1,hk2⟩:=dF.1 hkc;simp only[sx,sy,SO.run,↓reduceIte,Nat.reduceEqDiff,Nat.reduceAdd,Nat.reduceLeDiff,f2,F6];cases hck:S.Q_ m with
 | false =>
  refine aR (λhb=>?_) (λhb=>by simp at hb);simp only[sx,sy,SO.run,↓reduceIte,Nat.reduceEqDiff,Nat.reduceAdd,Nat.reduceLeDiff,reduceCtorEq,UR,f1,f2,Q_];refine⟨NoP,_,_,rfl,⟨_,rfl,?_⟩,?_⟩
  ·have:S.SS m=⟨0,[]⟩:=by unfold S.SS S.Sw;simp[hck]
   rw[this];exact fO.2 ⟨_,rfl,by decide,rfl⟩
  ·have:S.Sw m=330:=by unfold S.Sw;simp[hck]
   rw[this];exact aB.2 rfl
 | true =>
  obtain⟨hs,hgr,hn1,hro,hno⟩:=ap hck;have hrd:S.Sp m []=⟨m,S.Q8 m⟩:=by unfold S.Sp;rw[F6,hck];rfl
  rw[hrd]at hkc hk1 hk2;simp only[hrd]at *;have hks:∀h,Agg (⟨m,S.Q8 m⟩:KnownM) NoP 0 h (.agg [.int .i64 m.grain,k1,k2,.int .i64 (S.Q8 m)]):=λh=>⟨_,rfl,Rp.tree hkc (Tp _)⟩;have hf1:∀g:G,an C0 (d+1) N.Ri [.agg [.int .i64 m.grain,k1,k2,.int .i64 (S.Q8 m)],.int .i64 1] g=.val (.bool (S.RG m 1)):=λg=>Iv (c:=1) (TG d) (hks _) hck (by decide);simp only[sx,sy,SO.run,↓reduceIte,Nat.reduceEqDiff,Nat.reduceAdd,Nat.reduceLeDiff,decide_true,Um,hf1];cases hfit:S.RG m 1 with
  | false =>
   simp only[sx,sy,SO.run,↓reduceIte,Nat.reduceEqDiff,Nat.reduceAdd,Nat.reduceLeDiff,T9,Q_,f1,f2];refine⟨NoP,_,_,rfl,⟨_,rfl,?_⟩,?_⟩
   ·have:S.SS m=⟨0,[]⟩:=by unfold S.SS S.Sw;simp[hck,hfit]
    rw[this];exact fO.2 ⟨_,rfl,by decide,rfl⟩
   ·have:S.Sw m=6:=by unfold S.Sw;simp[hck,hfit]
    rw[this];exact aB.2 rfl
  | true =>
   simp only[sx,sy,SO.run,↓reduceIte,Nat.reduceEqDiff,Nat.reduceAdd,Nat.reduceLeDiff,Um];refine Gy (hks _) hs.roots (λr hr=>(hs.len r hr).2) λw g1 hw fw=>?_;have n1:=fw.1;have fr1:=fw.2.1;simp only[sx,sy,f2,Nat.reduceAdd]at n1 fr1 hw;have b1:g1.h.get 1=We 2 [[.int .i64 0,.nils]]:=by rw[fr1 1 (by omega),TF (by omega),TF (by omega),f1]
   have b2:g1.h.get 2=We 4 [[.int .i64 m.grain,k1,k2,.int .i64 (S.Q8 m)]]:=by rw[fr1 2 (by omega),TE rfl]
   have p1:¬(1=g1.nx):=by omega
   have p2:¬(2=g1.nx):=by omega
   have hn5:=hs.nodes;have hr8:=hs.roots;simp only[sx,sy,sf,SO.run,↓reduceIte,Nat.reduceEqDiff,Nat.reduceAdd,Nat.reduceLeDiff,b2,p2,Q_,hw.cell.1,hw.cell.2];refine bH (DW (x:=⟨m,S.Q8 m⟩) (TG d) (hks _) (by simpa using hs.nodes)) λrf hrf=>?_;simp only[sx,sy,sf,SO.run,↓reduceIte,Nat.reduceEqDiff,Nat.reduceAdd,Nat.reduceLeDiff];refine GR (x:=⟨m,S.Q8 m⟩) (p:=g1.nx) (b:=4) (w:=w) (al:=S.RY m) (nds:=m.roots.map S.RU) (TG d) (hks _) hck (hrf.sl _) (kU hs) (by simp[Q_]) (by simp<;>omega) (by simp<;>omega)
    (hw.x (by simp<;>omega) (Tp _) λi _ hi=>by simp only[sx,sy];rw[TF (by omega),TF (by omega)]) (by simp<;>omega) λz g2 w' c1 c2 c3 c4=>?_
   simp only[sx,sy]at c1 c3 c4;have d1:g2.h.get 1=We 2 [[.int .i64 0,.nils]]:=by rw[c3 1 (by omega) (by omega),TF p1,TF p1,b1]
   simp only[sx,sy,sf,SO.run,↓reduceIte,Nat.reduceEqDiff,Nat.reduceAdd,Nat.reduceLeDiff,c1,d1,lB,mr,Q_];refine⟨?_,?_⟩
   ·simp only[TM,TS,TL,TJ];exact aI [false,false,false,true] [] (by simp[All2,ae,aw,bf]) (by decide) (by simp)
   ·have hE:S.Sw m=0:=by unfold S.Sw;simp[hck,hfit]
    refine⟨λi=>4<=i,_,_,rfl,⟨_,rfl,?_⟩,?_⟩
    ·rw[S.SS,TE hE];refine fO.2 ⟨w',rfl,?_⟩;have:=c2.sl (by simp[S.RY,kZ];omega);have e:(m.roots.map S.RU).length=m.roots.length:=by simp
     rw[e]at this;exact (this.wider (P':=λi=>4<=i) λi hi=>hi.1).farT λi hi=>by rw[ah _ _ _ (by have:4<=i:=hi;omega)]
    ·rw[hE];exact aB.2 rfl
def S.Se(m:Causal)(al:List Int):Int:=if S.Q_ m then (if S.Rd m al then (if S.RG m 2 then 0 else 6) else 2) else 330
def S.RA(m:Causal)(al:List Int):Net:=⟨m.grain,m.roots.map S.RU++S.SN m (m.roots.length:Nat) (S.RY m)++S.SN m ((m.roots.length+m.nodes.length:Nat)) al⟩
def S.SD(m:Causal)(al:List Int):Net:=if S.Se m al=0 then S.RA m al else ⟨0,[]⟩
theorem F7(m:Causal)(al:List Int):S.Rs m [al]=if S.Q_ m then (if S.Rd m al then 0 else 2) else 330:=by unfold S.Rs;simp
theorem O3{d:Nat}{g:G}{v act:AV}{m:Causal}{al:List Int}(hd:0<d)(hm:Agg m NoP 0 g.h v)(ha:SlR NoP 0 .nil al act) :
  ∃r,an C0 d N.RC [v,act] g=.val r/\rK (Agg (S.SD m al)) (One (S.Se m al)) NoP 0 .nil r:=by
 have e0:=cW d hm;have e1:=qP (h:=g.h) d (ha.tree (h':=g.h) (Tp 0));obtain⟨cs,rfl,hc⟩:=hm;obtain⟨a,b,rfl,hR,hN⟩:=aZ.1 hc;have hms:∀h,Agg m NoP 0 h (.agg [.int .i64 m.grain,a,b]):=λh=>⟨_,rfl,Rp.tree hc (Tp _)⟩;rw[zV];refine bg DG (xs:=[.agg [.int .i64 m.grain,a,b],act]) (by simp only[aK,e0,e1]) (by simp[sU]) (cO (m:=2) (bz _) (a9 _) (by decide) (by decide)) (by decide) hd ?_;simp only[sU,sx,sy,SO.run,↓reduceIte,Nat.reduceEqDiff,Nat.reduceAdd];obtain⟨g0,hg0⟩:∃g0,g0=(G.empty.new (We 3 [[AV.int IntKind.i64 m.grain,a,b]])).new (We 2 [[AV.int IntKind.i64 0,AV.nils]]):=⟨_,rfl⟩;rw[<-hg0];have f0:g0.h.get 0=We 3 [[.int .i64 m.grain,a,b]]:=by rw[hg0];simp[sx,Q_]
 have f1:g0.h.get 1=We 2 [[.int .i64 0,.nils]]:=by rw[hg0];simp[sx,Q_]
 have f2:g0.nx=2:=by rw[hg0];simp[sx]
 clear hg0;simp only[uK,sx,sy,SO.run,↓reduceIte,Nat.reduceEqDiff,Nat.reduceAdd,Nat.reduceLeDiff,f0];rw[mC 1 [.nils] act _ (by rw[ha.cell.1];rfl) ha.cell.2,ha.cell.1];simp only[sx,sy,SO.run,↓reduceIte,Nat.reduceEqDiff,Nat.reduceAdd,Nat.reduceLeDiff,f2];have hls:SlR (λ_=>True) 0 (g0.new (We 1 [[act]])).h [al] (.hsl 2 0 0 1 none):=by have:=Own.new (g:=g0) (b:=0) (Ue _) 1 [[act]];rw[f2]at this;exact Own.sl (α:=List Int) this (by simp) ⟨⟨act,rfl,ha.wide (Tp _)⟩,trivial⟩ λ_ _=>trivial
 refine bH (xe (ls:=[al]) (TG d) (TG d) (hms _) hls) λr hr=>?_;obtain⟨ra,rb,rfl,hra,hrb⟩:=hr;have hrb:=aB.1 hrb;injection hrb with hrb;subst hrb;obtain⟨kc,rfl,hkc⟩:=hra;obtain⟨k1,k2,rfl,hk1,hk2⟩:=dF.1 hkc;simp only[sx,sy,SO.run,↓reduceIte,Nat.reduceEqDiff,Nat.reduceAdd,Nat.reduceLeDiff,f2,F7];cases hck:S.Q_ m with
 | false =>
  refine aR (λhb=>?_) (λhb=>by simp at hb);simp only[sx,sy,SO.run,↓reduceIte,Nat.reduceEqDiff,Nat.reduceAdd,Nat.reduceLeDiff,reduceCtorEq,UR,f1,f2,Q_];refine⟨NoP,_,_,rfl,⟨_,rfl,?_⟩,?_⟩
  ·have:S.SD m al=⟨0,[]⟩:=by unfold S.SD S.Se;simp[hck]
   rw[this];exact fO.2 ⟨_,rfl,by decide,rfl⟩
  ·have:S.Se m al=330:=by unfold S.Se;simp[hck]
   rw[this];exact aB.2 rfl
 | true =>
  cases hac:S.Rd m al with
  | false =>
   refine aR (λhb=>?_) (λhb=>by simp at hb);simp only[sx,sy,SO.run,↓reduceIte,Nat.reduceEqDiff,Nat.reduceAdd,Nat.reduceLeDiff,reduceCtorEq,UR,f1,f2,Q_];refine⟨NoP,_,_,rfl,⟨_,rfl,?_⟩,?_⟩
   ·have:S.SD m al=⟨0,[]⟩:=by unfold S.SD S.Se;simp[hck,hac]
    rw[this];exact fO.2 ⟨_,rfl,by decide,rfl⟩
   ·have:S.Se m al=2:=by unfold S.Se;simp[hck,hac]
    rw[this];exact aB.2 rfl
  |true =>
  obtain⟨hs,hgr,hn1,hro,hno⟩:=ap hck;have hrd:S.Sp m [al]=⟨m,S.Q8 m⟩:=by unfold S.Sp;rw[F7,hck,hac];rfl
  rw[hrd]at hkc hk1 hk2;simp only[hrd]at *;have hks:∀h,Agg (⟨m,S.Q8 m⟩:KnownM) NoP 0 h (.agg [.int .i64 m.grain,k1,k2,.int .i64 (S.Q8 m)]):=λh=>⟨_,rfl,Rp.tree hkc (Tp _)⟩;have hf1:∀g:G,an C0 (d+1) N.Ri [.agg [.int .i64 m.grain,k1,k2,.int .i64 (S.Q8 m)],   .int .i64 2] g=.val (.bool (S.RG m 2)):=λg=>Iv (c:=2) (TG d) (hks _) hck (by decide);simp only[sx,sy,SO.run,↓reduceIte,Nat.reduceEqDiff,Nat.reduceAdd,Nat.reduceLeDiff,decide_true,Um,hf1];cases hfit:S.RG m 2 with
  | false =>
   simp only[sx,sy,SO.run,↓reduceIte,Nat.reduceEqDiff,Nat.reduceAdd,Nat.reduceLeDiff,T9,Q_,f1,f2];refine⟨NoP,_,_,rfl,⟨_,rfl,?_⟩,?_⟩
   ·have:S.SD m al=⟨0,[]⟩:=by unfold S.SD S.Se;simp[hck,hac,hfit]
    rw[this];exact fO.2 ⟨_,rfl,by decide,rfl⟩
   ·have:S.Se m al=6:=by unfold S.Se;simp[hck,hac,hfit]
    rw[this];exact aB.2 rfl
  | true =>
   simp only[sx,sy,SO.run,↓reduceIte,Nat.reduceEqDiff,Nat.reduceAdd,Nat.reduceLeDiff,Um];refine Gy (hks _) hs.roots (λr hr=>(hs.len r hr).2) λw g1 hw fw=>?_;have n1:=fw.1;have fr1:=fw.2.1;simp only[sx,sy,f2,Nat.reduceAdd]at n1 fr1 hw;have b1:g1.h.get 1=We 2 [[.int .i64 0,.nils]]:=by rw[fr1 1 (by omega),TF (by omega),TF (by omega),TF (by omega),f1]
   have b2:g1.h.get 3=We 4 [[.int .i64 m.grain,k1,k2,.int .i64 (S.Q8 m)]]:=by rw[fr1 3 (by omega),TE rfl]
   have p1:¬(1=g1.nx):=by omega
   have p2:¬(3=g1.nx):=by omega
   have hn5:=hs.nodes;have hr8:=hs.roots;simp only[sx,sy,sf,SO.run,↓reduceIte,Nat.reduceEqDiff,Nat.reduceAdd,Nat.reduceLeDiff,b2,p2,Q_,hw.cell.1,hw.cell.2];refine bH (DW (x:=⟨m,S.Q8 m⟩) (TG d) (hks _) (by simpa using hs.nodes)) λrf hrf=>?_;simp only[sx,sy,sf,SO.run,↓reduceIte,Nat.reduceEqDiff,Nat.reduceAdd,Nat.reduceLeDiff];refine GR (x:=⟨m,S.Q8 m⟩) (p:=g1.nx) (b:=5) (w:=w) (al:=S.RY m) (nds:=m.roots.map S.RU) (TG d) (hks _) hck (hrf.sl _) (kU hs) (by simp[Q_]) (by simp<;>omega) (by simp<;>omega)
    (hw.x (by simp<;>omega) (Tp _) λi _ hi=>by simp only[sx,sy];rw[TF (by omega),TF (by omega)]) (by simp<;>omega) λz g2 w' c1 c2 c3 c4=>?_
   simp only[sx,sy]at c1 c3 c4;have d1:g2.h.get 1=We 2 [[.int .i64 0,.nils]]:=by rw[c3 1 (by omega) (by omega),TF p1,TF p1,b1]
   have d3:g2.h.get 3=We 4 [[.int .i64 m.grain,k1,k2,.int .i64 (S.Q8 m)]]:=by rw[c3 3 (by omega) (by omega),TF p2,TF p2,b2]
   simp only[sx,sy,sf,SO.run,↓reduceIte,Nat.reduceEqDiff,Nat.reduceAdd,Nat.reduceLeDiff,c1,d1,d3,lB,mr,Q_];refine⟨?_,?_⟩
   ·simp only[TM,TS,TL,TJ];exact aI [false,false,false,true] [] (by simp[All2,ae,aw,bf]) (by decide) (by simp)
   ·refine GR (x:=⟨m,S.Q8 m⟩) (p:=g1.nx) (b:=5) (w:=w') (al:=al) (nds:=m.roots.map S.RU++S.SN m (m.roots.map S.RU).length (S.RY m)) (TG d) (hks _) hck ha hac (by simpa using c1) (by simp;omega) (by simp;omega)
     (c2.fr (by simp) λi _ _ _=>by simp) (by simp[kZ];omega) λz g3 w'' c1 c2 c3 c4=>?_
    simp only[sx,sy]at c1 c3 c4;have d1:g3.h.get 1=We 2 [[.int .i64 0,.nils]]:=by rw[c3 1 (by omega) (by omega),d1]
    simp only[sx,sy,sf,SO.run,↓reduceIte,Nat.reduceEqDiff,Nat.reduceAdd,Nat.reduceLeDiff,c1,d1];have hE:S.Se m al=0:=by unfold S.Se;simp[hck,hac,hfit]
    refine⟨λi=>5<=i,_,_,rfl,⟨_,rfl,?_⟩,?_⟩
    ·rw[S.SD,TE hE];refine fO.2 ⟨w'',rfl,?_⟩;have:=c2.sl (by simp[kZ];omega);have e:(m.roots.map S.RU).length=m.roots.length:=by simp
     rw[TP,e,kZ]at this;exact (this.wider (P':=λi=>5<=i) λi hi=>hi.1).farT λi hi=>by rw[ah _ _ _ (by have:5<=i:=hi;omega)]
    ·rw[hE];exact aB.2 rfl
theorem zA:∀{a b:List Int} (F:List Int->Int),S.Rz (a++b) F=S.Rz a λu=>S.Rz b λv=>F (u++v)
 |[],_,_=>rfl
 | c::a,b,F=>by rw[TJ,S.Rz,S.Rz];exact lJ λi _=>zA _
theorem Jn{F:Nat->Int}:∀{k:Nat},(∀i,i<k->F i=0)->S.sm F k=0
 |0,_=>rfl
 |k+1,h=>by rw[S.sm,Jn λi hi=>h i (by omega),h k (by omega)];rfl
theorem C7{F:Nat->Int}{a:Nat}:∀{k:Nat},a<k->(∀i,i<k->i≠a->F i=0)->S.sm F k=F a
 |0,h,_=>absurd h (V1 _)
 | k+1,h,hz=>by
  rw[S.sm]
  by_cases e:a=k
  ·subst e;rw[Jn λi hi=>hz i (by omega) (by omega)];omega
  ·rw[C7 (k:=k) (by omega) λi hi=>hz i (by omega),hz k (by omega) (by omega)];omega
theorem O2{cs:List Int}{F:List Int->Int}(h:∀x,InC cs x->F x=0):S.Rz cs F=0:=by rw[eX (G:=λ_=>0) h,GE]
theorem Bo:∀{cs x0:List Int} {F:List Int->Int},InC cs x0->(∀x,InC cs x->x≠x0->F x=0)->S.Rz cs F=F x0
 |[],[],_,_,_=>rfl
 | c::cs,v::vs,F,h,hz=>by
  have hv:=h.1;have e:((v.toNat:Nat):Int)=v:=U2 hv.1;have hv1:0<=v:=hv.1;have hv2:v<c:=hv.2;have hz':∀i,i<c.toNat->i≠v.toNat->S.Rz cs (λy=>F ((i:Int)::y))=0:=λi hi hne=>O2 λx hx=>by refine hz ((i:Int)::x) ⟨⟨by omega,by omega⟩,hx⟩ λhe=>?_;injection he with h1 h2;omega
  rw[S.Rz,C7 (a:=v.toNat) (by omega) hz',e];refine Bo h.2 λx hx hne=>hz (v::x) ⟨hv,hx⟩ λhe=>hne ?_;injection he
def S.rw(m:Causal)(r:List Int):Int:=S.Q5 ((List.range m.roots.length).map λi=>(m.roots[i]?.getD [])[(r[i]?.getD 0).toNat]?.getD 0)
theorem K7(m:Causal)(h:Int):S.R1 m h=S.rw m (S.Rb (S.Ra m) h):=by
 unfold S.R1 S.rw;congr 1;refine Ul λi hi=>?_;have hl:i<(S.Ra m).length:=by rw[bS];exact TK.1 hi
 have e:(S.Rb (S.Ra m) h)[i]?=some (S.Sa (S.Ra m) h i):=by simp[S.Rb,hl]
 rw[S.Sx,e];rfl
theorem Jr(m:Causal)(p:Nat->Bool):∀k,S.Ri m p k=S.sm (λj=>if p j then S.R1 m (j:Int) else 0) k
 |0=>rfl
 |k+1=>by rw[S.Ri,S.sm,Jr m p k]
theorem Bl{m:Causal}(hck:S.Q_ m=true)(P:List Int->Bool):S.Ri m (λj=>P (S.Rb (S.Ra m) (j:Int))) (S.Q8 m).toNat=S.Rz (S.Ra m) λr=>if P r then S.rw m r else 0:=by have hs:=(ap hck).1;have:=v8 (cs:=S.Ra m) (pre:=[]) (pv:=[]) (λr=>if P r then S.rw m r else 0) (λc hc=>(h_ hs c (by simpa using hc)).1) trivial;simp only[TL,S.Q9,VX,Wb]at this;rw[Jr,<-this];exact lJ λj _=>by rw[K7]
structure Cop (n:Net) (m:Causal) (first:Nat) (act:List Int):Prop where
 gr:n.grain=m.grain
 root:∀(i:Nat) (w:List Int),m.roots[i]?=some w->n.nodes[i]?=some (S.RU w)
 node:∀i,i<m.nodes.length->n.nodes[first+i]?=some (S.R9 m (first:Int) act i)
def S.S5(m:Causal)(r act x:List Int)(i:Nat):Int:=match m.nodes[i]? with
 |some y=>if x[i]?.getD 0=S.SH m r act (λj=>x[j]?.getD 0) i y then m.grain else 0
 |none=>1
theorem yO(gr:Int)(card ab be:Nat)(out:List Int)(j:Nat):S.RF gr card ab be out (j+1)=S.RF gr card ab be out j++(List.range ab).map λi=>S.Ry gr card (out[i*be+j]?.getD 0).toNat:=by simp[S.RF,Uw]
theorem nO(gr:Int)(card ab be:Nat)(out:List Int):∀j,(S.RF gr card ab be out j).length=j*ab
 |0=>by simp[S.RF]
 |j+1=>by rw[yO,TP,nO,Tz,Vp,T_,UC]
theorem Ba{gr:Int}{card ab be:Nat}{out:List Int}{i:Nat}(hi:i<ab):∀{k j:Nat},j<k->(S.RF gr card ab be out k)[j*ab+i]?=some (S.Ry gr card (out[i*be+j]?.getD 0).toNat)
 |0,j,h=>absurd h (V1 _)
 | k+1,j,h=>by
  rw[yO]
  by_cases e:j=k
  ·subst e;rw[TB (by rw[nO];omega),nO,Ua];simp[hi]
  ·have:j*ab+i<k*ab:=by have h1:(j+1)*ab<=k*ab:=TT _ (by omega);rw[T_,UC]at h1;omega
   rw[TD (by rw[nO];exact this)];exact Ba hi (by omega)
theorem Jb{gr:Int}{card a b:Nat}(hb:b<card)(ha:a<card):(S.Ry gr card a)[b]?.getD 0=if b=a then gr else 0:=by
 unfold S.Ry
 by_cases e:b=a
 ·subst e;rw[Ux (by simpa using hb),TE rfl];rfl
 ·rw[U0 (UP e),TF e,Uh,TE hb];rfl
theorem CJ:∀{a va b vb:List Int},a.length=va.length->InC (a++b) (va++vb)->InC a va/\InC b vb
 |[],[],_,_,_,h=>⟨trivial,h⟩
 |[],_::_,_,_,e,_=>by simp at e
 |_::_,[],_,_,e,_=>by simp at e
 | _::_,_::_,_,_,e,h=>by obtain⟨p,q⟩:=CJ (by simpa using e) h.2;exact⟨⟨h.1,p⟩,q⟩
section
variable {n:Net}{m:Causal}{first:Nat}{act r x vals:List Int}
theorem yy{f:Int}{i:Nat}{y:Mech}(hy:m.nodes[i]?=some y):(S.R9 m f act i).card=y.card:=by
 unfold S.R9 S.S3;rw[hy,Tq]
 split<;>rfl
theorem sw(h:Cop n m first act){i:Nat}{w:List Int}(hw:m.roots[i]?=some w):(S.Q6 n)[i]?=some (w.length:Int):=by rw[S.Q6,Tt,h.root i w hw];rfl
theorem kY(h:Cop n m first act){i:Nat}{y:Mech}(hy:m.nodes[i]?=some y):(S.Q6 n)[first+i]?=some y.card:=by rw[S.Q6,Tt,h.node i (Tu.1 hy).1,TQ,yy hy]
theorem Fb(h:Cop n m first act){i:Nat}{w:List Int}(hw:m.roots[i]?=some w)(hv:vals[i]?.getD 0=r[i]?.getD 0):S.RO n vals i=w[(r[i]?.getD 0).toNat]?.getD 0:=by unfold S.RO;rw[h.root i w hw];simp[S.RU,S.Q7,S.Q9,hv]
theorem FX(h:Cop n m first act){l:List Int}(hl:∀p∈l,0<=p/\p<m.roots.length):S.Q7 (S.Q6 n) l=l.map (S.RS m):=by
 refine Ul λp hp=>?_;have:=hl p hp;have hlt:p.toNat<m.roots.length:=by omega
 rw[sw h (Tn hlt),S.RS,Tn hlt];rfl
theorem M2(h:Cop n m first act){l:List Int}(hl:∀p∈l,0<=p/\p<m.nodes.length):S.Q7 (S.Q6 n) (l.map ((first:Int)+·))=l.map (S.Rf m):=by
 rw[S.Q7,List.map_map];refine Ul λp hp=>?_;have:=hl p hp;have hlt:p.toNat<m.nodes.length:=by omega
 have e:((first:Int)+p).toNat=first+p.toNat:=by omega
 rw[V3,e,kY h (Tn hlt),S.Rf,Tn hlt];rfl
theorem P_{l:List Int}(vx:∀i,i<m.nodes.length->vals[first+i]?.getD 0=x[i]?.getD 0)(hl:∀p∈l,0<=p/\p<m.nodes.length):S.Q7 vals (l.map ((first:Int)+·))=l.map λq=>x[q.toNat]?.getD 0:=by
 rw[S.Q7,List.map_map];refine Ul λp hp=>?_;have:=hl p hp;have e:((first:Int)+p).toNat=first+p.toNat:=by omega
 rw[V3,e,vx _ (by omega)]
theorem M9{l:List Int}(vr:∀i,i<m.roots.length->vals[i]?.getD 0=r[i]?.getD 0)(hl:∀p∈l,0<=p/\p<m.roots.length):S.Q7 vals l=l.map λq=>r[q.toNat]?.getD 0:=by refine Ul λp hp=>?_;have:=hl p hp;rw[vr _ (by omega)]
theorem JA(hx:InC (m.nodes.map (·.card)) x){i:Nat}{y:Mech}(hy:m.nodes[i]?=some y):0<=x[i]?.getD 0/\x[i]?.getD 0<y.card:=by obtain⟨v,h1,h2,h3⟩:=hx.get (c:=y.card) (i:=i) (by simp[hy]);rw[h1];exact⟨h2,h3⟩
theorem An(h:Cop n m first act)(hck:S.Q_ m=true)(hact:S.Rd m act=true)(hr:InC (S.Ra m) r)(hx:InC (m.nodes.map (·.card)) x)
  (vr:∀i,i<m.roots.length->vals[i]?.getD 0=r[i]?.getD 0) (vx:∀i,i<m.nodes.length->vals[first+i]?.getD 0=x[i]?.getD 0) {i:Nat} (hi:i<m.nodes.length):S.RO n vals (first+i)=S.S5 m r act x i:=by
 have hs:=(ap hck).1;obtain⟨y,hy⟩:∃y,m.nodes[i]?=some y:=⟨_,Tn hi⟩;have hym:=Tv hy;have hb:=JA hx hy;have hcd:=hs.card y hym;obtain⟨p1,p2,p3,p4⟩:=cK hck hym;have p1:=aE p1;have p2:=aE p2;obtain⟨xi,hxi⟩:=Ty hb.1;obtain⟨c,hc⟩:=Ty (show 0<=y.card by omega);unfold S.RO S.S5;rw[h.node i hi,hy];dsimp only;rw[vx i hi,S.R9,hy,Tq,S.S3,S.SH]
 by_cases ha:0<=act[i]?.getD 0
 ·have hal:=((jP hact).2 i y hy).2;obtain⟨a,hae⟩:=Ty ha;rw[TE ha,TE ha];simp only[S.Q7,Uv,S.Q9,Int.toNat_zero,List.getElem?_cons_zero,Tq];rw[hxi,hae,hc,TH,TH,TH,Jb (by omega) (by omega)]
  by_cases e:xi=a
  ·rw[TE e,TE (by rw[e])]
  ·rw[TF e,TF (by omega)]
 ·rw[TF ha,TF ha];dsimp only;have hin:=mS hck hr (V:=λj=>x[j]?.getD 0) hym λq hq=>by
   have h1:=p1 q hq;have hlt:q.toNat<m.nodes.length:=by omega
   have:=JA hx (Tn hlt);rw[S.Rf,Tn hlt];exact this
  obtain⟨b1,b2⟩:=cA hck hym;have hout:=p3;rw[S.Rh,iP]at hout;obtain⟨i1,i2⟩:=CJ (by simp) hin;have k1:=bY (λc hc=>b1 c (by rw[S.Rh];exact VM _ hc)) i1;have k2:=bY (λc hc=>b1 c (by rw[S.Rh];exact VF _ hc)) i2;rw[bU,bU,FX h p2,M2 h p1,M9 vr p2,P_ vx p1,mF _ _ (by simp),S.RC,S.Rh,mF _ _ (by simp)];rw[<-S.RM]at k1 hout ⊢;rw[<-S.RJ]at k2 hout ⊢;generalize S.Q9 (y.frm.map (S.Rf m)) (y.frm.map λq=>x[q.toNat]?.getD 0)=I at k1 ⊢;generalize S.Q9 (y.noise.map (S.RS m)) (y.noise.map λq=>r[q.toNat]?.getD 0)=J at k2 ⊢;obtain⟨I',rfl⟩:=Ty k1.1;obtain⟨J',rfl⟩:=Ty k2.1;obtain⟨ab,hab⟩:=Ty (show 0<=S.RM m y by omega);obtain⟨be,hbe⟩:=Ty (show 0<=S.RJ m y by omega);rw[hab]at k1 hout ⊢;rw[hbe]at k2 hout ⊢;have e1:((J':Int)*(ab:Int)+(I':Int)).toNat=J'*ab+I':=by rw[<-Ut,<-Vq,TH]
  have e2:((I':Int)*(be:Int)+(J':Int)).toNat=I'*be+J':=by rw[<-Ut,<-Vq,TH]
  have hIl:I'*be+J'<y.out.length:=by have h1:(I'+1)*be<=ab*be:=TT _ (by omega);rw[T_,UC]at h1;rw[<-Ut]at hout;omega
  have ho:=p4 _ (TW hIl);obtain⟨o,hoe⟩:=Ty ho.1;rw[e1,e2,TH,TH,Ba (by omega) (by omega),Tq,Tn hIl,Tq,hoe,hxi,hc,TH,TH,TH,Jb (by omega) (by omega)]
  by_cases e:xi=o
  ·rw[TE e,TE (by rw[e])]
  ·rw[TF e,TF (by omega)]
end
end
end Hx
end
section
namespace Hx
open Go
noncomputable section
theorem t_(f:Nat->Int)(a:Nat):∀b:Nat,S.Q5 ((List.range (a+b)).map f)=S.Q5 ((List.range a).map f)*S.Q5 ((List.range b).map λi=>f (a+i))
 |0=>by simp[S.Q5]
 | b+1=>by rw[<-Vd,Uw,Ub,UA,cU,t_ f a b,Uw,Ub,UA,cU,UK]
theorem CY:∀{l:List Int},(0:Int)∈l->S.Q5 l=0
 | a::l,h=>by
  rw[bu];rcases T3.1 h with h|h
  ·rw[<-h,VX]
  ·rw[CY h,Int.mul_zero]
def S.Sb(m:Causal)(r act x:List Int):Int:=S.Q5 ((List.range m.nodes.length).map (S.S5 m r act x))
def S.gp(m:Causal):Int:=S.Q5 (List.replicate m.nodes.length m.grain)
section
variable {m:Causal}{act r x:List Int}
theorem Jf(m:Causal)(r act:List Int){i:Nat}(hi:i<m.nodes.length):(S.Rg m r act)[i]?.getD 0=S.V m r act i:=by simp[S.Rg,hi]
theorem Oh(hck:S.Q_ m=true):S.Sb m r act (S.Rg m r act)=S.gp m:=by unfold S.Sb S.gp;congr 1;refine Uz (by simp) λi h1 h2=>?_;simp only[Tz,Vp]at h1;have hy:m.nodes[i]?=some m.nodes[i]:=Tn h1;rw[UN,U1,List.getElem_replicate,S.S5,hy];dsimp only;rw[TE];rw[Jf m r act h1,Jp hck r act i _ hy];refine mO λq hq=>?_;have:=aE (cK hck (Tv hy)).1 q hq;rw[Jf m r act (by omega)]
theorem PV(hck:S.Q_ m=true)(hx:InC (m.nodes.map (·.card)) x)(hne:x≠S.Rg m r act):S.Sb m r act x=0:=by
 by_cases hz:(0:Int)∈(List.range m.nodes.length).map (S.S5 m r act x)
 ·exact CY hz
 ·refine absurd ?_ hne;have hl:x.length=m.nodes.length:=by rw[hx.len];simp
  have hS:Sol m r act λj=>x[j]?.getD 0:=λi y hy=>by have hi:=(Tu.1 hy).1;refine Decidable.byContradiction λhc=>hz ?_;refine T4.2 ⟨i,TK.2 hi,?_⟩;rw[S.S5,hy];dsimp only;rw[TF hc]
  refine Uz (by rw[hl];simp[S.Rg]) λi h1 h2=>?_;have:=HW hck hS (Jp hck r act) i (by omega);rw[Tn h1]at this;simpa [S.Rg] using this
theorem Bn(hck:S.Q_ m=true)(hr:InC (S.Ra m) r)(hact:S.Rd m act=true)(F:List Int->Int):S.Rz (m.nodes.map (·.card)) (λx=>F x*S.Sb m r act x)=F (S.Rg m r act)*S.gp m:=by rw[Bo (x0:=S.Rg m r act) (Eg hck hr hact) λx hx hne=>by rw[PV hck hx hne,Int.mul_zero],Oh hck]
end
theorem qd(m:Causal):(S.Rm m).nodes.length=m.roots.length+m.nodes.length:=by simp[S.Rm,kZ]
theorem z7(m:Causal)(f:Int)(act:List Int){i:Nat}(hi:i<m.nodes.length):(S.SN m f act)[i]?=some (S.R9 m f act i):=by simp[S.SN,S.Sg,hi]
theorem iO(m:Causal):Cop (S.Rm m) m m.roots.length (S.RY m) where
 gr:=rfl
 root i w hw:=by have hi:=(Tu.1 hw).1;rw[S.Rm,TD (by simpa using hi),Tt,hw];rfl
 node i hi:=by rw[S.Rm,TB (by simp),Tz,Ua,z7 _ _ _ hi]
theorem v_(m:Causal)(al:List Int):(S.RA m al).nodes.length=m.roots.length+m.nodes.length+m.nodes.length:=by simp[S.RA,kZ];omega
theorem fR(m:Causal)(al:List Int):Cop (S.RA m al) m m.roots.length (S.RY m) where
 gr:=rfl
 root i w hw:=by have hi:=(Tu.1 hw).1;rw[S.RA,TD (by simp;omega),TD (by simpa using hi),Tt,hw];rfl
 node i hi:=by rw[S.RA,TD (by simp[kZ];omega),TB (by simp),Tz,Ua,z7 _ _ _ hi]
theorem oH(m:Causal)(al:List Int):Cop (S.RA m al) m (m.roots.length+m.nodes.length) al where
 gr:=rfl
 root i w hw:=by have hi:=(Tu.1 hw).1;rw[S.RA,TD (by simp;omega),TD (by simpa using hi),Tt,hw];rfl
 node i hi:=by
  have hl:(m.roots.map S.RU++S.SN m ((m.roots.length:Nat):Int) (S.RY m)).length=m.roots.length+m.nodes.length:=by simp[kZ]
  rw[S.RA,TB (by rw[hl];omega),hl,Ua,z7 _ _ _ hi]
theorem yH(m:Causal):S.Q6 (S.Rm m)=S.Ra m++m.nodes.map (·.card):=by
 refine List.ext_getElem? λi=>?_
 by_cases h1:i<m.roots.length
 ·rw[sw (iO m) (Tn h1),TD (by rw[bS];exact h1),S.Ra,Tt,Tn h1];rfl
 ·by_cases h2:i<m.roots.length+m.nodes.length
  ·obtain⟨j,rfl⟩:∃j,i=m.roots.length+j:=⟨i - m.roots.length,by omega⟩;rw[kY (iO m) (Tn (show j<m.nodes.length by omega)),TB (by rw[bS];omega),bS,Ua,Tt,Tn (show j<m.nodes.length by omega)];rfl
  ·rw[UW (by rw[S.Q6,Tz,qd];omega),UW (by rw[TP,bS,Tz];omega)]
theorem mL(m:Causal)(al:List Int):S.Q6 (S.RA m al)=S.Ra m++(m.nodes.map (·.card)++m.nodes.map (·.card)):=by
 refine List.ext_getElem? λi=>?_
 by_cases h1:i<m.roots.length
 ·rw[sw (fR m al) (Tn h1),TD (by rw[bS];exact h1),S.Ra,Tt,Tn h1];rfl
 ·by_cases h2:i<m.roots.length+m.nodes.length
  ·obtain⟨j,rfl⟩:∃j,i=m.roots.length+j:=⟨i - m.roots.length,by omega⟩;rw[kY (fR m al) (Tn (show j<m.nodes.length by omega)),TB (by rw[bS];omega),bS,Ua,
    TD (by rw[Tz];omega),Tt,Tn (show j<m.nodes.length by omega)];rfl
  ·by_cases h3:i<m.roots.length+m.nodes.length+m.nodes.length
   ·obtain⟨j,rfl⟩:∃j,i=m.roots.length+m.nodes.length+j:=⟨i - m.roots.length - m.nodes.length,by omega⟩;rw[kY (oH m al) (Tn (show j<m.nodes.length by omega)),TB (by rw[bS];omega),bS,TB (by rw[Tz];omega),Tz,
     show m.roots.length+m.nodes.length+j - m.roots.length - m.nodes.length=j by omega,Tt,Tn (show j<m.nodes.length by omega)];rfl
   ·rw[UW (by rw[S.Q6,Tz,v_];omega),UW (by rw[TP,TP,bS,Tz];omega)]
section
variable {m:Causal}{act al r x y:List Int}
theorem D8(hck:S.Q_ m=true)(hr:InC (S.Ra m) r)(hx:InC (m.nodes.map (·.card)) x):S.RL (S.Rm m) (r++x)=S.rw m r*S.Sb m r (S.RY m) x:=by
 have hrl:r.length=m.roots.length:=by rw[hr.len,bS]
 have hs:=(ap hck).1;have vr:∀i,i<m.roots.length->(r++x)[i]?.getD 0=r[i]?.getD 0:=λi hi=>by rw[TD (by omega)]
 have vx:∀i,i<m.nodes.length->(r++x)[m.roots.length+i]?.getD 0=x[i]?.getD 0:=λi hi=>by rw[TB (by omega),hrl,Ua]
 rw[S.RL,qd,t_,S.rw,S.Sb];congr 2
 ·refine Ul λi hi=>?_;have hi:=TK.1 hi;rw[Fb (iO m) (Tn hi) (vr i hi),Tn hi];rfl
 ·exact Ul λi hi=>An (iO m) hck (kU hs) hr hx vr vx (TK.1 hi)
theorem Cd(hck:S.Q_ m=true)(ha:S.Rd m al=true)(hr:InC (S.Ra m) r)(hx:InC (m.nodes.map (·.card)) x)(hy:InC (m.nodes.map (·.card)) y) :
  S.RL (S.RA m al) (r++(x++y))=S.rw m r*(S.Sb m r (S.RY m) x*S.Sb m r al y):=by
 have hrl:r.length=m.roots.length:=by rw[hr.len,bS]
 have hxl:x.length=m.nodes.length:=by rw[hx.len,Tz]
 have hs:=(ap hck).1;have vr:∀i,i<m.roots.length->(r++(x++y))[i]?.getD 0=r[i]?.getD 0:=λi hi=>by rw[TD (by omega)]
 have vx:∀i,i<m.nodes.length->(r++(x++y))[m.roots.length+i]?.getD 0=x[i]?.getD 0:=λi hi=>by rw[TB (by omega),hrl,Ua,TD (by omega)]
 have vy:∀i,i<m.nodes.length->(r++(x++y))[m.roots.length+m.nodes.length+i]?.getD 0=y[i]?.getD 0:=λi hi=>by rw[TB (by omega),hrl,TB (by omega),hxl,show m.roots.length+m.nodes.length+i - m.roots.length - m.nodes.length=i by omega]
 rw[S.RL,v_,t_,t_,S.rw,S.Sb,S.Sb,UK];congr 2
 ·refine Ul λi hi=>?_;have hi:=TK.1 hi;rw[Fb (fR m al) (Tn hi) (vr i hi),Tn hi];rfl
 ·exact congrArg S.Q5 (Ul λi hi=>An (fR m al) hck (kU hs) hr hx vr vx (TK.1 hi))
 ·exact congrArg S.Q5 (Ul λi hi=>An (oH m al) hck ha hr hy vr vy (TK.1 hi))
theorem Fz(p:Bool)(a b:Int):(if p then a*b else 0)=(if p then a else 0)*b:=by cases p<;>simp
theorem Kr(hck:S.Q_ m=true)(P:List Int->Bool):S.Rz (S.Q6 (S.Rm m)) (λv=>if P v then S.RL (S.Rm m) v else 0) =
  S.gp m*S.Rz (S.Ra m) λr=>if P (r++S.Rg m r (S.RY m)) then S.rw m r else 0:=by
 have hs:=(ap hck).1;rw[yH,zA,<-Eu];refine eX λr hr=>?_;rw[eX (G:=λx=>(if P (r++x) then S.rw m r else 0)*S.Sb m r (S.RY m) x) λx hx=>by rw[D8 hck hr hx,Fz],Bn hck hr (kU hs) λx=>if P (r++x) then S.rw m r else 0,VK]
theorem Bp(hck:S.Q_ m=true)(ha:S.Rd m al=true)(P:List Int->Bool):S.Rz (S.Q6 (S.RA m al)) (λv=>if P v then S.RL (S.RA m al) v else 0) =
  S.gp m*S.gp m*S.Rz (S.Ra m) λr=>if P (r++(S.Rg m r (S.RY m)++S.Rg m r al)) then S.rw m r else 0:=by
 have hs:=(ap hck).1;rw[mL,zA,<-Eu];refine eX λr hr=>?_;rw[zA];rw[eX (G:=λx=>((if P (r++(x++S.Rg m r al)) then S.rw m r else 0)*S.gp m)*S.Sb m r (S.RY m) x) λx hx=>?_,Bn hck hr (kU hs) λx=>(if P (r++(x++S.Rg m r al)) then S.rw m r else 0)*S.gp m]
 ·ac_rfl
 ·rw[eX (G:=λy=>((if P (r++(x++y)) then S.rw m r else 0)*S.Sb m r (S.RY m) x)*S.Sb m r al y) λy hy=>by rw[Cd hck ha hr hx hy,Fz,UK],
   Bn hck hr ha λy=>(if P (r++(x++y)) then S.rw m r else 0)*S.Sb m r (S.RY m) x]
  rw[UK,VK (S.Sb _ _ _ _),<-UK]
end
end
end Hx
end
section
namespace Hx
open Go
noncomputable section
theorem GP{p:List Nat}{rk:Nat->Nat}(hl:p.length<=64)(hr:∀u v,v<p.length->(Par p v).testBit u=true->u<p.length/\rk u<rk v):S.Sk p=true:=by
 have key:∀R,∃q,Bw p q/\∀v,v<p.length->rk v<R->q.testBit v=true:=by
  intro R
  induction R with
  |zero=>exact⟨0,CH,λv _ h=>absurd h (V1 _)⟩
  | succ R ih =>
   obtain⟨q,hg,hq⟩:=ih;have:∀j,j<=p.length->∃q',Bw p q'/\(∀v,q.testBit v=true->q'.testBit v=true)/\∀v,v<j->rk v<R+1->q'.testBit v=true:=by
    intro j
    induction j with
    |zero=>intro _;exact⟨q,hg,λ_ h=>h,λv h=>absurd h (V1 _)⟩
    | succ j ihj =>
     intro hj;obtain⟨q',a,b,c⟩:=ihj (by omega)
     by_cases h:rk j<R+1
     ·refine⟨q' ||| S.RN j,Fq a (by omega) ?_,?_,?_⟩
      ·intro u hu;obtain⟨h1,h2⟩:=hr u j (by omega) hu;exact b u (hq u h1 (by omega))
      ·intro v hv;rw[gR,b v hv];rfl
      ·intro v hv hr';rw[gR,mV (by omega)]
       by_cases e:v=j
       ·subst e;simp
       ·rw[c v (by omega) hr'];rfl
     ·refine⟨q',a,b,λv hv hr'=>c v ?_ hr'⟩;rcases VN v j with h1|h1
      ·exact h1
      ·obtain rfl:v=j:=by omega
       exact absurd hr' h
   obtain⟨q',a,-,c⟩:=this p.length (Tp _);exact⟨q',a,c⟩
 have hB:∀k:Nat,∃R,∀v,v<k->rk v<R:=λk=>by
  induction k with
  |zero=>exact⟨0,λv h=>absurd h (V1 _)⟩
  | succ k ih =>
   obtain⟨R,h⟩:=ih;refine⟨R+rk k+1,λv hv=>?_⟩
   by_cases e:v=k
   ·subst e;omega
   ·have:=h v (by omega);omega
 obtain⟨R,hR⟩:=hB p.length;obtain⟨q,hg,hq⟩:=key R;exact wg hg λv hv=>hq v hv (hR v hv)
theorem HF{a b:List Int}{f n:Nat}{N:Int}(ha:S.Rc a f=true)(hb:S.Rc b n=true){s:Nat}(hs:f<=s)(hN:(s:Int)+n<=N):S.Rc (a++b.map ((s:Int)+·)) N=true:=by
 refine TC.2 λi hi=>?_;have hi:=TK.1 hi;rw[TP,Tz]at hi;have A:∀j,j<a.length->0<=a[j]?.getD 0/\a[j]?.getD 0<f:=λj hj=>by rw[Tn hj];exact bZ ha _ (TW hj)
 have B:∀j,j<b.length->0<=b[j]?.getD 0/\b[j]?.getD 0<n:=λj hj=>by rw[Tn hj];exact bZ hb _ (TW hj)
 have eA:∀j,j<a.length->(a++b.map ((s:Int)+·))[j]?.getD 0=a[j]?.getD 0:=λj hj=>by rw[TD hj]
 have eB:∀j,j<b.length->(a++b.map ((s:Int)+·))[a.length+j]?.getD 0=(s:Int)+b[j]?.getD 0:=λj hj=>by rw[TB (by omega),Ua,Tt,Tn hj];rfl
 unfold S.RP
 by_cases h:i<a.length
 ·have h1:=A i h;rw[eA i h]
  by_cases h0:i=0
  ·subst h0;simp;omega
  ·have:=ks ha (i:=i - 1) (x:=a[i - 1]?.getD 0) (y:=a[i]?.getD 0) (by rw[Tn (show i - 1<a.length by omega)];rfl) (by rw[show i - 1+1=i by omega,Tn h];rfl);rw[eA (i - 1) (by omega)];simp;omega
 ·obtain⟨j,rfl⟩:∃j,i=a.length+j:=⟨i - a.length,by omega⟩;have h1:=B j (by omega);rw[eB j (by omega)]
  by_cases h0:j=0
  ·subst h0
   by_cases ha0:a.length=0
   ·simp[ha0];omega
   ·have:=A (a.length - 1) (by omega);rw[Vv,eA (a.length - 1) (by omega)];simp;omega
  ·have:=ks hb (i:=j - 1) (x:=b[j - 1]?.getD 0) (y:=b[j]?.getD 0) (by rw[Tn (show j - 1<b.length by omega)];rfl) (by rw[show j - 1+1=j by omega,Tn (show j<b.length by omega)];rfl);rw[show a.length+j - 1=a.length+(j - 1) by omega,eB (j - 1) (by omega)];simp;omega
theorem ON{gr:Int}{card v:Nat}(hv:v<card):(S.Ry gr card v).sum=gr:=by
 unfold S.Ry;have:∀(c v:Nat),v<c->((List.replicate c (0:Int)).set v gr).sum=gr:=λc=>by
  induction c with
  |zero=>intro v h;omega
  | succ c ih =>
   intro v h;have z:∀k:Nat,(List.replicate k (0:Int)).sum=0:=λk=>by induction k with
    |zero=>rfl
    |succ k ih=>rw[Uu,V6,ih];rfl
   cases v with
   |zero=>rw[Uu,Va,V6,z];omega
   |succ v=>rw[Uu,VY,V6,ih v (by omega)];omega
 exact this card v hv
theorem Jc{gr:Int}{card v:Nat}(hg:0<=gr)(hv:v<card):((S.Ry gr card v).length:Int)=(card:Int)/\(∀y∈S.Ry gr card v,0<=y/\y<=gr)/\(S.Ry gr card v).sum=gr:=by
 refine⟨by simp[S.Ry],λy hy=>?_,ON hv⟩;unfold S.Ry at hy;rcases List.mem_or_eq_of_mem_set hy with h|h
 ·obtain⟨-,rfl⟩:=Vj.1 h;omega
 ·omega
def Tw(n:Net)(m:Causal)(K:Nat->Prop):Prop:=∀(v:Nat) (x:Node),n.nodes[v]?=some x->(∃w,m.roots[v]?=some w/\x=S.RU w) \/
 ∃first act i,v=first+i/\K first/\i<m.nodes.length/\Cop n m first act/\S.Rd m act=true/\m.roots.length<=first/\first+m.nodes.length<=n.nodes.length/\x=S.R9 m (first:Int) act i
theorem Pq{n:Net}{m:Causal}{K:Nat->Prop}(hck:S.Q_ m=true)(hg:n.grain=m.grain)(hT:Tw n m K)(h1:1<=n.nodes.length)(h8:n.nodes.length<=8)(hw:S.Q5 (S.Q6 n)<=1024){rk:Nat->Nat}
  (hrk:∀(first i:Nat),K first->i<m.nodes.length->m.roots.length<=first->∀y,m.nodes[i]?=some y->(∀p∈y.noise,rk p.toNat<rk (first+i))/\∀q∈y.frm,rk (first+q.toNat)<rk (first+i)):NR n:=by
 obtain⟨hs,hgr,hn1,hro,hno⟩:=ap hck;have hro:∀w∈m.roots,(∀y∈w,0<=y/\y<=m.grain)/\w.sum=m.grain:=λw hw=>by simp only[S.Sq,Ts]at hro;have:=TC.1 hro.1 w hw;simp only[S.Sc,S.R2,Ts,TA,TC]at this;exact⟨λy hy=>this.1.2 y hy,this.2⟩
 have cop:∀{first i:Nat} {act:List Int},i<m.nodes.length->Cop n m first act->S.Rd m act=true->∃y,m.nodes[i]?=some y/\(S.R9 m (first:Int) act i).card=y.card /\
   (((S.R9 m (first:Int) act i).parents=[]/\∃a:Nat,(a:Int)<y.card/\(S.R9 m (first:Int) act i).rows=[S.Ry m.grain y.card.toNat a]) \/
    ((S.R9 m (first:Int) act i).parents=y.noise++y.frm.map ((first:Int)+·)/\(S.R9 m (first:Int) act i).rows=S.RF m.grain y.card.toNat (S.RM m y).toNat (S.RJ m y).toNat y.out (S.RJ m y).toNat)):=by
  intro first i act hi hc ha
  have hy:m.nodes[i]?=some m.nodes[i]:=Tn hi;refine⟨_,hy,yy hy,?_⟩;have hal:=(jP ha).2 i _ hy;rw[S.R9,hy,Tq,S.S3]
  by_cases h0:0<=act[i]?.getD 0
  ·obtain⟨a,hae⟩:=Ty h0;rw[TE h0];exact .inl ⟨rfl,a,by omega,by rw[hae];rfl⟩
  ·rw[TF h0];exact .inr ⟨rfl,rfl⟩
 have par:∀(v:Nat) (x:Node),n.nodes[v]?=some x->S.Rc x.parents n.nodes.length=true/\∀p∈x.parents,rk p.toNat<rk v:=λv x hx=>by
  rcases hT v x hx with⟨w,hw,rfl⟩|⟨first,act,i,rfl,hK,hi,hc,ha,hf1,hf2,rfl⟩
  ·exact⟨rfl,λp hp=>by simp[S.RU]at hp⟩
  ·obtain⟨y,hy,-,h⟩:=cop hi hc ha;obtain⟨p1,p2,-,-⟩:=cK hck (Tv hy);rcases h with⟨e,-⟩|⟨e,-⟩
   ·rw[e];exact⟨rfl,λp hp=>by simp at hp⟩
   ·rw[e];refine⟨HF p2 p1 hf1 (by omega),λp hp=>?_⟩;obtain⟨k1,k2⟩:=hrk first i hK hi hf1 y hy
    rcases Uf.1 hp with h|h
    ·exact k1 p h
    ·obtain⟨q,hq,rfl⟩:=T4.1 h;have:=aE p1 q hq;rw[show ((first:Int)+q).toNat=first+q.toNat by omega];exact k2 q hq
 have get:∀x∈n.nodes,∃v,n.nodes[v]?=some x:=λx hx=>by obtain⟨i,hi,e⟩:=Ui.1 hx;exact⟨i,by rw[Tn hi,e]⟩
 refine⟨by omega,by omega,h1,h8,λx hx=>?_,λx hx=>?_,hw,?_,λx hx=>?_,λx hx=>?_⟩
 ·obtain⟨v,hv⟩:=get x hx;rcases hT v x hv with⟨w,hw,rfl⟩|⟨first,act,i,rfl,hK,hi,hc,ha,hf1,hf2,rfl⟩
  ·have:=hs.len w (Tv hw);show (1:Int)<=(w.length:Int)/\(w.length:Int)<=4;omega
  ·obtain⟨y,hy,e,-⟩:=cop hi hc ha;rw[e];exact hs.card y (Tv hy)
 ·obtain⟨v,hv⟩:=get x hx;exact (par v x hv).1
 ·have hpl:(S.Rj n).length=n.nodes.length:=by simp[S.Rj]
  refine GP (rk:=rk) (by omega) λu v hv hb=>?_;rw[hpl]at hv ⊢;have hx:n.nodes[v]?=some n.nodes[v]:=Tn hv;obtain⟨k1,k2⟩:=par v _ hx;have hin:=bZ k1;have e:Par (S.Rj n) v=S.Re (n.nodes[v]).parents:=by simp[Par,S.Rj,hx]
  rw[e,wW λp hp=>by have:=hin p hp;omega]at hb;have h1:=hin _ hb;have h2:=k2 _ hb;rw[TH]at h2;exact⟨by omega,h2⟩
 ·obtain⟨v,hv⟩:=get x hx;rcases hT v x hv with⟨w,hw,rfl⟩|⟨first,act,i,rfl,hK,hi,hc,ha,hf1,hf2,rfl⟩
  ·rfl
  ·obtain⟨y,hy,e,h⟩:=cop hi hc ha;obtain⟨p1,p2,-,-⟩:=cK hck (Tv hy);rcases h with⟨e1,a,-,e2⟩|⟨e1,e2⟩
   ·rw[e1,e2];rfl
   ·rw[e1,e2,nO,bU,FX hc (aE p2),M2 hc (aE p1),iP,<-S.RM,<-S.RJ];obtain⟨b1,b2⟩:=cA hck (Tv hy);have q1:1<=S.RM m y:=eV λc hc=>(b1 c (by rw[S.Rh];exact VM _ hc)).1;have q2:1<=S.RJ m y:=eV λc hc=>(b1 c (by rw[S.Rh];exact VF _ hc)).1;rw[Ut,U2 (by omega),U2 (by omega)]
 ·obtain⟨v,hv⟩:=get x hx;rcases hT v x hv with⟨w,hw,rfl⟩|⟨first,act,i,rfl,hK,hi,hc,ha,hf1,hf2,rfl⟩
  ·intro r hr;have hwm:=Tv hw;obtain rfl:r=w:=by simpa [S.RU] using hr
   rw[hg];exact⟨rfl,hro r hwm⟩
  ·obtain⟨y,hy,e,h⟩:=cop hi hc ha;obtain⟨p1,p2,p3,p4⟩:=cK hck (Tv hy);have hcy:=hs.card y (Tv hy);intro r hr;rw[e,hg];have ey:((y.card.toNat:Nat):Int)=y.card:=U2 (by omega);rcases h with⟨e1,a,ha',e2⟩|⟨e1,e2⟩
   ·rw[e2]at hr;obtain rfl:r=S.Ry m.grain y.card.toNat a:=by simpa using hr
    have:=Jc (gr:=m.grain) (card:=y.card.toNat) (v:=a) (by omega) (by omega);rw[ey]at this;exact this
   ·rw[e2]at hr;simp only[S.RF,VU,T4,TK]at hr;obtain⟨j,hj,k,hk,rfl⟩:=hr;have hlt:(y.out[k*(S.RJ m y).toNat+j]?.getD 0).toNat<y.card.toNat:=by
     cases ho:y.out[k*(S.RJ m y).toNat+j]? with
     |none=>simp;omega
     |some o=>have:=p4 o (Tv ho);simp;omega
    have:=Jc (gr:=m.grain) (by omega) hlt;rw[ey]at this;exact this
theorem Bk{n:Net}(hr:NR n)(P:List Int->Bool):S.Rn n (λj=>P (S.Rb (S.Q6 n) (j:Int))) (S.Rx n)=S.Rz (S.Q6 n) λv=>if P v then S.RL n v else 0:=by have:=v8 (cs:=S.Q6 n) (pre:=[]) (pv:=[]) (λv=>if P v then S.RL n v else 0) (λc hc=>(hr.cs c (by simpa using hc)).1) trivial;simp only[TL,S.Q9,VX,Wb]at this;rw[Jq,<-this];rfl
section
variable {m:Causal}{al:List Int}
theorem Fg(h:S.RG m 1=true):m.roots.length+m.nodes.length<=8/\S.Q8 m*S.RQ m<=1024:=by simp only[S.RG,Ts,TA,Vr,Int.pow_zero,VA]at h;exact⟨by omega,h.2⟩
theorem LT(h:S.RG m 2=true):m.roots.length+m.nodes.length+m.nodes.length<=8/\S.Q8 m*(S.RQ m*S.RQ m)<=1024:=by simp only[S.RG,Ts,TA,Vr,Int.pow_zero,VA]at h;exact⟨by omega,h.2⟩
theorem FI(hck:S.Q_ m=true)(hf:S.RG m 1=true):NR (S.Rm m):=by
 obtain⟨hs,hgr,hn1,-,-⟩:=ap hck;obtain⟨f1,f2⟩:=Fg hf;obtain⟨r,hr⟩:=C1 hck;have hl:=qd m;refine Pq (K:=λf=>f=m.roots.length) (rk:=λv=>if v<m.roots.length then 0 else 1+r (v - m.roots.length)) hck rfl ?_ (by omega) (by omega) ?_ ?_
 ·intro v x hx;have hv:=(Tu.1 hx).1;rw[hl]at hv
  by_cases h:v<m.roots.length
  ·have hw:=Tn h;have:=(iO m).root v _ hw;rw[hx]at this;injection this with this;exact .inl ⟨_,hw,this⟩
  ·obtain⟨i,rfl⟩:∃i,v=m.roots.length+i:=⟨v - m.roots.length,by omega⟩;have:=(iO m).node i (by omega);rw[hx]at this;injection this with this;exact .inr ⟨_,_,i,rfl,rfl,by omega,iO m,kU hs,Tp _,by omega,this⟩
 ·rw[yH,iP];exact f2
 ·rintro first i rfl hi - y hy
  obtain⟨p1,p2,-,-⟩:=cK hck (Tv hy);refine⟨λp hp=>?_,λq hq=>?_⟩
  ·have:=aE p2 p hp;rw[TE (by omega),TF (by omega)];omega
  ·have:=aE p1 q hq;rw[TF (by omega),TF (by omega),Ua,Ua];have:=hr i y hy q hq;omega
theorem yj(hck:S.Q_ m=true)(ha:S.Rd m al=true)(hf:S.RG m 2=true):NR (S.RA m al):=by
 obtain⟨hs,hgr,hn1,-,-⟩:=ap hck;obtain⟨f1,f2⟩:=LT hf;obtain⟨r,hr⟩:=C1 hck;have hl:=v_ m al;refine Pq (K:=λf=>f=m.roots.length\/f=m.roots.length+m.nodes.length) (rk:=λv=>if v<m.roots.length then 0 else if v<m.roots.length+m.nodes.length then 1+r (v - m.roots.length) else 1+r (v - m.roots.length - m.nodes.length)) hck rfl ?_ (by omega) (by omega) ?_ ?_
 ·intro v x hx;have hv:=(Tu.1 hx).1;rw[hl]at hv
  by_cases h:v<m.roots.length
  ·have hw:=Tn h;have:=(fR m al).root v _ hw;rw[hx]at this;injection this with this;exact .inl ⟨_,hw,this⟩
  ·by_cases h2:v<m.roots.length+m.nodes.length
   ·obtain⟨i,rfl⟩:∃i,v=m.roots.length+i:=⟨v - m.roots.length,by omega⟩;have:=(fR m al).node i (by omega);rw[hx]at this;injection this with this;exact .inr ⟨_,_,i,rfl,.inl rfl,by omega,fR m al,kU hs,Tp _,by omega,this⟩
   ·obtain⟨i,rfl⟩:∃i,v=m.roots.length+m.nodes.length+i:=⟨v - m.roots.length - m.nodes.length,by omega⟩;have:=(oH m al).node i (by omega);rw[hx]at this;injection this with this;exact .inr ⟨_,_,i,rfl,.inr rfl,by omega,oH m al,ha,by omega,by omega,this⟩
 ·rw[mL,iP,iP];exact f2
 ·rintro first i hK hi - y hy
  obtain⟨p1,p2,-,-⟩:=cK hck (Tv hy);refine⟨λp hp=>?_,λq hq=>?_⟩
  ·have:=aE p2 p hp;rw[TE (by omega),TF (by omega)]
   split<;>omega
  ·have:=aE p1 q hq;have h3:=hr i y hy q hq;rcases hK with rfl|rfl
   ·rw[TF (by omega),TE (by omega),TF (by omega),TE (by omega),Ua,Ua];omega
   ·rw[TF (by omega),TF (by omega),TF (by omega),TF (by omega),show m.roots.length+m.nodes.length+q.toNat - m.roots.length - m.nodes.length=q.toNat by omega,show m.roots.length+m.nodes.length+i - m.roots.length - m.nodes.length=i by omega];omega
end
theorem oC{a e:List Int}:S.Rr a e=true↔∀i,i<e.length->e[i]?.getD 0<0\/e[i]?.getD 0=a[i]?.getD 0:=by simp[S.Rr,S.SY]
theorem iM{a b e f:List Int}(h:a.length=e.length):S.Rr (a++b) (e++f)=(S.Rr a e&&S.Rr b f):=by
 rw[VH,Ts,oC,oC,oC];constructor
 ·intro H;refine⟨λi hi=>?_,λi hi=>?_⟩
  ·have:=H i (by rw[TP];omega);rwa [TD hi,TD (by omega)]at this
  ·have:=H (e.length+i) (by rw[TP];omega);rwa [TB (by omega),TB (by omega),h,Ua]at this
 ·rintro⟨h1,h2⟩ i hi;rw[TP]at hi
  by_cases hl:i<e.length
  ·rw[TD hl,TD (by omega)];exact h1 i hl
  ·rw[TB (by omega),TB (by omega),h];exact h2 _ (by omega)
theorem iN(a:List Int)(k:Nat):S.Rr a (List.replicate k (-1))=true:=by refine oC.2 λi hi=>.inl ?_;rw[TY]at hi;rw[Uh,TE hi];decide
theorem Kk{g a b:Nat}(hg:0<g):S.Su (g*a) (g*b)=S.Su a b:=by unfold S.Su;rw[Nat.gcd_mul_left,Nat.mul_div_mul_left _ _ hg,Nat.mul_div_mul_left _ _ hg]
section
variable {m:Causal}{al e q:List Int}
theorem Mf(hck:S.Q_ m=true):0<S.gp m:=by have:=(ap hck).2.1;exact eV λx hx=>by obtain⟨-,rfl⟩:=Vj.1 hx;omega
theorem xU(m:Causal):S.RY m=S.Rl m:=rfl
theorem K1(hck:S.Q_ m=true)(ha:S.Rd m al=true)(hf:S.RG m 2=true)(hel:e.length=m.nodes.length) :
  S.SA (S.RA m al) (List.replicate m.roots.length (-1)++(e++List.replicate m.nodes.length (-1)))=S.gp m*S.gp m*S.Sd m e:=by
 rw[S.SA,Bk (yj hck ha hf) λv=>S.Rr v (List.replicate m.roots.length (-1)++(e++List.replicate m.nodes.length (-1))),Bp hck ha,S.Sd];have h2:=Bl hck λr=>S.Rr (S.Rg m r (S.Rl m)) e;rw[show (λj:Nat=>S.Rr (S.Rg m (S.Rb (S.Ra m) (j:Int)) (S.Rl m)) e)=S.mw m (S.Rl m) e from rfl]at h2;rw[h2];congr 1;refine eX λr hr=>?_;rw[iM (by rw[hr.len,bS,TY]),iN,Up,iM (by simp[S.Rg,hel]),iN,Vy,xU]
theorem K0(hck:S.Q_ m=true)(ha:S.Rd m al=true)(hf:S.RG m 2=true)(hel:e.length=m.nodes.length)(hql:q.length=m.nodes.length) :
  S.Ta (S.RA m al) (List.replicate m.roots.length (-1)++(e++List.replicate m.nodes.length (-1))) (List.replicate m.roots.length (-1)++(List.replicate m.nodes.length (-1)++q))=S.gp m*S.gp m*S.SW m e al q:=by
 have h1:=Bk (yj hck ha hf) λv=>S.Rr v (List.replicate m.roots.length (-1)++(e++List.replicate m.nodes.length (-1)))&&S.Rr v (List.replicate m.roots.length (-1)++(List.replicate m.nodes.length (-1)++q));have h2:=Bl hck λr=>S.Rr (S.Rg m r (S.Rl m)) e&&S.Rr (S.Rg m r al) q;rw[S.Ta,show S.pb (S.RA m al) (List.replicate m.roots.length (-1)++(e++List.replicate m.nodes.length (-1))) (List.replicate m.roots.length (-1)++(List.replicate m.nodes.length (-1)++q)) =
  λj:Nat=>(λv=>S.Rr v (List.replicate m.roots.length (-1)++(e++List.replicate m.nodes.length (-1)))&&S.Rr v (List.replicate m.roots.length (-1)++(List.replicate m.nodes.length (-1)++q))) (S.Rb (S.Q6 (S.RA m al)) (j:Int)) from rfl,h1,Bp hck ha,S.SW]
 rw[show (λj:Nat=>(λr=>S.Rr (S.Rg m r (S.Rl m)) e&&S.Rr (S.Rg m r al) q) (S.Rb (S.Ra m) (j:Int)))=S.cw m e al q from rfl]at h2;rw[h2];congr 1;refine eX λr hr=>?_;have l1:r.length=(List.replicate m.roots.length (-1:Int)).length:=by rw[hr.len,bS,TY]
 have l2:∀a,(S.Rg m r a).length=m.nodes.length:=λa=>by simp[S.Rg]
 rw[iM l1,iM l1,iN,Up,Up,iM (by rw[l2,hel]),iM (by rw[l2,TY]),iN,iN,Vy,Up,xU]
theorem EF(hck:S.Q_ m=true){l:List Int}(h:S.Rd m l=true):∀i,i<m.nodes.length->-1<=l[i]?.getD 0/\l[i]?.getD 0<(m.nodes.map (·.card))[i]?.getD 0:=λi hi=>by have:=(jP h).2 i _ (Tn hi);rw[Tt,Tn hi];exact this
theorem E_{n:Net}{cs ds a b:List Int}(hn:S.Q6 n=cs++ds)(la:a.length=cs.length)(lb:b.length=ds.length)(ha:∀i,i<cs.length->-1<=a[i]?.getD 0/\a[i]?.getD 0<cs[i]?.getD 0)
  (hb:∀i,i<ds.length->-1<=b[i]?.getD 0/\b[i]?.getD 0<ds[i]?.getD 0):(a++b).length=n.nodes.length/\∀i,i<(a++b).length->-1<=(a++b)[i]?.getD 0/\(a++b)[i]?.getD 0<(S.Q6 n)[i]?.getD 0:=by
 have hl:=congrArg List.length hn;rw[aY,TP]at hl;refine⟨by rw[TP];omega,λi hi=>?_⟩;rw[TP]at hi;rw[hn]
 by_cases h:i<a.length
 ·rw[TD h,TD (by omega)];exact ha i (by omega)
 ·rw[TB (by omega),TB (by omega),la];exact hb _ (by omega)
theorem DM{n:Net}{e:List Int}(h:e.length=n.nodes.length/\∀i,i<e.length->-1<=e[i]?.getD 0/\e[i]?.getD 0<(S.Q6 n)[i]?.getD 0):S.RK n e=true:=by simp only[S.RK,Ts,TA,TC,TK];exact⟨h.1,λi hi=>h.2 i hi⟩
theorem Ga{k:Nat}{cs:List Int}(hc:∀c∈cs,1<=c)(hk:k=cs.length):∀i,i<cs.length->-1<=(List.replicate k (-1:Int))[i]?.getD 0/\(List.replicate k (-1:Int))[i]?.getD 0<cs[i]?.getD 0:=λi hi=>by have:=hc _ (TW hi);rw[Uh,TE (by omega),Tn hi];show (-1:Int)<=-1/\(-1:Int)<cs[i];omega
theorem O8{a b cs ds:List Int}(la:a.length=cs.length)(lb:b.length=ds.length)(ha:∀i,i<cs.length->-1<=a[i]?.getD 0/\a[i]?.getD 0<cs[i]?.getD 0)
  (hb:∀i,i<ds.length->-1<=b[i]?.getD 0/\b[i]?.getD 0<ds[i]?.getD 0):∀i,i<(cs++ds).length->-1<=(a++b)[i]?.getD 0/\(a++b)[i]?.getD 0<(cs++ds)[i]?.getD 0:=λi hi=>by
 rw[TP]at hi
 by_cases h:i<a.length
 ·rw[TD h,TD (by omega)];exact ha i (by omega)
 ·rw[TB (by omega),TB (by omega),la];exact hb _ (by omega)
theorem B3(hck:S.Q_ m=true)(he:S.Rd m e=true)(ha:S.Rd m al=true)(hq:S.Rd m q=true)(hf:S.RG m 2=true){K A:List Int}
  (hK:K=List.replicate m.roots.length (-1)++(e++List.replicate m.nodes.length (-1))) (hA:A=List.replicate m.roots.length (-1)++(List.replicate m.nodes.length (-1)++q)) :
  S.Sz (S.RA m al) K A=S.R5 m e al q/\S.SJ (S.RA m al) K A=S.RW m e al q:=by
 obtain⟨hs,hgr,hn1,-,-⟩:=ap hck;have hel:=(jP he).1;have hql:=(jP hq).1;have hc1:∀c∈S.Ra m,1<=c:=λc hc=>(h_ hs c hc).1;have hc2:∀c∈m.nodes.map (·.card),1<=c:=λc hc=>(jU hck c hc).1;have ll:=bS m;have ll2:(m.nodes.map (·.card)).length=m.nodes.length:=Tz _;have e1:S.RK (S.RA m al) K=true:=by rw[hK];refine DM (E_ (mL m al) (by simp[ll]) (by simp[hel]) (Ga hc1 (by omega)) ?_);exact O8 (by omega) (by simp) (λi hi=>EF hck he i (by omega)) (Ga hc2 (by omega))
 have e2:S.RK (S.RA m al) A=true:=by rw[hA];refine DM (E_ (mL m al) (by simp[ll]) (by simp[hql]) (Ga hc1 (by omega)) ?_);exact O8 (by simp) (by omega) (Ga hc2 (by omega)) (λi hi=>EF hck hq i (by omega))
 have h0:S.R4 (S.RA m al) [K,A]=0:=yJ.2 ⟨fN.2 (yj hck ha hf),e1,e2⟩;have h1:=K1 (al:=al) hck ha hf hel;have h2:=K0 (e:=e) hck ha hf hel hql;rw[<-hK]at h1 h2;rw[<-hA]at h2;have hG:=Mf hck;have hG2:0<S.gp m*S.gp m:=Int.mul_pos hG hG;have hr:S.Rs m [e,al,q]=0:=by rw[S.Rs,TE hck];simp[he,ha,hq]
 have b1:0<=S.Sd m e:=(lM hck _).1;have b2:0<=S.SW m e al q:=(lM hck _).1;have hE:S.Sz (S.RA m al) K A=S.R5 m e al q:=by
  have hT:S.R5 m e al q=if S.Sd m e=0 then 7 else 0:=by rw[S.R5,hr];rfl
  rw[hT,S.Sz,TE h0,h1]
  by_cases hz:S.Sd m e=0
  ·rw[hz,TE rfl,Int.mul_zero,TE rfl]
  ·rw[TF hz,TF];intro h;rcases Int.mul_eq_zero.1 h with h|h
   ·omega
   ·exact hz h
 refine⟨hE,?_⟩;rw[S.SJ,hE,S.RW]
 split
 ·rw[h1,h2];obtain⟨g,hg⟩:=Ty (show 0<=S.gp m*S.gp m by omega);obtain⟨a,ha'⟩:=Ty b1;obtain⟨b,hb'⟩:=Ty b2;rw[hg,ha',hb',<-Ut,<-Ut,TH,TH,TH,TH,Kk (by omega)]
 ·rfl
end
end
end Hx
end
section
namespace Hx
open Go
noncomputable section
def Qj(pm:List Nat)(ws:List (Bool×Bool)):Bool:=(List.range ws.length).all λj=>(List.range j).all λi=>!(ws.getD i (false,false)).2 || !(ws.getD j (false,false)).1 || (pm.getD j 0).testBit i
theorem yR{pm:List Nat}{i:Nat}{x:Foot}:∀{r:List Foot} {j:Nat},(∀b y,r[b]?=some y->y.wr=[]\/(pm.getD (j+b) 0).testBit i=true)->cH pm i x j r=0
 |[],_,_=>rfl
 | y::r,j,h=>by
  have h0:=h 0 y rfl;have ih:cH pm i x (Nat.succ j) r=0:=yR λb z hz=>by have:=h (b+1) z (by simpa using hz);rwa [show j+(b+1)=Nat.succ j+b by omega]at this
  have hc:((pm.getD j 0).testBit i || !meets y.wr (fst1 x.lk.sr))=true:=by
   rcases h0 with h0|h0
   ·rw[h0];simp[meets]
   ·rw[Vv]at h0;rw[h0,Wa]
  rw[cH,aa,TE hc,ih]
theorem C9{pm:List Nat}:∀{l:List Foot} {i:Nat},(∀a x,l[a]?=some x->x.lk.sr=[]\/∀b y,a<b->l[b]?=some y->y.wr=[]\/(pm.getD (i+b) 0).testBit (i+a)=true)->lK pm i l=true
 |[],_,_=>rfl
 | x::r,i,h=>by
  have ih:lK pm (Nat.succ i) r=true:=C9 λa y hy=>by
   rcases h (a+1) y (by simpa using hy) with h'|h'
   ·exact .inl h'
   ·refine .inr λb z hb hz=>?_;have:=h' (b+1) z (by omega) (by simpa using hz);rwa [show i+(b+1)=Nat.succ i+b by omega,show i+(a+1)=Nat.succ i+a by omega]at this
  rw[lK,ih];rcases h 0 x rfl with h'|h'
  ·rw[h'];first|done|rfl
  ·have hc:cH pm i x (Nat.succ i) r=0:=yR λb y hy=>by have:=h' (b+1) y (by omega) (by simpa using hy);rwa [show i+(b+1)=Nat.succ i+b by omega,Vv]at this
   rw[hc];cases x.lk.sr<;>rfl
theorem Fk{pm:List Nat}{fs:List Foot}(ws:List (Bool×Bool))(L:List (Nat×Nat))(hw:All2 (λ(f:Foot) (w:Bool×Bool)=>(w.2=false->f.lk.sr=[])/\(w.1=false->f.wr=[])) fs ws)(hs:Qj pm ws=true)(hd:I5 pm (ws.map (·.1)) L=true)
  (hL:∀p∈L,∀x y,fs[p.1]?=some x->fs[p.2]?=some y->bE x y=true):mE pm fs=true:=by
 unfold mE;rw[aa,TE]
 ·refine C9 λa x ha=>?_;obtain⟨wa,hwa,ka⟩:=hw.get ha;cases e:wa.2 with
  |false=>exact .inl (ka.1 e)
  | true =>
   refine .inr λb y hab hb=>?_;obtain⟨wb,hwb,kb⟩:=hw.get hb;have hbl:=(Tu.1 hwb).1;have:=TC.1 (TC.1 hs b (TK.2 hbl)) a (TK.2 hab);simp only[Vf,hwa,hwb,Tq,e,Um,Bool.false_or,Uo,UH]at this;rcases this with h|h
   ·exact .inl (kb.2 h)
   ·refine .inr ?_;rw[T6,T6,Vf];exact h
 ·refine rV λa b x y hab ha hb=>?_;simp only[T6];obtain⟨wa,hwa,ka⟩:=hw.get ha;obtain⟨wb,hwb,kb⟩:=hw.get hb;have hbl:=(Tu.1 hwb).1;have:=TC.1 (TC.1 hd b (TK.2 (by simpa using hbl))) a (TK.2 hab);simp only[HD,Uo]at this;rcases this with (h|h)|h
  ·rw[h,Wa]
  ·simp only[Vf,Tt,hwa,hwb,TQ,Tq,Ts,UH]at h;have ex:=ka.2 h.1;have ey:=kb.2 h.2;simp only[bE,fI,d_,ex,ey,Vx,Bool.or_true]
  ·rw[hL (a,b) (U7.1 h) x y ha hb,Bool.or_true]
section
variable {α:Type} [DecidableEq α]
def mgt(L:List (α×Int))(k:α):Int:=match L with
 |[]=>0
 | (a,v)::r=>if k=a then v else mgt r k
def mst(k:α)(v:Int):List (α×Int)->List (α×Int)
 |[]=>[(k,v)]
 | (a,w)::r=>if k=a then (k,v)::r else (a,w)::mst k v r
theorem IU(k j:α)(v:Int):∀L:List (α×Int),mgt (mst k v L) j=if j=k then v else mgt L j
 |[]=>by simp only[mst,mgt]
 | (a,w)::r=>by
  rw[mst]
  by_cases e:k=a
  ·subst e;rw[TE rfl,mgt,mgt]
   by_cases e2:j=k
   ·rw[TE e2,TE e2]
   ·rw[TF e2,TF e2,TF e2]
  ·rw[TF e,mgt,IU k j v r,mgt]
   by_cases e2:j=a
   ·rw[TE e2,TE e2,TF (λh=>e (by rw[<-h,e2]))]
   ·rw[TF e2,TF e2]
def mcl(kf:α->AV)(L:List (α×Int)):List (AV×AV):=L.map λp=>(kf p.1,.int .i64 p.2)
theorem Iu{kf:α->AV}(hk:∀a b,lE (kf a) (kf b)=some (decide (a=b)))(k:α):∀L:List (α×Int),pZ (kf k) (mcl kf L)=some (if L.any (λp=>decide (k=p.1)) then some (.int .i64 (mgt L k)) else none)
 |[]=>rfl
 | (a,w)::r=>by
  rw[mcl,UV,pZ,hk]
  by_cases e:k=a
  ·subst e;simp[mgt]
  ·have ih:=Iu hk k r;rw[mcl]at ih;simp only[UU e];rw[ih,List.any_cons,mgt,TF e,UU e,Bool.false_or]
theorem FG(k:α):∀L:List (α×Int),L.any (λp=>decide (k=p.1))=false->mgt L k=0
 |[],_=>rfl
 | (a,w)::r,h=>by rw[List.any_cons,Bool.or_eq_false_iff]at h;rw[mgt,TF (of_decide_eq_false h.1),FG k r h.2]
theorem Ns{kf:α->AV}(hk:∀a b,lE (kf a) (kf b)=some (decide (a=b)))(k:α)(x:Int):∀L:List (α×Int),Gk (kf k) (.int .i64 x) (mcl kf L)=some (mcl kf (mst k x L))
 |[]=>rfl
 | (a,w)::r=>by
  rw[mcl,UV,Gk,hk,mst]
  by_cases e:k=a
  ·subst e;simp[mcl]
  ·have ih:=Ns hk k x r;rw[mcl]at ih;simp only[UU e,TF e,ih]
   rfl
theorem Mz{kf:α->AV}(hk:∀a b,lE (kf a) (kf b)=some (decide (a=b))){kk:KeyKind}{m k:T->AV}{t:T}{g:G}{id:Nat}{a:α}{L:List (α×Int)}(h1:m t=.hmap id)(h2:k t=kf a)(ho:my kk (kf a)=true)(hg:g.h.get id=.map (mcl kf L)) :
  cp kk (.int .i64 0) false m k t g=.val (.int .i64 (mgt L a)):=by
 unfold cp;rw[h1,h2,ho];simp only[G.get_eq,hg,Iu hk];cases h:L.any (λp=>decide (a=p.1)) with
 |true=>simp
 |false=>simp[FG a L h]
theorem NO{kf:α->AV}(hk:∀a b,lE (kf a) (kf b)=some (decide (a=b))){kk:KeyKind}{m k x:T->AV}{t:T}{g:G}{id:Nat}{a:α}{v:Int}{L:List (α×Int)}(h1:m t=.hmap id)(h2:k t=kf a)(h3:x t=.int .i64 v)(ho:my kk (kf a)=true)(hg:g.h.get id=.map (mcl kf L)) :
  ck kk m k x t g=.upd .undef (g.put id (.map (mcl kf (mst a v L)))):=by
 unfold ck;rw[h1,h2,h3,ho];simp only[G.get_eq,hg,Ns hk]
end
def ik(a:Int):AV:=.int .i64 a
theorem Pm(a b:Int):lE (ik a) (ik b)=some (decide (a=b)):=by show some (Fu a b)=_;rw[qF]
theorem M_(d:Nat)(rd:Option Nat)(t:T)(g:G):(SO.raw (.makeMap tII none)).run C0 d rd t g=.upd (.hmap g.nx) (g.new (.map [])):=by kernel_rfl
theorem HQ{d:Nat}{rd:Option Nat}{t:T}{g:G}{a b id:Nat}{k:Int}{L:List (Int×Int)}{op:Op}(hr:(SO.raw op).run C0 d rd t g=cp (.one (.int .i64)) (.int .i64 0) false (λt=>tat t a) (λt=>tat t b) t g)(h1:tat t a=.hmap id)(h2:tat t b=.int .i64 k)(hg:g.h.get id=.map (mcl ik L)):(SO.raw op).run C0 d rd t g=.val (.int .i64 (mgt L k)):=by rw[hr];exact Mz Pm h1 h2 rfl hg
theorem HT{d:Nat}{rd:Option Nat}{t:T}{g:G}{a b c id:Nat}{k x:Int}{L:List (Int×Int)}{op:Op}(hr:(SO.raw op).run C0 d rd t g=ck (.one (.int .i64)) (λt=>tat t a) (λt=>tat t b) (λt=>tat t c) t g)(h1:tat t a=.hmap id)(h2:tat t b=.int .i64 k)(h3:tat t c=.int .i64 x)(hg:g.h.get id=.map (mcl ik L)):(SO.raw op).run C0 d rd t g=.upd .undef (g.put id (.map (mcl ik (mst k x L)))):=by rw[hr];exact NO Pm h1 h2 h3 rfl hg
theorem HI{C:Cfg}{ty kt et a b:Nat}{z:AV}{ok:Bool}(hu:C.P.underlying ty=some (.map kt et))(hz:uX C.P et=some z)(d:Nat)(rd:Option Nat)(t:T)(g:G):(SO.raw (.lookup ty (.tmp a) (.tmp b) ok)).run C d rd t g=cp (dg C.P kt) z ok (λt=>tat t a) (λt=>tat t b) t g:=by obtain⟨s1,e1,r1⟩:=br (C:=C) (x:=.tmp a) (o:=.t a) rfl;obtain⟨s2,e2,r2⟩:=br (C:=C) (x:=.tmp b) (o:=.t b) rfl;show (cB C _).run (I C) d rd t g=_;rw[bT (s:=⟨cp (dg C.P kt) z ok s1.run s2.run⟩) rfl (by simp only[cx,e1,e2,hu,hz])];rw[show s1.run=λt=>tat t a from funext r1,show s2.run=λt=>tat t b from funext r2]
theorem HJ{C:Cfg}{ty kt et a b c:Nat}(hu:C.P.underlying ty=some (.map kt et))(d:Nat)(rd:Option Nat)(t:T)(g:G):(SO.raw (.mapUpdate ty (.tmp a) (.tmp b) (.tmp c))).run C d rd t g=ck (dg C.P kt) (λt=>tat t a) (λt=>tat t b) (λt=>tat t c) t g:=by obtain⟨s1,e1,r1⟩:=br (C:=C) (x:=.tmp a) (o:=.t a) rfl;obtain⟨s2,e2,r2⟩:=br (C:=C) (x:=.tmp b) (o:=.t b) rfl;obtain⟨s3,e3,r3⟩:=br (C:=C) (x:=.tmp c) (o:=.t c) rfl;show (cB C _).run (I C) d rd t g=_;rw[bT (s:=⟨ck (dg C.P kt) s1.run s2.run s3.run⟩) rfl (by simp only[cx,e1,e2,e3,hu])];rw[show s1.run=λt=>tat t a from funext r1,show s2.run=λt=>tat t b from funext r2,show s3.run=λt=>tat t c from funext r3]
theorem Ka{C:Cfg}{ty a b:Nat}(t:T)(g:G):SO.foot C t g (.raw (.lookup ty (.tmp a) (.tmp b) false))=⟨[],(ak (tat t a)).map (·,ty),[],false⟩:=by
 obtain⟨s1,e1,r1⟩:=br (C:=C) (x:=.tmp a) (o:=.t a) rfl;show (aP C _).run t g=_;simp only[aP,e1,r1]
 rfl
theorem Kb{C:Cfg}{ty a b c:Nat}(t:T)(g:G):SO.foot C t g (.raw (.mapUpdate ty (.tmp a) (.tmp b) (.tmp c)))=ae (ak (tat t a)):=by
 obtain⟨s1,e1,r1⟩:=br (C:=C) (x:=.tmp a) (o:=.t a) rfl;show (aP C _).run t g=_;simp only[aP,e1,r1]
 rfl
theorem My:dg C0.P 3=.one (.int .i64):=by kernel_rfl
theorem NL:C0.P.underlying tII=some (.map 3 3):=by kernel_rfl
theorem QP:uX C0.P 3=some (.int .i64 0):=by kernel_rfl
theorem IS{d:Nat}{rd:Option Nat}{t:T}{g:G}{a b id:Nat}{k:Int}{L:List (Int×Int)}(h1:tat t a=.hmap id)(h2:tat t b=.int .i64 k)(hg:g.h.get id=.map (mcl ik L)):(SO.raw (.lookup tII (.tmp a) (.tmp b) false)).run C0 d rd t g=.val (.int .i64 (mgt L k)) :=
 HQ (by rw[HI NL QP,My]) h1 h2 hg
theorem Qp{d:Nat}{rd:Option Nat}{t:T}{g:G}{a b c id:Nat}{k x:Int}{L:List (Int×Int)}(h1:tat t a=.hmap id)(h2:tat t b=.int .i64 k)(h3:tat t c=.int .i64 x)(hg:g.h.get id=.map (mcl ik L)):(SO.raw (.mapUpdate tII (.tmp a) (.tmp b) (.tmp c))).run C0 d rd t g=.upd .undef (g.put id (.map (mcl ik (mst k x L)))) :=
 HT (by rw[HJ NL,My]) h1 h2 h3 hg
end
end Hx
end
section
namespace Hx
open Go
noncomputable section
def S.Sl(s j:Nat):List Int:=((List.range j).filter λv=>s.testBit v).map λv:Nat=>(v:Int)
theorem u0(s j:Nat):S.Sl s (j+1)=S.Sl s j++if s.testBit j then [(j:Int)] else []:=by rw[S.Sl,Uw,List.filter_append,Ub];congr 1;cases hb:s.testBit j<;>simp[List.filter,hb]
theorem Lm{s j:Nat}:∀y∈S.Sl s j,0<=y/\y<j:=λy hy=>by obtain⟨v,hv,rfl⟩:=T4.1 hy;have:=TK.1 (List.mem_filter.1 hv).1;omega
def S.R3(n:Net)(vals:List Int)(s j:Nat):Int:=S.Q9 (S.Q7 (S.Q6 n) (S.Sl s j)) (S.Q7 vals (S.Sl s j))
theorem Ks{n:Net}{vals:List Int}{s j:Nat}:S.R3 n vals s (j+1)=if s.testBit j then S.R3 n vals s j*((S.Q6 n)[j]?.getD 0)+vals[j]?.getD 0 else S.R3 n vals s j:=by
 rw[S.R3,u0,bU,bU,mF _ _ (by simp[eM])];cases s.testBit j with
 |true=>simp[S.Q7,S.Q9,S.Q5,S.R3]
 |false=>simp[S.Q7,S.Q9,S.Q5,S.R3]
theorem Cj(s:Nat):∀j,(S.Sl s j).length<=j
 |0=>by simp[S.Sl]
 | j+1=>by
  have:=Cj s j;rw[u0,TP]
  split<;>simp<;>omega
theorem AT{n:Net}(h:NR n){vals:List Int}(hv:InC (S.Q6 n) vals){s j:Nat}(hj:j<=n.nodes.length):0<=S.R3 n vals s j/\S.R3 n vals s j<65536:=by
 have hin:∀p∈S.Sl s j,0<=p/\p<(S.Q6 n).length:=λp hp=>by have:=Lm p hp;rw[aY];omega
 have h1:=bY (bG h.cs hin) (kp hv hin);have h2:=ba (l:=S.Q7 (S.Q6 n) (S.Sl s j)) (bG h.cs hin);have h3:=bI (a:=(S.Q7 (S.Q6 n) (S.Sl s j)).length) (b:=8) (by rw[eM];have:=Cj s j;have:=h.l2;omega);have h4:(4:Int) ^ 8=65536:=by decide
 unfold S.R3;omega
theorem Qw{s v:Nat}:decide (((s / 2 ^ v &&& 1:Nat):Int)=1)=s.testBit v:=by rw[Nat.and_one_is_mod,Nat.testBit_eq_decide_div_mod_eq];rw[VH,decide_eq_true_iff,decide_eq_true_iff];omega
theorem Kt{d kk s:Nat}{P:Nat->Prop}{g:G}{v w:AV}{n:Net}{y:QnM}{vals:List Int}(hd:0<d)(hr:NR n)(hm:Agg y NoP 0 g.h v)(hq:QnOk n y)(hv:SlR P kk g.h vals w)(hc:InC (S.Q6 n) vals)(hs:s<18446744073709551616) :
  an C0 d N.Re [v,w,.int .u64 (s:Int)] g=.val (.int .i64 (S.R3 n vals s n.nodes.length)):=by
 have e0:=cW d hm;obtain⟨cs,rfl,hcs⟩:=hm;obtain⟨b,fl,S_,rfl,hN,hfl,hS⟩:=uV.1 hcs;have hN:SlR NoP 0 .nil y.1.nodes b:=hN.tree (Tp 0);rw[hq.net]at hN;obtain⟨w',e2,hw'⟩:=cX hv d;have hgr:y.1.grain=n.grain:=by rw[hq.net]
 obtain⟨rows,r1,r2,r3,r4⟩:=hN.all;have r1:∀h',ac h' 3 b=some rows:=r1;have rv:=λh=>(hw' h).ints;have lv:∀g:G,dm .slice w' g=.val (.int .i64 (vals.length:Int)):=λg=>by rw[bQ (rv g.h),Tz]
 have hvl:=hc.len;rw[aY]at hvl;have hl8:=hr.l2;rw[mY];refine oo oT (xs:=[.agg [.int .i64 y.1.grain,b,fl,S_],w',.int .u64 (s:Int)]) (by simp only[aK,e0,e2,fg]) (by simp[dQ]) hd ?_;rw[hgr];simp only[sz,simprocAttr,dQ,ge,lv];simp only[fu,fy];refine aq (m:=n.nodes.length) (by omega) (λk t df g=>df=[]/\St t [(2,.int .u64 (s:Int)),(3,.hptr 0 0 0 0),(10,w'),(7,.int .i64 (S.R3 n vals s k))]/\g.h.get 0=We 4 [[.int .i64 n.grain,b,fl,S_]]) ⟨rfl,by simp[St,sx,S.R3,S.Sl,S.Q7,S.Q9],by simp[sx]⟩ (by simp[sx]) (by simp[sx,hvl]) (by decide)
  (by rintro j t df g v s' (rfl|rfl|rfl) ⟨a1,⟨b1,b2,b3,b4,-⟩,c1⟩<;>exact⟨a1,by simp[St,sx,b1,b2,b3,b4],c1⟩) ?_ ?_
 ·rintro k t df g hk ⟨rfl,⟨h2,h3,h10,h7,-⟩,g0⟩ h12 h11;obtain⟨x,hx,-,-⟩:=af hk;obtain⟨row,q1,q2⟩:=r3 k x hx;obtain⟨fa,fb,rfl,-⟩:=fm.1 q2;have hlt:k<rows.length:=by omega
  have hry:=r4 (by omega);have u1:k<(vals.map ci).length:=by simp;omega
  have u2:(vals.map ci)[k]?=some (ci (vals[k]?.getD 0)):=by rw[Tt,Tn (by omega)];rfl
  have h2n:s / 2 ^ k<18446744073709551616:=Nat.lt_of_le_of_lt (VZ _ _) hs;have ha:dO .and (.int .u64 ((s / 2 ^ k:Nat):Int)) (.int .u64 1)=.val (.int .u64 ((s / 2 ^ k &&& 1:Nat):Int)):=If (s / 2 ^ k) 1 h2n (by decide);have hn:=Ks (n:=n) (vals:=vals) (s:=s) (j:=k);have hcx:(S.Q6 n)[k]?.getD 0=x.card:=by simp[S.Q6,hx]
  rw[hcx]at hn;have hb0:=AT hr hc (s:=s) (j:=k) (by omega);have hb1:=AT hr hc (s:=s) (j:=k+1) (by omega);have hcard:=hr.card x (Tv hx);simp only[sz,simprocAttr,h2,h10,h12,rv,u1,u2,ci,Dt _ _ _ hs,ha,Qw];cases hbt:s.testBit k with
  | true =>
   rw[hbt,TE rfl]at hn;have hp:0<=S.R3 n vals s k*x.card/\S.R3 n vals s k*x.card<=65536*4:=⟨Ur hb0.1 (by omega),Uk (by omega) hcard.2 (by omega) (by omega)⟩;have w1:IntKind.wrap .i64 (S.R3 n vals s k*x.card)=S.R3 n vals s k*x.card:=au (by omega) (by omega);have w2:IntKind.wrap .i64 (S.R3 n vals s k*x.card+vals[k]?.getD 0)=S.R3 n vals s (k+1):=by rw[<-hn,au (by omega) (by omega)]
   simp only[sz,simprocAttr,h3,h7,g0,r1,hlt,q1,hry,w1,w2];exact⟨by simp[St,sx,h2,h3,h10],h12,h11⟩
  | false =>
   rw[hbt,TF (by simp)]at hn;simp only[sx,sy,↓reduceIte,Nat.reduceEqDiff];exact⟨⟨by simp[St,sx,h2,h3,h10,h7,hn],g0⟩,h12,h11⟩
 ·rintro t df g ⟨rfl,⟨h2,h3,h10,h7,-⟩,g0⟩;simp only[sz,simprocAttr,fA,h7]
def S.wt(n:Net)(w:Nat):Int:=S.RL n (S.Rb (S.Q6 n) (w:Int))
structure BeJ (g0:G) (w m b:Int) (h:H):Prop where
 fr:∀i,i<g0.nx->i≠1->i≠5->i≠6->h.get i=g0.h.get i
 h1:h.get 1=We 1 [[.int .i64 w]]
 h5:h.get 5=We 1 [[.int .i64 m]]
 h6:h.get 6=We 1 [[.int .i64 b]]
theorem CE:∀{l:List Int} (k:Int),l.Pairwise (·<·)->(l.filter λx=>decide (x<k+1))=(l.filter λx=>decide (x<k))++if k∈l then [k] else []
 |[],k,_=>by simp
 | a::t,k,h=>by
  obtain⟨h1,h2⟩:=List.pairwise_cons.1 h;have ih:=CE k h2;rcases Int.lt_trichotomy a k with hc|hc|hc
  ·rw[List.filter_cons_of_pos (by simpa using (by omega:a<k+1)),List.filter_cons_of_pos (by simpa using hc),ih,TJ];have:(k∈a::t)↔k∈t:=by simp;omega
   simp only[this]
  ·subst hc;have e1:(t.filter λx=>decide (x<a+1))=[]:=Vt.2 λx hx=>by have:=h1 x hx;simp;omega
   have e2:(t.filter λx=>decide (x<a))=[]:=Vt.2 λx hx=>by have:=h1 x hx;simp;omega
   rw[List.filter_cons_of_pos (by simp;omega),List.filter_cons_of_neg (by simp),e1,e2];simp
  ·have e1:(t.filter λx=>decide (x<k+1))=[]:=Vt.2 λx hx=>by have:=h1 x hx;simp;omega
   have e2:(t.filter λx=>decide (x<k))=[]:=Vt.2 λx hx=>by have:=h1 x hx;simp;omega
   rw[List.filter_cons_of_neg (by simp;omega),List.filter_cons_of_neg (by simp;omega),e1,e2,TF]
   ·rfl
   ·intro hm;rcases T3.1 hm with h|h
    ·omega
    ·have:=h1 k h;omega
theorem KA{l:List Int}{k:Int}(h:S.Rc l k=true):l.Pairwise (·<·):=by rw[VG];intro i j hi hj hij;exact CX h (Tn hi) (Tn hj) hij
theorem GV{l:List Int}{k:Nat}(h:S.Rc l k=true)(hk:k<=64):S.Sl (S.Re l) k=l:=by
 have hin:=bZ h;have hb:∀v,(S.Re l).testBit v=true↔(v:Int)∈l:=λv=>by rw[wW λy hy=>by have:=hin y hy;omega]
 have key:∀j:Nat,j<=k->S.Sl (S.Re l) j=l.filter λx=>decide (x<(j:Int)):=by
  intro j
  induction j with
  |zero=>intro _;rw[Vt.2 λx hx=>by have:=hin x hx;simp;omega];rfl
  | succ j ih =>
   intro hj;rw[u0,ih (by omega),show ((j+1:Nat):Int)=(j:Int)+1 by omega,CE _ (KA h)];congr 1
   by_cases hm:(j:Int)∈l
   ·rw[TE hm,TE ((hb j).2 hm)]
   ·rw[TF hm,TF λh'=>hm ((hb j).1 h')]
 rw[key k (Tp _),List.filter_eq_self];intro x hx;have:=hin x hx;simp;omega
theorem FZ{l:List Int}{k:Int}(h:S.Rc l k=true){i:Nat}{p:Int}(hp:l[i]?=some p):ej l i<p/\p<k:=by
 have h1:=bZ h p (Tv hp);refine⟨?_,h1.2⟩;unfold ej
 split
 ·omega
 ·rename_i e;have hil:=(Tu.1 hp).1;have hq:l[i - 1]?=some l[i - 1]:=Tn (by omega);rw[hq,Tq];exact ks h hq (by rw[show i - 1+1=i by omega];exact hp)
def LT0(w z:AV):List (Nat×AV):=[(1,w),(2,z),(3,.hptr 0 0 0 0),(6,.hptr 1 0 0 0),(7,.int .i64 0),(8,.hptr 3 0 0 0),(11,.hptr 4 0 0 0)]
structure TbA (g0:G) (vars:List Int) (K:Int) (w z:AV) (j:Nat) (t:T) (g:G):Prop where
 st:St t (LT0 w z)
 h10:tat t 10=.int .i64 (ej vars j)
 h32:tat t 32=z
 pl:PlI vars K K.toNat j
 nx:g0.nx<=g.nx
 fr:∀i,i<g0.nx->i≠4->g.h.get i=g0.h.get i
 h4:g.h.get 4=We 1 [[.int .u64 (S.Re (vars.take j):Int)]]
theorem Ql{d kz:Nat}{n:Net}{gr:Int}{vars:List Int}{b fl S_ w z:AV}{Q:QT}{t:T}{g g0:G}(hn:n.nodes.length<=8)(hN:SlR NoP 0 .nil n.nodes b)(hz:SlR NoP kz .nil vars z)(h4:5<=g0.nx)
  (k3:g0.h.get 3=We 4 [[.int .i64 gr,b,fl,S_]]) (k1:g0.h.get 1=We 3 [[.nils,.nils,.nils]])
  (h0:TbA g0 vars n.nodes.length w z 0 t g) (h33:tat t 33=.int .i64 (vars.length:Int)) (h34:tat t 34=.int .i64 0)
  (bad:∀t g,S.Rc vars n.nodes.length=false->tat t 6=.hptr 1 0 0 0->tat t 7=.int .i64 2->g.h.get 1=We 3 [[.nils,.nils,.nils]]->Q .ret t [] g)
  (fin:∀t g,S.Rc vars n.nodes.length=true->TbA g0 vars n.nodes.length w z vars.length t g->Q (.exit 0) t [] g):wpL (wp C0 d none jW) Q t [] g:=by
 have rz:=λh=>(hz.tree (h':=h) (Tp _):SlR NoP kz h vars z).ints;have hvl:=hz.1;have lb:=hN.len;have hbd:u9 [.nils,.nils,.nils] [] []=.val (.agg [.nils,.nils,.nils]):=rfl;simp only[jW];refine aq (m:=vars.length) (by omega) (λj t df g=>df=[]/\TbA g0 vars n.nodes.length w z j t g) ⟨rfl,h0⟩ h34 h33 (by decide)
  (by
   rintro j t df g v s (rfl|rfl|rfl) ⟨a1,⟨a2,a3,a4,a5,a6,a7,a8⟩⟩<;>(obtain⟨b1,b2,b3,b4,b5,b6,b7,-⟩:=a2;exact⟨a1,by simp[St,LT0,sx,b1,b2,b3,b4,b5,b6,b7],by simp[sx,a3],by simp[sx,a4],a5,a6,a7,a8⟩)) ?_ ?_
 ·rintro j t df g hj ⟨rfl,⟨⟨h1,h2,h3,h6,h7,h8,h11,-⟩,h10,h32,hpl,hnx,hfr,hk4⟩⟩ h34 h33;obtain⟨p,hp,htk,-⟩:=af hj;have u1:j<(vars.map ci).length:=by simpa using hj
  have u2:(vars.map ci)[j]?=some (ci p):=by rw[Tt,hp];rfl
  have hry:rR z=true:=qO (rz .nil) u1;have g3:g.h.get 3=We 4 [[.int .i64 gr,b,fl,S_]]:=by rw[hfr 3 (by omega) (by omega),k3]
  have g1:g.h.get 1=We 3 [[.nils,.nils,.nils]]:=by rw[hfr 1 (by omega) (by omega),k1]
  refine bh (P:=λt' df g'=>df=[]/\g'=g/\St t' ((13,.int .i64 p)::(10,.int .i64 (ej vars j))::(32,z)::(33,.int .i64 (vars.length:Int))::(34,.int .i64 (j:Int))::LT0 w z)) ?_ ?_
  ·simp only[sz,simprocAttr,h32,h34,rz,u1,u2,ci];simp[St,LT0,sx,h1,h2,h3,h6,h7,h8,h11,h10,h32,h33,h34]
  clear h1 h2 h3 h6 h7 h8 h11 h10 h32 h33 h34;rintro t df g' ⟨rfl,rfl,h13,h10,h32,h33,h34,h1,h2,h3,h6,h7,h8,h11,-⟩
  by_cases hc:ej vars j<p/\p<n.nodes.length
  ·refine iZ (P:=λt' df g''=>df=[]/\g''=g'/\St t' ((13,.int .i64 p)::(32,z)::(33,.int .i64 (vars.length:Int))::(34,.int .i64 (j:Int))::LT0 w z)) ?_ ?_
   ·have c1:decide (p<=ej vars j)=false:=by simp;omega
    have c2:decide ((n.nodes.length:Int)<=p)=false:=by simp;omega
    simp only[sz,simprocAttr,h13,h10,h8,g3,lb,c1,c2];simp[St,LT0,sx,h1,h2,h3,h6,h7,h8,h11,h13,h32,h33,h34]
   clear h1 h2 h3 h6 h7 h8 h11 h10 h32 h33 h34 h13;rintro t df g'' ⟨rfl,rfl,h13,h32,h33,h34,h1,h2,h3,h6,h7,h8,h11,-⟩;have pl':=FY hpl hp hc.1 hc.2 (by omega);obtain⟨pn,hpn⟩:∃pn:Nat,p=(pn:Int):=Ty (pl'.rng j p (by omega) hp).1;have hm:=oB (vars.take j);have hb1:=ij .i64 pn;have hor:=zL (S.Re (vars.take j)) (S.RN pn) hm (qh pn);have hms:S.Re (vars.take j) ||| S.RN pn=S.Re (vars.take (j+1)):=by rw[htk,xX,hpn];rfl
   rw[hms]at hor;rw[<-hpn]at hb1;refine bh (P:=λt' df g3=>df=[]/\g3=g''/\St t' ((10,.int .i64 p)::(13,.int .i64 p)::(32,z)::(33,.int .i64 (vars.length:Int))::(34,.int .i64 (j:Int))::LT0 w z)) ?_ ?_
   ·simp only[sz,simprocAttr,h13];simp[St,LT0,sx,h1,h2,h3,h6,h7,h8,h11,h13,h32,h33,h34]
   clear h1 h2 h3 h6 h7 h8 h11 h32 h33 h34 h13;rintro t df g3' ⟨rfl,rfl,h10,h13,h32,h33,h34,h1,h2,h3,h6,h7,h8,h11,-⟩;simp only[sz,simprocAttr,sf,h11,hk4,h13,hb1,hor];refine⟨?_,⟨⟨by simp[St,LT0,sx,h1,h2,h3,h6,h7,h8,h11],by simp[sx,h10,tB hp],by simp[sx,h32],pl',?_,λi hi h=>?_,?_⟩,?_,?_⟩⟩
   ·simp only[TM,TS,TL,TJ];exact aI [false,false,false,false,true] [] (by simp[All2,ae,aw]) (by decide) (by simp)
   ·simp;omega
   ·simp[Q_,h];exact hfr i hi h
   ·simp[Q_]
   ·simp[h34]
   ·simp[h33]
  ·have hpf:S.Rc vars n.nodes.length=false:=by rw[<-UG];exact λh=>hc (FZ h hp)
   simp only[sz,simprocAttr,h13,h10]
   by_cases c1:p<=ej vars j
   ·simp only[sz,simprocAttr,c1,h6,g1];exact bad _ _ hpf (by simp[sx,h6]) (by simp[sx]) (by simp[Q_])
   ·have c2:(n.nodes.length:Int)<=p:=by omega
    simp only[sz,simprocAttr,c1,h13,h8,g3,lb,c2,h6,g1];exact bad _ _ hpf (by simp[sx,h6]) (by simp[sx]) (by simp[Q_])
 ·rintro t df g ⟨rfl,h⟩;refine fin t g (A2 (v:=n.nodes.length) ?_) h;have:=h.pl;simpa using this
structure ND where
 c:Nat->Int
 P:Nat->List Int
 m:Nat->Nat
 R:Nat->Nat->List Int
 o:Nat->Nat
def LN(n:Nat)(D:ND):Ky->Prop:=λk=>k=(0,0)\/∃i q,k=(i+1,q)/\i<n/\q<2+D.o i
def Q2(D:ND)(V:Ky->AV)(i:Nat):List AV:=[.int .i64 (D.c i),V (i+1,0),V (i+1,1)]
def Q4(V:Ky->AV)(i r:Nat):List AV:=[V (i+1,2+r)]
structure BN (K n:Nat) (V:Ky->AV) (E:Ky->En) (D:ND):Prop where
 ns:E (0,0)=.sl 3 ((List.range n).map (Q2 D V))
 ps:∀i,i<n->E (i+1,0)=.sl 1 ((D.P i).map ci)/\(D.P i).length<=K
 rs:∀i,i<n->E (i+1,1)=.sl 1 ((List.range (D.m i)).map (Q4 V i))/\D.m i<=K
 rr:∀i r,i<n->r<D.m i->(D.R i r).length<=K/\((r<D.o i/\E (i+1,2+r)=.sl 1 ((D.R i r).map ci))\/SlR NoP 0 .nil (D.R i r) (V (i+1,2+r)))
def ND.node(D:ND)(i:Nat):Node:=⟨D.c i,D.P i,(List.range (D.m i)).map (D.R i)⟩
def QS(gr c:Int)(l:List Int):Prop:=(l.length:Int)=c/\(∀y∈l,0<=y/\y<=gr)/\l.sum=gr
def S.rq(gr s x:Int):Int:=gr*x / s
structure Rw1 (gr:Int) (nv u:AV) (C F j:Nat) (t:T) (g:G):Prop where
 st:St t [(0,.int .i64 gr),(1,.int .i64 (C:Int)),(2,nv),(3,.int .i64 (F:Int)),(9,u)]
 hX:∃(X:List Int) (s:Int),tat t 10=.int .i64 s/\X.length=C/\Own g 0 u 1 (X.map ci)/\(∀x∈X,0<=x/\x<=7)/\s=(X.take j).sum/\0<=s/\s<=7*j
structure Rw2 (gr s:Int) (u:AV) (C:Nat) (X:List Int) (j:Nat) (t:T) (g:G):Prop where
 st:St t [(0,.int .i64 gr),(1,.int .i64 (C:Int)),(9,u),(10,.int .i64 s)]
 hX:∃(la:Nat),tat t 12=.int .i64 (gr - ((X.take j).map (S.rq gr s)).sum)/\tat t 13=.int .i64 (la:Int)/\la<C/\Own g 0 u 1 (((X.take j).map (S.rq gr s)++X.drop j).map ci)
structure Num (n:Nat) (pl:List Int) (num:Nat->Nat):Prop where
 len:pl.length=n
 at_:∀k,k<n->pl[k]?=some (num k:Int)
 lt:∀k,k<n->num k<n
 inj:∀i j,i<n->j<n->num i=num j->i=j
 sur:∀u,u<n->∃k,k<n/\num k=u
def LNX(X:Ky->Prop)(n:Nat)(D:ND):Ky->Prop:=λk=>LN n D k\/X k
def X1:Ky->Prop:=λk=>k=(0,1)
def X2:Ky->Prop:=λk=>k=(0,1)\/k=(0,2)
structure DN (X:Ky->Prop) (r0:List AV) (n q K:Nat) (gr:Int) (V:Ky->AV) (E:Ky->En) (D:ND) (g:G):Prop where
 hp:Hp g 2 (LNX X n D) V E
 bn:BN K n V E D
 vb:V (0,1)=.hptr q 0 0 0
 bx:E (0,1)=.bx [.int .i64 gr,V (0,0)]
 h0:g.h.get 0=We 3 [r0]
 h1:g.h.get 1=We 2 [[.int .i64 0,.nils]]
structure DAok (D:ND) (n i:Nat) (num:Nat->Nat):Prop where
 e:∀v,v<n->D.P v=[]/\D.m v=0
 c:∀k,k<i->D.c (num k)=2\/D.c (num k)=3
 o:∀u,D.o u=0
def LDA(n q:Nat)(r5:AV):List (Nat×AV):=[(1,.hptr 0 0 0 0),(2,.hptr 1 0 0 0),(3,.int .i64 (n:Int)),(4,.hptr q 0 0 0),(5,r5)]
structure DA (r0:List AV) (n q:Nat) (gr:Int) (r5:AV) (num:Nat->Nat) (i:Nat) (t:T) (g:G):Prop where
 st:St t (LDA n q r5)
 w:∃w:Nat,tat t 6=.int .i64 (w:Int)/\w<=3 ^ i
 hd:∃V E D,DN X1 r0 n q 1000 gr V E D g/\DAok D n i num
theorem EJ{g:G}{b:Nat}{v x:AV}{sz bytes:Nat}{rows new:List (List AV)}{K:AV->G->Prop}{D:ADf->Prop}(hv:Own g b v sz rows)(hx:ac g.h sz x=some new)(hb:b<=g.nx)
  (hr:(rows.length+new.length)*bytes<=aQ)
  (k:∀v' g',Own g' b v' sz (rows++new)->g.nx<=g'.nx->(∀i,i<g.nx->vid v≠some i->g'.h.get i=g.h.get i)->(vid v'=vid v\/∃i,vid v'=some i/\g.nx<=i)->(∀i∈g'.lg,i∈g.lg\/vid v=some i\/g.nx<=i)->K v' g') :
  (cC sz bytes v x g).sat K g D:=by
 unfold cC;rw[hx];dsimp only;rcases hv with⟨rfl,rfl⟩|⟨id,ep,lo,h1,h2,rfl,h3⟩
 ·cases new with
  |nil=>exact k _ _ (.inl ⟨rfl,rfl⟩) (Tp _) (λ_ _ _=>rfl) (.inl rfl) (λi hi=>.inl hi)
  | cons r new =>
   simp only[bp,ax,aa,T8];rw[TE (by simpa using hr)];refine k _ _ (.inr ⟨g.nx,0,true,hb,by simp,rfl,by simp[aU]⟩) (by simp) (λi hi _=>?_) (.inr ⟨g.nx,rfl,Tp _⟩) (λi hi=>by simp at hi;rcases hi with rfl|hi;exact .inr (.inr (Tp _));exact .inl hi);rw[G.new_h,ah _ _ _ (by omega)]
 ·simp only[bp,G.get_eq,h3,ax,aa,show Nat.beq ep ep=true from Uq ep,show Nat.beq sz sz=true from Uq sz,Up,T8,Ts,T6,Vn,Vw];rw[TE ⟨Tp _,hr⟩];cases new with
  | nil =>
   rw[TE (by simp)];refine k _ _ (.inr ⟨id,ep,lo,h1,h2,by simp,by simpa using h3⟩) (Tp _) (λ_ _ _=>rfl) (.inl rfl) (λi hi=>.inl hi)
  | cons r new =>
   rw[TF (by simp)];have ht:jO rows.length (i_ 0 rows)=rows:=by rw[a_,bj];simp
   cases lo with
   | false =>
    rw[TE (by simp)];refine k _ _ (.inr ⟨g.nx,0,true,by omega,by simp,by simp,by simp[aU,ht]⟩) (by simp) (λi hi _=>?_) (.inr ⟨g.nx,rfl,Tp _⟩) (λi hi=>by simp at hi;rcases hi with rfl|hi;exact .inr (.inr (Tp _));exact .inl hi);rw[G.new_h,ah _ _ _ (by omega)]
   | true =>
    rw[TF (by simp)];refine k _ _ (.inr ⟨id,ep+1,true,h1,by simpa using h2,by simp,by simp[aU,ht]⟩) (by simp) (λi hi hne=>?_) (.inl rfl) (λi hi=>by simp at hi;rcases hi with rfl|hi;exact .inr (.inl rfl);exact .inl hi);rw[G.put_h,ah _ _ _ (λe=>hne (by rw[e];rfl))]
section
variable {κ:Type} [DecidableEq κ]{g:G}{b:Nat}{L:κ->Prop}{V:κ->AV}{E:κ->En}{k:κ}
theorem Hp.app2(h:Hp g b L V E)(hk:L k){sz bytes:Nat}{rows new:List (List AV)}(he:E k=.sl sz rows){x:AV}{K:AV->G->Prop}{D:ADf->Prop}(hx:ac g.h sz x=some new)
  (hr:(rows.length+new.length)*bytes<=aQ)
  (kk:∀v' g',Hp g' b L (ups V k v') (ups E k (.sl sz (rows++new)))->g.nx<=g'.nx->(∀i,i<b->g'.h.get i=g.h.get i)->(∀i,i<g.nx->eid (V k)≠some i->g'.h.get i=g.h.get i)->(∀i∈g'.lg,i∈g.lg\/eid (V k)=some i\/g.nx<=i)->v'.cells=[v']->v'.isTup=false->K v' g') :
  (cC sz bytes (V k) x g).sat K g D:=by
 have ho:=h.own hk he;refine EJ ho hx h.nx hr λv' g' hv' hn hf hvid hlg=>?_;refine kk v' g' (h.set hk (e':=.sl sz (rows++new)) hv' hn (λi _ hi hne=>hf i hi (by rw[<-du ho];exact hne)) ?_) hn (λi hi=>hf i (TX hi h.nx) λe=>by have:=(ho.lt e).1;omega)
  (λi hi hne=>hf i hi (by rw[<-du ho];exact hne)) (λi hi=>by rw[du ho];exact hlg i hi) hv'.cell.1 hv'.cell.2
 rw[du hv',du ho];exact hvid
end
structure DB (D:ND) (n i v:Nat) (num:Nat->Nat):Prop where
 c:∀u,u<n->D.c u=2\/D.c u=3
 p:∀u,u<n->(D.P u).length<=3/\∀y∈D.P u,0<=y/\y<n
 m:∀u,u<n->D.m u<=64
 o:∀u,D.o u=0
 f:∀k,i<k->k<n->D.P (num k)=[]/\D.m (num k)=0
def S.Tk(P0:List Int)(c0:Nat->Int):Int:=S.Q5 (P0.map λy=>c0 y.toNat)
structure DOk (gr:Int) (D:ND) (n i:Nat) (num:Nat->Nat):Prop where
 s:∀u,u<n->(D.P u).Pairwise (·<·)
 a:∀k,k<n->∀y∈D.P (num k),∃k',k'<k/\y=(num k':Int)
 w:∀k,k<i->(D.m (num k):Int)=S.Tk (D.P (num k)) D.c
 r:∀u r,u<n->r<D.m u->QS gr (D.c u) (D.R u r)
def LDB(n q i p v:Nat)(r5:AV):List (Nat×AV):=[(1,.hptr 0 0 0 0),(2,.hptr 1 0 0 0),(3,.int .i64 (n:Int)),(4,.hptr q 0 0 0),(5,r5),(10,.int .i64 (i:Int)),(11,.hptr p 0 0 0),(12,.int .i64 (v:Int))]
structure DP (r0 prow:List AV) (n q i p v:Nat) (gr:Int) (r5:AV) (num:Nat->Nat) (g:G) (V:Ky->AV) (E:Ky->En) (D:ND):Prop where
 dn:DN X2 r0 n q 1000 gr V E D g
 pb:V (0,2)=.hptr p 0 0 0/\E (0,2)=.bx prow
 db:DB D n i v num
 mv:D.m v=0
 ok:DOk gr D n i num
end
end Hx
end
section
namespace Hx
open Go
noncomputable section
structure DJ (r0 prow:List AV) (n q i p v u:Nat) (gr:Int) (r5:AV) (num:Nat->Nat) (j:Nat) (t:T) (g:G):Prop where
 st:St t ((13,.int .i64 (u:Int))::LDB n q i p v r5)
 hd:∃V E D,DP r0 prow n q i p v gr r5 num g V E D/\(∀y∈D.P v,y<=(u:Int))/\((∃k,k<j/\num k=u)\/∀y∈D.P v,y<(u:Int))
structure DK (r0 prow:List AV) (n q i p v:Nat) (gr:Int) (r5:AV) (num:Nat->Nat) (j:Nat) (t:T) (g:G):Prop where
 st:St t (LDB n q i p v r5)
 hd:∃V E D,DP r0 prow n q i p v gr r5 num g V E D/\∀y∈D.P v,y<(j:Int)
structure DQ (r0 prow:List AV) (n q i p v j:Nat) (gr:Int) (r5:AV) (num:Nat->Nat) (P0:List Int) (c0:Nat->Int) (g:G) (V:Ky->AV) (E:Ky->En) (D:ND):Prop where
 dn:DN X2 r0 n q 1000 gr V E D g
 pb:V (0,2)=.hptr p 0 0 0/\E (0,2)=.bx prow
 db:DB D n i v num
 mv:D.m v=j
 pv:D.P v=P0
 cv:D.c=c0
 ok:DOk gr D n i num
structure DRw (r0 prow:List AV) (n q i p v j:Nat) (gr:Int) (r5:AV) (num:Nat->Nat) (P0:List Int) (c0:Nat->Int) (t:T) (g:G):Prop where
 st:St t (LDB n q i p v r5)
 hd:∃V E D,DQ r0 prow n q i p v j gr r5 num P0 c0 g V E D
structure DBl (D:ND) (n i:Nat) (num:Nat->Nat):Prop where
 c:∀u,u<n->D.c u=2\/D.c u=3
 p:∀u,u<n->(D.P u).length<=3/\∀y∈D.P u,0<=y/\y<n
 m:∀u,u<n->D.m u<=64
 o:∀u,D.o u=0
 f:∀k,i<=k->k<n->D.P (num k)=[]/\D.m (num k)=0
structure DL (r0:List AV) (n q:Nat) (gr:Int) (r5:AV) (num:Nat->Nat) (i:Nat) (t:T) (g:G):Prop where
 st:St t (LDA n q r5)
 hd:∃V E D,DN X1 r0 n q 1000 gr V E D g/\DBl D n i num/\DOk gr D n i num
structure Drafted (m:Net):Prop where
 l:1<=m.nodes.length/\m.nodes.length<=5
 c:∀x∈m.nodes,x.card=2\/x.card=3
 b:∀x∈m.nodes,x.parents.length<=1000/\x.rows.length<=1000/\∀r∈x.rows,r.length<=1000
 nr:NR m
def V0(W:AV)(q:Nat):Ky->AV:=λk=>match k with
 | (0,0)=>W
 | (0,1)=>.hptr q 0 0 0
 |_=>.nils
def E0(W:AV)(n:Nat)(gr:Int):Ky->En:=λk=>match k with
 | (0,0)=>.sl 3 (List.replicate n [.int .i64 0,.nils,.nils])
 | (0,1)=>.bx [.int .i64 gr,W]
 |_=>.sl 1 []
def D0:ND:=⟨λ_=>0,λ_=>[],λ_=>0,λ_ _=>[],λ_=>0⟩
theorem hp0{W:AV}{n q:Nat}{gr:Int}{g:G}(hW:Own g 2 W 3 (List.replicate n [.int .i64 0,.nils,.nils]))(hq:g.h.get q=We 2 [[.int .i64 gr,W]])(h2:2<=q/\q<g.nx)(hne:vid W≠some q):Hp g 2 (LNX X1 n D0) (V0 W q) (E0 W n gr):=by
 have hk:∀k,LNX X1 n D0 k->k=(0,0)\/k=(0,1)\/∃i s,k=(i+1,s):=λk h=>by
  rcases h with h|h
  ·rcases h with h|⟨i,s,h,-⟩
   ·exact .inl h
   ·exact .inr (.inr ⟨i,s,h⟩)
  ·exact .inr (.inl h)
 refine⟨λk h=>?_,λk l h h' hkl id h1 h3=>?_,by omega⟩
 ·rcases hk k h with rfl|rfl|⟨i,s,rfl⟩
  ·exact hW
  ·exact⟨q,h2.1,h2.2,rfl,hq⟩
  ·exact .inl ⟨rfl,rfl⟩
 ·rcases hk k h with rfl|rfl|⟨i,s,rfl⟩<;>rcases hk l h' with rfl|rfl|⟨i',s',rfl⟩
  ·exact hkl rfl
  ·have h1:eid W=some id:=h1;have h3:some q=some id:=h3;rw[du hW]at h1;injection h3 with h3;subst h3;exact hne h1
  ·cases h3
  ·have h3:eid W=some id:=h3;have h1:some q=some id:=h1;rw[du hW]at h3;injection h1 with h1;subst h1;exact hne h3
  ·exact hkl rfl
  ·cases h3
  ·cases h1
  ·cases h1
  ·cases h1
def Qr(V:Ky->AV)(i:Nat)(c:Int):List AV:=[.int .i64 c,V (i+1,0),V (i+1,1)]
structure NdOk (K:Nat) (V:Ky->AV) (E:Ky->En) (i:Nat) (x:Node):Prop where
 ps:E (i+1,0)=.sl 1 (x.parents.map ci)
 rs:∃rws,E (i+1,1)=.sl 1 rws/\rws.length=x.rows.length/\∀(r:Nat) (y:List Int),x.rows[r]?=some y->rws[r]?=some [V (i+1,2+r)]
 rr:∀(r:Nat) (y:List Int),x.rows[r]?=some y->E (i+1,2+r)=.sl 1 (y.map ci)
 len:x.parents.length<=K/\x.rows.length<=K/\∀y∈x.rows,y.length<=K
def LS(L:List Node):Ky->Prop:=λk=>k=(0,0)\/∃i q x,k=(i+1,q)/\L[i]?=some x/\q<2+x.rows.length
structure BLs (K:Nat) (V:Ky->AV) (E:Ky->En) (L:List Node):Prop where
 ns:∃rows,E (0,0)=.sl 3 rows/\rows.length=L.length/\∀(i:Nat) (x:Node),L[i]?=some x->rows[i]?=some (Qr V i x.card)
 nd:∀(i:Nat) (x:Node),L[i]?=some x->NdOk K V E i x
def BBn(g:G)(brow:List AV)(gr:Int)(b:AV):Prop:=g.h.get 0=We 4 [brow]/\g.h.get 1=We 2 [[.int .i64 gr,b]]/\g.h.get 2=We 2 [[.int .i64 0,.nils]]
def LX(L:List Node)(x:Node):Ky->Prop:=λk=>LS L k\/k=(0,1)\/∃q,k=(L.length+1,q)/\q<2+x.rows.length
structure NB (K p:Nat) (L:List Node) (x:Node) (g:G) (brow:List AV) (gr:Int) (b W:AV) (V:Ky->AV) (E:Ky->En):Prop where
 hp:Hp g 3 (LX L x) V E
 bb:BBn g brow gr b
 vb:V (0,1)=.hptr p 0 0 0
 bx:E (0,1)=.bx (Qr V L.length x.card)
 nd:NdOk K V E L.length x
 bl:BLs K V E L
 vw:V (0,0)=W
structure Oth (K:Nat) (L:List Node) (J:Nat) (V:Ky->AV) (E:Ky->En) (rows:List (List AV)):Prop where
 len:rows.length=L.length
 ns:∀(i:Nat) (y:Node),i≠J->L[i]?=some y->rows[i]?=some (Qr V i y.card)
 nd:∀(i:Nat) (y:Node),i≠J->L[i]?=some y->NdOk K V E i y
structure BS (K J:Nat) (L:List Node) (x:Node) (bx:H9) (gr Rw:Int) (t:T) (g:G) (V:Ky->AV) (E:Ky->En):Prop where
 st:St t [(2,.hptr 0 0 0 0),(3,.hptr 1 0 0 0),(4,.hptr 2 0 0 0),(10,nX 3 (V (0,0)) J 0),(11,.int .i64 Rw)]
 hp:Hp g 3 (LS L) V E
 f0:g.h.get 0=We 4 [[u8v bx.1,u8v bx.2.1,u8v bx.2.2.1,.int .i64 bx.2.2.2]]
 f1:g.h.get 1=We 2 [[.int .i64 gr,V (0,0)]]
 f2:g.h.get 2=We 2 [[.int .i64 0,.nils]]
 bl:BLs K V E L
 hx:L[J]?=some x
 hR:(Rw = -1/\x.rows.length=0)\/∃r:Nat,Rw=(r:Int)/\r<x.rows.length
 hK:K<=1000000
 hl:L.length<=K
structure BT (K J:Nat) (L:List Node) (x:Node) (g:G) (V:Ky->AV) (E:Ky->En) (rows:List (List AV)):Prop where
 own:Own g 3 (V (0,0)) 3 rows
 e0:E (0,0)=.sl 3 rows
 ry:rR (V (0,0))=true
 hlt:J<rows.length
 row:rows[J]?=some [.int .i64 x.card,V (J+1,0),V (J+1,1)]
 oth:Oth K L J V E rows
 nd:NdOk K V E J x
section
variable {d K J:Nat}{L:List Node}{x:Node}{bx:H9}{gr Rw:Int}{t:T}{g:G}{V:Ky->AV}{E:Ky->En}{Q:QT}
end
end
end Hx
end
section
namespace Hx
open Go
noncomputable section
structure BW (x:Node) (J:Nat) (g:G) (V:Ky->AV) (E:Ky->En) (rws:List (List AV)):Prop where
 own:Own g 3 (V (J+1,1)) 1 rws
 e1:E (J+1,1)=.sl 1 rws
 len:rws.length=x.rows.length
 at_:∀(r:Nat) (y:List Int),x.rows[r]?=some y->rws[r]?=some [V (J+1,2+r)]
section
variable {d K J:Nat}{L:List Node}{x:Node}{bx:H9}{gr Rw:Int}{t:T}{g:G}{V:Ky->AV}{E:Ky->En}{Q:QT}
end
end
end Hx
end
section
namespace Hx
open Go
noncomputable section
def Node.wr(x:Node)(r:Nat)(y:List Int):Node:=⟨x.card,x.parents,x.rows.set r y⟩
section
variable {d K J r:Nat}{L:List Node}{x:Node}{bx:H9}{gr Rw:Int}{t t':T}{g gb:G}{V:Ky->AV}{E:Ky->En}{Q:QT}{y y':List Int}
structure BR (x:Node) (J r:Nat) (y:List Int) (g:G) (V:Ky->AV) (E:Ky->En) (rws:List (List AV)):Prop where
 wr:ac g.h 1 (V (J+1,1))=some rws
 rl:r<rws.length
 rw_:rws[r]?=some [V (J+1,2+r)]
 ry:rR (V (J+1,1))=true
 yr:ac g.h 1 (V (J+1,2+r))=some (y.map ci)
 ye:E (J+1,2+r)=.sl 1 (y.map ci)
 yl:y.length<=K
end
end
end Hx
end
section
namespace Hx
open Go
noncomputable section
theorem Qy(a b:Int):DI false (.flat [.int .i64,.int .i64]) (.agg [.int .i64 a,.int .i64 b]) (.agg [.int .i64 a,.int .i64 b])=.val (.bool true):=by
 have ha:Fu a a=true:=by rw[qF];simp
 have hb:Fu b b=true:=by rw[qF];simp
 simp only[DI,eqA,dN,eF,oS,ha,hb]
 rfl
def K3:Nat->Prop:=λk=>k<=2
def LT1(w z:AV)(p:Nat):List (Nat×AV):=[(1,w),(2,z),(6,.hptr 1 0 0 0),(8,.hptr 3 0 0 0),(11,.hptr 4 0 0 0),(14,.hptr p 0 0 0)]
structure TbH (l cl:List Int) (p:Nat) (V:Nat->AV) (E:Nat->En) (g:G):Prop where
 hp:Hp g 5 K3 V E
 v0:V 0=.hptr p 0 0 0
 e0:E 0=.bx [V 1,V 2,.nils]
 e1:E 1=.sl 1 (l.map ci)
 e2:E 2=.sl 1 (cl.map ci)
theorem TbH.box{l cl:List Int}{p:Nat}{V:Nat->AV}{E:Nat->En}{g:G}(h:TbH l cl p V E g):g.h.get p=We 3 [[V 1,V 2,.nils]]/\5<=p/\p<g.nx:=by obtain⟨id,h1,h2,h3,h4⟩:=h.hp.box (k:=0) (by simp[K3]) h.e0;rw[h.v0]at h3;injection h3 with h3;subst h3;exact⟨h4,h1,h2⟩
structure TbB (g0:G) (cs vars:List Int) (w z:AV) (p j:Nat) (t:T) (g:G):Prop where
 st:St t (LT1 w z p)
 h15:tat t 15=.int .i64 (S.Q5 (S.Q7 cs (vars.take j)))
 h57:tat t 57=z
 hd:∃V E,TbH (vars.take j) (S.Q7 cs (vars.take j)) p V E g
 fr:∀i,i<5->g.h.get i=g0.h.get i
theorem M8(c:Int):S.Q5 [c]=c:=by simp[S.Q5]
theorem Qm{d kz:Nat}{n:Net}{vars:List Int}{b fl S_ w z:AV}{p:Nat}{Q:QT}{t:T}{g g0:G}(hr:NR n)(hN:SlR NoP 0 .nil n.nodes b)(hz:SlR NoP kz .nil vars z)(hpl:S.Rc vars n.nodes.length=true)
  (k3:g0.h.get 3=We 4 [[.int .i64 n.grain,b,fl,S_]])
  (h0:TbB g0 (S.Q6 n) vars w z p 0 t g) (h58:tat t 58=.int .i64 (vars.length:Int)) (h59:tat t 59=.int .i64 0)
  (fin:∀t g,TbB g0 (S.Q6 n) vars w z p vars.length t g->Q (.exit 2) t [] g):wpL (wp C0 d none jX) Q t [] g:=by
 have rz:=λh=>(hz.tree (h':=h) (Tp _):SlR NoP kz h vars z).ints;have hvl:=ku hpl (by omega);have hl8:=hr.l2;have hin:=bZ hpl;obtain⟨rows,r1,r2,r3,r4⟩:=hN.all;have r1:∀h',ac h' 3 b=some rows:=r1;simp only[jX];refine aq (m:=vars.length) (by omega) (λj t df g=>df=[]/\TbB g0 (S.Q6 n) vars w z p j t g) ⟨rfl,h0⟩ h59 h58 (by decide)
  (by
   rintro j t df g v s (rfl|rfl|rfl) ⟨a1,⟨a2,a3,a4,a5,a6⟩⟩<;>(obtain⟨b1,b2,b3,b4,b5,b6,-⟩:=a2;exact⟨a1,by simp[St,LT1,sx,b1,b2,b3,b4,b5,b6],by simp[sx,a3],by simp[sx,a4],a5,a6⟩)) ?_ ?_
 ·rintro j t df g hj ⟨rfl,⟨⟨h1,h2,h6,h8,h11,h14,-⟩,h15,h57,⟨V,E,hT⟩,hfr⟩⟩ h59 h58;obtain⟨v,hv,htk,hm⟩:=af hj;have hvi:=hin v hm;obtain⟨vn,hvn⟩:∃vn:Nat,v=(vn:Int):=Ty hvi.1;obtain⟨x,hx,-,-⟩:=af (l:=n.nodes) (j:=vn) (by omega);obtain⟨row,q1,q2⟩:=r3 vn x hx;obtain⟨fa,fb,rfl,-⟩:=fm.1 q2;have hlt:vn<rows.length:=by omega
  have hryb:=r4 (by omega);have u1:j<(vars.map ci).length:=by simpa using hj
  have u2:(vars.map ci)[j]?=some (ci v):=by rw[Tt,hv];rfl
  have hry:rR z=true:=qO (rz .nil) u1;have hcx:S.Q7 (S.Q6 n) (vars.take (j+1))=S.Q7 (S.Q6 n) (vars.take j)++[x.card]:=by rw[htk,bU];congr 1;simp[S.Q7,hvn,S.Q6,hx]
  have hcard:=hr.card x (Tv hx);have hcb:∀k,∀c∈S.Q7 (S.Q6 n) (vars.take k),1<=c/\c<=4:=λk=>bG hr.cs λy hy=>by rw[aY];exact hin y (Uc hy)
  have hp1:=ba (hcb (j+1));have hp2:=bI (a:=(S.Q7 (S.Q6 n) (vars.take (j+1))).length) (b:=8) (by rw[eM,Un];omega);have hp3:(4:Int) ^ 8=65536:=by decide
  have hprod:S.Q5 (S.Q7 (S.Q6 n) (vars.take j))*x.card=S.Q5 (S.Q7 (S.Q6 n) (vars.take (j+1))):=by rw[hcx,nL,M8]
  have w1:IntKind.wrap .i64 (S.Q5 (S.Q7 (S.Q6 n) (vars.take j))*x.card)=S.Q5 (S.Q7 (S.Q6 n) (vars.take (j+1))):=by rw[hprod,au (by omega) (by omega)]
  refine bh (P:=λt' df g'=>df=[]/\g'=g/\St t' ((17,.int .i64 v)::(15,.int .i64 (S.Q5 (S.Q7 (S.Q6 n) (vars.take j))))::(57,z)::(58,.int .i64 (vars.length:Int))::(59,.int .i64 (j:Int))::LT1 w z p)) ?_ ?_
  ·simp only[sz,simprocAttr,h57,h59,rz,u1,u2,ci];simp[St,LT1,sx,h1,h2,h6,h8,h11,h14,h15,h57,h58,h59]
  clear h1 h2 h6 h8 h11 h14 h15 h57 h58 h59;rintro t df g' ⟨rfl,rfl,ht⟩;refine bh (P:=λt' df g''=>df=[]/\St t' ((17,.int .i64 v)::(15,.int .i64 (S.Q5 (S.Q7 (S.Q6 n) (vars.take j))))::(57,z)::(58,.int .i64 (vars.length:Int))::(59,.int .i64 (j:Int))::LT1 w z p)/\(∃V E,TbH (vars.take (j+1)) (S.Q7 (S.Q6 n) (vars.take j)) p V E g'')/\∀i,i<5->g''.h.get i=g0.h.get i) ?_ ?_
  ·obtain⟨h17,h15,h57,h58,h59,h1,h2,h6,h8,h11,h14,-⟩:=ht;obtain⟨kb,hp5,hpn⟩:=hT.box;have hnx:=hT.hp.nx;simp only[sz,simprocAttr,h14,h17,kb];refine (hT.hp.step (g':=_) (by simp) (λi hi hi2=>?_)).app (k:=1) (by simp[K3]) hT.e1 (new:=[ci v]) (by simp[sx,sy,ci]) (by simp[aQ];omega) λv1 g1 hH1 n1 fb1 fo1 _ vc vt=>?_
   ·simp[Q_];omega
   simp only[sx,sy]at n1 fb1 fo1;obtain⟨id,b1,b2,b3,b4⟩:=hH1.box (k:=0) (by simp[K3]) (by rw[aJ _ _ (by simp)];exact hT.e0);rw[aJ _ _ (by simp),hT.v0]at b3;injection b3 with b3;subst b3;have b4:g1.h.get p=We 3 [[V 1,V 2,.nils]]:=b4;simp only[sz,simprocAttr,h14,b4,vc,vt];have hHb:=hH1.putb (k:=0) (by simp[K3]) (row:=[V 1,V 2,.nils]) (row':=[v1,V 2,.nils]) (by rw[aJ _ _ (by simp)];exact hT.e0) (by rw[aJ _ _ (by simp)];exact hT.v0) rfl;refine⟨by simp[St,LT1,sx,h17,h15,h57,h58,h59,h1,h2,h6,h8,h11,h14],⟨_,_,hHb,by rw[aJ _ _ (by simp)];exact hT.v0,by rw[bB,bB,aJ _ _ (by simp)],?_,by rw[aJ _ _ (by simp),aJ _ _ (by simp)];exact hT.e2⟩,λi hi=>?_⟩
   ·rw[aJ _ _ (by simp),bB,htk];simp
   ·simp[show ¬i=p by omega];rw[fb1 i (by omega),TF (by omega),hfr i hi]
  clear ht hT hfr;rintro t df g1 ⟨rfl,ht,⟨V,E,hT⟩,hfr⟩;refine iZ (P:=λt' df g''=>df=[]/\St t' ((17,.int .i64 v)::(15,.int .i64 (S.Q5 (S.Q7 (S.Q6 n) (vars.take j))))::(57,z)::(58,.int .i64 (vars.length:Int))::(59,.int .i64 (j:Int))::LT1 w z p)/\(∃V E,TbH (vars.take (j+1)) (S.Q7 (S.Q6 n) (vars.take (j+1))) p V E g'')/\∀i,i<5->g''.h.get i=g0.h.get i) ?_ ?_
  ·obtain⟨h17,h15,h57,h58,h59,h1,h2,h6,h8,h11,h14,-⟩:=ht;obtain⟨kb,hp5,hpn⟩:=hT.box;have hnx:=hT.hp.nx;have kq:g1.h.get 3=We 4 [[.int .i64 n.grain,b,fl,S_]]:=by rw[hfr 3 (by omega),k3]
   rw[hvn]at h17;simp only[sz,simprocAttr,sf,h8,h14,h17,kb,kq,r1,hlt,q1,hryb];refine (hT.hp.step (g':=_) (by simp;omega) (λi hi hi2=>?_)).app2 (k:=2) (by simp[K3]) hT.e2 (new:=[ci x.card]) (by simp[sx,sy,ci]) (by simp[aQ,eM];omega) λv1 g2 hH1 n1 fb1 fo1 lg1 vc vt=>?_
   ·simp[Q_];omega
   simp only[sx,sy]at n1 fb1 fo1 lg1;obtain⟨id,b1,b2,b3,b4⟩:=hH1.box (k:=0) (by simp[K3]) (by rw[aJ _ _ (by simp)];exact hT.e0);rw[aJ _ _ (by simp),hT.v0]at b3;injection b3 with b3;subst b3;have b4:g2.h.get p=We 3 [[V 1,V 2,.nils]]:=b4;simp only[sz,simprocAttr,sf,h14,b4,vc,vt];have hHb:=(hH1.same (g':=aO (im (aO (im g2 []) []) []) []) (by simp) (by simp;omega)).putb (k:=0) (by simp[K3]) (row:=[V 1,V 2,.nils]) (row':=[V 1,v1,.nils]) (by rw[aJ _ _ (by simp)];exact hT.e0) (by rw[aJ _ _ (by simp)];exact hT.v0) rfl;refine⟨?_,by rw[<-hvn]at h17;simp[St,LT1,sx,h17,h15,h57,h58,h59,h1,h2,h6,h8,h11,h14],⟨_,_,hHb.same (by simp) (by simp),by rw[aJ _ _ (by simp)];exact hT.v0,by rw[bB,bB,aJ _ _ (by simp)],by rw[aJ _ _ (by simp),aJ _ _ (by simp)];exact hT.e1,?_⟩,λi hi=>?_⟩
   ·simp only[TM,TS,TL,TJ];refine aI [false,false,false,false,false,false,false,false,false,true,true,false,true] [(0,9),(1,9)] (by simp[All2,ae,aw]) (by decide) ?_;rintro q hp' x y hx hy;simp only[T3,TV,U_]at hp';rcases hp' with rfl|rfl<;>(simp at hx hy;subst hx;subst hy;refine bO rfl rfl rfl rfl ?_ ?_ ?_<;>simp[ae,aw,ak]<;>omega)
   ·rw[aJ _ _ (by simp),bB,hcx];simp
   ·simp[show ¬i=p by omega];rw[fb1 i (by omega),TF (by omega),hfr i hi]
  clear ht hT hfr;rintro t df g2 ⟨rfl,⟨h17,h15,h57,h58,h59,h1,h2,h6,h8,h11,h14,-⟩,hT,hfr⟩;have kq:g2.h.get 3=We 4 [[.int .i64 n.grain,b,fl,S_]]:=by rw[hfr 3 (by omega),k3]
  rw[hvn]at h17;simp only[sz,simprocAttr,h8,h15,h17,kq,r1,hlt,q1,hryb,w1];exact⟨⟨by simp[St,LT1,sx,h1,h2,h6,h8,h11,h14],by simp[sx],by simp[sx,h57],hT,hfr⟩,h59,h58⟩
 ·rintro t df g ⟨rfl,h⟩;exact fin t g h
def PC(h:H):Nat->Prop:=λi=>5<=i/\∃sz rows ep lo fz,h.get i=.cells sz rows ep lo fz
theorem Own.pc{g:G}{v:AV}{l:List Int}(h:Own g 5 v 1 (l.map ci))(hl:l.length<9223372036854775808):SlR (PC g.h) 0 g.h l v:=by
 refine Own.sl (α:=Int) h hl (Q5 (λa=>aB.2 rfl) _) λi hi=>⟨(h.lt hi).1,?_⟩;rcases h with⟨rfl,-⟩|⟨id,ep,lo,-,-,rfl,h3⟩
 ·cases hi
 ·injection hi with hi;subst hi;exact⟨_,_,_,_,_,h3⟩
def K4:Nat->Prop:=λk=>k<=3
structure TbW (g0:G) (l cl W:List Int) (p r m:Nat) (V:Nat->AV) (E:Nat->En) (g:G):Prop where
 hp:Hp g 5 K4 V E
 v0:V 0=.hptr p 0 0 0
 e0:E 0=.bx [V 1,V 2,V 3]
 e1:E 1=.sl 1 (l.map ci)
 e2:E 2=.sl 1 (cl.map ci)
 e3:E 3=.sl 1 (W.map ci)
 nw:∀i,eid (V 3)=some i->g0.nx<=i
 fr:∀i,i<g0.nx->i≠p->g.h.get i=g0.h.get i
theorem TbW.box{g0:G}{l cl W:List Int}{p r m:Nat}{V:Nat->AV}{E:Nat->En}{g:G}(h:TbW g0 l cl W p r m V E g):g.h.get p=We 3 [[V 1,V 2,V 3]]/\5<=p/\p<g.nx:=by obtain⟨id,h1,h2,h3,h4⟩:=h.hp.box (k:=0) (by simp[K4]) h.e0;rw[h.v0]at h3;injection h3 with h3;subst h3;exact⟨h4,h1,h2⟩
theorem Qn{d:Nat}{l cl:List Int}{w z:AV}{p r m sz:Nat}{Q:QT}{t:T}{g0:G}{dl:List ADf}{V:Nat->AV}{E:Nat->En}{L:List (Int×Int)}{W:List Int}(hl:l.length<=1000)(hcl:cl.length<=1000)(hsz:sz<=65536)
  (ht:St t ((18,.hptr r 0 0 0)::(15,.int .i64 (sz:Int))::LT1 w z p)) (hT:TbH l cl p V E g0) (hr:g0.h.get r=We 1 [[.hmap m]]) (hm:g0.h.get m=.map (mcl ik L)) (hrp:r≠p/\r<g0.nx) (hmp:m≠p/\m<g0.nx)
  (hW:W.length=sz) (hWg:∀i,i<sz->W[i]?.getD 0=mgt L (i:Int)) (h1:g0.h.get 1=We 3 [[.nils,.nils,.nils]])
  (fin:∀t g a1 a2 a3,tat t 6=.hptr 1 0 0 0->tat t 7=.int .i64 0->g.h.get 1=We 3 [[a1,a2,a3]]->SlR (PC g.h) 0 g.h l a1->SlR (PC g.h) 0 g.h cl a2->SlR (PC g.h) 0 g.h W a3->(∀i,i<g0.nx->i≠1->i≠p->g.h.get i=g0.h.get i)->Q .ret t dl g) :
  wp C0 d none jZ Q t dl g0:=by
 unfold jZ;obtain⟨kb,hp5,hpn⟩:=hT.box;have hnx:=hT.hp.nx;refine bh (P:=λt' df g'=>dl=df/\St t' ((18,.hptr r 0 0 0)::LT1 w z p)/\∃V E,TbW g0 l cl (List.replicate sz 0) p r m V E g') ?_ ?_
 ·obtain⟨h18,h15,h1',h2,h6,h8,h11,h14,-⟩:=ht;simp only[sx,SO.run,↓reduceIte,h15];refine jA (b:=5) (n:=sz) (by unfold aQ;omega) (by unfold aQ;omega) hnx λU g1 hU n1 f1 vU=>?_;have hH:=hT.hp.add (g':=g1) (k:=3) (L':=K4) (v':=U) (e':=.sl 1 ((List.replicate sz (0:Int)).map ci)) (by simp[K3]) (by rw[VE];exact hU) (by omega) (λi _ hi=>f1 i (by omega)) (λi hi=>by rw[du hU]at hi;have:=bi vU hi;omega) (λk hk=>by
   have hk:k<=3:=hk
   by_cases e:k=3
   ·exact .inr e
   ·exact .inl (by show k<=2;omega))
  have kb1:g1.h.get p=We 3 [[V 1,V 2,.nils]]:=by rw[f1 p (by omega),kb]
  simp only[sx,sy,SO.run,↓reduceIte,Nat.reduceEqDiff,Nat.reduceAdd,Nat.reduceLeDiff,h14,kb1,hU.cell.1,hU.cell.2];have hHb:=hH.putb (k:=0) (by simp[K4]) (row:=[V 1,V 2,.nils]) (row':=[V 1,V 2,U]) (by rw[aJ _ _ (by simp)];exact hT.e0) (by rw[aJ _ _ (by simp)];exact hT.v0) rfl;refine⟨by simp[St,LT1,sx,h18,h1',h2,h6,h8,h11,h14],_,_,hHb,by rw[aJ _ _ (by simp)];exact hT.v0,by rw[bB,bB,aJ _ _ (by simp),aJ _ _ (by simp)],by rw[aJ _ _ (by simp),aJ _ _ (by simp)];exact hT.e1,by rw[aJ _ _ (by simp),aJ _ _ (by simp)];exact hT.e2,by rw[aJ _ _ (by simp),bB],λi hi=>?_,λi hi hip=>?_⟩
  ·rw[bB,du hU]at hi;have:=bi vU hi;omega
  ·simp[Q_,hip];exact f1 i hi
 clear ht;rintro t df g1 ⟨rfl,⟨h18,h1',h2,h6,h8,h11,h14,-⟩,V,E,hT⟩;obtain⟨FR,hFR⟩:∃FR,FR=jY:=⟨_,rfl⟩;rw[<-hFR];refine iZ (P:=λt' df g'=>dl=df/\St t' ((18,.hptr r 0 0 0)::LT1 w z p)/\∃V E,TbW g0 l cl W p r m V E g') ?_ ?_
 ·obtain⟨kb1,-,-⟩:=hT.box;have o3:=hT.hp.own (k:=3) (by simp[K4]) hT.e3;have l3:=bQ o3.rows;rw[Tz,TY]at l3;simp only[sx,sy,SO.run,↓reduceIte,h14,kb1,l3];simp only[pO];refine aq (m:=sz) (by omega) (λj t df g=>dl=df/\St t ((18,.hptr r 0 0 0)::LT1 w z p)/\∃V E,TbW g0 l cl (W.take j++List.replicate (sz - j) 0) p r m V E g) ⟨rfl,by simp[St,LT1,sx,h18,h1',h2,h6,h8,h11,h14],V,E,by simpa using hT⟩ (by simp[sx]) (by simp[sx]) (by decide)
   (by rintro j t df g v s (rfl|rfl|rfl) ⟨a1,⟨b0,b1,b2,b3,b4,b5,b6,-⟩,a3⟩<;>exact⟨a1,by simp[St,LT1,sx,b0,b1,b2,b3,b4,b5,b6],a3⟩) ?_ ?_
  ·clear h18 h1' h2 h6 h8 h11 h14 hT kb1 o3 l3;rintro j t df g hj ⟨rfl,⟨h18,h1',h2,h6,h8,h11,h14,-⟩,V,E,hT⟩ h112 h111;obtain⟨kb1,-,-⟩:=hT.box;have o3:=hT.hp.own (k:=3) (by simp[K4]) hT.e3;have kr:g.h.get r=We 1 [[.hmap m]]:=by rw[hT.fr r hrp.2 hrp.1,hr]
   have km:g.h.get m=.map (mcl ik L):=by rw[hT.fr m hmp.2 hmp.1,hm]
   have hlen:(W.take j++List.replicate (sz - j) (0:Int)).length=sz:=by simp;omega
   have u1:j<((W.take j++List.replicate (sz - j) (0:Int)).map ci).length:=by rw[Tz,hlen];exact hj
   obtain⟨y,hy⟩:∃y,(W.take j++List.replicate (sz - j) (0:Int))[j]?=some y:=⟨_,Tn (by omega)⟩;have u2:((W.take j++List.replicate (sz - j) (0:Int)).map ci)[j]?=some (ci y):=by rw[Tt,hy];rfl
   have hset:(W.take j++List.replicate (sz - j) (0:Int)).set j (mgt L (j:Int))=W.take (j+1)++List.replicate (sz - (j+1)) 0:=by
    have hWj:W[j]?=some (mgt L (j:Int)):=by have:=hWg j hj;rw[Tn (by omega),Tq]at this;rw[Tn (by omega),this]
    rw[U8 _ _ (by simp;omega)];have e1:j - (W.take j).length=0:=by simp;omega
    have e2:List.replicate (sz - j) (0:Int)=0::List.replicate (sz - (j+1)) 0:=by rw[<-Uu];congr 1;omega
    rw[e1,e2,Va,U6,hWj];simp
   refine bh (P:=λt' df g'=>dl=df/\g'=g/\St t' ((20,.int .i64 (j:Int))::(111,.int .i64 (sz:Int))::(112,.int .i64 (j:Int))::(18,.hptr r 0 0 0)::LT1 w z p)) ?_ ?_
   ·simp only[sx,sy,SO.run,↓reduceIte,h112];simp[St,LT1,sx,h18,h1',h2,h6,h8,h11,h14,h111,h112]
   clear h18 h1' h2 h6 h8 h11 h14 h111 h112;rintro t df g' ⟨rfl,rfl,h20,h111,h112,h18,h1',h2,h6,h8,h11,h14,-⟩;have lk:∀(t:T) (g:G),tat t 118=.hmap m->tat t 119=.int .i64 (j:Int)->g.h.get m=.map (mcl ik L)->(cB C0 (.lookup tII (.tmp 118) (.tmp 119) false)).run (I C0) d none t g=.val (.int .i64 (mgt L (j:Int))):=λt g a b c=>IS a b c;simp only[sx,sy,SO.run,↓reduceIte,Nat.reduceEqDiff,h14,h20,h18,kb1,kr,km,lk,o3.rows,u1,Tx,Tq];refine hT.hp.put (k:=3) (i:=j) (off:=0) (n:=1) (row:=ci y) (row':=ci (mgt L (j:Int))) (by simp[K4]) hT.e3 u2 rfl rfl rfl λg3 hH n3 f3 fo=>?_;simp only[sx,sy,↓reduceIte,Nat.reduceEqDiff];rw[<-UJ,hset]at hH;have hp5':=hT.nw;refine⟨⟨by simp[St,LT1,sx,h18,h1',h2,h6,h8,h11,h14],V,_,hH,hT.v0,by rw[aJ _ _ (by simp)];exact hT.e0,by rw[aJ _ _ (by simp)];exact hT.e1,by rw[aJ _ _ (by simp)];exact hT.e2,bB _ _ _,hT.nw,λi hi hip=>?_⟩,h112,h111⟩;rw[fo i λe=>by have:=hT.nw i e;omega];exact hT.fr i hi hip
  ·rintro t df g ⟨rfl,ht,V,E,hT⟩;rw[Ug (by omega),UB,V4,TZ]at hT;simp only[kP,if_true];exact⟨trivial,trivial,ht,V,E,hT⟩
 rintro t df g2 ⟨rfl,⟨h18,h1',h2,h6,h8,h11,h14,-⟩,V,E,hT⟩;rw[hFR];obtain⟨kb2,-,-⟩:=hT.box;have g1e:g2.h.get 1=We 3 [[.nils,.nils,.nils]]:=by rw[hT.fr 1 (by omega) (by omega),h1]
 simp only[jY,sx,sy,SO.run,↓reduceIte,Nat.reduceEqDiff,Nat.reduceAdd,Nat.reduceLeDiff,h14,h6,kb2,g1e];have far:∀{l:List Int} {k:Nat} (g':G),(∀i,i≠1->g'.h.get i=g2.h.get i)->k<=3->E k=.sl 1 (l.map ci)->l.length<=100000->SlR (PC g'.h) 0 g'.h l (V k):=λ{l k} g' hg hk he hl =>
  ((hT.hp.own (k:=k) hk he).pc (by omega)).wd λi hi=>by obtain⟨h5,h6⟩:=hi;have e:=hg i (by omega);exact⟨⟨h5,by rw[e];exact h6⟩,e⟩
 have hf:∀i,i≠1->(g2.put 1 (We 3 [[V 1,V 2,V 3]])).h.get i=g2.h.get i:=λi hi=>by simp[Q_,hi]
 refine fin _ _ (V 1) (V 2) (V 3) (by simp[sx,h6]) (by simp[sx]) (by simp[Q_]) (far _ hf (by omega) hT.e1 (by omega)) (far _ hf (by omega) hT.e2 (by omega)) (far _ hf (by omega) hT.e3 (by omega)) λi hi h1 h2=>?_;simp[Q_,h1];exact hT.fr i hi h2
def S.pk(n:Net)(e vars:List Int)(i:Int)(w:Nat):Bool:=S.pe n e w&&decide (S.Q9 (S.Q7 (S.Q6 n) vars) (S.Q7 (S.Rb (S.Q6 n) (w:Int)) vars)=i)
def S.SL(n:Net)(e vars:List Int)(j:Nat):List Int:=(List.range (S.Q5 (S.Q7 (S.Q6 n) vars)).toNat).map λi:Nat=>S.Rn n (S.pk n e vars (i:Int)) j
def S.SQ(n:Net)(e vars:List Int):Int:=if S.RR n e=0 then (if S.Rc vars n.nodes.length then 0 else 2) else S.RR n e
def S.SV(n:Net)(e vars:List Int):Factor:=if S.SQ n e vars=0 then ⟨vars,S.Q7 (S.Q6 n) vars,S.SL n e vars (S.Rx n)⟩ else ⟨[],[],[]⟩
theorem EG(P:Nat->Prop)(h:H):Agg (⟨[],[],[]⟩:Factor) P 0 h (.agg [.nils,.nils,.nils]):=⟨_,rfl,eC.2 ⟨.nils,.nils,.nils,rfl,⟨by show 0<9223372036854775808;decide,rfl⟩,⟨by show 0<9223372036854775808;decide,rfl⟩,⟨by show 0<9223372036854775808;decide,rfl⟩⟩⟩
structure TbJ (g0:G) (n:Net) (e vars:List Int) (m j:Nat) (h:H):Prop where
 fr:∀i,i<g0.nx->i≠m->h.get i=g0.h.get i
 hm:∃L:List (Int×Int),h.get m=.map (mcl ik L)/\∀k,mgt L k=S.Rn n (S.pk n e vars k) j
set_option maxRecDepth 20000 in
theorem Kh{d ka kb:Nat}{Pa Pb:Nat->Prop}{g:G}{v w0 z0:AV}{n:Net}{e vars:List Int}(hd:0<d)(hm:Agg n NoP 0 g.h v)(he:SlR Pa ka g.h e w0)(hvs:SlR Pb kb g.h vars z0)(hka:ka<=d:=by omega)(hkb:kb<=d:=by omega) :
  ∃r,an C0 d N.Rd [v,w0,z0] g=.val r/\rK (Agg (S.SV n e vars)) (One (S.SQ n e vars)) NoP 0 .nil r:=by
 obtain⟨b,rows,rfl,e1,hm',hN,r1,r2,r3,r4⟩:=qe d hm;obtain⟨w,ew,hw⟩:=cX he d;rw[Nat.max_eq_right hka]at hw;have hw:=hw .nil;obtain⟨z,ez,hz⟩:=cX hvs d;rw[Nat.max_eq_right hkb]at hz;have hz:=hz .nil;have hbd:u9 [.nils,.nils,.nils] [] []=.val (.agg [.nils,.nils,.nils]):=rfl;rw[xE];refine bg Ah (xs:=[.agg [.int .i64 n.grain,b],w,z]) (by simp only[aK,e1,ew,ez]) (by simp[o6]) (cO (m:=2) (bz _) (a9 _) (by decide) (by decide)) (by decide) hd ?_;simp only[o6,sx,sy,SO.run,↓reduceIte,Nat.reduceEqDiff,Nat.reduceAdd];obtain⟨g0,hg0⟩:∃g0,g0=(G.empty.new (We 2 [[.int .i64 n.grain,b]])).new (We 3 [[.nils,.nils,.nils]]):=⟨_,rfl⟩;rw[<-hg0];have f0:g0.h.get 0=We 2 [[.int .i64 n.grain,b]]:=by rw[hg0];simp[sx,Q_]
 have f1:g0.h.get 1=We 3 [[.nils,.nils,.nils]]:=by rw[hg0];simp[sx]
 have f3:g0.nx=2:=by rw[hg0];simp[sx]
 clear hg0;unfold q7;simp only[sx,sy,SO.run,↓reduceIte,Nat.reduceEqDiff,Nat.reduceAdd,Nat.reduceLeDiff,f0,hw.cell.1,hw.cell.2];refine bH (Lh (n:=n) (ls:=[e]) (TG d) (hm' _) (QW hw (by simp[Q_]))) λv hv=>?_;obtain⟨y,cs,rfl,hy,hc,a1,a2,a3,a4,rfl⟩:=zI hv;rw[F9]at hy ⊢
 by_cases h0:S.RR n e=0
 ·have hyo:=hy h0;obtain⟨h1,h2⟩:=F_.1 h0;have hr:=fN.1 h1;obtain⟨el,ege⟩:=wG h2;obtain⟨W1,W2,W3⟩:=hr.wl;have lz:=hz.len;obtain⟨b',b2,b3,ecs,hb',hb2,hb3⟩:=uV.1 hc;injection ecs with ec1 ecs;injection ecs with ec2 ecs;rw[hyo.net]at ec1 hb';subst ec1 ec2;have hN':SlR NoP 0 .nil n.nodes a2:=hb'.tree (Tp _);simp only[sx,sy,SO.run,↓reduceIte,Nat.reduceEqDiff,Nat.reduceAdd,Nat.reduceLeDiff,f3,h0,decide_true,Um,lz];refine DY (λt g=>∃g1:G,g=g1/\g1.nx=5/\g1.h.get 1=We 3 [[.nils,.nils,.nils]]/\g1.h.get 3=We 4 [[.int .i64 n.grain,a2,a3,a4]]/\g1.h.get 4=We 1 [[.int .u64 0]]/\St t ((10,.int .i64 (-1))::(32,z)::(33,.int .i64 (vars.length:Int))::(34,.int .i64 0)::LT0 w z)) ?_ ?_
  ·refine⟨_,rfl,by simp[f3],by simp[Q_,f3,f1],by simp[Q_,f3],by simp[Q_,f3],by simp[St,LT0,sx]⟩
  rintro t g1 ⟨_,rfl,n1,k1,k3,k4,h10,h32,h33,h34,ht0⟩;refine Ql (n:=n) (gr:=n.grain) (b:=a2) (fl:=a3) (S_:=a4) (g0:=g1) hr.l2 hN' hz (by omega) k3 k1 ⟨ht0,by rw[h10];rfl,h32,⟨λj p hj=>by omega,λj p q hj=>by omega⟩,Tp _,λ_ _ _=>rfl,by rw[k4];rfl⟩ h33 h34 ?_ ?_
  ·intro t g hpl h6 h7 kg;have hE:S.SQ n e vars=2:=by rw[S.SQ,TE h0,hpl];rfl
   have hj:S.SV n e vars=⟨[],[],[]⟩:=by rw[S.SV,hE,TF (by decide)]
   simp only[sx,sy,h6,h7,kg];rw[hE,hj];exact⟨λ_=>True,_,_,rfl,EG _ _,aB.2 rfl⟩
  clear ht0 h10 h32 h33 h34;rintro t g2 hpl ⟨⟨h1,h2',h3,h6,h7,h8,h11,-⟩,-,-,-,hnx2,hfr2,hk4⟩;rw[TO]at hk4;have hE:S.SQ n e vars=0:=by rw[S.SQ,TE h0,hpl];rfl
  have hj:S.SV n e vars=⟨vars,S.Q7 (S.Q6 n) vars,S.SL n e vars (S.Rx n)⟩:=by rw[S.SV,hE,TE rfl]
  have hbits:=GV hpl (by have:=hr.l2;omega);have hvl:=ku hpl (by omega);have hl8:=hr.l2;have hin:=bZ hpl;have hcb:∀c∈S.Q7 (S.Q6 n) vars,1<=c/\c<=4:=bG hr.cs λy hy=>by rw[aY];exact hin y hy
  have hp1:=ba hcb;have hp2:=bI (a:=(S.Q7 (S.Q6 n) vars).length) (b:=8) (by rw[eM];omega);have hp3:(4:Int) ^ 8=65536:=by decide
  obtain⟨sz,hsz⟩:=Ty (show 0<=S.Q5 (S.Q7 (S.Q6 n) vars) by omega);simp only[pQ,sx,sy,SO.run,↓reduceIte,Nat.reduceEqDiff,Nat.reduceAdd,Nat.reduceLeDiff,h2',lz];obtain⟨p,hp⟩:∃p,p=g2.nx:=⟨_,rfl⟩;refine DY (λt g=>∃g3:G,g=g3/\TbB g2 (S.Q6 n) vars w z p 0 t g3/\tat t 58=.int .i64 (vars.length:Int)/\tat t 59=.int .i64 0) ?_ ?_
  ·have hH:Hp ((g2.new (We 3 [[.nils,.nils,.nils]])).put g2.nx (We 3 [[.nils,.nils,.nils]])) 5 K3 (λk=>if k=0 then .hptr p 0 0 0 else .nils) (λk=>if k=0 then .bx [.nils,.nils,.nils] else .sl 1 []):=by
    refine⟨λk hk=>?_,λk l hk hl hne id h h'=>?_,by simp;omega⟩
    ·by_cases e:k=0
     ·simp only[TE e];exact⟨p,by omega,by simp;omega,rfl,by rw[hp];simp[Q_]⟩
     ·simp only[TF e];exact .inl ⟨rfl,rfl⟩
    ·by_cases e:k=0
     ·by_cases e':l=0
      ·omega
      ·simp only[TF e']at h';cases h'
     ·simp only[TF e]at h;cases h
   refine⟨_,rfl,⟨by simp[St,LT1,sx,h1,h2',h6,h8,h11,hp],by simp[sx,S.Q7,S.Q5],by simp[sx],⟨_,_,hH,rfl,rfl,rfl,rfl⟩,λi hi=>by simp[Q_,show ¬i=g2.nx by omega]⟩,by simp[sx],by simp[sx]⟩
  clear h1 h2' h3 h6 h7 h8 h11;rintro t g3 ⟨_,rfl,hB,h58,h59⟩;have k3':g2.h.get 3=We 4 [[.int .i64 n.grain,a2,a3,a4]]:=by rw[hfr2 3 (by omega) (by omega),k3]
  have k1':g2.h.get 1=We 3 [[.nils,.nils,.nils]]:=by rw[hfr2 1 (by omega) (by omega),k1]
  refine Qm hr hN' hz hpl k3' hB h58 h59 ?_;clear hB h58 h59;rintro t g4 ⟨⟨h1,h2',h6,h8,h11,h14,-⟩,h15,-,⟨V,E,hT⟩,hfr4⟩;rw[TO]at h15 hT;obtain⟨kb,hp5,hpn⟩:=hT.box;have q3:g4.h.get 3=We 4 [[.int .i64 n.grain,a2,a3,a4]]:=by rw[hfr4 3 (by omega),k3']
  have q1:g4.h.get 1=We 3 [[.nils,.nils,.nils]]:=by rw[hfr4 1 (by omega),k1']
  have q4:g4.h.get 4=We 1 [[.int .u64 (S.Re vars:Int)]]:=by rw[hfr4 4 (by omega),hk4]
  have hrm:∀(d:Nat) (rd:Option Nat) (t:T) (g:G),(cB C0 (.makeMap tII none)).run (I C0) d rd t g=.upd (.hmap g.nx) (g.new (.map [])):=λd rd t g=>M_ d rd t g;have hst:∀(g:G) (i m:Nat),p_ (We 1 [[.nilm]]) g i 0 0 1 0 (.hmap m)=.upd .undef (g.put i (We 1 [[.hmap m]])):=λg i m=>rfl;simp only[pP,sx,sy,SO.run,↓reduceIte,Nat.reduceEqDiff,Nat.reduceAdd,Nat.reduceLeDiff,h8,h1,hrm,hst,q3,show ¬3=g4.nx by omega,show ¬3=g4.nx+1 by omega];refine bH (Q:=λr=>∃cs z t1 t2,r=.clo N.Q5 [] [.tptr t1 4 [cs] 0 0,.tptr t2 1 [[z]] 0 0]/\Rp.rp NoP d .nil y cs/\SlR NoP d .nil e z) ?_ ?_
  ·obtain⟨cs',z',t1,t2,ez,h1,h2⟩:=tE (d:=d+1) (y:=y) (e:=e) (v:=.agg [.int .i64 n.grain,a2,a3,a4]) (w:=w) (TG d) ⟨_,rfl,Rp.tree hc (Tp _)⟩ (hw.tree (Tp _));exact⟨_,ez,cs',z',t1,t2,rfl,h1,h2⟩
  rintro _ ⟨cs',z',t1,t2,rfl,hcs',hz'⟩;simp only[sx];refine DY (λt g=>∃g5:G,g=g5/\g5.nx=g4.nx+2/\g5.h.get g4.nx=.map []/\g5.h.get (g4.nx+1)=We 1 [[.hmap g4.nx]]/\(∀i,i<g4.nx->g5.h.get i=g4.h.get i)/\St t ((94,.clo N.Q5 [] [.tptr t1 4 [cs'] 0 0,.tptr t2 1 [[z']] 0 0])::(18,.hptr (g4.nx+1) 0 0 0)::(15,.int .i64 (sz:Int))::LT1 w z p)) ?_ ?_
  ·refine⟨_,rfl,by simp,by simp[Q_],by simp[Q_],λi hi=>by simp[Q_,show ¬i=g4.nx by omega,show ¬i=g4.nx+1 by omega],by simp[St,LT1,sx,h1,h2',h6,h8,h11,h14,h15,hsz]⟩
  clear h1 h2' h6 h8 h11 h14 h15;rintro t g5 ⟨_,rfl,n5,m0,m1,f5,h94,ht⟩;obtain⟨h18,h15,h1,h2',h6,h8,h11,h14,-⟩:=ht;refine x6 (t1:=t1) (t2:=t2) (n:=n) (y:=y) (e:=e) (cs:=cs') (w:=z') (TG d) hr hyo hcs' hz' (by omega) h94 (by decide)
   (λj h=>TbJ g5 n e vars g4.nx j h) (λ_=>False) (λj h h' hh hg=>⟨λi h1 h2=>by rw[hh i h1,hg.fr i h1 h2],by obtain⟨L,l1,l2⟩:=hg.hm;exact⟨L,by rw[hh _ (by omega),l1],l2⟩⟩) (λ_ _ _ h=>h) ⟨λ_ _ _=>rfl,[],m0,λk=>rfl⟩ ?_ ?_ ?_ (λ_ h=>h.elim)
  ·intro j h hj hmt hg;have hp:∀k,S.pk n e vars k j=false:=λk=>by rw[S.pk,S.pe,<-AH ege,hmt];rfl
   obtain⟨L,l1,l2⟩:=hg.hm;exact⟨hg.fr,L,l1,λk=>by rw[S.Rn,hp];simp[l2]⟩
  ·intro j u g6 hj hmt hg hn hu;obtain⟨L,l1,l2⟩:=hg.hm;have hpe:S.pe n e j=true:=by rw[S.pe,<-AH ege,hmt]
   have hinC:=Br (λc hc=>(hr.cs c hc).1) (j:Int);simp only[pM,sx,sy,SO.run,↓reduceIte,Nat.reduceEqDiff,Nat.reduceAdd,Nat.reduceLeDiff];refine⟨LV _ _ _,?_⟩;intro g7 n7 f7;have j12:g7.h.get g6.nx=We 3 [[.int .i64 (j:Int),.int .i64 (S.wt n j),u]]:=by rw[f7 _ (by omega),TE rfl];rfl
   have jo:∀i,i<g5.nx->g7.h.get i=g6.h.get i:=λi hi=>by rw[f7 i (by omega),TF (by omega),TF (by omega)]
   have j18:g7.h.get (g4.nx+1)=We 1 [[.hmap g4.nx]]:=by rw[jo _ (by omega),hg.fr _ (by omega) (by omega),m1]
   have jm:g7.h.get g4.nx=.map (mcl ik L):=by rw[jo _ (by omega),l1]
   have j3:g7.h.get 3=We 4 [[.int .i64 n.grain,a2,a3,a4]]:=by rw[jo 3 (by omega),hg.fr 3 (by omega) (by omega),f5 3 (by omega),q3]
   have j4:g7.h.get 4=We 1 [[.int .u64 (S.Re vars:Int)]]:=by rw[jo 4 (by omega),hg.fr 4 (by omega) (by omega),f5 4 (by omega),q4]
   have hu3:SlR (λ_=>True) 0 g7.h (S.Rb (S.Q6 n) (j:Int)) u:=hu.wd λi hi=>⟨trivial,by rw[f7 i (by omega),TF (by omega),TF (by omega)]⟩;obtain⟨K,hK⟩:∃K,K=S.Q9 (S.Q7 (S.Q6 n) vars) (S.Q7 (S.Rb (S.Q6 n) (j:Int)) vars):=⟨_,rfl⟩;have kn:∀g:G,g.h=g7.h->an C0 (d+1) N.Re [.agg [.int .i64 n.grain,a2,a3,a4],u,.int .u64 (S.Re vars:Int)] g=.val (.int .i64 K):=λg hgh=>by have:=Kt (d:=d+1) (g:=g) (v:=.agg [.int .i64 n.grain,a2,a3,a4]) (w:=u) (s:=S.Re vars) (TG d) hr ⟨_,rfl,Rp.tree hc (Tp _)⟩ hyo (hgh ▸ hu3) hinC (oB vars);rw[this,S.R3,hbits,hK]
   have hb:=zx hr (p:=S.pk n e vars K) (j:=j+1) (by omega);have hpkK:S.pk n e vars K j=true:=by rw[S.pk,hpe,hK];simp
   have hs:S.Rn n (S.pk n e vars K) (j+1)=mgt L K+S.wt n j:=by rw[S.Rn,hpkK,l2];simp[S.wt]
   have w1:IntKind.wrap .i64 (mgt L K+S.wt n j)=mgt L K+S.wt n j:=by rw[<-hs,au (by omega) (by omega)]
   have lk:∀(t:T) (g:G),tat t 96=.hmap g4.nx->tat t 101=.int .i64 K->g.h.get g4.nx=.map (mcl ik L)->(cB C0 (.lookup tII (.tmp 96) (.tmp 101) false)).run (I C0) (d+1) (some (g5.nx+1)) t g=.val (.int .i64 (mgt L K)):=λt g a b c=>IS a b c;have up:∀(t:T) (g:G),tat t 96=.hmap g4.nx->tat t 101=.int .i64 K->tat t 105=.int .i64 (mgt L K+S.wt n j)->g.h.get g4.nx=.map (mcl ik L)->(cB C0 (.mapUpdate tII (.tmp 96) (.tmp 101) (.tmp 105))).run (I C0) (d+1) (some (g5.nx+1)) t g=.upd .undef (g.put g4.nx (.map (mcl ik (mst K (mgt L K+S.wt n j) L)))):=λt g a b c e=>Qp a b c e;simp only[pN,sx,sy,sf,SO.run,↓reduceIte,Nat.reduceEqDiff,Nat.reduceAdd,Nat.reduceLeDiff,h18,h8,h11,j12,j18,j3,j4,kn,jm,lk,up,w1,Ka,Kb,nE];refine⟨?_,by simp<;>omega,λi h1 h2=>by simp[Q_,show ¬i=g4.nx by omega],.inl ⟨rfl,λi h1 h2=>?_,mst K (mgt L K+S.wt n j) L,by simp[Q_],λk=>?_⟩⟩
   ·simp only[TM,TS,TL,TJ];exact Fk [(false,false),(false,false),(false,false),(false,false),(false,false),(false,false),(false,true),(false,false),(false,false),(false,false),(true,false)] [] (by simp[All2,ae,aw]) (by decide) (by decide) (by simp)
   ·simp[Q_,h2];rw[jo i h1,hg.fr i h1 h2]
   ·rw[IU]
    by_cases hk:k=K
    ·subst hk;rw[TE rfl,hs]
    ·rw[TF hk,l2,S.Rn,TF,Int.add_zero];rw[S.pk,hpe,<-hK];simp[UP hk]
  ·intro g' hg hn hdf;obtain⟨L,l1,l2⟩:=hg.hm;refine Qn (p:=p) (r:=g4.nx+1) (m:=g4.nx) (sz:=sz) (l:=vars) (cl:=S.Q7 (S.Q6 n) vars) (w:=w) (z:=z) (V:=V) (E:=E) (L:=L) (W:=S.SL n e vars (S.Rx n)) (by omega) (by rw[eM];omega) (by omega) ⟨h18,h15,h1,h2',h6,h8,h11,h14,trivial⟩ ⟨hT.hp.step (by omega) λi h5 hi=>by rw[hg.fr i (by omega) (by omega),f5 i hi],hT.v0,hT.e0,hT.e1,hT.e2⟩ (by rw[hg.fr _ (by omega) (by omega),m1]) l1 ⟨by omega,by omega⟩ ⟨by omega,by omega⟩ (by simp[S.SL,hsz]) (λi hi=>?_) (by rw[hg.fr 1 (by omega) (by omega),f5 1 (by omega),q1]) ?_
   ·simp[S.SL,hsz,hi,l2]
   ·intro t g8 a1 a2 a3 h6 h7 k8 s1 s2 s3 fr8;have hd8:g8.h.get g5.nx=.dfr true:=by rw[fr8 _ (by omega) (by omega) (by omega),hdf]
    rw[DU];refine fW hd8 ?_;simp only[sx,sy,↓reduceIte,h6,h7,k8,show ¬1=g5.nx by omega,Nat.reduceAdd,Nat.reduceLeDiff];rw[hE,hj];have far:∀{l:List Int} {v:AV},SlR (PC g8.h) 0 g8.h l v->SlR (λ_=>True) 0 (g8.put g5.nx (.dfr false)).h l v:=λh=>h.wd λi hi=>⟨trivial,by
     obtain⟨-,a,b,c,e,f,hi⟩:=hi;have:i≠g5.nx:=λe'=>by rw[e',hd8]at hi;cases hi
     simp[Q_,this]⟩
    exact⟨λ_=>True,_,_,rfl,⟨_,rfl,eC.2 ⟨a1,a2,a3,rfl,far s1,far s2,far s3⟩⟩,aB.2 rfl⟩
 ·have hE:S.SQ n e vars=S.RR n e:=by rw[S.SQ,TF h0]
  have hj:S.SV n e vars=⟨[],[],[]⟩:=by rw[S.SV,hE,TF h0]
  simp only[sx,sy,SO.run,↓reduceIte,Nat.reduceEqDiff,Nat.reduceAdd,Nat.reduceLeDiff,f3,h0,decide_false,T9,f1];rw[hj,hE];exact⟨λ_=>True,_,_,rfl,EG _ _,aB.2 rfl⟩
end
end Hx
end
