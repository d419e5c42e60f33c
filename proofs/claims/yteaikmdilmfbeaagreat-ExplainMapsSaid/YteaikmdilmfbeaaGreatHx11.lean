/- A part of the proof: an interpreter over abstract values, shown right against the model, and what the functions of the chapter compute on it. -/
import Derived.Test.YteaikmdilmfbeaaGreatHx10
set_option linter.unusedVariables false
set_option linter.unusedSimpArgs false
set_option linter.unnecessarySimpa false
section
namespace Hx
open Go
noncomputable section
theorem qR {α:Type}{f:Nat->α->Nat->α->Bool}{i:Nat}{x:α}:∀{l:List α} {j:Nat},(∀b y,l[b]?=some y->f i x (j+b) y=true)->fq f i x j l=true
 | [],_,_=>rfl
 | y::r,j,h=>by simp only[fq,Bool.and_eq_true];refine ⟨by simpa using h 0 y rfl,qR λb z hb=>?_⟩;have:=h (b+1) z (by simpa using hb);rwa [show j+(b+1)=j+1+b by omega] at this
theorem xr {α:Type}{f:Nat->α->Nat->α->Bool}:∀{l:List α} {i:Nat},(∀a b x y,a<b->l[a]?=some x->l[b]?=some y->f (i+a) x (i+b) y=true)->jY f i l=true
 | [],_,_=>rfl
 | x::r,i,h=>by
  simp only[jY,Bool.and_eq_true];refine ⟨qR λb y hb=>?_,xr λa b x' y hab ha hb=>?_⟩
  ·have:=h 0 (b+1) x y (by omega) rfl (by simpa using hb);rwa [Nat.add_zero,show i+(b+1)=i+1+b by omega] at this
  ·have:=h (a+1) (b+1) x' y (by omega) (by simpa using ha) (by simpa using hb);rwa [show i+(a+1)=i+1+a by omega,show i+(b+1)=i+1+b by omega] at this
theorem xC {pm:List Nat}:∀{l:List Foot} {i:Nat},(∀f∈l,f.lk.sr=[])->rO pm i l=true
 | [],_,_=>rfl
 | x::r,i,h=>by simp only[rO,h x (by simp)];exact xC λf hf=>h f (by simp[hf])
def Ka (pm:List Nat)(ws:List Bool)(L:List (Nat×Nat))(i j:Nat):Bool:=(pm.getD j 0).testBit i || (!(ws.getD i false)&&!(ws.getD j false)) || L.contains (i,j)
def LM (pm:List Nat)(ws:List Bool)(L:List (Nat×Nat)):Bool:=(List.range ws.length).all λj=>(List.range j).all λi=>Ka pm ws L i j
theorem aK {pm:List Nat}{fs:List Foot}(ws:List Bool)(L:List (Nat×Nat))(hw:All2 (λ(f:Foot) (w:Bool)=>f.lk.sr=[]/\(w=false->f.wr=[])) fs ws)(hd:LM pm ws L=true)
  (hL:∀p∈L,∀x y,fs[p.1]?=some x->fs[p.2]?=some y->bF x y=true):qo pm fs=true:=by
 unfold qo;rw[aa,if_pos]
 ·exact xC λf hf=>by obtain ⟨i,hi,rfl⟩:=List.mem_iff_getElem.1 hf;obtain ⟨w,-,h⟩:=hw.get (List.getElem?_eq_getElem hi);exact h.1
 ·refine xr λa b x y hab ha hb=>?_;simp only[Nat.zero_add];obtain ⟨wa,hwa,ka⟩:=hw.get ha;obtain ⟨wb,hwb,kb⟩:=hw.get hb;have hbl:=(List.getElem?_eq_some_iff.1 hwb).1;have:=List.all_eq_true.1 (List.all_eq_true.1 hd b (List.mem_range.2 hbl)) a (List.mem_range.2 hab);simp only[Ka,Bool.or_eq_true] at this;rcases this with (h | h) | h
  ·rw[h,Bool.true_or]
  ·simp only[List.getD_eq_getElem?_getD,hwa,hwb,Option.getD_some,Bool.and_eq_true,Bool.not_eq_true'] at h;have ex:=ka.2 h.1;have ey:=kb.2 h.2;simp only[bF,iK,fC,ex,ey,Bool.and_self,Bool.or_true]
  ·rw[hL (a,b) (List.contains_iff_mem.1 h) x y ha hb,Bool.or_true]
theorem EC {x y:Foot}{b:Nat}(hx:∀i∈x.wr,b<=i)(hy:y.wr=[])(hb:y.lk.big=false)(hr:∀i∈y.lk.rd,i<b)(hs:y.lk.sr=[]):bF x y=true:=by
 have m1:meets x.wr []=false:=by simp[meets]
 have m2:meets x.wr y.lk.rd=false:=by simp only[meets,List.any_eq_false];intro i hi h;have h1:=hx i hi;have h2:=hr i (List.contains_iff_mem.1 h);omega
 simp only[bF,iK,fC,hy,hb,hs,m1,m2,fst1,List.map_nil,Bool.not_false,Bool.and_self,Bool.and_true]
 split<;>rfl
structure Mech where
 card:Int
 frm:List Int
 noise:List Int
 out:List Int
structure Causal where
 grain:Int
 roots:List (List Int)
 nodes:List Mech
structure Node where
 card:Int
 parents:List Int
 rows:List (List Int)
structure Net where
 grain:Int
 nodes:List Node
structure Factor where
 vars:List Int
 cards:List Int
 w:List Int
instance : Rp Mech:=Rp.via λm:Mech=>(m.card,m.frm,m.noise,m.out)
instance : Rp Causal:=Rp.via λm:Causal=>(m.grain,m.roots,m.nodes)
instance : Rp Node:=Rp.via λm:Node=>(m.card,m.parents,m.rows)
instance : Rp Net:=Rp.via λm:Net=>(m.grain,m.nodes)
instance : Rp Factor:=Rp.via λm:Factor=>(m.vars,m.cards,m.w)
section
variable {P:Nat->Prop}{k:Nat}{h:H}{cs:List AV}
theorem bN {m:Node}:Rp.rp P k h m cs↔∃a b,cs=[.int .i64 m.card,a,b]/\SlR P k h m.parents a/\SlR P k h m.rows b:=by
 constructor
 ·rintro ⟨c1,c2,rfl,h1,d1,d2,rfl,⟨a,rfl,h2⟩,⟨b,rfl,h3⟩⟩;rw[aV.1 h1];exact ⟨a,b,rfl,h2,h3⟩
 ·rintro ⟨a,b,rfl,h2,h3⟩;exact ⟨[.int .i64 m.card],[a,b],rfl,aV.2 rfl,[a],[b],rfl,⟨a,rfl,h2⟩,⟨b,rfl,h3⟩⟩
theorem cA {m:Net}:Rp.rp P k h m cs↔∃a,cs=[.int .i64 m.grain,a]/\SlR P k h m.nodes a:=by
 constructor
 ·rintro ⟨c1,c2,rfl,h1,⟨a,rfl,h2⟩⟩;rw[aV.1 h1];exact ⟨a,rfl,h2⟩
 ·rintro ⟨a,rfl,h2⟩;exact ⟨[.int .i64 m.grain],[a],rfl,aV.2 rfl,⟨a,rfl,h2⟩⟩
end
theorem SlR.len {α:Type} [Rp α]{P:Nat->Prop}{k:Nat}{h:H}{l:List α}{v:AV}(r:SlR P k h l v)(g:G):dt .slice v g=.val (.int .i64 (l.length:Int)):=by obtain ⟨rows,h1,h2⟩:=r.rows;rw[bZ h1,h2.len]
theorem SlR.tree {α:Type} [Rp α]{k k':Nat}{h h':H}{l:List α}{v:AV}(r:SlR NoP k h l v)(hk:k<=k'):SlR NoP k' h' l v:=by obtain ⟨w,hw,q⟩:=Rp.tree (P:=NoP) (k':=k') (h':=h') (show Rp.rp NoP k h l [v] from ⟨v,rfl,r⟩) hk;injection hw with hw;subst hw;exact q
theorem aN {α:Type} [Rp α]{P:Nat->Prop}{k:Nat}{h:H}{l:List α}{v:AV}(r:SlR P k h l v)(d:Nat)(hd:Rp.dp (List α)<=20:=by decide) :
  ∃v',Hx.snap h d aH v=some v'/\∀h',SlR NoP (max k d) h' l v':=by
 obtain ⟨v',e,w,hw,q⟩:=j7 (aJ l hd) (by decide) d (show One l P k h v from ⟨v,rfl,r⟩);injection hw with hw;subst hw;exact ⟨v',e,λh'=>q.tree (Nat.le_refl _)⟩
theorem SlR.all {α:Type} [Rp α]{k:Nat}{h:H}{l:List α}{v:AV}(r:SlR NoP k h l v) :
  ∃rows:List (List AV),(∀h',ak h' (Rp.sz α) v=some rows)/\rows.length=l.length/\(∀(i:Nat) (x:α),l[i]?=some x->∃row,rows[i]?=some row/\Rp.rp NoP k .nil x row)/\(0<l.length->lT v=true):=by
 have r0:=(r.tree (h':=.nil) (Nat.le_refl _));obtain ⟨rows,h1,h2⟩:=r0.rows;refine ⟨rows,λh'=>?_,h2.len.symm,λi x hi=>h2.get hi,λhl=>yx h1 (i:=0) (by rw[<-h2.len];exact hl)⟩;rw[<-h1];exact xz λid ep off len lim e=>by subst e;exact r.2.1.elim
abbrev UT (k:Nat)(l:List Nat)(r:AV):Prop:=One l NoP k .nil r
theorem UT.sl {k:Nat}{l:List Nat}{r:AV}(h:UT k l r)(h':H):SlR NoP k h' l r:=by obtain ⟨w,hw,q⟩:=h;injection hw with hw;subst hw;exact q.tree (Nat.le_refl _)
theorem pO {P:Nat->Prop}{k:Nat}{h:H}{l:List Nat}{v:AV}(r:SlR P k h l v):∀x∈l,x<18446744073709551616:=by obtain ⟨rows,h1,h2⟩:=r.rows;intro x hx;obtain ⟨i,hi,e⟩:=List.mem_iff_getElem.1 hx;obtain ⟨row,h3,h4⟩:=h2.get (i:=i) (a:=x) (by rw[List.getElem?_eq_getElem hi,e]);exact (Cf.1 h4).2
theorem Own.nats {g:G}{b:Nat}{v:AV}{l:List Nat}{k:Nat}(h:Own g b v 1 (l.map cu))(hl:l.length<9223372036854775808)(hb:∀x∈l,x<18446744073709551616):One l (λ_=>True) k g.h v:=by
 refine ⟨v,rfl,Own.sl (α:=Nat) h hl ?_ λ_ _=>trivial⟩;clear h hl
 induction l with
 | nil=>trivial
 | cons a l ih=>exact ⟨Cf.2 ⟨rfl,hb a (by simp)⟩,ih λx hx=>hb x (by simp[hx])⟩
theorem cI (p:Nat->Bool)(j:Nat):(List.range (j+1)).all p=((List.range j).all p&&p j):=by rw[List.range_succ,List.all_append];simp
theorem j4 {p:Nat->Bool}{j n:Nat}(h:j<n)(hp:p j=false):(List.range n).all p=false:=by rw[List.all_eq_false];exact ⟨j,List.mem_range.2 h,by rw[hp];decide⟩
end
end Hx
end
section
namespace Hx
open Go
noncomputable section
def Els (g:G)(b:Nat)(v:AV):Nat->Prop:=λi=>b<=i/\i<g.nx/\vid v≠some i
def OwnT {α:Type} [Rp α](g:G)(b:Nat)(k:Nat)(v:AV)(l:List α):Prop:=∃rows,Own g b v (Rp.sz α) rows/\All2 (Rp.rp (Els g b v) k g.h) l rows
variable {α:Type} [Rp α]{g g':G}{b k:Nat}{v:AV}{l:List α}
theorem OwnT.sl (h:OwnT g b k v l)(hl:l.length<9223372036854775808):SlR (λi=>b<=i/\i<g.nx) k g.h l v:=by obtain ⟨rows,h1,h2⟩:=h;exact Own.sl h1 hl (h2.mono λx cs r=>Rp.mono r (λi hi=>⟨⟨hi.1,hi.2.1⟩,rfl⟩) (Nat.le_refl _)) λi hi=>h1.lt hi
theorem OwnT.fr (h:OwnT g b k v l)(hn:g.nx<=g'.nx)(hf:∀i,b<=i->i<g.nx->g'.h.get i=g.h.get i):OwnT g' b k v l:=by obtain ⟨rows,h1,h2⟩:=h;exact ⟨rows,h1.fr hn λi hi=>hf i (h1.lt hi).1 (h1.lt hi).2,h2.mono λx cs r=>Rp.mono r (λi hi=>⟨⟨hi.1,Nat.lt_of_lt_of_le hi.2.1 hn,hi.2.2⟩,hf i hi.1 hi.2.1⟩) (Nat.le_refl _)⟩
theorem OwnT.step (h:OwnT g b k v l)(f:Fr g g'):OwnT g' b k v l:=h.fr f.1 λi _ hi=>f.2 i hi
theorem Ew {x:AV}{y:α}{cs:List AV}{bytes:Nat}{K:AV->G->Prop}{D:ADf->Prop}(hv:OwnT g b k v l)(hx:ak g.h (Rp.sz α) x=some [cs])(hy:Rp.rp (Els g b v) k g.h y cs)(hb:b<=g.nx)
  (hr:(l.length+1)*bytes<=aM)
  (kk:∀v' g',OwnT g' b k v' (l++[y])->g.nx<=g'.nx->(∀i,i<g.nx->vid v≠some i->g'.h.get i=g.h.get i)->(vid v'=vid v\/∃i,vid v'=some i/\g.nx<=i)->(∀i∈g'.lg,i∈g.lg\/b<=i)->K v' g') :
  (dh (Rp.sz α) bytes v x g).sat K g D:=by
 obtain ⟨rows,h1,h2⟩:=hv;refine bh (new:=[cs]) h1 hx hb (by rw[<-h2.len];exact hr) λv' g' hv' hn hf hvid hlg=>kk v' g' ⟨rows++[cs],hv',?_⟩ hn hf hvid hlg;have up:∀(z:α) (c:List AV),Rp.rp (Els g b v) k g.h z c->Rp.rp (Els g' b v') k g'.h z c:=λz c r=>Rp.mono r (λi hi=>⟨⟨hi.1,Nat.lt_of_lt_of_le hi.2.1 hn,λe=>by
  rcases hvid with e2 | ⟨j,e2,hj⟩
  ·rw[e2] at e;exact hi.2.2 e
  ·rw[e2] at e;injection e with e;subst e;have:=hi.2.1;omega⟩,hf i hi.2.1 hi.2.2⟩) (Nat.le_refl _)
 exact (h2.mono up).append ⟨up y cs hy,trivial⟩
end
end Hx
end
section
namespace Hx
open Go
noncomputable section
theorem s8 {C:Cfg}{nt d:Nat}{rd:Option Nat}{c:Code}{t:T}{df:List ADf}{g:G}{Q:QT}(h:wp C d rd (d_ C nt c) Q t df g):((I C).code nt d rd c t df g).sat Q:=by rw[Ft];exact NH _ _ _ _ _ h
end
end Hx
end
