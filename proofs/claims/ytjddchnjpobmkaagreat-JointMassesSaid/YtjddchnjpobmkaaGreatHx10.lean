/- A part of the proof: an interpreter over abstract values, shown right against the model, and what the functions of the chapter compute on it. -/
import Derived.Test.YtjddchnjpobmkaaGreatHx9
set_option linter.unusedVariables false
set_option linter.unusedSimpArgs false
set_option linter.unnecessarySimpa false
section
namespace Hx
open Go
noncomputable section
theorem pi {α:Type}{f:Nat->α->Nat->α->Bool}{i:Nat}{x:α}:∀{l:List α} {j:Nat},(∀b y,l[b]?=some y->f i x (j+b) y=true)->eU f i x j l=true
 | [],_,_=>rfl
 | y::r,j,h=>by
  simp only[eU,Bool.and_eq_true]
  refine ⟨by simpa using h 0 y rfl,pi fun b z hb=>?_⟩
  have:=h (b+1) z (by simpa using hb)
  rwa [show j+(b+1)=j+1+b by omega] at this
theorem vp {α:Type}{f:Nat->α->Nat->α->Bool}:∀{l:List α} {i:Nat},(∀a b x y,a<b->l[a]?=some x->l[b]?=some y->f (i+a) x (i+b) y=true)->jb f i l=true
 | [],_,_=>rfl
 | x::r,i,h=>by
  simp only[jb,Bool.and_eq_true]
  refine ⟨pi fun b y hb=>?_,vp fun a b x' y hab ha hb=>?_⟩
  ·have:=h 0 (b+1) x y (by omega) rfl (by simpa using hb)
   rwa [Nat.add_zero,show i+(b+1)=i+1+b by omega] at this
  ·have:=h (a+1) (b+1) x' y (by omega) (by simpa using ha) (by simpa using hb)
   rwa [show i+(a+1)=i+1+a by omega,show i+(b+1)=i+1+b by omega] at this
theorem u_ {pm:List Nat}:∀{l:List Foot} {i:Nat},(∀f∈l,f.lk.sr=[])->qt pm i l=true
 | [],_,_=>rfl
 | x::r,i,h=>by
  simp only[qt,h x (by simp)]
  exact u_ fun f hf=>h f (by simp[hf])
def JD (pm:List Nat)(ws:List Bool)(L:List (Nat×Nat))(i j:Nat):Bool:=(pm.getD j 0).testBit i || (!(ws.getD i false)&&!(ws.getD j false)) || L.contains (i,j)
def JW (pm:List Nat)(ws:List Bool)(L:List (Nat×Nat)):Bool:=(List.range ws.length).all fun j=>(List.range j).all fun i=>JD pm ws L i j
theorem aL {pm:List Nat}{fs:List Foot}(ws:List Bool)(L:List (Nat×Nat))(hw:All2 (fun (f:Foot) (w:Bool)=>f.lk.sr=[]/\(w=false->f.wr=[])) fs ws)(hd:JW pm ws L=true)
  (hL:∀p∈L,∀x y,fs[p.1]?=some x->fs[p.2]?=some y->cO x y=true):oy pm fs=true:=by
 unfold oy
 rw[aa,if_pos]
 ·exact u_ fun f hf=>by
   obtain ⟨i,hi,rfl⟩:=List.mem_iff_getElem.1 hf
   obtain ⟨w,-,h⟩:=hw.get (List.getElem?_eq_getElem hi)
   exact h.1
 ·refine vp fun a b x y hab ha hb=>?_
  simp only[Nat.zero_add]
  obtain ⟨wa,hwa,ka⟩:=hw.get ha
  obtain ⟨wb,hwb,kb⟩:=hw.get hb
  have hbl:=(List.getElem?_eq_some_iff.1 hwb).1
  have:=List.all_eq_true.1 (List.all_eq_true.1 hd b (List.mem_range.2 hbl)) a (List.mem_range.2 hab)
  simp only[JD,Bool.or_eq_true] at this
  rcases this with (h | h) | h
  ·rw[h,Bool.true_or]
  ·simp only[List.getD_eq_getElem?_getD,hwa,hwb,Option.getD_some,Bool.and_eq_true,Bool.not_eq_true'] at h
   have ex:=ka.2 h.1
   have ey:=kb.2 h.2
   simp only[cO,ki,iD,ex,ey,Bool.and_self,Bool.or_true]
  ·rw[hL (a,b) (List.contains_iff_mem.1 h) x y ha hb,Bool.or_true]
end
end Hx
end
section
namespace Hx
open Go
noncomputable section
structure Mech where
 card:Int
 frm:List Int
 noise:List Int
 out:List Int
structure Causal where
 grain:Int
 roots:List (List Int)
 nodes:List Mech
structure Node where
 card:Int
 parents:List Int
 rows:List (List Int)
structure Net where
 grain:Int
 nodes:List Node
structure Factor where
 vars:List Int
 cards:List Int
 w:List Int
instance : Rp Mech:=Rp.via fun m:Mech=>(m.card,m.frm,m.noise,m.out)
instance : Rp Causal:=Rp.via fun m:Causal=>(m.grain,m.roots,m.nodes)
instance : Rp Node:=Rp.via fun m:Node=>(m.card,m.parents,m.rows)
instance : Rp Net:=Rp.via fun m:Net=>(m.grain,m.nodes)
instance : Rp Factor:=Rp.via fun m:Factor=>(m.vars,m.cards,m.w)
section
variable {P:Nat->Prop}{k:Nat}{h:H}{cs:List AV}
theorem bO {m:Node}:Rp.rp P k h m cs↔∃a b,cs=[.int .i64 m.card,a,b]/\SlR P k h m.parents a/\SlR P k h m.rows b:=by
 constructor
 ·rintro ⟨c1,c2,rfl,h1,d1,d2,rfl,⟨a,rfl,h2⟩,⟨b,rfl,h3⟩⟩
  rw[aH.1 h1];exact ⟨a,b,rfl,h2,h3⟩
 ·rintro ⟨a,b,rfl,h2,h3⟩
  exact ⟨[.int .i64 m.card],[a,b],rfl,aH.2 rfl,[a],[b],rfl,⟨a,rfl,h2⟩,⟨b,rfl,h3⟩⟩
theorem cy {m:Net}:Rp.rp P k h m cs↔∃a,cs=[.int .i64 m.grain,a]/\SlR P k h m.nodes a:=by
 constructor
 ·rintro ⟨c1,c2,rfl,h1,⟨a,rfl,h2⟩⟩
  rw[aH.1 h1];exact ⟨a,rfl,h2⟩
 ·rintro ⟨a,rfl,h2⟩
  exact ⟨[.int .i64 m.grain],[a],rfl,aH.2 rfl,⟨a,rfl,h2⟩⟩
theorem nG {m:Factor}:Rp.rp P k h m cs↔∃a b c,cs=[a,b,c]/\SlR P k h m.vars a/\SlR P k h m.cards b/\SlR P k h m.w c:=by
 constructor
 ·rintro ⟨c1,c2,rfl,⟨a,rfl,h2⟩,e1,e2,rfl,⟨b,rfl,h3⟩,⟨c,rfl,h4⟩⟩
  exact ⟨a,b,c,rfl,h2,h3,h4⟩
 ·rintro ⟨a,b,c,rfl,h2,h3,h4⟩
  exact ⟨[a],[b,c],rfl,⟨a,rfl,h2⟩,[b],[c],rfl,⟨b,rfl,h3⟩,⟨c,rfl,h4⟩⟩
end
theorem SlR.len {α:Type} [Rp α]{P:Nat->Prop}{k:Nat}{h:H}{l:List α}{v:AV}(r:SlR P k h l v)(g:G):fu .slice v g=.val (.int .i64 (l.length:Int)):=by
 obtain ⟨rows,h1,h2⟩:=r.rows
 rw[ck h1,h2.len]
theorem SlR.tree {α:Type} [Rp α]{k k':Nat}{h h':H}{l:List α}{v:AV}(r:SlR NoP k h l v)(hk:k<=k'):SlR NoP k' h' l v:=by
 obtain ⟨w,hw,q⟩:=Rp.tree (P:=NoP) (k':=k') (h':=h') (show Rp.rp NoP k h l [v] from ⟨v,rfl,r⟩) hk
 injection hw with hw;subst hw;exact q
theorem bF {α:Type} [Rp α]{P:Nat->Prop}{k:Nat}{h:H}{l:List α}{v:AV}(r:SlR P k h l v)(d:Nat)(hd:Rp.dp (List α)<=20:=by decide) :
  ∃v',Hx.snap h d aC v=some v'/\∀h',SlR NoP (max k d) h' l v':=by
 obtain ⟨v',e,w,hw,q⟩:=iL (aI l hd) (by decide) d (show One l P k h v from ⟨v,rfl,r⟩)
 injection hw with hw;subst hw
 exact ⟨v',e,fun h'=>q.tree (Nat.le_refl _)⟩
theorem SlR.all {α:Type} [Rp α]{k:Nat}{h:H}{l:List α}{v:AV}(r:SlR NoP k h l v) :
  ∃rows:List (List AV),(∀h',af h' (Rp.sz α) v=some rows)/\rows.length=l.length/\(∀(i:Nat) (x:α),l[i]?=some x->∃row,rows[i]?=some row/\Rp.rp NoP k .nil x row)/\(0<l.length->jz v=true):=by
 have r0:=(r.tree (h':=.nil) (Nat.le_refl _))
 obtain ⟨rows,h1,h2⟩:=r0.rows
 refine ⟨rows,fun h'=>?_,h2.len.symm,fun i x hi=>h2.get hi,fun hl=>q_ h1 (i:=0) (by rw[<-h2.len];exact hl)⟩
 rw[<-h1]
 exact vK fun id ep off len lim e=>by subst e;exact r.2.1.elim
abbrev UT (k:Nat)(l:List Nat)(r:AV):Prop:=One l NoP k .nil r
theorem UT.sl {k:Nat}{l:List Nat}{r:AV}(h:UT k l r)(h':H):SlR NoP k h' l r:=by
 obtain ⟨w,hw,q⟩:=h
 injection hw with hw;subst hw;exact q.tree (Nat.le_refl _)
theorem oI {P:Nat->Prop}{k:Nat}{h:H}{l:List Nat}{v:AV}(r:SlR P k h l v):∀x∈l,x<18446744073709551616:=by
 obtain ⟨rows,h1,h2⟩:=r.rows
 intro x hx
 obtain ⟨i,hi,e⟩:=List.mem_iff_getElem.1 hx
 obtain ⟨row,h3,h4⟩:=h2.get (i:=i) (a:=x) (by rw[List.getElem?_eq_getElem hi,e])
 exact (AO.1 h4).2
theorem Own.nats {g:G}{b:Nat}{v:AV}{l:List Nat}{k:Nat}(h:Own g b v 1 (l.map cu))(hl:l.length<9223372036854775808)(hb:∀x∈l,x<18446744073709551616):One l (fun _=>True) k g.h v:=by
 refine ⟨v,rfl,Own.sl (α:=Nat) h hl ?_ fun _ _=>trivial⟩
 clear h hl
 induction l with
 | nil=>trivial
 | cons a l ih=>exact ⟨AO.2 ⟨rfl,hb a (by simp)⟩,ih fun x hx=>hb x (by simp[hx])⟩
theorem cX (p:Nat->Bool)(j:Nat):(List.range (j+1)).all p=((List.range j).all p&&p j):=by rw[List.range_succ,List.all_append];simp
theorem fI {p:Nat->Bool}{j n:Nat}(h:j<n)(hp:p j=false):(List.range n).all p=false:=by
 rw[List.all_eq_false];exact ⟨j,List.mem_range.2 h,by rw[hp];decide⟩
end
end Hx
end
section
namespace Hx
open Go
noncomputable section
theorem q7 {C:Cfg}{nt d:Nat}{rd:Option Nat}{c:Code}{t:T}{df:List ADf}{g:G}{Q:QT}(h:wp C d rd (dO C nt c) Q t df g):((I C).code nt d rd c t df g).sat Q:=by
 rw[DM];exact Lp _ _ _ _ _ h
end
end Hx
end
