/- A part of the proof: an interpreter over abstract values, shown right against the model, and what the functions of the chapter compute on it. -/
import Derived.Test.YtjddchnjpobmkaaGreatHx9
set_option linter.unusedVariables false
set_option linter.unusedSimpArgs false
set_option linter.unnecessarySimpa false
section
namespace Hx
open Go
noncomputable section
structure Mech where
 card:Int
 frm:List Int
 noise:List Int
 out:List Int
structure Causal where
 grain:Int
 roots:List (List Int)
 nodes:List Mech
structure Node where
 card:Int
 parents:List Int
 rows:List (List Int)
structure Net where
 grain:Int
 nodes:List Node
structure Factor where
 vars:List Int
 cards:List Int
 w:List Int
instance : Rp Mech:=Rp.via fun m:Mech=>(m.card,m.frm,m.noise,m.out)
instance : Rp Causal:=Rp.via fun m:Causal=>(m.grain,m.roots,m.nodes)
instance : Rp Node:=Rp.via fun m:Node=>(m.card,m.parents,m.rows)
instance : Rp Net:=Rp.via fun m:Net=>(m.grain,m.nodes)
instance : Rp Factor:=Rp.via fun m:Factor=>(m.vars,m.cards,m.w)
section
variable {P:Nat->Prop}{k:Nat}{h:H}{cs:List AV}
theorem bM {m:Node}:Rp.rp P k h m cs↔∃a b,cs=[.int .i64 m.card,a,b]/\SlR P k h m.parents a/\SlR P k h m.rows b:=by
 constructor
 ·rintro ⟨c1,c2,rfl,h1,d1,d2,rfl,⟨a,rfl,h2⟩,⟨b,rfl,h3⟩⟩
  rw[aI.1 h1];exact ⟨a,b,rfl,h2,h3⟩
 ·rintro ⟨a,b,rfl,h2,h3⟩
  exact ⟨[.int .i64 m.card],[a,b],rfl,aI.2 rfl,[a],[b],rfl,⟨a,rfl,h2⟩,⟨b,rfl,h3⟩⟩
theorem dh {m:Net}:Rp.rp P k h m cs↔∃a,cs=[.int .i64 m.grain,a]/\SlR P k h m.nodes a:=by
 constructor
 ·rintro ⟨c1,c2,rfl,h1,⟨a,rfl,h2⟩⟩
  rw[aI.1 h1];exact ⟨a,rfl,h2⟩
 ·rintro ⟨a,rfl,h2⟩
  exact ⟨[.int .i64 m.grain],[a],rfl,aI.2 rfl,⟨a,rfl,h2⟩⟩
theorem nu {m:Factor}:Rp.rp P k h m cs↔∃a b c,cs=[a,b,c]/\SlR P k h m.vars a/\SlR P k h m.cards b/\SlR P k h m.w c:=by
 constructor
 ·rintro ⟨c1,c2,rfl,⟨a,rfl,h2⟩,e1,e2,rfl,⟨b,rfl,h3⟩,⟨c,rfl,h4⟩⟩
  exact ⟨a,b,c,rfl,h2,h3,h4⟩
 ·rintro ⟨a,b,c,rfl,h2,h3,h4⟩
  exact ⟨[a],[b,c],rfl,⟨a,rfl,h2⟩,[b],[c],rfl,⟨b,rfl,h3⟩,⟨c,rfl,h4⟩⟩
end
theorem SlR.len {α:Type} [Rp α]{P:Nat->Prop}{k:Nat}{h:H}{l:List α}{v:AV}(r:SlR P k h l v)(g:G):eG .slice v g=.val (.int .i64 (l.length:Int)):=by
 obtain ⟨rows,h1,h2⟩:=r.rows
 rw[bO h1,h2.len]
theorem SlR.tree {α:Type} [Rp α]{k k':Nat}{h h':H}{l:List α}{v:AV}(r:SlR NoP k h l v)(hk:k<=k'):SlR NoP k' h' l v:=by
 obtain ⟨w,hw,q⟩:=Rp.tree (P:=NoP) (k':=k') (h':=h') (show Rp.rp NoP k h l [v] from ⟨v,rfl,r⟩) hk
 injection hw with hw;subst hw;exact q
theorem bH {α:Type} [Rp α]{P:Nat->Prop}{k:Nat}{h:H}{l:List α}{v:AV}(r:SlR P k h l v)(d:Nat)(hd:Rp.dp (List α)<=20:=by decide) :
  ∃v',Hx.snap h d aE v=some v'/\∀h',SlR NoP (max k d) h' l v':=by
 obtain ⟨v',e,w,hw,q⟩:=jD (aK l hd) (by decide) d (show One l P k h v from ⟨v,rfl,r⟩)
 injection hw with hw;subst hw
 exact ⟨v',e,fun h'=>q.tree (Nat.le_refl _)⟩
theorem SlR.all {α:Type} [Rp α]{k:Nat}{h:H}{l:List α}{v:AV}(r:SlR NoP k h l v) :
  ∃rows:List (List AV),(∀h',af h' (Rp.sz α) v=some rows)/\rows.length=l.length/\(∀(i:Nat) (x:α),l[i]?=some x->∃row,rows[i]?=some row/\Rp.rp NoP k .nil x row)/\(0<l.length->iX v=true):=by
 have r0:=(r.tree (h':=.nil) (Nat.le_refl _))
 obtain ⟨rows,h1,h2⟩:=r0.rows
 refine ⟨rows,fun h'=>?_,h2.len.symm,fun i x hi=>h2.get hi,fun hl=>ma h1 (i:=0) (by rw[<-h2.len];exact hl)⟩
 rw[<-h1]
 exact vJ fun id ep off len lim e=>by subst e;exact r.2.1.elim
abbrev UT (k:Nat)(l:List Nat)(r:AV):Prop:=One l NoP k .nil r
theorem UT.sl {k:Nat}{l:List Nat}{r:AV}(h:UT k l r)(h':H):SlR NoP k h' l r:=by
 obtain ⟨w,hw,q⟩:=h
 injection hw with hw;subst hw;exact q.tree (Nat.le_refl _)
theorem oH {P:Nat->Prop}{k:Nat}{h:H}{l:List Nat}{v:AV}(r:SlR P k h l v):∀x∈l,x<18446744073709551616:=by
 obtain ⟨rows,h1,h2⟩:=r.rows
 intro x hx
 obtain ⟨i,hi,e⟩:=List.mem_iff_getElem.1 hx
 obtain ⟨row,h3,h4⟩:=h2.get (i:=i) (a:=x) (by rw[List.getElem?_eq_getElem hi,e])
 exact (Br.1 h4).2
theorem Own.nats {g:G}{b:Nat}{v:AV}{l:List Nat}{k:Nat}(h:Own g b v 1 (l.map cu))(hl:l.length<9223372036854775808)(hb:∀x∈l,x<18446744073709551616):One l (fun _=>True) k g.h v:=by
 refine ⟨v,rfl,Own.sl (α:=Nat) h hl ?_ fun _ _=>trivial⟩
 clear h hl
 induction l with
 | nil=>trivial
 | cons a l ih=>exact ⟨Br.2 ⟨rfl,hb a (by simp)⟩,ih fun x hx=>hb x (by simp[hx])⟩
theorem dE (p:Nat->Bool)(j:Nat):(List.range (j+1)).all p=((List.range j).all p&&p j):=by rw[List.range_succ,List.all_append];simp
theorem ge {p:Nat->Bool}{j n:Nat}(h:j<n)(hp:p j=false):(List.range n).all p=false:=by
 rw[List.all_eq_false];exact ⟨j,List.mem_range.2 h,by rw[hp];decide⟩
end
end Hx
end
section
namespace Hx
open Go
noncomputable section
theorem q9 {C:Cfg}{nt d:Nat}{rd:Option Nat}{c:Code}{t:T}{df:List ADf}{g:G}{Q:QT}(h:wp C d rd (dZ C nt c) Q t df g):((I C).code nt d rd c t df g).sat Q:=by
 rw[EX];exact LT _ _ _ _ _ h
end
end Hx
end
