/- A part of the proof: what the functions of the chapter compute. -/
import Derived.Test.YteaikmdilmfbeaaGreatHx10
set_option linter.all false
set_option maxRecDepth 20000
set_option maxHeartbeats 8000000
namespace Hx
open Go
noncomputable section
@[reducible] def Xp(l:List Bool):List Bool:=false::false::l
@[reducible] def Xo(l:List Bool):List Bool:=false::false::false::false::l
@[reducible] def Xn(l:List Bool):List Bool:=false::false::false::false::false::false::false::false::l
theorem rg{α:Type}{f:Nat->α->Nat->α->Bool}{i:Nat}{x:α}:∀{l:List α} {j:Nat},(∀b y,l[b]?=some y->f i x (j+b) y=true)->fU f i x j l=true
 |[],_,_=>rfl
 | y::r,j,h=>by simp only[fU,TM];refine⟨by simpa using h 0 y rfl,rg λb z hb=>?_⟩;have:=h (b+1) z (by simpa using hb);rwa [show j+(b+1)=j+1+b by omega]at this
theorem yk{α:Type}{f:Nat->α->Nat->α->Bool}:∀{l:List α} {i:Nat},(∀a b x y,a<b->l[a]?=some x->l[b]?=some y->f (i+a) x (i+b) y=true)->kI f i l=true
 |[],_,_=>rfl
 | x::r,i,h=>by
  simp only[kI,TM];refine⟨rg λb y hb=>?_,yk λa b x' y hab ha hb=>?_⟩
  ·have:=h 0 (b+1) x y (by omega) rfl (by simpa using hb);rwa [Vu,show i+(b+1)=i+1+b by omega]at this
  ·have:=h (a+1) (b+1) x' y (by omega) (by simpa using ha) (by simpa using hb);rwa [show i+(a+1)=i+1+a by omega,show i+(b+1)=i+1+b by omega]at this
theorem yI{pm:List Nat}:∀{l:List Foot} {i:Nat},(∀f∈l,f.lk.sr=[])->tU pm i l=true
 |[],_,_=>rfl
 | x::r,i,h=>by simp only[tU,h x (by simp)];exact yI λf hf=>h f (by simp[hf])
def MQ(pm:List Nat)(ws:List Bool)(L:List (Nat×Nat))(i j:Nat):Bool:=(pm.getD j 0).testBit i || (!(ws.getD i false)&&!(ws.getD j false)) || L.contains (i,j)
def OT(pm:List Nat)(ws:List Bool)(L:List (Nat×Nat)):Bool:=(List.range ws.length).all λj=>(List.range j).all λi=>MQ pm ws L i j
theorem aN{pm:List Nat}{fs:List Foot}(ws:List Bool)(L:List (Nat×Nat))(hw:All2 (λ(f:Foot) (w:Bool)=>f.lk.sr=[]/\(w=false->f.wr=[])) fs ws)(hd:OT pm ws L=true)
  (hL:∀p∈L,∀x y,fs[p.1]?=some x->fs[p.2]?=some y->bF x y=true):qH pm fs=true:=by
 unfold qH;rw[aa,TO]
 ·exact yI λf hf=>by obtain⟨i,hi,rfl⟩:=Vk.1 hf;obtain⟨w,-,h⟩:=hw.get (TH hi);exact h.1
 ·refine yk λa b x y hab ha hb=>?_;simp only[Uy];obtain⟨wa,d,ka⟩:=hw.get ha;obtain⟨wb,k,kb⟩:=hw.get hb;have c:=(TJ.1 k).1;have:=Ue.1 (Ue.1 hd b (T8.2 c)) a (T8.2 hab);simp only[MQ,UB]at this;rcases this with (h|h)|h
  ·rw[h,Bool.true_or]
  ·simp only[Vw,d,k,TS,TM,Vd]at h;have ex:=ka.2 h.1;have ey:=kb.2 h.2;simp only[bF,jx,fY,ex,ey,Wu,Bool.or_true]
  ·rw[hL (a,b) (Wm.1 h) x y ha hb,Bool.or_true]
theorem EC{x y:Foot}{b:Nat}(hx:∀i∈x.wr,b<=i)(hy:y.wr=[])(hb:y.lk.big=false)(hr:∀i∈y.lk.rd,i<b)(hs:y.lk.sr=[]):bF x y=true:=by
 have k:meets x.wr []=false:=by simp[meets]
 have a:meets x.wr y.lk.rd=false:=by simp only[meets,List.any_eq_false];intro i hi h;have h1:=hx i hi;have h2:=hr i (Wm.1 h);omega
 simp only[bF,jx,fY,hy,hb,hs,k,a,fst1,Vg,Wk,Wu,WE]
 split<;>rfl
section
variable {v:AV}
structure Mech where
 card:Int
 frm:List Int
 noise:List Int
 out:List Int
structure Causal where
 grain:Int
 roots:List (List Int)
 nodes:List Mech
structure Node where
 card:Int
 parents:List Int
 rows:List (List Int)
structure Net where
 grain:Int
 nodes:List Node
structure Factor where
 vars:List Int
 cards:List Int
 w:List Int
instance : Rp Mech:=Rp.via λm:Mech=>(m.card,m.frm,m.noise,m.out)
instance : Rp Causal:=Rp.via λm:Causal=>(m.grain,m.roots,m.nodes)
instance : Rp Node:=Rp.via λm:Node=>(m.card,m.parents,m.rows)
instance : Rp Net:=Rp.via λm:Net=>(m.grain,m.nodes)
instance : Rp Factor:=Rp.via λm:Factor=>(m.vars,m.cards,m.w)
section
variable {P:Nat->Prop}{k:Nat}{h:H}{cs:List AV}
theorem cI{m:Node}:Rp.rp P k h m cs↔∃a b,cs=[XL m.card,a,b]/\SlR P k h m.parents a/\SlR P k h m.rows b:=by
 constructor
 ·rintro⟨c1,c,rfl,h1,d1,d2,rfl,⟨a,rfl,h2⟩,⟨b,rfl,h3⟩⟩;rw[ax.1 h1];exact⟨a,b,rfl,h2,h3⟩
 ·rintro⟨a,b,rfl,h2,h3⟩;exact⟨[XL m.card],[a,b],rfl,ax.2 rfl,[a],[b],rfl,⟨a,rfl,h2⟩,⟨b,rfl,h3⟩⟩
theorem ie{m:Net}:Rp.rp P k h m cs↔∃a,cs=[XL m.grain,a]/\SlR P k h m.nodes a:=by
 constructor
 ·rintro⟨c1,b,rfl,h1,⟨a,rfl,h2⟩⟩;rw[ax.1 h1];exact⟨a,rfl,h2⟩
 ·rintro⟨a,rfl,h2⟩;exact⟨[XL m.grain],[a],rfl,ax.2 rfl,⟨a,rfl,h2⟩⟩
theorem qf{m:Factor}:Rp.rp P k h m cs↔∃a b c,cs=[a,b,c]/\SlR P k h m.vars a/\SlR P k h m.cards b/\SlR P k h m.w c:=by
 constructor
 ·rintro⟨c1,d,rfl,⟨a,rfl,h2⟩,e1,e2,rfl,⟨b,rfl,h3⟩,⟨c,rfl,h4⟩⟩;exact⟨a,b,c,rfl,h2,h3,h4⟩
 ·rintro⟨a,b,c,rfl,h2,h3,h4⟩;exact⟨[a],[b,c],rfl,⟨a,rfl,h2⟩,[b],[c],rfl,⟨b,rfl,h3⟩,⟨c,rfl,h4⟩⟩
end
theorem SlR.len{α:Type} [Rp α]{P:Nat->Prop}{k:Nat}{h:H}{l:List α}{v:AV}(r:SlR P k h l v)(g:G):cH .slice v g=.val (XL (l.length:Int)):=by obtain⟨rows,h1,h2⟩:=r.rows;rw[j9 h1,h2.len]
theorem SlR.tree{α:Type} [Rp α]{k k':Nat}{h h':H}{l:List α}{v:AV}(r:SlR NoP k h l v)(hk:k<=k'):SlR NoP k' h' l v:=by obtain⟨w,hw,q⟩:=Rp.tree (P:=NoP) (k':=k') (h':=h') (show Rp.rp NoP k h l [v] from ⟨v,rfl,r⟩) hk;injection hw with hw;subst hw;exact q
theorem bm{α:Type} [Rp α]{P:Nat->Prop}{k:Nat}{h:H}{l:List α}(r:SlR P k h l v)(d:Nat)(hd:Rp.dp (List α)<=20:=by decide) :
  ∃v',Hx.snap h d aC v=some v'/\∀h',SlR NoP (max k d) h' l v':=by
 obtain⟨v',e,w,hw,q⟩:=su (aJ l hd) (by decide) d (show One l P k h v from ⟨v,rfl,r⟩);injection hw with hw;subst hw;exact⟨v',e,λh'=>q.tree (TG _)⟩
theorem SlR.all{α:Type} [Rp α]{k:Nat}{h:H}{l:List α}(r:SlR NoP k h l v) :
  ∃rows:List (List AV),(∀h',ak h' (Rp.sz α) v=some rows)/\rows.length=l.length/\(∀(i:Nat) (x:α),l[i]?=some x->∃row,rows[i]?=some row/\Rp.rp NoP k .nil x row)/\(0<l.length->vN v=true):=by
 have r0:=(r.tree (h':=.nil) (TG _));obtain⟨rows,h1,h2⟩:=r0.rows;refine⟨rows,λh'=>?_,h2.len.symm,λi x hi=>h2.get hi,λhl=>Ej h1 (i:=0) (by rw[<-h2.len];exact hl)⟩;rw[<-h1];exact yC λid ep off len lim e=>by subst e;exact r.2.1.elim
theorem Dm{P:Nat->Prop}{k:Nat}{h:H}{l:List Nat}(r:SlR P k h l v):∀x∈l,x<18446744073709551616:=by obtain⟨rows,h1,h2⟩:=r.rows;intro x hx;obtain⟨i,hi,e⟩:=Vk.1 hx;obtain⟨row,h3,h4⟩:=h2.get (i:=i) (a:=x) (by rw[TH hi,e]);exact (Hq.1 h4).2
theorem fk(p:Nat->Bool)(j:Nat):(List.range (j+1)).all p=((List.range j).all p&&p j):=by rw[VL,List.all_append];simp
theorem yM{p:Nat->Bool}{j n:Nat}(h:j<n)(hp:p j=false):(List.range n).all p=false:=by rw[List.all_eq_false];exact⟨j,T8.2 h,by rw[hp];decide⟩
end
theorem tZ{C:Cfg}{nt d:Nat}{rd:Option Nat}{c:Code}{t:T}{df:List ADf}{g:G}{Q:QT}(h:wp C d rd (eL C nt c) Q t df g):((I C).code nt d rd c t df g).sat Q:=by rw[Gr];exact Qa _ _ _ _ _ h
end
end Hx
