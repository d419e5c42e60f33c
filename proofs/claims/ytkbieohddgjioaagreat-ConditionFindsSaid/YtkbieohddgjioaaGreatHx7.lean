/- A part of the proof: what the functions of the chapter compute. -/
import Derived.Test.YtkbieohddgjioaaGreatHx6
set_option linter.all false
set_option maxRecDepth 20000
set_option maxHeartbeats 8000000
namespace Hx
open Go
noncomputable section
variable {g g':G}{d i n k b nt j:Nat}{v w:AV}{t:T}{Q:QT}{P:Nat->Prop}{l cs X vs:List Int}{K:AV->G->Prop}{gr c:Int}{D:ADf->Prop}{x:Node}{V:Ky->AV}{h:H}{E:Ky->En}
abbrev Sp:Type:=Int×Int×Int
def S.sp(l:List Sp)(i:Nat):Sp:=l[i]?.getD (0,0,0)
def S.TQ(l:List Sp)(i:Nat)(e:Int):Bool:=(List.range i).any λj=>decide ((S.sp l j).1 = -1)&&(decide ((S.sp l j).2.1=e) || decide ((S.sp l j).2.2=e))
def S.Uc(l:List Sp)(i:Nat)(v:Int):Bool:=(List.range i).any λj=>decide ((S.sp l j).1=v)
def S.Uq(l:List Sp)(i:Nat):Bool:=decide (0<=(S.sp l i).2.1)&&decide ((S.sp l i).2.1<(i:Int))&&decide (0<=(S.sp l i).2.2)&&decide ((S.sp l i).2.2<(i:Int))&&!decide ((S.sp l i).2.1=(S.sp l i).2.2)
def S.TO(l:List Sp)(n:Nat)(i:Nat):Bool:=decide (0<=(S.sp l i).1)&&decide ((S.sp l i).1<(n:Int))&&decide ((S.sp l i).2.1 = -1)&&decide ((S.sp l i).2.2 = -1)
def S.Um(l:List Sp)(n:Nat)(i:Nat):Bool:=if (S.sp l i).1 = -1 then S.Uq l i&&!S.TQ l i (S.sp l i).2.1&&!S.TQ l i (S.sp l i).2.2 else S.TO l n i&&!S.Uc l i (S.sp l i).1
def S.ck(l:List Sp)(n:Nat):Bool:=decide ((l.length:Int)=2*(n:Int) - 1)&&(List.range l.length).all (S.Um l n)&&((List.range n).all λv=>S.Uc l l.length (v:Int))&&((List.range (l.length - 1)).all λe=>S.TQ l l.length (e:Int))
def S.TN(l:List Sp)(e:Int):Nat->Nat
 |0=>0
 |j+1=>S.TN l e j+if (S.sp l j).1 = -1/\((S.sp l j).2.1=e\/(S.sp l j).2.2=e) then 1 else 0
def S.Uw(l:List Sp)(n:Nat)(i:Nat):Bool:=(S.TO l n i || decide ((S.sp l i).1 = -1)&&S.Uq l i)&&(!S.TO l n i || (List.range l.length).all λj=>decide (j=i) || !decide ((S.sp l j).1=(S.sp l i).1)) &&
 decide (S.TN l (i:Int) l.length=if i+1<l.length then 1 else 0)
def S.rt(l:List Sp)(n:Nat):Bool:=decide ((l.length:Int)=2*(n:Int) - 1)&&(List.range l.length).all (S.Uw l n)
theorem rL{l:List Sp}{e:Int}:S.TQ l i e=true↔∃j,j<i/\(S.sp l j).1 = -1/\((S.sp l j).2.1=e\/(S.sp l j).2.2=e):=by simp[S.TQ,List.any_eq_true]
theorem zL{l:List Sp}{v:Int}:S.Uc l i v=true↔∃j,j<i/\(S.sp l j).1=v:=by simp[S.Uc,List.any_eq_true]
theorem qt{l:List Sp}:S.Uq l i=true↔0<=(S.sp l i).2.1/\(S.sp l i).2.1<(i:Int)/\0<=(S.sp l i).2.2/\(S.sp l i).2.2<(i:Int)/\(S.sp l i).2.1≠(S.sp l i).2.2:=by simp[S.Uq,and_assoc]
theorem wU{l:List Sp}:S.TO l n i=true↔0<=(S.sp l i).1/\(S.sp l i).1<(n:Int)/\(S.sp l i).2.1 = -1/\(S.sp l i).2.2 = -1:=by simp[S.TO,and_assoc]
theorem Ag{l:List Sp}{e:Int}:∀{j},(∀k,k<j->¬((S.sp l k).1 = -1/\((S.sp l k).2.1=e\/(S.sp l k).2.2=e)))->S.TN l e j=0
 |0,_=>rfl
 |j+1,h=>by rw[S.TN,Ag λk hk=>h k (by omega),Vz (h j (by omega))]
theorem IV{l:List Sp}{e:Int}:∀{j k},k<j->(S.sp l k).1 = -1/\((S.sp l k).2.1=e\/(S.sp l k).2.2=e)->(∀i,i<j->i≠k->¬((S.sp l i).1 = -1/\((S.sp l i).2.1=e\/(S.sp l i).2.2=e)))->S.TN l e j=1
 | j+1,k,hk,h,hn=>by
  rw[S.TN]
  by_cases c:k=j
  ·subst c;rw[Ag λi hi=>hn i (by omega) (by omega),VC h]
  ·rw[IV (k:=k) (by omega) h λi hi=>hn i (by omega),Vz (hn j (by omega) (by omega))]
theorem IX{l:List Sp}{e:Int}:∀{j i k},i<k->k<j->(S.sp l k).1 = -1/\((S.sp l k).2.1=e\/(S.sp l k).2.2=e)->(S.sp l i).1 = -1/\((S.sp l i).2.1=e\/(S.sp l i).2.2=e)->2<=S.TN l e j
 | j+1,i,k,hik,hk,h,h'=>by
  have mono:∀a,∀{b},b<a->(S.sp l b).1 = -1/\((S.sp l b).2.1=e\/(S.sp l b).2.2=e)->1<=S.TN l e a:=by
   intro a
   induction a with
   |zero=>intro b hb;omega
   | succ a ih =>
    intro b hb d;rw[S.TN]
    by_cases c:b=a
    ·subst c;rw[VC d];omega
    ·have:=ih (b:=b) (by omega) d;omega
  rw[S.TN]
  by_cases c:k=j
  ·subst c;have:=mono k hik h';rw[VC h];omega
  ·have:=IX hik (by omega) h h' (j:=j);omega
theorem IW{l:List Sp}{e:Int}:∀{j},0<S.TN l e j->∃k,k<j/\(S.sp l k).1 = -1/\((S.sp l k).2.1=e\/(S.sp l k).2.2=e)
 |0,h=>by simp[S.TN]at h
 | j+1,h=>by
  rw[S.TN]at h
  by_cases c:(S.sp l j).1 = -1/\((S.sp l j).2.1=e\/(S.sp l j).2.2=e)
  ·exact⟨j,by omega,c⟩
  ·rw[Vz c]at h;obtain⟨k,hk,a⟩:=IW (j:=j) (by omega);exact⟨k,by omega,a⟩
def S.US(l:List Sp)(j:Nat):List Int:=(List.range j).flatMap λk=>if (S.sp l k).1 = -1 then [(S.sp l k).2.1,(S.sp l k).2.2] else []
def S.UI(l:List Sp)(j:Nat):List Int:=(List.range j).flatMap λk=>if (S.sp l k).1 = -1 then [] else [(S.sp l k).1]
theorem Dg(l:List Sp)(j:Nat):S.US l (j+1)=S.US l j++if (S.sp l j).1 = -1 then [(S.sp l j).2.1,(S.sp l j).2.2] else []:=by simp[S.US,WC,Ys]
theorem Gj(l:List Sp)(j:Nat):S.UI l (j+1)=S.UI l j++if (S.sp l j).1 = -1 then [] else [(S.sp l j).1]:=by simp[S.UI,WC,Ys]
theorem GQ(l:List Sp):∀j,(S.US l j).length+2*(S.UI l j).length=2*j
 |0=>rfl
 | j+1=>by
  have:=GQ l j;rw[Dg,Gj,Wr,Wr]
  by_cases c:(S.sp l j).1 = -1
  ·rw[VC c,VC c];simp;omega
  ·rw[Vz c,Vz c];simp;omega
theorem Gl{l:List Sp}{e:Int}:e∈S.US l j↔∃k,k<j/\(S.sp l k).1 = -1/\((S.sp l k).2.1=e\/(S.sp l k).2.2=e):=by
 simp only[S.US,Xu,VM];constructor
 ·rintro⟨k,hk,h⟩
  by_cases c:(S.sp l k).1 = -1
  ·rw[VC c]at h;simp only[VP,VG,Xh]at h;exact⟨k,hk,c,h.imp Eq.symm Eq.symm⟩
  ·rw[Vz c]at h;simp at h
 ·rintro⟨k,hk,c,h⟩;refine⟨k,hk,?_⟩;rw[VC c];simp only[VP,VG,Xh];exact h.imp Eq.symm Eq.symm
theorem Er{l:List Sp}{v:Int}:v∈S.UI l j↔∃k,k<j/\(S.sp l k).1≠-1/\(S.sp l k).1=v:=by
 simp only[S.UI,Xu,VM];constructor
 ·rintro⟨k,hk,h⟩
  by_cases c:(S.sp l k).1 = -1
  ·rw[VC c]at h;simp at h
  ·rw[Vz c]at h;exact⟨k,hk,c,by simpa using (VY.1 h).symm⟩
 ·rintro⟨k,hk,c,h⟩;exact⟨k,hk,by rw[Vz c,h];simp⟩
theorem Kl{a b:List Int}(ha:a.Nodup)(h:∀x∈a,x∈b):a.length<=b.length:=by
 induction a generalizing b with
 |nil=>simp
 | cons x a ih =>
  rw[Yx]at ha;have hx:=h x (by simp);have:=ih (b:=b.erase x) ha.2 λy hy=>(List.mem_erase_of_ne (λe:y=x=>ha.1 (by rw[<-e];exact hy))).2 (h y (by simp[hy]));rw[List.length_erase_of_mem hx]at this;have:=List.length_pos_of_mem hx;simp;omega
theorem SS{l:List Sp}(hn:1<=n):S.ck l n=S.rt l n:=by
 apply WU.2;simp only[S.ck,S.rt,Vx,VK,VQ,VM];constructor
 ·rintro⟨⟨⟨hl,t⟩,C⟩,y⟩;refine⟨hl,λi hi=>?_⟩;have form:∀k,k<l.length->((S.sp l k).1 = -1->S.Uq l k=true/\S.TQ l k (S.sp l k).2.1=false/\S.TQ l k (S.sp l k).2.2=false)/\((S.sp l k).1≠-1->S.TO l n k=true/\S.Uc l k (S.sp l k).1=false):=λk hk=>by
   have:=t k hk;unfold S.Um at this;constructor
   ·intro c;rw[VC c]at this;simpa [and_assoc] using this
   ·intro c;rw[Vz c]at this;simpa using this
  have noref:∀(k m:Nat) (e:Int),k<m->m<l.length->(S.sp l k).1 = -1/\((S.sp l k).2.1=e\/(S.sp l k).2.2=e)->(S.sp l m).1 = -1/\((S.sp l m).2.1=e\/(S.sp l m).2.2=e)->False:=λk m e hkm hm h1 h2=>by
   obtain⟨-,z,A⟩:=(form m hm).1 h2.1;have hu:S.TQ l m e=true:=rL.2 ⟨k,hkm,h1⟩;rcases h2.2 with h|h
   ·rw[h,hu]at z;cases z
   ·rw[h,hu]at A;cases A
  simp only[S.Uw,Vx,Wh,VK,Wl,VQ,VM];refine⟨⟨?_,?_⟩,?_⟩
  ·by_cases c:(S.sp l i).1 = -1
   ·exact .inr ⟨c,((form i hi).1 c).1⟩
   ·exact .inl ((form i hi).2 c).1
  ·by_cases c:(S.sp l i).1 = -1
   ·left;rw[YA];intro h;have:=(wU.1 h).1;omega
   ·right;intro j o
    by_cases e:j=i
    ·exact .inl e
    ·right;rw[Ya];intro h;rcases Nat.lt_or_gt_of_ne e with h1|h1
     ·have:=((form i hi).2 c).2;rw[zL.2 ⟨j,h1,h⟩]at this;cases this
     ·have:=((form j o).2 (by rw[h];exact c)).2;rw[zL.2 ⟨i,h1,h.symm⟩]at this;cases this
  ·by_cases c:i+1<l.length
   ·rw[VC c];obtain⟨k,hk,d⟩:=rL.1 (y i (by omega));refine IV hk d λm hm hmk f=>?_;rcases Nat.lt_or_gt_of_ne hmk with h|h
    ·exact noref m k _ h hk f d
    ·exact noref k m _ h hm d f
   ·rw[Vz c];refine Ag λk hk d=>?_;have:=qt.1 ((form k hk).1 d.1).1;omega
 ·rintro⟨hl,x⟩;have form:∀k,k<l.length->((S.sp l k).1 = -1->S.Uq l k=true)/\((S.sp l k).1≠-1->S.TO l n k=true/\∀j,j<l.length->j≠k->(S.sp l j).1≠(S.sp l k).1)/\S.TN l (k:Int) l.length=if k+1<l.length then 1 else 0:=λk hk=>by
   have:=x k hk;simp only[S.Uw,Vx,Wh,VK,Wl,VQ,VM]at this;obtain⟨⟨h1,h2⟩,B⟩:=this;refine⟨λc=>?_,λc=>?_,B⟩
   ·rcases h1 with h|h
    ·have:=(wU.1 h).1;omega
    ·exact h.2
   ·have p:S.TO l n k=true:=by
     rcases h1 with h|h
     ·exact h
     ·exact absurd h.1 c
    refine⟨p,λj o hjk h=>?_⟩;rcases h2 with h2|h2
    ·rw[p]at h2;cases h2
    ·rcases h2 j o with h'|h'
     ·exact hjk h'
     ·rw[Ya]at h';exact h' h
  have once:∀(k m:Nat) (e:Int),0<=e->e<(l.length:Int)->k<m->m<l.length->(S.sp l k).1 = -1/\((S.sp l k).2.1=e\/(S.sp l k).2.2=e)->(S.sp l m).1 = -1/\((S.sp l m).2.1=e\/(S.sp l m).2.2=e)->False:=λk m e h0 h1 hkm hm hk d=>by
   obtain⟨q,rfl⟩:=Vy h0;have:=IX hkm hm d hk;rw[(form q (by omega)).2.2]at this
   split at this<;>omega
  have elok:∀i,i<l.length->S.Um l n i=true:=λi hi=>by
   unfold S.Um
   by_cases c:(S.sp l i).1 = -1
   ·have o:=(form i hi).1 c;obtain⟨a1,a2,r,a4,s⟩:=qt.1 o;have nu:∀e,0<=e->e<(l.length:Int)->((S.sp l i).2.1=e\/(S.sp l i).2.2=e)->S.TQ l i e=false:=λe h0 h1 d=>by rw[YA];intro h;obtain⟨k,hk,f⟩:=rL.1 h;exact once k i e h0 h1 hk hi f ⟨c,d⟩
    rw[VC c,o,nu _ a1 (by omega) (.inl rfl),nu _ r (by omega) (.inr rfl)]
    rfl
   ·obtain⟨h1,h2⟩:=(form i hi).2.1 c;have:S.Uc l i (S.sp l i).1=false:=by rw[YA];intro h;obtain⟨j,o,d⟩:=zL.1 h;exact h2 j (by omega) (by omega) d
    rw[Vz c,h1,this];rfl
  have refnd:∀j,j<=l.length->(S.US l j).Nodup:=by
   intro j
   induction j with
   |zero=>intro _;exact List.nodup_nil
   | succ j ih =>
    intro o;rw[Dg]
    by_cases c:(S.sp l j).1 = -1
    ·obtain⟨a1,a2,r,a4,s⟩:=qt.1 ((form j (by omega)).1 c);rw[VC c,List.nodup_append];refine⟨ih (by omega),by simp[s],λa ha b hb hab=>?_⟩;subst hab;obtain⟨k,hk,d⟩:=Gl.1 ha;simp only[VP,VG,Xh]at hb;rcases hb with hb|hb
     ·exact once k j a (by omega) (by omega) hk (by omega) d ⟨c,.inl hb.symm⟩
     ·exact once k j a (by omega) (by omega) hk (by omega) d ⟨c,.inr hb.symm⟩
    ·rw[Vz c,VV];exact ih (by omega)
  have lvnd:∀j,j<=l.length->(S.UI l j).Nodup:=by
   intro j
   induction j with
   |zero=>intro _;exact List.nodup_nil
   | succ j ih =>
    intro o;rw[Gj]
    by_cases c:(S.sp l j).1 = -1
    ·rw[VC c,VV];exact ih (by omega)
    ·rw[Vz c,List.nodup_append];refine⟨ih (by omega),by simp,λa ha b hb hab=>?_⟩;subst hab;obtain⟨k,hk,-,d⟩:=Er.1 ha;have hb:=VY.1 hb;exact ((form j (by omega)).2.1 c).2 k (by omega) (by omega) (by rw[d,hb])
  have D:(S.US l l.length).length<=l.length - 1:=by
   have:=Kl (b:=(List.range (l.length - 1)).map λi:Nat=>(i:Int)) (refnd _ (Vu _)) λe he=>by obtain⟨k,hk,c,d⟩:=Gl.1 he;obtain⟨a1,a2,r,a4,s⟩:=qt.1 ((form k hk).1 c);refine Wk.2 ⟨e.toNat,VM.2 ?_,?_⟩<;>rcases d with h|h<;>omega
   simpa using this
  have nleaf:n<=(S.UI l l.length).length:=by have:=GQ l l.length;omega
  refine⟨⟨⟨hl,elok⟩,λv hv=>?_⟩,λe he=>?_⟩
  ·rw[zL];apply W6;intro w;have u:(v:Int) ∉ S.UI l l.length:=λh=>by obtain⟨k,hk,-,d⟩:=Er.1 h;exact w ⟨k,hk,d⟩
   have:=Kl (a:=(v:Int)::S.UI l l.length) (b:=(List.range n).map λi:Nat=>(i:Int)) (Yx.2 ⟨u,lvnd _ (Vu _)⟩) λe he=>by
    rcases VP.1 he with rfl|he
    ·exact Wk.2 ⟨v,VM.2 hv,rfl⟩
    ·obtain⟨k,hk,c,d⟩:=Er.1 he;obtain⟨b1,b2,-⟩:=wU.1 ((form k hk).2.1 c).1;exact Wk.2 ⟨e.toNat,VM.2 (by omega),by omega⟩
   simp at this;omega
  ·obtain⟨-,-,hb⟩:=form e (by omega);rw[VC (by omega)]at hb;exact rL.2 (IW (by omega))
abbrev Br:Type:=Int×Nat
structure MkI (m:Nat) (st:List Sp×List Br):Prop where
 ln:st.1.length+st.2.length=2*m
 l1:m<=st.1.length
 lf:∀v,v<m->S.sp st.1 v=((v:Int),-1,-1)
 jn:∀i,m<=i->i<st.1.length->(S.sp st.1 i).1 = -1/\S.Uq st.1 i=true
 so:st.2.Pairwise λa b=>a.1<b.1
 op:∀e,(∃b∈st.2,b.1=e)↔0<=e/\e<(st.1.length:Int)/\S.TQ st.1 st.1.length e=false
 on:∀i j e,i<j->j<st.1.length->(S.sp st.1 i).1 = -1/\((S.sp st.1 i).2.1=e\/(S.sp st.1 i).2.2=e)->(S.sp st.1 j).1 = -1/\((S.sp st.1 j).2.1=e\/(S.sp st.1 j).2.2=e)->False
def S.T8(e:List Int)(l:List Int):Nat:=l.foldl (λs p=>if e[p.toNat]?.getD 0 = -1 then s ||| S.TT p.toNat else s) 0
def S.TV(n:Net)(v:Nat):List Int:=((n.nodes[v]?.map (·.parents)).getD [])++[(v:Int)]
def S.TG(n:Net)(e:List Int)(v:Nat):Nat:=S.T8 e (S.TV n v)
def S.T2(n:Net)(e:List Int)(l:List Sp):Nat->List Nat
 |0=>[]
 |j+1=>S.T2 n e l j++[if (S.sp l j).1 = -1 then (S.T2 n e l j)[(S.sp l j).2.1.toNat]?.getD 0 ||| (S.T2 n e l j)[(S.sp l j).2.2.toNat]?.getD 0 else S.TG n e (S.sp l j).1.toNat]
def S.vr(n:Net)(e:List Int)(l:List Sp):List Nat:=S.T2 n e l l.length
abbrev NsT:Type:=List Nat×List Nat×List Nat
def S.UP(l:List Sp)(vr:List Nat)(i:Nat)(s:NsT):NsT :=
 let xs:=s.2.1.set i (vr[i]?.getD 0 &&& s.2.2[i]?.getD 0)
 if (S.sp l i).1 = -1 then
  let c:=S.TF (vr[(S.sp l i).2.1.toNat]?.getD 0 &&& vr[(S.sp l i).2.2.toNat]?.getD 0) (s.2.2[i]?.getD 0)
  (s.1.set i c,xs,(s.2.2.set (S.sp l i).2.1.toNat (s.2.2[i]?.getD 0 ||| c)).set (S.sp l i).2.2.toNat (s.2.2[i]?.getD 0 ||| c))
 else (s.1,xs,s.2.2)
def S.T6(l:List Sp)(vr:List Nat):Nat->NsT
 |0=>(List.replicate l.length 0,List.replicate l.length 0,List.replicate l.length 0)
 |j+1=>S.UP l vr (l.length - 1 - j) (S.T6 l vr j)
structure Sta (l:List Sp) (vr cut ctx ab:List Nat):Prop where
 s0:ab[l.length - 1]?.getD 0=0
 s1:∀i,i<l.length->ctx[i]?.getD 0=vr[i]?.getD 0 &&& ab[i]?.getD 0
 s2:∀i,i<l.length->(S.sp l i).1 = -1->cut[i]?.getD 0=S.TF (vr[(S.sp l i).2.1.toNat]?.getD 0 &&& vr[(S.sp l i).2.2.toNat]?.getD 0) (ab[i]?.getD 0)
 s3:∀i,i<l.length->(S.sp l i).1 = -1->ab[(S.sp l i).2.1.toNat]?.getD 0=ab[i]?.getD 0 ||| cut[i]?.getD 0
 s4:∀i,i<l.length->(S.sp l i).1 = -1->ab[(S.sp l i).2.2.toNat]?.getD 0=ab[i]?.getD 0 ||| cut[i]?.getD 0
def S.TU(w:List Int)(s:Nat):List Int:=(List.range 8).map λv=>if s.testBit v then w[v]?.getD 0 else -1
def S.Tz(n:Net)(s:Nat):List Nat:=(List.range n.nodes.length).filter s.testBit
def S.T0(n:Net)(l:List Nat):List Int:=l.map λv=>(S.Tx n)[v]?.getD 0
def S.TS(n:Net)(l:List Nat):Nat:=(S.Ty (S.T0 n l)).toNat
def S.TE(n:Net)(w:List Int)(l:List Nat)(j:Nat):List Int:=S.TM w l (S.TK (S.T0 n l) (j:Int))
abbrev w64 (x:Int):Int:=IntKind.wrap .i64 x
def S.UW(n:Net)(w:List Int)(v:Nat):Int:=S.sm (λj=>S.TL n (S.TE n w (S.Tz n (S.TG n w v)) j) v) (S.TS n (S.Tz n (S.TG n w v)))
abbrev Key:Type:=Int×List Int
abbrev Mem:Type:=List (Key×Int)
abbrev MSt:Type:=Mem×Int
section
variable {α:Type} [DecidableEq α]
def cK(L:List (α×Int))(k:α):Bool:=L.any λp=>decide (k=p.1)
def mgt(L:List (α×Int))(k:α):Int:=match L with
 |[]=>0
 | (a,v)::r=>if k=a then v else mgt r k
def mst(k:α)(v:Int):List (α×Int)->List (α×Int)
 |[]=>[(k,v)]
 | (a,w)::r=>if k=a then (k,v)::r else (a,w)::mst k v r
end
abbrev Rec:Type:=Nat->List Int->Nat->MSt->Int×MSt
def S.Us(rec:Rec)(n:Net)(w:List Int)(cu:List Nat)(a b ab:Nat)(st:MSt):Nat->Int×MSt
 |0=>(0,st)
 | j+1 =>
  let s:=S.Us rec n w cu a b ab st j
  let p:=rec a (S.TE n w cu j) ab s.2
  let q:=rec b (S.TE n w cu j) ab p.2
  (w64 (s.1+w64 (p.1*q.1)),q.2)
def S.TD(n:Net)(l:List Sp)(vr:List Nat)(size:Int):Nat->Rec
 |0,_,_,_,st=>(0,st)
 | f+1,i,w,ab,st =>
  if (S.sp l i).1 = -1 then
   if cK st.1 ((i:Int),S.TU w (vr[i]?.getD 0 &&& ab)) then (mgt st.1 ((i:Int),S.TU w (vr[i]?.getD 0 &&& ab)),st)
   else
    let c:=S.TF (vr[(S.sp l i).2.1.toNat]?.getD 0 &&& vr[(S.sp l i).2.2.toNat]?.getD 0) ab
    let r:=S.Us (S.TD n l vr size f) n w (S.Tz n c) (S.sp l i).2.1.toNat (S.sp l i).2.2.toNat (ab ||| c) (st.1,w64 (st.2+1)) (S.TS n (S.Tz n c))
    (r.1,(if (r.2.1.length:Int)<size then mst ((i:Int),S.TU w (vr[i]?.getD 0 &&& ab)) r.1 r.2.1 else r.2.1),r.2.2)
  else (S.UW n w (S.sp l i).1.toNat,st.1,w64 (st.2+1))
def S.UX(n:Net)(e:List Int)(l:List Sp)(size:Int):Int×MSt:=S.TD n l (S.vr n e l) size l.length (l.length - 1) e 0 ([],0)
abbrev Dx:Type:=UInt8×UInt8×List UInt8
abbrev uQ:Type:=UInt8×List Dx×List UInt8
abbrev lI:Type:=UInt8×UInt8×UInt8×Int
theorem Dl{x:Dx}{cs:List AV}:Rp.rp P k h x cs↔∃a,cs=[u8v x.1,u8v x.2.1,a]/\SlR P k h x.2.2 a:=by
 constructor
 ·rintro⟨c1,b,rfl,h1,c,d,rfl,h2,⟨a,rfl,h4⟩⟩;rw[co.1 h1,co.1 h2];exact⟨a,rfl,h4⟩
 ·rintro⟨a,rfl,h4⟩;exact⟨[_],[_,a],rfl,co.2 rfl,[_],[a],rfl,co.2 rfl,⟨a,rfl,h4⟩⟩
theorem yq{x:uQ}{cs:List AV}:Rp.rp P k h x cs↔∃a b,cs=[u8v x.1,a,b]/\SlR P k h x.2.1 a/\SlR P k h x.2.2 b:=by
 constructor
 ·rintro⟨c1,c,rfl,h1,d,e,rfl,⟨a,rfl,ha⟩,⟨b,rfl,hb⟩⟩;rw[co.1 h1];exact⟨a,b,rfl,ha,hb⟩
 ·rintro⟨a,b,rfl,ha,hb⟩;exact⟨[_],[a,b],rfl,co.2 rfl,[a],[b],rfl,⟨a,rfl,ha⟩,⟨b,rfl,hb⟩⟩
theorem Bt{x:lI}{cs:List AV}:Rp.rp P k h x cs↔cs=[u8v x.1,u8v x.2.1,u8v x.2.2.1,ZJ x.2.2.2]:=by
 constructor
 ·rintro⟨c1,b,rfl,h1,c,d,rfl,h2,e,f,rfl,a,h4⟩;rw[co.1 h1,co.1 h2,co.1 a,aW.1 h4];rfl
 ·rintro rfl;exact⟨[_],[_,_,_],rfl,co.2 rfl,[_],[_,_],rfl,co.2 rfl,[_],[_],rfl,co.2 rfl,aW.2 rfl⟩
theorem H9{k2:Nat}{P2:Nat->Prop}{p:List Int}(hd:0<d)(hv:SlR P k g.h l v)(hw:SlR P2 k2 g.h p w)(hp:p.length<1073741824)(hin:∀x∈p,0<=x/\x<l.length) :
  ∃r,am C0 d 52 [v,w] g=.val r/\IT 0 (S.TA l p) r:=by
 obtain⟨v',e1,q⟩:=bm hv d;obtain⟨w',e2,i⟩:=bm hw d;rw[BU];refine a_ FK (xs:=[v',w']) (by simp only[aG,e1,e2]) (by simp[vy]) (aY _) (by decide) hd ?_;simp only[sz,simprocAttr,vy];have n2:=λg=>(i .nil).len g;have ra:∀h',ak h' 1 v'=some (l.map ci):=λh'=>(q h').ints;have rb:∀h',ak h' 1 w'=some (p.map ci):=λh'=>(i h').ints;refine oy (v:=w') (m:=p.length) (by omega) n2 (λj t df g=>df=[]/\St t [(0,v')]/\∃u,tat t 5=u/\Own g 0 u 1 ((S.TA l (p.take j)).map ci)) ⟨rfl,by simp[St,sx],_,rfl,.inl ⟨by simp[sx],by simp[S.TA]⟩⟩ (by simp[sx]) (by simp[sx]) (by decide)
  (by rintro j t df g v s (rfl|rfl|rfl|rfl|rfl|rfl|rfl)<;>simp[sx,St]) ?_ ?_
 ·rintro j t df g1 f ⟨rfl,⟨h0,-⟩,u,h5,hu⟩ e h1;obtain⟨x,hx,b,hm⟩:=ae f;obtain⟨c,o⟩:=hin x hm;obtain⟨n,rfl⟩:=Vy c;have a:n<l.length:=by omega
  simp only[sz,simprocAttr,ra,rb,h0,h1,h5,e,hx,f,a,VF,Vw,WM,ci,Vt a];refine aM (new:=[ci l[n]]) (hu.step (Fr.new _ _)) (by simp[sx,sy,ci]) (by simp) (by simp[aT,S.TA];omega) λv2 g2 hv2 n2 f2 _ l2=>?_;simp only[sz,simprocAttr,h0,h1,e,St];refine⟨_,rfl,?_⟩;rw[b];simpa [a,ci,S.TA] using hv2
 ·rintro t df g1 ⟨rfl,⟨h0,-⟩,u,h5,hu⟩ -;rw[Wa]at hu;simp only[sz,simprocAttr,uI,h5];exact⟨_,hu.ints (by simp[S.TA];omega)⟩
theorem yn{n:Net}(hd:0<d)(hm:Agg n P k g.h v)(hn:n.nodes.length<1073741824) :
  ∃r,am C0 d 53 [v] g=.val r/\IT 0 (S.Tx n) r:=by
 obtain⟨v',e,cs,rfl,hc⟩:=jC (bW n) (by decide) d hm;obtain⟨b,rfl,hN⟩:=dI.1 hc;obtain⟨rows,l,y,q,w⟩:=hN.all;have l:∀h',ak h' 3 b=some rows:=l;rw[xI];refine a_ AF (xs:=[.agg [ZJ n.grain,b]]) (by simp only[aG,e]) (by simp[o8]) (aY _) (by decide) hd ?_;simp only[sz,simprocAttr,o8,r_,pS];refine aP n.nodes.length (by omega) (λj t df g=>df=[]/\tat t 1=ZK 0/\g.h.get 0=Y6 2 [[ZJ n.grain,b]]/\1<=g.nx/\∃u,tat t 3=u/\Own g 1 u 1 (((n.nodes.take j).map (·.card)).map ci))
  ⟨rfl,by simp[sx],by simp[sx],by simp[sx],_,rfl,.inl ⟨by simp[sx],rfl⟩⟩ (by simp[sx]) (by decide)
  (by rintro j t df g v s (rfl|rfl|rfl)<;>simp[sx]) ?_ ?_ ?_
 ·rintro j t df g m ⟨rfl,h1,hg,a,u,c,hu⟩ h4;simp only[sz,simprocAttr,h1,h4,hg,hN.len];exact⟨a,u,c,hu⟩
 ·rintro j t df g m ⟨rfl,h1,hg,a,u,c,hu⟩ h4;obtain⟨x,hx,i,hm⟩:=ae m;obtain⟨row,p,q2⟩:=q j x hx;obtain⟨a',b',rfl,o,-⟩:=bM.1 q2;have hlt:j<rows.length:=by omega
  have f:=w (by omega);simp only[sz,simprocAttr,h1,c,h4,hg,l,hlt,p,f];refine aM (new:=[ci x.card]) (hu.step (Fr.new _ _)) (by simp[sx,sy,ci]) (by simp) (by simp[aT];omega) λv2 g2 hv2 n2 f2 _ l2=>?_;simp only[sz,simprocAttr,h1,h4];refine⟨?_,?_,_,rfl,?_⟩
  ·rw[f2 0 (by simp) (λe=>by have:=(hu.lt e).1;omega),G.new_h,af _ _ _ (by omega),hg]
  ·simp at n2;omega
  ·rw[i];simpa [ci] using hv2
 ·rintro t df g ⟨rfl,h1,hg,a,u,c,hu⟩;rw[Wa]at hu;simp only[sz,simprocAttr,pT,c];exact⟨_,hu.ints (by simp;omega)⟩
theorem GJ{n:Net}(hd:0<d)(hm:Agg n P k g.h v)(hn:n.nodes.length<1073741824)(hp:∀x∈n.nodes,∀y∈x.parents,0<=y/\y<18446744073709551616) :
  ∃r,am C0 d 89 [v] g=.val r/\UT 0 (S.TJ n) r:=by
 obtain⟨v',e,cs,rfl,hc⟩:=jC (bW n) (by decide) d hm;obtain⟨b,rfl,hN⟩:=dI.1 hc;obtain⟨rows,p,H,E,F⟩:=hN.all;have p:∀h',ak h' 3 b=some rows:=p;rw[sD];refine a_ uy (xs:=[.agg [ZJ n.grain,b]]) (by simp only[aG,e]) (by simp[ik]) (aY _) (by decide) hd ?_;simp only[sz,simprocAttr,ik,ku];refine aP n.nodes.length (by omega) (λj t df g=>df=[]/\tat t 1=ZK 0/\g.h.get 0=Y6 2 [[ZJ n.grain,b]]/\1<=g.nx/\∃u,tat t 3=u/\Own g 1 u 1 (((n.nodes.take j).map λx=>S.TP x.parents).map cu))
  ⟨rfl,by simp[sx],by simp[sx],by simp[sx],_,rfl,.inl ⟨by simp[sx],rfl⟩⟩ (by simp[sx]) (by decide)
  (by rintro j t df g v s (rfl|rfl|rfl)<;>simp[sx]) ?_ ?_ ?_
 ·rintro j t df g B ⟨rfl,h1,hg,f,u,a,hu⟩ h4;simp only[sz,simprocAttr,h1,h4,hg,hN.len];exact⟨f,u,a,hu⟩
 ·rintro j t df g B ⟨rfl,h1,hg,f,u,a,hu⟩ h4;obtain⟨x,hx,z,hm⟩:=ae B;obtain⟨row,C,q2⟩:=E j x hx;obtain⟨a',b',rfl,c,-⟩:=bM.1 q2;have hlt:j<rows.length:=by omega
  have l:=F (by omega);simp only[sz,simprocAttr];refine aP x.parents.length c.1 (λi t df g'=>df=[]/\St t [(1,ZK 0),(4,ZJ j),(3,u),(5,ZL (S.TP (x.parents.take i):Int))]/\g'=g)
   ⟨rfl,by simp[sx,St,S.TP,h1,a,h4],rfl⟩ (by simp[sx]) (by decide)
   (by rintro j t df g v s (rfl|rfl|rfl)<;>simp[sx,St]) ?_ ?_ ?_
  ·rintro i t df g' hi ⟨rfl,⟨h1,h4,a,h5,-⟩,rfl⟩ q;simp only[sz,simprocAttr,h1,a,h4,h5,q,hg,p,hlt,C,l,c.len,St]
  ·rintro i t df g' hi ⟨rfl,⟨h1,h4,a,h5,-⟩,rfl⟩ q;obtain⟨y,D,m,w⟩:=ae hi;obtain⟨o,A⟩:=hp x hm y w;obtain⟨n,rfl⟩:=Vy o;simp only[sz,simprocAttr,h1,a,h4,h5,q,hg,p,hlt,C,l,(c.tree (h':=g'.h) (Vu _)).ints,hi,D,VF,Vw,WM,ci,rN o A,fu,mo _ _ (rm _) (oD _),St];rw[m,Db];rfl
  ·rintro t df g' ⟨rfl,⟨h1,h4,a,h5,-⟩,rfl⟩;rw[Wa]at h5;simp only[sz,simprocAttr,jx,a,h5];refine aM (new:=[cu (S.TP x.parents)]) (hu.step (Fr.new _ _)) (by simp[sx,sy,cu]) (by simp) (by simp[aT];omega) λv2 g2 hv2 n2 f2 _ l2=>?_;simp only[sz,simprocAttr,h1,h4];refine⟨?_,?_,_,rfl,?_⟩
   ·rw[f2 0 (by simp) (λe=>by have:=(hu.lt e).1;omega),G.new_h,af _ _ _ (by omega),hg]
   ·simp at n2;omega
   ·rw[z];simpa [cu] using hv2
 ·rintro t df g ⟨rfl,h1,hg,f,u,a,hu⟩;rw[Wa]at hu;simp only[sz,simprocAttr,jy,a];exact⟨_,hu.nats (by simp;omega) (by simp only[Wk];rintro x ⟨y,-,rfl⟩;exact rm _)⟩
theorem ue{n:Net}(hd:0<d)(hm:Agg n P k g.h v)(hn:n.nodes.length<1073741824)(hx:n.nodes[i]?=some x)(hl:x.parents.length<1073741824)(hin:∀p∈x.parents,0<=p/\p<n.nodes.length) :
  ∃r,am C0 d 23 [v,ZJ (i:Int)] g=.val r/\IT 0 (S.TA (S.Tx n) x.parents) r:=by
 obtain⟨v',e,cs,rfl,hc⟩:=jC (bW n) (by decide) d hm;have f:=hc;obtain⟨b,rfl,hN⟩:=dI.1 hc;have j:∀h,Agg n NoP (max k d) h (.agg [ZJ n.grain,b]):=λh=>⟨_,rfl,Rp.tree f (Vu _)⟩;obtain⟨rows,o,y,t,u⟩:=hN.all;have o:∀h',ak h' 3 b=some rows:=o;obtain⟨row,s,q2⟩:=t i x hx;obtain⟨a',b',rfl,a,-⟩:=bM.1 q2;have q:=(Vv.1 hx).1;have hlt:i<rows.length:=by omega
 have m:=u (by omega);rw[qJ];refine a_ sY (xs:=[.agg [ZJ n.grain,b],ZJ (i:Int)]) (by simp only[aG,e,bS 0]) (by simp[gH]) (aY _) (by decide) hd ?_;simp only[sz,simprocAttr,gH,ju];refine bi (yn (VI d) (j _) hn) λrc hrc=>?_;have c:=λg=>H9 (d:=d+1) (g:=g) (P:=NoP) (P2:=NoP) (k:=0) (k2:=max k d) (l:=S.Tx n) (p:=x.parents) (VI d) (hrc.sl g.h) (a.tree (h':=g.h) (Vu _)) hl (λp hp=>by rw[aH];exact hin p hp);simp only[sz,simprocAttr,o,hlt,s,m];refine bi (c _) λr hr=>?_;simp only[sz,simprocAttr];obtain⟨w,hw,hs⟩:=hr;exact⟨_,w,hw,hs.tree (Vu _)⟩
theorem Bu(hd:0<d)(hv:SlR P k g.h l v):am C0 d 22 [v] g=.val (ZJ (S.UG l)):=by have b:=Jz hv.ints;have:=QJ hd (K5 hv.ints) (by rw[b];exact hv.1);rwa [b]at this
theorem dZ{n:Net}(d:Nat)(hm:Agg n NoP 0 g.h v):∃b rows,v=.agg [ZJ n.grain,b]/\Hx.snap g.h d aE v=some v/\(∀h,Agg n NoP 0 h v)/\SlR NoP 0 .nil n.nodes b/\(∀h,ak h 3 b=some rows)/\rows.length=n.nodes.length /\
  (∀(i:Nat) (x:Node),n.nodes[i]?=some x->∃pa ra,rows[i]?=some [ZJ x.card,pa,ra]/\i<rows.length/\SlR NoP 0 .nil x.parents pa/\SlR NoP 0 .nil x.rows ra)/\(0<n.nodes.length->nA b=true):=by
 have e:=mj d hm;obtain⟨cs,rfl,hc⟩:=hm;have c:=hc;obtain⟨b,rfl,hN⟩:=dI.1 hc;have hN:=hN.tree (h':=.nil) (Vu _);obtain⟨rows,l,f,m,o⟩:=hN.all;refine⟨b,rows,rfl,e,λh=>⟨_,rfl,Rp.tree c (Vu _)⟩,hN,l,f,λi x hx=>?_,o⟩;obtain⟨row,j,q2⟩:=m i x hx;obtain⟨a',b',rfl,k,a⟩:=bM.1 q2;exact⟨a',b',j,by rw[f];exact (Vv.1 hx).1,k,a⟩
theorem xh{l:List (List Int)}{b:AV}(hb:SlR NoP k .nil l b):∃rows:List (List AV),(∀h,ak h 1 b=some rows)/\rows.length=l.length/\(∀(i:Nat) (r:List Int),l[i]?=some r->∃z,rows[i]?=some [z]/\i<rows.length/\SlR NoP k .nil r z)/\(0<l.length->nA b=true):=by obtain⟨rows,d,a,e,f⟩:=hb.all;refine⟨rows,d,a,λi r hr=>?_,f⟩;obtain⟨row,c,q2⟩:=e i r hr;obtain⟨z,rfl,hz⟩:=l8.1 q2;exact⟨z,c,by rw[a];exact (Vv.1 hr).1,hz⟩
section
variable {d:Nat}{b pa ra z:AV}{gr card:Int}{r:List Int}
def LR5(v:Nat)(q:Nat):List (Nat×AV):=[(1,ZK 0),(6,ZJ (v:Int)),(7,ZK q)]
structure RJ1 (gr:Int) (r:List Int) (v q i j:Nat) (t:T):Prop where
 st:St t ((8,ZJ (i:Int))::LR5 v q)
 s9:tat t 9=ZJ (r.take j).sum
 all:∀y∈r.take j,0<=y/\y<=gr
structure RJ4 (gr card:Int) (rws:List (List Int)) (v q j:Nat) (t:T):Prop where
 st:St t (LR5 v q)
 all:∀r∈rws.take j,S.T4 gr card r=true
structure RJ0 (n:Net) (b:AV) (j:Nat) (t:T) (g:G):Prop where
 st:St t [(1,ZK 0),(3,ZJ (S.Ty ((S.Tx n).take j)))]
 hg:g.h.get 0=Y6 2 [[ZJ n.grain,b]]
 nx:1<=g.nx
 all:∀x∈n.nodes.take j,S.Uy n.nodes.length x=true
structure RJ6 (n:Net) (b:AV) (j:Nat) (t:T) (g:G):Prop where
 st:St t [(1,ZK 0)]
 hg:g.h.get 0=Y6 2 [[ZJ n.grain,b]]
 nx:1<=g.nx
 all:∀x∈n.nodes.take j,S.UO n x=true
theorem Ol{rr:List (List AV)}{v q:Nat}(s1:∀h,ak h 1 ra=some rr)(s2:rr[i]?=some [z])(s3:i<rr.length)(s4:nA ra=true)(hz:SlR NoP 0 .nil r z)(hl:r.length<=4)(hg1:1<=gr/\gr<=60)
  (ht:St t ((8,ZJ (i:Int))::LR5 v q)) (h9:tat t 9=ZJ 0) (h10:tat t 10=ZJ 0) (e0:g.h.get 0=Y6 2 [[ZJ gr,b]]) (eq:g.h.get q=Y6 3 [[ZJ card,pa,ra]])
  (bad:∀t,(∃y∈r,¬(0<=y/\y<=gr))->tat t 2=.bool false->Q .ret t [] g) (fin:∀t,(∀y∈r,0<=y/\y<=gr)->St t ((8,ZJ (i:Int))::LR5 v q)->tat t 9=ZJ r.sum->Q (.exit 6) t [] g) :
  wpL (wp C0 d none jK) Q t [] g:=by
 have n1:=λg=>hz.len g;have rz:=λh=>(hz.tree (h':=h) (Vu 0)).ints;simp only[jK];refine aP r.length (by omega) (λj t df g'=>df=[]/\g'=g/\RJ1 gr r v q i j t)
  ⟨rfl,rfl,ht,by simp[h9],by simp⟩ h10 (by decide) (by rintro j t df g v s (rfl|rfl|rfl) ⟨a1,a2,⟨b1,b2,b3,n,-⟩,b5,b6⟩<;>exact⟨a1,a2,by simp[St,LR5,sx,b1,b2,b3,n],by simp[sx,b5],b6⟩) ?_ ?_ ?_
 ·rintro j t df g' e ⟨rfl,rfl,⟨⟨h8,h1,c,h7,-⟩,h9,ha⟩⟩ h10;simp only[sz,simprocAttr,h7,h8,h10,eq,s1,s2,s3,n1];exact⟨by simp[St,LR5,sx,h1,c,h7,h8],by simp[sx,h9],ha⟩
 ·rintro j t df g' e ⟨rfl,rfl,⟨⟨h8,h1,c,h7,-⟩,h9,ha⟩⟩ h10;obtain⟨y,u,a,hm⟩:=ae e;have f:j<(r.map ci).length:=by simpa using e
  have m:(r.map ci)[j]?=some (ci y):=by rw[Vw,u];rfl
  by_cases c1:y<0
  ·simp only[sz,simprocAttr,h7,h8,h10,eq,s1,s2,s3,rz,f,m,ci,c1];exact bad _ ⟨y,hm,by omega⟩ (by simp[sx])
  ·by_cases c2:gr<y
   ·simp only[sz,simprocAttr,h1,h7,h8,h10,e0,eq,s1,s2,s3,rz,f,m,ci,c1,c2];exact bad _ ⟨y,hm,by omega⟩ (by simp[sx])
   ·have k:∀x∈r.take (j+1),0<=x/\x<=gr:=λx hx=>by
     rw[a]at hx;rcases V7.1 hx with h|h
     ·exact ha x h
     ·rw[VY.1 h];omega
    have p:=Dq (b:=60) (by decide) (l:=r.take (j+1)) λx hx=>by have:=k x hx;omega
    have o:(r.take (j+1)).length<=4:=by rw[Wf];omega
    have w1:IntKind.wrap .i64 ((r.take j).sum+y)=(r.take (j+1)).sum:=by
     have e1:(r.take (j+1)).sum=(r.take j).sum+y:=by rw[a,xq]
     rw[<-e1,ap (by omega) (by omega)]
    simp only[sz,simprocAttr,h1,h7,h8,h9,h10,e0,eq,s1,s2,s3,rz,f,m,ci,c1,c2,w1];exact⟨by simp[St,LR5,sx,h1,c,h7,h8],by simp[sx],k⟩
 ·rintro t df g' ⟨rfl,rfl,⟨ht,h9,ha⟩⟩;rw[Wa]at h9 ha;exact fin t ha ht h9
theorem Om{rws:List (List Int)}{v q:Nat}(hra:SlR NoP 0 .nil rws ra)(hc:1<=card/\card<=4)(hg1:1<=gr/\gr<=60)
  (ht:St t (LR5 v q)) (h8:tat t 8=ZJ 0) (e0:g.h.get 0=Y6 2 [[ZJ gr,b]]) (eq:g.h.get q=Y6 3 [[ZJ card,pa,ra]])
  (bad:∀t,(∃r∈rws,S.T4 gr card r=false)->tat t 2=.bool false->Q .ret t [] g) (fin:∀t,(∀r∈rws,S.T4 gr card r=true)->St t (LR5 v q)->Q (.exit 4) t [] g) :
  wpL (wp C0 d none jL) Q t [] g:=by
 obtain⟨rr,s1,s2,s3,s4⟩:=xh hra;have n1:=λg=>hra.len g;simp only[jL,pW];refine aP rws.length hra.1 (λj t df g'=>df=[]/\g'=g/\RJ4 gr card rws v q j t)
  ⟨rfl,rfl,ht,by simp⟩ h8 (by decide) (by rintro j t df g v s (rfl|rfl|rfl) ⟨a1,a2,⟨b1,b2,b3,-⟩,b6⟩<;>exact⟨a1,a2,by simp[St,LR5,sx,b1,b2,b3],b6⟩) ?_ ?_ ?_
 ·rintro j t df g' i ⟨rfl,rfl,⟨⟨h1,k,h7,-⟩,ha⟩⟩ h8;simp only[sz,simprocAttr,h7,h8,eq,n1];exact⟨by simp[St,LR5,sx,h1,k,h7],ha⟩
 ·rintro j t df g' i ⟨rfl,rfl,⟨⟨h1,k,h7,-⟩,ha⟩⟩ h8;obtain⟨r,hr,e,hm⟩:=ae i;obtain⟨z,q2,q3,hz⟩:=s3 j r hr;have c:=s4 (by omega);have n2:=λg=>hz.len g
  by_cases c1:(r.length:Int)=card
  ·simp only[sz,simprocAttr,h7,h8,eq,s1,q2,q3,n2,c1];refine Ol (v:=v) (q:=q) (b:=b) (pa:=pa) (card:=card) (gr:=gr) s1 q2 q3 c hz (by omega) hg1 (by simp[St,LR5,sx,h1,k,h7,h8]) (by simp[sx]) (by simp[sx]) e0 eq ?_ ?_
   ·rintro t ⟨y,l,f⟩ h2;refine bad t ⟨r,hm,?_⟩ h2;rw[<-XM,S.T4];simp only[Vx,VK,VQ];rintro⟨⟨-,h⟩,-⟩;exact f (h y l)
   ·rintro t a ⟨h8,h1,k,h7,-⟩ h9
    by_cases c2:r.sum=gr
    ·simp only[sz,simprocAttr,jM,h1,h8,h9,e0,c2];refine⟨?_,λx hx=>?_⟩
     ·simp[St,LR5,sx,h1,k,h7]
     ·rw[e]at hx;rcases V7.1 hx with h|h
      ·exact ha x h
      ·rw[VY.1 h,S.T4];simp only[Vx,VK,VQ];exact⟨⟨c1,a⟩,c2⟩
    ·simp only[sz,simprocAttr,jM,h1,h9,e0,c2];refine bad _ ⟨r,hm,?_⟩ (by simp[sx]);rw[S.T4];simp[c2]
  ·simp only[sz,simprocAttr,h7,h8,eq,s1,q2,q3,n2,c1];refine bad _ ⟨r,hm,?_⟩ (by simp[sx]);rw[S.T4];simp[c1]
 ·rintro t df g' ⟨rfl,rfl,⟨ht,ha⟩⟩;rw[Wa]at ha;exact fin t ha ht
end
theorem LA{d:Nat}{n:Net}(hd:0<d)(hm:Agg n NoP 0 g.h v):am C0 d 60 [v] g=.val (.bool (S.T3 n)):=by
 obtain⟨b,rows,rfl,e,O,hN,V,r2,Y,r4⟩:=dZ d hm;have bad:¬NR n->AV.bool false=AV.bool (S.T3 n):=λh=>by
  cases hn:S.T3 n with
  |true=>exact absurd (jR.1 hn) h
  |false=>rfl
 rw[xJ];refine gZ AG (xs:=[.agg [ZJ n.grain,b]]) (by simp only[aG,e]) (by simp[o9]) hd ?_;have nl:=λg=>hN.len g;simp only[sz,simprocAttr,o9];obtain⟨g0,hg0⟩:∃g0,g0=G.empty.new (.cells [ZJ n.grain,b].length [[ZJ n.grain,b]] 0 false false):=⟨_,rfl⟩;have f0:g0.h.get 0=Y6 2 [[ZJ n.grain,b]]:=by rw[hg0];simp[sx]
 have f1:1<=g0.nx:=by rw[hg0];simp[sx]
 rw[show (G.empty.new (Y6 2 [[ZJ n.grain,b]]))=g0 from by rw[hg0];rfl];clear hg0;simp only[sj]
 by_cases c1:n.grain<1
 ·simp only[sz,simprocAttr,f0,c1];exact bad λh=>by have:=h.g1;omega
 by_cases c2:60<n.grain
 ·simp only[sz,simprocAttr,f0,c1,c2];exact bad λh=>by have:=h.g2;omega
 by_cases c3:(n.nodes.length:Int)<1
 ·simp only[sz,simprocAttr,f0,c1,c2,c3,nl];exact bad λh=>by have:=h.l1;omega
 by_cases c4:8<(n.nodes.length:Int)
 ·simp only[sz,simprocAttr,f0,c1,c2,c3,c4,nl];exact bad λh=>by have:=h.l2;omega
 refine bB (P:=λt' df g'=>df=[]/\g'=g0/\St t' [(1,ZK 0)]) ?_ ?_
 ·simp only[sz,simprocAttr,f0,c1,c2,c3,c4,nl];simp[St,sx]
 rintro t df g1 ⟨rfl,rfl,h1,-⟩;simp only[sz,simprocAttr,pU];have h8:=r4 (by omega);refine aP n.nodes.length (by omega) (λj t df g=>df=[]/\RJ0 n b j t g)
  ⟨rfl,by simp[St,sx,h1,S.Ty],f0,f1,by simp⟩ (by simp[sx]) (by decide) (by rintro j t df g v s (rfl|rfl|rfl) ⟨a1,⟨b1,b2,-⟩,b3,W,b5⟩<;>exact⟨a1,by simp[St,sx,b1,b2],b3,W,b5⟩) ?_ ?_ ?_
 ·rintro j t df g N ⟨rfl,⟨⟨h1,C,-⟩,hg,f,ha⟩⟩ h4;simp only[sz,simprocAttr,h1,h4,hg,nl];exact⟨by simp[St,sx,h1,C],hg,f,ha⟩
 ·rintro j t df g N ⟨rfl,⟨⟨h1,C,-⟩,hg,f,ha⟩⟩ h4;obtain⟨x,hx,J,i⟩:=ae N;obtain⟨pa,ra,L,hlt,Q,H⟩:=Y j x hx;have z:=λg=>If (d:=d+1) (g:=g) (P:=NoP) (k:=0) (l:=x.parents) (n:=(n.nodes.length:Int)) (VI d) (Q.tree (h':=g.h) (Vu 0));have m:¬(0=g.nx):=by omega
  have badn:S.Uy n.nodes.length x=false->AV.bool false=AV.bool (S.T3 n):=λh=>bad λhr=>by have h1:=hr.card x i;have h2:=hr.places x i;rw[S.Uy,h2]at h;simp at h;omega
  by_cases d1:x.card<1
  ·simp only[sz,simprocAttr,h1,h4,hg,V,hlt,L,d1];exact badn (by rw[S.Uy];simp;omega)
  by_cases d2:4<x.card
  ·simp only[sz,simprocAttr,h1,h4,hg,V,hlt,L,d1,d2];exact badn (by rw[S.Uy];simp;omega)
  cases d3:S.Uv x.parents n.nodes.length with
  | false =>
   rw[d3]at z;simp only[sz,simprocAttr,h1,h4,hg,V,hlt,L,m,nl,z,d1,d2];exact badn (by rw[S.Uy,d3];simp)
  | true =>
   rw[d3]at z;have X:S.Uy n.nodes.length x=true:=by rw[S.Uy,d3];simp;omega
   have o:∀y∈n.nodes.take (j+1),S.Uy n.nodes.length y=true:=λy B=>by
    rw[J]at B;rcases V7.1 B with h|h
    ·exact ha y h
    ·rw[VY.1 h];exact X
   have F:∀c∈(S.Tx n).take (j+1),1<=c/\c<=4:=λc hc=>by rw[S.Tx,<-Yy]at hc;obtain⟨y,B,rfl⟩:=Wk.1 hc;have:=o y B;simp[S.Uy]at this;omega
   have R:=cj F;have h5:=jS (a:=((S.Tx n).take (j+1)).length) (b:=8) (by rw[Wf];omega);have Z:(4:Int) ^ 8=65536:=by decide
   have e1:S.Ty ((S.Tx n).take (j+1))=S.Ty ((S.Tx n).take j)*x.card:=by
    rw[YD];have:(S.Tx n)[j]?=some x.card:=by simp[S.Tx,hx]
    rw[this];exact iH _ _
   have w1:IntKind.wrap .i64 (S.Ty ((S.Tx n).take j)*x.card)=S.Ty ((S.Tx n).take (j+1)):=by rw[<-e1,ap (by omega) (by omega)]
   simp only[sz,simprocAttr,h1,C,h4,hg,V,hlt,L,m,nl,z,d1,d2,w1];refine⟨?_,?_,?_,o⟩
   ·simp[St,sx,h1]
   ·simp[TA,m,hg]
   ·first| (simp;done)| (simp;omega)
 rintro t df g ⟨rfl,⟨⟨h1,C,-⟩,hg,f,ha⟩⟩;rw[Wa]at ha;rw[VX (by rw[aH];exact Vu _)]at C;have w:∀x∈n.nodes,1<=x.card/\x.card<=4:=λx hx=>by have:=ha x hx;simp[S.Uy]at this;omega
 have A:∀x∈n.nodes,S.Uv x.parents n.nodes.length=true:=λx hx=>by have:=ha x hx;simp[S.Uy]at this;exact this.2
 have F:∀c∈S.Tx n,1<=c/\c<=4:=λc hc=>by obtain⟨y,B,rfl⟩:=Wk.1 hc;exact w y B
 simp only[pZ]
 by_cases d1:1024<S.Ty (S.Tx n)
 ·simp only[sz,simprocAttr,C,d1];exact bad λh=>by have:=h.worlds;omega
 have T:=λg=>GJ (d:=d+1) (g:=g) (k:=0) (P:=NoP) (VI d) (O g.h) (by omega) λx hx y B=>by have:=eS (A x hx) y B;omega
 cases d2:S.Uu (S.TJ n) with
 | false =>
  simp only[sz,simprocAttr,h1,C,hg,d1];refine bi (T _) λrp hrp=>?_;have u:=λg=>yT (d:=d+1) (g:=g) (P:=NoP) (k:=0) (p:=S.TJ n) (VI d) (hrp.sl g.h);rw[d2]at u;simp only[sz,simprocAttr,u];exact bad λh=>by have:=h.acyc;rw[d2]at this;cases this
 |true =>
 refine bB (P:=λt' df g'=>df=[]/\g'=g/\St t' [(1,ZK 0)]/\S.Uu (S.TJ n)=true) ?_ ?_
 ·simp only[sz,simprocAttr,h1,C,hg,d1];refine bi (T _) λrp hrp=>?_;have u:=λg=>yT (d:=d+1) (g:=g) (P:=NoP) (k:=0) (p:=S.TJ n) (VI d) (hrp.sl g.h);rw[d2]at u;simp only[sz,simprocAttr,u];simp[St,sx,h1,d2]
 clear h1 C;rintro t df g ⟨rfl,rfl,⟨h1,-⟩,E⟩;simp only[sz,simprocAttr,pV,pX];refine aP n.nodes.length (by omega) (λj t df g=>df=[]/\RJ6 n b j t g)
  ⟨rfl,by simp[St,sx,h1],hg,f,by simp⟩ (by simp[sx]) (by decide) (by rintro j t df g v s (rfl|rfl|rfl) ⟨a1,⟨b1,-⟩,b3,W,b5⟩<;>exact⟨a1,by simp[St,sx,b1],b3,W,b5⟩) ?_ ?_ ?_
 ·rintro j t df g N ⟨rfl,⟨⟨h1,-⟩,hg,f,ha⟩⟩ K;simp only[sz,simprocAttr,h1,K,hg,nl];exact⟨by simp[St,sx,h1],hg,f,ha⟩
 ·rintro j t df g N ⟨rfl,⟨⟨h1,-⟩,hg,f,ha⟩⟩ K;obtain⟨x,hx,J,i⟩:=ae N;obtain⟨pa,ra,L,hlt,Q,H⟩:=Y j x hx;have m:¬(0=g.nx):=by omega
  have z:=fS (A x i) (by omega);have D:∀p∈x.parents,0<=p/\p<(n.nodes.length:Int):=eS (A x i);have R:∀c∈S.TA (S.Tx n) x.parents,1<=c/\c<=4:=eG F λp hp=>by rw[aH];exact D p hp
  have badn:S.UO n x=false->AV.bool false=AV.bool (S.T3 n):=λh=>bad λhr=>by
   have h1:=hr.rows x i;have h2:=hr.row x i;have:S.UO n x=true:=by simp only[S.UO,S.T4,Vx,VK,VQ];exact⟨h1,λr hr=>⟨⟨(h2 r hr).1,(h2 r hr).2.1⟩,(h2 r hr).2.2⟩⟩
   rw[h]at this;cases this
  simp only[sz,simprocAttr,h1,K,hg,V,hlt,L,m,H.len];refine bi (ue (d:=d+1) (k:=0) (P:=NoP) (VI d) (O _) (by omega) hx (by omega) D) λrc hrc=>?_;have I:=λg=>Bu (d:=d+1) (g:=g) (P:=NoP) (k:=0) (VI d) (hrc.sl g.h);rw[yx R (by simp[S.TA];omega)]at I
  by_cases d1:(x.rows.length:Int)=S.Ty (S.TA (S.Tx n) x.parents)
  ·simp only[sz,simprocAttr,I,d1];refine Om (v:=j) (q:=g.nx) (b:=b) (pa:=pa) (card:=x.card) (gr:=n.grain) (rws:=x.rows) H (w x i) (by omega) (by simp[St,LR5,sx,h1,K]) (by simp[sx]) (by simp[TA,m,hg]) (by simp[TA]) ?_ ?_
   ·rintro t ⟨r,hr,U⟩ h2;simp only[sx,sy,h2];refine badn ?_;rw[S.UO];have:x.rows.all (S.T4 n.grain x.card)=false:=by rw[<-XM,VQ];intro h;rw[h r hr]at U;cases U
    rw[this,YZ]
   ·rintro t o ⟨h1,K,h7,-⟩;simp only[sx,sy,↓reduceIte,K];refine⟨?_,?_,?_,λy B=>?_⟩
    ·simp[St,h1]
    ·simp[TA,m,hg]
    ·first| (simp;done)| (simp;omega)
    ·rw[J]at B;rcases V7.1 B with h|h
     ·exact ha y h
     ·rw[VY.1 h,S.UO,VQ.2 o];simp[d1]
  ·simp only[sz,simprocAttr,I,d1];exact badn (by rw[S.UO];simp[d1])
 ·rintro t df g ⟨rfl,⟨⟨h1,-⟩,hg,f,M⟩⟩;rw[Wa]at M;simp only[sz,simprocAttr,pY];have:S.T3 n=true:=by unfold S.T3;simp only[Vx,VK,VQ];exact⟨⟨⟨⟨⟨⟨⟨by omega,by omega⟩,by omega⟩,by omega⟩,ha⟩,by omega⟩,E⟩,M⟩
  rw[this]
section
variable {tl:List Int}
def OwnC(g:G)(b id:Nat)(l tl:List Int):Prop:=b<=id/\id<g.nx/\g.h.get id=Y6 1 (l.map ci++tl.map ci)
theorem OwnC.rows{id:Nat}(h:OwnC g b id l tl):ak g.h 1 (.hsl id 0 0 l.length none)=some (l.map ci):=by rw[eI,h.2.2,cN,VC (by simp),Xp,List.take_left' (by simp)]
theorem OwnC.fr{id:Nat}(h:OwnC g b id l tl)(hn:g.nx<=g'.nx)(hf:g'.h.get id=g.h.get id):OwnC g' b id l tl:=⟨h.1,VL h.2.1 hn,by rw[hf,h.2.2]⟩
theorem SW(hn:n<=1000)(hb:b<=g.nx)(k:∀g',OwnC g' b g.nx [] (List.replicate n 0)->g'.nx=g.nx+1->(∀i,i<g.nx->g'.h.get i=g.h.get i)->K (.hsl g.nx 0 0 0 none) g') :
  (HR 1 8 [ZJ 0] (ZJ 0) (ZJ (n:Int)) g).sat K g D:=by
 have h1:n<=aT:=by unfold aT;omega
 have h2:n*8<=aT:=by unfold aT;omega
 have key:HR 1 8 [ZJ 0] (ZJ 0) (ZJ (n:Int)) g=.upd (.hsl g.nx 0 0 0 none) (g.new (Y6 1 (qx n [ZJ 0]))):=by
  show (match eO aT (ZJ (.ofNat n)) with
   | some cn=>match eO cn (ZJ 0) with
    |some ln=>aB (Nat.ble (cn*8) aT) (OR.upd (.hsl g.nx 0 0 ln none) (g.new (Y6 1 (qx cn [ZJ 0])))) .fail
    |none=>.fail
   |none=>.fail)=_
  have a1:eO aT (ZJ (.ofNat n))=some n:=by show aB (Nat.ble n aT) (some n) none=_;rw[aa,VC (by simpa using h1)]
  have a2:eO n (ZJ 0)=some 0:=by show aB (Nat.ble 0 n) (some 0) none=_;rw[aa,VC (by simp)]
  rw[a1];dsimp only;rw[a2];dsimp only;rw[aa,VC (by simpa using h2)]
 rw[key];refine k _ ⟨hb,by simp,?_⟩ (by simp) (λi hi=>?_)
 ·simp[aJ,qx,ci]
 ·rw[G.new_h,af _ _ _ (by omega)]
theorem LZ{id:Nat}{x y:Int}(hv:OwnC g b id l (y::tl))(hx:ak g.h 1 w=some [ci x])(hr:l.length<=1000)
  (k:∀g',OwnC g' b id (l++[x]) tl->g'.nx=g.nx->(∀i,i≠id->g'.h.get i=g.h.get i)->K (.hsl id 0 0 (l++[x]).length none) g'):(cW 1 8 (.hsl id 0 0 l.length none) w g).sat K g D:=by
 unfold cW;rw[hx];obtain⟨h1,h2,d⟩:=hv;simp only[bk,G.get_eq,d,aF,aa,Wm,WA,Wt,Vx,WE,Xg,XJ,Wr,VF,Wd,XG];rw[VC ⟨by omega,by unfold aT;omega⟩,VC (by omega)];have a:np false=true:=rfl;rw[VC ⟨by omega,a⟩];have e:rD (l.map ci++(y::tl).map ci) l.length [ci x]=(l++[x]).map ci++tl.map ci:=by simp only[rD,jj];rw[WJ,W5,W4,Xl _ _ (by simp)];simp
 rw[e];have k:=k (g.put id (Y6 1 ((l++[x]).map ci++tl.map ci))) ⟨h1,by simpa using h2,by simp[aJ]⟩ (by simp) (λi hi=>by rw[G.put_h,af _ _ _ hi]);have c:l.length+1=(l++[x]).length:=by simp
 rw[c];exact k
def SL(p:List Nat):VS:=λP k h v=>∃o:List Int,True/\Hn (One o) (One (S.Uu p)) P k h v
theorem LG{p:List Nat}(hd:0<d)(hv:SlR P k g.h p v)(hn:p.length<=8)(hp:∀x∈p,x<2 ^ p.length) :
  ∃z,am C0 d 83 [v] g=.val z/\SL p NoP 0 .nil z:=by
 obtain⟨v',e,r1⟩:=bm hv d;have hlt:=qE hv;rw[y8];refine a_ B3 (xs:=[v']) (by simp only[aG,e]) (by simp[qR]) (rH λo=>qA (m:=1) (aY _) (aY _) (by decide) (by decide)) (by decide) hd ?_;have vl:∀g,dH .slice v' g=.val (ZJ (p.length:Int)):=λg=>(r1 .nil).len g;simp only[sz,simprocAttr,qR,vl];refine SW (b:=0) (n:=p.length) (by omega) (Wp _) λg1 hu hn1 hf1=>?_;obtain⟨id,J⟩:∃id,id=G.empty.nx:=⟨_,rfl⟩;rw[<-J]at hu ⊢;clear J hn1 hf1;simp only[sz,simprocAttr];refine it (λn t df g=>df=[]/\∃(L:List Nat) (D:Nat) (tl:List Int),n=p.length - L.length/\L.length+tl.length=p.length/\KA p L/\RG D L/\Kx p D/\St t [(0,v'),(4,.hsl id 0 0 (L.map λi:Nat=>(i:Int)).length none),(5,ZL (D:Int))]/\OwnC g 0 id (L.map λi:Nat=>(i:Int)) tl) p.length
  ⟨rfl,[],0,List.replicate p.length 0,by simp,by simp,⟨by simp,by simp⟩,⟨by decide,by simp⟩,C3,by simp[sx,St],hu⟩ ?_
 rintro n t df g ⟨rfl,L,D,tl,rfl,I,O,f,hG,⟨h0,h4,h5,-⟩,hu⟩;have h8:=N6 O;have Z:∀g',dH .slice (.hsl id 0 0 (L.map λi:Nat=>(i:Int)).length none) g'=.val (ZJ (L.length:Int)):=λg'=>by rw[dl hu.rows];simp
 simp only[sz,simprocAttr,rR,h0,h4,vl,Z];refine aX (λhb=>?_) (λhb=>?_)
 ·have K:L.length<p.length:=by simpa using hb
  obtain⟨y,tl,rfl⟩:∃y tl',tl=y::tl':=by
   cases tl with
   |nil=>simp at I;omega
   |cons y tl=>exact⟨y,tl,rfl⟩
  simp only[sz,simprocAttr,h0,vl,rQ];refine bD (m:=p.length) (by omega) (λj t df g'=>df=[]/\g'=g/\St t [(0,v'),(16,v'),(4,.hsl id 0 0 (L.map λi:Nat=>(i:Int)).length none),(5,ZL (D:Int))]/\∀v,v<j->D.testBit v=true\/¬Sub (Par p v) D)
   ⟨rfl,rfl,by simp[sx,St,h0,h4,h5],λv hv=>by omega⟩ (by simp[sx]) (by simp[sx]) (by decide) (by rintro j t df g v s (rfl|rfl|rfl)<;>simp[sx,St]) ?_ ?_
  ·rintro j t df g' V ⟨rfl,rfl,⟨h0,u,h4,h5,-⟩,c⟩ w H;obtain⟨x,hx,-,h7⟩:=ae V;have F:Par p j=x:=by simp[Par,hx]
   have h6:=hlt x h7;have C:j<(p.map cu).length:=by simpa using V
   have E:(p.map cu)[j]?=some (cu x):=by rw[Vw,hx];rfl
   have b1:=zF .i64 D j f.1;have R:D / 2 ^ j<18446744073709551616:=Xd (W8 _ _) f.1;have b2:bQ .and (ZL ((D / 2 ^ j:Nat):Int)) (ZL 1)=.val (ZL ((D / 2 ^ j &&& 1:Nat):Int)):=nM _ 1 R (by decide);have b3:=Af x D h6 f.1;have ra:=λh=>(r1 h).nats;have l:D.testBit j = !decide (((D / 2 ^ j &&& 1:Nat):Int)=0):=by
    rw[<-rg,S.UN];have h2:D / 2 ^ j &&& 1=(D / 2 ^ j) % 2:=Nat.and_one_is_mod _;rw[h2];have:=WP (D / 2 ^ j) (show 0<2 by decide)
    by_cases h3:D / 2 ^ j % 2=0
    ·rw[h3];simp
    ·have h4:D / 2 ^ j % 2=1:=by omega
     rw[h4];simp
   have next:(D.testBit j=true\/¬Sub (Par p j) D)->∀v,v<j+1->D.testBit v=true\/¬Sub (Par p v) D:=λh v hv=>by
    by_cases e:v=j
    ·subst e;exact h
    ·exact c v (by omega)
   by_cases c1:((D / 2 ^ j &&& 1:Nat):Int)=0
   ·by_cases c2:((x ^^^ (x &&& D):Nat):Int)=0
    ·have Q:S.TF x D=0:=by simpa [S.TF] using c2
     have r:=CQ.1 Q;have W:j ∉ L:=λh=>by have:=(f.2 j).2 h;rw[l,c1]at this;simp at this
     have h9:D ||| S.TT j<18446744073709551616:=JV f.1 (oD j);simp only[sz,simprocAttr,u,h4,h5,w,b1,b2,b3,ra,C,E,cu,c1,c2];refine LZ (x:=(j:Int)) (hu.fr (by simp) (by rw[G.new_h,af _ _ _ (by have:=hu.2.1;omega)])) (by simp[sx,sy,ci]) (by simp;omega) λg2 hu2 n2 f2=>?_;have M:bQ .shl (ZL 1) (ZJ (j:Int))=.val (ZL (S.TT j:Int)):=fu .i64 j;have e1:(L.map λi:Nat=>(i:Int))++[(j:Int)]=(L++[j]).map λi:Nat=>(i:Int):=by simp
     rw[e1]at hu2 ⊢;simp only[sz,simprocAttr,h5,M,mo _ _ f.1 (oD j)];refine⟨p.length - (L++[j]).length,by simp;omega,L++[j],D ||| S.TT j,tl,rfl,by simp at I ⊢;omega,Ll O W V λq hq=>?_,LE f (by omega),FZ hG (by omega) (by rw[F];exact r),by simp[sx,St,h0],hu2⟩;rw[F]at hq;exact (f.2 q).1 (r q hq)
    ·have X:¬Sub (Par p j) D:=λh=>c2 (by
      have:=CQ.2 h;rw[F]at this;simp[S.TF]at this;simp[this])
     simp only[sz,simprocAttr,h0,u,h4,h5,w,H,b1,b2,b3,ra,C,E,cu,c1,c2,St];exact next (.inr X)
   ·simp only[sz,simprocAttr,h0,u,h4,h5,w,H,b1,b2,ra,C,E,cu,c1,St];exact next (.inl (by rw[l,We c1];rfl))
  ·rintro t df g' ⟨rfl,rfl,-,c⟩;obtain⟨v0,h1,N⟩:=Qb O K;have A:S.Uu p=false:=by
    cases hc:S.Uu p with
    |false=>rfl
    | true =>
     have:=Dy hp hc (T:=D) (λv hv hb=>by
      rcases c v hv with h|h
      ·rw[h]at hb;cases hb
      ·exact h) v0 h1
     exact absurd ((f.2 v0).1 this) N
   simp only[sz,simprocAttr,rS];exact⟨λ_=>True,[],.nils,.bool false,rfl,⟨.nils,rfl,by show 0<9223372036854775808;decide,rfl⟩,jh.2 (by rw[A])⟩
 ·have U:p.length<=L.length:=by simp at hb;omega
  have Y:tl=[]:=Wb (by omega);subst Y;have B:=Lk O U;have A:=vY hG λv hv=>(f.2 v).2 (B.1 v hv);simp only[sz,simprocAttr,rT,h4];refine⟨λ_=>True,L.map (λi:Nat=>(i:Int)),_,_,rfl,⟨_,rfl,by simp;omega,trivial,_,hu.rows,Tx (λa=>aW.2 rfl) _⟩,jh.2 (by rw[A])⟩
end
theorem Lw{C:Cfg}{id:Nat}{ps:List Nat}{assign body:Code}{a b:SC}{dfr:Nat}{args:List AV}{t':T}
  (hg:g.h.get id=.loop nt t ps assign body dfr .ready none) (ha:eN C nt assign=a) (hb:eN C nt body=b) (hp:dm t nt ps args=some t')
  (h:wp C d (some id) a (λe t1 df g1=>e=.norm/\df=[]/\g1=g /\
   wp C d (some id) b (λe _ df g2=>df=[]/\g2.h.get id=.loop nt t ps assign body dfr .busy none/\((e=.norm/\K (.bool true) (g2.put id (.loop nt t ps assign body dfr .ready none)))\/(e=.ret/\K (.bool false) (g2.put id (.loop nt t ps assign body dfr .done (some .ret))))))
    t1 [] (g.put id (.loop nt t ps assign body dfr .busy none))) t' [] g) :
  (cL (I C) d id args g).sat K g D:=by
 subst ha;subst hb;unfold cL;rw[show g.get id=_ from hg];dsimp only;rw[hp];dsimp only;have h1:=tX h;cases hc:(I C).code nt d (some id) assign t' [] g with
 |fail=>rw[hc]at h1;exact h1.elim
 | ok e t1 df g1 =>
  rw[hc]at h1;obtain⟨rfl,rfl,rfl,h2⟩:=h1;dsimp only;rw[show g1.get id=_ from hg];dsimp only;have k:=tX h2;cases hc2:(I C).code nt d (some id) body t1 [] (g1.put id (.loop nt t ps assign body dfr .busy none)) with
  |fail=>rw[hc2]at k;exact k.elim
  | ok e t2 df2 g2 =>
   rw[hc2]at k;obtain⟨rfl,h4,h5⟩:=k;dsimp only;rw[show g2.get id=_ from h4];rcases h5 with⟨rfl,h5⟩|⟨rfl,h5⟩<;>exact h5
theorem vR{C:Cfg}{f:Od}{ps:List Nat}{a b:SC}{df:List ADf}{fn:Nat}{first cap:List AV}{s:SF}(hv:f.get t=.clo fn first cap)(he:C.ext fn=none)(hs:nFn C fn=some s)
  (hl:(first++(.yld (g.nx+1)::cap)).length<=s.nt)
  (h:∀assign body,eN C nt assign=a->eN C nt body=b ->
   wp C d none s.code (fnQ C d s.res λ_ g2=>∃nt' t' ps' as' bd' dfr',(g2.h.get (g.nx+1)=.loop nt' t' ps' as' bd' dfr' .ready none/\Q .norm t (.mark g.nx::df) (g2.put (g.nx+1) (.loop nt' t' ps' as' bd' dfr' .exhausted none))) \/
     (g2.h.get (g.nx+1)=.loop nt' t' ps' as' bd' dfr' .done (some .ret)/\Q .ret t (.mark g.nx::df) (g2.put (g.nx+1) (.loop nt' t' ps' as' bd' dfr' .exhausted (some .ret)))))
    (cD 0 (first++(.yld (g.nx+1)::cap)) .nil) [] ((g.new (.dfr true)).new (.loop nt t ps assign body g.nx .ready none))) :
  wp C d none (.rng nt f ps a b) Q t df g:=by
 intro assign body ha hb;have h:=tZ hs hl (h assign body ha hb);show (cP C (I C) nt d none (f.get t) ps assign body t (.mark g.nx::df) g.nx (g.new (.dfr true))).sat Q;rw[hv];unfold cP;dsimp only;rw[he];show (match (I C).call d fn (first++(AV.yld (g.nx+1)::cap)) ((g.new (.dfr true)).new (.loop nt t ps assign body g.nx .ready none)) with
  |.ok _ g2=>d_ (I C) nt d none (g.nx+1) t (.mark g.nx::df) g2
  |.fail=>.fail).sat Q
 cases hc:(I C).call d fn (first++(AV.yld (g.nx+1)::cap)) ((g.new (.dfr true)).new (.loop nt t ps assign body g.nx .ready none)) with
 |fail=>rw[hc]at h;exact h.elim
 | ok v g2 =>
  rw[hc]at h;obtain⟨nt',t',ps',as',bd',dfr',h⟩:=h;show (d_ (I C) nt d none (g.nx+1) t (.mark g.nx::df) g2).sat Q;unfold d_;rcases h with⟨h1,h2⟩|⟨h1,h2⟩
  ·rw[show g2.get (g.nx+1)=_ from h1];exact h2
  ·rw[show g2.get (g.nx+1)=_ from h1];dsimp only;rw[Hm];exact h2
def RwV(x:Node):VS:=λP k h v=>∃p,v=.clo 121 [] [p] /\
 ((∃id cs,p=ZK id/\P id/\h.get id=Y6 3 [cs]/\Rp.rp P k h x cs)\/∃t cs,p=.tptr t 3 [cs] 0 0/\t<=k/\Rp.rp NoP k .nil x cs)
theorem Sv(x:Node):Snb (RwV x) 2:=by
 refine⟨λ{P k h v n} d r hn=>?_,λ{k h v n} r hn=>?_⟩
 ·obtain⟨p,rfl,r⟩:=r;obtain⟨n,rfl⟩:∃q,n=q+2:=⟨n - 2,by omega⟩;rcases r with⟨id,cs,rfl,-,hg,r⟩|⟨t,cs,rfl,ht,r⟩
  ·obtain⟨cs',e,r'⟩:=Rp.snap (n:=n) d r (by show (_:Nat)<=n;exact VR (show Rp.dp Node<=20 by decide) (by omega)) (by decide);obtain⟨m,e2,l2⟩:=Rp.tag (n:=aE) r' (by decide);refine⟨.clo 121 [] [.tptr (Nat.max d (Nat.max m 0)) 3 [cs'] 0 0],?_,_,rfl,.inr ⟨_,cs',rfl,?_,r'⟩⟩
   ·have:Hx.snap h d (n+1) (ZK id)=some (.tptr (Nat.max d (Nat.max m 0)) 3 [cs'] 0 0):=by simp only[Hx.snap,hg,show Nat.beq 0 0=true from rfl,aG,e,j4,jm,e2]
    simp only[Hx.snap,aG]at this ⊢;rw[this]
   ·show max d (max m 0)<=max k d;omega
  ·refine⟨.clo 121 [] [.tptr t 3 [cs] 0 0],rfl,_,rfl,.inr ⟨t,cs,rfl,by omega,Rp.mono r (λi hi=>hi.elim) (by omega)⟩⟩
 ·obtain⟨p,rfl,r⟩:=r;obtain⟨n,rfl⟩:∃q,n=q+2:=⟨n - 2,by omega⟩;rcases r with⟨id,cs,rfl,a,-⟩|⟨t,cs,rfl,ht,r⟩
  ·exact a.elim
  ·exact⟨Nat.max t 0,rfl,by show max t 0<=k;omega⟩
theorem NX(hd:0<d)(hm:Agg x NoP 0 g.h v) :
  ∃pa ra,am C0 d 103 [v] g=.val (.clo 121 [] [.tptr 0 3 [[ZJ x.card,pa,ra]] 0 0])/\SlR NoP 0 .nil x.parents pa/\SlR NoP 0 .nil x.rows ra:=by
 have e0:=mj d hm;obtain⟨cs,rfl,hc⟩:=hm;obtain⟨a,b,rfl,hR,hN⟩:=bM.1 hc;have key:∃r,am C0 d 103 [.agg [ZJ x.card,a,b]] g=.val r/\RwV x NoP 0 .nil r:=by rw[BP];refine a_ FH (xs:=[.agg [ZJ x.card,a,b]]) (by simp only[aG,e0]) (by simp[vp]) (Sv x) (by decide) hd ?_;simp only[sz,simprocAttr,vp,wN];exact⟨λ_=>True,_,rfl,.inl ⟨0,_,rfl,trivial,by simp[sx],Rp.tree hc (Vu _)⟩⟩
 obtain⟨r,h1,p,rfl,h2⟩:=key;rcases h2 with⟨id,cs,rfl,e,-⟩|⟨t,cs,rfl,ht,hr⟩
 ·exact e.elim
 ·have:t=0:=by omega
  subst this;obtain⟨a',b',rfl,c,k⟩:=bM.1 hr;exact⟨a',b',h1,c,k⟩
theorem MN(fo l sz i off:Nat)(rows:List (List AV)):HI fo (.tptr l sz rows i off)=.val (.tptr l sz rows i (off+fo)):=rfl
theorem Ov{id:Nat}{pa ra:AV}{rws:List (List Int)}{g0:G}(hra:SlR NoP 0 .nil rws ra)(J:Nat->H->Prop)(E:G->Prop)
  (step:∀(j:Nat) (r:List Int) (z:AV) (g:G) (K':AV->G->Prop) (D:ADf->Prop),rws[j]?=some r->SlR NoP 0 .nil r z->g0.nx<=g.nx->J j g.h ->
   (∀g',J (j+1) g'.h->g.nx<=g'.nx->K' (.bool true) g')->(∀g',E g'->K' (.bool false) g')->(cL (I C0) d id [ZJ (j:Int),z] g).sat K' g D)
  (h0:J 0 g0.h) (fin:∀g',J rws.length g'.h->g0.nx<=g'.nx->K (.tup []) g') (finE:∀g',E g'->K (.tup []) g') :
  wp C0 d none fY.code (fnQ C0 d fY.res K) (cD 0 [.yld id,.tptr 0 3 [[ZJ c,pa,ra]] 0 0] .nil) [] g0:=by
 obtain⟨rr,s1,s2,s3,s4⟩:=xh hra;simp only[sz,simprocAttr,fY,rP,MN,Ld,hra.len];refine bD (m:=rws.length) hra.1 (λj t df g=>df=[]/\St t [(0,.yld id),(6,ra)]/\J j g.h/\g0.nx<=g.nx) ⟨rfl,by simp[St,sx],h0,Vu _⟩ (by simp[sx]) (by simp[sx]) (by decide) (by rintro j t df g v s (rfl|rfl|rfl)<;>simp[St,sx]) ?_ ?_
 ·rintro j t df g e ⟨rfl,⟨h0,b,-⟩,a,k⟩ h8 h7;obtain⟨r,hr,-,-⟩:=ae e;obtain⟨z,q2,q3,hz⟩:=s3 j r hr;have f:=s4 (by omega);simp only[sz,simprocAttr,h0,b,h8,s1,q2,q3];show (cL (I C0) d id [ZJ (j:Int),z] g).sat _ _ _;refine step j r z g _ _ hr hz k a (λg' hJ' hn'=>?_) λg' hE=>?_
  ·simp only[sz,simprocAttr,h7,h8];simp[St,sx,h0,b,hJ',VR k hn']
  ·simp only[sz,simprocAttr];exact finE g' hE
 ·rintro t df g ⟨rfl,-,a,k⟩;simp only[sx,↓reduceIte];exact fin g a k
theorem HH:C0.ext 121=none:=by kernel_rfl
structure RowQ (b:Nat) (g2 g3:G) (e:Ex) (A B:Prop):Prop where
 nx:g2.nx<=g3.nx
 fr:∀i,b<=i->i<g2.nx->g3.h.get i=g2.h.get i
 st:(e=.norm/\A)\/(e=.ret/\B)
theorem Ou{y p q:Nat}{pa ra:AV}{rws:List (List Int)}{ca cb:SC}(hra:SlR NoP 0 .nil rws ra)(hv:tat t y=.clo 121 [] [.tptr 0 3 [[ZJ c,pa,ra]] 0 0])(hp:p<nt)(hq:q<nt)
  (J:Nat->H->Prop) (E:H->Prop) (hJ:∀j h h',(∀i,i<g.nx->h'.get i=h.get i)->J j h->J j h') (hE:∀h h',(∀i,i<g.nx->h'.get i=h.get i)->E h->E h') (h0:J 0 g.h)
  (step:∀(j:Nat) (r:List Int) (z:AV) (g1:G),rws[j]?=some r->SlR NoP 0 .nil r z->J j g1.h->g.nx+2<=g1.nx ->
   wp C0 d (some (g.nx+1)) ca (λe t1 df g1'=>e=.norm/\df=[]/\g1'=g1/\∀g2:G,g2.nx=g1.nx->(∀i,i≠g.nx+1->g2.h.get i=g1.h.get i) ->
    wp C0 d (some (g.nx+1)) cb (λe _ df g3=>df=[]/\RowQ g.nx g2 g3 e (J (j+1) g3.h) (E g3.h)) t1 [] g2)
    (eQ (eQ t p (ZJ (j:Int))) q z) [] g1)
  (fin:∀g',J rws.length g'.h->g.nx+2<=g'.nx->g'.h.get g.nx=.dfr true->Q .norm t [.mark g.nx] g')
  (finE:∀g',E g'.h->g.nx+2<=g'.nx->g'.h.get g.nx=.dfr true->Q .ret t [.mark g.nx] g') :
  wp C0 d none (.rng nt (.t y) [p,q] ca cb) Q t [] g:=by
 refine vR (fn:=121) (first:=[]) (cap:=[.tptr 0 3 [[ZJ c,pa,ra]] 0 0]) (s:=fY) hv HH B2 (by simp[fY]) ?_;intro assign body ha hb;have e1:((g.new (.dfr true)).new (.loop nt t [p,q] assign body g.nx .ready none)).nx=g.nx+2:=by simp
 refine Ov (g0:=(g.new (.dfr true)).new (.loop nt t [p,q] assign body g.nx .ready none)) (id:=g.nx+1) hra
  (λj h=>J j h/\h.get g.nx=.dfr true/\h.get (g.nx+1)=.loop nt t [p,q] assign body g.nx .ready none)
  (λg'=>E g'.h/\g'.h.get g.nx=.dfr true/\g'.h.get (g.nx+1)=.loop nt t [p,q] assign body g.nx .done (some .ret)/\g.nx+2<=g'.nx) ?_ ?_ ?_ ?_
 ·rintro j r z g1 K' D hr hz k ⟨a1,a2,a⟩ kk kE;rw[e1]at k;refine Lw a ha hb (t':=eQ (eQ t p (ZJ (j:Int))) q z) ?_ ?_
  ·simp only[dm,aa,WN,VC hp,VC hq];rfl
  ·refine bX _ (step j r z g1 hr hz a1 (by omega)) ?_;rintro e t1 df g1' ⟨rfl,rfl,rfl,h⟩;refine⟨rfl,rfl,rfl,?_⟩;have hl:g.nx+1<g1'.nx:=by omega
   refine bX _ (h (g1'.put (g.nx+1) (.loop nt t [p,q] assign body g.nx .busy none)) (by simp) (λi hi=>by simp[TA,hi])) ?_;rintro e f df g3 ⟨rfl,⟨b2,b3,b1⟩⟩;have b:g3.h.get (g.nx+1)=.loop nt t [p,q] assign body g.nx .busy none:=by rw[b3 _ (by omega) (by simpa using hl)];simp[TA]
   have b5:g3.h.get g.nx=.dfr true:=by rw[b3 _ (by omega) (by simp;omega)];simp[TA,a2]
   refine⟨rfl,b,?_⟩;rcases b1 with⟨rfl,b1⟩|⟨rfl,b1⟩
   ·refine .inl ⟨rfl,kk _ ⟨hJ _ g3.h _ (λi hi=>by simp[TA,show ¬i=g.nx+1 by omega]) b1,?_,?_⟩ (by simpa using b2)⟩
    ·simp[TA,b5]
    ·simp[TA]
   ·refine .inr ⟨rfl,kE _ ⟨hE g3.h _ (λi hi=>by simp[TA,show ¬i=g.nx+1 by omega]) b1,?_,?_,?_⟩⟩
    ·simp[TA,b5]
    ·simp[TA]
    ·simp at b2 ⊢;omega
 ·refine⟨hJ 0 g.h _ (λi hi=>?_) h0,?_,?_⟩
  ·simp[TA,show ¬i=g.nx+1 by omega,show ¬i=g.nx by omega]
  ·simp[TA]
  ·simp[TA]
 ·rintro g' ⟨a1,a2,a⟩ k;rw[e1]at k;refine⟨_,_,_,_,_,_,.inl ⟨a,fin _ (hJ _ g'.h _ (λi hi=>by simp[TA,show ¬i=g.nx+1 by omega]) a1) (by simpa using k) ?_⟩⟩;simp[TA,a2]
 ·rintro g' ⟨a1,a2,a,k⟩;refine⟨_,_,_,_,_,_,.inr ⟨a,finE _ (hE g'.h _ (λi hi=>by simp[TA,show ¬i=g.nx+1 by omega]) a1) (by simpa using k) ?_⟩⟩;simp[TA,a2]
abbrev NwM:Type:=Net×List Int×List Nat×List Int
theorem Dk{x:NwM}{cs:List AV}:Rp.rp P k h x cs↔∃a b c e,cs=[ZJ x.1.grain,a,b,c,e]/\SlR P k h x.1.nodes a/\SlR P k h x.2.1 b/\SlR P k h x.2.2.1 c/\SlR P k h x.2.2.2 e:=by
 constructor
 ·rintro⟨c1,d,rfl,h1,f,i,rfl,⟨b,rfl,hb⟩,j,l,rfl,⟨c,rfl,hc⟩,⟨e,rfl,he⟩⟩;obtain⟨a,rfl,ha⟩:=dI.1 h1;exact⟨a,b,c,e,rfl,ha,hb,hc,he⟩
 ·rintro⟨a,b,c,e,rfl,ha,hb,hc,he⟩;exact⟨[_,a],[b,c,e],rfl,dI.2 ⟨a,rfl,ha⟩,[b],[c,e],rfl,⟨b,rfl,hb⟩,[c],[e],rfl,⟨c,rfl,hc⟩,⟨e,rfl,he⟩⟩
theorem EU:∀{l:List Int},(∀x∈l,0<=x)->0<=l.sum
 |[],_=>by simp
 | x::l,h=>by have:=EU (l:=l) λy hy=>h y (by simp[hy]);have:=h x (by simp);rw[X6];omega
theorem Hc(h:∀x∈l,0<=x)(j:Nat):(l.take j).sum<=l.sum:=by
 have:=EU (l:=l.drop j) λx hx=>h x (XR hx);have e:l.sum=(l.take j).sum+(l.drop j).sum:=by rw[<-List.sum_append,WS]
 omega
theorem A_:∀{l:List Int},(∀x∈l,0<=x)->∀x∈l,x<=l.sum
 |[],_,x,hx=>by simp at hx
 | y::l,h,x,hx=>by
  have h1:=EU (l:=l) λz hz=>h z (by simp[hz]);have h2:=h y (by simp);rw[X6];rcases VP.1 hx with rfl|hx
  ·omega
  ·have:=A_ (l:=l) (λz hz=>h z (by simp[hz])) x hx;omega
def S.UA(gr:Int)(cs:List Int)(x:Node):Bool:=decide ((x.rows.length:Int)=S.Ty (S.TA cs x.parents))&&x.rows.all (S.T4 gr x.card)
structure FJ (gr:Int) (r:List Int) (z:AV) (j:Nat) (t:T):Prop where
 st:St t [(2,ZK 0),(3,ZK 1),(4,ZK 2),(9,z),(40,z),(10,ZJ (gr - (r.take j).sum))]
 nn:∀x∈r.take j,0<=x
 le:(r.take j).sum<=gr
theorem KY{rd:Option Nat}{r:List Int}{z:AV}(hz:SlR NoP 0 .nil r z)(hg1:1<=gr/\gr<=60)
  (ht:St t [(2,ZK 0),(3,ZK 1),(4,ZK 2),(9,z),(40,z),(10,ZJ gr)]) (h42:tat t 42=ZJ 0) (h41:tat t 41=ZJ (r.length:Int)) (e2:g.h.get 2=Y6 1 [[.bool false]])
  (bad:∀t,(∀card,S.T4 gr card r=false)->Q .ret t [] (g.put 2 (Y6 1 [[.bool false]])))
  (fin:∀t,(∀x∈r,0<=x)->r.sum<=gr->St t [(2,ZK 0),(3,ZK 1),(4,ZK 2),(9,z),(10,ZJ (gr - r.sum))]->Q (.exit 4) t [] g) :
  wpL (wp C0 d rd dT) Q t [] g:=by
 have rz:=λh=>(hz.tree (h':=h) (Vu 0)).ints;simp only[dT];refine bD (m:=r.length) hz.1 (λj t df g'=>df=[]/\g'=g/\FJ gr r z j t) ⟨rfl,rfl,by simpa using ht,by simp,by simp;omega⟩ h42 h41 (by decide)
  (by rintro j t df g v s (rfl|rfl|rfl) ⟨a1,a2,⟨b1,b2,b3,p,b5,b6,-⟩,q,u⟩<;>exact⟨a1,a2,by simp[St,sx,b1,b2,b3,p,b5,b6],q,u⟩) ?_ ?_
 ·rintro j t df g' o ⟨rfl,rfl,⟨⟨h2,f,h4,h9,a,k,-⟩,b,e⟩⟩ h42 h41;obtain⟨y,A,c,hm⟩:=ae o;have i:j<(r.map ci).length:=by simpa using o
  have n:(r.map ci)[j]?=some (ci y):=by rw[Vw,A];rfl
  have w:=EU b
  by_cases c1:y<0
  ·simp only[sz,simprocAttr,h4,a,h42,rz,i,n,ci,c1,e2];exact bad _ (λcard=>by
    rw[<-XM,S.T4];simp only[Vx,VK,VQ];rintro⟨⟨-,h⟩,-⟩;have:=h y hm;omega)
  ·by_cases c2:gr - (r.take j).sum<y
   ·simp only[sz,simprocAttr,h4,a,k,h42,rz,i,n,ci,c1,c2,e2];exact bad _ (λcard=>by
     rw[<-XM,S.T4];simp only[Vx,VK,VQ];rintro⟨⟨-,h⟩,hs⟩;have h1:=Hc (l:=r) (λx hx=>(h x hx).1) (j+1);rw[c,xq]at h1;omega)
   ·have w1:IntKind.wrap .i64 (gr - (r.take j).sum - y)=gr - (r.take (j+1)).sum:=by rw[ap (by omega) (by omega),c,xq];omega
    simp only[sz,simprocAttr,a,k,h42,h41,rz,i,n,ci,c1,c2,w1];refine⟨by simp[St,sx,h2,f,h4,h9,a],λx hx=>?_,by rw[c,xq];omega⟩;rw[c]at hx;rcases V7.1 hx with h|h
    ·exact b x h
    ·rw[VY.1 h];omega
 ·rintro t df g' ⟨rfl,rfl,⟨⟨h2,f,h4,h9,a,k,-⟩,b,e⟩⟩;rw[Wa]at b e k;exact fin t b e ⟨h2,f,h4,h9,k,trivial⟩
structure FlJ (cs1 cs2:List AV) (gr card:Int) (rws:List (List Int)) (j:Nat) (h:H):Prop where
 a0:h.get 0=Y6 5 [cs1]
 a1:h.get 1=Y6 3 [cs2]
 a2:h.get 2=Y6 1 [[.bool false]]
 all:∀r∈rws.take j,S.T4 gr card r=true
structure FlE (gr card:Int) (rws:List (List Int)) (h:H):Prop where
 a2:h.get 2=Y6 1 [[.bool false]]
 ex:∃r∈rws,S.T4 gr card r=false
theorem KZ{k1 k2:Nat}{P1 P2:Nat->Prop}{m:NwM}(hd:0<d)(hm:Agg m P1 k1 g.h v)(hx:Agg x P2 k2 g.h w)(hk:k2=0/\P2=NoP)(hg1:1<=m.1.grain/\m.1.grain<=60)(hc:∀c∈m.2.1,1<=c/\c<=4)
  (hp:∀p∈x.parents,0<=p/\p<m.2.1.length) (hpl:x.parents.length<=8):am C0 d 82 [v,w] g=.val (.bool (S.UA m.1.grain m.2.1 x)):=by
 obtain⟨rfl,rfl⟩:=hk;obtain⟨v',e1,cs,rfl,V⟩:=jC (bW m) (by decide) d hm;obtain⟨nb,cb,sb,ob,rfl,-,U,-,-⟩:=Dk.1 V;have e2:=mj d hx;obtain⟨cs2,rfl,A⟩:=hx;obtain⟨pa,ra,rfl,N,F⟩:=bM.1 A;have B:∀h,Agg x NoP 0 h (.agg [ZJ x.card,pa,ra]):=λh=>⟨_,rfl,Rp.tree A (Vu _)⟩;have F:=F.tree (h':=.nil) (Vu 0);have rp:=λh=>(N.tree (h':=h) (Vu 0)).ints;have rc:=λh=>(U.tree (h':=h) (Vu _)).ints;have pl:=λg=>(N.tree (h':=.nil) (Vu 0)).len g;have rl:=λg=>F.len g;rw[pB];refine gZ sF (xs:=[.agg [ZJ m.1.grain,nb,cb,sb,ob],.agg [ZJ x.card,pa,ra]]) (by simp only[aG,e1,e2]) (by simp[fF]) hd ?_;simp only[sz,simprocAttr,fF];obtain⟨g0,hg0⟩:∃g0,g0=((G.empty.new (Y6 5 [[ZJ m.1.grain,nb,cb,sb,ob]])).new (Y6 3 [[ZJ x.card,pa,ra]])).new (Y6 1 [[.bool false]]):=⟨_,rfl⟩;rw[<-hg0];have f0:g0.h.get 0=Y6 5 [[ZJ m.1.grain,nb,cb,sb,ob]]:=by rw[hg0];simp[sx,TA]
 have f1:g0.h.get 1=Y6 3 [[ZJ x.card,pa,ra]]:=by rw[hg0];simp[sx,TA]
 have f2:g0.h.get 2=Y6 1 [[.bool false]]:=by rw[hg0];simp[sx]
 have f3:g0.nx=3:=by rw[hg0];simp[sx]
 clear hg0;simp only[sz,simprocAttr,iT,f1,pl,iC];refine bD (m:=x.parents.length) (by omega) (λj t df g=>df=[]/\g=g0/\St t [(2,ZK 0),(3,ZK 1),(4,ZK 2),(14,pa),(5,ZJ (S.Ty (S.TA m.2.1 (x.parents.take j))))])
  ⟨rfl,rfl,by simp[St,sx,S.Ty,S.TA]⟩ (by simp[sx]) (by simp[sx]) (by decide) (by rintro j t df g v s (rfl|rfl|rfl)<;>simp[St,sx]) ?_ ?_
 ·rintro j t df g hj ⟨rfl,rfl,⟨h2,k,h4,n,h5,-⟩⟩ T R;obtain⟨p,X,I,W⟩:=ae hj;obtain⟨p0,p1⟩:=hp p W;obtain⟨p,rfl⟩:=Vy p0;have f:p<m.2.1.length:=by omega
  have u1:j<(x.parents.map ci).length:=by simpa using hj
  have u2:(x.parents.map ci)[j]?=some (ci (p:Int)):=by rw[Vw,X];rfl
  have u3:p<(m.2.1.map ci).length:=by simpa using f
  have u4:(m.2.1.map ci)[p]?=some (ci m.2.1[p]):=by rw[Vw,Vt f];rfl
  have e3:S.Ty (S.TA m.2.1 (x.parents.take (j+1)))=S.Ty (S.TA m.2.1 (x.parents.take j))*m.2.1[p]:=by rw[I,H4,Bq];congr 1;simp[S.TA,S.Ty,Vt f]
  have hb:=cj (l:=S.TA m.2.1 (x.parents.take (j+1))) (eG hc λq hq=>hp q (WL hq));have ha:=jS (a:=(S.TA m.2.1 (x.parents.take (j+1))).length) (b:=8) (by simp[S.TA];omega);have h7:(4:Int) ^ 8=65536:=by decide
  have w1:IntKind.wrap .i64 (S.Ty (S.TA m.2.1 (x.parents.take j))*m.2.1[p])=S.Ty (S.TA m.2.1 (x.parents.take (j+1))):=by rw[<-e3,ap (by omega) (by omega)]
  simp only[sz,simprocAttr,h2,n,h5,T,R,f0,rp,rc,u1,u2,u3,u4,ci,w1];simp[St,sx,h2,k,h4,n]
 rintro t df g ⟨rfl,rfl,⟨h2,k,h4,n,h5,-⟩⟩;rw[Wa]at h5;simp only[iF]
 by_cases c1:(x.rows.length:Int)=S.Ty (S.TA m.2.1 x.parents)
 ·obtain⟨pa',ra',er,h6,O⟩:=NX (d:=d+1) (g:=g) (VI d) (B g.h);refine bB (P:=λt' df g'=>df=[]/\g'=g/\St t' [(2,ZK 0),(3,ZK 1),(4,ZK 2)]) ?_ ?_
  ·simp only[sz,simprocAttr,k,h5,f1,rl,c1];simp[St,sx,h2,k,h4]
  clear h2 k h4 h5 n;rintro t df g ⟨rfl,rfl,h2,k,h4,-⟩;rw[jl,jl];simp only[sz,simprocAttr,k,f1,er];refine Ou (c:=x.card) (pa:=pa') O (by simp[sx]) (by decide) (by decide)
   (FlJ [ZJ m.1.grain,nb,cb,sb,ob] [ZJ x.card,pa,ra] m.1.grain x.card x.rows)
   (FlE m.1.grain x.card x.rows) ?_ ?_ ⟨f0,f1,f2,by simp⟩ ?_ ?_ ?_
  ·rintro j h h' L ⟨a0,a1,a2,u⟩;exact⟨by rw[L 0 (by omega),a0],by rw[L 1 (by omega),a1],by rw[L 2 (by omega),a2],u⟩
  ·rintro h h' L ⟨a2,u⟩;exact⟨by rw[L 2 (by omega),a2],u⟩
  ·rintro j r z g1 hr hz ⟨a0,a1,a2,u⟩ hn;obtain⟨r',o,I,H⟩:=ae (l:=x.rows) (j:=j) (Vv.1 hr).1;rw[hr]at o;injection o with o;subst o;simp only[sz,simprocAttr,iB];intro g2 Z D;have Y:g2.h.get 0=Y6 5 [[ZJ m.1.grain,nb,cb,sb,ob]]:=by rw[D 0 (by omega),a0]
   have b1:g2.h.get 1=Y6 3 [[ZJ x.card,pa,ra]]:=by rw[D 1 (by omega),a1]
   have b2:g2.h.get 2=Y6 1 [[.bool false]]:=by rw[D 2 (by omega),a2]
   simp only[sz,simprocAttr,iD,h2,Y,hz.len];refine KY (gr:=m.1.grain) (r:=r) (z:=z) hz hg1 (by simp[St,sx,h2,k,h4]) (by simp[sx]) (by simp[sx]) b2 ?_ ?_
   ·rintro t Q;simp only[sx,sy];exact⟨by simp,λi h1 h2=>by simp[TA,show ¬i=2 by omega],.inr ⟨rfl,by simp[TA],r,H,Q _⟩⟩
   ·rintro t M h8 ⟨h2,k,h4,h9,K,-⟩;have J:=λg=>hz.len g
    by_cases c2:(r.length:Int)=x.card
    ·by_cases c3:m.1.grain - r.sum=0
     ·simp only[sz,simprocAttr,ct,k,h9,K,J,b1,c2,c3];refine⟨Vu _,λi _ _=>rfl,.inl ⟨rfl,Y,b1,b2,λy hy=>?_⟩⟩;rw[I]at hy;rcases V7.1 hy with h|h
      ·exact u y h
      ·rw[VY.1 h,S.T4];simp only[Vx,VK,VQ];exact⟨⟨c2,λq hq=>⟨M q hq,by have:=A_ M q hq;omega⟩⟩,by omega⟩
     ·have e:S.T4 m.1.grain x.card r=false:=by rw[S.T4];simp;intros;omega
      simp only[sz,simprocAttr,ct,k,h4,h9,K,J,b1,b2,c2,c3];exact⟨by simp,λi h1 h2=>by simp[TA,show ¬i=2 by omega],.inr ⟨rfl,by simp[TA],r,H,e⟩⟩
    ·have e:S.T4 m.1.grain x.card r=false:=by rw[S.T4];simp[c2]
     simp only[sz,simprocAttr,ct,k,h4,h9,J,b1,b2,c2];exact⟨by simp,λi h1 h2=>by simp[TA,show ¬i=2 by omega],.inr ⟨rfl,by simp[TA],r,H,e⟩⟩
  ·rintro g' ⟨a0,a1,a2,u⟩ hn C;rw[Wa]at u;have E:S.UA m.1.grain m.2.1 x=true:=by rw[S.UA,VQ.2 u];simp[c1]
   simp only[sz,simprocAttr,iE,h4,a2];refine pG (by simp[TA,show ¬g.nx=2 by omega,C]) ?_;simp only[sx,sy,↓reduceIte,Nat.reduceEqDiff,h4,E];simp[show ¬(2=g.nx) by omega]
   rfl
  ·rintro g' ⟨a2,r,hr,e⟩ hn C;have E:S.UA m.1.grain m.2.1 x=false:=by
    rw[S.UA];have:x.rows.all (S.T4 m.1.grain x.card)=false:=by rw[<-XM,VQ];intro h;rw[h r hr]at e;cases e
    rw[this,YZ]
   simp only[sx];refine pG C ?_;simp only[sx,sy,↓reduceIte,Nat.reduceEqDiff,h4,E];rw[Vz (by omega),a2]
   rfl
 ·simp only[sz,simprocAttr,k,h4,h5,f1,f2,rl,c1];rw[S.UA];simp[c1]
theorem zM:∀{l:List Int} {v:Nat},(∀x∈l,0<=x/\x<64)->((S.TP l).testBit v=true↔(v:Int)∈l):=by
 have key:∀(l:List Int) (s v:Nat),(∀x∈l,0<=x/\x<64)->((l.foldl (λs x=>s ||| S.TT x.toNat) s).testBit v=true↔s.testBit v=true\/(v:Int)∈l):=by
  intro l
  induction l with
  |nil=>intro s v _;simp
  | cons x l ih =>
   intro s v h;have hx:=h x (by simp);rw[XY,ih _ _ λy hy=>h y (by simp[hy]),dJ,sO (show x.toNat<64 by omega),Wh,VK,VP];constructor
   ·rintro ((h|h)|h)
    ·exact .inl h
    ·exact .inr (.inl (by omega))
    ·exact .inr (.inr h)
   ·rintro (h|h|h)
    ·exact .inl (.inl h)
    ·exact .inl (.inr (by omega))
    ·exact .inr h
 intro l v h;have:=key l 0 v h;simpa [S.TP] using this
theorem NL(hk:k<=64)(h:∀x∈l,0<=x/\x<k):S.TP l<2 ^ k:=by
 have hb:∀i,k<=i->(S.TP l).testBit i=false:=λi hi=>by rw[<-XM,zM λx hx=>by have:=h x hx;omega];intro hm;have:=h _ hm;omega
 exact Nat.lt_pow_two_of_testBit _ λi hi=>hb i hi
structure RdH (n:Net) (b cv sv:AV) (q:Nat) (X:List Int) (Y:List Nat) (g:G):Prop where
 h0:g.h.get 0=Y6 2 [[ZJ n.grain,b]]
 h1:g.h.get 1=Y6 5 [[ZJ 0,.nils,.nils,.nils,.nils]]
 hq:g.h.get q=Y6 5 [[ZJ n.grain,b,cv,sv,.nils]]
 hc:Own g 2 cv 1 (X.map ci)
 hs:Own g 2 sv 1 (Y.map cu)
 q2:2<=q
 qn:q<g.nx
 d1:vid cv≠some q
 d2:vid sv≠some q
 d3:∀i,vid cv=some i->vid sv≠some i
theorem RdH.fr{n:Net}{b cv sv:AV}{q:Nat}{Y:List Nat}(h:RdH n b cv sv q X Y g)(f:Fr g g'):RdH n b cv sv q X Y g' :=
 ⟨by rw[f.2 0 (by have:=h.qn;have:=h.q2;omega),h.h0],by rw[f.2 1 (by have:=h.qn;have:=h.q2;omega),h.h1],by rw[f.2 q h.qn,h.hq],h.hc.step f,h.hs.step f,h.q2,VL h.qn f.1,h.d1,h.d2,h.d3⟩
def S.U1(n:Net)(o:List Int):NwM:=if S.T3 n then (n,S.Tx n,S.TJ n,o) else (⟨0,[]⟩,[],[],[])
def Fc(n:Net):VS:=λP k h v=>∃o:List Int,True/\Hn (Agg (S.U1 n o)) (One (if S.T3 n then (0:Int) else 50)) P k h v
section
variable {d:Nat}{n:Net}{b cv sv:AV}{q:Nat}{rows:List (List AV)}
def LRd(q:Nat):List (Nat×AV):=[(1,ZK 0),(2,ZK 1),(4,ZK q)]
theorem Sk(hn:¬NR n)(h1:g.h.get 1=Y6 5 [[ZJ 0,.nils,.nils,.nils,.nils]])(t2:tat t 2=ZK 1)(t3:tat t 3=ZJ 50) :
  fnQ C0 d mE.res (λv g'=>∃P,Fc n P 0 g'.h v) .ret t [] g:=by
 have hf:S.T3 n=false:=by
  cases h:S.T3 n with
  |false=>rfl
  |true=>exact absurd (jR.1 h) hn
 simp only[mE,sx,sy,↓reduceIte,Nat.reduceAdd,Nat.reduceLeDiff,t2,t3,h1];refine⟨λ_=>True,[],trivial,_,_,rfl,⟨_,rfl,?_⟩,?_⟩
 ·rw[S.U1,hf];exact Dk.2 ⟨.nils,.nils,.nils,.nils,rfl,⟨by show 0<9223372036854775808;decide,rfl⟩,⟨by show 0<9223372036854775808;decide,rfl⟩,⟨by show 0<9223372036854775808;decide,rfl⟩,⟨by show 0<9223372036854775808;decide,rfl⟩⟩
 ·rw[hf];exact aW.2 rfl
structure Rd0 (n:Net) (b cv sv:AV) (q j:Nat) (t:T) (g:G):Prop where
 st:St t ((48,b)::(5,ZJ (S.Ty ((S.Tx n).take j)))::LRd q)
 hp:RdH n b cv sv q ((S.Tx n).take j++List.replicate (n.nodes.length - j) 0) (List.replicate n.nodes.length 0) g
 ok:∀x∈n.nodes.take j,1<=x.card/\x.card<=4
theorem Qt(hl:n.nodes.length<=8)(hN:SlR NoP 0 .nil n.nodes b)(r1:∀h,ak h 3 b=some rows)(r2:rows.length=n.nodes.length)
  (r3:∀(i:Nat) (x:Node),n.nodes[i]?=some x->∃pa ra,rows[i]?=some [ZJ x.card,pa,ra]/\i<rows.length/\SlR NoP 0 .nil x.parents pa/\SlR NoP 0 .nil x.rows ra) (r4:0<n.nodes.length->nA b=true)
  (h0:Rd0 n b cv sv q 0 t g) (h50:tat t 50=ZJ 0) (h49:tat t 49=ZJ (n.nodes.length:Int))
  (bad:∀t g,¬NR n->g.h.get 1=Y6 5 [[ZJ 0,.nils,.nils,.nils,.nils]]->tat t 2=ZK 1->tat t 3=ZJ 50->Q .ret t [] g)
  (fin:∀t g,Rd0 n b cv sv q n.nodes.length t g->Q (.exit 0) t [] g):wpL (wp C0 d none oJ) Q t [] g:=by
 simp only[oJ];refine bD (m:=n.nodes.length) (by omega) (λj t df g=>df=[]/\Rd0 n b cv sv q j t g) ⟨rfl,h0⟩ h50 h49 (by decide)
  (by rintro j t df g v s (rfl|rfl|rfl) ⟨a1,⟨b1,b2,b3,O,b5,-⟩,c1,u⟩<;>exact⟨a1,by simp[St,LRd,sx,b1,b2,b3,O,b5],c1,u⟩) ?_ ?_
 ·rintro j t df g U ⟨rfl,⟨⟨f,h5,h1,h2,h4,-⟩,hp,H⟩⟩ h50 h49;obtain⟨x,hx,I,J⟩:=ae U;obtain⟨pa,ra,K,hlt,X,Z⟩:=r3 j x hx;have h3:=r4 (by omega);have q2:=hp.q2;have qn:=hp.qn;have o:¬(1=g.nx):=by omega
  have N:¬(q=g.nx):=by omega
  have f1:Fr g (g.new (Y6 3 [[ZJ 0,.nils,.nils]])):=Fr.new _ _;have badn:¬(1<=x.card/\x.card<=4)->¬NR n:=λh hr=>h (hr.card x J)
  by_cases c1:x.card<1
  ·simp only[sz,simprocAttr,h2,f,h50,r1,hlt,K,hp.h1,o,c1];exact bad _ _ (badn (by omega)) (by simp[TA]) (by simp[sx,h2]) (by simp[sx])
  ·by_cases u:4<x.card
   ·simp only[sz,simprocAttr,h2,f,h50,r1,hlt,K,hp.h1,o,c1,u];exact bad _ _ (badn (by omega)) (by simp[TA]) (by simp[sx,h2]) (by simp[sx])
   ·have l:∀y∈n.nodes.take (j+1),1<=y.card/\y.card<=4:=λy w=>by
     rw[I]at w;rcases V7.1 w with h|h
     ·exact H y h
     ·rw[VY.1 h];omega
    have D:∀c∈(S.Tx n).take (j+1),1<=c/\c<=4:=λc hc=>by rw[S.Tx,<-Yy]at hc;obtain⟨y,w,rfl⟩:=Wk.1 hc;exact l y w
    have Y:=cj D;have W:=jS (a:=((S.Tx n).take (j+1)).length) (b:=8) (by rw[Wf];omega);have M:(4:Int) ^ 8=65536:=by decide
    have E:(S.Tx n)[j]?=some x.card:=by simp[S.Tx,hx]
    have ets:(S.Tx n).take (j+1)=(S.Tx n).take j++[x.card]:=by rw[YD,E];rfl
    have e1:S.Ty ((S.Tx n).take (j+1))=S.Ty ((S.Tx n).take j)*x.card:=by rw[ets];exact iH _ _
    have w1:IntKind.wrap .i64 (S.Ty ((S.Tx n).take j)*x.card)=S.Ty ((S.Tx n).take (j+1)):=by rw[<-e1,ap (by omega) (by omega)]
    have r:((S.Tx n).take j).length=j:=by rw[Wf,aH];omega
    have B:(((S.Tx n).take j++List.replicate (n.nodes.length - j) 0).map ci)[j]?=some (ci 0):=by rw[Vw,VW (by omega),r,WR,XO,VC (by omega)];rfl
    have A:j<(((S.Tx n).take j++List.replicate (n.nodes.length - j) 0).map ci).length:=by simp[aH];omega
    have C:((S.Tx n).take j++List.replicate (n.nodes.length - j) 0).set j x.card=(S.Tx n).take (j+1)++List.replicate (n.nodes.length - (j+1)) 0:=by rw[Xl _ _ (by omega),r,WR,ets,show n.nodes.length - j=(n.nodes.length - (j+1))+1 by omega,Xk,XL,W5];rfl
    have V:=hp.fr f1;obtain⟨g2,p⟩:∃g2,g2=(g.new (Y6 3 [[ZJ 0,.nils,.nils]])).put g.nx (Y6 3 [[ZJ x.card,pa,ra]]):=⟨_,rfl⟩;have f2:Fr g g2:=by rw[p];exact Q9 (by simp) λi hi=>by simp[TA,show ¬i=g.nx by omega]
    have k:=hp.fr f2;have L:g2.h.get g.nx=Y6 3 [[ZJ x.card,pa,ra]]:=by rw[p];simp[TA]
    refine aL (P:=λt' df g'=>df=[]/\g'=g2/\St t' ((48,b)::(5,ZJ (S.Ty ((S.Tx n).take j)))::LRd q)/\tat t' 6=ZJ (j:Int)/\tat t' 7=ZK g.nx/\tat t' 50=ZJ (j:Int)/\tat t' 49=ZJ (n.nodes.length:Int)) ?_ ?_
    ·simp only[sz,simprocAttr,f,h49,h50,r1,hlt,K];rw[p];simp[St,LRd,sx,h1,h2,h4,h5,f]
    clear h1 h2 h4 h5 f h49 h50;rintro t df g3 ⟨rfl,rfl,⟨f,h5,h1,h2,h4,-⟩,R,h7,h50,h49⟩;have F:=k.hc.rows;simp only[sz,simprocAttr,h4,R,h7,L,k.hq,F,A,c1,u];refine bK (v:=cv) (sz:=1) (n:=1) (i:=j) (off:=0) (x:=ZJ x.card) (row':=ci x.card) k.hc B rfl rfl rfl λg4 hu4 n4 f4=>?_;rw[rk,C]at hu4;have z:g4.h.get g.nx=Y6 3 [[ZJ x.card,pa,ra]]:=by rw[f4 _ λe=>by have:=(hp.hc.lt e).2;omega,L]
    simp only[sz,simprocAttr,h5,h7,h49,h50,z,w1];refine⟨by simp[St,LRd,sx,h1,h2,h4,f],⟨?_,?_,?_,hu4,?_,q2,by rw[n4];exact k.qn,hp.d1,hp.d2,hp.d3⟩,l⟩
    ·rw[f4 0 λe=>by have:=(hp.hc.lt e).1;omega,k.h0]
    ·rw[f4 1 λe=>by have:=(hp.hc.lt e).1;omega,k.h1]
    ·rw[f4 q hp.d1,k.hq]
    ·exact k.hs.fr (by omega) λi hi=>f4 i λe=>hp.d3 i e hi
 ·rintro t df g ⟨rfl,h⟩;exact fin t g h
end
section
variable {ps:List Int}
def jQ(ps:List Int)(i:Nat):Int:=if i=0 then -1 else ps[i - 1]?.getD 0
theorem yR{p:Int}(h:ps[i]?=some p):jQ ps (i+1)=p:=by unfold jQ;rw[Vz (by omega),Yw,h];rfl
structure PlI (ps:List Int) (k:Int) (v i:Nat):Prop where
 rng:∀(j:Nat) (p:Int),j<i->ps[j]?=some p->0<=p/\p<k/\p≠(v:Int)
 inc:∀(j:Nat) (p q:Int),j+1<i->ps[j]?=some p->ps[j+1]?=some q->p<q
theorem Of{k:Int}{v:Nat}{p:Int}(h:PlI ps k v i)(hp:ps[i]?=some p)(h1:jQ ps i<p)(h2:p<k)(h3:p≠(v:Int)):PlI ps k v (i+1):=by
 refine⟨λj q hj hq=>?_,λj a c hj ha hc=>?_⟩
 ·by_cases e:j=i
  ·subst e;rw[hp]at hq;injection hq with hq;subst hq;refine⟨?_,h2,h3⟩
   by_cases e0:j=0
   ·subst e0;unfold jQ at h1;simp at h1;omega
   ·have b:j - 1<ps.length:=by have:=(Vv.1 hp).1;omega
    have:=h.rng (j - 1) ps[j - 1] (by omega) (Vt b);unfold jQ at h1;rw[Vz e0,Vt b,VB]at h1;omega
  ·exact h.rng j q (by omega) hq
 ·by_cases e:j+1=i
  ·subst e;rw[hp]at hc;injection hc with hc;subst hc;rw[yR ha]at h1;exact h1
  ·exact h.inc j a c (by omega) ha hc
theorem H5{k:Int}{v:Nat}(h:PlI ps k v ps.length):S.Uv ps k=true:=by
 unfold S.Uv;rw[VQ];intro i hi;have hi:=VM.1 hi;have hp:ps[i]?=some ps[i]:=Vt hi;obtain⟨a,b,-⟩:=h.rng i _ hi hp
 by_cases e:i=0
 ·subst e;simp only[S.UC,hp,VB];simp;omega
 ·have hq:ps[i - 1]?=some ps[i - 1]:=Vt (by omega);have:=h.inc (i - 1) _ ps[i] (by omega) hq (by rw[show i - 1+1=i by omega];exact hp);simp only[S.UC,hp,hq,VB];simp;omega
theorem NR.pl{n:Net}(h:NR n){v:Nat}(hx:n.nodes[v]?=some x){p:Int}(hp:x.parents[i]?=some p):jQ x.parents i<p/\p<n.nodes.length/\p≠(v:Int):=by
 have hm:=VA hx;have k:=h.places x hm;have h1:=eS k p (VA hp);have hl2:=h.l2;refine⟨?_,h1.2,λe=>?_⟩
 ·unfold jQ
  split
  ·omega
  ·rename_i e;have b:=(Vv.1 hp).1;have hq:x.parents[i - 1]?=some x.parents[i - 1]:=Vt (by omega);rw[hq,VB];exact Bo k hq (by rw[show i - 1+1=i by omega];exact hp)
 ·have c:=(Vv.1 hx).1;have ha:=z9.1 h.acyc v (by simp[S.TJ];exact c);have a:Par (S.TJ n) v=S.TP x.parents:=by simp[Par,S.TJ,hx]
  have hb:(Par (S.TJ n) v).testBit v=true:=by rw[a,zM λy hy=>by have:=eS k y hy;omega,<-e];exact VA hp
  have:=EZ (p:=S.TJ n) (s:=Par (S.TJ n) v) (S.TJ n).length v hb;rw[this]at ha;cases ha
section
variable {d:Nat}{n:Net}{b cv sv:AV}{q:Nat}{rows:List (List AV)}
def S.Ug(n:Net)(j:Nat)(m:Nat):List Nat:=(S.TJ n).take j++m::List.replicate (n.nodes.length - (j+1)) 0
structure Rd1 (n:Net) (x:Node) (b cv sv pa:AV) (q j p9 i:Nat) (t:T) (g:G):Prop where
 st:St t ((80,b)::(81,ZJ (n.nodes.length:Int))::(82,ZJ (j:Int))::(88,pa)::(8,ZJ (j:Int))::(9,ZK p9)::(10,ZJ (jQ x.parents i))::LRd q)
 hp:RdH n b cv sv q (S.Tx n) (S.Ug n j (S.TP (x.parents.take i))) g
 ok:PlI x.parents n.nodes.length j i
theorem Qu{pa:AV}{p9:Nat}{c9:List AV}(hl:n.nodes.length<=8)(hN:SlR NoP 0 .nil n.nodes b)(hx:n.nodes[j]?=some x)(hpa:SlR NoP 0 .nil x.parents pa)
  (h0:Rd1 n x b cv sv pa q j p9 0 t g) (h90:tat t 90=ZJ 0) (h89:tat t 89=ZJ (x.parents.length:Int)) (e9:g.h.get p9=Y6 3 [c9]) (p9s:vid sv≠some p9)
  (bad:∀t g,¬NR n->g.h.get 1=Y6 5 [[ZJ 0,.nils,.nils,.nils,.nils]]->tat t 2=ZK 1->tat t 3=ZJ 50->Q .ret t [] g)
  (fin:∀t g',Rd1 n x b cv sv pa q j p9 x.parents.length t g'->g'.h.get p9=Y6 3 [c9]->g.nx<=g'.nx->Q (.exit 4) t [] g'):wpL (wp C0 d none oP) Q t [] g:=by
 have X:=(Vv.1 hx).1;have nl:=λg=>hN.len g;have rp:=λh=>(hpa.tree (h':=h) (Vu 0)).ints;have y:(S.TJ n).length=n.nodes.length:=by simp[S.TJ]
 have z:((S.TJ n).take j).length=j:=by rw[Wf,y];omega
 simp only[oP];refine bD (m:=x.parents.length) hpa.1 (λi t df g'=>df=[]/\Rd1 n x b cv sv pa q j p9 i t g'/\g'.h.get p9=Y6 3 [c9]/\g.nx<=g'.nx) ⟨rfl,h0,e9,Vu _⟩ h90 h89 (by decide)
  (by rintro i t df g v s (rfl|rfl|rfl) ⟨a1,⟨⟨b1,b2,b3,R,b5,b6,U,V,W,I,-⟩,c1,A⟩,B⟩<;>exact⟨a1,⟨by simp[St,LRd,sx,b1,b2,b3,R,b5,b6,U,V,W,I],c1,A⟩,B⟩) ?_ ?_
 ·rintro i t df g hi ⟨rfl,⟨⟨c,f,l,k,h8,h9,a,h1,h2,h4,-⟩,hp,M⟩,e9,en⟩ h90 h89;obtain⟨p,r,O,-⟩:=ae hi;have F:i<(x.parents.map ci).length:=by simpa using hi
  have H:(x.parents.map ci)[i]?=some (ci p):=by rw[Vw,r];rfl
  have badn:¬(jQ x.parents i<p/\p<n.nodes.length/\p≠(j:Int))->¬NR n:=λh hr=>h (hr.pl hx r);have q2:=hp.q2
  by_cases c1:p<=jQ x.parents i
  ·simp only[sz,simprocAttr,h2,a,k,h90,rp,F,H,ci,hp.h1,c1];exact bad _ _ (badn (by omega)) (by simp[TA]) (by simp[sx,h2]) (by simp[sx])
  by_cases A:(n.nodes.length:Int)<=p
  ·simp only[sz,simprocAttr,h2,h4,a,k,h90,rp,F,H,ci,hp.hq,nl,hp.h1,c1,A];exact bad _ _ (badn (by omega)) (by simp[TA]) (by simp[sx,h2]) (by simp[sx])
  by_cases B:p=(j:Int)
  ·subst B;simp only[sz,simprocAttr,h2,h4,h8,a,k,h90,rp,F,H,ci,hp.hq,nl,hp.h1,c1,A,eq_self];exact bad _ _ (badn (by omega)) (by simp[TA]) (by simp[sx,h2]) (by simp[sx])
  have w:=Of M r (by omega) (by omega) B;obtain⟨Z,-,-⟩:=w.rng i p (by omega) r;obtain⟨p,rfl⟩:=Vy Z;have C:((S.Ug n j (S.TP (x.parents.take i))).map cu)[j]?=some (cu (S.TP (x.parents.take i))):=by rw[Vw,S.Ug,VW (by omega),z,WR];rfl
  have J:j<((S.Ug n j (S.TP (x.parents.take i))).map cu).length:=by simp[S.Ug,y];omega
  have K:(S.Ug n j (S.TP (x.parents.take i))).set j (S.TP (x.parents.take (i+1)))=S.Ug n j (S.TP (x.parents.take (i+1))):=by simp only[S.Ug];rw[Xl _ _ (by omega),z,WR,XL]
  have em:S.TP (x.parents.take (i+1))=S.TP (x.parents.take i) ||| S.TT p:=by rw[O,Db];rfl
  have E:bQ .shl (ZL 1) (ZJ (p:Int))=.val (ZL (S.TT p:Int)):=fu .i64 p;have D:=mo (S.TP (x.parents.take i)) (S.TT p) (rm _) (oD p);rw[<-em]at D;have N:=hp.hs.rows;have L:=yR r;refine bB (P:=λt' df g'=>df=[]/\g'=g/\St t' ((80,b)::(81,ZJ (n.nodes.length:Int))::(82,ZJ (j:Int))::(88,pa)::(8,ZJ (j:Int))::(9,ZK p9)::(10,ZJ (jQ x.parents i))::LRd q)/\tat t' 12=ZJ (p:Int)/\tat t' 90=ZJ (i:Int)/\tat t' 89=ZJ (x.parents.length:Int)) ?_ ?_
  ·simp only[sz,simprocAttr,k,h90,rp,F,H,ci];simp[St,LRd,sx,h1,h2,h4,h8,h9,a,c,f,l,k,h89]
  clear h1 h2 h4 h8 h9 a c f l k h89 h90;rintro t df g' ⟨rfl,rfl,⟨c,f,l,k,h8,h9,a,h1,h2,h4,-⟩,u,h90,h89⟩;refine bB (P:=λt' df g''=>df=[]/\g''=g'/\St t' ((80,b)::(81,ZJ (n.nodes.length:Int))::(82,ZJ (j:Int))::(88,pa)::(8,ZJ (j:Int))::(9,ZK p9)::(10,ZJ (jQ x.parents i))::LRd q)/\tat t' 12=ZJ (p:Int)/\tat t' 90=ZJ (i:Int)/\tat t' 89=ZJ (x.parents.length:Int)) ?_ ?_
  ·simp only[sz,simprocAttr,h4,h8,a,u,h89,h90,hp.hq,nl,c1,A,B];simp[St,LRd,sx,h1,h2,h4,h8,h9,a,c,f,l,k]
  clear h1 h2 h4 h8 h9 a u c f l k h89 h90;rintro t df g'' ⟨rfl,rfl,⟨c,f,l,k,h8,h9,a,h1,h2,h4,-⟩,u,h90,h89⟩;simp only[sz,simprocAttr,sf,h4,h8,u,hp.hq,N,J,C,cu,E,D];refine bK (v:=sv) (sz:=1) (n:=1) (i:=j) (off:=0) (x:=ZL (S.TP (x.parents.take (i+1)):Int)) (row':=cu (S.TP (x.parents.take (i+1)))) (hp.hs.fr (by simp;omega) λi _=>by simp) C rfl rfl rfl λg4 hu4 n4 f4=>?_;rw[show (((S.Ug n j (S.TP (x.parents.take i))).map cu).set j (cu (S.TP (x.parents.take (i+1)))))=(S.Ug n j (S.TP (x.parents.take (i+1)))).map cu from by rw[<-Xa,K]]at hu4;have o:∀i,vid sv≠some i->g4.h.get i=g''.h.get i:=λi hi=>by rw[f4 i hi];simp
  have Y:g''.nx<=g4.nx:=by rw[n4];simp;omega
  simp only[sx,sy,↓reduceIte,Nat.reduceEqDiff];refine⟨?_,⟨⟨?_,⟨?_,?_,?_,?_,?_,q2,?_,hp.d1,hp.d2,hp.d3⟩,w⟩,?_,?_⟩,h90,h89⟩
  ·simp only[VJ,VN,VH,VE];exact aA (false::(Zl (true::[]))) [] (by simp[All2,ah,ay]) (by decide) (by simp)
  ·rw[L];simp[St,LRd,sx,h1,h2,h4,h8,h9,c,f,l,k]
  ·simp only[bumpG_h];rw[o 0 λe=>by have:=(hp.hs.lt e).1;omega,hp.h0]
  ·simp only[bumpG_h];rw[o 1 λe=>by have:=(hp.hs.lt e).1;omega,hp.h1]
  ·simp only[bumpG_h];rw[o q hp.d2,hp.hq]
  ·exact hp.hc.fr (by simp;omega) λi hi=>by simp only[bumpG_h];exact o i (hp.d3 i hi)
  ·exact hu4.fr (by simp) λi _=>by simp
  ·have:=hp.qn;simp;omega
  ·rw[o p9 p9s,e9]
  ·omega
 ·rintro t df g' ⟨rfl,h,e9,en⟩;exact fin t g' h e9 en
end
end
section
variable {d:Nat}{n:Net}{b cv sv:AV}{q:Nat}{rows:List (List AV)}
structure Rd4 (n:Net) (b cv sv:AV) (q j:Nat) (t:T) (g:G):Prop where
 st:St t ((80,b)::LRd q)
 hp:RdH n b cv sv q (S.Tx n) ((S.TJ n).take j++List.replicate (n.nodes.length - j) 0) g
 ok:∀x∈n.nodes.take j,S.Uv x.parents n.nodes.length=true/\S.UA n.grain (S.Tx n) x=true
theorem Q2(n:Net)(j m:Nat)(hm:m<18446744073709551616):∀y∈S.Ug n j m,y<18446744073709551616:=λy hy=>by
 simp only[S.Ug,V7,VP]at hy;rcases hy with hy|rfl|hy
 ·obtain⟨x,-,rfl⟩:=Wk.1 (WL hy);exact rm _
 ·exact hm
 ·rw[(XK.1 hy).2];decide
theorem Own.natsV{b:Nat}{l:List Nat}(h:Own g b v 1 (l.map cu))(hl:l.length<9223372036854775808)(hb:∀y∈l,y<18446744073709551616):SlR (λi=>vid v=some i) 0 g.h l v :=
 Own.sl (α:=Nat) h hl (by
  have:∀l:List Nat,(∀y∈l,y<18446744073709551616)->All2 (Rp.rp (α:=Nat) (λi=>vid v=some i) 0 g.h) l (l.map cu):=λl=>by
   induction l with
   |nil=>intro _;trivial
   |cons y l ih=>intro h;exact⟨yu.2 ⟨rfl,h y (by simp)⟩,ih λz hz=>h z (by simp[hz])⟩
  exact this l hb) λ_ h=>h
theorem Own.nats'{b:Nat}{l:List Nat}(h:Own g b v 1 (l.map cu))(hl:l.length<9223372036854775808)(hb:∀y∈l,y<18446744073709551616):SlR (λ_=>True) 0 g.h l v :=
 (h.natsV hl hb).wd λ_ _=>⟨trivial,rfl⟩
theorem Own.intsV{b:Nat}(h:Own g b v 1 (l.map ci))(hl:l.length<9223372036854775808):SlR (λi=>vid v=some i) 0 g.h l v :=
 Own.sl (α:=Int) h hl (Tx (λa=>aW.2 rfl) _) λ_ h=>h
theorem PO{n:Net}(h:NR n)(hx:x∈n.nodes):S.UA n.grain (S.Tx n) x=true:=by simp only[S.UA,S.T4,Vx,VK,VQ];exact⟨h.rows x hx,λr hr=>⟨⟨(h.row x hx r hr).1,(h.row x hx r hr).2.1⟩,(h.row x hx r hr).2.2⟩⟩
theorem Qv(hd:0<d)(hl:n.nodes.length<=8)(hg1:1<=n.grain/\n.grain<=60)(hcard:∀c∈S.Tx n,1<=c/\c<=4)(hN:SlR NoP 0 .nil n.nodes b)(r1:∀h,ak h 3 b=some rows)(r2:rows.length=n.nodes.length)
  (r3:∀(i:Nat) (x:Node),n.nodes[i]?=some x->∃pa ra,rows[i]?=some [ZJ x.card,pa,ra]/\i<rows.length/\SlR NoP 0 .nil x.parents pa/\SlR NoP 0 .nil x.rows ra) (r4:0<n.nodes.length->nA b=true)
  (h0:Rd4 n b cv sv q 0 t g) (h82:tat t 82=ZJ 0) (h81:tat t 81=ZJ (n.nodes.length:Int))
  (bad:∀t g,¬NR n->g.h.get 1=Y6 5 [[ZJ 0,.nils,.nils,.nils,.nils]]->tat t 2=ZK 1->tat t 3=ZJ 50->Q .ret t [] g)
  (fin:∀t g,Rd4 n b cv sv q n.nodes.length t g->Q (.exit 2) t [] g):wpL (wp C0 d none oQ) Q t [] g:=by
 simp only[oQ,uG];refine bD (m:=n.nodes.length) (by omega) (λj t df g=>df=[]/\Rd4 n b cv sv q j t g) ⟨rfl,h0⟩ h82 h81 (by decide)
  (by rintro j t df g v s (rfl|rfl|rfl) ⟨a1,⟨b1,b2,b3,R,-⟩,c1,U⟩<;>exact⟨a1,by simp[St,LRd,sx,b1,b2,b3,R],c1,U⟩) ?_ ?_
 ·rintro j t df g X ⟨rfl,⟨⟨f,h1,h2,h4,-⟩,hp,E⟩⟩ h82 h81;obtain⟨x,hx,J,L⟩:=ae X;obtain⟨pa,ra,q1,hlt,w,I⟩:=r3 j x hx;have Z:=r4 (by omega);have q2:=hp.q2;have qn:=hp.qn;have C:(S.TJ n).length=n.nodes.length:=by simp[S.TJ]
  have F:(S.TJ n)[j]?=some (S.TP x.parents):=by simp[S.TJ,hx]
  obtain⟨g2,u⟩:∃g2,g2=(g.new (Y6 3 [[ZJ 0,.nils,.nils]])).put g.nx (Y6 3 [[ZJ x.card,pa,ra]]):=⟨_,rfl⟩;have f2:Fr g g2:=by rw[u];exact Q9 (by simp) λi hi=>by simp[TA,show ¬i=g.nx by omega]
  have n2:g.nx<g2.nx:=by rw[u];simp
  have A:=hp.fr f2;have M:g2.h.get g.nx=Y6 3 [[ZJ x.card,pa,ra]]:=by rw[u];simp[TA]
  have eY:(S.TJ n).take j++List.replicate (n.nodes.length - j) 0=S.Ug n j (S.TP (x.parents.take 0)):=by rw[S.Ug,show n.nodes.length - j=(n.nodes.length - (j+1))+1 by omega,Xk];rfl
  have eY2:S.Ug n j (S.TP x.parents)=(S.TJ n).take (j+1)++List.replicate (n.nodes.length - (j+1)) 0:=by rw[S.Ug,YD,F,W5];rfl
  rw[eY]at A;refine aL (P:=λt' df g'=>df=[]/\g'=g2/\St t' ((80,b)::(81,ZJ (n.nodes.length:Int))::(82,ZJ (j:Int))::(8,ZJ (j:Int))::(9,ZK g.nx)::LRd q)) ?_ ?_
  ·simp only[sz,simprocAttr,f,h82,r1,hlt,q1];rw[u];simp[St,LRd,sx,h1,h2,h4,f,h81,h82]
  clear h1 h2 h4 f h81 h82;rintro t df g3 ⟨rfl,rfl,⟨f,h81,h82,h8,h9,h1,h2,h4,-⟩⟩;have pl:=λg=>w.len g;simp only[sz,simprocAttr,h9,M,pl];refine Qu (j:=j) (p9:=g.nx) (x:=x) (pa:=pa) (b:=b) (cv:=cv) (sv:=sv) (q:=q) hl hN hx w ⟨by simp[St,LRd,sx,jQ,h1,h2,h4,h8,h9,f,h81,h82],A,⟨λi p hi=>by omega,λi p r hi=>by omega⟩⟩ (by simp[sx]) (by simp[sx]) M (λe=>by have:=(hp.hs.lt e).2;omega) ?_ ?_
  ·intro t g Y a1 a2 O;simp only[sx,sy];exact bad t g Y a1 a2 O
  ·rintro t D ⟨⟨f,h81,h82,W,h8,h9,V,h1,h2,h4,-⟩,k,H⟩ z n4;rw[Wa]at k;have o:=H5 H;have B:∀p∈x.parents,0<=p/\p<((S.Tx n).length:Int):=λp hp=>by rw[aH];exact eS o p hp
   have N:=fS o (by omega);have h3:(S.Ug n j (S.TP x.parents)).length<=8:=by simp[S.Ug,C];omega
   have hm:Agg ((n,S.Tx n,S.Ug n j (S.TP x.parents),[]):NwM) (λ_=>True) 0 D.h (.agg [ZJ n.grain,b,cv,sv,.nils]) :=
    ⟨_,rfl,Dk.2 ⟨b,cv,sv,.nils,rfl,hN.wide (Vu 0),Own.sl (α:=Int) k.hc (by rw[aH];omega) (Tx (λa=>aW.2 rfl) _) λ_ _=>trivial,k.hs.nats' (by omega) (Q2 n j _ (rm _)),⟨by show 0<9223372036854775808;decide,rfl⟩⟩⟩
   have K:Agg x NoP 0 D.h (.agg [ZJ x.card,pa,ra]):=⟨_,rfl,bM.2 ⟨pa,ra,rfl,w.tree (Vu 0),I.tree (Vu 0)⟩⟩;have l:=KZ (d:=d) (g:=D) hd hm K ⟨rfl,rfl⟩ hg1 hcard B (by omega);have l:am C0 d 82 [.agg [ZJ n.grain,b,cv,sv,.nils],.agg [ZJ x.card,pa,ra]] D=.val (.bool (S.UA n.grain (S.Tx n) x)):=l;cases hf:S.UA n.grain (S.Tx n) x with
   | false =>
    rw[hf]at l;simp only[sz,simprocAttr,oR,h2,h4,h9,k.hq,k.h1,z,l];refine bad _ _ (λhr=>?_) (by simp[TA]) (by simp[sx,h2]) (by simp[sx]);have:=PO hr L;rw[hf]at this;cases this
   | true =>
    rw[hf]at l;simp only[sz,simprocAttr,oR,h4,h9,k.hq,z,l];rw[eY2]at k;refine⟨⟨by simp[St,LRd,sx,h1,h2,h4,f],k,λy hy=>?_⟩,by simp[h82],by simp[h81]⟩;rw[J]at hy;rcases V7.1 hy with h|h
    ·exact E y h
    ·rw[VY.1 h];exact⟨o,hf⟩
 ·rintro t df g ⟨rfl,h⟩;exact fin t g h
end
theorem OT(n:Net):Snb (Fc n) 2:=rH λo=>qA (m:=2) (bW _) (aY _) (by decide) (by decide)
theorem J1{d:Nat}{n:Net}(hd:0<d)(hm:Agg n NoP 0 g.h v):∃r,am C0 d 54 [v] g=.val r/\Fc n NoP 0 .nil r:=by
 obtain⟨b,rows,rfl,e,U,hN,M,N,O,Q⟩:=dZ d hm;rw[BO];refine a_ FG (xs:=[.agg [ZJ n.grain,b]]) (by simp only[aG,e]) (by simp[mE]) (OT n) (by decide) hd ?_;have nl:=λg=>hN.len g;simp only[sz,simprocAttr,mE];obtain⟨g0,hg0⟩:∃g0,g0=(G.empty.new (Y6 2 [[ZJ n.grain,b]])).new (Y6 5 [[ZJ 0,.nils,.nils,.nils,.nils]]):=⟨_,rfl⟩;rw[<-hg0];have f0:g0.h.get 0=Y6 2 [[ZJ n.grain,b]]:=by rw[hg0];simp[sx,TA]
 have f1:g0.h.get 1=Y6 5 [[ZJ 0,.nils,.nils,.nils,.nils]]:=by rw[hg0];simp[sx]
 have f2:g0.nx=2:=by rw[hg0];simp[sx]
 clear hg0;obtain⟨Qf,m⟩:∃Qf,Qf=fnQ C0 (d+1) [SR.cell true 5 2,SR.tm 3] (λv g'=>∃P,Fc n P 0 g'.h v):=⟨_,rfl⟩;have bad:∀(t:T) (g:G),¬NR n->g.h.get 1=Y6 5 [[ZJ 0,.nils,.nils,.nils,.nils]]->tat t 2=ZK 1->tat t 3=ZJ 50->Qf .ret t [] g:=λt g C a1 a2 w=>by rw[m];exact Sk C a1 a2 w
 rw[<-m];simp only[wM]
 by_cases c1:n.grain<1
 ·rw[jl];simp only[sz,simprocAttr,f0,f1,c1];exact bad _ _ (λh=>by have:=h.g1;omega) (by simp[TA]) (by simp[sx]) (by simp[sx])
 by_cases c2:60<n.grain
 ·rw[jl];simp only[sz,simprocAttr,f0,f1,c1,c2];exact bad _ _ (λh=>by have:=h.g2;omega) (by simp[TA]) (by simp[sx]) (by simp[sx])
 by_cases c3:(n.nodes.length:Int)<1
 ·rw[jl];simp only[sz,simprocAttr,f0,f1,c1,c2,c3,nl];exact bad _ _ (λh=>by have:=h.l1;omega) (by simp[TA]) (by simp[sx]) (by simp[sx])
 by_cases c4:8<(n.nodes.length:Int)
 ·rw[jl];simp only[sz,simprocAttr,f0,f1,c1,c2,c3,c4,nl];exact bad _ _ (λh=>by have:=h.l2;omega) (by simp[TA]) (by simp[sx]) (by simp[sx])
 refine bB (P:=λt' df g'=>df=[]/\g'=g0/\St t' [(1,ZK 0),(2,ZK 1)]) ?_ ?_
 ·simp only[sz,simprocAttr,f0,c1,c2,c3,c4,nl];simp[St,sx]
 rintro t df g1 ⟨rfl,rfl,h1,h2,-⟩;have B:n.nodes.length<=8:=by omega
 refine bB (P:=λt' df g'=>df=[]/\∃cv sv q,St t' (LRd q)/\RdH n b cv sv q (List.replicate n.nodes.length 0) (List.replicate n.nodes.length 0) g') ?_ ?_
 ·simp only[sz,simprocAttr,sf,h1,f0,nl];refine kK (b:=2) (n:=n.nodes.length) (by unfold aT;omega) (by unfold aT;omega) (by first| (simp;done)| (simp;omega)) λcv g2 hcv n2 fr2 v2 lg2=>?_;simp only[sy]at n2 fr2 v2 lg2;have L:g2.h.get 0=Y6 2 [[ZJ n.grain,b]]:=by rw[fr2 0 (by omega),f0]
  simp only[sz,simprocAttr,sf,h1,L,nl,lg2];refine kK (b:=2) (n:=n.nodes.length) (by unfold aT;omega) (by unfold aT;omega) (by first| (simp;done)| (simp;omega)) λsv g3 hsv n3 fr3 v3 lg3=>?_;simp only[sy]at n3 fr3 v3 lg3;simp only[sz,simprocAttr,sf,lg3,hcv.cell.1,hcv.cell.2,hsv.cell.1,hsv.cell.2];refine⟨?_,cv,sv,g3.nx+1+1,?_,?_⟩
  ·simp only[VJ,VN,VH,VE,G.new_lg,G.put_lg,setLog_lg];refine aA (Zm (true::(false::(Zn (true::(false::(true::(true::[])))))))) [(0,4),(4,5),(4,6),(4,7),(0,8),(1,8),(2,8),(3,8),(4,8),(0,10),(1,10),(2,10),(3,10),(4,10),(5,10),(6,10),(7,10),(8,10),(9,10)] (by simp[All2,ah,ay]) (by decide) ?_;rintro p hp x y hx l;simp only[VP,VG,Xh]at hp;rcases hp with rfl|rfl|rfl|rfl|rfl|rfl|rfl|rfl|rfl|rfl|rfl|rfl|rfl|rfl|rfl|rfl|rfl|rfl|rfl<;>(simp at hx l;subst hx;subst l;refine bI rfl rfl rfl rfl ?_ ?_ ?_<;>simp[ah,ay,aw]<;>omega)
  ·simp[St,LRd,sx,h1,h2]
  ·have fa:∀i,i<g2.nx->g3.h.get i=g2.h.get i:=λi hi=>by have:=fr3 i (by omega);simpa using this
   have fb:∀i,i<g1.nx->g2.h.get i=g1.h.get i:=λi hi=>by have:=fr2 i (by omega);simpa using this
   have A:Own g2 2 cv 1 ((List.replicate n.nodes.length (0:Int)).map ci):=by simpa [ci] using hcv
   have H:Own g3 2 sv 1 ((List.replicate n.nodes.length (0:Nat)).map cu):=by simpa [cu] using hsv
   have D:∀i,i<g3.nx->¬i=g3.nx+1+1:=λi hi=>by omega
   refine⟨?_,?_,?_,A.fr (by simp;omega) λi hi=>?_,H.fr (by simp;omega) λi hi=>?_,by omega,by first| (simp;done)| (simp;omega),λe=>?_,λe=>?_,λi hi hi2=>?_⟩
   ·simp[TA];rw[fa 0 (by omega),L]
   ·simp[TA];rw[fa 1 (by omega),fb 1 (by omega),f1]
   ·simp[TA]
   ·have:=gg v2 hi;simp[TA,D i (by omega)];rw[fa i (by omega)]
   ·have:=gg v3 hi;simp[TA,D i (by omega)]
   ·have:=gg v2 e;omega
   ·have:=gg v3 e;omega
   ·have:=gg v2 hi;have:=gg v3 hi2;omega
 rintro t df g ⟨rfl,cv,sv,q,⟨h1,h2,h4,-⟩,hp⟩;clear f0 f1 f2;have nlen:=nl g;simp only[sz,simprocAttr,h4,hp.hq,nl];refine Qt (b:=b) (cv:=cv) (sv:=sv) (q:=q) B hN M N O Q ⟨by simp[St,LRd,sx,S.Ty,h1,h2,h4],by simpa using hp,by simp⟩ (by simp[sx]) (by simp[sx]) ?_ ?_
 ·intro t g C a1 a2 w;simp only[sx];exact bad t g C a1 a2 w
 clear h1 h2 h4 hp nlen;rintro t g ⟨⟨I,h5,h1,h2,h4,-⟩,hp,s⟩;rw[VX (by rw[aH];exact Vu _)]at h5 hp;rw[WR,List.replicate_zero,VV]at hp;rw[Wa]at s;have J:∀c∈S.Tx n,1<=c/\c<=4:=λc hc=>by obtain⟨y,l,rfl⟩:=Wk.1 hc;exact s y l
 simp only[sz,simprocAttr,uH]
 by_cases d1:1024<S.Ty (S.Tx n)
 ·simp only[sz,simprocAttr,h2,h5,hp.h1,d1];exact bad _ _ (λh=>by have:=h.worlds;omega) (by simp[TA]) (by simp[sx,h2]) (by simp[sx])
 simp only[sz,simprocAttr,h4,h5,hp.hq,nl,d1];refine Qv (b:=b) (cv:=cv) (sv:=sv) (q:=q) (VI d) B (by omega) J hN M N O Q ⟨by simp[St,LRd,sx,h1,h2,h4],by simpa using hp,by simp⟩ (by simp[sx]) (by simp[sx]) ?_ ?_
 ·intro t g C a1 a2 w;simp only[sx];exact bad t g C a1 a2 w
 clear h1 h2 h4 I h5 hp;rintro t g ⟨⟨R,h1,h2,h4,-⟩,hp,k⟩;rw[VX (by simp[S.TJ])]at hp;rw[WR,List.replicate_zero,VV]at hp;rw[Wa]at k;have F:(S.TJ n).length=n.nodes.length:=by simp[S.TJ]
 have j:∀y∈S.TJ n,y<18446744073709551616:=λy l=>by obtain⟨x,-,rfl⟩:=Wk.1 l;exact rm _
 have u:∀y∈S.TJ n,y<2 ^ (S.TJ n).length:=λy l=>by obtain⟨x,hx,rfl⟩:=Wk.1 l;rw[F];exact NL (by omega) λz hz=>eS (k x hx).1 z hz
 obtain⟨z,ez,o,-,oz,az,rfl,f,a⟩:=LG (d:=d+1) (g:=g) (VI d) (hp.hs.nats' (by omega) j) (by omega) u;have a:=jh.1 a;injection a with a;subst a;obtain⟨_,e1,f⟩:=f;injection e1 with e1;subst e1;cases hac:S.Uu (S.TJ n) with
 | false =>
  rw[hac]at ez;simp only[sz,simprocAttr,oS,h2,h4,hp.hq,hp.h1,ez];exact bad _ _ (λh=>by have:=h.acyc;rw[hac]at this;cases this) (by simp[TA]) (by simp[sx,h2]) (by simp[sx])
 | true =>
  rw[hac]at ez;have E:S.T3 n=true:=jR.2 ⟨by omega,by omega,by omega,by omega,s,λx hx=>(k x hx).1,by omega,hac,λx hx=>by
   have:=(k x hx).2;simp only[S.UA,Vx,VK]at this;exact this.1,λx hx r hr=>by
   have:=(k x hx).2;simp only[S.UA,S.T4,Vx,VK,VQ]at this;have:=this.2 r hr;exact⟨this.1.1,this.1.2,this.2⟩⟩
  have q2:=hp.q2;have K:¬(1=q):=by omega
  have V:¬(q=1):=by omega
  have oc:=f.cell;rw[m];simp only[sz,simprocAttr,oS,h2,h4,hp.hq,hp.h1,ez,K,oc.1,oc.2];have fh:∀i,¬i=1->¬i=q->((g.h.put q (Y6 5 [[ZJ n.grain,b,cv,sv,oz]])).put 1 (Y6 5 [[ZJ n.grain,b,cv,sv,oz]])).get i=g.h.get i:=λi hi hi2=>by simp[TA,hi,hi2]
  refine⟨λ_=>True,o,trivial,_,_,rfl,⟨_,rfl,?_⟩,?_⟩
  ·rw[S.U1,VC E];refine Dk.2 ⟨b,cv,sv,oz,rfl,hN.wide (Vu 0),(hp.hc.intsV (by rw[aH];omega)).wd λi hi=>⟨trivial,fh i (by have:=(hp.hc.lt hi).1;omega) λe=>hp.d1 (by rw[hi,e])⟩,(hp.hs.natsV (by omega) j).wd λi hi=>⟨trivial,fh i (by have:=(hp.hs.lt hi).1;omega) λe=>hp.d2 (by rw[hi,e])⟩,f.wide (Vu 0)⟩
  ·rw[VC E];exact aW.2 rfl
section
variable {n:Net}
theorem HV{o:List Int}(h:S.T3 n=true):S.U1 n o=(n,S.Tx n,S.TJ n,o):=by rw[S.U1,VC h]
theorem yU(hv:Fc n P k h v) :
  (S.T3 n=false/\∃cs,v=.tup [.agg cs,ZJ 50]/\cs.length=5) \/
  (S.T3 n=true/\∃b cv sv oz o,v=.tup [.agg [ZJ n.grain,b,cv,sv,oz],ZJ 0]/\SlR P k h n.nodes b/\SlR P k h (S.Tx n) cv/\SlR P k h (S.TJ n) sv/\SlR P k h (o:List Int) oz):=by
 obtain⟨o,-,a,c,rfl,⟨cs,rfl,hc⟩,hi⟩:=hv;have hi:=aW.1 hi;injection hi with hi;subst hi;cases hn:S.T3 n with
 | false =>
  refine .inl ⟨rfl,cs,rfl,?_⟩;obtain⟨a,b,c,e,rfl,-⟩:=Dk.1 hc
  rfl
 | true =>
  rw[HV hn]at hc;obtain⟨a,b,c,e,rfl,h1,h2,d,h4⟩:=Dk.1 hc;exact .inr ⟨rfl,a,b,c,e,o,rfl,h1,h2,d,h4⟩
theorem Mi{k2:Nat}{P2:Nat->Prop}{e:List Int}(hd:0<d)(hm:Agg n NoP 0 g.h v)(he:SlR P2 k2 g.h e w):am C0 d 26 [v,w] g=.val (ZJ (S.Ue n e)):=by
 obtain⟨w',e2,p⟩:=bm he d;obtain⟨b,rows,rfl,e1,B,hN,M,N,O,P⟩:=dZ d hm;have n2:=λg=>(p .nil).len g;have rb:=λh=>(p h).ints;rw[qG];refine eE sW (xs:=[.agg [ZJ n.grain,b],w']) (by simp only[aG,e1,e2]) (by simp[gE]) hd ?_;have K:=he.1;simp only[sz,simprocAttr,gE,jo,iQ];obtain⟨z,ez,hz⟩:=J1 (d:=d+1) (g:=G.empty.new (Y6 2 [[ZJ n.grain,b]])) (VI d) (n:=n) (v:=.agg [ZJ n.grain,b]) (B _);rcases yU hz with⟨i,cs,rfl,x⟩|⟨i,b',cv,sv,oz,o,rfl,hb,A,-,-⟩
 ·have hs:S.Ue n e=50:=by rw[S.Ue,i];rfl
  obtain⟨a1,a2,q,a4,r,rfl⟩:∃a1 a2 q a4 r,cs=[a1,a2,q,a4,r]:=by
   match cs,x with
   |[a1,a2,q,a4,r],_=>exact⟨a1,a2,q,a4,r,rfl⟩
  simp only[sz,simprocAttr,ez,hs,show ¬((50:Int)=0) from by decide]
 ·have nb:=λg=>(hb.tree (h':=g) (Vu 0)).len;have J:=hb.1;have rc:=λh=>(A.tree (h':=h) (Vu 0)).ints;have hcl:=aH n
  by_cases hl:e.length=n.nodes.length
  ·have f:(e.length:Int)=(n.nodes.length:Int):=by rw[hl]
   simp only[sz,simprocAttr,ez,n2,hb.len,hl];refine bD (m:=n.nodes.length) (by omega) (λj t df g=>df=[]/\St t [(24,w'),(5,ZK 1),(4,ZJ 0)]/\g.h.get 1=Y6 5 [[ZJ n.grain,b',cv,sv,oz]]/\((List.range j).all λv=>decide (-1<=e[v]?.getD 0)&&decide (e[v]?.getD 0<(S.Tx n)[v]?.getD 0))=true)
    ⟨rfl,by simp[St,sx],by simp[sx],by simp⟩ (by simp[sx]) (by simp[sx]) (by decide) (by rintro j t df g v s (rfl|rfl|rfl)<;>simp[St,sx]) ?_ ?_
   ·rintro j t df g L ⟨rfl,⟨k,h5,h4,-⟩,hg,ha⟩ a u;obtain⟨y,D,-,-⟩:=ae (l:=e) (j:=j) (by omega);obtain⟨c,hc,-,-⟩:=ae (l:=S.Tx n) (j:=j) (by omega);have E:j<(e.map ci).length:=by simp;omega
    have F:(e.map ci)[j]?=some (ci y):=by rw[Vw,D];rfl
    have u3:j<((S.Tx n).map ci).length:=by simp;omega
    have H:((S.Tx n).map ci)[j]?=some (ci c):=by rw[Vw,hc];rfl
    have C:((List.range (j+1)).all λv=>decide (-1<=e[v]?.getD 0)&&decide (e[v]?.getD 0<(S.Tx n)[v]?.getD 0))=(decide (-1<=y)&&decide (y<c)):=by rw[WC,List.all_append,ha];simp[D,hc]
    have bad:(decide (-1<=y)&&decide (y<c))=false->S.Ue n e=2:=λh=>by
     have h1:S.TY n e=false:=by
      rw[S.TY];have:((List.range e.length).all λv=>decide (-1<=e[v]?.getD 0)&&decide (e[v]?.getD 0<(S.Tx n)[v]?.getD 0))=false:=by rw[<-XM,VQ];intro h2;have:=h2 j (VM.2 (by omega));rw[D,hc,VB,VB,h]at this;cases this
      rw[this,YZ]
     rw[S.Ue,i,h1];rfl
    by_cases c1:y < -1
    ·have:=bad (by simp;omega);simp only[sz,simprocAttr,k,a,rb,E,F,ci,c1,this]
    ·by_cases c2:c<=y
     ·have:=bad (by simp;omega);simp only[sz,simprocAttr,k,h5,a,hg,rb,rc,E,F,u3,H,ci,c1,c2,this]
     ·have I:((List.range (j+1)).all λv=>decide (-1<=e[v]?.getD 0)&&decide (e[v]?.getD 0<(S.Tx n)[v]?.getD 0))=true:=by rw[C];simp;omega
      simp only[sz,simprocAttr,k,h5,h4,a,u,hg,rb,rc,E,F,u3,H,ci,c1,c2,St,I]
   ·rintro t df g ⟨rfl,⟨k,h5,h4,-⟩,hg,ha⟩;have h1:S.TY n e=true:=by rw[S.TY,hl,Wz rfl,ha];rfl
    have hs:S.Ue n e=0:=by rw[S.Ue,i,h1];rfl
    simp only[sz,simprocAttr,iS,hs]
  ·have f:¬((e.length:Int)=(n.nodes.length:Int)):=by omega
   have h1:S.TY n e=false:=by rw[S.TY,We hl];rfl
   have hs:S.Ue n e=2:=by rw[S.Ue,i,h1];rfl
   simp only[sz,simprocAttr,ez,n2,hb.len,f,hs]
theorem ED(hr:NR n):∀j,j<=8->0<=S.Ty (List.replicate j n.grain)/\S.Ty (List.replicate j n.grain)<=167961600000000:=λj hj=>by
 have h:=hr.g1;have a:=hr.g2;have h1:=jf (l:=List.replicate j n.grain) λx hx=>by have:=(XK.1 hx).2;omega
 have h2:=JZ (k:=(List.replicate j n.grain).length) (by simpa using hj);omega
end
def CloneR(b:Nat)(l:List Int)(u:AV)(g:G):Prop:=(l=[]/\u=.nils)\/∃id lo,b<=id/\id<g.nx/\u=.hsl id 0 0 l.length none/\g.h.get id=.cells 1 (l.map ci) 0 lo false/\(0<l.length->lo=true)/\(l.length=0->lo=false)
theorem DE{id:Nat}{x:AV}(hx:ak g.h 1 x=some (l.map ci))(h3:g.h.get id=Y6 1 [])(hid:id<g.nx)(hr:l.length<=1000)
  (k:∀u g',CloneR id l u g'->Fr g g'->K u g'):(cW 1 8 (.hsl id 0 0 0 none) x g).sat K g D:=by
 unfold cW;rw[hx];cases l with
 | nil =>
  simp only[bk,G.get_eq,h3,aF,aa,Wm,WA,Wt,Vx,Xe,XG];rw[VC ⟨by simp,by simp⟩,VC (by simp)];exact k _ _ (.inr ⟨id,false,Vu _,hid,rfl,by simpa using h3,by simp,by simp⟩) (Fr.refl g)
 | cons y l =>
  simp only[bk,G.get_eq,h3,aF,aa,Wm,WA,Wt,Vx,W4,Wd,XG,VF,WE,Xg,XJ];rw[VC ⟨by omega,by unfold aT;simp at hr;omega⟩,Vz (by omega),VC (by rfl)];refine k _ _ (.inr ⟨g.nx,true,by omega,by simp,by simp,?_,by simp,by simp⟩) (Fr.new g _);simp[aJ,bj,bp]
structure FacH (bx nd:List AV) (w u:AV) (vars cards:List Int) (beh:Int) (q:Nat) (g:G):Prop where
 h0:g.h.get 0=Y6 5 [bx]
 h1:g.h.get 1=Y6 3 [[.nils,.nils,.nils]]
 h2:g.h.get 2=Y6 3 [nd]
 h8:g.h.get q=Y6 3 [[w,u,.nils]]
 h9:g.h.get (q+1)=Y6 1 [[ZJ beh]]
 hw:Own g 3 w 1 (vars.map ci)
 hu:Own g (q+2) u 1 (cards.map ci)
 wq:∀i,vid w=some i->i<q
 q3:3<=q
 qn:q+2<=g.nx
def SH(q:Nat):List (Nat×AV):=[(2,ZK 0),(4,ZK 1),(5,ZK 2),(8,ZK q),(9,ZK (q+1))]
structure FacJ (gr:Int) (b cv sv oz:AV) (nd:List AV) (w:AV) (cs vars:List Int) (pl q j:Nat) (t:T) (g:G):Prop where
 st:St t ((38,w)::(6,ZJ (pl:Int))::SH q)
 hp:∃u,FacH [ZJ gr,b,cv,sv,oz] nd w u vars (S.TA cs (vars.take j)) (S.Ty (S.TA cs ((vars.take j).drop (pl+1)))) q g
def GH(h:H)(n:Nat):G:=⟨h,n,[]⟩
@[simp] theorem GH_h (h:H) (n:Nat):(GH h n).h=h:=rfl
@[simp] theorem GH_nx (h:H) (n:Nat):(GH h n).nx=n:=rfl
structure FacG (g0:G) (iw:Nat) (W:AV) (rws:List (List Int)) (B C t:Nat) (h:H):Prop where
 fr:∀i,i<g0.nx->i≠iw->h.get i=g0.h.get i
 ow:Own (GH h (iw+1)) 3 W 1 ((S.Vh rws B C t).map ci)
structure FacI (g0 g2:G) (iw:Nat) (W z:AV) (r:List Int) (rws:List (List Int)) (B C q j i:Nat) (t:T) (g:G):Prop where
 st:St t ((78,z)::(12,ZJ (j:Int))::SH q)
 hp:FacG g0 iw W rws B C (j*C+i) g.h
 nx:g2.nx<=g.nx
 fr:∀i,g0.nx<=i->i<g2.nx->g.h.get i=g2.h.get i
def S.Vg(n:Net)(i:Nat)(x:Node)(p:Nat):Factor:=⟨S.U8 x.parents p (i:Int),S.TA (S.Tx n) (S.U8 x.parents p (i:Int)),S.Vi x.rows (S.Ty (S.TA (S.Tx n) (x.parents.drop p))).toNat x.card.toNat⟩
theorem Own.low{b':Nat}{sz:Nat}{rows:List (List AV)}(h:Own g b v sz rows)(hb:b'<=b):Own g b' v sz rows:=by
 rcases h with h|⟨id,ep,lo,h1,h2⟩
 ·exact .inl h
 ·exact .inr ⟨id,ep,lo,by omega,h2⟩
def S.U_(n:Net)(l:List Factor):Prop:=∀(i:Nat) (x:Node),i<l.length->n.nodes[i]?=some x->∃p,p<=x.parents.length/\l[i]?=some (S.Vg n i x p)
structure FasJ (n:Net) (W b cv sv oz:AV) (j:Nat) (t:T) (g:G):Prop where
 st:St t [(4,ZK 1),(6,W)]
 hg:g.h.get 1=Y6 5 [[ZJ n.grain,b,cv,sv,oz]]
 hW:∃(rows:List (List AV)) (l:List Factor),Own g 2 W 3 rows/\rows.length=n.nodes.length/\l.length=j/\All2 (Rp.rp NoP 0 .nil) l (rows.take j)/\S.U_ n l/\∀i,j<=i->i<n.nodes.length->rows[i]?=some [.nils,.nils,.nils]
abbrev QnM:Type:=Net×List Factor×List (List Int)
def S.U6(m:Nat)(f:Factor)(i:Nat)(R:List Int):Prop:=R.length=m/\∀(j:Nat) (y:Int),i<=j->f.vars[j]?=some y->R[y.toNat]?=some (S.Ty (f.cards.drop (j+1)))
structure QnOk (n:Net) (y:QnM):Prop where
 net:y.1=n
 fl:y.2.1.length=n.nodes.length
 fs:S.U_ n y.2.1
 sl:y.2.2.length=n.nodes.length
 st:∀(k:Nat) (f:Factor) (R:List Int),y.2.1[k]?=some f->y.2.2[k]?=some R->S.U6 n.nodes.length f 0 R
def Tj(fl:AV)(m q k:Nat):List (Nat×AV):=[(11,ZK q),(2,ZK 0),(4,ZK 1),(45,fl),(46,ZJ (m:Int)),(47,ZJ (k:Int))]
structure AskI (fl:AV) (m q k:Nat) (g0:G) (iR:Nat) (R:AV) (f:Factor) (fb j:Nat) (t:T) (g:G):Prop where
 st:St t ((13,ZK fb)::(12,ZJ (k:Int))::(14,ZJ (S.Ty (f.cards.drop j)))::Tj fl m q k)
 nx:g0.nx<=g.nx
 fr:∀i,i<g0.nx->i≠iR->g.h.get i=g0.h.get i
 ow:∃X:List Int,Own g 2 R 1 (X.map ci)/\S.U6 m f j X
structure FOk (m:Nat) (f:Factor):Prop where
 cl:f.cards.length=f.vars.length
 vl:f.vars.length<=16
 cb:∀c∈f.cards,1<=c/\c<=4
 nd:f.vars.Nodup
 vr:∀y∈f.vars,0<=y/\y<m
structure AskH (gr:Int) (b fl S_:AV) (m q:Nat) (fs:List Factor) (k:Nat) (g:G):Prop where
 h0:g.h.get 0=Y6 2 [[ZJ gr,b]]
 h1:g.h.get 1=Y6 4 [[ZJ 0,.nils,.nils,.nils]]
 hq:g.h.get q=Y6 4 [[ZJ gr,b,fl,S_]]
 q2:2<=q/\q<g.nx
 sq:∀i,vid S_=some i->i<q
 hS:∃(Vs:List AV) (l:List (List Int)),Own g 2 S_ 1 (Vs.map λv=>[v])/\Vs.length=m/\l.length=k/\All2 (λX v=>Own g (q+1) v 1 (X.map ci)) l (Vs.take k)/\∀(i:Nat) (f:Factor) (X:List Int),fs[i]?=some f->l[i]?=some X->S.U6 m f 0 X
structure AskJ (gr:Int) (b fl S_:AV) (m q:Nat) (fs:List Factor) (k:Nat) (t:T) (g:G):Prop where
 st:St t [(11,ZK q),(2,ZK 0),(4,ZK 1),(45,fl)]
 hp:AskH gr b fl S_ m q fs k g
theorem PQ{α:Type}{l:List α}{x y:α}(h1:l[i]?=some x)(h2:l[i]?=some y):x=y:=by rw[h1]at h2;injection h2
structure WtI (y:QnM) (b fl S_ wv va ca wa:AV) (gr wt:Int) (p:Int) (cards pv:List Int) (m k fb i:Nat) (t:T) (g:G):Prop where
 st:St t [(1,wv),(2,ZK 0),(12,fl),(13,ZJ (m:Int)),(14,ZJ (k:Int)),(5,ZJ wt),(6,ZJ (k:Int)),(7,ZK fb),(20,va),(8,ZJ (p - S.TC (cards.drop i) (pv.drop i)))]
 h0:g.h.get 0=Y6 4 [[ZJ gr,b,fl,S_]]
 hf:g.h.get fb=Y6 3 [[va,ca,wa]]
 nn:0<=p - S.TC (cards.drop i) (pv.drop i)
 nx:1<=g.nx
structure WtJ (n:Net) (vals:List Int) (b fl S_ wv:AV) (k:Nat) (t:T) (g:G):Prop where
 st:St t [(1,wv),(2,ZK 0),(12,fl),(5,ZJ (S.Ty ((List.range k).map (S.TL n vals))))]
 h0:g.h.get 0=Y6 4 [[ZJ n.grain,b,fl,S_]]
 nx:1<=g.nx
theorem NW(h:InC cs vs)(hc:∀c∈cs,1<=c){x:Int}(hi:vs[i]?=some x)(hci:cs[i]?=some c)(hx:x≠c - 1):InC cs (vs.take i++(x+1)::List.replicate (vs.length - (i+1)) 0):=by
 have d:=(Vv.1 hi).1;have hl:=h.len;refine AX (by simp;omega) λj c' v a k=>?_;obtain⟨v',h1,h2,e⟩:=h.get a;have b:=hc c' (VA a)
 by_cases h4:j<i
 ·rw[VO (by simp;omega),Wu h4]at k;rw[h1]at k;injection k with k;omega
 ·rw[VW (by simp;omega)]at k;rw[Wf,WX (by omega)]at k
  by_cases h5:j=i
  ·subst h5;rw[WR]at k;simp at k;rw[hi]at h1;injection h1 with h1;rw[hci]at a;injection a with a;omega
  ·obtain⟨m,hm⟩:∃m,j - i=m+1:=⟨j - i - 1,by omega⟩;rw[hm,Wn]at k;have:=VA k;rw[XK]at this;omega
theorem Pj(hc:∀c∈cs,1<=c):InC cs (List.replicate cs.length 0) :=
 AX (by simp) λj c v hj hv=>by have:=VA hv;rw[XK]at this;have:=hc c (VA hj);omega
theorem EY{m:Nat}(h:m<vs.length):(vs.take (m+1)++List.replicate (vs.length - (m+1)) 0).set m 0=vs.take m++List.replicate (vs.length - m) 0:=by
 rw[Xb h,W5,Xl _ _ (by simp;omega),Wf,WX (by omega),WR];rw[show vs.length - m=(vs.length - (m+1))+1 by omega,Xk]
 rfl
theorem EX{m:Nat}(h:m<vs.length)(y:Int):(vs.take (m+1)++List.replicate (vs.length - (m+1)) 0).set m y=vs.take m++y::List.replicate (vs.length - (m+1)) 0:=by
 rw[Xb h,W5,Xl _ _ (by simp;omega),Wf,WX (by omega),WR]
 rfl
structure OdoJ (n:Net) (vs:List Int) (L:List (Nat×AV)) (u:AV) (g0:G) (m:Nat) (t:T) (g:G):Prop where
 st:tat t 6=ZJ ((m:Int) - 1)
 ss:St t L
 ow:Own g g0.nx u 1 ((vs.take m++List.replicate (vs.length - m) 0).map ci)
 mx:∀(j:Nat) (c:Int),m<=j->(S.Tx n)[j]?=some c->vs[j]?.getD 0=c - 1
theorem Di{C:Cfg}{id:Nat}{ps:List Nat}{assign body:Code}{a b:SC}{dfr:Nat}{args:List AV}{t':T}
  (hg:g.h.get id=.loop nt t ps assign body dfr .ready none) (ha:eN C nt assign=a) (hb:eN C nt body=b) (hp:dm t nt ps args=some t')
  (h:wp C d (some id) a (λe t1 df g1=>e=.norm/\df=[]/\g1.h.get id=.loop nt t ps assign body dfr .ready none /\
   wp C d (some id) b (λe _ df g2=>df=[]/\g2.h.get id=.loop nt t ps assign body dfr .busy none/\((e=.norm/\K (.bool true) (g2.put id (.loop nt t ps assign body dfr .ready none)))\/(e=.ret/\K (.bool false) (g2.put id (.loop nt t ps assign body dfr .done (some .ret))))))
    t1 [] (g1.put id (.loop nt t ps assign body dfr .busy none))) t' [] g) :
  (cL (I C) d id args g).sat K g D:=by
 subst ha;subst hb;unfold cL;rw[show g.get id=_ from hg];dsimp only;rw[hp];dsimp only;have h1:=tX h;cases hc:(I C).code nt d (some id) assign t' [] g with
 |fail=>rw[hc]at h1;exact h1.elim
 | ok e t1 df g1 =>
  rw[hc]at h1;obtain⟨rfl,rfl,c,h2⟩:=h1;dsimp only;rw[show g1.get id=_ from c];dsimp only;have k:=tX h2;cases hc2:(I C).code nt d (some id) body t1 [] (g1.put id (.loop nt t ps assign body dfr .busy none)) with
  |fail=>rw[hc2]at k;exact k.elim
  | ok e t2 df2 g2 =>
   rw[hc2]at k;obtain⟨rfl,h4,h5⟩:=k;dsimp only;rw[show g2.get id=_ from h4];rcases h5 with⟨rfl,h5⟩|⟨rfl,h5⟩<;>exact h5
section
variable {bx:Nat}
structure CsOk (cs:List Int):Prop where
 b:∀c∈cs,1<=c/\c<=4
 l:cs.length<=8
def S.nc(cs:List Int):Nat:=(S.Ty cs).toNat
theorem CsOk.nc{cs:List Int}(h:CsOk cs):1<=S.nc cs/\S.nc cs<=65536/\((S.nc cs:Nat):Int)=S.Ty cs:=by
 obtain⟨h1,h2⟩:=cj h.b;have k:(4:Int) ^ cs.length<=4 ^ 8:=by
  have:(4:Nat) ^ cs.length<=4 ^ 8:=V_ (by decide) h.l
  exact_mod_cast this
 have h4:(4:Int) ^ 8=65536:=by decide
 unfold S.nc;omega
def Up(B:Nat)(g g':G):Prop:=(∀i,i<B->g'.h.get i=g.h.get i)/\∀i∈g'.lg,i∈g.lg\/B<=i
theorem Up.refl(B:Nat)(g:G):Up B g g:=⟨λ_ _=>rfl,λ_ h=>.inl h⟩
theorem Up.trans{B:Nat}{g1 g2:G}(h:Up B g g1)(h2:Up B g1 g2):Up B g g2:=⟨λi hi=>by rw[h2.1 i hi,h.1 i hi],λi hi=>(h2.2 i hi).elim (λh3=>h.2 i h3) .inr⟩
theorem Up.mono{B B':Nat}(h:Up B g g')(hb:B'<=B):Up B' g g':=⟨λi hi=>h.1 i (by omega),λi hi=>(h.2 i hi).imp id λh=>by omega⟩
theorem Up.new{B:Nat}{g:G}(hb:B<=g.nx)(o:AObj):Up B g (g.new o):=⟨λi hi=>by rw[G.new_h,af _ _ _ (by omega)],λi hi=>by simp at hi;rcases hi with rfl|hi;exact .inr hb;exact .inl hi⟩
theorem Up.put{B:Nat}{g:G}{j:Nat}(hb:B<=j)(o:AObj):Up B g (g.put j o):=⟨λi hi=>by rw[G.put_h,af _ _ _ (by omega)],λi hi=>by simp at hi;rcases hi with rfl|hi;exact .inr hb;exact .inl hi⟩
theorem BF{sz off:Nat}{rows:List (List AV)}{row row':List AV}{x:AV}(hv:Own g b v sz rows)(hr:rows[i]?=some row)
  (hl:x.cells.length=n) (ht:x.isTup=false) (hp:bu row off x.cells=some row')
  (k:∀g',Own g' b v sz (rows.set i row')->g'.nx=g.nx->(∀i,vid v≠some i->g'.h.get i=g.h.get i)->Up b g g'->K .undef g'):(jV n (eJ sz v i off) x g).sat K g D:=by
 rcases hv with⟨rfl,rfl⟩|⟨id,ep,lo,h1,h2,rfl,a⟩
 ·simp at hr
 ·simp only[eJ,WE];rw[rI a hr rfl ht hl hp];refine k _ (.inr ⟨id,ep,lo,h1,by simpa using h2,by simp,by simp[aJ]⟩) (by simp) (λi hne=>?_) (Up.put h1 _);rw[G.put_h,af _ _ _ (λe=>hne (by rw[e];rfl))]
def Uo(B:Nat)(g g':G):Prop:=Up B g g'/\g.nx<=g'.nx/\∀i,i≠B->i<g.nx->g'.h.get i=g.h.get i
theorem Uo.refl(B:Nat)(g:G):Uo B g g:=⟨Up.refl _ _,Vu _,λ_ _ _=>rfl⟩
theorem Uo.trans{B:Nat}{g g1 g2:G}(h:Uo B g g1)(h2:Uo B g1 g2):Uo B g g2:=⟨h.1.trans h2.1,VR h.2.1 h2.2.1,λi hi hn=>by rw[h2.2.2 i hi (VL hn h.2.1),h.2.2 i hi hn]⟩
def Ul(B:Nat)(g g':G):Prop:=Up B g g'/\g.nx<=g'.nx/\∀i,(i<B\/B+3<=i)->i<g.nx->g'.h.get i=g.h.get i
theorem Ul.put{B:Nat}{g:G}{j:Nat}(hb:B<=j)(hb2:j<B+3)(o:AObj):Ul B g (g.put j o):=⟨Up.put hb o,by simp,λi hi _=>by rw[G.put_h,af _ _ _ (by omega)]⟩
def LMc(id bx:Nat)(u:AV)(k:Nat):List (Nat×AV):=[(0,.yld id),(1,ZK bx),(3,u),(4,ZJ (k:Int))]
structure CA (bx:Nat) (w:AV) (cs:List Int) (g:G):Prop where
 b:g.h.get bx=Y6 1 [[w]]
 r:ak g.h 1 w=some (cs.map ci)
 l:∀g':G,dH .slice w g'=.val (ZJ (cs.length:Int))
structure OdoC (cs vs:List Int) (L:List (Nat×AV)) (u:AV) (g0:G) (m:Nat) (t:T) (g:G):Prop where
 st:tat t 5=ZJ ((m:Int) - 1)
 ss:St t L
 ow:Own g g0.nx u 1 ((vs.take m++List.replicate (vs.length - m) 0).map ci)
 mx:∀(j:Nat) (c:Int),m<=j->cs[j]?=some c->vs[j]?.getD 0=c - 1
theorem PA{id m:Nat}{u:AV}{g0:G}(hb:CsOk cs)(hA:∀g',g.nx<=g'.nx->Uo g0.nx g g'->CA bx w cs g')(hc:InC cs vs)(hm:m<=cs.length)
  (h0:OdoC cs vs (LMc id bx u k) u g0 m t g) (hvu:vid u=some g0.nx)
  (fin:∀m' t g',m'<=cs.length->OdoC cs vs (LMc id bx u k) u g0 m' t g'->g.nx<=g'.nx->Uo g0.nx g g'->(m'=0\/∃x c,vs[m' - 1]?=some x/\cs[m' - 1]?=some c/\x≠c - 1/\0<m')->Q (.exit 2) t [] g') :
  wpL (wp C0 d none bU) Q t [] g:=by
 have H:=hc.len;have D:=hb.l;refine it (λm t df g'=>df=[]/\m<=cs.length/\OdoC cs vs (LMc id bx u k) u g0 m t g'/\g.nx<=g'.nx/\Uo g0.nx g g') m ⟨rfl,hm,h0,Vu _,Uo.refl _ _⟩ ?_;rintro m t df g1 ⟨rfl,hm,⟨h5,⟨h0,h1,q,h4,-⟩,f,o⟩,p,a⟩;obtain⟨kx,ri,-⟩:=hA g1 p a;simp only[bU];cases m with
 | zero =>
  have c1:¬((0:Int)<=((0:Nat):Int) - 1):=by omega
  simp only[sz,simprocAttr,h5,c1];refine fin 0 _ _ (Wp _) ⟨?_,?_,?_,o⟩ ?_ ?_ (.inl rfl)
  ·simp[sx,h5]
  ·simp[St,LMc,sx,h0,h1,q,h4]
  ·exact f
  ·exact p
  ·exact a
 | succ m =>
  have c1:(0:Int)<=((m+1:Nat):Int) - 1:=by omega
  have e1:((m+1:Nat):Int) - 1=(m:Int):=by omega
  rw[e1]at c1 h5;obtain⟨x,hx,-,s⟩:=ae (l:=cs) (j:=m) (by omega);obtain⟨v,r,E,F⟩:=hc.get hx;have C:=hb.b x s;have z:m<((vs.take (m+1)++List.replicate (vs.length - (m+1)) 0).map ci).length:=by simp;omega
  have y:((vs.take (m+1)++List.replicate (vs.length - (m+1)) 0).map ci)[m]?=some (ci v):=by rw[Vw,VO (by simp;omega),Wu (by omega),r];rfl
  have A:m<(cs.map ci).length:=by simp;omega
  have B:(cs.map ci)[m]?=some (ci x):=by rw[Vw,hx];rfl
  have ru:=f.rows;have w1:IntKind.wrap .i64 (x - 1)=x - 1:=ap (by omega) (by omega)
  by_cases c2:v=x - 1
  ·simp only[sz,simprocAttr,h5,h1,q,c1,ru,z,y,kx,ri,A,B,ci,w1,c2];refine BF (v:=u) (sz:=1) (n:=1) (i:=m) (off:=0) (x:=ZJ 0) (row':=ci 0) f y rfl rfl rfl λg4 hu4 n4 f4 p4=>?_;rw[<-Xa,EY (by omega)]at hu4;have I:IntKind.wrap .i64 ((m:Int) - 1)=(m:Int) - 1:=ap (by omega) (by omega);simp only[sz,simprocAttr,h5,I];refine⟨m,by omega,by omega,⟨by simp[sx],by simp[St,LMc,sx,h0,h1,q,h4],hu4,λj c hj h=>?_⟩,by omega,a.trans ⟨p4,by omega,λi hi _=>f4 i λe=>hi (by rw[hvu]at e;injection e with e;exact e.symm)⟩⟩
   by_cases e:j=m
   ·subst e;rw[hx]at h;injection h with h;rw[r,VB];omega
   ·exact o j c (by omega) h
  ·simp only[sz,simprocAttr,h5,h1,q,c1,ru,z,y,kx,ri,A,B,ci,w1,c2];refine fin (m+1) _ _ hm ⟨?_,?_,?_,o⟩ ?_ ?_ (.inr ⟨v,x,r,hx,c2,by omega⟩)
   ·simp[sx,h5]
   ·simp[St,LMc,sx,h0,h1,q,h4]
   ·exact f
   ·exact p
   ·exact a
theorem PB{id:Nat}{g0:G}(hb:CsOk cs)
  (J:Nat->G->Prop) (E:G->Prop) (hA:∀j g,J j g->CA bx w cs g) (hJ:∀j g g',Uo g0.nx g g'->J j g->J j g')
  (step:∀(j:Nat) (u:AV) (g:G) (K':AV->G->Prop) (D:ADf->Prop),j<S.nc cs->g0.nx+1<=g.nx->J j g->SlR (λi=>g0.nx<=i/\i<g.nx) 0 g.h (S.TK cs j) u ->
   (∀g',J (j+1) g'->g.nx<=g'.nx->(∀i,g0.nx<=i->i<g.nx->g'.h.get i=g.h.get i)->K' (.bool true) g')->(∀g',E g'->K' (.bool false) g')->(cL (I C0) d id [ZJ (j:Int),u] g).sat K' g D)
  (h0:J 0 g0) (fin:∀g',J (S.nc cs) g'->g0.nx<=g'.nx->K (.tup []) g') (finE:∀g',E g'->K (.tup []) g') :
  wp C0 d none aS.code (fnQ C0 d aS.res K) (cD 0 [.yld id,ZK bx] .nil) [] g0:=by
 have h7:=hb.l;obtain⟨W1,W2,W3⟩:=hb.nc;have q:=λc hc=>(hb.b c hc).1;obtain⟨kx0,-,nl⟩:=hA 0 g0 h0;obtain⟨Qf,C⟩:∃Qf,Qf=fnQ C0 d aS.res K:=⟨_,rfl⟩;rw[<-C];simp only[sz,simprocAttr,aS,kx0,nl];refine kK (b:=g0.nx) (n:=cs.length) (by unfold aT;omega) (by unfold aT;omega) (Vu _) λu g1 hu n1 fr1 v1 l1=>?_;simp only[sz,simprocAttr];obtain⟨INV,o⟩:∃INV:Nat->PT,INV=(λm t df g=>df=[]/\∃(j:Nat) (vs:List Int),m=S.nc cs - j/\j<S.nc cs/\InC cs vs/\S.TC cs vs=(j:Int)/\St t (LMc id bx u j)/\Own g g0.nx u 1 (vs.map ci)/\J j g/\g0.nx+1<=g.nx):=⟨_,rfl⟩;refine it INV (S.nc cs) ?_ ?_
 ·rw[o];exact⟨rfl,0,List.replicate cs.length 0,rfl,by omega,Pj q,by rw[AW];rfl,by simp[St,LMc,sx],by simpa [ci] using hu,hJ 0 _ _ ⟨⟨fr1,λi hi=>by rw[l1]at hi;rcases VP.1 hi with rfl|hi;exact .inr (Vu _);exact .inl hi⟩,by omega,λi _ hn=>fr1 i hn⟩ h0,by omega⟩
 intro m t df g hI;have L:=hI;rw[o]at L;obtain⟨rfl,j,vs,rfl,hj,f,s,⟨h0,h1,z,h4,-⟩,ho,p,N⟩:=L;clear hI;have hd:=f.len;have P:S.TK cs (j:Int)=vs:=by rw[<-s];exact BI q f
 have Q:vid u=some g0.nx:=v1;have hsl:SlR (λi=>g0.nx<=i/\i<g.nx) 0 g.h vs u:=Own.sl (α:=Int) ho (by omega) (Tx (λa=>aW.2 rfl) _) λi hi=>ho.lt hi;have w1:IntKind.wrap .i64 ((cs.length:Int) - 1)=(cs.length:Int) - 1:=ap (by omega) (by omega);obtain⟨R,hR⟩:∃R,R=(ZI (.blk 1 (sQ [oL 15 1,oN 16 15,Y8 17 .sub 16 1,oM 5 17] (ZI (.blk 2 (.loop bU)) bV))) dk):=⟨_,rfl⟩;simp only[gz];rw[<-hR,jl];obtain⟨Q1,B⟩:∃Q1,Q1=kL INV (S.nc cs - j) (kB 0 Qf):=⟨_,rfl⟩;rw[<-B];have rest:∀(t:T) (g:G),St t (LMc id bx u j)->Own g g0.nx u 1 (vs.map ci)->J (j+1) g->g0.nx+1<=g.nx->wp C0 d none R Q1 t [] g:=by
  rintro t g ⟨h0,h1,z,h4,-⟩ ho p N;rw[hR,B];obtain⟨kx,-,-⟩:=hA _ _ p;simp only[sz,simprocAttr,h1,kx,nl,w1];refine PA (id:=id) (k:=j) (m:=cs.length) (w:=w) (u:=u) (vs:=vs) (g0:=g0) hb (λg' _ hU=>hA _ _ (hJ _ _ _ hU p)) f (Vu _) ⟨by simp[sx],by simp[St,LMc,sx,h0,h1,z,h4],?_,λi c hi hc=>?_⟩ Q ?_
  ·rw[VX (by omega),show vs.length - cs.length=0 by omega];simpa using ho
  ·have:=(Vv.1 hc).1;omega
  rintro m' t2 g2 h8 ⟨h5,⟨h0,h1,z,h4,-⟩,O,M⟩ ha U F;have A:J (j+1) g2:=hJ _ _ _ U p;rcases F with rfl|⟨x,c,hx,hc,Z,h9⟩
  ·have H:j+1=S.nc cs:=by have:=Ef (cs:=cs) (vs:=vs) f.len.symm λi c hc=>M i c (Wp _) hc;omega
   have c1:(((0:Nat):Int) - 1<0):=by omega
   rw[C];simp only[sz,simprocAttr,bV,aS,h5,c1];rw[H]at A;exact fin g2 A (by omega)
  ·obtain⟨i,rfl⟩:∃i,m'=i+1:=⟨m' - 1,by omega⟩;rw[Yw]at hx hc;have V:=(Vv.1 hx).1;have e1:((i+1:Nat):Int) - 1=(i:Int):=by omega
   rw[e1]at h5;have c1:¬((i:Int)<0):=by omega
   have u1:i<((vs.take (i+1)++List.replicate (vs.length - (i+1)) 0).map ci).length:=by simp;omega
   have u2:((vs.take (i+1)++List.replicate (vs.length - (i+1)) 0).map ci)[i]?=some (ci x):=by rw[Vw,VO (by simp;omega),Wu (by omega),hx];rfl
   have ru:=O.rows;obtain⟨x',W,X,Y⟩:=f.get hc;rw[PQ W hx]at X Y;have h6:=hb.b c (VA hc);have w2:IntKind.wrap .i64 (x+1)=x+1:=ap (by omega) (by omega);simp only[sz,simprocAttr,bV,h5,c1,z,ru,u1,u2,ci,w2];refine BF (v:=u) (sz:=1) (n:=1) (i:=i) (off:=0) (x:=ZJ (x+1)) (row':=ci (x+1)) O u2 rfl rfl rfl λg4 hu4 n4 f4 p4=>?_;rw[<-Xa,EX V]at hu4;have y:=NW f q hx hc Z;have r:=Nk (cs:=cs) (vs:=vs) f.len.symm hx λk c hk hc=>M k c (by omega) hc;rw[s]at r;have h2:=iG hb.b y;have w3:IntKind.wrap .i64 ((j:Int)+1)=((j+1:Nat):Int):=by rw[ap (by omega) (by omega)];rfl
   simp only[sz,simprocAttr,dk,h4,w3];refine⟨S.nc cs - (j+1),by omega,?_⟩;rw[o];refine⟨rfl,j+1,_,rfl,by omega,y,by rw[r];rfl,by simp[St,LMc,sx,h0,h1,z],hu4,hJ _ _ _ ⟨p4,by omega,λi hi _=>f4 i λe=>hi (by rw[Q]at e;injection e with e;exact e.symm)⟩ A,by omega⟩
 simp only[sz,simprocAttr,h0,z,h4];have st:=λK' D=>step j u g K' D hj N p (by rw[P];exact hsl);show (cL (I C0) d id [ZJ (j:Int),u] g).sat _ _ _;refine st _ _ (λg' hJ' hn' hf'=>?_) λg' hE=>?_
 ·simp only[sz,simprocAttr];exact rest _ _ (by simp[St,LMc,sx,h0,h1,z,h4]) (ho.fr hn' λi hi=>hf' i (ho.lt hi).1 (ho.lt hi).2) hJ' (by omega)
 ·rw[B,C];simp only[sz,simprocAttr,aS];exact finE g' hE
theorem MM:C0.ext 104=none:=by kernel_rfl
theorem Lt{p q r:Nat}{ca cb:SC}{df:List ADf}(hb:CsOk cs)
  (hv:tat t r=.clo 104 [] [ZK bx]) (hp:p<nt) (hq:q<nt)
  (J:Nat->G->Prop) (E:G->Prop) (hA:∀j g1,J j g1->CA bx w cs g1) (hJ:∀j g1 g2,Ul g.nx g1 g2->J j g1->J j g2) (hE:∀g1 g2,Ul g.nx g1 g2->E g1->E g2) (h0:J 0 g)
  (step:∀(j:Nat) (u:AV) (g1:G),j<S.nc cs->J j g1->g.nx+3<=g1.nx->SlR (λi=>g.nx+2<=i/\i<g1.nx) 0 g1.h (S.TK cs j) u ->
   wp C0 d (some (g.nx+1)) ca (λe t1 df g1'=>e=.norm/\df=[]/\Fr g1 g1'/\∀g2:G,g2.nx=g1'.nx->(∀i,i≠g.nx+1->g2.h.get i=g1'.h.get i)->Up g.nx g1' g2 ->
    wp C0 d (some (g.nx+1)) cb (λe _ df g3=>df=[]/\RowQ g.nx g2 g3 e (J (j+1) g3) (E g3)) t1 [] g2)
    (eQ (eQ t p (ZJ (j:Int))) q u) [] g1)
  (fin:∀g',J (S.nc cs) g'->g.nx+2<=g'.nx->g'.h.get g.nx=.dfr true->Q .norm t (.mark g.nx::df) g')
  (finE:∀g',E g'->g.nx+2<=g'.nx->g'.h.get g.nx=.dfr true->Q .ret t (.mark g.nx::df) g') :
  wp C0 d none (.rng nt (.t r) [p,q] ca cb) Q t df g:=by
 refine vR (fn:=104) (first:=[]) (cap:=[ZK bx]) (s:=aS) hv MM pK (by simp[aS]) ?_;intro assign body ha n;have e1:((g.new (.dfr true)).new (.loop nt t [p,q] assign body g.nx .ready none)).nx=g.nx+2:=by simp
 refine PB (g0:=(g.new (.dfr true)).new (.loop nt t [p,q] assign body g.nx .ready none)) (id:=g.nx+1) (bx:=bx) (w:=w) hb
  (λj g'=>J j g'/\g'.h.get g.nx=.dfr true/\g'.h.get (g.nx+1)=.loop nt t [p,q] assign body g.nx .ready none)
  (λg'=>E g'/\g'.h.get g.nx=.dfr true/\g'.h.get (g.nx+1)=.loop nt t [p,q] assign body g.nx .done (some .ret)/\g.nx+2<=g'.nx) (λj g' h=>hA j g' h.1) ?_ ?_ ?_ ?_ ?_
 ·rintro j h h' c ⟨a1,a2,b⟩;rw[e1]at c;exact⟨hJ j h h' ⟨c.1.mono (by omega),c.2.1,λi hi a=>c.2.2 i (by omega) a⟩ a1,by rw[c.1.1 _ (by omega),a2],by rw[c.1.1 _ (by omega),b]⟩
 ·rintro j u g1 K' D z a ⟨a1,a2,b⟩ hsl kk kE;rw[e1]at a kk hsl;refine Di b ha n (t':=eQ (eQ t p (ZJ (j:Int))) q u) ?_ ?_
  ·simp only[dm,aa,WN,VC hp,VC hq];rfl
  ·refine bX _ (step j u g1 z a1 (by omega) hsl) ?_;rintro e t1 df g1' ⟨rfl,rfl,k,h⟩;have f:g.nx+1<g1.nx:=by omega
   have hl:g.nx+1<g1'.nx:=VL f k.1;have l:g1'.h.get g.nx=.dfr true:=by rw[k.2 _ (by omega),a2]
   have m:g1'.h.get (g.nx+1)=.loop nt t [p,q] assign body g.nx .ready none:=by rw[k.2 _ f,b]
   refine⟨rfl,rfl,m,?_⟩;refine bX _ (h (g1'.put (g.nx+1) (.loop nt t [p,q] assign body g.nx .busy none)) (by simp) (λi hi=>by simp[TA,hi]) (Up.put (by omega) _)) ?_;rintro e A df g3 ⟨rfl,⟨b2,b3,b1⟩⟩;have x:g3.h.get (g.nx+1)=.loop nt t [p,q] assign body g.nx .busy none:=by rw[b3 _ (by omega) (by simpa using hl)];simp[TA]
   have b5:g3.h.get g.nx=.dfr true:=by rw[b3 _ (by omega) (by simp;omega)];simp[TA,l]
   refine⟨rfl,x,?_⟩;have v:g1'.nx<=g3.nx:=by simpa using b2
   have y:=k.1;rcases b1 with⟨rfl,b1⟩|⟨rfl,b1⟩
   ·refine .inl ⟨rfl,kk _ ⟨hJ _ g3 _ (Ul.put (by omega) (by omega) _) b1,?_,?_⟩ (by simp;omega) λi h1 h2=>?_⟩
    ·simp[TA,b5]
    ·simp[TA]
    ·have o:¬i=g.nx+1:=by omega
     have:=b3 i (by omega) (by simp;omega);simp[TA,o]at this ⊢;rw[this,k.2 i h2]
   ·refine .inr ⟨rfl,kE _ ⟨hE g3 _ (Ul.put (by omega) (by omega) _) b1,?_,?_,?_⟩⟩
    ·simp[TA,b5]
    ·simp[TA]
    ·simp;omega
 ·refine⟨hJ 0 g _ ⟨(Up.new (Vu _) _).trans (Up.new (by simp) _),by simp;omega,λi hi a=>by simp[TA,show ¬i=g.nx by omega,show ¬i=g.nx+1 by omega]⟩ h0,?_,?_⟩
  ·simp[TA]
  ·simp[TA]
 ·rintro g' ⟨a1,a2,b⟩ a;rw[e1]at a;refine⟨_,_,_,_,_,_,.inl ⟨b,fin _ (hJ _ g' _ (Ul.put (by omega) (by omega) _) a1) (by simpa using a) ?_⟩⟩;simp[TA,a2]
 ·rintro g' ⟨a1,a2,b,a⟩;refine⟨_,_,_,_,_,_,.inr ⟨b,finE _ (hE g' _ (Ul.put (by omega) (by omega) _) a1) (by simpa using a) ?_⟩⟩;simp[TA,a2]
theorem Ms(hc:w.cells=[w])(ht:w.isTup=false)
  (kk:K (.clo 104 [] [ZK g.nx]) (g.new (Y6 1 [[w]]))):(am C0 d 86 [w] g).sat K g D:=by
 rw[pD];refine fX sG (by simp[fM]) ?_;have h:∀g:G,Ah w g=.upd (ZK g.nx) (g.new (Y6 1 [[w]])):=λg=>by rw[Hu w g ht,hc];rfl
 simp only[sz,simprocAttr,fM,jd,h];exact kk
end
theorem yV{n:Net}{e:List Int}:S.Ue n e=0↔S.T3 n=true/\S.TY n e=true:=by rw[S.Ue];cases S.T3 n<;>cases S.TY n e<;>simp
structure GvJ (g0:G) (q:Nat) (s:Int) (h:H):Prop where
 fr:∀i,i<g0.nx->i≠q->h.get i=g0.h.get i
 hq:h.get q=Y6 1 [[ZJ s]]
structure ND where
 c:Nat->Int
 P:Nat->List Int
 m:Nat->Nat
 R:Nat->Nat->List Int
 o:Nat->Nat
def LN(n:Nat)(D:ND):Ky->Prop:=λk=>k=(0,0)\/∃i q,k=(i+1,q)/\i<n/\q<2+D.o i
theorem LN.z{D:ND}:LN n D (0,0):=.inl rfl
theorem LN.s{D:ND}{q:Nat}(h:i<n)(hq:q<2+D.o i):LN n D (i+1,q):=.inr ⟨i,q,rfl,h,hq⟩
theorem LN.p{D:ND}(h:i<n):LN n D (i+1,0):=LN.s h (by omega)
theorem LN.r{n:Nat}{D:ND}{i:Nat}(h:i<n):LN n D (i+1,1):=LN.s h (by omega)
def gJ(D:ND)(V:Ky->AV)(i:Nat):List AV:=[ZJ (D.c i),V (i+1,0),V (i+1,1)]
def Ih(V:Ky->AV)(i r:Nat):List AV:=[V (i+1,2+r)]
structure BN (K n:Nat) (V:Ky->AV) (E:Ky->En) (D:ND):Prop where
 ns:E (0,0)=.sl 3 ((List.range n).map (gJ D V))
 ps:∀i,i<n->E (i+1,0)=.sl 1 ((D.P i).map ci)/\(D.P i).length<=K
 rs:∀i,i<n->E (i+1,1)=.sl 1 ((List.range (D.m i)).map (Ih V i))/\D.m i<=K
 rr:∀i r,i<n->r<D.m i->(D.R i r).length<=K/\((r<D.o i/\E (i+1,2+r)=.sl 1 ((D.R i r).map ci))\/SlR NoP 0 .nil (D.R i r) (V (i+1,2+r)))
def ND.node(D:ND)(i:Nat):Node:=⟨D.c i,D.P i,(List.range (D.m i)).map (D.R i)⟩
theorem uj(h:Own g b v 1 (l.map ci))(hl:l.length<9223372036854775808)(hp:∀i,b<=i->P i):SlR P 0 g.h l v :=
 Own.sl (α:=Int) h hl (Tx (λa=>aW.2 rfl) _) λi hi=>hp i (h.lt hi).1
theorem BN.rows{K:Nat}{D:ND}{L:Ky->Prop}(hB:BN K n V E D)(hH:Hp g b L V E)(hL:∀k,LN n D k->L k)(hK:K<=1000000)(hi:i<n):SlR (λj=>b<=j) 0 g.h ((List.range (D.m i)).map (D.R i)) (V (i+1,1)):=by
 obtain⟨h1,h2⟩:=hB.rs i hi;have ho:=hH.own (hL _ (LN.r hi)) h1;refine Own.sl (α:=List Int) ho (by simp;omega) (xA λr hr=>?_) λj hj=>(ho.lt hj).1;have hr:=VM.1 hr;obtain⟨h4,h3⟩:=hB.rr i r hi hr;rcases h3 with⟨h5,h3⟩|h3
 ·exact l8.2 ⟨_,rfl,uj (hH.own (hL _ (LN.s hi (by omega))) h3) (by omega) λ_ h=>h⟩
 ·exact l8.2 ⟨_,rfl,(h3.tree (h':=g.h) (Vu 0)).wd λ_ h=>h.elim⟩
theorem Hp.off{κ:Type} [DecidableEq κ]{L:κ->Prop}{V:κ->AV}{E:κ->En}{k:κ}{x:AV}(h:Hp g b L V E)(hk:¬L k):Hp g b L (ups V k x) E:=by have ne:∀j,L j->j≠k:=λj hj e=>hk (by rw[<-e];exact hj);exact⟨λj hj=>by rw[ac V x (ne j hj)];exact h.ok j hj,λj l hj hl hne id=>by rw[ac V x (ne j hj),ac V x (ne l hl)];exact h.sep j l hj hl hne id,h.nx⟩
theorem BN.pars{K:Nat}{D:ND}{L:Ky->Prop}(hB:BN K n V E D)(hH:Hp g b L V E)(hL:∀k,LN n D k->L k)(hK:K<=1000000)(hi:i<n):SlR (λj=>b<=j) 0 g.h (D.P i) (V (i+1,0)):=by obtain⟨h1,h2⟩:=hB.ps i hi;exact uj (hH.own (hL _ (LN.p hi)) h1) (by omega) λ_ h=>h
theorem BN.nodes{K:Nat}{D:ND}{L:Ky->Prop}(hB:BN K n V E D)(hH:Hp g b L V E)(hL:∀k,LN n D k->L k)(hK:K<=1000000)(hn:n<=1000000):SlR (λj=>b<=j) 0 g.h ((List.range n).map D.node) (V (0,0)):=by have ho:=hH.own (hL _ LN.z) hB.ns;refine Own.sl (α:=Node) ho (by simp;omega) (xA λi hi=>?_) λj hj=>(ho.lt hj).1;have hi:=VM.1 hi;exact bM.2 ⟨_,_,rfl,hB.pars hH hL hK hi,hB.rows hH hL hK hi⟩
theorem pj{α:Type}(f:Nat->α)(x:α)(hi:i<n):((List.range n).map f).set i x=(List.range n).map (ups f i x):=by
 refine YI (by simp) λj h1 h2=>?_;rw[List.getElem_set]
 by_cases e:i=j
 ·subst e;simp[ax]
 ·rw[Vz e];simp[ac _ _ (WD e)]
theorem g9{α:Type}(f:Nat->α)(hi:i<n):((List.range n).map f)[i]?=some (f i):=by simp[hi]
theorem Bh{D D':ND}{V':Ky->AV}{row:List AV}(h0:row=gJ D' V' i)(h:∀j,j<n->j≠i->gJ D V j=gJ D' V' j):(List.range n).map (ups (gJ D V) i row)=(List.range n).map (gJ D' V'):=by
 refine WI λj k=>?_;have k:=VM.1 k
 by_cases e:j=i
 ·subst e;rw[ax,h0]
 ·rw[ac _ _ e,h j k e]
section
variable {C:Nat}
def Pm(gr c:Int)(l:List Int):Prop:=(l.length:Int)=c/\(∀y∈l,0<=y/\y<=gr)/\l.sum=gr
def Tk(gr:Int)(C:Nat):VS:=λP k h v=>∃l:List Int,(l.length=C/\Pm gr C l)/\One l P k h v
def S.rq(gr s x:Int):Int:=gr*x / s
theorem J9(gr s:Int):S.rq gr s 0=0:=by simp[S.rq]
theorem Ig{gr s:Int}(hs:0<=s)(hg:0<=gr):∀l:List Int,(∀x∈l,0<=x/\x<=s)->0<=(l.map (S.rq gr s)).sum/\(l.map (S.rq gr s)).sum*s<=gr*l.sum
 |[],_=>by simp
 | x::l,h=>by
  have ih:=Ig hs hg l λy hy=>h y (WK _ hy);have hx:=h x (WO ..);have h1:0<=S.rq gr s x:=Int.ediv_nonneg (XU hg hx.1) hs;have h2:S.rq gr s x*s<=gr*x:=by
   by_cases e:s=0
   ·have:x=0:=by omega
    subst this;simp[S.rq,e]
   ·exact Int.ediv_mul_le _ e
  simp only[W4,X6];refine⟨by omega,?_⟩;rw[X7,YY];omega
theorem zO:∀(l:List Int),(∀x∈l,0<=x)->0<=l.sum/\∀x∈l,x<=l.sum
 |[],_=>by simp
 | a::l,h=>by
  have ih:=zO l λy hy=>h y (WK _ hy);have ha:=h a (WO ..);simp only[X6];refine⟨by omega,λx hx=>?_⟩;rcases VP.1 hx with rfl|hx
  ·omega
  ·have:=ih.2 x hx;omega
theorem Kn:∀(l:List Int) (i:Nat) (x y:Int),l[i]?=some x->(l.set i y).sum=l.sum - x+y
 |[],i,x,y,h=>by simp at h
 | a::l,0,x,y,h=>by simp at h;subst h;simp only[XL,X6];omega
 | a::l,i+1,x,y,h=>by rw[Yi,X6,X6,Kn l i x y (by simpa using h)];omega
theorem QA{s:Int}{la:Nat}(hg:0<=gr)(hX:∀x∈X,0<=x/\x<=s)(hs:s=X.sum)(hla:la<X.length){x:Int}(hx:(X.map (S.rq gr s))[la]?=some x):Pm gr X.length ((X.map (S.rq gr s)).set la (x+(gr - (X.map (S.rq gr s)).sum)))/\0<=x+(gr - (X.map (S.rq gr s)).sum)/\x+(gr - (X.map (S.rq gr s)).sum)<=gr:=by
 have b:0<=s:=by rw[hs];exact (zO X λx hx=>(hX x hx).1).1
 have hq:=Ig b hg X hX;have d:(X.map (S.rq gr s)).sum<=gr:=by
  by_cases e:s=0
  ·have h0:∀x∈X,x=0:=λx hx=>by have:=hX x hx;omega
   have:X.map (S.rq gr s)=List.replicate X.length 0:=by rw[List.eq_replicate_iff];refine⟨by simp,λy hy=>?_⟩;obtain⟨z,hz,rfl⟩:=Wk.1 hy;rw[h0 z hz,J9]
   rw[this];have:∀n:Nat,(List.replicate n (0:Int)).sum=0:=λn=>by induction n with
    |zero=>rfl
    |succ n ih=>rw[Xk,X6,ih];rfl
   rw[this];exact hg
  ·have h1:=hq.2;rw[<-hs]at h1;exact Int.le_of_mul_le_mul_right h1 (by omega)
 have c:∀y∈X.map (S.rq gr s),0<=y:=λy hy=>by obtain⟨z,hz,rfl⟩:=Wk.1 hy;exact Int.ediv_nonneg (XU hg (hX z hz).1) b
 have f:=c x (VA hx);have k:((X.map (S.rq gr s)).set la (x+(gr - (X.map (S.rq gr s)).sum))).sum=gr:=by rw[Kn _ _ _ _ hx];omega
 have a:∀y∈(X.map (S.rq gr s)).set la (x+(gr - (X.map (S.rq gr s)).sum)),0<=y:=λy hy=>by
  rcases XZ hy with h|rfl
  ·exact c y h
  ·omega
 have hb:=zO _ a;rw[k]at hb;refine⟨⟨by simp,λy hy=>⟨a y hy,hb.2 y hy⟩,k⟩,by omega,hb.2 _ ?_⟩;exact List.mem_set (by simpa using hla) _
structure Rw1 (gr:Int) (nv u:AV) (C F j:Nat) (t:T) (g:G):Prop where
 st:St t [(0,ZJ gr),(1,ZJ (C:Int)),(2,nv),(3,ZJ (F:Int)),(9,u)]
 hX:∃(X:List Int) (s:Int),tat t 10=ZJ s/\X.length=C/\Own g 0 u 1 (X.map ci)/\(∀x∈X,0<=x/\x<=7)/\s=(X.take j).sum/\0<=s/\s<=7*j
theorem Sn{F kk:Nat}{nv u:AV}{l:List UInt8}(hC:C<=3)(hF:F<=1000)(hl:SlR NoP kk .nil l nv)(h0:Rw1 gr nv u C F 0 t g)(h11:tat t 11=ZJ 0)
  (fin:∀t g,Rw1 gr nv u C F C t g->Q (.exit 0) t [] g):wpL (wp C0 d none mW) Q t [] g:=by
 obtain⟨nr,I,r2,r3,r4⟩:=hl.all;have I:∀h',ak h' 1 nv=some nr:=I;have U:=hl.1;have ll:=hl.len;simp only[mW,tv];refine aP C (by omega) (λj t df g=>df=[]/\Rw1 gr nv u C F j t g) ⟨rfl,h0⟩ h11 (by decide) ?_ ?_ ?_ ?_
 ·rintro j t df g v s (rfl|rfl|rfl) ⟨a1,⟨b1,b2,b3,O,b5,-⟩,X,s',c1,R⟩<;>exact⟨a1,by simp[St,sx,b1,b2,b3,O,b5],X,s',by simp[sx,c1],R⟩
 ·rintro j t df g S ⟨rfl,⟨h0,h1,h2,c,h9,-⟩,X,s,k,hX⟩ h11;simp only[sz,simprocAttr,h11,h1];exact⟨by simp[St,sx,h0,h1,h2,c,h9],X,s,by simp[sx,k],hX⟩
 ·rintro j t df g S ⟨rfl,⟨h0,h1,h2,c,h9,-⟩,X,s,k,w,hX,q,D,V,W⟩ h11;refine bB (P:=λt' df g'=>df=[]/\∃(X':List Int) (x':Int),St t' [(0,ZJ gr),(1,ZJ (C:Int)),(2,nv),(3,ZJ (F:Int)),(9,u),(10,ZJ s),(11,ZJ (j:Int))]/\X'.length=C/\Own g' 0 u 1 (X'.map ci)/\(∀x∈X',0<=x/\x<=7)/\X'[j]?=some x'/\∀i,i≠j->X'[i]?=X[i]?) ?_ ?_
  ·have r:X[j]?=some X[j]:=Vt (by omega);simp only[sz,simprocAttr,h2,ll];refine aX (λhb=>?_) (λhb=>?_)
   ·have hb:0<l.length:=by simpa using hb
    have w1:IntKind.wrap .i64 ((F:Int)+(j:Int))=((F+j:Nat):Int):=by rw[ap (by omega) (by omega)];simp
    have L:=zT (x:=F+j) (y:=l.length) hb;have m:=WP (F+j) hb;generalize (F+j) % l.length=a at L m;obtain⟨y,Z,-,-⟩:=ae (l:=l) (j:=a) m;obtain⟨row,N,z2⟩:=r3 a y Z;rw[co.1 z2]at N;have hlt:a<nr.length:=by omega
    have q2:=cX .u8 (a:=(y.toNat:Int)) (b:=8) (by omega) (by omega);have E:0<=(y.toNat:Int) % 8:=YP _ (by decide);have H:(y.toNat:Int) % 8<8:=YT _ (by decide);have M:IntKind.wrap .i64 ((y.toNat:Int) % 8)=(y.toNat:Int) % 8:=ap (by omega) (by omega);generalize (y.toNat:Int) % 8=z at q2 E H M;have J:j<(X.map ci).length:=by simp;omega
    have K:(X.map ci)[j]?=some (ci X[j]):=by rw[Vw,r];rfl
    have rX:=hX.rows;simp only[sz,simprocAttr,h2,c,h9,h11,ll,w1,L,I,hlt,N,q2,M,rX,J];refine bK (v:=u) (sz:=1) (n:=1) (i:=j) (off:=0) (x:=ZJ z) (row':=ci z) hX K rfl rfl rfl λg4 hu4 n4 f4=>?_;rw[<-Xa]at hu4;simp only[sx,sy];refine⟨X.set j z,z,by simp[St,sx,h0,h1,h2,c,h9,k,h11],by simp[w],hu4,λx hx=>?_,by rw[WH (by omega)],λi hi=>by rw[W0 (WD hi)]⟩;rcases XZ hx with h|rfl
    ·exact q x h
    ·omega
   ·simp only[sx,sy];exact⟨X,X[j],by simp[St,sx,h0,h1,h2,c,h9,k,h11],w,hX,q,r,λ_ _=>rfl⟩
  clear h0 h1 h2 c h9 k h11 hX;rintro t df g ⟨rfl,X',x',⟨h0,h1,h2,c,h9,k,h11,-⟩,A,p,f,o,B⟩;have J:j<(X'.map ci).length:=by simp;omega
  have K:(X'.map ci)[j]?=some (ci x'):=by rw[Vw,o];rfl
  have rX:=p.rows;have Y:=f x' (VA o);have w1:IntKind.wrap .i64 (s+x')=s+x':=ap (by omega) (by omega);simp only[sz,simprocAttr,tu,k,h9,h11,rX,J,K,ci,w1];have ht:X'.take j=X.take j:=Xm λi=>by
   by_cases e:i<j
   ·rw[Wu e,Wu e,B i (by omega)]
   ·rw[Wx (by simp;omega),Wx (by simp;omega)]
  refine⟨by simp[St,sx,h0,h1,h2,c,h9],X',s+x',by simp[sx],A,p,f,?_,by omega,by omega⟩;rw[YD,o,ht,List.sum_append,<-D];simp
 ·rintro t df g ⟨rfl,h⟩;exact fin t g h
structure Rw2 (gr s:Int) (u:AV) (C:Nat) (X:List Int) (j:Nat) (t:T) (g:G):Prop where
 st:St t [(0,ZJ gr),(1,ZJ (C:Int)),(9,u),(10,ZJ s)]
 hX:∃(la:Nat),tat t 12=ZJ (gr - ((X.take j).map (S.rq gr s)).sum)/\tat t 13=ZJ (la:Int)/\la<C/\Own g 0 u 1 (((X.take j).map (S.rq gr s)++X.drop j).map ci)
theorem QB{s:Int}(h:j<X.length):((X.take j).map (S.rq gr s)++X.drop j).set j (S.rq gr s X[j])=(X.take (j+1)).map (S.rq gr s)++X.drop (j+1):=by
 have hl:((X.take j).map (S.rq gr s)).length=j:=by simp;omega
 rw[Xl _ _ (by omega),hl,WR,W7 h,XL,Xb h,WJ,W5]
 rfl
theorem So{s:Int}{u:AV}(hC:C<=3)(hg:0<=gr/\gr<=60)(hXl:X.length=C)(hXb:∀x∈X,0<=x/\x<=7/\x<=s)(h0:Rw2 gr s u C X 0 t g)(h14:tat t 14=ZJ 0)
  (fin:∀t g,Rw2 gr s u C X C t g->Q (.exit 2) t [] g):wpL (wp C0 d none mX) Q t [] g:=by
 simp only[mX,tx];refine aP C (by omega) (λj t df g=>df=[]/\Rw2 gr s u C X j t g) ⟨rfl,h0⟩ h14 (by decide) ?_ ?_ ?_ ?_
 ·rintro j t df g v s (rfl|rfl|rfl) ⟨a1,⟨b1,b2,b3,O,-⟩,la,c1,L,R⟩<;>exact⟨a1,by simp[St,sx,b1,b2,b3,O],la,by simp[sx,c1],by simp[sx,L],R⟩
 ·rintro j t df g I ⟨rfl,⟨h0,h1,h9,k,-⟩,la,c,f,hX⟩ h14;simp only[sz,simprocAttr,h14,h1];exact⟨by simp[St,sx,h0,h1,h9,k],la,by simp[sx,c],by simp[sx,f],hX⟩
 ·rintro j t df g I ⟨rfl,⟨h0,h1,h9,k,-⟩,la,c,f,o,hX⟩ h14;have m:j<X.length:=by omega
  obtain⟨K,b1,b2⟩:=hXb X[j] (Wy m);have F:((X.take j).map (S.rq gr s)++X.drop j).length=C:=by simp;omega
  have w:((X.take j).map (S.rq gr s)++X.drop j)[j]?=some X[j]:=by rw[VW (by simp;omega)];simp[show min j X.length=j by omega,m]
  have E:j<(((X.take j).map (S.rq gr s)++X.drop j).map ci).length:=by rw[VF,F];exact I
  have q:(((X.take j).map (S.rq gr s)++X.drop j).map ci)[j]?=some (ci X[j]):=by rw[Vw,w];rfl
  have rX:=hX.rows;have H:0<=gr*X[j]:=XU hg.1 K;have M:gr*X[j]<=60*7:=Y0 hg.2 b1 K (by decide);have p:=QB (gr:=gr) (s:=s) m;have D:(X.take (j+1)).map (S.rq gr s)=(X.take j).map (S.rq gr s)++[S.rq gr s X[j]]:=by rw[Xb m,WJ];rfl
  have W:=Ig (gr:=gr) (s:=s) (by omega) hg.1 (X.take j) λy hy=>by have:=hXb y (WL hy);omega
  have B:∀x∈X,0<=S.rq gr s x/\S.rq gr s x<=420:=λx hx=>by obtain⟨c0,c1,L⟩:=hXb x hx;have h1:0<=gr*x:=XU hg.1 c0;have h2:gr*x<=60*7:=Y0 hg.2 c1 c0 (by decide);refine⟨Int.ediv_nonneg h1 (by omega),?_⟩;have:=Int.ediv_le_self (b:=s) h1;unfold S.rq;omega
  have J:∀l:List Int,(∀x∈l,x∈X)->(l.map (S.rq gr s)).sum<=420*l.length:=λl=>by
   induction l with
   |nil=>intro _;simp
   | cons a l ih =>
    intro h;have h1:=B a (h a (WO ..));have h2:=ih λy hy=>h y (WK _ hy);simp only[W4,X6,Wd]
    push_cast
    omega
  have V:=J (X.take j) λx hx=>WL hx;have N:(X.take j).length<=3:=by simp;omega
  have U:=B X[j] (Wy m);refine bB (P:=λt' df g'=>df=[]/\∃(la':Nat),St t' [(0,ZJ gr),(1,ZJ (C:Int)),(9,u),(10,ZJ s),(12,ZJ (gr - ((X.take j).map (S.rq gr s)).sum)),(13,ZJ (la':Int)),(14,ZJ (j:Int))]/\la'<C/\Own g' 0 u 1 (((X.take (j+1)).map (S.rq gr s)++X.drop (j+1)).map ci)) ?_ ?_
  ·simp only[sz,simprocAttr,h9,h14,rX,E,q,ci];refine aX (λhb=>?_) (λhb=>?_)
   ·have hb:0<X[j]:=by simpa using hb
    have w1:IntKind.wrap .i64 (gr*X[j])=gr*X[j]:=ap (by omega) (by omega);have Y:bQ .quo (ZJ (gr*X[j])) (ZJ s)=.val (ZJ (S.rq gr s X[j])):=wj (x:=gr*X[j]) (y:=s) H (by omega) (by omega);simp only[sz,simprocAttr,h0,h9,k,h14,rX,E,q,ci,w1,Y];refine bK (v:=u) (sz:=1) (n:=1) (i:=j) (off:=0) (x:=ZJ (S.rq gr s X[j])) (row':=ci (S.rq gr s X[j])) hX q rfl rfl rfl λg4 hu4 n4 f4=>?_;rw[<-Xa,p]at hu4;simp only[sz,simprocAttr,h14];exact⟨j,by simp[St,sx,h0,h1,h9,k,c,h14],by omega,hu4⟩
   ·have hb:X[j]=0:=by
     have:¬0<X[j]:=by simpa using hb
     omega
    simp only[sx,sy];refine⟨la,by simp[St,sx,h0,h1,h9,k,c,f,h14],o,?_⟩;rw[<-p,hb,J9,<-hb];have:((X.take j).map (S.rq gr s)++X.drop j).set j X[j]=(X.take j).map (S.rq gr s)++X.drop j:=by
     refine Xm λi=>?_
     by_cases e:j=i
     ·subst e;rw[WH (by omega),w]
     ·rw[W0 e]
    rw[this];exact hX
  clear h0 h1 h9 k c f h14 hX rX o E q;rintro t df g ⟨rfl,la',⟨h0,h1,h9,k,c,f,h14,-⟩,o,r⟩;have A:((X.take (j+1)).map (S.rq gr s)++X.drop (j+1)).length=C:=by simp;omega
  have z:((X.take (j+1)).map (S.rq gr s)++X.drop (j+1))[j]?=some (S.rq gr s X[j]):=by rw[VO (by simp;omega),D,VW (by simp;omega)];simp[show min j X.length=j by omega]
  have E:j<(((X.take (j+1)).map (S.rq gr s)++X.drop (j+1)).map ci).length:=by rw[VF,A];exact I
  have q:(((X.take (j+1)).map (S.rq gr s)++X.drop (j+1)).map ci)[j]?=some (ci (S.rq gr s X[j])):=by rw[Vw,z];rfl
  have rX:=r.rows;have w1:IntKind.wrap .i64 (gr - ((X.take j).map (S.rq gr s)).sum - S.rq gr s X[j])=gr - ((X.take (j+1)).map (S.rq gr s)).sum:=by rw[D,List.sum_append,ap (by omega) (by omega)];simp;omega
  simp only[sz,simprocAttr,tw,c,h9,h14,rX,E,q,ci,w1];exact⟨by simp[St,sx,h0,h1,h9,k],la',by simp[sx],by simp[sx,f],o,r⟩
 ·rintro t df g ⟨rfl,h⟩;exact fin t g h
theorem Sq{F kk:Nat}{nv:AV}{l:List UInt8}(hd:0<d)(hC:1<=C/\C<=3)(hF:F<=1000)(hg:0<=gr/\gr<=60)(hl:SlR NoP kk .nil l nv) :
  ∃r,am C0 d 24 [ZJ gr,ZJ (C:Int),nv,ZJ (F:Int)] g=.val r/\Tk gr C NoP 0 .nil r:=by
 rw[Ap];refine a_ DZ (xs:=[ZJ gr,ZJ (C:Int),nv,ZJ (F:Int)]) (by simp only[aG,l9 d (hl.tree (h':=g.h) (Vu _)),bS 0]) (by simp[tp]) (rH λo=>aY _) (by decide) hd ?_;simp only[sz,simprocAttr,tp];refine zP (b:=0) (n:=C) (by unfold aT;omega) (by unfold aT;omega) (Wp _) λu g1 hu n1 f1 vu=>?_;simp only[sz,simprocAttr];refine Sn (gr:=gr) (nv:=nv) (u:=u) (C:=C) (F:=F) hC.2 hF hl ⟨by simp[St,sx],List.replicate C 0,0,by simp[sx],by simp,by simpa [ci] using hu,λx hx=>by rw[(XK.1 hx).2];decide,by simp,by omega,by omega⟩ (by simp[sx]) ?_;rintro t g2 ⟨⟨h0,h1,h2,q,h9,-⟩,X,s,c,e,hX,k,a,y,z⟩;rw[VX (by omega)]at a;have j:=zO X λx hx=>(k x hx).1;simp only[sz,simprocAttr,tA,h0];refine So (gr:=gr) (s:=s) (u:=u) (C:=C) (X:=X) hC.2 hg e (λx hx=>⟨(k x hx).1,(k x hx).2,by rw[a];exact j.2 x hx⟩) ⟨by simp[St,sx,h0,h1,h9,c],0,by simp[sx],by simp[sx],by omega,by simpa using hX⟩ (by simp[sx]) ?_;clear h0 h1 h2 q h9 c hX;rintro t g3 ⟨⟨h0,h1,h9,c,-⟩,la,f,m,w,hX⟩;rw[VX (by omega)]at f hX;rw[List.drop_eq_nil_of_le (by omega),VV]at hX;obtain⟨x,hx⟩:∃x,(X.map (S.rq gr s))[la]?=some x:=⟨_,Vt (by simp;omega)⟩;obtain⟨f1,f2,B⟩:=QA (gr:=gr) (s:=s) (X:=X) (la:=la) hg.1 (λx hx=>⟨(k x hx).1,by rw[a];exact j.2 x hx⟩) a (by omega) hx;have A:la<((X.map (S.rq gr s)).map ci).length:=by simp;omega
 have p:((X.map (S.rq gr s)).map ci)[la]?=some (ci x):=by rw[Vw,hx];rfl
 have rX:=hX.rows;have w1:IntKind.wrap .i64 (x+(gr - (X.map (S.rq gr s)).sum))=x+(gr - (X.map (S.rq gr s)).sum):=ap (by omega) (by omega);simp only[sz,simprocAttr,tz,h9,m,f,rX,A,p,ci,w1];refine bK (v:=u) (sz:=1) (n:=1) (i:=la) (off:=0) (x:=ZJ (x+(gr - (X.map (S.rq gr s)).sum))) (row':=ci (x+(gr - (X.map (S.rq gr s)).sum))) hX p rfl rfl rfl λg4 hu4 n4 f4=>?_;rw[<-Xa]at hu4;simp only[sz,simprocAttr,h9];exact⟨λ_=>True,_,⟨by simp[e],by rw[<-e];exact f1⟩,hu4.ints (by simp;omega)⟩
end
theorem Bm(os:List UInt8):∀k,(S.T7 os k).Perm ((List.range k).map λi:Nat=>(i:Int))
 |0=>.refl _
 | k+1=>by rw[WC,WJ,S.T7];refine List.perm_middle.trans ?_;rw[WS];exact ((Bm os k).cons _).trans (List.perm_append_comm (l₁:=[(k:Int)]))
structure Num (n:Nat) (pl:List Int) (num:Nat->Nat):Prop where
 len:pl.length=n
 at_:∀k,k<n->pl[k]?=some (num k:Int)
 lt:∀k,k<n->num k<n
 inj:∀i j,i<n->j<n->num i=num j->i=j
 sur:∀u,u<n->∃k,k<n/\num k=u
theorem Se(os:List UInt8)(n:Nat):∃num,Num n (S.T7 os n) num:=by
 have hp:=Bm os n;have hl:=qv os n;have f:∀x∈S.T7 os n,∃i:Nat,i<n/\x=(i:Int):=λx hx=>by have:=hp.mem_iff.1 hx;obtain⟨i,hi,rfl⟩:=Wk.1 this;exact⟨i,VM.1 hi,rfl⟩
 have l:(S.T7 os n).Nodup:=by rw[hp.nodup_iff];refine List.Pairwise.map _ ?_ (YJ (n:=n));intro a b h e;exact h (by omega)
 have c:∀k,k<n->(S.T7 os n)[k]?=some (((S.T7 os n)[k]?.getD 0).toNat:Int)/\((S.T7 os n)[k]?.getD 0).toNat<n:=λk hk=>by
  have d:k<(S.T7 os n).length:=by omega
  have e:=Vt d;obtain⟨i,hi,h⟩:=f _ (Wy d);rw[e,VB,h];simp[hi]
 refine⟨λk=>((S.T7 os n)[k]?.getD 0).toNat,hl,λk hk=>(c k hk).1,λk hk=>(c k hk).2,λi j hi hj h=>?_,λu hu=>?_⟩
 ·have h1:=(c i hi).1;have h2:=(c j hj).1;refine (List.getElem?_inj (by omega) l).1 ?_;rw[h1,h2];exact congrArg (λx:Nat=>some (x:Int)) h
 ·have:(u:Int)∈S.T7 os n:=hp.mem_iff.2 (Wk.2 ⟨u,VM.2 hu,rfl⟩);obtain⟨k,hk,he⟩:=XQ.1 this;refine⟨k,by omega,?_⟩;rw[Vt hk,he];rfl
theorem QH(m n:Nat):∃z:Int,bQ .shl (ZJ (m:Int)) (ZL (n:Int))=.val (ZJ z):=⟨_,rfl⟩
def LNX(X:Ky->Prop)(n:Nat)(D:ND):Ky->Prop:=λk=>LN n D k\/X k
def X1:Ky->Prop:=λk=>k=(0,1)
def X2:Ky->Prop:=λk=>k=(0,1)\/k=(0,2)
structure DN (X:Ky->Prop) (r0:List AV) (n q K:Nat) (gr:Int) (V:Ky->AV) (E:Ky->En) (D:ND) (g:G):Prop where
 hp:Hp g 2 (LNX X n D) V E
 bn:BN K n V E D
 vb:V (0,1)=ZK q
 bx:E (0,1)=.bx [ZJ gr,V (0,0)]
 h0:g.h.get 0=Y6 3 [r0]
 h1:g.h.get 1=Y6 2 [[ZJ 0,.nils]]
theorem DN.q{X:Ky->Prop}{r0:List AV}{n q K:Nat}{gr:Int}{V:Ky->AV}{E:Ky->En}{D:ND}{g:G}(h:DN X r0 n q K gr V E D g)(hX:X (0,1)):g.h.get q=Y6 2 [[ZJ gr,V (0,0)]]/\2<=q/\q<g.nx:=by obtain⟨id,h1,h2,a,h4⟩:=h.hp.box (k:=(0,1)) (.inr hX) h.bx;rw[h.vb]at a;injection a with a;subst a;exact⟨h4,h1,h2⟩
theorem DN.ns{X:Ky->Prop}{r0:List AV}{n q K:Nat}{gr:Int}{V:Ky->AV}{E:Ky->En}{D:ND}{g:G}(h:DN X r0 n q K gr V E D g):Own g 2 (V (0,0)) 3 ((List.range n).map (gJ D V)):=h.hp.own (.inl LN.z) h.bn.ns
theorem DN.same{X:Ky->Prop}{r0:List AV}{q K:Nat}{D:ND}(h:DN X r0 n q K gr V E D g)(hf:Fr g g'):DN X r0 n q K gr V E D g':=by have:=h.hp.nx;exact⟨h.hp.step hf.1 λi _ hi=>hf.2 i hi,h.bn,h.vb,h.bx,by rw[hf.2 0 (by omega),h.h0],by rw[hf.2 1 (by omega),h.h1]⟩
theorem fR{sz:Nat}{rows:List (List AV)}(h:Own g b v sz rows)(hr:0<rows.length):nA v=true:=by
 rcases h with⟨rfl,rfl⟩|⟨id,ep,lo,-,-,rfl,-⟩
 ·simp at hr
 ·rfl
theorem DN.card{X:Ky->Prop}{r0:List AV}{q K:Nat}{D:ND}{KK:AV->G->Prop}{DD:ADf->Prop}(h:DN X r0 n q K gr V E D g)(hi:i<n)(hX:∀k,X k->k≠(0,0))
  (kk:∀g' E',DN X r0 n q K gr V E' { D with c:=ups D.c i c } g'->g'.nx=g.nx->KK .undef g'):(jV 1 (eJ 3 (V (0,0)) i 0) (ZJ c) g).sat KK g DD:=by
 refine h.hp.put (k:=(0,0)) (row:=gJ D V i) (row':=[ZJ c,V (i+1,0),V (i+1,1)]) (.inl LN.z) h.bn.ns (g9 _ hi) rfl rfl rfl λg' hH hn hf1 hf2=>?_;refine kk g' _ ⟨hH.sub λk hk=>hk,⟨?_,λj hj=>?_,λj hj=>?_,λj r hj hr=>?_⟩,h.vb,?_,by rw[hf1 0 (by omega),h.h0],by rw[hf1 1 (by omega),h.h1]⟩ hn
 ·rw[ax,pj _ _ hi];congr 1;refine Bh (by simp[gJ,ax]) λj hj hne=>by simp[gJ,ac _ _ hne]
 ·rw[ac _ _ (by simp)];exact h.bn.ps j hj
 ·rw[ac _ _ (by simp)];exact h.bn.rs j hj
 ·rw[ac _ _ (by simp)];exact h.bn.rr j r hj hr
 ·rw[ac _ _ (by simp)];exact h.bx
structure DAok (D:ND) (n i:Nat) (num:Nat->Nat):Prop where
 e:∀v,v<n->D.P v=[]/\D.m v=0
 c:∀k,k<i->D.c (num k)=2\/D.c (num k)=3
 o:∀u,D.o u=0
def LDA(n q:Nat)(r5:AV):List (Nat×AV):=[(1,ZK 0),(2,ZK 1),(3,ZJ (n:Int)),(4,ZK q),(5,r5)]
structure DA (r0:List AV) (n q:Nat) (gr:Int) (r5:AV) (num:Nat->Nat) (i:Nat) (t:T) (g:G):Prop where
 st:St t (LDA n q r5)
 w:∃w:Nat,tat t 6=ZJ (w:Int)/\w<=3 ^ i
 hd:∃V E D,DN X1 r0 n q 1000 gr V E D g/\DAok D n i num
theorem Ts(h:i<=5):3 ^ i<=243:=by
 have:i=0\/i=1\/i=2\/i=3\/i=4\/i=5:=by omega
 rcases this with rfl|rfl|rfl|rfl|rfl|rfl<;>decide
theorem R8{q kk:Nat}{x:uQ}{a b r5:AV}{pl:List Int}{num:Nat->Nat}(hn:1<=n/\n<=5)(ha:SlR NoP kk .nil x.2.1 a)(h5:IT 0 pl r5)(hN:Num n pl num)
  (h0:DA [u8v x.1,a,b] n q gr r5 num 0 t g) (h7:tat t 7=ZJ 0)
  (fin:∀t g,DA [u8v x.1,a,b] n q gr r5 num n t g->Q (.exit 0) t [] g):wpL (wp C0 d none fG) Q t [] g:=by
 obtain⟨pr,N,r2,r3,r4⟩:=ha.all;have N:∀h',ak h' 3 a=some pr:=N;have la:=ha.len;have hc:=ha.1;have O:∀h,ak h 1 r5=some (pl.map ci):=λh=>(h5.sl h).ints;simp only[fG,j_];refine aP n (by omega) (λj t df g=>df=[]/\DA [u8v x.1,a,b] n q gr r5 num j t g) ⟨rfl,h0⟩ h7 (by decide) ?_ ?_ ?_ ?_
 ·rintro j t df g v s (rfl|rfl|rfl) ⟨a1,⟨b1,b2,b3,W,b5,-⟩,⟨w,c1,X⟩,Y⟩<;>exact⟨a1,by simp[St,LDA,sx,b1,b2,b3,W,b5],⟨w,by simp[sx,c1],X⟩,Y⟩
 ·rintro j t df g L ⟨rfl,⟨h1,h2,f,h4,h5,-⟩,⟨w,l,hw⟩,H⟩ h7;simp only[sz,simprocAttr,h7,f];exact⟨by simp[St,LDA,sx,h1,h2,f,h4,h5],⟨w,by simp[sx,l],hw⟩,H⟩
 ·rintro j t df g L ⟨rfl,⟨h1,h2,f,h4,h5,-⟩,⟨w,l,hw⟩,V,E,D,H,A⟩ h7;obtain⟨p8,B⟩:∃p8,p8=g.nx:=⟨_,rfl⟩;have he:=H.hp.nx;refine bB (P:=λt' df g'=>df=[]/\g'=g.new (Y6 3 [[.int .u8 0,.int .u8 0,.nils]])/\St t' ((6,ZJ (w:Int))::(7,ZJ (j:Int))::(8,ZK p8)::LDA n q r5)) ?_ ?_
  ·simp only[sz,simprocAttr];simp[St,LDA,sx,h1,h2,f,h4,h5,l,h7,B]
  clear h1 h2 f h4 h5 l h7;rintro t df g1 ⟨rfl,r,⟨l,h7,h8,h1,h2,f,h4,h5,-⟩⟩;have f1:Fr g g1:=by rw[r];exact Fr.new _ _
  have K:g1.h.get p8=Y6 3 [[.int .u8 0,.int .u8 0,.nils]]:=by rw[r,B];simp[TA]
  have n1:p8<g1.nx:=by rw[r,B];simp
  clear r;have I:=H.same f1;have e0:=I.h0;refine bB (P:=λt' df g'=>df=[]/\Fr g g'/\St t' ((6,ZJ (w:Int))::(7,ZJ (j:Int))::(8,ZK p8)::LDA n q r5)/\p8<g'.nx/\∃(y:UInt8) (S U:AV),g'.h.get p8=Y6 3 [[u8v y,S,U]]) ?_ ?_
  ·simp only[sz,simprocAttr,h7,h1,e0,la];refine aX (λhb=>?_) (λhb=>?_)
   ·have hb:j<x.2.1.length:=by simpa using hb
    obtain⟨y,hy,-,-⟩:=ae hb;obtain⟨row,q1,q2⟩:=r3 j y hy;obtain⟨wv,rfl,hg⟩:=Dl.1 q2;have hlt:j<pr.length:=by omega
    have J:=r4 (by omega);simp only[sz,simprocAttr,h7,h1,e0,N,hlt,q1,h8,K];refine⟨?_,by simp[St,LDA,sx,h1,h2,f,h4,h5,l,h7,h8],by simpa using n1,y.1,u8v y.2.1,wv,by simp[TA]⟩;exact⟨VR f1.1 (by simp),λi hi=>by simp[TA,show ¬i=p8 by omega];exact f1.2 i hi⟩
   ·simp only[sx,sy];exact⟨f1,by simp[St,LDA,sx,h1,h2,f,h4,h5,l,h7,h8],n1,0,.int .u8 0,.nils,K⟩
  clear h1 h2 f h4 h5 l h7 h8 e0 I K n1 f1;rintro t df g2 ⟨rfl,f2,⟨l,h7,h8,h1,h2,f,h4,h5,-⟩,n2,y,S,U,K⟩;have p:=H.same f2;have q2:=cX .u8 (a:=(y.toNat:Int)) (b:=2) (by omega) (by omega);obtain⟨m,hm⟩:∃m:Nat,(y.toNat:Int) % 2=(m:Int):=Vy (YP _ (by decide));have hd:m<2:=by have:=YT (y.toNat:Int) (show (0:Int)<2 by decide);omega
  rw[hm]at q2;have w2:IntKind.wrap .i64 (m:Int)=(m:Int):=ap (by omega) (by omega);have w3:IntKind.wrap .i64 (2+(m:Int))=((2+m:Nat):Int):=by rw[ap (by omega) (by omega)];rfl
  have hf:=Ts (i:=j) (by omega);have F:w*(2+m)<=243*3:=Nat.mul_le_mul (by omega) (by omega);have M:IntKind.wrap .i64 ((w:Int)*((2+m:Nat):Int))=((w*(2+m):Nat):Int):=by rw[<-XX,ap (by omega) (by omega)]
  have w5:IntKind.wrap .i64 ((n:Int) - 1)=((n - 1:Nat):Int):=by rw[ap (by omega) (by omega)];omega
  have w6:IntKind.wrap .i64 (((n - 1:Nat):Int) - (j:Int))=((n - 1 - j:Nat):Int):=by rw[ap (by omega) (by omega)];omega
  have w7:IntKind.wrap .u64 ((n - 1 - j:Nat):Int)=((n - 1 - j:Nat):Int):=rN (by omega) (by omega);obtain⟨z,hz⟩:=QH (w*(2+m)) (n - 1 - j);refine bB (P:=λt' df g'=>df=[]/\g'=g2/\St t' ((6,ZJ (w:Int))::(7,ZJ (j:Int))::(9,ZJ ((2+m:Nat):Int))::LDA n q r5)) ?_ ?_
  ·simp only[sz,simprocAttr,h8,K,u8v,q2,w2,w3];simp[St,LDA,sx,h1,h2,f,h4,h5,l,h7]
  clear h1 h2 f h4 h5 l h7 h8;rintro t df g3 ⟨rfl,rfl,⟨l,h7,h9,h1,h2,f,h4,h5,-⟩⟩;refine bB (P:=λt' df g'=>df=[]/\g'=g3/\∃C:Nat,(C=2\/C=3)/\St t' ((6,ZJ (w:Int))::(7,ZJ (j:Int))::(9,ZJ (C:Int))::LDA n q r5)) ?_ ?_
  ·simp only[sz,simprocAttr,l,h7,h9,f,M,w5,w6,w7,hz];refine aX (λhb=>?_) (λhb=>?_)
   ·simp only[sz,simprocAttr];refine⟨2,.inl rfl,?_⟩;simp[St,LDA,sx,h1,h2,f,h4,h5,l,h7]
   ·simp only[sx,sy];refine⟨2+m,by omega,?_⟩;simp[St,LDA,sx,h1,h2,f,h4,h5,l,h7,h9]
  clear h1 h2 f h4 h5 l h7 h9 F M hz w3;rintro t df Z ⟨rfl,rfl,C,hC,⟨l,h7,h9,h1,h2,f,h4,h5,-⟩⟩;have F:w*C<=3 ^ j*3:=Nat.mul_le_mul hw (by omega);have R:w*C<=243*3:=Nat.mul_le_mul (by omega) (by omega);have M:IntKind.wrap .i64 ((w:Int)*(C:Int))=((w*C:Nat):Int):=by rw[<-XX,ap (by omega) (by omega)]
  refine bB (P:=λt' df g'=>df=[]/\g'=Z/\St t' ((6,ZJ ((w*C:Nat):Int))::(7,ZJ (j:Int))::(9,ZJ (C:Int))::LDA n q r5)) ?_ ?_
  ·simp only[sz,simprocAttr,l,h9,M];simp[St,LDA,sx,h1,h2,f,h4,h5,h7,h9]
  clear h1 h2 f h4 h5 l h7 h9;rintro t df g5 ⟨rfl,rfl,⟨l,h7,h9,h1,h2,f,h4,h5,-⟩⟩;obtain⟨kq,hh,hl⟩:=p.q rfl;have rns:=p.ns.rows;have J:=fR p.ns (by simp;omega);have u:=hN.lt j L;have u1:j<(pl.map ci).length:=by rw[VF,hN.len];exact L
  have u2:(pl.map ci)[j]?=some (ci (num j:Int)):=by rw[Vw,hN.at_ j L];rfl
  have u3:num j<((List.range n).map (gJ D V)).length:=by simpa using u
  have u4:=g9 (gJ D V) u;simp only[sz,simprocAttr,sf,h4,kq,h5,h7,h9,O,u1,u2,rns,u3,J,ci];refine (p.same (g':=_) ⟨?_,?_⟩).card (i:=num j) (c:=(C:Int)) u (λk hk=>by rw[hk];simp) λg6 E' hD6 n6=>?_
  ·simp;omega
  ·intro i hi;simp
  simp only[sx,sy,↓reduceIte,Nat.reduceEqDiff];refine⟨?_,⟨by simp[St,LDA,sx,h1,h2,f,h4,h5],⟨w*C,by simp[sx,l],by rw[Xz];exact F⟩,V,E',_,hD6.same ⟨by simp,λi _=>by simp⟩,A.e,λk hk=>?_,A.o⟩,by simp[h7]⟩
  ·simp only[VJ,VN,VH,VE];exact aA (false::(Zl (true::[]))) [] (by simp[All2,ah,ay]) (by decide) (by simp)
  ·by_cases e:num k=num j
   ·simp[e,ax];omega
   ·show ups D.c (num j) (C:Int) (num k)=2\/ups D.c (num j) (C:Int) (num k)=3;rw[ac _ _ e];refine A.c k ?_;have:k≠j:=λh=>e (by rw[h]);omega
 ·rintro t df g ⟨rfl,h⟩;exact fin t g h
end
end Hx
