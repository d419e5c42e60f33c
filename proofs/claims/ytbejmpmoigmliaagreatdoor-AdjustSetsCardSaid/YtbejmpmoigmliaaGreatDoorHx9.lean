/- A part of the proof: an interpreter over abstract values, shown right against the model, and what the functions of the chapter compute on it. -/
import Derived.Test.YtbejmpmoigmliaaGreatDoorHx8
set_option linter.unusedVariables false
set_option linter.unusedSimpArgs false
set_option linter.unnecessarySimpa false
section
section
namespace Hx
open Go
noncomputable section
theorem bh {α:Type}{l:List α}{j:Nat}(h:j<l.length):∃x,l[j]?=some x/\l.take (j+1)=l.take j++[x]/\x∈l :=
 ⟨l[j],List.getElem?_eq_getElem h,by rw[List.take_add_one,List.getElem?_eq_getElem h];rfl,List.getElem_mem h⟩
def S.bQ (l:List Int):Int:=l.foldl (fun s x=>IntKind.wrap .i64 (s*x)) 1
def S.bJ (l:List Int)(n:Int)(i:Nat):Bool:=decide (0<=l[i]?.getD 0)&&decide (l[i]?.getD 0<n)&&(i == 0 || decide (l[i - 1]?.getD 0<l[i]?.getD 0))
def S.a_ (l:List Int)(n:Int):Bool:=(List.range l.length).all (S.bJ l n)
def S.aF (n:Nat):Nat:=1*2 ^ n % 18446744073709551616
def S.be (l:List Int):Nat:=l.foldl (fun s x=>s ||| S.aF x.toNat) 0
theorem tS (n:Nat):S.aF n<18446744073709551616:=Nat.mod_lt _ (by decide)
theorem aI (k':IntKind)(n:Nat):aS .shl (.int .u64 1) (.int k' (n:Int))=.val (.int .u64 (S.aF n:Int)):=xN k' 1 n
def S.aS (s v:Nat):Bool:=s / 2 ^ v &&& 1 == 1
theorem j7 {d:Nat}{g:G}{s v:Nat}(hd:0<d)(hs:s<18446744073709551616)(hv:v<9223372036854775808) :
  ap C0 d N.aa [.int .u64 (s:Int),.int .i64 (v:Int)] g=.val (.bool (S.aS s v)):=by
 rw[qZ]
 refine cL vT (xs:=[.int .u64 (s:Int),.int .i64 (v:Int)]) (by simp only[az,aX 0]) (by simp[mo]) hd ?_
 have h1:s / 2 ^ v<18446744073709551616:=Nat.lt_of_le_of_lt (Nat.div_le_self _ _) hs
 have h2:aS .and (.int .u64 ((s / 2 ^ v:Nat):Int)) (.int .u64 1)=.val (.int .u64 ((s / 2 ^ v &&& 1:Nat):Int)):=bj (s / 2 ^ v) 1 h1 (by decide)
 simp only[sz,simprocAttr,mo,bk (show (0:Int)<=(v:Int) by omega) (by omega),aH _ _ _ hs,h2,S.aS]
 congr 1
 generalize s / 2 ^ v &&& 1=z
 rw[Bool.eq_iff_iff,decide_eq_true_iff,beq_iff_eq];omega
def S.au (p:List Nat)(s:Nat)(j:Nat):Nat:=(List.range j).foldl (fun s v=>if S.aS s v then s ||| p[v]?.getD 0 else s) s
def S.up (p:List Nat)(s:Nat)(j:Nat):Nat:=(List.range j).foldl (fun s _=>S.au p s p.length) s
theorem vo {p:List Nat}(hp:∀x∈p,x<18446744073709551616){s:Nat}(hs:s<18446744073709551616):∀j,S.au p s j<18446744073709551616:=by
 intro j
 induction j with
 | zero=>exact hs
 | succ j ih =>
  unfold S.au at ih ⊢
  rw[List.range_succ,List.foldl_append]
  simp only[List.foldl_cons,List.foldl_nil]
  split
  ·refine vK ih ?_
   cases h:p[j]? with
   | none=>decide
   | some x=>exact hp x (List.mem_of_getElem? h)
  ·exact ih
theorem dx (p:List Nat)(s j:Nat):S.au p s (j+1)=if S.aS (S.au p s j) j then S.au p s j ||| p[j]?.getD 0 else S.au p s j:=by
 unfold S.au
 rw[List.range_succ,List.foldl_append];rfl
theorem DX {p:List Nat}(hp:∀x∈p,x<18446744073709551616){s:Nat}(hs:s<18446744073709551616):∀j,S.up p s j<18446744073709551616:=by
 intro j
 induction j with
 | zero=>exact hs
 | succ j ih =>
  unfold S.up at ih ⊢
  rw[List.range_succ,List.foldl_append]
  exact vo hp ih _
theorem gC (p:List Nat)(s j:Nat):S.up p s (j+1)=S.au p (S.up p s j) p.length:=by
 unfold S.up
 rw[List.range_succ,List.foldl_append];rfl
theorem Fg {d k:Nat}{g:G}{P:Nat->Prop}{v:AV}{p:List Nat}{s:Nat}(hd:0<d)(hv:SlR P k g.h p v)(hs:s<18446744073709551616) :
  ap C0 d N.aP [v,.int .u64 (s:Int)] g=.val (.int .u64 (S.up p s p.length:Int)):=by
 obtain ⟨v',e,r1⟩:=bN hv d
 have hp:=aZ hv
 have hl:=hv.1
 rw[rJ]
 refine dZ vd (xs:=[v',.int .u64 (s:Int)]) (by simp only[az,e,aX 0]) (by simp[mD]) hd ?_
 simp only[sz,simprocAttr,mD]
 refine eW hl (r1 .nil).len (fun j t df g=>df=[]/\tat t 1=.int .u64 (S.up p s j:Int)) ⟨rfl,by simp[sx,S.up]⟩ (by simp[sx]) (by simp[sx]) (by decide)
  (by rintro j t df g v s (rfl | rfl | rfl | rfl | rfl | rfl | rfl)<;>simp[sx]) ?_ ?_
 ·rintro j t df g hj ⟨rfl,h1⟩ h5 h0
  simp only[sz,simprocAttr]
  have hu:=DX hp hs j
  refine eW hl (r1 .nil).len (fun i t df g=>df=[]/\tat t 5=.int .i64 (j:Int)/\tat t 1=.int .u64 (S.au p (S.up p s j) i:Int)) ⟨rfl,by simp[sx,h5],by simp[sx,S.au,h1]⟩ (by simp[sx]) (by simp[sx,h0]) (by decide)
   (by rintro j t df g v s (rfl | rfl | rfl | rfl | rfl | rfl | rfl)<;>simp[sx]) ?_ ?_
  ·rintro i t df g hi ⟨rfl,h5,h1⟩ h6 h0
   have hr:=vo hp hu i
   obtain ⟨x,hx,-,hm⟩:=bh hi
   simp only[sz,simprocAttr,h1,h6,j7 (Nat.succ_pos d) hr (show i<9223372036854775808 by omega)]
   refine pE (fun hb=>?_) (fun hb=>?_)
   ·simp only[sz,simprocAttr,h0,h1,h5,h6,(r1 g.h).nats,hi,hx,List.length_map,List.getElem?_map,Option.map_some,cu,eY _ _ hr (hp x hm)]
    rw[dx,hb,hx];rfl
   ·simp only[sx,sy,↓reduceIte,Nat.reduceEqDiff,h0,h1,h5,h6]
    rw[dx,hb];rfl
  ·rintro t df g ⟨rfl,h5,h1⟩ h0
   simp only[sx,sy,↓reduceIte,h0,h5,h1]
   rw[gC]
 ·rintro t df g ⟨rfl,h1⟩ -
  simp only[sz,simprocAttr,l_,h1]
def S.aG (p:List Nat):Bool:=(List.range p.length).all fun v=>!S.aS (S.up p (p[v]?.getD 0) p.length) v
theorem uE {d k:Nat}{g:G}{P:Nat->Prop}{v:AV}{p:List Nat}(hd:0<d)(hv:SlR P k g.h p v) :
  ap C0 d N.aS [v] g=.val (.bool (S.aG p)):=by
 obtain ⟨v',e,r1⟩:=bN hv d
 have hp:=aZ hv
 have hl:=hv.1
 rw[mT]
 refine cL oH (xs:=[v']) (by simp only[az,e]) (by simp[gi]) hd ?_
 simp only[sz,simprocAttr,gi]
 refine eW hl (r1 .nil).len (fun j t df g=>df=[]/\(List.range j).all (fun v=>!S.aS (S.up p (p[v]?.getD 0) p.length) v)=true) ⟨rfl,rfl⟩ (by simp[sx]) (by simp[sx]) (by decide)
  (by rintro j t df g v s (rfl | rfl | rfl | rfl | rfl | rfl | rfl)<;>simp[sx]) ?_ ?_
 ·rintro j t df g hj ⟨rfl,hw⟩ h3 h0
  obtain ⟨x,hx,-,hm⟩:=bh hj
  have hx':=hp x hm
  simp only[sz,simprocAttr,h0,h3,(r1 g.h).nats,hj,hx,List.length_map,List.getElem?_map,Option.map_some,cu,Fg (Nat.succ_pos d) (r1 g.h) hx',j7 (Nat.succ_pos d) (DX hp hx' _) (show j<9223372036854775808 by omega)]
  refine pE (fun hb=>?_) (fun hb=>?_)
  ·simp only[sz,simprocAttr]
   rw[S.aG,pf hj (by rw[hx];simp[hb])]
  ·simp only[sx,sy,↓reduceIte,Nat.reduceEqDiff,h0,h3]
   rw[eX,hw,hx];simp[hb]
 ·rintro t df g ⟨rfl,hw⟩ h0
  simp only[sz,simprocAttr,g_]
  rw[S.aG,hw]
def S.aH (l:List Int):Int:=l.foldl (·*·) 1
def S.bL (m:Causal)(p:Int):Int:=(m.nodes[p.toNat]?.map (·.card)).getD 0
def S.br (m:Causal)(r:Int):Int:=(m.roots[r.toNat]?.map fun r=>(r.length:Int)).getD 0
def S.aX (a b:Nat):Nat:=a ^^^ (a &&& b)
theorem cq {n:Nat}(h:n<64):S.aF n=2 ^ n:=by
 unfold S.aF
 rw[Nat.one_mul,Nat.mod_eq_of_lt]
 exact Nat.pow_lt_pow_right (a:=2) (by decide) h
def S.bA (m:Causal)(x:Mech):List Int:=x.frm.map (S.bL m)++x.noise.map (S.br m)
def S.bj (m:Causal):Int:=S.aH (m.roots.map fun r=>(r.length:Int))
end
end Hx
end
section
namespace Hx
open Go
def Sub (a s:Nat):Prop:=∀v,a.testBit v=true->s.testBit v=true
theorem lK (s v:Nat):S.aS s v=s.testBit v:=by
 rw[Nat.testBit_eq_decide_div_mod_eq,S.aS,Nat.and_one_is_mod]
 rw[Bool.eq_iff_iff,beq_iff_eq,decide_eq_true_iff]
theorem sA {a s:Nat}:S.aX a s=0↔Sub a s:=by
 constructor
 ·intro h v hv
  have:=congrArg (·.testBit v) h
  simp[S.aX,hv] at this
  exact this
 ·intro h
  refine Nat.eq_of_testBit_eq fun v=>?_
  have:=h v
  simp only[S.aX,Nat.testBit_xor,Nat.testBit_and,Nat.zero_testBit]
  cases ha:a.testBit v
  ·rfl
  ·rw[this ha];rfl
theorem jT (a b v:Nat):(a ||| b).testBit v=(a.testBit v || b.testBit v):=Nat.testBit_or a b v
theorem wA {n:Nat}(h:n<64)(v:Nat):(S.aF n).testBit v=decide (n=v):=by rw[cq h,Nat.testBit_two_pow]
section
variable {p:List Nat}
def Par (p:List Nat)(v:Nat):Nat:=p[v]?.getD 0
def Cl (p:List Nat)(s:Nat):Prop:=∀v,v<p.length->s.testBit v=true->Sub (Par p v) s
theorem rY {s t:Nat}(hc:Cl p t)(h:Sub s t):∀j,j<=p.length->Sub (S.au p s j) t
 | 0,_=>h
 | j+1,hj=>by
  have ih:=rY hc h j (by omega)
  rw[dx]
  split
  ·rename_i hb
   rw[lK] at hb
   intro v hv
   rw[jT,Bool.or_eq_true] at hv
   rcases hv with hv | hv
   ·exact ih v hv
   ·exact hc j (by omega) (ih j hb) v hv
  ·exact ih
theorem qa {s t:Nat}(hc:Cl p t)(h:Sub s t):∀j,Sub (S.up p s j) t
 | 0=>h
 | j+1=>by rw[gC];exact rY hc (qa hc h j) _ (Nat.le_refl _)
def v8 (p:List Nat)(s:Nat):Prop:=Cl p s/\∀v,v<p.length->s.testBit v=true->(S.up p (Par p v) p.length).testBit v=false
theorem nR:S.aG p=true↔∀v,v<p.length->(S.up p (Par p v) p.length).testBit v=false:=by
 unfold S.aG
 rw[List.all_eq_true]
 constructor
 ·intro h v hv
  have:=h v (List.mem_range.2 hv)
  rw[lK] at this
  simpa [Par] using this
 ·intro h v hv
  have:=h v (List.mem_range.1 hv)
  rw[lK]
  simpa [Par] using this
def bct (s:Nat):Nat->Nat
 | 0=>0
 | n+1=>bct s n+(if s.testBit n then 1 else 0)
theorem wG (s:Nat):∀n,bct s n<=n
 | 0=>Nat.le_refl _
 | n+1=>by have:=wG s n;unfold bct;split<;>omega
theorem ud {a s:Nat}(h:Sub a s):∀n,bct a n<=bct s n
 | 0=>Nat.le_refl _
 | n+1=>by
  have:=ud h n
  unfold bct
  split
  ·rename_i hb;rw[if_pos (h n hb)];omega
  ·split<;>omega
theorem Ar {a s:Nat}(h:Sub a s){v:Nat}(hv:s.testBit v=true)(ha:a.testBit v=false):∀n,v<n->bct a n<bct s n
 | 0,h0=>by omega
 | n+1,hn=>by
  unfold bct
  by_cases hvn:v=n
  ·subst hvn
   have:=ud h v
   rw[if_pos hv,ha];simp;omega
  ·have:=Ar h hv ha n (by omega)
   split
   ·rename_i hb;rw[if_pos (h n hb)];omega
   ·split<;>omega
theorem vW {s:Nat}:∀n,bct s n=n->∀v,v<n->s.testBit v=true
 | 0,_,v,h=>by omega
 | n+1,h,v,hv=>by
  unfold bct at h
  have:=wG s n
  split at h
  ·rename_i hb
   by_cases e:v=n
   ·subst e;exact hb
   ·exact vW n (by omega) v (by omega)
  ·omega
theorem nQ {a s:Nat}(h:Sub a s)(h':Sub s a):a=s:=Nat.eq_of_testBit_eq fun v=>by
 cases ha:a.testBit v
 ·cases hs:s.testBit v
  ·rfl
  ·rw[h' v hs] at ha;cases ha
 ·rw[h v ha]
theorem qo {a s:Nat}(h:Sub a s):a<=s:=by
 have:a ||| s=s:=Nat.eq_of_testBit_eq fun v=>by
  rw[jT]
  cases ha:a.testBit v
  ·simp
  ·rw[h v ha];rfl
 rw[<-this];exact Nat.left_le_or
theorem jz (s:Nat):∀j,Sub s (S.au p s j)
 | 0=>fun _ h=>h
 | j+1=>by
  have ih:=jz s j
  rw[dx]
  split
  ·intro v hv;rw[jT,ih v hv];rfl
  ·exact ih
theorem wC {s:Nat}{j k:Nat}(h:j<=k):Sub (S.au p s j) (S.au p s k):=by
 induction h with
 | refl=>exact fun _ h=>h
 | step _ ih =>
  rw[dx]
  split
  ·intro v hv;rw[jT,ih v hv];rfl
  ·exact ih
theorem yZ {s:Nat}(h:S.au p s p.length=s):Cl p s:=by
 intro v hv hb u hu
 have h1:(S.au p s v).testBit v=true:=jz s v v hb
 have h2:(S.au p s (v+1)).testBit u=true:=by
  rw[dx,lK,h1,if_pos rfl,jT]
  have:(p[v]?.getD 0).testBit u=true:=hu
  rw[this];simp
 have:=wC (p:=p) (s:=s) (show v+1<=p.length by omega) u h2
 rwa [h] at this
theorem oV {s n v:Nat}(h:s<2 ^ n)(hv:s.testBit v=true):v<n:=by
 rcases Nat.lt_or_ge v n with h1 | h1
 ·exact h1
 ·rw[Nat.testBit_lt_two_pow (Nat.lt_of_lt_of_le h (Nat.pow_le_pow_right (by decide) h1))] at hv;cases hv
theorem Eh {f:Nat->Nat}{n:Nat}(hm:∀j,Sub (f j) (f (j+1)))(hb:∀j,f j<2 ^ n)(hs:∀j,f (j+1)=f j->f (j+2)=f (j+1)):f (n+1)=f n:=by
 have key:∀j,j<=bct (f j) n\/f (j+1)=f j:=by
  intro j
  induction j with
  | zero=>exact .inl (Nat.zero_le _)
  | succ j ih =>
   rcases ih with ih | ih
   ·by_cases e:f (j+1)=f j
    ·exact .inr (hs j e)
    ·left
     have:∃v,(f (j+1)).testBit v=true/\(f j).testBit v=false:=by
      apply Classical.byContradiction
      intro hno
      apply e
      refine nQ (fun v hv=>?_) (hm j)
      cases hc:(f j).testBit v
      ·exact absurd ⟨v,hv,hc⟩ hno
      ·rfl
     obtain ⟨v,h1,h2⟩:=this
     have:=Ar (hm j) h1 h2 n (oV (hb _) h1)
     omega
   ·exact .inr (hs j ih)
 rcases key n with h | h
 ·have hc:bct (f n) n=n:=by have:=wG (f n) n;omega
  refine nQ (fun v hv=>?_) (hm n)
  exact vW n hc v (oV (hb _) hv)
 ·exact h
theorem Bh {a b n:Nat}(h:a<2 ^ n)(h':b<2 ^ n):a ||| b<2 ^ n:=Nat.or_lt_two_pow h h'
theorem mL {v:Nat}(hp:∀x∈p,x<2 ^ p.length):Par p v<2 ^ p.length:=by
 unfold Par
 cases h:p[v]? with
 | none=>exact Nat.pow_pos (by decide)
 | some x=>exact hp x (List.mem_of_getElem? h)
theorem oE (hp:∀x∈p,x<2 ^ p.length){s:Nat}(hs:s<2 ^ p.length):∀j,S.au p s j<2 ^ p.length
 | 0=>hs
 | j+1=>by
  have ih:=oE hp hs j
  rw[dx]
  split
  ·exact Bh ih (mL hp)
  ·exact ih
theorem td (hp:∀x∈p,x<2 ^ p.length){s:Nat}(hs:s<2 ^ p.length):∀j,S.up p s j<2 ^ p.length
 | 0=>hs
 | j+1=>by rw[gC];exact oE hp (td hp hs j) _
theorem om (hp:∀x∈p,x<2 ^ p.length){s:Nat}(hs:s<2 ^ p.length):Cl p (S.up p s p.length):=by
 apply yZ
 rw[<-gC]
 exact Eh (f:=fun j=>S.up p s j) (fun j=>by rw[gC];exact jz _ _) (fun j=>td hp hs j) (fun j e=>by
  have e:S.up p s (j+1)=S.up p s j:=e
  show S.up p s (j+1+1)=S.up p s (j+1)
  rw[gC,e,<-gC,e])
theorem pD {s:Nat}:∀j,Sub s (S.up p s j)
 | 0=>fun _ h=>h
 | j+1=>fun v hv=>by rw[gC];exact jz _ _ v (pD j v hv)
end
end Hx
end
section
namespace Hx
open Go
noncomputable section
def Raw (w:AV):Prop:=w=.nils\/∃rows,w=.tsl 0 1 rows
theorem zC (z:AV)(k k' k2:IntKind)(x y w:Int)(g:G):B1 1 3 [z] [0,1,2] [.int k x,.int k' y,.int k2 w] g=.upd (.hsl g.nx 0 0 3 none) (g.new (.cells 1 [[.int k x],[.int k' y],[.int k2 w]] 0 false false)):=rfl
theorem wP {g:G}{b sz:Nat}{u:AV}{rows:List (List AV)}(hu:Own g b u sz rows){n:Nat}(hn:n<=rows.length) :
  ∃y,uf sz u none (some (.int .i64 (n:Int))) g=.val y/\aw g.h sz y=some (rows.take n):=by
 rcases hu with ⟨rfl,rfl⟩ | ⟨id,ep,lo,h1,h2,rfl,h3⟩
 ·have:n=0:=by simpa using hn
  subst this
  exact ⟨.nils,rfl,rfl⟩
 ·simp only[uf,jB,h3,Nat.beq_refl,Nat.beq_refl,Bool.true_and,am,Nat.zero_add,aa,Nat.ble_eq,Nat.le_refl,if_true,aO,Option.getD_none,Nat.sub_zero]
  simp only[eJ]
  rw[show af (n.ble rows.length) (some n) none=some n from by rw[aa,if_pos (by simpa using hn)]]
  dsimp only
  by_cases h0:rows=[]
  ·subst h0
   have:n=0:=by simpa using hn
   subst this
   cases lo
   ·exact ⟨_,rfl,rfl⟩
   ·exact ⟨_,rfl,jA _ _ _ _⟩
  ·have hb:rows.length.beq 0=false:=by cases rows with | nil=>exact absurd rfl h0 | cons a l=>rfl
   rw[hb]
   refine ⟨_,rfl,?_⟩
   rw[fu,h3,cR,if_pos (by omega),List.drop_zero]
theorem vY {g:G}{b sz:Nat}{u:AV}{rows:List (List AV)}(hu:Own g b u sz rows){n:Nat}(hn:n<=rows.length) :
  ∃y,uf sz u (some (.int .i64 (n:Int))) none g=.val y/\aw g.h sz y=some (rows.drop n):=by
 rcases hu with ⟨rfl,rfl⟩ | ⟨id,ep,lo,h1,h2,rfl,h3⟩
 ·have:n=0:=by simpa using hn
  subst this
  exact ⟨.nils,rfl,rfl⟩
 ·simp only[uf,jB,h3,Nat.beq_refl,Nat.beq_refl,Bool.true_and,am,Nat.zero_add,aa,Nat.ble_eq,Nat.le_refl,if_true,aO,Option.getD_none,Nat.sub_zero]
  simp only[eJ]
  rw[show af (n.ble rows.length) (some n) none=some n from by rw[aa,if_pos (by simpa using hn)]]
  dsimp only
  by_cases h0:rows.length=n
  ·subst h0
   rw[if_pos (Nat.beq_refl _),List.drop_length]
   cases lo
   ·exact ⟨_,rfl,rfl⟩
   ·exact ⟨_,rfl,jA _ _ _ _⟩
  ·rw[if_neg (fun e=>h0 (Nat.eq_of_beq_eq_true e))]
   refine ⟨_,rfl,?_⟩
   rw[fu,h3,cR,if_pos (by omega),List.take_of_length_le (by simp)]
def S.aO (os:List UInt8)(k:Nat):Nat:=if k<os.length then ((os[k]?.map UInt8.toNat).getD 0) % (k+1) else 0
def S.ap (os:List UInt8):Nat->List Int
 | 0=>[]
 | k+1=>(S.ap os k).take (S.aO os k)++(k:Int)::(S.ap os k).drop (S.aO os k)
theorem kW (os:List UInt8):∀k,(S.ap os k).length=k
 | 0=>rfl
 | k+1=>by simp only[S.ap,List.length_append,List.length_cons,List.length_take,List.length_drop,kW os k];omega
def S.bi (cards:List Int):List Int->Nat->List Int×Bool
 | vals,0=>(vals,false)
 | vals,k+1=>if (vals[k]?.getD 0)+1<(cards[k]?.getD 0) then (vals.set k ((vals[k]?.getD 0)+1),true) else S.bi cards (vals.set k 0) k
def S.bg (cards vals:List Int):List Int×Bool:=S.bi cards vals vals.length
def S.bf (cards:List Int):Nat->List Int->List (List Int)
 | 0,_=>[]
 | f+1,v=>v::(if (S.bg cards v).2 then S.bf cards f (S.bg cards v).1 else [])
def S.bO (cards:List Int):List (List Int):=S.bf cards (S.aH cards).toNat (List.replicate cards.length 0)
def S.bF (l:List Int)(h:Int):Int:=l.foldr (fun c q=>q / c) h
def S.bB (l:List Int)(h:Int)(i:Nat):Int:=S.bF (l.drop (i+1)) h % l[i]?.getD 1
def S.bh (l:List Int)(h:Int):List Int:=(List.range l.length).map (S.bB l h)
def S.a7:List Int->List Int->Int
 | _::cs,v::vs=>v*S.aH cs+S.a7 cs vs
 | _,_=>0
def InC (cards vals:List Int):Prop:=All2 (fun c v=>(0:Int)<=v/\v<c) cards vals
theorem InC.drop:∀{cards vals:List Int} (j:Nat),InC cards vals->InC (cards.drop j) (vals.drop j)
 | _,_,0,h=>h
 | [],[],j+1,_=>trivial
 | _::_,_::_,j+1,h=>InC.drop j h.2
 | [],_::_,_,h=>h.elim
 | _::_,[],_,h=>h.elim
theorem InC.len {cards vals:List Int}(h:InC cards vals):vals.length=cards.length:=(All2.len h).symm
end
end Hx
end
section
namespace Hx
open Go
def S.bN (x:Mech)(roots:List Int)(V:Nat->Int):List Int:=(x.frm.map fun q=>V q.toNat)++(x.noise.map fun r=>roots[r.toNat]?.getD 0)
def S.bI (m:Causal)(roots act:List Int)(V:Nat->Int)(i:Nat)(x:Mech):Int:=if 0<=act[i]?.getD 0 then act[i]?.getD 0 else x.out[(S.a7 (S.bA m x) (S.bN x roots V)).toNat]?.getD 0
def Sol (m:Causal)(roots act:List Int)(V:Nat->Int):Prop:=∀(i:Nat) (x:Mech),m.nodes[i]?=some x->V i=S.bI m roots act V i x
noncomputable def S.V (m:Causal)(roots act:List Int):Nat->Int:=Classical.epsilon (Sol m roots act)
noncomputable def S.bP (m:Causal)(roots act:List Int):List Int:=(List.range m.nodes.length).map (S.V m roots act)
theorem InC.get {cards vals:List Int}(h:InC cards vals){i:Nat}{c:Int}(hc:cards[i]?=some c):∃v,vals[i]?=some v/\0<=v/\v<c:=All2.get h hc
end Hx
end
section
namespace Hx
open Go
noncomputable section
def hz (cs vs:List Int)(j:Nat):Int:=((cs.zip vs).take j).foldl (fun a p=>a*p.1+p.2) 0
theorem InC.take {cards vals:List Int}(h:InC cards vals)(j:Nat):InC (cards.take j) (vals.take j):=All2.take h j
def Frm (g0 g:G)(iu:Nat):Prop:=g0.nx<=g.nx/\(∀j,j<g0.nx->j≠iu->g.h.get j=g0.h.get j)/\∀j∈g.lg,j∈g0.lg\/j=iu\/g0.nx<=j
theorem Frm.refl (g:G)(iu:Nat):Frm g g iu:=⟨Nat.le_refl _,fun _ _ _=>rfl,fun _ h=>.inl h⟩
theorem Frm.trans {g0 g1 g2:G}{iu:Nat}(h:Frm g0 g1 iu)(h':Frm g1 g2 iu):Frm g0 g2 iu :=
 ⟨Nat.le_trans h.1 h'.1,fun j hj hne=>by rw[h'.2.1 j (Nat.lt_of_lt_of_le hj h.1) hne,h.2.1 j hj hne],fun j hj=>by
  rcases h'.2.2 j hj with h2 | h2 | h2
  ·exact h.2.2 j h2
  ·exact .inr (.inl h2)
  ·exact .inr (.inr (Nat.le_trans h.1 h2))⟩
theorem Frm.new (g:G)(o:AObj)(iu:Nat):Frm g (g.new o) iu :=
 ⟨by simp,fun j hj _=>by rw[G.new_h,bO _ _ _ (by omega)],fun j hj=>by simp at hj;rcases hj with rfl | hj;exact .inr (.inr (Nat.le_refl _));exact .inl hj⟩
theorem Frm.same {g0 g g':G}{iu:Nat}(h:Frm g0 g iu)(hh:g'.h=g.h)(hn:g.nx<=g'.nx)(hl:∀j∈g'.lg,j∈g.lg\/j∈g0.lg):Frm g0 g' iu :=
 ⟨Nat.le_trans h.1 hn,fun j hj hne=>by rw[hh];exact h.2.1 j hj hne,fun j hj=>by
  rcases hl j hj with h2 | h2
  ·exact h.2.2 j h2
  ·exact .inl h2⟩
def Keep (L L':List Int):Prop:=∀j:Nat,0<=L[j]?.getD 0->L'[j]?.getD 0=L[j]?.getD 0
theorem Keep.refl (L:List Int):Keep L L:=fun _ _=>rfl
theorem Keep.trans {L L' L'':List Int}(h:Keep L L')(h':Keep L' L''):Keep L L'':=fun j hj=>by rw[h' j (by rw[h j hj];exact hj),h j hj]
section
variable {d k:Nat}{m:Causal}{roots act:List Int}{V:Nat->Int}{a b w u:AV}{p1 p2 p3 p4 iu:Nat}{hid:Int}{r:Nat->Nat}
end
end
end Hx
end
section
namespace Hx
open Go
noncomputable section
theorem z7 (ag:Bool)(n l sz off:Nat)(row:List AV)(g:G):iY ag n (.tptr l sz [row] 0 off) g=orV (bi ag n row off):=rfl
section
variable {d:Nat}{m:Causal}{a b:AV}
end
end
end Hx
end
section
namespace Hx
open Go
noncomputable section
theorem oS {C:Cfg}{d:Nat}{r:List SR}{t:T}{g:G}{K:AV->G->Prop}{id:Nat}(hg:g.h.get id=.dfr true)(h:nh r t (g.put id (.dfr false)) fun vs=>K (dS vs) (g.put id (.dfr false))):mK C d r t [.mark id] g K:=by
 unfold mK
 have:cJ (I C) d [.mark id] g=some (g.put id (.dfr false)):=by
  simp only[cJ,G.get_eq,hg]
 rw[this];exact h
def Dl {α:Type}(f:Nat->α)(k:Nat)(x:α):Nat->α:=fun j=>if j=k then x else f j
theorem lD {α:Type}(f:Nat->α)(k:Nat)(x:α):Dl f k x k=x:=if_pos rfl
theorem m8 {α:Type}(f:Nat->α){k j:Nat}(x:α)(h:j≠k):Dl f k x j=f j:=if_neg h
def Fam (g:G)(b K:Nat)(V:Nat->AV)(W:Nat->List (List AV)):Prop :=
 (∀k,k<K->Own g b (V k) 1 (W k))/\∀k l,k<K->l<K->k≠l->∀id,vid (V k)=some id->vid (V l)≠some id
theorem Fam.step {g g':G}{b K:Nat}{V:Nat->AV}{W:Nat->List (List AV)}(h:Fam g b K V W)(hn:g.nx<=g'.nx)(hf:∀i,b<=i->i<g.nx->g'.h.get i=g.h.get i):Fam g' b K V W :=
 ⟨fun k hk=>(h.1 k hk).fr hn fun i hi=>hf i ((h.1 k hk).lt hi).1 ((h.1 k hk).lt hi).2,h.2⟩
theorem Fam.set {g g':G}{b K:Nat}{V:Nat->AV}{W:Nat->List (List AV)}(h:Fam g b K V W){k:Nat}{v':AV}{rows':List (List AV)}(ho:Own g' b v' 1 rows')(hn:g.nx<=g'.nx)
  (hf:∀i,b<=i->i<g.nx->vid (V k)≠some i->g'.h.get i=g.h.get i) (hk:k<K) (hv:vid v'=vid (V k)\/∃i,vid v'=some i/\g.nx<=i):Fam g' b K (Dl V k v') (Dl W k rows'):=by
 refine ⟨fun j hj=>?_,fun j l hj hl hne id e1 e2=>?_⟩
 ·by_cases e:j=k
  ·subst e;rw[lD,lD];exact ho
  ·rw[m8 _ _ e,m8 _ _ e]
   exact (h.1 j hj).fr hn fun i hi=>hf i ((h.1 j hj).lt hi).1 ((h.1 j hj).lt hi).2 fun e2=>h.2 j k hj hk e i hi e2
 ·have key:∀j,j<K->j≠k->∀id,vid (V j)=some id->vid v'≠some id:=fun j hj hne id e1 e2=>by
   rcases hv with hv | ⟨i,hv,hi⟩
   ·exact h.2 j k hj hk hne id e1 (hv ▸ e2)
   ·rw[hv] at e2;injection e2 with e2;have:=((h.1 j hj).lt e1).2;omega
  by_cases a:j=k
  ·subst a
   rw[lD] at e1
   rw[m8 _ _ (Ne.symm hne)] at e2
   exact key l hl (Ne.symm hne) id e2 e1
  ·rw[m8 _ _ a] at e1
   by_cases c:l=k
   ·subst c;rw[lD] at e2;exact key j hj a id e1 e2
   ·rw[m8 _ _ c] at e2;exact h.2 j l hj hl hne id e1 e2
def Fv (c:Nat->Int)(V:Nat->AV)(i:Nat):List AV:=[.int .i64 (c i),V (3*i+1),V (3*i+2),V (3*i+3)]
def BS (n:Nat)(c:Nat->Int)(V:Nat->AV):List (List AV):=(List.range n).map (Fv c V)
structure ME where
 (n p4 q i5 p7 i9 b:Nat)
 (nv w5 w9 e7:AV)
 (gr:Int)
 (row0:List AV)
 (prow:List (List AV))
 (us:List UInt8)
structure ME.Ok (e:ME):Prop where
 ord:1<e.q/\e.q<e.p4/\e.p4<e.i5/\e.i5<e.p7/\e.p7<e.i9/\e.i9<e.b
 n1:1<=e.n/\e.n<=4
 g1:2<=e.gr/\e.gr<=12
 vn:vid e.nv=some e.q
 v5:vid e.w5=some e.i5
 v9:vid e.w9=some e.i9
 l7:SlR NoP 0 .nil e.us e.e7
structure MI (e:ME) (g:G) (V:Nat->AV) (W:Nat->List (List AV)) (c:Nat->Int) (ow:List Bool) (cap:Nat):Prop where
 h0:g.h.get 0=.cells 5 [e.row0] 0 false false
 h1:g.h.get 1=.cells 3 [[.int .i64 0,.nils,.nils]] 0 false false
 hN:Own g 0 e.nv 4 (BS e.n c V)
 h4:g.h.get e.p4=.cells 3 [[.int .i64 e.gr,V 0,e.nv]] 0 false false
 h5:Own g 0 e.w5 4 e.prow
 h7:∃cc:Int,0<=cc/\cc<=(cap:Int)/\g.h.get e.p7=.cells 2 [[e.e7,.int .i64 cc]] 0 false false
 h9:Own g 0 e.w9 1 (ow.map fun x=>[.bool x])
 fam:Fam g e.b (3*e.n+1) V W
 nx:e.b<=g.nx
section
variable {e:ME}{g g':G}{V:Nat->AV}{W:Nat->List (List AV)}{c:Nat->Int}{ow:List Bool}{cap:Nat}
theorem tN {v:AV}{i j:Nat}(h:vid v=some i)(h':vid v=some j):i=j:=by rw[h] at h';injection h'
theorem MI.step (h:MI e g V W c ow cap)(he:e.Ok)(hn:g.nx<=g'.nx)(hf:∀i,i<g.nx->g'.h.get i=g.h.get i):MI e g' V W c ow cap:=by
 have hb:=h.nx
 have ho:=he.ord
 exact { h0:=by rw[hf 0 (by omega),h.h0],h1:=by rw[hf 1 (by omega),h.h1],hN:=h.hN.fr hn fun i hi=>hf i (h.hN.lt hi).2,h4:=by rw[hf _ (by omega),h.h4]
         h5:=h.h5.fr hn fun i hi=>hf i (h.h5.lt hi).2,h7:=by obtain ⟨cc,a1,a2,a3⟩:=h.h7;exact ⟨cc,a1,a2,by rw[hf _ (by omega),a3]⟩
         h9:=h.h9.fr hn fun i hi=>hf i (h.h9.lt hi).2,fam:=h.fam.step hn fun i _ hi=>hf i hi,nx:=by omega }
theorem MI.same (h:MI e g V W c ow cap)(he:e.Ok)(hf:g'.h=g.h)(hn:g.nx<=g'.nx):MI e g' V W c ow cap:=h.step he hn fun i _=>by rw[hf]
structure MP (e:ME) (g:G) (V V':Nat->AV) (W:Nat->List (List AV)) (c:Nat->Int) (ow:List Bool) (cap:Nat):Prop where
 h0:g.h.get 0=.cells 5 [e.row0] 0 false false
 h1:g.h.get 1=.cells 3 [[.int .i64 0,.nils,.nils]] 0 false false
 hN:Own g 0 e.nv 4 (BS e.n c V)
 h4:g.h.get e.p4=.cells 3 [[.int .i64 e.gr,V 0,e.nv]] 0 false false
 h5:Own g 0 e.w5 4 e.prow
 h7:∃cc:Int,0<=cc/\cc<=(cap:Int)/\g.h.get e.p7=.cells 2 [[e.e7,.int .i64 cc]] 0 false false
 h9:Own g 0 e.w9 1 (ow.map fun x=>[.bool x])
 fam:Fam g e.b (3*e.n+1) V' W
 nx:e.b<=g.nx
theorem MP.step {V':Nat->AV}(h:MP e g V V' W c ow cap)(he:e.Ok)(hn:g.nx<=g'.nx)(hf:∀i,i<g.nx->g'.h.get i=g.h.get i):MP e g' V V' W c ow cap:=by
 have hb:=h.nx
 have ho:=he.ord
 exact { h0:=by rw[hf 0 (by omega),h.h0],h1:=by rw[hf 1 (by omega),h.h1],hN:=h.hN.fr hn fun i hi=>hf i (h.hN.lt hi).2,h4:=by rw[hf _ (by omega),h.h4]
         h5:=h.h5.fr hn fun i hi=>hf i (h.h5.lt hi).2,h7:=by obtain ⟨cc,a1,a2,a3⟩:=h.h7;exact ⟨cc,a1,a2,by rw[hf _ (by omega),a3]⟩
         h9:=h.h9.fr hn fun i hi=>hf i (h.h9.lt hi).2,fam:=h.fam.step hn fun i _ hi=>hf i hi,nx:=by omega }
theorem MP.same {V':Nat->AV}(h:MP e g V V' W c ow cap)(he:e.Ok)(hf:g'.h=g.h)(hn:g.nx<=g'.nx):MP e g' V V' W c ow cap:=h.step he hn fun i _=>by rw[hf]
theorem MI.mp (h:MI e g V W c ow cap):MP e g V V W c ow cap:=⟨h.h0,h.h1,h.hN,h.h4,h.h5,h.h7,h.h9,h.fam,h.nx⟩
theorem MI.own (h:MI e g V W c ow cap)(he:e.Ok){ow':List Bool}(h9:Own g' 0 e.w9 1 (ow'.map fun x=>[.bool x]))(hn:g.nx<=g'.nx)
  (hf:∀i,vid e.w9≠some i->g'.h.get i=g.h.get i):MI e g' V W c ow' cap:=by
 have ho:=he.ord
 have hb:=h.nx
 have hf':∀i,i≠e.i9->g'.h.get i=g.h.get i:=fun i hi=>hf i (by rw[he.v9];intro e;injection e with e;exact hi e.symm)
 exact { h0:=by rw[hf' 0 (by omega),h.h0],h1:=by rw[hf' 1 (by omega),h.h1],hN:=h.hN.fr (by omega) fun i hi=>hf' i (by have:=tN he.vn hi;omega),h4:=by rw[hf' _ (by omega),h.h4]
         h5:=h.h5.fr (by omega) fun i hi=>hf' i (by have:=tN he.v5 hi;omega),h7:=by obtain ⟨cc,a1,a2,a3⟩:=h.h7;exact ⟨cc,a1,a2,by rw[hf' _ (by omega),a3]⟩
         h9:=h9,fam:=h.fam.step (by omega) fun i hi _=>hf' i (by omega),nx:=by omega }
end
end
end Hx
end
section
namespace Hx
open Go
noncomputable section
structure MD (e:ME) (W:Nat->List (List AV)) (R:List (List Int)) (F N O:Nat->List Int):Prop where
 r:All2 (Rp.rp NoP 0 .nil) R (W 0)
 f:∀i,i<e.n->W (3*i+1)=(F i).map ci
 n:∀i,i<e.n->W (3*i+2)=(N i).map ci
 o:∀i,i<e.n->W (3*i+3)=(O i).map ci
theorem MD.len {e:ME}{W:Nat->List (List AV)}{R:List (List Int)}{F N O:Nat->List Int}(h:MD e W R F N O):(W 0).length=R.length:=h.r.len.symm
theorem gQ {α β γ:Type}{R:β->γ->Prop}{f:α->β}{h:α->γ}:∀{l:List α},(∀x∈l,R (f x) (h x))->All2 R (l.map f) (l.map h)
 | [],_=>trivial
 | a::l,hl=>⟨hl a (by simp),gQ fun x hx=>hl x (by simp[hx])⟩
def mkM (e:ME)(c:Nat->Int)(R:List (List Int))(F N O:Nat->List Int):Causal:=⟨e.gr,R,(List.range e.n).map fun i=>⟨c i,F i,N i,O i⟩⟩
theorem MI.agg {e:ME}{g:G}{V:Nat->AV}{W:Nat->List (List AV)}{c:Nat->Int}{ow:List Bool}{cap:Nat}{R:List (List Int)}{F N O:Nat->List Int}(h:MI e g V W c ow cap)(he:e.Ok)(hD:MD e W R F N O)
  (hR:R.length<=1000) (hl:∀i,i<e.n->(F i).length<=1000000000/\(N i).length<=1000000000/\(O i).length<=1000000000):Agg (mkM e c R F N O) (fun i=>1<i) 0 g.h (.agg [.int .i64 e.gr,V 0,e.nv]):=by
 have hn:=he.n1
 have hoo:=he.ord
 refine ⟨_,rfl,zA.2 ⟨V 0,e.nv,rfl,?_,?_⟩⟩
 ·exact Own.sl (α:=List Int) (h.fam.1 0 (by omega)) (by show R.length<_;omega) (hD.r.mono fun a b r=>Rp.tree r (Nat.le_refl _)) fun i hi=>by have:=((h.fam.1 0 (by omega)).lt hi).1;omega
 ·refine Own.sl (α:=Mech) h.hN (by simp[mkM];omega) ?_ fun i hi=>by have:=tN he.vn hi;omega
  refine gQ fun i hi=>?_
  have hi:i<e.n:=List.mem_range.1 hi
  obtain ⟨l1,l2,l3⟩:=hl i hi
  refine xE.2 ⟨_,_,_,rfl,?_,?_,?_⟩
  ·have:=h.fam.1 (3*i+1) (by omega)
   rw[hD.f i hi] at this
   exact Own.sl (α:=Int) this (by show (F i).length<_;omega) (All2.of_map (fun a=>bz.2 rfl) _) fun i hi=>by have:=(this.lt hi).1;omega
  ·have:=h.fam.1 (3*i+2) (by omega)
   rw[hD.n i hi] at this
   exact Own.sl (α:=Int) this (by show (N i).length<_;omega) (All2.of_map (fun a=>bz.2 rfl) _) fun i hi=>by have:=(this.lt hi).1;omega
  ·have:=h.fam.1 (3*i+3) (by omega)
   rw[hD.o i hi] at this
   exact Own.sl (α:=Int) this (by show (O i).length<_;omega) (All2.of_map (fun a=>bz.2 rfl) _) fun i hi=>by have:=(this.lt hi).1;omega
theorem SlR.wide {α:Type} [Rp α]{P:Nat->Prop}{k k':Nat}{h h':H}{l:List α}{v:AV}(r:SlR NoP k h l v)(hk:k<=k'):SlR P k' h' l v:=by
 obtain ⟨w,hw,q⟩:=Rp.tree (P:=P) (k':=k') (h':=h') (show Rp.rp NoP k h l [v] from ⟨v,rfl,r⟩) hk
 injection hw with hw;subst hw;exact q
structure M0 (n p4 q i5 p7:Nat) (nv w5 cl:AV) (row0:List AV) (prow:List (List AV)) (gr:Int) (g:G) (cf:Nat->Int):Prop where
 h0:g.h.get 0=.cells 5 [row0] 0 false false
 h1:g.h.get 1=.cells 3 [[.int .i64 0,.nils,.nils]] 0 false false
 hN:Own g 2 nv 4 (BS n cf fun _=>.nils)
 h4:g.h.get p4=.cells 3 [[.int .i64 gr,.nils,nv]] 0 false false
 h5:Own g 2 w5 4 prow
 h7:g.h.get p7=.cells 2 [[cl,.int .i64 0]] 0 false false
 nx:p7<g.nx
section
variable {n p4 q i5 p7:Nat}{nv w5 cl:AV}{row0:List AV}{prow:List (List AV)}{gr:Int}{g g':G}{cf cf':Nat->Int}
theorem M0.same (h:M0 n p4 q i5 p7 nv w5 cl row0 prow gr g cf)(hf:g'.h=g.h)(hn:g.nx<=g'.nx):M0 n p4 q i5 p7 nv w5 cl row0 prow gr g' cf :=
 { h0:=by rw[hf,h.h0],h1:=by rw[hf,h.h1],hN:=h.hN.fr hn fun i _=>by rw[hf],h4:=by rw[hf,h.h4],h5:=h.h5.fr hn fun i _=>by rw[hf],h7:=by rw[hf,h.h7],nx:=by have:=h.nx;omega }
end
end
end Hx
end
section
namespace Hx
open Go
noncomputable section
def eid:AV->Option Nat
 | .hsl id _ _ _ _=>some id
 | .hptr id _ _ _=>some id
 | _=>none
def Bx (g:G)(b:Nat)(v:AV)(row:List AV):Prop:=∃id,b<=id/\id<g.nx/\v=.hptr id 0 0 0/\g.h.get id=.cells row.length [row] 0 false false
inductive En where
 | sl (sz:Nat) (rows:List (List AV))
 | bx (row:List AV)
def En.ok (g:G)(b:Nat)(v:AV):En->Prop
 | .sl sz rows=>Own g b v sz rows
 | .bx row=>Bx g b v row
theorem iJ {g:G}{b:Nat}{v:AV}{sz:Nat}{rows:List (List AV)}(h:Own g b v sz rows):eid v=vid v:=by
 rcases h with ⟨rfl,-⟩ | ⟨id,ep,lo,h1,h2,rfl,h3⟩<;>rfl
theorem En.lt {g:G}{b:Nat}{v:AV}{e:En}(h:e.ok g b v){i:Nat}(hi:eid v=some i):b<=i/\i<g.nx:=by
 cases e with
 | sl sz rows =>
  have h:Own g b v sz rows:=h
  rw[iJ h] at hi;exact h.lt hi
 | bx row =>
  obtain ⟨id,h1,h2,rfl,h3⟩:=h
  injection hi with hi;subst hi;exact ⟨h1,h2⟩
theorem En.fr {g g':G}{b:Nat}{v:AV}{e:En}(h:e.ok g b v)(hn:g.nx<=g'.nx)(hf:∀i,eid v=some i->g'.h.get i=g.h.get i):e.ok g' b v:=by
 cases e with
 | sl sz rows =>
  have h:Own g b v sz rows:=h
  exact h.fr hn fun i hi=>hf i (by rw[iJ h];exact hi)
 | bx row =>
  obtain ⟨id,h1,h2,rfl,h3⟩:=h
  exact ⟨id,h1,by omega,rfl,by rw[hf id rfl,h3]⟩
section
variable {κ:Type}
structure Hp (g:G) (b:Nat) (L:κ->Prop) (V:κ->AV) (E:κ->En):Prop where
 ok:∀k,L k->(E k).ok g b (V k)
 sep:∀k l,L k->L l->k≠l->∀id,eid (V k)=some id->eid (V l)≠some id
 nx:b<=g.nx
variable {g g':G}{b:Nat}{L L':κ->Prop}{V:κ->AV}{E:κ->En}{k:κ}
theorem Hp.sub (h:Hp g b L V E)(hl:∀k,L' k->L k):Hp g b L' V E:=⟨fun k hk=>h.ok k (hl k hk),fun k l hk hl2=>h.sep k l (hl k hk) (hl l hl2),h.nx⟩
theorem Hp.step (h:Hp g b L V E)(hn:g.nx<=g'.nx)(hf:∀i,b<=i->i<g.nx->g'.h.get i=g.h.get i):Hp g' b L V E :=
 ⟨fun k hk=>En.fr (h.ok k hk) hn fun i hi=>hf i (En.lt (h.ok k hk) hi).1 (En.lt (h.ok k hk) hi).2,h.sep,Nat.le_trans h.nx hn⟩
theorem Hp.same (h:Hp g b L V E)(hf:g'.h=g.h)(hn:g.nx<=g'.nx):Hp g' b L V E:=h.step hn fun i _ _=>by rw[hf]
theorem Hp.own (h:Hp g b L V E)(hk:L k){sz:Nat}{rows:List (List AV)}(he:E k=.sl sz rows):Own g b (V k) sz rows:=by
 have:=h.ok k hk;rw[he] at this;exact this
theorem Hp.box (h:Hp g b L V E)(hk:L k){row:List AV}(he:E k=.bx row):Bx g b (V k) row:=by
 have:=h.ok k hk;rw[he] at this;exact this
end
section
variable {κ:Type} [DecidableEq κ]
def ups {α:Type}(f:κ->α)(k:κ)(x:α):κ->α:=fun j=>if j=k then x else f j
theorem cw {α:Type}(f:κ->α)(k:κ)(x:α):ups f k x k=x:=if_pos rfl
theorem cW {α:Type}(f:κ->α){k j:κ}(x:α)(h:j≠k):ups f k x j=f j:=if_neg h
theorem EY {α:Type}{f:κ->α}{k:κ}{x:α}(h:f k=x):ups f k x=f:=by
 funext j;by_cases e:j=k
 ·subst e;rw[cw,h]
 ·exact cW _ _ e
variable {g g':G}{b:Nat}{L L':κ->Prop}{V:κ->AV}{E:κ->En}{k:κ}
theorem Hp.set (h:Hp g b L V E){v':AV}{e':En}(hk:L k)(ho:e'.ok g' b v')(hn:g.nx<=g'.nx)(hf:∀i,b<=i->i<g.nx->eid (V k)≠some i->g'.h.get i=g.h.get i)
  (hv:eid v'=eid (V k)\/∃i,eid v'=some i/\g.nx<=i):Hp g' b L (ups V k v') (ups E k e'):=by
 refine ⟨fun j hj=>?_,fun j l hj hl hne id e1 e2=>?_,Nat.le_trans h.nx hn⟩
 ·by_cases e:j=k
  ·subst e;rw[cw,cw];exact ho
  ·rw[cW _ _ e,cW _ _ e]
   exact En.fr (h.ok j hj) hn fun i hi=>hf i (En.lt (h.ok j hj) hi).1 (En.lt (h.ok j hj) hi).2 fun e2=>h.sep j k hj hk e i hi e2
 ·have key:∀j,L j->j≠k->∀id,eid (V j)=some id->eid v'≠some id:=fun j hj hne id e1 e2=>by
   rcases hv with hv | ⟨i,hv,hi⟩
   ·exact h.sep j k hj hk hne id e1 (hv ▸ e2)
   ·rw[hv] at e2;injection e2 with e2;have:=(En.lt (h.ok j hj) e1).2;omega
  by_cases a:j=k
  ·subst a
   rw[cw] at e1
   rw[cW _ _ (Ne.symm hne)] at e2
   exact key l hl (Ne.symm hne) id e2 e1
  ·rw[cW _ _ a] at e1
   by_cases c:l=k
   ·subst c;rw[cw] at e2;exact key j hj a id e1 e2
   ·rw[cW _ _ c] at e2;exact h.sep j l hj hl hne id e1 e2
theorem Hp.add (h:Hp g b L V E){v':AV}{e':En}(hk:¬L k)(ho:e'.ok g' b v')(hn:g.nx<=g'.nx)(hf:∀i,b<=i->i<g.nx->g'.h.get i=g.h.get i)
  (hv:∀i,eid v'=some i->g.nx<=i) (hl:∀j,L' j->L j\/j=k):Hp g' b L' (ups V k v') (ups E k e'):=by
 refine ⟨fun j hj=>?_,fun j l hj hl2 hne id e1 e2=>?_,Nat.le_trans h.nx hn⟩
 ·rcases hl j hj with hj | rfl
  ·have e:j≠k:=fun e=>hk (e ▸ hj)
   rw[cW _ _ e,cW _ _ e]
   exact En.fr (h.ok j hj) hn fun i hi=>hf i (En.lt (h.ok j hj) hi).1 (En.lt (h.ok j hj) hi).2
  ·rw[cw,cw];exact ho
 ·have key:∀j,L j->∀id,eid (V j)=some id->eid v'≠some id:=fun j hj id e1 e2=>by
   have:=hv id e2;have:=(En.lt (h.ok j hj) e1).2;omega
  rcases hl j hj with hj | rfl
  ·have e:j≠k:=fun e=>hk (e ▸ hj)
   rw[cW _ _ e] at e1
   rcases hl l hl2 with hl2 | rfl
   ·have e':l≠k:=fun e=>hk (e ▸ hl2)
    rw[cW _ _ e'] at e2
    exact h.sep j l hj hl2 hne id e1 e2
   ·rw[cw] at e2;exact key j hj id e1 e2
  ·rw[cw] at e1
   rcases hl l hl2 with hl2 | rfl
   ·have e':l≠j:=fun e=>hne e.symm
    rw[cW _ _ e'] at e2
    exact key l hl2 id e2 e1
   ·exact hne rfl
theorem Own.new {g:G}{b:Nat}(hb:b<=g.nx)(sz:Nat)(rows:List (List AV)):Own (g.new (.cells sz rows 0 false false)) b (.hsl g.nx 0 0 rows.length none) sz rows :=
 .inr ⟨g.nx,0,false,hb,by simp,rfl,by simp[di]⟩
theorem Hp.app (h:Hp g b L V E)(hk:L k){sz bytes:Nat}{rows new:List (List AV)}(he:E k=.sl sz rows){x:AV}{K:AV->G->Prop}{D:ADf->Prop}(hx:aw g.h sz x=some new)
  (hr:(rows.length+new.length)*bytes<=dB)
  (kk:∀v' g',Hp g' b L (ups V k v') (ups E k (.sl sz (rows++new)))->g.nx<=g'.nx->(∀i,i<b->g'.h.get i=g.h.get i)->(∀i,i<g.nx->eid (V k)≠some i->g'.h.get i=g.h.get i)->(∀i∈g'.lg,i∈g.lg\/b<=i)->v'.cells=[v']->v'.isTup=false->K v' g') :
  (gH sz bytes (V k) x g).sat K g D:=by
 have ho:=h.own hk he
 refine bP ho hx h.nx hr fun v' g' hv' hn hf hvid hlg=>?_
 refine kk v' g' (h.set hk (e':=.sl sz (rows++new)) hv' hn (fun i _ hi hne=>hf i hi (by rw[<-iJ ho];exact hne)) ?_) hn (fun i hi=>hf i (Nat.lt_of_lt_of_le hi h.nx) fun e=>by have:=(ho.lt e).1;omega)
  (fun i hi hne=>hf i hi (by rw[<-iJ ho];exact hne)) hlg hv'.cell.1 hv'.cell.2
 rw[iJ hv',iJ ho];exact hvid
theorem Hp.put (h:Hp g b L V E)(hk:L k){sz n i off:Nat}{rows:List (List AV)}{row row':List AV}(he:E k=.sl sz rows){x:AV}{K:AV->G->Prop}{D:ADf->Prop}(hr:rows[i]?=some row)
  (hl:x.cells.length=n) (ht:x.isTup=false) (hp:bJ row off x.cells=some row')
  (kk:∀g',Hp g' b L V (ups E k (.sl sz (rows.set i row')))->g'.nx=g.nx->(∀i,i<b->g'.h.get i=g.h.get i)->(∀i,eid (V k)≠some i->g'.h.get i=g.h.get i)->K .undef g'):(jS n (mM sz (V k) i off) x g).sat K g D:=by
 have ho:=h.own hk he
 refine lB ho hr hl ht hp fun g' hv' hn hf=>?_
 have:=h.set hk (e':=.sl sz (rows.set i row')) hv' (by omega) (fun i _ hi hne=>hf i (by rw[<-iJ ho];exact hne)) (.inl rfl)
 rw[EY (f:=V) rfl] at this
 exact kk g' this hn (fun i hi=>hf i fun e=>by have:=(ho.lt e).1;omega) fun i hne=>hf i (by rw[<-iJ ho];exact hne)
end
end
end Hx
end
section
namespace Hx
open Go
noncomputable section
theorem lE {C:Cfg}{d:Nat}{rd:Option Nat}{l:List SI}{b:SC}{Q:QT}{t:T}{df:List ADf}{g:G}{P:PT}(h1:wpO C d rd l P t df g)(h2:∀t df g,P t df g->wp C d rd b Q t df g):wp C d rd (.seq (.ops l) b) Q t df g:=by
 rw[qw]
 have:wp C d rd (.ops l) (fun e t df g=>e=.norm/\P t df g) t df g:=by rw[t9];simpa using h1
 refine dD _ this ?_
 rintro e t df g ⟨rfl,h⟩
 exact h2 t df g h
structure Bnd (K:Nat) (m:Causal):Prop where
 r:m.roots.length<=K
 rr:∀x∈m.roots,x.length<=K
 n:m.nodes.length<=K
 f:∀x∈m.nodes,x.frm.length<=K/\x.noise.length<=K/\x.out.length<=K
abbrev Ky:Type:=Nat×Nat
def LB (R n:Nat):Ky->Prop:=fun k=>(k.1=0/\k.2<R)\/(1<=k.1/\k.1<=3/\k.2<n)\/k=(4,0)\/k=(4,1)
structure BD (K R n:Nat) (V:Ky->AV) (E:Ky->En) (Rt:Nat->List Int) (c:Nat->Int) (F:Nat->Nat->List Int):Prop where
 r:∀i,i<R->E (0,i)=.sl 1 ((Rt i).map ci)/\(Rt i).length<=K
 f:∀q i,1<=q->q<=3->i<n->E (q,i)=.sl 1 ((F q i).map ci)/\(F q i).length<=K
 rs:E (4,0)=.sl 1 ((List.range R).map fun i=>[V (0,i)])
 ns:E (4,1)=.sl 4 ((List.range n).map fun i=>[.int .i64 (c i),V (1,i),V (2,i),V (3,i)])
def BB (g:G)(brow:List AV)(gr:Int)(a b:AV):Prop:=g.h.get 0=.cells 4 [brow] 0 false false/\g.h.get 1=.cells 3 [[.int .i64 gr,a,b]] 0 false false/\g.h.get 2=.cells 3 [[.int .i64 0,.nils,.nils]] 0 false false
theorem BB.fr {g g':G}{brow:List AV}{gr:Int}{a b:AV}(h:BB g brow gr a b)(hf:∀i,i<3->g'.h.get i=g.h.get i):BB g' brow gr a b :=
 ⟨by rw[hf 0 (by omega),h.1],by rw[hf 1 (by omega),h.2.1],by rw[hf 2 (by omega),h.2.2]⟩
structure TI (g:G) (q:Nat) (m:Causal) (k1 k2 act u1 u2 u3:AV) (A B W:List Int):Prop where
 a1:g.h.get 1=.cells 1 [[act]] 0 false false
 a2:g.h.get 2=.cells 3 [[.nils,.nils,.nils]] 0 false false
 a4:g.h.get 4=.cells 4 [[.int .i64 m.grain,k1,k2,.int .i64 (S.bj m)]] 0 false false
 bq:g.h.get q=.cells 3 [[u1,u2,u3]] 0 false false
 o1:Own g 5 u1 1 (A.map ci)
 o2:Own g 5 u2 1 (B.map ci)
 o3:Own g 5 u3 1 (W.map ci)
 q5:5<=q/\q<g.nx
 n1:∀i,vid u1=some i->i≠q/\vid u2≠some i/\vid u3≠some i
 n2:∀i,vid u2=some i->i≠q/\vid u3≠some i
 n3:∀i,vid u3=some i->i≠q
section
variable {g g':G}{q:Nat}{m:Causal}{k1 k2 act u1 u2 u3:AV}{A B W:List Int}
theorem TI.fr (h:TI g q m k1 k2 act u1 u2 u3 A B W)(hn:g.nx<=g'.nx)(hf:∀i,i<g.nx->g'.h.get i=g.h.get i):TI g' q m k1 k2 act u1 u2 u3 A B W:=by
 have q5:=h.q5
 exact ⟨by rw[hf _ (by omega),h.a1],by rw[hf _ (by omega),h.a2],by rw[hf _ (by omega),h.a4],by rw[hf _ (by omega),h.bq],h.o1.fr hn fun i hi=>hf i (h.o1.lt hi).2,h.o2.fr hn fun i hi=>hf i (h.o2.lt hi).2,
  h.o3.fr hn fun i hi=>hf i (h.o3.lt hi).2,by omega,h.n1,h.n2,h.n3⟩
end
end
end Hx
end
section
namespace Hx
open Go
noncomputable section
theorem yW {C:Cfg}{d:Nat}{rd:Option Nat}{a b:SC}{Q:QT}{t:T}{df:List ADf}{g:G}{P:PT}(h1:wp C d rd a (fun e t df g=>e=.norm/\P t df g) t df g)(h2:∀t df g,P t df g->wp C d rd b Q t df g):wp C d rd (.seq a b) Q t df g:=by
 rw[qw]
 refine dD _ h1 ?_
 rintro e t df g ⟨rfl,h⟩
 exact h2 t df g h
def S.bH (vals e:List Int)(i:Nat):Bool:=decide (e[i]?.getD 0<0) || decide (e[i]?.getD 0=vals[i]?.getD 0)
def S.bo (vals e:List Int):Bool:=(List.range e.length).all (S.bH vals e)
def CI (m:Causal)(k1 k2 el act q f:AV)(h:H)(s w:Int):Prop:=h.get 1=.cells 1 [[el]] 0 false false/\h.get 2=.cells 1 [[act]] 0 false false/\h.get 3=.cells 1 [[q]] 0 false false/\h.get 4=.cells 2 [[.int .i64 0,.int .i64 0]] 0 false false /\
 h.get 6=.cells 4 [[.int .i64 m.grain,k1,k2,.int .i64 (S.bj m)]] 0 false false/\h.get 7=.cells 1 [[.int .i64 s]] 0 false false/\h.get 8=.cells 1 [[.int .i64 w]] 0 false false/\h.get 9=.cells 1 [[f]] 0 false false
theorem CI.fr {m:Causal}{k1 k2 el act q f:AV}{h h':H}{s w:Int}(hI:CI m k1 k2 el act q f h s w)(hh:∀i,i<10->h'.get i=h.get i):CI m k1 k2 el act q f h' s w:=by
 obtain ⟨i1,i2,i3,i4,i6,i7,i8,i9⟩:=hI
 exact ⟨by rw[hh _ (by omega),i1],by rw[hh _ (by omega),i2],by rw[hh _ (by omega),i3],by rw[hh _ (by omega),i4],by rw[hh _ (by omega),i6],by rw[hh _ (by omega),i7],by rw[hh _ (by omega),i8],by rw[hh _ (by omega),i9]⟩
def S.bS (s a:List Int):List Int:=(List.range s.length).map fun i=>if a[i]?.getD 0<0 then -1 else s[i]?.getD 0
theorem tT {α:Type}{C:α->Prop}{S:α->VS}{j:Nat}(h:∀a,Snb (S a) j):Snb (fun P k h v=>∃a,C a/\S a P k h v) j :=
 ⟨fun {P k hh v n} d r hn=>by
  obtain ⟨a,c,r⟩:=r
  obtain ⟨v',e,r'⟩:=(h a).snap d r hn
  exact ⟨v',e,a,c,r'⟩,fun {k hh v n} r hn=>by
  obtain ⟨a,c,r⟩:=r
  exact (h a).tag r hn⟩
theorem ol:∀{A L:List Nat},A.Nodup->(∀v∈A,v∈L)->A.length<=L.length
 | [],_,_,_=>Nat.zero_le _
 | a::A,L,hA,h=>by
  rw[List.nodup_cons] at hA
  have ha:=h a (by simp)
  have:=ol (A:=A) (L:=L.erase a) hA.2 fun v hv=>(List.mem_erase_of_ne (fun e=>hA.1 (by rw[<-e];exact hv))).2 (h v (by simp[hv]))
  rw[List.length_erase_of_mem ha] at this
  have:=List.length_pos_of_mem ha
  simp only[List.length_cons]
  omega
def Ord (p:List Nat)(L:List Nat):Prop:=(∀v,v<p.length->v∈L)/\∀(i v:Nat),L[i]?=some v->v<p.length/\∀q,(Par p v).testBit q=true->q∈L.take i
def w8 (p:List Nat)(L:List Nat):Prop:=L.Nodup/\∀(i v:Nat),L[i]?=some v->v<p.length/\∀q,(Par p v).testBit q=true->q∈L.take i
theorem zF {p L:List Nat}(h:w8 p L){v:Nat}(hv:v ∉ L)(hl:v<p.length)(hp:∀q,(Par p v).testBit q=true->q∈L):w8 p (L++[v]):=by
 refine ⟨?_,fun i u hu=>?_⟩
 ·rw[List.nodup_append]
  exact ⟨h.1,by simp,fun a ha b hb=>by simp at hb;subst hb;exact fun e=>hv (e ▸ ha)⟩
 ·rcases Nat.lt_or_ge i L.length with hi | hi
  ·rw[List.getElem?_append_left hi] at hu
   obtain ⟨h1,h2⟩:=h.2 i u hu
   exact ⟨h1,fun q hq=>by rw[List.take_append_of_le_length (by omega)];exact h2 q hq⟩
  ·rw[List.getElem?_append_right hi] at hu
   have:i=L.length:=by
    have:=(List.getElem?_eq_some_iff.1 hu).1;simp at this;omega
   subst this
   simp at hu;subst hu
   exact ⟨hl,fun q hq=>by rw[List.take_left];exact hp q hq⟩
theorem yU {p L:List Nat}(h:w8 p L)(hl:p.length<=L.length):Ord p L:=by
 refine ⟨fun v hv=>?_,h.2⟩
 by_cases hm:v∈L
 ·exact hm
 ·have:=ol (A:=v::L) (L:=List.range p.length) (List.nodup_cons.2 ⟨hm,h.1⟩) fun u hu=>by
   rcases List.mem_cons.1 hu with rfl | hu
   ·exact List.mem_range.2 hv
   ·obtain ⟨i,hi,rfl⟩:=List.mem_iff_getElem.1 hu
    exact List.mem_range.2 (h.2 i _ (List.getElem?_eq_getElem hi)).1
  simp at this
  omega
theorem Dm {p L:List Nat}(h:w8 p L)(hl:L.length<p.length):∃v,v<p.length/\v ∉ L:=by
 by_cases hh:∃v,v<p.length/\v ∉ L
 ·exact hh
 ·exfalso
  have:=ol (A:=List.range p.length) (L:=L) List.nodup_range fun v hv=>by
   by_cases h':v∈L
   ·exact h'
   ·exact absurd ⟨v,List.mem_range.1 hv,h'⟩ hh
  simp at this
  omega
def A9 (D:Nat)(L:List Nat):Prop:=D<18446744073709551616/\∀v,D.testBit v=true↔v∈L
theorem zw {D:Nat}{L:List Nat}(h:A9 D L){v:Nat}(hv:v<64):A9 (D ||| S.aF v) (L++[v]):=by
 refine ⟨vK h.1 (tS v),fun u=>?_⟩
 rw[jT,wA hv,Bool.or_eq_true,h.2,decide_eq_true_eq,List.mem_append,List.mem_singleton]
 constructor
 ·rintro (h | h)
  ·exact .inl h
  ·exact .inr h.symm
 ·rintro (h | h)
  ·exact .inl h
  ·exact .inr h.symm
theorem ku {C:Cfg}{d:Nat}{rd:Option Nat}{body:SC}{c ti k B b:Nat}{Q:QT}{m:Nat}{lim:Int}(hlim:lim=(m:Int))(hm:m<9223372036854775808)(J:Nat->PT){t:T}{df:List ADf}{g:G}
  (h0:J 0 t df g) (hi:tat t ti=.int .i64 0) (hc:c≠ti/\b≠B)
  (hJ:∀j t df g v s,s=c\/s=ti\/s=k->J j t df g->J j (cg t s v) df g)
  (step:∀j t df g,j<m->J j t df g->tat t ti=.int .i64 (j:Int)->wp C d rd body (kR (fun t df g=>J (j+1) t df g/\tat t ti=.int .i64 (j:Int)) b Q) t df g)
  (fin:∀t df g,J m t df g->Q (.exit B) t df g) :
  wpL (wp C d rd (.seq (.ops [o c (.bin .lss (.t ti) (.k (.int .i64 lim)))]) (.seq (.cond (.t c) .skip (.exit B)) (.seq (.blk b body) (.ops [o k (.bin .add (.t ti) (.k (.int .i64 1))),o ti (.mv (.t k))]))))) Q t df g:=by
 subst hlim
 obtain ⟨c1,c5⟩:=hc
 refine oO (fun n t df g=>∃j:Nat,n=m - j/\j<=m/\J j t df g/\tat t ti=.int .i64 (j:Int)) m ⟨0,by omega,by omega,h0,hi⟩ ?_
 rintro n t df g ⟨j,rfl,hj,hjj,h1⟩
 simp only[sz,simprocAttr,h1]
 refine ⟨fun hq=>?_,fun hq=>?_⟩
 ·have hlt:j<m:=by simpa using hq
  simp only[sx]
  refine dD _ (step j _ df g hlt (hJ _ _ _ _ _ _ (.inl rfl) hjj) (by simp only[fV];rw[if_neg (Ne.symm c1),h1])) fun e t df g h=>?_
  have key:J (j+1) t df g/\tat t ti=.int .i64 (j:Int)->wp C d rd (.ops [o k (.bin .add (.t ti) (.k (.int .i64 1))),o ti (.mv (.t k))])
    (kL (fun n t df g=>∃j:Nat,n=m - j/\j<=m/\J j t df g/\tat t ti=.int .i64 (j:Int)) (m - j) Q) t df g:=by
   rintro ⟨a1,a2⟩
   simp only[sz,simprocAttr,a2]
   refine ⟨_,?_,j+1,rfl,by omega,hJ _ _ _ _ _ _ (.inr (.inl rfl)) (hJ _ _ _ _ _ _ (.inr (.inr rfl)) a1),?_⟩
   ·omega
   ·rw[dO (by omega) (by omega)];rfl
  cases e with
  | norm=>exact key h
  | ret=>exact h
  | exit x =>
   rw[iI] at h
   rw[jM]
   split at h
   ·rename_i e;rw[if_pos e];exact key h
   ·rename_i e;rw[if_neg e];exact h
 ·have:j=m:=by simp at hq;omega
  subst this
  simp only[sx]
  exact fin _ _ _ (hJ _ _ _ _ _ _ (.inl rfl) hjj)
section
variable {m:Causal}{c1 c2 l w c9 v35 ls v48:AV}{al:List Int}{hid kk:Int}{p:Nat}
end
end
end Hx
end
section
namespace Hx
open Go
noncomputable section
def S.aP:List Int->Int
 | []=>0
 | x::l=>x+10000*S.aP l
structure S.tI (bl:List Int) (n i:Nat) (V ai:Int) (k:Nat) (c:Int) (L:List Int):Prop where
 len:L.length=n
 rng:∀x∈L,0<=x/\x<10000
 zer:∀j,i+bl.length<=j->i+k<=j->L[j]?.getD 0=0
 kle:k<=bl.length+1
 c0:0<=c
 c1:c<10000
 ce:k=bl.length+1->c=0
 cs:k=0->c=0
 eq:S.aP L+c*10000 ^ (i+k)=V+ai*10000 ^ i*S.aP (bl.take k)
structure S.tO (al bl:List Int) (i:Nat) (L:List Int):Prop where
 len:L.length=al.length+bl.length
 rng:∀x∈L,0<=x/\x<10000
 zer:∀j,i+bl.length<=j->L[j]?.getD 0=0
 eq:S.aP L=S.aP (al.take i)*S.aP bl
structure S.mI (al bl:List Int) (i:Nat) (r:Int) (L:List Int):Prop where
 len:L.length=i
 rng:∀x∈L,0<=x/\x<10000
 r01:r=0\/r=1
 eq:S.aP L=S.aP (al.take i) - S.aP (bl.take i)+r*10000 ^ i
structure S.qI (x b n:Nat) (i:Nat) (L:List Int):Prop where
 len:L.length=n
 rng:∀z∈L,0<=z/\z<10000
 eq:S.aP (L.drop i)=((x / 10000 ^ i / b:Nat):Int)
theorem SlR.wd {α:Type} [Rp α]{P P':Nat->Prop}{k:Nat}{h h':H}{l:List α}{v:AV}(r:SlR P k h l v)(hf:∀i,P i->P' i/\h'.get i=h.get i):SlR P' k h' l v:=by
 obtain ⟨w,hw,q⟩:=Rp.mono (k':=k) (P':=P') (h':=h') (show Rp.rp P k h l [v] from ⟨v,rfl,r⟩) hf (Nat.le_refl _)
 injection hw with hw;subst hw;exact q
abbrev P3:Nat->Prop:=fun i=>3<=i
theorem BD.sl {K R n:Nat}{g:G}{V:Ky->AV}{E:Ky->En}{Rt:Nat->List Int}{c:Nat->Int}{F:Nat->Nat->List Int}(hD:BD K R n V E Rt c F)(hH:Hp g 3 (LB R n) V E)(hK:K<=2000000)(hR:R<=K)(hn:n<=K) :
  SlR P3 0 g.h ((List.range R).map Rt) (V (4,0))/\SlR P3 0 g.h ((List.range n).map fun i=>(⟨c i,F 1 i,F 2 i,F 3 i⟩:Mech)) (V (4,1))/\∀gr,Bnd K ⟨gr,(List.range R).map Rt,(List.range n).map fun i=>(⟨c i,F 1 i,F 2 i,F 3 i⟩:Mech)⟩:=by
 have p3:∀{k:Ky} {sz:Nat} {rows:List (List AV)},Own g 3 (V k) sz rows->∀i,vid (V k)=some i->P3 i:=fun h i hi=>(h.lt hi).1
 have sl1:∀{k:Ky} {l:List Int},Own g 3 (V k) 1 (l.map ci)->l.length<=K->SlR P3 0 g.h l (V k):=fun h hl=>Own.sl (α:=Int) h (by omega) (All2.of_map (fun a=>bz.2 rfl) _) (p3 h)
 refine ⟨?_,?_,fun gr=>⟨by simpa using hR,fun x hx=>?_,by simpa using hn,fun x hx=>?_⟩⟩
 ·have:=hH.own (k:=(4,0)) (by simp[LB]) hD.rs
  refine Own.sl (α:=List Int) this (by simp;omega) (gQ fun i hi=>?_) (p3 this)
  have hi:=List.mem_range.1 hi
  obtain ⟨q1,q2⟩:=hD.r i hi
  exact ⟨_,rfl,sl1 (hH.own (k:=(0,i)) (.inl ⟨rfl,hi⟩) q1) q2⟩
 ·have:=hH.own (k:=(4,1)) (by simp[LB]) hD.ns
  refine Own.sl (α:=Mech) this (by simp;omega) (gQ fun i hi=>?_) (p3 this)
  have hi:=List.mem_range.1 hi
  obtain ⟨q1,q2⟩:=hD.f 1 i (by omega) (by omega) hi
  obtain ⟨q3,q4⟩:=hD.f 2 i (by omega) (by omega) hi
  obtain ⟨q5,q6⟩:=hD.f 3 i (by omega) (by omega) hi
  exact xE.2 ⟨_,_,_,rfl,sl1 (hH.own (k:=(1,i)) (.inr (.inl ⟨by simp,by simp,hi⟩)) q1) q2,sl1 (hH.own (k:=(2,i)) (.inr (.inl ⟨by simp,by simp,hi⟩)) q3) q4,sl1 (hH.own (k:=(3,i)) (.inr (.inl ⟨by simp,by simp,hi⟩)) q5) q6⟩
 ·obtain ⟨i,hi,rfl⟩:=List.mem_map.1 hx
  exact (hD.r i (List.mem_range.1 hi)).2
 ·obtain ⟨i,hi,rfl⟩:=List.mem_map.1 hx
  have hi:=List.mem_range.1 hi
  exact ⟨(hD.f 1 i (by omega) (by omega) hi).2,(hD.f 2 i (by omega) (by omega) hi).2,(hD.f 3 i (by omega) (by omega) hi).2⟩
theorem BD.up {K K' R n:Nat}{V:Ky->AV}{E:Ky->En}{Rt:Nat->List Int}{c:Nat->Int}{F:Nat->Nat->List Int}(h:BD K R n V E Rt c F)(hK:K<=K'):BD K' R n V E Rt c F :=
 ⟨fun i hi=>⟨(h.r i hi).1,by have:=(h.r i hi).2;omega⟩,fun q i a b hi=>⟨(h.f q i a b hi).1,by have:=(h.f q i a b hi).2;omega⟩,h.rs,h.ns⟩
theorem Bnd.up {K K':Nat}{m:Causal}(h:Bnd K m)(hk:K<=K'):Bnd K' m :=
 ⟨by have:=h.r;omega,fun x hx=>by have:=h.rr x hx;omega,by have:=h.n;omega,fun x hx=>by have:=h.f x hx;omega⟩
structure HS (m:Causal) (c1 c2 la lb lc:AV) (p q:Nat) (gb g:G):Prop where
 fr:Fr gb g
 mp:g.h.get p=.cells 3 [[.int .i64 m.grain,c1,c2]] 0 false false
 ml:g.h.get q=.cells 3 [[la,lb,lc]] 0 false false
 pn:p<gb.nx
 q0:gb.nx<=q
 qn:q<g.nx
theorem HS.step {m:Causal}{c1 c2 la lb lc:AV}{p q:Nat}{gb g g':G}(h:HS m c1 c2 la lb lc p q gb g)(hn:g.nx<=g'.nx)(hf:∀i,i<gb.nx\/i=q->g'.h.get i=g.h.get i):HS m c1 c2 la lb lc p q gb g' :=
 ⟨⟨Nat.le_trans h.fr.1 hn,fun i hi=>by rw[hf i (.inl hi),h.fr.2 i hi]⟩,by rw[hf p (.inl h.pn),h.mp],by rw[hf q (.inr rfl),h.ml],h.pn,h.q0,Nat.lt_of_lt_of_le h.qn hn⟩
section
variable {m:Causal}{c1 c2 la lb lc w c28 vi c90 vj:AV}{A B Z:List Int}{p q:Nat}
end
end
end Hx
end
end
section
namespace Hx
open Go
section
variable {p:List Nat}
theorem zn:v8 p 0:=⟨fun v _ hb=>by simp at hb,fun v _ hb=>by simp at hb⟩
theorem BH {q:Nat}(ih:v8 p q){j:Nat}(hj:j<64)(hd:Sub (Par p j) q):v8 p (q ||| S.aF j):=by
 refine ⟨fun v hv hb=>?_,fun v hv hb=>?_⟩
 ·intro u hu
  rw[jT,wA hj,Bool.or_eq_true,decide_eq_true_eq] at hb
  rw[jT,Bool.or_eq_true]
  rcases hb with hb | hb
  ·exact .inl (ih.1 v hv hb u hu)
  ·subst hb;exact .inl (hd u hu)
 ·rw[jT,wA hj,Bool.or_eq_true,decide_eq_true_eq] at hb
  cases hq:q.testBit v
  ·rw[hq] at hb
   simp at hb
   subst hb
   rw[<-Bool.not_eq_true]
   intro hu
   have:=qa ih.1 hd p.length j hu
   rw[hq] at this;cases this
  ·exact ih.2 v hv hq
theorem tk {q:Nat}(h:v8 p q)(hf:∀v,v<p.length->q.testBit v=true):S.aG p=true :=
 nR.2 fun v hv=>h.2 v hv (hf v hv)
theorem tv (hp:∀x∈p,x<2 ^ p.length)(h:S.aG p=true){T:Nat}(hst:∀v,v<p.length->T.testBit v=false->¬Sub (Par p v) T):∀v,v<p.length->T.testBit v=true:=by
 rw[nR] at h
 have none:∀r v,v<p.length->T.testBit v=false->S.up p (Par p v) p.length=r->False:=by
  intro r
  induction r using Nat.strongRecOn with
  | _ r ih =>
   intro v hv hb hr
   have hns:=hst v hv hb
   have:∃u,(Par p v).testBit u=true/\T.testBit u=false:=by
    apply Classical.byContradiction
    intro hno
    apply hns
    intro u hu
    cases hc:T.testBit u
    ·exact absurd ⟨u,hu,hc⟩ hno
    ·rfl
   obtain ⟨u,hu,hub⟩:=this
   have hul:u<p.length:=oV (mL hp) hu
   have hcl:=om hp (s:=Par p v) (mL hp)
   have hin:(S.up p (Par p v) p.length).testBit u=true:=pD _ u hu
   have hsub:Sub (S.up p (Par p u) p.length) (S.up p (Par p v) p.length):=qa hcl (hcl u hul hin) _
   have hlt:S.up p (Par p u) p.length<S.up p (Par p v) p.length:=by
    refine Nat.lt_of_le_of_ne (qo hsub) fun e=>?_
    have:=h u hul
    rw[e,hin] at this;cases this
   exact ih _ (by omega) u hul hub rfl
 intro v hv
 cases hc:T.testBit v
 ·exact (none _ v hv hc rfl).elim
 ·rfl
end
end Hx
end
section
namespace Hx
open Go
section
variable {p:List Nat}
def Eg (p:List Nat)(u v:Nat):Prop:=(Par p v).testBit u=true
def Bt (s v:Nat):Prop:=s.testBit v=true
theorem kK (hp:∀x∈p,x<2 ^ p.length){u v:Nat}(h:Eg p u v):u<p.length/\v<p.length:=by
 refine ⟨oV (mL hp) h,?_⟩
 rcases Nat.lt_or_ge v p.length with h1 | h1
 ·exact h1
 ·unfold Eg Par at h
  rw[List.getElem?_eq_none h1] at h
  simp at h
theorem Fa {s:Nat}(hp:∀x∈p,x<2 ^ p.length)(hc:Cl p s){u v:Nat}(h:Ds (Eg p) u v)(hv:s.testBit v=true):s.testBit u=true:=by
 induction h with
 | rf=>exact hv
 | st e _ ih=>exact hc _ (kK hp e).2 (ih hv) _ e
theorem D5 (hp:∀x∈p,x<2 ^ p.length){s:Nat}(hs:s<2 ^ p.length)(v:Nat):(S.up p s p.length).testBit v=true↔An (Eg p) (Bt s) v:=by
 constructor
 ·intro h
  have hc:Cl p (S.aa (An (Eg p) (Bt s)) p.length):=fun u hu hb x hx=>by
   rw[iK] at hb ⊢
   exact ⟨(kK hp hx).1,An.up hx hb.2⟩
  have hsub:Sub s (S.aa (An (Eg p) (Bt s)) p.length):=fun u hu=>by
   rw[iK]
   exact ⟨oV hs hu,An.of hu⟩
  have:=qa hc hsub p.length v h
  rw[iK] at this
  exact this.2
 ·rintro ⟨z,hz,hd⟩
  exact Fa hp (om hp hs) hd (pD _ z hz)
theorem xG (hp:∀x∈p,x<2 ^ p.length)(h:S.aG p=true):∀u v,Eg p u v->S.up p (Par p u) p.length<S.up p (Par p v) p.length:=by
 intro u v e
 have hul:=(kK hp e).1
 have hcl:=om hp (s:=Par p v) (mL hp)
 have hin:(S.up p (Par p v) p.length).testBit u=true:=pD _ u e
 have hsub:Sub (S.up p (Par p u) p.length) (S.up p (Par p v) p.length):=qa hcl (hcl u hul hin) _
 refine Nat.lt_of_le_of_ne (qo hsub) fun e=>?_
 have:=nR.1 h u hul
 rw[e,hin] at this;cases this
theorem mY (hp:∀x∈p,x<2 ^ p.length){rk:Nat->Nat}(hr:∀u v,Eg p u v->rk u<rk v):S.aG p=true:=by
 refine nR.2 fun v hv=>?_
 cases h:(S.up p (Par p v) p.length).testBit v with
 | false=>rfl
 | true =>
  obtain ⟨z,hz,hd⟩:=(D5 hp (mL hp) v).1 h
  have h1:=hr _ _ (show Eg p z v from hz)
  rcases hd.rank hr with rfl | h2<;>omega
def S.ah (p:List Nat)(s:Nat):Nat->Nat
 | 0=>s
 | j+1=>if Par p j &&& S.ah p s j=0 then S.ah p s j else S.ah p s j ||| 2 ^ j
def S.dn (p:List Nat)(s:Nat):Nat->Nat
 | 0=>s
 | j+1=>S.ah p (S.dn p s j) p.length
theorem sX {a b:Nat}:a &&& b≠0↔∃v,a.testBit v=true/\b.testBit v=true:=by
 constructor
 ·intro h
  apply Classical.byContradiction
  intro hno
  apply h
  refine Nat.eq_of_testBit_eq fun v=>?_
  rw[Nat.testBit_and,Nat.zero_testBit]
  cases h1:a.testBit v<;>cases h2:b.testBit v<;>first | rfl | exact absurd ⟨v,h1,h2⟩ hno
 ·rintro ⟨v,h1,h2⟩ h
  have:=congrArg (·.testBit v) h
  simp[h1,h2] at this
theorem nf {s:Nat}(hs:s<2 ^ p.length):∀j,j<=p.length->S.ah p s j<2 ^ p.length
 | 0,_=>hs
 | j+1,hj=>by
  have ih:=nf hs j (by omega)
  unfold S.ah
  split
  ·exact ih
  ·exact Bh ih (Nat.pow_lt_pow_right (by decide) (by omega))
theorem pU {s:Nat}(hs:s<2 ^ p.length):∀j,S.dn p s j<2 ^ p.length
 | 0=>hs
 | j+1=>nf (pU hs j) _ (Nat.le_refl _)
theorem jN {s:Nat}{j k:Nat}(h:j<=k):Sub (S.ah p s j) (S.ah p s k):=by
 induction h with
 | refl=>exact fun _ h=>h
 | step _ ih =>
  intro v hv
  unfold S.ah
  split
  ·exact ih v hv
  ·rw[jT,ih v hv];rfl
theorem qA {q:Nat->Prop}(hq:∀u v,q u->Eg p u v->q v){s:Nat}(hs:∀v,s.testBit v=true->q v):∀j,∀v,(S.ah p s j).testBit v=true->q v
 | 0,v,h=>hs v h
 | j+1,v,h=>by
  have ih:=qA hq hs j
  unfold S.ah at h
  split at h
  ·exact ih v h
  ·rename_i hne
   rw[jT,Bool.or_eq_true] at h
   rcases h with h | h
   ·exact ih v h
   ·rw[Nat.testBit_two_pow,decide_eq_true_iff] at h
    subst h
    obtain ⟨u,h1,h2⟩:=sX.1 hne
    exact hq u _ (ih u h2) h1
theorem x8 {q:Nat->Prop}(hq:∀u v,q u->Eg p u v->q v){s:Nat}(hs:∀v,s.testBit v=true->q v):∀j,∀v,(S.dn p s j).testBit v=true->q v
 | 0,v,h=>hs v h
 | j+1,v,h=>qA hq (x8 hq hs j) _ v h
theorem EG {s:Nat}(hs:s<2 ^ p.length):S.ah p (S.dn p s p.length) p.length=S.dn p s p.length :=
 Eh (f:=fun j=>S.dn p s j) (fun j=>jN (Nat.zero_le _)) (fun j=>pU hs j) (fun j e=>by
  have e:S.dn p s (j+1)=S.dn p s j:=e
  show S.ah p (S.dn p s (j+1)) p.length=S.dn p s (j+1)
  rw[e];exact e)
theorem Fb {s:Nat}(hp:∀x∈p,x<2 ^ p.length)(hs:s<2 ^ p.length){u v:Nat}(e:Eg p u v)(hu:(S.dn p s p.length).testBit u=true):(S.dn p s p.length).testBit v=true:=by
 obtain ⟨T,hT⟩:∃T,T=S.dn p s p.length:=⟨_,rfl⟩
 have hf:=EG (p:=p) hs
 rw[<-hT] at hf hu ⊢
 have hv:=(kK hp e).2
 have h1:(S.ah p T v).testBit u=true:=jN (Nat.zero_le _) u hu
 have h2:(S.ah p T (v+1)).testBit v=true:=by
  unfold S.ah
  rw[if_neg (sX.2 ⟨u,e,h1⟩),jT,Nat.testBit_two_pow]
  simp
 have:=jN (p:=p) (s:=T) (show v+1<=p.length by omega) v h2
 rwa [hf] at this
theorem xQ {s:Nat}:∀j,Sub s (S.dn p s j)
 | 0=>fun _ h=>h
 | j+1=>fun v hv=>jN (Nat.zero_le _) v (xQ j v hv)
theorem DS (hp:∀x∈p,x<2 ^ p.length){s:Nat}(hs:s<2 ^ p.length)(v:Nat):(S.dn p s p.length).testBit v=true↔∃u,s.testBit u=true/\Ds (Eg p) u v:=by
 constructor
 ·exact x8 (q:=fun v=>∃u,s.testBit u=true/\Ds (Eg p) u v) (fun u v ⟨x,h1,h2⟩ e=>⟨x,h1,h2.sn e⟩) (fun v h=>⟨v,h,.rf v⟩) p.length v
 ·rintro ⟨u,hu,hd⟩
  have h0:=xQ (p:=p) (s:=s) p.length u hu
  clear hu
  induction hd with
  | rf=>exact h0
  | st e _ ih=>exact ih (Fb hp hs e h0)
end
end Hx
end
section
namespace Hx
inductive Tw (E:Nat->Nat->Prop) (x:Nat):List Nat->Prop
 | one:Tw E x [x]
 | ext {v w:Nat} {r:List Nat}:Tw E x (v::r)->E v w\/E w v->w ∉ v::r->Tw E x (w::v::r)
def opL (E:Nat->Nat->Prop)(Z:Nat->Prop):List Nat->Prop
 | []=>True
 | [_]=>True
 | w::v::r=>opT E Z v r w/\opL E Z (v::r)
theorem BP {E:Nat->Nat->Prop}{Z:Nat->Prop}{x:Nat}{l:List Nat}:Tl E Z x l↔Tw E x l/\opL E Z l:=by
 constructor
 ·intro h
  induction h with
  | one=>exact ⟨.one,trivial⟩
  | ext _ ha hn ho ih=>exact ⟨.ext ih.1 ha hn,ho,ih.2⟩
 ·rintro ⟨h,ho⟩
  induction h with
  | one=>exact .one
  | ext _ ha hn ih=>exact .ext (ih ho.2) ha hn ho.1
theorem vB {E:Nat->Nat->Prop}{x:Nat}{l:List Nat}(h:Tw E x l):l.Nodup:=by
 induction h with
 | one=>simp
 | ext _ _ hn ih=>exact List.nodup_cons.2 ⟨hn,ih⟩
theorem D9 {E:Nat->Nat->Prop}{n:Nat}(he:∀u v,E u v->u<n/\v<n){x:Nat}(hx:x<n){l:List Nat}(h:Tw E x l):∀v∈l,v<n:=by
 induction h with
 | one=>intro v hv;rw[List.mem_singleton.1 hv];exact hx
 | @ext v w r _ ha _ ih =>
  intro u hu
  rcases List.mem_cons.1 hu with rfl | hu
  ·rcases ha with h | h
   ·exact (he _ _ h).2
   ·exact (he _ _ h).1
  ·exact ih u hu
theorem oe:∀{n:Nat} {l:List Nat},l.Nodup->(∀v∈l,v<n)->l.length<=n
 | 0,[],_,_=>Nat.le_refl _
 | 0,a::l,_,h=>absurd (h a (by simp)) (Nat.not_lt_zero a)
 | n+1,l,h,hl=>by
  by_cases hn:n∈l
  ·have:=oe (n:=n) (l:=l.erase n) (h.erase n) fun v hv=>by
    have h1:=(h.mem_erase_iff).1 hv
    have:=hl v h1.2
    have:=h1.1
    omega
   rw[List.length_erase_of_mem hn] at this
   omega
  ·have:=oe (n:=n) (l:=l) h fun v hv=>by
    have h1:=hl v hv
    have:v≠n:=fun e=>hn (e ▸ hv)
    omega
   omega
def mr (E:Nat->Nat->Prop)(Z:Nat->Prop)(x:Nat)(r:List Nat)(y:Nat):Prop:=∃s,Tl E Z x (s++r)/\(s++r).head?=some y/\¬Z y
theorem At {E:Nat->Nat->Prop}{Z:Nat->Prop}{x v:Nat}{r:List Nat}{y:Nat}(h:Tl E Z x (v::r)) :
  mr E Z x (v::r) y↔(y=v/\¬Z v)\/∃w,(E v w\/E w v)/\w ∉ v::r/\mr E Z x (w::v::r) y:=by
 constructor
 ·rintro ⟨s,h1,h2,h3⟩
  rcases List.eq_nil_or_concat s with rfl | ⟨s',w,rfl⟩
  ·simp at h2
   subst h2
   exact .inl ⟨rfl,h3⟩
  ·rw[List.concat_eq_append,List.append_assoc,List.singleton_append] at h1 h2
   refine .inr ⟨w,?_,?_,s',h1,h2,h3⟩
   ·have:=(qs h1 rfl).1
    cases this with | ext _ ha _ _=>exact ha
   ·have:=(qs h1 rfl).1
    cases this with | ext _ _ hn _=>exact hn
 ·rintro (⟨rfl,hz⟩ | ⟨w,-,-,s,h1,h2,h3⟩)
  ·exact ⟨[],h,rfl,hz⟩
  ·exact ⟨s++[w],by simpa using h1,by simpa using h2,h3⟩
theorem Dd {E:Nat->Nat->Prop}{Z:Nat->Prop}{x:Nat}{l:List Nat}(h:Tl E Z x l):∃s,l=s++[x]:=by
 induction h with
 | one=>exact ⟨[],rfl⟩
 | ext _ _ _ _ ih=>obtain ⟨s,e⟩:=ih;exact ⟨_::s,by rw[e];rfl⟩
theorem xR {E:Nat->Nat->Prop}{Z:Nat->Prop}{x y:Nat}:mr E Z x [x] y↔(∃r,Tl E Z x (y::r))/\¬Z y:=by
 constructor
 ·rintro ⟨s,h1,h2,h3⟩
  refine ⟨?_,h3⟩
  cases s with
  | nil=>simp at h2;subst h2;exact ⟨[],h1⟩
  | cons a s=>simp at h2;subst h2;exact ⟨_,h1⟩
 ·rintro ⟨⟨r,h⟩,hz⟩
  obtain ⟨s,e⟩:=Dd h
  exact ⟨s,by rw[<-e];exact h,by rw[<-e];rfl,hz⟩
theorem EF {E:Nat->Nat->Prop}{Z X:Nat->Prop}{rk:Nat->Nat}(hr:∀u v,E u v->rk u<rk v)(hX:∀x,X x->¬Z x){y:Nat}:Re E Z X y↔∃x,X x/\mr E Z x [x] y:=by
 rw[E2]
 constructor
 ·rintro ⟨x,hx,h⟩
  exact ⟨x,hx,xR.2 ((D1 hr (hX x hx)).1 h)⟩
 ·rintro ⟨x,hx,h⟩
  exact ⟨x,hx,(D1 hr (hX x hx)).2 (xR.1 h)⟩
end Hx
end
section
namespace Hx
open Go
noncomputable section
theorem kU {q:Nat->Prop}{n:Nat}(h:∀i,i<n->¬q i):S.aa q n=0 :=
 (qy (n:=n) (p:=q) fun i=>by
  rw[Nat.zero_testBit]
  exact ⟨fun h'=>(by cases h'),fun ⟨a,b⟩=>(h i a b).elim⟩).symm
theorem Aq {p q:Nat->Prop}{n v:Nat}(hv:v<n)(h:∀i,q i↔p i\/i=v):S.aa q n=S.aa p n ||| 2 ^ v:=by
 symm
 refine qy fun i=>?_
 rw[Nat.testBit_or,Nat.testBit_two_pow,Bool.or_eq_true,iK,decide_eq_true_iff,h]
 constructor
 ·rintro (⟨a,b⟩ | e)
  ·exact ⟨a,.inl b⟩
  ·exact ⟨by omega,.inr e.symm⟩
 ·rintro ⟨a,b | e⟩
  ·exact .inl ⟨a,b⟩
  ·exact .inr e.symm
def S.aw (p:List Nat)(j i:Nat):List Nat:=(List.range p.length).map fun u=>S.aa (fun v=>Eg p u v/\(v<j\/v=j/\u<i)) p.length
def S.aQ (p:List Nat):List Nat:=(List.range p.length).map fun u=>S.aa (Eg p u) p.length
theorem nz {p:List Nat}{j i:Nat}:(S.aw p j i).length=p.length:=by simp[S.aw]
theorem tJ {p:List Nat}:(S.aQ p).length=p.length:=by simp[S.aQ]
theorem nm {p:List Nat}{j i u:Nat}(h:u<p.length):(S.aw p j i)[u]?=some (S.aa (fun v=>Eg p u v/\(v<j\/v=j/\u<i)) p.length):=by simp[S.aw,h]
theorem Bq {p:List Nat}:S.aw p 0 0=List.replicate p.length 0:=by
 refine List.ext_getElem? fun u=>?_
 by_cases h:u<p.length
 ·rw[nm h,List.getElem?_replicate,if_pos h,kU]
  rintro i - ⟨-,h | h⟩<;>omega
 ·rw[List.getElem?_eq_none (by rw[nz];omega),List.getElem?_eq_none (by simp;omega)]
theorem Ao {p:List Nat}{j:Nat}:S.aw p j p.length=S.aw p (j+1) 0 :=
 List.map_congr_left fun u hu=>bW fun v hv=>by
  have hu:=List.mem_range.1 hu
  constructor
  ·rintro ⟨a,b⟩;exact ⟨a,by omega⟩
  ·rintro ⟨a,b⟩;exact ⟨a,by omega⟩
theorem CA {p:List Nat}:S.aw p p.length 0=S.aQ p :=
 List.map_congr_left fun u hu=>bW fun v hv=>⟨fun a=>a.1,fun a=>⟨a,.inl hv⟩⟩
theorem Dt {x i:Nat}:x / 2 ^ i &&& 1=if x.testBit i then 1 else 0:=by
 rw[Nat.and_one_is_mod,Nat.testBit_eq_decide_div_mod_eq]
 have:=Nat.mod_lt (x / 2 ^ i) (show 0<2 by decide)
 by_cases h:x / 2 ^ i % 2=1
 ·rw[if_pos (by rw[decide_eq_true_iff];exact h),h]
 ·rw[if_neg (by rw[decide_eq_true_iff];exact h)];omega
theorem Ci {p:List Nat}{j i x:Nat}(hi:i<p.length)(hj:j<p.length)(h8:p.length<=8)(hx:p[j]?=some x) :
  (S.aw p j i).set i (S.aa (fun v=>Eg p i v/\(v<j\/v=j/\i<i)) p.length ||| (x / 2 ^ i &&& 1)*2 ^ j % 18446744073709551616)=S.aw p j (i+1):=by
 have h2:(2:Nat) ^ j<=2 ^ 8:=Nat.pow_le_pow_right (by decide) (by omega)
 have hPx:Par p j=x:=by simp[Par,hx]
 have hE:Eg p i j↔x.testBit i=true:=by rw[Eg,hPx]
 refine List.ext_getElem? fun u=>?_
 by_cases e:i=u
 ·subst e
  rw[List.getElem?_set_self (by rw[nz];exact hi),nm hi,Dt]
  congr 1
  by_cases hb:x.testBit i=true
  ·rw[if_pos hb,Nat.one_mul,Nat.mod_eq_of_lt (by omega)]
   refine (Aq hj fun v=>?_).symm
   constructor
   ·rintro ⟨a,b⟩
    by_cases ev:v=j
    ·exact .inr ev
    ·exact .inl ⟨a,by omega⟩
   ·rintro (⟨a,b⟩ | rfl)
    ·exact ⟨a,by omega⟩
    ·exact ⟨hE.2 hb,by omega⟩
  ·rw[if_neg hb,Nat.zero_mul,Nat.zero_mod,Nat.or_zero]
   refine bW fun v _=>?_
   constructor
   ·rintro ⟨a,b⟩;exact ⟨a,by omega⟩
   ·rintro ⟨a,b⟩
    refine ⟨a,?_⟩
    by_cases ev:v=j
    ·subst ev;exact absurd (hE.1 a) hb
    ·omega
 ·rw[List.getElem?_set_ne e]
  by_cases h:u<p.length
  ·rw[nm h,nm h]
   refine congrArg some (bW fun v _=>?_)
   constructor<;>exact fun ⟨a,b⟩=>⟨a,by omega⟩
  ·rw[List.getElem?_eq_none (by rw[nz];omega),List.getElem?_eq_none (by rw[nz];omega)]
def S.az (p:List Nat):Bool:=decide (1<=p.length)&&decide (p.length<=8)&&p.all (fun x=>decide (x<2 ^ p.length))&&S.aG p
structure GOk (p:List Nat):Prop where
 l1:1<=p.length
 l8:p.length<=8
 hp:∀x∈p,x<2 ^ p.length
 ac:S.aG p=true
theorem gF {p:List Nat}:S.az p=true↔GOk p:=by
 simp only[S.az,Bool.and_eq_true,decide_eq_true_eq,List.all_eq_true]
 exact ⟨fun ⟨⟨⟨a,b⟩,c⟩,d⟩=>⟨a,b,c,d⟩,fun ⟨a,b,c,d⟩=>⟨⟨⟨a,b⟩,c⟩,d⟩⟩
theorem pW {p:List Nat}(h:¬GOk p):S.az p=false:=by
 cases e:S.az p with
 | false=>rfl
 | true=>exact absurd (gF.1 e) h
def S.gr (p:List Nat):List Nat×List Nat:=if S.az p then (p,S.aQ p) else ([],[])
def okT (E:Nat->Nat->Prop)(Z:Nat->Prop)(u v w:Nat):Prop:=(E u v/\E w v->An E Z v)/\(¬(E u v/\E w v)->¬Z v)
theorem B2 {E:Nat->Nat->Prop}{Z:Nat->Prop}:∀{l:List Nat},opL E Z l↔∀k w v u,l[k]?=some w->l[k+1]?=some v->l[k+2]?=some u->okT E Z u v w
 | []=>⟨fun _ k w v u h=>by simp at h,fun _=>trivial⟩
 | [a]=>⟨fun _ k w v u _ h=>by simp at h,fun _=>trivial⟩
 | w::v::r=>by
  have ih:=B2 (E:=E) (Z:=Z) (l:=v::r)
  constructor
  ·rintro ⟨h1,h2⟩ k w' v' u' e1 e2 e3
   cases k with
   | zero =>
    simp at e1 e2 e3
    subst e1 e2
    cases r with
    | nil=>simp at e3
    | cons u r =>
     simp at e3
     subst e3
     exact h1
   | succ k=>exact ih.1 h2 k w' v' u' (by simpa using e1) (by simpa using e2) (by simpa using e3)
  ·intro h
   refine ⟨?_,ih.2 fun k w' v' u' e1 e2 e3=>h (k+1) w' v' u' (by simpa using e1) (by simpa using e2) (by simpa using e3)⟩
   cases r with
   | nil=>exact trivial
   | cons u r=>exact h 0 w v u rfl rfl rfl
theorem A1 {E:Nat->Nat->Prop}{Z:Nat->Prop}{tr:List Nat}:opL E Z tr.reverse↔∀i u v w,1<=i->tr[i - 1]?=some u->tr[i]?=some v->tr[i+1]?=some w->okT E Z u v w:=by
 rw[B2]
 have key:∀{i:Nat} {x:Nat},tr[i]?=some x->tr.reverse[tr.length - 1 - i]?=some x/\i<tr.length:=fun {i x} h=>by
  have hi:=(List.getElem?_eq_some_iff.1 h).1
  refine ⟨?_,hi⟩
  rw[List.getElem?_reverse (by omega),<-h]
  congr 1
  omega
 constructor
 ·intro h i u v w hi e1 e2 e3
  obtain ⟨a1,b1⟩:=key e1
  obtain ⟨a2,b2⟩:=key e2
  obtain ⟨a3,b3⟩:=key e3
  refine h (tr.length - 1 - (i+1)) w v u a3 ?_ ?_
  ·rw[<-a2];congr 1;omega
  ·rw[<-a1];congr 1;omega
 ·intro h k w v u e1 e2 e3
  have l1:=(List.getElem?_eq_some_iff.1 e3).1
  rw[List.length_reverse] at l1
  rw[List.getElem?_reverse (by omega)] at e1 e2 e3
  refine h (tr.length - 1 - (k+1)) u v w (by omega) ?_ e2 ?_
  ·rw[<-e3];congr 1
  ·rw[<-e1];congr 1;omega
theorem AG {p q:Nat->Prop}{n:Nat}:S.aa p n ||| S.aa q n=S.aa (fun i=>p i\/q i) n :=
 qy fun i=>by
  rw[Nat.testBit_or,Bool.or_eq_true,iK,iK]
  exact ⟨fun h=>h.elim (fun ⟨a,b⟩=>⟨a,.inl b⟩) fun ⟨a,b⟩=>⟨a,.inr b⟩,fun ⟨a,b⟩=>b.elim (fun b=>.inl ⟨a,b⟩) fun b=>.inr ⟨a,b⟩⟩
theorem C3 {q:Nat->Prop}{n v:Nat}(hv:v<n)(h:∀i,q i↔i=v):S.aa q n=2 ^ v:=by
 rw[Aq (p:=fun _=>False) hv fun i=>by rw[h];exact ⟨.inr,fun h=>h.elim (fun h=>h.elim) id⟩,kU (fun _ _ h=>h),Nat.zero_or]
end
end Hx
end
section
namespace Hx
open Go
def S.aJ (n:Net):List Int:=n.nodes.map (·.card)
def S.aT (cs ps:List Int):List Int:=ps.map fun p=>cs[p.toNat]?.getD 0
def S.bb (n:Net):List Nat:=n.nodes.map fun x=>S.be x.parents
def S.aZ (gr card:Int)(r:List Int):Bool:=decide ((r.length:Int)=card)&&r.all (fun x=>decide (0<=x)&&decide (x<=gr))&&decide (r.sum=gr)
def S.bC (k:Int)(x:Node):Bool:=decide (1<=x.card)&&decide (x.card<=4)&&S.a_ x.parents k
def S.bK (n:Net)(x:Node):Bool:=decide ((x.rows.length:Int)=S.aH (S.aT (S.aJ n) x.parents))&&x.rows.all (S.aZ n.grain x.card)
structure NR (n:Net):Prop where
 g1:1<=n.grain
 g2:n.grain<=60
 l1:1<=n.nodes.length
 l2:n.nodes.length<=8
 card:∀x∈n.nodes,1<=x.card/\x.card<=4
 places:∀x∈n.nodes,S.a_ x.parents n.nodes.length=true
 worlds:S.aH (S.aJ n)<=1024
 acyc:S.aG (S.bb n)=true
 rows:∀x∈n.nodes,(x.rows.length:Int)=S.aH (S.aT (S.aJ n) x.parents)
 row:∀x∈n.nodes,∀r∈x.rows,(r.length:Int)=x.card/\(∀y∈r,0<=y/\y<=n.grain)/\r.sum=n.grain
def S.bz (n:Net)(vals:List Int)(v:Nat):Int:=match n.nodes[v]? with
 | none=>1
 | some x=>(x.rows[(S.a7 (S.aT (S.aJ n) x.parents) (S.aT vals x.parents)).toNat]?.getD [])[(vals[v]?.getD 0).toNat]?.getD 0
end Hx
end
section
namespace Hx
open Go
section
variable {b card:Nat}
def S.a9 (b card p:Nat):Nat:=p / (b*card)*b+p % b
def S.bc (b card p:Nat):Nat:=p / b % card
def S.bE (rows:List (List Int))(b card t:Nat):List Int:=(List.range (rows.length*card)).map fun p=>if S.a9 b card p*card+S.bc b card p<t then (rows[S.a9 b card p]?.getD [])[S.bc b card p]?.getD 0 else 0
def S.bM (rows:List (List Int))(b card:Nat):List Int:=(List.range (rows.length*card)).map fun p=>(rows[S.a9 b card p]?.getD [])[S.bc b card p]?.getD 0
end
def S.bp (ps:List Int)(k:Nat)(v:Int):List Int:=ps.take k++v::ps.drop k
end Hx
end
section
namespace Hx
open Go
noncomputable section
section
variable {d:Nat}{b pa ra z:AV}{gr card:Int}{r:List Int}
def LR5 (v:Nat)(q:Nat):List (Nat×AV):=[(1,.hptr 0 0 0 0),(6,.int .i64 (v:Int)),(7,.hptr q 0 0 0)]
structure RJ1 (gr:Int) (r:List Int) (v q i j:Nat) (t:T):Prop where
 st:St t ((8,.int .i64 (i:Int))::LR5 v q)
 s9:tat t 9=.int .i64 (r.take j).sum
 all:∀y∈r.take j,0<=y/\y<=gr
structure RJ4 (gr card:Int) (rws:List (List Int)) (v q j:Nat) (t:T):Prop where
 st:St t (LR5 v q)
 all:∀r∈rws.take j,S.aZ gr card r=true
structure RJ0 (n:Net) (b:AV) (j:Nat) (t:T) (g:G):Prop where
 st:St t [(1,.hptr 0 0 0 0),(3,.int .i64 (S.aH ((S.aJ n).take j)))]
 hg:g.h.get 0=.cells 2 [[.int .i64 n.grain,b]] 0 false false
 nx:1<=g.nx
 all:∀x∈n.nodes.take j,S.bC n.nodes.length x=true
structure RJ6 (n:Net) (b:AV) (j:Nat) (t:T) (g:G):Prop where
 st:St t [(1,.hptr 0 0 0 0)]
 hg:g.h.get 0=.cells 2 [[.int .i64 n.grain,b]] 0 false false
 nx:1<=g.nx
 all:∀x∈n.nodes.take j,S.bK n x=true
end
end
end Hx
end
section
namespace Hx
open Go
noncomputable section
def OwnC (g:G)(b id:Nat)(l tl:List Int):Prop:=b<=id/\id<g.nx/\g.h.get id=.cells 1 (l.map ci++tl.map ci) 0 false false
theorem OwnC.rows {g:G}{b id:Nat}{l tl:List Int}(h:OwnC g b id l tl):aw g.h 1 (.hsl id 0 0 l.length none)=some (l.map ci):=by
 rw[fu,h.2.2,cR,if_pos (by simp),List.drop_zero,List.take_left' (by simp)]
theorem OwnC.fr {g g':G}{b id:Nat}{l tl:List Int}(h:OwnC g b id l tl)(hn:g.nx<=g'.nx)(hf:g'.h.get id=g.h.get id):OwnC g' b id l tl:=⟨h.1,Nat.lt_of_lt_of_le h.2.1 hn,by rw[hf,h.2.2]⟩
theorem zO {C:Cfg}{d id nt:Nat}{t:T}{ps:List Nat}{assign body:Code}{a b:SC}{dfr:Nat}{args:List AV}{g:G}{K:AV->G->Prop}{D:ADf->Prop}{t':T}
  (hg:g.h.get id=.loop nt t ps assign body dfr .ready none) (ha:dm C nt assign=a) (hb:dm C nt body=b) (hp:dC t nt ps args=some t')
  (h:wp C d (some id) a (fun e t1 df g1=>e=.norm/\df=[]/\g1=g /\
   wp C d (some id) b (fun e _ df g2=>df=[]/\g2.h.get id=.loop nt t ps assign body dfr .busy none/\((e=.norm/\K (.bool true) (g2.put id (.loop nt t ps assign body dfr .ready none)))\/(e=.ret/\K (.bool false) (g2.put id (.loop nt t ps assign body dfr .done (some .ret))))))
    t1 [] (g.put id (.loop nt t ps assign body dfr .busy none))) t' [] g) :
  (cT (I C) d id args g).sat K g D:=by
 subst ha;subst hb
 unfold cT
 rw[show g.get id=_ from hg]
 dsimp only
 rw[hp]
 dsimp only
 have h1:=rU h
 cases hc:(I C).code nt d (some id) assign t' [] g with
 | fail=>rw[hc] at h1;exact h1.elim
 | ok e t1 df g1 =>
  rw[hc] at h1
  obtain ⟨rfl,rfl,rfl,h2⟩:=h1
  dsimp only
  rw[show g1.get id=_ from hg]
  dsimp only
  have h3:=rU h2
  cases hc2:(I C).code nt d (some id) body t1 [] (g1.put id (.loop nt t ps assign body dfr .busy none)) with
  | fail=>rw[hc2] at h3;exact h3.elim
  | ok e t2 df2 g2 =>
   rw[hc2] at h3
   obtain ⟨rfl,h4,h5⟩:=h3
   dsimp only
   rw[show g2.get id=_ from h4]
   rcases h5 with ⟨rfl,h5⟩ | ⟨rfl,h5⟩<;>exact h5
theorem v7 {C:Cfg}{d nt:Nat}{f:Od}{ps:List Nat}{a b:SC}{Q:QT}{t:T}{df:List ADf}{g:G}{fn:Nat}{first cap:List AV}{s:SF}(hv:f.get t=.clo fn first cap)(he:C.ext fn=none)(hs:nFn C fn=some s)
  (hl:(first++(.yld (g.nx+1)::cap)).length<=s.nt)
  (h:∀assign body,dm C nt assign=a->dm C nt body=b ->
   wp C d none s.code (fnQ C d s.res fun _ g2=>∃nt' t' ps' as' bd' dfr',(g2.h.get (g.nx+1)=.loop nt' t' ps' as' bd' dfr' .ready none/\Q .norm t (.mark g.nx::df) (g2.put (g.nx+1) (.loop nt' t' ps' as' bd' dfr' .exhausted none))) \/
     (g2.h.get (g.nx+1)=.loop nt' t' ps' as' bd' dfr' .done (some .ret)/\Q .ret t (.mark g.nx::df) (g2.put (g.nx+1) (.loop nt' t' ps' as' bd' dfr' .exhausted (some .ret)))))
    (bB 0 (first++(.yld (g.nx+1)::cap)) .nil) [] ((g.new (.dfr true)).new (.loop nt t ps assign body g.nx .ready none))) :
  wp C d none (.rng nt f ps a b) Q t df g:=by
 intro assign body ha hb
 have h:=lC hs hl (h assign body ha hb)
 show (bI C (I C) nt d none (f.get t) ps assign body t (.mark g.nx::df) g.nx (g.new (.dfr true))).sat Q
 rw[hv]
 unfold bI
 dsimp only
 rw[he]
 show (match (I C).call d fn (first++(AV.yld (g.nx+1)::cap)) ((g.new (.dfr true)).new (.loop nt t ps assign body g.nx .ready none)) with
  | .ok _ g2=>co (I C) nt d none (g.nx+1) t (.mark g.nx::df) g2
  | .fail=>.fail).sat Q
 cases hc:(I C).call d fn (first++(AV.yld (g.nx+1)::cap)) ((g.new (.dfr true)).new (.loop nt t ps assign body g.nx .ready none)) with
 | fail=>rw[hc] at h;exact h.elim
 | ok v g2 =>
  rw[hc] at h
  obtain ⟨nt',t',ps',as',bd',dfr',h⟩:=h
  show (co (I C) nt d none (g.nx+1) t (.mark g.nx::df) g2).sat Q
  unfold co
  rcases h with ⟨h1,h2⟩ | ⟨h1,h2⟩
  ·rw[show g2.get (g.nx+1)=_ from h1]
   exact h2
  ·rw[show g2.get (g.nx+1)=_ from h1]
   dsimp only
   rw[wu]
   exact h2
structure RowQ (b:Nat) (g2 g3:G) (e:Ex) (A B:Prop):Prop where
 nx:g2.nx<=g3.nx
 fr:∀i,b<=i->i<g2.nx->g3.h.get i=g2.h.get i
 st:(e=.norm/\A)\/(e=.ret/\B)
def S.bG (gr:Int)(cs:List Int)(x:Node):Bool:=decide ((x.rows.length:Int)=S.aH (S.aT cs x.parents))&&x.rows.all (S.aZ gr x.card)
structure FJ (gr:Int) (r:List Int) (z:AV) (j:Nat) (t:T):Prop where
 st:St t [(2,.hptr 0 0 0 0),(3,.hptr 1 0 0 0),(4,.hptr 2 0 0 0),(9,z),(40,z),(10,.int .i64 (gr - (r.take j).sum))]
 nn:∀x∈r.take j,0<=x
 le:(r.take j).sum<=gr
structure FlJ (cs1 cs2:List AV) (gr card:Int) (rws:List (List Int)) (j:Nat) (h:H):Prop where
 a0:h.get 0=.cells 5 [cs1] 0 false false
 a1:h.get 1=.cells 3 [cs2] 0 false false
 a2:h.get 2=.cells 1 [[.bool false]] 0 false false
 all:∀r∈rws.take j,S.aZ gr card r=true
structure FlE (gr card:Int) (rws:List (List Int)) (h:H):Prop where
 a2:h.get 2=.cells 1 [[.bool false]] 0 false false
 ex:∃r∈rws,S.aZ gr card r=false
structure RdH (n:Net) (b cv sv:AV) (q:Nat) (X:List Int) (Y:List Nat) (g:G):Prop where
 h0:g.h.get 0=.cells 2 [[.int .i64 n.grain,b]] 0 false false
 h1:g.h.get 1=.cells 5 [[.int .i64 0,.nils,.nils,.nils,.nils]] 0 false false
 hq:g.h.get q=.cells 5 [[.int .i64 n.grain,b,cv,sv,.nils]] 0 false false
 hc:Own g 2 cv 1 (X.map ci)
 hs:Own g 2 sv 1 (Y.map cu)
 q2:2<=q
 qn:q<g.nx
 d1:vid cv≠some q
 d2:vid sv≠some q
 d3:∀i,vid cv=some i->vid sv≠some i
theorem RdH.fr {n:Net}{b cv sv:AV}{q:Nat}{X:List Int}{Y:List Nat}{g g':G}(h:RdH n b cv sv q X Y g)(f:Fr g g'):RdH n b cv sv q X Y g' :=
 ⟨by rw[f.2 0 (by have:=h.qn;have:=h.q2;omega),h.h0],by rw[f.2 1 (by have:=h.qn;have:=h.q2;omega),h.h1],by rw[f.2 q h.qn,h.hq],h.hc.step f,h.hs.step f,h.q2,Nat.lt_of_lt_of_le h.qn f.1,h.d1,h.d2,h.d3⟩
section
variable {d:Nat}{n:Net}{b cv sv:AV}{q:Nat}{rows:List (List AV)}
def LRd (q:Nat):List (Nat×AV):=[(1,.hptr 0 0 0 0),(2,.hptr 1 0 0 0),(4,.hptr q 0 0 0)]
structure Rd0 (n:Net) (b cv sv:AV) (q j:Nat) (t:T) (g:G):Prop where
 st:St t ((48,b)::(5,.int .i64 (S.aH ((S.aJ n).take j)))::LRd q)
 hp:RdH n b cv sv q ((S.aJ n).take j++List.replicate (n.nodes.length - j) 0) (List.replicate n.nodes.length 0) g
 ok:∀x∈n.nodes.take j,1<=x.card/\x.card<=4
end
end
end Hx
end
section
namespace Hx
open Go
noncomputable section
def ET (ps:List Int)(i:Nat):Int:=if i=0 then -1 else ps[i - 1]?.getD 0
structure PlI (ps:List Int) (k:Int) (v i:Nat):Prop where
 rng:∀(j:Nat) (p:Int),j<i->ps[j]?=some p->0<=p/\p<k/\p≠(v:Int)
 inc:∀(j:Nat) (p q:Int),j+1<i->ps[j]?=some p->ps[j+1]?=some q->p<q
section
variable {d:Nat}{n:Net}{b cv sv:AV}{q:Nat}{rows:List (List AV)}
def S.bu (n:Net)(j:Nat)(m:Nat):List Nat:=(S.bb n).take j++m::List.replicate (n.nodes.length - (j+1)) 0
structure Rd1 (n:Net) (x:Node) (b cv sv pa:AV) (q j p9 i:Nat) (t:T) (g:G):Prop where
 st:St t ((80,b)::(81,.int .i64 (n.nodes.length:Int))::(82,.int .i64 (j:Int))::(88,pa)::(8,.int .i64 (j:Int))::(9,.hptr p9 0 0 0)::(10,.int .i64 (ET x.parents i))::LRd q)
 hp:RdH n b cv sv q (S.aJ n) (S.bu n j (S.be (x.parents.take i))) g
 ok:PlI x.parents n.nodes.length j i
end
end
end Hx
end
section
namespace Hx
open Go
noncomputable section
section
variable {d:Nat}{n:Net}{b cv sv:AV}{q:Nat}{rows:List (List AV)}
structure Rd4 (n:Net) (b cv sv:AV) (q j:Nat) (t:T) (g:G):Prop where
 st:St t ((80,b)::LRd q)
 hp:RdH n b cv sv q (S.aJ n) ((S.bb n).take j++List.replicate (n.nodes.length - j) 0) g
 ok:∀x∈n.nodes.take j,S.a_ x.parents n.nodes.length=true/\S.bG n.grain (S.aJ n) x=true
theorem Own.natsV {g:G}{b:Nat}{v:AV}{l:List Nat}(h:Own g b v 1 (l.map cu))(hl:l.length<9223372036854775808)(hb:∀y∈l,y<18446744073709551616):SlR (fun i=>vid v=some i) 0 g.h l v :=
 Own.sl (α:=Nat) h hl (by
  have:∀l:List Nat,(∀y∈l,y<18446744073709551616)->All2 (Rp.rp (α:=Nat) (fun i=>vid v=some i) 0 g.h) l (l.map cu):=fun l=>by
   induction l with
   | nil=>intro _;trivial
   | cons y l ih=>intro h;exact ⟨qN.2 ⟨rfl,h y (by simp)⟩,ih fun z hz=>h z (by simp[hz])⟩
  exact this l hb) fun _ h=>h
theorem Own.nats' {g:G}{b:Nat}{v:AV}{l:List Nat}(h:Own g b v 1 (l.map cu))(hl:l.length<9223372036854775808)(hb:∀y∈l,y<18446744073709551616):SlR (fun _=>True) 0 g.h l v :=
 (h.natsV hl hb).wd fun _ _=>⟨trivial,rfl⟩
theorem Own.intsV {g:G}{b:Nat}{v:AV}{l:List Int}(h:Own g b v 1 (l.map ci))(hl:l.length<9223372036854775808):SlR (fun i=>vid v=some i) 0 g.h l v :=
 Own.sl (α:=Int) h hl (All2.of_map (fun a=>bz.2 rfl) _) fun _ h=>h
end
end
end Hx
end
section
namespace Hx
open Go
noncomputable section
def CloneR (b:Nat)(l:List Int)(u:AV)(g:G):Prop:=(l=[]/\u=.nils)\/∃id lo,b<=id/\id<g.nx/\u=.hsl id 0 0 l.length none/\g.h.get id=.cells 1 (l.map ci) 0 lo false/\(0<l.length->lo=true)/\(l.length=0->lo=false)
theorem CloneR.fr {b:Nat}{l:List Int}{u:AV}{g g':G}(h:CloneR b l u g)(f:Fr g g'):CloneR b l u g':=by
 rcases h with h | ⟨id,lo,h1,h2,h3,h4,h5⟩
 ·exact .inl h
 ·exact .inr ⟨id,lo,h1,Nat.lt_of_lt_of_le h2 f.1,h3,by rw[f.2 id h2,h4],h5⟩
structure FacH (bx nd:List AV) (w u:AV) (vars cards:List Int) (beh:Int) (q:Nat) (g:G):Prop where
 h0:g.h.get 0=.cells 5 [bx] 0 false false
 h1:g.h.get 1=.cells 3 [[.nils,.nils,.nils]] 0 false false
 h2:g.h.get 2=.cells 3 [nd] 0 false false
 h8:g.h.get q=.cells 3 [[w,u,.nils]] 0 false false
 h9:g.h.get (q+1)=.cells 1 [[.int .i64 beh]] 0 false false
 hw:Own g 3 w 1 (vars.map ci)
 hu:Own g (q+2) u 1 (cards.map ci)
 wq:∀i,vid w=some i->i<q
 q3:3<=q
 qn:q+2<=g.nx
def Fc (q:Nat):List (Nat×AV):=[(2,.hptr 0 0 0 0),(4,.hptr 1 0 0 0),(5,.hptr 2 0 0 0),(8,.hptr q 0 0 0),(9,.hptr (q+1) 0 0 0)]
structure FacJ (gr:Int) (b cv sv oz:AV) (nd:List AV) (w:AV) (cs vars:List Int) (pl q j:Nat) (t:T) (g:G):Prop where
 st:St t ((38,w)::(6,.int .i64 (pl:Int))::Fc q)
 hp:∃u,FacH [.int .i64 gr,b,cv,sv,oz] nd w u vars (S.aT cs (vars.take j)) (S.aH (S.aT cs ((vars.take j).drop (pl+1)))) q g
def GH (h:H)(n:Nat):G:=⟨h,n,[]⟩
@[simp] theorem GH_h (h:H) (n:Nat):(GH h n).h=h:=rfl
@[simp] theorem GH_nx (h:H) (n:Nat):(GH h n).nx=n:=rfl
structure FacG (g0:G) (iw:Nat) (W:AV) (rws:List (List Int)) (B C t:Nat) (h:H):Prop where
 fr:∀i,i<g0.nx->i≠iw->h.get i=g0.h.get i
 ow:Own (GH h (iw+1)) 3 W 1 ((S.bE rws B C t).map ci)
theorem FacG.up {g0:G}{iw:Nat}{W:AV}{rws:List (List Int)}{B C t:Nat}{h h':H}(hf:FacG g0 iw W rws B C t h)(hv:vid W=some iw)(hi:iw<g0.nx)(hh:∀i,i<g0.nx->h'.get i=h.get i):FacG g0 iw W rws B C t h' :=
 ⟨fun i h1 h2=>by rw[hh i h1,hf.fr i h1 h2],hf.ow.fr (by simp) fun i h=>by rw[hv] at h;injection h with h;subst h;exact hh _ hi⟩
structure FacI (g0 g2:G) (iw:Nat) (W z:AV) (r:List Int) (rws:List (List Int)) (B C q j i:Nat) (t:T) (g:G):Prop where
 st:St t ((78,z)::(12,.int .i64 (j:Int))::Fc q)
 hp:FacG g0 iw W rws B C (j*C+i) g.h
 nx:g2.nx<=g.nx
 fr:∀i,g0.nx<=i->i<g2.nx->g.h.get i=g2.h.get i
def S.bw (n:Net)(i:Nat)(x:Node)(p:Nat):Factor:=⟨S.bp x.parents p (i:Int),S.aT (S.aJ n) (S.bp x.parents p (i:Int)),S.bM x.rows (S.aH (S.aT (S.aJ n) (x.parents.drop p))).toNat x.card.toNat⟩
def S.bk (n:Net)(l:List Factor):Prop:=∀(i:Nat) (x:Node),i<l.length->n.nodes[i]?=some x->∃p,p<=x.parents.length/\l[i]?=some (S.bw n i x p)
structure FasJ (n:Net) (W b cv sv oz:AV) (j:Nat) (t:T) (g:G):Prop where
 st:St t [(4,.hptr 1 0 0 0),(6,W)]
 hg:g.h.get 1=.cells 5 [[.int .i64 n.grain,b,cv,sv,oz]] 0 false false
 hW:∃(rows:List (List AV)) (l:List Factor),Own g 2 W 3 rows/\rows.length=n.nodes.length/\l.length=j/\All2 (Rp.rp NoP 0 .nil) l (rows.take j)/\S.bk n l/\∀i,j<=i->i<n.nodes.length->rows[i]?=some [.nils,.nils,.nils]
end
end Hx
end
section
namespace Hx
open Go
abbrev QnM:Type:=Net×List Factor×List (List Int)
def S.a8 (m:Nat)(f:Factor)(i:Nat)(R:List Int):Prop:=R.length=m/\∀(j:Nat) (y:Int),i<=j->f.vars[j]?=some y->R[y.toNat]?=some (S.aH (f.cards.drop (j+1)))
structure QnOk (n:Net) (y:QnM):Prop where
 net:y.1=n
 fl:y.2.1.length=n.nodes.length
 fs:S.bk n y.2.1
 sl:y.2.2.length=n.nodes.length
 st:∀(k:Nat) (f:Factor) (R:List Int),y.2.1[k]?=some f->y.2.2[k]?=some R->S.a8 n.nodes.length f 0 R
end Hx
end
section
namespace Hx
open Go
noncomputable section
def Fp (fl:AV)(m q k:Nat):List (Nat×AV):=[(11,.hptr q 0 0 0),(2,.hptr 0 0 0 0),(4,.hptr 1 0 0 0),(45,fl),(46,.int .i64 (m:Int)),(47,.int .i64 (k:Int))]
structure AskI (fl:AV) (m q k:Nat) (g0:G) (iR:Nat) (R:AV) (f:Factor) (fb j:Nat) (t:T) (g:G):Prop where
 st:St t ((13,.hptr fb 0 0 0)::(12,.int .i64 (k:Int))::(14,.int .i64 (S.aH (f.cards.drop j)))::Fp fl m q k)
 nx:g0.nx<=g.nx
 fr:∀i,i<g0.nx->i≠iR->g.h.get i=g0.h.get i
 ow:∃X:List Int,Own g 2 R 1 (X.map ci)/\S.a8 m f j X
structure FOk (m:Nat) (f:Factor):Prop where
 cl:f.cards.length=f.vars.length
 vl:f.vars.length<=16
 cb:∀c∈f.cards,1<=c/\c<=4
 nd:f.vars.Nodup
 vr:∀y∈f.vars,0<=y/\y<m
structure AskH (gr:Int) (b fl S_:AV) (m q:Nat) (fs:List Factor) (k:Nat) (g:G):Prop where
 h0:g.h.get 0=.cells 2 [[.int .i64 gr,b]] 0 false false
 h1:g.h.get 1=.cells 4 [[.int .i64 0,.nils,.nils,.nils]] 0 false false
 hq:g.h.get q=.cells 4 [[.int .i64 gr,b,fl,S_]] 0 false false
 q2:2<=q/\q<g.nx
 sq:∀i,vid S_=some i->i<q
 hS:∃(Vs:List AV) (l:List (List Int)),Own g 2 S_ 1 (Vs.map fun v=>[v])/\Vs.length=m/\l.length=k/\All2 (fun X v=>Own g (q+1) v 1 (X.map ci)) l (Vs.take k)/\∀(i:Nat) (f:Factor) (X:List Int),fs[i]?=some f->l[i]?=some X->S.a8 m f 0 X
structure AskJ (gr:Int) (b fl S_:AV) (m q:Nat) (fs:List Factor) (k:Nat) (t:T) (g:G):Prop where
 st:St t [(11,.hptr q 0 0 0),(2,.hptr 0 0 0 0),(4,.hptr 1 0 0 0),(45,fl)]
 hp:AskH gr b fl S_ m q fs k g
structure WtI (y:QnM) (b fl S_ wv va ca wa:AV) (gr wt:Int) (p:Int) (cards pv:List Int) (m k fb i:Nat) (t:T) (g:G):Prop where
 st:St t [(1,wv),(2,.hptr 0 0 0 0),(12,fl),(13,.int .i64 (m:Int)),(14,.int .i64 (k:Int)),(5,.int .i64 wt),(6,.int .i64 (k:Int)),(7,.hptr fb 0 0 0),(20,va),(8,.int .i64 (p - S.a7 (cards.drop i) (pv.drop i)))]
 h0:g.h.get 0=.cells 4 [[.int .i64 gr,b,fl,S_]] 0 false false
 hf:g.h.get fb=.cells 3 [[va,ca,wa]] 0 false false
 nn:0<=p - S.a7 (cards.drop i) (pv.drop i)
 nx:1<=g.nx
structure WtJ (n:Net) (vals:List Int) (b fl S_ wv:AV) (k:Nat) (t:T) (g:G):Prop where
 st:St t [(1,wv),(2,.hptr 0 0 0 0),(12,fl),(5,.int .i64 (S.aH ((List.range k).map (S.bz n vals))))]
 h0:g.h.get 0=.cells 4 [[.int .i64 n.grain,b,fl,S_]] 0 false false
 nx:1<=g.nx
structure OdoJ (n:Net) (vs:List Int) (L:List (Nat×AV)) (u:AV) (g0:G) (m:Nat) (t:T) (g:G):Prop where
 st:tat t 6=.int .i64 ((m:Int) - 1)
 ss:St t L
 ow:Own g g0.nx u 1 ((vs.take m++List.replicate (vs.length - m) 0).map ci)
 mx:∀(j:Nat) (c:Int),m<=j->(S.aJ n)[j]?=some c->vs[j]?.getD 0=c - 1
def S.pb (n:Net)(e f:List Int)(w:Nat):Bool:=S.bo (S.bh (S.aJ n) (w:Int)) e&&S.bo (S.bh (S.aJ n) (w:Int)) f
structure GvJ (g0:G) (q:Nat) (s:Int) (h:H):Prop where
 fr:∀i,i<g0.nx->i≠q->h.get i=g0.h.get i
 hq:h.get q=.cells 1 [[.int .i64 s]] 0 false false
structure ND where
 c:Nat->Int
 P:Nat->List Int
 m:Nat->Nat
 R:Nat->Nat->List Int
 o:Nat->Nat
def LN (n:Nat)(D:ND):Ky->Prop:=fun k=>k=(0,0)\/∃i q,k=(i+1,q)/\i<n/\q<2+D.o i
theorem LN.z {n:Nat}{D:ND}:LN n D (0,0):=.inl rfl
theorem LN.s {n:Nat}{D:ND}{i q:Nat}(h:i<n)(hq:q<2+D.o i):LN n D (i+1,q):=.inr ⟨i,q,rfl,h,hq⟩
theorem LN.p {n:Nat}{D:ND}{i:Nat}(h:i<n):LN n D (i+1,0):=LN.s h (by omega)
theorem LN.r {n:Nat}{D:ND}{i:Nat}(h:i<n):LN n D (i+1,1):=LN.s h (by omega)
def qY (D:ND)(V:Ky->AV)(i:Nat):List AV:=[.int .i64 (D.c i),V (i+1,0),V (i+1,1)]
def Fq (V:Ky->AV)(i r:Nat):List AV:=[V (i+1,2+r)]
structure BN (K n:Nat) (V:Ky->AV) (E:Ky->En) (D:ND):Prop where
 ns:E (0,0)=.sl 3 ((List.range n).map (qY D V))
 ps:∀i,i<n->E (i+1,0)=.sl 1 ((D.P i).map ci)/\(D.P i).length<=K
 rs:∀i,i<n->E (i+1,1)=.sl 1 ((List.range (D.m i)).map (Fq V i))/\D.m i<=K
 rr:∀i r,i<n->r<D.m i->(D.R i r).length<=K/\((r<D.o i/\E (i+1,2+r)=.sl 1 ((D.R i r).map ci))\/SlR NoP 0 .nil (D.R i r) (V (i+1,2+r)))
theorem BN.up {K K' n:Nat}{V:Ky->AV}{E:Ky->En}{D:ND}(h:BN K n V E D)(hk:K<=K'):BN K' n V E D :=
 ⟨h.ns,fun i hi=>⟨(h.ps i hi).1,Nat.le_trans (h.ps i hi).2 hk⟩,fun i hi=>⟨(h.rs i hi).1,Nat.le_trans (h.rs i hi).2 hk⟩,fun i r hi hr=>⟨Nat.le_trans (h.rr i r hi hr).1 hk,(h.rr i r hi hr).2⟩⟩
def ND.node (D:ND)(i:Nat):Node:=⟨D.c i,D.P i,(List.range (D.m i)).map (D.R i)⟩
theorem xK {g:G}{b:Nat}{v:AV}{l:List Int}{P:Nat->Prop}(h:Own g b v 1 (l.map ci))(hl:l.length<9223372036854775808)(hp:∀i,b<=i->P i):SlR P 0 g.h l v :=
 Own.sl (α:=Int) h hl (All2.of_map (fun a=>bz.2 rfl) _) fun i hi=>hp i (h.lt hi).1
theorem BN.rows {g:G}{b K n i:Nat}{V:Ky->AV}{E:Ky->En}{D:ND}{L:Ky->Prop}(hB:BN K n V E D)(hH:Hp g b L V E)(hL:∀k,LN n D k->L k)(hK:K<=1000000)(hi:i<n):SlR (fun j=>b<=j) 0 g.h ((List.range (D.m i)).map (D.R i)) (V (i+1,1)):=by
 obtain ⟨h1,h2⟩:=hB.rs i hi
 have ho:=hH.own (hL _ (LN.r hi)) h1
 refine Own.sl (α:=List Int) ho (by simp;omega) (gQ fun r hr=>?_) fun j hj=>(ho.lt hj).1
 have hr:=List.mem_range.1 hr
 obtain ⟨h4,h3⟩:=hB.rr i r hi hr
 rcases h3 with ⟨h5,h3⟩ | h3
 ·exact aF.2 ⟨_,rfl,xK (hH.own (hL _ (LN.s hi (by omega))) h3) (by omega) fun _ h=>h⟩
 ·exact aF.2 ⟨_,rfl,(h3.tree (h':=g.h) (Nat.le_refl 0)).wd fun _ h=>h.elim⟩
theorem BN.pars {g:G}{b K n i:Nat}{V:Ky->AV}{E:Ky->En}{D:ND}{L:Ky->Prop}(hB:BN K n V E D)(hH:Hp g b L V E)(hL:∀k,LN n D k->L k)(hK:K<=1000000)(hi:i<n):SlR (fun j=>b<=j) 0 g.h (D.P i) (V (i+1,0)):=by
 obtain ⟨h1,h2⟩:=hB.ps i hi
 exact xK (hH.own (hL _ (LN.p hi)) h1) (by omega) fun _ h=>h
theorem BN.nodes {g:G}{b K n:Nat}{V:Ky->AV}{E:Ky->En}{D:ND}{L:Ky->Prop}(hB:BN K n V E D)(hH:Hp g b L V E)(hL:∀k,LN n D k->L k)(hK:K<=1000000)(hn:n<=1000000):SlR (fun j=>b<=j) 0 g.h ((List.range n).map D.node) (V (0,0)):=by
 have ho:=hH.own (hL _ LN.z) hB.ns
 refine Own.sl (α:=Node) ho (by simp;omega) (gQ fun i hi=>?_) fun j hj=>(ho.lt hj).1
 have hi:=List.mem_range.1 hi
 exact C6.2 ⟨_,_,rfl,hB.pars hH hL hK hi,hB.rows hH hL hK hi⟩
theorem rh {α:Type}(f:Nat->α){n i:Nat}(x:α)(hi:i<n):((List.range n).map f).set i x=(List.range n).map (ups f i x):=by
 refine List.ext_getElem (by simp) fun j h1 h2=>?_
 rw[List.getElem_set]
 by_cases e:i=j
 ·subst e;simp[cw]
 ·rw[if_neg e];simp[cW _ _ (Ne.symm e)]
theorem rB {α:Type}(f:Nat->α){n i:Nat}(hi:i<n):((List.range n).map f)[i]?=some (f i):=by simp[hi]
theorem Cb {D D':ND}{V V':Ky->AV}{n i:Nat}{row:List AV}(h0:row=qY D' V' i)(h:∀j,j<n->j≠i->qY D V j=qY D' V' j):(List.range n).map (ups (qY D V) i row)=(List.range n).map (qY D' V'):=by
 refine List.map_congr_left fun j hj=>?_
 have hj:=List.mem_range.1 hj
 by_cases e:j=i
 ·subst e;rw[cw,h0]
 ·rw[cW _ _ e,h j hj e]
def Fs (gr c:Int)(l:List Int):Prop:=(l.length:Int)=c/\(∀y∈l,0<=y/\y<=gr)/\l.sum=gr
def S.rq (gr s x:Int):Int:=gr*x / s
structure Rw1 (gr:Int) (nv u:AV) (C F j:Nat) (t:T) (g:G):Prop where
 st:St t [(0,.int .i64 gr),(1,.int .i64 (C:Int)),(2,nv),(3,.int .i64 (F:Int)),(9,u)]
 hX:∃(X:List Int) (s:Int),tat t 10=.int .i64 s/\X.length=C/\Own g 0 u 1 (X.map ci)/\(∀x∈X,0<=x/\x<=7)/\s=(X.take j).sum/\0<=s/\s<=7*j
structure Rw2 (gr s:Int) (u:AV) (C:Nat) (X:List Int) (j:Nat) (t:T) (g:G):Prop where
 st:St t [(0,.int .i64 gr),(1,.int .i64 (C:Int)),(9,u),(10,.int .i64 s)]
 hX:∃(la:Nat),tat t 12=.int .i64 (gr - ((X.take j).map (S.rq gr s)).sum)/\tat t 13=.int .i64 (la:Int)/\la<C/\Own g 0 u 1 (((X.take j).map (S.rq gr s)++X.drop j).map ci)
theorem qb (os:List UInt8):∀k,(S.ap os k).Perm ((List.range k).map fun i:Nat=>(i:Int))
 | 0=>.refl _
 | k+1=>by
  rw[List.range_succ,List.map_append,S.ap]
  refine List.perm_middle.trans ?_
  rw[List.take_append_drop]
  exact ((qb os k).cons _).trans (List.perm_append_comm (l₁:=[(k:Int)]))
structure Num (n:Nat) (pl:List Int) (num:Nat->Nat):Prop where
 len:pl.length=n
 at_:∀k,k<n->pl[k]?=some (num k:Int)
 lt:∀k,k<n->num k<n
 inj:∀i j,i<n->j<n->num i=num j->i=j
 sur:∀u,u<n->∃k,k<n/\num k=u
theorem EJ (os:List UInt8)(n:Nat):∃num,Num n (S.ap os n) num:=by
 have hp:=qb os n
 have hl:=kW os n
 have hmem:∀x∈S.ap os n,∃i:Nat,i<n/\x=(i:Int):=fun x hx=>by
  have:=hp.mem_iff.1 hx
  obtain ⟨i,hi,rfl⟩:=List.mem_map.1 this
  exact ⟨i,List.mem_range.1 hi,rfl⟩
 have hnd:(S.ap os n).Nodup:=by
  rw[hp.nodup_iff]
  refine List.Pairwise.map _ ?_ (List.nodup_range (n:=n))
  intro a b h e
  exact h (by omega)
 have hat:∀k,k<n->(S.ap os n)[k]?=some (((S.ap os n)[k]?.getD 0).toNat:Int)/\((S.ap os n)[k]?.getD 0).toNat<n:=fun k hk=>by
  have hk':k<(S.ap os n).length:=by omega
  have e:=List.getElem?_eq_getElem hk'
  obtain ⟨i,hi,h⟩:=hmem _ (List.getElem_mem hk')
  rw[e,Option.getD_some,h]
  simp[hi]
 refine ⟨fun k=>((S.ap os n)[k]?.getD 0).toNat,hl,fun k hk=>(hat k hk).1,fun k hk=>(hat k hk).2,fun i j hi hj h=>?_,fun u hu=>?_⟩
 ·have h1:=(hat i hi).1
  have h2:=(hat j hj).1
  refine (List.getElem?_inj (by omega) hnd).1 ?_
  rw[h1,h2]
  exact congrArg (fun x:Nat=>some (x:Int)) h
 ·have:(u:Int)∈S.ap os n:=hp.mem_iff.2 (List.mem_map.2 ⟨u,List.mem_range.2 hu,rfl⟩)
  obtain ⟨k,hk,he⟩:=List.mem_iff_getElem.1 this
  refine ⟨k,by omega,?_⟩
  rw[List.getElem?_eq_getElem hk,he];rfl
def LNX (X:Ky->Prop)(n:Nat)(D:ND):Ky->Prop:=fun k=>LN n D k\/X k
def X1:Ky->Prop:=fun k=>k=(0,1)
def X2:Ky->Prop:=fun k=>k=(0,1)\/k=(0,2)
structure DN (X:Ky->Prop) (r0:List AV) (n q K:Nat) (gr:Int) (V:Ky->AV) (E:Ky->En) (D:ND) (g:G):Prop where
 hp:Hp g 2 (LNX X n D) V E
 bn:BN K n V E D
 vb:V (0,1)=.hptr q 0 0 0
 bx:E (0,1)=.bx [.int .i64 gr,V (0,0)]
 h0:g.h.get 0=.cells 3 [r0] 0 false false
 h1:g.h.get 1=.cells 2 [[.int .i64 0,.nils]] 0 false false
theorem DN.q {X:Ky->Prop}{r0:List AV}{n q K:Nat}{gr:Int}{V:Ky->AV}{E:Ky->En}{D:ND}{g:G}(h:DN X r0 n q K gr V E D g)(hX:X (0,1)):g.h.get q=.cells 2 [[.int .i64 gr,V (0,0)]] 0 false false/\2<=q/\q<g.nx:=by
 obtain ⟨id,h1,h2,h3,h4⟩:=h.hp.box (k:=(0,1)) (.inr hX) h.bx
 rw[h.vb] at h3;injection h3 with h3;subst h3
 exact ⟨h4,h1,h2⟩
theorem DN.ns {X:Ky->Prop}{r0:List AV}{n q K:Nat}{gr:Int}{V:Ky->AV}{E:Ky->En}{D:ND}{g:G}(h:DN X r0 n q K gr V E D g):Own g 2 (V (0,0)) 3 ((List.range n).map (qY D V)):=h.hp.own (.inl LN.z) h.bn.ns
theorem DN.same {X:Ky->Prop}{r0:List AV}{n q K:Nat}{gr:Int}{V:Ky->AV}{E:Ky->En}{D:ND}{g g':G}(h:DN X r0 n q K gr V E D g)(hf:Fr g g'):DN X r0 n q K gr V E D g':=by
 have:=h.hp.nx
 exact ⟨h.hp.step hf.1 fun i _ hi=>hf.2 i hi,h.bn,h.vb,h.bx,by rw[hf.2 0 (by omega),h.h0],by rw[hf.2 1 (by omega),h.h1]⟩
theorem DN.card {X:Ky->Prop}{r0:List AV}{n q K i:Nat}{gr c:Int}{V:Ky->AV}{E:Ky->En}{D:ND}{g:G}{KK:AV->G->Prop}{DD:ADf->Prop}(h:DN X r0 n q K gr V E D g)(hi:i<n)(hX:∀k,X k->k≠(0,0))
  (kk:∀g' E',DN X r0 n q K gr V E' { D with c:=ups D.c i c } g'->g'.nx=g.nx->KK .undef g'):(jS 1 (mM 3 (V (0,0)) i 0) (.int .i64 c) g).sat KK g DD:=by
 refine h.hp.put (k:=(0,0)) (row:=qY D V i) (row':=[.int .i64 c,V (i+1,0),V (i+1,1)]) (.inl LN.z) h.bn.ns (rB _ hi) rfl rfl rfl fun g' hH hn hf1 hf2=>?_
 refine kk g' _ ⟨hH.sub fun k hk=>hk,⟨?_,fun j hj=>?_,fun j hj=>?_,fun j r hj hr=>?_⟩,h.vb,?_,by rw[hf1 0 (by omega),h.h0],by rw[hf1 1 (by omega),h.h1]⟩ hn
 ·rw[cw,rh _ _ hi]
  congr 1
  refine Cb (by simp[qY,cw]) fun j hj hne=>by simp[qY,cW _ _ hne]
 ·rw[cW _ _ (by simp)];exact h.bn.ps j hj
 ·rw[cW _ _ (by simp)];exact h.bn.rs j hj
 ·rw[cW _ _ (by simp)];exact h.bn.rr j r hj hr
 ·rw[cW _ _ (by simp)];exact h.bx
structure NumI (n:Nat) (num:Nat->Nat) (Y:List Nat):Prop where
 l:Y.length=n
 b:∀i,i<n->∀u,(Par Y (num i)).testBit u=true->∃k,k<i/\u=num k
theorem zK {n:Nat}{num:Nat->Nat}:NumI n num (List.replicate n 0):=by
 refine ⟨by simp,fun i hi u h=>?_⟩
 have:Par (List.replicate n 0) (num i)=0:=by
  unfold Par
  rw[List.getElem?_replicate]
  split<;>rfl
 rw[this,Nat.zero_testBit] at h;cases h
theorem AF {n i k x:Nat}{num:Nat->Nat}{pl:List Int}{Y:List Nat}(hn:Num n pl num)(h:NumI n num Y)(hi:i<n)(hk:k<i)(hx:Y[num i]?=some x):NumI n num (Y.set (num i) (x ||| 2 ^ num k)):=by
 refine ⟨by simp[h.l],fun j hj u hu=>?_⟩
 have hil:=(List.getElem?_eq_some_iff.1 hx).1
 unfold Par at hu
 by_cases e:i=j
 ·subst e
  rw[List.getElem?_set_self hil,Option.getD_some,Nat.testBit_or,Bool.or_eq_true] at hu
  rcases hu with hu | hu
  ·exact h.b i hi u (by rw[Par,hx];exact hu)
  ·rw[Nat.testBit_two_pow,decide_eq_true_iff] at hu
   exact ⟨k,hk,hu.symm⟩
 ·rw[List.getElem?_set_ne fun e'=>e (hn.inj i j hi hj e')] at hu
  exact h.b j hj u hu
theorem BK {n:Nat}{num:Nat->Nat}{pl:List Int}{Y:List Nat}(hn:Num n pl num)(h1:1<=n)(h8:n<=8)(h:NumI n num Y):GOk Y:=by
 have hp:∀x∈Y,x<2 ^ Y.length:=fun x hx=>by
  obtain ⟨v,hv,rfl⟩:=List.mem_iff_getElem.1 hx
  rw[h.l] at hv ⊢
  obtain ⟨i,hi,rfl⟩:=hn.sur v hv
  refine Nat.lt_pow_two_of_testBit _ fun u hu=>?_
  rw[<-Bool.not_eq_true]
  intro hb
  obtain ⟨k,hk,rfl⟩:=h.b i hi u (by rw[Par,List.getElem?_eq_getElem (by rw[h.l];exact hv)];exact hb)
  have:=hn.lt k (by omega)
  omega
 obtain ⟨rk,hrk⟩:∃rk:Nat->Nat,∀i,i<n->rk (num i)=i:=by
  have:∀v,∃r:Nat,∀i,i<n->num i=v->r=i:=fun v=>by
   by_cases hv:v<n
   ·obtain ⟨k,hk,e⟩:=hn.sur v hv
    exact ⟨k,fun i hi e'=>hn.inj k i hk hi (by rw[e,e'])⟩
   ·exact ⟨0,fun i hi e=>absurd (hn.lt i hi) (by omega)⟩
  exact ⟨fun v=>Classical.choose (this v),fun i hi=>Classical.choose_spec (this (num i)) i hi rfl⟩
 refine ⟨by rw[h.l];exact h1,by rw[h.l];exact h8,hp,mY hp (rk:=rk) fun u v e=>?_⟩
 have hv:=(kK hp e).2
 rw[h.l] at hv
 obtain ⟨i,hi,rfl⟩:=hn.sur v hv
 obtain ⟨k,hk,rfl⟩:=h.b i hi u e
 rw[hrk i hi,hrk k (by omega)]
 exact hk
theorem Ek {a b v:Nat}:Bt (a ||| b) v↔Bt a v\/Bt b v:=by rw[Bt,Nat.testBit_or,Bool.or_eq_true];rfl
theorem yQ {a b:Nat}:a &&& b=0↔∀v,¬(Bt a v/\Bt b v):=by
 rw[<-Classical.not_not (a:=a &&& b=0)]
 show ¬(a &&& b≠0)↔_
 rw[sX]
 exact ⟨fun h v hv=>h ⟨v,hv⟩,fun h ⟨v,hv⟩=>h v hv⟩
theorem pG {a b v:Nat}:Bt (a ^^^ (a &&& b)) v↔Bt a v/\¬Bt b v:=by
 rw[Bt,Nat.testBit_xor,Nat.testBit_and]
 unfold Bt
 cases a.testBit v<;>cases b.testBit v<;>simp
theorem tC {a b n:Nat}(h:a<2 ^ n):a ^^^ (a &&& b)<2 ^ n:=Nat.xor_lt_two_pow h (Nat.lt_of_le_of_lt Nat.and_le_left h)
end
end Hx
end
section
namespace Hx
open Go Classical
noncomputable section
section
variable {p:List Nat}
def S.wo (p:List Nat)(s:Nat):List Nat:=p.map fun x=>x ^^^ (x &&& s)
theorem mh (s:Nat):(S.wo p s).length=p.length:=by simp[S.wo]
theorem Fd {s u v:Nat}:Eg (S.wo p s) u v↔Eg p u v/\¬Bt s u:=by
 unfold Eg Par S.wo
 rw[List.getElem?_map]
 cases h:p[v]? with
 | none=>simp
 | some x=>exact pG
theorem Ej {s:Nat}(h:GOk p):GOk (S.wo p s):=by
 have hp:∀x∈S.wo p s,x<2 ^ (S.wo p s).length:=fun x hx=>by
  rw[mh]
  obtain ⟨y,hy,rfl⟩:=List.mem_map.1 hx
  exact tC (h.hp y hy)
 refine ⟨by rw[mh];exact h.l1,by rw[mh];exact h.l8,hp,?_⟩
 exact mY hp fun u v e=>xG h.hp h.ac u v (Fd.1 e).1
def S.ct (p:List Nat)(s:Nat):List Nat:=(List.range p.length).map fun v=>if s.testBit v then 0 else Par p v
theorem Ab (s:Nat):(S.ct p s).length=p.length:=by simp[S.ct]
theorem Ez {s v:Nat}:Par (S.ct p s) v=if s.testBit v then 0 else Par p v:=by
 by_cases hv:v<p.length
 ·conv=>lhs;unfold Par S.ct
  rw[List.getElem?_map,List.getElem?_range hv];rfl
 ·unfold Par S.ct
  rw[List.getElem?_eq_none (by simp;omega),List.getElem?_eq_none (by omega)];simp
theorem CT:S.ct p 0=p:=by
 refine List.ext_getElem? fun v=>?_
 by_cases hv:v<p.length
 ·rw[S.ct,List.getElem?_map,List.getElem?_range hv,Option.map_some,Nat.zero_testBit]
  simp[Par,List.getElem?_eq_getElem hv]
 ·rw[List.getElem?_eq_none (by rw[Ab];omega),List.getElem?_eq_none (by omega)]
end
end
end Hx
end
section
namespace Hx
open Go
noncomputable section
def S.bm (x:Nat):Nat->Nat
 | 0=>8
 | k+1=>if x.testBit (7 - k) then 7 - k else S.bm x k
def S.tz (x:Nat):Nat:=S.bm x 8
theorem E9:∀x:Nat,x<256->x≠0->x &&& (18446744073709551616 - x)=2 ^ S.tz x/\S.tz x<8/\x &&& (x - 1)=x ^^^ 2 ^ S.tz x/\x.testBit (S.tz x)=true:=by decide +kernel
def rA:List (List AV):=[[.int .u8 0,.int .u8 1,.int .u8 56,.int .u8 2,.int .u8 57,.int .u8 49,.int .u8 28,.int .u8 3,.int .u8 61,.int .u8 58,.int .u8 42,.int .u8 50,.int .u8 38,.int .u8 29,.int .u8 17,.int .u8 4,.int .u8 62,.int .u8 47,.int .u8 59,.int .u8 36,.int .u8 45,.int .u8 43,.int .u8 51,.int .u8 22,.int .u8 53,.int .u8 39,.int .u8 33,.int .u8 30,.int .u8 24,.int .u8 18,.int .u8 12,.int .u8 5,.int .u8 63,.int .u8 55,.int .u8 48,.int .u8 27,.int .u8 60,.int .u8 41,.int .u8 37,.int .u8 16,.int .u8 46,.int .u8 35,.int .u8 44,.int .u8 21,.int .u8 52,.int .u8 32,.int .u8 23,.int .u8 11,.int .u8 54,.int .u8 26,.int .u8 40,.int .u8 15,.int .u8 34,.int .u8 20,.int .u8 31,.int .u8 10,.int .u8 25,.int .u8 14,.int .u8 19,.int .u8 9,.int .u8 13,.int .u8 8,.int .u8 7,.int .u8 6]]
theorem EM (b:Nat)(hb:b<8):∃i p,aS .shr (.int .u64 (IntKind.u64.wrap (((2 ^ b:Nat):Int)*285870213051353865))) (.int .u64 58)=.val i/\AZ 64 1 (.tptr 0 64 rA 0 0) i=.val p/\∀g,iY false 1 p g=.val (.int .u8 (b:Int)):=by
 match b,hb with
 | 0,_=>exact ⟨.int .u64 0,.tptr 0 64 rA 0 0,by kernel_rfl,by kernel_rfl,fun g=>by kernel_rfl⟩
 | 1,_=>exact ⟨.int .u64 1,.tptr 0 64 rA 0 1,by kernel_rfl,by kernel_rfl,fun g=>by kernel_rfl⟩
 | 2,_=>exact ⟨.int .u64 3,.tptr 0 64 rA 0 3,by kernel_rfl,by kernel_rfl,fun g=>by kernel_rfl⟩
 | 3,_=>exact ⟨.int .u64 7,.tptr 0 64 rA 0 7,by kernel_rfl,by kernel_rfl,fun g=>by kernel_rfl⟩
 | 4,_=>exact ⟨.int .u64 15,.tptr 0 64 rA 0 15,by kernel_rfl,by kernel_rfl,fun g=>by kernel_rfl⟩
 | 5,_=>exact ⟨.int .u64 31,.tptr 0 64 rA 0 31,by kernel_rfl,by kernel_rfl,fun g=>by kernel_rfl⟩
 | 6,_=>exact ⟨.int .u64 63,.tptr 0 64 rA 0 63,by kernel_rfl,by kernel_rfl,fun g=>by kernel_rfl⟩
 | 7,_=>exact ⟨.int .u64 62,.tptr 0 64 rA 0 62,by kernel_rfl,by kernel_rfl,fun g=>by kernel_rfl⟩
theorem CX {d x:Nat}{g:G}(hd:0<d)(hx:x<256)(h0:x≠0):ap C0 d N.aI [.int .u64 (x:Int)] g=.val (.int .i64 (S.tz x:Int)):=by
 obtain ⟨h1,h2,-⟩:=E9 x hx h0
 rw[fX]
 refine dZ gK (xs:=[.int .u64 (x:Int)]) (by simp only[az,aX 0]) (by simp[bL]) hd ?_
 have c0:¬(x:Int)=0:=by omega
 have hneg:unV .neg (.int .u64 (x:Int))=.val (.int .u64 ((18446744073709551616 - x:Nat):Int)):=by
  show OR.val (.int .u64 (IntKind.wrap .u64 (0 - (x:Int))))=_
  have:IntKind.wrap .u64 (0 - (x:Int))=((18446744073709551616 - x:Nat):Int):=by
   show (0 - (x:Int)) % 18446744073709551616=_
   omega
  rw[this]
 have hand:aS .and (.int .u64 (x:Int)) (.int .u64 ((18446744073709551616 - x:Nat):Int))=.val (.int .u64 ((2 ^ S.tz x:Nat):Int)):=by
  rw[bj x (18446744073709551616 - x) (by omega) (by omega),h1]
 simp only[sz,simprocAttr,bL,c0,hneg,hand]
 obtain ⟨b,hb⟩:∃b,b=S.tz x:=⟨_,rfl⟩
 rw[<-hb] at h2 ⊢
 clear hand hb h1
 obtain ⟨i,p,t1,t2,t3⟩:=EM b h2
 rw[rA] at t2
 simp only[sz,simprocAttr,t1,t2,t3]
 rw[dO (by omega) (by omega)]
end
end Hx
end
