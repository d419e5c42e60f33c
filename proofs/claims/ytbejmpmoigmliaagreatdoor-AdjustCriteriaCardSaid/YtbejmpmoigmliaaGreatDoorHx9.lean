/- A part of the proof: an interpreter over abstract values, shown right against the model, and what the functions of the chapter compute on it. -/
import Derived.Test.YtbejmpmoigmliaaGreatDoorHx8
set_option linter.unusedVariables false
set_option linter.unusedSimpArgs false
set_option linter.unnecessarySimpa false
section
section
namespace Hx
open Go
noncomputable section
theorem br {α:Type}{l:List α}{j:Nat}(h:j<l.length):∃x,l[j]?=some x/\l.take (j+1)=l.take j++[x]/\x∈l :=
 ⟨l[j],List.getElem?_eq_getElem h,by rw[List.take_add_one,List.getElem?_eq_getElem h];rfl,List.getElem_mem h⟩
def S.bz (l:List Int):Int:=l.foldl (fun s x=>IntKind.wrap .i64 (s*x)) 1
def S.bk (l:List Int)(n:Int)(i:Nat):Bool:=decide (0<=l[i]?.getD 0)&&decide (l[i]?.getD 0<n)&&(i == 0 || decide (l[i - 1]?.getD 0<l[i]?.getD 0))
def S.aV (l:List Int)(n:Int):Bool:=(List.range l.length).all (S.bk l n)
def S.an (n:Nat):Nat:=1*2 ^ n % 18446744073709551616
def S.aZ (l:List Int):Nat:=l.foldl (fun s x=>s ||| S.an x.toNat) 0
theorem jK (n:Nat):S.an n<18446744073709551616:=Nat.mod_lt _ (by decide)
theorem aG (k':IntKind)(n:Nat):aX .shl (.int .u64 1) (.int k' (n:Int))=.val (.int .u64 (S.an n:Int)):=xJ k' 1 n
def S.aM (s v:Nat):Bool:=s / 2 ^ v &&& 1 == 1
theorem iN {d:Nat}{g:G}{s v:Nat}(hd:0<d)(hs:s<18446744073709551616)(hv:v<9223372036854775808) :
  ap C0 d N.aa [.int .u64 (s:Int),.int .i64 (v:Int)] g=.val (.bool (S.aM s v)):=by
 rw[qx]
 refine cG tT (xs:=[.int .u64 (s:Int),.int .i64 (v:Int)]) (by simp only[aA,aW 0]) (by simp[lK]) hd ?_
 have h1:s / 2 ^ v<18446744073709551616:=Nat.lt_of_le_of_lt (Nat.div_le_self _ _) hs
 have h2:aX .and (.int .u64 ((s / 2 ^ v:Nat):Int)) (.int .u64 1)=.val (.int .u64 ((s / 2 ^ v &&& 1:Nat):Int)):=bp (s / 2 ^ v) 1 h1 (by decide)
 simp only[sz,simprocAttr,lK,cU (show (0:Int)<=(v:Int) by omega) (by omega),aJ _ _ _ hs,h2,S.aM]
 congr 1
 generalize s / 2 ^ v &&& 1=z
 rw[Bool.eq_iff_iff,decide_eq_true_iff,beq_iff_eq];omega
def S.au (p:List Nat)(s:Nat)(j:Nat):Nat:=(List.range j).foldl (fun s v=>if S.aM s v then s ||| p[v]?.getD 0 else s) s
def S.up (p:List Nat)(s:Nat)(j:Nat):Nat:=(List.range j).foldl (fun s _=>S.au p s p.length) s
theorem um {p:List Nat}(hp:∀x∈p,x<18446744073709551616){s:Nat}(hs:s<18446744073709551616):∀j,S.au p s j<18446744073709551616:=by
 intro j
 induction j with
 | zero=>exact hs
 | succ j ih =>
  unfold S.au at ih ⊢
  rw[List.range_succ,List.foldl_append]
  simp only[List.foldl_cons,List.foldl_nil]
  split
  ·refine wm ih ?_
   cases h:p[j]? with
   | none=>decide
   | some x=>exact hp x (List.mem_of_getElem? h)
  ·exact ih
theorem di (p:List Nat)(s j:Nat):S.au p s (j+1)=if S.aM (S.au p s j) j then S.au p s j ||| p[j]?.getD 0 else S.au p s j:=by
 unfold S.au
 rw[List.range_succ,List.foldl_append];rfl
theorem CG {p:List Nat}(hp:∀x∈p,x<18446744073709551616){s:Nat}(hs:s<18446744073709551616):∀j,S.up p s j<18446744073709551616:=by
 intro j
 induction j with
 | zero=>exact hs
 | succ j ih =>
  unfold S.up at ih ⊢
  rw[List.range_succ,List.foldl_append]
  exact um hp ih _
theorem fZ (p:List Nat)(s j:Nat):S.up p s (j+1)=S.au p (S.up p s j) p.length:=by
 unfold S.up
 rw[List.range_succ,List.foldl_append];rfl
theorem D3 {d k:Nat}{g:G}{P:Nat->Prop}{v:AV}{p:List Nat}{s:Nat}(hd:0<d)(hv:SlR P k g.h p v)(hs:s<18446744073709551616) :
  ap C0 d N.aL [v,.int .u64 (s:Int)] g=.val (.int .u64 (S.up p s p.length:Int)):=by
 obtain ⟨v',e,r1⟩:=bY hv d
 have hp:=bf hv
 have hl:=hv.1
 rw[qp]
 refine eN uE (xs:=[v',.int .u64 (s:Int)]) (by simp only[aA,e,aW 0]) (by simp[l4]) hd ?_
 simp only[sz,simprocAttr,l4]
 refine eT hl (r1 .nil).len (fun j t df g=>df=[]/\tat t 1=.int .u64 (S.up p s j:Int)) ⟨rfl,by simp[sx,S.up]⟩ (by simp[sx]) (by simp[sx]) (by decide)
  (by rintro j t df g v s (rfl | rfl | rfl | rfl | rfl | rfl | rfl)<;>simp[sx]) ?_ ?_
 ·rintro j t df g hj ⟨rfl,h1⟩ h5 h0
  simp only[sz,simprocAttr]
  have hu:=CG hp hs j
  refine eT hl (r1 .nil).len (fun i t df g=>df=[]/\tat t 5=.int .i64 (j:Int)/\tat t 1=.int .u64 (S.au p (S.up p s j) i:Int)) ⟨rfl,by simp[sx,h5],by simp[sx,S.au,h1]⟩ (by simp[sx]) (by simp[sx,h0]) (by decide)
   (by rintro j t df g v s (rfl | rfl | rfl | rfl | rfl | rfl | rfl)<;>simp[sx]) ?_ ?_
  ·rintro i t df g hi ⟨rfl,h5,h1⟩ h6 h0
   have hr:=um hp hu i
   obtain ⟨x,hx,-,hm⟩:=br hi
   simp only[sz,simprocAttr,h1,h6,iN (Nat.succ_pos d) hr (show i<9223372036854775808 by omega)]
   refine xp (fun hb=>?_) (fun hb=>?_)
   ·simp only[sz,simprocAttr,h0,h1,h5,h6,(r1 g.h).nats,hi,hx,List.length_map,List.getElem?_map,Option.map_some,cu,fp _ _ hr (hp x hm)]
    rw[di,hb,hx];rfl
   ·simp only[sx,sy,↓reduceIte,Nat.reduceEqDiff,h0,h1,h5,h6]
    rw[di,hb];rfl
  ·rintro t df g ⟨rfl,h5,h1⟩ h0
   simp only[sx,sy,↓reduceIte,h0,h5,h1]
   rw[fZ]
 ·rintro t df g ⟨rfl,h1⟩ -
  simp only[sz,simprocAttr,lG,h1]
def S.aC (p:List Nat):Bool:=(List.range p.length).all fun v=>!S.aM (S.up p (p[v]?.getD 0) p.length) v
theorem uf {d k:Nat}{g:G}{P:Nat->Prop}{v:AV}{p:List Nat}(hd:0<d)(hv:SlR P k g.h p v) :
  ap C0 d N.aS [v] g=.val (.bool (S.aC p)):=by
 obtain ⟨v',e,r1⟩:=bY hv d
 have hp:=bf hv
 have hl:=hv.1
 rw[lX]
 refine cG nH (xs:=[v']) (by simp only[aA,e]) (by simp[fS]) hd ?_
 simp only[sz,simprocAttr,fS]
 refine eT hl (r1 .nil).len (fun j t df g=>df=[]/\(List.range j).all (fun v=>!S.aM (S.up p (p[v]?.getD 0) p.length) v)=true) ⟨rfl,rfl⟩ (by simp[sx]) (by simp[sx]) (by decide)
  (by rintro j t df g v s (rfl | rfl | rfl | rfl | rfl | rfl | rfl)<;>simp[sx]) ?_ ?_
 ·rintro j t df g hj ⟨rfl,hw⟩ h3 h0
  obtain ⟨x,hx,-,hm⟩:=br hj
  have hx':=hp x hm
  simp only[sz,simprocAttr,h0,h3,(r1 g.h).nats,hj,hx,List.length_map,List.getElem?_map,Option.map_some,cu,D3 (Nat.succ_pos d) (r1 g.h) hx',iN (Nat.succ_pos d) (CG hp hx' _) (show j<9223372036854775808 by omega)]
  refine xp (fun hb=>?_) (fun hb=>?_)
  ·simp only[sz,simprocAttr]
   rw[S.aC,oE hj (by rw[hx];simp[hb])]
  ·simp only[sx,sy,↓reduceIte,Nat.reduceEqDiff,h0,h3]
   rw[p0,hw,hx];simp[hb]
 ·rintro t df g ⟨rfl,hw⟩ h0
  simp only[sz,simprocAttr,gC]
  rw[S.aC,hw]
def S.aD (l:List Int):Int:=l.foldl (·*·) 1
def S.bj (m:Causal)(p:Int):Int:=(m.nodes[p.toNat]?.map (·.card)).getD 0
def S.bm (m:Causal)(r:Int):Int:=(m.roots[r.toNat]?.map fun r=>(r.length:Int)).getD 0
def S.aP (a b:Nat):Nat:=a ^^^ (a &&& b)
theorem cP {n:Nat}(h:n<64):S.an n=2 ^ n:=by
 unfold S.an
 rw[Nat.one_mul,Nat.mod_eq_of_lt]
 exact Nat.pow_lt_pow_right (a:=2) (by decide) h
def S.bg (m:Causal)(x:Mech):List Int:=x.frm.map (S.bj m)++x.noise.map (S.bm m)
def S.br (m:Causal):Int:=S.aD (m.roots.map fun r=>(r.length:Int))
end
end Hx
end
section
namespace Hx
open Go
def Sub (a s:Nat):Prop:=∀v,a.testBit v=true->s.testBit v=true
theorem kH (s v:Nat):S.aM s v=s.testBit v:=by
 rw[Nat.testBit_eq_decide_div_mod_eq,S.aM,Nat.and_one_is_mod]
 rw[Bool.eq_iff_iff,beq_iff_eq,decide_eq_true_iff]
theorem rH {a s:Nat}:S.aP a s=0↔Sub a s:=by
 constructor
 ·intro h v hv
  have:=congrArg (·.testBit v) h
  simp[S.aP,hv] at this
  exact this
 ·intro h
  refine Nat.eq_of_testBit_eq fun v=>?_
  have:=h v
  simp only[S.aP,Nat.testBit_xor,Nat.testBit_and,Nat.zero_testBit]
  cases ha:a.testBit v
  ·rfl
  ·rw[this ha];rfl
theorem jz (a b v:Nat):(a ||| b).testBit v=(a.testBit v || b.testBit v):=Nat.testBit_or a b v
theorem uZ {n:Nat}(h:n<64)(v:Nat):(S.an n).testBit v=decide (n=v):=by rw[cP h,Nat.testBit_two_pow]
section
variable {p:List Nat}
def Par (p:List Nat)(v:Nat):Nat:=p[v]?.getD 0
def Cl (p:List Nat)(s:Nat):Prop:=∀v,v<p.length->s.testBit v=true->Sub (Par p v) s
theorem qQ {s t:Nat}(hc:Cl p t)(h:Sub s t):∀j,j<=p.length->Sub (S.au p s j) t
 | 0,_=>h
 | j+1,hj=>by
  have ih:=qQ hc h j (by omega)
  rw[di]
  split
  ·rename_i hb
   rw[kH] at hb
   intro v hv
   rw[jz,Bool.or_eq_true] at hv
   rcases hv with hv | hv
   ·exact ih v hv
   ·exact hc j (by omega) (ih j hb) v hv
  ·exact ih
theorem ph {s t:Nat}(hc:Cl p t)(h:Sub s t):∀j,Sub (S.up p s j) t
 | 0=>h
 | j+1=>by rw[fZ];exact qQ hc (ph hc h j) _ (Nat.le_refl _)
def vF (p:List Nat)(s:Nat):Prop:=Cl p s/\∀v,v<p.length->s.testBit v=true->(S.up p (Par p v) p.length).testBit v=false
theorem mO:S.aC p=true↔∀v,v<p.length->(S.up p (Par p v) p.length).testBit v=false:=by
 unfold S.aC
 rw[List.all_eq_true]
 constructor
 ·intro h v hv
  have:=h v (List.mem_range.2 hv)
  rw[kH] at this
  simpa [Par] using this
 ·intro h v hv
  have:=h v (List.mem_range.1 hv)
  rw[kH]
  simpa [Par] using this
def bct (s:Nat):Nat->Nat
 | 0=>0
 | n+1=>bct s n+(if s.testBit n then 1 else 0)
theorem vJ (s:Nat):∀n,bct s n<=n
 | 0=>Nat.le_refl _
 | n+1=>by have:=vJ s n;unfold bct;split<;>omega
theorem tC {a s:Nat}(h:Sub a s):∀n,bct a n<=bct s n
 | 0=>Nat.le_refl _
 | n+1=>by
  have:=tC h n
  unfold bct
  split
  ·rename_i hb;rw[if_pos (h n hb)];omega
  ·split<;>omega
theorem Bb {a s:Nat}(h:Sub a s){v:Nat}(hv:s.testBit v=true)(ha:a.testBit v=false):∀n,v<n->bct a n<bct s n
 | 0,h0=>by omega
 | n+1,hn=>by
  unfold bct
  by_cases hvn:v=n
  ·subst hvn
   have:=tC h v
   rw[if_pos hv,ha];simp;omega
  ·have:=Bb h hv ha n (by omega)
   split
   ·rename_i hb;rw[if_pos (h n hb)];omega
   ·split<;>omega
theorem tR {s:Nat}:∀n,bct s n=n->∀v,v<n->s.testBit v=true
 | 0,_,v,h=>by omega
 | n+1,h,v,hv=>by
  unfold bct at h
  have:=vJ s n
  split at h
  ·rename_i hb
   by_cases e:v=n
   ·subst e;exact hb
   ·exact tR n (by omega) v (by omega)
  ·omega
theorem mu {a s:Nat}(h:Sub a s)(h':Sub s a):a=s:=Nat.eq_of_testBit_eq fun v=>by
 cases ha:a.testBit v
 ·cases hs:s.testBit v
  ·rfl
  ·rw[h' v hs] at ha;cases ha
 ·rw[h v ha]
theorem AR {a s:Nat}(h:Sub a s):a<=s:=by
 have:a ||| s=s:=Nat.eq_of_testBit_eq fun v=>by
  rw[jz]
  cases ha:a.testBit v
  ·simp
  ·rw[h v ha];rfl
 rw[<-this];exact Nat.left_le_or
theorem ji (s:Nat):∀j,Sub s (S.au p s j)
 | 0=>fun _ h=>h
 | j+1=>by
  have ih:=ji s j
  rw[di]
  split
  ·intro v hv;rw[jz,ih v hv];rfl
  ·exact ih
theorem uT {s:Nat}{j k:Nat}(h:j<=k):Sub (S.au p s j) (S.au p s k):=by
 induction h with
 | refl=>exact fun _ h=>h
 | step _ ih =>
  rw[di]
  split
  ·intro v hv;rw[jz,ih v hv];rfl
  ·exact ih
theorem xZ {s:Nat}(h:S.au p s p.length=s):Cl p s:=by
 intro v hv hb u hu
 have h1:(S.au p s v).testBit v=true:=ji s v v hb
 have h2:(S.au p s (v+1)).testBit u=true:=by
  rw[di,kH,h1,if_pos rfl,jz]
  have:(p[v]?.getD 0).testBit u=true:=hu
  rw[this];simp
 have:=uT (p:=p) (s:=s) (show v+1<=p.length by omega) u h2
 rwa [h] at this
theorem od {s n v:Nat}(h:s<2 ^ n)(hv:s.testBit v=true):v<n:=by
 rcases Nat.lt_or_ge v n with h1 | h1
 ·exact h1
 ·rw[Nat.testBit_lt_two_pow (Nat.lt_of_lt_of_le h (Nat.pow_le_pow_right (by decide) h1))] at hv;cases hv
theorem CM {f:Nat->Nat}{n:Nat}(hm:∀j,Sub (f j) (f (j+1)))(hb:∀j,f j<2 ^ n)(hs:∀j,f (j+1)=f j->f (j+2)=f (j+1)):f (n+1)=f n:=by
 have key:∀j,j<=bct (f j) n\/f (j+1)=f j:=by
  intro j
  induction j with
  | zero=>exact .inl (Nat.zero_le _)
  | succ j ih =>
   rcases ih with ih | ih
   ·by_cases e:f (j+1)=f j
    ·exact .inr (hs j e)
    ·left
     have:∃v,(f (j+1)).testBit v=true/\(f j).testBit v=false:=by
      apply Classical.byContradiction
      intro hno
      apply e
      refine mu (fun v hv=>?_) (hm j)
      cases hc:(f j).testBit v
      ·exact absurd ⟨v,hv,hc⟩ hno
      ·rfl
     obtain ⟨v,h1,h2⟩:=this
     have:=Bb (hm j) h1 h2 n (od (hb _) h1)
     omega
   ·exact .inr (hs j ih)
 rcases key n with h | h
 ·have hc:bct (f n) n=n:=by have:=vJ (f n) n;omega
  refine mu (fun v hv=>?_) (hm n)
  exact tR n hc v (od (hb _) hv)
 ·exact h
theorem AG {a b n:Nat}(h:a<2 ^ n)(h':b<2 ^ n):a ||| b<2 ^ n:=Nat.or_lt_two_pow h h'
theorem jn {v:Nat}(hp:∀x∈p,x<2 ^ p.length):Par p v<2 ^ p.length:=by
 unfold Par
 cases h:p[v]? with
 | none=>exact Nat.pow_pos (by decide)
 | some x=>exact hp x (List.mem_of_getElem? h)
theorem nN (hp:∀x∈p,x<2 ^ p.length){s:Nat}(hs:s<2 ^ p.length):∀j,S.au p s j<2 ^ p.length
 | 0=>hs
 | j+1=>by
  have ih:=nN hp hs j
  rw[di]
  split
  ·exact AG ih (jn hp)
  ·exact ih
theorem pR (hp:∀x∈p,x<2 ^ p.length){s:Nat}(hs:s<2 ^ p.length):∀j,S.up p s j<2 ^ p.length
 | 0=>hs
 | j+1=>by rw[fZ];exact nN hp (pR hp hs j) _
theorem nr (hp:∀x∈p,x<2 ^ p.length){s:Nat}(hs:s<2 ^ p.length):Cl p (S.up p s p.length):=by
 apply xZ
 rw[<-fZ]
 exact CM (f:=fun j=>S.up p s j) (fun j=>by rw[fZ];exact ji _ _) (fun j=>pR hp hs j) (fun j e=>by
  have e:S.up p s (j+1)=S.up p s j:=e
  show S.up p s (j+1+1)=S.up p s (j+1)
  rw[fZ,e,<-fZ,e])
theorem oZ {s:Nat}:∀j,Sub s (S.up p s j)
 | 0=>fun _ h=>h
 | j+1=>fun v hv=>by rw[fZ];exact ji _ _ v (oZ j v hv)
end
end Hx
end
section
namespace Hx
open Go
noncomputable section
def Raw (w:AV):Prop:=w=.nils\/∃rows,w=.tsl 0 1 rows
theorem yZ (z:AV)(k k' k2:IntKind)(x y w:Int)(g:G):AW 1 3 [z] [0,1,2] [.int k x,.int k' y,.int k2 w] g=.upd (.hsl g.nx 0 0 3 none) (g.new (.cells 1 [[.int k x],[.int k' y],[.int k2 w]] 0 false false)):=rfl
theorem ve {g:G}{b sz:Nat}{u:AV}{rows:List (List AV)}(hu:Own g b u sz rows){n:Nat}(hn:n<=rows.length) :
  ∃y,tv sz u none (some (.int .i64 (n:Int))) g=.val y/\aw g.h sz y=some (rows.take n):=by
 rcases hu with ⟨rfl,rfl⟩ | ⟨id,ep,lo,h1,h2,rfl,h3⟩
 ·have:n=0:=by simpa using hn
  subst this
  exact ⟨.nils,rfl,rfl⟩
 ·simp only[tv,i6,h3,Nat.beq_refl,Nat.beq_refl,Bool.true_and,am,Nat.zero_add,aa,Nat.ble_eq,Nat.le_refl,if_true,aN,Option.getD_none,Nat.sub_zero]
  simp only[eo]
  rw[show af (n.ble rows.length) (some n) none=some n from by rw[aa,if_pos (by simpa using hn)]]
  dsimp only
  by_cases h0:rows=[]
  ·subst h0
   have:n=0:=by simpa using hn
   subst this
   cases lo
   ·exact ⟨_,rfl,rfl⟩
   ·exact ⟨_,rfl,jd _ _ _ _⟩
  ·have hb:rows.length.beq 0=false:=by cases rows with | nil=>exact absurd rfl h0 | cons a l=>rfl
   rw[hb]
   refine ⟨_,rfl,?_⟩
   rw[gq,h3,dQ,if_pos (by omega),List.drop_zero]
theorem vp {g:G}{b sz:Nat}{u:AV}{rows:List (List AV)}(hu:Own g b u sz rows){n:Nat}(hn:n<=rows.length) :
  ∃y,tv sz u (some (.int .i64 (n:Int))) none g=.val y/\aw g.h sz y=some (rows.drop n):=by
 rcases hu with ⟨rfl,rfl⟩ | ⟨id,ep,lo,h1,h2,rfl,h3⟩
 ·have:n=0:=by simpa using hn
  subst this
  exact ⟨.nils,rfl,rfl⟩
 ·simp only[tv,i6,h3,Nat.beq_refl,Nat.beq_refl,Bool.true_and,am,Nat.zero_add,aa,Nat.ble_eq,Nat.le_refl,if_true,aN,Option.getD_none,Nat.sub_zero]
  simp only[eo]
  rw[show af (n.ble rows.length) (some n) none=some n from by rw[aa,if_pos (by simpa using hn)]]
  dsimp only
  by_cases h0:rows.length=n
  ·subst h0
   rw[if_pos (Nat.beq_refl _),List.drop_length]
   cases lo
   ·exact ⟨_,rfl,rfl⟩
   ·exact ⟨_,rfl,jd _ _ _ _⟩
  ·rw[if_neg (fun e=>h0 (Nat.eq_of_beq_eq_true e))]
   refine ⟨_,rfl,?_⟩
   rw[gq,h3,dQ,if_pos (by omega),List.take_of_length_le (by simp)]
def S.aJ (os:List UInt8)(k:Nat):Nat:=if k<os.length then ((os[k]?.map UInt8.toNat).getD 0) % (k+1) else 0
def S.am (os:List UInt8):Nat->List Int
 | 0=>[]
 | k+1=>(S.am os k).take (S.aJ os k)++(k:Int)::(S.am os k).drop (S.aJ os k)
theorem jM (os:List UInt8):∀k,(S.am os k).length=k
 | 0=>rfl
 | k+1=>by simp only[S.am,List.length_append,List.length_cons,List.length_take,List.length_drop,jM os k];omega
def S.a_ (cards:List Int):List Int->Nat->List Int×Bool
 | vals,0=>(vals,false)
 | vals,k+1=>if (vals[k]?.getD 0)+1<(cards[k]?.getD 0) then (vals.set k ((vals[k]?.getD 0)+1),true) else S.a_ cards (vals.set k 0) k
def S.a7 (cards vals:List Int):List Int×Bool:=S.a_ cards vals vals.length
def S.aY (cards:List Int):Nat->List Int->List (List Int)
 | 0,_=>[]
 | f+1,v=>v::(if (S.a7 cards v).2 then S.aY cards f (S.a7 cards v).1 else [])
def S.bC (cards:List Int):List (List Int):=S.aY cards (S.aD cards).toNat (List.replicate cards.length 0)
def S.aQ:List Int->List Int->Int
 | _::cs,v::vs=>v*S.aD cs+S.aQ cs vs
 | _,_=>0
end
end Hx
end
section
namespace Hx
open Go
def S.bb (x:Mech)(roots:List Int)(V:Nat->Int):List Int:=(x.frm.map fun q=>V q.toNat)++(x.noise.map fun r=>roots[r.toNat]?.getD 0)
def S.bc (m:Causal)(roots act:List Int)(V:Nat->Int)(i:Nat)(x:Mech):Int:=if 0<=act[i]?.getD 0 then act[i]?.getD 0 else x.out[(S.aQ (S.bg m x) (S.bb x roots V)).toNat]?.getD 0
def Sol (m:Causal)(roots act:List Int)(V:Nat->Int):Prop:=∀(i:Nat) (x:Mech),m.nodes[i]?=some x->V i=S.bc m roots act V i x
noncomputable def S.V (m:Causal)(roots act:List Int):Nat->Int:=Classical.epsilon (Sol m roots act)
noncomputable def S.bB (m:Causal)(roots act:List Int):List Int:=(List.range m.nodes.length).map (S.V m roots act)
end Hx
end
section
namespace Hx
open Go
noncomputable section
def hz (cs vs:List Int)(j:Nat):Int:=((cs.zip vs).take j).foldl (fun a p=>a*p.1+p.2) 0
section
variable {d k:Nat}{m:Causal}{roots act:List Int}{V:Nat->Int}{a b w u:AV}{p1 p2 p3 p4 iu:Nat}{hid:Int}{r:Nat->Nat}
end
end
end Hx
end
section
namespace Hx
open Go
noncomputable section
theorem yG (ag:Bool)(n l sz off:Nat)(row:List AV)(g:G):iV ag n (.tptr l sz [row] 0 off) g=orV (bg ag n row off):=rfl
section
variable {d:Nat}{m:Causal}{a b:AV}
end
end
end Hx
end
section
namespace Hx
open Go
noncomputable section
theorem nC {C:Cfg}{d:Nat}{r:List SR}{t:T}{g:G}{K:AV->G->Prop}{id:Nat}(hg:g.h.get id=.dfr true)(h:mV r t (g.put id (.dfr false)) fun vs=>K (dG vs) (g.put id (.dfr false))):lM C d r t [.mark id] g K:=by
 unfold lM
 have:cH (I C) d [.mark id] g=some (g.put id (.dfr false)):=by
  simp only[cH,G.get_eq,hg]
 rw[this];exact h
def Fam (g:G)(b K:Nat)(V:Nat->AV)(W:Nat->List (List AV)):Prop :=
 (∀k,k<K->Own g b (V k) 1 (W k))/\∀k l,k<K->l<K->k≠l->∀id,vid (V k)=some id->vid (V l)≠some id
def Ec (c:Nat->Int)(V:Nat->AV)(i:Nat):List AV:=[.int .i64 (c i),V (3*i+1),V (3*i+2),V (3*i+3)]
def AY (n:Nat)(c:Nat->Int)(V:Nat->AV):List (List AV):=(List.range n).map (Ec c V)
structure ME where
 (n p4 q i5 p7 i9 b:Nat)
 (nv w5 w9 e7:AV)
 (gr:Int)
 (row0:List AV)
 (prow:List (List AV))
 (us:List UInt8)
structure ME.Ok (e:ME):Prop where
 ord:1<e.q/\e.q<e.p4/\e.p4<e.i5/\e.i5<e.p7/\e.p7<e.i9/\e.i9<e.b
 n1:1<=e.n/\e.n<=4
 g1:2<=e.gr/\e.gr<=12
 vn:vid e.nv=some e.q
 v5:vid e.w5=some e.i5
 v9:vid e.w9=some e.i9
 l7:SlR NoP 0 .nil e.us e.e7
structure MI (e:ME) (g:G) (V:Nat->AV) (W:Nat->List (List AV)) (c:Nat->Int) (ow:List Bool) (cap:Nat):Prop where
 h0:g.h.get 0=.cells 5 [e.row0] 0 false false
 h1:g.h.get 1=.cells 3 [[.int .i64 0,.nils,.nils]] 0 false false
 hN:Own g 0 e.nv 4 (AY e.n c V)
 h4:g.h.get e.p4=.cells 3 [[.int .i64 e.gr,V 0,e.nv]] 0 false false
 h5:Own g 0 e.w5 4 e.prow
 h7:∃cc:Int,0<=cc/\cc<=(cap:Int)/\g.h.get e.p7=.cells 2 [[e.e7,.int .i64 cc]] 0 false false
 h9:Own g 0 e.w9 1 (ow.map fun x=>[.bool x])
 fam:Fam g e.b (3*e.n+1) V W
 nx:e.b<=g.nx
section
variable {e:ME}{g g':G}{V:Nat->AV}{W:Nat->List (List AV)}{c:Nat->Int}{ow:List Bool}{cap:Nat}
structure MP (e:ME) (g:G) (V V':Nat->AV) (W:Nat->List (List AV)) (c:Nat->Int) (ow:List Bool) (cap:Nat):Prop where
 h0:g.h.get 0=.cells 5 [e.row0] 0 false false
 h1:g.h.get 1=.cells 3 [[.int .i64 0,.nils,.nils]] 0 false false
 hN:Own g 0 e.nv 4 (AY e.n c V)
 h4:g.h.get e.p4=.cells 3 [[.int .i64 e.gr,V 0,e.nv]] 0 false false
 h5:Own g 0 e.w5 4 e.prow
 h7:∃cc:Int,0<=cc/\cc<=(cap:Int)/\g.h.get e.p7=.cells 2 [[e.e7,.int .i64 cc]] 0 false false
 h9:Own g 0 e.w9 1 (ow.map fun x=>[.bool x])
 fam:Fam g e.b (3*e.n+1) V' W
 nx:e.b<=g.nx
end
end
end Hx
end
section
namespace Hx
open Go
noncomputable section
structure MD (e:ME) (W:Nat->List (List AV)) (R:List (List Int)) (F N O:Nat->List Int):Prop where
 r:All2 (Rp.rp NoP 0 .nil) R (W 0)
 f:∀i,i<e.n->W (3*i+1)=(F i).map ci
 n:∀i,i<e.n->W (3*i+2)=(N i).map ci
 o:∀i,i<e.n->W (3*i+3)=(O i).map ci
theorem SlR.wide {α:Type} [Rp α]{P:Nat->Prop}{k k':Nat}{h h':H}{l:List α}{v:AV}(r:SlR NoP k h l v)(hk:k<=k'):SlR P k' h' l v:=by
 obtain ⟨w,hw,q⟩:=Rp.tree (P:=P) (k':=k') (h':=h') (show Rp.rp NoP k h l [v] from ⟨v,rfl,r⟩) hk
 injection hw with hw;subst hw;exact q
structure M0 (n p4 q i5 p7:Nat) (nv w5 cl:AV) (row0:List AV) (prow:List (List AV)) (gr:Int) (g:G) (cf:Nat->Int):Prop where
 h0:g.h.get 0=.cells 5 [row0] 0 false false
 h1:g.h.get 1=.cells 3 [[.int .i64 0,.nils,.nils]] 0 false false
 hN:Own g 2 nv 4 (AY n cf fun _=>.nils)
 h4:g.h.get p4=.cells 3 [[.int .i64 gr,.nils,nv]] 0 false false
 h5:Own g 2 w5 4 prow
 h7:g.h.get p7=.cells 2 [[cl,.int .i64 0]] 0 false false
 nx:p7<g.nx
section
variable {n p4 q i5 p7:Nat}{nv w5 cl:AV}{row0:List AV}{prow:List (List AV)}{gr:Int}{g g':G}{cf cf':Nat->Int}
end
end
end Hx
end
section
namespace Hx
open Go
noncomputable section
def eid:AV->Option Nat
 | .hsl id _ _ _ _=>some id
 | .hptr id _ _ _=>some id
 | _=>none
def Bx (g:G)(b:Nat)(v:AV)(row:List AV):Prop:=∃id,b<=id/\id<g.nx/\v=.hptr id 0 0 0/\g.h.get id=.cells row.length [row] 0 false false
inductive En where
 | sl (sz:Nat) (rows:List (List AV))
 | bx (row:List AV)
def En.ok (g:G)(b:Nat)(v:AV):En->Prop
 | .sl sz rows=>Own g b v sz rows
 | .bx row=>Bx g b v row
section
variable {κ:Type}
structure Hp (g:G) (b:Nat) (L:κ->Prop) (V:κ->AV) (E:κ->En):Prop where
 ok:∀k,L k->(E k).ok g b (V k)
 sep:∀k l,L k->L l->k≠l->∀id,eid (V k)=some id->eid (V l)≠some id
 nx:b<=g.nx
variable {g g':G}{b:Nat}{L L':κ->Prop}{V:κ->AV}{E:κ->En}{k:κ}
end
section
variable {κ:Type} [DecidableEq κ]
variable {g g':G}{b:Nat}{L L':κ->Prop}{V:κ->AV}{E:κ->En}{k:κ}
end
end
end Hx
end
section
namespace Hx
open Go
noncomputable section
theorem kw {C:Cfg}{d:Nat}{rd:Option Nat}{l:List SI}{b:SC}{Q:QT}{t:T}{df:List ADf}{g:G}{P:PT}(h1:wpO C d rd l P t df g)(h2:∀t df g,P t df g->wp C d rd b Q t df g):wp C d rd (.seq (.ops l) b) Q t df g:=by
 rw[o5]
 have:wp C d rd (.ops l) (fun e t df g=>e=.norm/\P t df g) t df g:=by rw[sH];simpa using h1
 refine dR _ this ?_
 rintro e t df g ⟨rfl,h⟩
 exact h2 t df g h
structure Bnd (K:Nat) (m:Causal):Prop where
 r:m.roots.length<=K
 rr:∀x∈m.roots,x.length<=K
 n:m.nodes.length<=K
 f:∀x∈m.nodes,x.frm.length<=K/\x.noise.length<=K/\x.out.length<=K
abbrev Ky:Type:=Nat×Nat
structure BD (K R n:Nat) (V:Ky->AV) (E:Ky->En) (Rt:Nat->List Int) (c:Nat->Int) (F:Nat->Nat->List Int):Prop where
 r:∀i,i<R->E (0,i)=.sl 1 ((Rt i).map ci)/\(Rt i).length<=K
 f:∀q i,1<=q->q<=3->i<n->E (q,i)=.sl 1 ((F q i).map ci)/\(F q i).length<=K
 rs:E (4,0)=.sl 1 ((List.range R).map fun i=>[V (0,i)])
 ns:E (4,1)=.sl 4 ((List.range n).map fun i=>[.int .i64 (c i),V (1,i),V (2,i),V (3,i)])
structure TI (g:G) (q:Nat) (m:Causal) (k1 k2 act u1 u2 u3:AV) (A B W:List Int):Prop where
 a1:g.h.get 1=.cells 1 [[act]] 0 false false
 a2:g.h.get 2=.cells 3 [[.nils,.nils,.nils]] 0 false false
 a4:g.h.get 4=.cells 4 [[.int .i64 m.grain,k1,k2,.int .i64 (S.br m)]] 0 false false
 bq:g.h.get q=.cells 3 [[u1,u2,u3]] 0 false false
 o1:Own g 5 u1 1 (A.map ci)
 o2:Own g 5 u2 1 (B.map ci)
 o3:Own g 5 u3 1 (W.map ci)
 q5:5<=q/\q<g.nx
 n1:∀i,vid u1=some i->i≠q/\vid u2≠some i/\vid u3≠some i
 n2:∀i,vid u2=some i->i≠q/\vid u3≠some i
 n3:∀i,vid u3=some i->i≠q
section
variable {g g':G}{q:Nat}{m:Causal}{k1 k2 act u1 u2 u3:AV}{A B W:List Int}
end
end
end Hx
end
section
namespace Hx
open Go
noncomputable section
theorem vB {C:Cfg}{d:Nat}{rd:Option Nat}{a b:SC}{Q:QT}{t:T}{df:List ADf}{g:G}{P:PT}(h1:wp C d rd a (fun e t df g=>e=.norm/\P t df g) t df g)(h2:∀t df g,P t df g->wp C d rd b Q t df g):wp C d rd (.seq a b) Q t df g:=by
 rw[o5]
 refine dR _ h1 ?_
 rintro e t df g ⟨rfl,h⟩
 exact h2 t df g h
def S.bA (s a:List Int):List Int:=(List.range s.length).map fun i=>if a[i]?.getD 0<0 then -1 else s[i]?.getD 0
theorem xM {α:Type}{C:α->Prop}{S:α->VS}{j:Nat}(h:∀a,Snb (S a) j):Snb (fun P k h v=>∃a,C a/\S a P k h v) j :=
 ⟨fun {P k hh v n} d r hn=>by
  obtain ⟨a,c,r⟩:=r
  obtain ⟨v',e,r'⟩:=(h a).snap d r hn
  exact ⟨v',e,a,c,r'⟩,fun {k hh v n} r hn=>by
  obtain ⟨a,c,r⟩:=r
  exact (h a).tag r hn⟩
theorem nA:∀{A L:List Nat},A.Nodup->(∀v∈A,v∈L)->A.length<=L.length
 | [],_,_,_=>Nat.zero_le _
 | a::A,L,hA,h=>by
  rw[List.nodup_cons] at hA
  have ha:=h a (by simp)
  have:=nA (A:=A) (L:=L.erase a) hA.2 fun v hv=>(List.mem_erase_of_ne (fun e=>hA.1 (by rw[<-e];exact hv))).2 (h v (by simp[hv]))
  rw[List.length_erase_of_mem ha] at this
  have:=List.length_pos_of_mem ha
  simp only[List.length_cons]
  omega
def Ord (p:List Nat)(L:List Nat):Prop:=(∀v,v<p.length->v∈L)/\∀(i v:Nat),L[i]?=some v->v<p.length/\∀q,(Par p v).testBit q=true->q∈L.take i
def vT (p:List Nat)(L:List Nat):Prop:=L.Nodup/\∀(i v:Nat),L[i]?=some v->v<p.length/\∀q,(Par p v).testBit q=true->q∈L.take i
theorem xU {p L:List Nat}(h:vT p L){v:Nat}(hv:v ∉ L)(hl:v<p.length)(hp:∀q,(Par p v).testBit q=true->q∈L):vT p (L++[v]):=by
 refine ⟨?_,fun i u hu=>?_⟩
 ·rw[List.nodup_append]
  exact ⟨h.1,by simp,fun a ha b hb=>by simp at hb;subst hb;exact fun e=>hv (e ▸ ha)⟩
 ·rcases Nat.lt_or_ge i L.length with hi | hi
  ·rw[List.getElem?_append_left hi] at hu
   obtain ⟨h1,h2⟩:=h.2 i u hu
   exact ⟨h1,fun q hq=>by rw[List.take_append_of_le_length (by omega)];exact h2 q hq⟩
  ·rw[List.getElem?_append_right hi] at hu
   have:i=L.length:=by
    have:=(List.getElem?_eq_some_iff.1 hu).1;simp at this;omega
   subst this
   simp at hu;subst hu
   exact ⟨hl,fun q hq=>by rw[List.take_left];exact hp q hq⟩
theorem yg {p L:List Nat}(h:vT p L)(hl:p.length<=L.length):Ord p L:=by
 refine ⟨fun v hv=>?_,h.2⟩
 by_cases hm:v∈L
 ·exact hm
 ·have:=nA (A:=v::L) (L:=List.range p.length) (List.nodup_cons.2 ⟨hm,h.1⟩) fun u hu=>by
   rcases List.mem_cons.1 hu with rfl | hu
   ·exact List.mem_range.2 hv
   ·obtain ⟨i,hi,rfl⟩:=List.mem_iff_getElem.1 hu
    exact List.mem_range.2 (h.2 i _ (List.getElem?_eq_getElem hi)).1
  simp at this
  omega
theorem Cw {p L:List Nat}(h:vT p L)(hl:L.length<p.length):∃v,v<p.length/\v ∉ L:=by
 by_cases hh:∃v,v<p.length/\v ∉ L
 ·exact hh
 ·exfalso
  have:=nA (A:=List.range p.length) (L:=L) List.nodup_range fun v hv=>by
   by_cases h':v∈L
   ·exact h'
   ·exact absurd ⟨v,List.mem_range.1 hv,h'⟩ hh
  simp at this
  omega
def za (D:Nat)(L:List Nat):Prop:=D<18446744073709551616/\∀v,D.testBit v=true↔v∈L
theorem xY {D:Nat}{L:List Nat}(h:za D L){v:Nat}(hv:v<64):za (D ||| S.an v) (L++[v]):=by
 refine ⟨wm h.1 (jK v),fun u=>?_⟩
 rw[jz,uZ hv,Bool.or_eq_true,h.2,decide_eq_true_eq,List.mem_append,List.mem_singleton]
 constructor
 ·rintro (h | h)
  ·exact .inl h
  ·exact .inr h.symm
 ·rintro (h | h)
  ·exact .inl h
  ·exact .inr h.symm
theorem jV {C:Cfg}{d:Nat}{rd:Option Nat}{body:SC}{c ti k B b:Nat}{Q:QT}{m:Nat}{lim:Int}(hlim:lim=(m:Int))(hm:m<9223372036854775808)(J:Nat->PT){t:T}{df:List ADf}{g:G}
  (h0:J 0 t df g) (hi:tat t ti=.int .i64 0) (hc:c≠ti/\b≠B)
  (hJ:∀j t df g v s,s=c\/s=ti\/s=k->J j t df g->J j (co t s v) df g)
  (step:∀j t df g,j<m->J j t df g->tat t ti=.int .i64 (j:Int)->wp C d rd body (kR (fun t df g=>J (j+1) t df g/\tat t ti=.int .i64 (j:Int)) b Q) t df g)
  (fin:∀t df g,J m t df g->Q (.exit B) t df g) :
  wpL (wp C d rd (.seq (.ops [o c (.bin .lss (.t ti) (.k (.int .i64 lim)))]) (.seq (.cond (.t c) .skip (.exit B)) (.seq (.blk b body) (.ops [o k (.bin .add (.t ti) (.k (.int .i64 1))),o ti (.mv (.t k))]))))) Q t df g:=by
 subst hlim
 obtain ⟨c1,c5⟩:=hc
 refine pC (fun n t df g=>∃j:Nat,n=m - j/\j<=m/\J j t df g/\tat t ti=.int .i64 (j:Int)) m ⟨0,by omega,by omega,h0,hi⟩ ?_
 rintro n t df g ⟨j,rfl,hj,hjj,h1⟩
 simp only[sz,simprocAttr,h1]
 refine ⟨fun hq=>?_,fun hq=>?_⟩
 ·have hlt:j<m:=by simpa using hq
  simp only[sx]
  refine dR _ (step j _ df g hlt (hJ _ _ _ _ _ _ (.inl rfl) hjj) (by simp only[jI];rw[if_neg (Ne.symm c1),h1])) fun e t df g h=>?_
  have key:J (j+1) t df g/\tat t ti=.int .i64 (j:Int)->wp C d rd (.ops [o k (.bin .add (.t ti) (.k (.int .i64 1))),o ti (.mv (.t k))])
    (kL (fun n t df g=>∃j:Nat,n=m - j/\j<=m/\J j t df g/\tat t ti=.int .i64 (j:Int)) (m - j) Q) t df g:=by
   rintro ⟨a1,a2⟩
   simp only[sz,simprocAttr,a2]
   refine ⟨_,?_,j+1,rfl,by omega,hJ _ _ _ _ _ _ (.inr (.inl rfl)) (hJ _ _ _ _ _ _ (.inr (.inr rfl)) a1),?_⟩
   ·omega
   ·rw[eX (by omega) (by omega)];rfl
  cases e with
  | norm=>exact key h
  | ret=>exact h
  | exit x =>
   rw[jf] at h
   rw[kT]
   split at h
   ·rename_i e;rw[if_pos e];exact key h
   ·rename_i e;rw[if_neg e];exact h
 ·have:j=m:=by simp at hq;omega
  subst this
  simp only[sx]
  exact fin _ _ _ (hJ _ _ _ _ _ _ (.inl rfl) hjj)
section
variable {m:Causal}{c1 c2 l w c9 v35 ls v48:AV}{al:List Int}{hid kk:Int}{p:Nat}
end
end
end Hx
end
section
namespace Hx
open Go
noncomputable section
def S.aK:List Int->Int
 | []=>0
 | x::l=>x+10000*S.aK l
structure S.tI (bl:List Int) (n i:Nat) (V ai:Int) (k:Nat) (c:Int) (L:List Int):Prop where
 len:L.length=n
 rng:∀x∈L,0<=x/\x<10000
 zer:∀j,i+bl.length<=j->i+k<=j->L[j]?.getD 0=0
 kle:k<=bl.length+1
 c0:0<=c
 c1:c<10000
 ce:k=bl.length+1->c=0
 cs:k=0->c=0
 eq:S.aK L+c*10000 ^ (i+k)=V+ai*10000 ^ i*S.aK (bl.take k)
structure S.tO (al bl:List Int) (i:Nat) (L:List Int):Prop where
 len:L.length=al.length+bl.length
 rng:∀x∈L,0<=x/\x<10000
 zer:∀j,i+bl.length<=j->L[j]?.getD 0=0
 eq:S.aK L=S.aK (al.take i)*S.aK bl
structure S.mI (al bl:List Int) (i:Nat) (r:Int) (L:List Int):Prop where
 len:L.length=i
 rng:∀x∈L,0<=x/\x<10000
 r01:r=0\/r=1
 eq:S.aK L=S.aK (al.take i) - S.aK (bl.take i)+r*10000 ^ i
structure S.qI (x b n:Nat) (i:Nat) (L:List Int):Prop where
 len:L.length=n
 rng:∀z∈L,0<=z/\z<10000
 eq:S.aK (L.drop i)=((x / 10000 ^ i / b:Nat):Int)
theorem SlR.wd {α:Type} [Rp α]{P P':Nat->Prop}{k:Nat}{h h':H}{l:List α}{v:AV}(r:SlR P k h l v)(hf:∀i,P i->P' i/\h'.get i=h.get i):SlR P' k h' l v:=by
 obtain ⟨w,hw,q⟩:=Rp.mono (k':=k) (P':=P') (h':=h') (show Rp.rp P k h l [v] from ⟨v,rfl,r⟩) hf (Nat.le_refl _)
 injection hw with hw;subst hw;exact q
structure HS (m:Causal) (c1 c2 la lb lc:AV) (p q:Nat) (gb g:G):Prop where
 fr:Fr gb g
 mp:g.h.get p=.cells 3 [[.int .i64 m.grain,c1,c2]] 0 false false
 ml:g.h.get q=.cells 3 [[la,lb,lc]] 0 false false
 pn:p<gb.nx
 q0:gb.nx<=q
 qn:q<g.nx
section
variable {m:Causal}{c1 c2 la lb lc w c28 vi c90 vj:AV}{A B Z:List Int}{p q:Nat}
end
end
end Hx
end
end
section
namespace Hx
open Go
section
variable {p:List Nat}
theorem yU:vF p 0:=⟨fun v _ hb=>by simp at hb,fun v _ hb=>by simp at hb⟩
theorem y5 {q:Nat}(ih:vF p q){j:Nat}(hj:j<64)(hd:Sub (Par p j) q):vF p (q ||| S.an j):=by
 refine ⟨fun v hv hb=>?_,fun v hv hb=>?_⟩
 ·intro u hu
  rw[jz,uZ hj,Bool.or_eq_true,decide_eq_true_eq] at hb
  rw[jz,Bool.or_eq_true]
  rcases hb with hb | hb
  ·exact .inl (ih.1 v hv hb u hu)
  ·subst hb;exact .inl (hd u hu)
 ·rw[jz,uZ hj,Bool.or_eq_true,decide_eq_true_eq] at hb
  cases hq:q.testBit v
  ·rw[hq] at hb
   simp at hb
   subst hb
   rw[<-Bool.not_eq_true]
   intro hu
   have:=ph ih.1 hd p.length j hu
   rw[hq] at this;cases this
  ·exact ih.2 v hv hq
theorem sD {q:Nat}(h:vF p q)(hf:∀v,v<p.length->q.testBit v=true):S.aC p=true :=
 mO.2 fun v hv=>h.2 v hv (hf v hv)
theorem rY (hp:∀x∈p,x<2 ^ p.length)(h:S.aC p=true){T:Nat}(hst:∀v,v<p.length->T.testBit v=false->¬Sub (Par p v) T):∀v,v<p.length->T.testBit v=true:=by
 rw[mO] at h
 have none:∀r v,v<p.length->T.testBit v=false->S.up p (Par p v) p.length=r->False:=by
  intro r
  induction r using Nat.strongRecOn with
  | _ r ih =>
   intro v hv hb hr
   have hns:=hst v hv hb
   have:∃u,(Par p v).testBit u=true/\T.testBit u=false:=by
    apply Classical.byContradiction
    intro hno
    apply hns
    intro u hu
    cases hc:T.testBit u
    ·exact absurd ⟨u,hu,hc⟩ hno
    ·rfl
   obtain ⟨u,hu,hub⟩:=this
   have hul:u<p.length:=od (jn hp) hu
   have hcl:=nr hp (s:=Par p v) (jn hp)
   have hin:(S.up p (Par p v) p.length).testBit u=true:=oZ _ u hu
   have hsub:Sub (S.up p (Par p u) p.length) (S.up p (Par p v) p.length):=ph hcl (hcl u hul hin) _
   have hlt:S.up p (Par p u) p.length<S.up p (Par p v) p.length:=by
    refine Nat.lt_of_le_of_ne (AR hsub) fun e=>?_
    have:=h u hul
    rw[e,hin] at this;cases this
   exact ih _ (by omega) u hul hub rfl
 intro v hv
 cases hc:T.testBit v
 ·exact (none _ v hv hc rfl).elim
 ·rfl
end
end Hx
end
section
namespace Hx
open Go
section
variable {p:List Nat}
def Eg (p:List Nat)(u v:Nat):Prop:=(Par p v).testBit u=true
def Bt (s v:Nat):Prop:=s.testBit v=true
theorem jq (hp:∀x∈p,x<2 ^ p.length){u v:Nat}(h:Eg p u v):u<p.length/\v<p.length:=by
 refine ⟨od (jn hp) h,?_⟩
 rcases Nat.lt_or_ge v p.length with h1 | h1
 ·exact h1
 ·unfold Eg Par at h
  rw[List.getElem?_eq_none h1] at h
  simp at h
theorem D4 {s:Nat}(hp:∀x∈p,x<2 ^ p.length)(hc:Cl p s){u v:Nat}(h:Ds (Eg p) u v)(hv:s.testBit v=true):s.testBit u=true:=by
 induction h with
 | rf=>exact hv
 | st e _ ih=>exact hc _ (jq hp e).2 (ih hv) _ e
theorem CK (hp:∀x∈p,x<2 ^ p.length){s:Nat}(hs:s<2 ^ p.length)(v:Nat):(S.up p s p.length).testBit v=true↔An (Eg p) (Bt s) v:=by
 constructor
 ·intro h
  have hc:Cl p (S.aa (An (Eg p) (Bt s)) p.length):=fun u hu hb x hx=>by
   rw[hY] at hb ⊢
   exact ⟨(jq hp hx).1,An.up hx hb.2⟩
  have hsub:Sub s (S.aa (An (Eg p) (Bt s)) p.length):=fun u hu=>by
   rw[hY]
   exact ⟨od hs hu,An.of hu⟩
  have:=ph hc hsub p.length v h
  rw[hY] at this
  exact this.2
 ·rintro ⟨z,hz,hd⟩
  exact D4 hp (nr hp hs) hd (oZ _ z hz)
theorem sZ (hp:∀x∈p,x<2 ^ p.length)(h:S.aC p=true):∀u v,Eg p u v->S.up p (Par p u) p.length<S.up p (Par p v) p.length:=by
 intro u v e
 have hul:=(jq hp e).1
 have hcl:=nr hp (s:=Par p v) (jn hp)
 have hin:(S.up p (Par p v) p.length).testBit u=true:=oZ _ u e
 have hsub:Sub (S.up p (Par p u) p.length) (S.up p (Par p v) p.length):=ph hcl (hcl u hul hin) _
 refine Nat.lt_of_le_of_ne (AR hsub) fun e=>?_
 have:=mO.1 h u hul
 rw[e,hin] at this;cases this
theorem mE (hp:∀x∈p,x<2 ^ p.length){rk:Nat->Nat}(hr:∀u v,Eg p u v->rk u<rk v):S.aC p=true:=by
 refine mO.2 fun v hv=>?_
 cases h:(S.up p (Par p v) p.length).testBit v with
 | false=>rfl
 | true =>
  obtain ⟨z,hz,hd⟩:=(CK hp (jn hp) v).1 h
  have h1:=hr _ _ (show Eg p z v from hz)
  rcases hd.rank hr with rfl | h2<;>omega
def S.af (p:List Nat)(s:Nat):Nat->Nat
 | 0=>s
 | j+1=>if Par p j &&& S.af p s j=0 then S.af p s j else S.af p s j ||| 2 ^ j
def S.dn (p:List Nat)(s:Nat):Nat->Nat
 | 0=>s
 | j+1=>S.af p (S.dn p s j) p.length
theorem sX {a b:Nat}:a &&& b≠0↔∃v,a.testBit v=true/\b.testBit v=true:=by
 constructor
 ·intro h
  apply Classical.byContradiction
  intro hno
  apply h
  refine Nat.eq_of_testBit_eq fun v=>?_
  rw[Nat.testBit_and,Nat.zero_testBit]
  cases h1:a.testBit v<;>cases h2:b.testBit v<;>first | rfl | exact absurd ⟨v,h1,h2⟩ hno
 ·rintro ⟨v,h1,h2⟩ h
  have:=congrArg (·.testBit v) h
  simp[h1,h2] at this
theorem my {s:Nat}(hs:s<2 ^ p.length):∀j,j<=p.length->S.af p s j<2 ^ p.length
 | 0,_=>hs
 | j+1,hj=>by
  have ih:=my hs j (by omega)
  unfold S.af
  split
  ·exact ih
  ·exact AG ih (Nat.pow_lt_pow_right (by decide) (by omega))
theorem nZ {s:Nat}(hs:s<2 ^ p.length):∀j,S.dn p s j<2 ^ p.length
 | 0=>hs
 | j+1=>my (nZ hs j) _ (Nat.le_refl _)
theorem je {s:Nat}{j k:Nat}(h:j<=k):Sub (S.af p s j) (S.af p s k):=by
 induction h with
 | refl=>exact fun _ h=>h
 | step _ ih =>
  intro v hv
  unfold S.af
  split
  ·exact ih v hv
  ·rw[jz,ih v hv];rfl
theorem pY {q:Nat->Prop}(hq:∀u v,q u->Eg p u v->q v){s:Nat}(hs:∀v,s.testBit v=true->q v):∀j,∀v,(S.af p s j).testBit v=true->q v
 | 0,v,h=>hs v h
 | j+1,v,h=>by
  have ih:=pY hq hs j
  unfold S.af at h
  split at h
  ·exact ih v h
  ·rename_i hne
   rw[jz,Bool.or_eq_true] at h
   rcases h with h | h
   ·exact ih v h
   ·rw[Nat.testBit_two_pow,decide_eq_true_iff] at h
    subst h
    obtain ⟨u,h1,h2⟩:=sX.1 hne
    exact hq u _ (ih u h2) h1
theorem wL {q:Nat->Prop}(hq:∀u v,q u->Eg p u v->q v){s:Nat}(hs:∀v,s.testBit v=true->q v):∀j,∀v,(S.dn p s j).testBit v=true->q v
 | 0,v,h=>hs v h
 | j+1,v,h=>pY hq (wL hq hs j) _ v h
theorem Dv {s:Nat}(hs:s<2 ^ p.length):S.af p (S.dn p s p.length) p.length=S.dn p s p.length :=
 CM (f:=fun j=>S.dn p s j) (fun j=>je (Nat.zero_le _)) (fun j=>nZ hs j) (fun j e=>by
  have e:S.dn p s (j+1)=S.dn p s j:=e
  show S.af p (S.dn p s (j+1)) p.length=S.dn p s (j+1)
  rw[e];exact e)
theorem D7 {s:Nat}(hp:∀x∈p,x<2 ^ p.length)(hs:s<2 ^ p.length){u v:Nat}(e:Eg p u v)(hu:(S.dn p s p.length).testBit u=true):(S.dn p s p.length).testBit v=true:=by
 obtain ⟨T,hT⟩:∃T,T=S.dn p s p.length:=⟨_,rfl⟩
 have hf:=Dv (p:=p) hs
 rw[<-hT] at hf hu ⊢
 have hv:=(jq hp e).2
 have h1:(S.af p T v).testBit u=true:=je (Nat.zero_le _) u hu
 have h2:(S.af p T (v+1)).testBit v=true:=by
  unfold S.af
  rw[if_neg (sX.2 ⟨u,e,h1⟩),jz,Nat.testBit_two_pow]
  simp
 have:=je (p:=p) (s:=T) (show v+1<=p.length by omega) v h2
 rwa [hf] at this
theorem xy {s:Nat}:∀j,Sub s (S.dn p s j)
 | 0=>fun _ h=>h
 | j+1=>fun v hv=>je (Nat.zero_le _) v (xy j v hv)
theorem Bo (hp:∀x∈p,x<2 ^ p.length){s:Nat}(hs:s<2 ^ p.length)(v:Nat):(S.dn p s p.length).testBit v=true↔∃u,s.testBit u=true/\Ds (Eg p) u v:=by
 constructor
 ·exact wL (q:=fun v=>∃u,s.testBit u=true/\Ds (Eg p) u v) (fun u v ⟨x,h1,h2⟩ e=>⟨x,h1,h2.sn e⟩) (fun v h=>⟨v,h,.rf v⟩) p.length v
 ·rintro ⟨u,hu,hd⟩
  have h0:=xy (p:=p) (s:=s) p.length u hu
  clear hu
  induction hd with
  | rf=>exact h0
  | st e _ ih=>exact ih (D7 hp hs e h0)
end
end Hx
end
section
namespace Hx
inductive Tw (E:Nat->Nat->Prop) (x:Nat):List Nat->Prop
 | one:Tw E x [x]
 | ext {v w:Nat} {r:List Nat}:Tw E x (v::r)->E v w\/E w v->w ∉ v::r->Tw E x (w::v::r)
def opL (E:Nat->Nat->Prop)(Z:Nat->Prop):List Nat->Prop
 | []=>True
 | [_]=>True
 | w::v::r=>opT E Z v r w/\opL E Z (v::r)
theorem Bg {E:Nat->Nat->Prop}{Z:Nat->Prop}{x:Nat}{l:List Nat}:Tl E Z x l↔Tw E x l/\opL E Z l:=by
 constructor
 ·intro h
  induction h with
  | one=>exact ⟨.one,trivial⟩
  | ext _ ha hn ho ih=>exact ⟨.ext ih.1 ha hn,ho,ih.2⟩
 ·rintro ⟨h,ho⟩
  induction h with
  | one=>exact .one
  | ext _ ha hn ih=>exact .ext (ih ho.2) ha hn ho.1
theorem uN {E:Nat->Nat->Prop}{x:Nat}{l:List Nat}(h:Tw E x l):l.Nodup:=by
 induction h with
 | one=>simp
 | ext _ _ hn ih=>exact List.nodup_cons.2 ⟨hn,ih⟩
theorem Df {E:Nat->Nat->Prop}{n:Nat}(he:∀u v,E u v->u<n/\v<n){x:Nat}(hx:x<n){l:List Nat}(h:Tw E x l):∀v∈l,v<n:=by
 induction h with
 | one=>intro v hv;rw[List.mem_singleton.1 hv];exact hx
 | @ext v w r _ ha _ ih =>
  intro u hu
  rcases List.mem_cons.1 hu with rfl | hu
  ·rcases ha with h | h
   ·exact (he _ _ h).2
   ·exact (he _ _ h).1
  ·exact ih u hu
theorem nP:∀{n:Nat} {l:List Nat},l.Nodup->(∀v∈l,v<n)->l.length<=n
 | 0,[],_,_=>Nat.le_refl _
 | 0,a::l,_,h=>absurd (h a (by simp)) (Nat.not_lt_zero a)
 | n+1,l,h,hl=>by
  by_cases hn:n∈l
  ·have:=nP (n:=n) (l:=l.erase n) (h.erase n) fun v hv=>by
    have h1:=(h.mem_erase_iff).1 hv
    have:=hl v h1.2
    have:=h1.1
    omega
   rw[List.length_erase_of_mem hn] at this
   omega
  ·have:=nP (n:=n) (l:=l) h fun v hv=>by
    have h1:=hl v hv
    have:v≠n:=fun e=>hn (e ▸ hv)
    omega
   omega
def lI (E:Nat->Nat->Prop)(Z:Nat->Prop)(x:Nat)(r:List Nat)(y:Nat):Prop:=∃s,Tl E Z x (s++r)/\(s++r).head?=some y/\¬Z y
theorem y6 {E:Nat->Nat->Prop}{Z:Nat->Prop}{x v:Nat}{r:List Nat}{y:Nat}(h:Tl E Z x (v::r)) :
  lI E Z x (v::r) y↔(y=v/\¬Z v)\/∃w,(E v w\/E w v)/\w ∉ v::r/\lI E Z x (w::v::r) y:=by
 constructor
 ·rintro ⟨s,h1,h2,h3⟩
  rcases List.eq_nil_or_concat s with rfl | ⟨s',w,rfl⟩
  ·simp at h2
   subst h2
   exact .inl ⟨rfl,h3⟩
  ·rw[List.concat_eq_append,List.append_assoc,List.singleton_append] at h1 h2
   refine .inr ⟨w,?_,?_,s',h1,h2,h3⟩
   ·have:=(pJ h1 rfl).1
    cases this with | ext _ ha _ _=>exact ha
   ·have:=(pJ h1 rfl).1
    cases this with | ext _ _ hn _=>exact hn
 ·rintro (⟨rfl,hz⟩ | ⟨w,-,-,s,h1,h2,h3⟩)
  ·exact ⟨[],h,rfl,hz⟩
  ·exact ⟨s++[w],by simpa using h1,by simpa using h2,h3⟩
theorem Cy {E:Nat->Nat->Prop}{Z:Nat->Prop}{x:Nat}{l:List Nat}(h:Tl E Z x l):∃s,l=s++[x]:=by
 induction h with
 | one=>exact ⟨[],rfl⟩
 | ext _ _ _ _ ih=>obtain ⟨s,e⟩:=ih;exact ⟨_::s,by rw[e];rfl⟩
theorem xN {E:Nat->Nat->Prop}{Z:Nat->Prop}{x y:Nat}:lI E Z x [x] y↔(∃r,Tl E Z x (y::r))/\¬Z y:=by
 constructor
 ·rintro ⟨s,h1,h2,h3⟩
  refine ⟨?_,h3⟩
  cases s with
  | nil=>simp at h2;subst h2;exact ⟨[],h1⟩
  | cons a s=>simp at h2;subst h2;exact ⟨_,h1⟩
 ·rintro ⟨⟨r,h⟩,hz⟩
  obtain ⟨s,e⟩:=Cy h
  exact ⟨s,by rw[<-e];exact h,by rw[<-e];rfl,hz⟩
theorem DJ {E:Nat->Nat->Prop}{Z X:Nat->Prop}{rk:Nat->Nat}(hr:∀u v,E u v->rk u<rk v)(hX:∀x,X x->¬Z x){y:Nat}:Re E Z X y↔∃x,X x/\lI E Z x [x] y:=by
 rw[DH]
 constructor
 ·rintro ⟨x,hx,h⟩
  exact ⟨x,hx,xN.2 ((C6 hr (hX x hx)).1 h)⟩
 ·rintro ⟨x,hx,h⟩
  exact ⟨x,hx,(C6 hr (hX x hx)).2 (xN.1 h)⟩
end Hx
end
section
namespace Hx
open Go
noncomputable section
theorem iE {q:Nat->Prop}{n:Nat}(h:∀i,i<n->¬q i):S.aa q n=0 :=
 (pB (n:=n) (p:=q) fun i=>by
  rw[Nat.zero_testBit]
  exact ⟨fun h'=>(by cases h'),fun ⟨a,b⟩=>(h i a b).elim⟩).symm
theorem Ar {p q:Nat->Prop}{n v:Nat}(hv:v<n)(h:∀i,q i↔p i\/i=v):S.aa q n=S.aa p n ||| 2 ^ v:=by
 symm
 refine pB fun i=>?_
 rw[Nat.testBit_or,Nat.testBit_two_pow,Bool.or_eq_true,hY,decide_eq_true_iff,h]
 constructor
 ·rintro (⟨a,b⟩ | e)
  ·exact ⟨a,.inl b⟩
  ·exact ⟨by omega,.inr e.symm⟩
 ·rintro ⟨a,b | e⟩
  ·exact .inl ⟨a,b⟩
  ·exact .inr e.symm
def S.aw (p:List Nat)(j i:Nat):List Nat:=(List.range p.length).map fun u=>S.aa (fun v=>Eg p u v/\(v<j\/v=j/\u<i)) p.length
def S.aL (p:List Nat):List Nat:=(List.range p.length).map fun u=>S.aa (Eg p u) p.length
theorem mP {p:List Nat}{j i:Nat}:(S.aw p j i).length=p.length:=by simp[S.aw]
theorem s5 {p:List Nat}:(S.aL p).length=p.length:=by simp[S.aL]
theorem mW {p:List Nat}{j i u:Nat}(h:u<p.length):(S.aw p j i)[u]?=some (S.aa (fun v=>Eg p u v/\(v<j\/v=j/\u<i)) p.length):=by simp[S.aw,h]
theorem zd {p:List Nat}:S.aw p 0 0=List.replicate p.length 0:=by
 refine List.ext_getElem? fun u=>?_
 by_cases h:u<p.length
 ·rw[mW h,List.getElem?_replicate,if_pos h,iE]
  rintro i - ⟨-,h | h⟩<;>omega
 ·rw[List.getElem?_eq_none (by rw[mP];omega),List.getElem?_eq_none (by simp;omega)]
theorem zV {p:List Nat}{j:Nat}:S.aw p j p.length=S.aw p (j+1) 0 :=
 List.map_congr_left fun u hu=>bS fun v hv=>by
  have hu:=List.mem_range.1 hu
  constructor
  ·rintro ⟨a,b⟩;exact ⟨a,by omega⟩
  ·rintro ⟨a,b⟩;exact ⟨a,by omega⟩
theorem BT {p:List Nat}:S.aw p p.length 0=S.aL p :=
 List.map_congr_left fun u hu=>bS fun v hv=>⟨fun a=>a.1,fun a=>⟨a,.inl hv⟩⟩
theorem rZ {x i:Nat}:x / 2 ^ i &&& 1=if x.testBit i then 1 else 0:=by
 rw[Nat.and_one_is_mod,Nat.testBit_eq_decide_div_mod_eq]
 have:=Nat.mod_lt (x / 2 ^ i) (show 0<2 by decide)
 by_cases h:x / 2 ^ i % 2=1
 ·rw[if_pos (by rw[decide_eq_true_iff];exact h),h]
 ·rw[if_neg (by rw[decide_eq_true_iff];exact h)];omega
theorem Ah {p:List Nat}{j i x:Nat}(hi:i<p.length)(hj:j<p.length)(h8:p.length<=8)(hx:p[j]?=some x) :
  (S.aw p j i).set i (S.aa (fun v=>Eg p i v/\(v<j\/v=j/\i<i)) p.length ||| (x / 2 ^ i &&& 1)*2 ^ j % 18446744073709551616)=S.aw p j (i+1):=by
 have h2:(2:Nat) ^ j<=2 ^ 8:=Nat.pow_le_pow_right (by decide) (by omega)
 have hPx:Par p j=x:=by simp[Par,hx]
 have hE:Eg p i j↔x.testBit i=true:=by rw[Eg,hPx]
 refine List.ext_getElem? fun u=>?_
 by_cases e:i=u
 ·subst e
  rw[List.getElem?_set_self (by rw[mP];exact hi),mW hi,rZ]
  congr 1
  by_cases hb:x.testBit i=true
  ·rw[if_pos hb,Nat.one_mul,Nat.mod_eq_of_lt (by omega)]
   refine (Ar hj fun v=>?_).symm
   constructor
   ·rintro ⟨a,b⟩
    by_cases ev:v=j
    ·exact .inr ev
    ·exact .inl ⟨a,by omega⟩
   ·rintro (⟨a,b⟩ | rfl)
    ·exact ⟨a,by omega⟩
    ·exact ⟨hE.2 hb,by omega⟩
  ·rw[if_neg hb,Nat.zero_mul,Nat.zero_mod,Nat.or_zero]
   refine bS fun v _=>?_
   constructor
   ·rintro ⟨a,b⟩;exact ⟨a,by omega⟩
   ·rintro ⟨a,b⟩
    refine ⟨a,?_⟩
    by_cases ev:v=j
    ·subst ev;exact absurd (hE.1 a) hb
    ·omega
 ·rw[List.getElem?_set_ne e]
  by_cases h:u<p.length
  ·rw[mW h,mW h]
   refine congrArg some (bS fun v _=>?_)
   constructor<;>exact fun ⟨a,b⟩=>⟨a,by omega⟩
  ·rw[List.getElem?_eq_none (by rw[mP];omega),List.getElem?_eq_none (by rw[mP];omega)]
def S.ax (p:List Nat):Bool:=decide (1<=p.length)&&decide (p.length<=8)&&p.all (fun x=>decide (x<2 ^ p.length))&&S.aC p
structure GOk (p:List Nat):Prop where
 l1:1<=p.length
 l8:p.length<=8
 hp:∀x∈p,x<2 ^ p.length
 ac:S.aC p=true
theorem iZ {p:List Nat}:S.ax p=true↔GOk p:=by
 simp only[S.ax,Bool.and_eq_true,decide_eq_true_eq,List.all_eq_true]
 exact ⟨fun ⟨⟨⟨a,b⟩,c⟩,d⟩=>⟨a,b,c,d⟩,fun ⟨a,b,c,d⟩=>⟨⟨⟨a,b⟩,c⟩,d⟩⟩
theorem pV {p:List Nat}(h:¬GOk p):S.ax p=false:=by
 cases e:S.ax p with
 | false=>rfl
 | true=>exact absurd (iZ.1 e) h
def S.gr (p:List Nat):List Nat×List Nat:=if S.ax p then (p,S.aL p) else ([],[])
def okT (E:Nat->Nat->Prop)(Z:Nat->Prop)(u v w:Nat):Prop:=(E u v/\E w v->An E Z v)/\(¬(E u v/\E w v)->¬Z v)
theorem zn {E:Nat->Nat->Prop}{Z:Nat->Prop}:∀{l:List Nat},opL E Z l↔∀k w v u,l[k]?=some w->l[k+1]?=some v->l[k+2]?=some u->okT E Z u v w
 | []=>⟨fun _ k w v u h=>by simp at h,fun _=>trivial⟩
 | [a]=>⟨fun _ k w v u _ h=>by simp at h,fun _=>trivial⟩
 | w::v::r=>by
  have ih:=zn (E:=E) (Z:=Z) (l:=v::r)
  constructor
  ·rintro ⟨h1,h2⟩ k w' v' u' e1 e2 e3
   cases k with
   | zero =>
    simp at e1 e2 e3
    subst e1 e2
    cases r with
    | nil=>simp at e3
    | cons u r =>
     simp at e3
     subst e3
     exact h1
   | succ k=>exact ih.1 h2 k w' v' u' (by simpa using e1) (by simpa using e2) (by simpa using e3)
  ·intro h
   refine ⟨?_,ih.2 fun k w' v' u' e1 e2 e3=>h (k+1) w' v' u' (by simpa using e1) (by simpa using e2) (by simpa using e3)⟩
   cases r with
   | nil=>exact trivial
   | cons u r=>exact h 0 w v u rfl rfl rfl
theorem zO {E:Nat->Nat->Prop}{Z:Nat->Prop}{tr:List Nat}:opL E Z tr.reverse↔∀i u v w,1<=i->tr[i - 1]?=some u->tr[i]?=some v->tr[i+1]?=some w->okT E Z u v w:=by
 rw[zn]
 have key:∀{i:Nat} {x:Nat},tr[i]?=some x->tr.reverse[tr.length - 1 - i]?=some x/\i<tr.length:=fun {i x} h=>by
  have hi:=(List.getElem?_eq_some_iff.1 h).1
  refine ⟨?_,hi⟩
  rw[List.getElem?_reverse (by omega),<-h]
  congr 1
  omega
 constructor
 ·intro h i u v w hi e1 e2 e3
  obtain ⟨a1,b1⟩:=key e1
  obtain ⟨a2,b2⟩:=key e2
  obtain ⟨a3,b3⟩:=key e3
  refine h (tr.length - 1 - (i+1)) w v u a3 ?_ ?_
  ·rw[<-a2];congr 1;omega
  ·rw[<-a1];congr 1;omega
 ·intro h k w v u e1 e2 e3
  have l1:=(List.getElem?_eq_some_iff.1 e3).1
  rw[List.length_reverse] at l1
  rw[List.getElem?_reverse (by omega)] at e1 e2 e3
  refine h (tr.length - 1 - (k+1)) u v w (by omega) ?_ e2 ?_
  ·rw[<-e3];congr 1
  ·rw[<-e1];congr 1;omega
theorem A6 {p q:Nat->Prop}{n:Nat}:S.aa p n ||| S.aa q n=S.aa (fun i=>p i\/q i) n :=
 pB fun i=>by
  rw[Nat.testBit_or,Bool.or_eq_true,hY,hY]
  exact ⟨fun h=>h.elim (fun ⟨a,b⟩=>⟨a,.inl b⟩) fun ⟨a,b⟩=>⟨a,.inr b⟩,fun ⟨a,b⟩=>b.elim (fun b=>.inl ⟨a,b⟩) fun b=>.inr ⟨a,b⟩⟩
theorem BF {q:Nat->Prop}{n v:Nat}(hv:v<n)(h:∀i,q i↔i=v):S.aa q n=2 ^ v:=by
 rw[Ar (p:=fun _=>False) hv fun i=>by rw[h];exact ⟨.inr,fun h=>h.elim (fun h=>h.elim) id⟩,iE (fun _ _ h=>h),Nat.zero_or]
end
end Hx
end
section
namespace Hx
open Go
def S.aH (n:Net):List Int:=n.nodes.map (·.card)
def S.aN (cs ps:List Int):List Int:=ps.map fun p=>cs[p.toNat]?.getD 0
def S.aU (n:Net):List Nat:=n.nodes.map fun x=>S.aZ x.parents
def S.aR (gr card:Int)(r:List Int):Bool:=decide ((r.length:Int)=card)&&r.all (fun x=>decide (0<=x)&&decide (x<=gr))&&decide (r.sum=gr)
def S.ba (k:Int)(x:Node):Bool:=decide (1<=x.card)&&decide (x.card<=4)&&S.aV x.parents k
def S.bp (n:Net)(x:Node):Bool:=decide ((x.rows.length:Int)=S.aD (S.aN (S.aH n) x.parents))&&x.rows.all (S.aR n.grain x.card)
structure NR (n:Net):Prop where
 g1:1<=n.grain
 g2:n.grain<=60
 l1:1<=n.nodes.length
 l2:n.nodes.length<=8
 card:∀x∈n.nodes,1<=x.card/\x.card<=4
 places:∀x∈n.nodes,S.aV x.parents n.nodes.length=true
 worlds:S.aD (S.aH n)<=1024
 acyc:S.aC (S.aU n)=true
 rows:∀x∈n.nodes,(x.rows.length:Int)=S.aD (S.aN (S.aH n) x.parents)
 row:∀x∈n.nodes,∀r∈x.rows,(r.length:Int)=x.card/\(∀y∈r,0<=y/\y<=n.grain)/\r.sum=n.grain
def S.bu (n:Net)(vals:List Int)(v:Nat):Int:=match n.nodes[v]? with
 | none=>1
 | some x=>(x.rows[(S.aQ (S.aN (S.aH n) x.parents) (S.aN vals x.parents)).toNat]?.getD [])[(vals[v]?.getD 0).toNat]?.getD 0
end Hx
end
section
namespace Hx
open Go
section
variable {b card:Nat}
def S.aT (b card p:Nat):Nat:=p / (b*card)*b+p % b
def S.aW (b card p:Nat):Nat:=p / b % card
def S.bo (rows:List (List Int))(b card t:Nat):List Int:=(List.range (rows.length*card)).map fun p=>if S.aT b card p*card+S.aW b card p<t then (rows[S.aT b card p]?.getD [])[S.aW b card p]?.getD 0 else 0
def S.bh (rows:List (List Int))(b card:Nat):List Int:=(List.range (rows.length*card)).map fun p=>(rows[S.aT b card p]?.getD [])[S.aW b card p]?.getD 0
end
def S.a9 (ps:List Int)(k:Nat)(v:Int):List Int:=ps.take k++v::ps.drop k
end Hx
end
section
namespace Hx
open Go
noncomputable section
section
variable {d:Nat}{b pa ra z:AV}{gr card:Int}{r:List Int}
def LR5 (v:Nat)(q:Nat):List (Nat×AV):=[(1,.hptr 0 0 0 0),(6,.int .i64 (v:Int)),(7,.hptr q 0 0 0)]
structure RJ1 (gr:Int) (r:List Int) (v q i j:Nat) (t:T):Prop where
 st:St t ((8,.int .i64 (i:Int))::LR5 v q)
 s9:tat t 9=.int .i64 (r.take j).sum
 all:∀y∈r.take j,0<=y/\y<=gr
structure RJ4 (gr card:Int) (rws:List (List Int)) (v q j:Nat) (t:T):Prop where
 st:St t (LR5 v q)
 all:∀r∈rws.take j,S.aR gr card r=true
structure RJ0 (n:Net) (b:AV) (j:Nat) (t:T) (g:G):Prop where
 st:St t [(1,.hptr 0 0 0 0),(3,.int .i64 (S.aD ((S.aH n).take j)))]
 hg:g.h.get 0=.cells 2 [[.int .i64 n.grain,b]] 0 false false
 nx:1<=g.nx
 all:∀x∈n.nodes.take j,S.ba n.nodes.length x=true
structure RJ6 (n:Net) (b:AV) (j:Nat) (t:T) (g:G):Prop where
 st:St t [(1,.hptr 0 0 0 0)]
 hg:g.h.get 0=.cells 2 [[.int .i64 n.grain,b]] 0 false false
 nx:1<=g.nx
 all:∀x∈n.nodes.take j,S.bp n x=true
end
end
end Hx
end
section
namespace Hx
open Go
noncomputable section
theorem yr {C:Cfg}{d id nt:Nat}{t:T}{ps:List Nat}{assign body:Code}{a b:SC}{dfr:Nat}{args:List AV}{g:G}{K:AV->G->Prop}{D:ADf->Prop}{t':T}
  (hg:g.h.get id=.loop nt t ps assign body dfr .ready none) (ha:dg C nt assign=a) (hb:dg C nt body=b) (hp:dt t nt ps args=some t')
  (h:wp C d (some id) a (fun e t1 df g1=>e=.norm/\df=[]/\g1=g /\
   wp C d (some id) b (fun e _ df g2=>df=[]/\g2.h.get id=.loop nt t ps assign body dfr .busy none/\((e=.norm/\K (.bool true) (g2.put id (.loop nt t ps assign body dfr .ready none)))\/(e=.ret/\K (.bool false) (g2.put id (.loop nt t ps assign body dfr .done (some .ret))))))
    t1 [] (g.put id (.loop nt t ps assign body dfr .busy none))) t' [] g) :
  (cO (I C) d id args g).sat K g D:=by
 subst ha;subst hb
 unfold cO
 rw[show g.get id=_ from hg]
 dsimp only
 rw[hp]
 dsimp only
 have h1:=rJ h
 cases hc:(I C).code nt d (some id) assign t' [] g with
 | fail=>rw[hc] at h1;exact h1.elim
 | ok e t1 df g1 =>
  rw[hc] at h1
  obtain ⟨rfl,rfl,rfl,h2⟩:=h1
  dsimp only
  rw[show g1.get id=_ from hg]
  dsimp only
  have h3:=rJ h2
  cases hc2:(I C).code nt d (some id) body t1 [] (g1.put id (.loop nt t ps assign body dfr .busy none)) with
  | fail=>rw[hc2] at h3;exact h3.elim
  | ok e t2 df2 g2 =>
   rw[hc2] at h3
   obtain ⟨rfl,h4,h5⟩:=h3
   dsimp only
   rw[show g2.get id=_ from h4]
   rcases h5 with ⟨rfl,h5⟩ | ⟨rfl,h5⟩<;>exact h5
theorem vg {C:Cfg}{d nt:Nat}{f:Od}{ps:List Nat}{a b:SC}{Q:QT}{t:T}{df:List ADf}{g:G}{fn:Nat}{first cap:List AV}{s:SF}(hv:f.get t=.clo fn first cap)(he:C.ext fn=none)(hs:nFn C fn=some s)
  (hl:(first++(.yld (g.nx+1)::cap)).length<=s.nt)
  (h:∀assign body,dg C nt assign=a->dg C nt body=b ->
   wp C d none s.code (fnQ C d s.res fun _ g2=>∃nt' t' ps' as' bd' dfr',(g2.h.get (g.nx+1)=.loop nt' t' ps' as' bd' dfr' .ready none/\Q .norm t (.mark g.nx::df) (g2.put (g.nx+1) (.loop nt' t' ps' as' bd' dfr' .exhausted none))) \/
     (g2.h.get (g.nx+1)=.loop nt' t' ps' as' bd' dfr' .done (some .ret)/\Q .ret t (.mark g.nx::df) (g2.put (g.nx+1) (.loop nt' t' ps' as' bd' dfr' .exhausted (some .ret)))))
    (bw 0 (first++(.yld (g.nx+1)::cap)) .nil) [] ((g.new (.dfr true)).new (.loop nt t ps assign body g.nx .ready none))) :
  wp C d none (.rng nt f ps a b) Q t df g:=by
 intro assign body ha hb
 have h:=ku hs hl (h assign body ha hb)
 show (bE C (I C) nt d none (f.get t) ps assign body t (.mark g.nx::df) g.nx (g.new (.dfr true))).sat Q
 rw[hv]
 unfold bE
 dsimp only
 rw[he]
 show (match (I C).call d fn (first++(AV.yld (g.nx+1)::cap)) ((g.new (.dfr true)).new (.loop nt t ps assign body g.nx .ready none)) with
  | .ok _ g2=>cj (I C) nt d none (g.nx+1) t (.mark g.nx::df) g2
  | .fail=>.fail).sat Q
 cases hc:(I C).call d fn (first++(AV.yld (g.nx+1)::cap)) ((g.new (.dfr true)).new (.loop nt t ps assign body g.nx .ready none)) with
 | fail=>rw[hc] at h;exact h.elim
 | ok v g2 =>
  rw[hc] at h
  obtain ⟨nt',t',ps',as',bd',dfr',h⟩:=h
  show (cj (I C) nt d none (g.nx+1) t (.mark g.nx::df) g2).sat Q
  unfold cj
  rcases h with ⟨h1,h2⟩ | ⟨h1,h2⟩
  ·rw[show g2.get (g.nx+1)=_ from h1]
   exact h2
  ·rw[show g2.get (g.nx+1)=_ from h1]
   dsimp only
   rw[u7]
   exact h2
structure RowQ (b:Nat) (g2 g3:G) (e:Ex) (A B:Prop):Prop where
 nx:g2.nx<=g3.nx
 fr:∀i,b<=i->i<g2.nx->g3.h.get i=g2.h.get i
 st:(e=.norm/\A)\/(e=.ret/\B)
def S.be (gr:Int)(cs:List Int)(x:Node):Bool:=decide ((x.rows.length:Int)=S.aD (S.aN cs x.parents))&&x.rows.all (S.aR gr x.card)
structure FJ (gr:Int) (r:List Int) (z:AV) (j:Nat) (t:T):Prop where
 st:St t [(2,.hptr 0 0 0 0),(3,.hptr 1 0 0 0),(4,.hptr 2 0 0 0),(9,z),(40,z),(10,.int .i64 (gr - (r.take j).sum))]
 nn:∀x∈r.take j,0<=x
 le:(r.take j).sum<=gr
structure FlJ (cs1 cs2:List AV) (gr card:Int) (rws:List (List Int)) (j:Nat) (h:H):Prop where
 a0:h.get 0=.cells 5 [cs1] 0 false false
 a1:h.get 1=.cells 3 [cs2] 0 false false
 a2:h.get 2=.cells 1 [[.bool false]] 0 false false
 all:∀r∈rws.take j,S.aR gr card r=true
structure FlE (gr card:Int) (rws:List (List Int)) (h:H):Prop where
 a2:h.get 2=.cells 1 [[.bool false]] 0 false false
 ex:∃r∈rws,S.aR gr card r=false
structure RdH (n:Net) (b cv sv:AV) (q:Nat) (X:List Int) (Y:List Nat) (g:G):Prop where
 h0:g.h.get 0=.cells 2 [[.int .i64 n.grain,b]] 0 false false
 h1:g.h.get 1=.cells 5 [[.int .i64 0,.nils,.nils,.nils,.nils]] 0 false false
 hq:g.h.get q=.cells 5 [[.int .i64 n.grain,b,cv,sv,.nils]] 0 false false
 hc:Own g 2 cv 1 (X.map ci)
 hs:Own g 2 sv 1 (Y.map cu)
 q2:2<=q
 qn:q<g.nx
 d1:vid cv≠some q
 d2:vid sv≠some q
 d3:∀i,vid cv=some i->vid sv≠some i
section
variable {d:Nat}{n:Net}{b cv sv:AV}{q:Nat}{rows:List (List AV)}
def LRd (q:Nat):List (Nat×AV):=[(1,.hptr 0 0 0 0),(2,.hptr 1 0 0 0),(4,.hptr q 0 0 0)]
structure Rd0 (n:Net) (b cv sv:AV) (q j:Nat) (t:T) (g:G):Prop where
 st:St t ((48,b)::(5,.int .i64 (S.aD ((S.aH n).take j)))::LRd q)
 hp:RdH n b cv sv q ((S.aH n).take j++List.replicate (n.nodes.length - j) 0) (List.replicate n.nodes.length 0) g
 ok:∀x∈n.nodes.take j,1<=x.card/\x.card<=4
end
end
end Hx
end
section
namespace Hx
open Go
noncomputable section
def DM (ps:List Int)(i:Nat):Int:=if i=0 then -1 else ps[i - 1]?.getD 0
structure PlI (ps:List Int) (k:Int) (v i:Nat):Prop where
 rng:∀(j:Nat) (p:Int),j<i->ps[j]?=some p->0<=p/\p<k/\p≠(v:Int)
 inc:∀(j:Nat) (p q:Int),j+1<i->ps[j]?=some p->ps[j+1]?=some q->p<q
section
variable {d:Nat}{n:Net}{b cv sv:AV}{q:Nat}{rows:List (List AV)}
def S.bf (n:Net)(j:Nat)(m:Nat):List Nat:=(S.aU n).take j++m::List.replicate (n.nodes.length - (j+1)) 0
structure Rd1 (n:Net) (x:Node) (b cv sv pa:AV) (q j p9 i:Nat) (t:T) (g:G):Prop where
 st:St t ((80,b)::(81,.int .i64 (n.nodes.length:Int))::(82,.int .i64 (j:Int))::(88,pa)::(8,.int .i64 (j:Int))::(9,.hptr p9 0 0 0)::(10,.int .i64 (DM x.parents i))::LRd q)
 hp:RdH n b cv sv q (S.aH n) (S.bf n j (S.aZ (x.parents.take i))) g
 ok:PlI x.parents n.nodes.length j i
end
end
end Hx
end
section
namespace Hx
open Go
noncomputable section
section
variable {d:Nat}{n:Net}{b cv sv:AV}{q:Nat}{rows:List (List AV)}
structure Rd4 (n:Net) (b cv sv:AV) (q j:Nat) (t:T) (g:G):Prop where
 st:St t ((80,b)::LRd q)
 hp:RdH n b cv sv q (S.aH n) ((S.aU n).take j++List.replicate (n.nodes.length - j) 0) g
 ok:∀x∈n.nodes.take j,S.aV x.parents n.nodes.length=true/\S.be n.grain (S.aH n) x=true
theorem Own.natsV {g:G}{b:Nat}{v:AV}{l:List Nat}(h:Own g b v 1 (l.map cu))(hl:l.length<9223372036854775808)(hb:∀y∈l,y<18446744073709551616):SlR (fun i=>vid v=some i) 0 g.h l v :=
 Own.sl (α:=Nat) h hl (by
  have:∀l:List Nat,(∀y∈l,y<18446744073709551616)->All2 (Rp.rp (α:=Nat) (fun i=>vid v=some i) 0 g.h) l (l.map cu):=fun l=>by
   induction l with
   | nil=>intro _;trivial
   | cons y l ih=>intro h;exact ⟨sM.2 ⟨rfl,h y (by simp)⟩,ih fun z hz=>h z (by simp[hz])⟩
  exact this l hb) fun _ h=>h
theorem Own.nats' {g:G}{b:Nat}{v:AV}{l:List Nat}(h:Own g b v 1 (l.map cu))(hl:l.length<9223372036854775808)(hb:∀y∈l,y<18446744073709551616):SlR (fun _=>True) 0 g.h l v :=
 (h.natsV hl hb).wd fun _ _=>⟨trivial,rfl⟩
theorem Own.intsV {g:G}{b:Nat}{v:AV}{l:List Int}(h:Own g b v 1 (l.map ci))(hl:l.length<9223372036854775808):SlR (fun i=>vid v=some i) 0 g.h l v :=
 Own.sl (α:=Int) h hl (All2.of_map (fun a=>c_.2 rfl) _) fun _ h=>h
end
end
end Hx
end
section
namespace Hx
open Go
noncomputable section
structure FacH (bx nd:List AV) (w u:AV) (vars cards:List Int) (beh:Int) (q:Nat) (g:G):Prop where
 h0:g.h.get 0=.cells 5 [bx] 0 false false
 h1:g.h.get 1=.cells 3 [[.nils,.nils,.nils]] 0 false false
 h2:g.h.get 2=.cells 3 [nd] 0 false false
 h8:g.h.get q=.cells 3 [[w,u,.nils]] 0 false false
 h9:g.h.get (q+1)=.cells 1 [[.int .i64 beh]] 0 false false
 hw:Own g 3 w 1 (vars.map ci)
 hu:Own g (q+2) u 1 (cards.map ci)
 wq:∀i,vid w=some i->i<q
 q3:3<=q
 qn:q+2<=g.nx
def DY (q:Nat):List (Nat×AV):=[(2,.hptr 0 0 0 0),(4,.hptr 1 0 0 0),(5,.hptr 2 0 0 0),(8,.hptr q 0 0 0),(9,.hptr (q+1) 0 0 0)]
structure FacJ (gr:Int) (b cv sv oz:AV) (nd:List AV) (w:AV) (cs vars:List Int) (pl q j:Nat) (t:T) (g:G):Prop where
 st:St t ((38,w)::(6,.int .i64 (pl:Int))::DY q)
 hp:∃u,FacH [.int .i64 gr,b,cv,sv,oz] nd w u vars (S.aN cs (vars.take j)) (S.aD (S.aN cs ((vars.take j).drop (pl+1)))) q g
def GH (h:H)(n:Nat):G:=⟨h,n,[]⟩
@[simp] theorem GH_h (h:H) (n:Nat):(GH h n).h=h:=rfl
@[simp] theorem GH_nx (h:H) (n:Nat):(GH h n).nx=n:=rfl
structure FacG (g0:G) (iw:Nat) (W:AV) (rws:List (List Int)) (B C t:Nat) (h:H):Prop where
 fr:∀i,i<g0.nx->i≠iw->h.get i=g0.h.get i
 ow:Own (GH h (iw+1)) 3 W 1 ((S.bo rws B C t).map ci)
structure FacI (g0 g2:G) (iw:Nat) (W z:AV) (r:List Int) (rws:List (List Int)) (B C q j i:Nat) (t:T) (g:G):Prop where
 st:St t ((78,z)::(12,.int .i64 (j:Int))::DY q)
 hp:FacG g0 iw W rws B C (j*C+i) g.h
 nx:g2.nx<=g.nx
 fr:∀i,g0.nx<=i->i<g2.nx->g.h.get i=g2.h.get i
def S.bw (n:Net)(i:Nat)(x:Node)(p:Nat):Factor:=⟨S.a9 x.parents p (i:Int),S.aN (S.aH n) (S.a9 x.parents p (i:Int)),S.bh x.rows (S.aD (S.aN (S.aH n) (x.parents.drop p))).toNat x.card.toNat⟩
def S.aX (n:Net)(l:List Factor):Prop:=∀(i:Nat) (x:Node),i<l.length->n.nodes[i]?=some x->∃p,p<=x.parents.length/\l[i]?=some (S.bw n i x p)
structure FasJ (n:Net) (W b cv sv oz:AV) (j:Nat) (t:T) (g:G):Prop where
 st:St t [(4,.hptr 1 0 0 0),(6,W)]
 hg:g.h.get 1=.cells 5 [[.int .i64 n.grain,b,cv,sv,oz]] 0 false false
 hW:∃(rows:List (List AV)) (l:List Factor),Own g 2 W 3 rows/\rows.length=n.nodes.length/\l.length=j/\All2 (Rp.rp NoP 0 .nil) l (rows.take j)/\S.aX n l/\∀i,j<=i->i<n.nodes.length->rows[i]?=some [.nils,.nils,.nils]
end
end Hx
end
section
namespace Hx
open Go
abbrev QnM:Type:=Net×List Factor×List (List Int)
def S.aS (m:Nat)(f:Factor)(i:Nat)(R:List Int):Prop:=R.length=m/\∀(j:Nat) (y:Int),i<=j->f.vars[j]?=some y->R[y.toNat]?=some (S.aD (f.cards.drop (j+1)))
structure QnOk (n:Net) (y:QnM):Prop where
 net:y.1=n
 fl:y.2.1.length=n.nodes.length
 fs:S.aX n y.2.1
 sl:y.2.2.length=n.nodes.length
 st:∀(k:Nat) (f:Factor) (R:List Int),y.2.1[k]?=some f->y.2.2[k]?=some R->S.aS n.nodes.length f 0 R
end Hx
end
section
namespace Hx
open Go
noncomputable section
def Ef (fl:AV)(m q k:Nat):List (Nat×AV):=[(11,.hptr q 0 0 0),(2,.hptr 0 0 0 0),(4,.hptr 1 0 0 0),(45,fl),(46,.int .i64 (m:Int)),(47,.int .i64 (k:Int))]
structure AskI (fl:AV) (m q k:Nat) (g0:G) (iR:Nat) (R:AV) (f:Factor) (fb j:Nat) (t:T) (g:G):Prop where
 st:St t ((13,.hptr fb 0 0 0)::(12,.int .i64 (k:Int))::(14,.int .i64 (S.aD (f.cards.drop j)))::Ef fl m q k)
 nx:g0.nx<=g.nx
 fr:∀i,i<g0.nx->i≠iR->g.h.get i=g0.h.get i
 ow:∃X:List Int,Own g 2 R 1 (X.map ci)/\S.aS m f j X
structure FOk (m:Nat) (f:Factor):Prop where
 cl:f.cards.length=f.vars.length
 vl:f.vars.length<=16
 cb:∀c∈f.cards,1<=c/\c<=4
 nd:f.vars.Nodup
 vr:∀y∈f.vars,0<=y/\y<m
structure AskH (gr:Int) (b fl S_:AV) (m q:Nat) (fs:List Factor) (k:Nat) (g:G):Prop where
 h0:g.h.get 0=.cells 2 [[.int .i64 gr,b]] 0 false false
 h1:g.h.get 1=.cells 4 [[.int .i64 0,.nils,.nils,.nils]] 0 false false
 hq:g.h.get q=.cells 4 [[.int .i64 gr,b,fl,S_]] 0 false false
 q2:2<=q/\q<g.nx
 sq:∀i,vid S_=some i->i<q
 hS:∃(Vs:List AV) (l:List (List Int)),Own g 2 S_ 1 (Vs.map fun v=>[v])/\Vs.length=m/\l.length=k/\All2 (fun X v=>Own g (q+1) v 1 (X.map ci)) l (Vs.take k)/\∀(i:Nat) (f:Factor) (X:List Int),fs[i]?=some f->l[i]?=some X->S.aS m f 0 X
structure AskJ (gr:Int) (b fl S_:AV) (m q:Nat) (fs:List Factor) (k:Nat) (t:T) (g:G):Prop where
 st:St t [(11,.hptr q 0 0 0),(2,.hptr 0 0 0 0),(4,.hptr 1 0 0 0),(45,fl)]
 hp:AskH gr b fl S_ m q fs k g
structure WtI (y:QnM) (b fl S_ wv va ca wa:AV) (gr wt:Int) (p:Int) (cards pv:List Int) (m k fb i:Nat) (t:T) (g:G):Prop where
 st:St t [(1,wv),(2,.hptr 0 0 0 0),(12,fl),(13,.int .i64 (m:Int)),(14,.int .i64 (k:Int)),(5,.int .i64 wt),(6,.int .i64 (k:Int)),(7,.hptr fb 0 0 0),(20,va),(8,.int .i64 (p - S.aQ (cards.drop i) (pv.drop i)))]
 h0:g.h.get 0=.cells 4 [[.int .i64 gr,b,fl,S_]] 0 false false
 hf:g.h.get fb=.cells 3 [[va,ca,wa]] 0 false false
 nn:0<=p - S.aQ (cards.drop i) (pv.drop i)
 nx:1<=g.nx
structure WtJ (n:Net) (vals:List Int) (b fl S_ wv:AV) (k:Nat) (t:T) (g:G):Prop where
 st:St t [(1,wv),(2,.hptr 0 0 0 0),(12,fl),(5,.int .i64 (S.aD ((List.range k).map (S.bu n vals))))]
 h0:g.h.get 0=.cells 4 [[.int .i64 n.grain,b,fl,S_]] 0 false false
 nx:1<=g.nx
structure OdoJ (n:Net) (vs:List Int) (L:List (Nat×AV)) (u:AV) (g0:G) (m:Nat) (t:T) (g:G):Prop where
 st:tat t 6=.int .i64 ((m:Int) - 1)
 ss:St t L
 ow:Own g g0.nx u 1 ((vs.take m++List.replicate (vs.length - m) 0).map ci)
 mx:∀(j:Nat) (c:Int),m<=j->(S.aH n)[j]?=some c->vs[j]?.getD 0=c - 1
structure GvJ (g0:G) (q:Nat) (s:Int) (h:H):Prop where
 fr:∀i,i<g0.nx->i≠q->h.get i=g0.h.get i
 hq:h.get q=.cells 1 [[.int .i64 s]] 0 false false
structure ND where
 c:Nat->Int
 P:Nat->List Int
 m:Nat->Nat
 R:Nat->Nat->List Int
 o:Nat->Nat
def LN (n:Nat)(D:ND):Ky->Prop:=fun k=>k=(0,0)\/∃i q,k=(i+1,q)/\i<n/\q<2+D.o i
def Eb (D:ND)(V:Ky->AV)(i:Nat):List AV:=[.int .i64 (D.c i),V (i+1,0),V (i+1,1)]
def Eh (V:Ky->AV)(i r:Nat):List AV:=[V (i+1,2+r)]
structure BN (K n:Nat) (V:Ky->AV) (E:Ky->En) (D:ND):Prop where
 ns:E (0,0)=.sl 3 ((List.range n).map (Eb D V))
 ps:∀i,i<n->E (i+1,0)=.sl 1 ((D.P i).map ci)/\(D.P i).length<=K
 rs:∀i,i<n->E (i+1,1)=.sl 1 ((List.range (D.m i)).map (Eh V i))/\D.m i<=K
 rr:∀i r,i<n->r<D.m i->(D.R i r).length<=K/\((r<D.o i/\E (i+1,2+r)=.sl 1 ((D.R i r).map ci))\/SlR NoP 0 .nil (D.R i r) (V (i+1,2+r)))
def ND.node (D:ND)(i:Nat):Node:=⟨D.c i,D.P i,(List.range (D.m i)).map (D.R i)⟩
def El (gr c:Int)(l:List Int):Prop:=(l.length:Int)=c/\(∀y∈l,0<=y/\y<=gr)/\l.sum=gr
def S.rq (gr s x:Int):Int:=gr*x / s
structure Rw1 (gr:Int) (nv u:AV) (C F j:Nat) (t:T) (g:G):Prop where
 st:St t [(0,.int .i64 gr),(1,.int .i64 (C:Int)),(2,nv),(3,.int .i64 (F:Int)),(9,u)]
 hX:∃(X:List Int) (s:Int),tat t 10=.int .i64 s/\X.length=C/\Own g 0 u 1 (X.map ci)/\(∀x∈X,0<=x/\x<=7)/\s=(X.take j).sum/\0<=s/\s<=7*j
structure Rw2 (gr s:Int) (u:AV) (C:Nat) (X:List Int) (j:Nat) (t:T) (g:G):Prop where
 st:St t [(0,.int .i64 gr),(1,.int .i64 (C:Int)),(9,u),(10,.int .i64 s)]
 hX:∃(la:Nat),tat t 12=.int .i64 (gr - ((X.take j).map (S.rq gr s)).sum)/\tat t 13=.int .i64 (la:Int)/\la<C/\Own g 0 u 1 (((X.take j).map (S.rq gr s)++X.drop j).map ci)
theorem pX (os:List UInt8):∀k,(S.am os k).Perm ((List.range k).map fun i:Nat=>(i:Int))
 | 0=>.refl _
 | k+1=>by
  rw[List.range_succ,List.map_append,S.am]
  refine List.perm_middle.trans ?_
  rw[List.take_append_drop]
  exact ((pX os k).cons _).trans (List.perm_append_comm (l₁:=[(k:Int)]))
structure Num (n:Nat) (pl:List Int) (num:Nat->Nat):Prop where
 len:pl.length=n
 at_:∀k,k<n->pl[k]?=some (num k:Int)
 lt:∀k,k<n->num k<n
 inj:∀i j,i<n->j<n->num i=num j->i=j
 sur:∀u,u<n->∃k,k<n/\num k=u
theorem Dl (os:List UInt8)(n:Nat):∃num,Num n (S.am os n) num:=by
 have hp:=pX os n
 have hl:=jM os n
 have hmem:∀x∈S.am os n,∃i:Nat,i<n/\x=(i:Int):=fun x hx=>by
  have:=hp.mem_iff.1 hx
  obtain ⟨i,hi,rfl⟩:=List.mem_map.1 this
  exact ⟨i,List.mem_range.1 hi,rfl⟩
 have hnd:(S.am os n).Nodup:=by
  rw[hp.nodup_iff]
  refine List.Pairwise.map _ ?_ (List.nodup_range (n:=n))
  intro a b h e
  exact h (by omega)
 have hat:∀k,k<n->(S.am os n)[k]?=some (((S.am os n)[k]?.getD 0).toNat:Int)/\((S.am os n)[k]?.getD 0).toNat<n:=fun k hk=>by
  have hk':k<(S.am os n).length:=by omega
  have e:=List.getElem?_eq_getElem hk'
  obtain ⟨i,hi,h⟩:=hmem _ (List.getElem_mem hk')
  rw[e,Option.getD_some,h]
  simp[hi]
 refine ⟨fun k=>((S.am os n)[k]?.getD 0).toNat,hl,fun k hk=>(hat k hk).1,fun k hk=>(hat k hk).2,fun i j hi hj h=>?_,fun u hu=>?_⟩
 ·have h1:=(hat i hi).1
  have h2:=(hat j hj).1
  refine (List.getElem?_inj (by omega) hnd).1 ?_
  rw[h1,h2]
  exact congrArg (fun x:Nat=>some (x:Int)) h
 ·have:(u:Int)∈S.am os n:=hp.mem_iff.2 (List.mem_map.2 ⟨u,List.mem_range.2 hu,rfl⟩)
  obtain ⟨k,hk,he⟩:=List.mem_iff_getElem.1 this
  refine ⟨k,by omega,?_⟩
  rw[List.getElem?_eq_getElem hk,he];rfl
def LNX (X:Ky->Prop)(n:Nat)(D:ND):Ky->Prop:=fun k=>LN n D k\/X k
def X1:Ky->Prop:=fun k=>k=(0,1)
def X2:Ky->Prop:=fun k=>k=(0,1)\/k=(0,2)
structure DN (X:Ky->Prop) (r0:List AV) (n q K:Nat) (gr:Int) (V:Ky->AV) (E:Ky->En) (D:ND) (g:G):Prop where
 hp:Hp g 2 (LNX X n D) V E
 bn:BN K n V E D
 vb:V (0,1)=.hptr q 0 0 0
 bx:E (0,1)=.bx [.int .i64 gr,V (0,0)]
 h0:g.h.get 0=.cells 3 [r0] 0 false false
 h1:g.h.get 1=.cells 2 [[.int .i64 0,.nils]] 0 false false
structure NumI (n:Nat) (num:Nat->Nat) (Y:List Nat):Prop where
 l:Y.length=n
 b:∀i,i<n->∀u,(Par Y (num i)).testBit u=true->∃k,k<i/\u=num k
theorem xV {n:Nat}{num:Nat->Nat}:NumI n num (List.replicate n 0):=by
 refine ⟨by simp,fun i hi u h=>?_⟩
 have:Par (List.replicate n 0) (num i)=0:=by
  unfold Par
  rw[List.getElem?_replicate]
  split<;>rfl
 rw[this,Nat.zero_testBit] at h;cases h
theorem zN {n i k x:Nat}{num:Nat->Nat}{pl:List Int}{Y:List Nat}(hn:Num n pl num)(h:NumI n num Y)(hi:i<n)(hk:k<i)(hx:Y[num i]?=some x):NumI n num (Y.set (num i) (x ||| 2 ^ num k)):=by
 refine ⟨by simp[h.l],fun j hj u hu=>?_⟩
 have hil:=(List.getElem?_eq_some_iff.1 hx).1
 unfold Par at hu
 by_cases e:i=j
 ·subst e
  rw[List.getElem?_set_self hil,Option.getD_some,Nat.testBit_or,Bool.or_eq_true] at hu
  rcases hu with hu | hu
  ·exact h.b i hi u (by rw[Par,hx];exact hu)
  ·rw[Nat.testBit_two_pow,decide_eq_true_iff] at hu
   exact ⟨k,hk,hu.symm⟩
 ·rw[List.getElem?_set_ne fun e'=>e (hn.inj i j hi hj e')] at hu
  exact h.b j hj u hu
theorem A7 {n:Nat}{num:Nat->Nat}{pl:List Int}{Y:List Nat}(hn:Num n pl num)(h1:1<=n)(h8:n<=8)(h:NumI n num Y):GOk Y:=by
 have hp:∀x∈Y,x<2 ^ Y.length:=fun x hx=>by
  obtain ⟨v,hv,rfl⟩:=List.mem_iff_getElem.1 hx
  rw[h.l] at hv ⊢
  obtain ⟨i,hi,rfl⟩:=hn.sur v hv
  refine Nat.lt_pow_two_of_testBit _ fun u hu=>?_
  rw[<-Bool.not_eq_true]
  intro hb
  obtain ⟨k,hk,rfl⟩:=h.b i hi u (by rw[Par,List.getElem?_eq_getElem (by rw[h.l];exact hv)];exact hb)
  have:=hn.lt k (by omega)
  omega
 obtain ⟨rk,hrk⟩:∃rk:Nat->Nat,∀i,i<n->rk (num i)=i:=by
  have:∀v,∃r:Nat,∀i,i<n->num i=v->r=i:=fun v=>by
   by_cases hv:v<n
   ·obtain ⟨k,hk,e⟩:=hn.sur v hv
    exact ⟨k,fun i hi e'=>hn.inj k i hk hi (by rw[e,e'])⟩
   ·exact ⟨0,fun i hi e=>absurd (hn.lt i hi) (by omega)⟩
  exact ⟨fun v=>Classical.choose (this v),fun i hi=>Classical.choose_spec (this (num i)) i hi rfl⟩
 refine ⟨by rw[h.l];exact h1,by rw[h.l];exact h8,hp,mE hp (rk:=rk) fun u v e=>?_⟩
 have hv:=(jq hp e).2
 rw[h.l] at hv
 obtain ⟨i,hi,rfl⟩:=hn.sur v hv
 obtain ⟨k,hk,rfl⟩:=h.b i hi u e
 rw[hrk i hi,hrk k (by omega)]
 exact hk
theorem DW {a b v:Nat}:Bt (a ||| b) v↔Bt a v\/Bt b v:=by rw[Bt,Nat.testBit_or,Bool.or_eq_true];rfl
theorem wg {a b:Nat}:a &&& b=0↔∀v,¬(Bt a v/\Bt b v):=by
 rw[<-Classical.not_not (a:=a &&& b=0)]
 show ¬(a &&& b≠0)↔_
 rw[sX]
 exact ⟨fun h v hv=>h ⟨v,hv⟩,fun h ⟨v,hv⟩=>h v hv⟩
theorem BB {a b v:Nat}:Bt (a ^^^ (a &&& b)) v↔Bt a v/\¬Bt b v:=by
 rw[Bt,Nat.testBit_xor,Nat.testBit_and]
 unfold Bt
 cases a.testBit v<;>cases b.testBit v<;>simp
theorem BM {a b n:Nat}(h:a<2 ^ n):a ^^^ (a &&& b)<2 ^ n:=Nat.xor_lt_two_pow h (Nat.lt_of_le_of_lt Nat.and_le_left h)
end
end Hx
end
section
namespace Hx
open Go Classical
noncomputable section
section
variable {p:List Nat}
def S.wo (p:List Nat)(s:Nat):List Nat:=p.map fun x=>x ^^^ (x &&& s)
theorem gQ (s:Nat):(S.wo p s).length=p.length:=by simp[S.wo]
theorem D8 {s u v:Nat}:Eg (S.wo p s) u v↔Eg p u v/\¬Bt s u:=by
 unfold Eg Par S.wo
 rw[List.getElem?_map]
 cases h:p[v]? with
 | none=>simp
 | some x=>exact BB
theorem rD {s:Nat}(h:GOk p):GOk (S.wo p s):=by
 have hp:∀x∈S.wo p s,x<2 ^ (S.wo p s).length:=fun x hx=>by
  rw[gQ]
  obtain ⟨y,hy,rfl⟩:=List.mem_map.1 hx
  exact BM (h.hp y hy)
 refine ⟨by rw[gQ];exact h.l1,by rw[gQ];exact h.l8,hp,?_⟩
 exact mE hp fun u v e=>sZ h.hp h.ac u v (D8.1 e).1
def S.ct (p:List Nat)(s:Nat):List Nat:=(List.range p.length).map fun v=>if s.testBit v then 0 else Par p v
theorem lS (s:Nat):(S.ct p s).length=p.length:=by simp[S.ct]
theorem z8 {s v:Nat}:Par (S.ct p s) v=if s.testBit v then 0 else Par p v:=by
 by_cases hv:v<p.length
 ·conv=>lhs;unfold Par S.ct
  rw[List.getElem?_map,List.getElem?_range hv];rfl
 ·unfold Par S.ct
  rw[List.getElem?_eq_none (by simp;omega),List.getElem?_eq_none (by omega)];simp
theorem zu {s u v:Nat}:Eg (S.ct p s) u v↔Eg p u v/\¬Bt s v:=by
 unfold Eg Bt
 rw[z8]
 cases s.testBit v<;>simp
theorem DZ {s:Nat}(hp:∀x∈p,x<2 ^ p.length):∀x∈S.ct p s,x<2 ^ (S.ct p s).length:=fun x hx=>by
 rw[lS]
 obtain ⟨v,hv,rfl⟩:=List.mem_map.1 hx
 split
 ·exact Nat.two_pow_pos _
 ·exact jn hp
theorem Br:S.ct p 0=p:=by
 refine List.ext_getElem? fun v=>?_
 by_cases hv:v<p.length
 ·rw[S.ct,List.getElem?_map,List.getElem?_range hv,Option.map_some,Nat.zero_testBit]
  simp[Par,List.getElem?_eq_getElem hv]
 ·rw[List.getElem?_eq_none (by rw[lS];omega),List.getElem?_eq_none (by omega)]
def Psn (p:List Nat)(z y x:Nat):Prop:=∃v,Eg (S.ct p z) x v/\Ds (Eg (S.ct p z)) v y
def S.aB (p:List Nat)(z y x:Nat):Bool:=decide (Psn p z y x)
theorem Cx {z y x:Nat}(h:Psn p z y x):S.aB p z y x=true:=decide_eq_true h
theorem DK {z y x:Nat}(h:¬Psn p z y x):S.aB p z y x=false:=decide_eq_false h
theorem D0 {z y x:Nat}(h:S.aB p z y x=true):Psn p z y x:=of_decide_eq_true h
theorem D1 {z y x:Nat}(h:S.aB p z y x=false):¬Psn p z y x:=of_decide_eq_false h
theorem ug {z y x:Nat}(hz:¬Bt z y):Psn p z y x↔∃v,Eg p x v/\(v=y\/¬Bt z v/\Psn p z y v):=by
 constructor
 ·rintro ⟨v,e,hd⟩
  obtain ⟨e1,e2⟩:=zu.1 e
  refine ⟨v,e1,?_⟩
  cases hd with
  | rf=>exact .inl rfl
  | st e' hd=>exact .inr ⟨e2,_,e',hd⟩
 ·rintro ⟨v,e,rfl | ⟨h1,v',e',hd⟩⟩
  ·exact ⟨_,zu.2 ⟨e,hz⟩,.rf _⟩
  ·exact ⟨v,zu.2 ⟨e,h1⟩,.st e' hd⟩
theorem x8 {z y x:Nat}(hp:∀x∈p,x<2 ^ p.length)(hx:x<p.length)(hxy:x≠y):(S.dn (S.ct p z) (2 ^ x) p.length).testBit y=S.aB p z y x:=by
 have:=Bo (p:=S.ct p z) (DZ hp) (s:=2 ^ x) (by rw[lS];exact Nat.pow_lt_pow_right (by decide) hx) y
 rw[lS] at this
 rw[Bool.eq_iff_iff,this,S.aB,decide_eq_true_iff]
 constructor
 ·rintro ⟨u,hu,hd⟩
  rw[Nat.testBit_two_pow,decide_eq_true_iff] at hu
  subst hu
  cases hd with
  | rf=>exact absurd rfl hxy
  | st e hd=>exact ⟨_,e,hd⟩
 ·rintro ⟨v,e,hd⟩
  exact ⟨x,by rw[Nat.testBit_two_pow];simp,.st e hd⟩
end
end
end Hx
end
section
namespace Hx
open Go
noncomputable section
def S.a8 (x:Nat):Nat->Nat
 | 0=>8
 | k+1=>if x.testBit (7 - k) then 7 - k else S.a8 x k
def S.tz (x:Nat):Nat:=S.a8 x 8
theorem DT:∀x:Nat,x<256->x≠0->x &&& (18446744073709551616 - x)=2 ^ S.tz x/\S.tz x<8/\x &&& (x - 1)=x ^^^ 2 ^ S.tz x/\x.testBit (S.tz x)=true:=by decide +kernel
def qJ:List (List AV):=[[.int .u8 0,.int .u8 1,.int .u8 56,.int .u8 2,.int .u8 57,.int .u8 49,.int .u8 28,.int .u8 3,.int .u8 61,.int .u8 58,.int .u8 42,.int .u8 50,.int .u8 38,.int .u8 29,.int .u8 17,.int .u8 4,.int .u8 62,.int .u8 47,.int .u8 59,.int .u8 36,.int .u8 45,.int .u8 43,.int .u8 51,.int .u8 22,.int .u8 53,.int .u8 39,.int .u8 33,.int .u8 30,.int .u8 24,.int .u8 18,.int .u8 12,.int .u8 5,.int .u8 63,.int .u8 55,.int .u8 48,.int .u8 27,.int .u8 60,.int .u8 41,.int .u8 37,.int .u8 16,.int .u8 46,.int .u8 35,.int .u8 44,.int .u8 21,.int .u8 52,.int .u8 32,.int .u8 23,.int .u8 11,.int .u8 54,.int .u8 26,.int .u8 40,.int .u8 15,.int .u8 34,.int .u8 20,.int .u8 31,.int .u8 10,.int .u8 25,.int .u8 14,.int .u8 19,.int .u8 9,.int .u8 13,.int .u8 8,.int .u8 7,.int .u8 6]]
theorem Dz (b:Nat)(hb:b<8):∃i p,aX .shr (.int .u64 (IntKind.u64.wrap (((2 ^ b:Nat):Int)*285870213051353865))) (.int .u64 58)=.val i/\AZ 64 1 (.tptr 0 64 qJ 0 0) i=.val p/\∀g,iV false 1 p g=.val (.int .u8 (b:Int)):=by
 match b,hb with
 | 0,_=>exact ⟨.int .u64 0,.tptr 0 64 qJ 0 0,by kernel_rfl,by kernel_rfl,fun g=>by kernel_rfl⟩
 | 1,_=>exact ⟨.int .u64 1,.tptr 0 64 qJ 0 1,by kernel_rfl,by kernel_rfl,fun g=>by kernel_rfl⟩
 | 2,_=>exact ⟨.int .u64 3,.tptr 0 64 qJ 0 3,by kernel_rfl,by kernel_rfl,fun g=>by kernel_rfl⟩
 | 3,_=>exact ⟨.int .u64 7,.tptr 0 64 qJ 0 7,by kernel_rfl,by kernel_rfl,fun g=>by kernel_rfl⟩
 | 4,_=>exact ⟨.int .u64 15,.tptr 0 64 qJ 0 15,by kernel_rfl,by kernel_rfl,fun g=>by kernel_rfl⟩
 | 5,_=>exact ⟨.int .u64 31,.tptr 0 64 qJ 0 31,by kernel_rfl,by kernel_rfl,fun g=>by kernel_rfl⟩
 | 6,_=>exact ⟨.int .u64 63,.tptr 0 64 qJ 0 63,by kernel_rfl,by kernel_rfl,fun g=>by kernel_rfl⟩
 | 7,_=>exact ⟨.int .u64 62,.tptr 0 64 qJ 0 62,by kernel_rfl,by kernel_rfl,fun g=>by kernel_rfl⟩
theorem BZ {d x:Nat}{g:G}(hd:0<d)(hx:x<256)(h0:x≠0):ap C0 d N.aN [.int .u64 (x:Int)] g=.val (.int .i64 (S.tz x:Int)):=by
 obtain ⟨h1,h2,-⟩:=DT x hx h0
 rw[fL]
 refine eN f8 (xs:=[.int .u64 (x:Int)]) (by simp only[aA,aW 0]) (by simp[bG]) hd ?_
 have c0:¬(x:Int)=0:=by omega
 have hneg:unV .neg (.int .u64 (x:Int))=.val (.int .u64 ((18446744073709551616 - x:Nat):Int)):=by
  show OR.val (.int .u64 (IntKind.wrap .u64 (0 - (x:Int))))=_
  have:IntKind.wrap .u64 (0 - (x:Int))=((18446744073709551616 - x:Nat):Int):=by
   show (0 - (x:Int)) % 18446744073709551616=_
   omega
  rw[this]
 have hand:aX .and (.int .u64 (x:Int)) (.int .u64 ((18446744073709551616 - x:Nat):Int))=.val (.int .u64 ((2 ^ S.tz x:Nat):Int)):=by
  rw[bp x (18446744073709551616 - x) (by omega) (by omega),h1]
 simp only[sz,simprocAttr,bG,c0,hneg,hand]
 obtain ⟨b,hb⟩:∃b,b=S.tz x:=⟨_,rfl⟩
 rw[<-hb] at h2 ⊢
 clear hand hb h1
 obtain ⟨i,p,t1,t2,t3⟩:=Dz b h2
 rw[qJ] at t2
 simp only[sz,simprocAttr,t1,t2,t3]
 rw[eX (by omega) (by omega)]
theorem vH {C:Cfg}{d:Nat}{r:List SR}{t:T}{g:G}{K:AV->G->Prop}{i j:Nat}(hi:g.h.get i=.dfr true)(hj:g.h.get j=.dfr true)(hij:i≠j)(h:mV r t ((g.put i (.dfr false)).put j (.dfr false)) fun vs=>K (dG vs) ((g.put i (.dfr false)).put j (.dfr false))):lM C d r t [.mark i,.mark j] g K:=by
 unfold lM
 have:cH (I C) d [.mark i,.mark j] g=some ((g.put i (.dfr false)).put j (.dfr false)):=by
  have hj':(g.put i (.dfr false)).h.get j=.dfr true:=by simp[H.get_put,show ¬j=i by omega,hj]
  simp only[cH,G.get_eq,hi,hj']
 rw[this];exact h
def S.ah (s:Nat):List Nat:=(List.range 8).filter fun v=>s.testBit v
theorem yI:∀x:Nat,x<256->x≠0->S.ah x=S.tz x::S.ah (x &&& (x - 1))/\x &&& (x - 1)<256:=by decide +kernel
theorem kg {s v:Nat}(hs:s<256):v∈S.ah s↔s.testBit v=true:=by
 rw[S.ah,List.mem_filter,List.mem_range]
 exact ⟨fun h=>h.2,fun h=>⟨od (n:=8) hs h,h⟩⟩
theorem DL {d x:Nat}{g:G}(hd:0<d)(hx:x<256)(h0:x≠0):ap C0 d N.aT [.int .u64 (x:Int)] g=.val (.int .i64 (S.tz x:Int)):=by
 rw[f9]
 refine eN hK (xs:=[.int .u64 (x:Int)]) (by simp only[aA,aW 0]) (by simp[b_]) hd ?_
 have k:=fun g=>BZ (d:=d+1) (g:=g) (Nat.succ_pos d) hx h0
 simp only[sz,simprocAttr,b_,k]
def MbV (s:Nat):VS:=fun P k h v=>∃p,v=.clo N.ak [] [p]/\((∃id,p=.hptr id 0 0 0/\P id/\h.get id=.cells 1 [[.int .u64 (s:Int)]] 0 false false)\/∃t,p=.tptr t 1 [[.int .u64 (s:Int)]] 0 0/\t<=k)
theorem Cn {h:H}{id:Nat}{x:AV}{k:IntKind}{q:Int}(hx:x=.int k q)(d j:Nat)(hg:h.get id=.cells 1 [[x]] 0 false false):Hx.snap h d (j+3) (.hptr id 0 0 0)=some (.tptr (Nat.max d 0) 1 [[x]] 0 0):=by
 subst hx
 simp only[Hx.snap,hg,show Nat.beq 0 0=true from rfl,aA]
 rfl
theorem DD (s:Nat):Snb (MbV s) 4:=by
 refine ⟨fun {P k h v j} d r hn=>?_,fun {k h v j} r hn=>?_⟩
 ·obtain ⟨p,rfl,r1⟩:=r
  obtain ⟨j,rfl⟩:∃i,j=i+4:=⟨j - 4,by omega⟩
  obtain ⟨p',e1,s1⟩:∃p',Hx.snap h d (j+3) p=some p'/\∃t,p'=.tptr t 1 [[.int .u64 (s:Int)]] 0 0/\t<=max k d:=by
   rcases r1 with ⟨id,rfl,-,hg⟩ | ⟨t,rfl,ht⟩
   ·exact ⟨_,Cn rfl d j hg,_,rfl,by show max d 0<=_;omega⟩
   ·exact ⟨_,rfl,_,rfl,by omega⟩
  refine ⟨.clo N.ak [] [p'],?_,p',rfl,.inr s1⟩
  show (match aA (Hx.snap h d (j+3)) [],aA (Hx.snap h d (j+3)) [p] with | some as',some cs=>some (AV.clo N.ak as' cs) | _,_=>none)=_
  simp only[aA,e1]
 ·obtain ⟨p,rfl,r1⟩:=r
  obtain ⟨j,rfl⟩:∃i,j=i+4:=⟨j - 4,by omega⟩
  rcases r1 with ⟨id,rfl,hP,-⟩ | ⟨t,rfl,ht⟩
  ·exact hP.elim
  exact ⟨Nat.max t 0,rfl,by show max t 0<=k;omega⟩
def mbC (s:Nat):AV:=.clo N.ak [] [.tptr 0 1 [[.int .u64 (s:Int)]] 0 0]
theorem ja {d s:Nat}{g:G}(hd:0<d):ap C0 d N.ae [.int .u64 (s:Int)] g=.val (mbC s):=by
 have key:∃r,ap C0 d N.ae [.int .u64 (s:Int)] g=.val r/\MbV s NoP 0 .nil r:=by
  rw[jD]
  refine fu kZ (xs:=[.int .u64 (s:Int)]) rfl (by simp[dW]) (DD s) (by decide) hd ?_
  simp only[sz,simprocAttr,dW,fF]
  exact ⟨fun _=>True,_,rfl,.inl ⟨0,rfl,trivial,by simp[sx]⟩⟩
 obtain ⟨r,h1,p,rfl,h2⟩:=key
 rcases h2 with ⟨id,rfl,hP,-⟩ | ⟨t,rfl,ht⟩
 ·exact hP.elim
 rw[h1,show t=0 by omega];rfl
theorem B1 {d id s:Nat}{g0:G}{K:AV->G->Prop}(hd:0<d)(hs:s<256)(J:Nat->H->Prop)
  (step:∀(j v:Nat) (g:G) (K':AV->G->Prop) (D:ADf->Prop),(S.ah s)[j]?=some v->g0.nx<=g.nx->J j g.h ->
   (∀g',J (j+1) g'.h->g.nx<=g'.nx->K' (.bool true) g')->(cO (I C0) d id [.int .i64 (v:Int)] g).sat K' g D)
  (h0:J 0 g0.h) (fin:∀g',J (S.ah s).length g'.h->g0.nx<=g'.nx->K (.tup []) g') :
  wp C0 d none a7.code (fnQ C0 d a7.res K) (bw 0 [.yld id,.tptr 0 1 [[.int .u64 (s:Int)]] 0 0] .nil) [] g0:=by
 simp only[sz,simprocAttr,a7,yG]
 refine pC (fun n t df g=>df=[]/\∃j x:Nat,n=(S.ah s).length - j/\j<=(S.ah s).length/\x<256/\S.ah x=(S.ah s).drop j/\St t [(0,.yld id),(3,.int .u64 (x:Int))]/\J j g.h/\g0.nx<=g.nx) (S.ah s).length
  ⟨rfl,0,s,by omega,by omega,hs,by simp,by simp[St,sx],h0,Nat.le_refl _⟩ ?_
 rintro n t df g ⟨rfl,j,x,rfl,hj,hx,hm,⟨t0,t3,-⟩,hJ,hn⟩
 simp only[ef]
 by_cases hx0:x=0
 ·have hjl:j=(S.ah s).length:=by
   have:(S.ah x).length=0:=by rw[hx0];rfl
   rw[hm,List.length_drop] at this
   omega
  subst hx0
  simp only[sz,simprocAttr,t0,t3]
  rw[hjl] at hJ
  exact fin g hJ hn
 ·obtain ⟨e1,e2⟩:=yI x hx hx0
  have c0:¬(x:Int)=0:=by omega
  have k:=fun g=>DL (d:=d) (g:=g) hd hx hx0
  have hv:(S.ah s)[j]?=some (S.tz x):=by
   have:((S.ah s).drop j)[0]?=some (S.tz x):=by rw[<-hm,e1];rfl
   rwa [List.getElem?_drop] at this
  simp only[sz,simprocAttr,t0,t3,c0,k]
  show (cO (I C0) d id [.int .i64 (S.tz x:Int)] g).sat _ _ _
  refine step j (S.tz x) g _ _ hv hn hJ (fun g' hJ' hn'=>?_)
  have w1:IntKind.wrap .u64 ((x:Int) - 1)=((x - 1:Nat):Int):=by rw[cU (by omega) (by omega)];omega
  have w2:aX .and (.int .u64 (x:Int)) (.int .u64 ((x - 1:Nat):Int))=.val (.int .u64 ((x &&& (x - 1):Nat):Int)):=bp x (x - 1) (by omega) (by omega)
  simp only[sz,simprocAttr,t0,t3,w1,w2]
  have hjl:j<(S.ah s).length:=(List.getElem?_eq_some_iff.1 hv).1
  refine ⟨(S.ah s).length - (j+1),by omega,j+1,x &&& (x - 1),rfl,by omega,e2,?_,by simp[St,sx,t0],hJ',by omega⟩
  have h3:(S.ah x).tail=((S.ah s).drop j).tail:=by rw[hm]
  rw[e1,List.tail_drop] at h3
  exact h3
theorem yA:C0.ext N.ak=none:=by kernel_rfl
theorem rT {d nt y p s:Nat}{ca cb:SC}{Q:QT}{t:T}{df:List ADf}{g:G}(hd:0<d)(hs:s<256)(hv:tat t y=mbC s)(hp:p<nt)
  (J:Nat->H->Prop) (hJ:∀j h h',(∀i,i<g.nx->h'.get i=h.get i)->J j h->J j h') (h0:J 0 g.h)
  (step:∀(j v:Nat) (g1:G),(S.ah s)[j]?=some v->J j g1.h->g.nx+2<=g1.nx ->
   wp C0 d (some (g.nx+1)) ca (fun e t1 df g1'=>e=.norm/\df=[]/\g1'=g1/\∀g2:G,g2.nx=g1.nx->(∀i,i≠g.nx+1->g2.h.get i=g1.h.get i) ->
    wp C0 d (some (g.nx+1)) cb (fun e _ df g3=>df=[]/\RowQ g.nx g2 g3 e (J (j+1) g3.h) False) t1 [] g2)
    (co t p (.int .i64 (v:Int))) [] g1)
  (fin:∀g',J (S.ah s).length g'.h->g.nx+2<=g'.nx->g'.h.get g.nx=.dfr true->Q .norm t (.mark g.nx::df) g') :
  wp C0 d none (.rng nt (.t y) [p] ca cb) Q t df g:=by
 refine vg (fn:=N.ak) (first:=[]) (cap:=[.tptr 0 1 [[.int .u64 (s:Int)]] 0 0]) (s:=a7) hv yA jB (by simp[a7]) ?_
 intro assign body ha hb
 have e1:((g.new (.dfr true)).new (.loop nt t [p] assign body g.nx .ready none)).nx=g.nx+2:=by simp
 refine B1 (g0:=(g.new (.dfr true)).new (.loop nt t [p] assign body g.nx .ready none)) (id:=g.nx+1) hd hs
  (fun j h=>J j h/\h.get g.nx=.dfr true/\h.get (g.nx+1)=.loop nt t [p] assign body g.nx .ready none) ?_ ?_ ?_
 ·rintro j v g1 K' D hj hn ⟨a1,a2,a3⟩ kk
  rw[e1] at hn
  refine yr a3 ha hb (t':=co t p (.int .i64 (v:Int))) ?_ ?_
  ·simp only[dt,aa,Nat.blt_eq,if_pos hp];rfl
  ·refine dR _ (step j v g1 hj a1 (by omega)) ?_
   rintro e t1 df g1' ⟨rfl,rfl,rfl,h⟩
   refine ⟨rfl,rfl,rfl,?_⟩
   have hl:g.nx+1<g1'.nx:=by omega
   refine dR _ (h (g1'.put (g.nx+1) (.loop nt t [p] assign body g.nx .busy none)) (by simp) (fun i hi=>by simp[H.get_put,hi])) ?_
   rintro e t2 df g3 ⟨rfl,⟨b2,b3,b1⟩⟩
   have b4:g3.h.get (g.nx+1)=.loop nt t [p] assign body g.nx .busy none:=by rw[b3 _ (by omega) (by simpa using hl)];simp[H.get_put]
   have b5:g3.h.get g.nx=.dfr true:=by
    rw[b3 _ (by omega) (by simp;omega)];simp[H.get_put,a2]
   refine ⟨rfl,b4,?_⟩
   rcases b1 with ⟨rfl,b1⟩ | ⟨rfl,b1⟩
   ·refine .inl ⟨rfl,kk _ ⟨hJ _ g3.h _ (fun i hi=>by simp[H.get_put,show ¬i=g.nx+1 by omega]) b1,?_,?_⟩ (by simpa using b2)⟩
    ·simp[H.get_put,b5]
    ·simp[H.get_put]
   ·exact b1.elim
 ·refine ⟨hJ 0 g.h _ (fun i hi=>?_) h0,?_,?_⟩
  ·simp[H.get_put,show ¬i=g.nx+1 by omega,show ¬i=g.nx by omega]
  ·simp[H.get_put]
  ·simp[H.get_put]
 ·rintro g' ⟨a1,a2,a3⟩ hn
  rw[e1] at hn
  refine ⟨_,_,_,_,_,_,.inl ⟨a3,fin _ (hJ _ g'.h _ (fun i hi=>by simp[H.get_put,show ¬i=g.nx+1 by omega]) a1) (by simpa using hn) ?_⟩⟩
  simp[H.get_put,a2]
section
variable {α:Type} [DecidableEq α]
end
theorem uW {C:Cfg}{ty kt et a b:Nat}{z:AV}{ok:Bool}(hu:C.P.underlying ty=some (.map kt et))(hz:lF C.P et=some z)(d:Nat)(rd:Option Nat)(t:T)(g:G):(SO.raw (.lookup ty (.tmp a) (.tmp b) ok)).run C d rd t g=bC (bB C.P kt) z ok (fun t=>tat t a) (fun t=>tat t b) t g:=by
 obtain ⟨s1,e1,r1⟩:=aO (C:=C) (x:=.tmp a) (o:=.t a) rfl
 obtain ⟨s2,e2,r2⟩:=aO (C:=C) (x:=.tmp b) (o:=.t b) rfl
 show (bF C _).run (I C) d rd t g=_
 rw[aY (s:=⟨bC (bB C.P kt) z ok s1.run s2.run⟩) rfl (by simp only[bo,e1,e2,hu,hz])]
 rw[show s1.run=fun t=>tat t a from funext r1,show s2.run=fun t=>tat t b from funext r2]
end
end Hx
end
section
namespace Hx
open Go
noncomputable section
def sk (s:Nat×Bool):AV:=.agg [.int .i64 (s.1:Int),.bool s.2]
theorem Dc (a b:Nat×Bool):gL (sk a) (sk b)=some (decide (a=b)):=by
 obtain ⟨a1,a2⟩:=a
 obtain ⟨b1,b2⟩:=b
 have e:gL (sk (a1,a2)) (sk (b1,b2))=some (af (yj (a1:Int) (b1:Int)) (af (a2 == b2) true false) false):=by
  cases a2<;>cases b2<;>rfl
 rw[e,m6]
 by_cases h1:a1=b1
 ·subst h1
  cases a2<;>cases b2<;>simp[af]
 ·have:¬(a1:Int)=(b1:Int):=by omega
  simp[h1,this,af]
def bcl (L:List (Nat×Bool)):List (AV×AV):=L.map fun s=>(sk s,.bool true)
theorem wy (s:Nat×Bool):∀L:List (Nat×Bool),fW (sk s) (bcl L)=some (if s∈L then some (.bool true) else none)
 | []=>rfl
 | a::r=>by
  rw[bcl,List.map_cons,fW,Dc]
  by_cases e:s=a
  ·subst e;simp
  ·have ih:=wy s r
   rw[bcl] at ih
   simp only[decide_eq_false e]
   rw[ih]
   simp[e]
theorem zH {s:Nat×Bool}:∀{L:List (Nat×Bool)},s ∉ L->sE (sk s) (.bool true) (bcl L)=some (bcl (L++[s]))
 | [],_=>rfl
 | a::r,h=>by
  rw[bcl,List.map_cons,sE,Dc]
  have e:s≠a:=fun e=>h (e ▸ List.mem_cons_self ..)
  have ih:=zH (L:=r) fun h'=>h (List.mem_cons_of_mem _ h')
  rw[bcl] at ih
  rw[show decide (s=a)=false from decide_eq_false e]
  show (match sE (sk s) (AV.bool true) (List.map (fun s=>(sk s,AV.bool true)) r) with | some r=>some ((sk a,AV.bool true)::r) | none=>none)=_
  rw[ih]
  rfl
def ktS:Nat:=match C0.P.underlying 192 with | some (.map k _)=>k | _=>0
theorem Db:C0.P.underlying 192=some (.map ktS 4):=by kernel_rfl
theorem D6 (s:Nat×Bool):gn (bB C0.P ktS) (sk s)=true:=by
 have e:bB C0.P ktS=.flat [.int .i64,.bool]:=by kernel_rfl
 rw[e];rfl
theorem DS:lF C0.P 4=some (.bool false):=by kernel_rfl
theorem DF (d:Nat)(rd:Option Nat)(t:T)(g:G):(bF C0 (.makeMap 192 none)).run (I C0) d rd t g=.upd (.hmap g.nx) (g.new (.map [])):=by kernel_rfl
theorem A8 {d:Nat}{rd:Option Nat}{t:T}{g:G}{a b id:Nat}{s:Nat×Bool}{L:List (Nat×Bool)}(h1:tat t a=.hmap id)(h2:tat t b=sk s)(hg:g.h.get id=.map (bcl L)):(bF C0 (.lookup 192 (.tmp a) (.tmp b) false)).run (I C0) d rd t g=.val (.bool (decide (s∈L))):=by
 have:=uW (C:=C0) (a:=a) (b:=b) (ok:=false) Db DS d rd t g
 rw[show (SO.raw (.lookup 192 (.tmp a) (.tmp b) false)).run C0 d rd t g=(bF C0 (.lookup 192 (.tmp a) (.tmp b) false)).run (I C0) d rd t g from rfl] at this
 rw[this]
 unfold bC
 simp only[h1,h2,D6,G.get_eq,hg,wy]
 by_cases h:s∈L
 ·simp[h,af]
 ·simp[h,af]
theorem AJ {C:Cfg}{ty kt et a b:Nat}(hu:C.P.underlying ty=some (.map kt et))(d:Nat)(rd:Option Nat)(t:T)(g:G):(bF C (.mapUpdate ty (.tmp a) (.tmp b) (.const (.bool true)))).run (I C) d rd t g=bK (bB C.P kt) (fun t=>tat t a) (fun t=>tat t b) (fun _=>.bool true) t g:=by
 obtain ⟨s1,e1,r1⟩:=aO (C:=C) (x:=.tmp a) (o:=.t a) rfl
 obtain ⟨s2,e2,r2⟩:=aO (C:=C) (x:=.tmp b) (o:=.t b) rfl
 obtain ⟨s3,e3,r3⟩:=aO (C:=C) (x:=.const (.bool true)) (o:=.k (.bool true)) rfl
 rw[aY (s:=⟨bK (bB C.P kt) s1.run s2.run s3.run⟩) rfl (by simp only[bo,e1,e2,e3,hu])]
 rw[show s1.run=fun t=>tat t a from funext r1,show s2.run=fun t=>tat t b from funext r2,show s3.run=fun _=>.bool true from funext r3]
theorem D9 {d:Nat}{rd:Option Nat}{t:T}{g:G}{a b id:Nat}{s:Nat×Bool}{L:List (Nat×Bool)}(h1:tat t a=.hmap id)(h2:tat t b=sk s)(hg:g.h.get id=.map (bcl L))(hs:s ∉ L):(bF C0 (.mapUpdate 192 (.tmp a) (.tmp b) (.const (.bool true)))).run (I C0) d rd t g=.upd .undef (g.put id (.map (bcl (L++[s])))):=by
 rw[AJ Db]
 unfold bK
 simp only[h1,h2,D6,G.get_eq,hg,zH hs]
def A3:AV:=.clo N.aM [] [.hptr 5 0 0 0,.hptr 1 0 0 0,.hptr 4 0 0 0,.hptr 0 0 0 0,.hptr 6 0 0 0,.hptr 2 0 0 0]
structure GrI (p c:List Nat) (pa ch:AV) (Zs:Nat):Prop where
 hp:∀x∈p,x<2 ^ p.length
 n8:p.length<=8
 rp:∀h,aw h 1 pa=some (p.map cu)
 rc:∀h,aw h 1 ch=some (c.map cu)
 yp:0<p.length->pi pa=true
 yc:0<p.length->pi ch=true
 cl:c.length=p.length
 cb:∀v u,(c[v]?.getD 0).testBit u=true↔Eg p v u
 zs:Zs<2 ^ p.length
structure VI (p:List Nat) (pa ch:AV) (Zs:Nat) (L:List (Nat×Bool)) (h:H):Prop where
 g0:h.get 0=.cells 2 [[pa,ch]] 0 false false
 z:h.get 1=.cells 1 [[.int .u64 (Zs:Int)]] 0 false false
 a:h.get 2=.cells 1 [[.int .u64 (S.up p Zs p.length:Int)]] 0 false false
 m:h.get 3=.map (bcl L)
 r:h.get 4=.cells 1 [[.int .u64 (S.aa (i_ (Bt Zs) L) p.length:Int)]] 0 false false
 p:h.get 5=.cells 1 [[.hmap 3]] 0 false false
 v:h.get 6=.cells 1 [[A3]] 0 false false
theorem VI.fr {p:List Nat}{pa ch:AV}{Zs:Nat}{L:List (Nat×Bool)}{h h':H}(hi:VI p pa ch Zs L h)(hh:∀i,i<7->h'.get i=h.get i):VI p pa ch Zs L h' :=
 ⟨by rw[hh 0 (by omega),hi.g0],by rw[hh 1 (by omega),hi.z],by rw[hh 2 (by omega),hi.a],by rw[hh 3 (by omega),hi.m],by rw[hh 4 (by omega),hi.r],by rw[hh 5 (by omega),hi.p],by rw[hh 6 (by omega),hi.v]⟩
theorem GrI.cb8 {p c:List Nat}{pa ch:AV}{Zs:Nat}(h:GrI p c pa ch Zs)(v:Nat):c[v]?.getD 0<256:=by
 have:c[v]?.getD 0<2 ^ p.length:=Nat.lt_pow_two_of_testBit _ fun u hu=>by
  cases hb:(c[v]?.getD 0).testBit u with
  | false=>rfl
  | true =>
   have:=(jq h.hp ((h.cb v u).1 hb)).2
   omega
 have h2:=Nat.pow_le_pow_right (show 0<2 by decide) h.n8
 omega
theorem GrI.pb8 {p c:List Nat}{pa ch:AV}{Zs:Nat}(h:GrI p c pa ch Zs)(v:Nat):Par p v<256:=by
 have:=jn h.hp (v:=v)
 have h2:=Nat.pow_le_pow_right (show 0<2 by decide) h.n8
 omega
theorem Bp (d:Nat)(s:AV)(g:G):fH C0 (I C0) d A3 [s] g=orF ((I C0).call d N.aM [s,.hptr 5 0 0 0,.hptr 1 0 0 0,.hptr 4 0 0 0,.hptr 0 0 0 0,.hptr 6 0 0 0,.hptr 2 0 0 0] g):=by kernel_rfl
abbrev RX (p:List Nat)(Zs:Nat):=Sx (Eg p) (Bt Zs) (An (Eg p) (Bt Zs))
def LVs (q:Nat):List (Nat×AV):=[(1,.hptr 5 0 0 0),(2,.hptr 1 0 0 0),(3,.hptr 4 0 0 0),(4,.hptr 0 0 0 0),(5,.hptr 6 0 0 0),(6,.hptr 2 0 0 0),(7,.hptr q 0 0 0)]
def ur (p:List Nat)(pa ch:AV)(Zs:Nat)(Gd:Nat×Bool->Prop)(d k:Nat):Prop :=
 ∀(L:List (Nat×Bool)) (s:Nat×Bool) (g:G) (K:AV->G->Prop) (D:ADf->Prop),S.aG p.length L<=k->Gd s->(∀s∈L,Gd s)->7<=g.nx->VI p pa ch Zs L g.h ->
  (∀g' L',VI p pa ch Zs L' g'.h->g.nx<=g'.nx->(∀i,7<=i->i<g.nx->g'.h.get i=g.h.get i)->Dst (RX p Zs) Gd L L'->s∈L'->K (.tup []) g') ->
  (fH C0 (I C0) d A3 [sk s] g).sat K g D
structure VJ (p:List Nat) (pa ch:AV) (Zs:Nat) (Gd:Nat×Bool->Prop) (L:List (Nat×Bool)) (b:Bool) (l:List Nat) (g0:G) (j:Nat) (h:H):Prop where
 ex:∃L',VI p pa ch Zs L' h/\Dst (RX p Zs) Gd L L'/\∀i v,i<j->l[i]?=some v->(v,b)∈L'
 fr:∀i,7<=i->i<g0.nx->h.get i=g0.h.get i
theorem y_ {p:List Nat}{pa ch:AV}{Zs:Nat}{Gd:Nat×Bool->Prop}{d k q set:Nat}{L:List (Nat×Bool)}{Q:QT}{t:T}{df:List ADf}{g:G}(hd:0<d)(hv:ur p pa ch Zs Gd d k)(hk:S.aG p.length L<=k)(hs:set<256)
  (hg:∀v∈S.ah set,Gd (v,true)) (hL:∀s∈L,Gd s) (hI:VI p pa ch Zs L g.h) (hn:7<=g.nx) (ht:St t (LVs q)) (hy:tat t 32=mbC set)
  (fin:∀g' L',VI p pa ch Zs L' g'.h->g.nx+2<=g'.nx->g'.h.get g.nx=.dfr true->(∀i,7<=i->i<g.nx->g'.h.get i=g.h.get i)->Dst (RX p Zs) Gd L L'->(∀v∈S.ah set,(v,true)∈L')->Q .norm t (.mark g.nx::df) g') :
  wp C0 d none (.rng 74 (.t 32) [33] a_ ba) Q t df g:=by
 obtain ⟨h1,h2,h3,h4,h5,h6,h7,-⟩:=ht
 refine rT hd hs hy (by decide) (fun j h=>VJ p pa ch Zs Gd L true (S.ah set) g j h) ?_ ⟨⟨L,hI,Dst.refl hL,fun i v h=>absurd h (Nat.not_lt_zero i)⟩,fun _ _ _=>rfl⟩ ?_ ?_
 ·rintro j h h' hh ⟨⟨L1,i1,i2,i3⟩,f1⟩
  exact ⟨⟨L1,i1.fr fun i hi=>hh i (by omega),i2,i3⟩,fun i h1 h2=>by rw[hh i h2,f1 i h1 h2]⟩
 ·rintro j v g1 hj ⟨⟨L1,i1,i2,i3⟩,f1⟩ hn1
  simp only[sz,simprocAttr,a_]
  intro g2 hn2 hf2
  have i1':VI p pa ch Zs L1 g2.h:=i1.fr fun i hi=>hf2 i (by omega)
  simp only[sz,simprocAttr,ba,h5,i1'.v]
  refine hv L1 (v,true) g2 _ _ (Nat.le_trans (oW i2.pre) hk) (hg v (List.mem_of_getElem? hj)) i2.good (by omega) i1' fun g3 L2 j1 j2 j3 j4 j5=>?_
  simp only[sz,simprocAttr]
  refine ⟨j2,fun i a b=>j3 i (by omega) b,.inl ⟨rfl,⟨L2,j1,i2.tr j4,fun i u hi hu=>?_⟩,fun i a b=>?_⟩⟩
  ·by_cases e:i=j
   ·subst e
    rw[hj] at hu
    injection hu with hu
    subst hu
    exact j5
   ·exact j4.pre _ (i3 i u (by omega) hu)
  ·rw[j3 i a (by omega),hf2 i (by omega),f1 i a b]
 ·rintro g' ⟨⟨L1,i1,i2,i3⟩,f1⟩ hn' hdf
  refine fin g' L1 i1 hn' hdf f1 i2 fun v hv=>?_
  obtain ⟨i,hi,e⟩:=List.mem_iff_getElem.1 hv
  exact i3 i v hi (by rw[List.getElem?_eq_getElem hi,e])
theorem AP {p:List Nat}{pa ch:AV}{Zs:Nat}{Gd:Nat×Bool->Prop}{d k q set:Nat}{L:List (Nat×Bool)}{Q:QT}{t:T}{df:List ADf}{g:G}(hd:0<d)(hv:ur p pa ch Zs Gd d k)(hk:S.aG p.length L<=k)(hs:set<256)
  (hg:∀v∈S.ah set,Gd (v,false)) (hL:∀s∈L,Gd s) (hI:VI p pa ch Zs L g.h) (hn:7<=g.nx) (ht:St t (LVs q)) (hy:tat t 68=mbC set)
  (fin:∀g' L',VI p pa ch Zs L' g'.h->g.nx+2<=g'.nx->g'.h.get g.nx=.dfr true->(∀i,7<=i->i<g.nx->g'.h.get i=g.h.get i)->Dst (RX p Zs) Gd L L'->(∀v∈S.ah set,(v,false)∈L')->Q .norm t (.mark g.nx::df) g') :
  wp C0 d none (.rng 74 (.t 68) [69] a9 bb) Q t df g:=by
 obtain ⟨h1,h2,h3,h4,h5,h6,h7,-⟩:=ht
 refine rT hd hs hy (by decide) (fun j h=>VJ p pa ch Zs Gd L false (S.ah set) g j h) ?_ ⟨⟨L,hI,Dst.refl hL,fun i v h=>absurd h (Nat.not_lt_zero i)⟩,fun _ _ _=>rfl⟩ ?_ ?_
 ·rintro j h h' hh ⟨⟨L1,i1,i2,i3⟩,f1⟩
  exact ⟨⟨L1,i1.fr fun i hi=>hh i (by omega),i2,i3⟩,fun i h1 h2=>by rw[hh i h2,f1 i h1 h2]⟩
 ·rintro j v g1 hj ⟨⟨L1,i1,i2,i3⟩,f1⟩ hn1
  simp only[sz,simprocAttr,a9]
  intro g2 hn2 hf2
  have i1':VI p pa ch Zs L1 g2.h:=i1.fr fun i hi=>hf2 i (by omega)
  simp only[sz,simprocAttr,bb,h5,i1'.v]
  refine hv L1 (v,false) g2 _ _ (Nat.le_trans (oW i2.pre) hk) (hg v (List.mem_of_getElem? hj)) i2.good (by omega) i1' fun g3 L2 j1 j2 j3 j4 j5=>?_
  simp only[sz,simprocAttr]
  refine ⟨j2,fun i a b=>j3 i (by omega) b,.inl ⟨rfl,⟨L2,j1,i2.tr j4,fun i u hi hu=>?_⟩,fun i a b=>?_⟩⟩
  ·by_cases e:i=j
   ·subst e
    rw[hj] at hu
    injection hu with hu
    subst hu
    exact j5
   ·exact j4.pre _ (i3 i u (by omega) hu)
  ·rw[j3 i a (by omega),hf2 i (by omega),f1 i a b]
 ·rintro g' ⟨⟨L1,i1,i2,i3⟩,f1⟩ hn' hdf
  refine fin g' L1 i1 hn' hdf f1 i2 fun v hv=>?_
  obtain ⟨i,hi,e⟩:=List.mem_iff_getElem.1 hv
  exact i3 i v hi (by rw[List.getElem?_eq_getElem hi,e])
theorem Bl {s v:Nat}:decide (((s / 2 ^ v &&& 1:Nat):Int)=1)=s.testBit v:=by
 rw[Nat.and_one_is_mod,Nat.testBit_eq_decide_div_mod_eq]
 rw[Bool.eq_iff_iff,decide_eq_true_iff,decide_eq_true_iff]
 omega
theorem mK {s v:Nat}:decide (((s / 2 ^ v &&& 1:Nat):Int)=0) = !s.testBit v:=by
 rw[Nat.and_one_is_mod,Nat.testBit_eq_decide_div_mod_eq]
 have:=Nat.mod_lt (s / 2 ^ v) (show 0<2 by decide)
 by_cases h:s / 2 ^ v % 2=1
 ·rw[h];decide
 ·rw[show s / 2 ^ v % 2=0 by omega];decide
theorem li {s v:Nat}(h:s<18446744073709551616):aX .and (.int .u64 ((s / 2 ^ v:Nat):Int)) (.int .u64 1)=.val (.int .u64 ((s / 2 ^ v &&& 1:Nat):Int)) :=
 bp (s / 2 ^ v) 1 (Nat.lt_of_le_of_lt (Nat.div_le_self _ _) h) (by decide)
theorem iU {n:Nat}(h:n<=8):2 ^ n<=256:=by
 have:=Nat.pow_le_pow_right (show 0<2 by decide) h
 omega
theorem Do {p c:List Nat}{pa ch:AV}{Zs:Nat}{Gd:Nat×Bool->Prop}{d k q v:Nat}{dn:Bool}{L:List (Nat×Bool)}{Q:QT}{t:T}{df:List ADf}{g:G}(hd:0<d)(hG:GrI p c pa ch Zs)(hv:ur p pa ch Zs Gd d k)(hk:S.aG p.length L<=k)(hvn:v<p.length)
  (hg:∀u,RX p Zs (v,dn) (u,false)->Gd (u,false)) (hL:∀s∈L,Gd s) (hI:VI p pa ch Zs L g.h) (ht:St t (LVs q)) (hq:g.h.get q=.cells 2 [[.int .i64 (v:Int),.bool dn]] 0 false false) (hq7:7<=q) (hqn:q<g.nx)
  (fin:∀e t' df' g' L',(e=.ret\/e=.norm)->(df'=df\/∃m,df'=.mark m::df/\g'.h.get m=.dfr true/\g.nx<=m)->VI p pa ch Zs L' g'.h->g.nx<=g'.nx->(∀i,7<=i->i<g.nx->g'.h.get i=g.h.get i)->Dst (RX p Zs) Gd L L'->(∀u,RX p Zs (v,dn) (u,false)->(u,false)∈L')->Q e t' df' g') :
  wp C0 d none a8 Q t df g:=by
 obtain ⟨h1,h2,h3,h4,h5,h6,h7,-⟩:=ht
 have h256:=iU hG.n8
 have hz:=hG.zs
 have hup:=pR hG.hp hG.zs p.length
 have lq1:aL (.cells 2 [[.int .i64 (v:Int),.bool dn]] 0 false false) 0 0 false 1 0=.val (.int .i64 (v:Int)):=rfl
 have lq2:aL (.cells 2 [[.int .i64 (v:Int),.bool dn]] 0 false false) 0 0 false 1 1=.val (.bool dn):=rfl
 have lg1:aL (.cells 2 [[pa,ch]] 0 false false) 0 0 false 1 0=.val pa:=rfl
 have hpv:p[v]?=some (Par p v):=by simp[Par,List.getElem?_eq_getElem hvn]
 have u1:v<(p.map cu).length:=by simpa using hvn
 have u2:(p.map cu)[v]?=some (cu (Par p v)):=by rw[List.getElem?_map,hpv];rfl
 have hyp:=hG.yp (by omega)
 have kM:=fun g=>ja (d:=d) (s:=Par p v) (g:=g) hd
 obtain ⟨As,hAs⟩:∃As,As=S.up p Zs p.length:=⟨_,rfl⟩
 have hA:=hI.a
 rw[<-hAs] at hA hup
 have hAn:As.testBit v=true↔An (Eg p) (Bt Zs) v:=by rw[hAs];exact CK hG.hp hG.zs v
 obtain ⟨stop,hstop,hst,hgo⟩:∃stop:Bool,(stop=if dn then !As.testBit v else Zs.testBit v)/\(stop=true->∀u,¬RX p Zs (v,dn) (u,false))/\(stop=false->∀u,Eg p u v->RX p Zs (v,dn) (u,false)):=by
  refine ⟨_,rfl,fun h u hr=>?_,fun h u hu=>?_⟩
  rotate_left
  ·refine .up (fun hd=>?_) (fun hd hz=>?_) hu
   ·rw[if_pos hd,Bool.not_eq_false'] at h
    exact hAn.1 h
   ·subst hd
    rw[if_neg (by decide)] at h
    have:Zs.testBit v=true:=hz
    rw[h] at this;cases this
  cases hr with
  | up a b e =>
   cases dn with
   | true =>
    rw[if_pos rfl,Bool.not_eq_true'] at h
    have:=hAn.2 (a rfl)
    rw[h] at this;cases this
   | false =>
    rw[if_neg (by decide)] at h
    exact b rfl h
 have rest:stop=false->∀t,St t (LVs q)->wp C0 d none (sQ [oF 61 0 4,oF 62 0 61,oL 63 62,oF 64 0 7,oL 65 64,oX 66 63 65,oL 67 66,o 68 (.call N.ae [.t 67])] (.blk 2 (.rng 74 (.t 68) [69] a9 bb))) Q t df g:=by
  intro hns t ht
  obtain ⟨h1,h2,h3,h4,h5,h6,h7,-⟩:=ht
  simp only[sz,simprocAttr,h4,h7,hq,lq1,hI.g0,lg1,hG.rp,u1,u2,cu,hyp,kM]
  refine AP (q:=q) (L:=L) (set:=Par p v) hd hv hk (hG.pb8 v) (fun u hu=>?_) hL hI (by omega) (by simp[St,LVs,sx,h1,h2,h3,h4,h5,h6,h7]) (by simp[sx]) ?_
  ·exact hg u (hgo hns u ((kg (hG.pb8 v)).1 hu))
  ·intro g' L' hI' hn' hdf hfr hD hall
   simp only[sz,simprocAttr]
   exact fin .norm _ _ g' L' (.inr rfl) (.inr ⟨g.nx,rfl,hdf,Nat.le_refl _⟩) hI' (by omega) hfr hD fun u hu=>hall u ((kg (hG.pb8 v)).2 (by cases hu with | up _ _ e=>exact e))
 simp only[a8]
 cases dn with
 | true =>
  rw[if_pos rfl] at hstop
  cases hb:As.testBit v with
  | false =>
   rw[hb] at hstop
   simp only[sz,simprocAttr,h2,h4,h6,h7,hq,lq1,lq2,hA,aJ _ _ _ (show As<18446744073709551616 by omega),li (show As<18446744073709551616 by omega),mK,hb]
   exact fin .ret _ df g L (.inl rfl) (.inl rfl) hI (Nat.le_refl _) (fun _ _ _=>rfl) (Dst.refl hL) fun u hu=>absurd hu (hst hstop u)
  | true =>
   rw[hb] at hstop
   refine vB (P:=fun t' df' g'=>df'=df/\g'=g/\St t' (LVs q)) ?_ ?_
   ·simp only[sz,simprocAttr,h2,h4,h6,h7,hq,lq1,lq2,hA,aJ _ _ _ (show As<18446744073709551616 by omega),li (show As<18446744073709551616 by omega),mK,hb]
    simp[St,LVs,sx,h1,h2,h3,h4,h5,h6,h7]
   ·rintro t df g ⟨rfl,rfl,ht⟩
    exact rest hstop t ht
 | false =>
  rw[if_neg (by decide)] at hstop
  cases hb:Zs.testBit v with
  | true =>
   rw[hb] at hstop
   simp only[sz,simprocAttr,h2,h4,h6,h7,hq,lq1,lq2,hI.z,aJ _ _ _ (show Zs<18446744073709551616 by omega),li (show Zs<18446744073709551616 by omega),Bl,hb]
   exact fin .ret _ df g L (.inl rfl) (.inl rfl) hI (Nat.le_refl _) (fun _ _ _=>rfl) (Dst.refl hL) fun u hu=>absurd hu (hst hstop u)
  | false =>
   rw[hb] at hstop
   refine vB (P:=fun t' df' g'=>df'=df/\g'=g/\St t' (LVs q)) ?_ ?_
   ·simp only[sz,simprocAttr,h2,h4,h6,h7,hq,lq1,lq2,hI.z,aJ _ _ _ (show Zs<18446744073709551616 by omega),li (show Zs<18446744073709551616 by omega),Bl,hb]
    simp[St,LVs,sx,h1,h2,h3,h4,h5,h6,h7]
   ·rintro t df g ⟨rfl,rfl,ht⟩
    exact rest hstop t ht
end
end Hx
end
