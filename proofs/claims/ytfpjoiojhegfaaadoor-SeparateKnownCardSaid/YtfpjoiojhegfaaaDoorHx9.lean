/- A part of the proof: an interpreter over abstract values, shown right against the model, and what the functions of the chapter compute on it. -/
import Derived.Test.YtfpjoiojhegfaaaDoorHx8
set_option linter.unusedVariables false
set_option linter.unusedSimpArgs false
set_option linter.unnecessarySimpa false
section
section
namespace Hx
open Go
noncomputable section
theorem aG {α:Type}{l:List α}{j:Nat}(h:j<l.length):∃x,l[j]?=some x/\l.take (j+1)=l.take j++[x]/\x∈l :=
 ⟨l[j],List.getElem?_eq_getElem h,by rw[List.take_add_one,List.getElem?_eq_getElem h];rfl,List.getElem_mem h⟩
def S.bY (l:List Int):Int:=l.foldl (fun s x=>IntKind.wrap .i64 (s*x)) 1
def S.bi (l:List Int)(n:Int)(i:Nat):Bool:=decide (0<=l[i]?.getD 0)&&decide (l[i]?.getD 0<n)&&(i == 0 || decide (l[i - 1]?.getD 0<l[i]?.getD 0))
def S.a8 (l:List Int)(n:Int):Bool:=(List.range l.length).all (S.bi l n)
def S.aK (n:Nat):Nat:=1*2 ^ n % 18446744073709551616
def S.am (l:List Int):Nat:=l.foldl (fun s x=>s ||| S.aK x.toNat) 0
theorem oZ (n:Nat):S.aK n<18446744073709551616:=Nat.mod_lt _ (by decide)
theorem nm {α:Type}(f:α->Nat)(hf:∀a,f a<18446744073709551616):∀(l:List α) (s:Nat),s<18446744073709551616->l.foldl (fun s x=>s ||| f x) s<18446744073709551616
 | [],_,h=>h
 | a::l,s,h=>nm f hf l _ (pL h (hf a))
theorem ol (l:List Int):S.am l<18446744073709551616:=nm _ (fun a=>oZ _) l 0 (by decide)
theorem yb (l:List Int)(x:Int):S.am (l++[x])=S.am l ||| S.aK x.toNat:=by simp[S.am]
theorem nK (k':IntKind)(n:Nat):cD .shl (.int .u64 1) (.int k' (n:Int))=.val (.int .u64 (S.aK n:Int)):=B5 k' 1 n
def S.bc (s v:Nat):Bool:=s / 2 ^ v &&& 1 == 1
def S.aL (p:List Nat)(s:Nat)(j:Nat):Nat:=(List.range j).foldl (fun s v=>if S.bc s v then s ||| p[v]?.getD 0 else s) s
def S.up (p:List Nat)(s:Nat)(j:Nat):Nat:=(List.range j).foldl (fun s _=>S.aL p s p.length) s
theorem gB (p:List Nat)(s j:Nat):S.aL p s (j+1)=if S.bc (S.aL p s j) j then S.aL p s j ||| p[j]?.getD 0 else S.aL p s j:=by
 unfold S.aL
 rw[List.range_succ,List.foldl_append];rfl
theorem iW (p:List Nat)(s j:Nat):S.up p s (j+1)=S.aL p (S.up p s j) p.length:=by
 unfold S.up
 rw[List.range_succ,List.foldl_append];rfl
def S.aT (p:List Nat):Bool:=(List.range p.length).all fun v=>!S.bc (S.up p (p[v]?.getD 0) p.length) v
def S.af (l:List Int):Int:=l.foldl (·*·) 1
theorem qJ (l:List Int)(x:Int):S.af (l++[x])=S.af l*x:=by simp[S.af]
theorem fe {a b:Nat}(h:a<=b):(4:Int) ^ a<=4 ^ b:=by
 obtain ⟨c,rfl⟩:∃c,b=a+c:=⟨b - a,by omega⟩
 induction c with
 | zero=>exact Int.le_refl _
 | succ c ih =>
  have:=ih (by omega)
  rw[show a+(c+1)=(a+c)+1 from rfl,Int.pow_succ]
  have h0:(0:Int)<=4 ^ (a+c):=Int.le_of_lt (Int.pow_pos (by decide))
  omega
theorem cC (a:Int)(l:List Int):S.af (a::l)=a*S.af l:=by
 have:∀(l:List Int) (s:Int),l.foldl (·*·) s=s*l.foldl (·*·) 1:=by
  intro l
  induction l with
  | nil=>intro s;simp
  | cons x l ih=>intro s;rw[List.foldl_cons,ih,List.foldl_cons,ih (1*x),Int.one_mul,Int.mul_assoc]
 unfold S.af
 rw[List.foldl_cons,this,Int.one_mul]
theorem cE:∀{l:List Int},(∀x∈l,1<=x/\x<=4)->1<=S.af l/\S.af l<=4 ^ l.length
 | [],_=>⟨by decide,by decide⟩
 | a::l,h=>by
  obtain ⟨h1,h2⟩:=cE (l:=l) fun x hx=>h x (by simp[hx])
  obtain ⟨h3,h4⟩:=h a (by simp)
  rw[cC,List.length_cons,Int.pow_succ,Int.mul_comm (4 ^ l.length)]
  constructor
  ·have:=Int.mul_le_mul h3 h1 (by decide) (by omega)
   simpa using this
  ·exact Int.mul_le_mul h4 h2 (by omega) (by decide)
theorem oD (l:List Int)(x:Int):(l++[x]).sum=l.sum+x:=by simp
def S.bT (m:Causal)(p:Int):Int:=(m.nodes[p.toNat]?.map (·.card)).getD 0
def S.bN (m:Causal)(r:Int):Int:=(m.roots[r.toNat]?.map fun r=>(r.length:Int)).getD 0
def S.bf (a b:Nat):Nat:=a ^^^ (a &&& b)
theorem C_ {n:Nat}(h:n<64):S.aK n=2 ^ n:=by
 unfold S.aK
 rw[Nat.one_mul,Nat.mod_eq_of_lt]
 exact Nat.pow_lt_pow_right (a:=2) (by decide) h
def S.bM (m:Causal)(x:Mech):List Int:=x.frm.map (S.bT m)++x.noise.map (S.bN m)
def S.bS (m:Causal):Int:=S.af (m.roots.map fun r=>(r.length:Int))
end
end Hx
end
section
namespace Hx
open Go
def Sub (a s:Nat):Prop:=∀v,a.testBit v=true->s.testBit v=true
theorem mH (s v:Nat):S.bc s v=s.testBit v:=by
 rw[Nat.testBit_eq_decide_div_mod_eq,S.bc,Nat.and_one_is_mod]
 rw[Bool.eq_iff_iff,beq_iff_eq,decide_eq_true_iff]
theorem ro {a s:Nat}:S.bf a s=0↔Sub a s:=by
 constructor
 ·intro h v hv
  have:=congrArg (·.testBit v) h
  simp[S.bf,hv] at this
  exact this
 ·intro h
  refine Nat.eq_of_testBit_eq fun v=>?_
  have:=h v
  simp only[S.bf,Nat.testBit_xor,Nat.testBit_and,Nat.zero_testBit]
  cases ha:a.testBit v
  ·rfl
  ·rw[this ha];rfl
theorem lf (a b v:Nat):(a ||| b).testBit v=(a.testBit v || b.testBit v):=Nat.testBit_or a b v
theorem sB {n:Nat}(h:n<64)(v:Nat):(S.aK n).testBit v=decide (n=v):=by rw[C_ h,Nat.testBit_two_pow]
section
variable {p:List Nat}
def Par (p:List Nat)(v:Nat):Nat:=p[v]?.getD 0
def Cl (p:List Nat)(s:Nat):Prop:=∀v,v<p.length->s.testBit v=true->Sub (Par p v) s
theorem qC {s t:Nat}(hc:Cl p t)(h:Sub s t):∀j,j<=p.length->Sub (S.aL p s j) t
 | 0,_=>h
 | j+1,hj=>by
  have ih:=qC hc h j (by omega)
  rw[gB]
  split
  ·rename_i hb
   rw[mH] at hb
   intro v hv
   rw[lf,Bool.or_eq_true] at hv
   rcases hv with hv | hv
   ·exact ih v hv
   ·exact hc j (by omega) (ih j hb) v hv
  ·exact ih
theorem uP {s t:Nat}(hc:Cl p t)(h:Sub s t):∀j,Sub (S.up p s j) t
 | 0=>h
 | j+1=>by rw[iW];exact qC hc (uP hc h j) _ (Nat.le_refl _)
def zu (p:List Nat)(s:Nat):Prop:=Cl p s/\∀v,v<p.length->s.testBit v=true->(S.up p (Par p v) p.length).testBit v=false
theorem ma:S.aT p=true↔∀v,v<p.length->(S.up p (Par p v) p.length).testBit v=false:=by
 unfold S.aT
 rw[List.all_eq_true]
 constructor
 ·intro h v hv
  have:=h v (List.mem_range.2 hv)
  rw[mH] at this
  simpa [Par] using this
 ·intro h v hv
  have:=h v (List.mem_range.1 hv)
  rw[mH]
  simpa [Par] using this
def bct (s:Nat):Nat->Nat
 | 0=>0
 | n+1=>bct s n+(if s.testBit n then 1 else 0)
theorem vE (s:Nat):∀n,bct s n<=n
 | 0=>Nat.le_refl _
 | n+1=>by have:=vE s n;unfold bct;split<;>omega
theorem sX {a s:Nat}(h:Sub a s):∀n,bct a n<=bct s n
 | 0=>Nat.le_refl _
 | n+1=>by
  have:=sX h n
  unfold bct
  split
  ·rename_i hb;rw[if_pos (h n hb)];omega
  ·split<;>omega
theorem A3 {a s:Nat}(h:Sub a s){v:Nat}(hv:s.testBit v=true)(ha:a.testBit v=false):∀n,v<n->bct a n<bct s n
 | 0,h0=>by omega
 | n+1,hn=>by
  unfold bct
  by_cases hvn:v=n
  ·subst hvn
   have:=sX h v
   rw[if_pos hv,ha];simp;omega
  ·have:=A3 h hv ha n (by omega)
   split
   ·rename_i hb;rw[if_pos (h n hb)];omega
   ·split<;>omega
theorem t6 {s:Nat}:∀n,bct s n=n->∀v,v<n->s.testBit v=true
 | 0,_,v,h=>by omega
 | n+1,h,v,hv=>by
  unfold bct at h
  have:=vE s n
  split at h
  ·rename_i hb
   by_cases e:v=n
   ·subst e;exact hb
   ·exact t6 n (by omega) v (by omega)
  ·omega
theorem me {a s:Nat}(h:Sub a s)(h':Sub s a):a=s:=Nat.eq_of_testBit_eq fun v=>by
 cases ha:a.testBit v
 ·cases hs:s.testBit v
  ·rfl
  ·rw[h' v hs] at ha;cases ha
 ·rw[h v ha]
theorem Du {a s:Nat}(h:Sub a s):a<=s:=by
 have:a ||| s=s:=Nat.eq_of_testBit_eq fun v=>by
  rw[lf]
  cases ha:a.testBit v
  ·simp
  ·rw[h v ha];rfl
 rw[<-this];exact Nat.left_le_or
theorem jh (s:Nat):∀j,Sub s (S.aL p s j)
 | 0=>fun _ h=>h
 | j+1=>by
  have ih:=jh s j
  rw[gB]
  split
  ·intro v hv;rw[lf,ih v hv];rfl
  ·exact ih
theorem vI {s:Nat}{j k:Nat}(h:j<=k):Sub (S.aL p s j) (S.aL p s k):=by
 induction h with
 | refl=>exact fun _ h=>h
 | step _ ih =>
  rw[gB]
  split
  ·intro v hv;rw[lf,ih v hv];rfl
  ·exact ih
theorem yR {s:Nat}(h:S.aL p s p.length=s):Cl p s:=by
 intro v hv hb u hu
 have h1:(S.aL p s v).testBit v=true:=jh s v v hb
 have h2:(S.aL p s (v+1)).testBit u=true:=by
  rw[gB,mH,h1,if_pos rfl,lf]
  have:(p[v]?.getD 0).testBit u=true:=hu
  rw[this];simp
 have:=vI (p:=p) (s:=s) (show v+1<=p.length by omega) u h2
 rwa [h] at this
theorem zA {s n v:Nat}(h:s<2 ^ n)(hv:s.testBit v=true):v<n:=by
 rcases Nat.lt_or_ge v n with h1 | h1
 ·exact h1
 ·rw[Nat.testBit_lt_two_pow (Nat.lt_of_lt_of_le h (Nat.pow_le_pow_right (by decide) h1))] at hv;cases hv
theorem D3 {f:Nat->Nat}{n:Nat}(hm:∀j,Sub (f j) (f (j+1)))(hb:∀j,f j<2 ^ n)(hs:∀j,f (j+1)=f j->f (j+2)=f (j+1)):f (n+1)=f n:=by
 have key:∀j,j<=bct (f j) n\/f (j+1)=f j:=by
  intro j
  induction j with
  | zero=>exact .inl (Nat.zero_le _)
  | succ j ih =>
   rcases ih with ih | ih
   ·by_cases e:f (j+1)=f j
    ·exact .inr (hs j e)
    ·left
     have:∃v,(f (j+1)).testBit v=true/\(f j).testBit v=false:=by
      apply Classical.byContradiction
      intro hno
      apply e
      refine me (fun v hv=>?_) (hm j)
      cases hc:(f j).testBit v
      ·exact absurd ⟨v,hv,hc⟩ hno
      ·rfl
     obtain ⟨v,h1,h2⟩:=this
     have:=A3 (hm j) h1 h2 n (zA (hb _) h1)
     omega
   ·exact .inr (hs j ih)
 rcases key n with h | h
 ·have hc:bct (f n) n=n:=by have:=vE (f n) n;omega
  refine me (fun v hv=>?_) (hm n)
  exact t6 n hc v (zA (hb _) hv)
 ·exact h
theorem DC {a b n:Nat}(h:a<2 ^ n)(h':b<2 ^ n):a ||| b<2 ^ n:=Nat.or_lt_two_pow h h'
theorem vC {v:Nat}(hp:∀x∈p,x<2 ^ p.length):Par p v<2 ^ p.length:=by
 unfold Par
 cases h:p[v]? with
 | none=>exact Nat.pow_pos (by decide)
 | some x=>exact hp x (List.mem_of_getElem? h)
theorem qZ (hp:∀x∈p,x<2 ^ p.length){s:Nat}(hs:s<2 ^ p.length):∀j,S.aL p s j<2 ^ p.length
 | 0=>hs
 | j+1=>by
  have ih:=qZ hp hs j
  rw[gB]
  split
  ·exact DC ih (vC hp)
  ·exact ih
theorem A7 (hp:∀x∈p,x<2 ^ p.length){s:Nat}(hs:s<2 ^ p.length):∀j,S.up p s j<2 ^ p.length
 | 0=>hs
 | j+1=>by rw[iW];exact qZ hp (A7 hp hs j) _
theorem yT (hp:∀x∈p,x<2 ^ p.length){s:Nat}(hs:s<2 ^ p.length):Cl p (S.up p s p.length):=by
 apply yR
 rw[<-iW]
 exact D3 (f:=fun j=>S.up p s j) (fun j=>by rw[iW];exact jh _ _) (fun j=>A7 hp hs j) (fun j e=>by
  have e:S.up p s (j+1)=S.up p s j:=e
  show S.up p s (j+1+1)=S.up p s (j+1)
  rw[iW,e,<-iW,e])
theorem nY {s:Nat}:∀j,Sub s (S.up p s j)
 | 0=>fun _ h=>h
 | j+1=>fun v hv=>by rw[iW];exact jh _ _ v (nY j v hv)
end
end Hx
end
section
namespace Hx
open Go
noncomputable section
theorem i6 {a b:List Nat}(h:∀i∈a,∀j∈b,i≠j):meets a b=false:=by
 simp only[meets,List.any_eq_false]
 intro i hi hc
 exact h i hi i (List.contains_iff_mem.1 hc) rfl
theorem mO {x y:Foot}(hb:x.lk.big=false)(hb2:y.lk.big=false)(hs:x.lk.sr=[])(hs2:y.lk.sr=[])(h1:∀i∈x.wr,∀j∈y.wr,i≠j)(h2:∀i∈x.wr,∀j∈y.lk.rd,i≠j)(h3:∀i∈y.wr,∀j∈x.lk.rd,i≠j) :
  bA x y=true:=by
 have m1:=i6 h1
 have m2:=i6 h2
 have m3:=i6 h3
 have m4:meets y.wr x.wr=false:=i6 fun i hi j hj e=>h1 j hj i hi e.symm
 have m5:∀l:List Nat,meets l []=false:=fun l=>by simp[meets]
 simp only[bA,fI,d5,hb,hb2,hs,hs2,m1,m2,m3,m4,m5,fst1,List.map_nil,Bool.not_false,Bool.and_self,Bool.true_or]
 split<;>split<;>rfl
theorem md {g:G}{b sz bytes:Nat}{zero:List AV}{k1 k2:IntKind}{n:Nat}{K:AV->G->Prop}{D:ADf->Prop}(hn:n<=bF)(hb:n*bytes<=bF)(hg:b<=g.nx)
  (k:∀v' g',Own g' b v' sz (List.replicate n zero)->g'.nx=g.nx+1->(∀i,i<g.nx->g'.h.get i=g.h.get i)->vid v'=some g.nx->g'.lg=g.nx::g.lg->K v' g') :
  (yD sz bytes zero (.int k1 (n:Int)) (.int k2 (n:Int)) g).sat K g D:=by
 show (match cN bF (.int k2 (.ofNat n)) with
  | some cn=>match cN cn (.int k1 (.ofNat n)) with
   | some ln=>af (Nat.ble (cn*bytes) bF) (OR.upd (.hsl g.nx 0 0 ln none) (g.new (.cells sz (d8 cn zero) 0 false false))) .fail
   | none=>.fail
  | none=>.fail).sat K g D
 simp only[cN,aa,Nat.ble_eq,if_pos hn,Nat.le_refl,if_pos hb,if_true]
 refine k _ _ (.inr ⟨g.nx,0,false,hg,by simp,by simp,by simp[bh,d8]⟩) (by simp) (fun i hi=>?_) rfl (by simp)
 rw[G.new_h,bw _ _ _ (by omega)]
theorem xz (n sz id ep i off:Nat)(k:IntKind){j:Nat}(h:j<n):pz n sz (.hptr id ep i off) (.int k (j:Int))=.val (.hptr id ep i (off+j*sz)):=by
 show af (Nat.blt j n) (OR.val (.hptr id ep i (off+j*sz))) .fail=_
 rw[aa,if_pos (by simpa using h)]
def u8v (x:UInt8):AV:=.int .u8 (x.toNat:Int)
def S.bJ (cards:List Int):List Int->Nat->List Int×Bool
 | vals,0=>(vals,false)
 | vals,k+1=>if (vals[k]?.getD 0)+1<(cards[k]?.getD 0) then (vals.set k ((vals[k]?.getD 0)+1),true) else S.bJ cards (vals.set k 0) k
def S.bH (cards vals:List Int):List Int×Bool:=S.bJ cards vals vals.length
def S.bI (cards:List Int):Nat->List Int->List (List Int)
 | 0,_=>[]
 | f+1,v=>v::(if (S.bH cards v).2 then S.bI cards f (S.bH cards v).1 else [])
def S.b_ (cards:List Int):List (List Int):=S.bI cards (S.af cards).toNat (List.replicate cards.length 0)
def S.bk (l:List Int)(h:Int):Int:=l.foldr (fun c q=>q / c) h
def S.bz (l:List Int)(h:Int)(i:Nat):Int:=S.bk (l.drop (i+1)) h % l[i]?.getD 1
def S.an (l:List Int)(h:Int):List Int:=(List.range l.length).map (S.bz l h)
def S.ah:List Int->List Int->Int
 | _::cs,v::vs=>v*S.af cs+S.ah cs vs
 | _,_=>0
def InC (cards vals:List Int):Prop:=All2 (fun c v=>(0:Int)<=v/\v<c) cards vals
theorem dw:∀{cards vals:List Int},(∀c∈cards,1<=c/\c<=4)->InC cards vals->0<=S.ah cards vals/\S.ah cards vals<S.af cards
 | [],[],_,_=>⟨Int.le_refl _,by decide⟩
 | c::cs,v::vs,hc,h=>by
  obtain ⟨a,b⟩:=dw (cards:=cs) (vals:=vs) (fun x hx=>hc x (by simp[hx])) h.2
  obtain ⟨p1,-⟩:=cE (l:=cs) fun x hx=>hc x (by simp[hx])
  have hv:=h.1
  rw[cC]
  show 0<=v*S.af cs+S.ah cs vs/\v*S.af cs+S.ah cs vs<c*S.af cs
  have h1:0<=v*S.af cs:=Int.mul_nonneg hv.1 (by omega)
  have h2:(v+1)*S.af cs<=c*S.af cs:=Int.mul_le_mul_of_nonneg_right (by omega) (by omega)
  rw[Int.add_mul,Int.one_mul] at h2
  omega
 | [],_::_,_,h=>h.elim
 | _::_,[],_,h=>h.elim
theorem InC.drop:∀{cards vals:List Int} (j:Nat),InC cards vals->InC (cards.drop j) (vals.drop j)
 | _,_,0,h=>h
 | [],[],j+1,_=>trivial
 | _::_,_::_,j+1,h=>InC.drop j h.2
 | [],_::_,_,h=>h.elim
 | _::_,[],_,h=>h.elim
theorem InC.len {cards vals:List Int}(h:InC cards vals):vals.length=cards.length:=(All2.len h).symm
end
end Hx
end
section
namespace Hx
open Go
def S.bP (x:Mech)(roots:List Int)(V:Nat->Int):List Int:=(x.frm.map fun q=>V q.toNat)++(x.noise.map fun r=>roots[r.toNat]?.getD 0)
def S.bO (m:Causal)(roots act:List Int)(V:Nat->Int)(i:Nat)(x:Mech):Int:=if 0<=act[i]?.getD 0 then act[i]?.getD 0 else x.out[(S.ah (S.bM m x) (S.bP x roots V)).toNat]?.getD 0
def Sol (m:Causal)(roots act:List Int)(V:Nat->Int):Prop:=∀(i:Nat) (x:Mech),m.nodes[i]?=some x->V i=S.bO m roots act V i x
noncomputable def S.V (m:Causal)(roots act:List Int):Nat->Int:=Classical.epsilon (Sol m roots act)
noncomputable def S.bZ (m:Causal)(roots act:List Int):List Int:=(List.range m.nodes.length).map (S.V m roots act)
theorem rx {cards vals:List Int}(hl:cards.length=vals.length)(h:∀(i:Nat) c v,cards[i]?=some c->vals[i]?=some v->0<=v/\v<c):InC cards vals:=by
 induction cards generalizing vals with
 | nil=>cases vals with
  | nil=>trivial
  | cons v vals=>simp at hl
 | cons c cards ih=>cases vals with
  | nil=>simp at hl
  | cons v vals=>exact ⟨h 0 c v rfl rfl,ih (by simpa using hl) fun i c' v' h1 h2=>h (i+1) c' v' (by simpa using h1) (by simpa using h2)⟩
theorem InC.get {cards vals:List Int}(h:InC cards vals){i:Nat}{c:Int}(hc:cards[i]?=some c):∃v,vals[i]?=some v/\0<=v/\v<c:=All2.get h hc
end Hx
end
section
namespace Hx
open Go
noncomputable section
def hz (cs vs:List Int)(j:Nat):Int:=((cs.zip vs).take j).foldl (fun a p=>a*p.1+p.2) 0
section
variable {d k:Nat}{m:Causal}{roots act:List Int}{V:Nat->Int}{a b w u:AV}{p1 p2 p3 p4 iu:Nat}{hid:Int}{r:Nat->Nat}
end
end
end Hx
end
section
namespace Hx
open Go
noncomputable section
theorem gx (ag:Bool)(n l sz off:Nat)(row:List AV)(g:G):jq ag n (.tptr l sz [row] 0 off) g=orV (be ag n row off):=rfl
section
variable {d:Nat}{m:Causal}{a b:AV}
end
end
end Hx
end
section
namespace Hx
open Go
noncomputable section
theorem mZ {C:Cfg}{d:Nat}{r:List SR}{t:T}{g:G}{K:AV->G->Prop}{id:Nat}(hg:g.h.get id=.dfr true)(h:m8 r t (g.put id (.dfr false)) fun vs=>K (eu vs) (g.put id (.dfr false))):pX C d r t [.mark id] g K:=by
 unfold pX
 have:cO (I C) d [.mark id] g=some (g.put id (.dfr false)):=by
  simp only[cO,G.get_eq,hg]
 rw[this];exact h
def Fam (g:G)(b K:Nat)(V:Nat->AV)(W:Nat->List (List AV)):Prop :=
 (∀k,k<K->Own g b (V k) 1 (W k))/\∀k l,k<K->l<K->k≠l->∀id,vid (V k)=some id->vid (V l)≠some id
def Em (c:Nat->Int)(V:Nat->AV)(i:Nat):List AV:=[.int .i64 (c i),V (3*i+1),V (3*i+2),V (3*i+3)]
def zk (n:Nat)(c:Nat->Int)(V:Nat->AV):List (List AV):=(List.range n).map (Em c V)
structure ME where
 (n p4 q i5 p7 i9 b:Nat)
 (nv w5 w9 e7:AV)
 (gr:Int)
 (row0:List AV)
 (prow:List (List AV))
 (us:List UInt8)
structure ME.Ok (e:ME):Prop where
 ord:1<e.q/\e.q<e.p4/\e.p4<e.i5/\e.i5<e.p7/\e.p7<e.i9/\e.i9<e.b
 n1:1<=e.n/\e.n<=4
 g1:2<=e.gr/\e.gr<=12
 vn:vid e.nv=some e.q
 v5:vid e.w5=some e.i5
 v9:vid e.w9=some e.i9
 l7:SlR NoP 0 .nil e.us e.e7
structure MI (e:ME) (g:G) (V:Nat->AV) (W:Nat->List (List AV)) (c:Nat->Int) (ow:List Bool) (cap:Nat):Prop where
 h0:g.h.get 0=.cells 5 [e.row0] 0 false false
 h1:g.h.get 1=.cells 3 [[.int .i64 0,.nils,.nils]] 0 false false
 hN:Own g 0 e.nv 4 (zk e.n c V)
 h4:g.h.get e.p4=.cells 3 [[.int .i64 e.gr,V 0,e.nv]] 0 false false
 h5:Own g 0 e.w5 4 e.prow
 h7:∃cc:Int,0<=cc/\cc<=(cap:Int)/\g.h.get e.p7=.cells 2 [[e.e7,.int .i64 cc]] 0 false false
 h9:Own g 0 e.w9 1 (ow.map fun x=>[.bool x])
 fam:Fam g e.b (3*e.n+1) V W
 nx:e.b<=g.nx
section
variable {e:ME}{g g':G}{V:Nat->AV}{W:Nat->List (List AV)}{c:Nat->Int}{ow:List Bool}{cap:Nat}
theorem eE {v:AV}{i j:Nat}(h:vid v=some i)(h':vid v=some j):i=j:=by rw[h] at h';injection h'
structure MP (e:ME) (g:G) (V V':Nat->AV) (W:Nat->List (List AV)) (c:Nat->Int) (ow:List Bool) (cap:Nat):Prop where
 h0:g.h.get 0=.cells 5 [e.row0] 0 false false
 h1:g.h.get 1=.cells 3 [[.int .i64 0,.nils,.nils]] 0 false false
 hN:Own g 0 e.nv 4 (zk e.n c V)
 h4:g.h.get e.p4=.cells 3 [[.int .i64 e.gr,V 0,e.nv]] 0 false false
 h5:Own g 0 e.w5 4 e.prow
 h7:∃cc:Int,0<=cc/\cc<=(cap:Int)/\g.h.get e.p7=.cells 2 [[e.e7,.int .i64 cc]] 0 false false
 h9:Own g 0 e.w9 1 (ow.map fun x=>[.bool x])
 fam:Fam g e.b (3*e.n+1) V' W
 nx:e.b<=g.nx
end
end
end Hx
end
section
namespace Hx
open Go
noncomputable section
structure MD (e:ME) (W:Nat->List (List AV)) (R:List (List Int)) (F N O:Nat->List Int):Prop where
 r:All2 (Rp.rp NoP 0 .nil) R (W 0)
 f:∀i,i<e.n->W (3*i+1)=(F i).map ci
 n:∀i,i<e.n->W (3*i+2)=(N i).map ci
 o:∀i,i<e.n->W (3*i+3)=(O i).map ci
theorem SlR.wide {α:Type} [Rp α]{P:Nat->Prop}{k k':Nat}{h h':H}{l:List α}{v:AV}(r:SlR NoP k h l v)(hk:k<=k'):SlR P k' h' l v:=by
 obtain ⟨w,hw,q⟩:=Rp.tree (P:=P) (k':=k') (h':=h') (show Rp.rp NoP k h l [v] from ⟨v,rfl,r⟩) hk
 injection hw with hw;subst hw;exact q
structure M0 (n p4 q i5 p7:Nat) (nv w5 cl:AV) (row0:List AV) (prow:List (List AV)) (gr:Int) (g:G) (cf:Nat->Int):Prop where
 h0:g.h.get 0=.cells 5 [row0] 0 false false
 h1:g.h.get 1=.cells 3 [[.int .i64 0,.nils,.nils]] 0 false false
 hN:Own g 2 nv 4 (zk n cf fun _=>.nils)
 h4:g.h.get p4=.cells 3 [[.int .i64 gr,.nils,nv]] 0 false false
 h5:Own g 2 w5 4 prow
 h7:g.h.get p7=.cells 2 [[cl,.int .i64 0]] 0 false false
 nx:p7<g.nx
section
variable {n p4 q i5 p7:Nat}{nv w5 cl:AV}{row0:List AV}{prow:List (List AV)}{gr:Int}{g g':G}{cf cf':Nat->Int}
end
end
end Hx
end
section
namespace Hx
open Go
noncomputable section
def eid:AV->Option Nat
 | .hsl id _ _ _ _=>some id
 | .hptr id _ _ _=>some id
 | _=>none
def Bx (g:G)(b:Nat)(v:AV)(row:List AV):Prop:=∃id,b<=id/\id<g.nx/\v=.hptr id 0 0 0/\g.h.get id=.cells row.length [row] 0 false false
inductive En where
 | sl (sz:Nat) (rows:List (List AV))
 | bx (row:List AV)
def En.ok (g:G)(b:Nat)(v:AV):En->Prop
 | .sl sz rows=>Own g b v sz rows
 | .bx row=>Bx g b v row
theorem wJ {g:G}{b:Nat}{v:AV}{sz:Nat}{rows:List (List AV)}(h:Own g b v sz rows):eid v=vid v:=by
 rcases h with ⟨rfl,-⟩ | ⟨id,ep,lo,h1,h2,rfl,h3⟩<;>rfl
section
variable {κ:Type}
structure Hp (g:G) (b:Nat) (L:κ->Prop) (V:κ->AV) (E:κ->En):Prop where
 ok:∀k,L k->(E k).ok g b (V k)
 sep:∀k l,L k->L l->k≠l->∀id,eid (V k)=some id->eid (V l)≠some id
 nx:b<=g.nx
variable {g g':G}{b:Nat}{L L':κ->Prop}{V:κ->AV}{E:κ->En}{k:κ}
end
section
variable {κ:Type} [DecidableEq κ]
variable {g g':G}{b:Nat}{L L':κ->Prop}{V:κ->AV}{E:κ->En}{k:κ}
end
end
end Hx
end
section
namespace Hx
open Go
noncomputable section
theorem bV {C:Cfg}{d:Nat}{rd:Option Nat}{l:List SI}{b:SC}{Q:QT}{t:T}{df:List ADf}{g:G}{P:PT}(h1:wpO C d rd l P t df g)(h2:∀t df g,P t df g->wp C d rd b Q t df g):wp C d rd (.seq (.ops l) b) Q t df g:=by
 rw[cM]
 have:wp C d rd (.ops l) (fun e t df g=>e=.norm/\P t df g) t df g:=by rw[uZ];simpa using h1
 refine f_ _ this ?_
 rintro e t df g ⟨rfl,h⟩
 exact h2 t df g h
structure Bnd (K:Nat) (m:Causal):Prop where
 r:m.roots.length<=K
 rr:∀x∈m.roots,x.length<=K
 n:m.nodes.length<=K
 f:∀x∈m.nodes,x.frm.length<=K/\x.noise.length<=K/\x.out.length<=K
abbrev Ky:Type:=Nat×Nat
structure BD (K R n:Nat) (V:Ky->AV) (E:Ky->En) (Rt:Nat->List Int) (c:Nat->Int) (F:Nat->Nat->List Int):Prop where
 r:∀i,i<R->E (0,i)=.sl 1 ((Rt i).map ci)/\(Rt i).length<=K
 f:∀q i,1<=q->q<=3->i<n->E (q,i)=.sl 1 ((F q i).map ci)/\(F q i).length<=K
 rs:E (4,0)=.sl 1 ((List.range R).map fun i=>[V (0,i)])
 ns:E (4,1)=.sl 4 ((List.range n).map fun i=>[.int .i64 (c i),V (1,i),V (2,i),V (3,i)])
structure TI (g:G) (q:Nat) (m:Causal) (k1 k2 act u1 u2 u3:AV) (A B W:List Int):Prop where
 a1:g.h.get 1=.cells 1 [[act]] 0 false false
 a2:g.h.get 2=.cells 3 [[.nils,.nils,.nils]] 0 false false
 a4:g.h.get 4=.cells 4 [[.int .i64 m.grain,k1,k2,.int .i64 (S.bS m)]] 0 false false
 bq:g.h.get q=.cells 3 [[u1,u2,u3]] 0 false false
 o1:Own g 5 u1 1 (A.map ci)
 o2:Own g 5 u2 1 (B.map ci)
 o3:Own g 5 u3 1 (W.map ci)
 q5:5<=q/\q<g.nx
 n1:∀i,vid u1=some i->i≠q/\vid u2≠some i/\vid u3≠some i
 n2:∀i,vid u2=some i->i≠q/\vid u3≠some i
 n3:∀i,vid u3=some i->i≠q
section
variable {g g':G}{q:Nat}{m:Causal}{k1 k2 act u1 u2 u3:AV}{A B W:List Int}
end
end
end Hx
end
section
namespace Hx
open Go
noncomputable section
theorem kV {C:Cfg}{d:Nat}{rd:Option Nat}{a b:SC}{Q:QT}{t:T}{df:List ADf}{g:G}{P:PT}(h1:wp C d rd a (fun e t df g=>e=.norm/\P t df g) t df g)(h2:∀t df g,P t df g->wp C d rd b Q t df g):wp C d rd (.seq a b) Q t df g:=by
 rw[cM]
 refine f_ _ h1 ?_
 rintro e t df g ⟨rfl,h⟩
 exact h2 t df g h
theorem AA {d f:Nat}{xs:List AV}{g:G}{K K':AV->G->Prop}{D D2:ADf->Prop}(h0:xs.flatMap (ap g.h ak)=[])(hs:(orF ((I zV).call d f xs ⟨.nil,g.nx,[]⟩)).sat K' ⟨.nil,g.nx,[]⟩ D2)
  (hk:∀v g'' g',K' v g''->Fr g g'->g'.nx=g''.nx->(∀k,g''.h.get k≠.none->g'.h.get k=g''.h.get k)->(∀k∈g'.lg,k∈g.lg\/g.nx<=k)->K v g'):(qf zV f d xs g).sat K g D:=by
 refine B2 Dj (K':=K') (D2:=D2) (by rw[h0];simp) (by rw[h0];exact hs) fun v g'' hv hn hl ho=>?_
 rw[h0] at hl ho
 have hl2:∀k∈g''.lg,g.nx<=k:=fun k hk=>by
  have:=(hl k hk).2
  simp at this
  omega
 refine hk v g'' _ hv ⟨hn,fun i hi=>?_⟩ rfl (fun k hk=>?_) fun k hk=>?_
 ·show (fO _ _ _).get i=_
  rw[fc,if_neg]
  intro h
  have:=hl2 i h
  omega
 ·show (fO _ _ _).get k=_
  rw[fc,if_pos]
  by_cases h:k∈g''.lg
  ·exact h
  ·exact absurd (by rw[ho k h];exact wz k) hk
 ·rcases List.mem_append.1 hk with h | h
  ·exact .inr (hl2 k h)
  ·exact .inl h
def S.bX (vals e:List Int)(i:Nat):Bool:=decide (e[i]?.getD 0<0) || decide (e[i]?.getD 0=vals[i]?.getD 0)
def S.bL (vals e:List Int):Bool:=(List.range e.length).all (S.bX vals e)
def S.cd (s a:List Int):List Int:=(List.range s.length).map fun i=>if a[i]?.getD 0<0 then -1 else s[i]?.getD 0
theorem ko {α:Type}{C:α->Prop}{S:α->VS}{j:Nat}(h:∀a,Snb (S a) j):Snb (fun P k h v=>∃a,C a/\S a P k h v) j :=
 ⟨fun {P k hh v n} d r hn=>by
  obtain ⟨a,c,r⟩:=r
  obtain ⟨v',e,r'⟩:=(h a).snap d r hn
  exact ⟨v',e,a,c,r'⟩,fun {k hh v n} r hn=>by
  obtain ⟨a,c,r⟩:=r
  exact (h a).tag r hn⟩
theorem kA:∀{A L:List Nat},A.Nodup->(∀v∈A,v∈L)->A.length<=L.length
 | [],_,_,_=>Nat.zero_le _
 | a::A,L,hA,h=>by
  rw[List.nodup_cons] at hA
  have ha:=h a (by simp)
  have:=kA (A:=A) (L:=L.erase a) hA.2 fun v hv=>(List.mem_erase_of_ne (fun e=>hA.1 (by rw[<-e];exact hv))).2 (h v (by simp[hv]))
  rw[List.length_erase_of_mem ha] at this
  have:=List.length_pos_of_mem ha
  simp only[List.length_cons]
  omega
def Ord (p:List Nat)(L:List Nat):Prop:=(∀v,v<p.length->v∈L)/\∀(i v:Nat),L[i]?=some v->v<p.length/\∀q,(Par p v).testBit q=true->q∈L.take i
def x9 (p:List Nat)(L:List Nat):Prop:=L.Nodup/\∀(i v:Nat),L[i]?=some v->v<p.length/\∀q,(Par p v).testBit q=true->q∈L.take i
theorem Ad {p L:List Nat}(h:x9 p L):L.length<=p.length:=by
 have:=kA (L:=List.range p.length) h.1 fun v hv=>by
  obtain ⟨i,hi,rfl⟩:=List.mem_iff_getElem.1 hv
  exact List.mem_range.2 (h.2 i _ (List.getElem?_eq_getElem hi)).1
 simpa using this
theorem yK {p L:List Nat}(h:x9 p L){v:Nat}(hv:v ∉ L)(hl:v<p.length)(hp:∀q,(Par p v).testBit q=true->q∈L):x9 p (L++[v]):=by
 refine ⟨?_,fun i u hu=>?_⟩
 ·rw[List.nodup_append]
  exact ⟨h.1,by simp,fun a ha b hb=>by simp at hb;subst hb;exact fun e=>hv (e ▸ ha)⟩
 ·rcases Nat.lt_or_ge i L.length with hi | hi
  ·rw[List.getElem?_append_left hi] at hu
   obtain ⟨h1,h2⟩:=h.2 i u hu
   exact ⟨h1,fun q hq=>by rw[List.take_append_of_le_length (by omega)];exact h2 q hq⟩
  ·rw[List.getElem?_append_right hi] at hu
   have:i=L.length:=by
    have:=(List.getElem?_eq_some_iff.1 hu).1;simp at this;omega
   subst this
   simp at hu;subst hu
   exact ⟨hl,fun q hq=>by rw[List.take_left];exact hp q hq⟩
theorem xS {p L:List Nat}(h:x9 p L)(hl:p.length<=L.length):Ord p L:=by
 refine ⟨fun v hv=>?_,h.2⟩
 by_cases hm:v∈L
 ·exact hm
 ·have:=kA (A:=v::L) (L:=List.range p.length) (List.nodup_cons.2 ⟨hm,h.1⟩) fun u hu=>by
   rcases List.mem_cons.1 hu with rfl | hu
   ·exact List.mem_range.2 hv
   ·obtain ⟨i,hi,rfl⟩:=List.mem_iff_getElem.1 hu
    exact List.mem_range.2 (h.2 i _ (List.getElem?_eq_getElem hi)).1
  simp at this
  omega
theorem Ch {p L:List Nat}(h:x9 p L)(hl:L.length<p.length):∃v,v<p.length/\v ∉ L:=by
 by_cases hh:∃v,v<p.length/\v ∉ L
 ·exact hh
 ·exfalso
  have:=kA (A:=List.range p.length) (L:=L) List.nodup_range fun v hv=>by
   by_cases h':v∈L
   ·exact h'
   ·exact absurd ⟨v,List.mem_range.1 hv,h'⟩ hh
  simp at this
  omega
def DV (D:Nat)(L:List Nat):Prop:=D<18446744073709551616/\∀v,D.testBit v=true↔v∈L
theorem yj {D:Nat}{L:List Nat}(h:DV D L){v:Nat}(hv:v<64):DV (D ||| S.aK v) (L++[v]):=by
 refine ⟨pL h.1 (oZ v),fun u=>?_⟩
 rw[lf,sB hv,Bool.or_eq_true,h.2,decide_eq_true_eq,List.mem_append,List.mem_singleton]
 constructor
 ·rintro (h | h)
  ·exact .inl h
  ·exact .inr h.symm
 ·rintro (h | h)
  ·exact .inl h
  ·exact .inr h.symm
theorem CT {g g':G}(hn:g.nx<=g'.nx)(h:∀i,i<g.nx->g'.h.get i=g.h.get i):Fr g g':=⟨hn,h⟩
theorem nL {C:Cfg}{d:Nat}{rd:Option Nat}{body:SC}{c ti k B b:Nat}{Q:QT}{m:Nat}{lim:Int}(hlim:lim=(m:Int))(hm:m<9223372036854775808)(J:Nat->PT){t:T}{df:List ADf}{g:G}
  (h0:J 0 t df g) (hi:tat t ti=.int .i64 0) (hc:c≠ti/\b≠B)
  (hJ:∀j t df g v s,s=c\/s=ti\/s=k->J j t df g->J j (fL t s v) df g)
  (step:∀j t df g,j<m->J j t df g->tat t ti=.int .i64 (j:Int)->wp C d rd body (kR (fun t df g=>J (j+1) t df g/\tat t ti=.int .i64 (j:Int)) b Q) t df g)
  (fin:∀t df g,J m t df g->Q (.exit B) t df g) :
  wpL (wp C d rd (.seq (.ops [o c (.bin .lss (.t ti) (.k (.int .i64 lim)))]) (.seq (.cond (.t c) .skip (.exit B)) (.seq (.blk b body) (.ops [o k (.bin .add (.t ti) (.k (.int .i64 1))),o ti (.mv (.t k))]))))) Q t df g:=by
 subst hlim
 obtain ⟨c1,c5⟩:=hc
 refine lE (fun n t df g=>∃j:Nat,n=m - j/\j<=m/\J j t df g/\tat t ti=.int .i64 (j:Int)) m ⟨0,by omega,by omega,h0,hi⟩ ?_
 rintro n t df g ⟨j,rfl,hj,hjj,h1⟩
 simp only[sz,simprocAttr,h1]
 refine ⟨fun hq=>?_,fun hq=>?_⟩
 ·have hlt:j<m:=by simpa using hq
  simp only[sx]
  refine f_ _ (step j _ df g hlt (hJ _ _ _ _ _ _ (.inl rfl) hjj) (by simp only[iN];rw[if_neg (Ne.symm c1),h1])) fun e t df g h=>?_
  have key:J (j+1) t df g/\tat t ti=.int .i64 (j:Int)->wp C d rd (.ops [o k (.bin .add (.t ti) (.k (.int .i64 1))),o ti (.mv (.t k))])
    (kL (fun n t df g=>∃j:Nat,n=m - j/\j<=m/\J j t df g/\tat t ti=.int .i64 (j:Int)) (m - j) Q) t df g:=by
   rintro ⟨a1,a2⟩
   simp only[sz,simprocAttr,a2]
   refine ⟨_,?_,j+1,rfl,by omega,hJ _ _ _ _ _ _ (.inr (.inl rfl)) (hJ _ _ _ _ _ _ (.inr (.inr rfl)) a1),?_⟩
   ·omega
   ·rw[bc (by omega) (by omega)];rfl
  cases e with
  | norm=>exact key h
  | ret=>exact h
  | exit x =>
   rw[mz] at h
   rw[g9]
   split at h
   ·rename_i e;rw[if_pos e];exact key h
   ·rename_i e;rw[if_neg e];exact h
 ·have:j=m:=by simp at hq;omega
  subst this
  simp only[sx]
  exact fin _ _ _ (hJ _ _ _ _ _ _ (.inl rfl) hjj)
section
variable {m:Causal}{c1 c2 l w c9 v35 ls v48:AV}{al:List Int}{hid kk:Int}{p:Nat}
end
end
end Hx
end
section
namespace Hx
open Go
noncomputable section
theorem uQ (l:List Int)(j:Nat)(x:Int):(l.map ci).set j (ci x)=(l.set j x).map ci:=by rw[List.map_set]
theorem Cu {x y:Nat}(hy:0<y):cD .rem (.int .i64 (x:Int)) (.int .i64 (y:Int))=.val (.int .i64 ((x % y:Nat):Int)):=by
 rw[Cr .i64 (Int.natCast_nonneg x) (by omega),<-Int.natCast_emod]
theorem Ca {x y:Nat}(hx:x<9223372036854775808)(hy:0<y):cD .quo (.int .i64 (x:Int)) (.int .i64 (y:Int))=.val (.int .i64 ((x / y:Nat):Int)):=by
 have hle:x / y<=x:=Nat.div_le_self _ _
 rw[Ce .i64 (Int.natCast_nonneg x) (by omega),<-Int.natCast_ediv]
 generalize x / y=z at hle
 rw[bc (by omega) (by omega)]
def S.a9:List Int->Int
 | []=>0
 | x::l=>x+10000*S.a9 l
structure S.tI (bl:List Int) (n i:Nat) (V ai:Int) (k:Nat) (c:Int) (L:List Int):Prop where
 len:L.length=n
 rng:∀x∈L,0<=x/\x<10000
 zer:∀j,i+bl.length<=j->i+k<=j->L[j]?.getD 0=0
 kle:k<=bl.length+1
 c0:0<=c
 c1:c<10000
 ce:k=bl.length+1->c=0
 cs:k=0->c=0
 eq:S.a9 L+c*10000 ^ (i+k)=V+ai*10000 ^ i*S.a9 (bl.take k)
structure S.tO (al bl:List Int) (i:Nat) (L:List Int):Prop where
 len:L.length=al.length+bl.length
 rng:∀x∈L,0<=x/\x<10000
 zer:∀j,i+bl.length<=j->L[j]?.getD 0=0
 eq:S.a9 L=S.a9 (al.take i)*S.a9 bl
structure S.mI (al bl:List Int) (i:Nat) (r:Int) (L:List Int):Prop where
 len:L.length=i
 rng:∀x∈L,0<=x/\x<10000
 r01:r=0\/r=1
 eq:S.a9 L=S.a9 (al.take i) - S.a9 (bl.take i)+r*10000 ^ i
structure S.qI (x b n:Nat) (i:Nat) (L:List Int):Prop where
 len:L.length=n
 rng:∀z∈L,0<=z/\z<10000
 eq:S.a9 (L.drop i)=((x / 10000 ^ i / b:Nat):Int)
theorem SlR.wd {α:Type} [Rp α]{P P':Nat->Prop}{k:Nat}{h h':H}{l:List α}{v:AV}(r:SlR P k h l v)(hf:∀i,P i->P' i/\h'.get i=h.get i):SlR P' k h' l v:=by
 obtain ⟨w,hw,q⟩:=Rp.mono (k':=k) (P':=P') (h':=h') (show Rp.rp P k h l [v] from ⟨v,rfl,r⟩) hf (Nat.le_refl _)
 injection hw with hw;subst hw;exact q
structure HS (m:Causal) (c1 c2 la lb lc:AV) (p q:Nat) (gb g:G):Prop where
 fr:Fr gb g
 mp:g.h.get p=.cells 3 [[.int .i64 m.grain,c1,c2]] 0 false false
 ml:g.h.get q=.cells 3 [[la,lb,lc]] 0 false false
 pn:p<gb.nx
 q0:gb.nx<=q
 qn:q<g.nx
section
variable {m:Causal}{c1 c2 la lb lc w c28 vi c90 vj:AV}{A B Z:List Int}{p q:Nat}
end
end
end Hx
end
end
section
namespace Hx
open Go
section
variable {p:List Nat}
theorem xK:zu p 0:=⟨fun v _ hb=>by simp at hb,fun v _ hb=>by simp at hb⟩
theorem y7 {q:Nat}(ih:zu p q){j:Nat}(hj:j<64)(hd:Sub (Par p j) q):zu p (q ||| S.aK j):=by
 refine ⟨fun v hv hb=>?_,fun v hv hb=>?_⟩
 ·intro u hu
  rw[lf,sB hj,Bool.or_eq_true,decide_eq_true_eq] at hb
  rw[lf,Bool.or_eq_true]
  rcases hb with hb | hb
  ·exact .inl (ih.1 v hv hb u hu)
  ·subst hb;exact .inl (hd u hu)
 ·rw[lf,sB hj,Bool.or_eq_true,decide_eq_true_eq] at hb
  cases hq:q.testBit v
  ·rw[hq] at hb
   simp at hb
   subst hb
   rw[<-Bool.not_eq_true]
   intro hu
   have:=uP ih.1 hd p.length j hu
   rw[hq] at this;cases this
  ·exact ih.2 v hv hq
theorem rJ {q:Nat}(h:zu p q)(hf:∀v,v<p.length->q.testBit v=true):S.aT p=true :=
 ma.2 fun v hv=>h.2 v hv (hf v hv)
theorem rD (hp:∀x∈p,x<2 ^ p.length)(h:S.aT p=true){T:Nat}(hst:∀v,v<p.length->T.testBit v=false->¬Sub (Par p v) T):∀v,v<p.length->T.testBit v=true:=by
 rw[ma] at h
 have none:∀r v,v<p.length->T.testBit v=false->S.up p (Par p v) p.length=r->False:=by
  intro r
  induction r using Nat.strongRecOn with
  | _ r ih =>
   intro v hv hb hr
   have hns:=hst v hv hb
   have:∃u,(Par p v).testBit u=true/\T.testBit u=false:=by
    apply Classical.byContradiction
    intro hno
    apply hns
    intro u hu
    cases hc:T.testBit u
    ·exact absurd ⟨u,hu,hc⟩ hno
    ·rfl
   obtain ⟨u,hu,hub⟩:=this
   have hul:u<p.length:=zA (vC hp) hu
   have hcl:=yT hp (s:=Par p v) (vC hp)
   have hin:(S.up p (Par p v) p.length).testBit u=true:=nY _ u hu
   have hsub:Sub (S.up p (Par p u) p.length) (S.up p (Par p v) p.length):=uP hcl (hcl u hul hin) _
   have hlt:S.up p (Par p u) p.length<S.up p (Par p v) p.length:=by
    refine Nat.lt_of_le_of_ne (Du hsub) fun e=>?_
    have:=h u hul
    rw[e,hin] at this;cases this
   exact ih _ (by omega) u hul hub rfl
 intro v hv
 cases hc:T.testBit v
 ·exact (none _ v hv hc rfl).elim
 ·rfl
end
end Hx
end
section
namespace Hx
open Go
theorem iO:∀a b:List Int,S.af (a++b)=S.af a*S.af b
 | [],b=>by simp[S.af]
 | x::a,b=>by rw[List.cons_append,cC,cC,iO a b,Int.mul_assoc]
theorem ks:∀{a va:List Int} (b vb:List Int),a.length=va.length->S.ah (a++b) (va++vb)=S.ah a va*S.af b+S.ah b vb
 | [],[],b,vb,_=>by simp[S.ah]
 | [],_::_,_,_,h=>by simp at h
 | _::_,[],_,_,h=>by simp at h
 | c::a,v::va,b,vb,h=>by
  rw[List.cons_append,List.cons_append,S.ah,S.ah,ks b vb (by simpa using h),iO,Int.add_mul,Int.mul_assoc]
  omega
theorem tw:∀{cs vs:List Int} (a:Int),(∀c∈cs,1<=c)->InC cs vs->S.bk cs (a*S.af cs+S.ah cs vs)=a
 | [],[],a,_,_=>by simp[S.bk,S.af,S.ah]
 | [],_::_,_,_,h=>by cases h
 | _::_,[],_,_,h=>by cases h
 | c::cs,v::vs,a,hc,h=>by
  obtain ⟨⟨h1,h2⟩,h3⟩:=h
  have ih:=tw (cs:=cs) (vs:=vs) (a*c+v) (fun x hx=>hc x (by simp[hx])) h3
  have e:a*S.af (c::cs)+S.ah (c::cs) (v::vs)=(a*c+v)*S.af cs+S.ah cs vs:=by
   rw[cC,S.ah,Int.add_mul,Int.mul_assoc];omega
  rw[e]
  show S.bk cs _ / c=a
  rw[ih,Int.add_comm,Int.add_mul_ediv_right _ _ (by omega),Int.ediv_eq_zero_of_lt h1 h2];omega
theorem rm:∀{cs vs:List Int} (a:Int) (i:Nat),(∀c∈cs,1<=c)->InC cs vs->i<cs.length->S.bz cs (a*S.af cs+S.ah cs vs) i=vs[i]?.getD 0
 | [],_,_,_,_,_,hi=>by simp at hi
 | _::_,[],_,_,_,h,_=>by cases h
 | c::cs,v::vs,a,i,hc,h,hi=>by
  obtain ⟨⟨h1,h2⟩,h3⟩:=h
  have hc':∀x∈cs,1<=x:=fun x hx=>hc x (by simp[hx])
  have e:a*S.af (c::cs)+S.ah (c::cs) (v::vs)=(a*c+v)*S.af cs+S.ah cs vs:=by
   rw[cC,S.ah,Int.add_mul,Int.mul_assoc];omega
  rw[e]
  cases i with
  | zero =>
   show S.bk cs _ % c=v
   rw[tw _ hc' h3,Int.add_comm,Int.add_mul_emod_self_right,Int.emod_eq_of_lt h1 h2]
  | succ i =>
   have:=rm (a*c+v) i hc' h3 (by simpa using hi)
   simpa [S.bz] using this
theorem vp {cs vs:List Int}(hc:∀c∈cs,1<=c)(h:InC cs vs):S.an cs (S.ah cs vs)=vs:=by
 have hl:=h.len
 refine List.ext_getElem (by simp[S.an,hl]) fun i h1 h2=>?_
 have hi:i<cs.length:=by simpa [S.an] using h1
 have:=rm 0 i hc h hi
 rw[Int.zero_mul,Int.zero_add,List.getElem?_eq_getElem h2,Option.getD_some] at this
 simp[S.an,this]
theorem lX {cs:List Int}(hc:∀c∈cs,1<=c)(h:Int):InC cs (S.an cs h):=by
 refine rx (by simp[S.an]) fun i c v h1 h2=>?_
 have hi:=(List.getElem?_eq_some_iff.1 h1).1
 rw[S.an,List.getElem?_map,List.getElem?_range hi,Option.map_some,Option.some.injEq] at h2
 have hcc:=hc c (List.mem_of_getElem? h1)
 rw[<-h2,S.bz,h1,Option.getD_some]
 exact ⟨Int.emod_nonneg _ (by omega),Int.emod_lt_of_pos _ (by omega)⟩
theorem gu:∀{cs:List Int},(∀c∈cs,1<=c)->1<=S.af cs
 | [],_=>by decide
 | c::cs,h=>by
  rw[cC]
  have h1:=h c (by simp)
  have h2:=gu (cs:=cs) fun x hx=>h x (by simp[hx])
  exact Int.le_trans h1 (by have:=Int.mul_le_mul_of_nonneg_left h2 (show 0<=c by omega);omega)
theorem o8:∀(cs:List Int) (n:Nat),S.ah cs (List.replicate n 0)=0
 | [],n=>by cases n<;>rfl
 | _::_,0=>rfl
 | c::cs,n+1=>by rw[List.replicate_succ,S.ah,o8 cs n];simp
theorem sC:∀{cs vs:List Int},cs.length=vs.length->(∀(i:Nat) (c:Int),cs[i]?=some c->vs[i]?.getD 0=c - 1)->S.ah cs vs=S.af cs - 1
 | [],[],_,_=>by decide
 | [],_::_,h,_=>by simp at h
 | _::_,[],h,_=>by simp at h
 | c::cs,v::vs,hl,h=>by
  have h0:=h 0 c rfl
  have ih:=sC (cs:=cs) (vs:=vs) (by simpa using hl) fun i x hx=>by have:=h (i+1) x (by simpa using hx);simpa using this
  simp at h0
  rw[S.ah,ih,cC,h0,Int.sub_mul];omega
theorem z5 {cs vs:List Int}(hl:cs.length=vs.length){i:Nat}{x:Int}(hi:vs[i]?=some x)(hm:∀(j:Nat) (c:Int),i<j->cs[j]?=some c->vs[j]?.getD 0=c - 1) :
  S.ah cs (vs.take i++(x+1)::List.replicate (vs.length - (i+1)) 0)=S.ah cs vs+1:=by
 have hil:=(List.getElem?_eq_some_iff.1 hi).1
 obtain ⟨c,hc⟩:∃c,cs[i]?=some c:=⟨_,List.getElem?_eq_getElem (by omega)⟩
 have e1:cs=cs.take i++c::cs.drop (i+1):=by
  have:=List.drop_eq_getElem_cons (l:=cs) (i:=i) (by omega)
  rw[List.getElem?_eq_getElem (by omega),Option.some.injEq] at hc
  rw[<-hc,<-this,List.take_append_drop]
 have e2:vs=vs.take i++x::vs.drop (i+1):=by
  have:=List.drop_eq_getElem_cons (l:=vs) (i:=i) hil
  rw[List.getElem?_eq_getElem hil,Option.some.injEq] at hi
  rw[<-hi,<-this,List.take_append_drop]
 have hlt:(cs.take i).length=(vs.take i).length:=by simp[hl]
 have hmx:S.ah (cs.drop (i+1)) (vs.drop (i+1))=S.af (cs.drop (i+1)) - 1:=by
  refine sC (by simp[hl]) fun j d hj=>?_
  rw[List.getElem?_drop] at hj ⊢
  exact hm _ d (by omega) hj
 have h1:S.ah cs vs=S.ah (cs.take i) (vs.take i)*S.af (c::cs.drop (i+1))+(x*S.af (cs.drop (i+1))+S.ah (cs.drop (i+1)) (vs.drop (i+1))):=by
  conv=>lhs;rw[e1,e2,ks _ _ hlt,S.ah]
 have h2:S.ah cs (vs.take i++(x+1)::List.replicate (vs.length - (i+1)) 0)=S.ah (cs.take i) (vs.take i)*S.af (c::cs.drop (i+1))+((x+1)*S.af (cs.drop (i+1))+0):=by
  conv=>lhs;rw[e1,ks _ _ hlt,S.ah,o8]
 rw[h2,h1,hmx,Int.add_mul]
 omega
end Hx
end
section
namespace Hx
open Go
def S.aa (n:Net):List Int:=n.nodes.map (·.card)
def S.ae (cs ps:List Int):List Int:=ps.map fun p=>cs[p.toNat]?.getD 0
def S.ak (n:Net):List Nat:=n.nodes.map fun x=>S.am x.parents
def S.aH (gr card:Int)(r:List Int):Bool:=decide ((r.length:Int)=card)&&r.all (fun x=>decide (0<=x)&&decide (x<=gr))&&decide (r.sum=gr)
def S.bE (k:Int)(x:Node):Bool:=decide (1<=x.card)&&decide (x.card<=4)&&S.a8 x.parents k
def S.bD (n:Net)(x:Node):Bool:=decide ((x.rows.length:Int)=S.af (S.ae (S.aa n) x.parents))&&x.rows.all (S.aH n.grain x.card)
def S.aF (n:Net):Bool:=decide (1<=n.grain)&&decide (n.grain<=60)&&decide (1<=n.nodes.length)&&decide (n.nodes.length<=8)&&n.nodes.all (S.bE n.nodes.length)&&decide (S.af (S.aa n)<=1024)&&S.aT (S.ak n)&&n.nodes.all (S.bD n)
structure NR (n:Net):Prop where
 g1:1<=n.grain
 g2:n.grain<=60
 l1:1<=n.nodes.length
 l2:n.nodes.length<=8
 card:∀x∈n.nodes,1<=x.card/\x.card<=4
 places:∀x∈n.nodes,S.a8 x.parents n.nodes.length=true
 worlds:S.af (S.aa n)<=1024
 acyc:S.aT (S.ak n)=true
 rows:∀x∈n.nodes,(x.rows.length:Int)=S.af (S.ae (S.aa n) x.parents)
 row:∀x∈n.nodes,∀r∈x.rows,(r.length:Int)=x.card/\(∀y∈r,0<=y/\y<=n.grain)/\r.sum=n.grain
theorem gW {n:Net}:S.aF n=true↔NR n:=by
 simp only[S.aF,S.bE,S.bD,S.aH,Bool.and_eq_true,decide_eq_true_eq,List.all_eq_true]
 constructor
 ·rintro ⟨⟨⟨⟨⟨⟨⟨a,b⟩,c⟩,d⟩,e⟩,f⟩,g⟩,h⟩
  exact ⟨a,b,c,d,fun x hx=>(e x hx).1,fun x hx=>(e x hx).2,f,g,fun x hx=>(h x hx).1,fun x hx r hr=>⟨((h x hx).2 r hr).1.1,((h x hx).2 r hr).1.2,((h x hx).2 r hr).2⟩⟩
 ·rintro ⟨a,b,c,d,e1,e2,f,g,h1,h2⟩
  exact ⟨⟨⟨⟨⟨⟨⟨a,b⟩,c⟩,d⟩,fun x hx=>⟨e1 x hx,e2 x hx⟩⟩,f⟩,g⟩,fun x hx=>⟨h1 x hx,fun r hr=>⟨⟨(h2 x hx r hr).1,(h2 x hx r hr).2.1⟩,(h2 x hx r hr).2.2⟩⟩⟩
theorem dq {l:List Int}{k:Int}(h:S.a8 l k=true):∀x∈l,0<=x/\x<k:=by
 intro x hx
 obtain ⟨i,hi,he⟩:=List.mem_iff_getElem.1 hx
 have:=List.all_eq_true.1 h i (List.mem_range.2 hi)
 have e:l[i]?.getD 0=x:=by rw[List.getElem?_eq_getElem hi,he];rfl
 simp only[S.bi,Bool.and_eq_true,decide_eq_true_eq,e] at this
 omega
theorem lN {l:List Int}{k:Int}(h:S.a8 l k=true){i:Nat}{x y:Int}(hx:l[i]?=some x)(hy:l[i+1]?=some y):x<y:=by
 have hi:=(List.getElem?_eq_some_iff.1 hy).1
 have:=List.all_eq_true.1 h (i+1) (List.mem_range.2 hi)
 simp only[S.bi,Bool.and_eq_true,decide_eq_true_eq,hy,Option.getD_some,Nat.add_sub_cancel,hx] at this
 simp at this
 omega
theorem yh {l:List Int}{k:Int}(h:S.a8 l k=true):∀{i j:Nat} {x y:Int},l[i]?=some x->l[j]?=some y->i<j->x<y:=by
 intro i j
 induction j with
 | zero=>intro x y _ _ h;omega
 | succ j ih =>
  intro x y hx hy hij
  have hj:=(List.getElem?_eq_some_iff.1 hy).1
  have hz:l[j]?=some l[j]:=List.getElem?_eq_getElem (by omega)
  have h1:=lN h hz hy
  by_cases e:i=j
  ·subst e
   rw[hx] at hz
   injection hz with hz
   omega
  ·have:=ih hx hz (by omega)
   omega
theorem iZ {l:List Int}{k:Int}(h:S.a8 l k=true)(hk:0<=k):(l.length:Int)<=k:=by
 have key:∀(i:Nat) (x:Int),l[i]?=some x->(i:Int)<=x:=by
  intro i
  induction i with
  | zero=>intro x hx;have:=dq h x (List.mem_of_getElem? hx);omega
  | succ i ih =>
   intro x hx
   have hi:=(List.getElem?_eq_some_iff.1 hx).1
   have h1:=ih l[i] (List.getElem?_eq_getElem (by omega))
   have:=lN h (List.getElem?_eq_getElem (show i<l.length by omega)) hx
   omega
 by_cases hl:l.length=0
 ·omega
 ·have h1:=key (l.length - 1) l[l.length - 1] (List.getElem?_eq_getElem (by omega))
  have h2:=dq h _ (List.getElem_mem (show l.length - 1<l.length by omega))
  omega
theorem NR.cs {n:Net}(h:NR n):∀c∈S.aa n,1<=c/\c<=4:=fun c hc=>by
 obtain ⟨x,hx,rfl⟩:=List.mem_map.1 hc
 exact h.card x hx
theorem aS (n:Net):(S.aa n).length=n.nodes.length:=by simp[S.aa]
theorem aY {cs ps:List Int}(hc:∀c∈cs,1<=c/\c<=4)(hp:∀p∈ps,0<=p/\p<cs.length):∀c∈S.ae cs ps,1<=c/\c<=4:=fun c h=>by
 obtain ⟨p,h1,rfl⟩:=List.mem_map.1 h
 have h2:=hp p h1
 rw[List.getElem?_eq_getElem (by omega),Option.getD_some]
 exact hc _ (List.getElem_mem _)
theorem fg {cs ps vals:List Int}(h:InC cs vals)(hp:∀p∈ps,0<=p/\p<cs.length):InC (S.ae cs ps) (S.ae vals ps):=by
 refine rx (by simp[S.ae]) fun i c v h1 h2=>?_
 simp only[S.ae,List.getElem?_map,Option.map_eq_some_iff] at h1 h2
 obtain ⟨p,h3,rfl⟩:=h1
 obtain ⟨p',h4,rfl⟩:=h2
 rw[h3] at h4
 injection h4 with h4
 subst h4
 have h5:=hp p (List.mem_of_getElem? h3)
 have h6:cs[p.toNat]?=some cs[p.toNat]:=List.getElem?_eq_getElem (by omega)
 obtain ⟨v,h7,h8⟩:=h.get h6
 rw[h6,h7,Option.getD_some,Option.getD_some]
 exact h8
theorem bH (cs a b:List Int):S.ae cs (a++b)=S.ae cs a++S.ae cs b:=by simp[S.ae]
def S.aB (n:Net)(vals:List Int)(v:Nat):Int:=match n.nodes[v]? with
 | none=>1
 | some x=>(x.rows[(S.ah (S.ae (S.aa n) x.parents) (S.ae vals x.parents)).toNat]?.getD [])[(vals[v]?.getD 0).toNat]?.getD 0
def S.aZ (n:Net)(vals:List Int):Int:=S.af ((List.range n.nodes.length).map (S.aB n vals))
theorem NR.pin {n:Net}(h:NR n){x:Node}(hx:x∈n.nodes):∀p∈x.parents,0<=p/\p<(S.aa n).length:=fun p hp=>by rw[aS];exact dq (h.places x hx) p hp
theorem tN {n:Net}(h:NR n){vals:List Int}(hv:InC (S.aa n) vals){v:Nat}{x:Node}(hx:n.nodes[v]?=some x) :
  ∃(i:Nat) (r:List Int) (c y:Int),S.ah (S.ae (S.aa n) x.parents) (S.ae vals x.parents)=(i:Int)/\i<x.rows.length/\x.rows[i]?=some r/\vals[v]?=some c/\0<=c/\c<x.card/\r[c.toNat]?=some y/\S.aB n vals v=y/\0<=y/\y<=n.grain:=by
 have hm:=List.mem_of_getElem? hx
 have hi:=dw (aY h.cs (h.pin hm)) (fg hv (h.pin hm))
 rw[<-h.rows x hm] at hi
 obtain ⟨i,he⟩:=Int.eq_ofNat_of_zero_le hi.1
 have hil:i<x.rows.length:=by omega
 have hc:(S.aa n)[v]?=some x.card:=by simp[S.aa,hx]
 obtain ⟨c,h1,h2,h3⟩:=hv.get hc
 obtain ⟨r1,r2,-⟩:=h.row x hm x.rows[i] (List.getElem_mem hil)
 have hcl:c.toNat<(x.rows[i]).length:=by omega
 refine ⟨i,x.rows[i],c,(x.rows[i])[c.toNat],he,hil,List.getElem?_eq_getElem hil,h1,h2,h3,List.getElem?_eq_getElem hcl,?_,r2 _ (List.getElem_mem hcl)⟩
 simp only[S.aB,hx,he,h1,Int.toNat_natCast,List.getElem?_eq_getElem hil,Option.getD_some,List.getElem?_eq_getElem hcl]
theorem mL:∀{l:List Int},(∀x∈l,0<=x/\x<=60)->0<=S.af l/\S.af l<=60 ^ l.length
 | [],_=>by decide
 | x::l,h=>by
  have h1:=mL (l:=l) fun y hy=>h y (by simp[hy])
  have h2:=h x (by simp)
  rw[cC,List.length_cons,Int.pow_succ,Int.mul_comm x]
  refine ⟨Int.mul_nonneg h1.1 h2.1,Int.le_trans (Int.mul_le_mul_of_nonneg_left h2.2 h1.1) (Int.mul_le_mul_of_nonneg_right h1.2 (by decide))⟩
theorem Ed {k:Nat}(h:k<=8):(60:Int) ^ k<=167961600000000:=by
 have hk:k=0\/k=1\/k=2\/k=3\/k=4\/k=5\/k=6\/k=7\/k=8:=by omega
 rcases hk with rfl | rfl | rfl | rfl | rfl | rfl | rfl | rfl | rfl<;>decide
theorem yw {n:Net}(h:NR n){vals:List Int}(hv:InC (S.aa n) vals){v:Nat}(hi:v<n.nodes.length):0<=S.aB n vals v/\S.aB n vals v<=60:=by
 obtain ⟨i,r,c,y,-,-,-,-,-,-,-,e,a,b⟩:=tN h hv (List.getElem?_eq_getElem hi)
 have:=h.g2
 omega
theorem ld {n:Net}(h:NR n){vals:List Int}(hv:InC (S.aa n) vals){j:Nat}(hj:j<=n.nodes.length):0<=S.af ((List.range j).map (S.aB n vals))/\S.af ((List.range j).map (S.aB n vals))<=167961600000000:=by
 have h1:=mL (l:=(List.range j).map (S.aB n vals)) fun x hx=>by
  obtain ⟨i,hi,rfl⟩:=List.mem_map.1 hx
  exact yw h hv (by have:=List.mem_range.1 hi;omega)
 have h2:=Ed (k:=((List.range j).map (S.aB n vals)).length) (by have:=h.l2;simp;omega)
 omega
theorem uD (n:Net)(vals:List Int)(j:Nat):S.af ((List.range (j+1)).map (S.aB n vals))=S.af ((List.range j).map (S.aB n vals))*S.aB n vals j:=by
 rw[List.range_succ,List.map_append,List.map_singleton,qJ]
def S.aN (n:Net)(p:Nat->Bool):Nat->Int
 | 0=>0
 | j+1=>S.aN n p j+if p j then S.aZ n (S.an (S.aa n) (j:Int)) else 0
theorem qp {n:Net}(h:NR n){vals:List Int}(hv:InC (S.aa n) vals):0<=S.aZ n vals/\S.aZ n vals<=167961600000000:=ld h hv (Nat.le_refl _)
theorem pG {n:Net}(h:NR n)(p:Nat->Bool):∀j:Nat,0<=S.aN n p j/\S.aN n p j<=167961600000000*j
 | 0=>by simp[S.aN]
 | j+1=>by
  have ih:=pG h p j
  have hw:=qp h (lX (fun c hc=>(h.cs c hc).1) (j:Int))
  rw[S.aN]
  split<;>omega
def S.ap (n:Net):Nat:=(S.af (S.aa n)).toNat
def S.bV (n:Net)(e:List Int):Int:=S.aN n (fun w=>S.bL (S.an (S.aa n) (w:Int)) e) (S.ap n)
theorem NR.wl {n:Net}(h:NR n):1<=S.ap n/\S.ap n<=1024/\((S.ap n:Nat):Int)=S.af (S.aa n):=by
 have h1:=gu fun c hc=>(h.cs c hc).1
 have h2:=h.worlds
 unfold S.ap
 omega
def S.aY (n:Net)(e:List Int):Bool:=decide (e.length=n.nodes.length)&&(List.range e.length).all fun v=>decide (-1<=e[v]?.getD 0)&&decide (e[v]?.getD 0<(S.aa n)[v]?.getD 0)
def S.aP (n:Net)(e:List Int):Int:=if S.aF n then (if S.aY n e then 0 else 2) else 50
end Hx
end
section
namespace Hx
open Go
section
variable {b card:Nat}
def S.au (b card i x:Nat):Nat:=(i / b*card+x)*b+i % b
def S.aE (b card p:Nat):Nat:=p / (b*card)*b+p % b
def S.aU (b card p:Nat):Nat:=p / b % card
theorem xG (hb:0<b){i x:Nat}(hx:x<card):S.aE b card (S.au b card i x)=i/\S.aU b card (S.au b card i x)=x:=by
 have hm:=Nat.mod_lt i hb
 have h1:S.au b card i x / b=i / b*card+x:=by
  unfold S.au
  rw[Nat.add_comm,Nat.add_mul_div_right _ _ hb,Nat.div_eq_of_lt hm,Nat.zero_add]
 have h2:S.au b card i x % b=i % b:=by
  unfold S.au
  rw[Nat.add_comm,Nat.add_mul_mod_self_right,Nat.mod_mod]
 have h3:(i / b*card+x) / card=i / b:=by rw[Nat.add_comm,Nat.add_mul_div_right _ _ (by omega),Nat.div_eq_of_lt hx,Nat.zero_add]
 have h4:(i / b*card+x) % card=x:=by rw[Nat.add_comm,Nat.add_mul_mod_self_right,Nat.mod_eq_of_lt hx]
 refine ⟨?_,?_⟩
 ·unfold S.aE
  rw[<-Nat.div_div_eq_div_mul,h1,h2,h3,Nat.mul_comm]
  exact Nat.div_add_mod i b
 ·unfold S.aU
  rw[h1,h4]
theorem DO (hb:0<b)(p:Nat):S.au b card (S.aE b card p) (S.aU b card p)=p:=by
 have hm:=Nat.mod_lt p hb
 have h1:S.aE b card p / b=p / (b*card):=by
  unfold S.aE
  rw[Nat.add_comm,Nat.add_mul_div_right _ _ hb,Nat.div_eq_of_lt hm,Nat.zero_add]
 have h2:S.aE b card p % b=p % b:=by
  unfold S.aE
  rw[Nat.add_comm,Nat.add_mul_mod_self_right,Nat.mod_mod]
 unfold S.au S.aU
 rw[h1,h2,<-Nat.div_div_eq_div_mul,Nat.mul_comm (p / b / card) card,Nat.div_add_mod,Nat.mul_comm]
 exact Nat.div_add_mod p b
theorem xF (hc:0<card)(p:Nat):S.aU b card p<card:=Nat.mod_lt _ hc
theorem Bo {A p:Nat}(hb:0<b)(hp:p<A*b*card):S.aE b card p<A*b:=by
 have h1:p / (b*card)<A:=Nat.div_lt_of_lt_mul (by rw[Nat.mul_comm (b*card),<-Nat.mul_assoc];exact hp)
 have hm:=Nat.mod_lt p hb
 unfold S.aE
 have:(p / (b*card)+1)*b<=A*b:=Nat.mul_le_mul_right _ h1
 rw[Nat.add_mul,Nat.one_mul] at this
 omega
theorem rZ {A i x:Nat}(hb:0<b)(hi:i<A*b)(hx:x<card):S.au b card i x<A*b*card:=by
 have h1:i / b<A:=Nat.div_lt_of_lt_mul (by rw[Nat.mul_comm];exact hi)
 have hm:=Nat.mod_lt i hb
 unfold S.au
 have h2:(i / b+1)*card<=A*card:=Nat.mul_le_mul_right _ h1
 rw[Nat.add_mul,Nat.one_mul] at h2
 have h3:(i / b*card+x+1)*b<=A*card*b:=Nat.mul_le_mul_right _ (by omega)
 rw[Nat.add_mul (i / b*card+x),Nat.one_mul,Nat.mul_assoc A,Nat.mul_comm card b,<-Nat.mul_assoc] at h3
 omega
def S.aA (rows:List (List Int))(b card t:Nat):List Int:=(List.range (rows.length*card)).map fun p=>if S.aE b card p*card+S.aU b card p<t then (rows[S.aE b card p]?.getD [])[S.aU b card p]?.getD 0 else 0
def S.a_ (rows:List (List Int))(b card:Nat):List Int:=(List.range (rows.length*card)).map fun p=>(rows[S.aE b card p]?.getD [])[S.aU b card p]?.getD 0
theorem tV (rows:List (List Int))(b card t:Nat):(S.aA rows b card t).length=rows.length*card:=by simp[S.aA]
theorem x8 (rows:List (List Int))(b card:Nat):S.aA rows b card 0=List.replicate (rows.length*card) 0:=by
 refine List.ext_getElem (by simp[S.aA]) fun i h1 h2=>?_
 simp[S.aA]
theorem yq {rows:List (List Int)}{A i x:Nat}{r:List Int}{w:Int}(hb:0<b)(hA:rows.length=A*b)(hr:rows[i]?=some r)(hx:x<card)(hw:r[x]?=some w) :
  (S.aA rows b card (i*card+x)).set (S.au b card i x) w=S.aA rows b card (i*card+x+1):=by
 have hi:=(List.getElem?_eq_some_iff.1 hr).1
 refine List.ext_getElem (by simp[S.aA]) fun p h1 h2=>?_
 have hp:p<rows.length*card:=by simpa [S.aA] using h2
 obtain ⟨q1,q2⟩:=xG hb (i:=i) hx
 rw[List.getElem_set]
 by_cases e:S.au b card i x=p
 ·subst e
  rw[if_pos rfl]
  simp only[S.aA,List.getElem_map,List.getElem_range,q1,q2]
  rw[if_pos (by omega),hr,Option.getD_some,hw,Option.getD_some]
 ·rw[if_neg e]
  simp only[S.aA,List.getElem_map,List.getElem_range]
  have hf:=xF (b:=b) (card:=card) (by omega) p
  have hne:S.aE b card p*card+S.aU b card p≠i*card+x:=fun h=>e (by
   have e1:S.aE b card p=i:=by
    have h1:(S.aE b card p*card+S.aU b card p) / card=S.aE b card p:=by rw[Nat.add_comm,Nat.add_mul_div_right _ _ (by omega),Nat.div_eq_of_lt hf,Nat.zero_add]
    have h2:(i*card+x) / card=i:=by rw[Nat.add_comm,Nat.add_mul_div_right _ _ (by omega),Nat.div_eq_of_lt hx,Nat.zero_add]
    rw[<-h1,h,h2]
   have e2:S.aU b card p=x:=by rw[e1] at h;omega
   rw[<-DO hb p (card:=card),e1,e2])
  by_cases h:S.aE b card p*card+S.aU b card p<i*card+x
  ·rw[if_pos h,if_pos (by omega)]
  ·rw[if_neg h,if_neg (by omega)]
theorem z9 {rows:List (List Int)}{A:Nat}(hb:0<b)(hA:rows.length=A*b):S.aA rows b card (rows.length*card)=S.a_ rows b card:=by
 unfold S.aA S.a_
 refine List.map_congr_left fun p hp=>?_
 have hp:=List.mem_range.1 hp
 have hc:0<card:=Nat.pos_of_ne_zero fun e=>by subst e;simp at hp
 have h1:=Bo (A:=A) hb (by rw[<-hA];exact hp)
 have h2:=xF (b:=b) hc p
 rw[if_pos]
 rw[<-hA] at h1
 have:(S.aE b card p+1)*card<=rows.length*card:=Nat.mul_le_mul_right _ h1
 rw[Nat.add_mul,Nat.one_mul] at this
 omega
theorem Co {rows:List (List Int)}{A i x:Nat}(hb:0<b)(hA:rows.length=A*b)(hi:i<rows.length)(hx:x<card):(S.a_ rows b card)[S.au b card i x]?=some ((rows[i]?.getD [])[x]?.getD 0):=by
 obtain ⟨q1,q2⟩:=xG hb (i:=i) hx
 have hp:=rZ (A:=A) (i:=i) hb (by rw[<-hA];exact hi) hx
 simp only[S.a_,List.getElem?_map]
 rw[List.getElem?_range (by rw[hA];exact hp)]
 simp only[Option.map_some,q1,q2]
end
def S.aq (ps:List Int)(k:Nat)(v:Int):List Int:=ps.take k++v::ps.drop k
theorem Db {n:Net}(h:NR n){vals:List Int}(hv:InC (S.aa n) vals){v:Nat}{x:Node}(hx:n.nodes[v]?=some x)(k:Nat) :
  ∃p:Nat,S.ah (S.ae (S.aa n) (S.aq x.parents k (v:Int))) (S.ae vals (S.aq x.parents k (v:Int)))=(p:Int)/\p<x.rows.length*x.card.toNat /\
   (S.a_ x.rows (S.af (S.ae (S.aa n) (x.parents.drop k))).toNat x.card.toNat)[p]?=some (S.aB n vals v):=by
 have hm:=List.mem_of_getElem? hx
 obtain ⟨i,r,c,y,e1,e2,e3,e4,e5,e6,e7,e8,-,-⟩:=tN h hv hx
 have hpin:=h.pin hm
 have hcb:=aY h.cs hpin
 have hin:=fg hv hpin
 have hcx:(S.aa n)[v]?=some x.card:=by simp[S.aa,hx]
 have ps:x.parents=x.parents.take k++x.parents.drop k:=(List.take_append_drop k _).symm
 have hd1:∀c∈S.ae (S.aa n) (x.parents.drop k),1<=c/\c<=4:=aY h.cs fun p hp=>hpin p (List.mem_of_mem_drop hp)
 have hd2:InC (S.ae (S.aa n) (x.parents.drop k)) (S.ae vals (x.parents.drop k)):=fg hv fun p hp=>hpin p (List.mem_of_mem_drop hp)
 have ht1:∀c∈S.ae (S.aa n) (x.parents.take k),1<=c/\c<=4:=aY h.cs fun p hp=>hpin p (List.mem_of_mem_take hp)
 have ht2:InC (S.ae (S.aa n) (x.parents.take k)) (S.ae vals (x.parents.take k)):=fg hv fun p hp=>hpin p (List.mem_of_mem_take hp)
 obtain ⟨b1,b2⟩:=dw hd1 hd2
 obtain ⟨a1,a2⟩:=dw ht1 ht2
 have hlt:(S.ae (S.aa n) (x.parents.take k)).length=(S.ae vals (x.parents.take k)).length:=by simp[S.ae]
 have ei:S.ah (S.ae (S.aa n) x.parents) (S.ae vals x.parents)=S.ah (S.ae (S.aa n) (x.parents.take k)) (S.ae vals (x.parents.take k))*S.af (S.ae (S.aa n) (x.parents.drop k))+S.ah (S.ae (S.aa n) (x.parents.drop k)) (S.ae vals (x.parents.drop k)):=by
  conv=>lhs;rw[ps,bH,bH,ks _ _ hlt]
 have er:(x.rows.length:Int)=S.af (S.ae (S.aa n) (x.parents.take k))*S.af (S.ae (S.aa n) (x.parents.drop k)):=by
  rw[h.rows x hm]
  conv=>lhs;rw[ps,bH,iO]
 have ef:S.ah (S.ae (S.aa n) (S.aq x.parents k (v:Int))) (S.ae vals (S.aq x.parents k (v:Int))) =
   S.ah (S.ae (S.aa n) (x.parents.take k)) (S.ae vals (x.parents.take k))*(x.card*S.af (S.ae (S.aa n) (x.parents.drop k)))+(c*S.af (S.ae (S.aa n) (x.parents.drop k))+S.ah (S.ae (S.aa n) (x.parents.drop k)) (S.ae vals (x.parents.drop k))):=by
  rw[S.aq,bH,bH,ks _ _ hlt]
  have:S.ae (S.aa n) ((v:Int)::x.parents.drop k)=x.card::S.ae (S.aa n) (x.parents.drop k):=by simp[S.ae,hcx]
  have h2:S.ae vals ((v:Int)::x.parents.drop k)=c::S.ae vals (x.parents.drop k):=by simp[S.ae,e4]
  rw[this,h2,cC,S.ah]
 have hpp:=gu fun c hc=>(hd1 c hc).1
 generalize S.af (S.ae (S.aa n) (x.parents.drop k))=B at *
 generalize S.af (S.ae (S.aa n) (x.parents.take k))=A at *
 generalize S.ah (S.ae (S.aa n) (x.parents.drop k)) (S.ae vals (x.parents.drop k))=q at *
 generalize S.ah (S.ae (S.aa n) (x.parents.take k)) (S.ae vals (x.parents.take k))=a at *
 obtain ⟨B,rfl⟩:=Int.eq_ofNat_of_zero_le (show 0<=B by omega)
 obtain ⟨A,rfl⟩:=Int.eq_ofNat_of_zero_le (show 0<=A by omega)
 obtain ⟨q,rfl⟩:=Int.eq_ofNat_of_zero_le b1
 obtain ⟨a,rfl⟩:=Int.eq_ofNat_of_zero_le a1
 obtain ⟨c,rfl⟩:=Int.eq_ofNat_of_zero_le e5
 obtain ⟨C,hC⟩:=Int.eq_ofNat_of_zero_le (show 0<=x.card by omega)
 rw[hC] at ef e6 ⊢
 have hB:0<B:=by omega
 have hq:q<B:=by omega
 have hc:c<C:=by omega
 rw[e1] at ei
 have hi:i=a*B+q:=by
  have:(i:Int)=((a*B+q:Nat):Int):=by rw[ei,Int.natCast_add,Int.natCast_mul]
  omega
 have hiB:i / B=a:=by rw[hi,Nat.add_comm,Nat.add_mul_div_right _ _ hB,Nat.div_eq_of_lt hq,Nat.zero_add]
 have hiM:i % B=q:=by rw[hi,Nat.add_comm,Nat.add_mul_mod_self_right,Nat.mod_eq_of_lt hq]
 have hrl:x.rows.length=A*B:=by
  have:((x.rows.length:Nat):Int)=((A*B:Nat):Int):=by rw[er,Int.natCast_mul]
  omega
 refine ⟨S.au B C i c,?_,?_,?_⟩
 ·rw[ef,S.au,hiB,hiM,Nat.add_mul,Int.natCast_add,Int.natCast_add,Int.natCast_mul,Int.natCast_mul,Int.natCast_mul,Int.mul_assoc]
  omega
 ·rw[Int.toNat_natCast,hrl]
  exact rZ hB (by rw[<-hrl];exact e2) hc
 ·rw[Int.toNat_natCast,Int.toNat_natCast,Co hB hrl e2 hc,e3,Option.getD_some]
  rw[Int.toNat_natCast] at e7
  rw[e7,e8];rfl
end Hx
end
section
namespace Hx
open Go
noncomputable section
abbrev wh:Type:=UInt8×UInt8×UInt8×Int
theorem j5 {g:G}{v:AV}{n:Net}(d:Nat)(hm:Agg n NoP 0 g.h v):∃b rows,v=.agg [.int .i64 n.grain,b]/\Hx.snap g.h d ak v=some v/\(∀h,Agg n NoP 0 h v)/\SlR NoP 0 .nil n.nodes b/\(∀h,ax h 3 b=some rows)/\rows.length=n.nodes.length /\
  (∀(i:Nat) (x:Node),n.nodes[i]?=some x->∃pa ra,rows[i]?=some [.int .i64 x.card,pa,ra]/\i<rows.length/\SlR NoP 0 .nil x.parents pa/\SlR NoP 0 .nil x.rows ra)/\(0<n.nodes.length->nS b=true):=by
 have e:=gZ d hm
 obtain ⟨cs,rfl,hc⟩:=hm
 have hc':=hc
 obtain ⟨b,rfl,hN⟩:=mX.1 hc
 have hN:=hN.tree (h':=.nil) (Nat.le_refl _)
 obtain ⟨rows,r1,r2,r3,r4⟩:=hN.all
 refine ⟨b,rows,rfl,e,fun h=>⟨_,rfl,Rp.tree hc' (Nat.le_refl _)⟩,hN,r1,r2,fun i x hx=>?_,r4⟩
 obtain ⟨row,q1,q2⟩:=r3 i x hx
 obtain ⟨a',b',rfl,ha',hb'⟩:=eR.1 q2
 exact ⟨a',b',q1,by rw[r2];exact (List.getElem?_eq_some_iff.1 hx).1,ha',hb'⟩
theorem w8 {k:Nat}{l:List (List Int)}{b:AV}(hb:SlR NoP k .nil l b):∃rows:List (List AV),(∀h,ax h 1 b=some rows)/\rows.length=l.length/\(∀(i:Nat) (r:List Int),l[i]?=some r->∃z,rows[i]?=some [z]/\i<rows.length/\SlR NoP k .nil r z)/\(0<l.length->nS b=true):=by
 obtain ⟨rows,r1,r2,r3,r4⟩:=hb.all
 refine ⟨rows,r1,r2,fun i r hr=>?_,r4⟩
 obtain ⟨row,q1,q2⟩:=r3 i r hr
 obtain ⟨z,rfl,hz⟩:=mE.1 q2
 exact ⟨z,q1,by rw[r2];exact (List.getElem?_eq_some_iff.1 hr).1,hz⟩
section
variable {d:Nat}{b pa ra z:AV}{gr card:Int}{r:List Int}
def LR5 (v:Nat)(q:Nat):List (Nat×AV):=[(1,.hptr 0 0 0 0),(6,.int .i64 (v:Int)),(7,.hptr q 0 0 0)]
structure RJ1 (gr:Int) (r:List Int) (v q i j:Nat) (t:T):Prop where
 st:St t ((8,.int .i64 (i:Int))::LR5 v q)
 s9:tat t 9=.int .i64 (r.take j).sum
 all:∀y∈r.take j,0<=y/\y<=gr
structure RJ4 (gr card:Int) (rws:List (List Int)) (v q j:Nat) (t:T):Prop where
 st:St t (LR5 v q)
 all:∀r∈rws.take j,S.aH gr card r=true
structure RJ0 (n:Net) (b:AV) (j:Nat) (t:T) (g:G):Prop where
 st:St t [(1,.hptr 0 0 0 0),(3,.int .i64 (S.af ((S.aa n).take j)))]
 hg:g.h.get 0=.cells 2 [[.int .i64 n.grain,b]] 0 false false
 nx:1<=g.nx
 all:∀x∈n.nodes.take j,S.bE n.nodes.length x=true
structure RJ6 (n:Net) (b:AV) (j:Nat) (t:T) (g:G):Prop where
 st:St t [(1,.hptr 0 0 0 0)]
 hg:g.h.get 0=.cells 2 [[.int .i64 n.grain,b]] 0 false false
 nx:1<=g.nx
 all:∀x∈n.nodes.take j,S.bD n x=true
end
end
end Hx
end
section
namespace Hx
open Go
noncomputable section
def OwnC (g:G)(b id:Nat)(l tl:List Int):Prop:=b<=id/\id<g.nx/\g.h.get id=.cells 1 (l.map ci++tl.map ci) 0 false false
theorem OwnC.rows {g:G}{b id:Nat}{l tl:List Int}(h:OwnC g b id l tl):ax g.h 1 (.hsl id 0 0 l.length none)=some (l.map ci):=by
 rw[jd,h.2.2,fq,if_pos (by simp),List.drop_zero,List.take_left' (by simp)]
theorem OwnC.fr {g g':G}{b id:Nat}{l tl:List Int}(h:OwnC g b id l tl)(hn:g.nx<=g'.nx)(hf:g'.h.get id=g.h.get id):OwnC g' b id l tl:=⟨h.1,Nat.lt_of_lt_of_le h.2.1 hn,by rw[hf,h.2.2]⟩
theorem DZ {g:G}{b n:Nat}{K:AV->G->Prop}{D:ADf->Prop}(hn:n<=1000)(hb:b<=g.nx)(k:∀g',OwnC g' b g.nx [] (List.replicate n 0)->g'.nx=g.nx+1->(∀i,i<g.nx->g'.h.get i=g.h.get i)->K (.hsl g.nx 0 0 0 none) g') :
  (yD 1 8 [.int .i64 0] (.int .i64 0) (.int .i64 (n:Int)) g).sat K g D:=by
 have h1:n<=bF:=by unfold bF;omega
 have h2:n*8<=bF:=by unfold bF;omega
 have key:yD 1 8 [.int .i64 0] (.int .i64 0) (.int .i64 (n:Int)) g=.upd (.hsl g.nx 0 0 0 none) (g.new (.cells 1 (d8 n [.int .i64 0]) 0 false false)):=by
  show (match cN bF (.int .i64 (.ofNat n)) with
   | some cn=>match cN cn (.int .i64 0) with
    | some ln=>af (Nat.ble (cn*8) bF) (OR.upd (.hsl g.nx 0 0 ln none) (g.new (.cells 1 (d8 cn [.int .i64 0]) 0 false false))) .fail
    | none=>.fail
   | none=>.fail)=_
  have a1:cN bF (.int .i64 (.ofNat n))=some n:=by
   show af (Nat.ble n bF) (some n) none=_
   rw[aa,if_pos (by simpa using h1)]
  have a2:cN n (.int .i64 0)=some 0:=by
   show af (Nat.ble 0 n) (some 0) none=_
   rw[aa,if_pos (by simp)]
  rw[a1];dsimp only;rw[a2];dsimp only
  rw[aa,if_pos (by simpa using h2)]
 rw[key]
 refine k _ ⟨hb,by simp,?_⟩ (by simp) (fun i hi=>?_)
 ·simp[bh,d8,ci]
 ·rw[G.new_h,bw _ _ _ (by omega)]
theorem zn {g:G}{b id:Nat}{l tl:List Int}{x y:Int}{w:AV}{K:AV->G->Prop}{D:ADf->Prop}(hv:OwnC g b id l (y::tl))(hx:ax g.h 1 w=some [ci x])(hr:l.length<=1000)
  (k:∀g',OwnC g' b id (l++[x]) tl->g'.nx=g.nx->(∀i,i≠id->g'.h.get i=g.h.get i)->K (.hsl id 0 0 (l++[x]).length none) g'):(dH 1 8 (.hsl id 0 0 l.length none) w g).sat K g D:=by
 unfold dH
 rw[hx]
 obtain ⟨h1,h2,h3⟩:=hv
 simp only[aW,G.get_eq,h3,am,aa,Nat.beq_refl,Bool.true_and,Nat.ble_eq,Bool.and_eq_true,Nat.zero_add,Option.getD_none,Nat.sub_zero,List.length_append,List.length_map,List.length_cons,List.length_nil]
 rw[if_pos ⟨by omega,by unfold bF;omega⟩,if_pos (by omega)]
 have hnb:eD false=true:=rfl
 rw[if_pos ⟨by omega,hnb⟩]
 have e:gc (l.map ci++(y::tl).map ci) l.length [ci x]=(l++[x]).map ci++tl.map ci:=by
  simp only[gc,d_]
  rw[List.map_append,List.append_assoc,List.map_cons,List.set_append_right _ _ (by simp)]
  simp
 rw[e]
 have k:=k (g.put id (.cells 1 ((l++[x]).map ci++tl.map ci) 0 false false)) ⟨h1,by simpa using h2,by simp[bh]⟩ (by simp) (fun i hi=>by rw[G.put_h,bw _ _ _ hi])
 have e3:l.length+1=(l++[x]).length:=by simp
 rw[e3]
 exact k
def Ec (p:List Nat):VS:=fun P k h v=>∃o:List Int,True/\rK (One o) (One (S.aT p)) P k h v
theorem yg {d k:Nat}{g:G}{P:Nat->Prop}{v:AV}{p:List Nat}(hd:0<d)(hv:SlR P k g.h p v)(hn:p.length<=8)(hp:∀x∈p,x<2 ^ p.length) :
  ∃z,aO C0 d N.ay [v] g=.val z/\Ec p NoP 0 .nil z:=by
 obtain ⟨v',e,r1⟩:=jG hv d
 have hlt:=rF hv
 rw[nP]
 refine fy qi (xs:=[v']) (by simp only[aD,e]) (by simp[i7]) (ko fun o=>gN (m:=1) (dt _) (dt _) (by decide) (by decide)) (by decide) hd ?_
 have vl:∀g,gM .slice v' g=.val (.int .i64 (p.length:Int)):=fun g=>(r1 .nil).len g
 simp only[sz,simprocAttr,i7,vl]
 refine DZ (b:=0) (n:=p.length) (by omega) (Nat.zero_le _) fun g1 hu hn1 hf1=>?_
 obtain ⟨id,hid⟩:∃id,id=G.empty.nx:=⟨_,rfl⟩
 rw[<-hid] at hu ⊢
 clear hid hn1 hf1
 simp only[sz,simprocAttr]
 refine lE (fun n t df g=>df=[]/\∃(L:List Nat) (D:Nat) (tl:List Int),n=p.length - L.length/\L.length+tl.length=p.length/\x9 p L/\DV D L/\zu p D/\St t [(0,v'),(4,.hsl id 0 0 (L.map fun i:Nat=>(i:Int)).length none),(5,.int .u64 (D:Int))]/\OwnC g 0 id (L.map fun i:Nat=>(i:Int)) tl) p.length
  ⟨rfl,[],0,List.replicate p.length 0,by simp,by simp,⟨by simp,by simp⟩,⟨by decide,by simp⟩,xK,by simp[sx,St],hu⟩ ?_
 rintro n t df g ⟨rfl,L,D,tl,rfl,hLt,hO,hD,hG,⟨h0,h4,h5,-⟩,hu⟩
 have hLl:=Ad hO
 have hul:∀g',gM .slice (.hsl id 0 0 (L.map fun i:Nat=>(i:Int)).length none) g'=.val (.int .i64 (L.length:Int)):=fun g'=>by rw[kr hu.rows];simp
 simp only[sz,simprocAttr,jt,h0,h4,vl,hul]
 refine sF (fun hb=>?_) (fun hb=>?_)
 ·have hlt2:L.length<p.length:=by simpa using hb
  obtain ⟨y,tl,rfl⟩:∃y tl',tl=y::tl':=by
   cases tl with
   | nil=>simp at hLt;omega
   | cons y tl=>exact ⟨y,tl,rfl⟩
  simp only[sz,simprocAttr,h0,vl,js]
  refine a7 (m:=p.length) (by omega) (fun j t df g'=>df=[]/\g'=g/\St t [(0,v'),(16,v'),(4,.hsl id 0 0 (L.map fun i:Nat=>(i:Int)).length none),(5,.int .u64 (D:Int))]/\∀v,v<j->D.testBit v=true\/¬Sub (Par p v) D)
   ⟨rfl,rfl,by simp[sx,St,h0,h4,h5],fun v hv=>by omega⟩ (by simp[sx]) (by simp[sx]) (by decide) (by rintro j t df g v s (rfl | rfl | rfl)<;>simp[sx,St]) ?_ ?_
  ·rintro j t df g' hj ⟨rfl,rfl,⟨h0,h16,h4,h5,-⟩,hall⟩ h18 h17
   obtain ⟨x,hx,-,hxm⟩:=aG hj
   have hpj:Par p j=x:=by simp[Par,hx]
   have hxl:=hlt x hxm
   have hjl:j<(p.map cu).length:=by simpa using hj
   have hjr:(p.map cu)[j]?=some (cu x):=by rw[List.getElem?_map,hx];rfl
   have b1:=mh .i64 D j hD.1
   have hdv:D / 2 ^ j<18446744073709551616:=Nat.lt_of_le_of_lt (Nat.div_le_self _ _) hD.1
   have b2:cD .and (.int .u64 ((D / 2 ^ j:Nat):Int)) (.int .u64 1)=.val (.int .u64 ((D / 2 ^ j &&& 1:Nat):Int)):=kC _ 1 hdv (by decide)
   have b3:=vG x D hxl hD.1
   have ra:=fun h=>(r1 h).nats
   have hbit:D.testBit j = !decide (((D / 2 ^ j &&& 1:Nat):Int)=0):=by
    rw[<-mH,S.bc]
    have h2:D / 2 ^ j &&& 1=(D / 2 ^ j) % 2:=Nat.and_one_is_mod _
    rw[h2]
    have:=Nat.mod_lt (D / 2 ^ j) (show 0<2 by decide)
    by_cases h3:D / 2 ^ j % 2=0
    ·rw[h3];simp
    ·have h4:D / 2 ^ j % 2=1:=by omega
     rw[h4];simp
   have next:(D.testBit j=true\/¬Sub (Par p j) D)->∀v,v<j+1->D.testBit v=true\/¬Sub (Par p v) D:=fun h v hv=>by
    by_cases e:v=j
    ·subst e;exact h
    ·exact hall v (by omega)
   by_cases c1:((D / 2 ^ j &&& 1:Nat):Int)=0
   ·by_cases c2:((x ^^^ (x &&& D):Nat):Int)=0
    ·have hd0:S.bf x D=0:=by simpa [S.bf] using c2
     have hsub:=ro.1 hd0
     have hjL:j ∉ L:=fun h=>by
      have:=(hD.2 j).2 h
      rw[hbit,c1] at this;simp at this
     have hb2:D ||| S.aK j<18446744073709551616:=pL hD.1 (oZ j)
     simp only[sz,simprocAttr,h16,h4,h5,h18,b1,b2,b3,ra,hjl,hjr,cu,c1,c2]
     refine zn (x:=(j:Int)) (hu.fr (by simp) (by rw[G.new_h,bw _ _ _ (by have:=hu.2.1;omega)])) (by simp[sx,sy,ci]) (by simp;omega) fun g2 hu2 n2 f2=>?_
     have hone:cD .shl (.int .u64 1) (.int .i64 (j:Int))=.val (.int .u64 (S.aK j:Int)):=nK .i64 j
     have e1:(L.map fun i:Nat=>(i:Int))++[(j:Int)]=(L++[j]).map fun i:Nat=>(i:Int):=by simp
     rw[e1] at hu2 ⊢
     simp only[sz,simprocAttr,h5,hone,jQ _ _ hD.1 (oZ j)]
     refine ⟨p.length - (L++[j]).length,by simp;omega,L++[j],D ||| S.aK j,tl,rfl,by simp at hLt ⊢;omega,yK hO hjL hj fun q hq=>?_,yj hD (by omega),y7 hG (by omega) (by rw[hpj];exact hsub),by simp[sx,St,h0],hu2⟩
     rw[hpj] at hq;exact (hD.2 q).1 (hsub q hq)
    ·have hns:¬Sub (Par p j) D:=fun h=>c2 (by
      have:=ro.2 h
      rw[hpj] at this
      simp[S.bf] at this
      simp[this])
     simp only[sz,simprocAttr,h0,h16,h4,h5,h18,h17,b1,b2,b3,ra,hjl,hjr,cu,c1,c2,St]
     exact next (.inr hns)
   ·simp only[sz,simprocAttr,h0,h16,h4,h5,h18,h17,b1,b2,ra,hjl,hjr,cu,c1,St]
    exact next (.inl (by rw[hbit,decide_eq_false c1];rfl))
  ·rintro t df g' ⟨rfl,rfl,-,hall⟩
   obtain ⟨v0,hv0,hv0'⟩:=Ch hO hlt2
   have hac:S.aT p=false:=by
    cases hc:S.aT p with
    | false=>rfl
    | true =>
     have:=rD hp hc (T:=D) (fun v hv hb=>by
      rcases hall v hv with h | h
      ·rw[h] at hb;cases hb
      ·exact h) v0 hv0
     exact absurd ((hD.2 v0).1 this) hv0'
   simp only[sz,simprocAttr,jj]
   exact ⟨fun _=>True,[],.nils,.bool false,rfl,⟨.nils,rfl,by show 0<9223372036854775808;decide,rfl⟩,dJ.2 (by rw[hac])⟩
 ·have hge:p.length<=L.length:=by simp at hb;omega
  have htl:tl=[]:=List.eq_nil_of_length_eq_zero (by omega)
  subst htl
  have hfull:=xS hO hge
  have hac:=rJ hG fun v hv=>(hD.2 v).2 (hfull.1 v hv)
  simp only[sz,simprocAttr,jn,h4]
  refine ⟨fun _=>True,L.map (fun i:Nat=>(i:Int)),_,_,rfl,⟨_,rfl,by simp;omega,trivial,_,hu.rows,All2.of_map (fun a=>a9.2 rfl) _⟩,dJ.2 (by rw[hac])⟩
theorem x6 {C:Cfg}{d id nt:Nat}{t:T}{ps:List Nat}{assign body:Code}{a b:SC}{dfr:Nat}{args:List AV}{g:G}{K:AV->G->Prop}{D:ADf->Prop}{t':T}
  (hg:g.h.get id=.loop nt t ps assign body dfr .ready none) (ha:cI C nt assign=a) (hb:cI C nt body=b) (hp:cA t nt ps args=some t')
  (h:wp C d (some id) a (fun e t1 df g1=>e=.norm/\df=[]/\g1=g /\
   wp C d (some id) b (fun e _ df g2=>df=[]/\g2.h.get id=.loop nt t ps assign body dfr .busy none/\((e=.norm/\K (.bool true) (g2.put id (.loop nt t ps assign body dfr .ready none)))\/(e=.ret/\K (.bool false) (g2.put id (.loop nt t ps assign body dfr .done (some .ret))))))
    t1 [] (g.put id (.loop nt t ps assign body dfr .busy none))) t' [] g) :
  (bP (I C) d id args g).sat K g D:=by
 subst ha;subst hb
 unfold bP
 rw[show g.get id=_ from hg]
 dsimp only
 rw[hp]
 dsimp only
 have h1:=kI h
 cases hc:(I C).code nt d (some id) assign t' [] g with
 | fail=>rw[hc] at h1;exact h1.elim
 | ok e t1 df g1 =>
  rw[hc] at h1
  obtain ⟨rfl,rfl,rfl,h2⟩:=h1
  dsimp only
  rw[show g1.get id=_ from hg]
  dsimp only
  have h3:=kI h2
  cases hc2:(I C).code nt d (some id) body t1 [] (g1.put id (.loop nt t ps assign body dfr .busy none)) with
  | fail=>rw[hc2] at h3;exact h3.elim
  | ok e t2 df2 g2 =>
   rw[hc2] at h3
   obtain ⟨rfl,h4,h5⟩:=h3
   dsimp only
   rw[show g2.get id=_ from h4]
   rcases h5 with ⟨rfl,h5⟩ | ⟨rfl,h5⟩<;>exact h5
theorem pg {C:Cfg}{d nt:Nat}{f:Od}{ps:List Nat}{a b:SC}{Q:QT}{t:T}{df:List ADf}{g:G}{fn:Nat}{first cap:List AV}{s:SF}(hv:f.get t=.clo fn first cap)(he:C.ext fn=none)(hs:nFn C fn=some s)
  (hl:(first++(.yld (g.nx+1)::cap)).length<=s.nt)
  (h:∀assign body,cI C nt assign=a->cI C nt body=b ->
   wp C d none s.code (fnQ C d s.res fun _ g2=>∃nt' t' ps' as' bd' dfr',(g2.h.get (g.nx+1)=.loop nt' t' ps' as' bd' dfr' .ready none/\Q .norm t (.mark g.nx::df) (g2.put (g.nx+1) (.loop nt' t' ps' as' bd' dfr' .exhausted none))) \/
     (g2.h.get (g.nx+1)=.loop nt' t' ps' as' bd' dfr' .done (some .ret)/\Q .ret t (.mark g.nx::df) (g2.put (g.nx+1) (.loop nt' t' ps' as' bd' dfr' .exhausted (some .ret)))))
    (bI 0 (first++(.yld (g.nx+1)::cap)) .nil) [] ((g.new (.dfr true)).new (.loop nt t ps assign body g.nx .ready none))) :
  wp C d none (.rng nt f ps a b) Q t df g:=by
 intro assign body ha hb
 have h:=mF hs hl (h assign body ha hb)
 show (bG C (I C) nt d none (f.get t) ps assign body t (.mark g.nx::df) g.nx (g.new (.dfr true))).sat Q
 rw[hv]
 unfold bG
 dsimp only
 rw[he]
 show (match (I C).call d fn (first++(AV.yld (g.nx+1)::cap)) ((g.new (.dfr true)).new (.loop nt t ps assign body g.nx .ready none)) with
  | .ok _ g2=>cB (I C) nt d none (g.nx+1) t (.mark g.nx::df) g2
  | .fail=>.fail).sat Q
 cases hc:(I C).call d fn (first++(AV.yld (g.nx+1)::cap)) ((g.new (.dfr true)).new (.loop nt t ps assign body g.nx .ready none)) with
 | fail=>rw[hc] at h;exact h.elim
 | ok v g2 =>
  rw[hc] at h
  obtain ⟨nt',t',ps',as',bd',dfr',h⟩:=h
  show (cB (I C) nt d none (g.nx+1) t (.mark g.nx::df) g2).sat Q
  unfold cB
  rcases h with ⟨h1,h2⟩ | ⟨h1,h2⟩
  ·rw[show g2.get (g.nx+1)=_ from h1]
   exact h2
  ·rw[show g2.get (g.nx+1)=_ from h1]
   dsimp only
   rw[vA]
   exact h2
def RwV (x:Node):VS:=fun P k h v=>∃p,v=.clo N.ae [] [p] /\
 ((∃id cs,p=.hptr id 0 0 0/\P id/\h.get id=.cells 3 [cs] 0 false false/\Rp.rp P k h x cs)\/∃t cs,p=.tptr t 3 [cs] 0 0/\t<=k/\Rp.rp NoP k .nil x cs)
theorem Dy (x:Node):Snb (RwV x) 2:=by
 refine ⟨fun {P k h v n} d r hn=>?_,fun {k h v n} r hn=>?_⟩
 ·obtain ⟨p,rfl,r⟩:=r
  obtain ⟨n,rfl⟩:∃q,n=q+2:=⟨n - 2,by omega⟩
  rcases r with ⟨id,cs,rfl,-,hg,r⟩ | ⟨t,cs,rfl,ht,r⟩
  ·obtain ⟨cs',e,r'⟩:=Rp.snap (n:=n) d r (by show (_:Nat)<=n;exact Nat.le_trans (show Rp.dp Node<=20 by decide) (by omega)) (by decide)
   obtain ⟨m,e2,l2⟩:=Rp.tag (n:=ak) r' (by decide)
   refine ⟨.clo N.ae [] [.tptr (Nat.max d (Nat.max m 0)) 3 [cs'] 0 0],?_,_,rfl,.inr ⟨_,cs',rfl,?_,r'⟩⟩
   ·have:Hx.snap h d (n+1) (.hptr id 0 0 0)=some (.tptr (Nat.max d (Nat.max m 0)) 3 [cs'] 0 0):=by
     simp only[Hx.snap,hg,show Nat.beq 0 0=true from rfl,aD,e,dl,dP,e2]
    simp only[Hx.snap,aD] at this ⊢
    rw[this]
   ·show max d (max m 0)<=max k d
    omega
  ·refine ⟨.clo N.ae [] [.tptr t 3 [cs] 0 0],rfl,_,rfl,.inr ⟨t,cs,rfl,by omega,Rp.mono r (fun i hi=>hi.elim) (by omega)⟩⟩
 ·obtain ⟨p,rfl,r⟩:=r
  obtain ⟨n,rfl⟩:∃q,n=q+2:=⟨n - 2,by omega⟩
  rcases r with ⟨id,cs,rfl,hP,-⟩ | ⟨t,cs,rfl,ht,r⟩
  ·exact hP.elim
  ·exact ⟨Nat.max t 0,rfl,by show max t 0<=k;omega⟩
theorem oE {d:Nat}{g:G}{v:AV}{x:Node}(hd:0<d)(hm:Agg x NoP 0 g.h v) :
  ∃pa ra,aO C0 d N.an [v] g=.val (.clo N.ae [] [.tptr 0 3 [[.int .i64 x.card,pa,ra]] 0 0])/\SlR NoP 0 .nil x.parents pa/\SlR NoP 0 .nil x.rows ra:=by
 have e0:=gZ d hm
 obtain ⟨cs,rfl,hc⟩:=hm
 obtain ⟨a,b,rfl,hR,hN⟩:=eR.1 hc
 have key:∃r,aO C0 d N.an [.agg [.int .i64 x.card,a,b]] g=.val r/\RwV x NoP 0 .nil r:=by
  rw[qo]
  refine fy tB (xs:=[.agg [.int .i64 x.card,a,b]]) (by simp only[aD,e0]) (by simp[lL]) (Dy x) (by decide) hd ?_
  simp only[sz,simprocAttr,lL,mG]
  exact ⟨fun _=>True,_,rfl,.inl ⟨0,_,rfl,trivial,by simp[sx],Rp.tree hc (Nat.le_refl _)⟩⟩
 obtain ⟨r,h1,p,rfl,h2⟩:=key
 rcases h2 with ⟨id,cs,rfl,hP,-⟩ | ⟨t,cs,rfl,ht,hr⟩
 ·exact hP.elim
 ·have:t=0:=by omega
  subst this
  obtain ⟨a',b',rfl,hR',hN'⟩:=eR.1 hr
  exact ⟨a',b',h1,hR',hN'⟩
theorem mg (fo l sz i off:Nat)(rows:List (List AV)):Bb fo (.tptr l sz rows i off)=.val (.tptr l sz rows i (off+fo)):=rfl
theorem A6 {d id:Nat}{c:Int}{pa ra:AV}{rws:List (List Int)}{g0:G}{K:AV->G->Prop}(hra:SlR NoP 0 .nil rws ra)(J:Nat->H->Prop)(E:G->Prop)
  (step:∀(j:Nat) (r:List Int) (z:AV) (g:G) (K':AV->G->Prop) (D:ADf->Prop),rws[j]?=some r->SlR NoP 0 .nil r z->g0.nx<=g.nx->J j g.h ->
   (∀g',J (j+1) g'.h->g.nx<=g'.nx->K' (.bool true) g')->(∀g',E g'->K' (.bool false) g')->(bP (I C0) d id [.int .i64 (j:Int),z] g).sat K' g D)
  (h0:J 0 g0.h) (fin:∀g',J rws.length g'.h->g0.nx<=g'.nx->K (.tup []) g') (finE:∀g',E g'->K (.tup []) g') :
  wp C0 d none dm.code (fnQ C0 d dm.res K) (bI 0 [.yld id,.tptr 0 3 [[.int .i64 c,pa,ra]] 0 0] .nil) [] g0:=by
 obtain ⟨rr,s1,s2,s3,s4⟩:=w8 hra
 simp only[sz,simprocAttr,dm,jp,mg,gx,hra.len]
 refine a7 (m:=rws.length) hra.1 (fun j t df g=>df=[]/\St t [(0,.yld id),(6,ra)]/\J j g.h/\g0.nx<=g.nx) ⟨rfl,by simp[St,sx],h0,Nat.le_refl _⟩ (by simp[sx]) (by simp[sx]) (by decide) (by rintro j t df g v s (rfl | rfl | rfl)<;>simp[St,sx]) ?_ ?_
 ·rintro j t df g hj ⟨rfl,⟨h0,h6,-⟩,hJ,hn⟩ h8 h7
  obtain ⟨r,hr,-,-⟩:=aG hj
  obtain ⟨z,q2,q3,hz⟩:=s3 j r hr
  have hry:=s4 (by omega)
  simp only[sz,simprocAttr,h0,h6,h8,s1,q2,q3]
  show (bP (I C0) d id [.int .i64 (j:Int),z] g).sat _ _ _
  refine step j r z g _ _ hr hz hn hJ (fun g' hJ' hn'=>?_) fun g' hE=>?_
  ·simp only[sz,simprocAttr,h7,h8]
   simp[St,sx,h0,h6,hJ',Nat.le_trans hn hn']
  ·simp only[sz,simprocAttr]
   exact finE g' hE
 ·rintro t df g ⟨rfl,-,hJ,hn⟩
  simp only[sx,↓reduceIte]
  exact fin g hJ hn
theorem u0:C0.ext N.ae=none:=by kernel_rfl
structure RowQ (b:Nat) (g2 g3:G) (e:Ex) (A B:Prop):Prop where
 nx:g2.nx<=g3.nx
 fr:∀i,b<=i->i<g2.nx->g3.h.get i=g2.h.get i
 st:(e=.norm/\A)\/(e=.ret/\B)
theorem tk {d nt y p q:Nat}{c:Int}{pa ra:AV}{rws:List (List Int)}{ca cb:SC}{Q:QT}{t:T}{g:G}(hra:SlR NoP 0 .nil rws ra)(hv:tat t y=.clo N.ae [] [.tptr 0 3 [[.int .i64 c,pa,ra]] 0 0])(hp:p<nt)(hq:q<nt)
  (J:Nat->H->Prop) (E:H->Prop) (hJ:∀j h h',(∀i,i<g.nx->h'.get i=h.get i)->J j h->J j h') (hE:∀h h',(∀i,i<g.nx->h'.get i=h.get i)->E h->E h') (h0:J 0 g.h)
  (step:∀(j:Nat) (r:List Int) (z:AV) (g1:G),rws[j]?=some r->SlR NoP 0 .nil r z->J j g1.h->g.nx+2<=g1.nx ->
   wp C0 d (some (g.nx+1)) ca (fun e t1 df g1'=>e=.norm/\df=[]/\g1'=g1/\∀g2:G,g2.nx=g1.nx->(∀i,i≠g.nx+1->g2.h.get i=g1.h.get i) ->
    wp C0 d (some (g.nx+1)) cb (fun e _ df g3=>df=[]/\RowQ g.nx g2 g3 e (J (j+1) g3.h) (E g3.h)) t1 [] g2)
    (fL (fL t p (.int .i64 (j:Int))) q z) [] g1)
  (fin:∀g',J rws.length g'.h->g.nx+2<=g'.nx->g'.h.get g.nx=.dfr true->Q .norm t [.mark g.nx] g')
  (finE:∀g',E g'.h->g.nx+2<=g'.nx->g'.h.get g.nx=.dfr true->Q .ret t [.mark g.nx] g') :
  wp C0 d none (.rng nt (.t y) [p,q] ca cb) Q t [] g:=by
 refine pg (fn:=N.ae) (first:=[]) (cap:=[.tptr 0 3 [[.int .i64 c,pa,ra]] 0 0]) (s:=dm) hv u0 qq (by simp[dm]) ?_
 intro assign body ha hb
 have e1:((g.new (.dfr true)).new (.loop nt t [p,q] assign body g.nx .ready none)).nx=g.nx+2:=by simp
 refine A6 (g0:=(g.new (.dfr true)).new (.loop nt t [p,q] assign body g.nx .ready none)) (id:=g.nx+1) hra
  (fun j h=>J j h/\h.get g.nx=.dfr true/\h.get (g.nx+1)=.loop nt t [p,q] assign body g.nx .ready none)
  (fun g'=>E g'.h/\g'.h.get g.nx=.dfr true/\g'.h.get (g.nx+1)=.loop nt t [p,q] assign body g.nx .done (some .ret)/\g.nx+2<=g'.nx) ?_ ?_ ?_ ?_
 ·rintro j r z g1 K' D hr hz hn ⟨a1,a2,a3⟩ kk kE
  rw[e1] at hn
  refine x6 a3 ha hb (t':=fL (fL t p (.int .i64 (j:Int))) q z) ?_ ?_
  ·simp only[cA,aa,Nat.blt_eq,if_pos hp,if_pos hq];rfl
  ·refine f_ _ (step j r z g1 hr hz a1 (by omega)) ?_
   rintro e t1 df g1' ⟨rfl,rfl,rfl,h⟩
   refine ⟨rfl,rfl,rfl,?_⟩
   have hl:g.nx+1<g1'.nx:=by omega
   refine f_ _ (h (g1'.put (g.nx+1) (.loop nt t [p,q] assign body g.nx .busy none)) (by simp) (fun i hi=>by simp[H.get_put,hi])) ?_
   rintro e t2 df g3 ⟨rfl,⟨b2,b3,b1⟩⟩
   have b4:g3.h.get (g.nx+1)=.loop nt t [p,q] assign body g.nx .busy none:=by rw[b3 _ (by omega) (by simpa using hl)];simp[H.get_put]
   have b5:g3.h.get g.nx=.dfr true:=by
    rw[b3 _ (by omega) (by simp;omega)];simp[H.get_put,a2]
   refine ⟨rfl,b4,?_⟩
   rcases b1 with ⟨rfl,b1⟩ | ⟨rfl,b1⟩
   ·refine .inl ⟨rfl,kk _ ⟨hJ _ g3.h _ (fun i hi=>by simp[H.get_put,show ¬i=g.nx+1 by omega]) b1,?_,?_⟩ (by simpa using b2)⟩
    ·simp[H.get_put,b5]
    ·simp[H.get_put]
   ·refine .inr ⟨rfl,kE _ ⟨hE g3.h _ (fun i hi=>by simp[H.get_put,show ¬i=g.nx+1 by omega]) b1,?_,?_,?_⟩⟩
    ·simp[H.get_put,b5]
    ·simp[H.get_put]
    ·simp at b2 ⊢;omega
 ·refine ⟨hJ 0 g.h _ (fun i hi=>?_) h0,?_,?_⟩
  ·simp[H.get_put,show ¬i=g.nx+1 by omega,show ¬i=g.nx by omega]
  ·simp[H.get_put]
  ·simp[H.get_put]
 ·rintro g' ⟨a1,a2,a3⟩ hn
  rw[e1] at hn
  refine ⟨_,_,_,_,_,_,.inl ⟨a3,fin _ (hJ _ g'.h _ (fun i hi=>by simp[H.get_put,show ¬i=g.nx+1 by omega]) a1) (by simpa using hn) ?_⟩⟩
  simp[H.get_put,a2]
 ·rintro g' ⟨a1,a2,a3,hn⟩
  refine ⟨_,_,_,_,_,_,.inr ⟨a3,finE _ (hE g'.h _ (fun i hi=>by simp[H.get_put,show ¬i=g.nx+1 by omega]) a1) (by simpa using hn) ?_⟩⟩
  simp[H.get_put,a2]
abbrev NwM:Type:=Net×List Int×List Nat×List Int
theorem nI {P:Nat->Prop}{k:Nat}{h:H}{x:NwM}{cs:List AV}:Rp.rp P k h x cs↔∃a b c e,cs=[.int .i64 x.1.grain,a,b,c,e]/\SlR P k h x.1.nodes a/\SlR P k h x.2.1 b/\SlR P k h x.2.2.1 c/\SlR P k h x.2.2.2 e:=by
 constructor
 ·rintro ⟨c1,c2,rfl,h1,c3,c4,rfl,⟨b,rfl,hb⟩,c5,c6,rfl,⟨c,rfl,hc⟩,⟨e,rfl,he⟩⟩
  obtain ⟨a,rfl,ha⟩:=mX.1 h1
  exact ⟨a,b,c,e,rfl,ha,hb,hc,he⟩
 ·rintro ⟨a,b,c,e,rfl,ha,hb,hc,he⟩
  exact ⟨[_,a],[b,c,e],rfl,mX.2 ⟨a,rfl,ha⟩,[b],[c,e],rfl,⟨b,rfl,hb⟩,[c],[e],rfl,⟨c,rfl,hc⟩,⟨e,rfl,he⟩⟩
theorem sE:∀{l:List Int},(∀x∈l,0<=x)->0<=l.sum
 | [],_=>by simp
 | x::l,h=>by
  have:=sE (l:=l) fun y hy=>h y (by simp[hy])
  have:=h x (by simp)
  rw[List.sum_cons];omega
theorem ut {l:List Int}(h:∀x∈l,0<=x)(j:Nat):(l.take j).sum<=l.sum:=by
 have:=sE (l:=l.drop j) fun x hx=>h x (List.mem_of_mem_drop hx)
 have e:l.sum=(l.take j).sum+(l.drop j).sum:=by rw[<-List.sum_append,List.take_append_drop]
 omega
theorem pC:∀{l:List Int},(∀x∈l,0<=x)->∀x∈l,x<=l.sum
 | [],_,x,hx=>by simp at hx
 | y::l,h,x,hx=>by
  have h1:=sE (l:=l) fun z hz=>h z (by simp[hz])
  have h2:=h y (by simp)
  rw[List.sum_cons]
  rcases List.mem_cons.1 hx with rfl | hx
  ·omega
  ·have:=pC (l:=l) (fun z hz=>h z (by simp[hz])) x hx;omega
def S.aR (gr:Int)(cs:List Int)(x:Node):Bool:=decide ((x.rows.length:Int)=S.af (S.ae cs x.parents))&&x.rows.all (S.aH gr x.card)
structure FJ (gr:Int) (r:List Int) (z:AV) (j:Nat) (t:T):Prop where
 st:St t [(2,.hptr 0 0 0 0),(3,.hptr 1 0 0 0),(4,.hptr 2 0 0 0),(9,z),(40,z),(10,.int .i64 (gr - (r.take j).sum))]
 nn:∀x∈r.take j,0<=x
 le:(r.take j).sum<=gr
theorem xL {d:Nat}{rd:Option Nat}{gr:Int}{r:List Int}{z:AV}{Q:QT}{t:T}{g:G}(hz:SlR NoP 0 .nil r z)(hg1:1<=gr/\gr<=60)
  (ht:St t [(2,.hptr 0 0 0 0),(3,.hptr 1 0 0 0),(4,.hptr 2 0 0 0),(9,z),(40,z),(10,.int .i64 gr)]) (h42:tat t 42=.int .i64 0) (h41:tat t 41=.int .i64 (r.length:Int)) (e2:g.h.get 2=.cells 1 [[.bool false]] 0 false false)
  (bad:∀t,(∀card,S.aH gr card r=false)->Q .ret t [] (g.put 2 (.cells 1 [[.bool false]] 0 false false)))
  (fin:∀t,(∀x∈r,0<=x)->r.sum<=gr->St t [(2,.hptr 0 0 0 0),(3,.hptr 1 0 0 0),(4,.hptr 2 0 0 0),(9,z),(10,.int .i64 (gr - r.sum))]->Q (.exit 4) t [] g) :
  wpL (wp C0 d rd co) Q t [] g:=by
 have rz:=fun h=>(hz.tree (h':=h) (Nat.le_refl 0)).ints
 simp only[co]
 refine a7 (m:=r.length) hz.1 (fun j t df g'=>df=[]/\g'=g/\FJ gr r z j t) ⟨rfl,rfl,by simpa using ht,by simp,by simp;omega⟩ h42 h41 (by decide)
  (by rintro j t df g v s (rfl | rfl | rfl) ⟨a1,a2,⟨b1,b2,b3,b4,b5,b6,-⟩,b7,b8⟩<;>exact ⟨a1,a2,by simp[St,sx,b1,b2,b3,b4,b5,b6],b7,b8⟩) ?_ ?_
 ·rintro j t df g' hj ⟨rfl,rfl,⟨⟨h2,h3,h4,h9,h40,h10,-⟩,hnn,hle⟩⟩ h42 h41
  obtain ⟨y,hy,htk,hm⟩:=aG hj
  have u1:j<(r.map ci).length:=by simpa using hj
  have u2:(r.map ci)[j]?=some (ci y):=by rw[List.getElem?_map,hy];rfl
  have hs0:=sE hnn
  by_cases c1:y<0
  ·simp only[sz,simprocAttr,h4,h40,h42,rz,u1,u2,ci,c1,e2]
   exact bad _ (fun card=>by
    rw[<-Bool.not_eq_true,S.aH]
    simp only[Bool.and_eq_true,decide_eq_true_eq,List.all_eq_true]
    rintro ⟨⟨-,h⟩,-⟩
    have:=h y hm;omega)
  ·by_cases c2:gr - (r.take j).sum<y
   ·simp only[sz,simprocAttr,h4,h40,h10,h42,rz,u1,u2,ci,c1,c2,e2]
    exact bad _ (fun card=>by
     rw[<-Bool.not_eq_true,S.aH]
     simp only[Bool.and_eq_true,decide_eq_true_eq,List.all_eq_true]
     rintro ⟨⟨-,h⟩,hs⟩
     have h1:=ut (l:=r) (fun x hx=>(h x hx).1) (j+1)
     rw[htk,oD] at h1
     omega)
   ·have w1:IntKind.wrap .i64 (gr - (r.take j).sum - y)=gr - (r.take (j+1)).sum:=by
     rw[bc (by omega) (by omega),htk,oD];omega
    simp only[sz,simprocAttr,h40,h10,h42,h41,rz,u1,u2,ci,c1,c2,w1]
    refine ⟨by simp[St,sx,h2,h3,h4,h9,h40],fun x hx=>?_,by rw[htk,oD];omega⟩
    rw[htk] at hx
    rcases List.mem_append.1 hx with h | h
    ·exact hnn x h
    ·rw[List.mem_singleton.1 h];omega
 ·rintro t df g' ⟨rfl,rfl,⟨⟨h2,h3,h4,h9,h40,h10,-⟩,hnn,hle⟩⟩
  rw[List.take_length] at hnn hle h10
  exact fin t hnn hle ⟨h2,h3,h4,h9,h10,trivial⟩
structure FlJ (cs1 cs2:List AV) (gr card:Int) (rws:List (List Int)) (j:Nat) (h:H):Prop where
 a0:h.get 0=.cells 5 [cs1] 0 false false
 a1:h.get 1=.cells 3 [cs2] 0 false false
 a2:h.get 2=.cells 1 [[.bool false]] 0 false false
 all:∀r∈rws.take j,S.aH gr card r=true
structure FlE (gr card:Int) (rws:List (List Int)) (h:H):Prop where
 a2:h.get 2=.cells 1 [[.bool false]] 0 false false
 ex:∃r∈rws,S.aH gr card r=false
theorem yI {d k1 k2:Nat}{g:G}{P1 P2:Nat->Prop}{v w:AV}{m:NwM}{x:Node}(hd:0<d)(hm:Agg m P1 k1 g.h v)(hx:Agg x P2 k2 g.h w)(hk:k2=0/\P2=NoP)(hg1:1<=m.1.grain/\m.1.grain<=60)(hc:∀c∈m.2.1,1<=c/\c<=4)
  (hp:∀p∈x.parents,0<=p/\p<m.2.1.length) (hpl:x.parents.length<=8):aO C0 d N.aw [v,w] g=.val (.bool (S.aR m.1.grain m.2.1 x)):=by
 obtain ⟨rfl,rfl⟩:=hk
 obtain ⟨v',e1,cs,rfl,hcs⟩:=zY (oe m) (by decide) d hm
 obtain ⟨nb,cb,sb,ob,rfl,-,hcb,-,-⟩:=nI.1 hcs
 have e2:=gZ d hx
 obtain ⟨cs2,rfl,hcs2⟩:=hx
 obtain ⟨pa,ra,rfl,hpa,hra⟩:=eR.1 hcs2
 have hcs2':∀h,Agg x NoP 0 h (.agg [.int .i64 x.card,pa,ra]):=fun h=>⟨_,rfl,Rp.tree hcs2 (Nat.le_refl _)⟩
 have hra:=hra.tree (h':=.nil) (Nat.le_refl 0)
 have rp:=fun h=>(hpa.tree (h':=h) (Nat.le_refl 0)).ints
 have rc:=fun h=>(hcb.tree (h':=h) (Nat.le_refl _)).ints
 have pl:=fun g=>(hpa.tree (h':=.nil) (Nat.le_refl 0)).len g
 have rl:=fun g=>hra.len g
 rw[iG]
 refine jL ju (xs:=[.agg [.int .i64 m.1.grain,nb,cb,sb,ob],.agg [.int .i64 x.card,pa,ra]]) (by simp only[aD,e1,e2]) (by simp[cS]) hd ?_
 simp only[sz,simprocAttr,cS]
 obtain ⟨g0,hg0⟩:∃g0,g0=((G.empty.new (.cells 5 [[.int .i64 m.1.grain,nb,cb,sb,ob]] 0 false false)).new (.cells 3 [[.int .i64 x.card,pa,ra]] 0 false false)).new (.cells 1 [[.bool false]] 0 false false):=⟨_,rfl⟩
 rw[<-hg0]
 have f0:g0.h.get 0=.cells 5 [[.int .i64 m.1.grain,nb,cb,sb,ob]] 0 false false:=by rw[hg0];simp[sx,H.get_put]
 have f1:g0.h.get 1=.cells 3 [[.int .i64 x.card,pa,ra]] 0 false false:=by rw[hg0];simp[sx,H.get_put]
 have f2:g0.h.get 2=.cells 1 [[.bool false]] 0 false false:=by rw[hg0];simp[sx]
 have f3:g0.nx=3:=by rw[hg0];simp[sx]
 clear hg0
 simp only[sz,simprocAttr,eI,f1,pl,dT]
 refine a7 (m:=x.parents.length) (by omega) (fun j t df g=>df=[]/\g=g0/\St t [(2,.hptr 0 0 0 0),(3,.hptr 1 0 0 0),(4,.hptr 2 0 0 0),(14,pa),(5,.int .i64 (S.af (S.ae m.2.1 (x.parents.take j))))])
  ⟨rfl,rfl,by simp[St,sx,S.af,S.ae]⟩ (by simp[sx]) (by simp[sx]) (by decide) (by rintro j t df g v s (rfl | rfl | rfl)<;>simp[St,sx]) ?_ ?_
 ·rintro j t df g hj ⟨rfl,rfl,⟨h2,h3,h4,h14,h5,-⟩⟩ h16 h15
  obtain ⟨p,hpj,htk,hm2⟩:=aG hj
  obtain ⟨p0,p1⟩:=hp p hm2
  obtain ⟨p,rfl⟩:=Int.eq_ofNat_of_zero_le p0
  have hpl2:p<m.2.1.length:=by omega
  have u1:j<(x.parents.map ci).length:=by simpa using hj
  have u2:(x.parents.map ci)[j]?=some (ci (p:Int)):=by rw[List.getElem?_map,hpj];rfl
  have u3:p<(m.2.1.map ci).length:=by simpa using hpl2
  have u4:(m.2.1.map ci)[p]?=some (ci m.2.1[p]):=by rw[List.getElem?_map,List.getElem?_eq_getElem hpl2];rfl
  have e3:S.af (S.ae m.2.1 (x.parents.take (j+1)))=S.af (S.ae m.2.1 (x.parents.take j))*m.2.1[p]:=by
   rw[htk,bH,iO]
   congr 1
   simp[S.ae,S.af,List.getElem?_eq_getElem hpl2]
  have hpb:=cE (l:=S.ae m.2.1 (x.parents.take (j+1))) (aY hc fun q hq=>hp q (List.mem_of_mem_take hq))
  have hp4:=fe (a:=(S.ae m.2.1 (x.parents.take (j+1))).length) (b:=8) (by simp[S.ae];omega)
  have h48:(4:Int) ^ 8=65536:=by decide
  have w1:IntKind.wrap .i64 (S.af (S.ae m.2.1 (x.parents.take j))*m.2.1[p])=S.af (S.ae m.2.1 (x.parents.take (j+1))):=by rw[<-e3,bc (by omega) (by omega)]
  simp only[sz,simprocAttr,h2,h14,h5,h16,h15,f0,rp,rc,u1,u2,u3,u4,ci,w1]
  simp[St,sx,h2,h3,h4,h14]
 rintro t df g ⟨rfl,rfl,⟨h2,h3,h4,h14,h5,-⟩⟩
 rw[List.take_length] at h5
 simp only[dY]
 by_cases c1:(x.rows.length:Int)=S.af (S.ae m.2.1 x.parents)
 ·obtain ⟨pa',ra',er,hpa',hra'⟩:=oE (d:=d+1) (g:=g) (Nat.succ_pos d) (hcs2' g.h)
  refine kV (P:=fun t' df g'=>df=[]/\g'=g/\St t' [(2,.hptr 0 0 0 0),(3,.hptr 1 0 0 0),(4,.hptr 2 0 0 0)]) ?_ ?_
  ·simp only[sz,simprocAttr,h3,h5,f1,rl,c1]
   simp[St,sx,h2,h3,h4]
  clear h2 h3 h4 h5 h14
  rintro t df g ⟨rfl,rfl,h2,h3,h4,-⟩
  rw[cM,cM]
  simp only[sz,simprocAttr,h3,f1,er]
  refine tk (c:=x.card) (pa:=pa') hra' (by simp[sx]) (by decide) (by decide)
   (FlJ [.int .i64 m.1.grain,nb,cb,sb,ob] [.int .i64 x.card,pa,ra] m.1.grain x.card x.rows)
   (FlE m.1.grain x.card x.rows) ?_ ?_ ⟨f0,f1,f2,by simp⟩ ?_ ?_ ?_
  ·rintro j h h' hh ⟨a0,a1,a2,a3⟩
   exact ⟨by rw[hh 0 (by omega),a0],by rw[hh 1 (by omega),a1],by rw[hh 2 (by omega),a2],a3⟩
  ·rintro h h' hh ⟨a2,a3⟩
   exact ⟨by rw[hh 2 (by omega),a2],a3⟩
  ·rintro j r z g1 hr hz ⟨a0,a1,a2,a3⟩ hn
   obtain ⟨r',hr',htk,hrm⟩:=aG (l:=x.rows) (j:=j) (List.getElem?_eq_some_iff.1 hr).1
   rw[hr] at hr';injection hr' with hr';subst hr'
   simp only[sz,simprocAttr,dZ]
   intro g2 hg2n hg2
   have b0:g2.h.get 0=.cells 5 [[.int .i64 m.1.grain,nb,cb,sb,ob]] 0 false false:=by rw[hg2 0 (by omega),a0]
   have b1:g2.h.get 1=.cells 3 [[.int .i64 x.card,pa,ra]] 0 false false:=by rw[hg2 1 (by omega),a1]
   have b2:g2.h.get 2=.cells 1 [[.bool false]] 0 false false:=by rw[hg2 2 (by omega),a2]
   simp only[sz,simprocAttr,dU,h2,b0,hz.len]
   refine xL (gr:=m.1.grain) (r:=r) (z:=z) hz hg1 (by simp[St,sx,h2,h3,h4]) (by simp[sx]) (by simp[sx]) b2 ?_ ?_
   ·rintro t hrow
    simp only[sx,sy]
    exact ⟨by simp,fun i h1 h2=>by simp[H.get_put,show ¬i=2 by omega],.inr ⟨rfl,by simp[H.get_put],r,hrm,hrow _⟩⟩
   ·rintro t hnn hle ⟨h2,h3,h4,h9,h10,-⟩
    have hzl:=fun g=>hz.len g
    by_cases c2:(r.length:Int)=x.card
    ·by_cases c3:m.1.grain - r.sum=0
     ·simp only[sz,simprocAttr,bp,h3,h9,h10,hzl,b1,c2,c3]
      refine ⟨Nat.le_refl _,fun i _ _=>rfl,.inl ⟨rfl,b0,b1,b2,fun y hy=>?_⟩⟩
      rw[htk] at hy
      rcases List.mem_append.1 hy with h | h
      ·exact a3 y h
      ·rw[List.mem_singleton.1 h,S.aH]
       simp only[Bool.and_eq_true,decide_eq_true_eq,List.all_eq_true]
       exact ⟨⟨c2,fun q hq=>⟨hnn q hq,by have:=pC hnn q hq;omega⟩⟩,by omega⟩
     ·have hro:S.aH m.1.grain x.card r=false:=by rw[S.aH];simp;intros;omega
      simp only[sz,simprocAttr,bp,h3,h4,h9,h10,hzl,b1,b2,c2,c3]
      exact ⟨by simp,fun i h1 h2=>by simp[H.get_put,show ¬i=2 by omega],.inr ⟨rfl,by simp[H.get_put],r,hrm,hro⟩⟩
    ·have hro:S.aH m.1.grain x.card r=false:=by rw[S.aH];simp[c2]
     simp only[sz,simprocAttr,bp,h3,h4,h9,hzl,b1,b2,c2]
     exact ⟨by simp,fun i h1 h2=>by simp[H.get_put,show ¬i=2 by omega],.inr ⟨rfl,by simp[H.get_put],r,hrm,hro⟩⟩
  ·rintro g' ⟨a0,a1,a2,a3⟩ hn hdf
   rw[List.take_length] at a3
   have hok:S.aR m.1.grain m.2.1 x=true:=by rw[S.aR,List.all_eq_true.2 a3];simp[c1]
   simp only[sz,simprocAttr,dS,h4,a2]
   refine mZ (by simp[H.get_put,show ¬g.nx=2 by omega,hdf]) ?_
   simp only[sx,sy,↓reduceIte,Nat.reduceEqDiff,h4,hok]
   simp[show ¬(2=g.nx) by omega]
   rfl
  ·rintro g' ⟨a2,r,hr,hro⟩ hn hdf
   have hok:S.aR m.1.grain m.2.1 x=false:=by
    rw[S.aR]
    have:x.rows.all (S.aH m.1.grain x.card)=false:=by
     rw[<-Bool.not_eq_true,List.all_eq_true]
     intro h
     rw[h r hr] at hro;cases hro
    rw[this,Bool.and_false]
   simp only[sx]
   refine mZ hdf ?_
   simp only[sx,sy,↓reduceIte,Nat.reduceEqDiff,h4,hok]
   rw[if_neg (by omega),a2]
   rfl
 ·simp only[sz,simprocAttr,h3,h4,h5,f1,f2,rl,c1]
  rw[S.aR];simp[c1]
theorem rH:∀{l:List Int} {v:Nat},(∀x∈l,0<=x/\x<64)->((S.am l).testBit v=true↔(v:Int)∈l):=by
 have key:∀(l:List Int) (s v:Nat),(∀x∈l,0<=x/\x<64)->((l.foldl (fun s x=>s ||| S.aK x.toNat) s).testBit v=true↔s.testBit v=true\/(v:Int)∈l):=by
  intro l
  induction l with
  | nil=>intro s v _;simp
  | cons x l ih =>
   intro s v h
   have hx:=h x (by simp)
   rw[List.foldl_cons,ih _ _ fun y hy=>h y (by simp[hy]),lf,sB (show x.toNat<64 by omega),Bool.or_eq_true,decide_eq_true_eq,List.mem_cons]
   constructor
   ·rintro ((h | h) | h)
    ·exact .inl h
    ·exact .inr (.inl (by omega))
    ·exact .inr (.inr h)
   ·rintro (h | h | h)
    ·exact .inl (.inl h)
    ·exact .inl (.inr (by omega))
    ·exact .inr h
 intro l v h
 have:=key l 0 v h
 simpa [S.am] using this
theorem zU {l:List Int}{k:Nat}(hk:k<=64)(h:∀x∈l,0<=x/\x<k):S.am l<2 ^ k:=by
 have hb:∀i,k<=i->(S.am l).testBit i=false:=fun i hi=>by
  rw[<-Bool.not_eq_true,rH fun x hx=>by have:=h x hx;omega]
  intro hm
  have:=h _ hm
  omega
 exact Nat.lt_pow_two_of_testBit _ fun i hi=>hb i hi
structure RdH (n:Net) (b cv sv:AV) (q:Nat) (X:List Int) (Y:List Nat) (g:G):Prop where
 h0:g.h.get 0=.cells 2 [[.int .i64 n.grain,b]] 0 false false
 h1:g.h.get 1=.cells 5 [[.int .i64 0,.nils,.nils,.nils,.nils]] 0 false false
 hq:g.h.get q=.cells 5 [[.int .i64 n.grain,b,cv,sv,.nils]] 0 false false
 hc:Own g 2 cv 1 (X.map ci)
 hs:Own g 2 sv 1 (Y.map cu)
 q2:2<=q
 qn:q<g.nx
 d1:vid cv≠some q
 d2:vid sv≠some q
 d3:∀i,vid cv=some i->vid sv≠some i
theorem RdH.fr {n:Net}{b cv sv:AV}{q:Nat}{X:List Int}{Y:List Nat}{g g':G}(h:RdH n b cv sv q X Y g)(f:Fr g g'):RdH n b cv sv q X Y g' :=
 ⟨by rw[f.2 0 (by have:=h.qn;have:=h.q2;omega),h.h0],by rw[f.2 1 (by have:=h.qn;have:=h.q2;omega),h.h1],by rw[f.2 q h.qn,h.hq],h.hc.step f,h.hs.step f,h.q2,Nat.lt_of_lt_of_le h.qn f.1,h.d1,h.d2,h.d3⟩
def S.bg (n:Net)(o:List Int):NwM:=if S.aF n then (n,S.aa n,S.ak n,o) else (⟨0,[]⟩,[],[],[])
def tP (n:Net):VS:=fun P k h v=>∃o:List Int,True/\rK (Agg (S.bg n o)) (One (if S.aF n then (0:Int) else 50)) P k h v
section
variable {d:Nat}{n:Net}{b cv sv:AV}{q:Nat}{rows:List (List AV)}
def LRd (q:Nat):List (Nat×AV):=[(1,.hptr 0 0 0 0),(2,.hptr 1 0 0 0),(4,.hptr q 0 0 0)]
theorem DX {t:T}{g:G}(hn:¬NR n)(h1:g.h.get 1=.cells 5 [[.int .i64 0,.nils,.nils,.nils,.nils]] 0 false false)(t2:tat t 2=.hptr 1 0 0 0)(t3:tat t 3=.int .i64 50) :
  fnQ C0 d gz.res (fun v g'=>∃P,tP n P 0 g'.h v) .ret t [] g:=by
 have hf:S.aF n=false:=by
  cases h:S.aF n with
  | false=>rfl
  | true=>exact absurd (gW.1 h) hn
 simp only[gz,sx,sy,↓reduceIte,Nat.reduceAdd,Nat.reduceLeDiff,t2,t3,h1]
 refine ⟨fun _=>True,[],trivial,_,_,rfl,⟨_,rfl,?_⟩,?_⟩
 ·rw[S.bg,hf]
  exact nI.2 ⟨.nils,.nils,.nils,.nils,rfl,⟨by show 0<9223372036854775808;decide,rfl⟩,⟨by show 0<9223372036854775808;decide,rfl⟩,⟨by show 0<9223372036854775808;decide,rfl⟩,⟨by show 0<9223372036854775808;decide,rfl⟩⟩
 ·rw[hf];exact a9.2 rfl
structure Rd0 (n:Net) (b cv sv:AV) (q j:Nat) (t:T) (g:G):Prop where
 st:St t ((48,b)::(5,.int .i64 (S.af ((S.aa n).take j)))::LRd q)
 hp:RdH n b cv sv q ((S.aa n).take j++List.replicate (n.nodes.length - j) 0) (List.replicate n.nodes.length 0) g
 ok:∀x∈n.nodes.take j,1<=x.card/\x.card<=4
theorem B0 {Q:QT}{t:T}{g:G}(hl:n.nodes.length<=8)(hN:SlR NoP 0 .nil n.nodes b)(r1:∀h,ax h 3 b=some rows)(r2:rows.length=n.nodes.length)
  (r3:∀(i:Nat) (x:Node),n.nodes[i]?=some x->∃pa ra,rows[i]?=some [.int .i64 x.card,pa,ra]/\i<rows.length/\SlR NoP 0 .nil x.parents pa/\SlR NoP 0 .nil x.rows ra) (r4:0<n.nodes.length->nS b=true)
  (h0:Rd0 n b cv sv q 0 t g) (h50:tat t 50=.int .i64 0) (h49:tat t 49=.int .i64 (n.nodes.length:Int))
  (bad:∀t g,¬NR n->g.h.get 1=.cells 5 [[.int .i64 0,.nils,.nils,.nils,.nils]] 0 false false->tat t 2=.hptr 1 0 0 0->tat t 3=.int .i64 50->Q .ret t [] g)
  (fin:∀t g,Rd0 n b cv sv q n.nodes.length t g->Q (.exit 0) t [] g):wpL (wp C0 d none ie) Q t [] g:=by
 simp only[ie]
 refine a7 (m:=n.nodes.length) (by omega) (fun j t df g=>df=[]/\Rd0 n b cv sv q j t g) ⟨rfl,h0⟩ h50 h49 (by decide)
  (by rintro j t df g v s (rfl | rfl | rfl) ⟨a1,⟨b1,b2,b3,b4,b5,-⟩,c1,c2⟩<;>exact ⟨a1,by simp[St,LRd,sx,b1,b2,b3,b4,b5],c1,c2⟩) ?_ ?_
 ·rintro j t df g hj ⟨rfl,⟨⟨h48,h5,h1,h2,h4,-⟩,hp,hok⟩⟩ h50 h49
  obtain ⟨x,hx,htk,hxm⟩:=aG hj
  obtain ⟨pa,ra,q1,hlt,hpa,hra⟩:=r3 j x hx
  have hry:=r4 (by omega)
  have q2:=hp.q2
  have qn:=hp.qn
  have hne1:¬(1=g.nx):=by omega
  have hneq:¬(q=g.nx):=by omega
  have f1:Fr g (g.new (.cells 3 [[.int .i64 0,.nils,.nils]] 0 false false)):=Fr.new _ _
  have badn:¬(1<=x.card/\x.card<=4)->¬NR n:=fun h hr=>h (hr.card x hxm)
  by_cases c1:x.card<1
  ·simp only[sz,simprocAttr,h2,h48,h50,r1,hlt,q1,hp.h1,hne1,c1]
   exact bad _ _ (badn (by omega)) (by simp[H.get_put]) (by simp[sx,h2]) (by simp[sx])
  ·by_cases c2:4<x.card
   ·simp only[sz,simprocAttr,h2,h48,h50,r1,hlt,q1,hp.h1,hne1,c1,c2]
    exact bad _ _ (badn (by omega)) (by simp[H.get_put]) (by simp[sx,h2]) (by simp[sx])
   ·have hall:∀y∈n.nodes.take (j+1),1<=y.card/\y.card<=4:=fun y hy=>by
     rw[htk] at hy
     rcases List.mem_append.1 hy with h | h
     ·exact hok y h
     ·rw[List.mem_singleton.1 h];omega
    have hcb:∀c∈(S.aa n).take (j+1),1<=c/\c<=4:=fun c hc=>by
     rw[S.aa,<-List.map_take] at hc
     obtain ⟨y,hy,rfl⟩:=List.mem_map.1 hc
     exact hall y hy
    have hpb:=cE hcb
    have hp4:=fe (a:=((S.aa n).take (j+1)).length) (b:=8) (by rw[List.length_take];omega)
    have h48':(4:Int) ^ 8=65536:=by decide
    have hcj:(S.aa n)[j]?=some x.card:=by simp[S.aa,hx]
    have ets:(S.aa n).take (j+1)=(S.aa n).take j++[x.card]:=by rw[List.take_add_one,hcj];rfl
    have e1:S.af ((S.aa n).take (j+1))=S.af ((S.aa n).take j)*x.card:=by rw[ets];exact qJ _ _
    have w1:IntKind.wrap .i64 (S.af ((S.aa n).take j)*x.card)=S.af ((S.aa n).take (j+1)):=by rw[<-e1,bc (by omega) (by omega)]
    have hlj:((S.aa n).take j).length=j:=by rw[List.length_take,aS];omega
    have hXr:(((S.aa n).take j++List.replicate (n.nodes.length - j) 0).map ci)[j]?=some (ci 0):=by
     rw[List.getElem?_map,List.getElem?_append_right (by omega),hlj,Nat.sub_self,List.getElem?_replicate,if_pos (by omega)];rfl
    have hXl:j<(((S.aa n).take j++List.replicate (n.nodes.length - j) 0).map ci).length:=by simp[aS];omega
    have hXs:((S.aa n).take j++List.replicate (n.nodes.length - j) 0).set j x.card=(S.aa n).take (j+1)++List.replicate (n.nodes.length - (j+1)) 0:=by
     rw[List.set_append_right _ _ (by omega),hlj,Nat.sub_self,ets,show n.nodes.length - j=(n.nodes.length - (j+1))+1 by omega,List.replicate_succ,List.set_cons_zero,List.append_assoc];rfl
    have hp2:=hp.fr f1
    obtain ⟨g2,hg2⟩:∃g2,g2=(g.new (.cells 3 [[.int .i64 0,.nils,.nils]] 0 false false)).put g.nx (.cells 3 [[.int .i64 x.card,pa,ra]] 0 false false):=⟨_,rfl⟩
    have f2:Fr g g2:=by rw[hg2];exact CT (by simp) fun i hi=>by simp[H.get_put,show ¬i=g.nx by omega]
    have hp3:=hp.fr f2
    have f7:g2.h.get g.nx=.cells 3 [[.int .i64 x.card,pa,ra]] 0 false false:=by rw[hg2];simp[H.get_put]
    refine bV (P:=fun t' df g'=>df=[]/\g'=g2/\St t' ((48,b)::(5,.int .i64 (S.af ((S.aa n).take j)))::LRd q)/\tat t' 6=.int .i64 (j:Int)/\tat t' 7=.hptr g.nx 0 0 0/\tat t' 50=.int .i64 (j:Int)/\tat t' 49=.int .i64 (n.nodes.length:Int)) ?_ ?_
    ·simp only[sz,simprocAttr,h48,h49,h50,r1,hlt,q1]
     rw[hg2]
     simp[St,LRd,sx,h1,h2,h4,h5,h48]
    clear h1 h2 h4 h5 h48 h49 h50
    rintro t df g3 ⟨rfl,rfl,⟨h48,h5,h1,h2,h4,-⟩,h6,h7,h50,h49⟩
    have hcr:=hp3.hc.rows
    simp only[sz,simprocAttr,h4,h6,h7,f7,hp3.hq,hcr,hXl,c1,c2]
    refine dR (v:=cv) (sz:=1) (n:=1) (i:=j) (off:=0) (x:=.int .i64 x.card) (row':=ci x.card) hp3.hc hXr rfl rfl rfl fun g4 hu4 n4 f4=>?_
    rw[uQ,hXs] at hu4
    have f74:g4.h.get g.nx=.cells 3 [[.int .i64 x.card,pa,ra]] 0 false false:=by rw[f4 _ fun e=>by have:=(hp.hc.lt e).2;omega,f7]
    simp only[sz,simprocAttr,h5,h7,h49,h50,f74,w1]
    refine ⟨by simp[St,LRd,sx,h1,h2,h4,h48],⟨?_,?_,?_,hu4,?_,q2,by rw[n4];exact hp3.qn,hp.d1,hp.d2,hp.d3⟩,hall⟩
    ·rw[f4 0 fun e=>by have:=(hp.hc.lt e).1;omega,hp3.h0]
    ·rw[f4 1 fun e=>by have:=(hp.hc.lt e).1;omega,hp3.h1]
    ·rw[f4 q hp.d1,hp3.hq]
    ·exact hp3.hs.fr (by omega) fun i hi=>f4 i fun e=>hp.d3 i e hi
 ·rintro t df g ⟨rfl,h⟩
  exact fin t g h
end
end
end Hx
end
