/- A part of the proof: an interpreter over abstract values, shown right against the model, and what the functions of the chapter compute on it. -/
import Derived.Test.YtfpjoiojhegfaaaDoorHx8
set_option linter.unusedVariables false
set_option linter.unusedSimpArgs false
set_option linter.unnecessarySimpa false
section
namespace Hx
open Go
noncomputable section
theorem yM {q:Nat->Prop}{n:Nat}(h:∀i,i<n->¬q i):S.aa q n=0 :=
 (qF (n:=n) (p:=q) fun i=>by
  rw[Nat.zero_testBit]
  exact ⟨fun h'=>(by cases h'),fun ⟨a,b⟩=>(h i a b).elim⟩).symm
theorem B9 {p q:Nat->Prop}{n v:Nat}(hv:v<n)(h:∀i,q i↔p i\/i=v):S.aa q n=S.aa p n ||| 2 ^ v:=by
 symm
 refine qF fun i=>?_
 rw[Nat.testBit_or,Nat.testBit_two_pow,Bool.or_eq_true,fG,decide_eq_true_iff,h]
 constructor
 ·rintro (⟨a,b⟩ | e)
  ·exact ⟨a,.inl b⟩
  ·exact ⟨by omega,.inr e.symm⟩
 ·rintro ⟨a,b | e⟩
  ·exact .inl ⟨a,b⟩
  ·exact .inr e.symm
def S.aq (p:List Nat)(j i:Nat):List Nat:=(List.range p.length).map fun u=>S.aa (fun v=>Eg p u v/\(v<j\/v=j/\u<i)) p.length
def S.aF (p:List Nat):List Nat:=(List.range p.length).map fun u=>S.aa (Eg p u) p.length
theorem kY {p:List Nat}{j i:Nat}:(S.aq p j i).length=p.length:=by simp[S.aq]
theorem pV {p:List Nat}:(S.aF p).length=p.length:=by simp[S.aF]
theorem lz {p:List Nat}{j i u:Nat}(h:u<p.length):(S.aq p j i)[u]?=some (S.aa (fun v=>Eg p u v/\(v<j\/v=j/\u<i)) p.length):=by simp[S.aq,h]
theorem xl {p:List Nat}:S.aq p 0 0=List.replicate p.length 0:=by
 refine List.ext_getElem? fun u=>?_
 by_cases h:u<p.length
 ·rw[lz h,List.getElem?_replicate,if_pos h,yM]
  rintro i - ⟨-,h | h⟩<;>omega
 ·rw[List.getElem?_eq_none (by rw[kY];omega),List.getElem?_eq_none (by simp;omega)]
theorem xP {p:List Nat}{j:Nat}:S.aq p j p.length=S.aq p (j+1) 0 :=
 List.map_congr_left fun u hu=>fQ fun v hv=>by
  have hu:=List.mem_range.1 hu
  constructor
  ·rintro ⟨a,b⟩;exact ⟨a,by omega⟩
  ·rintro ⟨a,b⟩;exact ⟨a,by omega⟩
theorem AU {p:List Nat}:S.aq p p.length 0=S.aF p :=
 List.map_congr_left fun u hu=>fQ fun v hv=>⟨fun a=>a.1,fun a=>⟨a,.inl hv⟩⟩
theorem AS {x i:Nat}:x / 2 ^ i &&& 1=if x.testBit i then 1 else 0:=by
 rw[Nat.and_one_is_mod,Nat.testBit_eq_decide_div_mod_eq]
 have:=Nat.mod_lt (x / 2 ^ i) (show 0<2 by decide)
 by_cases h:x / 2 ^ i % 2=1
 ·rw[if_pos (by rw[decide_eq_true_iff];exact h),h]
 ·rw[if_neg (by rw[decide_eq_true_iff];exact h)];omega
theorem x5 {p:List Nat}{j i x:Nat}(hi:i<p.length)(hj:j<p.length)(h8:p.length<=8)(hx:p[j]?=some x) :
  (S.aq p j i).set i (S.aa (fun v=>Eg p i v/\(v<j\/v=j/\i<i)) p.length ||| (x / 2 ^ i &&& 1)*2 ^ j % 18446744073709551616)=S.aq p j (i+1):=by
 have h2:(2:Nat) ^ j<=2 ^ 8:=Nat.pow_le_pow_right (by decide) (by omega)
 have hPx:Par p j=x:=by simp[Par,hx]
 have hE:Eg p i j↔x.testBit i=true:=by rw[Eg,hPx]
 refine List.ext_getElem? fun u=>?_
 by_cases e:i=u
 ·subst e
  rw[List.getElem?_set_self (by rw[kY];exact hi),lz hi,AS]
  congr 1
  by_cases hb:x.testBit i=true
  ·rw[if_pos hb,Nat.one_mul,Nat.mod_eq_of_lt (by omega)]
   refine (B9 hj fun v=>?_).symm
   constructor
   ·rintro ⟨a,b⟩
    by_cases ev:v=j
    ·exact .inr ev
    ·exact .inl ⟨a,by omega⟩
   ·rintro (⟨a,b⟩ | rfl)
    ·exact ⟨a,by omega⟩
    ·exact ⟨hE.2 hb,by omega⟩
  ·rw[if_neg hb,Nat.zero_mul,Nat.zero_mod,Nat.or_zero]
   refine fQ fun v _=>?_
   constructor
   ·rintro ⟨a,b⟩;exact ⟨a,by omega⟩
   ·rintro ⟨a,b⟩
    refine ⟨a,?_⟩
    by_cases ev:v=j
    ·subst ev;exact absurd (hE.1 a) hb
    ·omega
 ·rw[List.getElem?_set_ne e]
  by_cases h:u<p.length
  ·rw[lz h,lz h]
   refine congrArg some (fQ fun v _=>?_)
   constructor<;>exact fun ⟨a,b⟩=>⟨a,by omega⟩
  ·rw[List.getElem?_eq_none (by rw[kY];omega),List.getElem?_eq_none (by rw[kY];omega)]
def S.aB (p:List Nat):Bool:=decide (1<=p.length)&&decide (p.length<=8)&&p.all (fun x=>decide (x<2 ^ p.length))&&S.aG p
structure GOk (p:List Nat):Prop where
 l1:1<=p.length
 l8:p.length<=8
 hp:∀x∈p,x<2 ^ p.length
 ac:S.aG p=true
theorem gV {p:List Nat}:S.aB p=true↔GOk p:=by
 simp only[S.aB,Bool.and_eq_true,decide_eq_true_eq,List.all_eq_true]
 exact ⟨fun ⟨⟨⟨a,b⟩,c⟩,d⟩=>⟨a,b,c,d⟩,fun ⟨a,b,c,d⟩=>⟨⟨⟨a,b⟩,c⟩,d⟩⟩
theorem BX {p:List Nat}(h:¬GOk p):S.aB p=false:=by
 cases e:S.aB p with
 | false=>rfl
 | true=>exact absurd (gV.1 e) h
def S.gr (p:List Nat):List Nat×List Nat:=if S.aB p then (p,S.aF p) else ([],[])
def S.a9 (x:Nat):Nat->Nat
 | 0=>8
 | k+1=>if x.testBit (7 - k) then 7 - k else S.a9 x k
def S.tz (x:Nat):Nat:=S.a9 x 8
theorem BM:∀x:Nat,x<256->x≠0->x &&& (18446744073709551616 - x)=2 ^ S.tz x/\S.tz x<8/\x &&& (x - 1)=x ^^^ 2 ^ S.tz x/\x.testBit (S.tz x)=true:=by decide +kernel
def oT:List (List AV):=[[.int .u8 0,.int .u8 1,.int .u8 56,.int .u8 2,.int .u8 57,.int .u8 49,.int .u8 28,.int .u8 3,.int .u8 61,.int .u8 58,.int .u8 42,.int .u8 50,.int .u8 38,.int .u8 29,.int .u8 17,.int .u8 4,.int .u8 62,.int .u8 47,.int .u8 59,.int .u8 36,.int .u8 45,.int .u8 43,.int .u8 51,.int .u8 22,.int .u8 53,.int .u8 39,.int .u8 33,.int .u8 30,.int .u8 24,.int .u8 18,.int .u8 12,.int .u8 5,.int .u8 63,.int .u8 55,.int .u8 48,.int .u8 27,.int .u8 60,.int .u8 41,.int .u8 37,.int .u8 16,.int .u8 46,.int .u8 35,.int .u8 44,.int .u8 21,.int .u8 52,.int .u8 32,.int .u8 23,.int .u8 11,.int .u8 54,.int .u8 26,.int .u8 40,.int .u8 15,.int .u8 34,.int .u8 20,.int .u8 31,.int .u8 10,.int .u8 25,.int .u8 14,.int .u8 19,.int .u8 9,.int .u8 13,.int .u8 8,.int .u8 7,.int .u8 6]]
theorem BV (b:Nat)(hb:b<8):∃i p,aT .shr (.int .u64 (IntKind.u64.wrap (((2 ^ b:Nat):Int)*285870213051353865))) (.int .u64 58)=.val i/\B1 64 1 (.tptr 0 64 oT 0 0) i=.val p/\∀g,ik false 1 p g=.val (.int .u8 (b:Int)):=by
 match b,hb with
 | 0,_=>exact ⟨.int .u64 0,.tptr 0 64 oT 0 0,by kernel_rfl,by kernel_rfl,fun g=>by kernel_rfl⟩
 | 1,_=>exact ⟨.int .u64 1,.tptr 0 64 oT 0 1,by kernel_rfl,by kernel_rfl,fun g=>by kernel_rfl⟩
 | 2,_=>exact ⟨.int .u64 3,.tptr 0 64 oT 0 3,by kernel_rfl,by kernel_rfl,fun g=>by kernel_rfl⟩
 | 3,_=>exact ⟨.int .u64 7,.tptr 0 64 oT 0 7,by kernel_rfl,by kernel_rfl,fun g=>by kernel_rfl⟩
 | 4,_=>exact ⟨.int .u64 15,.tptr 0 64 oT 0 15,by kernel_rfl,by kernel_rfl,fun g=>by kernel_rfl⟩
 | 5,_=>exact ⟨.int .u64 31,.tptr 0 64 oT 0 31,by kernel_rfl,by kernel_rfl,fun g=>by kernel_rfl⟩
 | 6,_=>exact ⟨.int .u64 63,.tptr 0 64 oT 0 63,by kernel_rfl,by kernel_rfl,fun g=>by kernel_rfl⟩
 | 7,_=>exact ⟨.int .u64 62,.tptr 0 64 oT 0 62,by kernel_rfl,by kernel_rfl,fun g=>by kernel_rfl⟩
theorem AI {d x:Nat}{g:G}(hd:0<d)(hx:x<256)(h0:x≠0):aU C0 d N.aG [.int .u64 (x:Int)] g=.val (.int .i64 (S.tz x:Int)):=by
 obtain ⟨h1,h2,-⟩:=BM x hx h0
 rw[e_]
 refine lS fL (xs:=[.int .u64 (x:Int)]) (by simp only[aH,gQ 0]) (by simp[bH]) hd ?_
 have c0:¬(x:Int)=0:=by omega
 have hneg:unV .neg (.int .u64 (x:Int))=.val (.int .u64 ((18446744073709551616 - x:Nat):Int)):=by
  show OR.val (.int .u64 (IntKind.wrap .u64 (0 - (x:Int))))=_
  have:IntKind.wrap .u64 (0 - (x:Int))=((18446744073709551616 - x:Nat):Int):=by
   show (0 - (x:Int)) % 18446744073709551616=_
   omega
  rw[this]
 have hand:aT .and (.int .u64 (x:Int)) (.int .u64 ((18446744073709551616 - x:Nat):Int))=.val (.int .u64 ((2 ^ S.tz x:Nat):Int)):=by
  rw[da x (18446744073709551616 - x) (by omega) (by omega),h1]
 simp only[sz,simprocAttr,bH,c0,hneg,hand]
 obtain ⟨b,hb⟩:∃b,b=S.tz x:=⟨_,rfl⟩
 rw[<-hb] at h2 ⊢
 clear hand hb h1
 obtain ⟨i,p,t1,t2,t3⟩:=BV b h2
 rw[oT] at t2
 simp only[sz,simprocAttr,t1,t2,t3]
 rw[iH (by omega) (by omega)]
end
end Hx
end
section
namespace Hx
open Go
def S.aE (n:Net):List Int:=n.nodes.map (·.card)
def S.aL (cs ps:List Int):List Int:=ps.map fun p=>cs[p.toNat]?.getD 0
def S.aU (n:Net):List Nat:=n.nodes.map fun x=>S.a_ x.parents
def S.aR (gr card:Int)(r:List Int):Bool:=decide ((r.length:Int)=card)&&r.all (fun x=>decide (0<=x)&&decide (x<=gr))&&decide (r.sum=gr)
def S.bB (k:Int)(x:Node):Bool:=decide (1<=x.card)&&decide (x.card<=4)&&S.aY x.parents k
def S.bC (n:Net)(x:Node):Bool:=decide ((x.rows.length:Int)=S.aA (S.aL (S.aE n) x.parents))&&x.rows.all (S.aR n.grain x.card)
structure NR (n:Net):Prop where
 g1:1<=n.grain
 g2:n.grain<=60
 l1:1<=n.nodes.length
 l2:n.nodes.length<=8
 card:∀x∈n.nodes,1<=x.card/\x.card<=4
 places:∀x∈n.nodes,S.aY x.parents n.nodes.length=true
 worlds:S.aA (S.aE n)<=1024
 acyc:S.aG (S.aU n)=true
 rows:∀x∈n.nodes,(x.rows.length:Int)=S.aA (S.aL (S.aE n) x.parents)
 row:∀x∈n.nodes,∀r∈x.rows,(r.length:Int)=x.card/\(∀y∈r,0<=y/\y<=n.grain)/\r.sum=n.grain
def S.bA (n:Net)(vals:List Int)(v:Nat):Int:=match n.nodes[v]? with
 | none=>1
 | some x=>(x.rows[(S.aT (S.aL (S.aE n) x.parents) (S.aL vals x.parents)).toNat]?.getD [])[(vals[v]?.getD 0).toNat]?.getD 0
end Hx
end
section
namespace Hx
open Go
section
variable {b card:Nat}
def S.aW (b card p:Nat):Nat:=p / (b*card)*b+p % b
def S.aX (b card p:Nat):Nat:=p / b % card
def S.bo (rows:List (List Int))(b card t:Nat):List Int:=(List.range (rows.length*card)).map fun p=>if S.aW b card p*card+S.aX b card p<t then (rows[S.aW b card p]?.getD [])[S.aX b card p]?.getD 0 else 0
def S.bk (rows:List (List Int))(b card:Nat):List Int:=(List.range (rows.length*card)).map fun p=>(rows[S.aW b card p]?.getD [])[S.aX b card p]?.getD 0
end
def S.ba (ps:List Int)(k:Nat)(v:Int):List Int:=ps.take k++v::ps.drop k
end Hx
end
section
namespace Hx
open Go
noncomputable section
section
variable {d:Nat}{b pa ra z:AV}{gr card:Int}{r:List Int}
def LR5 (v:Nat)(q:Nat):List (Nat×AV):=[(1,.hptr 0 0 0 0),(6,.int .i64 (v:Int)),(7,.hptr q 0 0 0)]
structure RJ1 (gr:Int) (r:List Int) (v q i j:Nat) (t:T):Prop where
 st:St t ((8,.int .i64 (i:Int))::LR5 v q)
 s9:tat t 9=.int .i64 (r.take j).sum
 all:∀y∈r.take j,0<=y/\y<=gr
structure RJ4 (gr card:Int) (rws:List (List Int)) (v q j:Nat) (t:T):Prop where
 st:St t (LR5 v q)
 all:∀r∈rws.take j,S.aR gr card r=true
structure RJ0 (n:Net) (b:AV) (j:Nat) (t:T) (g:G):Prop where
 st:St t [(1,.hptr 0 0 0 0),(3,.int .i64 (S.aA ((S.aE n).take j)))]
 hg:g.h.get 0=.cells 2 [[.int .i64 n.grain,b]] 0 false false
 nx:1<=g.nx
 all:∀x∈n.nodes.take j,S.bB n.nodes.length x=true
structure RJ6 (n:Net) (b:AV) (j:Nat) (t:T) (g:G):Prop where
 st:St t [(1,.hptr 0 0 0 0)]
 hg:g.h.get 0=.cells 2 [[.int .i64 n.grain,b]] 0 false false
 nx:1<=g.nx
 all:∀x∈n.nodes.take j,S.bC n x=true
end
end
end Hx
end
section
namespace Hx
open Go
noncomputable section
theorem wP {C:Cfg}{d id nt:Nat}{t:T}{ps:List Nat}{assign body:Code}{a b:SC}{dfr:Nat}{args:List AV}{g:G}{K:AV->G->Prop}{D:ADf->Prop}{t':T}
  (hg:g.h.get id=.loop nt t ps assign body dfr .ready none) (ha:cJ C nt assign=a) (hb:cJ C nt body=b) (hp:ct t nt ps args=some t')
  (h:wp C d (some id) a (fun e t1 df g1=>e=.norm/\df=[]/\g1=g /\
   wp C d (some id) b (fun e _ df g2=>df=[]/\g2.h.get id=.loop nt t ps assign body dfr .busy none/\((e=.norm/\K (.bool true) (g2.put id (.loop nt t ps assign body dfr .ready none)))\/(e=.ret/\K (.bool false) (g2.put id (.loop nt t ps assign body dfr .done (some .ret))))))
    t1 [] (g.put id (.loop nt t ps assign body dfr .busy none))) t' [] g) :
  (bW (I C) d id args g).sat K g D:=by
 subst ha;subst hb
 unfold bW
 rw[show g.get id=_ from hg]
 dsimp only
 rw[hp]
 dsimp only
 have h1:=jL h
 cases hc:(I C).code nt d (some id) assign t' [] g with
 | fail=>rw[hc] at h1;exact h1.elim
 | ok e t1 df g1 =>
  rw[hc] at h1
  obtain ⟨rfl,rfl,rfl,h2⟩:=h1
  dsimp only
  rw[show g1.get id=_ from hg]
  dsimp only
  have h3:=jL h2
  cases hc2:(I C).code nt d (some id) body t1 [] (g1.put id (.loop nt t ps assign body dfr .busy none)) with
  | fail=>rw[hc2] at h3;exact h3.elim
  | ok e t2 df2 g2 =>
   rw[hc2] at h3
   obtain ⟨rfl,h4,h5⟩:=h3
   dsimp only
   rw[show g2.get id=_ from h4]
   rcases h5 with ⟨rfl,h5⟩ | ⟨rfl,h5⟩<;>exact h5
theorem nR {C:Cfg}{d nt:Nat}{f:Od}{ps:List Nat}{a b:SC}{Q:QT}{t:T}{df:List ADf}{g:G}{fn:Nat}{first cap:List AV}{s:SF}(hv:f.get t=.clo fn first cap)(he:C.ext fn=none)(hs:nFn C fn=some s)
  (hl:(first++(.yld (g.nx+1)::cap)).length<=s.nt)
  (h:∀assign body,cJ C nt assign=a->cJ C nt body=b ->
   wp C d none s.code (fnQ C d s.res fun _ g2=>∃nt' t' ps' as' bd' dfr',(g2.h.get (g.nx+1)=.loop nt' t' ps' as' bd' dfr' .ready none/\Q .norm t (.mark g.nx::df) (g2.put (g.nx+1) (.loop nt' t' ps' as' bd' dfr' .exhausted none))) \/
     (g2.h.get (g.nx+1)=.loop nt' t' ps' as' bd' dfr' .done (some .ret)/\Q .ret t (.mark g.nx::df) (g2.put (g.nx+1) (.loop nt' t' ps' as' bd' dfr' .exhausted (some .ret)))))
    (bw 0 (first++(.yld (g.nx+1)::cap)) .nil) [] ((g.new (.dfr true)).new (.loop nt t ps assign body g.nx .ready none))) :
  wp C d none (.rng nt f ps a b) Q t df g:=by
 intro assign body ha hb
 have h:=fE hs hl (h assign body ha hb)
 show (bD C (I C) nt d none (f.get t) ps assign body t (.mark g.nx::df) g.nx (g.new (.dfr true))).sat Q
 rw[hv]
 unfold bD
 dsimp only
 rw[he]
 show (match (I C).call d fn (first++(AV.yld (g.nx+1)::cap)) ((g.new (.dfr true)).new (.loop nt t ps assign body g.nx .ready none)) with
  | .ok _ g2=>ck (I C) nt d none (g.nx+1) t (.mark g.nx::df) g2
  | .fail=>.fail).sat Q
 cases hc:(I C).call d fn (first++(AV.yld (g.nx+1)::cap)) ((g.new (.dfr true)).new (.loop nt t ps assign body g.nx .ready none)) with
 | fail=>rw[hc] at h;exact h.elim
 | ok v g2 =>
  rw[hc] at h
  obtain ⟨nt',t',ps',as',bd',dfr',h⟩:=h
  show (ck (I C) nt d none (g.nx+1) t (.mark g.nx::df) g2).sat Q
  unfold ck
  rcases h with ⟨h1,h2⟩ | ⟨h1,h2⟩
  ·rw[show g2.get (g.nx+1)=_ from h1]
   exact h2
  ·rw[show g2.get (g.nx+1)=_ from h1]
   dsimp only
   rw[td]
   exact h2
structure RowQ (b:Nat) (g2 g3:G) (e:Ex) (A B:Prop):Prop where
 nx:g2.nx<=g3.nx
 fr:∀i,b<=i->i<g2.nx->g3.h.get i=g2.h.get i
 st:(e=.norm/\A)\/(e=.ret/\B)
theorem tF {C:Cfg}{d:Nat}{r:List SR}{t:T}{g:G}{K:AV->G->Prop}{i j:Nat}(hi:g.h.get i=.dfr true)(hj:g.h.get j=.dfr true)(hij:i≠j)(h:km r t ((g.put i (.dfr false)).put j (.dfr false)) fun vs=>K (cZ vs) ((g.put i (.dfr false)).put j (.dfr false))):i_ C d r t [.mark i,.mark j] g K:=by
 unfold i_
 have:cx (I C) d [.mark i,.mark j] g=some ((g.put i (.dfr false)).put j (.dfr false)):=by
  have hj':(g.put i (.dfr false)).h.get j=.dfr true:=by simp[H.get_put,show ¬j=i by omega,hj]
  simp only[cx,G.get_eq,hi,hj']
 rw[this];exact h
def S.af (s:Nat):List Nat:=(List.range 8).filter fun v=>s.testBit v
theorem vT:∀x:Nat,x<256->x≠0->S.af x=S.tz x::S.af (x &&& (x - 1))/\x &&& (x - 1)<256:=by decide +kernel
theorem jE {s v:Nat}(hs:s<256):v∈S.af s↔s.testBit v=true:=by
 rw[S.af,List.mem_filter,List.mem_range]
 exact ⟨fun h=>h.2,fun h=>⟨ll (n:=8) hs h,h⟩⟩
theorem BG {d x:Nat}{g:G}(hd:0<d)(hx:x<256)(h0:x≠0):aU C0 d N.aI [.int .u64 (x:Int)] g=.val (.int .i64 (S.tz x:Int)):=by
 rw[fH]
 refine lS gK (xs:=[.int .u64 (x:Int)]) (by simp only[aH,gQ 0]) (by simp[bT]) hd ?_
 have k:=fun g=>AI (d:=d+1) (g:=g) (Nat.succ_pos d) hx h0
 simp only[sz,simprocAttr,bT,k]
def MbV (s:Nat):VS:=fun P k h v=>∃p,v=.clo N.aw [] [p]/\((∃id,p=.hptr id 0 0 0/\P id/\h.get id=.cells 1 [[.int .u64 (s:Int)]] 0 false false)\/∃t,p=.tptr t 1 [[.int .u64 (s:Int)]] 0 0/\t<=k)
theorem vo {h:H}{id:Nat}{x:AV}{k:IntKind}{q:Int}(hx:x=.int k q)(d j:Nat)(hg:h.get id=.cells 1 [[x]] 0 false false):Hx.snap h d (j+3) (.hptr id 0 0 0)=some (.tptr (Nat.max d 0) 1 [[x]] 0 0):=by
 subst hx
 simp only[Hx.snap,hg,show Nat.beq 0 0=true from rfl,aH]
 rfl
theorem B3 (s:Nat):Snb (MbV s) 4:=by
 refine ⟨fun {P k h v j} d r hn=>?_,fun {k h v j} r hn=>?_⟩
 ·obtain ⟨p,rfl,r1⟩:=r
  obtain ⟨j,rfl⟩:∃i,j=i+4:=⟨j - 4,by omega⟩
  obtain ⟨p',e1,s1⟩:∃p',Hx.snap h d (j+3) p=some p'/\∃t,p'=.tptr t 1 [[.int .u64 (s:Int)]] 0 0/\t<=max k d:=by
   rcases r1 with ⟨id,rfl,-,hg⟩ | ⟨t,rfl,ht⟩
   ·exact ⟨_,vo rfl d j hg,_,rfl,by show max d 0<=_;omega⟩
   ·exact ⟨_,rfl,_,rfl,by omega⟩
  refine ⟨.clo N.aw [] [p'],?_,p',rfl,.inr s1⟩
  show (match aH (Hx.snap h d (j+3)) [],aH (Hx.snap h d (j+3)) [p] with | some as',some cs=>some (AV.clo N.aw as' cs) | _,_=>none)=_
  simp only[aH,e1]
 ·obtain ⟨p,rfl,r1⟩:=r
  obtain ⟨j,rfl⟩:∃i,j=i+4:=⟨j - 4,by omega⟩
  rcases r1 with ⟨id,rfl,hP,-⟩ | ⟨t,rfl,ht⟩
  ·exact hP.elim
  exact ⟨Nat.max t 0,rfl,by show max t 0<=k;omega⟩
def mbC (s:Nat):AV:=.clo N.aw [] [.tptr 0 1 [[.int .u64 (s:Int)]] 0 0]
theorem iB {d s:Nat}{g:G}(hd:0<d):aU C0 d N.ah [.int .u64 (s:Int)] g=.val (mbC s):=by
 have key:∃r,aU C0 d N.ah [.int .u64 (s:Int)] g=.val r/\MbV s NoP 0 .nil r:=by
  rw[iX]
  refine fJ jT (xs:=[.int .u64 (s:Int)]) rfl (by simp[dU]) (B3 s) (by decide) hd ?_
  simp only[sz,simprocAttr,dU,fh]
  exact ⟨fun _=>True,_,rfl,.inl ⟨0,rfl,trivial,by simp[sx]⟩⟩
 obtain ⟨r,h1,p,rfl,h2⟩:=key
 rcases h2 with ⟨id,rfl,hP,-⟩ | ⟨t,rfl,ht⟩
 ·exact hP.elim
 rw[h1,show t=0 by omega];rfl
theorem Aj {d id s:Nat}{g0:G}{K:AV->G->Prop}(hd:0<d)(hs:s<256)(J:Nat->H->Prop)
  (step:∀(j v:Nat) (g:G) (K':AV->G->Prop) (D:ADf->Prop),(S.af s)[j]?=some v->g0.nx<=g.nx->J j g.h ->
   (∀g',J (j+1) g'.h->g.nx<=g'.nx->K' (.bool true) g')->(bW (I C0) d id [.int .i64 (v:Int)] g).sat K' g D)
  (h0:J 0 g0.h) (fin:∀g',J (S.af s).length g'.h->g0.nx<=g'.nx->K (.tup []) g') :
  wp C0 d none a9.code (fnQ C0 d a9.res K) (bw 0 [.yld id,.tptr 0 1 [[.int .u64 (s:Int)]] 0 0] .nil) [] g0:=by
 simp only[sz,simprocAttr,a9,cw]
 refine nV (fun n t df g=>df=[]/\∃j x:Nat,n=(S.af s).length - j/\j<=(S.af s).length/\x<256/\S.af x=(S.af s).drop j/\St t [(0,.yld id),(3,.int .u64 (x:Int))]/\J j g.h/\g0.nx<=g.nx) (S.af s).length
  ⟨rfl,0,s,by omega,by omega,hs,by simp,by simp[St,sx],h0,Nat.le_refl _⟩ ?_
 rintro n t df g ⟨rfl,j,x,rfl,hj,hx,hm,⟨t0,t3,-⟩,hJ,hn⟩
 simp only[d8]
 by_cases hx0:x=0
 ·have hjl:j=(S.af s).length:=by
   have:(S.af x).length=0:=by rw[hx0];rfl
   rw[hm,List.length_drop] at this
   omega
  subst hx0
  simp only[sz,simprocAttr,t0,t3]
  rw[hjl] at hJ
  exact fin g hJ hn
 ·obtain ⟨e1,e2⟩:=vT x hx hx0
  have c0:¬(x:Int)=0:=by omega
  have k:=fun g=>BG (d:=d) (g:=g) hd hx hx0
  have hv:(S.af s)[j]?=some (S.tz x):=by
   have:((S.af s).drop j)[0]?=some (S.tz x):=by rw[<-hm,e1];rfl
   rwa [List.getElem?_drop] at this
  simp only[sz,simprocAttr,t0,t3,c0,k]
  show (bW (I C0) d id [.int .i64 (S.tz x:Int)] g).sat _ _ _
  refine step j (S.tz x) g _ _ hv hn hJ (fun g' hJ' hn'=>?_)
  have w1:IntKind.wrap .u64 ((x:Int) - 1)=((x - 1:Nat):Int):=by rw[eD (by omega) (by omega)];omega
  have w2:aT .and (.int .u64 (x:Int)) (.int .u64 ((x - 1:Nat):Int))=.val (.int .u64 ((x &&& (x - 1):Nat):Int)):=da x (x - 1) (by omega) (by omega)
  simp only[sz,simprocAttr,t0,t3,w1,w2]
  have hjl:j<(S.af s).length:=(List.getElem?_eq_some_iff.1 hv).1
  refine ⟨(S.af s).length - (j+1),by omega,j+1,x &&& (x - 1),rfl,by omega,e2,?_,by simp[St,sx,t0],hJ',by omega⟩
  have h3:(S.af x).tail=((S.af s).drop j).tail:=by rw[hm]
  rw[e1,List.tail_drop] at h3
  exact h3
theorem wE:C0.ext N.aw=none:=by kernel_rfl
theorem qB {d nt y p s:Nat}{ca cb:SC}{Q:QT}{t:T}{df:List ADf}{g:G}(hd:0<d)(hs:s<256)(hv:tat t y=mbC s)(hp:p<nt)
  (J:Nat->H->Prop) (hJ:∀j h h',(∀i,i<g.nx->h'.get i=h.get i)->J j h->J j h') (h0:J 0 g.h)
  (step:∀(j v:Nat) (g1:G),(S.af s)[j]?=some v->J j g1.h->g.nx+2<=g1.nx ->
   wp C0 d (some (g.nx+1)) ca (fun e t1 df g1'=>e=.norm/\df=[]/\g1'=g1/\∀g2:G,g2.nx=g1.nx->(∀i,i≠g.nx+1->g2.h.get i=g1.h.get i) ->
    wp C0 d (some (g.nx+1)) cb (fun e _ df g3=>df=[]/\RowQ g.nx g2 g3 e (J (j+1) g3.h) False) t1 [] g2)
    (d9 t p (.int .i64 (v:Int))) [] g1)
  (fin:∀g',J (S.af s).length g'.h->g.nx+2<=g'.nx->g'.h.get g.nx=.dfr true->Q .norm t (.mark g.nx::df) g') :
  wp C0 d none (.rng nt (.t y) [p] ca cb) Q t df g:=by
 refine nR (fn:=N.aw) (first:=[]) (cap:=[.tptr 0 1 [[.int .u64 (s:Int)]] 0 0]) (s:=a9) hv wE iV (by simp[a9]) ?_
 intro assign body ha hb
 have e1:((g.new (.dfr true)).new (.loop nt t [p] assign body g.nx .ready none)).nx=g.nx+2:=by simp
 refine Aj (g0:=(g.new (.dfr true)).new (.loop nt t [p] assign body g.nx .ready none)) (id:=g.nx+1) hd hs
  (fun j h=>J j h/\h.get g.nx=.dfr true/\h.get (g.nx+1)=.loop nt t [p] assign body g.nx .ready none) ?_ ?_ ?_
 ·rintro j v g1 K' D hj hn ⟨a1,a2,a3⟩ kk
  rw[e1] at hn
  refine wP a3 ha hb (t':=d9 t p (.int .i64 (v:Int))) ?_ ?_
  ·simp only[ct,aa,Nat.blt_eq,if_pos hp];rfl
  ·refine dM _ (step j v g1 hj a1 (by omega)) ?_
   rintro e t1 df g1' ⟨rfl,rfl,rfl,h⟩
   refine ⟨rfl,rfl,rfl,?_⟩
   have hl:g.nx+1<g1'.nx:=by omega
   refine dM _ (h (g1'.put (g.nx+1) (.loop nt t [p] assign body g.nx .busy none)) (by simp) (fun i hi=>by simp[H.get_put,hi])) ?_
   rintro e t2 df g3 ⟨rfl,⟨b2,b3,b1⟩⟩
   have b4:g3.h.get (g.nx+1)=.loop nt t [p] assign body g.nx .busy none:=by rw[b3 _ (by omega) (by simpa using hl)];simp[H.get_put]
   have b5:g3.h.get g.nx=.dfr true:=by
    rw[b3 _ (by omega) (by simp;omega)];simp[H.get_put,a2]
   refine ⟨rfl,b4,?_⟩
   rcases b1 with ⟨rfl,b1⟩ | ⟨rfl,b1⟩
   ·refine .inl ⟨rfl,kk _ ⟨hJ _ g3.h _ (fun i hi=>by simp[H.get_put,show ¬i=g.nx+1 by omega]) b1,?_,?_⟩ (by simpa using b2)⟩
    ·simp[H.get_put,b5]
    ·simp[H.get_put]
   ·exact b1.elim
 ·refine ⟨hJ 0 g.h _ (fun i hi=>?_) h0,?_,?_⟩
  ·simp[H.get_put,show ¬i=g.nx+1 by omega,show ¬i=g.nx by omega]
  ·simp[H.get_put]
  ·simp[H.get_put]
 ·rintro g' ⟨a1,a2,a3⟩ hn
  rw[e1] at hn
  refine ⟨_,_,_,_,_,_,.inl ⟨a3,fin _ (hJ _ g'.h _ (fun i hi=>by simp[H.get_put,show ¬i=g.nx+1 by omega]) a1) (by simpa using hn) ?_⟩⟩
  simp[H.get_put,a2]
def S.bi (gr:Int)(cs:List Int)(x:Node):Bool:=decide ((x.rows.length:Int)=S.aA (S.aL cs x.parents))&&x.rows.all (S.aR gr x.card)
structure FJ (gr:Int) (r:List Int) (z:AV) (j:Nat) (t:T):Prop where
 st:St t [(2,.hptr 0 0 0 0),(3,.hptr 1 0 0 0),(4,.hptr 2 0 0 0),(9,z),(40,z),(10,.int .i64 (gr - (r.take j).sum))]
 nn:∀x∈r.take j,0<=x
 le:(r.take j).sum<=gr
structure FlJ (cs1 cs2:List AV) (gr card:Int) (rws:List (List Int)) (j:Nat) (h:H):Prop where
 a0:h.get 0=.cells 5 [cs1] 0 false false
 a1:h.get 1=.cells 3 [cs2] 0 false false
 a2:h.get 2=.cells 1 [[.bool false]] 0 false false
 all:∀r∈rws.take j,S.aR gr card r=true
structure FlE (gr card:Int) (rws:List (List Int)) (h:H):Prop where
 a2:h.get 2=.cells 1 [[.bool false]] 0 false false
 ex:∃r∈rws,S.aR gr card r=false
structure RdH (n:Net) (b cv sv:AV) (q:Nat) (X:List Int) (Y:List Nat) (g:G):Prop where
 h0:g.h.get 0=.cells 2 [[.int .i64 n.grain,b]] 0 false false
 h1:g.h.get 1=.cells 5 [[.int .i64 0,.nils,.nils,.nils,.nils]] 0 false false
 hq:g.h.get q=.cells 5 [[.int .i64 n.grain,b,cv,sv,.nils]] 0 false false
 hc:Own g 2 cv 1 (X.map ci)
 hs:Own g 2 sv 1 (Y.map cu)
 q2:2<=q
 qn:q<g.nx
 d1:vid cv≠some q
 d2:vid sv≠some q
 d3:∀i,vid cv=some i->vid sv≠some i
section
variable {d:Nat}{n:Net}{b cv sv:AV}{q:Nat}{rows:List (List AV)}
def LRd (q:Nat):List (Nat×AV):=[(1,.hptr 0 0 0 0),(2,.hptr 1 0 0 0),(4,.hptr q 0 0 0)]
structure Rd0 (n:Net) (b cv sv:AV) (q j:Nat) (t:T) (g:G):Prop where
 st:St t ((48,b)::(5,.int .i64 (S.aA ((S.aE n).take j)))::LRd q)
 hp:RdH n b cv sv q ((S.aE n).take j++List.replicate (n.nodes.length - j) 0) (List.replicate n.nodes.length 0) g
 ok:∀x∈n.nodes.take j,1<=x.card/\x.card<=4
end
end
end Hx
end
section
namespace Hx
open Go
noncomputable section
def BW (ps:List Int)(i:Nat):Int:=if i=0 then -1 else ps[i - 1]?.getD 0
structure PlI (ps:List Int) (k:Int) (v i:Nat):Prop where
 rng:∀(j:Nat) (p:Int),j<i->ps[j]?=some p->0<=p/\p<k/\p≠(v:Int)
 inc:∀(j:Nat) (p q:Int),j+1<i->ps[j]?=some p->ps[j+1]?=some q->p<q
section
variable {d:Nat}{n:Net}{b cv sv:AV}{q:Nat}{rows:List (List AV)}
def S.bu (n:Net)(j:Nat)(m:Nat):List Nat:=(S.aU n).take j++m::List.replicate (n.nodes.length - (j+1)) 0
structure Rd1 (n:Net) (x:Node) (b cv sv pa:AV) (q j p9 i:Nat) (t:T) (g:G):Prop where
 st:St t ((80,b)::(81,.int .i64 (n.nodes.length:Int))::(82,.int .i64 (j:Int))::(88,pa)::(8,.int .i64 (j:Int))::(9,.hptr p9 0 0 0)::(10,.int .i64 (BW x.parents i))::LRd q)
 hp:RdH n b cv sv q (S.aE n) (S.bu n j (S.a_ (x.parents.take i))) g
 ok:PlI x.parents n.nodes.length j i
end
end
end Hx
end
section
namespace Hx
open Go
noncomputable section
section
variable {d:Nat}{n:Net}{b cv sv:AV}{q:Nat}{rows:List (List AV)}
structure Rd4 (n:Net) (b cv sv:AV) (q j:Nat) (t:T) (g:G):Prop where
 st:St t ((80,b)::LRd q)
 hp:RdH n b cv sv q (S.aE n) ((S.aU n).take j++List.replicate (n.nodes.length - j) 0) g
 ok:∀x∈n.nodes.take j,S.aY x.parents n.nodes.length=true/\S.bi n.grain (S.aE n) x=true
theorem Own.natsV {g:G}{b:Nat}{v:AV}{l:List Nat}(h:Own g b v 1 (l.map cu))(hl:l.length<9223372036854775808)(hb:∀y∈l,y<18446744073709551616):SlR (fun i=>vid v=some i) 0 g.h l v :=
 Own.sl (α:=Nat) h hl (by
  have:∀l:List Nat,(∀y∈l,y<18446744073709551616)->All2 (Rp.rp (α:=Nat) (fun i=>vid v=some i) 0 g.h) l (l.map cu):=fun l=>by
   induction l with
   | nil=>intro _;trivial
   | cons y l ih=>intro h;exact ⟨nJ.2 ⟨rfl,h y (by simp)⟩,ih fun z hz=>h z (by simp[hz])⟩
  exact this l hb) fun _ h=>h
theorem Own.nats' {g:G}{b:Nat}{v:AV}{l:List Nat}(h:Own g b v 1 (l.map cu))(hl:l.length<9223372036854775808)(hb:∀y∈l,y<18446744073709551616):SlR (fun _=>True) 0 g.h l v :=
 (h.natsV hl hb).wd fun _ _=>⟨trivial,rfl⟩
end
end
end Hx
end
section
namespace Hx
open Go
noncomputable section
structure FacH (bx nd:List AV) (w u:AV) (vars cards:List Int) (beh:Int) (q:Nat) (g:G):Prop where
 h0:g.h.get 0=.cells 5 [bx] 0 false false
 h1:g.h.get 1=.cells 3 [[.nils,.nils,.nils]] 0 false false
 h2:g.h.get 2=.cells 3 [nd] 0 false false
 h8:g.h.get q=.cells 3 [[w,u,.nils]] 0 false false
 h9:g.h.get (q+1)=.cells 1 [[.int .i64 beh]] 0 false false
 hw:Own g 3 w 1 (vars.map ci)
 hu:Own g (q+2) u 1 (cards.map ci)
 wq:∀i,vid w=some i->i<q
 q3:3<=q
 qn:q+2<=g.nx
def Cf (q:Nat):List (Nat×AV):=[(2,.hptr 0 0 0 0),(4,.hptr 1 0 0 0),(5,.hptr 2 0 0 0),(8,.hptr q 0 0 0),(9,.hptr (q+1) 0 0 0)]
structure FacJ (gr:Int) (b cv sv oz:AV) (nd:List AV) (w:AV) (cs vars:List Int) (pl q j:Nat) (t:T) (g:G):Prop where
 st:St t ((38,w)::(6,.int .i64 (pl:Int))::Cf q)
 hp:∃u,FacH [.int .i64 gr,b,cv,sv,oz] nd w u vars (S.aL cs (vars.take j)) (S.aA (S.aL cs ((vars.take j).drop (pl+1)))) q g
def GH (h:H)(n:Nat):G:=⟨h,n,[]⟩
@[simp] theorem GH_h (h:H) (n:Nat):(GH h n).h=h:=rfl
@[simp] theorem GH_nx (h:H) (n:Nat):(GH h n).nx=n:=rfl
structure FacG (g0:G) (iw:Nat) (W:AV) (rws:List (List Int)) (B C t:Nat) (h:H):Prop where
 fr:∀i,i<g0.nx->i≠iw->h.get i=g0.h.get i
 ow:Own (GH h (iw+1)) 3 W 1 ((S.bo rws B C t).map ci)
structure FacI (g0 g2:G) (iw:Nat) (W z:AV) (r:List Int) (rws:List (List Int)) (B C q j i:Nat) (t:T) (g:G):Prop where
 st:St t ((78,z)::(12,.int .i64 (j:Int))::Cf q)
 hp:FacG g0 iw W rws B C (j*C+i) g.h
 nx:g2.nx<=g.nx
 fr:∀i,g0.nx<=i->i<g2.nx->g.h.get i=g2.h.get i
def S.bj (n:Net)(i:Nat)(x:Node)(p:Nat):Factor:=⟨S.ba x.parents p (i:Int),S.aL (S.aE n) (S.ba x.parents p (i:Int)),S.bk x.rows (S.aA (S.aL (S.aE n) (x.parents.drop p))).toNat x.card.toNat⟩
def S.be (n:Net)(l:List Factor):Prop:=∀(i:Nat) (x:Node),i<l.length->n.nodes[i]?=some x->∃p,p<=x.parents.length/\l[i]?=some (S.bj n i x p)
structure FasJ (n:Net) (W b cv sv oz:AV) (j:Nat) (t:T) (g:G):Prop where
 st:St t [(4,.hptr 1 0 0 0),(6,W)]
 hg:g.h.get 1=.cells 5 [[.int .i64 n.grain,b,cv,sv,oz]] 0 false false
 hW:∃(rows:List (List AV)) (l:List Factor),Own g 2 W 3 rows/\rows.length=n.nodes.length/\l.length=j/\All2 (Rp.rp NoP 0 .nil) l (rows.take j)/\S.be n l/\∀i,j<=i->i<n.nodes.length->rows[i]?=some [.nils,.nils,.nils]
end
end Hx
end
section
namespace Hx
open Go
abbrev QnM:Type:=Net×List Factor×List (List Int)
def S.aV (m:Nat)(f:Factor)(i:Nat)(R:List Int):Prop:=R.length=m/\∀(j:Nat) (y:Int),i<=j->f.vars[j]?=some y->R[y.toNat]?=some (S.aA (f.cards.drop (j+1)))
structure QnOk (n:Net) (y:QnM):Prop where
 net:y.1=n
 fl:y.2.1.length=n.nodes.length
 fs:S.be n y.2.1
 sl:y.2.2.length=n.nodes.length
 st:∀(k:Nat) (f:Factor) (R:List Int),y.2.1[k]?=some f->y.2.2[k]?=some R->S.aV n.nodes.length f 0 R
end Hx
end
section
namespace Hx
open Go
noncomputable section
def Cq (fl:AV)(m q k:Nat):List (Nat×AV):=[(11,.hptr q 0 0 0),(2,.hptr 0 0 0 0),(4,.hptr 1 0 0 0),(45,fl),(46,.int .i64 (m:Int)),(47,.int .i64 (k:Int))]
structure AskI (fl:AV) (m q k:Nat) (g0:G) (iR:Nat) (R:AV) (f:Factor) (fb j:Nat) (t:T) (g:G):Prop where
 st:St t ((13,.hptr fb 0 0 0)::(12,.int .i64 (k:Int))::(14,.int .i64 (S.aA (f.cards.drop j)))::Cq fl m q k)
 nx:g0.nx<=g.nx
 fr:∀i,i<g0.nx->i≠iR->g.h.get i=g0.h.get i
 ow:∃X:List Int,Own g 2 R 1 (X.map ci)/\S.aV m f j X
structure FOk (m:Nat) (f:Factor):Prop where
 cl:f.cards.length=f.vars.length
 vl:f.vars.length<=16
 cb:∀c∈f.cards,1<=c/\c<=4
 nd:f.vars.Nodup
 vr:∀y∈f.vars,0<=y/\y<m
structure AskH (gr:Int) (b fl S_:AV) (m q:Nat) (fs:List Factor) (k:Nat) (g:G):Prop where
 h0:g.h.get 0=.cells 2 [[.int .i64 gr,b]] 0 false false
 h1:g.h.get 1=.cells 4 [[.int .i64 0,.nils,.nils,.nils]] 0 false false
 hq:g.h.get q=.cells 4 [[.int .i64 gr,b,fl,S_]] 0 false false
 q2:2<=q/\q<g.nx
 sq:∀i,vid S_=some i->i<q
 hS:∃(Vs:List AV) (l:List (List Int)),Own g 2 S_ 1 (Vs.map fun v=>[v])/\Vs.length=m/\l.length=k/\All2 (fun X v=>Own g (q+1) v 1 (X.map ci)) l (Vs.take k)/\∀(i:Nat) (f:Factor) (X:List Int),fs[i]?=some f->l[i]?=some X->S.aV m f 0 X
structure AskJ (gr:Int) (b fl S_:AV) (m q:Nat) (fs:List Factor) (k:Nat) (t:T) (g:G):Prop where
 st:St t [(11,.hptr q 0 0 0),(2,.hptr 0 0 0 0),(4,.hptr 1 0 0 0),(45,fl)]
 hp:AskH gr b fl S_ m q fs k g
structure WtI (y:QnM) (b fl S_ wv va ca wa:AV) (gr wt:Int) (p:Int) (cards pv:List Int) (m k fb i:Nat) (t:T) (g:G):Prop where
 st:St t [(1,wv),(2,.hptr 0 0 0 0),(12,fl),(13,.int .i64 (m:Int)),(14,.int .i64 (k:Int)),(5,.int .i64 wt),(6,.int .i64 (k:Int)),(7,.hptr fb 0 0 0),(20,va),(8,.int .i64 (p - S.aT (cards.drop i) (pv.drop i)))]
 h0:g.h.get 0=.cells 4 [[.int .i64 gr,b,fl,S_]] 0 false false
 hf:g.h.get fb=.cells 3 [[va,ca,wa]] 0 false false
 nn:0<=p - S.aT (cards.drop i) (pv.drop i)
 nx:1<=g.nx
structure WtJ (n:Net) (vals:List Int) (b fl S_ wv:AV) (k:Nat) (t:T) (g:G):Prop where
 st:St t [(1,wv),(2,.hptr 0 0 0 0),(12,fl),(5,.int .i64 (S.aA ((List.range k).map (S.bA n vals))))]
 h0:g.h.get 0=.cells 4 [[.int .i64 n.grain,b,fl,S_]] 0 false false
 nx:1<=g.nx
structure OdoJ (n:Net) (vs:List Int) (L:List (Nat×AV)) (u:AV) (g0:G) (m:Nat) (t:T) (g:G):Prop where
 st:tat t 6=.int .i64 ((m:Int) - 1)
 ss:St t L
 ow:Own g g0.nx u 1 ((vs.take m++List.replicate (vs.length - m) 0).map ci)
 mx:∀(j:Nat) (c:Int),m<=j->(S.aE n)[j]?=some c->vs[j]?.getD 0=c - 1
theorem w7 {C:Cfg}{d id nt:Nat}{t:T}{ps:List Nat}{assign body:Code}{a b:SC}{dfr:Nat}{args:List AV}{g:G}{K:AV->G->Prop}{D:ADf->Prop}{t':T}
  (hg:g.h.get id=.loop nt t ps assign body dfr .ready none) (ha:cJ C nt assign=a) (hb:cJ C nt body=b) (hp:ct t nt ps args=some t')
  (h:wp C d (some id) a (fun e t1 df g1=>e=.norm/\df=[]/\g1.h.get id=.loop nt t ps assign body dfr .ready none /\
   wp C d (some id) b (fun e _ df g2=>df=[]/\g2.h.get id=.loop nt t ps assign body dfr .busy none/\((e=.norm/\K (.bool true) (g2.put id (.loop nt t ps assign body dfr .ready none)))\/(e=.ret/\K (.bool false) (g2.put id (.loop nt t ps assign body dfr .done (some .ret))))))
    t1 [] (g1.put id (.loop nt t ps assign body dfr .busy none))) t' [] g) :
  (bW (I C) d id args g).sat K g D:=by
 subst ha;subst hb
 unfold bW
 rw[show g.get id=_ from hg]
 dsimp only
 rw[hp]
 dsimp only
 have h1:=jL h
 cases hc:(I C).code nt d (some id) assign t' [] g with
 | fail=>rw[hc] at h1;exact h1.elim
 | ok e t1 df g1 =>
  rw[hc] at h1
  obtain ⟨rfl,rfl,hg1,h2⟩:=h1
  dsimp only
  rw[show g1.get id=_ from hg1]
  dsimp only
  have h3:=jL h2
  cases hc2:(I C).code nt d (some id) body t1 [] (g1.put id (.loop nt t ps assign body dfr .busy none)) with
  | fail=>rw[hc2] at h3;exact h3.elim
  | ok e t2 df2 g2 =>
   rw[hc2] at h3
   obtain ⟨rfl,h4,h5⟩:=h3
   dsimp only
   rw[show g2.get id=_ from h4]
   rcases h5 with ⟨rfl,h5⟩ | ⟨rfl,h5⟩<;>exact h5
section
variable {α:Type} [DecidableEq α]
end
theorem sS {C:Cfg}{ty kt et a b:Nat}{z:AV}{ok:Bool}(hu:C.P.underlying ty=some (.map kt et))(hz:j_ C.P et=some z)(d:Nat)(rd:Option Nat)(t:T)(g:G):(SO.raw (.lookup ty (.tmp a) (.tmp b) ok)).run C d rd t g=bz (bA C.P kt) z ok (fun t=>tat t a) (fun t=>tat t b) t g:=by
 obtain ⟨s1,e1,r1⟩:=aM (C:=C) (x:=.tmp a) (o:=.t a) rfl
 obtain ⟨s2,e2,r2⟩:=aM (C:=C) (x:=.tmp b) (o:=.t b) rfl
 show (bE C _).run (I C) d rd t g=_
 rw[aZ (s:=⟨bz (bA C.P kt) z ok s1.run s2.run⟩) rfl (by simp only[bm,e1,e2,hu,hz])]
 rw[show s1.run=fun t=>tat t a from funext r1,show s2.run=fun t=>tat t b from funext r2]
end
end Hx
end
section
namespace Hx
open Go
noncomputable section
def sk (s:Nat×Bool):AV:=.agg [.int .i64 (s.1:Int),.bool s.2]
theorem Ba (a b:Nat×Bool):gA (sk a) (sk b)=some (decide (a=b)):=by
 obtain ⟨a1,a2⟩:=a
 obtain ⟨b1,b2⟩:=b
 have e:gA (sk (a1,a2)) (sk (b1,b2))=some (af (wo (a1:Int) (b1:Int)) (af (a2 == b2) true false) false):=by
  cases a2<;>cases b2<;>rfl
 rw[e,lC]
 by_cases h1:a1=b1
 ·subst h1
  cases a2<;>cases b2<;>simp[af]
 ·have:¬(a1:Int)=(b1:Int):=by omega
  simp[h1,this,af]
def bcl (L:List (Nat×Bool)):List (AV×AV):=L.map fun s=>(sk s,.bool true)
theorem vq (s:Nat×Bool):∀L:List (Nat×Bool),fA (sk s) (bcl L)=some (if s∈L then some (.bool true) else none)
 | []=>rfl
 | a::r=>by
  rw[bcl,List.map_cons,fA,Ba]
  by_cases e:s=a
  ·subst e;simp
  ·have ih:=vq s r
   rw[bcl] at ih
   simp only[decide_eq_false e]
   rw[ih]
   simp[e]
theorem zm {s:Nat×Bool}:∀{L:List (Nat×Bool)},s ∉ L->qD (sk s) (.bool true) (bcl L)=some (bcl (L++[s]))
 | [],_=>rfl
 | a::r,h=>by
  rw[bcl,List.map_cons,qD,Ba]
  have e:s≠a:=fun e=>h (e ▸ List.mem_cons_self ..)
  have ih:=zm (L:=r) fun h'=>h (List.mem_cons_of_mem _ h')
  rw[bcl] at ih
  rw[show decide (s=a)=false from decide_eq_false e]
  show (match qD (sk s) (AV.bool true) (List.map (fun s=>(sk s,AV.bool true)) r) with | some r=>some ((sk a,AV.bool true)::r) | none=>none)=_
  rw[ih]
  rfl
def ktS:Nat:=match C0.P.underlying 144 with | some (.map k _)=>k | _=>0
theorem A7:C0.P.underlying 144=some (.map ktS 4):=by kernel_rfl
theorem Cg (s:Nat×Bool):gF (bA C0.P ktS) (sk s)=true:=by
 have e:bA C0.P ktS=.flat [.int .i64,.bool]:=by kernel_rfl
 rw[e];rfl
theorem BC:j_ C0.P 4=some (.bool false):=by kernel_rfl
theorem BK (d:Nat)(rd:Option Nat)(t:T)(g:G):(bE C0 (.makeMap 144 none)).run (I C0) d rd t g=.upd (.hmap g.nx) (g.new (.map [])):=by kernel_rfl
theorem xw {d:Nat}{rd:Option Nat}{t:T}{g:G}{a b id:Nat}{s:Nat×Bool}{L:List (Nat×Bool)}(h1:tat t a=.hmap id)(h2:tat t b=sk s)(hg:g.h.get id=.map (bcl L)):(bE C0 (.lookup 144 (.tmp a) (.tmp b) false)).run (I C0) d rd t g=.val (.bool (decide (s∈L))):=by
 have:=sS (C:=C0) (a:=a) (b:=b) (ok:=false) A7 BC d rd t g
 rw[show (SO.raw (.lookup 144 (.tmp a) (.tmp b) false)).run C0 d rd t g=(bE C0 (.lookup 144 (.tmp a) (.tmp b) false)).run (I C0) d rd t g from rfl] at this
 rw[this]
 unfold bz
 simp only[h1,h2,Cg,G.get_eq,hg,vq]
 by_cases h:s∈L
 ·simp[h,af]
 ·simp[h,af]
theorem xK {C:Cfg}{ty kt et a b:Nat}(hu:C.P.underlying ty=some (.map kt et))(d:Nat)(rd:Option Nat)(t:T)(g:G):(bE C (.mapUpdate ty (.tmp a) (.tmp b) (.const (.bool true)))).run (I C) d rd t g=bG (bA C.P kt) (fun t=>tat t a) (fun t=>tat t b) (fun _=>.bool true) t g:=by
 obtain ⟨s1,e1,r1⟩:=aM (C:=C) (x:=.tmp a) (o:=.t a) rfl
 obtain ⟨s2,e2,r2⟩:=aM (C:=C) (x:=.tmp b) (o:=.t b) rfl
 obtain ⟨s3,e3,r3⟩:=aM (C:=C) (x:=.const (.bool true)) (o:=.k (.bool true)) rfl
 rw[aZ (s:=⟨bG (bA C.P kt) s1.run s2.run s3.run⟩) rfl (by simp only[bm,e1,e2,e3,hu])]
 rw[show s1.run=fun t=>tat t a from funext r1,show s2.run=fun t=>tat t b from funext r2,show s3.run=fun _=>.bool true from funext r3]
theorem Cb {d:Nat}{rd:Option Nat}{t:T}{g:G}{a b id:Nat}{s:Nat×Bool}{L:List (Nat×Bool)}(h1:tat t a=.hmap id)(h2:tat t b=sk s)(hg:g.h.get id=.map (bcl L))(hs:s ∉ L):(bE C0 (.mapUpdate 144 (.tmp a) (.tmp b) (.const (.bool true)))).run (I C0) d rd t g=.upd .undef (g.put id (.map (bcl (L++[s])))):=by
 rw[xK A7]
 unfold bG
 simp only[h1,h2,Cg,G.get_eq,hg,zm hs]
def zC:AV:=.clo N.aH [] [.hptr 5 0 0 0,.hptr 1 0 0 0,.hptr 4 0 0 0,.hptr 0 0 0 0,.hptr 6 0 0 0,.hptr 2 0 0 0]
structure GrI (p c:List Nat) (pa ch:AV) (Zs:Nat):Prop where
 hp:∀x∈p,x<2 ^ p.length
 n8:p.length<=8
 rp:∀h,aw h 1 pa=some (p.map cu)
 rc:∀h,aw h 1 ch=some (c.map cu)
 yp:0<p.length->nY pa=true
 yc:0<p.length->nY ch=true
 cl:c.length=p.length
 cb:∀v u,(c[v]?.getD 0).testBit u=true↔Eg p v u
 zs:Zs<2 ^ p.length
structure VI (p:List Nat) (pa ch:AV) (Zs:Nat) (L:List (Nat×Bool)) (h:H):Prop where
 g0:h.get 0=.cells 2 [[pa,ch]] 0 false false
 z:h.get 1=.cells 1 [[.int .u64 (Zs:Int)]] 0 false false
 a:h.get 2=.cells 1 [[.int .u64 (S.up p Zs p.length:Int)]] 0 false false
 m:h.get 3=.map (bcl L)
 r:h.get 4=.cells 1 [[.int .u64 (S.aa (iD (Bt Zs) L) p.length:Int)]] 0 false false
 p:h.get 5=.cells 1 [[.hmap 3]] 0 false false
 v:h.get 6=.cells 1 [[zC]] 0 false false
theorem VI.fr {p:List Nat}{pa ch:AV}{Zs:Nat}{L:List (Nat×Bool)}{h h':H}(hi:VI p pa ch Zs L h)(hh:∀i,i<7->h'.get i=h.get i):VI p pa ch Zs L h' :=
 ⟨by rw[hh 0 (by omega),hi.g0],by rw[hh 1 (by omega),hi.z],by rw[hh 2 (by omega),hi.a],by rw[hh 3 (by omega),hi.m],by rw[hh 4 (by omega),hi.r],by rw[hh 5 (by omega),hi.p],by rw[hh 6 (by omega),hi.v]⟩
theorem GrI.cb8 {p c:List Nat}{pa ch:AV}{Zs:Nat}(h:GrI p c pa ch Zs)(v:Nat):c[v]?.getD 0<256:=by
 have:c[v]?.getD 0<2 ^ p.length:=Nat.lt_pow_two_of_testBit _ fun u hu=>by
  cases hb:(c[v]?.getD 0).testBit u with
  | false=>rfl
  | true =>
   have:=(j8 h.hp ((h.cb v u).1 hb)).2
   omega
 have h2:=Nat.pow_le_pow_right (show 0<2 by decide) h.n8
 omega
theorem GrI.pb8 {p c:List Nat}{pa ch:AV}{Zs:Nat}(h:GrI p c pa ch Zs)(v:Nat):Par p v<256:=by
 have:=jz h.hp (v:=v)
 have h2:=Nat.pow_le_pow_right (show 0<2 by decide) h.n8
 omega
theorem AR (d:Nat)(s:AV)(g:G):cg C0 (I C0) d zC [s] g=orF ((I C0).call d N.aH [s,.hptr 5 0 0 0,.hptr 1 0 0 0,.hptr 4 0 0 0,.hptr 0 0 0 0,.hptr 6 0 0 0,.hptr 2 0 0 0] g):=by kernel_rfl
abbrev RX (p:List Nat)(Zs:Nat):=Sx (Eg p) (Bt Zs) (An (Eg p) (Bt Zs))
def LVs (q:Nat):List (Nat×AV):=[(1,.hptr 5 0 0 0),(2,.hptr 1 0 0 0),(3,.hptr 4 0 0 0),(4,.hptr 0 0 0 0),(5,.hptr 6 0 0 0),(6,.hptr 2 0 0 0),(7,.hptr q 0 0 0)]
def rm (p:List Nat)(pa ch:AV)(Zs:Nat)(Gd:Nat×Bool->Prop)(d k:Nat):Prop :=
 ∀(L:List (Nat×Bool)) (s:Nat×Bool) (g:G) (K:AV->G->Prop) (D:ADf->Prop),S.aC p.length L<=k->Gd s->(∀s∈L,Gd s)->7<=g.nx->VI p pa ch Zs L g.h ->
  (∀g' L',VI p pa ch Zs L' g'.h->g.nx<=g'.nx->(∀i,7<=i->i<g.nx->g'.h.get i=g.h.get i)->Dst (RX p Zs) Gd L L'->s∈L'->K (.tup []) g') ->
  (cg C0 (I C0) d zC [sk s] g).sat K g D
structure VJ (p:List Nat) (pa ch:AV) (Zs:Nat) (Gd:Nat×Bool->Prop) (L:List (Nat×Bool)) (b:Bool) (l:List Nat) (g0:G) (j:Nat) (h:H):Prop where
 ex:∃L',VI p pa ch Zs L' h/\Dst (RX p Zs) Gd L L'/\∀i v,i<j->l[i]?=some v->(v,b)∈L'
 fr:∀i,7<=i->i<g0.nx->h.get i=g0.h.get i
theorem yJ {p:List Nat}{pa ch:AV}{Zs:Nat}{Gd:Nat×Bool->Prop}{d k q set:Nat}{L:List (Nat×Bool)}{Q:QT}{t:T}{df:List ADf}{g:G}(hd:0<d)(hv:rm p pa ch Zs Gd d k)(hk:S.aC p.length L<=k)(hs:set<256)
  (hg:∀v∈S.af set,Gd (v,true)) (hL:∀s∈L,Gd s) (hI:VI p pa ch Zs L g.h) (hn:7<=g.nx) (ht:St t (LVs q)) (hy:tat t 32=mbC set)
  (fin:∀g' L',VI p pa ch Zs L' g'.h->g.nx+2<=g'.nx->g'.h.get g.nx=.dfr true->(∀i,7<=i->i<g.nx->g'.h.get i=g.h.get i)->Dst (RX p Zs) Gd L L'->(∀v∈S.af set,(v,true)∈L')->Q .norm t (.mark g.nx::df) g') :
  wp C0 d none (.rng 74 (.t 32) [33] a_ ba) Q t df g:=by
 obtain ⟨h1,h2,h3,h4,h5,h6,h7,-⟩:=ht
 refine qB hd hs hy (by decide) (fun j h=>VJ p pa ch Zs Gd L true (S.af set) g j h) ?_ ⟨⟨L,hI,Dst.refl hL,fun i v h=>absurd h (Nat.not_lt_zero i)⟩,fun _ _ _=>rfl⟩ ?_ ?_
 ·rintro j h h' hh ⟨⟨L1,i1,i2,i3⟩,f1⟩
  exact ⟨⟨L1,i1.fr fun i hi=>hh i (by omega),i2,i3⟩,fun i h1 h2=>by rw[hh i h2,f1 i h1 h2]⟩
 ·rintro j v g1 hj ⟨⟨L1,i1,i2,i3⟩,f1⟩ hn1
  simp only[sz,simprocAttr,a_]
  intro g2 hn2 hf2
  have i1':VI p pa ch Zs L1 g2.h:=i1.fr fun i hi=>hf2 i (by omega)
  simp only[sz,simprocAttr,ba,h5,i1'.v]
  refine hv L1 (v,true) g2 _ _ (Nat.le_trans (mV i2.pre) hk) (hg v (List.mem_of_getElem? hj)) i2.good (by omega) i1' fun g3 L2 j1 j2 j3 j4 j5=>?_
  simp only[sz,simprocAttr]
  refine ⟨j2,fun i a b=>j3 i (by omega) b,.inl ⟨rfl,⟨L2,j1,i2.tr j4,fun i u hi hu=>?_⟩,fun i a b=>?_⟩⟩
  ·by_cases e:i=j
   ·subst e
    rw[hj] at hu
    injection hu with hu
    subst hu
    exact j5
   ·exact j4.pre _ (i3 i u (by omega) hu)
  ·rw[j3 i a (by omega),hf2 i (by omega),f1 i a b]
 ·rintro g' ⟨⟨L1,i1,i2,i3⟩,f1⟩ hn' hdf
  refine fin g' L1 i1 hn' hdf f1 i2 fun v hv=>?_
  obtain ⟨i,hi,e⟩:=List.mem_iff_getElem.1 hv
  exact i3 i v hi (by rw[List.getElem?_eq_getElem hi,e])
theorem yq {p:List Nat}{pa ch:AV}{Zs:Nat}{Gd:Nat×Bool->Prop}{d k q set:Nat}{L:List (Nat×Bool)}{Q:QT}{t:T}{df:List ADf}{g:G}(hd:0<d)(hv:rm p pa ch Zs Gd d k)(hk:S.aC p.length L<=k)(hs:set<256)
  (hg:∀v∈S.af set,Gd (v,false)) (hL:∀s∈L,Gd s) (hI:VI p pa ch Zs L g.h) (hn:7<=g.nx) (ht:St t (LVs q)) (hy:tat t 68=mbC set)
  (fin:∀g' L',VI p pa ch Zs L' g'.h->g.nx+2<=g'.nx->g'.h.get g.nx=.dfr true->(∀i,7<=i->i<g.nx->g'.h.get i=g.h.get i)->Dst (RX p Zs) Gd L L'->(∀v∈S.af set,(v,false)∈L')->Q .norm t (.mark g.nx::df) g') :
  wp C0 d none (.rng 74 (.t 68) [69] bc bb) Q t df g:=by
 obtain ⟨h1,h2,h3,h4,h5,h6,h7,-⟩:=ht
 refine qB hd hs hy (by decide) (fun j h=>VJ p pa ch Zs Gd L false (S.af set) g j h) ?_ ⟨⟨L,hI,Dst.refl hL,fun i v h=>absurd h (Nat.not_lt_zero i)⟩,fun _ _ _=>rfl⟩ ?_ ?_
 ·rintro j h h' hh ⟨⟨L1,i1,i2,i3⟩,f1⟩
  exact ⟨⟨L1,i1.fr fun i hi=>hh i (by omega),i2,i3⟩,fun i h1 h2=>by rw[hh i h2,f1 i h1 h2]⟩
 ·rintro j v g1 hj ⟨⟨L1,i1,i2,i3⟩,f1⟩ hn1
  simp only[sz,simprocAttr,bc]
  intro g2 hn2 hf2
  have i1':VI p pa ch Zs L1 g2.h:=i1.fr fun i hi=>hf2 i (by omega)
  simp only[sz,simprocAttr,bb,h5,i1'.v]
  refine hv L1 (v,false) g2 _ _ (Nat.le_trans (mV i2.pre) hk) (hg v (List.mem_of_getElem? hj)) i2.good (by omega) i1' fun g3 L2 j1 j2 j3 j4 j5=>?_
  simp only[sz,simprocAttr]
  refine ⟨j2,fun i a b=>j3 i (by omega) b,.inl ⟨rfl,⟨L2,j1,i2.tr j4,fun i u hi hu=>?_⟩,fun i a b=>?_⟩⟩
  ·by_cases e:i=j
   ·subst e
    rw[hj] at hu
    injection hu with hu
    subst hu
    exact j5
   ·exact j4.pre _ (i3 i u (by omega) hu)
  ·rw[j3 i a (by omega),hf2 i (by omega),f1 i a b]
 ·rintro g' ⟨⟨L1,i1,i2,i3⟩,f1⟩ hn' hdf
  refine fin g' L1 i1 hn' hdf f1 i2 fun v hv=>?_
  obtain ⟨i,hi,e⟩:=List.mem_iff_getElem.1 hv
  exact i3 i v hi (by rw[List.getElem?_eq_getElem hi,e])
theorem uj {s v:Nat}:decide (((s / 2 ^ v &&& 1:Nat):Int)=1)=s.testBit v:=by
 rw[Nat.and_one_is_mod,Nat.testBit_eq_decide_div_mod_eq]
 rw[Bool.eq_iff_iff,decide_eq_true_iff,decide_eq_true_iff]
 omega
theorem io {s v:Nat}:decide (((s / 2 ^ v &&& 1:Nat):Int)=0) = !s.testBit v:=by
 rw[Nat.and_one_is_mod,Nat.testBit_eq_decide_div_mod_eq]
 have:=Nat.mod_lt (s / 2 ^ v) (show 0<2 by decide)
 by_cases h:s / 2 ^ v % 2=1
 ·rw[h];decide
 ·rw[show s / 2 ^ v % 2=0 by omega];decide
theorem jc {s v:Nat}(h:s<18446744073709551616):aT .and (.int .u64 ((s / 2 ^ v:Nat):Int)) (.int .u64 1)=.val (.int .u64 ((s / 2 ^ v &&& 1:Nat):Int)) :=
 da (s / 2 ^ v) 1 (Nat.lt_of_le_of_lt (Nat.div_le_self _ _) h) (by decide)
theorem iZ {n:Nat}(h:n<=8):2 ^ n<=256:=by
 have:=Nat.pow_le_pow_right (show 0<2 by decide) h
 omega
theorem B_ {p c:List Nat}{pa ch:AV}{Zs:Nat}{Gd:Nat×Bool->Prop}{d k q v:Nat}{dn:Bool}{L:List (Nat×Bool)}{Q:QT}{t:T}{df:List ADf}{g:G}(hd:0<d)(hG:GrI p c pa ch Zs)(hv:rm p pa ch Zs Gd d k)(hk:S.aC p.length L<=k)(hvn:v<p.length)
  (hg:∀u,RX p Zs (v,dn) (u,false)->Gd (u,false)) (hL:∀s∈L,Gd s) (hI:VI p pa ch Zs L g.h) (ht:St t (LVs q)) (hq:g.h.get q=.cells 2 [[.int .i64 (v:Int),.bool dn]] 0 false false) (hq7:7<=q) (hqn:q<g.nx)
  (fin:∀e t' df' g' L',(e=.ret\/e=.norm)->(df'=df\/∃m,df'=.mark m::df/\g'.h.get m=.dfr true/\g.nx<=m)->VI p pa ch Zs L' g'.h->g.nx<=g'.nx->(∀i,7<=i->i<g.nx->g'.h.get i=g.h.get i)->Dst (RX p Zs) Gd L L'->(∀u,RX p Zs (v,dn) (u,false)->(u,false)∈L')->Q e t' df' g') :
  wp C0 d none be Q t df g:=by
 obtain ⟨h1,h2,h3,h4,h5,h6,h7,-⟩:=ht
 have h256:=iZ hG.n8
 have hz:=hG.zs
 have hup:=qt hG.hp hG.zs p.length
 have lq1:aC (.cells 2 [[.int .i64 (v:Int),.bool dn]] 0 false false) 0 0 false 1 0=.val (.int .i64 (v:Int)):=rfl
 have lq2:aC (.cells 2 [[.int .i64 (v:Int),.bool dn]] 0 false false) 0 0 false 1 1=.val (.bool dn):=rfl
 have lg1:aC (.cells 2 [[pa,ch]] 0 false false) 0 0 false 1 0=.val pa:=rfl
 have hpv:p[v]?=some (Par p v):=by simp[Par,List.getElem?_eq_getElem hvn]
 have u1:v<(p.map cu).length:=by simpa using hvn
 have u2:(p.map cu)[v]?=some (cu (Par p v)):=by rw[List.getElem?_map,hpv];rfl
 have hyp:=hG.yp (by omega)
 have kM:=fun g=>iB (d:=d) (s:=Par p v) (g:=g) hd
 obtain ⟨As,hAs⟩:∃As,As=S.up p Zs p.length:=⟨_,rfl⟩
 have hA:=hI.a
 rw[<-hAs] at hA hup
 have hAn:As.testBit v=true↔An (Eg p) (Bt Zs) v:=by rw[hAs];exact Bv hG.hp hG.zs v
 obtain ⟨stop,hstop,hst,hgo⟩:∃stop:Bool,(stop=if dn then !As.testBit v else Zs.testBit v)/\(stop=true->∀u,¬RX p Zs (v,dn) (u,false))/\(stop=false->∀u,Eg p u v->RX p Zs (v,dn) (u,false)):=by
  refine ⟨_,rfl,fun h u hr=>?_,fun h u hu=>?_⟩
  rotate_left
  ·refine .up (fun hd=>?_) (fun hd hz=>?_) hu
   ·rw[if_pos hd,Bool.not_eq_false'] at h
    exact hAn.1 h
   ·subst hd
    rw[if_neg (by decide)] at h
    have:Zs.testBit v=true:=hz
    rw[h] at this;cases this
  cases hr with
  | up a b e =>
   cases dn with
   | true =>
    rw[if_pos rfl,Bool.not_eq_true'] at h
    have:=hAn.2 (a rfl)
    rw[h] at this;cases this
   | false =>
    rw[if_neg (by decide)] at h
    exact b rfl h
 have rest:stop=false->∀t,St t (LVs q)->wp C0 d none (sQ [oF 61 0 4,oF 62 0 61,oL 63 62,oF 64 0 7,oL 65 64,oX 66 63 65,oL 67 66,o 68 (.call N.ah [.t 67])] (.blk 2 (.rng 74 (.t 68) [69] bc bb))) Q t df g:=by
  intro hns t ht
  obtain ⟨h1,h2,h3,h4,h5,h6,h7,-⟩:=ht
  simp only[sz,simprocAttr,h4,h7,hq,lq1,hI.g0,lg1,hG.rp,u1,u2,cu,hyp,kM]
  refine yq (q:=q) (L:=L) (set:=Par p v) hd hv hk (hG.pb8 v) (fun u hu=>?_) hL hI (by omega) (by simp[St,LVs,sx,h1,h2,h3,h4,h5,h6,h7]) (by simp[sx]) ?_
  ·exact hg u (hgo hns u ((jE (hG.pb8 v)).1 hu))
  ·intro g' L' hI' hn' hdf hfr hD hall
   simp only[sz,simprocAttr]
   exact fin .norm _ _ g' L' (.inr rfl) (.inr ⟨g.nx,rfl,hdf,Nat.le_refl _⟩) hI' (by omega) hfr hD fun u hu=>hall u ((jE (hG.pb8 v)).2 (by cases hu with | up _ _ e=>exact e))
 simp only[be]
 cases dn with
 | true =>
  rw[if_pos rfl] at hstop
  cases hb:As.testBit v with
  | false =>
   rw[hb] at hstop
   simp only[sz,simprocAttr,h2,h4,h6,h7,hq,lq1,lq2,hA,aP _ _ _ (show As<18446744073709551616 by omega),jc (show As<18446744073709551616 by omega),io,hb]
   exact fin .ret _ df g L (.inl rfl) (.inl rfl) hI (Nat.le_refl _) (fun _ _ _=>rfl) (Dst.refl hL) fun u hu=>absurd hu (hst hstop u)
  | true =>
   rw[hb] at hstop
   refine oP (P:=fun t' df' g'=>df'=df/\g'=g/\St t' (LVs q)) ?_ ?_
   ·simp only[sz,simprocAttr,h2,h4,h6,h7,hq,lq1,lq2,hA,aP _ _ _ (show As<18446744073709551616 by omega),jc (show As<18446744073709551616 by omega),io,hb]
    simp[St,LVs,sx,h1,h2,h3,h4,h5,h6,h7]
   ·rintro t df g ⟨rfl,rfl,ht⟩
    exact rest hstop t ht
 | false =>
  rw[if_neg (by decide)] at hstop
  cases hb:Zs.testBit v with
  | true =>
   rw[hb] at hstop
   simp only[sz,simprocAttr,h2,h4,h6,h7,hq,lq1,lq2,hI.z,aP _ _ _ (show Zs<18446744073709551616 by omega),jc (show Zs<18446744073709551616 by omega),uj,hb]
   exact fin .ret _ df g L (.inl rfl) (.inl rfl) hI (Nat.le_refl _) (fun _ _ _=>rfl) (Dst.refl hL) fun u hu=>absurd hu (hst hstop u)
  | false =>
   rw[hb] at hstop
   refine oP (P:=fun t' df' g'=>df'=df/\g'=g/\St t' (LVs q)) ?_ ?_
   ·simp only[sz,simprocAttr,h2,h4,h6,h7,hq,lq1,lq2,hI.z,aP _ _ _ (show Zs<18446744073709551616 by omega),jc (show Zs<18446744073709551616 by omega),uj,hb]
    simp[St,LVs,sx,h1,h2,h3,h4,h5,h6,h7]
   ·rintro t df g ⟨rfl,rfl,ht⟩
    exact rest hstop t ht
theorem mq {α:Type} [Rp α]{k:Nat}{l:List α}{v:AV}(hl:SlR NoP k .nil l v)(h0:0<l.length):nY v=true:=by
 have h:=hl.2
 unfold SlV at h
 split at h
 ·rw[h] at h0;simp at h0
 ·rw[h] at h0;simp at h0
 ·rfl
 ·exact h.1.elim
 ·exact h.elim
def GrV (p:List Nat):VS:=wZ (Agg (S.gr p)) (One (if S.aB p then (0:Int) else 70))
structure GrB (pa cv:AV) (q:Nat) (Y:List Nat) (g:G):Prop where
 h0:g.h.get 0=.cells 2 [[.nils,.nils]] 0 false false
 hq:g.h.get q=.cells 2 [[pa,cv]] 0 false false
 hs:Own g 1 cv 1 (Y.map cu)
 q1:1<=q
 qn:q<g.nx
 d1:vid cv≠some q
def LRg (pa:AV)(q:Nat):List (Nat×AV):=[(0,pa),(2,.hptr 0 0 0 0),(4,.hptr q 0 0 0)]
section
variable {d:Nat}{p:List Nat}{pa cv:AV}{q:Nat}
theorem xp {Q:QT}{t:T}{g:G}{j x:Nat}(n8:p.length<=8)(hx:p[j]?=some x)(hxl:x<18446744073709551616)
  (h0:GrB pa cv q (S.aq p j 0) g) (ht:St t ((28,pa)::(29,.int .i64 (p.length:Int))::(30,.int .i64 (j:Int))::(5,.int .i64 (j:Int))::(6,.int .u64 (x:Int))::LRg pa q)) (h43:tat t 43=.int .i64 0) (h42:tat t 42=.int .i64 (p.length:Int))
  (fin:∀t g',St t ((28,pa)::(29,.int .i64 (p.length:Int))::(30,.int .i64 (j:Int))::(5,.int .i64 (j:Int))::(6,.int .u64 (x:Int))::LRg pa q)->GrB pa cv q (S.aq p j p.length) g'->Q (.exit 2) t [] g'):wpL (wp C0 d none dV) Q t [] g:=by
 have hjl:=(List.getElem?_eq_some_iff.1 hx).1
 simp only[dV]
 refine cp (m:=p.length) (by omega) (fun i t df g'=>df=[]/\St t ((28,pa)::(29,.int .i64 (p.length:Int))::(30,.int .i64 (j:Int))::(5,.int .i64 (j:Int))::(6,.int .u64 (x:Int))::LRg pa q)/\GrB pa cv q (S.aq p j i) g') ⟨rfl,ht,h0⟩ h43 h42 (by decide)
  (by rintro i t df g v s (rfl | rfl | rfl) ⟨a1,⟨b1,b2,b3,b4,b5,b6,b7,b8,-⟩,c1⟩<;>exact ⟨a1,by simp[St,LRg,sx,b1,b2,b3,b4,b5,b6,b7,b8],c1⟩) ?_ ?_
 ·rintro i t df g hi ⟨rfl,⟨h28,h29,h30,h5,h6,h0,h2,h4,-⟩,hB⟩ h43 h42
  obtain ⟨old,hold⟩:∃old,old=S.aa (fun v=>Eg p i v/\(v<j\/v=j/\i<i)) p.length:=⟨_,rfl⟩
  have hst:=x5 hi hjl n8 hx
  have hYg:(S.aq p j i)[i]?=some old:=by rw[hold];exact lz hi
  rw[<-hold] at hst
  have hol:old<18446744073709551616:=by
   have:=mi (fun v=>Eg p i v/\(v<j\/v=j/\i<i)) p.length
   have:=iZ n8
   omega
  clear hold
  obtain ⟨ad,had⟩:∃ad,ad=(x / 2 ^ i &&& 1)*2 ^ j % 18446744073709551616:=⟨_,rfl⟩
  have hsl:=u4 .i64 (x / 2 ^ i &&& 1) j
  have hadl:ad<18446744073709551616:=by rw[had];exact Nat.mod_lt _ (by decide)
  rw[<-had] at hst hsl
  clear had
  have hYr:((S.aq p j i).map cu)[i]?=some (cu old):=by rw[List.getElem?_map,hYg];rfl
  have hYl:i<((S.aq p j i).map cu).length:=by simp[kY,hi]
  have hsr:=hB.hs.rows
  have hor:=g7 old ad hol hadl
  simp only[sz,simprocAttr,sf,h4,h5,h6,h43,hB.hq,hsr,hYl,hYr,cu,aP _ _ _ hxl,jc hxl,hsl,hor]
  refine pB (v:=cv) (sz:=1) (n:=1) (i:=i) (off:=0) (x:=.int .u64 ((old ||| ad:Nat):Int)) (row':=cu (old ||| ad)) (hB.hs.fr (by simp;omega) fun i _=>by simp) hYr rfl rfl rfl fun g4 hu4 n4 f4=>?_
  rw[show (((S.aq p j i).map cu).set i (cu (old ||| ad)))=(S.aq p j (i+1)).map cu from by rw[<-List.map_set,hst]] at hu4
  have f4':∀i,vid cv≠some i->g4.h.get i=g.h.get i:=fun i hi=>by rw[f4 i hi];simp
  have n4':g.nx<=g4.nx:=by rw[n4];simp;omega
  have q1:=hB.q1
  have qn:=hB.qn
  simp only[sx,sy,↓reduceIte,Nat.reduceEqDiff]
  refine ⟨?_,⟨by simp[St,LRg,sx,h0,h2,h4,h5,h6,h28,h29,h30],⟨?_,?_,?_,q1,?_,hB.d1⟩⟩,h43,h42⟩
  ·simp only[List.reverse_cons,List.reverse_nil,List.nil_append,List.cons_append]
   exact bU [false,false,false,false,false,false,false,false,false,false,false,false,false,true] [] (by simp[All2,ah,aF]) (by decide) (by simp)
  ·simp only[bumpG_h]
   rw[f4' 0 fun e=>by have:=(hB.hs.lt e).1;omega,hB.h0]
  ·simp only[bumpG_h]
   rw[f4' q hB.d1,hB.hq]
  ·exact hu4.fr (by simp) fun i _=>by simp
  ·simp;omega
 ·rintro t df g ⟨rfl,ht,h⟩
  exact fin t g ht h
theorem qi {h:H}(hn:¬GOk p):∃P,GrV p P 0 h (.tup [.agg [.nils,.nils],.int .i64 70]):=by
 have hf:=BX hn
 refine ⟨fun _=>True,_,_,rfl,⟨_,rfl,?_⟩,?_⟩
 ·rw[S.gr,hf]
  exact fM.2 ⟨_,_,rfl,bB.2 ⟨.nils,rfl,by show 0<9223372036854775808;decide,rfl⟩,bB.2 ⟨.nils,rfl,by show 0<9223372036854775808;decide,rfl⟩⟩
 ·rw[hf];exact jA.2 rfl
theorem yu {Q:QT}{t:T}{g:G}(n8:p.length<=8)(hlt:∀x∈p,x<18446744073709551616)(vl:∀g,ib .slice pa g=.val (.int .i64 (p.length:Int)))(rp:∀h,aw h 1 pa=some (p.map cu))(yp:nY pa=true)
  (h0:GrB pa cv q (S.aq p 0 0) g) (ht:St t (LRg pa q)) (h28:tat t 28=pa) (h30:tat t 30=.int .i64 0) (h29:tat t 29=.int .i64 (p.length:Int))
  (bad:∀t g,¬GOk p->g.h.get 0=.cells 2 [[.nils,.nils]] 0 false false->tat t 2=.hptr 0 0 0 0->tat t 3=.int .i64 70->Q .ret t [] g)
  (fin:∀t g,St t (LRg pa q)->GrB pa cv q (S.aq p p.length 0) g->(∀x∈p,x<2 ^ p.length)->Q (.exit 0) t [] g):wpL (wp C0 d none dS) Q t [] g:=by
 simp only[dS,fY]
 refine cp (m:=p.length) (by omega) (fun j t df g'=>df=[]/\St t ((28,pa)::LRg pa q)/\GrB pa cv q (S.aq p j 0) g'/\∀x∈p.take j,x<2 ^ p.length) ⟨rfl,⟨h28,ht⟩,h0,by simp⟩ h30 h29 (by decide)
  (by rintro j t df g v s (rfl | rfl | rfl) ⟨a1,⟨b1,b2,b3,b4,-⟩,c1⟩<;>exact ⟨a1,by simp[St,LRg,sx,b1,b2,b3,b4],c1⟩) ?_ ?_
 ·rintro j t df g hj ⟨rfl,⟨h28,h0,h2,h4,-⟩,hB,hok⟩ h30 h29
  obtain ⟨x,hx,htk,hxm⟩:=fS hj
  have u1:j<(p.map cu).length:=by simpa using hj
  have u2:(p.map cu)[j]?=some (cu x):=by rw[List.getElem?_map,hx];rfl
  have hxl:=hlt x hxm
  by_cases c1:((x / 2 ^ p.length:Nat):Int)=0
  ·have hx2:x<2 ^ p.length:=by
    have h0:x / 2 ^ p.length=0:=by omega
    rcases Nat.div_eq_zero_iff.1 h0 with h | h
    ·exact absurd h (Nat.ne_of_gt (Nat.pow_pos (by decide)))
    ·exact h
   simp only[sz,simprocAttr,h28,h30,rp,u1,u2,cu,vl,h0,aP _ _ _ hxl,c1]
   refine xp (pa:=pa) (cv:=cv) (q:=q) n8 hx hxl hB (by simp[St,LRg,sx,h0,h2,h4,h28,h29,h30]) (by simp[sx]) (by simp[sx]) ?_
   rintro t g' ⟨h28,h29,h30,h5,h6,h0,h2,h4,-⟩ hB
   simp only[sz,simprocAttr]
   refine ⟨⟨by simp[St,LRg,sx,h0,h2,h4,h28],by rw[<-xP];exact hB,fun y hy=>?_⟩,h30,h29⟩
   rw[htk] at hy
   rcases List.mem_append.1 hy with h | h
   ·exact hok y h
   ·rw[List.mem_singleton.1 h];exact hx2
  ·simp only[sz,simprocAttr,h28,h30,h2,rp,u1,u2,cu,vl,h0,aP _ _ _ hxl,c1,hB.h0]
   refine bad _ _ (fun hG=>c1 ?_) (by simp[H.get_put]) (by simp[sx,h2]) (by simp[sx])
   rw[Nat.div_eq_of_lt (hG.hp x hxm)];rfl
 ·rintro t df g ⟨rfl,⟨h28,ht⟩,h,hok⟩
  rw[List.take_length] at hok
  exact fin t g ht h hok
end
end
end Hx
end
section
namespace Hx
open Go
noncomputable section
section
variable {d:Nat}{p:List Nat}{pa cv:AV}{q:Nat}
theorem y_ {Q:QT}{t:T}{g:G}{L:List Nat}{D j0:Nat}(n8:p.length<=8)(hlt:∀x∈p,x<18446744073709551616)(rp:∀h,aw h 1 pa=some (p.map cu))(hO:th p L)(hD:zk D L)(hG:tw p D)
  (ht:St t ((8,.int .u64 (D:Int))::(64,.int .i64 (p.length:Int))::(65,.int .i64 (j0:Int))::LRg pa q)) (h69:tat t 69=pa) (h71:tat t 71=.int .i64 0) (h70:tat t 70=.int .i64 (p.length:Int))
  (yes:∀t v,St t ((8,.int .u64 ((D ||| S.az v:Nat):Int))::(64,.int .i64 (p.length:Int))::(65,.int .i64 (j0:Int))::LRg pa q)->th p (L++[v])->zk (D ||| S.az v) (L++[v])->tw p (D ||| S.az v)->Q (.exit 5) t [] g)
  (no:∀t,St t (LRg pa q)->(∀v,v<p.length->D.testBit v=true\/¬Sub (Par p v) D)->Q (.exit 6) t [] g):wpL (wp C0 d none dT) Q t [] g:=by
 simp only[dT]
 refine cp (m:=p.length) (by omega) (fun j t df g'=>df=[]/\g'=g/\St t ((69,pa)::(8,.int .u64 (D:Int))::(64,.int .i64 (p.length:Int))::(65,.int .i64 (j0:Int))::LRg pa q)/\∀v,v<j->D.testBit v=true\/¬Sub (Par p v) D)
  ⟨rfl,rfl,⟨h69,ht⟩,fun v hv=>by omega⟩ h71 h70 (by decide)
  (by rintro j t df g v s (rfl | rfl | rfl) ⟨a1,a2,⟨b1,b2,b3,b4,b5,b6,b7,-⟩,c1⟩<;>exact ⟨a1,a2,by simp[St,LRg,sx,b1,b2,b3,b4,b5,b6,b7],c1⟩) ?_ ?_
 ·rintro j t df g' hj ⟨rfl,rfl,⟨h69,h8,h64,h65,h0,h2,h4,-⟩,hall⟩ h71 h70
  obtain ⟨x,hx,-,hxm⟩:=fS hj
  have hpj:Par p j=x:=by simp[Par,hx]
  have hxl:=hlt x hxm
  have u1:j<(p.map cu).length:=by simpa using hj
  have u2:(p.map cu)[j]?=some (cu x):=by rw[List.getElem?_map,hx];rfl
  have b3:=gg x D hxl hD.1
  have next:(D.testBit j=true\/¬Sub (Par p j) D)->∀v,v<j+1->D.testBit v=true\/¬Sub (Par p v) D:=fun h v hv=>by
   by_cases e:v=j
   ·subst e;exact h
   ·exact hall v (by omega)
  cases hb:D.testBit j with
  | true =>
   simp only[sz,simprocAttr,h69,h71,h8,rp,u1,u2,cu,aP _ _ _ hD.1,jc hD.1,io,hb]
   exact ⟨⟨by simp[St,LRg,sx,h0,h2,h4,h8,h64,h65,h69],next (.inl hb)⟩,h70⟩
  | false =>
   by_cases c2:((x ^^^ (x &&& D):Nat):Int)=0
   ·have hd0:S.aO x D=0:=by simpa [S.aO] using c2
    have hsub:=pq.1 hd0
    have hjL:j ∉ L:=fun h=>by
     have:=(hD.2 j).2 h
     rw[hb] at this;cases this
    have hone:aT .shl (.int .u64 1) (.int .i64 (j:Int))=.val (.int .u64 (S.az j:Int)):=aK .i64 j
    simp only[sz,simprocAttr,h69,h71,h8,rp,u1,u2,cu,aP _ _ _ hD.1,jc hD.1,io,hb,b3,c2,hone,g7 _ _ hD.1 (qa j)]
    refine yes _ j (by simp[St,LRg,sx,h0,h2,h4,h64,h65]) (xg hO hjL hj fun u hu=>?_) (wJ hD (by omega)) (yv hG (by omega) (by rw[hpj];exact hsub))
    rw[hpj] at hu;exact (hD.2 u).1 (hsub u hu)
   ·have hns:¬Sub (Par p j) D:=fun h=>c2 (by
     have:=pq.2 h
     rw[hpj] at this
     simp[S.aO] at this
     simp[this])
    simp only[sz,simprocAttr,h69,h71,h8,rp,u1,u2,cu,aP _ _ _ hD.1,jc hD.1,io,hb,b3,c2]
    exact ⟨⟨by simp[St,LRg,sx,h0,h2,h4,h8,h64,h65,h69],next (.inr hns)⟩,h70⟩
 ·rintro t df g' ⟨rfl,rfl,⟨-,-,-,-,ht⟩,hall⟩
  exact no t ht hall
theorem yO {Q:QT}{t:T}{g:G}(n8:p.length<=8)(hp:∀x∈p,x<2 ^ p.length)(hlt:∀x∈p,x<18446744073709551616)(vl:∀g,ib .slice pa g=.val (.int .i64 (p.length:Int)))(rp:∀h,aw h 1 pa=some (p.map cu))
  (hB:GrB pa cv q (S.aF p) g) (ht:St t ((8,.int .u64 0)::LRg pa q)) (h65:tat t 65=.int .i64 0) (h64:tat t 64=.int .i64 (p.length:Int))
  (bad:∀t g,¬GOk p->g.h.get 0=.cells 2 [[.nils,.nils]] 0 false false->tat t 2=.hptr 0 0 0 0->tat t 3=.int .i64 70->Q .ret t [] g)
  (fin:∀t,St t (LRg pa q)->S.aG p=true->Q (.exit 4) t [] g):wpL (wp C0 d none dQ) Q t [] g:=by
 simp only[dQ,gv]
 refine cp (m:=p.length) (by omega) (fun j t df g'=>df=[]/\g'=g/\∃(L:List Nat) (D:Nat),L.length=j/\th p L/\zk D L/\tw p D/\St t ((8,.int .u64 (D:Int))::LRg pa q))
  ⟨rfl,rfl,[],0,rfl,⟨by simp,by simp⟩,⟨by decide,by simp⟩,wG,ht⟩ h65 h64 (by decide)
  (by rintro j t df g v s (rfl | rfl | rfl) ⟨a1,a2,L,D,a3,a4,a5,a6,⟨b1,b2,b3,b4,-⟩⟩<;>exact ⟨a1,a2,L,D,a3,a4,a5,a6,by simp[St,LRg,sx,b1,b2,b3,b4]⟩) ?_ ?_
 ·rintro j t df g' hj ⟨rfl,rfl,L,D,hL,hO,hD,hG,h8,h0,h2,h4,-⟩ h65 h64
  have lg1:aC (.cells 2 [[pa,cv]] 0 false false) 0 0 false 1 0=.val pa:=rfl
  simp only[sz,simprocAttr,h4,hB.hq,lg1,vl]
  refine y_ (pa:=pa) (q:=q) (L:=L) (D:=D) (j0:=j) n8 hlt rp hO hD hG (by simp[St,LRg,sx,h0,h2,h4,h8,h64,h65]) (by simp[sx]) (by simp[sx]) (by simp[sx]) ?_ ?_
  ·rintro t v ⟨h8,h64,h65,ht⟩ hO2 hD2 hG2
   simp only[sz,simprocAttr]
   exact ⟨⟨L++[v],D ||| S.az v,by simp[hL],hO2,hD2,hG2,h8,ht⟩,h65,h64⟩
  ·rintro t ⟨h0,h2,h4,-⟩ hall
   simp only[sz,simprocAttr,gy,h2,hB.h0]
   refine bad _ _ (fun hg=>?_) (by simp[H.get_put]) (by simp[sx,h2]) (by simp[sx])
   obtain ⟨v0,hv0,hv0'⟩:=zY hO (by omega)
   have:=qu hp hg.ac (T:=D) (fun v hv hb=>by
    rcases hall v hv with h | h
    ·rw[h] at hb;cases hb
    ·exact h) v0 hv0
   exact hv0' ((hD.2 v0).1 this)
 ·rintro t df g' ⟨rfl,rfl,L,D,hL,hO,hD,hG,-,ht⟩
  have hfull:=ww hO (by omega)
  exact fin t ht (qK hG fun v hv=>(hD.2 v).2 (hfull.1 v hv))
theorem zS {a b:AV}{i:Nat}(ha:nY a=true)(hb:vid b=some i):gi [.nils,.nils] [((0,1),.agg [a]),((1,1),b)]=some [a,b]:=by
 cases b<;>first | rfl | cases hb
theorem rD {g:G}{v':AV}(hd:0<d)(hv:SlR NoP 0 .nil p v'):∃z,aU C0 d N.aD [v'] g=.val z/\GrV p NoP 0 .nil z:=by
 have r1:∀h,SlR NoP 0 h p v':=fun h=>hv.tree (Nat.le_refl 0)
 have e:=qE (h:=g.h) d (r1 g.h)
 have hlt:=fK hv
 rw[kr]
 refine fJ mm (xs:=[v']) (by simp only[aH,e]) (by simp[cG]) (ny (m:=2) (uS _) (iN _) (by decide) (by decide)) (by decide) hd ?_
 have vl:∀g,ib .slice v' g=.val (.int .i64 (p.length:Int)):=fun g=>(r1 .nil).len g
 have ra:∀h,aw h 1 v'=some (p.map cu):=fun h=>(r1 h).nats
 by_cases c1:p.length<1
 ·simp only[sz,simprocAttr,cG,cR,vl,show ((p.length:Int)<1) from by omega]
  exact qi (fun h=>by have:=h.l1;omega)
 by_cases c2:8<p.length
 ·simp only[sz,simprocAttr,cG,cR,vl,show ¬((p.length:Int)<1) from by omega,show ((8:Int)<p.length) from by omega]
  exact qi (fun h=>by have:=h.l8;omega)
 have yp:nY v'=true:=mq (r1 .nil) (by omega)
 have fl:gi [.nils] [((0,1),v')]=some [v']:=by cases v'<;>first | rfl | cases yp
 simp only[sz,simprocAttr,cG,cR,vl,show ¬((p.length:Int)<1) from by omega,show ¬((8:Int)<p.length) from by omega,fl]
 refine uy (b:=1) (n:=p.length) (bytes:=8) (sz:=1) (zero:=[.int .u64 0]) (by unfold fe;omega) (by unfold fe;omega) ?_ fun cv g1 hu n1 f1 hvid=>?_
 ·simp
 have fl2:gi [.nils,.nils] [((0,1),.agg [v']),((1,1),cv)]=some [v',cv]:=zS yp hvid
 have n1':g1.nx=2:=by rw[n1];rfl
 simp only[sz,simprocAttr,fl2,n1']
 have hB:GrB v' cv 2 (S.aq p 0 0) ((g1.new (.cells 2 [[.nils,.nils]] 0 false false)).put 2 (.cells 2 [[v',cv]] 0 false false)):=by
  have hne:vid cv≠some 2:=fun e=>by have:=(hu.lt e).2;omega
  refine ⟨?_,by simp[H.get_put],?_,by decide,by simp[n1'],hne⟩
  ·simp[H.get_put,n1']
   rw[f1 0 (by decide)];rfl
  ·rw[xl,List.map_replicate]
   refine hu.fr (by simp) fun i hi=>?_
   have:=(hu.lt hi).2
   simp[H.get_put,n1',show ¬i=2 by omega]
 obtain ⟨g2,hg2⟩:∃g2,g2=((g1.new (.cells 2 [[.nils,.nils]] 0 false false)).put 2 (.cells 2 [[v',cv]] 0 false false)):=⟨_,rfl⟩
 rw[<-hg2] at hB ⊢
 clear hg2 hu f1 hvid n1' n1
 simp only[sz,simprocAttr,vl]
 refine yu (pa:=v') (cv:=cv) (q:=2) (by omega) hlt vl ra yp hB (by simp[St,LRg,sx]) (by simp[sx]) (by simp[sx]) (by simp[sx]) ?_ ?_
 ·intro t g hn a1 a2 a3
  simp only[sz,simprocAttr,a1,a2,a3]
  exact qi hn
 ·rintro t g ⟨h0,h2,h4,-⟩ hB hp
  rw[AU] at hB
  have lg1:aC (.cells 2 [[v',cv]] 0 false false) 0 0 false 1 0=.val v':=rfl
  simp only[sz,simprocAttr,gn,h4,hB.hq,lg1,vl]
  refine yO (pa:=v') (cv:=cv) (q:=2) (by omega) hp hlt vl ra hB (by simp[St,LRg,sx,h0,h2,h4]) (by simp[sx]) (by simp[sx]) ?_ ?_
  ·intro t g hn a1 a2 a3
   simp only[sz,simprocAttr,a1,a2,a3]
   exact qi hn
  ·rintro t ⟨h0,h2,h4,-⟩ hac
   have hG:S.aB p=true:=gV.2 ⟨by omega,by omega,hp,hac⟩
   have hs2:Own (g.put 0 (.cells 2 [[v',cv]] 0 false false)) 1 cv 1 ((S.aF p).map cu):=hB.hs.fr (by simp) fun i hi=>by
    have:=(hB.hs.lt hi).1
    simp[H.get_put,show ¬i=0 by omega]
   have hsl:=hs2.nats' (by rw[pV];omega) fun y hy=>by
    obtain ⟨u,-,rfl⟩:=List.mem_map.1 hy
    have:=mi (Eg p u) p.length
    have:=iZ (show p.length<=8 by omega)
    omega
   have hld:aC (.cells 2 [[v',cv]] 0 false false) 0 0 true 2 0=.val (.agg [v',cv]):=rfl
   simp only[sz,simprocAttr,gc,h2,h4,hB.hq,hB.h0,hld]
   refine ⟨fun _=>True,_,_,rfl,⟨_,rfl,?_⟩,?_⟩
   ·rw[S.gr,hG]
    exact fM.2 ⟨[v'],[cv],rfl,bB.2 ⟨v',rfl,(r1 .nil).wide (Nat.le_refl _)⟩,bB.2 ⟨cv,rfl,hsl⟩⟩
   ·rw[hG];exact jA.2 rfl
end
end
end Hx
end
section
namespace Hx
open Go
noncomputable section
def S.am (n:Nat):List Nat->Nat->Bool
 | [],_=>true
 | x::l,a=>decide (x<2 ^ n)&&decide (x &&& a=0)&&S.am n l (a ||| x)
theorem yP {n x a:Nat}{l:List Nat}(h:¬x<2 ^ n):S.am n (x::l) a=false:=by simp[S.am,h]
theorem yr {n x a:Nat}{l:List Nat}(h:¬x &&& a=0):S.am n (x::l) a=false:=by simp[S.am,h]
theorem vV {n x a:Nat}{l:List Nat}(h:x<2 ^ n)(h2:x &&& a=0):S.am n (x::l) a=S.am n l (a ||| x):=by simp[S.am,h,h2]
theorem od {x n:Nat}:((x / 2 ^ n:Nat):Int)=0↔x<2 ^ n:=by
 constructor
 ·intro h
  have h0:x / 2 ^ n=0:=by omega
  rcases Nat.div_eq_zero_iff.1 h0 with h | h
  ·exact absurd h (Nat.ne_of_gt (Nat.pow_pos (by decide)))
  ·exact h
 ·intro h
  rw[Nat.div_eq_of_lt h];rfl
theorem xd {α:Type}{l:List α}{j:Nat}{x:α}(h:l[j]?=some x):l.drop j=x::l.drop (j+1):=by
 obtain ⟨h1,rfl⟩:=List.getElem?_eq_some_iff.1 h
 exact List.drop_eq_getElem_cons h1
def S.aD (p l:List Nat):Int:=if S.aB p then (if S.am p.length l 0 then 0 else 2) else 70
theorem yz (a b c d e f g:AV):bw 0 [a,b,c,d,e,f,g] .nil=d9 (d9 (d9 (d9 (d9 (d9 (d9 .nil 0 a) 1 b) 2 c) 3 d) 4 e) 5 f) 6 g:=rfl
theorem wK {C:Cfg}{d:Nat}{r:List SR}{t:T}{g:G}{K:AV->G->Prop}(h:km r t g fun vs=>K (cZ vs) g):i_ C d r t [] g K:=by
 unfold i_
 have:cx (I C) d [] g=some g:=rfl
 rw[this];exact h
def oq:SC:=.seq (.feet [0,0,2,6,15,31] [oL 21 3,oF 22 0 7,oL 23 22,o 24 (.bin .shl (.k (.int .u64 1)) (.t 23)),o 25 (.bin .or (.t 21) (.t 24)),oz (.store 1 (.t 3) (.t 25))]) (sQ [oF 26 1 4,oL 27 26,oF 28 0 7,oL 29 28,oX 30 27 29,oL 31 30,o 32 (.call N.ah [.t 31])] (.blk 0 (.rng 74 (.t 32) [33] a_ ba)))
theorem yx:cV=.seq (sQ [oL 10 1,o 11 (.load true 2 (.t 7)),o 12 (.raw (.lookup 144 (.tmp 10) (.tmp 11) false))] (.cond (.t 12) (.ret) (.skip))) (sQ [oL 13 1,o 14 (.load true 2 (.t 7)),oz (.raw (.mapUpdate 144 (.tmp 13) (.tmp 14) (.const (.bool true))))] (.seq (sQ [oL 15 2,oF 16 0 7,oL 17 16,o 18 (.bin .shr (.t 15) (.t 17)),o 19 (.bin .and (.t 18) (.k (.int .u64 1))),o 20 (.bin .eql (.t 19) (.k (.int .u64 0)))] (.cond (.t 20) oq (.skip))) be)):=rfl
theorem B6 {p c:List Nat}{pa ch:AV}{Zs:Nat}{Gd:Nat×Bool->Prop}{d k q v:Nat}{dn:Bool}{L:List (Nat×Bool)}{Q:QT}{t:T}{g:G}(hd:0<d)(hG:GrI p c pa ch Zs)(hv:rm p pa ch Zs Gd d k)(hk:S.aC p.length (L++[(v,dn)])<=k)(hvn:v<p.length)(hnz:¬Bt Zs v)
  (hg:∀u,Eg p v u->Gd (u,true)) (hL:∀s∈L++[(v,dn)],Gd s) (hX:∀h':H,(∀i,i<7->i≠4->h'.get i=g.h.get i)->h'.get 4=.cells 1 [[.int .u64 (S.aa (iD (Bt Zs) (L++[(v,dn)])) p.length:Int)]] 0 false false->VI p pa ch Zs (L++[(v,dn)]) h') (hr4:g.h.get 4=.cells 1 [[.int .u64 (S.aa (iD (Bt Zs) L) p.length:Int)]] 0 false false) (hg0:g.h.get 0=.cells 2 [[pa,ch]] 0 false false) (ht:St t (LVs q)) (hq:g.h.get q=.cells 2 [[.int .i64 (v:Int),.bool dn]] 0 false false) (hq7:7<=q) (hqn:q<g.nx)
  (fin:∀t' g' L' m,St t' (LVs q)->VI p pa ch Zs L' g'.h->g.nx<=g'.nx->g.nx<=m->m<g'.nx->g'.h.get m=.dfr true->(∀i,7<=i->i<g.nx->g'.h.get i=g.h.get i)->Dst (RX p Zs) Gd (L++[(v,dn)]) L'->(∀u,Eg p v u->(u,true)∈L')->Q .norm t' [.mark m] g'):wp C0 d none oq Q t [] g:=by
 obtain ⟨h1,h2,h3,h4,h5,h6,h7,-⟩:=ht
 have h256:=iZ hG.n8
 have hn8:=hG.n8
 have lq1:aC (.cells 2 [[.int .i64 (v:Int),.bool dn]] 0 false false) 0 0 false 1 0=.val (.int .i64 (v:Int)):=rfl
 have lg2:aC (.cells 2 [[pa,ch]] 0 false false) 0 0 false 1 1=.val ch:=rfl
 have hR:=mi (iD (Bt Zs) L) p.length
 have hor:=g7 (S.aa (iD (Bt Zs) L) p.length) (S.az v) (by omega) (qa v)
 rw[cm (by omega),<-xA (d:=dn) hvn hnz] at hor
 have hsh:aT .shl (.int .u64 1) (.int .i64 (v:Int))=.val (.int .u64 ((2 ^ v:Nat):Int)):=by rw[aK,cm (by omega)]
 have hcv:c[v]?=some (c[v]?.getD 0):=by rw[List.getElem?_eq_getElem (by rw[hG.cl];exact hvn)];rfl
 have u1:v<(c.map cu).length:=by rw[List.length_map,hG.cl];exact hvn
 have u2:(c.map cu)[v]?=some (cu (c[v]?.getD 0)):=by rw[List.getElem?_map,hcv];rfl
 have hyc:=hG.yc (by omega)
 have kM:=fun g=>iB (d:=d) (s:=c[v]?.getD 0) (g:=g) hd
 have hcm:∀u,u∈S.af (c[v]?.getD 0)↔Eg p v u:=fun u=>by rw[jE (hG.cb8 v),hG.cb v u]
 unfold oq
 refine oP (P:=fun t' df' g'=>df'=[]/\g.nx<=g'.nx/\(∀i,i≠4->g'.h.get i=g.h.get i)/\g'.h.get 4=.cells 1 [[.int .u64 (S.aa (iD (Bt Zs) (L++[(v,dn)])) p.length:Int)]] 0 false false/\St t' (LVs q)) ?_ ?_
 ·simp only[sz,simprocAttr,sf,h3,h7,hq,lq1,hr4,hsh,hor]
  refine ⟨?_,by omega,fun i hi=>by simp[H.get_put,hi],by simp[St,LVs,sx,h1,h2,h3,h4,h5,h6,h7]⟩
  simp only[List.reverse_cons,List.reverse_nil,List.nil_append,List.cons_append]
  exact bU [false,false,false,false,false,true] [] (by simp[All2,ah,aF]) (by decide) (by simp)
 clear h1 h2 h3 h4 h5 h6 h7
 rintro t df g1 ⟨rfl,n1,f1,r1,h1,h2,h3,h4,h5,h6,h7,-⟩
 have hI:=hX g1.h (fun i _ hi=>f1 i hi) r1
 have hq1:g1.h.get q=.cells 2 [[.int .i64 (v:Int),.bool dn]] 0 false false:=by rw[f1 q (by omega),hq]
 have g01:g1.h.get 0=.cells 2 [[pa,ch]] 0 false false:=by rw[f1 0 (by omega),hg0]
 simp only[sz,simprocAttr,h4,h7,g01,lg2,hq1,lq1,hG.rc,u1,u2,cu,hyc,kM]
 refine yJ (q:=q) (L:=L++[(v,dn)]) (set:=c[v]?.getD 0) hd hv hk (hG.cb8 v) (fun u hu=>hg u ((hcm u).1 hu)) hL hI (by omega) (by simp[St,LVs,sx,h1,h2,h3,h4,h5,h6,h7]) (by simp[sx]) ?_
 intro g' L' hI' hn' hdf hfr hD hall
 simp only[sz,simprocAttr]
 exact fin _ g' L' g1.nx (by simp[St,LVs,sx,h1,h2,h3,h4,h5,h6,h7]) hI' (by omega) n1 (by omega) hdf (fun i a b=>by rw[hfr i a (by omega),f1 i (by omega)]) hD fun u hu=>hall u ((hcm u).2 hu)
theorem xS {p c:List Nat}{pa ch:AV}{Zs:Nat}{Gd:Nat×Bool->Prop}{d:Nat}(hd:0<d)(hG:GrI p c pa ch Zs)(hgc:∀s t,Gd s->RX p Zs s t->Gd t)(hgl:∀s,Gd s->s.1<p.length):∀k,rm p pa ch Zs Gd d k:=by
 intro k
 induction k using Nat.strongRecOn with
 | _ k ih =>
  rintro L ⟨v,dn⟩ g K D hk hs hL hn hI kk
  have hvn:v<p.length:=hgl _ hs
  have h256:=iZ hG.n8
  have hz:=hG.zs
  have hn8:=hG.n8
  rw[AR]
  refine zU gM (by simp[bZ]) ?_
  simp only[sz,simprocAttr,bZ,sk,yz]
  obtain ⟨g1,hg1⟩:∃g1,g1=g.new (.cells 2 [[.int .i64 (v:Int),.bool dn]] 0 false false):=⟨_,rfl⟩
  rw[<-hg1]
  have n1:g1.nx=g.nx+1:=by rw[hg1];simp
  have f1:∀i,i<g.nx->g1.h.get i=g.h.get i:=fun i hi=>by rw[hg1];simp[H.get_put,show ¬i=g.nx by omega]
  have hq:g1.h.get g.nx=.cells 2 [[.int .i64 (v:Int),.bool dn]] 0 false false:=by rw[hg1];simp[H.get_put]
  have hI1:VI p pa ch Zs L g1.h:=hI.fr fun i hi=>f1 i (by omega)
  clear hg1
  have lq:aC (.cells 2 [[.int .i64 (v:Int),.bool dn]] 0 false false) 0 0 true 2 0=.val (sk (v,dn)):=rfl
  have lq1:aC (.cells 2 [[.int .i64 (v:Int),.bool dn]] 0 false false) 0 0 false 1 0=.val (.int .i64 (v:Int)):=rfl
  have lg2:aC (.cells 2 [[pa,ch]] 0 false false) 0 0 false 1 1=.val ch:=rfl
  rw[yx]
  by_cases hin:(v,dn)∈L
  ·simp only[sz,simprocAttr,hI1.p,hq,lq]
   rw[xw (id:=3) (s:=(v,dn)) (L:=L) (by simp[sx]) (by simp[sx]) hI1.m,decide_eq_true hin]
   simp only[sz,simprocAttr]
   exact kk g1 L hI1 (by omega) (fun i _ hi=>f1 i hi) (Dst.refl hL) hin
  ·have hlt:=AQ (n:=p.length) hin hvn
   obtain ⟨L1,hL1⟩:∃L1,L1=L++[(v,dn)]:=⟨_,rfl⟩
   rw[<-hL1] at hlt
   have hgL1:∀s∈L1,Gd s:=fun s hs'=>by
    rw[hL1] at hs'
    rcases List.mem_append.1 hs' with h | h
    ·exact hL s h
    ·rw[List.mem_singleton.1 h];exact hs
   refine oP (P:=fun t' df' g'=>df'=[]/\g'=g1/\St t' (LVs g.nx)) ?_ ?_
   ·simp only[sz,simprocAttr,hI1.p,hq,lq]
    rw[xw (id:=3) (s:=(v,dn)) (L:=L) (by simp[sx]) (by simp[sx]) hI1.m,decide_eq_false hin]
    simp only[sz,simprocAttr]
    simp[St,LVs,sx]
   rintro t df g2 ⟨rfl,hg,h1,h2,h3,h4,h5,h6,h7,-⟩
   rw[hg];clear hg
   refine uV (P:=fun t' df' g'=>df'=[]/\g'.nx=g1.nx/\(∀i,i≠3->g'.h.get i=g1.h.get i)/\g'.h.get 3=.map (bcl L1)/\St t' (LVs g.nx)) ?_ ?_
   ·simp only[sz,simprocAttr,h1,h7,hI1.p,hq,lq]
    rw[Cb (id:=3) (s:=(v,dn)) (L:=L) (by simp[sx]) (by simp[sx]) hI1.m hin]
    simp only[sz,simprocAttr]
    exact ⟨fun i hi=>by simp[H.get_put,hi],by simp[H.get_put,hL1],by simp[St,LVs,sx,h1,h2,h3,h4,h5,h6,h7]⟩
   clear h1 h2 h3 h4 h5 h6 h7
   rintro t df g2 ⟨rfl,n2,f2,m2,h1,h2,h3,h4,h5,h6,h7,-⟩
   have f2':∀i,7<=i->i<g1.nx->g2.h.get i=g1.h.get i:=fun i a b=>f2 i (by omega)
   have hq2:g2.h.get g.nx=.cells 2 [[.int .i64 (v:Int),.bool dn]] 0 false false:=by rw[f2 _ (by omega),hq]
   have z2:g2.h.get 1=.cells 1 [[.int .u64 (Zs:Int)]] 0 false false:=by rw[f2 1 (by omega),hI1.z]
   have r2:g2.h.get 4=.cells 1 [[.int .u64 (S.aa (iD (Bt Zs) L) p.length:Int)]] 0 false false:=by rw[f2 4 (by omega),hI1.r]
   have hI2:S.aa (iD (Bt Zs) L) p.length=S.aa (iD (Bt Zs) L1) p.length->VI p pa ch Zs L1 g2.h:=fun e =>
    ⟨by rw[f2 0 (by omega),hI1.g0],z2,by rw[f2 2 (by omega),hI1.a],m2,by rw[<-e,r2],by rw[f2 5 (by omega),hI1.p],by rw[f2 6 (by omega),hI1.v]⟩
   have zq:Zs<18446744073709551616:=by omega
   refine oP (P:=fun t' df' g'=>(df'=[]\/∃m,df'=[.mark m]/\g'.h.get m=.dfr true/\g1.nx<=m/\m<g'.nx)/\St t' (LVs g.nx)/\g1.nx<=g'.nx/\(∀i,7<=i->i<g1.nx->g'.h.get i=g1.h.get i)/\∃L2,VI p pa ch Zs L2 g'.h/\Dst (RX p Zs) Gd L1 L2/\∀u,RX p Zs (v,dn) (u,true)->(u,true)∈L2) ?_ ?_
   ·cases hb:Zs.testBit v with
    | true =>
     have hI3:=hI2 (by rw[hL1,zW (show Bt Zs v from hb)])
     simp only[sz,simprocAttr,h2,h7,hq2,lq1,z2,aP _ _ _ zq,jc zq,io,hb]
     exact ⟨.inl trivial,by simp[St,LVs,sx,h1,h2,h3,h4,h5,h6,h7],by omega,f2',L1,hI3,Dst.refl hgL1,fun u hu=>by cases hu with | dn hz' _=>exact absurd hb hz'⟩
    | false =>
     have hnz:¬Bt Zs v:=fun h=>by have h:Zs.testBit v=true:=h;rw[hb] at h;cases h
     have hR:=mi (iD (Bt Zs) L) p.length
     have hor:=g7 (S.aa (iD (Bt Zs) L) p.length) (S.az v) (by omega) (qa v)
     rw[cm (by omega),<-xA (d:=dn) hvn hnz,<-hL1] at hor
     have hsh:aT .shl (.int .u64 1) (.int .i64 (v:Int))=.val (.int .u64 ((2 ^ v:Nat):Int)):=by rw[aK,cm (by omega)]
     have hcv:c[v]?=some (c[v]?.getD 0):=by rw[List.getElem?_eq_getElem (by rw[hG.cl];exact hvn)];rfl
     have u1:v<(c.map cu).length:=by rw[List.length_map,hG.cl];exact hvn
     have u2:(c.map cu)[v]?=some (cu (c[v]?.getD 0)):=by rw[List.getElem?_map,hcv];rfl
     have hyc:=hG.yc (by omega)
     have kM:=fun g=>iB (d:=d) (s:=c[v]?.getD 0) (g:=g) hd
     simp only[sz,simprocAttr,h2,h7,hq2,lq1,z2,aP _ _ _ zq,jc zq,io,hb]
     rw[hL1] at hgL1 m2 hlt ⊢
     refine B6 (q:=g.nx) (L:=L) (k:=S.aC p.length (L++[(v,dn)])) hd hG (ih _ (by omega)) (Nat.le_refl _) hvn hnz (fun u hu=>hgc (v,dn) (u,true) hs (.dn hnz hu)) hgL1 (fun h' hh hr=>⟨by rw[hh 0 (by omega) (by omega),f2 0 (by omega),hI1.g0],by rw[hh 1 (by omega) (by omega),z2],by rw[hh 2 (by omega) (by omega),f2 2 (by omega),hI1.a],by rw[hh 3 (by omega) (by omega),m2],hr,by rw[hh 5 (by omega) (by omega),f2 5 (by omega),hI1.p],by rw[hh 6 (by omega) (by omega),f2 6 (by omega),hI1.v]⟩) r2 (by rw[f2 0 (by omega),hI1.g0]) (by simp[St,LVs,sx,h1,h2,h3,h4,h5,h6,h7]) hq2 hn (by omega) ?_
     intro t' g' L' m ht' hI' n' hm1 hm2 hdf hfr hD hall
     exact ⟨rfl,.inr ⟨m,rfl,hdf,by omega,hm2⟩,ht',by omega,fun i a b=>by rw[hfr i a (by omega),f2' i a b],L',hI',hD,fun u hu=>hall u (by cases hu with | dn _ e=>exact e)⟩
   ·rintro t df g3 ⟨hdf,ht,n3,f3,L2,hI3,hD,hch⟩
    refine B_ (q:=g.nx) (v:=v) (dn:=dn) (L:=L2) (k:=S.aC p.length L2) hd hG (ih _ (by have:=mV (n:=p.length) hD.pre;omega)) (Nat.le_refl _) hvn (fun u hu=>hgc (v,dn) (u,false) hs hu) hD.good hI3 ht (by rw[f3 _ hn (by omega),hq]) hn (by omega) ?_
    rintro e t' df' g4 L3 he hdf' hI4 n4 f4 hD2 hpa
    have hfin:Dst (RX p Zs) Gd L L3/\(v,dn)∈L3:=by
     have hD3:=hD.tr hD2
     rw[hL1] at hD3
     refine hD3.visit fun u hu=>?_
     obtain ⟨w,b⟩:=u
     cases b with
     | true=>exact hD2.pre _ (hch w hu)
     | false=>exact hpa w hu
    have hfr:∀i,7<=i->i<g.nx->g4.h.get i=g.h.get i:=fun i a b=>by rw[f4 i a (by omega),f3 i a (by omega),f1 i b]
    have hend:fnQ C0 d [] K .ret t' df' g4=i_ C0 d [] t' df' g4 K:=rfl
    have hend2:fnQ C0 d [] K .norm t' df' g4=i_ C0 d [] t' df' g4 K:=rfl
    have goal:i_ C0 d [] t' df' g4 K:=by
     have one:∀g5:G,g5.nx=g4.nx->(∀i,i<7->g5.h.get i=g4.h.get i)->(∀i,i<g.nx->g5.h.get i=g4.h.get i)->K (.tup []) g5:=fun g5 n5 f5 f6 =>
      kk g5 L3 (hI4.fr f5) (by omega) (fun i a b=>by rw[f6 i b,hfr i a b]) hfin.1 hfin.2
     rcases hdf with rfl | ⟨m,rfl,hm,hm1,hm2⟩
     ·rcases hdf' with rfl | ⟨m2,rfl,hm2,hm3⟩
      ·exact wK (one g4 rfl (fun _ _=>rfl) fun _ _=>rfl)
      ·exact l0 hm2 (one _ (by simp) (fun i hi=>by simp[H.get_put,show ¬i=m2 by omega]) fun i hi=>by simp[H.get_put,show ¬i=m2 by omega])
     ·have hm4:g4.h.get m=.dfr true:=by rw[f4 m (by omega) hm2,hm]
      rcases hdf' with rfl | ⟨m2,rfl,hm5,hm3⟩
      ·exact l0 hm4 (one _ (by simp) (fun i hi=>by simp[H.get_put,show ¬i=m by omega]) fun i hi=>by simp[H.get_put,show ¬i=m by omega])
      ·exact tF hm5 hm4 (by omega) (one _ (by simp) (fun i hi=>by simp[H.get_put,show ¬i=m by omega,show ¬i=m2 by omega]) fun i hi=>by simp[H.get_put,show ¬i=m by omega,show ¬i=m2 by omega])
    rcases he with rfl | rfl
    ·rw[hend];exact goal
    ·rw[hend2];exact goal
def S.ay (p:List Nat)(xs zs:Nat):Nat:=S.aa (Re (Eg p) (Bt zs) (Bt xs)) p.length
structure Chl (p c:List Nat):Prop where
 cl:c.length=p.length
 cb:∀v u,(c[v]?.getD 0).testBit u=true↔Eg p v u
theorem Am (Z:Nat->Prop)(n:Nat):S.aa (iD Z []) n=0:=by
 refine Nat.eq_of_testBit_eq fun i=>?_
 rw[Nat.zero_testBit]
 cases h:(S.aa (iD Z []) n).testBit i with
 | false=>rfl
 | true =>
  obtain ⟨-,⟨d,hd⟩,-⟩:=fG.1 h
  cases hd
theorem Ao {p:List Nat}{Z:Nat->Prop}{xs v:Nat}{b:Bool}(hp:∀x∈p,x<2 ^ p.length)(hx:xs<2 ^ p.length)(h:Rs (Eg p) Z (Bt xs) v b):v<p.length:=by
 cases h with
 | st h=>exact ll hx h
 | dn _ _ e=>exact (j8 hp e).2
 | up _ _ e=>exact (j8 hp e).1
set_option maxRecDepth 5000 in
theorem sI {d xs zs:Nat}{g:G}{v:AV}{p c:List Nat}(hd:0<d)(hm:Agg ((p,c):List Nat×List Nat) NoP 0 g.h v)(hp:∀x∈p,x<2 ^ p.length)(h1:1<=p.length)(n8:p.length<=8)(hc:Chl p c)(hxs:xs<2 ^ p.length)(hzs:zs<2 ^ p.length) :
  aU C0 d N.aB [v,.int .u64 (xs:Int),.int .u64 (zs:Int)] g=.val (.int .u64 (S.ay p xs zs:Int)):=by
 have e0:=nT d hm
 obtain ⟨cs,rfl,hcs⟩:=hm
 obtain ⟨_,_,rfl,ha,hb⟩:=fM.1 hcs
 obtain ⟨pa,rfl,hpa⟩:=bB.1 ha
 obtain ⟨ch,rfl,hch⟩:=bB.1 hb
 have h256:=iZ n8
 have hpa:SlR NoP 0 .nil p pa:=hpa.tree (Nat.le_refl 0)
 have hch:SlR NoP 0 .nil c ch:=hch.tree (Nat.le_refl 0)
 have rp:∀h,aw h 1 pa=some (p.map cu):=fun h=>(hpa.tree (h':=h) (Nat.le_refl 0):SlR NoP 0 h _ pa).nats
 have rc:∀h,aw h 1 ch=some (c.map cu):=fun h=>(hch.tree (h':=h) (Nat.le_refl 0):SlR NoP 0 h _ ch).nats
 have hG:GrI p c pa ch zs:=⟨hp,n8,rp,rc,mq hpa,fun h=>mq hch (by rw[hc.cl];exact h),hc.cl,hc.cb,hzs⟩
 have lp:=hpa.len
 have lg1:aC (.cells 2 [[pa,ch]] 0 false false) 0 0 false 1 0=.val pa:=rfl
 have hlt:∀x∈p,x<18446744073709551616:=fun x hx=>by have:=hp x hx;omega
 rw[gH]
 refine lS ig (xs:=[.agg ([pa]++[ch]),.int .u64 (xs:Int),.int .u64 (zs:Int)]) (by simp only[aH,e0,gQ]) (by simp[cA]) hd ?_
 simp only[sz,simprocAttr,cA,dL,List.cons_append,List.nil_append,lg1,lp]
 have go:∀t g',St t [(1,.int .u64 (xs:Int)),(3,.hptr 0 0 0 0),(5,.hptr 1 0 0 0),(7,.hptr 2 0 0 0)]->g'.nx=3->g'.h.get 0=.cells 2 [[pa,ch]] 0 false false->g'.h.get 1=.cells 1 [[.int .u64 (zs:Int)]] 0 false false->g'.h.get 2=.cells 1 [[.int .u64 (S.up p zs p.length:Int)]] 0 false false ->
   wp C0 (d+1) none bh (fnQ C0 (d+1) [SR.tm 6] fun v _=>v=AV.int IntKind.u64 ↑(S.ay p xs zs)) t [] g':=by
  rintro t g1 ⟨t1,t3,t5,t7,-⟩ n1 g0 gz ga
  have xn:xs<256:=by omega
  have st1:∀g,fR (.cells 1 [[.nilm]] 0 false false) g 5 0 0 1 0 (.hmap 3)=.upd .undef (g.put 5 (.cells 1 [[.hmap 3]] 0 false false)):=fun g=>rfl
  have st2:∀g,fR (.cells 1 [[.nilf]] 0 false false) g 6 0 0 1 0 (.clo N.aH [] [.hptr 5 0 0 0,.hptr 1 0 0 0,.hptr 4 0 0 0,.hptr 0 0 0 0,.hptr 6 0 0 0,.hptr 2 0 0 0])=.upd .undef (g.put 6 (.cells 1 [[zC]] 0 false false)):=fun g=>rfl
  have kM:=fun g=>iB (d:=d+1) (s:=xs) (g:=g) (Nat.succ_pos d)
  simp only[sz,simprocAttr,bh,BK,t1,t3,t5,t7,kM,n1,st1,st2]
  obtain ⟨g2,hg2⟩:∃g2,g2=(((((((g1.new (AObj.map [])).new (AObj.cells 1 [[AV.int IntKind.u64 0]] 0 false false)).new (AObj.cells 1 [[AV.nilm]] 0 false false)).put 4 (AObj.cells 1 [[AV.int IntKind.u64 0]] 0 false false)).put 5 (AObj.cells 1 [[AV.hmap 3]] 0 false false)).new (AObj.cells 1 [[AV.nilf]] 0 false false)).put 6 (AObj.cells 1 [[zC]] 0 false false)):=⟨_,rfl⟩
  rw[<-hg2]
  have n2:g2.nx=7:=by rw[hg2];simp[n1]
  have hz0:S.aa (iD (Bt zs) []) p.length=0:=Am _ _
  have hI:VI p pa ch zs [] g2.h:=by
   rw[hg2]
   refine ⟨?_,?_,?_,?_,?_,?_,?_⟩
   ·simp[H.get_put,n1,g0]
   ·simp[H.get_put,n1,gz]
   ·simp[H.get_put,n1,ga]
   ·simp[H.get_put,n1];rfl
   ·simp[H.get_put,n1,hz0]
   ·simp[H.get_put,n1]
   ·simp[H.get_put,n1]
  clear hg2 g0 gz ga
  have hgc:∀s t,Rs (Eg p) (Bt zs) (Bt xs) s.1 s.2->RX p zs s t->Rs (Eg p) (Bt zs) (Bt xs) t.1 t.2:=fun s t h1 h2=>Ag h1 h2
  have hgl:∀s:Nat×Bool,Rs (Eg p) (Bt zs) (Bt xs) s.1 s.2->s.1<p.length:=fun s h=>Ao hp hxs h
  have hv:=xS (Gd:=fun s=>Rs (Eg p) (Bt zs) (Bt xs) s.1 s.2) (Nat.succ_pos d) hG hgc hgl (S.aC p.length [])
  refine qB (Nat.succ_pos d) xn (by simp[sx]) (by decide) (fun j h=>VJ p pa ch zs (fun s=>Rs (Eg p) (Bt zs) (Bt xs) s.1 s.2) [] false (S.af xs) g2 j h) ?_ ⟨⟨[],hI,Dst.refl (fun s h=>by cases h),fun i v h=>absurd h (Nat.not_lt_zero i)⟩,fun _ _ _=>rfl⟩ ?_ ?_
  ·rintro j h h' hh ⟨⟨L1,i1,i2,i3⟩,f1⟩
   exact ⟨⟨L1,i1.fr fun i hi=>hh i (by omega),i2,i3⟩,fun i h1 h2=>by rw[hh i h2,f1 i h1 h2]⟩
  ·rintro j v g1 hj ⟨⟨L1,i1,i2,i3⟩,f1⟩ hn1
   simp only[sz,simprocAttr,dl]
   intro g3 hn3 hf3
   have i1':VI p pa ch zs L1 g3.h:=i1.fr fun i hi=>hf3 i (by omega)
   simp only[sz,simprocAttr,dq,i1'.v]
   refine hv L1 (v,false) g3 _ _ (mV i2.pre) (.st ((jE xn).1 (List.mem_of_getElem? hj))) i2.good (by omega) i1' fun g4 L2 j1 j2 j3 j4 j5=>?_
   simp only[sz,simprocAttr]
   refine ⟨j2,fun i a b=>j3 i (by omega) b,.inl ⟨rfl,⟨L2,j1,i2.tr j4,fun i u hi hu=>?_⟩,fun i a b=>?_⟩⟩
   ·by_cases e:i=j
    ·subst e
     rw[hj] at hu
     injection hu with hu
     subst hu
     exact j5
    ·exact j4.pre _ (i3 i u (by omega) hu)
   ·omega
  ·rintro g' ⟨⟨L1,i1,i2,i3⟩,f1⟩ hn' hdf
   have hall:∀x,Bt xs x->(x,false)∈L1:=fun x hx=>by
    obtain ⟨i,hi,e⟩:=List.mem_iff_getElem.1 ((jE xn).2 hx)
    exact i3 i x hi (by rw[List.getElem?_eq_getElem hi,e])
   have hval:S.aa (iD (Bt zs) L1) p.length=S.ay p xs zs:=fQ fun y _=>by
    constructor
    ·rintro ⟨⟨b,h⟩,hz⟩;exact ⟨⟨b,(uZ i2 hall y b).1 h⟩,hz⟩
    ·rintro ⟨⟨b,h⟩,hz⟩;exact ⟨⟨b,(uZ i2 hall y b).2 h⟩,hz⟩
   have hr:=i1.r
   rw[hval] at hr
   simp only[sz,simprocAttr,dk,hr]
   refine l0 hdf ?_
   simp only[sz,simprocAttr]
 have go2:∀t df g',(df=[]/\St t [(1,.int .u64 (xs:Int)),(3,.hptr 0 0 0 0),(5,.hptr 1 0 0 0),(7,.hptr 2 0 0 0)]/\g'.nx=3/\g'.h.get 0=.cells 2 [[pa,ch]] 0 false false/\g'.h.get 1=.cells 1 [[.int .u64 (zs:Int)]] 0 false false/\g'.h.get 2=.cells 1 [[.int .u64 (S.up p zs p.length:Int)]] 0 false false) ->
   wp C0 (d+1) none bh (fnQ C0 (d+1) [SR.tm 6] fun v _=>v=AV.int IntKind.u64 ↑(S.ay p xs zs)) t df g':=by
  rintro t df g' ⟨rfl,a1,a2,a3,a4,a5⟩
  exact go t g' a1 a2 a3 a4 a5
 refine cp (m:=p.length) (by omega) (fun j t df g'=>df=[]/\St t [(1,.int .u64 (xs:Int)),(3,.hptr 0 0 0 0),(5,.hptr 1 0 0 0),(7,.hptr 2 0 0 0)]/\g'.nx=3/\g'.h.get 0=.cells 2 [[pa,ch]] 0 false false/\g'.h.get 1=.cells 1 [[.int .u64 (zs:Int)]] 0 false false/\g'.h.get 2=.cells 1 [[.int .u64 (S.up p zs j:Int)]] 0 false false)
  ⟨rfl,by simp[St,sx],by simp[sx],by simp[sx,H.get_put],by simp[sx,H.get_put],by simp[sx,H.get_put];rfl⟩ (by simp[sx]) (by simp[sx]) (by decide) ?_ ?_ ?_
 ·rintro j t df g v s hs ⟨a1,⟨b1,b2,b3,b4,-⟩,a3⟩
  refine ⟨a1,?_,a3⟩
  rcases hs with rfl | rfl | rfl<;>simp[St,sx, *]
 ·rintro j t df g hj ⟨rfl,⟨h1,h3,h5,h7,-⟩,n3,g0,gz,ga⟩ h19 h18
  have hup:=qt hp hzs j
  simp only[sz,simprocAttr,h3,g0,lg1,lp]
  simp only[dj,dm]
  refine cp (m:=p.length) (by omega) (fun i t df g'=>df=[]/\St t [(1,.int .u64 (xs:Int)),(3,.hptr 0 0 0 0),(5,.hptr 1 0 0 0),(7,.hptr 2 0 0 0),(18,.int .i64 (p.length:Int)),(19,.int .i64 (j:Int)),(23,pa)]/\g'.nx=3/\g'.h.get 0=.cells 2 [[pa,ch]] 0 false false/\g'.h.get 1=.cells 1 [[.int .u64 (zs:Int)]] 0 false false/\g'.h.get 2=.cells 1 [[.int .u64 (S.ax p (S.up p zs j) i:Int)]] 0 false false)
   ⟨rfl,by simp[St,sx,h1,h3,h5,h7,h18,h19],n3,g0,gz,by rw[ga];rfl⟩ (by simp[sx]) (by simp[sx]) (by decide) ?_ ?_ ?_
  ·rintro j t df g v s hs ⟨a1,⟨b1,b2,b3,b4,b5,b6,b7,-⟩,a3⟩
   refine ⟨a1,?_,a3⟩
   rcases hs with rfl | rfl | rfl<;>simp[St,sx, *]
  ·rintro i t df g hi ⟨rfl,⟨h1,h3,h5,h7,h18,h19,h23,-⟩,n3,g0,gz,ga⟩ h25 h24
   have hr:=mc hp hup i
   obtain ⟨x,hx,-,hxm⟩:=fS hi
   have u1:i<(p.map cu).length:=by simpa using hi
   have u2:(p.map cu)[i]?=some (cu x):=by rw[List.getElem?_map,hx];rfl
   have hxl:=hlt x hxm
   have hrl:S.ax p (S.up p zs j) i<18446744073709551616:=by omega
   have us:=eM p (S.up p zs j) i
   rw[li,hx,Option.getD_some] at us
   simp only[sz,simprocAttr,h7,h23,h25,rp,u1,u2,cu,ga,aP _ _ _ hrl,jc hrl,uj]
   cases hb:(S.ax p (S.up p zs j) i).testBit i with
   | true =>
    rw[hb,if_pos rfl] at us
    simp only[sz,simprocAttr,h7,ga,g7 _ _ hrl hxl]
    exact ⟨⟨by simp[St,sx,h1,h3,h5,h7,h18,h19,h23],by simp[n3],by simp[H.get_put,g0],by simp[H.get_put,gz],by simp[H.get_put];rw[us]⟩,h25,h24⟩
   | false =>
    rw[hb,if_neg (by decide)] at us
    simp only[sz,simprocAttr]
    exact ⟨⟨by simp[St,sx,h1,h3,h5,h7,h18,h19,h23],n3,g0,gz,by rw[us];exact ga⟩,h25,h24⟩
  ·rintro t df g ⟨rfl,⟨h1,h3,h5,h7,h18,h19,h23,-⟩,n3,g0,gz,ga⟩
   simp only[sz,simprocAttr]
   have ga2:=ga
   rw[<-gT] at ga2
   exact ⟨⟨⟨h1,h3,h5,h7,trivial⟩,n3,g0,gz,ga2⟩,h19,h18⟩
 ·intro t df g h
  simp only[sz,simprocAttr]
  exact go2 t df g h
theorem vG {d k2:Nat}{g:G}{P2:Nat->Prop}{v w:AV}{p c l:List Nat}(hd:0<d)(hm:Agg ((p,c):List Nat×List Nat) NoP 0 g.h v)(hw:SlR P2 k2 g.h l w)(n8:p.length<=8) :
  aU C0 d N.af [v,w] g=.val (.bool (S.am p.length l 0)):=by
 have e0:=nT d hm
 obtain ⟨cs,rfl,hcs⟩:=hm
 obtain ⟨_,_,rfl,ha,hb⟩:=fM.1 hcs
 obtain ⟨pa,rfl,hpa⟩:=bB.1 ha
 obtain ⟨ch,rfl,hch⟩:=bB.1 hb
 obtain ⟨w',e2,r2⟩:=BR hw d
 have hlt:=fK hw
 have hl:=hw.1
 have hpa:SlR NoP 0 .nil p pa:=hpa.tree (Nat.le_refl 0)
 have lp:=hpa.len
 have wl:=(r2 .nil).len
 have lg1:aC (.cells 2 [[pa,ch]] 0 false false) 0 0 false 1 0=.val pa:=rfl
 rw[fp]
 refine ri gt (xs:=[.agg ([pa]++[ch]),w']) (by simp only[aH,e0,e2]) (by simp[bK]) hd ?_
 simp only[sz,simprocAttr,bK,cQ,List.cons_append,List.nil_append,wl]
 simp only[cK]
 refine cp (m:=l.length) hl (fun j t df g=>df=[]/\g.h.get 0=.cells 2 [[pa,ch]] 0 false false/\∃a:Nat,a<18446744073709551616/\S.am p.length (l.drop j) a=S.am p.length l 0/\St t [(2,.hptr 0 0 0 0),(8,w'),(5,.int .u64 (a:Int))]) ⟨rfl,by simp[sx,H.get_put],0,by decide,rfl,by simp[St,sx]⟩ (by simp[sx]) (by simp[sx]) (by decide)
  (by rintro j t df g v s (rfl | rfl | rfl)<;>simp[sx,St]) ?_ ?_
 ·rintro j t df g hj ⟨rfl,g0,a,ha,hS,h2,h8,h5,-⟩ h10 h9
  obtain ⟨x,hx,-,hm⟩:=fS hj
  have hxl:=hlt x hm
  have z1:j<(l.map cu).length:=by simpa using hj
  have z2:(l.map cu)[j]?=some (cu x):=by rw[List.getElem?_map,hx];rfl
  have rt:=fun h=>(r2 h).nats
  rw[xd hx] at hS
  by_cases c:x<2 ^ p.length
  ·by_cases c2:x &&& a=0
   ·simp only[sz,simprocAttr,h2,h5,h8,h10,g0,lg1,lp,rt,z1,z2,cu,aP _ _ _ hxl,od,c,da x a hxl ha,c2,g7 a x ha hxl]
    refine ⟨⟨a ||| x,uI ha hxl,?_,by simp[St,sx,h2,h8]⟩,h9⟩
    rw[<-hS,vV c c2]
   ·simp only[sz,simprocAttr,h2,h5,h8,h10,g0,lg1,lp,rt,z1,z2,cu,aP _ _ _ hxl,od,c,da x a hxl ha,show ¬((x &&& a:Nat):Int)=0 from by omega]
    rw[<-hS,yr c2]
  ·simp only[sz,simprocAttr,h2,h5,h8,h10,g0,lg1,lp,rt,z1,z2,cu,aP _ _ _ hxl,od,c]
   rw[<-hS,yP c]
 ·rintro t df g ⟨rfl,g0,a,-,hS,-⟩
  simp only[sz,simprocAttr,cH]
  rw[<-hS,List.drop_length];rfl
theorem vv {p:List Nat}(hp:∀x∈p,x<2 ^ p.length):Chl p (S.aF p):=by
 refine ⟨pV,fun v u=>?_⟩
 by_cases h:v<p.length
 ·have:(S.aF p)[v]?.getD 0=S.aa (Eg p v) p.length:=by simp[S.aF,h]
  rw[this,fG]
  exact ⟨fun h=>h.2,fun h=>⟨(j8 hp h).2,h⟩⟩
 ·have:(S.aF p)[v]?=none:=List.getElem?_eq_none (by rw[pV];omega)
  rw[this]
  constructor
  ·intro h';simp at h'
  ·intro h';exact absurd (j8 hp h').1 h
def cn (i:Nat):Int:=(i:Int)
def S.aH (p:List Nat)(xs ys zs:Nat):Bool:=decide (S.aD p [xs,ys,zs]=0)&&decide (S.ay p xs zs &&& ys=0)
theorem xW {n x y z:Nat}:S.am n [x,y,z] 0=true↔x<2 ^ n/\y<2 ^ n/\y &&& x=0/\z<2 ^ n/\z &&& (x ||| y)=0:=by
 simp[S.am,and_assoc]
theorem vH {a b c:Nat}(h:a &&& (b ||| c)=0):a &&& b=0/\a &&& c=0:=by
 have k:∀i,(a.testBit i&&(b.testBit i || c.testBit i))=false:=fun i=>by
  rw[<-Nat.testBit_or,<-Nat.testBit_and,h,Nat.zero_testBit]
 constructor <;>
 ·refine Nat.eq_of_testBit_eq fun i=>?_
  have:=k i
  rw[Nat.testBit_and,Nat.zero_testBit]
  cases h1:a.testBit i<;>cases h2:b.testBit i<;>cases h3:c.testBit i<;>simp[h1,h2,h3] at this ⊢
theorem Ci {g:G}{id:Nat}{l:List Nat}(h:g.h.get id=.cells 1 (l.map cu) 0 false false)(hi:id<g.nx)  (hl:l.length<9223372036854775808)(hb:∀y∈l,y<18446744073709551616):SlR (fun i=>some id=some i) 0 g.h l (.hsl id 0 0 l.length none) :=
 Own.natsV (b:=0) (v:=.hsl id 0 0 l.length none) (.inr ⟨id,0,false,Nat.zero_le _,hi,by simp,h⟩) hl hb
theorem ju {α:Type} [Rp α]{x:α}{k:Nat}{h h':H}{v:AV}(r:Agg x NoP k h v):Agg x NoP k h' v:=by
 obtain ⟨cs,rfl,r⟩:=r
 exact ⟨cs,rfl,Rp.tree r (Nat.le_refl _)⟩
theorem mf {d:Nat}{g:G}{v:AV}{p:List Nat}{xs ys zs:Nat}(hd:0<d)(hv:SlR NoP 0 .nil p v)(hx:xs<18446744073709551616)(hy:ys<18446744073709551616)(hz:zs<18446744073709551616) :
  aU C0 d N.ap [v,.int .u64 (xs:Int),.int .u64 (ys:Int),.int .u64 (zs:Int)] g=.val (.tup [.bool (S.aH p xs ys zs),.int .i64 (S.aD p [xs,ys,zs])]):=by
 have key:∃r,aU C0 d N.ap [v,.int .u64 (xs:Int),.int .u64 (ys:Int),.int .u64 (zs:Int)] g=.val r/\wZ (One (S.aH p xs ys zs)) (One (S.aD p [xs,ys,zs])) NoP 0 .nil r:=by
  have e:=qE (h:=g.h) d (hv.tree (h':=g.h) (Nat.le_refl 0))
  have fin:∀{h:H} {r:Bool} {x:Int},S.aH p xs ys zs=r->S.aD p [xs,ys,zs]=x->∃P,wZ (One (S.aH p xs ys zs)) (One (S.aD p [xs,ys,zs])) P 0 h (.tup [.bool r,.int .i64 x]):=fun h1 h2 =>
   ⟨fun _=>True,_,_,rfl,by rw[h1];exact uO.2 rfl,by rw[h2];exact jA.2 rfl⟩
  rw[jU]
  refine fJ kK (xs:=[v,.int .u64 (xs:Int),.int .u64 (ys:Int),.int .u64 (zs:Int)]) (by simp only[aH,e,gQ]) (by simp[eV]) (ny (m:=1) (iN _) (iN _) (by decide) (by decide)) (by decide) hd ?_
  simp only[sz,simprocAttr,eV]
  refine tK (rD (Nat.succ_pos d) hv) fun z hz'=>?_
  obtain ⟨a,b,rfl,ha',hb⟩:=hz'
  have hA:=ha'
  obtain ⟨cs,rfl,hcs⟩:=ha'
  obtain ⟨_,_,rfl,ha,hb2⟩:=fM.1 hcs
  obtain ⟨pa,rfl,-⟩:=bB.1 ha
  obtain ⟨ch,rfl,-⟩:=bB.1 hb2
  obtain rfl:b=.int .i64 (if S.aB p then (0:Int) else 70):=by simpa using jA.1 hb
  have ld:aC (.cells 2 [[pa,ch]] 0 false false) 0 0 true 2 0=.val (.agg [pa,ch]):=rfl
  cases hG:S.aB p with
  | false =>
   have h70:S.aD p [xs,ys,zs]=70:=by simp[S.aD,hG]
   simp only[sz,simprocAttr,List.cons_append,List.nil_append]
   exact fin (by simp[S.aH,h70]) h70
  | true =>
   have hGo:=gV.1 hG
   have h256:=iZ hGo.l8
   rw[S.gr,hG,if_pos rfl,List.cons_append,List.nil_append] at hA
   have kD:∀g:G,g.h.get 1=.cells 1 [[.int .u64 (xs:Int)],[.int .u64 (ys:Int)],[.int .u64 (zs:Int)]] 0 false false->1<g.nx->aU C0 (d+1) N.af [.agg [pa,ch],.hsl 1 0 0 3 none] g=.val (.bool (S.am p.length [xs,ys,zs] 0)) :=
    fun g h hn=>vG (Nat.succ_pos d) (ju hA) (Ci (l:=[xs,ys,zs]) h hn (by simp) (by simp[hx,hy,hz])) hGo.l8
   have kR:=fun (h1:xs<2 ^ p.length) (h2:zs<2 ^ p.length) g=>sI (d:=d+1) (g:=g) (Nat.succ_pos d) (ju hA) hGo.hp hGo.l1 hGo.l8 (vv hGo.hp) h1 h2
   simp only[sz,simprocAttr,List.cons_append,List.nil_append,ld,pL]
   rw[kD _ (by simp[sx,H.get_put]) (by simp)]
   cases hD:S.am p.length [xs,ys,zs] 0 with
   | false =>
    have h2:S.aD p [xs,ys,zs]=2:=by simp[S.aD,hG,hD]
    simp only[sz,simprocAttr]
    exact fin (by simp[S.aH,h2]) h2
   | true =>
    have h0:S.aD p [xs,ys,zs]=0:=by simp[S.aD,hG,hD]
    obtain ⟨d1,d2,-,d3,-⟩:=xW.1 hD
    have hR:S.ay p xs zs<2 ^ p.length:=mi _ _
    have hq:decide (((S.ay p xs zs &&& ys:Nat):Int)=0)=decide (S.ay p xs zs &&& ys=0):=by
     by_cases h:S.ay p xs zs &&& ys=0
     ·simp[h]
     ·have:¬((S.ay p xs zs &&& ys:Nat):Int)=0:=by omega
      simp[h]
    simp only[sz,simprocAttr,H.get_put,ld,kR d1 d3,da _ _ (show S.ay p xs zs<18446744073709551616 by omega) hy,hq]
    exact fin (by simp[S.aH,h0]) h0
 obtain ⟨r,h1,a,b,rfl,h2,h3⟩:=key
 have h2:=uO.1 h2
 have h3:=jA.1 h3
 injection h2 with h2
 injection h3 with h3
 rw[h1,h2,h3]
structure GvJ (g0:G) (q:Nat) (s:Int) (h:H):Prop where
 fr:∀i,i<g0.nx->i≠q->h.get i=g0.h.get i
 hq:h.get q=.cells 1 [[.int .i64 s]] 0 false false
structure ND where
 c:Nat->Int
 P:Nat->List Int
 m:Nat->Nat
 R:Nat->Nat->List Int
 o:Nat->Nat
def LN (n:Nat)(D:ND):Ky->Prop:=fun k=>k=(0,0)\/∃i q,k=(i+1,q)/\i<n/\q<2+D.o i
def Ck (D:ND)(V:Ky->AV)(i:Nat):List AV:=[.int .i64 (D.c i),V (i+1,0),V (i+1,1)]
def Cs (V:Ky->AV)(i r:Nat):List AV:=[V (i+1,2+r)]
structure BN (K n:Nat) (V:Ky->AV) (E:Ky->En) (D:ND):Prop where
 ns:E (0,0)=.sl 3 ((List.range n).map (Ck D V))
 ps:∀i,i<n->E (i+1,0)=.sl 1 ((D.P i).map ci)/\(D.P i).length<=K
 rs:∀i,i<n->E (i+1,1)=.sl 1 ((List.range (D.m i)).map (Cs V i))/\D.m i<=K
 rr:∀i r,i<n->r<D.m i->(D.R i r).length<=K/\((r<D.o i/\E (i+1,2+r)=.sl 1 ((D.R i r).map ci))\/SlR NoP 0 .nil (D.R i r) (V (i+1,2+r)))
def ND.node (D:ND)(i:Nat):Node:=⟨D.c i,D.P i,(List.range (D.m i)).map (D.R i)⟩
def Cn (gr c:Int)(l:List Int):Prop:=(l.length:Int)=c/\(∀y∈l,0<=y/\y<=gr)/\l.sum=gr
def S.rq (gr s x:Int):Int:=gr*x / s
structure Rw1 (gr:Int) (nv u:AV) (C F j:Nat) (t:T) (g:G):Prop where
 st:St t [(0,.int .i64 gr),(1,.int .i64 (C:Int)),(2,nv),(3,.int .i64 (F:Int)),(9,u)]
 hX:∃(X:List Int) (s:Int),tat t 10=.int .i64 s/\X.length=C/\Own g 0 u 1 (X.map ci)/\(∀x∈X,0<=x/\x<=7)/\s=(X.take j).sum/\0<=s/\s<=7*j
structure Rw2 (gr s:Int) (u:AV) (C:Nat) (X:List Int) (j:Nat) (t:T) (g:G):Prop where
 st:St t [(0,.int .i64 gr),(1,.int .i64 (C:Int)),(9,u),(10,.int .i64 s)]
 hX:∃(la:Nat),tat t 12=.int .i64 (gr - ((X.take j).map (S.rq gr s)).sum)/\tat t 13=.int .i64 (la:Int)/\la<C/\Own g 0 u 1 (((X.take j).map (S.rq gr s)++X.drop j).map ci)
theorem nN (os:List UInt8):∀k,(S.ap os k).Perm ((List.range k).map fun i:Nat=>(i:Int))
 | 0=>.refl _
 | k+1=>by
  rw[List.range_succ,List.map_append,S.ap]
  refine List.perm_middle.trans ?_
  rw[List.take_append_drop]
  exact ((nN os k).cons _).trans (List.perm_append_comm (l₁:=[(k:Int)]))
structure Num (n:Nat) (pl:List Int) (num:Nat->Nat):Prop where
 len:pl.length=n
 at_:∀k,k<n->pl[k]?=some (num k:Int)
 lt:∀k,k<n->num k<n
 inj:∀i j,i<n->j<n->num i=num j->i=j
 sur:∀u,u<n->∃k,k<n/\num k=u
theorem BT (os:List UInt8)(n:Nat):∃num,Num n (S.ap os n) num:=by
 have hp:=nN os n
 have hl:=jp os n
 have hmem:∀x∈S.ap os n,∃i:Nat,i<n/\x=(i:Int):=fun x hx=>by
  have:=hp.mem_iff.1 hx
  obtain ⟨i,hi,rfl⟩:=List.mem_map.1 this
  exact ⟨i,List.mem_range.1 hi,rfl⟩
 have hnd:(S.ap os n).Nodup:=by
  rw[hp.nodup_iff]
  refine List.Pairwise.map _ ?_ (List.nodup_range (n:=n))
  intro a b h e
  exact h (by omega)
 have hat:∀k,k<n->(S.ap os n)[k]?=some (((S.ap os n)[k]?.getD 0).toNat:Int)/\((S.ap os n)[k]?.getD 0).toNat<n:=fun k hk=>by
  have hk':k<(S.ap os n).length:=by omega
  have e:=List.getElem?_eq_getElem hk'
  obtain ⟨i,hi,h⟩:=hmem _ (List.getElem_mem hk')
  rw[e,Option.getD_some,h]
  simp[hi]
 refine ⟨fun k=>((S.ap os n)[k]?.getD 0).toNat,hl,fun k hk=>(hat k hk).1,fun k hk=>(hat k hk).2,fun i j hi hj h=>?_,fun u hu=>?_⟩
 ·have h1:=(hat i hi).1
  have h2:=(hat j hj).1
  refine (List.getElem?_inj (by omega) hnd).1 ?_
  rw[h1,h2]
  exact congrArg (fun x:Nat=>some (x:Int)) h
 ·have:(u:Int)∈S.ap os n:=hp.mem_iff.2 (List.mem_map.2 ⟨u,List.mem_range.2 hu,rfl⟩)
  obtain ⟨k,hk,he⟩:=List.mem_iff_getElem.1 this
  refine ⟨k,by omega,?_⟩
  rw[List.getElem?_eq_getElem hk,he];rfl
def LNX (X:Ky->Prop)(n:Nat)(D:ND):Ky->Prop:=fun k=>LN n D k\/X k
def X1:Ky->Prop:=fun k=>k=(0,1)
def X2:Ky->Prop:=fun k=>k=(0,1)\/k=(0,2)
structure DN (X:Ky->Prop) (r0:List AV) (n q K:Nat) (gr:Int) (V:Ky->AV) (E:Ky->En) (D:ND) (g:G):Prop where
 hp:Hp g 2 (LNX X n D) V E
 bn:BN K n V E D
 vb:V (0,1)=.hptr q 0 0 0
 bx:E (0,1)=.bx [.int .i64 gr,V (0,0)]
 h0:g.h.get 0=.cells 3 [r0] 0 false false
 h1:g.h.get 1=.cells 2 [[.int .i64 0,.nils]] 0 false false
structure NumI (n:Nat) (num:Nat->Nat) (Y:List Nat):Prop where
 l:Y.length=n
 b:∀i,i<n->∀u,(Par Y (num i)).testBit u=true->∃k,k<i/\u=num k
theorem wI {n:Nat}{num:Nat->Nat}:NumI n num (List.replicate n 0):=by
 refine ⟨by simp,fun i hi u h=>?_⟩
 have:Par (List.replicate n 0) (num i)=0:=by
  unfold Par
  rw[List.getElem?_replicate]
  split<;>rfl
 rw[this,Nat.zero_testBit] at h;cases h
theorem zt {n i k x:Nat}{num:Nat->Nat}{pl:List Int}{Y:List Nat}(hn:Num n pl num)(h:NumI n num Y)(hi:i<n)(hk:k<i)(hx:Y[num i]?=some x):NumI n num (Y.set (num i) (x ||| 2 ^ num k)):=by
 refine ⟨by simp[h.l],fun j hj u hu=>?_⟩
 have hil:=(List.getElem?_eq_some_iff.1 hx).1
 unfold Par at hu
 by_cases e:i=j
 ·subst e
  rw[List.getElem?_set_self hil,Option.getD_some,Nat.testBit_or,Bool.or_eq_true] at hu
  rcases hu with hu | hu
  ·exact h.b i hi u (by rw[Par,hx];exact hu)
  ·rw[Nat.testBit_two_pow,decide_eq_true_iff] at hu
   exact ⟨k,hk,hu.symm⟩
 ·rw[List.getElem?_set_ne fun e'=>e (hn.inj i j hi hj e')] at hu
  exact h.b j hj u hu
theorem yU {n:Nat}{num:Nat->Nat}{pl:List Int}{Y:List Nat}(hn:Num n pl num)(h1:1<=n)(h8:n<=8)(h:NumI n num Y):GOk Y:=by
 have hp:∀x∈Y,x<2 ^ Y.length:=fun x hx=>by
  obtain ⟨v,hv,rfl⟩:=List.mem_iff_getElem.1 hx
  rw[h.l] at hv ⊢
  obtain ⟨i,hi,rfl⟩:=hn.sur v hv
  refine Nat.lt_pow_two_of_testBit _ fun u hu=>?_
  rw[<-Bool.not_eq_true]
  intro hb
  obtain ⟨k,hk,rfl⟩:=h.b i hi u (by rw[Par,List.getElem?_eq_getElem (by rw[h.l];exact hv)];exact hb)
  have:=hn.lt k (by omega)
  omega
 obtain ⟨rk,hrk⟩:∃rk:Nat->Nat,∀i,i<n->rk (num i)=i:=by
  have:∀v,∃r:Nat,∀i,i<n->num i=v->r=i:=fun v=>by
   by_cases hv:v<n
   ·obtain ⟨k,hk,e⟩:=hn.sur v hv
    exact ⟨k,fun i hi e'=>hn.inj k i hk hi (by rw[e,e'])⟩
   ·exact ⟨0,fun i hi e=>absurd (hn.lt i hi) (by omega)⟩
  exact ⟨fun v=>Classical.choose (this v),fun i hi=>Classical.choose_spec (this (num i)) i hi rfl⟩
 refine ⟨by rw[h.l];exact h1,by rw[h.l];exact h8,hp,qf hp (rk:=rk) fun u v e=>?_⟩
 have hv:=(j8 hp e).2
 rw[h.l] at hv
 obtain ⟨i,hi,rfl⟩:=hn.sur v hv
 obtain ⟨k,hk,rfl⟩:=h.b i hi u e
 rw[hrk i hi,hrk k (by omega)]
 exact hk
structure DAok (D:ND) (n i:Nat) (num:Nat->Nat):Prop where
 e:∀v,v<n->D.P v=[]/\D.m v=0
 c:∀k,k<i->D.c (num k)=2\/D.c (num k)=3
 o:∀u,D.o u=0
def LDA (n q:Nat)(r5:AV):List (Nat×AV):=[(1,.hptr 0 0 0 0),(2,.hptr 1 0 0 0),(3,.int .i64 (n:Int)),(4,.hptr q 0 0 0),(5,r5)]
structure DA (r0:List AV) (n q:Nat) (gr:Int) (r5:AV) (num:Nat->Nat) (i:Nat) (t:T) (g:G):Prop where
 st:St t (LDA n q r5)
 w:∃w:Nat,tat t 6=.int .i64 (w:Int)/\w<=3 ^ i
 hd:∃V E D,DN X1 r0 n q 1000 gr V E D g/\DAok D n i num
section
variable {κ:Type} [DecidableEq κ]{g:G}{b:Nat}{L:κ->Prop}{V:κ->AV}{E:κ->En}{k:κ}
end
theorem wY (m n:Nat):∃z:Nat,aT .shr (.int .u8 (m:Int)) (.int .u64 (n:Int))=.val (.int .u8 (z:Int)) :=
 ⟨m / 2 ^ (Nat.min n 8),rfl⟩
theorem wW (m n:Nat):∃z:Int,aT .and (.int .u8 (m:Int)) (.int .u8 (n:Int))=.val (.int .u8 z):=by
 have:∃z:Int,Op.intBits .and .u8 (.ofNat m) (.ofNat n)=.pure (.int .u8 z):=⟨_,rfl⟩
 obtain ⟨z,hz⟩:=this
 refine ⟨z,?_⟩
 show orV (jj (Op.intBits .and .u8 (.ofNat m) (.ofNat n)))=_
 rw[hz];rfl
structure DB (D:ND) (n i v:Nat) (num:Nat->Nat):Prop where
 c:∀u,u<n->D.c u=2\/D.c u=3
 p:∀u,u<n->(D.P u).length<=3/\∀y∈D.P u,0<=y/\y<n
 m:∀u,u<n->D.m u<=64
 o:∀u,D.o u=0
 f:∀k,i<k->k<n->D.P (num k)=[]/\D.m (num k)=0
def S.bh (P0:List Int)(c0:Nat->Int):Int:=S.aA (P0.map fun y=>c0 y.toNat)
structure DOk (gr:Int) (D:ND) (n i:Nat) (num:Nat->Nat):Prop where
 s:∀u,u<n->(D.P u).Pairwise (·<·)
 a:∀k,k<n->∀y∈D.P (num k),∃k',k'<k/\y=(num k':Int)
 w:∀k,k<i->(D.m (num k):Int)=S.bh (D.P (num k)) D.c
 r:∀u r,u<n->r<D.m u->Cn gr (D.c u) (D.R u r)
structure DP (r0 prow:List AV) (n q i p v:Nat) (gr:Int) (r5:AV) (num:Nat->Nat) (g:G) (V:Ky->AV) (E:Ky->En) (D:ND):Prop where
 dn:DN X2 r0 n q 1000 gr V E D g
 pb:V (0,2)=.hptr p 0 0 0/\E (0,2)=.bx prow
 db:DB D n i v num
 mv:D.m v=0
 ok:DOk gr D n i num
end
end Hx
end
