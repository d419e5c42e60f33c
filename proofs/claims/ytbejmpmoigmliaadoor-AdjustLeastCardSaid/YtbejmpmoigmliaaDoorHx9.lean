/- A part of the proof: an interpreter over abstract values, shown right against the model, and what the functions of the chapter compute on it. -/
import Derived.Test.YtbejmpmoigmliaaDoorHx8
set_option linter.unusedVariables false
set_option linter.unusedSimpArgs false
set_option linter.unnecessarySimpa false
section
namespace Hx
open Go
noncomputable section
theorem xN {q:Nat->Prop}{n:Nat}(h:∀i,i<n->¬q i):S.aa q n=0 :=
 (qs (n:=n) (p:=q) fun i=>by
  rw[Nat.zero_testBit]
  exact ⟨fun h'=>(by cases h'),fun ⟨a,b⟩=>(h i a b).elim⟩).symm
theorem BJ {p q:Nat->Prop}{n v:Nat}(hv:v<n)(h:∀i,q i↔p i\/i=v):S.aa q n=S.aa p n ||| 2 ^ v:=by
 symm
 refine qs fun i=>?_
 rw[Nat.testBit_or,Nat.testBit_two_pow,Bool.or_eq_true,gM,decide_eq_true_iff,h]
 constructor
 ·rintro (⟨a,b⟩ | e)
  ·exact ⟨a,.inl b⟩
  ·exact ⟨by omega,.inr e.symm⟩
 ·rintro ⟨a,b | e⟩
  ·exact .inl ⟨a,b⟩
  ·exact .inr e.symm
def S.ap (p:List Nat)(j i:Nat):List Nat:=(List.range p.length).map fun u=>S.aa (fun v=>Eg p u v/\(v<j\/v=j/\u<i)) p.length
def S.aP (p:List Nat):List Nat:=(List.range p.length).map fun u=>S.aa (Eg p u) p.length
theorem lf {p:List Nat}{j i:Nat}:(S.ap p j i).length=p.length:=by simp[S.ap]
theorem qD {p:List Nat}:(S.aP p).length=p.length:=by simp[S.aP]
theorem kP {p:List Nat}{j i u:Nat}(h:u<p.length):(S.ap p j i)[u]?=some (S.aa (fun v=>Eg p u v/\(v<j\/v=j/\u<i)) p.length):=by simp[S.ap,h]
theorem zF {p:List Nat}:S.ap p 0 0=List.replicate p.length 0:=by
 refine List.ext_getElem? fun u=>?_
 by_cases h:u<p.length
 ·rw[kP h,List.getElem?_replicate,if_pos h,xN]
  rintro i - ⟨-,h | h⟩<;>omega
 ·rw[List.getElem?_eq_none (by rw[lf];omega),List.getElem?_eq_none (by simp;omega)]
theorem x7 {p:List Nat}{j:Nat}:S.ap p j p.length=S.ap p (j+1) 0 :=
 List.map_congr_left fun u hu=>fN fun v hv=>by
  have hu:=List.mem_range.1 hu
  constructor
  ·rintro ⟨a,b⟩;exact ⟨a,by omega⟩
  ·rintro ⟨a,b⟩;exact ⟨a,by omega⟩
theorem zZ {p:List Nat}:S.ap p p.length 0=S.aP p :=
 List.map_congr_left fun u hu=>fN fun v hv=>⟨fun a=>a.1,fun a=>⟨a,.inl hv⟩⟩
theorem vB {x i:Nat}:x / 2 ^ i &&& 1=if x.testBit i then 1 else 0:=by
 rw[Nat.and_one_is_mod,Nat.testBit_eq_decide_div_mod_eq]
 have:=Nat.mod_lt (x / 2 ^ i) (show 0<2 by decide)
 by_cases h:x / 2 ^ i % 2=1
 ·rw[if_pos (by rw[decide_eq_true_iff];exact h),h]
 ·rw[if_neg (by rw[decide_eq_true_iff];exact h)];omega
theorem xF {p:List Nat}{j i x:Nat}(hi:i<p.length)(hj:j<p.length)(h8:p.length<=8)(hx:p[j]?=some x) :
  (S.ap p j i).set i (S.aa (fun v=>Eg p i v/\(v<j\/v=j/\i<i)) p.length ||| (x / 2 ^ i &&& 1)*2 ^ j % 18446744073709551616)=S.ap p j (i+1):=by
 have h2:(2:Nat) ^ j<=2 ^ 8:=Nat.pow_le_pow_right (by decide) (by omega)
 have hPx:Par p j=x:=by simp[Par,hx]
 have hE:Eg p i j↔x.testBit i=true:=by rw[Eg,hPx]
 refine List.ext_getElem? fun u=>?_
 by_cases e:i=u
 ·subst e
  rw[List.getElem?_set_self (by rw[lf];exact hi),kP hi,vB]
  congr 1
  by_cases hb:x.testBit i=true
  ·rw[if_pos hb,Nat.one_mul,Nat.mod_eq_of_lt (by omega)]
   refine (BJ hj fun v=>?_).symm
   constructor
   ·rintro ⟨a,b⟩
    by_cases ev:v=j
    ·exact .inr ev
    ·exact .inl ⟨a,by omega⟩
   ·rintro (⟨a,b⟩ | rfl)
    ·exact ⟨a,by omega⟩
    ·exact ⟨hE.2 hb,by omega⟩
  ·rw[if_neg hb,Nat.zero_mul,Nat.zero_mod,Nat.or_zero]
   refine fN fun v _=>?_
   constructor
   ·rintro ⟨a,b⟩;exact ⟨a,by omega⟩
   ·rintro ⟨a,b⟩
    refine ⟨a,?_⟩
    by_cases ev:v=j
    ·subst ev;exact absurd (hE.1 a) hb
    ·omega
 ·rw[List.getElem?_set_ne e]
  by_cases h:u<p.length
  ·rw[kP h,kP h]
   refine congrArg some (fN fun v _=>?_)
   constructor<;>exact fun ⟨a,b⟩=>⟨a,by omega⟩
  ·rw[List.getElem?_eq_none (by rw[lf];omega),List.getElem?_eq_none (by rw[lf];omega)]
def S.aA (p:List Nat):Bool:=decide (1<=p.length)&&decide (p.length<=8)&&p.all (fun x=>decide (x<2 ^ p.length))&&S.aK p
structure GOk (p:List Nat):Prop where
 l1:1<=p.length
 l8:p.length<=8
 hp:∀x∈p,x<2 ^ p.length
 ac:S.aK p=true
theorem gS {p:List Nat}:S.aA p=true↔GOk p:=by
 simp only[S.aA,Bool.and_eq_true,decide_eq_true_eq,List.all_eq_true]
 exact ⟨fun ⟨⟨⟨a,b⟩,c⟩,d⟩=>⟨a,b,c,d⟩,fun ⟨a,b,c,d⟩=>⟨⟨⟨a,b⟩,c⟩,d⟩⟩
theorem BQ {p:List Nat}(h:¬GOk p):S.aA p=false:=by
 cases e:S.aA p with
 | false=>rfl
 | true=>exact absurd (gS.1 e) h
def S.gr (p:List Nat):List Nat×List Nat:=if S.aA p then (p,S.aP p) else ([],[])
end
end Hx
end
section
namespace Hx
open Go
def S.aJ (n:Net):List Int:=n.nodes.map (·.card)
def S.aS (cs ps:List Int):List Int:=ps.map fun p=>cs[p.toNat]?.getD 0
def S.a9 (n:Net):List Nat:=n.nodes.map fun x=>S.bj x.parents
def S.a7 (gr card:Int)(r:List Int):Bool:=decide ((r.length:Int)=card)&&r.all (fun x=>decide (0<=x)&&decide (x<=gr))&&decide (r.sum=gr)
def S.bz (k:Int)(x:Node):Bool:=decide (1<=x.card)&&decide (x.card<=4)&&S.a_ x.parents k
def S.bA (n:Net)(x:Node):Bool:=decide ((x.rows.length:Int)=S.aE (S.aS (S.aJ n) x.parents))&&x.rows.all (S.a7 n.grain x.card)
structure NR (n:Net):Prop where
 g1:1<=n.grain
 g2:n.grain<=60
 l1:1<=n.nodes.length
 l2:n.nodes.length<=8
 card:∀x∈n.nodes,1<=x.card/\x.card<=4
 places:∀x∈n.nodes,S.a_ x.parents n.nodes.length=true
 worlds:S.aE (S.aJ n)<=1024
 acyc:S.aK (S.a9 n)=true
 rows:∀x∈n.nodes,(x.rows.length:Int)=S.aE (S.aS (S.aJ n) x.parents)
 row:∀x∈n.nodes,∀r∈x.rows,(r.length:Int)=x.card/\(∀y∈r,0<=y/\y<=n.grain)/\r.sum=n.grain
def S.bH (n:Net)(vals:List Int)(v:Nat):Int:=match n.nodes[v]? with
 | none=>1
 | some x=>(x.rows[(S.aZ (S.aS (S.aJ n) x.parents) (S.aS vals x.parents)).toNat]?.getD [])[(vals[v]?.getD 0).toNat]?.getD 0
end Hx
end
section
namespace Hx
open Go
section
variable {b card:Nat}
def S.be (b card p:Nat):Nat:=p / (b*card)*b+p % b
def S.bb (b card p:Nat):Nat:=p / b % card
def S.bC (rows:List (List Int))(b card t:Nat):List Int:=(List.range (rows.length*card)).map fun p=>if S.be b card p*card+S.bb b card p<t then (rows[S.be b card p]?.getD [])[S.bb b card p]?.getD 0 else 0
def S.bB (rows:List (List Int))(b card:Nat):List Int:=(List.range (rows.length*card)).map fun p=>(rows[S.be b card p]?.getD [])[S.bb b card p]?.getD 0
end
def S.bm (ps:List Int)(k:Nat)(v:Int):List Int:=ps.take k++v::ps.drop k
end Hx
end
section
namespace Hx
open Go
noncomputable section
section
variable {d:Nat}{b pa ra z:AV}{gr card:Int}{r:List Int}
def LR5 (v:Nat)(q:Nat):List (Nat×AV):=[(1,.hptr 0 0 0 0),(6,.int .i64 (v:Int)),(7,.hptr q 0 0 0)]
structure RJ1 (gr:Int) (r:List Int) (v q i j:Nat) (t:T):Prop where
 st:St t ((8,.int .i64 (i:Int))::LR5 v q)
 s9:tat t 9=.int .i64 (r.take j).sum
 all:∀y∈r.take j,0<=y/\y<=gr
structure RJ4 (gr card:Int) (rws:List (List Int)) (v q j:Nat) (t:T):Prop where
 st:St t (LR5 v q)
 all:∀r∈rws.take j,S.a7 gr card r=true
structure RJ0 (n:Net) (b:AV) (j:Nat) (t:T) (g:G):Prop where
 st:St t [(1,.hptr 0 0 0 0),(3,.int .i64 (S.aE ((S.aJ n).take j)))]
 hg:g.h.get 0=.cells 2 [[.int .i64 n.grain,b]] 0 false false
 nx:1<=g.nx
 all:∀x∈n.nodes.take j,S.bz n.nodes.length x=true
structure RJ6 (n:Net) (b:AV) (j:Nat) (t:T) (g:G):Prop where
 st:St t [(1,.hptr 0 0 0 0)]
 hg:g.h.get 0=.cells 2 [[.int .i64 n.grain,b]] 0 false false
 nx:1<=g.nx
 all:∀x∈n.nodes.take j,S.bA n x=true
end
end
end Hx
end
section
namespace Hx
open Go
noncomputable section
theorem wm {C:Cfg}{d id nt:Nat}{t:T}{ps:List Nat}{assign body:Code}{a b:SC}{dfr:Nat}{args:List AV}{g:G}{K:AV->G->Prop}{D:ADf->Prop}{t':T}
  (hg:g.h.get id=.loop nt t ps assign body dfr .ready none) (ha:cX C nt assign=a) (hb:cX C nt body=b) (hp:da t nt ps args=some t')
  (h:wp C d (some id) a (fun e t1 df g1=>e=.norm/\df=[]/\g1=g /\
   wp C d (some id) b (fun e _ df g2=>df=[]/\g2.h.get id=.loop nt t ps assign body dfr .busy none/\((e=.norm/\K (.bool true) (g2.put id (.loop nt t ps assign body dfr .ready none)))\/(e=.ret/\K (.bool false) (g2.put id (.loop nt t ps assign body dfr .done (some .ret))))))
    t1 [] (g.put id (.loop nt t ps assign body dfr .busy none))) t' [] g) :
  (cG (I C) d id args g).sat K g D:=by
 subst ha;subst hb
 unfold cG
 rw[show g.get id=_ from hg]
 dsimp only
 rw[hp]
 dsimp only
 have h1:=pw h
 cases hc:(I C).code nt d (some id) assign t' [] g with
 | fail=>rw[hc] at h1;exact h1.elim
 | ok e t1 df g1 =>
  rw[hc] at h1
  obtain ⟨rfl,rfl,rfl,h2⟩:=h1
  dsimp only
  rw[show g1.get id=_ from hg]
  dsimp only
  have h3:=pw h2
  cases hc2:(I C).code nt d (some id) body t1 [] (g1.put id (.loop nt t ps assign body dfr .busy none)) with
  | fail=>rw[hc2] at h3;exact h3.elim
  | ok e t2 df2 g2 =>
   rw[hc2] at h3
   obtain ⟨rfl,h4,h5⟩:=h3
   dsimp only
   rw[show g2.get id=_ from h4]
   rcases h5 with ⟨rfl,h5⟩ | ⟨rfl,h5⟩<;>exact h5
theorem th {C:Cfg}{d nt:Nat}{f:Od}{ps:List Nat}{a b:SC}{Q:QT}{t:T}{df:List ADf}{g:G}{fn:Nat}{first cap:List AV}{s:SF}(hv:f.get t=.clo fn first cap)(he:C.ext fn=none)(hs:nFn C fn=some s)
  (hl:(first++(.yld (g.nx+1)::cap)).length<=s.nt)
  (h:∀assign body,cX C nt assign=a->cX C nt body=b ->
   wp C d none s.code (fnQ C d s.res fun _ g2=>∃nt' t' ps' as' bd' dfr',(g2.h.get (g.nx+1)=.loop nt' t' ps' as' bd' dfr' .ready none/\Q .norm t (.mark g.nx::df) (g2.put (g.nx+1) (.loop nt' t' ps' as' bd' dfr' .exhausted none))) \/
     (g2.h.get (g.nx+1)=.loop nt' t' ps' as' bd' dfr' .done (some .ret)/\Q .ret t (.mark g.nx::df) (g2.put (g.nx+1) (.loop nt' t' ps' as' bd' dfr' .exhausted (some .ret)))))
    (bH 0 (first++(.yld (g.nx+1)::cap)) .nil) [] ((g.new (.dfr true)).new (.loop nt t ps assign body g.nx .ready none))) :
  wp C d none (.rng nt f ps a b) Q t df g:=by
 intro assign body ha hb
 have h:=it hs hl (h assign body ha hb)
 show (bB C (I C) nt d none (f.get t) ps assign body t (.mark g.nx::df) g.nx (g.new (.dfr true))).sat Q
 rw[hv]
 unfold bB
 dsimp only
 rw[he]
 show (match (I C).call d fn (first++(AV.yld (g.nx+1)::cap)) ((g.new (.dfr true)).new (.loop nt t ps assign body g.nx .ready none)) with
  | .ok _ g2=>bY (I C) nt d none (g.nx+1) t (.mark g.nx::df) g2
  | .fail=>.fail).sat Q
 cases hc:(I C).call d fn (first++(AV.yld (g.nx+1)::cap)) ((g.new (.dfr true)).new (.loop nt t ps assign body g.nx .ready none)) with
 | fail=>rw[hc] at h;exact h.elim
 | ok v g2 =>
  rw[hc] at h
  obtain ⟨nt',t',ps',as',bd',dfr',h⟩:=h
  show (bY (I C) nt d none (g.nx+1) t (.mark g.nx::df) g2).sat Q
  unfold bY
  rcases h with ⟨h1,h2⟩ | ⟨h1,h2⟩
  ·rw[show g2.get (g.nx+1)=_ from h1]
   exact h2
  ·rw[show g2.get (g.nx+1)=_ from h1]
   dsimp only
   rw[tY]
   exact h2
structure RowQ (b:Nat) (g2 g3:G) (e:Ex) (A B:Prop):Prop where
 nx:g2.nx<=g3.nx
 fr:∀i,b<=i->i<g2.nx->g3.h.get i=g2.h.get i
 st:(e=.norm/\A)\/(e=.ret/\B)
def S.bp (gr:Int)(cs:List Int)(x:Node):Bool:=decide ((x.rows.length:Int)=S.aE (S.aS cs x.parents))&&x.rows.all (S.a7 gr x.card)
structure FJ (gr:Int) (r:List Int) (z:AV) (j:Nat) (t:T):Prop where
 st:St t [(2,.hptr 0 0 0 0),(3,.hptr 1 0 0 0),(4,.hptr 2 0 0 0),(9,z),(40,z),(10,.int .i64 (gr - (r.take j).sum))]
 nn:∀x∈r.take j,0<=x
 le:(r.take j).sum<=gr
structure FlJ (cs1 cs2:List AV) (gr card:Int) (rws:List (List Int)) (j:Nat) (h:H):Prop where
 a0:h.get 0=.cells 5 [cs1] 0 false false
 a1:h.get 1=.cells 3 [cs2] 0 false false
 a2:h.get 2=.cells 1 [[.bool false]] 0 false false
 all:∀r∈rws.take j,S.a7 gr card r=true
structure FlE (gr card:Int) (rws:List (List Int)) (h:H):Prop where
 a2:h.get 2=.cells 1 [[.bool false]] 0 false false
 ex:∃r∈rws,S.a7 gr card r=false
structure RdH (n:Net) (b cv sv:AV) (q:Nat) (X:List Int) (Y:List Nat) (g:G):Prop where
 h0:g.h.get 0=.cells 2 [[.int .i64 n.grain,b]] 0 false false
 h1:g.h.get 1=.cells 5 [[.int .i64 0,.nils,.nils,.nils,.nils]] 0 false false
 hq:g.h.get q=.cells 5 [[.int .i64 n.grain,b,cv,sv,.nils]] 0 false false
 hc:Own g 2 cv 1 (X.map ci)
 hs:Own g 2 sv 1 (Y.map cu)
 q2:2<=q
 qn:q<g.nx
 d1:vid cv≠some q
 d2:vid sv≠some q
 d3:∀i,vid cv=some i->vid sv≠some i
section
variable {d:Nat}{n:Net}{b cv sv:AV}{q:Nat}{rows:List (List AV)}
def LRd (q:Nat):List (Nat×AV):=[(1,.hptr 0 0 0 0),(2,.hptr 1 0 0 0),(4,.hptr q 0 0 0)]
structure Rd0 (n:Net) (b cv sv:AV) (q j:Nat) (t:T) (g:G):Prop where
 st:St t ((48,b)::(5,.int .i64 (S.aE ((S.aJ n).take j)))::LRd q)
 hp:RdH n b cv sv q ((S.aJ n).take j++List.replicate (n.nodes.length - j) 0) (List.replicate n.nodes.length 0) g
 ok:∀x∈n.nodes.take j,1<=x.card/\x.card<=4
end
end
end Hx
end
section
namespace Hx
open Go
noncomputable section
def B_ (ps:List Int)(i:Nat):Int:=if i=0 then -1 else ps[i - 1]?.getD 0
structure PlI (ps:List Int) (k:Int) (v i:Nat):Prop where
 rng:∀(j:Nat) (p:Int),j<i->ps[j]?=some p->0<=p/\p<k/\p≠(v:Int)
 inc:∀(j:Nat) (p q:Int),j+1<i->ps[j]?=some p->ps[j+1]?=some q->p<q
section
variable {d:Nat}{n:Net}{b cv sv:AV}{q:Nat}{rows:List (List AV)}
def S.bw (n:Net)(j:Nat)(m:Nat):List Nat:=(S.a9 n).take j++m::List.replicate (n.nodes.length - (j+1)) 0
structure Rd1 (n:Net) (x:Node) (b cv sv pa:AV) (q j p9 i:Nat) (t:T) (g:G):Prop where
 st:St t ((80,b)::(81,.int .i64 (n.nodes.length:Int))::(82,.int .i64 (j:Int))::(88,pa)::(8,.int .i64 (j:Int))::(9,.hptr p9 0 0 0)::(10,.int .i64 (B_ x.parents i))::LRd q)
 hp:RdH n b cv sv q (S.aJ n) (S.bw n j (S.bj (x.parents.take i))) g
 ok:PlI x.parents n.nodes.length j i
end
end
end Hx
end
section
namespace Hx
open Go
noncomputable section
section
variable {d:Nat}{n:Net}{b cv sv:AV}{q:Nat}{rows:List (List AV)}
structure Rd4 (n:Net) (b cv sv:AV) (q j:Nat) (t:T) (g:G):Prop where
 st:St t ((80,b)::LRd q)
 hp:RdH n b cv sv q (S.aJ n) ((S.a9 n).take j++List.replicate (n.nodes.length - j) 0) g
 ok:∀x∈n.nodes.take j,S.a_ x.parents n.nodes.length=true/\S.bp n.grain (S.aJ n) x=true
theorem Own.natsV {g:G}{b:Nat}{v:AV}{l:List Nat}(h:Own g b v 1 (l.map cu))(hl:l.length<9223372036854775808)(hb:∀y∈l,y<18446744073709551616):SlR (fun i=>vid v=some i) 0 g.h l v :=
 Own.sl (α:=Nat) h hl (by
  have:∀l:List Nat,(∀y∈l,y<18446744073709551616)->All2 (Rp.rp (α:=Nat) (fun i=>vid v=some i) 0 g.h) l (l.map cu):=fun l=>by
   induction l with
   | nil=>intro _;trivial
   | cons y l ih=>intro h;exact ⟨tR.2 ⟨rfl,h y (by simp)⟩,ih fun z hz=>h z (by simp[hz])⟩
  exact this l hb) fun _ h=>h
theorem Own.nats' {g:G}{b:Nat}{v:AV}{l:List Nat}(h:Own g b v 1 (l.map cu))(hl:l.length<9223372036854775808)(hb:∀y∈l,y<18446744073709551616):SlR (fun _=>True) 0 g.h l v :=
 (h.natsV hl hb).wd fun _ _=>⟨trivial,rfl⟩
end
end
end Hx
end
section
namespace Hx
open Go
noncomputable section
structure FacH (bx nd:List AV) (w u:AV) (vars cards:List Int) (beh:Int) (q:Nat) (g:G):Prop where
 h0:g.h.get 0=.cells 5 [bx] 0 false false
 h1:g.h.get 1=.cells 3 [[.nils,.nils,.nils]] 0 false false
 h2:g.h.get 2=.cells 3 [nd] 0 false false
 h8:g.h.get q=.cells 3 [[w,u,.nils]] 0 false false
 h9:g.h.get (q+1)=.cells 1 [[.int .i64 beh]] 0 false false
 hw:Own g 3 w 1 (vars.map ci)
 hu:Own g (q+2) u 1 (cards.map ci)
 wq:∀i,vid w=some i->i<q
 q3:3<=q
 qn:q+2<=g.nx
def Ci (q:Nat):List (Nat×AV):=[(2,.hptr 0 0 0 0),(4,.hptr 1 0 0 0),(5,.hptr 2 0 0 0),(8,.hptr q 0 0 0),(9,.hptr (q+1) 0 0 0)]
structure FacJ (gr:Int) (b cv sv oz:AV) (nd:List AV) (w:AV) (cs vars:List Int) (pl q j:Nat) (t:T) (g:G):Prop where
 st:St t ((38,w)::(6,.int .i64 (pl:Int))::Ci q)
 hp:∃u,FacH [.int .i64 gr,b,cv,sv,oz] nd w u vars (S.aS cs (vars.take j)) (S.aE (S.aS cs ((vars.take j).drop (pl+1)))) q g
def GH (h:H)(n:Nat):G:=⟨h,n,[]⟩
@[simp] theorem GH_h (h:H) (n:Nat):(GH h n).h=h:=rfl
@[simp] theorem GH_nx (h:H) (n:Nat):(GH h n).nx=n:=rfl
structure FacG (g0:G) (iw:Nat) (W:AV) (rws:List (List Int)) (B C t:Nat) (h:H):Prop where
 fr:∀i,i<g0.nx->i≠iw->h.get i=g0.h.get i
 ow:Own (GH h (iw+1)) 3 W 1 ((S.bC rws B C t).map ci)
structure FacI (g0 g2:G) (iw:Nat) (W z:AV) (r:List Int) (rws:List (List Int)) (B C q j i:Nat) (t:T) (g:G):Prop where
 st:St t ((78,z)::(12,.int .i64 (j:Int))::Ci q)
 hp:FacG g0 iw W rws B C (j*C+i) g.h
 nx:g2.nx<=g.nx
 fr:∀i,g0.nx<=i->i<g2.nx->g.h.get i=g2.h.get i
def S.bD (n:Net)(i:Nat)(x:Node)(p:Nat):Factor:=⟨S.bm x.parents p (i:Int),S.aS (S.aJ n) (S.bm x.parents p (i:Int)),S.bB x.rows (S.aE (S.aS (S.aJ n) (x.parents.drop p))).toNat x.card.toNat⟩
def S.bh (n:Net)(l:List Factor):Prop:=∀(i:Nat) (x:Node),i<l.length->n.nodes[i]?=some x->∃p,p<=x.parents.length/\l[i]?=some (S.bD n i x p)
structure FasJ (n:Net) (W b cv sv oz:AV) (j:Nat) (t:T) (g:G):Prop where
 st:St t [(4,.hptr 1 0 0 0),(6,W)]
 hg:g.h.get 1=.cells 5 [[.int .i64 n.grain,b,cv,sv,oz]] 0 false false
 hW:∃(rows:List (List AV)) (l:List Factor),Own g 2 W 3 rows/\rows.length=n.nodes.length/\l.length=j/\All2 (Rp.rp NoP 0 .nil) l (rows.take j)/\S.bh n l/\∀i,j<=i->i<n.nodes.length->rows[i]?=some [.nils,.nils,.nils]
end
end Hx
end
section
namespace Hx
open Go
abbrev QnM:Type:=Net×List Factor×List (List Int)
def S.bc (m:Nat)(f:Factor)(i:Nat)(R:List Int):Prop:=R.length=m/\∀(j:Nat) (y:Int),i<=j->f.vars[j]?=some y->R[y.toNat]?=some (S.aE (f.cards.drop (j+1)))
structure QnOk (n:Net) (y:QnM):Prop where
 net:y.1=n
 fl:y.2.1.length=n.nodes.length
 fs:S.bh n y.2.1
 sl:y.2.2.length=n.nodes.length
 st:∀(k:Nat) (f:Factor) (R:List Int),y.2.1[k]?=some f->y.2.2[k]?=some R->S.bc n.nodes.length f 0 R
end Hx
end
section
namespace Hx
open Go
noncomputable section
def Cx (fl:AV)(m q k:Nat):List (Nat×AV):=[(11,.hptr q 0 0 0),(2,.hptr 0 0 0 0),(4,.hptr 1 0 0 0),(45,fl),(46,.int .i64 (m:Int)),(47,.int .i64 (k:Int))]
structure AskI (fl:AV) (m q k:Nat) (g0:G) (iR:Nat) (R:AV) (f:Factor) (fb j:Nat) (t:T) (g:G):Prop where
 st:St t ((13,.hptr fb 0 0 0)::(12,.int .i64 (k:Int))::(14,.int .i64 (S.aE (f.cards.drop j)))::Cx fl m q k)
 nx:g0.nx<=g.nx
 fr:∀i,i<g0.nx->i≠iR->g.h.get i=g0.h.get i
 ow:∃X:List Int,Own g 2 R 1 (X.map ci)/\S.bc m f j X
structure FOk (m:Nat) (f:Factor):Prop where
 cl:f.cards.length=f.vars.length
 vl:f.vars.length<=16
 cb:∀c∈f.cards,1<=c/\c<=4
 nd:f.vars.Nodup
 vr:∀y∈f.vars,0<=y/\y<m
structure AskH (gr:Int) (b fl S_:AV) (m q:Nat) (fs:List Factor) (k:Nat) (g:G):Prop where
 h0:g.h.get 0=.cells 2 [[.int .i64 gr,b]] 0 false false
 h1:g.h.get 1=.cells 4 [[.int .i64 0,.nils,.nils,.nils]] 0 false false
 hq:g.h.get q=.cells 4 [[.int .i64 gr,b,fl,S_]] 0 false false
 q2:2<=q/\q<g.nx
 sq:∀i,vid S_=some i->i<q
 hS:∃(Vs:List AV) (l:List (List Int)),Own g 2 S_ 1 (Vs.map fun v=>[v])/\Vs.length=m/\l.length=k/\All2 (fun X v=>Own g (q+1) v 1 (X.map ci)) l (Vs.take k)/\∀(i:Nat) (f:Factor) (X:List Int),fs[i]?=some f->l[i]?=some X->S.bc m f 0 X
structure AskJ (gr:Int) (b fl S_:AV) (m q:Nat) (fs:List Factor) (k:Nat) (t:T) (g:G):Prop where
 st:St t [(11,.hptr q 0 0 0),(2,.hptr 0 0 0 0),(4,.hptr 1 0 0 0),(45,fl)]
 hp:AskH gr b fl S_ m q fs k g
structure WtI (y:QnM) (b fl S_ wv va ca wa:AV) (gr wt:Int) (p:Int) (cards pv:List Int) (m k fb i:Nat) (t:T) (g:G):Prop where
 st:St t [(1,wv),(2,.hptr 0 0 0 0),(12,fl),(13,.int .i64 (m:Int)),(14,.int .i64 (k:Int)),(5,.int .i64 wt),(6,.int .i64 (k:Int)),(7,.hptr fb 0 0 0),(20,va),(8,.int .i64 (p - S.aZ (cards.drop i) (pv.drop i)))]
 h0:g.h.get 0=.cells 4 [[.int .i64 gr,b,fl,S_]] 0 false false
 hf:g.h.get fb=.cells 3 [[va,ca,wa]] 0 false false
 nn:0<=p - S.aZ (cards.drop i) (pv.drop i)
 nx:1<=g.nx
structure WtJ (n:Net) (vals:List Int) (b fl S_ wv:AV) (k:Nat) (t:T) (g:G):Prop where
 st:St t [(1,wv),(2,.hptr 0 0 0 0),(12,fl),(5,.int .i64 (S.aE ((List.range k).map (S.bH n vals))))]
 h0:g.h.get 0=.cells 4 [[.int .i64 n.grain,b,fl,S_]] 0 false false
 nx:1<=g.nx
structure OdoJ (n:Net) (vs:List Int) (L:List (Nat×AV)) (u:AV) (g0:G) (m:Nat) (t:T) (g:G):Prop where
 st:tat t 6=.int .i64 ((m:Int) - 1)
 ss:St t L
 ow:Own g g0.nx u 1 ((vs.take m++List.replicate (vs.length - m) 0).map ci)
 mx:∀(j:Nat) (c:Int),m<=j->(S.aJ n)[j]?=some c->vs[j]?.getD 0=c - 1
structure GvJ (g0:G) (q:Nat) (s:Int) (h:H):Prop where
 fr:∀i,i<g0.nx->i≠q->h.get i=g0.h.get i
 hq:h.get q=.cells 1 [[.int .i64 s]] 0 false false
structure ND where
 c:Nat->Int
 P:Nat->List Int
 m:Nat->Nat
 R:Nat->Nat->List Int
 o:Nat->Nat
def LN (n:Nat)(D:ND):Ky->Prop:=fun k=>k=(0,0)\/∃i q,k=(i+1,q)/\i<n/\q<2+D.o i
def Cy (D:ND)(V:Ky->AV)(i:Nat):List AV:=[.int .i64 (D.c i),V (i+1,0),V (i+1,1)]
def Cp (V:Ky->AV)(i r:Nat):List AV:=[V (i+1,2+r)]
structure BN (K n:Nat) (V:Ky->AV) (E:Ky->En) (D:ND):Prop where
 ns:E (0,0)=.sl 3 ((List.range n).map (Cy D V))
 ps:∀i,i<n->E (i+1,0)=.sl 1 ((D.P i).map ci)/\(D.P i).length<=K
 rs:∀i,i<n->E (i+1,1)=.sl 1 ((List.range (D.m i)).map (Cp V i))/\D.m i<=K
 rr:∀i r,i<n->r<D.m i->(D.R i r).length<=K/\((r<D.o i/\E (i+1,2+r)=.sl 1 ((D.R i r).map ci))\/SlR NoP 0 .nil (D.R i r) (V (i+1,2+r)))
def ND.node (D:ND)(i:Nat):Node:=⟨D.c i,D.P i,(List.range (D.m i)).map (D.R i)⟩
def Cw (gr c:Int)(l:List Int):Prop:=(l.length:Int)=c/\(∀y∈l,0<=y/\y<=gr)/\l.sum=gr
def S.rq (gr s x:Int):Int:=gr*x / s
structure Rw1 (gr:Int) (nv u:AV) (C F j:Nat) (t:T) (g:G):Prop where
 st:St t [(0,.int .i64 gr),(1,.int .i64 (C:Int)),(2,nv),(3,.int .i64 (F:Int)),(9,u)]
 hX:∃(X:List Int) (s:Int),tat t 10=.int .i64 s/\X.length=C/\Own g 0 u 1 (X.map ci)/\(∀x∈X,0<=x/\x<=7)/\s=(X.take j).sum/\0<=s/\s<=7*j
structure Rw2 (gr s:Int) (u:AV) (C:Nat) (X:List Int) (j:Nat) (t:T) (g:G):Prop where
 st:St t [(0,.int .i64 gr),(1,.int .i64 (C:Int)),(9,u),(10,.int .i64 s)]
 hX:∃(la:Nat),tat t 12=.int .i64 (gr - ((X.take j).map (S.rq gr s)).sum)/\tat t 13=.int .i64 (la:Int)/\la<C/\Own g 0 u 1 (((X.take j).map (S.rq gr s)++X.drop j).map ci)
theorem oD (os:List UInt8):∀k,(S.ak os k).Perm ((List.range k).map fun i:Nat=>(i:Int))
 | 0=>.refl _
 | k+1=>by
  rw[List.range_succ,List.map_append,S.ak]
  refine List.perm_middle.trans ?_
  rw[List.take_append_drop]
  exact ((oD os k).cons _).trans (List.perm_append_comm (l₁:=[(k:Int)]))
structure Num (n:Nat) (pl:List Int) (num:Nat->Nat):Prop where
 len:pl.length=n
 at_:∀k,k<n->pl[k]?=some (num k:Int)
 lt:∀k,k<n->num k<n
 inj:∀i j,i<n->j<n->num i=num j->i=j
 sur:∀u,u<n->∃k,k<n/\num k=u
theorem BI (os:List UInt8)(n:Nat):∃num,Num n (S.ak os n) num:=by
 have hp:=oD os n
 have hl:=jf os n
 have hmem:∀x∈S.ak os n,∃i:Nat,i<n/\x=(i:Int):=fun x hx=>by
  have:=hp.mem_iff.1 hx
  obtain ⟨i,hi,rfl⟩:=List.mem_map.1 this
  exact ⟨i,List.mem_range.1 hi,rfl⟩
 have hnd:(S.ak os n).Nodup:=by
  rw[hp.nodup_iff]
  refine List.Pairwise.map _ ?_ (List.nodup_range (n:=n))
  intro a b h e
  exact h (by omega)
 have hat:∀k,k<n->(S.ak os n)[k]?=some (((S.ak os n)[k]?.getD 0).toNat:Int)/\((S.ak os n)[k]?.getD 0).toNat<n:=fun k hk=>by
  have hk':k<(S.ak os n).length:=by omega
  have e:=List.getElem?_eq_getElem hk'
  obtain ⟨i,hi,h⟩:=hmem _ (List.getElem_mem hk')
  rw[e,Option.getD_some,h]
  simp[hi]
 refine ⟨fun k=>((S.ak os n)[k]?.getD 0).toNat,hl,fun k hk=>(hat k hk).1,fun k hk=>(hat k hk).2,fun i j hi hj h=>?_,fun u hu=>?_⟩
 ·have h1:=(hat i hi).1
  have h2:=(hat j hj).1
  refine (List.getElem?_inj (by omega) hnd).1 ?_
  rw[h1,h2]
  exact congrArg (fun x:Nat=>some (x:Int)) h
 ·have:(u:Int)∈S.ak os n:=hp.mem_iff.2 (List.mem_map.2 ⟨u,List.mem_range.2 hu,rfl⟩)
  obtain ⟨k,hk,he⟩:=List.mem_iff_getElem.1 this
  refine ⟨k,by omega,?_⟩
  rw[List.getElem?_eq_getElem hk,he];rfl
def LNX (X:Ky->Prop)(n:Nat)(D:ND):Ky->Prop:=fun k=>LN n D k\/X k
def X1:Ky->Prop:=fun k=>k=(0,1)
def X2:Ky->Prop:=fun k=>k=(0,1)\/k=(0,2)
structure DN (X:Ky->Prop) (r0:List AV) (n q K:Nat) (gr:Int) (V:Ky->AV) (E:Ky->En) (D:ND) (g:G):Prop where
 hp:Hp g 2 (LNX X n D) V E
 bn:BN K n V E D
 vb:V (0,1)=.hptr q 0 0 0
 bx:E (0,1)=.bx [.int .i64 gr,V (0,0)]
 h0:g.h.get 0=.cells 3 [r0] 0 false false
 h1:g.h.get 1=.cells 2 [[.int .i64 0,.nils]] 0 false false
structure NumI (n:Nat) (num:Nat->Nat) (Y:List Nat):Prop where
 l:Y.length=n
 b:∀i,i<n->∀u,(Par Y (num i)).testBit u=true->∃k,k<i/\u=num k
theorem we {n:Nat}{num:Nat->Nat}:NumI n num (List.replicate n 0):=by
 refine ⟨by simp,fun i hi u h=>?_⟩
 have:Par (List.replicate n 0) (num i)=0:=by
  unfold Par
  rw[List.getElem?_replicate]
  split<;>rfl
 rw[this,Nat.zero_testBit] at h;cases h
theorem ya {n i k x:Nat}{num:Nat->Nat}{pl:List Int}{Y:List Nat}(hn:Num n pl num)(h:NumI n num Y)(hi:i<n)(hk:k<i)(hx:Y[num i]?=some x):NumI n num (Y.set (num i) (x ||| 2 ^ num k)):=by
 refine ⟨by simp[h.l],fun j hj u hu=>?_⟩
 have hil:=(List.getElem?_eq_some_iff.1 hx).1
 unfold Par at hu
 by_cases e:i=j
 ·subst e
  rw[List.getElem?_set_self hil,Option.getD_some,Nat.testBit_or,Bool.or_eq_true] at hu
  rcases hu with hu | hu
  ·exact h.b i hi u (by rw[Par,hx];exact hu)
  ·rw[Nat.testBit_two_pow,decide_eq_true_iff] at hu
   exact ⟨k,hk,hu.symm⟩
 ·rw[List.getElem?_set_ne fun e'=>e (hn.inj i j hi hj e')] at hu
  exact h.b j hj u hu
theorem zx {n:Nat}{num:Nat->Nat}{pl:List Int}{Y:List Nat}(hn:Num n pl num)(h1:1<=n)(h8:n<=8)(h:NumI n num Y):GOk Y:=by
 have hp:∀x∈Y,x<2 ^ Y.length:=fun x hx=>by
  obtain ⟨v,hv,rfl⟩:=List.mem_iff_getElem.1 hx
  rw[h.l] at hv ⊢
  obtain ⟨i,hi,rfl⟩:=hn.sur v hv
  refine Nat.lt_pow_two_of_testBit _ fun u hu=>?_
  rw[<-Bool.not_eq_true]
  intro hb
  obtain ⟨k,hk,rfl⟩:=h.b i hi u (by rw[Par,List.getElem?_eq_getElem (by rw[h.l];exact hv)];exact hb)
  have:=hn.lt k (by omega)
  omega
 obtain ⟨rk,hrk⟩:∃rk:Nat->Nat,∀i,i<n->rk (num i)=i:=by
  have:∀v,∃r:Nat,∀i,i<n->num i=v->r=i:=fun v=>by
   by_cases hv:v<n
   ·obtain ⟨k,hk,e⟩:=hn.sur v hv
    exact ⟨k,fun i hi e'=>hn.inj k i hk hi (by rw[e,e'])⟩
   ·exact ⟨0,fun i hi e=>absurd (hn.lt i hi) (by omega)⟩
  exact ⟨fun v=>Classical.choose (this v),fun i hi=>Classical.choose_spec (this (num i)) i hi rfl⟩
 refine ⟨by rw[h.l];exact h1,by rw[h.l];exact h8,hp,lX hp (rk:=rk) fun u v e=>?_⟩
 have hv:=(j8 hp e).2
 rw[h.l] at hv
 obtain ⟨i,hi,rfl⟩:=hn.sur v hv
 obtain ⟨k,hk,rfl⟩:=h.b i hi u e
 rw[hrk i hi,hrk k (by omega)]
 exact hk
theorem uv {a b v:Nat}:Bt (a ||| b) v↔Bt a v\/Bt b v:=by rw[Bt,Nat.testBit_or,Bool.or_eq_true];rfl
theorem ox {a b:Nat}:a &&& b=0↔∀v,¬(Bt a v/\Bt b v):=by
 rw[<-Classical.not_not (a:=a &&& b=0)]
 show ¬(a &&& b≠0)↔_
 rw[sX]
 exact ⟨fun h v hv=>h ⟨v,hv⟩,fun h ⟨v,hv⟩=>h v hv⟩
theorem lE {a b v:Nat}:Bt (a ^^^ (a &&& b)) v↔Bt a v/\¬Bt b v:=by
 rw[Bt,Nat.testBit_xor,Nat.testBit_and]
 unfold Bt
 cases a.testBit v<;>cases b.testBit v<;>simp
theorem qp {a b n:Nat}(h:a<2 ^ n):a ^^^ (a &&& b)<2 ^ n:=Nat.xor_lt_two_pow h (Nat.lt_of_le_of_lt Nat.and_le_left h)
def Apt (p:List Nat)(x y z:Nat):Prop:=∀v,Bt y v->¬Re (Eg p) (Bt z) (Bt x) v
theorem zR {p:List Nat}{x y z:Nat}(hy:y<2 ^ p.length):S.aa (Re (Eg p) (Bt z) (Bt x)) p.length &&& y=0↔Apt p x y z:=by
 rw[ox]
 constructor
 ·intro h v hv hr
  exact h v ⟨gM.2 ⟨mB hy hv,hr⟩,hv⟩
 ·rintro h v ⟨h1,h2⟩
  exact h v h2 (gM.1 h1).2
end
end Hx
end
section
namespace Hx
open Go Classical
noncomputable section
section
variable {p:List Nat}
def S.wo (p:List Nat)(s:Nat):List Nat:=p.map fun x=>x ^^^ (x &&& s)
theorem l5 (s:Nat):(S.wo p s).length=p.length:=by simp[S.wo]
theorem yn {s u v:Nat}:Eg (S.wo p s) u v↔Eg p u v/\¬Bt s u:=by
 unfold Eg Par S.wo
 rw[List.getElem?_map]
 cases h:p[v]? with
 | none=>simp
 | some x=>exact lE
theorem BF {s:Nat}(h:GOk p):GOk (S.wo p s):=by
 have hp:∀x∈S.wo p s,x<2 ^ (S.wo p s).length:=fun x hx=>by
  rw[l5]
  obtain ⟨y,hy,rfl⟩:=List.mem_map.1 hx
  exact qp (h.hp y hy)
 refine ⟨by rw[l5];exact h.l1,by rw[l5];exact h.l8,hp,?_⟩
 exact lX hp fun u v e=>mY h.hp h.ac u v (yn.1 e).1
def S.ct (p:List Nat)(s:Nat):List Nat:=(List.range p.length).map fun v=>if s.testBit v then 0 else Par p v
theorem zl (s:Nat):(S.ct p s).length=p.length:=by simp[S.ct]
theorem BP {s v:Nat}:Par (S.ct p s) v=if s.testBit v then 0 else Par p v:=by
 by_cases hv:v<p.length
 ·conv=>lhs;unfold Par S.ct
  rw[List.getElem?_map,List.getElem?_range hv];rfl
 ·unfold Par S.ct
  rw[List.getElem?_eq_none (by simp;omega),List.getElem?_eq_none (by omega)];simp
theorem z9:S.ct p 0=p:=by
 refine List.ext_getElem? fun v=>?_
 by_cases hv:v<p.length
 ·rw[S.ct,List.getElem?_map,List.getElem?_range hv,Option.map_some,Nat.zero_testBit]
  simp[Par,List.getElem?_eq_getElem hv]
 ·rw[List.getElem?_eq_none (by rw[zl];omega),List.getElem?_eq_none (by omega)]
end
end
end Hx
end
section
namespace Hx
open Go
noncomputable section
def S.bi (x:Nat):Nat->Nat
 | 0=>8
 | k+1=>if x.testBit (7 - k) then 7 - k else S.bi x k
def S.tz (x:Nat):Nat:=S.bi x 8
theorem Cc:∀x:Nat,x<256->x≠0->x &&& (18446744073709551616 - x)=2 ^ S.tz x/\S.tz x<8/\x &&& (x - 1)=x ^^^ 2 ^ S.tz x/\x.testBit (S.tz x)=true:=by decide +kernel
def oW:List (List AV):=[[.int .u8 0,.int .u8 1,.int .u8 56,.int .u8 2,.int .u8 57,.int .u8 49,.int .u8 28,.int .u8 3,.int .u8 61,.int .u8 58,.int .u8 42,.int .u8 50,.int .u8 38,.int .u8 29,.int .u8 17,.int .u8 4,.int .u8 62,.int .u8 47,.int .u8 59,.int .u8 36,.int .u8 45,.int .u8 43,.int .u8 51,.int .u8 22,.int .u8 53,.int .u8 39,.int .u8 33,.int .u8 30,.int .u8 24,.int .u8 18,.int .u8 12,.int .u8 5,.int .u8 63,.int .u8 55,.int .u8 48,.int .u8 27,.int .u8 60,.int .u8 41,.int .u8 37,.int .u8 16,.int .u8 46,.int .u8 35,.int .u8 44,.int .u8 21,.int .u8 52,.int .u8 32,.int .u8 23,.int .u8 11,.int .u8 54,.int .u8 26,.int .u8 40,.int .u8 15,.int .u8 34,.int .u8 20,.int .u8 31,.int .u8 10,.int .u8 25,.int .u8 14,.int .u8 19,.int .u8 9,.int .u8 13,.int .u8 8,.int .u8 7,.int .u8 6]]
theorem BM (b:Nat)(hb:b<8):∃i p,aT .shr (.int .u64 (IntKind.u64.wrap (((2 ^ b:Nat):Int)*285870213051353865))) (.int .u64 58)=.val i/\BZ 64 1 (.tptr 0 64 oW 0 0) i=.val p/\∀g,ic false 1 p g=.val (.int .u8 (b:Int)):=by
 match b,hb with
 | 0,_=>exact ⟨.int .u64 0,.tptr 0 64 oW 0 0,by kernel_rfl,by kernel_rfl,fun g=>by kernel_rfl⟩
 | 1,_=>exact ⟨.int .u64 1,.tptr 0 64 oW 0 1,by kernel_rfl,by kernel_rfl,fun g=>by kernel_rfl⟩
 | 2,_=>exact ⟨.int .u64 3,.tptr 0 64 oW 0 3,by kernel_rfl,by kernel_rfl,fun g=>by kernel_rfl⟩
 | 3,_=>exact ⟨.int .u64 7,.tptr 0 64 oW 0 7,by kernel_rfl,by kernel_rfl,fun g=>by kernel_rfl⟩
 | 4,_=>exact ⟨.int .u64 15,.tptr 0 64 oW 0 15,by kernel_rfl,by kernel_rfl,fun g=>by kernel_rfl⟩
 | 5,_=>exact ⟨.int .u64 31,.tptr 0 64 oW 0 31,by kernel_rfl,by kernel_rfl,fun g=>by kernel_rfl⟩
 | 6,_=>exact ⟨.int .u64 63,.tptr 0 64 oW 0 63,by kernel_rfl,by kernel_rfl,fun g=>by kernel_rfl⟩
 | 7,_=>exact ⟨.int .u64 62,.tptr 0 64 oW 0 62,by kernel_rfl,by kernel_rfl,fun g=>by kernel_rfl⟩
theorem AR {d x:Nat}{g:G}(hd:0<d)(hx:x<256)(h0:x≠0):aL C0 d N.aB [.int .u64 (x:Int)] g=.val (.int .i64 (S.tz x:Int)):=by
 obtain ⟨h1,h2,-⟩:=Cc x hx h0
 rw[fh]
 refine gV fK (xs:=[.int .u64 (x:Int)]) (by simp only[aD,cI 0]) (by simp[bE]) hd ?_
 have c0:¬(x:Int)=0:=by omega
 have hneg:unV .neg (.int .u64 (x:Int))=.val (.int .u64 ((18446744073709551616 - x:Nat):Int)):=by
  show OR.val (.int .u64 (IntKind.wrap .u64 (0 - (x:Int))))=_
  have:IntKind.wrap .u64 (0 - (x:Int))=((18446744073709551616 - x:Nat):Int):=by
   show (0 - (x:Int)) % 18446744073709551616=_
   omega
  rw[this]
 have hand:aT .and (.int .u64 (x:Int)) (.int .u64 ((18446744073709551616 - x:Nat):Int))=.val (.int .u64 ((2 ^ S.tz x:Nat):Int)):=by
  rw[bW x (18446744073709551616 - x) (by omega) (by omega),h1]
 simp only[sz,simprocAttr,bE,c0,hneg,hand]
 obtain ⟨b,hb⟩:∃b,b=S.tz x:=⟨_,rfl⟩
 rw[<-hb] at h2 ⊢
 clear hand hb h1
 obtain ⟨i,p,t1,t2,t3⟩:=BM b h2
 rw[oW] at t2
 simp only[sz,simprocAttr,t1,t2,t3]
 rw[g6 (by omega) (by omega)]
theorem tv {C:Cfg}{d:Nat}{r:List SR}{t:T}{g:G}{K:AV->G->Prop}{i j:Nat}(hi:g.h.get i=.dfr true)(hj:g.h.get j=.dfr true)(hij:i≠j)(h:lN r t ((g.put i (.dfr false)).put j (.dfr false)) fun vs=>K (dz vs) ((g.put i (.dfr false)).put j (.dfr false))):kf C d r t [.mark i,.mark j] g K:=by
 unfold kf
 have:cB (I C) d [.mark i,.mark j] g=some ((g.put i (.dfr false)).put j (.dfr false)):=by
  have hj':(g.put i (.dfr false)).h.get j=.dfr true:=by simp[H.get_put,show ¬j=i by omega,hj]
  simp only[cB,G.get_eq,hi,hj']
 rw[this];exact h
def S.ah (s:Nat):List Nat:=(List.range 8).filter fun v=>s.testBit v
theorem wN:∀x:Nat,x<256->x≠0->S.ah x=S.tz x::S.ah (x &&& (x - 1))/\x &&& (x - 1)<256:=by decide +kernel
theorem jp {s v:Nat}(hs:s<256):v∈S.ah s↔s.testBit v=true:=by
 rw[S.ah,List.mem_filter,List.mem_range]
 exact ⟨fun h=>h.2,fun h=>⟨mB (n:=8) hs h,h⟩⟩
theorem BU {d x:Nat}{g:G}(hd:0<d)(hx:x<256)(h0:x≠0):aL C0 d N.aH [.int .u64 (x:Int)] g=.val (.int .i64 (S.tz x:Int)):=by
 rw[fH]
 refine gV gI (xs:=[.int .u64 (x:Int)]) (by simp only[aD,cI 0]) (by simp[bU]) hd ?_
 have k:=fun g=>AR (d:=d+1) (g:=g) (Nat.succ_pos d) hx h0
 simp only[sz,simprocAttr,bU,k]
def MbV (s:Nat):VS:=fun P k h v=>∃p,v=.clo N.ah [] [p]/\((∃id,p=.hptr id 0 0 0/\P id/\h.get id=.cells 1 [[.int .u64 (s:Int)]] 0 false false)\/∃t,p=.tptr t 1 [[.int .u64 (s:Int)]] 0 0/\t<=k)
theorem AJ {h:H}{id:Nat}{x:AV}{k:IntKind}{q:Int}(hx:x=.int k q)(d j:Nat)(hg:h.get id=.cells 1 [[x]] 0 false false):Hx.snap h d (j+3) (.hptr id 0 0 0)=some (.tptr (Nat.max d 0) 1 [[x]] 0 0):=by
 subst hx
 simp only[Hx.snap,hg,show Nat.beq 0 0=true from rfl,aD]
 rfl
theorem BK (s:Nat):Snb (MbV s) 4:=by
 refine ⟨fun {P k h v j} d r hn=>?_,fun {k h v j} r hn=>?_⟩
 ·obtain ⟨p,rfl,r1⟩:=r
  obtain ⟨j,rfl⟩:∃i,j=i+4:=⟨j - 4,by omega⟩
  obtain ⟨p',e1,s1⟩:∃p',Hx.snap h d (j+3) p=some p'/\∃t,p'=.tptr t 1 [[.int .u64 (s:Int)]] 0 0/\t<=max k d:=by
   rcases r1 with ⟨id,rfl,-,hg⟩ | ⟨t,rfl,ht⟩
   ·exact ⟨_,AJ rfl d j hg,_,rfl,by show max d 0<=_;omega⟩
   ·exact ⟨_,rfl,_,rfl,by omega⟩
  refine ⟨.clo N.ah [] [p'],?_,p',rfl,.inr s1⟩
  show (match aD (Hx.snap h d (j+3)) [],aD (Hx.snap h d (j+3)) [p] with | some as',some cs=>some (AV.clo N.ah as' cs) | _,_=>none)=_
  simp only[aD,e1]
 ·obtain ⟨p,rfl,r1⟩:=r
  obtain ⟨j,rfl⟩:∃i,j=i+4:=⟨j - 4,by omega⟩
  rcases r1 with ⟨id,rfl,hP,-⟩ | ⟨t,rfl,ht⟩
  ·exact hP.elim
  exact ⟨Nat.max t 0,rfl,by show max t 0<=k;omega⟩
def mbC (s:Nat):AV:=.clo N.ah [] [.tptr 0 1 [[.int .u64 (s:Int)]] 0 0]
theorem iM {d s:Nat}{g:G}(hd:0<d):aL C0 d N.aa [.int .u64 (s:Int)] g=.val (mbC s):=by
 have key:∃r,aL C0 d N.aa [.int .u64 (s:Int)] g=.val r/\MbV s NoP 0 .nil r:=by
  rw[iU]
  refine fL jM (xs:=[.int .u64 (s:Int)]) rfl (by simp[dK]) (BK s) (by decide) hd ?_
  simp only[sz,simprocAttr,dK,fg]
  exact ⟨fun _=>True,_,rfl,.inl ⟨0,rfl,trivial,by simp[sx]⟩⟩
 obtain ⟨r,h1,p,rfl,h2⟩:=key
 rcases h2 with ⟨id,rfl,hP,-⟩ | ⟨t,rfl,ht⟩
 ·exact hP.elim
 rw[h1,show t=0 by omega];rfl
theorem zW {d id s:Nat}{g0:G}{K:AV->G->Prop}(hd:0<d)(hs:s<256)(J:Nat->H->Prop)
  (step:∀(j v:Nat) (g:G) (K':AV->G->Prop) (D:ADf->Prop),(S.ah s)[j]?=some v->g0.nx<=g.nx->J j g.h ->
   (∀g',J (j+1) g'.h->g.nx<=g'.nx->K' (.bool true) g')->(cG (I C0) d id [.int .i64 (v:Int)] g).sat K' g D)
  (h0:J 0 g0.h) (fin:∀g',J (S.ah s).length g'.h->g0.nx<=g'.nx->K (.tup []) g') :
  wp C0 d none aX.code (fnQ C0 d aX.res K) (bH 0 [.yld id,.tptr 0 1 [[.int .u64 (s:Int)]] 0 0] .nil) [] g0:=by
 simp only[sz,simprocAttr,aX,pJ]
 refine qj (fun n t df g=>df=[]/\∃j x:Nat,n=(S.ah s).length - j/\j<=(S.ah s).length/\x<256/\S.ah x=(S.ah s).drop j/\St t [(0,.yld id),(3,.int .u64 (x:Int))]/\J j g.h/\g0.nx<=g.nx) (S.ah s).length
  ⟨rfl,0,s,by omega,by omega,hs,by simp,by simp[St,sx],h0,Nat.le_refl _⟩ ?_
 rintro n t df g ⟨rfl,j,x,rfl,hj,hx,hm,⟨t0,t3,-⟩,hJ,hn⟩
 simp only[dV]
 by_cases hx0:x=0
 ·have hjl:j=(S.ah s).length:=by
   have:(S.ah x).length=0:=by rw[hx0];rfl
   rw[hm,List.length_drop] at this
   omega
  subst hx0
  simp only[sz,simprocAttr,t0,t3]
  rw[hjl] at hJ
  exact fin g hJ hn
 ·obtain ⟨e1,e2⟩:=wN x hx hx0
  have c0:¬(x:Int)=0:=by omega
  have k:=fun g=>BU (d:=d) (g:=g) hd hx hx0
  have hv:(S.ah s)[j]?=some (S.tz x):=by
   have:((S.ah s).drop j)[0]?=some (S.tz x):=by rw[<-hm,e1];rfl
   rwa [List.getElem?_drop] at this
  simp only[sz,simprocAttr,t0,t3,c0,k]
  show (cG (I C0) d id [.int .i64 (S.tz x:Int)] g).sat _ _ _
  refine step j (S.tz x) g _ _ hv hn hJ (fun g' hJ' hn'=>?_)
  have w1:IntKind.wrap .u64 ((x:Int) - 1)=((x - 1:Nat):Int):=by rw[eZ (by omega) (by omega)];omega
  have w2:aT .and (.int .u64 (x:Int)) (.int .u64 ((x - 1:Nat):Int))=.val (.int .u64 ((x &&& (x - 1):Nat):Int)):=bW x (x - 1) (by omega) (by omega)
  simp only[sz,simprocAttr,t0,t3,w1,w2]
  have hjl:j<(S.ah s).length:=(List.getElem?_eq_some_iff.1 hv).1
  refine ⟨(S.ah s).length - (j+1),by omega,j+1,x &&& (x - 1),rfl,by omega,e2,?_,by simp[St,sx,t0],hJ',by omega⟩
  have h3:(S.ah x).tail=((S.ah s).drop j).tail:=by rw[hm]
  rw[e1,List.tail_drop] at h3
  exact h3
theorem xg:C0.ext N.ah=none:=by kernel_rfl
theorem qx {d nt y p s:Nat}{ca cb:SC}{Q:QT}{t:T}{df:List ADf}{g:G}(hd:0<d)(hs:s<256)(hv:tat t y=mbC s)(hp:p<nt)
  (J:Nat->H->Prop) (hJ:∀j h h',(∀i,i<g.nx->h'.get i=h.get i)->J j h->J j h') (h0:J 0 g.h)
  (step:∀(j v:Nat) (g1:G),(S.ah s)[j]?=some v->J j g1.h->g.nx+2<=g1.nx ->
   wp C0 d (some (g.nx+1)) ca (fun e t1 df g1'=>e=.norm/\df=[]/\g1'=g1/\∀g2:G,g2.nx=g1.nx->(∀i,i≠g.nx+1->g2.h.get i=g1.h.get i) ->
    wp C0 d (some (g.nx+1)) cb (fun e _ df g3=>df=[]/\RowQ g.nx g2 g3 e (J (j+1) g3.h) False) t1 [] g2)
    (eB t p (.int .i64 (v:Int))) [] g1)
  (fin:∀g',J (S.ah s).length g'.h->g.nx+2<=g'.nx->g'.h.get g.nx=.dfr true->Q .norm t (.mark g.nx::df) g') :
  wp C0 d none (.rng nt (.t y) [p] ca cb) Q t df g:=by
 refine th (fn:=N.ah) (first:=[]) (cap:=[.tptr 0 1 [[.int .u64 (s:Int)]] 0 0]) (s:=aX) hv xg iX (by simp[aX]) ?_
 intro assign body ha hb
 have e1:((g.new (.dfr true)).new (.loop nt t [p] assign body g.nx .ready none)).nx=g.nx+2:=by simp
 refine zW (g0:=(g.new (.dfr true)).new (.loop nt t [p] assign body g.nx .ready none)) (id:=g.nx+1) hd hs
  (fun j h=>J j h/\h.get g.nx=.dfr true/\h.get (g.nx+1)=.loop nt t [p] assign body g.nx .ready none) ?_ ?_ ?_
 ·rintro j v g1 K' D hj hn ⟨a1,a2,a3⟩ kk
  rw[e1] at hn
  refine wm a3 ha hb (t':=eB t p (.int .i64 (v:Int))) ?_ ?_
  ·simp only[da,aa,Nat.blt_eq,if_pos hp];rfl
  ·refine ef _ (step j v g1 hj a1 (by omega)) ?_
   rintro e t1 df g1' ⟨rfl,rfl,rfl,h⟩
   refine ⟨rfl,rfl,rfl,?_⟩
   have hl:g.nx+1<g1'.nx:=by omega
   refine ef _ (h (g1'.put (g.nx+1) (.loop nt t [p] assign body g.nx .busy none)) (by simp) (fun i hi=>by simp[H.get_put,hi])) ?_
   rintro e t2 df g3 ⟨rfl,⟨b2,b3,b1⟩⟩
   have b4:g3.h.get (g.nx+1)=.loop nt t [p] assign body g.nx .busy none:=by rw[b3 _ (by omega) (by simpa using hl)];simp[H.get_put]
   have b5:g3.h.get g.nx=.dfr true:=by
    rw[b3 _ (by omega) (by simp;omega)];simp[H.get_put,a2]
   refine ⟨rfl,b4,?_⟩
   rcases b1 with ⟨rfl,b1⟩ | ⟨rfl,b1⟩
   ·refine .inl ⟨rfl,kk _ ⟨hJ _ g3.h _ (fun i hi=>by simp[H.get_put,show ¬i=g.nx+1 by omega]) b1,?_,?_⟩ (by simpa using b2)⟩
    ·simp[H.get_put,b5]
    ·simp[H.get_put]
   ·exact b1.elim
 ·refine ⟨hJ 0 g.h _ (fun i hi=>?_) h0,?_,?_⟩
  ·simp[H.get_put,show ¬i=g.nx+1 by omega,show ¬i=g.nx by omega]
  ·simp[H.get_put]
  ·simp[H.get_put]
 ·rintro g' ⟨a1,a2,a3⟩ hn
  rw[e1] at hn
  refine ⟨_,_,_,_,_,_,.inl ⟨a3,fin _ (hJ _ g'.h _ (fun i hi=>by simp[H.get_put,show ¬i=g.nx+1 by omega]) a1) (by simpa using hn) ?_⟩⟩
  simp[H.get_put,a2]
section
variable {α:Type} [DecidableEq α]
end
theorem tZ {C:Cfg}{ty kt et a b:Nat}{z:AV}{ok:Bool}(hu:C.P.underlying ty=some (.map kt et))(hz:jT C.P et=some z)(d:Nat)(rd:Option Nat)(t:T)(g:G):(SO.raw (.lookup ty (.tmp a) (.tmp b) ok)).run C d rd t g=bu (bw C.P kt) z ok (fun t=>tat t a) (fun t=>tat t b) t g:=by
 obtain ⟨s1,e1,r1⟩:=aJ (C:=C) (x:=.tmp a) (o:=.t a) rfl
 obtain ⟨s2,e2,r2⟩:=aJ (C:=C) (x:=.tmp b) (o:=.t b) rfl
 show (bC C _).run (I C) d rd t g=_
 rw[aV (s:=⟨bu (bw C.P kt) z ok s1.run s2.run⟩) rfl (by simp only[bk,e1,e2,hu,hz])]
 rw[show s1.run=fun t=>tat t a from funext r1,show s2.run=fun t=>tat t b from funext r2]
end
end Hx
end
section
namespace Hx
open Go
noncomputable section
def sk (s:Nat×Bool):AV:=.agg [.int .i64 (s.1:Int),.bool s.2]
theorem BA (a b:Nat×Bool):fX (sk a) (sk b)=some (decide (a=b)):=by
 obtain ⟨a1,a2⟩:=a
 obtain ⟨b1,b2⟩:=b
 have e:fX (sk (a1,a2)) (sk (b1,b2))=some (af (wx (a1:Int) (b1:Int)) (af (a2 == b2) true false) false):=by
  cases a2<;>cases b2<;>rfl
 rw[e,lM]
 by_cases h1:a1=b1
 ·subst h1
  cases a2<;>cases b2<;>simp[af]
 ·have:¬(a1:Int)=(b1:Int):=by omega
  simp[h1,this,af]
def bcl (L:List (Nat×Bool)):List (AV×AV):=L.map fun s=>(sk s,.bool true)
theorem uX (s:Nat×Bool):∀L:List (Nat×Bool),fE (sk s) (bcl L)=some (if s∈L then some (.bool true) else none)
 | []=>rfl
 | a::r=>by
  rw[bcl,List.map_cons,fE,BA]
  by_cases e:s=a
  ·subst e;simp
  ·have ih:=uX s r
   rw[bcl] at ih
   simp only[decide_eq_false e]
   rw[ih]
   simp[e]
theorem yu {s:Nat×Bool}:∀{L:List (Nat×Bool)},s ∉ L->qP (sk s) (.bool true) (bcl L)=some (bcl (L++[s]))
 | [],_=>rfl
 | a::r,h=>by
  rw[bcl,List.map_cons,qP,BA]
  have e:s≠a:=fun e=>h (e ▸ List.mem_cons_self ..)
  have ih:=yu (L:=r) fun h'=>h (List.mem_cons_of_mem _ h')
  rw[bcl] at ih
  rw[show decide (s=a)=false from decide_eq_false e]
  show (match qP (sk s) (AV.bool true) (List.map (fun s=>(sk s,AV.bool true)) r) with | some r=>some ((sk a,AV.bool true)::r) | none=>none)=_
  rw[ih]
  rfl
def ktS:Nat:=match C0.P.underlying 125 with | some (.map k _)=>k | _=>0
theorem BE:C0.P.underlying 125=some (.map ktS 4):=by kernel_rfl
theorem Cn (s:Nat×Bool):f0 (bw C0.P ktS) (sk s)=true:=by
 have e:bw C0.P ktS=.flat [.int .i64,.bool]:=by kernel_rfl
 rw[e];rfl
theorem BV:jT C0.P 4=some (.bool false):=by kernel_rfl
theorem BH (d:Nat)(rd:Option Nat)(t:T)(g:G):(bC C0 (.makeMap 125 none)).run (I C0) d rd t g=.upd (.hmap g.nx) (g.new (.map [])):=by kernel_rfl
theorem yf {d:Nat}{rd:Option Nat}{t:T}{g:G}{a b id:Nat}{s:Nat×Bool}{L:List (Nat×Bool)}(h1:tat t a=.hmap id)(h2:tat t b=sk s)(hg:g.h.get id=.map (bcl L)):(bC C0 (.lookup 125 (.tmp a) (.tmp b) false)).run (I C0) d rd t g=.val (.bool (decide (s∈L))):=by
 have:=tZ (C:=C0) (a:=a) (b:=b) (ok:=false) BE BV d rd t g
 rw[show (SO.raw (.lookup 125 (.tmp a) (.tmp b) false)).run C0 d rd t g=(bC C0 (.lookup 125 (.tmp a) (.tmp b) false)).run (I C0) d rd t g from rfl] at this
 rw[this]
 unfold bu
 simp only[h1,h2,Cn,G.get_eq,hg,uX]
 by_cases h:s∈L
 ·simp[h,af]
 ·simp[h,af]
theorem zH {C:Cfg}{ty kt et a b:Nat}(hu:C.P.underlying ty=some (.map kt et))(d:Nat)(rd:Option Nat)(t:T)(g:G):(bC C (.mapUpdate ty (.tmp a) (.tmp b) (.const (.bool true)))).run (I C) d rd t g=bJ (bw C.P kt) (fun t=>tat t a) (fun t=>tat t b) (fun _=>.bool true) t g:=by
 obtain ⟨s1,e1,r1⟩:=aJ (C:=C) (x:=.tmp a) (o:=.t a) rfl
 obtain ⟨s2,e2,r2⟩:=aJ (C:=C) (x:=.tmp b) (o:=.t b) rfl
 obtain ⟨s3,e3,r3⟩:=aJ (C:=C) (x:=.const (.bool true)) (o:=.k (.bool true)) rfl
 rw[aV (s:=⟨bJ (bw C.P kt) s1.run s2.run s3.run⟩) rfl (by simp only[bk,e1,e2,e3,hu])]
 rw[show s1.run=fun t=>tat t a from funext r1,show s2.run=fun t=>tat t b from funext r2,show s3.run=fun _=>.bool true from funext r3]
theorem Co {d:Nat}{rd:Option Nat}{t:T}{g:G}{a b id:Nat}{s:Nat×Bool}{L:List (Nat×Bool)}(h1:tat t a=.hmap id)(h2:tat t b=sk s)(hg:g.h.get id=.map (bcl L))(hs:s ∉ L):(bC C0 (.mapUpdate 125 (.tmp a) (.tmp b) (.const (.bool true)))).run (I C0) d rd t g=.upd .undef (g.put id (.map (bcl (L++[s])))):=by
 rw[zH BE]
 unfold bJ
 simp only[h1,h2,Cn,G.get_eq,hg,yu hs]
def yB:AV:=.clo N.aA [] [.hptr 5 0 0 0,.hptr 1 0 0 0,.hptr 4 0 0 0,.hptr 0 0 0 0,.hptr 6 0 0 0,.hptr 2 0 0 0]
structure GrI (p c:List Nat) (pa ch:AV) (Zs:Nat):Prop where
 hp:∀x∈p,x<2 ^ p.length
 n8:p.length<=8
 rp:∀h,aw h 1 pa=some (p.map cu)
 rc:∀h,aw h 1 ch=some (c.map cu)
 yp:0<p.length->nc pa=true
 yc:0<p.length->nc ch=true
 cl:c.length=p.length
 cb:∀v u,(c[v]?.getD 0).testBit u=true↔Eg p v u
 zs:Zs<2 ^ p.length
structure VI (p:List Nat) (pa ch:AV) (Zs:Nat) (L:List (Nat×Bool)) (h:H):Prop where
 g0:h.get 0=.cells 2 [[pa,ch]] 0 false false
 z:h.get 1=.cells 1 [[.int .u64 (Zs:Int)]] 0 false false
 a:h.get 2=.cells 1 [[.int .u64 (S.up p Zs p.length:Int)]] 0 false false
 m:h.get 3=.map (bcl L)
 r:h.get 4=.cells 1 [[.int .u64 (S.aa (iC (Bt Zs) L) p.length:Int)]] 0 false false
 p:h.get 5=.cells 1 [[.hmap 3]] 0 false false
 v:h.get 6=.cells 1 [[yB]] 0 false false
theorem VI.fr {p:List Nat}{pa ch:AV}{Zs:Nat}{L:List (Nat×Bool)}{h h':H}(hi:VI p pa ch Zs L h)(hh:∀i,i<7->h'.get i=h.get i):VI p pa ch Zs L h' :=
 ⟨by rw[hh 0 (by omega),hi.g0],by rw[hh 1 (by omega),hi.z],by rw[hh 2 (by omega),hi.a],by rw[hh 3 (by omega),hi.m],by rw[hh 4 (by omega),hi.r],by rw[hh 5 (by omega),hi.p],by rw[hh 6 (by omega),hi.v]⟩
theorem GrI.cb8 {p c:List Nat}{pa ch:AV}{Zs:Nat}(h:GrI p c pa ch Zs)(v:Nat):c[v]?.getD 0<256:=by
 have:c[v]?.getD 0<2 ^ p.length:=Nat.lt_pow_two_of_testBit _ fun u hu=>by
  cases hb:(c[v]?.getD 0).testBit u with
  | false=>rfl
  | true =>
   have:=(j8 h.hp ((h.cb v u).1 hb)).2
   omega
 have h2:=Nat.pow_le_pow_right (show 0<2 by decide) h.n8
 omega
theorem GrI.pb8 {p c:List Nat}{pa ch:AV}{Zs:Nat}(h:GrI p c pa ch Zs)(v:Nat):Par p v<256:=by
 have:=ki h.hp (v:=v)
 have h2:=Nat.pow_le_pow_right (show 0<2 by decide) h.n8
 omega
theorem Av (d:Nat)(s:AV)(g:G):dU C0 (I C0) d yB [s] g=orF ((I C0).call d N.aA [s,.hptr 5 0 0 0,.hptr 1 0 0 0,.hptr 4 0 0 0,.hptr 0 0 0 0,.hptr 6 0 0 0,.hptr 2 0 0 0] g):=by kernel_rfl
abbrev RX (p:List Nat)(Zs:Nat):=Sx (Eg p) (Bt Zs) (An (Eg p) (Bt Zs))
def LVs (q:Nat):List (Nat×AV):=[(1,.hptr 5 0 0 0),(2,.hptr 1 0 0 0),(3,.hptr 4 0 0 0),(4,.hptr 0 0 0 0),(5,.hptr 6 0 0 0),(6,.hptr 2 0 0 0),(7,.hptr q 0 0 0)]
def qR (p:List Nat)(pa ch:AV)(Zs:Nat)(Gd:Nat×Bool->Prop)(d k:Nat):Prop :=
 ∀(L:List (Nat×Bool)) (s:Nat×Bool) (g:G) (K:AV->G->Prop) (D:ADf->Prop),S.aH p.length L<=k->Gd s->(∀s∈L,Gd s)->7<=g.nx->VI p pa ch Zs L g.h ->
  (∀g' L',VI p pa ch Zs L' g'.h->g.nx<=g'.nx->(∀i,7<=i->i<g.nx->g'.h.get i=g.h.get i)->Dst (RX p Zs) Gd L L'->s∈L'->K (.tup []) g') ->
  (dU C0 (I C0) d yB [sk s] g).sat K g D
structure VJ (p:List Nat) (pa ch:AV) (Zs:Nat) (Gd:Nat×Bool->Prop) (L:List (Nat×Bool)) (b:Bool) (l:List Nat) (g0:G) (j:Nat) (h:H):Prop where
 ex:∃L',VI p pa ch Zs L' h/\Dst (RX p Zs) Gd L L'/\∀i v,i<j->l[i]?=some v->(v,b)∈L'
 fr:∀i,7<=i->i<g0.nx->h.get i=g0.h.get i
theorem zw {p:List Nat}{pa ch:AV}{Zs:Nat}{Gd:Nat×Bool->Prop}{d k q set:Nat}{L:List (Nat×Bool)}{Q:QT}{t:T}{df:List ADf}{g:G}(hd:0<d)(hv:qR p pa ch Zs Gd d k)(hk:S.aH p.length L<=k)(hs:set<256)
  (hg:∀v∈S.ah set,Gd (v,true)) (hL:∀s∈L,Gd s) (hI:VI p pa ch Zs L g.h) (hn:7<=g.nx) (ht:St t (LVs q)) (hy:tat t 32=mbC set)
  (fin:∀g' L',VI p pa ch Zs L' g'.h->g.nx+2<=g'.nx->g'.h.get g.nx=.dfr true->(∀i,7<=i->i<g.nx->g'.h.get i=g.h.get i)->Dst (RX p Zs) Gd L L'->(∀v∈S.ah set,(v,true)∈L')->Q .norm t (.mark g.nx::df) g') :
  wp C0 d none (.rng 74 (.t 32) [33] a8 aZ) Q t df g:=by
 obtain ⟨h1,h2,h3,h4,h5,h6,h7,-⟩:=ht
 refine qx hd hs hy (by decide) (fun j h=>VJ p pa ch Zs Gd L true (S.ah set) g j h) ?_ ⟨⟨L,hI,Dst.refl hL,fun i v h=>absurd h (Nat.not_lt_zero i)⟩,fun _ _ _=>rfl⟩ ?_ ?_
 ·rintro j h h' hh ⟨⟨L1,i1,i2,i3⟩,f1⟩
  exact ⟨⟨L1,i1.fr fun i hi=>hh i (by omega),i2,i3⟩,fun i h1 h2=>by rw[hh i h2,f1 i h1 h2]⟩
 ·rintro j v g1 hj ⟨⟨L1,i1,i2,i3⟩,f1⟩ hn1
  simp only[sz,simprocAttr,a8]
  intro g2 hn2 hf2
  have i1':VI p pa ch Zs L1 g2.h:=i1.fr fun i hi=>hf2 i (by omega)
  simp only[sz,simprocAttr,aZ,h5,i1'.v]
  refine hv L1 (v,true) g2 _ _ (Nat.le_trans (na i2.pre) hk) (hg v (List.mem_of_getElem? hj)) i2.good (by omega) i1' fun g3 L2 j1 j2 j3 j4 j5=>?_
  simp only[sz,simprocAttr]
  refine ⟨j2,fun i a b=>j3 i (by omega) b,.inl ⟨rfl,⟨L2,j1,i2.tr j4,fun i u hi hu=>?_⟩,fun i a b=>?_⟩⟩
  ·by_cases e:i=j
   ·subst e
    rw[hj] at hu
    injection hu with hu
    subst hu
    exact j5
   ·exact j4.pre _ (i3 i u (by omega) hu)
  ·rw[j3 i a (by omega),hf2 i (by omega),f1 i a b]
 ·rintro g' ⟨⟨L1,i1,i2,i3⟩,f1⟩ hn' hdf
  refine fin g' L1 i1 hn' hdf f1 i2 fun v hv=>?_
  obtain ⟨i,hi,e⟩:=List.mem_iff_getElem.1 hv
  exact i3 i v hi (by rw[List.getElem?_eq_getElem hi,e])
theorem yj {p:List Nat}{pa ch:AV}{Zs:Nat}{Gd:Nat×Bool->Prop}{d k q set:Nat}{L:List (Nat×Bool)}{Q:QT}{t:T}{df:List ADf}{g:G}(hd:0<d)(hv:qR p pa ch Zs Gd d k)(hk:S.aH p.length L<=k)(hs:set<256)
  (hg:∀v∈S.ah set,Gd (v,false)) (hL:∀s∈L,Gd s) (hI:VI p pa ch Zs L g.h) (hn:7<=g.nx) (ht:St t (LVs q)) (hy:tat t 68=mbC set)
  (fin:∀g' L',VI p pa ch Zs L' g'.h->g.nx+2<=g'.nx->g'.h.get g.nx=.dfr true->(∀i,7<=i->i<g.nx->g'.h.get i=g.h.get i)->Dst (RX p Zs) Gd L L'->(∀v∈S.ah set,(v,false)∈L')->Q .norm t (.mark g.nx::df) g') :
  wp C0 d none (.rng 74 (.t 68) [69] a_ a7) Q t df g:=by
 obtain ⟨h1,h2,h3,h4,h5,h6,h7,-⟩:=ht
 refine qx hd hs hy (by decide) (fun j h=>VJ p pa ch Zs Gd L false (S.ah set) g j h) ?_ ⟨⟨L,hI,Dst.refl hL,fun i v h=>absurd h (Nat.not_lt_zero i)⟩,fun _ _ _=>rfl⟩ ?_ ?_
 ·rintro j h h' hh ⟨⟨L1,i1,i2,i3⟩,f1⟩
  exact ⟨⟨L1,i1.fr fun i hi=>hh i (by omega),i2,i3⟩,fun i h1 h2=>by rw[hh i h2,f1 i h1 h2]⟩
 ·rintro j v g1 hj ⟨⟨L1,i1,i2,i3⟩,f1⟩ hn1
  simp only[sz,simprocAttr,a_]
  intro g2 hn2 hf2
  have i1':VI p pa ch Zs L1 g2.h:=i1.fr fun i hi=>hf2 i (by omega)
  simp only[sz,simprocAttr,a7,h5,i1'.v]
  refine hv L1 (v,false) g2 _ _ (Nat.le_trans (na i2.pre) hk) (hg v (List.mem_of_getElem? hj)) i2.good (by omega) i1' fun g3 L2 j1 j2 j3 j4 j5=>?_
  simp only[sz,simprocAttr]
  refine ⟨j2,fun i a b=>j3 i (by omega) b,.inl ⟨rfl,⟨L2,j1,i2.tr j4,fun i u hi hu=>?_⟩,fun i a b=>?_⟩⟩
  ·by_cases e:i=j
   ·subst e
    rw[hj] at hu
    injection hu with hu
    subst hu
    exact j5
   ·exact j4.pre _ (i3 i u (by omega) hu)
  ·rw[j3 i a (by omega),hf2 i (by omega),f1 i a b]
 ·rintro g' ⟨⟨L1,i1,i2,i3⟩,f1⟩ hn' hdf
  refine fin g' L1 i1 hn' hdf f1 i2 fun v hv=>?_
  obtain ⟨i,hi,e⟩:=List.mem_iff_getElem.1 hv
  exact i3 i v hi (by rw[List.getElem?_eq_getElem hi,e])
theorem xU {s v:Nat}:decide (((s / 2 ^ v &&& 1:Nat):Int)=1)=s.testBit v:=by
 rw[Nat.and_one_is_mod,Nat.testBit_eq_decide_div_mod_eq]
 rw[Bool.eq_iff_iff,decide_eq_true_iff,decide_eq_true_iff]
 omega
theorem jh {s v:Nat}:decide (((s / 2 ^ v &&& 1:Nat):Int)=0) = !s.testBit v:=by
 rw[Nat.and_one_is_mod,Nat.testBit_eq_decide_div_mod_eq]
 have:=Nat.mod_lt (s / 2 ^ v) (show 0<2 by decide)
 by_cases h:s / 2 ^ v % 2=1
 ·rw[h];decide
 ·rw[show s / 2 ^ v % 2=0 by omega];decide
theorem j9 {s v:Nat}(h:s<18446744073709551616):aT .and (.int .u64 ((s / 2 ^ v:Nat):Int)) (.int .u64 1)=.val (.int .u64 ((s / 2 ^ v &&& 1:Nat):Int)) :=
 bW (s / 2 ^ v) 1 (Nat.lt_of_le_of_lt (Nat.div_le_self _ _) h) (by decide)
theorem jQ {n:Nat}(h:n<=8):2 ^ n<=256:=by
 have:=Nat.pow_le_pow_right (show 0<2 by decide) h
 omega
theorem BL {p c:List Nat}{pa ch:AV}{Zs:Nat}{Gd:Nat×Bool->Prop}{d k q v:Nat}{dn:Bool}{L:List (Nat×Bool)}{Q:QT}{t:T}{df:List ADf}{g:G}(hd:0<d)(hG:GrI p c pa ch Zs)(hv:qR p pa ch Zs Gd d k)(hk:S.aH p.length L<=k)(hvn:v<p.length)
  (hg:∀u,RX p Zs (v,dn) (u,false)->Gd (u,false)) (hL:∀s∈L,Gd s) (hI:VI p pa ch Zs L g.h) (ht:St t (LVs q)) (hq:g.h.get q=.cells 2 [[.int .i64 (v:Int),.bool dn]] 0 false false) (hq7:7<=q) (hqn:q<g.nx)
  (fin:∀e t' df' g' L',(e=.ret\/e=.norm)->(df'=df\/∃m,df'=.mark m::df/\g'.h.get m=.dfr true/\g.nx<=m)->VI p pa ch Zs L' g'.h->g.nx<=g'.nx->(∀i,7<=i->i<g.nx->g'.h.get i=g.h.get i)->Dst (RX p Zs) Gd L L'->(∀u,RX p Zs (v,dn) (u,false)->(u,false)∈L')->Q e t' df' g') :
  wp C0 d none a9 Q t df g:=by
 obtain ⟨h1,h2,h3,h4,h5,h6,h7,-⟩:=ht
 have h256:=jQ hG.n8
 have hz:=hG.zs
 have hup:=p_ hG.hp hG.zs p.length
 have lq1:aP (.cells 2 [[.int .i64 (v:Int),.bool dn]] 0 false false) 0 0 false 1 0=.val (.int .i64 (v:Int)):=rfl
 have lq2:aP (.cells 2 [[.int .i64 (v:Int),.bool dn]] 0 false false) 0 0 false 1 1=.val (.bool dn):=rfl
 have lg1:aP (.cells 2 [[pa,ch]] 0 false false) 0 0 false 1 0=.val pa:=rfl
 have hpv:p[v]?=some (Par p v):=by simp[Par,List.getElem?_eq_getElem hvn]
 have u1:v<(p.map cu).length:=by simpa using hvn
 have u2:(p.map cu)[v]?=some (cu (Par p v)):=by rw[List.getElem?_map,hpv];rfl
 have hyp:=hG.yp (by omega)
 have kM:=fun g=>iM (d:=d) (s:=Par p v) (g:=g) hd
 obtain ⟨As,hAs⟩:∃As,As=S.up p Zs p.length:=⟨_,rfl⟩
 have hA:=hI.a
 rw[<-hAs] at hA hup
 have hAn:As.testBit v=true↔An (Eg p) (Bt Zs) v:=by rw[hAs];exact BB hG.hp hG.zs v
 obtain ⟨stop,hstop,hst,hgo⟩:∃stop:Bool,(stop=if dn then !As.testBit v else Zs.testBit v)/\(stop=true->∀u,¬RX p Zs (v,dn) (u,false))/\(stop=false->∀u,Eg p u v->RX p Zs (v,dn) (u,false)):=by
  refine ⟨_,rfl,fun h u hr=>?_,fun h u hu=>?_⟩
  rotate_left
  ·refine .up (fun hd=>?_) (fun hd hz=>?_) hu
   ·rw[if_pos hd,Bool.not_eq_false'] at h
    exact hAn.1 h
   ·subst hd
    rw[if_neg (by decide)] at h
    have:Zs.testBit v=true:=hz
    rw[h] at this;cases this
  cases hr with
  | up a b e =>
   cases dn with
   | true =>
    rw[if_pos rfl,Bool.not_eq_true'] at h
    have:=hAn.2 (a rfl)
    rw[h] at this;cases this
   | false =>
    rw[if_neg (by decide)] at h
    exact b rfl h
 have rest:stop=false->∀t,St t (LVs q)->wp C0 d none (sQ [oF 61 0 4,oF 62 0 61,oL 63 62,oF 64 0 7,oL 65 64,oX 66 63 65,oL 67 66,o 68 (.call N.aa [.t 67])] (.blk 2 (.rng 74 (.t 68) [69] a_ a7))) Q t df g:=by
  intro hns t ht
  obtain ⟨h1,h2,h3,h4,h5,h6,h7,-⟩:=ht
  simp only[sz,simprocAttr,h4,h7,hq,lq1,hI.g0,lg1,hG.rp,u1,u2,cu,hyp,kM]
  refine yj (q:=q) (L:=L) (set:=Par p v) hd hv hk (hG.pb8 v) (fun u hu=>?_) hL hI (by omega) (by simp[St,LVs,sx,h1,h2,h3,h4,h5,h6,h7]) (by simp[sx]) ?_
  ·exact hg u (hgo hns u ((jp (hG.pb8 v)).1 hu))
  ·intro g' L' hI' hn' hdf hfr hD hall
   simp only[sz,simprocAttr]
   exact fin .norm _ _ g' L' (.inr rfl) (.inr ⟨g.nx,rfl,hdf,Nat.le_refl _⟩) hI' (by omega) hfr hD fun u hu=>hall u ((jp (hG.pb8 v)).2 (by cases hu with | up _ _ e=>exact e))
 simp only[a9]
 cases dn with
 | true =>
  rw[if_pos rfl] at hstop
  cases hb:As.testBit v with
  | false =>
   rw[hb] at hstop
   simp only[sz,simprocAttr,h2,h4,h6,h7,hq,lq1,lq2,hA,aH _ _ _ (show As<18446744073709551616 by omega),j9 (show As<18446744073709551616 by omega),jh,hb]
   exact fin .ret _ df g L (.inl rfl) (.inl rfl) hI (Nat.le_refl _) (fun _ _ _=>rfl) (Dst.refl hL) fun u hu=>absurd hu (hst hstop u)
  | true =>
   rw[hb] at hstop
   refine qf (P:=fun t' df' g'=>df'=df/\g'=g/\St t' (LVs q)) ?_ ?_
   ·simp only[sz,simprocAttr,h2,h4,h6,h7,hq,lq1,lq2,hA,aH _ _ _ (show As<18446744073709551616 by omega),j9 (show As<18446744073709551616 by omega),jh,hb]
    simp[St,LVs,sx,h1,h2,h3,h4,h5,h6,h7]
   ·rintro t df g ⟨rfl,rfl,ht⟩
    exact rest hstop t ht
 | false =>
  rw[if_neg (by decide)] at hstop
  cases hb:Zs.testBit v with
  | true =>
   rw[hb] at hstop
   simp only[sz,simprocAttr,h2,h4,h6,h7,hq,lq1,lq2,hI.z,aH _ _ _ (show Zs<18446744073709551616 by omega),j9 (show Zs<18446744073709551616 by omega),xU,hb]
   exact fin .ret _ df g L (.inl rfl) (.inl rfl) hI (Nat.le_refl _) (fun _ _ _=>rfl) (Dst.refl hL) fun u hu=>absurd hu (hst hstop u)
  | false =>
   rw[hb] at hstop
   refine qf (P:=fun t' df' g'=>df'=df/\g'=g/\St t' (LVs q)) ?_ ?_
   ·simp only[sz,simprocAttr,h2,h4,h6,h7,hq,lq1,lq2,hI.z,aH _ _ _ (show Zs<18446744073709551616 by omega),j9 (show Zs<18446744073709551616 by omega),xU,hb]
    simp[St,LVs,sx,h1,h2,h3,h4,h5,h6,h7]
   ·rintro t df g ⟨rfl,rfl,ht⟩
    exact rest hstop t ht
theorem mi {α:Type} [Rp α]{k:Nat}{l:List α}{v:AV}(hl:SlR NoP k .nil l v)(h0:0<l.length):nc v=true:=by
 have h:=hl.2
 unfold SlV at h
 split at h
 ·rw[h] at h0;simp at h0
 ·rw[h] at h0;simp at h0
 ·rfl
 ·exact h.1.elim
 ·exact h.elim
def GrV (p:List Nat):VS:=qS (Agg (S.gr p)) (One (if S.aA p then (0:Int) else 70))
structure GrB (pa cv:AV) (q:Nat) (Y:List Nat) (g:G):Prop where
 h0:g.h.get 0=.cells 2 [[.nils,.nils]] 0 false false
 hq:g.h.get q=.cells 2 [[pa,cv]] 0 false false
 hs:Own g 1 cv 1 (Y.map cu)
 q1:1<=q
 qn:q<g.nx
 d1:vid cv≠some q
def LRg (pa:AV)(q:Nat):List (Nat×AV):=[(0,pa),(2,.hptr 0 0 0 0),(4,.hptr q 0 0 0)]
section
variable {d:Nat}{p:List Nat}{pa cv:AV}{q:Nat}
theorem xR {Q:QT}{t:T}{g:G}{j x:Nat}(n8:p.length<=8)(hx:p[j]?=some x)(hxl:x<18446744073709551616)
  (h0:GrB pa cv q (S.ap p j 0) g) (ht:St t ((28,pa)::(29,.int .i64 (p.length:Int))::(30,.int .i64 (j:Int))::(5,.int .i64 (j:Int))::(6,.int .u64 (x:Int))::LRg pa q)) (h43:tat t 43=.int .i64 0) (h42:tat t 42=.int .i64 (p.length:Int))
  (fin:∀t g',St t ((28,pa)::(29,.int .i64 (p.length:Int))::(30,.int .i64 (j:Int))::(5,.int .i64 (j:Int))::(6,.int .u64 (x:Int))::LRg pa q)->GrB pa cv q (S.ap p j p.length) g'->Q (.exit 2) t [] g'):wpL (wp C0 d none dQ) Q t [] g:=by
 have hjl:=(List.getElem?_eq_some_iff.1 hx).1
 simp only[dQ]
 refine bD (m:=p.length) (by omega) (fun i t df g'=>df=[]/\St t ((28,pa)::(29,.int .i64 (p.length:Int))::(30,.int .i64 (j:Int))::(5,.int .i64 (j:Int))::(6,.int .u64 (x:Int))::LRg pa q)/\GrB pa cv q (S.ap p j i) g') ⟨rfl,ht,h0⟩ h43 h42 (by decide)
  (by rintro i t df g v s (rfl | rfl | rfl) ⟨a1,⟨b1,b2,b3,b4,b5,b6,b7,b8,-⟩,c1⟩<;>exact ⟨a1,by simp[St,LRg,sx,b1,b2,b3,b4,b5,b6,b7,b8],c1⟩) ?_ ?_
 ·rintro i t df g hi ⟨rfl,⟨h28,h29,h30,h5,h6,h0,h2,h4,-⟩,hB⟩ h43 h42
  obtain ⟨old,hold⟩:∃old,old=S.aa (fun v=>Eg p i v/\(v<j\/v=j/\i<i)) p.length:=⟨_,rfl⟩
  have hst:=xF hi hjl n8 hx
  have hYg:(S.ap p j i)[i]?=some old:=by rw[hold];exact kP hi
  rw[<-hold] at hst
  have hol:old<18446744073709551616:=by
   have:=oB (fun v=>Eg p i v/\(v<j\/v=j/\i<i)) p.length
   have:=jQ n8
   omega
  clear hold
  obtain ⟨ad,had⟩:∃ad,ad=(x / 2 ^ i &&& 1)*2 ^ j % 18446744073709551616:=⟨_,rfl⟩
  have hsl:=vv .i64 (x / 2 ^ i &&& 1) j
  have hadl:ad<18446744073709551616:=by rw[had];exact Nat.mod_lt _ (by decide)
  rw[<-had] at hst hsl
  clear had
  have hYr:((S.ap p j i).map cu)[i]?=some (cu old):=by rw[List.getElem?_map,hYg];rfl
  have hYl:i<((S.ap p j i).map cu).length:=by simp[lf,hi]
  have hsr:=hB.hs.rows
  have hor:=gw old ad hol hadl
  simp only[sz,simprocAttr,sf,h4,h5,h6,h43,hB.hq,hsr,hYl,hYr,cu,aH _ _ _ hxl,j9 hxl,hsl,hor]
  refine mu (v:=cv) (sz:=1) (n:=1) (i:=i) (off:=0) (x:=.int .u64 ((old ||| ad:Nat):Int)) (row':=cu (old ||| ad)) (hB.hs.fr (by simp;omega) fun i _=>by simp) hYr rfl rfl rfl fun g4 hu4 n4 f4=>?_
  rw[show (((S.ap p j i).map cu).set i (cu (old ||| ad)))=(S.ap p j (i+1)).map cu from by rw[<-List.map_set,hst]] at hu4
  have f4':∀i,vid cv≠some i->g4.h.get i=g.h.get i:=fun i hi=>by rw[f4 i hi];simp
  have n4':g.nx<=g4.nx:=by rw[n4];simp;omega
  have q1:=hB.q1
  have qn:=hB.qn
  simp only[sx,sy,↓reduceIte,Nat.reduceEqDiff]
  refine ⟨?_,⟨by simp[St,LRg,sx,h0,h2,h4,h5,h6,h28,h29,h30],⟨?_,?_,?_,q1,?_,hB.d1⟩⟩,h43,h42⟩
  ·simp only[List.reverse_cons,List.reverse_nil,List.nil_append,List.cons_append]
   exact gC [false,false,false,false,false,false,false,false,false,false,false,false,false,true] [] (by simp[All2,an,aM]) (by decide) (by simp)
  ·simp only[bumpG_h]
   rw[f4' 0 fun e=>by have:=(hB.hs.lt e).1;omega,hB.h0]
  ·simp only[bumpG_h]
   rw[f4' q hB.d1,hB.hq]
  ·exact hu4.fr (by simp) fun i _=>by simp
  ·simp;omega
 ·rintro t df g ⟨rfl,ht,h⟩
  exact fin t g ht h
theorem qM {h:H}(hn:¬GOk p):∃P,GrV p P 0 h (.tup [.agg [.nils,.nils],.int .i64 70]):=by
 have hf:=BQ hn
 refine ⟨fun _=>True,_,_,rfl,⟨_,rfl,?_⟩,?_⟩
 ·rw[S.gr,hf]
  exact gO.2 ⟨_,_,rfl,be.2 ⟨.nils,rfl,by show 0<9223372036854775808;decide,rfl⟩,be.2 ⟨.nils,rfl,by show 0<9223372036854775808;decide,rfl⟩⟩
 ·rw[hf];exact dH.2 rfl
theorem xx {Q:QT}{t:T}{g:G}(n8:p.length<=8)(hlt:∀x∈p,x<18446744073709551616)(vl:∀g,fp .slice pa g=.val (.int .i64 (p.length:Int)))(rp:∀h,aw h 1 pa=some (p.map cu))(yp:nc pa=true)
  (h0:GrB pa cv q (S.ap p 0 0) g) (ht:St t (LRg pa q)) (h28:tat t 28=pa) (h30:tat t 30=.int .i64 0) (h29:tat t 29=.int .i64 (p.length:Int))
  (bad:∀t g,¬GOk p->g.h.get 0=.cells 2 [[.nils,.nils]] 0 false false->tat t 2=.hptr 0 0 0 0->tat t 3=.int .i64 70->Q .ret t [] g)
  (fin:∀t g,St t (LRg pa q)->GrB pa cv q (S.ap p p.length 0) g->(∀x∈p,x<2 ^ p.length)->Q (.exit 0) t [] g):wpL (wp C0 d none dP) Q t [] g:=by
 simp only[dP,f8]
 refine bD (m:=p.length) (by omega) (fun j t df g'=>df=[]/\St t ((28,pa)::LRg pa q)/\GrB pa cv q (S.ap p j 0) g'/\∀x∈p.take j,x<2 ^ p.length) ⟨rfl,⟨h28,ht⟩,h0,by simp⟩ h30 h29 (by decide)
  (by rintro j t df g v s (rfl | rfl | rfl) ⟨a1,⟨b1,b2,b3,b4,-⟩,c1⟩<;>exact ⟨a1,by simp[St,LRg,sx,b1,b2,b3,b4],c1⟩) ?_ ?_
 ·rintro j t df g hj ⟨rfl,⟨h28,h0,h2,h4,-⟩,hB,hok⟩ h30 h29
  obtain ⟨x,hx,htk,hxm⟩:=cZ hj
  have u1:j<(p.map cu).length:=by simpa using hj
  have u2:(p.map cu)[j]?=some (cu x):=by rw[List.getElem?_map,hx];rfl
  have hxl:=hlt x hxm
  by_cases c1:((x / 2 ^ p.length:Nat):Int)=0
  ·have hx2:x<2 ^ p.length:=by
    have h0:x / 2 ^ p.length=0:=by omega
    rcases Nat.div_eq_zero_iff.1 h0 with h | h
    ·exact absurd h (Nat.ne_of_gt (Nat.pow_pos (by decide)))
    ·exact h
   simp only[sz,simprocAttr,h28,h30,rp,u1,u2,cu,vl,h0,aH _ _ _ hxl,c1]
   refine xR (pa:=pa) (cv:=cv) (q:=q) n8 hx hxl hB (by simp[St,LRg,sx,h0,h2,h4,h28,h29,h30]) (by simp[sx]) (by simp[sx]) ?_
   rintro t g' ⟨h28,h29,h30,h5,h6,h0,h2,h4,-⟩ hB
   simp only[sz,simprocAttr]
   refine ⟨⟨by simp[St,LRg,sx,h0,h2,h4,h28],by rw[<-x7];exact hB,fun y hy=>?_⟩,h30,h29⟩
   rw[htk] at hy
   rcases List.mem_append.1 hy with h | h
   ·exact hok y h
   ·rw[List.mem_singleton.1 h];exact hx2
  ·simp only[sz,simprocAttr,h28,h30,h2,rp,u1,u2,cu,vl,h0,aH _ _ _ hxl,c1,hB.h0]
   refine bad _ _ (fun hG=>c1 ?_) (by simp[H.get_put]) (by simp[sx,h2]) (by simp[sx])
   rw[Nat.div_eq_of_lt (hG.hp x hxm)];rfl
 ·rintro t df g ⟨rfl,⟨h28,ht⟩,h,hok⟩
  rw[List.take_length] at hok
  exact fin t g ht h hok
end
end
end Hx
end
section
namespace Hx
open Go
noncomputable section
section
variable {d:Nat}{p:List Nat}{pa cv:AV}{q:Nat}
theorem yT {Q:QT}{t:T}{g:G}{L:List Nat}{D j0:Nat}(n8:p.length<=8)(hlt:∀x∈p,x<18446744073709551616)(rp:∀h,aw h 1 pa=some (p.map cu))(hO:tS p L)(hD:zp D L)(hG:uh p D)
  (ht:St t ((8,.int .u64 (D:Int))::(64,.int .i64 (p.length:Int))::(65,.int .i64 (j0:Int))::LRg pa q)) (h69:tat t 69=pa) (h71:tat t 71=.int .i64 0) (h70:tat t 70=.int .i64 (p.length:Int))
  (yes:∀t v,St t ((8,.int .u64 ((D ||| S.aD v:Nat):Int))::(64,.int .i64 (p.length:Int))::(65,.int .i64 (j0:Int))::LRg pa q)->tS p (L++[v])->zp (D ||| S.aD v) (L++[v])->uh p (D ||| S.aD v)->Q (.exit 5) t [] g)
  (no:∀t,St t (LRg pa q)->(∀v,v<p.length->D.testBit v=true\/¬Sub (Par p v) D)->Q (.exit 6) t [] g):wpL (wp C0 d none dO) Q t [] g:=by
 simp only[dO]
 refine bD (m:=p.length) (by omega) (fun j t df g'=>df=[]/\g'=g/\St t ((69,pa)::(8,.int .u64 (D:Int))::(64,.int .i64 (p.length:Int))::(65,.int .i64 (j0:Int))::LRg pa q)/\∀v,v<j->D.testBit v=true\/¬Sub (Par p v) D)
  ⟨rfl,rfl,⟨h69,ht⟩,fun v hv=>by omega⟩ h71 h70 (by decide)
  (by rintro j t df g v s (rfl | rfl | rfl) ⟨a1,a2,⟨b1,b2,b3,b4,b5,b6,b7,-⟩,c1⟩<;>exact ⟨a1,a2,by simp[St,LRg,sx,b1,b2,b3,b4,b5,b6,b7],c1⟩) ?_ ?_
 ·rintro j t df g' hj ⟨rfl,rfl,⟨h69,h8,h64,h65,h0,h2,h4,-⟩,hall⟩ h71 h70
  obtain ⟨x,hx,-,hxm⟩:=cZ hj
  have hpj:Par p j=x:=by simp[Par,hx]
  have hxl:=hlt x hxm
  have u1:j<(p.map cu).length:=by simpa using hj
  have u2:(p.map cu)[j]?=some (cu x):=by rw[List.getElem?_map,hx];rfl
  have b3:=bp x D hxl hD.1
  have next:(D.testBit j=true\/¬Sub (Par p j) D)->∀v,v<j+1->D.testBit v=true\/¬Sub (Par p v) D:=fun h v hv=>by
   by_cases e:v=j
   ·subst e;exact h
   ·exact hall v (by omega)
  cases hb:D.testBit j with
  | true =>
   simp only[sz,simprocAttr,h69,h71,h8,rp,u1,u2,cu,aH _ _ _ hD.1,j9 hD.1,jh,hb]
   exact ⟨⟨by simp[St,LRg,sx,h0,h2,h4,h8,h64,h65,h69],next (.inl hb)⟩,h70⟩
  | false =>
   by_cases c2:((x ^^^ (x &&& D):Nat):Int)=0
   ·have hd0:S.aW x D=0:=by simpa [S.aW] using c2
    have hsub:=pQ.1 hd0
    have hjL:j ∉ L:=fun h=>by
     have:=(hD.2 j).2 h
     rw[hb] at this;cases this
    have hone:aT .shl (.int .u64 1) (.int .i64 (j:Int))=.val (.int .u64 (S.aD j:Int)):=aW .i64 j
    simp only[sz,simprocAttr,h69,h71,h8,rp,u1,u2,cu,aH _ _ _ hD.1,j9 hD.1,jh,hb,b3,c2,hone,gw _ _ hD.1 (qz j)]
    refine yes _ j (by simp[St,LRg,sx,h0,h2,h4,h64,h65]) (xh hO hjL hj fun u hu=>?_) (wL hD (by omega)) (yY hG (by omega) (by rw[hpj];exact hsub))
    rw[hpj] at hu;exact (hD.2 u).1 (hsub u hu)
   ·have hns:¬Sub (Par p j) D:=fun h=>c2 (by
     have:=pQ.2 h
     rw[hpj] at this
     simp[S.aW] at this
     simp[this])
    simp only[sz,simprocAttr,h69,h71,h8,rp,u1,u2,cu,aH _ _ _ hD.1,j9 hD.1,jh,hb,b3,c2]
    exact ⟨⟨by simp[St,LRg,sx,h0,h2,h4,h8,h64,h65,h69],next (.inr hns)⟩,h70⟩
 ·rintro t df g' ⟨rfl,rfl,⟨-,-,-,-,ht⟩,hall⟩
  exact no t ht hall
theorem zd {Q:QT}{t:T}{g:G}(n8:p.length<=8)(hp:∀x∈p,x<2 ^ p.length)(hlt:∀x∈p,x<18446744073709551616)(vl:∀g,fp .slice pa g=.val (.int .i64 (p.length:Int)))(rp:∀h,aw h 1 pa=some (p.map cu))
  (hB:GrB pa cv q (S.aP p) g) (ht:St t ((8,.int .u64 0)::LRg pa q)) (h65:tat t 65=.int .i64 0) (h64:tat t 64=.int .i64 (p.length:Int))
  (bad:∀t g,¬GOk p->g.h.get 0=.cells 2 [[.nils,.nils]] 0 false false->tat t 2=.hptr 0 0 0 0->tat t 3=.int .i64 70->Q .ret t [] g)
  (fin:∀t,St t (LRg pa q)->S.aK p=true->Q (.exit 4) t [] g):wpL (wp C0 d none dN) Q t [] g:=by
 simp only[dN,f7]
 refine bD (m:=p.length) (by omega) (fun j t df g'=>df=[]/\g'=g/\∃(L:List Nat) (D:Nat),L.length=j/\tS p L/\zp D L/\uh p D/\St t ((8,.int .u64 (D:Int))::LRg pa q))
  ⟨rfl,rfl,[],0,rfl,⟨by simp,by simp⟩,⟨by decide,by simp⟩,vW,ht⟩ h65 h64 (by decide)
  (by rintro j t df g v s (rfl | rfl | rfl) ⟨a1,a2,L,D,a3,a4,a5,a6,⟨b1,b2,b3,b4,-⟩⟩<;>exact ⟨a1,a2,L,D,a3,a4,a5,a6,by simp[St,LRg,sx,b1,b2,b3,b4]⟩) ?_ ?_
 ·rintro j t df g' hj ⟨rfl,rfl,L,D,hL,hO,hD,hG,h8,h0,h2,h4,-⟩ h65 h64
  have lg1:aP (.cells 2 [[pa,cv]] 0 false false) 0 0 false 1 0=.val pa:=rfl
  simp only[sz,simprocAttr,h4,hB.hq,lg1,vl]
  refine yT (pa:=pa) (q:=q) (L:=L) (D:=D) (j0:=j) n8 hlt rp hO hD hG (by simp[St,LRg,sx,h0,h2,h4,h8,h64,h65]) (by simp[sx]) (by simp[sx]) (by simp[sx]) ?_ ?_
  ·rintro t v ⟨h8,h64,h65,ht⟩ hO2 hD2 hG2
   simp only[sz,simprocAttr]
   exact ⟨⟨L++[v],D ||| S.aD v,by simp[hL],hO2,hD2,hG2,h8,ht⟩,h65,h64⟩
  ·rintro t ⟨h0,h2,h4,-⟩ hall
   simp only[sz,simprocAttr,gt,h2,hB.h0]
   refine bad _ _ (fun hg=>?_) (by simp[H.get_put]) (by simp[sx,h2]) (by simp[sx])
   obtain ⟨v0,hv0,hv0'⟩:=z5 hO (by omega)
   have:=qK hp hg.ac (T:=D) (fun v hv hb=>by
    rcases hall v hv with h | h
    ·rw[h] at hb;cases hb
    ·exact h) v0 hv0
   exact hv0' ((hD.2 v0).1 this)
 ·rintro t df g' ⟨rfl,rfl,L,D,hL,hO,hD,hG,-,ht⟩
  have hfull:=xa hO (by omega)
  exact fin t ht (qh hG fun v hv=>(hD.2 v).2 (hfull.1 v hv))
theorem zX {a b:AV}{i:Nat}(ha:nc a=true)(hb:vid b=some i):f9 [.nils,.nils] [((0,1),.agg [a]),((1,1),b)]=some [a,b]:=by
 cases b<;>first | rfl | cases hb
theorem rV {g:G}{v':AV}(hd:0<d)(hv:SlR NoP 0 .nil p v'):∃z,aL C0 d N.aw [v'] g=.val z/\GrV p NoP 0 .nil z:=by
 have r1:∀h,SlR NoP 0 h p v':=fun h=>hv.tree (Nat.le_refl 0)
 have e:=iJ (h:=g.h) d (r1 g.h)
 have hlt:=cx hv
 rw[kn]
 refine fL mj (xs:=[v']) (by simp only[aD,e]) (by simp[cz]) (i_ (m:=2) (vL _) (dD _) (by decide) (by decide)) (by decide) hd ?_
 have vl:∀g,fp .slice v' g=.val (.int .i64 (p.length:Int)):=fun g=>(r1 .nil).len g
 have ra:∀h,aw h 1 v'=some (p.map cu):=fun h=>(r1 h).nats
 by_cases c1:p.length<1
 ·simp only[sz,simprocAttr,cz,cK,vl,show ((p.length:Int)<1) from by omega]
  exact qM (fun h=>by have:=h.l1;omega)
 by_cases c2:8<p.length
 ·simp only[sz,simprocAttr,cz,cK,vl,show ¬((p.length:Int)<1) from by omega,show ((8:Int)<p.length) from by omega]
  exact qM (fun h=>by have:=h.l8;omega)
 have yp:nc v'=true:=mi (r1 .nil) (by omega)
 have fl:f9 [.nils] [((0,1),v')]=some [v']:=by cases v'<;>first | rfl | cases yp
 simp only[sz,simprocAttr,cz,cK,vl,show ¬((p.length:Int)<1) from by omega,show ¬((8:Int)<p.length) from by omega,fl]
 refine vA (b:=1) (n:=p.length) (bytes:=8) (sz:=1) (zero:=[.int .u64 0]) (by unfold eA;omega) (by unfold eA;omega) ?_ fun cv g1 hu n1 f1 hvid=>?_
 ·simp
 have fl2:f9 [.nils,.nils] [((0,1),.agg [v']),((1,1),cv)]=some [v',cv]:=zX yp hvid
 have n1':g1.nx=2:=by rw[n1];rfl
 simp only[sz,simprocAttr,fl2,n1']
 have hB:GrB v' cv 2 (S.ap p 0 0) ((g1.new (.cells 2 [[.nils,.nils]] 0 false false)).put 2 (.cells 2 [[v',cv]] 0 false false)):=by
  have hne:vid cv≠some 2:=fun e=>by have:=(hu.lt e).2;omega
  refine ⟨?_,by simp[H.get_put],?_,by decide,by simp[n1'],hne⟩
  ·simp[H.get_put,n1']
   rw[f1 0 (by decide)];rfl
  ·rw[zF,List.map_replicate]
   refine hu.fr (by simp) fun i hi=>?_
   have:=(hu.lt hi).2
   simp[H.get_put,n1',show ¬i=2 by omega]
 obtain ⟨g2,hg2⟩:∃g2,g2=((g1.new (.cells 2 [[.nils,.nils]] 0 false false)).put 2 (.cells 2 [[v',cv]] 0 false false)):=⟨_,rfl⟩
 rw[<-hg2] at hB ⊢
 clear hg2 hu f1 hvid n1' n1
 simp only[sz,simprocAttr,vl]
 refine xx (pa:=v') (cv:=cv) (q:=2) (by omega) hlt vl ra yp hB (by simp[St,LRg,sx]) (by simp[sx]) (by simp[sx]) (by simp[sx]) ?_ ?_
 ·intro t g hn a1 a2 a3
  simp only[sz,simprocAttr,a1,a2,a3]
  exact qM hn
 ·rintro t g ⟨h0,h2,h4,-⟩ hB hp
  rw[zZ] at hB
  have lg1:aP (.cells 2 [[v',cv]] 0 false false) 0 0 false 1 0=.val v':=rfl
  simp only[sz,simprocAttr,gy,h4,hB.hq,lg1,vl]
  refine zd (pa:=v') (cv:=cv) (q:=2) (by omega) hp hlt vl ra hB (by simp[St,LRg,sx,h0,h2,h4]) (by simp[sx]) (by simp[sx]) ?_ ?_
  ·intro t g hn a1 a2 a3
   simp only[sz,simprocAttr,a1,a2,a3]
   exact qM hn
  ·rintro t ⟨h0,h2,h4,-⟩ hac
   have hG:S.aA p=true:=gS.2 ⟨by omega,by omega,hp,hac⟩
   have hs2:Own (g.put 0 (.cells 2 [[v',cv]] 0 false false)) 1 cv 1 ((S.aP p).map cu):=hB.hs.fr (by simp) fun i hi=>by
    have:=(hB.hs.lt hi).1
    simp[H.get_put,show ¬i=0 by omega]
   have hsl:=hs2.nats' (by rw[qD];omega) fun y hy=>by
    obtain ⟨u,-,rfl⟩:=List.mem_map.1 hy
    have:=oB (Eg p u) p.length
    have:=jQ (show p.length<=8 by omega)
    omega
   have hld:aP (.cells 2 [[v',cv]] 0 false false) 0 0 true 2 0=.val (.agg [v',cv]):=rfl
   simp only[sz,simprocAttr,fW,h2,h4,hB.hq,hB.h0,hld]
   refine ⟨fun _=>True,_,_,rfl,⟨_,rfl,?_⟩,?_⟩
   ·rw[S.gr,hG]
    exact gO.2 ⟨[v'],[cv],rfl,be.2 ⟨v',rfl,(r1 .nil).wide (Nat.le_refl _)⟩,be.2 ⟨cv,rfl,hsl⟩⟩
   ·rw[hG];exact dH.2 rfl
end
end
end Hx
end
section
namespace Hx
open Go
noncomputable section
def S.ax (n:Nat):List Nat->Nat->Bool
 | [],_=>true
 | x::l,a=>decide (x<2 ^ n)&&decide (x &&& a=0)&&S.ax n l (a ||| x)
theorem zE {n x a:Nat}{l:List Nat}(h:¬x<2 ^ n):S.ax n (x::l) a=false:=by simp[S.ax,h]
theorem zJ {n x a:Nat}{l:List Nat}(h:¬x &&& a=0):S.ax n (x::l) a=false:=by simp[S.ax,h]
theorem xu {n x a:Nat}{l:List Nat}(h:x<2 ^ n)(h2:x &&& a=0):S.ax n (x::l) a=S.ax n l (a ||| x):=by simp[S.ax,h,h2]
theorem ea {x n:Nat}:((x / 2 ^ n:Nat):Int)=0↔x<2 ^ n:=by
 constructor
 ·intro h
  have h0:x / 2 ^ n=0:=by omega
  rcases Nat.div_eq_zero_iff.1 h0 with h | h
  ·exact absurd h (Nat.ne_of_gt (Nat.pow_pos (by decide)))
  ·exact h
 ·intro h
  rw[Nat.div_eq_of_lt h];rfl
theorem wz {α:Type}{l:List α}{j:Nat}{x:α}(h:l[j]?=some x):l.drop j=x::l.drop (j+1):=by
 obtain ⟨h1,rfl⟩:=List.getElem?_eq_some_iff.1 h
 exact List.drop_eq_getElem_cons h1
def S.aB (p l:List Nat):Int:=if S.aA p then (if S.ax p.length l 0 then 0 else 2) else 70
theorem xy {d k:Nat}{g:G}{P:Nat->Prop}{v:AV}{p:List Nat}{x s:Nat}(hd:0<d)(hv:SlR P k g.h p v)(n8:p.length<=8)(hx:x<p.length)(hs:s<18446744073709551616) :
  aL C0 d N.an [v,.int .i64 (x:Int),.int .u64 (s:Int)] g=.val (.int .u64 (S.dn (S.ct p s) (2 ^ x) p.length:Int)):=by
 obtain ⟨v',e,r1⟩:=qE hv d
 have hp:=cx hv
 have hl:=hv.1
 have h256:=jQ n8
 have vl:∀g,fp .slice v' g=.val (.int .i64 (p.length:Int)):=fun g=>(r1 .nil).len g
 have rt:=fun h=>(r1 h).nats
 have hn:(S.ct p s).length=p.length:=zl s
 have hx2:2 ^ x<2 ^ (S.ct p s).length:=by rw[hn];exact Nat.pow_lt_pow_right (by decide) hx
 have hsh:∀i,i<p.length->aT .shl (.int .u64 1) (.int .i64 (i:Int))=.val (.int .u64 ((2 ^ i:Nat):Int)):=fun i hi=>by rw[aW,dM (by omega)]
 rw[kT]
 refine gV mV (xs:=[v',.int .i64 (x:Int),.int .u64 (s:Int)]) (by simp only[aD,e,cI]) (by simp[gv]) hd ?_
 simp only[sz,simprocAttr,gv,vl,hsh x hx]
 simp only[gP]
 refine bD (m:=p.length) hl (fun j t df g=>df=[]/\St t [(0,v'),(2,.int .u64 (s:Int)),(7,.int .u64 (S.dn (S.ct p s) (2 ^ x) j:Int))]) ⟨rfl,by simp[St,sx,S.dn]⟩ (by simp[sx]) (by simp[sx]) (by decide)
  (by rintro j t df g v s (rfl | rfl | rfl)<;>simp[sx,St]) ?_ ?_
 ·rintro j t df g hj ⟨rfl,h0,h2,h7,-⟩ h14 h13
  have hu:=vp hx2 j
  obtain ⟨R,hR⟩:∃R,R=S.dn (S.ct p s) (2 ^ x) j:=⟨_,rfl⟩
  rw[<-hR] at h7 hu
  simp only[sz,simprocAttr,h0,vl,gZ,gY]
  refine bD (m:=p.length) hl (fun i t df g=>df=[]/\St t [(0,v'),(2,.int .u64 (s:Int)),(13,.int .i64 (p.length:Int)),(14,.int .i64 (j:Int)),(16,v'),(7,.int .u64 (S.aq (S.ct p s) R i:Int))]) ⟨rfl,by simp[St,sx,S.aq,h0,h2,h7,h13,h14]⟩ (by simp[sx]) (by simp[sx]) (by decide)
   (by rintro j t df g v s (rfl | rfl | rfl)<;>simp[sx,St]) ?_ ?_
  ·rintro i t df g hi ⟨rfl,h0,h2,h13,h14,h16,h7,-⟩ h18 h17
   have hr:=oH hu i (by omega)
   rw[hn] at hr
   obtain ⟨y,hy,-,hm⟩:=cZ hi
   have hyl:=hp y hm
   have z1:i<(p.map cu).length:=by simpa using hi
   have z2:(p.map cu)[i]?=some (cu y):=by rw[List.getElem?_map,hy];rfl
   have hpar:Par (S.ct p s) i=if s.testBit i then 0 else y:=by rw[BP];simp[Par,hy]
   have h2i:(2:Nat) ^ i<=2 ^ 8:=Nat.pow_le_pow_right (by decide) (by omega)
   obtain ⟨r,hrr⟩:∃r,r=S.aq (S.ct p s) R i:=⟨_,rfl⟩
   have hnx:S.aq (S.ct p s) R (i+1)=if Par (S.ct p s) i &&& r=0 then r else r ||| 2 ^ i:=by rw[S.aq,hrr]
   rw[<-hrr] at h7 hr
   rw[hnx,hpar]
   by_cases c:y &&& r=0
   ·simp only[sz,simprocAttr,h0,h2,h7,h13,h14,h16,h17,h18,rt,z1,z2,cu,bW y r hyl (show r<18446744073709551616 by omega),c]
    have:(if (if s.testBit i=true then 0 else y) &&& r=0 then r else r ||| 2 ^ i)=r:=by
     rw[if_pos];cases s.testBit i<;>simp[c]
    rw[this]
    simp[St,sx,h0,h2,h7,h13,h14,h16,h17,h18]
   ·have c':¬((y &&& r:Nat):Int)=0:=by omega
    cases hb:s.testBit i with
    | true =>
     simp only[sz,simprocAttr,h0,h2,h7,h13,h14,h16,h17,h18,rt,z1,z2,cu,bW y r hyl (show r<18446744073709551616 by omega),c',aH _ _ _ hs,j9 hs,jh,hb]
     simp[St,sx,h0,h2,h7,h13,h14,h16,h17,h18]
    | false =>
     simp only[sz,simprocAttr,h0,h2,h7,h13,h14,h16,h17,h18,rt,z1,z2,cu,bW y r hyl (show r<18446744073709551616 by omega),c',aH _ _ _ hs,j9 hs,jh,hb,hsh i hi,gw r (2 ^ i) (show r<18446744073709551616 by omega) (show 2 ^ i<18446744073709551616 by omega),c]
     simp[St,sx,h0,h2,h7,h13,h14,h16,h17,h18]
  ·rintro t df g ⟨rfl,h0,h2,h13,h14,h16,h7,-⟩
   simp only[sz,simprocAttr,h14]
   rw[show S.dn (S.ct p s) (2 ^ x) (j+1)=S.aq (S.ct p s) R (S.ct p s).length from by rw[S.dn,hR],hn]
   simp[St,sx,h0,h2,h13,h14,h7]
 ·rintro t df g ⟨rfl,h0,h2,h7,-⟩
  simp only[sz,simprocAttr,gN,h7]
def WoV (p:List Nat)(s:Nat):VS:=fun P k h v=>One (S.wo p s) P k h v
theorem tT {m n:Nat}(h:m<18446744073709551616):m ^^^ (m &&& n)<18446744073709551616:=Nat.xor_lt_two_pow (n:=64) h (Nat.lt_of_le_of_lt Nat.and_le_left h)
def S.aG (p:List Nat)(s j:Nat):List Nat:=S.wo (p.take j) s++p.drop j
theorem yR (p:List Nat)(s:Nat):S.aG p s 0=p:=by simp[S.aG,S.wo]
theorem Ae (p:List Nat)(s j:Nat):(S.aG p s j).length=p.length:=by simp[S.aG,S.wo];omega
theorem Ao (p:List Nat)(s:Nat):S.aG p s p.length=S.wo p s:=by simp[S.aG]
theorem Ap {p:List Nat}{s j y:Nat}(hy:p[j]?=some y):(S.aG p s j)[j]?=some y:=by
 have hj:=(List.getElem?_eq_some_iff.1 hy).1
 rw[S.aG,List.getElem?_append_right (by simp[S.wo];omega)]
 have:(S.wo (p.take j) s).length=j:=by simp[S.wo];omega
 rw[this,Nat.sub_self,List.getElem?_drop,Nat.add_zero,hy]
theorem AK {p:List Nat}{s j y:Nat}(hy:p[j]?=some y):(S.aG p s j).set j (y ^^^ (y &&& s))=S.aG p s (j+1):=by
 have hj:=(List.getElem?_eq_some_iff.1 hy).1
 have hl:(S.wo (p.take j) s).length=j:=by simp[S.wo];omega
 rw[S.aG,S.aG,List.set_append_right _ _ (by omega),hl,Nat.sub_self,List.drop_eq_getElem_cons hj,List.set_cons_zero,List.take_add_one,S.wo,S.wo,List.map_append,hy]
 simp
theorem s_ {d k:Nat}{g:G}{P:Nat->Prop}{v:AV}{p:List Nat}{s:Nat}(hd:0<d)(hv:SlR P k g.h p v)(n8:p.length<=8)(n1:1<=p.length)(hs:s<18446744073709551616) :
  ∃r,aL C0 d N.aE [v,.int .u64 (s:Int)] g=.val r/\WoV p s NoP 0 .nil r:=by
 obtain ⟨v',e,r1⟩:=qE hv d
 have hp:=cx hv
 have vl:∀g,fp .slice v' g=.val (.int .i64 (p.length:Int)):=fun g=>(r1 .nil).len g
 have rt:=fun h=>(r1 h).nats
 rw[jN]
 refine fL kN (xs:=[v',.int .u64 (s:Int)]) (by simp only[aD,e,cI]) (by simp[eJ]) (dD _) (by decide) hd ?_
 simp only[sz,simprocAttr,eJ]
 refine ge (b:=0) (rows:=[]) (new:=p.map cu) (.inr ⟨0,0,false,Nat.le_refl 0,by simp,rfl,by simp[sx]⟩) (rt _) (Nat.zero_le _) (by rw[List.length_map,eA];simp;omega) fun u g0 hu _ _ _ _=>?_
 rw[List.nil_append] at hu
 have ul:∀g,fp .slice u g=.val (.int .i64 (p.length:Int)):=fun g=>by
  rcases hu with ⟨rfl,h⟩ | ⟨id,ep,lo,-,-,rfl,-⟩
  ·have:=congrArg List.length h
   rw[List.length_map,List.length_nil] at this;omega
  ·simp[fp]
 simp only[sz,simprocAttr,ul,fC]
 refine bD (m:=p.length) (by omega) (fun j t df g=>df=[]/\St t [(1,.int .u64 (s:Int)),(5,u)]/\Own g 0 u 1 ((S.aG p s j).map cu)) ⟨rfl,by simp[St,sx],by rw[yR];exact hu⟩ (by simp[sx]) (by simp[sx]) (by decide)
  (by rintro j t df g v s (rfl | rfl | rfl)<;>simp[sx,St]) ?_ ?_
 ·rintro j t df g hj ⟨rfl,⟨h1,h5,-⟩,hO⟩ h12 h11
  obtain ⟨y,hy,-,hm⟩:=cZ hj
  have hyl:=hp y hm
  have z1:j<((S.aG p s j).map cu).length:=by rw[List.length_map,Ae];exact hj
  have z2:((S.aG p s j).map cu)[j]?=some (cu y):=by rw[List.getElem?_map,Ap hy];rfl
  have rO:=hO.rows
  simp only[sz,simprocAttr,h1,h5,h11,h12,rO,z1,z2,cu,bp y s hyl hs]
  refine mu (v:=u) (sz:=1) (n:=1) (i:=j) (off:=0) (x:=.int .u64 ((y ^^^ (y &&& s):Nat):Int)) (row':=cu (y ^^^ (y &&& s))) hO z2 rfl rfl rfl fun g4 hu4 n4 f4=>?_
  rw[<-List.map_set,AK hy] at hu4
  simp only[sz,simprocAttr,h12]
  exact ⟨⟨by simp[St,sx,h1,h5],hu4⟩,h11⟩
 ·rintro t df g ⟨rfl,⟨h1,h5,-⟩,hO⟩
  simp only[sz,simprocAttr,fw,h5]
  rw[Ao] at hO
  exact ⟨_,be.2 ⟨_,rfl,hO.natsV (by rw[l5];omega) fun y hy=>by
   obtain ⟨z,hz,rfl⟩:=List.mem_map.1 hy
   exact tT (hp z hz)⟩⟩
def cn (i:Nat):Int:=(i:Int)
def S.aM (n:Nat)(x y:Int):Bool:=decide (0<=x/\x<n/\0<=y/\y<n/\x≠y)
theorem mG {d n:Nat}{g:G}{x y:Int}(hd:0<d):aL C0 d N.au [.int .i64 (n:Int),.int .i64 x,.int .i64 y] g=.val (.bool (S.aM n x y)):=by
 rw[js]
 refine nm kE (xs:=[.int .i64 (n:Int),.int .i64 x,.int .i64 y]) (by simp only[aD,cI]) (by simp[aU]) hd ?_
 have no:¬(0<=x/\x<n/\0<=y/\y<n/\x≠y)->S.aM n x y=false:=fun h=>decide_eq_false h
 by_cases c1:0<=x
 ·by_cases c2:x<n
  ·by_cases c3:0<=y
   ·by_cases c4:y<n
    ·by_cases c5:x=y
     ·have:=no (by omega)
      have c':decide (x=y)=true:=decide_eq_true c5
      simp only[sz,simprocAttr,aU,this,c1,c2,c3,c4,c']
     ·have:S.aM n x y=true:=decide_eq_true ⟨c1,c2,c3,c4,c5⟩
      simp only[sz,simprocAttr,aU,this,c1,c2,c3,c4,c5]
    ·have:=no (by omega)
     simp only[sz,simprocAttr,aU,this,c1,c2,c3,c4]
   ·have:=no (by omega)
    simp only[sz,simprocAttr,aU,this,c1,c2,c3]
  ·have:=no (by omega)
   simp only[sz,simprocAttr,aU,this,c1,c2]
 ·have:=no (by omega)
  simp only[sz,simprocAttr,aU,this,c1]
theorem xE (a b c d e f g:AV):bH 0 [a,b,c,d,e,f,g] .nil=eB (eB (eB (eB (eB (eB (eB .nil 0 a) 1 b) 2 c) 3 d) 4 e) 5 f) 6 g:=rfl
theorem wC {C:Cfg}{d:Nat}{r:List SR}{t:T}{g:G}{K:AV->G->Prop}(h:lN r t g fun vs=>K (dz vs) g):kf C d r t [] g K:=by
 unfold kf
 have:cB (I C) d [] g=some g:=rfl
 rw[this];exact h
def oE:SC:=.seq (.feet [0,0,2,6,15,31] [oL 21 3,oF 22 0 7,oL 23 22,o 24 (.bin .shl (.k (.int .u64 1)) (.t 23)),o 25 (.bin .or (.t 21) (.t 24)),oz (.store 1 (.t 3) (.t 25))]) (sQ [oF 26 1 4,oL 27 26,oF 28 0 7,oL 29 28,oX 30 27 29,oL 31 30,o 32 (.call N.aa [.t 31])] (.blk 0 (.rng 74 (.t 32) [33] a8 aZ)))
theorem zK:cP=.seq (sQ [oL 10 1,o 11 (.load true 2 (.t 7)),o 12 (.raw (.lookup 125 (.tmp 10) (.tmp 11) false))] (.cond (.t 12) (.ret) (.skip))) (sQ [oL 13 1,o 14 (.load true 2 (.t 7)),oz (.raw (.mapUpdate 125 (.tmp 13) (.tmp 14) (.const (.bool true))))] (.seq (sQ [oL 15 2,oF 16 0 7,oL 17 16,o 18 (.bin .shr (.t 15) (.t 17)),o 19 (.bin .and (.t 18) (.k (.int .u64 1))),o 20 (.bin .eql (.t 19) (.k (.int .u64 0)))] (.cond (.t 20) oE (.skip))) a9)):=rfl
theorem BR {p c:List Nat}{pa ch:AV}{Zs:Nat}{Gd:Nat×Bool->Prop}{d k q v:Nat}{dn:Bool}{L:List (Nat×Bool)}{Q:QT}{t:T}{g:G}(hd:0<d)(hG:GrI p c pa ch Zs)(hv:qR p pa ch Zs Gd d k)(hk:S.aH p.length (L++[(v,dn)])<=k)(hvn:v<p.length)(hnz:¬Bt Zs v)
  (hg:∀u,Eg p v u->Gd (u,true)) (hL:∀s∈L++[(v,dn)],Gd s) (hX:∀h':H,(∀i,i<7->i≠4->h'.get i=g.h.get i)->h'.get 4=.cells 1 [[.int .u64 (S.aa (iC (Bt Zs) (L++[(v,dn)])) p.length:Int)]] 0 false false->VI p pa ch Zs (L++[(v,dn)]) h') (hr4:g.h.get 4=.cells 1 [[.int .u64 (S.aa (iC (Bt Zs) L) p.length:Int)]] 0 false false) (hg0:g.h.get 0=.cells 2 [[pa,ch]] 0 false false) (ht:St t (LVs q)) (hq:g.h.get q=.cells 2 [[.int .i64 (v:Int),.bool dn]] 0 false false) (hq7:7<=q) (hqn:q<g.nx)
  (fin:∀t' g' L' m,St t' (LVs q)->VI p pa ch Zs L' g'.h->g.nx<=g'.nx->g.nx<=m->m<g'.nx->g'.h.get m=.dfr true->(∀i,7<=i->i<g.nx->g'.h.get i=g.h.get i)->Dst (RX p Zs) Gd (L++[(v,dn)]) L'->(∀u,Eg p v u->(u,true)∈L')->Q .norm t' [.mark m] g'):wp C0 d none oE Q t [] g:=by
 obtain ⟨h1,h2,h3,h4,h5,h6,h7,-⟩:=ht
 have h256:=jQ hG.n8
 have hn8:=hG.n8
 have lq1:aP (.cells 2 [[.int .i64 (v:Int),.bool dn]] 0 false false) 0 0 false 1 0=.val (.int .i64 (v:Int)):=rfl
 have lg2:aP (.cells 2 [[pa,ch]] 0 false false) 0 0 false 1 1=.val ch:=rfl
 have hR:=oB (iC (Bt Zs) L) p.length
 have hor:=gw (S.aa (iC (Bt Zs) L) p.length) (S.aD v) (by omega) (qz v)
 rw[dM (by omega),<-xD (d:=dn) hvn hnz] at hor
 have hsh:aT .shl (.int .u64 1) (.int .i64 (v:Int))=.val (.int .u64 ((2 ^ v:Nat):Int)):=by rw[aW,dM (by omega)]
 have hcv:c[v]?=some (c[v]?.getD 0):=by rw[List.getElem?_eq_getElem (by rw[hG.cl];exact hvn)];rfl
 have u1:v<(c.map cu).length:=by rw[List.length_map,hG.cl];exact hvn
 have u2:(c.map cu)[v]?=some (cu (c[v]?.getD 0)):=by rw[List.getElem?_map,hcv];rfl
 have hyc:=hG.yc (by omega)
 have kM:=fun g=>iM (d:=d) (s:=c[v]?.getD 0) (g:=g) hd
 have hcm:∀u,u∈S.ah (c[v]?.getD 0)↔Eg p v u:=fun u=>by rw[jp (hG.cb8 v),hG.cb v u]
 unfold oE
 refine qf (P:=fun t' df' g'=>df'=[]/\g.nx<=g'.nx/\(∀i,i≠4->g'.h.get i=g.h.get i)/\g'.h.get 4=.cells 1 [[.int .u64 (S.aa (iC (Bt Zs) (L++[(v,dn)])) p.length:Int)]] 0 false false/\St t' (LVs q)) ?_ ?_
 ·simp only[sz,simprocAttr,sf,h3,h7,hq,lq1,hr4,hsh,hor]
  refine ⟨?_,by omega,fun i hi=>by simp[H.get_put,hi],by simp[St,LVs,sx,h1,h2,h3,h4,h5,h6,h7]⟩
  simp only[List.reverse_cons,List.reverse_nil,List.nil_append,List.cons_append]
  exact gC [false,false,false,false,false,true] [] (by simp[All2,an,aM]) (by decide) (by simp)
 clear h1 h2 h3 h4 h5 h6 h7
 rintro t df g1 ⟨rfl,n1,f1,r1,h1,h2,h3,h4,h5,h6,h7,-⟩
 have hI:=hX g1.h (fun i _ hi=>f1 i hi) r1
 have hq1:g1.h.get q=.cells 2 [[.int .i64 (v:Int),.bool dn]] 0 false false:=by rw[f1 q (by omega),hq]
 have g01:g1.h.get 0=.cells 2 [[pa,ch]] 0 false false:=by rw[f1 0 (by omega),hg0]
 simp only[sz,simprocAttr,h4,h7,g01,lg2,hq1,lq1,hG.rc,u1,u2,cu,hyc,kM]
 refine zw (q:=q) (L:=L++[(v,dn)]) (set:=c[v]?.getD 0) hd hv hk (hG.cb8 v) (fun u hu=>hg u ((hcm u).1 hu)) hL hI (by omega) (by simp[St,LVs,sx,h1,h2,h3,h4,h5,h6,h7]) (by simp[sx]) ?_
 intro g' L' hI' hn' hdf hfr hD hall
 simp only[sz,simprocAttr]
 exact fin _ g' L' g1.nx (by simp[St,LVs,sx,h1,h2,h3,h4,h5,h6,h7]) hI' (by omega) n1 (by omega) hdf (fun i a b=>by rw[hfr i a (by omega),f1 i (by omega)]) hD fun u hu=>hall u ((hcm u).2 hu)
theorem ze {p c:List Nat}{pa ch:AV}{Zs:Nat}{Gd:Nat×Bool->Prop}{d:Nat}(hd:0<d)(hG:GrI p c pa ch Zs)(hgc:∀s t,Gd s->RX p Zs s t->Gd t)(hgl:∀s,Gd s->s.1<p.length):∀k,qR p pa ch Zs Gd d k:=by
 intro k
 induction k using Nat.strongRecOn with
 | _ k ih =>
  rintro L ⟨v,dn⟩ g K D hk hs hL hn hI kk
  have hvn:v<p.length:=hgl _ hs
  have h256:=jQ hG.n8
  have hz:=hG.zs
  have hn8:=hG.n8
  rw[Av]
  refine AS gG (by simp[bT]) ?_
  simp only[sz,simprocAttr,bT,sk,xE]
  obtain ⟨g1,hg1⟩:∃g1,g1=g.new (.cells 2 [[.int .i64 (v:Int),.bool dn]] 0 false false):=⟨_,rfl⟩
  rw[<-hg1]
  have n1:g1.nx=g.nx+1:=by rw[hg1];simp
  have f1:∀i,i<g.nx->g1.h.get i=g.h.get i:=fun i hi=>by rw[hg1];simp[H.get_put,show ¬i=g.nx by omega]
  have hq:g1.h.get g.nx=.cells 2 [[.int .i64 (v:Int),.bool dn]] 0 false false:=by rw[hg1];simp[H.get_put]
  have hI1:VI p pa ch Zs L g1.h:=hI.fr fun i hi=>f1 i (by omega)
  clear hg1
  have lq:aP (.cells 2 [[.int .i64 (v:Int),.bool dn]] 0 false false) 0 0 true 2 0=.val (sk (v,dn)):=rfl
  have lq1:aP (.cells 2 [[.int .i64 (v:Int),.bool dn]] 0 false false) 0 0 false 1 0=.val (.int .i64 (v:Int)):=rfl
  have lg2:aP (.cells 2 [[pa,ch]] 0 false false) 0 0 false 1 1=.val ch:=rfl
  rw[zK]
  by_cases hin:(v,dn)∈L
  ·simp only[sz,simprocAttr,hI1.p,hq,lq]
   rw[yf (id:=3) (s:=(v,dn)) (L:=L) (by simp[sx]) (by simp[sx]) hI1.m,decide_eq_true hin]
   simp only[sz,simprocAttr]
   exact kk g1 L hI1 (by omega) (fun i _ hi=>f1 i hi) (Dst.refl hL) hin
  ·have hlt:=Al (n:=p.length) hin hvn
   obtain ⟨L1,hL1⟩:∃L1,L1=L++[(v,dn)]:=⟨_,rfl⟩
   rw[<-hL1] at hlt
   have hgL1:∀s∈L1,Gd s:=fun s hs'=>by
    rw[hL1] at hs'
    rcases List.mem_append.1 hs' with h | h
    ·exact hL s h
    ·rw[List.mem_singleton.1 h];exact hs
   refine qf (P:=fun t' df' g'=>df'=[]/\g'=g1/\St t' (LVs g.nx)) ?_ ?_
   ·simp only[sz,simprocAttr,hI1.p,hq,lq]
    rw[yf (id:=3) (s:=(v,dn)) (L:=L) (by simp[sx]) (by simp[sx]) hI1.m,decide_eq_false hin]
    simp only[sz,simprocAttr]
    simp[St,LVs,sx]
   rintro t df g2 ⟨rfl,hg,h1,h2,h3,h4,h5,h6,h7,-⟩
   rw[hg];clear hg
   refine gU (P:=fun t' df' g'=>df'=[]/\g'.nx=g1.nx/\(∀i,i≠3->g'.h.get i=g1.h.get i)/\g'.h.get 3=.map (bcl L1)/\St t' (LVs g.nx)) ?_ ?_
   ·simp only[sz,simprocAttr,h1,h7,hI1.p,hq,lq]
    rw[Co (id:=3) (s:=(v,dn)) (L:=L) (by simp[sx]) (by simp[sx]) hI1.m hin]
    simp only[sz,simprocAttr]
    exact ⟨fun i hi=>by simp[H.get_put,hi],by simp[H.get_put,hL1],by simp[St,LVs,sx,h1,h2,h3,h4,h5,h6,h7]⟩
   clear h1 h2 h3 h4 h5 h6 h7
   rintro t df g2 ⟨rfl,n2,f2,m2,h1,h2,h3,h4,h5,h6,h7,-⟩
   have f2':∀i,7<=i->i<g1.nx->g2.h.get i=g1.h.get i:=fun i a b=>f2 i (by omega)
   have hq2:g2.h.get g.nx=.cells 2 [[.int .i64 (v:Int),.bool dn]] 0 false false:=by rw[f2 _ (by omega),hq]
   have z2:g2.h.get 1=.cells 1 [[.int .u64 (Zs:Int)]] 0 false false:=by rw[f2 1 (by omega),hI1.z]
   have r2:g2.h.get 4=.cells 1 [[.int .u64 (S.aa (iC (Bt Zs) L) p.length:Int)]] 0 false false:=by rw[f2 4 (by omega),hI1.r]
   have hI2:S.aa (iC (Bt Zs) L) p.length=S.aa (iC (Bt Zs) L1) p.length->VI p pa ch Zs L1 g2.h:=fun e =>
    ⟨by rw[f2 0 (by omega),hI1.g0],z2,by rw[f2 2 (by omega),hI1.a],m2,by rw[<-e,r2],by rw[f2 5 (by omega),hI1.p],by rw[f2 6 (by omega),hI1.v]⟩
   have zq:Zs<18446744073709551616:=by omega
   refine qf (P:=fun t' df' g'=>(df'=[]\/∃m,df'=[.mark m]/\g'.h.get m=.dfr true/\g1.nx<=m/\m<g'.nx)/\St t' (LVs g.nx)/\g1.nx<=g'.nx/\(∀i,7<=i->i<g1.nx->g'.h.get i=g1.h.get i)/\∃L2,VI p pa ch Zs L2 g'.h/\Dst (RX p Zs) Gd L1 L2/\∀u,RX p Zs (v,dn) (u,true)->(u,true)∈L2) ?_ ?_
   ·cases hb:Zs.testBit v with
    | true =>
     have hI3:=hI2 (by rw[hL1,Am (show Bt Zs v from hb)])
     simp only[sz,simprocAttr,h2,h7,hq2,lq1,z2,aH _ _ _ zq,j9 zq,jh,hb]
     exact ⟨.inl trivial,by simp[St,LVs,sx,h1,h2,h3,h4,h5,h6,h7],by omega,f2',L1,hI3,Dst.refl hgL1,fun u hu=>by cases hu with | dn hz' _=>exact absurd hb hz'⟩
    | false =>
     have hnz:¬Bt Zs v:=fun h=>by have h:Zs.testBit v=true:=h;rw[hb] at h;cases h
     have hR:=oB (iC (Bt Zs) L) p.length
     have hor:=gw (S.aa (iC (Bt Zs) L) p.length) (S.aD v) (by omega) (qz v)
     rw[dM (by omega),<-xD (d:=dn) hvn hnz,<-hL1] at hor
     have hsh:aT .shl (.int .u64 1) (.int .i64 (v:Int))=.val (.int .u64 ((2 ^ v:Nat):Int)):=by rw[aW,dM (by omega)]
     have hcv:c[v]?=some (c[v]?.getD 0):=by rw[List.getElem?_eq_getElem (by rw[hG.cl];exact hvn)];rfl
     have u1:v<(c.map cu).length:=by rw[List.length_map,hG.cl];exact hvn
     have u2:(c.map cu)[v]?=some (cu (c[v]?.getD 0)):=by rw[List.getElem?_map,hcv];rfl
     have hyc:=hG.yc (by omega)
     have kM:=fun g=>iM (d:=d) (s:=c[v]?.getD 0) (g:=g) hd
     simp only[sz,simprocAttr,h2,h7,hq2,lq1,z2,aH _ _ _ zq,j9 zq,jh,hb]
     rw[hL1] at hgL1 m2 hlt ⊢
     refine BR (q:=g.nx) (L:=L) (k:=S.aH p.length (L++[(v,dn)])) hd hG (ih _ (by omega)) (Nat.le_refl _) hvn hnz (fun u hu=>hgc (v,dn) (u,true) hs (.dn hnz hu)) hgL1 (fun h' hh hr=>⟨by rw[hh 0 (by omega) (by omega),f2 0 (by omega),hI1.g0],by rw[hh 1 (by omega) (by omega),z2],by rw[hh 2 (by omega) (by omega),f2 2 (by omega),hI1.a],by rw[hh 3 (by omega) (by omega),m2],hr,by rw[hh 5 (by omega) (by omega),f2 5 (by omega),hI1.p],by rw[hh 6 (by omega) (by omega),f2 6 (by omega),hI1.v]⟩) r2 (by rw[f2 0 (by omega),hI1.g0]) (by simp[St,LVs,sx,h1,h2,h3,h4,h5,h6,h7]) hq2 hn (by omega) ?_
     intro t' g' L' m ht' hI' n' hm1 hm2 hdf hfr hD hall
     exact ⟨rfl,.inr ⟨m,rfl,hdf,by omega,hm2⟩,ht',by omega,fun i a b=>by rw[hfr i a (by omega),f2' i a b],L',hI',hD,fun u hu=>hall u (by cases hu with | dn _ e=>exact e)⟩
   ·rintro t df g3 ⟨hdf,ht,n3,f3,L2,hI3,hD,hch⟩
    refine BL (q:=g.nx) (v:=v) (dn:=dn) (L:=L2) (k:=S.aH p.length L2) hd hG (ih _ (by have:=na (n:=p.length) hD.pre;omega)) (Nat.le_refl _) hvn (fun u hu=>hgc (v,dn) (u,false) hs hu) hD.good hI3 ht (by rw[f3 _ hn (by omega),hq]) hn (by omega) ?_
    rintro e t' df' g4 L3 he hdf' hI4 n4 f4 hD2 hpa
    have hfin:Dst (RX p Zs) Gd L L3/\(v,dn)∈L3:=by
     have hD3:=hD.tr hD2
     rw[hL1] at hD3
     refine hD3.visit fun u hu=>?_
     obtain ⟨w,b⟩:=u
     cases b with
     | true=>exact hD2.pre _ (hch w hu)
     | false=>exact hpa w hu
    have hfr:∀i,7<=i->i<g.nx->g4.h.get i=g.h.get i:=fun i a b=>by rw[f4 i a (by omega),f3 i a (by omega),f1 i b]
    have hend:fnQ C0 d [] K .ret t' df' g4=kf C0 d [] t' df' g4 K:=rfl
    have hend2:fnQ C0 d [] K .norm t' df' g4=kf C0 d [] t' df' g4 K:=rfl
    have goal:kf C0 d [] t' df' g4 K:=by
     have one:∀g5:G,g5.nx=g4.nx->(∀i,i<7->g5.h.get i=g4.h.get i)->(∀i,i<g.nx->g5.h.get i=g4.h.get i)->K (.tup []) g5:=fun g5 n5 f5 f6 =>
      kk g5 L3 (hI4.fr f5) (by omega) (fun i a b=>by rw[f6 i b,hfr i a b]) hfin.1 hfin.2
     rcases hdf with rfl | ⟨m,rfl,hm,hm1,hm2⟩
     ·rcases hdf' with rfl | ⟨m2,rfl,hm2,hm3⟩
      ·exact wC (one g4 rfl (fun _ _=>rfl) fun _ _=>rfl)
      ·exact lZ hm2 (one _ (by simp) (fun i hi=>by simp[H.get_put,show ¬i=m2 by omega]) fun i hi=>by simp[H.get_put,show ¬i=m2 by omega])
     ·have hm4:g4.h.get m=.dfr true:=by rw[f4 m (by omega) hm2,hm]
      rcases hdf' with rfl | ⟨m2,rfl,hm5,hm3⟩
      ·exact lZ hm4 (one _ (by simp) (fun i hi=>by simp[H.get_put,show ¬i=m by omega]) fun i hi=>by simp[H.get_put,show ¬i=m by omega])
      ·exact tv hm5 hm4 (by omega) (one _ (by simp) (fun i hi=>by simp[H.get_put,show ¬i=m by omega,show ¬i=m2 by omega]) fun i hi=>by simp[H.get_put,show ¬i=m by omega,show ¬i=m2 by omega])
    rcases he with rfl | rfl
    ·rw[hend];exact goal
    ·rw[hend2];exact goal
def S.aL (p:List Nat)(xs zs:Nat):Nat:=S.aa (Re (Eg p) (Bt zs) (Bt xs)) p.length
structure Chl (p c:List Nat):Prop where
 cl:c.length=p.length
 cb:∀v u,(c[v]?.getD 0).testBit u=true↔Eg p v u
theorem AY (Z:Nat->Prop)(n:Nat):S.aa (iC Z []) n=0:=by
 refine Nat.eq_of_testBit_eq fun i=>?_
 rw[Nat.zero_testBit]
 cases h:(S.aa (iC Z []) n).testBit i with
 | false=>rfl
 | true =>
  obtain ⟨-,⟨d,hd⟩,-⟩:=gM.1 h
  cases hd
theorem Af {p:List Nat}{Z:Nat->Prop}{xs v:Nat}{b:Bool}(hp:∀x∈p,x<2 ^ p.length)(hx:xs<2 ^ p.length)(h:Rs (Eg p) Z (Bt xs) v b):v<p.length:=by
 cases h with
 | st h=>exact mB hx h
 | dn _ _ e=>exact (j8 hp e).2
 | up _ _ e=>exact (j8 hp e).1
set_option maxRecDepth 5000 in
theorem yM {d xs zs:Nat}{g:G}{v:AV}{p c:List Nat}(hd:0<d)(hm:Agg ((p,c):List Nat×List Nat) NoP 0 g.h v)(hp:∀x∈p,x<2 ^ p.length)(h1:1<=p.length)(n8:p.length<=8)(hc:Chl p c)(hxs:xs<2 ^ p.length)(hzs:zs<2 ^ p.length) :
  aL C0 d N.aG [v,.int .u64 (xs:Int),.int .u64 (zs:Int)] g=.val (.int .u64 (S.aL p xs zs:Int)):=by
 have e0:=sP d hm
 obtain ⟨cs,rfl,hcs⟩:=hm
 obtain ⟨_,_,rfl,ha,hb⟩:=gO.1 hcs
 obtain ⟨pa,rfl,hpa⟩:=be.1 ha
 obtain ⟨ch,rfl,hch⟩:=be.1 hb
 have h256:=jQ n8
 have hpa:SlR NoP 0 .nil p pa:=hpa.tree (Nat.le_refl 0)
 have hch:SlR NoP 0 .nil c ch:=hch.tree (Nat.le_refl 0)
 have rp:∀h,aw h 1 pa=some (p.map cu):=fun h=>(hpa.tree (h':=h) (Nat.le_refl 0):SlR NoP 0 h _ pa).nats
 have rc:∀h,aw h 1 ch=some (c.map cu):=fun h=>(hch.tree (h':=h) (Nat.le_refl 0):SlR NoP 0 h _ ch).nats
 have hG:GrI p c pa ch zs:=⟨hp,n8,rp,rc,mi hpa,fun h=>mi hch (by rw[hc.cl];exact h),hc.cl,hc.cb,hzs⟩
 have lp:=hpa.len
 have lg1:aP (.cells 2 [[pa,ch]] 0 false false) 0 0 false 1 0=.val pa:=rfl
 have hlt:∀x∈p,x<18446744073709551616:=fun x hx=>by have:=hp x hx;omega
 rw[gD]
 refine gV io (xs:=[.agg ([pa]++[ch]),.int .u64 (xs:Int),.int .u64 (zs:Int)]) (by simp only[aD,e0,cI]) (by simp[b_]) hd ?_
 simp only[sz,simprocAttr,b_,dB,List.cons_append,List.nil_append,lg1,lp]
 have go:∀t g',St t [(1,.int .u64 (xs:Int)),(3,.hptr 0 0 0 0),(5,.hptr 1 0 0 0),(7,.hptr 2 0 0 0)]->g'.nx=3->g'.h.get 0=.cells 2 [[pa,ch]] 0 false false->g'.h.get 1=.cells 1 [[.int .u64 (zs:Int)]] 0 false false->g'.h.get 2=.cells 1 [[.int .u64 (S.up p zs p.length:Int)]] 0 false false ->
   wp C0 (d+1) none bb (fnQ C0 (d+1) [SR.tm 6] fun v _=>v=AV.int IntKind.u64 ↑(S.aL p xs zs)) t [] g':=by
  rintro t g1 ⟨t1,t3,t5,t7,-⟩ n1 g0 gz ga
  have xn:xs<256:=by omega
  have st1:∀g,fS (.cells 1 [[.nilm]] 0 false false) g 5 0 0 1 0 (.hmap 3)=.upd .undef (g.put 5 (.cells 1 [[.hmap 3]] 0 false false)):=fun g=>rfl
  have st2:∀g,fS (.cells 1 [[.nilf]] 0 false false) g 6 0 0 1 0 (.clo N.aA [] [.hptr 5 0 0 0,.hptr 1 0 0 0,.hptr 4 0 0 0,.hptr 0 0 0 0,.hptr 6 0 0 0,.hptr 2 0 0 0])=.upd .undef (g.put 6 (.cells 1 [[yB]] 0 false false)):=fun g=>rfl
  have kM:=fun g=>iM (d:=d+1) (s:=xs) (g:=g) (Nat.succ_pos d)
  simp only[sz,simprocAttr,bb,BH,t1,t3,t5,t7,kM,n1,st1,st2]
  obtain ⟨g2,hg2⟩:∃g2,g2=(((((((g1.new (AObj.map [])).new (AObj.cells 1 [[AV.int IntKind.u64 0]] 0 false false)).new (AObj.cells 1 [[AV.nilm]] 0 false false)).put 4 (AObj.cells 1 [[AV.int IntKind.u64 0]] 0 false false)).put 5 (AObj.cells 1 [[AV.hmap 3]] 0 false false)).new (AObj.cells 1 [[AV.nilf]] 0 false false)).put 6 (AObj.cells 1 [[yB]] 0 false false)):=⟨_,rfl⟩
  rw[<-hg2]
  have n2:g2.nx=7:=by rw[hg2];simp[n1]
  have hz0:S.aa (iC (Bt zs) []) p.length=0:=AY _ _
  have hI:VI p pa ch zs [] g2.h:=by
   rw[hg2]
   refine ⟨?_,?_,?_,?_,?_,?_,?_⟩
   ·simp[H.get_put,n1,g0]
   ·simp[H.get_put,n1,gz]
   ·simp[H.get_put,n1,ga]
   ·simp[H.get_put,n1];rfl
   ·simp[H.get_put,n1,hz0]
   ·simp[H.get_put,n1]
   ·simp[H.get_put,n1]
  clear hg2 g0 gz ga
  have hgc:∀s t,Rs (Eg p) (Bt zs) (Bt xs) s.1 s.2->RX p zs s t->Rs (Eg p) (Bt zs) (Bt xs) t.1 t.2:=fun s t h1 h2=>zU h1 h2
  have hgl:∀s:Nat×Bool,Rs (Eg p) (Bt zs) (Bt xs) s.1 s.2->s.1<p.length:=fun s h=>Af hp hxs h
  have hv:=ze (Gd:=fun s=>Rs (Eg p) (Bt zs) (Bt xs) s.1 s.2) (Nat.succ_pos d) hG hgc hgl (S.aH p.length [])
  refine qx (Nat.succ_pos d) xn (by simp[sx]) (by decide) (fun j h=>VJ p pa ch zs (fun s=>Rs (Eg p) (Bt zs) (Bt xs) s.1 s.2) [] false (S.ah xs) g2 j h) ?_ ⟨⟨[],hI,Dst.refl (fun s h=>by cases h),fun i v h=>absurd h (Nat.not_lt_zero i)⟩,fun _ _ _=>rfl⟩ ?_ ?_
  ·rintro j h h' hh ⟨⟨L1,i1,i2,i3⟩,f1⟩
   exact ⟨⟨L1,i1.fr fun i hi=>hh i (by omega),i2,i3⟩,fun i h1 h2=>by rw[hh i h2,f1 i h1 h2]⟩
  ·rintro j v g1 hj ⟨⟨L1,i1,i2,i3⟩,f1⟩ hn1
   simp only[sz,simprocAttr,dj]
   intro g3 hn3 hf3
   have i1':VI p pa ch zs L1 g3.h:=i1.fr fun i hi=>hf3 i (by omega)
   simp only[sz,simprocAttr,dh,i1'.v]
   refine hv L1 (v,false) g3 _ _ (na i2.pre) (.st ((jp xn).1 (List.mem_of_getElem? hj))) i2.good (by omega) i1' fun g4 L2 j1 j2 j3 j4 j5=>?_
   simp only[sz,simprocAttr]
   refine ⟨j2,fun i a b=>j3 i (by omega) b,.inl ⟨rfl,⟨L2,j1,i2.tr j4,fun i u hi hu=>?_⟩,fun i a b=>?_⟩⟩
   ·by_cases e:i=j
    ·subst e
     rw[hj] at hu
     injection hu with hu
     subst hu
     exact j5
    ·exact j4.pre _ (i3 i u (by omega) hu)
   ·omega
  ·rintro g' ⟨⟨L1,i1,i2,i3⟩,f1⟩ hn' hdf
   have hall:∀x,Bt xs x->(x,false)∈L1:=fun x hx=>by
    obtain ⟨i,hi,e⟩:=List.mem_iff_getElem.1 ((jp xn).2 hx)
    exact i3 i x hi (by rw[List.getElem?_eq_getElem hi,e])
   have hval:S.aa (iC (Bt zs) L1) p.length=S.aL p xs zs:=fN fun y _=>by
    constructor
    ·rintro ⟨⟨b,h⟩,hz⟩;exact ⟨⟨b,(vH i2 hall y b).1 h⟩,hz⟩
    ·rintro ⟨⟨b,h⟩,hz⟩;exact ⟨⟨b,(vH i2 hall y b).2 h⟩,hz⟩
   have hr:=i1.r
   rw[hval] at hr
   simp only[sz,simprocAttr,dl,hr]
   refine lZ hdf ?_
   simp only[sz,simprocAttr]
 have go2:∀t df g',(df=[]/\St t [(1,.int .u64 (xs:Int)),(3,.hptr 0 0 0 0),(5,.hptr 1 0 0 0),(7,.hptr 2 0 0 0)]/\g'.nx=3/\g'.h.get 0=.cells 2 [[pa,ch]] 0 false false/\g'.h.get 1=.cells 1 [[.int .u64 (zs:Int)]] 0 false false/\g'.h.get 2=.cells 1 [[.int .u64 (S.up p zs p.length:Int)]] 0 false false) ->
   wp C0 (d+1) none bb (fnQ C0 (d+1) [SR.tm 6] fun v _=>v=AV.int IntKind.u64 ↑(S.aL p xs zs)) t df g':=by
  rintro t df g' ⟨rfl,a1,a2,a3,a4,a5⟩
  exact go t g' a1 a2 a3 a4 a5
 refine bD (m:=p.length) (by omega) (fun j t df g'=>df=[]/\St t [(1,.int .u64 (xs:Int)),(3,.hptr 0 0 0 0),(5,.hptr 1 0 0 0),(7,.hptr 2 0 0 0)]/\g'.nx=3/\g'.h.get 0=.cells 2 [[pa,ch]] 0 false false/\g'.h.get 1=.cells 1 [[.int .u64 (zs:Int)]] 0 false false/\g'.h.get 2=.cells 1 [[.int .u64 (S.up p zs j:Int)]] 0 false false)
  ⟨rfl,by simp[St,sx],by simp[sx],by simp[sx,H.get_put],by simp[sx,H.get_put],by simp[sx,H.get_put];rfl⟩ (by simp[sx]) (by simp[sx]) (by decide) ?_ ?_ ?_
 ·rintro j t df g v s hs ⟨a1,⟨b1,b2,b3,b4,-⟩,a3⟩
  refine ⟨a1,?_,a3⟩
  rcases hs with rfl | rfl | rfl<;>simp[St,sx, *]
 ·rintro j t df g hj ⟨rfl,⟨h1,h3,h5,h7,-⟩,n3,g0,gz,ga⟩ h19 h18
  have hup:=p_ hp hzs j
  simp only[sz,simprocAttr,h3,g0,lg1,lp]
  simp only[di,dk]
  refine bD (m:=p.length) (by omega) (fun i t df g'=>df=[]/\St t [(1,.int .u64 (xs:Int)),(3,.hptr 0 0 0 0),(5,.hptr 1 0 0 0),(7,.hptr 2 0 0 0),(18,.int .i64 (p.length:Int)),(19,.int .i64 (j:Int)),(23,pa)]/\g'.nx=3/\g'.h.get 0=.cells 2 [[pa,ch]] 0 false false/\g'.h.get 1=.cells 1 [[.int .u64 (zs:Int)]] 0 false false/\g'.h.get 2=.cells 1 [[.int .u64 (S.az p (S.up p zs j) i:Int)]] 0 false false)
   ⟨rfl,by simp[St,sx,h1,h3,h5,h7,h18,h19],n3,g0,gz,by rw[ga];rfl⟩ (by simp[sx]) (by simp[sx]) (by decide) ?_ ?_ ?_
  ·rintro j t df g v s hs ⟨a1,⟨b1,b2,b3,b4,b5,b6,b7,-⟩,a3⟩
   refine ⟨a1,?_,a3⟩
   rcases hs with rfl | rfl | rfl<;>simp[St,sx, *]
  ·rintro i t df g hi ⟨rfl,⟨h1,h3,h5,h7,h18,h19,h23,-⟩,n3,g0,gz,ga⟩ h25 h24
   have hr:=l_ hp hup i
   obtain ⟨x,hx,-,hxm⟩:=cZ hi
   have u1:i<(p.map cu).length:=by simpa using hi
   have u2:(p.map cu)[i]?=some (cu x):=by rw[List.getElem?_map,hx];rfl
   have hxl:=hlt x hxm
   have hrl:S.az p (S.up p zs j) i<18446744073709551616:=by omega
   have us:=eW p (S.up p zs j) i
   rw[lF,hx,Option.getD_some] at us
   simp only[sz,simprocAttr,h7,h23,h25,rp,u1,u2,cu,ga,aH _ _ _ hrl,j9 hrl,xU]
   cases hb:(S.az p (S.up p zs j) i).testBit i with
   | true =>
    rw[hb,if_pos rfl] at us
    simp only[sz,simprocAttr,h7,ga,gw _ _ hrl hxl]
    exact ⟨⟨by simp[St,sx,h1,h3,h5,h7,h18,h19,h23],by simp[n3],by simp[H.get_put,g0],by simp[H.get_put,gz],by simp[H.get_put];rw[us]⟩,h25,h24⟩
   | false =>
    rw[hb,if_neg (by decide)] at us
    simp only[sz,simprocAttr]
    exact ⟨⟨by simp[St,sx,h1,h3,h5,h7,h18,h19,h23],n3,g0,gz,by rw[us];exact ga⟩,h25,h24⟩
  ·rintro t df g ⟨rfl,⟨h1,h3,h5,h7,h18,h19,h23,-⟩,n3,g0,gz,ga⟩
   simp only[sz,simprocAttr]
   have ga2:=ga
   rw[<-gW] at ga2
   exact ⟨⟨⟨h1,h3,h5,h7,trivial⟩,n3,g0,gz,ga2⟩,h19,h18⟩
 ·intro t df g h
  simp only[sz,simprocAttr]
  exact go2 t df g h
end
end Hx
end
