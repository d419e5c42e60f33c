/- The statement ExplainSound: the law returns true at every input; the input reads as it did. No condition. -/
import Derived.WalkKit
import Derived.ProofKit
import Derived.OpenShut
import Derived.Carry
import Derived.Test.YteaikmdilmfbeaaGreatHx10
set_option linter.all false
namespace Go.Proofs.YteaikmdilmfbeaaGreat.explainSound
open Go.ChangeShapes Go.WideShapes Go.ChangeAt Go.RowKit Hx
set_option maxRecDepth 100000
theorem own:ownKnob Tryz.prog.godebug=none:=by kernel_rfl
theorem laidOut:laidOutB Tryz.prog=true:=by kernel_rfl
theorem in_struct {H:Type}{enc:TypeId×Value→H}{P:Program}{w:World}{n:Nat}{t:TypeId}{fs:Array Field}{v:Value}{d:DataW H}{p:List MemPlace}{r:Reach}{b:Nat}(hu:P.underlying t=some (.struct fs))(hp:Hx.tp P n t=true)
  (ho:Value.okWide P w r b t v) (h:DataW.Trod enc P w 0 (fun _=>true) true t v d p):∃xs,RV0 w (.agg xs) v∧Sh P n t xs:=by
 obtain ⟨cs,rfl,-⟩:=okWide_struct hu ho
 obtain ⟨fuel,hf⟩:=h
 obtain ⟨xs,hr,h1,hs⟩:=Hx.Cy n t hp fuel _ _ hf
 refine ⟨xs,RV.agg _ xs cs (by rw[hr.1];simp[Value.cells]) (fun i x hx=>(h1 x (List.mem_of_getElem? hx)).1) (fun i x v hx hv=>hr.2 i x v hx (by simpa [Value.cells] using hv)),hs⟩
theorem sh_piece {n:Nat}{xs:List AV}(h:Sh Tryz.prog (n+2) 104 xs):∃x:Hx.Az,Rp.rp NoP 0 .nil x xs:=by
 obtain ⟨xss,rfl,ha⟩:=Hx.oR (n:=n+1) (P:=Tryz.prog) Tryz.underlying104 h
 match xss,ha with
 | [y1,y2,y3],⟨h1,h2,h3,_⟩ =>
  obtain ⟨x1,h1⟩:=Hx.ji Tryz.underlying5 h1
  obtain ⟨x2,h2⟩:=Hx.ji Tryz.underlying5 h2
  obtain ⟨x3,h3⟩:=Hx.um (α:=UInt8) Tryz.underlying23 (by kernel_rfl) (fun ys hy=>Hx.ji Tryz.underlying5 hy) h3
  exact ⟨(x1,x2,x3),_,_,by simp,h1,_,_,rfl,h2,h3⟩
theorem sh_draft {n:Nat}{xs:List AV}(h:Sh Tryz.prog (n+4) 25 xs):∃x:Hx.uD,Rp.rp NoP 0 .nil x xs:=by
 obtain ⟨xss,rfl,ha⟩:=Hx.oR (n:=n+3) (P:=Tryz.prog) Tryz.underlying25 h
 match xss,ha with
 | [y1,y2,y3],⟨h1,h2,h3,_⟩ =>
  obtain ⟨x1,h1⟩:=Hx.ji Tryz.underlying5 h1
  obtain ⟨x2,h2⟩:=Hx.um (α:=Hx.Az) Tryz.underlying22 (by kernel_rfl) (fun ys hy=>sh_piece hy) h2
  obtain ⟨x3,h3⟩:=Hx.um (α:=UInt8) Tryz.underlying23 (by kernel_rfl) (fun ys hy=>Hx.ji Tryz.underlying5 hy) h3
  exact ⟨(x1,x2,x3),_,_,by simp,h1,_,_,rfl,h2,h3⟩
theorem sh_bend19 {n:Nat}{xs:List AV}(h:Sh Tryz.prog (n+1) 61 xs):∃x:Hx.vD,Rp.rp NoP 0 .nil x xs:=by
 obtain ⟨xss,rfl,ha⟩:=Hx.oR (n:=n) (P:=Tryz.prog) Tryz.underlying61 h
 match xss,ha with
 | [y1,y2,y3,y4],⟨h1,h2,h3,h4,_⟩ =>
  obtain ⟨x1,h1⟩:=Hx.ji Tryz.underlying5 h1
  obtain ⟨x2,h2⟩:=Hx.ji Tryz.underlying5 h2
  obtain ⟨x3,h3⟩:=Hx.ji Tryz.underlying5 h3
  obtain ⟨x4,h4⟩:=Hx.Kv Tryz.underlying3 h4
  exact ⟨(x1,x2,x3,x4),_,_,by simp,h1,_,_,rfl,h2,_,_,rfl,h3,h4⟩
theorem sh_known {n:Nat}{xs:List AV}(h:Sh Tryz.prog (n+2) 30 xs):∃vs:List UInt8,vs.length=9∧xs=vs.map u8v:=by
 obtain ⟨xss,rfl,ha⟩:=Hx.oR (n:=n+1) (P:=Tryz.prog) Tryz.underlying30 h
 match xss,ha with
 | [y0,y1],⟨h0,h1,_⟩ =>
  obtain ⟨x0,h0⟩:=Hx.ji Tryz.underlying5 h0
  obtain ⟨yss,rfl,hl,hy⟩:=Hx.Ku Tryz.underlying28 h1
  match yss,hl with
  | [z1,z2,z3,z4,z5,z6,z7,z8],_ =>
   obtain ⟨x1,h1⟩:=Hx.ji Tryz.underlying5 (hy z1 (by simp))
   obtain ⟨x2,h2⟩:=Hx.ji Tryz.underlying5 (hy z2 (by simp))
   obtain ⟨x3,h3⟩:=Hx.ji Tryz.underlying5 (hy z3 (by simp))
   obtain ⟨x4,h4⟩:=Hx.ji Tryz.underlying5 (hy z4 (by simp))
   obtain ⟨x5,h5⟩:=Hx.ji Tryz.underlying5 (hy z5 (by simp))
   obtain ⟨x6,h6⟩:=Hx.ji Tryz.underlying5 (hy z6 (by simp))
   obtain ⟨x7,h7⟩:=Hx.ji Tryz.underlying5 (hy z7 (by simp))
   obtain ⟨x8,h8⟩:=Hx.ji Tryz.underlying5 (hy z8 (by simp))
   rw[Hx.di.1 h0,Hx.di.1 h1,Hx.di.1 h2,Hx.di.1 h3,Hx.di.1 h4,Hx.di.1 h5,Hx.di.1 h6,Hx.di.1 h7,Hx.di.1 h8]
   exact ⟨[x0,x1,x2,x3,x4,x5,x6,x7,x8],rfl,rfl⟩
theorem sh_ints {n:Nat}{xs:List AV}(h:Sh Tryz.prog (n+2) 31 xs):∃(x:AV) (l:List Int),xs=[x]∧SlR NoP 0 .nil l x∧Raw x:=by
 have hraw:∃x,xs=[x]∧Raw x:=by
  have hs:=h
  unfold Sh at hs
  rw[Tryz.underlying31] at hs
  rcases hs with rfl | ⟨rows,rfl,-,-⟩
  ·exact ⟨_,rfl,.inl rfl⟩
  ·exact ⟨_,rfl,.inr ⟨rows,rfl⟩⟩
 obtain ⟨x,rfl,hx⟩:=hraw
 obtain ⟨l,hl⟩:=Hx.um (α:=Int) Tryz.underlying31 (by kernel_rfl) (fun ys hy=>Hx.Kv Tryz.underlying3 hy) h
 obtain ⟨_,e,hl⟩:=Hx.ch.1 hl
 injection e with e;subst e
 exact ⟨x,l,rfl,hl,hx⟩
theorem sh_ask {n:Nat}{xs:List AV}(h:Sh Tryz.prog (n+3) 33 xs):∃(vs:List UInt8) (s:UInt8) (E O:List Int) (ew ow:AV),vs.length=9∧SlR NoP 0 .nil E ew∧Raw ew∧SlR NoP 0 .nil O ow∧Raw ow∧xs=vs.map u8v++[u8v s,ew,ow]:=by
 obtain ⟨xss,rfl,ha⟩:=Hx.oR (n:=n+2) (P:=Tryz.prog) Tryz.underlying33 h
 match xss,ha with
 | [y0,y1,y2,y3],⟨h0,h1,h2,h3,_⟩ =>
  obtain ⟨vs,hv,rfl⟩:=sh_known h0
  obtain ⟨x1,h1⟩:=Hx.ji Tryz.underlying5 h1
  obtain ⟨ew,E,rfl,hE,hEr⟩:=sh_ints h2
  obtain ⟨ow,O,rfl,hO,hOr⟩:=sh_ints h3
  rw[Hx.di.1 h1]
  exact ⟨vs,x1,E,O,ew,ow,hv,hE,hEr,hO,hOr,by simp[u8v]⟩
theorem in_u8s {H:Type}{enc:TypeId×Value→H}{w:World}{v:Value}{d:DataW H}{p:List MemPlace}{r:Reach}{b:Nat}(ho:Value.okWide Tryz.prog w r b 23 v)(h:DataW.Trod enc Tryz.prog w 0 (fun _=>true) true 23 v d p) :
  ∃(x:AV) (raw:List UInt8),RV0 w x v∧SlR NoP 0 .nil raw x:=by
 obtain ⟨a,len,cap,rfl⟩:=okWide_slice Tryz.underlying23 ho
 obtain ⟨fuel,hf⟩:=h
 obtain ⟨xs,hr,h1,hs⟩:=Hx.Cy 2 23 (by kernel_rfl) fuel _ _ hf
 obtain ⟨l,hl⟩:=Hx.um (α:=UInt8) Tryz.underlying23 (by kernel_rfl) (fun ys hy=>Hx.ji Tryz.underlying5 hy) hs
 obtain ⟨x,e,hl2⟩:=Hx.ch.1 hl
 subst e
 exact ⟨x,l,hr.2 0 x _ rfl rfl,hl2⟩
theorem callR:type_of% (@Hx.mD iR Hx.Ki):=@Hx.mD iR Hx.Ki
theorem walk {w:World}{v1 v2 v3 v4 v5:Value}{a1 a2 a4:List AV}{a3 a5:AV}{l3 l5:List UInt8}(r1:RV0 w (.agg a1) v1)(s1:Sh Tryz.prog 8 25 a1)(r2:RV0 w (.agg a2) v2)(s2:Sh Tryz.prog 8 33 a2)(r3:RV0 w a3 v3)(s3:SlR NoP 0 .nil l3 a3)(r4:RV0 w (.agg a4) v4)(s4:Sh Tryz.prog 8 61 a4)(r5:RV0 w a5 v5)(s5:SlR NoP 0 .nil l5 a5) :
  Calls Tryz.prog 7 #[v1,v2,v3,v4,v5] w fun e w'=>e=.returned (.bool true)∧Below w.heap.size w w':=by
 obtain ⟨x1,h1⟩:=sh_draft (n:=4) s1
 obtain ⟨vs2,c2,e2,o2,ew2,ow2,h2,f2,fr2,j2,jr2,rfl⟩:=sh_ask (n:=5) s2
 obtain ⟨x4,h4⟩:=sh_bend19 (n:=7) s4
 obtain ⟨g',h⟩:=callR ⟨_,rfl,h1⟩ (s:=c2) h2 f2 fr2 j2 jr2 s3 ⟨_,rfl,h4⟩ s5
 obtain ⟨n,h⟩:=Hx.Ij h
 refine Hx.Er (vs:=[v1,v2,v3,v4,v5]) Hx.Nd h ⟨rfl,fun i x v hx hv=>?_⟩ (fun gl sz rows h=>by cases h)
 match i,hx,hv with
 | 0,hx,hv=>injection hx with hx;injection hv with hv;subst hx;subst hv;exact r1
 | 1,hx,hv=>injection hx with hx;injection hv with hv;subst hx;subst hv;exact r2
 | 2,hx,hv=>injection hx with hx;injection hv with hv;subst hx;subst hv;exact r3
 | 3,hx,hv=>injection hx with hx;injection hv with hv;subst hx;subst hv;exact r4
 | 4,hx,hv=>injection hx with hx;injection hv with hv;subst hx;subst hv;exact r5
 | i+5,hx,hv=>simp at hx
theorem lifted (os:Os)(started:os.Started)(H:Type)(enc:TypeId×Value→H) :
  ReturnsInHanded {} Tryz.checked os 7 .any (Rows.explainSoundSpec.pre6 enc Tryz.prog Tryz.f7 Rows.explainSoundRow.domain false) (Rows.explainSoundSpec.post enc Tryz.prog Tryz.f7 false true false false):=by
 refine returnsInHanded_of_change (C:=Tryz.checked) own started (by kernel_rfl) Tryz.func7
  (ChangeSpec.witness6 (enc:=enc) (C:=Tryz.checked) false ⟨#[],#[.agg #[.int .u8 0,.slice none 0 0,.slice none 0 0],.agg #[.int .u8 0,.int .u8 0,.int .u8 0,.int .u8 0,.int .u8 0,.int .u8 0,.int .u8 0,.int .u8 0,.int .u8 0,.int .u8 0,.slice none 0 0,.slice none 0 0],.slice none 0 0,.agg #[.int .u8 0,.int .u8 0,.int .u8 0,.int .i64 0],.slice none 0 0],[]⟩ 8 (by kernel_rfl) (by kernel_rfl) (by kernel_rfl) (by kernel_rfl)) ?_
 intro W base args ds gs before hval0 hW hcnd _
 have hval:∀(j:Nat) t v,Tryz.f7.params[j]?=some t→args[j]?=some v→Value.okWide Tryz.prog W .any base t v:=hval0
 have hW':=hW
 obtain ⟨p,q,hA0,hV,rfl,hfz,hnd⟩:=hW
 have hA:DataW.TrodAll enc Tryz.prog W 0 (fun _=>true) true Tryz.f7.params.toList args.toList ds p:=hA0
 rw[Tryz.params7] at hA hval
 obtain ⟨v1,vs1,d1,ds1,p1,q1,e1,rfl,rfl,t1,hA⟩:=trodAll_cons hA
 obtain ⟨v2,vs2,d2,ds2,p2,q2,rfl,rfl,rfl,t2,hA⟩:=trodAll_cons hA
 obtain ⟨v3,vs3,d3,ds3,p3,q3,rfl,rfl,rfl,t3,hA⟩:=trodAll_cons hA
 obtain ⟨v4,vs4,d4,ds4,p4,q4,rfl,rfl,rfl,t4,hA⟩:=trodAll_cons hA
 obtain ⟨v5,vs5,d5,ds5,p5,q5,rfl,rfl,rfl,t5,hA⟩:=trodAll_cons hA
 obtain ⟨rfl,rfl,rfl⟩:=trodAll_nil hA
 obtain ⟨rfl,rfl⟩:=trodVars_none hV
 have e1:args=#[v1,v2,v3,v4,v5]:=by cases args;simp_all
 subst e1
 clear hA0 hval0
 simp only[List.append_nil] at hW'
 have hlt:∀x∈p1++(p2++(p3++(p4++p5))),x.block<W.heap.size:=fun x hx=>by simpa using hW'.lt x hx
 obtain ⟨a1,r1,s1⟩:=in_struct (n:=8) Tryz.underlying25 (by kernel_rfl) (hval 0 25 v1 rfl rfl) t1
 obtain ⟨a2,r2,s2⟩:=in_struct (n:=8) Tryz.underlying33 (by kernel_rfl) (hval 1 33 v2 rfl rfl) t2
 obtain ⟨a3,l3,r3,s3⟩:=in_u8s (hval 2 23 v3 rfl rfl) t3
 obtain ⟨a4,r4,s4⟩:=in_struct (n:=8) Tryz.underlying61 (by kernel_rfl) (hval 3 61 v4 rfl rfl) t4
 obtain ⟨a5,l5,r5,s5⟩:=in_u8s (hval 4 23 v5 rfl rfl) t5
 refine (walk r1 s1 r2 s2 r3 s3 r4 s4 r5 s5).mono fun e W' ⟨he,hg⟩=>?_
 subst he
 have b1:=Below.trod laidOut (by kernel_rfl) (of_decide_eq_true (by kernel_rfl)) t1 hg (fun x hx=>hlt x (by simp[hx]))
 have b2:=Below.trod laidOut (by kernel_rfl) (of_decide_eq_true (by kernel_rfl)) t2 hg (fun x hx=>hlt x (by simp[hx]))
 have b3:=Below.trod laidOut (by kernel_rfl) (of_decide_eq_true (by kernel_rfl)) t3 hg (fun x hx=>hlt x (by simp[hx]))
 have b4:=Below.trod laidOut (by kernel_rfl) (of_decide_eq_true (by kernel_rfl)) t4 hg (fun x hx=>hlt x (by simp[hx]))
 have b5:=Below.trod laidOut (by kernel_rfl) (of_decide_eq_true (by kernel_rfl)) t5 hg (fun x hx=>hlt x (by simp[hx]))
 refine ⟨_,rfl,[d1,d2,d3,d4,d5],[],p1++(p2++(p3++(p4++p5))),[],p1++(p2++(p3++(p4++p5))),[],hW',trodAll_cons_mk (shut_bool Tryz.underlying4 _) trodAll_mk0,?_,rfl,hg.frame _,fun h=>by cases h⟩
 exact trodAll_cons_mk b1 (trodAll_cons_mk b2 (trodAll_cons_mk b3 (trodAll_cons_mk b4 (trodAll_mk1 b5))))
theorem over:Rows.explainSoundRow.holds Tryz.pinned (OpenSpec.ofChange Rows.explainSoundSpec) :=
 OpenClaim.holds_of_wide 7 Tryz.f7 rfl rfl rfl rfl rfl rfl rfl ⟨rfl,rfl,rfl,rfl,rfl⟩ rfl rfl rfl rfl rfl (by kernel_rfl) Tryz.func7 (by kernel_rfl)
  (of_decide_eq_true (by kernel_rfl)) (by unfold Func.isWrapper;first | (rw[if_pos (by decide +kernel)];kernel_rfl) | (rw[if_neg (by decide +kernel)];exact ⟨rfl,rfl⟩))
  (fun os started H enc _=>lifted os started H enc)
/-- ████ THE STATEMENT ████ -/
theorem proved:Rows.ExplainSoundSaid :=
 over
#print axioms proved
end Go.Proofs.YteaikmdilmfbeaaGreat.explainSound
