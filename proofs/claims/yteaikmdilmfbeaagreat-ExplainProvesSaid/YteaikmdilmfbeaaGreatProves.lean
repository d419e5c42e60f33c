/- The statement ExplainProves: the law returns true at every input; the input reads as it did. No condition. -/
import Derived.WalkKit
import Derived.ProofKit
import Derived.OpenShut
import Derived.Carry
import Derived.Test.YteaikmdilmfbeaaGreatHx12
set_option linter.all false
namespace Go.Proofs.YteaikmdilmfbeaaGreat.explainProves
open Go.ChangeShapes Go.WideShapes Go.ChangeAt Go.RowKit Hx
set_option maxRecDepth 100000
theorem own:ownKnob Tryz.prog.godebug=none:=by kernel_rfl
theorem laidOut:laidOutB Tryz.prog=true:=by kernel_rfl
theorem in_struct {H:Type}{enc:TypeId×Value→H}{P:Program}{w:World}{n:Nat}{t:TypeId}{fs:Array Field}{v:Value}{d:DataW H}{p:List MemPlace}{r:Reach}{b:Nat}(hu:P.underlying t=some (.struct fs))(hp:Hx.wS P n t=true)
  (ho:Value.okWide P w r b t v) (h:DataW.Trod enc P w 0 (fun _=>true) true t v d p):∃xs,QC w (.agg xs) v∧Sh P n t xs:=by
 obtain ⟨cs,rfl,-⟩:=okWide_struct hu ho
 obtain ⟨fuel,hf⟩:=h
 obtain ⟨xs,hr,h1,hs⟩:=Hx.wM n t hp fuel _ _ hf
 refine ⟨xs,RV.agg _ xs cs (by rw[hr.1];simp[Value.cells]) (fun i x hx=>(h1 x (List.mem_of_getElem? hx)).1) (fun i x v hx hv=>hr.2 i x v hx (by simpa [Value.cells] using hv)),hs⟩
theorem sh_piece {n:Nat}{xs:List AV}(h:Sh Tryz.prog (n+2) 104 xs):∃x:Hx.Gt,Rp.rp Xt 0 .nil x xs:=by
 obtain ⟨xss,rfl,ha⟩:=Hx.nM (n:=n+1) (P:=Tryz.prog) Tryz.underlying104 h
 match xss,ha with
 | [y1,y2,y3],⟨h1,h2,h3,_⟩ =>
  obtain ⟨x1,h1⟩:=Hx.hZ Tryz.underlying5 h1
  obtain ⟨x2,h2⟩:=Hx.hZ Tryz.underlying5 h2
  obtain ⟨x3,h3⟩:=Hx.qu (α:=UInt8) Tryz.underlying23 (by kernel_rfl) (fun ys hy=>Hx.hZ Tryz.underlying5 hy) h3
  exact ⟨(x1,x2,x3),_,_,by simp,h1,_,_,rfl,h2,h3⟩
theorem sh_draft {n:Nat}{xs:List AV}(h:Sh Tryz.prog (n+4) 25 xs):∃x:Hx.yg,Rp.rp Xt 0 .nil x xs:=by
 obtain ⟨xss,rfl,ha⟩:=Hx.nM (n:=n+3) (P:=Tryz.prog) Tryz.underlying25 h
 match xss,ha with
 | [y1,y2,y3],⟨h1,h2,h3,_⟩ =>
  obtain ⟨x1,h1⟩:=Hx.hZ Tryz.underlying5 h1
  obtain ⟨x2,h2⟩:=Hx.qu (α:=Hx.Gt) Tryz.underlying22 (by kernel_rfl) (fun ys hy=>sh_piece hy) h2
  obtain ⟨x3,h3⟩:=Hx.qu (α:=UInt8) Tryz.underlying23 (by kernel_rfl) (fun ys hy=>Hx.hZ Tryz.underlying5 hy) h3
  exact ⟨(x1,x2,x3),_,_,by simp,h1,_,_,rfl,h2,h3⟩
theorem sh_bend {n:Nat}{xs:List AV}(h:Sh Tryz.prog (n+1) 27 xs):∃x:Hx.gF,Rp.rp Xt 0 .nil x xs:=by
 obtain ⟨xss,rfl,ha⟩:=Hx.nM (n:=n) (P:=Tryz.prog) Tryz.underlying27 h
 match xss,ha with
 | [y1,y2,y3,y4],⟨h1,h2,h3,h4,_⟩ =>
  obtain ⟨x1,h1⟩:=Hx.hZ Tryz.underlying5 h1
  obtain ⟨x2,h2⟩:=Hx.hZ Tryz.underlying5 h2
  obtain ⟨x3,h3⟩:=Hx.hZ Tryz.underlying5 h3
  obtain ⟨x4,h4⟩:=Hx.Ev Tryz.underlying3 h4
  exact ⟨(x1,x2,x3,x4),_,_,by simp,h1,_,_,rfl,h2,_,_,rfl,h3,h4⟩
theorem sh_bend19 {n:Nat}{xs:List AV}(h:Sh Tryz.prog (n+1) 61 xs):∃x:Hx.gF,Rp.rp Xt 0 .nil x xs:=by
 obtain ⟨xss,rfl,ha⟩:=Hx.nM (n:=n) (P:=Tryz.prog) Tryz.underlying61 h
 match xss,ha with
 | [y1,y2,y3,y4],⟨h1,h2,h3,h4,_⟩ =>
  obtain ⟨x1,h1⟩:=Hx.hZ Tryz.underlying5 h1
  obtain ⟨x2,h2⟩:=Hx.hZ Tryz.underlying5 h2
  obtain ⟨x3,h3⟩:=Hx.hZ Tryz.underlying5 h3
  obtain ⟨x4,h4⟩:=Hx.Ev Tryz.underlying3 h4
  exact ⟨(x1,x2,x3,x4),_,_,by simp,h1,_,_,rfl,h2,_,_,rfl,h3,h4⟩
theorem sh_bend2 {n:Nat}{xs:List AV}(h:Sh Tryz.prog (n+2) 62 xs):∃x y:Hx.gF,xs=Hx.ec x y:=by
 obtain ⟨yss,rfl,hl,hy⟩:=Hx.Jt Tryz.underlying62 h
 match yss,hl with
 | [z1,z2],_ =>
  obtain ⟨x,h1⟩:=sh_bend19 (hy z1 (by simp))
  obtain ⟨y,h2⟩:=sh_bend19 (hy z2 (by simp))
  rw[Hx.mG.1 h1,Hx.mG.1 h2]
  exact ⟨x,y,rfl⟩
theorem in_intss {H:Type}{enc:TypeId×Value→H}{w:World}{v:Value}{d:DataW H}{p:List MemPlace}{r:Reach}{b:Nat}(ho:Value.okWide Tryz.prog w r b 51 v)(h:DataW.Trod enc Tryz.prog w 0 (fun _=>true) true 51 v d p) :
  ∃(x:AV) (raw:List (List Int)),QC w x v∧Xu Xt 0 .nil raw x∧Raw x:=by
 obtain ⟨a,len,cap,rfl⟩:=okWide_slice Tryz.underlying51 ho
 obtain ⟨fuel,hf⟩:=h
 obtain ⟨xs,hr,h1,hs⟩:=Hx.wM 3 51 (by kernel_rfl) fuel _ _ hf
 have hraw:∃x,xs=[x]∧Raw x:=by
  have hs:=hs
  unfold Sh at hs
  rw[Tryz.underlying51] at hs
  rcases hs with rfl | ⟨rows,rfl,-,-⟩
  ·exact ⟨_,rfl,.inl rfl⟩
  ·exact ⟨_,rfl,.inr ⟨rows,rfl⟩⟩
 obtain ⟨x,rfl,hx⟩:=hraw
 obtain ⟨l,hl⟩:=Hx.qu (α:=List Int) Tryz.underlying51 (by kernel_rfl) (fun ys hy=>Hx.qu (α:=Int) Tryz.underlying31 (by kernel_rfl) (fun ys hy=>Hx.Ev Tryz.underlying3 hy) hy) hs
 obtain ⟨_,e,hl⟩:=Hx.bo.1 hl
 injection e with e;subst e
 exact ⟨x,l,hr.2 0 x _ rfl rfl,hl,hx⟩
theorem sh_known {n:Nat}{xs:List AV}(h:Sh Tryz.prog (n+2) 30 xs):∃vs:List UInt8,vs.length=9∧xs=vs.map Xc:=by
 obtain ⟨xss,rfl,ha⟩:=Hx.nM (n:=n+1) (P:=Tryz.prog) Tryz.underlying30 h
 match xss,ha with
 | [y0,y1],⟨h0,h1,_⟩ =>
  obtain ⟨x0,h0⟩:=Hx.hZ Tryz.underlying5 h0
  obtain ⟨yss,rfl,hl,hy⟩:=Hx.Jt Tryz.underlying28 h1
  match yss,hl with
  | [z1,z2,z3,z4,z5,z6,z7,z8],_ =>
   obtain ⟨x1,h1⟩:=Hx.hZ Tryz.underlying5 (hy z1 (by simp))
   obtain ⟨x2,h2⟩:=Hx.hZ Tryz.underlying5 (hy z2 (by simp))
   obtain ⟨x3,h3⟩:=Hx.hZ Tryz.underlying5 (hy z3 (by simp))
   obtain ⟨x4,h4⟩:=Hx.hZ Tryz.underlying5 (hy z4 (by simp))
   obtain ⟨x5,h5⟩:=Hx.hZ Tryz.underlying5 (hy z5 (by simp))
   obtain ⟨x6,h6⟩:=Hx.hZ Tryz.underlying5 (hy z6 (by simp))
   obtain ⟨x7,h7⟩:=Hx.hZ Tryz.underlying5 (hy z7 (by simp))
   obtain ⟨x8,h8⟩:=Hx.hZ Tryz.underlying5 (hy z8 (by simp))
   rw[Hx.ea.1 h0,Hx.ea.1 h1,Hx.ea.1 h2,Hx.ea.1 h3,Hx.ea.1 h4,Hx.ea.1 h5,Hx.ea.1 h6,Hx.ea.1 h7,Hx.ea.1 h8]
   exact ⟨[x0,x1,x2,x3,x4,x5,x6,x7,x8],rfl,rfl⟩
theorem in_ints {H:Type}{enc:TypeId×Value→H}{w:World}{v:Value}{d:DataW H}{p:List MemPlace}{r:Reach}{b:Nat}(ho:Value.okWide Tryz.prog w r b 31 v)(h:DataW.Trod enc Tryz.prog w 0 (fun _=>true) true 31 v d p) :
  ∃(x:AV) (raw:List Int),QC w x v∧Xu Xt 0 .nil raw x∧Raw x:=by
 obtain ⟨a,len,cap,rfl⟩:=okWide_slice Tryz.underlying31 ho
 obtain ⟨fuel,hf⟩:=h
 obtain ⟨xs,hr,h1,hs⟩:=Hx.wM 2 31 (by kernel_rfl) fuel _ _ hf
 have hraw:∃x,xs=[x]∧Raw x:=by
  have hs:=hs
  unfold Sh at hs
  rw[Tryz.underlying31] at hs
  rcases hs with rfl | ⟨rows,rfl,-,-⟩
  ·exact ⟨_,rfl,.inl rfl⟩
  ·exact ⟨_,rfl,.inr ⟨rows,rfl⟩⟩
 obtain ⟨x,rfl,hx⟩:=hraw
 obtain ⟨l,hl⟩:=Hx.qu (α:=Int) Tryz.underlying31 (by kernel_rfl) (fun ys hy=>Hx.Ev Tryz.underlying3 hy) hs
 obtain ⟨_,e,hl⟩:=Hx.bo.1 hl
 injection e with e;subst e
 exact ⟨x,l,hr.2 0 x _ rfl rfl,hl,hx⟩
theorem sh_ints {n:Nat}{xs:List AV}(h:Sh Tryz.prog (n+2) 31 xs):∃(x:AV) (l:List Int),xs=[x]∧Xu Xt 0 .nil l x∧Raw x:=by
 have hraw:∃x,xs=[x]∧Raw x:=by
  have hs:=h
  unfold Sh at hs
  rw[Tryz.underlying31] at hs
  rcases hs with rfl | ⟨rows,rfl,-,-⟩
  ·exact ⟨_,rfl,.inl rfl⟩
  ·exact ⟨_,rfl,.inr ⟨rows,rfl⟩⟩
 obtain ⟨x,rfl,hx⟩:=hraw
 obtain ⟨l,hl⟩:=Hx.qu (α:=Int) Tryz.underlying31 (by kernel_rfl) (fun ys hy=>Hx.Ev Tryz.underlying3 hy) h
 obtain ⟨_,e,hl⟩:=Hx.bo.1 hl
 injection e with e;subst e
 exact ⟨x,l,rfl,hl,hx⟩
theorem sh_ask {n:Nat}{xs:List AV}(h:Sh Tryz.prog (n+3) 33 xs):∃(vs:List UInt8) (s:UInt8) (E O:List Int) (ew ow:AV),vs.length=9∧Xu Xt 0 .nil E ew∧Raw ew∧Xu Xt 0 .nil O ow∧Raw ow∧xs=vs.map Xc++[Xc s,ew,ow]:=by
 obtain ⟨xss,rfl,ha⟩:=Hx.nM (n:=n+2) (P:=Tryz.prog) Tryz.underlying33 h
 match xss,ha with
 | [y0,y1,y2,y3],⟨h0,h1,h2,h3,_⟩ =>
  obtain ⟨vs,hv,rfl⟩:=sh_known h0
  obtain ⟨x1,h1⟩:=Hx.hZ Tryz.underlying5 h1
  obtain ⟨ew,E,rfl,hE,hEr⟩:=sh_ints h2
  obtain ⟨ow,O,rfl,hO,hOr⟩:=sh_ints h3
  rw[Hx.ea.1 h1]
  exact ⟨vs,x1,E,O,ew,ow,hv,hE,hEr,hO,hOr,by simp[Xc]⟩
theorem in_u8s {H:Type}{enc:TypeId×Value→H}{w:World}{v:Value}{d:DataW H}{p:List MemPlace}{r:Reach}{b:Nat}(ho:Value.okWide Tryz.prog w r b 23 v)(h:DataW.Trod enc Tryz.prog w 0 (fun _=>true) true 23 v d p) :
  ∃(x:AV) (raw:List UInt8),QC w x v∧Xu Xt 0 .nil raw x:=by
 obtain ⟨a,len,cap,rfl⟩:=okWide_slice Tryz.underlying23 ho
 obtain ⟨fuel,hf⟩:=h
 obtain ⟨xs,hr,h1,hs⟩:=Hx.wM 2 23 (by kernel_rfl) fuel _ _ hf
 obtain ⟨l,hl⟩:=Hx.qu (α:=UInt8) Tryz.underlying23 (by kernel_rfl) (fun ys hy=>Hx.hZ Tryz.underlying5 hy) hs
 obtain ⟨x,e,hl2⟩:=Hx.bo.1 hl
 subst e
 exact ⟨x,l,hr.2 0 x _ rfl rfl,hl2⟩
theorem in_array {H:Type}{enc:TypeId×Value→H}{P:Program}{w:World}{n m:Nat}{t e:TypeId}{v:Value}{d:DataW H}{p:List MemPlace}{r:Reach}{b:Nat}(hu:P.underlying t=some (.array m e))(hp:Hx.wS P n t=true)
  (ho:Value.okWide P w r b t v) (h:DataW.Trod enc P w 0 (fun _=>true) true t v d p):∃xs,QC w (.agg xs) v∧Sh P n t xs:=by
 obtain ⟨cs,rfl,-⟩:∃cs,v=.agg cs∧cs.size=P.cellsOf t:=by
  simp only[Value.okWide,hu] at ho
  obtain ⟨cs,h1,h2,_⟩:=ho
  exact ⟨cs,h1,h2⟩
 obtain ⟨fuel,hf⟩:=h
 obtain ⟨xs,hr,h1,hs⟩:=Hx.wM n t hp fuel _ _ hf
 refine ⟨xs,RV.agg _ xs cs (by rw[hr.1];simp[Value.cells]) (fun i x hx=>(h1 x (List.mem_of_getElem? hx)).1) (fun i x v hx hv=>hr.2 i x v hx (by simpa [Value.cells] using hv)),hs⟩
theorem callR:type_of% (@Hx.nQ iR Hx.QM):=@Hx.nQ iR Hx.QM
theorem walk {w:World}{v1 v2 v3 v4 v5 v6 v7:Value}{a1 a2 a3 a5:List AV}{a6 a7:AV}{l6:List Int}{l7:List (List Int)}{a4:AV}{l4:List UInt8}(r1:QC w (.agg a1) v1)(s1:Sh Tryz.prog 8 25 a1)(r2:QC w (.agg a2) v2)(s2:Sh Tryz.prog 8 27 a2)(r3:QC w (.agg a3) v3)(s3:Sh Tryz.prog 8 33 a3)(r4:QC w a4 v4)(s4:Xu Xt 0 .nil l4 a4)(r5:QC w (.agg a5) v5)(s5:Sh Tryz.prog 8 62 a5)(r6:QC w a6 v6)(s6:Xu Xt 0 .nil l6 a6)(q6:Raw a6)(r7:QC w a7 v7)(s7:Xu Xt 0 .nil l7 a7)(q7:Raw a7) :
  Calls Tryz.prog 5 #[v1,v2,v3,v4,v5,v6,v7] w fun e w'=>e=.returned (.bool true)∧Below w.heap.size w w':=by
 obtain ⟨x1,h1⟩:=sh_draft (n:=4) s1
 obtain ⟨x2,h2⟩:=sh_bend (n:=7) s2
 obtain ⟨vs3,c3,e3,o3,ew3,ow3,h3,f3,fr3,j3,jr3,rfl⟩:=sh_ask (n:=5) s3
 obtain ⟨x5,y5,rfl⟩:=sh_bend2 (n:=6) s5
 obtain ⟨g',h⟩:=callR ⟨_,rfl,h1⟩ ⟨_,rfl,h2⟩ (s:=c3) h3 f3 fr3 j3 jr3 s4 (c0:=x5) (c1:=y5) s6 q6 s7 q7
 obtain ⟨n,h⟩:=Hx.Ot h
 refine Hx.Kk (vs:=[v1,v2,v3,v4,v5,v6,v7]) Hx.ba0 h ⟨rfl,fun i x v hx hv=>?_⟩ (fun gl sz rows h=>by cases h)
 match i,hx,hv with
 | 0,hx,hv=>injection hx with hx;injection hv with hv;subst hx;subst hv;exact r1
 | 1,hx,hv=>injection hx with hx;injection hv with hv;subst hx;subst hv;exact r2
 | 2,hx,hv=>injection hx with hx;injection hv with hv;subst hx;subst hv;exact r3
 | 3,hx,hv=>injection hx with hx;injection hv with hv;subst hx;subst hv;exact r4
 | 4,hx,hv=>injection hx with hx;injection hv with hv;subst hx;subst hv;exact r5
 | 5,hx,hv=>injection hx with hx;injection hv with hv;subst hx;subst hv;exact r6
 | 6,hx,hv=>injection hx with hx;injection hv with hv;subst hx;subst hv;exact r7
 | i+7,hx,hv=>simp at hx
theorem lifted (os:Os)(started:os.Started)(H:Type)(enc:TypeId×Value→H) :
  ReturnsInHanded {} Tryz.checked os 5 .any (Rows.explainProvesSpec.pre6 enc Tryz.prog Tryz.f5 Rows.explainProvesRow.domain false) (Rows.explainProvesSpec.post enc Tryz.prog Tryz.f5 false true false false):=by
 refine returnsInHanded_of_change (C:=Tryz.checked) own started (by kernel_rfl) Tryz.func5
  (ChangeSpec.witness6 (enc:=enc) (C:=Tryz.checked) false ⟨#[],#[.agg #[.int .u8 0,.slice none 0 0,.slice none 0 0],.agg #[.int .u8 0,.int .u8 0,.int .u8 0,.int .i64 0],.agg #[.int .u8 0,.int .u8 0,.int .u8 0,.int .u8 0,.int .u8 0,.int .u8 0,.int .u8 0,.int .u8 0,.int .u8 0,.int .u8 0,.slice none 0 0,.slice none 0 0],.slice none 0 0,.agg #[.int .u8 0,.int .u8 0,.int .u8 0,.int .i64 0,.int .u8 0,.int .u8 0,.int .u8 0,.int .i64 0],.slice none 0 0,.slice none 0 0],[]⟩ 8 (by kernel_rfl) (by kernel_rfl) (by kernel_rfl) (by kernel_rfl)) ?_
 intro W base args ds gs before hval0 hW hcnd _
 have hval:∀(j:Nat) t v,Tryz.f5.params[j]?=some t→args[j]?=some v→Value.okWide Tryz.prog W .any base t v:=hval0
 have hW':=hW
 obtain ⟨p,q,hA0,hV,rfl,hfz,hnd⟩:=hW
 have hA:DataW.TrodAll enc Tryz.prog W 0 (fun _=>true) true Tryz.f5.params.toList args.toList ds p:=hA0
 rw[Tryz.params5] at hA hval
 obtain ⟨v1,vs1,d1,ds1,p1,q1,e1,rfl,rfl,t1,hA⟩:=trodAll_cons hA
 obtain ⟨v2,vs2,d2,ds2,p2,q2,rfl,rfl,rfl,t2,hA⟩:=trodAll_cons hA
 obtain ⟨v3,vs3,d3,ds3,p3,q3,rfl,rfl,rfl,t3,hA⟩:=trodAll_cons hA
 obtain ⟨v4,vs4,d4,ds4,p4,q4,rfl,rfl,rfl,t4,hA⟩:=trodAll_cons hA
 obtain ⟨v5,vs5,d5,ds5,p5,q5,rfl,rfl,rfl,t5,hA⟩:=trodAll_cons hA
 obtain ⟨v6,vs6,d6,ds6,p6,q6,rfl,rfl,rfl,t6,hA⟩:=trodAll_cons hA
 obtain ⟨v7,vs7,d7,ds7,p7,q7,rfl,rfl,rfl,t7,hA⟩:=trodAll_cons hA
 obtain ⟨rfl,rfl,rfl⟩:=trodAll_nil hA
 obtain ⟨rfl,rfl⟩:=trodVars_none hV
 have e1:args=#[v1,v2,v3,v4,v5,v6,v7]:=by cases args;simp_all
 subst e1
 clear hA0 hval0
 simp only[List.append_nil] at hW'
 have hlt:∀x∈p1++(p2++(p3++(p4++(p5++(p6++p7))))),x.block<W.heap.size:=fun x hx=>by simpa using hW'.lt x hx
 obtain ⟨a1,r1,s1⟩:=in_struct (n:=8) Tryz.underlying25 (by kernel_rfl) (hval 0 25 v1 rfl rfl) t1
 obtain ⟨a2,r2,s2⟩:=in_struct (n:=8) Tryz.underlying27 (by kernel_rfl) (hval 1 27 v2 rfl rfl) t2
 obtain ⟨a3,r3,s3⟩:=in_struct (n:=8) Tryz.underlying33 (by kernel_rfl) (hval 2 33 v3 rfl rfl) t3
 obtain ⟨a4,l4,r4,s4⟩:=in_u8s (hval 3 23 v4 rfl rfl) t4
 obtain ⟨a5,r5,s5⟩:=in_array (n:=8) Tryz.underlying62 (by kernel_rfl) (hval 4 62 v5 rfl rfl) t5
 obtain ⟨a6,l6,r6,s6,k6⟩:=in_ints (hval 5 31 v6 rfl rfl) t6
 obtain ⟨a7,l7,r7,s7,k7⟩:=in_intss (hval 6 51 v7 rfl rfl) t7
 refine (walk r1 s1 r2 s2 r3 s3 r4 s4 r5 s5 r6 s6 k6 r7 s7 k7).mono fun e W' ⟨he,hg⟩=>?_
 subst he
 have b1:=Below.trod laidOut (by kernel_rfl) (of_decide_eq_true (by kernel_rfl)) t1 hg (fun x hx=>hlt x (by simp[hx]))
 have b2:=Below.trod laidOut (by kernel_rfl) (of_decide_eq_true (by kernel_rfl)) t2 hg (fun x hx=>hlt x (by simp[hx]))
 have b3:=Below.trod laidOut (by kernel_rfl) (of_decide_eq_true (by kernel_rfl)) t3 hg (fun x hx=>hlt x (by simp[hx]))
 have b4:=Below.trod laidOut (by kernel_rfl) (of_decide_eq_true (by kernel_rfl)) t4 hg (fun x hx=>hlt x (by simp[hx]))
 have b5:=Below.trod laidOut (by kernel_rfl) (of_decide_eq_true (by kernel_rfl)) t5 hg (fun x hx=>hlt x (by simp[hx]))
 have b6:=Below.trod laidOut (by kernel_rfl) (of_decide_eq_true (by kernel_rfl)) t6 hg (fun x hx=>hlt x (by simp[hx]))
 have b7:=Below.trod laidOut (by kernel_rfl) (of_decide_eq_true (by kernel_rfl)) t7 hg (fun x hx=>hlt x (by simp[hx]))
 refine ⟨_,rfl,[d1,d2,d3,d4,d5,d6,d7],[],p1++(p2++(p3++(p4++(p5++(p6++p7))))),[],p1++(p2++(p3++(p4++(p5++(p6++p7))))),[],hW',trodAll_cons_mk (shut_bool Tryz.underlying4 _) trodAll_mk0,?_,rfl,hg.frame _,fun h=>by cases h⟩
 exact trodAll_cons_mk b1 (trodAll_cons_mk b2 (trodAll_cons_mk b3 (trodAll_cons_mk b4 (trodAll_cons_mk b5 (trodAll_cons_mk b6 (trodAll_mk1 b7))))))
theorem over:Rows.explainProvesRow.holds Tryz.pinned (OpenSpec.ofChange Rows.explainProvesSpec) :=
 OpenClaim.holds_of_wide 5 Tryz.f5 rfl rfl rfl rfl rfl rfl rfl ⟨rfl,rfl,rfl,rfl,rfl⟩ rfl rfl rfl rfl rfl (by kernel_rfl) Tryz.func5 (by kernel_rfl)
  (of_decide_eq_true (by kernel_rfl)) (by unfold Func.isWrapper;first | (rw[if_pos (by decide +kernel)];kernel_rfl) | (rw[if_neg (by decide +kernel)];exact ⟨rfl,rfl⟩))
  (fun os started H enc _=>lifted os started H enc)
/-- ████ THE STATEMENT ████ -/
theorem proved:Rows.ExplainProvesSaid :=
 over
#print axioms proved
end Go.Proofs.YteaikmdilmfbeaaGreat.explainProves
