/- The statement ReasonFinds: the law returns true at every input; the input reads as it did. No condition. -/
import Derived.WalkKit
import Derived.ProofKit
import Derived.OpenShut
import Derived.Carry
import Derived.Test.YtikpmbiklokdiaaGreatHx15
set_option linter.all false
namespace Go.Proofs.YtikpmbiklokdiaaGreat.reasonFinds
open Go.ChangeShapes Go.WideShapes Go.ChangeAt Go.RowKit Hx
set_option maxRecDepth 100000
theorem own:ownKnob Tryz.prog.godebug=none:=by kernel_rfl
theorem laidOut:laidOutB Tryz.prog=true:=by kernel_rfl
theorem in_struct {H:Type}{enc:TypeId×Value→H}{P:Program}{w:World}{n:Nat}{t:TypeId}{fs:Array Field}{v:Value}{d:DataW H}{p:List MemPlace}{r:Reach}{b:Nat}(hu:P.underlying t=some (.struct fs))(hp:Hx.yf P n t=true)
  (ho:Value.okWide P w r b t v) (h:DataW.Trod enc P w 0 (fun _=>true) true t v d p):∃xs,rF w (.agg xs) v∧Sh P n t xs:=by
 obtain ⟨cs,rfl,-⟩:=okWide_struct hu ho
 obtain ⟨fuel,hf⟩:=h
 obtain ⟨xs,hr,h1,hs⟩:=Hx.FM n t hp fuel _ _ hf
 refine ⟨xs,RV.agg _ xs cs (by rw[hr.1];simp[Value.cells]) (fun i x hx=>(h1 x (List.mem_of_getElem? hx)).1) (fun i x v hx hv=>hr.2 i x v hx (by simpa [Value.cells] using hv)),hs⟩
theorem sh_piece {n:Nat}{xs:List AV}(h:Sh Tryz.prog (n+2) 84 xs):∃x:Hx.IR,Rp.rp ZX 0 .nil x xs:=by
 obtain ⟨xss,rfl,ha⟩:=Hx.ue (n:=n+1) (P:=Tryz.prog) Tryz.underlying84 h
 match xss,ha with
 | [y1,y2,y3],⟨h1,h2,h3,_⟩ =>
  obtain ⟨x1,h1⟩:=Hx.nA Tryz.underlying5 h1
  obtain ⟨x2,h2⟩:=Hx.nA Tryz.underlying5 h2
  obtain ⟨x3,h3⟩:=Hx.Ep (α:=UInt8) Tryz.underlying23 (by kernel_rfl) (fun ys hy=>Hx.nA Tryz.underlying5 hy) h3
  exact ⟨(x1,x2,x3),_,_,by simp,h1,_,_,rfl,h2,h3⟩
theorem sh_draft {n:Nat}{xs:List AV}(h:Sh Tryz.prog (n+4) 25 xs):∃x:Hx.BJ,Rp.rp ZX 0 .nil x xs:=by
 obtain ⟨xss,rfl,ha⟩:=Hx.ue (n:=n+3) (P:=Tryz.prog) Tryz.underlying25 h
 match xss,ha with
 | [y1,y2,y3],⟨h1,h2,h3,_⟩ =>
  obtain ⟨x1,h1⟩:=Hx.nA Tryz.underlying5 h1
  obtain ⟨x2,h2⟩:=Hx.Ep (α:=Hx.IR) Tryz.underlying22 (by kernel_rfl) (fun ys hy=>sh_piece hy) h2
  obtain ⟨x3,h3⟩:=Hx.Ep (α:=UInt8) Tryz.underlying23 (by kernel_rfl) (fun ys hy=>Hx.nA Tryz.underlying5 hy) h3
  exact ⟨(x1,x2,x3),_,_,by simp,h1,_,_,rfl,h2,h3⟩
theorem sh_bend {n:Nat}{xs:List AV}(h:Sh Tryz.prog (n+1) 27 xs):∃x:Hx.po,Rp.rp ZX 0 .nil x xs:=by
 obtain ⟨xss,rfl,ha⟩:=Hx.ue (n:=n) (P:=Tryz.prog) Tryz.underlying27 h
 match xss,ha with
 | [y1,y2,y3,y4],⟨h1,h2,h3,h4,_⟩ =>
  obtain ⟨x1,h1⟩:=Hx.nA Tryz.underlying5 h1
  obtain ⟨x2,h2⟩:=Hx.nA Tryz.underlying5 h2
  obtain ⟨x3,h3⟩:=Hx.nA Tryz.underlying5 h3
  obtain ⟨x4,h4⟩:=Hx.CF Tryz.underlying3 h4
  exact ⟨(x1,x2,x3,x4),_,_,by simp,h1,_,_,rfl,h2,_,_,rfl,h3,h4⟩
theorem sh_known {n:Nat}{xs:List AV}(h:Sh Tryz.prog (n+2) 30 xs):∃vs:List UInt8,vs.length=9∧xs=vs.map Zt:=by
 obtain ⟨xss,rfl,ha⟩:=Hx.ue (n:=n+1) (P:=Tryz.prog) Tryz.underlying30 h
 match xss,ha with
 | [y0,y1],⟨h0,h1,_⟩ =>
  obtain ⟨x0,h0⟩:=Hx.nA Tryz.underlying5 h0
  obtain ⟨yss,rfl,hl,hy⟩:=Hx.Gz Tryz.underlying28 h1
  match yss,hl with
  | [z1,z2,z3,z4,z5,z6,z7,z8],_ =>
   obtain ⟨x1,h1⟩:=Hx.nA Tryz.underlying5 (hy z1 (by simp))
   obtain ⟨x2,h2⟩:=Hx.nA Tryz.underlying5 (hy z2 (by simp))
   obtain ⟨x3,h3⟩:=Hx.nA Tryz.underlying5 (hy z3 (by simp))
   obtain ⟨x4,h4⟩:=Hx.nA Tryz.underlying5 (hy z4 (by simp))
   obtain ⟨x5,h5⟩:=Hx.nA Tryz.underlying5 (hy z5 (by simp))
   obtain ⟨x6,h6⟩:=Hx.nA Tryz.underlying5 (hy z6 (by simp))
   obtain ⟨x7,h7⟩:=Hx.nA Tryz.underlying5 (hy z7 (by simp))
   obtain ⟨x8,h8⟩:=Hx.nA Tryz.underlying5 (hy z8 (by simp))
   rw[Hx.fK.1 h0,Hx.fK.1 h1,Hx.fK.1 h2,Hx.fK.1 h3,Hx.fK.1 h4,Hx.fK.1 h5,Hx.fK.1 h6,Hx.fK.1 h7,Hx.fK.1 h8]
   exact ⟨[x0,x1,x2,x3,x4,x5,x6,x7,x8],rfl,rfl⟩
theorem in_ints {H:Type}{enc:TypeId×Value→H}{w:World}{v:Value}{d:DataW H}{p:List MemPlace}{r:Reach}{b:Nat}(ho:Value.okWide Tryz.prog w r b 31 v)(h:DataW.Trod enc Tryz.prog w 0 (fun _=>true) true 31 v d p) :
  ∃(x:AV) (raw:List Int),rF w x v∧ZT ZX 0 .nil raw x∧Raw x:=by
 obtain ⟨a,len,cap,rfl⟩:=okWide_slice Tryz.underlying31 ho
 obtain ⟨fuel,hf⟩:=h
 obtain ⟨xs,hr,h1,hs⟩:=Hx.FM 2 31 (by kernel_rfl) fuel _ _ hf
 have hraw:∃x,xs=[x]∧Raw x:=by
  have hs:=hs
  unfold Sh at hs
  rw[Tryz.underlying31] at hs
  rcases hs with rfl | ⟨rows,rfl,-,-⟩
  ·exact ⟨_,rfl,.inl rfl⟩
  ·exact ⟨_,rfl,.inr ⟨rows,rfl⟩⟩
 obtain ⟨x,rfl,hx⟩:=hraw
 obtain ⟨l,hl⟩:=Hx.Ep (α:=Int) Tryz.underlying31 (by kernel_rfl) (fun ys hy=>Hx.CF Tryz.underlying3 hy) hs
 obtain ⟨_,e,hl⟩:=Hx.dW.1 hl
 injection e with e;subst e
 exact ⟨x,l,hr.2 0 x _ rfl rfl,hl,hx⟩
theorem in_array {H:Type}{enc:TypeId×Value→H}{P:Program}{w:World}{n m:Nat}{t e:TypeId}{v:Value}{d:DataW H}{p:List MemPlace}{r:Reach}{b:Nat}(hu:P.underlying t=some (.array m e))(hp:Hx.yf P n t=true)
  (ho:Value.okWide P w r b t v) (h:DataW.Trod enc P w 0 (fun _=>true) true t v d p):∃xs,rF w (.agg xs) v∧Sh P n t xs:=by
 obtain ⟨cs,rfl,-⟩:∃cs,v=.agg cs∧cs.size=P.cellsOf t:=by
  simp only[Value.okWide,hu] at ho
  obtain ⟨cs,h1,h2,_⟩:=ho
  exact ⟨cs,h1,h2⟩
 obtain ⟨fuel,hf⟩:=h
 obtain ⟨xs,hr,h1,hs⟩:=Hx.FM n t hp fuel _ _ hf
 refine ⟨xs,RV.agg _ xs cs (by rw[hr.1];simp[Value.cells]) (fun i x hx=>(h1 x (List.mem_of_getElem? hx)).1) (fun i x v hx hv=>hr.2 i x v hx (by simpa [Value.cells] using hv)),hs⟩
theorem sh_arr2i {n:Nat}{xs:List AV}(h:Sh Tryz.prog (n+2) 32 xs):∃a b:Int,xs=[.int .i64 a,.int .i64 b]:=by
 obtain ⟨yss,rfl,hl,hy⟩:=Hx.Gz Tryz.underlying32 h
 match yss,hl with
 | [z1,z2],_ =>
  obtain ⟨a,h1⟩:=Hx.CF Tryz.underlying3 (hy z1 (by simp))
  obtain ⟨b,h2⟩:=Hx.CF Tryz.underlying3 (hy z2 (by simp))
  rw[Hx.ay.1 h1,Hx.ay.1 h2]
  exact ⟨a,b,rfl⟩
theorem sh_q {n:Nat}{xs:List AV}(h:Sh Tryz.prog (n+1) 34 xs):∃a b:Int,xs=[.int .i64 a,.int .i64 b]:=by
 obtain ⟨xss,rfl,ha⟩:=Hx.ue (n:=n) (P:=Tryz.prog) Tryz.underlying34 h
 match xss,ha with
 | [y1,y2],⟨h1,h2,_⟩ =>
  obtain ⟨a,h1⟩:=Hx.CF Tryz.underlying3 h1
  obtain ⟨b,h2⟩:=Hx.CF Tryz.underlying3 h2
  rw[Hx.ay.1 h1,Hx.ay.1 h2]
  exact ⟨a,b,rfl⟩
theorem sh_arr2q {n:Nat}{xs:List AV}(h:Sh Tryz.prog (n+2) 35 xs):∃a b c e:Int,xs=[.int .i64 a,.int .i64 b,.int .i64 c,.int .i64 e]:=by
 obtain ⟨yss,rfl,hl,hy⟩:=Hx.Gz Tryz.underlying35 h
 match yss,hl with
 | [z1,z2],_ =>
  obtain ⟨a,b,h1⟩:=sh_q (hy z1 (by simp))
  obtain ⟨c,e,h2⟩:=sh_q (hy z2 (by simp))
  rw[h1,h2]
  exact ⟨a,b,c,e,rfl⟩
theorem callR:type_of% (@Hx.sP iR Hx.SJ Hx.Og Hx.WK):=@Hx.sP iR Hx.SJ Hx.Og Hx.WK
theorem walk {w:World}{v1 v2 v3 v4 v5 v6:Value}{a1 a2 a3 a5 a6:List AV}{a4:AV}{l4:List Int}(r1:rF w (.agg a1) v1)(s1:Sh Tryz.prog 8 25 a1)(r2:rF w (.agg a2) v2)(s2:Sh Tryz.prog 8 27 a2)(r3:rF w (.agg a3) v3)(s3:Sh Tryz.prog 8 30 a3)(r4:rF w a4 v4)(s4:ZT ZX 0 .nil l4 a4)(q4:Raw a4)(r5:rF w (.agg a5) v5)(s5:Sh Tryz.prog 8 32 a5)(r6:rF w (.agg a6) v6)(s6:Sh Tryz.prog 8 35 a6) :
  Calls Tryz.prog 3 #[v1,v2,v3,v4,v5,v6] w fun e w'=>e=.returned (.bool true)∧Below w.heap.size w w':=by
 obtain ⟨x1,h1⟩:=sh_draft (n:=4) s1
 obtain ⟨x2,h2⟩:=sh_bend (n:=7) s2
 obtain ⟨k3,h3,rfl⟩:=sh_known (n:=6) s3
 obtain ⟨p5,q5,rfl⟩:=sh_arr2i (n:=6) s5
 obtain ⟨p6,q6,o6,u6,rfl⟩:=sh_arr2q (n:=6) s6
 obtain ⟨g',h⟩:=callR ⟨_,rfl,h1⟩ ⟨_,rfl,h2⟩ h3 s4 q4 (v:=p5) (a:=q5) (bA:=p6) (bB:=q6) (bC:=o6) (bD:=u6)
 obtain ⟨n,h⟩:=Hx.Rl h
 refine Hx.M4 (vs:=[v1,v2,v3,v4,v5,v6]) Hx.bb2 h ⟨rfl,fun i x v hx hv=>?_⟩ (fun gl sz rows h=>by cases h)
 match i,hx,hv with
 | 0,hx,hv=>injection hx with hx;injection hv with hv;subst hx;subst hv;exact r1
 | 1,hx,hv=>injection hx with hx;injection hv with hv;subst hx;subst hv;exact r2
 | 2,hx,hv=>injection hx with hx;injection hv with hv;subst hx;subst hv;exact r3
 | 3,hx,hv=>injection hx with hx;injection hv with hv;subst hx;subst hv;exact r4
 | 4,hx,hv=>injection hx with hx;injection hv with hv;subst hx;subst hv;exact r5
 | 5,hx,hv=>injection hx with hx;injection hv with hv;subst hx;subst hv;exact r6
 | i+6,hx,hv=>simp at hx
theorem lifted (os:Os)(started:os.Started)(H:Type)(enc:TypeId×Value→H) :
  ReturnsInHanded {} Tryz.checked os 3 .any (Rows.reasonFindsSpec.pre6 enc Tryz.prog Tryz.f3 Rows.reasonFindsRow.domain false) (Rows.reasonFindsSpec.post enc Tryz.prog Tryz.f3 false true false false):=by
 refine returnsInHanded_of_change (C:=Tryz.checked) own started (by kernel_rfl) Tryz.func3
  (ChangeSpec.witness6 (enc:=enc) (C:=Tryz.checked) false ⟨#[],#[.agg #[.int .u8 0,.slice none 0 0,.slice none 0 0],.agg #[.int .u8 0,.int .u8 0,.int .u8 0,.int .i64 0],.agg #[.int .u8 0,.int .u8 0,.int .u8 0,.int .u8 0,.int .u8 0,.int .u8 0,.int .u8 0,.int .u8 0,.int .u8 0],.slice none 0 0,.agg #[.int .i64 0,.int .i64 0],.agg #[.int .i64 0,.int .i64 0,.int .i64 0,.int .i64 0]],[]⟩ 8 (by kernel_rfl) (by kernel_rfl) (by kernel_rfl) (by kernel_rfl)) ?_
 intro W base args ds gs before hval0 hW hcnd _
 have hval:∀(j:Nat) t v,Tryz.f3.params[j]?=some t→args[j]?=some v→Value.okWide Tryz.prog W .any base t v:=hval0
 have hW':=hW
 obtain ⟨p,q,hA0,hV,rfl,hfz,hnd⟩:=hW
 have hA:DataW.TrodAll enc Tryz.prog W 0 (fun _=>true) true Tryz.f3.params.toList args.toList ds p:=hA0
 rw[Tryz.params3] at hA hval
 obtain ⟨v1,vs1,d1,ds1,p1,q1,e1,rfl,rfl,t1,hA⟩:=trodAll_cons hA
 obtain ⟨v2,vs2,d2,ds2,p2,q2,rfl,rfl,rfl,t2,hA⟩:=trodAll_cons hA
 obtain ⟨v3,vs3,d3,ds3,p3,q3,rfl,rfl,rfl,t3,hA⟩:=trodAll_cons hA
 obtain ⟨v4,vs4,d4,ds4,p4,q4,rfl,rfl,rfl,t4,hA⟩:=trodAll_cons hA
 obtain ⟨v5,vs5,d5,ds5,p5,q5,rfl,rfl,rfl,t5,hA⟩:=trodAll_cons hA
 obtain ⟨v6,vs6,d6,ds6,p6,q6,rfl,rfl,rfl,t6,hA⟩:=trodAll_cons hA
 obtain ⟨rfl,rfl,rfl⟩:=trodAll_nil hA
 obtain ⟨rfl,rfl⟩:=trodVars_none hV
 have e1:args=#[v1,v2,v3,v4,v5,v6]:=by cases args;simp_all
 subst e1
 clear hA0 hval0
 simp only[List.append_nil] at hW'
 have hlt:∀x∈p1++(p2++(p3++(p4++(p5++p6)))),x.block<W.heap.size:=fun x hx=>by simpa using hW'.lt x hx
 obtain ⟨a1,r1,s1⟩:=in_struct (n:=8) Tryz.underlying25 (by kernel_rfl) (hval 0 25 v1 rfl rfl) t1
 obtain ⟨a2,r2,s2⟩:=in_struct (n:=8) Tryz.underlying27 (by kernel_rfl) (hval 1 27 v2 rfl rfl) t2
 obtain ⟨a3,r3,s3⟩:=in_struct (n:=8) Tryz.underlying30 (by kernel_rfl) (hval 2 30 v3 rfl rfl) t3
 obtain ⟨a4,l4,r4,s4,k4⟩:=in_ints (hval 3 31 v4 rfl rfl) t4
 obtain ⟨a5,r5,s5⟩:=in_array (n:=8) Tryz.underlying32 (by kernel_rfl) (hval 4 32 v5 rfl rfl) t5
 obtain ⟨a6,r6,s6⟩:=in_array (n:=8) Tryz.underlying35 (by kernel_rfl) (hval 5 35 v6 rfl rfl) t6
 refine (walk r1 s1 r2 s2 r3 s3 r4 s4 k4 r5 s5 r6 s6).mono fun e W' ⟨he,hg⟩=>?_
 subst he
 have b1:=Below.trod laidOut (by kernel_rfl) (of_decide_eq_true (by kernel_rfl)) t1 hg (fun x hx=>hlt x (by simp[hx]))
 have b2:=Below.trod laidOut (by kernel_rfl) (of_decide_eq_true (by kernel_rfl)) t2 hg (fun x hx=>hlt x (by simp[hx]))
 have b3:=Below.trod laidOut (by kernel_rfl) (of_decide_eq_true (by kernel_rfl)) t3 hg (fun x hx=>hlt x (by simp[hx]))
 have b4:=Below.trod laidOut (by kernel_rfl) (of_decide_eq_true (by kernel_rfl)) t4 hg (fun x hx=>hlt x (by simp[hx]))
 have b5:=Below.trod laidOut (by kernel_rfl) (of_decide_eq_true (by kernel_rfl)) t5 hg (fun x hx=>hlt x (by simp[hx]))
 have b6:=Below.trod laidOut (by kernel_rfl) (of_decide_eq_true (by kernel_rfl)) t6 hg (fun x hx=>hlt x (by simp[hx]))
 refine ⟨_,rfl,[d1,d2,d3,d4,d5,d6],[],p1++(p2++(p3++(p4++(p5++p6)))),[],p1++(p2++(p3++(p4++(p5++p6)))),[],hW',trodAll_cons_mk (shut_bool Tryz.underlying4 _) trodAll_mk0,?_,rfl,hg.frame _,fun h=>by cases h⟩
 exact trodAll_cons_mk b1 (trodAll_cons_mk b2 (trodAll_cons_mk b3 (trodAll_cons_mk b4 (trodAll_cons_mk b5 (trodAll_mk1 b6)))))
theorem over:Rows.reasonFindsRow.holds Tryz.pinned (OpenSpec.ofChange Rows.reasonFindsSpec) :=
 OpenClaim.holds_of_wide 3 Tryz.f3 rfl rfl rfl rfl rfl rfl rfl ⟨rfl,rfl,rfl,rfl,rfl⟩ rfl rfl rfl rfl rfl (by kernel_rfl) Tryz.func3 (by kernel_rfl)
  (of_decide_eq_true (by kernel_rfl)) (by unfold Func.isWrapper;first | (rw[if_pos (by decide +kernel)];kernel_rfl) | (rw[if_neg (by decide +kernel)];exact ⟨rfl,rfl⟩))
  (fun os started H enc _=>lifted os started H enc)
/-- ████ THE STATEMENT ████ -/
theorem proved:Rows.ReasonFindsSaid :=
 over
#print axioms proved
end Go.Proofs.YtikpmbiklokdiaaGreat.reasonFinds
