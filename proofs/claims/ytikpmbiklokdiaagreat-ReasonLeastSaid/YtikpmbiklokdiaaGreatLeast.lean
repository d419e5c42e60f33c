/- The statement ReasonLeast: the law returns true at every input; the input reads as it did. No condition. -/
import Derived.WalkKit
import Derived.ProofKit
import Derived.OpenShut
import Derived.Carry
import Derived.Test.YtikpmbiklokdiaaGreatHx13
set_option linter.all false
namespace Go.Proofs.YtikpmbiklokdiaaGreat.reasonLeast
open Go.ChangeShapes Go.WideShapes Go.ChangeAt Go.RowKit Hx
set_option maxRecDepth 100000
theorem own:ownKnob Tryz.prog.godebug=none:=by kernel_rfl
theorem laidOut:laidOutB Tryz.prog=true:=by kernel_rfl
theorem in_struct {H:Type}{enc:TypeId×Value→H}{P:Program}{w:World}{n:Nat}{t:TypeId}{fs:Array Field}{v:Value}{d:DataW H}{p:List MemPlace}{r:Reach}{b:Nat}(hu:P.underlying t=some (.struct fs))(hp:Hx.tQ P n t=true)
  (ho:Value.okWide P w r b t v) (h:DataW.Trod enc P w 0 (fun _=>true) true t v d p):∃xs,RV0 w (.agg xs) v∧Sh P n t xs:=by
 obtain ⟨cs,rfl,-⟩:=okWide_struct hu ho
 obtain ⟨fuel,hf⟩:=h
 obtain ⟨xs,hr,h1,hs⟩:=Hx.FN n t hp fuel _ _ hf
 refine ⟨xs,RV.agg _ xs cs (by rw[hr.1];simp[Value.cells]) (fun i x hx=>(h1 x (List.mem_of_getElem? hx)).1) (fun i x v hx hv=>hr.2 i x v hx (by simpa [Value.cells] using hv)),hs⟩
theorem sh_piece {n:Nat}{xs:List AV}(h:Sh Tryz.prog (n+2) 84 xs):∃x:Hx.Dn,Rp.rp NoP 0 .nil x xs:=by
 obtain ⟨xss,rfl,ha⟩:=Hx.xZ (n:=n+1) (P:=Tryz.prog) Tryz.underlying84 h
 match xss,ha with
 | [y1,y2,y3],⟨h1,h2,h3,_⟩ =>
  obtain ⟨x1,h1⟩:=Hx.jR Tryz.underlying5 h1
  obtain ⟨x2,h2⟩:=Hx.jR Tryz.underlying5 h2
  obtain ⟨x3,h3⟩:=Hx.Ew (α:=UInt8) Tryz.underlying23 (by kernel_rfl) (fun ys hy=>Hx.jR Tryz.underlying5 hy) h3
  exact ⟨(x1,x2,x3),_,_,by simp,h1,_,_,rfl,h2,h3⟩
theorem sh_draft {n:Nat}{xs:List AV}(h:Sh Tryz.prog (n+4) 25 xs):∃x:Hx.ve,Rp.rp NoP 0 .nil x xs:=by
 obtain ⟨xss,rfl,ha⟩:=Hx.xZ (n:=n+3) (P:=Tryz.prog) Tryz.underlying25 h
 match xss,ha with
 | [y1,y2,y3],⟨h1,h2,h3,_⟩ =>
  obtain ⟨x1,h1⟩:=Hx.jR Tryz.underlying5 h1
  obtain ⟨x2,h2⟩:=Hx.Ew (α:=Hx.Dn) Tryz.underlying22 (by kernel_rfl) (fun ys hy=>sh_piece hy) h2
  obtain ⟨x3,h3⟩:=Hx.Ew (α:=UInt8) Tryz.underlying23 (by kernel_rfl) (fun ys hy=>Hx.jR Tryz.underlying5 hy) h3
  exact ⟨(x1,x2,x3),_,_,by simp,h1,_,_,rfl,h2,h3⟩
theorem sh_known {n:Nat}{xs:List AV}(h:Sh Tryz.prog (n+2) 30 xs):∃vs:List UInt8,vs.length=9∧xs=vs.map u8v:=by
 obtain ⟨xss,rfl,ha⟩:=Hx.xZ (n:=n+1) (P:=Tryz.prog) Tryz.underlying30 h
 match xss,ha with
 | [y0,y1],⟨h0,h1,_⟩ =>
  obtain ⟨x0,h0⟩:=Hx.jR Tryz.underlying5 h0
  obtain ⟨yss,rfl,hl,hy⟩:=Hx.GC Tryz.underlying28 h1
  match yss,hl with
  | [z1,z2,z3,z4,z5,z6,z7,z8],_ =>
   obtain ⟨x1,h1⟩:=Hx.jR Tryz.underlying5 (hy z1 (by simp))
   obtain ⟨x2,h2⟩:=Hx.jR Tryz.underlying5 (hy z2 (by simp))
   obtain ⟨x3,h3⟩:=Hx.jR Tryz.underlying5 (hy z3 (by simp))
   obtain ⟨x4,h4⟩:=Hx.jR Tryz.underlying5 (hy z4 (by simp))
   obtain ⟨x5,h5⟩:=Hx.jR Tryz.underlying5 (hy z5 (by simp))
   obtain ⟨x6,h6⟩:=Hx.jR Tryz.underlying5 (hy z6 (by simp))
   obtain ⟨x7,h7⟩:=Hx.jR Tryz.underlying5 (hy z7 (by simp))
   obtain ⟨x8,h8⟩:=Hx.jR Tryz.underlying5 (hy z8 (by simp))
   rw[Hx.fM.1 h0,Hx.fM.1 h1,Hx.fM.1 h2,Hx.fM.1 h3,Hx.fM.1 h4,Hx.fM.1 h5,Hx.fM.1 h6,Hx.fM.1 h7,Hx.fM.1 h8]
   exact ⟨[x0,x1,x2,x3,x4,x5,x6,x7,x8],rfl,rfl⟩
theorem in_array {H:Type}{enc:TypeId×Value→H}{P:Program}{w:World}{n m:Nat}{t e:TypeId}{v:Value}{d:DataW H}{p:List MemPlace}{r:Reach}{b:Nat}(hu:P.underlying t=some (.array m e))(hp:Hx.tQ P n t=true)
  (ho:Value.okWide P w r b t v) (h:DataW.Trod enc P w 0 (fun _=>true) true t v d p):∃xs,RV0 w (.agg xs) v∧Sh P n t xs:=by
 obtain ⟨cs,rfl,-⟩:∃cs,v=.agg cs∧cs.size=P.cellsOf t:=by
  simp only[Value.okWide,hu] at ho
  obtain ⟨cs,h1,h2,_⟩:=ho
  exact ⟨cs,h1,h2⟩
 obtain ⟨fuel,hf⟩:=h
 obtain ⟨xs,hr,h1,hs⟩:=Hx.FN n t hp fuel _ _ hf
 refine ⟨xs,RV.agg _ xs cs (by rw[hr.1];simp[Value.cells]) (fun i x hx=>(h1 x (List.mem_of_getElem? hx)).1) (fun i x v hx hv=>hr.2 i x v hx (by simpa [Value.cells] using hv)),hs⟩
theorem sh_arr4 {n:Nat}{xs:List AV}(h:Sh Tryz.prog (n+2) 67 xs):∃a b c e:UInt8,xs=[u8v a,u8v b,u8v c,u8v e]:=by
 obtain ⟨yss,rfl,hl,hy⟩:=Hx.GC Tryz.underlying67 h
 match yss,hl with
 | [z1,z2,z3,z4],_ =>
  obtain ⟨a,h1⟩:=Hx.jR Tryz.underlying5 (hy z1 (by simp))
  obtain ⟨b,h2⟩:=Hx.jR Tryz.underlying5 (hy z2 (by simp))
  obtain ⟨c,h3⟩:=Hx.jR Tryz.underlying5 (hy z3 (by simp))
  obtain ⟨e,h4⟩:=Hx.jR Tryz.underlying5 (hy z4 (by simp))
  rw[Hx.fM.1 h1,Hx.fM.1 h2,Hx.fM.1 h3,Hx.fM.1 h4]
  exact ⟨a,b,c,e,rfl⟩
theorem callR:type_of% (@Hx.pF iR Hx.MN Hx.IF Hx.Qd):=@Hx.pF iR Hx.MN Hx.IF Hx.Qd
theorem walk {w:World}{v1 v2 v3:Value}{a1 a2 a3:List AV}(r1:RV0 w (.agg a1) v1)(s1:Sh Tryz.prog 8 25 a1)(r2:RV0 w (.agg a2) v2)(s2:Sh Tryz.prog 8 30 a2)(r3:RV0 w (.agg a3) v3)(s3:Sh Tryz.prog 8 67 a3) :
  Calls Tryz.prog 6 #[v1,v2,v3] w fun e w'=>e=.returned (.bool true)∧Below w.heap.size w w':=by
 obtain ⟨x1,h1⟩:=sh_draft (n:=4) s1
 obtain ⟨k2,h2,rfl⟩:=sh_known (n:=6) s2
 obtain ⟨p3,q3,o3,u3,rfl⟩:=sh_arr4 (n:=6) s3
 obtain ⟨g',h⟩:=callR ⟨_,rfl,h1⟩ h2 (z0:=p3) (z1:=q3) (z2:=o3) (z3:=u3)
 obtain ⟨n,h⟩:=Hx.LA h
 refine Hx.Hz (vs:=[v1,v2,v3]) Hx.Q2 h ⟨rfl,fun i x v hx hv=>?_⟩ (fun gl sz rows h=>by cases h)
 match i,hx,hv with
 | 0,hx,hv=>injection hx with hx;injection hv with hv;subst hx;subst hv;exact r1
 | 1,hx,hv=>injection hx with hx;injection hv with hv;subst hx;subst hv;exact r2
 | 2,hx,hv=>injection hx with hx;injection hv with hv;subst hx;subst hv;exact r3
 | i+3,hx,hv=>simp at hx
theorem lifted (os:Os)(started:os.Started)(H:Type)(enc:TypeId×Value→H) :
  ReturnsInHanded {} Tryz.checked os 6 .any (Rows.reasonLeastSpec.pre6 enc Tryz.prog Tryz.f6 Rows.reasonLeastRow.domain false) (Rows.reasonLeastSpec.post enc Tryz.prog Tryz.f6 false true false false):=by
 refine returnsInHanded_of_change (C:=Tryz.checked) own started (by kernel_rfl) Tryz.func6
  (ChangeSpec.witness6 (enc:=enc) (C:=Tryz.checked) false ⟨#[],#[.agg #[.int .u8 0,.slice none 0 0,.slice none 0 0],.agg #[.int .u8 0,.int .u8 0,.int .u8 0,.int .u8 0,.int .u8 0,.int .u8 0,.int .u8 0,.int .u8 0,.int .u8 0],.agg #[.int .u8 0,.int .u8 0,.int .u8 0,.int .u8 0]],[]⟩ 8 (by kernel_rfl) (by kernel_rfl) (by kernel_rfl) (by kernel_rfl)) ?_
 intro W base args ds gs before hval0 hW hcnd _
 have hval:∀(j:Nat) t v,Tryz.f6.params[j]?=some t→args[j]?=some v→Value.okWide Tryz.prog W .any base t v:=hval0
 have hW':=hW
 obtain ⟨p,q,hA0,hV,rfl,hfz,hnd⟩:=hW
 have hA:DataW.TrodAll enc Tryz.prog W 0 (fun _=>true) true Tryz.f6.params.toList args.toList ds p:=hA0
 rw[Tryz.params6] at hA hval
 obtain ⟨v1,vs1,d1,ds1,p1,q1,e1,rfl,rfl,t1,hA⟩:=trodAll_cons hA
 obtain ⟨v2,vs2,d2,ds2,p2,q2,rfl,rfl,rfl,t2,hA⟩:=trodAll_cons hA
 obtain ⟨v3,vs3,d3,ds3,p3,q3,rfl,rfl,rfl,t3,hA⟩:=trodAll_cons hA
 obtain ⟨rfl,rfl,rfl⟩:=trodAll_nil hA
 obtain ⟨rfl,rfl⟩:=trodVars_none hV
 have e1:args=#[v1,v2,v3]:=by cases args;simp_all
 subst e1
 clear hA0 hval0
 simp only[List.append_nil] at hW'
 have hlt:∀x∈p1++(p2++p3),x.block<W.heap.size:=fun x hx=>by simpa using hW'.lt x hx
 obtain ⟨a1,r1,s1⟩:=in_struct (n:=8) Tryz.underlying25 (by kernel_rfl) (hval 0 25 v1 rfl rfl) t1
 obtain ⟨a2,r2,s2⟩:=in_struct (n:=8) Tryz.underlying30 (by kernel_rfl) (hval 1 30 v2 rfl rfl) t2
 obtain ⟨a3,r3,s3⟩:=in_array (n:=8) Tryz.underlying67 (by kernel_rfl) (hval 2 67 v3 rfl rfl) t3
 refine (walk r1 s1 r2 s2 r3 s3).mono fun e W' ⟨he,hg⟩=>?_
 subst he
 have b1:=Below.trod laidOut (by kernel_rfl) (of_decide_eq_true (by kernel_rfl)) t1 hg (fun x hx=>hlt x (by simp[hx]))
 have b2:=Below.trod laidOut (by kernel_rfl) (of_decide_eq_true (by kernel_rfl)) t2 hg (fun x hx=>hlt x (by simp[hx]))
 have b3:=Below.trod laidOut (by kernel_rfl) (of_decide_eq_true (by kernel_rfl)) t3 hg (fun x hx=>hlt x (by simp[hx]))
 refine ⟨_,rfl,[d1,d2,d3],[],p1++(p2++p3),[],p1++(p2++p3),[],hW',trodAll_cons_mk (shut_bool Tryz.underlying4 _) trodAll_mk0,?_,rfl,hg.frame _,fun h=>by cases h⟩
 exact trodAll_cons_mk b1 (trodAll_cons_mk b2 (trodAll_mk1 b3))
theorem over:Rows.reasonLeastRow.holds Tryz.pinned (OpenSpec.ofChange Rows.reasonLeastSpec) :=
 OpenClaim.holds_of_wide 6 Tryz.f6 rfl rfl rfl rfl rfl rfl rfl ⟨rfl,rfl,rfl,rfl,rfl⟩ rfl rfl rfl rfl rfl (by kernel_rfl) Tryz.func6 (by kernel_rfl)
  (of_decide_eq_true (by kernel_rfl)) (by unfold Func.isWrapper;first | (rw[if_pos (by decide +kernel)];kernel_rfl) | (rw[if_neg (by decide +kernel)];exact ⟨rfl,rfl⟩))
  (fun os started H enc _=>lifted os started H enc)
/-- ████ THE STATEMENT ████ -/
theorem proved:Rows.ReasonLeastSaid :=
 over
#print axioms proved
end Go.Proofs.YtikpmbiklokdiaaGreat.reasonLeast
