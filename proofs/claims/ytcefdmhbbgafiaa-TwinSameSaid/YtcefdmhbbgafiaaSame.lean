/- The statement TwinSame: the law returns true at every input; the input reads as it did. No condition. -/
import Derived.WalkKit
import Derived.ProofKit
import Derived.OpenShut
import Derived.Carry
import Derived.Test.YtcefdmhbbgafiaaHx10
set_option linter.all false
namespace Go.Proofs.Ytcefdmhbbgafiaa.twinSame
open Go.ChangeShapes Go.WideShapes Go.ChangeAt Go.RowKit Hx
set_option maxRecDepth 100000
theorem own:ownKnob Try.prog.godebug=none:=by kernel_rfl
theorem laidOut:laidOutB Try.prog=true:=by kernel_rfl
theorem in_struct {H:Type}{enc:TypeId×Value→H}{P:Program}{w:World}{n:Nat}{t:TypeId}{fs:Array Field}{v:Value}{d:DataW H}{p:List MemPlace}{r:Reach}{b:Nat}(hu:P.underlying t=some (.struct fs))(hp:Hx.tJ P n t=true)
  (ho:Value.okWide P w r b t v) (h:DataW.Trod enc P w 0 (fun _=>true) true t v d p):∃xs,RV0 w (.agg xs) v∧Sh P n t xs:=by
 obtain ⟨cs,rfl,-⟩:=okWide_struct hu ho
 obtain ⟨fuel,hf⟩:=h
 obtain ⟨xs,hr,h1,hs⟩:=Hx.Fv n t hp fuel _ _ hf
 refine ⟨xs,RV.agg _ xs cs (by rw[hr.1];simp[Value.cells]) (fun i x hx=>(h1 x (List.mem_of_getElem? hx)).1) (fun i x v hx hv=>hr.2 i x v hx (by simpa [Value.cells] using hv)),hs⟩
theorem sh_piece {n:Nat}{xs:List AV}(h:Sh Try.prog (n+2) 75 xs):∃x:Hx.Cg,Rp.rp NoP 0 .nil x xs:=by
 obtain ⟨xss,rfl,ha⟩:=Hx.x7 (n:=n+1) (P:=Try.prog) Try.underlying75 h
 match xss,ha with
 | [y1,y2,y3,y4],⟨h1,h2,h3,h4,_⟩ =>
  obtain ⟨x1,h1⟩:=Hx.oG Try.underlying5 h1
  obtain ⟨x2,h2⟩:=Hx.oG Try.underlying5 h2
  obtain ⟨x3,h3⟩:=Hx.oG Try.underlying5 h3
  obtain ⟨x4,h4⟩:=Hx.xg (α:=UInt8) Try.underlying24 (by kernel_rfl) (fun ys hy=>Hx.oG Try.underlying5 hy) h4
  exact ⟨(x1,x2,x3,x4),_,_,by simp,h1,_,_,rfl,h2,_,_,rfl,h3,h4⟩
theorem sh_two {n:Nat}{xs:List AV}(h:Sh Try.prog (n+1) 79 xs):∃x:UInt8×UInt8,Rp.rp NoP 0 .nil x xs:=by
 obtain ⟨xss,rfl,hl,hy⟩:=Hx.Bf (n:=n) (P:=Try.prog) Try.underlying79 h
 match xss,hl with
 | [y1,y2],_ =>
  obtain ⟨x1,h1⟩:=Hx.oG Try.underlying5 (hy y1 (by simp))
  obtain ⟨x2,h2⟩:=Hx.oG Try.underlying5 (hy y2 (by simp))
  exact ⟨(x1,x2),_,_,by simp,h1,h2⟩
theorem sh_draft {n:Nat}{xs:List AV}(h:Sh Try.prog (n+4) 26 xs):∃x:Hx.Dn,Rp.rp NoP 0 .nil x xs:=by
 obtain ⟨xss,rfl,ha⟩:=Hx.x7 (n:=n+3) (P:=Try.prog) Try.underlying26 h
 match xss,ha with
 | [y1,y2,y3,y4,y5],⟨h1,h2,h3,h4,h5,_⟩ =>
  obtain ⟨x1,h1⟩:=Hx.oG Try.underlying5 h1
  obtain ⟨x2,h2⟩:=Hx.xg (α:=Hx.Cg) Try.underlying22 (by kernel_rfl) (fun ys hy=>sh_piece hy) h2
  obtain ⟨x3,h3⟩:=Hx.xg (α:=UInt8×UInt8) Try.underlying23 (by kernel_rfl) (fun ys hy=>sh_two hy) h3
  obtain ⟨x4,h4⟩:=Hx.xg (α:=UInt8) Try.underlying24 (by kernel_rfl) (fun ys hy=>Hx.oG Try.underlying5 hy) h4
  obtain ⟨x5,h5⟩:=Hx.xg (α:=UInt8) Try.underlying24 (by kernel_rfl) (fun ys hy=>Hx.oG Try.underlying5 hy) h5
  exact ⟨(x1,x2,x3,x4,x5),_,_,by simp,h1,_,_,rfl,h2,_,_,rfl,h3,_,_,rfl,h4,h5⟩
theorem sh_five {n:Nat}{xs:List AV}(h:Sh Try.prog (n+2) 29 xs):∃vs:List UInt8,vs.length=5∧xs=vs.map u8v:=by
 obtain ⟨xss,rfl,ha⟩:=Hx.x7 (n:=n+1) (P:=Try.prog) Try.underlying29 h
 match xss,ha with
 | [y1],⟨h1,_⟩ =>
  obtain ⟨yss,rfl,hl,hy⟩:=Hx.Bf Try.underlying27 h1
  match yss,hl with
  | [z1,z2,z3,z4,z5],_ =>
   obtain ⟨x1,h1⟩:=Hx.oG Try.underlying5 (hy z1 (by simp))
   obtain ⟨x2,h2⟩:=Hx.oG Try.underlying5 (hy z2 (by simp))
   obtain ⟨x3,h3⟩:=Hx.oG Try.underlying5 (hy z3 (by simp))
   obtain ⟨x4,h4⟩:=Hx.oG Try.underlying5 (hy z4 (by simp))
   obtain ⟨x5,h5⟩:=Hx.oG Try.underlying5 (hy z5 (by simp))
   rw[Hx.fP.1 h1,Hx.fP.1 h2,Hx.fP.1 h3,Hx.fP.1 h4,Hx.fP.1 h5]
   exact ⟨[x1,x2,x3,x4,x5],rfl,rfl⟩
theorem in_array {H:Type}{enc:TypeId×Value→H}{P:Program}{w:World}{n m:Nat}{t e:TypeId}{v:Value}{d:DataW H}{p:List MemPlace}{r:Reach}{b:Nat}(hu:P.underlying t=some (.array m e))(hp:Hx.tJ P n t=true)
  (ho:Value.okWide P w r b t v) (h:DataW.Trod enc P w 0 (fun _=>true) true t v d p):∃xs,RV0 w (.agg xs) v∧Sh P n t xs:=by
 obtain ⟨cs,rfl,-⟩:∃cs,v=.agg cs∧cs.size=P.cellsOf t:=by
  simp only[Value.okWide,hu] at ho
  obtain ⟨cs,h1,h2,_⟩:=ho
  exact ⟨cs,h1,h2⟩
 obtain ⟨fuel,hf⟩:=h
 obtain ⟨xs,hr,h1,hs⟩:=Hx.Fv n t hp fuel _ _ hf
 refine ⟨xs,RV.agg _ xs cs (by rw[hr.1];simp[Value.cells]) (fun i x hx=>(h1 x (List.mem_of_getElem? hx)).1) (fun i x v hx hv=>hr.2 i x v hx (by simpa [Value.cells] using hv)),hs⟩
theorem sh_three {n:Nat}{xs:List AV}(h:Sh Try.prog (n+3) 52 xs):∃v1 v2 v3:List UInt8,v1.length=5∧v2.length=5∧v3.length=5∧xs=v1.map u8v++(v2.map u8v++v3.map u8v):=by
 obtain ⟨xss,rfl,hl,hy⟩:=Hx.Bf (n:=n+2) (P:=Try.prog) Try.underlying52 h
 match xss,hl with
 | [y1,y2,y3],_ =>
  obtain ⟨v1,h1,e1⟩:=sh_five (n:=n) (hy y1 (by simp))
  obtain ⟨v2,h2,e2⟩:=sh_five (n:=n) (hy y2 (by simp))
  obtain ⟨v3,h3,e3⟩:=sh_five (n:=n) (hy y3 (by simp))
  exact ⟨v1,v2,v3,h1,h2,h3,by rw[e1,e2,e3];simp⟩
theorem walk {w:World}{v1 v2:Value}{a1 a2:List AV}(r1:RV0 w (.agg a1) v1)(r2:RV0 w (.agg a2) v2)(s1:Sh Try.prog 8 26 a1)(s2:Sh Try.prog 8 52 a2) :
  Calls Try.prog 4 #[v1,v2] w fun e w'=>e=.returned (.bool true)∧Below w.heap.size w w':=by
 obtain ⟨x1,h1⟩:=sh_draft (n:=4) s1
 obtain ⟨b1,b2,b3,hb1,hb2,hb3,rfl⟩:=sh_three (n:=5) s2
 obtain ⟨g',h⟩:=Hx.Bz (u1:=.agg a1) ⟨_,rfl,h1⟩ hb1 hb2 hb3
 obtain ⟨n,h⟩:=Hx.Qt h
 refine Hx.Hm (vs:=[v1,v2]) Gen.cfg1Ok h ⟨rfl,fun i x v hx hv=>?_⟩ (fun gl sz rows h=>by cases h)
 match i,hx,hv with
 | 0,hx,hv=>injection hx with hx;injection hv with hv;subst hx;subst hv;exact r1
 | 1,hx,hv=>injection hx with hx;injection hv with hv;subst hx;subst hv;exact r2
 | i+2,hx,hv=>simp at hx
theorem lifted (os:Os)(started:os.Started)(H:Type)(enc:TypeId×Value→H) :
  ReturnsInHanded {} Try.checked os 4 .any (Rows.twinSameSpec.pre6 enc Try.prog Try.f4 Rows.twinSameRow.domain false) (Rows.twinSameSpec.post enc Try.prog Try.f4 false true false false):=by
 refine returnsInHanded_of_change (C:=Try.checked) own started (by kernel_rfl) Try.func4
  (ChangeSpec.witness6 (enc:=enc) (C:=Try.checked) false ⟨#[],#[.agg #[.int .u8 0,.slice none 0 0,.slice none 0 0,.slice none 0 0,.slice none 0 0],.agg #[.int .u8 0,.int .u8 0,.int .u8 0,.int .u8 0,.int .u8 0,.int .u8 0,.int .u8 0,.int .u8 0,.int .u8 0,.int .u8 0,.int .u8 0,.int .u8 0,.int .u8 0,.int .u8 0,.int .u8 0]],[]⟩ 8 (by kernel_rfl) (by kernel_rfl) (by kernel_rfl) (by kernel_rfl)) ?_
 intro W base args ds gs before hval0 hW hcnd _
 have hval:∀(j:Nat) t v,Try.f4.params[j]?=some t→args[j]?=some v→Value.okWide Try.prog W .any base t v:=hval0
 have hW':=hW
 obtain ⟨p,q,hA0,hV,rfl,hfz,hnd⟩:=hW
 have hA:DataW.TrodAll enc Try.prog W 0 (fun _=>true) true Try.f4.params.toList args.toList ds p:=hA0
 rw[Try.params4] at hA hval
 obtain ⟨v1,vs1,d1,ds1,p1,q1,e1,rfl,rfl,t1,hA⟩:=trodAll_cons hA
 obtain ⟨v2,vs2,d2,ds2,p2,q2,rfl,rfl,rfl,t2,hA⟩:=trodAll_cons hA
 obtain ⟨rfl,rfl,rfl⟩:=trodAll_nil hA
 obtain ⟨rfl,rfl⟩:=trodVars_none hV
 have e1:args=#[v1,v2]:=by cases args;simp_all
 subst e1
 clear hA0 hval0
 simp only[List.append_nil] at hW'
 have hlt:∀x∈p1++p2,x.block<W.heap.size:=fun x hx=>by simpa using hW'.lt x hx
 obtain ⟨a1,r1,s1⟩:=in_struct (n:=8) Try.underlying26 (by kernel_rfl) (hval 0 26 v1 rfl rfl) t1
 obtain ⟨a2,r2,s2⟩:=in_array (n:=8) Try.underlying52 (by kernel_rfl) (hval 1 52 v2 rfl rfl) t2
 refine (walk r1 r2 s1 s2).mono fun e W' ⟨he,hg⟩=>?_
 subst he
 have b1:=Below.trod laidOut (by kernel_rfl) (of_decide_eq_true (by kernel_rfl)) t1 hg (fun x hx=>hlt x (by simp[hx]))
 have b2:=Below.trod laidOut (by kernel_rfl) (of_decide_eq_true (by kernel_rfl)) t2 hg (fun x hx=>hlt x (by simp[hx]))
 refine ⟨_,rfl,[d1,d2],[],p1++p2,[],p1++p2,[],hW',trodAll_cons_mk (shut_bool Try.underlying4 _) trodAll_mk0,?_,rfl,hg.frame _,fun h=>by cases h⟩
 exact trodAll_cons_mk b1 (trodAll_mk1 b2)
theorem over:Rows.twinSameRow.holds Try.pinned (OpenSpec.ofChange Rows.twinSameSpec) :=
 OpenClaim.holds_of_wide 4 Try.f4 rfl rfl rfl rfl rfl rfl rfl ⟨rfl,rfl,rfl,rfl,rfl⟩ rfl rfl rfl rfl rfl (by kernel_rfl) Try.func4 (by kernel_rfl)
  (of_decide_eq_true (by kernel_rfl)) (by unfold Func.isWrapper;first | (rw[if_pos (by decide +kernel)];kernel_rfl) | (rw[if_neg (by decide +kernel)];exact ⟨rfl,rfl⟩))
  (fun os started H enc _=>lifted os started H enc)
/-- ████ THE STATEMENT ████ -/
theorem proved:Rows.TwinSameSaid :=
 over
#print axioms proved
end Go.Proofs.Ytcefdmhbbgafiaa.twinSame
