/- A part of the proof: an interpreter over abstract values, shown right against the model, and what the functions of the chapter compute on it. -/
import Derived.KernelRfl
import Derived.Test.YtaebcalnodgpnaaHx11
set_option linter.unusedVariables false
set_option linter.unusedSimpArgs false
set_option linter.unnecessarySimpa false
section
namespace Hx
open Go
noncomputable section
theorem SlR.wide {α:Type} [Rp α]{P:Nat→Prop}{k k':Nat}{h h':H}{l:List α}{v:AV}(r:SlR NoP k h l v)(hk:k≤k'):SlR P k' h' l v:=by
 obtain ⟨w,hw,q⟩:=Rp.tree (P:=P) (k':=k') (h':=h') (show Rp.rp NoP k h l [v] from ⟨v,rfl,r⟩) hk
 injection hw with hw;subst hw;exact q
theorem Own.lower {g:G}{b b':Nat}{v:AV}{sz:Nat}{rows:List (List AV)}(h:Own g b v sz rows)(hb:b'≤b):Own g b' v sz rows:=by
 rcases h with h | ⟨id,ep,lo,h1,h2,h3,h4⟩
 ·exact .inl h
 ·exact .inr ⟨id,ep,lo,by omega,h2,h3,h4⟩
structure M0 (n p4 q i5 p7:Nat) (nv w5 cl:AV) (row0:List AV) (prow:List (List AV)) (gr:Int) (g:G) (cf:Nat→Int):Prop where
 h0:g.h.get 0=.cells 5 [row0] 0 false false
 h1:g.h.get 1=.cells 3 [[.int .i64 0,.nils,.nils]] 0 false false
 hN:Own g 2 nv 4 (rowsN n cf fun _=>.nils)
 h4:g.h.get p4=.cells 3 [[.int .i64 gr,.nils,nv]] 0 false false
 h5:Own g 2 w5 4 prow
 h7:g.h.get p7=.cells 2 [[cl,.int .i64 0]] 0 false false
 nx:p7<g.nx
section
variable {n p4 q i5 p7:Nat}{nv w5 cl:AV}{row0:List AV}{prow:List (List AV)}{gr:Int}{g g':G}{cf cf':Nat→Int}
theorem M0.node (h:M0 n p4 q i5 p7 nv w5 cl row0 prow gr g cf)(ho:1<q∧q<p4∧p4<i5∧i5<p7)(v5:vid w5=some i5)(vn:vid nv=some q)(hN:Own g' 2 nv 4 (rowsN n cf' fun _=>.nils))(hn:g.nx≤g'.nx)
  (hf:∀i,vid nv≠some i→g'.h.get i=g.h.get i):M0 n p4 q i5 p7 nv w5 cl row0 prow gr g' cf':=by
 have hf':∀i,i≠q→g'.h.get i=g.h.get i:=fun i hi=>hf i (by rw[vn];intro e;injection e with e;exact hi e.symm)
 have:=h.nx
 exact { h0:=by rw[hf' 0 (by omega),h.h0],h1:=by rw[hf' 1 (by omega),h.h1],hN:=hN,h4:=by rw[hf' _ (by omega),h.h4]
         h5:=h.h5.fr hn fun i hi=>hf' i (by have:=vid_inj v5 hi;omega),h7:=by rw[hf' _ (by omega),h.h7],nx:=by omega }
theorem M0.same (h:M0 n p4 q i5 p7 nv w5 cl row0 prow gr g cf)(hf:g'.h=g.h)(hn:g.nx≤g'.nx):M0 n p4 q i5 p7 nv w5 cl row0 prow gr g' cf :=
 { h0:=by rw[hf,h.h0],h1:=by rw[hf,h.h1],hN:=h.hN.fr hn fun i _=>by rw[hf],h4:=by rw[hf,h.h4],h5:=h.h5.fr hn fun i _=>by rw[hf],h7:=by rw[hf,h.h7],nx:=by have:=h.nx;omega }
end
theorem model_ok {d:Nat}{g:G}{x:DraftM}{v:AV}(hd:0<d)(hm:Agg x NoP 0 g.h v):∃r,callV C0 d N.ref33_Draft_Model [v] g=.val r∧MadeV NoP 0 .nil r:=by
 have e0:=agg_same d hm
 obtain ⟨cs,rfl,hc⟩:=hm
 obtain ⟨a,b,c,e,rfl,ha,hb,hcc,hee⟩:=rp_draftM.1 hc
 rw[call_ref33_Draft_Model]
 refine iso_run eq_ref33_Draft_Model (xs:=[.agg [u8v x.1,a,b,c,e]]) (by simp only[mapO,e0]) (by simp[f_ref33_Draft_Model]) snb_made (by decide) hd ?_
 clear e0 hc
 have ha:=ha.tree (h':=.nil) (Nat.le_refl _)
 have hb:=hb.tree (h':=.nil) (Nat.le_refl _)
 have hcc:=hcc.tree (h':=.nil) (Nat.le_refl _)
 have hee:=hee.tree (h':=.nil) (Nat.le_refl _)
 have x8:x.1.toNat<256:=x.1.toNat_lt
 obtain ⟨n,hn⟩:∃n,n=min (max x.2.1.length 1) 4:=⟨_,rfl⟩
 have hn1:1≤n∧n≤4:=by omega
 have hnI:min (max ((x.2.1.length:Nat):Int) 1) 4=(n:Int):=by omega
 obtain ⟨gr,hgr⟩:∃gr:Int,gr=2+(x.1.toNat:Int) % 11:=⟨_,rfl⟩
 have hg1:2≤gr∧gr≤12:=by omega
 simp only[f_ref33_Draft_Model,sx,sy,SO.run,↓reduceIte,Nat.reduceEqDiff,Nat.reduceAdd]
 generalize hg0:((G.empty.new (AObj.cells 5 [[u8v x.fst,a,b,c,e]] 0 false false)).new (AObj.cells 3 [[AV.int IntKind.i64 0,AV.nils,AV.nils]] 0 false false))=g0
 have f0:g0.h.get 0=.cells 5 [[u8v x.1,a,b,c,e]] 0 false false:=by rw[←hg0];simp[sx,H.get_put]
 have f1:g0.h.get 1=.cells 3 [[.int .i64 0,.nils,.nils]] 0 false false:=by rw[←hg0];simp[sx,H.get_put]
 have f2:g0.nx=2:=by rw[←hg0];simp[sx]
 clear hg0
 simp only[f_ref33_Draft_Model_r,sx,sy,sf,SO.run,↓reduceIte,Nat.reduceEqDiff,Nat.reduceAdd,Nat.reduceLeDiff,f0,ha.len,hnI,u8v,bin_rem .u8 (show (0:Int)≤(x.1.toNat:Int) by omega) (show (0:Int)<11 by decide),
  wrap64 (show -9223372036854775808≤(x.1.toNat:Int) % 11 by omega) (show (x.1.toNat:Int) % 11<9223372036854775808 by omega),wrap64 (show -9223372036854775808≤2+(x.1.toNat:Int) % 11 by omega) (show 2+(x.1.toNat:Int) % 11<9223372036854775808 by omega),←hgr,wrap64 (show -9223372036854775808≤gr by omega) (show gr<9223372036854775808 by omega)]
 refine mks_ownL (b:=2) (n:=n) (by simp[room];omega) (by simp[room];omega) (by simp[f2]) fun nv g1 hnv n1 fr1 v1 lg1=>?_
 simp only[sx,sy] at n1 fr1 v1 lg1
 have f0':g1.h.get 0=.cells 5 [[u8v x.1,a,b,c,e]] 0 false false:=by rw[fr1 0 (by omega),f0]
 have f1':g1.h.get 1=.cells 3 [[.int .i64 0,.nils,.nils]] 0 false false:=by rw[fr1 1 (by omega),f1]
 simp only[sx,sy,sf,SO.run,↓reduceIte,Nat.reduceEqDiff,Nat.reduceAdd,Nat.reduceLeDiff,hnv.cell.1,hnv.cell.2]
 refine ⟨?_,?_⟩
 ·simp only[List.reverse_cons,List.reverse_nil,List.nil_append,List.cons_append,lg1]
  refine footsOk_mk [false,false,false,false,false,false,true,false,true,true] [(0,6),(1,6),(2,6),(3,6),(4,6),(0,8),(1,8),(2,8),(3,8),(4,8),(5,8),(6,8),(7,8)] (by simp[All2,rdLook,noLook,bigLook]) (by decide) ?_
  rintro p hp x y hx hy
  simp only[List.mem_cons,List.not_mem_nil,or_false] at hp
  rcases hp with rfl | rfl | rfl | rfl | rfl | rfl | rfl | rfl | rfl | rfl | rfl | rfl | rfl<;>(simp at hx hy;subst hx;subst hy;refine apart_mk rfl rfl rfl rfl ?_ ?_ ?_<;>simp[rdLook,noLook,refIds]<;>omega)
 refine mks_own (b:=2) (n:=n) (by simp[room];omega) (by simp[room];omega) (by simp;try omega) fun w5 g2 hw5 n2 fr2 v2=>?_
 simp only[sx,sy] at n2 fr2 v2
 obtain ⟨p4,hp4⟩:∃p4,p4=g1.nx+1+1:=⟨_,rfl⟩
 rw[←hp4] at n2 fr2 v2
 have k0:g2.h.get 0=.cells 5 [[u8v x.1,a,b,c,e]] 0 false false:=by rw[fr2 0 (by omega),if_neg (by omega),if_neg (by omega),f0']
 have k1:g2.h.get 1=.cells 3 [[.int .i64 0,.nils,.nils]] 0 false false:=by rw[fr2 1 (by omega),if_neg (by omega),if_neg (by omega),f1']
 have k4:g2.h.get p4=.cells 3 [[.int .i64 gr,.nils,nv]] 0 false false:=by rw[fr2 p4 (by omega),if_pos rfl]
 have kN:Own g2 2 nv 4 (List.replicate n [AV.int IntKind.i64 0,AV.nils,AV.nils,AV.nils]):=hnv.fr (by omega) fun i hi=>by have:=vid_inj v1 hi;rw[fr2 i (by omega),if_neg (by omega),if_neg (by omega)]
 simp only[←hp4,sx,sy,sf,SO.run,↓reduceIte,Nat.reduceEqDiff,Nat.reduceAdd,Nat.reduceLeDiff,k0]
 have rA:=ha.rows
 obtain ⟨arows,ra1,ra2⟩:=rA
 have ra1:∀h',rowsOf h' 4 a=some arows:=fun h'=>by
  obtain ⟨rr,q1,-⟩:=ha.all
  have q1:∀h',rowsOf h' 4 a=some rr:=q1
  have:=(q1 .nil).symm.trans ra1
  injection this with this;subst this;exact q1 h'
 refine cpy_own hw5 (by intro h;have:=congrArg List.length h;simp at this;omega) (ra1 _) fun g3 z x5 n3 fr3=>?_
 have k0:g3.h.get 0=.cells 5 [[u8v x.1,a,b,c,e]] 0 false false:=by rw[fr3 0 (by rw[v2];intro h;injection h;omega),k0]
 have k1:g3.h.get 1=.cells 3 [[.int .i64 0,.nils,.nils]] 0 false false:=by rw[fr3 1 (by rw[v2];intro h;injection h;omega),k1]
 have k4:g3.h.get p4=.cells 3 [[.int .i64 gr,.nils,nv]] 0 false false:=by rw[fr3 p4 (by rw[v2];intro h;injection h;omega),k4]
 have kN:Own g3 2 nv 4 (List.replicate n [AV.int IntKind.i64 0,AV.nils,AV.nils,AV.nils]):=kN.fr (by omega) fun i hi=>by have:=vid_inj v1 hi;rw[fr3 i (by rw[v2];intro h;injection h;omega)]
 simp only[sx,sy,sf,SO.run,↓reduceIte,Nat.reduceEqDiff,Nat.reduceAdd,Nat.reduceLeDiff,k0]
 refine mks_ownL (b:=2) (n:=n) (by simp[room];omega) (by simp[room];omega) (by simp;omega) fun w6 g4 hw6 n4 fr4 v4 lg4=>?_
 simp only[sx,sy] at n4 fr4 v4 lg4
 have k0:g4.h.get 0=.cells 5 [[u8v x.1,a,b,c,e]] 0 false false:=by rw[fr4 0 (by omega),k0]
 have hn5:vid w5=some (p4+1+1+1):=by rw[v2]
 have k1:g4.h.get 1=.cells 3 [[.int .i64 0,.nils,.nils]] 0 false false:=by rw[fr4 1 (by omega),k1]
 have k4:g4.h.get p4=.cells 3 [[.int .i64 gr,.nils,nv]] 0 false false:=by rw[fr4 p4 (by omega),k4]
 have kN:Own g4 2 nv 4 (List.replicate n [AV.int IntKind.i64 0,AV.nils,AV.nils,AV.nils]):=kN.fr (by omega) fun i hi=>by have:=vid_inj v1 hi;rw[fr4 i (by omega)]
 have k5:=x5.fr (g':=g4) (by omega) fun i hi=>by have:=vid_inj v2 hi;rw[fr4 i (by omega)]
 simp only[sx,sy,sf,SO.run,↓reduceIte,Nat.reduceEqDiff,Nat.reduceAdd,Nat.reduceLeDiff,k0,hw6.cell.1,hw6.cell.2,hee.cell.1,hee.cell.2]
 refine sat_ex (permutation_ok (P:=fun _=>True) (k:=0) (x:=(List.replicate n (0:UInt8),(0:UInt16),x.2.2.2.2)) (Nat.succ_pos d) ⟨_,rfl,rp_draft2.2 ⟨w6,e,rfl,?_,hee.wide (Nat.le_refl _)⟩⟩) fun r6 hr6=>?_
 ·refine Own.sl (α:=UInt8) (hw6.fr (by simp;omega) fun _ _=>by simp) (by simp;omega) ?_ fun _ _=>trivial
  have:=All2.repl (R:=Rp.rp (fun _=>True) 0 g4.h) (a:=(0:UInt8)) (b:=[AV.int IntKind.u8 0]) (rp_u8.2 rfl) n
  simpa using this
 simp only[sx,sy,sf,SO.run,↓reduceIte,Nat.reduceEqDiff,Nat.reduceAdd,Nat.reduceLeDiff,foot_ref02_Draft_Permutation]
 refine ⟨?_,?_⟩
 ·simp only[List.reverse_cons,List.reverse_nil,List.nil_append,List.cons_append,lg4]
  refine footsOk_mk [false,true,false,false,false,false,false] [(1,2),(1,3)] (by simp[All2,rdLook,noLook,bigLook]) (by decide) ?_
  rintro p hp x y hx hy
  simp only[List.mem_cons,List.not_mem_nil,or_false] at hp
  rcases hp with rfl | rfl<;>(simp at hx hy;subst hx;subst hy;refine apart_mk rfl rfl rfl rfl ?_ ?_ ?_<;>simp[rdLook,noLook,refIds])
 have hpl:=hr6
 simp only[List.length_replicate,show min n 5=n by omega] at hr6
 clear hpl
 simp only[sx,sy,SO.run,↓reduceIte,Nat.reduceEqDiff,Nat.reduceAdd,Nat.reduceLeDiff,k0]
 refine listed_ok (us:=x.2.2.2.1) hcc fun g5 z5 n5 fr5=>?_
 have fr5:=fr5.2.1
 simp only[sx,sy] at z5 n5 fr5
 obtain ⟨p7,hp7⟩:∃p7,p7=g4.nx+1+1+1+1+1+1:=⟨_,rfl⟩
 rw[←hp7] at z5 n5 fr5
 simp only[←hp7,sx,sy,SO.run,↓reduceIte,Nat.reduceEqDiff,Nat.reduceAdd,Nat.reduceLeDiff]
 obtain ⟨prow,hprow⟩:∃p,p=(List.take (List.replicate n [AV.int IntKind.u8 0,AV.int IntKind.u8 0,AV.int IntKind.u8 0,AV.nils]).length arows++List.drop arows.length (List.replicate n [AV.int IntKind.u8 0,AV.int IntKind.u8 0,AV.int IntKind.u8 0,AV.nils])):=⟨_,rfl⟩
 rw[←hprow] at k5
 obtain ⟨num,hnum1,hnum2,hnum3,hnum4⟩:=perm_num x.2.2.2.2 n
 obtain ⟨q,hq⟩:∃q,q=g0.nx+1+1+1+1+1+1:=⟨_,rfl⟩
 rw[←hq] at v1 n1
 obtain ⟨i5,hi5⟩:∃i5,i5=p4+1+1+1:=⟨_,rfl⟩
 rw[←hi5] at hn5
 have ho:1<q∧q<p4∧p4<i5∧i5<p7:=by omega
 have hM:M0 n p4 q i5 p7 nv w5 c [u8v x.1,a,b,c,e] prow gr g5 (fun _=>0) :=
  { h0:=by rw[fr5 0 (by omega),k0],h1:=by rw[fr5 1 (by omega),k1],h4:=by rw[fr5 p4 (by omega),k4],h5:=k5.fr (by omega) fun i hi=>by have:=vid_inj hn5 hi;rw[fr5 i (by omega)]
    hN:=by
     have:rowsN n (fun _=>0) (fun _=>AV.nils)=List.replicate n [AV.int IntKind.i64 0,AV.nils,AV.nils,AV.nils]:=by
      show List.map (fun _=>[AV.int IntKind.i64 0,AV.nils,AV.nils,AV.nils]) (List.range n)=_
      rw[List.map_const',List.length_range]
     rw[this]
     exact kN.fr (by omega) fun i hi=>by have:=vid_inj v1 hi;rw[fr5 i (by omega)]
    h7:=z5,nx:=by omega }
 have hr6r:=hr6.rows
 have hpl:=perm_len x.2.2.2.2 n
 generalize hpp:S.perm x.2.2.2.2 n=pl at *
 have ryn:=rowy_vid v1
 have ry5:=rowy_vid hn5
 have hrow5:∀i,i<n→∃(y:Piece) (oa:AV),prow[i]?=some [u8v y.1,u8v y.2.1,u8v y.2.2.1,oa]∧SlR NoP 0 .nil y.2.2.2 oa:=fun i hi=>by
  by_cases hia:i<arows.length
  ·have hxl:=ra2.len
   obtain ⟨y,hy⟩:∃y,x.2.1[i]?=some y:=⟨_,List.getElem?_eq_getElem (by omega)⟩
   obtain ⟨row,w1,w2⟩:=ra2.get hy
   obtain ⟨oa,rfl,hoa⟩:=rp_piece.1 w2
   refine ⟨y,oa,?_,hoa.tree (Nat.le_refl _)⟩
   rw[hprow,List.length_replicate,List.getElem?_append_left (by rw[List.length_take];omega),List.getElem?_take_of_lt hi,w1]
  ·refine ⟨(0,0,0,[]),.nils,?_,by decide,rfl⟩
   rw[hprow,List.length_replicate,List.getElem?_append_right (by rw[List.length_take];omega),List.getElem?_drop,List.getElem?_replicate,if_pos (by rw[List.length_take];omega)]
   rfl
 have hprl:prow.length=n:=by
  rw[hprow,List.length_append,List.length_take,List.length_drop,List.length_replicate];omega
 simp only[f_ref33_Draft_Model_b0]
 refine wpL_cnt n (by omega) (fun j t df g=>df=[]∧St t [(1,.hptr 0 0 0 0),(2,.hptr 1 0 0 0),(3,.int .i64 (n:Int)),(4,.hptr p4 0 0 0),(5,w5),(6,r6),(7,.hptr p7 0 0 0)]∧∃cf,M0 n p4 q i5 p7 nv w5 c [u8v x.1,a,b,c,e] prow gr g cf∧∀k,k<j→cf (num k)=2)
  ⟨rfl,by simp[St,sx,hp4],_,hM,fun k hk=>by omega⟩ (by simp[sx]) (by decide) (by rintro j t df g v s (rfl | rfl | rfl)<;>simp[St,sx]) ?_ ?_ ?_
 ·rintro j t df g hj ⟨rfl,⟨h1,h2,h3,h4,h5,h6,h7,-⟩,hx⟩ h8
  simp only[sx,sy,SO.run,↓reduceIte,Nat.reduceEqDiff,h1,h2,h3,h4,h5,h6,h7,h8,St]
  exact hx
 ·clear hM
  rintro j t df g hj ⟨rfl,⟨h1,h2,h3,h4,h5,h6,h7,-⟩,cf,hM,hcf⟩ h8
  have hlt:j<pl.length:=by omega
  have hj1:=hnum1 j hj
  have hj2:=hnum2 j hj
  simp only[sx,sy,sf,SO.run,↓reduceIte,Nat.reduceEqDiff,Nat.reduceAdd,Nat.reduceLeDiff,h4,h6,h8,hM.h4,hr6r,hlt,hj1,hM.hN.rows,rowsN_len,hj2,ryn,ci,List.length_map,List.getElem?_map,Option.map_some,Option.isSome_some,Option.getD_some]
  refine store_own (row:=rowN cf (fun _=>.nils) (num j)) (row':=rowN (updf cf (num j) 2) (fun _=>.nils) (num j)) (hM.same (by simp) (by simp;omega)).hN (rowsN_get _ _ hj2) rfl rfl (by simp only[rowN,updf_self];rfl) fun g2 x2 n2 f2=>?_
  rw[rowsN_set rfl (fun i hi=>by unfold rowN;rw[updf_ne _ _ hi])] at x2
  simp only[sx,sy] at n2 f2
  have hM2:=hM.node ho hn5 v1 x2 (by omega) f2
  simp only[sx,sy,sf,SO.run,↓reduceIte,Nat.reduceEqDiff,Nat.reduceAdd,Nat.reduceLeDiff]
  refine ⟨?_,?_⟩
  ·simp only[List.reverse_cons,List.reverse_nil,List.nil_append,List.cons_append]
   exact footsOk_mk [false,false,false,false,false,false,false,false,true] [] (by simp[All2,rdLook,noLook,bigLook]) (by decide) (by simp)
  ·simp only[sx,sy,SO.run,↓reduceIte,Nat.reduceEqDiff,h1,h2,h3,h4,h5,h6,h7,h8,St]
   refine ⟨_,hM2.same (by simp) (by simp),fun k hk=>?_⟩
   by_cases e1:num k=num j
   ·rw[e1,updf_self]
   ·rw[updf_ne _ _ e1]
    exact hcf k (by have:k≠j:=fun e2=>e1 (by rw[e2]);omega)
 ·clear hM
  rintro t df g ⟨rfl,⟨h1,h2,h3,h4,h5,h6,h7,-⟩,cf,hM,hcf⟩
  have hcf2:∀i,i<n→cf i=2:=fun i hi=>by obtain ⟨k,hk,rfl⟩:=hnum4 i hi;exact hcf k hk
  have rest:∀(t:T) (g:G) (cf:Nat→Int),St t [(1,.hptr 0 0 0 0),(2,.hptr 1 0 0 0),(3,.int .i64 (n:Int)),(4,.hptr p4 0 0 0),(5,w5),(6,r6),(7,.hptr p7 0 0 0)]→M0 n p4 q i5 p7 nv w5 c [u8v x.1,a,b,c,e] prow gr g cf→(∀i,i<n→cf i=2∨cf i=3) →
    wp C0 (d+1) none f_ref33_Draft_Model_k23 (fnQ C0 (d+1) [SR.cell true 3 2] fun v g'=>∃P,MadeV P 0 g'.h v) t [] g:=by
   clear h1 h2 h3 h4 h5 h6 h7 hM hcf hcf2
   rintro t g cf ⟨h1,h2,h3,h4,h5,h6,h7,-⟩ hM hcf
   simp only[f_ref33_Draft_Model_k23,sx,sy,SO.run,↓reduceIte,Nat.reduceEqDiff,Nat.reduceAdd,h3]
   have hnx:=hM.nx
   refine mks_own (b:=g.nx) (n:=n) (by simp[room];omega) (by simp[room];omega) (Nat.le_refl _) fun w9 ga hw9 n9 fr9 v9=>?_
   obtain ⟨em,hem⟩:∃em:ME,em=⟨n,p4,q,i5,p7,g.nx,g.nx+1,nv,w5,w9,c,gr,[u8v x.1,a,b,c,e],prow,x.2.2.2.1⟩:=⟨_,rfl⟩
   have e_n:em.n=n:=by rw[hem]
   have e_gr:em.gr=gr:=by rw[hem]
   have he:em.Ok:=by
    rw[hem]
    exact { ord:=⟨ho.1,ho.2.1,ho.2.2.1,ho.2.2.2,hnx,Nat.lt_succ_self _⟩,n1:=hn1,g1:=hg1,vn:=v1,v5:=hn5,v9:=v9,l7:=hcc }
   have hpr:MPr em:=by rw[hem];exact ⟨hprl,hrow5⟩
   have hN:MN em r6 pl num:=by rw[hem];exact ⟨hr6,hnum1,hnum2,hnum3,hnum4⟩
   have hI:MI em ga (fun _=>.nils) (fun _=>[]) cf (List.replicate em.n false) 0:=by
    rw[hem]
    exact { h0:=by rw[fr9 0 (by omega),hM.h0],h1:=by rw[fr9 1 (by omega),hM.h1],h4:=by show ga.h.get p4=_;rw[fr9 p4 (by omega),hM.h4]
            h5:=(hM.h5.fr (by omega) fun i hi=>fr9 i (hM.h5.lt hi).2).lower (Nat.zero_le _),hN:=(hM.hN.fr (by omega) fun i hi=>fr9 i (hM.hN.lt hi).2).lower (Nat.zero_le _)
            h7:=⟨0,Int.le_refl _,Int.le_refl _,by show ga.h.get p7=_;rw[fr9 p7 (by omega),hM.h7]⟩
            h9:=by rw[List.map_replicate];exact hw9.lower (Nat.zero_le _)
            fam:=⟨fun k _=>.inl ⟨rfl,rfl⟩,fun k l _ _ _ id h=>by cases h⟩,nx:=by show g.nx+1≤ga.nx;omega }
   have hD:MD em (fun _=>[]) [] (fun _=>[]) (fun _=>[]) (fun _=>[]):=⟨trivial,fun _ _=>rfl,fun _ _=>rfl,fun _ _=>rfl⟩
   simp only[sx,sy,SO.run,↓reduceIte,Nat.reduceEqDiff,Nat.reduceAdd]
   refine m_b2 (r6:=r6) (Nat.succ_pos d) he hpr (by simp[MSt,St,sx,hem,h1,h2,h3,h4,h5,h6,h7]) (by simp[sx]) hI hD (by rw[e_n];exact hcf) ?_
   clear hI hD h1 h2 h3 h4 h5 h6 h7
   intro t g V W ow R N ht hI hD hF hol hon hR4 hN1
   obtain ⟨h1,h2,h3,h4,h5,h6,h7,h9,-⟩:=ht
   simp only[f_ref33_Draft_Model_k22,sx,sy,SO.run,↓reduceIte,Nat.reduceEqDiff,Nat.reduceAdd]
   refine m_b4 (r6:=r6) (us:=x.2.2.1) (Nat.succ_pos d) he (g0:=u8v x.1) (x0:=a) (b1:=b) (c0:=c) (e0:=e) (by rw[hem]) hb (by simp[MSt,St,sx,h1,h2,h3,h4,h5,h6,h7,h9]) (by simp[sx]) hI hD hF hon hR4 hN1 ?_
   clear hI hD hF hon h1 h2 h3 h4 h5 h6 h7 h9 hN1
   intro t g V W R N ht hI hD hF hon hR6 hN3
   obtain ⟨h1,h2,h3,h4,h5,h6,h7,h9,-⟩:=ht
   simp only[f_ref33_Draft_Model_k21,sx,sy,SO.run,↓reduceIte,Nat.reduceEqDiff,Nat.reduceAdd]
   refine m_b19 (r6:=r6) (Nat.succ_pos d) he hpr hN (by simp[MSt,St,sx,h1,h2,h3,h4,h5,h6,h7,h9]) (by simp[sx]) hI hD hF hol hon hR6 hN3 ?_
   clear hI hD h1 h2 h3 h4 h5 h6 h7 h9
   intro t g V W F O ht hI hD hnd
   obtain ⟨h1,h2,h3,h4,h5,h6,h7,h9,-⟩:=ht
   have hA:=hI.agg he hD (by omega) fun i hi=>by
    obtain ⟨k,hk,rfl⟩:=hN.sur i hi
    refine ⟨by have:=(hnd k hk).len;omega,by have:=hN3 (num k);omega,?_⟩
    rw[(hnd k hk).outs]
    refine Nat.le_trans allF_len ?_
    have hb:=szs_bound hF (hnd k hk).places (hF.inc _ hi)
    have:=prod_bound (l:=szs cf R (F (num k)) (N (num k))) fun y hy=>by have:=hb y hy;omega
    have hl4:(szs cf R (F (num k)) (N (num k))).length≤7:=by have:=(hnd k hk).len;have:=hN3 (num k);simp[szs];omega
    have:=pow4_mono hl4
    have:(4:Int) ^ 7=16384:=by decide
    omega
   have hbb:=hI.nx
   simp only[f_ref33_Draft_Model_k20,sx,sy,SO.run,↓reduceIte,Nat.reduceEqDiff,Nat.reduceAdd,Nat.reduceLeDiff,h2,h4,hI.h4,hI.h1]
   refine ⟨fun i=>1<i,_,⟨em,cf,R,F,N,O,num,rfl,he.n1,he.g1,hF,hR6,hN3,hN.lt,hN.inj,hN.sur,hnd⟩,?_⟩
   obtain ⟨cs,hcs,hA⟩:=hA
   exact ⟨cs,hcs,Rp.mono hA (fun i hi=>⟨hi,by rw[get_put_ne _ _ _ (by omega)]⟩) (Nat.le_refl _)⟩
  obtain ⟨y,oa,hy,hoa⟩:=hrow5 0 (by omega)
  have hjp:0<prow.length:=by omega
  have z0:=hnum1 0 (by omega)
  have z1:=hnum2 0 (by omega)
  have hlt:0<pl.length:=by omega
  have ix5:∀g':G,(rowsOf g'.h 4 w5).isSome=true→0<((rowsOf g'.h 4 w5).getD []).length→ixsV 4 w5 (.int .i64 0) g'=.val (rptr 4 w5 0 0):=fun g' q1 q2=>ixs_nat (i:=0) q1 q2
  have ix6:∀g':G,(rowsOf g'.h 1 r6).isSome=true→0<((rowsOf g'.h 1 r6).getD []).length→ixsV 1 r6 (.int .i64 0) g'=.val (rptr 1 r6 0 0):=fun g' q1 q2=>ixs_nat (i:=0) q1 q2
  simp only[f_ref33_Draft_Model_k24,sx,sy,SO.run,↓reduceIte,Nat.reduceEqDiff,Nat.reduceAdd,h5,ix5,hM.h5.rows,hjp,hy,ry5,u8v,Option.isSome_some,Option.getD_some,bin_rem .u8 (show (0:Int)≤(y.1.toNat:Int) by omega) (show (0:Int)<3 by decide)]
  refine bifP_mk (fun hb=>?_) (fun hb=>?_)
  ·simp only[sx,sy,sf,SO.run,↓reduceIte,Nat.reduceEqDiff,Nat.reduceAdd,Nat.reduceLeDiff,h4,h6,ix6,hM.h4,hr6r,hlt,z0,hM.hN.rows,rowsN_len,z1,ryn,ci,List.length_map,List.getElem?_map,Option.map_some,Option.isSome_some,Option.getD_some]
   refine store_own (row:=rowN cf (fun _=>.nils) (num 0)) (row':=rowN (updf cf (num 0) 3) (fun _=>.nils) (num 0)) (hM.same (by simp) (by simp;omega)).hN (rowsN_get _ _ z1) rfl rfl (by simp only[rowN,updf_self];rfl) fun g2 x2 n2 f2=>?_
   rw[rowsN_set rfl (fun i hi=>by unfold rowN;rw[updf_ne _ _ hi])] at x2
   simp only[sx,sy] at n2 f2
   have hM2:=hM.node ho hn5 v1 x2 (by omega) f2
   simp only[sx,sy,sf,SO.run,↓reduceIte,Nat.reduceEqDiff,Nat.reduceAdd,Nat.reduceLeDiff]
   refine ⟨?_,?_⟩
   ·simp only[List.reverse_cons,List.reverse_nil,List.nil_append,List.cons_append]
    exact footsOk_mk [false,false,false,false,false,false,false,true] [] (by simp[All2,rdLook,noLook,bigLook]) (by decide) (by simp)
   ·refine rest _ _ _ (by simp[St,sx,h1,h2,h3,h4,h5,h6,h7]) (hM2.same (by simp) (by simp)) fun i hi=>?_
    by_cases e1:i=num 0
    ·subst e1;rw[updf_self];exact .inr rfl
    ·rw[updf_ne _ _ e1];exact .inl (hcf2 i hi)
  ·simp only[sx]
   exact rest _ _ cf (by simp[St,sx,h1,h2,h3,h4,h5,h6,h7]) hM fun i hi=>.inl (hcf2 i hi)
end
end Hx
end
section
namespace Hx
open Go
noncomputable section
def eid:AV→Option Nat
 | .hsl id _ _ _ _=>some id
 | .hptr id _ _ _=>some id
 | _=>none
def Bx (g:G)(b:Nat)(v:AV)(row:List AV):Prop:=∃id,b≤id∧id<g.nx∧v=.hptr id 0 0 0∧g.h.get id=.cells row.length [row] 0 false false
inductive En where
 | sl (sz:Nat) (rows:List (List AV))
 | bx (row:List AV)
def En.ok (g:G)(b:Nat)(v:AV):En→Prop
 | .sl sz rows=>Own g b v sz rows
 | .bx row=>Bx g b v row
theorem eid_own {g:G}{b:Nat}{v:AV}{sz:Nat}{rows:List (List AV)}(h:Own g b v sz rows):eid v=vid v:=by
 rcases h with ⟨rfl,-⟩ | ⟨id,ep,lo,h1,h2,rfl,h3⟩<;>rfl
theorem En.lt {g:G}{b:Nat}{v:AV}{e:En}(h:e.ok g b v){i:Nat}(hi:eid v=some i):b≤i∧i<g.nx:=by
 cases e with
 | sl sz rows =>
  have h:Own g b v sz rows:=h
  rw[eid_own h] at hi;exact h.lt hi
 | bx row =>
  obtain ⟨id,h1,h2,rfl,h3⟩:=h
  injection hi with hi;subst hi;exact ⟨h1,h2⟩
theorem En.fr {g g':G}{b:Nat}{v:AV}{e:En}(h:e.ok g b v)(hn:g.nx≤g'.nx)(hf:∀i,eid v=some i→g'.h.get i=g.h.get i):e.ok g' b v:=by
 cases e with
 | sl sz rows =>
  have h:Own g b v sz rows:=h
  exact h.fr hn fun i hi=>hf i (by rw[eid_own h];exact hi)
 | bx row =>
  obtain ⟨id,h1,h2,rfl,h3⟩:=h
  exact ⟨id,h1,by omega,rfl,by rw[hf id rfl,h3]⟩
section
variable {κ:Type}
structure Hp (g:G) (b:Nat) (L:κ→Prop) (V:κ→AV) (E:κ→En):Prop where
 ok:∀k,L k→(E k).ok g b (V k)
 sep:∀k l,L k→L l→k≠l→∀id,eid (V k)=some id→eid (V l)≠some id
 nx:b≤g.nx
variable {g g':G}{b:Nat}{L L':κ→Prop}{V:κ→AV}{E:κ→En}{k:κ}
theorem Hp.sub (h:Hp g b L V E)(hl:∀k,L' k→L k):Hp g b L' V E:=⟨fun k hk=>h.ok k (hl k hk),fun k l hk hl2=>h.sep k l (hl k hk) (hl l hl2),h.nx⟩
theorem Hp.step (h:Hp g b L V E)(hn:g.nx≤g'.nx)(hf:∀i,b≤i→i<g.nx→g'.h.get i=g.h.get i):Hp g' b L V E :=
 ⟨fun k hk=>En.fr (h.ok k hk) hn fun i hi=>hf i (En.lt (h.ok k hk) hi).1 (En.lt (h.ok k hk) hi).2,h.sep,Nat.le_trans h.nx hn⟩
theorem Hp.same (h:Hp g b L V E)(hf:g'.h=g.h)(hn:g.nx≤g'.nx):Hp g' b L V E:=h.step hn fun i _ _=>by rw[hf]
theorem Hp.own (h:Hp g b L V E)(hk:L k){sz:Nat}{rows:List (List AV)}(he:E k=.sl sz rows):Own g b (V k) sz rows:=by
 have:=h.ok k hk;rw[he] at this;exact this
theorem Hp.box (h:Hp g b L V E)(hk:L k){row:List AV}(he:E k=.bx row):Bx g b (V k) row:=by
 have:=h.ok k hk;rw[he] at this;exact this
end
section
variable {κ:Type} [DecidableEq κ]
def ups {α:Type}(f:κ→α)(k:κ)(x:α):κ→α:=fun j=>if j=k then x else f j
theorem ups_self {α:Type}(f:κ→α)(k:κ)(x:α):ups f k x k=x:=if_pos rfl
theorem ups_ne {α:Type}(f:κ→α){k j:κ}(x:α)(h:j≠k):ups f k x j=f j:=if_neg h
theorem ups_eq {α:Type}{f:κ→α}{k:κ}{x:α}(h:f k=x):ups f k x=f:=by
 funext j;by_cases e:j=k
 ·subst e;rw[ups_self,h]
 ·exact ups_ne _ _ e
variable {g g':G}{b:Nat}{L L':κ→Prop}{V:κ→AV}{E:κ→En}{k:κ}
theorem Hp.set (h:Hp g b L V E){v':AV}{e':En}(hk:L k)(ho:e'.ok g' b v')(hn:g.nx≤g'.nx)(hf:∀i,b≤i→i<g.nx→eid (V k)≠some i→g'.h.get i=g.h.get i)
  (hv:eid v'=eid (V k)∨∃i,eid v'=some i∧g.nx≤i):Hp g' b L (ups V k v') (ups E k e'):=by
 refine ⟨fun j hj=>?_,fun j l hj hl hne id e1 e2=>?_,Nat.le_trans h.nx hn⟩
 ·by_cases e:j=k
  ·subst e;rw[ups_self,ups_self];exact ho
  ·rw[ups_ne _ _ e,ups_ne _ _ e]
   exact En.fr (h.ok j hj) hn fun i hi=>hf i (En.lt (h.ok j hj) hi).1 (En.lt (h.ok j hj) hi).2 fun e2=>h.sep j k hj hk e i hi e2
 ·have key:∀j,L j→j≠k→∀id,eid (V j)=some id→eid v'≠some id:=fun j hj hne id e1 e2=>by
   rcases hv with hv | ⟨i,hv,hi⟩
   ·exact h.sep j k hj hk hne id e1 (hv ▸ e2)
   ·rw[hv] at e2;injection e2 with e2;have:=(En.lt (h.ok j hj) e1).2;omega
  by_cases a:j=k
  ·subst a
   rw[ups_self] at e1
   rw[ups_ne _ _ (Ne.symm hne)] at e2
   exact key l hl (Ne.symm hne) id e2 e1
  ·rw[ups_ne _ _ a] at e1
   by_cases c:l=k
   ·subst c;rw[ups_self] at e2;exact key j hj a id e1 e2
   ·rw[ups_ne _ _ c] at e2;exact h.sep j l hj hl hne id e1 e2
theorem Hp.add (h:Hp g b L V E){v':AV}{e':En}(hk:¬L k)(ho:e'.ok g' b v')(hn:g.nx≤g'.nx)(hf:∀i,b≤i→i<g.nx→g'.h.get i=g.h.get i)
  (hv:∀i,eid v'=some i→g.nx≤i) (hl:∀j,L' j→L j∨j=k):Hp g' b L' (ups V k v') (ups E k e'):=by
 refine ⟨fun j hj=>?_,fun j l hj hl2 hne id e1 e2=>?_,Nat.le_trans h.nx hn⟩
 ·rcases hl j hj with hj | rfl
  ·have e:j≠k:=fun e=>hk (e ▸ hj)
   rw[ups_ne _ _ e,ups_ne _ _ e]
   exact En.fr (h.ok j hj) hn fun i hi=>hf i (En.lt (h.ok j hj) hi).1 (En.lt (h.ok j hj) hi).2
  ·rw[ups_self,ups_self];exact ho
 ·have key:∀j,L j→∀id,eid (V j)=some id→eid v'≠some id:=fun j hj id e1 e2=>by
   have:=hv id e2;have:=(En.lt (h.ok j hj) e1).2;omega
  rcases hl j hj with hj | rfl
  ·have e:j≠k:=fun e=>hk (e ▸ hj)
   rw[ups_ne _ _ e] at e1
   rcases hl l hl2 with hl2 | rfl
   ·have e':l≠k:=fun e=>hk (e ▸ hl2)
    rw[ups_ne _ _ e'] at e2
    exact h.sep j l hj hl2 hne id e1 e2
   ·rw[ups_self] at e2;exact key j hj id e1 e2
  ·rw[ups_self] at e1
   rcases hl l hl2 with hl2 | rfl
   ·have e':l≠j:=fun e=>hne e.symm
    rw[ups_ne _ _ e'] at e2
    exact key l hl2 id e2 e1
   ·exact hne rfl
theorem Own.new {g:G}{b:Nat}(hb:b≤g.nx)(sz:Nat)(rows:List (List AV)):Own (g.new (.cells sz rows 0 false false)) b (.hsl g.nx 0 0 rows.length none) sz rows :=
 .inr ⟨g.nx,0,false,hb,by simp,rfl,by simp[get_put_eq]⟩
theorem Hp.app (h:Hp g b L V E)(hk:L k){sz bytes:Nat}{rows new:List (List AV)}(he:E k=.sl sz rows){x:AV}{K:AV→G→Prop}{D:ADf→Prop}(hx:rowsOf g.h sz x=some new)
  (hr:(rows.length+new.length)*bytes≤room)
  (kk:∀v' g',Hp g' b L (ups V k v') (ups E k (.sl sz (rows++new)))→g.nx≤g'.nx→(∀i,i<b→g'.h.get i=g.h.get i)→(∀i,i<g.nx→eid (V k)≠some i→g'.h.get i=g.h.get i)→(∀i∈g'.lg,i∈g.lg∨b≤i)→v'.cells=[v']→v'.isTup=false→K v' g') :
  (appendA sz bytes (V k) x g).sat K g D:=by
 have ho:=h.own hk he
 refine append_own ho hx h.nx hr fun v' g' hv' hn hf hvid hlg=>?_
 refine kk v' g' (h.set hk (e':=.sl sz (rows++new)) hv' hn (fun i _ hi hne=>hf i hi (by rw[←eid_own ho];exact hne)) ?_) hn (fun i hi=>hf i (Nat.lt_of_lt_of_le hi h.nx) fun e=>by have:=(ho.lt e).1;omega)
  (fun i hi hne=>hf i hi (by rw[←eid_own ho];exact hne)) hlg hv'.cell.1 hv'.cell.2
 rw[eid_own hv',eid_own ho];exact hvid
theorem Hp.put (h:Hp g b L V E)(hk:L k){sz n i off:Nat}{rows:List (List AV)}{row row':List AV}(he:E k=.sl sz rows){x:AV}{K:AV→G→Prop}{D:ADf→Prop}(hr:rows[i]?=some row)
  (hl:x.cells.length=n) (ht:x.isTup=false) (hp:putCells row off x.cells=some row')
  (kk:∀g',Hp g' b L V (ups E k (.sl sz (rows.set i row')))→g'.nx=g.nx→(∀i,i<b→g'.h.get i=g.h.get i)→(∀i,eid (V k)≠some i→g'.h.get i=g.h.get i)→K .undef g'):(storeV n (rptr sz (V k) i off) x g).sat K g D:=by
 have ho:=h.own hk he
 refine store_own ho hr hl ht hp fun g' hv' hn hf=>?_
 have:=h.set hk (e':=.sl sz (rows.set i row')) hv' (by omega) (fun i _ hi hne=>hf i (by rw[←eid_own ho];exact hne)) (.inl rfl)
 rw[ups_eq (f:=V) rfl] at this
 exact kk g' this hn (fun i hi=>hf i fun e=>by have:=(ho.lt e).1;omega) fun i hne=>hf i (by rw[←eid_own ho];exact hne)
end
end
end Hx
end
section
namespace Hx
open Go
noncomputable section
theorem seq_cut {C:Cfg}{d:Nat}{rd:Option Nat}{l:List SI}{b:SC}{Q:QT}{t:T}{df:List ADf}{g:G}{P:PT}(h1:wpO C d rd l P t df g)(h2:∀t df g,P t df g→wp C d rd b Q t df g):wp C d rd (.seq (.ops l) b) Q t df g:=by
 rw[wp_seq]
 have:wp C d rd (.ops l) (fun e t df g=>e=.norm∧P t df g) t df g:=by rw[wp_ops];simpa using h1
 refine wp_mono _ this ?_
 rintro e t df g ⟨rfl,h⟩
 exact h2 t df g h
structure Bnd (K:Nat) (m:Causal):Prop where
 r:m.roots.length≤K
 rr:∀x∈m.roots,x.length≤K
 n:m.nodes.length≤K
 f:∀x∈m.nodes,x.frm.length≤K∧x.noise.length≤K∧x.out.length≤K
abbrev Ky:Type:=Nat×Nat
def LB (R n:Nat):Ky→Prop:=fun k=>(k.1=0∧k.2<R)∨(1≤k.1∧k.1≤3∧k.2<n)∨k=(4,0)∨k=(4,1)
structure BD (K R n:Nat) (V:Ky→AV) (E:Ky→En) (Rt:Nat→List Int) (c:Nat→Int) (F:Nat→Nat→List Int):Prop where
 r:∀i,i<R→E (0,i)=.sl 1 ((Rt i).map ci)∧(Rt i).length≤K
 f:∀q i,1≤q→q≤3→i<n→E (q,i)=.sl 1 ((F q i).map ci)∧(F q i).length≤K
 rs:E (4,0)=.sl 1 ((List.range R).map fun i=>[V (0,i)])
 ns:E (4,1)=.sl 4 ((List.range n).map fun i=>[.int .i64 (c i),V (1,i),V (2,i),V (3,i)])
def BB (g:G)(brow:List AV)(gr:Int)(a b:AV):Prop:=g.h.get 0=.cells 4 [brow] 0 false false∧g.h.get 1=.cells 3 [[.int .i64 gr,a,b]] 0 false false∧g.h.get 2=.cells 3 [[.int .i64 0,.nils,.nils]] 0 false false
theorem BB.fr {g g':G}{brow:List AV}{gr:Int}{a b:AV}(h:BB g brow gr a b)(hf:∀i,i<3→g'.h.get i=g.h.get i):BB g' brow gr a b :=
 ⟨by rw[hf 0 (by omega),h.1],by rw[hf 1 (by omega),h.2.1],by rw[hf 2 (by omega),h.2.2]⟩
def LX (R j:Nat):Ky→Prop:=fun k=>LB R j k∨k=(5,0)∨k=(1,j)∨k=(2,j)∨k=(3,j)
structure NB (R j p:Nat) (g:G) (brow:List AV) (gr:Int) (a b:AV) (V0:Ky→AV) (E0:Ky→En) (card:Int) (f1 f2 f3:List Int) (V:Ky→AV) (E:Ky→En) (K:Nat):Prop where
 hp:Hp g 3 (LX R j) V E
 bb:BB g brow gr a b
 vb:V (5,0)=.hptr p 0 0 0
 bx:E (5,0)=.bx [.int .i64 card,V (1,j),V (2,j),V (3,j)]
 e1:E (1,j)=.sl 1 (f1.map ci)
 e2:E (2,j)=.sl 1 (f2.map ci)
 e3:E (3,j)=.sl 1 (f3.map ci)
 old:∀k,LB R j k→V k=V0 k∧E k=E0 k
 len:f1.length≤K∧f2.length≤K∧f3.length≤K
end
end Hx
end
section
namespace Hx
open Go
noncomputable section
structure TI (g:G) (q:Nat) (m:Causal) (k1 k2 act u1 u2 u3:AV) (A B W:List Int):Prop where
 a1:g.h.get 1=.cells 1 [[act]] 0 false false
 a2:g.h.get 2=.cells 3 [[.nils,.nils,.nils]] 0 false false
 a4:g.h.get 4=.cells 4 [[.int .i64 m.grain,k1,k2,.int .i64 (S.hidden m)]] 0 false false
 bq:g.h.get q=.cells 3 [[u1,u2,u3]] 0 false false
 o1:Own g 5 u1 1 (A.map ci)
 o2:Own g 5 u2 1 (B.map ci)
 o3:Own g 5 u3 1 (W.map ci)
 q5:5≤q∧q<g.nx
 n1:∀i,vid u1=some i→i≠q∧vid u2≠some i∧vid u3≠some i
 n2:∀i,vid u2=some i→i≠q∧vid u3≠some i
 n3:∀i,vid u3=some i→i≠q
section
variable {g g':G}{q:Nat}{m:Causal}{k1 k2 act u1 u2 u3:AV}{A B W:List Int}
theorem TI.fr (h:TI g q m k1 k2 act u1 u2 u3 A B W)(hn:g.nx≤g'.nx)(hf:∀i,i<g.nx→g'.h.get i=g.h.get i):TI g' q m k1 k2 act u1 u2 u3 A B W:=by
 have q5:=h.q5
 exact ⟨by rw[hf _ (by omega),h.a1],by rw[hf _ (by omega),h.a2],by rw[hf _ (by omega),h.a4],by rw[hf _ (by omega),h.bq],h.o1.fr hn fun i hi=>hf i (h.o1.lt hi).2,h.o2.fr hn fun i hi=>hf i (h.o2.lt hi).2,
  h.o3.fr hn fun i hi=>hf i (h.o3.lt hi).2,by omega,h.n1,h.n2,h.n3⟩
end
end
end Hx
end
section
namespace Hx
open Go
noncomputable section
theorem cutG {C:Cfg}{d:Nat}{rd:Option Nat}{a b:SC}{Q:QT}{t:T}{df:List ADf}{g:G}{P:PT}(h1:wp C d rd a (fun e t df g=>e=.norm∧P t df g) t df g)(h2:∀t df g,P t df g→wp C d rd b Q t df g):wp C d rd (.seq a b) Q t df g:=by
 rw[wp_seq]
 refine wp_mono _ h1 ?_
 rintro e t df g ⟨rfl,h⟩
 exact h2 t df g h
end
end Hx
end
section
namespace Hx
open Go
noncomputable section
abbrev QI:=Int×Int
theorem agg_q {x:QI}{P:Nat→Prop}{k:Nat}{h:H}{v:AV}:Agg x P k h v↔v=.agg [.int .i64 x.1,.int .i64 x.2]:=by
 constructor
 ·rintro ⟨cs,rfl,hc⟩
  obtain ⟨a,b,rfl,h1,h2⟩:=rp_pair.1 hc
  rw[rp_int.1 h1,rp_int.1 h2];rfl
 ·rintro rfl
  exact ⟨_,rfl,rp_pair.2 ⟨[.int .i64 x.1],[.int .i64 x.2],rfl,rp_int.2 rfl,rp_int.2 rfl⟩⟩
theorem common_ok {d:Nat}{g:G}{a b:Nat}(hd:0<d)(ha:a<18446744073709551616)(hb:b<18446744073709551616) :
  callV C0 d N.frac_common [.int .u64 (a:Int),.int .u64 (b:Int)] g=.val (.int .u64 (Nat.gcd a b:Int)):=by
 rw[call_frac_common]
 refine iso_int eq_frac_common (xs:=[.int .u64 (a:Int),.int .u64 (b:Int)]) (by simp only[mapO,arg_int 0]) (by simp[f_frac_common]) hd ?_
 simp only[f_frac_common,sx,sy,SO.run,↓reduceIte,Nat.reduceEqDiff]
 refine wpL_mk (fun k t df g=>df=[]∧∃x y:Nat,x<18446744073709551616∧y<18446744073709551616∧k=y∧Nat.gcd x y=Nat.gcd a b∧St t [(0,.int .u64 (x:Int)),(1,.int .u64 (y:Int))]) b
  ⟨rfl,a,b,ha,hb,rfl,rfl,by simp[sx,St]⟩ ?_
 rintro y t df g ⟨rfl,x,y',hx,hy,rfl,hg,h0,h1,-⟩
 simp only[f_frac_common_b0,sx,sy,SO.run,↓reduceIte,Nat.reduceEqDiff,h0,h1]
 refine bifP_mk (fun hq=>?_) (fun hq=>?_)
 ·have hy0:0<y:=by simp at hq;omega
  have hm:=Nat.mod_lt x hy0
  simp only[sx,sy,SO.run,↓reduceIte,Nat.reduceEqDiff,h0,h1,bin_rem .u64 (show (0:Int)≤(x:Int) by omega) (show (0:Int)<(y:Int) by omega),true_and]
  exact ⟨x % y,hm,y,x % y,hy,by omega,rfl,by rw[←hg,Nat.gcd_comm y,←Nat.gcd_rec,Nat.gcd_comm],by simp[St,sx]⟩
 ·have hy0:y=0:=by simp at hq;omega
  subst hy0
  rw[Nat.gcd_zero_right] at hg
  simp only[f_frac_common_k1,sx,sy,SO.run,↓reduceIte,Nat.reduceEqDiff,h0,hg]
theorem fsize_ok {d:Nat}{g:G}{a:Int}(hd:0<d)(ha:0≤a∧a<9223372036854775808):callV C0 d N.frac_size [.int .i64 a] g=.val (.int .u64 a):=by
 rw[call_frac_size]
 refine iso_int eq_frac_size (xs:=[.int .i64 a]) (by simp only[mapO,arg_int 0]) (by simp[f_frac_size]) hd ?_
 simp only[f_frac_size,sx,sy,SO.run,↓reduceIte,Nat.reduceEqDiff]
 refine bifP_mk (fun hq=>?_) (fun hq=>?_)
 ·simp at hq;omega
 ·simp only[sx,sy,SO.run,↓reduceIte,Nat.reduceEqDiff,wrapu64 ha.1 (show a<18446744073709551616 by omega)]
theorem fit_ok {d:Nat}{g:G}{x y:Nat}(hd:0<d)(hx:x≤4611686018427387903)(hy:y≤4611686018427387903) :
  callV C0 d N.frac_fit [.bool false,.agg [.int .u64 0,.int .u64 (x:Int)],.agg [.int .u64 0,.int .u64 (y:Int)]] g=.val (.agg [.int .i64 (x:Int),.int .i64 (y:Int)]):=by
 have key:∃r,callV C0 d N.frac_fit [.bool false,.agg [.int .u64 0,.int .u64 (x:Int)],.agg [.int .u64 0,.int .u64 (y:Int)]] g=.val r∧Agg (((x:Int),(y:Int)):QI) NoP 0 .nil r:=by
  rw[call_frac_fit]
  refine iso_run eq_frac_fit (xs:=[.bool false,.agg [.int .u64 0,.int .u64 (x:Int)],.agg [.int .u64 0,.int .u64 (y:Int)]]) rfl (by simp[f_frac_fit]) (snb_agg _) (by decide) hd ?_
  have z0:∀id,ixaV 2 1 (.hptr id 0 0 0) (.int .i64 0)=.val (.hptr id 0 0 0):=fun id=>ixa_h 2 1 id 0 0 0 .i64 (j:=0) (by decide)
  have z1:∀id,ixaV 2 1 (.hptr id 0 0 0) (.int .i64 1)=.val (.hptr id 0 0 1):=fun id=>ixa_h 2 1 id 0 0 0 .i64 (j:=1) (by decide)
  have hx':decide ((4611686018427387903:Int)<(x:Int))=false:=by simp;omega
  have hy':decide ((4611686018427387903:Int)<(y:Int))=false:=by simp;omega
  simp only[f_frac_fit,f_frac_fit_r,sx,sy,SO.run,↓reduceIte,Nat.reduceEqDiff,Nat.reduceAdd,Nat.reduceLeDiff,z0,z1,hx',hy',H.get_put,decide_true,Bool.not_true]
  simp only[f_frac_fit_k0,sx,sy,SO.run,↓reduceIte,Nat.reduceEqDiff,Nat.reduceAdd,Nat.reduceLeDiff,z0,z1,H.get_put,wrap64 (show -9223372036854775808≤(x:Int) by omega) (show (x:Int)<9223372036854775808 by omega),wrap64 (show -9223372036854775808≤(y:Int) by omega) (show (y:Int)<9223372036854775808 by omega)]
  exact ⟨NoP,agg_q.2 rfl⟩
 obtain ⟨r,h1,h2⟩:=key
 rw[h1,agg_q.1 h2]
def S.low (n d:Nat):QI:=(((n / Nat.gcd n d:Nat):Int),((d / Nat.gcd n d:Nat):Int))
end
end Hx
end
section
namespace Hx
open Go
noncomputable section
theorem sat_dfr (a:ADf)(K:AV→G→Prop)(g:G)(D:ADf→Prop):(OR.dfr a).sat K g D=D a:=rfl
theorem kD_none (W:PT)(t:T)(df:List ADf)(g:G)(a:ADf):kD W none t df g a=W t (a::df) g:=rfl
theorem run_defer {C:Cfg}{d n:Nat}{t:T}{g:G}{f:Nat}{first cap:List AV}(h:tat t n=.clo f first cap):SO.run C d none t g (.raw (.defer ⟨.value (.tmp n),#[],#[]⟩))=.dfr (.call (.clo f [] cap) (first++[])):=by
 have:(gp AV.undef n).run t=.clo f first cap:=by rw[gp_run];exact h
 simp only[SO.run,cOpT,cOp,cRho,cRhos,this]
theorem run_defer' {C:Cfg}{d n:Nat}{t:T}{g:G}{f:Nat}{first cap:List AV}(h:tat t n=.clo f first cap):(cOpT C (.defer ⟨.value (.tmp n),#[],#[]⟩)).run (I C) d none t g=.dfr (.call (.clo f [] cap) (first++[])):=run_defer h
theorem endP_call {C:Cfg}{d:Nat}{r:List SR}{t:T}{g g':G}{K:AV→G→Prop}{f:Nat}{cap:List AV}{v:AV}(hc:(I C).call d f cap g=.ok v g')(h:resP r t g' fun vs=>K (oneOrTup vs) g'):endP C d r t [.call (.clo f [] cap) []] g K:=by
 unfold endP
 have:runDf (I C) d [.call (.clo f [] cap) []] g=some g':=by
  simp only[runDf,List.nil_append,hc]
 rw[this];exact h
theorem run_recover {C:Cfg}{d:Nat}{rd:Option Nat}{t:T}{g:G}:SO.run C d rd t g (.raw (.call ⟨.builtin .recover,#[],#[]⟩))=.val .nili:=rfl
theorem guard1_ok (d:Nat)(a b:AV)(g:G):∃v,(I C0).call d N.frac_guardapi_Q_1 [a,b] g=.ok v g:=by
 have key:=call_ok (C:=C0) (d:=d) (f:=N.frac_guardapi_Q_1) («as»:=[a,b]) (g:=g) (K:=fun v g'=>g'=g) eq_frac_guardapi_Q_1 (by simp[f_frac_guardapi_Q_1]) ?_
 ·cases hc:(I C0).call d N.frac_guardapi_Q_1 [a,b] g with
  | fail=>rw[hc] at key;exact key.elim
  | ok v g'=>rw[hc] at key;exact ⟨v,by rw[show g'=g from key]⟩
 have e:eqlV true (.iface true) .nili .nili=.val (.bool false):=rfl
 simp only[f_frac_guardapi_Q_1,sx,sy,run_recover]
 simp only[SO.run,sx,sy,↓reduceIte,Nat.reduceEqDiff,e]
theorem guard_ok {d:Nat}{g:G}{fn:Nat}{a a':List AV}{x:QI}(hd:0<d)(hs:Hx.snap g.h d depthA (.clo fn [] a)=some (.clo fn [] a'))(hc:∀(g:G)(K:AV→G→Prop)(D:ADf→Prop),(∀g',Fr g g'→K (.agg [.int .i64 x.1,.int .i64 x.2]) g')→(callF C0 (I C0) (d+1) (.clo fn [] a') [] g).sat K g D) :
  callV C0 d N.frac_guardapi_Q [.clo fn [] a] g=.val (.tup [.agg [.int .i64 x.1,.int .i64 x.2],.int .i64 0]):=by
 have key:∃r,callV C0 d N.frac_guardapi_Q [.clo fn [] a] g=.val r∧Tup2 (Agg x) (One (0:Int)) NoP 0 .nil r:=by
  rw[call_frac_guardapi_Q]
  refine iso_run eq_frac_guardapi_Q (xs:=[.clo fn [] a']) (by simp only[mapO,hs]) (by simp[f_frac_guardapi_Q]) (snb_tup2 (m:=2) (snb_agg _) (snb_one _) (by decide) (by decide)) (by decide) hd ?_
  simp only[f_frac_guardapi_Q,f_frac_guardapi_Q_r,sx,sy,SO.run,↓reduceIte,Nat.reduceEqDiff,Nat.reduceAdd,Nat.reduceLeDiff]
  rw[run_defer' (f:=N.frac_guardapi_Q_1) (first:=[]) (cap:=[.hptr 0 0 0 0,.hptr 1 0 0 0]) (by simp[sx])]
  simp only[sat_dfr,kD_none,sx,sy,SO.run,↓reduceIte,Nat.reduceEqDiff,Nat.reduceAdd,Nat.reduceLeDiff,H.get_put]
  refine hc _ _ _ fun g2 fr2=>?_
  have k0:g2.h.get 0=.cells 2 [[.int .i64 0,.int .i64 0]] 0 false false:=by rw[fr2.2 0 (by simp[sx])];simp[sx,H.get_put]
  have k1:g2.h.get 1=.cells 1 [[.int .i64 0]] 0 false false:=by rw[fr2.2 1 (by simp[sx])];simp[sx,H.get_put]
  simp only[sx,sy,SO.run,↓reduceIte,Nat.reduceEqDiff,Nat.reduceAdd,Nat.reduceLeDiff,H.get_put,k0,k1]
  obtain ⟨v,hg1⟩:=guard1_ok (d+1) (.hptr 0 0 0 0) (.hptr 1 0 0 0) ((g2.put 0 (.cells 2 [[.int .i64 x.1,.int .i64 x.2]] 0 false false)).put 1 (.cells 1 [[.int .i64 0]] 0 false false))
  refine endP_call hg1 ?_
  simp only[sx,sy,↓reduceIte,Nat.reduceEqDiff,Nat.reduceAdd,Nat.reduceLeDiff,H.get_put]
  exact ⟨NoP,_,_,rfl,agg_q.2 rfl,rp_int.2 rfl⟩
 obtain ⟨r,h1,a,b,rfl,h2,h3⟩:=key
 have h3:=rp_int.1 h3
 injection h3 with h3
 rw[h1,agg_q.1 h2,h3]
end
end Hx
end
section
namespace Hx
open Go
noncomputable section
theorem dyn_Make_1 (d:Nat)(a b:AV)(g:G):callF C0 (I C0) d (.clo N.frac_Make_1 [] [a,b]) [] g=orF ((I C0).call d N.frac_Make_1 [a,b] g):=by kernel_rfl
theorem snap_num {h:H}{id:Nat}{n:Int}(d k:Nat)(hg:h.get id=.cells 1 [[.int .i64 n]] 0 false false):Hx.snap h d (k+3) (.hptr id 0 0 0)=some (.tptr (Nat.max d 0) 1 [[.int .i64 n]] 0 0):=by
 simp only[Hx.snap,hg,show Nat.beq 0 0=true from rfl,bif'_true,mapO]
 rfl
theorem snap_clo2 {h:H}{d f:Nat}{a b a' b':AV}(ha:Hx.snap h d 23 a=some a')(hb:Hx.snap h d 23 b=some b'):Hx.snap h d depthA (.clo f [] [a,b])=some (.clo f [] [a',b']):=by
 show (match mapO (Hx.snap h d 23) [],mapO (Hx.snap h d 23) [a,b] with | some as',some cs=>some (AV.clo f as' cs) | _,_=>none)=_
 simp only[mapO,ha,hb]
theorem eq_ff:eqlV true .bool (.bool false) (.bool false)=.val (.bool false):=rfl
theorem make1_ok {d:Nat}{g:G}{n m z:Nat}{K:AV→G→Prop}{D:ADf→Prop}(hd:0<d)(hn:n≤4611686018427387903)(hm0:0<m)(hm:m≤4611686018427387903)
  (kk:∀g',Fr g g'→K (.agg [.int .i64 (S.low n m).1,.int .i64 (S.low n m).2]) g') :
  (callF C0 (I C0) d (.clo N.frac_Make_1 [] [.tptr z 1 [[.int .i64 (n:Int)]] 0 0,.tptr z 1 [[.int .i64 (m:Int)]] 0 0]) [] g).sat K g D:=by
 have hg0:0<Nat.gcd n m:=Nat.gcd_pos_of_pos_right n hm0
 have q1:n / Nat.gcd n m≤n:=Nat.div_le_self _ _
 have q2:m / Nat.gcd n m≤m:=Nat.div_le_self _ _
 have e1:∀g,callV C0 d N.frac_size [.int .i64 (n:Int)] g=.val (.int .u64 (n:Int)):=fun g=>fsize_ok hd ⟨by omega,by omega⟩
 have e2:∀g,callV C0 d N.frac_size [.int .i64 (m:Int)] g=.val (.int .u64 (m:Int)):=fun g=>fsize_ok hd ⟨by omega,by omega⟩
 have e3:∀g,callV C0 d N.frac_common [.int .u64 (n:Int),.int .u64 (m:Int)] g=.val (.int .u64 (Nat.gcd n m:Int)):=fun g=>common_ok hd (by omega) (by omega)
 have l1:decide ((n:Int)<0)=false:=by simp
 have l2:decide ((m:Int)<0)=false:=by simp
 have wq:∀x:Nat,x≤4611686018427387903→∀y:Nat,0<y→binV .quo (.int .u64 (x:Int)) (.int .u64 (y:Int))=.val (.int .u64 ((x / y:Nat):Int)):=fun x hx y hy=>by
  have hle:x / y≤x:=Nat.div_le_self _ _
  rw[bin_quo .u64 (Int.natCast_nonneg x) (by omega),←Int.natCast_ediv]
  generalize x / y=z at hle
  rw[wrapu64 (by omega) (by omega)]
 have e4:∀g,callV C0 d N.frac_fit [.bool false,.agg [.int .u64 0,.int .u64 ((n / Nat.gcd n m:Nat):Int)],.agg [.int .u64 0,.int .u64 ((m / Nat.gcd n m:Nat):Int)]] g=.val (.agg [.int .i64 ((n / Nat.gcd n m:Nat):Int),.int .i64 ((m / Nat.gcd n m:Nat):Int)]):=fun g=>fit_ok hd (by omega) (by omega)
 rw[dyn_Make_1]
 refine dir_run eq_frac_Make_1 (by simp[f_frac_Make_1]) ?_
 simp only[f_frac_Make_1,f_frac_Make_1_r,sx,sy,sf,SO.run,↓reduceIte,Nat.reduceEqDiff,Nat.reduceAdd,Nat.reduceLeDiff,load_tptr,e1,e2,e3,l1,l2,eq_ff,wq n hn _ hg0,wq m hm _ hg0,e4,H.get_put,true_and]
 refine ⟨?_,kk _ ⟨by simp;omega,fun i hi=>?_⟩⟩
 ·simp only[List.reverse_cons,List.reverse_nil,List.nil_append,List.cons_append]
  exact footsOk_mk [false,false,false,false,false,false,false,false,false,false,false,false,false,false,false,false,true] [] (by simp[All2,rdLook,noLook,bigLook,foot_frac_size,foot_frac_fit]) (by decide) (by simp)
 ·simp[H.get_put,show ¬i=g.nx by omega]
theorem fmake_ok {d:Nat}{g:G}{n m:Nat}(hd:0<d)(hn:n≤4611686018427387903)(hm0:0<m)(hm:m≤4611686018427387903) :
  callV C0 d N.frac_Make [.int .i64 (n:Int),.int .i64 (m:Int)] g=.val (.tup [.agg [.int .i64 (S.low n m).1,.int .i64 (S.low n m).2],.int .i64 0]):=by
 have key:∃r,callV C0 d N.frac_Make [.int .i64 (n:Int),.int .i64 (m:Int)] g=.val r∧Tup2 (Agg (S.low n m)) (One (0:Int)) NoP 0 .nil r:=by
  rw[call_frac_Make]
  refine iso_run eq_frac_Make (xs:=[.int .i64 (n:Int),.int .i64 (m:Int)]) rfl (by simp[f_frac_Make]) (snb_tup2 (m:=2) (snb_agg _) (snb_one _) (by decide) (by decide)) (by decide) hd ?_
  have l1:decide ((m:Int)=0)=false:=by simp;omega
  simp only[f_frac_Make,f_frac_Make_r,sx,sy,SO.run,↓reduceIte,Nat.reduceEqDiff,Nat.reduceAdd,Nat.reduceLeDiff,H.get_put,l1]
  rw[guard_ok (x:=S.low n m) (a':=[.tptr (Nat.max (d+1) 0) 1 [[.int .i64 (n:Int)]] 0 0,.tptr (Nat.max (d+1) 0) 1 [[.int .i64 (m:Int)]] 0 0]) (Nat.succ_pos d) ?_ (fun g K D kk=>make1_ok (Nat.succ_pos _) hn hm0 hm kk)]
  ·simp only[sx,sy,SO.run,↓reduceIte,Nat.reduceEqDiff,Nat.reduceAdd,Nat.reduceLeDiff,H.get_put]
   exact ⟨NoP,_,_,rfl,agg_q.2 rfl,rp_int.2 rfl⟩
  ·rw[snap_clo2 (a':=.tptr (Nat.max (d+1) 0) 1 [[.int .i64 (n:Int)]] 0 0) (b':=.tptr (Nat.max (d+1) 0) 1 [[.int .i64 (m:Int)]] 0 0) (snap_num (n:=(n:Int)) (d+1) 20 (by simp[sx,H.get_put])) (snap_num (n:=(m:Int)) (d+1) 20 (by simp[sx,H.get_put]))]
 obtain ⟨r,h1,a,b,rfl,h2,h3⟩:=key
 have h3:=rp_int.1 h3
 injection h3 with h3
 rw[h1,agg_q.1 h2,h3]
end
end Hx
end
section
namespace Hx
open Go
noncomputable section
theorem and_mask (m:Nat)(h:m<18446744073709551616):binV .and (.int .u64 (m:Int)) (.int .u64 4294967295)=.val (.int .u64 ((m % 4294967296:Nat):Int)):=by
 have:=bin_and m 4294967295 h (by decide)
 have e:m &&& 4294967295=m % 4294967296:=Nat.and_two_pow_sub_one_eq_mod m 32
 rw[e] at this
 exact this
theorem shr_32 (m:Nat)(h:m<18446744073709551616):binV .shr (.int .u64 (m:Int)) (.int .u64 32)=.val (.int .u64 ((m / 4294967296:Nat):Int)):=bin_shr .u64 m 32 h
theorem mul_u64 {a b:Nat}(h:a*b<18446744073709551616):binV .mul (.int .u64 (a:Int)) (.int .u64 (b:Int))=.val (.int .u64 ((a*b:Nat):Int)):=by
 rw[bin_mul,←Int.natCast_mul]
 generalize a*b=z at h
 rw[wrapu64 (by omega) (by omega)]
theorem add_u64 {a b:Nat}(h:a+b<18446744073709551616):binV .add (.int .u64 (a:Int)) (.int .u64 (b:Int))=.val (.int .u64 ((a+b:Nat):Int)):=by
 rw[bin_add,←Int.natCast_add,wrapu64 (by omega) (by omega)]
theorem mul_parts {x y:Nat}(h:x*y<18446744073709551616):∃x0 x1 y0 y1 p qa qb:Nat,x / 4294967296=x1∧x % 4294967296=x0∧y / 4294967296=y1∧y % 4294967296=y0∧x1*y1=0∧x0*y0=p∧x1*y0=qa∧x0*y1=qb ∧
  p<18446744073709551616∧qa<4294967296∧qb<4294967296∧(qa+p / 4294967296) / 4294967296=0∧((qa+p / 4294967296) % 4294967296+qb) / 4294967296=0:=by
 obtain ⟨B,hB⟩:∃B:Nat,B=4294967296:=⟨_,rfl⟩
 have dx:=Nat.div_add_mod x B
 have dy:=Nat.div_add_mod y B
 have mx:=Nat.mod_lt x (show 0<B by omega)
 have my:=Nat.mod_lt y (show 0<B by omega)
 rw[←hB]
 refine ⟨_,_,_,_,_,_,_,rfl,rfl,rfl,rfl,?_,rfl,rfl,rfl,?_⟩
 ·generalize x / B=x1 at *
  generalize x % B=x0 at *
  generalize y / B=y1 at *
  generalize y % B=y0 at *
  rcases Nat.eq_zero_or_pos (x1*y1) with h0 | h0
  ·exact h0
  ·exfalso
   have e1:B*x1*(B*y1)=B*B*(x1*y1):=Nat.mul_mul_mul_comm _ _ _ _
   have e4:B*x1*(B*y1)≤x*y:=Nat.mul_le_mul (by omega) (by omega)
   have e5:B*B*1≤B*B*(x1*y1):=Nat.mul_le_mul_left _ h0
   have e6:B*B=18446744073709551616:=by rw[hB]
   omega
 ·generalize x / B=x1 at *
  generalize x % B=x0 at *
  generalize y / B=y1 at *
  generalize y % B=y0 at *
  have e2:B*x1*y0=B*(x1*y0):=Nat.mul_assoc _ _ _
  have e3:x0*(B*y1)=B*(x0*y1):=Nat.mul_left_comm _ _ _
  have exy:x*y=B*x1*(B*y1)+B*(x1*y0)+(B*(x0*y1)+x0*y0):=by
   rw[←dx,←dy,Nat.mul_add,Nat.add_mul,Nat.add_mul,e2,e3];omega
  have hp:x0*y0≤(B - 1)*(B - 1):=Nat.mul_le_mul (by omega) (by omega)
  generalize x1*y0=qa at *
  generalize x0*y1=qb at *
  generalize x0*y0=p at *
  generalize B*x1*(B*y1)=z at *
  generalize x*y=w at *
  subst hB
  have hp2:p≤18446744065119617025:=hp
  clear hp mx my dx dy
  have k1:4294967296*qa+(4294967296*qb+p)<18446744073709551616:=by omega
  refine ⟨by omega,by omega,by omega,by omega,by omega⟩
theorem mul64_ok {d:Nat}{g:G}{x y:Nat}(hd:0<d)(h:x*y<18446744073709551616)(hx:x<18446744073709551616)(hy:y<18446744073709551616) :
  callV C0 d N.mathbits_Mul64 [.int .u64 (x:Int),.int .u64 (y:Int)] g=.val (.tup [.int .u64 0,.int .u64 ((x*y:Nat):Int)]):=by
 have key:∃r,callV C0 d N.mathbits_Mul64 [.int .u64 (x:Int),.int .u64 (y:Int)] g=.val r∧Tup2 (One (0:Nat)) (One (x*y:Nat)) NoP 0 .nil r:=by
  rw[call_mathbits_Mul64]
  refine iso_run eq_mathbits_Mul64 (xs:=[.int .u64 (x:Int),.int .u64 (y:Int)]) (by simp only[mapO,arg_int 0]) (by simp[f_mathbits_Mul64]) (snb_tup2 (m:=1) (snb_one _) (snb_one _) (by decide) (by decide)) (by decide) hd ?_
  obtain ⟨x0,x1,y0,y1,p,qa,qb,hx1,hx0,hy1,hy0,h11,hP,hA,hB,lp,la,lb,z2,z3⟩:=mul_parts h
  have m1:=mul_u64 (a:=x0) (b:=y0) (by rw[hP];exact lp)
  have m2:=mul_u64 (a:=x1) (b:=y0) (by rw[hA];omega)
  have m3:=mul_u64 (a:=x0) (b:=y1) (by rw[hB];omega)
  have m4:=mul_u64 (a:=x1) (b:=y1) (by rw[h11];omega)
  have m5:=mul_u64 h
  rw[hP] at m1;rw[hA] at m2;rw[hB] at m3;rw[h11] at m4
  have s1:=shr_32 p lp
  have a1:=add_u64 (a:=qa) (b:=p / 4294967296) (by omega)
  have n1:=and_mask (qa+p / 4294967296) (by omega)
  have s2:=shr_32 (qa+p / 4294967296) (by omega)
  have a2:=add_u64 (a:=(qa+p / 4294967296) % 4294967296) (b:=qb) (by omega)
  rw[z2] at s2
  have a3:binV .add (.int .u64 ((0:Nat):Int)) (.int .u64 ((0:Nat):Int))=.val (.int .u64 ((0:Nat):Int)):=rfl
  have s3:=shr_32 ((qa+p / 4294967296) % 4294967296+qb) (by omega)
  rw[z3] at s3
  have nx:=and_mask x hx
  have ny:=and_mask y hy
  have sx':=shr_32 x hx
  have sy':=shr_32 y hy
  rw[hx0] at nx;rw[hy0] at ny;rw[hx1] at sx';rw[hy1] at sy'
  clear z2 z3 lp la lb h11 hP hA hB
  simp only[f_mathbits_Mul64,sx,SO.run,get_t,get_k,↓reduceIte,Nat.reduceEqDiff,nx,ny,sx',sy',m1,m2,m3,m4,m5,s1,s2,s3,n1,a1,a2,a3,fnQ_ret,endP_nil,resP_tm,resP_nil,oneOrTup_two]
  exact ⟨NoP,_,_,rfl,rp_nat.2 ⟨rfl,by decide⟩,rp_nat.2 ⟨rfl,h⟩⟩
 obtain ⟨r,h1,a,b,rfl,h2,h3⟩:=key
 have h2:=(rp_nat.1 h2).1
 have h3:=(rp_nat.1 h3).1
 injection h2 with h2
 injection h3 with h3
 rw[h1,h2,h3];rfl
end
end Hx
end
section
namespace Hx
open Go
noncomputable section
theorem low_unique {n d c w:Nat}(hc:Nat.Coprime n d)(hd:0<d)(hw:0<w)(h:n*w=c*d):S.low c w=((n:Int),(d:Int)):=by
 have h1:d ∣ n*w:=⟨c,by rw[h,Nat.mul_comm]⟩
 obtain ⟨k,hk⟩:=hc.symm.dvd_of_dvd_mul_left h1
 have hk0:0<k:=Nat.pos_of_ne_zero fun e=>by rw[e,Nat.mul_zero] at hk;omega
 have hcn:c=n*k:=by
  have:c*d=n*k*d:=by rw[←h,hk,Nat.mul_assoc,Nat.mul_comm k d]
  exact Nat.eq_of_mul_eq_mul_right hd this
 have hg:Nat.gcd c w=k:=by
  rw[hcn,hk,Nat.gcd_mul_right,show Nat.gcd n d=1 from hc,Nat.one_mul]
 unfold S.low
 rw[hg,hcn,hk,Nat.mul_div_cancel _ hk0,Nat.mul_div_cancel _ hk0]
theorem low_prod {c s w:Nat}(hs:0<s)(hw:0<w){a1 a2 b1 b2 g h:Nat}(ha1:c / Nat.gcd c s=a1)(ha2:s / Nat.gcd c s=a2)(hb1:s / Nat.gcd s w=b1)(hb2:w / Nat.gcd s w=b2)(hg:Nat.gcd a1 b2=g)(hh:Nat.gcd b1 a2=h) :
  S.low c w=(((a1 / g*(b1 / h):Nat):Int),((a2 / h*(b2 / g):Nat):Int))∧Nat.gcd a1 a2=1∧Nat.gcd b1 b2=1∧0<a2∧0<b2∧a2≤s∧b2≤w∧a1≤c∧b1≤s∧a1 / g*(b1 / h)≤c∧a2 / h*(b2 / g)≤w∧0<g∧0<h:=by
 have p1:0<Nat.gcd c s:=Nat.gcd_pos_of_pos_right c hs
 have p2:0<Nat.gcd s w:=Nat.gcd_pos_of_pos_right s hw
 have e1:a1*Nat.gcd c s=c:=by rw[←ha1];exact Nat.div_mul_cancel (Nat.gcd_dvd_left c s)
 have e2:a2*Nat.gcd c s=s:=by rw[←ha2];exact Nat.div_mul_cancel (Nat.gcd_dvd_right c s)
 have e3:b1*Nat.gcd s w=s:=by rw[←hb1];exact Nat.div_mul_cancel (Nat.gcd_dvd_left s w)
 have e4:b2*Nat.gcd s w=w:=by rw[←hb2];exact Nat.div_mul_cancel (Nat.gcd_dvd_right s w)
 have c1:Nat.Coprime a1 a2:=by rw[←ha1,←ha2];exact Nat.coprime_div_gcd_div_gcd p1
 have c2:Nat.Coprime b1 b2:=by rw[←hb1,←hb2];exact Nat.coprime_div_gcd_div_gcd p2
 have l2:a2≤s:=by rw[←ha2];exact Nat.div_le_self _ _
 have l4:b2≤w:=by rw[←hb2];exact Nat.div_le_self _ _
 have l1:a1≤c:=by rw[←ha1];exact Nat.div_le_self _ _
 have l3:b1≤s:=by rw[←hb1];exact Nat.div_le_self _ _
 have a20:0<a2:=Nat.pos_of_ne_zero fun e=>by rw[e,Nat.zero_mul] at e2;omega
 have b20:0<b2:=Nat.pos_of_ne_zero fun e=>by rw[e,Nat.zero_mul] at e4;omega
 have g0:0<g:=by rw[←hg];exact Nat.gcd_pos_of_pos_right a1 b20
 have h0:0<h:=by rw[←hh];exact Nat.gcd_pos_of_pos_right b1 a20
 generalize Nat.gcd c s=gc at *
 generalize Nat.gcd s w=gw at *
 have f1:a1 / g*g=a1:=Nat.div_mul_cancel (by rw[←hg];exact Nat.gcd_dvd_left _ _)
 have f2:b2 / g*g=b2:=Nat.div_mul_cancel (by rw[←hg];exact Nat.gcd_dvd_right _ _)
 have f3:b1 / h*h=b1:=Nat.div_mul_cancel (by rw[←hh];exact Nat.gcd_dvd_left _ _)
 have f4:a2 / h*h=a2:=Nat.div_mul_cancel (by rw[←hh];exact Nat.gcd_dvd_right _ _)
 have d1:Nat.Coprime (a1 / g) (b2 / g):=by rw[←hg];exact Nat.coprime_div_gcd_div_gcd (by rw[hg];exact g0)
 have d2:Nat.Coprime (b1 / h) (a2 / h):=by rw[←hh];exact Nat.coprime_div_gcd_div_gcd (by rw[hh];exact h0)
 have v1:a1 / g ∣ a1:=⟨g,f1.symm⟩
 have v2:b2 / g ∣ b2:=⟨g,f2.symm⟩
 have v3:b1 / h ∣ b1:=⟨h,f3.symm⟩
 have v4:a2 / h ∣ a2:=⟨h,f4.symm⟩
 have d3:Nat.Coprime (a1 / g) (a2 / h):=(c1.coprime_dvd_left v1).coprime_dvd_right v4
 have d4:Nat.Coprime (b1 / h) (b2 / g):=(c2.coprime_dvd_left v3).coprime_dvd_right v2
 generalize hA:a1 / g=A at *
 generalize hF:b2 / g=F at *
 generalize hB:b1 / h=B at *
 generalize hE:a2 / h=E at *
 have cop:Nat.Coprime (A*B) (E*F):=(d3.mul_right d1).mul_left (d2.mul_right d4)
 have hEF:0<E*F:=by
  refine Nat.pos_of_ne_zero fun e=>?_
  rcases Nat.mul_eq_zero.1 e with e | e
  ·rw[e,Nat.zero_mul] at f4;omega
  ·rw[e,Nat.zero_mul] at f2;omega
 have key:E*gc=B*gw:=by
  have:E*gc*h=B*gw*h:=by
   rw[Nat.mul_right_comm,f4,e2,Nat.mul_right_comm,f3,e3]
  exact Nat.eq_of_mul_eq_mul_right h0 this
 have hmain:A*B*w=c*(E*F):=by
  calc A*B*w=A*B*(F*g*gw):=by rw[f2,e4]
   _=A*g*F*(B*gw):=by simp only[Nat.mul_assoc,Nat.mul_comm,Nat.mul_left_comm]
   _=A*g*F*(E*gc):=by rw[key]
   _=A*g*gc*(E*F):=by simp only[Nat.mul_assoc,Nat.mul_comm,Nat.mul_left_comm]
   _=c*(E*F):=by rw[f1,e1]
 have hlow:=low_unique cop hEF hw hmain
 have q1:(S.low c w).1≤(c:Int):=by unfold S.low;exact Int.ofNat_le.2 (Nat.div_le_self _ _)
 have q2:(S.low c w).2≤(w:Int):=by unfold S.low;exact Int.ofNat_le.2 (Nat.div_le_self _ _)
 rw[hlow] at q1 q2
 exact ⟨hlow,c1,c2,a20,b20,l2,l4,l1,l3,Int.ofNat_le.1 q1,Int.ofNat_le.1 q2,g0,h0⟩
abbrev QN:=Nat×Nat
theorem agg_n {x:QN}{P:Nat→Prop}{k:Nat}{h:H}{v:AV}(h1:x.1<18446744073709551616)(h2:x.2<18446744073709551616):Agg x P k h v↔v=.agg [.int .u64 (x.1:Int),.int .u64 (x.2:Int)]:=by
 constructor
 ·rintro ⟨cs,rfl,hc⟩
  obtain ⟨a,b,rfl,q1,q2⟩:=rp_pair.1 hc
  rw[(rp_nat.1 q1).1,(rp_nat.1 q2).1];rfl
 ·rintro rfl
  exact ⟨_,rfl,rp_pair.2 ⟨[.int .u64 (x.1:Int)],[.int .u64 (x.2:Int)],rfl,rp_nat.2 ⟨rfl,h1⟩,rp_nat.2 ⟨rfl,h2⟩⟩⟩
theorem times_ok {d:Nat}{g:G}{x y:Nat}(hd:0<d)(h:x*y<18446744073709551616)(hx:x<18446744073709551616)(hy:y<18446744073709551616) :
  callV C0 d N.frac_times [.int .u64 (x:Int),.int .u64 (y:Int)] g=.val (.agg [.int .u64 0,.int .u64 ((x*y:Nat):Int)]):=by
 have key:∃r,callV C0 d N.frac_times [.int .u64 (x:Int),.int .u64 (y:Int)] g=.val r∧Agg (((0:Nat),x*y):QN) NoP 0 .nil r:=by
  rw[call_frac_times]
  refine iso_run eq_frac_times (xs:=[.int .u64 (x:Int),.int .u64 (y:Int)]) (by simp only[mapO,arg_int 0]) (by simp[f_frac_times]) (snb_agg _) (by decide) hd ?_
  have e1:∀g,callV C0 (d+1) N.mathbits_Mul64 [.int .u64 (x:Int),.int .u64 (y:Int)] g=.val (.tup [.int .u64 0,.int .u64 ((x*y:Nat):Int)]):=fun g=>mul64_ok (Nat.succ_pos d) h hx hy
  simp only[f_frac_times,f_frac_times_r,sx,sy,SO.run,↓reduceIte,Nat.reduceEqDiff,Nat.reduceAdd,Nat.reduceLeDiff,e1,H.get_put]
  exact ⟨NoP,(agg_n (x:=(0,x*y)) (by show (0:Nat)<18446744073709551616;decide) h).2 rfl⟩
 obtain ⟨r,h1,h2⟩:=key
 rw[h1,(agg_n (x:=(0,x*y)) (by show (0:Nat)<18446744073709551616;decide) h).1 h2];rfl
theorem fcheck_ok {d:Nat}{g:G}{n m:Nat}(hd:0<d)(hn:n≤4611686018427387903)(hm0:0<m)(hm:m≤4611686018427387903)(hg:Nat.gcd n m=1):callV C0 d N.frac_Check [.agg [.int .i64 (n:Int),.int .i64 (m:Int)]] g=.val (.int .i64 0):=by
 rw[call_frac_Check]
 refine iso_int eq_frac_Check (xs:=[.agg [.int .i64 (n:Int),.int .i64 (m:Int)]]) rfl (by simp[f_frac_Check]) hd ?_
 have l1:decide ((m:Int)<1)=false:=by simp;omega
 have l2:decide ((4611686018427387903:Int)<(m:Int))=false:=by simp;omega
 have l3:decide ((n:Int) < -4611686018427387903)=false:=by rw[decide_eq_false_iff_not];omega
 have l4:decide ((4611686018427387903:Int)<(n:Int))=false:=by simp;omega
 have e1:∀g,callV C0 (d+1) N.frac_size [.int .i64 (n:Int)] g=.val (.int .u64 (n:Int)):=fun g=>fsize_ok (Nat.succ_pos d) ⟨by omega,by omega⟩
 have e3:∀g,callV C0 (d+1) N.frac_common [.int .u64 (n:Int),.int .u64 (m:Int)] g=.val (.int .u64 1):=fun g=>by rw[common_ok (Nat.succ_pos d) (by omega) (by omega),hg];rfl
 simp only[f_frac_Check,f_frac_Check_r,sx,sy,SO.run,↓reduceIte,Nat.reduceEqDiff,Nat.reduceAdd,Nat.reduceLeDiff,H.get_put,l1,l2,l3,l4,e1,e3,wrapu64 (show (0:Int)≤(m:Int) by omega) (show (m:Int)<18446744073709551616 by omega),decide_true,Bool.not_true,true_and]
theorem product_ok' {d:Nat}{g:G}{a1 a2 b1 b2 z h:Nat}(hd:0<d)(hz:Nat.gcd a1 b2=z)(hh:Nat.gcd b1 a2=h)(z0:0<z)(h0:0<h)(la1:a1≤4611686018427387903)(la2:a2≤4611686018427387903)(lb1:b1≤4611686018427387903)(lb2:b2≤4611686018427387903)
  (p1:a1 / z*(b1 / h)≤4611686018427387903) (p2:a2 / h*(b2 / z)≤4611686018427387903) :
  callV C0 d N.frac_product [.agg [.int .i64 (a1:Int),.int .i64 (a2:Int)],.agg [.int .i64 (b1:Int),.int .i64 (b2:Int)]] g=.val (.agg [.int .i64 ((a1 / z*(b1 / h):Nat):Int),.int .i64 ((a2 / h*(b2 / z):Nat):Int)]):=by
 have key:∃r,callV C0 d N.frac_product [.agg [.int .i64 (a1:Int),.int .i64 (a2:Int)],.agg [.int .i64 (b1:Int),.int .i64 (b2:Int)]] g=.val r∧Agg ((((a1 / z*(b1 / h):Nat):Int),((a2 / h*(b2 / z):Nat):Int)):QI) NoP 0 .nil r:=by
  rw[call_frac_product]
  refine iso_run eq_frac_product (xs:=[.agg [.int .i64 (a1:Int),.int .i64 (a2:Int)],.agg [.int .i64 (b1:Int),.int .i64 (b2:Int)]]) rfl (by simp[f_frac_product]) (snb_agg _) (by decide) hd ?_
  have e1:∀x:Nat,x≤4611686018427387903→∀g,callV C0 (d+1) N.frac_size [.int .i64 (x:Int)] g=.val (.int .u64 (x:Int)):=fun x hx g=>fsize_ok (Nat.succ_pos d) ⟨by omega,by omega⟩
  have e2:∀g,callV C0 (d+1) N.frac_common [.int .u64 (a1:Int),.int .u64 (b2:Int)] g=.val (.int .u64 (z:Int)):=fun g=>by rw[common_ok (Nat.succ_pos d) (by omega) (by omega),hz]
  have e3:∀g,callV C0 (d+1) N.frac_common [.int .u64 (b1:Int),.int .u64 (a2:Int)] g=.val (.int .u64 (h:Int)):=fun g=>by rw[common_ok (Nat.succ_pos d) (by omega) (by omega),hh]
  have l1:decide ((a1:Int)<0)=false:=by simp
  have l2:decide ((b1:Int)<0)=false:=by simp
  have wq:∀x:Nat,x≤4611686018427387903→∀y:Nat,0<y→binV .quo (.int .u64 (x:Int)) (.int .u64 (y:Int))=.val (.int .u64 ((x / y:Nat):Int)):=fun x hx y hy=>by
   have hle:x / y≤x:=Nat.div_le_self _ _
   rw[bin_quo .u64 (Int.natCast_nonneg x) (by omega),←Int.natCast_ediv]
   generalize x / y=z at hle
   rw[wrapu64 (by omega) (by omega)]
  have k1:=Nat.div_le_self a1 z
  have k2:=Nat.div_le_self b1 h
  have k3:=Nat.div_le_self a2 h
  have k4:=Nat.div_le_self b2 z
  have t1:∀g,callV C0 (d+1) N.frac_times [.int .u64 ((a1 / z:Nat):Int),.int .u64 ((b1 / h:Nat):Int)] g=.val (.agg [.int .u64 0,.int .u64 ((a1 / z*(b1 / h):Nat):Int)]):=fun g=>times_ok (Nat.succ_pos d) (by omega) (by omega) (by omega)
  have t2:∀g,callV C0 (d+1) N.frac_times [.int .u64 ((a2 / h:Nat):Int),.int .u64 ((b2 / z:Nat):Int)] g=.val (.agg [.int .u64 0,.int .u64 ((a2 / h*(b2 / z):Nat):Int)]):=fun g=>times_ok (Nat.succ_pos d) (by omega) (by omega) (by omega)
  have e4:∀g,callV C0 (d+1) N.frac_fit [.bool false,.agg [.int .u64 0,.int .u64 ((a1 / z*(b1 / h):Nat):Int)],.agg [.int .u64 0,.int .u64 ((a2 / h*(b2 / z):Nat):Int)]] g=.val (.agg [.int .i64 ((a1 / z*(b1 / h):Nat):Int),.int .i64 ((a2 / h*(b2 / z):Nat):Int)]):=fun g=>fit_ok (Nat.succ_pos d) p1 p2
  have w1:=wq a1 la1 z z0
  have w2:=wq b1 lb1 h h0
  have w3:=wq a2 la2 h h0
  have w4:=wq b2 lb2 z z0
  generalize a1 / z*(b1 / h)=n' at *
  generalize a2 / h*(b2 / z)=d' at *
  generalize a1 / z=A at *
  generalize b1 / h=B at *
  generalize a2 / h=E at *
  generalize b2 / z=F at *
  simp only[f_frac_product,f_frac_product_r,sx,sy,sf,SO.run,↓reduceIte,Nat.reduceEqDiff,Nat.reduceAdd,Nat.reduceLeDiff,H.get_put,e1 a1 la1,e1 b1 lb1,e2,e3,e4,t1,t2,l1,l2,eq_ff,w1,w2,w3,w4,
   wrapu64 (show (0:Int)≤(a2:Int) by omega) (show (a2:Int)<18446744073709551616 by omega),wrapu64 (show (0:Int)≤(b2:Int) by omega) (show (b2:Int)<18446744073709551616 by omega),true_and]
  refine ⟨?_,?_,NoP,agg_q.2 rfl⟩
  ·simp only[List.reverse_cons,List.reverse_nil,List.nil_append,List.cons_append]
   refine footsOk_mk [false,false,false,false,false,false,false,false,false,false,false,true,true] [(0,11),(1,11),(2,11),(3,11),(4,11),(5,11),(6,11),(7,11),(8,11),(9,11),(10,11)] (by simp[All2,rdLook,noLook,bigLook,foot_frac_size,foot_frac_times]) (by decide) ?_
   rintro p hp x y hx hy
   simp only[List.mem_cons,List.not_mem_nil,or_false] at hp
   rcases hp with rfl | rfl | rfl | rfl | rfl | rfl | rfl | rfl | rfl | rfl | rfl<;>(simp at hx hy;subst hx;subst hy;refine apart_mk rfl ?_ ?_ rfl ?_ ?_ ?_<;>simp[rdLook,noLook,refIds,foot_frac_size,foot_frac_times,gets_cons,gets_nil,get_t,get_k,sx,int_ids])
  ·simp only[List.reverse_cons,List.reverse_nil,List.nil_append,List.cons_append]
   exact footsOk_mk [false,false,false,false,false,false,false,false,false,false,false,false,false,false,false,false,false,false,false,false,true] [] (by simp[All2,rdLook,noLook,bigLook,foot_frac_size,foot_frac_times,foot_frac_fit]) (by decide) (by simp)
 obtain ⟨r,h1,h2⟩:=key
 rw[h1,agg_q.1 h2]
end
end Hx
end
section
namespace Hx
open Go
noncomputable section
theorem snap_qi {h:H}{id:Nat}{a b:Int}(d k:Nat)(hg:h.get id=.cells 2 [[.int .i64 a,.int .i64 b]] 0 false false):Hx.snap h d (k+3) (.hptr id 0 0 0)=some (.tptr (Nat.max d 0) 2 [[.int .i64 a,.int .i64 b]] 0 0):=by
 simp only[Hx.snap,hg,show Nat.beq 0 0=true from rfl,bif'_true,mapO]
 rfl
theorem snap_cl {h:H}{id f:Nat}(d k:Nat)(hg:h.get id=.cells 1 [[.clo f [] []]] 0 false false):Hx.snap h d (k+3) (.hptr id 0 0 0)=some (.tptr (Nat.max d 0) 1 [[.clo f [] []]] 0 0):=by
 simp only[Hx.snap,hg,show Nat.beq 0 0=true from rfl,bif'_true,mapO]
 rfl
theorem snap_clo3 {h:H}{d f:Nat}{a b c a' b' c':AV}(ha:Hx.snap h d 23 a=some a')(hb:Hx.snap h d 23 b=some b')(hc:Hx.snap h d 23 c=some c'):Hx.snap h d depthA (.clo f [] [a,b,c])=some (.clo f [] [a',b',c']):=by
 show (match mapO (Hx.snap h d 23) [],mapO (Hx.snap h d 23) [a,b,c] with | some as',some cs=>some (AV.clo f as' cs) | _,_=>none)=_
 simp only[mapO,ha,hb,hc]
theorem dyn_both_1 (d:Nat)(a b c:AV)(g:G):callF C0 (I C0) d (.clo N.frac_bothapi_Q_1 [] [a,b,c]) [] g=orF ((I C0).call d N.frac_bothapi_Q_1 [a,b,c] g):=by kernel_rfl
theorem dyn_product (d:Nat)(a b:AV)(g:G):callF C0 (I C0) d (.clo 84 [] []) [a,b] g=callV C0 d N.frac_product [a,b] g:=by kernel_rfl
theorem both1_ok {d:Nat}{g:G}{x y r:QI}{z:Nat}{K:AV→G→Prop}{D:ADf→Prop}(hp:∀g,callV C0 d N.frac_product [.agg [.int .i64 x.1,.int .i64 x.2],.agg [.int .i64 y.1,.int .i64 y.2]] g=.val (.agg [.int .i64 r.1,.int .i64 r.2]))
  (kk:∀g',Fr g g'→K (.agg [.int .i64 r.1,.int .i64 r.2]) g') :
  (callF C0 (I C0) d (.clo N.frac_bothapi_Q_1 [] [.tptr z 1 [[.clo 84 [] []]] 0 0,.tptr z 2 [[.int .i64 x.1,.int .i64 x.2]] 0 0,.tptr z 2 [[.int .i64 y.1,.int .i64 y.2]] 0 0]) [] g).sat K g D:=by
 rw[dyn_both_1]
 refine dir_run eq_frac_bothapi_Q_1 (by simp[f_frac_bothapi_Q_1]) ?_
 have hp':∀g,callF C0 (I C0) d (.clo 84 [] []) [.agg [.int .i64 x.1,.int .i64 x.2],.agg [.int .i64 y.1,.int .i64 y.2]] g=.val (.agg [.int .i64 r.1,.int .i64 r.2]):=fun g=>by rw[dyn_product,hp]
 simp only[f_frac_bothapi_Q_1,f_frac_bothapi_Q_1_r,sx,sy,SO.run,↓reduceIte,Nat.reduceEqDiff,Nat.reduceAdd,Nat.reduceLeDiff,load_tptr,hp',H.get_put]
 exact kk _ ⟨by simp,fun i hi=>by simp[H.get_put,show ¬i=g.nx by omega]⟩
theorem both_ok {d:Nat}{g:G}{x y r:QI}(hd:0<d)(cx:∀d g,0<d→callV C0 d N.frac_Check [.agg [.int .i64 x.1,.int .i64 x.2]] g=.val (.int .i64 0))(cy:∀d g,0<d→callV C0 d N.frac_Check [.agg [.int .i64 y.1,.int .i64 y.2]] g=.val (.int .i64 0))
  (hp:∀d g,0<d→callV C0 d N.frac_product [.agg [.int .i64 x.1,.int .i64 x.2],.agg [.int .i64 y.1,.int .i64 y.2]] g=.val (.agg [.int .i64 r.1,.int .i64 r.2])) :
  callV C0 d N.frac_bothapi_Q [.agg [.int .i64 x.1,.int .i64 x.2],.agg [.int .i64 y.1,.int .i64 y.2],.clo 84 [] []] g=.val (.tup [.agg [.int .i64 r.1,.int .i64 r.2],.int .i64 0]):=by
 have key:∃z,callV C0 d N.frac_bothapi_Q [.agg [.int .i64 x.1,.int .i64 x.2],.agg [.int .i64 y.1,.int .i64 y.2],.clo 84 [] []] g=.val z∧Tup2 (Agg r) (One (0:Int)) NoP 0 .nil z:=by
  rw[call_frac_bothapi_Q]
  refine iso_run eq_frac_bothapi_Q (xs:=[.agg [.int .i64 x.1,.int .i64 x.2],.agg [.int .i64 y.1,.int .i64 y.2],.clo 84 [] []]) rfl (by simp[f_frac_bothapi_Q]) (snb_tup2 (m:=2) (snb_agg _) (snb_one _) (by decide) (by decide)) (by decide) hd ?_
  have hbx:∀g,boxV (.clo 84 [] []) g=.upd (.hptr g.nx 0 0 0) (g.new (.cells 1 [[.clo 84 [] []]] 0 false false)):=fun g=>rfl
  have c1:=fun g=>cx (d+1) g (Nat.succ_pos d)
  have c2:=fun g=>cy (d+1) g (Nat.succ_pos d)
  simp only[f_frac_bothapi_Q,f_frac_bothapi_Q_r,sx,sy,SO.run,↓reduceIte,Nat.reduceEqDiff,Nat.reduceAdd,Nat.reduceLeDiff,hbx,H.get_put,c1,c2,decide_true,Bool.not_true]
  rw[guard_ok (x:=r) (a':=[.tptr (Nat.max (d+1) 0) 1 [[.clo 84 [] []]] 0 0,.tptr (Nat.max (d+1) 0) 2 [[.int .i64 x.1,.int .i64 x.2]] 0 0,.tptr (Nat.max (d+1) 0) 2 [[.int .i64 y.1,.int .i64 y.2]] 0 0]) (Nat.succ_pos d) ?_
   (fun g K D kk=>both1_ok (fun g=>hp _ g (Nat.succ_pos _)) kk)]
  ·simp only[sx,sy,SO.run,↓reduceIte,Nat.reduceEqDiff,Nat.reduceAdd,Nat.reduceLeDiff,H.get_put]
   exact ⟨NoP,_,_,rfl,agg_q.2 rfl,rp_int.2 rfl⟩
  ·rw[snap_clo3 (snap_cl (f:=84) (d+1) 20 (by simp[sx,H.get_put])) (snap_qi (a:=x.1) (b:=x.2) (d+1) 20 (by simp[sx,H.get_put])) (snap_qi (a:=y.1) (b:=y.2) (d+1) 20 (by simp[sx,H.get_put]))]
 obtain ⟨z,h1,a,b,rfl,h2,h3⟩:=key
 have h3:=rp_int.1 h3
 injection h3 with h3
 rw[h1,agg_q.1 h2,h3]
theorem fmul_ok {d:Nat}{g:G}{c s w:Nat}(hd:0<d)(hc:c≤4611686018427387903)(hs0:0<s)(hs:s≤4611686018427387903)(hw0:0<w)(hw:w≤4611686018427387903) :
  callV C0 d N.frac_Mul [.agg [.int .i64 (S.low c s).1,.int .i64 (S.low c s).2],.agg [.int .i64 (S.low s w).1,.int .i64 (S.low s w).2]] g=.val (.tup [.agg [.int .i64 (S.low c w).1,.int .i64 (S.low c w).2],.int .i64 0]):=by
 obtain ⟨hl,c1,c2,p1,p2,l1,l2,l3,l4,q1,q2,g0,h0⟩:=low_prod hs0 hw0 (a1:=c / Nat.gcd c s) rfl (a2:=s / Nat.gcd c s) rfl (b1:=s / Nat.gcd s w) rfl (b2:=w / Nat.gcd s w) rfl rfl rfl
 have key:∃r,callV C0 d N.frac_Mul [.agg [.int .i64 (S.low c s).1,.int .i64 (S.low c s).2],.agg [.int .i64 (S.low s w).1,.int .i64 (S.low s w).2]] g=.val r∧Tup2 (Agg (S.low c w)) (One (0:Int)) NoP 0 .nil r:=by
  rw[call_frac_Mul]
  refine iso_run eq_frac_Mul (xs:=[.agg [.int .i64 (S.low c s).1,.int .i64 (S.low c s).2],.agg [.int .i64 (S.low s w).1,.int .i64 (S.low s w).2]]) rfl (by simp[f_frac_Mul]) (snb_tup2 (m:=2) (snb_agg _) (snb_one _) (by decide) (by decide)) (by decide) hd ?_
  have e1:∀g,callV C0 (d+1) N.frac_bothapi_Q [.agg [.int .i64 (S.low c s).1,.int .i64 (S.low c s).2],.agg [.int .i64 (S.low s w).1,.int .i64 (S.low s w).2],.clo 84 [] []] g=.val (.tup [.agg [.int .i64 (S.low c w).1,.int .i64 (S.low c w).2],.int .i64 0]):=fun g =>
   both_ok (Nat.succ_pos d) (fun d g hd=>fcheck_ok hd (by omega) p1 (by omega) c1) (fun d g hd=>fcheck_ok hd (by omega) p2 (by omega) c2) fun d g hd=>by
    rw[hl];exact product_ok' hd rfl rfl g0 h0 (by omega) (by omega) (by omega) (by omega) (by omega) (by omega)
  simp only[f_frac_Mul,f_frac_Mul_r,sx,sy,SO.run,↓reduceIte,Nat.reduceEqDiff,Nat.reduceAdd,Nat.reduceLeDiff,H.get_put,e1]
  exact ⟨NoP,_,_,rfl,agg_q.2 rfl,rp_int.2 rfl⟩
 obtain ⟨r,h1,a,b,rfl,h2,h3⟩:=key
 have h3:=rp_int.1 h3
 injection h3 with h3
 rw[h1,agg_q.1 h2,h3]
end
end Hx
end
section
namespace Hx
open Go
noncomputable section
theorem nextFrom_last {cards:List Int}:∀{k:Nat}{l:List Int},S.combo cards l→k≤l.length→(S.nextFrom cards l k).2=false→∀(i:Nat)(c v:Int),i<k→cards[i]?=some c→l[i]?=some v→v+1=c
 | 0,l,_,_,_,i,c,v,hi,_,_=>by omega
 | k+1,l,hco,hk,h,i,c',v',hi,hc',hv'=>by
  obtain ⟨v,hv⟩:∃v,l[k]?=some v:=⟨_,List.getElem?_eq_getElem (by omega)⟩
  obtain ⟨c,hc⟩:∃c,cards[k]?=some c:=⟨_,List.getElem?_eq_getElem (by have:=hco.1;omega)⟩
  have hb:=hco.2 k c v hc hv
  simp only[S.nextFrom,hv,hc,Option.getD_some] at h
  split at h
  ·cases h
  ·rename_i hq
   by_cases e:i=k
   ·subst e
    rw[hc] at hc';injection hc' with hc';subst hc'
    rw[hv] at hv';injection hv' with hv';subst hv'
    omega
   ·refine nextFrom_last (combo_set hco hc (show (0:Int)≤0 by omega) (show (0:Int)<c by omega)) (by simp;omega) h i c' v' (by omega) hc' ?_
    rw[List.getElem?_set_ne (by omega)];exact hv'
theorem rank_last:∀{cards l:List Int},cards.length=l.length→(∀(i:Nat)(c v:Int),cards[i]?=some c→l[i]?=some v→v+1=c)→S.rank cards l+1=S.prod cards
 | [],[],_,_=>rfl
 | c::cs,v::l,hl,h=>by
  have h0:=h 0 c v rfl rfl
  have ih:=rank_last (cards:=cs) (l:=l) (by simpa using hl) fun i c v hc hv=>h (i+1) c v (by simpa using hc) (by simpa using hv)
  rw[prod_cons,←h0]
  show v*S.prod cs+S.rank cs l+1=_
  rw[Int.add_mul,Int.one_mul];omega
 | [],_::_,h,_=>by simp at h
 | _::_,[],h,_=>by simp at h
theorem allF_count {cards:List Int}:∀{f:Nat}{v:List Int},S.combo cards v→S.rank cards v+(f:Int)=S.prod cards→(S.allF cards f v).length=f
 | 0,v,_,_=>rfl
 | f+1,v,hco,h=>by
  simp only[S.allF,List.length_cons]
  split
  ·rename_i hn
   obtain ⟨h1,h2⟩:=next_rank hco hn
   rw[allF_count h2 (by rw[h1];omega)]
  ·rename_i hn
   have hf:=nextFrom_last hco (Nat.le_refl _) (by simpa [S.next] using hn)
   have hl:=rank_last hco.1 fun i c v hc hv=>hf i c v (List.getElem?_eq_some_iff.1 hv).1 hc hv
   simp;omega
theorem all_count {cards:List Int}(h:∀c∈cards,1≤c):((S.all cards).length:Int)=S.prod cards:=by
 have hp:0≤S.prod cards:=by
  have:=rank_bound (combo_zero h);omega
 rw[S.all,allF_count (combo_zero h) (by rw[rank_zero];omega)]
 omega
theorem prod_bound3:∀{l:List Int},(∀x∈l,1≤x∧x≤3)→1≤S.prod l∧S.prod l≤3 ^ l.length
 | [],_=>⟨by decide,by decide⟩
 | a::l,h=>by
  obtain ⟨h1,h2⟩:=prod_bound3 (l:=l) fun x hx=>h x (by simp[hx])
  obtain ⟨h3,h4⟩:=h a (by simp)
  rw[prod_cons,List.length_cons,Int.pow_succ,Int.mul_comm (3 ^ l.length)]
  refine ⟨?_,Int.mul_le_mul h4 h2 (by omega) (by decide)⟩
  have:=Int.mul_le_mul h3 h1 (by decide) (by omega)
  omega
theorem pow3_6 {n:Nat}(h:n≤6):(3:Int) ^ n≤729:=by
 match n,h with
 | 0,_=>decide
 | 1,_=>decide
 | 2,_=>decide
 | 3,_=>decide
 | 4,_=>decide
 | 5,_=>decide
 | 6,_=>decide
 | n+7,h=>omega
theorem weights_root {gr q z:Int}(h1:2≤gr)(h2:gr≤12):S.rootOk gr (S.weights gr q z)=true:=by
 have b1:=Int.emod_nonneg z (show gr - 1≠0 by omega)
 have b2:=Int.emod_lt_of_pos z (show 0<gr - 1 by omega)
 have b3:=Int.emod_nonneg (z / 12) (show gr - (1+z % (gr - 1))+1≠0 by omega)
 have b4:=Int.emod_lt_of_pos (z / 12) (show 0<gr - (1+z % (gr - 1))+1 by omega)
 unfold S.weights
 generalize z % (gr - 1)=A at *
 generalize z / 12 % (gr - (1+A)+1)=B at *
 split
 ·simp[S.rootOk,S.within];omega
 ·simp[S.rootOk,S.within];omega
theorem made_right {m:Causal}(h:Made m):S.check m=true:=by
 rw[check_right]
 obtain ⟨e,c,R,F,N,O,num,rfl,hn,hg,hF,hR,hN,hlt,hinj,hsur,hnd⟩:=h.ex
 have hnl:(mkM e c R F N O).nodes.length=e.n:=by simp[mkM]
 have hnode:∀x∈(mkM e c R F N O).nodes,∃k,k<e.n∧x=⟨c (num k),F (num k),N (num k),O (num k)⟩:=fun x hx=>by
  obtain ⟨i,hi,rfl⟩:=List.mem_map.1 hx
  obtain ⟨k,hk,rfl⟩:=hsur i (List.mem_range.1 hi)
  exact ⟨k,hk,rfl⟩
 have hplN:∀k,k<e.n→S.places (N (num k)) R.length=true:=fun k hk=>hF.inc _ (hlt k hk)
 have hpl:(S.pars (mkM e c R F N O)).length=e.n:=by simp[S.pars,mkM]
 simp only[S.right,Bool.and_eq_true,decide_eq_true_eq]
 refine ⟨⟨⟨⟨⟨⟨⟨⟨⟨⟨by show 1≤e.gr;omega,hg.2⟩,by show R.length≤8;omega⟩,by omega⟩,by omega⟩,?_⟩,?_⟩,?_⟩,?_⟩,?_⟩,?_⟩
 ·rw[List.all_eq_true]
  intro r hr
  obtain ⟨q,z,-,-,-,rfl⟩:=hF.roots r hr
  exact weights_root hg.1 hg.2
 ·rw[List.all_eq_true]
  intro x hx
  obtain ⟨k,hk,rfl⟩:=hnode x hx
  have hc:=hF.card _ (hlt k hk)
  have h1:=(hnd k hk).places
  have h2:=hplN k hk
  simp only[S.nodeR,Bool.and_eq_true,decide_eq_true_eq]
  exact ⟨⟨⟨by show 1≤c (num k);omega,by show c (num k)≤4;omega⟩,by rw[hnl];exact h1⟩,h2⟩
 ·have:=prod_bound3 (l:=R.map fun r=>(r.length:Int)) fun x hx=>by
   obtain ⟨r,hr,rfl⟩:=List.mem_map.1 hx
   obtain ⟨q,z,-,-,-,rfl⟩:=hF.roots r hr
   have:=weights_len e.gr q z
   omega
  have hp:=pow3_6 (n:=(R.map fun r=>(r.length:Int)).length) (by simpa using hR)
  show S.prod (R.map fun r=>(r.length:Int))≤1024
  omega
 ·have:=prod_bound3 (l:=(mkM e c R F N O).nodes.map (·.card)) fun x hx=>by
   obtain ⟨y,hy,rfl⟩:=List.mem_map.1 hx
   obtain ⟨k,hk,rfl⟩:=hnode y hy
   have hc:=hF.card _ (hlt k hk)
   show 1≤c (num k)∧c (num k)≤3
   omega
  have hp:=pow3_6 (n:=((mkM e c R F N O).nodes.map (·.card)).length) (by rw[List.length_map,hnl];omega)
  omega
 ·rw[acyc_iff]
  intro v hv
  rw[hpl] at hv
  obtain ⟨k,hk,rfl⟩:=hsur v hv
  have hpar:∀k,k<e.n→Par (S.pars (mkM e c R F N O)) (num k)=S.mask (F (num k)):=fun k hk=>by
   simp[Par,S.pars,mkM_get (hlt k hk)]
  have hT:∀k,k≤e.n→∀u,(S.mask ((List.range k).map fun i=>(num i:Int))).testBit u=true↔∃i,i<k∧num i=u:=fun k hk u=>by
   rw[mask_tb (n:=e.n) (by omega) (fun x hx=>by
    obtain ⟨i,hi,rfl⟩:=List.mem_map.1 hx
    have:=hlt i (by have:=List.mem_range.1 hi;omega)
    omega),List.contains_iff_mem]
   constructor
   ·intro hx
    obtain ⟨i,hi,he⟩:=List.mem_map.1 hx
    exact ⟨i,List.mem_range.1 hi,by omega⟩
   ·rintro ⟨i,hi,rfl⟩
    exact List.mem_map.2 ⟨i,List.mem_range.2 hi,rfl⟩
  have hdown:∀k,k<e.n→∀u,(Par (S.pars (mkM e c R F N O)) (num k)).testBit u=true→∃i,i<k∧num i=u:=fun k hk u hu=>by
   rw[hpar k hk,mask_tb (n:=e.n) (by omega) (places_mem (hnd k hk).places),List.contains_iff_mem] at hu
   obtain ⟨k',hk',he⟩:=(hnd k hk).down _ hu
   exact ⟨k',hk',by omega⟩
  have hcl:Cl (S.pars (mkM e c R F N O)) (S.mask ((List.range k).map fun i=>(num i:Int))):=fun u hu hb w hw=>by
   obtain ⟨i,hi,rfl⟩:=(hT k (by omega) u).1 hb
   obtain ⟨i',hi',rfl⟩:=hdown i (by omega) w hw
   exact (hT k (by omega) _).2 ⟨i',by omega,rfl⟩
  have hsub:Sub (Par (S.pars (mkM e c R F N O)) (num k)) (S.mask ((List.range k).map fun i=>(num i:Int))):=fun w hw=>(hT k (by omega) w).2 (hdown k hk w hw)
  rw[←Bool.not_eq_true]
  intro hb
  obtain ⟨i,hi,he⟩:=(hT k (by omega) _).1 (up_sub hcl hsub _ _ hb)
  have:=hinj i k (by omega) hk he
  omega
 ·rw[List.all_eq_true]
  intro x hx
  obtain ⟨k,hk,rfl⟩:=hnode x hx
  have h1:=(hnd k hk).places
  have hb:=szs_bound hF h1 (hplN k hk)
  simp only[S.outR,Bool.and_eq_true,decide_eq_true_eq]
  refine ⟨?_,?_⟩
  ·rw[sizes_mkM h1]
   show ((O (num k)).length:Int)=_
   rw[(hnd k hk).outs,all_count fun y hy=>by have:=hb y hy;omega]
  ·simp only[S.within,List.all_eq_true]
   intro y hy
   have:=(hnd k hk).out y hy
   simp;omega
end
end Hx
end
section
namespace Hx
open Go
noncomputable section
def NmV (n:Int):VS:=fun P k h p=>(∃id,p=.hptr id 0 0 0∧P id∧h.get id=.cells 1 [[.int .i64 n]] 0 false false)∨∃t,p=.tptr t 1 [[.int .i64 n]] 0 0∧t≤k
def IsV (n m:Int):VS:=fun P k h v=>∃p q,v=.clo N.law33_is_1 [] [p,q]∧NmV n P k h p∧NmV m P k h q
theorem nm_snap {n:Int}{P:Nat→Prop}{k:Nat}{h:H}{p:AV}(d j:Nat)(r:NmV n P k h p):∃p',Hx.snap h d (j+3) p=some p'∧NmV n NoP (max k d) .nil p':=by
 rcases r with ⟨id,rfl,-,hg⟩ | ⟨t,rfl,ht⟩
 ·exact ⟨_,snap_num d j hg,.inr ⟨_,rfl,by show max d 0≤_;omega⟩⟩
 ·exact ⟨_,rfl,.inr ⟨t,rfl,by omega⟩⟩
theorem snb_is (n m:Int):Snb (IsV n m) 4:=by
 refine ⟨fun {P k h v j} d r hn=>?_,fun {k h v j} r hn=>?_⟩
 ·obtain ⟨p,q,rfl,r1,r2⟩:=r
  obtain ⟨j,rfl⟩:∃i,j=i+4:=⟨j - 4,by omega⟩
  obtain ⟨p',e1,s1⟩:=nm_snap d j r1
  obtain ⟨q',e2,s2⟩:=nm_snap d j r2
  refine ⟨.clo N.law33_is_1 [] [p',q'],?_,p',q',rfl,s1,s2⟩
  show (match mapO (Hx.snap h d (j+3)) [],mapO (Hx.snap h d (j+3)) [p,q] with | some as',some cs=>some (AV.clo N.law33_is_1 as' cs) | _,_=>none)=_
  simp only[mapO,e1,e2]
 ·obtain ⟨p,q,rfl,r1,r2⟩:=r
  obtain ⟨j,rfl⟩:∃i,j=i+4:=⟨j - 4,by omega⟩
  rcases r1 with ⟨id,rfl,hP,-⟩ | ⟨t,rfl,ht⟩
  ·exact hP.elim
  rcases r2 with ⟨id,rfl,hP,-⟩ | ⟨t',rfl,ht'⟩
  ·exact hP.elim
  exact ⟨Nat.max t (Nat.max t' 0),rfl,by show max t (max t' 0)≤k;omega⟩
theorem is_ok {d:Nat}{g:G}{n m:Int}(hd:0<d):callV C0 d N.law33_is [.int .i64 n,.int .i64 m] g=.val (.clo N.law33_is_1 [] [.tptr 0 1 [[.int .i64 n]] 0 0,.tptr 0 1 [[.int .i64 m]] 0 0]):=by
 have key:∃r,callV C0 d N.law33_is [.int .i64 n,.int .i64 m] g=.val r∧IsV n m NoP 0 .nil r:=by
  rw[call_law33_is]
  refine iso_run eq_law33_is (xs:=[.int .i64 n,.int .i64 m]) rfl (by simp[f_law33_is]) (snb_is n m) (by decide) hd ?_
  simp only[f_law33_is,f_law33_is_r,sx,sy,SO.run,↓reduceIte,Nat.reduceEqDiff,Nat.reduceAdd,Nat.reduceLeDiff]
  exact ⟨fun _=>True,_,_,rfl,.inl ⟨0,rfl,trivial,by simp[sx,H.get_put]⟩,.inl ⟨1,rfl,trivial,by simp[sx,H.get_put]⟩⟩
 obtain ⟨r,h1,p,q,rfl,h2,h3⟩:=key
 rcases h2 with ⟨id,rfl,hP,-⟩ | ⟨t,rfl,ht⟩
 ·exact hP.elim
 rcases h3 with ⟨id,rfl,hP,-⟩ | ⟨t',rfl,ht'⟩
 ·exact hP.elim
 rw[h1,show t=0 by omega,show t'=0 by omega]
theorem dyn_is_1 (d:Nat)(a b p q:AV)(g:G):callF C0 (I C0) d (.clo N.law33_is_1 [] [p,q]) [a,b] g=orF ((I C0).call d N.law33_is_1 [a,b,p,q] g):=by kernel_rfl
theorem eq_qi (a b:Int):eqlV false (.flat [.int .i64,.int .i64]) (.agg [.int .i64 a,.int .i64 b]) (.agg [.int .i64 a,.int .i64 b])=.val (.bool true):=by
 have ha:ieqb a a=true:=by rw[ieqb_eq];simp
 have hb:ieqb b b=true:=by rw[ieqb_eq];simp
 simp only[eqlV,eqA,kindsOk,eqCells,eqCell,ha,hb]
 rfl
theorem is1_ok {d:Nat}{g:G}{n m:Int}{K:AV→G→Prop}{D:ADf→Prop}(kk:∀g',Fr g g'→(∀i∈g'.lg,i∈g.lg∨g.nx≤i)→K (.bool true) g') :
  (callF C0 (I C0) d (.clo N.law33_is_1 [] [.tptr 0 1 [[.int .i64 n]] 0 0,.tptr 0 1 [[.int .i64 m]] 0 0]) [.agg [.int .i64 n,.int .i64 m],.int .i64 0] g).sat K g D:=by
 rw[dyn_is_1]
 refine dir_run eq_law33_is_1 (by simp[f_law33_is_1]) ?_
 simp only[f_law33_is_1,f_law33_is_1_r,sx,sy,SO.run,↓reduceIte,Nat.reduceEqDiff,Nat.reduceAdd,Nat.reduceLeDiff,load_tptr,eq_qi,H.get_put,decide_true]
 exact kk _ ⟨by simp,fun i hi=>by simp[H.get_put,show ¬i=g.nx by omega]⟩ (fun i hi=>by simp at hi;rcases hi with rfl | hi;exact .inr (Nat.le_refl _);exact .inl hi)
theorem clone_ok {d:Nat}{g:G}{l:List Int}{v:AV}{K:AV→G→Prop}{D:ADf→Prop}(hv:SlR NoP 0 .nil l v)(hl:0<l.length)(hl2:l.length≤1000)(kk:∀u g',Own g' g.nx u 1 (l.map ci)→Fr g g'→K u g') :
  (callV C0 d N.slices_Cloneintint [v] g).sat K g D:=by
 have hne:eqlV false .slice v .nils=.val (.bool false):=by
  have h:=hv.2
  unfold SlV at h
  split at h
  ·rw[h] at hl;simp at hl
  ·rw[h] at hl;simp at hl
  ·rfl
  ·exact h.1.elim
  ·exact h.elim
 rw[call_slices_Cloneintint]
 refine dir_run eq_slices_Cloneintint (by simp[f_slices_Cloneintint]) ?_
 simp only[f_slices_Cloneintint,sx,sy,SO.run,↓reduceIte,Nat.reduceEqDiff,Nat.reduceAdd,Nat.reduceLeDiff,hne]
 refine append_own (b:=g.nx) (v:=.hsl g.nx 0 0 0 none) (rows:=[]) (new:=l.map ci) (.inr ⟨g.nx,0,false,Nat.le_refl _,by simp,rfl,by simp[H.get_put]⟩) ((hv.tree (Nat.le_refl _)).ints) (by simp) (by simp[room];omega) fun u g1 hu n1 f1 _ _=>?_
 simp only[sx,sy,SO.run,↓reduceIte,Nat.reduceEqDiff]
 exact kk u g1 (by simpa using hu) ⟨by simp at n1;omega,fun i hi=>by rw[f1 i (by simp;omega) (by simp[vid];omega)];simp[H.get_put,show ¬i=g.nx by omega]⟩
theorem sem_I {C:Cfg}(n:Nat):IHLe (sem C n) (I C):=by
 refine ⟨fun nt d rd c t df g=>?_,fun d f as' g=>?_⟩
 ·obtain ⟨m,h'⟩:=Ct.code (C:=C) nt d rd c t df g
  have h1:(sem C (max n m)).code nt d rd c t df g=(I C).code nt d rd c t df g:=h' (max n m) (by omega)
  rw[←h1]
  exact (sem_le C (by omega)).code nt d rd c t df g
 ·obtain ⟨m,h'⟩:=Ct.call (C:=C) d f as' g
  have h1:(sem C (max n m)).call d f as' g=(I C).call d f as' g:=h' (max n m) (by omega)
  rw[←h1]
  exact (sem_le C (by omega)).call d f as' g
end
end Hx
end
section
namespace Hx
open Go
noncomputable section
theorem iso_args {ih:IH}{d:Nat}{g:G}{f:Nat}{args xs:List AV}{v:AV}(h:mapO (Hx.snap g.h d depthA) args=some xs)(h':mapO (Hx.snap G.empty.h d depthA) xs=some xs)(h2:isoCall ih d G.empty f xs=.val v):isoCall ih d g f args=.val v:=by
 unfold isoCall at h2 ⊢
 generalize depthA=D at h h' h2 ⊢
 rw[h'] at h2
 rw[h]
 dsimp only at h2 ⊢
 cases hc:ih.call d.succ f xs G.empty with
 | fail=>rw[hc] at h2;cases h2
 | ok r g' =>
  rw[hc] at h2
  dsimp only at h2 ⊢
  cases hs:Hx.snap g'.h 0 D r with
  | none=>rw[hs] at h2;cases h2
  | some r' =>
   rw[hs] at h2
   dsimp only at h2 ⊢
   cases ht:tagO D r' with
   | none=>rw[ht] at h2;cases h2
   | some m =>
    rw[ht] at h2
    dsimp only at h2 ⊢
    rw[bif'_eq] at h2 ⊢
    split at h2
    ·rename_i hb;rw[if_pos hb];exact h2
    ·split at h2
     ·cases h2
     split at h2
     ·cases h2
     rw[bif'_eq] at h2
     split at h2<;>cases h2
theorem rep1:isoCall (sem C0 40) 1 G.empty N.slices_Repeatintint [.tsl 1 1 [[.int .i64 (-1)]],.int .i64 1]=.val (.tsl 0 1 [[.int .i64 (-1)]]):=by kernel_rfl
theorem rep2:isoCall (sem C0 40) 1 G.empty N.slices_Repeatintint [.tsl 1 1 [[.int .i64 (-1)]],.int .i64 2]=.val (.tsl 0 1 [[.int .i64 (-1)],[.int .i64 (-1)]]):=by kernel_rfl
theorem rep3:isoCall (sem C0 40) 1 G.empty N.slices_Repeatintint [.tsl 1 1 [[.int .i64 (-1)]],.int .i64 3]=.val (.tsl 0 1 [[.int .i64 (-1)],[.int .i64 (-1)],[.int .i64 (-1)]]):=by kernel_rfl
theorem rep4:isoCall (sem C0 40) 1 G.empty N.slices_Repeatintint [.tsl 1 1 [[.int .i64 (-1)]],.int .i64 4]=.val (.tsl 0 1 [[.int .i64 (-1)],[.int .i64 (-1)],[.int .i64 (-1)],[.int .i64 (-1)]]):=by kernel_rfl
theorem rep5:isoCall (sem C0 40) 1 G.empty N.slices_Repeatintint [.tsl 1 1 [[.int .i64 (-1)]],.int .i64 5]=.val (.tsl 0 1 [[.int .i64 (-1)],[.int .i64 (-1)],[.int .i64 (-1)],[.int .i64 (-1)],[.int .i64 (-1)]]):=by kernel_rfl
theorem call_rep (d:Nat)(xs:List AV)(g:G):callV C0 d N.slices_Repeatintint xs g=isoCall (I C0) d g N.slices_Repeatintint xs:=by kernel_rfl
theorem sem_val {d:Nat}{g:G}{f:Nat}{xs:List AV}{v:AV}(h:isoCall (sem C0 40) d g f xs=.val v):isoCall (I C0) d g f xs=.val v:=by
 rcases isoCall_le (sem_I (C:=C0) 40) (d:=d) (g:=g) (f:=f) (args:=xs) with q | q
 ·rw[h] at q;cases q
 ·rw[←q,h]
theorem rep_ok {g:G}{id:Nat}{n:Nat}(h0:0<n)(h1:n≤5)(hg:g.h.get id=.cells 1 [[.int .i64 (-1)]] 0 false false):∃r,callV C0 1 N.slices_Repeatintint [.hsl id 0 0 1 none,.int .i64 (n:Int)] g=.val r∧IT 0 (List.replicate n (-1)) r:=by
 rw[call_rep]
 have ia:∀v,isoCall (I C0) 1 G.empty N.slices_Repeatintint [.tsl 1 1 [[.int .i64 (-1)]],.int .i64 (n:Int)]=.val v→isoCall (I C0) 1 g N.slices_Repeatintint [.hsl id 0 0 1 none,.int .i64 (n:Int)]=.val v:=fun v h=>iso_args (xs:=[.tsl 1 1 [[.int .i64 (-1)]],.int .i64 (n:Int)]) (by simp only[mapO,Hx.snap,depthA,hg];rfl) rfl h
 have key:∀r rows,r=AV.tsl 0 1 rows→All2 (Rp.rp (α:=Int) NoP 0 .nil) (List.replicate n (-1)) rows→IT 0 (List.replicate n (-1)) r:=fun r rows e h=>.mk ⟨by simp;omega,by rw[e];exact ⟨Nat.le_refl _,.inl rfl,h⟩⟩
 have u:Rp.rp (α:=Int) NoP 0 .nil (-1) [.int .i64 (-1)]:=rp_int.2 rfl
 have hn:n=1∨n=2∨n=3∨n=4∨n=5:=by omega
 rcases hn with rfl | rfl | rfl | rfl | rfl
 ·exact ⟨_,ia _ (sem_val rep1),key _ _ rfl ⟨u,trivial⟩⟩
 ·exact ⟨_,ia _ (sem_val rep2),key _ _ rfl ⟨u,u,trivial⟩⟩
 ·exact ⟨_,ia _ (sem_val rep3),key _ _ rfl ⟨u,u,u,trivial⟩⟩
 ·exact ⟨_,ia _ (sem_val rep4),key _ _ rfl ⟨u,u,u,u,trivial⟩⟩
 ·exact ⟨_,ia _ (sem_val rep5),key _ _ rfl ⟨u,u,u,u,u,trivial⟩⟩
end
end Hx
end
section
namespace Hx
open Go
set_option maxRecDepth 100000
noncomputable section
def f_law33_TwinKnows_k0:SC:=.ops [o 109 (.bin .add (.t 98) (.k (.int .i64 1))),o 98 (.mv (.t 109))]
def f_law33_TwinKnows_b1:SC:=.seq (.ops [o 99 (.bin .lss (.t 98) (.t 97))]) (.seq (.cond (.t 99) (.skip) (.exit 0)) (.seq (.blk 1 (.seq (.ops [o 100 (.mv (.t 98)),o 17 (.mv (.t 100))]) (.seq (.ops [o 101 (.mv (.t 8)),o 102 (.mv (.t 17)),o 103 (.ixs 1 (.t 101) (.t 102)),o 104 (.load false 1 (.t 103)),o 105 (.bin .lss (.t 104) (.k (.int .i64 0)))]) (.cond (.t 105) (.ops [o 106 (.mv (.t 16)),o 107 (.mv (.t 17)),o 108 (.ixs 1 (.t 106) (.t 107)),oz (.store 1 (.t 108) (.k (.int .i64 (-1))))]) (.skip))))) f_law33_TwinKnows_k0))
def f_law33_TwinKnows_b2:SC:=.seq (.ops [o 123 (.bin .lss (.t 122) (.t 121))]) (.seq (.cond (.t 123) (.skip) (.exit 2)) (.seq (.blk 3 (.seq (.ops [o 124 (.mv (.t 122)),o 125 (.ixs 1 (.t 120) (.t 122)),o 126 (.load false 1 (.t 125)),o 22 (.mv (.t 124)),o 23 (.mv (.t 126))]) (.seq (.ops [o 127 (.mv (.t 21)),o 128 (.mv (.t 127)),og 129 128 false (.mv (.t 23)),og 130 128 false (.bin .geq (.t 129) (.k (.int .i64 0))),og 131 128 false (.mv (.t 130)),og 132 131 true (.mv (.t 7)),og 133 131 true (.mv (.t 22)),og 134 131 true (.ixs 1 (.t 132) (.t 133)),og 135 131 true (.load false 1 (.t 134)),og 136 131 true (.bin .geq (.t 135) (.k (.int .i64 0))),og 137 128 false (.pick (.t 131) (.t 136) (.k (.bool false))),og 138 128 false (.mv (.t 137)),og 139 138 true (.mv (.t 23)),og 140 138 true (.mv (.t 7)),og 141 138 true (.mv (.t 22)),og 142 138 true (.ixs 1 (.t 140) (.t 141)),og 143 138 true (.load false 1 (.t 142)),og 144 138 true (.bin .neq (.t 139) (.t 143)),og 145 128 false (.pick (.t 138) (.t 144) (.k (.bool false))),o 146 (.pick (.t 128) (.k (.bool true)) (.t 145)),o 21 (.mv (.t 146))]) (.ops [o 147 (.mv (.t 20)),o 148 (.mv (.t 22)),o 149 (.mv (.t 20)),o 150 (.mv (.t 22)),o 151 (.ixs 1 (.t 149) (.t 150)),o 152 (.load false 1 (.t 151)),o 153 (.mv (.t 23)),o 154 (.mx (.t 152) (.t 153)),o 155 (.ixs 1 (.t 147) (.t 148)),oz (.store 1 (.t 155) (.t 154))])))) (.ops [o 156 (.bin .add (.t 122) (.k (.int .i64 1))),o 122 (.mv (.t 156))])))
def f_law33_TwinKnows_k3:SC:=.seq (.feet [0,1,3,7,15,31,63,127,255,127,639,2047,127,127,16383,32767,32767,131071,262143,524287,1048575,1048575,1048575,1048575,1048575,33554431,67108863,67108863,268435455,536870911,1073741823] [o 166 (.mv (.t 19)),o 167 (.bin .eql (.t 166) (.k (.int .i64 0))),o 168 (.mv (.t 167)),og 169 168 true (.mv (.t 25)),og 170 168 true (.bin .eql (.t 169) (.k (.int .i64 0))),o 171 (.pick (.t 168) (.t 170) (.k (.bool false))),o 172 (.mv (.t 171)),og 173 172 true (.fad 0 (.t 24)),og 174 172 true (.load false 1 (.t 173)),og 175 172 true (.fad 1 (.t 24)),og 176 172 true (.load false 1 (.t 175)),og 177 172 true (.call N.law33_is [.t 174,.t 176]),og 178 172 true (.load true 2 (.t 18)),og 179 172 true (.load true 2 (.t 12)),og 180 172 true (.call N.frac_Mul [.t 178,.t 179]),og 181 172 true (.ext (.t 180) 0),og 182 172 true (.ext (.t 180) 1),og 183 172 true (.dyn (.t 177) [.t 181,.t 182]),o 184 (.pick (.t 172) (.t 183) (.k (.bool false))),o 185 (.mv (.t 184)),og 186 185 true (.call N.law33_is [.k (.int .i64 1),.k (.int .i64 1)]),og 187 185 true (.load true 3 (.t 5)),og 188 185 true (.mv (.t 7)),og 189 185 true (.mv (.t 16)),og 190 185 true (.mv (.t 7)),og 191 185 true (.call N.twin_Counter [.t 187,.t 188,.t 189,.t 190]),og 192 185 true (.ext (.t 191) 0),og 193 185 true (.ext (.t 191) 1),og 194 185 true (.dyn (.t 186) [.t 192,.t 193]),o 195 (.pick (.t 185) (.t 194) (.k (.bool false))),o 4 (.mv (.t 195))]) (.ret)
def f_law33_TwinKnows_k4:SC:=.seq (.ops [o 158 (.load true 3 (.t 5)),o 159 (.mv (.t 6)),o 160 (.mv (.t 20)),o 161 (.call N.twin_Effect [.t 158,.t 159,.t 160]),o 157 (.mv (.t 161)),o 162 (.ext (.t 157) 0),o 163 (.ext (.t 157) 1),o 24 (.alloc [.int .i64 0,.int .i64 0]),oz (.store 2 (.t 24) (.t 162)),o 25 (.mv (.t 163))]) (.seq (.seq (.ops [o 164 (.mv (.t 21))]) (.cond (.t 164) (.ops [o 165 (.build [.int .i64 0,.int .i64 0] [(0,1),(1,1)] [.k (.int .i64 0),.k (.int .i64 1)]),oz (.store 2 (.t 24) (.t 165))]) (.skip))) f_law33_TwinKnows_k3)
def f_law33_TwinKnows_k5:SC:=.seq (.ops [o 111 (.load true 3 (.t 5)),o 112 (.mv (.t 7)),o 113 (.mv (.t 6)),o 114 (.mv (.t 9)),o 115 (.call N.twin_Counter [.t 111,.t 112,.t 113,.t 114]),o 110 (.mv (.t 115)),o 116 (.ext (.t 110) 0),o 117 (.ext (.t 110) 1),o 18 (.alloc [.int .i64 0,.int .i64 0]),oz (.store 2 (.t 18) (.t 116)),o 19 (.mv (.t 117))]) (.seq (.ops [o 118 (.mv (.t 7)),o 119 (.call N.slices_Cloneintint [.t 118]),o 20 (.mv (.t 119))]) (.seq (.ops [o 21 (.mv (.k (.bool false)))]) (.seq (.seq (.ops [o 120 (.mv (.t 9)),o 121 (.len .slice (.t 120)),o 122 (.mv (.k (.int .i64 0)))]) (.blk 2 (.loop f_law33_TwinKnows_b2))) f_law33_TwinKnows_k4)))
def f_law33_TwinKnows_r:SC:=.seq (.seq (.ops [o 26 (.call N.law33_works []),o 27 (.not (.t 26))]) (.cond (.t 27) (.seq (.ops [o 4 (.mv (.k (.bool false)))]) (.ret)) (.skip))) (.seq (.ops [o 28 (.load true 5 (.t 2)),o 29 (.call N.ref33_Draft_Model [.t 28]),o 5 (.alloc [.int .i64 0,.nils,.nils]),oz (.store 3 (.t 5) (.t 29))]) (.seq (.ops [o 30 (.bsl 1 1 [.int .i64 0] [0] [.k (.int .i64 (-1))]),o 31 (.fad 2 (.t 5)),o 32 (.load false 1 (.t 31)),o 33 (.len .slice (.t 32)),o 34 (.call N.slices_Repeatintint [.t 30,.t 33]),o 6 (.mv (.t 34))]) (.seq (.quiet [o 35 (.ixa 3 5 (.t 3) (.k (.int .i64 0))),o 36 (.load true 5 (.t 35)),o 37 (.load true 3 (.t 5)),o 38 (.call N.ref33_Known_Of [.t 36,.t 37]),o 39 (.ixa 3 5 (.t 3) (.k (.int .i64 1))),o 40 (.load true 5 (.t 39)),o 41 (.load true 3 (.t 5)),o 42 (.call N.ref33_Known_Of [.t 40,.t 41]),o 43 (.ixa 3 5 (.t 3) (.k (.int .i64 2))),o 44 (.load true 5 (.t 43)),o 45 (.load true 3 (.t 5)),o 46 (.call N.ref33_Known_Of [.t 44,.t 45]),o 7 (.mv (.t 38)),o 8 (.mv (.t 42)),o 9 (.mv (.t 46))]) (.seq (.ops [o 48 (.load true 3 (.t 5)),o 49 (.mv (.t 8)),o 50 (.mv (.t 9)),o 51 (.call N.twin_Effect [.t 48,.t 49,.t 50]),o 47 (.mv (.t 51)),o 52 (.ext (.t 47) 0),o 53 (.ext (.t 47) 1),o 10 (.alloc [.int .i64 0,.int .i64 0]),oz (.store 2 (.t 10) (.t 52)),o 11 (.mv (.t 53))]) (.seq (.seq (.feet [0,1,3,7,15,7,39,127,7,7,7,7,4095,8191,8191,32767,65535,131071] [o 54 (.mv (.t 11)),o 55 (.bin .neq (.t 54) (.k (.int .i64 0))),o 56 (.mv (.t 55)),og 57 56 false (.fad 0 (.t 10)),og 58 56 false (.load false 1 (.t 57)),og 59 56 false (.fad 1 (.t 10)),og 60 56 false (.load false 1 (.t 59)),og 61 56 false (.call N.law33_is [.t 58,.t 60]),og 62 56 false (.load true 3 (.t 5)),og 63 56 false (.mv (.t 6)),og 64 56 false (.mv (.t 8)),og 65 56 false (.mv (.t 9)),og 66 56 false (.call N.twin_Counter [.t 62,.t 63,.t 64,.t 65]),og 67 56 false (.ext (.t 66) 0),og 68 56 false (.ext (.t 66) 1),og 69 56 false (.dyn (.t 61) [.t 67,.t 68]),og 70 56 false (.not (.t 69)),o 71 (.pick (.t 56) (.k (.bool true)) (.t 70))]) (.cond (.t 71) (.seq (.ops [o 4 (.mv (.k (.bool false)))]) (.ret)) (.skip))) (.seq (.ops [o 73 (.load true 3 (.t 5)),o 74 (.mv (.t 6)),o 75 (.mv (.t 7)),o 76 (.call N.twin_Effect [.t 73,.t 74,.t 75]),o 72 (.mv (.t 76)),o 77 (.ext (.t 72) 0),o 78 (.ext (.t 72) 1),o 12 (.alloc [.int .i64 0,.int .i64 0]),oz (.store 2 (.t 12) (.t 77)),o 13 (.mv (.t 78))]) (.seq (.seq (.ops [o 79 (.mv (.t 13)),o 80 (.bin .neq (.t 79) (.k (.int .i64 0)))]) (.cond (.t 80) (.seq (.ops [o 4 (.mv (.k (.bool false)))]) (.ret)) (.skip))) (.seq (.seq (.ops [o 81 (.fad 0 (.t 12)),o 82 (.load false 1 (.t 81)),o 83 (.bin .eql (.t 82) (.k (.int .i64 0)))]) (.cond (.t 83) (.seq (.ops [o 85 (.load true 3 (.t 5)),o 86 (.mv (.t 7)),o 87 (.mv (.t 8)),o 88 (.mv (.t 9)),o 89 (.call N.twin_Counter [.t 85,.t 86,.t 87,.t 88]),o 84 (.mv (.t 89)),o 90 (.ext (.t 84) 0),o 91 (.ext (.t 84) 1),o 14 (.alloc [.int .i64 0,.int .i64 0]),oz (.store 2 (.t 14) (.t 90)),o 15 (.mv (.t 91))]) (.seq (.ops [o 92 (.mv (.t 15)),o 93 (.bin .eql (.t 92) (.k (.int .i64 7))),o 4 (.mv (.t 93))]) (.ret))) (.skip))) (.seq (.ops [o 94 (.mv (.t 7)),o 95 (.call N.slices_Cloneintint [.t 94]),o 16 (.mv (.t 95))]) (.seq (.seq (.ops [o 96 (.mv (.t 16)),o 97 (.len .slice (.t 96)),o 98 (.mv (.k (.int .i64 0)))]) (.blk 0 (.loop f_law33_TwinKnows_b1))) f_law33_TwinKnows_k5))))))))))
def f_law33_TwinKnows:SF:=⟨196,[.tm 4],.seq (.ops [o 2 (.box (.t 0)),o 3 (.box (.t 1)),o 4 (.mv (.k (.bool false)))]) f_law33_TwinKnows_r⟩
theorem eq_law33_TwinKnows:nFn C0 N.law33_TwinKnows=some f_law33_TwinKnows:=by kernel_rfl
end
end Hx
end
section
namespace Hx
open Go
noncomputable section
def S.matchAt (vals e:List Int)(i:Nat):Bool:=decide (e[i]?.getD 0<0) || decide (e[i]?.getD 0=vals[i]?.getD 0)
def S.matches (vals e:List Int):Bool:=(List.range e.length).all (S.matchAt vals e)
theorem matches_ok {d k k2:Nat}{g:G}{P P2:Nat→Prop}{v w:AV}{vals e:List Int}(hd:0<d)(hv:SlR P k g.h vals v)(hw:SlR P2 k2 g.h e w)(hl:vals.length=e.length) :
  callV C0 d N.twin_matches [v,w] g=.val (.bool (S.matches vals e)):=by
 obtain ⟨v',e1,r1⟩:=arg_sl hv d
 obtain ⟨w',e2,r2⟩:=arg_sl hw d
 rw[call_twin_matches]
 refine iso_bool eq_twin_matches (xs:=[v',w']) (by simp only[mapO,e1,e2]) (by simp[f_twin_matches]) hd ?_
 simp only[f_twin_matches,sx,sy,SO.run,↓reduceIte,Nat.reduceEqDiff,Nat.reduceAdd,Nat.reduceLeDiff,(r2 .nil).len]
 simp only[f_twin_matches_b0]
 refine wpL_range (m:=e.length) hw.1 (fun j t df g=>df=[]∧St t [(0,v'),(7,w')]∧(List.range j).all (S.matchAt vals e)=true) ⟨rfl,by simp[St,sx],rfl⟩ (by simp[sx]) (by simp[sx]) (by decide) (by rintro j t df g v s (rfl | rfl | rfl)<;>simp[St,sx]) ?_ ?_
 ·rintro j t df g hj ⟨rfl,⟨h0,h7,-⟩,hA⟩ h9 h8
  obtain ⟨x,hx,-,-⟩:=take_next hj
  obtain ⟨y,hy,-,-⟩:=take_next (l:=vals) (j:=j) (by omega)
  have h1:j<(e.map ci).length:=by simpa using hj
  have h2:j<(vals.map ci).length:=by rw[List.length_map];omega
  have h3:(e.map ci)[j]?=some (ci x):=by rw[List.getElem?_map,hx];rfl
  have h4:(vals.map ci)[j]?=some (ci y):=by rw[List.getElem?_map,hy];rfl
  have hat:S.matchAt vals e j=(decide (x<0) || decide (x=y)):=by simp[S.matchAt,hx,hy]
  by_cases hx0:0≤x
  ·simp only[sx,sy,SO.run,↓reduceIte,Nat.reduceEqDiff,h0,h7,h8,h9,(r1 g.h).ints,(r2 g.h).ints,h1,h2,h3,h4,ci,Option.isSome_some,Option.getD_some,hx0,decide_true]
   refine bifP_mk (fun hb=>?_) (fun hb=>?_)
   ·simp only[sx,sy,SO.run,↓reduceIte,Nat.reduceEqDiff]
    have:S.matchAt vals e j=false:=by rw[hat];simp at hb ⊢;exact ⟨hx0,hb⟩
    rw[S.matches,all_range_false hj this]
   ·simp only[sx,sy,SO.run,↓reduceIte,Nat.reduceEqDiff,h0,h7,h8,h9,St,true_and,and_true]
    rw[all_range_succ,hA,hat];simp at hb ⊢;exact .inr hb
  ·simp only[sx,sy,SO.run,↓reduceIte,Nat.reduceEqDiff,h0,h7,h8,h9,(r1 g.h).ints,(r2 g.h).ints,h1,h2,h3,h4,ci,Option.isSome_some,Option.getD_some,hx0,decide_false,St,true_and,and_true]
   rw[all_range_succ,hA,hat];simp;omega
 ·rintro t df g ⟨rfl,⟨h0,h7,-⟩,hA⟩
  simp only[f_twin_matches_k1,sx,sy,SO.run,↓reduceIte,Nat.reduceEqDiff]
  rw[S.matches,hA]
def S.sumW (m:Causal)(p:Nat→Bool):Nat→Int
 | 0=>0
 | j+1=>S.sumW m p j+if p j then S.weight m (j:Int) else 0
theorem weight_bound {m:Causal}(hck:S.check m=true)(j:Nat):0≤S.weight m (j:Int)∧S.weight m (j:Int)≤429981696:=by
 have:=wts_bound hck (Int.natCast_nonneg j) 0
 rwa [wts_zero] at this
theorem sumW_bound {m:Causal}(hck:S.check m=true)(p:Nat→Bool):∀j:Nat,0≤S.sumW m p j∧S.sumW m p j≤429981696*(j:Int)
 | 0=>⟨Int.le_refl _,by simp[S.sumW]⟩
 | j+1=>by
  have h1:=sumW_bound hck p j
  have h2:=weight_bound hck j
  rw[S.sumW]
  split<;>omega
theorem sumW_congr {m:Causal}{p q:Nat→Bool}:∀{n:Nat},(∀j,j<n→p j=q j)→S.sumW m p n=S.sumW m q n
 | 0,_=>rfl
 | n+1,h=>by rw[S.sumW,S.sumW,h n (by omega),sumW_congr fun j hj=>h j (by omega)]
end
end Hx
end
section
namespace Hx
open Go
theorem quot_idx:∀{l ds:List Int}(t:Int),(∀c∈l,0<c)→InC l ds→S.quot l (t*S.prod l+S.idx l ds)=t
 | [],[],t,_,_=>by simp[S.quot,S.prod,S.idx]
 | c::l,d::ds,t,hc,h=>by
  have ih:=quot_idx (l:=l) (ds:=ds) (t*c+d) (fun x hx=>hc x (by simp[hx])) h.2
  have hd:0≤d∧d<c:=h.1
  have h0:=hc c (by simp)
  show S.quot l (t*S.prod (c::l)+(d*S.prod l+S.idx l ds)) / c=t
  have e:t*S.prod (c::l)+(d*S.prod l+S.idx l ds)=(t*c+d)*S.prod l+S.idx l ds:=by
   rw[prod_cons,Int.add_mul,Int.mul_assoc];omega
  rw[e,ih,Int.mul_comm t c,Int.mul_add_ediv_left _ _ (by omega),Int.ediv_eq_zero_of_lt hd.1 hd.2,Int.add_zero]
 | [],_::_,_,_,h=>h.elim
 | _::_,[],_,_,h=>h.elim
theorem idx_split {l ds:List Int}(h:InC l ds):∀i,i≤l.length→S.idx l ds=hz l ds i*S.prod (l.drop i)+S.idx (l.drop i) (ds.drop i)
 | 0,_=>by rw[hz_zero];simp
 | i+1,hi=>by
  have hil:i<l.length:=by omega
  have hid:i<ds.length:=by rw[h.len];exact hil
  rw[idx_split h i (by omega),hz_succ (List.getElem?_eq_getElem hil) (List.getElem?_eq_getElem hid),List.drop_eq_getElem_cons hil,List.drop_eq_getElem_cons hid,prod_cons]
  show _+(ds[i]*S.prod (l.drop (i+1))+S.idx (l.drop (i+1)) (ds.drop (i+1)))=_
  rw[Int.add_mul,Int.mul_assoc];omega
theorem values_idx {l ds:List Int}(hc:∀c∈l,0<c)(h:InC l ds):S.values l (S.idx l ds)=ds:=by
 refine List.ext_getElem (by simp[S.values,h.len]) fun i h1 h2=>?_
 have hil:i<l.length:=by simpa [S.values] using h1
 obtain ⟨v,hv,hv0,hv1⟩:=h.get (List.getElem?_eq_getElem hil)
 rw[List.getElem?_eq_getElem h2] at hv
 injection hv with hv
 have:(S.values l (S.idx l ds))[i]=S.digit l (S.idx l ds) i:=by simp[S.values]
 rw[this,S.digit,idx_split h (i+1) hil,quot_idx _ (fun c hcc=>hc c (List.mem_of_mem_drop hcc)) (h.drop (i+1)),List.getElem?_eq_getElem hil,Option.getD_some,hz_succ (List.getElem?_eq_getElem hil) (List.getElem?_eq_getElem h2),Int.mul_comm,
  Int.mul_add_emod_self_left]
 rw[hv];exact Int.emod_eq_of_lt hv0 hv1
theorem sumW_ge {m:Causal}(hck:S.check m=true){p:Nat→Bool}:∀{n j:Nat},j<n→p j=true→S.weight m (j:Int)≤S.sumW m p n
 | n+1,j,hj,hp=>by
  rw[S.sumW]
  have h2:=weight_bound hck n
  by_cases e:j=n
  ·subst e;rw[if_pos hp];have:=(sumW_bound hck p j).1;omega
  ·have:=sumW_ge hck (p:=p) (n:=n) (j:=j) (by omega) hp
   split<;>omega
theorem prod_pos:∀{l:List Int},(∀x∈l,0<x)→0<S.prod l
 | [],_=>by decide
 | a::l,h=>by
  rw[prod_cons]
  exact Int.mul_pos (h a (by simp)) (prod_pos fun x hx=>h x (by simp[hx]))
theorem sum_pos_ex:∀{l:List Int},0<l.sum→∃i,∃h:i<l.length,0<l[i]
 | [],h=>by simp at h
 | a::l,h=>by
  by_cases ha:0<a
  ·exact ⟨0,by simp,ha⟩
  ·rw[List.sum_cons] at h
   obtain ⟨i,hi,hp⟩:=sum_pos_ex (l:=l) (by omega)
   exact ⟨i+1,by simpa using hi,by simpa using hp⟩
def S.whole (m:Causal):Int:=S.sumW m (fun _=>true) (S.hidden m).toNat
theorem good_ds:∀{rs:List (List Int)},(∀r∈rs,0<r.sum)→∃ds:List Int,InC (rs.map fun r=>(r.length:Int)) ds∧∀(i:Nat)(r:List Int)(d:Int),rs[i]?=some r→ds[i]?=some d→0<r[d.toNat]?.getD 0
 | [],_=>⟨[],trivial,fun i r d h=>by simp at h⟩
 | r::rs,h=>by
  obtain ⟨ds,h1,h2⟩:=good_ds (rs:=rs) fun x hx=>h x (by simp[hx])
  obtain ⟨k,hk,hp⟩:=sum_pos_ex (h r (by simp))
  refine ⟨(k:Int)::ds,⟨⟨Int.natCast_nonneg k,by show (k:Int)<(r.length:Int);omega⟩,h1⟩,fun i r' d hr hd=>?_⟩
  cases i with
  | zero =>
   injection hr with hr;injection hd with hd;subst hr;subst hd
   rw[Int.toNat_natCast,List.getElem?_eq_getElem hk];exact hp
  | succ i=>exact h2 i r' d (by simpa using hr) (by simpa using hd)
theorem whole_pos {m:Causal}(hck:S.check m=true):0<S.whole m:=by
 obtain ⟨hs,hgr,hn1,hro,hno⟩:=check_facts hck
 have hlb:=lens_bound hs
 simp only[S.rootsOk,Bool.and_eq_true] at hro
 obtain ⟨ds,h1,h2⟩:=good_ds (rs:=m.roots) fun r hr=>by
  have:=List.all_eq_true.1 hro.1 r hr
  simp only[S.rootOk,Bool.and_eq_true,decide_eq_true_eq] at this
  have:=this.2
  omega
 have h1:InC (S.lens m) ds:=h1
 have hv:=values_idx (fun c hc=>by have:=hlb c hc;omega) h1
 have hb:=idx_bound hlb h1
 obtain ⟨j,hj⟩:=Int.eq_ofNat_of_zero_le hb.1
 have hlt:j<(S.hidden m).toNat:=by
  have:S.hidden m=S.prod (S.lens m):=rfl
  omega
 have hw:0<S.weight m (j:Int):=by
  refine prod_pos fun x hx=>?_
  obtain ⟨r,hr,rfl⟩:=List.mem_map.1 hx
  have hr:=List.mem_range.1 hr
  have hrl:r<(S.lens m).length:=by rw[lens_len];exact hr
  have e:ds[r]?=some (S.digit (S.lens m) (j:Int) r):=by
   rw[←hv,hj,S.values,List.getElem?_map,List.getElem?_range hrl];rfl
  have:=h2 r _ _ (List.getElem?_eq_getElem hr) e
  rw[S.wAt,List.getElem?_eq_getElem hr];exact this
 have:=sumW_ge hck (p:=fun _=>true) hlt rfl
 unfold S.whole;omega
theorem whole_bound {m:Causal}(hck:S.check m=true)(p:Nat→Bool):0≤S.sumW m p (S.hidden m).toNat∧S.sumW m p (S.hidden m).toNat≤28179280429056:=by
 obtain ⟨hs,hgr,hn1,hro,hno⟩:=check_facts hck
 have hhb:=hidden_bound hs m.roots.length
 rw[List.take_length] at hhb
 have hhb:1≤S.hidden m∧S.hidden m≤4 ^ 8:=hhb
 have:=sumW_bound hck p (S.hidden m).toNat
 omega
end Hx
end
section
namespace Hx
open Go
noncomputable section
theorem fillRows_two {v w z:AV}(hv:v.cells=[v])(tv:v.isTup=false)(hw:w.cells=[w])(tw:w.isTup=false)(g:G):bslV 1 2 [z] [0,1] [v,w] g=.upd (.hsl g.nx 0 0 2 none) (g.new (.cells 1 [[v],[w]] 0 false false)):=by
 have e:fillRows 1 [[z],[z]] [(0,v),(1,w)]=some [[v],[w]]:=by
  simp only[fillRows,hv,tv,hw,tw,lenR_eq,List.length_singleton,notb_eq,Bool.not_false]
  rfl
 show (match fillRows 1 [[z],[z]] [(0,v),(1,w)] with | some rows=>OR.upd (.hsl g.nx 0 0 2 none) (g.new (.cells 1 rows 0 false false)) | none=>.fail)=_
 rw[e]
theorem fillRows_three {v w y z:AV}(hv:v.cells=[v])(tv:v.isTup=false)(hw:w.cells=[w])(tw:w.isTup=false)(hy:y.cells=[y])(ty:y.isTup=false)(g:G):bslV 1 3 [z] [0,1,2] [v,w,y] g=.upd (.hsl g.nx 0 0 3 none) (g.new (.cells 1 [[v],[w],[y]] 0 false false)):=by
 have e:fillRows 1 [[z],[z],[z]] [(0,v),(1,w),(2,y)]=some [[v],[w],[y]]:=by
  simp only[fillRows,hv,tv,hw,tw,hy,ty,lenR_eq,List.length_singleton,notb_eq,Bool.not_false]
  rfl
 show (match fillRows 1 [[z],[z],[z]] [(0,v),(1,w),(2,y)] with | some rows=>OR.upd (.hsl g.nx 0 0 3 none) (g.new (.cells 1 rows 0 false false)) | none=>.fail)=_
 rw[e]
theorem two_lst {a b:List Int}{l r:AV}{q kk:Nat}{h:H}(hl:SlR NoP kk .nil a l)(hr:SlR NoP kk .nil b r)(hq:h.get q=.cells 1 [[l],[r]] 0 false false):SlR (fun _=>True) kk h [a,b] (.hsl q 0 0 2 none):=by
 refine ⟨by show 2<_;decide,trivial,[[l],[r]],?_,?_,?_,trivial⟩
 ·show rowsOf h 1 _=_
  simp only[rowsOf,hq];rfl
 ·exact Rp.tree (P:=fun _=>True) (k':=kk) (h':=h) (show Rp.rp NoP kk .nil a [l] from ⟨l,rfl,hl⟩) (Nat.le_refl _)
 ·exact Rp.tree (P:=fun _=>True) (k':=kk) (h':=h) (show Rp.rp NoP kk .nil b [r] from ⟨r,rfl,hr⟩) (Nat.le_refl _)
theorem three_lst {a b c:List Int}{l r s:AV}{q kk:Nat}{h:H}(hl:SlR NoP kk .nil a l)(hr:SlR NoP kk .nil b r)(hs:SlR NoP kk .nil c s)(hq:h.get q=.cells 1 [[l],[r],[s]] 0 false false):SlR (fun _=>True) kk h [a,b,c] (.hsl q 0 0 3 none):=by
 refine ⟨by show 3<_;decide,trivial,[[l],[r],[s]],?_,?_,?_,?_,trivial⟩
 ·show rowsOf h 1 _=_
  simp only[rowsOf,hq];rfl
 ·exact Rp.tree (P:=fun _=>True) (k':=kk) (h':=h) (show Rp.rp NoP kk .nil a [l] from ⟨l,rfl,hl⟩) (Nat.le_refl _)
 ·exact Rp.tree (P:=fun _=>True) (k':=kk) (h':=h) (show Rp.rp NoP kk .nil b [r] from ⟨r,rfl,hr⟩) (Nat.le_refl _)
 ·exact Rp.tree (P:=fun _=>True) (k':=kk) (h':=h) (show Rp.rp NoP kk .nil c [s] from ⟨s,rfl,hs⟩) (Nat.le_refl _)
theorem read_all {m:Causal}{ls:List (List Int)}(h:S.readE m ls=0):S.check m=true∧∀l∈ls,S.act m l=true:=by
 unfold S.readE at h
 cases hc:S.check m with
 | false=>rw[hc] at h;simp at h
 | true =>
  rw[hc,if_pos rfl] at h
  cases ha:ls.all (S.act m) with
  | false=>rw[ha] at h;simp at h
  | true=>exact ⟨rfl,List.all_eq_true.1 ha⟩
theorem SlR.far8 {α:Type} [Rp α]{P:Nat→Prop}{k:Nat}{h h':H}{l:List α}{v:AV}(r:SlR P k h l v)(hf:∀i,P i→h'.get i=h.get i):SlR P k h' l v:=by
 obtain ⟨w,e,q⟩:=Rp.mono (P':=P) (k':=k) (h':=h') (show Rp.rp P k h l [v] from ⟨v,rfl,r⟩) (fun i hi=>⟨hi,hf i hi⟩) (Nat.le_refl _)
 injection e with e;subst e;exact q
def S.mw (m:Causal)(act q:List Int)(j:Nat):Bool:=S.matches (S.run m (S.values (S.lens m) ((j):Int)) act) q
def S.effS (m:Causal)(act q:List Int):Int:=S.sumW m (S.mw m act q) (S.hidden m).toNat
def S.teffect (m:Causal)(act q:List Int):QI:=if S.readE m [act,q]=0 then S.low (S.effS m act q).toNat (S.whole m).toNat else (0,0)
def EI (m:Causal)(k1 k2 act q:AV)(h:H)(s w:Int):Prop:=h.get 1=.cells 1 [[act]] 0 false false∧h.get 2=.cells 1 [[q]] 0 false false∧h.get 3=.cells 2 [[.int .i64 0,.int .i64 0]] 0 false false ∧
 h.get 5=.cells 4 [[.int .i64 m.grain,k1,k2,.int .i64 (S.hidden m)]] 0 false false∧h.get 6=.cells 1 [[.int .i64 s]] 0 false false∧h.get 7=.cells 1 [[.int .i64 w]] 0 false false
theorem effect_body {d kk:Nat}{rd:Option Nat}{m:Causal}{t:T}{g:G}{j:Nat}{al ql:List Int}{k1 k2 act q u:AV}(hd:0<d)(hck:S.check m=true)(hac:S.act m al=true)(hqc:S.act m ql=true)
  (hks:∀h,Agg (⟨m,S.hidden m⟩:KnownM) NoP 0 h (.agg [.int .i64 m.grain,k1,k2,.int .i64 (S.hidden m)])) (ha:SlR NoP kk .nil al act) (hq:SlR NoP kk .nil ql q) (hu:SlR (fun i=>8≤i) 0 g.h (S.values (S.lens m) (j:Int)) u) (hj:(j:Int)<S.hidden m)
  (ht:St t [(4,.hptr 1 0 0 0),(5,.hptr 2 0 0 0),(8,.hptr 5 0 0 0),(10,.hptr 6 0 0 0),(11,.hptr 7 0 0 0),(12,u),(13,.int .i64 (S.weight m (j:Int)))]) (hI:EI m k1 k2 act q g.h (S.sumW m (S.mw m al ql) j) (S.sumW m (fun _=>true) j)) :
  wp C0 d rd f_twin_Effect_b1 (fun e _ df g3=>e=.norm∧df=[]∧EI m k1 k2 act q g3.h (S.sumW m (S.mw m al ql) (j+1)) (S.sumW m (fun _=>true) (j+1))∧g3.nx=g.nx∧∀i,8≤i→g3.h.get i=g.h.get i) t [] g:=by
 obtain ⟨hs,hgr,hn1,hro,hno⟩:=check_facts hck
 have hhb:=hidden_bound hs m.roots.length
 rw[List.take_length] at hhb
 have hhb:1≤S.hidden m∧S.hidden m≤4 ^ 8:=hhb
 have hvi:=values_inC (l:=S.lens m) (h:=(j:Int)) (fun c hc=>by have:=lens_bound hs c hc;omega) (Int.natCast_nonneg j)
 have hrl:(S.run m (S.values (S.lens m) (j:Int)) al).length=ql.length:=by simp[S.run];rw[(act_at hqc).1]
 obtain ⟨h4,h5,h8,h10,h11,h12,h13,-⟩:=ht
 obtain ⟨i1,i2,i3,i5,i6,i7⟩:=hI
 have b0:=weight_bound hck j
 have b1:=sumW_bound hck (S.mw m al ql) j
 have b2:=sumW_bound hck (fun _=>true) j
 have w2:S.sumW m (fun _=>true) (j+1)=S.sumW m (fun _=>true) j+S.weight m (j:Int):=by rw[S.sumW];simp
 simp only[f_twin_Effect_b1,sx,sy,SO.run,↓reduceIte,Nat.reduceEqDiff,Nat.reduceAdd,Nat.reduceLeDiff,h4,h5,h8,h10,h11,h12,h13,i1,i2,i5,i6,i7,H.get_put,
  ←w2,wrap64 (show -9223372036854775808≤S.sumW m (fun _=>true) (j+1) by omega) (show S.sumW m (fun _=>true) (j+1)<9223372036854775808 by omega)]
 refine sat_ex (run_ok (P:=NoP) (k:=0) (Pa:=NoP) (ka:=kk) hd (hks _) (hu.far8 fun i (hi:8≤i)=>by simp[H.get_put,show ¬i=7 by omega]) (ha.tree (Nat.le_refl _)) hck hvi hac) fun r hr=>?_
 have hmat:∀g:G,callV C0 d N.twin_matches [r,q] g=.val (.bool (S.mw m al ql j)):=fun g=>matches_ok (P:=NoP) (P2:=NoP) (k:=0) (k2:=kk) hd (hr.sl _) (hq.tree (Nat.le_refl _)) hrl
 simp only[sx,sy,SO.run,↓reduceIte,Nat.reduceEqDiff,Nat.reduceAdd,Nat.reduceLeDiff,h4,h5,h8,h10,h11,h12,h13,i2,H.get_put,hmat,true_and]
 cases hmw:S.mw m al ql j with
 | true =>
  have w1:S.sumW m (S.mw m al ql) (j+1)=S.sumW m (S.mw m al ql) j+S.weight m (j:Int):=by rw[S.sumW,hmw];simp
  simp only[sx,sy,SO.run,↓reduceIte,Nat.reduceEqDiff,Nat.reduceAdd,Nat.reduceLeDiff,h4,h5,h8,h10,h11,h12,h13,i6,H.get_put,←w1,
   wrap64 (show -9223372036854775808≤S.sumW m (S.mw m al ql) (j+1) by omega) (show S.sumW m (S.mw m al ql) (j+1)<9223372036854775808 by omega),true_and]
  refine ⟨⟨?_,?_,?_,?_,?_,?_⟩,fun i hi=>?_⟩
  ·simp[H.get_put,i1]
  ·simp[H.get_put,i2]
  ·simp[H.get_put,i3]
  ·simp[H.get_put,i5]
  ·simp[H.get_put]
  ·simp[H.get_put]
  ·simp[H.get_put,show ¬i=6 by omega,show ¬i=7 by omega]
 | false =>
  have w1:S.sumW m (S.mw m al ql) (j+1)=S.sumW m (S.mw m al ql) j:=by rw[S.sumW,hmw];simp
  simp only[sx,sy,SO.run,↓reduceIte,Nat.reduceEqDiff,Nat.reduceAdd,Nat.reduceLeDiff,w1,true_and]
  refine ⟨⟨?_,?_,?_,?_,?_,?_⟩,fun i hi=>?_⟩
  ·simp[H.get_put,i1]
  ·simp[H.get_put,i2]
  ·simp[H.get_put,i3]
  ·simp[H.get_put,i5]
  ·simp[H.get_put,i6]
  ·simp[H.get_put]
  ·simp[H.get_put,show ¬i=7 by omega]
end
end Hx
end
