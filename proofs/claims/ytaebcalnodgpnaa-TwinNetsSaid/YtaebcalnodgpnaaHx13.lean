/- A part of the proof: an interpreter over abstract values, shown right against the model, and what the functions of the chapter compute on it. -/
import Derived.Test.YtaebcalnodgpnaaHx12
set_option linter.unusedVariables false
set_option linter.unusedSimpArgs false
set_option linter.unnecessarySimpa false
section
namespace Hx
open Go
noncomputable section
structure Made (m:Causal):Prop where
 ex:∃(e:ME) (c:Nat→Int) (R:List (List Int)) (F N O:Nat→List Int) (num:Nat→Nat),m=mkM e c R F N O∧(1≤e.n∧e.n≤4)∧(2≤e.gr∧e.gr≤12)∧MF e c R N∧R.length≤6∧(∀i,(N i).length≤3) ∧
  (∀k,k<e.n→num k<e.n)∧(∀i j,i<e.n→j<e.n→num i=num j→i=j)∧(∀u,u<e.n→∃k,k<e.n∧num k=u)∧∀k,k<e.n→MNd e c R F N O num k
def MadeV:VS:=fun P k h v=>∃m,Made m∧Agg m P k h v
theorem snb_made:Snb MadeV 1:=by
 refine ⟨fun {P k h v n} d r hn=>?_,fun {k h v n} r hn=>?_⟩
 ·obtain ⟨m,hm,r⟩:=r
  obtain ⟨v',e,r'⟩:=(snb_agg m).snap d r hn
  exact ⟨v',e,m,hm,r'⟩
 ·obtain ⟨m,hm,r⟩:=r
  exact (snb_agg m).tag r hn
theorem perm_num (os:List UInt8)(n:Nat):∃num:Nat→Nat,(∀k,k<n→(S.perm os n)[k]?=some (num k:Int))∧(∀k,k<n→num k<n)∧(∀i j,i<n→j<n→num i=num j→i=j)∧∀u,u<n→∃k,k<n∧num k=u:=by
 have hp:=perm_perm os n
 have hl:=perm_len os n
 have hmem:∀x∈S.perm os n,0≤x∧x<n:=fun x hx=>by
  have:=hp.mem_iff.1 hx
  simp at this
  obtain ⟨a,ha,rfl⟩:=this
  omega
 have hnd:(S.perm os n).Nodup:=by
  rw[hp.nodup_iff]
  exact List.Pairwise.map _ (fun a b h e=>h (by omega)) (List.nodup_range (n:=n))
 have hat:∀k,k<n→(S.perm os n)[k]?=some ((((S.perm os n)[k]?.getD 0).toNat:Nat):Int):=fun k hk=>by
  have hk2:k<(S.perm os n).length:=by omega
  rw[List.getElem?_eq_getElem hk2,Option.getD_some]
  have:=hmem _ (List.getElem_mem hk2)
  congr 1;omega
 refine ⟨fun k=>((S.perm os n)[k]?.getD 0).toNat,hat,fun k hk=>?_,fun i j hi hj e=>?_,fun u hu=>?_⟩
 ·have hk2:k<(S.perm os n).length:=by omega
  have:=hmem _ (List.getElem_mem hk2)
  simp only[List.getElem?_eq_getElem hk2,Option.getD_some]
  omega
 ·have hi2:i<(S.perm os n).length:=by omega
  have hj2:j<(S.perm os n).length:=by omega
  have h1:=hmem _ (List.getElem_mem hi2)
  have h2:=hmem _ (List.getElem_mem hj2)
  simp only[List.getElem?_eq_getElem hi2,List.getElem?_eq_getElem hj2,Option.getD_some] at e
  have e2:(S.perm os n)[i]=(S.perm os n)[j]:=by omega
  rcases Nat.lt_trichotomy i j with h | h | h
  ·exact absurd e2 (List.pairwise_iff_getElem.1 hnd i j hi2 hj2 h)
  ·exact h
  ·exact absurd e2.symm (List.pairwise_iff_getElem.1 hnd j i hj2 hi2 h)
 ·have:((u:Nat):Int)∈S.perm os n:=hp.mem_iff.2 (List.mem_map.2 ⟨u,List.mem_range.2 hu,rfl⟩)
  obtain ⟨k,hk,hk2⟩:=List.mem_iff_getElem.1 this
  refine ⟨k,by omega,?_⟩
  simp only[List.getElem?_eq_getElem hk,Option.getD_some,hk2]
  omega
theorem cpy_own {g:G}{b sz:Nat}{v x:AV}{rows src:List (List AV)}{K:AV→G→Prop}{D:ADf→Prop}(hv:Own g b v sz rows)(hne:rows≠[])(hx:rowsOf g.h sz x=some src)
  (k:∀g' z,Own g' b v sz (src.take rows.length++rows.drop src.length)→g'.nx=g.nx→(∀i,vid v≠some i→g'.h.get i=g.h.get i)→K (.int .i64 z) g'):(copyA sz v x g).sat K g D:=by
 unfold copyA
 rw[hx]
 rcases hv with ⟨rfl,rfl⟩ | ⟨id,ep,lo,h1,h2,rfl,h3⟩
 ·exact absurd rfl hne
 ·dsimp only
  simp only[G.get_eq,h3,bif'_eq,show Nat.beq ep ep=true from Nat.beq_refl ep,show Nat.beq sz sz=true from Nat.beq_refl sz,lenR_eq,Bool.true_and,notb_eq,Bool.not_false,Bool.and_true,Nat.ble_eq,Nat.zero_add,Nat.le_refl,if_true]
  refine k _ _ (.inr ⟨id,ep,lo,h1,by simpa using h2,?_,?_⟩) (by simp) (fun i hi=>?_)
  ·congr 1
   simp;omega
  ·simp only[G.put_h,get_put_eq,takeR_eq]
   congr 1
   have hmin:Nat.min src.length rows.length=min src.length rows.length:=rfl
   have key:(List.take (Nat.min src.length rows.length) src).length=min src.length rows.length:=by rw[List.length_take,hmin];omega
   have e1:putRows rows 0 (List.take (Nat.min src.length rows.length) src)=(List.take (Nat.min src.length rows.length) src)++rows.drop (min src.length rows.length):=by
    unfold putRows
    split
    ·rename_i r hr
     rw[hr,setR_eq]
     rw[hr] at key
     cases rows with
     | nil=>exact absurd rfl hne
     | cons a l =>
      have:min src.length (a::l).length=1:=by rw[←key];rfl
      rw[this];rfl
    ·rw[takeR_eq,dropR_eq,lenR_eq,key];simp
   rw[e1]
   by_cases h:src.length≤rows.length
   ·rw[hmin,Nat.min_eq_left h,List.take_of_length_le (Nat.le_refl _),List.take_of_length_le h]
   ·rw[hmin,Nat.min_eq_right (by omega),List.drop_length,List.drop_of_length_le (by omega)]
  ·rw[G.put_h,get_put_ne _ _ _ (fun e=>hi (by rw[e];rfl))]
end
end Hx
end
section
namespace Hx
open Go
noncomputable section
theorem SlR.wide {α:Type} [Rp α]{P:Nat→Prop}{k k':Nat}{h h':H}{l:List α}{v:AV}(r:SlR NoP k h l v)(hk:k≤k'):SlR P k' h' l v:=by
 obtain ⟨w,hw,q⟩:=Rp.tree (P:=P) (k':=k') (h':=h') (show Rp.rp NoP k h l [v] from ⟨v,rfl,r⟩) hk
 injection hw with hw;subst hw;exact q
theorem Own.lower {g:G}{b b':Nat}{v:AV}{sz:Nat}{rows:List (List AV)}(h:Own g b v sz rows)(hb:b'≤b):Own g b' v sz rows:=by
 rcases h with h | ⟨id,ep,lo,h1,h2,h3,h4⟩
 ·exact .inl h
 ·exact .inr ⟨id,ep,lo,by omega,h2,h3,h4⟩
structure M0 (n p4 q i5 p7:Nat) (nv w5 cl:AV) (row0:List AV) (prow:List (List AV)) (gr:Int) (g:G) (cf:Nat→Int):Prop where
 h0:g.h.get 0=.cells 5 [row0] 0 false false
 h1:g.h.get 1=.cells 3 [[.int .i64 0,.nils,.nils]] 0 false false
 hN:Own g 2 nv 4 (rowsN n cf fun _=>.nils)
 h4:g.h.get p4=.cells 3 [[.int .i64 gr,.nils,nv]] 0 false false
 h5:Own g 2 w5 4 prow
 h7:g.h.get p7=.cells 2 [[cl,.int .i64 0]] 0 false false
 nx:p7<g.nx
section
variable {n p4 q i5 p7:Nat}{nv w5 cl:AV}{row0:List AV}{prow:List (List AV)}{gr:Int}{g g':G}{cf cf':Nat→Int}
theorem M0.node (h:M0 n p4 q i5 p7 nv w5 cl row0 prow gr g cf)(ho:1<q∧q<p4∧p4<i5∧i5<p7)(v5:vid w5=some i5)(vn:vid nv=some q)(hN:Own g' 2 nv 4 (rowsN n cf' fun _=>.nils))(hn:g.nx≤g'.nx)
  (hf:∀i,vid nv≠some i→g'.h.get i=g.h.get i):M0 n p4 q i5 p7 nv w5 cl row0 prow gr g' cf':=by
 have hf':∀i,i≠q→g'.h.get i=g.h.get i:=fun i hi=>hf i (by rw[vn];intro e;injection e with e;exact hi e.symm)
 have:=h.nx
 exact { h0:=by rw[hf' 0 (by omega),h.h0],h1:=by rw[hf' 1 (by omega),h.h1],hN:=hN,h4:=by rw[hf' _ (by omega),h.h4]
         h5:=h.h5.fr hn fun i hi=>hf' i (by have:=vid_inj v5 hi;omega),h7:=by rw[hf' _ (by omega),h.h7],nx:=by omega }
theorem M0.same (h:M0 n p4 q i5 p7 nv w5 cl row0 prow gr g cf)(hf:g'.h=g.h)(hn:g.nx≤g'.nx):M0 n p4 q i5 p7 nv w5 cl row0 prow gr g' cf :=
 { h0:=by rw[hf,h.h0],h1:=by rw[hf,h.h1],hN:=h.hN.fr hn fun i _=>by rw[hf],h4:=by rw[hf,h.h4],h5:=h.h5.fr hn fun i _=>by rw[hf],h7:=by rw[hf,h.h7],nx:=by have:=h.nx;omega }
end
theorem model_ok {d:Nat}{g:G}{x:DraftM}{v:AV}(hd:0<d)(hm:Agg x NoP 0 g.h v):∃r,callV C0 d N.ref33_Draft_Model [v] g=.val r∧MadeV NoP 0 .nil r:=by
 have e0:=agg_same d hm
 obtain ⟨cs,rfl,hc⟩:=hm
 obtain ⟨a,b,c,e,rfl,ha,hb,hcc,hee⟩:=rp_draftM.1 hc
 rw[call_ref33_Draft_Model]
 refine iso_run eq_ref33_Draft_Model (xs:=[.agg [u8v x.1,a,b,c,e]]) (by simp only[mapO,e0]) (by simp[f_ref33_Draft_Model]) snb_made (by decide) hd ?_
 clear e0 hc
 have ha:=ha.tree (h':=.nil) (Nat.le_refl _)
 have hb:=hb.tree (h':=.nil) (Nat.le_refl _)
 have hcc:=hcc.tree (h':=.nil) (Nat.le_refl _)
 have hee:=hee.tree (h':=.nil) (Nat.le_refl _)
 have x8:x.1.toNat<256:=x.1.toNat_lt
 obtain ⟨n,hn⟩:∃n,n=min (max x.2.1.length 1) 4:=⟨_,rfl⟩
 have hn1:1≤n∧n≤4:=by omega
 have hnI:min (max ((x.2.1.length:Nat):Int) 1) 4=(n:Int):=by omega
 obtain ⟨gr,hgr⟩:∃gr:Int,gr=2+(x.1.toNat:Int) % 11:=⟨_,rfl⟩
 have hg1:2≤gr∧gr≤12:=by omega
 simp only[f_ref33_Draft_Model,sx,sy,SO.run,↓reduceIte,Nat.reduceEqDiff,Nat.reduceAdd]
 generalize hg0:((G.empty.new (AObj.cells 5 [[u8v x.fst,a,b,c,e]] 0 false false)).new (AObj.cells 3 [[AV.int IntKind.i64 0,AV.nils,AV.nils]] 0 false false))=g0
 have f0:g0.h.get 0=.cells 5 [[u8v x.1,a,b,c,e]] 0 false false:=by rw[←hg0];simp[sx,H.get_put]
 have f1:g0.h.get 1=.cells 3 [[.int .i64 0,.nils,.nils]] 0 false false:=by rw[←hg0];simp[sx,H.get_put]
 have f2:g0.nx=2:=by rw[←hg0];simp[sx]
 clear hg0
 simp only[f_ref33_Draft_Model_r,sx,sy,sf,SO.run,↓reduceIte,Nat.reduceEqDiff,Nat.reduceAdd,Nat.reduceLeDiff,f0,ha.len,hnI,u8v,bin_rem .u8 (show (0:Int)≤(x.1.toNat:Int) by omega) (show (0:Int)<11 by decide),
  wrap64 (show -9223372036854775808≤(x.1.toNat:Int) % 11 by omega) (show (x.1.toNat:Int) % 11<9223372036854775808 by omega),wrap64 (show -9223372036854775808≤2+(x.1.toNat:Int) % 11 by omega) (show 2+(x.1.toNat:Int) % 11<9223372036854775808 by omega),←hgr,wrap64 (show -9223372036854775808≤gr by omega) (show gr<9223372036854775808 by omega)]
 refine mks_ownL (b:=2) (n:=n) (by simp[room];omega) (by simp[room];omega) (by simp[f2]) fun nv g1 hnv n1 fr1 v1 lg1=>?_
 simp only[sx,sy] at n1 fr1 v1 lg1
 have f0':g1.h.get 0=.cells 5 [[u8v x.1,a,b,c,e]] 0 false false:=by rw[fr1 0 (by omega),f0]
 have f1':g1.h.get 1=.cells 3 [[.int .i64 0,.nils,.nils]] 0 false false:=by rw[fr1 1 (by omega),f1]
 simp only[sx,sy,sf,SO.run,↓reduceIte,Nat.reduceEqDiff,Nat.reduceAdd,Nat.reduceLeDiff,hnv.cell.1,hnv.cell.2]
 refine ⟨?_,?_⟩
 ·simp only[List.reverse_cons,List.reverse_nil,List.nil_append,List.cons_append,lg1]
  refine footsOk_mk [false,false,false,false,false,false,true,false,true,true] [(0,6),(1,6),(2,6),(3,6),(4,6),(0,8),(1,8),(2,8),(3,8),(4,8),(5,8),(6,8),(7,8)] (by simp[All2,rdLook,noLook,bigLook]) (by decide) ?_
  rintro p hp x y hx hy
  simp only[List.mem_cons,List.not_mem_nil,or_false] at hp
  rcases hp with rfl | rfl | rfl | rfl | rfl | rfl | rfl | rfl | rfl | rfl | rfl | rfl | rfl<;>(simp at hx hy;subst hx;subst hy;refine apart_mk rfl rfl rfl rfl ?_ ?_ ?_<;>simp[rdLook,noLook,refIds]<;>omega)
 refine mks_own (b:=2) (n:=n) (by simp[room];omega) (by simp[room];omega) (by simp;try omega) fun w5 g2 hw5 n2 fr2 v2=>?_
 simp only[sx,sy] at n2 fr2 v2
 obtain ⟨p4,hp4⟩:∃p4,p4=g1.nx+1+1:=⟨_,rfl⟩
 rw[←hp4] at n2 fr2 v2
 have k0:g2.h.get 0=.cells 5 [[u8v x.1,a,b,c,e]] 0 false false:=by rw[fr2 0 (by omega),if_neg (by omega),if_neg (by omega),f0']
 have k1:g2.h.get 1=.cells 3 [[.int .i64 0,.nils,.nils]] 0 false false:=by rw[fr2 1 (by omega),if_neg (by omega),if_neg (by omega),f1']
 have k4:g2.h.get p4=.cells 3 [[.int .i64 gr,.nils,nv]] 0 false false:=by rw[fr2 p4 (by omega),if_pos rfl]
 have kN:Own g2 2 nv 4 (List.replicate n [AV.int IntKind.i64 0,AV.nils,AV.nils,AV.nils]):=hnv.fr (by omega) fun i hi=>by have:=vid_inj v1 hi;rw[fr2 i (by omega),if_neg (by omega),if_neg (by omega)]
 simp only[←hp4,sx,sy,sf,SO.run,↓reduceIte,Nat.reduceEqDiff,Nat.reduceAdd,Nat.reduceLeDiff,k0]
 have rA:=ha.rows
 obtain ⟨arows,ra1,ra2⟩:=rA
 have ra1:∀h',rowsOf h' 4 a=some arows:=fun h'=>by
  obtain ⟨rr,q1,-⟩:=ha.all
  have q1:∀h',rowsOf h' 4 a=some rr:=q1
  have:=(q1 .nil).symm.trans ra1
  injection this with this;subst this;exact q1 h'
 refine cpy_own hw5 (by intro h;have:=congrArg List.length h;simp at this;omega) (ra1 _) fun g3 z x5 n3 fr3=>?_
 have k0:g3.h.get 0=.cells 5 [[u8v x.1,a,b,c,e]] 0 false false:=by rw[fr3 0 (by rw[v2];intro h;injection h;omega),k0]
 have k1:g3.h.get 1=.cells 3 [[.int .i64 0,.nils,.nils]] 0 false false:=by rw[fr3 1 (by rw[v2];intro h;injection h;omega),k1]
 have k4:g3.h.get p4=.cells 3 [[.int .i64 gr,.nils,nv]] 0 false false:=by rw[fr3 p4 (by rw[v2];intro h;injection h;omega),k4]
 have kN:Own g3 2 nv 4 (List.replicate n [AV.int IntKind.i64 0,AV.nils,AV.nils,AV.nils]):=kN.fr (by omega) fun i hi=>by have:=vid_inj v1 hi;rw[fr3 i (by rw[v2];intro h;injection h;omega)]
 simp only[sx,sy,sf,SO.run,↓reduceIte,Nat.reduceEqDiff,Nat.reduceAdd,Nat.reduceLeDiff,k0]
 refine mks_ownL (b:=2) (n:=n) (by simp[room];omega) (by simp[room];omega) (by simp;omega) fun w6 g4 hw6 n4 fr4 v4 lg4=>?_
 simp only[sx,sy] at n4 fr4 v4 lg4
 have k0:g4.h.get 0=.cells 5 [[u8v x.1,a,b,c,e]] 0 false false:=by rw[fr4 0 (by omega),k0]
 have hn5:vid w5=some (p4+1+1+1):=by rw[v2]
 have k1:g4.h.get 1=.cells 3 [[.int .i64 0,.nils,.nils]] 0 false false:=by rw[fr4 1 (by omega),k1]
 have k4:g4.h.get p4=.cells 3 [[.int .i64 gr,.nils,nv]] 0 false false:=by rw[fr4 p4 (by omega),k4]
 have kN:Own g4 2 nv 4 (List.replicate n [AV.int IntKind.i64 0,AV.nils,AV.nils,AV.nils]):=kN.fr (by omega) fun i hi=>by have:=vid_inj v1 hi;rw[fr4 i (by omega)]
 have k5:=x5.fr (g':=g4) (by omega) fun i hi=>by have:=vid_inj v2 hi;rw[fr4 i (by omega)]
 simp only[sx,sy,sf,SO.run,↓reduceIte,Nat.reduceEqDiff,Nat.reduceAdd,Nat.reduceLeDiff,k0,hw6.cell.1,hw6.cell.2,hee.cell.1,hee.cell.2]
 refine sat_ex (permutation_ok (P:=fun _=>True) (k:=0) (x:=(List.replicate n (0:UInt8),(0:UInt16),x.2.2.2.2)) (Nat.succ_pos d) ⟨_,rfl,rp_draft2.2 ⟨w6,e,rfl,?_,hee.wide (Nat.le_refl _)⟩⟩) fun r6 hr6=>?_
 ·refine Own.sl (α:=UInt8) (hw6.fr (by simp;omega) fun _ _=>by simp) (by simp;omega) ?_ fun _ _=>trivial
  have:=All2.repl (R:=Rp.rp (fun _=>True) 0 g4.h) (a:=(0:UInt8)) (b:=[AV.int IntKind.u8 0]) (rp_u8.2 rfl) n
  simpa using this
 simp only[sx,sy,sf,SO.run,↓reduceIte,Nat.reduceEqDiff,Nat.reduceAdd,Nat.reduceLeDiff,foot_ref02_Draft_Permutation]
 refine ⟨?_,?_⟩
 ·simp only[List.reverse_cons,List.reverse_nil,List.nil_append,List.cons_append,lg4]
  refine footsOk_mk [false,true,false,false,false,false,false] [(1,2),(1,3)] (by simp[All2,rdLook,noLook,bigLook]) (by decide) ?_
  rintro p hp x y hx hy
  simp only[List.mem_cons,List.not_mem_nil,or_false] at hp
  rcases hp with rfl | rfl<;>(simp at hx hy;subst hx;subst hy;refine apart_mk rfl rfl rfl rfl ?_ ?_ ?_<;>simp[rdLook,noLook,refIds])
 have hpl:=hr6
 simp only[List.length_replicate,show min n 5=n by omega] at hr6
 clear hpl
 simp only[sx,sy,SO.run,↓reduceIte,Nat.reduceEqDiff,Nat.reduceAdd,Nat.reduceLeDiff,k0]
 refine listed_ok (us:=x.2.2.2.1) hcc fun g5 z5 n5 fr5=>?_
 have fr5:=fr5.2.1
 simp only[sx,sy] at z5 n5 fr5
 obtain ⟨p7,hp7⟩:∃p7,p7=g4.nx+1+1+1+1+1+1:=⟨_,rfl⟩
 rw[←hp7] at z5 n5 fr5
 simp only[←hp7,sx,sy,SO.run,↓reduceIte,Nat.reduceEqDiff,Nat.reduceAdd,Nat.reduceLeDiff]
 obtain ⟨prow,hprow⟩:∃p,p=(List.take (List.replicate n [AV.int IntKind.u8 0,AV.int IntKind.u8 0,AV.int IntKind.u8 0,AV.nils]).length arows++List.drop arows.length (List.replicate n [AV.int IntKind.u8 0,AV.int IntKind.u8 0,AV.int IntKind.u8 0,AV.nils])):=⟨_,rfl⟩
 rw[←hprow] at k5
 obtain ⟨num,hnum1,hnum2,hnum3,hnum4⟩:=perm_num x.2.2.2.2 n
 obtain ⟨q,hq⟩:∃q,q=g0.nx+1+1+1+1+1+1:=⟨_,rfl⟩
 rw[←hq] at v1 n1
 obtain ⟨i5,hi5⟩:∃i5,i5=p4+1+1+1:=⟨_,rfl⟩
 rw[←hi5] at hn5
 have ho:1<q∧q<p4∧p4<i5∧i5<p7:=by omega
 have hM:M0 n p4 q i5 p7 nv w5 c [u8v x.1,a,b,c,e] prow gr g5 (fun _=>0) :=
  { h0:=by rw[fr5 0 (by omega),k0],h1:=by rw[fr5 1 (by omega),k1],h4:=by rw[fr5 p4 (by omega),k4],h5:=k5.fr (by omega) fun i hi=>by have:=vid_inj hn5 hi;rw[fr5 i (by omega)]
    hN:=by
     have:rowsN n (fun _=>0) (fun _=>AV.nils)=List.replicate n [AV.int IntKind.i64 0,AV.nils,AV.nils,AV.nils]:=by
      show List.map (fun _=>[AV.int IntKind.i64 0,AV.nils,AV.nils,AV.nils]) (List.range n)=_
      rw[List.map_const',List.length_range]
     rw[this]
     exact kN.fr (by omega) fun i hi=>by have:=vid_inj v1 hi;rw[fr5 i (by omega)]
    h7:=z5,nx:=by omega }
 have hr6r:=hr6.rows
 have hpl:=perm_len x.2.2.2.2 n
 generalize hpp:S.perm x.2.2.2.2 n=pl at *
 have ryn:=rowy_vid v1
 have ry5:=rowy_vid hn5
 have hrow5:∀i,i<n→∃(y:Piece) (oa:AV),prow[i]?=some [u8v y.1,u8v y.2.1,u8v y.2.2.1,oa]∧SlR NoP 0 .nil y.2.2.2 oa:=fun i hi=>by
  by_cases hia:i<arows.length
  ·have hxl:=ra2.len
   obtain ⟨y,hy⟩:∃y,x.2.1[i]?=some y:=⟨_,List.getElem?_eq_getElem (by omega)⟩
   obtain ⟨row,w1,w2⟩:=ra2.get hy
   obtain ⟨oa,rfl,hoa⟩:=rp_piece.1 w2
   refine ⟨y,oa,?_,hoa.tree (Nat.le_refl _)⟩
   rw[hprow,List.length_replicate,List.getElem?_append_left (by rw[List.length_take];omega),List.getElem?_take_of_lt hi,w1]
  ·refine ⟨(0,0,0,[]),.nils,?_,by decide,rfl⟩
   rw[hprow,List.length_replicate,List.getElem?_append_right (by rw[List.length_take];omega),List.getElem?_drop,List.getElem?_replicate,if_pos (by rw[List.length_take];omega)]
   rfl
 have hprl:prow.length=n:=by
  rw[hprow,List.length_append,List.length_take,List.length_drop,List.length_replicate];omega
 simp only[f_ref33_Draft_Model_b0]
 refine wpL_cnt n (by omega) (fun j t df g=>df=[]∧St t [(1,.hptr 0 0 0 0),(2,.hptr 1 0 0 0),(3,.int .i64 (n:Int)),(4,.hptr p4 0 0 0),(5,w5),(6,r6),(7,.hptr p7 0 0 0)]∧∃cf,M0 n p4 q i5 p7 nv w5 c [u8v x.1,a,b,c,e] prow gr g cf∧∀k,k<j→cf (num k)=2)
  ⟨rfl,by simp[St,sx,hp4],_,hM,fun k hk=>by omega⟩ (by simp[sx]) (by decide) (by rintro j t df g v s (rfl | rfl | rfl)<;>simp[St,sx]) ?_ ?_ ?_
 ·rintro j t df g hj ⟨rfl,⟨h1,h2,h3,h4,h5,h6,h7,-⟩,hx⟩ h8
  simp only[sx,sy,SO.run,↓reduceIte,Nat.reduceEqDiff,h1,h2,h3,h4,h5,h6,h7,h8,St]
  exact hx
 ·clear hM
  rintro j t df g hj ⟨rfl,⟨h1,h2,h3,h4,h5,h6,h7,-⟩,cf,hM,hcf⟩ h8
  have hlt:j<pl.length:=by omega
  have hj1:=hnum1 j hj
  have hj2:=hnum2 j hj
  simp only[sx,sy,sf,SO.run,↓reduceIte,Nat.reduceEqDiff,Nat.reduceAdd,Nat.reduceLeDiff,h4,h6,h8,hM.h4,hr6r,hlt,hj1,hM.hN.rows,rowsN_len,hj2,ryn,ci,List.length_map,List.getElem?_map,Option.map_some,Option.isSome_some,Option.getD_some]
  refine store_own (row:=rowN cf (fun _=>.nils) (num j)) (row':=rowN (updf cf (num j) 2) (fun _=>.nils) (num j)) (hM.same (by simp) (by simp;omega)).hN (rowsN_get _ _ hj2) rfl rfl (by simp only[rowN,updf_self];rfl) fun g2 x2 n2 f2=>?_
  rw[rowsN_set rfl (fun i hi=>by unfold rowN;rw[updf_ne _ _ hi])] at x2
  simp only[sx,sy] at n2 f2
  have hM2:=hM.node ho hn5 v1 x2 (by omega) f2
  simp only[sx,sy,sf,SO.run,↓reduceIte,Nat.reduceEqDiff,Nat.reduceAdd,Nat.reduceLeDiff]
  refine ⟨?_,?_⟩
  ·simp only[List.reverse_cons,List.reverse_nil,List.nil_append,List.cons_append]
   exact footsOk_mk [false,false,false,false,false,false,false,false,true] [] (by simp[All2,rdLook,noLook,bigLook]) (by decide) (by simp)
  ·simp only[sx,sy,SO.run,↓reduceIte,Nat.reduceEqDiff,h1,h2,h3,h4,h5,h6,h7,h8,St]
   refine ⟨_,hM2.same (by simp) (by simp),fun k hk=>?_⟩
   by_cases e1:num k=num j
   ·rw[e1,updf_self]
   ·rw[updf_ne _ _ e1]
    exact hcf k (by have:k≠j:=fun e2=>e1 (by rw[e2]);omega)
 ·clear hM
  rintro t df g ⟨rfl,⟨h1,h2,h3,h4,h5,h6,h7,-⟩,cf,hM,hcf⟩
  have hcf2:∀i,i<n→cf i=2:=fun i hi=>by obtain ⟨k,hk,rfl⟩:=hnum4 i hi;exact hcf k hk
  have rest:∀(t:T) (g:G) (cf:Nat→Int),St t [(1,.hptr 0 0 0 0),(2,.hptr 1 0 0 0),(3,.int .i64 (n:Int)),(4,.hptr p4 0 0 0),(5,w5),(6,r6),(7,.hptr p7 0 0 0)]→M0 n p4 q i5 p7 nv w5 c [u8v x.1,a,b,c,e] prow gr g cf→(∀i,i<n→cf i=2∨cf i=3) →
    wp C0 (d+1) none f_ref33_Draft_Model_k23 (fnQ C0 (d+1) [SR.cell true 3 2] fun v g'=>∃P,MadeV P 0 g'.h v) t [] g:=by
   clear h1 h2 h3 h4 h5 h6 h7 hM hcf hcf2
   rintro t g cf ⟨h1,h2,h3,h4,h5,h6,h7,-⟩ hM hcf
   simp only[f_ref33_Draft_Model_k23,sx,sy,SO.run,↓reduceIte,Nat.reduceEqDiff,Nat.reduceAdd,h3]
   have hnx:=hM.nx
   refine mks_own (b:=g.nx) (n:=n) (by simp[room];omega) (by simp[room];omega) (Nat.le_refl _) fun w9 ga hw9 n9 fr9 v9=>?_
   obtain ⟨em,hem⟩:∃em:ME,em=⟨n,p4,q,i5,p7,g.nx,g.nx+1,nv,w5,w9,c,gr,[u8v x.1,a,b,c,e],prow,x.2.2.2.1⟩:=⟨_,rfl⟩
   have e_n:em.n=n:=by rw[hem]
   have e_gr:em.gr=gr:=by rw[hem]
   have he:em.Ok:=by
    rw[hem]
    exact { ord:=⟨ho.1,ho.2.1,ho.2.2.1,ho.2.2.2,hnx,Nat.lt_succ_self _⟩,n1:=hn1,g1:=hg1,vn:=v1,v5:=hn5,v9:=v9,l7:=hcc }
   have hpr:MPr em:=by rw[hem];exact ⟨hprl,hrow5⟩
   have hN:MN em r6 pl num:=by rw[hem];exact ⟨hr6,hnum1,hnum2,hnum3,hnum4⟩
   have hI:MI em ga (fun _=>.nils) (fun _=>[]) cf (List.replicate em.n false) 0:=by
    rw[hem]
    exact { h0:=by rw[fr9 0 (by omega),hM.h0],h1:=by rw[fr9 1 (by omega),hM.h1],h4:=by show ga.h.get p4=_;rw[fr9 p4 (by omega),hM.h4]
            h5:=(hM.h5.fr (by omega) fun i hi=>fr9 i (hM.h5.lt hi).2).lower (Nat.zero_le _),hN:=(hM.hN.fr (by omega) fun i hi=>fr9 i (hM.hN.lt hi).2).lower (Nat.zero_le _)
            h7:=⟨0,Int.le_refl _,Int.le_refl _,by show ga.h.get p7=_;rw[fr9 p7 (by omega),hM.h7]⟩
            h9:=by rw[List.map_replicate];exact hw9.lower (Nat.zero_le _)
            fam:=⟨fun k _=>.inl ⟨rfl,rfl⟩,fun k l _ _ _ id h=>by cases h⟩,nx:=by show g.nx+1≤ga.nx;omega }
   have hD:MD em (fun _=>[]) [] (fun _=>[]) (fun _=>[]) (fun _=>[]):=⟨trivial,fun _ _=>rfl,fun _ _=>rfl,fun _ _=>rfl⟩
   simp only[sx,sy,SO.run,↓reduceIte,Nat.reduceEqDiff,Nat.reduceAdd]
   refine m_b2 (r6:=r6) (Nat.succ_pos d) he hpr (by simp[MSt,St,sx,hem,h1,h2,h3,h4,h5,h6,h7]) (by simp[sx]) hI hD (by rw[e_n];exact hcf) ?_
   clear hI hD h1 h2 h3 h4 h5 h6 h7
   intro t g V W ow R N ht hI hD hF hol hon hR4 hN1
   obtain ⟨h1,h2,h3,h4,h5,h6,h7,h9,-⟩:=ht
   simp only[f_ref33_Draft_Model_k22,sx,sy,SO.run,↓reduceIte,Nat.reduceEqDiff,Nat.reduceAdd]
   refine m_b4 (r6:=r6) (us:=x.2.2.1) (Nat.succ_pos d) he (g0:=u8v x.1) (x0:=a) (b1:=b) (c0:=c) (e0:=e) (by rw[hem]) hb (by simp[MSt,St,sx,h1,h2,h3,h4,h5,h6,h7,h9]) (by simp[sx]) hI hD hF hon hR4 hN1 ?_
   clear hI hD hF hon h1 h2 h3 h4 h5 h6 h7 h9 hN1
   intro t g V W R N ht hI hD hF hon hR6 hN3
   obtain ⟨h1,h2,h3,h4,h5,h6,h7,h9,-⟩:=ht
   simp only[f_ref33_Draft_Model_k21,sx,sy,SO.run,↓reduceIte,Nat.reduceEqDiff,Nat.reduceAdd]
   refine m_b19 (r6:=r6) (Nat.succ_pos d) he hpr hN (by simp[MSt,St,sx,h1,h2,h3,h4,h5,h6,h7,h9]) (by simp[sx]) hI hD hF hol hon hR6 hN3 ?_
   clear hI hD h1 h2 h3 h4 h5 h6 h7 h9
   intro t g V W F O ht hI hD hnd
   obtain ⟨h1,h2,h3,h4,h5,h6,h7,h9,-⟩:=ht
   have hA:=hI.agg he hD (by omega) fun i hi=>by
    obtain ⟨k,hk,rfl⟩:=hN.sur i hi
    refine ⟨by have:=(hnd k hk).len;omega,by have:=hN3 (num k);omega,?_⟩
    rw[(hnd k hk).outs]
    refine Nat.le_trans allF_len ?_
    have hb:=szs_bound hF (hnd k hk).places (hF.inc _ hi)
    have:=prod_bound (l:=szs cf R (F (num k)) (N (num k))) fun y hy=>by have:=hb y hy;omega
    have hl4:(szs cf R (F (num k)) (N (num k))).length≤7:=by have:=(hnd k hk).len;have:=hN3 (num k);simp[szs];omega
    have:=pow4_mono hl4
    have:(4:Int) ^ 7=16384:=by decide
    omega
   have hbb:=hI.nx
   simp only[f_ref33_Draft_Model_k20,sx,sy,SO.run,↓reduceIte,Nat.reduceEqDiff,Nat.reduceAdd,Nat.reduceLeDiff,h2,h4,hI.h4,hI.h1]
   refine ⟨fun i=>1<i,_,⟨em,cf,R,F,N,O,num,rfl,he.n1,he.g1,hF,hR6,hN3,hN.lt,hN.inj,hN.sur,hnd⟩,?_⟩
   obtain ⟨cs,hcs,hA⟩:=hA
   exact ⟨cs,hcs,Rp.mono hA (fun i hi=>⟨hi,by rw[get_put_ne _ _ _ (by omega)]⟩) (Nat.le_refl _)⟩
  obtain ⟨y,oa,hy,hoa⟩:=hrow5 0 (by omega)
  have hjp:0<prow.length:=by omega
  have z0:=hnum1 0 (by omega)
  have z1:=hnum2 0 (by omega)
  have hlt:0<pl.length:=by omega
  have ix5:∀g':G,(rowsOf g'.h 4 w5).isSome=true→0<((rowsOf g'.h 4 w5).getD []).length→ixsV 4 w5 (.int .i64 0) g'=.val (rptr 4 w5 0 0):=fun g' q1 q2=>ixs_nat (i:=0) q1 q2
  have ix6:∀g':G,(rowsOf g'.h 1 r6).isSome=true→0<((rowsOf g'.h 1 r6).getD []).length→ixsV 1 r6 (.int .i64 0) g'=.val (rptr 1 r6 0 0):=fun g' q1 q2=>ixs_nat (i:=0) q1 q2
  simp only[f_ref33_Draft_Model_k24,sx,sy,SO.run,↓reduceIte,Nat.reduceEqDiff,Nat.reduceAdd,h5,ix5,hM.h5.rows,hjp,hy,ry5,u8v,Option.isSome_some,Option.getD_some,bin_rem .u8 (show (0:Int)≤(y.1.toNat:Int) by omega) (show (0:Int)<3 by decide)]
  refine bifP_mk (fun hb=>?_) (fun hb=>?_)
  ·simp only[sx,sy,sf,SO.run,↓reduceIte,Nat.reduceEqDiff,Nat.reduceAdd,Nat.reduceLeDiff,h4,h6,ix6,hM.h4,hr6r,hlt,z0,hM.hN.rows,rowsN_len,z1,ryn,ci,List.length_map,List.getElem?_map,Option.map_some,Option.isSome_some,Option.getD_some]
   refine store_own (row:=rowN cf (fun _=>.nils) (num 0)) (row':=rowN (updf cf (num 0) 3) (fun _=>.nils) (num 0)) (hM.same (by simp) (by simp;omega)).hN (rowsN_get _ _ z1) rfl rfl (by simp only[rowN,updf_self];rfl) fun g2 x2 n2 f2=>?_
   rw[rowsN_set rfl (fun i hi=>by unfold rowN;rw[updf_ne _ _ hi])] at x2
   simp only[sx,sy] at n2 f2
   have hM2:=hM.node ho hn5 v1 x2 (by omega) f2
   simp only[sx,sy,sf,SO.run,↓reduceIte,Nat.reduceEqDiff,Nat.reduceAdd,Nat.reduceLeDiff]
   refine ⟨?_,?_⟩
   ·simp only[List.reverse_cons,List.reverse_nil,List.nil_append,List.cons_append]
    exact footsOk_mk [false,false,false,false,false,false,false,true] [] (by simp[All2,rdLook,noLook,bigLook]) (by decide) (by simp)
   ·refine rest _ _ _ (by simp[St,sx,h1,h2,h3,h4,h5,h6,h7]) (hM2.same (by simp) (by simp)) fun i hi=>?_
    by_cases e1:i=num 0
    ·subst e1;rw[updf_self];exact .inr rfl
    ·rw[updf_ne _ _ e1];exact .inl (hcf2 i hi)
  ·simp only[sx]
   exact rest _ _ cf (by simp[St,sx,h1,h2,h3,h4,h5,h6,h7]) hM fun i hi=>.inl (hcf2 i hi)
end
end Hx
end
section
namespace Hx
open Go
noncomputable section
def eid:AV→Option Nat
 | .hsl id _ _ _ _=>some id
 | .hptr id _ _ _=>some id
 | _=>none
def Bx (g:G)(b:Nat)(v:AV)(row:List AV):Prop:=∃id,b≤id∧id<g.nx∧v=.hptr id 0 0 0∧g.h.get id=.cells row.length [row] 0 false false
inductive En where
 | sl (sz:Nat) (rows:List (List AV))
 | bx (row:List AV)
def En.ok (g:G)(b:Nat)(v:AV):En→Prop
 | .sl sz rows=>Own g b v sz rows
 | .bx row=>Bx g b v row
theorem eid_own {g:G}{b:Nat}{v:AV}{sz:Nat}{rows:List (List AV)}(h:Own g b v sz rows):eid v=vid v:=by
 rcases h with ⟨rfl,-⟩ | ⟨id,ep,lo,h1,h2,rfl,h3⟩<;>rfl
theorem En.lt {g:G}{b:Nat}{v:AV}{e:En}(h:e.ok g b v){i:Nat}(hi:eid v=some i):b≤i∧i<g.nx:=by
 cases e with
 | sl sz rows =>
  have h:Own g b v sz rows:=h
  rw[eid_own h] at hi;exact h.lt hi
 | bx row =>
  obtain ⟨id,h1,h2,rfl,h3⟩:=h
  injection hi with hi;subst hi;exact ⟨h1,h2⟩
theorem En.fr {g g':G}{b:Nat}{v:AV}{e:En}(h:e.ok g b v)(hn:g.nx≤g'.nx)(hf:∀i,eid v=some i→g'.h.get i=g.h.get i):e.ok g' b v:=by
 cases e with
 | sl sz rows =>
  have h:Own g b v sz rows:=h
  exact h.fr hn fun i hi=>hf i (by rw[eid_own h];exact hi)
 | bx row =>
  obtain ⟨id,h1,h2,rfl,h3⟩:=h
  exact ⟨id,h1,by omega,rfl,by rw[hf id rfl,h3]⟩
section
variable {κ:Type}
structure Hp (g:G) (b:Nat) (L:κ→Prop) (V:κ→AV) (E:κ→En):Prop where
 ok:∀k,L k→(E k).ok g b (V k)
 sep:∀k l,L k→L l→k≠l→∀id,eid (V k)=some id→eid (V l)≠some id
 nx:b≤g.nx
variable {g g':G}{b:Nat}{L L':κ→Prop}{V:κ→AV}{E:κ→En}{k:κ}
theorem Hp.sub (h:Hp g b L V E)(hl:∀k,L' k→L k):Hp g b L' V E:=⟨fun k hk=>h.ok k (hl k hk),fun k l hk hl2=>h.sep k l (hl k hk) (hl l hl2),h.nx⟩
theorem Hp.step (h:Hp g b L V E)(hn:g.nx≤g'.nx)(hf:∀i,b≤i→i<g.nx→g'.h.get i=g.h.get i):Hp g' b L V E :=
 ⟨fun k hk=>En.fr (h.ok k hk) hn fun i hi=>hf i (En.lt (h.ok k hk) hi).1 (En.lt (h.ok k hk) hi).2,h.sep,Nat.le_trans h.nx hn⟩
theorem Hp.same (h:Hp g b L V E)(hf:g'.h=g.h)(hn:g.nx≤g'.nx):Hp g' b L V E:=h.step hn fun i _ _=>by rw[hf]
theorem Hp.own (h:Hp g b L V E)(hk:L k){sz:Nat}{rows:List (List AV)}(he:E k=.sl sz rows):Own g b (V k) sz rows:=by
 have:=h.ok k hk;rw[he] at this;exact this
theorem Hp.box (h:Hp g b L V E)(hk:L k){row:List AV}(he:E k=.bx row):Bx g b (V k) row:=by
 have:=h.ok k hk;rw[he] at this;exact this
end
section
variable {κ:Type} [DecidableEq κ]
def ups {α:Type}(f:κ→α)(k:κ)(x:α):κ→α:=fun j=>if j=k then x else f j
theorem ups_self {α:Type}(f:κ→α)(k:κ)(x:α):ups f k x k=x:=if_pos rfl
theorem ups_ne {α:Type}(f:κ→α){k j:κ}(x:α)(h:j≠k):ups f k x j=f j:=if_neg h
theorem ups_eq {α:Type}{f:κ→α}{k:κ}{x:α}(h:f k=x):ups f k x=f:=by
 funext j;by_cases e:j=k
 ·subst e;rw[ups_self,h]
 ·exact ups_ne _ _ e
variable {g g':G}{b:Nat}{L L':κ→Prop}{V:κ→AV}{E:κ→En}{k:κ}
theorem Hp.set (h:Hp g b L V E){v':AV}{e':En}(hk:L k)(ho:e'.ok g' b v')(hn:g.nx≤g'.nx)(hf:∀i,b≤i→i<g.nx→eid (V k)≠some i→g'.h.get i=g.h.get i)
  (hv:eid v'=eid (V k)∨∃i,eid v'=some i∧g.nx≤i):Hp g' b L (ups V k v') (ups E k e'):=by
 refine ⟨fun j hj=>?_,fun j l hj hl hne id e1 e2=>?_,Nat.le_trans h.nx hn⟩
 ·by_cases e:j=k
  ·subst e;rw[ups_self,ups_self];exact ho
  ·rw[ups_ne _ _ e,ups_ne _ _ e]
   exact En.fr (h.ok j hj) hn fun i hi=>hf i (En.lt (h.ok j hj) hi).1 (En.lt (h.ok j hj) hi).2 fun e2=>h.sep j k hj hk e i hi e2
 ·have key:∀j,L j→j≠k→∀id,eid (V j)=some id→eid v'≠some id:=fun j hj hne id e1 e2=>by
   rcases hv with hv | ⟨i,hv,hi⟩
   ·exact h.sep j k hj hk hne id e1 (hv ▸ e2)
   ·rw[hv] at e2;injection e2 with e2;have:=(En.lt (h.ok j hj) e1).2;omega
  by_cases a:j=k
  ·subst a
   rw[ups_self] at e1
   rw[ups_ne _ _ (Ne.symm hne)] at e2
   exact key l hl (Ne.symm hne) id e2 e1
  ·rw[ups_ne _ _ a] at e1
   by_cases c:l=k
   ·subst c;rw[ups_self] at e2;exact key j hj a id e1 e2
   ·rw[ups_ne _ _ c] at e2;exact h.sep j l hj hl hne id e1 e2
theorem Hp.add (h:Hp g b L V E){v':AV}{e':En}(hk:¬L k)(ho:e'.ok g' b v')(hn:g.nx≤g'.nx)(hf:∀i,b≤i→i<g.nx→g'.h.get i=g.h.get i)
  (hv:∀i,eid v'=some i→g.nx≤i) (hl:∀j,L' j→L j∨j=k):Hp g' b L' (ups V k v') (ups E k e'):=by
 refine ⟨fun j hj=>?_,fun j l hj hl2 hne id e1 e2=>?_,Nat.le_trans h.nx hn⟩
 ·rcases hl j hj with hj | rfl
  ·have e:j≠k:=fun e=>hk (e ▸ hj)
   rw[ups_ne _ _ e,ups_ne _ _ e]
   exact En.fr (h.ok j hj) hn fun i hi=>hf i (En.lt (h.ok j hj) hi).1 (En.lt (h.ok j hj) hi).2
  ·rw[ups_self,ups_self];exact ho
 ·have key:∀j,L j→∀id,eid (V j)=some id→eid v'≠some id:=fun j hj id e1 e2=>by
   have:=hv id e2;have:=(En.lt (h.ok j hj) e1).2;omega
  rcases hl j hj with hj | rfl
  ·have e:j≠k:=fun e=>hk (e ▸ hj)
   rw[ups_ne _ _ e] at e1
   rcases hl l hl2 with hl2 | rfl
   ·have e':l≠k:=fun e=>hk (e ▸ hl2)
    rw[ups_ne _ _ e'] at e2
    exact h.sep j l hj hl2 hne id e1 e2
   ·rw[ups_self] at e2;exact key j hj id e1 e2
  ·rw[ups_self] at e1
   rcases hl l hl2 with hl2 | rfl
   ·have e':l≠j:=fun e=>hne e.symm
    rw[ups_ne _ _ e'] at e2
    exact key l hl2 id e2 e1
   ·exact hne rfl
theorem Own.new {g:G}{b:Nat}(hb:b≤g.nx)(sz:Nat)(rows:List (List AV)):Own (g.new (.cells sz rows 0 false false)) b (.hsl g.nx 0 0 rows.length none) sz rows :=
 .inr ⟨g.nx,0,false,hb,by simp,rfl,by simp[get_put_eq]⟩
theorem Hp.app (h:Hp g b L V E)(hk:L k){sz bytes:Nat}{rows new:List (List AV)}(he:E k=.sl sz rows){x:AV}{K:AV→G→Prop}{D:ADf→Prop}(hx:rowsOf g.h sz x=some new)
  (hr:(rows.length+new.length)*bytes≤room)
  (kk:∀v' g',Hp g' b L (ups V k v') (ups E k (.sl sz (rows++new)))→g.nx≤g'.nx→(∀i,i<b→g'.h.get i=g.h.get i)→(∀i,i<g.nx→eid (V k)≠some i→g'.h.get i=g.h.get i)→(∀i∈g'.lg,i∈g.lg∨b≤i)→v'.cells=[v']→v'.isTup=false→K v' g') :
  (appendA sz bytes (V k) x g).sat K g D:=by
 have ho:=h.own hk he
 refine append_own ho hx h.nx hr fun v' g' hv' hn hf hvid hlg=>?_
 refine kk v' g' (h.set hk (e':=.sl sz (rows++new)) hv' hn (fun i _ hi hne=>hf i hi (by rw[←eid_own ho];exact hne)) ?_) hn (fun i hi=>hf i (Nat.lt_of_lt_of_le hi h.nx) fun e=>by have:=(ho.lt e).1;omega)
  (fun i hi hne=>hf i hi (by rw[←eid_own ho];exact hne)) hlg hv'.cell.1 hv'.cell.2
 rw[eid_own hv',eid_own ho];exact hvid
theorem Hp.put (h:Hp g b L V E)(hk:L k){sz n i off:Nat}{rows:List (List AV)}{row row':List AV}(he:E k=.sl sz rows){x:AV}{K:AV→G→Prop}{D:ADf→Prop}(hr:rows[i]?=some row)
  (hl:x.cells.length=n) (ht:x.isTup=false) (hp:putCells row off x.cells=some row')
  (kk:∀g',Hp g' b L V (ups E k (.sl sz (rows.set i row')))→g'.nx=g.nx→(∀i,i<b→g'.h.get i=g.h.get i)→(∀i,eid (V k)≠some i→g'.h.get i=g.h.get i)→K .undef g'):(storeV n (rptr sz (V k) i off) x g).sat K g D:=by
 have ho:=h.own hk he
 refine store_own ho hr hl ht hp fun g' hv' hn hf=>?_
 have:=h.set hk (e':=.sl sz (rows.set i row')) hv' (by omega) (fun i _ hi hne=>hf i (by rw[←eid_own ho];exact hne)) (.inl rfl)
 rw[ups_eq (f:=V) rfl] at this
 exact kk g' this hn (fun i hi=>hf i fun e=>by have:=(ho.lt e).1;omega) fun i hne=>hf i (by rw[←eid_own ho];exact hne)
theorem Hp.putb (h:Hp g b L V E)(hk:L k){row row':List AV}(he:E k=.bx row){id:Nat}(hv:V k=.hptr id 0 0 0)(hl:row'.length=row.length):Hp (g.put id (.cells row.length [row'] 0 false false)) b L V (ups E k (.bx row')):=by
 obtain ⟨id',h1,h2,h3,h4⟩:=h.box hk he
 rw[hv] at h3;injection h3 with h3;subst h3
 have:=h.set (g':=g.put id (.cells row.length [row'] 0 false false)) hk (e':=.bx row') (v':=.hptr id 0 0 0) ⟨id,h1,by simpa using h2,rfl,by rw[hl];simp[get_put_eq]⟩ (by simp) (fun i _ hi hne=>by
  rw[G.put_h,get_put_ne _ _ _ (fun e=>hne (by rw[hv,e];rfl))]) (.inl (by rw[hv]))
 rw[ups_eq (f:=V) hv] at this
 exact this
end
end
end Hx
end
section
namespace Hx
open Go
noncomputable section
theorem seq_cut {C:Cfg}{d:Nat}{rd:Option Nat}{l:List SI}{b:SC}{Q:QT}{t:T}{df:List ADf}{g:G}{P:PT}(h1:wpO C d rd l P t df g)(h2:∀t df g,P t df g→wp C d rd b Q t df g):wp C d rd (.seq (.ops l) b) Q t df g:=by
 rw[wp_seq]
 have:wp C d rd (.ops l) (fun e t df g=>e=.norm∧P t df g) t df g:=by rw[wp_ops];simpa using h1
 refine wp_mono _ this ?_
 rintro e t df g ⟨rfl,h⟩
 exact h2 t df g h
structure Bnd (K:Nat) (m:Causal):Prop where
 r:m.roots.length≤K
 rr:∀x∈m.roots,x.length≤K
 n:m.nodes.length≤K
 f:∀x∈m.nodes,x.frm.length≤K∧x.noise.length≤K∧x.out.length≤K
abbrev Ky:Type:=Nat×Nat
def LB (R n:Nat):Ky→Prop:=fun k=>(k.1=0∧k.2<R)∨(1≤k.1∧k.1≤3∧k.2<n)∨k=(4,0)∨k=(4,1)
structure BD (K R n:Nat) (V:Ky→AV) (E:Ky→En) (Rt:Nat→List Int) (c:Nat→Int) (F:Nat→Nat→List Int):Prop where
 r:∀i,i<R→E (0,i)=.sl 1 ((Rt i).map ci)∧(Rt i).length≤K
 f:∀q i,1≤q→q≤3→i<n→E (q,i)=.sl 1 ((F q i).map ci)∧(F q i).length≤K
 rs:E (4,0)=.sl 1 ((List.range R).map fun i=>[V (0,i)])
 ns:E (4,1)=.sl 4 ((List.range n).map fun i=>[.int .i64 (c i),V (1,i),V (2,i),V (3,i)])
def BB (g:G)(brow:List AV)(gr:Int)(a b:AV):Prop:=g.h.get 0=.cells 4 [brow] 0 false false∧g.h.get 1=.cells 3 [[.int .i64 gr,a,b]] 0 false false∧g.h.get 2=.cells 3 [[.int .i64 0,.nils,.nils]] 0 false false
theorem BB.fr {g g':G}{brow:List AV}{gr:Int}{a b:AV}(h:BB g brow gr a b)(hf:∀i,i<3→g'.h.get i=g.h.get i):BB g' brow gr a b :=
 ⟨by rw[hf 0 (by omega),h.1],by rw[hf 1 (by omega),h.2.1],by rw[hf 2 (by omega),h.2.2]⟩
theorem lb_root {R n:Nat}{k:Ky}(h:LB (R+1) n k):LB R n k∨k=(0,R):=by
 rcases h with ⟨h1,h2⟩ | h | h
 ·by_cases e:k.2=R
  ·exact .inr (Prod.ext h1 e)
  ·exact .inl (.inl ⟨h1,by omega⟩)
 ·exact .inl (.inr (.inl h))
 ·exact .inl (.inr (.inr h))
theorem m_bb0 {d K:Nat}{m:Causal}{brow:List AV}{a b:AV}{Q:QT}(hR:SlR NoP 0 .nil m.roots a)(hK:K≤1000000)(hb:Bnd K m){t:T}{g:G}{V:Ky→AV}{E:Ky→En}
  (ht:St t [(2,.hptr 0 0 0 0),(3,.hptr 1 0 0 0),(4,.hptr 2 0 0 0)]) (h5:tat t 5=V (4,0)) (h6:tat t 6=.int .i64 0) (hH:Hp g 3 (LB 0 0) V E) (hB:BB g brow m.grain a b) (hD:BD K 0 0 V E (fun _=>[]) (fun _=>0) (fun _ _=>[]))
  (fin:∀t g V E Rt,St t [(2,.hptr 0 0 0 0),(3,.hptr 1 0 0 0),(4,.hptr 2 0 0 0)]→tat t 5=V (4,0)→Hp g 3 (LB m.roots.length 0) V E→BB g brow m.grain a b→BD K m.roots.length 0 V E Rt (fun _=>0) (fun _ _=>[])→V (4,1)=.nils→Q (.exit 0) t [] g) (hV1:V (4,1)=.nils) :
  wpL (wp C0 d none f_ref33_Bend_Of_b0) Q t [] g:=by
 obtain ⟨rows,r1,r2,r3,r4⟩:=hR.all
 have r1:∀h',rowsOf h' 1 a=some rows:=r1
 have hbr:=hb.r
 simp only[f_ref33_Bend_Of_b0]
 refine wpL_cnt m.roots.length (by omega) (fun j t df g=>df=[]∧St t [(2,.hptr 0 0 0 0),(3,.hptr 1 0 0 0),(4,.hptr 2 0 0 0)]∧∃V E Rt,tat t 5=V (4,0)∧Hp g 3 (LB j 0) V E∧BB g brow m.grain a b∧BD K j 0 V E Rt (fun _=>0) (fun _ _=>[])∧V (4,1)=.nils)
  ⟨rfl,ht,V,E,_,h5,hH,hB,hD,hV1⟩ h6 (by decide) (by rintro j t df g v s (rfl | rfl | rfl)<;>simp[St,sx]) ?_ ?_ ?_
 ·rintro j t df g hj ⟨rfl,⟨h2,h3,h4,-⟩,V,E,Rt,h5,hH,hB,hD⟩ h6
  simp only[sx,sy,SO.run,↓reduceIte,Nat.reduceEqDiff,h2,h3,h4,h5,h6,hB.2.1,hR.len,St]
  exact ⟨V,E,Rt,rfl,hH,hB,hD⟩
 ·clear ht h5 h6 hH hB hD hV1
  rintro j t df g hj ⟨rfl,⟨h2,h3,h4,-⟩,V,E,Rt,h5,hH,hB,hD,hV1⟩ h6
  obtain ⟨ws,hx,htk,hm⟩:=take_next hj
  obtain ⟨row,q1,q2⟩:=r3 j ws hx
  obtain ⟨u,rfl,hu⟩:=rp_list.1 q2
  have hlt:j<rows.length:=by omega
  have hwl:=hb.rr ws hm
  simp only[sx,sy,SO.run,↓reduceIte,Nat.reduceEqDiff,h3,h5,h6,hB.2.1,r1,hlt,q1,Option.isSome_some,Option.getD_some]
  refine append_own (b:=3) (rows:=[]) (new:=ws.map ci) (.inl ⟨rfl,rfl⟩) (hu.tree (h':=g.h) (Nat.le_refl _)).ints hH.nx (by simp[room];omega) fun v2 g2 hv2 n2 fr2 vid2 lg2=>?_
  have hH2:=hH.add (k:=(0,j)) (L':=LB (j+1) 0) (v':=v2) (e':=.sl 1 (ws.map ci)) (by simp[LB]) hv2 n2 (fun i _ hi=>fr2 i hi (by simp[vid])) (fun i hi=>by
   rw[eid_own hv2] at hi
   rcases vid2 with h | ⟨i',h,hi'⟩
   ·rw[h] at hi;cases hi
   ·rw[h] at hi;injection hi with hi;omega) (fun k hk=>lb_root hk)
  have hB2:=hB.fr (g':=g2) (fun i hi=>fr2 i (by have:=hH.nx;omega) (by simp[vid]))
  simp only[sx,sy,SO.run,↓reduceIte,Nat.reduceEqDiff,Nat.reduceAdd,h5,hv2.cell.1,hv2.cell.2]
  have hH3:=hH2.step (g':=g2.new (.cells 1 [[v2]] 0 false false)) (by simp) (fun i _ hi=>by rw[G.new_h,get_put_ne _ _ _ (by omega)])
  have e40:ups V (0,j) v2 (4,0)=V (4,0):=ups_ne _ _ (by simp)
  rw[←e40]
  refine hH3.app (k:=(4,0)) (by simp[LB]) (by rw[ups_ne _ _ (by simp)];exact hD.rs) (new:=[[v2]]) (by simp[sx,sy,H.get_put]) (by simp[room];omega) fun v3 g3 hH4 n3 fr3 _ lg3 vc3 vt3=>?_
  simp only[sx,sy] at n3 fr3
  simp only[sx,sy,SO.run,↓reduceIte,Nat.reduceEqDiff,Nat.reduceAdd,h2,h3,h4,h6,St]
  refine ⟨_,_,ups Rt j ws,(ups_self _ _ _).symm,hH4,hB2.fr (fun i hi=>?_),⟨fun i hi=>?_,fun q i _ _ hi=>by omega,?_,?_⟩,by rw[ups_ne _ _ (by simp),ups_ne _ _ (by simp),hV1]⟩
  ·have:=hH2.nx
   rw[fr3 i hi,if_neg (by omega)]
  ·rw[ups_ne _ _ (by simp)]
   by_cases e:i=j
   ·subst e;rw[ups_self,ups_self];exact ⟨rfl,hwl⟩
   ·rw[ups_ne _ _ (by simpa using e),ups_ne _ _ e];exact hD.r i (by omega)
  ·rw[ups_self,List.range_succ,List.map_append]
   congr 2
   ·refine List.map_congr_left fun i hi=>?_
    have:=List.mem_range.1 hi
    rw[ups_ne _ _ (by simp),ups_ne _ _ (by simp;omega)]
   ·simp[ups_ne,ups_self]
  ·rw[ups_ne _ _ (by simp),ups_ne _ _ (by simp)];exact hD.ns
 ·rintro t df g ⟨rfl,ht,V,E,Rt,h5,hH,hB,hD,hV1⟩
  exact fin t g V E Rt ht h5 hH hB hD hV1
def LX (R j:Nat):Ky→Prop:=fun k=>LB R j k∨k=(5,0)∨k=(1,j)∨k=(2,j)∨k=(3,j)
theorem lx_ne {R j:Nat}{k:Ky}(h:LB R j k)(q:Nat)(h1:1≤q)(h2:q≤3):k≠(q,j):=by
 rintro rfl
 rcases h with ⟨h,-⟩ | ⟨-,-,h⟩ | h | h
 ·simp at h;omega
 ·simp at h
 ·simp at h;omega
 ·simp at h;omega
theorem lx_nb {R j:Nat}{k:Ky}(h:LB R j k):k≠(5,0):=by
 rintro rfl
 rcases h with ⟨h,-⟩ | ⟨-,h,-⟩ | h | h<;>simp at h
structure NB (R j p:Nat) (g:G) (brow:List AV) (gr:Int) (a b:AV) (V0:Ky→AV) (E0:Ky→En) (card:Int) (f1 f2 f3:List Int) (V:Ky→AV) (E:Ky→En) (K:Nat):Prop where
 hp:Hp g 3 (LX R j) V E
 bb:BB g brow gr a b
 vb:V (5,0)=.hptr p 0 0 0
 bx:E (5,0)=.bx [.int .i64 card,V (1,j),V (2,j),V (3,j)]
 e1:E (1,j)=.sl 1 (f1.map ci)
 e2:E (2,j)=.sl 1 (f2.map ci)
 e3:E (3,j)=.sl 1 (f3.map ci)
 old:∀k,LB R j k→V k=V0 k∧E k=E0 k
 len:f1.length≤K∧f2.length≤K∧f3.length≤K
theorem m_fl1 {d R j p K k:Nat}{brow:List AV}{gr:Int}{a b w5 w8:AV}{rows:List (List AV)}{Q:QT}{x:Mech}{fa fb fc:AV}{V0 V1:Ky→AV}{E0 E1:Ky→En}{f2 f3:List Int}(hK:K≤1000000)
  (r1:∀h',rowsOf h' 4 b=some rows) (z1:rows[j]?=some [.int .i64 x.card,fa,fb,fc]) (hry:rowy b=true) (hfa:SlR NoP k .nil x.frm fa) (hxl:x.frm.length≤K) {t:T} {g:G}
  (ht:St t [(2,.hptr 0 0 0 0),(3,.hptr 1 0 0 0),(4,.hptr 2 0 0 0),(5,w5),(8,w8),(9,.int .i64 (j:Int)),(10,.hptr p 0 0 0)]) (hN:NB R j p g brow gr a b V0 E0 x.card [] f2 f3 V1 E1 K)
  (kk:∀t g V E,St t [(2,.hptr 0 0 0 0),(3,.hptr 1 0 0 0),(4,.hptr 2 0 0 0),(5,w5),(8,w8),(9,.int .i64 (j:Int)),(10,.hptr p 0 0 0)]→NB R j p g brow gr a b V0 E0 x.card (x.frm) (f2) (f3) V E K→Q .norm t [] g) :
  wp C0 d none (.feet [0,1,0,4,0,28,60,124,255,511,1023] [o 44 (.fad 1 (.t 10)),o 45 (.load false 1 (.t 44)),o 46 (.fad 2 (.t 3)),o 47 (.load false 1 (.t 46)),o 48 (.mv (.t 9)),o 49 (.ixs 4 (.t 47) (.t 48)),o 50 (.fad 1 (.t 49)),o 51 (.load false 1 (.t 50)),o 52 (.app 1 8 (.t 45) (.t 51)),o 53 (.fad 1 (.t 10)),oz (.store 1 (.t 53) (.t 52))]) Q t [] g:=by
 obtain ⟨h2,h3,h4,h5,h8,h9,h10,-⟩:=ht
 have hlt:j<rows.length:=(List.getElem?_eq_some_iff.1 z1).1
 obtain ⟨p',hp1,hp2,hp3,hgx⟩:=hN.hp.box (k:=(5,0)) (by simp[LX]) hN.bx
 rw[hN.vb] at hp3;injection hp3 with hp3;subst hp3
 have hgx:g.h.get p=.cells 4 [[.int .i64 x.card,V1 (1,j),V1 (2,j),V1 (3,j)]] 0 false false:=hgx
 have hnx:=hN.hp.nx
 have hlen:=hN.len
 simp only[sx,sy,sf,SO.run,↓reduceIte,Nat.reduceEqDiff,Nat.reduceAdd,Nat.reduceLeDiff,h3,h9,h10,hN.bb.2.1,r1,hlt,z1,hry,hgx,Option.isSome_some,Option.getD_some]
 refine (hN.hp.same (g':=_) (by simp) (by simp;omega)).app (k:=(1,j)) (by simp[LX]) (hN.e1) (new:=(x.frm).map ci) (by simpa using (hfa.tree (h':=g.h) (Nat.le_refl _)).ints) (by simp[room];omega) fun v1 ga hHa na fra fsa lga vca vta=>?_
 simp only[sx,sy] at na fra fsa lga
 obtain ⟨p',hp1',hp2',hp3',hgx'⟩:=hHa.box (k:=(5,0)) (by simp[LX]) (by rw[ups_ne _ _ (by simp)];exact hN.bx)
 rw[ups_ne _ _ (by simp),hN.vb] at hp3';injection hp3' with hp3';subst hp3'
 have hgx':ga.h.get p=.cells 4 [[.int .i64 x.card,V1 (1,j),V1 (2,j),V1 (3,j)]] 0 false false:=hgx'
 simp only[sx,sy,sf,SO.run,↓reduceIte,Nat.reduceEqDiff,Nat.reduceAdd,Nat.reduceLeDiff,h3,h9,h10,hgx',vca,vta]
 refine ⟨?_,?_⟩
 ·simp only[List.reverse_cons,List.reverse_nil,List.nil_append,List.cons_append]
  exact footsOk_mk [false,false,false,false,false,false,false,false,true,false,true] [] (by simp[All2,rdLook,noLook,bigLook]) (by decide) (by simp)
 have hHb:=(hHa.same (g':=setLog (bumpG (setLog (bumpG ga []) []) []) []) (by simp) (by simp;omega)).putb (k:=(5,0)) (by simp[LX]) (row:=[.int .i64 x.card,V1 (1,j),V1 (2,j),V1 (3,j)]) (row':=[.int .i64 x.card,v1,V1 (2,j),V1 (3,j)]) (by rw[ups_ne _ _ (by simp)];exact hN.bx) (by rw[ups_ne _ _ (by simp)];exact hN.vb) rfl
 refine kk _ _ (ups V1 (1,j) v1) (ups (ups E1 (1,j) (En.sl 1 (List.map ci []++List.map ci x.frm))) (5,0) (En.bx [.int .i64 x.card,v1,V1 (2,j),V1 (3,j)])) (by simp[St,sx,h2,h3,h4,h9,h10,h5,h8]) ?_
 exact { hp:=hHb.same (by simp) (by simp),bb:=hN.bb.fr (fun i hi=>by simp[H.get_put];rw[if_neg (by omega),fra i hi]),vb:=by rw[ups_ne _ _ (by simp)];exact hN.vb
         bx:=by rw[ups_self,ups_self,ups_ne V1 (k:=(1,j)) (j:=(2,j)) _ (by simp),ups_ne V1 (k:=(1,j)) (j:=(3,j)) _ (by simp)]
         e1:=by rw[ups_ne _ _ (by simp),ups_self];rfl,e2:=by rw[ups_ne _ _ (by simp),ups_ne _ _ (by simp)];exact hN.e2,e3:=by rw[ups_ne _ _ (by simp),ups_ne _ _ (by simp)];exact hN.e3
         old:=fun k hk=>by rw[ups_ne _ _ (lx_ne hk 1 (by omega) (by omega)),ups_ne _ _ (lx_nb hk),ups_ne _ _ (lx_ne hk 1 (by omega) (by omega))];exact hN.old k hk
         len:=by have:=hN.len;omega }
theorem m_fl2 {d R j p K k:Nat}{brow:List AV}{gr:Int}{a b w5 w8:AV}{rows:List (List AV)}{Q:QT}{x:Mech}{fa fb fc:AV}{V0 V1:Ky→AV}{E0 E1:Ky→En}{f1 f3:List Int}(hK:K≤1000000)
  (r1:∀h',rowsOf h' 4 b=some rows) (z1:rows[j]?=some [.int .i64 x.card,fa,fb,fc]) (hry:rowy b=true) (hfb:SlR NoP k .nil x.noise fb) (hxl:x.noise.length≤K) {t:T} {g:G}
  (ht:St t [(2,.hptr 0 0 0 0),(3,.hptr 1 0 0 0),(4,.hptr 2 0 0 0),(5,w5),(8,w8),(9,.int .i64 (j:Int)),(10,.hptr p 0 0 0)]) (hN:NB R j p g brow gr a b V0 E0 x.card f1 [] f3 V1 E1 K)
  (kk:∀t g V E,St t [(2,.hptr 0 0 0 0),(3,.hptr 1 0 0 0),(4,.hptr 2 0 0 0),(5,w5),(8,w8),(9,.int .i64 (j:Int)),(10,.hptr p 0 0 0)]→NB R j p g brow gr a b V0 E0 x.card (f1) (x.noise) (f3) V E K→Q .norm t [] g) :
  wp C0 d none (.feet [0,1,0,4,0,28,60,124,255,511,1023] [o 54 (.fad 2 (.t 10)),o 55 (.load false 1 (.t 54)),o 56 (.fad 2 (.t 3)),o 57 (.load false 1 (.t 56)),o 58 (.mv (.t 9)),o 59 (.ixs 4 (.t 57) (.t 58)),o 60 (.fad 2 (.t 59)),o 61 (.load false 1 (.t 60)),o 62 (.app 1 8 (.t 55) (.t 61)),o 63 (.fad 2 (.t 10)),oz (.store 1 (.t 63) (.t 62))]) Q t [] g:=by
 obtain ⟨h2,h3,h4,h5,h8,h9,h10,-⟩:=ht
 have hlt:j<rows.length:=(List.getElem?_eq_some_iff.1 z1).1
 obtain ⟨p',hp1,hp2,hp3,hgx⟩:=hN.hp.box (k:=(5,0)) (by simp[LX]) hN.bx
 rw[hN.vb] at hp3;injection hp3 with hp3;subst hp3
 have hgx:g.h.get p=.cells 4 [[.int .i64 x.card,V1 (1,j),V1 (2,j),V1 (3,j)]] 0 false false:=hgx
 have hnx:=hN.hp.nx
 have hlen:=hN.len
 simp only[sx,sy,sf,SO.run,↓reduceIte,Nat.reduceEqDiff,Nat.reduceAdd,Nat.reduceLeDiff,h3,h9,h10,hN.bb.2.1,r1,hlt,z1,hry,hgx,Option.isSome_some,Option.getD_some]
 refine (hN.hp.same (g':=_) (by simp) (by simp;omega)).app (k:=(2,j)) (by simp[LX]) (hN.e2) (new:=(x.noise).map ci) (by simpa using (hfb.tree (h':=g.h) (Nat.le_refl _)).ints) (by simp[room];omega) fun v1 ga hHa na fra fsa lga vca vta=>?_
 simp only[sx,sy] at na fra fsa lga
 obtain ⟨p',hp1',hp2',hp3',hgx'⟩:=hHa.box (k:=(5,0)) (by simp[LX]) (by rw[ups_ne _ _ (by simp)];exact hN.bx)
 rw[ups_ne _ _ (by simp),hN.vb] at hp3';injection hp3' with hp3';subst hp3'
 have hgx':ga.h.get p=.cells 4 [[.int .i64 x.card,V1 (1,j),V1 (2,j),V1 (3,j)]] 0 false false:=hgx'
 simp only[sx,sy,sf,SO.run,↓reduceIte,Nat.reduceEqDiff,Nat.reduceAdd,Nat.reduceLeDiff,h3,h9,h10,hgx',vca,vta]
 refine ⟨?_,?_⟩
 ·simp only[List.reverse_cons,List.reverse_nil,List.nil_append,List.cons_append]
  exact footsOk_mk [false,false,false,false,false,false,false,false,true,false,true] [] (by simp[All2,rdLook,noLook,bigLook]) (by decide) (by simp)
 have hHb:=(hHa.same (g':=setLog (bumpG (setLog (bumpG ga []) []) []) []) (by simp) (by simp;omega)).putb (k:=(5,0)) (by simp[LX]) (row:=[.int .i64 x.card,V1 (1,j),V1 (2,j),V1 (3,j)]) (row':=[.int .i64 x.card,V1 (1,j),v1,V1 (3,j)]) (by rw[ups_ne _ _ (by simp)];exact hN.bx) (by rw[ups_ne _ _ (by simp)];exact hN.vb) rfl
 refine kk _ _ (ups V1 (2,j) v1) (ups (ups E1 (2,j) (En.sl 1 (List.map ci []++List.map ci x.noise))) (5,0) (En.bx [.int .i64 x.card,V1 (1,j),v1,V1 (3,j)])) (by simp[St,sx,h2,h3,h4,h9,h10,h5,h8]) ?_
 exact { hp:=hHb.same (by simp) (by simp),bb:=hN.bb.fr (fun i hi=>by simp[H.get_put];rw[if_neg (by omega),fra i hi]),vb:=by rw[ups_ne _ _ (by simp)];exact hN.vb
         bx:=by rw[ups_self,ups_self,ups_ne V1 (k:=(2,j)) (j:=(1,j)) _ (by simp),ups_ne V1 (k:=(2,j)) (j:=(3,j)) _ (by simp)]
         e2:=by rw[ups_ne _ _ (by simp),ups_self];rfl,e1:=by rw[ups_ne _ _ (by simp),ups_ne _ _ (by simp)];exact hN.e1,e3:=by rw[ups_ne _ _ (by simp),ups_ne _ _ (by simp)];exact hN.e3
         old:=fun k hk=>by rw[ups_ne _ _ (lx_ne hk 2 (by omega) (by omega)),ups_ne _ _ (lx_nb hk),ups_ne _ _ (lx_ne hk 2 (by omega) (by omega))];exact hN.old k hk
         len:=by have:=hN.len;omega }
theorem m_fl3 {d R j p K k:Nat}{brow:List AV}{gr:Int}{a b w5 w8:AV}{rows:List (List AV)}{Q:QT}{x:Mech}{fa fb fc:AV}{V0 V1:Ky→AV}{E0 E1:Ky→En}{f1 f2:List Int}(hK:K≤1000000)
  (r1:∀h',rowsOf h' 4 b=some rows) (z1:rows[j]?=some [.int .i64 x.card,fa,fb,fc]) (hry:rowy b=true) (hfc:SlR NoP k .nil x.out fc) (hxl:x.out.length≤K) {t:T} {g:G}
  (ht:St t [(2,.hptr 0 0 0 0),(3,.hptr 1 0 0 0),(4,.hptr 2 0 0 0),(5,w5),(8,w8),(9,.int .i64 (j:Int)),(10,.hptr p 0 0 0)]) (hN:NB R j p g brow gr a b V0 E0 x.card f1 f2 [] V1 E1 K)
  (kk:∀t g V E,St t [(2,.hptr 0 0 0 0),(3,.hptr 1 0 0 0),(4,.hptr 2 0 0 0),(5,w5),(8,w8),(9,.int .i64 (j:Int)),(10,.hptr p 0 0 0)]→NB R j p g brow gr a b V0 E0 x.card (f1) (f2) (x.out) V E K→Q .norm t [] g) :
  wp C0 d none (.feet [0,1,0,4,0,28,60,124,255,511,1023] [o 64 (.fad 3 (.t 10)),o 65 (.load false 1 (.t 64)),o 66 (.fad 2 (.t 3)),o 67 (.load false 1 (.t 66)),o 68 (.mv (.t 9)),o 69 (.ixs 4 (.t 67) (.t 68)),o 70 (.fad 3 (.t 69)),o 71 (.load false 1 (.t 70)),o 72 (.app 1 8 (.t 65) (.t 71)),o 73 (.fad 3 (.t 10)),oz (.store 1 (.t 73) (.t 72))]) Q t [] g:=by
 obtain ⟨h2,h3,h4,h5,h8,h9,h10,-⟩:=ht
 have hlt:j<rows.length:=(List.getElem?_eq_some_iff.1 z1).1
 obtain ⟨p',hp1,hp2,hp3,hgx⟩:=hN.hp.box (k:=(5,0)) (by simp[LX]) hN.bx
 rw[hN.vb] at hp3;injection hp3 with hp3;subst hp3
 have hgx:g.h.get p=.cells 4 [[.int .i64 x.card,V1 (1,j),V1 (2,j),V1 (3,j)]] 0 false false:=hgx
 have hnx:=hN.hp.nx
 have hlen:=hN.len
 simp only[sx,sy,sf,SO.run,↓reduceIte,Nat.reduceEqDiff,Nat.reduceAdd,Nat.reduceLeDiff,h3,h9,h10,hN.bb.2.1,r1,hlt,z1,hry,hgx,Option.isSome_some,Option.getD_some]
 refine (hN.hp.same (g':=_) (by simp) (by simp;omega)).app (k:=(3,j)) (by simp[LX]) (hN.e3) (new:=(x.out).map ci) (by simpa using (hfc.tree (h':=g.h) (Nat.le_refl _)).ints) (by simp[room];omega) fun v1 ga hHa na fra fsa lga vca vta=>?_
 simp only[sx,sy] at na fra fsa lga
 obtain ⟨p',hp1',hp2',hp3',hgx'⟩:=hHa.box (k:=(5,0)) (by simp[LX]) (by rw[ups_ne _ _ (by simp)];exact hN.bx)
 rw[ups_ne _ _ (by simp),hN.vb] at hp3';injection hp3' with hp3';subst hp3'
 have hgx':ga.h.get p=.cells 4 [[.int .i64 x.card,V1 (1,j),V1 (2,j),V1 (3,j)]] 0 false false:=hgx'
 simp only[sx,sy,sf,SO.run,↓reduceIte,Nat.reduceEqDiff,Nat.reduceAdd,Nat.reduceLeDiff,h3,h9,h10,hgx',vca,vta]
 refine ⟨?_,?_⟩
 ·simp only[List.reverse_cons,List.reverse_nil,List.nil_append,List.cons_append]
  exact footsOk_mk [false,false,false,false,false,false,false,false,true,false,true] [] (by simp[All2,rdLook,noLook,bigLook]) (by decide) (by simp)
 have hHb:=(hHa.same (g':=setLog (bumpG (setLog (bumpG ga []) []) []) []) (by simp) (by simp;omega)).putb (k:=(5,0)) (by simp[LX]) (row:=[.int .i64 x.card,V1 (1,j),V1 (2,j),V1 (3,j)]) (row':=[.int .i64 x.card,V1 (1,j),V1 (2,j),v1]) (by rw[ups_ne _ _ (by simp)];exact hN.bx) (by rw[ups_ne _ _ (by simp)];exact hN.vb) rfl
 refine kk _ _ (ups V1 (3,j) v1) (ups (ups E1 (3,j) (En.sl 1 (List.map ci []++List.map ci x.out))) (5,0) (En.bx [.int .i64 x.card,V1 (1,j),V1 (2,j),v1])) (by simp[St,sx,h2,h3,h4,h9,h10,h5,h8]) ?_
 exact { hp:=hHb.same (by simp) (by simp),bb:=hN.bb.fr (fun i hi=>by simp[H.get_put];rw[if_neg (by omega),fra i hi]),vb:=by rw[ups_ne _ _ (by simp)];exact hN.vb
         bx:=by rw[ups_self,ups_self,ups_ne V1 (k:=(3,j)) (j:=(1,j)) _ (by simp),ups_ne V1 (k:=(3,j)) (j:=(2,j)) _ (by simp)]
         e3:=by rw[ups_ne _ _ (by simp),ups_self];rfl,e1:=by rw[ups_ne _ _ (by simp),ups_ne _ _ (by simp)];exact hN.e1,e2:=by rw[ups_ne _ _ (by simp),ups_ne _ _ (by simp)];exact hN.e2
         old:=fun k hk=>by rw[ups_ne _ _ (lx_ne hk 3 (by omega) (by omega)),ups_ne _ _ (lx_nb hk),ups_ne _ _ (lx_ne hk 3 (by omega) (by omega))];exact hN.old k hk
         len:=by have:=hN.len;omega }
theorem m_bb1 {d K:Nat}{m:Causal}{brow:List AV}{a b:AV}{Q:QT}(hS:SlR NoP 0 .nil m.nodes b)(hK:K≤1000000)(hb:Bnd K m){R:Nat}(hR:R≤K){Rt:Nat→List Int}{t:T}{g:G}{V:Ky→AV}{E:Ky→En}
  (ht:St t [(2,.hptr 0 0 0 0),(3,.hptr 1 0 0 0),(4,.hptr 2 0 0 0)]) (h5:tat t 5=V (4,0)) (h8:tat t 8=V (4,1)) (h9:tat t 9=.int .i64 0) (hH:Hp g 3 (LB R 0) V E) (hB:BB g brow m.grain a b) (hD:BD K R 0 V E Rt (fun _=>0) (fun _ _=>[]))
  (fin:∀t g V E c F,St t [(2,.hptr 0 0 0 0),(3,.hptr 1 0 0 0),(4,.hptr 2 0 0 0)]→tat t 5=V (4,0)→tat t 8=V (4,1)→Hp g 3 (LB R m.nodes.length) V E→BB g brow m.grain a b→BD K R m.nodes.length V E Rt c F→Q (.exit 2) t [] g) :
  wpL (wp C0 d none f_ref33_Bend_Of_b1) Q t [] g:=by
 obtain ⟨rows,r1,r2,r3,r4⟩:=hS.all
 have r1:∀h',rowsOf h' 4 b=some rows:=r1
 have hbr:=hb.n
 simp only[f_ref33_Bend_Of_b1]
 refine wpL_cnt m.nodes.length (by omega) (fun j t df g=>df=[]∧St t [(2,.hptr 0 0 0 0),(3,.hptr 1 0 0 0),(4,.hptr 2 0 0 0)]∧∃V E c F,tat t 5=V (4,0)∧tat t 8=V (4,1)∧Hp g 3 (LB R j) V E∧BB g brow m.grain a b∧BD K R j V E Rt c F)
  ⟨rfl,ht,V,E,_,_,h5,h8,hH,hB,hD⟩ h9 (by decide) (by rintro j t df g v s (rfl | rfl | rfl)<;>simp[St,sx]) ?_ ?_ ?_
 ·rintro j t df g hj ⟨rfl,⟨h2,h3,h4,-⟩,V,E,c,F,h5,h8,hH,hB,hD⟩ h9
  simp only[sx,sy,SO.run,↓reduceIte,Nat.reduceEqDiff,h2,h3,h4,h5,h8,h9,hB.2.1,hS.len,St]
  exact ⟨V,E,c,F,rfl,rfl,hH,hB,hD⟩
 ·clear ht h5 h8 h9 hH hB hD
  rintro j t df g hj ⟨rfl,⟨h2,h3,h4,-⟩,V,E,c,F,h5,h8,hH,hB,hD⟩ h9
  obtain ⟨x,hx,htk,hm⟩:=take_next hj
  obtain ⟨row,q1,q2⟩:=r3 j x hx
  obtain ⟨fa,fb,fc,rfl,hfa,hfb,hfc⟩:=rp_mech.1 q2
  have hlt:j<rows.length:=by omega
  have hry:=r4 (by omega)
  obtain ⟨l1,l2,l3⟩:=hb.f x hm
  have hnx:=hH.nx
  have hnj:∀q,1≤q→q≤3→¬LB R j (q,j):=fun q a1 a2 h=>lx_ne h q a1 a2 rfl
  have hn5:¬LB R j (5,0):=fun h=>lx_nb h rfl
  have hH1:=hH.add (k:=(5,0)) (L':=fun k=>LB R j k∨k=(5,0)) (g':=(g.new (.cells 4 [[.int .i64 0,.nils,.nils,.nils]] 0 false false)).put g.nx (.cells 4 [[.int .i64 x.card,.nils,.nils,.nils]] 0 false false))
   (v':=.hptr g.nx 0 0 0) (e':=.bx [.int .i64 x.card,.nils,.nils,.nils]) hn5 ⟨g.nx,by omega,by simp,rfl,by simp[get_put_eq]⟩ (by simp) (fun i _ hi=>by rw[G.put_h,get_put_ne _ _ _ (by omega),G.new_h,get_put_ne _ _ _ (by omega)]) (fun i hi=>by injection hi with hi;omega) (fun k hk=>hk)
  have hH2:=hH1.add (k:=(1,j)) (L':=fun k=>LB R j k∨k=(5,0)∨k=(1,j)) (v':=.nils) (e':=.sl 1 []) (by rintro (h | h);exact hnj 1 (by omega) (by omega) h;simp at h) (.inl ⟨rfl,rfl⟩) (Nat.le_refl _) (fun _ _ _=>rfl) (fun i hi=>by cases hi) (fun k hk=>by rcases hk with h | h | h;exact .inl (.inl h);exact .inl (.inr h);exact .inr h)
  have hH3:=hH2.add (k:=(2,j)) (L':=fun k=>LB R j k∨k=(5,0)∨k=(1,j)∨k=(2,j)) (v':=.nils) (e':=.sl 1 []) (by rintro (h | h | h);exact hnj 2 (by omega) (by omega) h;simp at h;simp at h) (.inl ⟨rfl,rfl⟩) (Nat.le_refl _) (fun _ _ _=>rfl) (fun i hi=>by cases hi) (fun k hk=>by rcases hk with h | h | h | h;exact .inl (.inl h);exact .inl (.inr (.inl h));exact .inl (.inr (.inr h));exact .inr h)
  have hH4:=hH3.add (k:=(3,j)) (L':=LX R j) (v':=.nils) (e':=.sl 1 []) (by rintro (h | h | h | h);exact hnj 3 (by omega) (by omega) h;simp at h;simp at h;simp at h) (.inl ⟨rfl,rfl⟩) (Nat.le_refl _) (fun _ _ _=>rfl) (fun i hi=>by cases hi) (fun k hk=>by rcases hk with h | h | h | h | h;exact .inl (.inl h);exact .inl (.inr (.inl h));exact .inl (.inr (.inr (.inl h)));exact .inl (.inr (.inr (.inr h)));exact .inr h)
  have hNB:=NB.mk (K:=K) (card:=x.card) (f1:=[]) (f2:=[]) (f3:=[]) (V0:=V) (E0:=E) hH4 (hB.fr fun i hi=>by rw[G.put_h,get_put_ne _ _ _ (by omega),G.new_h,get_put_ne _ _ _ (by omega)]) (p:=g.nx)
   (by simp[ups_ne,ups_self]) (by simp[ups_ne,ups_self]) (by simp[ups_ne,ups_self]) (by simp[ups_ne,ups_self]) (by simp[ups_ne,ups_self])
   (fun k hk=>by rw[ups_ne _ _ (lx_ne hk 3 (by omega) (by omega)),ups_ne _ _ (lx_ne hk 3 (by omega) (by omega)),ups_ne _ _ (lx_ne hk 2 (by omega) (by omega)),ups_ne _ _ (lx_ne hk 2 (by omega) (by omega)),ups_ne _ _ (lx_ne hk 1 (by omega) (by omega)),ups_ne _ _ (lx_ne hk 1 (by omega) (by omega)),ups_ne _ _ (lx_nb hk),ups_ne _ _ (lx_nb hk)];exact ⟨rfl,rfl⟩) (by simp)
  clear hH1 hH2 hH3 hH4
  refine seq_cut (P:=fun t df g'=>df=[]∧St t [(2,.hptr 0 0 0 0),(3,.hptr 1 0 0 0),(4,.hptr 2 0 0 0),(5,V (4,0)),(8,V (4,1)),(9,.int .i64 (j:Int)),(10,.hptr g.nx 0 0 0)] ∧
   g'=(g.new (.cells 4 [[.int .i64 0,.nils,.nils,.nils]] 0 false false)).put g.nx (.cells 4 [[.int .i64 x.card,.nils,.nils,.nils]] 0 false false)) ?_ ?_
  ·simp only[sx,sy,SO.run,↓reduceIte,Nat.reduceEqDiff,Nat.reduceAdd,Nat.reduceLeDiff,h2,h3,h4,h5,h8,h9,hB.2.1,r1,hlt,q1,hry,Option.isSome_some,Option.getD_some,St]
  obtain ⟨p,hp⟩:∃p,p=g.nx:=⟨_,rfl⟩
  rw[←hp] at hNB ⊢
  rintro t df g1 ⟨rfl,ht,rfl⟩
  rw[wp_seq]
  refine m_fl1 hK r1 q1 hry hfa l1 ht hNB ?_
  clear hNB ht
  intro t g V1 E1 ht hNB
  rw[kS_norm,wp_seq]
  refine m_fl2 hK r1 q1 hry hfb l2 ht hNB ?_
  clear hNB ht
  intro t g V1 E1 ht hNB
  rw[kS_norm,wp_seq]
  refine m_fl3 hK r1 q1 hry hfc l3 ht hNB ?_
  clear hNB ht
  rintro t g V1 E1 ⟨h2,h3,h4,h5,h8,h9,h10,-⟩ hNB
  rw[kS_norm]
  obtain ⟨p',hp1,hp2,hp3,hgx⟩:=hNB.hp.box (k:=(5,0)) (by simp[LX]) hNB.bx
  rw[hNB.vb] at hp3;injection hp3 with hp3;subst hp3
  have hgx:g.h.get p=.cells 4 [[.int .i64 x.card,V1 (1,j),V1 (2,j),V1 (3,j)]] 0 false false:=hgx
  have e41:=hNB.old (4,1) (by simp[LB])
  have e40:=hNB.old (4,0) (by simp[LB])
  simp only[sx,sy,SO.run,↓reduceIte,Nat.reduceEqDiff,Nat.reduceAdd,Nat.reduceLeDiff,h8,h10,hgx]
  rw[←e41.1]
  have hnx2:=hNB.hp.nx
  refine (hNB.hp.step (g':=g.new (.cells 4 [[.int .i64 x.card,V1 (1,j),V1 (2,j),V1 (3,j)]] 0 false false)) (by simp) (fun i _ hi=>by rw[G.new_h,get_put_ne _ _ _ (by omega)])).app (k:=(4,1)) (by simp[LX,LB]) (by rw[e41.2];exact hD.ns)
   (new:=[[.int .i64 x.card,V1 (1,j),V1 (2,j),V1 (3,j)]]) (by simp[sx,sy,H.get_put]) (by simp[room];omega) fun v3 g3 hH4 n3 fr3 _ lg3 vc3 vt3=>?_
  simp only[sx,sy] at n3 fr3
  simp only[sx,sy,SO.run,↓reduceIte,Nat.reduceEqDiff,Nat.reduceAdd,h2,h3,h4,h5,h8,h9,St]
  have hlb:∀k,LB R (j+1) k→LX R j k:=fun k hk=>by
   rcases hk with h | ⟨a1,a2,a3⟩ | h
   ·exact .inl (.inl h)
   ·by_cases e:k.2=j
    ·have:k.1=1∨k.1=2∨k.1=3:=by omega
     rcases this with h | h | h
     ·exact .inr (.inr (.inl (Prod.ext h e)))
     ·exact .inr (.inr (.inr (.inl (Prod.ext h e))))
     ·exact .inr (.inr (.inr (.inr (Prod.ext h e))))
    ·exact .inl (.inr (.inl ⟨a1,a2,by omega⟩))
   ·exact .inl (.inr (.inr h))
  refine ⟨_,_,ups c j x.card,fun q=>ups (F q) j (if q=1 then x.frm else if q=2 then x.noise else x.out),?_,(ups_self _ _ _).symm,hH4.sub hlb,hNB.bb.fr (fun i hi=>by rw[fr3 i hi,if_neg (by omega)]),⟨fun i hi=>?_,fun q i a1 a2 hi=>?_,?_,?_⟩⟩
  ·rw[ups_ne _ _ (by simp),e40.1]
  ·rw[ups_ne _ _ (by simp),(hNB.old (0,i) (.inl ⟨rfl,hi⟩)).2];exact hD.r i hi
  ·rw[ups_ne _ _ (by simp;omega)]
   by_cases e:i=j
   ·subst e
    rw[ups_self]
    have:q=1∨q=2∨q=3:=by omega
    rcases this with rfl | rfl | rfl
    ·exact ⟨hNB.e1,l1⟩
    ·exact ⟨hNB.e2,l2⟩
    ·exact ⟨hNB.e3,l3⟩
   ·rw[ups_ne _ _ e,(hNB.old (q,i) (.inr (.inl ⟨a1,a2,by omega⟩))).2];exact hD.f q i a1 a2 (by omega)
  ·rw[ups_ne _ _ (by simp),e40.2,hD.rs]
   congr 1
   refine List.map_congr_left fun i hi=>?_
   have hi:=List.mem_range.1 hi
   rw[ups_ne _ _ (by simp),(hNB.old (0,i) (.inl ⟨rfl,hi⟩)).1]
  ·rw[ups_self,List.range_succ,List.map_append]
   congr 2
   ·refine List.map_congr_left fun i hi=>?_
    have hi:=List.mem_range.1 hi
    rw[ups_ne c _ (show i≠j by omega),ups_ne V1 (j:=(1,i)) _ (by simp),ups_ne V1 (j:=(2,i)) _ (by simp),ups_ne V1 (j:=(3,i)) _ (by simp),(hNB.old (1,i) (.inr (.inl ⟨by simp,by simp,hi⟩))).1,(hNB.old (2,i) (.inr (.inl ⟨by simp,by simp,hi⟩))).1,(hNB.old (3,i) (.inr (.inl ⟨by simp,by simp,hi⟩))).1]
   ·simp[ups_ne,ups_self]
 ·rintro t df g ⟨rfl,ht,V,E,c,F,h5,h8,hH,hB,hD⟩
  exact fin t g V E c F ht h5 h8 hH hB hD
end
end Hx
end
