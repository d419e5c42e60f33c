/- A part of the proof: an interpreter over abstract values, shown right against the model, and what the functions of the chapter compute on it. -/
import Derived.Test.YtaebcalnodgpnaaHx11
set_option linter.unusedVariables false
set_option linter.unusedSimpArgs false
set_option linter.unnecessarySimpa false
section
namespace Hx
open Go
noncomputable section
theorem nilc_hptr (id ep i off:Nat):nilcV (.hptr id ep i off)=.val (.hptr id ep i off):=rfl
theorem next_ok {d:Nat}{g:G}{p:Nat}{l:AV}{us:List UInt8}{c:Int}{K:AV→G→Prop}{D:ADf→Prop}(hg:g.h.get p=.cells 2 [[l,.int .i64 c]] 0 false false)(hl:SlR NoP 0 .nil us l)(h0:0≤c)(h1:c<4611686018427387904)
  (kk:∀(z c':Int) (g':G),0≤z→z<256→0≤c'→c'≤c+1→g'.h.get p=.cells 2 [[l,.int .i64 c']] 0 false false→g'.nx=g.nx→(∀i,i≠p→g'.h.get i=g.h.get i)→(∀i∈g'.lg,i=p∨i∈g.lg)→K (.int .u8 z) g') :
  (callV C0 d N.ref33_numbers_next [.hptr p 0 0 0] g).sat K g D:=by
 obtain ⟨rows,r1,r2,r3,r4⟩:=hl.all
 have r1:∀h',rowsOf h' 1 l=some rows:=r1
 rw[call_ref33_numbers_next]
 refine dir_run eq_ref33_numbers_next (by simp[f_ref33_numbers_next]) ?_
 simp only[f_ref33_numbers_next,sx,sy,SO.run,↓reduceIte,Nat.reduceEqDiff,Nat.reduceAdd,hg,hl.len,nilc_hptr]
 refine bifP_mk (fun hb=>?_) (fun hb=>?_)
 ·simp only[sx,sy,SO.run,↓reduceIte,Nat.reduceEqDiff,Nat.reduceAdd]
  exact kk 0 c g (by decide) (by decide) h0 (by omega) hg rfl (fun _ _=>rfl) (fun i hi=>.inr hi)
 ·have hp:0<us.length:=by simp at hb;cases us with | nil=>simp at hb | cons a b=>simp
  have hm1:=Int.emod_nonneg (c+1) (show (us.length:Int)≠0 by omega)
  have hm2:=Int.emod_lt_of_pos (c+1) (show 0<(us.length:Int) by omega)
  obtain ⟨j,hj⟩:=Int.eq_ofNat_of_zero_le hm1
  have hjl:j<us.length:=by omega
  obtain ⟨y,hy⟩:∃y,us[j]?=some y:=⟨_,List.getElem?_eq_getElem hjl⟩
  obtain ⟨row,z1,z2⟩:=r3 j y hy
  rw[rp_u8.1 z2] at z1
  have hy8:y.toNat<256:=y.toNat_lt
  have hlt:j<rows.length:=by omega
  simp only[sx,sy,SO.run,↓reduceIte,Nat.reduceEqDiff,Nat.reduceAdd,Nat.reduceLeDiff,Nat.le_refl,hg,nilc_hptr,hl.len,bin_rem .i64 (show 0≤c+1 by omega) (show 0<(us.length:Int) by omega),hj,r1,hlt,z1,Option.isSome_some,Option.getD_some,wrap64 (show -9223372036854775808≤c+1 by omega) (show c+1<9223372036854775808 by omega)]
  refine kk _ (c+1) _ (by omega) (by omega) (by omega) (by omega) (by simp[H.get_put]) (by simp) (fun i hi=>by simp[H.get_put];intro e;exact absurd e hi) (fun i hi=>by simpa using hi)
end
end Hx
end
section
namespace Hx
open Go
noncomputable section
abbrev Draft2:Type:=List UInt8×UInt16×List UInt8
def S.dcards (us:List UInt8):List Int:=(us.take 5).map fun u=>1+(u.toNat:Int) % 4
theorem rp_u16 {P:Nat→Prop}{k:Nat}{h:H}{x:UInt16}{cs:List AV}:Rp.rp P k h x cs↔cs=[.int .u16 (x.toNat:Int)]:=by simp[Rp.rp]
theorem rp_draft2 {P:Nat→Prop}{k:Nat}{h:H}{x:Draft2}{cs:List AV}:Rp.rp P k h x cs↔∃a b,cs=[a,.int .u16 (x.2.1.toNat:Int),b]∧SlR P k h x.1 a∧SlR P k h x.2.2 b:=by
 constructor
 ·rintro ⟨c1,c2,rfl,⟨a,rfl,h1⟩,c3,c4,rfl,h2,⟨b,rfl,h3⟩⟩
  rw[rp_u16.1 h2];exact ⟨a,b,rfl,h1,h3⟩
 ·rintro ⟨a,b,rfl,h1,h2⟩
  exact ⟨[a],[_,b],rfl,⟨a,rfl,h1⟩,[_],[b],rfl,rp_u16.2 rfl,⟨b,rfl,h2⟩⟩
theorem dcards_ok {d k:Nat}{g:G}{P:Nat→Prop}{v:AV}{x:Draft2}(hd:0<d)(hm:Agg x P k g.h v) :
  ∃r,callV C0 d N.ref02_Draft_Cards [v] g=.val r∧IT 0 (S.dcards x.1) r:=by
 obtain ⟨v',e,cs,rfl,hc⟩:=arg_of (snb_agg x) (by decide) d hm
 obtain ⟨a,b,rfl,hA,hB⟩:=rp_draft2.1 hc
 obtain ⟨rows,r1,r2,r3,r4⟩:=hA.all
 have r1:∀h',rowsOf h' 1 a=some rows:=r1
 rw[call_ref02_Draft_Cards]
 refine iso_run eq_ref02_Draft_Cards (xs:=[.agg [a,.int .u16 (x.2.1.toNat:Int),b]]) (by simp only[mapO,e]) (by simp[f_ref02_Draft_Cards]) (snb_one _) (by decide) hd ?_
 have hL:(S.dcards x.1).length=min x.1.length 5:=by simp[S.dcards];omega
 simp only[f_ref02_Draft_Cards,f_ref02_Draft_Cards_r,sx,sy,SO.run,↓reduceIte,Nat.reduceEqDiff,Nat.reduceAdd]
 refine wpL_cnt (min x.1.length 5) (by omega) (fun j t df g=>df=[]∧tat t 1=.hptr 0 0 0 0∧g.h.get 0=.cells 3 [[a,.int .u16 (x.2.1.toNat:Int),b]] 0 false false∧1≤g.nx∧∃u,tat t 3=u∧Own g 1 u 1 (((S.dcards x.1).take j).map ci))
  ⟨rfl,by simp[sx],by simp[sx],by simp[sx],_,rfl,.inl ⟨by simp[sx],rfl⟩⟩ (by simp[sx]) (by decide)
  (by rintro j t df g v s (rfl | rfl | rfl)<;>simp[sx]) ?_ ?_ ?_
 ·rintro j t df g hj ⟨rfl,h1,hg,hnx,u,h3,hu⟩ h4
  by_cases hlt:(j:Int)<(x.1.length:Int)
  ·have:decide ((j:Int)<((min x.1.length 5:Nat):Int))=decide ((j:Int)<5):=by congr 1;apply propext;omega
   simp only[sx,sy,SO.run,↓reduceIte,Nat.reduceEqDiff,h1,h4,hg,hA.len,hlt,decide_true,true_and,and_true,this]
   exact ⟨hnx,u,h3,hu⟩
  ·have:decide ((j:Int)<((min x.1.length 5:Nat):Int))=false:=decide_eq_false (by omega)
   simp only[sx,sy,SO.run,↓reduceIte,Nat.reduceEqDiff,h1,h4,hg,hA.len,hlt,decide_false,true_and,and_true,this]
   exact ⟨hnx,u,h3,hu⟩
 ·rintro j t df g hj ⟨rfl,h1,hg,hnx,u,h3,hu⟩ h4
  obtain ⟨y,hy,-,-⟩:=take_next (l:=x.1) (j:=j) (by omega)
  obtain ⟨z,hz,htk,-⟩:=take_next (l:=S.dcards x.1) (j:=j) (by omega)
  have hzy:z=1+(y.toNat:Int) % 4:=by
   have:(S.dcards x.1)[j]?=some (1+(y.toNat:Int) % 4):=by simp[S.dcards,List.getElem?_take,show j<5 by omega,hy]
   rw[this] at hz;injection hz with hz;exact hz.symm
  obtain ⟨row,z1,z2⟩:=r3 j y hy
  rw[rp_u8.1 z2] at z1
  have hlt:j<rows.length:=by omega
  have hy8:y.toNat<256:=y.toNat_lt
  have m1:0≤(y.toNat:Int) % 4:=by omega
  have m2:(y.toNat:Int) % 4<4:=by omega
  simp only[sx,sy,SO.run,↓reduceIte,Nat.reduceEqDiff,h1,h3,h4,hg,r1,hlt,z1,Option.isSome_some,Option.getD_some,bin_rem .u8 (show (0:Int)≤(y.toNat:Int) by omega) (show (0:Int)<4 by decide),
   wrap64 (show -9223372036854775808≤(y.toNat:Int) % 4 by omega) (show (y.toNat:Int) % 4<9223372036854775808 by omega),
   wrap64 (show -9223372036854775808≤1+(y.toNat:Int) % 4 by omega) (show 1+(y.toNat:Int) % 4<9223372036854775808 by omega)]
  refine append_own (new:=[ci (1+(y.toNat:Int) % 4)]) (hu.step (Fr.new _ _)) (by simp[sx,sy,ci]) (by simp) (by simp[room];omega) fun v2 g2 hv2 n2 f2 _ l2=>?_
  simp only[sx,sy,SO.run,↓reduceIte,Nat.reduceEqDiff,h1,h4,and_true,true_and]
  refine ⟨?_,?_,_,rfl,?_⟩
  ·rw[f2 0 (by simp) (fun e=>by have:=(hu.lt e).1;omega),G.new_h,get_put_ne _ _ _ (by omega),hg]
  ·simp at n2;omega
  ·rw[htk,hzy]
   simpa [ci] using hv2
 ·rintro t df g ⟨rfl,h1,hg,hnx,u,h3,hu⟩
  rw[List.take_of_length_le (by omega)] at hu
  simp only[f_ref02_Draft_Cards_k1,sx,sy,SO.run,↓reduceIte,Nat.reduceEqDiff,h3]
  exact ⟨_,hu.ints (by omega)⟩
end
end Hx
end
section
namespace Hx
open Go
noncomputable section
theorem slc_own_hi {g:G}{b sz:Nat}{u:AV}{rows:List (List AV)}(hu:Own g b u sz rows){n:Nat}(hn:n≤rows.length) :
  ∃y,slcV sz u none (some (.int .i64 (n:Int))) g=.val y∧rowsOf g.h sz y=some (rows.take n):=by
 rcases hu with ⟨rfl,rfl⟩ | ⟨id,ep,lo,h1,h2,rfl,h3⟩
 ·have:n=0:=by simpa using hn
  subst this
  exact ⟨.nils,rfl,rfl⟩
 ·simp only[slcV,sliceA,h3,Nat.beq_refl,Nat.beq_refl,Bool.true_and,lenR_eq,Nat.zero_add,bif'_eq,Nat.ble_eq,Nat.le_refl,if_true,boundOf,Option.getD_none,Nat.sub_zero]
  simp only[natOf]
  rw[show bif' (n.ble rows.length) (some n) none=some n from by rw[bif'_eq,if_pos (by simpa using hn)]]
  dsimp only
  by_cases h0:rows=[]
  ·subst h0
   have:n=0:=by simpa using hn
   subst this
   cases lo
   ·exact ⟨_,rfl,rfl⟩
   ·exact ⟨_,rfl,rowsOf_tsl _ _ _ _⟩
  ·have hb:rows.length.beq 0=false:=by cases rows with | nil=>exact absurd rfl h0 | cons a l=>rfl
   rw[hb]
   refine ⟨_,rfl,?_⟩
   rw[rowsOf_hsl,h3,hslRows_cells,if_pos (by omega),List.drop_zero]
theorem slc_own_lo {g:G}{b sz:Nat}{u:AV}{rows:List (List AV)}(hu:Own g b u sz rows){n:Nat}(hn:n≤rows.length) :
  ∃y,slcV sz u (some (.int .i64 (n:Int))) none g=.val y∧rowsOf g.h sz y=some (rows.drop n):=by
 rcases hu with ⟨rfl,rfl⟩ | ⟨id,ep,lo,h1,h2,rfl,h3⟩
 ·have:n=0:=by simpa using hn
  subst this
  exact ⟨.nils,rfl,rfl⟩
 ·simp only[slcV,sliceA,h3,Nat.beq_refl,Nat.beq_refl,Bool.true_and,lenR_eq,Nat.zero_add,bif'_eq,Nat.ble_eq,Nat.le_refl,if_true,boundOf,Option.getD_none,Nat.sub_zero]
  simp only[natOf]
  rw[show bif' (n.ble rows.length) (some n) none=some n from by rw[bif'_eq,if_pos (by simpa using hn)]]
  dsimp only
  by_cases h0:rows.length=n
  ·subst h0
   rw[if_pos (Nat.beq_refl _),List.drop_length]
   cases lo
   ·exact ⟨_,rfl,rfl⟩
   ·exact ⟨_,rfl,rowsOf_tsl _ _ _ _⟩
  ·rw[if_neg (fun e=>h0 (Nat.eq_of_beq_eq_true e))]
   refine ⟨_,rfl,?_⟩
   rw[rowsOf_hsl,h3,hslRows_cells,if_pos (by omega),List.take_of_length_le (by simp)]
def S.permAt (os:List UInt8)(k:Nat):Nat:=if k<os.length then ((os[k]?.map UInt8.toNat).getD 0) % (k+1) else 0
def S.perm (os:List UInt8):Nat→List Int
 | 0=>[]
 | k+1=>(S.perm os k).take (S.permAt os k)++(k:Int)::(S.perm os k).drop (S.permAt os k)
theorem perm_len (os:List UInt8):∀k,(S.perm os k).length=k
 | 0=>rfl
 | k+1=>by simp only[S.perm,List.length_append,List.length_cons,List.length_take,List.length_drop,perm_len os k];omega
theorem perm_perm (os:List UInt8):∀k,(S.perm os k).Perm ((List.range k).map fun i:Nat=>(i:Int))
 | 0=>.refl _
 | k+1=>by
  rw[List.range_succ,List.map_append,S.perm]
  refine List.perm_middle.trans ?_
  rw[List.take_append_drop]
  exact ((perm_perm os k).cons _).trans (List.perm_append_comm (l₁:=[(k:Int)]))
theorem permutation_ok {d k:Nat}{g:G}{P:Nat→Prop}{v:AV}{x:Draft2}(hd:0<d)(hm:Agg x P k g.h v) :
  ∃r,callV C0 d N.ref02_Draft_Permutation [v] g=.val r∧IT 0 (S.perm x.2.2 (min x.1.length 5)) r:=by
 obtain ⟨v',e,cs,rfl,hc⟩:=arg_of (snb_agg x) (by decide) d hm
 obtain ⟨a,b,rfl,hA,hB⟩:=rp_draft2.1 hc
 have hms:∀g:G,Agg x NoP (max k d) g.h (.agg [a,.int .u16 (x.2.1.toNat:Int),b]):=fun g=>⟨_,rfl,rp_draft2.2 ⟨a,b,rfl,hA.tree (Nat.le_refl _),hB.tree (Nat.le_refl _)⟩⟩
 obtain ⟨rows,r1,r2,r3,r4⟩:=hB.all
 have r1:∀h',rowsOf h' 1 b=some rows:=r1
 rw[call_ref02_Draft_Permutation]
 refine iso_run eq_ref02_Draft_Permutation (xs:=[.agg [a,.int .u16 (x.2.1.toNat:Int),b]]) (by simp only[mapO,e]) (by simp[f_ref02_Draft_Permutation]) (snb_one _) (by decide) hd ?_
 have hL:(S.dcards x.1).length=min x.1.length 5:=by simp[S.dcards];omega
 simp only[f_ref02_Draft_Permutation,f_ref02_Draft_Permutation_r,sx,sy,SO.run,↓reduceIte,Nat.reduceEqDiff,Nat.reduceAdd]
 refine wpL_cnt (min x.1.length 5) (by omega) (fun j t df g=>df=[]∧tat t 1=.hptr 0 0 0 0∧g.h.get 0=.cells 3 [[a,.int .u16 (x.2.1.toNat:Int),b]] 0 false false∧1≤g.nx∧∃u,tat t 3=u∧Own g 1 u 1 ((S.perm x.2.2 j).map ci))
  ⟨rfl,by simp[sx],by simp[sx],by simp[sx],_,rfl,.inl ⟨by simp[sx],rfl⟩⟩ (by simp[sx]) (by decide)
  (by rintro j t df g v s (rfl | rfl | rfl)<;>simp[sx]) ?_ ?_ ?_
 ·rintro j t df g hj ⟨rfl,h1,hg,hnx,u,h3,hu⟩ h4
  simp only[sx,sy,SO.run,↓reduceIte,Nat.reduceEqDiff,Nat.reduceAdd,Nat.reduceLeDiff,h1,h4,hg]
  refine sat_ex (dcards_ok (Nat.succ_pos d) (hms _)) fun r hr=>?_
  simp only[sx,sy,SO.run,↓reduceIte,Nat.reduceEqDiff,Nat.reduceAdd,h1,h4,hg,(hr.sl .nil).len,hL]
  exact ⟨hnx,u,h3,hu⟩
 ·rintro j t df g hj ⟨rfl,h1,hg,hnx,u,h3,hu⟩ h4
  have hpl:((S.perm x.2.2 j).map ci).length=j:=by rw[List.length_map,perm_len]
  have hle:S.permAt x.2.2 j≤j:=by
   unfold S.permAt;split
   ·have:=Nat.mod_lt (((x.2.2)[j]?.map UInt8.toNat).getD 0) (show 0<j+1 by omega);omega
   ·omega
  have key:∀(t:T) (Q:QT),tat t 1=.hptr 0 0 0 0→tat t 3=u→tat t 4=.int .i64 (j:Int)→tat t 5=.int .i64 (S.permAt x.2.2 j:Int) →
    (∀(t':T) (g':G),tat t' 1=.hptr 0 0 0 0→tat t' 4=.int .i64 (j:Int)→g'.h.get 0=.cells 3 [[a,.int .u16 (x.2.1.toNat:Int),b]] 0 false false→1≤g'.nx→(∃u,tat t' 3=u∧Own g' 1 u 1 ((S.perm x.2.2 (j+1)).map ci))→Q .norm t' [] g') →
    wp C0 (d+1) none f_ref02_Draft_Permutation_k0 Q t [] g:=by
   intro t Q h1 h3 h4 h5 kk
   obtain ⟨y1,s1,w1⟩:=slc_own_hi hu (n:=S.permAt x.2.2 j) (by omega)
   simp only[f_ref02_Draft_Permutation_k0,sx,sy,SO.run,↓reduceIte,Nat.reduceEqDiff,h1,h3,h4,h5,hg,List.head?_nil,List.head?_cons,s1]
   refine append_own (rows:=[]) (b:=1) (.inl ⟨rfl,rfl⟩) w1 hnx (by simp[room];omega) fun v1 g1 hv1 n1 f1 vid1 _=>?_
   simp only[sx,sy,SO.run,↓reduceIte,Nat.reduceEqDiff,h1,h3,h4,h5]
   refine append_own (new:=[ci (j:Int)]) (hv1.step (Fr.new _ _)) (by simp[sx,sy,ci]) (by simp) (by simp[room,perm_len];omega) fun v2 g2 hv2 n2 f2 vid2 _=>?_
   have hu1:Own g1 1 u 1 ((S.perm x.2.2 j).map ci):=hu.fr n1 fun i hi=>f1 i (hu.lt hi).2 (by simp[vid])
   have hnv:∀i,i<g.nx→vid v1≠some i:=fun i hi e=>by
    rcases vid1 with h | ⟨i',h,hi'⟩
    ·rw[h] at e;cases e
    ·rw[h] at e;injection e with e;omega
   have hu2:Own g2 1 u 1 ((S.perm x.2.2 j).map ci):=hu1.fr (by simp at n2;omega) fun i hi=>by
    have hlt:=(hu.lt hi).2
    rw[f2 i (by simp;omega) (hnv i hlt),G.new_h,get_put_ne _ _ _ (by omega)]
   obtain ⟨y2,s2,w2⟩:=slc_own_lo hu2 (n:=S.permAt x.2.2 j) (by omega)
   simp only[sx,sy,SO.run,↓reduceIte,Nat.reduceEqDiff,h1,h3,h4,h5,List.head?_nil,List.head?_cons,s2]
   refine append_own hv2 w2 (by simp at n2;omega) (by simp[room,perm_len];omega) fun v3 g3 hv3 n3 f3 _ _=>?_
   simp only[sx,sy,SO.run,↓reduceIte,Nat.reduceEqDiff]
   refine kk _ _ (by simp[sx,h1]) (by simp[sx,h4]) ?_ (by simp at n2;omega) ⟨_,rfl,?_⟩
   ·rw[f3 0 (by simp at n2;omega) (fun e=>by have:=(hv2.lt e).1;omega),f2 0 (by simp) (hnv 0 (by omega)),G.new_h,get_put_ne _ _ _ (by omega),f1 0 (by omega) (by simp[vid]),hg]
   ·simp only[sx,↓reduceIte]
    simpa [S.perm,List.map_take,List.map_drop] using hv3
  simp only[sx,sy,SO.run,↓reduceIte,Nat.reduceEqDiff,h1,h3,h4,hg,hB.len]
  refine bifP_mk (fun hb=>?_) (fun hb=>?_)
  ·have hjo:j<x.2.2.length:=by simp at hb;omega
   obtain ⟨y,hy⟩:∃y,x.2.2[j]?=some y:=⟨_,List.getElem?_eq_getElem hjo⟩
   obtain ⟨row,z1,z2⟩:=r3 j y hy
   rw[rp_u8.1 z2] at z1
   have hy8:y.toNat<256:=y.toNat_lt
   have hlt:j<rows.length:=by omega
   have hat:((S.permAt x.2.2 j:Nat):Int)=(y.toNat:Int) % ((j:Int)+1):=by
    unfold S.permAt;rw[if_pos hjo,hy];simp
   simp only[sx,sy,SO.run,↓reduceIte,Nat.reduceEqDiff,h1,h4,hg,r1,hlt,z1,Option.isSome_some,Option.getD_some,
    wrap64 (show -9223372036854775808≤(y.toNat:Int) by omega) (show (y.toNat:Int)<9223372036854775808 by omega),
    wrap64 (show -9223372036854775808≤(j:Int)+1 by omega) (show (j:Int)+1<9223372036854775808 by omega),
    bin_rem .i64 (show (0:Int)≤(y.toNat:Int) by omega) (show 0<(j:Int)+1 by omega)]
   refine key _ _ (by simp[sx,h1]) (by simp[sx,h3]) (by simp[sx,h4]) (by simp[sx,hat]) fun t' g' e1 e4 e0 en eu=>?_
   simp only[f_ref02_Draft_Permutation_k1,sx,sy,SO.run,↓reduceIte,Nat.reduceEqDiff,e1,e4,e0]
   exact ⟨en,eu⟩
  ·have hat:S.permAt x.2.2 j=0:=by unfold S.permAt;rw[if_neg];simp at hb;omega
   simp only[sx,sy,SO.run,↓reduceIte,Nat.reduceEqDiff]
   refine key _ _ (by simp[sx,h1]) (by simp[sx,h3]) (by simp[sx,h4]) (by simp[sx,hat]) fun t' g' e1 e4 e0 en eu=>?_
   simp only[f_ref02_Draft_Permutation_k1,sx,sy,SO.run,↓reduceIte,Nat.reduceEqDiff,e1,e4,e0]
   exact ⟨en,eu⟩
 ·rintro t df g ⟨rfl,h1,hg,hnx,u,h3,hu⟩
  simp only[f_ref02_Draft_Permutation_k3,sx,sy,SO.run,↓reduceIte,Nat.reduceEqDiff,h3]
  exact ⟨_,hu.ints (by rw[perm_len];omega)⟩
end
end Hx
end
section
namespace Hx
open Go
noncomputable section
def S.nextFrom (cards:List Int):List Int→Nat→List Int×Bool
 | vals,0=>(vals,false)
 | vals,k+1=>if (vals[k]?.getD 0)+1<(cards[k]?.getD 0) then (vals.set k ((vals[k]?.getD 0)+1),true) else S.nextFrom cards (vals.set k 0) k
def S.next (cards vals:List Int):List Int×Bool:=S.nextFrom cards vals vals.length
theorem rnext_ok {d k k2:Nat}{g:G}{P P2:Nat→Prop}{v w:AV}{cards vals:List Int}(hd:0<d)(hv:SlR P k g.h cards v)(hw:SlR P2 k2 g.h vals w)(hl:cards.length=vals.length)(hn:vals.length≤64)
  (hb:∀x∈vals,0≤x∧x<4294967296) :
  ∃r,callV C0 d N.ref02_Next [v,w] g=.val r∧Tup2 (One (S.next cards vals).1) (One (S.next cards vals).2) NoP 0 .nil r:=by
 obtain ⟨v',e,r1⟩:=arg_sl hv d
 obtain ⟨w',e2,r2⟩:=arg_sl hw d
 rw[call_ref02_Next]
 refine iso_run eq_ref02_Next (xs:=[v',w']) (by simp only[mapO,e,e2]) (by simp[f_ref02_Next]) (snb_tup2 (m:=1) (snb_one _) (snb_one _) (by decide) (by decide)) (by decide) hd ?_
 simp only[f_ref02_Next,sx,sy,SO.run,↓reduceIte,Nat.reduceEqDiff,Nat.reduceAdd]
 refine append_own (rows:=[]) (b:=0) (new:=vals.map ci) (.inl ⟨rfl,rfl⟩) (r2 _).ints (by simp) (by simp[room];omega) fun u g1 hu n1 f1 _ _=>?_
 simp only[List.nil_append] at hu
 have ul:∀g,lenF .slice u g=.val (.int .i64 (vals.length:Int)):=fun g=>by rw[len_rows' hu.rows,List.length_map]
 simp only[sx,sy,SO.run,↓reduceIte,Nat.reduceEqDiff,Nat.reduceAdd,ul,wrap64 (show -9223372036854775808≤(vals.length:Int) - 1 by omega) (show (vals.length:Int) - 1<9223372036854775808 by omega)]
 refine wpL_down (m:=vals.length) (by omega) (fun j t df g=>df=[]∧St t [(0,v'),(6,u)]∧∃l:List Int,l.length=vals.length∧(∀x∈l,0≤x∧x<4294967296)∧S.next cards vals=S.nextFrom cards l j∧Own g 0 u 1 (l.map ci))
  ⟨rfl,by simp[sx,St],vals,rfl,hb,rfl,hu⟩ (by simp[sx]) (by decide) (by rintro j t df g v s (rfl | rfl | rfl | rfl | rfl)<;>simp[sx,St]) ?_ ?_
 ·rintro j t df g hj ⟨rfl,⟨h0,h6,-⟩,l,hll,hbl,hnx,ho⟩ h7
  obtain ⟨x,hx,-,hm⟩:=take_next (l:=l) (j:=j) (by omega)
  obtain ⟨c,hc,-,hmc⟩:=take_next (l:=cards) (j:=j) (by omega)
  have hxb:=hbl x hm
  have hlt:j<(l.map ci).length:=by rw[List.length_map];omega
  have hlc:j<cards.length:=by omega
  have hrow:(l.map ci)[j]?=some (ci x):=by rw[List.getElem?_map,hx];rfl
  simp only[sx,sy,SO.run,↓reduceIte,Nat.reduceEqDiff,h0,h6,h7,ho.rows,hlt,hrow,ci,Option.isSome_some,Option.getD_some,wrap64 (show -9223372036854775808≤x+1 by omega) (show x+1<9223372036854775808 by omega)]
  refine store_own (row:=ci x) (row':=ci (x+1)) ho hrow rfl rfl rfl fun g2 o2 n2 f2=>?_
  rw[←List.map_set] at o2
  have hlt2:j<((l.set j (x+1)).map ci).length:=by rw[List.length_map,List.length_set];omega
  have hrow2:((l.set j (x+1)).map ci)[j]?=some (ci (x+1)):=by rw[List.getElem?_map,List.getElem?_set_self (by omega)];rfl
  have hlcm:j<(cards.map ci).length:=by rw[List.length_map];exact hlc
  have hcl:(cards.map ci)[j]?=some (ci c):=by rw[List.getElem?_map,hc];rfl
  simp only[sx,sy,SO.run,↓reduceIte,Nat.reduceEqDiff,h0,h6,h7,o2.rows,hlt2,hrow2,(r1 g2.h).ints,hcl,hlcm,ci,Option.isSome_some,Option.getD_some]
  refine bifP_mk (fun hq=>?_) (fun hq=>?_)
  ·simp only[sx,sy,SO.run,↓reduceIte,Nat.reduceEqDiff,h0,h6,h7]
   have hq:x+1<c:=by simpa using hq
   have:S.next cards vals=(l.set j (x+1),true):=by rw[hnx,S.nextFrom,hx,hc];simp[hq]
   rw[this]
   exact ⟨fun _=>True,_,_,rfl,o2.ints (by simp;omega),rp_bool.2 rfl⟩
  ·simp only[sx,sy,SO.run,↓reduceIte,Nat.reduceEqDiff,h0,h6,h7,o2.rows,hlt2,Option.isSome_some,Option.getD_some]
   have hq:¬x+1<c:=by simpa using hq
   refine store_own (row:=ci (x+1)) (row':=ci 0) o2 hrow2 rfl rfl rfl fun g3 o3 n3 f3=>?_
   rw[←List.map_set,List.set_set] at o3
   simp only[sx,sy,SO.run,↓reduceIte,Nat.reduceEqDiff,h0,h6,h7,St]
   refine ⟨l.set j 0,by simp[hll],fun y hy=>?_,?_,o3⟩
   ·rcases List.mem_or_eq_of_mem_set hy with h | h
    ·exact hbl y h
    ·subst h;decide
   ·rw[hnx,S.nextFrom,hx,hc];simp[hq]
 ·rintro t df g ⟨rfl,⟨h0,h6,-⟩,l,hll,hbl,hnx,ho⟩
  simp only[f_ref02_Next_k1,sx,sy,SO.run,↓reduceIte,Nat.reduceEqDiff,h6]
  rw[hnx,S.nextFrom]
  exact ⟨fun _=>True,_,_,rfl,ho.ints (by omega),rp_bool.2 rfl⟩
end
end Hx
end
section
namespace Hx
open Go
noncomputable section
def S.rank:List Int→List Int→Int
 | _::cs,v::vs=>v*S.prod cs+S.rank cs vs
 | _,_=>0
def S.combo (cards vals:List Int):Prop:=cards.length=vals.length∧∀(i:Nat)(c v:Int),cards[i]?=some c→vals[i]?=some v→0≤v∧v<c
theorem rank_set:∀{cards l:List Int}{k:Nat}{v:Int}(x:Int),cards.length=l.length→l[k]?=some v→S.rank cards (l.set k x)=S.rank cards l+(x - v)*S.prod (cards.drop (k+1))
 | [],[],k,v,x,_,h=>by simp at h
 | [],a::l,k,v,x,hl,_=>by simp at hl
 | c::cs,[],k,v,x,hl,_=>by simp at hl
 | c::cs,a::l,0,v,x,hl,h=>by
  injection h with h;subst h
  simp only[List.set_cons_zero,S.rank,List.drop_succ_cons,List.drop_zero]
  rw[Int.sub_mul];omega
 | c::cs,a::l,k+1,v,x,hl,h=>by
  simp only[List.set_cons_succ,S.rank,List.drop_succ_cons]
  rw[rank_set (cards:=cs) x (by simpa using hl) (by simpa using h),Int.add_assoc]
theorem combo_set {cards l:List Int}(h:S.combo cards l){k:Nat}{c x:Int}(hc:cards[k]?=some c)(h0:0≤x)(h1:x<c):S.combo cards (l.set k x):=by
 refine ⟨by simpa using h.1,fun i c' v hi hv=>?_⟩
 by_cases e:k=i
 ·subst e
  have hk:k<l.length:=by have:=(List.getElem?_eq_some_iff.1 hc).1;have:=h.1;omega
  rw[List.getElem?_set_self hk] at hv
  injection hv with hv;subst hv
  rw[hc] at hi;injection hi with hi;subst hi
  exact ⟨h0,h1⟩
 ·rw[List.getElem?_set_ne e] at hv
  exact h.2 i c' v hi hv
theorem rank_bound:∀{cards l:List Int},S.combo cards l→0≤S.rank cards l∧S.rank cards l<S.prod cards
 | [],[],_=>by simp[S.rank,S.prod]
 | [],a::l,h=>by have:=h.1;simp at this
 | c::cs,[],h=>by have:=h.1;simp at this
 | c::cs,a::l,h=>by
  have ih:=rank_bound (cards:=cs) (l:=l) ⟨by have:=h.1;simpa using this,fun i c v hc hv=>h.2 (i+1) c v (by simpa using hc) (by simpa using hv)⟩
  have ha:=h.2 0 c a rfl rfl
  simp only[S.rank,prod_cons]
  have m1:=Int.mul_nonneg ha.1 (show 0≤S.prod cs by omega)
  have m2:=Int.mul_le_mul_of_nonneg_right (show a+1≤c by omega) (show 0≤S.prod cs by omega)
  rw[Int.add_mul,Int.one_mul] at m2
  omega
theorem nextFrom_rank {cards:List Int}:∀{k:Nat}{l:List Int},S.combo cards l→k≤l.length→(S.nextFrom cards l k).2=true→S.rank cards (S.nextFrom cards l k).1=S.rank cards l+S.prod (cards.drop k)∧S.combo cards (S.nextFrom cards l k).1
 | 0,l,_,_,h=>by simp[S.nextFrom] at h
 | k+1,l,hco,hk,h=>by
  obtain ⟨v,hv⟩:∃v,l[k]?=some v:=⟨_,List.getElem?_eq_getElem (by omega)⟩
  obtain ⟨c,hc⟩:∃c,cards[k]?=some c:=⟨_,List.getElem?_eq_getElem (by have:=hco.1;omega)⟩
  have hb:=hco.2 k c v hc hv
  simp only[S.nextFrom,hv,hc,Option.getD_some] at h ⊢
  split
  ·rename_i hq
   refine ⟨?_,combo_set hco hc (by omega) hq⟩
   rw[rank_set (v+1) hco.1 hv,show v+1 - v=1 by omega,Int.one_mul]
  ·rename_i hq
   rw[if_neg hq] at h
   have hco2:=combo_set hco hc (show (0:Int)≤0 by omega) (show (0:Int)<c by omega)
   obtain ⟨r1,r2⟩:=nextFrom_rank hco2 (by simp;omega) h
   refine ⟨?_,r2⟩
   rw[r1,rank_set 0 hco.1 hv]
   have hd:cards.drop k=c::cards.drop (k+1):=by
    obtain ⟨hk2,e⟩:=List.getElem?_eq_some_iff.1 hc
    rw[←e];exact List.drop_eq_getElem_cons hk2
   have e:c=v+1:=by omega
   rw[hd,prod_cons,e,Int.add_mul,Int.one_mul,Int.sub_mul,Int.zero_mul]
   omega
theorem next_rank {cards l:List Int}(h:S.combo cards l)(hn:(S.next cards l).2=true):S.rank cards (S.next cards l).1=S.rank cards l+1∧S.combo cards (S.next cards l).1:=by
 obtain ⟨r1,r2⟩:=nextFrom_rank h (Nat.le_refl _) hn
 refine ⟨?_,r2⟩
 show S.rank cards (S.nextFrom cards l l.length).1=_
 rw[r1,←h.1,List.drop_length];rfl
end
end Hx
end
section
namespace Hx
open Go
noncomputable section
def S.allF (cards:List Int):Nat→List Int→List (List Int)
 | 0,_=>[]
 | f+1,v=>v::(if (S.next cards v).2 then S.allF cards f (S.next cards v).1 else [])
def S.all (cards:List Int):List (List Int):=S.allF cards (S.prod cards).toNat (List.replicate cards.length 0)
theorem combo_zero {cards:List Int}(h:∀c∈cards,1≤c):S.combo cards (List.replicate cards.length 0):=by
 refine ⟨by simp,fun i c v hc hv=>?_⟩
 rw[List.getElem?_replicate] at hv
 split at hv
 ·injection hv with hv;subst hv
  have:=h c (List.mem_of_getElem? hc)
  omega
 ·cases hv
theorem allF_combo {cards:List Int}:∀{f:Nat}{v:List Int},S.combo cards v→∀x∈S.allF cards f v,S.combo cards x
 | 0,v,h,x,hx=>by simp[S.allF] at hx
 | f+1,v,h,x,hx=>by
  simp only[S.allF,List.mem_cons] at hx
  rcases hx with rfl | hx
  ·exact h
  ·split at hx
   ·rename_i hn;exact allF_combo (next_rank h hn).2 x hx
   ·simp at hx
theorem all_combo {cards:List Int}(h:∀c∈cards,1≤c):∀x∈S.all cards,S.combo cards x:=allF_combo (combo_zero h)
theorem rank_zero:∀{cards:List Int},S.rank cards (List.replicate cards.length 0)=0
 | []=>rfl
 | c::cs=>by simp only[List.length_cons,List.replicate_succ,S.rank,Int.zero_mul,Int.zero_add,rank_zero]
theorem all_ok {d k:Nat}{g:G}{P:Nat→Prop}{v:AV}{cards:List Int}(hd:0<d)(hv:SlR P k g.h cards v)(hc:∀c∈cards,1≤c∧c<4294967296)(hn:cards.length≤64)(hp:S.prod cards<1048576) :
  ∃r,callV C0 d N.ref02_All [v] g=.val r∧One (S.all cards) NoP 0 .nil r:=by
 obtain ⟨v',e,r1⟩:=arg_sl hv d
 rw[call_ref02_All]
 refine iso_run eq_ref02_All (xs:=[v']) (by simp only[mapO,e]) (by simp[f_ref02_All]) (snb_one _) (by decide) hd ?_
 simp only[f_ref02_All,sx,sy,SO.run,↓reduceIte,Nat.reduceEqDiff,Nat.reduceAdd,(r1 .nil).len]
 refine mks_own (b:=0) (n:=cards.length) (by simp[room];omega) (by simp[room];omega) (by simp) fun w g1 hw n1 fr1 v1=>?_
 simp only[sx,sy,SO.run,↓reduceIte,Nat.reduceEqDiff]
 refine wpL_mk (fun n t df g=>df=[]∧tat t 0=v'∧∃u done,tat t 3=u∧OwnT g 0 0 u done ∧
   ((tat t 5=.bool false∧n=0∧S.all cards=done∧(done.length:Int)≤S.prod cards) ∨
    (tat t 5=.bool true∧∃(vals:List Int) (y:AV),tat t 4=y∧SlR (Els g 0 u) 0 g.h vals y∧S.combo cards vals∧n=(S.prod cards - S.rank cards vals).toNat∧(done.length:Int)=S.rank cards vals∧S.all cards=done++S.allF cards n vals)))
  (S.prod cards).toNat ⟨rfl,by simp[sx],.nils,[],by simp[sx],.nils,.inr ⟨by simp[sx],List.replicate cards.length 0,w,by simp[sx],?_,combo_zero (fun c h=>(hc c h).1),by rw[rank_zero];simp,by rw[rank_zero];rfl,rfl⟩⟩ ?_
 ·refine Own.sl (α:=Int) hw (by simp;omega) ?_ fun i hi=>⟨Nat.zero_le _,(hw.lt hi).2,by simp[vid]⟩
  have:=All2.repl (R:=Rp.rp (Els g1 0 .nils) 0 g1.h) (a:=(0:Int)) (b:=[AV.int .i64 0]) (rp_int.2 rfl) cards.length
  exact this
 ·rintro n t df g ⟨rfl,h0,u,done,h3,hu,⟨h5,rfl,hall,hdl⟩ | ⟨h5,vals,y,h4,hy,hco,hnn,hdl,hall⟩⟩
  ·simp only[f_ref02_All_b0,sx,sy,SO.run,↓reduceIte,Nat.reduceEqDiff,h5]
   simp only[f_ref02_All_k1,sx,sy,SO.run,↓reduceIte,Nat.reduceEqDiff,h3]
   rw[hall]
   exact ⟨_,u,rfl,hu.sl (by omega)⟩
  ·simp only[f_ref02_All_b0,sx,sy,SO.run,↓reduceIte,Nat.reduceEqDiff,h0,h3,h4,h5]
   have yc:y.cells=[y]∧y.isTup=false:=by
    have:=hy.2;unfold SlV at this
    split at this<;>first | exact ⟨rfl,rfl⟩ | exact this.elim
   have hrb:=rank_bound hco
   have hlen:vals.length=cards.length:=hco.1.symm
   rw[bsl_one 1 [.nils] y g (by rw[yc.1];rfl) yc.2,yc.1]
   simp only[sx,sy,SO.run,↓reduceIte,Nat.reduceEqDiff]
   have hy1:Rp.rp (Els (g.new (.cells 1 [[y]] 0 false false)) 0 u) 0 (g.new (.cells 1 [[y]] 0 false false)).h vals [y] :=
    Rp.mono (show Rp.rp (Els g 0 u) 0 g.h vals [y] from ⟨y,rfl,hy⟩) (fun i hi=>⟨⟨hi.1,by have:=hi.2.1;simp;omega,hi.2.2⟩,by have:=hi.2.1;rw[G.new_h,get_put_ne _ _ _ (by omega)]⟩) (Nat.le_refl _)
   refine append_ownT (α:=List Int) (b:=0) (k:=0) (l:=done) (y:=vals) (cs:=[y]) (hu.step (Fr.new _ _)) (by simp[sy,H.get_put,Rp.sz]) hy1 (Nat.zero_le _) (by simp[room];omega) fun v2 g2 hv2 n2 f2 vid2 lg2=>?_
   simp only[sx,sy,SO.run,↓reduceIte,Nat.reduceEqDiff,h0,h4]
   have hy2:Rp.rp (fun _=>True) 0 g2.h vals [y] :=
    Rp.mono hy1 (fun i hi=>⟨trivial,by rw[f2 i hi.2.1 hi.2.2]⟩) (Nat.le_refl _)
   obtain ⟨y',hyy,hy2⟩:=hy2
   injection hyy with hyy;subst hyy
   refine sat_ex (rnext_ok (Nat.succ_pos d) (r1 g2.h) hy2 (by omega) (by omega) fun x hx=>?_) fun r hr=>?_
   ·obtain ⟨i,hi,e⟩:=List.mem_iff_getElem.1 hx
    obtain ⟨c,hcc⟩:∃c,cards[i]?=some c:=⟨_,List.getElem?_eq_getElem (by omega)⟩
    have:=hco.2 i c x hcc (by rw[List.getElem?_eq_getElem hi,e])
    have:=hc c (List.mem_of_getElem? hcc)
    omega
   ·obtain ⟨ra,rb,rfl,hra,hrb2⟩:=hr
    obtain ⟨rw',e',hra⟩:=hra
    injection e' with e';subst e'
    have e'':=rp_bool.1 hrb2
    injection e'' with e''
    subst e''
    simp only[sx,sy,SO.run,↓reduceIte,Nat.reduceEqDiff]
    obtain ⟨f,hf⟩:∃f,n=f+1:=⟨n - 1,by omega⟩
    rw[hf,S.allF] at hall
    cases hnx:(S.next cards vals).2 with
    | false =>
     rw[hnx,if_neg (by decide)] at hall
     refine ⟨0,by omega,h0,v2,done++[vals],rfl,hv2,.inl ⟨rfl,rfl,hall,by simp;omega⟩⟩
    | true =>
     rw[hnx,if_pos rfl] at hall
     obtain ⟨k1,k2⟩:=next_rank hco hnx
     refine ⟨f,by omega,h0,v2,done++[vals],rfl,hv2,.inr ⟨rfl,_,_,rfl,?_,k2,by omega,by simp;omega,by rw[hall,List.append_assoc];rfl⟩⟩
     have:=Rp.mono (P':=Els g2 0 v2) (h':=g2.h) (show Rp.rp NoP 0 .nil (S.next cards vals).1 [ra] from ⟨ra,rfl,hra⟩) (fun i hi=>hi.elim) (Nat.le_refl 0)
     obtain ⟨z,ez,q⟩:=this
     injection ez with ez;subst ez;exact q
end
end Hx
end
section
namespace Hx
open Go
noncomputable section
theorem listed_ok {d:Nat}{g:G}{l:AV}{us:List UInt8}{K:AV→G→Prop}{D:ADf→Prop}(hl:SlR NoP 0 .nil us l)
  (kk:∀g',g'.h.get g.nx=.cells 2 [[l,.int .i64 0]] 0 false false→g'.nx=g.nx+1→FrW g.nx g g'→K (.hptr g.nx 0 0 0) g') :
  (callV C0 d N.ref33_listed [l] g).sat K g D:=by
 have lc:l.cells=[l]∧l.isTup=false:=by
  have:=hl.2;unfold SlV at this
  split at this<;>first | exact ⟨rfl,rfl⟩ | exact this.elim
 rw[call_ref33_listed]
 refine dir_run eq_ref33_listed (by simp[f_ref33_listed]) ?_
 simp only[f_ref33_listed,sx,sy,SO.run,↓reduceIte,Nat.reduceEqDiff,Nat.reduceAdd,Nat.reduceLeDiff,lc.1,lc.2]
 refine kk _ ?_ ?_ ?_
 ·simp[H.get_put]
 ·simp
 ·exact FrW.new _ (Nat.le_refl _)
end
end Hx
end
section
namespace Hx
open Go
noncomputable section
abbrev Piece:Type:=UInt8×UInt8×UInt8×List UInt8
abbrev DraftM:Type:=UInt8×List Piece×List (UInt8×UInt8)×List UInt8×List UInt8
abbrev BendM:Type:=UInt8×UInt8×UInt8×Int
theorem rp_piece {P:Nat→Prop}{k:Nat}{h:H}{x:Piece}{cs:List AV}:Rp.rp P k h x cs↔∃a,cs=[u8v x.1,u8v x.2.1,u8v x.2.2.1,a]∧SlR P k h x.2.2.2 a:=by
 constructor
 ·rintro ⟨c1,c2,rfl,h1,c3,c4,rfl,h2,c5,c6,rfl,h3,⟨a,rfl,h4⟩⟩
  rw[rp_u8.1 h1,rp_u8.1 h2,rp_u8.1 h3];exact ⟨a,rfl,h4⟩
 ·rintro ⟨a,rfl,h4⟩
  exact ⟨[_],[_,_,a],rfl,rp_u8.2 rfl,[_],[_,a],rfl,rp_u8.2 rfl,[_],[a],rfl,rp_u8.2 rfl,⟨a,rfl,h4⟩⟩
theorem rp_two {P:Nat→Prop}{k:Nat}{h:H}{x:UInt8×UInt8}{cs:List AV}:Rp.rp P k h x cs↔cs=[u8v x.1,u8v x.2]:=by
 constructor
 ·rintro ⟨c1,c2,rfl,h1,h2⟩
  rw[rp_u8.1 h1,rp_u8.1 h2];rfl
 ·rintro rfl
  exact ⟨[_],[_],rfl,rp_u8.2 rfl,rp_u8.2 rfl⟩
theorem rp_draftM {P:Nat→Prop}{k:Nat}{h:H}{x:DraftM}{cs:List AV}:Rp.rp P k h x cs↔∃a b c e,cs=[u8v x.1,a,b,c,e]∧SlR P k h x.2.1 a∧SlR P k h x.2.2.1 b∧SlR P k h x.2.2.2.1 c∧SlR P k h x.2.2.2.2 e:=by
 constructor
 ·rintro ⟨c1,c2,rfl,h1,c3,c4,rfl,⟨a,rfl,ha⟩,c5,c6,rfl,⟨b,rfl,hb⟩,c7,c8,rfl,⟨c,rfl,hc⟩,⟨e,rfl,he⟩⟩
  rw[rp_u8.1 h1];exact ⟨a,b,c,e,rfl,ha,hb,hc,he⟩
 ·rintro ⟨a,b,c,e,rfl,ha,hb,hc,he⟩
  exact ⟨[_],[a,b,c,e],rfl,rp_u8.2 rfl,[a],[b,c,e],rfl,⟨a,rfl,ha⟩,[b],[c,e],rfl,⟨b,rfl,hb⟩,[c],[e],rfl,⟨c,rfl,hc⟩,⟨e,rfl,he⟩⟩
theorem rp_bendM {P:Nat→Prop}{k:Nat}{h:H}{x:BendM}{cs:List AV}:Rp.rp P k h x cs↔cs=[u8v x.1,u8v x.2.1,u8v x.2.2.1,.int .i64 x.2.2.2]:=by
 constructor
 ·rintro ⟨c1,c2,rfl,h1,c3,c4,rfl,h2,c5,c6,rfl,h3,h4⟩
  rw[rp_u8.1 h1,rp_u8.1 h2,rp_u8.1 h3,rp_int.1 h4];rfl
 ·rintro rfl
  exact ⟨[_],[_,_,_],rfl,rp_u8.2 rfl,[_],[_,_],rfl,rp_u8.2 rfl,[_],[_],rfl,rp_u8.2 rfl,rp_int.2 rfl⟩
end
end Hx
end
section
namespace Hx
open Go
noncomputable section
def updf {α:Type}(f:Nat→α)(k:Nat)(x:α):Nat→α:=fun j=>if j=k then x else f j
theorem updf_self {α:Type}(f:Nat→α)(k:Nat)(x:α):updf f k x k=x:=if_pos rfl
theorem updf_ne {α:Type}(f:Nat→α){k j:Nat}(x:α)(h:j≠k):updf f k x j=f j:=if_neg h
def Fam (g:G)(b K:Nat)(V:Nat→AV)(W:Nat→List (List AV)):Prop :=
 (∀k,k<K→Own g b (V k) 1 (W k))∧∀k l,k<K→l<K→k≠l→∀id,vid (V k)=some id→vid (V l)≠some id
theorem Fam.step {g g':G}{b K:Nat}{V:Nat→AV}{W:Nat→List (List AV)}(h:Fam g b K V W)(hn:g.nx≤g'.nx)(hf:∀i,b≤i→i<g.nx→g'.h.get i=g.h.get i):Fam g' b K V W :=
 ⟨fun k hk=>(h.1 k hk).fr hn fun i hi=>hf i ((h.1 k hk).lt hi).1 ((h.1 k hk).lt hi).2,h.2⟩
theorem Fam.set {g g':G}{b K:Nat}{V:Nat→AV}{W:Nat→List (List AV)}(h:Fam g b K V W){k:Nat}{v':AV}{rows':List (List AV)}(ho:Own g' b v' 1 rows')(hn:g.nx≤g'.nx)
  (hf:∀i,b≤i→i<g.nx→vid (V k)≠some i→g'.h.get i=g.h.get i) (hk:k<K) (hv:vid v'=vid (V k)∨∃i,vid v'=some i∧g.nx≤i):Fam g' b K (updf V k v') (updf W k rows'):=by
 refine ⟨fun j hj=>?_,fun j l hj hl hne id e1 e2=>?_⟩
 ·by_cases e:j=k
  ·subst e;rw[updf_self,updf_self];exact ho
  ·rw[updf_ne _ _ e,updf_ne _ _ e]
   exact (h.1 j hj).fr hn fun i hi=>hf i ((h.1 j hj).lt hi).1 ((h.1 j hj).lt hi).2 fun e2=>h.2 j k hj hk e i hi e2
 ·have key:∀j,j<K→j≠k→∀id,vid (V j)=some id→vid v'≠some id:=fun j hj hne id e1 e2=>by
   rcases hv with hv | ⟨i,hv,hi⟩
   ·exact h.2 j k hj hk hne id e1 (hv ▸ e2)
   ·rw[hv] at e2;injection e2 with e2;have:=((h.1 j hj).lt e1).2;omega
  by_cases a:j=k
  ·subst a
   rw[updf_self] at e1
   rw[updf_ne _ _ (Ne.symm hne)] at e2
   exact key l hl (Ne.symm hne) id e2 e1
  ·rw[updf_ne _ _ a] at e1
   by_cases c:l=k
   ·subst c;rw[updf_self] at e2;exact key j hj a id e1 e2
   ·rw[updf_ne _ _ c] at e2;exact h.2 j l hj hl hne id e1 e2
def rowN (c:Nat→Int)(V:Nat→AV)(i:Nat):List AV:=[.int .i64 (c i),V (3*i+1),V (3*i+2),V (3*i+3)]
def rowsN (n:Nat)(c:Nat→Int)(V:Nat→AV):List (List AV):=(List.range n).map (rowN c V)
theorem rowsN_len (n:Nat)(c:Nat→Int)(V:Nat→AV):(rowsN n c V).length=n:=by simp[rowsN]
theorem rowsN_get {n:Nat}(c:Nat→Int)(V:Nat→AV){i:Nat}(h:i<n):(rowsN n c V)[i]?=some (rowN c V i):=by simp[rowsN,h]
theorem rowsN_set {n:Nat}{c c':Nat→Int}{V V':Nat→AV}{i:Nat}{row:List AV}(hr:row=rowN c' V' i)(h:∀j,j≠i→rowN c' V' j=rowN c V j):(rowsN n c V).set i row=rowsN n c' V':=by
 apply List.ext_getElem?
 intro j
 by_cases e:i=j
 ·subst e
  by_cases hi:i<n
  ·rw[List.getElem?_set_self (by rw[rowsN_len];exact hi),rowsN_get _ _ hi,hr]
  ·rw[List.getElem?_eq_none (by simp[rowsN];omega),List.getElem?_eq_none (by simp[rowsN];omega)]
 ·rw[List.getElem?_set_ne e]
  by_cases hj:j<n
  ·rw[rowsN_get _ _ hj,rowsN_get _ _ hj,h j (Ne.symm e)]
  ·rw[List.getElem?_eq_none (by simp[rowsN];omega),List.getElem?_eq_none (by simp[rowsN];omega)]
theorem rowN_ne {c:Nat→Int}{V:Nat→AV}{i j f:Nat}{v:AV}(hf:1≤f∧f≤3)(h:j≠i):rowN c (updf V (3*i+f) v) j=rowN c V j:=by
 unfold rowN
 rw[updf_ne V _ (show 3*j+1≠3*i+f by omega),updf_ne V _ (show 3*j+2≠3*i+f by omega),updf_ne V _ (show 3*j+3≠3*i+f by omega)]
structure ME where
 (n p4 q i5 p7 i9 b:Nat)
 (nv w5 w9 e7:AV)
 (gr:Int)
 (row0:List AV)
 (prow:List (List AV))
 (us:List UInt8)
structure ME.Ok (e:ME):Prop where
 ord:1<e.q∧e.q<e.p4∧e.p4<e.i5∧e.i5<e.p7∧e.p7<e.i9∧e.i9<e.b
 n1:1≤e.n∧e.n≤4
 g1:2≤e.gr∧e.gr≤12
 vn:vid e.nv=some e.q
 v5:vid e.w5=some e.i5
 v9:vid e.w9=some e.i9
 l7:SlR NoP 0 .nil e.us e.e7
structure MI (e:ME) (g:G) (V:Nat→AV) (W:Nat→List (List AV)) (c:Nat→Int) (ow:List Bool) (cap:Nat):Prop where
 h0:g.h.get 0=.cells 5 [e.row0] 0 false false
 h1:g.h.get 1=.cells 3 [[.int .i64 0,.nils,.nils]] 0 false false
 hN:Own g 0 e.nv 4 (rowsN e.n c V)
 h4:g.h.get e.p4=.cells 3 [[.int .i64 e.gr,V 0,e.nv]] 0 false false
 h5:Own g 0 e.w5 4 e.prow
 h7:∃cc:Int,0≤cc∧cc≤(cap:Int)∧g.h.get e.p7=.cells 2 [[e.e7,.int .i64 cc]] 0 false false
 h9:Own g 0 e.w9 1 (ow.map fun x=>[.bool x])
 fam:Fam g e.b (3*e.n+1) V W
 nx:e.b≤g.nx
section
variable {e:ME}{g g':G}{V:Nat→AV}{W:Nat→List (List AV)}{c:Nat→Int}{ow:List Bool}{cap:Nat}
theorem vid_inj {v:AV}{i j:Nat}(h:vid v=some i)(h':vid v=some j):i=j:=by rw[h] at h';injection h'
theorem MI.step (h:MI e g V W c ow cap)(he:e.Ok)(hn:g.nx≤g'.nx)(hf:∀i,i<g.nx→g'.h.get i=g.h.get i):MI e g' V W c ow cap:=by
 have hb:=h.nx
 have ho:=he.ord
 exact { h0:=by rw[hf 0 (by omega),h.h0],h1:=by rw[hf 1 (by omega),h.h1],hN:=h.hN.fr hn fun i hi=>hf i (h.hN.lt hi).2,h4:=by rw[hf _ (by omega),h.h4]
         h5:=h.h5.fr hn fun i hi=>hf i (h.h5.lt hi).2,h7:=by obtain ⟨cc,a1,a2,a3⟩:=h.h7;exact ⟨cc,a1,a2,by rw[hf _ (by omega),a3]⟩
         h9:=h.h9.fr hn fun i hi=>hf i (h.h9.lt hi).2,fam:=h.fam.step hn fun i _ hi=>hf i hi,nx:=by omega }
theorem MI.same (h:MI e g V W c ow cap)(he:e.Ok)(hf:g'.h=g.h)(hn:g.nx≤g'.nx):MI e g' V W c ow cap:=h.step he hn fun i _=>by rw[hf]
structure MP (e:ME) (g:G) (V V':Nat→AV) (W:Nat→List (List AV)) (c:Nat→Int) (ow:List Bool) (cap:Nat):Prop where
 h0:g.h.get 0=.cells 5 [e.row0] 0 false false
 h1:g.h.get 1=.cells 3 [[.int .i64 0,.nils,.nils]] 0 false false
 hN:Own g 0 e.nv 4 (rowsN e.n c V)
 h4:g.h.get e.p4=.cells 3 [[.int .i64 e.gr,V 0,e.nv]] 0 false false
 h5:Own g 0 e.w5 4 e.prow
 h7:∃cc:Int,0≤cc∧cc≤(cap:Int)∧g.h.get e.p7=.cells 2 [[e.e7,.int .i64 cc]] 0 false false
 h9:Own g 0 e.w9 1 (ow.map fun x=>[.bool x])
 fam:Fam g e.b (3*e.n+1) V' W
 nx:e.b≤g.nx
theorem MI.grow (h:MI e g V W c ow cap)(he:e.Ok){k:Nat}(hk:k<3*e.n+1){v':AV}{rows':List (List AV)}(ho:Own g' e.b v' 1 rows')(hn:g.nx≤g'.nx)
  (hf:∀i,i<g.nx→vid (V k)≠some i→g'.h.get i=g.h.get i) (hv:vid v'=vid (V k)∨∃i,vid v'=some i∧g.nx≤i):MP e g' V (updf V k v') (updf W k rows') c ow cap:=by
 have hb:=h.nx
 have hoo:=he.ord
 have hf':∀i,i<e.b→g'.h.get i=g.h.get i:=fun i hi=>hf i (by omega) fun e2=>by have:=((h.fam.1 k hk).lt e2).1;omega
 exact { h0:=by rw[hf' 0 (by omega),h.h0],h1:=by rw[hf' 1 (by omega),h.h1],hN:=h.hN.fr hn fun i hi=>hf' i (by have:=vid_inj he.vn hi;omega),h4:=by rw[hf' _ (by omega),h.h4]
         h5:=h.h5.fr hn fun i hi=>hf' i (by have:=vid_inj he.v5 hi;omega),h7:=by obtain ⟨cc,a1,a2,a3⟩:=h.h7;exact ⟨cc,a1,a2,by rw[hf' _ (by omega),a3]⟩
         h9:=h.h9.fr hn fun i hi=>hf' i (by have:=vid_inj he.v9 hi;omega),fam:=h.fam.set ho hn (fun i _ hi=>hf i hi) hk hv,nx:=by omega }
theorem MP.step {V':Nat→AV}(h:MP e g V V' W c ow cap)(he:e.Ok)(hn:g.nx≤g'.nx)(hf:∀i,i<g.nx→g'.h.get i=g.h.get i):MP e g' V V' W c ow cap:=by
 have hb:=h.nx
 have ho:=he.ord
 exact { h0:=by rw[hf 0 (by omega),h.h0],h1:=by rw[hf 1 (by omega),h.h1],hN:=h.hN.fr hn fun i hi=>hf i (h.hN.lt hi).2,h4:=by rw[hf _ (by omega),h.h4]
         h5:=h.h5.fr hn fun i hi=>hf i (h.h5.lt hi).2,h7:=by obtain ⟨cc,a1,a2,a3⟩:=h.h7;exact ⟨cc,a1,a2,by rw[hf _ (by omega),a3]⟩
         h9:=h.h9.fr hn fun i hi=>hf i (h.h9.lt hi).2,fam:=h.fam.step hn fun i _ hi=>hf i hi,nx:=by omega }
theorem MP.same {V':Nat→AV}(h:MP e g V V' W c ow cap)(he:e.Ok)(hf:g'.h=g.h)(hn:g.nx≤g'.nx):MP e g' V V' W c ow cap:=h.step he hn fun i _=>by rw[hf]
theorem MP.node {V':Nat→AV}{c':Nat→Int}(h:MP e g V V' W c ow cap)(he:e.Ok)(hN:Own g' 0 e.nv 4 (rowsN e.n c' V'))(h0:V' 0=V 0)(hn:g.nx≤g'.nx)
  (hf:∀i,vid e.nv≠some i→g'.h.get i=g.h.get i):MI e g' V' W c' ow cap:=by
 have ho:=he.ord
 have hb:=h.nx
 have hf':∀i,i≠e.q→g'.h.get i=g.h.get i:=fun i hi=>hf i (by rw[he.vn];intro e;injection e with e;exact hi e.symm)
 exact { h0:=by rw[hf' 0 (by omega),h.h0],h1:=by rw[hf' 1 (by omega),h.h1],hN:=hN,h4:=by rw[hf' _ (by omega),h.h4,h0]
         h5:=h.h5.fr (by omega) fun i hi=>hf' i (by have:=vid_inj he.v5 hi;omega),h7:=by obtain ⟨cc,a1,a2,a3⟩:=h.h7;exact ⟨cc,a1,a2,by rw[hf' _ (by omega),a3]⟩
         h9:=h.h9.fr (by omega) fun i hi=>hf' i (by have:=vid_inj he.v9 hi;omega),fam:=h.fam.step (by omega) fun i hi _=>hf' i (by omega),nx:=by omega }
theorem MP.root {v':AV}(h:MP e g V (updf V 0 v') W c ow cap)(he:e.Ok)(h4:g'.h.get e.p4=.cells 3 [[.int .i64 e.gr,v',e.nv]] 0 false false)(hn:g.nx≤g'.nx)
  (hf:∀i,i≠e.p4→g'.h.get i=g.h.get i):MI e g' (updf V 0 v') W c ow cap:=by
 have ho:=he.ord
 have hb:=h.nx
 exact { h0:=by rw[hf 0 (by omega),h.h0],h1:=by rw[hf 1 (by omega),h.h1]
         hN:=by
          have:rowsN e.n c (updf V 0 v')=rowsN e.n c V:=by
           unfold rowsN
           exact List.map_congr_left fun i _=>by unfold rowN;rw[updf_ne _ _ (by omega),updf_ne _ _ (by omega),updf_ne _ _ (by omega)]
          rw[this]
          exact h.hN.fr (by omega) fun i hi=>hf i (by have:=vid_inj he.vn hi;omega)
         h4:=by rw[h4,updf_self]
         h5:=h.h5.fr (by omega) fun i hi=>hf i (by have:=vid_inj he.v5 hi;omega),h7:=by obtain ⟨cc,a1,a2,a3⟩:=h.h7;exact ⟨cc,a1,a2,by rw[hf _ (by omega),a3]⟩
         h9:=h.h9.fr (by omega) fun i hi=>hf i (by have:=vid_inj he.v9 hi;omega),fam:=h.fam.step (by omega) fun i hi _=>hf i (by omega),nx:=by omega }
theorem MI.num (h:MI e g V W c ow cap)(he:e.Ok){cc:Int}(h1:0≤cc)(h2:cc≤((cap+1:Nat):Int))(h7:g'.h.get e.p7=.cells 2 [[e.e7,.int .i64 cc]] 0 false false)(hn:g.nx≤g'.nx)
  (hf:∀i,i≠e.p7→g'.h.get i=g.h.get i):MI e g' V W c ow (cap+1):=by
 have ho:=he.ord
 have hb:=h.nx
 exact { h0:=by rw[hf 0 (by omega),h.h0],h1:=by rw[hf 1 (by omega),h.h1],hN:=h.hN.fr (by omega) fun i hi=>hf i (by have:=vid_inj he.vn hi;omega),h4:=by rw[hf _ (by omega),h.h4]
         h5:=h.h5.fr (by omega) fun i hi=>hf i (by have:=vid_inj he.v5 hi;omega),h7:=⟨cc,h1,h2,h7⟩
         h9:=h.h9.fr (by omega) fun i hi=>hf i (by have:=vid_inj he.v9 hi;omega),fam:=h.fam.step (by omega) fun i hi _=>hf i (by omega),nx:=by omega }
theorem MI.own (h:MI e g V W c ow cap)(he:e.Ok){ow':List Bool}(h9:Own g' 0 e.w9 1 (ow'.map fun x=>[.bool x]))(hn:g.nx≤g'.nx)
  (hf:∀i,vid e.w9≠some i→g'.h.get i=g.h.get i):MI e g' V W c ow' cap:=by
 have ho:=he.ord
 have hb:=h.nx
 have hf':∀i,i≠e.i9→g'.h.get i=g.h.get i:=fun i hi=>hf i (by rw[he.v9];intro e;injection e with e;exact hi e.symm)
 exact { h0:=by rw[hf' 0 (by omega),h.h0],h1:=by rw[hf' 1 (by omega),h.h1],hN:=h.hN.fr (by omega) fun i hi=>hf' i (by have:=vid_inj he.vn hi;omega),h4:=by rw[hf' _ (by omega),h.h4]
         h5:=h.h5.fr (by omega) fun i hi=>hf' i (by have:=vid_inj he.v5 hi;omega),h7:=by obtain ⟨cc,a1,a2,a3⟩:=h.h7;exact ⟨cc,a1,a2,by rw[hf' _ (by omega),a3]⟩
         h9:=h9,fam:=h.fam.step (by omega) fun i hi _=>hf' i (by omega),nx:=by omega }
theorem refs_vid {g:G}{b sz:Nat}{v:AV}{rows:List (List AV)}(h:Own g b v sz rows):refIds v=match vid v with | some i=>[i] | none=>[]:=by
 rcases h with ⟨rfl,-⟩ | ⟨id,ep,lo,h1,h2,rfl,h3⟩<;>rfl
theorem Own.refs_lt {g:G}{b sz:Nat}{v:AV}{rows:List (List AV)}(h:Own g b v sz rows):∀i∈refIds v,b≤i∧i<g.nx:=by
 rw[refs_vid h]
 intro i hi
 split at hi
 ·rename_i j hj;simp at hi;subst hi;exact h.lt hj
 ·simp at hi
theorem refs_some {g:G}{b sz i:Nat}{v:AV}{rows:List (List AV)}(h:Own g b v sz rows)(hv:vid v=some i):refIds v=[i]:=by rw[refs_vid h,hv]
theorem rowy_vid {v:AV}{i:Nat}(h:vid v=some i):rowy v=true:=by cases v<;>first | rfl | cases h
end
end
end Hx
end
section
namespace Hx
open Go
noncomputable section
theorem placeAt_snoc {l:List Int}{y n:Int}{i:Nat}(h:i<l.length):S.placeAt (l++[y]) n i=S.placeAt l n i:=by
 have e:∀j,j<l.length→(l++[y])[j]?=l[j]?:=fun j hj=>List.getElem?_append_left hj
 unfold S.placeAt
 rw[e i h]
 by_cases h0:i=0
 ·subst h0;rfl
 ·rw[e (i - 1) (by omega)]
theorem placeAt_mono {l:List Int}{n m:Int}{i:Nat}(h:S.placeAt l n i=true)(hm:n≤m):S.placeAt l m i=true:=by
 simp only[S.placeAt,Bool.and_eq_true,decide_eq_true_eq] at h ⊢
 exact ⟨⟨h.1.1,by omega⟩,h.2⟩
theorem places_mono {l:List Int}{n m:Int}(h:S.places l n=true)(hm:n≤m):S.places l m=true:=by
 simp only[S.places,List.all_eq_true] at h ⊢
 exact fun i hi=>placeAt_mono (h i hi) hm
theorem places_snoc {l:List Int}{y n m:Int}(h:S.places l n=true)(hy:∀x∈l,x<y)(h0:0≤y)(h1:y<m)(hm:n≤m):S.places (l++[y]) m=true:=by
 have h:=places_mono h hm
 simp only[S.places,List.length_append,List.length_singleton] at h ⊢
 rw[all_range_succ,Bool.and_eq_true]
 refine ⟨?_,?_⟩
 ·simp only[List.all_eq_true,List.mem_range] at h ⊢
  intro i hi
  rw[placeAt_snoc hi];exact h i hi
 ·have e:(l++[y])[l.length]?=some y:=by simp
  simp only[S.placeAt,e,Option.getD_some,Bool.and_eq_true,decide_eq_true_eq,Bool.or_eq_true,beq_iff_eq]
  refine ⟨⟨h0,h1⟩,?_⟩
  by_cases hl:l.length=0
  ·exact .inl hl
  ·right
   have e2:(l++[y])[l.length - 1]?=some (l[l.length - 1]'(by omega)):=by
    rw[List.getElem?_append_left (by omega),List.getElem?_eq_getElem (by omega)]
   rw[e2,Option.getD_some]
   exact hy _ (List.getElem_mem _)
structure MD (e:ME) (W:Nat→List (List AV)) (R:List (List Int)) (F N O:Nat→List Int):Prop where
 r:All2 (Rp.rp NoP 0 .nil) R (W 0)
 f:∀i,i<e.n→W (3*i+1)=(F i).map ci
 n:∀i,i<e.n→W (3*i+2)=(N i).map ci
 o:∀i,i<e.n→W (3*i+3)=(O i).map ci
theorem MD.setF {e:ME}{W:Nat→List (List AV)}{R:List (List Int)}{F N O:Nat→List Int}(h:MD e W R F N O)(i:Nat)(l:List Int):MD e (updf W (3*i+1) (l.map ci)) R (updf F i l) N O where
 r:=by rw[updf_ne _ _ (by omega)];exact h.r
 f:=fun j hj=>by
  by_cases e:j=i
  ·subst e;rw[updf_self,updf_self]
  ·rw[updf_ne _ _ (by omega),updf_ne _ _ e];exact h.f j hj
 n:=fun j hj=>by rw[updf_ne _ _ (by omega)];exact h.n j hj
 o:=fun j hj=>by rw[updf_ne _ _ (by omega)];exact h.o j hj
theorem MD.setN {e:ME}{W:Nat→List (List AV)}{R:List (List Int)}{F N O:Nat→List Int}(h:MD e W R F N O)(i:Nat)(l:List Int):MD e (updf W (3*i+2) (l.map ci)) R F (updf N i l) O where
 r:=by rw[updf_ne _ _ (by omega)];exact h.r
 n:=fun j hj=>by
  by_cases e:j=i
  ·subst e;rw[updf_self,updf_self]
  ·rw[updf_ne _ _ (by omega),updf_ne _ _ e];exact h.n j hj
 f:=fun j hj=>by rw[updf_ne _ _ (by omega)];exact h.f j hj
 o:=fun j hj=>by rw[updf_ne _ _ (by omega)];exact h.o j hj
theorem MD.setO {e:ME}{W:Nat→List (List AV)}{R:List (List Int)}{F N O:Nat→List Int}(h:MD e W R F N O)(i:Nat)(l:List Int):MD e (updf W (3*i+3) (l.map ci)) R F N (updf O i l) where
 r:=by rw[updf_ne _ _ (by omega)];exact h.r
 o:=fun j hj=>by
  by_cases e:j=i
  ·subst e;rw[updf_self,updf_self]
  ·rw[updf_ne _ _ (by omega),updf_ne _ _ e];exact h.o j hj
 f:=fun j hj=>by rw[updf_ne _ _ (by omega)];exact h.f j hj
 n:=fun j hj=>by rw[updf_ne _ _ (by omega)];exact h.n j hj
theorem MD.setR {e:ME}{W:Nat→List (List AV)}{R:List (List Int)}{F N O:Nat→List Int}(h:MD e W R F N O){x:List Int}{cs:List AV}(hx:Rp.rp NoP 0 .nil x cs):MD e (updf W 0 (W 0++[cs])) (R++[x]) F N O where
 r:=by rw[updf_self];exact h.r.append ⟨hx,trivial⟩
 o:=fun j hj=>by rw[updf_ne _ _ (by omega)];exact h.o j hj
 f:=fun j hj=>by rw[updf_ne _ _ (by omega)];exact h.f j hj
 n:=fun j hj=>by rw[updf_ne _ _ (by omega)];exact h.n j hj
theorem MD.len {e:ME}{W:Nat→List (List AV)}{R:List (List Int)}{F N O:Nat→List Int}(h:MD e W R F N O):(W 0).length=R.length:=h.r.len.symm
structure MF (e:ME) (c:Nat→Int) (R:List (List Int)) (N:Nat→List Int):Prop where
 card:∀i,i<e.n→c i=2∨c i=3
 roots:∀r∈R,∃q z:Int,(q=2∨q=3)∧0≤z∧z<256∧r=S.weights e.gr q z
 inc:∀i,i<e.n→S.places (N i) R.length=true
theorem MF.root {e:ME}{c:Nat→Int}{R:List (List Int)}{N:Nat→List Int}(h:MF e c R N){q z:Int}(hq:q=2∨q=3)(h0:0≤z)(h1:z<256):MF e c (R++[S.weights e.gr q z]) N where
 card:=h.card
 roots:=fun r hr=>by
  rcases List.mem_append.1 hr with hr | hr
  ·exact h.roots r hr
  ·simp at hr;exact ⟨q,z,hq,h0,h1,hr⟩
 inc:=fun i hi=>places_mono (h.inc i hi) (by simp;omega)
theorem MF.both {e:ME}{c:Nat→Int}{R:List (List Int)}{N:Nat→List Int}(h:MF e c R N){q z:Int}(hq:q=2∨q=3)(h0:0≤z)(h1:z<256){N':Nat→List Int}
  (hN:∀i,i<e.n→N' i=N i∨N' i=[(R.length:Int)]∨N' i=N i++[(R.length:Int)]):MF e c (R++[S.weights e.gr q z]) N' where
 card:=h.card
 roots:=(h.root (q:=q) hq h0 h1).roots
 inc:=fun i hi=>by
  have hm:=fun x hx=>(places_mem (h.inc i hi) x hx).2
  rcases hN i hi with ee | ee | ee<;>rw[ee]
  ·exact places_mono (h.inc i hi) (by simp;omega)
  ·exact places_snoc (l:=[]) (n:=0) (y:=(R.length:Int)) (m:=((R++[S.weights e.gr q z]).length:Int)) rfl (by simp) (by omega) (by simp;omega) (by simp;omega)
  ·exact places_snoc (h.inc i hi) hm (by omega) (by simp;omega) (by simp;omega)
def MSt (e:ME)(r6:AV)(t:T):Prop :=
 St t [(1,.hptr 0 0 0 0),(2,.hptr 1 0 0 0),(3,.int .i64 (e.n:Int)),(4,.hptr e.p4 0 0 0),(5,e.w5),(6,r6),(7,.hptr e.p7 0 0 0),(9,e.w9)]
def MPr (e:ME):Prop:=e.prow.length=e.n∧∀i,i<e.n→∃(y:Piece)(oa:AV),e.prow[i]?=some [u8v y.1,u8v y.2.1,u8v y.2.2.1,oa]∧SlR NoP 0 .nil y.2.2.2 oa
theorem apart_call {x y:Foot}(hx:x.wr=[])(hb:x.lk.big=false)(hs:x.lk.sr=[])(h3:∀i∈y.wr,∀j∈x.lk.rd,i≠j):footsApart x y=true:=by
 have m3:=meets_none h3
 have m5:∀l:List Nat,meets l []=false:=fun l=>by simp[meets]
 simp only[footsApart,footFree,footFreeS,hx,hb,hs,m3,m5,fst1,List.map_nil,Bool.not_false,Bool.and_self,Bool.and_true,Bool.true_or]
 split<;>rfl
end
end Hx
end
section
namespace Hx
open Go
noncomputable section
theorem own_one {g:G}{b:Nat}(hb:b≤g.nx)(cs:List AV):Own (g.new (.cells 1 [cs] 0 false false)) b (.hsl g.nx 0 0 1 none) 1 [cs] :=
 .inr ⟨g.nx,0,false,hb,by simp,rfl,by simp[get_put_eq]⟩
theorem m_b2 {d:Nat}{e:ME}{r6:AV}{Q:QT}(hd:0<d)(he:e.Ok)(hpr:MPr e){t:T}{g:G}{V:Nat→AV}{W:Nat→List (List AV)}{c:Nat→Int}(ht:MSt e r6 t)(h10:tat t 10=.int .i64 0)
  (hI:MI e g V W c (List.replicate e.n false) 0) (hD:MD e W [] (fun _=>[]) (fun _=>[]) (fun _=>[])) (hc:∀i,i<e.n→c i=2∨c i=3)
  (fin:∀t g V W ow R N,MSt e r6 t→MI e g V W c ow R.length→MD e W R (fun _=>[]) N (fun _=>[])→MF e c R N→ow.length=e.n→(∀i,i<e.n→ow[i]?=some true→N i≠[])→R.length≤4→(∀i,(N i).length≤1)→Q (.exit 2) t [] g) :
  wpL (wp C0 d none f_ref33_Draft_Model_b2) Q t [] g:=by
 have hoo:=he.ord
 have hn1:=he.n1
 have hg1:=he.g1
 simp only[f_ref33_Draft_Model_b2,f_ref33_Draft_Model_k1]
 refine wpL_cnt e.n (by omega) (fun j t df g=>df=[]∧MSt e r6 t∧∃V W ow R N,MI e g V W c ow R.length∧MD e W R (fun _=>[]) N (fun _=>[])∧MF e c R N∧ow.length=e.n∧(∀i,i<e.n→ow[i]?=some true→N i≠[])∧R.length≤j∧∀i,(N i).length≤1)
  ⟨rfl,ht,V,W,_,[],fun _=>[],hI,hD,⟨hc,by simp,fun i hi=>rfl⟩,by simp,fun i hi h=>by rw[List.getElem?_replicate] at h;split at h<;>simp at h,Nat.le_refl _,fun i=>Nat.zero_le _⟩ h10 (by decide)
  (by rintro j t df g v s (rfl | rfl | rfl)<;>simp[MSt,St,sx]) ?_ ?_ ?_
 ·rintro j t df g hj ⟨rfl,⟨h1,h2,h3,h4,h5,h6,h7,h9,-⟩,hx⟩ h10
  simp only[sx,sy,SO.run,↓reduceIte,Nat.reduceEqDiff,h1,h2,h3,h4,h5,h6,h7,h9,h10,MSt,St]
  exact hx
 ·rintro j t df g hj ⟨rfl,⟨h1,h2,h3,h4,h5,h6,h7,h9,-⟩,V,W,ow,R,N,hI,hD,hF,hol,hon,hRj,hN1⟩ h10
  obtain ⟨y,oa,hy,hoa⟩:=hpr.2 j hj
  have hy8:y.2.2.1.toNat<256:=y.2.2.1.toNat_lt
  have hjp:j<e.prow.length:=by rw[hpr.1];exact hj
  have ry5:=rowy_vid he.v5
  have ryn:=rowy_vid he.vn
  simp only[sx,sy,SO.run,↓reduceIte,Nat.reduceEqDiff,h5,h10,hI.h5.rows,hjp,hy,ry5,Option.isSome_some,Option.getD_some,u8v,bin_rem .u8 (show 0≤(y.2.2.1.toNat:Int) by omega) (show (0:Int)<4 by decide)]
  refine bifP_mk (fun hb=>?_) (fun hb=>?_)
  ·have hol':j<(ow.map fun x=>[AV.bool x]).length:=by rw[List.length_map,hol];exact hj
   have hrow:(ow.map fun x=>[AV.bool x])[j]?=some [.bool (ow[j]'(by omega))]:=by rw[List.getElem?_map,List.getElem?_eq_getElem (by omega)];rfl
   simp only[sx,sy,SO.run,↓reduceIte,Nat.reduceEqDiff,h9,h10,hI.h9.rows,hol',Option.isSome_some,Option.getD_some]
   refine store_own (row:=[.bool (ow[j]'(by omega))]) (row':=[.bool true]) hI.h9 hrow rfl rfl rfl fun g1 x1 n1 f1=>?_
   have hI1:MI e g1 V W c (ow.set j true) R.length:=hI.own he (by rw[List.map_set];exact x1) (by omega) f1
   clear x1 f1 n1 hI hol' hrow
   have l0:=len_rows' (hI1.fam.1 0 (by omega)).rows
   rw[hD.len] at l0
   have hjN:j<(rowsN e.n c V).length:=by rw[rowsN_len];exact hj
   have hI2:MP e (g1.new (.cells 1 [[.int .i64 (R.length:Int)]] 0 false false)) V (updf V (3*j+2) (.hsl g1.nx 0 0 1 none)) (updf W (3*j+2) ([(R.length:Int)].map ci)) c (ow.set j true) R.length :=
    hI1.grow he (by omega) (own_one hI1.nx _) (by simp) (fun i hi _=>by rw[G.new_h,get_put_ne _ _ _ (by omega)]) (.inr ⟨g1.nx,rfl,Nat.le_refl _⟩)
   simp only[sx,sy,SO.run,↓reduceIte,Nat.reduceEqDiff,h4,h10,hI1.h4,l0]
   have hNr:=hI2.hN.rows
   simp only[sx,sy] at hNr
   simp only[sx,sy,SO.run,↓reduceIte,Nat.reduceEqDiff,h4,h10,hNr,hjN,ryn,Option.isSome_some,Option.getD_some]
   refine store_own (row:=rowN c V j) (row':=rowN c (updf V (3*j+2) (.hsl g1.nx 0 0 1 none)) j) hI2.hN (rowsN_get _ _ hj) rfl rfl ?_ fun g2 x2 n2 f2=>?_
   ·simp only[rowN,putCells_eq,sx,sy,↓reduceIte,Nat.reduceAdd,Nat.reduceLeDiff,updf_self,updf_ne V (k:=3*j+2) (j:=3*j+1) _ (by omega),updf_ne V (k:=3*j+2) (j:=3*j+3) _ (by omega)]
   rw[rowsN_set rfl (fun i hi=>by unfold rowN;rw[updf_ne _ _ (by omega),updf_ne _ _ (by omega),updf_ne _ _ (by omega)])] at x2
   have hI3:=hI2.node he x2 (updf_ne _ _ (by omega)) (by omega) f2
   have hD3:=hD.setN j [(R.length:Int)]
   clear hI2 hI1 x2 n2 f2 hNr
   generalize updf V (3*j+2) (.hsl g1.nx 0 0 1 none)=V at *
   generalize updf W (3*j+2) ([(R.length:Int)].map ci)=W at *
   obtain ⟨cc,cc0,cc1,h7'⟩:=hI3.h7
   have hNr:=hI3.hN.rows
   have hrf:=refs_some hI3.hN he.vn
   simp only[sx,sy,sf,SO.run,↓reduceIte,Nat.reduceEqDiff,Nat.reduceAdd,Nat.reduceLeDiff,h4,h7,h10,hI3.h4,hNr,rowsN_len,hj,ryn,rowsN_get c V hj,rowN,Option.isSome_some,Option.getD_some]
   refine next_ok (us:=e.us) (p:=e.p7) (l:=e.e7) (c:=cc) ?_ he.l7 cc0 (by omega) fun z c' g4 z0 z1 c0 c1 g7 n4 f4 lg4=>?_
   ·simpa using h7'
   simp only[sx,sy] at n4 f4 lg4
   have lg4':∀i∈g4.lg,i=e.p7:=by simpa using lg4
   have hb3:=hI3.nx
   have hI4:MI e g4 V W c (ow.set j true) (R.length+1):=hI3.num he c0 (by omega) g7 (by omega) f4
   simp only[sx,sy,sf,SO.run,↓reduceIte,Nat.reduceEqDiff,Nat.reduceAdd,Nat.reduceLeDiff,h4,h7,h10]
   refine sat_ex (weights_ok hd hg1.1 hg1.2 z0 z1) fun r hr=>?_
   simp only[sx,sy,sf,SO.run,↓reduceIte,Nat.reduceEqDiff,Nat.reduceAdd,Nat.reduceLeDiff,h4,h7,h10]
   rw[bsl_one 1 [.nils] r _ (by rw[hr.cells];rfl) hr.tup,hr.cells]
   simp only[sx,sy,sf,SO.run,↓reduceIte,Nat.reduceEqDiff,Nat.reduceAdd,Nat.reduceLeDiff,h4,h7,h10]
   have hO:=hI4.fam.1 0 (by omega)
   refine append_own (b:=e.b) (new:=[[r]]) (rows:=W 0) (hO.fr (by simp;omega) (fun i hi=>?_)) (by simp[sx,sy,H.get_put]) (by simp;have:=hI4.nx;omega) (by rw[hD3.len];simp[room];omega) fun v' g5 hv' n5 f5 vid5 lg5=>?_
   ·have:=(hO.lt hi).2
    simp[H.get_put];omega
   simp only[sx,sy] at n5 f5 vid5 lg5
   have hI5:MP e g5 V (updf V 0 v') (updf W 0 (W 0++[[r]])) c (ow.set j true) (R.length+1) :=
    hI4.grow he (by omega) hv' (by omega) (fun i hi hne=>by rw[f5 i (by omega) hne,if_neg (by omega)]) (by rcases vid5 with h | ⟨i,h,hi⟩;exact .inl h;exact .inr ⟨i,h,by omega⟩)
   simp only[sx,sy,sf,SO.run,↓reduceIte,Nat.reduceEqDiff,Nat.reduceAdd,Nat.reduceLeDiff,h4,h7,h10,hI5.h4,hv'.cell.1,hv'.cell.2,foot_ref33_numbers_next,foot_ref33_weights]
   refine ⟨?_,?_⟩
   ·simp only[List.reverse_cons,List.reverse_nil,List.nil_append,List.cons_append,hrf]
    refine footsOk_mk [false,false,false,false,false,false,false,false,false,false,false,true,false,true,true,false,true] [(0,11),(1,11),(2,11),(3,11),(4,11),(5,11),(6,11),(7,11),(8,11),(9,11),(0,13),(1,13)] (by simp[All2,rdLook,noLook,bigLook]) (by decide) ?_
    rintro p hp x y hx hy
    simp only[List.mem_cons,List.not_mem_nil,or_false] at hp
    rcases hp with rfl | rfl | rfl | rfl | rfl | rfl | rfl | rfl | rfl | rfl | rfl | rfl
    case inr.inr.inr.inr.inr.inr.inr.inr.inr.inr.inl=>(simp at hx hy;subst hx;subst hy;refine apart_mk rfl rfl rfl rfl ?_ ?_ ?_<;>simp[rdLook,noLook,refIds])
    case inr.inr.inr.inr.inr.inr.inr.inr.inr.inr.inr=>(simp at hx hy;subst hx;subst hy;refine apart_mk rfl rfl rfl rfl ?_ ?_ ?_<;>simp[rdLook,noLook,refIds]<;>omega)
    all_goals (simp at hx hy;subst hx;subst hy;refine apart_call rfl rfl rfl ?_;intro i hi j hj;(have hi:=lg4' i hi);simp[rdLook,noLook,refIds_hptr,hrf,refIds_rptr ryn] at hj<;>omega)
   ·have hI6:=hI5.root (g':=(setLog (bumpG (setLog (bumpG g5 []) []) []) []).put e.p4 (.cells 3 [[.int .i64 e.gr,v',e.nv]] 0 false false)) he
     (by simp[H.get_put]) (by simp;omega) (fun i hi=>by simp[H.get_put];intro e;exact absurd e hi)
    have hD6:=hD3.setR (x:=S.weights e.gr (c j) z) (cs:=[r]) hr
    have hF6:=hF.both (q:=c j) (hc j hj) z0 z1 (N':=updf N j [(R.length:Int)]) fun i hi=>by
     by_cases e:i=j
     ·subst e;exact .inr (.inl (updf_self _ _ _))
     ·exact .inl (updf_ne _ _ e)
    simp only[sx,sy,SO.run,↓reduceIte,Nat.reduceEqDiff,h1,h2,h3,h4,h5,h6,h7,h9,h10,MSt,St]
    refine ⟨updf V 0 v',updf W 0 (W 0++[[r]]),ow.set j true,R++[S.weights e.gr (c j) z],updf N j [(R.length:Int)],?_,hD6,hF6,by simpa using hol,fun i hi h=>?_,by simp;omega,fun i=>?_⟩
    ·rw[List.length_append];exact hI6.same he (by simp) (by simp)
    ·by_cases e:i=j
     ·subst e;rw[updf_self];simp
     ·rw[updf_ne _ _ e];rw[List.getElem?_set_ne (Ne.symm e)] at h;exact hon i hi h
    ·by_cases e:i=j
     ·subst e;rw[updf_self];simp
     ·rw[updf_ne _ _ e];exact hN1 i
  ·simp only[sx,sy,SO.run,↓reduceIte,Nat.reduceEqDiff,h1,h2,h3,h4,h5,h6,h7,h9,h10,MSt,St]
   exact ⟨V,W,ow,R,N,hI,hD,hF,hol,hon,by omega,hN1⟩
 ·rintro t df g ⟨rfl,ht,V,W,ow,R,N,hI,hD,hF,hol,hon,hRj,hN1⟩
  exact fin t g V W ow R N ht hI hD hF hol hon (by omega) hN1
end
end Hx
end
section
namespace Hx
open Go
noncomputable section
theorem ixa_tptr {l sz i n m:Nat}{rows:List (List AV)}{off:Nat}{k:IntKind}(h:m<n):ixaV n 1 (.tptr l sz rows i off) (.int k (m:Int))=.val (.tptr l sz rows i (off+m)):=by
 show (bif' (Nat.blt m n) (OR.val (.tptr l sz rows i (off+m*1))) .fail)=_
 rw[bif'_eq,if_pos (by simpa using h),Nat.mul_one]
theorem rptr_tree {α:Type} [Rp α]{k:Nat}{h h':H}{l:List α}{v:AV}{rows:List (List AV)}{s i off:Nat}(r:SlR NoP k h l v)(hr:rowsOf h' s v=some rows)(hi:i<rows.length):∃t,rptr s v i off=.tptr t s rows i off:=by
 have hb:=r.2
 cases v with
 | nils=>simp[rowsOf] at hr;subst hr;simp at hi
 | esl=>simp[rowsOf] at hr;subst hr;simp at hi
 | tsl tg sz rws =>
  simp only[rowsOf,bif'_eq] at hr
  split at hr
  ·injection hr with hr;subst hr;exact ⟨tg,rfl⟩
  ·cases hr
 | hsl a b c d e=>exact hb.1.elim
 | _=>exact hb.elim
theorem m_b4 {d:Nat}{e:ME}{r6 b1:AV}{us:List (UInt8×UInt8)}{g0 x0 c0 e0:AV}{Q:QT}(hd:0<d)(he:e.Ok)(hr0:e.row0=[g0,x0,b1,c0,e0])(hb1:SlR NoP 0 .nil us b1){t:T}{g:G}{V:Nat→AV}{W:Nat→List (List AV)}{c:Nat→Int}{ow:List Bool}{R:List (List Int)}{N:Nat→List Int}(ht:MSt e r6 t)(h11:tat t 11=.int .i64 0)
  (hI:MI e g V W c ow R.length) (hD:MD e W R (fun _=>[]) N (fun _=>[])) (hF:MF e c R N) (hon:∀i,i<e.n→ow[i]?=some true→N i≠[]) (hRj:R.length≤4) (hN1:∀i,(N i).length≤1)
  (fin:∀t g V W R N,MSt e r6 t→MI e g V W c ow R.length→MD e W R (fun _=>[]) N (fun _=>[])→MF e c R N→(∀i,i<e.n→ow[i]?=some true→N i≠[])→R.length≤6→(∀i,(N i).length≤3)→Q (.exit 4) t [] g) :
  wpL (wp C0 d none f_ref33_Draft_Model_b4) Q t [] g:=by
 have hoo:=he.ord
 have hn1:=he.n1
 have hg1:=he.g1
 obtain ⟨srows,s1,s2,s3,s4⟩:=hb1.all
 have s1:∀h',rowsOf h' 2 b1=some srows:=s1
 have ryn:=rowy_vid he.vn
 simp only[f_ref33_Draft_Model_b4,f_ref33_Draft_Model_k3]
 refine wpL_cnt (min us.length 2) (by omega) (fun j t df g=>df=[]∧MSt e r6 t∧∃V W R N,MI e g V W c ow R.length∧MD e W R (fun _=>[]) N (fun _=>[])∧MF e c R N∧(∀i,i<e.n→ow[i]?=some true→N i≠[])∧R.length≤4+j∧∀i,(N i).length≤1+j)
  ⟨rfl,ht,V,W,R,N,hI,hD,hF,hon,hRj,hN1⟩ h11 (by decide)
  (by rintro j t df g v s (rfl | rfl | rfl)<;>simp[MSt,St,sx]) ?_ ?_ ?_
 ·rintro j t df g hj ⟨rfl,⟨h1,h2,h3,h4,h5,h6,h7,h9,-⟩,V,W,R,N,hI,hx⟩ h11
  have e0:=hI.h0
  rw[hr0] at e0
  simp only[sx,sy,SO.run,↓reduceIte,Nat.reduceEqDiff,h1,h11,e0,hb1.len]
  have fin:∀q:Bool,q=decide (j<min us.length 2)→AV.bool q=AV.bool (decide ((j:Int)<((min us.length 2:Nat):Int))):=fun q h=>by rw[h];congr 1;simp
  refine bifP_mk (fun hb=>?_) (fun hb=>?_)
  ·have hb:j<us.length:=by simpa using hb
   have hq:decide ((j:Int)<(us.length:Int))=true:=by simpa using hb
   simp only[sx,sy,SO.run,↓reduceIte,Nat.reduceEqDiff,h1,h2,h3,h4,h5,h6,h7,h9,h11,MSt,St,hq]
   exact ⟨fin _ (by simp;omega),V,W,R,N,hI,hx⟩
  ·have hb:¬j<us.length:=by simpa using hb
   have hq:decide ((j:Int)<(us.length:Int))=false:=by simpa using hb
   simp only[sx,sy,SO.run,↓reduceIte,Nat.reduceEqDiff,h1,h2,h3,h4,h5,h6,h7,h9,h11,MSt,St,hq]
   exact ⟨fin _ (by simp;omega),V,W,R,N,hI,hx⟩
 ·rintro j t df g hj ⟨rfl,⟨h1,h2,h3,h4,h5,h6,h7,h9,-⟩,V,W,R,N,hI,hD,hF,hon,hRj,hN1⟩ h11
  have hju:j<us.length:=by omega
  obtain ⟨⟨ua,ub⟩,hu⟩:∃y,us[j]?=some y:=⟨_,List.getElem?_eq_getElem hju⟩
  obtain ⟨row,q1,q2⟩:=s3 j _ hu
  rw[rp_two.1 q2] at q1
  have hjs:j<srows.length:=by omega
  have e0:=hI.h0
  rw[hr0] at e0
  have hpt:∃l,rptr 2 b1 j 0=.tptr l 2 srows j 0:=rptr_tree hb1 (s1 .nil) hjs
  obtain ⟨tl,hpt⟩:=hpt
  have ua8:ua.toNat<256:=ua.toNat_lt
  have ub8:ub.toNat<256:=ub.toNat_lt
  have ld:∀(g:G) (k:Nat) (v:AV),[u8v ua,u8v ub][k]?=some v→loadV false 1 (.tptr tl 2 srows j (0+k)) g=.val v:=fun g k v hk=>by
   simp only[loadV,loadF,nthR_eq,q1,Nat.zero_add,part_one,hk,orV]
  have ea:((ua.toNat:Int) % (e.n:Int))=((ua.toNat % e.n:Nat):Int):=by omega
  have eb:((ub.toNat:Int) % (e.n:Int))=((ub.toNat % e.n:Nat):Int):=by omega
  have la:ua.toNat % e.n<e.n:=Nat.mod_lt _ (by omega)
  have lb:ub.toNat % e.n<e.n:=Nat.mod_lt _ (by omega)
  generalize hA:ua.toNat % e.n=A at *
  generalize hB:ub.toNat % e.n=B at *
  have i0:∀k,ixaV 2 1 (.tptr tl 2 srows j 0) (.int k 0)=.val (.tptr tl 2 srows j (0+0)):=fun k=>ixa_tptr (m:=0) (by decide)
  have i1:∀k,ixaV 2 1 (.tptr tl 2 srows j 0) (.int k 1)=.val (.tptr tl 2 srows j (0+1)):=fun k=>ixa_tptr (m:=1) (by decide)
  simp only[sx,sy,SO.run,↓reduceIte,Nat.reduceEqDiff,Nat.reduceAdd,h1,h3,h11,e0,s1,hjs,hpt,i0,i1,Option.isSome_some,Option.getD_some,ld _ 0 _ rfl,ld _ 1 _ rfl,u8v,
   wrap64 (show -9223372036854775808≤(ua.toNat:Int) by omega) (show (ua.toNat:Int)<9223372036854775808 by omega),wrap64 (show -9223372036854775808≤(ub.toNat:Int) by omega) (show (ub.toNat:Int)<9223372036854775808 by omega),
   bin_rem .i64 (show (0:Int)≤(ua.toNat:Int) by omega) (show 0<(e.n:Int) by omega),bin_rem .i64 (show (0:Int)≤(ub.toNat:Int) by omega) (show 0<(e.n:Int) by omega),ea,eb]
  refine bifP_mk (fun hb=>?_) (fun hb=>?_)
  ·have hAB:A≠B:=fun e=>by subst e;simp at hb
   have l0:=len_rows' (hI.fam.1 0 (by omega)).rows
   rw[hD.len] at l0
   have hNr:=hI.hN.rows
   have hrf:=refs_some hI.hN he.vn
   have hbb:=hI.nx
   have hlb:=hN1 A
   have hO:=hI.fam.1 (3*A+2) (by omega)
   simp only[sx,sy,sf,SO.run,↓reduceIte,Nat.reduceEqDiff,Nat.reduceAdd,Nat.reduceLeDiff,h4,l0,hI.h4,hNr,rowsN_len,la,ryn,rowsN_get c (V) la,rowN,Option.isSome_some,Option.getD_some]
   refine append_own (b:=e.b) (rows:=(W) (3*A+2)) (new:=[[.int .i64 ((R.length:Int))]]) (hO.fr (by simp;omega) (fun i' hi'=>?_)) (by simp[sx,sy,H.get_put]) (by simp;omega) (by rw[hD.n A la];simp[room];omega) fun v1 ga hv1 n1 f1 vid1 lg1=>?_
   ·have:=(hO.lt hi').2
    simp[H.get_put];omega
   simp only[sx,sy] at n1 f1 vid1 lg1
   have hP:=hI.grow (g':=ga) (k:=3*A+2) (rows':=(W) (3*A+2)++[[.int .i64 ((R.length:Int))]]) he (by omega) hv1 (by omega) (fun i' hi' hne=>by rw[f1 i' (by omega) hne,if_neg (by omega)]) (by rcases vid1 with h | ⟨i',h,hi'⟩;exact .inl h;exact .inr ⟨i',h,by omega⟩)
   have hNr2:=hP.hN.rows
   have hrf2:=refs_some hP.hN he.vn
   simp only[sx,sy,sf,SO.run,↓reduceIte,Nat.reduceEqDiff,Nat.reduceAdd,Nat.reduceLeDiff,h4,l0,hP.h4,hNr2,rowsN_len,la,ryn,Option.isSome_some,Option.getD_some]
   refine store_own (row:=rowN c (V) A) (row':=rowN c (updf (V) (3*A+2) v1) A) (hP.same he (by simp) (by simp;omega)).hN (rowsN_get _ _ la) (by rw[hv1.cell.1];rfl) hv1.cell.2 ?_ fun g1 x2 n2 f2=>?_
   ·simp only[rowN,hv1.cell.1,putCells_eq,sx,sy,↓reduceIte,Nat.reduceAdd,Nat.reduceLeDiff,updf_self,updf_ne (V) (k:=3*A+2) (j:=3*A+1) _ (by omega),updf_ne (V) (k:=3*A+2) (j:=3*A+3) _ (by omega)]
   rw[rowsN_set rfl (fun i' hi'=>rowN_ne (by omega) hi')] at x2
   simp only[sx,sy] at n2 f2
   have hI1:=hP.node (g':=g1) he x2 (updf_ne _ _ (by omega)) (by omega) f2
   have hI1D:=hD.setN A ((N) A++[(R.length:Int)])
   rw[List.map_append,←hD.n A la] at hI1D
   simp only[List.map_cons,List.map_nil,ci] at hI1D
   simp only[sx,sy,sf,SO.run,↓reduceIte,Nat.reduceEqDiff,Nat.reduceAdd,Nat.reduceLeDiff,h4,l0]
   refine ⟨?_,?_⟩
   ·simp only[List.reverse_cons,List.reverse_nil,List.nil_append,List.cons_append,hrf,hrf2]
    refine footsOk_mk [false,false,false,false,false,false,false,false,false,false,false,false,true,true,false,false,true] [(0,12),(1,12),(2,12),(3,12),(4,12),(5,12),(6,12),(7,12),(8,12),(0,13),(1,13),(2,13)] (by simp[All2,rdLook,noLook,bigLook]) (by decide) ?_
    rintro p hp x y hx hy
    simp only[List.mem_cons,List.not_mem_nil,or_false] at hp
    rcases hp with rfl | rfl | rfl | rfl | rfl | rfl | rfl | rfl | rfl | rfl | rfl | rfl<;>(simp at hx hy;subst hx;subst hy;refine apart_mk rfl rfl rfl rfl ?_ ?_ ?_<;>simp[rdLook,noLook,refIds_hptr,hrf,refIds_rptr ryn]<;>first | omega | (intro i' hi';rcases lg1 i' hi' with h | h<;>first | omega | simp at h) | skip)
   clear hNr hrf hbb hO hP hNr2 hrf2 x2 f2 n2 f1 n1 vid1 lg1 hlb
   have l0:=len_rows' (hI1.fam.1 0 (by omega)).rows
   rw[hI1D.len] at l0
   have hNr:=hI1.hN.rows
   have hrf:=refs_some hI1.hN he.vn
   have hbb:=hI1.nx
   have hlb:=(show ((updf N A (N A++[(R.length:Int)])) B).length≤100 from by have:=hN1 A;have:=hN1 B;unfold updf;split<;>simp<;>omega)
   have hO:=hI1.fam.1 (3*B+2) (by omega)
   simp only[sx,sy,sf,SO.run,↓reduceIte,Nat.reduceEqDiff,Nat.reduceAdd,Nat.reduceLeDiff,h4,l0,hI1.h4,hNr,rowsN_len,lb,ryn,rowsN_get c (updf V (3*A+2) v1) lb,rowN,Option.isSome_some,Option.getD_some]
   refine append_own (b:=e.b) (rows:=(updf W (3*A+2) (W (3*A+2)++[[.int .i64 (R.length:Int)]])) (3*B+2)) (new:=[[.int .i64 ((R.length:Int))]]) (hO.fr (by simp;omega) (fun i' hi'=>?_)) (by simp[sx,sy,H.get_put]) (by simp;omega) (by rw[hI1D.n B lb];simp[room];omega) fun v2 ga hv2 n1 f1 vid1 lg1=>?_
   ·have:=(hO.lt hi').2
    simp[H.get_put];omega
   simp only[sx,sy] at n1 f1 vid1 lg1
   have hP:=hI1.grow (g':=ga) (k:=3*B+2) (rows':=(updf W (3*A+2) (W (3*A+2)++[[.int .i64 (R.length:Int)]])) (3*B+2)++[[.int .i64 ((R.length:Int))]]) he (by omega) hv2 (by omega) (fun i' hi' hne=>by rw[f1 i' (by omega) hne,if_neg (by omega)]) (by rcases vid1 with h | ⟨i',h,hi'⟩;exact .inl h;exact .inr ⟨i',h,by omega⟩)
   have hNr2:=hP.hN.rows
   have hrf2:=refs_some hP.hN he.vn
   simp only[sx,sy,sf,SO.run,↓reduceIte,Nat.reduceEqDiff,Nat.reduceAdd,Nat.reduceLeDiff,h4,l0,hP.h4,hNr2,rowsN_len,lb,ryn,Option.isSome_some,Option.getD_some]
   refine store_own (row:=rowN c (updf V (3*A+2) v1) B) (row':=rowN c (updf (updf V (3*A+2) v1) (3*B+2) v2) B) (hP.same he (by simp) (by simp;omega)).hN (rowsN_get _ _ lb) (by rw[hv2.cell.1];rfl) hv2.cell.2 ?_ fun g2 x2 n2 f2=>?_
   ·simp only[rowN,hv2.cell.1,putCells_eq,sx,sy,↓reduceIte,Nat.reduceAdd,Nat.reduceLeDiff,updf_self,updf_ne (updf V (3*A+2) v1) (k:=3*B+2) (j:=3*B+1) _ (by omega),updf_ne (updf V (3*A+2) v1) (k:=3*B+2) (j:=3*B+3) _ (by omega)]
   rw[rowsN_set rfl (fun i' hi'=>rowN_ne (by omega) hi')] at x2
   simp only[sx,sy] at n2 f2
   have hI2:=hP.node (g':=g2) he x2 (updf_ne _ _ (by omega)) (by omega) f2
   have hI2D:=hI1D.setN B ((updf N A (N A++[(R.length:Int)])) B++[(R.length:Int)])
   rw[List.map_append,←hI1D.n B lb] at hI2D
   simp only[List.map_cons,List.map_nil,ci] at hI2D
   simp only[sx,sy,sf,SO.run,↓reduceIte,Nat.reduceEqDiff,Nat.reduceAdd,Nat.reduceLeDiff,h4,l0]
   refine ⟨?_,?_⟩
   ·simp only[List.reverse_cons,List.reverse_nil,List.nil_append,List.cons_append,hrf,hrf2]
    refine footsOk_mk [false,false,false,false,false,false,false,false,false,false,false,false,true,true,false,false,true] [(0,12),(1,12),(2,12),(3,12),(4,12),(5,12),(6,12),(7,12),(8,12),(0,13),(1,13),(2,13)] (by simp[All2,rdLook,noLook,bigLook]) (by decide) ?_
    rintro p hp x y hx hy
    simp only[List.mem_cons,List.not_mem_nil,or_false] at hp
    rcases hp with rfl | rfl | rfl | rfl | rfl | rfl | rfl | rfl | rfl | rfl | rfl | rfl<;>(simp at hx hy;subst hx;subst hy;refine apart_mk rfl rfl rfl rfl ?_ ?_ ?_<;>simp[rdLook,noLook,refIds_hptr,hrf,refIds_rptr ryn]<;>first | omega | (intro i' hi';rcases lg1 i' hi' with h | h<;>first | omega | simp at h) | skip)
   clear hNr hrf hbb hO hP hNr2 hrf2 x2 f2 n2 f1 n1 vid1 lg1 hlb
   clear l0
   obtain ⟨cc,cc0,cc1,h7'⟩:=hI2.h7
   have hNr:=hI2.hN.rows
   have hrf:=refs_some hI2.hN he.vn
   simp only[sx,sy,sf,SO.run,↓reduceIte,Nat.reduceEqDiff,Nat.reduceAdd,Nat.reduceLeDiff,h4,h7,hI2.h4,hNr,rowsN_len,ryn,Option.isSome_some,Option.getD_some]
   refine next_ok (us:=e.us) (p:=e.p7) (l:=e.e7) (c:=cc) ?_ he.l7 cc0 (by omega) fun z c' g4 z0 z1 c0 c1 g7 n4 f4 lg4=>?_
   ·simpa using h7'
   simp only[sx,sy] at n4 f4 lg4
   have lg4':∀i∈g4.lg,i=e.p7:=by simpa using lg4
   have hb3:=hI2.nx
   have hI4:MI e g4 (updf (updf V (3*A+2) v1) (3*B+2) v2) (updf (updf W (3*A+2) (W (3*A+2)++[[.int .i64 (R.length:Int)]])) (3*B+2) ((updf W (3*A+2) (W (3*A+2)++[[.int .i64 (R.length:Int)]])) (3*B+2)++[[.int .i64 (R.length:Int)]])) c ow (R.length+1):=hI2.num he c0 (by omega) g7 (by omega) f4
   simp only[sx,sy,sf,SO.run,↓reduceIte,Nat.reduceEqDiff,Nat.reduceAdd,Nat.reduceLeDiff,h4,h7]
   refine sat_ex (weights_ok hd hg1.1 hg1.2 z0 z1) fun r hr=>?_
   simp only[sx,sy,sf,SO.run,↓reduceIte,Nat.reduceEqDiff,Nat.reduceAdd,Nat.reduceLeDiff,h4,h7]
   rw[bsl_one 1 [.nils] r _ (by rw[hr.cells];rfl) hr.tup,hr.cells]
   simp only[sx,sy,sf,SO.run,↓reduceIte,Nat.reduceEqDiff,Nat.reduceAdd,Nat.reduceLeDiff,h4,h7]
   have hO:=hI4.fam.1 0 (by omega)
   refine append_own (b:=e.b) (new:=[[r]]) (rows:=(updf (updf W (3*A+2) (W (3*A+2)++[[.int .i64 (R.length:Int)]])) (3*B+2) ((updf W (3*A+2) (W (3*A+2)++[[.int .i64 (R.length:Int)]])) (3*B+2)++[[.int .i64 (R.length:Int)]])) 0) (hO.fr (by simp;omega) (fun i hi=>?_)) (by simp[sx,sy,H.get_put]) (by simp;have:=hI4.nx;omega) (by rw[hI2D.len];simp[room];omega) fun v' g5 hv' n5 f5 vid5 lg5=>?_
   ·have:=(hO.lt hi).2
    simp[H.get_put];omega
   simp only[sx,sy] at n5 f5 vid5 lg5
   have hI5:MP e g5 (updf (updf V (3*A+2) v1) (3*B+2) v2) (updf (updf (updf V (3*A+2) v1) (3*B+2) v2) 0 v') (updf (updf (updf W (3*A+2) (W (3*A+2)++[[.int .i64 (R.length:Int)]])) (3*B+2) ((updf W (3*A+2) (W (3*A+2)++[[.int .i64 (R.length:Int)]])) (3*B+2)++[[.int .i64 (R.length:Int)]])) 0 ((updf (updf W (3*A+2) (W (3*A+2)++[[.int .i64 (R.length:Int)]])) (3*B+2) ((updf W (3*A+2) (W (3*A+2)++[[.int .i64 (R.length:Int)]])) (3*B+2)++[[.int .i64 (R.length:Int)]])) 0++[[r]])) c ow (R.length+1) :=
    hI4.grow he (by omega) hv' (by omega) (fun i hi hne=>by rw[f5 i (by omega) hne,if_neg (by omega)]) (by rcases vid5 with h | ⟨i,h,hi⟩;exact .inl h;exact .inr ⟨i,h,by omega⟩)
   simp only[sx,sy,sf,SO.run,↓reduceIte,Nat.reduceEqDiff,Nat.reduceAdd,Nat.reduceLeDiff,h4,h7,hI5.h4,hv'.cell.1,hv'.cell.2,foot_ref33_numbers_next,foot_ref33_weights]
   refine ⟨?_,?_⟩
   ·simp only[List.reverse_cons,List.reverse_nil,List.nil_append,List.cons_append,hrf]
    refine footsOk_mk [false,false,false,false,false,true,false,true,true,false,true] [(0,5),(1,5),(2,5),(3,5),(0,7),(1,7)] (by simp[All2,rdLook,noLook,bigLook]) (by decide) ?_
    rintro p hp x y hx hy
    simp only[List.mem_cons,List.not_mem_nil,or_false] at hp
    rcases hp with rfl | rfl | rfl | rfl | rfl | rfl
    all_goals first
     | (simp at hx hy;subst hx;subst hy;refine apart_mk rfl rfl rfl rfl ?_ ?_ ?_<;>simp[rdLook,noLook,refIds]<;>omega)
     | (simp at hx hy;subst hx;subst hy;refine apart_mk rfl rfl rfl rfl ?_ ?_ ?_<;>simp[rdLook,noLook,refIds])
     | (simp at hx hy;subst hx;subst hy;refine apart_call rfl rfl rfl ?_;intro i hi j hj;(have hi:=lg4' i hi);simp[rdLook,noLook,refIds_hptr,hrf,refIds_rptr ryn] at hj<;>omega)
   have hI3:=hI5.root (g':=(setLog (bumpG (setLog (bumpG g5 []) []) []) []).put e.p4 (.cells 3 [[.int .i64 e.gr,v',e.nv]] 0 false false)) he
    (by simp[H.get_put]) (by simp;omega) (fun i hi=>by simp[H.get_put];intro e;exact absurd e hi)
   have hI3D:=hI2D.setR (x:=S.weights e.gr (2) z) (cs:=[r]) hr
   have hF6:=hF.both (q:=2) (.inl rfl) z0 z1 (N':=updf (updf N A (N A++[(R.length:Int)])) B ((updf N A (N A++[(R.length:Int)])) B++[(R.length:Int)])) fun i hi=>by
    by_cases e1:i=B
    ·subst e1;rw[updf_self,updf_ne _ _ (Ne.symm hAB)];exact .inr (.inr rfl)
    ·rw[updf_ne _ _ e1]
     by_cases e2:i=A
     ·subst e2;rw[updf_self];exact .inr (.inr rfl)
     ·exact .inl (updf_ne _ _ e2)
   simp only[sx,sy,SO.run,↓reduceIte,Nat.reduceEqDiff,h1,h2,h3,h4,h5,h6,h7,h9,h11,MSt,St]
   refine ⟨updf (updf (updf V (3*A+2) v1) (3*B+2) v2) 0 v',updf (updf (updf W (3*A+2) (W (3*A+2)++[[.int .i64 (R.length:Int)]])) (3*B+2) ((updf W (3*A+2) (W (3*A+2)++[[.int .i64 (R.length:Int)]])) (3*B+2)++[[.int .i64 (R.length:Int)]])) 0 ((updf (updf W (3*A+2) (W (3*A+2)++[[.int .i64 (R.length:Int)]])) (3*B+2) ((updf W (3*A+2) (W (3*A+2)++[[.int .i64 (R.length:Int)]])) (3*B+2)++[[.int .i64 (R.length:Int)]])) 0++[[r]]),R++[S.weights e.gr 2 z],updf (updf N A (N A++[(R.length:Int)])) B ((updf N A (N A++[(R.length:Int)])) B++[(R.length:Int)]),?_,hI3D,hF6,fun i hi h=>?_,by simp;omega,fun i=>?_⟩
   ·rw[List.length_append];exact hI3.same he (by simp) (by simp)
   ·have:=hon i hi h
    unfold updf
    split
    ·simp
    ·split
     ·simp
     ·exact this
   ·have:=hN1 i
    have:=hN1 A
    have:=hN1 B
    by_cases e1:i=B
    ·subst e1;rw[updf_self,updf_ne _ _ (Ne.symm hAB)];simp;omega
    ·rw[updf_ne _ _ e1]
     by_cases e2:i=A
     ·subst e2;rw[updf_self];simp;omega
     ·rw[updf_ne _ _ e2];omega
  ·simp only[sx,sy,SO.run,↓reduceIte,Nat.reduceEqDiff,h1,h2,h3,h4,h5,h6,h7,h9,h11,MSt,St]
   exact ⟨V,W,R,N,hI,hD,hF,hon,by omega,fun i=>by have:=hN1 i;omega⟩
 ·rintro t df g ⟨rfl,ht,V,W,R,N,hI,hD,hF,hon,hRj,hN1⟩
  exact fin t g V W R N ht hI hD hF hon (by omega) (fun i=>by have:=hN1 i;omega)
end
end Hx
end
section
namespace Hx
open Go
noncomputable section
theorem bin_shr8 (m n:Nat):∃z:Nat,binV .shr (.int .u8 (m:Int)) (.int .u64 (n:Int))=.val (.int .u8 (z:Int)) :=
 ⟨m / 2 ^ (Nat.min n 8),rfl⟩
theorem bin_and8 (m n:Nat):∃z:Int,binV .and (.int .u8 (m:Int)) (.int .u8 (n:Int))=.val (.int .u8 z):=by
 have:∃z:Int,Op.intBits .and .u8 (.ofNat m) (.ofNat n)=.pure (.int .u8 z):=⟨_,rfl⟩
 obtain ⟨z,hz⟩:=this
 refine ⟨z,?_⟩
 show orV (pureV (Op.intBits .and .u8 (.ofNat m) (.ofNat n)))=_
 rw[hz];rfl
structure MN (e:ME) (r6:AV) (pl:List Int) (num:Nat→Nat):Prop where
 r:IT 0 pl r6
 at_:∀k,k<e.n→pl[k]?=some (num k:Int)
 lt:∀k,k<e.n→num k<e.n
 inj:∀i j,i<e.n→j<e.n→num i=num j→i=j
 sur:∀u,u<e.n→∃k,k<e.n∧num k=u
theorem updf_eq {α:Type}{f:Nat→α}{k:Nat}{x:α}(h:f k=x):updf f k x=f:=by
 funext j;by_cases e:j=k
 ·subst e;rw[updf_self,h]
 ·exact updf_ne _ _ e
theorem updf_updf {α:Type}{f:Nat→α}{k:Nat}{x y:α}:updf (updf f k x) k y=updf f k y:=by
 funext j;by_cases e:j=k
 ·subst e;rw[updf_self,updf_self]
 ·rw[updf_ne _ _ e,updf_ne _ _ e,updf_ne _ _ e]
def MSt2 (e:ME)(r6:AV)(i v:Nat)(t:T):Prop :=
 St t [(1,.hptr 0 0 0 0),(2,.hptr 1 0 0 0),(3,.int .i64 (e.n:Int)),(4,.hptr e.p4 0 0 0),(5,e.w5),(6,r6),(7,.hptr e.p7 0 0 0),(9,e.w9),(14,.int .i64 (i:Int)),(15,.int .i64 (v:Int))]
theorem m_b6 {d:Nat}{e:ME}{r6:AV}{pl:List Int}{num:Nat→Nat}{i v u cap:Nat}{Q:QT}(hd:0<d)(he:e.Ok)(hpr:MPr e)(hp:MN e r6 pl num)(hi:i<e.n)(hv:v<e.n)(hu:u<e.n)
  {t:T} {g:G} {V:Nat→AV} {W:Nat→List (List AV)} {c:Nat→Int} {ow:List Bool} {R:List (List Int)} {F N O:Nat→List Int} {l:List Int} (ht:MSt2 e r6 i v t) (h16:tat t 16=.int .i64 (u:Int)) (h17:tat t 17=.int .i64 0)
  (hI:MI e g V W c ow cap) (hD:MD e W R (updf F v l) N O) (hll:l.length≤4)
  (fin:∀t g V W l',MSt2 e r6 i v t→tat t 16=.int .i64 (u:Int)→MI e g V W c ow cap→MD e W R (updf F v l') N O→(l'=l∨(l'=l++[(u:Int)]∧∃k,k<i∧num k=u))→Q (.exit 10) t [] g) :
  wpL (wp C0 d none f_ref33_Draft_Model_b6) Q t [] g:=by
 have hoo:=he.ord
 have hn1:=he.n1
 have ryn:=rowy_vid he.vn
 have ry5:=rowy_vid he.v5
 have hpr6:=hp.r.rows
 simp only[f_ref33_Draft_Model_b6,f_ref33_Draft_Model_k5]
 refine wpL_cnt i (by omega) (fun k t df g=>df=[]∧MSt2 e r6 i v t∧tat t 16=.int .i64 (u:Int)∧∃V W l',MI e g V W c ow cap∧MD e W R (updf F v l') N O∧(l'=l∨(l'=l++[(u:Int)]∧∃k',k'<k∧num k'=u)))
  ⟨rfl,ht,h16,V,W,l,hI,hD,.inl rfl⟩ h17 (by decide) (by rintro j t df g v s (rfl | rfl | rfl)<;>simp[MSt2,St,sx]) ?_ ?_ ?_
 ·rintro j t df g hj ⟨rfl,⟨h1,h2,h3,h4,h5,h6,h7,h9,h14,h15,-⟩,h16,hx⟩ h17
  simp only[sx,sy,SO.run,↓reduceIte,Nat.reduceEqDiff,h1,h2,h3,h4,h5,h6,h7,h9,h14,h15,h16,h17,MSt2,St]
  exact hx
 ·clear ht h16 h17 hI hD
  rintro j t df g hj ⟨rfl,⟨h1,h2,h3,h4,h5,h6,h7,h9,h14,h15,-⟩,h16,V,W,l',hI,hD,hl'⟩ h17
  obtain ⟨y,oa,hy,hoa⟩:=hpr.2 i hi
  have hip:i<e.prow.length:=by rw[hpr.1];exact hi
  have hjl:j<pl.length:=(List.getElem?_eq_some_iff.1 (hp.at_ j (by omega))).1
  have hnj:=hp.at_ j (by omega)
  simp only[sx,sy,SO.run,↓reduceIte,Nat.reduceEqDiff,h6,h16,h17,hpr6,hjl,hnj,List.length_map,List.getElem?_map,Option.map_some,ci,Option.isSome_some,Option.getD_some]
  by_cases hq:num j=u
  ·have hq1:decide (((num j:Nat):Int)=(u:Int))=true:=by simp[hq]
   obtain ⟨z1,e1⟩:=bin_shr8 y.2.1.toNat j
   obtain ⟨z2,e2⟩:=bin_and8 z1 1
   have e2:binV .and (.int .u8 (z1:Int)) (.int .u8 1)=.val (.int .u8 z2):=e2
   simp only[sx,sy,SO.run,↓reduceIte,Nat.reduceEqDiff,Nat.reduceAdd,h5,h14,h17,hq1,hI.h5.rows,hip,hy,ry5,Option.isSome_some,Option.getD_some,u8v,wrapu64 (show 0≤(j:Int) by omega) (show (j:Int)<18446744073709551616 by omega),e1,e2]
   refine bifP_mk (fun hb=>?_) (fun hb=>?_)
   ·have hl2:l'=l:=by
     rcases hl' with h | ⟨h,k',hk',hk2⟩
     ·exact h
     ·have:=hp.inj k' j (by omega) (by omega) (by omega);omega
    rw[hl2] at hD
    have hlF:(updf F v l v).length≤100:=by rw[updf_self];omega
    have hNr:=hI.hN.rows
    have hrf:=refs_some hI.hN he.vn
    have hbb:=hI.nx
    have hlb:=hlF
    have hO:=hI.fam.1 (3*v+1) (by omega)
    simp only[sx,sy,sf,SO.run,↓reduceIte,Nat.reduceEqDiff,Nat.reduceAdd,Nat.reduceLeDiff,h4,h15,h16,hI.h4,hNr,rowsN_len,hv,ryn,rowsN_get c (V) hv,rowN,Option.isSome_some,Option.getD_some]
    refine append_own (b:=e.b) (rows:=(W) (3*v+1)) (new:=[[.int .i64 ((u:Int))]]) (hO.fr (by simp;omega) (fun i' hi'=>?_)) (by simp[sx,sy,H.get_put]) (by simp;omega) (by rw[hD.f v hv];simp[room];omega) fun v1 ga hv1 n1 f1 vid1 lg1=>?_
    ·have:=(hO.lt hi').2
     simp[H.get_put];omega
    simp only[sx,sy] at n1 f1 vid1 lg1
    have hP:=hI.grow (g':=ga) (k:=3*v+1) (rows':=(W) (3*v+1)++[[.int .i64 ((u:Int))]]) he (by omega) hv1 (by omega) (fun i' hi' hne=>by rw[f1 i' (by omega) hne,if_neg (by omega)]) (by rcases vid1 with h | ⟨i',h,hi'⟩;exact .inl h;exact .inr ⟨i',h,by omega⟩)
    have hNr2:=hP.hN.rows
    have hrf2:=refs_some hP.hN he.vn
    simp only[sx,sy,sf,SO.run,↓reduceIte,Nat.reduceEqDiff,Nat.reduceAdd,Nat.reduceLeDiff,h4,h15,h16,hP.h4,hNr2,rowsN_len,hv,ryn,Option.isSome_some,Option.getD_some]
    refine store_own (row:=rowN c (V) v) (row':=rowN c (updf (V) (3*v+1) v1) v) (hP.same he (by simp) (by simp;omega)).hN (rowsN_get _ _ hv) (by rw[hv1.cell.1];rfl) hv1.cell.2 ?_ fun g1 x2 n2 f2=>?_
    ·simp only[rowN,hv1.cell.1,putCells_eq,sx,sy,↓reduceIte,Nat.reduceAdd,Nat.reduceLeDiff,updf_self,updf_ne (V) (k:=3*v+1) (j:=3*v+2) _ (by omega),updf_ne (V) (k:=3*v+1) (j:=3*v+3) _ (by omega)]
    rw[rowsN_set rfl (fun i' hi'=>rowN_ne (by omega) hi')] at x2
    simp only[sx,sy] at n2 f2
    have hI1:=hP.node (g':=g1) he x2 (updf_ne _ _ (by omega)) (by omega) f2
    have hI1D:=hD.setF v (((updf F v l)) v++[(u:Int)])
    rw[List.map_append,←hD.f v hv] at hI1D
    simp only[List.map_cons,List.map_nil,ci] at hI1D
    simp only[sx,sy,sf,SO.run,↓reduceIte,Nat.reduceEqDiff,Nat.reduceAdd,Nat.reduceLeDiff,h4,h15,h16]
    refine ⟨?_,?_⟩
    ·simp only[List.reverse_cons,List.reverse_nil,List.nil_append,List.cons_append,hrf,hrf2]
     refine footsOk_mk [false,false,false,false,false,false,false,false,false,false,true,true,false,false,true] [(0,10),(1,10),(2,10),(3,10),(4,10),(5,10),(6,10),(7,10),(8,10),(0,11),(1,11),(2,11)] (by simp[All2,rdLook,noLook,bigLook]) (by decide) ?_
     rintro p hp x y hx hy
     simp only[List.mem_cons,List.not_mem_nil,or_false] at hp
     rcases hp with rfl | rfl | rfl | rfl | rfl | rfl | rfl | rfl | rfl | rfl | rfl | rfl<;>(simp at hx hy;subst hx;subst hy;refine apart_mk rfl rfl rfl rfl ?_ ?_ ?_<;>simp[rdLook,noLook,refIds_hptr,hrf,refIds_rptr ryn]<;>first | omega | (intro i' hi';rcases lg1 i' hi' with h | h<;>first | omega | simp at h) | skip)
    clear hNr hrf hbb hO hP hNr2 hrf2 x2 f2 n2 f1 n1 vid1 lg1 hlb
    rw[updf_updf,updf_self] at hI1D
    simp only[sx,sy,SO.run,↓reduceIte,Nat.reduceEqDiff,h1,h2,h3,h4,h5,h6,h7,h9,h14,h15,h16,h17,MSt2,St]
    exact ⟨_,_,l++[(u:Int)],hI1.same he (by simp) (by simp),hI1D,.inr ⟨rfl,j,by omega,hq⟩⟩
   ·simp only[sx,sy,SO.run,↓reduceIte,Nat.reduceEqDiff,h1,h2,h3,h4,h5,h6,h7,h9,h14,h15,h16,h17,MSt2,St]
    refine ⟨V,W,l',hI,hD,?_⟩
    rcases hl' with h | ⟨h,k',hk',hk2⟩
    ·exact .inl h
    ·exact .inr ⟨h,k',by omega,hk2⟩
  ·have hq1:decide (((num j:Nat):Int)=(u:Int))=false:=by simp;omega
   simp only[sx,sy,SO.run,↓reduceIte,Nat.reduceEqDiff,h1,h2,h3,h4,h5,h6,h7,h9,h14,h15,h16,h17,hq1,MSt2,St]
   refine ⟨V,W,l',hI,hD,?_⟩
   rcases hl' with h | ⟨h,k',hk',hk2⟩
   ·exact .inl h
   ·exact .inr ⟨h,k',by omega,hk2⟩
 ·rintro t df g ⟨rfl,ht,h16,V,W,l',hI,hD,hl'⟩
  exact fin t g V W l' ht h16 hI hD hl'
theorem m_b8 {d:Nat}{e:ME}{r6:AV}{pl:List Int}{num:Nat→Nat}{i v cap:Nat}{Q:QT}(hd:0<d)(he:e.Ok)(hpr:MPr e)(hp:MN e r6 pl num)(hi:i<e.n)(hv:v<e.n)
  {t:T} {g:G} {V:Nat→AV} {W:Nat→List (List AV)} {c:Nat→Int} {ow:List Bool} {R:List (List Int)} {F N O:Nat→List Int} (ht:MSt2 e r6 i v t) (h16:tat t 16=.int .i64 0)
  (hI:MI e g V W c ow cap) (hD:MD e W R F N O) (hFv:F v=[])
  (fin:∀t g V W l,MSt2 e r6 i v t→MI e g V W c ow cap→MD e W R (updf F v l) N O→S.places l e.n=true→(∀x∈l,∃k,k<i∧x=(num k:Int))→l.length≤4→Q (.exit 8) t [] g) :
  wpL (wp C0 d none f_ref33_Draft_Model_b8) Q t [] g:=by
 have hoo:=he.ord
 have hn1:=he.n1
 simp only[f_ref33_Draft_Model_b8,f_ref33_Draft_Model_k7]
 refine wpL_cnt e.n (by omega) (fun u t df g=>df=[]∧MSt2 e r6 i v t∧∃V W l,MI e g V W c ow cap∧MD e W R (updf F v l) N O∧S.places l e.n=true∧(∀x∈l,x<(u:Int))∧(∀x∈l,∃k,k<i∧x=(num k:Int))∧l.length≤u)
  ⟨rfl,ht,V,W,[],hI,by rw[updf_eq hFv];exact hD,rfl,by simp,by simp,Nat.le_refl _⟩ h16 (by decide) (by rintro j t df g v s (rfl | rfl | rfl)<;>simp[MSt2,St,sx]) ?_ ?_ ?_
 ·rintro j t df g hj ⟨rfl,⟨h1,h2,h3,h4,h5,h6,h7,h9,h14,h15,-⟩,hx⟩ h16
  simp only[sx,sy,SO.run,↓reduceIte,Nat.reduceEqDiff,h1,h2,h3,h4,h5,h6,h7,h9,h14,h15,h16,MSt2,St]
  exact hx
 ·clear ht h16 hI hD
  rintro j t df g hj ⟨rfl,ht,V,W,l,hI,hD,hl1,hl2,hl3,hl4⟩ h16
  simp only[sx,sy,SO.run,↓reduceIte,Nat.reduceEqDiff]
  refine m_b6 hd he hpr hp hi hv hj (by obtain ⟨h1,h2,h3,h4,h5,h6,h7,h9,h14,h15,-⟩:=ht;simp[MSt2,St,sx,h1,h2,h3,h4,h5,h6,h7,h9,h14,h15]) (by simp[sx,h16]) (by simp[sx]) hI hD (by omega) fun t g V W l' ht h16 hI hD hl'=>?_
  simp only[sx,sy,SO.run,↓reduceIte,Nat.reduceEqDiff]
  refine ⟨⟨ht,V,W,l',hI,hD,?_⟩,h16⟩
  rcases hl' with rfl | ⟨rfl,k,hk,hk2⟩
  ·exact ⟨hl1,fun x hx=>by have:=hl2 x hx;omega,hl3,by omega⟩
  ·refine ⟨places_snoc hl1 hl2 (by omega) (by omega) (Int.le_refl _),fun x hx=>?_,fun x hx=>?_,by simp;omega⟩
   ·rcases List.mem_append.1 hx with h | h
    ·have:=hl2 x h;omega
    ·simp at h;omega
   ·rcases List.mem_append.1 hx with h | h
    ·exact hl3 x h
    ·simp at h;exact ⟨k,hk,by omega⟩
 ·rintro t df g ⟨rfl,ht,V,W,l,hI,hD,hl1,hl2,hl3,hl4⟩
  exact fin t g V W l ht hI hD hl1 hl3 (by omega)
end
end Hx
end
section
namespace Hx
open Go
noncomputable section
theorem all2_maps {α β γ:Type}{R:β→γ→Prop}{f:α→β}{h:α→γ}:∀{l:List α},(∀x∈l,R (f x) (h x))→All2 R (l.map f) (l.map h)
 | [],_=>trivial
 | a::l,hl=>⟨hl a (by simp),all2_maps fun x hx=>hl x (by simp[hx])⟩
def mkM (e:ME)(c:Nat→Int)(R:List (List Int))(F N O:Nat→List Int):Causal:=⟨e.gr,R,(List.range e.n).map fun i=>⟨c i,F i,N i,O i⟩⟩
theorem mkM_get {e:ME}{c:Nat→Int}{R:List (List Int)}{F N O:Nat→List Int}{i:Nat}(h:i<e.n):(mkM e c R F N O).nodes[i]?=some ⟨c i,F i,N i,O i⟩:=by simp[mkM,h]
theorem MI.agg {e:ME}{g:G}{V:Nat→AV}{W:Nat→List (List AV)}{c:Nat→Int}{ow:List Bool}{cap:Nat}{R:List (List Int)}{F N O:Nat→List Int}(h:MI e g V W c ow cap)(he:e.Ok)(hD:MD e W R F N O)
  (hR:R.length≤1000) (hl:∀i,i<e.n→(F i).length≤1000000000∧(N i).length≤1000000000∧(O i).length≤1000000000):Agg (mkM e c R F N O) (fun i=>1<i) 0 g.h (.agg [.int .i64 e.gr,V 0,e.nv]):=by
 have hn:=he.n1
 have hoo:=he.ord
 refine ⟨_,rfl,rp_causal.2 ⟨V 0,e.nv,rfl,?_,?_⟩⟩
 ·exact Own.sl (α:=List Int) (h.fam.1 0 (by omega)) (by show R.length<_;omega) (hD.r.mono fun a b r=>Rp.tree r (Nat.le_refl _)) fun i hi=>by have:=((h.fam.1 0 (by omega)).lt hi).1;omega
 ·refine Own.sl (α:=Mech) h.hN (by simp[mkM];omega) ?_ fun i hi=>by have:=vid_inj he.vn hi;omega
  refine all2_maps fun i hi=>?_
  have hi:i<e.n:=List.mem_range.1 hi
  obtain ⟨l1,l2,l3⟩:=hl i hi
  refine rp_mech.2 ⟨_,_,_,rfl,?_,?_,?_⟩
  ·have:=h.fam.1 (3*i+1) (by omega)
   rw[hD.f i hi] at this
   exact Own.sl (α:=Int) this (by show (F i).length<_;omega) (All2.of_map (fun a=>rp_int.2 rfl) _) fun i hi=>by have:=(this.lt hi).1;omega
  ·have:=h.fam.1 (3*i+2) (by omega)
   rw[hD.n i hi] at this
   exact Own.sl (α:=Int) this (by show (N i).length<_;omega) (All2.of_map (fun a=>rp_int.2 rfl) _) fun i hi=>by have:=(this.lt hi).1;omega
  ·have:=h.fam.1 (3*i+3) (by omega)
   rw[hD.o i hi] at this
   exact Own.sl (α:=Int) this (by show (O i).length<_;omega) (All2.of_map (fun a=>rp_int.2 rfl) _) fun i hi=>by have:=(this.lt hi).1;omega
def MSt3 (e:ME)(r6 r18:AV)(i v:Nat)(t:T):Prop :=
 St t [(1,.hptr 0 0 0 0),(2,.hptr 1 0 0 0),(3,.int .i64 (e.n:Int)),(4,.hptr e.p4 0 0 0),(5,e.w5),(6,r6),(7,.hptr e.p7 0 0 0),(9,e.w9),(14,.int .i64 (i:Int)),(15,.int .i64 (v:Int)),(18,r18)]
theorem m_b10 {d:Nat}{e:ME}{r6 r18 xr:AV}{i v cc:Nat}{fst:Int}{x:List Int}{lrows:List (List AV)}{Q:QT}(hd:0<d)(hr:∀h',rowsOf h' 1 r18=some lrows)(hc:lrows[cc]?=some [xr])(hx:IT 0 x xr)(hx6:x.length≤12)(hxv:∀y∈x,0≤y∧y<4)
  {t:T} {g:G} {B:Int} (ht:MSt3 e r6 r18 i v t) (h19:tat t 19=.int .i64 (cc:Int)) (h20:tat t 20=.int .i64 B) (h21:tat t 21=.int .i64 fst) (h22:tat t 22=.int .i64 0) (h23:tat t 23=.int .i64 0)
  (fin:∀t key,MSt3 e r6 r18 i v t→tat t 19=.int .i64 (cc:Int)→tat t 20=.int .i64 B→tat t 21=.int .i64 fst→tat t 22=.int .i64 key→0≤key→key<4 ^ 12→Q (.exit 14) t [] g) :
  wpL (wp C0 d none f_ref33_Draft_Model_b10) Q t [] g:=by
 have hcl:cc<lrows.length:=(List.getElem?_eq_some_iff.1 hc).1
 simp only[f_ref33_Draft_Model_b10,f_ref33_Draft_Model_k9]
 refine wpL_cnt x.length (by omega) (fun k t df g'=>df=[]∧g'=g∧MSt3 e r6 r18 i v t∧tat t 19=.int .i64 (cc:Int)∧tat t 20=.int .i64 B∧tat t 21=.int .i64 fst∧∃key,tat t 22=.int .i64 key∧0≤key∧key<4 ^ k)
  ⟨rfl,rfl,ht,h19,h20,h21,0,h22,by decide,by decide⟩ h23 (by decide) (by rintro j t df g v s (rfl | rfl | rfl)<;>simp[MSt3,St,sx]) ?_ ?_ ?_
 ·rintro j t df g' hj ⟨rfl,rfl,⟨h1,h2,h3,h4,h5,h6,h7,h9,h14,h15,h18,-⟩,h19,h20,h21,hx2⟩ h23
  simp only[sx,sy,SO.run,↓reduceIte,Nat.reduceEqDiff,h1,h2,h3,h4,h5,h6,h7,h9,h14,h15,h18,h19,h20,h21,h23,hr,hcl,hc,hx.len,Option.isSome_some,Option.getD_some,MSt3,St]
  exact hx2
 ·rintro j t df g' hj ⟨rfl,rfl,⟨h1,h2,h3,h4,h5,h6,h7,h9,h14,h15,h18,-⟩,h19,h20,h21,key,h22,k0,k1⟩ h23
  obtain ⟨y,hy,-,hm⟩:=take_next hj
  obtain ⟨y0,y1⟩:=hxv y hm
  have hp:(4:Int) ^ j≤4 ^ 12:=pow4_mono (by omega)
  have hp2:(4:Int) ^ 12=16777216:=by decide
  have hp3:(4:Int) ^ (j+1)=4 ^ j*4:=Int.pow_succ ..
  have xr:=hx.rows
  simp only[sx,sy,SO.run,↓reduceIte,Nat.reduceEqDiff,h21,h23]
  refine bifP_mk (fun hb=>?_) (fun hb=>?_)
  ·simp only[sx,sy,SO.run,↓reduceIte,Nat.reduceEqDiff,h1,h2,h3,h4,h5,h6,h7,h9,h14,h15,h18,h19,h20,h21,h22,h23,hr,hcl,hc,xr,hj,hy,ci,List.length_map,List.getElem?_map,Option.map_some,Option.isSome_some,Option.getD_some,MSt3,St,
    wrap64 (show -9223372036854775808≤3*key by omega) (show 3*key<9223372036854775808 by omega),wrap64 (show -9223372036854775808≤3*key+y by omega) (show 3*key+y<9223372036854775808 by omega)]
   exact ⟨_,rfl,by omega,by omega⟩
  ·simp only[sx,sy,SO.run,↓reduceIte,Nat.reduceEqDiff,h1,h2,h3,h4,h5,h6,h7,h9,h14,h15,h18,h19,h20,h21,h22,h23,MSt3,St]
   exact ⟨key,rfl,k0,by omega⟩
 ·rintro t df g' ⟨rfl,rfl,ht,h19,h20,h21,key,h22,k0,k1⟩
  have hp:(4:Int) ^ x.length≤4 ^ 12:=pow4_mono (by omega)
  exact fin t key ht h19 h20 h21 h22 k0 (by omega)
theorem m_k13 {d:Nat}{e:ME}{r6 r18:AV}{i v cc cap:Nat}{Q:QT}(he:e.Ok)(hv:v<e.n)
  {t:T} {g:G} {V:Nat→AV} {W:Nat→List (List AV)} {c:Nat→Int} {ow:List Bool} {R:List (List Int)} {F N O:Nat→List Int} {l:List Int} {B:Int} (ht:MSt3 e r6 r18 i v t) (h19:tat t 19=.int .i64 (cc:Int)) (h20:tat t 20=.int .i64 B)
  (hB0:0≤B) (hcv:c v=2∨c v=3) (hI:MI e g V W c ow cap) (hD:MD e W R F N (updf O v l)) (hlO:l.length≤1000000)
  (fin:∀t g V W,MSt3 e r6 r18 i v t→tat t 19=.int .i64 (cc:Int)→MI e g V W c ow cap→MD e W R F N (updf O v (l++[B % c v]))→Q .norm t [] g) :
  wp C0 d none f_ref33_Draft_Model_k13 Q t [] g:=by
 have hoo:=he.ord
 have hn1:=he.n1
 have ryn:=rowy_vid he.vn
 have hrem:=bin_rem .i64 hB0 (show 0<c v by omega)
 have hlO:(updf O v l v).length≤1000000:=by rw[updf_self];exact hlO
 obtain ⟨h1,h2,h3,h4,h5,h6,h7,h9,h14,h15,h18,-⟩:=ht
 simp only[f_ref33_Draft_Model_k13]
 have hNr:=hI.hN.rows
 have hrf:=refs_some hI.hN he.vn
 have hbb:=hI.nx
 have hlb:=hlO
 have hO:=hI.fam.1 (3*v+3) (by omega)
 simp only[sx,sy,sf,SO.run,↓reduceIte,Nat.reduceEqDiff,Nat.reduceAdd,Nat.reduceLeDiff,h4,h15,h20,hrem,hI.h4,hNr,rowsN_len,hv,ryn,rowsN_get c (V) hv,rowN,Option.isSome_some,Option.getD_some]
 refine append_own (b:=e.b) (rows:=(W) (3*v+3)) (new:=[[.int .i64 (B % c v)]]) (hO.fr (by simp;omega) (fun i' hi'=>?_)) (by simp[sx,sy,H.get_put]) (by simp;omega) (by rw[hD.o v hv];simp[room];omega) fun v1 ga hv1 n1 f1 vid1 lg1=>?_
 ·have:=(hO.lt hi').2
  simp[H.get_put];omega
 simp only[sx,sy] at n1 f1 vid1 lg1
 have hP:=hI.grow (g':=ga) (k:=3*v+3) (rows':=(W) (3*v+3)++[[.int .i64 (B % c v)]]) he (by omega) hv1 (by omega) (fun i' hi' hne=>by rw[f1 i' (by omega) hne,if_neg (by omega)]) (by rcases vid1 with h | ⟨i',h,hi'⟩;exact .inl h;exact .inr ⟨i',h,by omega⟩)
 have hNr2:=hP.hN.rows
 have hrf2:=refs_some hP.hN he.vn
 simp only[sx,sy,sf,SO.run,↓reduceIte,Nat.reduceEqDiff,Nat.reduceAdd,Nat.reduceLeDiff,h4,h15,h20,hrem,hP.h4,hNr2,rowsN_len,hv,ryn,Option.isSome_some,Option.getD_some]
 refine store_own (row:=rowN c (V) v) (row':=rowN c (updf (V) (3*v+3) v1) v) (hP.same he (by simp) (by simp;omega)).hN (rowsN_get _ _ hv) (by rw[hv1.cell.1];rfl) hv1.cell.2 ?_ fun g1 x2 n2 f2=>?_
 ·simp only[rowN,hv1.cell.1,putCells_eq,sx,sy,↓reduceIte,Nat.reduceAdd,Nat.reduceLeDiff,updf_self,updf_ne (V) (k:=3*v+3) (j:=3*v+1) _ (by omega),updf_ne (V) (k:=3*v+3) (j:=3*v+2) _ (by omega)]
 rw[rowsN_set rfl (fun i' hi'=>rowN_ne (by omega) hi')] at x2
 simp only[sx,sy] at n2 f2
 have hI1:=hP.node (g':=g1) he x2 (updf_ne _ _ (by omega)) (by omega) f2
 have hI1D:=hD.setO v (((updf O v l)) v++[B % c v])
 rw[List.map_append,←hD.o v hv] at hI1D
 simp only[List.map_cons,List.map_nil,ci] at hI1D
 simp only[sx,sy,sf,SO.run,↓reduceIte,Nat.reduceEqDiff,Nat.reduceAdd,Nat.reduceLeDiff,h4,h15,h20,hrem]
 refine ⟨?_,?_⟩
 ·simp only[List.reverse_cons,List.reverse_nil,List.nil_append,List.cons_append,hrf,hrf2]
  refine footsOk_mk [false,false,false,false,false,false,false,false,false,false,false,false,false,false,false,false,false,true,true,false,false,true] [(0,17),(1,17),(2,17),(3,17),(4,17),(5,17),(6,17),(7,17),(8,17),(0,18),(1,18),(2,18)] (by simp[All2,rdLook,noLook,bigLook]) (by decide) ?_
  rintro p hp x y hx hy
  simp only[List.mem_cons,List.not_mem_nil,or_false] at hp
  rcases hp with rfl | rfl | rfl | rfl | rfl | rfl | rfl | rfl | rfl | rfl | rfl | rfl<;>(simp at hx hy;subst hx;subst hy;refine apart_mk rfl rfl rfl rfl ?_ ?_ ?_<;>simp[rdLook,noLook,refIds_hptr,hrf,refIds_rptr ryn]<;>first | omega | (intro i' hi';rcases lg1 i' hi' with h | h<;>first | omega | simp at h) | skip)
 clear hNr hrf hbb hO hP hNr2 hrf2 x2 f2 n2 f1 n1 vid1 lg1 hlb
 rw[updf_updf,updf_self] at hI1D
 exact fin _ _ _ _ (by simp[sx,MSt3,St,h1,h2,h3,h4,h5,h6,h7,h9,h14,h15,h18]) (by simp[sx,h19]) (hI1.same he (by simp) (by simp)) hI1D
theorem m_b16 {d:Nat}{e:ME}{r6 r18:AV}{i v cap:Nat}{cards:List Int}{Q:QT}(hd:0<d)(he:e.Ok)(hpr:MPr e)(hi:i<e.n)(hv:v<e.n)(hr18:One (S.all cards) NoP 0 .nil r18)(hc1:∀x∈cards,1≤x∧x≤4)(hc6:cards.length≤12)(hlen:(S.all cards).length≤1000000)
  {t:T} {g:G} {V:Nat→AV} {W:Nat→List (List AV)} {c:Nat→Int} {ow:List Bool} {R:List (List Int)} {F N O:Nat→List Int} (ht:MSt3 e r6 r18 i v t) (h19:tat t 19=.int .i64 0)
  (hcv:c v=2∨c v=3) (hol:ow.length=e.n) (hon:ow[v]?=some true→(F v).length<cards.length) (hFl:(F v).length≤100)
  (hI:MI e g V W c ow cap) (hD:MD e W R F N O) (hOv:O v=[])
  (fin:∀t g V W l,MSt3 e r6 r18 i v t→MI e g V W c ow cap→MD e W R F N (updf O v l)→l.length=(S.all cards).length→(∀x∈l,0≤x∧x<c v)→Q (.exit 12) t [] g) :
  wpL (wp C0 d none f_ref33_Draft_Model_b16) Q t [] g:=by
 have hoo:=he.ord
 have hn1:=he.n1
 have ryn:=rowy_vid he.vn
 have ry5:=rowy_vid he.v5
 obtain ⟨z18,ez,hs18⟩:=hr18
 injection ez with ez;subst ez
 obtain ⟨lrows,r1,r2,r3,r4⟩:=hs18.all
 have r1:∀h',rowsOf h' 1 r18=some lrows:=r1
 simp only[f_ref33_Draft_Model_b16,f_ref33_Draft_Model_k15]
 refine wpL_cnt (S.all cards).length (by omega) (fun k t df g=>df=[]∧MSt3 e r6 r18 i v t∧∃V W l,MI e g V W c ow cap∧MD e W R F N (updf O v l)∧l.length=k∧∀x∈l,0≤x∧x<c v)
  ⟨rfl,ht,V,W,[],hI,by rw[updf_eq hOv];exact hD,rfl,by simp⟩ h19 (by decide) (by rintro j t df g v s (rfl | rfl | rfl)<;>simp[MSt3,St,sx]) ?_ ?_ ?_
 ·rintro j t df g hj ⟨rfl,⟨h1,h2,h3,h4,h5,h6,h7,h9,h14,h15,h18,-⟩,hx⟩ h19
  simp only[sx,sy,SO.run,↓reduceIte,Nat.reduceEqDiff,h1,h2,h3,h4,h5,h6,h7,h9,h14,h15,h18,h19,hs18.len,MSt3,St]
  exact hx
 ·clear ht h19 hI hD
  rintro j t df g hj ⟨rfl,⟨h1,h2,h3,h4,h5,h6,h7,h9,h14,h15,h18,-⟩,V,W,l,hI,hD,hl1,hl2⟩ h19
  obtain ⟨x,hx,-,hm⟩:=take_next hj
  obtain ⟨row,q1,q2⟩:=r3 j x hx
  obtain ⟨xr,rfl,hxr⟩:=rp_list.1 q2
  have hxr:IT 0 x xr:=⟨xr,rfl,hxr⟩
  have hjr:j<lrows.length:=by omega
  have hco:=all_combo (fun c h=>(hc1 c h).1) x hm
  have hxl:x.length=cards.length:=hco.1.symm
  have hxv:∀y∈x,0≤y∧y<4:=fun y hy=>by
   obtain ⟨k,hk,rfl⟩:=List.mem_iff_getElem.1 hy
   obtain ⟨cd,hcd⟩:∃cd,cards[k]?=some cd:=⟨_,List.getElem?_eq_getElem (by omega)⟩
   have:=hco.2 k cd _ hcd (List.getElem?_eq_getElem hk)
   have:=hc1 cd (List.mem_of_getElem? hcd)
   omega
  obtain ⟨y,oa,hy,hoa⟩:=hpr.2 i hi
  have hip:i<e.prow.length:=by rw[hpr.1];exact hi
  obtain ⟨orows,o1,o2,o3,o4⟩:=hoa.all
  have o1:∀h',rowsOf h' 1 oa=some orows:=o1
  have hin:∀k:Nat,0<y.2.2.2.length→∃z:UInt8,orows[k % y.2.2.2.length]?=some [u8v z]∧k % y.2.2.2.length<orows.length:=fun k hk=>by
   have hlt:=Nat.mod_lt k hk
   obtain ⟨z,hz⟩:∃z,y.2.2.2[k % y.2.2.2.length]?=some z:=⟨_,List.getElem?_eq_getElem hlt⟩
   obtain ⟨row,w1,w2⟩:=o3 _ z hz
   rw[rp_u8.1 w2] at w1
   exact ⟨z,w1,by omega⟩
  have last:∀(t:T) (B:Int),MSt3 e r6 r18 i v t→tat t 19=.int .i64 (j:Int)→tat t 20=.int .i64 B→0≤B →
    wp C0 d none f_ref33_Draft_Model_k13 (kR (fun t df g=>(df=[]∧MSt3 e r6 r18 i v t∧∃V W l,MI e g V W c ow cap∧MD e W R F N (updf O v l)∧l.length=j+1∧∀x∈l,0≤x∧x<c v)∧tat t 19=.int .i64 (j:Int)) 13 Q) t [] g:=fun t B ht h19 h20 hB =>
   m_k13 he hv ht h19 h20 hB hcv hI hD (by omega) fun t g V W ht h19 hI hD=>by
    rw[kR_norm]
    refine ⟨⟨rfl,ht,V,W,_,hI,hD,by simp[hl1],fun x hx=>?_⟩,h19⟩
    rcases List.mem_append.1 hx with h | h
    ·exact hl2 x h
    ·simp at h;subst h
     exact ⟨Int.emod_nonneg _ (by omega),Int.emod_lt_of_pos _ (by omega)⟩
  have mid:∀(t:T) (B:Int),MSt3 e r6 r18 i v t→tat t 19=.int .i64 (j:Int)→tat t 20=.int .i64 B→0≤B→B<1000000 →
    wp C0 d none f_ref33_Draft_Model_k14 (kR (fun t df g=>(df=[]∧MSt3 e r6 r18 i v t∧∃V W l,MI e g V W c ow cap∧MD e W R F N (updf O v l)∧l.length=j+1∧∀x∈l,0≤x∧x<c v)∧tat t 19=.int .i64 (j:Int)) 13 Q) t [] g:=by
   rintro t B ⟨h1,h2,h3,h4,h5,h6,h7,h9,h14,h15,h18,-⟩ h19 h20 hB hBB
   have hvo:v<(ow.map fun x=>[AV.bool x]).length:=by rw[List.length_map,hol];exact hv
   have hvo2:v<ow.length:=by omega
   have hrow:(ow.map fun x=>[AV.bool x])[v]?=some [.bool ow[v]]:=by rw[List.getElem?_map,List.getElem?_eq_getElem hvo2];rfl
   simp only[f_ref33_Draft_Model_k14,sx,sy,SO.run,↓reduceIte,Nat.reduceEqDiff,h9,h15,hI.h9.rows,hvo,hrow,Option.isSome_some,Option.getD_some]
   refine bifP_mk (fun hb=>?_) (fun hb=>?_)
   ·have hfl:=hon (by rw[List.getElem?_eq_getElem hvo2,hb])
    have hOw:=hI.fam.1 (3*v+1) (by omega)
    rw[hD.f v hv] at hOw
    have lF:=len_rows' hOw.rows
    rw[List.length_map] at lF
    simp only[sx,sy,SO.run,↓reduceIte,Nat.reduceEqDiff,Nat.reduceAdd,h4,h15,hI.h4,hI.hN.rows,rowsN_len,hv,ryn,rowsN_get c V hv,rowN,lF,Option.isSome_some,Option.getD_some]
    refine m_b10 (B:=B) (cc:=j) (x:=x) (xr:=xr) (fst:=((F v).length:Int)) (e:=e) (r6:=r6) (r18:=r18) (i:=i) (v:=v) hd r1 q1 hxr (by omega) hxv (by simp[sx,MSt3,St,h1,h2,h3,h4,h5,h6,h7,h9,h14,h15,h18]) (by simp[sx,h19]) (by simp[sx,h20]) (by simp[sx]) (by simp[sx]) (by simp[sx]) ?_
    rintro t key ⟨h1,h2,h3,h4,h5,h6,h7,h9,h14,h15,h18,-⟩ h19 h20 h21 h22 k0 k1
    have hp2:(4:Int) ^ 12=16777216:=by decide
    obtain ⟨kk,rfl⟩:=Int.eq_ofNat_of_zero_le k0
    simp only[f_ref33_Draft_Model_k12,sx,sy,SO.run,↓reduceIte,Nat.reduceEqDiff,Nat.reduceAdd,h5,h14,hI.h5.rows,hip,hy,ry5,hoa.len,Option.isSome_some,Option.getD_some]
    have fin2:∀(t:T) (B:Int),MSt3 e r6 r18 i v t→tat t 19=.int .i64 (j:Int)→tat t 20=.int .i64 B→tat t 21=.int .i64 ((F v).length:Int)→0≤B→B<1000000 →
      wp C0 d none f_ref33_Draft_Model_k11 (kS (wp C0 d none f_ref33_Draft_Model_k13 (kR (fun t df g=>(df=[]∧MSt3 e r6 r18 i v t∧∃V W l,MI e g V W c ow cap∧MD e W R F N (updf O v l)∧l.length=j+1∧∀x∈l,0≤x∧x<c v)∧tat t 19=.int .i64 (j:Int)) 13 Q))
       (kR (fun t df g=>(df=[]∧MSt3 e r6 r18 i v t∧∃V W l,MI e g V W c ow cap∧MD e W R F N (updf O v l)∧l.length=j+1∧∀x∈l,0≤x∧x<c v)∧tat t 19=.int .i64 (j:Int)) 13 Q)) t [] g:=by
     rintro t B ⟨h1,h2,h3,h4,h5,h6,h7,h9,h14,h15,h18,-⟩ h19 h20 h21 hB hB2
     have hfx:(F v).length<x.length:=by omega
     obtain ⟨z,hz,-,hzm⟩:=take_next hfx
     obtain ⟨z0,z1⟩:=hxv z hzm
     simp only[f_ref33_Draft_Model_k11,sx,sy,SO.run,↓reduceIte,Nat.reduceEqDiff,Nat.reduceAdd,h18,h19,h20,h21,r1,hjr,q1,hxr.rows,hfx,hz,ci,List.length_map,List.getElem?_map,Option.map_some,Option.isSome_some,Option.getD_some,
      wrap64 (show -9223372036854775808≤B+z by omega) (show B+z<9223372036854775808 by omega)]
     exact last _ (B+z) (by simp[sx,MSt3,St,h1,h2,h3,h4,h5,h6,h7,h9,h14,h15,h18]) (by simp[sx,h19]) (by simp[sx]) (by omega)
    refine bifP_mk (fun hb=>?_) (fun hb=>?_)
    ·have hpos:0<y.2.2.2.length:=by simpa using hb
     obtain ⟨z,hz,hzl⟩:=hin kk hpos
     have z8:z.toNat<256:=z.toNat_lt
     have em:((kk:Int) % (y.2.2.2.length:Int))=((kk % y.2.2.2.length:Nat):Int):=by omega
     simp only[sx,sy,SO.run,↓reduceIte,Nat.reduceEqDiff,Nat.reduceAdd,h5,h14,h22,hI.h5.rows,hip,hy,ry5,hoa.len,o1,hzl,hz,u8v,em,Option.isSome_some,Option.getD_some,bin_rem .i64 (show (0:Int)≤(kk:Int) by omega) (show 0<(y.2.2.2.length:Int) by omega),
      wrap64 (show -9223372036854775808≤(z.toNat:Int) by omega) (show (z.toNat:Int)<9223372036854775808 by omega)]
     exact fin2 _ (z.toNat:Int) (by simp[sx,MSt3,St,h1,h2,h3,h4,h5,h6,h7,h9,h14,h15,h18]) (by simp[sx,h19]) (by simp[sx]) (by simp[sx,h21]) (by omega) (by omega)
    ·simp only[sx]
     exact fin2 _ B (by simp[sx,MSt3,St,h1,h2,h3,h4,h5,h6,h7,h9,h14,h15,h18]) (by simp[sx,h19]) (by simp[sx,h20]) (by simp[sx,h21]) hB hBB
   ·simp only[sx]
    exact last _ B (by simp[sx,MSt3,St,h1,h2,h3,h4,h5,h6,h7,h9,h14,h15,h18]) (by simp[sx,h19]) (by simp[sx,h20]) hB
  simp only[sx,sy,SO.run,↓reduceIte,Nat.reduceEqDiff,Nat.reduceAdd,h5,h14,hI.h5.rows,hip,hy,ry5,hoa.len,Option.isSome_some,Option.getD_some]
  refine bifP_mk (fun hb=>?_) (fun hb=>?_)
  ·have hpos:0<y.2.2.2.length:=by simpa using hb
   obtain ⟨z,hz,hzl⟩:=hin j hpos
   have z8:z.toNat<256:=z.toNat_lt
   have em:((j:Int) % (y.2.2.2.length:Int))=((j % y.2.2.2.length:Nat):Int):=by omega
   simp only[sx,sy,SO.run,↓reduceIte,Nat.reduceEqDiff,Nat.reduceAdd,h5,h14,h19,hI.h5.rows,hip,hy,ry5,hoa.len,o1,hzl,hz,u8v,em,Option.isSome_some,Option.getD_some,bin_rem .i64 (show (0:Int)≤(j:Int) by omega) (show 0<(y.2.2.2.length:Int) by omega),
    wrap64 (show -9223372036854775808≤(z.toNat:Int) by omega) (show (z.toNat:Int)<9223372036854775808 by omega)]
   exact mid _ (z.toNat:Int) (by simp[sx,MSt3,St,h1,h2,h3,h4,h5,h6,h7,h9,h14,h15,h18]) (by simp[sx,h19]) (by simp[sx]) (by omega) (by omega)
  ·simp only[sx]
   exact mid _ 0 (by simp[sx,MSt3,St,h1,h2,h3,h4,h5,h6,h7,h9,h14,h15,h18]) (by simp[sx,h19]) (by simp[sx]) (by omega) (by omega)
 ·rintro t df g ⟨rfl,ht,V,W,l,hI,hD,hl1,hl2⟩
  exact fin t g V W l ht hI hD hl1 hl2
end
end Hx
end
section
namespace Hx
open Go
noncomputable section
def szs (c:Nat→Int)(R:List (List Int))(l p:List Int):List Int:=l.map (fun x=>c x.toNat)++p.map fun x=>(R[x.toNat]?.map fun r=>(r.length:Int)).getD 0
theorem sizes_mkM {e:ME}{c:Nat→Int}{R:List (List Int)}{F N O:Nat→List Int}{l p q:List Int}{k:Int}(hl:S.places l e.n=true):S.sizes (mkM e c R F N O) ⟨k,l,p,q⟩=szs c R l p:=by
 unfold S.sizes szs
 congr 1
 refine List.map_congr_left fun x hx=>?_
 have:=places_mem hl x hx
 unfold S.cardAt
 rw[mkM_get (by omega)]
 rfl
theorem weights_len (gr q z:Int):(S.weights gr q z).length=2∨(S.weights gr q z).length=3:=by
 unfold S.weights;split
 ·exact .inl rfl
 ·exact .inr rfl
theorem szs_bound {e:ME}{c:Nat→Int}{R:List (List Int)}{N:Nat→List Int}{l p:List Int}(hF:MF e c R N)(hl:S.places l e.n=true)(hp:S.places p R.length=true):∀x∈szs c R l p,2≤x∧x≤3:=by
 intro x hx
 rcases List.mem_append.1 hx with h | h
 ·obtain ⟨y,hy,rfl⟩:=List.mem_map.1 h
  have:=places_mem hl y hy
  have:=hF.card y.toNat (by omega)
  omega
 ·obtain ⟨y,hy,rfl⟩:=List.mem_map.1 h
  have:=places_mem hp y hy
  have hlt:y.toNat<R.length:=by omega
  rw[List.getElem?_eq_getElem hlt]
  obtain ⟨q,z,-,-,-,hr⟩:=hF.roots _ (List.getElem_mem hlt)
  have:=weights_len e.gr q z
  rw[←hr] at this
  show 2≤((R[y.toNat]).length:Int)∧((R[y.toNat]).length:Int)≤3
  omega
structure MNd (e:ME) (c:Nat→Int) (R:List (List Int)) (F N O:Nat→List Int) (num:Nat→Nat) (k:Nat):Prop where
 places:S.places (F (num k)) e.n=true
 down:∀x∈F (num k),∃k',k'<k∧x=(num k':Int)
 len:(F (num k)).length≤4
 outs:(O (num k)).length=(S.all (szs c R (F (num k)) (N (num k)))).length
 out:∀x∈O (num k),0≤x∧x<c (num k)
theorem allF_len {cards:List Int}:∀{f:Nat}{v:List Int},(S.allF cards f v).length≤f
 | 0,v=>Nat.le_refl _
 | f+1,v=>by
  simp only[S.allF,List.length_cons]
  split
  ·have:=allF_len (cards:=cards) (f:=f) (v:=(S.next cards v).1);omega
  ·simp
theorem m_b19 {d:Nat}{e:ME}{r6:AV}{pl:List Int}{num:Nat→Nat}{cap:Nat}{Q:QT}(hd:0<d)(he:e.Ok)(hpr:MPr e)(hp:MN e r6 pl num)
  {t:T} {g:G} {V:Nat→AV} {W:Nat→List (List AV)} {c:Nat→Int} {ow:List Bool} {R:List (List Int)} {N:Nat→List Int} (ht:MSt e r6 t) (h14:tat t 14=.int .i64 0)
  (hI:MI e g V W c ow cap) (hD:MD e W R (fun _=>[]) N (fun _=>[])) (hF:MF e c R N) (hol:ow.length=e.n) (hon:∀i,i<e.n→ow[i]?=some true→N i≠[]) (hR6:R.length≤6) (hN3:∀i,(N i).length≤3)
  (fin:∀t g V W F O,MSt e r6 t→MI e g V W c ow cap→MD e W R F N O→(∀k,k<e.n→MNd e c R F N O num k)→Q (.exit 6) t [] g) :
  wpL (wp C0 d none f_ref33_Draft_Model_b19) Q t [] g:=by
 have hoo:=he.ord
 have hn1:=he.n1
 simp only[f_ref33_Draft_Model_b19,f_ref33_Draft_Model_k18]
 refine wpL_cnt e.n (by omega) (fun i t df g=>df=[]∧MSt e r6 t∧∃V W F O,MI e g V W c ow cap∧MD e W R F N O∧(∀k,i≤k→k<e.n→F (num k)=[]∧O (num k)=[])∧∀k,k<i→MNd e c R F N O num k)
  ⟨rfl,ht,V,W,_,_,hI,hD,fun k _ _=>⟨rfl,rfl⟩,fun k hk=>by omega⟩ h14 (by decide) (by rintro j t df g v s (rfl | rfl | rfl)<;>simp[MSt,St,sx]) ?_ ?_ ?_
 ·rintro j t df g hj ⟨rfl,⟨h1,h2,h3,h4,h5,h6,h7,h9,-⟩,hx⟩ h14
  simp only[sx,sy,SO.run,↓reduceIte,Nat.reduceEqDiff,h1,h2,h3,h4,h5,h6,h7,h9,h14,MSt,St]
  exact hx
 ·clear ht h14 hI hD
  rintro i t df g hi ⟨rfl,⟨h1,h2,h3,h4,h5,h6,h7,h9,-⟩,V,W,F,O,hI,hD,hz,hk⟩ h14
  have hil:i<pl.length:=(List.getElem?_eq_some_iff.1 (hp.at_ i hi)).1
  have hni:=hp.at_ i hi
  have hv:=hp.lt i hi
  obtain ⟨hFv,hOv⟩:=hz i (Nat.le_refl _) hi
  have hpr6:=hp.r.rows
  simp only[sx,sy,SO.run,↓reduceIte,Nat.reduceEqDiff,h6,h14,hpr6,hil,hni,ci,List.length_map,List.getElem?_map,Option.map_some,Option.isSome_some,Option.getD_some]
  generalize hve:num i=v at *
  refine m_b8 (i:=i) (v:=v) hd he hpr hp hi hv (by simp[sx,MSt2,St,h1,h2,h3,h4,h5,h6,h7,h9,h14]) (by simp[sx]) hI hD hFv ?_
  clear h1 h2 h3 h4 h5 h6 h7 h9 h14 hI hD
  rintro t g V W l ⟨h1,h2,h3,h4,h5,h6,h7,h9,h14,h15,-⟩ hI hD hl1 hl2 hl3
  have hFlen:∀i',i'<e.n→(updf F v l i').length≤4:=fun i' hi'=>by
   by_cases e1:i'=v
   ·subst e1;rw[updf_self];exact hl3
   ·rw[updf_ne _ _ e1]
    obtain ⟨k,hk1,rfl⟩:=hp.sur i' hi'
    by_cases e2:k<i
    ·exact (hk k e2).len
    ·rw[(hz k (by omega) hk1).1];simp
  have hOlen:∀i',i'<e.n→(O i').length≤1000000:=fun i' hi'=>by
   obtain ⟨k,hk1,rfl⟩:=hp.sur i' hi'
   by_cases e2:k<i
   ·rw[(hk k e2).outs]
    refine Nat.le_trans allF_len ?_
    have hb:=szs_bound hF (hk k e2).places (hF.inc _ hi')
    have:=prod_bound (l:=szs c R (F (num k)) (N (num k))) fun y hy=>by have:=hb y hy;omega
    have hl4:(szs c R (F (num k)) (N (num k))).length≤7:=by have:=(hk k e2).len;have:=hN3 (num k);simp[szs];omega
    have:=pow4_mono hl4
    have:(4:Int) ^ 7=16384:=by decide
    omega
   ·rw[(hz k (by omega) hk1).2];simp
  have hA:=hI.agg he hD (by omega) fun i' hi'=>⟨by have:=hFlen i' hi';omega,by have:=hN3 i';omega,by have:=hOlen i' hi';omega⟩
  have hb:=szs_bound hF hl1 (hF.inc v hv)
  have hll:(szs c R l (N v)).length≤7:=by have:=hN3 v;simp[szs];omega
  have hpb:=prod_bound (l:=szs c R l (N v)) fun y hy=>by have:=hb y hy;omega
  have:=pow4_mono hll
  have h47:(4:Int) ^ 7=16384:=by decide
  simp only[sx,sy,SO.run,↓reduceIte,Nat.reduceEqDiff,Nat.reduceAdd,Nat.reduceLeDiff,f_ref33_Draft_Model_k17,h4,h15,hI.h4]
  refine sat_ex (rsizes_ok (i:=v) (x:=⟨c v,l,N v,O v⟩) hd hA (by rw[mkM_get hv,updf_self]) (by simp[mkM];omega) (by simp[mkM];omega) (by simpa [mkM] using hl1) (by simpa [mkM] using hF.inc v hv)) fun r hr=>?_
  rw[sizes_mkM hl1] at hr
  simp only[sx,sy,SO.run,↓reduceIte,Nat.reduceEqDiff,Nat.reduceAdd,Nat.reduceLeDiff]
  refine sat_ex (all_ok hd (hr.sl _) (fun x hx=>by have:=hb x hx;omega) (by omega) (by omega)) fun r18 hr18=>?_
  simp only[sx,sy,SO.run,↓reduceIte,Nat.reduceEqDiff,Nat.reduceAdd,Nat.reduceLeDiff]
  refine m_b16 (e:=e) (r6:=r6) (r18:=r18) (i:=i) (v:=v) (cards:=szs c R l (N v)) (F:=updf F v l) hd he hpr hi hv hr18 (fun x hx=>by have:=hb x hx;omega) (by omega) (Nat.le_trans allF_len (by omega)) (by simp[sx,MSt3,St,h1,h2,h3,h4,h5,h6,h7,h9,h14,h15]) (by simp[sx]) (hF.card v hv) hol (fun h=>?_) (by rw[updf_self];omega) hI hD hOv ?_
  ·rw[updf_self]
   have:=List.length_pos_iff.2 (hon v hv h)
   simp[szs];omega
  clear h1 h2 h3 h4 h5 h6 h7 h9 h14 h15 hI hD hA
  rintro t g V W lo ⟨h1,h2,h3,h4,h5,h6,h7,h9,h14,h15,h18,-⟩ hI hD hlo1 hlo2
  simp only[sx,↓reduceIte,h14]
  refine ⟨⟨rfl,by simp[sx,MSt,St,h1,h2,h3,h4,h5,h6,h7,h9],V,W,_,_,hI,hD,fun k hk1 hk2=>?_,fun k hk1=>?_⟩,by simp[sx,h14]⟩
  ·have hne:num k≠v:=fun e1=>by have:=hp.inj k i hk2 hi (by rw[e1,hve]);omega
   rw[updf_ne _ _ hne,updf_ne _ _ hne]
   exact hz k (by omega) hk2
  ·by_cases e1:k=i
   ·subst e1
    exact ⟨by rw[hve,updf_self];exact hl1,by rw[hve,updf_self];exact hl2,by rw[hve,updf_self];exact hl3,by rw[hve,updf_self,updf_self];exact hlo1,by rw[hve,updf_self];exact hlo2⟩
   ·have hne:num k≠v:=fun e2=>e1 (hp.inj k i (by omega) hi (by rw[e2,hve]))
    have hkk:=hk k (by omega)
    exact ⟨by rw[updf_ne _ _ hne];exact hkk.places,by rw[updf_ne _ _ hne];exact hkk.down,by rw[updf_ne _ _ hne];exact hkk.len,by rw[updf_ne _ _ hne,updf_ne _ _ hne];exact hkk.outs,by rw[updf_ne _ _ hne];exact hkk.out⟩
 ·rintro t df g ⟨rfl,ht,V,W,F,O,hI,hD,hz,hk⟩
  exact fin t g V W F O ht hI hD hk
end
end Hx
end
