/- A part of the proof: an interpreter over abstract values, shown right against the model, and what the functions of the chapter compute on it. -/
import Derived.KernelRfl
import Derived.Test.YtaebcalnodgpnaaHx12
set_option linter.unusedVariables false
set_option linter.unusedSimpArgs false
set_option linter.unnecessarySimpa false
section
namespace Hx
open Go
noncomputable section
theorem low_unique {n d c w:Nat}(hc:Nat.Coprime n d)(hd:0<d)(hw:0<w)(h:n*w=c*d):S.low c w=((n:Int),(d:Int)):=by
 have h1:d ∣ n*w:=⟨c,by rw[h,Nat.mul_comm]⟩
 obtain ⟨k,hk⟩:=hc.symm.dvd_of_dvd_mul_left h1
 have hk0:0<k:=Nat.pos_of_ne_zero fun e=>by rw[e,Nat.mul_zero] at hk;omega
 have hcn:c=n*k:=by
  have:c*d=n*k*d:=by rw[←h,hk,Nat.mul_assoc,Nat.mul_comm k d]
  exact Nat.eq_of_mul_eq_mul_right hd this
 have hg:Nat.gcd c w=k:=by
  rw[hcn,hk,Nat.gcd_mul_right,show Nat.gcd n d=1 from hc,Nat.one_mul]
 unfold S.low
 rw[hg,hcn,hk,Nat.mul_div_cancel _ hk0,Nat.mul_div_cancel _ hk0]
abbrev QN:=Nat×Nat
theorem agg_n {x:QN}{P:Nat→Prop}{k:Nat}{h:H}{v:AV}(h1:x.1<18446744073709551616)(h2:x.2<18446744073709551616):Agg x P k h v↔v=.agg [.int .u64 (x.1:Int),.int .u64 (x.2:Int)]:=by
 constructor
 ·rintro ⟨cs,rfl,hc⟩
  obtain ⟨a,b,rfl,q1,q2⟩:=rp_pair.1 hc
  rw[(rp_nat.1 q1).1,(rp_nat.1 q2).1];rfl
 ·rintro rfl
  exact ⟨_,rfl,rp_pair.2 ⟨[.int .u64 (x.1:Int)],[.int .u64 (x.2:Int)],rfl,rp_nat.2 ⟨rfl,h1⟩,rp_nat.2 ⟨rfl,h2⟩⟩⟩
theorem times_ok {d:Nat}{g:G}{x y:Nat}(hd:0<d)(h:x*y<18446744073709551616)(hx:x<18446744073709551616)(hy:y<18446744073709551616) :
  callV C0 d N.frac_times [.int .u64 (x:Int),.int .u64 (y:Int)] g=.val (.agg [.int .u64 0,.int .u64 ((x*y:Nat):Int)]):=by
 have key:∃r,callV C0 d N.frac_times [.int .u64 (x:Int),.int .u64 (y:Int)] g=.val r∧Agg (((0:Nat),x*y):QN) NoP 0 .nil r:=by
  rw[call_frac_times]
  refine iso_run eq_frac_times (xs:=[.int .u64 (x:Int),.int .u64 (y:Int)]) (by simp only[mapO,arg_int 0]) (by simp[f_frac_times]) (snb_agg _) (by decide) hd ?_
  have e1:∀g,callV C0 (d+1) N.mathbits_Mul64 [.int .u64 (x:Int),.int .u64 (y:Int)] g=.val (.tup [.int .u64 0,.int .u64 ((x*y:Nat):Int)]):=fun g=>mul64_ok (Nat.succ_pos d) h hx hy
  simp only[f_frac_times,f_frac_times_r,sx,sy,SO.run,↓reduceIte,Nat.reduceEqDiff,Nat.reduceAdd,Nat.reduceLeDiff,e1,H.get_put]
  exact ⟨NoP,(agg_n (x:=(0,x*y)) (by show (0:Nat)<18446744073709551616;decide) h).2 rfl⟩
 obtain ⟨r,h1,h2⟩:=key
 rw[h1,(agg_n (x:=(0,x*y)) (by show (0:Nat)<18446744073709551616;decide) h).1 h2];rfl
theorem fcheck_ok {d:Nat}{g:G}{n m:Nat}(hd:0<d)(hn:n≤4611686018427387903)(hm0:0<m)(hm:m≤4611686018427387903)(hg:Nat.gcd n m=1):callV C0 d N.frac_Check [.agg [.int .i64 (n:Int),.int .i64 (m:Int)]] g=.val (.int .i64 0):=by
 rw[call_frac_Check]
 refine iso_int eq_frac_Check (xs:=[.agg [.int .i64 (n:Int),.int .i64 (m:Int)]]) rfl (by simp[f_frac_Check]) hd ?_
 have l1:decide ((m:Int)<1)=false:=by simp;omega
 have l2:decide ((4611686018427387903:Int)<(m:Int))=false:=by simp;omega
 have l3:decide ((n:Int) < -4611686018427387903)=false:=by rw[decide_eq_false_iff_not];omega
 have l4:decide ((4611686018427387903:Int)<(n:Int))=false:=by simp;omega
 have e1:∀g,callV C0 (d+1) N.frac_size [.int .i64 (n:Int)] g=.val (.int .u64 (n:Int)):=fun g=>fsize_ok (Nat.succ_pos d) ⟨by omega,by omega⟩
 have e3:∀g,callV C0 (d+1) N.frac_common [.int .u64 (n:Int),.int .u64 (m:Int)] g=.val (.int .u64 1):=fun g=>by rw[common_ok (Nat.succ_pos d) (by omega) (by omega),hg];rfl
 simp only[f_frac_Check,f_frac_Check_r,sx,sy,SO.run,↓reduceIte,Nat.reduceEqDiff,Nat.reduceAdd,Nat.reduceLeDiff,H.get_put,l1,l2,l3,l4,e1,e3,wrapu64 (show (0:Int)≤(m:Int) by omega) (show (m:Int)<18446744073709551616 by omega),decide_true,Bool.not_true,true_and]
end
end Hx
end
section
namespace Hx
open Go
noncomputable section
theorem snap_qi {h:H}{id:Nat}{a b:Int}(d k:Nat)(hg:h.get id=.cells 2 [[.int .i64 a,.int .i64 b]] 0 false false):Hx.snap h d (k+3) (.hptr id 0 0 0)=some (.tptr (Nat.max d 0) 2 [[.int .i64 a,.int .i64 b]] 0 0):=by
 simp only[Hx.snap,hg,show Nat.beq 0 0=true from rfl,bif'_true,mapO]
 rfl
theorem snap_cl {h:H}{id f:Nat}(d k:Nat)(hg:h.get id=.cells 1 [[.clo f [] []]] 0 false false):Hx.snap h d (k+3) (.hptr id 0 0 0)=some (.tptr (Nat.max d 0) 1 [[.clo f [] []]] 0 0):=by
 simp only[Hx.snap,hg,show Nat.beq 0 0=true from rfl,bif'_true,mapO]
 rfl
theorem snap_clo3 {h:H}{d f:Nat}{a b c a' b' c':AV}(ha:Hx.snap h d 23 a=some a')(hb:Hx.snap h d 23 b=some b')(hc:Hx.snap h d 23 c=some c'):Hx.snap h d depthA (.clo f [] [a,b,c])=some (.clo f [] [a',b',c']):=by
 show (match mapO (Hx.snap h d 23) [],mapO (Hx.snap h d 23) [a,b,c] with | some as',some cs=>some (AV.clo f as' cs) | _,_=>none)=_
 simp only[mapO,ha,hb,hc]
theorem dyn_both_1 (d:Nat)(a b c:AV)(g:G):callF C0 (I C0) d (.clo N.frac_bothapi_Q_1 [] [a,b,c]) [] g=orF ((I C0).call d N.frac_bothapi_Q_1 [a,b,c] g):=by kernel_rfl
end
end Hx
end
section
namespace Hx
open Go
noncomputable section
theorem nextFrom_last {cards:List Int}:∀{k:Nat} {l:List Int},S.combo cards l→k≤l.length→(S.nextFrom cards l k).2=false→∀(i:Nat) (c v:Int),i<k→cards[i]?=some c→l[i]?=some v→v+1=c
 | 0,l,_,_,_,i,c,v,hi,_,_=>by omega
 | k+1,l,hco,hk,h,i,c',v',hi,hc',hv'=>by
  obtain ⟨v,hv⟩:∃v,l[k]?=some v:=⟨_,List.getElem?_eq_getElem (by omega)⟩
  obtain ⟨c,hc⟩:∃c,cards[k]?=some c:=⟨_,List.getElem?_eq_getElem (by have:=hco.1;omega)⟩
  have hb:=hco.2 k c v hc hv
  simp only[S.nextFrom,hv,hc,Option.getD_some] at h
  split at h
  ·cases h
  ·rename_i hq
   by_cases e:i=k
   ·subst e
    rw[hc] at hc';injection hc' with hc';subst hc'
    rw[hv] at hv';injection hv' with hv';subst hv'
    omega
   ·refine nextFrom_last (combo_set hco hc (show (0:Int)≤0 by omega) (show (0:Int)<c by omega)) (by simp;omega) h i c' v' (by omega) hc' ?_
    rw[List.getElem?_set_ne (by omega)];exact hv'
theorem rank_last:∀{cards l:List Int},cards.length=l.length→(∀(i:Nat) (c v:Int),cards[i]?=some c→l[i]?=some v→v+1=c)→S.rank cards l+1=S.prod cards
 | [],[],_,_=>rfl
 | c::cs,v::l,hl,h=>by
  have h0:=h 0 c v rfl rfl
  have ih:=rank_last (cards:=cs) (l:=l) (by simpa using hl) fun i c v hc hv=>h (i+1) c v (by simpa using hc) (by simpa using hv)
  rw[prod_cons,←h0]
  show v*S.prod cs+S.rank cs l+1=_
  rw[Int.add_mul,Int.one_mul];omega
 | [],_::_,h,_=>by simp at h
 | _::_,[],h,_=>by simp at h
theorem allF_count {cards:List Int}:∀{f:Nat} {v:List Int},S.combo cards v→S.rank cards v+(f:Int)=S.prod cards→(S.allF cards f v).length=f
 | 0,v,_,_=>rfl
 | f+1,v,hco,h=>by
  simp only[S.allF,List.length_cons]
  split
  ·rename_i hn
   obtain ⟨h1,h2⟩:=next_rank hco hn
   rw[allF_count h2 (by rw[h1];omega)]
  ·rename_i hn
   have hf:=nextFrom_last hco (Nat.le_refl _) (by simpa [S.next] using hn)
   have hl:=rank_last hco.1 fun i c v hc hv=>hf i c v (List.getElem?_eq_some_iff.1 hv).1 hc hv
   simp;omega
theorem all_count {cards:List Int}(h:∀c∈cards,1≤c):((S.all cards).length:Int)=S.prod cards:=by
 have hp:0≤S.prod cards:=by
  have:=rank_bound (combo_zero h);omega
 rw[S.all,allF_count (combo_zero h) (by rw[rank_zero];omega)]
 omega
theorem prod_bound3:∀{l:List Int},(∀x∈l,1≤x∧x≤3)→1≤S.prod l∧S.prod l≤3 ^ l.length
 | [],_=>⟨by decide,by decide⟩
 | a::l,h=>by
  obtain ⟨h1,h2⟩:=prod_bound3 (l:=l) fun x hx=>h x (by simp[hx])
  obtain ⟨h3,h4⟩:=h a (by simp)
  rw[prod_cons,List.length_cons,Int.pow_succ,Int.mul_comm (3 ^ l.length)]
  refine ⟨?_,Int.mul_le_mul h4 h2 (by omega) (by decide)⟩
  have:=Int.mul_le_mul h3 h1 (by decide) (by omega)
  omega
theorem pow3_6 {n:Nat}(h:n≤6):(3:Int) ^ n≤729:=by
 match n,h with
 | 0,_=>decide
 | 1,_=>decide
 | 2,_=>decide
 | 3,_=>decide
 | 4,_=>decide
 | 5,_=>decide
 | 6,_=>decide
 | n+7,h=>omega
theorem weights_root {gr q z:Int}(h1:2≤gr)(h2:gr≤12):S.rootOk gr (S.weights gr q z)=true:=by
 have b1:=Int.emod_nonneg z (show gr - 1≠0 by omega)
 have b2:=Int.emod_lt_of_pos z (show 0<gr - 1 by omega)
 have b3:=Int.emod_nonneg (z / 12) (show gr - (1+z % (gr - 1))+1≠0 by omega)
 have b4:=Int.emod_lt_of_pos (z / 12) (show 0<gr - (1+z % (gr - 1))+1 by omega)
 unfold S.weights
 generalize z % (gr - 1)=A at *
 generalize z / 12 % (gr - (1+A)+1)=B at *
 split
 ·simp[S.rootOk,S.within];omega
 ·simp[S.rootOk,S.within];omega
theorem made_right {m:Causal}(h:Made m):S.check m=true:=by
 rw[check_right]
 obtain ⟨e,c,R,F,N,O,num,rfl,hn,hg,hF,hR,hN,hlt,hinj,hsur,hnd⟩:=h.ex
 have hnl:(mkM e c R F N O).nodes.length=e.n:=by simp[mkM]
 have hnode:∀x∈(mkM e c R F N O).nodes,∃k,k<e.n∧x=⟨c (num k),F (num k),N (num k),O (num k)⟩:=fun x hx=>by
  obtain ⟨i,hi,rfl⟩:=List.mem_map.1 hx
  obtain ⟨k,hk,rfl⟩:=hsur i (List.mem_range.1 hi)
  exact ⟨k,hk,rfl⟩
 have hplN:∀k,k<e.n→S.places (N (num k)) R.length=true:=fun k hk=>hF.inc _ (hlt k hk)
 have hpl:(S.pars (mkM e c R F N O)).length=e.n:=by simp[S.pars,mkM]
 simp only[S.right,Bool.and_eq_true,decide_eq_true_eq]
 refine ⟨⟨⟨⟨⟨⟨⟨⟨⟨⟨by show 1≤e.gr;omega,hg.2⟩,by show R.length≤8;omega⟩,by omega⟩,by omega⟩,?_⟩,?_⟩,?_⟩,?_⟩,?_⟩,?_⟩
 ·rw[List.all_eq_true]
  intro r hr
  obtain ⟨q,z,-,-,-,rfl⟩:=hF.roots r hr
  exact weights_root hg.1 hg.2
 ·rw[List.all_eq_true]
  intro x hx
  obtain ⟨k,hk,rfl⟩:=hnode x hx
  have hc:=hF.card _ (hlt k hk)
  have h1:=(hnd k hk).places
  have h2:=hplN k hk
  simp only[S.nodeR,Bool.and_eq_true,decide_eq_true_eq]
  exact ⟨⟨⟨by show 1≤c (num k);omega,by show c (num k)≤4;omega⟩,by rw[hnl];exact h1⟩,h2⟩
 ·have:=prod_bound3 (l:=R.map fun r=>(r.length:Int)) fun x hx=>by
   obtain ⟨r,hr,rfl⟩:=List.mem_map.1 hx
   obtain ⟨q,z,-,-,-,rfl⟩:=hF.roots r hr
   have:=weights_len e.gr q z
   omega
  have hp:=pow3_6 (n:=(R.map fun r=>(r.length:Int)).length) (by simpa using hR)
  show S.prod (R.map fun r=>(r.length:Int))≤1024
  omega
 ·have:=prod_bound3 (l:=(mkM e c R F N O).nodes.map (·.card)) fun x hx=>by
   obtain ⟨y,hy,rfl⟩:=List.mem_map.1 hx
   obtain ⟨k,hk,rfl⟩:=hnode y hy
   have hc:=hF.card _ (hlt k hk)
   show 1≤c (num k)∧c (num k)≤3
   omega
  have hp:=pow3_6 (n:=((mkM e c R F N O).nodes.map (·.card)).length) (by rw[List.length_map,hnl];omega)
  omega
 ·rw[acyc_iff]
  intro v hv
  rw[hpl] at hv
  obtain ⟨k,hk,rfl⟩:=hsur v hv
  have hpar:∀k,k<e.n→Par (S.pars (mkM e c R F N O)) (num k)=S.mask (F (num k)):=fun k hk=>by
   simp[Par,S.pars,mkM_get (hlt k hk)]
  have hT:∀k,k≤e.n→∀u,(S.mask ((List.range k).map fun i=>(num i:Int))).testBit u=true↔∃i,i<k∧num i=u:=fun k hk u=>by
   rw[mask_tb (n:=e.n) (by omega) (fun x hx=>by
    obtain ⟨i,hi,rfl⟩:=List.mem_map.1 hx
    have:=hlt i (by have:=List.mem_range.1 hi;omega)
    omega),List.contains_iff_mem]
   constructor
   ·intro hx
    obtain ⟨i,hi,he⟩:=List.mem_map.1 hx
    exact ⟨i,List.mem_range.1 hi,by omega⟩
   ·rintro ⟨i,hi,rfl⟩
    exact List.mem_map.2 ⟨i,List.mem_range.2 hi,rfl⟩
  have hdown:∀k,k<e.n→∀u,(Par (S.pars (mkM e c R F N O)) (num k)).testBit u=true→∃i,i<k∧num i=u:=fun k hk u hu=>by
   rw[hpar k hk,mask_tb (n:=e.n) (by omega) (places_mem (hnd k hk).places),List.contains_iff_mem] at hu
   obtain ⟨k',hk',he⟩:=(hnd k hk).down _ hu
   exact ⟨k',hk',by omega⟩
  have hcl:Cl (S.pars (mkM e c R F N O)) (S.mask ((List.range k).map fun i=>(num i:Int))):=fun u hu hb w hw=>by
   obtain ⟨i,hi,rfl⟩:=(hT k (by omega) u).1 hb
   obtain ⟨i',hi',rfl⟩:=hdown i (by omega) w hw
   exact (hT k (by omega) _).2 ⟨i',by omega,rfl⟩
  have hsub:Sub (Par (S.pars (mkM e c R F N O)) (num k)) (S.mask ((List.range k).map fun i=>(num i:Int))):=fun w hw=>(hT k (by omega) w).2 (hdown k hk w hw)
  rw[←Bool.not_eq_true]
  intro hb
  obtain ⟨i,hi,he⟩:=(hT k (by omega) _).1 (up_sub hcl hsub _ _ hb)
  have:=hinj i k (by omega) hk he
  omega
 ·rw[List.all_eq_true]
  intro x hx
  obtain ⟨k,hk,rfl⟩:=hnode x hx
  have h1:=(hnd k hk).places
  have hb:=szs_bound hF h1 (hplN k hk)
  simp only[S.outR,Bool.and_eq_true,decide_eq_true_eq]
  refine ⟨?_,?_⟩
  ·rw[sizes_mkM h1]
   show ((O (num k)).length:Int)=_
   rw[(hnd k hk).outs,all_count fun y hy=>by have:=hb y hy;omega]
  ·simp only[S.within,List.all_eq_true]
   intro y hy
   have:=(hnd k hk).out y hy
   simp;omega
end
end Hx
end
section
namespace Hx
open Go
noncomputable section
theorem eq_qi (a b:Int):eqlV false (.flat [.int .i64,.int .i64]) (.agg [.int .i64 a,.int .i64 b]) (.agg [.int .i64 a,.int .i64 b])=.val (.bool true):=by
 have ha:ieqb a a=true:=by rw[ieqb_eq];simp
 have hb:ieqb b b=true:=by rw[ieqb_eq];simp
 simp only[eqlV,eqA,kindsOk,eqCells,eqCell,ha,hb]
 rfl
theorem clone_ok {d:Nat}{g:G}{l:List Int}{v:AV}{K:AV→G→Prop}{D:ADf→Prop}(hv:SlR NoP 0 .nil l v)(hl:0<l.length)(hl2:l.length≤1000)(kk:∀u g',Own g' g.nx u 1 (l.map ci)→Fr g g'→K u g') :
  (callV C0 d N.slices_Cloneintint [v] g).sat K g D:=by
 have hne:eqlV false .slice v .nils=.val (.bool false):=by
  have h:=hv.2
  unfold SlV at h
  split at h
  ·rw[h] at hl;simp at hl
  ·rw[h] at hl;simp at hl
  ·rfl
  ·exact h.1.elim
  ·exact h.elim
 rw[call_slices_Cloneintint]
 refine dir_run eq_slices_Cloneintint (by simp[f_slices_Cloneintint]) ?_
 simp only[f_slices_Cloneintint,sx,sy,SO.run,↓reduceIte,Nat.reduceEqDiff,Nat.reduceAdd,Nat.reduceLeDiff,hne]
 refine append_own (b:=g.nx) (v:=.hsl g.nx 0 0 0 none) (rows:=[]) (new:=l.map ci) (.inr ⟨g.nx,0,false,Nat.le_refl _,by simp,rfl,by simp[H.get_put]⟩) ((hv.tree (Nat.le_refl _)).ints) (by simp) (by simp[room];omega) fun u g1 hu n1 f1 _ _=>?_
 simp only[sx,sy,SO.run,↓reduceIte,Nat.reduceEqDiff]
 exact kk u g1 (by simpa using hu) ⟨by simp at n1;omega,fun i hi=>by rw[f1 i (by simp;omega) (by simp[vid];omega)];simp[H.get_put,show ¬i=g.nx by omega]⟩
theorem sem_I {C:Cfg}(n:Nat):IHLe (sem C n) (I C):=by
 refine ⟨fun nt d rd c t df g=>?_,fun d f as' g=>?_⟩
 ·obtain ⟨m,h'⟩:=Ct.code (C:=C) nt d rd c t df g
  have h1:(sem C (max n m)).code nt d rd c t df g=(I C).code nt d rd c t df g:=h' (max n m) (by omega)
  rw[←h1]
  exact (sem_le C (by omega)).code nt d rd c t df g
 ·obtain ⟨m,h'⟩:=Ct.call (C:=C) d f as' g
  have h1:(sem C (max n m)).call d f as' g=(I C).call d f as' g:=h' (max n m) (by omega)
  rw[←h1]
  exact (sem_le C (by omega)).call d f as' g
end
end Hx
end
section
namespace Hx
open Go
noncomputable section
theorem iso_args {ih:IH}{d:Nat}{g:G}{f:Nat}{args xs:List AV}{v:AV}(h:mapO (Hx.snap g.h d depthA) args=some xs)(h':mapO (Hx.snap G.empty.h d depthA) xs=some xs)(h2:isoCall ih d G.empty f xs=.val v):isoCall ih d g f args=.val v:=by
 unfold isoCall at h2 ⊢
 generalize depthA=D at h h' h2 ⊢
 rw[h'] at h2
 rw[h]
 dsimp only at h2 ⊢
 cases hc:ih.call d.succ f xs G.empty with
 | fail=>rw[hc] at h2;cases h2
 | ok r g' =>
  rw[hc] at h2
  dsimp only at h2 ⊢
  cases hs:Hx.snap g'.h 0 D r with
  | none=>rw[hs] at h2;cases h2
  | some r' =>
   rw[hs] at h2
   dsimp only at h2 ⊢
   cases ht:tagO D r' with
   | none=>rw[ht] at h2;cases h2
   | some m =>
    rw[ht] at h2
    dsimp only at h2 ⊢
    rw[bif'_eq] at h2 ⊢
    split at h2
    ·rename_i hb;rw[if_pos hb];exact h2
    ·split at h2
     ·cases h2
     split at h2
     ·cases h2
     rw[bif'_eq] at h2
     split at h2<;>cases h2
theorem rep1:isoCall (sem C0 40) 1 G.empty N.slices_Repeatintint [.tsl 1 1 [[.int .i64 (-1)]],.int .i64 1]=.val (.tsl 0 1 [[.int .i64 (-1)]]):=by kernel_rfl
theorem rep2:isoCall (sem C0 40) 1 G.empty N.slices_Repeatintint [.tsl 1 1 [[.int .i64 (-1)]],.int .i64 2]=.val (.tsl 0 1 [[.int .i64 (-1)],[.int .i64 (-1)]]):=by kernel_rfl
theorem rep3:isoCall (sem C0 40) 1 G.empty N.slices_Repeatintint [.tsl 1 1 [[.int .i64 (-1)]],.int .i64 3]=.val (.tsl 0 1 [[.int .i64 (-1)],[.int .i64 (-1)],[.int .i64 (-1)]]):=by kernel_rfl
theorem rep4:isoCall (sem C0 40) 1 G.empty N.slices_Repeatintint [.tsl 1 1 [[.int .i64 (-1)]],.int .i64 4]=.val (.tsl 0 1 [[.int .i64 (-1)],[.int .i64 (-1)],[.int .i64 (-1)],[.int .i64 (-1)]]):=by kernel_rfl
theorem rep5:isoCall (sem C0 40) 1 G.empty N.slices_Repeatintint [.tsl 1 1 [[.int .i64 (-1)]],.int .i64 5]=.val (.tsl 0 1 [[.int .i64 (-1)],[.int .i64 (-1)],[.int .i64 (-1)],[.int .i64 (-1)],[.int .i64 (-1)]]):=by kernel_rfl
theorem call_rep (d:Nat)(xs:List AV)(g:G):callV C0 d N.slices_Repeatintint xs g=isoCall (I C0) d g N.slices_Repeatintint xs:=by kernel_rfl
theorem sem_val {d:Nat}{g:G}{f:Nat}{xs:List AV}{v:AV}(h:isoCall (sem C0 40) d g f xs=.val v):isoCall (I C0) d g f xs=.val v:=by
 rcases isoCall_le (sem_I (C:=C0) 40) (d:=d) (g:=g) (f:=f) (args:=xs) with q | q
 ·rw[h] at q;cases q
 ·rw[←q,h]
theorem rep_ok {g:G}{id:Nat}{n:Nat}(h0:0<n)(h1:n≤5)(hg:g.h.get id=.cells 1 [[.int .i64 (-1)]] 0 false false):∃r,callV C0 1 N.slices_Repeatintint [.hsl id 0 0 1 none,.int .i64 (n:Int)] g=.val r∧IT 0 (List.replicate n (-1)) r:=by
 rw[call_rep]
 have ia:∀v,isoCall (I C0) 1 G.empty N.slices_Repeatintint [.tsl 1 1 [[.int .i64 (-1)]],.int .i64 (n:Int)]=.val v→isoCall (I C0) 1 g N.slices_Repeatintint [.hsl id 0 0 1 none,.int .i64 (n:Int)]=.val v:=fun v h=>iso_args (xs:=[.tsl 1 1 [[.int .i64 (-1)]],.int .i64 (n:Int)]) (by simp only[mapO,Hx.snap,depthA,hg];rfl) rfl h
 have key:∀r rows,r=AV.tsl 0 1 rows→All2 (Rp.rp (α:=Int) NoP 0 .nil) (List.replicate n (-1)) rows→IT 0 (List.replicate n (-1)) r:=fun r rows e h=>.mk ⟨by simp;omega,by rw[e];exact ⟨Nat.le_refl _,.inl rfl,h⟩⟩
 have u:Rp.rp (α:=Int) NoP 0 .nil (-1) [.int .i64 (-1)]:=rp_int.2 rfl
 have hn:n=1∨n=2∨n=3∨n=4∨n=5:=by omega
 rcases hn with rfl | rfl | rfl | rfl | rfl
 ·exact ⟨_,ia _ (sem_val rep1),key _ _ rfl ⟨u,trivial⟩⟩
 ·exact ⟨_,ia _ (sem_val rep2),key _ _ rfl ⟨u,u,trivial⟩⟩
 ·exact ⟨_,ia _ (sem_val rep3),key _ _ rfl ⟨u,u,u,trivial⟩⟩
 ·exact ⟨_,ia _ (sem_val rep4),key _ _ rfl ⟨u,u,u,u,trivial⟩⟩
 ·exact ⟨_,ia _ (sem_val rep5),key _ _ rfl ⟨u,u,u,u,u,trivial⟩⟩
end
end Hx
end
section
namespace Hx
open Go
theorem co_left {t p q u v:Nat}(hu:Nat.gcd u p=1)(hpq:Nat.gcd p q=1)(ht:t=u*q+v*p):Nat.gcd t p=1:=by
 have h:Nat.gcd t p ∣ u*q:=by
  have h1:Nat.gcd t p ∣ u*q+v*p:=by rw[←ht];exact Nat.gcd_dvd_left t p
  exact (Nat.dvd_add_left (Nat.dvd_trans (Nat.gcd_dvd_right t p) (Nat.dvd_mul_left p v))).1 h1
 have hc:Nat.Coprime p (u*q):=Nat.Coprime.mul_right (Nat.Coprime.symm hu) hpq
 have:Nat.gcd t p ∣ Nat.gcd p (u*q):=Nat.dvd_gcd (Nat.gcd_dvd_right t p) h
 rw[hc] at this
 exact Nat.dvd_one.1 this
theorem add_low {u u' v v' g h:Nat}(hu:Nat.gcd u u'=1)(hv:Nat.gcd v v'=1)(u0:0<u')(v0:0<v')(hg:Nat.gcd u' v'=g)(hh:Nat.gcd ((u*(v' / g)+v*(u' / g)) % g) g=h) :
  Nat.Coprime ((u*(v' / g)+v*(u' / g)) / h) (u' / g*(v' / h))∧0<u' / g*(v' / h)∧0<g∧0<h∧(u*(v' / g)+v*(u' / g)) / h*(u'*v')=(u*v'+v*u')*(u' / g*(v' / h)):=by
 have g0:0<g:=by rw[←hg];exact Nat.gcd_pos_of_pos_left _ u0
 obtain ⟨p,hp⟩:∃p,u' / g=p:=⟨_,rfl⟩
 obtain ⟨q,hq⟩:∃q,v' / g=q:=⟨_,rfl⟩
 have gu:g ∣ u':=by rw[←hg];exact Nat.gcd_dvd_left _ _
 have gv:g ∣ v':=by rw[←hg];exact Nat.gcd_dvd_right _ _
 have eu:u'=p*g:=by rw[←hp,Nat.div_mul_cancel gu]
 have ev:v'=q*g:=by rw[←hq,Nat.div_mul_cancel gv]
 have hpq:Nat.gcd p q=1:=by rw[←hp,←hq,←hg];exact Nat.gcd_div_gcd_div_gcd_of_pos_left u0
 rw[hp,hq] at hh ⊢
 obtain ⟨t,ht⟩:∃t,t=u*q+v*p:=⟨_,rfl⟩
 rw[←ht] at hh ⊢
 have hh:Nat.gcd t g=h:=by rw[←hh,←Nat.gcd_rec,Nat.gcd_comm]
 have h0:0<h:=by rw[←hh];exact Nat.gcd_pos_of_pos_right _ g0
 have htd:h ∣ t:=by rw[←hh];exact Nat.gcd_dvd_left _ _
 have hgd:h ∣ g:=by rw[←hh];exact Nat.gcd_dvd_right _ _
 obtain ⟨t1,et⟩:=htd
 obtain ⟨g1,eg⟩:=hgd
 have e1:t / h=t1:=by rw[et,Nat.mul_div_cancel_left _ h0]
 have e2:v' / h=q*g1:=by rw[ev,eg,show q*(h*g1)=h*(q*g1) by rw[Nat.mul_left_comm],Nat.mul_div_cancel_left _ h0]
 have c1:Nat.gcd t p=1:=co_left (u:=u) (q:=q) (v:=v) (Nat.Coprime.coprime_dvd_right ⟨g,eu⟩ hu) hpq ht
 have c2:Nat.gcd t q=1:=co_left (u:=v) (q:=p) (v:=u) (Nat.Coprime.coprime_dvd_right ⟨g,ev⟩ hv) (by rw[Nat.gcd_comm];exact hpq) (by rw[ht,Nat.add_comm])
 have c3:Nat.gcd t1 g1=1:=by
  have:=Nat.gcd_mul_left h t1 g1
  rw[←et,←eg,hh] at this
  exact Nat.eq_of_mul_eq_mul_left h0 (by omega)
 have d1:t1 ∣ t:=⟨h,by rw[et,Nat.mul_comm]⟩
 have p0:0<p:=by rcases Nat.eq_zero_or_pos p with e | e;· rw[e] at eu;omega
                 ·exact e
 have q0:0<q:=by rcases Nat.eq_zero_or_pos q with e | e;· rw[e] at ev;omega
                 ·exact e
 have g10:0<g1:=by rcases Nat.eq_zero_or_pos g1 with e | e;· rw[e] at eg;omega
                   ·exact e
 rw[e1,e2]
 refine ⟨Nat.Coprime.mul_right (Nat.Coprime.coprime_dvd_left d1 c1) (Nat.Coprime.mul_right (Nat.Coprime.coprime_dvd_left d1 c2) c3),Nat.mul_pos p0 (Nat.mul_pos q0 g10),g0,h0,?_⟩
 have:u*v'+v*u'=t*g:=by rw[ht,eu,ev,Nat.add_mul,Nat.mul_assoc,Nat.mul_assoc]
 rw[this,et,eu,ev]
 have:t1*(p*g*(q*g))=t1*g*(p*(q*g)):=by ac_rfl
 rw[this]
 have:h*t1*g*(p*(q*g1))=t1*g*(p*(q*(h*g1))):=by ac_rfl
 rw[this,←eg]
theorem low_sum {c s w n d:Nat}{u u' v v':Nat}(w0:0<w)(u0:0<u')(v0:0<v')(e1:u*w=c*u')(e2:v*w=s*v')(hc:Nat.Coprime n d)(hd:0<d)(h:n*(u'*v')=(u*v'+v*u')*d):S.low (c+s) w=((n:Int),(d:Int)):=by
 refine low_unique hc hd w0 ?_
 refine Nat.eq_of_mul_eq_mul_right (Nat.mul_pos u0 v0) ?_
 have a1:n*w*(u'*v')=n*(u'*v')*w:=by ac_rfl
 rw[a1,h]
 have a2:(u*v'+v*u')*d*w=(u*w*v'+v*w*u')*d:=by rw[Nat.mul_right_comm,Nat.add_mul,Nat.mul_right_comm u,Nat.mul_right_comm v]
 rw[a2,e1,e2]
 have a3:c*u'*v'+s*v'*u'=(c+s)*(u'*v'):=by rw[Nat.add_mul];ac_rfl
 rw[a3];ac_rfl
theorem low_facts (c w:Nat)(w0:0<w):∃u u':Nat,S.low c w=((u:Int),(u':Int))∧Nat.gcd u u'=1∧0<u'∧u*w=c*u'∧u≤c∧u'≤w:=by
 have g0:0<Nat.gcd c w:=Nat.gcd_pos_of_pos_right _ w0
 refine ⟨c / Nat.gcd c w,w / Nat.gcd c w,rfl,Nat.gcd_div_gcd_div_gcd_of_pos_right w0,Nat.div_pos (Nat.le_of_dvd w0 (Nat.gcd_dvd_right _ _)) g0,?_,Nat.div_le_self _ _,Nat.div_le_self _ _⟩
 obtain ⟨x,hx⟩:=Nat.gcd_dvd_left c w
 obtain ⟨y,hy⟩:=Nat.gcd_dvd_right c w
 generalize Nat.gcd c w=z at *
 subst hx;subst hy
 rw[Nat.mul_div_cancel_left _ g0,Nat.mul_div_cancel_left _ g0];ac_rfl
end Hx
end
section
namespace Hx
open Go
set_option maxRecDepth 100000
noncomputable section
def f_mathbits_Div64_b0:SC:=.seq (.seq (.ops [o 67 (.mv (.t 15)),o 68 (.bin .geq (.t 67) (.k (.int .u64 4294967296))),o 69 (.mv (.t 68)),og 70 69 false (.mv (.t 15)),og 71 69 false (.mv (.t 10)),og 72 69 false (.bin .mul (.t 70) (.t 71)),og 73 69 false (.mv (.t 16)),og 74 69 false (.bin .mul (.k (.int .u64 4294967296)) (.t 73)),og 75 69 false (.mv (.t 13)),og 76 69 false (.bin .add (.t 74) (.t 75)),og 77 69 false (.bin .gtr (.t 72) (.t 76)),o 78 (.pick (.t 69) (.k (.bool true)) (.t 77))]) (.cond (.t 78) (.skip) (.exit 0))) (.blk 1 (.seq (.ops [o 79 (.mv (.t 15)),o 80 (.bin .sub (.t 79) (.k (.int .u64 1))),o 15 (.mv (.t 80))]) (.seq (.ops [o 81 (.mv (.t 16)),o 82 (.mv (.t 9)),o 83 (.bin .add (.t 81) (.t 82)),o 16 (.mv (.t 83))]) (.seq (.ops [o 84 (.mv (.t 16)),o 85 (.bin .geq (.t 84) (.k (.int .u64 4294967296)))]) (.cond (.t 85) (.exit 0) (.skip))))))
def f_mathbits_Div64_b1:SC:=.seq (.seq (.ops [o 102 (.mv (.t 18)),o 103 (.bin .geq (.t 102) (.k (.int .u64 4294967296))),o 104 (.mv (.t 103)),og 105 104 false (.mv (.t 18)),og 106 104 false (.mv (.t 10)),og 107 104 false (.bin .mul (.t 105) (.t 106)),og 108 104 false (.mv (.t 16)),og 109 104 false (.bin .mul (.k (.int .u64 4294967296)) (.t 108)),og 110 104 false (.mv (.t 14)),og 111 104 false (.bin .add (.t 109) (.t 110)),og 112 104 false (.bin .gtr (.t 107) (.t 111)),o 113 (.pick (.t 104) (.k (.bool true)) (.t 112))]) (.cond (.t 113) (.skip) (.exit 2))) (.blk 3 (.seq (.ops [o 114 (.mv (.t 18)),o 115 (.bin .sub (.t 114) (.k (.int .u64 1))),o 18 (.mv (.t 115))]) (.seq (.ops [o 116 (.mv (.t 16)),o 117 (.mv (.t 9)),o 118 (.bin .add (.t 116) (.t 117)),o 16 (.mv (.t 118))]) (.seq (.ops [o 119 (.mv (.t 16)),o 120 (.bin .geq (.t 119) (.k (.int .u64 4294967296)))]) (.cond (.t 120) (.exit 2) (.skip))))))
def f_mathbits_Div64_k2:SC:=.seq (.ops [o 121 (.mv (.t 15)),o 122 (.bin .mul (.t 121) (.k (.int .u64 4294967296))),o 123 (.mv (.t 18)),o 124 (.bin .add (.t 122) (.t 123)),o 125 (.mv (.t 17)),o 126 (.bin .mul (.t 125) (.k (.int .u64 4294967296))),o 127 (.mv (.t 14)),o 128 (.bin .add (.t 126) (.t 127)),o 129 (.mv (.t 18)),o 130 (.mv (.t 2)),o 131 (.bin .mul (.t 129) (.t 130)),o 132 (.bin .sub (.t 128) (.t 131)),o 133 (.mv (.t 8)),o 134 (.bin .shr (.t 132) (.t 133)),o 6 (.mv (.t 124)),o 7 (.mv (.t 134))]) (.ret)
def f_mathbits_Div64_k3:SC:=.seq (.ops [o 86 (.mv (.t 11)),o 87 (.bin .mul (.t 86) (.k (.int .u64 4294967296))),o 88 (.mv (.t 13)),o 89 (.bin .add (.t 87) (.t 88)),o 90 (.mv (.t 15)),o 91 (.mv (.t 2)),o 92 (.bin .mul (.t 90) (.t 91)),o 93 (.bin .sub (.t 89) (.t 92)),o 17 (.mv (.t 93))]) (.seq (.ops [o 94 (.mv (.t 17)),o 95 (.mv (.t 9)),o 96 (.bin .quo (.t 94) (.t 95)),o 18 (.mv (.t 96))]) (.seq (.ops [o 97 (.mv (.t 17)),o 98 (.mv (.t 18)),o 99 (.mv (.t 9)),o 100 (.bin .mul (.t 98) (.t 99)),o 101 (.bin .sub (.t 97) (.t 100)),o 16 (.mv (.t 101))]) (.seq (.blk 2 (.loop f_mathbits_Div64_b1)) f_mathbits_Div64_k2)))
def f_mathbits_Div64_k4:SC:=.seq (.seq (.ops [o 26 (.mv (.t 0)),o 27 (.bin .eql (.t 26) (.k (.int .u64 0)))]) (.cond (.t 27) (.seq (.quiet [o 28 (.mv (.t 1)),o 29 (.mv (.t 2)),o 30 (.bin .quo (.t 28) (.t 29)),o 31 (.mv (.t 1)),o 32 (.mv (.t 2)),o 33 (.bin .rem (.t 31) (.t 32)),o 6 (.mv (.t 30)),o 7 (.mv (.t 33))]) (.ret)) (.skip))) (.seq (.ops [o 34 (.mv (.t 2)),o 35 (.call N.mathbits_LeadingZeros64 [.t 34]),o 36 (.conv .u64 (.t 35)),o 8 (.mv (.t 36))]) (.seq (.ops [o 37 (.mv (.t 2)),o 38 (.mv (.t 8)),o 39 (.bin .shl (.t 37) (.t 38)),o 2 (.mv (.t 39))]) (.seq (.ops [o 40 (.mv (.t 2)),o 41 (.bin .shr (.t 40) (.k (.int .u64 32))),o 9 (.mv (.t 41))]) (.seq (.ops [o 42 (.mv (.t 2)),o 43 (.bin .and (.t 42) (.k (.int .u64 4294967295))),o 10 (.mv (.t 43))]) (.seq (.ops [o 44 (.mv (.t 0)),o 45 (.mv (.t 8)),o 46 (.bin .shl (.t 44) (.t 45)),o 47 (.mv (.t 1)),o 48 (.mv (.t 8)),o 49 (.bin .sub (.k (.int .u64 64)) (.t 48)),o 50 (.bin .shr (.t 47) (.t 49)),o 51 (.bin .or (.t 46) (.t 50)),o 11 (.mv (.t 51))]) (.seq (.ops [o 52 (.mv (.t 1)),o 53 (.mv (.t 8)),o 54 (.bin .shl (.t 52) (.t 53)),o 12 (.mv (.t 54))]) (.seq (.ops [o 55 (.mv (.t 12)),o 56 (.bin .shr (.t 55) (.k (.int .u64 32))),o 13 (.mv (.t 56))]) (.seq (.ops [o 57 (.mv (.t 12)),o 58 (.bin .and (.t 57) (.k (.int .u64 4294967295))),o 14 (.mv (.t 58))]) (.seq (.ops [o 59 (.mv (.t 11)),o 60 (.mv (.t 9)),o 61 (.bin .quo (.t 59) (.t 60)),o 15 (.mv (.t 61))]) (.seq (.ops [o 62 (.mv (.t 11)),o 63 (.mv (.t 15)),o 64 (.mv (.t 9)),o 65 (.bin .mul (.t 63) (.t 64)),o 66 (.bin .sub (.t 62) (.t 65)),o 16 (.mv (.t 66))]) (.seq (.blk 0 (.loop f_mathbits_Div64_b0)) f_mathbits_Div64_k3)))))))))))
def f_mathbits_Div64_k5:SC:=.seq (.seq (.ops [o 22 (.mv (.t 2)),o 23 (.mv (.t 0)),o 24 (.bin .leq (.t 22) (.t 23))]) (.cond (.t 24) (.ops [o 25 (.raw (.load 190 (.global 1))),oz (.raw (.panic (.tmp 25)))]) (.skip))) f_mathbits_Div64_k4
def f_mathbits_Div64:SF:=⟨135,[.tm 6,.tm 7],.seq (.ops [o 6 (.mv (.k (.int .u64 0))),o 7 (.mv (.k (.int .u64 0)))]) (.seq (.seq (.ops [o 19 (.mv (.t 2)),o 20 (.bin .eql (.t 19) (.k (.int .u64 0)))]) (.cond (.t 20) (.ops [o 21 (.raw (.load 190 (.global 0))),oz (.raw (.panic (.tmp 21)))]) (.skip))) f_mathbits_Div64_k5)⟩
theorem eq_mathbits_Div64:nFn C0 N.mathbits_Div64=some f_mathbits_Div64:=by kernel_rfl
theorem call_mathbits_Div64 (d:Nat)(xs:List AV)(g:G):callV C0 d N.mathbits_Div64 xs g=isoCall (I C0) d g N.mathbits_Div64 xs:=by kernel_rfl
end
end Hx
end
section
namespace Hx
open Go
noncomputable section
theorem quo_u64 {x y:Nat}(hx:x<18446744073709551616)(hy:0<y):binV .quo (.int .u64 (x:Int)) (.int .u64 (y:Int))=.val (.int .u64 ((x / y:Nat):Int)):=by
 have hle:x / y≤x:=Nat.div_le_self _ _
 rw[bin_quo .u64 (Int.natCast_nonneg x) (by omega),←Int.natCast_ediv]
 generalize x / y=z at hle
 rw[wrapu64 (by omega) (by omega)]
theorem rem_u64 {x y:Nat}(hy:0<y):binV .rem (.int .u64 (x:Int)) (.int .u64 (y:Int))=.val (.int .u64 ((x % y:Nat):Int)):=by
 rw[bin_rem .u64 (Int.natCast_nonneg x) (by omega),←Int.natCast_emod]
theorem div64_ok {d:Nat}{g:G}{x y:Nat}(hd:0<d)(hx:x<18446744073709551616)(hy:0<y)(hy2:y<18446744073709551616) :
  callV C0 d N.mathbits_Div64 [.int .u64 0,.int .u64 (x:Int),.int .u64 (y:Int)] g=.val (.tup [.int .u64 ((x / y:Nat):Int),.int .u64 ((x % y:Nat):Int)]):=by
 have k1:x / y<18446744073709551616:=by have:=Nat.div_le_self x y;omega
 have k2:x % y<18446744073709551616:=by have:=Nat.mod_lt x hy;omega
 have key:∃r,callV C0 d N.mathbits_Div64 [.int .u64 0,.int .u64 (x:Int),.int .u64 (y:Int)] g=.val r∧Tup2 (One (x / y:Nat)) (One (x % y:Nat)) NoP 0 .nil r:=by
  rw[call_mathbits_Div64]
  refine iso_run eq_mathbits_Div64 (xs:=[.int .u64 0,.int .u64 (x:Int),.int .u64 (y:Int)]) (by simp only[mapO,arg_int 0]) (by simp[f_mathbits_Div64]) (snb_tup2 (m:=1) (snb_one _) (snb_one _) (by decide) (by decide)) (by decide) hd ?_
  have l1:decide ((y:Int)=0)=false:=by simp;omega
  have l2:decide ((y:Int)≤0)=false:=by simp;omega
  have q1:=quo_u64 hx hy
  have q2:=rem_u64 (x:=x) hy
  simp only[f_mathbits_Div64,f_mathbits_Div64_k5,f_mathbits_Div64_k4,sx,sy,SO.run,↓reduceIte,Nat.reduceEqDiff,Nat.reduceAdd,Nat.reduceLeDiff,l1,l2,q1,q2,decide_true]
  exact ⟨NoP,_,_,rfl,rp_nat.2 ⟨rfl,k1⟩,rp_nat.2 ⟨rfl,k2⟩⟩
 obtain ⟨r,h1,a,b,rfl,h2,h3⟩:=key
 have h2:=(rp_nat.1 h2).1
 have h3:=(rp_nat.1 h3).1
 injection h2 with h2;injection h3 with h3
 rw[h1,h2,h3]
theorem rem64_ok {d:Nat}{g:G}{x y:Nat}(hd:0<d)(hx:x<18446744073709551616)(hy:0<y)(hy2:y<18446744073709551616) :
  callV C0 d N.mathbits_Rem64 [.int .u64 0,.int .u64 (x:Int),.int .u64 (y:Int)] g=.val (.int .u64 ((x % y:Nat):Int)):=by
 rw[call_mathbits_Rem64]
 refine iso_int eq_mathbits_Rem64 (xs:=[.int .u64 0,.int .u64 (x:Int),.int .u64 (y:Int)]) (by simp only[mapO,arg_int 0]) (by simp[f_mathbits_Rem64]) hd ?_
 have e1:=fun g=>div64_ok (d:=d+1) (g:=g) (Nat.succ_pos d) hx hy hy2
 have q0:binV .rem (.int .u64 0) (.int .u64 (y:Int))=.val (.int .u64 0):=by have:=rem_u64 (x:=0) hy;rw[Nat.zero_mod] at this;exact this
 simp only[f_mathbits_Rem64,sx,sy,SO.run,↓reduceIte,Nat.reduceEqDiff,Nat.reduceAdd,Nat.reduceLeDiff,q0,e1]
theorem call_add64 (d:Nat)(xs:List AV)(g:G):callV C0 d N.mathbits_Add64 xs g=add64A d xs g:=by kernel_rfl
theorem add64_ok {d:Nat}{g:G}{x y:Nat}(h:x+y<18446744073709551616):callV C0 d N.mathbits_Add64 [.int .u64 (x:Int),.int .u64 (y:Int),.int .u64 0] g=.val (.tup [.int .u64 ((x+y:Nat):Int),.int .u64 0]):=by
 rw[call_add64]
 show bif' (Nat.ble 0 1) (OR.val (.tup [.int .u64 (.ofNat ((x+y+0) % 18446744073709551616)),.int .u64 (.ofNat ((x+y+0) / 18446744073709551616))])) .fail=_
 rw[Nat.add_zero,Nat.mod_eq_of_lt h,Nat.div_eq_of_lt h]
 rfl
theorem ixa2 (id:Nat):ixaV 2 1 (.hptr id 0 0 0) (.int .i64 0)=.val (.hptr id 0 0 0)∧ixaV 2 1 (.hptr id 0 0 0) (.int .i64 1)=.val (.hptr id 0 0 1) :=
 ⟨ixa_h 2 1 id 0 0 0 .i64 (j:=0) (by decide),ixa_h 2 1 id 0 0 0 .i64 (j:=1) (by decide)⟩
theorem plus_ok {d:Nat}{g:G}{x y:Nat}(hd:0<d)(h:x+y<18446744073709551616) :
  callV C0 d N.frac_plus [.agg [.int .u64 0,.int .u64 (x:Int)],.agg [.int .u64 0,.int .u64 (y:Int)]] g=.val (.agg [.int .u64 0,.int .u64 ((x+y:Nat):Int)]):=by
 have key:∃r,callV C0 d N.frac_plus [.agg [.int .u64 0,.int .u64 (x:Int)],.agg [.int .u64 0,.int .u64 (y:Int)]] g=.val r∧Agg (((0:Nat),x+y):QN) NoP 0 .nil r:=by
  rw[call_frac_plus]
  refine iso_run eq_frac_plus (xs:=[.agg [.int .u64 0,.int .u64 (x:Int)],.agg [.int .u64 0,.int .u64 (y:Int)]]) rfl (by simp[f_frac_plus]) (snb_agg _) (by decide) hd ?_
  have e1:=fun g=>add64_ok (d:=d+1) (g:=g) h
  have e2:∀g,callV C0 (d+1) N.mathbits_Add64 [.int .u64 0,.int .u64 0,.int .u64 0] g=.val (.tup [.int .u64 0,.int .u64 0]):=fun g=>add64_ok (d:=d+1) (g:=g) (x:=0) (y:=0) (by decide)
  simp only[f_frac_plus,f_frac_plus_r,sx,sy,SO.run,↓reduceIte,Nat.reduceEqDiff,Nat.reduceAdd,Nat.reduceLeDiff,ixa2,e1,e2,H.get_put]
  exact ⟨NoP,(agg_n (x:=(0,x+y)) (by show (0:Nat)<18446744073709551616;decide) h).2 rfl⟩
 obtain ⟨r,h1,h2⟩:=key
 rw[h1,(agg_n (x:=(0,x+y)) (by show (0:Nat)<18446744073709551616;decide) h).1 h2];rfl
theorem over_ok {d:Nat}{g:G}{x y:Nat}(hd:0<d)(hx:x<18446744073709551616)(hy:0<y)(hy2:y<18446744073709551616) :
  callV C0 d N.frac_over [.agg [.int .u64 0,.int .u64 (x:Int)],.int .u64 (y:Int)] g=.val (.agg [.int .u64 0,.int .u64 ((x / y:Nat):Int)]):=by
 have hq:x / y<18446744073709551616:=by have:=Nat.div_le_self x y;omega
 have key:∃r,callV C0 d N.frac_over [.agg [.int .u64 0,.int .u64 (x:Int)],.int .u64 (y:Int)] g=.val r∧Agg (((0:Nat),x / y):QN) NoP 0 .nil r:=by
  rw[call_frac_over]
  refine iso_run eq_frac_over (xs:=[.agg [.int .u64 0,.int .u64 (x:Int)],.int .u64 (y:Int)]) (by simp only[mapO,arg_int 0];rfl) (by simp[f_frac_over]) (snb_agg _) (by decide) hd ?_
  have e1:=fun g=>div64_ok (d:=d+1) (g:=g) (Nat.succ_pos d) hx hy hy2
  have q0:binV .rem (.int .u64 0) (.int .u64 (y:Int))=.val (.int .u64 0):=by have:=rem_u64 (x:=0) hy;rw[Nat.zero_mod] at this;exact this
  have q1:binV .quo (.int .u64 0) (.int .u64 (y:Int))=.val (.int .u64 0):=by have:=quo_u64 (x:=0) (by decide) hy;rw[Nat.zero_div] at this;exact this
  simp only[f_frac_over,f_frac_over_r,sx,sy,SO.run,↓reduceIte,Nat.reduceEqDiff,Nat.reduceAdd,Nat.reduceLeDiff,ixa2,e1,q0,q1,H.get_put]
  exact ⟨NoP,(agg_n (x:=(0,x / y)) (by show (0:Nat)<18446744073709551616;decide) hq).2 rfl⟩
 obtain ⟨r,h1,h2⟩:=key
 rw[h1,(agg_n (x:=(0,x / y)) (by show (0:Nat)<18446744073709551616;decide) hq).1 h2];rfl
end
end Hx
end
section
namespace Hx
open Go
noncomputable section
theorem sum_ok {d:Nat}{g:G}{u u' v v' z p q h E:Nat}(hd:0<d)(hz:Nat.gcd u' v'=z)(hp:u' / z=p)(hq:v' / z=q)(hh:Nat.gcd ((u*q+v*p) % z) z=h)(hE:v' / h=E)(z0:0<z)(h0:0<h)
  (lu:u≤4611686018427387903) (lu':u'≤4611686018427387903) (lv:v≤4611686018427387903) (lv':v'≤4611686018427387903) (lt:u*q+v*p<18446744073709551616)
  (p1:(u*q+v*p) / h≤4611686018427387903) (p2:p*E≤4611686018427387903) :
  callV C0 d N.frac_sum [.agg [.int .i64 (u:Int),.int .i64 (u':Int)],.agg [.int .i64 (v:Int),.int .i64 (v':Int)]] g=.val (.agg [.int .i64 (((u*q+v*p) / h:Nat):Int),.int .i64 ((p*E:Nat):Int)]):=by
 have key:∃r,callV C0 d N.frac_sum [.agg [.int .i64 (u:Int),.int .i64 (u':Int)],.agg [.int .i64 (v:Int),.int .i64 (v':Int)]] g=.val r∧Agg (((((u*q+v*p) / h:Nat):Int),((p*E:Nat):Int)):QI) NoP 0 .nil r:=by
  rw[call_frac_sum]
  refine iso_run eq_frac_sum (xs:=[.agg [.int .i64 (u:Int),.int .i64 (u':Int)],.agg [.int .i64 (v:Int),.int .i64 (v':Int)]]) rfl (by simp[f_frac_sum]) (snb_agg _) (by decide) hd ?_
  have hd1:=Nat.succ_pos d
  have e1:∀x:Nat,x≤4611686018427387903→∀g,callV C0 (d+1) N.frac_size [.int .i64 (x:Int)] g=.val (.int .u64 (x:Int)):=fun x hx g=>fsize_ok (Nat.succ_pos d) ⟨by omega,by omega⟩
  have e2:∀g,callV C0 (d+1) N.frac_common [.int .u64 (u':Int),.int .u64 (v':Int)] g=.val (.int .u64 (z:Int)):=fun g=>by rw[common_ok (Nat.succ_pos d) (by omega) (by omega),hz]
  have lz:z≤u'∨u'=0:=by
   by_cases e:u'=0
   ·exact .inr e
   ·exact .inl (by rw[←hz];exact Nat.le_of_dvd (by omega) (Nat.gcd_dvd_left _ _))
  have lz2:z<18446744073709551616:=by
   rcases lz with e | e
   ·omega
   ·have:z=v':=by rw[←hz,e,Nat.gcd_zero_left]
    omega
  have lp:p≤u':=by rw[←hp];exact Nat.div_le_self _ _
  have lq:q≤v':=by rw[←hq];exact Nat.div_le_self _ _
  have lE:E≤v':=by rw[←hE];exact Nat.div_le_self _ _
  have lm:=Nat.mod_lt (u*q+v*p) z0
  have e3:∀g,callV C0 (d+1) N.frac_common [.int .u64 (((u*q+v*p) % z:Nat):Int),.int .u64 (z:Int)] g=.val (.int .u64 (h:Int)):=fun g=>by rw[common_ok (Nat.succ_pos d) (by omega) lz2,hh]
  have lh:h<18446744073709551616:=by
   have:h≤z:=by rw[←hh];exact Nat.le_of_dvd z0 (Nat.gcd_dvd_right _ _)
   omega
  have t1:∀g,callV C0 (d+1) N.frac_times [.int .u64 (u:Int),.int .u64 (q:Int)] g=.val (.agg [.int .u64 0,.int .u64 ((u*q:Nat):Int)]):=fun g=>times_ok hd1 (by omega) (by omega) (by omega)
  have t2:∀g,callV C0 (d+1) N.frac_times [.int .u64 (v:Int),.int .u64 (p:Int)] g=.val (.agg [.int .u64 0,.int .u64 ((v*p:Nat):Int)]):=fun g=>times_ok hd1 (by omega) (by omega) (by omega)
  have t3:∀g,callV C0 (d+1) N.frac_times [.int .u64 (p:Int),.int .u64 (E:Int)] g=.val (.agg [.int .u64 0,.int .u64 ((p*E:Nat):Int)]):=fun g=>times_ok hd1 (by omega) (by omega) (by omega)
  have pl:∀g,callV C0 (d+1) N.frac_plus [.agg [.int .u64 0,.int .u64 ((u*q:Nat):Int)],.agg [.int .u64 0,.int .u64 ((v*p:Nat):Int)]] g=.val (.agg [.int .u64 0,.int .u64 ((u*q+v*p:Nat):Int)]):=fun g=>plus_ok hd1 lt
  have rm:∀g,callV C0 (d+1) N.mathbits_Rem64 [.int .u64 0,.int .u64 ((u*q+v*p:Nat):Int),.int .u64 (z:Int)] g=.val (.int .u64 (((u*q+v*p) % z:Nat):Int)):=fun g=>rem64_ok hd1 lt z0 lz2
  have ov:∀g,callV C0 (d+1) N.frac_over [.agg [.int .u64 0,.int .u64 ((u*q+v*p:Nat):Int)],.int .u64 (h:Int)] g=.val (.agg [.int .u64 0,.int .u64 (((u*q+v*p) / h:Nat):Int)]):=fun g=>over_ok hd1 lt h0 lh
  have fi:∀g,callV C0 (d+1) N.frac_fit [.bool false,.agg [.int .u64 0,.int .u64 (((u*q+v*p) / h:Nat):Int)],.agg [.int .u64 0,.int .u64 ((p*E:Nat):Int)]] g=.val (.agg [.int .i64 (((u*q+v*p) / h:Nat):Int),.int .i64 ((p*E:Nat):Int)]):=fun g=>fit_ok hd1 p1 p2
  have w1:=quo_u64 (x:=u') (y:=z) (by omega) z0
  have w2:=quo_u64 (x:=v') (y:=z) (by omega) z0
  have w3:=quo_u64 (x:=v') (y:=h) (by omega) h0
  rw[hp] at w1;rw[hq] at w2;rw[hE] at w3
  have c1:=wrapu64 (show (0:Int)≤(u':Int) by omega) (show (u':Int)<18446744073709551616 by omega)
  have c2:=wrapu64 (show (0:Int)≤(v':Int) by omega) (show (v':Int)<18446744073709551616 by omega)
  have l1:decide ((u:Int)<0)=false:=by simp
  have l2:decide ((v:Int)<0)=false:=by simp
  clear lt lm hz hp hq hh hE lz lz2 lp lq lE lh
  generalize (u*q+v*p) / h=n' at *
  generalize (u*q+v*p) % z=r' at *
  generalize p*E=d' at *
  generalize u*q+v*p=s' at *
  generalize u*q=x' at *
  generalize v*p=y' at *
  simp only[f_frac_sum,f_frac_sum_r,sx,sy,sf,SO.run,↓reduceIte,Nat.reduceEqDiff,Nat.reduceAdd,Nat.reduceLeDiff,H.get_put,e1 u lu,e1 v lv,e2,t1,t2,c1,c2,w1,w2,true_and]
  refine ⟨?_,?_⟩
  ·simp only[List.reverse_cons,List.reverse_nil,List.nil_append,List.cons_append]
   refine footsOk_mk [false,false,false,false,false,false,false,false,false,false,false,false,false,false,false,false,false,false,true,true,true,true] [(0,18),(1,18),(2,18),(3,18),(4,18),(5,18),(6,18),(7,18),(8,18),(9,18),(10,18),(11,18),(12,18),(13,18),(14,18),(15,18),(16,18),(17,18),(0,19),(1,19),(2,19),(3,19),(4,19),(5,19),(6,19),(7,19),(8,19),(9,19),(10,19),(11,19),(12,19),(13,19),(14,19),(15,19),(16,19),(17,19),(18,19)]
    (by simp[All2,rdLook,noLook,bigLook,foot_frac_size,foot_frac_times]) (by decide) ?_
   rintro p hp x y hx hy
   simp only[List.mem_cons,List.not_mem_nil,or_false] at hp
   rcases hp with rfl | rfl | rfl | rfl | rfl | rfl | rfl | rfl | rfl | rfl | rfl | rfl | rfl | rfl | rfl | rfl | rfl | rfl | rfl | rfl | rfl | rfl | rfl | rfl | rfl | rfl | rfl | rfl | rfl | rfl | rfl | rfl | rfl | rfl | rfl | rfl | rfl <;>
    (simp at hx hy;subst hx;subst hy;refine apart_mk rfl ?_ ?_ rfl ?_ ?_ ?_<;>simp[rdLook,noLook,refIds,foot_frac_size,foot_frac_times,gets_cons,gets_nil,get_t,get_k,sx,int_ids])
  ·have ef:eqlV false .bool (.bool false) (.bool false)=.val (.bool true):=rfl
   simp only[f_frac_sum_k0,sx,sy,sf,SO.run,↓reduceIte,Nat.reduceEqDiff,Nat.reduceAdd,Nat.reduceLeDiff,H.get_put,l1,l2,ef,pl,ixa2,rm,e3,ov,c1,c2,w1,w3,t3,fi,true_and]
   refine ⟨?_,NoP,agg_q.2 rfl⟩
   simp only[List.reverse_cons,List.reverse_nil,List.nil_append,List.cons_append]
   exact footsOk_mk [false,false,false,false,false,false,false,false,false,false,false,false,false,false,false,false,true] [] (by simp[All2,rdLook,noLook,bigLook,foot_frac_over,foot_frac_times,foot_frac_fit]) (by decide) (by simp)
 obtain ⟨r,h1,h2⟩:=key
 rw[h1,agg_q.1 h2]
end
end Hx
end
section
namespace Hx
open Go
noncomputable section
theorem dyn_sum (d:Nat)(a b:AV)(g:G):callF C0 (I C0) d (.clo 85 [] []) [a,b] g=callV C0 d N.frac_sum [a,b] g:=by kernel_rfl
theorem both1_add {d:Nat}{g:G}{x y r:QI}{z:Nat}{K:AV→G→Prop}{D:ADf→Prop}(hp:∀g,callV C0 d N.frac_sum [.agg [.int .i64 x.1,.int .i64 x.2],.agg [.int .i64 y.1,.int .i64 y.2]] g=.val (.agg [.int .i64 r.1,.int .i64 r.2]))
  (kk:∀g',Fr g g'→K (.agg [.int .i64 r.1,.int .i64 r.2]) g') :
  (callF C0 (I C0) d (.clo N.frac_bothapi_Q_1 [] [.tptr z 1 [[.clo 85 [] []]] 0 0,.tptr z 2 [[.int .i64 x.1,.int .i64 x.2]] 0 0,.tptr z 2 [[.int .i64 y.1,.int .i64 y.2]] 0 0]) [] g).sat K g D:=by
 rw[dyn_both_1]
 refine dir_run eq_frac_bothapi_Q_1 (by simp[f_frac_bothapi_Q_1]) ?_
 have hp':∀g,callF C0 (I C0) d (.clo 85 [] []) [.agg [.int .i64 x.1,.int .i64 x.2],.agg [.int .i64 y.1,.int .i64 y.2]] g=.val (.agg [.int .i64 r.1,.int .i64 r.2]):=fun g=>by rw[dyn_sum,hp]
 simp only[f_frac_bothapi_Q_1,f_frac_bothapi_Q_1_r,sx,sy,SO.run,↓reduceIte,Nat.reduceEqDiff,Nat.reduceAdd,Nat.reduceLeDiff,load_tptr,hp',H.get_put]
 exact kk _ ⟨by simp,fun i hi=>by simp[H.get_put,show ¬i=g.nx by omega]⟩
theorem both_add {d:Nat}{g:G}{x y r:QI}(hd:0<d)(cx:∀d g,0<d→callV C0 d N.frac_Check [.agg [.int .i64 x.1,.int .i64 x.2]] g=.val (.int .i64 0))(cy:∀d g,0<d→callV C0 d N.frac_Check [.agg [.int .i64 y.1,.int .i64 y.2]] g=.val (.int .i64 0))
  (hp:∀d g,0<d→callV C0 d N.frac_sum [.agg [.int .i64 x.1,.int .i64 x.2],.agg [.int .i64 y.1,.int .i64 y.2]] g=.val (.agg [.int .i64 r.1,.int .i64 r.2])) :
  callV C0 d N.frac_bothapi_Q [.agg [.int .i64 x.1,.int .i64 x.2],.agg [.int .i64 y.1,.int .i64 y.2],.clo 85 [] []] g=.val (.tup [.agg [.int .i64 r.1,.int .i64 r.2],.int .i64 0]):=by
 have key:∃z,callV C0 d N.frac_bothapi_Q [.agg [.int .i64 x.1,.int .i64 x.2],.agg [.int .i64 y.1,.int .i64 y.2],.clo 85 [] []] g=.val z∧Tup2 (Agg r) (One (0:Int)) NoP 0 .nil z:=by
  rw[call_frac_bothapi_Q]
  refine iso_run eq_frac_bothapi_Q (xs:=[.agg [.int .i64 x.1,.int .i64 x.2],.agg [.int .i64 y.1,.int .i64 y.2],.clo 85 [] []]) rfl (by simp[f_frac_bothapi_Q]) (snb_tup2 (m:=2) (snb_agg _) (snb_one _) (by decide) (by decide)) (by decide) hd ?_
  have hbx:∀g,boxV (.clo 85 [] []) g=.upd (.hptr g.nx 0 0 0) (g.new (.cells 1 [[.clo 85 [] []]] 0 false false)):=fun g=>rfl
  have c1:=fun g=>cx (d+1) g (Nat.succ_pos d)
  have c2:=fun g=>cy (d+1) g (Nat.succ_pos d)
  simp only[f_frac_bothapi_Q,f_frac_bothapi_Q_r,sx,sy,SO.run,↓reduceIte,Nat.reduceEqDiff,Nat.reduceAdd,Nat.reduceLeDiff,hbx,H.get_put,c1,c2,decide_true,Bool.not_true]
  rw[guard_ok (x:=r) (a':=[.tptr (Nat.max (d+1) 0) 1 [[.clo 85 [] []]] 0 0,.tptr (Nat.max (d+1) 0) 2 [[.int .i64 x.1,.int .i64 x.2]] 0 0,.tptr (Nat.max (d+1) 0) 2 [[.int .i64 y.1,.int .i64 y.2]] 0 0]) (Nat.succ_pos d) ?_
   (fun g K D kk=>both1_add (fun g=>hp _ g (Nat.succ_pos _)) kk)]
  ·simp only[sx,sy,SO.run,↓reduceIte,Nat.reduceEqDiff,Nat.reduceAdd,Nat.reduceLeDiff,H.get_put]
   exact ⟨NoP,_,_,rfl,agg_q.2 rfl,rp_int.2 rfl⟩
  ·rw[snap_clo3 (snap_cl (f:=85) (d+1) 20 (by simp[sx,H.get_put])) (snap_qi (a:=x.1) (b:=x.2) (d+1) 20 (by simp[sx,H.get_put])) (snap_qi (a:=y.1) (b:=y.2) (d+1) 20 (by simp[sx,H.get_put]))]
 obtain ⟨z,h1,a,b,rfl,h2,h3⟩:=key
 have h3:=rp_int.1 h3
 injection h3 with h3
 rw[h1,agg_q.1 h2,h3]
theorem fadd_ok {d:Nat}{g:G}{c s w:Nat}(hd:0<d)(hw0:0<w)(hw:w≤3000000000)(hs:c+s≤w) :
  callV C0 d N.frac_Add [.agg [.int .i64 (S.low c w).1,.int .i64 (S.low c w).2],.agg [.int .i64 (S.low s w).1,.int .i64 (S.low s w).2]] g=.val (.tup [.agg [.int .i64 (S.low (c+s) w).1,.int .i64 (S.low (c+s) w).2],.int .i64 0]):=by
 obtain ⟨u,u',l1,gu,u0,e1,uc,uw⟩:=low_facts c w hw0
 obtain ⟨v,v',l2,gv,v0,e2,vs,vw⟩:=low_facts s w hw0
 obtain ⟨a1,a2,a3,a4,a5⟩:=add_low (u:=u) (u':=u') (v:=v) (v':=v') gu gv u0 v0 rfl rfl
 obtain ⟨z,hz⟩:∃z,Nat.gcd u' v'=z:=⟨_,rfl⟩
 rw[hz] at a1 a2 a3 a4 a5
 obtain ⟨p,hp⟩:∃p,u' / z=p:=⟨_,rfl⟩
 obtain ⟨q,hq⟩:∃q,v' / z=q:=⟨_,rfl⟩
 rw[hp,hq] at a1 a4 a5
 rw[hp,hq] at a2
 obtain ⟨h,hh⟩:∃h,Nat.gcd ((u*q+v*p) % z) z=h:=⟨_,rfl⟩
 rw[hh] at a1 a2 a4 a5
 obtain ⟨E,hE⟩:∃E,v' / h=E:=⟨_,rfl⟩
 rw[hE] at a1 a2 a5
 have hl:=low_sum hw0 u0 v0 e1 e2 a1 a2 a5
 have lp:p≤u':=by rw[←hp];exact Nat.div_le_self _ _
 have lq:q≤v':=by rw[←hq];exact Nat.div_le_self _ _
 have m1:u*q≤3000000000*3000000000:=Nat.mul_le_mul (by omega) (by omega)
 have m2:v*p≤3000000000*3000000000:=Nat.mul_le_mul (by omega) (by omega)
 have b1:(S.low (c+s) w).1≤((c+s:Nat):Int):=by unfold S.low;exact Int.ofNat_le.2 (Nat.div_le_self _ _)
 have b2:(S.low (c+s) w).2≤(w:Int):=by unfold S.low;exact Int.ofNat_le.2 (Nat.div_le_self _ _)
 rw[hl] at b1 b2
 have b1:=Int.ofNat_le.1 b1
 have b2:=Int.ofNat_le.1 b2
 rw[l1,l2,hl]
 have key:∃r,callV C0 d N.frac_Add [.agg [.int .i64 (u:Int),.int .i64 (u':Int)],.agg [.int .i64 (v:Int),.int .i64 (v':Int)]] g=.val r∧Tup2 (Agg ((((u*q+v*p) / h:Nat):Int),((p*E:Nat):Int))) (One (0:Int)) NoP 0 .nil r:=by
  rw[call_frac_Add]
  refine iso_run eq_frac_Add (xs:=[.agg [.int .i64 (u:Int),.int .i64 (u':Int)],.agg [.int .i64 (v:Int),.int .i64 (v':Int)]]) rfl (by simp[f_frac_Add]) (snb_tup2 (m:=2) (snb_agg _) (snb_one _) (by decide) (by decide)) (by decide) hd ?_
  have ea:∀g,callV C0 (d+1) N.frac_bothapi_Q [.agg [.int .i64 (u:Int),.int .i64 (u':Int)],.agg [.int .i64 (v:Int),.int .i64 (v':Int)],.clo 85 [] []] g=.val (.tup [.agg [.int .i64 (((u*q+v*p) / h:Nat):Int),.int .i64 ((p*E:Nat):Int)],.int .i64 0]):=fun g =>
   both_add (x:=((u:Int),(u':Int))) (y:=((v:Int),(v':Int))) (r:=((((u*q+v*p) / h:Nat):Int),((p*E:Nat):Int))) (Nat.succ_pos d) (fun d g hd=>fcheck_ok hd (by omega) u0 (by omega) gu) (fun d g hd=>fcheck_ok hd (by omega) v0 (by omega) gv) fun d g hd =>
    sum_ok hd hz hp hq hh hE a3 a4 (by omega) (by omega) (by omega) (by omega) (by omega) (by omega) (by omega)
  simp only[f_frac_Add,f_frac_Add_r,sx,sy,SO.run,↓reduceIte,Nat.reduceEqDiff,Nat.reduceAdd,Nat.reduceLeDiff,H.get_put,ea]
  exact ⟨NoP,_,_,rfl,agg_q.2 rfl,rp_int.2 rfl⟩
 obtain ⟨r,h1,a,b,rfl,h2,h3⟩:=key
 have h3:=rp_int.1 h3
 injection h3 with h3
 rw[h1,agg_q.1 h2,h3]
end
end Hx
end
section
namespace Hx
open Go
noncomputable section
def S.matchAt (vals e:List Int)(i:Nat):Bool:=decide (e[i]?.getD 0<0) || decide (e[i]?.getD 0=vals[i]?.getD 0)
def S.matches (vals e:List Int):Bool:=(List.range e.length).all (S.matchAt vals e)
theorem matches_ok {d k k2:Nat}{g:G}{P P2:Nat→Prop}{v w:AV}{vals e:List Int}(hd:0<d)(hv:SlR P k g.h vals v)(hw:SlR P2 k2 g.h e w)(hl:vals.length=e.length) :
  callV C0 d N.twin_matches [v,w] g=.val (.bool (S.matches vals e)):=by
 obtain ⟨v',e1,r1⟩:=arg_sl hv d
 obtain ⟨w',e2,r2⟩:=arg_sl hw d
 rw[call_twin_matches]
 refine iso_bool eq_twin_matches (xs:=[v',w']) (by simp only[mapO,e1,e2]) (by simp[f_twin_matches]) hd ?_
 simp only[f_twin_matches,sx,sy,SO.run,↓reduceIte,Nat.reduceEqDiff,Nat.reduceAdd,Nat.reduceLeDiff,(r2 .nil).len]
 simp only[f_twin_matches_b0]
 refine wpL_range (m:=e.length) hw.1 (fun j t df g=>df=[]∧St t [(0,v'),(7,w')]∧(List.range j).all (S.matchAt vals e)=true) ⟨rfl,by simp[St,sx],rfl⟩ (by simp[sx]) (by simp[sx]) (by decide) (by rintro j t df g v s (rfl | rfl | rfl)<;>simp[St,sx]) ?_ ?_
 ·rintro j t df g hj ⟨rfl,⟨h0,h7,-⟩,hA⟩ h9 h8
  obtain ⟨x,hx,-,-⟩:=take_next hj
  obtain ⟨y,hy,-,-⟩:=take_next (l:=vals) (j:=j) (by omega)
  have h1:j<(e.map ci).length:=by simpa using hj
  have h2:j<(vals.map ci).length:=by rw[List.length_map];omega
  have h3:(e.map ci)[j]?=some (ci x):=by rw[List.getElem?_map,hx];rfl
  have h4:(vals.map ci)[j]?=some (ci y):=by rw[List.getElem?_map,hy];rfl
  have hat:S.matchAt vals e j=(decide (x<0) || decide (x=y)):=by simp[S.matchAt,hx,hy]
  by_cases hx0:0≤x
  ·simp only[sx,sy,SO.run,↓reduceIte,Nat.reduceEqDiff,h0,h7,h8,h9,(r1 g.h).ints,(r2 g.h).ints,h1,h2,h3,h4,ci,Option.isSome_some,Option.getD_some,hx0,decide_true]
   refine bifP_mk (fun hb=>?_) (fun hb=>?_)
   ·simp only[sx,sy,SO.run,↓reduceIte,Nat.reduceEqDiff]
    have:S.matchAt vals e j=false:=by rw[hat];simp at hb ⊢;exact ⟨hx0,hb⟩
    rw[S.matches,all_range_false hj this]
   ·simp only[sx,sy,SO.run,↓reduceIte,Nat.reduceEqDiff,h0,h7,h8,h9,St,true_and,and_true]
    rw[all_range_succ,hA,hat];simp at hb ⊢;exact .inr hb
  ·simp only[sx,sy,SO.run,↓reduceIte,Nat.reduceEqDiff,h0,h7,h8,h9,(r1 g.h).ints,(r2 g.h).ints,h1,h2,h3,h4,ci,Option.isSome_some,Option.getD_some,hx0,decide_false,St,true_and,and_true]
   rw[all_range_succ,hA,hat];simp;omega
 ·rintro t df g ⟨rfl,⟨h0,h7,-⟩,hA⟩
  simp only[f_twin_matches_k1,sx,sy,SO.run,↓reduceIte,Nat.reduceEqDiff]
  rw[S.matches,hA]
def S.sumW (m:Causal)(p:Nat→Bool):Nat→Int
 | 0=>0
 | j+1=>S.sumW m p j+if p j then S.weight m (j:Int) else 0
theorem weight_bound {m:Causal}(hck:S.check m=true)(j:Nat):0≤S.weight m (j:Int)∧S.weight m (j:Int)≤429981696:=by
 have:=wts_bound hck (Int.natCast_nonneg j) 0
 rwa [wts_zero] at this
theorem sumW_bound {m:Causal}(hck:S.check m=true)(p:Nat→Bool):∀j:Nat,0≤S.sumW m p j∧S.sumW m p j≤429981696*(j:Int)
 | 0=>⟨Int.le_refl _,by simp[S.sumW]⟩
 | j+1=>by
  have h1:=sumW_bound hck p j
  have h2:=weight_bound hck j
  rw[S.sumW]
  split<;>omega
theorem sumW_le {m:Causal}(hck:S.check m=true){p q:Nat→Bool}(h:∀j,p j=true→q j=true):∀j:Nat,S.sumW m p j≤S.sumW m q j
 | 0=>Int.le_refl _
 | j+1=>by
  have h1:=sumW_le hck h j
  have h2:=weight_bound hck j
  have h3:=h j
  rw[S.sumW,S.sumW]
  cases hp:p j with
  | true=>rw[h3 hp];simp;omega
  | false=>cases hq:q j<;>simp<;>omega
theorem sumW_congr {m:Causal}{p q:Nat→Bool}:∀{n:Nat},(∀j,j<n→p j=q j)→S.sumW m p n=S.sumW m q n
 | 0,_=>rfl
 | n+1,h=>by rw[S.sumW,S.sumW,h n (by omega),sumW_congr fun j hj=>h j (by omega)]
end
end Hx
end
section
namespace Hx
open Go
theorem quot_idx:∀{l ds:List Int} (t:Int),(∀c∈l,0<c)→InC l ds→S.quot l (t*S.prod l+S.idx l ds)=t
 | [],[],t,_,_=>by simp[S.quot,S.prod,S.idx]
 | c::l,d::ds,t,hc,h=>by
  have ih:=quot_idx (l:=l) (ds:=ds) (t*c+d) (fun x hx=>hc x (by simp[hx])) h.2
  have hd:0≤d∧d<c:=h.1
  have h0:=hc c (by simp)
  show S.quot l (t*S.prod (c::l)+(d*S.prod l+S.idx l ds)) / c=t
  have e:t*S.prod (c::l)+(d*S.prod l+S.idx l ds)=(t*c+d)*S.prod l+S.idx l ds:=by
   rw[prod_cons,Int.add_mul,Int.mul_assoc];omega
  rw[e,ih,Int.mul_comm t c,Int.mul_add_ediv_left _ _ (by omega),Int.ediv_eq_zero_of_lt hd.1 hd.2,Int.add_zero]
 | [],_::_,_,_,h=>h.elim
 | _::_,[],_,_,h=>h.elim
theorem idx_split {l ds:List Int}(h:InC l ds):∀i,i≤l.length→S.idx l ds=hz l ds i*S.prod (l.drop i)+S.idx (l.drop i) (ds.drop i)
 | 0,_=>by rw[hz_zero];simp
 | i+1,hi=>by
  have hil:i<l.length:=by omega
  have hid:i<ds.length:=by rw[h.len];exact hil
  rw[idx_split h i (by omega),hz_succ (List.getElem?_eq_getElem hil) (List.getElem?_eq_getElem hid),List.drop_eq_getElem_cons hil,List.drop_eq_getElem_cons hid,prod_cons]
  show _+(ds[i]*S.prod (l.drop (i+1))+S.idx (l.drop (i+1)) (ds.drop (i+1)))=_
  rw[Int.add_mul,Int.mul_assoc];omega
theorem values_idx {l ds:List Int}(hc:∀c∈l,0<c)(h:InC l ds):S.values l (S.idx l ds)=ds:=by
 refine List.ext_getElem (by simp[S.values,h.len]) fun i h1 h2=>?_
 have hil:i<l.length:=by simpa [S.values] using h1
 obtain ⟨v,hv,hv0,hv1⟩:=h.get (List.getElem?_eq_getElem hil)
 rw[List.getElem?_eq_getElem h2] at hv
 injection hv with hv
 have:(S.values l (S.idx l ds))[i]=S.digit l (S.idx l ds) i:=by simp[S.values]
 rw[this,S.digit,idx_split h (i+1) hil,quot_idx _ (fun c hcc=>hc c (List.mem_of_mem_drop hcc)) (h.drop (i+1)),List.getElem?_eq_getElem hil,Option.getD_some,hz_succ (List.getElem?_eq_getElem hil) (List.getElem?_eq_getElem h2),Int.mul_comm,
  Int.mul_add_emod_self_left]
 rw[hv];exact Int.emod_eq_of_lt hv0 hv1
theorem sumW_ge {m:Causal}(hck:S.check m=true){p:Nat→Bool}:∀{n j:Nat},j<n→p j=true→S.weight m (j:Int)≤S.sumW m p n
 | n+1,j,hj,hp=>by
  rw[S.sumW]
  have h2:=weight_bound hck n
  by_cases e:j=n
  ·subst e;rw[if_pos hp];have:=(sumW_bound hck p j).1;omega
  ·have:=sumW_ge hck (p:=p) (n:=n) (j:=j) (by omega) hp
   split<;>omega
theorem prod_pos:∀{l:List Int},(∀x∈l,0<x)→0<S.prod l
 | [],_=>by decide
 | a::l,h=>by
  rw[prod_cons]
  exact Int.mul_pos (h a (by simp)) (prod_pos fun x hx=>h x (by simp[hx]))
theorem sum_pos_ex:∀{l:List Int},0<l.sum→∃i,∃h:i<l.length,0<l[i]
 | [],h=>by simp at h
 | a::l,h=>by
  by_cases ha:0<a
  ·exact ⟨0,by simp,ha⟩
  ·rw[List.sum_cons] at h
   obtain ⟨i,hi,hp⟩:=sum_pos_ex (l:=l) (by omega)
   exact ⟨i+1,by simpa using hi,by simpa using hp⟩
def S.whole (m:Causal):Int:=S.sumW m (fun _=>true) (S.hidden m).toNat
theorem good_ds:∀{rs:List (List Int)},(∀r∈rs,0<r.sum)→∃ds:List Int,InC (rs.map fun r=>(r.length:Int)) ds∧∀(i:Nat) (r:List Int) (d:Int),rs[i]?=some r→ds[i]?=some d→0<r[d.toNat]?.getD 0
 | [],_=>⟨[],trivial,fun i r d h=>by simp at h⟩
 | r::rs,h=>by
  obtain ⟨ds,h1,h2⟩:=good_ds (rs:=rs) fun x hx=>h x (by simp[hx])
  obtain ⟨k,hk,hp⟩:=sum_pos_ex (h r (by simp))
  refine ⟨(k:Int)::ds,⟨⟨Int.natCast_nonneg k,by show (k:Int)<(r.length:Int);omega⟩,h1⟩,fun i r' d hr hd=>?_⟩
  cases i with
  | zero =>
   injection hr with hr;injection hd with hd;subst hr;subst hd
   rw[Int.toNat_natCast,List.getElem?_eq_getElem hk];exact hp
  | succ i=>exact h2 i r' d (by simpa using hr) (by simpa using hd)
theorem whole_pos {m:Causal}(hck:S.check m=true):0<S.whole m:=by
 obtain ⟨hs,hgr,hn1,hro,hno⟩:=check_facts hck
 have hlb:=lens_bound hs
 simp only[S.rootsOk,Bool.and_eq_true] at hro
 obtain ⟨ds,h1,h2⟩:=good_ds (rs:=m.roots) fun r hr=>by
  have:=List.all_eq_true.1 hro.1 r hr
  simp only[S.rootOk,Bool.and_eq_true,decide_eq_true_eq] at this
  have:=this.2
  omega
 have h1:InC (S.lens m) ds:=h1
 have hv:=values_idx (fun c hc=>by have:=hlb c hc;omega) h1
 have hb:=idx_bound hlb h1
 obtain ⟨j,hj⟩:=Int.eq_ofNat_of_zero_le hb.1
 have hlt:j<(S.hidden m).toNat:=by
  have:S.hidden m=S.prod (S.lens m):=rfl
  omega
 have hw:0<S.weight m (j:Int):=by
  refine prod_pos fun x hx=>?_
  obtain ⟨r,hr,rfl⟩:=List.mem_map.1 hx
  have hr:=List.mem_range.1 hr
  have hrl:r<(S.lens m).length:=by rw[lens_len];exact hr
  have e:ds[r]?=some (S.digit (S.lens m) (j:Int) r):=by
   rw[←hv,hj,S.values,List.getElem?_map,List.getElem?_range hrl];rfl
  have:=h2 r _ _ (List.getElem?_eq_getElem hr) e
  rw[S.wAt,List.getElem?_eq_getElem hr];exact this
 have:=sumW_ge hck (p:=fun _=>true) hlt rfl
 unfold S.whole;omega
theorem whole_bound {m:Causal}(hck:S.check m=true)(p:Nat→Bool):0≤S.sumW m p (S.hidden m).toNat∧S.sumW m p (S.hidden m).toNat≤28179280429056:=by
 obtain ⟨hs,hgr,hn1,hro,hno⟩:=check_facts hck
 have hhb:=hidden_bound hs m.roots.length
 rw[List.take_length] at hhb
 have hhb:1≤S.hidden m∧S.hidden m≤4 ^ 8:=hhb
 have:=sumW_bound hck p (S.hidden m).toNat
 omega
end Hx
end
section
namespace Hx
open Go
noncomputable section
theorem fillRows_two {v w z:AV}(hv:v.cells=[v])(tv:v.isTup=false)(hw:w.cells=[w])(tw:w.isTup=false)(g:G):bslV 1 2 [z] [0,1] [v,w] g=.upd (.hsl g.nx 0 0 2 none) (g.new (.cells 1 [[v],[w]] 0 false false)):=by
 have e:fillRows 1 [[z],[z]] [(0,v),(1,w)]=some [[v],[w]]:=by
  simp only[fillRows,hv,tv,hw,tw,lenR_eq,List.length_singleton,notb_eq,Bool.not_false]
  rfl
 show (match fillRows 1 [[z],[z]] [(0,v),(1,w)] with | some rows=>OR.upd (.hsl g.nx 0 0 2 none) (g.new (.cells 1 rows 0 false false)) | none=>.fail)=_
 rw[e]
theorem two_lst {a b:List Int}{l r:AV}{q kk:Nat}{h:H}(hl:SlR NoP kk .nil a l)(hr:SlR NoP kk .nil b r)(hq:h.get q=.cells 1 [[l],[r]] 0 false false):SlR (fun _=>True) kk h [a,b] (.hsl q 0 0 2 none):=by
 refine ⟨by show 2<_;decide,trivial,[[l],[r]],?_,?_,?_,trivial⟩
 ·show rowsOf h 1 _=_
  simp only[rowsOf,hq];rfl
 ·exact Rp.tree (P:=fun _=>True) (k':=kk) (h':=h) (show Rp.rp NoP kk .nil a [l] from ⟨l,rfl,hl⟩) (Nat.le_refl _)
 ·exact Rp.tree (P:=fun _=>True) (k':=kk) (h':=h) (show Rp.rp NoP kk .nil b [r] from ⟨r,rfl,hr⟩) (Nat.le_refl _)
theorem read_all {m:Causal}{ls:List (List Int)}(h:S.readE m ls=0):S.check m=true∧∀l∈ls,S.act m l=true:=by
 unfold S.readE at h
 cases hc:S.check m with
 | false=>rw[hc] at h;simp at h
 | true =>
  rw[hc,if_pos rfl] at h
  cases ha:ls.all (S.act m) with
  | false=>rw[ha] at h;simp at h
  | true=>exact ⟨rfl,List.all_eq_true.1 ha⟩
theorem SlR.far8 {α:Type} [Rp α]{P:Nat→Prop}{k:Nat}{h h':H}{l:List α}{v:AV}(r:SlR P k h l v)(hf:∀i,P i→h'.get i=h.get i):SlR P k h' l v:=by
 obtain ⟨w,e,q⟩:=Rp.mono (P':=P) (k':=k) (h':=h') (show Rp.rp P k h l [v] from ⟨v,rfl,r⟩) (fun i hi=>⟨hi,hf i hi⟩) (Nat.le_refl _)
 injection e with e;subst e;exact q
def S.mw (m:Causal)(act q:List Int)(j:Nat):Bool:=S.matches (S.run m (S.values (S.lens m) ((j):Int)) act) q
def S.effS (m:Causal)(act q:List Int):Int:=S.sumW m (S.mw m act q) (S.hidden m).toNat
def S.teffect (m:Causal)(act q:List Int):QI:=if S.readE m [act,q]=0 then S.low (S.effS m act q).toNat (S.whole m).toNat else (0,0)
def EI (m:Causal)(k1 k2 act q:AV)(h:H)(s w:Int):Prop:=h.get 1=.cells 1 [[act]] 0 false false∧h.get 2=.cells 1 [[q]] 0 false false∧h.get 3=.cells 2 [[.int .i64 0,.int .i64 0]] 0 false false ∧
 h.get 5=.cells 4 [[.int .i64 m.grain,k1,k2,.int .i64 (S.hidden m)]] 0 false false∧h.get 6=.cells 1 [[.int .i64 s]] 0 false false∧h.get 7=.cells 1 [[.int .i64 w]] 0 false false
theorem effect_body {d kk:Nat}{rd:Option Nat}{m:Causal}{t:T}{g:G}{j:Nat}{al ql:List Int}{k1 k2 act q u:AV}(hd:0<d)(hck:S.check m=true)(hac:S.act m al=true)(hqc:S.act m ql=true)
  (hks:∀h,Agg (⟨m,S.hidden m⟩:KnownM) NoP 0 h (.agg [.int .i64 m.grain,k1,k2,.int .i64 (S.hidden m)])) (ha:SlR NoP kk .nil al act) (hq:SlR NoP kk .nil ql q) (hu:SlR (fun i=>8≤i) 0 g.h (S.values (S.lens m) (j:Int)) u) (hj:(j:Int)<S.hidden m)
  (ht:St t [(4,.hptr 1 0 0 0),(5,.hptr 2 0 0 0),(8,.hptr 5 0 0 0),(10,.hptr 6 0 0 0),(11,.hptr 7 0 0 0),(12,u),(13,.int .i64 (S.weight m (j:Int)))]) (hI:EI m k1 k2 act q g.h (S.sumW m (S.mw m al ql) j) (S.sumW m (fun _=>true) j)) :
  wp C0 d rd f_twin_Effect_b1 (fun e _ df g3=>e=.norm∧df=[]∧EI m k1 k2 act q g3.h (S.sumW m (S.mw m al ql) (j+1)) (S.sumW m (fun _=>true) (j+1))∧g3.nx=g.nx∧∀i,8≤i→g3.h.get i=g.h.get i) t [] g:=by
 obtain ⟨hs,hgr,hn1,hro,hno⟩:=check_facts hck
 have hhb:=hidden_bound hs m.roots.length
 rw[List.take_length] at hhb
 have hhb:1≤S.hidden m∧S.hidden m≤4 ^ 8:=hhb
 have hvi:=values_inC (l:=S.lens m) (h:=(j:Int)) (fun c hc=>by have:=lens_bound hs c hc;omega) (Int.natCast_nonneg j)
 have hrl:(S.run m (S.values (S.lens m) (j:Int)) al).length=ql.length:=by simp[S.run];rw[(act_at hqc).1]
 obtain ⟨h4,h5,h8,h10,h11,h12,h13,-⟩:=ht
 obtain ⟨i1,i2,i3,i5,i6,i7⟩:=hI
 have b0:=weight_bound hck j
 have b1:=sumW_bound hck (S.mw m al ql) j
 have b2:=sumW_bound hck (fun _=>true) j
 have w2:S.sumW m (fun _=>true) (j+1)=S.sumW m (fun _=>true) j+S.weight m (j:Int):=by rw[S.sumW];simp
 simp only[f_twin_Effect_b1,sx,sy,SO.run,↓reduceIte,Nat.reduceEqDiff,Nat.reduceAdd,Nat.reduceLeDiff,h4,h5,h8,h10,h11,h12,h13,i1,i2,i5,i6,i7,H.get_put,
  ←w2,wrap64 (show -9223372036854775808≤S.sumW m (fun _=>true) (j+1) by omega) (show S.sumW m (fun _=>true) (j+1)<9223372036854775808 by omega)]
 refine sat_ex (run_ok (P:=NoP) (k:=0) (Pa:=NoP) (ka:=kk) hd (hks _) (hu.far8 fun i (hi:8≤i)=>by simp[H.get_put,show ¬i=7 by omega]) (ha.tree (Nat.le_refl _)) hck hvi hac) fun r hr=>?_
 have hmat:∀g:G,callV C0 d N.twin_matches [r,q] g=.val (.bool (S.mw m al ql j)):=fun g=>matches_ok (P:=NoP) (P2:=NoP) (k:=0) (k2:=kk) hd (hr.sl _) (hq.tree (Nat.le_refl _)) hrl
 simp only[sx,sy,SO.run,↓reduceIte,Nat.reduceEqDiff,Nat.reduceAdd,Nat.reduceLeDiff,h4,h5,h8,h10,h11,h12,h13,i2,H.get_put,hmat,true_and]
 cases hmw:S.mw m al ql j with
 | true =>
  have w1:S.sumW m (S.mw m al ql) (j+1)=S.sumW m (S.mw m al ql) j+S.weight m (j:Int):=by rw[S.sumW,hmw];simp
  simp only[sx,sy,SO.run,↓reduceIte,Nat.reduceEqDiff,Nat.reduceAdd,Nat.reduceLeDiff,h4,h5,h8,h10,h11,h12,h13,i6,H.get_put,←w1,
   wrap64 (show -9223372036854775808≤S.sumW m (S.mw m al ql) (j+1) by omega) (show S.sumW m (S.mw m al ql) (j+1)<9223372036854775808 by omega),true_and]
  refine ⟨⟨?_,?_,?_,?_,?_,?_⟩,fun i hi=>?_⟩
  ·simp[H.get_put,i1]
  ·simp[H.get_put,i2]
  ·simp[H.get_put,i3]
  ·simp[H.get_put,i5]
  ·simp[H.get_put]
  ·simp[H.get_put]
  ·simp[H.get_put,show ¬i=6 by omega,show ¬i=7 by omega]
 | false =>
  have w1:S.sumW m (S.mw m al ql) (j+1)=S.sumW m (S.mw m al ql) j:=by rw[S.sumW,hmw];simp
  simp only[sx,sy,SO.run,↓reduceIte,Nat.reduceEqDiff,Nat.reduceAdd,Nat.reduceLeDiff,w1,true_and]
  refine ⟨⟨?_,?_,?_,?_,?_,?_⟩,fun i hi=>?_⟩
  ·simp[H.get_put,i1]
  ·simp[H.get_put,i2]
  ·simp[H.get_put,i3]
  ·simp[H.get_put,i5]
  ·simp[H.get_put,i6]
  ·simp[H.get_put]
  ·simp[H.get_put,show ¬i=7 by omega]
end
end Hx
end
section
namespace Hx
open Go
noncomputable section
theorem hidden_le {m:Causal}(hck:S.check m=true):1≤S.hidden m∧S.hidden m≤65536:=by
 have hs:=(check_facts hck).1
 have hhb:=hidden_bound hs m.roots.length
 rw[List.take_length] at hhb
 exact hhb
theorem teffect_ok {d kk:Nat}{g:G}{v act q:AV}{m:Causal}{al ql:List Int}(hd:0<d)(hm:Agg m NoP 0 g.h v)(ha:SlR NoP kk .nil al act)(hq:SlR NoP kk .nil ql q) :
  callV C0 d N.twin_Effect [v,act,q] g=.val (.tup [.agg [.int .i64 (S.teffect m al ql).1,.int .i64 (S.teffect m al ql).2],.int .i64 (S.readE m [al,ql])]):=by
 have key:∃r,callV C0 d N.twin_Effect [v,act,q] g=.val r∧Tup2 (Agg (S.teffect m al ql)) (One (S.readE m [al,ql])) NoP 0 .nil r:=by
  have e0:=agg_same d hm
  have e1:=sl_same (h:=g.h) d (ha.tree (h':=g.h) (Nat.le_refl kk))
  have e2:=sl_same (h:=g.h) d (hq.tree (h':=g.h) (Nat.le_refl kk))
  obtain ⟨cs,rfl,hc⟩:=hm
  obtain ⟨a,b,rfl,hR,hN⟩:=rp_causal.1 hc
  have hms:∀h,Agg m NoP 0 h (.agg [.int .i64 m.grain,a,b]):=fun h=>⟨_,rfl,Rp.tree hc (Nat.le_refl _)⟩
  rw[call_twin_Effect]
  refine iso_run eq_twin_Effect (xs:=[.agg [.int .i64 m.grain,a,b],act,q]) (by simp only[mapO,e0,e1,e2]) (by simp[f_twin_Effect]) (snb_tup2 (m:=2) (snb_agg _) (snb_one _) (by decide) (by decide)) (by decide) hd ?_
  simp only[f_twin_Effect,sx,sy,SO.run,↓reduceIte,Nat.reduceEqDiff,Nat.reduceAdd,ha.cell.1,ha.cell.2,hq.cell.1,hq.cell.2]
  obtain ⟨g0,hg0⟩:∃g0,g0=(((G.empty.new (AObj.cells 3 [[AV.int IntKind.i64 m.grain,a,b]] 0 false false)).new (AObj.cells 1 [[act]] 0 false false)).new (AObj.cells 1 [[q]] 0 false false)).new (AObj.cells 2 [[.int .i64 0,.int .i64 0]] 0 false false):=⟨_,rfl⟩
  rw[←hg0]
  have f0:g0.h.get 0=.cells 3 [[.int .i64 m.grain,a,b]] 0 false false:=by rw[hg0];simp[sx,H.get_put]
  have f1:g0.h.get 1=.cells 1 [[act]] 0 false false:=by rw[hg0];simp[sx,H.get_put]
  have f2:g0.h.get 2=.cells 1 [[q]] 0 false false:=by rw[hg0];simp[sx,H.get_put]
  have f3:g0.h.get 3=.cells 2 [[.int .i64 0,.int .i64 0]] 0 false false:=by rw[hg0];simp[sx,H.get_put]
  have fn:g0.nx=4:=by rw[hg0];simp[sx]
  clear hg0
  simp only[f_twin_Effect_r,sx,sy,SO.run,↓reduceIte,Nat.reduceEqDiff,Nat.reduceAdd,Nat.reduceLeDiff,f0,f1,f2]
  rw[fillRows_two ha.cell.1 ha.cell.2 hq.cell.1 hq.cell.2]
  simp only[sx,sy,SO.run,↓reduceIte,Nat.reduceEqDiff,Nat.reduceAdd,Nat.reduceLeDiff,fn]
  have hls:SlR (fun _=>True) kk (g0.new (.cells 1 [[act],[q]] 0 false false)).h [al,ql] (.hsl 4 0 0 2 none):=two_lst ha hq (by simp[fn,H.get_put])
  refine sat_ex (read_ok (ls:=[al,ql]) (Nat.succ_pos d) (Nat.succ_pos d) (hms _) hls) fun r hr=>?_
  obtain ⟨ra,rb,rfl,hra,hrb⟩:=hr
  have hrb:=rp_int.1 hrb
  injection hrb with hrb
  subst hrb
  obtain ⟨kc,rfl,hkc⟩:=hra
  obtain ⟨k1,k2,rfl,hk1,hk2⟩:=rp_known.1 hkc
  simp only[sx,sy,SO.run,↓reduceIte,Nat.reduceEqDiff,Nat.reduceAdd,Nat.reduceLeDiff,fn,H.get_put]
  refine bifP_mk (fun hb=>?_) (fun hb=>?_)
  ·have hne:S.readE m [al,ql]≠0:=by simpa using hb
   simp only[sx,sy,SO.run,↓reduceIte,Nat.reduceEqDiff,Nat.reduceAdd,Nat.reduceLeDiff,f3,fn,H.get_put]
   have:S.teffect m al ql=(0,0):=by rw[S.teffect,if_neg hne]
   rw[this]
   exact ⟨NoP,_,_,rfl,agg_q.2 rfl,rp_int.2 rfl⟩
  ·have hE:S.readE m [al,ql]=0:=by simpa using hb
   obtain ⟨hck,hall⟩:=read_all hE
   have hac:=hall al (by simp)
   have hqc:=hall ql (by simp)
   have hrd:S.read m [al,ql]=⟨m,S.hidden m⟩:=by unfold S.read;rw[if_pos hE]
   rw[hrd] at hkc hk1 hk2
   simp only[hrd] at *
   have hhb:=hidden_le hck
   have hks:∀h,Agg (⟨m,S.hidden m⟩:KnownM) NoP 0 h (.agg [.int .i64 m.grain,k1,k2,.int .i64 (S.hidden m)]):=fun h=>⟨_,rfl,Rp.tree hkc (Nat.le_refl _)⟩
   simp only[wp_skip,kS_norm]
   refine seq_cut (P:=fun t df g1=>df=[]∧St t [(4,.hptr 1 0 0 0),(5,.hptr 2 0 0 0),(6,.hptr 3 0 0 0),(8,.hptr 5 0 0 0),(10,.hptr 6 0 0 0),(11,.hptr 7 0 0 0)]∧EI m k1 k2 act q g1.h 0 0∧g1.nx=8) ?_ ?_
   ·simp[sx,sy,SO.run,St,EI,H.get_put,fn,f1,f2,f3]
   rintro t df g1 ⟨rfl,⟨h4,h5,h6,h8,h10,h11,-⟩,hI,hn⟩
   obtain ⟨wcs,hw,hwr⟩:=worlds_ok (g:=g1) (Nat.succ_pos d) (hks _)
   simp only[sx,sy,SO.run,↓reduceIte,Nat.reduceEqDiff,Nat.reduceAdd,Nat.reduceLeDiff,h8,hI.2.2.2.1,hw]
   refine rng_worlds (d:=d+1) hck hwr (by simp[sx]) (by decide) (by decide) (fun j h=>EI m k1 k2 act q h (S.sumW m (S.mw m al ql) j) (S.sumW m (fun _=>true) j)) ?_ hI ?_ ?_
   ·rintro j h h' hh ⟨i1,i2,i3,i5,i6,i7⟩
    rw[hn] at hh
    exact ⟨by rw[hh _ (by omega),i1],by rw[hh _ (by omega),i2],by rw[hh _ (by omega),i3],by rw[hh _ (by omega),i5],by rw[hh _ (by omega),i6],by rw[hh _ (by omega),i7]⟩
   ·intro j u g6 hj hJ hn6 hu
    have hJ:EI m k1 k2 act q g6.h (S.sumW m (S.mw m al ql) j) (S.sumW m (fun _=>true) j):=hJ
    simp only[f_twin_Effect_a0,sx,sy,SO.run,↓reduceIte,Nat.reduceEqDiff,Nat.reduceAdd,Nat.reduceLeDiff,true_and]
    intro g7 hn7 hf7
    have hJ7:EI m k1 k2 act q g7.h (S.sumW m (S.mw m al ql) j) (S.sumW m (fun _=>true) j):=by
     obtain ⟨i1,i2,i3,i5,i6,i7⟩:=hJ
     exact ⟨by rw[hf7 _ (by omega),i1],by rw[hf7 _ (by omega),i2],by rw[hf7 _ (by omega),i3],by rw[hf7 _ (by omega),i5],by rw[hf7 _ (by omega),i6],by rw[hf7 _ (by omega),i7]⟩
    have hu7:SlR (fun i=>8≤i) 0 g7.h (S.values (S.lens m) (j:Int)) u:=by
     obtain ⟨w,e,z⟩:=Rp.mono (P':=fun i=>8≤i) (k':=0) (h':=g7.h) (show Rp.rp (fun i=>g1.nx+2≤i) 0 g6.h (S.values (S.lens m) (j:Int)) [u] from ⟨u,rfl,hu⟩) (fun i hi=>⟨by omega,hf7 i (by omega)⟩) (Nat.le_refl _)
     injection e with e;subst e;exact z
    refine wp_mono _ (effect_body (d:=d+1) (rd:=some (g1.nx+1)) (j:=j) (al:=al) (ql:=ql) (Nat.succ_pos d) hck hac hqc hks ha hq hu7 hj (by simp[St,sx,h4,h5,h8,h10,h11]) hJ7) ?_
    rintro e t' df g8 ⟨rfl,rfl,b1,b2,b3⟩
    exact ⟨rfl,rfl,b1,by omega,fun i h1 h2=>b3 i (by omega)⟩
   ·intro g9 hJ hn9 hdf
    obtain ⟨i1,i2,i3,i5,i6,i7⟩:EI m k1 k2 act q g9.h (S.sumW m (S.mw m al ql) (S.hidden m).toNat) (S.sumW m (fun _=>true) (S.hidden m).toNat):=hJ
    have hb1:=whole_bound hck (S.mw m al ql)
    have hb2:=whole_bound hck (fun _=>true)
    have hwp:=whole_pos hck
    have e6:S.sumW m (S.mw m al ql) (S.hidden m).toNat=((S.effS m al ql).toNat:Int):=by rw[S.effS,Int.toNat_of_nonneg hb1.1]
    have e7:S.sumW m (fun _=>true) (S.hidden m).toNat=((S.whole m).toNat:Int):=by rw[S.whole,Int.toNat_of_nonneg hb2.1]
    rw[e6] at i6 hb1
    rw[e7] at i7 hb2
    have hT:S.teffect m al ql=S.low (S.effS m al ql).toNat (S.whole m).toNat:=by rw[S.teffect,if_pos hE]
    have hmk:∀g,callV C0 (d+1) N.frac_Make [.int .i64 ((S.effS m al ql).toNat:Int),.int .i64 ((S.whole m).toNat:Int)] g=.val (.tup [.agg [.int .i64 (S.teffect m al ql).1,.int .i64 (S.teffect m al ql).2],.int .i64 0]):=fun g=>by
     rw[hT];exact fmake_ok (Nat.succ_pos d) (by omega) (by omega) (by omega)
    simp only[f_twin_Effect_k2,sx,sy,SO.run,↓reduceIte,Nat.reduceEqDiff,Nat.reduceAdd,Nat.reduceLeDiff,h4,h5,h6,h8,h10,h11,i3,i6,i7,hmk,H.get_put]
    rw[hn] at hdf ⊢
    refine endP_mark (by simp[H.get_put,hdf]) ?_
    simp only[sx,sy,SO.run,↓reduceIte,Nat.reduceEqDiff,Nat.reduceAdd,Nat.reduceLeDiff,h6,H.get_put]
    rw[hE]
    exact ⟨NoP,_,_,rfl,agg_q.2 rfl,rp_int.2 rfl⟩
 obtain ⟨r,h1,a,b,rfl,h2,h3⟩:=key
 have h3:=rp_int.1 h3
 injection h3 with h3
 rw[h1,agg_q.1 h2,h3]
end
end Hx
end
section
namespace Hx
open Go
noncomputable section
def S.none (m:Causal):List Int:=List.replicate m.nodes.length (-1)
theorem act_none {m:Causal}(h:S.Small m):S.act m (S.none m)=true:=by
 simp only[S.act,S.none,List.length_replicate,decide_true,Bool.true_and,List.all_eq_true,List.mem_range]
 intro i hi
 simp only[S.actAt,List.getElem?_replicate,if_pos hi,Option.getD_some,Bool.and_eq_true,decide_eq_true_eq]
 have:=h.card _ (List.getElem_mem hi)
 refine ⟨Int.le_refl _,?_⟩
 have e:S.cardAt m i=(m.nodes[i]).card:=by unfold S.cardAt;rw[Int.toNat_natCast,List.getElem?_eq_getElem hi];rfl
 rw[e];omega
def CI (m:Causal)(k1 k2 el act q f:AV)(h:H)(s w:Int):Prop:=h.get 1=.cells 1 [[el]] 0 false false∧h.get 2=.cells 1 [[act]] 0 false false∧h.get 3=.cells 1 [[q]] 0 false false∧h.get 4=.cells 2 [[.int .i64 0,.int .i64 0]] 0 false false ∧
 h.get 6=.cells 4 [[.int .i64 m.grain,k1,k2,.int .i64 (S.hidden m)]] 0 false false∧h.get 7=.cells 1 [[.int .i64 s]] 0 false false∧h.get 8=.cells 1 [[.int .i64 w]] 0 false false∧h.get 9=.cells 1 [[f]] 0 false false
theorem CI.fr {m:Causal}{k1 k2 el act q f:AV}{h h':H}{s w:Int}(hI:CI m k1 k2 el act q f h s w)(hh:∀i,i<10→h'.get i=h.get i):CI m k1 k2 el act q f h' s w:=by
 obtain ⟨i1,i2,i3,i4,i6,i7,i8,i9⟩:=hI
 exact ⟨by rw[hh _ (by omega),i1],by rw[hh _ (by omega),i2],by rw[hh _ (by omega),i3],by rw[hh _ (by omega),i4],by rw[hh _ (by omega),i6],by rw[hh _ (by omega),i7],by rw[hh _ (by omega),i8],by rw[hh _ (by omega),i9]⟩
end
end Hx
end
section
namespace Hx
open Go
noncomputable section
theorem act_intro {m:Causal}{l:List Int}(hl:l.length=m.nodes.length)(h:∀(i:Nat) (x:Mech),m.nodes[i]?=some x→-1≤l[i]?.getD 0∧l[i]?.getD 0<x.card):S.act m l=true:=by
 simp only[S.act,Bool.and_eq_true,decide_eq_true_eq,List.all_eq_true,List.mem_range]
 refine ⟨hl,fun i hi=>?_⟩
 have hi':i<m.nodes.length:=by omega
 have:=h i _ (List.getElem?_eq_getElem hi')
 have e:S.cardAt m i=(m.nodes[i]).card:=by unfold S.cardAt;rw[Int.toNat_natCast,List.getElem?_eq_getElem hi'];rfl
 simp only[S.actAt,Bool.and_eq_true,decide_eq_true_eq,e]
 omega
theorem act_known {m:Causal}(hck:S.check m=true)(vs:List UInt8):S.act m (S.knownOf vs m)=true:=by
 refine act_intro (by simp[S.knownOf]) fun i x hx=>?_
 have hi:=(List.getElem?_eq_some_iff.1 hx).1
 have hc:=(check_facts hck).1.card x (List.mem_of_getElem? hx)
 have e:(S.knownOf vs m)[i]?.getD 0=if ((vs[i]?.map UInt8.toNat).getD 0:Nat) % 3=0 then (((vs[i]?.map UInt8.toNat).getD 0 / 3:Nat):Int) % x.card else -1:=by
  simp only[S.knownOf,List.getElem?_map,List.getElem?_range hi,Option.map_some,Option.getD_some,hx]
 rw[e]
 split
 ·have h1:=Int.emod_nonneg (((vs[i]?.map UInt8.toNat).getD 0 / 3:Nat):Int) (show x.card≠0 by omega)
  have h2:=Int.emod_lt_of_pos (((vs[i]?.map UInt8.toNat).getD 0 / 3:Nat):Int) (show 0<x.card by omega)
  omega
 ·omega
theorem mat_iff {vals e:List Int}:S.matches vals e=true↔∀i,i<e.length→e[i]?.getD 0<0∨e[i]?.getD 0=vals[i]?.getD 0:=by
 simp only[S.matches,List.all_eq_true,List.mem_range,S.matchAt,Bool.or_eq_true,decide_eq_true_eq]
theorem readE_ok {m:Causal}(hck:S.check m=true){ls:List (List Int)}(h:∀l∈ls,S.act m l=true):S.readE m ls=0:=by
 unfold S.readE
 rw[if_pos hck,if_pos (List.all_eq_true.2 h)]
theorem teffect_eq {m:Causal}(hck:S.check m=true){act q:List Int}(ha:S.act m act=true)(hq:S.act m q=true):S.readE m [act,q]=0∧S.teffect m act q=S.low (S.effS m act q).toNat (S.whole m).toNat:=by
 have h:S.readE m [act,q]=0:=readE_ok hck (by simp[ha,hq])
 exact ⟨h,by rw[S.teffect,if_pos h]⟩
theorem low_zero (w:Nat)(h:0<w):S.low 0 w=(0,1):=by
 simp[S.low,Nat.gcd_zero_left,Nat.div_self h]
theorem low_self (w:Nat)(h:0<w):S.low w w=(1,1):=by
 simp[S.low,Nat.gcd_self,Nat.div_self h]
def S.same (s a:List Int):List Int:=(List.range s.length).map fun i=>if a[i]?.getD 0<0 then -1 else s[i]?.getD 0
theorem run_at {m:Causal}{roots act:List Int}{i:Nat}(h:i<m.nodes.length):(S.run m roots act)[i]?.getD 0=S.V m roots act i:=by simp[S.run,h]
end
end Hx
end
section
namespace Hx
open Go
set_option maxRecDepth 100000
noncomputable section
def f_law33_TwinSets_k0:SC:=.ops [o 95 (.bin .add (.t 84) (.k (.int .i64 1))),o 84 (.mv (.t 95))]
def f_law33_TwinSets_b1:SC:=.seq (.ops [o 85 (.bin .lss (.t 84) (.t 83))]) (.seq (.cond (.t 85) (.skip) (.exit 0)) (.seq (.blk 1 (.seq (.ops [o 86 (.mv (.t 84)),o 87 (.ixs 1 (.t 82) (.t 84)),o 88 (.load false 1 (.t 87)),o 16 (.mv (.t 86)),o 17 (.mv (.t 88))]) (.seq (.ops [o 89 (.mv (.t 17)),o 90 (.bin .geq (.t 89) (.k (.int .i64 0)))]) (.cond (.t 90) (.ops [o 91 (.mv (.t 15)),o 92 (.mv (.t 16)),o 93 (.bin .shl (.k (.int .u64 1)) (.t 92)),o 94 (.bin .or (.t 91) (.t 93)),o 15 (.mv (.t 94))]) (.skip))))) f_law33_TwinSets_k0))
def f_law33_TwinSets_k2:SC:=.ops [o 115 (.bin .add (.t 102) (.k (.int .i64 1))),o 102 (.mv (.t 115))]
def f_law33_TwinSets_b3:SC:=.seq (.ops [o 103 (.bin .lss (.t 102) (.t 101))]) (.seq (.cond (.t 103) (.skip) (.exit 4)) (.seq (.blk 5 (.seq (.ops [o 104 (.mv (.t 102)),o 105 (.ixs 1 (.t 100) (.t 102)),o 106 (.load false 1 (.t 105)),o 18 (.mv (.t 104)),o 19 (.mv (.t 106))]) (.seq (.ops [o 107 (.mv (.t 19)),o 108 (.mv (.t 15)),o 109 (.bin .and (.t 107) (.t 108)),o 110 (.bin .neq (.t 109) (.k (.int .u64 0)))]) (.cond (.t 110) (.ops [o 111 (.mv (.t 15)),o 112 (.mv (.t 18)),o 113 (.bin .shl (.k (.int .u64 1)) (.t 112)),o 114 (.bin .or (.t 111) (.t 113)),o 15 (.mv (.t 114))]) (.skip))))) f_law33_TwinSets_k2))
def f_law33_TwinSets_k4:SC:=.ops [o 116 (.bin .add (.t 98) (.k (.int .i64 1))),o 98 (.mv (.t 116))]
def f_law33_TwinSets_b5:SC:=.seq (.ops [o 99 (.bin .lss (.t 98) (.t 97))]) (.seq (.cond (.t 99) (.skip) (.exit 2)) (.seq (.blk 3 (.seq (.ops [o 100 (.mv (.t 10)),o 101 (.len .slice (.t 100)),o 102 (.mv (.k (.int .i64 0)))]) (.blk 4 (.loop f_law33_TwinSets_b3)))) f_law33_TwinSets_k4))
def f_law33_TwinSets_b6:SC:=.seq (.ops [o 121 (.bin .lss (.t 120) (.t 119))]) (.seq (.cond (.t 121) (.skip) (.exit 6)) (.seq (.blk 7 (.seq (.ops [o 122 (.ixs 1 (.t 118) (.t 120)),o 123 (.load false 1 (.t 122)),o 22 (.mv (.t 123))]) (.ops [o 124 (.mv (.t 20)),o 125 (.mv (.t 22)),o 126 (.len .slice (.t 125)),o 127 (.bin .mul (.t 124) (.t 126)),o 20 (.mv (.t 127))]))) (.ops [o 128 (.bin .add (.t 120) (.k (.int .i64 1))),o 120 (.mv (.t 128))])))
def f_law33_TwinSets_b7:SC:=.seq (.ops [o 170 (.bin .lss (.t 169) (.t 168))]) (.seq (.cond (.t 170) (.skip) (.exit 10)) (.seq (.blk 11 (.seq (.ops [o 171 (.mv (.t 169)),o 172 (.ixs 1 (.t 167) (.t 169)),o 173 (.load false 1 (.t 172)),o 28 (.mv (.t 171)),o 29 (.mv (.t 173))]) (.seq (.quiet [o 174 (.mv (.t 29)),o 175 (.bin .geq (.t 174) (.k (.int .i64 0))),o 176 (.mv (.t 175)),og 177 176 true (.mv (.t 24)),og 178 176 true (.mv (.t 28)),og 179 176 true (.ixs 1 (.t 177) (.t 178)),og 180 176 true (.load false 1 (.t 179)),og 181 176 true (.mv (.t 29)),og 182 176 true (.bin .neq (.t 180) (.t 181)),o 183 (.pick (.t 176) (.t 182) (.k (.bool false))),o 184 (.mv (.t 183)),og 185 184 false (.mv (.t 15)),og 186 184 false (.mv (.t 28)),og 187 184 false (.bin .shr (.t 185) (.t 186)),og 188 184 false (.bin .and (.t 187) (.k (.int .u64 1))),og 189 184 false (.bin .eql (.t 188) (.k (.int .u64 0))),og 190 184 false (.mv (.t 189)),og 191 190 true (.mv (.t 24)),og 192 190 true (.mv (.t 28)),og 193 190 true (.ixs 1 (.t 191) (.t 192)),og 194 190 true (.load false 1 (.t 193)),og 195 190 true (.mv (.t 26)),og 196 190 true (.mv (.t 28)),og 197 190 true (.ixs 1 (.t 195) (.t 196)),og 198 190 true (.load false 1 (.t 197)),og 199 190 true (.bin .neq (.t 194) (.t 198)),og 200 184 false (.pick (.t 190) (.t 199) (.k (.bool false))),o 201 (.pick (.t 184) (.k (.bool true)) (.t 200)),o 202 (.mv (.t 201)),og 203 202 false (.mv (.t 24)),og 204 202 false (.mv (.t 28)),og 205 202 false (.ixs 1 (.t 203) (.t 204)),og 206 202 false (.load false 1 (.t 205)),og 207 202 false (.bin .lss (.t 206) (.k (.int .i64 0))),o 208 (.pick (.t 202) (.k (.bool true)) (.t 207)),o 209 (.mv (.t 208)),og 210 209 false (.mv (.t 24)),og 211 209 false (.mv (.t 28)),og 212 209 false (.ixs 1 (.t 210) (.t 211)),og 213 209 false (.load false 1 (.t 212)),og 214 209 false (.fad 2 (.t 7)),og 215 209 false (.load false 1 (.t 214)),og 216 209 false (.mv (.t 28)),og 217 209 false (.ixs 4 (.t 215) (.t 216)),og 218 209 false (.fad 0 (.t 217)),og 219 209 false (.load false 1 (.t 218)),og 220 209 false (.bin .geq (.t 213) (.t 219)),o 221 (.pick (.t 209) (.k (.bool true)) (.t 220))]) (.cond (.t 221) (.seq (.ops [o 6 (.mv (.k (.bool false)))]) (.ret)) (.skip))))) (.ops [o 222 (.bin .add (.t 169) (.k (.int .i64 1))),o 169 (.mv (.t 222))])))
def f_law33_TwinSets_k8:SC:=.ops [o 223 (.bin .add (.t 130) (.k (.int .i64 1))),o 130 (.mv (.t 223))]
def f_law33_TwinSets_b9:SC:=.seq (.ops [o 131 (.bin .lss (.t 130) (.t 129))]) (.seq (.cond (.t 131) (.skip) (.exit 8)) (.seq (.blk 9 (.seq (.ops [o 132 (.mv (.t 130)),o 23 (.mv (.t 132))]) (.seq (.ops [o 134 (.load true 3 (.t 7)),o 135 (.mv (.t 23)),o 136 (.mv (.t 8)),o 137 (.call N.twin_Run [.t 134,.t 135,.t 136]),o 133 (.mv (.t 137)),o 138 (.ext (.t 133) 0),o 139 (.ext (.t 133) 1),o 24 (.mv (.t 138)),o 25 (.mv (.t 139))]) (.seq (.ops [o 141 (.load true 3 (.t 7)),o 142 (.mv (.t 23)),o 143 (.mv (.t 9)),o 144 (.call N.twin_Run [.t 141,.t 142,.t 143]),o 140 (.mv (.t 144)),o 145 (.ext (.t 140) 0),o 146 (.ext (.t 140) 1),o 26 (.mv (.t 145)),o 27 (.mv (.t 146))]) (.seq (.seq (.ops [o 147 (.mv (.t 25)),o 148 (.bin .neq (.t 147) (.k (.int .i64 0))),o 149 (.mv (.t 148)),og 150 149 false (.mv (.t 27)),og 151 149 false (.bin .neq (.t 150) (.k (.int .i64 0))),o 152 (.pick (.t 149) (.k (.bool true)) (.t 151)),o 153 (.mv (.t 152)),og 154 153 false (.mv (.t 24)),og 155 153 false (.len .slice (.t 154)),og 156 153 false (.mv (.t 8)),og 157 153 false (.len .slice (.t 156)),og 158 153 false (.bin .neq (.t 155) (.t 157)),o 159 (.pick (.t 153) (.k (.bool true)) (.t 158)),o 160 (.mv (.t 159)),og 161 160 false (.mv (.t 26)),og 162 160 false (.len .slice (.t 161)),og 163 160 false (.mv (.t 8)),og 164 160 false (.len .slice (.t 163)),og 165 160 false (.bin .neq (.t 162) (.t 164)),o 166 (.pick (.t 160) (.k (.bool true)) (.t 165))]) (.cond (.t 166) (.seq (.ops [o 6 (.mv (.k (.bool false)))]) (.ret)) (.skip))) (.seq (.ops [o 167 (.mv (.t 8)),o 168 (.len .slice (.t 167)),o 169 (.mv (.k (.int .i64 0)))]) (.blk 10 (.loop f_law33_TwinSets_b7)))))))) f_law33_TwinSets_k8))
def f_law33_TwinSets_b10:SC:=.seq (.ops [o 238 (.bin .lss (.t 237) (.t 236))]) (.seq (.cond (.t 238) (.skip) (.exit 12)) (.seq (.blk 13 (.seq (.ops [o 239 (.mv (.t 237)),o 32 (.mv (.t 239))]) (.seq (.ops [o 240 (.mv (.t 9)),o 241 (.call N.slices_Cloneintint [.t 240]),o 33 (.mv (.t 241))]) (.seq (.ops [o 242 (.mv (.t 33)),o 243 (.mv (.t 30)),o 244 (.mv (.t 32)),o 245 (.ixs 1 (.t 242) (.t 243)),oz (.store 1 (.t 245) (.t 244))]) (.seq (.ops [o 247 (.load true 3 (.t 7)),o 248 (.mv (.t 8)),o 249 (.mv (.t 33)),o 250 (.call N.twin_Effect [.t 247,.t 248,.t 249]),o 246 (.mv (.t 250)),o 251 (.ext (.t 246) 0),o 252 (.ext (.t 246) 1),o 34 (.alloc [.int .i64 0,.int .i64 0]),oz (.store 2 (.t 34) (.t 251)),o 35 (.mv (.t 252))]) (.seq (.ops [o 254 (.load true 2 (.t 31)),o 255 (.load true 2 (.t 34)),o 256 (.call N.frac_Add [.t 254,.t 255]),o 253 (.mv (.t 256)),o 257 (.ext (.t 253) 0),o 258 (.ext (.t 253) 1),o 36 (.alloc [.int .i64 0,.int .i64 0]),oz (.store 2 (.t 36) (.t 257)),o 37 (.mv (.t 258))]) (.seq (.seq (.ops [o 259 (.mv (.t 35)),o 260 (.bin .neq (.t 259) (.k (.int .i64 0))),o 261 (.mv (.t 260)),og 262 261 false (.mv (.t 37)),og 263 261 false (.bin .neq (.t 262) (.k (.int .i64 0))),o 264 (.pick (.t 261) (.k (.bool true)) (.t 263))]) (.cond (.t 264) (.seq (.ops [o 6 (.mv (.k (.bool false)))]) (.ret)) (.skip))) (.ops [o 265 (.load true 2 (.t 36)),oz (.store 2 (.t 31) (.t 265))])))))))) (.ops [o 266 (.bin .add (.t 237) (.k (.int .i64 1))),o 237 (.mv (.t 266))])))
def f_law33_TwinSets_k11:SC:=.seq (.ops [o 267 (.load true 2 (.t 31)),o 268 (.build [.int .i64 0,.int .i64 0] [(0,1),(1,1)] [.k (.int .i64 1),.k (.int .i64 1)]),o 269 (.eq false (.flat [.int .i64,.int .i64]) (.t 267) (.t 268)),o 6 (.mv (.t 269))]) (.ret)
def f_law33_TwinSets_k12:SC:=.seq (.ops [o 224 (.mv (.t 2)),o 225 (.conv .i64 (.t 224)),o 226 (.fad 2 (.t 7)),o 227 (.load false 1 (.t 226)),o 228 (.len .slice (.t 227)),o 229 (.bin .rem (.t 225) (.t 228)),o 30 (.mv (.t 229))]) (.seq (.ops [o 230 (.build [.int .i64 0,.int .i64 0] [(0,1),(1,1)] [.k (.int .i64 0),.k (.int .i64 1)]),o 31 (.alloc [.int .i64 0,.int .i64 0]),oz (.store 2 (.t 31) (.t 230))]) (.seq (.seq (.ops [o 231 (.fad 2 (.t 7)),o 232 (.load false 1 (.t 231)),o 233 (.mv (.t 30)),o 234 (.ixs 4 (.t 232) (.t 233)),o 235 (.fad 0 (.t 234)),o 236 (.load false 1 (.t 235)),o 237 (.mv (.k (.int .i64 0)))]) (.blk 12 (.loop f_law33_TwinSets_b10))) f_law33_TwinSets_k11))
def f_law33_TwinSets_k13:SC:=.seq (.seq (.ops [o 129 (.mv (.t 20)),o 130 (.mv (.k (.int .i64 0)))]) (.blk 8 (.loop f_law33_TwinSets_b9))) f_law33_TwinSets_k12
def f_law33_TwinSets_k14:SC:=.seq (.ops [o 20 (.mv (.k (.int .i64 1)))]) (.seq (.seq (.ops [o 117 (.fad 1 (.t 7)),o 118 (.load false 1 (.t 117)),o 119 (.len .slice (.t 118)),o 120 (.mv (.k (.int .i64 0)))]) (.blk 6 (.loop f_law33_TwinSets_b6))) f_law33_TwinSets_k13)
def f_law33_TwinSets_k15:SC:=.seq (.seq (.ops [o 96 (.mv (.t 10)),o 97 (.len .slice (.t 96)),o 98 (.mv (.k (.int .i64 0)))]) (.blk 2 (.loop f_law33_TwinSets_b5))) f_law33_TwinSets_k14
def f_law33_TwinSets_r:SC:=.seq (.seq (.ops [o 38 (.call N.law33_works []),o 39 (.not (.t 38))]) (.cond (.t 39) (.seq (.ops [o 6 (.mv (.k (.bool false)))]) (.ret)) (.skip))) (.seq (.ops [o 40 (.load true 5 (.t 3)),o 41 (.call N.ref33_Draft_Model [.t 40]),o 7 (.alloc [.int .i64 0,.nils,.nils]),oz (.store 3 (.t 7) (.t 41))]) (.seq (.feet [0,0,3,0,0,16,48,127,255,511] [o 42 (.load true 5 (.t 4)),o 43 (.load true 3 (.t 7)),o 44 (.call N.ref33_Known_Of [.t 42,.t 43]),o 45 (.bsl 1 1 [.int .i64 0] [0] [.k (.int .i64 (-1))]),o 46 (.fad 2 (.t 7)),o 47 (.load false 1 (.t 46)),o 48 (.len .slice (.t 47)),o 49 (.call N.slices_Repeatintint [.t 45,.t 48]),o 8 (.mv (.t 44)),o 9 (.mv (.t 49))]) (.seq (.ops [o 51 (.load true 3 (.t 7)),o 52 (.call N.twin_Graph [.t 51]),o 50 (.mv (.t 52)),o 53 (.ext (.t 50) 0),o 54 (.ext (.t 50) 1),o 55 (.ext (.t 50) 2),o 10 (.mv (.t 53)),o 11 (.mv (.t 54)),o 12 (.mv (.t 55))]) (.seq (.ops [o 57 (.load true 3 (.t 7)),o 58 (.mv (.t 8)),o 59 (.call N.twin_Table [.t 57,.t 58]),o 56 (.mv (.t 59)),o 60 (.ext (.t 56) 0),o 61 (.ext (.t 56) 1),o 13 (.alloc [.nils,.nils,.nils]),oz (.store 3 (.t 13) (.t 60)),o 14 (.mv (.t 61))]) (.seq (.seq (.ops [o 62 (.mv (.t 12)),o 63 (.bin .neq (.t 62) (.k (.int .i64 0))),o 64 (.mv (.t 63)),og 65 64 false (.mv (.t 14)),og 66 64 false (.bin .neq (.t 65) (.k (.int .i64 0))),o 67 (.pick (.t 64) (.k (.bool true)) (.t 66)),o 68 (.mv (.t 67)),og 69 68 false (.mv (.t 10)),og 70 68 false (.len .slice (.t 69)),og 71 68 false (.fad 2 (.t 7)),og 72 68 false (.load false 1 (.t 71)),og 73 68 false (.len .slice (.t 72)),og 74 68 false (.bin .neq (.t 70) (.t 73)),o 75 (.pick (.t 68) (.k (.bool true)) (.t 74)),o 76 (.mv (.t 75)),og 77 76 false (.fad 2 (.t 13)),og 78 76 false (.load false 1 (.t 77)),og 79 76 false (.len .slice (.t 78)),og 80 76 false (.bin .lss (.t 79) (.k (.int .i64 1))),o 81 (.pick (.t 76) (.k (.bool true)) (.t 80))]) (.cond (.t 81) (.seq (.ops [o 6 (.mv (.k (.bool false)))]) (.ret)) (.skip))) (.seq (.ops [o 15 (.mv (.k (.int .u64 0)))]) (.seq (.seq (.ops [o 82 (.mv (.t 8)),o 83 (.len .slice (.t 82)),o 84 (.mv (.k (.int .i64 0)))]) (.blk 0 (.loop f_law33_TwinSets_b1))) f_law33_TwinSets_k15)))))))
def f_law33_TwinSets:SF:=⟨270,[.tm 6],.seq (.ops [o 3 (.box (.t 0)),o 4 (.box (.t 1)),o 6 (.mv (.k (.bool false)))]) f_law33_TwinSets_r⟩
theorem eq_law33_TwinSets:nFn C0 N.law33_TwinSets=some f_law33_TwinSets:=by kernel_rfl
end
end Hx
end
section
namespace Hx
open Go
noncomputable section
theorem made_small {m:Causal}(h:Made m):m.roots.length≤6∧S.hidden m≤729:=by
 obtain ⟨e,c,R,F,N,O,num,rfl,hn,hg,hF,hR,hN,hlt,hinj,hsur,hnd⟩:=h.ex
 refine ⟨hR,?_⟩
 have:=prod_bound3 (l:=R.map fun r=>(r.length:Int)) fun x hx=>by
  obtain ⟨r,hr,rfl⟩:=List.mem_map.1 hx
  obtain ⟨q,z,-,-,-,rfl⟩:=hF.roots r hr
  have:=weights_len e.gr q z
  omega
 have hp:=pow3_6 (n:=(R.map fun r=>(r.length:Int)).length) (by simpa using hR)
 show S.prod (R.map fun r=>(r.length:Int))≤729
 omega
theorem pow12_6 {n:Nat}(h:n≤6):(12:Int) ^ n≤2985984:=by
 match n,h with
 | 0,_=>decide
 | 1,_=>decide
 | 2,_=>decide
 | 3,_=>decide
 | 4,_=>decide
 | 5,_=>decide
 | 6,_=>decide
 | n+7,h=>omega
theorem weight_le6 {m:Causal}(hck:S.check m=true)(h6:m.roots.length≤6)(j:Nat):S.weight m (j:Int)≤2985984:=by
 have:=prod_bound12 (l:=(List.range m.roots.length).map (S.wAt m (j:Int))) fun x hx=>by
  obtain ⟨r,hr,rfl⟩:=List.mem_map.1 hx
  exact wAt_bound hck (Int.natCast_nonneg j) (List.mem_range.1 hr)
 have hp:=pow12_6 (n:=((List.range m.roots.length).map (S.wAt m (j:Int))).length) (by simpa using h6)
 show S.prod ((List.range m.roots.length).map (S.wAt m (j:Int)))≤2985984
 omega
theorem sumW_le6 {m:Causal}(hck:S.check m=true)(h6:m.roots.length≤6)(p:Nat→Bool):∀j:Nat,S.sumW m p j≤2985984*(j:Int)
 | 0=>by simp[S.sumW]
 | j+1=>by
  have h1:=sumW_le6 hck h6 p j
  have h2:=weight_le6 hck h6 j
  rw[S.sumW]
  split<;>omega
theorem made_whole {m:Causal}(h:Made m):S.whole m≤3000000000:=by
 obtain ⟨h1,h2⟩:=made_small h
 have:=sumW_le6 (made_right h) h1 (fun _=>true) (S.hidden m).toNat
 unfold S.whole
 omega
def S.tset (act:List Int)(j:Nat):Nat:=(List.range j).foldl (fun T u=>if 0≤act[u]?.getD 0 then T ||| S.bit u else T) 0
def S.tstep (p:List Nat)(T u:Nat):Nat:=if p[u]?.getD 0 &&& T=0 then T else T ||| S.bit u
def S.tround (p:List Nat)(T j:Nat):Nat:=(List.range j).foldl (S.tstep p) T
def S.tch (p:List Nat)(T:Nat):Nat→Nat
 | 0=>T
 | k+1=>S.tround p (S.tch p T k) p.length
theorem tset_succ (act:List Int)(j:Nat):S.tset act (j+1)=if 0≤act[j]?.getD 0 then S.tset act j ||| S.bit j else S.tset act j:=by
 unfold S.tset;rw[List.range_succ,List.foldl_append];rfl
theorem tround_succ (p:List Nat)(T j:Nat):S.tround p T (j+1)=S.tstep p (S.tround p T j) j:=by
 unfold S.tround;rw[List.range_succ,List.foldl_append];rfl
theorem tset_lt {act:List Int}{n:Nat}(hn:n≤5):∀j,j≤n→S.tset act j<2 ^ n
 | 0,_=>Nat.pow_pos (by decide)
 | j+1,h=>by
  have ih:=tset_lt (act:=act) hn j (by omega)
  rw[tset_succ]
  split
  ·exact or_lt2 ih (by rw[bit_eq (by omega)];exact Nat.pow_lt_pow_right (by decide) h)
  ·exact ih
theorem tset_tb {act:List Int}:∀j u,j≤64→u<j→0≤act[u]?.getD 0→(S.tset act j).testBit u=true
 | 0,u,_,h,_=>by omega
 | j+1,u,hj,h,ha=>by
  rw[tset_succ]
  by_cases e:u=j
  ·subst e;rw[if_pos ha,or_tb,bit_tb (by omega)];simp
  ·have:=tset_tb (act:=act) j u (by omega) (by omega) ha
   split
   ·rw[or_tb,this,Bool.true_or]
   ·exact this
theorem tstep_sub (p:List Nat)(T u:Nat):Sub T (S.tstep p T u):=fun v hv=>by
 unfold S.tstep
 split
 ·exact hv
 ·rw[or_tb,hv,Bool.true_or]
theorem tround_sub (p:List Nat)(T:Nat){i:Nat}:∀j,i≤j→Sub (S.tround p T i) (S.tround p T j)
 | 0,h=>by rw[show i=0 by omega];exact fun v hv=>hv
 | j+1,h=>by
  by_cases e:i=j+1
  ·subst e;exact fun v hv=>hv
  ·rw[tround_succ]
   exact fun v hv=>tstep_sub p _ j v (tround_sub p T j (by omega) v hv)
theorem tround_lt {p:List Nat}{T n:Nat}(hn:n≤5)(hT:T<2 ^ n):∀j,j≤n→S.tround p T j<2 ^ n
 | 0,_=>hT
 | j+1,h=>by
  have ih:=tround_lt (p:=p) hn hT j (by omega)
  rw[tround_succ]
  unfold S.tstep
  split
  ·exact ih
  ·exact or_lt2 ih (by rw[bit_eq (by omega)];exact Nat.pow_lt_pow_right (by decide) h)
theorem tch_lt {p:List Nat}{T:Nat}(hn:p.length≤5)(hT:T<2 ^ p.length):∀k,S.tch p T k<2 ^ p.length
 | 0=>hT
 | k+1=>tround_lt hn (tch_lt hn hT k) _ (Nat.le_refl _)
theorem tch_sub (p:List Nat)(T:Nat):∀k,Sub T (S.tch p T k)
 | 0=>fun v hv=>hv
 | k+1=>fun v hv=>tround_sub p (S.tch p T k) (i:=0) p.length (Nat.zero_le _) v (tch_sub p T k v hv)
theorem tch_closed {p:List Nat}{T:Nat}(hn:p.length≤5)(hT:T<2 ^ p.length){u:Nat}(hu:u<p.length)(hp:p[u]?.getD 0 &&& S.tch p T p.length≠0):(S.tch p T p.length).testBit u=true:=by
 have hs:S.tround p (S.tch p T p.length) p.length=S.tch p T p.length:=still (f:=S.tch p T) (n:=p.length) (fun j=>tround_sub p _ (i:=0) p.length (Nat.zero_le _)) (tch_lt hn hT) fun j h=>by
  show S.tround p (S.tround p (S.tch p T j) p.length) p.length=S.tround p (S.tch p T j) p.length
  rw[show S.tround p (S.tch p T j) p.length=S.tch p T j from h]
  exact h
 generalize S.tch p T p.length=Z at *
 have h1:S.tround p Z u=Z:=sub_antisymm (fun v hv=>by rw[←hs];exact tround_sub p Z (i:=u) p.length (by omega) v hv) (tround_sub p Z (i:=0) u (Nat.zero_le _))
 have h2:Sub (S.tround p Z (u+1)) Z:=fun v hv=>by rw[←hs];exact tround_sub p Z (i:=u+1) p.length (by omega) v hv
 rw[tround_succ,h1,S.tstep,if_neg hp] at h2
 exact h2 u (by rw[or_tb,bit_tb (by omega)];simp)
theorem untouched {m:Causal}(hck:S.check m=true){roots act:List Int}{T:Nat}(hset:∀u,u<m.nodes.length→0≤act[u]?.getD 0→T.testBit u=true)
  (hcl:∀(u:Nat) (x:Mech),m.nodes[u]?=some x→S.mask x.frm &&& T≠0→T.testBit u=true) :
  ∀(u:Nat),u<m.nodes.length→T.testBit u=false→S.V m roots act u=S.V m roots (S.none m) u:=by
 have hn5:=(check_facts hck).1.nodes
 obtain ⟨r,hr⟩:=ranks hck
 have key:∀k u (x:Mech),r u≤k→m.nodes[u]?=some x→T.testBit u=false→S.V m roots act u=S.V m roots (S.none m) u:=by
  intro k
  induction k with
  | zero =>
   intro u x hk hx ht
   have hi:=(List.getElem?_eq_some_iff.1 hx).1
   have h1:=sol_V hck roots act u x hx
   have h2:=sol_V hck roots (S.none m) u x hx
   have h3:(S.none m)[u]?.getD 0 = -1:=by simp[S.none,hi]
   have h4:¬0≤act[u]?.getD 0:=fun h=>by rw[hset u hi h] at ht;cases ht
   rw[h1,h2]
   unfold S.eqn
   rw[h3,if_neg h4,if_neg (by decide)]
   have:S.inVals x roots (S.V m roots act)=S.inVals x roots (S.V m roots (S.none m)):=by
    unfold S.inVals
    rw[List.map_congr_left fun q hq=>by have:=hr u x hx q hq;omega]
   rw[this]
  | succ k ih =>
   intro u x hk hx ht
   have hi:=(List.getElem?_eq_some_iff.1 hx).1
   have h1:=sol_V hck roots act u x hx
   have h2:=sol_V hck roots (S.none m) u x hx
   have h3:(S.none m)[u]?.getD 0 = -1:=by simp[S.none,hi]
   have h4:¬0≤act[u]?.getD 0:=fun h=>by rw[hset u hi h] at ht;cases ht
   rw[h1,h2]
   unfold S.eqn
   rw[h3,if_neg h4,if_neg (by decide)]
   have:S.inVals x roots (S.V m roots act)=S.inVals x roots (S.V m roots (S.none m)):=by
    unfold S.inVals
    rw[List.map_congr_left fun q hq=>?_]
    have hpm:=check_pl hck (List.mem_of_getElem? hx)
    have hq':=places_mem hpm.1 q hq
    have hql:q.toNat<m.nodes.length:=by omega
    refine ih q.toNat _ (by have:=hr u x hx q hq;omega) (List.getElem?_eq_getElem hql) ?_
    cases hb:T.testBit q.toNat with
    | false=>rfl
    | true =>
     have:S.mask x.frm &&& T≠0:=fun e=>by
      have h5:(S.mask x.frm &&& T).testBit q.toNat=true:=by
       rw[Nat.testBit_and,hb,mask_tb (n:=m.nodes.length) (by omega) (places_mem hpm.1),Int.toNat_of_nonneg hq'.1,Bool.and_true,List.contains_iff_mem]
       exact hq
      rw[e] at h5;simp at h5
     rw[hcl u x hx this] at ht;cases ht
   rw[this]
 exact fun u hu ht=>key (r u) u _ (Nat.le_refl _) (List.getElem?_eq_getElem hu) ht
theorem V_set {m:Causal}(hck:S.check m=true){roots act:List Int}{u:Nat}(hu:u<m.nodes.length)(h0:0≤act[u]?.getD 0):S.V m roots act u=act[u]?.getD 0:=by
 have h1:=sol_V hck roots act u _ (List.getElem?_eq_getElem hu)
 rw[h1];unfold S.eqn;rw[if_pos h0]
def S.one (m:Causal)(u:Nat)(x:Int):List Int:=(S.none m).set u x
theorem one_at {m:Causal}{u i:Nat}{x:Int}(hi:i<m.nodes.length):(S.one m u x)[i]?.getD 0=if u=i then x else -1:=by
 unfold S.one
 by_cases e:u=i
 ·subst e;rw[if_pos rfl,List.getElem?_set_self (by simpa [S.none] using hi)];rfl
 ·rw[if_neg e,List.getElem?_set_ne e];simp[S.none,hi]
theorem act_one {m:Causal}(hck:S.check m=true){u:Nat}{x:Int}{y:Mech}(hy:m.nodes[u]?=some y)(h0:0≤x)(h1:x<y.card):S.act m (S.one m u x)=true:=by
 refine act_intro (by simp[S.one,S.none]) fun i z hz=>?_
 have hi:=(List.getElem?_eq_some_iff.1 hz).1
 have hc:=(check_facts hck).1.card z (List.mem_of_getElem? hz)
 rw[one_at hi]
 split
 ·rename_i e;subst e;rw[hy] at hz;injection hz with hz;subst hz;omega
 ·omega
theorem mw_one {m:Causal}{act:List Int}{u:Nat}{x:Int}(hu:u<m.nodes.length)(h0:0≤x)(j:Nat):S.mw m act (S.one m u x) j=decide (x=S.V m (S.values (S.lens m) (j:Int)) act u):=by
 unfold S.mw
 rw[Bool.eq_iff_iff,mat_iff,decide_eq_true_iff]
 constructor
 ·intro h
  have:=h u (by simpa [S.one,S.none] using hu)
  rw[one_at hu,if_pos rfl,run_at hu] at this
  omega
 ·intro h i hi
  have hi:i<m.nodes.length:=by simpa [S.one,S.none] using hi
  rw[one_at hi,run_at hi]
  by_cases e:u=i
  ·subst e;rw[if_pos rfl];exact .inr h
  ·rw[if_neg e];left;decide
def S.below (m:Causal)(act:List Int)(u x:Nat):Int:=S.sumW m (fun j=>decide (S.V m (S.values (S.lens m) (j:Int)) act u<(x:Int))) (S.hidden m).toNat
theorem sumW_add {m:Causal}{p q s:Nat→Bool}(h:∀j,s j=(p j || q j))(hd:∀j,¬(p j=true∧q j=true)):∀n,S.sumW m s n=S.sumW m p n+S.sumW m q n
 | 0=>rfl
 | n+1=>by
  rw[S.sumW,S.sumW,S.sumW,sumW_add h hd n,h n]
  have:=hd n
  cases hp:p n<;>cases hq:q n<;>simp[hp,hq] at *<;>omega
theorem below_succ {m:Causal}{act:List Int}{u x:Nat}(hu:u<m.nodes.length):S.below m act u (x+1)=S.below m act u x+S.effS m act (S.one m u (x:Int)):=by
 unfold S.below S.effS
 refine sumW_add (fun j=>?_) (fun j=>?_) _
 ·rw[mw_one hu (Int.natCast_nonneg x),Bool.eq_iff_iff];simp;omega
 ·rw[mw_one hu (Int.natCast_nonneg x)];simp;omega
theorem V_bound {m:Causal}(hck:S.check m=true){act:List Int}(ha:S.act m act=true){u:Nat}{y:Mech}(hy:m.nodes[u]?=some y)(j:Nat):0≤S.V m (S.values (S.lens m) (j:Int)) act u∧S.V m (S.values (S.lens m) (j:Int)) act u<y.card:=by
 have hs:=(check_facts hck).1
 have hvi:=values_inC (l:=S.lens m) (h:=(j:Int)) (fun c hc=>by have:=lens_bound hs c hc;omega) (Int.natCast_nonneg j)
 exact sol_bound hck hvi ha (sol_V hck _ _) u y hy
theorem below_zero {m:Causal}(hck:S.check m=true){act:List Int}(ha:S.act m act=true){u:Nat}(hu:u<m.nodes.length):S.below m act u 0=0:=by
 have:∀n,S.sumW m (fun j=>decide (S.V m (S.values (S.lens m) (j:Int)) act u<((0:Nat):Int))) n=0:=fun n=>by
  induction n with
  | zero=>rfl
  | succ n ih =>
   have:=(V_bound hck ha (List.getElem?_eq_getElem hu) n).1
   rw[S.sumW,ih,if_neg (by simp;omega)];rfl
 exact this _
theorem below_all {m:Causal}(hck:S.check m=true){act:List Int}(ha:S.act m act=true){u c:Nat}{y:Mech}(hy:m.nodes[u]?=some y)(hc:y.card=(c:Int)):S.below m act u c=S.whole m:=by
 unfold S.below S.whole
 refine sumW_congr fun j _=>?_
 have:=(V_bound hck ha hy j).2
 simp;omega
theorem below_le {m:Causal}(hck:S.check m=true)(act:List Int)(u x:Nat):0≤S.below m act u x∧S.below m act u x≤S.whole m:=by
 unfold S.below S.whole
 exact ⟨(sumW_bound hck _ _).1,sumW_le hck (fun j _=>rfl) _⟩
end
end Hx
end
section
namespace Hx
open Go
noncomputable section
theorem fr_of {g g':G}(hn:g.nx≤g'.nx)(h:∀i,i<g.nx→g'.h.get i=g.h.get i):Fr g g':=⟨hn,h⟩
section
variable {m:Causal}{c1 c2 l w c9 v35 ls v48:AV}{al:List Int}{hid kk:Int}{p:Nat}
end
end
end Hx
end
section
namespace Hx
open Go
noncomputable section
theorem teffect_h {d:Nat}{g:G}{v act q:AV}{m:Causal}{al ql:List Int}{P1 P2:Nat→Prop}(hd:0<d)(hm:∀h,Agg m NoP 0 h v)(ha:SlR P1 0 g.h al act)(hq:SlR P2 0 g.h ql q) :
  callV C0 d N.twin_Effect [v,act,q] g=.val (.tup [.agg [.int .i64 (S.teffect m al ql).1,.int .i64 (S.teffect m al ql).2],.int .i64 (S.readE m [al,ql])]):=by
 obtain ⟨a',e1,r1⟩:=arg_sl ha d
 obtain ⟨q',e2,r2⟩:=arg_sl hq d
 have h:=teffect_ok (d:=d) (g:=G.empty) (kk:=max 0 d) hd (hm _) (r1 .nil) (r2 .nil)
 rw[call_twin_Effect] at h ⊢
 exact iso_args (by simp only[mapO,agg_same d (hm _),e1,e2]) (by simp only[mapO,agg_same d (hm _),sl_same d (r1 _),sl_same d (r2 _)]) h
theorem map_set_ci (l:List Int)(j:Nat)(x:Int):(l.map ci).set j (ci x)=(l.set j x).map ci:=by rw[List.map_set]
end
end Hx
end
section
namespace Hx
open Go
noncomputable section
def L2 (nn sv qv u w e:AV)(c c8:Nat):List (Nat×AV):=[(5,.hptr 2 0 0 0),(6,nn),(7,sv),(12,.hptr c 0 0 0),(16,u),(18,.hptr c8 0 0 0),(19,e),(20,w),(120,qv)]
end
end Hx
end
section
namespace Hx
open Go
noncomputable section
def LS (nn av:AV)(u:Nat)(c:Nat):List (Nat×AV):=[(7,.hptr 2 0 0 0),(8,av),(9,nn),(30,.int .i64 (u:Int)),(31,.hptr c 0 0 0)]
theorem none_set {m:Causal}{u:Nat}{x:Int}:((S.none m).map ci).set u (ci x)=(S.one m u x).map ci:=by rw[map_set_ci];rfl
theorem sum_loop {m:Causal}{a b nn av:AV}{c u k w:Nat}{al:List Int}{y:Mech}{Q:QT}{t:T}{g:G}(hck:S.check m=true)(hm:∀h,Agg m NoP 0 h (.agg [.int .i64 m.grain,a,b]))(hnn:IT 0 (S.none m) nn)
  (hav:SlR NoP 0 .nil al av) (haa:S.act m al=true) (hy:m.nodes[u]?=some y) (hk:y.card=(k:Int)) (hww:(S.whole m).toNat=w) (hw0:0<w) (hw:w≤3000000000)
  (g2:g.h.get 2=.cells 3 [[.int .i64 m.grain,a,b]] 0 false false) (gc:g.h.get c=.cells 2 [[.int .i64 (S.low 0 w).1,.int .i64 (S.low 0 w).2]] 0 false false) (h2c:2<c) (hc:c<g.nx)
  (ht:St t (LS nn av u c)) (h237:tat t 237=.int .i64 0) (h236:tat t 236=.int .i64 (k:Int))
  (fin:∀t g',St t (LS nn av u c)→g'.h.get c=.cells 2 [[.int .i64 1,.int .i64 1]] 0 false false→Q (.exit 12) t [] g'):wpL (wp C0 1 none f_law33_TwinSets_b10) Q t [] g:=by
 have hn5:=(check_facts hck).1.nodes
 have hcd:=(check_facts hck).1.card y (List.mem_of_getElem? hy)
 have hu:=(List.getElem?_eq_some_iff.1 hy).1
 have hwi:S.whole m=(w:Int):=by have:=whole_pos hck;omega
 simp only[f_law33_TwinSets_b10]
 refine wpL_range (m:=k) (by omega) (fun x t df g=>df=[]∧St t (LS nn av u c)∧g.h.get 2=.cells 3 [[.int .i64 m.grain,a,b]] 0 false false∧c<g.nx∧g.h.get c=.cells 2 [[.int .i64 (S.low (S.below m al u x).toNat w).1,.int .i64 (S.low (S.below m al u x).toNat w).2]] 0 false false)
  ⟨rfl,ht,g2,hc,by rw[below_zero hck haa hu];exact gc⟩ h237 h236 (by decide) (by rintro j t df g v s (rfl | rfl | rfl)<;>simp[St,LS,sx]) ?_ ?_
 ·clear h237 h236 ht g2 gc hc
  rintro x t df g hx ⟨rfl,ht,g2,hc,gc⟩ h237 h236
  have hox:=act_one hck hy (Int.natCast_nonneg x) (by omega)
  obtain ⟨t1,t2⟩:=teffect_eq hck haa hox
  rw[hww] at t2
  have b1:=below_le hck al u x
  have b2:=below_le hck al u (x+1)
  have bs:=below_succ (m:=m) (act:=al) (u:=u) (x:=x) hu
  have be:=whole_bound hck (S.mw m al (S.one m u (x:Int)))
  have be:0≤S.effS m al (S.one m u (x:Int)):=be.1
  have hsum:(S.below m al u x).toNat+(S.effS m al (S.one m u (x:Int))).toNat=(S.below m al u (x+1)).toNat:=by omega
  have hadd:=fun g=>fadd_ok (d:=1) (g:=g) (c:=(S.below m al u x).toNat) (s:=(S.effS m al (S.one m u (x:Int))).toNat) (w:=w) (by decide) hw0 hw (by omega)
  rw[hsum] at hadd
  obtain ⟨E,hE⟩:∃E,E=S.low (S.effS m al (S.one m u (x:Int))).toNat w:=⟨_,rfl⟩
  obtain ⟨B,hB⟩:∃B,B=S.low (S.below m al u x).toNat w:=⟨_,rfl⟩
  rw[←hB,←hE] at hadd
  rw[←hE] at t2
  rw[←hB] at gc
  refine seq_cut (P:=fun t' df g'=>df=[]∧g'=g∧St t' (LS nn av u c)∧tat t' 32=.int .i64 (x:Int)∧tat t' 237=.int .i64 (x:Int)∧tat t' 236=.int .i64 (k:Int)) ?_ ?_
  ·obtain ⟨h7,h8,h9,h30,h31,-⟩:=ht
   simp only[sx,sy,SO.run,↓reduceIte,Nat.reduceEqDiff,h237]
   simp[St,LS,sx,h7,h8,h9,h30,h31,h237,h236]
  clear ht h237 h236
  rintro t df g1 ⟨rfl,rfl,ht,h32,h237,h236⟩
  refine seq_cut (P:=fun t' df g'=>df=[]∧St t' (LS nn av u c)∧tat t' 32=.int .i64 (x:Int)∧tat t' 237=.int .i64 (x:Int)∧tat t' 236=.int .i64 (k:Int)∧Fr g1 g'∧∃q,tat t' 33=q∧Own g' g1.nx q 1 ((S.none m).map ci)) ?_ ?_
  ·obtain ⟨h7,h8,h9,h30,h31,-⟩:=ht
   simp only[sx,sy,SO.run,↓reduceIte,Nat.reduceEqDiff,h9]
   refine clone_ok (hnn.sl .nil) (by simp[S.none];omega) (by simp[S.none];omega) fun q g' ho f=>?_
   simp only[sx,sy,SO.run,↓reduceIte,Nat.reduceEqDiff]
   refine ⟨?_,?_,?_,?_,f,q,?_,ho⟩
   ·simp[St,LS,sx,h7,h8,h9,h30,h31]
   ·simp[sx,h32]
   ·simp[sx,h237]
   ·simp[sx,h236]
   ·simp[sx]
  clear ht h32 h237 h236
  rintro t df g3 ⟨rfl,ht,h32,h237,h236,fr3,q,h33,ho⟩
  refine seq_cut (P:=fun t' df g'=>df=[]∧St t' (LS nn av u c)∧tat t' 237=.int .i64 (x:Int)∧tat t' 236=.int .i64 (k:Int)∧Fr g1 g'∧tat t' 33=q∧Own g' g1.nx q 1 ((S.one m u (x:Int)).map ci)) ?_ ?_
  ·obtain ⟨h7,h8,h9,h30,h31,-⟩:=ht
   have hr:=ho.rows
   have q3:u<((S.none m).map ci).length:=by simp[S.none,hu]
   have q4:((S.none m).map ci)[u]?=some (ci (-1)):=by rw[List.getElem?_map];simp[S.none,hu]
   simp only[sx,sy,SO.run,↓reduceIte,Nat.reduceEqDiff,h30,h32,h33,hr,q3,Option.isSome_some,Option.getD_some]
   refine store_own (v:=q) (sz:=1) (n:=1) (i:=u) (off:=0) (x:=.int .i64 (x:Int)) (row':=ci (x:Int)) ho q4 rfl rfl rfl fun g4 hu2 n2 f2=>?_
   rw[none_set] at hu2
   simp only[sx,sy,SO.run,↓reduceIte,Nat.reduceEqDiff]
   refine ⟨?_,?_,?_,⟨by have:=fr3.1;omega,fun i hi=>by rw[f2 i (fun e=>by have:=(ho.lt e).1;omega),fr3.2 i hi]⟩,?_,hu2⟩
   ·simp[St,LS,sx,h7,h8,h9,h30,h31]
   ·simp[sx,h237]
   ·simp[sx,h236]
   ·simp[sx,h33]
  clear ht h32 h237 h236 h33 fr3 ho
  rintro t df g4 ⟨rfl,ht,h237,h236,fr4,h33,ho⟩
  have c2:g4.h.get 2=.cells 3 [[.int .i64 m.grain,a,b]] 0 false false:=by rw[fr4.2 2 (by omega),g2]
  have cc:g4.h.get c=.cells 2 [[.int .i64 B.1,.int .i64 B.2]] 0 false false:=by rw[fr4.2 c hc,gc]
  have hc4:c<g4.nx:=by have:=fr4.1;omega
  refine seq_cut (P:=fun t' df g'=>df=[]∧St t' (LS nn av u c)∧tat t' 237=.int .i64 (x:Int)∧tat t' 236=.int .i64 (k:Int)∧tat t' 34=.hptr g4.nx 0 0 0∧tat t' 35=.int .i64 0∧Fr g4 g'∧g4.nx<g'.nx∧g'.h.get g4.nx=.cells 2 [[.int .i64 E.1,.int .i64 E.2]] 0 false false) ?_ ?_
  ·obtain ⟨h7,h8,h9,h30,h31,-⟩:=ht
   have he:callV C0 1 N.twin_Effect [.agg [.int .i64 m.grain,a,b],av,q] g4=.val (.tup [.agg [.int .i64 E.1,.int .i64 E.2],.int .i64 0]):=by
    obtain ⟨u',e1,hu3⟩:=ho.ints (k:=0) (by simp[S.one,S.none];omega)
    injection e1 with e1;subst e1
    rw[teffect_h (m:=m) (al:=al) (ql:=S.one m u (x:Int)) (by decide) hm (hav.tree (h':=g4.h) (Nat.le_refl 0)) hu3,t1,t2]
   simp only[sx,sy,SO.run,↓reduceIte,Nat.reduceEqDiff,Nat.reduceAdd,Nat.reduceLeDiff,h7,h8,h33,c2,he,H.get_put]
   refine ⟨?_,?_,?_,?_,?_⟩
   ·simp[St,LS,sx,h7,h8,h9,h30,h31]
   ·simp[sx,h237]
   ·simp[sx,h236]
   ·exact fr_of (by simp) fun i hi=>by simp[H.get_put,show ¬i=g4.nx by omega]
   ·simp
  clear ht h237 h236 h33 fr4 ho
  rintro t df g5 ⟨rfl,ht,h237,h236,h34,h35,fr5,n5,g34⟩
  have c2:g5.h.get 2=.cells 3 [[.int .i64 m.grain,a,b]] 0 false false:=by rw[fr5.2 2 (by omega),c2]
  have cc:g5.h.get c=.cells 2 [[.int .i64 B.1,.int .i64 B.2]] 0 false false:=by rw[fr5.2 c hc4,cc]
  have hc5:c<g5.nx:=by omega
  obtain ⟨Z,hZ⟩:∃Z,Z=S.low (S.below m al u (x+1)).toNat w:=⟨_,rfl⟩
  rw[←hZ] at hadd ⊢
  refine seq_cut (P:=fun t' df g'=>df=[]∧St t' (LS nn av u c)∧tat t' 237=.int .i64 (x:Int)∧tat t' 236=.int .i64 (k:Int)∧tat t' 35=.int .i64 0∧tat t' 36=.hptr g5.nx 0 0 0∧tat t' 37=.int .i64 0∧Fr g5 g'∧g5.nx<g'.nx∧g'.h.get g5.nx=.cells 2 [[.int .i64 Z.1,.int .i64 Z.2]] 0 false false) ?_ ?_
  ·obtain ⟨h7,h8,h9,h30,h31,-⟩:=ht
   simp only[sx,sy,SO.run,↓reduceIte,Nat.reduceEqDiff,Nat.reduceAdd,Nat.reduceLeDiff,h31,h34,cc,g34,hadd,H.get_put]
   refine ⟨?_,?_,?_,?_,?_,?_⟩
   ·simp[St,LS,sx,h7,h8,h9,h30,h31]
   ·simp[sx,h237]
   ·simp[sx,h236]
   ·simp[sx,h35]
   ·exact fr_of (by simp) fun i hi=>by simp[H.get_put,show ¬i=g5.nx by omega]
   ·simp
  clear ht h237 h236 h34 h35 g34
  rintro t df g6 ⟨rfl,ht,h237,h236,h35,h36,h37,fr6,n6,g36⟩
  have c2:g6.h.get 2=.cells 3 [[.int .i64 m.grain,a,b]] 0 false false:=by rw[fr6.2 2 (by omega),c2]
  have cc:g6.h.get c=.cells 2 [[.int .i64 B.1,.int .i64 B.2]] 0 false false:=by rw[fr6.2 c hc5,cc]
  obtain ⟨h7,h8,h9,h30,h31,-⟩:=ht
  simp only[sx,sy,SO.run,↓reduceIte,Nat.reduceEqDiff,Nat.reduceAdd,Nat.reduceLeDiff,h31,h35,h36,h37,g36,cc,H.get_put,decide_true,decide_false,Bool.not_true]
  refine ⟨⟨?_,?_,?_⟩,?_⟩
  ·simp[St,LS,sx,h7,h8,h9,h30,h31]
  ·simp[H.get_put,show ¬2=c by omega,c2]
  ·omega
  ·simp[sx,h237,h236]
 ·rintro t df g ⟨rfl,ht,-,-,gc⟩
  rw[below_all hck haa hy hk,hww,low_self w hw0] at gc
  exact fin t g ht gc
end
end Hx
end
section
namespace Hx
open Go
noncomputable section
theorem rem_i64 {x y:Nat}(hy:0<y):binV .rem (.int .i64 (x:Int)) (.int .i64 (y:Int))=.val (.int .i64 ((x % y:Nat):Int)):=by
 rw[bin_rem .i64 (Int.natCast_nonneg x) (by omega),←Int.natCast_emod]
theorem s12_ok {m:Causal}{a b nn av:AV}{vv:Nat}{al:List Int}{Q:QT}{t:T}{g:G}(hmade:Made m)(hm:∀h,Agg m NoP 0 h (.agg [.int .i64 m.grain,a,b]))(hN:SlR NoP 0 .nil m.nodes b)(hnn:IT 0 (S.none m) nn)
  (hav:SlR NoP 0 .nil al av) (haa:S.act m al=true) (hv:vv<256) (g2:g.h.get 2=.cells 3 [[.int .i64 m.grain,a,b]] 0 false false) (hnx:2<g.nx)
  (ht:St t [(2,.int .u8 (vv:Int)),(7,.hptr 2 0 0 0),(8,av),(9,nn)]) (fin:∀t g',tat t 6=.bool true→Q .ret t [] g'):wp C0 1 none f_law33_TwinSets_k12 Q t [] g:=by
 have hck:=made_right hmade
 have hw:=made_whole hmade
 have hwp:=whole_pos hck
 obtain ⟨w,hww⟩:∃w,(S.whole m).toNat=w:=⟨_,rfl⟩
 have hw0:0<w:=by omega
 have hw3:w≤3000000000:=by omega
 have hnl:=(check_facts hck).2.2.1
 have hn5:=(check_facts hck).1.nodes
 obtain ⟨rows,r1,r2,r3,r4⟩:=hN.all
 have r1:∀h',rowsOf h' 4 b=some rows:=r1
 obtain ⟨u,hu⟩:∃u,vv % m.nodes.length=u:=⟨_,rfl⟩
 have hul:u<m.nodes.length:=by rw[←hu];exact Nat.mod_lt _ hnl
 obtain ⟨y,hy⟩:∃y,m.nodes[u]?=some y:=⟨_,List.getElem?_eq_getElem hul⟩
 have hcd:=(check_facts hck).1.card y (List.mem_of_getElem? hy)
 obtain ⟨k,hk⟩:=Int.eq_ofNat_of_zero_le (show 0≤y.card by omega)
 obtain ⟨row,z1,z2⟩:=r3 u y hy
 obtain ⟨fa,fb,fc,rfl,-⟩:=rp_mech.1 z2
 have hlt:u<rows.length:=by omega
 have hry:=r4 (by omega)
 have hrem:=rem_i64 (x:=vv) (y:=m.nodes.length) hnl
 rw[hu] at hrem
 simp only[f_law33_TwinSets_k12]
 refine seq_cut (P:=fun t' df g'=>df=[]∧g'=g∧St t' [(7,.hptr 2 0 0 0),(8,av),(9,nn),(30,.int .i64 (u:Int))]) ?_ ?_
 ·obtain ⟨h2,h7,h8,h9,-⟩:=ht
  have hlen:∀g,lenF .slice b g=.val (.int .i64 (m.nodes.length:Int)):=fun g=>hN.len g
  simp only[sx,sy,SO.run,↓reduceIte,Nat.reduceEqDiff,Nat.reduceAdd,Nat.reduceLeDiff,h2,h7,g2,hlen,wrap64 (show -9223372036854775808≤(vv:Int) by omega) (show (vv:Int)<9223372036854775808 by omega),hrem]
  simp[St,sx,h7,h8,h9]
 clear ht
 rintro t df g1 ⟨rfl,rfl,h7,h8,h9,h30,-⟩
 refine seq_cut (P:=fun t' df g'=>df=[]∧St t' (LS nn av u g1.nx)∧g'.h.get 2=.cells 3 [[.int .i64 m.grain,a,b]] 0 false false∧g1.nx<g'.nx∧g'.h.get g1.nx=.cells 2 [[.int .i64 (S.low 0 w).1,.int .i64 (S.low 0 w).2]] 0 false false) ?_ ?_
 ·simp only[sx,sy,sf,SO.run,↓reduceIte,Nat.reduceEqDiff,Nat.reduceAdd,Nat.reduceLeDiff,List.length_cons,List.length_nil,List.take_succ_cons,List.take_zero,List.drop_succ_cons,List.drop_zero,List.drop_nil,List.cons_append,List.nil_append,H.get_put]
  rw[low_zero w hw0]
  refine ⟨?_,?_,?_,?_⟩
  ·simp[St,LS,sx,h7,h8,h9,h30]
  ·simp[H.get_put,g2,show ¬2=g1.nx by omega]
  ·simp
  ·simp[H.get_put]
 clear h7 h8 h9 h30
 rintro t df g3 ⟨rfl,ht,c2,n3,cc⟩
 refine cutG (P:=fun t' df g'=>df=[]∧St t' (LS nn av u g1.nx)∧g'.h.get g1.nx=.cells 2 [[.int .i64 1,.int .i64 1]] 0 false false) ?_ ?_
 ·refine seq_cut (P:=fun t' df g'=>df=[]∧g'=g3∧St t' (LS nn av u g1.nx)∧tat t' 236=.int .i64 (k:Int)∧tat t' 237=.int .i64 0) ?_ ?_
  ·obtain ⟨h7,h8,h9,h30,h31,-⟩:=ht
   simp only[sx,sy,SO.run,↓reduceIte,Nat.reduceEqDiff,Nat.reduceAdd,Nat.reduceLeDiff,h7,h30,c2,r1,hlt,z1,hry,Option.isSome_some,Option.getD_some,hk]
   simp[St,LS,sx,h7,h8,h9,h30,h31]
  clear ht
  rintro t df g4 ⟨rfl,rfl,ht,h236,h237⟩
  simp only[wp_blk,wp_loop]
  refine sum_loop hck hm hnn hav haa hy hk hww hw0 hw3 c2 cc hnx n3 ht h237 h236 fun t g5 ht gc=>?_
  simp only[kB_exit,if_true]
  exact ⟨trivial,trivial,ht,gc⟩
 clear ht
 rintro t df g5 ⟨rfl,⟨h7,h8,h9,h30,h31,-⟩,gc⟩
 simp only[f_law33_TwinSets_k11,sx,sy,sf,SO.run,↓reduceIte,Nat.reduceEqDiff,Nat.reduceAdd,Nat.reduceLeDiff,List.length_cons,List.length_nil,List.take_succ_cons,List.take_zero,List.drop_succ_cons,List.drop_zero,List.drop_nil,List.cons_append,List.nil_append,h31,gc,eq_qi]
 exact fin _ _ (by simp[sx])
end
end Hx
end
