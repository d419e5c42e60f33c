/- A part of the proof: an interpreter over abstract values, shown right against the model, and what the functions of the chapter compute on it. -/
import Derived.Test.YtaebcalnodgpnaaHx13
set_option linter.unusedVariables false
set_option linter.unusedSimpArgs false
set_option linter.unnecessarySimpa false
section
namespace Hx
open Go
noncomputable section
theorem BW {C:Cfg}{d:Nat}{rd:Option Nat}{a b:SC}{Q:QT}{t:T}{df:List ADf}{g:G}{P:PT}(h1:wp C d rd a (fun e t df g=>e=.norm/\P t df g) t df g)(h2:∀t df g,P t df g->wp C d rd b Q t df g):wp C d rd (.seq a b) Q t df g:=by
 rw[oO]
 refine cM _ h1 ?_
 rintro e t df g ⟨rfl,h⟩
 exact h2 t df g h
end
end Hx
end
section
namespace Hx
open Go
noncomputable section
abbrev QI:=Int×Int
theorem eT {x:QI}{P:Nat->Prop}{k:Nat}{h:H}{v:AV}:Agg x P k h v↔v=.agg [.int .i64 x.1,.int .i64 x.2]:=by
 constructor
 ·rintro ⟨cs,rfl,hc⟩
  obtain ⟨a,b,rfl,h1,h2⟩:=zV.1 hc
  rw[aS.1 h1,aS.1 h2];rfl
 ·rintro rfl
  exact ⟨_,rfl,zV.2 ⟨[.int .i64 x.1],[.int .i64 x.2],rfl,aS.2 rfl,aS.2 rfl⟩⟩
theorem Fa {d:Nat}{g:G}{a b:Nat}(hd:0<d)(ha:a<18446744073709551616)(hb:b<18446744073709551616) :
  ak C0 d N.bc [.int .u64 (a:Int),.int .u64 (b:Int)] g=.val (.int .u64 (Nat.gcd a b:Int)):=by
 rw[tR]
 refine ie xl (xs:=[.int .u64 (a:Int),.int .u64 (b:Int)]) (by simp only[aH,dB 0]) (by simp[lU]) hd ?_
 simp only[lU,sx,SO.run]
 refine gt (fun k t df g=>df=[]/\∃x y:Nat,x<18446744073709551616/\y<18446744073709551616/\k=y/\Nat.gcd x y=Nat.gcd a b/\St t [(0,.int .u64 (x:Int)),(1,.int .u64 (y:Int))]) b
  ⟨rfl,a,b,ha,hb,rfl,rfl,by simp[sx,St]⟩ ?_
 rintro y t df g ⟨rfl,x,y',hx,hy,rfl,hg,h0,h1,-⟩
 simp only[mW,sx,SO.run,↓reduceIte,h1]
 refine aw (fun hq=>?_) (fun hq=>?_)
 ·have hy0:0<y:=by simp at hq;omega
  have hm:=Nat.mod_lt x hy0
  simp only[sx,sy,SO.run,↓reduceIte,Nat.reduceEqDiff,h0,h1,bC .u64 (show (0:Int)<=(x:Int) by omega) (show (0:Int)<(y:Int) by omega)]
  exact ⟨x % y,hm,y,x % y,hy,by omega,rfl,by rw[<-hg,Nat.gcd_comm y,<-Nat.gcd_rec,Nat.gcd_comm],by simp[St,sx]⟩
 ·have hy0:y=0:=by simp at hq;omega
  subst hy0
  rw[Nat.gcd_zero_right] at hg
  simp only[mS,sx,SO.run,↓reduceIte,Nat.reduceEqDiff,h0,hg]
theorem AR {d:Nat}{g:G}{a:Int}(hd:0<d)(ha:0<=a/\a<9223372036854775808):ak C0 d N.ah [.int .i64 a] g=.val (.int .u64 a):=by
 rw[xV]
 refine ie Ax (xs:=[.int .i64 a]) (by simp only[aH,dB 0]) (by simp[o_]) hd ?_
 simp only[o_,sx,SO.run,↓reduceIte,Nat.reduceEqDiff]
 refine aw (fun hq=>?_) (fun hq=>?_)
 ·simp at hq;omega
 ·simp only[sx,SO.run,↓reduceIte,Nat.reduceEqDiff,nE ha.1 (show a<18446744073709551616 by omega)]
theorem Km {d:Nat}{g:G}{x y:Nat}(hd:0<d)(hx:x<=4611686018427387903)(hy:y<=4611686018427387903) :
  ak C0 d N.aD [.bool false,.agg [.int .u64 0,.int .u64 (x:Int)],.agg [.int .u64 0,.int .u64 (y:Int)]] g=.val (.agg [.int .i64 (x:Int),.int .i64 (y:Int)]):=by
 have key:∃r,ak C0 d N.aD [.bool false,.agg [.int .u64 0,.int .u64 (x:Int)],.agg [.int .u64 0,.int .u64 (y:Int)]] g=.val r/\Agg (((x:Int),(y:Int)):QI) NoP 0 .nil r:=by
  rw[yA]
  refine aV AN (xs:=[.bool false,.agg [.int .u64 0,.int .u64 (x:Int)],.agg [.int .u64 0,.int .u64 (y:Int)]]) rfl (by simp[qS]) (aQ _) (by decide) hd ?_
  have z0:∀id,si 2 1 (.hptr id 0 0 0) (.int .i64 0)=.val (.hptr id 0 0 0):=fun id=>qf 2 1 id 0 0 0 .i64 (j:=0) (by decide)
  have z1:∀id,si 2 1 (.hptr id 0 0 0) (.int .i64 1)=.val (.hptr id 0 0 1):=fun id=>qf 2 1 id 0 0 0 .i64 (j:=1) (by decide)
  have hx':decide ((4611686018427387903:Int)<(x:Int))=false:=by simp;omega
  have hy':decide ((4611686018427387903:Int)<(y:Int))=false:=by simp;omega
  simp only[qS,rL,sx,sy,SO.run,↓reduceIte,Nat.reduceEqDiff,Nat.reduceAdd,z0,z1,hx',hy',decide_true,Bool.not_true]
  simp only[qq,sx,sy,SO.run,↓reduceIte,Nat.reduceEqDiff,Nat.reduceAdd,Nat.reduceLeDiff,z1,an (show -9223372036854775808<=(x:Int) by omega) (show (x:Int)<9223372036854775808 by omega),an (show -9223372036854775808<=(y:Int) by omega) (show (y:Int)<9223372036854775808 by omega)]
  exact ⟨NoP,eT.2 rfl⟩
 obtain ⟨r,h1,h2⟩:=key
 rw[h1,eT.1 h2]
def S.aD (n d:Nat):QI:=(((n / Nat.gcd n d:Nat):Int),((d / Nat.gcd n d:Nat):Int))
end
end Hx
end
section
namespace Hx
open Go
noncomputable section
theorem IF (a:ADf)(K:AV->G->Prop)(g:G)(D:ADf->Prop):(OR.dfr a).sat K g D=D a:=rfl
theorem Js (W:PT)(t:T)(df:List ADf)(g:G)(a:ADf):kD W none t df g a=W t (a::df) g:=rfl
theorem Fy {C:Cfg}{d n:Nat}{t:T}{g:G}{f:Nat}{first cap:List AV}(h:tat t n=.clo f first cap):SO.run C d none t g (.raw (.defer ⟨.value (.tmp n),#[],#[]⟩))=.dfr (.call (.clo f [] cap) (first++[])):=by
 have:(gp AV.undef n).run t=.clo f first cap:=by rw[gp_run];exact h
 simp only[SO.run,cL,cOp,aT,bK,this]
theorem CP {C:Cfg}{d n:Nat}{t:T}{g:G}{f:Nat}{first cap:List AV}(h:tat t n=.clo f first cap):(cL C (.defer ⟨.value (.tmp n),#[],#[]⟩)).run (I C) d none t g=.dfr (.call (.clo f [] cap) (first++[])):=Fy h
theorem Fk {C:Cfg}{d:Nat}{r:List SR}{t:T}{g g':G}{K:AV->G->Prop}{f:Nat}{cap:List AV}{v:AV}(hc:(I C).call d f cap g=.ok v g')(h:t5 r t g' fun vs=>K (fX vs) g'):xX C d r t [.call (.clo f [] cap) []] g K:=by
 unfold xX
 have:dX (I C) d [.call (.clo f [] cap) []] g=some g':=by
  simp only[dX,List.nil_append,hc]
 rw[this];exact h
theorem B0 {C:Cfg}{d:Nat}{rd:Option Nat}{t:T}{g:G}:SO.run C d rd t g (.raw (.call ⟨.builtin .recover,#[],#[]⟩))=.val .nili:=rfl
theorem Fz (d:Nat)(a b:AV)(g:G):∃v,(I C0).call d N.aX [a,b] g=.ok v g:=by
 have key:=nh (C:=C0) (d:=d) (f:=N.aX) («as»:=[a,b]) (g:=g) (K:=fun v g'=>g'=g) oq (by simp[eK]) ?_
 ·cases hc:(I C0).call d N.aX [a,b] g with
  | fail=>rw[hc] at key;exact key.elim
  | ok v g'=>rw[hc] at key;exact ⟨v,by rw[show g'=g from key]⟩
 have e:Ck true (.iface true) .nili .nili=.val (.bool false):=rfl
 simp only[eK,sx,B0]
 simp only[SO.run,sx,↓reduceIte,e]
theorem Is {d:Nat}{g:G}{fn:Nat}{a a':List AV}{x:QI}(hd:0<d)(hs:Hx.snap g.h d aK (.clo fn [] a)=some (.clo fn [] a'))(hc:∀(g:G) (K:AV->G->Prop) (D:ADf->Prop),(∀g',Fr g g'->K (.agg [.int .i64 x.1,.int .i64 x.2]) g')->(fQ C0 (I C0) (d+1) (.clo fn [] a') [] g).sat K g D) :
  ak C0 d N.aW [.clo fn [] a] g=.val (.tup [.agg [.int .i64 x.1,.int .i64 x.2],.int .i64 0]):=by
 have key:∃r,ak C0 d N.aW [.clo fn [] a] g=.val r/\sJ (Agg x) (One (0:Int)) NoP 0 .nil r:=by
  rw[o7]
  refine aV qN (xs:=[.clo fn [] a']) (by simp only[aH,hs]) (by simp[f9]) (dC (m:=2) (aQ _) (aU _) (by decide) (by decide)) (by decide) hd ?_
  simp only[f9,i_,sx,sy,SO.run,↓reduceIte,Nat.reduceEqDiff,Nat.reduceAdd]
  rw[CP (f:=N.aX) (first:=[]) (cap:=[.hptr 0 0 0 0,.hptr 1 0 0 0]) (by simp[sx])]
  simp only[IF,Js,sx,sy,SO.run,↓reduceIte,Nat.reduceEqDiff]
  refine hc _ _ _ fun g2 fr2=>?_
  have k0:g2.h.get 0=.cells 2 [[.int .i64 0,.int .i64 0]] 0 false false:=by rw[fr2.2 0 (by simp[sx])];simp[sx,H.get_put]
  have k1:g2.h.get 1=.cells 1 [[.int .i64 0]] 0 false false:=by rw[fr2.2 1 (by simp[sx])];simp[sx]
  simp only[sx,sy,SO.run,↓reduceIte,Nat.reduceEqDiff,Nat.reduceAdd,Nat.reduceLeDiff,k0,k1]
  obtain ⟨v,hg1⟩:=Fz (d+1) (.hptr 0 0 0 0) (.hptr 1 0 0 0) ((g2.put 0 (.cells 2 [[.int .i64 x.1,.int .i64 x.2]] 0 false false)).put 1 (.cells 1 [[.int .i64 0]] 0 false false))
  refine Fk hg1 ?_
  simp only[sx,sy,↓reduceIte,Nat.reduceEqDiff,Nat.reduceAdd,Nat.reduceLeDiff]
  exact ⟨NoP,_,_,rfl,eT.2 rfl,aS.2 rfl⟩
 obtain ⟨r,h1,a,b,rfl,h2,h3⟩:=key
 have h3:=aS.1 h3
 injection h3 with h3
 rw[h1,eT.1 h2,h3]
end
end Hx
end
section
namespace Hx
open Go
noncomputable section
theorem Dq (d:Nat)(a b:AV)(g:G):fQ C0 (I C0) d (.clo N.bh [] [a,b]) [] g=orF ((I C0).call d N.bh [a,b] g):=by kernel_rfl
theorem Bc {h:H}{id:Nat}{n:Int}(d k:Nat)(hg:h.get id=.cells 1 [[.int .i64 n]] 0 false false):Hx.snap h d (k+3) (.hptr id 0 0 0)=some (.tptr (Nat.max d 0) 1 [[.int .i64 n]] 0 0):=by
 simp only[Hx.snap,hg,show Nat.beq 0 0=true from rfl,aH]
 rfl
theorem F5 {h:H}{d f:Nat}{a b a' b':AV}(ha:Hx.snap h d 23 a=some a')(hb:Hx.snap h d 23 b=some b'):Hx.snap h d aK (.clo f [] [a,b])=some (.clo f [] [a',b']):=by
 show (match aH (Hx.snap h d 23) [],aH (Hx.snap h d 23) [a,b] with | some as',some cs=>some (AV.clo f as' cs) | _,_=>none)=_
 simp only[aH,ha,hb]
theorem K6:Ck true .bool (.bool false) (.bool false)=.val (.bool false):=rfl
theorem Hf {d:Nat}{g:G}{n m z:Nat}{K:AV->G->Prop}{D:ADf->Prop}(hd:0<d)(hn:n<=4611686018427387903)(hm0:0<m)(hm:m<=4611686018427387903)
  (kk:∀g',Fr g g'->K (.agg [.int .i64 (S.aD n m).1,.int .i64 (S.aD n m).2]) g') :
  (fQ C0 (I C0) d (.clo N.bh [] [.tptr z 1 [[.int .i64 (n:Int)]] 0 0,.tptr z 1 [[.int .i64 (m:Int)]] 0 0]) [] g).sat K g D:=by
 have hg0:0<Nat.gcd n m:=Nat.gcd_pos_of_pos_right n hm0
 have q1:n / Nat.gcd n m<=n:=Nat.div_le_self _ _
 have q2:m / Nat.gcd n m<=m:=Nat.div_le_self _ _
 have e1:∀g,ak C0 d N.ah [.int .i64 (n:Int)] g=.val (.int .u64 (n:Int)):=fun g=>AR hd ⟨by omega,by omega⟩
 have e2:∀g,ak C0 d N.ah [.int .i64 (m:Int)] g=.val (.int .u64 (m:Int)):=fun g=>AR hd ⟨by omega,by omega⟩
 have e3:∀g,ak C0 d N.bc [.int .u64 (n:Int),.int .u64 (m:Int)] g=.val (.int .u64 (Nat.gcd n m:Int)):=fun g=>Fa hd (by omega) (by omega)
 have l1:decide ((n:Int)<0)=false:=by simp
 have l2:decide ((m:Int)<0)=false:=by simp
 have wq:∀x:Nat,x<=4611686018427387903->∀y:Nat,0<y->cO .quo (.int .u64 (x:Int)) (.int .u64 (y:Int))=.val (.int .u64 ((x / y:Nat):Int)):=fun x hx y hy=>by
  have hle:x / y<=x:=Nat.div_le_self _ _
  rw[pI .u64 (Int.natCast_nonneg x) (by omega),<-Int.natCast_ediv]
  generalize x / y=z at hle
  rw[nE (by omega) (by omega)]
 have e4:∀g,ak C0 d N.aD [.bool false,.agg [.int .u64 0,.int .u64 ((n / Nat.gcd n m:Nat):Int)],.agg [.int .u64 0,.int .u64 ((m / Nat.gcd n m:Nat):Int)]] g=.val (.agg [.int .i64 ((n / Nat.gcd n m:Nat):Int),.int .i64 ((m / Nat.gcd n m:Nat):Int)]):=fun g=>Km hd (by omega) (by omega)
 rw[Dq]
 refine pT xx (by simp[lR]) ?_
 simp only[lR,nS,sx,sy,sf,SO.run,↓reduceIte,Nat.reduceEqDiff,Nat.reduceAdd,Nat.reduceLeDiff,md,e1,e2,e3,l1,l2,K6,wq n hn _ hg0,wq m hm _ hg0,e4]
 refine ⟨?_,kk _ ⟨by simp;omega,fun i hi=>?_⟩⟩
 ·simp only[List.reverse_cons,List.reverse_nil,List.nil_append,List.cons_append]
  exact aX [false,false,false,false,false,false,false,false,false,false,false,false,false,false,false,false,true] [] (by simp[All2,au,aF,wD,yl]) (by decide) (by simp)
 ·simp[H.get_put,show ¬i=g.nx by omega]
theorem A2 {d:Nat}{g:G}{n m:Nat}(hd:0<d)(hn:n<=4611686018427387903)(hm0:0<m)(hm:m<=4611686018427387903) :
  ak C0 d N.aw [.int .i64 (n:Int),.int .i64 (m:Int)] g=.val (.tup [.agg [.int .i64 (S.aD n m).1,.int .i64 (S.aD n m).2],.int .i64 0]):=by
 have key:∃r,ak C0 d N.aw [.int .i64 (n:Int),.int .i64 (m:Int)] g=.val r/\sJ (Agg (S.aD n m)) (One (0:Int)) NoP 0 .nil r:=by
  rw[wN]
  refine aV AC (xs:=[.int .i64 (n:Int),.int .i64 (m:Int)]) rfl (by simp[oN]) (dC (m:=2) (aQ _) (aU _) (by decide) (by decide)) (by decide) hd ?_
  have l1:decide ((m:Int)=0)=false:=by simp;omega
  simp only[oN,qh,sx,sy,SO.run,↓reduceIte,Nat.reduceEqDiff,Nat.reduceAdd,l1]
  rw[Is (x:=S.aD n m) (a':=[.tptr (Nat.max (d+1) 0) 1 [[.int .i64 (n:Int)]] 0 0,.tptr (Nat.max (d+1) 0) 1 [[.int .i64 (m:Int)]] 0 0]) (Nat.succ_pos d) ?_ (fun g K D kk=>Hf (Nat.succ_pos _) hn hm0 hm kk)]
  ·simp only[sx,sy,SO.run,↓reduceIte,Nat.reduceEqDiff,Nat.reduceAdd,Nat.reduceLeDiff]
   exact ⟨NoP,_,_,rfl,eT.2 rfl,aS.2 rfl⟩
  ·rw[F5 (a':=.tptr (Nat.max (d+1) 0) 1 [[.int .i64 (n:Int)]] 0 0) (b':=.tptr (Nat.max (d+1) 0) 1 [[.int .i64 (m:Int)]] 0 0) (Bc (n:=(n:Int)) (d+1) 20 (by simp[sx,H.get_put])) (Bc (n:=(m:Int)) (d+1) 20 (by simp[sx,H.get_put]))]
 obtain ⟨r,h1,a,b,rfl,h2,h3⟩:=key
 have h3:=aS.1 h3
 injection h3 with h3
 rw[h1,eT.1 h2,h3]
end
end Hx
end
section
namespace Hx
open Go
noncomputable section
theorem rW {ih:IH}{d:Nat}{g:G}{f:Nat}{args xs:List AV}{v:AV}(h:aH (Hx.snap g.h d aK) args=some xs)(h':aH (Hx.snap G.empty.h d aK) xs=some xs)(h2:am ih d G.empty f xs=.val v):am ih d g f args=.val v:=by
 unfold am at h2 ⊢
 generalize aK=D at h h' h2 ⊢
 rw[h'] at h2
 rw[h]
 dsimp only at h2 ⊢
 cases hc:ih.call d.succ f xs G.empty with
 | fail=>rw[hc] at h2;cases h2
 | ok r g' =>
  rw[hc] at h2
  dsimp only at h2 ⊢
  cases hs:Hx.snap g'.h 0 D r with
  | none=>rw[hs] at h2;cases h2
  | some r' =>
   rw[hs] at h2
   dsimp only at h2 ⊢
   cases ht:dY D r' with
   | none=>rw[ht] at h2;cases h2
   | some m =>
    rw[ht] at h2
    dsimp only at h2 ⊢
    rw[aa] at h2 ⊢
    split at h2
    ·rename_i hb;rw[if_pos hb];exact h2
    ·split at h2
     ·cases h2
     split at h2
     ·cases h2
     rw[aa] at h2
     split at h2<;>cases h2
end
end Hx
end
section
namespace Hx
open Go
noncomputable section
def S.br (vals e:List Int)(i:Nat):Bool:=decide (e[i]?.getD 0<0) || decide (e[i]?.getD 0=vals[i]?.getD 0)
def S.bA (vals e:List Int):Bool:=(List.range e.length).all (S.br vals e)
theorem rh {d k k2:Nat}{g:G}{P P2:Nat->Prop}{v w:AV}{vals e:List Int}(hd:0<d)(hv:SlR P k g.h vals v)(hw:SlR P2 k2 g.h e w)(hl:vals.length=e.length) :
  ak C0 d N.ak [v,w] g=.val (.bool (S.bA vals e)):=by
 obtain ⟨v',e1,r1⟩:=be hv d
 obtain ⟨w',e2,r2⟩:=be hw d
 rw[rP]
 refine dE u0 (xs:=[v',w']) (by simp only[aH,e1,e2]) (by simp[kp]) hd ?_
 simp only[kp,sx,SO.run,↓reduceIte,Nat.reduceEqDiff,(r2 .nil).len]
 simp only[kT]
 refine bc (m:=e.length) hw.1 (fun j t df g=>df=[]/\St t [(0,v'),(7,w')]/\(List.range j).all (S.br vals e)=true) ⟨rfl,by simp[St,sx],rfl⟩ (by simp[sx]) (by simp[sx]) (by decide) (by rintro j t df g v s (rfl | rfl | rfl)<;>simp[St,sx]) ?_ ?_
 ·rintro j t df g hj ⟨rfl,⟨h0,h7,-⟩,hA⟩ h9 h8
  obtain ⟨x,hx,-,-⟩:=af hj
  obtain ⟨y,hy,-,-⟩:=af (l:=vals) (j:=j) (by omega)
  have h1:j<(e.map ci).length:=by simpa using hj
  have h2:j<(vals.map ci).length:=by rw[List.length_map];omega
  have h3:(e.map ci)[j]?=some (ci x):=by rw[List.getElem?_map,hx];rfl
  have h4:(vals.map ci)[j]?=some (ci y):=by rw[List.getElem?_map,hy];rfl
  have hat:S.br vals e j=(decide (x<0) || decide (x=y)):=by simp[S.br,hx,hy]
  by_cases hx0:0<=x
  ·simp only[sx,SO.run,↓reduceIte,Nat.reduceEqDiff,h0,h7,h9,(r1 g.h).ints,(r2 g.h).ints,h1,h2,h3,h4,ci,Option.isSome_some,Option.getD_some,hx0,decide_true]
   refine aw (fun hb=>?_) (fun hb=>?_)
   ·simp only[sx,sy,SO.run,↓reduceIte]
    have:S.br vals e j=false:=by rw[hat];simp at hb ⊢;exact ⟨hx0,hb⟩
    rw[S.bA,bL hj this]
   ·simp only[sx,sy,↓reduceIte,Nat.reduceEqDiff,h0,h7,h8,h9,St]
    rw[bn,hA,hat];simp at hb ⊢;exact .inr hb
  ·simp only[sx,sy,SO.run,↓reduceIte,Nat.reduceEqDiff,h0,h7,h8,h9,(r2 g.h).ints,h1,h3,ci,Option.isSome_some,Option.getD_some,hx0,decide_false,St]
   rw[bn,hA,hat];simp;omega
 ·rintro t df g ⟨rfl,⟨h0,h7,-⟩,hA⟩
  simp only[lf,sx,SO.run,↓reduceIte]
  rw[S.bA,hA]
def S.ae (m:Causal)(p:Nat->Bool):Nat->Int
 | 0=>0
 | j+1=>S.ae m p j+if p j then S.aO m (j:Int) else 0
theorem jq {m:Causal}(hck:S.am m=true)(j:Nat):0<=S.aO m (j:Int)/\S.aO m (j:Int)<=429981696:=by
 have:=t7 hck (Int.natCast_nonneg j) 0
 rwa [IB] at this
theorem dm {m:Causal}(hck:S.am m=true)(p:Nat->Bool):∀j:Nat,0<=S.ae m p j/\S.ae m p j<=429981696*(j:Int)
 | 0=>⟨Int.le_refl _,by simp[S.ae]⟩
 | j+1=>by
  have h1:=dm hck p j
  have h2:=jq hck j
  rw[S.ae]
  split<;>omega
theorem rf {m:Causal}{p q:Nat->Bool}:∀{n:Nat},(∀j,j<n->p j=q j)->S.ae m p n=S.ae m q n
 | 0,_=>rfl
 | n+1,h=>by rw[S.ae,S.ae,h n (by omega),rf fun j hj=>h j (by omega)]
end
end Hx
end
section
namespace Hx
open Go
theorem Cu:∀{l ds:List Int} (t:Int),(∀c∈l,0<c)->InC l ds->S.aQ l (t*S.aa l+S.aC l ds)=t
 | [],[],t,_,_=>by simp[S.aQ,S.aa,S.aC]
 | c::l,d::ds,t,hc,h=>by
  have ih:=Cu (l:=l) (ds:=ds) (t*c+d) (fun x hx=>hc x (by simp[hx])) h.2
  have hd:0<=d/\d<c:=h.1
  have h0:=hc c (by simp)
  show S.aQ l (t*S.aa (c::l)+(d*S.aa l+S.aC l ds)) / c=t
  have e:t*S.aa (c::l)+(d*S.aa l+S.aC l ds)=(t*c+d)*S.aa l+S.aC l ds:=by
   rw[bV,Int.add_mul,Int.mul_assoc];omega
  rw[e,ih,Int.mul_comm t c,Int.mul_add_ediv_left _ _ (by omega),Int.ediv_eq_zero_of_lt hd.1 hd.2,Int.add_zero]
 | [],_::_,_,_,h=>h.elim
 | _::_,[],_,_,h=>h.elim
theorem zU {l ds:List Int}(h:InC l ds):∀i,i<=l.length->S.aC l ds=hz l ds i*S.aa (l.drop i)+S.aC (l.drop i) (ds.drop i)
 | 0,_=>by rw[EE];simp
 | i+1,hi=>by
  have hil:i<l.length:=by omega
  have hid:i<ds.length:=by rw[h.len];exact hil
  rw[zU h i (by omega),vu (List.getElem?_eq_getElem hil) (List.getElem?_eq_getElem hid),List.drop_eq_getElem_cons hil,List.drop_eq_getElem_cons hid,bV]
  show _+(ds[i]*S.aa (l.drop (i+1))+S.aC (l.drop (i+1)) (ds.drop (i+1)))=_
  rw[Int.add_mul,Int.mul_assoc];omega
theorem Dx {l ds:List Int}(hc:∀c∈l,0<c)(h:InC l ds):S.an l (S.aC l ds)=ds:=by
 refine List.ext_getElem (by simp[S.an,h.len]) fun i h1 h2=>?_
 have hil:i<l.length:=by simpa [S.an] using h1
 obtain ⟨v,hv,hv0,hv1⟩:=h.get (List.getElem?_eq_getElem hil)
 rw[List.getElem?_eq_getElem h2] at hv
 injection hv with hv
 have:(S.an l (S.aC l ds))[i]=S.aE l (S.aC l ds) i:=by simp[S.an]
 rw[this,S.aE,zU h (i+1) hil,Cu _ (fun c hcc=>hc c (List.mem_of_mem_drop hcc)) (h.drop (i+1)),List.getElem?_eq_getElem hil,Option.getD_some,vu (List.getElem?_eq_getElem hil) (List.getElem?_eq_getElem h2),Int.mul_comm,
  Int.mul_add_emod_self_left]
 rw[hv];exact Int.emod_eq_of_lt hv0 hv1
theorem EK {m:Causal}(hck:S.am m=true){p:Nat->Bool}:∀{n j:Nat},j<n->p j=true->S.aO m (j:Int)<=S.ae m p n
 | n+1,j,hj,hp=>by
  rw[S.ae]
  have h2:=jq hck n
  by_cases e:j=n
  ·subst e;rw[if_pos hp];have:=(dm hck p j).1;omega
  ·have:=EK hck (p:=p) (n:=n) (j:=j) (by omega) hp
   split<;>omega
theorem A0:∀{l:List Int},(∀x∈l,0<x)->0<S.aa l
 | [],_=>by decide
 | a::l,h=>by
  rw[bV]
  exact Int.mul_pos (h a (by simp)) (A0 fun x hx=>h x (by simp[hx]))
theorem xK:∀{l:List Int},0<l.sum->∃i,∃h:i<l.length,0<l[i]
 | [],h=>by simp at h
 | a::l,h=>by
  by_cases ha:0<a
  ·exact ⟨0,by simp,ha⟩
  ·rw[List.sum_cons] at h
   obtain ⟨i,hi,hp⟩:=xK (l:=l) (by omega)
   exact ⟨i+1,by simpa using hi,by simpa using hp⟩
def S.aP (m:Causal):Int:=S.ae m (fun _=>true) (S.ak m).toNat
theorem DL:∀{rs:List (List Int)},(∀r∈rs,0<r.sum)->∃ds:List Int,InC (rs.map fun r=>(r.length:Int)) ds/\∀(i:Nat) (r:List Int) (d:Int),rs[i]?=some r->ds[i]?=some d->0<r[d.toNat]?.getD 0
 | [],_=>⟨[],trivial,fun i r d h=>by simp at h⟩
 | r::rs,h=>by
  obtain ⟨ds,h1,h2⟩:=DL (rs:=rs) fun x hx=>h x (by simp[hx])
  obtain ⟨k,hk,hp⟩:=xK (h r (by simp))
  refine ⟨(k:Int)::ds,⟨⟨Int.natCast_nonneg k,by show (k:Int)<(r.length:Int);omega⟩,h1⟩,fun i r' d hr hd=>?_⟩
  cases i with
  | zero =>
   injection hr with hr;injection hd with hd;subst hr;subst hd
   rw[Int.toNat_natCast,List.getElem?_eq_getElem hk];exact hp
  | succ i=>exact h2 i r' d (by simpa using hr) (by simpa using hd)
theorem zm {m:Causal}(hck:S.am m=true):0<S.aP m:=by
 obtain ⟨hs,hgr,hn1,hro,hno⟩:=aN hck
 have hlb:=dw hs
 simp only[S.be,Bool.and_eq_true] at hro
 obtain ⟨ds,h1,h2⟩:=DL (rs:=m.roots) fun r hr=>by
  have:=List.all_eq_true.1 hro.1 r hr
  simp only[S.aJ,Bool.and_eq_true,decide_eq_true_eq] at this
  have:=this.2
  omega
 have h1:InC (S.af m) ds:=h1
 have hv:=Dx (fun c hc=>by have:=hlb c hc;omega) h1
 have hb:=eB hlb h1
 obtain ⟨j,hj⟩:=Int.eq_ofNat_of_zero_le hb.1
 have hlt:j<(S.ak m).toNat:=by
  have:S.ak m=S.aa (S.af m):=rfl
  omega
 have hw:0<S.aO m (j:Int):=by
  refine A0 fun x hx=>?_
  obtain ⟨r,hr,rfl⟩:=List.mem_map.1 hx
  have hr:=List.mem_range.1 hr
  have hrl:r<(S.af m).length:=by rw[dI];exact hr
  have e:ds[r]?=some (S.aE (S.af m) (j:Int) r):=by
   rw[<-hv,hj,S.an,List.getElem?_map,List.getElem?_range hrl];rfl
  have:=h2 r _ _ (List.getElem?_eq_getElem hr) e
  rw[S.aN,List.getElem?_eq_getElem hr];exact this
 have:=EK hck (p:=fun _=>true) hlt rfl
 unfold S.aP;omega
theorem di {m:Causal}(hck:S.am m=true)(p:Nat->Bool):0<=S.ae m p (S.ak m).toNat/\S.ae m p (S.ak m).toNat<=28179280429056:=by
 obtain ⟨hs,hgr,hn1,hro,hno⟩:=aN hck
 have hhb:=eF hs m.roots.length
 rw[List.take_length] at hhb
 have hhb:1<=S.ak m/\S.ak m<=4 ^ 8:=hhb
 have:=dm hck p (S.ak m).toNat
 omega
end Hx
end
section
namespace Hx
open Go
noncomputable section
theorem rJ {v w z:AV}(hv:v.cells=[v])(tv:v.isTup=false)(hw:w.cells=[w])(tw:w.isTup=false)(g:G):BR 1 2 [z] [0,1] [v,w] g=.upd (.hsl g.nx 0 0 2 none) (g.new (.cells 1 [[v],[w]] 0 false false)):=by
 have e:b6 1 [[z],[z]] [(0,v),(1,w)]=some [[v],[w]]:=by
  simp only[b6,hv,tv,hw,tw,aD,List.length_singleton,notb_eq,Bool.not_false]
  rfl
 show (match b6 1 [[z],[z]] [(0,v),(1,w)] with | some rows=>OR.upd (.hsl g.nx 0 0 2 none) (g.new (.cells 1 rows 0 false false)) | none=>.fail)=_
 rw[e]
theorem oU {v w y z:AV}(hv:v.cells=[v])(tv:v.isTup=false)(hw:w.cells=[w])(tw:w.isTup=false)(hy:y.cells=[y])(ty:y.isTup=false)(g:G):BR 1 3 [z] [0,1,2] [v,w,y] g=.upd (.hsl g.nx 0 0 3 none) (g.new (.cells 1 [[v],[w],[y]] 0 false false)):=by
 have e:b6 1 [[z],[z],[z]] [(0,v),(1,w),(2,y)]=some [[v],[w],[y]]:=by
  simp only[b6,hv,tv,hw,tw,hy,ty,aD,List.length_singleton,notb_eq,Bool.not_false]
  rfl
 show (match b6 1 [[z],[z],[z]] [(0,v),(1,w),(2,y)] with | some rows=>OR.upd (.hsl g.nx 0 0 3 none) (g.new (.cells 1 rows 0 false false)) | none=>.fail)=_
 rw[e]
theorem I4 {a b:List Int}{l r:AV}{q kk:Nat}{h:H}(hl:SlR NoP kk .nil a l)(hr:SlR NoP kk .nil b r)(hq:h.get q=.cells 1 [[l],[r]] 0 false false):SlR (fun _=>True) kk h [a,b] (.hsl q 0 0 2 none):=by
 refine ⟨by show 2<_;decide,trivial,[[l],[r]],?_,?_,?_,trivial⟩
 ·show ah h 1 _=_
  simp only[ah,hq];rfl
 ·exact Rp.tree (P:=fun _=>True) (k':=kk) (h':=h) (show Rp.rp NoP kk .nil a [l] from ⟨l,rfl,hl⟩) (Nat.le_refl _)
 ·exact Rp.tree (P:=fun _=>True) (k':=kk) (h':=h) (show Rp.rp NoP kk .nil b [r] from ⟨r,rfl,hr⟩) (Nat.le_refl _)
theorem E8 {a b c:List Int}{l r s:AV}{q kk:Nat}{h:H}(hl:SlR NoP kk .nil a l)(hr:SlR NoP kk .nil b r)(hs:SlR NoP kk .nil c s)(hq:h.get q=.cells 1 [[l],[r],[s]] 0 false false):SlR (fun _=>True) kk h [a,b,c] (.hsl q 0 0 3 none):=by
 refine ⟨by show 3<_;decide,trivial,[[l],[r],[s]],?_,?_,?_,?_,trivial⟩
 ·show ah h 1 _=_
  simp only[ah,hq];rfl
 ·exact Rp.tree (P:=fun _=>True) (k':=kk) (h':=h) (show Rp.rp NoP kk .nil a [l] from ⟨l,rfl,hl⟩) (Nat.le_refl _)
 ·exact Rp.tree (P:=fun _=>True) (k':=kk) (h':=h) (show Rp.rp NoP kk .nil b [r] from ⟨r,rfl,hr⟩) (Nat.le_refl _)
 ·exact Rp.tree (P:=fun _=>True) (k':=kk) (h':=h) (show Rp.rp NoP kk .nil c [s] from ⟨s,rfl,hs⟩) (Nat.le_refl _)
theorem A6 {m:Causal}{ls:List (List Int)}(h:S.aw m ls=0):S.am m=true/\∀l∈ls,S.ax m l=true:=by
 unfold S.aw at h
 cases hc:S.am m with
 | false=>rw[hc] at h;simp at h
 | true =>
  rw[hc,if_pos rfl] at h
  cases ha:ls.all (S.ax m) with
  | false=>rw[ha] at h;simp at h
  | true=>exact ⟨rfl,List.all_eq_true.1 ha⟩
theorem SlR.far8 {α:Type} [Rp α]{P:Nat->Prop}{k:Nat}{h h':H}{l:List α}{v:AV}(r:SlR P k h l v)(hf:∀i,P i->h'.get i=h.get i):SlR P k h' l v:=by
 obtain ⟨w,e,q⟩:=Rp.mono (P':=P) (k':=k) (h':=h') (show Rp.rp P k h l [v] from ⟨v,rfl,r⟩) (fun i hi=>⟨hi,hf i hi⟩) (Nat.le_refl _)
 injection e with e;subst e;exact q
def S.mw (m:Causal)(act q:List Int)(j:Nat):Bool:=S.bA (S.aR m (S.an (S.af m) ((j):Int)) act) q
def S.aU (m:Causal)(act q:List Int):Int:=S.ae m (S.mw m act q) (S.ak m).toNat
def S.aY (m:Causal)(act q:List Int):QI:=if S.aw m [act,q]=0 then S.aD (S.aU m act q).toNat (S.aP m).toNat else (0,0)
def EI (m:Causal)(k1 k2 act q:AV)(h:H)(s w:Int):Prop:=h.get 1=.cells 1 [[act]] 0 false false/\h.get 2=.cells 1 [[q]] 0 false false/\h.get 3=.cells 2 [[.int .i64 0,.int .i64 0]] 0 false false /\
 h.get 5=.cells 4 [[.int .i64 m.grain,k1,k2,.int .i64 (S.ak m)]] 0 false false/\h.get 6=.cells 1 [[.int .i64 s]] 0 false false/\h.get 7=.cells 1 [[.int .i64 w]] 0 false false
theorem A_ {d kk:Nat}{rd:Option Nat}{m:Causal}{t:T}{g:G}{j:Nat}{al ql:List Int}{k1 k2 act q u:AV}(hd:0<d)(hck:S.am m=true)(hac:S.ax m al=true)(hqc:S.ax m ql=true)
  (hks:∀h,Agg (⟨m,S.ak m⟩:KnownM) NoP 0 h (.agg [.int .i64 m.grain,k1,k2,.int .i64 (S.ak m)])) (ha:SlR NoP kk .nil al act) (hq:SlR NoP kk .nil ql q) (hu:SlR (fun i=>8<=i) 0 g.h (S.an (S.af m) (j:Int)) u) (hj:(j:Int)<S.ak m)
  (ht:St t [(4,.hptr 1 0 0 0),(5,.hptr 2 0 0 0),(8,.hptr 5 0 0 0),(10,.hptr 6 0 0 0),(11,.hptr 7 0 0 0),(12,u),(13,.int .i64 (S.aO m (j:Int)))]) (hI:EI m k1 k2 act q g.h (S.ae m (S.mw m al ql) j) (S.ae m (fun _=>true) j)) :
  wp C0 d rd gU (fun e _ df g3=>e=.norm/\df=[]/\EI m k1 k2 act q g3.h (S.ae m (S.mw m al ql) (j+1)) (S.ae m (fun _=>true) (j+1))/\g3.nx=g.nx/\∀i,8<=i->g3.h.get i=g.h.get i) t [] g:=by
 obtain ⟨hs,hgr,hn1,hro,hno⟩:=aN hck
 have hhb:=eF hs m.roots.length
 rw[List.take_length] at hhb
 have hhb:1<=S.ak m/\S.ak m<=4 ^ 8:=hhb
 have hvi:=ri (l:=S.af m) (h:=(j:Int)) (fun c hc=>by have:=dw hs c hc;omega) (Int.natCast_nonneg j)
 have hrl:(S.aR m (S.an (S.af m) (j:Int)) al).length=ql.length:=by simp[S.aR];rw[(nu hqc).1]
 obtain ⟨h4,h5,h8,h10,h11,h12,h13,-⟩:=ht
 obtain ⟨i1,i2,i3,i5,i6,i7⟩:=hI
 have b0:=jq hck j
 have b1:=dm hck (S.mw m al ql) j
 have b2:=dm hck (fun _=>true) j
 have w2:S.ae m (fun _=>true) (j+1)=S.ae m (fun _=>true) j+S.aO m (j:Int):=by rw[S.ae];simp
 simp only[gU,sx,sy,SO.run,↓reduceIte,Nat.reduceEqDiff,Nat.reduceAdd,Nat.reduceLeDiff,h4,h8,h11,h12,h13,i1,i5,i7,
  <-w2,an (show -9223372036854775808<=S.ae m (fun _=>true) (j+1) by omega) (show S.ae m (fun _=>true) (j+1)<9223372036854775808 by omega)]
 refine a_ (CK (P:=NoP) (k:=0) (Pa:=NoP) (ka:=kk) hd (hks _) (hu.far8 fun i (hi:8<=i)=>by simp[H.get_put,show ¬i=7 by omega]) (ha.tree (Nat.le_refl _)) hck hvi hac) fun r hr=>?_
 have hmat:∀g:G,ak C0 d N.ak [r,q] g=.val (.bool (S.mw m al ql j)):=fun g=>rh (P:=NoP) (P2:=NoP) (k:=0) (k2:=kk) hd (hr.sl _) (hq.tree (Nat.le_refl _)) hrl
 simp only[sx,sy,SO.run,↓reduceIte,Nat.reduceEqDiff,h5,i2,hmat]
 cases hmw:S.mw m al ql j with
 | true =>
  have w1:S.ae m (S.mw m al ql) (j+1)=S.ae m (S.mw m al ql) j+S.aO m (j:Int):=by rw[S.ae,hmw];simp
  simp only[sx,sy,SO.run,↓reduceIte,Nat.reduceEqDiff,Nat.reduceLeDiff,h10,h13,i6,<-w1,
   an (show -9223372036854775808<=S.ae m (S.mw m al ql) (j+1) by omega) (show S.ae m (S.mw m al ql) (j+1)<9223372036854775808 by omega)]
  refine ⟨⟨?_,?_,?_,?_,?_,?_⟩,fun i hi=>?_⟩
  ·simp[H.get_put,i1]
  ·simp[H.get_put,i2]
  ·simp[H.get_put,i3]
  ·simp[H.get_put,i5]
  ·simp[H.get_put]
  ·simp[H.get_put]
  ·simp[show ¬i=6 by omega,show ¬i=7 by omega]
 | false =>
  have w1:S.ae m (S.mw m al ql) (j+1)=S.ae m (S.mw m al ql) j:=by rw[S.ae,hmw];simp
  simp only[sx,sy,w1]
  refine ⟨⟨?_,?_,?_,?_,?_,?_⟩,fun i hi=>?_⟩
  ·simp[H.get_put,i1]
  ·simp[H.get_put,i2]
  ·simp[H.get_put,i3]
  ·simp[H.get_put,i5]
  ·simp[H.get_put,i6]
  ·simp[H.get_put]
  ·simp[show ¬i=7 by omega]
end
end Hx
end
section
namespace Hx
open Go
noncomputable section
theorem pQ {m:Causal}(hck:S.am m=true):1<=S.ak m/\S.ak m<=65536:=by
 have hs:=(aN hck).1
 have hhb:=eF hs m.roots.length
 rw[List.take_length] at hhb
 exact hhb
theorem CW {d kk:Nat}{g:G}{v act q:AV}{m:Causal}{al ql:List Int}(hd:0<d)(hm:Agg m NoP 0 g.h v)(ha:SlR NoP kk .nil al act)(hq:SlR NoP kk .nil ql q) :
  ak C0 d N.aA [v,act,q] g=.val (.tup [.agg [.int .i64 (S.aY m al ql).1,.int .i64 (S.aY m al ql).2],.int .i64 (S.aw m [al,ql])]):=by
 have key:∃r,ak C0 d N.aA [v,act,q] g=.val r/\sJ (Agg (S.aY m al ql)) (One (S.aw m [al,ql])) NoP 0 .nil r:=by
  have e0:=cj d hm
  have e1:=cG (h:=g.h) d (ha.tree (h':=g.h) (Nat.le_refl kk))
  have e2:=cG (h:=g.h) d (hq.tree (h':=g.h) (Nat.le_refl kk))
  obtain ⟨cs,rfl,hc⟩:=hm
  obtain ⟨a,b,rfl,hR,hN⟩:=aC.1 hc
  have hms:∀h,Agg m NoP 0 h (.agg [.int .i64 m.grain,a,b]):=fun h=>⟨_,rfl,Rp.tree hc (Nat.le_refl _)⟩
  rw[mb]
  refine aV vQ (xs:=[.agg [.int .i64 m.grain,a,b],act,q]) (by simp only[aH,e0,e1,e2]) (by simp[lN]) (dC (m:=2) (aQ _) (aU _) (by decide) (by decide)) (by decide) hd ?_
  simp only[lN,sx,sy,SO.run,↓reduceIte,Nat.reduceEqDiff,Nat.reduceAdd,ha.cell.1,ha.cell.2,hq.cell.1,hq.cell.2]
  obtain ⟨g0,hg0⟩:∃g0,g0=(((G.empty.new (AObj.cells 3 [[AV.int IntKind.i64 m.grain,a,b]] 0 false false)).new (AObj.cells 1 [[act]] 0 false false)).new (AObj.cells 1 [[q]] 0 false false)).new (AObj.cells 2 [[.int .i64 0,.int .i64 0]] 0 false false):=⟨_,rfl⟩
  rw[<-hg0]
  have f0:g0.h.get 0=.cells 3 [[.int .i64 m.grain,a,b]] 0 false false:=by rw[hg0];simp[sx,H.get_put]
  have f1:g0.h.get 1=.cells 1 [[act]] 0 false false:=by rw[hg0];simp[sx,H.get_put]
  have f2:g0.h.get 2=.cells 1 [[q]] 0 false false:=by rw[hg0];simp[sx,H.get_put]
  have f3:g0.h.get 3=.cells 2 [[.int .i64 0,.int .i64 0]] 0 false false:=by rw[hg0];simp[sx]
  have fn:g0.nx=4:=by rw[hg0];simp[sx]
  clear hg0
  simp only[nR,sx,sy,SO.run,↓reduceIte,Nat.reduceEqDiff,Nat.reduceAdd,Nat.reduceLeDiff,f0,f1,f2]
  rw[rJ ha.cell.1 ha.cell.2 hq.cell.1 hq.cell.2]
  simp only[sx,SO.run,↓reduceIte,Nat.reduceEqDiff,fn]
  have hls:SlR (fun _=>True) kk (g0.new (.cells 1 [[act],[q]] 0 false false)).h [al,ql] (.hsl 4 0 0 2 none):=I4 ha hq (by simp[fn,H.get_put])
  refine a_ (EH (ls:=[al,ql]) (Nat.succ_pos d) (Nat.succ_pos d) (hms _) hls) fun r hr=>?_
  obtain ⟨ra,rb,rfl,hra,hrb⟩:=hr
  have hrb:=aS.1 hrb
  injection hrb with hrb
  subst hrb
  obtain ⟨kc,rfl,hkc⟩:=hra
  obtain ⟨k1,k2,rfl,hk1,hk2⟩:=iA.1 hkc
  simp only[sx,sy,SO.run,↓reduceIte,Nat.reduceEqDiff,Nat.reduceAdd,Nat.reduceLeDiff,fn]
  refine aw (fun hb=>?_) (fun hb=>?_)
  ·have hne:S.aw m [al,ql]≠0:=by simpa using hb
   simp only[sx,sy,SO.run,↓reduceIte,Nat.reduceEqDiff,Nat.reduceAdd,Nat.reduceLeDiff,f3,fn]
   have:S.aY m al ql=(0,0):=by rw[S.aY,if_neg hne]
   rw[this]
   exact ⟨NoP,_,_,rfl,eT.2 rfl,aS.2 rfl⟩
  ·have hE:S.aw m [al,ql]=0:=by simpa using hb
   obtain ⟨hck,hall⟩:=A6 hE
   have hac:=hall al (by simp)
   have hqc:=hall ql (by simp)
   have hrd:S.bz m [al,ql]=⟨m,S.ak m⟩:=by unfold S.bz;rw[if_pos hE]
   rw[hrd] at hkc hk1 hk2
   simp only[hrd] at *
   have hhb:=pQ hck
   have hks:∀h,Agg (⟨m,S.ak m⟩:KnownM) NoP 0 h (.agg [.int .i64 m.grain,k1,k2,.int .i64 (S.ak m)]):=fun h=>⟨_,rfl,Rp.tree hkc (Nat.le_refl _)⟩
   simp only[pP,ii]
   refine dT (P:=fun t df g1=>df=[]/\St t [(4,.hptr 1 0 0 0),(5,.hptr 2 0 0 0),(6,.hptr 3 0 0 0),(8,.hptr 5 0 0 0),(10,.hptr 6 0 0 0),(11,.hptr 7 0 0 0)]/\EI m k1 k2 act q g1.h 0 0/\g1.nx=8) ?_ ?_
   ·simp[sx,sy,SO.run,St,EI,fn,f1,f2,f3]
   rintro t df g1 ⟨rfl,⟨h4,h5,h6,h8,h10,h11,-⟩,hI,hn⟩
   obtain ⟨wcs,hw,hwr⟩:=yM (g:=g1) (Nat.succ_pos d) (hks _)
   simp only[sx,sy,SO.run,↓reduceIte,Nat.reduceAdd,Nat.reduceLeDiff,h8,hI.2.2.2.1,hw]
   refine wW (d:=d+1) hck hwr (by simp[sx]) (by decide) (by decide) (fun j h=>EI m k1 k2 act q h (S.ae m (S.mw m al ql) j) (S.ae m (fun _=>true) j)) ?_ hI ?_ ?_
   ·rintro j h h' hh ⟨i1,i2,i3,i5,i6,i7⟩
    rw[hn] at hh
    exact ⟨by rw[hh _ (by omega),i1],by rw[hh _ (by omega),i2],by rw[hh _ (by omega),i3],by rw[hh _ (by omega),i5],by rw[hh _ (by omega),i6],by rw[hh _ (by omega),i7]⟩
   ·intro j u g6 hj hJ hn6 hu
    have hJ:EI m k1 k2 act q g6.h (S.ae m (S.mw m al ql) j) (S.ae m (fun _=>true) j):=hJ
    simp only[mD,sx,sy,SO.run,↓reduceIte,Nat.reduceEqDiff]
    intro g7 hn7 hf7
    have hJ7:EI m k1 k2 act q g7.h (S.ae m (S.mw m al ql) j) (S.ae m (fun _=>true) j):=by
     obtain ⟨i1,i2,i3,i5,i6,i7⟩:=hJ
     exact ⟨by rw[hf7 _ (by omega),i1],by rw[hf7 _ (by omega),i2],by rw[hf7 _ (by omega),i3],by rw[hf7 _ (by omega),i5],by rw[hf7 _ (by omega),i6],by rw[hf7 _ (by omega),i7]⟩
    have hu7:SlR (fun i=>8<=i) 0 g7.h (S.an (S.af m) (j:Int)) u:=by
     obtain ⟨w,e,z⟩:=Rp.mono (P':=fun i=>8<=i) (k':=0) (h':=g7.h) (show Rp.rp (fun i=>g1.nx+2<=i) 0 g6.h (S.an (S.af m) (j:Int)) [u] from ⟨u,rfl,hu⟩) (fun i hi=>⟨by omega,hf7 i (by omega)⟩) (Nat.le_refl _)
     injection e with e;subst e;exact z
    refine cM _ (A_ (d:=d+1) (rd:=some (g1.nx+1)) (j:=j) (al:=al) (ql:=ql) (Nat.succ_pos d) hck hac hqc hks ha hq hu7 hj (by simp[St,sx,h4,h5,h8,h10,h11]) hJ7) ?_
    rintro e t' df g8 ⟨rfl,rfl,b1,b2,b3⟩
    exact ⟨rfl,rfl,b1,by omega,fun i h1 h2=>b3 i (by omega)⟩
   ·intro g9 hJ hn9 hdf
    obtain ⟨i1,i2,i3,i5,i6,i7⟩:EI m k1 k2 act q g9.h (S.ae m (S.mw m al ql) (S.ak m).toNat) (S.ae m (fun _=>true) (S.ak m).toNat):=hJ
    have hb1:=di hck (S.mw m al ql)
    have hb2:=di hck (fun _=>true)
    have hwp:=zm hck
    have e6:S.ae m (S.mw m al ql) (S.ak m).toNat=((S.aU m al ql).toNat:Int):=by rw[S.aU,Int.toNat_of_nonneg hb1.1]
    have e7:S.ae m (fun _=>true) (S.ak m).toNat=((S.aP m).toNat:Int):=by rw[S.aP,Int.toNat_of_nonneg hb2.1]
    rw[e6] at i6 hb1
    rw[e7] at i7 hb2
    have hT:S.aY m al ql=S.aD (S.aU m al ql).toNat (S.aP m).toNat:=by rw[S.aY,if_pos hE]
    have hmk:∀g,ak C0 (d+1) N.aw [.int .i64 ((S.aU m al ql).toNat:Int),.int .i64 ((S.aP m).toNat:Int)] g=.val (.tup [.agg [.int .i64 (S.aY m al ql).1,.int .i64 (S.aY m al ql).2],.int .i64 0]):=fun g=>by
     rw[hT];exact A2 (Nat.succ_pos d) (by omega) (by omega) (by omega)
    simp only[mg,sx,sy,SO.run,↓reduceIte,Nat.reduceEqDiff,Nat.reduceAdd,Nat.reduceLeDiff,h6,h10,h11,i3,i6,i7,hmk]
    rw[hn] at hdf ⊢
    refine tT (by simp[H.get_put,hdf]) ?_
    simp only[sx,sy,↓reduceIte,Nat.reduceEqDiff,Nat.reduceAdd,Nat.reduceLeDiff,h6]
    rw[hE]
    exact ⟨NoP,_,_,rfl,eT.2 rfl,aS.2 rfl⟩
 obtain ⟨r,h1,a,b,rfl,h2,h3⟩:=key
 have h3:=aS.1 h3
 injection h3 with h3
 rw[h1,eT.1 h2,h3]
end
end Hx
end
section
namespace Hx
open Go
noncomputable section
def S.au (m:Causal):List Int:=List.replicate m.nodes.length (-1)
theorem v6 {m:Causal}(h:S.Small m):S.ax m (S.au m)=true:=by
 simp only[S.ax,S.au,List.length_replicate,decide_true,Bool.true_and,List.all_eq_true,List.mem_range]
 intro i hi
 simp only[S.bn,List.getElem?_replicate,if_pos hi,Option.getD_some,Bool.and_eq_true,decide_eq_true_eq]
 have:=h.card _ (List.getElem_mem hi)
 refine ⟨Int.le_refl _,?_⟩
 have e:S.az m i=(m.nodes[i]).card:=by unfold S.az;rw[Int.toNat_natCast,List.getElem?_eq_getElem hi];rfl
 rw[e];omega
def S.cw (m:Causal)(e act q:List Int)(j:Nat):Bool:=S.mw m (S.au m) e j&&S.mw m act q j
def S.aK (m:Causal)(e:List Int):Int:=S.ae m (S.mw m (S.au m) e) (S.ak m).toNat
def S.a7 (m:Causal)(e act q:List Int):Int:=S.ae m (S.cw m e act q) (S.ak m).toNat
def S.aM (m:Causal)(e act q:List Int):Int:=if S.aw m [e,act,q]≠0 then S.aw m [e,act,q] else if S.aK m e=0 then 7 else 0
def S.aW (m:Causal)(e act q:List Int):QI:=if S.aM m e act q=0 then S.aD (S.a7 m e act q).toNat (S.aK m e).toNat else (0,0)
def CI (m:Causal)(k1 k2 el act q f:AV)(h:H)(s w:Int):Prop:=h.get 1=.cells 1 [[el]] 0 false false/\h.get 2=.cells 1 [[act]] 0 false false/\h.get 3=.cells 1 [[q]] 0 false false/\h.get 4=.cells 2 [[.int .i64 0,.int .i64 0]] 0 false false /\
 h.get 6=.cells 4 [[.int .i64 m.grain,k1,k2,.int .i64 (S.ak m)]] 0 false false/\h.get 7=.cells 1 [[.int .i64 s]] 0 false false/\h.get 8=.cells 1 [[.int .i64 w]] 0 false false/\h.get 9=.cells 1 [[f]] 0 false false
theorem CI.fr {m:Causal}{k1 k2 el act q f:AV}{h h':H}{s w:Int}(hI:CI m k1 k2 el act q f h s w)(hh:∀i,i<10->h'.get i=h.get i):CI m k1 k2 el act q f h' s w:=by
 obtain ⟨i1,i2,i3,i4,i6,i7,i8,i9⟩:=hI
 exact ⟨by rw[hh _ (by omega),i1],by rw[hh _ (by omega),i2],by rw[hh _ (by omega),i3],by rw[hh _ (by omega),i4],by rw[hh _ (by omega),i6],by rw[hh _ (by omega),i7],by rw[hh _ (by omega),i8],by rw[hh _ (by omega),i9]⟩
theorem AD {d kk:Nat}{rd:Option Nat}{m:Causal}{t:T}{g:G}{j:Nat}{ee al ql:List Int}{k1 k2 el act q f u:AV}(hd:0<d)(hck:S.am m=true)(hec:S.ax m ee=true)(hac:S.ax m al=true)(hqc:S.ax m ql=true)
  (hks:∀h,Agg (⟨m,S.ak m⟩:KnownM) NoP 0 h (.agg [.int .i64 m.grain,k1,k2,.int .i64 (S.ak m)])) (he:SlR NoP kk .nil ee el) (ha:SlR NoP kk .nil al act) (hq:SlR NoP kk .nil ql q) (hf:SlR NoP 0 .nil (S.au m) f)
  (hu:SlR (fun i=>10<=i) 0 g.h (S.an (S.af m) (j:Int)) u) (hj:(j:Int)<S.ak m)
  (ht:St t [(5,.hptr 1 0 0 0),(6,.hptr 2 0 0 0),(7,.hptr 3 0 0 0),(10,.hptr 6 0 0 0),(12,.hptr 7 0 0 0),(13,.hptr 8 0 0 0),(14,.hptr 9 0 0 0),(15,u),(16,.int .i64 (S.aO m (j:Int)))])
  (hI:CI m k1 k2 el act q f g.h (S.ae m (S.cw m ee al ql) j) (S.ae m (S.mw m (S.au m) ee) j)) :
  wp C0 d rd fZ (fun e _ df g3=>e=.norm/\df=[]/\CI m k1 k2 el act q f g3.h (S.ae m (S.cw m ee al ql) (j+1)) (S.ae m (S.mw m (S.au m) ee) (j+1))/\g3.nx=g.nx/\∀i,10<=i->g3.h.get i=g.h.get i) t [] g:=by
 obtain ⟨hs,hgr,hn1,hro,hno⟩:=aN hck
 have hhb:=pQ hck
 have hnc:=v6 hs
 have hvi:=ri (l:=S.af m) (h:=(j:Int)) (fun c hc=>by have:=dw hs c hc;omega) (Int.natCast_nonneg j)
 have hrl:(S.aR m (S.an (S.af m) (j:Int)) al).length=ql.length:=by simp[S.aR];rw[(nu hqc).1]
 have hrl2:(S.aR m (S.an (S.af m) (j:Int)) (S.au m)).length=ee.length:=by simp[S.aR];rw[(nu hec).1]
 obtain ⟨h5,h6,h7,h10,h12,h13,h14,h15,h16,-⟩:=ht
 obtain ⟨i1,i2,i3,i4,i6,i7,i8,i9⟩:=hI
 have b0:=jq hck j
 have b1:=dm hck (S.cw m ee al ql) j
 have b2:=dm hck (S.mw m (S.au m) ee) j
 simp only[fZ,sx,sy,SO.run,↓reduceIte,Nat.reduceEqDiff,Nat.reduceAdd,Nat.reduceLeDiff,h10,h14,h15,i6,i9]
 refine a_ (CK (P:=NoP) (k:=0) (Pa:=NoP) (ka:=0) hd (hks _) (hu.far8 fun i (hi:10<=i)=>by simp) (hf.tree (Nat.le_refl _)) hck hvi hnc) fun r hr=>?_
 have hmat:∀g:G,ak C0 d N.ak [r,el] g=.val (.bool (S.mw m (S.au m) ee j)):=fun g=>rh (P:=NoP) (P2:=NoP) (k:=0) (k2:=kk) hd (hr.sl _) (he.tree (Nat.le_refl _)) hrl2
 simp only[sx,sy,SO.run,↓reduceIte,Nat.reduceEqDiff,h5,i1,hmat]
 cases hmw:S.mw m (S.au m) ee j with
 | false =>
  have w1:S.ae m (S.cw m ee al ql) (j+1)=S.ae m (S.cw m ee al ql) j:=by rw[S.ae,S.cw,hmw];simp
  have w2:S.ae m (S.mw m (S.au m) ee) (j+1)=S.ae m (S.mw m (S.au m) ee) j:=by rw[S.ae,hmw];simp
  simp only[sx,sy,↓reduceIte,w1,w2,Bool.not_false]
  exact ⟨⟨i1,i2,i3,i4,i6,i7,i8,i9⟩,fun i hi=>trivial⟩
 | true =>
  have w2:S.ae m (S.mw m (S.au m) ee) (j+1)=S.ae m (S.mw m (S.au m) ee) j+S.aO m (j:Int):=by rw[S.ae,hmw];simp
  simp only[sx,sy,SO.run,↓reduceIte,Nat.reduceEqDiff,Nat.reduceAdd,Nat.reduceLeDiff,h6,h10,h13,h15,h16,i2,i6,i8,<-w2,
   an (show -9223372036854775808<=S.ae m (S.mw m (S.au m) ee) (j+1) by omega) (show S.ae m (S.mw m (S.au m) ee) (j+1)<9223372036854775808 by omega),Bool.not_true]
  refine a_ (CK (P:=NoP) (k:=0) (Pa:=NoP) (ka:=kk) hd (hks _) (hu.far8 fun i (hi:10<=i)=>by simp[H.get_put,show ¬i=8 by omega]) (ha.tree (Nat.le_refl _)) hck hvi hac) fun r2 hr2=>?_
  have hmat2:∀g:G,ak C0 d N.ak [r2,q] g=.val (.bool (S.mw m al ql j)):=fun g=>rh (P:=NoP) (P2:=NoP) (k:=0) (k2:=kk) hd (hr2.sl _) (hq.tree (Nat.le_refl _)) hrl
  simp only[sx,sy,SO.run,↓reduceIte,Nat.reduceEqDiff,h7,i3,hmat2]
  cases hmw2:S.mw m al ql j with
  | true =>
   have w1:S.ae m (S.cw m ee al ql) (j+1)=S.ae m (S.cw m ee al ql) j+S.aO m (j:Int):=by rw[S.ae,S.cw,hmw,hmw2];simp
   simp only[sx,sy,SO.run,↓reduceIte,Nat.reduceEqDiff,Nat.reduceLeDiff,h12,h16,i7,<-w1,
    an (show -9223372036854775808<=S.ae m (S.cw m ee al ql) (j+1) by omega) (show S.ae m (S.cw m ee al ql) (j+1)<9223372036854775808 by omega)]
   refine ⟨⟨?_,?_,?_,?_,?_,?_,?_,?_⟩,fun i hi=>?_⟩
   ·simp[H.get_put,i1]
   ·simp[H.get_put,i2]
   ·simp[H.get_put,i3]
   ·simp[H.get_put,i4]
   ·simp[H.get_put,i6]
   ·simp[H.get_put]
   ·simp[H.get_put]
   ·simp[H.get_put,i9]
   ·simp[show ¬i=7 by omega,show ¬i=8 by omega]
  | false =>
   have w1:S.ae m (S.cw m ee al ql) (j+1)=S.ae m (S.cw m ee al ql) j:=by rw[S.ae,S.cw,hmw,hmw2];simp
   simp only[sx,sy,w1]
   refine ⟨⟨?_,?_,?_,?_,?_,?_,?_,?_⟩,fun i hi=>?_⟩
   ·simp[H.get_put,i1]
   ·simp[H.get_put,i2]
   ·simp[H.get_put,i3]
   ·simp[H.get_put,i4]
   ·simp[H.get_put,i6]
   ·simp[H.get_put,i7]
   ·simp[H.get_put]
   ·simp[H.get_put,i9]
   ·simp[show ¬i=8 by omega]
theorem BL {d kk:Nat}{g:G}{v el act q:AV}{m:Causal}{ee al ql:List Int}(hd:0<d)(hm:Agg m NoP 0 g.h v)(he:SlR NoP kk .nil ee el)(ha:SlR NoP kk .nil al act)(hq:SlR NoP kk .nil ql q) :
  ak C0 d N.aO [v,el,act,q] g=.val (.tup [.agg [.int .i64 (S.aW m ee al ql).1,.int .i64 (S.aW m ee al ql).2],.int .i64 (S.aM m ee al ql)]):=by
 have key:∃r,ak C0 d N.aO [v,el,act,q] g=.val r/\sJ (Agg (S.aW m ee al ql)) (One (S.aM m ee al ql)) NoP 0 .nil r:=by
  have e0:=cj d hm
  have e1:=cG (h:=g.h) d (ha.tree (h':=g.h) (Nat.le_refl kk))
  have e2:=cG (h:=g.h) d (hq.tree (h':=g.h) (Nat.le_refl kk))
  have e3:=cG (h:=g.h) d (he.tree (h':=g.h) (Nat.le_refl kk))
  obtain ⟨cs,rfl,hc⟩:=hm
  obtain ⟨a,b,rfl,hR,hN⟩:=aC.1 hc
  have hms:∀h,Agg m NoP 0 h (.agg [.int .i64 m.grain,a,b]):=fun h=>⟨_,rfl,Rp.tree hc (Nat.le_refl _)⟩
  rw[kM]
  refine aV uQ (xs:=[.agg [.int .i64 m.grain,a,b],el,act,q]) (by simp only[aH,e0,e1,e2,e3]) (by simp[kf]) (dC (m:=2) (aQ _) (aU _) (by decide) (by decide)) (by decide) hd ?_
  simp only[kf,sx,sy,SO.run,↓reduceIte,Nat.reduceEqDiff,Nat.reduceAdd,he.cell.1,he.cell.2,ha.cell.1,ha.cell.2,hq.cell.1,hq.cell.2]
  obtain ⟨g0,hg0⟩:∃g0,g0=((((G.empty.new (AObj.cells 3 [[AV.int IntKind.i64 m.grain,a,b]] 0 false false)).new (AObj.cells 1 [[el]] 0 false false)).new (AObj.cells 1 [[act]] 0 false false)).new (AObj.cells 1 [[q]] 0 false false)).new (AObj.cells 2 [[.int .i64 0,.int .i64 0]] 0 false false):=⟨_,rfl⟩
  rw[<-hg0]
  have f0:g0.h.get 0=.cells 3 [[.int .i64 m.grain,a,b]] 0 false false:=by rw[hg0];simp[sx,H.get_put]
  have f1:g0.h.get 1=.cells 1 [[el]] 0 false false:=by rw[hg0];simp[sx,H.get_put]
  have f2:g0.h.get 2=.cells 1 [[act]] 0 false false:=by rw[hg0];simp[sx,H.get_put]
  have f3:g0.h.get 3=.cells 1 [[q]] 0 false false:=by rw[hg0];simp[sx,H.get_put]
  have f4:g0.h.get 4=.cells 2 [[.int .i64 0,.int .i64 0]] 0 false false:=by rw[hg0];simp[sx]
  have fn:g0.nx=5:=by rw[hg0];simp[sx]
  clear hg0
  simp only[mh,sx,sy,SO.run,↓reduceIte,Nat.reduceEqDiff,Nat.reduceAdd,Nat.reduceLeDiff,f0,f1,f2,f3]
  rw[oU he.cell.1 he.cell.2 ha.cell.1 ha.cell.2 hq.cell.1 hq.cell.2]
  simp only[sx,SO.run,↓reduceIte,Nat.reduceEqDiff,fn]
  have hls:SlR (fun _=>True) kk (g0.new (.cells 1 [[el],[act],[q]] 0 false false)).h [ee,al,ql] (.hsl 5 0 0 3 none):=E8 he ha hq (by simp[fn,H.get_put])
  refine a_ (EH (ls:=[ee,al,ql]) (Nat.succ_pos d) (Nat.succ_pos d) (hms _) hls) fun r hr=>?_
  obtain ⟨ra,rb,rfl,hra,hrb⟩:=hr
  have hrb:=aS.1 hrb
  injection hrb with hrb
  subst hrb
  obtain ⟨kc,rfl,hkc⟩:=hra
  obtain ⟨k1,k2,rfl,hk1,hk2⟩:=iA.1 hkc
  simp only[sx,sy,SO.run,↓reduceIte,Nat.reduceEqDiff,Nat.reduceAdd,Nat.reduceLeDiff,fn]
  refine aw (fun hb=>?_) (fun hb=>?_)
  ·have hne:S.aw m [ee,al,ql]≠0:=by simpa using hb
   simp only[sx,sy,SO.run,↓reduceIte,Nat.reduceEqDiff,Nat.reduceAdd,Nat.reduceLeDiff,f4,fn]
   have hTE:S.aM m ee al ql=S.aw m [ee,al,ql]:=by rw[S.aM,if_pos hne]
   have:S.aW m ee al ql=(0,0):=by rw[S.aW,hTE,if_neg hne]
   rw[this,hTE]
   exact ⟨NoP,_,_,rfl,eT.2 rfl,aS.2 rfl⟩
  ·have hE:S.aw m [ee,al,ql]=0:=by simpa using hb
   obtain ⟨hck,hall⟩:=A6 hE
   have hec:=hall ee (by simp)
   have hac:=hall al (by simp)
   have hqc:=hall ql (by simp)
   have hrd:S.bz m [ee,al,ql]=⟨m,S.ak m⟩:=by unfold S.bz;rw[if_pos hE]
   rw[hrd] at hkc hk1 hk2
   simp only[hrd] at *
   have hhb:=pQ hck
   have hn5:=(aN hck).1.nodes
   have hks:∀h,Agg (⟨m,S.ak m⟩:KnownM) NoP 0 h (.agg [.int .i64 m.grain,k1,k2,.int .i64 (S.ak m)]):=fun h=>⟨_,rfl,Rp.tree hkc (Nat.le_refl _)⟩
   simp only[pP,ii]
   refine dT (P:=fun t df g1=>df=[]/\St t [(5,.hptr 1 0 0 0),(6,.hptr 2 0 0 0),(7,.hptr 3 0 0 0),(8,.hptr 4 0 0 0),(10,.hptr 6 0 0 0),(12,.hptr 7 0 0 0),(13,.hptr 8 0 0 0)]/\g1.h.get 1=.cells 1 [[el]] 0 false false/\g1.h.get 2=.cells 1 [[act]] 0 false false /\
    g1.h.get 3=.cells 1 [[q]] 0 false false/\g1.h.get 4=.cells 2 [[.int .i64 0,.int .i64 0]] 0 false false/\g1.h.get 6=.cells 4 [[.int .i64 m.grain,k1,k2,.int .i64 (S.ak m)]] 0 false false/\g1.h.get 7=.cells 1 [[.int .i64 0]] 0 false false/\g1.h.get 8=.cells 1 [[.int .i64 0]] 0 false false/\g1.nx=9) ?_ ?_
   ·simp[sx,sy,SO.run,St,fn,f1,f2,f3,f4]
   rintro t df g1 ⟨rfl,⟨h5,h6,h7,h8,h10,h12,h13,-⟩,p1,p2,p3,p4,p6,p7,p8,hn⟩
   refine dT (P:=fun t df g2=>df=[]/\St t [(5,.hptr 1 0 0 0),(6,.hptr 2 0 0 0),(7,.hptr 3 0 0 0),(8,.hptr 4 0 0 0),(10,.hptr 6 0 0 0),(12,.hptr 7 0 0 0),(13,.hptr 8 0 0 0),(14,.hptr 9 0 0 0)]/\g2.nx=10/\∃f,SlR NoP 0 .nil (S.au m) f/\CI m k1 k2 el act q f g2.h 0 0) ?_ ?_
   ·simp only[sx,sy,SO.run,↓reduceIte,Nat.reduceAdd,Nat.reduceLeDiff,h10,p6]
    refine a_ (Je (x:=⟨m,S.ak m⟩) (Nat.succ_pos d) (hks _) (by simpa using hn5)) fun f hf=>?_
    have hf:IT 0 (S.au m) f:=hf
    simp only[sx,sy,SO.run,↓reduceIte,Nat.reduceEqDiff,Nat.reduceAdd,Nat.reduceLeDiff,hf.cells,hf.tup,hn,h5,h6,h7,h8,h10,h12,h13,St]
    refine ⟨f,hf.sl _,?_,?_,?_,?_,?_,?_,?_,?_⟩<;>simp[H.get_put,p1,p2,p3,p4,p6,p7,p8]
   clear h5 h6 h7 h8 h10 h12 h13 p1 p2 p3 p4 p6 p7 p8 hn
   rintro t df g1 ⟨rfl,⟨h5,h6,h7,h8,h10,h12,h13,h14,-⟩,hn,f,hf,hI⟩
   obtain ⟨wcs,hw,hwr⟩:=yM (g:=g1) (Nat.succ_pos d) (hks _)
   simp only[sx,sy,SO.run,↓reduceIte,Nat.reduceAdd,Nat.reduceLeDiff,h10,hI.2.2.2.2.1,hw]
   refine wW (d:=d+1) hck hwr (by simp[sx]) (by decide) (by decide) (fun j h=>CI m k1 k2 el act q f h (S.ae m (S.cw m ee al ql) j) (S.ae m (S.mw m (S.au m) ee) j)) ?_ hI ?_ ?_
   ·intro j h h' hh hI
    rw[hn] at hh
    exact CI.fr hI hh
   ·intro j u g6 hj hJ hn6 hu
    have hJ:CI m k1 k2 el act q f g6.h (S.ae m (S.cw m ee al ql) j) (S.ae m (S.mw m (S.au m) ee) j):=hJ
    simp only[k_,sx,sy,SO.run,↓reduceIte,Nat.reduceEqDiff]
    intro g7 hn7 hf7
    have hJ7:CI m k1 k2 el act q f g7.h (S.ae m (S.cw m ee al ql) j) (S.ae m (S.mw m (S.au m) ee) j):=hJ.fr fun i hi=>hf7 i (by omega)
    have hu7:SlR (fun i=>10<=i) 0 g7.h (S.an (S.af m) (j:Int)) u:=by
     obtain ⟨w,e,z⟩:=Rp.mono (P':=fun i=>10<=i) (k':=0) (h':=g7.h) (show Rp.rp (fun i=>g1.nx+2<=i) 0 g6.h (S.an (S.af m) (j:Int)) [u] from ⟨u,rfl,hu⟩) (fun i hi=>⟨by omega,hf7 i (by omega)⟩) (Nat.le_refl _)
     injection e with e;subst e;exact z
    refine cM _ (AD (d:=d+1) (rd:=some (g1.nx+1)) (j:=j) (ee:=ee) (al:=al) (ql:=ql) (Nat.succ_pos d) hck hec hac hqc hks he ha hq hf hu7 hj (by simp[St,sx,h5,h6,h7,h10,h12,h13,h14]) hJ7) ?_
    rintro e t' df g8 ⟨rfl,rfl,b1,b2,b3⟩
    exact ⟨rfl,rfl,b1,by omega,fun i h1 h2=>b3 i (by omega)⟩
   ·intro g9 hJ hn9 hdf
    obtain ⟨i1,i2,i3,i4,i6,i7,i8,i9⟩:CI m k1 k2 el act q f g9.h (S.ae m (S.cw m ee al ql) (S.ak m).toNat) (S.ae m (S.mw m (S.au m) ee) (S.ak m).toNat):=hJ
    have hb1:=di hck (S.cw m ee al ql)
    have hb2:=di hck (S.mw m (S.au m) ee)
    have e7:S.ae m (S.cw m ee al ql) (S.ak m).toNat=((S.a7 m ee al ql).toNat:Int):=by rw[S.a7,Int.toNat_of_nonneg hb1.1]
    have e8:S.ae m (S.mw m (S.au m) ee) (S.ak m).toNat=((S.aK m ee).toNat:Int):=by rw[S.aK,Int.toNat_of_nonneg hb2.1]
    have hse:S.aK m ee=((S.aK m ee).toNat:Int):=by rw[S.aK];exact e8
    rw[e7] at i7 hb1
    rw[e8] at i8 hb2
    rw[hn] at hdf ⊢
    simp only[lA,sx,SO.run,↓reduceIte,Nat.reduceEqDiff,h13,i8]
    refine aw (fun hb=>?_) (fun hb=>?_)
    ·have h0:S.aK m ee=0:=by simp at hb;omega
     have hTE:S.aM m ee al ql=7:=by rw[S.aM,if_neg (by rw[hE];simp),if_pos h0]
     have:S.aW m ee al ql=(0,0):=by rw[S.aW,hTE,if_neg (by decide)]
     simp only[sx,sy,SO.run,↓reduceIte,Nat.reduceEqDiff,Nat.reduceAdd,Nat.reduceLeDiff,h8,i4]
     refine tT (by simp[H.get_put,hdf]) ?_
     simp only[sx,sy,↓reduceIte,Nat.reduceEqDiff,Nat.reduceAdd,Nat.reduceLeDiff,h8]
     rw[this,hTE]
     exact ⟨NoP,_,_,rfl,eT.2 rfl,aS.2 rfl⟩
    ·have h0:¬S.aK m ee=0:=by simp at hb;omega
     have hTE:S.aM m ee al ql=0:=by rw[S.aM,if_neg (by rw[hE];simp),if_neg h0]
     have hT:S.aW m ee al ql=S.aD (S.a7 m ee al ql).toNat (S.aK m ee).toNat:=by rw[S.aW,if_pos hTE]
     have hmk:∀g,ak C0 (d+1) N.aw [.int .i64 ((S.a7 m ee al ql).toNat:Int),.int .i64 ((S.aK m ee).toNat:Int)] g=.val (.tup [.agg [.int .i64 (S.aW m ee al ql).1,.int .i64 (S.aW m ee al ql).2],.int .i64 0]):=fun g=>by
      rw[hT];exact A2 (Nat.succ_pos d) (by omega) (by omega) (by omega)
     simp only[sx,sy,SO.run,↓reduceIte,Nat.reduceEqDiff,Nat.reduceAdd,Nat.reduceLeDiff,h8,h12,h13,i4,i7,i8,hmk]
     refine tT (by simp[H.get_put,hdf]) ?_
     simp only[sx,sy,↓reduceIte,Nat.reduceEqDiff,Nat.reduceAdd,Nat.reduceLeDiff,h8]
     rw[hTE]
     exact ⟨NoP,_,_,rfl,eT.2 rfl,aS.2 rfl⟩
 obtain ⟨r,h1,a,b,rfl,h2,h3⟩:=key
 have h3:=aS.1 h3
 injection h3 with h3
 rw[h1,eT.1 h2,h3]
end
end Hx
end
section
namespace Hx
open Go
noncomputable section
theorem II {vals e:List Int}:S.bA vals e=true↔∀i,i<e.length->e[i]?.getD 0<0\/e[i]?.getD 0=vals[i]?.getD 0:=by
 simp only[S.bA,List.all_eq_true,List.mem_range,S.br,Bool.or_eq_true,decide_eq_true_eq]
theorem EB (m:Causal)(act:List Int)(j:Nat):S.mw m act (S.au m) j=true:=by
 unfold S.mw
 rw[II]
 intro i hi
 left
 have hi:i<m.nodes.length:=by simpa [S.au] using hi
 simp[S.au,hi]
theorem Fq (m:Causal):S.aK m (S.au m)=S.aP m:=by
 unfold S.aK S.aP
 exact rf fun j _=>EB m _ j
theorem FV (m:Causal)(act q:List Int):S.a7 m (S.au m) act q=S.aU m act q:=by
 unfold S.a7 S.aU
 exact rf fun j _=>by rw[S.cw,EB,Bool.true_and]
def S.bS (s a:List Int):List Int:=(List.range s.length).map fun i=>if a[i]?.getD 0<0 then -1 else s[i]?.getD 0
end
end Hx
end
section
namespace Hx
open Go
noncomputable section
theorem Jn {α:Type}{C:α->Prop}{S:α->VS}{j:Nat}(h:∀a,Snb (S a) j):Snb (fun P k h v=>∃a,C a/\S a P k h v) j :=
 ⟨fun {P k hh v n} d r hn=>by
  obtain ⟨a,c,r⟩:=r
  obtain ⟨v',e,r'⟩:=(h a).snap d r hn
  exact ⟨v',e,a,c,r'⟩,fun {k hh v n} r hn=>by
  obtain ⟨a,c,r⟩:=r
  exact (h a).tag r hn⟩
theorem pE:∀{A L:List Nat},A.Nodup->(∀v∈A,v∈L)->A.length<=L.length
 | [],_,_,_=>Nat.zero_le _
 | a::A,L,hA,h=>by
  rw[List.nodup_cons] at hA
  have ha:=h a (by simp)
  have:=pE (A:=A) (L:=L.erase a) hA.2 fun v hv=>(List.mem_erase_of_ne (fun e=>hA.1 (by rw[<-e];exact hv))).2 (h v (by simp[hv]))
  rw[List.length_erase_of_mem ha] at this
  have:=List.length_pos_of_mem ha
  simp only[List.length_cons]
  omega
def Ord (p:List Nat)(L:List Nat):Prop:=(∀v,v<p.length->v∈L)/\∀(i v:Nat),L[i]?=some v->v<p.length/\∀q,(Par p v).testBit q=true->q∈L.take i
def Fv (p:List Nat)(L:List Nat):Prop:=L.Nodup/\∀(i v:Nat),L[i]?=some v->v<p.length/\∀q,(Par p v).testBit q=true->q∈L.take i
theorem GD {p L:List Nat}(h:Fv p L):L.length<=p.length:=by
 have:=pE (L:=List.range p.length) h.1 fun v hv=>by
  obtain ⟨i,hi,rfl⟩:=List.mem_iff_getElem.1 hv
  exact List.mem_range.2 (h.2 i _ (List.getElem?_eq_getElem hi)).1
 simpa using this
theorem EX {p L:List Nat}(h:Fv p L){v:Nat}(hv:v ∉ L)(hl:v<p.length)(hp:∀q,(Par p v).testBit q=true->q∈L):Fv p (L++[v]):=by
 refine ⟨?_,fun i u hu=>?_⟩
 ·rw[List.nodup_append]
  exact ⟨h.1,by simp,fun a ha b hb=>by simp at hb;subst hb;exact fun e=>hv (e ▸ ha)⟩
 ·rcases Nat.lt_or_ge i L.length with hi | hi
  ·rw[List.getElem?_append_left hi] at hu
   obtain ⟨h1,h2⟩:=h.2 i u hu
   exact ⟨h1,fun q hq=>by rw[List.take_append_of_le_length (by omega)];exact h2 q hq⟩
  ·rw[List.getElem?_append_right hi] at hu
   have:i=L.length:=by
    have:=(List.getElem?_eq_some_iff.1 hu).1;simp at this;omega
   subst this
   simp at hu;subst hu
   exact ⟨hl,fun q hq=>by rw[List.take_left];exact hp q hq⟩
theorem FU {p L:List Nat}(h:Fv p L)(hl:p.length<=L.length):Ord p L:=by
 refine ⟨fun v hv=>?_,h.2⟩
 by_cases hm:v∈L
 ·exact hm
 ·have:=pE (A:=v::L) (L:=List.range p.length) (List.nodup_cons.2 ⟨hm,h.1⟩) fun u hu=>by
   rcases List.mem_cons.1 hu with rfl | hu
   ·exact List.mem_range.2 hv
   ·obtain ⟨i,hi,rfl⟩:=List.mem_iff_getElem.1 hu
    exact List.mem_range.2 (h.2 i _ (List.getElem?_eq_getElem hi)).1
  simp at this
  omega
theorem In {p L:List Nat}{r:Nat->Nat}(hr:∀v,v<p.length->∀q,(Par p v).testBit q=true->q<p.length/\r q<r v):∀n v,r v<=n->v<p.length->v ∉ L->∃w,w<p.length/\w ∉ L/\∀q,(Par p w).testBit q=true->q∈L:=by
 intro n
 induction n with
 | zero =>
  intro v hn hv hl
  exact ⟨v,hv,hl,fun q hq=>by have:=(hr v hv q hq).2;omega⟩
 | succ n ih =>
  intro v hn hv hl
  by_cases h:∃q,(Par p v).testBit q=true/\q ∉ L
  ·obtain ⟨q,h1,h2⟩:=h
   obtain ⟨h3,h4⟩:=hr v hv q h1
   exact ih q (by omega) h3 h2
  ·refine ⟨v,hv,hl,fun q hq=>?_⟩
   by_cases h':q∈L
   ·exact h'
   ·exact absurd ⟨q,hq,h'⟩ h
theorem IW {p L:List Nat}(h:Fv p L)(hl:L.length<p.length):∃v,v<p.length/\v ∉ L:=by
 by_cases hh:∃v,v<p.length/\v ∉ L
 ·exact hh
 ·exfalso
  have:=pE (A:=List.range p.length) (L:=L) List.nodup_range fun v hv=>by
   by_cases h':v∈L
   ·exact h'
   ·exact absurd ⟨v,List.mem_range.1 hv,h'⟩ hh
  simp at this
  omega
def KA (D:Nat)(L:List Nat):Prop:=D<18446744073709551616/\∀v,D.testBit v=true↔v∈L
theorem Fx {D:Nat}{L:List Nat}(h:KA D L){v:Nat}(hv:v<64):KA (D ||| S.a9 v) (L++[v]):=by
 refine ⟨EJ h.1 (ry v),fun u=>?_⟩
 rw[jF,qF hv,Bool.or_eq_true,h.2,decide_eq_true_eq,List.mem_append,List.mem_singleton]
 constructor
 ·rintro (h | h)
  ·exact .inl h
  ·exact .inr h.symm
 ·rintro (h | h)
  ·exact .inl h
  ·exact .inr h.symm
def Lj (p:List Nat):VS:=fun P k h v=>∃L:List Nat,Ord p L/\One (L.map fun i:Nat=>(i:Int)) P k h v
theorem HB {d k:Nat}{g:G}{P:Nat->Prop}{v:AV}{p:List Nat}{r:Nat->Nat}(hd:0<d)(hv:SlR P k g.h p v)(hn:p.length<=5)(hr:∀v,v<p.length->∀q,(Par p v).testBit q=true->q<p.length/\r q<r v) :
  ∃z,ak C0 d N.bE [v] g=.val z/\Lj p NoP 0 .nil z:=by
 obtain ⟨v',e,r1⟩:=be hv d
 have hlt:=nf hv
 rw[tF]
 refine aV ww (xs:=[v']) (by simp only[aH,e]) (by simp[lP]) (Jn fun a=>aU _) (by decide) hd ?_
 have vl:∀g,eD .slice v' g=.val (.int .i64 (p.length:Int)):=fun g=>(r1 .nil).len g
 simp only[lP,sx,SO.run]
 refine gt (fun n t df g=>df=[]/\∃(L:List Nat) (D:Nat) (u:AV),n=p.length - L.length/\Fv p L/\KA D L/\St t [(0,v'),(3,u),(4,.int .u64 (D:Int))]/\Own g 0 u 1 ((L.map fun i:Nat=>(i:Int)).map ci)) p.length
  ⟨rfl,[],0,.nils,by simp,⟨by simp,by simp⟩,⟨by decide,by simp⟩,by simp[sx,St],.inl ⟨rfl,rfl⟩⟩ ?_
 rintro n t df g ⟨rfl,L,D,u,rfl,hO,hD,⟨h0,h3,h4,-⟩,hu⟩
 have hLl:=GD hO
 have hul:∀g',eD .slice u g'=.val (.int .i64 (L.length:Int)):=fun g'=>by rw[bh hu.rows];simp
 simp only[mz,sx,SO.run,↓reduceIte,Nat.reduceEqDiff,h0,h3,vl,hul]
 refine aw (fun hb=>?_) (fun hb=>?_)
 ·have hlt2:L.length<p.length:=by simpa using hb
  simp only[sx,SO.run]
  obtain ⟨v0,hv0,hv0'⟩:=IW hO hlt2
  obtain ⟨w,hw,hwL,hwp⟩:=In hr (r v0) v0 (Nat.le_refl _) hv0 hv0'
  simp only[mm]
  refine eA (m:=p.length) (by omega) vl (fun j t df g'=>df=[]/\g'=g/\St t [(3,u),(4,.int .u64 (D:Int))]/\j<=w) ⟨rfl,rfl,by simp[sx,St,h3,h4],Nat.zero_le _⟩ (by simp[sx]) (by simp[sx,h0]) (by decide)
   (by rintro j t df g v s (rfl | rfl | rfl | rfl | rfl | rfl | rfl)<;>simp[sx,St]) ?_ ?_
  ·rintro j t df g' hj ⟨rfl,rfl,⟨h3,h4,-⟩,hjw⟩ h5 h0
   obtain ⟨x,hx,-,hxm⟩:=af hj
   have hpj:Par p j=x:=by simp[Par,hx]
   have hxl:=hlt x hxm
   have hjl:j<(p.map cu).length:=by simpa using hj
   have hjr:(p.map cu)[j]?=some (cu x):=by rw[List.getElem?_map,hx];rfl
   simp only[sx,SO.run,↓reduceIte,Nat.reduceEqDiff,h4,h5,Ir (Nat.succ_pos d) hD.1 (show j<9223372036854775808 by omega),rO]
   have noteq:D.testBit j=true->j≠w:=fun h e=>by subst e;exact hwL ((hD.2 j).1 h)
   cases hin:D.testBit j with
   | true =>
    have:=noteq hin
    simp only[sx,sy,SO.run,↓reduceIte,Nat.reduceEqDiff,h0,h3,h4,h5,Bool.not_true,St]
    omega
   | false =>
    have hjL:j ∉ L:=fun h=>by rw[(hD.2 j).2 h] at hin;cases hin
    simp only[sx,SO.run,↓reduceIte,Nat.reduceEqDiff,h0,h4,h5,Bool.not_false,(r1 g'.h).nats,hjl,hjr,cu,Option.isSome_some,Option.getD_some,xd _ _ hxl hD.1]
    refine aw (fun hb=>?_) (fun hb=>?_)
    ·have hd0:S.ba x D=0:=by simpa [S.ba] using hb
     have hsub:=mi.1 hd0
     simp only[sx,sy,SO.run,↓reduceIte,Nat.reduceEqDiff,h3,h5]
     refine aJ (new:=[ci (j:Int)]) (hu.step (Fr.new _ _)) (by simp[sx,sy,ci]) (by simp) (by simp[aZ];omega) fun u2 g2 hu2 n2 f2 _ _=>?_
     have hone:∀n:Nat,cO .shl (.int .u64 1) (.int .u64 (n:Int))=.val (.int .u64 (S.a9 n:Int)):=fun n=>iq .u64 n
     simp only[sx,sy,SO.run,↓reduceIte,Nat.reduceEqDiff,h4,h5,nE (show (0:Int)<=(j:Int) by omega) (by omega),hone,wH _ _ hD.1 (ry j)]
     refine ⟨p.length - (L++[j]).length,by simp;omega,L++[j],D ||| S.a9 j,u2,rfl,EX hO hjL hj fun q hq=>?_,Fx hD (by omega),by simp[sx,St,h0],?_⟩
     ·rw[hpj] at hq;exact (hD.2 q).1 (hsub q hq)
     ·simpa [ci] using hu2
    ·have hne:j≠w:=fun e=>by
      subst e
      have:S.ba x D=0:=mi.2 fun q hq=>(hD.2 q).2 (hwp q (by rw[hpj];exact hq))
      simp[S.ba] at this hb
      exact hb this
     simp only[sx,sy,↓reduceIte,Nat.reduceEqDiff,h0,h3,h4,h5,St]
     omega
  ·rintro t df g' ⟨rfl,rfl,-,hjw⟩ -
   omega
 ·simp only[mF,sx,SO.run,↓reduceIte,Nat.reduceEqDiff,h3]
  have hge:p.length<=L.length:=by simp at hb;omega
  exact ⟨fun _=>True,L,FU hO hge,hu.ints (by simp;omega)⟩
end
end Hx
end
section
namespace Hx
open Go
noncomputable section
theorem Ey {m:Causal}(hck:S.am m=true){i:Nat}{x:Mech}(hx:m.nodes[i]?=some x)(q:Nat):(Par (S.ay m) i).testBit q=true↔(q:Int)∈x.frm:=by
 have hpm:=dF hck (List.mem_of_getElem? hx)
 have h5:=(aN hck).1.nodes
 rw[show Par (S.ay m) i=S.aL x.frm by simp[Par,S.ay,hx],vF (n:=m.nodes.length) (by omega) (aE hpm.1),List.contains_iff_mem]
theorem G0 {m:Causal}(hck:S.am m=true){r:Nat->Nat}(hr:∀(i:Nat) (x:Mech),m.nodes[i]?=some x->∀q∈x.frm,r q.toNat<r i) :
  ∀v,v<(S.ay m).length->∀q,(Par (S.ay m) v).testBit q=true->q<(S.ay m).length/\r q<r v:=fun v hv q hq=>by
 have hpl:(S.ay m).length=m.nodes.length:=by simp[S.ay]
 rw[hpl] at hv ⊢
 have hx:=List.getElem?_eq_getElem hv
 have hm:=(Ey hck hx q).1 hq
 have h1:=aE (dF hck (List.getElem_mem hv)).1 _ hm
 have h2:=hr v _ hx _ hm
 rw[Int.toNat_natCast] at h2
 exact ⟨by omega,h2⟩
section
variable {d k:Nat}{m:Causal}{a b:AV}{al:List Int}{hh:Int}
theorem Ju {cs vs:List Int}{t:T}{g:G}{Q:QT}{act' w u o9 rt:AV}{iv:Int}(hc:∀c∈cs,1<=c/\c<=4)(hl:cs.length<=13)(hin:InC cs vs){u12 u15:AV}{bo:Nat}(h12:Own g bo u12 1 (vs.map ci))(h15:IT 0 cs u15)
  (ht:St t [(2,act'),(3,.hptr 0 0 0 0),(7,rt),(8,o9),(9,w),(11,.int .i64 iv),(12,u12),(13,.int .i64 0),(14,.int .i64 1),(15,u15)]) (h10:tat t 10=u) (hi:tat t 16=.int .i64 ((cs.length:Int) - 1))
  (fin:∀t,St t [(2,act'),(3,.hptr 0 0 0 0),(7,rt),(8,o9),(9,w),(11,.int .i64 iv),(13,.int .i64 (S.aC cs vs))]->tat t 10=u->Q (.exit 2) t [] g) :
  wpL (wp C0 d none jB) Q t [] g:=by
 have hvl:=hin.len
 simp only[jB]
 refine j4 (m:=cs.length) (by omega) (fun j t df g'=>df=[]/\g'=g/\tat t 10=u/\St t [(2,act'),(3,.hptr 0 0 0 0),(7,rt),(8,o9),(9,w),(11,.int .i64 iv),(12,u12),(13,.int .i64 (S.aC (cs.drop j) (vs.drop j))),(14,.int .i64 (S.aa (cs.drop j))),(15,u15)])
  ⟨rfl,rfl,h10,?_⟩ hi (by decide) (by rintro j t df g v s (rfl | rfl | rfl | rfl | rfl)<;>simp[sx,St]) ?_ ?_
 ·have e1:cs.drop cs.length=[]:=List.drop_length
  have e2:vs.drop cs.length=[]:=by rw[<-hvl];exact List.drop_length
  rw[e1,e2];exact ht
 ·rintro j t df g' hj ⟨rfl,rfl,h10,⟨h2,h3,h7,h8,h9,h11,h12',h13,h14,h15',-⟩⟩ h16
  obtain ⟨c,hcj,-,hm⟩:=af (l:=cs) (j:=j) hj
  obtain ⟨x,hxj,-,-⟩:=af (l:=vs) (j:=j) (by omega)
  have dc:cs.drop j=c::cs.drop (j+1):=by
   rw[List.drop_eq_getElem_cons hj];rw[List.getElem?_eq_getElem hj] at hcj;injection hcj with hcj;rw[hcj]
  have dv:vs.drop j=x::vs.drop (j+1):=by
   rw[List.drop_eq_getElem_cons (by omega)];rw[List.getElem?_eq_getElem (by omega)] at hxj;injection hxj with hxj;rw[hxj]
  have hd0:=hin.drop j
  have hcd:∀y∈cs.drop j,1<=y/\y<=4:=fun y hy=>hc y (List.mem_of_mem_drop hy)
  have hb0:=eB hcd hd0
  obtain ⟨p1,p2⟩:=bD hcd
  have hb1:=eB (fun y hy=>hc y (List.mem_of_mem_drop hy)) (hin.drop (j+1))
  obtain ⟨q1,q2⟩:=bD (l:=cs.drop (j+1)) fun y hy=>hc y (List.mem_of_mem_drop hy)
  have pw1:=Es (n:=(cs.drop j).length) (by simp;omega)
  rw[dc,dv] at hb0 hd0
  rw[dc] at p1 p2 pw1
  have hx0:0<=x/\x<c:=hd0.1
  have hmul:0<=x*S.aa (cs.drop (j+1)):=Int.mul_nonneg hx0.1 (by omega)
  rw[bV] at hb0 p1 p2
  have hb0:0<=x*S.aa (cs.drop (j+1))+S.aC (cs.drop (j+1)) (vs.drop (j+1))/\x*S.aa (cs.drop (j+1))+S.aC (cs.drop (j+1)) (vs.drop (j+1))<c*S.aa (cs.drop (j+1)):=hb0
  have hlm:j<(cs.map ci).length:=by simpa using hj
  have hlv:j<(vs.map ci).length:=by rw[List.length_map];omega
  have hcl:(cs.map ci)[j]?=some (ci c):=by rw[List.getElem?_map,hcj];rfl
  have hxl:(vs.map ci)[j]?=some (ci x):=by rw[List.getElem?_map,hxj];rfl
  have hcm:S.aa (cs.drop (j+1))*c=c*S.aa (cs.drop (j+1)):=Int.mul_comm _ _
  simp only[sx,sy,SO.run,↓reduceIte,Nat.reduceEqDiff,h2,h3,h7,h8,h9,h10,h11,h12',h13,h14,h15',h16,h12.rows,h15.rows,hcl,hlm,hlv,hxl,ci,Option.isSome_some,Option.getD_some,
   an (show -9223372036854775808<=x*S.aa (cs.drop (j+1)) by omega) (show x*S.aa (cs.drop (j+1))<9223372036854775808 by omega),
   an (show -9223372036854775808<=S.aC (cs.drop (j+1)) (vs.drop (j+1))+x*S.aa (cs.drop (j+1)) by omega) (show S.aC (cs.drop (j+1)) (vs.drop (j+1))+x*S.aa (cs.drop (j+1))<9223372036854775808 by omega),
   an (show -9223372036854775808<=S.aa (cs.drop (j+1))*c by omega) (show S.aa (cs.drop (j+1))*c<9223372036854775808 by omega),St]
  refine ⟨?_,?_⟩
  ·rw[dc,dv]
   show AV.int .i64 (_+_)=AV.int .i64 (x*S.aa (cs.drop (j+1))+S.aC _ _)
   rw[Int.add_comm]
  ·rw[dc,bV,hcm]
 ·rintro t df g' ⟨rfl,rfl,h10,⟨h2,h3,h7,h8,h9,h11,h12',h13,h14,h15',-⟩⟩
  rw[List.drop_zero,List.drop_zero] at h13
  exact fin t ⟨h2,h3,h7,h8,h9,h11,h13,trivial⟩ h10
theorem DJ {P Pa:Nat->Prop}{ka:Nat}{g:G}{v av:AV}(hd:0<d)(hm:Agg m P k g.h v)(hav:SlR Pa ka g.h al av)(hck:S.am m=true)(hac:S.ax m al=true)(hh0:0<=hh/\hh<9223372036854775808) :
  ∃r,ak C0 d N.aY [v,.int .i64 hh,av] g=.val r/\IT 0 (S.aR m (S.an (S.af m) hh) al) r:=by
 obtain ⟨v',e,cs,rfl,hc⟩:=bP (aQ m) (by decide) d hm
 obtain ⟨a,b,rfl,hR,hN⟩:=aC.1 hc
 obtain ⟨av',e2,ra⟩:=be hav d
 obtain ⟨hs,hgr,hn1,hro,hno⟩:=aN hck
 have hr8:=hs.roots
 have hn5:=hs.nodes
 have hal:=nu hac
 have hms:∀g:G,Agg m NoP (max k d) g.h (.agg [.int .i64 m.grain,a,b]):=fun g=>⟨_,rfl,aC.2 ⟨a,b,rfl,hR.tree (Nat.le_refl _),hN.tree (Nat.le_refl _)⟩⟩
 obtain ⟨rows,r1,r2,r3,r4⟩:=hN.all
 have r1:∀h',ah h' 4 b=some rows:=r1
 have hry:=r4 (by omega)
 have hvi:=ri (l:=S.af m) (h:=hh) (fun c hc=>by have:=dw hs c hc;omega) hh0.1
 have hV:=Kb hck (S.an (S.af m) hh) al
 have hVb:=y9 hck hvi hac hV
 obtain ⟨rk,hrk⟩:=D6 hck
 have hpl:(S.ay m).length=m.nodes.length:=by simp[S.ay]
 rw[wX]
 refine aV At (xs:=[.agg [.int .i64 m.grain,a,b],.int .i64 hh,av']) (by simp only[aH,e,e2,dB 0]) (by simp[oE]) (aU _) (by decide) hd ?_
 simp only[oE,qa,sx,sy,SO.run,↓reduceIte,Nat.reduceEqDiff,Nat.reduceAdd,Nat.reduceLeDiff]
 refine a_ (m9 (Nat.succ_pos d) (hms _) (by omega)) fun r hr=>?_
 simp only[sx,SO.run,↓reduceIte,Nat.reduceEqDiff]
 refine a_ (yX (l:=S.af m) (Nat.succ_pos d) (hr.sl _) (by rw[dI];omega) (fun c hc=>by have:=dw hs c hc;omega) hh0) fun rt hrt=>?_
 simp only[sx,sy,SO.run,↓reduceIte,Nat.reduceEqDiff,hN.len]
 refine ji (b:=1) (n:=m.nodes.length) (by simp[aZ];omega) (by simp[aZ];omega) (by simp[sx]) fun o g1 ho n1 fr1 v1=>?_
 have e0:g1.h.get 0=.cells 3 [[.int .i64 m.grain,a,b]] 0 false false:=by rw[fr1 0 (by simp[sx])];simp[sx]
 simp only[sx,sy,SO.run,↓reduceIte,Nat.reduceEqDiff,Nat.reduceAdd,Nat.reduceLeDiff,e0]
 refine a_ (vP (Nat.succ_pos d) (hms _) (by omega) fun x hx y hy=>by have:=aE (dF hck hx).1 y hy;omega) fun pr hpr=>?_
 simp only[sx,SO.run,↓reduceIte]
 refine a_ (HB (p:=S.ay m) (r:=rk) (Nat.succ_pos d) (hpr.sl _) (by omega) (G0 hck hrk)) fun od hod=>?_
 obtain ⟨L,hL,hod⟩:=hod
 have hod:IT 0 (L.map fun i:Nat=>(i:Int)) od:=hod
 simp only[sx,SO.run,↓reduceIte]
 have hLl:L.length<9223372036854775808:=by have:=hod.lt;simpa using this
 have hrow:∀(X:List Int) (i:Nat),i<X.length->∃y,(X.map ci)[i]?=some (ci y)/\X[i]?=some y:=fun X i hi=>⟨X[i],by rw[List.getElem?_map,List.getElem?_eq_getElem hi];rfl,List.getElem?_eq_getElem hi⟩
 have hsetX:∀(X:List Int) (i w:Nat) (y:Int),i<X.length->(X.set i y)[w]?.getD 0=if i=w then y else X[w]?.getD 0:=fun X i w y hi=>by
  rw[List.getElem?_set]
  by_cases e:i=w
  ·subst e;rw[if_pos rfl,if_pos rfl,if_pos hi];rfl
  ·rw[if_neg e,if_neg e]
 simp only[oC,ou]
 refine eA (m:=L.length) hLl (fun g=>by rw[hod.len];simp) (fun j t df g=>df=[]/\St t [(2,av'),(3,.hptr 0 0 0 0),(7,rt),(8,o)]/\g.h.get 0=.cells 3 [[.int .i64 m.grain,a,b]] 0 false false/\1<=g.nx /\
   ∃X:List Int,X.length=m.nodes.length/\Own g 1 o 1 (X.map ci)/\∀v∈L.take j,X[v]?.getD 0=S.V m (S.an (S.af m) hh) al v)
  ⟨rfl,by simp[sx,St],e0,by omega,List.replicate m.nodes.length 0,by simp,by rw[List.map_replicate];exact ho,by simp⟩ (by simp[sx]) (by simp[sx]) (by decide) (by rintro j t df g v s (rfl | rfl | rfl | rfl | rfl | rfl | rfl)<;>simp[sx,St]) ?_ ?_
 ·rintro j t df g hj ⟨rfl,⟨h2,h3,h7,h8,-⟩,hg,hnx,X,hX,ho,hXv⟩ h10 h9
  obtain ⟨vv,hvv,htk,-⟩:=af hj
  obtain ⟨hvn,hvp⟩:=hL.2 j vv hvv
  rw[hpl] at hvn
  obtain ⟨x,hx,-,hxm⟩:=af hvn
  obtain ⟨hpf,hpn,hpo,hpc⟩:=dF hck hxm
  obtain ⟨row,q1,q2⟩:=r3 vv x hx
  obtain ⟨fa,fb,fc,rfl,hfa,hfb,hfc⟩:=bW.1 q2
  have hlt:vv<rows.length:=by omega
  have hol:j<((L.map fun i:Nat=>(i:Int)).map ci).length:=by simpa using hj
  have hor:((L.map fun i:Nat=>(i:Int)).map ci)[j]?=some (ci (vv:Int)):=by rw[List.getElem?_map,List.getElem?_map,hvv];rfl
  obtain ⟨ac,ha1,ha2⟩:=hrow al vv (by omega)
  have ha3:vv<(al.map ci).length:=by rw[List.length_map];omega
  obtain ⟨xo,hx1,hx2⟩:=hrow X vv (by omega)
  have hx3:vv<(X.map ci).length:=by rw[List.length_map];omega
  have hVx:=hV vv x hx
  rw[S.bu,ha2,Option.getD_some] at hVx
  simp only[sx,SO.run,↓reduceIte,Nat.reduceEqDiff,h2,h9,h10,hod.rows,hol,hor,(ra g.h).ints,ha1,ha3,ci,Option.isSome_some,Option.getD_some]
  refine aw (fun hb=>?_) (fun hb=>?_)
  ·have hge:0<=ac:=by simpa using hb
   rw[if_pos hge] at hVx
   simp only[sx,SO.run,↓reduceIte,Nat.reduceEqDiff,h2,h8,ho.rows,hx3,(ra g.h).ints,ha1,ha3,ci,Option.isSome_some,Option.getD_some]
   refine bp (row:=ci xo) (row':=ci ac) ho hx1 rfl rfl rfl fun g2 o2 n2 f2=>?_
   rw[<-List.map_set] at o2
   simp only[sx,sy,↓reduceIte,Nat.reduceEqDiff,h2,h3,h7,h8,h9,h10,St]
   refine ⟨by rw[f2 0 (fun e=>by have:=(ho.lt e).1;omega),hg],by omega,X.set vv ac,by simpa using hX,o2,fun w hw=>?_⟩
   rw[hsetX X vv w ac (by omega)]
   split
   ·rename_i e;subst e;exact hVx.symm
   ·rename_i e
    rw[htk,List.mem_append,List.mem_singleton] at hw
    rcases hw with hw | hw
    ·exact hXv w hw
    ·exact absurd hw.symm e
  ·have hlt0:¬0<=ac:=by simpa using hb
   rw[if_neg hlt0] at hVx
   simp only[pP,ii]
   have hpar:∀q∈x.frm,X[q.toNat]?.getD 0=S.V m (S.an (S.af m) hh) al q.toNat:=fun q hq=>by
    have:=aE hpf q hq
    exact hXv _ (hvp q.toNat ((Ey hck hx q.toNat).2 (by rw[Int.toNat_of_nonneg this.1];exact hq)))
   have hrtl:(S.an (S.af m) hh).length=m.roots.length:=by simp[S.an,dI]
   refine BW (P:=fun t df g2=>df=[]/\St t [(2,av'),(3,.hptr 0 0 0 0),(7,rt),(8,o),(9,od),(10,.int .i64 (j:Int)),(11,.int .i64 (vv:Int))]/\g2.h.get 0=.cells 3 [[.int .i64 m.grain,a,b]] 0 false false/\1<=g2.nx/\Own g2 1 o 1 (X.map ci) /\
    ∃u12,tat t 12=u12/\Own g2 1 u12 1 ((S.aA x (S.an (S.af m) hh) (S.V m (S.an (S.af m) hh) al)).map ci)) ?_ ?_
   ·simp only[sx,sy,sf,SO.run,h_,↓reduceIte,Nat.reduceEqDiff,h3,h8,hg,r1,hlt,q1,hry,Option.isSome_some,Option.getD_some,bM hry,bQ,hN.refs]
    refine D3 (l:=X) (p:=x.frm) (fun g' fr=>(ho.fr (g':=g') (by have:=fr.1;simp at this;omega) fun i hi=>by have:=fr.2 i (by have:=(ho.lt hi).2;simp;omega);simpa using this).rows) (fun g' _=>(hfa.tree (Nat.le_refl _)).ints) (by have:=ba hpf;omega) (fun z hz=>by have:=aE hpf z hz;omega) fun u g1 hu fr1 lg1=>?_
    simp only[sy] at fr1 lg1
    have hg1:g1.h.get 0=.cells 3 [[.int .i64 m.grain,a,b]] 0 false false:=by rw[fr1.2 0 (by simp<;>omega)];simpa using hg
    have ho1:Own g1 1 o 1 (X.map ci):=ho.fr (by have:=fr1.1;simp at this;omega) fun i hi=>by have:=fr1.2 i (by have:=(ho.lt hi).2;simp;omega);simpa using this
    simp only[sx,sy,sf,SO.run,h_,↓reduceIte,Nat.reduceEqDiff,h3,h7,hg1,r1,hlt,q1,hry,Option.isSome_some,Option.getD_some,bM hry,bQ,hN.refs]
    refine D3 (l:=S.an (S.af m) hh) (p:=x.noise) (fun g' _=>hrt.rows _) (fun g' _=>(hfb.tree (Nat.le_refl _)).ints) (by have:=ba hpn;omega) (fun z hz=>by have:=aE hpn z hz;omega) fun w g2 hw fr2 lg2=>?_
    simp only[sy] at fr2 lg2
    have hg2:g2.h.get 0=.cells 3 [[.int .i64 m.grain,a,b]] 0 false false:=by rw[fr2.2 0 (by simp<;>omega)];simpa using hg1
    have ho2:Own g2 1 o 1 (X.map ci):=ho1.fr (by have:=fr2.1;simp at this;omega) fun i hi=>by have:=fr2.2 i (by have:=(ho1.lt hi).2;simp;omega);simpa using this
    simp only[sx,sy,sf,SO.run,↓reduceIte,Nat.reduceEqDiff]
    have m1:∀i∈g1.lg,1<=i:=fun i hi=>by
     rcases lg1 i hi with h | h
     ·simp at h
     ·omega
    have hu2:Own (aI (dj g2 (g2.lg++(g1.lg++g.lg))) []) 1 u 1 ((x.frm.map fun z=>X[z.toNat]?.getD 0).map ci):=by
     rcases hu with h | ⟨id,ep,lo,p1,p2,rfl,p3⟩
     ·exact .inl h
     ·refine .inr ⟨id,ep,lo,?_,?_,rfl,?_⟩
      ·simp at p1;omega
      ·have:=fr2.1;simp at this ⊢;omega
      ·have:=fr2.2 id (by simp;omega);simp only[bumpG_h,setLog_h] at this ⊢;rw[this,p3]
    have ho3:Own (aI (dj g2 (g2.lg++(g1.lg++g.lg))) []) 1 o 1 (X.map ci):=ho2.fr (by simp) fun i _=>by simp
    have hsep:∀i,vid u=some i->vid o≠some i:=fun i hi e=>by
     have h1:=(hu.lt hi).1
     have h2:=(ho.lt e).2
     simp at h1
     omega
    refine aJ (new:=(x.noise.map fun z=>(S.an (S.af m) hh)[z.toNat]?.getD 0).map ci) hu2 (by have:=hw.rows;simpa using this) (by simp) (by simp[aZ];have:=ba hpf;have:=ba hpn;omega) fun z g3 hz n3 f3 _ l3=>?_
    simp only[sx,sy,sf,SO.run,↓reduceIte,Nat.reduceEqDiff,Nat.reduceLeDiff,h2,h3,h7,h8,h9,h10,St]
    have hnx3:1<=g3.nx:=by simp at n3;omega
    refine ⟨?_,?_,?_,z,rfl,?_⟩
    ·simp only[List.reverse_cons,List.reverse_nil,List.nil_append,List.cons_append]
     refine aX [false,false,false,false,false,false,false,true,false,false,false,false,false,false,false,true,true,false] [(7,8),(7,9),(7,10),(7,11),(7,12),(7,13),(7,14)] (by simp[All2,au,aF,bw]) (by decide) ?_
     rintro p hp x y hx hy
     simp only[List.mem_cons,List.not_mem_nil,or_false] at hp
     rcases hp with rfl | rfl | rfl | rfl | rfl | rfl | rfl<;>(simp at hx hy;subst hx;subst hy;exact uj (b:=1) (fun i hi=>m1 i hi) rfl rfl (by simp[au,aF]) rfl)
    ·have:=f3 0 (by simp<;>omega) (fun e=>by have:=(hu2.lt e).1;omega)
     simp only[bumpG_h,setLog_h] at this ⊢;rw[this,hg2]
    ·exact ho3.fr (by simp at n3 ⊢;omega) fun i hi=>by
      have:=f3 i (ho3.lt hi).2 (fun e=>hsep i e hi)
      simp only[bumpG_h,setLog_h] at this ⊢;exact this
    ·have e:(x.frm.map fun z=>X[z.toNat]?.getD 0).map ci++(x.noise.map fun z=>(S.an (S.af m) hh)[z.toNat]?.getD 0).map ci=(S.aA x (S.an (S.af m) hh) (S.V m (S.an (S.af m) hh) al)).map ci:=by
      rw[S.aA,List.map_append,List.map_congr_left hpar]
     rw[e] at hz
     exact hz.fr (by simp;omega) fun i _=>by simp
   ·rintro t df g2 ⟨rfl,⟨h2,h3,h7,h8,h9,h10,h11,-⟩,hg2,hnx2,ho2,u12,h12,hu12⟩
    have hin:=ju hck hvi (V:=S.V m (S.an (S.af m) hh) al) hxm fun q hq=>by
     have hql:=aE hpf q hq
     have hq2:q.toNat<m.nodes.length:=by omega
     have:=hVb q.toNat _ (List.getElem?_eq_getElem hq2)
     have hc:S.az m q=(m.nodes[q.toNat]).card:=by simp[S.az,List.getElem?_eq_getElem hq2]
     rw[hc];exact this
    have hsb:=b9 hck hxm
    have hvl:(S.aA x (S.an (S.af m) hh) (S.V m (S.an (S.af m) hh) al)).length=(S.ap m x).length:=hin.len
    have hul:∀g,eD .slice u12 g=.val (.int .i64 ((S.ap m x).length:Int)):=fun g=>by rw[bh hu12.rows,List.length_map,hvl]
    simp only[sx,sy,SO.run,↓reduceIte,Nat.reduceEqDiff,Nat.reduceAdd,Nat.reduceLeDiff,h3,h11,hg2]
    refine a_ (tU (Nat.succ_pos d) (hms _) hx hn5 hr8 hpf hpn) fun u15 h15=>?_
    simp only[sx,SO.run,↓reduceIte,Nat.reduceEqDiff,h12,hul,an (show -9223372036854775808<=((S.ap m x).length:Int) - 1 by omega) (show ((S.ap m x).length:Int) - 1<9223372036854775808 by omega)]
    refine Ju (u:=.int .i64 (j:Int)) (act':=av') (w:=od) (o9:=o) (rt:=rt) (iv:=(vv:Int)) hsb.1 hsb.2 hin hu12 h15 (by simp[sx,St,h2,h3,h7,h8,h9,h11,h12]) (by simp[sx,h10]) (by simp[sx]) fun t ht h10=>?_
    obtain ⟨h2,h3,h7,h8,h9,h11,h13,-⟩:=ht
    have hib:=eB hsb.1 hin
    rw[<-hpo] at hib
    obtain ⟨z,hz⟩:=Int.eq_ofNat_of_zero_le hib.1
    have hzl:z<x.out.length:=by omega
    rw[hz] at hVx h13
    have hVx:S.V m (S.an (S.af m) hh) al vv=x.out[z]:=by
     rw[hVx];show (x.out[z]?).getD 0=_
     rw[List.getElem?_eq_getElem hzl];rfl
    obtain ⟨oy,ho1,ho1'⟩:=hrow x.out z hzl
    have hoy:oy=S.V m (S.an (S.af m) hh) al vv:=by
     rw[List.getElem?_eq_getElem hzl] at ho1';injection ho1' with ho1';rw[hVx,ho1']
    have hol3:z<(x.out.map ci).length:=by rw[List.length_map];exact hzl
    simp only[oI,sx,sy,SO.run,↓reduceIte,Nat.reduceEqDiff,h3,h8,h11,h13,hg2,r1,hlt,q1,hry,(hfc.tree (h':=g2.h) (Nat.le_refl _)).ints,ho1,hol3,ho2.rows,hx3,ci,Option.isSome_some,Option.getD_some]
    refine bp (row:=ci xo) (row':=ci oy) ho2 hx1 rfl rfl rfl fun g3 o3 n3 f3=>?_
    rw[<-List.map_set] at o3
    simp only[sx,sy,↓reduceIte,Nat.reduceEqDiff,h2,h3,h7,h8,h9,h10,St]
    refine ⟨by rw[f3 0 (fun e=>by have:=(ho2.lt e).1;omega),hg2],by omega,X.set vv oy,by simpa using hX,o3,fun w hw=>?_⟩
    rw[hsetX X vv w oy (by omega)]
    split
    ·rename_i e;subst e;exact hoy
    ·rename_i e
     rw[htk,List.mem_append,List.mem_singleton] at hw
     rcases hw with hw | hw
     ·exact hXv w hw
     ·exact absurd hw.symm e
 ·rintro t df g ⟨rfl,⟨h2,h3,h7,h8,-⟩,hg,hnx,X,hX,ho,hXv⟩ -
  simp only[pt,sx,SO.run,↓reduceIte,h8]
  have eX:X=S.aR m (S.an (S.af m) hh) al:=by
   refine List.ext_getElem (by simp[S.aR,hX]) fun i h1 h2=>?_
   have:=hXv i (by rw[List.take_length];exact hL.1 i (by omega))
   rw[List.getElem?_eq_getElem h1,Option.getD_some] at this
   rw[this];simp[S.aR]
  rw[eX] at ho
  exact ⟨fun _=>True,ho.ints (by simp[S.aR];omega)⟩
end
end
end Hx
end
section
namespace Hx
open Go
noncomputable section
theorem uA {d k k2:Nat}{g:G}{P P2:Nat->Prop}{v w:AV}{vals e:List Int}(hd:0<d)(hv:SlR P k g.h vals v)(hw:SlR P2 k2 g.h e w)(hl:vals.length=e.length) :
  ak C0 d N.az [v,w] g=.val (.bool (S.bA vals e)):=by
 obtain ⟨v',e1,r1⟩:=be hv d
 obtain ⟨w',e2,r2⟩:=be hw d
 rw[qT]
 refine dE td (xs:=[v',w']) (by simp only[aH,e1,e2]) (by simp[iN]) hd ?_
 simp only[iN,jH,sx,SO.run]
 refine bB e.length hw.1 (fun j t df g=>df=[]/\St t [(0,v'),(1,w')]/\(List.range j).all (S.br vals e)=true) ⟨rfl,by simp[St,sx],rfl⟩ (by simp[sx]) (by decide) (by rintro j t df g v s (rfl | rfl | rfl)<;>simp[St,sx]) ?_ ?_ ?_
 ·rintro j t df g hj ⟨rfl,⟨h0,h1,-⟩,hA⟩ h5
  have n1:eD .slice v' g=.val (.int .i64 (e.length:Int)):=by rw[(r1 .nil).len,hl]
  simp only[sx,sy,SO.run,↓reduceIte,Nat.reduceEqDiff,h0,h1,h5,n1,St,hA]
 ·rintro j t df g hj ⟨rfl,⟨h0,h1,-⟩,hA⟩ h5
  obtain ⟨x,hx,-,-⟩:=af hj
  obtain ⟨y,hy,-,-⟩:=af (l:=vals) (j:=j) (by omega)
  have q1:j<(e.map ci).length:=by simpa using hj
  have q2:j<(vals.map ci).length:=by rw[List.length_map];omega
  have q3:(e.map ci)[j]?=some (ci x):=by rw[List.getElem?_map,hx];rfl
  have q4:(vals.map ci)[j]?=some (ci y):=by rw[List.getElem?_map,hy];rfl
  have hat:S.br vals e j=(decide (x<0) || decide (x=y)):=by simp[S.br,hx,hy]
  have ra:∀h',ah h' 1 v'=some (vals.map ci):=fun h'=>(r1 h').ints
  have rb:∀h',ah h' 1 w'=some (e.map ci):=fun h'=>(r2 h').ints
  by_cases hx0:0<=x
  ·by_cases hxy:x=y
   ·simp only[sx,sy,SO.run,↓reduceIte,Nat.reduceEqDiff,h1,h5,rb,q1,q3,ci,Option.isSome_some,Option.getD_some,hxy,St]
    have hx0:0<=y:=by omega
    simp only[sx,sy,SO.run,↓reduceIte,Nat.reduceEqDiff,hx0,decide_true,h0,h1,h5,ra,rb,q1,q2,q3,q4,ci,Option.isSome_some,Option.getD_some,hxy,Bool.not_true]
    rw[bn,hA,hat];simp[hxy]
   ·simp only[sx,sy,SO.run,↓reduceIte,Nat.reduceEqDiff,h0,h1,h5,ra,rb,q1,q2,q3,q4,ci,Option.isSome_some,Option.getD_some,hx0,hxy,decide_true,decide_false,Bool.not_false]
    have:S.br vals e j=false:=by rw[hat];simp;omega
    rw[S.bA,bL hj this]
  ·simp only[sx,sy,SO.run,↓reduceIte,Nat.reduceEqDiff,h0,h1,h5,rb,q1,q3,ci,Option.isSome_some,Option.getD_some,hx0,decide_false,St]
   rw[bn,hA,hat];simp;omega
 ·rintro t df g ⟨rfl,⟨h0,h1,-⟩,hA⟩
  simp only[jI,sx,SO.run,↓reduceIte]
  rw[S.bA,hA]
theorem wB {d k:Nat}{g:G}{P:Nat->Prop}{w:AV}{m:Causal}(hd:0<d)(hm:Agg m P k g.h w)(hn:m.nodes.length<=5):∃r,ak C0 d N.be [w] g=.val r/\IT 0 (S.au m) r:=by
 obtain ⟨v',e,cs,rfl,hcs⟩:=bP (aQ m) (by decide) d hm
 obtain ⟨a,b,rfl,hR,hN⟩:=aC.1 hcs
 rw[qV]
 obtain ⟨L,hLd⟩:∃L,L=S.au m:=⟨_,rfl⟩
 rw[<-hLd]
 have Ll:L.length=m.nodes.length:=by rw[hLd];simp[S.au]
 have Lget:∀{j:Nat},j<m.nodes.length->L.take (j+1)=L.take j++[-1]:=fun {j} hj=>by
  rw[List.take_add_one,hLd];congr 1;simp[S.au,hj]
 refine aV tB (xs:=[.agg [.int .i64 m.grain,a,b]]) (by simp only[aH,e]) (by simp[iF]) (aU _) (by decide) hd ?_
 simp only[iF,lB,j6,sx,sy,SO.run,↓reduceIte,Nat.reduceAdd]
 refine bB m.nodes.length (by omega) (fun j t df g=>df=[]/\St t [(1,.hptr 0 0 0 0)]/\g.h.get 0=.cells 3 [[.int .i64 m.grain,a,b]] 0 false false/\1<=g.nx/\∃u,tat t 3=u/\Own g 1 u 1 ((L.take j).map ci))
  ⟨rfl,by simp[sx,St],by simp[sx],by simp[sx],_,rfl,.inl ⟨by simp[sx],rfl⟩⟩ (by simp[sx]) (by decide) (by rintro j t df g v s (rfl | rfl | rfl)<;>simp[sx,St]) ?_ ?_ ?_
 ·rintro j t df g hj ⟨rfl,⟨h1,-⟩,e0,hnx,u,h3,hu⟩ h4
  simp only[sx,sy,SO.run,↓reduceIte,Nat.reduceEqDiff,h1,h4,e0,hN.len,St]
  exact ⟨hnx,u,h3,hu⟩
 ·rintro j t df g hj ⟨rfl,⟨h1,-⟩,e0,hnx,u,h3,hu⟩ h4
  have hL:=Lget hj
  simp only[sx,sy,SO.run,↓reduceIte,Nat.reduceEqDiff,h3]
  refine aJ (new:=[ci (-1)]) (hu.step (Fr.new _ _)) (by simp[sx,sy,ci]) (by simp[Ll]<;>omega) (by simp[aZ,Ll]<;>omega) fun v2 g2 hv2 n2 f2 _ l2=>?_
  simp only[sx,sy,SO.run,↓reduceIte,Nat.reduceEqDiff,h1,h4,St]
  refine ⟨?_,?_,_,rfl,?_⟩
  ·rw[f2 0 (by simp) (fun e=>by have:=(hu.lt e).1;omega),G.new_h,aq _ _ _ (by omega),e0]
  ·simp at n2;omega
  ·rw[hL]
   simpa [ci] using hv2
 ·rintro t df g ⟨rfl,-,e0,hnx,u,h3,hu⟩
  rw[List.take_of_length_le (by simp[Ll])] at hu
  simp only[jW,sx,SO.run,↓reduceIte,h3]
  exact ⟨_,hu.ints (by simp[Ll];omega)⟩
end
end Hx
end
section
namespace Hx
open Go
noncomputable section
theorem uo {d k0 k1 k2 k3:Nat}{g:G}{P P1 P2 P3:Nat->Prop}{v el act q:AV}{m:Causal}{ee al ql:List Int}(hd:0<d)(hm:Agg m P k0 g.h v)(he:SlR P1 k1 g.h ee el)(ha:SlR P2 k2 g.h al act)(hq:SlR P3 k3 g.h ql q)
  (hck:S.am m=true) (hec:S.ax m ee=true) (hac:S.ax m al=true) (hqc:S.ax m ql=true) :
  ak C0 d N.ay [v,el,act,q] g=.val (.tup [.int .i64 (S.aK m ee),.int .i64 (S.a7 m ee al ql)]):=by
 have key:∃r,ak C0 d N.ay [v,el,act,q] g=.val r/\sJ (One (S.aK m ee)) (One (S.a7 m ee al ql)) NoP 0 .nil r:=by
  obtain ⟨v',e0,cs,rfl,hcs⟩:=bP (aQ m) (by decide) d hm
  obtain ⟨a,b,rfl,hR,hN⟩:=aC.1 hcs
  have hms:∀h,Agg m NoP (max k0 d) h (.agg [.int .i64 m.grain,a,b]):=fun h=>⟨_,rfl,aC.2 ⟨a,b,rfl,hR.tree (Nat.le_refl _),hN.tree (Nat.le_refl _)⟩⟩
  obtain ⟨el',e1,r1⟩:=be he d
  obtain ⟨act',e2,r2⟩:=be ha d
  obtain ⟨q',e3,r3⟩:=be hq d
  have hs:=(aN hck).1
  have hn5:=hs.nodes
  have hhb:=pQ hck
  have hna:=v6 hs
  obtain ⟨hid,hh⟩:=Int.eq_ofNat_of_zero_le (show 0<=S.ak m by omega)
  have hh:S.ak m=(hid:Int):=hh
  have hht:(S.ak m).toNat=hid:=by omega
  rw[qC]
  refine aV tj (xs:=[.agg [.int .i64 m.grain,a,b],el',act',q']) (by simp only[aH,e0,e1,e2,e3]) (by simp[iT]) (dC (m:=1) (aU _) (aU _) (by decide) (by decide)) (by decide) hd ?_
  have hhid:∀g,ak C0 (d+1) N.a_ [.agg [.int .i64 m.grain,a,b]] g=.val (.int .i64 (hid:Int)):=fun g=>by rw[F3 (Nat.succ_pos d) (hms _) hs,hh]
  simp only[iT,kJ,ke,jC,sx,sy,SO.run,↓reduceIte,Nat.reduceEqDiff,Nat.reduceAdd]
  refine bB hid (by omega) (fun j t df g=>df=[]/\St t [(1,el'),(2,act'),(3,q'),(4,.hptr 0 0 0 0),(10,.int .i64 (S.ae m (S.mw m (S.au m) ee) j)),(11,.int .i64 (S.ae m (S.cw m ee al ql) j))]/\g.h.get 0=.cells 3 [[.int .i64 m.grain,a,b]] 0 false false)
   ⟨rfl,by simp[sx,St,S.ae],by simp[sx]⟩ (by simp[sx]) (by decide) (by rintro j t df g v s (rfl | rfl | rfl)<;>simp[sx,St]) ?_ ?_ ?_
  ·rintro j t df g hj ⟨rfl,⟨h1,h2,h3,h4,h10,h11,-⟩,f0⟩ h12
   simp only[sx,sy,SO.run,↓reduceIte,Nat.reduceEqDiff,Nat.reduceAdd,Nat.reduceLeDiff,h1,h2,h3,h4,h10,h11,h12,f0,hhid,St]
  ·rintro j t df g hj ⟨rfl,⟨h1,h2,h3,h4,h10,h11,-⟩,f0⟩ h12
   have hjh:0<=(j:Int)/\(j:Int)<9223372036854775808:=⟨Int.natCast_nonneg j,by omega⟩
   have lrun:∀l:List Int,(S.aR m (S.an (S.af m) (j:Int)) l).length=m.nodes.length:=fun l=>by simp[S.aR]
   have wt:∀g,ak C0 (d+1) N.aM [.agg [.int .i64 m.grain,a,b],.int .i64 (j:Int)] g=.val (.int .i64 (S.aO m (j:Int))):=fun g=>F4 (Nat.succ_pos d) (hms _) hck hjh
   have b1:=dm hck (S.mw m (S.au m) ee) (j+1)
   have b2:=dm hck (S.cw m ee al ql) (j+1)
   simp only[sx,sy,SO.run,↓reduceIte,Nat.reduceEqDiff,Nat.reduceAdd,Nat.reduceLeDiff,h4,h12,f0]
   refine a_ (wB (Nat.succ_pos d) (hms _) hn5) fun nn hnn=>?_
   simp only[sx,SO.run,↓reduceIte,Nat.reduceEqDiff]
   refine a_ (DJ (P:=NoP) (Pa:=NoP) (ka:=0) (hh:=(j:Int)) (Nat.succ_pos d) (hms _) (hnn.sl _) hck hna hjh) fun r hr=>?_
   have hmat:∀g,ak C0 (d+1) N.az [r,el'] g=.val (.bool (S.mw m (S.au m) ee j)):=fun g=>uA (P:=NoP) (P2:=NoP) (k:=0) (Nat.succ_pos d) (hr.sl _) (r1 _) (by rw[lrun,(nu hec).1])
   simp only[sx,sy,SO.run,↓reduceIte,Nat.reduceEqDiff,h1,hmat]
   cases hmw:S.mw m (S.au m) ee j with
   | false =>
    have w1:S.ae m (S.cw m ee al ql) (j+1)=S.ae m (S.cw m ee al ql) j:=by rw[S.ae,S.cw,hmw];simp
    have w2:S.ae m (S.mw m (S.au m) ee) (j+1)=S.ae m (S.mw m (S.au m) ee) j:=by rw[S.ae,hmw];simp
    simp only[sx,sy,↓reduceIte,Nat.reduceEqDiff,w1,w2,h1,h2,h3,h4,h10,h11,h12,St]
    first | done | exact f0 | exact ⟨f0,trivial⟩
   | true =>
    have w2:S.ae m (S.mw m (S.au m) ee) (j+1)=S.ae m (S.mw m (S.au m) ee) j+S.aO m (j:Int):=by rw[S.ae,hmw];simp
    simp only[sx,sy,SO.run,↓reduceIte,Nat.reduceEqDiff,Nat.reduceAdd,Nat.reduceLeDiff,h2,h4,h10,h12,f0,wt,<-w2,
     an (show -9223372036854775808<=S.ae m (S.mw m (S.au m) ee) (j+1) by omega) (show S.ae m (S.mw m (S.au m) ee) (j+1)<9223372036854775808 by omega)]
    refine a_ (DJ (P:=NoP) (Pa:=NoP) (hh:=(j:Int)) (Nat.succ_pos d) (hms _) (r2 _) hck hac hjh) fun z hz=>?_
    have hmat2:∀g,ak C0 (d+1) N.az [z,q'] g=.val (.bool (S.mw m al ql j)):=fun g=>uA (P:=NoP) (P2:=NoP) (k:=0) (Nat.succ_pos d) (hz.sl _) (r3 _) (by rw[lrun,(nu hqc).1])
    simp only[sx,SO.run,↓reduceIte,Nat.reduceEqDiff,h3,hmat2]
    cases hmw2:S.mw m al ql j with
    | true =>
     have w1:S.ae m (S.cw m ee al ql) (j+1)=S.ae m (S.cw m ee al ql) j+S.aO m (j:Int):=by rw[S.ae,S.cw,hmw,hmw2];simp
     simp only[sx,sy,SO.run,↓reduceIte,Nat.reduceEqDiff,Nat.reduceAdd,Nat.reduceLeDiff,h1,h2,h3,h4,h11,h12,f0,wt,<-w1,
      an (show -9223372036854775808<=S.ae m (S.cw m ee al ql) (j+1) by omega) (show S.ae m (S.cw m ee al ql) (j+1)<9223372036854775808 by omega),St]
    | false =>
     have w1:S.ae m (S.cw m ee al ql) (j+1)=S.ae m (S.cw m ee al ql) j:=by rw[S.ae,S.cw,hmw,hmw2];simp
     simp only[sx,sy,↓reduceIte,Nat.reduceEqDiff,w1,h1,h2,h3,h4,h11,h12,f0,St]
  ·rintro t df g ⟨rfl,⟨h1,h2,h3,h4,h10,h11,-⟩,f0⟩
   simp only[jL,sx,sy,SO.run,↓reduceIte,Nat.reduceEqDiff,h10,h11]
   refine ⟨NoP,_,_,rfl,aS.2 ?_,aS.2 ?_⟩
   ·rw[S.aK,hht]
   ·rw[S.a7,hht]
 obtain ⟨r,h1,a,b,rfl,h2,h3⟩:=key
 have h2:=aS.1 h2
 have h3:=aS.1 h3
 injection h2 with h2;injection h3 with h3
 rw[h1,h2,h3]
end
end Hx
end
section
namespace Hx
open Go
noncomputable section
def S.bQ (m:Causal)(u:Nat)(x:Int):List Int:=(S.au m).set u x
end
end Hx
end
section
namespace Hx
open Go
noncomputable section
theorem Ka {g g':G}(hn:g.nx<=g'.nx)(h:∀i,i<g.nx->g'.h.get i=g.h.get i):Fr g g':=⟨hn,h⟩
theorem uw {C:Cfg}{d:Nat}{rd:Option Nat}{body:SC}{c ti k B b:Nat}{Q:QT}{m:Nat}{lim:Int}(hlim:lim=(m:Int))(hm:m<9223372036854775808)(J:Nat->PT){t:T}{df:List ADf}{g:G}
  (h0:J 0 t df g) (hi:tat t ti=.int .i64 0) (hc:c≠ti/\b≠B)
  (hJ:∀j t df g v s,s=c\/s=ti\/s=k->J j t df g->J j (fT t s v) df g)
  (step:∀j t df g,j<m->J j t df g->tat t ti=.int .i64 (j:Int)->wp C d rd body (kR (fun t df g=>J (j+1) t df g/\tat t ti=.int .i64 (j:Int)) b Q) t df g)
  (fin:∀t df g,J m t df g->Q (.exit B) t df g) :
  wpL (wp C d rd (.seq (.ops [o c (.bin .lss (.t ti) (.k (.int .i64 lim)))]) (.seq (.cond (.t c) .skip (.exit B)) (.seq (.blk b body) (.ops [o k (.bin .add (.t ti) (.k (.int .i64 1))),o ti (.mv (.t k))]))))) Q t df g:=by
 subst hlim
 obtain ⟨c1,c5⟩:=hc
 refine gt (fun n t df g=>∃j:Nat,n=m - j/\j<=m/\J j t df g/\tat t ti=.int .i64 (j:Int)) m ⟨0,by omega,by omega,h0,hi⟩ ?_
 rintro n t df g ⟨j,rfl,hj,hjj,h1⟩
 simp only[sx,SO.run,↓reduceIte,h1]
 refine ⟨fun hq=>?_,fun hq=>?_⟩
 ·have hlt:j<m:=by simpa using hq
  simp only[sx]
  refine cM _ (step j _ df g hlt (hJ _ _ _ _ _ _ (.inl rfl) hjj) (by simp only[mG];rw[if_neg (Ne.symm c1),h1])) fun e t df g h=>?_
  have key:J (j+1) t df g/\tat t ti=.int .i64 (j:Int)->wp C d rd (.ops [o k (.bin .add (.t ti) (.k (.int .i64 1))),o ti (.mv (.t k))])
    (kL (fun n t df g=>∃j:Nat,n=m - j/\j<=m/\J j t df g/\tat t ti=.int .i64 (j:Int)) (m - j) Q) t df g:=by
   rintro ⟨a1,a2⟩
   simp only[sx,SO.run,a2,↓reduceIte]
   refine ⟨_,?_,j+1,rfl,by omega,hJ _ _ _ _ _ _ (.inr (.inl rfl)) (hJ _ _ _ _ _ _ (.inr (.inr rfl)) a1),?_⟩
   ·omega
   ·rw[an (by omega) (by omega)];rfl
  cases e with
  | norm=>exact key h
  | ret=>exact h
  | exit x =>
   rw[kV] at h
   rw[jn]
   split at h
   ·rename_i e;rw[if_pos e];exact key h
   ·rename_i e;rw[if_neg e];exact h
 ·have:j=m:=by simp at hq;omega
  subst this
  simp only[sx]
  exact fin _ _ _ (hJ _ _ _ _ _ _ (.inl rfl) hjj)
section
variable {m:Causal}{c1 c2 l w c9 v35 ls v48:AV}{al:List Int}{hid kk:Int}{p:Nat}
end
end
end Hx
end
section
namespace Hx
open Go
noncomputable section
theorem Fw {d:Nat}{g:G}{v act q:AV}{m:Causal}{al ql:List Int}{P1 P2:Nat->Prop}(hd:0<d)(hm:∀h,Agg m NoP 0 h v)(ha:SlR P1 0 g.h al act)(hq:SlR P2 0 g.h ql q) :
  ak C0 d N.aA [v,act,q] g=.val (.tup [.agg [.int .i64 (S.aY m al ql).1,.int .i64 (S.aY m al ql).2],.int .i64 (S.aw m [al,ql])]):=by
 obtain ⟨a',e1,r1⟩:=be ha d
 obtain ⟨q',e2,r2⟩:=be hq d
 have h:=CW (d:=d) (g:=G.empty) (kk:=max 0 d) hd (hm _) (r1 .nil) (r2 .nil)
 rw[mb] at h ⊢
 exact rW (by simp only[aH,cj d (hm _),e1,e2]) (by simp only[aH,cj d (hm _),cG d (r1 _),cG d (r2 _)]) h
theorem CM {d:Nat}{g:G}{v el act q:AV}{m:Causal}{ee al ql:List Int}{P0 P1 P2:Nat->Prop}(hd:0<d)(hm:∀h,Agg m NoP 0 h v)(he:SlR P0 0 g.h ee el)(ha:SlR P1 0 g.h al act)(hq:SlR P2 0 g.h ql q) :
  ak C0 d N.aO [v,el,act,q] g=.val (.tup [.agg [.int .i64 (S.aW m ee al ql).1,.int .i64 (S.aW m ee al ql).2],.int .i64 (S.aM m ee al ql)]):=by
 obtain ⟨e',e0,r0⟩:=be he d
 obtain ⟨a',e1,r1⟩:=be ha d
 obtain ⟨q',e2,r2⟩:=be hq d
 have h:=BL (d:=d) (g:=G.empty) (kk:=max 0 d) hd (hm _) (r0 .nil) (r1 .nil) (r2 .nil)
 rw[kM] at h ⊢
 exact rW (by simp only[aH,cj d (hm _),e0,e1,e2]) (by simp only[aH,cj d (hm _),cG d (r0 _),cG d (r1 _),cG d (r2 _)]) h
theorem re (l:List Int)(j:Nat)(x:Int):(l.map ci).set j (ci x)=(l.set j x).map ci:=by rw[List.map_set]
end
end Hx
end
section
namespace Hx
open Go
noncomputable section
def L2 (nn sv qv u w e:AV)(c c8:Nat):List (Nat×AV):=[(5,.hptr 2 0 0 0),(6,nn),(7,sv),(12,.hptr c 0 0 0),(16,u),(18,.hptr c8 0 0 0),(19,e),(20,w),(120,qv)]
end
end Hx
end
section
namespace Hx
open Go
noncomputable section
theorem D0 {x y:Nat}(hy:0<y):cO .rem (.int .i64 (x:Int)) (.int .i64 (y:Int))=.val (.int .i64 ((x % y:Nat):Int)):=by
 rw[bC .i64 (Int.natCast_nonneg x) (by omega),<-Int.natCast_emod]
end
end Hx
end
section
namespace Hx
open Go
noncomputable section
def S.bw:Nat->Nat->List Int
 | 0,_=>[]
 | f+1,n=>if n=0 then [] else ((n % 10000:Nat):Int)::S.bw f (n / 10000)
def S.dg (n:Nat):List Int:=S.bw 12 n
theorem AZ:∀{f n:Nat},n<10000 ^ f->S.bw (f+1) n=S.bw f n
 | 0,n,h=>by
  have:n=0:=by simp at h;exact h
  subst this;rfl
 | f+1,n,h=>by
  have ih:=AZ (f:=f) (n:=n / 10000) (by rw[Nat.pow_succ] at h;exact (Nat.div_lt_iff_lt_mul (by decide)).2 h)
  rw[S.bw]
  by_cases h0:n=0
  ·rw[if_pos h0,S.bw,if_pos h0]
  ·rw[if_neg h0,ih]
   conv=>rhs;rw[S.bw,if_neg h0]
theorem jp {n:Nat}(h0:n≠0)(h:n<1000000000000000000000000000000000000000000000000):S.dg n=((n % 10000:Nat):Int)::S.dg (n / 10000):=by
 have e:=AZ (f:=12) (n:=n) h
 unfold S.dg
 rw[<-e]
 rw[S.bw,if_neg h0]
theorem lz:S.dg 0=[]:=rfl
theorem El:∀(f n:Nat),(S.bw f n).length<=f
 | 0,_=>Nat.le_refl _
 | f+1,n=>by
  rw[S.bw]
  split
  ·simp
  ·have:=El f (n / 10000);simp;omega
theorem iP (n:Nat):(S.dg n).length<=12:=El 12 n
theorem Jm {x:Nat}(h:x<9223372036854775808):unV .neg (.int .i64 (x:Int))=.val (.int .i64 (-(x:Int))):=by
 have e:unV .neg (.int .i64 (x:Int))=.val (.int .i64 (IntKind.wrap .i64 (-(x:Int)))):=by
  cases x with
  | zero=>rfl
  | succ n =>
   show orV (mj (Op.unary .neg (.int .i64 (.ofNat (n+1)))))=_
   unfold mj Op.unary
   rfl
 rw[e,an (by omega) (by omega)]
theorem vE {x y:Nat}(hx:x<9223372036854775808)(hy:0<y):cO .quo (.int .i64 (x:Int)) (.int .i64 (y:Int))=.val (.int .i64 ((x / y:Nat):Int)):=by
 have hle:x / y<=x:=Nat.div_le_self _ _
 rw[pI .i64 (Int.natCast_nonneg x) (by omega),<-Int.natCast_ediv]
 generalize x / y=z at hle
 rw[an (by omega) (by omega)]
theorem tS {d:Nat}{g:G}{n:Nat}(hd:0<d)(hn:n<9223372036854775808):∃r,ak C0 d N.aL [.int .i64 (n:Int)] g=.val r/\IT 0 (S.dg n) r:=by
 rw[sP]
 refine aV u6 (xs:=[.int .i64 (n:Int)]) (by simp only[aH,dB 0]) (by simp[jS]) (aU _) (by decide) hd ?_
 simp only[jS,sx,SO.run]
 refine gt (fun k t df g=>df=[]/\k<9223372036854775808/\St t [(0,.int .i64 (k:Int))]/\∃u L,tat t 3=u/\Own g 0 u 1 ((L:List Int).map ci)/\L++S.dg k=S.dg n) n
  ⟨rfl,hn,by simp[sx,St],_,[],rfl,.inl ⟨by simp[sx],rfl⟩,rfl⟩ ?_
 rintro k t df g ⟨rfl,hk,⟨h0,-⟩,u,L,h3,hu,hL⟩
 have hln:L.length+(S.dg k).length=(S.dg n).length:=by rw[<-hL,List.length_append]
 have hl5:=iP n
 simp only[lH,sx,SO.run,↓reduceIte,h0]
 refine aw (fun hq=>?_) (fun hq=>?_)
 ·have hk0:k≠0:=by simp at hq;omega
  have hst:=jp hk0 (by omega)
  have m1:=D0 (x:=k) (y:=10000) (by decide)
  have m2:=vE (x:=k) (y:=10000) hk (by decide)
  have hm:=Nat.mod_lt k (show 0<10000 by decide)
  have hng:=Jm (x:=k % 10000) (by omega)
  have hmx:max ((k % 10000:Nat):Int) (-((k % 10000:Nat):Int))=((k % 10000:Nat):Int):=by omega
  have hq1:k / 10000<k:=Nat.div_lt_self (by omega) (by decide)
  generalize k % 10000=r at *
  generalize k / 10000=q at *
  have m1:cO .rem (.int .i64 (k:Int)) (.int .i64 10000)=.val (.int .i64 (r:Int)):=m1
  have m2:cO .quo (.int .i64 (k:Int)) (.int .i64 10000)=.val (.int .i64 (q:Int)):=m2
  simp only[sx,sy,SO.run,↓reduceIte,Nat.reduceEqDiff,h0,h3,m1,hng,hmx]
  have hll:L.length<(S.dg n).length:=by rw[hst] at hln;simp at hln;omega
  refine aJ (new:=[ci (r:Int)]) (hu.step (Fr.new _ _)) (by simp[sx,sy,ci]) (by simp<;>omega) (by simp[aZ]<;>omega) fun v2 g2 hv2 n2 f2 _ l2=>?_
  simp only[sx,sy,SO.run,↓reduceIte,Nat.reduceEqDiff,h0,m2,St]
  refine ⟨q,hq1,by omega,?_,v2,L++[(r:Int)],?_,?_,?_⟩
  ·simp[sx]
  ·simp[sx]
  ·simpa using hv2
  ·rw[List.append_assoc,List.singleton_append,<-hst,hL]
 ·have hk0:k=0:=by simp at hq;omega
  subst hk0
  rw[lz,List.append_nil] at hL
  subst hL
  simp only[kU,sx,SO.run,↓reduceIte,Nat.reduceEqDiff,h3]
  exact ⟨_,hu.ints (by omega)⟩
end
end Hx
end
section
namespace Hx
open Go
noncomputable section
def S.ah:List Int->Int
 | []=>0
 | x::l=>x+10000*S.ah l
theorem D7 {a b:Nat}(h:a<=b):(10000:Int) ^ a<=10000 ^ b:=by
 rw[show (10000:Int)=((10000:Nat):Int) from rfl,<-Int.natCast_pow,<-Int.natCast_pow]
 exact Int.ofNat_le.2 (Nat.pow_le_pow_right (by decide) h)
theorem CB {P:Nat->Prop}(h0:P 0)(hs:∀n,n≠0->P (n / 10000)->P n):∀n,P n:=by
 intro n
 induction n using Nat.strongRecOn with
 | ind n ih =>
  by_cases h:n=0
  ·subst h;exact h0
  ·exact hs n h (ih _ (Nat.div_lt_self (by omega) (by decide)))
theorem nm:∀n:Nat,n<1000000000000000000000000000000000000000000000000->S.ah (S.dg n)=(n:Int):=by
 refine CB (fun _=>rfl) fun n h0 ih hn=>?_
 have hl:=Nat.div_le_self n 10000
 rw[jp h0 hn,S.ah,ih (by omega)]
 have:=Nat.div_add_mod n 10000
 omega
theorem qJ:∀n:Nat,n<1000000000000000000000000000000000000000000000000->∀x∈S.dg n,0<=x/\x<10000:=by
 refine CB (fun _ x hx=>by simp[lz] at hx) fun n h0 ih hn x hx=>?_
 have hl:=Nat.div_le_self n 10000
 have hm:=Nat.mod_lt n (show 0<10000 by decide)
 rw[jp h0 hn] at hx
 rcases List.mem_cons.1 hx with rfl | hx
 ·omega
 ·exact ih (by omega) x hx
theorem kn:∀(l r:List Int),S.ah (l++r)=S.ah l+10000 ^ l.length*S.ah r
 | [],r=>by simp[S.ah]
 | x::l,r=>by
  rw[List.cons_append,S.ah,S.ah,kn l r,List.length_cons,Int.pow_succ,Int.mul_add,<-Int.mul_assoc,Int.mul_comm 10000 (10000 ^ l.length)]
  omega
theorem jG:∀{l:List Int},(∀x∈l,0<=x/\x<10000)->0<=S.ah l/\S.ah l<10000 ^ l.length
 | [],_=>by simp[S.ah]
 | x::l,h=>by
  have h1:=jG (l:=l) fun y hy=>h y (by simp[hy])
  have h2:=h x (by simp)
  rw[S.ah,List.length_cons,Int.pow_succ]
  omega
theorem EF:∀{l:List Int},(∀x∈l,0<=x/\x<10000)->l.getLast?≠some 0->l.length<=12->S.dg (S.ah l).toNat=l
 | [],_,_,_=>rfl
 | x::l,h,hz,hl=>by
  have h2:=h x (by simp)
  have hr:∀y∈l,0<=y/\y<10000:=fun y hy=>h y (by simp[hy])
  have hb:=jG hr
  have hb2:=jG h
  have hz2:l.getLast?≠some 0:=by
   cases l with
   | nil=>simp
   | cons y l=>rw[List.getLast?_cons_cons] at hz;exact hz
  have ih:=EF hr hz2 (by simp at hl;omega)
  have hne:S.ah (x::l)≠0:=by
   intro e
   rw[S.ah] at e
   have e1:x=0:=by omega
   have e2:S.ah l=0:=by omega
   rw[e2] at ih
   have:l=[]:=ih.symm
   subst this;subst e1
   exact hz rfl
  have hlt:(S.ah (x::l)).toNat<1000000000000000000000000000000000000000000000000:=by
   have:(10000:Int) ^ (x::l).length<=10000 ^ 12:=D7 hl
   have:(10000:Int) ^ 12=1000000000000000000000000000000000000000000000000:=by decide
   omega
  rw[jp (by omega) hlt]
  have ed:S.ah (x::l)=x+10000*S.ah l:=rfl
  have ed:S.ah (x::l)=x+10000*S.ah l:=rfl
  have e:(S.ah (x::l)).toNat=x.toNat+10000*(S.ah l).toNat:=by rw[ed];omega
  rw[e]
  have e1:(x.toNat+10000*(S.ah l).toNat) % 10000=x.toNat:=by omega
  have e2:(x.toNat+10000*(S.ah l).toNat) / 10000=(S.ah l).toNat:=by omega
  rw[e1,e2,ih,Int.toNat_of_nonneg h2.1]
end
end Hx
end
section
namespace Hx
open Go
noncomputable section
def S.bF (l:List Int):Nat->List Int
 | 0=>[]
 | j+1=>if l[j]?.getD 0=0 then S.bF l j else l.take (j+1)
def S.bI (l:List Int):List Int:=S.bF l l.length
end
end Hx
end
section
namespace Hx
open Go
noncomputable section
theorem Eb {n:Nat}(h0:n≠0)(h:n<1000000000000000000000000000000000000000000000000):0<(S.dg n).length:=by rw[jp h0 h];simp
theorem Jt:∀n:Nat,n<1000000000000000000000000000000000000000000000000->(S.dg n).getLast?≠some 0:=by
 refine CB (fun _=>by simp[lz]) fun n h0 ih hn=>?_
 have hl:=Nat.div_le_self n 10000
 have ih:=ih (by omega)
 rw[jp h0 hn]
 by_cases hz:n / 10000=0
 ·rw[hz,lz]
  simp only[List.getLast?_singleton]
  have:=Nat.div_add_mod n 10000
  intro e
  injection e with e
  omega
 ·have h1:=Eb hz (by omega)
  obtain ⟨y,l,e⟩:∃y l,S.dg (n / 10000)=y::l:=by
   cases h:S.dg (n / 10000) with
   | nil=>rw[h] at h1;simp at h1
   | cons y l=>exact ⟨y,l,rfl⟩
  rw[e] at ih ⊢
  rw[List.getLast?_cons_cons]
  exact ih
theorem qw:∀(i n:Nat),n<1000000000000000000000000000000000000000000000000->(S.dg n)[i]?.getD 0=((n / 10000 ^ i % 10000:Nat):Int)
 | 0,n,hn=>by
  by_cases h0:n=0
  ·subst h0;rfl
  ·rw[jp h0 hn];simp
 | i+1,n,hn=>by
  have hl:=Nat.div_le_self n 10000
  by_cases h0:n=0
  ·subst h0;simp[lz]
  ·rw[jp h0 hn,List.getElem?_cons_succ,qw i _ (by omega),Nat.pow_succ,Nat.mul_comm,<-Nat.div_div_eq_div_mul]
theorem Eg:∀(i n:Nat),n<1000000000000000000000000000000000000000000000000->(S.dg n).drop i=S.dg (n / 10000 ^ i)
 | 0,n,hn=>by simp
 | i+1,n,hn=>by
  have hl:=Nat.div_le_self n 10000
  by_cases h0:n=0
  ·subst h0;simp[lz]
  ·rw[jp h0 hn,List.drop_succ_cons,Eg i _ (by omega),Nat.pow_succ,Nat.mul_comm,<-Nat.div_div_eq_div_mul]
theorem sn {n:Nat}(h:n<1000000000000000000000000000000000000000000000000):n<10000 ^ (S.dg n).length:=by
 have h1:=(jG (qJ n h)).2
 rw[nm n h] at h1
 exact Int.ofNat_lt.1 (by rw[Int.natCast_pow];exact h1)
theorem AB:∀{l:List Int},(∀x∈l,0<=x/\x<10000)->l.getLast?≠some 0->0<l.length->10000 ^ (l.length - 1)<=S.ah l
 | [],_,_,h=>by simp at h
 | [x],h,hz,_=>by
  have:=h x (by simp)
  have:x≠0:=fun e=>hz (by rw[e];rfl)
  simp only[S.ah,List.length_singleton,Nat.sub_self,Int.pow_zero]
  omega
 | x::y::l,h,hz,_=>by
  have h1:=AB (l:=y::l) (fun z hz=>h z (by simp[hz])) (by rw[List.getLast?_cons_cons] at hz;exact hz) (by simp)
  have:=h x (by simp)
  rw[S.ah]
  simp only[List.length_cons,Nat.add_sub_cancel] at h1 ⊢
  rw[Int.pow_succ]
  omega
theorem JT {n:Nat}(h:n<1000000000000000000000000000000000000000000000000)(h0:n≠0):10000 ^ ((S.dg n).length - 1)<=n:=by
 have h1:=AB (qJ n h) (Jt n h) (Eb h0 h)
 rw[nm n h] at h1
 exact Int.ofNat_le.1 (by rw[Int.natCast_pow];exact h1)
theorem t6 {a b:Nat}(ha:a<1000000000000000000000000000000000000000000000000)(hb:b<1000000000000000000000000000000000000000000000000)(h:(S.dg a).length<(S.dg b).length):a<b:=by
 have h1:=sn ha
 have h0:b≠0:=fun e=>by subst e;simp[lz] at h
 have h2:=JT hb h0
 have h3:10000 ^ (S.dg a).length<=10000 ^ ((S.dg b).length - 1):=Nat.pow_le_pow_right (by decide) (by omega)
 omega
theorem E6 {a b:Nat}(ha:a<1000000000000000000000000000000000000000000000000)(hb:b<1000000000000000000000000000000000000000000000000)(h:a<=b):(S.dg a).length<=(S.dg b).length :=
 Nat.le_of_not_lt fun e=>by have:=t6 hb ha e;omega
def S.bf (a b:Nat):Int:=if a<b then -1 else if a=b then 0 else 1
theorem G6 {a b i:Nat}(h:a / 10000 ^ (i+1)=b / 10000 ^ (i+1))(h2:a / 10000 ^ i % 10000<b / 10000 ^ i % 10000):a<b:=by
 rw[Nat.pow_succ,<-Nat.div_div_eq_div_mul,<-Nat.div_div_eq_div_mul] at h
 refine Nat.lt_of_not_le fun e=>?_
 have:=Nat.div_le_div_right (c:=10000 ^ i) e
 have h3:=Nat.div_add_mod (a / 10000 ^ i) 10000
 have h4:=Nat.div_add_mod (b / 10000 ^ i) 10000
 omega
theorem KB {a b i:Nat}(h:a / 10000 ^ (i+1)=b / 10000 ^ (i+1))(h2:a / 10000 ^ i % 10000=b / 10000 ^ i % 10000):a / 10000 ^ i=b / 10000 ^ i:=by
 rw[Nat.pow_succ,<-Nat.div_div_eq_div_mul,<-Nat.div_div_eq_div_mul] at h
 have h3:=Nat.div_add_mod (a / 10000 ^ i) 10000
 have h4:=Nat.div_add_mod (b / 10000 ^ i) 10000
 omega
theorem zE (l:List Int):∀{j:Nat},j<=l.length->∃m,m<=j/\S.bF l j=l.take m/\S.ah (l.take m)=S.ah (l.take j)/\(l.take m).getLast?≠some 0
 | 0,_=>⟨0,Nat.le_refl _,by simp[S.bF],rfl,by simp⟩
 | j+1,h=>by
  obtain ⟨x,hx,ht,-⟩:=af (l:=l) (j:=j) (by omega)
  by_cases h0:x=0
  ·obtain ⟨m,h1,h2,h3,h4⟩:=zE l (j:=j) (by omega)
   refine ⟨m,by omega,?_,?_,h4⟩
   ·rw[S.bF,hx,Option.getD_some,if_pos h0,h2]
   ·rw[h3,ht,kn,h0];simp[S.ah]
  ·refine ⟨j+1,Nat.le_refl _,?_,rfl,?_⟩
   ·rw[S.bF,hx,Option.getD_some,if_neg h0]
   ·rw[ht,List.getLast?_concat];simpa using h0
theorem xJ {l:List Int}{n:Nat}(h:∀x∈l,0<=x/\x<10000)(hv:S.ah l=(n:Int))(hn:n<1000000000000000000000000000000000000000000000000):S.bI l=S.dg n:=by
 obtain ⟨m,h1,h2,h3,h4⟩:=zE l (Nat.le_refl l.length)
 rw[List.take_length,hv] at h3
 have hr:∀x∈l.take m,0<=x/\x<10000:=fun x hx=>h x (List.mem_of_mem_take hx)
 have hlen:(l.take m).length<=12:=by
  refine Nat.le_of_not_lt fun e=>?_
  have h5:=AB hr h4 (by omega)
  rw[h3] at h5
  have h6:(10000:Int) ^ 12<=10000 ^ ((l.take m).length - 1):=D7 (by omega)
  have:(10000:Int) ^ 12=1000000000000000000000000000000000000000000000000:=by decide
  omega
 have h7:=EF hr h4 hlen
 rw[h3] at h7
 rw[S.bI,h2,<-h7]
 rfl
end
end Hx
end
