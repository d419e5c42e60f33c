/- A part of the proof: an interpreter over abstract values, shown right against the model, and what the functions of the chapter compute on it. -/
import Derived.Test.YtaebcalnodgpnaaHx11
set_option linter.unusedVariables false
set_option linter.unusedSimpArgs false
set_option linter.unnecessarySimpa false
section
namespace Hx
open Go
noncomputable section
def S.bG (cards:List Int):Nat->List Int->List (List Int)
 | 0,_=>[]
 | f+1,v=>v::(if (S.bi cards v).2 then S.bG cards f (S.bi cards v).1 else [])
def S.bD (cards:List Int):List (List Int):=S.bG cards (S.aa cards).toNat (List.replicate cards.length 0)
theorem vZ {cards:List Int}(h:∀c∈cards,1<=c):S.bh cards (List.replicate cards.length 0):=by
 refine ⟨by simp,fun i c v hc hv=>?_⟩
 rw[List.getElem?_replicate] at hv
 split at hv
 ·injection hv with hv;subst hv
  have:=h c (List.mem_of_getElem? hc)
  omega
 ·cases hv
theorem wh {cards:List Int}:∀{f:Nat} {v:List Int},S.bh cards v->∀x∈S.bG cards f v,S.bh cards x
 | 0,v,h,x,hx=>by simp[S.bG] at hx
 | f+1,v,h,x,hx=>by
  simp only[S.bG,List.mem_cons] at hx
  rcases hx with rfl | hx
  ·exact h
  ·split at hx
   ·rename_i hn;exact wh (y8 h hn).2 x hx
   ·simp at hx
theorem FE {cards:List Int}(h:∀c∈cards,1<=c):∀x∈S.bD cards,S.bh cards x:=wh (vZ h)
theorem sX:∀{cards:List Int},S.aT cards (List.replicate cards.length 0)=0
 | []=>rfl
 | c::cs=>by simp only[List.length_cons,List.replicate_succ,S.aT,Int.zero_mul,Int.zero_add,sX]
theorem Kx {d k:Nat}{g:G}{P:Nat->Prop}{v:AV}{cards:List Int}(hd:0<d)(hv:SlR P k g.h cards v)(hc:∀c∈cards,1<=c/\c<4294967296)(hn:cards.length<=64)(hp:S.aa cards<1048576) :
  ∃r,ak C0 d N.br [v] g=.val r/\One (S.bD cards) NoP 0 .nil r:=by
 obtain ⟨v',e,r1⟩:=be hv d
 rw[wc]
 refine aV AE (xs:=[v']) (by simp only[aH,e]) (by simp[oY]) (aU _) (by decide) hd ?_
 simp only[oY,sx,SO.run,↓reduceIte,Nat.reduceEqDiff,(r1 .nil).len]
 refine ji (b:=0) (n:=cards.length) (by simp[aZ];omega) (by simp[aZ];omega) (by simp) fun w g1 hw n1 fr1 v1=>?_
 simp only[sx,SO.run,↓reduceIte]
 refine gt (fun n t df g=>df=[]/\tat t 0=v'/\∃u done,tat t 3=u/\OwnT g 0 0 u done /\
   ((tat t 5=.bool false/\n=0/\S.bD cards=done/\(done.length:Int)<=S.aa cards) \/
    (tat t 5=.bool true/\∃(vals:List Int) (y:AV),tat t 4=y/\SlR (Els g 0 u) 0 g.h vals y/\S.bh cards vals/\n=(S.aa cards - S.aT cards vals).toNat/\(done.length:Int)=S.aT cards vals/\S.bD cards=done++S.bG cards n vals)))
  (S.aa cards).toNat ⟨rfl,by simp[sx],.nils,[],by simp[sx],.nils,.inr ⟨by simp[sx],List.replicate cards.length 0,w,by simp[sx],?_,vZ (fun c h=>(hc c h).1),by rw[sX];simp,by rw[sX];rfl,rfl⟩⟩ ?_
 ·refine Own.sl (α:=Int) hw (by simp;omega) ?_ fun i hi=>⟨Nat.zero_le _,(hw.lt hi).2,by simp[vid]⟩
  have:=All2.repl (R:=Rp.rp (Els g1 0 .nils) 0 g1.h) (a:=(0:Int)) (b:=[AV.int .i64 0]) (aS.2 rfl) cards.length
  exact this
 ·rintro n t df g ⟨rfl,h0,u,done,h3,hu,⟨h5,rfl,hall,hdl⟩ | ⟨h5,vals,y,h4,hy,hco,hnn,hdl,hall⟩⟩
  ·simp only[jU,sx,SO.run,↓reduceIte,h5]
   simp only[oK,sx,SO.run,↓reduceIte,Nat.reduceEqDiff,h3]
   rw[hall]
   exact ⟨_,u,rfl,hu.sl (by omega)⟩
  ·simp only[jU,sx,SO.run,↓reduceIte,Nat.reduceEqDiff,h3,h4,h5]
   have yc:y.cells=[y]/\y.isTup=false:=by
    have:=hy.2;unfold SlV at this
    split at this<;>first | exact ⟨rfl,rfl⟩ | exact this.elim
   have hrb:=wY hco
   have hlen:vals.length=cards.length:=hco.1.symm
   rw[sF 1 [.nils] y g (by rw[yc.1];rfl) yc.2,yc.1]
   simp only[sx,SO.run,↓reduceIte,Nat.reduceEqDiff]
   have hy1:Rp.rp (Els (g.new (.cells 1 [[y]] 0 false false)) 0 u) 0 (g.new (.cells 1 [[y]] 0 false false)).h vals [y] :=
    Rp.mono (show Rp.rp (Els g 0 u) 0 g.h vals [y] from ⟨y,rfl,hy⟩) (fun i hi=>⟨⟨hi.1,by have:=hi.2.1;simp;omega,hi.2.2⟩,by have:=hi.2.1;rw[G.new_h,aq _ _ _ (by omega)]⟩) (Nat.le_refl _)
   refine AT (α:=List Int) (b:=0) (k:=0) (l:=done) (y:=vals) (cs:=[y]) (hu.step (Fr.new _ _)) (by simp[sy,Rp.sz]) hy1 (Nat.zero_le _) (by simp[aZ];omega) fun v2 g2 hv2 n2 f2 vid2 lg2=>?_
   simp only[sx,SO.run,↓reduceIte,Nat.reduceEqDiff,h0,h4]
   have hy2:Rp.rp (fun _=>True) 0 g2.h vals [y] :=
    Rp.mono hy1 (fun i hi=>⟨trivial,by rw[f2 i hi.2.1 hi.2.2]⟩) (Nat.le_refl _)
   obtain ⟨y',hyy,hy2⟩:=hy2
   injection hyy with hyy;subst hyy
   refine a_ (Ib (Nat.succ_pos d) (r1 g2.h) hy2 (by omega) (by omega) fun x hx=>?_) fun r hr=>?_
   ·obtain ⟨i,hi,e⟩:=List.mem_iff_getElem.1 hx
    obtain ⟨c,hcc⟩:∃c,cards[i]?=some c:=⟨_,List.getElem?_eq_getElem (by omega)⟩
    have:=hco.2 i c x hcc (by rw[List.getElem?_eq_getElem hi,e])
    have:=hc c (List.mem_of_getElem? hcc)
    omega
   ·obtain ⟨ra,rb,rfl,hra,hrb2⟩:=hr
    obtain ⟨rw',e',hra⟩:=hra
    injection e' with e';subst e'
    have e'':=jo.1 hrb2
    injection e'' with e''
    subst e''
    simp only[sx,sy,SO.run,↓reduceIte,Nat.reduceEqDiff]
    obtain ⟨f,hf⟩:∃f,n=f+1:=⟨n - 1,by omega⟩
    rw[hf,S.bG] at hall
    cases hnx:(S.bi cards vals).2 with
    | false =>
     rw[hnx,if_neg (by decide)] at hall
     refine ⟨0,by omega,h0,v2,done++[vals],rfl,hv2,.inl ⟨rfl,rfl,hall,by simp;omega⟩⟩
    | true =>
     rw[hnx,if_pos rfl] at hall
     obtain ⟨k1,k2⟩:=y8 hco hnx
     refine ⟨f,by omega,h0,v2,done++[vals],rfl,hv2,.inr ⟨rfl,_,_,rfl,?_,k2,by omega,by simp;omega,by rw[hall,List.append_assoc];rfl⟩⟩
     have:=Rp.mono (P':=Els g2 0 v2) (h':=g2.h) (show Rp.rp NoP 0 .nil (S.bi cards vals).1 [ra] from ⟨ra,rfl,hra⟩) (fun i hi=>hi.elim) (Nat.le_refl 0)
     obtain ⟨z,ez,q⟩:=this
     injection ez with ez;subst ez;exact q
end
end Hx
end
section
namespace Hx
open Go
noncomputable section
theorem Ft {d:Nat}{g:G}{l:AV}{us:List UInt8}{K:AV->G->Prop}{D:ADf->Prop}(hl:SlR NoP 0 .nil us l)
  (kk:∀g',g'.h.get g.nx=.cells 2 [[l,.int .i64 0]] 0 false false->g'.nx=g.nx+1->FrW g.nx g g'->K (.hptr g.nx 0 0 0) g') :
  (ak C0 d N.bw [l] g).sat K g D:=by
 have lc:l.cells=[l]/\l.isTup=false:=by
  have:=hl.2;unfold SlV at this
  split at this<;>first | exact ⟨rfl,rfl⟩ | exact this.elim
 rw[rH]
 refine pT uT (by simp[jy]) ?_
 simp only[jy,sx,sy,SO.run,↓reduceIte,Nat.reduceEqDiff,Nat.reduceAdd,Nat.reduceLeDiff,lc.1,lc.2]
 refine kk _ ?_ ?_ ?_
 ·simp[H.get_put]
 ·simp
 ·exact FrW.new _ (Nat.le_refl _)
end
end Hx
end
section
namespace Hx
open Go
noncomputable section
abbrev zh:Type:=UInt8×UInt8×UInt8×List UInt8
abbrev Ak:Type:=UInt8×List zh×List (UInt8×UInt8)×List UInt8×List UInt8
abbrev jg:Type:=UInt8×UInt8×UInt8×Int
theorem He {P:Nat->Prop}{k:Nat}{h:H}{x:zh}{cs:List AV}:Rp.rp P k h x cs↔∃a,cs=[u8v x.1,u8v x.2.1,u8v x.2.2.1,a]/\SlR P k h x.2.2.2 a:=by
 constructor
 ·rintro ⟨c1,c2,rfl,h1,c3,c4,rfl,h2,c5,c6,rfl,h3,⟨a,rfl,h4⟩⟩
  rw[cF.1 h1,cF.1 h2,cF.1 h3];exact ⟨a,rfl,h4⟩
 ·rintro ⟨a,rfl,h4⟩
  exact ⟨[_],[_,_,a],rfl,cF.2 rfl,[_],[_,a],rfl,cF.2 rfl,[_],[a],rfl,cF.2 rfl,⟨a,rfl,h4⟩⟩
theorem KF {P:Nat->Prop}{k:Nat}{h:H}{x:UInt8×UInt8}{cs:List AV}:Rp.rp P k h x cs↔cs=[u8v x.1,u8v x.2]:=by
 constructor
 ·rintro ⟨c1,c2,rfl,h1,h2⟩
  rw[cF.1 h1,cF.1 h2];rfl
 ·rintro rfl
  exact ⟨[_],[_],rfl,cF.2 rfl,cF.2 rfl⟩
theorem zi {P:Nat->Prop}{k:Nat}{h:H}{x:Ak}{cs:List AV}:Rp.rp P k h x cs↔∃a b c e,cs=[u8v x.1,a,b,c,e]/\SlR P k h x.2.1 a/\SlR P k h x.2.2.1 b/\SlR P k h x.2.2.2.1 c/\SlR P k h x.2.2.2.2 e:=by
 constructor
 ·rintro ⟨c1,c2,rfl,h1,c3,c4,rfl,⟨a,rfl,ha⟩,c5,c6,rfl,⟨b,rfl,hb⟩,c7,c8,rfl,⟨c,rfl,hc⟩,⟨e,rfl,he⟩⟩
  rw[cF.1 h1];exact ⟨a,b,c,e,rfl,ha,hb,hc,he⟩
 ·rintro ⟨a,b,c,e,rfl,ha,hb,hc,he⟩
  exact ⟨[_],[a,b,c,e],rfl,cF.2 rfl,[a],[b,c,e],rfl,⟨a,rfl,ha⟩,[b],[c,e],rfl,⟨b,rfl,hb⟩,[c],[e],rfl,⟨c,rfl,hc⟩,⟨e,rfl,he⟩⟩
theorem B_ {P:Nat->Prop}{k:Nat}{h:H}{x:jg}{cs:List AV}:Rp.rp P k h x cs↔cs=[u8v x.1,u8v x.2.1,u8v x.2.2.1,.int .i64 x.2.2.2]:=by
 constructor
 ·rintro ⟨c1,c2,rfl,h1,c3,c4,rfl,h2,c5,c6,rfl,h3,h4⟩
  rw[cF.1 h1,cF.1 h2,cF.1 h3,aS.1 h4];rfl
 ·rintro rfl
  exact ⟨[_],[_,_,_],rfl,cF.2 rfl,[_],[_,_],rfl,cF.2 rfl,[_],[_],rfl,cF.2 rfl,aS.2 rfl⟩
end
end Hx
end
section
namespace Hx
open Go
noncomputable section
theorem zQ {C:Cfg}{nt d:Nat}{rd:Option Nat}{c:Code}{t:T}{df:List ADf}{g:G}{Q:QT}(h:wp C d rd (d9 C nt c) Q t df g):((I C).code nt d rd c t df g).sat Q:=by
 rw[GQ];exact J5 _ _ _ _ _ h
theorem Gk {C:Cfg}{d id nt:Nat}{t:T}{ps:List Nat}{assign body:Code}{a b:SC}{dfr:Nat}{args:List AV}{g:G}{K:AV->G->Prop}{D:ADf->Prop}{t':T}
  (hg:g.h.get id=.loop nt t ps assign body dfr .ready none) (ha:d9 C nt assign=a) (hb:d9 C nt body=b) (hp:eo t nt ps args=some t')
  (h:wp C d (some id) a (fun e t1 df g1=>e=.norm/\df=[]/\g1=g /\
   wp C d (some id) b (fun e _ df g2=>e=.norm/\df=[]/\g2.h.get id=.loop nt t ps assign body dfr .busy none/\K (.bool true) (g2.put id (.loop nt t ps assign body dfr .ready none))) t1 [] (g.put id (.loop nt t ps assign body dfr .busy none))) t' [] g) :
  (dQ (I C) d id args g).sat K g D:=by
 subst ha;subst hb
 unfold dQ
 rw[show g.get id=_ from hg]
 dsimp only
 rw[hp]
 dsimp only
 have h1:=zQ h
 cases hc:(I C).code nt d (some id) assign t' [] g with
 | fail=>rw[hc] at h1;exact h1.elim
 | ok e t1 df g1 =>
  rw[hc] at h1
  obtain ⟨rfl,rfl,rfl,h2⟩:=h1
  dsimp only
  rw[show g1.get id=_ from hg]
  dsimp only
  have h3:=zQ h2
  cases hc2:(I C).code nt d (some id) body t1 [] (g1.put id (.loop nt t ps assign body dfr .busy none)) with
  | fail=>rw[hc2] at h3;exact h3.elim
  | ok e t2 df2 g2 =>
   rw[hc2] at h3
   obtain ⟨rfl,rfl,h4,h5⟩:=h3
   dsimp only
   rw[show g2.get id=_ from h4]
   exact h5
theorem FZ {C:Cfg}{d nt:Nat}{f:Od}{ps:List Nat}{a b:SC}{Q:QT}{t:T}{df:List ADf}{g:G}{fn:Nat}{first cap:List AV}{s:SF}(hv:f.get t=.clo fn first cap)(he:C.ext fn=none)(hs:nFn C fn=some s)
  (hl:(first++(.yld (g.nx+1)::cap)).length<=s.nt)
  (h:∀assign body,d9 C nt assign=a->d9 C nt body=b ->
   wp C d none s.code (fnQ C d s.res fun _ g2=>∃nt' t' ps' as' bd' dfr',g2.h.get (g.nx+1)=.loop nt' t' ps' as' bd' dfr' .ready none /\
    Q .norm t (.mark g.nx::df) (g2.put (g.nx+1) (.loop nt' t' ps' as' bd' dfr' .exhausted none)))
    (co 0 (first++(.yld (g.nx+1)::cap)) .nil) [] ((g.new (.dfr true)).new (.loop nt t ps assign body g.nx .ready none))) :
  wp C d none (.rng nt f ps a b) Q t df g:=by
 intro assign body ha hb
 have h:=nh hs hl (h assign body ha hb)
 show (cg C (I C) nt d none (f.get t) ps assign body t (.mark g.nx::df) g.nx (g.new (.dfr true))).sat Q
 rw[hv]
 unfold cg
 dsimp only
 rw[he]
 show (match (I C).call d fn (first++(AV.yld (g.nx+1)::cap)) ((g.new (.dfr true)).new (.loop nt t ps assign body g.nx .ready none)) with
  | .ok _ g2=>c_ (I C) nt d none (g.nx+1) t (.mark g.nx::df) g2
  | .fail=>.fail).sat Q
 cases hc:(I C).call d fn (first++(AV.yld (g.nx+1)::cap)) ((g.new (.dfr true)).new (.loop nt t ps assign body g.nx .ready none)) with
 | fail=>rw[hc] at h;exact h.elim
 | ok v g2 =>
  rw[hc] at h
  obtain ⟨nt',t',ps',as',bd',dfr',h1,h2⟩:=h
  show (c_ (I C) nt d none (g.nx+1) t (.mark g.nx::df) g2).sat Q
  unfold c_
  rw[show g2.get (g.nx+1)=_ from h1]
  exact h2
end
end Hx
end
section
namespace Hx
open Go
noncomputable section
def S.aQ (l:List Int)(h:Int):Int:=l.foldr (fun c q=>q / c) h
def S.aE (l:List Int)(h:Int)(i:Nat):Int:=S.aQ (l.drop (i+1)) h % l[i]?.getD 1
def S.an (l:List Int)(h:Int):List Int:=(List.range l.length).map (S.aE l h)
theorem vG {l:List Int}{h:Int}(hl:∀c∈l,0<c)(hh:0<=h):0<=S.aQ l h/\S.aQ l h<=h:=by
 induction l with
 | nil=>exact ⟨hh,Int.le_refl _⟩
 | cons c l ih =>
  obtain ⟨a,b⟩:=ih fun x hx=>hl x (by simp[hx])
  have hc:=hl c (by simp)
  show 0<=S.aQ l h / c/\S.aQ l h / c<=h
  exact ⟨Int.ediv_nonneg a (by omega),Int.le_trans (Int.ediv_le_self _ a) b⟩
theorem yX {d k:Nat}{g:G}{P:Nat->Prop}{v:AV}{l:List Int}{h:Int}(hd:0<d)(hv:SlR P k g.h l v)(hl:l.length<=1000)(hc:∀c∈l,0<c)(hh:0<=h/\h<9223372036854775808) :
  ∃r,ak C0 d N.aS [v,.int .i64 h] g=.val r/\IT 0 (S.an l h) r:=by
 obtain ⟨v',e,r1⟩:=be hv d
 rw[sK]
 refine aV uP (xs:=[v',.int .i64 h]) (by simp only[aH,e,dB 0]) (by simp[ku]) (aU _) (by decide) hd ?_
 have vl:∀g,eD .slice v' g=.val (.int .i64 (l.length:Int)):=fun g=>(r1 .nil).len g
 simp only[ku,sx,SO.run,↓reduceIte,Nat.reduceEqDiff,vl]
 refine ji (b:=0) (n:=l.length) (by simp[aZ];omega) (by simp[aZ];omega) (by simp) fun u g1 hu n1 f1 v1=>?_
 simp only[sx,SO.run,↓reduceIte,Nat.reduceEqDiff,vl,an (show -9223372036854775808<=(l.length:Int) - 1 by omega) (show (l.length:Int) - 1<9223372036854775808 by omega)]
 refine j4 (m:=l.length) (by omega) (fun j t df g=>df=[]/\St t [(0,v'),(1,.int .i64 (S.aQ (l.drop j) h)),(5,u)]/\Own g 0 u 1 (((List.range l.length).map fun i=>if j<=i then S.aE l h i else 0).map ci))
  ⟨rfl,by simp[sx,St,S.aQ],?_⟩ (by simp[sx]) (by decide) (by rintro j t df g v s (rfl | rfl | rfl | rfl | rfl)<;>simp[sx,St]) ?_ ?_
 ·have:((List.range l.length).map fun i=>if l.length<=i then S.aE l h i else 0).map ci=List.replicate l.length [AV.int .i64 0]:=by
   refine List.ext_getElem (by simp) fun i h1 h2=>?_
   have:i<l.length:=by simpa using h1
   simp[ci];omega
  rw[this];exact hu
 ·rintro j t df g hj ⟨rfl,⟨h0,h1,h5,-⟩,ho⟩ h6
  obtain ⟨c,hcj,-,hm⟩:=af (l:=l) (j:=j) hj
  have hc0:=hc c hm
  obtain ⟨q0,q1⟩:=vG (l:=l.drop (j+1)) (h:=h) (fun x hx=>hc x (List.mem_of_mem_drop hx)) hh.1
  have hlt:j<(((List.range l.length).map fun i=>if j+1<=i then S.aE l h i else 0).map ci).length:=by simp;omega
  have hrow:(((List.range l.length).map fun i=>if j+1<=i then S.aE l h i else 0).map ci)[j]?=some (ci 0):=by
   rw[List.getElem?_map,List.getElem?_map,List.getElem?_range hj];show some (ci (if j+1<=j then _ else 0))=_;rw[if_neg (by omega)]
  have hcl:(l.map ci)[j]?=some (ci c):=by rw[List.getElem?_map,hcj];rfl
  have hlm:j<(l.map ci).length:=by simpa using hj
  have hdj:S.aQ (l.drop j) h=S.aQ (l.drop (j+1)) h / c:=by
   have:l.drop j=c::l.drop (j+1):=by
    rw[List.drop_eq_getElem_cons hj];congr 1
    rw[List.getElem?_eq_getElem hj] at hcj;injection hcj
   rw[this];rfl
  have hdig:S.aE l h j=S.aQ (l.drop (j+1)) h % c:=by rw[S.aE,hcj];rfl
  simp only[sx,SO.run,↓reduceIte,Nat.reduceEqDiff,h0,h1,h5,h6,ho.rows,hlt,(r1 g.h).ints,hcl,hlm,ci,Option.isSome_some,Option.getD_some,bC .i64 q0 hc0]
  refine bp (row:=ci 0) (row':=ci (S.aE l h j)) ho hrow rfl rfl (by rw[hdig];rfl) fun g2 o2 n2 f2=>?_
  have e2:(((List.range l.length).map fun i=>if j+1<=i then S.aE l h i else 0).map ci).set j (ci (S.aE l h j))=((List.range l.length).map fun i=>if j<=i then S.aE l h i else 0).map ci:=by
   refine List.ext_getElem (by simp) fun i h1 h2=>?_
   rw[List.getElem_set]
   simp only[List.getElem_map,List.getElem_range]
   split
   ·rename_i hi;subst hi;rw[if_pos (Nat.le_refl _)]
   ·rename_i hi
    by_cases hji:j+1<=i
    ·rw[if_pos hji,if_pos (by omega)]
    ·rw[if_neg hji,if_neg (by omega)]
  rw[e2] at o2
  simp only[sx,sy,SO.run,↓reduceIte,Nat.reduceEqDiff,h0,h1,h5,h6,(r1 g2.h).ints,hcl,hlm,ci,Option.isSome_some,Option.getD_some,pI .i64 q0 hc0,<-hdj,St]
  have hb:=vG (l:=l.drop j) (h:=h) (fun x hx=>hc x (List.mem_of_mem_drop hx)) hh.1
  refine ⟨?_,o2⟩
  rw[an (by omega) (by omega)]
 ·rintro t df g ⟨rfl,⟨h0,h1,h5,-⟩,ho⟩
  simp only[li,sx,SO.run,↓reduceIte,h5]
  have:((List.range l.length).map fun i=>if 0<=i then S.aE l h i else 0)=S.an l h:=by simp[S.an]
  rw[this] at ho
  exact ⟨fun _=>True,ho.ints (by simp[S.an];omega)⟩
end
end Hx
end
section
namespace Hx
open Go
noncomputable section
def S.aC:List Int->List Int->Int
 | _::cs,v::vs=>v*S.aa cs+S.aC cs vs
 | _,_=>0
def InC (cards vals:List Int):Prop:=All2 (fun c v=>(0:Int)<=v/\v<c) cards vals
theorem eB:∀{cards vals:List Int},(∀c∈cards,1<=c/\c<=4)->InC cards vals->0<=S.aC cards vals/\S.aC cards vals<S.aa cards
 | [],[],_,_=>⟨Int.le_refl _,by decide⟩
 | c::cs,v::vs,hc,h=>by
  obtain ⟨a,b⟩:=eB (cards:=cs) (vals:=vs) (fun x hx=>hc x (by simp[hx])) h.2
  obtain ⟨p1,-⟩:=bD (l:=cs) fun x hx=>hc x (by simp[hx])
  have hv:=h.1
  rw[bV]
  show 0<=v*S.aa cs+S.aC cs vs/\v*S.aa cs+S.aC cs vs<c*S.aa cs
  have h1:0<=v*S.aa cs:=Int.mul_nonneg hv.1 (by omega)
  have h2:(v+1)*S.aa cs<=c*S.aa cs:=Int.mul_le_mul_of_nonneg_right (by omega) (by omega)
  rw[Int.add_mul,Int.one_mul] at h2
  omega
 | [],_::_,_,h=>h.elim
 | _::_,[],_,h=>h.elim
theorem InC.drop:∀{cards vals:List Int} (j:Nat),InC cards vals->InC (cards.drop j) (vals.drop j)
 | _,_,0,h=>h
 | [],[],j+1,_=>trivial
 | _::_,_::_,j+1,h=>InC.drop j h.2
 | [],_::_,_,h=>h.elim
 | _::_,[],_,h=>h.elim
theorem InC.len {cards vals:List Int}(h:InC cards vals):vals.length=cards.length:=(All2.len h).symm
end
end Hx
end
section
namespace Hx
open Go
noncomputable section
theorem FO {l:List Int}(hc:∀c∈l,1<=c/\c<=4)(hl:l.length<=13):S.bH l=S.aa l:=by
 have pw:∀n,n<=13->(4:Int) ^ n<=67108864:=fun n hn=>by
  have:=ch hn
  have e:(4:Int) ^ 13=67108864:=by decide
  omega
 have key:∀j,j<=l.length->S.bH (l.take j)=S.aa (l.take j):=by
  intro j
  induction j with
  | zero=>intro _;rfl
  | succ j ih =>
   intro hj
   obtain ⟨x,hx,htk,hm⟩:=af (l:=l) (j:=j) (by omega)
   have ih:=ih (by omega)
   have hb:=bD (l:=l.take (j+1)) fun y hy=>hc y (List.mem_of_mem_take hy)
   have:=pw (l.take (j+1)).length (by simp;omega)
   rw[htk] at hb this ⊢
   rw[cV] at hb ⊢
   show S.bH (l.take j++[x])=_
   unfold S.bH at ih ⊢
   rw[List.foldl_append,ih]
   show IntKind.wrap .i64 (S.aa (l.take j)*x)=_
   rw[an (by omega) (by omega)]
 have:=key l.length (Nat.le_refl _)
 rwa [List.take_length] at this
theorem F3 {d k:Nat}{g:G}{P:Nat->Prop}{v:AV}{m:Causal}(hd:0<d)(hm:Agg m P k g.h v)(hs:S.Small m) :
  ak C0 d N.a_ [v] g=.val (.int .i64 (S.ak m)):=by
 obtain ⟨v',e,cs,rfl,hc⟩:=bP (aQ m) (by decide) d hm
 obtain ⟨a,b,rfl,hR,hN⟩:=aC.1 hc
 have hms:∀g:G,Agg m NoP (max k d) g.h (.agg [.int .i64 m.grain,a,b]):=fun g=>⟨_,rfl,aC.2 ⟨a,b,rfl,hR.tree (Nat.le_refl _),hN.tree (Nat.le_refl _)⟩⟩
 have hr8:=hs.roots
 rw[su]
 refine ie uX (xs:=[.agg [.int .i64 m.grain,a,b]]) (by simp only[aH,e]) (by simp[jX]) hd ?_
 simp only[jX,mN,sx,sy,SO.run,↓reduceIte,Nat.reduceEqDiff,Nat.reduceAdd,Nat.reduceLeDiff]
 refine a_ (m9 (Nat.succ_pos d) (hms _) (by omega)) fun r hr=>?_
 simp only[sx,SO.run,↓reduceIte]
 have hri:∀h:H,SlR NoP 0 h (m.roots.map fun r=>(r.length:Int)) r:=fun h=>hr.sl h
 have hi:∀h:H,rE h r:=fun h=>tH (hri h).ints
 have hil:∀h:H,iC h r=m.roots.map fun r=>(r.length:Int):=fun h=>by
  unfold iC;rw[(hri h).ints];simp[ci,Function.comp_def]
 rw[IY (Nat.succ_pos d) (hi _) (by rw[hil];simp;omega),hil,FO (fun c hc=>by obtain ⟨x,hx,rfl⟩:=List.mem_map.1 hc;have:=hs.len x hx;omega) (by simp;omega)]
 simp only[sx,SO.run,↓reduceIte]
 rfl
end
end Hx
end
section
namespace Hx
open Go
noncomputable section
def S.af (m:Causal):List Int:=m.roots.map fun r=>(r.length:Int)
def S.aN (m:Causal)(h:Int)(r:Nat):Int:=(m.roots[r]?.getD [])[(S.aE (S.af m) h r).toNat]?.getD 0
def S.aO (m:Causal)(h:Int):Int:=S.aa ((List.range m.roots.length).map (S.aN m h))
theorem rM:∀{l:List Int},(∀x∈l,0<=x/\x<=12)->0<=S.aa l/\S.aa l<=12 ^ l.length
 | [],_=>⟨by decide,by decide⟩
 | a::l,h=>by
  obtain ⟨h1,h2⟩:=rM (l:=l) fun x hx=>h x (by simp[hx])
  obtain ⟨h3,h4⟩:=h a (by simp)
  rw[bV,List.length_cons,Int.pow_succ,Int.mul_comm (12 ^ l.length)]
  exact ⟨Int.mul_nonneg h3 h1,Int.mul_le_mul h4 h2 h1 (by decide)⟩
theorem lw {l:List Int}(hl:∀c∈l,0<c){h:Int}(hh:0<=h){i:Nat}(hi:i<l.length):0<=S.aE l h i/\S.aE l h i<l[i]:=by
 have hc:=hl _ (List.getElem_mem hi)
 unfold S.aE
 rw[List.getElem?_eq_getElem hi]
 exact ⟨Int.emod_nonneg _ (by show l[i]≠0;omega),Int.emod_lt_of_pos _ hc⟩
theorem dw {m:Causal}(hs:S.Small m):∀c∈S.af m,1<=c/\c<=4:=fun c hc=>by
 obtain ⟨x,hx,rfl⟩:=List.mem_map.1 hc;have:=hs.len x hx;omega
theorem dI (m:Causal):(S.af m).length=m.roots.length:=by simp[S.af]
theorem EW {m:Causal}(hck:S.am m=true){h:Int}(hh:0<=h){r:Nat}(hr:r<m.roots.length):0<=S.aN m h r/\S.aN m h r<=12:=by
 obtain ⟨hs,hgr,hn1,hro,hno⟩:=aN hck
 simp only[S.be,Bool.and_eq_true] at hro
 have hx:=List.all_eq_true.1 hro.1 m.roots[r] (List.getElem_mem hr)
 simp only[S.aJ,Bool.and_eq_true] at hx
 have hw:=hx.1.2
 have hb:=lw (l:=S.af m) (fun c hc=>by have:=dw hs c hc;omega) hh (i:=r) (by rw[dI];exact hr)
 simp only[S.af,List.getElem_map] at hb
 obtain ⟨n,hn⟩:=Int.eq_ofNat_of_zero_le hb.1
 have hn':S.aE (S.af m) h r=(n:Int):=hn
 have hl:n<m.roots[r].length:=by unfold S.af at hn';omega
 unfold S.aN
 rw[hn',List.getElem?_eq_getElem hr,Option.getD_some,Int.toNat_natCast,List.getElem?_eq_getElem hl,Option.getD_some]
 have:=List.all_eq_true.1 hw _ (List.getElem_mem hl)
 simp at this
 omega
theorem KV {n:Nat}(h:n<=8):(12:Int) ^ n<=429981696:=by
 match n,h with
 | 0,_=>decide
 | 1,_=>decide
 | 2,_=>decide
 | 3,_=>decide
 | 4,_=>decide
 | 5,_=>decide
 | 6,_=>decide
 | 7,_=>decide
 | 8,_=>decide
 | n+9,h=>omega
theorem pj {m:Causal}(hck:S.am m=true){h:Int}(hh:0<=h){l:List Nat}(hl:∀r∈l,r<m.roots.length)(hn:l.length<=8):0<=S.aa (l.map (S.aN m h))/\S.aa (l.map (S.aN m h))<=429981696:=by
 have:=rM (l:=l.map (S.aN m h)) fun x hx=>by obtain ⟨r,hr,rfl⟩:=List.mem_map.1 hx;exact EW hck hh (hl r hr)
 rw[List.length_map] at this
 exact ⟨this.1,Int.le_trans this.2 (KV hn)⟩
theorem F4 {d k:Nat}{g:G}{P:Nat->Prop}{v:AV}{m:Causal}{h:Int}(hd:0<d)(hm:Agg m P k g.h v)(hck:S.am m=true)(hh:0<=h/\h<9223372036854775808) :
  ak C0 d N.aM [v,.int .i64 h] g=.val (.int .i64 (S.aO m h)):=by
 obtain ⟨v',e,cs,rfl,hc⟩:=bP (aQ m) (by decide) d hm
 obtain ⟨a,b,rfl,hR,hN⟩:=aC.1 hc
 obtain ⟨hs,hgr,hn1,hro,hno⟩:=aN hck
 have hms:∀g:G,Agg m NoP (max k d) g.h (.agg [.int .i64 m.grain,a,b]):=fun g=>⟨_,rfl,aC.2 ⟨a,b,rfl,hR.tree (Nat.le_refl _),hN.tree (Nat.le_refl _)⟩⟩
 have hr8:=hs.roots
 obtain ⟨rrows,p1,p2,p3,p4⟩:=hR.all
 have p1:∀h',ah h' 1 a=some rrows:=p1
 rw[sO]
 refine ie uN (xs:=[.agg [.int .i64 m.grain,a,b],.int .i64 h]) (by simp only[aH,e,dB 0]) (by simp[ko]) hd ?_
 simp only[ko,mJ,sx,sy,SO.run,↓reduceIte,Nat.reduceEqDiff,Nat.reduceAdd,Nat.reduceLeDiff]
 refine a_ (m9 (Nat.succ_pos d) (hms _) (by omega)) fun r hr=>?_
 simp only[sx,SO.run,↓reduceIte,Nat.reduceEqDiff]
 refine a_ (yX (l:=S.af m) (Nat.succ_pos d) (hr.sl _) (by rw[dI];omega) (fun c hc=>by have:=dw hs c hc;omega) hh) fun u hu=>?_
 simp only[sx,SO.run,↓reduceIte]
 have hul:(S.an (S.af m) h).length=m.roots.length:=by simp[S.an,dI]
 refine eA (m:=m.roots.length) (by omega) (fun g=>by rw[hu.len,hul]) (fun j t df g=>df=[]/\St t [(2,.hptr 0 0 0 0),(6,.int .i64 (S.aa ((List.range j).map (S.aN m h))))]/\g.h.get 0=.cells 3 [[.int .i64 m.grain,a,b]] 0 false false)
  ⟨rfl,by simp[sx,St,S.aa],by simp[sx]⟩ (by simp[sx]) (by simp[sx]) (by decide) (by rintro j t df g v s (rfl | rfl | rfl | rfl | rfl | rfl | rfl)<;>simp[sx,St]) ?_ ?_
 ·rintro j t df g hj ⟨rfl,⟨h2,h6,-⟩,hg⟩ h7 h5
  obtain ⟨x,hx,-,hxm⟩:=af hj
  obtain ⟨row,q1,q2⟩:=p3 j x hx
  obtain ⟨y,rfl,hy⟩:=dk.1 q2
  have hlt:j<rrows.length:=by omega
  have hb:=lw (l:=S.af m) (fun c hc=>by have:=dw hs c hc;omega) hh.1 (i:=j) (by rw[dI];exact hj)
  have hlj:(S.af m)[j]'(by rw[dI];exact hj)=(x.length:Int):=by
   simp only[S.af,List.getElem_map]
   rw[List.getElem?_eq_getElem hj] at hx;injection hx with hx;rw[hx]
  rw[hlj] at hb
  obtain ⟨n,hn⟩:=Int.eq_ofNat_of_zero_le hb.1
  have hnl:n<x.length:=by omega
  have hval:((S.an (S.af m) h).map ci)[j]?=some (ci (n:Int)):=by
   rw[List.getElem?_map,S.an,List.getElem?_map,List.getElem?_range (by rw[dI];exact hj)]
   show some (ci (S.aE (S.af m) h j))=_
   rw[hn]
  have hvl:j<((S.an (S.af m) h).map ci).length:=by rw[List.length_map,hul];exact hj
  have hw:S.aN m h j=x[n]:=by
   unfold S.aN;rw[hx,Option.getD_some,hn];show (x[(n:Int).toNat]?).getD 0=_;rw[Int.toNat_natCast,List.getElem?_eq_getElem hnl];rfl
  have hxl:(x.map ci)[n]?=some (ci (S.aN m h j)):=by rw[List.getElem?_map,List.getElem?_eq_getElem hnl,hw];rfl
  have hxn:n<(x.map ci).length:=by simpa using hnl
  have b1:=pj hck hh.1 (l:=List.range j) (fun r hr=>by have:=List.mem_range.1 hr;omega) (by simp;omega)
  have b2:=pj hck hh.1 (l:=List.range (j+1)) (fun r hr=>by have:=List.mem_range.1 hr;omega) (by simp;omega)
  rw[List.range_succ,List.map_append,List.map_singleton,cV] at b2
  simp only[sx,sy,SO.run,↓reduceIte,Nat.reduceEqDiff,h2,h5,h6,h7,hg,p1,hlt,q1,hu.rows,hvl,hval,(hy.tree (h':=g.h) (Nat.le_refl _)).ints,hxn,hxl,ci,Option.isSome_some,Option.getD_some,
   an (show -9223372036854775808<=S.aa ((List.range j).map (S.aN m h))*S.aN m h j by omega) (show S.aa ((List.range j).map (S.aN m h))*S.aN m h j<9223372036854775808 by omega),St]
  rw[List.range_succ,List.map_append,List.map_singleton,cV]
 ·rintro t df g ⟨rfl,⟨h2,h6,-⟩,hg⟩ -
  simp only[lD,sx,SO.run,↓reduceIte,h6]
  rfl
end
end Hx
end
section
namespace Hx
open Go
theorem dF {m:Causal}(hck:S.am m=true){x:Mech}(hx:x∈m.nodes):S.aq x.frm m.nodes.length=true/\S.aq x.noise m.roots.length=true/\(x.out.length:Int)=S.aa (S.ap m x)/\(∀y∈x.out,0<=y/\y<x.card):=by
 have hr:S.aB m=true:=by rw[<-uz];exact hck
 simp only[S.aB,Bool.and_eq_true] at hr
 have h1:=List.all_eq_true.1 hr.1.1.1.1.2 x hx
 simp only[S.aZ,Bool.and_eq_true] at h1
 have h2:=List.all_eq_true.1 hr.2 x hx
 simp only[S.bB,Bool.and_eq_true,decide_eq_true_eq] at h2
 refine ⟨h1.1.2,h1.2,h2.1,fun y hy=>?_⟩
 have:=List.all_eq_true.1 h2.2 y hy
 simp at this
 omega
def Rk (p:List Nat)(s:Nat)(r:Nat->Nat)(B:Nat):Prop:=∀v,s.testBit v=true->r v<B/\∀q,(Par p v).testBit q=true->s.testBit q=true/\r q<r v
theorem A4 {p:List Nat}(hn:p.length<=5){s:Nat}(h:∃r B,Rk p s r B):∀j,j<=p.length->∃r B,Rk p (S.aH p s j) r B
 | 0,_=>h
 | j+1,hj=>by
  obtain ⟨r,B,h⟩:=A4 hn h j (by omega)
  rw[cE]
  split
  ·rename_i hd
   have hsub:=mi.1 hd
   generalize S.aH p s j=s at h hsub
   by_cases hb:s.testBit j=true
   ·refine ⟨r,B,fun v hv=>?_⟩
    have key:∀u,(s ||| S.a9 j).testBit u=s.testBit u:=fun u=>by
     rw[jF,qF (by omega)]
     by_cases e:j=u
     ·subst e;rw[hb];rfl
     ·simp[e]
    rw[key] at hv
    obtain ⟨h1,h2⟩:=h v hv
    exact ⟨h1,fun q hq=>by rw[key];exact h2 q hq⟩
   ·refine ⟨fun x=>if x=j then B else r x,B+1,fun v hv=>?_⟩
    have key:∀u,(s ||| S.a9 j).testBit u=(s.testBit u || decide (j=u)):=fun u=>by rw[jF,qF (by omega)]
    rw[key,Bool.or_eq_true,decide_eq_true_eq] at hv
    have keep:∀q,s.testBit q=true->q≠j:=fun q hq e=>hb (e ▸ hq)
    rcases hv with hv | rfl
    ·obtain ⟨h1,h2⟩:=h v hv
     dsimp only
     rw[if_neg (keep v hv)]
     refine ⟨by omega,fun q hq=>?_⟩
     obtain ⟨h3,h4⟩:=h2 q hq
     rw[key,h3,if_neg (keep q h3)]
     exact ⟨rfl,h4⟩
    ·dsimp only
     rw[if_pos rfl]
     refine ⟨by omega,fun q hq=>?_⟩
     have h3:=hsub q hq
     rw[key,h3,if_neg (keep q h3)]
     exact ⟨rfl,(h q h3).1⟩
  ·exact ⟨r,B,h⟩
theorem yU {p:List Nat}(hn:p.length<=5):∀j,∃r B,Rk p (S.aF p j) r B
 | 0=>⟨fun _=>0,0,fun v hv=>by simp[S.aF] at hv⟩
 | j+1=>by rw[cK];exact A4 hn (yU hn j) _ (Nat.le_refl _)
theorem D6 {m:Causal}(hck:S.am m=true):∃r:Nat->Nat,∀(i:Nat) (x:Mech),m.nodes[i]?=some x->∀q∈x.frm,r q.toNat<r i:=by
 have hs:=(aN hck).1
 have hac:S.bK m=true:=by
  simp only[S.am,Bool.and_eq_true] at hck;exact hck.2
 have hpl:(S.ay m).length=m.nodes.length:=by simp[S.ay]
 have h5:=hs.nodes
 obtain ⟨r,B,h⟩:=yU (p:=S.ay m) (by omega) (S.ay m).length
 simp only[S.bK,decide_eq_true_eq] at hac
 rw[<-hpl] at hac
 rw[hac] at h
 refine ⟨r,fun i x hx q hq=>?_⟩
 have hi:=(List.getElem?_eq_some_iff.1 hx).1
 have hpm:=dF hck (List.mem_of_getElem? hx)
 have hq':=aE hpm.1 q hq
 refine ((h i (z9 (by omega))).2 q.toNat ?_).2
 rw[show Par (S.ay m) i=S.aL x.frm by simp[Par,S.ay,hx],vF (n:=m.nodes.length) (by omega) (aE hpm.1),List.contains_iff_mem,Int.toNat_of_nonneg hq'.1]
 exact hq
def S.aA (x:Mech)(roots:List Int)(V:Nat->Int):List Int:=(x.frm.map fun q=>V q.toNat)++(x.noise.map fun r=>roots[r.toNat]?.getD 0)
def S.bu (m:Causal)(roots act:List Int)(V:Nat->Int)(i:Nat)(x:Mech):Int:=if 0<=act[i]?.getD 0 then act[i]?.getD 0 else x.out[(S.aC (S.ap m x) (S.aA x roots V)).toNat]?.getD 0
def Sol (m:Causal)(roots act:List Int)(V:Nat->Int):Prop:=∀(i:Nat) (x:Mech),m.nodes[i]?=some x->V i=S.bu m roots act V i x
def Bo (m:Causal)(roots act:List Int):Nat->Nat->Int
 | 0,_=>0
 | f+1,i=>match m.nodes[i]? with | some x=>S.bu m roots act (Bo m roots act f) i x | none=>0
theorem tN {m:Causal}{roots act:List Int}{V W:Nat->Int}{i:Nat}{x:Mech}(h:∀q∈x.frm,V q.toNat=W q.toNat):S.bu m roots act V i x=S.bu m roots act W i x:=by
 have:S.aA x roots V=S.aA x roots W:=by
  unfold S.aA
  rw[List.map_congr_left h]
 unfold S.bu
 rw[this]
theorem Bt {m:Causal}(hck:S.am m=true){roots act:List Int}{r:Nat->Nat}(hr:∀(i:Nat) (x:Mech),m.nodes[i]?=some x->∀q∈x.frm,r q.toNat<r i) :
  ∀n i f f',r i<=n->r i<f->r i<f'->Bo m roots act f i=Bo m roots act f' i:=by
 intro n
 induction n with
 | zero =>
  intro i f f' h0 h1 h2
  obtain ⟨f,rfl⟩:∃q,f=q+1:=⟨f - 1,by omega⟩
  obtain ⟨f',rfl⟩:∃q,f'=q+1:=⟨f' - 1,by omega⟩
  unfold Bo
  split
  ·rename_i x hx
   exact tN fun q hq=>by have:=hr i x hx q hq;omega
  ·rfl
 | succ n ih =>
  intro i f f' h0 h1 h2
  obtain ⟨f,rfl⟩:∃q,f=q+1:=⟨f - 1,by omega⟩
  obtain ⟨f',rfl⟩:∃q,f'=q+1:=⟨f' - 1,by omega⟩
  unfold Bo
  split
  ·rename_i x hx
   exact tN fun q hq=>by have:=hr i x hx q hq;exact ih _ _ _ (by omega) (by omega) (by omega)
  ·rfl
theorem Kq {m:Causal}(hck:S.am m=true)(roots act:List Int):∃V,Sol m roots act V:=by
 obtain ⟨r,hr⟩:=D6 hck
 refine ⟨fun i=>Bo m roots act (r i+1) i,fun i x hx=>?_⟩
 show Bo m roots act (r i+1) i=_
 rw[Bo,hx]
 exact tN fun q hq=>Bt hck hr (r q.toNat) _ _ _ (Nat.le_refl _) (hr i x hx q hq) (Nat.lt_succ_self _)
noncomputable def S.V (m:Causal)(roots act:List Int):Nat->Int:=Classical.epsilon (Sol m roots act)
theorem Kb {m:Causal}(hck:S.am m=true)(roots act:List Int):Sol m roots act (S.V m roots act):=Classical.epsilon_spec (Kq hck roots act)
noncomputable def S.aR (m:Causal)(roots act:List Int):List Int:=(List.range m.nodes.length).map (S.V m roots act)
theorem nu {m:Causal}{l:List Int}(h:S.ax m l=true):l.length=m.nodes.length/\∀(i:Nat) (x:Mech),m.nodes[i]?=some x->-1<=l[i]?.getD 0/\l[i]?.getD 0<x.card:=by
 simp only[S.ax,Bool.and_eq_true,decide_eq_true_eq] at h
 refine ⟨h.1,fun i x hx=>?_⟩
 have hi:=(List.getElem?_eq_some_iff.1 hx).1
 have:=List.all_eq_true.1 h.2 i (List.mem_range.2 (by omega))
 simp only[S.bn,Bool.and_eq_true,decide_eq_true_eq] at this
 have hc:S.az m (i:Int)=x.card:=by simp[S.az,hx]
 rw[hc] at this
 omega
theorem Kp {cards vals:List Int}(hl:cards.length=vals.length)(h:∀(i:Nat) c v,cards[i]?=some c->vals[i]?=some v->0<=v/\v<c):InC cards vals:=by
 induction cards generalizing vals with
 | nil=>cases vals with
  | nil=>trivial
  | cons v vals=>simp at hl
 | cons c cards ih=>cases vals with
  | nil=>simp at hl
  | cons v vals=>exact ⟨h 0 c v rfl rfl,ih (by simpa using hl) fun i c' v' h1 h2=>h (i+1) c' v' (by simpa using h1) (by simpa using h2)⟩
theorem InC.get {cards vals:List Int}(h:InC cards vals){i:Nat}{c:Int}(hc:cards[i]?=some c):∃v,vals[i]?=some v/\0<=v/\v<c:=All2.get h hc
theorem ju {m:Causal}(hck:S.am m=true){roots:List Int}(hroots:InC (S.af m) roots){V:Nat->Int}{x:Mech}(hx:x∈m.nodes)(hV:∀q∈x.frm,0<=V q.toNat/\V q.toNat<S.az m q) :
  InC (S.ap m x) (S.aA x roots V):=by
 obtain ⟨h1,h2,-,-⟩:=dF hck hx
 unfold S.ap S.aA
 refine All2.append ?_ ?_
 ·clear h1
  generalize x.frm=l at hV
  induction l with
  | nil=>trivial
  | cons q l ih=>exact ⟨hV q (by simp),ih fun q hq=>hV q (by simp[hq])⟩
 ·have hm:=aE h2
  clear h2
  generalize x.noise=l at hm
  induction l with
  | nil=>trivial
  | cons q l ih =>
   refine ⟨?_,ih fun q hq=>hm q (by simp[hq])⟩
   have hq:=hm q (by simp)
   have hc:(S.af m)[q.toNat]?=some (S.aX m q):=by
    have hql:q.toNat<m.roots.length:=by omega
    simp only[S.af,S.aX,List.getElem?_map,List.getElem?_eq_getElem hql,Option.map_some,Option.getD_some]
   obtain ⟨v,e,hv⟩:=hroots.get hc
   show 0<=roots[q.toNat]?.getD 0/\roots[q.toNat]?.getD 0<_
   rw[e];exact hv
theorem b9 {m:Causal}(hck:S.am m=true){x:Mech}(hx:x∈m.nodes):(∀c∈S.ap m x,1<=c/\c<=4)/\(S.ap m x).length<=13:=by
 obtain ⟨h1,h2,-,-⟩:=dF hck hx
 have hs:=(aN hck).1
 have a:=ba h1
 have b:=ba h2
 have:=hs.nodes
 have:=hs.roots
 refine ⟨fun c hc=>?_,by simp[S.ap];omega⟩
 unfold S.ap at hc
 rcases List.mem_append.1 hc with hc | hc
 ·obtain ⟨q,hq,rfl⟩:=List.mem_map.1 hc
  exact f8 hs (aE h1 q hq)
 ·obtain ⟨q,hq,rfl⟩:=List.mem_map.1 hc
  exact ir hs (aE h2 q hq)
theorem y9 {m:Causal}(hck:S.am m=true){roots act:List Int}(hroots:InC (S.af m) roots)(ha:S.ax m act=true){V:Nat->Int}(hV:Sol m roots act V) :
  ∀(i:Nat) (x:Mech),m.nodes[i]?=some x->0<=V i/\V i<x.card:=by
 obtain ⟨r,hr⟩:=D6 hck
 have key:∀n i x,r i<=n->m.nodes[i]?=some x->0<=V i/\V i<x.card:=by
  intro n
  induction n with
  | zero =>
   intro i x hn hx
   have hxm:=List.mem_of_getElem? hx
   rw[hV i x hx,S.bu]
   split
   ·rename_i h;exact ⟨h,((nu ha).2 i x hx).2⟩
   ·obtain ⟨h1,h2,h3,h4⟩:=dF hck hxm
    have hb:=eB (b9 hck hxm).1 (ju hck hroots (V:=V) hxm fun q hq=>by have:=hr i x hx q hq;omega)
    rw[<-h3] at hb
    obtain ⟨k,hk⟩:=Int.eq_ofNat_of_zero_le hb.1
    rw[hk]
    have hkl:k<x.out.length:=by omega
    show 0<=(x.out[k]?).getD 0/\(x.out[k]?).getD 0<_
    rw[List.getElem?_eq_getElem hkl]
    exact h4 _ (List.getElem_mem hkl)
  | succ n ih =>
   intro i x hn hx
   have hxm:=List.mem_of_getElem? hx
   rw[hV i x hx,S.bu]
   split
   ·rename_i h;exact ⟨h,((nu ha).2 i x hx).2⟩
   ·obtain ⟨h1,h2,h3,h4⟩:=dF hck hxm
    have hb:=eB (b9 hck hxm).1 (ju hck hroots (V:=V) hxm fun q hq=>by
     have hrq:=hr i x hx q hq
     have hql:=aE h1 q hq
     have hq2:q.toNat<m.nodes.length:=by omega
     have:=ih q.toNat _ (by omega) (List.getElem?_eq_getElem hq2)
     have hc:S.az m q=(m.nodes[q.toNat]).card:=by simp[S.az,List.getElem?_eq_getElem hq2]
     rw[hc];exact this)
    rw[<-h3] at hb
    obtain ⟨k,hk⟩:=Int.eq_ofNat_of_zero_le hb.1
    rw[hk]
    have hkl:k<x.out.length:=by omega
    show 0<=(x.out[k]?).getD 0/\(x.out[k]?).getD 0<_
    rw[List.getElem?_eq_getElem hkl]
    exact h4 _ (List.getElem_mem hkl)
 exact fun i x hx=>key (r i) i x (Nat.le_refl _) hx
def S.bM (cs vs:List Int)(a:Int):Int:=(cs.zip vs).foldl (fun a p=>a*p.1+p.2) a
theorem qL:∀(cs vs:List Int) (a:Int),cs.length=vs.length->S.bM cs vs a=a*S.aa cs+S.aC cs vs
 | [],[],a,_=>by simp[S.bM,S.aa,S.aC]
 | c::cs,v::vs,a,h=>by
  show S.bM cs vs (a*c+v)=_
  rw[qL cs vs _ (by simpa using h),bV]
  show _=_+(v*S.aa cs+S.aC cs vs)
  rw[Int.add_mul,Int.mul_assoc,Int.add_assoc]
 | [],_::_,_,h=>by simp at h
 | _::_,[],_,h=>by simp at h
end Hx
end
section
namespace Hx
open Go
noncomputable section
theorem Kz (C:Cfg)(t:T)(g:G)(f:Od)(xs:List Od):(SO.foot C t g (.dyn f xs)).sr=[]:=by
 simp only[SO.foot]
 split
 ·rw[aa];split<;>rfl
 ·rfl
theorem Fu {x y:Foot}(hx:x.wr=[])(hb:x.lk.big=false)(hs:x.lk.sr=[])(h:∀i∈y.wr,i ∉ x.lk.rd):bu x y=true:=by
 have m1:meets y.wr []=false:=by simp[meets]
 have m2:meets y.wr x.lk.rd=false:=by
  simp only[meets,List.any_eq_false]
  intro i hi hc
  exact h i hi (List.contains_iff_mem.1 hc)
 simp only[bu,eW,dL,hx,hb,hs,m1,m2,fst1,List.map_nil,Bool.not_false,Bool.and_self,Bool.true_or,Bool.true_and]
 split<;>rfl
def hz (cs vs:List Int)(j:Nat):Int:=((cs.zip vs).take j).foldl (fun a p=>a*p.1+p.2) 0
theorem EE (cs vs:List Int):hz cs vs 0=0:=by simp[hz]
theorem vu {cs vs:List Int}{j:Nat}{c v:Int}(h1:cs[j]?=some c)(h2:vs[j]?=some v):hz cs vs (j+1)=hz cs vs j*c+v:=by
 have:(cs.zip vs)[j]?=some (c,v):=List.getElem?_zip_eq_some.2 ⟨h1,h2⟩
 unfold hz
 rw[List.take_add_one,this]
 simp
theorem KD {cs vs:List Int}(h:cs.length=vs.length):hz cs vs cs.length=S.aC cs vs:=by
 unfold hz
 rw[List.take_of_length_le (by simp[List.length_zip];omega)]
 have:=qL cs vs 0 h
 rw[Int.zero_mul,Int.zero_add] at this
 exact this
theorem Jp {cs vs:List Int}(j:Nat):hz cs vs j=S.bM (cs.take j) (vs.take j) 0:=by
 unfold hz S.bM
 congr 1
 induction j generalizing cs vs with
 | zero=>simp
 | succ j ih=>cases cs with
  | nil=>simp
  | cons c cs=>cases vs with
   | nil=>simp
   | cons v vs=>simp[ih]
theorem InC.take {cards vals:List Int}(h:InC cards vals)(j:Nat):InC (cards.take j) (vals.take j):=All2.take h j
theorem Es {n:Nat}(hn:n<=13):(4:Int) ^ n<=67108864:=by
 have:=ch hn
 have e:(4:Int) ^ 13=67108864:=by decide
 omega
theorem rS {cs vs:List Int}(hc:∀c∈cs,1<=c/\c<=4)(hl:cs.length<=13)(h:InC cs vs)(j:Nat):0<=hz cs vs j/\hz cs vs j<=67108864:=by
 have hc':∀c∈cs.take j,1<=c/\c<=4:=fun c hh=>hc c (List.mem_of_mem_take hh)
 rw[Jp,qL _ _ _ (h.take j).len.symm,Int.zero_mul,Int.zero_add]
 have hb:=eB hc' (h.take j)
 have:=(bD hc').2
 have:=Es (n:=(cs.take j).length) (by simp;omega)
 omega
def IE (p1 p2 p3 p4:Nat):AV:=.clo N.bI [] [.hptr p1 0 0 0,.hptr p2 0 0 0,.hptr p3 0 0 0,.hptr p4 0 0 0]
structure RI (g:G) (p1 p2 p3 p4:Nat) (gr hid:Int) (a b w u:AV) (iu:Nat) (L:List Int):Prop where
 b1:g.h.get p1=.cells 1 [[u]] 0 false false
 b2:g.h.get p2=.cells 4 [[.int .i64 gr,a,b,.int .i64 hid]] 0 false false
 b3:g.h.get p3=.cells 1 [[IE p1 p2 p3 p4]] 0 false false
 b4:g.h.get p4=.cells 1 [[w]] 0 false false
 ow:Own g 0 u 1 (L.map ci)
 vi:vid u=some iu
 ne:iu≠p1/\iu≠p2/\iu≠p3/\iu≠p4
 lt:p1<g.nx/\p2<g.nx/\p3<g.nx/\p4<g.nx
theorem RI.fr {g g':G}{p1 p2 p3 p4:Nat}{gr hid:Int}{a b w u:AV}{iu:Nat}{L:List Int}(h:RI g p1 p2 p3 p4 gr hid a b w u iu L)(hn:g.nx<=g'.nx)(hf:∀j,j<g.nx->g'.h.get j=g.h.get j) :
  RI g' p1 p2 p3 p4 gr hid a b w u iu L :=
 ⟨by rw[hf _ h.lt.1,h.b1],by rw[hf _ h.lt.2.1,h.b2],by rw[hf _ h.lt.2.2.1,h.b3],by rw[hf _ h.lt.2.2.2,h.b4],h.ow.fr hn fun i hi=>hf i (h.ow.lt hi).2,h.vi,h.ne,
  by have:=h.lt;omega⟩
def Frm (g0 g:G)(iu:Nat):Prop:=g0.nx<=g.nx/\(∀j,j<g0.nx->j≠iu->g.h.get j=g0.h.get j)/\∀j∈g.lg,j∈g0.lg\/j=iu\/g0.nx<=j
theorem Frm.refl (g:G)(iu:Nat):Frm g g iu:=⟨Nat.le_refl _,fun _ _ _=>rfl,fun _ h=>.inl h⟩
theorem Frm.trans {g0 g1 g2:G}{iu:Nat}(h:Frm g0 g1 iu)(h':Frm g1 g2 iu):Frm g0 g2 iu :=
 ⟨Nat.le_trans h.1 h'.1,fun j hj hne=>by rw[h'.2.1 j (Nat.lt_of_lt_of_le hj h.1) hne,h.2.1 j hj hne],fun j hj=>by
  rcases h'.2.2 j hj with h2 | h2 | h2
  ·exact h.2.2 j h2
  ·exact .inr (.inl h2)
  ·exact .inr (.inr (Nat.le_trans h.1 h2))⟩
theorem Frm.new (g:G)(o:AObj)(iu:Nat):Frm g (g.new o) iu :=
 ⟨by simp,fun j hj _=>by rw[G.new_h,aq _ _ _ (by omega)],fun j hj=>by simp at hj;rcases hj with rfl | hj;exact .inr (.inr (Nat.le_refl _));exact .inl hj⟩
theorem Frm.same {g0 g g':G}{iu:Nat}(h:Frm g0 g iu)(hh:g'.h=g.h)(hn:g.nx<=g'.nx)(hl:∀j∈g'.lg,j∈g.lg\/j∈g0.lg):Frm g0 g' iu :=
 ⟨Nat.le_trans h.1 hn,fun j hj hne=>by rw[hh];exact h.2.1 j hj hne,fun j hj=>by
  rcases hl j hj with h2 | h2
  ·exact h.2.2 j h2
  ·exact .inl h2⟩
def OkL (m:Causal)(act:List Int)(V:Nat->Int)(L:List Int):Prop:=L.length=m.nodes.length/\∀i,i<m.nodes.length->L[i]?.getD 0=V i\/(L[i]?.getD 0<0/\act[i]?.getD 0<0)
def Keep (L L':List Int):Prop:=∀j:Nat,0<=L[j]?.getD 0->L'[j]?.getD 0=L[j]?.getD 0
theorem Keep.refl (L:List Int):Keep L L:=fun _ _=>rfl
theorem Keep.trans {L L' L'':List Int}(h:Keep L L')(h':Keep L' L''):Keep L L'':=fun j hj=>by rw[h' j (by rw[h j hj];exact hj),h j hj]
theorem Fj (d p1 p2 p3 p4:Nat)(v:AV)(g:G):fQ C0 (I C0) d (IE p1 p2 p3 p4) [v] g=orF ((I C0).call d N.bI [v,.hptr p1 0 0 0,.hptr p2 0 0 0,.hptr p3 0 0 0,.hptr p4 0 0 0] g):=by kernel_rfl
section
variable {d k:Nat}{m:Causal}{roots act:List Int}{V:Nat->Int}{a b w u:AV}{p1 p2 p3 p4 iu:Nat}{hid:Int}{r:Nat->Nat}
def K7 (d:Nat)(m:Causal)(act:List Int)(V:Nat->Int)(a b w u:AV)(p1 p2 p3 p4 iu:Nat)(hid:Int)(i:Nat):Prop :=
 ∀(L:List Int) (g:G) (K:AV->G->Prop) (D:ADf->Prop),RI g p1 p2 p3 p4 m.grain hid a b w u iu L->OkL m act V L ->
  (∀g' L',RI g' p1 p2 p3 p4 m.grain hid a b w u iu L'->OkL m act V L'->Keep L L'->L'[i]?.getD 0=V i->Frm g g' iu->K (.int .i64 (V i)) g') ->
  (fQ C0 (I C0) d (IE p1 p2 p3 p4) [.int .i64 (i:Int)] g).sat K g D
theorem Jl {i:Nat}{x:Mech}{fa:AV}{q:Nat}{L:List Int}{t:T}{g:G}{Q:QT}(hck:S.am m=true)(hN:SlR NoP k .nil m.nodes b)(hroots:InC (S.af m) roots)(hx:m.nodes[i]?=some x)
  (hVb:∀(i:Nat) (x:Mech),m.nodes[i]?=some x->0<=V i/\V i<x.card) (hfa:SlR NoP k .nil x.frm fa)
  (ih:∀q∈x.frm,K7 d m act V a b w u p1 p2 p3 p4 iu hid q.toNat)
  (ht:St t [(0,.int .i64 (i:Int)),(1,.hptr p1 0 0 0),(2,.hptr p2 0 0 0),(3,.hptr p3 0 0 0),(4,.hptr p4 0 0 0),(7,.hptr q 0 0 0),(29,fa),(8,.int .i64 0)])
  (hi:tat t 31=.int .i64 0) (hn:tat t 30=.int .i64 (x.frm.length:Int)) (hI:RI g p1 p2 p3 p4 m.grain hid a b w u iu L) (hO:OkL m act V L) (hq:q<g.nx/\q≠iu)
  (fin:∀t g' L',St t [(0,.int .i64 (i:Int)),(1,.hptr p1 0 0 0),(2,.hptr p2 0 0 0),(3,.hptr p3 0 0 0),(4,.hptr p4 0 0 0),(7,.hptr q 0 0 0),(29,fa),(8,.int .i64 (hz (S.ap m x) (S.aA x roots V) x.frm.length))] ->
   RI g' p1 p2 p3 p4 m.grain hid a b w u iu L'->OkL m act V L'->Keep L L'->Frm g g' iu->Q (.exit 0) t [] g') :
  wpL (wp C0 d none dP) Q t [] g:=by
 obtain ⟨hs,hgr,hn1,hro,hno⟩:=aN hck
 have hxm:=List.mem_of_getElem? hx
 obtain ⟨hpf,hpn,-,-⟩:=dF hck hxm
 obtain ⟨rows,r1,r2,r3,r4⟩:=hN.all
 have r1:∀h',ah h' 4 b=some rows:=r1
 have hry:=r4 (by omega)
 have hcl:(S.ap m x).length<=13:=(b9 hck hxm).2
 have hin:=ju hck hroots (V:=V) hxm fun q hq=>by
  have hql:=aE hpf q hq
  have hq2:q.toNat<m.nodes.length:=by omega
  have:=hVb q.toNat _ (List.getElem?_eq_getElem hq2)
  have hc:S.az m q=(m.nodes[q.toNat]).card:=by simp[S.az,List.getElem?_eq_getElem hq2]
  rw[hc];exact this
 have hf5:=ba hpf
 have hn5:=hs.nodes
 simp only[dP]
 refine bc (m:=x.frm.length) (by omega) (fun j t df g'=>df=[]/\St t [(0,.int .i64 (i:Int)),(1,.hptr p1 0 0 0),(2,.hptr p2 0 0 0),(3,.hptr p3 0 0 0),(4,.hptr p4 0 0 0),(7,.hptr q 0 0 0),(29,fa),(8,.int .i64 (hz (S.ap m x) (S.aA x roots V) j))] /\
   ∃L',RI g' p1 p2 p3 p4 m.grain hid a b w u iu L'/\OkL m act V L'/\Keep L L'/\Frm g g' iu)
  ⟨rfl,by rw[EE];exact ht,L,hI,hO,Keep.refl L,Frm.refl g iu⟩ hi hn (by decide) (by rintro j t df g v s (rfl | rfl | rfl)<;>simp[St,sx]) ?_ ?_
 ·rintro j t df g' hj ⟨rfl,⟨h0,h1,h2,h3,h4,h7,h29,h8,-⟩,L',hI',hO',hK',hF'⟩ h31 h30
  obtain ⟨y,hy,-,hym⟩:=af hj
  obtain ⟨hy0,hy1⟩:=aE hpf y hym
  obtain ⟨n,rfl⟩:=Int.eq_ofNat_of_zero_le hy0
  have hnl:n<m.nodes.length:=by omega
  obtain ⟨z,hz',-,hzm⟩:=af hnl
  obtain ⟨row,q1,q2⟩:=r3 n z hz'
  obtain ⟨ga,gb,gc,rfl,-,-,-⟩:=bW.1 q2
  have hlt:n<rows.length:=by omega
  have hcd:=hs.card z hzm
  have hVz:=hVb n z hz'
  have hlj:j<(x.frm.map ci).length:=by simpa using hj
  have hlr:(x.frm.map ci)[j]?=some (ci (n:Int)):=by rw[List.getElem?_map,hy];rfl
  have hs1:(S.ap m x)[j]?=some z.card:=by
   rw[S.ap,List.getElem?_append_left (by simpa using hj),List.getElem?_map,hy]
   simp[S.az,hz']
  have hs2:(S.aA x roots V)[j]?=some (V n):=by
   rw[S.aA,List.getElem?_append_left (by simpa using hj),List.getElem?_map,hy]
   simp
  have hb:=rS (b9 hck hxm).1 hcl hin j
  have hb2:=rS (b9 hck hxm).1 hcl hin (j+1)
  have hsuc:=vu hs1 hs2
  have hmul:0<=hz (S.ap m x) (S.aA x roots V) j*z.card:=Int.mul_nonneg hb.1 (by omega)
  have hmul2:hz (S.ap m x) (S.aA x roots V) j*z.card<=67108864*4:=Int.mul_le_mul hb.2 hcd.2 (by omega) (by decide)
  simp only[sx,sy,sf,SO.run,↓reduceIte,Nat.reduceEqDiff,h2,h3,h8,h29,h31,hI'.b2,hI'.b3,(hfa.tree (h':=g'.h) (Nat.le_refl _)).ints,hlj,hlr,ci,r1,hlt,q1,hry,Option.isSome_some,Option.getD_some,bM hry,bQ,hN.refs,
   an (show -9223372036854775808<=hz (S.ap m x) (S.aA x roots V) j*z.card by omega) (show hz (S.ap m x) (S.aA x roots V) j*z.card<9223372036854775808 by omega)]
  have hy':=ih (n:Int) hym
  rw[Int.toNat_natCast] at hy'
  refine hy' L' _ _ _ (hI'.fr (by simp;omega) (fun j _=>by simp)) hO' fun g2 L2 hI2 hO2 hK2 _ hF2=>?_
  simp only[sx,sy,sf,SO.run,↓reduceIte,Nat.reduceEqDiff,h0,h1,h2,h3,h4,h7,h29,h30,h31,<-hsuc,
   an (show -9223372036854775808<=hz (S.ap m x) (S.aA x roots V) (j+1) by omega) (show hz (S.ap m x) (S.aA x roots V) (j+1)<9223372036854775808 by omega),St]
  have hw2:∀i∈g2.lg,i=iu\/g'.nx<=i:=fun i hi=>by
   rcases hF2.2.2 i hi with h | h | h
   ·simp at h
   ·exact .inl h
   ·simp at h;exact .inr (by omega)
  refine ⟨?_,L2,hI2.fr (by simp;omega) (fun j _=>by simp),hO2,hK'.trans hK2,?_⟩
  ·simp only[List.reverse_cons,List.reverse_nil,List.nil_append,List.cons_append]
   refine aX [false,false,false,false,false,false,false,false,false,false,false,true,false,false] [(0,11),(1,11),(2,11),(3,11),(4,11),(5,11),(6,11),(7,11),(8,11)] (by simp[All2,au,aF,Kz]) (by decide) ?_
   rintro p hp x y hx hy
   simp only[List.mem_cons,List.not_mem_nil,or_false] at hp
   rcases hp with rfl | rfl | rfl | rfl | rfl | rfl | rfl | rfl | rfl<;>(simp at hx hy;subst hx;subst hy;refine Fu rfl rfl rfl fun i hi hc=>?_)<;>simp[au,aF] at hc
   subst hc
   have:=hI'.lt
   have:=hI'.ne
   rcases hw2 _ hi with h | h<;>omega
  ·refine hF'.trans ⟨?_,?_,?_⟩
   ·have:=hF2.1;simp at this ⊢;omega
   ·intro j hj hne
    have:=hF2.2.1 j (by simp;omega) hne
    simpa using this
   ·intro j hj
    simp at hj
    rcases hj with hj | hj
    ·rcases hw2 j hj with h | h
     ·exact .inr (.inl h)
     ·exact .inr (.inr h)
    ·exact .inl hj
 ·rintro t df g' ⟨rfl,ht',L',hI',hO',hK',hF'⟩
  exact fin t g' L' ht' hI' hO' hK' hF'
end
end
end Hx
end
section
namespace Hx
open Go
noncomputable section
theorem Gi (a b c e p:AV)(t:T):co 0 [a,b,c,e,p] t=fT (fT (fT (fT (fT t 0 a) 1 b) 2 c) 3 e) 4 p:=rfl
theorem yO (f:Nat)(xs cs:List AV):(AV.clo f xs cs).cells=[.clo f xs cs]:=rfl
theorem EZ (f:Nat)(xs cs:List AV):(AV.clo f xs cs).isTup=false:=rfl
theorem C2 {g:G}{b:Nat}{v:AV}{sz n i off:Nat}{rows:List (List AV)}{row row':List AV}{x:AV}{K:AV->G->Prop}{D:ADf->Prop}(hv:Own g b v sz rows)(hr:rows[i]?=some row)
  (hl:x.cells.length=n) (ht:x.isTup=false) (hp:b7 row off x.cells=some row')
  (k:∀g',Own g' b v sz (rows.set i row')->g'.nx=g.nx->(∀i,vid v≠some i->g'.h.get i=g.h.get i)->(∀j∈g'.lg,j∈g.lg\/vid v=some j)->K .undef g'):(nA n (ec sz v i off) x g).sat K g D:=by
 rcases hv with ⟨rfl,rfl⟩ | ⟨id,ep,lo,h1,h2,rfl,h3⟩
 ·simp at hr
 ·simp only[ec,Nat.zero_add]
  rw[xz h3 hr rfl ht hl hp]
  refine k _ (.inr ⟨id,ep,lo,h1,by simpa using h2,by simp,by simp[bi]⟩) (by simp) (fun i hne=>?_) (fun j hj=>?_)
  ·rw[G.put_h,aq _ _ _ (fun e=>hne (by rw[e];rfl))]
  ·simp at hj
   rcases hj with rfl | hj
   ·exact .inr rfl
   ·exact .inl hj
section
variable {d k:Nat}{m:Causal}{roots act:List Int}{V:Nat->Int}{a b w u:AV}{p1 p2 p3 p4 iu:Nat}{hid:Int}
theorem IM {i:Nat}{x:Mech}{fb:AV}{q:Nat}{t:T}{g:G}{Q:QT}(hck:S.am m=true)(hR:SlR NoP k .nil m.roots a)(hw:SlR NoP k .nil roots w)(hroots:InC (S.af m) roots)(hx:m.nodes[i]?=some x)
  (hVb:∀(i:Nat) (x:Mech),m.nodes[i]?=some x->0<=V i/\V i<x.card) (hfb:SlR NoP k .nil x.noise fb)
  (ht:St t [(0,.int .i64 (i:Int)),(1,.hptr p1 0 0 0),(2,.hptr p2 0 0 0),(4,.hptr p4 0 0 0),(7,.hptr q 0 0 0),(50,fb),(8,.int .i64 (hz (S.ap m x) (S.aA x roots V) x.frm.length))])
  (hi:tat t 52=.int .i64 0) (hn:tat t 51=.int .i64 (x.noise.length:Int)) (h2:g.h.get p2=.cells 4 [[.int .i64 m.grain,a,b,.int .i64 hid]] 0 false false) (h4:g.h.get p4=.cells 1 [[w]] 0 false false)
  (fin:∀t,St t [(0,.int .i64 (i:Int)),(1,.hptr p1 0 0 0),(2,.hptr p2 0 0 0),(4,.hptr p4 0 0 0),(7,.hptr q 0 0 0),(50,fb),(8,.int .i64 (S.aC (S.ap m x) (S.aA x roots V)))]->Q (.exit 2) t [] g) :
  wpL (wp C0 d none dR) Q t [] g:=by
 obtain ⟨hs,hgr,hn1,hro,hno⟩:=aN hck
 have hxm:=List.mem_of_getElem? hx
 obtain ⟨hpf,hpn,-,-⟩:=dF hck hxm
 obtain ⟨rows,r1,r2,r3,r4⟩:=hR.all
 have r1:∀h',ah h' 1 a=some rows:=r1
 have hcl:(S.ap m x).length<=13:=(b9 hck hxm).2
 have hin:=ju hck hroots (V:=V) hxm fun q hq=>by
  have hql:=aE hpf q hq
  have hq2:q.toNat<m.nodes.length:=by omega
  have:=hVb q.toNat _ (List.getElem?_eq_getElem hq2)
  have hc:S.az m q=(m.nodes[q.toNat]).card:=by simp[S.az,List.getElem?_eq_getElem hq2]
  rw[hc];exact this
 have hf5:=ba hpn
 have hn5:=hs.roots
 have hrl:roots.length=m.roots.length:=by rw[hroots.len,dI]
 simp only[dR]
 refine bc (m:=x.noise.length) (by omega) (fun j t df g'=>df=[]/\g'=g/\St t [(0,.int .i64 (i:Int)),(1,.hptr p1 0 0 0),(2,.hptr p2 0 0 0),(4,.hptr p4 0 0 0),(7,.hptr q 0 0 0),(50,fb),(8,.int .i64 (hz (S.ap m x) (S.aA x roots V) (x.frm.length+j)))])
  ⟨rfl,rfl,ht⟩ hi hn (by decide) (by rintro j t df g v s (rfl | rfl | rfl)<;>simp[St,sx]) ?_ ?_
 ·rintro j t df g' hj ⟨rfl,rfl,⟨h0,h1,h2',h4',h7,h50,h8,-⟩⟩ h52 h51
  obtain ⟨y,hy,-,hym⟩:=af hj
  obtain ⟨hy0,hy1⟩:=aE hpn y hym
  obtain ⟨n,rfl⟩:=Int.eq_ofNat_of_zero_le hy0
  have hnl:n<m.roots.length:=by omega
  obtain ⟨z,hz',-,hzm⟩:=af hnl
  obtain ⟨row,q1,q2⟩:=r3 n z hz'
  obtain ⟨zz,rfl,hzz⟩:=dk.1 q2
  have hlt:n<rows.length:=by omega
  have hcd:=hs.len z hzm
  have hlj:j<(x.noise.map ci).length:=by simpa using hj
  have hlr:(x.noise.map ci)[j]?=some (ci (n:Int)):=by rw[List.getElem?_map,hy];rfl
  obtain ⟨rv,hrv,hrv0⟩:=hroots.get (i:=n) (c:=(z.length:Int)) (by simp[S.af,hz'])
  have hrl1:(roots.map ci)[n]?=some (ci rv):=by rw[List.getElem?_map,hrv];rfl
  have hrl2:n<(roots.map ci).length:=by rw[List.length_map];omega
  have hs1:(S.ap m x)[x.frm.length+j]?=some (z.length:Int):=by
   rw[S.ap,List.getElem?_append_right (by simp)]
   simp[hy,S.aX,hz']
  have hs2:(S.aA x roots V)[x.frm.length+j]?=some rv:=by
   rw[S.aA,List.getElem?_append_right (by simp)]
   simp[hy,hrv]
  have hb:=rS (b9 hck hxm).1 hcl hin (x.frm.length+j)
  have hb2:=rS (b9 hck hxm).1 hcl hin (x.frm.length+j+1)
  have hsuc:=vu hs1 hs2
  have hmul:0<=hz (S.ap m x) (S.aA x roots V) (x.frm.length+j)*(z.length:Int):=Int.mul_nonneg hb.1 (by omega)
  have hmul2:hz (S.ap m x) (S.aA x roots V) (x.frm.length+j)*(z.length:Int)<=67108864*4:=Int.mul_le_mul hb.2 (by omega) (by omega) (by decide)
  simp only[sx,sy,SO.run,↓reduceIte,Nat.reduceEqDiff,h0,h1,h2,h4,h2',h4',h7,h8,h50,h51,h52,(hfb.tree (h':=g'.h) (Nat.le_refl _)).ints,(hw.tree (h':=g'.h) (Nat.le_refl _)).ints,hlj,hlr,hrl1,hrl2,ci,r1,hlt,q1,hzz.len,Option.isSome_some,Option.getD_some,
   an (show -9223372036854775808<=hz (S.ap m x) (S.aA x roots V) (x.frm.length+j)*(z.length:Int) by omega) (show hz (S.ap m x) (S.aA x roots V) (x.frm.length+j)*(z.length:Int)<9223372036854775808 by omega),<-hsuc,
   an (show -9223372036854775808<=hz (S.ap m x) (S.aA x roots V) (x.frm.length+j+1) by omega) (show hz (S.ap m x) (S.aA x roots V) (x.frm.length+j+1)<9223372036854775808 by omega),St]
  rfl
 ·rintro t df g' ⟨rfl,rfl,ht'⟩
  have e:x.frm.length+x.noise.length=(S.ap m x).length:=by simp[S.ap]
  rw[e,KD hin.len.symm] at ht'
  exact fin t ht'
theorem IJ (hck:S.am m=true)(hR:SlR NoP k .nil m.roots a)(hN:SlR NoP k .nil m.nodes b)(hw:SlR NoP k .nil roots w)(hroots:InC (S.af m) roots)(hV:Sol m roots act V)
  (hVb:∀(i:Nat) (x:Mech),m.nodes[i]?=some x->0<=V i/\V i<x.card) {r:Nat->Nat} (hr:∀(i:Nat) (x:Mech),m.nodes[i]?=some x->∀q∈x.frm,r q.toNat<r i) :
  ∀n i,r i=n->i<m.nodes.length->K7 d m act V a b w u p1 p2 p3 p4 iu hid i:=by
 obtain ⟨hs,hgr,hn1,hro,hno⟩:=aN hck
 obtain ⟨rows,r1,r2,r3,r4⟩:=hN.all
 have r1:∀h',ah h' 4 b=some rows:=r1
 have hry:=r4 (by omega)
 intro n
 induction n using Nat.strongRecOn with
 | _ n ih =>
  intro i hri hi L g K D hI hO kk
  obtain ⟨x,hx,-,hxm⟩:=af hi
  obtain ⟨hpf,hpn,hpo,hpc⟩:=dF hck hxm
  obtain ⟨row,q1,q2⟩:=r3 i x hx
  obtain ⟨fa,fb,fc,rfl,hfa,hfb,hfc⟩:=bW.1 q2
  have hlt:i<rows.length:=by omega
  have hLi:i<(L.map ci).length:=by rw[List.length_map,hO.1];exact hi
  obtain ⟨y,hy⟩:∃y,L[i]?=some y:=⟨_,List.getElem?_eq_getElem (by rw[hO.1];exact hi)⟩
  have hLy:(L.map ci)[i]?=some (ci y):=by rw[List.getElem?_map,hy];rfl
  have hOi:=hO.2 i hi
  rw[hy,Option.getD_some] at hOi
  have hVi:=hVb i x hx
  rw[Fj]
  refine pT pX (by simp[fj]) ?_
  simp only[fj,Gi,sx,SO.run,↓reduceIte,Nat.reduceEqDiff,hI.b1,hI.ow.rows,hLi,hLy,ci,Option.isSome_some,Option.getD_some]
  refine aw (fun hb=>?_) (fun hb=>?_)
  ·have hy0:0<=y:=by simpa using hb
   simp only[sx,SO.run,↓reduceIte,Nat.reduceEqDiff,hI.b1,hI.ow.rows,hLi,hLy,ci,Option.isSome_some,Option.getD_some]
   have e:y=V i:=by omega
   rw[e]
   exact kk g L hI hO (Keep.refl L) (by rw[hy,e];rfl) (Frm.refl g iu)
  ·have hy0:¬0<=y:=by simpa using hb
   have hai:act[i]?.getD 0<0:=by omega
   have hqne:∀j,j<g.nx->¬j=g.nx:=fun j hj=>by omega
   simp only[sx,sy,SO.run,↓reduceIte,Nat.reduceEqDiff,Nat.reduceAdd,Nat.reduceLeDiff,hI.b2,r1,hlt,q1,Option.isSome_some,Option.getD_some,hfa.len]
   have hF0:=(Frm.new g (AObj.cells 4 [[AV.int IntKind.i64 0,AV.nils,AV.nils,AV.nils]] 0 false false) iu)
   have hiug:iu<g.nx:=(hI.ow.lt hI.vi).2
   refine Jl (i:=i) (x:=x) (q:=g.nx) (L:=L) (k:=k) (roots:=roots) hck hN hroots hx hVb hfa (fun q hq=>ih (r q.toNat) (by have:=hr i x hx q hq;omega) q.toNat rfl (by have:=aE hpf q hq;omega)) (by simp[St,sx]) (by simp[sx]) (by simp[sx])
    (hI.fr (by simp) (fun j hj=>by simp[H.get_put,show ¬j=g.nx by omega])) hO (by simp;omega) fun t2 g2 L2 ht2 hI2 hO2 hK2 hF2=>?_
   obtain ⟨h0,h1,h2,h3,h4,h7,h29,h8,-⟩:=ht2
   have hq2:g2.h.get g.nx=.cells 4 [[.int .i64 x.card,fa,fb,fc]] 0 false false:=by
    rw[hF2.2.1 g.nx (by simp) (by omega)];simp[H.get_put]
   have hgn2:g.nx<g2.nx:=by have:=hF2.1;simp at this;omega
   simp only[gI,sx,sy,SO.run,↓reduceIte,h7,hq2,hfb.len]
   refine IM (i:=i) (x:=x) (q:=g.nx) (k:=k) (p1:=p1) (p2:=p2) (p4:=p4) (b:=b) (hid:=hid) hck hR hw hroots hx hVb hfb (by simp[St,sx,h0,h1,h2,h4,h7,h8]) (by simp[sx]) (by simp[sx]) hI2.b2 hI2.b4 fun t3 ht3=>?_
   obtain ⟨h0,h1,h2,h4,h7,h50,h8,-⟩:=ht3
   have hin:=ju hck hroots (V:=V) hxm fun q hq=>by
    have hql:=aE hpf q hq
    have hq2:q.toNat<m.nodes.length:=by omega
    have:=hVb q.toNat _ (List.getElem?_eq_getElem hq2)
    have hc:S.az m q=(m.nodes[q.toNat]).card:=by simp[S.az,List.getElem?_eq_getElem hq2]
    rw[hc];exact this
   have hib:=eB (b9 hck hxm).1 hin
   rw[<-hpo] at hib
   obtain ⟨z,hz⟩:=Int.eq_ofNat_of_zero_le hib.1
   have hzl:z<x.out.length:=by omega
   have hval:V i=x.out[z]:=by
    rw[hV i x hx,S.bu,if_neg (by omega),hz]
    show (x.out[z]?).getD 0=_
    rw[List.getElem?_eq_getElem hzl];rfl
   have hol:z<(x.out.map ci).length:=by simpa using hzl
   have hor:(x.out.map ci)[z]?=some (ci (V i)):=by rw[List.getElem?_map,List.getElem?_eq_getElem hzl,hval];rfl
   have hL2i:i<(L2.map ci).length:=by rw[List.length_map,hO2.1];exact hi
   obtain ⟨y2,hy2⟩:∃y2,L2[i]?=some y2:=⟨_,List.getElem?_eq_getElem (by rw[hO2.1];exact hi)⟩
   have hL2y:(L2.map ci)[i]?=some (ci y2):=by rw[List.getElem?_map,hy2];rfl
   rw[hz] at h8
   have how2:∀g':G,g2.nx<=g'.nx->g'.h=g2.h->Own g' 0 u 1 (L2.map ci):=fun g' hn hh=>hI2.ow.fr hn fun i _=>by rw[hh]
   have hru:kG u=true:=dq hI2.ow.rows hL2i
   have hrfc:ap fc=[]:=(hfc.tree (h':=.nil) (Nat.le_refl _)).refs
   simp only[gJ,sx,sy,sf,SO.run,↓reduceIte,Nat.reduceEqDiff,h0,h1,h7,h8,hI2.b1,hq2,hI2.ow.rows,hL2i,(hfc.tree (h':=g2.h) (Nat.le_refl _)).ints,hol,hor,ci,Option.isSome_some,Option.getD_some]
   refine C2 (rows:=L2.map ci) (row:=ci y2) (row':=ci (V i)) (b:=0) (how2 _ (by simp;omega) (by simp)) hL2y rfl rfl rfl fun g3 o3 n3 f3 l3=>?_
   have eL:(L2.map ci).set i (ci (V i))=(L2.set i (V i)).map ci:=by rw[List.map_set]
   rw[eL] at o3
   have hL3i:i<((L2.set i (V i)).map ci).length:=by simp;rw[hO2.1];exact hi
   have hL3y:((L2.set i (V i)).map ci)[i]?=some (ci (V i)):=by rw[List.getElem?_map,List.getElem?_set_self (by rw[hO2.1];exact hi)];rfl
   have hf3:∀j,j≠iu->g3.h.get j=g2.h.get j:=fun j hj=>by
    rw[f3 j (fun e=>hj (by rw[hI2.vi] at e;injection e with e;exact e.symm))];simp
   have hi1:=hI2.ne
   have hi2:=hI2.lt
   simp only[sx,sy,SO.run,↓reduceIte,Nat.reduceEqDiff,h0,h1,hf3 p1 (Ne.symm hi1.1),hI2.b1,o3.rows,hL3i,hL3y,ci,Option.isSome_some,Option.getD_some]
   refine ⟨?_,?_⟩
   ·simp only[List.reverse_cons,List.reverse_nil,List.nil_append,List.cons_append]
    exact aX [false,false,false,false,false,false,false,false,true] [] (by simp[All2,au,aF]) (by decide) (by simp)
   ·have hOi2:=hO2.2 i hi
    rw[hy2,Option.getD_some] at hOi2
    have hn3:g2.nx<=g3.nx:=by rw[n3];simp;omega
    have hset:∀j:Nat,(L2.set i (V i))[j]?.getD 0=if i=j then V i else L2[j]?.getD 0:=fun j=>by
     rw[List.getElem?_set]
     by_cases e:i=j
     ·subst e;rw[if_pos rfl,if_pos rfl,if_pos (by rw[hO2.1];exact hi)];rfl
     ·rw[if_neg e,if_neg e]
    have keep:Keep L2 (L2.set i (V i)):=fun j hj=>by
     rw[hset]
     split
     ·rename_i e;subst e
      rw[hy2,Option.getD_some] at hj ⊢
      omega
     ·rfl
    refine kk _ (L2.set i (V i)) ⟨?_,?_,?_,?_,?_,hI2.vi,hI2.ne,?_⟩ ⟨by rw[List.length_set];exact hO2.1,fun j hj=>?_⟩ (hK2.trans keep) (by rw[hset,if_pos rfl]) ?_
    ·simp only[bumpG_h];rw[hf3 p1 (Ne.symm hi1.1),hI2.b1]
    ·simp only[bumpG_h];rw[hf3 p2 (Ne.symm hi1.2.1),hI2.b2]
    ·simp only[bumpG_h];rw[hf3 p3 (Ne.symm hi1.2.2.1),hI2.b3]
    ·simp only[bumpG_h];rw[hf3 p4 (Ne.symm hi1.2.2.2),hI2.b4]
    ·exact o3.fr (by simp) fun j _=>by simp
    ·simp;omega
    ·rw[hset]
     split
     ·rename_i e;subst e;exact .inl rfl
     ·exact hO2.2 j hj
    ·have hF1:Frm g g2 iu:=by
      refine ⟨by omega,fun j hj hne=>?_,fun j hj=>?_⟩
      ·rw[hF2.2.1 j (by simp;omega) hne];simp[H.get_put,show ¬j=g.nx by omega]
      ·rcases hF2.2.2 j hj with h | h | h
       ·simp at h
        rcases h with h | h
        ·exact .inr (.inr (by omega))
        ·exact .inl h
       ·exact .inr (.inl h)
       ·simp at h;exact .inr (.inr (by omega))
     refine hF1.trans ⟨by simp;omega,fun j hj hne=>?_,fun j hj=>?_⟩
     ·simp only[bumpG_h];exact hf3 j hne
     ·simp at hj
      rcases hj with hj | hj
      ·rcases l3 j hj with h | h
       ·simp at h
       ·rw[hI2.vi] at h;injection h with h;exact .inr (.inl h.symm)
      ·exact .inl hj
theorem CK {P Pw Pa:Nat->Prop}{kw ka:Nat}{g:G}{v rv av:AV}(hd:0<d)(hm:Agg (⟨m,hid⟩:KnownM) P k g.h v)(hrv:SlR Pw kw g.h roots rv)(hav:SlR Pa ka g.h act av)(hck:S.am m=true)(hroots:InC (S.af m) roots)(ha:S.ax m act=true) :
  ∃z,ak C0 d N.aI [v,rv,av] g=.val z/\IT 0 (S.aR m roots act) z:=by
 obtain ⟨v',e,cs,rfl,hc⟩:=bP (aQ _) (by decide) d hm
 obtain ⟨a,b,rfl,hR,hN⟩:=iA.1 hc
 obtain ⟨w',e2,r2⟩:=be hrv d
 obtain ⟨u',e3,r3⟩:=be hav d
 obtain ⟨hs,hgr,hn1,hro,hno⟩:=aN hck
 have hal:=nu ha
 have hn5:=hs.nodes
 have hR':=hR.tree (h':=.nil) (k':=max (max k d) (max kw d)) (by omega)
 have hN':=hN.tree (h':=.nil) (k':=max (max k d) (max kw d)) (by omega)
 have hW':=(r2 .nil).tree (h':=.nil) (k':=max (max k d) (max kw d)) (by omega)
 obtain ⟨rk,hrk⟩:=D6 hck
 have hV:=Kb hck roots act
 have hVb:=y9 hck hroots ha hV
 rw[pY]
 refine aV sj (xs:=[.agg [.int .i64 m.grain,a,b,.int .i64 hid],w',u']) (by simp only[aH,e,e2,e3]) (by simp[gP]) (aU _) (by decide) hd ?_
 simp only[gP,jR,sx,sy,SO.run,↓reduceIte,Nat.reduceEqDiff,Nat.reduceAdd]
 have cw:=(r2 .nil).cell
 simp only[sx,sy,SO.run,↓reduceIte,Nat.reduceEqDiff,Nat.reduceAdd,cw.1,cw.2]
 generalize hg0:((G.empty.new (AObj.cells 4 [[AV.int IntKind.i64 m.grain,a,b,AV.int IntKind.i64 hid]] 0 false false)).new (AObj.cells 1 [[w']] 0 false false)).new (AObj.cells 1 [] 0 false false)=g0
 have f0:g0.h.get 0=.cells 4 [[.int .i64 m.grain,a,b,.int .i64 hid]] 0 false false:=by rw[<-hg0];simp[sx,H.get_put]
 have f1:g0.h.get 1=.cells 1 [[w']] 0 false false:=by rw[<-hg0];simp[sx,H.get_put]
 have f2:g0.h.get 2=.cells 1 [] 0 false false:=by rw[<-hg0];simp[sx]
 have fn:g0.nx=3:=by rw[<-hg0];simp[sx]
 clear hg0
 refine aJ (b:=2) (v:=.hsl 2 0 0 0 none) (rows:=[]) (new:=act.map ci) (.inr ⟨2,0,false,by omega,by omega,rfl,f2⟩) (by have:=(r3 g0.h).ints;exact this) (by omega) (by simp[aZ];omega) fun u g1 hu n1 fr1 vid1 _=>?_
 rw[List.nil_append] at hu
 have hne:∃iu,vid u=some iu:=by
  rcases hu with ⟨-,e⟩ | ⟨id,ep,lo,-,-,rfl,-⟩
  ·have:=congrArg List.length e;simp at this;rw[this] at hal;simp at hal;omega
  ·exact ⟨id,rfl⟩
 obtain ⟨iu,hiu⟩:=hne
 have hul:=hu.lt hiu
 have cu:=hu.cell
 have e0:g1.h.get 0=.cells 4 [[.int .i64 m.grain,a,b,.int .i64 hid]] 0 false false:=by rw[fr1 0 (by omega) (by simp[vid]),f0]
 have e1:g1.h.get 1=.cells 1 [[w']] 0 false false:=by rw[fr1 1 (by omega) (by simp[vid]),f1]
 have q0:¬(0:Nat)=g1.nx:=by omega
 have q1:¬(1:Nat)=g1.nx:=by omega
 have q2:¬g1.nx=g1.nx+1:=by omega
 have qi:¬iu=g1.nx:=by omega
 have qi2:¬iu=g1.nx+1:=by omega
 have hO0:OkL m act (S.V m roots act) act:=⟨hal.1,fun i hi=>by
  have hx:=List.getElem?_eq_getElem hi
  by_cases h:0<=act[i]?.getD 0
  ·left;rw[hV i _ hx,S.bu,if_pos h]
  ·right;omega⟩
 have hul':eD .slice u g1=.val (.int .i64 (m.nodes.length:Int)):=by rw[Bk hu.rows,List.length_map,hal.1]
 have hul2:∀g,eD .slice u g=.val (.int .i64 (m.nodes.length:Int)):=fun g=>by rw[bh hu.rows,List.length_map,hal.1]
 simp only[sx,sy,SO.run,↓reduceIte,Nat.reduceEqDiff,Nat.reduceLeDiff,cu.1,cu.2]
 rw[iE _ _ _ _ _ _ _ _ _ _ (by simp only[yO,List.length_cons,List.length_nil,Nat.zero_add]) (EZ _ _ _)]
 simp only[iW,sx,sy,SO.run,↓reduceIte,Nat.reduceEqDiff,Nat.reduceLeDiff,yO,q2,hul2]
 refine bc (m:=m.nodes.length) (by omega) (fun j t df g'=>df=[]/\St t [(7,.hptr g1.nx 0 0 0),(8,.hptr (g1.nx+1) 0 0 0)]/\∃L',RI g' g1.nx 0 (g1.nx+1) 1 m.grain hid a b w' u iu L'/\OkL m act (S.V m roots act) L'/\∀n,n<j->L'[n]?.getD 0=S.V m roots act n)
  ⟨rfl,by simp[St,sx],act,⟨?_,?_,?_,?_,?_,hiu,by omega,by simp;omega⟩,hO0,fun n hn=>absurd hn (Nat.not_lt_zero n)⟩ (by simp[sx]) (by simp[sx]) (by decide) (by rintro j t df g v s (rfl | rfl | rfl)<;>simp[St,sx]) ?_ ?_
 ·simp[H.get_put]
 ·simp[H.get_put,q0,e0]
 ·simp[H.get_put,IE]
 ·simp[H.get_put,q1,e1,show ¬g1.nx=0 by omega]
 ·exact (show Own g1 0 u 1 (act.map ci) from by
   rcases hu with h | ⟨id,ep,lo,h1,h2,h3,h4⟩
   ·exact .inl h
   ·exact .inr ⟨id,ep,lo,by omega,h2,h3,h4⟩).fr (by simp;omega) fun i hi=>by
    rw[hiu] at hi;injection hi with hi;subst hi
    simp[H.get_put,qi,qi2]
 ·rintro j t df g' hj ⟨rfl,⟨h7,h8,-⟩,L',hI',hO',hd'⟩ h16 h15
  simp only[sx,SO.run,↓reduceIte,Nat.reduceEqDiff,h8,h16,hI'.b3]
  refine IJ (k:=max (max k d) (max kw d)) hck hR' hN' hW' hroots hV hVb hrk (rk j) j rfl hj L' _ _ _ hI' hO' fun g2 L2 hI2 hO2 hK2 hv2 _=>?_
  simp only[sx,sy,↓reduceIte,Nat.reduceEqDiff,h7,h8,h15,h16,St]
  refine ⟨L2,hI2,hO2,fun n hn=>?_⟩
  by_cases e:n=j
  ·subst e;exact hv2
  ·have hn':n<j:=by omega
   rw[hK2 n (by rw[hd' n hn'];exact (hVb n _ (List.getElem?_eq_getElem (show n<m.nodes.length by omega))).1),hd' n hn']
 ·rintro t df g' ⟨rfl,⟨h7,h8,-⟩,L',hI',hO',hd'⟩
  simp only[jc,sx,SO.run,↓reduceIte,h7,hI'.b1]
  have eL:L'=S.aR m roots act:=by
   refine List.ext_getElem (by rw[hO'.1];simp[S.aR]) fun n h1 h2=>?_
   have:=hd' n (by rw[<-hO'.1];exact h1)
   rw[List.getElem?_eq_getElem h1,Option.getD_some] at this
   rw[this];simp[S.aR]
  have:=hI'.ow
  rw[eL] at this
  exact ⟨_,this.ints (by simp[S.aR];omega)⟩
end
end
end Hx
end
section
namespace Hx
open Go
noncomputable section
def m6 (l:List Int)(h:Int)(X:List Int)(j:Nat):List Int:=(List.range l.length).map fun i=>if j<=i then S.aE l h i else X[i]?.getD 0
theorem Hv {l X:List Int}{h:Int}{j:Nat}:(m6 l h X (j+1)).set j (S.aE l h j)=m6 l h X j:=by
 refine List.ext_getElem (by simp[m6]) fun i h1 h2=>?_
 rw[List.getElem_set]
 simp only[m6,List.getElem_map,List.getElem_range]
 split
 ·rename_i hi;subst hi;rw[if_pos (Nat.le_refl _)]
 ·rename_i hi
  by_cases hji:j+1<=i
  ·rw[if_pos hji,if_pos (by omega)]
  ·rw[if_neg hji,if_neg (by omega)]
theorem F8 (l X:List Int)(h:Int):m6 l h X 0=S.an l h:=by simp[m6,S.an]
theorem Gz {l X:List Int}(h:Int)(hX:X.length=l.length):m6 l h X l.length=X:=by
 refine List.ext_getElem (by simp[m6,hX]) fun i h1 h2=>?_
 have:i<l.length:=by simpa [m6] using h1
 simp only[m6,List.getElem_map,List.getElem_range]
 rw[if_neg (by omega),List.getElem?_eq_getElem h2,Option.getD_some]
theorem rG (l X:List Int)(h:Int)(j:Nat):(m6 l h X j).length=l.length:=by simp[m6]
theorem Gp {l X:List Int}{h:Int}{j i:Nat}(hi:i<l.length):∃y,((m6 l h X j).map ci)[i]?=some (ci y):=by
 exact ⟨(m6 l h X j)[i]'(by rw[rG];exact hi),by rw[List.getElem?_map,List.getElem?_eq_getElem (by rw[rG];exact hi)];rfl⟩
theorem ri {l:List Int}(hl:∀c∈l,0<c){h:Int}(hh:0<=h):InC l (S.an l h):=by
 refine Kp (by simp[S.an]) fun i c v hc hv=>?_
 have hi:=(List.getElem?_eq_some_iff.1 hc).1
 have hb:=lw hl hh hi
 rw[S.an,List.getElem?_map,List.getElem?_range hi] at hv
 injection hv with hv
 rw[List.getElem?_eq_getElem hi] at hc
 injection hc with hc
 rw[<-hv,<-hc];exact hb
theorem FY {l:List Int}{h:Int}{j:Nat}{c:Int}(hc:l[j]?=some c):S.aQ (l.drop j) h=S.aQ (l.drop (j+1)) h / c/\S.aE l h j=S.aQ (l.drop (j+1)) h % c:=by
 have hj:=(List.getElem?_eq_some_iff.1 hc).1
 have:l.drop j=c::l.drop (j+1):=by
  rw[List.drop_eq_getElem_cons hj];congr 1
  rw[List.getElem?_eq_getElem hj] at hc;injection hc
 exact ⟨by rw[this];rfl,by rw[S.aE,hc];rfl⟩
end
end Hx
end
section
namespace Hx
open Go
noncomputable section
def WdV (x:KnownM):VS:=fun P k h v=>∃p,v=.clo N.ap [] [p] /\
 ((∃id cs,p=.hptr id 0 0 0/\P id/\h.get id=.cells 4 [cs] 0 false false/\Rp.rp P k h x cs)\/∃t cs,p=.tptr t 4 [cs] 0 0/\t<=k/\Rp.rp NoP k .nil x cs)
theorem Kn (x:KnownM):Snb (WdV x) 2:=by
 refine ⟨fun {P k h v n} d r hn=>?_,fun {k h v n} r hn=>?_⟩
 ·obtain ⟨p,rfl,r⟩:=r
  obtain ⟨n,rfl⟩:∃q,n=q+2:=⟨n - 2,by omega⟩
  rcases r with ⟨id,cs,rfl,-,hg,r⟩ | ⟨t,cs,rfl,ht,r⟩
  ·obtain ⟨cs',e,r'⟩:=Rp.snap (n:=n) d r (by show (_:Nat)<=n;exact Nat.le_trans (show Rp.dp KnownM<=20 by decide) (by omega)) (by decide)
   obtain ⟨m,e2,l2⟩:=Rp.tag (n:=aK) r' (by decide)
   refine ⟨.clo N.ap [] [.tptr (Nat.max d (Nat.max m 0)) 4 [cs'] 0 0],?_,_,rfl,.inr ⟨_,cs',rfl,?_,r'⟩⟩
   ·have:Hx.snap h d (n+1) (.hptr id 0 0 0)=some (.tptr (Nat.max d (Nat.max m 0)) 4 [cs'] 0 0):=by
     simp only[Hx.snap,hg,show Nat.beq 0 0=true from rfl,aH,e,fd,gH,e2]
    simp only[Hx.snap,aH] at this ⊢
    rw[this]
   ·show max d (max m 0)<=max k d
    omega
  ·refine ⟨.clo N.ap [] [.tptr t 4 [cs] 0 0],rfl,_,rfl,.inr ⟨t,cs,rfl,by omega,Rp.mono r (fun i hi=>hi.elim) (by omega)⟩⟩
 ·obtain ⟨p,rfl,r⟩:=r
  obtain ⟨n,rfl⟩:∃q,n=q+2:=⟨n - 2,by omega⟩
  rcases r with ⟨id,cs,rfl,hP,-⟩ | ⟨t,cs,rfl,ht,r⟩
  ·exact hP.elim
  ·exact ⟨Nat.max t 0,rfl,by show max t 0<=k;omega⟩
theorem yM {d:Nat}{g:G}{v:AV}{x:KnownM}(hd:0<d)(hm:Agg x NoP 0 g.h v) :
  ∃cs,ak C0 d N.aE [v] g=.val (.clo N.ap [] [.tptr 0 4 [cs] 0 0])/\Rp.rp NoP 0 .nil x cs:=by
 have e0:=cj d hm
 obtain ⟨cs,rfl,hc⟩:=hm
 obtain ⟨a,b,rfl,hR,hN⟩:=iA.1 hc
 have key:∃r,ak C0 d N.aE [.agg [.int .i64 x.m.grain,a,b,.int .i64 x.hidden]] g=.val r/\WdV x NoP 0 .nil r:=by
  rw[nj]
  refine aV n8 (xs:=[.agg [.int .i64 x.m.grain,a,b,.int .i64 x.hidden]]) (by simp only[aH,e0]) (by simp[eI]) (Kn x) (by decide) hd ?_
  simp only[eI,gK,sx,sy,SO.run,↓reduceIte,Nat.reduceEqDiff,Nat.reduceAdd]
  exact ⟨fun _=>True,_,rfl,.inl ⟨0,_,rfl,trivial,by simp[sx],Rp.tree hc (Nat.le_refl _)⟩⟩
 obtain ⟨r,h1,p,rfl,h2⟩:=key
 rcases h2 with ⟨id,cs,rfl,hP,-⟩ | ⟨t,cs,rfl,ht,hr⟩
 ·exact hP.elim
 ·have:t=0:=by omega
  subst this
  exact ⟨cs,h1,hr⟩
theorem r_ (fo l sz i off:Nat)(rows:List (List AV)):Gj fo (.tptr l sz rows i off)=.val (.tptr l sz rows i (off+fo)):=rfl
theorem md (ag:Bool)(n l sz off:Nat)(row:List AV)(g:G):kI ag n (.tptr l sz [row] 0 off) g=orV (bI ag n row off):=rfl
def wts (m:Causal)(h:Int)(j:Nat):Int:=S.aa (((List.range m.roots.length).drop j).map (S.aN m h))
theorem IB (m:Causal)(h:Int):wts m h 0=S.aO m h:=rfl
theorem IL (m:Causal)(h:Int):wts m h m.roots.length=1:=by
 unfold wts;rw[List.drop_of_length_le (by simp)];rfl
theorem HP {m:Causal}(h:Int){j:Nat}(hj:j<m.roots.length):wts m h j=S.aN m h j*wts m h (j+1):=by
 unfold wts
 rw[List.drop_eq_getElem_cons (show j<(List.range m.roots.length).length by simpa using hj),List.map_cons,bV,List.getElem_range]
theorem t7 {m:Causal}(hck:S.am m=true){h:Int}(hh:0<=h)(j:Nat):0<=wts m h j/\wts m h j<=429981696:=by
 have hs:=(aN hck).1.roots
 exact pj hck hh (fun r hr=>by have:=List.mem_range.1 (List.mem_of_mem_drop hr);omega) (by simp;omega)
section
variable {d:Nat}{m:Causal}{a b:AV}
theorem Dj {y u:AV}{h j14:Int}{bo:Nat}{X:List Int}{t:T}{g:G}{Q:QT}(hck:S.am m=true)(hR:SlR NoP 0 .nil m.roots a)(hh:0<=h/\h<S.ak m)(hX:X.length=m.roots.length)
  (ht:St t [(0,y),(1,.tptr 0 4 [[.int .i64 m.grain,a,b,.int .i64 (S.ak m)]] 0 0),(3,u),(14,.int .i64 j14),(15,.int .i64 h),(5,.int .i64 1),(6,.int .i64 h)])
  (hi:tat t 7=.int .i64 ((m.roots.length:Int) - 1)) (hu:Own g bo u 1 (X.map ci))
  (fin:∀t g',St t [(0,y),(1,.tptr 0 4 [[.int .i64 m.grain,a,b,.int .i64 (S.ak m)]] 0 0),(3,u),(14,.int .i64 j14),(15,.int .i64 h),(5,.int .i64 (S.aO m h))]->Own g' bo u 1 ((S.an (S.af m) h).map ci)->g'.nx=g.nx->(∀i,vid u≠some i->g'.h.get i=g.h.get i)->Q (.exit 2) t [] g') :
  wpL (wp C0 d none cP) Q t [] g:=by
 obtain ⟨hs,hgr,hn1,hro,hno⟩:=aN hck
 have hr8:=hs.roots
 have hlb:=dw hs
 have hll:=dI m
 have hhb:=eF hs m.roots.length
 rw[List.take_length] at hhb
 have hhb:1<=S.ak m/\S.ak m<=4 ^ 8:=hhb
 obtain ⟨rrows,p1,p2,p3,p4⟩:=hR.all
 have p1:∀h',ah h' 1 a=some rrows:=p1
 simp only[cP]
 refine j4 (m:=m.roots.length) (by omega) (fun j t df g'=>df=[]/\St t [(0,y),(1,.tptr 0 4 [[.int .i64 m.grain,a,b,.int .i64 (S.ak m)]] 0 0),(3,u),(14,.int .i64 j14),(15,.int .i64 h),(5,.int .i64 (wts m h j)),(6,.int .i64 (S.aQ ((S.af m).drop j) h))] /\
   Own g' bo u 1 ((m6 (S.af m) h X j).map ci)/\g'.nx=g.nx/\∀i,vid u≠some i->g'.h.get i=g.h.get i)
  ⟨rfl,?_,?_,rfl,fun _ _=>rfl⟩ hi (by decide) (by rintro j t df g v s (rfl | rfl | rfl | rfl | rfl)<;>simp[sx,St]) ?_ ?_
 ·rw[IL,<-hll,List.drop_length];exact ht
 ·rw[<-hll,Gz h (by rw[hX,hll])];exact hu
 ·rintro j t df g' hj ⟨rfl,⟨h0,h1,h3,h14,h15,h5,h6,-⟩,ho,hn,hf⟩ h7
  obtain ⟨x,hx,-,hxm⟩:=af hj
  obtain ⟨row,q1,q2⟩:=p3 j x hx
  obtain ⟨z,rfl,hz⟩:=dk.1 q2
  have hlt:j<rrows.length:=by omega
  have hc0:=hs.len x hxm
  obtain ⟨d1,d2⟩:=FY (l:=S.af m) (h:=h) (j:=j) (c:=(x.length:Int)) (by simp[S.af,hx])
  obtain ⟨b0,b1⟩:=vG (l:=(S.af m).drop (j+1)) (h:=h) (fun c hc=>by have:=hlb c (List.mem_of_mem_drop hc);omega) (by omega)
  obtain ⟨b2,b3⟩:=vG (l:=(S.af m).drop j) (h:=h) (fun c hc=>by have:=hlb c (List.mem_of_mem_drop hc);omega) (by omega)
  obtain ⟨e,he⟩:=Gp (l:=S.af m) (X:=X) (h:=h) (j:=j+1) (i:=j) (by omega)
  have hlr:j<((m6 (S.af m) h X (j+1)).map ci).length:=by rw[List.length_map,rG];omega
  simp only[sx,sy,SO.run,↓reduceIte,Nat.reduceEqDiff,h1,h3,h6,h7,r_,md,p1,hlt,q1,hz.len,ho.rows,hlr,Option.isSome_some,Option.getD_some,bC .i64 b0 (show (0:Int)<x.length by omega)]
  refine bp (row:=ci e) (row':=ci (S.aE (S.af m) h j)) ho he rfl rfl (by rw[d2];rfl) fun g2 o2 n2 f2'=>?_
  rw[<-List.map_set,Hv] at o2
  have hb:=lw (l:=S.af m) (fun c hc=>by have:=hlb c hc;omega) hh.1 (i:=j) (by omega)
  have hlj:(S.af m)[j]'(by omega)=(x.length:Int):=by
   simp only[S.af,List.getElem_map]
   rw[List.getElem?_eq_getElem hj] at hx;injection hx with hx;rw[hx]
  rw[hlj] at hb
  obtain ⟨n,hn'⟩:=Int.eq_ofNat_of_zero_le hb.1
  have hnl:n<x.length:=by omega
  have hval:((m6 (S.af m) h X j).map ci)[j]?=some (ci (n:Int)):=by
   rw[List.getElem?_map,m6,List.getElem?_map,List.getElem?_range (by omega)]
   show some (ci (if j<=j then S.aE (S.af m) h j else _))=_
   rw[if_pos (Nat.le_refl _),hn']
  have hvl:j<((m6 (S.af m) h X j).map ci).length:=by rw[List.length_map,rG];omega
  have hw:S.aN m h j=x[n]:=by
   unfold S.aN;rw[hx,Option.getD_some,hn'];show (x[(n:Int).toNat]?).getD 0=_;rw[Int.toNat_natCast,List.getElem?_eq_getElem hnl];rfl
  have hxl:(x.map ci)[n]?=some (ci (S.aN m h j)):=by rw[List.getElem?_map,List.getElem?_eq_getElem hnl,hw];rfl
  have hxn:n<(x.map ci).length:=by simpa using hnl
  have w1:=t7 hck hh.1 (j+1)
  have w2:=t7 hck hh.1 j
  have w3:=HP (m:=m) h hj
  rw[Int.mul_comm] at w3
  simp only[sx,sy,SO.run,↓reduceIte,Nat.reduceEqDiff,h0,h1,h3,h5,h6,h7,h14,h15,r_,md,p1,hlt,q1,hz.len,o2.rows,hvl,hval,(hz.tree (h':=g2.h) (Nat.le_refl _)).ints,hxn,hxl,ci,Option.isSome_some,Option.getD_some,pI .i64 b0 (show (0:Int)<x.length by omega),<-d1,St,<-w3,
   an (show -9223372036854775808<=S.aQ ((S.af m).drop j) h by omega) (show S.aQ ((S.af m).drop j) h<9223372036854775808 by omega),an (show -9223372036854775808<=wts m h j by omega) (show wts m h j<9223372036854775808 by omega)]
  exact ⟨o2,by rw[n2,hn],fun i hi=>by rw[f2' i hi,hf i hi]⟩
 ·rintro t df g' ⟨rfl,⟨h0,h1,h3,h14,h15,h5,h6,-⟩,ho,hn,hf⟩
  rw[F8] at ho
  exact fin t g' ⟨h0,h1,h3,h14,h15,h5,trivial⟩ ho hn hf
theorem Di {g0:G}{id:Nat}{K:AV->G->Prop}(hck:S.am m=true)(hR:SlR NoP 0 .nil m.roots a)(J:Nat->H->Prop)(hJ:∀j h h',(∀i,i<g0.nx->h'.get i=h.get i)->J j h->J j h')
  (step:∀(j:Nat) (u:AV) (g:G) (K':AV->G->Prop) (D:ADf->Prop),(j:Int)<S.ak m->g0.nx<=g.nx->J j g.h->SlR (fun i=>g0.nx<=i) 0 g.h (S.an (S.af m) j) u ->
   (∀g',J (j+1) g'.h->g.nx<=g'.nx->(∀i,g0.nx<=i->i<g.nx->g'.h.get i=g.h.get i)->K' (.bool true) g')->(dQ (I C0) d id [u,.int .i64 (S.aO m j)] g).sat K' g D)
  (h0:J 0 g0.h) (fin:∀g',J (S.ak m).toNat g'.h->g0.nx<=g'.nx->K (.tup []) g') :
  wp C0 d none bz.code (fnQ C0 d bz.res K) (co 0 [.yld id,.tptr 0 4 [[.int .i64 m.grain,a,b,.int .i64 (S.ak m)]] 0 0] .nil) [] g0:=by
 obtain ⟨hs,hgr,hn1,hro,hno⟩:=aN hck
 have hr8:=hs.roots
 have hll:=dI m
 have hhb:=eF hs m.roots.length
 rw[List.take_length] at hhb
 have hhb:1<=S.ak m/\S.ak m<=4 ^ 8:=hhb
 have hhn:((S.ak m).toNat:Int)=S.ak m:=Int.toNat_of_nonneg (by omega)
 simp only[bz,sx,sy,SO.run,↓reduceIte,r_,md,hR.len]
 refine ji (b:=g0.nx) (n:=m.roots.length) (by simp[aZ];omega) (by simp[aZ];omega) (Nat.le_refl _) fun u g1 hu n1 fr1 v1=>?_
 simp only[sx,sy,SO.run,↓reduceIte,Nat.reduceEqDiff,r_,md]
 simp only[eQ,eU]
 refine bc (m:=(S.ak m).toNat) (by omega) (fun j t df g=>df=[]/\St t [(0,.yld id),(1,.tptr 0 4 [[.int .i64 m.grain,a,b,.int .i64 (S.ak m)]] 0 0),(3,u)]/\J j g.h/\g0.nx<g.nx/\∃X:List Int,X.length=m.roots.length/\Own g g0.nx u 1 (X.map ci))
  ⟨rfl,by simp[St,sx],hJ 0 _ _ (fun i hi=>fr1 i hi) h0,by omega,List.replicate m.roots.length 0,by simp,by rw[List.map_replicate];exact hu⟩ (by simp[sx]) (by simp[sx,hhn]) (by decide) (by rintro j t df g v s (rfl | rfl | rfl)<;>simp[St,sx]) ?_ ?_
 ·rintro j t df g hj ⟨rfl,⟨h0,h1,h3,-⟩,hJj,hnx,X,hX,ho⟩ h15 h14
  have hul:∀g,eD .slice u g=.val (.int .i64 (m.roots.length:Int)):=fun g=>by rw[bh ho.rows];simp[hX]
  have hjh:(j:Int)<S.ak m:=by omega
  simp only[sx,SO.run,↓reduceIte,Nat.reduceEqDiff,h3,h15,hul,an (show -9223372036854775808<=(m.roots.length:Int) - 1 by omega) (show (m.roots.length:Int) - 1<9223372036854775808 by omega)]
  refine Dj (y:=.yld id) (u:=u) (h:=(j:Int)) (j14:=S.ak m) (bo:=g0.nx) (X:=X) (a:=a) (b:=b) hck hR ⟨Int.natCast_nonneg j,hjh⟩ hX (by simp[St,sx,h0,h1,h3,h14,h15,hhn]) (by simp[sx]) ho fun t2 g2 ht2 ho2 hn2 hf2=>?_
  obtain ⟨h0,h1,h3,h14,h15,h5,-⟩:=ht2
  have hvu:vid u=some g0.nx:=v1
  have hJ2:J j g2.h:=hJ j _ _ (fun i hi=>hf2 i (by rw[hvu];intro e;injection e with e;omega)) hJj
  have hsl:SlR (fun i=>g0.nx<=i) 0 g2.h (S.an (S.af m) j) u:=Own.sl (α:=Int) ho2 (by simp[S.an];omega) (All2.of_map (fun a=>aS.2 rfl) _) fun i hi=>(ho2.lt hi).1
  simp only[eR,sx,SO.run,↓reduceIte,Nat.reduceEqDiff,h0,h3,h5]
  show (dQ (I C0) d id [u,.int .i64 (S.aO m j)] g2).sat _ _ _
  refine step j u g2 _ _ hjh (by omega) hJ2 hsl fun g3 hJ3 hn3 hf3=>?_
  simp only[sx,sy,SO.run,↓reduceIte,Nat.reduceEqDiff,h0,h1,h3,h14,h15,Bool.not_true,St,hhn]
  exact ⟨hJ3,by omega,S.an (S.af m) j,by simp[S.an,hll],ho2.fr hn3 fun i hi=>hf3 i (ho2.lt hi).1 (ho2.lt hi).2⟩
 ·rintro t df g ⟨rfl,-,hJj,hnx,-⟩
  simp only[sx,↓reduceIte]
  exact fin g hJj (by omega)
end
end
end Hx
end
section
namespace Hx
open Go
noncomputable section
theorem tT {C:Cfg}{d:Nat}{r:List SR}{t:T}{g:G}{K:AV->G->Prop}{id:Nat}(hg:g.h.get id=.dfr true)(h:t5 r t (g.put id (.dfr false)) fun vs=>K (fX vs) (g.put id (.dfr false))):xX C d r t [.mark id] g K:=by
 unfold xX
 have:dX (I C) d [.mark id] g=some (g.put id (.dfr false)):=by
  simp only[dX,G.get_eq,hg]
 rw[this];exact h
theorem AL:C0.ext N.ap=none:=by kernel_rfl
theorem wW {d nt:Nat}{m:Causal}{y p q:Nat}{ca cb:SC}{Q:QT}{t:T}{g:G}{cs:List AV}(hck:S.am m=true)(hcs:Rp.rp NoP 0 .nil (⟨m,S.ak m⟩:KnownM) cs)
  (hv:tat t y=.clo N.ap [] [.tptr 0 4 [cs] 0 0]) (hp:p<nt) (hq:q<nt) (J:Nat->H->Prop) (hJ:∀j h h',(∀i,i<g.nx->h'.get i=h.get i)->J j h->J j h') (h0:J 0 g.h)
  (step:∀(j:Nat) (u:AV) (g1:G),(j:Int)<S.ak m->J j g1.h->g.nx+2<=g1.nx->SlR (fun i=>g.nx+2<=i) 0 g1.h (S.an (S.af m) j) u ->
   wp C0 d (some (g.nx+1)) ca (fun e t1 df g1'=>e=.norm/\df=[]/\g1'=g1/\∀g2:G,g2.nx=g1.nx->(∀i,i≠g.nx+1->g2.h.get i=g1.h.get i) ->
    wp C0 d (some (g.nx+1)) cb (fun e _ df g3=>e=.norm/\df=[]/\J (j+1) g3.h/\g2.nx<=g3.nx/\∀i,g.nx<=i->i<g2.nx->g3.h.get i=g2.h.get i) t1 [] g2)
    (fT (fT t p u) q (.int .i64 (S.aO m j))) [] g1)
  (fin:∀g',J (S.ak m).toNat g'.h->g.nx+2<=g'.nx->g'.h.get g.nx=.dfr true->Q .norm t [.mark g.nx] g') :
  wp C0 d none (.rng nt (.t y) [p,q] ca cb) Q t [] g:=by
 obtain ⟨a,b,rfl,hR,hN⟩:=iA.1 hcs
 refine FZ (fn:=N.ap) (first:=[]) (cap:=[.tptr 0 4 [[.int .i64 m.grain,a,b,.int .i64 (S.ak m)]] 0 0]) (s:=bz) hv AL nG (by simp[bz]) ?_
 intro assign body ha hb
 have e1:((g.new (.dfr true)).new (.loop nt t [p,q] assign body g.nx .ready none)).nx=g.nx+2:=by simp
 refine Di (g0:=(g.new (.dfr true)).new (.loop nt t [p,q] assign body g.nx .ready none)) (id:=g.nx+1) hck hR
  (fun j h=>J j h/\h.get g.nx=.dfr true/\h.get (g.nx+1)=.loop nt t [p,q] assign body g.nx .ready none) ?_ ?_ ?_ ?_
 ·rintro j h h' hh ⟨a1,a2,a3⟩
  rw[e1] at hh
  exact ⟨hJ j h h' (fun i hi=>hh i (by omega)) a1,by rw[hh _ (by omega),a2],by rw[hh _ (by omega),a3]⟩
 ·rintro j u g1 K' D hj hn ⟨a1,a2,a3⟩ hsl kk
  rw[e1] at hn kk hsl
  refine Gk a3 ha hb (t':=fT (fT t p u) q (.int .i64 (S.aO m j))) ?_ ?_
  ·simp only[eo,aa,Nat.blt_eq,if_pos hp,if_pos hq];rfl
  ·refine cM _ (step j u g1 hj a1 (by omega) hsl) ?_
   rintro e t1 df g1' ⟨rfl,rfl,rfl,h⟩
   refine ⟨rfl,rfl,rfl,?_⟩
   have hl:g.nx+1<g1'.nx:=by omega
   refine cM _ (h (g1'.put (g.nx+1) (.loop nt t [p,q] assign body g.nx .busy none)) (by simp) (fun i hi=>by simp[H.get_put,hi])) ?_
   rintro e t2 df g3 ⟨rfl,rfl,b1,b2,b3⟩
   have b4:g3.h.get (g.nx+1)=.loop nt t [p,q] assign body g.nx .busy none:=by rw[b3 _ (by omega) (by simpa using hl)];simp[H.get_put]
   have b5:g3.h.get g.nx=.dfr true:=by
    rw[b3 _ (by omega) (by simp;omega)];simp[H.get_put,a2]
   refine ⟨rfl,rfl,b4,kk _ ⟨hJ _ g3.h _ (fun i hi=>by simp[H.get_put,show ¬i=g.nx+1 by omega]) b1,?_,?_⟩ (by simpa using b2) fun i h1 h2=>?_⟩
   ·simp[H.get_put,b5]
   ·simp[H.get_put]
   ·have hne:¬i=g.nx+1:=by omega
    have:=b3 i (by omega) (by simpa using h2)
    simp[H.get_put,hne] at this ⊢
    exact this
 ·refine ⟨hJ 0 g.h _ (fun i hi=>?_) h0,?_,?_⟩
  ·simp[H.get_put,show ¬i=g.nx+1 by omega,show ¬i=g.nx by omega]
  ·simp[H.get_put]
  ·simp[H.get_put]
 ·rintro g' ⟨a1,a2,a3⟩ hn
  rw[e1] at hn
  refine ⟨_,_,_,_,_,_,a3,fin _ (hJ _ g'.h _ (fun i hi=>by simp[H.get_put,show ¬i=g.nx+1 by omega]) a1) (by simpa using hn) ?_⟩
  simp[H.get_put,a2]
end
end Hx
end
section
namespace Hx
open Go
noncomputable section
def aP {α:Type}(f:Nat->α)(k:Nat)(x:α):Nat->α:=fun j=>if j=k then x else f j
theorem aB {α:Type}(f:Nat->α)(k:Nat)(x:α):aP f k x k=x:=if_pos rfl
theorem ay {α:Type}(f:Nat->α){k j:Nat}(x:α)(h:j≠k):aP f k x j=f j:=if_neg h
def Fam (g:G)(b K:Nat)(V:Nat->AV)(W:Nat->List (List AV)):Prop :=
 (∀k,k<K->Own g b (V k) 1 (W k))/\∀k l,k<K->l<K->k≠l->∀id,vid (V k)=some id->vid (V l)≠some id
theorem Fam.step {g g':G}{b K:Nat}{V:Nat->AV}{W:Nat->List (List AV)}(h:Fam g b K V W)(hn:g.nx<=g'.nx)(hf:∀i,b<=i->i<g.nx->g'.h.get i=g.h.get i):Fam g' b K V W :=
 ⟨fun k hk=>(h.1 k hk).fr hn fun i hi=>hf i ((h.1 k hk).lt hi).1 ((h.1 k hk).lt hi).2,h.2⟩
theorem Fam.set {g g':G}{b K:Nat}{V:Nat->AV}{W:Nat->List (List AV)}(h:Fam g b K V W){k:Nat}{v':AV}{rows':List (List AV)}(ho:Own g' b v' 1 rows')(hn:g.nx<=g'.nx)
  (hf:∀i,b<=i->i<g.nx->vid (V k)≠some i->g'.h.get i=g.h.get i) (hk:k<K) (hv:vid v'=vid (V k)\/∃i,vid v'=some i/\g.nx<=i):Fam g' b K (aP V k v') (aP W k rows'):=by
 refine ⟨fun j hj=>?_,fun j l hj hl hne id e1 e2=>?_⟩
 ·by_cases e:j=k
  ·subst e;rw[aB,aB];exact ho
  ·rw[ay _ _ e,ay _ _ e]
   exact (h.1 j hj).fr hn fun i hi=>hf i ((h.1 j hj).lt hi).1 ((h.1 j hj).lt hi).2 fun e2=>h.2 j k hj hk e i hi e2
 ·have key:∀j,j<K->j≠k->∀id,vid (V j)=some id->vid v'≠some id:=fun j hj hne id e1 e2=>by
   rcases hv with hv | ⟨i,hv,hi⟩
   ·exact h.2 j k hj hk hne id e1 (hv ▸ e2)
   ·rw[hv] at e2;injection e2 with e2;have:=((h.1 j hj).lt e1).2;omega
  by_cases a:j=k
  ·subst a
   rw[aB] at e1
   rw[ay _ _ (Ne.symm hne)] at e2
   exact key l hl (Ne.symm hne) id e2 e1
  ·rw[ay _ _ a] at e1
   by_cases c:l=k
   ·subst c;rw[aB] at e2;exact key j hj a id e1 e2
   ·rw[ay _ _ c] at e2;exact h.2 j l hj hl hne id e1 e2
def dz (c:Nat->Int)(V:Nat->AV)(i:Nat):List AV:=[.int .i64 (c i),V (3*i+1),V (3*i+2),V (3*i+3)]
def fB (n:Nat)(c:Nat->Int)(V:Nat->AV):List (List AV):=(List.range n).map (dz c V)
theorem bS (n:Nat)(c:Nat->Int)(V:Nat->AV):(fB n c V).length=n:=by simp[fB]
theorem bJ {n:Nat}(c:Nat->Int)(V:Nat->AV){i:Nat}(h:i<n):(fB n c V)[i]?=some (dz c V i):=by simp[fB,h]
theorem gS {n:Nat}{c c':Nat->Int}{V V':Nat->AV}{i:Nat}{row:List AV}(hr:row=dz c' V' i)(h:∀j,j≠i->dz c' V' j=dz c V j):(fB n c V).set i row=fB n c' V':=by
 apply List.ext_getElem?
 intro j
 by_cases e:i=j
 ·subst e
  by_cases hi:i<n
  ·rw[List.getElem?_set_self (by rw[bS];exact hi),bJ _ _ hi,hr]
  ·rw[List.getElem?_eq_none (by simp[fB];omega),List.getElem?_eq_none (by simp[fB];omega)]
 ·rw[List.getElem?_set_ne e]
  by_cases hj:j<n
  ·rw[bJ _ _ hj,bJ _ _ hj,h j (Ne.symm e)]
  ·rw[List.getElem?_eq_none (by simp[fB];omega),List.getElem?_eq_none (by simp[fB];omega)]
theorem vC {c:Nat->Int}{V:Nat->AV}{i j f:Nat}{v:AV}(hf:1<=f/\f<=3)(h:j≠i):dz c (aP V (3*i+f) v) j=dz c V j:=by
 unfold dz
 rw[ay V _ (show 3*j+1≠3*i+f by omega),ay V _ (show 3*j+2≠3*i+f by omega),ay V _ (show 3*j+3≠3*i+f by omega)]
structure ME where
 (n p4 q i5 p7 i9 b:Nat)
 (nv w5 w9 e7:AV)
 (gr:Int)
 (row0:List AV)
 (prow:List (List AV))
 (us:List UInt8)
structure ME.Ok (e:ME):Prop where
 ord:1<e.q/\e.q<e.p4/\e.p4<e.i5/\e.i5<e.p7/\e.p7<e.i9/\e.i9<e.b
 n1:1<=e.n/\e.n<=4
 g1:2<=e.gr/\e.gr<=12
 vn:vid e.nv=some e.q
 v5:vid e.w5=some e.i5
 v9:vid e.w9=some e.i9
 l7:SlR NoP 0 .nil e.us e.e7
structure MI (e:ME) (g:G) (V:Nat->AV) (W:Nat->List (List AV)) (c:Nat->Int) (ow:List Bool) (cap:Nat):Prop where
 h0:g.h.get 0=.cells 5 [e.row0] 0 false false
 h1:g.h.get 1=.cells 3 [[.int .i64 0,.nils,.nils]] 0 false false
 hN:Own g 0 e.nv 4 (fB e.n c V)
 h4:g.h.get e.p4=.cells 3 [[.int .i64 e.gr,V 0,e.nv]] 0 false false
 h5:Own g 0 e.w5 4 e.prow
 h7:∃cc:Int,0<=cc/\cc<=(cap:Int)/\g.h.get e.p7=.cells 2 [[e.e7,.int .i64 cc]] 0 false false
 h9:Own g 0 e.w9 1 (ow.map fun x=>[.bool x])
 fam:Fam g e.b (3*e.n+1) V W
 nx:e.b<=g.nx
section
variable {e:ME}{g g':G}{V:Nat->AV}{W:Nat->List (List AV)}{c:Nat->Int}{ow:List Bool}{cap:Nat}
theorem bO {v:AV}{i j:Nat}(h:vid v=some i)(h':vid v=some j):i=j:=by rw[h] at h';injection h'
theorem MI.step (h:MI e g V W c ow cap)(he:e.Ok)(hn:g.nx<=g'.nx)(hf:∀i,i<g.nx->g'.h.get i=g.h.get i):MI e g' V W c ow cap:=by
 have hb:=h.nx
 have ho:=he.ord
 exact { h0:=by rw[hf 0 (by omega),h.h0],h1:=by rw[hf 1 (by omega),h.h1],hN:=h.hN.fr hn fun i hi=>hf i (h.hN.lt hi).2,h4:=by rw[hf _ (by omega),h.h4]
         h5:=h.h5.fr hn fun i hi=>hf i (h.h5.lt hi).2,h7:=by obtain ⟨cc,a1,a2,a3⟩:=h.h7;exact ⟨cc,a1,a2,by rw[hf _ (by omega),a3]⟩
         h9:=h.h9.fr hn fun i hi=>hf i (h.h9.lt hi).2,fam:=h.fam.step hn fun i _ hi=>hf i hi,nx:=by omega }
theorem MI.same (h:MI e g V W c ow cap)(he:e.Ok)(hf:g'.h=g.h)(hn:g.nx<=g'.nx):MI e g' V W c ow cap:=h.step he hn fun i _=>by rw[hf]
structure MP (e:ME) (g:G) (V V':Nat->AV) (W:Nat->List (List AV)) (c:Nat->Int) (ow:List Bool) (cap:Nat):Prop where
 h0:g.h.get 0=.cells 5 [e.row0] 0 false false
 h1:g.h.get 1=.cells 3 [[.int .i64 0,.nils,.nils]] 0 false false
 hN:Own g 0 e.nv 4 (fB e.n c V)
 h4:g.h.get e.p4=.cells 3 [[.int .i64 e.gr,V 0,e.nv]] 0 false false
 h5:Own g 0 e.w5 4 e.prow
 h7:∃cc:Int,0<=cc/\cc<=(cap:Int)/\g.h.get e.p7=.cells 2 [[e.e7,.int .i64 cc]] 0 false false
 h9:Own g 0 e.w9 1 (ow.map fun x=>[.bool x])
 fam:Fam g e.b (3*e.n+1) V' W
 nx:e.b<=g.nx
theorem MI.grow (h:MI e g V W c ow cap)(he:e.Ok){k:Nat}(hk:k<3*e.n+1){v':AV}{rows':List (List AV)}(ho:Own g' e.b v' 1 rows')(hn:g.nx<=g'.nx)
  (hf:∀i,i<g.nx->vid (V k)≠some i->g'.h.get i=g.h.get i) (hv:vid v'=vid (V k)\/∃i,vid v'=some i/\g.nx<=i):MP e g' V (aP V k v') (aP W k rows') c ow cap:=by
 have hb:=h.nx
 have hoo:=he.ord
 have hf':∀i,i<e.b->g'.h.get i=g.h.get i:=fun i hi=>hf i (by omega) fun e2=>by have:=((h.fam.1 k hk).lt e2).1;omega
 exact { h0:=by rw[hf' 0 (by omega),h.h0],h1:=by rw[hf' 1 (by omega),h.h1],hN:=h.hN.fr hn fun i hi=>hf' i (by have:=bO he.vn hi;omega),h4:=by rw[hf' _ (by omega),h.h4]
         h5:=h.h5.fr hn fun i hi=>hf' i (by have:=bO he.v5 hi;omega),h7:=by obtain ⟨cc,a1,a2,a3⟩:=h.h7;exact ⟨cc,a1,a2,by rw[hf' _ (by omega),a3]⟩
         h9:=h.h9.fr hn fun i hi=>hf' i (by have:=bO he.v9 hi;omega),fam:=h.fam.set ho hn (fun i _ hi=>hf i hi) hk hv,nx:=by omega }
theorem MP.step {V':Nat->AV}(h:MP e g V V' W c ow cap)(he:e.Ok)(hn:g.nx<=g'.nx)(hf:∀i,i<g.nx->g'.h.get i=g.h.get i):MP e g' V V' W c ow cap:=by
 have hb:=h.nx
 have ho:=he.ord
 exact { h0:=by rw[hf 0 (by omega),h.h0],h1:=by rw[hf 1 (by omega),h.h1],hN:=h.hN.fr hn fun i hi=>hf i (h.hN.lt hi).2,h4:=by rw[hf _ (by omega),h.h4]
         h5:=h.h5.fr hn fun i hi=>hf i (h.h5.lt hi).2,h7:=by obtain ⟨cc,a1,a2,a3⟩:=h.h7;exact ⟨cc,a1,a2,by rw[hf _ (by omega),a3]⟩
         h9:=h.h9.fr hn fun i hi=>hf i (h.h9.lt hi).2,fam:=h.fam.step hn fun i _ hi=>hf i hi,nx:=by omega }
theorem MP.same {V':Nat->AV}(h:MP e g V V' W c ow cap)(he:e.Ok)(hf:g'.h=g.h)(hn:g.nx<=g'.nx):MP e g' V V' W c ow cap:=h.step he hn fun i _=>by rw[hf]
theorem MP.node {V':Nat->AV}{c':Nat->Int}(h:MP e g V V' W c ow cap)(he:e.Ok)(hN:Own g' 0 e.nv 4 (fB e.n c' V'))(h0:V' 0=V 0)(hn:g.nx<=g'.nx)
  (hf:∀i,vid e.nv≠some i->g'.h.get i=g.h.get i):MI e g' V' W c' ow cap:=by
 have ho:=he.ord
 have hb:=h.nx
 have hf':∀i,i≠e.q->g'.h.get i=g.h.get i:=fun i hi=>hf i (by rw[he.vn];intro e;injection e with e;exact hi e.symm)
 exact { h0:=by rw[hf' 0 (by omega),h.h0],h1:=by rw[hf' 1 (by omega),h.h1],hN:=hN,h4:=by rw[hf' _ (by omega),h.h4,h0]
         h5:=h.h5.fr (by omega) fun i hi=>hf' i (by have:=bO he.v5 hi;omega),h7:=by obtain ⟨cc,a1,a2,a3⟩:=h.h7;exact ⟨cc,a1,a2,by rw[hf' _ (by omega),a3]⟩
         h9:=h.h9.fr (by omega) fun i hi=>hf' i (by have:=bO he.v9 hi;omega),fam:=h.fam.step (by omega) fun i hi _=>hf' i (by omega),nx:=by omega }
theorem MI.mp (h:MI e g V W c ow cap):MP e g V V W c ow cap:=⟨h.h0,h.h1,h.hN,h.h4,h.h5,h.h7,h.h9,h.fam,h.nx⟩
theorem MP.root {v':AV}(h:MP e g V (aP V 0 v') W c ow cap)(he:e.Ok)(h4:g'.h.get e.p4=.cells 3 [[.int .i64 e.gr,v',e.nv]] 0 false false)(hn:g.nx<=g'.nx)
  (hf:∀i,i≠e.p4->g'.h.get i=g.h.get i):MI e g' (aP V 0 v') W c ow cap:=by
 have ho:=he.ord
 have hb:=h.nx
 exact { h0:=by rw[hf 0 (by omega),h.h0],h1:=by rw[hf 1 (by omega),h.h1]
         hN:=by
          have:fB e.n c (aP V 0 v')=fB e.n c V:=by
           unfold fB
           exact List.map_congr_left fun i _=>by unfold dz;rw[ay _ _ (by omega),ay _ _ (by omega),ay _ _ (by omega)]
          rw[this]
          exact h.hN.fr (by omega) fun i hi=>hf i (by have:=bO he.vn hi;omega)
         h4:=by rw[h4,aB]
         h5:=h.h5.fr (by omega) fun i hi=>hf i (by have:=bO he.v5 hi;omega),h7:=by obtain ⟨cc,a1,a2,a3⟩:=h.h7;exact ⟨cc,a1,a2,by rw[hf _ (by omega),a3]⟩
         h9:=h.h9.fr (by omega) fun i hi=>hf i (by have:=bO he.v9 hi;omega),fam:=h.fam.step (by omega) fun i hi _=>hf i (by omega),nx:=by omega }
theorem MI.num (h:MI e g V W c ow cap)(he:e.Ok){cc:Int}(h1:0<=cc)(h2:cc<=((cap+1:Nat):Int))(h7:g'.h.get e.p7=.cells 2 [[e.e7,.int .i64 cc]] 0 false false)(hn:g.nx<=g'.nx)
  (hf:∀i,i≠e.p7->g'.h.get i=g.h.get i):MI e g' V W c ow (cap+1):=by
 have ho:=he.ord
 have hb:=h.nx
 exact { h0:=by rw[hf 0 (by omega),h.h0],h1:=by rw[hf 1 (by omega),h.h1],hN:=h.hN.fr (by omega) fun i hi=>hf i (by have:=bO he.vn hi;omega),h4:=by rw[hf _ (by omega),h.h4]
         h5:=h.h5.fr (by omega) fun i hi=>hf i (by have:=bO he.v5 hi;omega),h7:=⟨cc,h1,h2,h7⟩
         h9:=h.h9.fr (by omega) fun i hi=>hf i (by have:=bO he.v9 hi;omega),fam:=h.fam.step (by omega) fun i hi _=>hf i (by omega),nx:=by omega }
theorem MI.own (h:MI e g V W c ow cap)(he:e.Ok){ow':List Bool}(h9:Own g' 0 e.w9 1 (ow'.map fun x=>[.bool x]))(hn:g.nx<=g'.nx)
  (hf:∀i,vid e.w9≠some i->g'.h.get i=g.h.get i):MI e g' V W c ow' cap:=by
 have ho:=he.ord
 have hb:=h.nx
 have hf':∀i,i≠e.i9->g'.h.get i=g.h.get i:=fun i hi=>hf i (by rw[he.v9];intro e;injection e with e;exact hi e.symm)
 exact { h0:=by rw[hf' 0 (by omega),h.h0],h1:=by rw[hf' 1 (by omega),h.h1],hN:=h.hN.fr (by omega) fun i hi=>hf' i (by have:=bO he.vn hi;omega),h4:=by rw[hf' _ (by omega),h.h4]
         h5:=h.h5.fr (by omega) fun i hi=>hf' i (by have:=bO he.v5 hi;omega),h7:=by obtain ⟨cc,a1,a2,a3⟩:=h.h7;exact ⟨cc,a1,a2,by rw[hf' _ (by omega),a3]⟩
         h9:=h9,fam:=h.fam.step (by omega) fun i hi _=>hf' i (by omega),nx:=by omega }
theorem Ci {g:G}{b sz:Nat}{v:AV}{rows:List (List AV)}(h:Own g b v sz rows):ap v=match vid v with | some i=>[i] | none=>[]:=by
 rcases h with ⟨rfl,-⟩ | ⟨id,ep,lo,h1,h2,rfl,h3⟩<;>rfl
theorem Own.refs_lt {g:G}{b sz:Nat}{v:AV}{rows:List (List AV)}(h:Own g b v sz rows):∀i∈ap v,b<=i/\i<g.nx:=by
 rw[Ci h]
 intro i hi
 split at hi
 ·rename_i j hj;simp at hi;subst hi;exact h.lt hj
 ·simp at hi
theorem dJ {g:G}{b sz i:Nat}{v:AV}{rows:List (List AV)}(h:Own g b v sz rows)(hv:vid v=some i):ap v=[i]:=by rw[Ci h,hv]
theorem eZ {v:AV}{i:Nat}(h:vid v=some i):kG v=true:=by cases v<;>first | rfl | cases h
end
end
end Hx
end
section
namespace Hx
open Go
noncomputable section
theorem AG {l:List Int}{y n:Int}{i:Nat}(h:i<l.length):S.aI (l++[y]) n i=S.aI l n i:=by
 have e:∀j,j<l.length->(l++[y])[j]?=l[j]?:=fun j hj=>List.getElem?_append_left hj
 unfold S.aI
 rw[e i h]
 by_cases h0:i=0
 ·subst h0;rfl
 ·rw[e (i - 1) (by omega)]
theorem Ay {l:List Int}{n m:Int}{i:Nat}(h:S.aI l n i=true)(hm:n<=m):S.aI l m i=true:=by
 simp only[S.aI,Bool.and_eq_true,decide_eq_true_eq] at h ⊢
 exact ⟨⟨h.1.1,by omega⟩,h.2⟩
theorem oT {l:List Int}{n m:Int}(h:S.aq l n=true)(hm:n<=m):S.aq l m=true:=by
 simp only[S.aq,List.all_eq_true] at h ⊢
 exact fun i hi=>Ay (h i hi) hm
theorem oG {l:List Int}{y n m:Int}(h:S.aq l n=true)(hy:∀x∈l,x<y)(h0:0<=y)(h1:y<m)(hm:n<=m):S.aq (l++[y]) m=true:=by
 have h:=oT h hm
 simp only[S.aq,List.length_append,List.length_singleton] at h ⊢
 rw[bn,Bool.and_eq_true]
 refine ⟨?_,?_⟩
 ·simp only[List.all_eq_true,List.mem_range] at h ⊢
  intro i hi
  rw[AG hi];exact h i hi
 ·have e:(l++[y])[l.length]?=some y:=by simp
  simp only[S.aI,e,Option.getD_some,Bool.and_eq_true,decide_eq_true_eq,Bool.or_eq_true,beq_iff_eq]
  refine ⟨⟨h0,h1⟩,?_⟩
  by_cases hl:l.length=0
  ·exact .inl hl
  ·right
   have e2:(l++[y])[l.length - 1]?=some (l[l.length - 1]'(by omega)):=by
    rw[List.getElem?_append_left (by omega),List.getElem?_eq_getElem (by omega)]
   rw[e2,Option.getD_some]
   exact hy _ (List.getElem_mem _)
structure MD (e:ME) (W:Nat->List (List AV)) (R:List (List Int)) (F N O:Nat->List Int):Prop where
 r:All2 (Rp.rp NoP 0 .nil) R (W 0)
 f:∀i,i<e.n->W (3*i+1)=(F i).map ci
 n:∀i,i<e.n->W (3*i+2)=(N i).map ci
 o:∀i,i<e.n->W (3*i+3)=(O i).map ci
theorem MD.setF {e:ME}{W:Nat->List (List AV)}{R:List (List Int)}{F N O:Nat->List Int}(h:MD e W R F N O)(i:Nat)(l:List Int):MD e (aP W (3*i+1) (l.map ci)) R (aP F i l) N O where
 r:=by rw[ay _ _ (by omega)];exact h.r
 f:=fun j hj=>by
  by_cases e:j=i
  ·subst e;rw[aB,aB]
  ·rw[ay _ _ (by omega),ay _ _ e];exact h.f j hj
 n:=fun j hj=>by rw[ay _ _ (by omega)];exact h.n j hj
 o:=fun j hj=>by rw[ay _ _ (by omega)];exact h.o j hj
theorem MD.setN {e:ME}{W:Nat->List (List AV)}{R:List (List Int)}{F N O:Nat->List Int}(h:MD e W R F N O)(i:Nat)(l:List Int):MD e (aP W (3*i+2) (l.map ci)) R F (aP N i l) O where
 r:=by rw[ay _ _ (by omega)];exact h.r
 n:=fun j hj=>by
  by_cases e:j=i
  ·subst e;rw[aB,aB]
  ·rw[ay _ _ (by omega),ay _ _ e];exact h.n j hj
 f:=fun j hj=>by rw[ay _ _ (by omega)];exact h.f j hj
 o:=fun j hj=>by rw[ay _ _ (by omega)];exact h.o j hj
theorem MD.setO {e:ME}{W:Nat->List (List AV)}{R:List (List Int)}{F N O:Nat->List Int}(h:MD e W R F N O)(i:Nat)(l:List Int):MD e (aP W (3*i+3) (l.map ci)) R F N (aP O i l) where
 r:=by rw[ay _ _ (by omega)];exact h.r
 o:=fun j hj=>by
  by_cases e:j=i
  ·subst e;rw[aB,aB]
  ·rw[ay _ _ (by omega),ay _ _ e];exact h.o j hj
 f:=fun j hj=>by rw[ay _ _ (by omega)];exact h.f j hj
 n:=fun j hj=>by rw[ay _ _ (by omega)];exact h.n j hj
theorem MD.setR {e:ME}{W:Nat->List (List AV)}{R:List (List Int)}{F N O:Nat->List Int}(h:MD e W R F N O){x:List Int}{cs:List AV}(hx:Rp.rp NoP 0 .nil x cs):MD e (aP W 0 (W 0++[cs])) (R++[x]) F N O where
 r:=by rw[aB];exact h.r.append ⟨hx,trivial⟩
 o:=fun j hj=>by rw[ay _ _ (by omega)];exact h.o j hj
 f:=fun j hj=>by rw[ay _ _ (by omega)];exact h.f j hj
 n:=fun j hj=>by rw[ay _ _ (by omega)];exact h.n j hj
theorem MD.len {e:ME}{W:Nat->List (List AV)}{R:List (List Int)}{F N O:Nat->List Int}(h:MD e W R F N O):(W 0).length=R.length:=h.r.len.symm
structure MF (e:ME) (c:Nat->Int) (R:List (List Int)) (N:Nat->List Int):Prop where
 card:∀i,i<e.n->c i=2\/c i=3
 roots:∀r∈R,∃q z:Int,(q=2\/q=3)/\0<=z/\z<256/\r=S.a_ e.gr q z
 inc:∀i,i<e.n->S.aq (N i) R.length=true
theorem MF.root {e:ME}{c:Nat->Int}{R:List (List Int)}{N:Nat->List Int}(h:MF e c R N){q z:Int}(hq:q=2\/q=3)(h0:0<=z)(h1:z<256):MF e c (R++[S.a_ e.gr q z]) N where
 card:=h.card
 roots:=fun r hr=>by
  rcases List.mem_append.1 hr with hr | hr
  ·exact h.roots r hr
  ·simp at hr;exact ⟨q,z,hq,h0,h1,hr⟩
 inc:=fun i hi=>oT (h.inc i hi) (by simp;omega)
theorem MF.both {e:ME}{c:Nat->Int}{R:List (List Int)}{N:Nat->List Int}(h:MF e c R N){q z:Int}(hq:q=2\/q=3)(h0:0<=z)(h1:z<256){N':Nat->List Int}
  (hN:∀i,i<e.n->N' i=N i\/N' i=[(R.length:Int)]\/N' i=N i++[(R.length:Int)]):MF e c (R++[S.a_ e.gr q z]) N' where
 card:=h.card
 roots:=(h.root (q:=q) hq h0 h1).roots
 inc:=fun i hi=>by
  have hm:=fun x hx=>(aE (h.inc i hi) x hx).2
  rcases hN i hi with ee | ee | ee<;>rw[ee]
  ·exact oT (h.inc i hi) (by simp;omega)
  ·exact oG (l:=[]) (n:=0) (y:=(R.length:Int)) (m:=((R++[S.a_ e.gr q z]).length:Int)) rfl (by simp) (by omega) (by simp;omega) (by simp;omega)
  ·exact oG (h.inc i hi) hm (by omega) (by simp;omega) (by simp;omega)
def MSt (e:ME)(r6:AV)(t:T):Prop :=
 St t [(1,.hptr 0 0 0 0),(2,.hptr 1 0 0 0),(3,.int .i64 (e.n:Int)),(4,.hptr e.p4 0 0 0),(5,e.w5),(6,r6),(7,.hptr e.p7 0 0 0),(9,e.w9)]
def MPr (e:ME):Prop:=e.prow.length=e.n/\∀i,i<e.n->∃(y:zh) (oa:AV),e.prow[i]?=some [u8v y.1,u8v y.2.1,u8v y.2.2.1,oa]/\SlR NoP 0 .nil y.2.2.2 oa
theorem wP {x y:Foot}(hx:x.wr=[])(hb:x.lk.big=false)(hs:x.lk.sr=[])(h3:∀i∈y.wr,∀j∈x.lk.rd,i≠j):bu x y=true:=by
 have m3:=ky h3
 have m5:∀l:List Nat,meets l []=false:=fun l=>by simp[meets]
 simp only[bu,eW,dL,hx,hb,hs,m3,m5,fst1,List.map_nil,Bool.not_false,Bool.and_self,Bool.true_or]
 split<;>rfl
end
end Hx
end
section
namespace Hx
open Go
noncomputable section
theorem vz {g:G}{b:Nat}(hb:b<=g.nx)(cs:List AV):Own (g.new (.cells 1 [cs] 0 false false)) b (.hsl g.nx 0 0 1 none) 1 [cs] :=
 .inr ⟨g.nx,0,false,hb,by simp,rfl,by simp[bi]⟩
theorem Ln {d:Nat}{e:ME}{r6:AV}{Q:QT}(hd:0<d)(he:e.Ok)(hpr:MPr e){t:T}{g:G}{V:Nat->AV}{W:Nat->List (List AV)}{c:Nat->Int}(ht:MSt e r6 t)(h10:tat t 10=.int .i64 0)
  (hI:MI e g V W c (List.replicate e.n false) 0) (hD:MD e W [] (fun _=>[]) (fun _=>[]) (fun _=>[])) (hc:∀i,i<e.n->c i=2\/c i=3)
  (fin:∀t g V W ow R N,MSt e r6 t->MI e g V W c ow R.length->MD e W R (fun _=>[]) N (fun _=>[])->MF e c R N->ow.length=e.n->(∀i,i<e.n->ow[i]?=some true->N i≠[])->R.length<=4->(∀i,(N i).length<=1)->Q (.exit 2) t [] g) :
  wpL (wp C0 d none dy) Q t [] g:=by
 have hoo:=he.ord
 have hn1:=he.n1
 have hg1:=he.g1
 simp only[dy,gA]
 refine bB e.n (by omega) (fun j t df g=>df=[]/\MSt e r6 t/\∃V W ow R N,MI e g V W c ow R.length/\MD e W R (fun _=>[]) N (fun _=>[])/\MF e c R N/\ow.length=e.n/\(∀i,i<e.n->ow[i]?=some true->N i≠[])/\R.length<=j/\∀i,(N i).length<=1)
  ⟨rfl,ht,V,W,_,[],fun _=>[],hI,hD,⟨hc,by simp,fun i hi=>rfl⟩,by simp,fun i hi h=>by rw[List.getElem?_replicate] at h;split at h<;>simp at h,Nat.le_refl _,fun i=>Nat.zero_le _⟩ h10 (by decide)
  (by rintro j t df g v s (rfl | rfl | rfl)<;>simp[MSt,St,sx]) ?_ ?_ ?_
 ·rintro j t df g hj ⟨rfl,⟨h1,h2,h3,h4,h5,h6,h7,h9,-⟩,hx⟩ h10
  simp only[sx,sy,SO.run,↓reduceIte,Nat.reduceEqDiff,h1,h2,h3,h4,h5,h6,h7,h9,h10,MSt,St]
  exact hx
 ·rintro j t df g hj ⟨rfl,⟨h1,h2,h3,h4,h5,h6,h7,h9,-⟩,V,W,ow,R,N,hI,hD,hF,hol,hon,hRj,hN1⟩ h10
  obtain ⟨y,oa,hy,hoa⟩:=hpr.2 j hj
  have hy8:y.2.2.1.toNat<256:=y.2.2.1.toNat_lt
  have hjp:j<e.prow.length:=by rw[hpr.1];exact hj
  have ry5:=eZ he.v5
  have ryn:=eZ he.vn
  simp only[sx,sy,SO.run,↓reduceIte,Nat.reduceEqDiff,h5,h10,hI.h5.rows,hjp,hy,ry5,Option.isSome_some,Option.getD_some,u8v,bC .u8 (show 0<=(y.2.2.1.toNat:Int) by omega) (show (0:Int)<4 by decide)]
  refine aw (fun hb=>?_) (fun hb=>?_)
  ·have hol':j<(ow.map fun x=>[AV.bool x]).length:=by rw[List.length_map,hol];exact hj
   have hrow:(ow.map fun x=>[AV.bool x])[j]?=some [.bool (ow[j]'(by omega))]:=by rw[List.getElem?_map,List.getElem?_eq_getElem (by omega)];rfl
   simp only[sx,SO.run,↓reduceIte,Nat.reduceEqDiff,h9,h10,hI.h9.rows,hol',Option.isSome_some,Option.getD_some]
   refine bp (row:=[.bool (ow[j]'(by omega))]) (row':=[.bool true]) hI.h9 hrow rfl rfl rfl fun g1 x1 n1 f1=>?_
   have hI1:MI e g1 V W c (ow.set j true) R.length:=hI.own he (by rw[List.map_set];exact x1) (by omega) f1
   clear x1 f1 n1 hI hol' hrow
   have l0:=bh (hI1.fam.1 0 (by omega)).rows
   rw[hD.len] at l0
   have hjN:j<(fB e.n c V).length:=by rw[bS];exact hj
   have hI2:MP e (g1.new (.cells 1 [[.int .i64 (R.length:Int)]] 0 false false)) V (aP V (3*j+2) (.hsl g1.nx 0 0 1 none)) (aP W (3*j+2) ([(R.length:Int)].map ci)) c (ow.set j true) R.length :=
    hI1.grow he (by omega) (vz hI1.nx _) (by simp) (fun i hi _=>by rw[G.new_h,aq _ _ _ (by omega)]) (.inr ⟨g1.nx,rfl,Nat.le_refl _⟩)
   simp only[sx,sy,SO.run,↓reduceIte,Nat.reduceEqDiff,h4,h10,hI1.h4,l0]
   have hNr:=hI2.hN.rows
   simp only[sx] at hNr
   simp only[sx,sy,SO.run,↓reduceIte,Nat.reduceEqDiff,hNr,hjN,ryn,Option.isSome_some,Option.getD_some]
   refine bp (row:=dz c V j) (row':=dz c (aP V (3*j+2) (.hsl g1.nx 0 0 1 none)) j) hI2.hN (bJ _ _ hj) rfl rfl ?_ fun g2 x2 n2 f2=>?_
   ·simp only[dz,d7,sy,↓reduceIte,Nat.reduceAdd,Nat.reduceLeDiff,aB,ay V (k:=3*j+2) (j:=3*j+1) _ (by omega),ay V (k:=3*j+2) (j:=3*j+3) _ (by omega)]
   rw[gS rfl (fun i hi=>by unfold dz;rw[ay _ _ (by omega),ay _ _ (by omega),ay _ _ (by omega)])] at x2
   have hI3:=hI2.node he x2 (ay _ _ (by omega)) (by omega) f2
   have hD3:=hD.setN j [(R.length:Int)]
   clear hI2 hI1 x2 n2 f2 hNr
   generalize aP V (3*j+2) (.hsl g1.nx 0 0 1 none)=V at *
   generalize aP W (3*j+2) ([(R.length:Int)].map ci)=W at *
   obtain ⟨cc,cc0,cc1,h7'⟩:=hI3.h7
   have hNr:=hI3.hN.rows
   have hrf:=dJ hI3.hN he.vn
   simp only[sx,sy,sf,SO.run,↓reduceIte,Nat.reduceEqDiff,h4,h7,h10,hI3.h4,hNr,bS,hj,ryn,bJ c V hj,dz,Option.isSome_some,Option.getD_some]
   refine DQ (us:=e.us) (p:=e.p7) (l:=e.e7) (c:=cc) ?_ he.l7 cc0 (by omega) fun z c' g4 z0 z1 c0 c1 g7 n4 f4 lg4=>?_
   ·simpa using h7'
   simp only[sy] at n4 f4 lg4
   have lg4':∀i∈g4.lg,i=e.p7:=by simpa using lg4
   have hb3:=hI3.nx
   have hI4:MI e g4 V W c (ow.set j true) (R.length+1):=hI3.num he c0 (by omega) g7 (by omega) f4
   simp only[sx,sy,SO.run,↓reduceIte,Nat.reduceEqDiff]
   refine a_ (xn hd hg1.1 hg1.2 z0 z1) fun r hr=>?_
   simp only[sx,sy,sf,SO.run,↓reduceIte]
   rw[sF 1 [.nils] r _ (by rw[hr.cells];rfl) hr.tup,hr.cells]
   simp only[sx,sy,sf,SO.run,↓reduceIte,Nat.reduceEqDiff]
   have hO:=hI4.fam.1 0 (by omega)
   refine aJ (b:=e.b) (new:=[[r]]) (rows:=W 0) (hO.fr (by simp;omega) (fun i hi=>?_)) (by simp[sx,sy]) (by simp;have:=hI4.nx;omega) (by rw[hD3.len];simp[aZ];omega) fun v' g5 hv' n5 f5 vid5 lg5=>?_
   ·have:=(hO.lt hi).2
    simp[H.get_put];omega
   simp only[sx,sy] at n5 f5 vid5 lg5
   have hI5:MP e g5 V (aP V 0 v') (aP W 0 (W 0++[[r]])) c (ow.set j true) (R.length+1) :=
    hI4.grow he (by omega) hv' (by omega) (fun i hi hne=>by rw[f5 i (by omega) hne,if_neg (by omega)]) (by rcases vid5 with h | ⟨i,h,hi⟩;exact .inl h;exact .inr ⟨i,h,by omega⟩)
   simp only[sx,sy,sf,SO.run,↓reduceIte,Nat.reduceEqDiff,Nat.reduceAdd,Nat.reduceLeDiff,h4,h10,hI5.h4,hv'.cell.1,hv'.cell.2,fG,jP]
   refine ⟨?_,?_⟩
   ·simp only[List.reverse_cons,List.reverse_nil,List.nil_append,List.cons_append,hrf]
    refine aX [false,false,false,false,false,false,false,false,false,false,false,true,false,true,true,false,true] [(0,11),(1,11),(2,11),(3,11),(4,11),(5,11),(6,11),(7,11),(8,11),(9,11),(0,13),(1,13)] (by simp[All2,au,aF,bw]) (by decide) ?_
    rintro p hp x y hx hy
    simp only[List.mem_cons,List.not_mem_nil,or_false] at hp
    rcases hp with rfl | rfl | rfl | rfl | rfl | rfl | rfl | rfl | rfl | rfl | rfl | rfl
    case inr.inr.inr.inr.inr.inr.inr.inr.inr.inr.inl=>(simp at hx hy;subst hx;subst hy;refine dG rfl rfl rfl rfl ?_ ?_ ?_<;>simp[aF])
    case inr.inr.inr.inr.inr.inr.inr.inr.inr.inr.inr=>(simp at hx hy;subst hx;subst hy;refine dG rfl rfl rfl rfl ?_ ?_ ?_<;>simp[au,aF,ap]<;>omega)
    all_goals (simp at hx hy;subst hx;subst hy;refine wP rfl rfl rfl ?_;intro i hi j hj;(have hi:=lg4' i hi);simp[au,aF,bQ,hrf,bM ryn] at hj<;>omega)
   ·have hI6:=hI5.root (g':=(aI (dj (aI (dj g5 []) []) []) []).put e.p4 (.cells 3 [[.int .i64 e.gr,v',e.nv]] 0 false false)) he
     (by simp[H.get_put]) (by simp;omega) (fun i hi=>by simp[H.get_put];intro e;exact absurd e hi)
    have hD6:=hD3.setR (x:=S.a_ e.gr (c j) z) (cs:=[r]) hr
    have hF6:=hF.both (q:=c j) (hc j hj) z0 z1 (N':=aP N j [(R.length:Int)]) fun i hi=>by
     by_cases e:i=j
     ·subst e;exact .inr (.inl (aB _ _ _))
     ·exact .inl (ay _ _ e)
    simp only[sx,sy,↓reduceIte,Nat.reduceEqDiff,h1,h2,h3,h4,h5,h6,h7,h9,MSt,St]
    refine ⟨aP V 0 v',aP W 0 (W 0++[[r]]),ow.set j true,R++[S.a_ e.gr (c j) z],aP N j [(R.length:Int)],?_,hD6,hF6,by simpa using hol,fun i hi h=>?_,by simp;omega,fun i=>?_⟩
    ·rw[List.length_append];exact hI6.same he (by simp) (by simp)
    ·by_cases e:i=j
     ·subst e;rw[aB];simp
     ·rw[ay _ _ e];rw[List.getElem?_set_ne (Ne.symm e)] at h;exact hon i hi h
    ·by_cases e:i=j
     ·subst e;rw[aB];simp
     ·rw[ay _ _ e];exact hN1 i
  ·simp only[sx,sy,↓reduceIte,Nat.reduceEqDiff,h1,h2,h3,h4,h5,h6,h7,h9,h10,MSt,St]
   exact ⟨V,W,ow,R,N,hI,hD,hF,hol,hon,by omega,hN1⟩
 ·rintro t df g ⟨rfl,ht,V,W,ow,R,N,hI,hD,hF,hol,hon,hRj,hN1⟩
  exact fin t g V W ow R N ht hI hD hF hol hon (by omega) hN1
end
end Hx
end
