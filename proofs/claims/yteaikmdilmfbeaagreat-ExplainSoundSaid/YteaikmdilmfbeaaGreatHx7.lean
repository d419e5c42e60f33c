/- A part of the proof: what the functions of the chapter compute. -/
import Derived.Test.YteaikmdilmfbeaaGreatHx6
set_option linter.all false
set_option maxRecDepth 20000
set_option maxHeartbeats 8000000
namespace Hx
open Go
noncomputable section
variable {g g':G}{d n i k b nt:Nat}{v w u:AV}{t:T}{Q:QT}{K:AV->G->Prop}{l cs vs tl X:List Int}{D:ADf->Prop}{P:Nat->Prop}{gr x c:Int}{V:Ky->AV}{h:H}{E:Ky->En}
def OwnC(g:G)(b id:Nat)(l tl:List Int):Prop:=b<=id/\id<g.nx/\g.h.get id=Tq 1 (l.map ci++tl.map ci)
theorem OwnC.rows{id:Nat}(h:OwnC g b id l tl):am g.h 1 (.hsl id 0 0 l.length none)=some (l.map ci):=by rw[ba,h.2.2,cg,Qw (by simp),Sa,List.take_left' (by simp)]
theorem OwnC.fr{id:Nat}(h:OwnC g b id l tl)(hn:g.nx<=g'.nx)(hf:g'.h.get id=g.h.get id):OwnC g' b id l tl:=⟨h.1,QR h.2.1 hn,by rw[hf,h.2.2]⟩
theorem N7(hn:n<=1000)(hb:b<=g.nx)(k:∀g',OwnC g' b g.nx [] (List.replicate n 0)->g'.nx=g.nx+1->(∀i,i<g.nx->g'.h.get i=g.h.get i)->K (.hsl g.nx 0 0 0 none) g') :
  (yk 1 8 [T8 0] (T8 0) (T8 (n:Int)) g).sat K g D:=by
 have h1:n<=aS:=by unfold aS;omega
 have h2:n*8<=aS:=by unfold aS;omega
 have key:yk 1 8 [T8 0] (T8 0) (T8 (n:Int)) g=.upd (.hsl g.nx 0 0 0 none) (g.new (Tq 1 (eH n [T8 0]))):=by
  show (match bN aS (T8 (.ofNat n)) with
   | some cn=>match bN cn (T8 0) with
    |some ln=>ak (Nat.ble (cn*8) aS) (OR.upd (.hsl g.nx 0 0 ln none) (g.new (Tq 1 (eH cn [T8 0])))) .fail
    |none=>.fail
   |none=>.fail)=_
  have a1:bN aS (T8 (.ofNat n))=some n:=by show ak (Nat.ble n aS) (some n) none=_;rw[aa,Qw (by simpa using h1)]
  have a2:bN n (T8 0)=some 0:=by show ak (Nat.ble 0 n) (some 0) none=_;rw[aa,Qw (by simp)]
  rw[a1];dsimp only;rw[a2];dsimp only;rw[aa,Qw (by simpa using h2)]
 rw[key];refine k _ ⟨hb,by simp,?_⟩ (by simp) (λi hi=>?_)
 ·simp[a9,eH,ci]
 ·rw[G.new_h,ax _ _ _ (by omega)]
theorem In{id:Nat}{y:Int}(hv:OwnC g b id l (y::tl))(hx:am g.h 1 w=some [ci x])(hr:l.length<=1000)
  (k:∀g',OwnC g' b id (l++[x]) tl->g'.nx=g.nx->(∀i,i≠id->g'.h.get i=g.h.get i)->K (.hsl id 0 0 (l++[x]).length none) g'):(cQ 1 8 (.hsl id 0 0 l.length none) w g).sat K g D:=by
 unfold cQ;rw[hx];obtain⟨h1,h2,h3⟩:=hv;simp only[a8,G.get_eq,h3,aq,aa,Q2,Rz,Q6,Qt,Rn,RT,R6,Q3,QA,Rd,SB];rw[Qw ⟨by omega,by unfold aS;omega⟩,Qw (by omega)];have a:jI false=true:=rfl;rw[Qw ⟨by omega,a⟩];have e:gT (l.map ci++(y::tl).map ci) l.length [ci x]=(l++[x]).map ci++tl.map ci:=by simp only[gT,fG];rw[Rx,Rj,Sv,RG _ _ (by simp)];simp
 rw[e];have k:=k (g.put id (Tq 1 ((l++[x]).map ci++tl.map ci))) ⟨h1,by simpa using h2,by simp[a9]⟩ (by simp) (λi hi=>by rw[G.put_h,ax _ _ _ hi]);have e3:l.length+1=(l++[x]).length:=by simp
 rw[e3];exact k
def NV(p:List Nat):VS:=λP k h v=>∃o:List Int,True/\GT (One o) (One (S.Pt p)) P k h v
theorem H3[XOc]{p:List Nat}(hd:0<d)(hv:SlR P k g.h p v)(hn:p.length<=8)(hp:∀x∈p,x<2 ^ p.length) :
  ∃z,ay C0 d 124 [v] g=.val z/\NV p NoP 0 .nil z:=by
 obtain⟨v',e,r1⟩:=bj hv d;have hlt:=AC hv;rw[wg];refine bK y_ (xs:=[v']) (by simp only[aF,e]) (by simp[pu]) (uq λo=>rJ (m:=1) (bi _) (bi _) (by decide) (by decide)) (by decide) hd ?_;have vl:∀g,bY .slice v' g=.val (T8 (p.length:Int)):=λg=>(r1 .nil).len g;simp only[sz,simprocAttr,pu,vl];refine N7 (b:=0) (n:=p.length) (by omega) (Q_ _) λg1 hu hn1 hf1=>?_;obtain⟨id,J⟩:∃id,id=G.empty.nx:=⟨_,rfl⟩;rw[<-J]at hu ⊢;clear J hn1 hf1;simp only[sz,simprocAttr];refine tD (λn t df g=>df=[]/\∃(L:List Nat) (D:Nat) (tl:List Int),n=p.length - L.length/\L.length+tl.length=p.length/\GS p L/\M9 D L/\GP p D/\St t [(0,v'),(4,.hsl id 0 0 (L.map λi:Nat=>(i:Int)).length none),(5,T_ (D:Int))]/\OwnC g 0 id (L.map λi:Nat=>(i:Int)) tl) p.length
  ⟨rfl,[],0,List.replicate p.length 0,by simp,by simp,⟨by simp,by simp⟩,⟨by decide,by simp⟩,zS,by simp[sx,St],hu⟩ ?_
 rintro n t df g ⟨rfl,L,D,tl,rfl,I,O,f,hG,⟨h0,h4,h5,-⟩,hu⟩;have h8:=J3 O;have Z:∀g',bY .slice (.hsl id 0 0 (L.map λi:Nat=>(i:Int)).length none) g'=.val (T8 (L.length:Int)):=λg'=>by rw[jH hu.rows];simp
 simp only[sz,simprocAttr,pX,h0,h4,vl,Z];refine mE (λhb=>?_) (λhb=>?_)
 ·have K:L.length<p.length:=by simpa using hb
  obtain⟨y,tl,rfl⟩:∃y tl',tl=y::tl':=by
   cases tl with
   |nil=>simp at I;omega
   |cons y tl=>exact⟨y,tl,rfl⟩
  simp only[sz,simprocAttr,h0,vl,pW];refine aM (m:=p.length) (by omega) (λj t df g'=>df=[]/\g'=g/\St t [(0,v'),(16,v'),(4,.hsl id 0 0 (L.map λi:Nat=>(i:Int)).length none),(5,T_ (D:Int))]/\∀v,v<j->D.testBit v=true\/¬Sub (Par p v) D)
   ⟨rfl,rfl,by simp[sx,St,h0,h4,h5],λv hv=>by omega⟩ (by simp[sx]) (by simp[sx]) (by decide) (by rintro j t df g v s (rfl|rfl|rfl)<;>simp[sx,St]) ?_ ?_
  ·rintro j t df g' V ⟨rfl,rfl,⟨h0,u,h4,h5,-⟩,c⟩ w H;obtain⟨x,hx,-,h7⟩:=ae V;have F:Par p j=x:=by simp[Par,hx]
   have h6:=hlt x h7;have C:j<(p.map cu).length:=by simpa using V
   have E:(p.map cu)[j]?=some (cu x):=by rw[Qv,hx];rfl
   have b1:=Ld .i64 D j f.1;have R:D / 2 ^ j<18446744073709551616:=Nat.lt_of_le_of_lt (Nat.div_le_self _ _) f.1;have b2:cx .and (T_ ((D / 2 ^ j:Nat):Int)) (T_ 1)=.val (T_ ((D / 2 ^ j &&& 1:Nat):Int)):=K9 _ 1 R (by decide);have b3:=D1 x D h6 f.1;have ra:=λh=>(r1 h).nats;have l:D.testBit j = !decide (((D / 2 ^ j &&& 1:Nat):Int)=0):=by
    rw[<-tY,S.PK];have h2:D / 2 ^ j &&& 1=(D / 2 ^ j) % 2:=Nat.and_one_is_mod _;rw[h2];have:=So (D / 2 ^ j) (show 0<2 by decide)
    by_cases h3:D / 2 ^ j % 2=0
    ·rw[h3];simp
    ·have h4:D / 2 ^ j % 2=1:=by omega
     rw[h4];simp
   have next:(D.testBit j=true\/¬Sub (Par p j) D)->∀v,v<j+1->D.testBit v=true\/¬Sub (Par p v) D:=λh v hv=>by
    by_cases e:v=j
    ·subst e;exact h
    ·exact c v (by omega)
   by_cases c1:((D / 2 ^ j &&& 1:Nat):Int)=0
   ·by_cases c2:((x ^^^ (x &&& D):Nat):Int)=0
    ·have Q:S.PI x D=0:=by simpa [S.PI] using c2
     have r:=zL.1 Q;have W:j ∉ L:=λh=>by have:=(f.2 j).2 h;rw[l,c1]at this;simp at this
     have h9:D ||| S.O8 j<18446744073709551616:=J2 f.1 (xn j);simp only[sz,simprocAttr,u,h4,h5,w,b1,b2,b3,ra,C,E,cu,c1,c2];refine In (x:=(j:Int)) (hu.fr (by simp) (by rw[G.new_h,ax _ _ _ (by have:=hu.2.1;omega)])) (by simp[sx,sy,ci]) (by simp;omega) λg2 hu2 n2 f2=>?_;have M:cx .shl (T_ 1) (T8 (j:Int))=.val (T_ (S.O8 j:Int)):=vH .i64 j;have e1:(L.map λi:Nat=>(i:Int))++[(j:Int)]=(L++[j]).map λi:Nat=>(i:Int):=by simp
     rw[e1]at hu2 ⊢;simp only[sz,simprocAttr,h5,M,IB _ _ f.1 (xn j)];refine⟨p.length - (L++[j]).length,by simp;omega,L++[j],D ||| S.O8 j,tl,rfl,by simp at I ⊢;omega,HF O W V λq hq=>?_,HZ f (by omega),Cr hG (by omega) (by rw[F];exact r),by simp[sx,St,h0],hu2⟩;rw[F]at hq;exact (f.2 q).1 (r q hq)
    ·have X:¬Sub (Par p j) D:=λh=>c2 (by
      have:=zL.2 h;rw[F]at this;simp[S.PI]at this;simp[this])
     simp only[sz,simprocAttr,h0,u,h4,h5,w,H,b1,b2,b3,ra,C,E,cu,c1,c2,St];exact next (.inr X)
   ·simp only[sz,simprocAttr,h0,u,h4,h5,w,H,b1,b2,ra,C,E,cu,c1,St];exact next (.inl (by rw[l,Rs c1];rfl))
  ·rintro t df g' ⟨rfl,rfl,-,c⟩;obtain⟨v0,h1,N⟩:=LJ O K;have A:S.Pt p=false:=by
    cases hc:S.Pt p with
    |false=>rfl
    | true =>
     have:=AD hp hc (T:=D) (λv hv hb=>by
      rcases c v hv with h|h
      ·rw[h]at hb;cases hb
      ·exact h) v0 h1
     exact absurd ((f.2 v0).1 this) N
   simp only[sz,simprocAttr,pY];exact⟨λ_=>True,[],.nils,.bool false,rfl,⟨.nils,rfl,by show 0<9223372036854775808;decide,rfl⟩,Bl.2 (by rw[A])⟩
 ·have U:p.length<=L.length:=by simp at hb;omega
  have Y:tl=[]:=QY (by omega);subst Y;have B:=HE O U;have A:=tF hG λv hv=>(f.2 v).2 (B.1 v hv);simp only[sz,simprocAttr,pZ,h4];refine⟨λ_=>True,L.map (λi:Nat=>(i:Int)),_,_,rfl,⟨_,rfl,by simp;omega,trivial,_,hu.rows,Oz (λa=>aG.2 rfl) _⟩,Bl.2 (by rw[A])⟩
theorem HR{C:Cfg}{id:Nat}{ps:List Nat}{assign body:Code}{a b:SC}{dfr:Nat}{args:List AV}{t':T}
  (hg:g.h.get id=.loop nt t ps assign body dfr .ready none) (ha:bZ C nt assign=a) (hb:bZ C nt body=b) (hp:cY t nt ps args=some t')
  (h:wp C d (some id) a (λe t1 df g1=>e=.norm/\df=[]/\g1=g /\
   wp C d (some id) b (λe _ df g2=>df=[]/\g2.h.get id=.loop nt t ps assign body dfr .busy none/\((e=.norm/\K (.bool true) (g2.put id (.loop nt t ps assign body dfr .ready none)))\/(e=.ret/\K (.bool false) (g2.put id (.loop nt t ps assign body dfr .done (some .ret))))))
    t1 [] (g.put id (.loop nt t ps assign body dfr .busy none))) t' [] g) :
  (cE (I C) d id args g).sat K g D:=by
 subst ha;subst hb;unfold cE;rw[show g.get id=_ from hg];dsimp only;rw[hp];dsimp only;have h1:=rQ h;cases hc:(I C).code nt d (some id) assign t' [] g with
 |fail=>rw[hc]at h1;exact h1.elim
 | ok e t1 df g1 =>
  rw[hc]at h1;obtain⟨rfl,rfl,rfl,h2⟩:=h1;dsimp only;rw[show g1.get id=_ from hg];dsimp only;have h3:=rQ h2;cases hc2:(I C).code nt d (some id) body t1 [] (g1.put id (.loop nt t ps assign body dfr .busy none)) with
  |fail=>rw[hc2]at h3;exact h3.elim
  | ok e t2 df2 g2 =>
   rw[hc2]at h3;obtain⟨rfl,h4,h5⟩:=h3;dsimp only;rw[show g2.get id=_ from h4];rcases h5 with⟨rfl,h5⟩|⟨rfl,h5⟩<;>exact h5
theorem tE{C:Cfg}{f:Od}{ps:List Nat}{a b:SC}{df:List ADf}{fn:Nat}{first cap:List AV}{s:SF}(hv:f.get t=.clo fn first cap)(he:C.ext fn=none)(hs:nFn C fn=some s)
  (hl:(first++(.yld (g.nx+1)::cap)).length<=s.nt)
  (h:∀assign body,bZ C nt assign=a->bZ C nt body=b ->
   wp C d none s.code (fnQ C d s.res λ_ g2=>∃nt' t' ps' as' bd' dfr',(g2.h.get (g.nx+1)=.loop nt' t' ps' as' bd' dfr' .ready none/\Q .norm t (.mark g.nx::df) (g2.put (g.nx+1) (.loop nt' t' ps' as' bd' dfr' .exhausted none))) \/
     (g2.h.get (g.nx+1)=.loop nt' t' ps' as' bd' dfr' .done (some .ret)/\Q .ret t (.mark g.nx::df) (g2.put (g.nx+1) (.loop nt' t' ps' as' bd' dfr' .exhausted (some .ret)))))
    (bk 0 (first++(.yld (g.nx+1)::cap)) .nil) [] ((g.new (.dfr true)).new (.loop nt t ps assign body g.nx .ready none))) :
  wp C d none (.rng nt f ps a b) Q t df g:=by
 intro assign body ha hb;have h:=o9 hs hl (h assign body ha hb);show (cJ C (I C) nt d none (f.get t) ps assign body t (.mark g.nx::df) g.nx (g.new (.dfr true))).sat Q;rw[hv];unfold cJ;dsimp only;rw[he];show (match (I C).call d fn (first++(AV.yld (g.nx+1)::cap)) ((g.new (.dfr true)).new (.loop nt t ps assign body g.nx .ready none)) with
  |.ok _ g2=>dK (I C) nt d none (g.nx+1) t (.mark g.nx::df) g2
  |.fail=>.fail).sat Q
 cases hc:(I C).call d fn (first++(AV.yld (g.nx+1)::cap)) ((g.new (.dfr true)).new (.loop nt t ps assign body g.nx .ready none)) with
 |fail=>rw[hc]at h;exact h.elim
 | ok v g2 =>
  rw[hc]at h;obtain⟨nt',t',ps',as',bd',dfr',h⟩:=h;show (dK (I C) nt d none (g.nx+1) t (.mark g.nx::df) g2).sat Q;unfold dK;rcases h with⟨h1,h2⟩|⟨h1,h2⟩
  ·rw[show g2.get (g.nx+1)=_ from h1];exact h2
  ·rw[show g2.get (g.nx+1)=_ from h1];dsimp only;rw[DU];exact h2
def RwV(x:Node):VS:=λP k h v=>∃p,v=.clo 165 [] [p] /\
 ((∃id cs,p=T9 id/\P id/\h.get id=Tq 3 [cs]/\Rp.rp P k h x cs)\/∃t cs,p=.tptr t 3 [cs] 0 0/\t<=k/\Rp.rp NoP k .nil x cs)
theorem NK(x:Node):Snb (RwV x) 2:=by
 refine⟨λ{P k h v n} d r hn=>?_,λ{k h v n} r hn=>?_⟩
 ·obtain⟨p,rfl,r⟩:=r;obtain⟨n,rfl⟩:∃q,n=q+2:=⟨n - 2,by omega⟩;rcases r with⟨id,cs,rfl,-,hg,r⟩|⟨t,cs,rfl,ht,r⟩
  ·obtain⟨cs',e,r'⟩:=Rp.snap (n:=n) d r (by show (_:Nat)<=n;exact QW (show Rp.dp Node<=20 by decide) (by omega)) (by decide);obtain⟨m,e2,l2⟩:=Rp.tag (n:=aD) r' (by decide);refine⟨.clo 165 [] [.tptr (Nat.max d (Nat.max m 0)) 3 [cs'] 0 0],?_,_,rfl,.inr ⟨_,cs',rfl,?_,r'⟩⟩
   ·have:Hx.snap h d (n+1) (T9 id)=some (.tptr (Nat.max d (Nat.max m 0)) 3 [cs'] 0 0):=by simp only[Hx.snap,hg,show Nat.beq 0 0=true from rfl,aF,e,eM,ge,e2]
    simp only[Hx.snap,aF]at this ⊢;rw[this]
   ·show max d (max m 0)<=max k d;omega
  ·refine⟨.clo 165 [] [.tptr t 3 [cs] 0 0],rfl,_,rfl,.inr ⟨t,cs,rfl,by omega,Rp.mono r (λi hi=>hi.elim) (by omega)⟩⟩
 ·obtain⟨p,rfl,r⟩:=r;obtain⟨n,rfl⟩:∃q,n=q+2:=⟨n - 2,by omega⟩;rcases r with⟨id,cs,rfl,a,-⟩|⟨t,cs,rfl,ht,r⟩
  ·exact a.elim
  ·exact⟨Nat.max t 0,rfl,by show max t 0<=k;omega⟩
theorem JW[XOc]{x:Node}(hd:0<d)(hm:Agg x NoP 0 g.h v) :
  ∃pa ra,ay C0 d 150 [v] g=.val (.clo 165 [] [.tptr 0 3 [[T8 x.card,pa,ra]] 0 0])/\SlR NoP 0 .nil x.parents pa/\SlR NoP 0 .nil x.rows ra:=by
 have e0:=tH d hm;obtain⟨cs,rfl,hc⟩:=hm;obtain⟨a,b,rfl,hR,hN⟩:=eL.1 hc;have key:∃r,ay C0 d 150 [.agg [T8 x.card,a,b]] g=.val r/\RwV x NoP 0 .nil r:=by rw[y5];refine bK Cg (xs:=[.agg [T8 x.card,a,b]]) (by simp only[aF,e0]) (by simp[s_]) (NK x) (by decide) hd ?_;simp only[sz,simprocAttr,s_,tV];exact⟨λ_=>True,_,rfl,.inl ⟨0,_,rfl,trivial,by simp[sx],Rp.tree hc (Qq _)⟩⟩
 obtain⟨r,h1,p,rfl,h2⟩:=key;rcases h2 with⟨id,cs,rfl,e,-⟩|⟨t,cs,rfl,ht,hr⟩
 ·exact e.elim
 ·have:t=0:=by omega
  subst this;obtain⟨a',b',rfl,c,k⟩:=eL.1 hr;exact⟨a',b',h1,c,k⟩
theorem br(fo l sz i off:Nat)(rows:List (List AV)):AS fo (.tptr l sz rows i off)=.val (.tptr l sz rows i (off+fo)):=rfl
theorem Kk[XOc]{id:Nat}{pa ra:AV}{rws:List (List Int)}{g0:G}(hra:SlR NoP 0 .nil rws ra)(J:Nat->H->Prop)(E:G->Prop)
  (step:∀(j:Nat) (r:List Int) (z:AV) (g:G) (K':AV->G->Prop) (D:ADf->Prop),rws[j]?=some r->SlR NoP 0 .nil r z->g0.nx<=g.nx->J j g.h ->
   (∀g',J (j+1) g'.h->g.nx<=g'.nx->K' (.bool true) g')->(∀g',E g'->K' (.bool false) g')->(cE (I C0) d id [T8 (j:Int),z] g).sat K' g D)
  (h0:J 0 g0.h) (fin:∀g',J rws.length g'.h->g0.nx<=g'.nx->K (.tup []) g') (finE:∀g',E g'->K (.tup []) g') :
  wp C0 d none fC.code (fnQ C0 d fC.res K) (bk 0 [.yld id,.tptr 0 3 [[T8 c,pa,ra]] 0 0] .nil) [] g0:=by
 obtain⟨rr,f,n,i,l⟩:=pJ hra;simp only[sz,simprocAttr,fC,pV,br,aP,hra.len];refine aM (m:=rws.length) hra.1 (λj t df g=>df=[]/\St t [(0,.yld id),(6,ra)]/\J j g.h/\g0.nx<=g.nx) ⟨rfl,by simp[St,sx],h0,Qq _⟩ (by simp[sx]) (by simp[sx]) (by decide) (by rintro j t df g v s (rfl|rfl|rfl)<;>simp[St,sx]) ?_ ?_
 ·rintro j t df g b ⟨rfl,⟨h0,h6,-⟩,a,k⟩ h8 h7;obtain⟨r,hr,-,-⟩:=ae b;obtain⟨z,q2,q3,hz⟩:=i j r hr;have e:=l (by omega);simp only[sz,simprocAttr,h0,h6,h8,f,q2,q3];show (cE (I C0) d id [T8 (j:Int),z] g).sat _ _ _;refine step j r z g _ _ hr hz k a (λg' hJ' hn'=>?_) λg' hE=>?_
  ·simp only[sz,simprocAttr,h7,h8];simp[St,sx,h0,h6,hJ',QW k hn']
  ·simp only[sz,simprocAttr];exact finE g' hE
 ·rintro t df g ⟨rfl,-,a,k⟩;simp only[sx,↓reduceIte];exact fin g a k
theorem Ej[XOc]:C0.ext 165=none:=by kernel_rfl
structure RowQ (b:Nat) (g2 g3:G) (e:Ex) (A B:Prop):Prop where
 nx:g2.nx<=g3.nx
 fr:∀i,b<=i->i<g2.nx->g3.h.get i=g2.h.get i
 st:(e=.norm/\A)\/(e=.ret/\B)
theorem Kj[XOc]{y p q:Nat}{pa ra:AV}{rws:List (List Int)}{ca cb:SC}(hra:SlR NoP 0 .nil rws ra)(hv:tat t y=.clo 165 [] [.tptr 0 3 [[T8 c,pa,ra]] 0 0])(hp:p<nt)(hq:q<nt)
  (J:Nat->H->Prop) (E:H->Prop) (hJ:∀j h h',(∀i,i<g.nx->h'.get i=h.get i)->J j h->J j h') (hE:∀h h',(∀i,i<g.nx->h'.get i=h.get i)->E h->E h') (h0:J 0 g.h)
  (step:∀(j:Nat) (r:List Int) (z:AV) (g1:G),rws[j]?=some r->SlR NoP 0 .nil r z->J j g1.h->g.nx+2<=g1.nx ->
   wp C0 d (some (g.nx+1)) ca (λe t1 df g1'=>e=.norm/\df=[]/\g1'=g1/\∀g2:G,g2.nx=g1.nx->(∀i,i≠g.nx+1->g2.h.get i=g1.h.get i) ->
    wp C0 d (some (g.nx+1)) cb (λe _ df g3=>df=[]/\RowQ g.nx g2 g3 e (J (j+1) g3.h) (E g3.h)) t1 [] g2)
    (ei (ei t p (T8 (j:Int))) q z) [] g1)
  (fin:∀g',J rws.length g'.h->g.nx+2<=g'.nx->g'.h.get g.nx=.dfr true->Q .norm t [.mark g.nx] g')
  (finE:∀g',E g'.h->g.nx+2<=g'.nx->g'.h.get g.nx=.dfr true->Q .ret t [.mark g.nx] g') :
  wp C0 d none (.rng nt (.t y) [p,q] ca cb) Q t [] g:=by
 refine tE (fn:=165) (first:=[]) (cap:=[.tptr 0 3 [[T8 c,pa,ra]] 0 0]) (s:=fC) hv Ej y9 (by simp[fC]) ?_;intro assign body ha hb;have e1:((g.new (.dfr true)).new (.loop nt t [p,q] assign body g.nx .ready none)).nx=g.nx+2:=by simp
 refine Kk (g0:=(g.new (.dfr true)).new (.loop nt t [p,q] assign body g.nx .ready none)) (id:=g.nx+1) hra
  (λj h=>J j h/\h.get g.nx=.dfr true/\h.get (g.nx+1)=.loop nt t [p,q] assign body g.nx .ready none)
  (λg'=>E g'.h/\g'.h.get g.nx=.dfr true/\g'.h.get (g.nx+1)=.loop nt t [p,q] assign body g.nx .done (some .ret)/\g.nx+2<=g'.nx) ?_ ?_ ?_ ?_
 ·rintro j r z g1 K' D hr hz k ⟨a1,a2,a⟩ kk kE;rw[e1]at k;refine HR a ha hb (t':=ei (ei t p (T8 (j:Int))) q z) ?_ ?_
  ·simp only[cY,aa,Rr,Qw hp,Qw hq];rfl
  ·refine cw _ (step j r z g1 hr hz a1 (by omega)) ?_;rintro e t1 df g1' ⟨rfl,rfl,rfl,h⟩;refine⟨rfl,rfl,rfl,?_⟩;have hl:g.nx+1<g1'.nx:=by omega
   refine cw _ (h (g1'.put (g.nx+1) (.loop nt t [p,q] assign body g.nx .busy none)) (by simp) (λi hi=>by simp[OE,hi])) ?_;rintro e m df g3 ⟨rfl,⟨b2,b,b1⟩⟩;have l:g3.h.get (g.nx+1)=.loop nt t [p,q] assign body g.nx .busy none:=by rw[b _ (by omega) (by simpa using hl)];simp[OE]
   have f:g3.h.get g.nx=.dfr true:=by rw[b _ (by omega) (by simp;omega)];simp[OE,a2]
   refine⟨rfl,l,?_⟩;rcases b1 with⟨rfl,b1⟩|⟨rfl,b1⟩
   ·refine .inl ⟨rfl,kk _ ⟨hJ _ g3.h _ (λi hi=>by simp[OE,show ¬i=g.nx+1 by omega]) b1,?_,?_⟩ (by simpa using b2)⟩
    ·simp[OE,f]
    ·simp[OE]
   ·refine .inr ⟨rfl,kE _ ⟨hE g3.h _ (λi hi=>by simp[OE,show ¬i=g.nx+1 by omega]) b1,?_,?_,?_⟩⟩
    ·simp[OE,f]
    ·simp[OE]
    ·simp at b2 ⊢;omega
 ·refine⟨hJ 0 g.h _ (λi hi=>?_) h0,?_,?_⟩
  ·simp[OE,show ¬i=g.nx+1 by omega,show ¬i=g.nx by omega]
  ·simp[OE]
  ·simp[OE]
 ·rintro g' ⟨a1,a2,a⟩ k;rw[e1]at k;refine⟨_,_,_,_,_,_,.inl ⟨a,fin _ (hJ _ g'.h _ (λi hi=>by simp[OE,show ¬i=g.nx+1 by omega]) a1) (by simpa using k) ?_⟩⟩;simp[OE,a2]
 ·rintro g' ⟨a1,a2,a,k⟩;refine⟨_,_,_,_,_,_,.inr ⟨a,finE _ (hE g'.h _ (λi hi=>by simp[OE,show ¬i=g.nx+1 by omega]) a1) (by simpa using k) ?_⟩⟩;simp[OE,a2]
abbrev NwM:Type:=Net×List Int×List Nat×List Int
theorem Am{x:NwM}{cs:List AV}:Rp.rp P k h x cs↔∃a b c e,cs=[T8 x.1.grain,a,b,c,e]/\SlR P k h x.1.nodes a/\SlR P k h x.2.1 b/\SlR P k h x.2.2.1 c/\SlR P k h x.2.2.2 e:=by
 constructor
 ·rintro⟨c1,d,rfl,h1,f,i,rfl,⟨b,rfl,hb⟩,j,l,rfl,⟨c,rfl,hc⟩,⟨e,rfl,he⟩⟩;obtain⟨a,rfl,ha⟩:=jK.1 h1;exact⟨a,b,c,e,rfl,ha,hb,hc,he⟩
 ·rintro⟨a,b,c,e,rfl,ha,hb,hc,he⟩;exact⟨[_,a],[b,c,e],rfl,jK.2 ⟨a,rfl,ha⟩,[b],[c,e],rfl,⟨b,rfl,hb⟩,[c],[e],rfl,⟨c,rfl,hc⟩,⟨e,rfl,he⟩⟩
theorem Bv:∀{l:List Int},(∀x∈l,0<=x)->0<=l.sum
 |[],_=>by simp
 | x::l,h=>by have:=Bv (l:=l) λy hy=>h y (by simp[hy]);have:=h x (by simp);rw[Sb];omega
theorem Dz(h:∀x∈l,0<=x)(j:Nat):(l.take j).sum<=l.sum:=by
 have:=Bv (l:=l.drop j) λx hx=>h x (Sz hx);have e:l.sum=(l.take j).sum+(l.drop j).sum:=by rw[<-S3,Rk]
 omega
theorem yj:∀{l:List Int},(∀x∈l,0<=x)->∀x∈l,x<=l.sum
 |[],_,x,hx=>by simp at hx
 | y::l,h,x,hx=>by
  have h1:=Bv (l:=l) λz hz=>h z (by simp[hz]);have h2:=h y (by simp);rw[Sb];rcases Rh.1 hx with rfl|hx
  ·omega
  ·have:=yj (l:=l) (λz hz=>h z (by simp[hz])) x hx;omega
def S.Pl(gr:Int)(cs:List Int)(x:Node):Bool:=decide ((x.rows.length:Int)=S.OB (S.OA cs x.parents))&&x.rows.all (S.Pb gr x.card)
structure FJ (gr:Int) (r:List Int) (z:AV) (j:Nat) (t:T):Prop where
 st:St t [(2,T9 0),(3,T9 1),(4,T9 2),(9,z),(40,z),(10,T8 (gr - (r.take j).sum))]
 nn:∀x∈r.take j,0<=x
 le:(r.take j).sum<=gr
theorem Hn[XOc]{rd:Option Nat}{r:List Int}{z:AV}(hz:SlR NoP 0 .nil r z)(hg1:1<=gr/\gr<=60)
  (ht:St t [(2,T9 0),(3,T9 1),(4,T9 2),(9,z),(40,z),(10,T8 gr)]) (h42:tat t 42=T8 0) (h41:tat t 41=T8 (r.length:Int)) (e2:g.h.get 2=Tq 1 [[.bool false]])
  (bad:∀t,(∀card,S.Pb gr card r=false)->Q .ret t [] (g.put 2 (Tq 1 [[.bool false]])))
  (fin:∀t,(∀x∈r,0<=x)->r.sum<=gr->St t [(2,T9 0),(3,T9 1),(4,T9 2),(9,z),(10,T8 (gr - r.sum))]->Q (.exit 4) t [] g) :
  wpL (wp C0 d rd dF) Q t [] g:=by
 have rz:=λh=>(hz.tree (h':=h) (Qq 0)).ints;simp only[dF];refine aM (m:=r.length) hz.1 (λj t df g'=>df=[]/\g'=g/\FJ gr r z j t) ⟨rfl,rfl,by simpa using ht,by simp,by simp;omega⟩ h42 h41 (by decide)
  (by rintro j t df g v s (rfl|rfl|rfl) ⟨a1,a2,⟨b1,b2,n,o,p,q,-⟩,b7,u⟩<;>exact⟨a1,a2,by simp[St,sx,b1,b2,n,o,p,q],b7,u⟩) ?_ ?_
 ·rintro j t df g' i ⟨rfl,rfl,⟨⟨h2,h3,h4,h9,k,h10,-⟩,a,c⟩⟩ h42 h41;obtain⟨y,A,b,hm⟩:=ae i;have e:j<(r.map ci).length:=by simpa using i
  have f:(r.map ci)[j]?=some (ci y):=by rw[Qv,A];rfl
  have w:=Bv a
  by_cases c1:y<0
  ·simp only[sz,simprocAttr,h4,k,h42,rz,e,f,ci,c1,e2];exact bad _ (λcard=>by
    rw[<-Sf,S.Pb];simp only[Qt,QM,QB];rintro⟨⟨-,h⟩,-⟩;have:=h y hm;omega)
  ·by_cases c2:gr - (r.take j).sum<y
   ·simp only[sz,simprocAttr,h4,k,h10,h42,rz,e,f,ci,c1,c2,e2];exact bad _ (λcard=>by
     rw[<-Sf,S.Pb];simp only[Qt,QM,QB];rintro⟨⟨-,h⟩,hs⟩;have h1:=Dz (l:=r) (λx hx=>(h x hx).1) (j+1);rw[b,yT]at h1;omega)
   ·have w1:IntKind.wrap .i64 (gr - (r.take j).sum - y)=gr - (r.take (j+1)).sum:=by rw[aB (by omega) (by omega),b,yT];omega
    simp only[sz,simprocAttr,k,h10,h42,h41,rz,e,f,ci,c1,c2,w1];refine⟨by simp[St,sx,h2,h3,h4,h9,k],λx hx=>?_,by rw[b,yT];omega⟩;rw[b]at hx;rcases Q7.1 hx with h|h
    ·exact a x h
    ·rw[RR.1 h];omega
 ·rintro t df g' ⟨rfl,rfl,⟨⟨h2,h3,h4,h9,k,h10,-⟩,a,c⟩⟩;rw[QV]at a c h10;exact fin t a c ⟨h2,h3,h4,h9,h10,trivial⟩
structure FlJ (cs1 cs2:List AV) (gr card:Int) (rws:List (List Int)) (j:Nat) (h:H):Prop where
 a0:h.get 0=Tq 5 [cs1]
 a1:h.get 1=Tq 3 [cs2]
 a2:h.get 2=Tq 1 [[.bool false]]
 all:∀r∈rws.take j,S.Pb gr card r=true
structure FlE (gr card:Int) (rws:List (List Int)) (h:H):Prop where
 a2:h.get 2=Tq 1 [[.bool false]]
 ex:∃r∈rws,S.Pb gr card r=false
theorem Ho[XOc]{k1 k2:Nat}{P1 P2:Nat->Prop}{m:NwM}{x:Node}(hd:0<d)(hm:Agg m P1 k1 g.h v)(hx:Agg x P2 k2 g.h w)(hk:k2=0/\P2=NoP)(hg1:1<=m.1.grain/\m.1.grain<=60)(hc:∀c∈m.2.1,1<=c/\c<=4)
  (hp:∀p∈x.parents,0<=p/\p<m.2.1.length) (hpl:x.parents.length<=8):ay C0 d 123 [v,w] g=.val (.bool (S.Pl m.1.grain m.2.1 x)):=by
 obtain⟨rfl,rfl⟩:=hk;obtain⟨v',e1,cs,rfl,R⟩:=qu (jk m) (by decide) d hm;obtain⟨nb,cb,sb,ob,rfl,-,Q,-,-⟩:=Am.1 R;have e2:=tH d hx;obtain⟨cs2,rfl,u⟩:=hx;obtain⟨pa,ra,rfl,L,E⟩:=eL.1 u;have A:∀h,Agg x NoP 0 h (.agg [T8 x.card,pa,ra]):=λh=>⟨_,rfl,Rp.tree u (Qq _)⟩;have E:=E.tree (h':=.nil) (Qq 0);have rp:=λh=>(L.tree (h':=h) (Qq 0)).ints;have rc:=λh=>(Q.tree (h':=h) (Qq _)).ints;have pl:=λg=>(L.tree (h':=.nil) (Qq 0)).len g;have rl:=λg=>E.len g;rw[nN];refine l8 qh (xs:=[.agg [T8 m.1.grain,nb,cb,sb,ob],.agg [T8 x.card,pa,ra]]) (by simp only[aF,e1,e2]) (by simp[eV]) hd ?_;simp only[sz,simprocAttr,eV];obtain⟨g0,hg0⟩:∃g0,g0=((G.empty.new (Tq 5 [[T8 m.1.grain,nb,cb,sb,ob]])).new (Tq 3 [[T8 x.card,pa,ra]])).new (Tq 1 [[.bool false]]):=⟨_,rfl⟩;rw[<-hg0];have f0:g0.h.get 0=Tq 5 [[T8 m.1.grain,nb,cb,sb,ob]]:=by rw[hg0];simp[sx,OE]
 have f1:g0.h.get 1=Tq 3 [[T8 x.card,pa,ra]]:=by rw[hg0];simp[sx,OE]
 have f2:g0.h.get 2=Tq 1 [[.bool false]]:=by rw[hg0];simp[sx]
 have f3:g0.nx=3:=by rw[hg0];simp[sx]
 clear hg0;simp only[sz,simprocAttr,i_,f1,pl,ip];refine aM (m:=x.parents.length) (by omega) (λj t df g=>df=[]/\g=g0/\St t [(2,T9 0),(3,T9 1),(4,T9 2),(14,pa),(5,T8 (S.OB (S.OA m.2.1 (x.parents.take j))))])
  ⟨rfl,rfl,by simp[St,sx,S.OB,S.OA]⟩ (by simp[sx]) (by simp[sx]) (by decide) (by rintro j t df g v s (rfl|rfl|rfl)<;>simp[St,sx]) ?_ ?_
 ·rintro j t df g X ⟨rfl,rfl,⟨h2,h3,h4,f,h5,-⟩⟩ O h15;obtain⟨p,U,H,T⟩:=ae X;obtain⟨p0,p1⟩:=hp p T;obtain⟨p,rfl⟩:=QD p0;have e:p<m.2.1.length:=by omega
  have u1:j<(x.parents.map ci).length:=by simpa using X
  have u2:(x.parents.map ci)[j]?=some (ci (p:Int)):=by rw[Qv,U];rfl
  have u3:p<(m.2.1.map ci).length:=by simpa using e
  have u4:(m.2.1.map ci)[p]?=some (ci m.2.1[p]):=by rw[Qv,Qr e];rfl
  have e3:S.OB (S.OA m.2.1 (x.parents.take (j+1)))=S.OB (S.OA m.2.1 (x.parents.take j))*m.2.1[p]:=by rw[H,EE,ug];congr 1;simp[S.OA,S.OB,Qr e]
  have ha:=dq (l:=S.OA m.2.1 (x.parents.take (j+1))) (bF hc λq hq=>hp q (Q8 hq));have h8:=oO (a:=(S.OA m.2.1 (x.parents.take (j+1))).length) (b:=8) (by simp[S.OA];omega);have h6:(4:Int) ^ 8=65536:=by decide
  have w1:IntKind.wrap .i64 (S.OB (S.OA m.2.1 (x.parents.take j))*m.2.1[p])=S.OB (S.OA m.2.1 (x.parents.take (j+1))):=by rw[<-e3,aB (by omega) (by omega)]
  simp only[sz,simprocAttr,h2,f,h5,O,h15,f0,rp,rc,u1,u2,u3,u4,ci,w1];simp[St,sx,h2,h3,h4,f]
 rintro t df g ⟨rfl,rfl,⟨h2,h3,h4,f,h5,-⟩⟩;rw[QV]at h5;simp only[iA]
 by_cases c1:(x.rows.length:Int)=S.OB (S.OA m.2.1 x.parents)
 ·obtain⟨pa',ra',er,Z,M⟩:=JW (d:=d+1) (g:=g) (RA d) (A g.h);refine pg (P:=λt' df g'=>df=[]/\g'=g/\St t' [(2,T9 0),(3,T9 1),(4,T9 2)]) ?_ ?_
  ·simp only[sz,simprocAttr,h3,h5,f1,rl,c1];simp[St,sx,h2,h3,h4]
  clear h2 h3 h4 h5 f;rintro t df g ⟨rfl,rfl,h2,h3,h4,-⟩;rw[dt,dt];simp only[sz,simprocAttr,h3,f1,er];refine Kj (c:=x.card) (pa:=pa') M (by simp[sx]) (by decide) (by decide)
   (FlJ [T8 m.1.grain,nb,cb,sb,ob] [T8 x.card,pa,ra] m.1.grain x.card x.rows)
   (FlE m.1.grain x.card x.rows) ?_ ?_ ⟨f0,f1,f2,by simp⟩ ?_ ?_ ?_
  ·rintro j h h' J ⟨a0,a1,a2,o⟩;exact⟨by rw[J 0 (by omega),a0],by rw[J 1 (by omega),a1],by rw[J 2 (by omega),a2],o⟩
  ·rintro h h' J ⟨a2,o⟩;exact⟨by rw[J 2 (by omega),a2],o⟩
  ·rintro j r z g1 hr hz ⟨a0,a1,a2,o⟩ Y;obtain⟨r',n,H,F⟩:=ae (l:=x.rows) (j:=j) (Qs.1 hr).1;rw[hr]at n;injection n with n;subst n;simp only[sz,simprocAttr,im];intro g2 W C;have V:g2.h.get 0=Tq 5 [[T8 m.1.grain,nb,cb,sb,ob]]:=by rw[C 0 (by omega),a0]
   have b1:g2.h.get 1=Tq 3 [[T8 x.card,pa,ra]]:=by rw[C 1 (by omega),a1]
   have b2:g2.h.get 2=Tq 1 [[.bool false]]:=by rw[C 2 (by omega),a2]
   simp only[sz,simprocAttr,iy,h2,V,hz.len];refine Hn (gr:=m.1.grain) (r:=r) (z:=z) hz hg1 (by simp[St,sx,h2,h3,h4]) (by simp[sx]) (by simp[sx]) b2 ?_ ?_
   ·rintro t N;simp only[sx,sy];exact⟨by simp,λi h1 h2=>by simp[OE,show ¬i=2 by omega],.inr ⟨rfl,by simp[OE],r,F,N _⟩⟩
   ·rintro t K h7 ⟨h2,h3,h4,h9,h10,-⟩;have I:=λg=>hz.len g
    by_cases c2:(r.length:Int)=x.card
    ·by_cases c3:m.1.grain - r.sum=0
     ·simp only[sz,simprocAttr,co,h3,h9,h10,I,b1,c2,c3];refine⟨Qq _,λi _ _=>rfl,.inl ⟨rfl,V,b1,b2,λy hy=>?_⟩⟩;rw[H]at hy;rcases Q7.1 hy with h|h
      ·exact o y h
      ·rw[RR.1 h,S.Pb];simp only[Qt,QM,QB];exact⟨⟨c2,λq hq=>⟨K q hq,by have:=yj K q hq;omega⟩⟩,by omega⟩
     ·have k:S.Pb m.1.grain x.card r=false:=by rw[S.Pb];simp;intros;omega
      simp only[sz,simprocAttr,co,h3,h4,h9,h10,I,b1,b2,c2,c3];exact⟨by simp,λi h1 h2=>by simp[OE,show ¬i=2 by omega],.inr ⟨rfl,by simp[OE],r,F,k⟩⟩
    ·have k:S.Pb m.1.grain x.card r=false:=by rw[S.Pb];simp[c2]
     simp only[sz,simprocAttr,co,h3,h4,h9,I,b1,b2,c2];exact⟨by simp,λi h1 h2=>by simp[OE,show ¬i=2 by omega],.inr ⟨rfl,by simp[OE],r,F,k⟩⟩
  ·rintro g' ⟨a0,a1,a2,o⟩ Y B;rw[QV]at o;have D:S.Pl m.1.grain m.2.1 x=true:=by rw[S.Pl,QB.2 o];simp[c1]
   simp only[sz,simprocAttr,iz,h4,a2];refine jB (by simp[OE,show ¬g.nx=2 by omega,B]) ?_;simp only[sx,sy,↓reduceIte,Nat.reduceEqDiff,h4,D];simp[show ¬(2=g.nx) by omega]
   rfl
  ·rintro g' ⟨a2,r,hr,k⟩ Y B;have D:S.Pl m.1.grain m.2.1 x=false:=by
    rw[S.Pl];have:x.rows.all (S.Pb m.1.grain x.card)=false:=by rw[<-Sf,QB];intro h;rw[h r hr]at k;cases k
    rw[this,Bool.and_false]
   simp only[sx];refine jB B ?_;simp only[sx,sy,↓reduceIte,Nat.reduceEqDiff,h4,D];rw[Qu (by omega),a2]
   rfl
 ·simp only[sz,simprocAttr,h3,h4,h5,f1,f2,rl,c1];rw[S.Pl];simp[c1]
theorem A7:∀{l:List Int} {v:Nat},(∀x∈l,0<=x/\x<64)->((S.OL l).testBit v=true↔(v:Int)∈l):=by
 have key:∀(l:List Int) (s v:Nat),(∀x∈l,0<=x/\x<64)->((l.foldl (λs x=>s ||| S.O8 x.toNat) s).testBit v=true↔s.testBit v=true\/(v:Int)∈l):=by
  intro l
  induction l with
  |nil=>intro s v _;simp
  | cons x l ih =>
   intro s v h;have hx:=h x (by simp);rw[SN,ih _ _ λy hy=>h y (by simp[hy]),rE,xp (show x.toNat<64 by omega),Rg,QM,Rh];constructor
   ·rintro ((h|h)|h)
    ·exact .inl h
    ·exact .inr (.inl (by omega))
    ·exact .inr (.inr h)
   ·rintro (h|h|h)
    ·exact .inl (.inl h)
    ·exact .inl (.inr (by omega))
    ·exact .inr h
 intro l v h;have:=key l 0 v h;simpa [S.OL] using this
theorem JO(hk:k<=64)(h:∀x∈l,0<=x/\x<k):S.OL l<2 ^ k:=by
 have hb:∀i,k<=i->(S.OL l).testBit i=false:=λi hi=>by rw[<-Sf,A7 λx hx=>by have:=h x hx;omega];intro hm;have:=h _ hm;omega
 exact Nat.lt_pow_two_of_testBit _ λi hi=>hb i hi
structure RdH (n:Net) (b cv sv:AV) (q:Nat) (X:List Int) (Y:List Nat) (g:G):Prop where
 h0:g.h.get 0=Tq 2 [[T8 n.grain,b]]
 h1:g.h.get 1=Tq 5 [[T8 0,.nils,.nils,.nils,.nils]]
 hq:g.h.get q=Tq 5 [[T8 n.grain,b,cv,sv,.nils]]
 hc:Own g 2 cv 1 (X.map ci)
 hs:Own g 2 sv 1 (Y.map cu)
 q2:2<=q
 qn:q<g.nx
 d1:vid cv≠some q
 d2:vid sv≠some q
 d3:∀i,vid cv=some i->vid sv≠some i
theorem RdH.fr{n:Net}{b cv sv:AV}{q:Nat}{Y:List Nat}(h:RdH n b cv sv q X Y g)(f:Fr g g'):RdH n b cv sv q X Y g' :=
 ⟨by rw[f.2 0 (by have:=h.qn;have:=h.q2;omega),h.h0],by rw[f.2 1 (by have:=h.qn;have:=h.q2;omega),h.h1],by rw[f.2 q h.qn,h.hq],h.hc.step f,h.hs.step f,h.q2,QR h.qn f.1,h.d1,h.d2,h.d3⟩
def S.PP(n:Net)(o:List Int):NwM:=if S.Pj n then (n,S.Oz n,S.OI n,o) else (⟨0,[]⟩,[],[],[])
def BI(n:Net):VS:=λP k h v=>∃o:List Int,True/\GT (Agg (S.PP n o)) (One (if S.Pj n then (0:Int) else 50)) P k h v
section
variable {d:Nat}{n:Net}{b cv sv:AV}{q:Nat}{rows:List (List AV)}
def LRd(q:Nat):List (Nat×AV):=[(1,T9 0),(2,T9 1),(4,T9 q)]
theorem Nw[XOc](hn:¬NR n)(h1:g.h.get 1=Tq 5 [[T8 0,.nils,.nils,.nils,.nils]])(t2:tat t 2=T9 1)(t3:tat t 3=T8 50) :
  fnQ C0 d lJ.res (λv g'=>∃P,BI n P 0 g'.h v) .ret t [] g:=by
 have hf:S.Pj n=false:=by
  cases h:S.Pj n with
  |false=>rfl
  |true=>exact absurd (md.1 h) hn
 simp only[lJ,sx,sy,↓reduceIte,Nat.reduceAdd,Nat.reduceLeDiff,t2,t3,h1];refine⟨λ_=>True,[],trivial,_,_,rfl,⟨_,rfl,?_⟩,?_⟩
 ·rw[S.PP,hf];exact Am.2 ⟨.nils,.nils,.nils,.nils,rfl,⟨by show 0<9223372036854775808;decide,rfl⟩,⟨by show 0<9223372036854775808;decide,rfl⟩,⟨by show 0<9223372036854775808;decide,rfl⟩,⟨by show 0<9223372036854775808;decide,rfl⟩⟩
 ·rw[hf];exact aG.2 rfl
structure Rd0 (n:Net) (b cv sv:AV) (q j:Nat) (t:T) (g:G):Prop where
 st:St t ((48,b)::(5,T8 (S.OB ((S.Oz n).take j)))::LRd q)
 hp:RdH n b cv sv q ((S.Oz n).take j++List.replicate (n.nodes.length - j) 0) (List.replicate n.nodes.length 0) g
 ok:∀x∈n.nodes.take j,1<=x.card/\x.card<=4
theorem L5[XOc](hl:n.nodes.length<=8)(hN:SlR NoP 0 .nil n.nodes b)(r1:∀h,am h 3 b=some rows)(r2:rows.length=n.nodes.length)
  (r3:∀(i:Nat) (x:Node),n.nodes[i]?=some x->∃pa ra,rows[i]?=some [T8 x.card,pa,ra]/\i<rows.length/\SlR NoP 0 .nil x.parents pa/\SlR NoP 0 .nil x.rows ra) (r4:0<n.nodes.length->wx b=true)
  (h0:Rd0 n b cv sv q 0 t g) (h50:tat t 50=T8 0) (h49:tat t 49=T8 (n.nodes.length:Int))
  (bad:∀t g,¬NR n->g.h.get 1=Tq 5 [[T8 0,.nils,.nils,.nils,.nils]]->tat t 2=T9 1->tat t 3=T8 50->Q .ret t [] g)
  (fin:∀t g,Rd0 n b cv sv q n.nodes.length t g->Q (.exit 0) t [] g):wpL (wp C0 d none m7) Q t [] g:=by
 simp only[m7];refine aM (m:=n.nodes.length) (by omega) (λj t df g=>df=[]/\Rd0 n b cv sv q j t g) ⟨rfl,h0⟩ h50 h49 (by decide)
  (by rintro j t df g v s (rfl|rfl|rfl) ⟨a1,⟨b1,b2,O,R,U,-⟩,c1,u⟩<;>exact⟨a1,by simp[St,LRd,sx,b1,b2,O,R,U],c1,u⟩) ?_ ?_
 ·rintro j t df g V ⟨rfl,⟨⟨f,h5,h1,h2,h4,-⟩,hp,H⟩⟩ h50 h49;obtain⟨x,hx,I,J⟩:=ae V;obtain⟨pa,ra,K,hlt,Y,h3⟩:=r3 j x hx;have h8:=r4 (by omega);have q2:=hp.q2;have qn:=hp.qn;have o:¬(1=g.nx):=by omega
  have N:¬(q=g.nx):=by omega
  have f1:Fr g (g.new (Tq 3 [[T8 0,.nils,.nils]])):=Fr.new _ _;have badn:¬(1<=x.card/\x.card<=4)->¬NR n:=λh hr=>h (hr.card x J)
  by_cases c1:x.card<1
  ·simp only[sz,simprocAttr,h2,f,h50,r1,hlt,K,hp.h1,o,c1];exact bad _ _ (badn (by omega)) (by simp[OE]) (by simp[sx,h2]) (by simp[sx])
  ·by_cases u:4<x.card
   ·simp only[sz,simprocAttr,h2,f,h50,r1,hlt,K,hp.h1,o,c1,u];exact bad _ _ (badn (by omega)) (by simp[OE]) (by simp[sx,h2]) (by simp[sx])
   ·have l:∀y∈n.nodes.take (j+1),1<=y.card/\y.card<=4:=λy w=>by
     rw[I]at w;rcases Q7.1 w with h|h
     ·exact H y h
     ·rw[RR.1 h];omega
    have D:∀c∈(S.Oz n).take (j+1),1<=c/\c<=4:=λc hc=>by rw[S.Oz,<-List.map_take]at hc;obtain⟨y,w,rfl⟩:=Rb.1 hc;exact l y w
    have Z:=dq D;have X:=oO (a:=((S.Oz n).take (j+1)).length) (b:=8) (by rw[QZ];omega);have M:(4:Int) ^ 8=65536:=by decide
    have E:(S.Oz n)[j]?=some x.card:=by simp[S.Oz,hx]
    have ets:(S.Oz n).take (j+1)=(S.Oz n).take j++[x.card]:=by rw[List.take_add_one,E];rfl
    have e1:S.OB ((S.Oz n).take (j+1))=S.OB ((S.Oz n).take j)*x.card:=by rw[ets];exact u_ _ _
    have w1:IntKind.wrap .i64 (S.OB ((S.Oz n).take j)*x.card)=S.OB ((S.Oz n).take (j+1)):=by rw[<-e1,aB (by omega) (by omega)]
    have r:((S.Oz n).take j).length=j:=by rw[QZ,aw];omega
    have B:(((S.Oz n).take j++List.replicate (n.nodes.length - j) 0).map ci)[j]?=some (ci 0):=by rw[Qv,QL (by omega),r,Rm,Sg,Qw (by omega)];rfl
    have A:j<(((S.Oz n).take j++List.replicate (n.nodes.length - j) 0).map ci).length:=by simp[aw];omega
    have C:((S.Oz n).take j++List.replicate (n.nodes.length - j) 0).set j x.card=(S.Oz n).take (j+1)++List.replicate (n.nodes.length - (j+1)) 0:=by rw[RG _ _ (by omega),r,Rm,ets,show n.nodes.length - j=(n.nodes.length - (j+1))+1 by omega,RI,R3,Rj];rfl
    have W:=hp.fr f1;obtain⟨g2,p⟩:∃g2,g2=(g.new (Tq 3 [[T8 0,.nils,.nils]])).put g.nx (Tq 3 [[T8 x.card,pa,ra]]):=⟨_,rfl⟩;have f2:Fr g g2:=by rw[p];exact MF (by simp) λi hi=>by simp[OE,show ¬i=g.nx by omega]
    have k:=hp.fr f2;have L:g2.h.get g.nx=Tq 3 [[T8 x.card,pa,ra]]:=by rw[p];simp[OE]
    refine jQ (P:=λt' df g'=>df=[]/\g'=g2/\St t' ((48,b)::(5,T8 (S.OB ((S.Oz n).take j)))::LRd q)/\tat t' 6=T8 (j:Int)/\tat t' 7=T9 g.nx/\tat t' 50=T8 (j:Int)/\tat t' 49=T8 (n.nodes.length:Int)) ?_ ?_
    ·simp only[sz,simprocAttr,f,h49,h50,r1,hlt,K];rw[p];simp[St,LRd,sx,h1,h2,h4,h5,f]
    clear h1 h2 h4 h5 f h49 h50;rintro t df g3 ⟨rfl,rfl,⟨f,h5,h1,h2,h4,-⟩,h6,h7,h50,h49⟩;have F:=k.hc.rows;simp only[sz,simprocAttr,h4,h6,h7,L,k.hq,F,A,c1,u];refine ct (v:=cv) (sz:=1) (n:=1) (i:=j) (off:=0) (x:=T8 x.card) (row':=ci x.card) k.hc B rfl rfl rfl λg4 hu4 n4 f4=>?_;rw[Eu,C]at hu4;have z:g4.h.get g.nx=Tq 3 [[T8 x.card,pa,ra]]:=by rw[f4 _ λe=>by have:=(hp.hc.lt e).2;omega,L]
    simp only[sz,simprocAttr,h5,h7,h49,h50,z,w1];refine⟨by simp[St,LRd,sx,h1,h2,h4,f],⟨?_,?_,?_,hu4,?_,q2,by rw[n4];exact k.qn,hp.d1,hp.d2,hp.d3⟩,l⟩
    ·rw[f4 0 λe=>by have:=(hp.hc.lt e).1;omega,k.h0]
    ·rw[f4 1 λe=>by have:=(hp.hc.lt e).1;omega,k.h1]
    ·rw[f4 q hp.d1,k.hq]
    ·exact k.hs.fr (by omega) λi hi=>f4 i λe=>hp.d3 i e hi
 ·rintro t df g ⟨rfl,h⟩;exact fin t g h
end
section
variable {ps:List Int}
def jg(ps:List Int)(i:Nat):Int:=if i=0 then -1 else ps[i - 1]?.getD 0
theorem vP{p:Int}(h:ps[i]?=some p):jg ps (i+1)=p:=by unfold jg;rw[Qu (by omega),S2,h];rfl
structure PlI (ps:List Int) (k:Int) (v i:Nat):Prop where
 rng:∀(j:Nat) (p:Int),j<i->ps[j]?=some p->0<=p/\p<k/\p≠(v:Int)
 inc:∀(j:Nat) (p q:Int),j+1<i->ps[j]?=some p->ps[j+1]?=some q->p<q
theorem Kc{k:Int}{v:Nat}{p:Int}(h:PlI ps k v i)(hp:ps[i]?=some p)(h1:jg ps i<p)(h2:p<k)(h3:p≠(v:Int)):PlI ps k v (i+1):=by
 refine⟨λj q hj hq=>?_,λj a c hj ha hc=>?_⟩
 ·by_cases e:j=i
  ·subst e;rw[hp]at hq;injection hq with hq;subst hq;refine⟨?_,h2,h3⟩
   by_cases e0:j=0
   ·subst e0;unfold jg at h1;simp at h1;omega
   ·have b:j - 1<ps.length:=by have:=(Qs.1 hp).1;omega
    have:=h.rng (j - 1) ps[j - 1] (by omega) (Qr b);unfold jg at h1;rw[Qu e0,Qr b,Qz]at h1;omega
  ·exact h.rng j q (by omega) hq
 ·by_cases e:j+1=i
  ·subst e;rw[hp]at hc;injection hc with hc;subst hc;rw[vP ha]at h1;exact h1
  ·exact h.inc j a c (by omega) ha hc
theorem EF{k:Int}{v:Nat}(h:PlI ps k v ps.length):S.OF ps k=true:=by
 unfold S.OF;rw[QB];intro i hi;have hi:=QE.1 hi;have hp:ps[i]?=some ps[i]:=Qr hi;obtain⟨a,b,-⟩:=h.rng i _ hi hp
 by_cases e:i=0
 ·subst e;simp only[S.Pm,hp,Qz];simp;omega
 ·have hq:ps[i - 1]?=some ps[i - 1]:=Qr (by omega);have:=h.inc (i - 1) _ ps[i] (by omega) hq (by rw[show i - 1+1=i by omega];exact hp);simp only[S.Pm,hp,hq,Qz];simp;omega
theorem NR.pl{n:Net}(h:NR n){v:Nat}{x:Node}(hx:n.nodes[v]?=some x){p:Int}(hp:x.parents[i]?=some p):jg x.parents i<p/\p<n.nodes.length/\p≠(v:Int):=by
 have hm:=Qx hx;have k:=h.places x hm;have h1:=aZ k p (Qx hp);have hl2:=h.l2;refine⟨?_,h1.2,λe=>?_⟩
 ·unfold jg
  split
  ·omega
  ·rename_i e;have b:=(Qs.1 hp).1;have hq:x.parents[i - 1]?=some x.parents[i - 1]:=Qr (by omega);rw[hq,Qz];exact yD k hq (by rw[show i - 1+1=i by omega];exact hp)
 ·have hv:=(Qs.1 hx).1;have ha:=xf.1 h.acyc v (by simp[S.OI];exact hv);have a:Par (S.OI n) v=S.OL x.parents:=by simp[Par,S.OI,hx]
  have hb:(Par (S.OI n) v).testBit v=true:=by rw[a,A7 λy hy=>by have:=aZ k y hy;omega,<-e];exact Qx hp
  have:=By (p:=S.OI n) (s:=Par (S.OI n) v) (S.OI n).length v hb;rw[this]at ha;cases ha
section
variable {d:Nat}{n:Net}{b cv sv:AV}{q:Nat}{rows:List (List AV)}
def S.O6(n:Net)(j:Nat)(m:Nat):List Nat:=(S.OI n).take j++m::List.replicate (n.nodes.length - (j+1)) 0
structure Rd1 (n:Net) (x:Node) (b cv sv pa:AV) (q j p9 i:Nat) (t:T) (g:G):Prop where
 st:St t ((80,b)::(81,T8 (n.nodes.length:Int))::(82,T8 (j:Int))::(88,pa)::(8,T8 (j:Int))::(9,T9 p9)::(10,T8 (jg x.parents i))::LRd q)
 hp:RdH n b cv sv q (S.Oz n) (S.O6 n j (S.OL (x.parents.take i))) g
 ok:PlI x.parents n.nodes.length j i
theorem L6[XOc]{x:Node}{pa:AV}{j p9:Nat}{c9:List AV}(hl:n.nodes.length<=8)(hN:SlR NoP 0 .nil n.nodes b)(hx:n.nodes[j]?=some x)(hpa:SlR NoP 0 .nil x.parents pa)
  (h0:Rd1 n x b cv sv pa q j p9 0 t g) (h90:tat t 90=T8 0) (h89:tat t 89=T8 (x.parents.length:Int)) (e9:g.h.get p9=Tq 3 [c9]) (p9s:vid sv≠some p9)
  (bad:∀t g,¬NR n->g.h.get 1=Tq 5 [[T8 0,.nils,.nils,.nils,.nils]]->tat t 2=T9 1->tat t 3=T8 50->Q .ret t [] g)
  (fin:∀t g',Rd1 n x b cv sv pa q j p9 x.parents.length t g'->g'.h.get p9=Tq 3 [c9]->g.nx<=g'.nx->Q (.exit 4) t [] g'):wpL (wp C0 d none m8) Q t [] g:=by
 have Y:=(Qs.1 hx).1;have nl:=λg=>hN.len g;have rp:=λh=>(hpa.tree (h':=h) (Qq 0)).ints;have w:(S.OI n).length=n.nodes.length:=by simp[S.OI]
 have y:((S.OI n).take j).length=j:=by rw[QZ,w];omega
 simp only[m8];refine aM (m:=x.parents.length) hpa.1 (λi t df g'=>df=[]/\Rd1 n x b cv sv pa q j p9 i t g'/\g'.h.get p9=Tq 3 [c9]/\g.nx<=g'.nx) ⟨rfl,h0,e9,Qq _⟩ h90 h89 (by decide)
  (by rintro i t df g v s (rfl|rfl|rfl) ⟨a1,⟨⟨b1,b2,O,R,U,V,b7,W,X,H,-⟩,c1,z⟩,A⟩<;>exact⟨a1,⟨by simp[St,LRd,sx,b1,b2,O,R,U,V,b7,W,X,H],c1,z⟩,A⟩) ?_ ?_
 ·rintro i t df g hi ⟨rfl,⟨⟨a,c,f,k,h8,h9,h10,h1,h2,h4,-⟩,hp,L⟩,e9,en⟩ h90 h89;obtain⟨p,o,N,-⟩:=ae hi;have E:i<(x.parents.map ci).length:=by simpa using hi
  have F:(x.parents.map ci)[i]?=some (ci p):=by rw[Qv,o];rfl
  have badn:¬(jg x.parents i<p/\p<n.nodes.length/\p≠(j:Int))->¬NR n:=λh hr=>h (hr.pl hx o);have q2:=hp.q2
  by_cases c1:p<=jg x.parents i
  ·simp only[sz,simprocAttr,h2,h10,k,h90,rp,E,F,ci,hp.h1,c1];exact bad _ _ (badn (by omega)) (by simp[OE]) (by simp[sx,h2]) (by simp[sx])
  by_cases z:(n.nodes.length:Int)<=p
  ·simp only[sz,simprocAttr,h2,h4,h10,k,h90,rp,E,F,ci,hp.hq,nl,hp.h1,c1,z];exact bad _ _ (badn (by omega)) (by simp[OE]) (by simp[sx,h2]) (by simp[sx])
  by_cases A:p=(j:Int)
  ·subst A;simp only[sz,simprocAttr,h2,h4,h8,h10,k,h90,rp,E,F,ci,hp.hq,nl,hp.h1,c1,z,eq_self];exact bad _ _ (badn (by omega)) (by simp[OE]) (by simp[sx,h2]) (by simp[sx])
  have u:=Kc L o (by omega) (by omega) A;obtain⟨p0,-,-⟩:=u.rng i p (by omega) o;obtain⟨p,rfl⟩:=QD p0;have B:((S.O6 n j (S.OL (x.parents.take i))).map cu)[j]?=some (cu (S.OL (x.parents.take i))):=by rw[Qv,S.O6,QL (by omega),y,Rm];rfl
  have I:j<((S.O6 n j (S.OL (x.parents.take i))).map cu).length:=by simp[S.O6,w];omega
  have J:(S.O6 n j (S.OL (x.parents.take i))).set j (S.OL (x.parents.take (i+1)))=S.O6 n j (S.OL (x.parents.take (i+1))):=by simp only[S.O6];rw[RG _ _ (by omega),y,Rm,R3]
  have em:S.OL (x.parents.take (i+1))=S.OL (x.parents.take i) ||| S.O8 p:=by rw[N,HB];rfl
  have D:cx .shl (T_ 1) (T8 (p:Int))=.val (T_ (S.O8 p:Int)):=vH .i64 p;have C:=IB (S.OL (x.parents.take i)) (S.O8 p) (wM _) (xn p);rw[<-em]at C;have M:=hp.hs.rows;have K:=vP o;refine pg (P:=λt' df g'=>df=[]/\g'=g/\St t' ((80,b)::(81,T8 (n.nodes.length:Int))::(82,T8 (j:Int))::(88,pa)::(8,T8 (j:Int))::(9,T9 p9)::(10,T8 (jg x.parents i))::LRd q)/\tat t' 12=T8 (p:Int)/\tat t' 90=T8 (i:Int)/\tat t' 89=T8 (x.parents.length:Int)) ?_ ?_
  ·simp only[sz,simprocAttr,k,h90,rp,E,F,ci];simp[St,LRd,sx,h1,h2,h4,h8,h9,h10,a,c,f,k,h89]
  clear h1 h2 h4 h8 h9 h10 a c f k h89 h90;rintro t df g' ⟨rfl,rfl,⟨a,c,f,k,h8,h9,h10,h1,h2,h4,-⟩,r,h90,h89⟩;refine pg (P:=λt' df g''=>df=[]/\g''=g'/\St t' ((80,b)::(81,T8 (n.nodes.length:Int))::(82,T8 (j:Int))::(88,pa)::(8,T8 (j:Int))::(9,T9 p9)::(10,T8 (jg x.parents i))::LRd q)/\tat t' 12=T8 (p:Int)/\tat t' 90=T8 (i:Int)/\tat t' 89=T8 (x.parents.length:Int)) ?_ ?_
  ·simp only[sz,simprocAttr,h4,h8,h10,r,h89,h90,hp.hq,nl,c1,z,A];simp[St,LRd,sx,h1,h2,h4,h8,h9,h10,a,c,f,k]
  clear h1 h2 h4 h8 h9 h10 r a c f k h89 h90;rintro t df g'' ⟨rfl,rfl,⟨a,c,f,k,h8,h9,h10,h1,h2,h4,-⟩,r,h90,h89⟩;simp only[sz,simprocAttr,sf,h4,h8,r,hp.hq,M,I,B,cu,D,C];refine ct (v:=sv) (sz:=1) (n:=1) (i:=j) (off:=0) (x:=T_ (S.OL (x.parents.take (i+1)):Int)) (row':=cu (S.OL (x.parents.take (i+1)))) (hp.hs.fr (by simp;omega) λi _=>by simp) B rfl rfl rfl λg4 hu4 n4 f4=>?_;rw[show (((S.O6 n j (S.OL (x.parents.take i))).map cu).set j (cu (S.OL (x.parents.take (i+1)))))=(S.O6 n j (S.OL (x.parents.take (i+1)))).map cu from by rw[<-RX,J]]at hu4;have l:∀i,vid sv≠some i->g4.h.get i=g''.h.get i:=λi hi=>by rw[f4 i hi];simp
  have Z:g''.nx<=g4.nx:=by rw[n4];simp;omega
  simp only[sx,sy,↓reduceIte,Nat.reduceEqDiff];refine⟨?_,⟨⟨?_,⟨?_,?_,?_,?_,?_,q2,?_,hp.d1,hp.d2,hp.d3⟩,u⟩,?_,?_⟩,h90,h89⟩
  ·simp only[Q5,Q4,QU,QQ];exact aT (false::(TH (true::[]))) [] (by simp[All2,ah,aC]) (by decide) (by simp)
  ·rw[K];simp[St,LRd,sx,h1,h2,h4,h8,h9,a,c,f,k]
  ·simp only[bumpG_h];rw[l 0 λe=>by have:=(hp.hs.lt e).1;omega,hp.h0]
  ·simp only[bumpG_h];rw[l 1 λe=>by have:=(hp.hs.lt e).1;omega,hp.h1]
  ·simp only[bumpG_h];rw[l q hp.d2,hp.hq]
  ·exact hp.hc.fr (by simp;omega) λi hi=>by simp only[bumpG_h];exact l i (hp.d3 i hi)
  ·exact hu4.fr (by simp) λi _=>by simp
  ·have:=hp.qn;simp;omega
  ·rw[l p9 p9s,e9]
  ·omega
 ·rintro t df g' ⟨rfl,h,e9,en⟩;exact fin t g' h e9 en
end
end
section
variable {d:Nat}{n:Net}{b cv sv:AV}{q:Nat}{rows:List (List AV)}
structure Rd4 (n:Net) (b cv sv:AV) (q j:Nat) (t:T) (g:G):Prop where
 st:St t ((80,b)::LRd q)
 hp:RdH n b cv sv q (S.Oz n) ((S.OI n).take j++List.replicate (n.nodes.length - j) 0) g
 ok:∀x∈n.nodes.take j,S.OF x.parents n.nodes.length=true/\S.Pl n.grain (S.Oz n) x=true
theorem My(n:Net)(j m:Nat)(hm:m<18446744073709551616):∀y∈S.O6 n j m,y<18446744073709551616:=λy hy=>by
 simp only[S.O6,Q7,Rh]at hy;rcases hy with hy|rfl|hy
 ·obtain⟨x,-,rfl⟩:=Rb.1 (Q8 hy);exact wM _
 ·exact hm
 ·rw[(S0.1 hy).2];decide
theorem Own.natsV{b:Nat}{l:List Nat}(h:Own g b v 1 (l.map cu))(hl:l.length<9223372036854775808)(hb:∀y∈l,y<18446744073709551616):SlR (λi=>vid v=some i) 0 g.h l v :=
 Own.sl (α:=Nat) h hl (by
  have:∀l:List Nat,(∀y∈l,y<18446744073709551616)->All2 (Rp.rp (α:=Nat) (λi=>vid v=some i) 0 g.h) l (l.map cu):=λl=>by
   induction l with
   |nil=>intro _;trivial
   |cons y l ih=>intro h;exact⟨EQ.2 ⟨rfl,h y (by simp)⟩,ih λz hz=>h z (by simp[hz])⟩
  exact this l hb) λ_ h=>h
theorem Own.nats'{b:Nat}{l:List Nat}(h:Own g b v 1 (l.map cu))(hl:l.length<9223372036854775808)(hb:∀y∈l,y<18446744073709551616):SlR (λ_=>True) 0 g.h l v :=
 (h.natsV hl hb).wd λ_ _=>⟨trivial,rfl⟩
theorem Own.intsV{b:Nat}(h:Own g b v 1 (l.map ci))(hl:l.length<9223372036854775808):SlR (λi=>vid v=some i) 0 g.h l v :=
 Own.sl (α:=Int) h hl (Oz (λa=>aG.2 rfl) _) λ_ h=>h
theorem Lt{n:Net}(h:NR n){x:Node}(hx:x∈n.nodes):S.Pl n.grain (S.Oz n) x=true:=by simp only[S.Pl,S.Pb,Qt,QM,QB];exact⟨h.rows x hx,λr hr=>⟨⟨(h.row x hx r hr).1,(h.row x hx r hr).2.1⟩,(h.row x hx r hr).2.2⟩⟩
theorem L7[XOc](hd:0<d)(hl:n.nodes.length<=8)(hg1:1<=n.grain/\n.grain<=60)(hcard:∀c∈S.Oz n,1<=c/\c<=4)(hN:SlR NoP 0 .nil n.nodes b)(r1:∀h,am h 3 b=some rows)(r2:rows.length=n.nodes.length)
  (r3:∀(i:Nat) (x:Node),n.nodes[i]?=some x->∃pa ra,rows[i]?=some [T8 x.card,pa,ra]/\i<rows.length/\SlR NoP 0 .nil x.parents pa/\SlR NoP 0 .nil x.rows ra) (r4:0<n.nodes.length->wx b=true)
  (h0:Rd4 n b cv sv q 0 t g) (h82:tat t 82=T8 0) (h81:tat t 81=T8 (n.nodes.length:Int))
  (bad:∀t g,¬NR n->g.h.get 1=Tq 5 [[T8 0,.nils,.nils,.nils,.nils]]->tat t 2=T9 1->tat t 3=T8 50->Q .ret t [] g)
  (fin:∀t g,Rd4 n b cv sv q n.nodes.length t g->Q (.exit 2) t [] g):wpL (wp C0 d none m9) Q t [] g:=by
 simp only[m9,sI];refine aM (m:=n.nodes.length) (by omega) (λj t df g=>df=[]/\Rd4 n b cv sv q j t g) ⟨rfl,h0⟩ h82 h81 (by decide)
  (by rintro j t df g v s (rfl|rfl|rfl) ⟨a1,⟨b1,b2,R,U,-⟩,c1,V⟩<;>exact⟨a1,by simp[St,LRd,sx,b1,b2,R,U],c1,V⟩) ?_ ?_
 ·rintro j t df g X ⟨rfl,⟨⟨f,h1,h2,h4,-⟩,hp,E⟩⟩ h82 h81;obtain⟨x,hx,J,L⟩:=ae X;obtain⟨pa,ra,q1,hlt,w,I⟩:=r3 j x hx;have Z:=r4 (by omega);have q2:=hp.q2;have qn:=hp.qn;have C:(S.OI n).length=n.nodes.length:=by simp[S.OI]
  have F:(S.OI n)[j]?=some (S.OL x.parents):=by simp[S.OI,hx]
  obtain⟨g2,u⟩:∃g2,g2=(g.new (Tq 3 [[T8 0,.nils,.nils]])).put g.nx (Tq 3 [[T8 x.card,pa,ra]]):=⟨_,rfl⟩;have f2:Fr g g2:=by rw[u];exact MF (by simp) λi hi=>by simp[OE,show ¬i=g.nx by omega]
  have n2:g.nx<g2.nx:=by rw[u];simp
  have A:=hp.fr f2;have M:g2.h.get g.nx=Tq 3 [[T8 x.card,pa,ra]]:=by rw[u];simp[OE]
  have eY:(S.OI n).take j++List.replicate (n.nodes.length - j) 0=S.O6 n j (S.OL (x.parents.take 0)):=by rw[S.O6,show n.nodes.length - j=(n.nodes.length - (j+1))+1 by omega,RI];rfl
  have eY2:S.O6 n j (S.OL x.parents)=(S.OI n).take (j+1)++List.replicate (n.nodes.length - (j+1)) 0:=by rw[S.O6,List.take_add_one,F,Rj];rfl
  rw[eY]at A;refine jQ (P:=λt' df g'=>df=[]/\g'=g2/\St t' ((80,b)::(81,T8 (n.nodes.length:Int))::(82,T8 (j:Int))::(8,T8 (j:Int))::(9,T9 g.nx)::LRd q)) ?_ ?_
  ·simp only[sz,simprocAttr,f,h82,r1,hlt,q1];rw[u];simp[St,LRd,sx,h1,h2,h4,f,h81,h82]
  clear h1 h2 h4 f h81 h82;rintro t df g3 ⟨rfl,rfl,⟨f,h81,h82,h8,h9,h1,h2,h4,-⟩⟩;have pl:=λg=>w.len g;simp only[sz,simprocAttr,h9,M,pl];refine L6 (j:=j) (p9:=g.nx) (x:=x) (pa:=pa) (b:=b) (cv:=cv) (sv:=sv) (q:=q) hl hN hx w ⟨by simp[St,LRd,sx,jg,h1,h2,h4,h8,h9,f,h81,h82],A,⟨λi p hi=>by omega,λi p r hi=>by omega⟩⟩ (by simp[sx]) (by simp[sx]) M (λe=>by have:=(hp.hs.lt e).2;omega) ?_ ?_
  ·intro t g Y a1 a2 O;simp only[sx,sy];exact bad t g Y a1 a2 O
  ·rintro t D ⟨⟨f,h81,h82,W,h8,h9,h10,h1,h2,h4,-⟩,k,H⟩ z n4;rw[QV]at k;have o:=EF H;have B:∀p∈x.parents,0<=p/\p<((S.Oz n).length:Int):=λp hp=>by rw[aw];exact aZ o p hp
   have N:=bH o (by omega);have h3:(S.O6 n j (S.OL x.parents)).length<=8:=by simp[S.O6,C];omega
   have hm:Agg ((n,S.Oz n,S.O6 n j (S.OL x.parents),[]):NwM) (λ_=>True) 0 D.h (.agg [T8 n.grain,b,cv,sv,.nils]) :=
    ⟨_,rfl,Am.2 ⟨b,cv,sv,.nils,rfl,hN.wide (Qq 0),Own.sl (α:=Int) k.hc (by rw[aw];omega) (Oz (λa=>aG.2 rfl) _) λ_ _=>trivial,k.hs.nats' (by omega) (My n j _ (wM _)),⟨by show 0<9223372036854775808;decide,rfl⟩⟩⟩
   have K:Agg x NoP 0 D.h (.agg [T8 x.card,pa,ra]):=⟨_,rfl,eL.2 ⟨pa,ra,rfl,w.tree (Qq 0),I.tree (Qq 0)⟩⟩;have l:=Ho (d:=d) (g:=D) hd hm K ⟨rfl,rfl⟩ hg1 hcard B (by omega);have l:ay C0 d 123 [.agg [T8 n.grain,b,cv,sv,.nils],.agg [T8 x.card,pa,ra]] D=.val (.bool (S.Pl n.grain (S.Oz n) x)):=l;cases hf:S.Pl n.grain (S.Oz n) x with
   | false =>
    rw[hf]at l;simp only[sz,simprocAttr,m_,h2,h4,h9,k.hq,k.h1,z,l];refine bad _ _ (λhr=>?_) (by simp[OE]) (by simp[sx,h2]) (by simp[sx]);have:=Lt hr L;rw[hf]at this;cases this
   | true =>
    rw[hf]at l;simp only[sz,simprocAttr,m_,h4,h9,k.hq,z,l];rw[eY2]at k;refine⟨⟨by simp[St,LRd,sx,h1,h2,h4,f],k,λy hy=>?_⟩,by simp[h82],by simp[h81]⟩;rw[J]at hy;rcases Q7.1 hy with h|h
    ·exact E y h
    ·rw[RR.1 h];exact⟨o,hf⟩
 ·rintro t df g ⟨rfl,h⟩;exact fin t g h
end
theorem KD(n:Net):Snb (BI n) 2:=uq λo=>rJ (m:=2) (jk _) (bi _) (by decide) (by decide)
theorem L8[XOc]{d:Nat}{n:Net}(hd:0<d)(hm:Agg n NoP 0 g.h v):∃r,ay C0 d 87 [v] g=.val r/\BI n NoP 0 .nil r:=by
 obtain⟨b,rows,rfl,e,U,hN,M,N,O,Q⟩:=mc d hm;rw[yZ];refine bK Cf (xs:=[.agg [T8 n.grain,b]]) (by simp only[aF,e]) (by simp[lJ]) (KD n) (by decide) hd ?_;have nl:=λg=>hN.len g;simp only[sz,simprocAttr,lJ];obtain⟨g0,hg0⟩:∃g0,g0=(G.empty.new (Tq 2 [[T8 n.grain,b]])).new (Tq 5 [[T8 0,.nils,.nils,.nils,.nils]]):=⟨_,rfl⟩;rw[<-hg0];have f0:g0.h.get 0=Tq 2 [[T8 n.grain,b]]:=by rw[hg0];simp[sx,OE]
 have f1:g0.h.get 1=Tq 5 [[T8 0,.nils,.nils,.nils,.nils]]:=by rw[hg0];simp[sx]
 have f2:g0.nx=2:=by rw[hg0];simp[sx]
 clear hg0;obtain⟨Qf,m⟩:∃Qf,Qf=fnQ C0 (d+1) [SR.cell true 5 2,SR.tm 3] (λv g'=>∃P,BI n P 0 g'.h v):=⟨_,rfl⟩;have bad:∀(t:T) (g:G),¬NR n->g.h.get 1=Tq 5 [[T8 0,.nils,.nils,.nils,.nils]]->tat t 2=T9 1->tat t 3=T8 50->Qf .ret t [] g:=λt g C a1 a2 w=>by rw[m];exact Nw C a1 a2 w
 rw[<-m];simp only[tU]
 by_cases c1:n.grain<1
 ·rw[dt];simp only[sz,simprocAttr,f0,f1,c1];exact bad _ _ (λh=>by have:=h.g1;omega) (by simp[OE]) (by simp[sx]) (by simp[sx])
 by_cases c2:60<n.grain
 ·rw[dt];simp only[sz,simprocAttr,f0,f1,c1,c2];exact bad _ _ (λh=>by have:=h.g2;omega) (by simp[OE]) (by simp[sx]) (by simp[sx])
 by_cases c3:(n.nodes.length:Int)<1
 ·rw[dt];simp only[sz,simprocAttr,f0,f1,c1,c2,c3,nl];exact bad _ _ (λh=>by have:=h.l1;omega) (by simp[OE]) (by simp[sx]) (by simp[sx])
 by_cases c4:8<(n.nodes.length:Int)
 ·rw[dt];simp only[sz,simprocAttr,f0,f1,c1,c2,c3,c4,nl];exact bad _ _ (λh=>by have:=h.l2;omega) (by simp[OE]) (by simp[sx]) (by simp[sx])
 refine pg (P:=λt' df g'=>df=[]/\g'=g0/\St t' [(1,T9 0),(2,T9 1)]) ?_ ?_
 ·simp only[sz,simprocAttr,f0,c1,c2,c3,c4,nl];simp[St,sx]
 rintro t df g1 ⟨rfl,rfl,h1,h2,-⟩;have B:n.nodes.length<=8:=by omega
 refine pg (P:=λt' df g'=>df=[]/\∃cv sv q,St t' (LRd q)/\RdH n b cv sv q (List.replicate n.nodes.length 0) (List.replicate n.nodes.length 0) g') ?_ ?_
 ·simp only[sz,simprocAttr,sf,h1,f0,nl];refine rC (b:=2) (n:=n.nodes.length) (by unfold aS;omega) (by unfold aS;omega) (by first| (simp;done)| (simp;omega)) λcv g2 hcv n2 fr2 v2 lg2=>?_;simp only[sy]at n2 fr2 v2 lg2;have L:g2.h.get 0=Tq 2 [[T8 n.grain,b]]:=by rw[fr2 0 (by omega),f0]
  simp only[sz,simprocAttr,sf,h1,L,nl,lg2];refine rC (b:=2) (n:=n.nodes.length) (by unfold aS;omega) (by unfold aS;omega) (by first| (simp;done)| (simp;omega)) λsv g3 hsv n3 fr3 v3 lg3=>?_;simp only[sy]at n3 fr3 v3 lg3;simp only[sz,simprocAttr,sf,lg3,hcv.cell.1,hcv.cell.2,hsv.cell.1,hsv.cell.2];refine⟨?_,cv,sv,g3.nx+1+1,?_,?_⟩
  ·simp only[Q5,Q4,QU,QQ,G.new_lg,G.put_lg,setLog_lg];refine aT (TJ (true::(false::(TK (true::(false::(true::(true::[])))))))) [(0,4),(4,5),(4,6),(4,7),(0,8),(1,8),(2,8),(3,8),(4,8),(0,10),(1,10),(2,10),(3,10),(4,10),(5,10),(6,10),(7,10),(8,10),(9,10)] (by simp[All2,ah,aC]) (by decide) ?_;rintro p hp x y hx l;simp only[Rh,QH,S9]at hp;rcases hp with rfl|rfl|rfl|rfl|rfl|rfl|rfl|rfl|rfl|rfl|rfl|rfl|rfl|rfl|rfl|rfl|rfl|rfl|rfl<;>(simp at hx l;subst hx;subst l;refine eO rfl rfl rfl rfl ?_ ?_ ?_<;>simp[ah,aC,af]<;>omega)
  ·simp[St,LRd,sx,h1,h2]
  ·have fa:∀i,i<g2.nx->g3.h.get i=g2.h.get i:=λi hi=>by have:=fr3 i (by omega);simpa using this
   have fb:∀i,i<g1.nx->g2.h.get i=g1.h.get i:=λi hi=>by have:=fr2 i (by omega);simpa using this
   have A:Own g2 2 cv 1 ((List.replicate n.nodes.length (0:Int)).map ci):=by simpa [ci] using hcv
   have H:Own g3 2 sv 1 ((List.replicate n.nodes.length (0:Nat)).map cu):=by simpa [cu] using hsv
   have D:∀i,i<g3.nx->¬i=g3.nx+1+1:=λi hi=>by omega
   refine⟨?_,?_,?_,A.fr (by simp;omega) λi hi=>?_,H.fr (by simp;omega) λi hi=>?_,by omega,by first| (simp;done)| (simp;omega),λe=>?_,λe=>?_,λi hi hi2=>?_⟩
   ·simp[OE];rw[fa 0 (by omega),L]
   ·simp[OE];rw[fa 1 (by omega),fb 1 (by omega),f1]
   ·simp[OE]
   ·have:=mT v2 hi;simp[OE,D i (by omega)];rw[fa i (by omega)]
   ·have:=mT v3 hi;simp[OE,D i (by omega)]
   ·have:=mT v2 e;omega
   ·have:=mT v3 e;omega
   ·have:=mT v2 hi;have:=mT v3 hi2;omega
 rintro t df g ⟨rfl,cv,sv,q,⟨h1,h2,h4,-⟩,hp⟩;clear f0 f1 f2;have nlen:=nl g;simp only[sz,simprocAttr,h4,hp.hq,nl];refine L5 (b:=b) (cv:=cv) (sv:=sv) (q:=q) B hN M N O Q ⟨by simp[St,LRd,sx,S.OB,h1,h2,h4],by simpa using hp,by simp⟩ (by simp[sx]) (by simp[sx]) ?_ ?_
 ·intro t g C a1 a2 w;simp only[sx];exact bad t g C a1 a2 w
 clear h1 h2 h4 hp nlen;rintro t g ⟨⟨I,h5,h1,h2,h4,-⟩,hp,s⟩;rw[QF (by rw[aw];exact Qq _)]at h5 hp;rw[Rm,List.replicate_zero,QJ]at hp;rw[QV]at s;have J:∀c∈S.Oz n,1<=c/\c<=4:=λc hc=>by obtain⟨y,l,rfl⟩:=Rb.1 hc;exact s y l
 simp only[sz,simprocAttr,sJ]
 by_cases d1:1024<S.OB (S.Oz n)
 ·simp only[sz,simprocAttr,h2,h5,hp.h1,d1];exact bad _ _ (λh=>by have:=h.worlds;omega) (by simp[OE]) (by simp[sx,h2]) (by simp[sx])
 simp only[sz,simprocAttr,h4,h5,hp.hq,nl,d1];refine L7 (b:=b) (cv:=cv) (sv:=sv) (q:=q) (RA d) B (by omega) J hN M N O Q ⟨by simp[St,LRd,sx,h1,h2,h4],by simpa using hp,by simp⟩ (by simp[sx]) (by simp[sx]) ?_ ?_
 ·intro t g C a1 a2 w;simp only[sx];exact bad t g C a1 a2 w
 clear h1 h2 h4 I h5 hp;rintro t g ⟨⟨R,h1,h2,h4,-⟩,hp,k⟩;rw[QF (by simp[S.OI])]at hp;rw[Rm,List.replicate_zero,QJ]at hp;rw[QV]at k;have F:(S.OI n).length=n.nodes.length:=by simp[S.OI]
 have j:∀y∈S.OI n,y<18446744073709551616:=λy l=>by obtain⟨x,-,rfl⟩:=Rb.1 l;exact wM _
 have u:∀y∈S.OI n,y<2 ^ (S.OI n).length:=λy l=>by obtain⟨x,hx,rfl⟩:=Rb.1 l;rw[F];exact JO (by omega) λz hz=>aZ (k x hx).1 z hz
 obtain⟨z,ez,o,-,oz,az,rfl,f,a⟩:=H3 (d:=d+1) (g:=g) (RA d) (hp.hs.nats' (by omega) j) (by omega) u;have a:=Bl.1 a;injection a with a;subst a;obtain⟨_,e1,f⟩:=f;injection e1 with e1;subst e1;cases hac:S.Pt (S.OI n) with
 | false =>
  rw[hac]at ez;simp only[sz,simprocAttr,na,h2,h4,hp.hq,hp.h1,ez];exact bad _ _ (λh=>by have:=h.acyc;rw[hac]at this;cases this) (by simp[OE]) (by simp[sx,h2]) (by simp[sx])
 | true =>
  rw[hac]at ez;have E:S.Pj n=true:=md.2 ⟨by omega,by omega,by omega,by omega,s,λx hx=>(k x hx).1,by omega,hac,λx hx=>by
   have:=(k x hx).2;simp only[S.Pl,Qt,QM]at this;exact this.1,λx hx r hr=>by
   have:=(k x hx).2;simp only[S.Pl,S.Pb,Qt,QM,QB]at this;have:=this.2 r hr;exact⟨this.1.1,this.1.2,this.2⟩⟩
  have q2:=hp.q2;have K:¬(1=q):=by omega
  have V:¬(q=1):=by omega
  have oc:=f.cell;rw[m];simp only[sz,simprocAttr,na,h2,h4,hp.hq,hp.h1,ez,K,oc.1,oc.2];have fh:∀i,¬i=1->¬i=q->((g.h.put q (Tq 5 [[T8 n.grain,b,cv,sv,oz]])).put 1 (Tq 5 [[T8 n.grain,b,cv,sv,oz]])).get i=g.h.get i:=λi hi hi2=>by simp[OE,hi,hi2]
  refine⟨λ_=>True,o,trivial,_,_,rfl,⟨_,rfl,?_⟩,?_⟩
  ·rw[S.PP,Qw E];refine Am.2 ⟨b,cv,sv,oz,rfl,hN.wide (Qq 0),(hp.hc.intsV (by rw[aw];omega)).wd λi hi=>⟨trivial,fh i (by have:=(hp.hc.lt hi).1;omega) λe=>hp.d1 (by rw[hi,e])⟩,(hp.hs.natsV (by omega) j).wd λi hi=>⟨trivial,fh i (by have:=(hp.hs.lt hi).1;omega) λe=>hp.d2 (by rw[hi,e])⟩,f.wide (Qq 0)⟩
  ·rw[Qw E];exact aG.2 rfl
theorem Ew{n:Net}{o:List Int}(h:S.Pj n=true):S.PP n o=(n,S.Oz n,S.OI n,o):=by rw[S.PP,Qw h]
theorem Db{n:Net}(hv:BI n P k h v) :
  (S.Pj n=false/\∃cs,v=.tup [.agg cs,T8 50]/\cs.length=5) \/
  (S.Pj n=true/\∃b cv sv oz o,v=.tup [.agg [T8 n.grain,b,cv,sv,oz],T8 0]/\SlR P k h n.nodes b/\SlR P k h (S.Oz n) cv/\SlR P k h (S.OI n) sv/\SlR P k h (o:List Int) oz):=by
 obtain⟨o,-,a,c,rfl,⟨cs,rfl,hc⟩,hi⟩:=hv;have hi:=aG.1 hi;injection hi with hi;subst hi;cases hn:S.Pj n with
 | false =>
  refine .inl ⟨rfl,cs,rfl,?_⟩;obtain⟨a,b,c,e,rfl,-⟩:=Am.1 hc
  rfl
 | true =>
  rw[Ew hn]at hc;obtain⟨a,b,c,e,rfl,h1,h2,h3,h4⟩:=Am.1 hc;exact .inr ⟨rfl,a,b,c,e,o,rfl,h1,h2,h3,h4⟩
theorem IN[XOc]{k2:Nat}{P2:Nat->Prop}{n:Net}{e:List Int}(hd:0<d)(hm:Agg n NoP 0 g.h v)(he:SlR P2 k2 g.h e w):ay C0 d 93 [v,w] g=.val (T8 (S.Pe n e)):=by
 obtain⟨w',e2,p⟩:=bj he d;obtain⟨b,rows,rfl,e1,B,hN,L,M,N,O⟩:=mc d hm;have n2:=λg=>(p .nil).len g;have rb:=λh=>(p h).ints;rw[oZ];refine jf qD (xs:=[.agg [T8 n.grain,b],w']) (by simp only[aF,e1,e2]) (by simp[fZ]) hd ?_;have J:=he.1;simp only[sz,simprocAttr,fZ,jq,iY];obtain⟨z,ez,hz⟩:=L8 (d:=d+1) (g:=G.empty.new (Tq 2 [[T8 n.grain,b]])) (RA d) (n:=n) (v:=.agg [T8 n.grain,b]) (B _);rcases Db hz with⟨i,cs,rfl,x⟩|⟨i,b',cv,sv,oz,o,rfl,hb,A,-,-⟩
 ·have hs:S.Pe n e=50:=by rw[S.Pe,i];rfl
  obtain⟨a1,a2,q,a4,r,rfl⟩:∃a1 a2 q a4 r,cs=[a1,a2,q,a4,r]:=by
   match cs,x with
   |[a1,a2,q,a4,r],_=>exact⟨a1,a2,q,a4,r,rfl⟩
  simp only[sz,simprocAttr,ez,hs,show ¬((50:Int)=0) from by decide]
 ·have nb:=λg=>(hb.tree (h':=g) (Qq 0)).len;have I:=hb.1;have rc:=λh=>(A.tree (h':=h) (Qq 0)).ints;have hcl:=aw n
  by_cases hl:e.length=n.nodes.length
  ·have f:(e.length:Int)=(n.nodes.length:Int):=by rw[hl]
   simp only[sz,simprocAttr,ez,n2,hb.len,hl];refine aM (m:=n.nodes.length) (by omega) (λj t df g=>df=[]/\St t [(24,w'),(5,T9 1),(4,T8 0)]/\g.h.get 1=Tq 5 [[T8 n.grain,b',cv,sv,oz]]/\((List.range j).all λv=>decide (-1<=e[v]?.getD 0)&&decide (e[v]?.getD 0<(S.Oz n)[v]?.getD 0))=true)
    ⟨rfl,by simp[St,sx],by simp[sx],by simp⟩ (by simp[sx]) (by simp[sx]) (by decide) (by rintro j t df g v s (rfl|rfl|rfl)<;>simp[St,sx]) ?_ ?_
   ·rintro j t df g K ⟨rfl,⟨k,h5,h4,-⟩,hg,ha⟩ a u;obtain⟨y,D,-,-⟩:=ae (l:=e) (j:=j) (by omega);obtain⟨c,hc,-,-⟩:=ae (l:=S.Oz n) (j:=j) (by omega);have E:j<(e.map ci).length:=by simp;omega
    have F:(e.map ci)[j]?=some (ci y):=by rw[Qv,D];rfl
    have u3:j<((S.Oz n).map ci).length:=by simp;omega
    have H:((S.Oz n).map ci)[j]?=some (ci c):=by rw[Qv,hc];rfl
    have C:((List.range (j+1)).all λv=>decide (-1<=e[v]?.getD 0)&&decide (e[v]?.getD 0<(S.Oz n)[v]?.getD 0))=(decide (-1<=y)&&decide (y<c)):=by rw[Ry,List.all_append,ha];simp[D,hc]
    have bad:(decide (-1<=y)&&decide (y<c))=false->S.Pe n e=2:=λh=>by
     have h1:S.Pc n e=false:=by
      rw[S.Pc];have:((List.range e.length).all λv=>decide (-1<=e[v]?.getD 0)&&decide (e[v]?.getD 0<(S.Oz n)[v]?.getD 0))=false:=by rw[<-Sf,QB];intro h2;have:=h2 j (QE.2 (by omega));rw[D,hc,Qz,Qz,h]at this;cases this
      rw[this,Bool.and_false]
     rw[S.Pe,i,h1];rfl
    by_cases c1:y < -1
    ·have:=bad (by simp;omega);simp only[sz,simprocAttr,k,a,rb,E,F,ci,c1,this]
    ·by_cases c2:c<=y
     ·have:=bad (by simp;omega);simp only[sz,simprocAttr,k,h5,a,hg,rb,rc,E,F,u3,H,ci,c1,c2,this]
     ·have h3:((List.range (j+1)).all λv=>decide (-1<=e[v]?.getD 0)&&decide (e[v]?.getD 0<(S.Oz n)[v]?.getD 0))=true:=by rw[C];simp;omega
      simp only[sz,simprocAttr,k,h5,h4,a,u,hg,rb,rc,E,F,u3,H,ci,c1,c2,St,h3]
   ·rintro t df g ⟨rfl,⟨k,h5,h4,-⟩,hg,ha⟩;have h1:S.Pc n e=true:=by rw[S.Pc,hl,Rf rfl,ha];rfl
    have hs:S.Pe n e=0:=by rw[S.Pe,i,h1];rfl
    simp only[sz,simprocAttr,iZ,hs]
  ·have f:¬((e.length:Int)=(n.nodes.length:Int)):=by omega
   have h1:S.Pc n e=false:=by rw[S.Pc,Rs hl];rfl
   have hs:S.Pe n e=2:=by rw[S.Pe,i,h1];rfl
   simp only[sz,simprocAttr,ez,n2,hb.len,f,hs]
structure FacH (bx nd:List AV) (w u:AV) (vars cards:List Int) (beh:Int) (q:Nat) (g:G):Prop where
 h0:g.h.get 0=Tq 5 [bx]
 h1:g.h.get 1=Tq 3 [[.nils,.nils,.nils]]
 h2:g.h.get 2=Tq 3 [nd]
 h8:g.h.get q=Tq 3 [[w,u,.nils]]
 h9:g.h.get (q+1)=Tq 1 [[T8 beh]]
 hw:Own g 3 w 1 (vars.map ci)
 hu:Own g (q+2) u 1 (cards.map ci)
 wq:∀i,vid w=some i->i<q
 q3:3<=q
 qn:q+2<=g.nx
def NS(q:Nat):List (Nat×AV):=[(2,T9 0),(4,T9 1),(5,T9 2),(8,T9 q),(9,T9 (q+1))]
structure FacJ (gr:Int) (b cv sv oz:AV) (nd:List AV) (w:AV) (cs vars:List Int) (pl q j:Nat) (t:T) (g:G):Prop where
 st:St t ((38,w)::(6,T8 (pl:Int))::NS q)
 hp:∃u,FacH [T8 gr,b,cv,sv,oz] nd w u vars (S.OA cs (vars.take j)) (S.OB (S.OA cs ((vars.take j).drop (pl+1)))) q g
def GH(h:H)(n:Nat):G:=⟨h,n,[]⟩
@[simp] theorem GH_h (h:H) (n:Nat):(GH h n).h=h:=rfl
@[simp] theorem GH_nx (h:H) (n:Nat):(GH h n).nx=n:=rfl
structure FacG (g0:G) (iw:Nat) (W:AV) (rws:List (List Int)) (B C t:Nat) (h:H):Prop where
 fr:∀i,i<g0.nx->i≠iw->h.get i=g0.h.get i
 ow:Own (GH h (iw+1)) 3 W 1 ((S.Qb rws B C t).map ci)
structure FacI (g0 g2:G) (iw:Nat) (W z:AV) (r:List Int) (rws:List (List Int)) (B C q j i:Nat) (t:T) (g:G):Prop where
 st:St t ((78,z)::(12,T8 (j:Int))::NS q)
 hp:FacG g0 iw W rws B C (j*C+i) g.h
 nx:g2.nx<=g.nx
 fr:∀i,g0.nx<=i->i<g2.nx->g.h.get i=g2.h.get i
def S.Qa(n:Net)(i:Nat)(x:Node)(p:Nat):Factor:=⟨S.P7 x.parents p (i:Int),S.OA (S.Oz n) (S.P7 x.parents p (i:Int)),S.Qc x.rows (S.OB (S.OA (S.Oz n) (x.parents.drop p))).toNat x.card.toNat⟩
def S.P8(n:Net)(l:List Factor):Prop:=∀(i:Nat) (x:Node),i<l.length->n.nodes[i]?=some x->∃p,p<=x.parents.length/\l[i]?=some (S.Qa n i x p)
structure FasJ (n:Net) (W b cv sv oz:AV) (j:Nat) (t:T) (g:G):Prop where
 st:St t [(4,T9 1),(6,W)]
 hg:g.h.get 1=Tq 5 [[T8 n.grain,b,cv,sv,oz]]
 hW:∃(rows:List (List AV)) (l:List Factor),Own g 2 W 3 rows/\rows.length=n.nodes.length/\l.length=j/\All2 (Rp.rp NoP 0 .nil) l (rows.take j)/\S.P8 n l/\∀i,j<=i->i<n.nodes.length->rows[i]?=some [.nils,.nils,.nils]
abbrev QnM:Type:=Net×List Factor×List (List Int)
def S.P5(m:Nat)(f:Factor)(i:Nat)(R:List Int):Prop:=R.length=m/\∀(j:Nat) (y:Int),i<=j->f.vars[j]?=some y->R[y.toNat]?=some (S.OB (f.cards.drop (j+1)))
structure QnOk (n:Net) (y:QnM):Prop where
 net:y.1=n
 fl:y.2.1.length=n.nodes.length
 fs:S.P8 n y.2.1
 sl:y.2.2.length=n.nodes.length
 st:∀(k:Nat) (f:Factor) (R:List Int),y.2.1[k]?=some f->y.2.2[k]?=some R->S.P5 n.nodes.length f 0 R
def Oq(fl:AV)(m q k:Nat):List (Nat×AV):=[(11,T9 q),(2,T9 0),(4,T9 1),(45,fl),(46,T8 (m:Int)),(47,T8 (k:Int))]
structure AskI (fl:AV) (m q k:Nat) (g0:G) (iR:Nat) (R:AV) (f:Factor) (fb j:Nat) (t:T) (g:G):Prop where
 st:St t ((13,T9 fb)::(12,T8 (k:Int))::(14,T8 (S.OB (f.cards.drop j)))::Oq fl m q k)
 nx:g0.nx<=g.nx
 fr:∀i,i<g0.nx->i≠iR->g.h.get i=g0.h.get i
 ow:∃X:List Int,Own g 2 R 1 (X.map ci)/\S.P5 m f j X
structure FOk (m:Nat) (f:Factor):Prop where
 cl:f.cards.length=f.vars.length
 vl:f.vars.length<=16
 cb:∀c∈f.cards,1<=c/\c<=4
 nd:f.vars.Nodup
 vr:∀y∈f.vars,0<=y/\y<m
structure AskH (gr:Int) (b fl S_:AV) (m q:Nat) (fs:List Factor) (k:Nat) (g:G):Prop where
 h0:g.h.get 0=Tq 2 [[T8 gr,b]]
 h1:g.h.get 1=Tq 4 [[T8 0,.nils,.nils,.nils]]
 hq:g.h.get q=Tq 4 [[T8 gr,b,fl,S_]]
 q2:2<=q/\q<g.nx
 sq:∀i,vid S_=some i->i<q
 hS:∃(Vs:List AV) (l:List (List Int)),Own g 2 S_ 1 (Vs.map λv=>[v])/\Vs.length=m/\l.length=k/\All2 (λX v=>Own g (q+1) v 1 (X.map ci)) l (Vs.take k)/\∀(i:Nat) (f:Factor) (X:List Int),fs[i]?=some f->l[i]?=some X->S.P5 m f 0 X
structure AskJ (gr:Int) (b fl S_:AV) (m q:Nat) (fs:List Factor) (k:Nat) (t:T) (g:G):Prop where
 st:St t [(11,T9 q),(2,T9 0),(4,T9 1),(45,fl)]
 hp:AskH gr b fl S_ m q fs k g
theorem Lu{α:Type}{l:List α}{x y:α}(h1:l[i]?=some x)(h2:l[i]?=some y):x=y:=by rw[h1]at h2;injection h2
structure WtI (y:QnM) (b fl S_ wv va ca wa:AV) (gr wt:Int) (p:Int) (cards pv:List Int) (m k fb i:Nat) (t:T) (g:G):Prop where
 st:St t [(1,wv),(2,T9 0),(12,fl),(13,T8 (m:Int)),(14,T8 (k:Int)),(5,T8 wt),(6,T8 (k:Int)),(7,T9 fb),(20,va),(8,T8 (p - S.OC (cards.drop i) (pv.drop i)))]
 h0:g.h.get 0=Tq 4 [[T8 gr,b,fl,S_]]
 hf:g.h.get fb=Tq 3 [[va,ca,wa]]
 nn:0<=p - S.OC (cards.drop i) (pv.drop i)
 nx:1<=g.nx
structure WtJ (n:Net) (vals:List Int) (b fl S_ wv:AV) (k:Nat) (t:T) (g:G):Prop where
 st:St t [(1,wv),(2,T9 0),(12,fl),(5,T8 (S.OB ((List.range k).map (S.O9 n vals))))]
 h0:g.h.get 0=Tq 4 [[T8 n.grain,b,fl,S_]]
 nx:1<=g.nx
theorem rP[XOc](hd:0<d)(hv:SlR P k g.h l v):ay C0 d 98 [v] g=.val (T8 (S.Pd l)):=by
 obtain⟨v',e,c⟩:=bj hv d;have vl:∀g,bY .slice v' g=.val (T8 (l.length:Int)):=λg=>(c .nil).len g;have ri:=λh=>(c h).ints;rw[wi];refine jf zb (xs:=[v']) (by simp only[aF,e]) (by simp[pz]) hd ?_;simp only[sz,simprocAttr,pz,vl,qc];refine aM (m:=l.length) hv.1 (λj t df g=>df=[]/\St t [(6,v'),(3,T8 (S.Pd (l.take j)))]) ⟨rfl,by simp[St,sx,S.Pd]⟩ (by simp[sx]) (by simp[sx]) (by decide)
  (by rintro j t df g v s (rfl|rfl|rfl)<;>simp[sx,St]) ?_ ?_
 ·rintro j t df g b ⟨rfl,h6,h3,-⟩ h8 h7;obtain⟨x,hx,a,hm⟩:=ae b;have f:j<(l.map ci).length:=by simpa using b
  have i:(l.map ci)[j]?=some (ci x):=by rw[Qv,hx];rfl
  simp only[sz,simprocAttr,h6,h8,h3,ri,f,i,ci];simp[St,sx,h6,h7,a,S.Pd,SS]
 ·rintro t df g ⟨rfl,h6,h3,-⟩;rw[QV]at h3;simp only[sz,simprocAttr,qd,h3]
theorem vA[XOc]{n:Net}(hd:0<d)(hv:SlR P k g.h n.nodes v)(hn:n.nodes.length<1073741824):∃r,ay C0 d 97 [v] g=.val r/\IT 0 (S.Oz n) r:=by
 obtain⟨v',e,r0⟩:=bj hv d;obtain⟨rows,o,E,A,B⟩:=(r0 .nil).all;have o:∀h',am h' 3 v'=some rows:=o;have vl:∀g,bY .slice v' g=.val (T8 (n.nodes.length:Int)):=λg=>(r0 .nil).len g;rw[uQ];refine bK xQ (xs:=[v']) (by simp only[aF,e]) (by simp[nj]) (bi _) (by decide) hd ?_;simp only[sz,simprocAttr,nj,vl];refine wO (b:=0) (n:=n.nodes.length) (by unfold aS;omega) (by unfold aS;omega) (Q_ _) λu g1 hu n1 f1 v1=>?_;simp only[sz,simprocAttr,vl,oo];refine aM (m:=n.nodes.length) (by omega) (λj t df g=>df=[]/\St t [(9,v'),(3,u)]/\Own g 0 u 1 ((((S.Oz n).take j)++List.replicate (n.nodes.length - j) 0).map ci)) ⟨rfl,by simp[St,sx],?_⟩ (by simp[sx]) (by simp[sx]) (by decide)
  (by rintro j t df g v s (rfl|rfl|rfl)<;>simp[sx,St]) ?_ ?_
 ·simpa [ci] using hu
 ·rintro j t df g w ⟨rfl,⟨h9,h3,-⟩,f⟩ c h10;obtain⟨x,hx,-,hm⟩:=ae w;obtain⟨row,z,q2⟩:=A j x hx;obtain⟨a',b',rfl,p,q⟩:=eL.1 q2;have hlt:j<rows.length:=by omega
  have y:=B (by omega);have hcl:(S.Oz n).length=n.nodes.length:=aw n;have l:(S.Oz n)[j]?=some x.card:=by simp[S.Oz,hx]
  have C:j<((((S.Oz n).take j)++List.replicate (n.nodes.length - j) 0).map ci).length:=by simp;omega
  have D:((((S.Oz n).take j)++List.replicate (n.nodes.length - j) 0).map ci)[j]?=some (ci 0):=by rw[Qv,QL (by simp;omega),Sg];simp;omega
  have e2:((((S.Oz n).take j)++List.replicate (n.nodes.length - j) 0).map ci).set j (ci x.card)=(((S.Oz n).take (j+1))++List.replicate (n.nodes.length - (j+1)) 0).map ci:=by
   rw[<-RX,RG _ _ (by simp;omega),QZ,RB (by omega),Rm,QG (by omega),show n.nodes.length - j=(n.nodes.length - (j+1))+1 by omega,RI,R3,Rj];have:(S.Oz n)[j]=x.card:=by rw[Qr (by omega)]at l;injection l
   rw[this];rfl
  have fw:ef [T8 0,.nils,.nils] [((0,3),.agg [T8 x.card,a',b'])]=some [T8 x.card,a',b']:=rfl;simp only[sz,simprocAttr,h9,c,o,hlt,z];have a:Own ((g.new (Tq 3 [[T8 0,.nils,.nils]])).put g.nx (Tq 3 [[T8 x.card,a',b']])) 0 u 1 ((((S.Oz n).take j)++List.replicate (n.nodes.length - j) 0).map ci) :=
   f.fr (by simp) λi hi=>by have:=(f.lt hi).2;simp[OE,show ¬i=g.nx by omega]
  generalize (g.new (Tq 3 [[T8 0,.nils,.nils]])).put g.nx (Tq 3 [[T8 x.card,a',b']])=g2 at a ⊢;simp only[sz,simprocAttr,h3,a.rows,C];refine ct (v:=u) (sz:=1) (n:=1) (i:=j) (off:=0) (x:=T8 x.card) (row:=ci 0) (row':=ci x.card) a D rfl rfl rfl λg3 o3 n3 f3=>?_;rw[e2]at o3;simp only[sz,simprocAttr];simpa [St,sx,h9,h3,h10,c] using o3
 ·rintro t df g ⟨rfl,⟨h9,h3,-⟩,f⟩;rw[QF (by rw[aw];omega),Rm]at f;simp only[sz,simprocAttr,oq,h3];exact⟨_,(by simpa using f:Own g 0 u 1 ((S.Oz n).map ci)).ints (by rw[aw];omega)⟩
def S.PC(l:List Int)(x:Int):Int:=if x∈l then (l.idxOf x:Int) else -1
theorem I7:(0:Int)<=S.PC l x↔x∈l:=by
 unfold S.PC
 split
 ·rename_i h;simp[h]
 ·rename_i h;simp[h]
theorem Ie[XOc](hd:0<d)(hv:SlR P k g.h l v):ay C0 d 129 [v,T8 x] g=.val (T8 (S.PC l x)):=by
 obtain⟨v',e,n⟩:=bj hv d;have vl:∀g,bY .slice v' g=.val (T8 (l.length:Int)):=λg=>(n .nil).len g;have ri:=λh=>(n h).ints;rw[nQ];refine jf qk (xs:=[v',T8 x]) (by simp only[aF,e,iK 0]) (by simp[e_]) hd ?_;simp only[sz,simprocAttr,e_,vl,iD];refine aM (m:=l.length) hv.1 (λj t df g=>df=[]/\St t [(0,v'),(1,T8 x)]/\x ∉ l.take j) ⟨rfl,by simp[St,sx],by simp⟩ (by simp[sx]) (by simp[sx]) (by decide)
  (by rintro j t df g v s (rfl|rfl|rfl)<;>simp[sx,St]) ?_ ?_
 ·rintro j t df g b ⟨rfl,⟨h0,h1,-⟩,a⟩ h8 h7;obtain⟨y,i,f,hm⟩:=ae b;have o:j<(l.map ci).length:=by simpa using b
  have p:(l.map ci)[j]?=some (ci y):=by rw[Qv,i];rfl
  by_cases c:x=y
  ·subst c;have hl:l=l.take j++x::l.drop (j+1):=by
    have:l.drop j=x::l.drop (j+1):=by rw[Sp b];congr 1;rw[Qr b]at i;injection i
    rw[<-this,Rk]
   have hf:S.PC l x=(j:Int):=by
    unfold S.PC;rw[Qw hm];have:l.idxOf x=j:=by
     conv=>lhs;rw[hl]
     rw[List.idxOf_append,Qu a,List.idxOf_cons_self,QZ];omega
    rw[this]
   simp only[sz,simprocAttr,h0,h1,h8,ri,o,p,ci,hf]
  ·simp only[sz,simprocAttr,h0,h1,h8,ri,o,p,ci,c];simp[St,sx,h0,h1,h7,f,a,c]
 ·rintro t df g ⟨rfl,-,a⟩;rw[QV]at a;simp only[sz,simprocAttr,iE,S.PC,a]
theorem uz[XOc](hd:0<d)(hv:SlR P k g.h l v):ay C0 d 94 [v,T8 x] g=.val (.bool (decide (x∈l))):=by obtain⟨v',e,b⟩:=bj hv d;have ki:=λg=>Ie (d:=d+1) (g:=g) (x:=x) (RA d) (b g.h);have a:decide ((0:Int)<=S.PC l x)=decide (x∈l):=decide_eq_decide.2 I7;rw[lC];refine l8 mZ (xs:=[v',T8 x]) (by simp only[aF,e,iK 0]) (by simp[dG]) hd ?_;simp only[sz,simprocAttr,dG,ki,<-a]
theorem uJ{α:Type} [Rp α]{l:List α}(hw:SlR P k h l w)(g:G):AH w g=.upd (T9 g.nx) (g.new (Tq 1 [[w]])):=by rw[D9 _ _ hw.cell.2,hw.cell.1];rfl
def DV{α:Type} [Rp α](x:α)(sz:Nat):VS:=λP k h v=>(∃id cs,v=T9 id/\P id/\h.get id=Tq sz [cs]/\Rp.rp P k h x cs)\/∃t cs,v=.tptr t sz [cs] 0 0/\t<=k/\Rp.rp NoP k .nil x cs
theorem C7{α:Type} [Rp α]{x:α}{sz:Nat}(d:Nat)(r:DV x sz P k h v)(hn:Rp.dp α<=n)(hd:Rp.dp α<=20:=by decide):∃v',Hx.snap h d (n+1) v=some v'/\DV x sz NoP (max k d) .nil v':=by
 rcases r with⟨id,cs,rfl,-,hg,r⟩|⟨t,cs,rfl,ht,r⟩
 ·obtain⟨cs',e,r'⟩:=Rp.snap (n:=n) d r hn (by show _<=24;omega);obtain⟨m,e2,l2⟩:=Rp.tag (n:=aD) r' (by show _<=24;omega);refine⟨.tptr (Nat.max d (Nat.max m 0)) sz [cs'] 0 0,?_,.inr ⟨_,cs',rfl,?_,r'⟩⟩
  ·simp only[Hx.snap,hg,show Nat.beq 0 0=true from rfl,aF,e,eM,ge,e2]
  ·show max d (max m 0)<=max k d;omega
 ·exact⟨.tptr t sz [cs] 0 0,rfl,.inr ⟨t,cs,rfl,by omega,Rp.mono r (λi hi=>hi.elim) (by omega)⟩⟩
theorem Gk{α:Type} [Rp α]{x:α}{sz:Nat}(r:DV x sz NoP k h v):∃m,eh (n+1) v=some m/\m<=k:=by
 rcases r with⟨id,cs,rfl,a,-⟩|⟨t,cs,rfl,ht,r⟩
 ·exact a.elim
 ·exact⟨t,rfl,ht⟩
theorem CQ(h:InC cs vs)(hc:∀c∈cs,1<=c)(hi:vs[i]?=some x)(hci:cs[i]?=some c)(hx:x≠c - 1):InC cs (vs.take i++(x+1)::List.replicate (vs.length - (i+1)) 0):=by
 have b:=(Qs.1 hi).1;have hl:=h.len;refine A0 (by simp;omega) λj c' v k hv=>?_;obtain⟨v',h1,h2,h3⟩:=h.get k;have a:=hc c' (Qx k)
 by_cases h4:j<i
 ·rw[QK (by simp;omega),Rc h4]at hv;rw[h1]at hv;injection hv with hv;omega
 ·rw[QL (by simp;omega)]at hv;rw[QZ,RB (by omega)]at hv
  by_cases h5:j=i
  ·subst h5;rw[Rm]at hv;simp at hv;rw[hi]at h1;injection h1 with h1;rw[hci]at k;injection k with k;omega
  ·obtain⟨m,hm⟩:∃m,j - i=m+1:=⟨j - i - 1,by omega⟩;rw[hm,List.getElem?_cons_succ]at hv;have:=Qx hv;rw[S0]at this;omega
theorem DS(hc:∀c∈cs,1<=c):InC cs (List.replicate cs.length 0) :=
 A0 (by simp) λj c v hj hv=>by have:=Qx hv;rw[S0]at this;have:=hc c (Qx hj);omega
theorem ux{m:Nat}(h:m<vs.length):(vs.take (m+1)++List.replicate (vs.length - (m+1)) 0).set m 0=vs.take m++List.replicate (vs.length - m) 0:=by
 rw[QG h,Rj,RG _ _ (by simp;omega),QZ,RB (by omega),Rm];rw[show vs.length - m=(vs.length - (m+1))+1 by omega,RI]
 rfl
theorem uw{m:Nat}(h:m<vs.length)(y:Int):(vs.take (m+1)++List.replicate (vs.length - (m+1)) 0).set m y=vs.take m++y::List.replicate (vs.length - (m+1)) 0:=by
 rw[QG h,Rj,RG _ _ (by simp;omega),QZ,RB (by omega),Rm]
 rfl
structure OdoJ (n:Net) (vs:List Int) (L:List (Nat×AV)) (u:AV) (g0:G) (m:Nat) (t:T) (g:G):Prop where
 st:tat t 6=T8 ((m:Int) - 1)
 ss:St t L
 ow:Own g g0.nx u 1 ((vs.take m++List.replicate (vs.length - m) 0).map ci)
 mx:∀(j:Nat) (c:Int),m<=j->(S.Oz n)[j]?=some c->vs[j]?.getD 0=c - 1
theorem Ai{C:Cfg}{id:Nat}{ps:List Nat}{assign body:Code}{a b:SC}{dfr:Nat}{args:List AV}{t':T}
  (hg:g.h.get id=.loop nt t ps assign body dfr .ready none) (ha:bZ C nt assign=a) (hb:bZ C nt body=b) (hp:cY t nt ps args=some t')
  (h:wp C d (some id) a (λe t1 df g1=>e=.norm/\df=[]/\g1.h.get id=.loop nt t ps assign body dfr .ready none /\
   wp C d (some id) b (λe _ df g2=>df=[]/\g2.h.get id=.loop nt t ps assign body dfr .busy none/\((e=.norm/\K (.bool true) (g2.put id (.loop nt t ps assign body dfr .ready none)))\/(e=.ret/\K (.bool false) (g2.put id (.loop nt t ps assign body dfr .done (some .ret))))))
    t1 [] (g1.put id (.loop nt t ps assign body dfr .busy none))) t' [] g) :
  (cE (I C) d id args g).sat K g D:=by
 subst ha;subst hb;unfold cE;rw[show g.get id=_ from hg];dsimp only;rw[hp];dsimp only;have h1:=rQ h;cases hc:(I C).code nt d (some id) assign t' [] g with
 |fail=>rw[hc]at h1;exact h1.elim
 | ok e t1 df g1 =>
  rw[hc]at h1;obtain⟨rfl,rfl,k,h2⟩:=h1;dsimp only;rw[show g1.get id=_ from k];dsimp only;have h3:=rQ h2;cases hc2:(I C).code nt d (some id) body t1 [] (g1.put id (.loop nt t ps assign body dfr .busy none)) with
  |fail=>rw[hc2]at h3;exact h3.elim
  | ok e t2 df2 g2 =>
   rw[hc2]at h3;obtain⟨rfl,h4,h5⟩:=h3;dsimp only;rw[show g2.get id=_ from h4];rcases h5 with⟨rfl,h5⟩|⟨rfl,h5⟩<;>exact h5
structure CsOk (cs:List Int):Prop where
 b:∀c∈cs,1<=c/\c<=4
 l:cs.length<=8
def S.nc(cs:List Int):Nat:=(S.OB cs).toNat
theorem CsOk.nc{cs:List Int}(h:CsOk cs):1<=S.nc cs/\S.nc cs<=65536/\((S.nc cs:Nat):Int)=S.OB cs:=by
 obtain⟨h1,h2⟩:=dq h.b;have h3:(4:Int) ^ cs.length<=4 ^ 8:=by
  have:(4:Nat) ^ cs.length<=4 ^ 8:=R4 (by decide) h.l
  exact_mod_cast this
 have h4:(4:Int) ^ 8=65536:=by decide
 unfold S.nc;omega
def Up(B:Nat)(g g':G):Prop:=(∀i,i<B->g'.h.get i=g.h.get i)/\∀i∈g'.lg,i∈g.lg\/B<=i
theorem Up.refl(B:Nat)(g:G):Up B g g:=⟨λ_ _=>rfl,λ_ h=>.inl h⟩
theorem Up.trans{B:Nat}{g1 g2:G}(h:Up B g g1)(h2:Up B g1 g2):Up B g g2:=⟨λi hi=>by rw[h2.1 i hi,h.1 i hi],λi hi=>(h2.2 i hi).elim (λh3=>h.2 i h3) .inr⟩
theorem Up.mono{B B':Nat}(h:Up B g g')(hb:B'<=B):Up B' g g':=⟨λi hi=>h.1 i (by omega),λi hi=>(h.2 i hi).imp id λh=>by omega⟩
theorem Up.new{B:Nat}{g:G}(hb:B<=g.nx)(o:AObj):Up B g (g.new o):=⟨λi hi=>by rw[G.new_h,ax _ _ _ (by omega)],λi hi=>by simp at hi;rcases hi with rfl|hi;exact .inr hb;exact .inl hi⟩
theorem Up.put{B:Nat}{g:G}{j:Nat}(hb:B<=j)(o:AObj):Up B g (g.put j o):=⟨λi hi=>by rw[G.put_h,ax _ _ _ (by omega)],λi hi=>by simp at hi;rcases hi with rfl|hi;exact .inr hb;exact .inl hi⟩
theorem pM{sz off:Nat}{rows:List (List AV)}{row row':List AV}{x:AV}(hv:Own g b v sz rows)(hr:rows[i]?=some row)
  (hl:x.cells.length=n) (ht:x.isTup=false) (hp:cj row off x.cells=some row')
  (k:∀g',Own g' b v sz (rows.set i row')->g'.nx=g.nx->(∀i,vid v≠some i->g'.h.get i=g.h.get i)->Up b g g'->K .undef g'):(mj n (kX sz v i off) x g).sat K g D:=by
 rcases hv with⟨rfl,rfl⟩|⟨id,ep,lo,h1,h2,rfl,h3⟩
 ·simp at hr
 ·simp only[kX,Rn];rw[yR h3 hr rfl ht hl hp];refine k _ (.inr ⟨id,ep,lo,h1,by simpa using h2,by simp,by simp[a9]⟩) (by simp) (λi hne=>?_) (Up.put h1 _);rw[G.put_h,ax _ _ _ (λe=>hne (by rw[e];rfl))]
def Uo(B:Nat)(g g':G):Prop:=Up B g g'/\g.nx<=g'.nx/\∀i,i≠B->i<g.nx->g'.h.get i=g.h.get i
theorem Uo.refl(B:Nat)(g:G):Uo B g g:=⟨Up.refl _ _,Qq _,λ_ _ _=>rfl⟩
theorem Uo.trans{B:Nat}{g g1 g2:G}(h:Uo B g g1)(h2:Uo B g1 g2):Uo B g g2:=⟨h.1.trans h2.1,QW h.2.1 h2.2.1,λi hi hn=>by rw[h2.2.2 i hi (QR hn h.2.1),h.2.2 i hi hn]⟩
def Ul(B:Nat)(g g':G):Prop:=Up B g g'/\g.nx<=g'.nx/\∀i,(i<B\/B+3<=i)->i<g.nx->g'.h.get i=g.h.get i
theorem Ul.put{B:Nat}{g:G}{j:Nat}(hb:B<=j)(hb2:j<B+3)(o:AObj):Ul B g (g.put j o):=⟨Up.put hb o,by simp,λi hi _=>by rw[G.put_h,ax _ _ _ (by omega)]⟩
def LMc(id:Nat)(w u:AV)(k:Nat):List (Nat×AV):=[(0,.yld id),(1,.tptr 0 1 [[w]] 0 0),(3,u),(4,T8 (k:Int))]
structure OdoC (cs vs:List Int) (L:List (Nat×AV)) (u:AV) (g0:G) (m:Nat) (t:T) (g:G):Prop where
 st:tat t 5=T8 ((m:Int) - 1)
 ss:St t L
 ow:Own g g0.nx u 1 ((vs.take m++List.replicate (vs.length - m) 0).map ci)
 mx:∀(j:Nat) (c:Int),m<=j->cs[j]?=some c->vs[j]?.getD 0=c - 1
theorem Ll[XOc]{id m:Nat}{g0:G}(hb:CsOk cs)(hw:SlR NoP 0 .nil cs w)(hc:InC cs vs)(hm:m<=cs.length)
  (h0:OdoC cs vs (LMc id w u k) u g0 m t g) (hvu:vid u=some g0.nx)
  (fin:∀m' t g',m'<=cs.length->OdoC cs vs (LMc id w u k) u g0 m' t g'->g.nx<=g'.nx->Uo g0.nx g g'->(m'=0\/∃x c,vs[m' - 1]?=some x/\cs[m' - 1]?=some c/\x≠c - 1/\0<m')->Q (.exit 2) t [] g') :
  wpL (wp C0 d none bV) Q t [] g:=by
 have F:=hc.len;have C:=hb.l;have ri:=λh=>(hw.tree (h':=h) (Qq 0):SlR NoP 0 h cs w).ints;refine tD (λm t df g'=>df=[]/\m<=cs.length/\OdoC cs vs (LMc id w u k) u g0 m t g'/\g.nx<=g'.nx/\Uo g0.nx g g') m ⟨rfl,hm,h0,Qq _,Uo.refl _ _⟩ ?_;rintro m t df g1 ⟨rfl,hm,⟨h5,⟨h0,h1,h3,h4,-⟩,f,p⟩,q,o⟩;simp only[bV];cases m with
 | zero =>
  have c1:¬((0:Int)<=((0:Nat):Int) - 1):=by omega
  simp only[sz,simprocAttr,h5];refine fin 0 _ _ (Q_ _) ⟨?_,?_,?_,p⟩ ?_ ?_ (.inl rfl)
  ·simp[sx,h5]
  ·simp[St,LMc,sx,h0,h1,h3,h4]
  ·exact f
  ·exact q
  ·exact o
 | succ m =>
  have c1:(0:Int)<=((m+1:Nat):Int) - 1:=by omega
  have e1:((m+1:Nat):Int) - 1=(m:Int):=by omega
  rw[e1]at c1 h5;obtain⟨x,hx,-,r⟩:=ae (l:=cs) (j:=m) (by omega);obtain⟨v,hv,D,E⟩:=hc.get hx;have B:=hb.b x r;have y:m<((vs.take (m+1)++List.replicate (vs.length - (m+1)) 0).map ci).length:=by simp;omega
  have s:((vs.take (m+1)++List.replicate (vs.length - (m+1)) 0).map ci)[m]?=some (ci v):=by rw[Qv,QK (by simp;omega),Rc (by omega),hv];rfl
  have z:m<(cs.map ci).length:=by simp;omega
  have A:(cs.map ci)[m]?=some (ci x):=by rw[Qv,hx];rfl
  have ru:=f.rows;have w1:IntKind.wrap .i64 (x - 1)=x - 1:=aB (by omega) (by omega)
  by_cases c2:v=x - 1
  ·simp only[sz,simprocAttr,h5,h1,h3,c1,ru,y,s,ri,z,A,aP,ci,w1,c2];refine pM (v:=u) (sz:=1) (n:=1) (i:=m) (off:=0) (x:=T8 0) (row':=ci 0) f s rfl rfl rfl λg4 hu4 n4 f4 p4=>?_;rw[<-RX,ux (by omega)]at hu4;have H:IntKind.wrap .i64 ((m:Int) - 1)=(m:Int) - 1:=aB (by omega) (by omega);simp only[sz,simprocAttr,h5,H];refine⟨m,by omega,by omega,⟨by simp[sx],by simp[St,LMc,sx,h0,h1,h3,h4],hu4,λj c hj a=>?_⟩,by omega,o.trans ⟨p4,by omega,λi hi _=>f4 i λe=>hi (by rw[hvu]at e;injection e with e;exact e.symm)⟩⟩
   by_cases e:j=m
   ·subst e;rw[hx]at a;injection a with a;rw[hv,Qz];omega
   ·exact p j c (by omega) a
  ·simp only[sz,simprocAttr,h5,h1,h3,c1,ru,y,s,ri,z,A,aP,ci,w1,c2];refine fin (m+1) _ _ hm ⟨?_,?_,?_,p⟩ ?_ ?_ (.inr ⟨v,x,hv,hx,c2,by omega⟩)
   ·simp[sx,h5]
   ·simp[St,LMc,sx,h0,h1,h3,h4]
   ·exact f
   ·exact q
   ·exact o
theorem Lm[XOc]{id:Nat}{g0:G}(hb:CsOk cs)(hw:SlR NoP 0 .nil cs w)
  (J:Nat->G->Prop) (E:G->Prop) (hJ:∀j g g',Uo g0.nx g g'->J j g->J j g')
  (step:∀(j:Nat) (u:AV) (g:G) (K':AV->G->Prop) (D:ADf->Prop),j<S.nc cs->g0.nx+1<=g.nx->J j g->SlR (λi=>g0.nx<=i/\i<g.nx) 0 g.h (S.OE cs j) u ->
   (∀g',J (j+1) g'->g.nx<=g'.nx->(∀i,g0.nx<=i->i<g.nx->g'.h.get i=g.h.get i)->K' (.bool true) g')->(∀g',E g'->K' (.bool false) g')->(cE (I C0) d id [T8 (j:Int),u] g).sat K' g D)
  (h0:J 0 g0) (fin:∀g',J (S.nc cs) g'->g0.nx<=g'.nx->K (.tup []) g') (finE:∀g',E g'->K (.tup []) g') :
  wp C0 d none aR.code (fnQ C0 d aR.res K) (bk 0 [.yld id,.tptr 0 1 [[w]] 0 0] .nil) [] g0:=by
 have h7:=hb.l;obtain⟨W1,W2,W3⟩:=hb.nc;have p:=λc hc=>(hb.b c hc).1;have nl:=hw.len;have ri:=λh=>(hw.tree (h':=h) (Qq 0):SlR NoP 0 h cs w).ints;obtain⟨Qf,B⟩:∃Qf,Qf=fnQ C0 d aR.res K:=⟨_,rfl⟩;rw[<-B];simp only[sz,simprocAttr,aR,aP,nl];refine rC (b:=g0.nx) (n:=cs.length) (by unfold aS;omega) (by unfold aS;omega) (Qq _) λu g1 hu n1 fr1 v1 l1=>?_;simp only[sz,simprocAttr];obtain⟨INV,o⟩:∃INV:Nat->PT,INV=(λm t df g=>df=[]/\∃(j:Nat) (vs:List Int),m=S.nc cs - j/\j<S.nc cs/\InC cs vs/\S.OC cs vs=(j:Int)/\St t (LMc id w u j)/\Own g g0.nx u 1 (vs.map ci)/\J j g/\g0.nx+1<=g.nx):=⟨_,rfl⟩;refine tD INV (S.nc cs) ?_ ?_
 ·rw[o];exact⟨rfl,0,List.replicate cs.length 0,rfl,by omega,DS p,by rw[rh];rfl,by simp[St,LMc,sx],by simpa [ci] using hu,hJ 0 _ _ ⟨⟨fr1,λi hi=>by rw[l1]at hi;rcases Rh.1 hi with rfl|hi;exact .inr (Qq _);exact .inl hi⟩,by omega,λi _ hn=>fr1 i hn⟩ h0,by omega⟩
 intro m t df g Z;have H:=Z;rw[o]at H;obtain⟨rfl,j,vs,rfl,hj,f,r,⟨h0,h1,h3,h4,-⟩,ho,z,M⟩:=H;clear Z;have hd:=f.len;have O:S.OE cs (j:Int)=vs:=by rw[<-r];exact cd p f
 have P:vid u=some g0.nx:=v1;have hsl:SlR (λi=>g0.nx<=i/\i<g.nx) 0 g.h vs u:=Own.sl (α:=Int) ho (by omega) (Oz (λa=>aG.2 rfl) _) λi hi=>ho.lt hi;have w1:IntKind.wrap .i64 ((cs.length:Int) - 1)=(cs.length:Int) - 1:=aB (by omega) (by omega);obtain⟨R,hR⟩:∃R,R=(T7 (.blk 1 (sQ [oL 15 1,oN 16 15,Tt 17 .sub 16 1,oM 5 17] (T7 (.blk 2 (.loop bV)) bW))) cU):=⟨_,rfl⟩;simp only[fW];rw[<-hR,dt];obtain⟨Q1,A⟩:∃Q1,Q1=kL INV (S.nc cs - j) (kB 0 Qf):=⟨_,rfl⟩;rw[<-A];have rest:∀(t:T) (g:G),St t (LMc id w u j)->Own g g0.nx u 1 (vs.map ci)->J (j+1) g->g0.nx+1<=g.nx->wp C0 d none R Q1 t [] g:=by
  rintro t g ⟨h0,h1,h3,h4,-⟩ ho z M;rw[hR,A];simp only[sz,simprocAttr,h1,aP,nl,w1];refine Ll (id:=id) (k:=j) (m:=cs.length) (w:=w) (u:=u) (vs:=vs) (g0:=g0) hb hw f (Qq _) ⟨by simp[sx],by simp[St,LMc,sx,h0,h1,h3,h4],?_,λi c hi hc=>?_⟩ P ?_
  ·rw[QF (by omega),show vs.length - cs.length=0 by omega];simpa using ho
  ·have:=(Qs.1 hc).1;omega
  rintro m' t2 g2 h8 ⟨h5,⟨h0,h1,h3,h4,-⟩,N,L⟩ ha Q C;have y:J (j+1) g2:=hJ _ _ _ Q z;rcases C with rfl|⟨x,c,hx,hc,Y,h9⟩
  ·have F:j+1=S.nc cs:=by have:=wK (cs:=cs) (vs:=vs) f.len.symm λi c hc=>L i c (Q_ _) hc;omega
   have c1:(((0:Nat):Int) - 1<0):=by omega
   rw[B];simp only[sz,simprocAttr,bW,aR,h5];rw[F]at y;exact fin g2 y (by omega)
  ·obtain⟨i,rfl⟩:∃i,m'=i+1:=⟨m' - 1,by omega⟩;rw[S2]at hx hc;have U:=(Qs.1 hx).1;have e1:((i+1:Nat):Int) - 1=(i:Int):=by omega
   rw[e1]at h5;have c1:¬((i:Int)<0):=by omega
   have u1:i<((vs.take (i+1)++List.replicate (vs.length - (i+1)) 0).map ci).length:=by simp;omega
   have u2:((vs.take (i+1)++List.replicate (vs.length - (i+1)) 0).map ci)[i]?=some (ci x):=by rw[Qv,QK (by simp;omega),Rc (by omega),hx];rfl
   have ru:=N.rows;obtain⟨x',V,W,X⟩:=f.get hc;rw[Lu V hx]at W X;have h6:=hb.b c (Qx hc);have w2:IntKind.wrap .i64 (x+1)=x+1:=aB (by omega) (by omega);simp only[sz,simprocAttr,bW,h5,c1,h3,ru,u1,u2,ci,w2];refine pM (v:=u) (sz:=1) (n:=1) (i:=i) (off:=0) (x:=T8 (x+1)) (row':=ci (x+1)) N u2 rfl rfl rfl λg4 hu4 n4 f4 p4=>?_;rw[<-RX,uw U]at hu4;have s:=CQ f p hx hc Y;have q:=Cw (cs:=cs) (vs:=vs) f.len.symm hx λk c hk hc=>L k c (by omega) hc;rw[r]at q;have h2:=bz hb.b s;have w3:IntKind.wrap .i64 ((j:Int)+1)=((j+1:Nat):Int):=by rw[aB (by omega) (by omega)];rfl
   simp only[sz,simprocAttr,cU,h4,w3];refine⟨S.nc cs - (j+1),by omega,?_⟩;rw[o];refine⟨rfl,j+1,_,rfl,by omega,s,by rw[q];rfl,by simp[St,LMc,sx,h0,h1,h3],hu4,hJ _ _ _ ⟨p4,by omega,λi hi _=>f4 i λe=>hi (by rw[P]at e;injection e with e;exact e.symm)⟩ y,by omega⟩
 simp only[sz,simprocAttr,h0,h3,h4];have st:=λK' D=>step j u g K' D hj M z (by rw[O];exact hsl);show (cE (I C0) d id [T8 (j:Int),u] g).sat _ _ _;refine st _ _ (λg' hJ' hn' hf'=>?_) λg' hE=>?_
 ·simp only[sz,simprocAttr];exact rest _ _ (by simp[St,LMc,sx,h0,h1,h3,h4]) (ho.fr hn' λi hi=>hf' i (ho.lt hi).1 (ho.lt hi).2) hJ' (by omega)
 ·rw[A,B];simp only[sz,simprocAttr,aR];exact finE g' hE
theorem I5[XOc]:C0.ext 131=none:=by kernel_rfl
theorem Ah[XOc]{p q r:Nat}{ca cb:SC}{df:List ADf}(hb:CsOk cs)(hw:SlR NoP 0 .nil cs w)
  (hv:tat t r=.clo 131 [] [.tptr 0 1 [[w]] 0 0]) (hp:p<nt) (hq:q<nt)
  (J:Nat->G->Prop) (E:G->Prop) (hJ:∀j g1 g2,Ul g.nx g1 g2->J j g1->J j g2) (hE:∀g1 g2,Ul g.nx g1 g2->E g1->E g2) (h0:J 0 g)
  (step:∀(j:Nat) (u:AV) (g1:G),j<S.nc cs->J j g1->g.nx+3<=g1.nx->SlR (λi=>g.nx+2<=i/\i<g1.nx) 0 g1.h (S.OE cs j) u ->
   wp C0 d (some (g.nx+1)) ca (λe t1 df g1'=>e=.norm/\df=[]/\Fr g1 g1'/\∀g2:G,g2.nx=g1'.nx->(∀i,i≠g.nx+1->g2.h.get i=g1'.h.get i)->Up g.nx g1' g2 ->
    wp C0 d (some (g.nx+1)) cb (λe _ df g3=>df=[]/\RowQ g.nx g2 g3 e (J (j+1) g3) (E g3)) t1 [] g2)
    (ei (ei t p (T8 (j:Int))) q u) [] g1)
  (fin:∀g',J (S.nc cs) g'->g.nx+2<=g'.nx->g'.h.get g.nx=.dfr true->Q .norm t (.mark g.nx::df) g')
  (finE:∀g',E g'->g.nx+2<=g'.nx->g'.h.get g.nx=.dfr true->Q .ret t (.mark g.nx::df) g') :
  wp C0 d none (.rng nt (.t r) [p,q] ca cb) Q t df g:=by
 refine tE (fn:=131) (first:=[]) (cap:=[.tptr 0 1 [[w]] 0 0]) (s:=aR) hv I5 n7 (by simp[aR]) ?_;intro assign body ha o;have e1:((g.new (.dfr true)).new (.loop nt t [p,q] assign body g.nx .ready none)).nx=g.nx+2:=by simp
 refine Lm (g0:=(g.new (.dfr true)).new (.loop nt t [p,q] assign body g.nx .ready none)) (id:=g.nx+1) hb hw
  (λj g'=>J j g'/\g'.h.get g.nx=.dfr true/\g'.h.get (g.nx+1)=.loop nt t [p,q] assign body g.nx .ready none)
  (λg'=>E g'/\g'.h.get g.nx=.dfr true/\g'.h.get (g.nx+1)=.loop nt t [p,q] assign body g.nx .done (some .ret)/\g.nx+2<=g'.nx) ?_ ?_ ?_ ?_ ?_
 ·rintro j h h' c ⟨a1,a2,b⟩;rw[e1]at c;exact⟨hJ j h h' ⟨c.1.mono (by omega),c.2.1,λi hi a=>c.2.2 i (by omega) a⟩ a1,by rw[c.1.1 _ (by omega),a2],by rw[c.1.1 _ (by omega),b]⟩
 ·rintro j u g1 K' D B a ⟨a1,a2,b⟩ hsl kk kE;rw[e1]at a kk hsl;refine Ai b ha o (t':=ei (ei t p (T8 (j:Int))) q u) ?_ ?_
  ·simp only[cY,aa,Rr,Qw hp,Qw hq];rfl
  ·refine cw _ (step j u g1 B a1 (by omega) hsl) ?_;rintro e t1 df g1' ⟨rfl,rfl,k,h⟩;have f:g.nx+1<g1.nx:=by omega
   have hl:g.nx+1<g1'.nx:=QR f k.1;have l:g1'.h.get g.nx=.dfr true:=by rw[k.2 _ (by omega),a2]
   have m:g1'.h.get (g.nx+1)=.loop nt t [p,q] assign body g.nx .ready none:=by rw[k.2 _ f,b]
   refine⟨rfl,rfl,m,?_⟩;refine cw _ (h (g1'.put (g.nx+1) (.loop nt t [p,q] assign body g.nx .busy none)) (by simp) (λi hi=>by simp[OE,hi]) (Up.put (by omega) _)) ?_;rintro e C df g3 ⟨rfl,⟨b2,n,b1⟩⟩;have z:g3.h.get (g.nx+1)=.loop nt t [p,q] assign body g.nx .busy none:=by rw[n _ (by omega) (by simpa using hl)];simp[OE]
   have x:g3.h.get g.nx=.dfr true:=by rw[n _ (by omega) (by simp;omega)];simp[OE,l]
   refine⟨rfl,z,?_⟩;have y:g1'.nx<=g3.nx:=by simpa using b2
   have A:=k.1;rcases b1 with⟨rfl,b1⟩|⟨rfl,b1⟩
   ·refine .inl ⟨rfl,kk _ ⟨hJ _ g3 _ (Ul.put (by omega) (by omega) _) b1,?_,?_⟩ (by simp;omega) λi h1 h2=>?_⟩
    ·simp[OE,x]
    ·simp[OE]
    ·have v:¬i=g.nx+1:=by omega
     have:=n i (by omega) (by simp;omega);simp[OE,v]at this ⊢;rw[this,k.2 i h2]
   ·refine .inr ⟨rfl,kE _ ⟨hE g3 _ (Ul.put (by omega) (by omega) _) b1,?_,?_,?_⟩⟩
    ·simp[OE,x]
    ·simp[OE]
    ·simp;omega
 ·refine⟨hJ 0 g _ ⟨(Up.new (Qq _) _).trans (Up.new (by simp) _),by simp;omega,λi hi a=>by simp[OE,show ¬i=g.nx by omega,show ¬i=g.nx+1 by omega]⟩ h0,?_,?_⟩
  ·simp[OE]
  ·simp[OE]
 ·rintro g' ⟨a1,a2,b⟩ a;rw[e1]at a;refine⟨_,_,_,_,_,_,.inl ⟨b,fin _ (hJ _ g' _ (Ul.put (by omega) (by omega) _) a1) (by simpa using a) ?_⟩⟩;simp[OE,a2]
 ·rintro g' ⟨a1,a2,b,a⟩;refine⟨_,_,_,_,_,_,.inr ⟨b,finE _ (hE g' _ (Ul.put (by omega) (by omega) _) a1) (by simpa using a) ?_⟩⟩;simp[OE,a2]
theorem yI[XOc]{p q r:Nat}{ca cb:SC}{df:List ADf}(hb:CsOk cs)(hw:SlR NoP 0 .nil cs w)
  (hv:tat t r=.clo 131 [] [.tptr 0 1 [[w]] 0 0]) (hp:p<nt) (hq:q<nt)
  (J:Nat->G->Prop) (E:G->Prop) (hJ:∀j g1 g2,Up g.nx g1 g2->J j g1->J j g2) (hE:∀g1 g2,Up g.nx g1 g2->E g1->E g2) (h0:J 0 g)
  (step:∀(j:Nat) (u:AV) (g1:G),j<S.nc cs->J j g1->g.nx+2<=g1.nx->SlR (λi=>g.nx+2<=i/\i<g1.nx) 0 g1.h (S.OE cs j) u ->
   wp C0 d (some (g.nx+1)) ca (λe t1 df g1'=>e=.norm/\df=[]/\Fr g1 g1'/\∀g2:G,g2.nx=g1'.nx->(∀i,i≠g.nx+1->g2.h.get i=g1'.h.get i)->Up g.nx g1' g2 ->
    wp C0 d (some (g.nx+1)) cb (λe _ df g3=>df=[]/\RowQ g.nx g2 g3 e (J (j+1) g3) (E g3)) t1 [] g2)
    (ei (ei t p (T8 (j:Int))) q u) [] g1)
  (fin:∀g',J (S.nc cs) g'->g.nx+2<=g'.nx->g'.h.get g.nx=.dfr true->Q .norm t (.mark g.nx::df) g')
  (finE:∀g',E g'->g.nx+2<=g'.nx->g'.h.get g.nx=.dfr true->Q .ret t (.mark g.nx::df) g') :
  wp C0 d none (.rng nt (.t r) [p,q] ca cb) Q t df g :=
 Ah hb hw hv hp hq J E (λj g1 g2 h=>hJ j g1 g2 h.1) (λg1 g2 h=>hE g1 g2 h.1) h0 (λj u g1 hj hJj hn=>step j u g1 hj hJj (by omega)) fin finE
def CbV(cs:List Int):VS:=λP k h v=>∃p,v=.clo 131 [] [p]/\DV cs 1 P k h p
theorem NH(cs:List Int):Snb (CbV cs) 2:=by
 refine⟨λ{P k h v n} d r hn=>?_,λ{k h v n} r hn=>?_⟩
 ·obtain⟨p,rfl,a⟩:=r;obtain⟨n,rfl⟩:∃q,n=q+2:=⟨n - 2,by omega⟩;obtain⟨p',e1,b⟩:=C7 (n:=n) d a (QW (show Rp.dp (List Int)<=20 by decide) (by omega));refine⟨.clo 131 [] [p'],?_,p',rfl,b⟩;simp only[Hx.snap,aF]at e1 ⊢;rw[e1]
 ·obtain⟨p,rfl,a⟩:=r;obtain⟨n,rfl⟩:∃q,n=q+2:=⟨n - 2,by omega⟩;obtain⟨c,e1,l1⟩:=Gk (n:=n) a;refine⟨Nat.max c 0,?_,by show max c 0<=k;omega⟩;show ge (eh (n+1)) [p]=_;simp only[ge,e1]
theorem wG[XOc](hd:0<d)(hw:SlR NoP 0 g.h cs w) :
  ∃z,ay C0 d 96 [w] g=.val (.clo 131 [] [.tptr 0 1 [[z]] 0 0])/\SlR NoP 0 .nil cs z:=by
 have key:∃r,ay C0 d 96 [w] g=.val r/\CbV cs NoP 0 .nil r:=by rw[nR];refine bK ql (xs:=[w]) (by simp only[aF,wX d hw]) (by simp[fc]) (NH cs) (by decide) hd ?_;simp only[sz,simprocAttr,fc,jc,uJ hw];refine⟨λ_=>True,_,rfl,.inl ⟨0,[w],rfl,trivial,by simp[sx],?_⟩⟩;exact⟨w,rfl,hw.wide (Qq 0)⟩
 obtain⟨r,hr,p,rfl,k⟩:=key;rcases k with⟨id,cs,rfl,a,-⟩|⟨t,cs2,rfl,ht,k⟩
 ·exact a.elim
 obtain⟨z,rfl,hz⟩:=ch.1 k;have:t=0:=by omega
 subst this;exact⟨z,hr,hz⟩
theorem tX{v:Int}(h:cs.length=vs.length):S.OC (cs++[c]) (vs++[v])=S.OC cs vs*c+v:=by
 have h1:=td (cs++[c]) (vs++[v]) 0 (by simp[h]);have h2:=td cs vs 0 h;have h3:S.PJ (cs++[c]) (vs++[v]) 0=S.PJ cs vs 0*c+v:=by
  unfold S.PJ;rw[List.zip_append h,SS]
  rfl
 rw[Int.zero_mul,Int.zero_add]at h1 h2;rw[<-h1,h3,h2]
theorem bQ(hc:∀c∈cs,1<=c/\c<=4)(hl:cs.length<=8)(j:Nat):S.OB (cs.take j)<=65536:=by
 obtain⟨-,h2⟩:=dq (l:=cs.take j) λc h=>hc c (Q8 h);have h3:(4:Int) ^ (cs.take j).length<=4 ^ 8:=by
  have:(4:Nat) ^ (cs.take j).length<=4 ^ 8:=R4 (by decide) (by rw[QZ];omega)
  exact_mod_cast this
 have h4:(4:Int) ^ 8=65536:=by decide
 omega
theorem Mw[XOc]{k2:Nat}{P2:Nat->Prop}{n:Net}{x:Node}{vals:List Int}(hd:0<d)(hv:SlR NoP 0 .nil n.nodes v)(hr:NR n)(hx:n.nodes[i]?=some x)(hw:SlR P2 k2 g.h vals w)(hin:InC (S.Oz n) vals) :
  ay C0 d 130 [v,T8 (i:Int),w] g=.val (T8 (S.OC (S.OA (S.Oz n) x.parents) (S.OA vals x.parents))):=by
 obtain⟨w',e2,I⟩:=bj hw d;have e1:=wX (h:=g.h) d (hv.tree (h':=g.h) (Qq 0));obtain⟨rows,u,r2,O,r4⟩:=hv.all;have u:∀h',am h' 3 v=some rows:=u;have R:=(Qs.1 hx).1;have q:=Qx hx;obtain⟨row,Z,q2⟩:=O i x hx;obtain⟨pa,ra,rfl,f,-⟩:=eL.1 q2;have hlt:i<rows.length:=by omega
 have o:=r4 (by omega);have T:=hr.l2;have H:=hin.len;rw[aw]at H;have W:=bH (hr.places x q) (by omega);have k:=hr.pin q;have lpa:=f.len;have rpa:=λh=>(f.tree (h':=h) (Qq 0)).ints;have rw':=λh=>(I h).ints;have hC:=d6 hin k;have hb:=bF hr.cs k;have b:(S.OA (S.Oz n) x.parents).length=x.parents.length:=by simp[S.OA]
 have C:(S.OA vals x.parents).length=x.parents.length:=by simp[S.OA]
 rw[xA];refine jf AR (xs:=[v,T8 (i:Int),w']) (by simp only[aF,e1,e2,iK 0]) (by simp[qX]) hd ?_;simp only[sz,simprocAttr,qX,u,hlt,Z,o,lpa,qY];refine aM (m:=x.parents.length) (by omega) (λj t df g=>df=[]/\St t [(0,v),(2,w'),(14,pa),(7,T8 (S.OC ((S.OA (S.Oz n) x.parents).take j) ((S.OA vals x.parents).take j)))]) ⟨rfl,by simp[St,sx,S.OC]⟩ (by simp[sx]) (by simp[sx]) (by decide)
  (by rintro j t df g v s (rfl|rfl|rfl)<;>simp[sx,St]) ?_ ?_
 ·rintro j t df g r ⟨rfl,h0,h2,a,h7,-⟩ B h15;obtain⟨p,hp,-,D⟩:=ae r;obtain⟨Y,N⟩:=k p D;rw[aw]at N;obtain⟨pn,rfl⟩:=QD Y;have E:pn<n.nodes.length:=by omega
  obtain⟨y,K,-,J⟩:=ae (l:=n.nodes) (j:=pn) E;obtain⟨row2,s1,s2⟩:=O pn y K;obtain⟨pa2,ra2,rfl,-,-⟩:=eL.1 s2;have e:pn<rows.length:=by omega
  obtain⟨z,hz,-,-⟩:=ae (l:=vals) (j:=pn) (by omega);have a1:j<(x.parents.map ci).length:=by simpa using r
  have a2:(x.parents.map ci)[j]?=some (ci (pn:Int)):=by rw[Qv,hp];rfl
  have b1:pn<(vals.map ci).length:=by rw[QA];omega
  have b2:(vals.map ci)[pn]?=some (ci z):=by rw[Qv,hz];rfl
  have c1:(S.OA (S.Oz n) x.parents).take (j+1)=(S.OA (S.Oz n) x.parents).take j++[y.card]:=by
   rw[QG (by omega)];congr 1;simp only[S.OA,List.getElem_map];have:x.parents[j]=(pn:Int):=by rw[Qr r]at hp;injection hp
   rw[this];simp[S.Oz,K]
  have P:(S.OA vals x.parents).take (j+1)=(S.OA vals x.parents).take j++[z]:=by
   rw[QG (by omega)];congr 1;simp only[S.OA,List.getElem_map];have:x.parents[j]=(pn:Int):=by rw[Qr r]at hp;injection hp
   rw[this];simp[hz]
  have F:S.OC ((S.OA (S.Oz n) x.parents).take (j+1)) ((S.OA vals x.parents).take (j+1))=S.OC ((S.OA (S.Oz n) x.parents).take j) ((S.OA vals x.parents).take j)*y.card+z:=by rw[c1,P];exact tX (by simp[b,C])
  have L:=bz (λc h=>hb c (Q8 h)) (hC.take j);have M:=bz (λc h=>hb c (Q8 h)) (hC.take (j+1));have N:=bQ hb (by rw[b];omega) j;have p2:=bQ hb (by rw[b];omega) (j+1);rw[F]at M ⊢;have X:=hr.card y J;obtain⟨A,Q⟩:∃A,A=S.OC ((S.OA (S.Oz n) x.parents).take j) ((S.OA vals x.parents).take j):=⟨_,rfl⟩;rw[<-Q]at h7 L M ⊢;have U:0<=A*y.card:=Sm L.1 (by omega);have V:A*y.card<=65536*4:=SK (by omega) (by omega) (by omega) (by omega);have w1:IntKind.wrap .i64 (A*y.card)=A*y.card:=aB (by omega) (by omega);have w2:IntKind.wrap .i64 (A*y.card+z)=A*y.card+z:=aB (by omega) (by omega);simp only[sz,simprocAttr,h0,h2,a,h7,B,rpa,a1,a2,ci,u,e,s1,o,rw',b1,b2,w1,w2];simp[St,sx,h0,h2,a,h15]
 ·rintro t df g ⟨rfl,h0,h2,a,h7,-⟩;rw[QF (by omega),QF (by omega)]at h7;simp only[sz,simprocAttr,qZ,h7]
theorem Nn(hn:n<=65536)(k:∀g',g'.h.get g.nx=Tq 1 ((List.replicate n 0).map ci)->g'.nx=g.nx+1->Up g.nx g g'->K (.hsl g.nx 0 0 0 none) g') :
  (yk 1 8 [T8 0] (T8 0) (T8 (n:Int)) g).sat K g D:=by
 have h1:n<=aS:=by unfold aS;omega
 have h2:n*8<=aS:=by unfold aS;omega
 have key:yk 1 8 [T8 0] (T8 0) (T8 (n:Int)) g=.upd (.hsl g.nx 0 0 0 none) (g.new (Tq 1 (eH n [T8 0]))):=by
  show (match bN aS (T8 (.ofNat n)) with
   | some cn=>match bN cn (T8 0) with
    |some ln=>ak (Nat.ble (cn*8) aS) (OR.upd (.hsl g.nx 0 0 ln none) (g.new (Tq 1 (eH cn [T8 0])))) .fail
    |none=>.fail
   |none=>.fail)=_
  have a1:bN aS (T8 (.ofNat n))=some n:=by show ak (Nat.ble n aS) (some n) none=_;rw[aa,Qw (by simpa using h1)]
  have a2:bN n (T8 0)=some 0:=by show ak (Nat.ble 0 n) (some 0) none=_;rw[aa,Qw (by simp)]
  rw[a1];dsimp only;rw[a2];dsimp only;rw[aa,Qw (by simpa using h2)]
 rw[key];refine k _ ?_ (by simp) (Up.new (Qq _) _);simp[a9,eH,ci]
theorem GV{id:Nat}{y:Int}(hv:g.h.get id=Tq 1 (l.map ci++(y::tl).map ci))(hx:am g.h 1 w=some [ci x])(hr:l.length<=65536)
  (k:K (.hsl id 0 0 (l++[x]).length none) (g.put id (Tq 1 ((l++[x]).map ci++tl.map ci)))):(cQ 1 8 (.hsl id 0 0 l.length none) w g).sat K g D:=by
 unfold cQ;rw[hx];simp only[a8,G.get_eq,hv,aq,aa,Q2,Rz,Q6,Qt,Rn,RT,R6,Q3,QA,Rd,SB];rw[Qw ⟨by omega,by unfold aS;omega⟩,Qw (by omega)];have a:jI false=true:=rfl;rw[Qw ⟨by omega,a⟩];have e:gT (l.map ci++(y::tl).map ci) l.length [ci x]=(l++[x]).map ci++tl.map ci:=by simp only[gT,fG];rw[Rx,Rj,Sv,RG _ _ (by simp)];simp
 rw[e];have e3:l.length+1=(l++[x]).length:=by simp
 rw[e3];exact k
def S.wt(n:Net)(w:Nat):Int:=S.PQ n (S.OE (S.Oz n) (w:Int))
def S.OT(n:Net)(j:Nat):List Int:=(List.range j).map (S.wt n)
theorem KZ(n:Net)(j:Nat):S.OT n (j+1)=S.OT n j++[S.wt n j]:=by simp[S.OT,Ry]
theorem GO(n:Net)(j:Nat):(S.OT n j).length=j:=by simp[S.OT]
def LWt(B:Nat):List (Nat×AV):=[(1,T9 B),(4,T9 (B+2))]
theorem Fe[XOc]{B:Nat}{n:Net}{b:AV}{vals:List Int}{rd:Option Nat}(hd:0<d)(hr:NR n)(hN:SlR NoP 0 .nil n.nodes b)(hin:InC (S.Oz n) vals)(hu:SlR P 0 g.h vals u)(hP:∀i,P i->i<g.nx)(hB:B<g.nx)
  (gB:g.h.get B=Tq 2 [[T8 n.grain,b]])
  (ht:St t ((6,u)::(21,b)::LWt B)) (h7:tat t 7=T8 1) (h23:tat t 23=T8 0) (h22:tat t 22=T8 (n.nodes.length:Int))
  (fin:∀t g',St t ((7,T8 (S.PQ n vals))::(6,u)::LWt B)->Fr g g'->Up g.nx g g'->Q (.exit 2) t [] g'):wpL (wp C0 d rd gX) Q t [] g:=by
 obtain⟨rows,F,r2,Z,r4⟩:=hN.all;have F:∀h',am h' 3 b=some rows:=F;have O:=hr.l2;have D:=hin.len;rw[aw]at D;simp only[gX];refine aM (m:=n.nodes.length) (by omega) (λk t df g'=>df=[]/\St t ((7,T8 (S.OB ((List.range k).map (S.O9 n vals))))::(6,u)::(21,b)::LWt B)/\Fr g g'/\Up g.nx g g') ⟨rfl,by
   obtain⟨h6,a,h1,h4,-⟩:=ht;simp[St,LWt,h1,h4,h6,h7,a,S.OB],Fr.refl _,Up.refl _ _⟩ h23 h22 (by decide)
  (by rintro j t df g v s (rfl|rfl|rfl) ⟨a1,⟨b1,b2,J,K,L,-⟩,c1,M⟩<;>exact⟨a1,by simp[St,LWt,sx,b1,b2,J,K,L],c1,M⟩) ?_ ?_
 ·rintro k t df g1 hk ⟨rfl,⟨h7,h6,a,h1,h4,-⟩,f,q⟩ h23 h22;obtain⟨x,hx,-,-⟩:=ae hk;obtain⟨row,Y,q2⟩:=Z k x hx;obtain⟨pa,ra,rfl,R,C⟩:=eL.1 q2;obtain⟨i,r,c,y,V,i2,W,I,i5,i6,E,X,i9⟩:=Ci hr hin hx;obtain⟨cn,rfl⟩:=QD i5;rw[S6]at E;obtain⟨rr,s1,s2,s3,s4⟩:=pJ C;obtain⟨z,t1,t2,hz⟩:=s3 i r W;have hlt:k<rows.length:=by omega
  have U:=r4 (by omega);have H:=s4 (by omega);have o:∀g2:G,Fr g1 g2->SlR P 0 g2.h vals u:=λg2 e=>hu.far8 λi hi=>by have:=hP i hi;rw[e.2 i (QR this f.1),f.2 i this]
  have p:B<g1.nx:=QR hB f.1;have gB1:g1.h.get B=Tq 2 [[T8 n.grain,b]]:=by rw[f.2 B hB,gB]
  have rz:=λh=>(hz.tree (h':=h) (Qq 0)).ints;have u1:k<(vals.map ci).length:=by rw[QA];exact (Qs.1 I).1
  have u2:(vals.map ci)[k]?=some (ci (cn:Int)):=by rw[Qv,I];rfl
  have v1:cn<(r.map ci).length:=by rw[QA];exact (Qs.1 E).1
  have v2:(r.map ci)[cn]?=some (ci y):=by rw[Qv,E];rfl
  have wb:=sR hr hin (j:=k+1) (by omega);have ws:=Fg n vals k;rw[X]at ws;have w1:IntKind.wrap .i64 (S.OB ((List.range k).map (S.O9 n vals))*y)=S.OB ((List.range (k+1)).map (S.O9 n vals)):=by rw[<-ws,aB (by omega) (by omega)]
  refine jQ (P:=λt' df g'=>df=[]/\g'=(g1.new (Tq 3 [[T8 0,.nils,.nils]])).put g1.nx (Tq 3 [[T8 x.card,pa,ra]])/\St t' ((9,T9 g1.nx)::(8,T8 (k:Int))::(23,T8 (k:Int))::(22,T8 (n.nodes.length:Int))::(7,T8 (S.OB ((List.range k).map (S.O9 n vals))))::(6,u)::(21,b)::LWt B)) ?_ ?_
  ·have fw:ef [T8 0,.nils,.nils] [((0,3),.agg [T8 x.card,pa,ra])]=some [T8 x.card,pa,ra]:=rfl;simp only[sz,simprocAttr,h23,a,F,hlt,Y];simp[St,LWt,sx,h1,h4,h6,h7,a,h22,h23]
  clear h1 h4 h6 h7 a h22 h23;rintro t df g2 ⟨rfl,l,h9,h8,h23,h22,h7,h6,a,h1,h4,-⟩;have e:Fr g1 g2:=by rw[l];exact⟨by simp,λi hi=>by simp[OE,show ¬i=g1.nx by omega]⟩
  have A:Up g.nx g1 g2:=by rw[l];exact (Up.new f.1 _).trans (Up.put f.1 _)
  have N:g2.h.get g1.nx=Tq 3 [[T8 x.card,pa,ra]]:=by rw[l];simp[OE]
  have gB2:g2.h.get B=Tq 2 [[T8 n.grain,b]]:=by rw[e.2 B p,gB1]
  have kr:=Mw (d:=d) (i:=k) (g:=aJ g2 []) (P2:=P) (k2:=0) (v:=b) (w:=u) (x:=x) (vals:=vals) hd hN hr hx (by simpa using o g2 e) hin;rw[V]at kr;have ru:=(o g2 e).ints;simp only[sz,simprocAttr,h7,h9,N,h1,gB2,h8,h6,kr,s1,t1,t2,ru,u1,u2,ci,rz,v1,v2,w1];exact⟨⟨by simp[St,LWt,sx,h1,h4,h6,a],f.trans e,q.trans A⟩,h23,h22⟩
 ·rintro t df g' ⟨rfl,⟨h7,h6,a,h1,h4,-⟩,f,q⟩;exact fin t g' ⟨h7,h6,h1,h4,trivial⟩ f q
theorem Ff[XOc]{n:Net}(hd:0<d)(hr:NR n)(hm:Agg n NoP 0 .nil v)
  (kk:∀g',g'.h.get (g.nx+1)=Tq 1 ((S.OT n (S.OD n)).map ci)->g.nx+2<=g'.nx->Fr g g'->Up g.nx g g'->K (.hsl (g.nx+1) 0 0 (S.OD n) none) g') :
  (ay C0 d 95 [v] g).sat K g D:=by
 obtain⟨cs,rfl,hc⟩:=hm;obtain⟨b,rfl,hN⟩:=jK.1 hc;have W:=hr.l2;obtain⟨W1,W2,W3⟩:=hr.wl;have A:CsOk (S.Oz n):=⟨hr.cs,by rw[aw];omega⟩;have m:S.nc (S.Oz n)=S.OD n:=rfl;obtain⟨B,hB⟩:∃B,B=g.nx:=⟨_,rfl⟩;have f:∀h,SlR NoP 0 h n.nodes b:=λh=>hN.tree (Qq 0);have lb:∀g:G,bY .slice b g=.val (T8 (n.nodes.length:Int)):=λg=>(f .nil).len g;rw[sX];refine tR uW (by simp[kA]) ?_;simp only[sz,simprocAttr,kA];unfold mK;refine jQ (P:=λt' df g'=>df=[]/\g'=g.new (Tq 2 [[T8 n.grain,b]])/\∃rc,IT 0 (S.Oz n) rc/\St t' [(1,T9 B),(3,rc)]) ?_ ?_
 ·simp only[sz,simprocAttr,<-hB];refine bL (vA hd (f _) (by omega)) λrc e=>?_;simp only[sz,simprocAttr];exact⟨rc,e,by simp[St,sx]⟩
 rintro t df g1 ⟨rfl,a,rc,e,h1,h3,-⟩;have I:=rP (d:=d) (g:=g1) hd (e.sl g1.h);rw[lj hr.cs (by rw[aw];omega),<-W3]at I;have n1:g1.nx=B+1:=by rw[a,hB];simp
 have gB:g1.h.get B=Tq 2 [[T8 n.grain,b]]:=by rw[a,hB];simp[OE]
 have F1:Fr g g1:=by rw[a];exact Fr.new _ _
 have U1:Up B g g1:=by rw[a];exact Up.new (by omega) _
 clear a;refine jQ (P:=λt' df g'=>df=[]/\g'.nx=B+3/\g'.h.get B=Tq 2 [[T8 n.grain,b]]/\g'.h.get (B+1)=Tq 1 ((List.replicate (S.OD n) 0).map ci)/\g'.h.get (B+2)=Tq 1 [[.hsl (B+1) 0 0 0 none]]/\Fr g g'/\Up B g g'/\St t' [(1,T9 B),(3,rc),(4,T9 (B+2))]) ?_ ?_
 ·simp only[sz,simprocAttr,h3,I];refine Nn (by omega) λg2 m2 n2 u2=>?_;rw[n1]at m2 n2 u2 ⊢;simp only[sz,simprocAttr,n2];refine⟨?_,?_,?_,?_,by simp[St,sx,h1,h3]⟩
  ·rw[Qu (by omega),Qu (by omega),u2.1 B (by omega),gB]
  ·rw[Qu (by omega),Qu (by omega),m2]
  ·exact⟨by have:=F1.1;simp[n2];omega,λi hi=>by
    have:=F1.2 i hi;simp[OE,show ¬i=B+1+1 by omega,show ¬i=g2.nx by omega,u2.1 i (by omega),this]⟩
  ·exact (U1.trans (u2.mono (by omega))).trans ((Up.new (by omega) _).trans (Up.put (by omega) _))
 clear h1 h3 I n1 gB F1 U1;rintro t df g2 ⟨rfl,n2,gB,gA,gS,F2,U2,h1,h3,h4,-⟩;obtain⟨z,kz,hz⟩:=wG (d:=d) (g:=g2) (w:=rc) (cs:=S.Oz n) hd (e.sl g2.h);rw[dt,dt];simp only[sz,simprocAttr,h3,kz];refine yI (cs:=S.Oz n) (w:=z) A hz (by simp[sx]) (by decide) (by decide)
  (λj g'=>g'.h.get B=Tq 2 [[T8 n.grain,b]]/\g'.h.get (B+1)=Tq 1 ((S.OT n j).map ci++(List.replicate (S.OD n - j) 0).map ci)/\g'.h.get (B+2)=Tq 1 [[.hsl (B+1) 0 0 (S.OT n j).length none]]/\(∀i,i<B->g'.h.get i=g.h.get i)/\Up B g g')
  (λ_=>False) ?_ (λ_ _ _ h=>h) ?_ ?_ ?_ (λ_ h=>h.elim)
 ·rintro j g3 p q ⟨a1,a2,o,a4,r⟩;rw[n2]at q;exact⟨by rw[q.1 _ (by omega),a1],by rw[q.1 _ (by omega),a2],by rw[q.1 _ (by omega),o],λi hi=>by rw[q.1 i (by omega),a4 i hi],r.trans (q.mono (by omega))⟩
 ·exact⟨gB,by simpa [S.OT] using gA,by simpa [S.OT] using gS,λi hi=>F2.2 i (by omega),U2⟩
 ·rintro j u g3 T ⟨a1,a2,o,a4,r⟩ F hu;rw[n2]at F hu;simp only[sz,simprocAttr,lR];refine⟨Fr.refl _,λp n4 f4 u4=>?_⟩;rw[n2]at f4 u4;have E:=bu (λc hc=>(hr.cs c hc).1) (j:Int);have b1:p.h.get B=Tq 2 [[T8 n.grain,b]]:=by rw[f4 _ (by omega),a1]
  have b2:p.h.get (B+1)=Tq 1 ((S.OT n j).map ci++(List.replicate (S.OD n - j) 0).map ci):=by rw[f4 _ (by omega),a2]
  have O:p.h.get (B+2)=Tq 1 [[.hsl (B+1) 0 0 (S.OT n j).length none]]:=by rw[f4 _ (by omega),o]
  have H:SlR (λi=>B+3+2<=i/\i<g3.nx) 0 p.h (S.OE (S.Oz n) (j:Int)) u:=hu.far8 λi hi=>f4 i (by omega);rw[m]at T;simp only[sz,simprocAttr,lS,h1,b1,lb];refine Fe (n:=n) (b:=b) (u:=u) (B:=B) hd hr hN E H (λi hi=>by omega) (by omega) b1 (by simp[St,LWt,sx,h1,h4]) (by simp[sx]) (by simp[sx]) (by simp[sx]) ?_;rintro Y k ⟨h7,-,R,s,-⟩ F5 U5;have J:k.h.get (B+2)=Tq 1 [[.hsl (B+1) 0 0 (S.OT n j).length none]]:=by rw[F5.2 _ (by omega),O]
  have Q:k.h.get (B+1)=Tq 1 ((S.OT n j).map ci++((0:Int)::List.replicate (S.OD n - (j+1)) 0).map ci):=by rw[F5.2 _ (by omega),b2,show S.OD n - j=(S.OD n - (j+1))+1 by omega,RI]
  simp only[sz,simprocAttr,lT,s,J,h7];have V:B+2<k.nx:=QR (by omega) F5.1;refine GV (x:=S.wt n j) (g:=k.new (Tq 1 [[T8 (S.wt n j)]])) (l:=S.OT n j) (y:=0) (tl:=List.replicate (S.OD n - (j+1)) 0) ?_ ?_ (by rw[GO];omega) ?_
  ·rw[G.new_h,ax _ _ _ (by omega),Q]
  ·simp only[am,G.new_h,a9,ci];rfl
  rw[<-KZ];have L:((k.new (Tq 1 [[T8 (S.wt n j)]])).put (B+1) (Tq 1 ((S.OT n (j+1)).map ci++(List.replicate (S.OD n - (j+1)) 0).map ci))).h.get (B+2)=Tq 1 [[.hsl (B+1) 0 0 (S.OT n j).length none]]:=by rw[G.put_h,ax _ _ _ (by omega),G.new_h,ax _ _ _ (by omega),J]
  have d1:Up B k ((k.new (Tq 1 [[T8 (S.wt n j)]])).put (B+1) (Tq 1 ((S.OT n (j+1)).map ci++(List.replicate (S.OD n - (j+1)) 0).map ci))):=(Up.new (by omega) _).trans (Up.put (by omega) _);have d2:∀i,B+3<=i->i<k.nx->((k.new (Tq 1 [[T8 (S.wt n j)]])).put (B+1) (Tq 1 ((S.OT n (j+1)).map ci++(List.replicate (S.OD n - (j+1)) 0).map ci))).h.get i=k.h.get i:=λi h1 h2=>by rw[G.put_h,ax _ _ _ (by omega),G.new_h,ax _ _ _ (by omega)]
  have d3:((k.new (Tq 1 [[T8 (S.wt n j)]])).put (B+1) (Tq 1 ((S.OT n (j+1)).map ci++(List.replicate (S.OD n - (j+1)) 0).map ci))).nx=k.nx+1:=by simp
  have M:((k.new (Tq 1 [[T8 (S.wt n j)]])).put (B+1) (Tq 1 ((S.OT n (j+1)).map ci++(List.replicate (S.OD n - (j+1)) 0).map ci))).h.get (B+1)=Tq 1 ((S.OT n (j+1)).map ci++(List.replicate (S.OD n - (j+1)) 0).map ci):=by rw[G.put_h,a9]
  have N:((k.new (Tq 1 [[T8 (S.wt n j)]])).put (B+1) (Tq 1 ((S.OT n (j+1)).map ci++(List.replicate (S.OD n - (j+1)) 0).map ci))).h.get B=k.h.get B:=by rw[G.put_h,ax _ _ _ (by omega),G.new_h,ax _ _ _ (by omega)]
  generalize (k.new (Tq 1 [[T8 (S.wt n j)]])).put (B+1) (Tq 1 ((S.OT n (j+1)).map ci++(List.replicate (S.OD n - (j+1)) 0).map ci))=g6 at L d1 d2 d3 M N ⊢;simp only[sz,simprocAttr,s,L];have U:p.nx<=k.nx:=F5.1;refine⟨by simp[d3];omega,λi h1 h2=>?_,.inl ⟨rfl,?_,?_,λi hi=>?_,?_⟩⟩
  ·rw[n2]at h1;rw[G.put_h,ax _ _ _ (by omega),d2 i h1 (by omega),F5.2 i h2]
  ·rw[Qu (by omega),N,F5.2 B (by omega),b1]
  ·rw[Qu (by omega),M]
  ·rw[Qu (by omega),d1.1 i hi,F5.2 i (by omega),f4 i (by omega),a4 i hi]
  ·exact ((r.trans (u4.mono (by omega))).trans (U5.mono (by omega))).trans (d1.trans (Up.put (by omega) _))
 ·rintro g' ⟨a1,a2,o,a4,r⟩ X C;rw[m,Rm]at a2;rw[m,GO]at o;simp only[sz,simprocAttr,lV,h4,o];refine jB C ?_;simp only[sx,↓reduceIte];rw[hB];have e1:∀i,i<B+3->(g'.put g2.nx (.dfr false)).h.get i=g'.h.get i:=λi hi=>by rw[G.put_h,ax _ _ _ (by omega)]
  refine kk _ ?_ (by simp;omega) ⟨by simp;omega,λi hi=>?_⟩ (by rw[<-hB];exact r.trans (Up.put (by omega) _))
  ·rw[<-hB,e1 _ (by omega),a2];simp
  ·rw[e1 i (by omega),a4 i (by omega)]
theorem I3{n:Net}{e:List Int}(h:S.Pc n e=true):e.length=n.nodes.length/\∀x∈e,-1<=x:=by simp only[S.Pc,Qt,QM,QB]at h;refine⟨h.1,λx hx=>?_⟩;obtain⟨i,hi,he⟩:=RP.1 hx;have:=(h.2 i (QE.2 hi)).1;rw[Qr hi,he]at this;exact this
def S.pe(n:Net)(e:List Int)(w:Nat):Bool:=S.PO (S.OE (S.Oz n) (w:Int)) e
theorem uv{n:Net}(h:NR n){p:Nat->Bool}{j:Nat}(hj:j<=1024):0<=S.OH n p j/\S.OH n p j<=171992678400000000:=by have:=tA h p j;omega
theorem Jc(g:G)(o o':AObj):Fr g ((g.new o).put g.nx o'):=⟨by simp,λi hi=>by simp[OE,show ¬i=g.nx by omega]⟩
theorem rF{n:Net}{e:List Int}:S.Pe n e=0↔S.Pj n=true/\S.Pc n e=true:=by rw[S.Pe];cases S.Pj n<;>cases S.Pc n e<;>simp
structure GvJ (g0:G) (q:Nat) (s:Int) (h:H):Prop where
 fr:∀i,i<g0.nx->i≠q->h.get i=g0.h.get i
 hq:h.get q=Tq 1 [[T8 s]]
structure ND where
 c:Nat->Int
 P:Nat->List Int
 m:Nat->Nat
 R:Nat->Nat->List Int
 o:Nat->Nat
def LN(n:Nat)(D:ND):Ky->Prop:=λk=>k=(0,0)\/∃i q,k=(i+1,q)/\i<n/\q<2+D.o i
theorem LN.z{D:ND}:LN n D (0,0):=.inl rfl
theorem LN.s{D:ND}{q:Nat}(h:i<n)(hq:q<2+D.o i):LN n D (i+1,q):=.inr ⟨i,q,rfl,h,hq⟩
theorem LN.p{D:ND}(h:i<n):LN n D (i+1,0):=LN.s h (by omega)
theorem LN.r{n:Nat}{D:ND}{i:Nat}(h:i<n):LN n D (i+1,1):=LN.s h (by omega)
def gf(D:ND)(V:Ky->AV)(i:Nat):List AV:=[T8 (D.c i),V (i+1,0),V (i+1,1)]
def ES(V:Ky->AV)(i r:Nat):List AV:=[V (i+1,2+r)]
structure BN (K n:Nat) (V:Ky->AV) (E:Ky->En) (D:ND):Prop where
 ns:E (0,0)=.sl 3 ((List.range n).map (gf D V))
 ps:∀i,i<n->E (i+1,0)=.sl 1 ((D.P i).map ci)/\(D.P i).length<=K
 rs:∀i,i<n->E (i+1,1)=.sl 1 ((List.range (D.m i)).map (ES V i))/\D.m i<=K
 rr:∀i r,i<n->r<D.m i->(D.R i r).length<=K/\((r<D.o i/\E (i+1,2+r)=.sl 1 ((D.R i r).map ci))\/SlR NoP 0 .nil (D.R i r) (V (i+1,2+r)))
def ND.node(D:ND)(i:Nat):Node:=⟨D.c i,D.P i,(List.range (D.m i)).map (D.R i)⟩
theorem Gz(h:Own g b v 1 (l.map ci))(hl:l.length<9223372036854775808)(hp:∀i,b<=i->P i):SlR P 0 g.h l v :=
 Own.sl (α:=Int) h hl (Oz (λa=>aG.2 rfl) _) λi hi=>hp i (h.lt hi).1
theorem BN.rows{K:Nat}{D:ND}{L:Ky->Prop}(hB:BN K n V E D)(hH:Hp g b L V E)(hL:∀k,LN n D k->L k)(hK:K<=1000000)(hi:i<n):SlR (λj=>b<=j) 0 g.h ((List.range (D.m i)).map (D.R i)) (V (i+1,1)):=by
 obtain⟨h1,h2⟩:=hB.rs i hi;have ho:=hH.own (hL _ (LN.r hi)) h1;refine Own.sl (α:=List Int) ho (by simp;omega) (uE λr hr=>?_) λj hj=>(ho.lt hj).1;have hr:=QE.1 hr;obtain⟨h4,h3⟩:=hB.rr i r hi hr;rcases h3 with⟨h5,h3⟩|h3
 ·exact ch.2 ⟨_,rfl,Gz (hH.own (hL _ (LN.s hi (by omega))) h3) (by omega) λ_ h=>h⟩
 ·exact ch.2 ⟨_,rfl,(h3.tree (h':=g.h) (Qq 0)).wd λ_ h=>h.elim⟩
theorem Hp.off{κ:Type} [DecidableEq κ]{L:κ->Prop}{V:κ->AV}{E:κ->En}{k:κ}{x:AV}(h:Hp g b L V E)(hk:¬L k):Hp g b L (ups V k x) E:=by have ne:∀j,L j->j≠k:=λj hj e=>hk (by rw[<-e];exact hj);exact⟨λj hj=>by rw[an V x (ne j hj)];exact h.ok j hj,λj l hj hl hne id=>by rw[an V x (ne j hj),an V x (ne l hl)];exact h.sep j l hj hl hne id,h.nx⟩
theorem BN.pars{K:Nat}{D:ND}{L:Ky->Prop}(hB:BN K n V E D)(hH:Hp g b L V E)(hL:∀k,LN n D k->L k)(hK:K<=1000000)(hi:i<n):SlR (λj=>b<=j) 0 g.h (D.P i) (V (i+1,0)):=by obtain⟨h1,h2⟩:=hB.ps i hi;exact Gz (hH.own (hL _ (LN.p hi)) h1) (by omega) λ_ h=>h
theorem BN.nodes{K:Nat}{D:ND}{L:Ky->Prop}(hB:BN K n V E D)(hH:Hp g b L V E)(hL:∀k,LN n D k->L k)(hK:K<=1000000)(hn:n<=1000000):SlR (λj=>b<=j) 0 g.h ((List.range n).map D.node) (V (0,0)):=by have ho:=hH.own (hL _ LN.z) hB.ns;refine Own.sl (α:=Node) ho (by simp;omega) (uE λi hi=>?_) λj hj=>(ho.lt hj).1;have hi:=QE.1 hi;exact eL.2 ⟨_,_,rfl,hB.pars hH hL hK hi,hB.rows hH hL hK hi⟩
theorem nz{α:Type}(f:Nat->α)(x:α)(hi:i<n):((List.range n).map f).set i x=(List.range n).map (ups f i x):=by
 refine List.ext_getElem (by simp) λj h1 h2=>?_;rw[List.getElem_set]
 by_cases e:i=j
 ·subst e;simp[aH]
 ·rw[Qu e];simp[an _ _ (R0 e)]
theorem gK{α:Type}(f:Nat->α)(hi:i<n):((List.range n).map f)[i]?=some (f i):=by simp[hi]
theorem yq{D D':ND}{V':Ky->AV}{row:List AV}(h0:row=gf D' V' i)(h:∀j,j<n->j≠i->gf D V j=gf D' V' j):(List.range n).map (ups (gf D V) i row)=(List.range n).map (gf D' V'):=by
 refine RC λj k=>?_;have k:=QE.1 k
 by_cases e:j=i
 ·subst e;rw[aH,h0]
 ·rw[an _ _ e,h j k e]
section
variable {C:Nat}
def K1(gr c:Int)(l:List Int):Prop:=(l.length:Int)=c/\(∀y∈l,0<=y/\y<=gr)/\l.sum=gr
def Ou(gr:Int)(C:Nat):VS:=λP k h v=>∃l:List Int,(l.length=C/\K1 gr C l)/\One l P k h v
def S.rq(gr s x:Int):Int:=gr*x / s
theorem Gp(gr s:Int):S.rq gr s 0=0:=by simp[S.rq]
theorem ER{gr s:Int}(hs:0<=s)(hg:0<=gr):∀l:List Int,(∀x∈l,0<=x/\x<=s)->0<=(l.map (S.rq gr s)).sum/\(l.map (S.rq gr s)).sum*s<=gr*l.sum
 |[],_=>by simp
 | x::l,h=>by
  have ih:=ER hs hg l λy hy=>h y (Q9 _ hy);have hx:=h x (Rv ..);have h1:0<=S.rq gr s x:=Int.ediv_nonneg (Sm hg hx.1) hs;have h2:S.rq gr s x*s<=gr*x:=by
   by_cases e:s=0
   ·have:x=0:=by omega
    subst this;simp[S.rq,e]
   ·exact Int.ediv_mul_le _ e
  simp only[Sv,Sb];refine⟨by omega,?_⟩;rw[SJ,Int.mul_add];omega
theorem wN:∀(l:List Int),(∀x∈l,0<=x)->0<=l.sum/\∀x∈l,x<=l.sum
 |[],_=>by simp
 | a::l,h=>by
  have ih:=wN l λy hy=>h y (Q9 _ hy);have ha:=h a (Rv ..);simp only[Sb];refine⟨by omega,λx hx=>?_⟩;rcases Rh.1 hx with rfl|hx
  ·omega
  ·have:=ih.2 x hx;omega
theorem GC:∀(l:List Int) (i:Nat) (x y:Int),l[i]?=some x->(l.set i y).sum=l.sum - x+y
 |[],i,x,y,h=>by simp at h
 | a::l,0,x,y,h=>by simp at h;subst h;simp only[R3,Sb];omega
 | a::l,i+1,x,y,h=>by rw[S1,Sb,Sb,GC l i x y (by simpa using h)];omega
theorem Mc{s:Int}{la:Nat}(hg:0<=gr)(hX:∀x∈X,0<=x/\x<=s)(hs:s=X.sum)(hla:la<X.length)(hx:(X.map (S.rq gr s))[la]?=some x):K1 gr X.length ((X.map (S.rq gr s)).set la (x+(gr - (X.map (S.rq gr s)).sum)))/\0<=x+(gr - (X.map (S.rq gr s)).sum)/\x+(gr - (X.map (S.rq gr s)).sum)<=gr:=by
 have b:0<=s:=by rw[hs];exact (wN X λx hx=>(hX x hx).1).1
 have hq:=ER b hg X hX;have d:(X.map (S.rq gr s)).sum<=gr:=by
  by_cases e:s=0
  ·have h0:∀x∈X,x=0:=λx hx=>by have:=hX x hx;omega
   have:X.map (S.rq gr s)=List.replicate X.length 0:=by rw[List.eq_replicate_iff];refine⟨by simp,λy hy=>?_⟩;obtain⟨z,hz,rfl⟩:=Rb.1 hy;rw[h0 z hz,Gp]
   rw[this];have:∀n:Nat,(List.replicate n (0:Int)).sum=0:=λn=>by induction n with
    |zero=>rfl
    |succ n ih=>rw[RI,Sb,ih];rfl
   rw[this];exact hg
  ·have h1:=hq.2;rw[<-hs]at h1;exact Int.le_of_mul_le_mul_right h1 (by omega)
 have c:∀y∈X.map (S.rq gr s),0<=y:=λy hy=>by obtain⟨z,hz,rfl⟩:=Rb.1 hy;exact Int.ediv_nonneg (Sm hg (hX z hz).1) b
 have f:=c x (Qx hx);have k:((X.map (S.rq gr s)).set la (x+(gr - (X.map (S.rq gr s)).sum))).sum=gr:=by rw[GC _ _ _ _ hx];omega
 have a:∀y∈(X.map (S.rq gr s)).set la (x+(gr - (X.map (S.rq gr s)).sum)),0<=y:=λy hy=>by
  rcases List.mem_or_eq_of_mem_set hy with h|rfl
  ·exact c y h
  ·omega
 have hb:=wN _ a;rw[k]at hb;refine⟨⟨by simp,λy hy=>⟨a y hy,hb.2 y hy⟩,k⟩,by omega,hb.2 _ ?_⟩;exact List.mem_set (by simpa using hla) _
structure Rw1 (gr:Int) (nv u:AV) (C F j:Nat) (t:T) (g:G):Prop where
 st:St t [(0,T8 gr),(1,T8 (C:Int)),(2,nv),(3,T8 (F:Int)),(9,u)]
 hX:∃(X:List Int) (s:Int),tat t 10=T8 s/\X.length=C/\Own g 0 u 1 (X.map ci)/\(∀x∈X,0<=x/\x<=7)/\s=(X.take j).sum/\0<=s/\s<=7*j
theorem Nx[XOc]{F kk:Nat}{nv:AV}{l:List UInt8}(hC:C<=3)(hF:F<=1000)(hl:SlR NoP kk .nil l nv)(h0:Rw1 gr nv u C F 0 t g)(h11:tat t 11=T8 0)
  (fin:∀t g,Rw1 gr nv u C F C t g->Q (.exit 0) t [] g):wpL (wp C0 d none lL) Q t [] g:=by
 obtain⟨nr,E,r2,r3,r4⟩:=hl.all;have E:∀h',am h' 1 nv=some nr:=E;have U:=hl.1;have ll:=hl.len;simp only[lL,qM];refine d7 C (by omega) (λj t df g=>df=[]/\Rw1 gr nv u C F j t g) ⟨rfl,h0⟩ h11 (by decide) ?_ ?_ ?_ ?_
 ·rintro j t df g v s (rfl|rfl|rfl) ⟨a1,⟨b1,b2,M,N,O,-⟩,X,s',c1,R⟩<;>exact⟨a1,by simp[St,sx,b1,b2,M,N,O],X,s',by simp[sx,c1],R⟩
 ·rintro j t df g S ⟨rfl,⟨h0,h1,h2,h3,h9,-⟩,X,s,h10,hX⟩ h11;simp only[sz,simprocAttr,h11,h1];exact⟨by simp[St,sx,h0,h1,h2,h3,h9],X,s,by simp[sx,h10],hX⟩
 ·rintro j t df g S ⟨rfl,⟨h0,h1,h2,h3,h9,-⟩,X,s,h10,q,hX,o,A,V,W⟩ h11;refine pg (P:=λt' df g'=>df=[]/\∃(X':List Int) (x':Int),St t' [(0,T8 gr),(1,T8 (C:Int)),(2,nv),(3,T8 (F:Int)),(9,u),(10,T8 s),(11,T8 (j:Int))]/\X'.length=C/\Own g' 0 u 1 (X'.map ci)/\(∀x∈X',0<=x/\x<=7)/\X'[j]?=some x'/\∀i,i≠j->X'[i]?=X[i]?) ?_ ?_
  ·have p:X[j]?=some X[j]:=Qr (by omega);simp only[sz,simprocAttr,h2,ll];refine mE (λhb=>?_) (λhb=>?_)
   ·have hb:0<l.length:=by simpa using hb
    have w1:IntKind.wrap .i64 ((F:Int)+(j:Int))=((F+j:Nat):Int):=by rw[aB (by omega) (by omega)];simp
    have J:=wT (x:=F+j) (y:=l.length) hb;have c:=So (F+j) hb;generalize (F+j) % l.length=a at J c;obtain⟨y,Z,-,-⟩:=ae (l:=l) (j:=a) c;obtain⟨row,L,z2⟩:=r3 a y Z;rw[di.1 z2]at L;have hlt:a<nr.length:=by omega
    have q2:=gQ .u8 (a:=(y.toNat:Int)) (b:=8) (by omega) (by omega);have B:0<=(y.toNat:Int) % 8:=Tf _ (by decide);have D:(y.toNat:Int) % 8<8:=SY _ (by decide);have K:IntKind.wrap .i64 ((y.toNat:Int) % 8)=(y.toNat:Int) % 8:=aB (by omega) (by omega);generalize (y.toNat:Int) % 8=z at q2 B D K;have H:j<(X.map ci).length:=by simp;omega
    have I:(X.map ci)[j]?=some (ci X[j]):=by rw[Qv,p];rfl
    have rX:=hX.rows;simp only[sz,simprocAttr,h2,h3,h9,h11,ll,w1,J,E,hlt,L,q2,K,rX,H];refine ct (v:=u) (sz:=1) (n:=1) (i:=j) (off:=0) (x:=T8 z) (row':=ci z) hX I rfl rfl rfl λg4 hu4 n4 f4=>?_;rw[<-RX]at hu4;simp only[sx,sy];refine⟨X.set j z,z,by simp[St,sx,h0,h1,h2,h3,h9,h10,h11],by simp[q],hu4,λx hx=>?_,by rw[List.getElem?_set_self (by omega)],λi hi=>by rw[List.getElem?_set_ne (R0 hi)]⟩;rcases List.mem_or_eq_of_mem_set hx with h|rfl
    ·exact o x h
    ·omega
   ·simp only[sx,sy];exact⟨X,X[j],by simp[St,sx,h0,h1,h2,h3,h9,h10,h11],q,hX,o,p,λ_ _=>rfl⟩
  clear h0 h1 h2 h3 h9 h10 h11 hX;rintro t df g ⟨rfl,X',x',⟨h0,h1,h2,h3,h9,h10,h11,-⟩,r,m,k,f,w⟩;have H:j<(X'.map ci).length:=by simp;omega
  have I:(X'.map ci)[j]?=some (ci x'):=by rw[Qv,f];rfl
  have rX:=m.rows;have Y:=k x' (Qx f);have w1:IntKind.wrap .i64 (s+x')=s+x':=aB (by omega) (by omega);simp only[sz,simprocAttr,qL,h10,h9,h11,rX,H,I,ci,w1];have ht:X'.take j=X.take j:=RW λi=>by
   by_cases e:i<j
   ·rw[Rc e,Rc e,w i (by omega)]
   ·rw[Ri (by simp;omega),Ri (by simp;omega)]
  refine⟨by simp[St,sx,h0,h1,h2,h3,h9],X',s+x',by simp[sx],r,m,k,?_,by omega,by omega⟩;rw[List.take_add_one,f,ht,S3,<-A];simp
 ·rintro t df g ⟨rfl,h⟩;exact fin t g h
structure Rw2 (gr s:Int) (u:AV) (C:Nat) (X:List Int) (j:Nat) (t:T) (g:G):Prop where
 st:St t [(0,T8 gr),(1,T8 (C:Int)),(9,u),(10,T8 s)]
 hX:∃(la:Nat),tat t 12=T8 (gr - ((X.take j).map (S.rq gr s)).sum)/\tat t 13=T8 (la:Int)/\la<C/\Own g 0 u 1 (((X.take j).map (S.rq gr s)++X.drop j).map ci)
theorem Me{s:Int}{j:Nat}(h:j<X.length):((X.take j).map (S.rq gr s)++X.drop j).set j (S.rq gr s X[j])=(X.take (j+1)).map (S.rq gr s)++X.drop (j+1):=by
 have hl:((X.take j).map (S.rq gr s)).length=j:=by simp;omega
 rw[RG _ _ (by omega),hl,Rm,Sp h,R3,QG h,Rx,Rj]
 rfl
theorem Ny[XOc]{s:Int}(hC:C<=3)(hg:0<=gr/\gr<=60)(hXl:X.length=C)(hXb:∀x∈X,0<=x/\x<=7/\x<=s)(h0:Rw2 gr s u C X 0 t g)(h14:tat t 14=T8 0)
  (fin:∀t g,Rw2 gr s u C X C t g->Q (.exit 2) t [] g):wpL (wp C0 d none lM) Q t [] g:=by
 simp only[lM,qO];refine d7 C (by omega) (λj t df g=>df=[]/\Rw2 gr s u C X j t g) ⟨rfl,h0⟩ h14 (by decide) ?_ ?_ ?_ ?_
 ·rintro j t df g v s (rfl|rfl|rfl) ⟨a1,⟨b1,b2,N,O,-⟩,la,c1,K,R⟩<;>exact⟨a1,by simp[St,sx,b1,b2,N,O],la,by simp[sx,c1],by simp[sx,K],R⟩
 ·rintro j t df g H ⟨rfl,⟨h0,h1,h9,h10,-⟩,la,k,c,hX⟩ h14;simp only[sz,simprocAttr,h14,h1];exact⟨by simp[St,sx,h0,h1,h9,h10],la,by simp[sx,k],by simp[sx,c],hX⟩
 ·rintro j t df g H ⟨rfl,⟨h0,h1,h9,h10,-⟩,la,k,c,m,hX⟩ h14;have f:j<X.length:=by omega
  obtain⟨J,b1,b2⟩:=hXb X[j] (RS f);have E:((X.take j).map (S.rq gr s)++X.drop j).length=C:=by simp;omega
  have r:((X.take j).map (S.rq gr s)++X.drop j)[j]?=some X[j]:=by rw[QL (by simp;omega)];simp[show min j X.length=j by omega,f]
  have D:j<(((X.take j).map (S.rq gr s)++X.drop j).map ci).length:=by rw[QA,E];exact H
  have p:(((X.take j).map (S.rq gr s)++X.drop j).map ci)[j]?=some (ci X[j]):=by rw[Qv,r];rfl
  have rX:=hX.rows;have F:0<=gr*X[j]:=Sm hg.1 J;have L:gr*X[j]<=60*7:=SK hg.2 b1 J (by decide);have o:=Me (gr:=gr) (s:=s) f;have B:(X.take (j+1)).map (S.rq gr s)=(X.take j).map (S.rq gr s)++[S.rq gr s X[j]]:=by rw[QG f,Rx];rfl
  have W:=ER (gr:=gr) (s:=s) (by omega) hg.1 (X.take j) λy hy=>by have:=hXb y (Q8 hy);omega
  have A:∀x∈X,0<=S.rq gr s x/\S.rq gr s x<=420:=λx hx=>by obtain⟨c0,c1,K⟩:=hXb x hx;have h1:0<=gr*x:=Sm hg.1 c0;have h2:gr*x<=60*7:=SK hg.2 c1 c0 (by decide);refine⟨Int.ediv_nonneg h1 (by omega),?_⟩;have:=Int.ediv_le_self (b:=s) h1;unfold S.rq;omega
  have I:∀l:List Int,(∀x∈l,x∈X)->(l.map (S.rq gr s)).sum<=420*l.length:=λl=>by
   induction l with
   |nil=>intro _;simp
   | cons a l ih =>
    intro h;have h1:=A a (h a (Rv ..));have h2:=ih λy hy=>h y (Q9 _ hy);simp only[Sv,Sb,Rd]
    push_cast
    omega
  have V:=I (X.take j) λx hx=>Q8 hx;have M:(X.take j).length<=3:=by simp;omega
  have U:=A X[j] (RS f);refine pg (P:=λt' df g'=>df=[]/\∃(la':Nat),St t' [(0,T8 gr),(1,T8 (C:Int)),(9,u),(10,T8 s),(12,T8 (gr - ((X.take j).map (S.rq gr s)).sum)),(13,T8 (la':Int)),(14,T8 (j:Int))]/\la'<C/\Own g' 0 u 1 (((X.take (j+1)).map (S.rq gr s)++X.drop (j+1)).map ci)) ?_ ?_
  ·simp only[sz,simprocAttr,h9,h14,rX,D,p,ci];refine mE (λhb=>?_) (λhb=>?_)
   ·have hb:0<X[j]:=by simpa using hb
    have w1:IntKind.wrap .i64 (gr*X[j])=gr*X[j]:=aB (by omega) (by omega);have Y:cx .quo (T8 (gr*X[j])) (T8 s)=.val (T8 (S.rq gr s X[j])):=IC (x:=gr*X[j]) (y:=s) F (by omega) (by omega);simp only[sz,simprocAttr,h0,h9,h10,h14,rX,D,p,ci,w1,Y];refine ct (v:=u) (sz:=1) (n:=1) (i:=j) (off:=0) (x:=T8 (S.rq gr s X[j])) (row':=ci (S.rq gr s X[j])) hX p rfl rfl rfl λg4 hu4 n4 f4=>?_;rw[<-RX,o]at hu4;simp only[sz,simprocAttr,h14];exact⟨j,by simp[St,sx,h0,h1,h9,h10,k,h14],by omega,hu4⟩
   ·have hb:X[j]=0:=by
     have:¬0<X[j]:=by simpa using hb
     omega
    simp only[sx,sy];refine⟨la,by simp[St,sx,h0,h1,h9,h10,k,c,h14],m,?_⟩;rw[<-o,hb,Gp,<-hb];have:((X.take j).map (S.rq gr s)++X.drop j).set j X[j]=(X.take j).map (S.rq gr s)++X.drop j:=by
     refine RW λi=>?_
     by_cases e:j=i
     ·subst e;rw[List.getElem?_set_self (by omega),r]
     ·rw[List.getElem?_set_ne e]
    rw[this];exact hX
  clear h0 h1 h9 h10 k c h14 hX rX m D p;rintro t df g ⟨rfl,la',⟨h0,h1,h9,h10,k,c,h14,-⟩,m,q⟩;have z:((X.take (j+1)).map (S.rq gr s)++X.drop (j+1)).length=C:=by simp;omega
  have w:((X.take (j+1)).map (S.rq gr s)++X.drop (j+1))[j]?=some (S.rq gr s X[j]):=by rw[QK (by simp;omega),B,QL (by simp;omega)];simp[show min j X.length=j by omega]
  have D:j<(((X.take (j+1)).map (S.rq gr s)++X.drop (j+1)).map ci).length:=by rw[QA,z];exact H
  have p:(((X.take (j+1)).map (S.rq gr s)++X.drop (j+1)).map ci)[j]?=some (ci (S.rq gr s X[j])):=by rw[Qv,w];rfl
  have rX:=q.rows;have w1:IntKind.wrap .i64 (gr - ((X.take j).map (S.rq gr s)).sum - S.rq gr s X[j])=gr - ((X.take (j+1)).map (S.rq gr s)).sum:=by rw[B,S3,aB (by omega) (by omega)];simp;omega
  simp only[sz,simprocAttr,qN,k,h9,h14,rX,D,p,ci,w1];exact⟨by simp[St,sx,h0,h1,h9,h10],la',by simp[sx],by simp[sx,c],m,q⟩
 ·rintro t df g ⟨rfl,h⟩;exact fin t g h
theorem Nz[XOc]{F kk:Nat}{nv:AV}{l:List UInt8}(hd:0<d)(hC:1<=C/\C<=3)(hF:F<=1000)(hg:0<=gr/\gr<=60)(hl:SlR NoP kk .nil l nv) :
  ∃r,ay C0 d 50 [T8 gr,T8 (C:Int),nv,T8 (F:Int)] g=.val r/\Ou gr C NoP 0 .nil r:=by
 rw[xy];refine bK AP (xs:=[T8 gr,T8 (C:Int),nv,T8 (F:Int)]) (by simp only[aF,wX d (hl.tree (h':=g.h) (Qq _)),iK 0]) (by simp[qK]) (uq λo=>bi _) (by decide) hd ?_;simp only[sz,simprocAttr,qK];refine wO (b:=0) (n:=C) (by unfold aS;omega) (by unfold aS;omega) (Q_ _) λu g1 hu n1 f1 vu=>?_;simp only[sz,simprocAttr];refine Nx (gr:=gr) (nv:=nv) (u:=u) (C:=C) (F:=F) hC.2 hF hl ⟨by simp[St,sx],List.replicate C 0,0,by simp[sx],by simp,by simpa [ci] using hu,λx hx=>by rw[(S0.1 hx).2];decide,by simp,by omega,by omega⟩ (by simp[sx]) ?_;rintro t g2 ⟨⟨h0,h1,h2,h3,h9,-⟩,X,s,h10,c,hX,k,a,q,w⟩;rw[QF (by omega)]at a;have f:=wN X λx hx=>(k x hx).1;simp only[sz,simprocAttr,qQ,h0];refine Ny (gr:=gr) (s:=s) (u:=u) (C:=C) (X:=X) hC.2 hg c (λx hx=>⟨(k x hx).1,(k x hx).2,by rw[a];exact f.2 x hx⟩) ⟨by simp[St,sx,h0,h1,h9,h10],0,by simp[sx],by simp[sx],by omega,by simpa using hX⟩ (by simp[sx]) ?_;clear h0 h1 h2 h3 h9 h10 hX;rintro t g3 ⟨⟨h0,h1,h9,h10,-⟩,la,e,j,p,hX⟩;rw[QF (by omega)]at e hX;rw[List.drop_eq_nil_of_le (by omega),QJ]at hX;obtain⟨x,hx⟩:∃x,(X.map (S.rq gr s))[la]?=some x:=⟨_,Qr (by simp;omega)⟩;obtain⟨f1,f2,z⟩:=Mc (gr:=gr) (s:=s) (X:=X) (la:=la) hg.1 (λx hx=>⟨(k x hx).1,by rw[a];exact f.2 x hx⟩) a (by omega) hx;have y:la<((X.map (S.rq gr s)).map ci).length:=by simp;omega
 have m:((X.map (S.rq gr s)).map ci)[la]?=some (ci x):=by rw[Qv,hx];rfl
 have rX:=hX.rows;have w1:IntKind.wrap .i64 (x+(gr - (X.map (S.rq gr s)).sum))=x+(gr - (X.map (S.rq gr s)).sum):=aB (by omega) (by omega);simp only[sz,simprocAttr,qP,h9,j,e,rX,y,m,ci,w1];refine ct (v:=u) (sz:=1) (n:=1) (i:=la) (off:=0) (x:=T8 (x+(gr - (X.map (S.rq gr s)).sum))) (row':=ci (x+(gr - (X.map (S.rq gr s)).sum))) hX m rfl rfl rfl λg4 hu4 n4 f4=>?_;rw[<-RX]at hu4;simp only[sz,simprocAttr,h9];exact⟨λ_=>True,_,⟨by simp[c],by rw[<-c];exact f1⟩,hu4.ints (by simp;omega)⟩
end
theorem yB(os:List UInt8):∀k,(S.OX os k).Perm ((List.range k).map λi:Nat=>(i:Int))
 |0=>.refl _
 | k+1=>by rw[Ry,Rx,S.OX];refine List.perm_middle.trans ?_;rw[Rk];exact ((yB os k).cons _).trans (List.perm_append_comm (l₁:=[(k:Int)]))
structure Num (n:Nat) (pl:List Int) (num:Nat->Nat):Prop where
 len:pl.length=n
 at_:∀k,k<n->pl[k]?=some (num k:Int)
 lt:∀k,k<n->num k<n
 inj:∀i j,i<n->j<n->num i=num j->i=j
 sur:∀u,u<n->∃k,k<n/\num k=u
theorem Ns(os:List UInt8)(n:Nat):∃num,Num n (S.OX os n) num:=by
 have hp:=yB os n;have hl:=oJ os n;have f:∀x∈S.OX os n,∃i:Nat,i<n/\x=(i:Int):=λx hx=>by have:=hp.mem_iff.1 hx;obtain⟨i,hi,rfl⟩:=Rb.1 this;exact⟨i,QE.1 hi,rfl⟩
 have l:(S.OX os n).Nodup:=by rw[hp.nodup_iff];refine List.Pairwise.map _ ?_ (List.nodup_range (n:=n));intro a b h e;exact h (by omega)
 have c:∀k,k<n->(S.OX os n)[k]?=some (((S.OX os n)[k]?.getD 0).toNat:Int)/\((S.OX os n)[k]?.getD 0).toNat<n:=λk hk=>by
  have d:k<(S.OX os n).length:=by omega
  have e:=Qr d;obtain⟨i,hi,h⟩:=f _ (RS d);rw[e,Qz,h];simp[hi]
 refine⟨λk=>((S.OX os n)[k]?.getD 0).toNat,hl,λk hk=>(c k hk).1,λk hk=>(c k hk).2,λi j hi hj h=>?_,λu hu=>?_⟩
 ·have h1:=(c i hi).1;have h2:=(c j hj).1;refine (List.getElem?_inj (by omega) l).1 ?_;rw[h1,h2];exact congrArg (λx:Nat=>some (x:Int)) h
 ·have:(u:Int)∈S.OX os n:=hp.mem_iff.2 (Rb.2 ⟨u,QE.2 hu,rfl⟩);obtain⟨k,hk,he⟩:=RP.1 this;refine⟨k,by omega,?_⟩;rw[Qr hk,he];rfl
theorem Mj(m n:Nat):∃z:Int,cx .shl (T8 (m:Int)) (T_ (n:Int))=.val (T8 z):=⟨_,rfl⟩
def LNX(X:Ky->Prop)(n:Nat)(D:ND):Ky->Prop:=λk=>LN n D k\/X k
def X1:Ky->Prop:=λk=>k=(0,1)
def X2:Ky->Prop:=λk=>k=(0,1)\/k=(0,2)
structure DN (X:Ky->Prop) (r0:List AV) (n q K:Nat) (gr:Int) (V:Ky->AV) (E:Ky->En) (D:ND) (g:G):Prop where
 hp:Hp g 2 (LNX X n D) V E
 bn:BN K n V E D
 vb:V (0,1)=T9 q
 bx:E (0,1)=.bx [T8 gr,V (0,0)]
 h0:g.h.get 0=Tq 3 [r0]
 h1:g.h.get 1=Tq 2 [[T8 0,.nils]]
theorem DN.q{X:Ky->Prop}{r0:List AV}{n q K:Nat}{gr:Int}{V:Ky->AV}{E:Ky->En}{D:ND}{g:G}(h:DN X r0 n q K gr V E D g)(hX:X (0,1)):g.h.get q=Tq 2 [[T8 gr,V (0,0)]]/\2<=q/\q<g.nx:=by obtain⟨id,h1,h2,h3,h4⟩:=h.hp.box (k:=(0,1)) (.inr hX) h.bx;rw[h.vb]at h3;injection h3 with h3;subst h3;exact⟨h4,h1,h2⟩
theorem DN.ns{X:Ky->Prop}{r0:List AV}{n q K:Nat}{gr:Int}{V:Ky->AV}{E:Ky->En}{D:ND}{g:G}(h:DN X r0 n q K gr V E D g):Own g 2 (V (0,0)) 3 ((List.range n).map (gf D V)):=h.hp.own (.inl LN.z) h.bn.ns
theorem DN.same{X:Ky->Prop}{r0:List AV}{q K:Nat}{D:ND}(h:DN X r0 n q K gr V E D g)(hf:Fr g g'):DN X r0 n q K gr V E D g':=by have:=h.hp.nx;exact⟨h.hp.step hf.1 λi _ hi=>hf.2 i hi,h.bn,h.vb,h.bx,by rw[hf.2 0 (by omega),h.h0],by rw[hf.2 1 (by omega),h.h1]⟩
theorem ue{sz:Nat}{rows:List (List AV)}(h:Own g b v sz rows)(hr:0<rows.length):wx v=true:=by
 rcases h with⟨rfl,rfl⟩|⟨id,ep,lo,-,-,rfl,-⟩
 ·simp at hr
 ·rfl
theorem DN.card{X:Ky->Prop}{r0:List AV}{q K:Nat}{D:ND}{KK:AV->G->Prop}{DD:ADf->Prop}(h:DN X r0 n q K gr V E D g)(hi:i<n)(hX:∀k,X k->k≠(0,0))
  (kk:∀g' E',DN X r0 n q K gr V E' { D with c:=ups D.c i c } g'->g'.nx=g.nx->KK .undef g'):(mj 1 (kX 3 (V (0,0)) i 0) (T8 c) g).sat KK g DD:=by
 refine h.hp.put (k:=(0,0)) (row:=gf D V i) (row':=[T8 c,V (i+1,0),V (i+1,1)]) (.inl LN.z) h.bn.ns (gK _ hi) rfl rfl rfl λg' hH hn hf1 hf2=>?_;refine kk g' _ ⟨hH.sub λk hk=>hk,⟨?_,λj hj=>?_,λj hj=>?_,λj r hj hr=>?_⟩,h.vb,?_,by rw[hf1 0 (by omega),h.h0],by rw[hf1 1 (by omega),h.h1]⟩ hn
 ·rw[aH,nz _ _ hi];congr 1;refine yq (by simp[gf,aH]) λj hj hne=>by simp[gf,an _ _ hne]
 ·rw[an _ _ (by simp)];exact h.bn.ps j hj
 ·rw[an _ _ (by simp)];exact h.bn.rs j hj
 ·rw[an _ _ (by simp)];exact h.bn.rr j r hj hr
 ·rw[an _ _ (by simp)];exact h.bx
structure DAok (D:ND) (n i:Nat) (num:Nat->Nat):Prop where
 e:∀v,v<n->D.P v=[]/\D.m v=0
 c:∀k,k<i->D.c (num k)=2\/D.c (num k)=3
 o:∀u,D.o u=0
def LDA(n q:Nat)(r5:AV):List (Nat×AV):=[(1,T9 0),(2,T9 1),(3,T8 (n:Int)),(4,T9 q),(5,r5)]
structure DA (r0:List AV) (n q:Nat) (gr:Int) (r5:AV) (num:Nat->Nat) (i:Nat) (t:T) (g:G):Prop where
 st:St t (LDA n q r5)
 w:∃w:Nat,tat t 6=T8 (w:Int)/\w<=3 ^ i
 hd:∃V E D,DN X1 r0 n q 1000 gr V E D g/\DAok D n i num
theorem Ow(h:i<=5):3 ^ i<=243:=by
 have:i=0\/i=1\/i=2\/i=3\/i=4\/i=5:=by omega
 rcases this with rfl|rfl|rfl|rfl|rfl|rfl<;>decide
theorem No[XOc]{q kk:Nat}{x:uD}{a b r5:AV}{pl:List Int}{num:Nat->Nat}(hn:1<=n/\n<=5)(ha:SlR NoP kk .nil x.2.1 a)(h5:IT 0 pl r5)(hN:Num n pl num)
  (h0:DA [u8v x.1,a,b] n q gr r5 num 0 t g) (h7:tat t 7=T8 0)
  (fin:∀t g,DA [u8v x.1,a,b] n q gr r5 num n t g->Q (.exit 0) t [] g):wpL (wp C0 d none eW) Q t [] g:=by
 obtain⟨pr,L,r2,r3,r4⟩:=ha.all;have L:∀h',am h' 3 a=some pr:=L;have la:=ha.len;have hc:=ha.1;have M:∀h,am h 1 r5=some (pl.map ci):=λh=>(h5.sl h).ints;simp only[eW,jW];refine d7 n (by omega) (λj t df g=>df=[]/\DA [u8v x.1,a,b] n q gr r5 num j t g) ⟨rfl,h0⟩ h7 (by decide) ?_ ?_ ?_ ?_
 ·rintro j t df g v s (rfl|rfl|rfl) ⟨a1,⟨b1,b2,U,W,X,-⟩,⟨w,c1,Y⟩,Z⟩<;>exact⟨a1,by simp[St,LDA,sx,b1,b2,U,W,X],⟨w,by simp[sx,c1],Y⟩,Z⟩
 ·rintro j t df g J ⟨rfl,⟨h1,h2,h3,h4,h5,-⟩,⟨w,h6,hw⟩,B⟩ h7;simp only[sz,simprocAttr,h7,h3];exact⟨by simp[St,LDA,sx,h1,h2,h3,h4,h5],⟨w,by simp[sx,h6],hw⟩,B⟩
 ·rintro j t df g J ⟨rfl,⟨h1,h2,h3,h4,h5,-⟩,⟨w,h6,hw⟩,V,E,D,B,r⟩ h7;obtain⟨p8,u⟩:∃p8,p8=g.nx:=⟨_,rfl⟩;have he:=B.hp.nx;refine pg (P:=λt' df g'=>df=[]/\g'=g.new (Tq 3 [[.int .u8 0,.int .u8 0,.nils]])/\St t' ((6,T8 (w:Int))::(7,T8 (j:Int))::(8,T9 p8)::LDA n q r5)) ?_ ?_
  ·simp only[sz,simprocAttr];simp[St,LDA,sx,h1,h2,h3,h4,h5,h6,h7,u]
  clear h1 h2 h3 h4 h5 h6 h7;rintro t df g1 ⟨rfl,l,⟨h6,h7,h8,h1,h2,h3,h4,h5,-⟩⟩;have f1:Fr g g1:=by rw[l];exact Fr.new _ _
  have I:g1.h.get p8=Tq 3 [[.int .u8 0,.int .u8 0,.nils]]:=by rw[l,u];simp[OE]
  have n1:p8<g1.nx:=by rw[l,u];simp
  clear l;have F:=B.same f1;have e0:=F.h0;refine pg (P:=λt' df g'=>df=[]/\Fr g g'/\St t' ((6,T8 (w:Int))::(7,T8 (j:Int))::(8,T9 p8)::LDA n q r5)/\p8<g'.nx/\∃(y:UInt8) (R S:AV),g'.h.get p8=Tq 3 [[u8v y,R,S]]) ?_ ?_
  ·simp only[sz,simprocAttr,h7,h1,e0,la];refine mE (λhb=>?_) (λhb=>?_)
   ·have hb:j<x.2.1.length:=by simpa using hb
    obtain⟨y,hy,-,-⟩:=ae hb;obtain⟨row,q1,q2⟩:=r3 j y hy;obtain⟨wv,rfl,hg⟩:=An.1 q2;have hlt:j<pr.length:=by omega
    have H:=r4 (by omega);simp only[sz,simprocAttr,h7,h1,e0,L,hlt,q1,h8,I];refine⟨?_,by simp[St,LDA,sx,h1,h2,h3,h4,h5,h6,h7,h8],by simpa using n1,y.1,u8v y.2.1,wv,by simp[OE]⟩;exact⟨QW f1.1 (by simp),λi hi=>by simp[OE,show ¬i=p8 by omega];exact f1.2 i hi⟩
   ·simp only[sx,sy];exact⟨f1,by simp[St,LDA,sx,h1,h2,h3,h4,h5,h6,h7,h8],n1,0,.int .u8 0,.nils,I⟩
  clear h1 h2 h3 h4 h5 h6 h7 h8 e0 F I n1 f1;rintro t df g2 ⟨rfl,f2,⟨h6,h7,h8,h1,h2,h3,h4,h5,-⟩,n2,y,R,S,I⟩;have f:=B.same f2;have q2:=gQ .u8 (a:=(y.toNat:Int)) (b:=2) (by omega) (by omega);obtain⟨m,hm⟩:∃m:Nat,(y.toNat:Int) % 2=(m:Int):=QD (Tf _ (by decide));have hd:m<2:=by have:=SY (y.toNat:Int) (show (0:Int)<2 by decide);omega
  rw[hm]at q2;have w2:IntKind.wrap .i64 (m:Int)=(m:Int):=aB (by omega) (by omega);have O:IntKind.wrap .i64 (2+(m:Int))=((2+m:Nat):Int):=by rw[aB (by omega) (by omega)];rfl
  have hf:=Ow (i:=j) (by omega);have A:w*(2+m)<=243*3:=Nat.mul_le_mul (by omega) (by omega);have K:IntKind.wrap .i64 ((w:Int)*((2+m:Nat):Int))=((w*(2+m):Nat):Int):=by rw[<-SA,aB (by omega) (by omega)]
  have w5:IntKind.wrap .i64 ((n:Int) - 1)=((n - 1:Nat):Int):=by rw[aB (by omega) (by omega)];omega
  have w6:IntKind.wrap .i64 (((n - 1:Nat):Int) - (j:Int))=((n - 1 - j:Nat):Int):=by rw[aB (by omega) (by omega)];omega
  have w7:IntKind.wrap .u64 ((n - 1 - j:Nat):Int)=((n - 1 - j:Nat):Int):=xa (by omega) (by omega);obtain⟨z,hz⟩:=Mj (w*(2+m)) (n - 1 - j);refine pg (P:=λt' df g'=>df=[]/\g'=g2/\St t' ((6,T8 (w:Int))::(7,T8 (j:Int))::(9,T8 ((2+m:Nat):Int))::LDA n q r5)) ?_ ?_
  ·simp only[sz,simprocAttr,h8,I,u8v,q2,w2,O];simp[St,LDA,sx,h1,h2,h3,h4,h5,h6,h7]
  clear h1 h2 h3 h4 h5 h6 h7 h8;rintro t df g3 ⟨rfl,rfl,⟨h6,h7,h9,h1,h2,h3,h4,h5,-⟩⟩;refine pg (P:=λt' df g'=>df=[]/\g'=g3/\∃C:Nat,(C=2\/C=3)/\St t' ((6,T8 (w:Int))::(7,T8 (j:Int))::(9,T8 (C:Int))::LDA n q r5)) ?_ ?_
  ·simp only[sz,simprocAttr,h6,h7,h9,h3,K,w5,w6,w7,hz];refine mE (λhb=>?_) (λhb=>?_)
   ·simp only[sz,simprocAttr];refine⟨2,.inl rfl,?_⟩;simp[St,LDA,sx,h1,h2,h3,h4,h5,h6,h7]
   ·simp only[sx,sy];refine⟨2+m,by omega,?_⟩;simp[St,LDA,sx,h1,h2,h3,h4,h5,h6,h7,h9]
  clear h1 h2 h3 h4 h5 h6 h7 h9 A K hz O;rintro t df g4 ⟨rfl,rfl,C,hC,⟨h6,h7,h9,h1,h2,h3,h4,h5,-⟩⟩;have A:w*C<=3 ^ j*3:=Nat.mul_le_mul hw (by omega);have N:w*C<=243*3:=Nat.mul_le_mul (by omega) (by omega);have K:IntKind.wrap .i64 ((w:Int)*(C:Int))=((w*C:Nat):Int):=by rw[<-SA,aB (by omega) (by omega)]
  refine pg (P:=λt' df g'=>df=[]/\g'=g4/\St t' ((6,T8 ((w*C:Nat):Int))::(7,T8 (j:Int))::(9,T8 (C:Int))::LDA n q r5)) ?_ ?_
  ·simp only[sz,simprocAttr,h6,h9,K];simp[St,LDA,sx,h1,h2,h3,h4,h5,h7,h9]
  clear h1 h2 h3 h4 h5 h6 h7 h9;rintro t df g5 ⟨rfl,rfl,⟨h6,h7,h9,h1,h2,h3,h4,h5,-⟩⟩;obtain⟨kq,hh,hl⟩:=f.q rfl;have rns:=f.ns.rows;have H:=ue f.ns (by simp;omega);have p:=hN.lt j J;have u1:j<(pl.map ci).length:=by rw[QA,hN.len];exact J
  have u2:(pl.map ci)[j]?=some (ci (num j:Int)):=by rw[Qv,hN.at_ j J];rfl
  have u3:num j<((List.range n).map (gf D V)).length:=by simpa using p
  have u4:=gK (gf D V) p;simp only[sz,simprocAttr,sf,h4,kq,h5,h7,h9,M,u1,u2,rns,u3,H,ci];refine (f.same (g':=_) ⟨?_,?_⟩).card (i:=num j) (c:=(C:Int)) p (λk hk=>by rw[hk];simp) λg6 E' hD6 n6=>?_
  ·simp;omega
  ·intro i hi;simp
  simp only[sx,sy,↓reduceIte,Nat.reduceEqDiff];refine⟨?_,⟨by simp[St,LDA,sx,h1,h2,h3,h4,h5],⟨w*C,by simp[sx,h6],by rw[Nat.pow_succ];exact A⟩,V,E',_,hD6.same ⟨by simp,λi _=>by simp⟩,r.e,λk hk=>?_,r.o⟩,by simp[h7]⟩
  ·simp only[Q5,Q4,QU,QQ];exact aT (false::(TH (true::[]))) [] (by simp[All2,ah,aC]) (by decide) (by simp)
  ·by_cases e:num k=num j
   ·simp[e,aH];omega
   ·show ups D.c (num j) (C:Int) (num k)=2\/ups D.c (num j) (C:Int) (num k)=3;rw[an _ _ e];refine r.c k ?_;have:k≠j:=λh=>e (by rw[h]);omega
 ·rintro t df g ⟨rfl,h⟩;exact fin t g h
theorem vF{g:G}{b:Nat}{x:AV}{sz bytes:Nat}{rows new:List (List AV)}(hv:Own g b v sz rows)(hx:am g.h sz x=some new)(hb:b<=g.nx)
  (hr:(rows.length+new.length)*bytes<=aS)
  (k:∀v' g',Own g' b v' sz (rows++new)->g.nx<=g'.nx->(∀i,i<g.nx->vid v≠some i->g'.h.get i=g.h.get i)->(vid v'=vid v\/∃i,vid v'=some i/\g.nx<=i)->(∀i∈g'.lg,i∈g.lg\/vid v=some i\/g.nx<=i)->K v' g') :
  (cQ sz bytes v x g).sat K g D:=by
 unfold cQ;rw[hx];dsimp only;rcases hv with⟨rfl,rfl⟩|⟨id,ep,lo,h1,h2,rfl,h3⟩
 ·cases new with
  |nil=>exact k _ _ (.inl ⟨rfl,rfl⟩) (Qq _) (λ_ _ _=>rfl) (.inl rfl) (λi hi=>.inl hi)
  | cons r new =>
   simp only[a8,aq,aa,Q6];rw[Qw (by simpa using hr)];refine k _ _ (.inr ⟨g.nx,0,true,hb,by simp,rfl,by simp[a9]⟩) (by simp) (λi hi _=>?_) (.inr ⟨g.nx,rfl,Qq _⟩) (λi hi=>by simp at hi;rcases hi with rfl|hi;exact .inr (.inr (Qq _));exact .inl hi);rw[G.new_h,ax _ _ _ (by omega)]
 ·simp only[a8,G.get_eq,h3,aq,aa,show Nat.beq ep ep=true from Q2 ep,show Nat.beq sz sz=true from Q2 sz,Rz,Q6,Qt,Rn,RT,R6];rw[Qw ⟨Qq _,hr⟩];cases new with
  | nil =>
   rw[Qw (by simp)];refine k _ _ (.inr ⟨id,ep,lo,h1,h2,by simp,by simpa using h3⟩) (Qq _) (λ_ _ _=>rfl) (.inl rfl) (λi hi=>.inl hi)
  | cons r new =>
   rw[Qu (by simp)];have ht:fY rows.length (eR 0 rows)=rows:=by rw[be,bc];simp
   cases lo with
   | false =>
    rw[Qw (by simp)];refine k _ _ (.inr ⟨g.nx,0,true,by omega,by simp,by simp,by simp[a9,ht]⟩) (by simp) (λi hi _=>?_) (.inr ⟨g.nx,rfl,Qq _⟩) (λi hi=>by simp at hi;rcases hi with rfl|hi;exact .inr (.inr (Qq _));exact .inl hi);rw[G.new_h,ax _ _ _ (by omega)]
   | true =>
    rw[Qu (by simp)];refine k _ _ (.inr ⟨id,ep+1,true,h1,by simpa using h2,by simp,by simp[a9,ht]⟩) (by simp) (λi hi hne=>?_) (.inl rfl) (λi hi=>by simp at hi;rcases hi with rfl|hi;exact .inr (.inl rfl);exact .inl hi);rw[G.put_h,ax _ _ _ (λe=>hne (by rw[e];rfl))]
section
variable {κ:Type} [DecidableEq κ]{g:G}{b:Nat}{L:κ->Prop}{V:κ->AV}{E:κ->En}{k:κ}
theorem Hp.app2(h:Hp g b L V E)(hk:L k){sz bytes:Nat}{rows new:List (List AV)}(he:E k=.sl sz rows){x:AV}(hx:am g.h sz x=some new)
  (hr:(rows.length+new.length)*bytes<=aS)
  (kk:∀v' g',Hp g' b L (ups V k v') (ups E k (.sl sz (rows++new)))->g.nx<=g'.nx->(∀i,i<b->g'.h.get i=g.h.get i)->(∀i,i<g.nx->eid (V k)≠some i->g'.h.get i=g.h.get i)->(∀i∈g'.lg,i∈g.lg\/eid (V k)=some i\/g.nx<=i)->v'.cells=[v']->v'.isTup=false->K v' g') :
  (cQ sz bytes (V k) x g).sat K g D:=by
 have ho:=h.own hk he;refine vF ho hx h.nx hr λv' g' hv' hn hf hvid hlg=>?_;refine kk v' g' (h.set hk (e':=.sl sz (rows++new)) hv' hn (λi _ hi hne=>hf i hi (by rw[<-iQ ho];exact hne)) ?_) hn (λi hi=>hf i (QR hi h.nx) λe=>by have:=(ho.lt e).1;omega)
  (λi hi hne=>hf i hi (by rw[<-iQ ho];exact hne)) (λi hi=>by rw[iQ ho];exact hlg i hi) hv'.cell.1 hv'.cell.2
 rw[iQ hv',iQ ho];exact hvid
theorem Hp.putv(h:Hp g b L V E)(hk:L k){v0:AV}(hv:V k=v0){sz off:Nat}{rows:List (List AV)}{row row':List AV}(he:E k=.sl sz rows){x:AV}(hr:rows[i]?=some row)
  (hl:x.cells.length=n) (ht:x.isTup=false) (hp:cj row off x.cells=some row')
  (kk:∀g',Hp g' b L V (ups E k (.sl sz (rows.set i row')))->g'.nx=g.nx->(∀i,i<b->g'.h.get i=g.h.get i)->(∀i,eid (V k)≠some i->g'.h.get i=g.h.get i)->K .undef g'):(mj n (kX sz v0 i off) x g).sat K g D:=by
 subst hv;exact h.put hk he hr hl ht hp kk
end
theorem uI(m n:Nat):∃z:Nat,cx .shr (.int .u8 (m:Int)) (T_ (n:Int))=.val (.int .u8 (z:Int)) :=
 ⟨m / 2 ^ (Nat.min n 8),rfl⟩
theorem uH(m n:Nat):∃z:Int,cx .and (.int .u8 (m:Int)) (.int .u8 (n:Int))=.val (.int .u8 z):=by have:∃z:Int,Op.intBits .and .u8 (.ofNat m) (.ofNat n)=.pure (.int .u8 z):=⟨_,rfl⟩;obtain⟨z,hz⟩:=this;refine⟨z,?_⟩;show orV (oP (Op.intBits .and .u8 (.ofNat m) (.ofNat n)))=_;rw[hz];rfl
structure DB (D:ND) (n i v:Nat) (num:Nat->Nat):Prop where
 c:∀u,u<n->D.c u=2\/D.c u=3
 p:∀u,u<n->(D.P u).length<=3/\∀y∈D.P u,0<=y/\y<n
 m:∀u,u<n->D.m u<=64
 o:∀u,D.o u=0
 f:∀k,i<k->k<n->D.P (num k)=[]/\D.m (num k)=0
def S.Pr(P0:List Int)(c0:Nat->Int):Int:=S.OB (P0.map λy=>c0 y.toNat)
structure DOk (gr:Int) (D:ND) (n i:Nat) (num:Nat->Nat):Prop where
 s:∀u,u<n->(D.P u).Pairwise (·<·)
 a:∀k,k<n->∀y∈D.P (num k),∃k',k'<k/\y=(num k':Int)
 w:∀k,k<i->(D.m (num k):Int)=S.Pr (D.P (num k)) D.c
 r:∀u r,u<n->r<D.m u->K1 gr (D.c u) (D.R u r)
def LDB(n q i p v:Nat)(r5:AV):List (Nat×AV):=[(1,T9 0),(2,T9 1),(3,T8 (n:Int)),(4,T9 q),(5,r5),(10,T8 (i:Int)),(11,T9 p),(12,T8 (v:Int))]
structure DP (r0 prow:List AV) (n q i p v:Nat) (gr:Int) (r5:AV) (num:Nat->Nat) (g:G) (V:Ky->AV) (E:Ky->En) (D:ND):Prop where
 dn:DN X2 r0 n q 1000 gr V E D g
 pb:V (0,2)=T9 p/\E (0,2)=.bx prow
 db:DB D n i v num
 mv:D.m v=0
 ok:DOk gr D n i num
theorem DP.p{r0 prow:List AV}{n q i p v:Nat}{gr:Int}{r5:AV}{num:Nat->Nat}{g:G}{V:Ky->AV}{E:Ky->En}{D:ND}(h:DP r0 prow n q i p v gr r5 num g V E D):g.h.get p=Tq prow.length [prow]/\2<=p/\p<g.nx:=by obtain⟨id,h1,h2,h3,h4⟩:=h.dn.hp.box (k:=(0,2)) (.inr (.inr rfl)) h.pb.2;rw[h.pb.1]at h3;injection h3 with h3;subst h3;exact⟨h4,h1,h2⟩
theorem A2{X:Ky->Prop}{D:ND}{V:Ky->AV}{E:Ky->En}{g:G}(h:Hp g 2 (LNX X n D) V E){j k:Ky}(hj:LNX X n D j)(hk:LNX X n D k)(hne:j≠k){id:Nat}(he:eid (V j)=some id):eid (V k)≠some id:=h.sep j k hj hk hne id he
def yz:SC:=.feet [0,1,0,0,8,0,56,120,248,0,512,2040,4095,8191,16383] [oF 131 1 4,oL 132 131,oM 133 12,oF 134 1 4,oL 135 134,oM 136 12,TA 137 3 135 136,oF 138 1 137,oL 139 138,oM 140 13,TZ 141 140,TS 142 1 8 139 141,TA 143 3 132 133,oF 144 1 143,Tw 1 144 142]
theorem LP[XOc]{q p v u:Nat}{r0 prow:List AV}{r5:AV}{num:Nat->Nat}{g:G}{V:Ky->AV}{E:Ky->En}{D:ND}{rest:List (Nat×AV)}(hn:1<=n/\n<=5)(hv:v<n)(hvi:∀k,i<k->k<n->num k≠v)(hu:u<n)(hvl:∀k,k<i->num k≠v)(hua:∃k',k'<i/\u=num k')(hlt:∀y∈D.P v,y<(u:Int))
  (h4:tat t 4=T9 q) (h12:tat t 12=T8 (v:Int)) (h13:tat t 13=T8 (u:Int)) (hP:DP r0 prow n q i p v gr r5 num g V E D) (hl:(D.P v).length<3)
  (fin:∀t' g' V' E' D',(∀s,(s<131\/144<s)->tat t' s=tat t s)->D'.P v=D.P v++[(u:Int)]->DP r0 prow n q i p v gr r5 num g' V' E' D'->Q .norm t' [] g') :
  wp C0 d none yz Q t [] g:=by
 have l:=hP.dn;obtain⟨kq,U,W⟩:=l.q (.inl rfl);unfold yz;have rns:=l.ns.rows;have K:=ue l.ns (by simp;omega);have u3:v<((List.range n).map (gf D V)).length:=by simpa using hv
 have N:=gK (gf D V) hv;have M:=l.bn.ps v hv;have R:=l.hp.nx;simp only[sz,simprocAttr,sf,h4,h12,h13,kq,rns,u3,N,K,gf];refine (l.hp.step (g':=_) ?_ ?_).app2 (k:=(v+1,0)) (.inl (LN.p hv)) M.1 (new:=[ci (u:Int)]) (by simp[sx,sy,ci]) (by unfold aS;simp;omega) λv1 g1 hH1 n1 fb1 fo1 lg1 vc vt=>?_
 ·simp;omega
 ·intro i _ hi;simp[OE];omega
 simp only[sx,sy]at n1 fb1 fo1 lg1;have H:ups V (v+1,0) v1 (0,0)=V (0,0):=an _ _ (by simp);have C:ups E (v+1,0) (.sl 1 ((D.P v).map ci++[ci (u:Int)])) (0,0)=.sl 3 ((List.range n).map (gf D V)):=by rw[an _ _ (by simp)];exact l.bn.ns
 have rns1:am g1.h 3 (V (0,0))=some ((List.range n).map (gf D V)):=by rw[<-H];exact (hH1.own (k:=(0,0)) (.inl LN.z) C).rows
 have X:((List.range n).map (gf D V))[v]?=some [T8 (D.c v),V (v+1,0),V (v+1,1)]:=N;simp only[sz,simprocAttr,sf,rns1,u3,K];refine (hH1.same (g':=_) ?_ ?_).putv (k:=(0,0)) (.inl LN.z) H (row':=[T8 (D.c v),v1,V (v+1,1)]) C N (by rw[vc];rfl) vt (by rw[vc];rfl) λg2 hH2 n2 fb2 fo2=>?_
 ·simp
 ·simp;omega
 simp only[sy];refine⟨?_,?_⟩
 ·simp only[Q5,Q4,QU,QQ];refine aT (TK (TH (true::(true::(TK (true::[])))))) [(0,10),(1,10),(2,10),(3,10),(4,10),(5,10),(6,10),(7,10),(8,10),(0,11),(1,11),(2,11)] (by simp[All2,ah,aC]) (by decide) ?_;have I:∀i∈g1.lg,i≠q:=λi hi e=>by
   rcases lg1 i hi with h|h|h
   ·simp at h
   ·exact A2 l.hp (.inl (LN.p hv)) (.inr (.inl rfl)) (by simp) h (by rw[l.vb,e];rfl)
   ·omega
  obtain⟨id0,ep0,O,L⟩:∃id ep,id<g.nx/\V (0,0)=.hsl id ep 0 ((List.range n).map (gf D V)).length none:=by
   rcases l.ns with⟨h,e⟩|⟨id,ep,lo,-,h1,h2,-⟩
   ·have:=congrArg List.length e;simp at this;omega
   ·exact⟨id,ep,h1,h2⟩
  have F:∀i∈g1.lg,i≠id0:=λi hi e=>by
   rcases lg1 i hi with h|h|h
   ·simp at h
   ·exact A2 l.hp (.inl (LN.p hv)) (.inl LN.z) (by simp) h (by rw[L,e];rfl)
   ·omega
  rintro p J x y hx B;simp only[Rh,QH,S9]at J;rcases J with rfl|rfl|rfl|rfl|rfl|rfl|rfl|rfl|rfl|rfl|rfl|rfl<;>(simp at hx B;subst hx;subst B;refine eO rfl rfl rfl rfl ?_ ?_ ?_<;>simp[ah,aC,af,L,kX]<;>first|omega|exact I|exact F|exact λi hi e=>I i hi e.symm|exact λi hi e=>F i hi e.symm)
 refine fin _ _ (ups V (v+1,0) v1) _ { D with P:=ups D.P v (D.P v++[(u:Int)]) } (λs hs=>?_) (aH _ _ _) ⟨⟨(hH2.same (g':=_) (by simp) (by simp)).sub λk hk=>hk,⟨?_,λj hj=>?_,λj hj=>?_,λj r hj hr=>?_⟩,?_,?_,?_,?_⟩,⟨?_,?_⟩,⟨hP.db.c,λw hw=>?_,hP.db.m,hP.db.o,λk hk hkn=>?_⟩,hP.mv,?_⟩
 ·simp only[b_]
  repeat rw[Qu (by omega)]
 ·rw[aH,nz _ _ hv];congr 1;refine yq (by simp[gf,aH,an]) λj hj hne=>by simp[gf,an,hne]
 ·by_cases e:j=v
  ·subst e;rw[an _ _ (by simp),aH];show En.sl 1 _=En.sl 1 ((ups D.P j (D.P j++[(u:Int)]) j).map ci)/\(ups D.P j (D.P j++[(u:Int)]) j).length<=1000;rw[aH];exact⟨by simp,by simp;omega⟩
  ·rw[an _ _ (by simp),an _ _ (by simp[e])];show E (j+1,0)=En.sl 1 ((ups D.P v (D.P v++[(u:Int)]) j).map ci)/\(ups D.P v (D.P v++[(u:Int)]) j).length<=1000;rw[an _ _ e];exact l.bn.ps j hj
 ·rw[an _ _ (by simp),an _ _ (by simp)];have:=l.bn.rs j hj;refine⟨?_,this.2⟩;rw[this.1];congr 1;exact RC λr _=>by simp[ES,an]
 ·rw[an _ _ (by simp),an _ _ (by simp),an _ _ (by simp)];exact l.bn.rr j r hj hr
 ·rw[an _ _ (by simp)];exact l.vb
 ·rw[an _ _ (by simp),an _ _ (by simp),an _ _ (by simp)];exact l.bx
 ·simp only[bumpG_h];rw[fb2 0 (by omega)];simp;rw[fb1 0 (by omega),Qu (by omega),l.h0]
 ·simp only[bumpG_h];rw[fb2 1 (by omega)];simp;rw[fb1 1 (by omega),Qu (by omega),l.h1]
 ·rw[an _ _ (by simp)];exact hP.pb.1
 ·rw[an _ _ (by simp),an _ _ (by simp)];exact hP.pb.2
 ·by_cases e:w=v
  ·subst e;show (ups D.P w (D.P w++[(u:Int)]) w).length<=3/\∀y∈ups D.P w (D.P w++[(u:Int)]) w,0<=y/\y<n;rw[aH];refine⟨by simp;omega,λy B=>?_⟩;rcases Q7.1 B with h|h
   ·exact (hP.db.p w hw).2 y h
   ·rw[RR.1 h];omega
  ·show (ups D.P v (D.P v++[(u:Int)]) w).length<=3/\∀y∈ups D.P v (D.P v++[(u:Int)]) w,0<=y/\y<n;rw[an _ _ e];exact hP.db.p w hw
 ·show ups D.P v (D.P v++[(u:Int)]) (num k)=[]/\D.m (num k)=0;rw[an _ _ (hvi k hk hkn)];exact hP.db.f k hk hkn
 ·have A:=hP.ok;refine⟨λw hw=>?_,λk hk y B=>?_,λk hk=>?_,A.r⟩
  ·show (ups D.P v (D.P v++[(u:Int)]) w).Pairwise (·<·)
   by_cases e:w=v
   ·rw[e,aH];rw[List.pairwise_append];exact⟨A.s v hv,List.pairwise_singleton _ _,λa ha b hb=>by rw[RR.1 hb];exact hlt a ha⟩
   ·rw[an _ _ e];exact A.s w hw
  ·have B:y∈ups D.P v (D.P v++[(u:Int)]) (num k):=B
   by_cases e:num k=v
   ·rw[e,aH]at B;rcases Q7.1 B with h|h
    ·rw[<-e]at h;exact A.a k hk y h
    ·obtain⟨k',h1,h2⟩:=hua;have:¬k<i:=λh=>hvl k h e;exact⟨k',by omega,by rw[RR.1 h,h2]⟩
   ·rw[an _ _ e]at B;exact A.a k hk y B
  ·show (D.m (num k):Int)=S.Pr (ups D.P v (D.P v++[(u:Int)]) (num k)) D.c;rw[an _ _ (hvl k hk)];exact A.w k hk
end
end Hx
