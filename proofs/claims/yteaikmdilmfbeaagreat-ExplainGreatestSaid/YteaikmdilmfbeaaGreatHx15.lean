/- A part of the proof: an interpreter over abstract values, shown right against the model, and what the functions of the chapter compute on it. -/
import Derived.Test.YteaikmdilmfbeaaGreatHx14
set_option linter.unusedVariables false
set_option linter.unusedSimpArgs false
set_option linter.unnecessarySimpa false
section
namespace Hx
open Go
noncomputable section
theorem wC {g:G}{b:Nat}{v x:AV}{sz bytes:Nat}{rows new:List (List AV)}{K:AV->G->Prop}{D:ADf->Prop}(hv:Own g b v sz rows)(hx:ah g.h sz x=some new)(hb:b<=g.nx)
  (hr:(rows.length+new.length)*bytes<=aP)
  (k:∀v' g',Own g' b v' sz (rows++new)->g.nx<=g'.nx->(∀i,i<g.nx->vid v≠some i->g'.h.get i=g.h.get i)->(vid v'=vid v\/∃i,vid v'=some i/\g.nx<=i)->(∀i∈g'.lg,i∈g.lg\/vid v=some i\/g.nx<=i)->K v' g') :
  (cP sz bytes v x g).sat K g D:=by
 unfold cP;rw[hx];dsimp only;rcases hv with ⟨rfl,rfl⟩ | ⟨id,ep,lo,h1,h2,rfl,h3⟩
 ·cases new with
  | nil=>exact k _ _ (.inl ⟨rfl,rfl⟩) (Nat.le_refl _) (λ_ _ _=>rfl) (.inl rfl) (λi hi=>.inl hi)
  | cons r new =>
   simp only[bi,ax,aa,Nat.ble_eq];rw[if_pos (by simpa using hr)];refine k _ _ (.inr ⟨g.nx,0,true,hb,by simp,rfl,by simp[aO]⟩) (by simp) (λi hi _=>?_) (.inr ⟨g.nx,rfl,Nat.le_refl _⟩) (λi hi=>by simp at hi;rcases hi with rfl | hi;exact .inr (.inr (Nat.le_refl _));exact .inl hi);rw[G.new_h,aw _ _ _ (by omega)]
 ·simp only[bi,G.get_eq,h3,ax,aa,show Nat.beq ep ep=true from Nat.beq_refl ep,show Nat.beq sz sz=true from Nat.beq_refl sz,Bool.true_and,Nat.ble_eq,Bool.and_eq_true,Nat.zero_add,Option.getD_none,Nat.sub_zero];rw[if_pos ⟨Nat.le_refl _,hr⟩];cases new with
  | nil =>
   rw[if_pos (by simp)];refine k _ _ (.inr ⟨id,ep,lo,h1,h2,by simp,by simpa using h3⟩) (Nat.le_refl _) (λ_ _ _=>rfl) (.inl rfl) (λi hi=>.inl hi)
  | cons r new =>
   rw[if_neg (by simp)];have ht:iK rows.length (gy 0 rows)=rows:=by rw[bh,be];simp
   cases lo with
   | false =>
    rw[if_pos (by simp)];refine k _ _ (.inr ⟨g.nx,0,true,by omega,by simp,by simp,by simp[aO,ht]⟩) (by simp) (λi hi _=>?_) (.inr ⟨g.nx,rfl,Nat.le_refl _⟩) (λi hi=>by simp at hi;rcases hi with rfl | hi;exact .inr (.inr (Nat.le_refl _));exact .inl hi);rw[G.new_h,aw _ _ _ (by omega)]
   | true =>
    rw[if_neg (by simp)];refine k _ _ (.inr ⟨id,ep+1,true,h1,by simpa using h2,by simp,by simp[aO,ht]⟩) (by simp) (λi hi hne=>?_) (.inl rfl) (λi hi=>by simp at hi;rcases hi with rfl | hi;exact .inr (.inl rfl);exact .inl hi);rw[G.put_h,aw _ _ _ (λe=>hne (by rw[e];rfl))]
section
variable {κ:Type} [DecidableEq κ]{g:G}{b:Nat}{L:κ->Prop}{V:κ->AV}{E:κ->En}{k:κ}
theorem Hp.app2 (h:Hp g b L V E)(hk:L k){sz bytes:Nat}{rows new:List (List AV)}(he:E k=.sl sz rows){x:AV}{K:AV->G->Prop}{D:ADf->Prop}(hx:ah g.h sz x=some new)
  (hr:(rows.length+new.length)*bytes<=aP)
  (kk:∀v' g',Hp g' b L (ups V k v') (ups E k (.sl sz (rows++new)))->g.nx<=g'.nx->(∀i,i<b->g'.h.get i=g.h.get i)->(∀i,i<g.nx->eid (V k)≠some i->g'.h.get i=g.h.get i)->(∀i∈g'.lg,i∈g.lg\/eid (V k)=some i\/g.nx<=i)->v'.cells=[v']->v'.isTup=false->K v' g') :
  (cP sz bytes (V k) x g).sat K g D:=by
 have ho:=h.own hk he;refine wC ho hx h.nx hr λv' g' hv' hn hf hvid hlg=>?_;refine kk v' g' (h.set hk (e':=.sl sz (rows++new)) hv' hn (λi _ hi hne=>hf i hi (by rw[<-dc ho];exact hne)) ?_) hn (λi hi=>hf i (Nat.lt_of_lt_of_le hi h.nx) λe=>by have:=(ho.lt e).1;omega)
  (λi hi hne=>hf i hi (by rw[<-dc ho];exact hne)) (λi hi=>by rw[dc ho];exact hlg i hi) hv'.cell.1 hv'.cell.2
 rw[dc hv',dc ho];exact hvid
theorem Hp.putv (h:Hp g b L V E)(hk:L k){v0:AV}(hv:V k=v0){sz n i off:Nat}{rows:List (List AV)}{row row':List AV}(he:E k=.sl sz rows){x:AV}{K:AV->G->Prop}{D:ADf->Prop}(hr:rows[i]?=some row)
  (hl:x.cells.length=n) (ht:x.isTup=false) (hp:cd row off x.cells=some row')
  (kk:∀g',Hp g' b L V (ups E k (.sl sz (rows.set i row')))->g'.nx=g.nx->(∀i,i<b->g'.h.get i=g.h.get i)->(∀i,eid (V k)≠some i->g'.h.get i=g.h.get i)->K .undef g'):(mU n (mP sz v0 i off) x g).sat K g D:=by
 subst hv;exact h.put hk he hr hl ht hp kk
end
theorem vA (m n:Nat):∃z:Nat,cE .shr (.int .u8 (m:Int)) (.int .u64 (n:Int))=.val (.int .u8 (z:Int)) :=
 ⟨m / 2 ^ (Nat.min n 8),rfl⟩
theorem vz (m n:Nat):∃z:Int,cE .and (.int .u8 (m:Int)) (.int .u8 (n:Int))=.val (.int .u8 z):=by have:∃z:Int,Op.intBits .and .u8 (.ofNat m) (.ofNat n)=.pure (.int .u8 z):=⟨_,rfl⟩;obtain ⟨z,hz⟩:=this;refine ⟨z,?_⟩;show orV (pH (Op.intBits .and .u8 (.ofNat m) (.ofNat n)))=_;rw[hz];rfl
structure DB (D:ND) (n i v:Nat) (num:Nat->Nat):Prop where
 c:∀u,u<n->D.c u=2\/D.c u=3
 p:∀u,u<n->(D.P u).length<=3/\∀y∈D.P u,0<=y/\y<n
 m:∀u,u<n->D.m u<=64
 o:∀u,D.o u=0
 f:∀k,i<k->k<n->D.P (num k)=[]/\D.m (num k)=0
def S.be (P0:List Int)(c0:Nat->Int):Int:=S.af (P0.map λy=>c0 y.toNat)
structure DOk (gr:Int) (D:ND) (n i:Nat) (num:Nat->Nat):Prop where
 s:∀u,u<n->(D.P u).Pairwise (·<·)
 a:∀k,k<n->∀y∈D.P (num k),∃k',k'<k/\y=(num k':Int)
 w:∀k,k<i->(D.m (num k):Int)=S.be (D.P (num k)) D.c
 r:∀u r,u<n->r<D.m u->Lk gr (D.c u) (D.R u r)
def LDB (n q i p v:Nat)(r5:AV):List (Nat×AV):=[(1,.hptr 0 0 0 0),(2,.hptr 1 0 0 0),(3,.int .i64 (n:Int)),(4,.hptr q 0 0 0),(5,r5),(10,.int .i64 (i:Int)),(11,.hptr p 0 0 0),(12,.int .i64 (v:Int))]
structure DP (r0 prow:List AV) (n q i p v:Nat) (gr:Int) (r5:AV) (num:Nat->Nat) (g:G) (V:Ky->AV) (E:Ky->En) (D:ND):Prop where
 dn:DN X2 r0 n q 1000 gr V E D g
 pb:V (0,2)=.hptr p 0 0 0/\E (0,2)=.bx prow
 db:DB D n i v num
 mv:D.m v=0
 ok:DOk gr D n i num
theorem DP.p {r0 prow:List AV}{n q i p v:Nat}{gr:Int}{r5:AV}{num:Nat->Nat}{g:G}{V:Ky->AV}{E:Ky->En}{D:ND}(h:DP r0 prow n q i p v gr r5 num g V E D):g.h.get p=.cells prow.length [prow] 0 false false/\2<=p/\p<g.nx:=by obtain ⟨id,h1,h2,h3,h4⟩:=h.dn.hp.box (k:=(0,2)) (.inr (.inr rfl)) h.pb.2;rw[h.pb.1] at h3;injection h3 with h3;subst h3;exact ⟨h4,h1,h2⟩
theorem BM {X:Ky->Prop}{n:Nat}{D:ND}{V:Ky->AV}{E:Ky->En}{g:G}(h:Hp g 2 (LNX X n D) V E){j k:Ky}(hj:LNX X n D j)(hk:LNX X n D k)(hne:j≠k){id:Nat}(he:eid (V j)=some id):eid (V k)≠some id:=h.sep j k hj hk hne id he
def zh:SC:=.feet [0,1,0,0,8,0,56,120,248,0,512,2040,4095,8191,16383] [oF 131 1 4,oL 132 131,oM 133 12,oF 134 1 4,oL 135 134,oM 136 12,o 137 (.ixs 3 (.t 135) (.t 136)),oF 138 1 137,oL 139 138,oM 140 13,o 141 (.bsl 1 1 [.int .i64 0] [0] [.t 140]),o 142 (.app 1 8 (.t 139) (.t 141)),o 143 (.ixs 3 (.t 132) (.t 133)),oF 144 1 143,oz (.store 1 (.t 144) (.t 142))]
theorem Mb {d n q i p v u:Nat}{gr:Int}{r0 prow:List AV}{r5:AV}{num:Nat->Nat}{Q:QT}{t:T}{g:G}{V:Ky->AV}{E:Ky->En}{D:ND}{rest:List (Nat×AV)}(hn:1<=n/\n<=5)(hv:v<n)(hvi:∀k,i<k->k<n->num k≠v)(hu:u<n)(hvl:∀k,k<i->num k≠v)(hua:∃k',k'<i/\u=num k')(hlt:∀y∈D.P v,y<(u:Int))
  (h4:tat t 4=.hptr q 0 0 0) (h12:tat t 12=.int .i64 (v:Int)) (h13:tat t 13=.int .i64 (u:Int)) (hP:DP r0 prow n q i p v gr r5 num g V E D) (hl:(D.P v).length<3)
  (fin:∀t' g' V' E' D',(∀s,(s<131\/144<s)->tat t' s=tat t s)->D'.P v=D.P v++[(u:Int)]->DP r0 prow n q i p v gr r5 num g' V' E' D'->Q .norm t' [] g') :
  wp C0 d none zh Q t [] g:=by
 have hD:=hP.dn;obtain ⟨kq,q2a,q2b⟩:=hD.q (.inl rfl);unfold zh;have rns:=hD.ns.rows;have hry:=uU hD.ns (by simp;omega);have u3:v<((List.range n).map (gw D V)).length:=by simpa using hv
 have u4:=gN (gw D V) hv;have hps:=hD.bn.ps v hv;have hnx:=hD.hp.nx;simp only[sz,simprocAttr,sf,h4,h12,h13,kq,rns,u3,u4,hry,gw];refine (hD.hp.step (g':=_) ?_ ?_).app2 (k:=(v+1,0)) (.inl (LN.p hv)) hps.1 (new:=[ci (u:Int)]) (by simp[sx,sy,ci]) (by unfold aP;simp;omega) λv1 g1 hH1 n1 fb1 fo1 lg1 vc vt=>?_
 ·simp;omega
 ·intro i _ hi;simp[H.get_put];omega
 simp only[sx,sy] at n1 fb1 fo1 lg1;have e00:ups V (v+1,0) v1 (0,0)=V (0,0):=af _ _ (by simp);have hE00:ups E (v+1,0) (.sl 1 ((D.P v).map ci++[ci (u:Int)])) (0,0)=.sl 3 ((List.range n).map (gw D V)):=by rw[af _ _ (by simp)];exact hD.bn.ns
 have rns1:ah g1.h 3 (V (0,0))=some ((List.range n).map (gw D V)):=by rw[<-e00];exact (hH1.own (k:=(0,0)) (.inl LN.z) hE00).rows
 have u4':((List.range n).map (gw D V))[v]?=some [.int .i64 (D.c v),V (v+1,0),V (v+1,1)]:=u4;simp only[sz,simprocAttr,sf,rns1,u3,hry];refine (hH1.same (g':=_) ?_ ?_).putv (k:=(0,0)) (.inl LN.z) e00 (row':=[.int .i64 (D.c v),v1,V (v+1,1)]) hE00 u4 (by rw[vc];rfl) vt (by rw[vc];rfl) λg2 hH2 n2 fb2 fo2=>?_
 ·simp
 ·simp;omega
 simp only[sy];refine ⟨?_,?_⟩
 ·simp only[List.reverse_cons,List.reverse_nil,List.nil_append,List.cons_append];refine aV [false,false,false,false,false,false,false,false,false,false,true,true,false,false,true] [(0,10),(1,10),(2,10),(3,10),(4,10),(5,10),(6,10),(7,10),(8,10),(0,11),(1,11),(2,11)] (by simp[All2,an,aD]) (by decide) ?_;have hlg:∀i∈g1.lg,i≠q:=λi hi e=>by
   rcases lg1 i hi with h | h | h
   ·simp at h
   ·exact BM hD.hp (.inl (LN.p hv)) (.inr (.inl rfl)) (by simp) h (by rw[hD.vb,e];rfl)
   ·omega
  obtain ⟨id0,ep0,hid0,hv0⟩:∃id ep,id<g.nx/\V (0,0)=.hsl id ep 0 ((List.range n).map (gw D V)).length none:=by
   rcases hD.ns with ⟨h,e⟩ | ⟨id,ep,lo,-,h1,h2,-⟩
   ·have:=congrArg List.length e;simp at this;omega
   ·exact ⟨id,ep,h1,h2⟩
  have hlg2:∀i∈g1.lg,i≠id0:=λi hi e=>by
   rcases lg1 i hi with h | h | h
   ·simp at h
   ·exact BM hD.hp (.inl (LN.p hv)) (.inl LN.z) (by simp) h (by rw[hv0,e];rfl)
   ·omega
  rintro p hp' x y hx hy;simp only[List.mem_cons,List.not_mem_nil,or_false] at hp';rcases hp' with rfl | rfl | rfl | rfl | rfl | rfl | rfl | rfl | rfl | rfl | rfl | rfl<;>(simp at hx hy;subst hx;subst hy;refine eh rfl rfl rfl rfl ?_ ?_ ?_<;>simp[an,aD,ak,hv0,mP]<;>first | omega | exact hlg | exact hlg2 | exact λi hi e=>hlg i hi e.symm | exact λi hi e=>hlg2 i hi e.symm)
 refine fin _ _ (ups V (v+1,0) v1) _ { D with P:=ups D.P v (D.P v++[(u:Int)]) } (λs hs=>?_) (aC _ _ _) ⟨⟨(hH2.same (g':=_) (by simp) (by simp)).sub λk hk=>hk,⟨?_,λj hj=>?_,λj hj=>?_,λj r hj hr=>?_⟩,?_,?_,?_,?_⟩,⟨?_,?_⟩,⟨hP.db.c,λw hw=>?_,hP.db.m,hP.db.o,λk hk hkn=>?_⟩,hP.mv,?_⟩
 ·simp only[mV]
  repeat rw[if_neg (by omega)]
 ·rw[aC,od _ _ hv];congr 1;refine y_ (by simp[gw,aC,af]) λj hj hne=>by simp[gw,af,hne]
 ·by_cases e:j=v
  ·subst e;rw[af _ _ (by simp),aC];show En.sl 1 _=En.sl 1 ((ups D.P j (D.P j++[(u:Int)]) j).map ci)/\(ups D.P j (D.P j++[(u:Int)]) j).length<=1000;rw[aC];exact ⟨by simp,by simp;omega⟩
  ·rw[af _ _ (by simp),af _ _ (by simp[e])];show E (j+1,0)=En.sl 1 ((ups D.P v (D.P v++[(u:Int)]) j).map ci)/\(ups D.P v (D.P v++[(u:Int)]) j).length<=1000;rw[af _ _ e];exact hD.bn.ps j hj
 ·rw[af _ _ (by simp),af _ _ (by simp)];have:=hD.bn.rs j hj;refine ⟨?_,this.2⟩;rw[this.1];congr 1;exact List.map_congr_left λr _=>by simp[Fo,af]
 ·rw[af _ _ (by simp),af _ _ (by simp),af _ _ (by simp)];exact hD.bn.rr j r hj hr
 ·rw[af _ _ (by simp)];exact hD.vb
 ·rw[af _ _ (by simp),af _ _ (by simp),af _ _ (by simp)];exact hD.bx
 ·simp only[bumpG_h];rw[fb2 0 (by omega)];simp;rw[fb1 0 (by omega),if_neg (by omega),hD.h0]
 ·simp only[bumpG_h];rw[fb2 1 (by omega)];simp;rw[fb1 1 (by omega),if_neg (by omega),hD.h1]
 ·rw[af _ _ (by simp)];exact hP.pb.1
 ·rw[af _ _ (by simp),af _ _ (by simp)];exact hP.pb.2
 ·by_cases e:w=v
  ·subst e;show (ups D.P w (D.P w++[(u:Int)]) w).length<=3/\∀y∈ups D.P w (D.P w++[(u:Int)]) w,0<=y/\y<n;rw[aC];refine ⟨by simp;omega,λy hy=>?_⟩;rcases List.mem_append.1 hy with h | h
   ·exact (hP.db.p w hw).2 y h
   ·rw[List.mem_singleton.1 h];omega
  ·show (ups D.P v (D.P v++[(u:Int)]) w).length<=3/\∀y∈ups D.P v (D.P v++[(u:Int)]) w,0<=y/\y<n;rw[af _ _ e];exact hP.db.p w hw
 ·show ups D.P v (D.P v++[(u:Int)]) (num k)=[]/\D.m (num k)=0;rw[af _ _ (hvi k hk hkn)];exact hP.db.f k hk hkn
 ·have hok:=hP.ok;refine ⟨λw hw=>?_,λk hk y hy=>?_,λk hk=>?_,hok.r⟩
  ·show (ups D.P v (D.P v++[(u:Int)]) w).Pairwise (·<·)
   by_cases e:w=v
   ·rw[e,aC];rw[List.pairwise_append];exact ⟨hok.s v hv,List.pairwise_singleton _ _,λa ha b hb=>by rw[List.mem_singleton.1 hb];exact hlt a ha⟩
   ·rw[af _ _ e];exact hok.s w hw
  ·have hy:y∈ups D.P v (D.P v++[(u:Int)]) (num k):=hy
   by_cases e:num k=v
   ·rw[e,aC] at hy;rcases List.mem_append.1 hy with h | h
    ·rw[<-e] at h;exact hok.a k hk y h
    ·obtain ⟨k',h1,h2⟩:=hua;have:¬k<i:=λh=>hvl k h e;exact ⟨k',by omega,by rw[List.mem_singleton.1 h,h2]⟩
   ·rw[af _ _ e] at hy;exact hok.a k hk y hy
  ·show (D.m (num k):Int)=S.be (ups D.P v (D.P v++[(u:Int)]) (num k)) D.c;rw[af _ _ (hvl k hk)];exact hok.w k hk
end
end Hx
end
section
namespace Hx
open Go
noncomputable section
structure DJ (r0 prow:List AV) (n q i p v u:Nat) (gr:Int) (r5:AV) (num:Nat->Nat) (j:Nat) (t:T) (g:G):Prop where
 st:St t ((13,.int .i64 (u:Int))::LDB n q i p v r5)
 hd:∃V E D,DP r0 prow n q i p v gr r5 num g V E D/\(∀y∈D.P v,y<=(u:Int))/\((∃k,k<j/\num k=u)\/∀y∈D.P v,y<(u:Int))
theorem NO {d n q i p v u:Nat}{gr:Int}{r0:List AV}{y1 y2:UInt8}{wv r5:AV}{pl:List Int}{num:Nat->Nat}{Q:QT}{t:T}{g:G}(hn:1<=n/\n<=5)(h5:IT 0 pl r5)(hN:Num n pl num)(hi:i<n)(hv:v=num i)(hu:u<n)
  (h0:DJ r0 [u8v y1,u8v y2,wv] n q i p v u gr r5 num 0 t g) (h14:tat t 14=.int .i64 0)
  (fin:∀t g,DJ r0 [u8v y1,u8v y2,wv] n q i p v u gr r5 num i t g->Q (.exit 6) t [] g):wpL (wp C0 d none fC) Q t [] g:=by
 have r5i:∀h,ah h 1 r5=some (pl.map ci):=λh=>(h5.sl h).ints;have hvn:v<n:=by rw[hv];exact hN.lt i hi
 have hvi:∀k,i<k->k<n->num k≠v:=λk h1 h2 e=>by have:=hN.inj k i h2 hi (by rw[e,hv]);omega
 have hvl:∀k,k<i->num k≠v:=λk h1 e=>by have:=hN.inj k i (by omega) hi (by rw[e,hv]);omega
 obtain ⟨FR,hFR⟩:∃FR,FR=zh:=⟨_,rfl⟩;simp only[fC,j_];rw[show (SC.feet [0,1,0,0,8,0,56,120,248,0,512,2040,4095,8191,16383] [oF 131 1 4,oL 132 131,oM 133 12,oF 134 1 4,oL 135 134,oM 136 12,o 137 (.ixs 3 (.t 135) (.t 136)),oF 138 1 137,oL 139 138,oM 140 13,o 141 (.bsl 1 1 [.int .i64 0] [0] [.t 140]),o 142 (.app 1 8 (.t 139) (.t 141)),o 143 (.ixs 3 (.t 132) (.t 133)),oF 144 1 143,oz (.store 1 (.t 144) (.t 142))])=FR from hFR.symm];refine gY i (by omega) (λj t df g=>df=[]/\DJ r0 [u8v y1,u8v y2,wv] n q i p v u gr r5 num j t g) ⟨rfl,h0⟩ h14 (by decide) ?_ ?_ ?_ ?_
 ·rintro j t df g w s (rfl | rfl | rfl) ⟨a1,⟨b1,b2,b3,b4,b5,b6,b7,b8,b9,-⟩,c⟩<;>exact ⟨a1,by simp[St,LDB,sx,b1,b2,b3,b4,b5,b6,b7,b8,b9],c⟩
 ·rintro j t df g hj ⟨rfl,⟨h13,h1,h2,h3,h4,h5,h10,h11,h12,-⟩,hD⟩ h14;simp only[sz,simprocAttr,h14,h10];exact ⟨by simp[St,LDB,sx,h13,h1,h2,h3,h4,h5,h10,h11,h12],hD⟩
 ·rintro j t df g hj ⟨rfl,⟨h13,h1,h2,h3,h4,h5,h10,h11,h12,-⟩,V,E,D,hP,hle,hcs⟩ h14;obtain ⟨kp,-,-⟩:=hP.p;have kp:g.h.get p=.cells 3 [[u8v y1,u8v y2,wv]] 0 false false:=kp;obtain ⟨kq,q2a,q2b⟩:=hP.dn.q (.inl rfl);have rns:=hP.dn.ns.rows;have hry:=uU hP.dn.ns (by simp;omega);have u1:j<(pl.map ci).length:=by rw[List.length_map,hN.len];omega
  have u2:(pl.map ci)[j]?=some (ci (num j:Int)):=by rw[List.getElem?_map,hN.at_ j (by omega)];rfl
  have u3:v<((List.range n).map (gw D V)).length:=by simpa using hvn
  have u4:((List.range n).map (gw D V))[v]?=some [.int .i64 (D.c v),V (v+1,0),V (v+1,1)]:=gN (gw D V) hvn;have hps:=hP.dn.bn.ps v hvn;have hlen:∀g2:G,dv .slice (V (v+1,0)) g2=.val (.int .i64 ((D.P v).length:Int)):=λg2=>by have:=(hP.dn.hp.own (.inl (LN.p hvn)) hps.1).rows;rw[fW this];simp
  have w1:IntKind.wrap .u64 (j:Int)=(j:Int):=vg (by omega) (by omega);obtain ⟨z1,hz1⟩:=vA y2.toNat j;obtain ⟨z2,hz2⟩:=vz z1 1;have hcs':(∃k,k<j+1/\num k=u)\/∀y∈D.P v,y<(u:Int):=by
   rcases hcs with ⟨k,h1,h2⟩ | h
   ·exact .inl ⟨k,by omega,h2⟩
   ·exact .inr h
  have hz2':cE .and (.int .u8 (z1:Int)) (.int .u8 1)=.val (.int .u8 z2):=hz2
  by_cases c1:(num j:Int)=(u:Int)
  ·by_cases c2:z2=1
   ·by_cases c3:((D.P v).length:Int)<3
    ·simp only[sz,simprocAttr,h14,h5,h13,r5i,u1,u2,ci,c1,h11,kp,u8v,w1,hz1,hz2',c2,h4,kq,h12,rns,u3,u4,hry,hlen,c3];rw[hFR];refine Mb (n:=n) (q:=q) (i:=i) (p:=p) (v:=v) (u:=u) (r5:=r5) (num:=num) hn hvn hvi hu hvl ⟨j,hj,by omega⟩ ?_ ?_ ?_ ?_ hP (by omega) (rest:=[]) ?_
     ·rcases hcs with ⟨k,h1,h2⟩ | h
      ·have:=hN.inj k j (by omega) (by omega) (by omega);omega
      ·exact h
     ·simp[sx,h4]
     ·simp[sx,h12]
     ·simp[sx,h13]
     intro t' g' V' E' D' hst hPv hP';simp only[sy];have hs:∀s,s<131->tat t' s=_:=λs h=>hst s (.inl h);refine ⟨⟨?_,V',E',D',hP',λy hy=>?_,.inl ⟨j,by omega,by omega⟩⟩,?_⟩
     ·simp[St,LDB,hs,sx,h13,h1,h2,h3,h4,h5,h10,h11,h12]
     ·rw[hPv] at hy;rcases List.mem_append.1 hy with h | h
      ·exact hle y h
      ·rw[List.mem_singleton.1 h];exact Int.le_refl _
     ·simp[hs,sx,h14]
    ·simp only[sz,simprocAttr,h14,h5,h13,r5i,u1,u2,ci,c1,h11,kp,u8v,w1,hz1,hz2',c2,h4,kq,h12,rns,u3,u4,hry,hlen,c3];exact ⟨by simp[St,LDB,sx,h13,h1,h2,h3,h4,h5,h10,h11,h12],V,E,D,hP,hle,hcs'⟩
   ·simp only[sz,simprocAttr,h14,h5,h13,r5i,u1,u2,ci,c1,h11,kp,u8v,w1,hz1,hz2',c2];exact ⟨by simp[St,LDB,sx,h13,h1,h2,h3,h4,h5,h10,h11,h12],V,E,D,hP,hle,hcs'⟩
  ·simp only[sz,simprocAttr,h14,h5,h13,r5i,u1,u2,ci,c1];exact ⟨by simp[St,LDB,sx,h13,h1,h2,h3,h4,h5,h10,h11,h12],V,E,D,hP,hle,hcs'⟩
 ·rintro t df g ⟨rfl,h⟩;exact fin t g h
structure DK (r0 prow:List AV) (n q i p v:Nat) (gr:Int) (r5:AV) (num:Nat->Nat) (j:Nat) (t:T) (g:G):Prop where
 st:St t (LDB n q i p v r5)
 hd:∃V E D,DP r0 prow n q i p v gr r5 num g V E D/\∀y∈D.P v,y<(j:Int)
theorem NP {d n q i p v:Nat}{gr:Int}{r0:List AV}{y1 y2:UInt8}{wv r5:AV}{pl:List Int}{num:Nat->Nat}{Q:QT}{t:T}{g:G}(hn:1<=n/\n<=5)(h5:IT 0 pl r5)(hN:Num n pl num)(hi:i<n)(hv:v=num i)
  (h0:DK r0 [u8v y1,u8v y2,wv] n q i p v gr r5 num 0 t g) (h13:tat t 13=.int .i64 0)
  (fin:∀t g,DK r0 [u8v y1,u8v y2,wv] n q i p v gr r5 num n t g->Q (.exit 4) t [] g):wpL (wp C0 d none fD) Q t [] g:=by
 simp only[fD,kh];refine gY n (by omega) (λj t df g=>df=[]/\DK r0 [u8v y1,u8v y2,wv] n q i p v gr r5 num j t g) ⟨rfl,h0⟩ h13 (by decide) ?_ ?_ ?_ ?_
 ·rintro j t df g w s (rfl | rfl | rfl) ⟨a1,⟨b1,b2,b3,b4,b5,b6,b7,b8,-⟩,c⟩<;>exact ⟨a1,by simp[St,LDB,sx,b1,b2,b3,b4,b5,b6,b7,b8],c⟩
 ·rintro j t df g hj ⟨rfl,⟨h1,h2,h3,h4,h5,h10,h11,h12,-⟩,hD⟩ h13;simp only[sz,simprocAttr,h13,h3];exact ⟨by simp[St,LDB,sx,h1,h2,h3,h4,h5,h10,h11,h12],hD⟩
 ·rintro j t df g hj ⟨rfl,⟨h1,h2,h3,h4,h5',h10,h11,h12,-⟩,V,E,D,hD,hlt⟩ h13;simp only[sz,simprocAttr];refine NO (u:=j) hn h5 hN hi hv hj ⟨by simp[St,LDB,sx,h13,h1,h2,h3,h4,h5',h10,h11,h12],V,E,D,hD,λy hy=>Int.le_of_lt (hlt y hy),.inr hlt⟩ (by simp[sx]) ?_;rintro t2 g2 ⟨⟨k13,k1,k2,k3,k4,k5,k10,k11,k12,-⟩,V2,E2,D2,hD2,hle2,-⟩;simp only[sx,sy,↓reduceIte];exact ⟨⟨by simp[St,LDB,k1,k2,k3,k4,k5,k10,k11,k12],V2,E2,D2,hD2,λy hy=>by have:=hle2 y hy;omega⟩,k13⟩
 ·rintro t df g ⟨rfl,h⟩;exact fin t g h
def zt:SC:=.feet [0,1,0,0,8,0,56,120,248,0,512,0,2048,0,14336,30720,63488,0,131072,0,0,1048576,0,7340032,15728640,32505856,66060288,133693440,268434944,536870400,1073741816,2147483647,4294967295,8589934591] [oF 153 1 4,oL 154 153,oM 155 12,oF 156 1 4,oL 157 156,oM 158 12,o 159 (.ixs 3 (.t 157) (.t 158)),oF 160 2 159,oL 161 160,oF 162 0 4,oL 163 162,oF 164 1 4,oL 165 164,oM 166 12,o 167 (.ixs 3 (.t 165) (.t 166)),oF 168 0 167,oL 169 168,oF 170 2 11,oL 171 170,oM 172 15,oF 173 1 4,oL 174 173,oM 175 12,o 176 (.ixs 3 (.t 174) (.t 175)),oF 177 0 176,oL 178 177,oA 179 178,o 180 (.bin .mul (.t 172) (.t 179)),o 181 (.call N.ap [.t 163,.t 169,.t 171,.t 180]),o 182 (.bsl 1 1 [.nils] [0] [.t 181]),o 183 (.app 1 24 (.t 161) (.t 182)),o 184 (.ixs 3 (.t 154) (.t 155)),oF 185 2 184,oz (.store 1 (.t 185) (.t 183))]
structure DQ (r0 prow:List AV) (n q i p v j:Nat) (gr:Int) (r5:AV) (num:Nat->Nat) (P0:List Int) (c0:Nat->Int) (g:G) (V:Ky->AV) (E:Ky->En) (D:ND):Prop where
 dn:DN X2 r0 n q 1000 gr V E D g
 pb:V (0,2)=.hptr p 0 0 0/\E (0,2)=.bx prow
 db:DB D n i v num
 mv:D.m v=j
 pv:D.P v=P0
 cv:D.c=c0
 ok:DOk gr D n i num
theorem DQ.p {r0 prow:List AV}{n q i p v j:Nat}{gr:Int}{r5:AV}{num:Nat->Nat}{P0:List Int}{c0:Nat->Int}{g:G}{V:Ky->AV}{E:Ky->En}{D:ND}(h:DQ r0 prow n q i p v j gr r5 num P0 c0 g V E D):g.h.get p=.cells prow.length [prow] 0 false false/\2<=p/\p<g.nx:=by obtain ⟨id,h1,h2,h3,h4⟩:=h.dn.hp.box (k:=(0,2)) (.inr (.inr rfl)) h.pb.2;rw[h.pb.1] at h3;injection h3 with h3;subst h3;exact ⟨h4,h1,h2⟩
theorem Mc {d n q i p v j kk:Nat}{gr:Int}{r0:List AV}{y1 y2:UInt8}{W:List UInt8}{wv r5:AV}{num:Nat->Nat}{P0:List Int}{c0:Nat->Int}{Q:QT}{t:T}{g:G}{V:Ky->AV}{E:Ky->En}{D:ND}(hd:0<d)(hn:1<=n/\n<=5)(hv:v<n)(hvi:∀k,i<k->k<n->num k≠v)(hvl:∀k,k<i->num k≠v)(hj:j<64)(hgr:0<=gr/\gr<=60)(hwv:SlR NoP kk .nil W wv)
  (h4:tat t 4=.hptr q 0 0 0) (h11:tat t 11=.hptr p 0 0 0) (h12:tat t 12=.int .i64 (v:Int)) (h15:tat t 15=.int .i64 (j:Int)) (hP:DQ r0 [u8v y1,u8v y2,wv] n q i p v j gr r5 num P0 c0 g V E D)
  (fin:∀t' g' V' E' D',(∀s,(s<153\/185<s)->tat t' s=tat t s)->DQ r0 [u8v y1,u8v y2,wv] n q i p v (j+1) gr r5 num P0 c0 g' V' E' D'->Q .norm t' [] g') :
  wp C0 d none zt Q t [] g:=by
 have hD:=hP.dn;obtain ⟨kq,q2a,q2b⟩:=hD.q (.inl rfl);obtain ⟨kp,-,hpx⟩:=hP.p;have kp:g.h.get p=.cells 3 [[u8v y1,u8v y2,wv]] 0 false false:=kp;unfold zt;have rns:=hD.ns.rows;have hry:=uU hD.ns (by simp;omega);have u3:v<((List.range n).map (gw D V)).length:=by simpa using hv
 have u4:=gN (gw D V) hv;have u4':((List.range n).map (gw D V))[v]?=some [.int .i64 (D.c v),V (v+1,0),V (v+1,1)]:=u4;have hrs:=hD.bn.rs v hv;have hnx:=hD.hp.nx;obtain ⟨C,hC,hCb⟩:∃C:Nat,D.c v=(C:Int)/\(C=2\/C=3):=by
  rcases hP.db.c v hv with h | h
  ·exact ⟨2,h,.inl rfl⟩
  ·exact ⟨3,h,.inr rfl⟩
 have hjC:j*(C+1)<=64*4:=Nat.mul_le_mul (by omega) (by omega);have w1:IntKind.wrap .i64 ((C:Int)+1)=((C+1:Nat):Int):=by rw[aq (by omega) (by omega)];rfl
 have w2:IntKind.wrap .i64 ((j:Int)*((C+1:Nat):Int))=((j*(C+1):Nat):Int):=by rw[<-Int.natCast_mul,aq (by omega) (by omega)]
 rw[hC] at u4';simp only[sz,simprocAttr,sf,h4,h11,h12,h15,kq,kp,rns,u3,u4',hry,w1,w2,yK];refine bH (N5 (C:=C) (F:=j*(C+1)) (gr:=gr) (l:=W) hd (by omega) (by omega) hgr hwv) ?_;rintro r ⟨l,⟨hl,hlg'⟩,_,e1,hr⟩;injection e1 with e1;subst e1;have hrc:=hr.cell;simp only[sz,simprocAttr,sf,hrc.1,hrc.2];refine (hD.hp.step (g':=_) ?_ ?_).app2 (k:=(v+1,1)) (.inl (LN.r hv)) hrs.1 (new:=[[r]]) (by simp[sx,sy]) (by unfold aP;simp;rw[hP.mv];omega) λv1 g1 hH1 n1 fb1 fo1 lg1 vc vt=>?_
 ·simp;omega
 ·intro i _ hi;simp[H.get_put];omega
 simp only[sx,sy] at n1 fb1 fo1 lg1;have hnk:¬LNX X2 n D (v+1,2+j):=by
  rintro (h | h)
  ·rcases h with h | ⟨i',q',h,-,hq⟩
   ·simp at h
   ·rw[hP.db.o] at hq;simp only[Prod.mk.injEq] at h;omega
  ·rcases h with h | h<;>simp at h
 have hH1:=hH1.off (x:=r) hnk;have e00:ups (ups V (v+1,1) v1) (v+1,2+j) r (0,0)=V (0,0):=by rw[af _ _ (by simp),af _ _ (by simp)]
 have hE00:ups E (v+1,1) (.sl 1 ((List.range (D.m v)).map (Fo V v)++[[r]])) (0,0)=.sl 3 ((List.range n).map (gw D V)):=by rw[af _ _ (by simp)];exact hD.bn.ns
 have rns1:ah g1.h 3 (V (0,0))=some ((List.range n).map (gw D V)):=by rw[<-e00];exact (hH1.own (k:=(0,0)) (.inl LN.z) hE00).rows
 simp only[sz,simprocAttr,sf,rns1,u3,hry];refine (hH1.same (g':=_) ?_ ?_).putv (k:=(0,0)) (.inl LN.z) e00 (row':=[.int .i64 (C:Int),V (v+1,0),v1]) hE00 u4 (by rw[vc];rfl) vt (by rw[vc,gw,hC];rfl) λg2 hH2 n2 fb2 fo2=>?_
 ·simp
 ·simp;omega
 simp only[sy];refine ⟨?_,?_⟩
 ·simp only[List.reverse_cons,List.reverse_nil,List.nil_append,List.cons_append];refine aV [false,false,false,false,false,false,false,false,false,false,false,false,false,false,false,false,false,false,false,false,false,false,false,false,false,false,false,false,false,true,true,false,false,true] [(0,29),(1,29),(2,29),(3,29),(4,29),(5,29),(6,29),(7,29),(8,29),(0,30),(1,30),(2,30)] (by simp[All2,an,aD]) (by decide) ?_;have hlg:∀i∈g1.lg,i≠q:=λi hi e=>by
   rcases lg1 i hi with h | h | h
   ·simp at h
   ·exact BM hD.hp (.inl (LN.r hv)) (.inr (.inl rfl)) (by simp) h (by rw[hD.vb,e];rfl)
   ·omega
  obtain ⟨id0,ep0,hid0,hv0⟩:∃id ep,id<g.nx/\V (0,0)=.hsl id ep 0 ((List.range n).map (gw D V)).length none:=by
   rcases hD.ns with ⟨h,e⟩ | ⟨id,ep,lo,-,h1,h2,-⟩
   ·have:=congrArg List.length e;simp at this;omega
   ·exact ⟨id,ep,h1,h2⟩
  have hlg2:∀i∈g1.lg,i≠id0:=λi hi e=>by
   rcases lg1 i hi with h | h | h
   ·simp at h
   ·exact BM hD.hp (.inl (LN.r hv)) (.inl LN.z) (by simp) h (by rw[hv0,e];rfl)
   ·omega
  rintro p hp' x y hx hy;simp only[List.mem_cons,List.not_mem_nil,or_false] at hp';rcases hp' with rfl | rfl | rfl | rfl | rfl | rfl | rfl | rfl | rfl | rfl | rfl | rfl<;>(simp at hx hy;subst hx;subst hy;refine eh rfl rfl rfl rfl ?_ ?_ ?_<;>simp[an,aD,ak,hv0,mP]<;>first | omega | exact hlg | exact hlg2 | exact λi hi e=>hlg i hi e.symm | exact λi hi e=>hlg2 i hi e.symm)
 have hmv:=hP.mv;refine fin _ _ (ups (ups V (v+1,1) v1) (v+1,2+j) r) _ { D with m:=ups D.m v (j+1),R:=ups D.R v (ups (D.R v) j l) } (λs hs=>?_) ⟨⟨(hH2.same (g':=_) (by simp) (by simp)).sub λk hk=>hk,⟨?_,λu hu=>?_,λu hu=>?_,λu r' hu hr'=>?_⟩,?_,?_,?_,?_⟩,⟨?_,?_⟩,⟨hP.db.c,hP.db.p,λu hu=>?_,hP.db.o,λk hk hkn=>?_⟩,aC _ _ _,hP.pv,hP.cv,?_⟩
 ·simp only[mV]
  repeat rw[if_neg (by omega)]
 ·rw[aC,od _ _ hv];congr 1;refine y_ ?_ λj hj hne=>by simp[gw,af,hne]
  show _=[AV.int .i64 (D.c v),ups (ups V (v+1,1) v1) (v+1,2+j) r (v+1,0),ups (ups V (v+1,1) v1) (v+1,2+j) r (v+1,1)];rw[hC,af _ _ (by first | (simp;done) | (simp;omega)),af _ _ (by first | (simp;done) | (simp;omega)),af _ _ (by first | (simp;done) | (simp;omega)),aC]
 ·rw[af _ _ (by simp),af _ _ (by simp)];exact hD.bn.ps u hu
 ·by_cases e:u=v
  ·subst e;rw[af _ _ (by simp),aC];show En.sl 1 _=En.sl 1 ((List.range (ups D.m u (j+1) u)).map _)/\ups D.m u (j+1) u<=1000;rw[aC];refine ⟨?_,by omega⟩;rw[hmv,List.range_succ,List.map_append];congr 2
   ·exact List.map_congr_left λr' hr'=>by have:=List.mem_range.1 hr';simp[Fo,af,show ¬r'=j by omega,show ¬2+r'=1 by omega]
   ·simp[Fo,aC]
  ·rw[af _ _ (by simp),af _ _ (by simp[e])];show E (u+1,1)=En.sl 1 ((List.range (ups D.m v (j+1) u)).map _)/\ups D.m v (j+1) u<=1000;rw[af _ _ e];have:=hD.bn.rs u hu;refine ⟨?_,this.2⟩;rw[this.1];congr 1;exact List.map_congr_left λr' _=>by simp[Fo,af,e]
 ·by_cases e:u=v
  ·subst e;have hr':r'<ups D.m u (j+1) u:=hr';rw[aC] at hr';show (ups D.R u (ups (D.R u) j l) u r').length<=1000/\((r'<D.o u/\_=En.sl 1 ((ups D.R u (ups (D.R u) j l) u r').map ci))\/SlR NoP 0 .nil (ups D.R u (ups (D.R u) j l) u r') _);rw[aC]
   by_cases e2:r'=j
   ·subst e2;rw[aC,aC];exact ⟨by omega,.inr hr⟩
   ·rw[af _ _ e2,af _ _ (by first | (simp;done) | (simp;omega)),af _ _ (by first | (simp;done) | (simp;omega)),af _ _ (by simp[e2]),af _ _ (by first | (simp;done) | (simp;omega))];exact hD.bn.rr u r' hu (by omega)
  ·have hr':r'<ups D.m v (j+1) u:=hr';rw[af _ _ e] at hr';show (ups D.R v (ups (D.R v) j l) u r').length<=1000/\((r'<D.o u/\_=En.sl 1 ((ups D.R v (ups (D.R v) j l) u r').map ci))\/SlR NoP 0 .nil (ups D.R v (ups (D.R v) j l) u r') _);rw[af _ _ e,af _ _ (by first | (simp;done) | (simp;omega)),af _ _ (by first | (simp;done) | (simp;omega)),af _ _ (by simp[e]),af _ _ (by simp[e])];exact hD.bn.rr u r' hu hr'
 ·rw[af _ _ (by simp),af _ _ (by simp)];exact hD.vb
 ·rw[af _ _ (by simp),af _ _ (by simp),af _ _ (by simp),af _ _ (by simp)];exact hD.bx
 ·simp only[bumpG_h];rw[fb2 0 (by omega)];simp;rw[fb1 0 (by omega),if_neg (by omega),hD.h0]
 ·simp only[bumpG_h];rw[fb2 1 (by omega)];simp;rw[fb1 1 (by omega),if_neg (by omega),hD.h1]
 ·rw[af _ _ (by simp),af _ _ (by simp)];exact hP.pb.1
 ·rw[af _ _ (by simp),af _ _ (by simp)];exact hP.pb.2
 ·show ups D.m v (j+1) u<=64
  by_cases e:u=v
  ·rw[e,aC];omega
  ·rw[af _ _ e];exact hP.db.m u hu
 ·show D.P (num k)=[]/\ups D.m v (j+1) (num k)=0;rw[af _ _ (hvi k hk hkn)];exact hP.db.f k hk hkn
 ·have hok:=hP.ok;refine ⟨hok.s,hok.a,λk hk=>?_,λu r' hu hr'=>?_⟩
  ·show ((ups D.m v (j+1) (num k):Nat):Int)=_;rw[af _ _ (hvl k hk)];exact hok.w k hk
  ·show Lk gr (D.c u) (ups D.R v (ups (D.R v) j l) u r');have hr':r'<ups D.m v (j+1) u:=hr'
   by_cases e:u=v
   ·rw[e,aC] at hr' ⊢
    by_cases e2:r'=j
    ·rw[e2,aC,hC];exact hlg'
    ·rw[af _ _ e2];exact hok.r v r' hv (by omega)
   ·rw[af _ _ e] at hr' ⊢;exact hok.r u r' hu hr'
theorem GI {gr:Int}{n v:Nat}{D:ND}(hv:v<n)(hp:∀y∈D.P v,0<=y/\y<n):S.ae (S.aa ⟨gr,(List.range n).map D.node⟩) (D.P v)=(D.P v).map λy=>D.c y.toNat:=by
 unfold S.ae S.aa;refine List.map_congr_left λy hy=>?_;have:=hp y hy;rw[List.map_map];have h:y.toNat<n:=by omega
 simp[h,ND.node]
theorem y9 {n v:Nat}{D:ND}(hv:v<n)(hc:∀u,u<n->D.c u=2\/D.c u=3)(hp:(D.P v).length<=3/\∀y∈D.P v,0<=y/\y<n):(∀c∈(D.P v).map λy=>D.c y.toNat,1<=c/\c<=4)/\1<=S.be (D.P v) D.c/\S.be (D.P v) D.c<=64:=by
 have h1:∀c∈(D.P v).map λy=>D.c y.toNat,1<=c/\c<=4:=λc h=>by obtain ⟨y,hy,rfl⟩:=List.mem_map.1 h;have:=hp.2 y hy;have:=hc y.toNat (by omega);omega
 have h2:=bB h1;have h3:=cZ (a:=((D.P v).map λy=>D.c y.toNat).length) (b:=3) (by simpa using hp.1);have h4:(4:Int) ^ 3=64:=by decide
 refine ⟨h1,h2.1,?_⟩;unfold S.be;omega
structure DRw (r0 prow:List AV) (n q i p v j:Nat) (gr:Int) (r5:AV) (num:Nat->Nat) (P0:List Int) (c0:Nat->Int) (t:T) (g:G):Prop where
 st:St t (LDB n q i p v r5)
 hd:∃V E D,DQ r0 prow n q i p v j gr r5 num P0 c0 g V E D
theorem NQ {d n q i p v kk:Nat}{gr:Int}{r0:List AV}{y1 y2:UInt8}{W:List UInt8}{wv r5:AV}{num:Nat->Nat}{P0:List Int}{c0:Nat->Int}{Q:QT}{t:T}{g:G}(hd:0<d)(hn:1<=n/\n<=5)(hv:v<n)(hvi:∀k,i<k->k<n->num k≠v)(hvl:∀k,k<i->num k≠v)(hgr:0<=gr/\gr<=60)(hwv:SlR NoP kk .nil W wv)
  (h0:DRw r0 [u8v y1,u8v y2,wv] n q i p v 0 gr r5 num P0 c0 t g) (h15:tat t 15=.int .i64 0)
  (fin:∀(t:T) (g:G) (j:Nat),(j:Int)=S.be P0 c0->DRw r0 [u8v y1,u8v y2,wv] n q i p v j gr r5 num P0 c0 t g->Q (.exit 8) t [] g):wpL (wp C0 d none fE) Q t [] g:=by
 have hM:1<=S.be P0 c0/\S.be P0 c0<=64:=by obtain ⟨-,V,E,D,hQ⟩:=h0;have:=(y9 hv hQ.db.c (hQ.db.p v hv)).2;rw[hQ.pv,hQ.cv] at this;exact this
 obtain ⟨M,hMe⟩:=Int.eq_ofNat_of_zero_le (show 0<=S.be P0 c0 by omega);obtain ⟨FR,hFR⟩:∃FR,FR=zt:=⟨_,rfl⟩;simp only[fE];rw[show (SC.feet [0,1,0,0,8,0,56,120,248,0,512,0,2048,0,14336,30720,63488,0,131072,0,0,1048576,0,7340032,15728640,32505856,66060288,133693440,268434944,536870400,1073741816,2147483647,4294967295,8589934591] [oF 153 1 4,oL 154 153,oM 155 12,oF 156 1 4,oL 157 156,oM 158 12,o 159 (.ixs 3 (.t 157) (.t 158)),oF 160 2 159,oL 161 160,oF 162 0 4,oL 163 162,oF 164 1 4,oL 165 164,oM 166 12,o 167 (.ixs 3 (.t 165) (.t 166)),oF 168 0 167,oL 169 168,oF 170 2 11,oL 171 170,oM 172 15,oF 173 1 4,oL 174 173,oM 175 12,o 176 (.ixs 3 (.t 174) (.t 175)),oF 177 0 176,oL 178 177,oA 179 178,o 180 (.bin .mul (.t 172) (.t 179)),o 181 (.call N.ap [.t 163,.t 169,.t 171,.t 180]),o 182 (.bsl 1 1 [.nils] [0] [.t 181]),o 183 (.app 1 24 (.t 161) (.t 182)),o 184 (.ixs 3 (.t 154) (.t 155)),oF 185 2 184,oz (.store 1 (.t 185) (.t 183))])=FR from hFR.symm];refine gY M (by omega) (λj t df g=>df=[]/\DRw r0 [u8v y1,u8v y2,wv] n q i p v j gr r5 num P0 c0 t g) ⟨rfl,h0⟩ h15 (by decide) ?_ ?_ ?_ ?_
 ·rintro j t df g w s (rfl | rfl | rfl) ⟨a1,⟨b1,b2,b3,b4,b5,b6,b7,b8,-⟩,c⟩<;>exact ⟨a1,by simp[St,LDB,sx,b1,b2,b3,b4,b5,b6,b7,b8],c⟩
 ·rintro j t df g hj ⟨rfl,⟨h1,h2,h3,h4,h5,h10,h11,h12,-⟩,V,E,D,hQ⟩ h15;obtain ⟨kq,q2a,q2b⟩:=hQ.dn.q (.inl rfl);have hnodes:=hQ.dn.bn.nodes hQ.dn.hp (λk h=>.inl h) (by omega) (by omega);have hnet:Agg (⟨gr,(List.range n).map D.node⟩:Net) (λj=>2<=j) 0 g.h (.agg [.int .i64 gr,V (0,0)]):=⟨_,rfl,ib.2 ⟨_,rfl,hnodes⟩⟩;have hpv:=hQ.db.p v hv;obtain ⟨r,er,hr⟩:=Ia (d:=d) (g:=g) (i:=v) (x:=D.node v) hd hnet (by simp;omega) (by simp[hv]) (by show (D.P v).length<_;omega) (λy hy=>by have:=hpv.2 y hy;simp;omega);have hpar:=GI (gr:=gr) hv hpv.2;have hb:=y9 hv hQ.db.c hpv;have hsz:=KE (d:=d) (g:=g) hd (hr.sl g.h);have hse:S.aU (S.ae (S.aa ⟨gr,(List.range n).map D.node⟩) (D.node v).parents)=(M:Int):=by show S.aU (S.ae (S.aa ⟨gr,(List.range n).map D.node⟩) (D.P v))=(M:Int);rw[hpar,wn hb.1 (by simp;omega),<-hMe,S.be,<-hQ.pv,<-hQ.cv]
  rw[hse] at hsz;simp only[sz,simprocAttr,h15,h4,kq,h12,er,hsz];exact ⟨by simp[St,LDB,sx,h1,h2,h3,h4,h5,h10,h11,h12],V,E,D,hQ⟩
 ·rintro j t df g hj ⟨rfl,⟨h1,h2,h3,h4,h5,h10,h11,h12,-⟩,V,E,D,hQ⟩ h15;rw[hFR];refine Mc (n:=n) (q:=q) (i:=i) (p:=p) (v:=v) (j:=j) (r5:=r5) (num:=num) hd hn hv hvi hvl (by omega) hgr hwv h4 h11 h12 h15 hQ ?_;intro t' g' V' E' D' hst hQ';have hs:∀s,s<153->tat t' s=tat t s:=λs h=>hst s (.inl h);rw[BO];exact ⟨⟨rfl,by simp[St,LDB,hs,h1,h2,h3,h4,h5,h10,h11,h12],V',E',D',hQ'⟩,by rw[hs 15 (by omega),h15]⟩
 ·rintro t df g ⟨rfl,h⟩;exact fin t g M hMe.symm h
structure DBl (D:ND) (n i:Nat) (num:Nat->Nat):Prop where
 c:∀u,u<n->D.c u=2\/D.c u=3
 p:∀u,u<n->(D.P u).length<=3/\∀y∈D.P u,0<=y/\y<n
 m:∀u,u<n->D.m u<=64
 o:∀u,D.o u=0
 f:∀k,i<=k->k<n->D.P (num k)=[]/\D.m (num k)=0
structure DL (r0:List AV) (n q:Nat) (gr:Int) (r5:AV) (num:Nat->Nat) (i:Nat) (t:T) (g:G):Prop where
 st:St t (LDA n q r5)
 hd:∃V E D,DN X1 r0 n q 1000 gr V E D g/\DBl D n i num/\DOk gr D n i num
theorem L3 {n:Nat}{D:ND}:∀k,LNX X1 n D k->LNX X2 n D k:=λk h=>by
 rcases h with h | h
 ·exact .inl h
 ·exact .inr (.inl h)
theorem Ma {d n q kk:Nat}{x:vo}{gr:Int}{a b r5:AV}{pl:List Int}{num:Nat->Nat}{Q:QT}{t:T}{g:G}(hd:0<d)(hgr:0<=gr/\gr<=60)(hn:1<=n/\n<=5)(ha:SlR NoP kk .nil x.2.1 a)(h5:IT 0 pl r5)(hN:Num n pl num)
  (h0:DL [u8v x.1,a,b] n q gr r5 num 0 t g) (h10:tat t 10=.int .i64 0)
  (fin:∀t g,DL [u8v x.1,a,b] n q gr r5 num n t g->Q (.exit 2) t [] g):wpL (wp C0 d none eL) Q t [] g:=by
 obtain ⟨pr,r1,r2,r3,r4⟩:=ha.all;have r1:∀h',ah h' 3 a=some pr:=r1;have la:=ha.len;have hal:=ha.1;have r5i:∀h,ah h 1 r5=some (pl.map ci):=λh=>(h5.sl h).ints;simp only[eL,jy];refine gY n (by omega) (λj t df g=>df=[]/\DL [u8v x.1,a,b] n q gr r5 num j t g) ⟨rfl,h0⟩ h10 (by decide) ?_ ?_ ?_ ?_
 ·rintro j t df g v s (rfl | rfl | rfl) ⟨a1,⟨b1,b2,b3,b4,b5,-⟩,c3⟩<;>exact ⟨a1,by simp[St,LDA,sx,b1,b2,b3,b4,b5],c3⟩
 ·rintro j t df g hj ⟨rfl,⟨h1,h2,h3,h4,h5,-⟩,hD⟩ h10;simp only[sz,simprocAttr,h10,h3];exact ⟨by simp[St,LDA,sx,h1,h2,h3,h4,h5],hD⟩
 ·rintro j t df g hj ⟨rfl,⟨h1,h2,h3,h4,h5',-⟩,V,E,D,hD,hb,hok⟩ h10;obtain ⟨p,hp⟩:∃p,p=g.nx:=⟨_,rfl⟩;have hnx:=hD.hp.nx;refine gx (P:=λt' df g'=>df=[]/\g'=g.new (.cells 3 [[.int .u8 0,.int .u8 0,.nils]] 0 false false)/\St t' ((10,.int .i64 (j:Int))::(11,.hptr p 0 0 0)::LDA n q r5)) ?_ ?_
  ·simp only[sz,simprocAttr];simp[St,LDA,sx,h1,h2,h3,h4,h5',h10,hp]
  clear h1 h2 h3 h4 h5' h10;rintro t df g1 ⟨rfl,hg1,⟨h10,h11,h1,h2,h3,h4,h5',-⟩⟩;have f1:Fr g g1:=by rw[hg1];exact Fr.new _ _
  have k8:g1.h.get p=.cells 3 [[.int .u8 0,.int .u8 0,.nils]] 0 false false:=by rw[hg1,hp];simp[H.get_put]
  have n1:p<g1.nx:=by rw[hg1,hp];simp
  clear hg1;have hD1:=hD.same f1;have e0:=hD1.h0;refine gx (P:=λt' df g'=>df=[]/\Fr g g'/\St t' ((10,.int .i64 (j:Int))::(11,.hptr p 0 0 0)::LDA n q r5)/\p<g'.nx/\∃(y1 y2:UInt8) (W:List UInt8) (wv:AV),SlR NoP kk .nil W wv/\g'.h.get p=.cells 3 [[u8v y1,u8v y2,wv]] 0 false false) ?_ ?_
  ·simp only[sz,simprocAttr,h10,h1,e0,la];refine fS (λhb=>?_) (λhb=>?_)
   ·have hb:j<x.2.1.length:=by simpa using hb
    obtain ⟨y,hy,-,-⟩:=ae hb;obtain ⟨row,q1,q2⟩:=r3 j y hy;obtain ⟨wv,rfl,hwv⟩:=A6.1 q2;have hlt:j<pr.length:=by omega
    have hry:=r4 (by omega);simp only[sz,simprocAttr,h10,h1,e0,r1,hlt,q1,h11,k8];refine ⟨?_,by simp[St,LDA,sx,h1,h2,h3,h4,h5',h10,h11],by simpa using n1,y.1,y.2.1,y.2.2,wv,hwv,by simp[H.get_put]⟩;exact ⟨Nat.le_trans f1.1 (by simp),λi hi=>by simp[H.get_put,show ¬i=p by omega];exact f1.2 i hi⟩
   ·simp only[sx,sy];exact ⟨f1,by simp[St,LDA,sx,h1,h2,h3,h4,h5',h10,h11],n1,0,0,[],.nils,⟨by show 0<9223372036854775808;decide,rfl⟩,k8⟩
  clear h1 h2 h3 h4 h5' h10 h11 e0 hD1 k8 n1 f1;rintro t df g2 ⟨rfl,f2,⟨h10,h11,h1,h2,h3,h4,h5',-⟩,n2,y1,y2,W,wv,hwv,k8⟩;have hH:=hD.hp.add (g':=g2) (k:=(0,2)) (L':=LNX X2 n D) (v':=.hptr p 0 0 0) (e':=.bx [u8v y1,u8v y2,wv]) (by
   rintro (h | h)
   ·rcases h with h | ⟨i',q',h,-,-⟩<;>simp at h
   ·simp[X1] at h) ⟨p,by omega,n2,rfl,k8⟩ f2.1 (λi _ hi=>f2.2 i hi) (λi hi=>by injection hi with hi;omega) (λk hk=>by
   rcases hk with h | h | h
   ·exact .inl (.inl h)
   ·exact .inl (.inr h)
   ·exact .inr h)
  have hfj:=hb.f j (Nat.le_refl _) hj;have hvn:=hN.lt j hj;have hvi:∀k,j<k->k<n->num k≠num j:=λk h1 h2 e=>by have:=hN.inj k j h2 hj e;omega
  have hvl:∀k,k<j->num k≠num j:=λk h1 e=>by have:=hN.inj k j (by omega) hj e;omega
  have hDP:DP [u8v x.1,a,b] [u8v y1,u8v y2,wv] n q j p (num j) gr r5 num g2 (ups V (0,2) (.hptr p 0 0 0)) (ups E (0,2) (.bx [u8v y1,u8v y2,wv])) D:=by
   refine ⟨⟨hH,⟨?_,λu hu=>?_,λu hu=>?_,λu r hu hr=>?_⟩,?_,?_,by rw[f2.2 0 (by omega),hD.h0],by rw[f2.2 1 (by omega),hD.h1]⟩,⟨aC _ _ _,aC _ _ _⟩,⟨hb.c,hb.p,hb.m,hb.o,λk h1 h2=>hb.f k (by omega) h2⟩,hfj.2,hok⟩
   ·rw[af _ _ (by simp),hD.bn.ns];exact congrArg (En.sl 3) (List.map_congr_left λu _=>by simp[gw,af])
   ·rw[af _ _ (by simp)];exact hD.bn.ps u hu
   ·rw[af _ _ (by simp)];have:=hD.bn.rs u hu;refine ⟨?_,this.2⟩;rw[this.1];exact congrArg (En.sl 1) (List.map_congr_left λr _=>by simp[Fo,af])
   ·rw[af _ _ (by simp),af _ _ (by simp)];exact hD.bn.rr u r hu hr
   ·rw[af _ _ (by simp)];exact hD.vb
   ·rw[af _ _ (by simp),af _ _ (by simp)];exact hD.bx
  have u1:j<(pl.map ci).length:=by rw[List.length_map,hN.len];exact hj
  have u2:(pl.map ci)[j]?=some (ci (num j:Int)):=by rw[List.getElem?_map,hN.at_ j hj];rfl
  simp only[sz,simprocAttr,jx,h5',h10,r5i,u1,u2,ci];refine NP (n:=n) (q:=q) (i:=j) (p:=p) (v:=num j) (r5:=r5) (num:=num) hn h5 hN hj rfl ⟨by simp[St,LDB,sx,h1,h2,h3,h4,h5',h10,h11],_,_,_,hDP,λy hy=>by rw[hfj.1] at hy;simp at hy⟩ (by simp[sx]) ?_;clear h1 h2 h3 h4 h5' h10 h11 hDP hH;rintro t g3 ⟨⟨h1,h2,h3,h4,h5',h10,h11,h12,-⟩,V3,E3,D3,hP3,-⟩;simp only[sz,simprocAttr,ko];refine NQ (n:=n) (q:=q) (i:=j) (p:=p) (v:=num j) (r5:=r5) (num:=num) (P0:=D3.P (num j)) (c0:=D3.c) hd hn hvn hvi hvl hgr hwv ⟨by simp[St,LDB,sx,h1,h2,h3,h4,h5',h10,h11,h12],V3,E3,D3,hP3.dn,hP3.pb,hP3.db,hP3.mv,rfl,rfl,hP3.ok⟩ (by simp[sx]) ?_;clear h1 h2 h3 h4 h5' h10 h11 h12 hP3;rintro t g4 M hMp ⟨⟨h1,h2,h3,h4,h5',h10,h11,h12,-⟩,V4,E4,D4,hQ4⟩;simp only[sx,sy,↓reduceIte];have hd4:=hQ4.dn;refine ⟨⟨by simp[St,LDA,h1,h2,h3,h4,h5'],V4,E4,D4,⟨hd4.hp.sub L3,hd4.bn,hd4.vb,hd4.bx,hd4.h0,hd4.h1⟩,⟨hQ4.db.c,hQ4.db.p,hQ4.db.m,hQ4.db.o,λk hk hkn=>hQ4.db.f k hk hkn⟩,⟨hQ4.ok.s,hQ4.ok.a,λk hk=>?_,hQ4.ok.r⟩⟩,h10⟩
  by_cases e:k=j
  ·rw[e,hQ4.mv,hQ4.pv,hQ4.cv,hMp]
  ·exact hQ4.ok.w k (by omega)
 ·rintro t df g ⟨rfl,h⟩;exact fin t g h
structure Drafted (m:Net):Prop where
 l:1<=m.nodes.length/\m.nodes.length<=5
 c:∀x∈m.nodes,x.card=2\/x.card=3
 b:∀x∈m.nodes,x.parents.length<=1000/\x.rows.length<=1000/\∀r∈x.rows,r.length<=1000
 nr:NR m
theorem Ic {l:List Int}{n:Int}(hs:l.Pairwise (·<·))(hb:∀y∈l,0<=y/\y<n):S.aw l n=true:=by
 simp only[S.aw,S.a9,List.all_eq_true,List.mem_range,Bool.and_eq_true,Bool.or_eq_true,decide_eq_true_eq,beq_iff_eq];intro i hi;obtain ⟨x,hx⟩:∃x,l[i]?=some x:=⟨_,List.getElem?_eq_getElem hi⟩;have:=hb x (List.mem_of_getElem? hx);rw[hx,Option.getD_some];refine ⟨this,?_⟩
 by_cases e:i=0
 ·exact .inl e
 ·right;obtain ⟨y,hy⟩:∃y,l[i - 1]?=some y:=⟨_,List.getElem?_eq_getElem (by omega)⟩;rw[hy,Option.getD_some];have h1:=(List.getElem?_eq_some_iff.1 hx).2;have h2:=(List.getElem?_eq_some_iff.1 hy).2;rw[<-h1,<-h2];exact List.pairwise_iff_getElem.1 hs (i - 1) i (by omega) hi (by omega)
def Kb (num:Nat->Nat):Nat->Nat
 | 0=>0
 | k+1=>Kb num k ||| S.aK (num k)
theorem B1 {n:Nat}{pl:List Int}{num:Nat->Nat}(hN:Num n pl num)(hn:n<=64)(v:Nat):∀k,k<=n->((Kb num k).testBit v=true↔∃k',k'<k/\num k'=v)
 | 0,_=>by simp[Kb]
 | k+1,hk=>by
  have hlt:=hN.lt k (by omega);rw[Kb,sH,xQ (by omega),Bool.or_eq_true,decide_eq_true_eq,B1 hN hn v k (by omega)];constructor
  ·rintro (⟨k',h1,h2⟩ | h)
   ·exact ⟨k',by omega,h2⟩
   ·exact ⟨k,by omega,h⟩
  ·rintro ⟨k',h1,h2⟩
   by_cases e:k'=k
   ·subst e;exact .inr h2
   ·exact .inl ⟨k',by omega,h2⟩
theorem OK {gr:Int}{D:ND}{n:Nat}{pl:List Int}{num:Nat->Nat}(hN:Num n pl num)(hn:1<=n/\n<=5)(hgr:1<=gr/\gr<=60)(hb:DBl D n n num)(hok:DOk gr D n n num):NR ⟨gr,(List.range n).map D.node⟩:=by
 have hcl:(S.aa ⟨gr,(List.range n).map D.node⟩)=(List.range n).map D.c:=by unfold S.aa;rw[List.map_map];rfl
 refine ⟨hgr.1,hgr.2,by simpa using hn.1,by simp;omega,λx hx=>?_,λx hx=>?_,?_,?_,λx hx=>?_,λx hx r hr=>?_⟩
 ·obtain ⟨u,hu,rfl⟩:=List.mem_map.1 hx;have:=hb.c u (List.mem_range.1 hu);show 1<=D.c u/\D.c u<=4;omega
 ·obtain ⟨u,hu,rfl⟩:=List.mem_map.1 hx;have hu:=List.mem_range.1 hu;refine Ic (hok.s u hu) λy hy=>?_;have:=(hb.p u hu).2 y hy;simpa using this
 ·rw[hcl];have h1:∀c∈(List.range n).map D.c,1<=c/\c<=4:=λc hc=>by obtain ⟨u,hu,rfl⟩:=List.mem_map.1 hc;have:=hb.c u (List.mem_range.1 hu);omega
  have h2:=bB h1;have h3:=cZ (a:=((List.range n).map D.c).length) (b:=5) (by simpa using hn.2);have h4:(4:Int) ^ 5=1024:=by decide
  omega
 ·have hpl:(S.aq ⟨gr,(List.range n).map D.node⟩).length=n:=by simp[S.aq]
  have hpar:∀v,v<n->Par (S.aq ⟨gr,(List.range n).map D.node⟩) v=S.ap (D.P v):=λv hv=>by simp[Par,S.aq,hv,ND.node]
  have hgood:∀k,k<=n->Hh (S.aq ⟨gr,(List.range n).map D.node⟩) (Kb num k):=λk=>by
   induction k with
   | zero=>exact λ_=>AN
   | succ k ih =>
    intro hk;have hlt:=hN.lt k (by omega);refine C8 (ih (by omega)) (by omega) λu hu=>?_;rw[hpar _ hlt] at hu;have hu:=(uO λx hx=>by have:=(hb.p _ hlt).2 x hx;omega).1 hu;obtain ⟨k',h1,h2⟩:=hok.a k (by omega) _ hu;exact (B1 hN (by omega) u k (by omega)).2 ⟨k',h1,by omega⟩
  refine um (hgood n (Nat.le_refl _)) λv hv=>?_;rw[hpl] at hv;exact (B1 hN (by omega) v n (Nat.le_refl _)).2 (hN.sur v hv)
 ·obtain ⟨u,hu,rfl⟩:=List.mem_map.1 hx;have hu:=List.mem_range.1 hu;obtain ⟨k,hk,rfl⟩:=hN.sur u hu;show (((List.range (D.m (num k))).map (D.R (num k))).length:Int)=S.af (S.ae _ (D.P (num k)));rw[GI hu (hb.p _ hu).2];have:=hok.w k hk;unfold S.be at this;rw[<-this];simp
 ·obtain ⟨u,hu,rfl⟩:=List.mem_map.1 hx;have hu:=List.mem_range.1 hu;obtain ⟨r',hr',rfl⟩:=List.mem_map.1 hr;exact hok.r u r' hu (List.mem_range.1 hr')
def ID:VS:=λP k h v=>∃m:Net,Drafted m/\Agg m P k h v
def V0 (W:AV)(q:Nat):Ky->AV:=λk=>match k with
 | (0,0)=>W
 | (0,1)=>.hptr q 0 0 0
 | _=>.nils
def E0 (W:AV)(n:Nat)(gr:Int):Ky->En:=λk=>match k with
 | (0,0)=>.sl 3 (List.replicate n [.int .i64 0,.nils,.nils])
 | (0,1)=>.bx [.int .i64 gr,W]
 | _=>.sl 1 []
def D0:ND:=⟨λ_=>0,λ_=>[],λ_=>0,λ_ _=>[],λ_=>0⟩
theorem hp0 {W:AV}{n q:Nat}{gr:Int}{g:G}(hW:Own g 2 W 3 (List.replicate n [.int .i64 0,.nils,.nils]))(hq:g.h.get q=.cells 2 [[.int .i64 gr,W]] 0 false false)(h2:2<=q/\q<g.nx)(hne:vid W≠some q):Hp g 2 (LNX X1 n D0) (V0 W q) (E0 W n gr):=by
 have hk:∀k,LNX X1 n D0 k->k=(0,0)\/k=(0,1)\/∃i s,k=(i+1,s):=λk h=>by
  rcases h with h | h
  ·rcases h with h | ⟨i,s,h,-⟩
   ·exact .inl h
   ·exact .inr (.inr ⟨i,s,h⟩)
  ·exact .inr (.inl h)
 refine ⟨λk h=>?_,λk l h h' hkl id h1 h3=>?_,by omega⟩
 ·rcases hk k h with rfl | rfl | ⟨i,s,rfl⟩
  ·exact hW
  ·exact ⟨q,h2.1,h2.2,rfl,hq⟩
  ·exact .inl ⟨rfl,rfl⟩
 ·rcases hk k h with rfl | rfl | ⟨i,s,rfl⟩<;>rcases hk l h' with rfl | rfl | ⟨i',s',rfl⟩
  ·exact hkl rfl
  ·have h1:eid W=some id:=h1;have h3:some q=some id:=h3;rw[dc hW] at h1;injection h3 with h3;subst h3;exact hne h1
  ·cases h3
  ·have h3:eid W=some id:=h3;have h1:some q=some id:=h1;rw[dc hW] at h3;injection h1 with h1;subst h1;exact hne h3
  ·exact hkl rfl
  ·cases h3
  ·cases h1
  ·cases h1
  ·cases h1
theorem LL {x:Int}{w:AV}(h:w.cells=[w])(h2:w.isTup=false):dV [.int .i64 0,.nils] [((0,1),.int .i64 x),((1,1),w)]=some [.int .i64 x,w]:=by
 have k1:(AV.int .i64 x).cells=[.int .i64 x]:=rfl;have k2:(AV.int .i64 x).isTup=false:=rfl;simp[dV,h,h2,fM,k1,k2]
 rfl
theorem LK {a b:AV}(ha:a.cells=[a]/\a.isTup=false)(hb:b.cells=[b]/\b.isTup=false):dV [.nils,.int .u16 0,.nils] [((0,1),a),((2,1),b)]=some [a,.int .u16 0,b]:=by
 simp[dV,ha,hb,fM]
 rfl
theorem LG {d k:Nat}{g:G}{P:Nat->Prop}{v:AV}{x:vo}(hd:0<d)(hm:Agg x P k g.h v):∃r,ap C0 d N.bu [v] g=.val r/\ID NoP 0 .nil r:=by
 obtain ⟨v',e,cs,rfl,hc⟩:=rh (dj x) (by decide) d hm;obtain ⟨a,b,rfl,ha,hb⟩:=A5.1 hc;have ha:=ha.tree (h':=.nil) (Nat.le_refl _);have hb:=hb.tree (h':=.nil) (Nat.le_refl _);rw[rm];refine aW tU (xs:=[.agg [u8v x.1,a,b]]) (by simp only[aH,e]) (by simp[jh]) (lF λm=>dj _) (by decide) hd ?_;simp only[sz,simprocAttr,jh];obtain ⟨g0,hg0⟩:∃g0,g0=(G.empty.new (.cells 3 [[u8v x.1,a,b]] 0 false false)).new (.cells 2 [[.int .i64 0,.nils]] 0 false false):=⟨_,rfl⟩;rw[<-hg0];have f0:g0.h.get 0=.cells 3 [[u8v x.1,a,b]] 0 false false:=by rw[hg0];simp[sx,H.get_put]
 have f1:g0.h.get 1=.cells 2 [[.int .i64 0,.nils]] 0 false false:=by rw[hg0];simp[sx]
 have f2:g0.nx=2:=by rw[hg0];simp[sx]
 clear hg0;have la:=ha.len;have hal:=ha.1;unfold ld;obtain ⟨n,hn,hnb⟩:∃n:Nat,n=min (max x.2.1.length 1) 5/\1<=n/\n<=5:=⟨_,rfl,by omega⟩;refine gx (P:=λt' df g'=>df=[]/\g'=g0/\St t' [(1,.hptr 0 0 0 0),(2,.hptr 1 0 0 0),(3,.int .i64 (n:Int))]) ?_ ?_
 ·simp only[sz,simprocAttr,f0,la];simp[St,sx];omega
 rintro t df g1 ⟨rfl,rfl,h1,h2,h3,-⟩;obtain ⟨gr,hgr,hgb⟩:∃gr:Int,gr=1+(x.1.toNat:Int) % 60/\0<=gr/\gr<=60:=⟨_,rfl,by omega,by omega⟩;have q1:=pJ .u8 (a:=(x.1.toNat:Int)) (b:=60) (by omega) (by omega);have w1:IntKind.wrap .i64 ((x.1.toNat:Int) % 60)=(x.1.toNat:Int) % 60:=aq (by omega) (by omega);have w2:IntKind.wrap .i64 (1+(x.1.toNat:Int) % 60)=gr:=by rw[hgr,aq (by omega) (by omega)]
 refine gx (P:=λt' df g'=>df=[]/\∃q V E D,St t' [(1,.hptr 0 0 0 0),(2,.hptr 1 0 0 0),(3,.int .i64 (n:Int)),(4,.hptr q 0 0 0)]/\DN X1 [u8v x.1,a,b] n q 1000 gr V E D g'/\(∀u,D.P u=[]/\D.m u=0/\D.o u=0)) ?_ ?_
 ·simp only[sz,simprocAttr,sf,h1,h3,f0,u8v,q1,w1,w2];refine mK (b:=2) (n:=n) (by unfold aP;omega) (by unfold aP;omega) (by first | (simp;done) | (simp;omega)) λW g2 hW n2 f2' vW lg2=>?_;simp only[sy] at n2 f2' vW lg2;simp only[sz,simprocAttr,sf,LL hW.cell.1 hW.cell.2,lg2];have n2':g1.nx+7=g2.nx:=by omega
  have k0:g2.h.get 0=.cells 3 [[u8v x.1,a,b]] 0 false false:=by rw[f2' 0 (by omega),f0]
  have k1:g2.h.get 1=.cells 2 [[.int .i64 0,.nils]] 0 false false:=by rw[f2' 1 (by omega),f1]
  refine ⟨?_,g2.nx+1+1,V0 W (g2.nx+1+1),E0 W n gr,D0,by simp[St,sx,h1,h2,h3],⟨hp0 ?_ ?_ ⟨by omega,by simp⟩ ?_,⟨?_,λu _=>⟨rfl,by show 0<=1000;omega⟩,λu _=>⟨rfl,by show 0<=1000;omega⟩,λu r _ hr=>by cases hr⟩,rfl,rfl,?_,?_⟩,λu=>⟨rfl,rfl,rfl⟩⟩
  ·simp only[List.reverse_cons,List.reverse_nil,List.nil_append,List.cons_append,G.new_lg,G.put_lg,setLog_lg];refine aV [false,false,false,false,false,false,true,false,true,true] [(0,6),(1,6),(2,6),(3,6),(4,6),(0,8),(1,8),(2,8),(3,8),(4,8),(5,8),(6,8),(7,8)] (by simp[All2,an,aD]) (by decide) ?_;rintro p hp' x y hx hy;simp only[List.mem_cons,List.not_mem_nil,or_false] at hp';rcases hp' with rfl | rfl | rfl | rfl | rfl | rfl | rfl | rfl | rfl | rfl | rfl | rfl | rfl<;>(simp at hx hy;subst hx;subst hy;refine eh rfl rfl rfl rfl ?_ ?_ ?_<;>simp[an,aD,ak]<;>omega)
  ·refine hW.fr (by simp;omega) λi hi=>?_;have:=eg vW hi;simp[H.get_put,show ¬i=g2.nx+1+1 by omega]
  ·simp[H.get_put]
  ·intro e;have:=eg vW e;omega
  ·show En.sl 3 (List.replicate n [.int .i64 0,.nils,.nils])=En.sl 3 ((List.range n).map λ_=>[.int .i64 0,.nils,.nils]);congr 1;rw[List.map_const',List.length_range]
  ·simp[H.get_put,k0];rfl
  ·simp[H.get_put,k1]
 clear h1 h2 h3;rintro t df g2 ⟨rfl,q,V,E,D,⟨h1,h2,h3,h4,-⟩,hD,hD0⟩;obtain ⟨num,hN⟩:=NS x.2.2 n;refine gx (P:=λt' df g'=>df=[]/\Fr g2 g'/\∃r5,IT 0 (S.aE x.2.2 n) r5/\St t' (LDA n q r5)) ?_ ?_
 ·simp only[sz,simprocAttr,sf,h3];refine mK (b:=2) (n:=n) (by unfold aP;omega) (by unfold aP;omega) (by have:=hD.hp.nx;first | (simp;done) | (simp;omega)) λU g3 hU n3 f3 vU lg3=>?_;simp only[sy] at n3 f3 vU lg3;have e0:g3.h.get 0=.cells 3 [[u8v x.1,a,b]] 0 false false:=by rw[f3 0 (by have:=hD.hp.nx;omega),hD.h0]
  simp only[sz,simprocAttr,sf,h1,e0,LK hU.cell hb.cell];have hU':Own g3 2 U 1 ((List.replicate n (0:UInt8)).map λy=>[u8v y]):=by simpa [u8v] using hU
  have hpm:∀g4:G,g4.h=g3.h->∃r,ap C0 (d+1) N.aE [.agg [U,.int .u16 0,b]] g4=.val r/\IT 0 (S.aE x.2.2 n) r:=λg4 h=>by
   have:=zk (d:=d+1) (g:=g4) (k:=max k d) (P:=λ_=>True) (x:=(List.replicate n (0:UInt8),(0:UInt16),x.2.2)) (v:=.agg [U,.int .u16 0,b]) (Nat.succ_pos d) ⟨_,rfl,sY.2 ⟨U,b,rfl,?_,?_⟩⟩
   ·have e:min (List.replicate n (0:UInt8)).length 5=n:=by simp;omega
    rw[e] at this;exact this
   ·rw[h];exact Own.sl (α:=UInt8) hU' (by simp;omega) (All2.of_map (λy=>gP.2 rfl) _) λ_ _=>trivial
   ·exact (hb.tree (h':=g4.h) (Nat.le_refl _)).wd λ_ h=>h.elim
  refine bH (hpm _ (by simp)) λr hr=>?_;simp only[sz,simprocAttr,sf,kY];refine ⟨?_,⟨?_,λi hi=>?_⟩,r,hr,?_⟩
  ·simp only[List.reverse_cons,List.reverse_nil,List.nil_append,List.cons_append];refine aV [false,true,false,false,false,false,false] [(1,2),(1,3)] (by simp[All2,an,aD]) (by decide) ?_;rintro p hp' x y hx hy;simp only[List.mem_cons,List.not_mem_nil,or_false] at hp';rcases hp' with rfl | rfl<;>(simp at hx hy;subst hx;subst hy;refine eh rfl rfl rfl rfl ?_ ?_ ?_<;>simp[an,aD,ak,lg3])
  ·simp;omega
  ·simp;exact f3 i (by omega)
  ·simp[St,LDA,sx,h1,h2,h3,h4]
 clear h1 h2 h3 h4;rintro t df g3 ⟨rfl,f3,r5,hr5,⟨h1,h2,h3,h4,h5,-⟩⟩;have hD3:=hD.same f3;simp only[sz,simprocAttr];refine NN (n:=n) (q:=q) (x:=x) (gr:=gr) (r5:=r5) (num:=num) hnb ha hr5 hN ⟨by simp[St,LDA,sx,h1,h2,h3,h4,h5],⟨1,by simp[sx],by decide⟩,V,E,D,hD3,λv _=>⟨(hD0 v).1,(hD0 v).2.1⟩,λk hk=>by omega,λu=>(hD0 u).2.2⟩ (by simp[sx]) ?_;clear h1 h2 h3 h4 h5 hD3;rintro t g4 ⟨⟨h1,h2,h3,h4,h5,-⟩,-,V4,E4,D4,hD4,hok⟩;simp only[sz,simprocAttr,jA];refine Ma (n:=n) (q:=q) (x:=x) (gr:=gr) (r5:=r5) (num:=num) (Nat.succ_pos d) hgb hnb ha hr5 hN ⟨by simp[St,LDA,sx,h1,h2,h3,h4,h5],V4,E4,D4,hD4,⟨λu hu=>?_,λu hu=>?_,λu hu=>?_,?_,λk _ hk=>hok.e _ (hN.lt k hk)⟩,⟨λu hu=>by rw[(hok.e u hu).1];exact .nil,λk hk y hy=>by rw[(hok.e _ (hN.lt k hk)).1] at hy;simp at hy,λk hk=>by omega,λu r hu hr=>by rw[(hok.e u hu).2] at hr;omega⟩⟩ (by simp[sx]) ?_
 ·obtain ⟨k,hk,rfl⟩:=hN.sur u hu;exact hok.c k hk
 ·rw[(hok.e u hu).1];simp
 ·rw[(hok.e u hu).2];omega
 ·exact hok.o
 clear h1 h2 h3 h4 h5;rintro t g5 ⟨⟨h1,h2,h3,h4,h5,-⟩,V5,E5,D5,hD5,hb5,hk5⟩;obtain ⟨kq,q2a,q2b⟩:=hD5.q rfl;simp only[sz,simprocAttr,jz,h4,kq,h2,hD5.h1];have hnodes:=hD5.bn.nodes hD5.hp (λk h=>.inl h) (by omega) (by omega);refine ⟨λ_=>True,⟨gr,(List.range n).map D5.node⟩,⟨by simpa using hnb,λy hy=>?_,λy hy=>?_,OK hN hnb (by omega) hb5 hk5⟩,⟨_,rfl,ib.2 ⟨_,rfl,hnodes.wd λi hi=>⟨trivial,by simp[H.get_put,show ¬i=1 by omega]⟩⟩⟩⟩
 ·obtain ⟨u,hu,rfl⟩:=List.mem_map.1 hy;exact hb5.c u (List.mem_range.1 hu)
 ·obtain ⟨u,hu,rfl⟩:=List.mem_map.1 hy;have hu:=List.mem_range.1 hu;refine ⟨(hD5.bn.ps u hu).2,?_,λr hr=>?_⟩
  ·show ((List.range (D5.m u)).map (D5.R u)).length<=1000;simpa using (hD5.bn.rs u hu).2
  ·obtain ⟨r',hr',rfl⟩:=List.mem_map.1 hr;exact (hD5.bn.rr u r' hu (List.mem_range.1 hr')).1
def EvV (n:Net):VS:=λP k h v=>∃l:List Int,S.aI n l=true/\One l P k h v
theorem N_ (n:Net):Snb (EvV n) 0:=by
 refine ⟨λ{P k h v n} d r hn=>?_,λ{k h v n} r hn=>?_⟩
 ·obtain ⟨m,hm,r⟩:=r;obtain ⟨v',e,r'⟩:=(aR m).snap d r hn;exact ⟨v',e,m,hm,r'⟩
 ·obtain ⟨m,hm,r⟩:=r;exact (aR m).tag r hn
def evP (n:Net)(l:List Int):Prop:=∀(i:Nat) (x:Int) (c:Node),l[i]?=some x->n.nodes[i]?=some c->-1<=x/\x<c.card
theorem LH {n:Net}{l:List Int}(hl:l.length=n.nodes.length)(h:evP n l):S.aI n l=true:=by simp only[S.aI,Bool.and_eq_true,decide_eq_true_eq,List.all_eq_true,List.mem_range];refine ⟨hl,λi hi=>?_⟩;obtain ⟨x,hx⟩:∃x,l[i]?=some x:=⟨_,List.getElem?_eq_getElem hi⟩;obtain ⟨c,hc⟩:∃c,n.nodes[i]?=some c:=⟨_,List.getElem?_eq_getElem (by omega)⟩;have:=h i x c hx hc;simpa [S.aa,hx,hc] using this
theorem JW {d k:Nat}{g:G}{P:Nat->Prop}{w:AV}{m:Net}{vs:List UInt8}(hd:0<d)(hv:vs.length=9)(hm:Agg m P k g.h w)(hn:m.nodes.length<=8)(hc:∀x∈m.nodes,0<x.card) :
  ∃r,ap C0 d N.bz [.agg (vs.map u8v),w] g=.val r/\EvV m NoP 0 .nil r:=by
 obtain ⟨v',e,cs,rfl,hcs⟩:=rh (dj m) (by decide) d hm;obtain ⟨b,rfl,hN⟩:=ib.1 hcs;obtain ⟨rows,r1,r2,r3,r4⟩:=hN.all;have r1:∀h',ah h' 3 b=some rows:=r1;rw[s_];refine aW uF (xs:=[.agg (vs.map u8v),.agg [.int .i64 m.grain,b]]) (by simp only[aH,e,KS]) (by simp[jP]) (N_ m) (by decide) hd ?_;obtain ⟨cu8,hcu⟩:∃c,c=vs.map u8v:=⟨_,rfl⟩;have hcl:cu8.length=9:=by rw[hcu,List.length_map,hv]
 simp only[sz,simprocAttr,jP,<-hcu];generalize hg0:((G.empty.new (AObj.cells cu8.length [cu8] 0 false false)).new (AObj.cells 2 [[AV.int IntKind.i64 m.grain,b]] 0 false false))=g0;have f0:g0.h.get 0=.cells 9 [cu8] 0 false false:=by rw[<-hg0,hcl];simp[sx,H.get_put]
 have f1:g0.h.get 1=.cells 2 [[.int .i64 m.grain,b]] 0 false false:=by rw[<-hg0];simp[sx]
 have f2:2<=g0.nx:=by rw[<-hg0];simp[sx]
 clear hg0;simp only[sz,simprocAttr,mj];refine gY m.nodes.length (by omega) (λj t df g=>df=[]/\St t [(2,.hptr 0 0 0 0),(3,.hptr 1 0 0 0)]/\g.h.get 0=.cells 9 [cu8] 0 false false/\g.h.get 1=.cells 2 [[.int .i64 m.grain,b]] 0 false false/\2<=g.nx/\∃u L,tat t 5=u/\L.length=j/\evP m L/\Own g 2 u 1 (L.map ci))
  ⟨rfl,by simp[sx,St],f0,f1,f2,_,[],rfl,rfl,λi x c hx=>by simp at hx,.inl ⟨by simp[sx],rfl⟩⟩ (by simp[sx]) (by decide) (by rintro j t df g v s (rfl | rfl | rfl)<;>simp[sx,St]) ?_ ?_ ?_
 ·rintro j t df g hj ⟨rfl,⟨h2,h3,-⟩,e0,e1,hnx,u,L,h5,hu⟩ h6;simp only[sz,simprocAttr,h2,h3,h6,e0,e1,hN.len,St];exact ⟨hnx,u,L,h5,hu⟩
 ·rintro j t df g hj ⟨rfl,⟨h2,h3,-⟩,e0,e1,hnx,u,L,h5,hLl,hLp,hu⟩ h6;obtain ⟨x,hx,htk,hm⟩:=ae hj;obtain ⟨row,z1,z2⟩:=r3 j x hx;obtain ⟨fa,fb,rfl,-⟩:=cp.1 z2;have hlt:j<rows.length:=by omega
  have hry:=r4 (by omega);have hj8:j<8:=by omega
  obtain ⟨y0,hy0⟩:∃y,vs[0]?=some y:=⟨_,List.getElem?_eq_getElem (by omega)⟩;have hc0:cu8[0]?=some (.int .u8 (y0.toNat:Int)):=by rw[hcu,List.getElem?_map,hy0];rfl
  obtain ⟨y,hy⟩:∃y,vs[1+j]?=some y:=⟨_,List.getElem?_eq_getElem (by omega)⟩;have hcy:cu8[1+j]?=some (.int .u8 (y.toNat:Int)):=by rw[hcu,List.getElem?_map,hy];rfl
  have hy8:y.toNat<256:=y.toNat_lt;have hcx:=hc x hm;obtain ⟨z,hz⟩:=vA y0.toNat j;obtain ⟨z',hz'⟩:=vz z 1;have hz':cE .and (.int .u8 (z:Int)) (.int .u8 1)=.val (.int .u8 z'):=hz';have w8:IntKind.wrap .i64 (y.toNat:Int)=(y.toNat:Int):=aq (by omega) (by omega);have w9:IntKind.wrap .u64 (j:Int)=(j:Int):=vg (by omega) (by omega);have key:∀(t:T) (X:Int),-1<=X->X<x.card->St t [(2,.hptr 0 0 0 0),(3,.hptr 1 0 0 0),(5,u),(6,.int .i64 (j:Int)),(7,.int .i64 X)] ->
    wp C0 (d+1) none gt (λe t df g=>e=.norm/\(df=[]/\St t [(2,.hptr 0 0 0 0),(3,.hptr 1 0 0 0)]/\g.h.get 0=.cells 9 [cu8] 0 false false/\g.h.get 1=.cells 2 [[.int .i64 m.grain,b]] 0 false false/\2<=g.nx/\∃u L,tat t 5=u/\L.length=j+1/\evP m L/\Own g 2 u 1 (L.map ci))/\tat t 6=.int .i64 (j:Int)) t [] g:=by
   rintro t X hX1 hX2 ⟨h2,h3,h5,h6,h7,-⟩;simp only[sz,simprocAttr,gt,h5,h7];refine br (new:=[ci X]) (hu.step (Fr.new _ _)) (by simp[sx,sy,ci]) (by simp;omega) (by simp[aP,hLl];omega) λv2 g2 hv2 n2 f2 _ l2=>?_;simp only[sz,simprocAttr,h2,h3,h6,St];refine ⟨?_,?_,?_,_,L++[X],rfl,by simp[hLl],?_,?_⟩
   ·rw[f2 0 (by simp) (λe=>by have:=(hu.lt e).1;omega),G.new_h,aw _ _ _ (by omega),e0]
   ·rw[f2 1 (by simp;omega) (λe=>by have:=(hu.lt e).1;omega),G.new_h,aw _ _ _ (by omega),e1]
   ·simp at n2;omega
   ·intro i a c ha hc'
    by_cases e:i=j
    ·subst e;rw[hx] at hc';injection hc' with hc';subst hc';rw[<-hLl,List.getElem?_concat_length] at ha;injection ha with ha;subst ha;exact ⟨hX1,hX2⟩
    ·have hil:i<L.length:=by have:=(List.getElem?_eq_some_iff.1 ha).1;simp at this;omega
     rw[List.getElem?_append_left hil] at ha;exact hLp i a c ha hc'
   ·simpa [ci] using hv2
  simp only[sz,simprocAttr,h2,h6,e0,hc0,w9,hz,hz'];refine fS (λhb=>?_) (λhb=>?_)
  ·have hm0:0<=(y.toNat:Int) % x.card:=Int.emod_nonneg _ (by omega);have hm1:(y.toNat:Int) % x.card<x.card:=Int.emod_lt_of_pos _ (by omega);simp only[sz,simprocAttr,h2,h3,h6,e0,e1,OC 8 1 _ _ _ _ _ hj8,Nat.mul_one,hcy,w8,r1,hlt,z1,hry,pJ .i64 (show 0<=(y.toNat:Int) by omega) hcx];refine bL _ (key _ ((y.toNat:Int) % x.card) (by omega) hm1 (by simp[St,sx,h2,h3,h5,h6])) ?_;rintro e t df g ⟨rfl,h⟩;exact h
  ·simp only[sx];refine bL _ (key _ (-1) (by omega) (by omega) (by simp[St,sx,h2,h3,h5,h6])) ?_;rintro e t df g ⟨rfl,h⟩;exact h
 ·rintro t df g ⟨rfl,⟨h2,h3,-⟩,e0,e1,hnx,u,L,h5,hLl,hLp,hu⟩;simp only[sz,simprocAttr,lf,h5];exact ⟨_,L,LH hLl hLp,hu.ints (by omega)⟩
def Or (V:Ky->AV)(i:Nat)(c:Int):List AV:=[.int .i64 c,V (i+1,0),V (i+1,1)]
structure NdOk (K:Nat) (V:Ky->AV) (E:Ky->En) (i:Nat) (x:Node):Prop where
 ps:E (i+1,0)=.sl 1 (x.parents.map ci)
 rs:∃rws,E (i+1,1)=.sl 1 rws/\rws.length=x.rows.length/\∀(r:Nat) (y:List Int),x.rows[r]?=some y->rws[r]?=some [V (i+1,2+r)]
 rr:∀(r:Nat) (y:List Int),x.rows[r]?=some y->E (i+1,2+r)=.sl 1 (y.map ci)
 len:x.parents.length<=K/\x.rows.length<=K/\∀y∈x.rows,y.length<=K
def LS (L:List Node):Ky->Prop:=λk=>k=(0,0)\/∃i q x,k=(i+1,q)/\L[i]?=some x/\q<2+x.rows.length
structure BLs (K:Nat) (V:Ky->AV) (E:Ky->En) (L:List Node):Prop where
 ns:∃rows,E (0,0)=.sl 3 rows/\rows.length=L.length/\∀(i:Nat) (x:Node),L[i]?=some x->rows[i]?=some (Or V i x.card)
 nd:∀(i:Nat) (x:Node),L[i]?=some x->NdOk K V E i x
def BBn (g:G)(brow:List AV)(gr:Int)(b:AV):Prop:=g.h.get 0=.cells 4 [brow] 0 false false/\g.h.get 1=.cells 2 [[.int .i64 gr,b]] 0 false false/\g.h.get 2=.cells 2 [[.int .i64 0,.nils]] 0 false false
def LX (L:List Node)(x:Node):Ky->Prop:=λk=>LS L k\/k=(0,1)\/∃q,k=(L.length+1,q)/\q<2+x.rows.length
structure NB (K p:Nat) (L:List Node) (x:Node) (g:G) (brow:List AV) (gr:Int) (b W:AV) (V:Ky->AV) (E:Ky->En):Prop where
 hp:Hp g 3 (LX L x) V E
 bb:BBn g brow gr b
 vb:V (0,1)=.hptr p 0 0 0
 bx:E (0,1)=.bx (Or V L.length x.card)
 nd:NdOk K V E L.length x
 bl:BLs K V E L
 vw:V (0,0)=W
structure Oth (K:Nat) (L:List Node) (J:Nat) (V:Ky->AV) (E:Ky->En) (rows:List (List AV)):Prop where
 len:rows.length=L.length
 ns:∀(i:Nat) (y:Node),i≠J->L[i]?=some y->rows[i]?=some (Or V i y.card)
 nd:∀(i:Nat) (y:Node),i≠J->L[i]?=some y->NdOk K V E i y
structure BS (K J:Nat) (L:List Node) (x:Node) (bx:FK) (gr Rw:Int) (t:T) (g:G) (V:Ky->AV) (E:Ky->En):Prop where
 st:St t [(2,.hptr 0 0 0 0),(3,.hptr 1 0 0 0),(4,.hptr 2 0 0 0),(10,mP 3 (V (0,0)) J 0),(11,.int .i64 Rw)]
 hp:Hp g 3 (LS L) V E
 f0:g.h.get 0=.cells 4 [[u8v bx.1,u8v bx.2.1,u8v bx.2.2.1,.int .i64 bx.2.2.2]] 0 false false
 f1:g.h.get 1=.cells 2 [[.int .i64 gr,V (0,0)]] 0 false false
 f2:g.h.get 2=.cells 2 [[.int .i64 0,.nils]] 0 false false
 bl:BLs K V E L
 hx:L[J]?=some x
 hR:(Rw = -1/\x.rows.length=0)\/∃r:Nat,Rw=(r:Int)/\r<x.rows.length
 hK:K<=1000000
 hl:L.length<=K
structure BT (K J:Nat) (L:List Node) (x:Node) (g:G) (V:Ky->AV) (E:Ky->En) (rows:List (List AV)):Prop where
 own:Own g 3 (V (0,0)) 3 rows
 e0:E (0,0)=.sl 3 rows
 ry:ug (V (0,0))=true
 hlt:J<rows.length
 row:rows[J]?=some [.int .i64 x.card,V (J+1,0),V (J+1,1)]
 oth:Oth K L J V E rows
 nd:NdOk K V E J x
section
variable {d K J:Nat}{L:List Node}{x:Node}{bx:FK}{gr Rw:Int}{t:T}{g:G}{V:Ky->AV}{E:Ky->En}{Q:QT}
end
end
end Hx
end
section
namespace Hx
open Go
noncomputable section
abbrev Sch:=Net×List Int×List Int×List Int×Int
theorem KC {P:Nat->Prop}{k:Nat}{h:H}{n:Net}{v o w:List Int}{m:Int}{cs:List AV}:Rp.rp P k h ((n,v,o,w,m):Sch) cs↔∃a b c d,cs=[.int .i64 n.grain,a,b,c,d,.int .i64 m]/\SlR P k h n.nodes a/\SlR P k h v b/\SlR P k h o c/\SlR P k h w d:=by
 constructor
 ·rintro ⟨c1,c2,rfl,h1,c3,c4,rfl,h2,c5,c6,rfl,h3,c7,c8,rfl,h4,h5⟩;obtain ⟨a,rfl,ha⟩:=ib.1 h1;obtain ⟨b,rfl,hb⟩:=eR.1 h2;obtain ⟨c,rfl,hc⟩:=eR.1 h3;obtain ⟨d,rfl,hd⟩:=eR.1 h4;rw[aF.1 h5];exact ⟨a,b,c,d,rfl,ha,hb,hc,hd⟩
 ·rintro ⟨a,b,c,d,rfl,ha,hb,hc,hd⟩;exact ⟨[.int .i64 n.grain,a],[b,c,d,.int .i64 m],rfl,ib.2 ⟨a,rfl,ha⟩,[b],[c,d,.int .i64 m],rfl,eR.2 ⟨b,rfl,hb⟩,[c],[d,.int .i64 m],rfl,eR.2 ⟨c,rfl,hc⟩,[d],[.int .i64 m],rfl,eR.2 ⟨d,rfl,hd⟩,aF.2 rfl⟩
def S.bG (vars:List Int)(j:Nat):List Int:=((List.range j).map λv:Nat=>(v:Int)).filter λv=>!decide (v∈vars)
def S.bF (n:Net)(vars:List Int):List Int:=S.bG vars n.nodes.length
theorem AY (vars:List Int)(j:Nat):S.bG vars (j+1)=S.bG vars j++if (j:Int)∈vars then [] else [(j:Int)]:=by
 unfold S.bG;rw[List.range_succ,List.map_append,List.filter_append];congr 1
 by_cases h:(j:Int)∈vars<;>simp[h]
theorem zf (vars:List Int)(j:Nat):(S.bG vars j).length<=j:=by unfold S.bG;exact Nat.le_trans (List.length_filter_le _ _) (by simp)
def S.bM (n:Net)(e:List Int)(j w:Nat):Int:=if w<j/\S.pe n e w=false then 0 else S.wt n w
def S.aG (n:Net)(e:List Int)(j:Nat):List Int:=(List.range (S.am n)).map (S.bM n e j)
def S.bc (n:Net)(e:List Int):List Int:=S.aG n e (S.am n)
theorem J5 (n:Net)(e:List Int):S.aG n e 0=S.aC n (S.am n):=by unfold S.aG S.aC;exact List.map_congr_left λw _=>by simp[S.bM]
theorem qh (n:Net)(e:List Int)(j:Nat):(S.aG n e j).length=S.am n:=by simp[S.aG]
theorem L8 (n:Net)(e:List Int)(j:Nat)(h:j<S.am n):(S.aG n e j)[j]?=some (S.wt n j):=by simp[S.aG,S.bM,h]
theorem Dn {n:Net}{e:List Int}{j:Nat}(h:j<S.am n):S.aG n e (j+1)=if S.pe n e j then S.aG n e j else (S.aG n e j).set j 0:=by
 apply List.ext_getElem?;intro i
 by_cases hi:i<S.am n
 ·by_cases c:S.pe n e j=true
  ·rw[if_pos c];simp only[S.aG,List.getElem?_map,List.getElem?_range hi,Option.map_some,S.bM];congr 1
   by_cases e1:i=j
   ·subst e1;simp[c]
   ·have:(i<j+1)↔(i<j):=by omega
    simp[this]
  ·rw[if_neg c,List.getElem?_set]
   by_cases e1:j=i
   ·subst e1;rw[if_pos rfl,if_pos (by rw[qh];exact hi)];simp[S.aG,S.bM,hi,c]
   ·rw[if_neg e1];simp only[S.aG,List.getElem?_map,List.getElem?_range hi,Option.map_some,S.bM];congr 1;have:(i<j+1)↔(i<j):=by omega
    simp[this]
 ·have a:∀k,(S.aG n e k)[i]?=none:=λk=>List.getElem?_eq_none (by rw[qh];omega);rw[a]
  split
  ·rw[a]
  ·rw[List.getElem?_eq_none];rw[List.length_set,qh];omega
def S.cq (n:Net)(e vars:List Int):Sch:=(n,vars,S.bF n vars,S.bc n e,S.aT n e)
def S.aR (n:Net)(e vars:List Int):Int:=if S.ay n e=0 then (if S.aw vars (n.nodes.length:Int) then 0 else 2) else S.ay n e
def Ov:VS:=λ_ _ _ v=>v=.nilp
theorem KT:Snb Ov 0:=⟨λ{P k h v n} d r hn=>⟨.nilp,by
  subst r;obtain ⟨n,rfl⟩:∃q,n=q+1:=⟨n - 1,by omega⟩
  rfl,rfl⟩,λ{k h v n} r hn=>⟨0,by
  subst r;obtain ⟨n,rfl⟩:∃q,n=q+1:=⟨n - 1,by omega⟩
  rfl,Nat.zero_le _⟩⟩
theorem MB {α:Type} [Rp α](x:α)(sz:Nat)(hd:Rp.dp α<=20:=by decide):Snb (Bj x sz) 1 :=
 ⟨λ{P k h v n} d r hn=>by
  obtain ⟨n,rfl⟩:∃q,n=q+1:=⟨n - 1,by omega⟩;exact uW d r (by omega) hd,λ{k h v n} r hn=>by
  obtain ⟨n,rfl⟩:∃q,n=q+1:=⟨n - 1,by omega⟩;exact xC r⟩
def NsV (n:Net)(e vars:List Int):VS:=if S.aR n e vars=0 then tG (Bj (S.cq n e vars) 6) (One (0:Int)) else tG Ov (One (S.aR n e vars))
theorem Ob (n:Net)(e vars:List Int):Snb (NsV n e vars) 2:=by
 unfold NsV
 split
 ·exact dk (MB _ _) (aR _) (by decide) (by decide)
 ·exact dk KT (aR _) (by decide) (by decide)
theorem uR (id ep i off:Nat):Do (.hptr id ep i off)=.val (.hptr id ep i off):=rfl
def LNs (gr:Int)(vw:AV):List (Nat×AV):=[(2,vw),(3,.hptr 0 0 0 0),(4,.hptr 1 0 0 0),(9,.hptr 3 0 0 0)]
structure NsH (gr:Int) (b ev vw u wv:AV) (m:Int) (g:G):Prop where
 h0:g.h.get 0=.cells 2 [[.int .i64 gr,b]] 0 false false
 h1:g.h.get 1=.cells 1 [[ev]] 0 false false
 h2:g.h.get 2=.cells 6 [[.int .i64 gr,b,vw,u,wv,.int .i64 m]] 0 false false
 h3:g.h.get 3=.cells 1 [[.hptr 2 0 0 0]] 0 false false
 nx:4<=g.nx
theorem OM {d k:Nat}{gr:Int}{b ev vw:AV}{vars:List Int}{m:Nat}{Q:QT}{t:T}{g:G}(hd:0<d)(hm:m<=8)(hv:∀h,SlR NoP k h vars vw)
  (hh:NsH gr b ev vw .nils .nils 0 g) (ht:St t (LNs gr vw)) (h49:tat t 49=.int .i64 0) (h48:tat t 48=.int .i64 (m:Int))
  (fin:∀t g u,St t (LNs gr vw)->NsH gr b ev vw u .nils 0 g->Own g 4 u 1 ((S.bG vars m).map ci)->Q (.exit 2) t [] g):wpL (wp C0 d none dY) Q t [] g:=by
 simp only[dY];refine aK (m:=m) (by omega) (λj t df g=>df=[]/\St t (LNs gr vw)/\∃u,NsH gr b ev vw u .nils 0 g/\Own g 4 u 1 ((S.bG vars j).map ci)) ⟨rfl,ht,.nils,hh,.inl ⟨rfl,rfl⟩⟩ h49 h48 (by decide)
  (by rintro j t df g v s (rfl | rfl | rfl) ⟨a1,⟨b1,b2,b3,b4,-⟩,c1⟩<;>exact ⟨a1,by simp[St,LNs,sx,b1,b2,b3,b4],c1⟩) ?_ ?_
 ·rintro j t df g hj ⟨rfl,⟨h2,h3,h4,h9,-⟩,u,⟨g0,g1,g2,g3,g4⟩,ho⟩ h49 h48;have kc:=λg:G=>Ci (d:=d) (g:=g) (x:=(j:Int)) hd (hv g.h);have hl:=zf vars j
  by_cases c:(j:Int)∈vars
  ·simp only[sz,simprocAttr,h2,h49,kc,c];refine ⟨⟨by simp[St,LNs,sx,h2,h3,h4,h9],u,⟨g0,g1,g2,g3,g4⟩,?_⟩,h48⟩;rw[AY,if_pos c,List.append_nil];exact ho
  ·simp only[sz,simprocAttr,h2,h49,kc,c,sf,h9,g3,g2,uR];refine wC (ho.fr (g':=_) (by simp<;>omega) (λi hi=>?_)) (new:=[[.int .i64 (j:Int)]]) ?_ (by simp<;>omega) (by simp[aP]<;>omega) λv5 g5 o5 n5 f5 w5 l5=>?_
   ·have:=ho.lt hi;simp[H.get_put];omega
   ·simp[ah,H.get_put];rfl
   have lu:=λi (h:vid u=some i)=>ho.lt h;simp only[sx,sy] at n5 f5 l5;have n5':g.nx<g5.nx:=by omega
   have f6:∀i,i<4->g5.h.get i=g.h.get i:=λi hi=>by rw[f5 i (by omega) λh=>by have:=lu i h;omega];simp;omega
   obtain ⟨vc,vt⟩:=o5.cell;simp only[sz,simprocAttr,sf,f6 3 (by omega),g3,f6 2 (by omega),g2,uR,vc,vt];refine ⟨?_,?_⟩
   ·simp only[List.reverse_cons,List.reverse_nil,List.nil_append,List.cons_append];refine aV [false,false,false,false,false,false,true,true,false,false,true] [(0,6),(1,6),(2,6),(3,6),(4,6),(0,7)] (by simp[All2,an,aD]) (by decide) ?_;rintro p hp x y hx hy;simp only[List.mem_cons,List.not_mem_nil,or_false] at hp;rcases hp with rfl | rfl | rfl | rfl | rfl | rfl<;>(simp at hx hy;subst hx;subst hy;refine eh rfl rfl rfl rfl ?_ ?_ ?_<;>simp[an,aD,kA]<;>first | omega | (intro i' hi';rcases l5 i' hi' with h | h | h<;>first | omega | (have:=lu i' h;omega) | simp at h) | skip)
   refine ⟨⟨by simp[St,LNs,sx,h2,h3,h4,h9],v5,⟨by simp[sy,f6 0 (by omega),g0],by simp[sy,f6 1 (by omega),g1],by simp[sy],by simp[sy,f6 3 (by omega),g3],by simp[sy]<;>omega⟩,?_⟩,by simp[sx,h49],by simp[sx,h48]⟩;rw[AY,if_neg c,List.map_append];exact o5.fr (by simp[sy]<;>omega) λi hi=>by have:=o5.lt hi;simp[sy];omega
 ·rintro t df g ⟨rfl,ht,u,hh,ho⟩;exact fin t g u ht hh ho
theorem OL {d k:Nat}{gr:Int}{b ev vw:AV}{n:Net}{vars:List Int}{Q:QT}{t:T}{g:G}(hr:NR n)(hv:∀h,SlR NoP k h vars vw)(hN:∀h,SlR NoP 0 h n.nodes b)(h0:g.h.get 0=.cells 2 [[.int .i64 gr,b]] 0 false false)
  (ht:St t ((28,vw)::LNs gr vw)) (h10:tat t 10=.int .i64 (-1)) (h30:tat t 30=.int .i64 0) (h29:tat t 29=.int .i64 (vars.length:Int))
  (bad:∀t,S.aw vars (n.nodes.length:Int)=false->tat t 6=.nilp->tat t 7=.int .i64 2->Q .ret t [] g)
  (fin:∀t,S.aw vars (n.nodes.length:Int)=true->St t (LNs gr vw)->Q (.exit 0) t [] g):wpL (wp C0 d none cF) Q t [] g:=by
 have rv:=λh=>(hv h).ints;have lN:∀g:G,dv .slice b g=.val (.int .i64 (n.nodes.length:Int)):=λg=>(hN .nil).len g;have hl8:=hr.l2;simp only[cF];refine aK (m:=vars.length) (hv .nil).1 (λj t df g'=>df=[]/\g'=g/\St t ((28,vw)::LNs gr vw)/\tat t 10=.int .i64 (if j=0 then -1 else vars[j - 1]?.getD 0)/\(List.range j).all (S.a9 vars (n.nodes.length:Int))=true) ⟨rfl,rfl,ht,by simpa using h10,by simp⟩ h30 h29 (by decide)
  (by rintro j t df g v s (rfl | rfl | rfl) ⟨a1,a2,⟨b0,b1,b2,b3,b4,-⟩,c1,c2⟩<;>exact ⟨a1,a2,by simp[St,LNs,sx,b0,b1,b2,b3,b4],by simp[sx,c1],c2⟩) ?_ ?_
 ·rintro j t df g' hj ⟨rfl,rfl,⟨h28,h2,h3,h4,h9,-⟩,h10,hall⟩ h30 h29;obtain ⟨x,hx,-,hm⟩:=ae hj;have z1:j<(vars.map ci).length:=by simpa using hj
  have z2:(vars.map ci)[j]?=some (ci x):=by rw[List.getElem?_map,hx];rfl
  have hgx:vars[j]?.getD 0=x:=by rw[hx];rfl
  obtain ⟨bf,hbf⟩:∃bf,bf=(if j=0 then (-1:Int) else vars[j - 1]?.getD 0):=⟨_,rfl⟩;rw[<-hbf] at h10;have hbf1:-1<=bf:=by
   rw[hbf];split
   ·omega
   ·have:=List.all_eq_true.1 hall (j - 1) (List.mem_range.2 (by omega));simp only[S.a9,Bool.and_eq_true,decide_eq_true_eq] at this;omega
  have key:S.a9 vars (n.nodes.length:Int) j=true↔bf<x/\x<(n.nodes.length:Int):=by
   simp only[S.a9,Bool.and_eq_true,decide_eq_true_eq,hgx,Bool.or_eq_true,beq_iff_eq];rw[hbf]
   by_cases c:j=0
   ·simp only[c,if_true,true_or,and_true];omega
   ·rw[if_neg c] at hbf ⊢;rw[<-hbf];constructor
    ·rintro ⟨⟨a1,a2⟩,a3 | a3⟩
     ·exact absurd a3 c
     ·exact ⟨a3,a2⟩
    ·rintro ⟨a1,a2⟩;have:=List.all_eq_true.1 hall (j - 1) (List.mem_range.2 (by omega));simp only[S.a9,Bool.and_eq_true,decide_eq_true_eq,<-hbf] at this;exact ⟨⟨by omega,a2⟩,.inr a1⟩
  have fl:¬(bf<x/\x<(n.nodes.length:Int))->S.aw vars (n.nodes.length:Int)=false:=λhn=>by rw[Bool.eq_false_iff];intro h;exact hn (key.1 (List.all_eq_true.1 h j (List.mem_range.2 hj)))
  by_cases c1:x<=bf
  ·simp only[sz,simprocAttr,h28,h30,rv,z1,z2,ci,h10,c1];exact bad _ (fl (by omega)) (by simp[sx]) (by simp[sx])
  by_cases c2:(n.nodes.length:Int)<=x
  ·simp only[sz,simprocAttr,h28,h30,rv,z1,z2,ci,h10,c1,h3,h0,lN,c2];exact bad _ (fl (by omega)) (by simp[sx]) (by simp[sx])
  ·simp only[sz,simprocAttr,h28,h30,rv,z1,z2,ci,h10,c1,h3,h0,lN,c2];refine ⟨⟨by simp[St,LNs,sx,h28,h2,h3,h4,h9],?_,?_⟩,h29⟩
   ·simp[hx]
   ·rw[eW,hall,key.2 ⟨by omega,by omega⟩];rfl
 ·rintro t df g' ⟨rfl,rfl,⟨-,ht⟩,-,hall⟩;exact fin t hall ht
theorem ON {d j ke:Nat}{gr m:Int}{b ev vw u wv uu:AV}{e vals:List Int}{mw:List Int}{P:Nat->Prop}{rd:Option Nat}{Q:QT}{t:T}{g:G}(hl:e.length=vals.length)(he:∀h,SlR NoP ke h e ev)(hu:SlR P 0 g.h vals uu)
  (hh:NsH gr b ev vw u wv m g) (ho:Own g 4 wv 1 (mw.map ci)) (hj:j<mw.length)
  (ht:St t ((14,.int .i64 (j:Int))::(15,uu)::(78,ev)::LNs gr vw)) (h80:tat t 80=.int .i64 0) (h79:tat t 79=.int .i64 (e.length:Int))
  (fin:∀t,S.bL vals e=true->St t ((14,.int .i64 (j:Int))::LNs gr vw)->Q (.exit 6) t [] g)
  (bad:∀t g',S.bL vals e=false->St t (LNs gr vw)->Own g' 4 wv 1 ((mw.set j 0).map ci)->g'.nx=g.nx->(∀i,vid wv≠some i->g'.h.get i=g.h.get i)->Q (.exit 5) t [] g'):wpL (wp C0 d rd dZ) Q t [] g:=by
 have re:=λh=>(he h).ints;have ru:=hu.ints;obtain ⟨g0,g1,g2,g3,g4⟩:=hh;simp only[dZ];refine aK (m:=e.length) (he .nil).1 (λi t df g'=>df=[]/\g'=g/\St t ((14,.int .i64 (j:Int))::(15,uu)::(78,ev)::LNs gr vw)/\(List.range i).all (S.bS vals e)=true) ⟨rfl,rfl,ht,by simp⟩ h80 h79 (by decide)
  (by rintro j t df g v s (rfl | rfl | rfl) ⟨a1,a2,⟨c1,c2,c3,b1,b2,b3,b4,-⟩,c⟩<;>exact ⟨a1,a2,by simp[St,LNs,sx,c1,c2,c3,b1,b2,b3,b4],c⟩) ?_ ?_
 ·rintro i t df g' hi ⟨rfl,rfl,⟨h14,h15,h78,h2,h3,h4,h9,-⟩,hall⟩ h80 h79;obtain ⟨x,hx,-,hm⟩:=ae hi;obtain ⟨y,hy,-,-⟩:=ae (l:=vals) (j:=i) (by omega);have z1:i<(e.map ci).length:=by simpa using hi
  have z2:(e.map ci)[i]?=some (ci x):=by rw[List.getElem?_map,hx];rfl
  have y1:i<(vals.map ci).length:=by rw[List.length_map];omega
  have y2:(vals.map ci)[i]?=some (ci y):=by rw[List.getElem?_map,hy];rfl
  have key:S.bS vals e i=true↔x<0\/x=y:=by simp only[S.bS,hx,hy,Option.getD_some,Bool.or_eq_true,decide_eq_true_eq]
  by_cases c1:(0:Int)<=x
  ·by_cases c2:x=y
   ·simp only[sz,simprocAttr,h78,h80,re,z1,z2,ci,c1,h15,ru,y1,y2,c2];have c1':(0:Int)<=y:=by omega
    simp only[sz,simprocAttr,c1',h15,ru,y1,y2,ci];refine ⟨⟨by simp[St,LNs,sx,h14,h15,h78,h2,h3,h4,h9],?_⟩,by simp[sx,h80],by simp[sx,h79]⟩;rw[eW,hall,key.2 (.inr c2)];rfl
   ·have q1:j<(mw.map ci).length:=by rw[List.length_map];exact hj
    obtain ⟨z,hz,-,-⟩:=ae hj;have q2:(mw.map ci)[j]?=some (ci z):=by rw[List.getElem?_map,hz];rfl
    simp only[sz,simprocAttr,h78,h80,re,z1,z2,ci,c1,h15,ru,y1,y2,c2,h9,g3,g2,uR,h14,ho.rows,q1];refine qq (v:=wv) (sz:=1) (n:=1) (i:=j) (off:=0) (x:=.int .i64 0) (row:=ci z) (row':=ci 0) ho q2 rfl rfl rfl λg5 o5 n5 f5 u5=>?_;rw[<-List.map_set] at o5;simp only[sz,simprocAttr];refine bad _ g5 ?_ (by simp[St,LNs,sx,h2,h3,h4,h9]) o5 n5 f5;rw[Bool.eq_false_iff];intro h;rcases key.1 (List.all_eq_true.1 h i (List.mem_range.2 hi)) with h | h
    ·omega
    ·exact c2 h
  ·simp only[sz,simprocAttr,h78,h80,re,z1,z2,ci,c1];refine ⟨⟨by simp[St,LNs,sx,h14,h15,h78,h2,h3,h4,h9],?_⟩,h79⟩;rw[eW,hall,key.2 (.inl (by omega))];rfl
 ·rintro t df g' ⟨rfl,rfl,⟨h14,-,-,ht⟩,hall⟩;exact fin t hall ⟨h14,ht⟩
theorem KL {C:Cfg}{d:Nat}{rd:Option Nat}{a b:SC}{Q:QT}{t:T}{df:List ADf}{g:G}{P:PT}(h1:wp C d rd a (λe t df g=>e=.norm/\P t df g) t df g)(h2:∀t df g,P t df g->wp C d rd b Q t df g):wp C d rd (.seq a b) Q t df g:=by rw[cj];refine bL _ h1 ?_;rintro e t df g ⟨rfl,h⟩;exact h2 t df g h
theorem Eo {x y:Foot}(hx:x.wr=[])(hb:x.lk.big=false)(hs:x.lk.sr=[])(h3:∀i∈y.wr,∀j∈x.lk.rd,i≠j):bz x y=true:=by
 have m3:=mJ h3;have m5:∀l:List Nat,meets l []=false:=λl=>by simp[meets]
 simp only[bz,gK,eF,hx,hb,hs,m3,m5,fst1,List.map_nil,Bool.not_false,Bool.and_self,Bool.true_or]
 split<;>rfl
structure NsJ (gr:Int) (b ev vw u wv:AV) (n:Net) (e:List Int) (g0:G) (W j:Nat) (g:G):Prop where
 h2:g.h.get 2=.cells 6 [[.int .i64 gr,b,vw,u,wv,.int .i64 (S.au n (S.pe n e) j)]] 0 false false
 hw:∃lo,g.h.get W=.cells 1 ((S.aG n e j).map ci) 0 lo false
 fr:∀i,i<g0.nx->i≠2->i≠W->g.h.get i=g0.h.get i
theorem OO {d ke:Nat}{b ev vw u:AV}{n:Net}{e:List Int}{Q:QT}{t:T}{g:G}(hd:0<d)(hr:NR n)(hN:∀h,SlR NoP 0 h n.nodes b)(hel:e.length=n.nodes.length)(he:∀h,SlR NoP ke h e ev)
  (hh:NsH n.grain b ev vw u .nils 0 g) (ht:St t (LNs n.grain vw))
  (fin:∀t g' W df,tat t 6=.hptr 2 0 0 0->tat t 7=.int .i64 0->g.nx<=W->W<g'.nx->(∃lo,g'.h.get W=.cells 1 ((S.bc n e).map ci) 0 lo false)->g'.h.get 2=.cells 6 [[.int .i64 n.grain,b,vw,u,.hsl W 0 0 (S.am n) none,.int .i64 (S.aT n e)]] 0 false false ->
   (∀i,i<g.nx->i≠2->g'.h.get i=g.h.get i)->g.nx<=df->df<g'.nx->df≠W->g'.h.get df=.dfr true->Q .ret t [.mark df] g'):wp C0 d none d6 Q t [] g:=by
 obtain ⟨h2,h3,h4,h9,-⟩:=ht;obtain ⟨g0,e1,g2,g3',g4⟩:=hh;have hl8:=hr.l2;obtain ⟨W1,W2,W3⟩:=hr.wl;have hcs:CsOk (S.aa n):=⟨hr.cs,by rw[aA];omega⟩;have hnc:S.nc (S.aa n)=S.am n:=rfl;have hA:∀h,Agg n NoP 0 h (.agg [.int .i64 n.grain,b]):=λh=>⟨_,rfl,ib.2 ⟨b,rfl,hN h⟩⟩;have le:∀g:G,dv .slice ev g=.val (.int .i64 (e.length:Int)):=λg=>(he .nil).len g;unfold d6;refine KL (P:=λt' df g'=>df=[]/\∃W,g.nx<=W/\W<g'.nx/\NsJ n.grain b ev vw u (.hsl W 0 0 (S.am n) none) n e g W 0 g'/\g.nx<=g'.nx/\St t' (LNs n.grain vw)) ?_ ?_
 ·simp only[sz,simprocAttr,sf,h9,g3',h3,g0];refine FH hd hr (hA _) λg5 q5 n5 f5 u5=>?_;have f6:∀i,i<g.nx->g5.h.get i=g.h.get i:=λi hi=>by rw[f5.2 i (by simp;omega)];simp
  have u6:∀i∈g5.lg,g.nx<=i:=λi hi=>by
   rcases u5.2 i hi with h | h
   ·simp at h
   ·simp at h;omega
  simp only[sy] at q5 n5;simp only[sz,simprocAttr,sf,f6 2 (by omega),g2,uR];refine ⟨?_,?_⟩
  ·simp only[List.reverse_cons,List.reverse_nil,List.nil_append,List.cons_append];refine aV [false,false,true,false,false,true] [(0,2)] (by simp[All2,an,aD,ck,t8]) (by decide) ?_;rintro p hp x y hx hy;simp only[List.mem_cons,List.not_mem_nil,or_false] at hp;subst hp;simp at hx hy;subst hx;subst hy;refine Eo rfl rfl rfl λi hi j hj=>?_;have hi:i∈g5.lg:=by simpa using hi
   have hj:j=3:=by simpa [an,kA] using hj
   have:=u6 i hi;omega
  refine ⟨g.nx+3,by omega,by omega,⟨?_,?_,λi h1 h2 h3=>?_⟩,by omega,by simp[St,LNs,sx,h2,h3,h4,h9]⟩
  ·simp[sy,S.au]
  ·exact ⟨false,by rw[J5];simp[sy,q5]⟩
  ·simp[sy,h2,f6 i h1]
 ·rintro t df g1 ⟨rfl,W,w1,w2,hJ,n1,h2,h3,h4,h9,-⟩;have z0:g1.h.get 0=.cells 2 [[.int .i64 n.grain,b]] 0 false false:=by rw[hJ.fr 0 (by omega) (by omega) (by omega),g0]
  rw[cj,Ck,BP];rw[cj];simp only[sz,simprocAttr,h3,z0];refine bH (wA (n:=n) (by omega) (hN _) (by omega)) λrc hrc=>?_;simp only[sz,simprocAttr];obtain ⟨z,kz,hz⟩:=xw (d:=d) (g:=g1) (w:=rc) (cs:=S.aa n) hd (hrc.sl g1.h);simp only[sz,simprocAttr,kz];refine zq (cs:=S.aa n) (w:=z) hcs hz (by simp[sx]) (by decide) (by decide) (NsJ n.grain b ev vw u (.hsl W 0 0 (S.am n) none) n e g W) (λ_=>False) ?_ (λ_ _ _ h=>h) hJ ?_ ?_ (λ_ h=>h.elim)
  ·rintro j g3 g4 hU ⟨a1,a2,a3⟩;exact ⟨by rw[hU.1 _ (by omega),a1],by rw[hU.1 _ (by omega)];exact a2,λi q1 q2 q3=>by rw[hU.1 i (by omega),a3 i q1 q2 q3]⟩
  ·rintro j uu g3 hj hJ3 hn3 hu;rw[hnc] at hj;simp only[sz,simprocAttr,iU];refine ⟨Fr.refl _,λg5 n5 f5 u5=>?_⟩;have hJ5:NsJ n.grain b ev vw u (.hsl W 0 0 (S.am n) none) n e g W j g5:=by obtain ⟨a1,a2,a3⟩:=hJ3;exact ⟨by rw[u5.1 _ (by omega),a1],by rw[u5.1 _ (by omega)];exact a2,λi q1 q2 q3=>by rw[u5.1 i (by omega),a3 i q1 q2 q3]⟩
   have hu5:SlR (λi=>g1.nx+2<=i/\i<g3.nx) 0 g5.h (S.an (S.aa n) (j:Int)) uu:=hu.far8 λi hi=>f5 i (by omega);have z1:g5.h.get 1=.cells 1 [[ev]] 0 false false:=by rw[hJ5.fr 1 (by omega) (by omega) (by omega),e1]
   simp only[sz,simprocAttr,iV,h4,z1,le];have hvl:=mX (S.aa n) (j:Int);rw[aA] at hvl;have hlW:((S.aG n e j).map ci).length=S.am n:=by rw[List.length_map,qh]
   have hin:=ea (λc hc=>(hr.cs c hc).1) (j:Int);have wb:=tB hr hin;have hO:Own g5 4 (.hsl W 0 0 (S.am n) none) 1 ((S.aG n e j).map ci):=by obtain ⟨lo,h⟩:=hJ5.hw;exact .inr ⟨W,0,lo,by omega,by omega,by rw[hlW],h⟩
   have sb:=qr hr (p:=S.pe n e) (j:=j) (by omega);have sb2:=qr hr (p:=S.pe n e) (j:=j+1) (by omega);refine ON (e:=e) (vals:=S.an (S.aa n) (j:Int)) (j:=j) (mw:=S.aG n e j) (gr:=n.grain) (b:=b) (ev:=ev) (vw:=vw) (u:=u) (wv:=.hsl W 0 0 (S.am n) none) (uu:=uu) (by omega) he hu5
    ⟨by rw[hJ5.fr 0 (by omega) (by omega) (by omega),g0],z1,hJ5.h2,by rw[hJ5.fr 3 (by omega) (by omega) (by omega),g3'],by omega⟩ hO (by rw[qh];exact hj) (by simp[St,LNs,sx,h2,h3,h4,h9]) (by simp[sx]) (by simp[sx]) ?_ ?_
   ·rintro t6 hmt ⟨h14,h2',h3',h4',h9',-⟩;have hpe:S.pe n e j=true:=hmt;have m1:j<((S.aG n e j).map ci).length:=by omega
    have m2:((S.aG n e j).map ci)[j]?=some (ci (S.wt n j)):=by rw[List.getElem?_map,L8 n e j hj];rfl
    have hO:Own g5 4 (.hsl W 0 0 (S.am n) none) 1 ((S.aG n e j).map ci):=hO;have z3:g5.h.get 3=.cells 1 [[.hptr 2 0 0 0]] 0 false false:=by rw[hJ5.fr 3 (by omega) (by omega) (by omega),g3']
    have ss:S.au n (S.pe n e) (j+1)=S.au n (S.pe n e) j+S.wt n j:=by rw[S.au,if_pos hpe];rfl
    have w1:IntKind.wrap .i64 (S.au n (S.pe n e) j+S.wt n j)=S.au n (S.pe n e) (j+1):=by rw[<-ss,aq (by omega) (by omega)]
    simp only[sz,simprocAttr,sf,iW,h9',z3,hJ5.h2,uR,h14,hO.rows,m1,m2,ci,w1];refine ⟨?_,?_⟩
    ·simp only[List.reverse_cons,List.reverse_nil,List.nil_append,List.cons_append];exact aV [false,false,false,false,false,false,false,false,false,false,false,false,false,false,true] [] (by simp[All2,an,aD]) (by decide) (by simp)
    refine ⟨by simp[sy]<;>omega,λi q1 q2=>?_,.inl ⟨rfl,?_,?_,λi q1 q2 q3=>?_⟩⟩
    ·simp[sy,show ¬i=2 by omega]
    ·simp[sy]
    ·obtain ⟨lo,h⟩:=hJ5.hw;exact ⟨lo,by rw[Dn hj,if_pos hpe];simp[sy,show ¬W=2 by omega,h]⟩
    ·simp[sy,q2,hJ5.fr i q1 q2 q3]
   ·rintro t6 g6 hmt ⟨h2',h3',h4',h9',-⟩ o6 n6 f6;have hpe:S.pe n e j=false:=hmt;simp only[sz,simprocAttr];have hne:∀i,i≠W->g6.h.get i=g5.h.get i:=λi hi=>f6 i (by simpa [vid] using λh:W=i=>hi h.symm);have hss:S.au n (S.pe n e) (j+1)=S.au n (S.pe n e) j:=by rw[S.au,hpe];simp
    refine ⟨by omega,λi q1 q2=>hne i (by omega),.inl ⟨rfl,?_,?_,λi q1 q2 q3=>?_⟩⟩
    ·rw[hne 2 (by omega),hJ5.h2,hss]
    ·rw[Dn hj,hpe];rcases o6 with ⟨h,-⟩ | ⟨id,ep,lo,-,-,h,hg⟩
     ·cases h
     ·injection h with h1 h2 h3 h4 h5;subst h1;subst h2;exact ⟨lo,by simpa using hg⟩
    ·rw[hne i q3,hJ5.fr i q1 q2 q3]
  ·rintro g' hJ' hn hdf;rw[hnc] at hJ';have z3:g'.h.get 3=.cells 1 [[.hptr 2 0 0 0]] 0 false false:=by rw[hJ'.fr 3 (by omega) (by omega) (by omega),g3']
   simp only[sz,simprocAttr,iX,h9,z3];exact fin _ g' W g1.nx (by simp[sx]) (by simp[sx]) w1 (by omega) hJ'.hw hJ'.h2 (λi q1 q2=>by
    by_cases q3:i=W
    ·omega
    ·rw[hJ'.fr i q1 q2 q3]) n1 (by omega) (by omega) hdf
theorem BZ {d kv k1:Nat}{P1:Nat->Prop}{g:G}{n:Net}{e vars:List Int}{v w u:AV}(hd:kv<d)(hm:Agg n NoP 0 g.h v)(he:SlR P1 k1 g.h e w)(hv:SlR NoP kv g.h vars u) :
  ∃r,ap C0 d N.aZ [v,w,u] g=.val r/\NsV n e vars NoP kv .nil r:=by
 obtain ⟨b,rows,rfl,e1,hm',hN,r1,r2,r3,r4⟩:=kw d hm;obtain ⟨w',e2,hw'⟩:=bG he d;have e3:=j5 d hv;have hv':∀h,SlR NoP kv h vars u:=λh=>hv.tree (Nat.le_refl _);have hN':∀h,SlR NoP 0 h n.nodes b:=λh=>hN.tree (Nat.le_refl 0);have lu:∀g:G,dv .slice u g=.val (.int .i64 (vars.length:Int)):=λg=>(hv' .nil).len g;have lN:∀g:G,dv .slice b g=.val (.int .i64 (n.nodes.length:Int)):=λg=>(hN' .nil).len g;have kc:=λg=>CG (d:=d+1) (g:=g) (Nat.succ_pos d) (hm' g.h) (hw' g.h);rw[pK];refine aW rA (xs:=[.agg [.int .i64 n.grain,b],w',u]) (by simp only[aH,e1,e2,e3]) (by simp[dz]) (Ob n e vars) (by decide) hd ?_
 by_cases c:S.ay n e=0
 ·obtain ⟨hn,hev⟩:=iH.1 c;have hr:=dw.1 hn;have hel:=(yG hev).1;have hl8:=hr.l2;have hst:∀(g:G) (i m:Nat),jS (.cells 1 [[.nilp]] 0 false false) g i 0 0 1 0 (.hptr m 0 0 0)=.upd .undef (g.put i (.cells 1 [[.hptr m 0 0 0]] 0 false false)):=λg i m=>rfl;obtain ⟨FB,hFB⟩:∃F,F=cF:=⟨_,rfl⟩;simp only[sz,simprocAttr,dz,eI,kc,c,lu,Bs (hw' .nil),(hv' .nil).cell.1,(hv' .nil).cell.2,hst,<-hFB];subst hFB;refine OL (k:=kv) (gr:=n.grain) (ev:=w') (n:=n) (vars:=vars) hr hv' hN' (by simp[H.get_put,show G.empty.nx=0 from rfl]) (by simp[St,LNs,sx]) (by simp[sx]) (by simp[sx]) (by simp[sx]) ?_ ?_
  ·intro t hp h6 h7;have hs:S.aR n e vars=2:=by rw[S.aR,if_pos c,hp];rfl
   simp only[sz,simprocAttr,h6,h7];refine ⟨NoP,?_⟩;rw[NsV,hs];exact ⟨_,_,rfl,rfl,aF.2 rfl⟩
  ·rintro t hp ⟨h2,h3,h4,h9,-⟩;have hs:S.aR n e vars=0:=by rw[S.aR,if_pos c,hp];rfl
   have hH:NsH n.grain b w' u .nils .nils 0 (((((G.empty.new (.cells 2 [[.int .i64 n.grain,b]] 0 false false)).new (.cells 1 [[w']] 0 false false)).new (.cells 6 [[.int .i64 n.grain,b,u,.nils,.nils,.int .i64 0]] 0 false false)).new (.cells 1 [[.nilp]] 0 false false)).put 3 (.cells 1 [[.hptr 2 0 0 0]] 0 false false)):=by constructor<;>simp[H.get_put,show G.empty.nx=0 from rfl]
   generalize ((((G.empty.new (.cells 2 [[.int .i64 n.grain,b]] 0 false false)).new (.cells 1 [[w']] 0 false false)).new (.cells 6 [[.int .i64 n.grain,b,u,.nils,.nils,.int .i64 0]] 0 false false)).new (.cells 1 [[.nilp]] 0 false false)).put 3 (.cells 1 [[.hptr 2 0 0 0]] 0 false false)=g1 at hH ⊢;simp only[sz,simprocAttr,iY,h3,hH.h0,lN];refine OM (k:=kv) (m:=n.nodes.length) (Nat.succ_pos d) hl8 hv' hH (by simp[St,LNs,sx,h2,h3,h4,h9]) (by simp[sx]) (by simp[sx]) λt g2 uo ht hH2 hO=>?_;simp only[kB,sz,simprocAttr];refine OO (Nat.succ_pos d) hr hN' hel hw' hH2 ht λt g3 W df h6 h7 w1 w2 gW g2' hf d1 d2 d3 hdf=>?_;show vY C0 (d+1) [.tm 6,.tm 7] t [.mark df] g3 λv g'=>∃P,NsV n e vars P kv g'.h v;refine ij hdf ?_;simp only[sz,simprocAttr,h6,h7];have hne:=λi (h:vid uo=some i)=>hO.lt h;obtain ⟨lo,gW⟩:=gW;have q1:∀i,i≠df->(g3.h.put df (.dfr false)).get i=g3.h.get i:=λi hi=>by rw[aw _ _ _ hi]
   have q2:=(hO.fr (g':=g3.put df (.dfr false)) (by simp;omega) λi hi=>by
    have:=hne i hi;rw[G.put_h,q1 i (by omega),hf i (by omega) (by omega)])
   have hlo:(S.bF n vars).length<=_:=zf vars n.nodes.length;have hH4:=hH2.nx;have hlw:(S.bc n e).length=S.am n:=qh _ _ _;have hW2:=hr.wl.2.1;refine ⟨λ_=>True,?_⟩;rw[NsV,if_pos hs];refine ⟨_,_,rfl,.inl ⟨2,_,rfl,trivial,by rw[q1 2 (by omega),g2'],?_⟩,aF.2 rfl⟩;refine KC.2 ⟨b,u,uo,_,rfl,hN.wide (Nat.zero_le _),?_,q2.sl (α:=Int) (by omega) (All2.of_map (λa=>aF.2 rfl) _) λ_ _=>trivial,?_⟩
   ·exact hv.wide (Nat.le_refl _)
   ·have gW':(g3.put df (.dfr false)).h.get W=.cells 1 ((S.bc n e).map ci) 0 lo false:=by rw[G.put_h,q1 W (by omega),gW]
    have o3:Own (g3.put df (.dfr false)) 0 (.hsl W 0 0 (S.am n) none) 1 ((S.bc n e).map ci):=.inr ⟨W,0,lo,Nat.zero_le _,by simp;omega,by rw[List.length_map,hlw],gW'⟩;exact o3.sl (α:=Int) (by omega) (All2.of_map (λa=>aF.2 rfl) _) λ_ _=>trivial
 ·simp only[sz,simprocAttr,dz,eI,kc,c,Bs (hw' .nil)];refine ⟨NoP,?_⟩;have hs:S.aR n e vars=S.ay n e:=by rw[S.aR,if_neg c]
  rw[NsV,hs,if_neg c];exact ⟨_,_,rfl,rfl,aF.2 rfl⟩
def Bk (n:Net)(vars oth mw:List Int)(m:Int)(k:Nat)(v:AV):Prop:=∃t b vw ow ww,v=.tptr t 6 [[.int .i64 n.grain,b,vw,ow,ww,.int .i64 m]] 0 0/\t<=k/\SlR NoP k .nil n.nodes b/\SlR NoP k .nil vars vw/\SlR NoP k .nil oth ow/\SlR NoP k .nil mw ww
theorem Mr {n:Net}{vars oth mw:List Int}{m:Int}{k:Nat}{h:H}{v:AV}(r:Bj ((n,vars,oth,mw,m):Sch) 6 NoP k h v):Bk n vars oth mw m k v:=by
 rcases r with ⟨id,cs,rfl,hP,-⟩ | ⟨t,cs,rfl,ht,r⟩
 ·exact hP.elim
 ·obtain ⟨a,b,c,d,rfl,ha,hb,hc,hd⟩:=KC.1 r;exact ⟨t,a,b,c,d,rfl,ht,ha,hb,hc,hd⟩
theorem s6 (h:H)(d t sz:Nat)(rows:List (List AV))(i off:Nat):Hx.snap h d aI (.tptr t sz rows i off)=some (.tptr t sz rows i off):=rfl
theorem jl (t sz:Nat)(rows:List (List AV))(i off:Nat):Do (.tptr t sz rows i off)=.val (.tptr t sz rows i off):=rfl
theorem xB {n:Net}{b:AV}{k:Nat}{p:Int}(hN:SlR NoP k .nil n.nodes b)(h0:0<=p)(h1:p<(n.nodes.length:Int)):∃(pn:Nat) (x:Node) (rows:List (List AV)) (pa ra:AV),p=(pn:Int)/\n.nodes[pn]?=some x/\(∀h,ah h 3 b=some rows)/\pn<rows.length/\rows[pn]?=some [.int .i64 x.card,pa,ra]/\ug b=true/\x∈n.nodes/\(S.aa n)[pn]?=some x.card:=by
 obtain ⟨pn,rfl⟩:=Int.eq_ofNat_of_zero_le h0;obtain ⟨rows,r1,r2,r3,r4⟩:=hN.all;have hlt:pn<n.nodes.length:=by omega
 obtain ⟨x,hx,-,hm⟩:=ae hlt;obtain ⟨row,q1,q2⟩:=r3 pn x hx;obtain ⟨pa,ra,rfl,-,-⟩:=cp.1 q2;exact ⟨pn,x,rows,pa,ra,rfl,hx,r1,by omega,q1,r4 (by omega),hm,by simp[S.aa,hx]⟩
theorem A_ {d k k2:Nat}{g:G}{P:Nat->Prop}{n:Net}{vars oth mw l:List Int}{m:Int}{q w:AV}(hd:0<d)(hq:Bk n vars oth mw m k q)(hp:∀x∈l,0<=x/\x<(n.nodes.length:Int))(hw:SlR P k2 g.h l w)(hl:l.length<=8) :
  ∃r,ap C0 d N.au [q,w] g=.val r/\IT 0 (S.ae (S.aa n) l) r:=by
 obtain ⟨t,b,vw,ow,ww,rfl,ht,hb,hv,ho,hww⟩:=hq;obtain ⟨w',e2,hw'⟩:=bG hw d;have lw:∀g:G,dv .slice w' g=.val (.int .i64 (l.length:Int)):=λg=>(hw' .nil).len g;have rw':=λh=>(hw' h).ints;have hlp:(S.ae (S.aa n) l).length=l.length:=by simp[S.ae]
 rw[m6];refine aW oP (xs:=[.tptr t 6 [[.int .i64 n.grain,b,vw,ow,ww,.int .i64 m]] 0 0,w']) (by simp only[aH,e2,s6]) (by simp[d7]) (aR _) (by decide) hd ?_;simp only[sz,simprocAttr,d7,lw];refine lD (b:=0) (n:=l.length) (by unfold aP;omega) (by unfold aP;omega) (Nat.zero_le _) λu g1 hu n1 f1 v1=>?_;simp only[sz,simprocAttr,lw,fZ];refine aK (m:=l.length) (by omega) (λj t' df g=>df=[]/\St t' [(0,.tptr t 6 [[.int .i64 n.grain,b,vw,ow,ww,.int .i64 m]] 0 0),(11,w'),(5,u)]/\Own g 0 u 1 ((((S.ae (S.aa n) l).take j)++List.replicate (l.length - j) 0).map ci)) ⟨rfl,by simp[St,sx],?_⟩ (by simp[sx]) (by simp[sx]) (by decide)
  (by rintro j t df g v s (rfl | rfl | rfl)<;>simp[sx,St]) ?_ ?_
 ·simpa [ci] using hu
 ·rintro j t' df g hj ⟨rfl,⟨h0,h11,h5,-⟩,hO⟩ h13 h12;obtain ⟨p,hpx,-,hpm⟩:=ae hj;obtain ⟨p0,p1⟩:=hp p hpm;obtain ⟨pn,y,rows,pa,ra,rfl,hy,r1,r2,r3,r4,-,r5⟩:=xB hb p0 p1;have z1:j<(l.map ci).length:=by simpa using hj
  have z2:(l.map ci)[j]?=some (ci (pn:Int)):=by rw[List.getElem?_map,hpx];rfl
  have hcj:(S.ae (S.aa n) l)[j]?=some y.card:=by simp[S.ae,hpx,r5]
  have o1:j<((((S.ae (S.aa n) l).take j)++List.replicate (l.length - j) 0).map ci).length:=by simp;omega
  have o2:((((S.ae (S.aa n) l).take j)++List.replicate (l.length - j) 0).map ci)[j]?=some (ci 0):=by rw[List.getElem?_map,List.getElem?_append_right (by simp;omega),List.getElem?_replicate];simp;omega
  have e3:((((S.ae (S.aa n) l).take j)++List.replicate (l.length - j) 0).map ci).set j (ci y.card)=(((S.ae (S.aa n) l).take (j+1))++List.replicate (l.length - (j+1)) 0).map ci:=by
   rw[<-List.map_set,List.set_append_right _ _ (by simp;omega),List.length_take,Nat.min_eq_left (by omega),Nat.sub_self,List.take_succ_eq_append_getElem (by omega),show l.length - j=(l.length - (j+1))+1 by omega,List.replicate_succ,List.set_cons_zero,List.append_assoc];have:(S.ae (S.aa n) l)[j]=y.card:=by rw[List.getElem?_eq_getElem (by omega)] at hcj;injection hcj
   rw[this];rfl
  simp only[sz,simprocAttr,h11,h13,rw',z1,z2,ci,h0,jl,cC,ba,r1,r2,r3,r4,h5,hO.rows,o1];refine bF (v:=u) (sz:=1) (n:=1) (i:=j) (off:=0) (x:=.int .i64 y.card) (row:=ci 0) (row':=ci y.card) hO o2 rfl rfl rfl λg3 o3 n3 f3=>?_;rw[e3] at o3;simp only[sz,simprocAttr];simpa [St,sx,h0,h11,h5,h12,h13] using o3
 ·rintro t' df g ⟨rfl,⟨h0,h11,h5,-⟩,hO⟩;rw[List.take_of_length_le (by omega),Nat.sub_self] at hO;simp only[sz,simprocAttr,f_,h5];exact ⟨_,(by simpa using hO:Own g 0 u 1 ((S.ae (S.aa n) l).map ci)).ints (by omega)⟩
theorem Fv {d k k2:Nat}{g:G}{P:Nat->Prop}{n:Net}{vars oth mw l:List Int}{m:Int}{q w:AV}(hd:0<d)(hr:NR n)(hq:Bk n vars oth mw m k q)(hp:S.aw vars (n.nodes.length:Int)=true)(hw:SlR P k2 g.h l w)(hl:InC (S.ae (S.aa n) vars) l) :
  ap C0 d N.aI [q,w] g=.val (.int .i64 (S.ah (S.ae (S.aa n) vars) l)):=by
 obtain ⟨t,b,vw,ow,ww,rfl,ht,hb,hv,ho,hww⟩:=hq;obtain ⟨w',e2,hw'⟩:=bG hw d;have lw:∀g:G,dv .slice w' g=.val (.int .i64 (l.length:Int)):=λg=>(hw' .nil).len g;have rw':=λh=>(hw' h).ints;have rv:=λh=>(hv.tree (h':=h) (Nat.le_refl _)).ints;have hlp:(S.ae (S.aa n) vars).length=vars.length:=by simp[S.ae]
 have hll:=hl.len;have hl8:=hr.l2;have hpl:=bV hp (by omega);have hpb:=aM (ps:=vars) hr.cs (λp hpm=>by rw[aA];exact bm hp p hpm);rw[lS];refine jZ nE (xs:=[.tptr t 6 [[.int .i64 n.grain,b,vw,ow,ww,.int .i64 m]] 0 0,w']) (by simp only[aH,e2,s6]) (by simp[dC]) hd ?_;simp only[sz,simprocAttr,dC,eX,lw];refine aK (m:=l.length) (by omega) (λj t' df g=>df=[]/\St t' [(0,.tptr t 6 [[.int .i64 n.grain,b,vw,ow,ww,.int .i64 m]] 0 0),(8,w'),(5,.int .i64 (S.ah ((S.ae (S.aa n) vars).take j) (l.take j)))]) ⟨rfl,by simp[St,sx,S.ah]⟩ (by simp[sx]) (by simp[sx]) (by decide)
  (by rintro j t df g v s (rfl | rfl | rfl)<;>simp[sx,St]) ?_ ?_
 ·rintro j t' df g hj ⟨rfl,h0,h8,h5,-⟩ h10 h9;obtain ⟨x,hx,hxt,-⟩:=ae hj;obtain ⟨p,hpx,-,hpm⟩:=ae (l:=vars) (j:=j) (by omega);obtain ⟨p0,p1⟩:=bm hp p hpm;obtain ⟨pn,y,rows,pa,ra,rfl,hy,r1,r2,r3,r4,hym,r5⟩:=xB hb p0 p1;have z1:j<(l.map ci).length:=by simpa using hj
  have z2:(l.map ci)[j]?=some (ci x):=by rw[List.getElem?_map,hx];rfl
  have y1:j<(vars.map ci).length:=by rw[List.length_map];omega
  have y2:(vars.map ci)[j]?=some (ci (pn:Int)):=by rw[List.getElem?_map,hpx];rfl
  have hcj:(S.ae (S.aa n) vars)[j]?=some y.card:=by simp[S.ae,hpx,r5]
  have c1:(S.ae (S.aa n) vars).take (j+1)=(S.ae (S.aa n) vars).take j++[y.card]:=by rw[List.take_succ_eq_append_getElem (by omega)];congr 2;rw[List.getElem?_eq_getElem (by omega)] at hcj;injection hcj
  have hsn:S.ah ((S.ae (S.aa n) vars).take (j+1)) (l.take (j+1))=S.ah ((S.ae (S.aa n) vars).take j) (l.take j)*y.card+x:=by rw[c1,hxt];exact uL (by simp;omega)
  have i1:=bE (λc h=>hpb c (List.mem_of_mem_take h)) (hl.take j);have i2:=bE (λc h=>hpb c (List.mem_of_mem_take h)) (hl.take (j+1));have q1:=bN hpb (by omega) j;have q2:=bN hpb (by omega) (j+1);rw[hsn] at i2 ⊢;have hyc:=hr.card y hym;obtain ⟨A,hA⟩:∃A,A=S.ah ((S.ae (S.aa n) vars).take j) (l.take j):=⟨_,rfl⟩;rw[<-hA] at h5 i1 i2 ⊢;have hm0:0<=A*y.card:=Int.mul_nonneg i1.1 (by omega);have hm1:A*y.card<=65536*4:=Int.mul_le_mul (by omega) (by omega) (by omega) (by omega);have w1:IntKind.wrap .i64 (A*y.card)=A*y.card:=aq (by omega) (by omega);have w2:IntKind.wrap .i64 (A*y.card+x)=A*y.card+x:=aq (by omega) (by omega);simp only[sz,simprocAttr,h8,h10,rw',z1,z2,ci,h0,h5,jl,cC,ba,rv,y1,y2,r1,r2,r3,r4,w1,w2];simp[St,sx,h0,h8,h9,h10]
 ·rintro t' df g ⟨rfl,h0,h8,h5,-⟩;rw[List.take_of_length_le (by omega),List.take_of_length_le (by omega)] at h5;simp only[sz,simprocAttr,eZ,h5]
end
end Hx
end
