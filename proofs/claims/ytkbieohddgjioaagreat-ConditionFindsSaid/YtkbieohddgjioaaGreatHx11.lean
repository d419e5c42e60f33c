/- A part of the proof: what the functions of the chapter compute. -/
import Derived.OpenShut
import Derived.DataReads
import Derived.Test.YtkbieohddgjioaaGreatHx10
set_option linter.all false
set_option maxRecDepth 20000
set_option maxHeartbeats 8000000
namespace Hx
open Go
noncomputable section
variable {g:G}{t:T}{d:Nat}{odd nb nt:AV}{m:Int}{Q:QT}{n:Net}
theorem xn{α:Type}{l:List α}{i:Nat}{a:α}(h:l[i]?=some a):l.set i a=l:=by
 refine Xm λj=>?_;rw[Wi]
 by_cases e:i=j
 ·subst e;rw[VC rfl,VC (Vv.1 h).1,h]
 ·rw[Vz e]
theorem BS.fin0{K J:Nat}{L:List Node}{x:Node}{bx:lI}{gr Rw:Int}{t t':T}{g:G}{V:Ky->AV}{E:Ky->En}{Q:QT}(hS:BS K J L x bx gr Rw t g V E)(fin:vX Q)(h3:tat t' 3=ZK 1)(h4:tat t' 4=ZK 2):Q .norm t' [] g :=
 fin _ _ gr _ L h3 h4 hS.f1 hS.f2 hS.sl (by have:=hS.hK;have:=hS.hl;omega)
theorem Gc{g:G}{v:AV}{rows:List (List AV)}(h:ak g.h 1 v=some rows)(hl:0<rows.length):∀g':G,g'.h=g.h->Eh 1 v (ZJ 0) g'=.val (eJ 1 v 0 0):=λg' e =>
 Gb (by rw[e,h];rfl) (by decide) (by rw[e,h];simpa using hl)
structure BW (x:Node) (J:Nat) (g:G) (V:Ky->AV) (E:Ky->En) (rws:List (List AV)):Prop where
 own:Own g 3 (V (J+1,1)) 1 rws
 e1:E (J+1,1)=.sl 1 rws
 len:rws.length=x.rows.length
 at_:∀(r:Nat) (y:List Int),x.rows[r]?=some y->rws[r]?=some [V (J+1,2+r)]
theorem BS.bw{K J:Nat}{L:List Node}{x:Node}{bx:lI}{gr Rw:Int}{t:T}{g:G}{V:Ky->AV}{E:Ky->En}(hS:BS K J L x bx gr Rw t g V E):∃rws,BW x J g V E rws:=by obtain⟨rws,h,q2,q3⟩:=(hS.bl.nd J x hS.hx).rs;exact⟨rws,hS.hp.own (LS.s hS.hx (by omega)) h,h,q2,q3⟩
theorem Ey{K r:Nat}{J:Nat}{x:Node}{V V':Ky->AV}{E E':Ky->En}{rws:List (List AV)}{y':List Int}(h:NdOk K V E J x)(hq:∀r y,x.rows[r]?=some y->rws[r]?=some [V (J+1,2+r)])(hl:rws.length=x.rows.length)(hr:r<x.rows.length)
  (hp:E' (J+1,0)=E (J+1,0)) (h1:E' (J+1,1)=.sl 1 (rws.set r [V' (J+1,2+r)])) (h2:E' (J+1,2+r)=.sl 1 (y'.map ci)) (hv:∀q,q≠r->V' (J+1,2+q)=V (J+1,2+q)) (he:∀q,q≠r->E' (J+1,2+q)=E (J+1,2+q)) (hy:y'.length<=K):NdOk K V' E' J ⟨x.card,x.parents,x.rows.set r y'⟩:=by
 refine⟨by rw[hp];exact h.ps,⟨_,h1,by simp[hl],λq z hz=>?_⟩,λq z hz=>?_,h.len.1,by simpa using h.len.2.1,λz hz=>?_⟩
 ·have hz:(x.rows.set r y')[q]?=some z:=hz
  by_cases e:r=q
  ·subst e;rw[WH (by omega)]
  ·rw[W0 e]at hz ⊢;rw[hv q (WD e)];exact hq q z hz
 ·have hz:(x.rows.set r y')[q]?=some z:=hz
  by_cases e:r=q
  ·subst e;rw[WH (by omega)]at hz;injection hz with hz;subst hz;exact h2
  ·rw[W0 e]at hz;rw[he q (WD e)];exact h.rr q z hz
 ·rcases XZ hz with h'|rfl
  ·exact h.len.2.2 z h'
  ·exact hy
section
variable {d K J:Nat}{L:List Node}{x:Node}{bx:lI}{gr Rw:Int}{t:T}{g:G}{V:Ky->AV}{E:Ky->En}{Q:QT}
theorem bc4(hS:BS K J L x bx gr Rw t g V E)(fin:vX Q) :
  wp C0 d none (.feet [0,0,2,6,14,0,32,96,224,510,1023,2047,4095] [oM 142 10,oM 143 10,Zb 144 143,oF 145 2 144,oL 146 145,oF 147 3 2,oL 148 147,ZB 149 148,ZC 150 149,Zu 151 1 24 146 150,Zb 152 142,oF 153 2 152,Za 1 153 151]) Q t [] g:=by
 obtain⟨h2,A,h4,o,w,-⟩:=hS.st;obtain⟨rows,a⟩:=hS.bt;obtain⟨rws,hW⟩:=hS.bw;have hK:=hS.hK;have hl:=hS.hl;have C:=hS.hp.nx;have f:=a.nd.len;simp only[sz,simprocAttr,sf,h2,o,hS.f0,bz a.ry,bF a.ry,a.own.rows,a.hlt,a.row];refine (hS.hp.step (g':=_) (by simp<;>omega) (λi hi hi2=>?_)).app2 (k:=(J+1,1)) (LS.s hS.hx (by omega)) hW.e1 (new:=[[.hsl (g.nx+1+1+1+1+1+1+1) 0 0 1 none]]) (by simp[sx,sy]) (by have:=hW.len;simp[aT];omega) λv1 ga hHa na fra foa lga vca vta=>?_
 ·simp[TA];rw[Vz (by omega),Vz (by omega)]
 simp only[sx,sy]at na fra foa lga;have b:ups V (J+1,1) v1 (0,0)=V (0,0):=ac _ _ (by simp<;>omega);have kn:ga.h.get (g.nx+1+1+1+1+1+1+1)=Y6 1 [[ZJ bx.2.2.2]]:=by rw[foa (g.nx+1+1+1+1+1+1+1) (by omega) (λe=>by rw[cp hW.own]at e;have:=(hW.own.lt e).2;omega)];simp[TA]
 simp only[sz,simprocAttr,sf,bz a.ry,bF a.ry];refine (hHa.same (g':=_) (by simp) (by simp<;>omega)).putv (k:=(0,0)) LS.z b (row':=[ZJ x.card,V (J+1,0),v1]) (by rw[ac _ _ (by simp<;>omega)];exact a.e0) a.row (by rw[vca];rfl) vta (by rw[vca];rfl) λgb hHb nb frb fob=>?_;simp only[sy]at nb frb fob ⊢;refine⟨?_,?_⟩
 ·simp only[VJ,VN,VH,VE];refine aA (false::(Zn (Zm (true::(true::(true::(Zn (true::[])))))))) [(0,7),(1,7),(2,7),(3,7),(4,7),(0,8),(1,8),(2,8),(3,8),(4,8),(0,9)] (by simp[All2,ah,ay]) (by decide) ?_;rintro p hp x y hx c;simp only[VP,VG,Xh]at hp;have ro1:=a.own.refs_lt;rcases hp with rfl|rfl|rfl|rfl|rfl|rfl|rfl|rfl|rfl|rfl|rfl<;>(simp at hx c;subst hx;subst c;refine bI rfl rfl rfl rfl ?_ ?_ ?_<;>simp[ah,ay,fT a.ry]<;>first|omega| (intro i' q;have:=ro1 i' q;omega)|skip)
 have knb:gb.h.get (g.nx+1+1+1+1+1+1+1)=Y6 1 [[ZJ bx.2.2.2]]:=by rw[fob (g.nx+1+1+1+1+1+1+1) (λe=>by rw[b,cp a.own]at e;have:=(a.own.lt e).2;omega)];simpa using kn
 have j:SlR P3 0 gb.h x.parents (V (J+1,0)):=by have:=hHb.own (k:=(J+1,0)) (LS.s hS.hx (by omega)) (by rw[ac _ _ (by simp<;>omega),ac _ _ (by simp<;>omega)];exact a.nd.ps);rw[ac _ _ (by simp<;>omega)]at this;exact uj this (by omega) λ_ h=>h
 have l:SlR P3 0 gb.h (x.rows++[[bx.2.2.2]]) v1:=by
  have ho:=hHb.own (k:=(J+1,1)) (LS.s hS.hx (by omega)) (by rw[ac _ _ (by simp<;>omega),ax]);rw[ax]at ho;refine Own.sl (α:=List Int) ho (by simp<;>omega) (All2.append (v_ hW.len.symm λr y row c hr=>?_) ⟨?_,trivial⟩) λi hi=>(ho.lt hi).1
  ·rw[hW.at_ r y c]at hr;injection hr with hr;subst hr;have D:=(Vv.1 c).1;have:=hHb.own (k:=(J+1,2+r)) (LS.s hS.hx (by omega)) (by rw[ac _ _ (by simp<;>omega),ac _ _ (by simp<;>omega)];exact a.nd.rr r y c);rw[ac _ _ (by simp<;>omega)]at this;exact l8.2 ⟨_,rfl,uj this (by have:=f.2.2 y (VA c);omega) λ_ h=>h⟩
  ·refine l8.2 ⟨_,rfl,by show 1<9223372036854775808;decide,(by show 3<=(g.nx+1+1+1+1+1+1+1);omega),[[ZJ bx.2.2.2]],?_,aW.2 rfl,trivial⟩;show ak gb.h 1 _=_;simp only[ak,knb];rfl
 obtain⟨nds,u,B⟩:=vC (x':=⟨x.card,x.parents,x.rows++[[bx.2.2.2]]⟩) hHb (λk hk=>hk) a.oth.v.e.z (ax _ _ _) b (bM.2 ⟨_,_,rfl,j,l⟩) (by omega) (by omega);have m:gb.h.get 1=Y6 2 [[ZJ gr,V (0,0)]]:=by rw[frb 1 (by omega)];(try simp);rw[fra 1 (by omega),Vz (by omega),Vz (by omega),hS.f1]
 have n:gb.h.get 2=Y6 2 [[ZJ 0,.nils]]:=by rw[frb 2 (by omega)];(try simp);rw[fra 2 (by omega),Vz (by omega),Vz (by omega),hS.f2]
 exact fin _ _ gr _ nds (by simp[sx,A]) (by simp[sx,h4]) (by simpa using m) (by simpa using n) (B.heap (by simp)) u
theorem bc5(hS:BS K J L x bx gr Rw t g V E)(fin:vX Q) :
  wp C0 d none (sQ [oM 156 11,Y8 157 .geq 156 0] (ZH 157 (.ops [oM 158 10,oM 159 10,Zb 160 159,oF 161 2 160,oL 162 161,oM 163 11,o 164 (.slc 1 (.t 162) [] [.t 163]),Zb 165 158,oF 166 2 165,Za 1 166 164]) (.skip))) Q t [] g:=by
 obtain⟨h2,p,h4,f,b,-⟩:=hS.st;obtain⟨rows,a⟩:=hS.bt;obtain⟨rws,hW⟩:=hS.bw;have hK:=hS.hK;have hl:=hS.hl;rcases hS.hR with⟨rfl,h0⟩|⟨r,rfl,hr⟩
 ·simp only[sx,SO.run,↓reduceIte,b];exact⟨λh=>by simp at h,λ_=>hS.fin0 fin (by simp[sx,p]) (by simp[sx,h4])⟩
 ·simp only[sx,SO.run,↓reduceIte,b];refine⟨λ_=>?_,λh=>by simp at h⟩;obtain⟨y,m,q2,q3⟩:=zW (α:=List Int) hW.own (n:=r) (by intro h;have:=hW.len;rw[h]at this;simp at this;omega) (by have:=hW.len;omega);have m:tR 1 (V (J+1,1)) none (some (ZJ (r:Int))) g=.val y:=m;simp only[sx,sy,SO.run,↓reduceIte,Nat.reduceEqDiff,f,b,bz a.ry,bF a.ry,a.own.rows,a.hlt,a.row,m,XV,XF,Yj,VB];refine hS.hp.put LS.z (off:=2) (n:=1) (row':=[ZJ x.card,V (J+1,0),y]) a.e0 a.row (by simp[q2.1]) q2.2 (by rw[q2.1];rfl) λgb hHb nb frb fob=>?_;simp only[sx];have c:=a.nd.congr (V':=V) (E':=ups E (0,0) (.sl 3 (rows.set J [ZJ x.card,V (J+1,0),y]))) (λ_=>rfl) (λq=>ac _ _ (by simp<;>omega));have l:Rp.rp P3 0 gb.h (⟨x.card,x.parents,x.rows.take r⟩:Node) [ZJ x.card,V (J+1,0),y]:=by refine bM.2 ⟨_,_,rfl,c.pars hHb (LS.s hS.hx (by omega)) (by omega),q3 P3 0 _ gb.h (λi hi=>fob i λe=>?_) (c.rows hHb (λq hq=>LS.s hS.hx hq) (by omega))⟩;exact hS.hp.sep (0,0) (J+1,1) LS.z (LS.s hS.hx (by omega)) (by simp) i e (by rw[cp hW.own];exact hi)
  obtain⟨nds,j,u⟩:=vC hHb (λk hk=>hk) a.oth.z (ax _ _ _) rfl l (by omega) (by omega);exact fin _ _ gr _ nds (by simp[sx,p]) (by simp[sx,h4]) (by rw[frb 1 (by omega),hS.f1]) (by rw[frb 2 (by omega),hS.f2]) u j
theorem bc6(hS:BS K J L x bx gr Rw t g V E)(fin:vX Q) :
  wp C0 d none (sQ [oM 169 11,Y8 170 .geq 169 0,oM 171 170,Zf 172 171 true 10,og 173 171 true (.nilc (.t 172)),Zh 174 171 true 2 173,Zg 175 171 true 174,Zf 176 171 true 11,ZA 177 171 true 1 175 176,Zg 178 171 true 177,Zk 179 171 true 178,Zj 180 171 true .gtr 179 0,Zd 181 171 180] (ZH 181 (.feet [0,1,3,7,0,31,63,0,128,511,1023] [oM 182 10,Zb 183 182,oF 184 2 183,oL 185 184,oM 186 11,oX 187 185 186,oL 188 187,oF 189 3 2,oL 190 189,o 191 (.ixs 1 (.t 188) (qI 0)),Za 1 191 190]) (.skip))) Q t [] g:=by
 obtain⟨h2,u,h4,j,b,-⟩:=hS.st;obtain⟨rows,h⟩:=hS.bt;obtain⟨rws,hW⟩:=hS.bw;have hK:=hS.hK;have hl:=hS.hl;rcases hS.hR with⟨rfl,h0⟩|⟨r,rfl,hr⟩
 ·simp only[sz,simprocAttr,b,show decide ((-1:Int) >= 0)=false from rfl];exact hS.fin0 fin (by simp[sx,u]) (by simp[sx,h4])
 ·obtain⟨y,p⟩:∃y,x.rows[r]?=some y:=⟨_,Vt hr⟩;have c:=hW.at_ r y p;have l:LS L (J+1,2+r):=LS.s hS.hx (by omega);have f:=hS.hp.own l (h.nd.rr r y p);have B:=h.nd.len.2.2 y (VA p);have ly:=dl f.rows;rw[VF]at ly;have m:r<rws.length:=by have:=hW.len;omega
  have C:nA (V (J+1,1))=true:=fR hW.own (by omega);simp only[sz,simprocAttr,j,b,show decide ((r:Int) >= 0)=true from by simp,bz h.ry,bF h.ry,h.own.rows,h.hlt,h.row,hW.own.rows,m,c,ly];refine aX (λhb=>?_) (λhb=>?_)
  ·have a:0<y.length:=by simpa using hb
   obtain⟨z,hz⟩:∃z,y[0]?=some z:=⟨_,Vt a⟩;have F:0<(y.map ci).length:=by simpa using a
   have H:(y.map ci)[0]?=some (ci z):=by rw[Vw,hz];rfl
   have u3:=f.rows;have D:nA (V (J+1,2+r))=true:=fR f F;simp only[sz,simprocAttr,sf,h2,j,b,hS.f0,bz h.ry,bF h.ry,h.own.rows,h.hlt,h.row,hW.own.rows,m,c,Gc u3 F];refine (hS.hp.same (g':=_) (by simp) (by simp<;>omega)).put (k:=(J+1,2+r)) (i:=0) (off:=0) (n:=1) (row:=ci z) (row':=ci bx.2.2.2) l (h.nd.rr r y p) H rfl rfl rfl λgb hHb nb frb fob=>?_;simp only[sy]at nb frb fob ⊢;refine⟨?_,?_⟩
   ·simp only[VJ,VN,VH,VE];exact aA (Zn (Zl (true::[]))) [] (by simp[All2,ah,ay]) (by decide) (by simp)
   have v:=Ey (r:=r) (V':=V) (E':=ups E (J+1,2+r) (.sl 1 ((y.map ci).set 0 (ci bx.2.2.2)))) (y':=y.set 0 bx.2.2.2) h.nd hW.at_ hW.len hr (ac _ _ (by simp<;>omega)) (by rw[ac _ _ (by simp<;>omega),hW.e1,xn c]) (by rw[ax,Xa]) (λ_ _=>rfl) (λq hq=>ac _ _ (by simp<;>omega)) (by simpa using B);have A:=v.rd hHb (λq hq=>LS.s hS.hx (by simpa using hq)) (by omega);obtain⟨nds,w,G⟩:=vC (rows:=rows) (J:=J) hHb (λk hk=>hk) h.oth.e (by rw[ac _ _ (by simp<;>omega),h.e0];exact congrArg _ (xn h.row).symm) rfl A (by omega) (by omega);exact fin _ _ gr _ nds (by simp[sx,u]) (by simp[sx,h4]) (by simp only[bumpG_h];rw[frb 1 (by omega)];simpa using hS.f1) (by simp only[bumpG_h];rw[frb 2 (by omega)];simpa using hS.f2) (G.heap (by simp)) w
  ·simp only[sx];exact hS.fin0 fin (by simp[sx,u]) (by simp[sx,h4])
end
section
variable {d K J:Nat}{L:List Node}{x:Node}{bx:lI}{gr Rw:Int}{t:T}{g:G}{V:Ky->AV}{E:Ky->En}{Q:QT}
theorem bc7(hS:BS K J L x bx gr Rw t g V E)(fin:vX Q) :
  wp C0 d none (sQ [oM 194 11,Y8 195 .geq 194 0] (ZH 195 (.feet [0,1,3,7,0,0,32,96,224,0,992,2016,0,8160,16383,32767] [oM 196 10,Zb 197 196,oF 198 2 197,oL 199 198,oM 200 11,oM 201 10,Zb 202 201,oF 203 2 202,oL 204 203,oM 205 11,oX 206 204 205,oL 207 206,o 208 (.bsl 1 1 [ZJ 0] [0] [.k (ZJ 0)]),Zu 209 1 8 207 208,oX 210 199 200,Za 1 210 209]) (.skip))) Q t [] g:=by
 obtain⟨h2,O,h4,H,c,-⟩:=hS.st;obtain⟨rows,a⟩:=hS.bt;obtain⟨rws,hW⟩:=hS.bw;have hK:=hS.hK;have hl:=hS.hl;have R:=hS.hp.nx;rcases hS.hR with⟨rfl,h0⟩|⟨r,rfl,hr⟩
 ·simp only[sx,SO.run,↓reduceIte,c];exact⟨λh=>by simp at h,λ_=>hS.fin0 fin (by simp[sx,O]) (by simp[sx,h4])⟩
 ·simp only[sx,SO.run,↓reduceIte,c];refine⟨λ_=>?_,λh=>by simp at h⟩;obtain⟨y,m⟩:∃y,x.rows[r]?=some y:=⟨_,Vt hr⟩;have C:=hW.at_ r y m;have f:LS L (J+1,2+r):=LS.s hS.hx (by omega);have A:=a.nd.rr r y m;have T:=hS.hp.own f A;have S:=a.nd.len.2.2 y (VA m);have B:r<rws.length:=by have:=hW.len;omega
  have D:nA (V (J+1,1))=true:=fR hW.own (by omega);simp only[sx,sy,sf,SO.run,↓reduceIte,Nat.reduceEqDiff,H,c,bz a.ry,bF a.ry,a.own.rows,a.hlt,a.row,hW.own.rows,B,C,Yj,VB];refine (hS.hp.step (g':=_) (by simp<;>omega) (λi hi hi2=>?_)).app2 (k:=(J+1,2+r)) f A (new:=[[ZJ 0]]) (by simp[sx,sy]) (by simp[aT];omega) λv1 ga hHa na fra foa lga vca vta=>?_
  ·simp[TA];omega
  simp only[sx,sy]at na fra foa lga;have u:ups V (J+1,2+r) v1 (J+1,1)=V (J+1,1):=ac _ _ (by simp<;>omega);have w:ups E (J+1,2+r) (.sl 1 (y.map ci++[[ZJ 0]])) (J+1,1)=.sl 1 rws:=by rw[ac _ _ (by simp<;>omega)];exact hW.e1
  have rwa:ak ga.h 1 (V (J+1,1))=some rws:=by rw[<-u];exact (hHa.own (LS.s hS.hx (by omega)) w).rows
  simp only[sx,sy,sf,SO.run,↓reduceIte,Nat.reduceEqDiff,rwa,B,Yj,VB];refine (hHa.same (g':=_) (by simp) (by simp<;>omega)).putv (k:=(J+1,1)) (i:=r) (off:=0) (n:=1) (LS.s hS.hx (by omega)) u (row':=[v1]) w C (by rw[vca];rfl) vta (by rw[vca];rfl) λgb hHb nb frb fob=>?_;simp only[sy]at nb frb fob ⊢;refine⟨?_,?_⟩
  ·simp only[VJ,VN,VH,VE];refine aA (Zm (Zl (true::(true::(false::(true::[])))))) [(0,12),(1,12),(2,12),(3,12),(4,12),(5,12),(6,12),(7,12),(8,12),(9,12),(10,12),(11,12),(0,13),(1,13),(2,13),(3,13),(4,13)] (by simp[All2,ah,ay]) (by decide) ?_;have ro1:=a.own.refs_lt;have ro2:=hW.own.refs_lt;have lg0:∀i∈ga.lg,i ∉ aw (V (0,0)):=λi hi hm=>by
    obtain⟨id0,l⟩:∃id,eid (V (0,0))=some id/\aw (V (0,0))=[id]:=by
     rcases a.own with⟨h,-⟩|⟨id,ep,lo,-,-,h,-⟩
     ·rw[h]at hm;simp[aw]at hm
     ·rw[h];exact⟨id,rfl,rfl⟩
    rw[l.2]at hm;have hm:=VY.1 hm;subst hm;rcases lga i hi with h|h|h
    ·simp at h
    ·exact hS.hp.sep (J+1,2+r) (0,0) f LS.z (by simp) i h l.1
    ·have:=ro1 i (by rw[l.2];simp);omega
   rintro p hp x y hx m;simp only[VP,VG,Xh]at hp;rcases hp with rfl|rfl|rfl|rfl|rfl|rfl|rfl|rfl|rfl|rfl|rfl|rfl|rfl|rfl|rfl|rfl|rfl<;>(simp at hx m;subst hx;subst m;refine bI rfl rfl rfl rfl ?_ ?_ ?_<;>simp[ah,ay,fT a.ry,fT D]<;>first|omega| (intro i' b;have:=ro1 i' b;omega)| (intro i' b;have:=ro2 i' b;omega)|exact lg0|exact (λi hi h=>lg0 h hi)|exact (λi hi h=>lg0 i h hi)| (intro i' b hm;exact lg0 _ b hm)|exact (λi hi j hj e=>lg0 i hi (e ▸ hj))|skip)
  have I:=Ey (r:=r) (V':=ups V (J+1,2+r) v1) (E':=ups (ups E (J+1,2+r) (.sl 1 (y.map ci++[[ZJ 0]]))) (J+1,1) (.sl 1 (rws.set r [v1]))) (y':=y++[0]) (a.nd.up (show K<=K+1 by omega)) hW.at_ hW.len hr (by rw[ac _ _ (by simp<;>omega),ac _ _ (by simp<;>omega)]) (by rw[ax,ax]) (by rw[ac _ _ (by simp<;>omega),ax];simp[ci]) (λq hq=>ac _ _ (by simp<;>omega)) (λq hq=>by rw[ac _ _ (by simp<;>omega),ac _ _ (by simp<;>omega)]) (by simp<;>omega);have N:=I.rd hHb (λq hq=>LS.s hS.hx (by simpa using hq)) (by omega);obtain⟨nds,M,P⟩:=vC (rows:=rows) (J:=J) hHb (λk hk=>hk) a.oth.v.e.e (by rw[ac _ _ (by simp<;>omega),ac _ _ (by simp<;>omega),a.e0];rw[lH,ac _ _ (by simp<;>omega),ac _ _ (by simp<;>omega)];exact congrArg _ (xn a.row).symm) (ac _ _ (by simp<;>omega)) N (by omega) (by omega);have F:gb.h.get 1=Y6 2 [[ZJ gr,V (0,0)]]:=by rw[frb 1 (by omega)];(try simp);rw[fra 1 (by omega),Vz (by omega),hS.f1]
  have G:gb.h.get 2=Y6 2 [[ZJ 0,.nils]]:=by rw[frb 2 (by omega)];(try simp);rw[fra 2 (by omega),Vz (by omega),hS.f2]
  exact fin _ _ gr _ nds (by simp[sx,O]) (by simp[sx,h4]) (by simpa using F) (by simpa using G) (P.heap (by simp)) M
theorem Tm(hS:BS K J L x bx gr Rw t g V E)(fin:vX Q) :
  wp C0 d none (.ops [oF 312 1 3,oL 313 312,oF 314 0 3,oL 315 314,ZB 316 315,ZC 317 316,o 318 (.build [ZJ 0,.nils,.nils] [(0,1),(2,1)] [.k (ZJ 1),.t 317]),o 319 (.bsl 3 1 [ZJ 0,.nils,.nils] [0] [.t 318]),Zu 320 3 56 313 319,oF 321 1 3,Za 1 321 320]) Q t [] g:=by
 obtain⟨h2,n,h4,w,y,-⟩:=hS.st;obtain⟨rows,a⟩:=hS.bt;have hK:=hS.hK;have hl:=hS.hl;have v:=hS.hp.nx;have B:=a.oth.len;simp only[sz,simprocAttr,n,hS.f1];refine (hS.hp.step (g':=_) (by simp<;>omega) (λi hi hi2=>?_)).app2 (k:=(0,0)) LS.z a.e0 (new:=[[ZJ 1,.nils,.hsl (g.nx+1) 0 0 1 none]]) (by simp[sx,sy]) (by simp[aT];omega) λv1 gb hHb nb frb fob _ vca vta=>?_
 ·simp[TA];rw[Vz (by omega),Vz (by omega),Vz (by omega)]
 simp only[sx,sy]at nb frb fob;have ne:∀i,g.nx<=i->eid (V (0,0))≠some i:=λi hi e=>by rw[cp a.own]at e;have:=(a.own.lt e).2;omega
 have C:gb.h.get g.nx=Y6 1 [[ZJ gr]]:=by rw[fob g.nx (by omega) (ne _ (Vu _))];simp[TA]<;>omega
 have k2:gb.h.get (g.nx+1)=Y6 1 [[.hsl g.nx 0 0 1 none]]:=by rw[fob (g.nx+1) (by omega) (ne _ (by omega))];simp[TA]<;>omega
 have b:Rp.rp P3 0 gb.h (⟨1,[],[[gr]]⟩:Node) [ZJ 1,.nils,.hsl (g.nx+1) 0 0 1 none]:=by
  refine bM.2 ⟨_,_,rfl,⟨by show 0<9223372036854775808;decide,rfl⟩,⟨by show 1<9223372036854775808;decide,by show 3<=g.nx+1;omega,[[.hsl g.nx 0 0 1 none]],?_,l8.2 ⟨_,rfl,by show 1<9223372036854775808;decide,v,[[ZJ gr]],?_,aW.2 rfl,trivial⟩,trivial⟩⟩
  ·show ak gb.h 1 _=_;simp only[ak,k2];rfl
  ·show ak gb.h 1 _=_;simp only[ak,C];rfl
 have ho:=hHb.own LS.z (ax _ _ _);rw[ax]at ho;obtain⟨nds,c,A⟩:=Gr ho (by simp<;>omega) λi row hi=>by
  by_cases e:i<rows.length
  ·rw[VO e]at hi;obtain⟨z,hz⟩:∃z,L[i]?=some z:=⟨_,Vt (by omega)⟩;have r:=(hS.bl.nd i z hz).congr (V':=ups V (0,0) v1) (E':=ups E (0,0) (.sl 3 (rows++[[ZJ 1,.nils,.hsl (g.nx+1) 0 0 1 none]]))) (λq=>ac _ _ (by simp<;>omega)) (λq=>ac _ _ (by simp<;>omega));have f:=r.rd hHb (λq hq=>LS.s hz hq) (by omega);have j:rows[i]?=some (lH V i z.card):=by
    by_cases e2:i=J
    ·subst e2;rw[hS.hx]at hz;injection hz with hz;subst hz;exact a.row
    ·exact a.oth.ns i z e2 hz
   rw[j]at hi;injection hi with hi;subst hi;rw[lH,ac _ _ (by simp<;>omega),ac _ _ (by simp<;>omega)]at f;exact⟨z,f⟩
  ·have p:=(Vv.1 hi).1;simp at p;have e:i=rows.length:=by omega
   subst e;rw[WY]at hi;injection hi with hi;subst hi;exact⟨_,b⟩
 have l:gb.h.get 1=Y6 2 [[ZJ gr,V (0,0)]]:=by rw[frb 1 (by omega),Vz (by omega),Vz (by omega),Vz (by omega),hS.f1]
 have m:gb.h.get 2=Y6 2 [[ZJ 0,.nils]]:=by rw[frb 2 (by omega),Vz (by omega),Vz (by omega),Vz (by omega),hS.f2]
 simp only[sz,simprocAttr,n,l,vca,vta];have u:nds.length<=1000002:=by have:=hS.hK;have:=hS.hl;rw[c];simp;have:=a.oth.len;omega
 exact fin _ _ gr _ nds (by simp[sx,n]) (by simp[sx,h4]) (by simp[TA]) (by simp[TA,m]) (A.far λi hi=>by simp[TA,Si hi]) u
theorem Tn(hS:BS K J L x bx gr Rw t g V E)(fin:vX Q) :
  wp C0 d none (.ops [oF 102 1 3,oL 103 102,oF 104 1 3,oL 105 104,oN 106 105,Y8 107 .sub 106 1,o 108 (.slc 3 (.t 103) [] [.t 107]),oF 109 1 3,Za 1 109 108]) Q t [] g:=by
 obtain⟨h2,b,h4,c,e,-⟩:=hS.st;obtain⟨rows,k⟩:=hS.bt;have hK:=hS.hK;have hl:=hS.hl;have j:=k.oth.len;have hlt:=k.hlt;have len1:=dl k.own.rows;have e1:((rows.length:Int) - 1)=((rows.length - 1:Nat):Int):=by omega
 obtain⟨y,a,q2,q3⟩:=zW (α:=Node) k.own (n:=rows.length - 1) (by intro h;rw[h]at hlt;simp at hlt) (by omega);have w9:IntKind.wrap .i64 ((rows.length - 1:Nat):Int)=((rows.length - 1:Nat):Int):=ap (by omega) (by omega);have a:tR 3 (V (0,0)) none (some (ZJ ((rows.length - 1:Nat):Int))) g=.val y:=a;simp only[sz,simprocAttr,b,hS.f1,len1,XV,XF,e1,w9,a,q2.1,q2.2];have f:=q3 P3 0 _ g.h (λ_ _=>rfl) hS.sl;exact fin _ _ gr _ _ (by simp[sx,b]) (by simp[sx,h4]) (by simp[TA]) (by simp[TA,hS.f2]) (f.far λi hi=>by simp[TA,Si hi]) (by have:=hS.hK;have:=hS.hl;rw[Wf];omega)
end
theorem LS.upd{L:List Node}{J:Nat}{x x':Node}(hx:L[J]?=some x)(hl:x'.rows.length=x.rows.length){k:Ky}(h:LS (L.set J x') k):LS L k:=by
 rcases h with h|⟨i,q,z,h,hz,hq⟩
 ·exact .inl h
 ·rw[Wi]at hz
  by_cases e:J=i
  ·subst e;rw[VC rfl]at hz
   split at hz
   ·injection hz with hz;subst hz;exact .inr ⟨J,q,x,h,hx,by omega⟩
   ·cases hz
  ·rw[Vz e]at hz;exact .inr ⟨i,q,z,h,hz,hq⟩
theorem BLs.upd{K J:Nat}{L:List Node}{V:Ky->AV}{E:Ky->En}{rows:List (List AV)}{x':Node}(hO:Oth K L J V E rows)(e0:E (0,0)=.sl 3 rows)(hrow:rows[J]?=some (lH V J x'.card))(hnd:NdOk K V E J x'):BLs K V E (L.set J x'):=by
 refine⟨⟨rows,e0,by simp[hO.len],λi z hz=>?_⟩,λi z hz=>?_⟩
 ·rw[Wi]at hz
  by_cases e:J=i
  ·subst e;rw[VC rfl]at hz
   split at hz
   ·injection hz with hz;subst hz;exact hrow
   ·cases hz
  ·rw[Vz e]at hz;exact hO.ns i z (WD e) hz
 ·rw[Wi]at hz
  by_cases e:J=i
  ·subst e;rw[VC rfl]at hz
   split at hz
   ·injection hz with hz;subst hz;exact hnd
   ·cases hz
  ·rw[Vz e]at hz;exact hO.nd i z (WD e) hz
def Node.wr(x:Node)(r:Nat)(y:List Int):Node:=⟨x.card,x.parents,x.rows.set r y⟩
abbrev LBS (W:AV)(J:Nat)(Rw:Int):List (Nat×AV):=[(2,ZK 0),(3,ZK 1),(4,ZK 2),(10,eJ 3 W J 0),(11,ZJ Rw)]
section
variable {d K J r:Nat}{L:List Node}{x:Node}{bx:lI}{gr Rw:Int}{t t':T}{g gb:G}{V:Ky->AV}{E:Ky->En}{Q:QT}{y y':List Int}
theorem BS.put(hS:BS K J L x bx gr (r:Int) t g V E)(hy:x.rows[r]?=some y)(hHb:Hp gb 3 (LS L) V (ups E (J+1,2+r) (.sl 1 (y'.map ci))))(frb:∀i,i<3->gb.h.get i=g.h.get i)(hyl:y'.length<=K)(st:St t' (LBS (V (0,0)) J (r:Int))) :
  BS K J (L.set J (x.wr r y')) (x.wr r y') bx gr (r:Int) t' gb V (ups E (J+1,2+r) (.sl 1 (y'.map ci))):=by
 obtain⟨rows,a⟩:=hS.bt;obtain⟨rws,hW⟩:=hS.bw;have hr:=(Vv.1 hy).1;have c:=hW.at_ r y hy;have d:=(Vv.1 hS.hx).1;have b:=Ey (r:=r) (V':=V) (E':=ups E (J+1,2+r) (.sl 1 (y'.map ci))) (y':=y') a.nd hW.at_ hW.len hr (ac _ _ (by simp<;>omega)) (by rw[ac _ _ (by simp<;>omega),hW.e1,xn c]) (ax _ _ _) (λ_ _=>rfl) (λq hq=>ac _ _ (by simp<;>omega)) hyl;have hl:(x.wr r y').rows.length=x.rows.length:=by simp[Node.wr]
 refine⟨st,hHb.sub λk hk=>LS.upd hS.hx hl hk,by rw[frb 0 (by omega)];exact hS.f0,by rw[frb 1 (by omega)];exact hS.f1,by rw[frb 2 (by omega)];exact hS.f2,BLs.upd a.oth.e (by rw[ac _ _ (by simp<;>omega)];exact a.e0) a.row b,by rw[WH d],.inr ⟨r,rfl,by omega⟩,hS.hK,by simpa using hS.hl⟩
theorem BS.mv(hS:BS K J L x bx gr Rw t g V E)(hh:gb.h=g.h)(hn:g.nx<=gb.nx)(st:St t' (LBS (V (0,0)) J Rw)):BS K J L x bx gr Rw t' gb V E :=
 ⟨st,hS.hp.same hh hn,by rw[hh];exact hS.f0,by rw[hh];exact hS.f1,by rw[hh];exact hS.f2,hS.bl,hS.hx,hS.hR,hS.hK,hS.hl⟩
structure BR (x:Node) (J r:Nat) (y:List Int) (g:G) (V:Ky->AV) (E:Ky->En) (rws:List (List AV)):Prop where
 wr:ak g.h 1 (V (J+1,1))=some rws
 rl:r<rws.length
 rw_:rws[r]?=some [V (J+1,2+r)]
 ry:nA (V (J+1,1))=true
 yr:ak g.h 1 (V (J+1,2+r))=some (y.map ci)
 ye:E (J+1,2+r)=.sl 1 (y.map ci)
 yl:y.length<=K
theorem BS.br(hS:BS K J L x bx gr (r:Int) t g V E)(hy:x.rows[r]?=some y):∃rws,BR (K:=K) x J r y g V E rws:=by
 obtain⟨rows,a⟩:=hS.bt;obtain⟨rws,hW⟩:=hS.bw;have hr:=(Vv.1 hy).1;have k:r<rws.length:=by have:=hW.len;omega
 have h:=a.nd.rr r y hy;exact⟨rws,hW.own.rows,k,hW.at_ r y hy,fR hW.own (by omega),(hS.hp.own (LS.s hS.hx (by omega)) h).rows,h,a.nd.len.2.2 y (VA hy)⟩
theorem bc8(hS:BS K J L x bx gr Rw t g V E)(fin:vX Q) :
  wp C0 d none (sQ [oM 213 11,Y8 214 .geq 213 0,oM 215 214,Zf 216 215 true 10,og 217 215 true (.nilc (.t 216)),Zh 218 215 true 2 217,Zg 219 215 true 218,Zf 220 215 true 11,ZA 221 215 true 1 219 220,Zg 222 215 true 221,Zk 223 215 true 222,Zj 224 215 true .gtr 223 0,Zd 225 215 224] (ZH 225 (ZI (.feet [0,1,3,7,0,0,32,96,224,0,992,2016,4064,8160,16383,32767] [oM 226 10,Zb 227 226,oF 228 2 227,oL 229 228,oM 230 11,oM 231 10,Zb 232 231,oF 233 2 232,oL 234 233,oM 235 11,oX 236 234 235,oL 237 236,oN 238 237,o 239 (.mks 1 8 [ZJ 0] (.t 238) (.t 238)),oX 240 229 230,Za 1 240 239]) (.feet [0,1,3,7,0,31,63,0,128,511,1023] [oM 241 10,Zb 242 241,oF 243 2 242,oL 244 243,oM 245 11,oX 246 244 245,oL 247 246,oF 248 0 3,oL 249 248,o 250 (.ixs 1 (.t 247) (qI 0)),Za 1 250 249])) (.skip))) Q t [] g:=by
 obtain⟨h2,u,h4,f,c,-⟩:=hS.st;obtain⟨rows,a⟩:=hS.bt;obtain⟨rws,hW⟩:=hS.bw;have hK:=hS.hK;have hl:=hS.hl;have S:=hS.hp.nx;rcases hS.hR with⟨rfl,h0⟩|⟨r,rfl,hr⟩
 ·simp only[sz,simprocAttr,c,show decide ((-1:Int) >= 0)=false from rfl];exact hS.fin0 fin (by simp[sx,u]) (by simp[sx,h4])
 ·obtain⟨y,D⟩:∃y,x.rows[r]?=some y:=⟨_,Vt hr⟩;have m:=hW.at_ r y D;have B:LS L (J+1,2+r):=LS.s hS.hx (by omega);have N:=hS.hp.own B (a.nd.rr r y D);have O:=a.nd.len.2.2 y (VA D);have ly:=dl N.rows;rw[VF]at ly;have l:r<rws.length:=by have:=hW.len;omega
  have M:nA (V (J+1,1))=true:=fR hW.own (by omega);simp only[sz,simprocAttr,f,c,show decide ((r:Int) >= 0)=true from by simp,bz a.ry,bF a.ry,a.own.rows,a.hlt,a.row,hW.own.rows,l,m,ly];refine aX (λhb=>?_) (λhb=>?_)
  ·have w:0<y.length:=by simpa using hb
   obtain⟨A,R⟩:∃A,A=SC.feet [0,1,3,7,0,31,63,0,128,511,1023] [oM 241 10,Zb 242 241,oF 243 2 242,oL 244 243,oM 245 11,oX 246 244 245,oL 247 246,oF 248 0 3,oL 249 248,o 250 (.ixs 1 (.t 247) (qI 0)),Za 1 250 249]:=⟨_,rfl⟩;rw[<-R];refine bB (P:=λt' df g'=>df=[]/\∃L' x' V' E',BS K J L' x' bx gr (r:Int) t' g' V' E'/\x'.rows[r]?=some (List.replicate y.length 0)) ?_ ?_
   ·simp only[sz,simprocAttr,sf,f,c,bz a.ry,bF a.ry,a.own.rows,a.hlt,a.row,hW.own.rows,l,m,ly];refine kK (b:=3) (n:=y.length) (by unfold aT;omega) (by unfold aT;omega) (by first| (simp;done)| (simp;omega)) λW ga hWo na fra vW lga=>?_;simp only[sy]at na fra vW lga;have I:=(hS.hp.step (g':=G.mk g.h g.nx []) (Vu _) (λ_ _ _=>rfl)).set (g':=ga) (k:=(J+1,2+r)) (v':=W) (e':=.sl 1 ((List.replicate y.length (0:Int)).map ci)) B (by rw[List.map_replicate];exact hWo) (by show g.nx<=ga.nx;omega) (λi _ hi _=>fra i (by have hi:i<g.nx:=hi;omega)) (.inr ⟨_,by rw[cp hWo];exact vW,by show g.nx<=_;omega⟩);have F:ups V (J+1,2+r) W (J+1,1)=V (J+1,1):=ac _ _ (by simp<;>omega);have H:ups E (J+1,2+r) (.sl 1 ((List.replicate y.length (0:Int)).map ci)) (J+1,1)=.sl 1 rws:=by rw[ac _ _ (by simp<;>omega)];exact hW.e1
    have rwa:ak ga.h 1 (V (J+1,1))=some rws:=by rw[<-F];exact (I.own (LS.s hS.hx (by omega)) H).rows
    simp only[sz,simprocAttr,sf,rwa,l];refine (I.same (g':=_) (by simp) (by simp<;>omega)).putv (k:=(J+1,1)) (i:=r) (off:=0) (n:=1) (LS.s hS.hx (by omega)) F (row':=[W]) H m (by rw[hWo.cell.1];rfl) hWo.cell.2 (by rw[hWo.cell.1];rfl) λgb hHb nb frb fob=>?_;simp only[sy]at nb frb fob ⊢;refine⟨?_,L.set J (x.wr r (List.replicate y.length 0)),x.wr r (List.replicate y.length 0),_,_,⟨?_,(hHb.same (g':=_) (by simp) (by simp<;>omega)).sub λk hk=>LS.upd hS.hx (by simp[Node.wr]) hk,?_,?_,?_,BLs.upd a.oth.v.e.e ?_ ?_ ?_,by rw[WH (Vv.1 hS.hx).1],.inr ⟨r,rfl,by simpa [Node.wr] using hr⟩,hK,by simpa using hl⟩,by simp[Node.wr,hr]⟩
    ·simp only[VJ,VN,VH,VE];refine aA (false::(Zm (Zl (true::(false::(true::[])))))) [(0,13),(1,13),(2,13),(3,13),(4,13)] (by simp[All2,ah,ay]) (by decide) ?_;have ro1:=a.own.refs_lt;rintro p hp x y hx D;simp only[VP,VG,Xh]at hp;rcases hp with rfl|rfl|rfl|rfl|rfl<;>(simp at hx D;subst hx;subst D;refine bI rfl rfl rfl rfl ?_ ?_ ?_<;>simp[ah,ay,fT a.ry,lga]<;>first|omega| (intro h;have:=ro1 _ h;omega)| (intro i' z e;have:=ro1 i' z;omega)| (intro i' z;have:=ro1 i' z;omega)|skip)
    ·simp[St,sx,h2,u,h4,f,c,ac]
    ·simp only[bumpG_h];rw[frb 0 (by omega)];(try simp);rw[fra 0 (by omega),hS.f0]
    ·simp only[bumpG_h];rw[frb 1 (by omega),ac _ _ (by simp<;>omega)];(try simp);rw[fra 1 (by omega),hS.f1]
    ·simp only[bumpG_h];rw[frb 2 (by omega)];(try simp);rw[fra 2 (by omega),hS.f2]
    ·rw[ac _ _ (by simp<;>omega),ac _ _ (by simp<;>omega),a.e0]
    ·rw[lH,ac _ _ (by simp<;>omega),ac _ _ (by simp<;>omega)];exact a.row
    ·exact Ey (r:=r) (y':=List.replicate y.length 0) a.nd hW.at_ hW.len hr (by rw[ac _ _ (by simp<;>omega),ac _ _ (by simp<;>omega)]) (by rw[ax,ax]) (by rw[ac _ _ (by simp<;>omega),ax]) (λq hq=>ac _ _ (by simp<;>omega)) (λq hq=>by rw[ac _ _ (by simp<;>omega),ac _ _ (by simp<;>omega)]) (by simpa using O)
   clear h2 u h4 f c a hW B N hS m l M;rintro t df g2 ⟨rfl,L',x',V',E',hS,C⟩;rw[R];obtain⟨h2,u,h4,f,c,-⟩:=hS.st;obtain⟨rows,a⟩:=hS.bt;obtain⟨rws,hR⟩:=hS.br C;have T:0<((List.replicate y.length (0:Int)).map ci).length:=by simpa using w
   have U:((List.replicate y.length (0:Int)).map ci)[0]?=some (ci 0):=by simp[w]
   have u3:=hR.yr;have X:=hR.rl;simp only[sz,simprocAttr,sf,u,f,c,hS.f1,bz a.ry,bF a.ry,a.own.rows,a.hlt,a.row,hR.wr,X,hR.rw_,Gc u3 T];refine (hS.hp.same (g':=_) (by simp) (by simp<;>omega)).put (k:=(J+1,2+r)) (i:=0) (off:=0) (n:=1) (row:=ci 0) (row':=ci gr) (LS.s hS.hx (by have:=(Vv.1 C).1;omega)) hR.ye U rfl rfl rfl λgb hHb nb frb fob=>?_;simp only[sy]at nb frb fob ⊢;refine⟨?_,?_⟩
   ·simp only[VJ,VN,VH,VE];exact aA (Zn (Zl (true::[]))) [] (by simp[All2,ah,ay]) (by decide) (by simp)
   rw[<-Xa]at hHb;have j:=hS.put (t':=t) C (hHb.same (g':=G.mk gb.h gb.nx []) rfl (Vu _)) (λi hi=>by have:=frb i hi;simpa using this) (by simpa using hR.yl) (by simp[St,h2,u,h4,f,c]);exact fin _ _ gr _ _ (by simp[sx,u]) (by simp[sx,h4]) (by simpa using j.f1) (by simpa using j.f2) (j.sl.heap (by simp)) (by have:=j.hK;have:=j.hl;omega)
  ·simp only[sx];exact hS.fin0 fin (by simp[sx,u]) (by simp[sx,h4])
theorem Pr{n:Nat}(hn:n<=1000000)(hy0:y.length=n)(hyr:x.rows[r]?=some y)(hS:BS K J L x bx gr (r:Int) t g V E)(h12:tat t 12=ZJ 0)(h13:tat t 13=ZJ ((n:Int) - 1))
  (fin:∀t g L x E,BS K J L x bx gr (r:Int) t g V E->Q (.exit 5) t [] g):wpL (wp C0 d none eA) Q t [] g:=by
 obtain⟨FR,q⟩:∃FR,FR=SC.feet [0,1,3,7,0,31,63,0,0,256,768,1792,0,7936,16128,0,65280,130816,262143,524287] [oM 279 10,Zb 280 279,oF 281 2 280,oL 282 281,oM 283 11,oX 284 282 283,oL 285 284,oM 286 12,oM 287 10,Zb 288 287,oF 289 2 288,oL 290 289,oM 291 11,oX 292 290 291,oL 293 292,oM 294 13,oX 295 293 294,oL 296 295,oX 297 285 286,Za 1 297 296]:=⟨_,rfl⟩;simp only[eA];rw[<-q];refine aP (n / 2) (by omega) (λj t df g=>df=[]/\∃L x y E,BS K J L x bx gr (r:Int) t g V E/\x.rows[r]?=some y/\y.length=n/\tat t 13=ZJ ((n:Int) - 1 - (j:Int)))
  ⟨rfl,L,x,y,E,hS,hyr,hy0,by simp[h13]⟩ h12 (by decide) ?_ ?_ ?_ ?_
 ·rintro j t df g v s (rfl|rfl|rfl) ⟨rfl,L,x,y,E,hS,h⟩<;>exact⟨rfl,L,x,y,E,⟨by have:=hS.st;simpa [St,sx] using this,hS.hp,hS.f0,hS.f1,hS.f2,hS.bl,hS.hx,hS.hR,hS.hK,hS.hl⟩,by simpa [sx] using h⟩
 ·rintro j t df g F ⟨rfl,L,x,y,E,hS,hyr,p,h13⟩ h12;simp only[sz,simprocAttr,h12,h13];refine⟨by congr 1;exact decide_eq_decide.2 (by omega),⟨L,x,y,E,⟨by have:=hS.st;simpa [St,sx] using this,hS.hp,hS.f0,hS.f1,hS.f2,hS.bl,hS.hx,hS.hR,hS.hK,hS.hl⟩,hyr,p⟩⟩
 ·rintro j t df g F ⟨rfl,L,x,y,E,hS,hyr,p,h13⟩ h12;have hk:((n:Int) - 1 - (j:Int))=((n - 1 - j:Nat):Int):=by omega
  rw[hk]at h13;obtain⟨z,hz⟩:∃z,y[j]?=some z:=⟨_,Vt (by omega)⟩;obtain⟨z',B⟩:∃z,y[n - 1 - j]?=some z:=⟨_,Vt (by omega)⟩;refine bB (P:=λt' df g'=>df=[]/\g'=g/\BS K J L x bx gr (r:Int) t' g V E/\St t' [(12,ZJ (j:Int)),(13,ZJ ((n - 1 - j:Nat):Int)),(14,ZJ z)]) ?_ ?_
  ·obtain⟨h2,m,h4,b,c,-⟩:=hS.st;obtain⟨rows,e⟩:=hS.bt;obtain⟨rws,hR⟩:=hS.br hyr;have A:j<(y.map ci).length:=by simp;omega
   have C:(y.map ci)[j]?=some (ci z):=by rw[Vw,hz];rfl
   have l:=xi hR.yr A;simp only[sz,simprocAttr,b,c,h12,bz e.ry,bF e.ry,e.own.rows,e.hlt,e.row,hR.wr,hR.rl,hR.rw_,hR.yr,A,C,ci];exact⟨⟨by simp[St,sx,h2,m,h4,b,c],hS.hp,hS.f0,hS.f1,hS.f2,hS.bl,hS.hx,hS.hR,hS.hK,hS.hl⟩,by simp[St,sx,h12,h13]⟩
  clear hS h12 h13;rintro t df g1 ⟨rfl,rfl,hS,h12,h13,f,-⟩;rw[q];refine bB (P:=λt' df g'=>df=[]/\∃L x E,BS K J L x bx gr (r:Int) t' g' V E/\x.rows[r]?=some (y.set j z')/\St t' [(12,ZJ (j:Int)),(13,ZJ ((n - 1 - j:Nat):Int)),(14,ZJ z)]) ?_ ?_
  ·obtain⟨h2,m,h4,b,c,-⟩:=hS.st;obtain⟨rows,e⟩:=hS.bt;obtain⟨rws,hR⟩:=hS.br hyr;have A:j<(y.map ci).length:=by simp;omega
   have C:(y.map ci)[j]?=some (ci z):=by rw[Vw,hz];rfl
   have u3:n - 1 - j<(y.map ci).length:=by simp;omega
   have D:(y.map ci)[n - 1 - j]?=some (ci z'):=by rw[Vw,B];rfl
   have l:=xi hR.yr A;have o:=hR.rl;simp only[sz,simprocAttr,sf,b,c,h12,h13,bz e.ry,bF e.ry,e.own.rows,e.hlt,e.row,hR.wr,o,hR.rw_,hR.yr,A,u3,D,ci];refine (hS.hp.same (g':=_) (by simp) (by simp;omega)).put (k:=(J+1,2+r)) (i:=j) (off:=0) (n:=1) (row:=ci z) (row':=ci z') (LS.s hS.hx (by have:=(Vv.1 hyr).1;omega)) hR.ye C rfl rfl rfl λgb hHb nb frb fob=>?_;simp only[sy]at nb frb fob ⊢;rw[<-Xa]at hHb;have a:=hS.put (t':=t) hyr (hHb.same (g':=G.mk gb.h gb.nx []) rfl (Vu _)) (λi hi=>by have:=frb i hi;simpa using this) (by simpa using hR.yl) (by simp[St,h2,m,h4,b,c]);refine⟨?_,_,_,_,a.mv (by simp) (by simp) (by simp[St,sx,h2,m,h4,b,c]),by simp[Node.wr,(Vv.1 hyr).1],by simp[St,sx,h12,h13,f]⟩;simp only[VJ,VN,VH,VE];exact aA (false::(Zn (Zl (Zl (true::[]))))) [] (by simp[All2,ah,ay]) (by decide) (by simp)
  clear hS h12 h13 f hyr;rintro t df g2 ⟨rfl,L,x,E,hS,hyr,h12,h13,f,-⟩;refine bB (P:=λt' df g'=>df=[]/\∃L x E,BS K J L x bx gr (r:Int) t' g' V E/\x.rows[r]?=some ((y.set j z').set (n - 1 - j) z)/\St t' [(12,ZJ (j:Int)),(13,ZJ ((n - 1 - j:Nat):Int))]) ?_ ?_
  ·obtain⟨h2,m,h4,b,c,-⟩:=hS.st;obtain⟨rows,e⟩:=hS.bt;obtain⟨rws,hR⟩:=hS.br hyr;have u3:n - 1 - j<((y.set j z').map ci).length:=by simp;omega
   obtain⟨w,hw⟩:∃w,(y.set j z')[n - 1 - j]?=some w:=⟨_,Vt (by simp;omega)⟩;have D:((y.set j z').map ci)[n - 1 - j]?=some (ci w):=by rw[Vw,hw];rfl
   have l:=xi hR.yr u3;have o:=hR.rl;have u:=hR.yr;simp only[sz,simprocAttr,b,c,h13,f,bz e.ry,bF e.ry,e.own.rows,e.hlt,e.row,hR.wr,o,hR.rw_,u,u3];refine hS.hp.put (k:=(J+1,2+r)) (i:=n - 1 - j) (off:=0) (n:=1) (row:=ci w) (row':=ci z) (LS.s hS.hx (by have:=(Vv.1 hyr).1;omega)) hR.ye D rfl rfl rfl λgb hHb nb frb fob=>?_;simp only[sx,sy];rw[<-Xa]at hHb;have a:=hS.put (t':=t) hyr hHb frb (by simpa using hR.yl) (by simp[St,h2,m,h4,b,c]);exact⟨_,_,_,⟨by simp[St,sx,h2,m,h4,b,c],a.hp,a.f0,a.f1,a.f2,a.bl,a.hx,a.hR,a.hK,a.hl⟩,by simp[Node.wr,(Vv.1 hyr).1],by simp[St,sx,h12,h13]⟩
  clear hS h12 h13 f hyr;rintro t df g3 ⟨rfl,L,x,E,hS,hyr,h12,h13,-⟩;simp only[sz,simprocAttr,h12,h13];refine⟨L,x,(y.set j z').set (n - 1 - j) z,E,hS.mv rfl (Vu _) (by have:=hS.st;simpa [St,sx] using this),hyr,by simp[p],?_⟩;rw[ap (by omega) (by omega)];congr 1;omega
 ·rintro t df g ⟨rfl,L,x,y,E,hS,-⟩;exact fin t g L x E hS
theorem bc9(hS:BS K J L x bx gr Rw t g V E)(fin:vX λe t df g=>Q e t df g) :
  wp C0 d none (sQ [oM 253 11,Y8 254 .geq 253 0] (ZH 254 (ZI (.quiet [oM 255 10,Zb 256 255,oF 257 2 256,oL 258 257,oM 259 11,oX 260 258 259,oL 261 260,oN 262 261,Y8 263 .sub 262 1,oK 12 0,oM 13 263]) (.blk 5 (.loop eA))) (.skip))) Q t [] g:=by
 obtain⟨h2,c,h4,a,k,-⟩:=hS.st;obtain⟨rows,b⟩:=hS.bt;rcases hS.hR with⟨rfl,h0⟩|⟨r,rfl,hr⟩
 ·simp only[sx,SO.run,↓reduceIte,k];exact⟨λh=>by simp at h,λ_=>hS.fin0 fin (by simp[sx,c]) (by simp[sx,h4])⟩
 ·simp only[sx,SO.run,↓reduceIte,k];refine⟨λ_=>?_,λh=>by simp at h⟩;obtain⟨y,f⟩:∃y,x.rows[r]?=some y:=⟨_,Vt hr⟩;obtain⟨rws,hR⟩:=hS.br f;have ly:=dl hR.yr;rw[VF]at ly;have i:=hR.yl;have hK:=hS.hK;have w9:IntKind.wrap .i64 ((y.length:Int) - 1)=(y.length:Int) - 1:=ap (by omega) (by omega);simp only[sx,sy,SO.run,↓reduceIte,Nat.reduceEqDiff,a,k,bz b.ry,bF b.ry,b.own.rows,b.hlt,b.row,hR.wr,hR.rl,hR.rw_,ly,w9,Yj,VB];refine Pr (n:=y.length) (L:=L) (x:=x) (y:=y) (E:=E) (by omega) rfl f ⟨by simp[St,sx,h2,c,h4,a,k],hS.hp,hS.f0,hS.f1,hS.f2,hS.bl,hS.hx,hS.hR,hS.hK,hS.hl⟩ (by simp[sx]) (by simp[sx]) ?_;intro t g L x E hS;obtain⟨h2,c,h4,a,k,-⟩:=hS.st;simp only[sx,↓reduceIte];exact hS.fin0 fin c h4
end
section
variable {gr:Int}{K:Nat}
def Pl:VS:=λP k h v=>∃m:Net,m.nodes.length<=1000002/\Agg m P k h v
theorem QL:Snb Pl 1:=rH λm=>bW _
theorem bk5{nv:AV}{nds:List Node}(h3:tat t 3=ZK 1)(h4:tat t 4=ZK 2)(e1:g.h.get 1=Y6 2 [[ZJ gr,nv]])(e2:g.h.get 2=Y6 2 [[ZJ 0,.nils]])
  (hn:SlR P3 0 g.h nds nv) (hnl:nds.length<=1000002):wp C0 d none eB (fnQ C0 d [SR.cell true 2 4] λv g'=>∃P,Pl P 0 g'.h v) t [] g:=by
 simp only[sz,simprocAttr,eB,h3,h4,e1,e2];refine⟨P3,⟨gr,nds⟩,hnl,_,rfl,?_⟩;exact Rp.mono (P:=P3) (h:=g.h) (dI.2 ⟨nv,rfl,hn⟩) (λi hi=>⟨hi,by rw[af _ _ _ (by have:3<=i:=hi;omega)]⟩) (Vu _)
theorem bk6{J:Nat}{L:List Node}{x:Node}{bx:lI}{Rw:Int}{V:Ky->AV}{E:Ky->En}(hS:BS K J L x bx gr Rw t g V E)
  (last:vX (kB 4 (kS (wp C0 d none eB Q) Q))):wp C0 d none ig Q t [] g:=by
 have c:bx.1.toNat<256:=bx.1.toNat_lt;obtain⟨h2,b,h4,k,a,-⟩:=hS.st;have mv:∀{t':T},St t' (LBS (V (0,0)) J Rw)->BS K J L x bx gr Rw t' g V E:=λh=>hS.mv rfl (Vu _) h;simp only[sz,simprocAttr,ig,h2,hS.f0,u8v,cX .u8 (show (0:Int)<=(bx.1.toNat:Int) by omega) (show (0:Int)<12 by decide)];refine aX (λhb=>?_) (λhb=>?_)
 ·exact bc0 (mv (by simp[St,sx,h2,b,h4,k,a])) last
 simp only[sz,simprocAttr];refine aX (λhb=>?_) (λhb=>?_)
 ·exact bc1 (mv (by simp[St,sx,h2,b,h4,k,a])) last
 simp only[sz,simprocAttr];refine aX (λhb=>?_) (λhb=>?_)
 ·exact bc2 (mv (by simp[St,sx,h2,b,h4,k,a])) last
 simp only[sz,simprocAttr];refine aX (λhb=>?_) (λhb=>?_)
 ·exact bc3 (mv (by simp[St,sx,h2,b,h4,k,a])) last
 simp only[sz,simprocAttr];refine aX (λhb=>?_) (λhb=>?_)
 ·exact bc4 (mv (by simp[St,sx,h2,b,h4,k,a])) last
 simp only[sz,simprocAttr];refine aX (λhb=>?_) (λhb=>?_)
 ·exact bc5 (mv (by simp[St,sx,h2,b,h4,k,a])) last
 simp only[sz,simprocAttr];refine aX (λhb=>?_) (λhb=>?_)
 ·exact bc6 (mv (by simp[St,sx,h2,b,h4,k,a])) last
 simp only[sz,simprocAttr];refine aX (λhb=>?_) (λhb=>?_)
 ·exact bc7 (mv (by simp[St,sx,h2,b,h4,k,a])) last
 simp only[sz,simprocAttr];refine aX (λhb=>?_) (λhb=>?_)
 ·exact bc8 (mv (by simp[St,sx,h2,b,h4,k,a])) last
 simp only[sz,simprocAttr];refine aX (λhb=>?_) (λhb=>?_)
 ·exact bc9 (mv (by simp[St,sx,h2,b,h4,k,a])) last
 simp only[sz,simprocAttr];refine aX (λhb=>?_) (λhb=>?_)
 ·exact Tm (mv (by simp[St,sx,h2,b,h4,k,a])) last
 exact Tn (mv (by simp[St,sx,h2,b,h4,k,a])) last
theorem bk7{bx:lI}{b:AV}{L:List Node}{V:Ky->AV}{E:Ky->En}(hK:K<=1000000)(hl:L.length<=K)
  (ht:St t [(2,ZK 0),(3,ZK 1),(4,ZK 2)]) (h5:tat t 5=V (0,0)) (hH:Hp g 3 (LS L) V E) (hB:BBn g [u8v bx.1,u8v bx.2.1,u8v bx.2.2.1,ZJ bx.2.2.2] gr b) (hD:BLs K V E L) :
  wp C0 d none ii (fnQ C0 d [SR.cell true 2 4] λv g'=>∃P,Pl P 0 g'.h v) t [] g:=by
 obtain⟨h2,a,h4,-⟩:=ht;obtain⟨p,b1,b2⟩:=hB;obtain⟨rows,e1,e2,w⟩:=hD.ns;have o1:=hH.own LS.z e1;have len1:=dl o1.rows;rw[e2]at len1;have o:=hH.nx;unfold ii;refine aL (P:=λt df g'=>df=[]/\Hp g' 3 (LS L) V E/\St t [(2,ZK 0),(3,ZK 1),(4,ZK 2),(5,V (0,0))]/\g'.h.get 0=Y6 4 [[u8v bx.1,u8v bx.2.1,u8v bx.2.2.1,ZJ bx.2.2.2]]/\g'.h.get 1=Y6 2 [[ZJ gr,V (0,0)]]/\g'.h.get 2=Y6 2 [[ZJ 0,.nils]]) ?_ ?_
 ·simp only[sz,simprocAttr,a,h5,b1,o1.cell.1,o1.cell.2];exact⟨hH.step (by simp) λi hi _=>by simp[TA];omega,by simp[St,sx,h2,a,h4,h5],by simp[p],by simp[b2]⟩
 clear p b1 b2 h2 a h4 h5 hH o1 o;rintro t df g1 hg;obtain⟨rfl,hH,⟨h2,a,h4,h5,-⟩,f0,f1,f2⟩:=hg;have o1:=hH.own LS.z e1;have hsl:=hD.sl hH (by omega) (by omega);simp only[sz,simprocAttr,h5,len1];refine aX (λhb=>?_) (λhb=>?_)
 ·simp only[sz,simprocAttr,a,h4,f1,f2];refine⟨P3,⟨gr,L⟩,by dsimp only;omega,_,rfl,?_⟩;exact Rp.mono (P:=P3) (h:=g1.h) (dI.2 ⟨_,rfl,hsl⟩) (λi hi=>⟨hi,by rw[af _ _ _ (by have:3<=i:=hi;omega)]⟩) (Vu _)
 have n:0<L.length:=by have:=Xr hb;omega
 have at8:bx.2.1.toNat<256:=bx.2.1.toNat_lt;have em:((bx.2.1.toNat:Int) % (L.length:Int))=((bx.2.1.toNat % L.length:Nat):Int):=by omega
 have q:bx.2.1.toNat % L.length<L.length:=WP _ n;obtain⟨J,m⟩:∃J,J=bx.2.1.toNat % L.length:=⟨_,rfl⟩;rw[<-m]at em q;obtain⟨x,hx⟩:∃x,L[J]?=some x:=⟨_,Vt q⟩;have f:J<rows.length:=by omega
 have e:rows[J]?=some [ZJ x.card,V (J+1,0),V (J+1,1)]:=w J x hx;have c:nA (V (0,0))=true:=fR o1 (by omega);obtain⟨rws,y,q2,q3⟩:=(hD.nd J x hx).rs;have u:=(hD.nd J x hx).len;have o2:=hH.own (LS.s hx (by omega)) y;have len2:=dl o2.rows;rw[q2]at len2;rw[z0,t9];refine aL (P:=λt df g'=>df=[]/\g'=g1/\St t [(2,ZK 0),(3,ZK 1),(4,ZK 2),(10,eJ 3 (V (0,0)) J 0)]) ?_ ?_
 ·simp only[sz,simprocAttr,h2,a,h4,h5,f0,len1,u8v,ap (show -9223372036854775808<=(bx.2.1.toNat:Int) by omega) (show (bx.2.1.toNat:Int)<9223372036854775808 by omega),cX .i64 (show (0:Int)<=(bx.2.1.toNat:Int) by omega) (show 0<(L.length:Int) by omega),em,o1.rows,f,St]
 clear h2 a h4 h5;rintro t df g' ⟨rfl,rfl,h2,a,h4,k,-⟩;have A:bx.2.2.1.toNat<256:=bx.2.2.1.toNat_lt;refine aL (P:=λt df g''=>df=[]/\g''=g'/\St t (LBS (V (0,0)) J (-1))) ?_ ?_
 ·simp only[sz,simprocAttr,h2,a,h4,k,St]
 clear h2 a h4 k;rintro t df g'' ⟨rfl,rfl,h2,a,h4,k,j,-⟩;refine bB (P:=λt df g3=>df=[]/\g3=g''/\∃Rw:Int,((Rw = -1/\x.rows.length=0)\/∃r:Nat,Rw=(r:Int)/\r<x.rows.length)/\St t (LBS (V (0,0)) J Rw)) ?_ ?_
 ·simp only[sz,simprocAttr,k,bz c,bF c,o1.rows,f,e,len2];refine aX (λhb=>?_) (λhb=>?_)
  ·have l:0<x.rows.length:=by simpa using hb
   have em2:((bx.2.2.1.toNat:Int) % (x.rows.length:Int))=((bx.2.2.1.toNat % x.rows.length:Nat):Int):=by omega
   have hm:=WP bx.2.2.1.toNat l;simp only[sz,simprocAttr,h2,k,f0,u8v,ap (show -9223372036854775808<=(bx.2.2.1.toNat:Int) by omega) (show (bx.2.2.1.toNat:Int)<9223372036854775808 by omega),bz c,bF c,o1.rows,f,e,len2,cX .i64 (show (0:Int)<=(bx.2.2.1.toNat:Int) by omega) (show 0<(x.rows.length:Int) by omega),em2];exact⟨_,.inr ⟨_,rfl,hm⟩,by simp[St,sx,h2,a,h4,k]⟩
  ·have h0:x.rows.length=0:=by have:=Xr hb;omega
   simp only[sx,sy];exact⟨-1,.inl ⟨rfl,h0⟩,by simp[St,sx,h2,a,h4,k,j]⟩
 clear h2 a h4 k j;rintro t df g3 ⟨rfl,rfl,Rw,hR,ht⟩;refine bk6 (K:=K) (L:=L) (x:=x) (bx:=bx) (gr:=gr) ⟨ht,hH,f0,f1,f2,hD,hx,hR,hK,hl⟩ ?_;intro t g gr nv nds a h4 e1 e2 s1 s2;rw[Ej,t9];exact bk5 a h4 e1 e2 s1 s2
theorem Ps{x:lI}{m:Net}{v w:AV}(hd:0<d)(hx:Agg x NoP 0 g.h v)(hm:Agg m NoP 0 g.h w)(hK:K<=1000000)(hl:m.nodes.length<=K)
  (hb:∀y∈m.nodes,y.parents.length<=K/\y.rows.length<=K/\∀r∈y.rows,r.length<=K):∃r,am C0 d 25 [v,w] g=.val r/\Pl NoP 0 .nil r:=by
 have e0:=mj d hx;have e1:=mj d hm;obtain⟨cs,rfl,hc⟩:=hx;have hc:=Bt.1 hc;subst hc;obtain⟨cs,rfl,hc⟩:=hm;obtain⟨b,rfl,hN⟩:=dI.1 hc;rw[uU];refine a_ xX (xs:=[.agg [u8v x.1,u8v x.2.1,u8v x.2.2.1,ZJ x.2.2.2],.agg [ZJ m.grain,b]]) (by simp only[aG,e0,e1]) (by simp[lw]) QL (by decide) hd ?_;clear e0 e1 hc;have hN:=hN.tree (h':=.nil) (Vu _);simp only[sz,simprocAttr,lw];obtain⟨g0,hg0⟩:∃g0,g0=((G.empty.new (Y6 4 [[u8v x.1,u8v x.2.1,u8v x.2.2.1,ZJ x.2.2.2]])).new (Y6 2 [[ZJ m.grain,b]])).new (Y6 2 [[ZJ 0,.nils]]):=⟨_,rfl⟩;rw[<-hg0];have f0:BBn g0 [u8v x.1,u8v x.2.1,u8v x.2.2.1,ZJ x.2.2.2] m.grain b:=by rw[hg0];exact⟨by simp[sx,TA],by simp[sx,TA],by simp[sx]⟩
 have f:g0.nx=3:=by rw[hg0];simp[sx]
 clear hg0;have a:Hp g0 3 (LS []) (λ_=>.nils) (λk=>.sl 3 []):=⟨λk _=>.inl ⟨rfl,rfl⟩,λk l _ _ _ id h=>(by cases h),by omega⟩;simp only[sz,simprocAttr,nX];refine SQ (V:=λ_=>.nils) hK hN hl hb (by simp[St,sx]) (by simp[sx]) (by simp[sx]) a f0 ⟨⟨[],rfl,rfl,λi y hy=>by simp at hy⟩,λi y hy=>by simp at hy⟩ ?_;clear a;intro t g V E ht h5 a c e;simp only[sx,↓reduceIte];exact bk7 hK hl ht h5 a c e
end
theorem lT{α:Type} [Rp α]{x:α}{P:Nat->Prop}{cs:List AV}(h:Rp.rp NoP 0 .nil x cs)(h':H):Agg x P 0 h' (.agg cs):=⟨_,rfl,Rp.tree h (Vu _)⟩
theorem E6(g:G):am C0 1 5 [] g=.val (.bool true):=by kernel_rfl
theorem R1{cs:List AV}(h:cs.length=8):be (Y6 8 [cs]) 0 0 true 8 0=.val (.agg cs):=by
 match cs,h with
 |[a,b,c,d,e,f,g,i],_=>rfl
theorem R2{cs:List AV}(h:cs.length=9):be (Y6 9 [cs]) 0 0 true 9 0=.val (.agg cs):=by
 match cs,h with
 |[a,b,c,d,e,f,g,i,j],_=>rfl
theorem wV{α:Type} [Rp α]{l:List α}{v:AV}(h:One l NoP 0 .nil v):SlR NoP 0 .nil l v:=by obtain⟨w,e,hw⟩:=h;injection e with e;rw[e];exact hw
theorem R7(a b:Int):D6 true (.flat [.int .i64,.int .i64]) (.agg [ZJ a,ZJ b]) (.agg [ZJ a,ZJ b])=.val (.bool false):=by
 have ha:F7 a a=true:=by rw[q_];simp
 have hb:F7 b b=true:=by rw[q_];simp
 simp only[D6,eqA,j3,dK,qL,ha,hb]
 rfl
structure Fl (l:List Sp) (o:List Br) (f:List Nat) (op:List Bool):Prop where
 lf:f.length=l.length
 lo:op.length=l.length
 so:o.Pairwise λa b=>a.1<b.1
 bd:∀c∈o,0<=c.1/\c.1<(l.length:Int)
 fo:∀i:Nat,i<l.length->(op[i]?=some true↔∃c∈o,c.1=(i:Int))
 ff:∀c∈o,f[c.1.toNat]?=some c.2
structure RmH (gr:Int) (b u5 u6 u7:AV) (l:List Sp) (f:List Nat) (op:List Bool) (g:G):Prop where
 g0:g.h.get 0=Y6 2 [[ZJ gr,b]]
 nx:1<=g.nx
 o5:Own g 1 u5 3 (l.map cs3)
 o6:Own g 1 u6 1 (f.map cu)
 o7:Own g 1 u7 1 (op.map cb)
 d56:∀i,vid u5=some i->vid u6≠some i
 d57:∀i,vid u5=some i->vid u7≠some i
 d67:∀i,vid u6=some i->vid u7≠some i
structure RmV (v u5 u6 u7:AV) (B:Nat) (L:List Int) (g:G):Prop where
 ov:Own g B v 1 (L.map ci)
 d5:∀i,vid v=some i->vid u5≠some i
 d6:∀i,vid v=some i->vid u6≠some i
 d7:∀i,vid v=some i->vid u7≠some i
def SJ:VS:=λP k h v=>∃x:Net×Net,(Drafted x.1/\x.2.nodes.length<=1000002)/\Agg x P k h v
theorem Qi{x:uQ}{y:lI}{xs ys:List AV}(hd:0<d)(hx:Rp.rp NoP 0 .nil x xs)(hy:Rp.rp NoP 0 .nil y ys) :
  ∃r,am C0 d 8 [.agg xs,.agg ys] g=.val r/\SJ NoP 0 .nil r:=by
 have e1:=mj d (lT (P:=NoP) hx g.h);have e2:=mj d (lT (P:=NoP) hy g.h);obtain⟨a1,a2,ex,-⟩:=yq.1 hx;have i:xs.length=3:=by rw[ex];rfl
 have j:ys.length=4:=by rw[Bt.1 hy];rfl
 clear ex a1 a2;rw[y7];refine a_ B0 (xs:=[.agg xs,.agg ys]) (by simp only[aG,e1,e2]) (by simp[qQ]) (rH λo=>bW _) (by decide) hd ?_;simp only[sz,simprocAttr,qQ];obtain⟨g0,hg0⟩:∃g0,g0=((G.empty.new (Y6 xs.length [xs])).new (Y6 ys.length [ys])).new (Y6 4 [[ZJ 0,.nils,ZJ 0,.nils]]):=⟨_,rfl⟩;rw[<-hg0];have f0:g0.h.get 0=Y6 3 [xs]:=by rw[hg0,i];simp[sx,TA]
 have f1:g0.h.get 1=Y6 4 [ys]:=by rw[hg0,j];simp[sx,TA]
 have f2:g0.h.get 2=Y6 4 [[ZJ 0,.nils,ZJ 0,.nils]]:=by rw[hg0];simp[sx]
 have s:g0.nx=3:=by rw[hg0];simp[sx]
 clear hg0;have ld0:be (Y6 3 [xs]) 0 0 true 3 0=.val (.agg xs):=by
  match xs,i with
  |[a,b,c],_=>rfl
 have ld1:be (Y6 4 [ys]) 0 0 true 4 0=.val (.agg ys):=by
  match ys,j with
  |[a,b,c,d],_=>rfl
 obtain⟨rn,en,n,e,cn,rfl,k⟩:=Ji (g:=g0) (d:=d+1) (VI d) (lT (P:=NoP) hx g0.h);obtain⟨b,rfl,t⟩:=dI.1 k;have p:∀y∈n.nodes,y.parents.length<=1000/\y.rows.length<=1000/\∀r∈y.rows,r.length<=1000:=e.b;have v:=e.l;simp only[sz,simprocAttr,s_,f0,ld0,en];simp only[sz,simprocAttr,sf,f1,f2,s,ld1];refine bi (Ps (K:=1000) (VI d) (lT (P:=NoP) hy _) (lT (P:=NoP) k _) (by decide) (by omega) p) ?_;rintro r ⟨m,q,cm,rfl,f⟩;obtain⟨b2,rfl,u⟩:=dI.1 f;have fw:c8 [ZJ 0,.nils,ZJ 0,.nils] [((0,2),.agg [ZJ n.grain,b]),((2,2),.agg [ZJ m.grain,b2])]=some [ZJ n.grain,b,ZJ m.grain,b2]:=rfl;simp only[sz,simprocAttr,sf,f1,f2,s,fw,vE];refine⟨?_,?_⟩
 ·simp only[VJ,VN,VH,VE];exact aA (false::(Zm (true::[]))) [] (by simp[All2,ah,ay]) (by decide) (by simp)
 exact⟨NoP,(n,m),⟨e,q⟩,_,rfl,_,_,rfl,Rp.tree k (Vu _),Rp.tree f (Vu _)⟩
section
variable {q:Nat}{iv:AV}
theorem ix2(w:Nat->AV)(j:Nat)(hj:j<2):ixV false 2 1 (.agg [w 0,w 1]) (ZJ (j:Int))=.val (w j):=by
 have:j=0\/j=1:=by omega
 rcases this with rfl|rfl<;>rfl
theorem Tp(w:Nat->AV)(j:Nat)(hj:j<3):ixV false 3 1 (.agg [w 0,w 1,w 2]) (ZJ (j:Int))=.val (w j):=by
 have:j=0\/j=1\/j=2:=by omega
 rcases this with rfl|rfl|rfl<;>rfl
theorem RX(a b c:Int):c8 [ZJ 0,ZJ 0,ZJ 0] [((0,1),ZJ a),((1,1),ZJ b),((2,1),ZJ c)]=some [ZJ a,ZJ b,ZJ c]:=rfl
theorem IU{a b:AV}(ha:a.cells=[a]/\a.isTup=false)(hb:b.cells=[b]/\b.isTup=false):c8 [.nils,.nils] [((0,1),a),((1,1),b)]=some [a,b]:=by
 simp[c8,bu,ha.1,ha.2,hb.1,hb.2]
 rfl
theorem Ph(x:Int):∃z:Nat,IntKind.wrap .u64 x=(z:Int):=by refine⟨(IntKind.wrap .u64 x).toNat,?_⟩;rw[Yq];simp only[IntKind.wrap,IntKind.bits,IntKind.signed,Bool.false_and];have:(0:Int)<=x % 2 ^ 64:=YP _ (by decide);simpa using this
def LF0(odd:AV)(m:Int)(own nt iv:AV):List (Nat×AV):=[(5,odd),(6,ZJ m),(9,ZK 2),(11,ZK 4),(15,ZK 5),(16,own),(42,nt),(43,iv)]
def LF1(q:Nat)(es jv:AV):List (Nat×AV):=[(18,ZK q),(54,es),(55,jv)]
def LF2(ev xs kv:AV):List (Nat×AV):=[(20,ev),(62,xs),(63,kv)]
theorem MU{e:List Int}{X:List Sp}{own es jv ev xs kv xv:AV}{mm:Nat->Int}(hM:∀h,Agg n NoP 0 h (.agg [ZJ n.grain,nb]))(he:SlR NoP 0 .nil e ev)(hX:SlR NoP 0 .nil X xv)(hXl:X.length<=1000)
  (hq:g.h.get q=Y6 2 [[ZJ n.grain,nb]]) (hqn:q<g.nx)
  (ht:St t ((22,xv)::(71,.agg [ZJ (mm 0),ZJ (mm 1),ZJ (mm 2)])::(72,ZJ 0)::LF2 ev xs kv++LF1 q es jv++LF0 odd m own nt iv))
  (fin:∀t g',Fr g g'->St t (LF2 ev xs kv++LF1 q es jv++LF0 odd m own nt iv)->Q (.exit 6) t [] g') :
  wpL (wp C0 1 none da) Q t [] g:=by
 have ldn:be (Y6 2 [[ZJ n.grain,nb]]) 0 0 true 2 0=.val (.agg [ZJ n.grain,nb]):=rfl;obtain⟨k,o,a,f,B,C,b,z,A,h5,E,h9,r,u,w,x,y,-⟩:=ht;simp only[da];refine kU (m:=3) rfl (by decide) (λj t df g'=>df=[]/\Fr g g'/\St t ((22,xv)::(71,.agg [ZJ (mm 0),ZJ (mm 1),ZJ (mm 2)])::LF2 ev xs kv++LF1 q es jv++LF0 odd m own nt iv))
  ⟨rfl,Fr.refl _,by simp[St,LF0,LF1,LF2, *]⟩ a (by decide) (by rintro j t df g v s (rfl|rfl|rfl)<;>simp[sx,St,LF0,LF1,LF2]) ?_ ?_
 ·clear h5 E h9 r u w x y b z A f B C k o a;rintro j t df g1 Y ⟨rfl,F1,k,o,f,B,C,b,z,A,h5,E,h9,r,u,w,x,y,-⟩ a;have J:g1.h.get q=Y6 2 [[ZJ n.grain,nb]]:=by rw[F1.2 q hqn,hq]
  have ix:=Tp (λi=>ZJ (mm i)) j Y;have R:=λg:G=>Mu (d:=1) (g:=g) (n:=n) (e:=e) (l:=X) (size:=mm j) (by decide) (hM g.h) (he.tree (h':=g.h) (Vu 0)) hX;have k2:=λg:G=>OA (d:=1) (g:=g) (n:=n) (e:=e) (l:=X) (size:=mm j) (by decide) (hM g.h) he hX hXl;obtain⟨⟨⟨qa,qb⟩,c,er⟩,hp⟩:∃p,p=S.TZ n e X (mm j):=⟨_,rfl⟩;rw[<-hp]at R k2;refine aL (P:=λt' df g'=>df=[]/\g'=g1/\St t' ((24,ZJ (mm j))::(72,ZJ (j:Int))::(22,xv)::(71,.agg [ZJ (mm 0),ZJ (mm 1),ZJ (mm 2)])::LF2 ev xs kv++LF1 q es jv++LF0 odd m own nt iv)) ?_ ?_
  ·simp only[sz,simprocAttr,o,a,ix];simp[St,LF0,LF1,LF2,sx, *]
  clear h5 E h9 r u w x y b z A f B C k o a;rintro t df g2 ⟨rfl,rfl,D,a,k,o,f,B,C,b,z,A,h5,E,h9,r,u,w,x,y,-⟩;refine aL (P:=λt' df g'=>df=[]/\Fr g2 g'/\g'.nx=g2.nx+1/\g'.h.get g2.nx=Y6 2 [[ZJ qa,ZJ qb]]/\St t' ((25,ZK g2.nx)::(26,ZJ c)::(27,ZJ er)::(24,ZJ (mm j))::(72,ZJ (j:Int))::(22,xv)::(71,.agg [ZJ (mm 0),ZJ (mm 1),ZJ (mm 2)])::LF2 ev xs kv++LF1 q es jv++LF0 odd m own nt iv)) ?_ ?_
  ·simp only[sz,simprocAttr,b,f,k,D,J,ldn,R];exact⟨⟨by simp,λi hi=>by simp[TA,show ¬i=g2.nx by omega]⟩,by simp[St,LF0,LF1,LF2,sx, *]⟩
  clear h5 E h9 r u w x y b z A f B C k o a D;rintro t df g3 ⟨rfl,F3,n3,U,F,H,I,D,a,k,o,f,B,C,b,z,A,h5,E,h9,r,u,w,x,y,-⟩;have O:g3.h.get q=Y6 2 [[ZJ n.grain,nb]]:=by rw[F3.2 q (by have:=F1.1;omega),J]
  refine aL (P:=λt' df g'=>df=[]/\Fr g3 g'/\g'.nx=g3.nx+1/\g'.h.get g3.nx=Y6 2 [[ZJ qa,ZJ qb]]/\St t' ((28,ZK g3.nx)::(29,ZJ c)::(30,ZJ er)::(25,ZK g2.nx)::(26,ZJ c)::(27,ZJ er)::(72,ZJ (j:Int))::(22,xv)::(71,.agg [ZJ (mm 0),ZJ (mm 1),ZJ (mm 2)])::LF2 ev xs kv++LF1 q es jv++LF0 odd m own nt iv)) ?_ ?_
  ·simp only[sz,simprocAttr,b,f,k,D,O,ldn,k2];exact⟨⟨by simp,λi hi=>by simp[TA,show ¬i=g3.nx by omega]⟩,by simp[St,LF0,LF1,LF2,sx, *]⟩
  clear h5 E h9 r u w x y b z A f B C k o a D F H I;rintro t df W ⟨rfl,F4,Z,V,L,M,N,F,H,I,a,k,o,f,B,C,b,z,A,h5,E,h9,r,u,w,x,y,-⟩;have K:W.h.get g2.nx=Y6 2 [[ZJ qa,ZJ qb]]:=by rw[F4.2 _ (by omega),U]
  simp only[sz,simprocAttr,F,H,I,L,M,N,K,V,R7];exact⟨⟨(F1.trans F3).trans F4,by simp[St,LF0,LF1,LF2,sx, *]⟩,by simp[sx,a]⟩
 ·rintro t df g1 ⟨rfl,F1,k,o,ht⟩;exact fin t g1 F1 ht
theorem MV{e:List Int}{own es jv ev:AV}{Xs:Nat->List Sp}{xw:Nat->AV}(hM:∀h,Agg n NoP 0 h (.agg [ZJ n.grain,nb]))(he:SlR NoP 0 .nil e ev)(hX:∀i,i<2->SlR NoP 0 .nil (Xs i) (xw i)/\(Xs i).length<=1000)
  (hq:g.h.get q=Y6 2 [[ZJ n.grain,nb]]) (hqn:q<g.nx)
  (ht:St t (LF2 ev (.agg [xw 0,xw 1]) (ZJ 0)++LF1 q es jv++LF0 odd m own nt iv))
  (fin:∀t g',Fr g g'->St t (LF1 q es jv++LF0 odd m own nt iv)->Q (.exit 4) t [] g') :
  wpL (wp C0 1 none dh) Q t [] g:=by
 obtain⟨b,a,k,l,r,u,h5,w,h9,c,d,f,o,p,-⟩:=ht;simp only[dh,gq];refine kU (m:=2) rfl (by decide) (λj t df g'=>df=[]/\Fr g g'/\St t ((20,ev)::(62,.agg [xw 0,xw 1])::LF1 q es jv++LF0 odd m own nt iv))
  ⟨rfl,Fr.refl _,by simp[St,LF0,LF1,LF2, *]⟩ k (by decide) (by rintro j t df g v s (rfl|rfl|rfl)<;>simp[sx,St,LF0,LF1,LF2]) ?_ ?_
 ·clear h5 w h9 c d f o p l r u b a k;rintro j t df g1 y ⟨rfl,F1,b,a,l,r,u,h5,w,h9,c,d,f,o,p,-⟩ k;have A:g1.h.get q=Y6 2 [[ZJ n.grain,nb]]:=by rw[F1.2 q hqn,hq]
  have ix:=ix2 xw j y;obtain⟨z,hz⟩:=Ph m;have B:bQ .rem (ZL (z:Int)) (ZL 40)=.val (ZL ((z:Int) % 40)):=cX .u64 (show (0:Int)<=(z:Int) by omega) (show (0:Int)<40 by omega);refine aL (P:=λt' df g'=>df=[]/\g'=g1/\St t' ((22,xw j)::LF2 ev (.agg [xw 0,xw 1]) (ZJ (j:Int))++LF1 q es jv++LF0 odd m own nt iv)) ?_ ?_
  ·simp only[sz,simprocAttr,a,k,ix];simp[St,LF0,LF1,LF2,sx, *]
  clear h5 w h9 c d f o p l r u b a k;rintro t df g2 ⟨rfl,rfl,x,b,a,k,l,r,u,h5,w,h9,c,d,f,o,p,-⟩;refine aL (P:=λt' df g'=>df=[]/\g'=g2/\∃mm:Nat->Int,St t' ((22,xw j)::(71,.agg [ZJ (mm 0),ZJ (mm 1),ZJ (mm 2)])::(72,ZJ 0)::LF2 ev (.agg [xw 0,xw 1]) (ZJ (j:Int))++LF1 q es jv++LF0 odd m own nt iv)) ?_ ?_
  ·simp only[sz,simprocAttr,w,hz,B,RX];exact⟨λi=>if i=0 then m else if i=1 then 0 else IntKind.wrap .i64 ((z:Int) % 40),by simp[St,LF0,LF1,LF2,sx, *]⟩
  clear h5 w h9 c d f o p l r u b a k x;rintro t df g3 ⟨rfl,rfl,mm,ht⟩;simp only[sz,simprocAttr];refine MU (mm:=mm) hM he (hX j y).1 (hX j y).2 A (by have:=F1.1;omega) ht λt g4 F4 ht=>?_;obtain⟨b,a,k,l,r,u,h5,w,h9,c,d,f,o,p,-⟩:=ht;simp only[sz,simprocAttr];exact⟨⟨F1.trans F4,by simp[St,LF0,LF1,LF2, *]⟩,k⟩
 ·rintro t df g1 ⟨rfl,F1,b,a,ht⟩;exact fin t g1 F1 ht
theorem MW{own:AV}{c0:Nat×Nat×Int}{J:List Sp}{Es:Nat->List Int}{ew:Nat->AV}(hM:∀h,Agg n NoP 0 h (.agg [ZJ n.grain,nb]))(hc0:c0.1<256/\c0.2.1<256)(hJ:SlR NoP 0 .nil J own)(hJl:J.length<=15)(he:∀i,i<2->SlR NoP 0 .nil (Es i) (ew i))
  (hq:g.h.get q=Y6 2 [[ZJ n.grain,nb]]) (hqn:q<g.nx) (h4q:4<q) (k4:g.h.get 4=Y6 3 [[.int .u8 (c0.1:Int),.int .u8 (c0.2.1:Int),ZJ c0.2.2]])
  (ht:St t (LF1 q (.agg [ew 0,ew 1]) (ZJ 0)++LF0 odd m own nt iv))
  (fin:∀t g',Fr g g'->St t (LF0 odd m own nt iv)->Q (.exit 2) t [] g') :
  wpL (wp C0 1 none bT) Q t [] g:=by
 have z:be (Y6 3 [[.int .u8 (c0.1:Int),.int .u8 (c0.2.1:Int),ZJ c0.2.2]]) 0 0 true 3 0=.val (.agg [.int .u8 (c0.1:Int),.int .u8 (c0.2.1:Int),ZJ c0.2.2]):=rfl;obtain⟨d,a,k,h5,p,h9,b,e,c,f,l,-⟩:=ht;simp only[bT,gt];refine kU (m:=2) rfl (by decide) (λj t df g'=>df=[]/\Fr g g'/\St t ((18,ZK q)::(54,.agg [ew 0,ew 1])::LF0 odd m own nt iv))
  ⟨rfl,Fr.refl _,by simp[St,LF0,LF1,LF2, *]⟩ k (by decide) (by rintro j t df g v s (rfl|rfl|rfl)<;>simp[sx,St,LF0,LF1,LF2]) ?_ ?_
 ·clear h5 p h9 b e c f l d a k;rintro j t df g1 x ⟨rfl,F1,d,a,h5,p,h9,b,e,c,f,l,-⟩ k;have u:g1.h.get q=Y6 2 [[ZJ n.grain,nb]]:=by rw[F1.2 q hqn,hq]
  have w:g1.h.get 4=Y6 3 [[.int .u8 (c0.1:Int),.int .u8 (c0.2.1:Int),ZJ c0.2.2]]:=by rw[F1.2 4 (by omega),k4]
  have ix:=ix2 ew j x;refine aL (P:=λt' df g'=>df=[]/\g'=g1/\St t' ((20,ew j)::LF1 q (.agg [ew 0,ew 1]) (ZJ (j:Int))++LF0 odd m own nt iv)) ?_ ?_
  ·simp only[sz,simprocAttr,a,k,ix];simp[St,LF0,LF1,LF2,sx, *]
  clear h5 p h9 b e c f l d a k;rintro t df g2 ⟨rfl,rfl,r,d,a,k,h5,p,h9,b,e,c,f,l,-⟩;refine aL (P:=λt' df g'=>df=[]/\g'=g2/\∃(xw:Nat->AV) (Xs:Nat->List Sp),(∀i,i<2->SlR NoP 0 .nil (Xs i) (xw i)/\(Xs i).length<=1000)/\St t' (LF2 (ew j) (.agg [xw 0,xw 1]) (ZJ 0)++LF1 q (.agg [ew 0,ew 1]) (ZJ (j:Int))++LF0 odd m own nt iv)) ?_ ?_
  ·simp only[sz,simprocAttr,b,c,w,z];refine bi (KC (by decide) (hJ.tree (Vu 0)) hJl (by omega) hc0.1 hc0.2) λb1 o=>?_;obtain⟨B1,y,o⟩:=o;have bld:=IU hJ.cell (wV o).cell;simp only[sz,simprocAttr,bld];refine⟨λi=>if i=0 then own else b1,λi=>if i=0 then J else B1,λi hi=>?_,by simp[St,LF0,LF1,LF2,sx, *]⟩;have:i=0\/i=1:=by omega
   rcases this with rfl|rfl
   ·exact⟨hJ,by show J.length<=1000;omega⟩
   ·exact⟨wV o,by show B1.length<=1000;omega⟩
  clear h5 p h9 b e c f l d a k r;rintro t df g3 ⟨rfl,rfl,xw,Xs,hX,ht⟩;simp only[sz,simprocAttr];refine MV (xw:=xw) (Xs:=Xs) hM (he j x) hX u (by have:=F1.1;omega) ht λt g4 F4 ht=>?_;obtain⟨d,a,k,h5,p,h9,b,e,c,f,l,-⟩:=ht;simp only[sz,simprocAttr];exact⟨⟨F1.trans F4,by simp[St,LF0,LF1,LF2, *]⟩,k⟩
 ·rintro t df g1 ⟨rfl,F1,d,a,ht⟩;exact fin t g1 F1 ht
end
theorem To(a b c e:AV)(j:Nat)(hj:j<2):ixV true 2 2 (.agg [a,b,c,e]) (ZJ (j:Int))=.val (.agg (if j=0 then [a,b] else [c,e])):=by
 have:j=0\/j=1:=by omega
 rcases this with rfl|rfl<;>rfl
theorem N1(a b c d e f h:AV):cD 0 [a,b,c,d,e,f,h] .nil=eQ (eQ (eQ (eQ (eQ (eQ (eQ .nil 0 a) 1 b) 2 c) 3 d) 4 e) 5 f) 6 h:=rfl
theorem CY{good:Net}{gb own:AV}{j:Nat}{ks:List UInt8}{c0:Nat×Nat×Int}{J:List Sp}{O:List Int}{R:PT}{Qf:QT}(hk:ks.length=9)(hc0:c0.1<256/\c0.2.1<256)
  (hM:∀h,Agg n NoP 0 h (.agg [ZJ n.grain,nb])) (hG:∀h,Agg good NoP 0 h (.agg [ZJ good.grain,gb])) (hgl:good.nodes.length<=8) (hgc:∀x∈good.nodes,0<x.card) (hJ:SlR NoP 0 .nil J own) (hJl:J.length<=15) (hO:SlR NoP 0 .nil O odd) (hOr:Raw odd)
  (k2:g.h.get 2=Y6 9 [ks.map u8v]) (k4:g.h.get 4=Y6 3 [[.int .u8 (c0.1:Int),.int .u8 (c0.2.1:Int),ZJ c0.2.2]]) (k5:g.h.get 5=Y6 2 [[ZJ good.grain,gb]]) (hnx:6<=g.nx)
  (hix:ixV true 2 2 nt (ZJ (j:Int))=.val (.agg [ZJ n.grain,nb]))
  (ht:St t (LF0 odd m own nt (ZJ (j:Int))))
  (fin:∀t g',St t (LF0 odd m own nt (ZJ (j:Int)))->Fr g g'->kR R 1 Qf .norm t [] g') :
  wp C0 1 none (sQ [o 45 (.ix true 2 2 (.t 42) (.t 43)),o 18 (.alloc [ZJ 0,.nils]),Za 2 18 45] (ZI (.quiet [Y9 46 9 9,Y9 47 2 15,Zr 48 9 46 47,oM 49 5,oM 50 5,oN 51 50,o 52 (.mn (.t 51) (qI 10)),o 53 (.slc 1 (.t 49) [] [.t 52]),o 54 (.build [.nils,.nils] [(0,1),(1,1)] [.t 48,.t 53]),oK 55 0]) (.blk 2 (.loop bT)))) (kR R 1 Qf) t [] g:=by
 obtain⟨h5,p,h9,d,k,f,a,b,-⟩:=ht;obtain⟨ow',s1,s2⟩:=Ss hO hOr 10;have s1:∀g,tR 1 odd none (some (ZJ (min (O.length:Int) 10))) g=.val ow':=s1;have ol:=λg=>hO.len g;have ld9:=R2 (cs:=ks.map u8v) (by rw[VF,hk]);have ldg:be (Y6 2 [[ZJ good.grain,gb]]) 0 0 true 2 0=.val (.agg [ZJ good.grain,gb]):=rfl;refine aL (P:=λt' df g'=>df=[]/\Fr g g'/\g.nx<g'.nx/\g'.h.get g.nx=Y6 2 [[ZJ n.grain,nb]]/\St t' ((18,ZK g.nx)::LF0 odd m own nt (ZJ (j:Int)))) ?_ ?_
 ·simp only[sz,simprocAttr,a,b,hix];exact⟨⟨by simp,λi hi=>by simp[TA,show ¬i=g.nx by omega]⟩,by simp[St,LF0,sx, *]⟩
 clear h5 p h9 d k f a b;rintro t df g1 ⟨rfl,F1,n1,kq,l,h5,p,h9,d,k,f,a,b,-⟩;have q:g1.h.get 2=Y6 9 [ks.map u8v]:=by rw[F1.2 2 (by omega),k2]
 have s:g1.h.get 4=Y6 3 [[.int .u8 (c0.1:Int),.int .u8 (c0.2.1:Int),ZJ c0.2.2]]:=by rw[F1.2 4 (by omega),k4]
 have u:g1.h.get 5=Y6 2 [[ZJ good.grain,gb]]:=by rw[F1.2 5 (by omega),k5]
 refine bB (P:=λt' df g'=>df=[]/\g'=g1/\∃(ew:Nat->AV) (Es:Nat->List Int),(∀i,i<2->SlR NoP 0 .nil (Es i) (ew i))/\St t' (LF1 g.nx (.agg [ew 0,ew 1]) (ZJ 0)++LF0 odd m own nt (ZJ (j:Int)))) ?_ ?_
 ·simp only[sz,simprocAttr,h9,k,q,u,ld9,ldg];refine bi (Ny (by decide) hk (hG _) hgl hgc) λr c=>?_;obtain⟨e,he,c⟩:=c;have bld:=IU (wV c).cell s2.cell;simp only[sz,simprocAttr,h5,ol,XV,XF,s1,bld];refine⟨λi=>if i=0 then r else ow',λi=>if i=0 then e else O.take 10,λi hi=>?_,by simp[St,LF0,LF1,sx, *]⟩;have:i=0\/i=1:=by omega
  rcases this with rfl|rfl
  ·exact wV c
  ·exact s2
 clear h5 p h9 d k f a b l;rintro t df g2 ⟨rfl,rfl,ew,Es,v,ht⟩;simp only[sz,simprocAttr];refine MW (c0:=c0) (ew:=ew) (Es:=Es) hM hc0 hJ hJl v kq (by omega) (by omega) s ht λt g3 F3 ht=>?_;simp only[sz,simprocAttr];exact fin t g3 ht (F1.trans F3)
theorem uu{x:uQ}{y:lI}{xs ys:List AV}{ks ls:List UInt8}{c0:Nat×Nat×Int}{O:List Int}(hx:Rp.rp NoP 0 .nil x xs)(hy:Rp.rp NoP 0 .nil y ys)(hk:ks.length=9)(hl:ls.length=8)(hc0:c0.1<256/\c0.2.1<256)
  (hO:SlR NoP 0 .nil O odd) (hOr:Raw odd) :
  ∃g',(I C0).call 1 3 [.agg xs,.agg ys,.agg (ks.map u8v),.agg (ls.map u8v),.agg [.int .u8 (c0.1:Int),.int .u8 (c0.2.1:Int),ZJ c0.2.2],odd,ZJ m] G.empty=.ok (.bool true) g':=by
 obtain⟨T,U,e1,-⟩:=yq.1 hx;have N:xs.length=3:=by rw[e1];rfl
 have Q:ys.length=4:=by rw[Bt.1 hy];rfl
 clear e1 T U;obtain⟨cc,D⟩:∃cc:List AV,cc=[.int .u8 (c0.1:Int),.int .u8 (c0.2.1:Int),ZJ c0.2.2]:=⟨_,rfl⟩;rw[<-D];have key:=tZ (C:=C0) (d:=1) (f:=3) («as»:=[.agg xs,.agg ys,.agg (ks.map u8v),.agg (ls.map u8v),.agg cc,odd,ZJ m]) (g:=G.empty) (K:=λv g'=>v=.bool true) pI (by simp[eo]) ?_
 ·cases hc':(I C0).call 1 3 [.agg xs,.agg ys,.agg (ks.map u8v),.agg (ls.map u8v),.agg cc,odd,ZJ m] G.empty with
  |fail=>rw[hc']at key;exact key.elim
  |ok v g'=>rw[hc']at key;exact⟨g',by rw[show v=.bool true from key]⟩
 have hd:(ks.map u8v).length=9:=by rw[VF,hk]
 have H:(ls.map u8v).length=8:=by rw[VF,hl]
 simp only[sz,simprocAttr,eo,N1];obtain⟨g0,hg0⟩:∃g0,g0=((((G.empty.new (Y6 xs.length [xs])).new (Y6 ys.length [ys])).new (.cells (ks.map u8v).length [ks.map u8v] 0 false false)).new (.cells (ls.map u8v).length [ls.map u8v] 0 false false)).new (Y6 cc.length [cc]):=⟨_,rfl⟩;rw[<-hg0];have f0:g0.h.get 0=Y6 3 [xs]:=by rw[hg0,N];simp[sx,TA]
 have f1:g0.h.get 1=Y6 4 [ys]:=by rw[hg0,Q];simp[sx,TA]
 have f2:g0.h.get 2=Y6 9 [ks.map u8v]:=by rw[hg0,hd];simp[sx,TA]
 have f3:g0.h.get 3=Y6 8 [ls.map u8v]:=by rw[hg0,H];simp[sx,TA]
 have f4:g0.h.get 4=Y6 3 [[.int .u8 (c0.1:Int),.int .u8 (c0.2.1:Int),ZJ c0.2.2]]:=by rw[hg0,D];simp[sx,TA]
 have R:g0.nx=5:=by rw[hg0];simp[sx]
 clear hg0;have ld0:be (Y6 3 [xs]) 0 0 true 3 0=.val (.agg xs):=by
  match xs,N with
  |[a,b,c],_=>rfl
 have ld1:be (Y6 4 [ys]) 0 0 true 4 0=.val (.agg ys):=by
  match ys,Q with
  |[a,b,c,d],_=>rfl
 have ld2:=R1 H;simp only[gR];refine bB (P:=λt' df g'=>df=[]/\g'=g0/\St t' [(5,odd),(6,ZJ m),(7,ZK 0),(8,ZK 1),(9,ZK 2),(10,ZK 3),(11,ZK 4)]) ?_ ?_
 ·simp only[sz,simprocAttr,E6];simp[St,sx]
 rintro t df g1 ⟨rfl,rfl,h5,o,h7,h8,h9,l,k,-⟩;obtain⟨rn,en,good,hb,cn,rfl,E⟩:=Ji (g:=g1) (d:=1) (by decide) (lT (P:=NoP) hx g1.h);obtain⟨gb,rfl,Z⟩:=dI.1 E;have hG:SlR NoP 0 .nil good.nodes gb:=Z;have B:∀h,Agg good NoP 0 h (.agg [ZJ good.grain,gb]):=λh=>lT E h;have lb:=λg=>hG.len g;have w:=hb.nr;have n8:=w.l2;have n1:=w.l1;have L:∀x∈good.nodes,0<x.card:=λx hx=>by have:=w.card x hx;omega
 refine aL (P:=λt' df g'=>df=[]/\St t' [(5,odd),(6,ZJ m),(7,ZK 0),(8,ZK 1),(9,ZK 2),(10,ZK 3),(11,ZK 4),(15,ZK 5)]/\g'.nx=6/\(∀i,i<5->g'.h.get i=g1.h.get i)/\g'.h.get 5=Y6 2 [[ZJ good.grain,gb]]) ?_ ?_
 ·simp only[sz,simprocAttr,h7,f0,ld0,en];refine⟨by simp[St,sx,h5,o,h7,h8,h9,l,k,R],by simp[R],λi hi=>by simp[TA,R,show ¬i=5 by omega],by simp[R]⟩
 clear h5 o h7 h8 h9 l k en;rintro t df g2 ⟨rfl,⟨h5,o,h7,h8,h9,l,k,e,-⟩,kn,kf,k5⟩;rw[<-kf 0 (by omega)]at f0;rw[<-kf 1 (by omega)]at f1;rw[<-kf 2 (by omega)]at f2;rw[<-kf 3 (by omega)]at f3;rw[<-kf 4 (by omega)]at f4;refine aL (P:=λt' df g'=>df=[]/\g'=g2/\∃(J:List Sp) (own:AV),J.length<=15/\SlR NoP 0 .nil J own/\St t' [(5,odd),(6,ZJ m),(7,ZK 0),(8,ZK 1),(9,ZK 2),(11,ZK 4),(15,ZK 5),(16,own)]) ?_ ?_
 ·simp only[sz,simprocAttr,l,e,f3,k5,ld2,lb];refine bi (K7 (by decide) hl n1 n8) λr z=>?_;obtain⟨J,S,z⟩:=z;simp only[sz,simprocAttr];exact⟨J,r,S,wV z,by simp[St,sx,h5,o,h7,h8,h9,k,e]⟩
 clear h5 o h7 h8 h9 l k e;rintro t df g3 ⟨rfl,rfl,J,own,A,S,h5,o,h7,h8,h9,k,e,p,-⟩;simp only[sz,simprocAttr,h7,h8,f0,f1,ld0,ld1];refine bi (Qi (by decide) hx hy) λr hr=>?_;obtain⟨⟨na,nb⟩,⟨ha,he⟩,cs,rfl,h4⟩:=hr;obtain⟨ca,cb',rfl,q,u⟩:=ou.1 h4;dsimp only at ha he q u;have X:∀h,Agg na NoP 0 h (.agg ca):=λh=>lT q h;have Y:∀h,Agg nb NoP 0 h (.agg cb'):=λh=>lT u h;obtain⟨wa,rfl,hg⟩:=dI.1 q;obtain⟨wb,rfl,hh⟩:=dI.1 u;simp only[sz,simprocAttr,gm,gu,VE,VH];refine kU (m:=2) rfl (by decide) (λj t df g=>df=[]/\(∃iv,St t (LF0 odd m own (.agg [ZJ na.grain,wa,ZJ nb.grain,wb]) iv))/\6<=g.nx/\(∀i,i<6->g.h.get i=g3.h.get i))
  ⟨rfl,⟨_,by simp[St,LF0,sx,h5,o,h9,k,e,p];rfl⟩,by omega,λ_ _=>rfl⟩ (by simp[sx]) (by decide) ?_ ?_ ?_
 ·rintro j t df g v s hs ⟨h1,⟨iv,h2⟩,h3⟩;refine⟨h1,?_,h3⟩;obtain⟨h5,o,h9,k,e,p,V,W,-⟩:=h2;rcases hs with rfl|rfl|rfl
  ·exact⟨iv,by simp[St,LF0,sx, *]⟩
  ·exact⟨v,by simp[St,LF0,sx, *]⟩
  ·exact⟨iv,by simp[St,LF0,sx, *]⟩
 ·clear h5 o h7 h8 h9 k e p;rintro j t df g hj ⟨rfl,⟨iv,h5,o,h9,k,e,p,V,-⟩,M,hf⟩ W;have ix:=To (ZJ na.grain) wa (ZJ nb.grain) wb j hj;have ht:St t (LF0 odd m own (.agg [ZJ na.grain,wa,ZJ nb.grain,wb]) (ZJ (j:Int))):=by simp[St,LF0, *]
  have q2:=(hf 2 (by omega)).trans f2;have q4:=(hf 4 (by omega)).trans f4;have q5:=(hf 5 (by omega)).trans k5;have hc:j=0\/j=1:=by omega
  rcases hc with rfl|rfl
  ·refine CY (n:=na) (good:=good) hk hc0 X B n8 L S A hO hOr q2 q4 q5 M ix ht λt g4 ht F=>?_;exact⟨⟨rfl,⟨_,ht⟩,by have:=F.1;omega,λi hi=>by rw[F.2 i (by omega),hf i hi]⟩,ht.2.2.2.2.2.2.2.1⟩
  ·refine CY (n:=nb) (good:=good) hk hc0 Y B n8 L S A hO hOr q2 q4 q5 M ix ht λt g4 ht F=>?_;exact⟨⟨rfl,⟨_,ht⟩,by have:=F.1;omega,λi hi=>by rw[F.2 i (by omega),hf i hi]⟩,ht.2.2.2.2.2.2.2.1⟩
 ·rintro t df g ⟨rfl,-⟩;simp only[sz,simprocAttr,gv]
end
end Hx
section
namespace Hx
open Go Go.RowKit Go.ChangeShapes Go.WideShapes
def uX(P:Program):List Field->Nat->Option Nat
 |[],k=>some k
 |f::fs,k=>if f.offset=k then uX P fs (k+P.cellsOf f.type) else none
def rB(P:Program):Nat->TypeId->Bool
 |0,_=>false
 | n+1,t=>match P.underlying t with
  |some .bool=>true
  |some (.int _)=>true
  |some (.slice e)=>decide (0<P.cellsOf e)&&rB P n e
  |some (.struct fs)=>(uX P fs.toList 0 == some (P.cellsOf t))&&fs.toList.all (λf=>rB P n f.type)
  |some (.array m e)=>decide (m*P.cellsOf e=P.cellsOf t)&&rB P n e
  |_=>false
def Sh(P:Program):Nat->TypeId->List AV->Prop
 |0,_,_=>False
 | n+1,t,xs=>match P.underlying t with
  |some .bool=>∃b,xs=[.bool b]
  |some (.int k)=>∃z,xs=[.int k z]/\(Lit.int k z).wf=true
  |some (.slice e)=>xs=[.nils]\/∃rows,xs=[.tsl 0 (P.cellsOf e) rows]/\rows.length<9223372036854775808/\∀row∈rows,Sh P n e row
  |some (.struct fs)=>∃xss,xs=xss.flatten/\All2 (λ(f:Field) ys=>Sh P n f.type ys) fs.toList xss
  |some (.array m e)=>∃xss:List (List AV),xs=xss.flatten/\xss.length=m/\∀ys∈xss,Sh P n e ys
  |_=>False
def Fa(P:Program)(w:World)(n:Nat)(t:TypeId)(xs:List AV)(cs:List Value):Prop :=
 RVs0 w xs cs/\(∀y∈xs,y.one=true/\Closed y)/\Sh P n t xs
theorem RVs0.append{w:World}{xs ys:List AV}{cs ds:List Value}(h:RVs0 w xs cs)(h':RVs0 w ys ds):RVs0 w (xs++ys) (cs++ds):=by
 refine⟨by rw[Wr,Wr,h.1,h'.1],λi x v hx hv=>?_⟩;rcases XI i xs.length with hi|hi
 ·rw[VO hi]at hx;rw[VO (by rw[<-h.1];exact hi)]at hv;exact h.2 i x v hx hv
 ·rw[VW hi]at hx;rw[VW (by rw[<-h.1];exact hi),<-h.1]at hv;exact h'.2 _ x v hx hv
theorem IC(b o n:Nat):(⟨b,o,none⟩:Addr).add n=adr b (o+n):=by
 unfold Addr.add
 split
 ·rename_i h;subst h;rfl
 ·rfl
variable {H:Type}{enc:TypeId×Value->H}{P:Program}{w:World}
theorem CN:∀{fl:List Field} {k K:Nat},uX P fl k=some K->k<=K
 |[],k,K,h=>by injection h with h;omega
 | f::fl,k,K,h=>by
  unfold uX at h
  split at h
  ·have:=CN h;omega
  ·cases h
theorem Oe{n:Nat}{cs:List Value}:∀{fl:List Field} {k K:Nat},uX P fl k=some K ->
  (∀f∈fl,∃xs,Fa P w n f.type xs ((cs.drop f.offset).take (P.cellsOf f.type))) ->
  ∃xss,All2 (λ(f:Field) ys=>Sh P n f.type ys) fl xss/\RVs0 w xss.flatten ((cs.drop k).take (K - k))/\∀y∈xss.flatten,y.one=true/\Closed y
 | [],k,K,h,_=>by injection h with h;subst h;exact⟨[],trivial,by rw[WR,Y1];exact⟨rfl,λi x v hx=>by simp at hx⟩,λy hy=>by simp at hy⟩
 | f::fl,k,K,h,hg=>by
  unfold uX at h
  split at h
  ·rename_i ho;subst ho;obtain⟨xs,h1,h2,b⟩:=hg f (by simp);obtain⟨xss,a1,a2,a⟩:=Oe h λf' hf'=>hg f' (by simp[hf']);have c:=CN h;refine⟨xs::xss,⟨b,a1⟩,?_,λy hy=>?_⟩
   ·have e:(cs.drop f.offset).take (K - f.offset)=(cs.drop f.offset).take (P.cellsOf f.type)++(cs.drop (f.offset+P.cellsOf f.type)).take (K - (f.offset+P.cellsOf f.type)):=by rw[show K - f.offset=P.cellsOf f.type+(K - (f.offset+P.cellsOf f.type)) by omega,List.take_add,W_]
    rw[e,XB];exact h1.append a2
   ·rw[XB,V7]at hy;rcases hy with hy|hy
    ·exact h2 y hy
    ·exact a y hy
  ·cases h
theorem ID{n:Nat}{e:TypeId}{cs:List Value}:∀{m k:Nat},
  (∀i,i<m->∃xs,Fa P w n e xs ((cs.drop ((k+i)*P.cellsOf e)).take (P.cellsOf e))) ->
  ∃xss:List (List AV),xss.length=m/\(∀ys∈xss,Sh P n e ys)/\RVs0 w xss.flatten ((cs.drop (k*P.cellsOf e)).take (m*P.cellsOf e))/\∀y∈xss.flatten,y.one=true/\Closed y
 |0,k,_=>⟨[],rfl,λy hy=>by simp at hy,by rw[Y2,Y1];exact⟨rfl,λi x v hx=>by simp at hx⟩,λy hy=>by simp at hy⟩
 | m+1,k,hg=>by
  obtain⟨xs,h1,h2,a⟩:=hg 0 (by omega);rw[Xv]at h1;obtain⟨xss,a0,a1,a2,h⟩:=ID (m:=m) (k:=k+1) λi hi=>by have:=hg (i+1) (by omega);rwa [show k+(i+1)=k+1+i by omega]at this
  refine⟨xs::xss,by simp[a0],λys hy=>?_,?_,λy hy=>?_⟩
  ·rcases VP.1 hy with rfl|hy
   ·exact a
   ·exact a1 ys hy
  ·have e:(cs.drop (k*P.cellsOf e)).take ((m+1)*P.cellsOf e)=(cs.drop (k*P.cellsOf e)).take (P.cellsOf e)++(cs.drop ((k+1)*P.cellsOf e)).take (m*P.cellsOf e):=by rw[show (m+1)*P.cellsOf e=P.cellsOf e+m*P.cellsOf e by rw[Wc];omega,List.take_add,W_,Wc,Xc]
   rw[e,XB];exact h1.append a2
  ·rw[XB,V7]at hy;rcases hy with hy|hy
   ·exact h2 y hy
   ·exact h y hy
theorem AY:∀(n:Nat) (t:TypeId),rB P n t=true->∀(fuel:Nat) (cs:List Value) (x:DataW H×List MemPlace),DataW.trod enc P w 0 (λ_=>true) true fuel t cs=some x->∃xs,Fa P w n t xs cs:=by
 intro n
 induction n with
 |zero=>intro t h;simp[rB]at h
 | succ n ih =>
  intro t h fuel cs x hx;unfold rB at h
  split at h
  ·rename_i hu;obtain⟨b,rfl,-⟩:=DataW.trod_bool hu hx;refine⟨[.bool b],⟨rfl,λi x v h1 h2=>?_⟩,λy hy=>?_,?_⟩
   ·cases i with
    |zero=>simp at h1 h2;subst h1;subst h2;exact .bool _ _
    |succ i=>simp at h1
   ·simp at hy;subst hy;exact⟨rfl,.bool _⟩
   ·unfold Sh;rw[hu];exact⟨b,rfl⟩
  ·rename_i k hu;obtain⟨z,rfl,-,N⟩:=DataW.trod_int hu hx;refine⟨[.int k z],⟨rfl,λi x v h1 h2=>?_⟩,λy hy=>?_,?_⟩
   ·cases i with
    |zero=>simp at h1 h2;subst h1;subst h2;exact .int _ _ _
    |succ i=>simp at h1
   ·simp at hy;subst hy;exact⟨rfl,.int _ _⟩
   ·unfold Sh;rw[hu];exact⟨z,rfl,N⟩
  ·rename_i e hu;rw[Vx,VK]at h;obtain⟨B,hp⟩:=h;rcases DataW.trod_slice hu hx with⟨rfl,-⟩|⟨a,len,cap,elems,rest,m,-,rfl,-,-,L,U,R,r,-,-⟩
   ·refine⟨[.nils],⟨rfl,λi x v h1 h2=>?_⟩,λy hy=>?_,?_⟩
    ·cases i with
     |zero=>simp at h1 h2;subst h1;subst h2;exact .nils _
     |succ i=>simp at h1
    ·simp at hy;subst hy;exact⟨rfl,.nils⟩
    ·unfold Sh;rw[hu];exact .inl rfl
   ·have each:∀i,i<len->∃xs vs,w.cells? 0 (a.add (i*P.cellsOf e)) (P.cellsOf e)=some vs/\Fa P w n e xs vs:=by intro i hi;have:=r i hi;rw[Vt (show i<elems.length by omega),Option.bind_eq_some_iff]at this;obtain⟨vs,h1,h2⟩:=this;obtain⟨xs,hg⟩:=ih e hp _ _ _ h2;exact⟨xs,vs,h1,hg⟩
    let rowf:Nat->List AV:=λi=>if hi:i<len then Classical.choose (each i hi) else []
    let valf:Nat->List Value:=λi=>if hi:i<len then Classical.choose (Classical.choose_spec (each i hi)) else []
    have c:∀i,i<len->w.cells? 0 (a.add (i*P.cellsOf e)) (P.cellsOf e)=some (valf i)/\Fa P w n e (rowf i) (valf i):=by intro i hi;have:=Classical.choose_spec (Classical.choose_spec (each i hi));simpa only[rowf,valf,dif_pos hi] using this
    have d:∀(i:Nat) (row:List AV),((List.range len).map rowf)[i]?=some row->i<len/\row=rowf i:=by
     intro i row h1;rw[Vw]at h1;rcases XI i len with hi|hi
     ·rw[XA hi]at h1;injection h1 with h1;exact⟨hi,h1.symm⟩
     ·rw[Wx (by simpa using hi)]at h1;cases h1
    refine⟨[.tsl 0 (P.cellsOf e) ((List.range len).map rowf)],⟨rfl,λi x v h1 h2=>?_⟩,λy hy=>?_,?_⟩
    ·cases i with
     |succ i=>simp at h1
     | zero =>
      simp at h1 h2;subst h1;subst h2;rcases YV len with h0|h0
      ·subst h0;exact .tnil 0 0 _ a cap (Vu _)
      ·obtain⟨b,o,spot⟩:=a;have E:=World.cells?_some (c 0 h0).1;have M:(valf 0)[0]?=some (valf 0)[0]:=Vt (by rw[E.2.1];exact B);have C:=E.2.2 0 B;rw[M]at C;have D:spot=none:=by simpa [Addr.add] using World.cell?_spot C
       subst D;have cellat:∀i j row x,((List.range len).map rowf)[i]?=some row->row[j]?=some x->∃v,(valf i)[j]?=some v/\w.cell? (adr b (o+i*P.cellsOf e+j))=some v/\RV w gm0 av0 0 x v:=by
        intro i j row x hr l;obtain⟨hi,rfl⟩:=d i row hr;obtain⟨O,q2⟩:=c i hi;have V:j<(rowf i).length:=(Vv.1 l).1;have u:j<(valf i).length:=by rw[<-q2.1.1];exact V
        have F:=World.cells?_some O;have p:=F.2.2 j (by rw[<-F.2.1];exact u);rw[Vt u]at p;refine⟨_,Vt u,?_,q2.1.2 j x _ l (Vt u)⟩;rw[IC,show adr b (o+i*P.cellsOf e)=(⟨b,o+i*P.cellsOf e,none⟩:Addr) from rfl,IC]at p;exact p
       have hb:b<w.heap.size:=by have:=HP C;simpa [Addr.add] using this
       have G:((List.range len).map rowf).length=len:=by simp
       have key:=RV.tsl (w:=w) (γ:=gm0) (A:=av0) 0 0 (P.cellsOf e) ((List.range len).map rowf) b o cap (λi j=>(valf i)[j]?.getD undef) (Vu _) (by rw[G];exact L) hb (SX b) (λh=>h)
        (λi row hr=>by
         obtain⟨hi,rfl⟩:=d i row hr;obtain⟨O,q2⟩:=c i hi;rw[q2.1.1,(World.cells?_some O).2.1])
        (λi j row x hr l=>by
         obtain⟨hi,rfl⟩:=d i row hr;exact ((c i hi).2.2.1 x (VA l)).1)
        (λi j row x hr l=>by
         obtain⟨v,Q,S,T⟩:=cellat i j row x hr l;rw[S,Q];rfl)
        (λi j row x hr l=>by
         obtain⟨v,Q,S,T⟩:=cellat i j row x hr l;rw[Q];exact T)
        (λrow hr x hx=>by
         obtain⟨i,hi⟩:=WB hr;obtain⟨s,rfl⟩:=d i row hi;exact ((c i s).2.2.1 x hx).2)
       rw[G]at key;exact key
    ·simp only[VY]at hy;subst hy;refine⟨rfl,.tsl _ _ _ λrow hr x hx=>?_⟩;obtain⟨i,hi⟩:=WB hr;obtain⟨s,rfl⟩:=d i row hi;exact ((c i s).2.2.1 x hx).2
    ·unfold Sh;rw[hu];refine .inr ⟨_,rfl,?_,λrow hr=>?_⟩
     ·rw[VF,YC];have:maxLen<9223372036854775808:=by decide
      omega
     ·obtain⟨i,hi⟩:=WB hr;obtain⟨s,rfl⟩:=d i row hi;exact (c i s).2.2.2
  ·rename_i fs hu;rw[Vx]at h;obtain⟨hc,hp⟩:=h;have hc:uX P fs.toList 0=some (P.cellsOf t):=eq_of_beq hc;obtain⟨ys,m,-,-,hl,I,r⟩:=DataW.trod_struct hu hx;obtain⟨xss,a1,a2,J⟩:=Oe (w:=w) (n:=n) (cs:=cs) hc λf hf=>by
    obtain⟨i,hi,e⟩:=XQ.1 hf;have K:fs[i]?=some f:=by rw[<-Yz,Vt hi,e]
    have:=r i f K;rw[Vt (show i<ys.length by rw[I];simpa using hi)]at this;exact ih f.type (VQ.1 hp f hf) _ _ _ this
   rw[Xp,XJ,<-hl,Wa]at a2;refine⟨xss.flatten,a2,J,?_⟩;unfold Sh;rw[hu];exact⟨xss,rfl,a1⟩
  ·rename_i m e hu;rw[Vx,VK]at h;obtain⟨hc,hp⟩:=h;obtain⟨ys,q,-,-,hl,I,r⟩:=DataW.trod_array hu hx;obtain⟨xss,a0,a1,a2,J⟩:=ID (w:=w) (n:=n) (e:=e) (cs:=cs) (m:=m) (k:=0) λi hi=>by have:=r i hi;rw[Vt (show i<ys.length by omega)]at this;rw[WE];exact ih e hp _ _ _ this
   rw[Y2,Xp,hc,<-hl,Wa]at a2;refine⟨xss.flatten,a2,J,?_⟩;unfold Sh;rw[hu];exact⟨xss,rfl,a0,a1⟩
  ·cases h
theorem Im{n:Nat}{t:TypeId}{xs:List AV}(hu:P.underlying t=some (.int .i64))(h:Sh P n t xs):∃x:Int,Rp.rp NoP 0 .nil x xs:=by
 cases n with
 |zero=>exact h.elim
 | succ n =>
  unfold Sh at h;rw[hu]at h;obtain⟨z,rfl,-⟩:=h;exact⟨z,aW.2 rfl⟩
theorem ef{n:Nat}{t:TypeId}{xs:List AV}(hu:P.underlying t=some (.int .u8))(h:Sh P n t xs):∃x:UInt8,Rp.rp NoP 0 .nil x xs:=by
 cases n with
 |zero=>exact h.elim
 | succ n =>
  unfold Sh at h;rw[hu]at h;obtain⟨z,rfl,hw⟩:=h;simp only[Lit.wf,IntKind.min,IntKind.max,IntKind.signed,IntKind.bits,Vx]at hw;refine⟨UInt8.ofNat z.toNat,co.2 ?_⟩;have h1:0<=z:=by simpa using hw.1
  have h2:z<=255:=by simpa using hw.2
  have k:(UInt8.ofNat z.toNat).toNat=z.toNat:=UInt8.toNat_ofNat_of_lt' (by show z.toNat<256;omega);rw[k,Yq h1]
theorem zV{α:Type} [Rp α]{n:Nat}{t e:TypeId}{xs:List AV}(hu:P.underlying t=some (.slice e))(hsz:P.cellsOf e=Rp.sz α)(hel:∀ys,Sh P n e ys->∃y:α,Rp.rp NoP 0 .nil y ys)(h:Sh P (n+1) t xs) :
  ∃l:List α,Rp.rp NoP 0 .nil l xs:=by
 unfold Sh at h;rw[hu]at h;rcases h with rfl|⟨rows,rfl,hl,hr⟩
 ·exact⟨[],.nils,rfl,by simp,rfl⟩
 ·have:∀rows:List (List AV),(∀row∈rows,Sh P n e row)->∃l:List α,All2 (Rp.rp NoP 0 .nil) l rows:=by
   intro rows
   induction rows with
   |nil=>intro _;exact⟨[],trivial⟩
   | cons r rows ih =>
    intro h;obtain⟨y,k⟩:=hel r (h r (by simp));obtain⟨l,hl⟩:=ih λrow hrow=>h row (by simp[hrow]);exact⟨y::l,k,hl⟩
  obtain⟨l,ha⟩:=this rows hr;exact⟨l,_,rfl,by rw[ha.len];exact hl,Vu _,.inl hsz,ha⟩
theorem G3{n m:Nat}{t e:TypeId}{xs:List AV}(hu:P.underlying t=some (.array m e))(h:Sh P (n+1) t xs):∃xss:List (List AV),xs=xss.flatten/\xss.length=m/\∀ys∈xss,Sh P n e ys:=by unfold Sh at h;rw[hu]at h;exact h
theorem qz{n:Nat}{t:TypeId}{fs:Array Field}{xs:List AV}(hu:P.underlying t=some (.struct fs))(h:Sh P (n+1) t xs):∃xss,xs=xss.flatten/\All2 (λ(f:Field) ys=>Sh P n f.type ys) fs.toList xss:=by unfold Sh at h;rw[hu]at h;exact h
end Hx
end
namespace Hx
open Go
noncomputable section
variable {g:G}{t:T}{d:Nat}{odd nb nt:AV}{m:Int}{Q:QT}{n:Net}
end
end Hx
