/- A part of the proof: what the functions of the chapter compute. -/
import Derived.OpenShut
import Derived.DataReads
import Derived.Test.YtikpmbiklokdiaaGreatHx12
set_option linter.all false
set_option maxRecDepth 20000
set_option maxHeartbeats 8000000
namespace Hx
open Go
noncomputable section
variable {g:G}{e L:List Int}{d k j q s:Nat}{n:Net}{t:T}{v a b gr z:Int}{w ev u bb:AV}{K KP:AV->G->Prop}{P:Nat->Prop}
section
variable {d K J:Nat}{L:List Node}{x:Node}{bx:k_}{gr Rw:Int}{t:T}{g:G}{V:Ky->AV}{E:Ky->En}{Q:QT}
theorem bc7[XOc](hS:BS K J L x bx gr Rw t g V E)(fin:ui Q) :
  wp C0 d none (sQ [oM 194 11,TF 195 .geq 194 0] (Ui 195 (.feet [0,1,3,7,0,0,32,96,224,0,992,2016,0,8160,16383,32767] [oM 196 10,TK 197 196,oF 198 2 197,oL 199 198,oM 200 11,oM 201 10,TK 202 201,oF 203 2 202,oL 204 203,oM 205 11,oX 206 204 205,oL 207 206,o 208 (.bsl 1 1 [Uk 0] [0] [.k (Uk 0)]),T5 209 1 8 207 208,oX 210 199 200,TJ 1 210 209]) (.skip))) Q t [] g:=by
 obtain⟨h2,N,h4,H,c,-⟩:=hS.st;obtain⟨rows,a⟩:=hS.bt;obtain⟨rws,hW⟩:=hS.bw;have hK:=hS.hK;have hl:=hS.hl;have P:=hS.hp.nx;rcases hS.hR with⟨rfl,h0⟩|⟨r,rfl,hr⟩
 ·simp only[sx,SO.run,↓reduceIte,c];exact⟨λh=>by simp at h,λ_=>hS.fin0 fin (by simp[sx,N]) (by simp[sx,h4])⟩
 ·simp only[sx,SO.run,↓reduceIte,c];refine⟨λ_=>?_,λh=>by simp at h⟩;obtain⟨y,m⟩:∃y,x.rows[r]?=some y:=⟨_,Qu hr⟩;have C:=hW.at_ r y m;have f:LS L (J+1,2+r):=LS.s hS.hx (by omega);have A:=a.nd.rr r y m;have S:=hS.hp.own f A;have R:=a.nd.len.2.2 y (Qz m);have B:r<rws.length:=by have:=hW.len;omega
  have D:md (V (J+1,1))=true:=fe hW.own (by omega);simp only[sx,sy,sf,SO.run,↓reduceIte,Nat.reduceEqDiff,H,c,bu a.ry,bA a.ry,a.own.rows,a.hlt,a.row,hW.own.rows,B,C,SX,QC];refine (hS.hp.step (g':=_) (by simp<;>omega) (λi hi hi2=>?_)).app2 (k:=(J+1,2+r)) f A (new:=[[Uk 0]]) (by simp[sx,sy]) (by simp[aQ];omega) λv1 ga hHa na fra foa lga vca vta=>?_
  ·simp[O6];omega
  simp only[sx,sy]at na fra foa lga;have u:ups V (J+1,2+r) v1 (J+1,1)=V (J+1,1):=ac _ _ (by simp<;>omega);have w:ups E (J+1,2+r) (.sl 1 (y.map ci++[[Uk 0]])) (J+1,1)=.sl 1 rws:=by rw[ac _ _ (by simp<;>omega)];exact hW.e1
  have rwa:af ga.h 1 (V (J+1,1))=some rws:=by rw[<-u];exact (hHa.own (LS.s hS.hx (by omega)) w).rows
  simp only[sx,sy,sf,SO.run,↓reduceIte,Nat.reduceEqDiff,rwa,B,SX,QC];refine (hHa.same (g':=_) (by simp) (by simp<;>omega)).putv (k:=(J+1,1)) (i:=r) (off:=0) (n:=1) (LS.s hS.hx (by omega)) u (row':=[v1]) w C (by rw[vca];rfl) vta (by rw[vca];rfl) λgb hHb nb frb fob=>?_;simp only[sy]at nb frb fob ⊢;refine⟨?_,?_⟩
  ·simp only[Q2,QZ,QY,QI];refine aJ (TW (TV (true::(true::(false::(true::[])))))) [(0,12),(1,12),(2,12),(3,12),(4,12),(5,12),(6,12),(7,12),(8,12),(9,12),(10,12),(11,12),(0,13),(1,13),(2,13),(3,13),(4,13)] (by simp[All2,ak,aw]) (by decide) ?_;have ro1:=a.own.refs_lt;have ro2:=hW.own.refs_lt;have lg0:∀i∈ga.lg,i ∉ am (V (0,0)):=λi hi hm=>by
    obtain⟨id0,l⟩:∃id,eid (V (0,0))=some id/\am (V (0,0))=[id]:=by
     rcases a.own with⟨h,-⟩|⟨id,ep,lo,-,-,h,-⟩
     ·rw[h]at hm;simp[am]at hm
     ·rw[h];exact⟨id,rfl,rfl⟩
    rw[l.2]at hm;have hm:=Rg.1 hm;subst hm;rcases lga i hi with h|h|h
    ·simp at h
    ·exact hS.hp.sep (J+1,2+r) (0,0) f LS.z (by simp) i h l.1
    ·have:=ro1 i (by rw[l.2];simp);omega
   rintro p hp x y hx m;simp only[Q8,QG,SY]at hp;rcases hp with rfl|rfl|rfl|rfl|rfl|rfl|rfl|rfl|rfl|rfl|rfl|rfl|rfl|rfl|rfl|rfl|rfl<;>(simp at hx m;subst hx;subst m;refine dk rfl rfl rfl rfl ?_ ?_ ?_<;>simp[ak,aw,jG a.ry,jG D]<;>first|omega| (intro i' b;have:=ro1 i' b;omega)| (intro i' b;have:=ro2 i' b;omega)|exact lg0|exact (λi hi h=>lg0 h hi)|exact (λi hi h=>lg0 i h hi)| (intro i' b hm;exact lg0 _ b hm)|exact (λi hi j hj e=>lg0 i hi (e ▸ hj))|skip)
  have I:=Cg (r:=r) (V':=ups V (J+1,2+r) v1) (E':=ups (ups E (J+1,2+r) (.sl 1 (y.map ci++[[Uk 0]]))) (J+1,1) (.sl 1 (rws.set r [v1]))) (y':=y++[0]) (a.nd.up (show K<=K+1 by omega)) hW.at_ hW.len hr (by rw[ac _ _ (by simp<;>omega),ac _ _ (by simp<;>omega)]) (by rw[an,an]) (by rw[ac _ _ (by simp<;>omega),an];simp[ci]) (λq hq=>ac _ _ (by simp<;>omega)) (λq hq=>by rw[ac _ _ (by simp<;>omega),ac _ _ (by simp<;>omega)]) (by simp<;>omega);have M:=I.rd hHb (λq hq=>LS.s hS.hx (by simpa using hq)) (by omega);obtain⟨nds,O⟩:=tU (rows:=rows) (J:=J) hHb (λk hk=>hk) a.oth.v.e.e (by rw[ac _ _ (by simp<;>omega),ac _ _ (by simp<;>omega),a.e0];rw[jZ,ac _ _ (by simp<;>omega),ac _ _ (by simp<;>omega)];exact congrArg _ (vv a.row).symm) (ac _ _ (by simp<;>omega)) M (by omega) (by omega);have F:gb.h.get 1=TD 2 [[Uk gr,V (0,0)]]:=by rw[frb 1 (by omega)];(try simp);rw[fra 1 (by omega),Qw (by omega),hS.f1]
  have G:gb.h.get 2=TD 2 [[Uk 0,.nils]]:=by rw[frb 2 (by omega)];(try simp);rw[fra 2 (by omega),Qw (by omega),hS.f2]
  exact fin _ _ gr _ nds (by simp[sx,N]) (by simp[sx,h4]) (by simpa using F) (by simpa using G) (O.heap (by simp))
theorem OV[XOc](hS:BS K J L x bx gr Rw t g V E)(fin:ui Q) :
  wp C0 d none (.ops [oF 312 1 3,oL 313 312,oF 314 0 3,oL 315 314,Ub 316 315,Uc 317 316,o 318 (.build [Uk 0,.nils,.nils] [(0,1),(2,1)] [.k (Uk 1),.t 317]),o 319 (.bsl 3 1 [Uk 0,.nils,.nils] [0] [.t 318]),T5 320 3 56 313 319,oF 321 1 3,TJ 1 321 320]) Q t [] g:=by
 obtain⟨h2,m,h4,u,v,-⟩:=hS.st;obtain⟨rows,a⟩:=hS.bt;have hK:=hS.hK;have hl:=hS.hl;have r:=hS.hp.nx;have y:=a.oth.len;simp only[sz,simprocAttr,m,hS.f1];refine (hS.hp.step (g':=_) (by simp<;>omega) (λi hi hi2=>?_)).app2 (k:=(0,0)) LS.z a.e0 (new:=[[Uk 1,.nils,.hsl (g.nx+1) 0 0 1 none]]) (by simp[sx,sy]) (by simp[aQ];omega) λv1 gb hHb nb frb fob _ vca vta=>?_
 ·simp[O6];rw[Qw (by omega),Qw (by omega),Qw (by omega)]
 simp only[sx,sy]at nb frb fob;have ne:∀i,g.nx<=i->eid (V (0,0))≠some i:=λi hi e=>by rw[bU a.own]at e;have:=(a.own.lt e).2;omega
 have A:gb.h.get g.nx=TD 1 [[Uk gr]]:=by rw[fob g.nx (by omega) (ne _ (Qv _))];simp[O6]<;>omega
 have k2:gb.h.get (g.nx+1)=TD 1 [[.hsl g.nx 0 0 1 none]]:=by rw[fob (g.nx+1) (by omega) (ne _ (by omega))];simp[O6]<;>omega
 have b:Rp.rp P3 0 gb.h (⟨1,[],[[gr]]⟩:Node) [Uk 1,.nils,.hsl (g.nx+1) 0 0 1 none]:=by
  refine bV.2 ⟨_,_,rfl,⟨by show 0<9223372036854775808;decide,rfl⟩,⟨by show 1<9223372036854775808;decide,by show 3<=g.nx+1;omega,[[.hsl g.nx 0 0 1 none]],?_,gm.2 ⟨_,rfl,by show 1<9223372036854775808;decide,r,[[Uk gr]],?_,aI.2 rfl,trivial⟩,trivial⟩⟩
  ·show af gb.h 1 _=_;simp only[af,k2];rfl
  ·show af gb.h 1 _=_;simp only[af,A];rfl
 have ho:=hHb.own LS.z (an _ _ _);rw[an]at ho;obtain⟨nds,-,w⟩:=DX ho (by simp<;>omega) λi row hi=>by
  by_cases e:i<rows.length
  ·rw[QE e]at hi;obtain⟨z,hz⟩:∃z,L[i]?=some z:=⟨_,Qu (by omega)⟩;have p:=(hS.bl.nd i z hz).congr (V':=ups V (0,0) v1) (E':=ups E (0,0) (.sl 3 (rows++[[Uk 1,.nils,.hsl (g.nx+1) 0 0 1 none]]))) (λq=>ac _ _ (by simp<;>omega)) (λq=>ac _ _ (by simp<;>omega));have c:=p.rd hHb (λq hq=>LS.s hz hq) (by omega);have f:rows[i]?=some (jZ V i z.card):=by
    by_cases e2:i=J
    ·subst e2;rw[hS.hx]at hz;injection hz with hz;subst hz;exact a.row
    ·exact a.oth.ns i z e2 hz
   rw[f]at hi;injection hi with hi;subst hi;rw[jZ,ac _ _ (by simp<;>omega),ac _ _ (by simp<;>omega)]at c;exact⟨z,c⟩
  ·have n:=(Qt.1 hi).1;simp at n;have e:i=rows.length:=by omega
   subst e;rw[RC]at hi;injection hi with hi;subst hi;exact⟨_,b⟩
 have j:gb.h.get 1=TD 2 [[Uk gr,V (0,0)]]:=by rw[frb 1 (by omega),Qw (by omega),Qw (by omega),Qw (by omega),hS.f1]
 have l:gb.h.get 2=TD 2 [[Uk 0,.nils]]:=by rw[frb 2 (by omega),Qw (by omega),Qw (by omega),Qw (by omega),hS.f2]
 simp only[sz,simprocAttr,m,j,vca,vta];exact fin _ _ gr _ nds (by simp[sx,m]) (by simp[sx,h4]) (by simp[O6]) (by simp[O6,l]) (w.far λi hi=>by simp[O6,N3 hi])
theorem OW[XOc](hS:BS K J L x bx gr Rw t g V E)(fin:ui Q) :
  wp C0 d none (.ops [oF 102 1 3,oL 103 102,oF 104 1 3,oL 105 104,oN 106 105,TF 107 .sub 106 1,o 108 (.slc 3 (.t 103) [] [.t 107]),oF 109 1 3,TJ 1 109 108]) Q t [] g:=by
 obtain⟨h2,a,h4,b,c,-⟩:=hS.st;obtain⟨rows,k⟩:=hS.bt;have hK:=hS.hK;have hl:=hS.hl;have f:=k.oth.len;have hlt:=k.hlt;have len1:=dG k.own.rows;have e1:((rows.length:Int) - 1)=((rows.length - 1:Nat):Int):=by omega
 obtain⟨y,q1,q2,q3⟩:=Hu (α:=Node) k.own (n:=rows.length - 1) (by intro h;rw[h]at hlt;simp at hlt) (by omega);have w9:IntKind.wrap .i64 ((rows.length - 1:Nat):Int)=((rows.length - 1:Nat):Int):=aA (by omega) (by omega);have q1:xC 3 (V (0,0)) none (some (Uk ((rows.length - 1:Nat):Int))) g=.val y:=q1;simp only[sz,simprocAttr,a,hS.f1,len1,Tz,To,e1,w9,q1,q2.1,q2.2];have e:=q3 P3 0 _ g.h (λ_ _=>rfl) hS.sl;exact fin _ _ gr _ _ (by simp[sx,a]) (by simp[sx,h4]) (by simp[O6]) (by simp[O6,hS.f2]) (e.far λi hi=>by simp[O6,N3 hi])
end
theorem LS.upd{L:List Node}{J:Nat}{x x':Node}(hx:L[J]?=some x)(hl:x'.rows.length=x.rows.length){k:Ky}(h:LS (L.set J x') k):LS L k:=by
 rcases h with h|⟨i,q,z,h,hz,hq⟩
 ·exact .inl h
 ·rw[Ru]at hz
  by_cases e:J=i
  ·subst e;rw[QA rfl]at hz
   split at hz
   ·injection hz with hz;subst hz;exact .inr ⟨J,q,x,h,hx,by omega⟩
   ·cases hz
  ·rw[Qw e]at hz;exact .inr ⟨i,q,z,h,hz,hq⟩
theorem BLs.upd{K J:Nat}{L:List Node}{V:Ky->AV}{E:Ky->En}{rows:List (List AV)}{x':Node}(hO:Oth K L J V E rows)(e0:E (0,0)=.sl 3 rows)(hrow:rows[J]?=some (jZ V J x'.card))(hnd:NdOk K V E J x'):BLs K V E (L.set J x'):=by
 refine⟨⟨rows,e0,by simp[hO.len],λi z hz=>?_⟩,λi z hz=>?_⟩
 ·rw[Ru]at hz
  by_cases e:J=i
  ·subst e;rw[QA rfl]at hz
   split at hz
   ·injection hz with hz;subst hz;exact hrow
   ·cases hz
  ·rw[Qw e]at hz;exact hO.ns i z (RJ e) hz
 ·rw[Ru]at hz
  by_cases e:J=i
  ·subst e;rw[QA rfl]at hz
   split at hz
   ·injection hz with hz;subst hz;exact hnd
   ·cases hz
  ·rw[Qw e]at hz;exact hO.nd i z (RJ e) hz
def Node.wr(x:Node)(r:Nat)(y:List Int):Node:=⟨x.card,x.parents,x.rows.set r y⟩
abbrev LBS (W:AV)(J:Nat)(Rw:Int):List (Nat×AV):=[(2,Ul 0),(3,Ul 1),(4,Ul 2),(10,jf 3 W J 0),(11,Uk Rw)]
section
variable {d K J r:Nat}{L:List Node}{x:Node}{bx:k_}{gr Rw:Int}{t t':T}{g gb:G}{V:Ky->AV}{E:Ky->En}{Q:QT}{y y':List Int}
theorem BS.put(hS:BS K J L x bx gr (r:Int) t g V E)(hy:x.rows[r]?=some y)(hHb:Hp gb 3 (LS L) V (ups E (J+1,2+r) (.sl 1 (y'.map ci))))(frb:∀i,i<3->gb.h.get i=g.h.get i)(hyl:y'.length<=K)(st:St t' (LBS (V (0,0)) J (r:Int))) :
  BS K J (L.set J (x.wr r y')) (x.wr r y') bx gr (r:Int) t' gb V (ups E (J+1,2+r) (.sl 1 (y'.map ci))):=by
 obtain⟨rows,a⟩:=hS.bt;obtain⟨rws,hW⟩:=hS.bw;have hr:=(Qt.1 hy).1;have c:=hW.at_ r y hy;have d:=(Qt.1 hS.hx).1;have b:=Cg (r:=r) (V':=V) (E':=ups E (J+1,2+r) (.sl 1 (y'.map ci))) (y':=y') a.nd hW.at_ hW.len hr (ac _ _ (by simp<;>omega)) (by rw[ac _ _ (by simp<;>omega),hW.e1,vv c]) (an _ _ _) (λ_ _=>rfl) (λq hq=>ac _ _ (by simp<;>omega)) hyl;have hl:(x.wr r y').rows.length=x.rows.length:=by simp[Node.wr]
 refine⟨st,hHb.sub λk hk=>LS.upd hS.hx hl hk,by rw[frb 0 (by omega)];exact hS.f0,by rw[frb 1 (by omega)];exact hS.f1,by rw[frb 2 (by omega)];exact hS.f2,BLs.upd a.oth.e (by rw[ac _ _ (by simp<;>omega)];exact a.e0) a.row b,by rw[Rr d],.inr ⟨r,rfl,by omega⟩,hS.hK,by simpa using hS.hl⟩
theorem BS.mv(hS:BS K J L x bx gr Rw t g V E)(hh:gb.h=g.h)(hn:g.nx<=gb.nx)(st:St t' (LBS (V (0,0)) J Rw)):BS K J L x bx gr Rw t' gb V E :=
 ⟨st,hS.hp.same hh hn,by rw[hh];exact hS.f0,by rw[hh];exact hS.f1,by rw[hh];exact hS.f2,hS.bl,hS.hx,hS.hR,hS.hK,hS.hl⟩
structure BR (x:Node) (J r:Nat) (y:List Int) (g:G) (V:Ky->AV) (E:Ky->En) (rws:List (List AV)):Prop where
 wr:af g.h 1 (V (J+1,1))=some rws
 rl:r<rws.length
 rw_:rws[r]?=some [V (J+1,2+r)]
 ry:md (V (J+1,1))=true
 yr:af g.h 1 (V (J+1,2+r))=some (y.map ci)
 ye:E (J+1,2+r)=.sl 1 (y.map ci)
 yl:y.length<=K
theorem BS.br(hS:BS K J L x bx gr (r:Int) t g V E)(hy:x.rows[r]?=some y):∃rws,BR (K:=K) x J r y g V E rws:=by
 obtain⟨rows,a⟩:=hS.bt;obtain⟨rws,hW⟩:=hS.bw;have hr:=(Qt.1 hy).1;have k:r<rws.length:=by have:=hW.len;omega
 have h:=a.nd.rr r y hy;exact⟨rws,hW.own.rows,k,hW.at_ r y hy,fe hW.own (by omega),(hS.hp.own (LS.s hS.hx (by omega)) h).rows,h,a.nd.len.2.2 y (Qz hy)⟩
theorem bc8[XOc](hS:BS K J L x bx gr Rw t g V E)(fin:ui Q) :
  wp C0 d none (sQ [oM 213 11,TF 214 .geq 213 0,oM 215 214,TO 216 215 true 10,og 217 215 true (.nilc (.t 216)),TQ 218 215 true 2 217,TP 219 215 true 218,TO 220 215 true 11,Ua 221 215 true 1 219 220,TP 222 215 true 221,TU 223 215 true 222,TT 224 215 true .gtr 223 0,TM 225 215 224] (Ui 225 (Uj (.feet [0,1,3,7,0,0,32,96,224,0,992,2016,4064,8160,16383,32767] [oM 226 10,TK 227 226,oF 228 2 227,oL 229 228,oM 230 11,oM 231 10,TK 232 231,oF 233 2 232,oL 234 233,oM 235 11,oX 236 234 235,oL 237 236,oN 238 237,o 239 (.mks 1 8 [Uk 0] (.t 238) (.t 238)),oX 240 229 230,TJ 1 240 239]) (.feet [0,1,3,7,0,31,63,0,128,511,1023] [oM 241 10,TK 242 241,oF 243 2 242,oL 244 243,oM 245 11,oX 246 244 245,oL 247 246,oF 248 0 3,oL 249 248,o 250 (.ixs 1 (.t 247) (qI 0)),TJ 1 250 249])) (.skip))) Q t [] g:=by
 obtain⟨h2,m,h4,f,c,-⟩:=hS.st;obtain⟨rows,a⟩:=hS.bt;obtain⟨rws,hW⟩:=hS.bw;have hK:=hS.hK;have hl:=hS.hl;have S:=hS.hp.nx;rcases hS.hR with⟨rfl,h0⟩|⟨r,rfl,hr⟩
 ·simp only[sz,simprocAttr,c];exact hS.fin0 fin (by simp[sx,m]) (by simp[sx,h4])
 ·obtain⟨y,D⟩:∃y,x.rows[r]?=some y:=⟨_,Qu hr⟩;have l:=hW.at_ r y D;have B:LS L (J+1,2+r):=LS.s hS.hx (by omega);have N:=hS.hp.own B (a.nd.rr r y D);have O:=a.nd.len.2.2 y (Qz D);have ly:=dG N.rows;rw[QJ]at ly;have j:r<rws.length:=by have:=hW.len;omega
  have M:md (V (J+1,1))=true:=fe hW.own (by omega);simp only[sz,simprocAttr,f,c,show decide ((r:Int) >= 0)=true from by simp,bu a.ry,bA a.ry,a.own.rows,a.hlt,a.row,hW.own.rows,j,l,ly];refine ba (λhb=>?_) (λhb=>?_)
  ·have u:0<y.length:=by simpa using hb
   obtain⟨A,R⟩:∃A,A=SC.feet [0,1,3,7,0,31,63,0,128,511,1023] [oM 241 10,TK 242 241,oF 243 2 242,oL 244 243,oM 245 11,oX 246 244 245,oL 247 246,oF 248 0 3,oL 249 248,o 250 (.ixs 1 (.t 247) (qI 0)),TJ 1 250 249]:=⟨_,rfl⟩;rw[<-R];refine fA (P:=λt' df g'=>df=[]/\∃L' x' V' E',BS K J L' x' bx gr (r:Int) t' g' V' E'/\x'.rows[r]?=some (List.replicate y.length 0)) ?_ ?_
   ·simp only[sz,simprocAttr,sf,f,c,bu a.ry,bA a.ry,a.own.rows,a.hlt,a.row,hW.own.rows,j,l,ly];refine l_ (b:=3) (n:=y.length) (by unfold aQ;omega) (by unfold aQ;omega) (by first| (simp;done)| (simp;omega)) λW ga hWo na fra vW lga=>?_;simp only[sy]at na fra vW lga;have I:=(hS.hp.step (g':=G.mk g.h g.nx []) (Qv _) (λ_ _ _=>rfl)).set (g':=ga) (k:=(J+1,2+r)) (v':=W) (e':=.sl 1 ((List.replicate y.length (0:Int)).map ci)) B (by rw[List.map_replicate];exact hWo) (by show g.nx<=ga.nx;omega) (λi _ hi _=>fra i (by have hi:i<g.nx:=hi;omega)) (.inr ⟨_,by rw[bU hWo];exact vW,by show g.nx<=_;omega⟩);have F:ups V (J+1,2+r) W (J+1,1)=V (J+1,1):=ac _ _ (by simp<;>omega);have H:ups E (J+1,2+r) (.sl 1 ((List.replicate y.length (0:Int)).map ci)) (J+1,1)=.sl 1 rws:=by rw[ac _ _ (by simp<;>omega)];exact hW.e1
    have rwa:af ga.h 1 (V (J+1,1))=some rws:=by rw[<-F];exact (I.own (LS.s hS.hx (by omega)) H).rows
    simp only[sz,simprocAttr,sf,rwa,j];refine (I.same (g':=_) (by simp) (by simp<;>omega)).putv (k:=(J+1,1)) (i:=r) (off:=0) (n:=1) (LS.s hS.hx (by omega)) F (row':=[W]) H l (by rw[hWo.cell.1];rfl) hWo.cell.2 (by rw[hWo.cell.1];rfl) λgb hHb nb frb fob=>?_;simp only[sy]at nb frb fob ⊢;refine⟨?_,L.set J (x.wr r (List.replicate y.length 0)),x.wr r (List.replicate y.length 0),_,_,⟨?_,(hHb.same (g':=_) (by simp) (by simp<;>omega)).sub λk hk=>LS.upd hS.hx (by simp[Node.wr]) hk,?_,?_,?_,BLs.upd a.oth.v.e.e ?_ ?_ ?_,by rw[Rr (Qt.1 hS.hx).1],.inr ⟨r,rfl,by simpa [Node.wr] using hr⟩,hK,by simpa using hl⟩,by simp[Node.wr,hr]⟩
    ·simp only[Q2,QZ,QY,QI];refine aJ (false::(TW (TV (true::(false::(true::[])))))) [(0,13),(1,13),(2,13),(3,13),(4,13)] (by simp[All2,ak,aw]) (by decide) ?_;have ro1:=a.own.refs_lt;rintro p hp x y hx D;simp only[Q8,QG,SY]at hp;rcases hp with rfl|rfl|rfl|rfl|rfl<;>(simp at hx D;subst hx;subst D;refine dk rfl rfl rfl rfl ?_ ?_ ?_<;>simp[ak,aw,jG a.ry,lga]<;>first|omega| (intro h;have:=ro1 _ h;omega)| (intro i' z e;have:=ro1 i' z;omega)| (intro i' z;have:=ro1 i' z;omega)|skip)
    ·simp[St,sx,h2,m,h4,f,c,ac]
    ·simp only[bumpG_h];rw[frb 0 (by omega)];(try simp);rw[fra 0 (by omega),hS.f0]
    ·simp only[bumpG_h];rw[frb 1 (by omega),ac _ _ (by simp<;>omega)];(try simp);rw[fra 1 (by omega),hS.f1]
    ·simp only[bumpG_h];rw[frb 2 (by omega)];(try simp);rw[fra 2 (by omega),hS.f2]
    ·rw[ac _ _ (by simp<;>omega),ac _ _ (by simp<;>omega),a.e0]
    ·rw[jZ,ac _ _ (by simp<;>omega),ac _ _ (by simp<;>omega)];exact a.row
    ·exact Cg (r:=r) (y':=List.replicate y.length 0) a.nd hW.at_ hW.len hr (by rw[ac _ _ (by simp<;>omega),ac _ _ (by simp<;>omega)]) (by rw[an,an]) (by rw[ac _ _ (by simp<;>omega),an]) (λq hq=>ac _ _ (by simp<;>omega)) (λq hq=>by rw[ac _ _ (by simp<;>omega),ac _ _ (by simp<;>omega)]) (by simpa using O)
   clear h2 m h4 f c a hW B N hS l j M;rintro t df g2 ⟨rfl,L',x',V',E',hS,C⟩;rw[R];obtain⟨h2,m,h4,f,c,-⟩:=hS.st;obtain⟨rows,a⟩:=hS.bt;obtain⟨rws,hR⟩:=hS.br C;have T:0<((List.replicate y.length (0:Int)).map ci).length:=by simpa using u
   have U:((List.replicate y.length (0:Int)).map ci)[0]?=some (ci 0):=by simp[u]
   have u3:=hR.yr;have X:=hR.rl;simp only[sz,simprocAttr,sf,m,f,c,hS.f1,bu a.ry,bA a.ry,a.own.rows,a.hlt,a.row,hR.wr,X,hR.rw_,DC u3 T];refine (hS.hp.same (g':=_) (by simp) (by simp<;>omega)).put (k:=(J+1,2+r)) (i:=0) (off:=0) (n:=1) (row:=ci 0) (row':=ci gr) (LS.s hS.hx (by have:=(Qt.1 C).1;omega)) hR.ye U rfl rfl rfl λgb hHb nb frb fob=>?_;simp only[sy]at nb frb fob ⊢;refine⟨?_,?_⟩
   ·simp only[Q2,QZ,QY,QI];exact aJ (TX (TV (true::[]))) [] (by simp[All2,ak,aw]) (by decide) (by simp)
   rw[<-RD]at hHb;have w:=hS.put (t':=t) C (hHb.same (g':=G.mk gb.h gb.nx []) rfl (Qv _)) (λi hi=>by have:=frb i hi;simpa using this) (by simpa using hR.yl) (by simp[St,h2,m,h4,f,c]);exact fin _ _ gr _ _ (by simp[sx,m]) (by simp[sx,h4]) (by simpa using w.f1) (by simpa using w.f2) (w.sl.heap (by simp))
  ·simp only[sx];exact hS.fin0 fin (by simp[sx,m]) (by simp[sx,h4])
theorem Ly[XOc]{n:Nat}(hn:n<=1000000)(hy0:y.length=n)(hyr:x.rows[r]?=some y)(hS:BS K J L x bx gr (r:Int) t g V E)(h12:tat t 12=Uk 0)(h13:tat t 13=Uk ((n:Int) - 1))
  (fin:∀t g L x E,BS K J L x bx gr (r:Int) t g V E->Q (.exit 5) t [] g):wpL (wp C0 d none dO) Q t [] g:=by
 obtain⟨FR,q⟩:∃FR,FR=SC.feet [0,1,3,7,0,31,63,0,0,256,768,1792,0,7936,16128,0,65280,130816,262143,524287] [oM 279 10,TK 280 279,oF 281 2 280,oL 282 281,oM 283 11,oX 284 282 283,oL 285 284,oM 286 12,oM 287 10,TK 288 287,oF 289 2 288,oL 290 289,oM 291 11,oX 292 290 291,oL 293 292,oM 294 13,oX 295 293 294,oL 296 295,oX 297 285 286,TJ 1 297 296]:=⟨_,rfl⟩;simp only[dO];rw[<-q];refine be (n / 2) (by omega) (λj t df g=>df=[]/\∃L x y E,BS K J L x bx gr (r:Int) t g V E/\x.rows[r]?=some y/\y.length=n/\tat t 13=Uk ((n:Int) - 1 - (j:Int)))
  ⟨rfl,L,x,y,E,hS,hyr,hy0,by simp[h13]⟩ h12 (by decide) ?_ ?_ ?_ ?_
 ·rintro j t df g v s (rfl|rfl|rfl) ⟨rfl,L,x,y,E,hS,h⟩<;>exact⟨rfl,L,x,y,E,⟨by have:=hS.st;simpa [St,sx] using this,hS.hp,hS.f0,hS.f1,hS.f2,hS.bl,hS.hx,hS.hR,hS.hK,hS.hl⟩,by simpa [sx] using h⟩
 ·rintro j t df g F ⟨rfl,L,x,y,E,hS,hyr,p,h13⟩ h12;simp only[sz,simprocAttr,h12,h13];refine⟨by congr 1;exact decide_eq_decide.2 (by omega),⟨L,x,y,E,⟨by have:=hS.st;simpa [St,sx] using this,hS.hp,hS.f0,hS.f1,hS.f2,hS.bl,hS.hx,hS.hR,hS.hK,hS.hl⟩,hyr,p⟩⟩
 ·rintro j t df g F ⟨rfl,L,x,y,E,hS,hyr,p,h13⟩ h12;have hk:((n:Int) - 1 - (j:Int))=((n - 1 - j:Nat):Int):=by omega
  rw[hk]at h13;obtain⟨z,hz⟩:∃z,y[j]?=some z:=⟨_,Qu (by omega)⟩;obtain⟨z',B⟩:∃z,y[n - 1 - j]?=some z:=⟨_,Qu (by omega)⟩;refine fA (P:=λt' df g'=>df=[]/\g'=g/\BS K J L x bx gr (r:Int) t' g V E/\St t' [(12,Uk (j:Int)),(13,Uk ((n - 1 - j:Nat):Int)),(14,Uk z)]) ?_ ?_
  ·obtain⟨h2,m,h4,b,c,-⟩:=hS.st;obtain⟨rows,e⟩:=hS.bt;obtain⟨rws,hR⟩:=hS.br hyr;have A:j<(y.map ci).length:=by simp;omega
   have C:(y.map ci)[j]?=some (ci z):=by rw[Qx,hz];rfl
   have l:=xU hR.yr A;simp only[sz,simprocAttr,b,c,h12,bu e.ry,bA e.ry,e.own.rows,e.hlt,e.row,hR.wr,hR.rl,hR.rw_,hR.yr,A,C,ci];exact⟨⟨by simp[St,sx,h2,m,h4,b,c],hS.hp,hS.f0,hS.f1,hS.f2,hS.bl,hS.hx,hS.hR,hS.hK,hS.hl⟩,by simp[St,sx,h12,h13]⟩
  clear hS h12 h13;rintro t df g1 ⟨rfl,rfl,hS,h12,h13,f,-⟩;rw[q];refine fA (P:=λt' df g'=>df=[]/\∃L x E,BS K J L x bx gr (r:Int) t' g' V E/\x.rows[r]?=some (y.set j z')/\St t' [(12,Uk (j:Int)),(13,Uk ((n - 1 - j:Nat):Int)),(14,Uk z)]) ?_ ?_
  ·obtain⟨h2,m,h4,b,c,-⟩:=hS.st;obtain⟨rows,e⟩:=hS.bt;obtain⟨rws,hR⟩:=hS.br hyr;have A:j<(y.map ci).length:=by simp;omega
   have C:(y.map ci)[j]?=some (ci z):=by rw[Qx,hz];rfl
   have u3:n - 1 - j<(y.map ci).length:=by simp;omega
   have D:(y.map ci)[n - 1 - j]?=some (ci z'):=by rw[Qx,B];rfl
   have l:=xU hR.yr A;have o:=hR.rl;simp only[sz,simprocAttr,sf,b,c,h12,h13,bu e.ry,bA e.ry,e.own.rows,e.hlt,e.row,hR.wr,o,hR.rw_,hR.yr,A,u3,D,ci];refine (hS.hp.same (g':=_) (by simp) (by simp;omega)).put (k:=(J+1,2+r)) (i:=j) (off:=0) (n:=1) (row:=ci z) (row':=ci z') (LS.s hS.hx (by have:=(Qt.1 hyr).1;omega)) hR.ye C rfl rfl rfl λgb hHb nb frb fob=>?_;simp only[sy]at nb frb fob ⊢;rw[<-RD]at hHb;have a:=hS.put (t':=t) hyr (hHb.same (g':=G.mk gb.h gb.nx []) rfl (Qv _)) (λi hi=>by have:=frb i hi;simpa using this) (by simpa using hR.yl) (by simp[St,h2,m,h4,b,c]);refine⟨?_,_,_,_,a.mv (by simp) (by simp) (by simp[St,sx,h2,m,h4,b,c]),by simp[Node.wr,(Qt.1 hyr).1],by simp[St,sx,h12,h13,f]⟩;simp only[Q2,QZ,QY,QI];exact aJ (false::(TX (TV (TV (true::[]))))) [] (by simp[All2,ak,aw]) (by decide) (by simp)
  clear hS h12 h13 f hyr;rintro t df g2 ⟨rfl,L,x,E,hS,hyr,h12,h13,f,-⟩;refine fA (P:=λt' df g'=>df=[]/\∃L x E,BS K J L x bx gr (r:Int) t' g' V E/\x.rows[r]?=some ((y.set j z').set (n - 1 - j) z)/\St t' [(12,Uk (j:Int)),(13,Uk ((n - 1 - j:Nat):Int))]) ?_ ?_
  ·obtain⟨h2,m,h4,b,c,-⟩:=hS.st;obtain⟨rows,e⟩:=hS.bt;obtain⟨rws,hR⟩:=hS.br hyr;have u3:n - 1 - j<((y.set j z').map ci).length:=by simp;omega
   obtain⟨w,hw⟩:∃w,(y.set j z')[n - 1 - j]?=some w:=⟨_,Qu (by simp;omega)⟩;have D:((y.set j z').map ci)[n - 1 - j]?=some (ci w):=by rw[Qx,hw];rfl
   have l:=xU hR.yr u3;have o:=hR.rl;have u:=hR.yr;simp only[sz,simprocAttr,b,c,h13,f,bu e.ry,bA e.ry,e.own.rows,e.hlt,e.row,hR.wr,o,hR.rw_,u,u3];refine hS.hp.put (k:=(J+1,2+r)) (i:=n - 1 - j) (off:=0) (n:=1) (row:=ci w) (row':=ci z) (LS.s hS.hx (by have:=(Qt.1 hyr).1;omega)) hR.ye D rfl rfl rfl λgb hHb nb frb fob=>?_;simp only[sx,sy];rw[<-RD]at hHb;have a:=hS.put (t':=t) hyr hHb frb (by simpa using hR.yl) (by simp[St,h2,m,h4,b,c]);exact⟨_,_,_,⟨by simp[St,sx,h2,m,h4,b,c],a.hp,a.f0,a.f1,a.f2,a.bl,a.hx,a.hR,a.hK,a.hl⟩,by simp[Node.wr,(Qt.1 hyr).1],by simp[St,sx,h12,h13]⟩
  clear hS h12 h13 f hyr;rintro t df g3 ⟨rfl,L,x,E,hS,hyr,h12,h13,-⟩;simp only[sz,simprocAttr,h12,h13];refine⟨L,x,(y.set j z').set (n - 1 - j) z,E,hS.mv rfl (Qv _) (by have:=hS.st;simpa [St,sx] using this),hyr,by simp[p],?_⟩;rw[aA (by omega) (by omega)];congr 1;omega
 ·rintro t df g ⟨rfl,L,x,y,E,hS,-⟩;exact fin t g L x E hS
theorem bc9[XOc](hS:BS K J L x bx gr Rw t g V E)(fin:ui λe t df g=>Q e t df g) :
  wp C0 d none (sQ [oM 253 11,TF 254 .geq 253 0] (Ui 254 (Uj (.quiet [oM 255 10,TK 256 255,oF 257 2 256,oL 258 257,oM 259 11,oX 260 258 259,oL 261 260,oN 262 261,TF 263 .sub 262 1,oK 12 0,oM 13 263]) (.blk 5 (.loop dO))) (.skip))) Q t [] g:=by
 obtain⟨h2,c,h4,a,k,-⟩:=hS.st;obtain⟨rows,b⟩:=hS.bt;rcases hS.hR with⟨rfl,h0⟩|⟨r,rfl,hr⟩
 ·simp only[sx,SO.run,↓reduceIte,k];exact⟨λh=>by simp at h,λ_=>hS.fin0 fin (by simp[sx,c]) (by simp[sx,h4])⟩
 ·simp only[sx,SO.run,↓reduceIte,k];refine⟨λ_=>?_,λh=>by simp at h⟩;obtain⟨y,f⟩:∃y,x.rows[r]?=some y:=⟨_,Qu hr⟩;obtain⟨rws,hR⟩:=hS.br f;have ly:=dG hR.yr;rw[QJ]at ly;have i:=hR.yl;have hK:=hS.hK;have w9:IntKind.wrap .i64 ((y.length:Int) - 1)=(y.length:Int) - 1:=aA (by omega) (by omega);simp only[sx,sy,SO.run,↓reduceIte,Nat.reduceEqDiff,a,k,bu b.ry,bA b.ry,b.own.rows,b.hlt,b.row,hR.wr,hR.rl,hR.rw_,ly,w9,SX,QC];refine Ly (n:=y.length) (L:=L) (x:=x) (y:=y) (E:=E) (by omega) rfl f ⟨by simp[St,sx,h2,c,h4,a,k],hS.hp,hS.f0,hS.f1,hS.f2,hS.bl,hS.hx,hS.hR,hS.hK,hS.hl⟩ (by simp[sx]) (by simp[sx]) ?_;intro t g L x E hS;obtain⟨h2,c,h4,a,k,-⟩:=hS.st;simp only[sx,↓reduceIte];exact hS.fin0 fin c h4
end
def Lu:VS:=λP k h v=>∃m:Net,True/\Agg m P k h v
theorem MM:Snb Lu 1:=kM λm=>c_ _
theorem bk5[XOc]{nv:AV}{nds:List Node}(h3:tat t 3=Ul 1)(h4:tat t 4=Ul 2)(e1:g.h.get 1=TD 2 [[Uk gr,nv]])(e2:g.h.get 2=TD 2 [[Uk 0,.nils]])
  (hn:SlR P3 0 g.h nds nv):wp C0 d none dP (fnQ C0 d [SR.cell true 2 4] λv g'=>∃P,Lu P 0 g'.h v) t [] g:=by
 simp only[sz,simprocAttr,dP,h3,h4,e1,e2];refine⟨P3,⟨gr,nds⟩,trivial,_,rfl,?_⟩;exact Rp.mono (P:=P3) (h:=g.h) (dT.2 ⟨nv,rfl,hn⟩) (λi hi=>⟨hi,by rw[aE _ _ _ (by have:3<=i:=hi;omega)]⟩) (Qv _)
theorem bk6[XOc]{K J:Nat}{L:List Node}{x:Node}{bx:k_}{Rw:Int}{V:Ky->AV}{E:Ky->En}{Q:QT}(hS:BS K J L x bx gr Rw t g V E)
  (last:ui (kB 4 (kS (wp C0 d none dP Q) Q))):wp C0 d none gu Q t [] g:=by
 have c:bx.1.toNat<256:=bx.1.toNat_lt;obtain⟨h2,b,h4,k,a,-⟩:=hS.st;have mv:∀{t':T},St t' (LBS (V (0,0)) J Rw)->BS K J L x bx gr Rw t' g V E:=λh=>hS.mv rfl (Qv _) h;simp only[sz,simprocAttr,gu,h2,hS.f0,u8v,dN .u8 (show (0:Int)<=(bx.1.toNat:Int) by omega) (show (0:Int)<12 by decide)];refine ba (λhb=>?_) (λhb=>?_)
 ·exact bc0 (mv (by simp[St,sx,h2,b,h4,k,a])) last
 simp only[sz,simprocAttr];refine ba (λhb=>?_) (λhb=>?_)
 ·exact bc1 (mv (by simp[St,sx,h2,b,h4,k,a])) last
 simp only[sz,simprocAttr];refine ba (λhb=>?_) (λhb=>?_)
 ·exact bc2 (mv (by simp[St,sx,h2,b,h4,k,a])) last
 simp only[sz,simprocAttr];refine ba (λhb=>?_) (λhb=>?_)
 ·exact bc3 (mv (by simp[St,sx,h2,b,h4,k,a])) last
 simp only[sz,simprocAttr];refine ba (λhb=>?_) (λhb=>?_)
 ·exact bc4 (mv (by simp[St,sx,h2,b,h4,k,a])) last
 simp only[sz,simprocAttr];refine ba (λhb=>?_) (λhb=>?_)
 ·exact bc5 (mv (by simp[St,sx,h2,b,h4,k,a])) last
 simp only[sz,simprocAttr];refine ba (λhb=>?_) (λhb=>?_)
 ·exact bc6 (mv (by simp[St,sx,h2,b,h4,k,a])) last
 simp only[sz,simprocAttr];refine ba (λhb=>?_) (λhb=>?_)
 ·exact bc7 (mv (by simp[St,sx,h2,b,h4,k,a])) last
 simp only[sz,simprocAttr];refine ba (λhb=>?_) (λhb=>?_)
 ·exact bc8 (mv (by simp[St,sx,h2,b,h4,k,a])) last
 simp only[sz,simprocAttr];refine ba (λhb=>?_) (λhb=>?_)
 ·exact bc9 (mv (by simp[St,sx,h2,b,h4,k,a])) last
 simp only[sz,simprocAttr];refine ba (λhb=>?_) (λhb=>?_)
 ·exact OV (mv (by simp[St,sx,h2,b,h4,k,a])) last
 exact OW (mv (by simp[St,sx,h2,b,h4,k,a])) last
theorem bk7[XOc]{K:Nat}{bx:k_}{b:AV}{L:List Node}{V:Ky->AV}{E:Ky->En}(hK:K<=1000000)(hl:L.length<=K)
  (ht:St t [(2,Ul 0),(3,Ul 1),(4,Ul 2)]) (h5:tat t 5=V (0,0)) (hH:Hp g 3 (LS L) V E) (hB:BBn g [u8v bx.1,u8v bx.2.1,u8v bx.2.2.1,Uk bx.2.2.2] gr b) (hD:BLs K V E L) :
  wp C0 d none gv (fnQ C0 d [SR.cell true 2 4] λv g'=>∃P,Lu P 0 g'.h v) t [] g:=by
 obtain⟨h2,a,h4,-⟩:=ht;obtain⟨b0,b1,b2⟩:=hB;obtain⟨rows,e1,m,w⟩:=hD.ns;have o1:=hH.own LS.z e1;have len1:=dG o1.rows;rw[m]at len1;have p:=hH.nx;unfold gv;refine jo (P:=λt df g'=>df=[]/\Hp g' 3 (LS L) V E/\St t [(2,Ul 0),(3,Ul 1),(4,Ul 2),(5,V (0,0))]/\g'.h.get 0=TD 4 [[u8v bx.1,u8v bx.2.1,u8v bx.2.2.1,Uk bx.2.2.2]]/\g'.h.get 1=TD 2 [[Uk gr,V (0,0)]]/\g'.h.get 2=TD 2 [[Uk 0,.nils]]) ?_ ?_
 ·simp only[sz,simprocAttr,a,h5,b1,o1.cell.1,o1.cell.2];exact⟨hH.step (by simp) λi hi _=>by simp[O6];omega,by simp[St,sx,h2,a,h4,h5],by simp[b0],by simp[b2]⟩
 clear b0 b1 b2 h2 a h4 h5 hH o1 p;rintro t df g1 hg;obtain⟨rfl,hH,⟨h2,a,h4,h5,-⟩,f0,f1,f2⟩:=hg;have o1:=hH.own LS.z e1;have hsl:=hD.sl hH (by omega) (by omega);simp only[sz,simprocAttr,h5,len1];refine ba (λhb=>?_) (λhb=>?_)
 ·simp only[sz,simprocAttr,a,h4,f1,f2];refine⟨P3,⟨gr,L⟩,trivial,_,rfl,?_⟩;exact Rp.mono (P:=P3) (h:=g1.h) (dT.2 ⟨_,rfl,hsl⟩) (λi hi=>⟨hi,by rw[aE _ _ _ (by have:3<=i:=hi;omega)]⟩) (Qv _)
 have o:0<L.length:=by have:=of_decide_eq_false hb;omega
 have at8:bx.2.1.toNat<256:=bx.2.1.toNat_lt;have em:((bx.2.1.toNat:Int) % (L.length:Int))=((bx.2.1.toNat % L.length:Nat):Int):=by omega
 have q:bx.2.1.toNat % L.length<L.length:=R_ _ o;obtain⟨J,n⟩:∃J,J=bx.2.1.toNat % L.length:=⟨_,rfl⟩;rw[<-n]at em q;obtain⟨x,hx⟩:∃x,L[J]?=some x:=⟨_,Qu q⟩;have f:J<rows.length:=by omega
 have e:rows[J]?=some [Uk x.card,V (J+1,0),V (J+1,1)]:=w J x hx;have c:md (V (0,0))=true:=fe o1 (by omega);obtain⟨rws,q1,q2,q3⟩:=(hD.nd J x hx).rs;have u:=(hD.nd J x hx).len;have o2:=hH.own (LS.s hx (by omega)) q1;have len2:=dG o2.rows;rw[q2]at len2;rw[CN,uX];refine jo (P:=λt df g'=>df=[]/\g'=g1/\St t [(2,Ul 0),(3,Ul 1),(4,Ul 2),(10,jf 3 (V (0,0)) J 0)]) ?_ ?_
 ·simp only[sz,simprocAttr,h2,a,h4,h5,f0,len1,u8v,aA (show -9223372036854775808<=(bx.2.1.toNat:Int) by omega) (show (bx.2.1.toNat:Int)<9223372036854775808 by omega),dN .i64 (show (0:Int)<=(bx.2.1.toNat:Int) by omega) (show 0<(L.length:Int) by omega),em,o1.rows,f,St]
 clear h2 a h4 h5;rintro t df g' ⟨rfl,rfl,h2,a,h4,k,-⟩;have A:bx.2.2.1.toNat<256:=bx.2.2.1.toNat_lt;refine jo (P:=λt df g''=>df=[]/\g''=g'/\St t (LBS (V (0,0)) J (-1))) ?_ ?_
 ·simp only[sz,simprocAttr,h2,a,h4,k,St]
 clear h2 a h4 k;rintro t df g'' ⟨rfl,rfl,h2,a,h4,k,j,-⟩;refine fA (P:=λt df g3=>df=[]/\g3=g''/\∃Rw:Int,((Rw = -1/\x.rows.length=0)\/∃r:Nat,Rw=(r:Int)/\r<x.rows.length)/\St t (LBS (V (0,0)) J Rw)) ?_ ?_
 ·simp only[sz,simprocAttr,k,bu c,bA c,o1.rows,f,e,len2];refine ba (λhb=>?_) (λhb=>?_)
  ·have l:0<x.rows.length:=by simpa using hb
   have em2:((bx.2.2.1.toNat:Int) % (x.rows.length:Int))=((bx.2.2.1.toNat % x.rows.length:Nat):Int):=by omega
   have hm:=R_ bx.2.2.1.toNat l;simp only[sz,simprocAttr,h2,k,f0,u8v,aA (show -9223372036854775808<=(bx.2.2.1.toNat:Int) by omega) (show (bx.2.2.1.toNat:Int)<9223372036854775808 by omega),bu c,bA c,o1.rows,f,e,len2,dN .i64 (show (0:Int)<=(bx.2.2.1.toNat:Int) by omega) (show 0<(x.rows.length:Int) by omega),em2];exact⟨_,.inr ⟨_,rfl,hm⟩,by simp[St,sx,h2,a,h4,k]⟩
  ·have h0:x.rows.length=0:=by have:=of_decide_eq_false hb;omega
   simp only[sx,sy];exact⟨-1,.inl ⟨rfl,h0⟩,by simp[St,sx,h2,a,h4,k,j]⟩
 clear h2 a h4 k j;rintro t df g3 ⟨rfl,rfl,Rw,hR,ht⟩;refine bk6 (K:=K) (L:=L) (x:=x) (bx:=bx) (gr:=gr) ⟨ht,hH,f0,f1,f2,hD,hx,hR,hK,hl⟩ ?_;intro t g gr nv nds a h4 e1 m y;rw[Ca,uX];exact bk5 a h4 e1 m y
theorem Lz[XOc]{K:Nat}{x:k_}{m:Net}{v:AV}(hd:0<d)(hx:Agg x NoP 0 g.h v)(hm:Agg m NoP 0 g.h w)(hK:K<=1000000)(hl:m.nodes.length<=K)
  (hb:∀y∈m.nodes,y.parents.length<=K/\y.rows.length<=K/\∀r∈y.rows,r.length<=K):∃r,aq C0 d 10 [v,w] g=.val r/\Lu NoP 0 .nil r:=by
 have e0:=g8 d hx;have e1:=g8 d hm;obtain⟨cs,rfl,hc⟩:=hx;have hc:=Et.1 hc;subst hc;obtain⟨cs,rfl,hc⟩:=hm;obtain⟨b,rfl,hN⟩:=dT.1 hc;rw[tD];refine bj v7 (xs:=[.agg [u8v x.1,u8v x.2.1,u8v x.2.2.1,Uk x.2.2.2],.agg [Uk m.grain,b]]) (by simp only[aF,e0,e1]) (by simp[jU]) MM (by decide) hd ?_;clear e0 e1 hc;have hN:=hN.tree (h':=.nil) (Qv _);simp only[sz,simprocAttr,jU];obtain⟨g0,hg0⟩:∃g0,g0=((G.empty.new (TD 4 [[u8v x.1,u8v x.2.1,u8v x.2.2.1,Uk x.2.2.2]])).new (TD 2 [[Uk m.grain,b]])).new (TD 2 [[Uk 0,.nils]]):=⟨_,rfl⟩;rw[<-hg0];have f0:BBn g0 [u8v x.1,u8v x.2.1,u8v x.2.2.1,Uk x.2.2.2] m.grain b:=by rw[hg0];exact⟨by simp[sx,O6],by simp[sx,O6],by simp[sx]⟩
 have f:g0.nx=3:=by rw[hg0];simp[sx]
 clear hg0;have a:Hp g0 3 (LS []) (λ_=>.nils) (λk=>.sl 3 []):=⟨λk _=>.inl ⟨rfl,rfl⟩,λk l _ _ _ id h=>(by cases h),by omega⟩;simp only[sz,simprocAttr,mC];refine Ot (V:=λ_=>.nils) hK hN hl hb (by simp[St,sx]) (by simp[sx]) (by simp[sx]) a f0 ⟨⟨[],rfl,rfl,λi y hy=>by simp at hy⟩,λi y hy=>by simp at hy⟩ ?_;clear a;intro t g V E ht h5 a c e;simp only[sx,↓reduceIte];exact bk7 hK hl ht h5 a c e
theorem zC(a b c e f:AV)(t:T):bh 0 [a,b,c,e,f] t=fj (fj (fj (fj (fj t 0 a) 1 b) 2 c) 3 e) 4 f:=rfl
def S.PP(e:List Int)(u:Nat):List Int:=S.Pd e (S.PU (S.kn e e.length) (S.Ph u))
def S.P6(n:Net)(e:List Int)(v:Nat)(a b:Int)(u:Nat):Int :=
 if e[u]?.getD 0<0 then 0 else S.Pl (S.Pi n (e.set v a)*S.Pi n ((S.PP e u).set v b)) (S.Pi n (e.set v b)*S.Pi n ((S.PP e u).set v a))
def S.PQ(n:Net)(e:List Int)(v:Nat)(a b:Int):List Int:=(List.range e.length).map (S.P6 n e v a b)
def S.Pm(n:Net)(e:List Int)(v a b:Int):Int:=if S.Po n e v [a,b]=0 then (if a=b then 2 else if S.Pi n e=0 then 7 else 0) else S.Po n e v [a,b]
def S.PS(n:Net)(e:List Int)(v a b:Int):List Int:=if S.Pm n e v a b=0 then S.PQ n e v.toNat a b else []
theorem MA(e:List Int)(u:Nat):(S.PP e u).length=e.length:=jn _ _
theorem CA(n:Net)(e:List Int)(v:Nat)(a b:Int):(S.PQ n e v a b).length=e.length:=by simp[S.PQ]
theorem jF(h:NR n)(e:List Int):0<=S.Pi n e/\S.Pi n e<4611686018427387904:=by have:=DW h e;omega
theorem KV(he:e.length<=64)(u:Nat):S.PU (S.kn e e.length) (S.Ph u)<18446744073709551616:=by exact Tb (n:=64) (pE he) (SW Nat.and_le_left (pE he))
theorem Cs{h:H}:Rp.rp P k h ([]:List Int) [.nils]:=⟨_,rfl,by show 0<_;decide,rfl⟩
theorem Ge{m n:Nat}(h:m<18446744073709551616)(h':n<18446744073709551616):bT .andNot (Um (m:Int)) (Um (n:Int))=.val (Um ((S.PU m n:Nat):Int)):=yk m n h h'
theorem FM[XOc](hd:0<d)(hm:Agg n NoP 0 g.h u)(he:SlR P k g.h e w) :
  ∃r,aq C0 d 20 [u,w,Uk v,Uk a,Uk b] g=.val r/\yf (One (S.PS n e v a b)) (One (S.Pm n e v a b)) NoP 0 .nil r:=by
 obtain⟨w',W,o⟩:=bE he d;obtain⟨bb,rows,rfl,e1,q,hN,r1,r2,r3,r4⟩:=cy d hm;have n2:=λg=>(o .nil).len g;have rb:=λh=>(o h).ints;have O:=he.1;rw[uC];refine bj xp (xs:=[.agg [Uk n.grain,bb],w',Uk v,Uk a,Uk b]) (by simp only[aF,e1,W,bJ]) (by simp[lU]) (iE (m:=1) (aU _) (aU _) (by decide) (by decide)) (by decide) hd ?_;simp only[sz,simprocAttr,lU,oI,zC,Gt];generalize hg0:G.new _ _=g0;have f0:g0.h.get 0=TD 2 [[Uk n.grain,bb]]:=by rw[<-hg0];simp[O6,sx]
 have f1:g0.h.get 1=TD 1 [[Uk a],[Uk b]]:=by rw[<-hg0];simp[O6,sx]
 have fn:1<=g0.nx:=by rw[<-hg0];simp[sx]
 clear hg0;have I:SlR (λ_=>True) 0 g0.h [a,b] (.hsl 1 0 0 2 none):=by refine⟨by show 2<_;decide,trivial,[[Uk a],[Uk b]],?_,aI.2 rfl,aI.2 rfl,trivial⟩;show af g0.h 1 _=_;simp only[af,f1];rfl
 have kf:=KM (d:=d+1) (g:=g0) (n:=n) (e:=e) (l:=[a,b]) (v:=v) (u:=.agg [Uk n.grain,bb]) (by omega) (q _) (o g0.h) I
 by_cases hf:S.Po n e v [a,b]=0
 rotate_left
 ·have A:S.Pm n e v a b=S.Po n e v [a,b]:=Qw hf;have F:S.PS n e v a b=[]:=Qw (by rw[A];exact hf);simp only[sz,simprocAttr,f0,kf,hf];rw[A,F];exact⟨NoP,_,_,rfl,Cs,aI.2 rfl⟩
 obtain⟨Q,⟨N,T,Y,D⟩,hx⟩:=we.1 hf;have hr:=cp.1 Q;have X:=hr.l2;obtain⟨vn,rfl⟩:=QD T;obtain⟨H,-⟩:=cU.1 N;rw[hf]at kf
 by_cases hab:a=b
 ·subst hab;have A:S.Pm n e vn a a=2:=by rw[S.Pm,QA hf,QA rfl]
  have F:S.PS n e vn a a=[]:=Qw (by rw[A];decide);simp only[sz,simprocAttr,f0,kf];rw[A,F];exact⟨NoP,_,_,rfl,Cs,aI.2 rfl⟩
 have km:=λg:G=>rO (d:=d+1) (g:=g) (n:=n) (v:=.agg [Uk n.grain,bb]) (by omega) (q _) hr (o g.h) H
 by_cases hz:S.Pi n e=0
 ·have A:S.Pm n e vn a b=7:=by rw[S.Pm,QA hf,Qw hab,QA hz]
  have F:S.PS n e vn a b=[]:=Qw (by rw[A];decide);simp only[sz,simprocAttr,f0,kf,hab,km,hz];rw[A,F];exact⟨NoP,_,_,rfl,Cs,aI.2 rfl⟩
 have A:S.Pm n e vn a b=0:=by rw[S.Pm,QA hf,Qw hab,Qw hz]
 have F:S.PS n e vn a b=S.PQ n e vn a b:=by rw[S.PS,QA A,Rb]
 rw[A,F];have Z:vn<e.length:=by omega
 have hsl:=CA n e vn a b;simp only[sz,simprocAttr,f0,kf,hab,km,hz,mF];refine be e.length O (λj t df g=>df=[]/\St t [(1,w'),(2,Uk (vn:Int)),(3,Uk a),(4,Uk b),(5,Ul 0)]/\g.h.get 0=TD 2 [[Uk n.grain,bb]]/\1<=g.nx/\∃u,tat t 13=u/\Own g 1 u 1 (((S.PQ n e vn a b).take j).map ci))
  ⟨rfl,by simp[St,sx],f0,fn,_,rfl,.inl ⟨by simp[sx],rfl⟩⟩ (by simp[sx]) (by decide) (by rintro j t df g v s (rfl|rfl|rfl)<;>simp[St,sx]) ?_ ?_ ?_
 ·rintro j t df g M ⟨rfl,⟨h1,h2,B,h4,h5,-⟩,e0,K,u,f,hu⟩ p;simp only[sz,simprocAttr,h1,p,n2];exact⟨by simp[St,sx,h1,h2,B,h4,h5],e0,K,u,by simp[sx,f],hu⟩
 ·rintro j t df g M ⟨rfl,⟨h1,h2,B,h4,h5,-⟩,e0,K,u,f,hu⟩ p;obtain⟨y,J,-,-⟩:=ae M;obtain⟨z,hz,ht,-⟩:=ae (l:=S.PQ n e vn a b) (j:=j) (by omega);have E:z=S.P6 n e vn a b j:=by
   have:(S.PQ n e vn a b)[j]?=some (S.P6 n e vn a b j):=by simp[S.PQ,M]
   rw[hz]at this;injection this
  have U:j<(e.map ci).length:=by simpa using M
  have V:(e.map ci)[j]?=some (ci y):=by rw[Qx,J];rfl
  by_cases c:y<0
  ·rw[S.P6,J,QC,QA c]at E;subst E;simp only[sz,simprocAttr,h1,f,p,rb,U,V,ci,c];refine bD (new:=[ci 0]) (hu.step (Fr.new _ _)) (by simp[sx,sy,ci]) (by simp) (by simp[aQ];omega) λv2 g2 D n2 f2 _ l2=>?_;simp only[sz,simprocAttr];refine⟨⟨by simp[St,sx,h1,h2,B,h4,h5],?_,?_,_,rfl,?_⟩,by simp[sx,p]⟩
   ·rw[f2 0 (by simp) (λe=>by have:=(hu.lt e).1;omega),G.new_h,aE _ _ _ (by omega),e0]
   ·simp at n2;omega
   ·rw[ht];simpa [ci] using D
  ·rw[S.P6,J,QC,Qw c]at E;have w1:IntKind.wrap .u64 (j:Int)=(j:Int):=jp (by omega) (by omega);have kk:=λg:G=>N7 (d:=d+1) (g:=g) (e:=e) (by omega) (o g.h) (by omega);have kn:=Ge (pE (e:=e) (j:=e.length) (by omega)) (mX j);simp only[sz,simprocAttr,h1,p,rb,U,V,ci,c,kk,w1,eK,kn];refine bF (Mx (d:=d+1) (e:=e) (by omega) (o _) (by omega) (KV (by omega) j)) λr5 C=>?_;have C:IT 0 (S.PP e j) r5:=C;have R:=MA e j;have l1:∀x:Int,(e.set vn x).length=n.nodes.length:=λx=>by rw[Sl];exact H
   have l2:∀x:Int,((S.PP e j).set vn x).length=n.nodes.length:=λx=>by rw[Sl,R];exact H
   simp only[sz,simprocAttr,sf,h1,h2,B,h5,f,e0];refine bF (rR (d:=d+1) (e:=e) (x:=a) (v:=vn) (by omega) (o _) (by omega) (by omega)) λq1 hq1=>?_;have km1:=λg:G=>rO (d:=d+1) (g:=g) (n:=n) (v:=.agg [Uk n.grain,bb]) (by omega) (q _) hr (hq1.sl g.h) (l1 a);simp only[sz,simprocAttr,sf,h1,h2,B,h4,h5,f,e0,km1];refine bF (rR (d:=d+1) (e:=e) (x:=b) (v:=vn) (by omega) (o _) (by omega) (by omega)) λq2 hq2=>?_;have km2:=λg:G=>rO (d:=d+1) (g:=g) (n:=n) (v:=.agg [Uk n.grain,bb]) (by omega) (q _) hr (hq2.sl g.h) (l1 b);simp only[sz,simprocAttr,sf,h1,h2,B,h4,h5,f,e0,km2];refine bF (rR (d:=d+1) (e:=S.PP e j) (x:=a) (v:=vn) (by omega) (C.sl _) (by omega) (by omega)) λq3 hq3=>?_;have km3:=λg:G=>rO (d:=d+1) (g:=g) (n:=n) (v:=.agg [Uk n.grain,bb]) (by omega) (q _) hr (hq3.sl g.h) (l2 a);simp only[sz,simprocAttr,sf,h1,h2,B,h4,h5,f,e0,km3];refine bF (rR (d:=d+1) (e:=S.PP e j) (x:=b) (v:=vn) (by omega) (C.sl _) (by omega) (by omega)) λq4 hq4=>?_;have km4:=λg:G=>rO (d:=d+1) (g:=g) (n:=n) (v:=.agg [Uk n.grain,bb]) (by omega) (q _) hr (hq4.sl g.h) (l2 b);have ks:=λg:G=>MH (d:=d+1) (g:=g) (by omega) (jF hr (e.set vn a)) (jF hr (e.set vn b)) (jF hr ((S.PP e j).set vn a)) (jF hr ((S.PP e j).set vn b));rw[<-E]at ks;simp only[sz,simprocAttr,sf,h1,h2,B,h4,h5,f,e0,km4,ks];refine bD (new:=[ci z]) (hu.fr (g':=_) (by simp;omega) λi hi=>?_) (by simp[sx,sy,ci]) (by simp) (by simp[aQ];omega) λv2 g2 D n2 f2 _ l2=>?_
   ·have:=(hu.lt hi).2;simp[O6];omega
   simp only[sz,simprocAttr,sf];refine⟨?_,⟨by simp[St,sx,h1,h2,B,h4,h5],?_,_,rfl,?_⟩,p⟩
   ·simp only[Q2,QZ,QY,QI];refine aJ (TX (TV (TV (TV (true::(true::(false::[]))))))) [(0,26)] (by simp[All2,ak,aw,xx,xu,xw]) (by decide) ?_;intro pp L x y hx J;simp only[Q8,QG,SY]at L;subst L;simp only[S5,SE,Rv]at hx J;subst hx;subst J;exact gF rfl rfl rfl λi hi hc=>by simp[aw]at hc
   ·rw[f2 0 (by simp) (λe=>by have:=(hu.lt e).1;omega)];simp[O6,e0]
   ·rw[ht];rw[SL];exact D.fr (by simp;omega) λi _=>by simp
 ·rintro t df g ⟨rfl,-,-,-,u,f,hu⟩;rw[<-hsl,Q4]at hu;simp only[sz,simprocAttr,mG,f];exact⟨λ_=>True,_,_,rfl,hu.ints (by omega),aI.2 rfl⟩
def S.Pc(x:Nat):Nat:=x % 18446744073709551616
def S.PC(x y:Nat):Nat×Nat :=
 let x0:=x % 4294967296
 let x1:=x / 4294967296
 let y0:=y % 4294967296
 let y1:=y / 4294967296
 let w0:=S.Pc (x0*y0)
 let t:=S.Pc (S.Pc (x1*y0)+w0 / 4294967296)
 let w1:=S.Pc (t % 4294967296+S.Pc (x0*y1))
 let w2:=t / 4294967296
 (S.Pc (S.Pc (S.Pc (x1*y1)+w2)+w1 / 4294967296),S.Pc (x*y))
theorem zq(x:Nat):S.Pc x<18446744073709551616:=R_ _ (by decide)
theorem yp(a b:Nat):bT .mul (Um (a:Int)) (Um (b:Int))=.val (Um (S.Pc (a*b):Int)):=by rw[BI];congr 2
theorem BH(a b:Nat):bT .add (Um (a:Int)) (Um (b:Int))=.val (Um (S.Pc (a+b):Int)):=by rw[xI];congr 2
theorem yg(m:Nat)(h:m<18446744073709551616):bT .and (Um (m:Int)) (Um 4294967295)=.val (Um ((m % 4294967296:Nat):Int)):=by have:=ut m 4294967295 h (by decide);have e:m &&& 4294967295=m % 4294967296:=Nat.and_two_pow_sub_one_eq_mod m 32;rw[e]at this;exact this
theorem zR(m:Nat)(h:m<18446744073709551616):bT .shr (Um (m:Int)) (Um 32)=.val (Um ((m / 4294967296:Nat):Int)):=sj .u64 m 32 h
theorem Bi[XOc]{x y:Nat}(hd:0<d)(hx:x<18446744073709551616)(hy:y<18446744073709551616) :
  aq C0 d 90 [Um (x:Int),Um (y:Int)] g=.val (.tup [Um ((S.PC x y).1:Int),Um ((S.PC x y).2:Int)]):=by
 have key:∃r,aq C0 d 90 [Um (x:Int),Um (y:Int)] g=.val r/\yf (One (S.PC x y).1) (One (S.PC x y).2) NoP 0 .nil r:=by rw[sS];refine bj uH (xs:=[Um (x:Int),Um (y:Int)]) rfl (by simp[iY]) (iE (m:=1) (aU _) (aU _) (by decide) (by decide)) (by decide) hd ?_;have nx:=yg x hx;have ny:=yg y hy;have sx':=zR x hx;have sy':=zR y hy;have f:=yp x y;unfold S.PC;simp only;generalize x % 4294967296=x0 at *;generalize x / 4294967296=x1 at *;generalize y % 4294967296=y0 at *;generalize y / 4294967296=y1 at *;have h:=yp x0 y0;have k:=yp x1 y0;have b:=yp x0 y1;have e:=yp x1 y1;have i:=zR (S.Pc (x0*y0)) (zq _);have a1:=BH (S.Pc (x1*y0)) (S.Pc (x0*y0) / 4294967296);generalize S.Pc (x0*y0) / 4294967296=w0 at *;have ht:=zq (S.Pc (x1*y0)+w0);generalize S.Pc (S.Pc (x1*y0)+w0)=tt at *;have n1:=yg tt ht;have j:=zR tt ht;have a2:=BH (tt % 4294967296) (S.Pc (x0*y1));have a3:=BH (S.Pc (x1*y1)) (tt / 4294967296);have hw:=zq (tt % 4294967296+S.Pc (x0*y1));generalize S.Pc (tt % 4294967296+S.Pc (x0*y1))=w1 at *;have l:=zR w1 hw;have a4:=BH (S.Pc (S.Pc (x1*y1)+tt / 4294967296)) (w1 / 4294967296);simp only[iY,sx,SO.run,↓reduceIte,Nat.reduceEqDiff,nx,ny,sx',sy',h,k,b,e,f,i,j,l,n1,a1,a2,a3,a4,pK];exact⟨NoP,_,_,rfl,rQ.2 ⟨rfl,zq _⟩,rQ.2 ⟨rfl,zq _⟩⟩
 obtain⟨r,hr,a,c,rfl,ha,hc⟩:=key;have ha:=rQ.1 ha;have hc:=rQ.1 hc;rw[hr];rw[List.cons.inj ha.1 |>.1,List.cons.inj hc.1 |>.1]
theorem Bj{x y:Nat}(hx:x<18446744073709551616)(hy:y<18446744073709551616) :
  (S.PC x y).1*18446744073709551616+(S.PC x y).2=x*y/\(S.PC x y).1<18446744073709551616/\(S.PC x y).2<18446744073709551616:=by
 have dx:x % 4294967296+4294967296*(x / 4294967296)=x:=Nat.mod_add_div x 4294967296;have dy:y % 4294967296+4294967296*(y / 4294967296)=y:=Nat.mod_add_div y 4294967296;simp only[S.PC];have h:x % 4294967296<=4294967295:=by omega
 have k:x / 4294967296<=4294967295:=by omega
 have a:y % 4294967296<=4294967295:=by omega
 have b:y / 4294967296<=4294967295:=by omega
 generalize x % 4294967296=x0 at *;generalize x / 4294967296=x1 at *;generalize y % 4294967296=y0 at *;generalize y / 4294967296=y1 at *;have c:x0*y0<=4294967295*4294967295:=SD h a;have e:x1*y0<=4294967295*4294967295:=SD k a;have d:x0*y1<=4294967295*4294967295:=SD h b;have f:x1*y1<=4294967295*4294967295:=SD k b;have exy:x*y=x0*y0+4294967296*(x1*y0)+4294967296*(x0*y1)+18446744073709551616*(x1*y1):=by
  rw[<-dx,<-dy,QR,Nat.mul_add,Nat.mul_add];have e1:x0*(4294967296*y1)=4294967296*(x0*y1):=Nat.mul_left_comm _ _ _;have i:4294967296*x1*y0=4294967296*(x1*y0):=SP _ _ _;have j:4294967296*x1*(4294967296*y1)=18446744073709551616*(x1*y1):=by rw[SP,Nat.mul_left_comm x1,<-SP]
  rw[e1,i,j];omega
 rw[exy];generalize x0*y0=p at *;generalize x1*y0=q at *;generalize x0*y1=r at *;generalize x1*y1=s at *;unfold S.Pc;rw[RO (show p<18446744073709551616 by omega),RO (show q<18446744073709551616 by omega),RO (show r<18446744073709551616 by omega),RO (show s<18446744073709551616 by omega)];generalize ht:q+p / 4294967296=t;have t1:t<18446744073709551616:=by omega
 rw[RO t1];generalize hw:t % 4294967296+r=w;have w1:w<18446744073709551616:=by omega
 rw[RO w1];omega
theorem Jk[XOc]{c e:Int}(hd:0<d)(ha:0<=a/\a<4611686018427387904)(hb:0<=b/\b<4611686018427387904)(hc:0<=c/\c<4611686018427387904)(he:0<=e/\e<4611686018427387904) :
  aq C0 d 59 [Uk a,Uk b,Uk c,Uk e] g=.val (Uk (S.Pl (a*b) (c*e))):=by
 obtain⟨a,rfl⟩:=QD ha.1;obtain⟨b,rfl⟩:=QD hb.1;obtain⟨c,rfl⟩:=QD hc.1;obtain⟨e,rfl⟩:=QD he.1;rw[sT];refine eF uI (xs:=[Uk (a:Int),Uk (b:Int),Uk (c:Int),Uk (e:Int)]) (by simp only[aF,bJ 0]) (by simp[bS]) hd ?_;have wr:∀x:Nat,(x:Int)<4611686018427387904->IntKind.wrap .u64 (x:Int)=(x:Int):=λx h=>jp (by omega) (by omega);have f:=λg:G=>Bi (d:=d+1) (g:=g) (x:=a) (y:=b) (by omega) (by omega) (by omega);have k2:=λg:G=>Bi (d:=d+1) (g:=g) (x:=c) (y:=e) (by omega) (by omega) (by omega);obtain⟨p,q,r⟩:=Bj (x:=a) (y:=b) (by omega) (by omega);obtain⟨w1,s,t⟩:=Bj (x:=c) (y:=e) (by omega) (by omega);generalize (S.PC a b).1=h at *;generalize (S.PC a b).2=l at *;generalize (S.PC c e).1=i at *;generalize (S.PC c e).2=m at *;have key:=IY (W:=18446744073709551616) (h:=(h:Int)) (l:=(l:Int)) (i:=(i:Int)) (m:=(m:Int)) (by decide) (by omega) (by omega);have e1:(l:Int)+18446744073709551616*(h:Int)=(a:Int)*(b:Int):=by rw[<-Rq,<-p];omega
 have o:(m:Int)+18446744073709551616*(i:Int)=(c:Int)*(e:Int):=by rw[<-Rq,<-w1];omega
 rw[e1,o]at key;rw[<-key];have p1:=wr a ha.2;have p2:=wr b hb.2;have p3:=wr c hc.2;have p4:=wr e he.2
 by_cases c1:(i:Int)<(h:Int)
 ·have j:(i:Int)<h\/(h:Int)=i/\(m:Int)<l:=.inl c1;simp only[sz,simprocAttr,bS,p1,p2,p3,p4,f,k2,c1,j];simp[c1]
 ·by_cases c2:(h:Int)=(i:Int)
  ·have n:h=i:=by omega
   subst n;have k:¬(h:Int)<(h:Int):=by omega
   by_cases c3:(m:Int)<(l:Int)
   ·simp only[sz,simprocAttr,bS,p1,p2,p3,p4,f,k2,c3,k];simp[c3]
   ·by_cases c4:(l:Int)<(m:Int)
    ·simp only[sz,simprocAttr,bS,p1,p2,p3,p4,f,k2,c3,c4,k];simp[c3,c4]
    ·simp only[sz,simprocAttr,bS,p1,p2,p3,p4,f,k2,c3,c4,k];simp[c3,c4]
  ·have k:(h:Int)<(i:Int):=by omega
   simp only[sz,simprocAttr,bS,p1,p2,p3,p4,f,k2,c1,c2,k];simp[c1,c2,k]
def eZ(gr:Int)(b ev:AV)(v value bn bd:Int)(s:Nat):AObj:=TD 8 [[Uk gr,b,ev,Uk v,Uk value,Uk bn,Uk bd,Um (s:Int)]]
theorem eG(id ep i off:Nat):GY (.hptr id ep i off)=.val (.hptr id ep i off):=rfl
theorem Own.lenF{b:Nat}{v:AV}{sz:Nat}{rows:List (List AV)}(h:Own g b v sz rows):Hx.gz .slice v g=.val (Uk (rows.length:Int)):=zn h.rows
def S.Pr(e:List Int)(s j:Nat):List Int:=(S.Pd e s).take j++List.replicate (e.length - j) 0
theorem Ef(hj:j<=e.length):(S.Pr e s j).length=e.length:=by rw[S.Pr,RW,Q_,jn,List.length_replicate];omega
theorem Eg{y:Int}(hj:j<e.length)(hz:(S.Pd e s)[j]?=some z):((S.Pr e s j).set j y).set j z=S.Pr e s (j+1)/\((S.Pr e s j).set j z)=S.Pr e s (j+1):=by
 have key:((S.Pr e s j).set j z)=S.Pr e s (j+1):=by
  obtain⟨z',h,ht,-⟩:=ae (l:=S.Pd e s) (j:=j) (by rw[jn];exact hj);rw[hz]at h;injection h with h;subst h;have hl:((S.Pd e s).take j).length=j:=by rw[Q_,jn];omega
  obtain⟨m,hm⟩:∃m,e.length - j=m+1:=⟨e.length - j - 1,by omega⟩;rw[S.Pr,S.Pr,ht,hm,show e.length - (j+1)=m by omega,R2 _ _ (by omega),hl,RF,RT,Sf,RG]
  rfl
 exact⟨by rw[List.set_set,key],key⟩
theorem Mm[XOc]{value bn bd:Int}{b:AV}{ks:Nat}{D:ADf->Prop}(hev:SlR NoP k .nil e ev)(hl:e.length<=1000)(hs:s<18446744073709551616)
  (hq:g.h.get q=eZ gr b ev v value bn bd ks) (hqn:q<g.nx)
  (kk:∀u g',Own g' g.nx u 1 ((S.Pd e s).map ci)->Ug g g'->K u g'):(aq C0 d 79 [Ul q,Um (s:Int)] g).sat K g D:=by
 have rb:=λh=>(hev.tree (h':=h) (Qv k)).ints;have n2:=λg=>hev.len g;have C:=jn e s;rw[m7];refine BU pk (by simp[eA]) ?_;simp only[sz,simprocAttr,eA,hq,eZ,eG,n2];refine DU (b:=g.nx) (by simp[aQ];omega) (by simp[aQ];omega) (Qv _) λu1 g1 o1 n1 f1 v1=>?_;have ug1:Ug g g1:=⟨by omega,f1⟩;have z:Own g1 g.nx u1 1 ((S.Pr e s 0).map ci):=by simpa [S.Pr,ci] using o1
 have n3:gz .slice u1 g1=.val (Uk (e.length:Int)):=by rw[z.lenF,QJ,Ef (Rf _)]
 simp only[sz,simprocAttr,n3,fT,fU];refine bz (m:=e.length) (by omega) (λj t df g'=>df=[]/\St t [(0,Ul q),(1,Um (s:Int)),(5,u1)]/\Ug g g'/\Own g' g.nx u1 1 ((S.Pr e s j).map ci))
  ⟨rfl,by simp[St,sx],ug1,z⟩ (by simp[sx]) (by simp[sx]) (by decide) (by rintro j t df g v s (rfl|rfl|rfl)<;>simp[St,sx]) ?_ ?_
 ·rintro j t df g2 o ⟨rfl,⟨h0,h1,h5,-⟩,ug2,o2⟩ l p;obtain⟨y,H,-,-⟩:=ae o;have hz:=xR e s j o;rw[H,QC]at hz;have B:=Ef (e:=e) (s:=s) (j:=j) (by omega);have F:j<(e.map ci).length:=by simpa using o
  have L:(e.map ci)[j]?=some (ci y):=by rw[Qx,H];rfl
  have w1:j<((S.Pr e s j).map ci).length:=by rw[QJ,B];exact o
  obtain⟨J,f⟩:∃J,((S.Pr e s j).map ci)[j]?=some J:=⟨_,Qu w1⟩;have w:=sj .i64 s j hs;have a:=ut (s / 2 ^ j) 1 (SW (Tq _ _) hs) (by decide);have a:bT .and (Um ((s / 2 ^ j:Nat):Int)) (Um 1)=.val (Um ((s / 2 ^ j &&& 1:Nat):Int)):=a;have r:=kC s j;simp only[sz,simprocAttr,h5,l,o2.rows,w1];refine pQ (v:=u1) (sz:=1) (n:=1) (i:=j) (off:=0) (x:=Uk (-1)) (row':=ci (-1)) o2 f rfl rfl (by rw[Qx]at f;cases hh:(S.Pr e s j)[j]? with
   |none=>rw[hh]at f;cases f
   |some x=>rw[hh]at f;injection f with f;rw[<-f];rfl) λg3 o3 n3 f3 p3=>?_
  have ug3:Ug g g3:=⟨by have:=ug2.nx;omega,ug2.up.trans p3⟩;have E:g3.h.get q=eZ gr b ev v value bn bd ks:=by rw[ug3.up.1 q hqn,hq]
  by_cases c:s.testBit j=true
  ·rw[QA c]at hz;have c':((s / 2 ^ j &&& 1:Nat):Int)=1:=by
    have:S.Pq s j=true:=by rw[r,c]
    rw[S.Pq,beq_iff_eq]at this;rw[this];rfl
   have I:j<(((S.Pr e s j).map ci).set j (ci (-1))).length:=by rw[Sl];exact w1
   have M:(((S.Pr e s j).map ci).set j (ci (-1)))[j]?=some (ci (-1)):=by rw[Rr w1]
   simp only[sz,simprocAttr,h0,h1,h5,w,a,c',E,eZ,eG,rb,F,L,ci];have A:=o3.rows;simp only[ci]at A I;simp only[sz,simprocAttr,A,I];refine pQ (v:=u1) (sz:=1) (n:=1) (i:=j) (off:=0) (x:=Uk y) (row':=ci y) o3 M rfl rfl rfl λg4 o4 n4 f4 p4=>?_;simp only[sz,simprocAttr];refine⟨⟨by simp[St,sx,h0,h1,h5],⟨by have:=ug3.nx;omega,ug3.up.trans p4⟩,?_⟩,by simp[sx,l],by simp[sx,p]⟩;rw[<-(Eg (y:=-1) o hz).1,RD,RD];exact o4
  ·rw[Qw c]at hz;have c':¬((s / 2 ^ j &&& 1:Nat):Int)=1:=by
    have:S.Pq s j=false:=by rw[r];simpa using c
    rw[S.Pq]at this;have h2:s / 2 ^ j &&& 1≠1:=by simpa using this
    omega
   simp only[sz,simprocAttr,h1,h5,w,a,c'];refine⟨⟨by simp[St,sx,h0,h1,h5],ug3,?_⟩,by simp[sx,l],by simp[sx,p]⟩;rw[<-(Eg (y:=-1) o hz).2,RD];exact o3
 ·rintro t df g2 ⟨rfl,⟨h0,h1,h5,-⟩,ug2,o2⟩;rw[S.Pr,RF,List.replicate_zero,QN,<-C,Q4]at o2;simp only[sz,simprocAttr,fV,h5];exact kk _ _ o2 ug2
theorem sD[XOc]{v:Nat}{value bn bd x:Int}{b:AV}{ks:Nat}{D:ADf->Prop}(hd:0<d)(hr:NR n)(hm:∀h,Agg n NoP 0 h (.agg [Uk n.grain,b]))(hev:SlR NoP k .nil e ev)(he:S.O8 n e=true)(hv:v<e.length)(hx:S.PG n v x)(hs:s<18446744073709551616)
  (hq:g.h.get q=eZ n.grain b ev v value bn bd ks) (hqn:q<g.nx)
  (kk:∀g',Ug g g'->K (Uk (S.Pi n ((S.Pd e s).set v x))) g'):(aq C0 d 58 [Ul q,Um (s:Int),Uk x] g).sat K g D:=by
 have u:=hr.l2;obtain⟨t,f⟩:=cU.1 he;have m:=jn e s;rw[m6];refine BU pj (by simp[eo]) ?_;simp only[sz,simprocAttr,eo];refine Mm hev (by omega) hs (by simpa using hq) (by simpa using hqn) λu1 g1 o1 ug1=>?_;have o:g1.h.get q=eZ n.grain b ev v value bn bd ks:=by rw[ug1.up.1 q (by simpa using hqn)];simpa using hq
 have w1:v<((S.Pd e s).map ci).length:=by rw[QJ,m];exact hv
 obtain⟨z,r,-,-⟩:=ae (l:=S.Pd e s) (j:=v) (by omega);have y:((S.Pd e s).map ci)[v]?=some (ci z):=by rw[Qx,r];rfl
 simp only[sz,simprocAttr,o,eZ,eG,o1.rows,w1];refine pQ (v:=u1) (sz:=1) (n:=1) (i:=v) (off:=0) (x:=Uk x) (row':=ci x) o1 y rfl rfl rfl λg2 o2 n2 f2 p2=>?_;rw[show ((S.Pd e s).map ci).set v (ci x)=((S.Pd e s).set v x).map ci by rw[RD]]at o2;have ug2:Ug g g2:=⟨by have:=ug1.nx;omega,ug1.up.trans p2⟩;have p:g2.h.get q=eZ n.grain b ev v value bn bd ks:=by rw[ug2.up.1 q hqn,hq]
 have hsl:SlR (λ_=>True) 0 g2.h ((S.Pd e s).set v x) u1:=by obtain⟨w,hw,h⟩:=o2.ints (k:=0) (by rw[Sl];omega);injection hw with hw;subst hw;exact h
 have hc:∀i,i<e.length->0<=(S.O2 n)[i]?.getD 0:=λi hi=>by have:=f i hi;omega
 have a:S.O8 n ((S.Pd e s).set v x)=true:=Jx (Jw he hc) (by have:=hx.1;omega) (by have:=hx.2;rwa [Rb]at this);have c:S.Pf n ((S.Pd e s).set v x)=0:=mU.2 ⟨cp.2 hr,a⟩;have km:=DE (d:=d) (g:=g2) (n:=n) (e:=(S.Pd e s).set v x) (v:=.agg [Uk n.grain,b]) hd (hm _) hsl (by omega);rw[S.P7,QA c,c]at km;have ld:∀a1 a2 a3 a4 a5 a6 a7 a8:AV,aY (TD 8 [[a1,a2,a3,a4,a5,a6,a7,a8]]) 0 0 true 2 0=.val (.agg [a1,a2]):=λ_ _ _ _ _ _ _ _=>rfl;have ld3:∀a1 a2 a3 a4 a5 a6 a7 a8:AV,aY (TD 8 [[a1,a2,a3,a4,a5,a6,a7,a8]]) 0 0 false 1 3=.val a4:=λ_ _ _ _ _ _ _ _=>rfl;simp only[sz,simprocAttr,p,eZ,eG,ld,km,fS];exact kk _ ug2
section
variable {b:AV}
section
variable {C:Cfg}{d:Nat}
theorem Ln{Q:QP}{f:Nat}{dst:Option Nat}{xs:List Od}{r:List SI}{df:List ADf}(hs:mh C f=false)
  (h:CallsP C d f (eI t xs) g (λv g'=>wpQ C d r Q (mu dst t v) df g') λv g'=>Q (.pan v) t df g'):wpQ C d (⟨dst,none,.call f xs⟩::r) Q t df g:=by
 show kJ C d ⟨dst,none,.call f xs⟩ (wpQ C d r Q) Q t df g;unfold kJ;dsimp only;rw[Qw (by rw[hs];decide)];exact h
end
theorem Eu[XOc]{d:Nat}{rd:Option Nat}:(b_ C0 (.makeInterface 47 (.const (.int .i64 z)))).run (I C0) d rd t g=.val (.ifc 47 (Uk z)):=by kernel_rfl
theorem Iq[XOc]{d:Nat}{v:AV}(hd:0<d)(hm:Agg n NoP 0 g.h v):aq C0 d 75 [v] g=.val (Uk (if S.O_ n then 0 else 50)):=by
 obtain⟨b,rows,rfl,e1,f,-⟩:=cy d hm;rw[yz];refine eF BZ (xs:=[.agg [Uk n.grain,b]]) (by simp only[aF,e1]) (by simp[qX]) hd ?_;simp only[sz,simprocAttr,qX];obtain⟨g0,hg0⟩:∃g0,g0=G.empty.new (TD 2 [[Uk n.grain,b]]):=⟨_,rfl⟩;rw[<-hg0];have f0:g0.h.get 0=TD 2 [[Uk n.grain,b]]:=by rw[hg0];simp[sx]
 have m:g0.nx=1:=by rw[hg0];simp[sx]
 clear hg0;have ld:aY (TD 2 [[Uk n.grain,b]]) 0 0 true 2 0=.val (.agg [Uk n.grain,b]):=rfl;simp only[sz,simprocAttr,te,f0,ld];refine bF (Cq (QM d) (n:=n) (f _)) λz hz=>?_;rcases rK hz with⟨i,cs,rfl,c⟩|⟨i,b',cv,sv,oz,o,rfl,hb,e,l,j⟩
 ·obtain⟨a1,a2,a3,a4,k,rfl⟩:∃a1 a2 a3 a4 k,cs=[a1,a2,a3,a4,k]:=by
   match cs,c with
   |[a1,a2,a3,a4,k],_=>exact⟨a1,a2,a3,a4,k,rfl⟩
  simp only[sz,simprocAttr,m,i]
 ·have st:∀g:G,oP (TD 5 [[Uk 0,.nils,.nils,.nils,.nils]]) g 1 0 0 5 0 (.agg [Uk n.grain,b',cv,sv,oz])=.upd .undef (g.put 1 (TD 5 [[Uk n.grain,b',cv,sv,oz]])):=λg=>by
   have h1:=hb.2;have h2:=e.2;have a:=l.2;have h4:=j.2;unfold SlV at h1 h2 a h4
   split at h1<;>split at h2<;>split at a<;>split at h4<;>first|rfl|exact h1.elim|exact h2.elim|exact a.elim|exact h4.elim
  simp only[sz,simprocAttr,m,st,i]
theorem OX(a1 a2 a3 a4 a5 a6 a7 a8:AV):aY (TD 8 [[a1,a2,a3,a4,a5,a6,a7,a8]]) 0 0 true 2 0=.val (.agg [a1,a2]):=rfl
theorem Ee[XOc]{d:Nat}{value bn bd:Int}{ks:Nat}(hd:0<d)(hk:k<=d)(hr:NR n)(hm:∀h,Agg n NoP 0 h (.agg [Uk n.grain,b]))(hev:SlR NoP k .nil e ev)(he:S.O8 n e=true)
  (hq:g.h.get q=eZ n.grain b ev v value bn bd ks) (kk:S.Pi n e≠0->K (.tup []) g) (kp:S.Pi n e=0->KP (.ifc 47 (Uk 7)) g) :
  CallsP C0 d 38 [Ul q] g K KP:=by
 have a:S.Pf n e=0:=mU.2 ⟨cp.2 hr,he⟩;have km:=λg:G=>DE (d:=d) (g:=g) (n:=n) (e:=e) (v:=.agg [Uk n.grain,b]) hd (hm _) (hev.tree (h':=g.h) (Qv k)) hk;rw[S.P7,QA a,a]at km;refine nV lr (by simp[cO]) ?_;unfold cO;dsimp only;rw[dV];show wp C0 d none _ _ _ _ _;simp only[sz,simprocAttr,hq,eZ,eG,OX,km];rw[bX,dV];refine bk (by kernel_rfl) ?_;simp only[sz,simprocAttr];rw[bm];simp only[sz,simprocAttr];rw[fk,bX];unfold dY;refine bk (by kernel_rfl) ?_
 by_cases c:S.Pi n e=0
 ·simp only[sz,simprocAttr,c];rw[bm];simp only[sz,simprocAttr];show wpQ C0 d ([o 22 (.raw (.makeInterface 47 (.const (.int .i64 7))))]++[oz (.raw (.panic (.tmp 22)))]) _ _ _ _;refine pT (by kernel_rfl) ?_;simp only[sz,simprocAttr,Eu];refine HE (ty:=47) (v:=Uk 7) (by simp[sx]) ?_;exact kp c
 ·simp only[sz,simprocAttr,c];rw[bm];simp only[sz,simprocAttr];rw[fk,y5];simp only[sz,simprocAttr];exact kk c
theorem oZ[XOc]{d n:Nat}{Q:QP}{df:List ADf}(h:∀t,Q (.pan (.ifc 47 (Uk z))) t df g):wpP C0 d (.ops [o n (.raw (.makeInterface 47 (.const (.int .i64 z)))),oz (.raw (.panic (.tmp n)))]) Q t df g:=by show wpQ C0 d ([o n (.raw (.makeInterface 47 (.const (.int .i64 z))))]++[oz (.raw (.panic (.tmp n)))]) _ _ _ _;refine pT (by show (true&&true)=true;rfl) ?_;simp only[sz,simprocAttr,Eu];exact HE (ty:=47) (v:=Uk z) (by simp[sx]) (h _)
theorem NQ{a c e:AV}(hb:b.cells=[b]/\b.isTup=false)(hc:c.cells=[c]/\c.isTup=false)(he:e.cells=[e]/\e.isTup=false) :
  cX [Uk 0,.nils,.nils,Uk 0,Uk 0,Uk 0,Uk 0,Um 0] [((0,2),.agg [a,b]),((2,1),c),((3,1),e)]=some [a,b,c,e,Uk 0,Uk 0,Uk 0,Um 0]:=by
 simp[cX,hb,hc,he,cZ,aZ,vT,wh]
theorem Fd[XOc]{d vn:Nat}{g0:G}{l:List Int}(hnr:S.O_ n=true)(hN:SlR NoP 0 .nil n.nodes b)(hm:∀h,Agg n NoP 0 h (.agg [Uk n.grain,b]))(hev:SlR NoP k .nil e ev)
  (hw:af g.h 1 w=some (l.map ci)) (hwi:∀i,vid w=some i->i<g.nx) (hll:l.length<=1000) (hok:S.PZ n e vn)
  (hf0:Fr g g0) (hg0:g0.h.get g.nx=TD 2 [[Uk n.grain,b]]) (hn0:g0.nx=g.nx+1) (h1:tat t 1=ev) (h2:tat t 2=Uk (vn:Int)) (h3:tat t 3=w) (h4:tat t 4=Ul g.nx)
  (kk:S.Po n e vn l=0->∀q g',Fr g g'->g.nx<=q->q<g'.nx->g'.h.get q=eZ n.grain b ev vn (l.head?.getD 0) 0 0 (S.kn e e.length)->K (Ul q) g')
  (kp:S.Po n e vn l=2->∀g',Fr g g'->KP (.ifc 47 (Uk 2)) g') :
  wpP C0 d fK (fnP C0 d [SR.tm 8] K KP) t [] g0:=by
 have hr:=cp.1 hnr;have h6:=hr.l2;obtain⟨C,-,V,W⟩:=hok;obtain⟨h5,-⟩:=cU.1 C;have rv:∀g',Fr g g'->af g'.h 1 w=some (l.map ci):=λg' hf=>by rw[ID hf hwi,hw]
 have nv:∀g',Fr g g'->gz .slice w g'=.val (Uk (l.length:Int)):=λg' hf=>by have:=zn (rv g' hf);rwa [QJ]at this
 have re:=λh=>(hev.tree (h':=h) (Qv k)).ints;have ne:=λg=>hev.len g;obtain⟨b',rows,a,-,-,-,Z,r2,r3,r4⟩:=cy (g:=g) d (hm g.h);injection a with a;injection a with _ a;injection a with a _;subst a;unfold fK;refine bk (by kernel_rfl) ?_;have ld:aY (TD 2 [[Uk n.grain,b]]) 0 0 true 2 0=.val (.agg [Uk n.grain,b]):=rfl;have cb:=hN.cell;have ce:=hev.cell;simp only[sz,simprocAttr,h1,h2,h4,hg0,ld,NQ cb ce (e:=Uk (vn:Int)) ⟨rfl,rfl⟩];obtain⟨g1,f⟩:∃g1,g1=g0.new (TD 8 [[Uk n.grain,b,ev,Uk (vn:Int),Uk 0,Uk 0,Uk 0,Um 0]]):=⟨_,rfl⟩;rw[<-f];have e0:g1.h.get g.nx=TD 2 [[Uk n.grain,b]]:=by rw[f];simp[O6,hg0,hn0]
 have e1:g1.h.get (g.nx+1)=eZ n.grain b ev vn 0 0 0 0:=by rw[f];simp[O6,hn0,eZ]
 have n1:g1.nx=g.nx+2:=by rw[f];simp;omega
 have f1:Fr g g1:=by rw[f];exact hf0.trans (Fr.new _ _)
 clear f;rw[dV];refine bk (by kernel_rfl) ?_;simp only[sz,simprocAttr,h3,nv g1 f1];rw[ya,z9];unfold j5;have nb:=λg:G=>(hN.tree (h':=g.h) (Qv 0)).len g;obtain⟨nd,M,-,-⟩:=ae (l:=n.nodes) (j:=vn) (by omega);obtain⟨x1,x2,q1,hlt,-⟩:=r3 vn nd M;have P:=r4 (by omega);have J:(S.O2 n)[vn]?.getD 0=nd.card:=by simp[S.O2,M]
 have N:S.PZ n e vn:=⟨C,by omega,V,W⟩;refine ug (m:=l.length) (by omega) (λj t df g'=>df=[]/\St t [(1,ev),(2,Uk (vn:Int)),(9,Ul (g.nx+1)),(46,w)]/\Fr g g'/\g'.nx=g.nx+2/\g'.h.get (g.nx+1)=eZ n.grain b ev vn (if j=0 then 0 else l.head?.getD 0) 0 0 0/\∀i,i<j->∀z,l[i]?=some z->S.PG n vn z)
  ⟨rfl,by simp[St,sx,h1,h2,h3,hn0],f1,n1,e1,λi h=>absurd h (Nat.not_lt_zero i)⟩ (by simp[sx]) (by simp[sx]) (by decide)
  (by rintro j t df g v s (rfl|rfl|rfl) ⟨a1,⟨b1,b2,b3,b4,-⟩,c⟩<;>exact⟨a1,by simp[St,sx,b1,b2,b3,b4],c⟩) ?_ ?_
 ·clear h1 h2 h3 h4 e0 e1 n1 f1;rintro j t df g2 L ⟨rfl,⟨h1,h2,h9,E,-⟩,f2,n2,A,p⟩ o H;obtain⟨z,hz,-,X⟩:=ae L;have v1:j<(l.map ci).length:=by simpa using L
  have v2:(l.map ci)[j]?=some (ci z):=by rw[Qx,hz];rfl
  have rw2:=rv g2 f2;have bad2:¬S.PG n vn z->S.Po n e vn l=2:=λh=>uR hnr λh2=>h (h2.2 z X);refine bk (by kernel_rfl) ?_;simp only[sz,simprocAttr,E,o,rw2,v1,v2,ci];rw[dV];refine bk (by kernel_rfl) ?_;have ld4:∀x,aY (TD 8 [[Uk n.grain,b,ev,Uk (vn:Int),x,Uk 0,Uk 0,Um 0]]) 0 0 false 1 1=.val b:=λ_=>rfl
  by_cases c1:z<0
  ·have hf:=bad2 λh=>by have:=h.1;omega
   simp only[sz,simprocAttr,c1];rw[bm];simp only[sz,simprocAttr];exact oZ λt=>kp hf g2 f2
  ·by_cases c2:nd.card<=z
   ·have hf:=bad2 λh=>by have:=h.2;rw[Rb,J]at this;omega
    simp only[sz,simprocAttr,h2,h9,A,eZ,eG,Z,hlt,q1,P,c1,c2];rw[bm];simp only[sz,simprocAttr];exact oZ λt=>kp hf g2 f2
   ·have O:S.PG n vn z:=⟨by omega,by rw[Rb,J];omega⟩;have r:∀i,i<j+1->∀z',l[i]?=some z'->S.PG n vn z':=λi hi z' u=>by
     by_cases e:i=j
     ·subst e;rw[hz]at u;injection u with u;subst u;exact O
     ·exact p i (by omega) z' u
    simp only[sz,simprocAttr,h2,h9,A,eZ,eG,Z,hlt,q1,P,c1,c2];rw[bm];simp only[sz,simprocAttr];rw[fk,bX];unfold j7;refine bk (by kernel_rfl) ?_
    by_cases c3:j=0
    ·subst c3;have D:((0:Nat):Int)=0:=rfl;have hh:l.head?.getD 0=z:=by rw[List.head?_eq_getElem?,hz];rfl
     simp only[sz,simprocAttr,o,D];rw[bm];simp only[sz,simprocAttr];refine CL (by kernel_rfl) ?_;simp only[sz,simprocAttr,h9,A,eZ,eG];refine⟨⟨rfl,by simp[St,sx,h1,h2,h9,E],⟨?_,λi hi=>?_⟩,?_,?_,r⟩,by simp[sx,o],by simp[sx,H]⟩
     ·simp[n2]
     ·rw[G.put_h,aE _ _ _ (by omega)];exact f2.2 i hi
     ·simp[n2]
     ·simp[O6,hh,eZ]
    ·have D:¬(j:Int)=0:=by omega
     simp only[sz,simprocAttr,o,D];rw[bm];simp only[sz,simprocAttr];rw[fk];rw[Qw c3]at A;exact⟨⟨rfl,by simp[St,sx,h1,h2,h9,E],f2,n2,A,r⟩,by simp[sx,o],by simp[sx,H]⟩
 ·clear h1 h2 h3 h4 e0 e1 n1 f1;rintro t df g2 ⟨rfl,⟨h1,h2,h9,-⟩,f2,n2,A,p⟩;have hf:=GB (l:=l) hnr N λz hz=>by obtain⟨i,hi⟩:=QO hz;exact p i (Qt.1 hi).1 z hi
  have A:g2.h.get (g.nx+1)=eZ n.grain b ev vn (l.head?.getD 0) 0 0 0:=by
   rw[A]
   by_cases c:l.length=0
   ·rw[QA c];have:l=[]:=QU c;subst this;rfl
   ·rw[Qw c]
  rw[uW,QA rfl,bX];unfold j9;rw[dV];refine bk (by kernel_rfl) ?_;simp only[sz,simprocAttr,h1,ne];rw[ya,z9];unfold j6;refine ug (m:=e.length) hev.1 (λj t df g'=>df=[]/\St t [(9,Ul (g.nx+1)),(76,ev)]/\Fr g g'/\g.nx+2<=g'.nx/\g'.h.get (g.nx+1)=eZ n.grain b ev vn (l.head?.getD 0) 0 0 (S.kn e j))
   ⟨rfl,by simp[St,sx,h9],f2,by omega,A⟩ (by simp[sx]) (by simp[sx]) (by decide)
   (by rintro j t df g v s (rfl|rfl|rfl) ⟨a1,⟨b1,b2,-⟩,c⟩<;>exact⟨a1,by simp[St,sx,b1,b2],c⟩) ?_ ?_
  ·clear h1 h2 h9 f2 n2 A;rintro j t df g3 L ⟨rfl,⟨h9,F,-⟩,R,n3,Q⟩ B I;obtain⟨y,Y,-,-⟩:=ae L;have u1:j<(e.map ci).length:=by simpa using L
   have u2:(e.map ci)[j]?=some (ci y):=by rw[Qx,Y];rfl
   have hk:=GU (by omega) Y;have U:=vH (S.kn e j) (S.Ph j) (pE (by omega)) (mX j);refine bk (by kernel_rfl) ?_;simp only[sz,simprocAttr,F,B,re,u1,u2,ci];refine bk (by kernel_rfl) ?_
   by_cases c:0<=y
   ·rw[QA c]at hk;simp only[sz,simprocAttr,c];rw[bm];simp only[sz,simprocAttr];show wp C0 d none _ _ _ _ _;simp only[sz,simprocAttr,sf,h9,B,Q,eZ,eG,eK,U];refine⟨aJ (false::(TV (true::[]))) [] (by simp[All2,ak,aw]) (by decide) (by simp),⟨rfl,by simp[St,sx,h9,F],⟨?_,λi hi=>?_⟩,?_,?_⟩,by simp[sx,B],by simp[sx,I]⟩
    ·simp;omega
    ·simp[O6,show ¬i=g.nx+1 by omega,R.2 i hi]
    ·simp;omega
    ·simp[O6,hk,eZ]
   ·rw[Qw c]at hk;simp only[sz,simprocAttr,c];rw[bm];simp only[sz,simprocAttr];rw[fk];exact⟨⟨rfl,by simp[St,sx,h9,F],R,n3,by rw[hk];exact Q⟩,by simp[sx,B],by simp[sx,I]⟩
  ·rintro t df g3 ⟨rfl,⟨h9,-⟩,R,n3,Q⟩;rw[uW,QA rfl,bX];unfold j8;refine bk (by kernel_rfl) ?_;simp only[sz,simprocAttr,h9];rw[yb,y5];simp only[sz,simprocAttr];exact kk hf _ g3 R (by omega) (by omega) Q
theorem Fe[XOc]{d:Nat}{l:List Int}(hd:0<d)(hm:∀h,Agg n NoP 0 h (.agg [Uk n.grain,b]))(hev:SlR NoP k .nil e ev)
  (hw:af g.h 1 w=some (l.map ci)) (hwi:∀i,vid w=some i->i<g.nx) (hll:l.length<=1000)
  (kk:S.Po n e v l=0->∀q g',Fr g g'->g.nx<=q->q<g'.nx->g'.h.get q=eZ n.grain b ev v (l.head?.getD 0) 0 0 (S.kn e e.length)->K (Ul q) g')
  (kp:S.Po n e v l≠0->∀g',Fr g g'->KP (.ifc 47 (Uk (S.Po n e v l))) g') :
  CallsP C0 d 36 [.agg [Uk n.grain,b],ev,Uk v,w] g K KP:=by
 have re:=λh=>(hev.tree (h':=h) (Qv k)).ints;have ne:=λg=>hev.len g;have kc:=λg:G=>Iq (d:=d) (g:=g) (n:=n) (v:=.agg [Uk n.grain,b]) hd (hm _);have ke:=λg:G=>C4 (d:=d) (g:=g) (n:=n) (e:=e) (v:=.agg [Uk n.grain,b]) hd (hm _) (hev.tree (h':=g.h) (Qv k));refine nV uJ (by simp[iZ]) ?_;unfold iZ;dsimp only;refine bk (by kernel_rfl) ?_;simp only[sz,simprocAttr];obtain⟨g1,c⟩:∃g1,g1=g.new (TD 2 [[Uk n.grain,b]]):=⟨_,rfl⟩;rw[<-c];have e1:g1.h.get g.nx=TD 2 [[Uk n.grain,b]]:=by rw[c];simp[O6]
 have n1:g1.nx=g.nx+1:=by rw[c];simp
 have f1:Fr g g1:=by rw[c];exact Fr.new _ _
 clear c;have ld:aY (TD 2 [[Uk n.grain,b]]) 0 0 true 2 0=.val (.agg [Uk n.grain,b]):=rfl;have ld1:aY (TD 2 [[Uk n.grain,b]]) 0 0 false 1 1=.val b:=rfl;unfold lF;rw[dV];refine bk (by kernel_rfl) ?_
 by_cases hnr:S.O_ n=true
 rotate_left
 ·have f:S.O_ n=false:=by simpa using hnr
  have hf:=Dl (e:=e) (v:=v) (l:=l) f;simp only[sz,simprocAttr,e1,ld,kc,f];rw[bm];simp only[sz,simprocAttr];refine oZ λt=>?_;have:=kp (by rw[hf];decide) g1 f1;rw[hf]at this;exact this
 have hr:=cp.1 hnr;obtain⟨b',rows,a,-,-,hN,z,A,B,C⟩:=cy (g:=g) d (hm g.h);injection a with a;injection a with _ a;injection a with a _;subst a;have nb:=λg:G=>(hN.tree (h':=g.h) (Qv 0)).len g;simp only[sz,simprocAttr,e1,ld,kc,hnr];rw[bm];simp only[sz,simprocAttr];rw[fk,bX];unfold j_;rw[dV];refine bk (by kernel_rfl) ?_;have bad:∀(t:T) (W:PT),¬S.PZ n e v->wpP C0 d (.ops [o 40 (.raw (.makeInterface 47 (.const (.int .i64 2)))),oz (.raw (.panic (.tmp 40)))]) (kSP W (fnP C0 d [SR.tm 8] K KP)) t [] g1:=λt W h=>by have hf:=uR (l:=l) hnr λh2=>h h2.1;refine oZ λt=>?_;have:=kp (by rw[hf];decide) g1 f1;rw[hf]at this;exact this
 by_cases hevd:S.O8 n e=true
 rotate_left
 ·have j:S.O8 n e=false:=by simpa using hevd
  have m:S.Pf n e=2:=by rw[S.Pf,hnr,j];rfl
  simp only[sz,simprocAttr,e1,ld,ke,m];rw[bm];simp only[sz,simprocAttr];exact bad _ _ λh=>hevd h.1
 have m:S.Pf n e=0:=mU.2 ⟨hnr,hevd⟩;rw[m]at ke;obtain⟨x,-⟩:=cU.1 hevd
 by_cases hv0:v<0
 ·simp only[sz,simprocAttr,e1,ld,ke,hv0];rw[bm];simp only[sz,simprocAttr];exact bad _ _ λh=>by have:=h.2.1;omega
 obtain⟨vn,rfl⟩:=QD (show 0<=v by omega)
 by_cases hv1:(n.nodes.length:Int)<=(vn:Int)
 ·simp only[sz,simprocAttr,e1,ld,ld1,ke,hv0,nb,hv1];rw[bm];simp only[sz,simprocAttr];exact bad _ _ λh=>by have:=h.2.2.1;omega
 have p:vn<e.length:=by omega
 obtain⟨y,r⟩:∃y,e[vn]?=some y:=⟨_,Qu p⟩;have s:vn<(e.map ci).length:=by simpa using p
 have u:(e.map ci)[vn]?=some (ci y):=by rw[Qx,r];rfl
 by_cases hy0:0<=y
 ·simp only[sz,simprocAttr,e1,ld,ld1,ke,hv0,nb,hv1,re,s,u,ci,hy0];rw[bm];simp only[sz,simprocAttr];exact bad _ _ λh=>by have:=h.2.2.2;rw[Rb,r,QC]at this;omega
 simp only[sz,simprocAttr,e1,ld,ld1,ke,hv0,nb,hv1,re,s,u,ci,hy0];rw[bm];simp only[sz,simprocAttr];rw[fk,bX];exact Fd hnr hN hm hev hw hwi hll ⟨hevd,by omega,by omega,by rw[Rb,r,QC];omega⟩ f1 e1 n1 (by simp[sx]) (by simp[sx]) (by simp[sx]) (by simp[sx]) kk λh g' hf=>by have:=kp (by rw[h];decide) g' hf;rwa [h]at this
end
def S.tr(L:List Int)(j:Nat):List Int:=L.take j++List.replicate (L.length - j) 0
theorem Oj(hj:j<=L.length):(S.tr L j).length=L.length:=by rw[S.tr,RW,Q_,List.length_replicate];omega
theorem K_(L:List Int):S.tr L 0=List.replicate L.length 0:=by simp[S.tr]
theorem Oi(L:List Int):S.tr L L.length=L:=by simp[S.tr]
theorem Ol(hz:L[j]?=some z):(S.tr L j).set j z=S.tr L (j+1):=by
 obtain⟨k,-⟩:=Qt.1 hz;obtain⟨z',h,ht,-⟩:=ae (l:=L) (j:=j) k;rw[hz]at h;injection h with h;subst h;have hl:(L.take j).length=j:=by rw[Q_];omega
 obtain⟨m,hm⟩:∃m,L.length - j=m+1:=⟨L.length - j - 1,by omega⟩;rw[S.tr,S.tr,ht,hm,show L.length - (j+1)=m by omega,R2 _ _ (by omega),hl,RF,RT,Sf,RG]
 rfl
theorem MS(hz:L[j]?=some 0):S.tr L j=S.tr L (j+1):=by
 obtain⟨k,-⟩:=Qt.1 hz;obtain⟨z',h,ht,-⟩:=ae (l:=L) (j:=j) k;rw[hz]at h;injection h with h;subst h;obtain⟨m,hm⟩:∃m,L.length - j=m+1:=⟨L.length - j - 1,by omega⟩;rw[S.tr,S.tr,ht,hm,show L.length - (j+1)=m by omega,RT,RG]
 rfl
section
variable {C:Cfg}{d:Nat}
theorem wA{Q:QP}{f:Nat}{dst:Option Nat}{xs:List Od}{r:List SI}{df:List ADf}{ys:List AV}(hs:mh C f=false)(hy:eI t xs=ys)
  (h:CallsP C d f ys g (λv g'=>wpQ C d r Q (mu dst t v) df g') λv g'=>Q (.pan v) t df g'):wpQ C d (⟨dst,none,.call f xs⟩::r) Q t df g:=by
 subst hy;exact Ln hs h
end
theorem NW(he:S.O8 n e=true)(hl:e.length<=64):S.Pd e (S.kn e e.length)=e:=by
 obtain⟨-,h⟩:=cU.1 he;refine Mn (λx hx=>?_) λi hi=>?_
 ·obtain⟨i,hi⟩:=QO hx;have:=(h i (Qt.1 hi).1).1;rwa [hi,QC]at this
 ·rw[Fl];simp[hi]
def LSp(q:Nat)(A B:Int)(u:AV):List (Nat×AV):=[(3,Ul 3),(4,Ul 4),(6,Ul q),(7,Uk A),(8,Uk B),(9,u)]
theorem Og[XOc]{d vn:Nat}{g0:G}{Q:QP}(hd:0<d)(hr:NR n)(hm:∀h,Agg n NoP 0 h (.agg [Uk n.grain,bb]))(hev:SlR NoP k .nil e ev)(he:S.O8 n e=true)(hvl:vn<e.length)(ha:S.PG n vn a)(hb:S.PG n vn b)
  (h3:g.h.get 3=TD 1 [[Uk a]]) (h4:g.h.get 4=TD 1 [[Uk b]]) (hn:5<=g.nx) (f0:Fr g g0) (hqn:g.nx<=q/\q<g0.nx) (hq:g0.h.get q=eZ n.grain bb ev vn a 0 0 (S.kn e e.length))
  (hu:Own g0 (q+1) u 1 (List.replicate e.length (ci 0))) (ht:St t (LSp q (S.Pi n (e.set vn a)) (S.Pi n (e.set vn b)) u)) (h45:tat t 45=Uk 0) (h44:tat t 44=Uk (e.length:Int))
  (fin:∀t g',Fr g g'->Own g' (q+1) u 1 ((S.PQ n e vn a b).map ci)->tat t 9=u->Q (.ex (.exit 0)) t [] g') :
  MV (wpP C0 d eS) Q t [] g0:=by
 have Y:=hr.l2;obtain⟨X,-⟩:=cU.1 he;have hsl:=CA n e vn a b;obtain⟨LL,I⟩:∃LL,LL=S.PQ n e vn a b:=⟨_,rfl⟩;rw[<-I]at fin hsl;unfold eS jt;refine ug (m:=e.length) hev.1 (λj t df g'=>df=[]/\St t (LSp q (S.Pi n (e.set vn a)) (S.Pi n (e.set vn b)) u)/\Fr g g'/\q<g'.nx/\g'.h.get q=eZ n.grain bb ev vn a 0 0 (S.kn e e.length)/\Own g' (q+1) u 1 ((S.tr LL j).map ci))
  ⟨rfl,ht,f0,hqn.2,hq,by rw[K_,hsl,List.map_replicate];exact hu⟩ h45 h44 (by decide)
  (by rintro j t df g v s (rfl|rfl|rfl) ⟨a1,⟨b1,b2,b3,b4,R,U,-⟩,c⟩<;>exact⟨a1,by simp[St,LSp,sx,b1,b2,b3,b4,R,U],c⟩) ?_ ?_
 ·clear ht f0 hq hu h45 h44;rintro j t df g1 O ⟨rfl,⟨C,D,p,E,F,A,-⟩,f1,qn1,q1,H⟩ h45 h44;obtain⟨y,B,-,-⟩:=ae O;obtain⟨z,hz,-,-⟩:=ae (l:=LL) (j:=j) (by omega);have o:z=S.P6 n e vn a b j:=by
   have:LL[j]?=some (S.P6 n e vn a b j):=by rw[I];simp[S.PQ,O]
   rw[hz]at this;injection this
  have hs:=pE (e:=e) (j:=e.length) (by omega);have M:=sj .i64 (S.kn e e.length) j hs;have f:=ut (S.kn e e.length / 2 ^ j) 1 (SW (Tq _ _) hs) (by decide);have f:bT .and (Um ((S.kn e e.length / 2 ^ j:Nat):Int)) (Um 1)=.val (Um ((S.kn e e.length / 2 ^ j &&& 1:Nat):Int)):=f;have w:=kC (S.kn e e.length) j;rw[Fl,B,QC]at w;refine bk (by kernel_rfl) ?_;simp only[sz,simprocAttr,h45];refine bk (by kernel_rfl) ?_
  by_cases c:0<=y
  ·rw[S.P6,B,QC,Qw (by omega)]at o;have c':((S.kn e e.length / 2 ^ j &&& 1:Nat):Int)=1:=by
    have:S.Pq (S.kn e e.length) j=true:=by rw[w];simp[O,c]
    rw[S.Pq,beq_iff_eq]at this;rw[this];rfl
   have kn:=Ge hs (mX j);simp only[sz,simprocAttr,p,q1,eZ,eG,M,f,c'];rw[bm];simp only[sz,simprocAttr];rw[dV];show wp C0 d none _ _ _ _ _;simp only[sz,simprocAttr,p,q1,eZ,eG,eK,kn];show wp C0 d none _ _ _ _ _;have W:g1.h.get 4=TD 1 [[Uk b]]:=by rw[f1.2 4 (by omega),h4]
   have V:g1.h.get 3=TD 1 [[Uk a]]:=by rw[f1.2 3 (by omega),h3]
   have L:S.PU (S.kn e e.length) (S.Ph j)<18446744073709551616:=KV (by omega) j;simp only[sz,simprocAttr,sf,C,D,p,E,F,A,W];have J:S.Pd e (S.PU (S.kn e e.length) (S.Ph j))=S.PP e j:=rfl;refine sD hd hr hm hev he hvl hb L (by simpa using q1) (by simp;omega) λg2 ug2=>?_;rw[J];have n2:g1.nx<=g2.nx:=by have:=ug2.nx;simp at this;omega
   have G2:∀i,i<g1.nx->g2.h.get i=g1.h.get i:=λi hi=>by have:=ug2.up.1 i (by simp;omega);simpa using this
   have l2:∀i∈g2.lg,g1.nx<=i:=λi hi=>by have:=ug2.up.2 i hi;simp at this;omega
   have N:g2.h.get 3=TD 1 [[Uk a]]:=by rw[G2 3 (by omega),V]
   have q2:g2.h.get q=eZ n.grain bb ev vn a 0 0 (S.kn e e.length):=by rw[G2 q qn1,q1]
   simp only[sz,simprocAttr,sf,C,D,p,E,F,A,N];refine sD hd hr hm hev he hvl ha L (by simpa using q2) (by simp;omega) λg3 ug3=>?_;rw[J];have n3:g2.nx<=g3.nx:=by have:=ug3.nx;simp at this;omega
   have G3:∀i,i<g1.nx->g3.h.get i=g1.h.get i:=λi hi=>by have:=ug3.up.1 i (by simp;omega);rw[<-G2 i hi];simpa using this
   have l3:∀i∈g3.lg,g1.nx<=i:=λi hi=>by have:=ug3.up.2 i hi;simp at this;omega
   have kc:=λg:G=>Jk (d:=d) (g:=g) hd (jF hr (e.set vn a)) (jF hr ((S.PP e j).set vn b)) (jF hr (e.set vn b)) (jF hr ((S.PP e j).set vn a));rw[<-o]at kc;have u3:Own g3 (q+1) u 1 ((S.tr LL j).map ci):=H.fr (by omega) λi hi=>G3 i (H.lt hi).2;have w1:j<((S.tr LL j).map ci).length:=by rw[QJ,Oj (by omega)];omega
   obtain⟨P,r⟩:∃P,((S.tr LL j).map ci)[j]?=some P:=⟨_,Qu w1⟩;simp only[sz,simprocAttr,sf,C,D,p,E,F,A,kc,h45,u3.rows,w1];refine pQ (v:=u) (sz:=1) (n:=1) (i:=j) (off:=0) (x:=Uk z) (row':=ci z) (u3.fr (g':=_) (by simp;omega) λi _=>by simp) r rfl rfl (by rw[Qx]at r;cases hh:(S.tr LL j)[j]? with
    |none=>rw[hh]at r;cases r
    |some x=>rw[hh]at r;injection r with r;rw[<-r];rfl) λg4 u4 n4 f4 p4=>?_
   rw[show ((S.tr LL j).map ci).set j (ci z)=(S.tr LL (j+1)).map ci by rw[<-Ol hz,RD]]at u4;simp only[sz,simprocAttr,sf];refine⟨?_,⟨rfl,by simp[St,LSp,sx,C,D,p,E,F,A],⟨?_,λi hi=>?_⟩,?_,?_,?_⟩,by simp[sx,h45],by simp[sx,h44]⟩
   ·simp only[Q2,QZ,QY,QI];refine aJ (TX (TW (true::(TW (true::(TX (true::[]))))))) [(0,6),(1,6),(2,6),(6,7),(6,8),(6,9),(6,10),(0,11),(1,11),(2,11),(7,11)] (by simp[All2,ak,aw,fX,s8,cA]) (by decide) ?_;intro pp K x y hx B;simp only[Q8,QG,SY]at K;rcases K with rfl|rfl|rfl|rfl|rfl|rfl|rfl|rfl|rfl|rfl|rfl<;>(simp only[S5,SE,Rv]at hx B;subst hx;subst B)
    ·exact gF rfl rfl rfl λi hi hc=>by simp[aw]at hc
    ·exact gF rfl rfl rfl λi hi hc=>by simp[aw]at hc
    ·exact gF rfl rfl rfl λi hi hc=>by simp[aw]at hc
    ·exact lf rfl rfl rfl λi hi hc=>by simp[aw]at hc
    ·exact lf rfl rfl rfl λi hi hc=>by simp[aw]at hc
    ·exact lf rfl rfl rfl λi hi hc=>by simp[aw]at hc
    ·refine lf rfl rfl rfl λi hi hc=>?_;simp[ak,rL]at hc;subst hc;have:=l2 _ hi;omega
    ·exact gF rfl rfl rfl λi hi hc=>by simp[aw]at hc
    ·exact gF rfl rfl rfl λi hi hc=>by simp[aw]at hc
    ·exact gF rfl rfl rfl λi hi hc=>by simp[aw]at hc
    ·exact gF rfl rfl rfl λi hi hc=>by simp[aw]at hc
   ·have:=f1.1;simp at n4 ⊢;omega
   ·have:=f1.2 i hi;have h1:=p4.1 i (by omega);simp at h1 ⊢;rw[h1,G3 i (by have:=f1.1;omega),this]
   ·simp at n4 ⊢;omega
   ·have h1:=p4.1 q (by omega);simp at h1 ⊢;rw[h1,G3 q qn1,q1];rfl
   ·exact u4.fr (by simp) λi _=>by simp
  ·rw[S.P6,B,QC,QA (by omega)]at o;subst o;have c':¬((S.kn e e.length / 2 ^ j &&& 1:Nat):Int)=1:=by
    have:S.Pq (S.kn e e.length) j=false:=by rw[w];simp[c]
    rw[S.Pq]at this;have h2:S.kn e e.length / 2 ^ j &&& 1≠1:=by simpa using this
    omega
   simp only[sz,simprocAttr,p,q1,eZ,eG,M,f,c'];rw[bm];simp only[sz,simprocAttr];rw[fk];exact⟨⟨rfl,by simp[St,LSp,sx,C,D,p,E,F,A],f1,qn1,q1,by rw[<-MS hz];exact H⟩,by simp[sx,h45],by simp[sx,h44]⟩
 ·rintro t df g1 ⟨rfl,⟨C,D,p,E,F,A,-⟩,f1,qn1,q1,H⟩;rw[<-hsl,Oi]at H;exact fin t g1 f1 H A
theorem FX[XOc]{d:Nat}(hd:0<d)(hk:k<=d)(hm:∀h,Agg n NoP 0 h (.agg [Uk n.grain,bb]))(hev:SlR NoP k .nil e ev)
  (h0:g.h.get 0=TD 2 [[Uk n.grain,bb]]) (h1:g.h.get 1=TD 1 [[ev]]) (h2:g.h.get 2=TD 1 [[Uk v]]) (h3:g.h.get 3=TD 1 [[Uk a]]) (h4:g.h.get 4=TD 1 [[Uk b]]) (hn:5<=g.nx)
  (kk:S.Pm n e v a b=0->∀u B g',Fr g g'->g.nx<=B->Own g' B u 1 ((S.PQ n e v.toNat a b).map ci)->K u g')
  (kp:S.Pm n e v a b≠0->∀g',Fr g g'->KP (.ifc 47 (Uk (S.Pm n e v a b))) g') :
  CallsP C0 d 57 [Ul 0,Ul 1,Ul 2,Ul 3,Ul 4] g K KP:=by
 refine nV tK (by simp[il]) ?_;unfold il;dsimp only;refine bk (by kernel_rfl) ?_;simp only[sz,simprocAttr,zC];have ld:aY (TD 2 [[Uk n.grain,bb]]) 0 0 true 2 0=.val (.agg [Uk n.grain,bb]):=rfl;rw[dV];show wpQ C0 d ([TG 12 2 0,oL 13 1,oL 14 2,oL 15 3,oL 16 4,o 17 (.bsl 1 2 [Uk 0] [0,1] [.t 15,.t 16])]++[T4 18 36 12 13 14 17,oM 6 18]) _ _ _ _;refine pT (by kernel_rfl) ?_;simp only[sz,simprocAttr,h0,h1,h2,h3,h4,ld,Gt];obtain⟨g1,m⟩:∃g1,g1=g.new (TD 1 [[Uk a],[Uk b]]):=⟨_,rfl⟩;rw[<-m];have e1:g1.h.get g.nx=TD 1 [[Uk a],[Uk b]]:=by rw[m];simp[O6]
 have n1:g1.nx=g.nx+1:=by rw[m];simp
 have f1:Fr g g1:=by rw[m];exact Fr.new _ _
 clear m;refine wA (ys:=[.agg [Uk n.grain,bb],ev,Uk v,.hsl g.nx 0 0 2 none]) (by kernel_rfl) (by simp[sx]) ?_;have r:af g1.h 1 (.hsl g.nx 0 0 2 none)=some ([a,b].map ci):=by simp only[af,e1];rfl
 refine Fe (l:=[a,b]) hd hm hev r (λi hi=>by injection hi with hi;omega) (by simp) (λhf q g2 f2 hq1 hq2 hq=>?_) (λhf g2 f2=>?_)
 rotate_left
 ·have p:S.Pm n e v a b=S.Po n e v [a,b]:=Qw hf;have:=kp (by rw[p];exact hf) g2 (f1.trans f2);rw[p]at this;exact this
 obtain⟨I,⟨he,J,P,Q⟩,hx⟩:=we.1 hf;have hr:=cp.1 I;have O:=hr.l2;obtain⟨vn,rfl⟩:=QD J;obtain⟨H,-⟩:=cU.1 he;have ha:=hx a (by simp);have hb:=hx b (by simp);have s:vn<e.length:=by omega
 have hq:g2.h.get q=eZ n.grain bb ev vn a 0 0 (S.kn e e.length):=hq;have f:Fr g g2:=f1.trans f2;have G2:∀i,i<5->g2.h.get i=g.h.get i:=λi hi=>f.2 i (by omega);refine gY (by kernel_rfl) ?_;simp only[sz,simprocAttr,jb];rw[bX,dV];refine bk (by kernel_rfl) ?_;simp only[sz,simprocAttr,G2 3 (by decide),G2 4 (by decide),h3,h4];rw[bm]
 by_cases hab:a=b
 ·subst hab;have p:S.Pm n e vn a a=2:=by rw[S.Pm,QA hf,QA rfl]
  simp only[sz,simprocAttr];refine oZ λt=>?_;have:=kp (by rw[p];decide) g2 f;rw[p]at this;exact this
 simp only[sz,simprocAttr,hab];rw[fk,bX];unfold jv;rw[dV];show wpQ C0 d ([oM 23 6]++[T0 24 38 23]) _ _ _ _;refine pT (by kernel_rfl) ?_;simp only[sz,simprocAttr];refine wA (ys:=[Ul q]) (by kernel_rfl) (by simp[sx]) ?_;refine Ee hd hk hr hm hev he hq (λhz=>?_) (λhz=>?_)
 rotate_left
 ·have p:S.Pm n e vn a b=7:=by rw[S.Pm,QA hf,Qw hab,QA hz]
  have:=kp (by rw[p];decide) g2 f;rw[p]at this;exact this
 have p:S.Pm n e vn a b=0:=by rw[S.Pm,QA hf,Qw hab,Qw hz]
 refine gY (by kernel_rfl) ?_;simp only[sz,simprocAttr,jb];rw[bX,dV];show wp C0 d none _ _ _ _ _;have hs:=pE (e:=e) (j:=e.length) (by omega);have A:=NW he (by omega);have D:∀g:G,g.h.get q=eZ n.grain bb ev vn a 0 0 (S.kn e e.length)->g.h.get q=TD 8 [[Uk n.grain,bb,ev,Uk (vn:Int),Uk a,Uk 0,Uk 0,Um (S.kn e e.length:Int)]]:=λ_ h=>h;simp only[sz,simprocAttr,sf,D g2 hq,eG,G2 3 (by decide),h3];refine sD hd hr hm hev he s ha hs (by simpa using hq) (by simp;omega) λg3 ug3=>?_;rw[A];have n3:g2.nx<=g3.nx:=by have:=ug3.nx;simp at this;omega
 have G3:∀i,i<g2.nx->g3.h.get i=g2.h.get i:=λi hi=>by have:=ug3.up.1 i (by simp;omega);simpa using this
 have l3:∀i∈g3.lg,g2.nx<=i:=λi hi=>by have:=ug3.up.2 i hi;simp at this;omega
 have q3:g3.h.get q=eZ n.grain bb ev vn a 0 0 (S.kn e e.length):=by rw[G3 q hq2,hq]
 have E:g3.h.get 4=TD 1 [[Uk b]]:=by rw[G3 4 (by have:=f.1;omega),G2 4 (by decide),h4]
 simp only[sz,simprocAttr,sf,D g3 q3,eG,E];refine sD hd hr hm hev he s hb hs (by simpa using q3) (by simp;omega) λg4 ug4=>?_;rw[A];have W:g3.nx<=g4.nx:=by have:=ug4.nx;simp at this;omega
 have G4:∀i,i<g2.nx->g4.h.get i=g2.h.get i:=λi hi=>by have:=ug4.up.1 i (by simp;omega);rw[<-G3 i hi];simpa using this
 have fn:Fr g2 g4:=⟨by omega,G4⟩;simp only[sz,simprocAttr,sf];refine⟨?_,?_⟩
 ·simp only[Q2,QZ,QY,QI];refine aJ (TX (TW (true::(TX (TW (true::(TX []))))))) [(6,7),(6,8),(6,9),(6,10),(6,11),(6,12)] (by simp[All2,ak,aw,fX,cA]) (by decide) ?_;intro pp C x y hx L;simp only[Q8,QG,SY]at C;rcases C with rfl|rfl|rfl|rfl|rfl|rfl<;>(simp only[S5,SE,Rv]at hx L;subst hx;subst L;refine lf rfl rfl rfl λi hi hc=>?_)
  ·simp[aw]at hc
  ·simp[aw]at hc
  ·simp[aw]at hc
  ·simp[aw]at hc
  ·simp[ak,rL]at hc;subst hc;have:=l3 _ hi;omega
  ·simp[ak,rL]at hc;subst hc;have:=l3 _ hi;have:=f.1;omega
 refine bk (by kernel_rfl) ?_;generalize hg5:iH _ _=g5;have w:Fr g2 g5:=by rw[<-hg5];exact⟨by simp;omega,λi hi=>by simpa using G4 i hi⟩
 clear hg5;have q5:g5.h.get q=eZ n.grain bb ev vn a 0 0 (S.kn e e.length):=by rw[w.2 q hq2,hq]
 have z:Fr g g5:=f.trans w;have F:g5.h.get 0=TD 2 [[Uk n.grain,bb]]:=by rw[z.2 0 (by omega),h0]
 obtain⟨b',rows,c,-,-,hN,-⟩:=cy (g:=g) d (hm g.h);injection c with c;injection c with _ c;injection c with c _;subst c;have nb:=λg:G=>(hN.tree (h':=g.h) (Qv 0)).len g;have ld1:aY (TD 2 [[Uk n.grain,bb]]) 0 0 false 1 1=.val bb:=rfl;simp only[sz,simprocAttr,F,ld1,nb];refine DU (b:=q+1) (by simp[aQ];omega) (by simp[aQ];omega) (by have:=w.1;omega) λu g6 u6 n6 p6 v6=>?_;have M:Fr g g6:=z.trans ⟨by omega,p6.1⟩;have R:g6.h.get q=eZ n.grain bb ev vn a 0 0 (S.kn e e.length):=by rw[p6.1 q (by have:=w.1;omega),q5]
 rw[<-H]at u6;have nu:gz .slice u g6=.val (Uk (e.length:Int)):=by rw[u6.lenF,List.length_replicate]
 simp only[sz,simprocAttr];rw[dV];refine bk (by kernel_rfl) ?_;simp only[sz,simprocAttr,nu];rw[ya,z9];refine Og hd hr hm hev he s ha hb h3 h4 hn M ⟨by have:=f1.1;omega,by have:=w.1;omega⟩ R u6 (by simp[St,LSp,sx]) (by simp[sx]) (by simp[sx]) ?_;intro t V N U T;rw[uW,QA rfl,bX];unfold ju;refine bk (by kernel_rfl) ?_;simp only[sz,simprocAttr,T];rw[yb,y5];simp only[sz,simprocAttr];exact kk p _ _ _ N (by have:=f1.1;omega) U
theorem y_[XOc](d:Nat)(a b:AV)(g:G):∃v,(I C0).call d 89 [a,b] g=.ok v g:=by
 have key:=o9 (C:=C0) (d:=d) (f:=89) («as»:=[a,b]) (g:=g) (K:=λv g'=>g'=g) js (by simp[cx]) ?_
 ·cases hc:(I C0).call d 89 [a,b] g with
  |fail=>rw[hc]at key;exact key.elim
  |ok v g'=>rw[hc]at key;exact⟨v,by rw[show g'=g from key]⟩
 have e:E7 true (.iface true) .nili .nili=.val (.bool false):=rfl;simp only[cx,sx,Ev];simp only[sz,simprocAttr,e]
theorem MU[XOc]:C0.P.underlying 47=some (.int .i64):=by kernel_rfl
theorem AF[XOc]{p:Nat}{x:Int}{K:G->Prop}(hp:g.h.get p=TD 1 [[u]])(hq:g.h.get q=TD 1 [[w]])(hpq:p≠q)(hk:K ((g.put p (TD 1 [[.nils]])).put q (TD 1 [[Uk x]]))):Nw C0 d 89 (.ifc 47 (Uk x)) [Ul p,Ul q] g K:=by refine Mu js (by simp[cx]) ?_;unfold cx;dsimp only;refine⟨rfl,trivial,?_⟩;refine gY (by kernel_rfl) ?_;have e:E7 true (.iface true) (.ifc 47 (Uk x)) .nili=.val (.bool true):=rfl;simp only[sz,simprocAttr,jb];rw[bX];refine bk (by kernel_rfl) ?_;simp only[sz,simprocAttr,e];rw[bm];simp only[sz,simprocAttr];rw[dV];show wpQ C0 d ([oM 10 2]++[⟨some 11,none,.raw (.typeAssert (.tmp 10) 20 47 true)⟩,oM 9 11,TH 12 9 0,TH 13 9 1,oM 3 12,oM 4 13]) _ _ _ _;refine pT (by kernel_rfl) ?_;simp only[sz,simprocAttr];refine F_ (v:=Uk x) (ik:=.i64) (by simp[sx]) MU ?_;refine gY (by kernel_rfl) ?_;simp only[sz,simprocAttr,jb,aa];rw[bX,dV];refine bk (by kernel_rfl) ?_;simp only[sz,simprocAttr];rw[bm];simp only[sz,simprocAttr];rw[fk,bX];unfold io;refine bk (by kernel_rfl) ?_;simp only[sz,simprocAttr];refine CL (by kernel_rfl) ?_;simp only[sz,simprocAttr,hp,hq,Qw (RJ hpq)];exact⟨rfl,hk⟩
theorem Dt[XOc]{f:Nat}{cap:List AV}{err:Int}(hs:mh C0 f=false)(hL:err≠0->L=[])
  (hc:∀g',Fr g g'->CallsP C0 d f cap g' (λu g2=>err=0/\Fr g' g2/\Own g2 g'.nx u 1 (L.map ci)) (λv g2=>err≠0/\Fr g' g2/\v=.ifc 47 (Uk err)))
  (kk:∀u g' B,Own g' B u 1 (L.map ci)->K (.tup [u,Uk err]) g'):CallsP C0 d 56 [.clo f [] cap] g K KP:=by
 refine nV tL (by simp[im]) ?_;unfold im;dsimp only;refine bk (by kernel_rfl) ?_;simp only[sz,simprocAttr];obtain⟨g1,k⟩:∃g1,g1=(g.new (TD 1 [[.nils]])).new (TD 1 [[Uk 0]]):=⟨_,rfl⟩;rw[<-k];have b:g1.h.get g.nx=TD 1 [[.nils]]:=by rw[k];simp[O6]
 have c:g1.h.get (g.nx+1)=TD 1 [[Uk 0]]:=by rw[k];simp[O6]
 have n1:g1.nx=g.nx+2:=by rw[k];simp
 have f1:Fr g g1:=by rw[k];exact (Fr.new _ _).trans (Fr.new _ _)
 clear k;unfold j4;refine bk (by kernel_rfl) ?_;simp only[sz,simprocAttr];rw[FO (f:=89) (first:=[]) (cap:=[Ul g.nx,Ul (g.nx+1)]) (by simp[sx])];simp only[sz,simprocAttr,MB,L7];rw[dV];show wpQ C0 d ([oM 5 0]++[o 6 (.dyn (.t 5) []),TJ 1 2 6,oz (.store 1 (.t 3) (qI 0))]) _ _ _ _;refine pT (by kernel_rfl) ?_;simp only[sz,simprocAttr];refine MW (f:=f) (first:=[]) (cap:=cap) (by simp[sx,jb]) hs ?_;refine (hc g1 f1).mono ?_ ?_
 ·rintro u g2 ⟨rfl,f2,a⟩;have d2:g2.h.get g.nx=TD 1 [[.nils]]:=by rw[f2.2 _ (by omega),b]
  have d3:g2.h.get (g.nx+1)=TD 1 [[Uk 0]]:=by rw[f2.2 _ (by omega),c]
  refine gY (by kernel_rfl) ?_;simp only[sz,simprocAttr,jb,d2,d3,a.cell.1,a.cell.2,show ¬g.nx+1=g.nx by omega];rw[bX,yb,y5,xL];obtain⟨v,e⟩:=y_ d (Ul g.nx) (Ul (g.nx+1)) ((g2.put g.nx (TD 1 [[u]])).put (g.nx+1) (TD 1 [[Uk 0]]));refine HZ e ?_;simp only[sz,simprocAttr,show ¬g.nx=g.nx+1 by omega];refine kk u _ g1.nx (a.fr (by simp) λi hi=>?_);have:=(a.lt hi).1;simp[O6,show ¬i=g.nx+1 by omega,show ¬i=g.nx by omega]
 ·rintro v g2 ⟨he,f2,rfl⟩;have d2:g2.h.get g.nx=TD 1 [[.nils]]:=by rw[f2.2 _ (by omega),b]
  have d3:g2.h.get (g.nx+1)=TD 1 [[Uk 0]]:=by rw[f2.2 _ (by omega),c]
  refine AF (p:=g.nx) (q:=g.nx+1) d2 d3 (by omega) ?_;show tG C0 d [SR.cell false 1 2,SR.cell false 1 3] _ [] _ K;simp only[sz,simprocAttr,show ¬g.nx=g.nx+1 by omega];refine kk .nils _ 0 (.inl ⟨rfl,?_⟩);rw[hL he];rfl
theorem FY[XOc](hd:0<d)(hm:Agg n NoP 0 g.h u)(he:SlR P k g.h e w)(hk:k<=d)(hel:e.length<=1000000) :
  ∃r,zk C0 19 d [u,w,Uk v,Uk a,Uk b] g=.val r/\yf (One (S.PS n e v a b)) (One (S.Pm n e v a b)) NoP 0 .nil r:=by
 obtain⟨bb,rows,rfl,e1,f,hN,-⟩:=cy d hm;obtain⟨w',j,c⟩:=bE he d;rw[Nat.max_eq_right hk]at c;refine Il vY (xs:=[.agg [Uk n.grain,bb],w',Uk v,Uk a,Uk b]) (by simp only[aF,e1,j,bJ]) (by simp[jQ]) (iE (m:=1) (aU _) (aU _) (by decide) (by decide)) (by decide) hd ?_;unfold jQ;dsimp only;refine bk (by kernel_rfl) ?_;have cw:=(c .nil).cell;simp only[sz,simprocAttr,zC,cw.1,cw.2];generalize hg0:G.new _ _=g0;have f0:g0.h.get 0=TD 2 [[Uk n.grain,bb]]:=by rw[<-hg0];simp[O6,sx]
 have f1:g0.h.get 1=TD 1 [[w']]:=by rw[<-hg0];simp[O6,sx]
 have f2:g0.h.get 2=TD 1 [[Uk v]]:=by rw[<-hg0];simp[O6,sx]
 have l:g0.h.get 3=TD 1 [[Uk a]]:=by rw[<-hg0];simp[O6,sx]
 have p:g0.h.get 4=TD 1 [[Uk b]]:=by rw[<-hg0];simp[O6,sx]
 have fn:g0.nx=5:=by rw[<-hg0];simp[sx]
 clear hg0;unfold mz;rw[dV];show wpQ C0 (d+1) ([o 12 (.mkf 57 [] [.t 5,.t 6,.t 7,.t 8,.t 9])]++[T0 13 56 12,TH 14 13 0,TH 15 13 1,oM 10 14,oM 11 15]) _ _ _ _;refine pT (by kernel_rfl) ?_;simp only[sz,simprocAttr];refine wA (ys:=[.clo 57 [] [Ul 0,Ul 1,Ul 2,Ul 3,Ul 4]]) (by kernel_rfl) (by simp[sx]) ?_;refine Dt (err:=S.Pm n e v a b) (L:=S.PS n e v a b) (by kernel_rfl) (λh=>Qw h) (λg1 h1=>?_) (λu g1 B ho=>?_)
 ·have fx:∀i,i<5->g1.h.get i=g0.h.get i:=λi hi=>h1.2 i (by omega);refine FX (k:=d) (n:=n) (e:=e) (v:=v) (a:=a) (b:=b) (bb:=bb) (ev:=w') (by omega) (by omega) (λh=>f h) (c .nil) (by rw[fx 0 (by decide),f0]) (by rw[fx 1 (by decide),f1]) (by rw[fx 2 (by decide),f2]) (by rw[fx 3 (by decide),l]) (by rw[fx 4 (by decide),p]) (by have:=h1.1;omega)
   (λhE u B g2 h2 hB ho=>⟨hE,h2,?_⟩) (λhE g2 h2=>⟨hE,h2,rfl⟩)
  rw[S.PS,QA hE];rcases ho with ho|⟨id,ep,lo,q1,q2,q3,q⟩
  ·exact .inl ho
  ·exact .inr ⟨id,ep,lo,by omega,q2,q3,q⟩
 ·refine gY (by kernel_rfl) ?_;simp only[sz,simprocAttr,jb];rw[bX,yb,y5,xL];simp only[sz,simprocAttr];have hl:(S.PS n e v a b).length<9223372036854775808:=by
   rw[S.PS]
   split
   ·rw[CA];omega
   ·decide
  exact⟨λ_=>True,_,_,rfl,ho.ints hl,aI.2 rfl⟩
theorem xG{α:Type} [Rp α]{x:α}{cs:List AV}(h:Rp.rp NoP 0 .nil x cs)(h':H):Agg x P 0 h' (.agg cs):=⟨_,rfl,Rp.tree h (Qv _)⟩
theorem CK[XOc](g:G):aq C0 1 18 [] g=.val (.bool true):=by kernel_rfl
theorem Ij[XOc]{k2:Nat}{P2:Nat->Prop}{l:List Int}{v:AV}(hd:0<d)(hv:SlR P k g.h l v)(hw:SlR P2 k2 g.h l w):aq C0 d 21 [v,w] g=.val (.bool true):=by
 obtain⟨v',e1,b⟩:=bE hv d;obtain⟨w',i,c⟩:=bE hw d;have n1:=λg=>(b .nil).len g;have n2:=λg=>(c .nil).len g;have o:=λh=>(b h).ints;have p:=λh=>(c h).ints;rw[wW];refine d7 Am (xs:=[v',w']) (by simp only[aF,e1,i]) (by simp[pq]) hd ?_;simp only[sz,simprocAttr,pq,n1,n2,pW];refine bz (m:=l.length) hv.1 (λj t df g=>df=[]/\St t [(0,v'),(1,w')]) ⟨rfl,by simp[St,sx]⟩ (by simp[sx]) (by simp[sx]) (by decide) (by rintro j t df g v s (rfl|rfl|rfl)<;>simp[St,sx]) ?_ ?_
 ·rintro j t df g f ⟨rfl,h0,h1,-⟩ a e;obtain⟨y,n,-,-⟩:=ae f;have q:j<(l.map ci).length:=by simpa using f
  have r:(l.map ci)[j]?=some (ci y):=by rw[Qx,n];rfl
  simp only[sz,simprocAttr,h0,h1,a,o,p,q,r,ci];simp[St,sx,h0,h1,a,e]
 ·rintro t df g ⟨rfl,-⟩;simp only[sz,simprocAttr,pX]
theorem EP[XOc]{v:Nat}(hd:0<d)(he:SlR P k g.h e w)(hl:e.length<=1000)(hv:v<e.length) :
  ∃r,aq C0 d 8 [w,Uk (v:Int)] g=.val r/\IT 0 (e.set v (-1)) r:=by
 obtain⟨w',e1,a⟩:=bE he d;rw[vP];refine bj yV (xs:=[w',Uk (v:Int)]) (by simp only[aF,e1,bJ]) (by simp[nz]) (aU _) (by decide) hd ?_;simp only[sz,simprocAttr,nz];refine bF (rR (x:=-1) (by omega) (a _) hl hv) λr hr=>?_;simp only[sz,simprocAttr];exact⟨NoP,_,rfl,hr.sl _⟩
theorem Lr(x:Int):IntKind.wrap .u64 x=x % 18446744073709551616:=rfl
theorem Aa(x:Int):0<=IntKind.wrap .u64 x:=by rw[Lr];exact SJ _ (by decide)
def uj[XOc]:Prop:=∀{d k:Nat} {P:Nat->Prop} {g:G} {n:Net} {e:List Int} {v a b:Int} {u w:AV},0<d->Agg n NoP 0 g.h u->SlR P k g.h e w->k<=d->e.length<=1000000 ->
 ∃r,aq C0 d 19 [u,w,Uk v,Uk a,Uk b] g=.val r/\yf (One (S.PS n e v a b)) (One (S.Pm n e v a b)) NoP 0 .nil r
def LRa(odw arr2 evs:AV)(p18 i:Nat)(v a b c:Int):List (Nat×AV):=[(3,odw),(4,Uk v),(8,Ul 2),(13,Ul 4),(14,Uk a),(15,Uk b),(16,Uk c),(45,arr2),(46,Uk (i:Int)),(62,evs),(18,Ul p18)]
theorem Oz(id:Nat):uV 3 1 (Ul id) (Uk 0)=.val (Ul id):=rfl
theorem OA(id:Nat):uV 3 1 (Ul id) (Uk 1)=.val (.hptr id 0 0 1):=rfl
theorem OB(id:Nat):uV 3 1 (Ul id) (Uk 2)=.val (.hptr id 0 0 2):=rfl
theorem OH[XOc](hS:uj){p18 i0 j0:Nat}{evw arr odw arr2 evs:AV}{c:Int}{Q:QT}(hm:∀h,Agg n NoP 0 h (.agg [Uk n.grain,bb]))(he:SlR NoP 0 .nil e evw)(hel:e.length<=1000000)
  (harr:∀j:Nat,j<4->∃x y z:Int,ixV true 4 3 arr (Uk (j:Int))=.val (.agg [Uk x,Uk y,Uk z])) (g18:g.h.get p18=TD 2 [[Uk n.grain,bb]]) (hp:p18<g.nx)
  (ht:St t ((20,evw)::(85,arr)::(63,Uk (j0:Int))::LRa odw arr2 evs p18 i0 v a b c)) (h86:tat t 86=Uk 0)
  (fin:∀t g',St t ((63,Uk (j0:Int))::LRa odw arr2 evs p18 i0 v a b c)->Fr g g'->Q (.exit 4) t [] g'):wpL (wp C0 1 none dq) Q t [] g:=by
 simp only[dq];refine r_ (m:=4) rfl (by omega) (λj t df g'=>df=[]/\Fr g g'/\St t ((20,evw)::(85,arr)::(63,Uk (j0:Int))::LRa odw arr2 evs p18 i0 v a b c)) ⟨rfl,Fr.refl _,ht⟩ h86 (by decide) ?_ ?_ ?_
 ·rintro j t df g v s (rfl|rfl|rfl) ⟨a1,a2,b1,b2,b3,b4,O,P,R,S,U,w,A,B,C,D,-⟩<;>exact⟨a1,a2,by simp[St,LRa,sx,b1,b2,b3,b4,O,P,R,S,U,w,A,B,C,D]⟩
 ·clear ht h86;rintro j t df g1 W ⟨rfl,f1,f,q,M,V,h4,h8,E,F,H,I,J,K,L,k,-⟩ h86;obtain⟨x,y,z,N⟩:=harr j W;have p:g1.h.get p18=TD 2 [[Uk n.grain,bb]]:=by rw[f1.2 _ hp,g18]
  have X:p18<g1.nx:=by have:=f1.1;omega
  have ld:aY (TD 2 [[Uk n.grain,bb]]) 0 0 true 2 0=.val (.agg [Uk n.grain,bb]):=rfl;simp only[sz,simprocAttr,q,h86,N,k,show ¬p18=g1.nx by omega,p,ld,f,Oz,OA,OB];refine bF (hS (n:=n) (e:=e) (by decide) (hm _) (he.tree (Qv 0)) (Rf _) hel) λr hr=>?_;obtain⟨Y,Z,rfl,q1,q2⟩:=hr;have q2:=aI.1 q2;injection q2 with q2;subst q2;obtain⟨w1,l,q1⟩:=q1;injection l with l;subst l;simp only[sz,simprocAttr,k,show ¬p18=g1.nx by omega,p,ld,f,Oz,OA,OB];refine bF (FM (n:=n) (e:=e) (by decide) (hm _) (he.tree (Qv 0))) λr hr=>?_;obtain⟨r3,r4,rfl,q3,u⟩:=hr;have u:=aI.1 u;injection u with u;subst u;obtain⟨w3,o,q3⟩:=q3;injection o with o;subst o;have ki:=λg:G=>Ij (d:=1) (g:=g) (by decide) (q1.tree (h':=g.h) (Qv 0)) (q3.tree (h':=g.h) (Qv 0));simp only[sz,simprocAttr,ki];refine⟨⟨⟨?_,λi hi=>?_⟩,?_⟩,?_⟩
  ·have:=f1.1;simp;omega
  ·have:=f1.1;simp[O6,show ¬i=g1.nx by omega,f1.2 i hi]
  ·simp[St,LRa,sx,f,q,V,h4,h8,E,F,H,I,J,K,L,M,k]
  ·simp[sx,h86]
 ·rintro t df g1 ⟨rfl,f1,-,-,ht⟩;exact fin t g1 ht f1
theorem NO(a0 a1 a2 b0 b1 b2 c0 c1 c2 e0 e1 e2:Int):cX [Uk 0,Uk 0,Uk 0,Uk 0,Uk 0,Uk 0,Uk 0,Uk 0,Uk 0,Uk 0,Uk 0,Uk 0] [((0,3),.agg [Uk a0,Uk a1,Uk a2]),((3,3),.agg [Uk b0,Uk b1,Uk b2]),((6,3),.agg [Uk c0,Uk c1,Uk c2]),((9,3),.agg [Uk e0,Uk e1,Uk e2])] =
  some [Uk a0,Uk a1,Uk a2,Uk b0,Uk b1,Uk b2,Uk c0,Uk c1,Uk c2,Uk e0,Uk e1,Uk e2]:=rfl
theorem NP(a b c:Int):cX [Uk 0,Uk 0,Uk 0] [((0,1),Uk a),((1,1),Uk b),((2,1),Uk c)]=some [Uk a,Uk b,Uk c]:=rfl
theorem OI[XOc](hS:uj){p18 i0:Nat}{odw arr2 w1 w2 w3:AV}{l1 l2 l3:List Int}{c:Int}{Q:QT}(hm:∀h,Agg n NoP 0 h (.agg [Uk n.grain,bb]))(h1:SlR NoP 0 .nil l1 w1)(h2:SlR NoP 0 .nil l2 w2)(h3:SlR NoP 0 .nil l3 w3)(k1:l1.length<=1000000)(k2:l2.length<=1000000)(k3:l3.length<=1000000)
  (g18:g.h.get p18=TD 2 [[Uk n.grain,bb]]) (hp:p18<g.nx)
  (ht:St t (LRa odw arr2 (.agg [w1,w2,w3]) p18 i0 v a b c)) (h63:tat t 63=Uk 0)
  (fin:∀t g',St t (LRa odw arr2 (.agg [w1,w2,w3]) p18 i0 v a b c)->Fr g g'->Q (.exit 2) t [] g'):wpL (wp C0 1 none dt) Q t [] g:=by
 simp only[dt,gL];refine r_ (m:=3) rfl (by omega) (λj t df g'=>df=[]/\Fr g g'/\St t (LRa odw arr2 (.agg [w1,w2,w3]) p18 i0 v a b c)) ⟨rfl,Fr.refl _,ht⟩ h63 (by decide) ?_ ?_ ?_
 ·rintro j t df g v s (rfl|rfl|rfl) ⟨a1,a2,b1,b2,b3,b4,B,C,D,E,F,p,q,-⟩<;>exact⟨a1,a2,by simp[St,LRa,sx,b1,b2,b3,b4,B,C,D,E,F,p,q]⟩
 ·clear ht h63;rintro j t df g1 H ⟨rfl,f1,K,A,L,u,d,f,i,y,z,o,x,-⟩ k;obtain⟨l,w,hw,hl,r⟩:∃(l:List Int) (w:AV),SlR NoP 0 .nil l w/\l.length<=1000000/\ixV false 3 1 (.agg [w1,w2,w3]) (Uk (j:Int))=.val w:=by
   have:j=0\/j=1\/j=2:=by omega
   rcases this with rfl|rfl|rfl
   ·exact⟨l1,w1,h1,k1,rfl⟩
   ·exact⟨l2,w2,h2,k2,rfl⟩
   ·exact⟨l3,w3,h3,k3,rfl⟩
  have I:=dN .u64 (Aa a) (show (0:Int)<3 by decide);have J:=dN .u64 (Aa b) (show (0:Int)<3 by decide);simp only[sz,simprocAttr,A,d,f,i,o,k,r,I,J,NP,NO];refine OH hS (p18:=p18) (i0:=i0) (j0:=j) (v:=v) (a:=a) (b:=b) (c:=c) (odw:=odw) (arr2:=arr2) (evs:=.agg [w1,w2,w3]) (n:=n) (bb:=bb) (evw:=w) (e:=l) hm hw hl ?_ (by rw[f1.2 _ hp,g18]) (by have:=f1.1;omega) (by simp[St,LRa,sx,K,A,L,u,d,f,i,y,z,o,k,x];rfl) (by simp[sx]) ?_
  ·intro j H;have:j=0\/j=1\/j=2\/j=3:=by omega
   rcases this with rfl|rfl|rfl|rfl<;>exact⟨_,_,_,rfl⟩
  ·rintro t g2 ⟨k,ht⟩ f2;simp only[sz,simprocAttr,k];exact⟨f1.trans f2,by simpa [St,LRa,sx] using ht⟩
 ·rintro t df g1 ⟨rfl,f1,ht⟩;exact fin t g1 ht f1
theorem xb0(id:Nat):uV 2 1 (Ul id) (Uk 0)=.val (Ul id):=rfl
theorem xb1(id:Nat):uV 2 1 (Ul id) (Uk 1)=.val (.hptr id 0 0 1):=rfl
theorem mw[XOc](hS:uj){x:vD}{y:k_}{u1 u2 odw:AV}{vs:List UInt8}{odd:List Int}{v a b:Int}(hx:Agg x NoP 0 .nil u1)(hy:Agg y NoP 0 .nil u2)
  (hv:vs.length=9) (hod:SlR NoP 0 .nil odd odw) (hodr:Raw odw) :
  ∃g',(I C0).call 1 4 [u1,u2,.agg (vs.map u8v),odw,Uk v,.agg [Uk a,Uk b]] G.empty=.ok (.bool true) g':=by
 obtain⟨xs,rfl,qx⟩:=hx;obtain⟨ys,rfl,qy⟩:=hy;obtain⟨W,X,e1,-⟩:=Bo.1 qx;have Q:xs.length=3:=by rw[e1];rfl
 have R:ys.length=4:=by rw[Et.1 qy];rfl
 clear e1 W X;obtain⟨AA,u⟩:∃AA,AA=vs.map u8v:=⟨_,rfl⟩;have L:AA.length=9:=by rw[u];simp[hv]
 rw[<-u];have key:=o9 (C:=C0) (d:=1) (f:=4) («as»:=[.agg xs,.agg ys,.agg AA,odw,Uk v,.agg [Uk a,Uk b]]) (g:=G.empty) (K:=λv g'=>v=.bool true) qu (by simp[eP]) ?_
 ·cases hc:(I C0).call 1 4 [.agg xs,.agg ys,.agg AA,odw,Uk v,.agg [Uk a,Uk b]] G.empty with
  |fail=>rw[hc]at key;exact key.elim
  |ok v g'=>rw[hc]at key;exact⟨g',by rw[show v=.bool true from key]⟩
 simp only[sz,simprocAttr,eP,D9];obtain⟨g0,hg0⟩:∃g0,g0=(((G.empty.new (TD xs.length [xs])).new (TD ys.length [ys])).new (TD AA.length [AA])).new (TD 2 [[Uk a,Uk b]]):=⟨_,rfl⟩;rw[<-hg0];have f0:g0.h.get 0=TD 3 [xs]:=by rw[hg0,Q];simp[sx,O6]
 have f1:g0.h.get 1=TD 4 [ys]:=by rw[hg0,R];simp[sx,O6]
 have f2:g0.h.get 2=TD 9 [AA]:=by rw[hg0,L];simp[sx,O6]
 have T:g0.h.get 3=TD 2 [[Uk a,Uk b]]:=by rw[hg0];simp[sx]
 have J:g0.nx=4:=by rw[hg0];simp[sx]
 clear hg0;have ld0:aY (TD 3 [xs]) 0 0 true 3 0=.val (.agg xs):=by
  match xs,Q with
  |[a,b,c],_=>rfl
 have ld1:aY (TD 4 [ys]) 0 0 true 4 0=.val (.agg ys):=by
  match ys,R with
  |[a,b,c,d],_=>rfl
 have ld2:aY (TD 9 [AA]) 0 0 true 9 0=.val (.agg AA):=by
  match AA,L with
  |[a0,a1,a2,a3,a4,a5,a6,a7,a8],_=>rfl
 have ldn:∀(gr:Int) (bb:AV),aY (TD 2 [[Uk gr,bb]]) 0 0 true 2 0=.val (.agg [Uk gr,bb]):=λ_ _=>rfl;have lda:aY (TD 2 [[Uk a,Uk b]]) 0 0 false 1 0=.val (Uk a):=rfl;have ldb:aY (TD 2 [[Uk a,Uk b]]) 0 0 false 1 1=.val (Uk b):=rfl;simp only[sz,simprocAttr,ic,f0,ld0];refine bF (LO (by decide) (xG (P:=NoP) qx _)) ?_;rintro r ⟨n,w,cn,rfl,N⟩;obtain⟨bb,rfl,Z⟩:=dT.1 N;have U:∀h,Agg n NoP 0 h (.agg [Uk n.grain,bb]):=λh=>xG N h;have nb:=λg:G=>(Z.tree (h':=g.h) (Qv 0)).len g;have ha:=w.l;simp only[sz,simprocAttr,J];obtain⟨g1,k⟩:∃g1,g1=(g0.new (TD 2 [[Uk 0,.nils]])).put 4 (TD 2 [[Uk n.grain,bb]]):=⟨_,rfl⟩;rw[<-k];have e0:g1.h.get 0=TD 3 [xs]:=by rw[k];simp[O6,J,f0]
 have e1:g1.h.get 1=TD 4 [ys]:=by rw[k];simp[O6,J,f1]
 have e2:g1.h.get 2=TD 9 [AA]:=by rw[k];simp[O6,J,f2]
 have e3:g1.h.get 3=TD 2 [[Uk a,Uk b]]:=by rw[k];simp[O6,J,T]
 have e4:g1.h.get 4=TD 2 [[Uk n.grain,bb]]:=by rw[k];simp[O6]
 have n1:g1.nx=5:=by rw[k];simp[J]
 clear k;have wl:IntKind.wrap .u64 (n.nodes.length:Int)=(n.nodes.length:Int):=jp (by omega) (by omega);have O:=dN .u64 (Aa v) (show (0:Int)<(n.nodes.length:Int) by omega);obtain⟨c,hc⟩:∃c,c=IntKind.wrap .u64 v % (n.nodes.length:Int):=⟨_,rfl⟩;have h1:0<=c/\c<(n.nodes.length:Int):=by rw[hc];exact⟨SJ _ (by omega),Sr _ (by omega)⟩
 rw[<-hc]at O;have wc:IntKind.wrap .i64 c=c:=aA (by omega) (by omega);obtain⟨cn,rfl⟩:=QD h1.1;have ldb4:aY (TD 2 [[Uk n.grain,bb]]) 0 0 false 1 1=.val bb:=rfl;simp only[sz,simprocAttr,xb0,xb1,e1,e3,e4,lda,ldb,ldb4,nb,wl,O,wc,ld1,ldn];refine bF (Lz (K:=1000) (by decide) (xG (P:=NoP) qy _) (U _) (by decide) (by omega) w.b) ?_;rintro r ⟨m,-,cm,rfl,M⟩;obtain⟨b2,rfl,h8⟩:=dT.1 M;have Y:∀h,Agg m NoP 0 h (.agg [Uk m.grain,b2]):=λh=>xG M h;have fw:cX [Uk 0,.nils,Uk 0,.nils] [((0,2),.agg [Uk n.grain,bb]),((2,2),.agg [Uk m.grain,b2])]=some [Uk n.grain,bb,Uk m.grain,b2]:=rfl;simp only[sz,simprocAttr,fw];obtain⟨nets,p⟩:∃nets,nets=AV.agg [Uk n.grain,bb,Uk m.grain,b2]:=⟨_,rfl⟩;rw[<-p];simp only[gK,gM];refine r_ (m:=2) rfl (by omega) (λj t df g=>df=[]/\Fr g1 g/\St t [(3,odw),(4,Uk v),(8,Ul 2),(13,Ul 4),(14,Uk a),(15,Uk b),(16,Uk (cn:Int)),(45,nets)]) ⟨rfl,Fr.refl _,by simp[St,sx]⟩ (by simp[sx]) (by decide) ?_ ?_ ?_
 ·rintro j t df g v s (rfl|rfl|rfl) ⟨a1,a2,b1,b2,b3,b4,b5,b6,b7,b8,-⟩<;>exact⟨a1,a2,by simp[St,sx,b1,b2,b3,b4,b5,b6,b7,b8]⟩
 ·rintro j t df g2 hj ⟨rfl,F2,V,t4,S,q,F,H,A,B,-⟩ D;obtain⟨h5,bb1,h4,h3⟩:∃(n1:Net) (bb:AV),(∀h,Agg n1 NoP 0 h (.agg [Uk n1.grain,bb]))/\ixV true 2 2 nets (Uk (j:Int))=.val (.agg [Uk n1.grain,bb]):=by
   rw[p];have:j=0\/j=1:=by omega
   rcases this with rfl|rfl
   ·exact⟨n,bb,U,rfl⟩
   ·exact⟨m,b2,Y,rfl⟩
  have x2:g2.h.get 2=TD 9 [AA]:=by rw[F2.2 2 (by omega),e2]
  have x4:g2.h.get 4=TD 2 [[Uk n.grain,bb]]:=by rw[F2.2 4 (by omega),e4]
  have hb:=F2.1;simp only[sz,simprocAttr,S,q,B,D,h3,show ¬2=g2.nx by omega,show ¬4=g2.nx by omega,x2,x4,ld2,ldn];rw[u];refine bF (DF (by decide) hv (U _) (by omega) λz hz=>by have:=w.c z hz;omega) ?_;rintro r ⟨e,he,q1⟩;obtain⟨ew,E,q1⟩:=q1;injection E with E;subst E;obtain⟨h9,-⟩:=cU.1 he;simp only[sz,simprocAttr,A];refine bF (EP (e:=e) (v:=cn) (by decide) (q1.tree (Qv 0)) (by omega) (by omega)) λr5 hr5=>?_;simp only[sz,simprocAttr,S,q,show ¬2=g2.nx by omega,show ¬4=g2.nx by omega,x2,x4,ld2,ldn];rw[u];refine bF (DF (by decide) hv (U _) (by omega) λz hz=>by have:=w.c z hz;omega) ?_;rintro r ⟨e',h2,q2⟩;obtain⟨ew',o,q2⟩:=q2;injection o with o;subst o;obtain⟨h7,-⟩:=cU.1 h2;have lo:=(hod.tree (h':=.nil) (Qv 0)).len;obtain⟨w3,s1,s2⟩:=Ob hod hodr 9;have h6:∀g,xC 1 odw none (some (Uk (min (odd.length:Int) 9))) g=.val w3:=s1;have fl:cX [.nils,.nils,.nils] [((0,1),r5),((1,1),r),((2,1),w3)]=some [r5,r,w3]:=by have c1:=(hr5.sl .nil).cell;have c2:=q2.cell;have c3:=s2.cell;simp[cX,c1,c2,c3,cZ,aZ]
  simp only[sz,simprocAttr,V,lo,Tz,To,h6,fl];refine OI hS (p18:=g2.nx) (i0:=j) (n:=h5) (bb:=bb1) (odw:=odw) (arr2:=nets) (v:=v) (a:=a) (b:=b) (c:=(cn:Int)) (l1:=e.set cn (-1)) (l2:=e') (l3:=odd.take 9) h4 (hr5.sl .nil) q2 s2 (by rw[Sl];omega) (by omega) (by rw[Q_];omega) (by simp[O6]) (by simp) (by simp[St,LRa,sx,V,t4,S,q,F,H,A,B,D]) (by simp[sx]) ?_;rintro t g3 ⟨V,t4,S,q,F,H,A,B,D,-⟩ T;simp only[sz,simprocAttr];refine⟨⟨?_,by simp[St,V,t4,S,q,F,H,A,B]⟩,D⟩;refine F2.trans ⟨by have:=T.1;simp at this;omega,λi hi=>?_⟩;rw[T.2 i (by simp;omega)];simp[O6,show ¬i=g2.nx by omega]
 ·rintro t df g2 ⟨rfl,-⟩;simp only[sz,simprocAttr,gN,CK]
end
end Hx
section
namespace Hx
open Go Go.Proofs.YtikpmbiklokdiaaGreat
noncomputable section
@[reducible] def iN:XOc:=⟨none⟩
@[reducible] def iR:XOc:=⟨some (zk (@C0 iN) 19)⟩
theorem Ou:@C0 iN=Gen.cfg1:=by
 have a:Gen.cfg1.ext 19=none:=by kernel_rfl
 have he:(@C0 iN).ext=Gen.cfg1.ext:=by
  funext k;show ap (Nat.beq k 19) none (Gen.cfg1.ext k)=Gen.cfg1.ext k;rw[aa]
  split
  ·rename_i h;rw[Ro h,a]
  ·rfl
 show ({ Gen.cfg1 with ext:=(@C0 iN).ext }:Cfg)=Gen.cfg1;rw[he]
theorem NG:CfgOk (@C0 iN):=by rw[Ou];exact Gen.cfg1Ok
theorem NH:CfgOk (@C0 iR):=by have h:@C0 iR=Gen.cfg1.add 19 (zk (@C0 iN) 19):=rfl;rw[h];exact Gen.cfg1Ok.add (ExtOk.cfg (C:=@C0 iN) (C':=Gen.cfg1) rfl rfl (J9 NG))
theorem Hw:@uj iR:=λ{d k P g n e v a b u w} h1 h2 h3 h4 h5=>by
 have h:@aq (@C0 iR) d 19 [u,w,Uk v,Uk a,Uk b] g=zk (@C0 iN) 19 d [u,w,Uk v,Uk a,Uk b] g:=by kernel_rfl
 rw[h];exact (letI:=iN;FY h1 h2 h3 h4 h5)
end
end Hx
end
namespace Hx
open Go
noncomputable section
variable {g:G}{e L:List Int}{d k j q s:Nat}{n:Net}{t:T}{v a b gr z:Int}{w ev u bb:AV}{K KP:AV->G->Prop}{P:Nat->Prop}
end
end Hx
section
namespace Hx
open Go Go.RowKit Go.ChangeShapes Go.WideShapes
def tF(P:Program):List Field->Nat->Option Nat
 |[],k=>some k
 |f::fs,k=>if f.offset=k then tF P fs (k+P.cellsOf f.type) else none
def rI(P:Program):Nat->TypeId->Bool
 |0,_=>false
 | n+1,t=>match P.underlying t with
  |some .bool=>true
  |some (.int _)=>true
  |some (.slice e)=>decide (0<P.cellsOf e)&&rI P n e
  |some (.struct fs)=>(tF P fs.toList 0 == some (P.cellsOf t))&&fs.toList.all (λf=>rI P n f.type)
  |some (.array m e)=>decide (m*P.cellsOf e=P.cellsOf t)&&rI P n e
  |_=>false
def Sh(P:Program):Nat->TypeId->List AV->Prop
 |0,_,_=>False
 | n+1,t,xs=>match P.underlying t with
  |some .bool=>∃b,xs=[.bool b]
  |some (.int k)=>∃z,xs=[.int k z]/\(Lit.int k z).wf=true
  |some (.slice e)=>xs=[.nils]\/∃rows,xs=[.tsl 0 (P.cellsOf e) rows]/\rows.length<9223372036854775808/\∀row∈rows,Sh P n e row
  |some (.struct fs)=>∃xss,xs=xss.flatten/\All2 (λ(f:Field) ys=>Sh P n f.type ys) fs.toList xss
  |some (.array m e)=>∃xss:List (List AV),xs=xss.flatten/\xss.length=m/\∀ys∈xss,Sh P n e ys
  |_=>False
def CP(P:Program)(w:World)(n:Nat)(t:TypeId)(xs:List AV)(cs:List Value):Prop :=
 RVs0 w xs cs/\(∀y∈xs,y.one=true/\Closed y)/\Sh P n t xs
theorem RVs0.append{w:World}{xs ys:List AV}{cs ds:List Value}(h:RVs0 w xs cs)(h':RVs0 w ys ds):RVs0 w (xs++ys) (cs++ds):=by
 refine⟨by rw[RW,RW,h.1,h'.1],λi x v hx hv=>?_⟩;rcases RX i xs.length with hi|hi
 ·rw[QE hi]at hx;rw[QE (by rw[<-h.1];exact hi)]at hv;exact h.2 i x v hx hv
 ·rw[QL hi]at hx;rw[QL (by rw[<-h.1];exact hi),<-h.1]at hv;exact h'.2 _ x v hx hv
theorem Gd(b o n:Nat):(⟨b,o,none⟩:Addr).add n=adr b (o+n):=by
 unfold Addr.add
 split
 ·rename_i h;subst h;rfl
 ·rfl
variable {H:Type}{enc:TypeId×Value->H}{P:Program}{w:World}
theorem A0:∀{fl:List Field} {k K:Nat},tF P fl k=some K->k<=K
 |[],k,K,h=>by injection h with h;omega
 | f::fl,k,K,h=>by
  unfold tF at h
  split at h
  ·have:=A0 h;omega
  ·cases h
theorem KD{n:Nat}{cs:List Value}:∀{fl:List Field} {k K:Nat},tF P fl k=some K ->
  (∀f∈fl,∃xs,CP P w n f.type xs ((cs.drop f.offset).take (P.cellsOf f.type))) ->
  ∃xss,All2 (λ(f:Field) ys=>Sh P n f.type ys) fl xss/\RVs0 w xss.flatten ((cs.drop k).take (K - k))/\∀y∈xss.flatten,y.one=true/\Closed y
 | [],k,K,h,_=>by injection h with h;subst h;exact⟨[],trivial,by rw[RF,TA];exact⟨rfl,λi x v hx=>by simp at hx⟩,λy hy=>by simp at hy⟩
 | f::fl,k,K,h,hg=>by
  unfold tF at h
  split at h
  ·rename_i ho;subst ho;obtain⟨xs,h1,h2,a⟩:=hg f (by simp);obtain⟨xss,a1,a2,a3⟩:=KD h λf' hf'=>hg f' (by simp[hf']);have b:=A0 h;refine⟨xs::xss,⟨a,a1⟩,?_,λy hy=>?_⟩
   ·have e:(cs.drop f.offset).take (K - f.offset)=(cs.drop f.offset).take (P.cellsOf f.type)++(cs.drop (f.offset+P.cellsOf f.type)).take (K - (f.offset+P.cellsOf f.type)):=by rw[show K - f.offset=P.cellsOf f.type+(K - (f.offset+P.cellsOf f.type)) by omega,List.take_add,RI]
    rw[e,Sa];exact h1.append a2
   ·rw[Sa,Q0]at hy;rcases hy with hy|hy
    ·exact h2 y hy
    ·exact a3 y hy
  ·cases h
theorem Gf{n:Nat}{e:TypeId}{cs:List Value}:∀{m k:Nat},
  (∀i,i<m->∃xs,CP P w n e xs ((cs.drop ((k+i)*P.cellsOf e)).take (P.cellsOf e))) ->
  ∃xss:List (List AV),xss.length=m/\(∀ys∈xss,Sh P n e ys)/\RVs0 w xss.flatten ((cs.drop (k*P.cellsOf e)).take (m*P.cellsOf e))/\∀y∈xss.flatten,y.one=true/\Closed y
 |0,k,_=>⟨[],rfl,λy hy=>by simp at hy,by rw[Tj,TA];exact⟨rfl,λi x v hx=>by simp at hx⟩,λy hy=>by simp at hy⟩
 | m+1,k,hg=>by
  obtain⟨xs,h1,h2,h⟩:=hg 0 (by omega);rw[R7]at h1;obtain⟨xss,a0,a1,a2,a3⟩:=Gf (m:=m) (k:=k+1) λi hi=>by have:=hg (i+1) (by omega);rwa [show k+(i+1)=k+1+i by omega]at this
  refine⟨xs::xss,by simp[a0],λys hy=>?_,?_,λy hy=>?_⟩
  ·rcases Q8.1 hy with rfl|hy
   ·exact h
   ·exact a1 ys hy
  ·have e:(cs.drop (k*P.cellsOf e)).take ((m+1)*P.cellsOf e)=(cs.drop (k*P.cellsOf e)).take (P.cellsOf e)++(cs.drop ((k+1)*P.cellsOf e)).take (m*P.cellsOf e):=by rw[show (m+1)*P.cellsOf e=P.cellsOf e+m*P.cellsOf e by rw[QR];omega,List.take_add,RI,QR,RB]
   rw[e,Sa];exact h1.append a2
  ·rw[Sa,Q0]at hy;rcases hy with hy|hy
   ·exact h2 y hy
   ·exact a3 y hy
theorem zc:∀(n:Nat) (t:TypeId),rI P n t=true->∀(fuel:Nat) (cs:List Value) (x:DataW H×List MemPlace),DataW.trod enc P w 0 (λ_=>true) true fuel t cs=some x->∃xs,CP P w n t xs cs:=by
 intro n
 induction n with
 |zero=>intro t h;simp[rI]at h
 | succ n ih =>
  intro t h fuel cs x hx;unfold rI at h
  split at h
  ·rename_i hu;obtain⟨b,rfl,-⟩:=DataW.trod_bool hu hx;refine⟨[.bool b],⟨rfl,λi x v h1 h2=>?_⟩,λy hy=>?_,?_⟩
   ·cases i with
    |zero=>simp at h1 h2;subst h1;subst h2;exact .bool _ _
    |succ i=>simp at h1
   ·simp at hy;subst hy;exact⟨rfl,.bool _⟩
   ·unfold Sh;rw[hu];exact⟨b,rfl⟩
  ·rename_i k hu;obtain⟨z,rfl,-,M⟩:=DataW.trod_int hu hx;refine⟨[.int k z],⟨rfl,λi x v h1 h2=>?_⟩,λy hy=>?_,?_⟩
   ·cases i with
    |zero=>simp at h1 h2;subst h1;subst h2;exact .int _ _ _
    |succ i=>simp at h1
   ·simp at hy;subst hy;exact⟨rfl,.int _ _⟩
   ·unfold Sh;rw[hu];exact⟨z,rfl,M⟩
  ·rename_i e hu;rw[Qy,QQ]at h;obtain⟨B,hp⟩:=h;rcases DataW.trod_slice hu hx with⟨rfl,-⟩|⟨a,len,cap,elems,rest,m,-,rfl,-,-,K,S,O,r,-,-⟩
   ·refine⟨[.nils],⟨rfl,λi x v h1 h2=>?_⟩,λy hy=>?_,?_⟩
    ·cases i with
     |zero=>simp at h1 h2;subst h1;subst h2;exact .nils _
     |succ i=>simp at h1
    ·simp at hy;subst hy;exact⟨rfl,.nils⟩
    ·unfold Sh;rw[hu];exact .inl rfl
   ·have each:∀i,i<len->∃xs vs,w.cells? 0 (a.add (i*P.cellsOf e)) (P.cellsOf e)=some vs/\CP P w n e xs vs:=by intro i hi;have:=r i hi;rw[Qu (show i<elems.length by omega),Option.bind_eq_some_iff]at this;obtain⟨vs,h1,h2⟩:=this;obtain⟨xs,hg⟩:=ih e hp _ _ _ h2;exact⟨xs,vs,h1,hg⟩
    let rowf:Nat->List AV:=λi=>if hi:i<len then Classical.choose (each i hi) else []
    let valf:Nat->List Value:=λi=>if hi:i<len then Classical.choose (Classical.choose_spec (each i hi)) else []
    have c:∀i,i<len->w.cells? 0 (a.add (i*P.cellsOf e)) (P.cellsOf e)=some (valf i)/\CP P w n e (rowf i) (valf i):=by intro i hi;have:=Classical.choose_spec (Classical.choose_spec (each i hi));simpa only[rowf,valf,dif_pos hi] using this
    have d:∀(i:Nat) (row:List AV),((List.range len).map rowf)[i]?=some row->i<len/\row=rowf i:=by
     intro i row h1;rw[Qx]at h1;rcases RX i len with hi|hi
     ·rw[S3 hi]at h1;injection h1 with h1;exact⟨hi,h1.symm⟩
     ·rw[Sq (by simpa using hi)]at h1;cases h1
    refine⟨[.tsl 0 (P.cellsOf e) ((List.range len).map rowf)],⟨rfl,λi x v h1 h2=>?_⟩,λy hy=>?_,?_⟩
    ·cases i with
     |succ i=>simp at h1
     | zero =>
      simp at h1 h2;subst h1;subst h2;rcases Nat.eq_zero_or_pos len with h0|h0
      ·subst h0;exact .tnil 0 0 _ a cap (Qv _)
      ·obtain⟨b,o,spot⟩:=a;have E:=World.cells?_some (c 0 h0).1;have L:(valf 0)[0]?=some (valf 0)[0]:=Qu (by rw[E.2.1];exact B);have C:=E.2.2 0 B;rw[L]at C;have D:spot=none:=by simpa [Addr.add] using World.cell?_spot C
       subst D;have cellat:∀i j row x,((List.range len).map rowf)[i]?=some row->row[j]?=some x->∃v,(valf i)[j]?=some v/\w.cell? (adr b (o+i*P.cellsOf e+j))=some v/\RV w gm0 av0 0 x v:=by
        intro i j row x hr l;obtain⟨hi,rfl⟩:=d i row hr;obtain⟨q1,q2⟩:=c i hi;have T:j<(rowf i).length:=(Qt.1 l).1;have u:j<(valf i).length:=by rw[<-q2.1.1];exact T
        have F:=World.cells?_some q1;have p:=F.2.2 j (by rw[<-F.2.1];exact u);rw[Qu u]at p;refine⟨_,Qu u,?_,q2.1.2 j x _ l (Qu u)⟩;rw[Gd,show adr b (o+i*P.cellsOf e)=(⟨b,o+i*P.cellsOf e,none⟩:Addr) from rfl,Gd]at p;exact p
       have hb:b<w.heap.size:=by have:=Fo C;simpa [Addr.add] using this
       have G:((List.range len).map rowf).length=len:=by simp
       have key:=RV.tsl (w:=w) (γ:=gm0) (A:=av0) 0 0 (P.cellsOf e) ((List.range len).map rowf) b o cap (λi j=>(valf i)[j]?.getD undef) (Qv _) (by rw[G];exact K) hb (OD b) (λh=>h)
        (λi row hr=>by
         obtain⟨hi,rfl⟩:=d i row hr;obtain⟨q1,q2⟩:=c i hi;rw[q2.1.1,(World.cells?_some q1).2.1])
        (λi j row x hr l=>by
         obtain⟨hi,rfl⟩:=d i row hr;exact ((c i hi).2.2.1 x (Qz l)).1)
        (λi j row x hr l=>by
         obtain⟨v,N,Q,R⟩:=cellat i j row x hr l;rw[Q,N];rfl)
        (λi j row x hr l=>by
         obtain⟨v,N,Q,R⟩:=cellat i j row x hr l;rw[N];exact R)
        (λrow hr x hx=>by
         obtain⟨i,hi⟩:=QO hr;obtain⟨s,rfl⟩:=d i row hi;exact ((c i s).2.2.1 x hx).2)
       rw[G]at key;exact key
    ·simp only[Rg]at hy;subst hy;refine⟨rfl,.tsl _ _ _ λrow hr x hx=>?_⟩;obtain⟨i,hi⟩:=QO hr;obtain⟨s,rfl⟩:=d i row hi;exact ((c i s).2.2.1 x hx).2
    ·unfold Sh;rw[hu];refine .inr ⟨_,rfl,?_,λrow hr=>?_⟩
     ·rw[QJ,List.length_range];have:maxLen<9223372036854775808:=by decide
      omega
     ·obtain⟨i,hi⟩:=QO hr;obtain⟨s,rfl⟩:=d i row hi;exact (c i s).2.2.2
  ·rename_i fs hu;rw[Qy]at h;obtain⟨hc,hp⟩:=h;have hc:tF P fs.toList 0=some (P.cellsOf t):=eq_of_beq hc;obtain⟨ys,m,-,-,hl,I,r⟩:=DataW.trod_struct hu hx;obtain⟨xss,a1,a2,a3⟩:=KD (w:=w) (n:=n) (cs:=cs) hc λf hf=>by
    obtain⟨i,hi,e⟩:=RU.1 hf;have J:fs[i]?=some f:=by rw[<-Td,Qu hi,e]
    have:=r i f J;rw[Qu (show i<ys.length by rw[I];simpa using hi)]at this;exact ih f.type (QS.1 hp f hf) _ _ _ this
   rw[Sz,SN,<-hl,Q4]at a2;refine⟨xss.flatten,a2,a3,?_⟩;unfold Sh;rw[hu];exact⟨xss,rfl,a1⟩
  ·rename_i m e hu;rw[Qy,QQ]at h;obtain⟨hc,hp⟩:=h;obtain⟨ys,q,-,-,hl,I,r⟩:=DataW.trod_array hu hx;obtain⟨xss,a0,a1,a2,a3⟩:=Gf (w:=w) (n:=n) (e:=e) (cs:=cs) (m:=m) (k:=0) λi hi=>by have:=r i hi;rw[Qu (show i<ys.length by omega)]at this;rw[Rc];exact ih e hp _ _ _ this
   rw[Tj,Sz,hc,<-hl,Q4]at a2;refine⟨xss.flatten,a2,a3,?_⟩;unfold Sh;rw[hu];exact⟨xss,rfl,a0,a1⟩
  ·cases h
theorem Cv{n:Nat}{t:TypeId}{xs:List AV}(hu:P.underlying t=some (.int .i64))(h:Sh P n t xs):∃x:Int,Rp.rp NoP 0 .nil x xs:=by
 cases n with
 |zero=>exact h.elim
 | succ n =>
  unfold Sh at h;rw[hu]at h;obtain⟨z,rfl,-⟩:=h;exact⟨z,aI.2 rfl⟩
theorem jI{n:Nat}{t:TypeId}{xs:List AV}(hu:P.underlying t=some (.int .u8))(h:Sh P n t xs):∃x:UInt8,Rp.rp NoP 0 .nil x xs:=by
 cases n with
 |zero=>exact h.elim
 | succ n =>
  unfold Sh at h;rw[hu]at h;obtain⟨z,rfl,hw⟩:=h;simp only[Lit.wf,IntKind.min,IntKind.max,IntKind.signed,IntKind.bits,Qy]at hw;refine⟨UInt8.ofNat z.toNat,dL.2 ?_⟩;have h1:0<=z:=by simpa using hw.1
  have h2:z<=255:=by simpa using hw.2
  have k:(UInt8.ofNat z.toNat).toNat=z.toNat:=UInt8.toNat_ofNat_of_lt' (by show z.toNat<256;omega);rw[k,Int.toNat_of_nonneg h1]
theorem xX{α:Type} [Rp α]{n:Nat}{t e:TypeId}{xs:List AV}(hu:P.underlying t=some (.slice e))(hsz:P.cellsOf e=Rp.sz α)(hel:∀ys,Sh P n e ys->∃y:α,Rp.rp NoP 0 .nil y ys)(h:Sh P (n+1) t xs) :
  ∃l:List α,Rp.rp NoP 0 .nil l xs:=by
 unfold Sh at h;rw[hu]at h;rcases h with rfl|⟨rows,rfl,hl,hr⟩
 ·exact⟨[],.nils,rfl,by simp,rfl⟩
 ·have:∀rows:List (List AV),(∀row∈rows,Sh P n e row)->∃l:List α,All2 (Rp.rp NoP 0 .nil) l rows:=by
   intro rows
   induction rows with
   |nil=>intro _;exact⟨[],trivial⟩
   | cons r rows ih =>
    intro h;obtain⟨y,k⟩:=hel r (h r (by simp));obtain⟨l,hl⟩:=ih λrow hrow=>h row (by simp[hrow]);exact⟨y::l,k,hl⟩
  obtain⟨l,ha⟩:=this rows hr;exact⟨l,_,rfl,by rw[ha.len];exact hl,Qv _,.inl hsz,ha⟩
theorem Ey{n m:Nat}{t e:TypeId}{xs:List AV}(hu:P.underlying t=some (.array m e))(h:Sh P (n+1) t xs):∃xss:List (List AV),xs=xss.flatten/\xss.length=m/\∀ys∈xss,Sh P n e ys:=by unfold Sh at h;rw[hu]at h;exact h
theorem sL{n:Nat}{t:TypeId}{fs:Array Field}{xs:List AV}(hu:P.underlying t=some (.struct fs))(h:Sh P (n+1) t xs):∃xss,xs=xss.flatten/\All2 (λ(f:Field) ys=>Sh P n f.type ys) fs.toList xss:=by unfold Sh at h;rw[hu]at h;exact h
end Hx
end
namespace Hx
open Go
noncomputable section
variable {g:G}{e L:List Int}{d k j q s:Nat}{n:Net}{t:T}{v a b gr z:Int}{w ev u bb:AV}{K KP:AV->G->Prop}{P:Nat->Prop}
end
end Hx
