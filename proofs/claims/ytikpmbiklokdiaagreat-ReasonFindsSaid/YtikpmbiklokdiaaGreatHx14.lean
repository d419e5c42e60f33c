/- A part of the proof. -/
import Derived.Shelf.Lays2
import Derived.Test.YtikpmbiklokdiaaGreatRows
import Derived.Shelf.SlSortCmp.Whole1
import Derived.Shelf.SlGeneric
import Derived.Shelf.SlLaysF
import Derived.Test.YtikpmbiklokdiaaGreatHx13
set_option linter.all false
set_option maxRecDepth 20000
set_option maxHeartbeats 8000000
namespace Hx
open Go
noncomputable section
variable {g:G}{d k a ks s q vn kn j f:Nat}{e:List Int}{n:Zv}{bn bd v gr value:Int}{K KP:AV->G->Prop}{b ev w u:AV}{t:T}{D:ZU->Prop}{x:Bool}
theorem LS.upd{L:List Node}{J:Nat}{x x':Node}(hx:L[J]?=some x)(hl:x'.rows.length=x.rows.length){k:Ky}(h:LS (L.set J x') k):LS L k:=by
 rcases h with h|⟨i,q,z,h,hz,hq⟩
 ·exact .inl h
 ·rw[VY]at hz
  by_cases e:J=i
  ·subst e;rw[ZN rfl]at hz
   split at hz
   ·injection hz with hz;subst hz;exact .inr ⟨J,q,x,h,hx,by omega⟩
   ·cases hz
  ·rw[ZF e]at hz;exact .inr ⟨i,q,z,h,hz,hq⟩
theorem QL.upd{K J:Nat}{L:List Node}{V:Ky->AV}{E:Ky->En}{rows:List (List AV)}{x':Node}(hO:UK K L J V E rows)(e0:E (0,0)=.sl 3 rows)(hrow:rows[J]?=some (oa V J x'.Z5))(hnd:Ql K V E J x'):QL K V E (L.set J x'):=by
 refine⟨⟨rows,e0,by simp[hO.len],λi z hz=>?_⟩,λi z hz=>?_⟩
 ·rw[VY]at hz
  by_cases e:J=i
  ·subst e;rw[ZN rfl]at hz
   split at hz
   ·injection hz with hz;subst hz;exact hrow
   ·cases hz
  ·rw[ZF e]at hz;exact hO.ns i z (Vw e) hz
 ·rw[VY]at hz
  by_cases e:J=i
  ·subst e;rw[ZN rfl]at hz
   split at hz
   ·injection hz with hz;subst hz;exact hnd
   ·cases hz
  ·rw[ZF e]at hz;exact hO.nd i z (Vw e) hz
def Node.wr(x:Node)(r:Nat)(y:List Int):Node:=⟨x.Z5,x.Z9,x.rows.set r y⟩
abbrev LBS (W:AV)(J:Nat)(Rw:Int):List (Nat×AV):=[(2,ZZ 0),(3,ZZ 1),(4,ZZ 2),(10,mA 3 W J 0),(11,Z_ Rw)]
section
variable {d K J r:Nat}{L:List Node}{x:Node}{bx:po}{gr Rw:Int}{t t':T}{g gb:G}{V:Ky->AV}{E:Ky->En}{Q:QT}{y y':List Int}
theorem BS.put(hS:BS K J L x bx gr (r:Int) t g V E)(hy:x.rows[r]?=some y)(hHb:Hp gb 3 (LS L) V (ups E (J+1,2+r) (.sl 1 (y'.map ci))))(frb:∀i,i<3->gb.h.get i=g.h.get i)(hyl:y'.length<=K)(st:St t' (LBS (V (0,0)) J (r:Int))) :
  BS K J (L.set J (x.wr r y')) (x.wr r y') bx gr (r:Int) t' gb V (ups E (J+1,2+r) (.sl 1 (y'.map ci))):=by
 obtain⟨rows,a⟩:=hS.bt;obtain⟨Zw,hW⟩:=hS.bw;have hr:=(tI.1 hy).1;have c:=hW.at_ r y hy;have d:=(tI.1 hS.hx).1;have b:=JE (r:=r) (V':=V) (E':=ups E (J+1,2+r) (.sl 1 (y'.map ci))) (y':=y') a.nd hW.at_ hW.len hr (ac) (by rw[ac,hW.e1,BC c]) (au _ _ _) (λ_ _=>rfl) (λq hq=>ac) hyl;have hl:(x.wr r y').rows.length=x.rows.length:=by simp[Node.wr]
 refine⟨st,hHb.sub λk hk=>LS.upd hS.hx hl hk,by rw[frb 0 (by omega)];exact hS.f0,by rw[frb 1 (by omega)];exact hS.f1,by rw[frb 2 (by omega)];exact hS.f2,QL.upd a.Xt.e (by rw[ac];exact a.e0) a.row b,by rw[J5 d],.inr ⟨r,rfl,by omega⟩,hS.hK,by simpa using hS.hl⟩
theorem BS.mv(hS:BS K J L x bx gr Rw t g V E)(hh:gb.h=g.h)(hn:g.nx<=gb.nx)(st:St t' (LBS (V (0,0)) J Rw)):BS K J L x bx gr Rw t' gb V E :=⟨st,hS.hp.same hh hn,by rw[hh];exact hS.f0,by rw[hh];exact hS.f1,by rw[hh];exact hS.f2,hS.bl,hS.hx,hS.hR,hS.hK,hS.hl⟩
structure BR (x:Node) (J r:Nat) (y:List Int) (g:G) (V:Ky->AV) (E:Ky->En) (Zw:List (List AV)):Prop where
 wr:ak g.h 1 (V (J+1,1))=some Zw
 rl:r<Zw.length
 P7:Zw[r]?=some [V (J+1,2+r)]
 ry:nq (V (J+1,1))=true
 yr:ak g.h 1 (V (J+1,2+r))=some (y.map ci)
 ye:E (J+1,2+r)=.sl 1 (y.map ci)
 yl:y.length<=K
theorem BS.br(hS:BS K J L x bx gr (r:Int) t g V E)(hy:x.rows[r]?=some y):∃Zw,BR (K:=K) x J r y g V E Zw:=by
 obtain⟨rows,a⟩:=hS.bt;obtain⟨Zw,hW⟩:=hS.bw;have hr:=(tI.1 hy).1;have k:r<Zw.length:=by have:=hW.len;omega
 have h:=a.nd.rr r y hy;exact⟨Zw,hW.own.rows,k,hW.at_ r y hy,ib hW.own (by omega),(hS.hp.own (LS.s hS.hx (by omega)) h).rows,h,a.nd.len.2.2 y (YH hy)⟩
theorem bc8[Z0](hS:BS K J L x bx gr Rw t g V E)(fin:AC Q) :
  wp C0 d none (sQ [oM 213 11,RW 214 .geq 213 0,oM 215 214,afK 216 215 true 10,og 217 215 true (.SX (.t 216)),afM 218 215 true 2 217,afL 219 215 true 218,afK 220 215 true 11,af5 221 215 true 1 219 220,afL 222 215 true 221,afP 223 215 true 222,afO 224 215 true .gtr 223 0,afI 225 215 224] (agb 225 (agc (.Q8 [0,1,3,7,0,0,32,96,224,0,992,2016,4064,8160,16383,32767] [oM 226 10,U3 227 226,oF 228 2 227,oL 229 228,oM 230 11,oM 231 10,U3 232 231,oF 233 2 232,oL 234 233,oM 235 11,oX 236 234 235,oL 237 236,oN 238 237,o 239 (.mks 1 8 [Z_ 0] (.t 238) (.t 238)),oX 240 229 230,Xr 1 240 239]) (.Q8 [0,1,3,7,0,31,63,0,128,511,1023] [oM 241 10,U3 242 241,oF 243 2 242,oL 244 243,oM 245 11,oX 246 244 245,oL 247 246,oF 248 0 3,oL 249 248,o 250 (.SG 1 (.t 247) (qI 0)),Xr 1 250 249])) (.skip))) Q t [] g:=by
 obtain⟨h2,m,h4,f,c,-⟩:=hS.st;obtain⟨rows,a⟩:=hS.bt;obtain⟨Zw,hW⟩:=hS.bw;have hK:=hS.hK;have hl:=hS.hl;have T:=hS.hp.nx;rcases hS.hR with⟨rfl,h0⟩|⟨r,rfl,hr⟩
 ·simp only[sz,simprocAttr,c];exact hS.fin0 fin (by simp[sx,m]) (by simp[sx,h4])
 ·obtain⟨y,D⟩:∃y,x.rows[r]?=some y:=⟨_,Zq hr⟩;have l:=hW.at_ r y D;have B:LS L (J+1,2+r):=LS.s hS.hx (by omega);have N:=hS.hp.own B (a.nd.rr r y D);have O:=a.nd.len.2.2 y (YH D);have ly:=dq N.rows;rw[Ju]at ly;have j:r<Zw.length:=by have:=hW.len;omega
  have M:nq (V (J+1,1))=true:=ib hW.own (by omega);simp only[sz,simprocAttr,f,c,show decide ((r:Int) >= 0)=true from by simp,bY a.ry,co a.ry,a.own.rows,a.hlt,a.row,hW.own.rows,j,l,ly];refine ba (λhb=>?_) (λhb=>?_)
  ·have u:0<y.length:=by simpa using hb
   obtain⟨A,R⟩:∃A,A=SC.Q8 [0,1,3,7,0,31,63,0,128,511,1023] [oM 241 10,U3 242 241,oF 243 2 242,oL 244 243,oM 245 11,oX 246 244 245,oL 247 246,oF 248 0 3,oL 249 248,o 250 (.SG 1 (.t 247) (qI 0)),Xr 1 250 249]:=⟨_,rfl⟩;rw[<-R];refine gv (P:=λt' df g'=>df=[]/\∃L' x' V' E',BS K J L' x' bx gr (r:Int) t' g' V' E'/\x'.rows[r]?=some (List.replicate y.length 0)) ?_ ?_
   ·simp only[sz,simprocAttr,sf,f,c,bY a.ry,co a.ry,a.own.rows,a.hlt,a.row,hW.own.rows,j,l,ly];refine qp (b:=3) (n:=y.length) (by unfold aQ;omega) (by unfold aQ;omega) (by first| (simp;done)| (simp;omega)) λW ga hWo na fra vW lga=>?_;simp only[sy]at na fra vW lga;have I:=(hS.hp.step (g':=G.mk g.h g.nx []) (ZV _) (λ_ _ _=>rfl)).set (g':=ga) (k:=(J+1,2+r)) (v':=W) (e':=.sl 1 ((List.replicate y.length (0:Int)).map ci)) B (by rw[List.map_replicate];exact hWo) (by show g.nx<=ga.nx;omega) (λi _ hi _=>fra i (by have hi:i<g.nx:=hi;omega)) (.inr ⟨_,by rw[cU hWo];exact vW,by show g.nx<=_;omega⟩);have F:ups V (J+1,2+r) W (J+1,1)=V (J+1,1):=ac;have H:ups E (J+1,2+r) (.sl 1 ((List.replicate y.length (0:Int)).map ci)) (J+1,1)=.sl 1 Zw:=by rw[ac];exact hW.e1
    have rwa:ak ga.h 1 (V (J+1,1))=some Zw:=by rw[<-F];exact (I.own (LS.s hS.hx (by omega)) H).rows
    simp only[sz,simprocAttr,sf,rwa,j];refine (I.same (g':=_) (by simp) (by simp<;>omega)).putv (k:=(J+1,1)) (i:=r) (off:=0) (n:=1) (LS.s hS.hx (by omega)) F (row':=[W]) H l (by rw[hWo.cell.1];rfl) hWo.cell.2 (by rw[hWo.cell.1];rfl) λgb hHb nb frb fob=>?_;simp only[sy]at nb frb fob ⊢;refine⟨?_,L.set J (x.wr r (List.replicate y.length 0)),x.wr r (List.replicate y.length 0),_,_,⟨?_,(hHb.same (g':=_) (by simp) (by simp<;>omega)).sub λk hk=>LS.upd hS.hx (by simp[Node.wr]) hk,?_,?_,?_,QL.upd a.Xt.v.e.e ?_ ?_ ?_,by rw[J5 (tI.1 hS.hx).1],.inr ⟨r,rfl,by simpa [Node.wr] using hr⟩,hK,by simpa using hl⟩,by simp[Node.wr,hr]⟩
    ·simp only[I9,Nq,DI,ML];refine aK (false::(JO (Zb (true::(false::(true::[])))))) [(0,13),(1,13),(2,13),(3,13),(4,13)] (by simp[ZL,am,aA]) (by decide) ?_;have ro1:=a.own.refs_lt;rintro p hp x y hx D;simp only[Y0,QA,TP]at hp;rcases hp with rfl|rfl|rfl|rfl|rfl<;>(simp at hx D;subst hx;subst D;refine dP rfl rfl rfl rfl ?_ ?_ ?_<;>simp[am,aA,nk a.ry,lga]<;>first|omega| (intro h;have:=ro1 _ h;omega)| (intro i' z e;have:=ro1 i' z;omega)| (intro i' z;have:=ro1 i' z;omega)|skip)
    ·simp[St,sx,h2,m,h4,f,c,ac]
    ·simp only[Zx];rw[frb 0 (by omega)];(try simp);rw[fra 0 (by omega),hS.f0]
    ·simp only[Zx];rw[frb 1 (by omega),ac];(try simp);rw[fra 1 (by omega),hS.f1]
    ·simp only[Zx];rw[frb 2 (by omega)];(try simp);rw[fra 2 (by omega),hS.f2]
    ·rw[ac,ac,a.e0]
    ·rw[oa,ac,ac];exact a.row
    ·exact JE (r:=r) (y':=List.replicate y.length 0) a.nd hW.at_ hW.len hr (by rw[ac,ac]) (by rw[au,au]) (by rw[ac,au]) (λq hq=>ac) (λq hq=>by rw[ac,ac]) (by simpa using O)
   clear h2 m h4 f c a hW B N hS l j M;rintro t df g2 ⟨rfl,L',x',V',E',hS,C⟩;rw[R];obtain⟨h2,m,h4,f,c,-⟩:=hS.st;obtain⟨rows,a⟩:=hS.bt;obtain⟨Zw,hR⟩:=hS.br C;have U:0<((List.replicate y.length (0:Int)).map ci).length:=by simpa using u
   have X:((List.replicate y.length (0:Int)).map ci)[0]?=some (ci 0):=by simp[u]
   have u3:=hR.yr;have Y:=hR.rl;simp only[sz,simprocAttr,sf,m,f,c,hS.f1,bY a.ry,co a.ry,a.own.rows,a.hlt,a.row,hR.wr,Y,hR.P7,Lf u3 U];refine (hS.hp.same (g':=_) (by simp) (by simp<;>omega)).put (k:=(J+1,2+r)) (i:=0) (off:=0) (n:=1) (row:=ci 0) (row':=ci gr) (LS.s hS.hx (by have:=(tI.1 C).1;omega)) hR.ye X rfl rfl rfl λgb hHb nb frb fob=>?_;simp only[sy]at nb frb fob ⊢;refine⟨?_,?_⟩
   ·simp only[I9,Nq,DI,ML];exact aK (Vk (Zb (true::[]))) [] (by simp[ZL,am,aA]) (by decide) (by simp)
   rw[<-MO]at hHb;have w:=hS.put (t':=t) C (hHb.same (g':=G.mk gb.h gb.nx []) rfl (ZV _)) (λi hi=>by have:=frb i hi;simpa using this) (by simpa using hR.yl) (by simp[St,h2,m,h4,f,c]);exact fin _ _ gr _ _ (by simp[sx,m]) (by simp[sx,h4]) (by simpa using w.f1) (by simpa using w.f2) (w.sl.heap (by simp))
  ·simp only[sx];exact hS.fin0 fin (by simp[sx,m]) (by simp[sx,h4])
theorem bj7[Z0]{n:Nat}(hn:n<=1000000)(hy0:y.length=n)(hyr:x.rows[r]?=some y)(hS:BS K J L x bx gr (r:Int) t g V E)(h12:ZY t 12=Z_ 0)(h13:ZY t 13=Z_ ((n:Int) - 1))
  (fin:∀t g L x E,BS K J L x bx gr (r:Int) t g V E->Q (.exit 5) t [] g):Uk (wp C0 d none fR) Q t [] g:=by
 obtain⟨FR,q⟩:∃FR,FR=SC.Q8 [0,1,3,7,0,31,63,0,0,256,768,1792,0,7936,16128,0,65280,130816,262143,524287] [oM 279 10,U3 280 279,oF 281 2 280,oL 282 281,oM 283 11,oX 284 282 283,oL 285 284,oM 286 12,oM 287 10,U3 288 287,oF 289 2 288,oL 290 289,oM 291 11,oX 292 290 291,oL 293 292,oM 294 13,oX 295 293 294,oL 296 295,oX 297 285 286,Xr 1 297 296]:=⟨_,rfl⟩;simp only[fR,ZQ];rw[<-q];refine bh (n / 2) (by omega) (λj t df g=>df=[]/\∃L x y E,BS K J L x bx gr (r:Int) t g V E/\x.rows[r]?=some y/\y.length=n/\ZY t 13=Z_ ((n:Int) - 1 - (j:Int)))
  ⟨rfl,L,x,y,E,hS,hyr,hy0,by simp[h13]⟩ h12 (by decide) ?_ ?_ ?_ ?_
 ·rintro j t df g v s (rfl|rfl|rfl) ⟨rfl,L,x,y,E,hS,h⟩<;>exact⟨rfl,L,x,y,E,⟨by have:=hS.st;simpa [St,sx] using this,hS.hp,hS.f0,hS.f1,hS.f2,hS.bl,hS.hx,hS.hR,hS.hK,hS.hl⟩,by simpa [sx] using h⟩
 ·rintro j t df g F ⟨rfl,L,x,y,E,hS,hyr,p,h13⟩ h12;simp only[sz,simprocAttr,h12,h13];refine⟨by congr 1;exact decide_eq_decide.2 (by omega),⟨L,x,y,E,⟨by have:=hS.st;simpa [St,sx] using this,hS.hp,hS.f0,hS.f1,hS.f2,hS.bl,hS.hx,hS.hR,hS.hK,hS.hl⟩,hyr,p⟩⟩
 ·rintro j t df g F ⟨rfl,L,x,y,E,hS,hyr,p,h13⟩ h12;have hk:((n:Int) - 1 - (j:Int))=((n - 1 - j:Nat):Int):=by omega
  rw[hk]at h13;obtain⟨z,hz⟩:∃z,y[j]?=some z:=⟨_,Zq (by omega)⟩;obtain⟨z',B⟩:∃z,y[n - 1 - j]?=some z:=⟨_,Zq (by omega)⟩;refine gv (P:=λt' df g'=>df=[]/\g'=g/\BS K J L x bx gr (r:Int) t' g V E/\St t' [(12,Z_ (j:Int)),(13,Z_ ((n - 1 - j:Nat):Int)),(14,Z_ z)]) ?_ ?_
  ·obtain⟨h2,m,h4,b,c,-⟩:=hS.st;obtain⟨rows,e⟩:=hS.bt;obtain⟨Zw,hR⟩:=hS.br hyr;have A:j<(y.map ci).length:=by simp;omega
   have C:(y.map ci)[j]?=some (ci z):=by rw[Zy,hz];rfl
   have l:=u7 hR.yr A;simp only[sz,simprocAttr,b,c,h12,bY e.ry,co e.ry,e.own.rows,e.hlt,e.row,hR.wr,hR.rl,hR.P7,hR.yr,A,C,ci];exact⟨⟨by simp[St,sx,h2,m,h4,b,c],hS.hp,hS.f0,hS.f1,hS.f2,hS.bl,hS.hx,hS.hR,hS.hK,hS.hl⟩,by simp[St,sx,h12,h13]⟩
  clear hS h12 h13;rintro t df g1 ⟨rfl,rfl,hS,h12,h13,f,-⟩;rw[q];refine gv (P:=λt' df g'=>df=[]/\∃L x E,BS K J L x bx gr (r:Int) t' g' V E/\x.rows[r]?=some (y.set j z')/\St t' [(12,Z_ (j:Int)),(13,Z_ ((n - 1 - j:Nat):Int)),(14,Z_ z)]) ?_ ?_
  ·obtain⟨h2,m,h4,b,c,-⟩:=hS.st;obtain⟨rows,e⟩:=hS.bt;obtain⟨Zw,hR⟩:=hS.br hyr;have A:j<(y.map ci).length:=by simp;omega
   have C:(y.map ci)[j]?=some (ci z):=by rw[Zy,hz];rfl
   have u3:n - 1 - j<(y.map ci).length:=by simp;omega
   have D:(y.map ci)[n - 1 - j]?=some (ci z'):=by rw[Zy,B];rfl
   have l:=u7 hR.yr A;have o:=hR.rl;simp only[sz,simprocAttr,sf,b,c,h12,h13,bY e.ry,co e.ry,e.own.rows,e.hlt,e.row,hR.wr,o,hR.P7,hR.yr,A,u3,D,ci];refine (hS.hp.same (g':=_) (by simp) (by simp;omega)).put (k:=(J+1,2+r)) (i:=j) (off:=0) (n:=1) (row:=ci z) (row':=ci z') (LS.s hS.hx (by have:=(tI.1 hyr).1;omega)) hR.ye C rfl rfl rfl λgb hHb nb frb fob=>?_;simp only[sy]at nb frb fob ⊢;rw[<-MO]at hHb;have a:=hS.put (t':=t) hyr (hHb.same (g':=G.mk gb.h gb.nx []) rfl (ZV _)) (λi hi=>by have:=frb i hi;simpa using this) (by simpa using hR.yl) (by simp[St,h2,m,h4,b,c]);refine⟨?_,_,_,_,a.mv (by simp) (by simp) (by simp[St,sx,h2,m,h4,b,c]),by simp[Node.wr,(tI.1 hyr).1],by simp[St,sx,h12,h13,f]⟩;simp only[I9,Nq,DI,ML];exact aK (false::(Vk (Zb (Zb (true::[]))))) [] (by simp[ZL,am,aA]) (by decide) (by simp)
  clear hS h12 h13 f hyr;rintro t df g2 ⟨rfl,L,x,E,hS,hyr,h12,h13,f,-⟩;refine gv (P:=λt' df g'=>df=[]/\∃L x E,BS K J L x bx gr (r:Int) t' g' V E/\x.rows[r]?=some ((y.set j z').set (n - 1 - j) z)/\St t' [(12,Z_ (j:Int)),(13,Z_ ((n - 1 - j:Nat):Int))]) ?_ ?_
  ·obtain⟨h2,m,h4,b,c,-⟩:=hS.st;obtain⟨rows,e⟩:=hS.bt;obtain⟨Zw,hR⟩:=hS.br hyr;have u3:n - 1 - j<((y.set j z').map ci).length:=by simp;omega
   obtain⟨w,hw⟩:∃w,(y.set j z')[n - 1 - j]?=some w:=⟨_,Zq (by simp;omega)⟩;have D:((y.set j z').map ci)[n - 1 - j]?=some (ci w):=by rw[Zy,hw];rfl
   have l:=u7 hR.yr u3;have o:=hR.rl;have u:=hR.yr;simp only[sz,simprocAttr,b,c,h13,f,bY e.ry,co e.ry,e.own.rows,e.hlt,e.row,hR.wr,o,hR.P7,u,u3];refine hS.hp.put (k:=(J+1,2+r)) (i:=n - 1 - j) (off:=0) (n:=1) (row:=ci w) (row':=ci z) (LS.s hS.hx (by have:=(tI.1 hyr).1;omega)) hR.ye D rfl rfl rfl λgb hHb nb frb fob=>?_;simp only[sx,sy];rw[<-MO]at hHb;have a:=hS.put (t':=t) hyr hHb frb (by simpa using hR.yl) (by simp[St,h2,m,h4,b,c]);exact⟨_,_,_,⟨by simp[St,sx,h2,m,h4,b,c],a.hp,a.f0,a.f1,a.f2,a.bl,a.hx,a.hR,a.hK,a.hl⟩,by simp[Node.wr,(tI.1 hyr).1],by simp[St,sx,h12,h13]⟩
  clear hS h12 h13 f hyr;rintro t df g3 ⟨rfl,L,x,E,hS,hyr,h12,h13,-⟩;simp only[sz,simprocAttr,h12,h13];refine⟨L,x,(y.set j z').set (n - 1 - j) z,E,hS.mv rfl (ZV _) (by have:=hS.st;simpa [St,sx] using this),hyr,by simp[p],?_⟩;rw[aq];congr 1;omega
 ·rintro t df g ⟨rfl,L,x,y,E,hS,-⟩;exact fin t g L x E hS
theorem bc9[Z0](hS:BS K J L x bx gr Rw t g V E)(fin:AC λe t df g=>Q e t df g) :
  wp C0 d none (sQ [oM 253 11,RW 254 .geq 253 0] (agb 254 (agc (.quiet [oM 255 10,U3 256 255,oF 257 2 256,oL 258 257,oM 259 11,oX 260 258 259,oL 261 260,oN 262 261,RW 263 .sub 262 1,oK 12 0,oM 13 263]) (.blk 5 (.loop fR))) (.skip))) Q t [] g:=by
 obtain⟨h2,c,h4,a,k,-⟩:=hS.st;obtain⟨rows,b⟩:=hS.bt;rcases hS.hR with⟨rfl,h0⟩|⟨r,rfl,hr⟩
 ·simp only[sx,SO.run,↓reduceIte,k];exact⟨λh=>by simp at h,λ_=>hS.fin0 fin (by simp[sx,c]) (by simp[sx,h4])⟩
 ·simp only[sx,SO.run,↓reduceIte,k];refine⟨λ_=>?_,λh=>by simp at h⟩;obtain⟨y,f⟩:∃y,x.rows[r]?=some y:=⟨_,Zq hr⟩;obtain⟨Zw,hR⟩:=hS.br f;have ly:=dq hR.yr;rw[Ju]at ly;have i:=hR.yl;have hK:=hS.hK;have w9:IntKind.wrap .i64 ((y.length:Int) - 1)=(y.length:Int) - 1:=aq;simp only[sx,sy,SO.run,↓reduceIte,Nat.reduceEqDiff,a,k,bY b.ry,co b.ry,b.own.rows,b.hlt,b.row,hR.wr,hR.rl,hR.P7,ly,w9,adq,Ns];refine bj7 (n:=y.length) (L:=L) (x:=x) (y:=y) (E:=E) (by omega) rfl f ⟨by simp[St,sx,h2,c,h4,a,k],hS.hp,hS.f0,hS.f1,hS.f2,hS.bl,hS.hx,hS.hR,hS.hK,hS.hl⟩ (by simp[sx]) (by simp[sx]) ?_;intro t g L x E hS;obtain⟨h2,c,h4,a,k,-⟩:=hS.st;simp only[sx,↓reduceIte];exact hS.fin0 fin c h4
end
def UM:VS:=λP k h v=>∃m:Zv,True/\Zl m P k h v
theorem bj6:Qx UM 1:=o7 λm=>cH _
theorem bk5[Z0]{nv:AV}{nds:List Node}(h3:ZY t 3=ZZ 1)(h4:ZY t 4=ZZ 2)(e1:g.h.get 1=Z4 2 [[Z_ gr,nv]])(e2:g.h.get 2=Z4 2 [[Z_ 0,.Z6]])
  (hn:ZT P3 0 g.h nds nv):wp C0 d none fS (Xs C0 d [SR.cell true 2 4] λv g'=>∃P,UM P 0 g'.h v) t [] g:=by
 simp only[sz,simprocAttr,fS,h3,h4,e1,e2];refine⟨P3,⟨gr,nds⟩,trivial,_,rfl,?_⟩;exact Rp.mono (P:=P3) (h:=g.h) (fY.2 ⟨nv,rfl,hn⟩) (λi hi=>⟨hi,by rw[aF (by have:3<=i:=hi;omega)]⟩) (ZV _)
theorem bk6[Z0]{K J:Nat}{L:List Node}{x:Node}{bx:po}{Rw:Int}{V:Ky->AV}{E:Ky->En}{Q:QT}(hS:BS K J L x bx gr Rw t g V E)
  (last:AC (kB 4 (kS (wp C0 d none fS Q) Q))):wp C0 d none jp Q t [] g:=by
 have c:bx.1.toNat<256:=bx.1.toNat_lt;obtain⟨h2,b,h4,k,a,-⟩:=hS.st;have mv:∀{t':T},St t' (LBS (V (0,0)) J Rw)->BS K J L x bx gr Rw t' g V E:=λh=>hS.mv rfl (ZV _) h;simp only[sz,simprocAttr,jp,h2,hS.f0,Zt,gC .u8 (show (0:Int)<=(bx.1.toNat:Int) by omega) (show (0:Int)<12 by decide)];refine ba (λhb=>?_) (λhb=>?_)
 ·exact bc0 (mv (by simp[St,sx,h2,b,h4,k,a])) last
 simp only[sz,simprocAttr];refine ba (λhb=>?_) (λhb=>?_)
 ·exact bc1 (mv (by simp[St,sx,h2,b,h4,k,a])) last
 simp only[sz,simprocAttr];refine ba (λhb=>?_) (λhb=>?_)
 ·exact bc2 (mv (by simp[St,sx,h2,b,h4,k,a])) last
 simp only[sz,simprocAttr];refine ba (λhb=>?_) (λhb=>?_)
 ·exact bc3 (mv (by simp[St,sx,h2,b,h4,k,a])) last
 simp only[sz,simprocAttr];refine ba (λhb=>?_) (λhb=>?_)
 ·exact bc4 (mv (by simp[St,sx,h2,b,h4,k,a])) last
 simp only[sz,simprocAttr];refine ba (λhb=>?_) (λhb=>?_)
 ·exact bc5 (mv (by simp[St,sx,h2,b,h4,k,a])) last
 simp only[sz,simprocAttr];refine ba (λhb=>?_) (λhb=>?_)
 ·exact bc6 (mv (by simp[St,sx,h2,b,h4,k,a])) last
 simp only[sz,simprocAttr];refine ba (λhb=>?_) (λhb=>?_)
 ·exact bc7 (mv (by simp[St,sx,h2,b,h4,k,a])) last
 simp only[sz,simprocAttr];refine ba (λhb=>?_) (λhb=>?_)
 ·exact bc8 (mv (by simp[St,sx,h2,b,h4,k,a])) last
 simp only[sz,simprocAttr];refine ba (λhb=>?_) (λhb=>?_)
 ·exact bc9 (mv (by simp[St,sx,h2,b,h4,k,a])) last
 simp only[sz,simprocAttr];refine ba (λhb=>?_) (λhb=>?_)
 ·exact bj9 (mv (by simp[St,sx,h2,b,h4,k,a])) last
 exact bj8 (mv (by simp[St,sx,h2,b,h4,k,a])) last
theorem bk7[Z0]{K:Nat}{bx:po}{L:List Node}{V:Ky->AV}{E:Ky->En}(hK:K<=1000000)(hl:L.length<=K)
  (ht:St t [(2,ZZ 0),(3,ZZ 1),(4,ZZ 2)]) (h5:ZY t 5=V (0,0)) (hH:Hp g 3 (LS L) V E) (hB:TG g [Zt bx.1,Zt bx.2.1,Zt bx.2.2.1,Z_ bx.2.2.2] gr b) (hD:QL K V E L) :
  wp C0 d none jq (Xs C0 d [SR.cell true 2 4] λv g'=>∃P,UM P 0 g'.h v) t [] g:=by
 obtain⟨h2,a,h4,-⟩:=ht;obtain⟨q,b1,b2⟩:=hB;obtain⟨rows,e1,m,y⟩:=hD.ns;have o1:=hH.own LS.z e1;have len1:=dq o1.rows;rw[m]at len1;have p:=hH.nx;unfold jq;refine eK (P:=λt df g'=>df=[]/\Hp g' 3 (LS L) V E/\St t [(2,ZZ 0),(3,ZZ 1),(4,ZZ 2),(5,V (0,0))]/\g'.h.get 0=Z4 4 [[Zt bx.1,Zt bx.2.1,Zt bx.2.2.1,Z_ bx.2.2.2]]/\g'.h.get 1=Z4 2 [[Z_ gr,V (0,0)]]/\g'.h.get 2=Z4 2 [[Z_ 0,.Z6]]) ?_ ?_
 ·simp only[sz,simprocAttr,a,h5,b1,o1.cell.1,o1.cell.2];exact⟨hH.step (by simp) λi hi _=>by simp[Za];omega,by simp[St,sx,h2,a,h4,h5],by simp[q],by simp[b2]⟩
 clear q b1 b2 h2 a h4 h5 hH o1 p;rintro t df g1 hg;obtain⟨rfl,hH,⟨h2,a,h4,h5,-⟩,f0,f1,f2⟩:=hg;have o1:=hH.own LS.z e1;have ZG:=hD.sl hH (by omega) (by omega);simp only[sz,simprocAttr,h5,len1];refine ba (λhb=>?_) (λhb=>?_)
 ·simp only[sz,simprocAttr,a,h4,f1,f2];refine⟨P3,⟨gr,L⟩,trivial,_,rfl,?_⟩;exact Rp.mono (P:=P3) (h:=g1.h) (fY.2 ⟨_,rfl,ZG⟩) (λi hi=>⟨hi,by rw[aF (by have:3<=i:=hi;omega)]⟩) (ZV _)
 have o:0<L.length:=by have:=ad7 hb;omega
 have at8:bx.2.1.toNat<256:=bx.2.1.toNat_lt;have em:((bx.2.1.toNat:Int) % (L.length:Int))=((bx.2.1.toNat % L.length:Nat):Int):=by omega
 have u:bx.2.1.toNat % L.length<L.length:=US _ o;obtain⟨J,n⟩:∃J,J=bx.2.1.toNat % L.length:=⟨_,rfl⟩;rw[<-n]at em u;obtain⟨x,hx⟩:∃x,L[J]?=some x:=⟨_,Zq u⟩;have f:J<rows.length:=by omega
 have e:rows[J]?=some [Z_ x.Z5,V (J+1,0),V (J+1,1)]:=y J x hx;have c:nq (V (0,0))=true:=ib o1 (by omega);obtain⟨Zw,q1,q2,q3⟩:=(hD.nd J x hx).rs;have w:=(hD.nd J x hx).len;have o2:=hH.own (LS.s hx (by omega)) q1;have len2:=dq o2.rows;rw[q2]at len2;rw[Kb,Bn];refine eK (P:=λt df g'=>df=[]/\g'=g1/\St t [(2,ZZ 0),(3,ZZ 1),(4,ZZ 2),(10,mA 3 (V (0,0)) J 0)]) ?_ ?_
 ·simp only[sz,simprocAttr,h2,a,h4,h5,f0,len1,Zt,aq (show -2^63<=(bx.2.1.toNat:Int) by omega) (show (bx.2.1.toNat:Int)<2^63 by omega),gC .i64 (show (0:Int)<=(bx.2.1.toNat:Int) by omega) (show 0<(L.length:Int) by omega),em,o1.rows,f,St]
 clear h2 a h4 h5;rintro t df g' ⟨rfl,rfl,h2,a,h4,k,-⟩;have B:bx.2.2.1.toNat<256:=bx.2.2.1.toNat_lt;refine eK (P:=λt df g''=>df=[]/\g''=g'/\St t (LBS (V (0,0)) J (-1))) ?_ ?_
 ·simp only[sz,simprocAttr,h2,a,h4,k,St]
 clear h2 a h4 k;rintro t df g'' ⟨rfl,rfl,h2,a,h4,k,j,-⟩;refine gv (P:=λt df g3=>df=[]/\g3=g''/\∃Rw:Int,((Rw = -1/\x.rows.length=0)\/∃r:Nat,Rw=(r:Int)/\r<x.rows.length)/\St t (LBS (V (0,0)) J Rw)) ?_ ?_
 ·simp only[sz,simprocAttr,k,bY c,co c,o1.rows,f,e,len2];refine ba (λhb=>?_) (λhb=>?_)
  ·have l:0<x.rows.length:=by simpa using hb
   have em2:((bx.2.2.1.toNat:Int) % (x.rows.length:Int))=((bx.2.2.1.toNat % x.rows.length:Nat):Int):=by omega
   have hm:=US bx.2.2.1.toNat l;simp only[sz,simprocAttr,h2,k,f0,Zt,aq (show -2^63<=(bx.2.2.1.toNat:Int) by omega) (show (bx.2.2.1.toNat:Int)<2^63 by omega),bY c,co c,o1.rows,f,e,len2,gC .i64 (show (0:Int)<=(bx.2.2.1.toNat:Int) by omega) (show 0<(x.rows.length:Int) by omega),em2];exact⟨_,.inr ⟨_,rfl,hm⟩,by simp[St,sx,h2,a,h4,k]⟩
  ·have h0:x.rows.length=0:=by have:=ad7 hb;omega
   simp only[sx,sy];exact⟨-1,.inl ⟨rfl,h0⟩,by simp[St,sx,h2,a,h4,k,j]⟩
 clear h2 a h4 k j;rintro t df g3 ⟨rfl,rfl,Rw,hR,ht⟩;refine bk6 (K:=K) (L:=L) (x:=x) (bx:=bx) (gr:=gr) ⟨ht,hH,f0,f1,f2,hD,hx,hR,hK,hl⟩ ?_;intro t g gr nv nds a h4 e1 m A;rw[Jx,Bn];exact bk5 a h4 e1 m A
theorem bj5[Z0]{K:Nat}{x:po}{m:Zv}{v:AV}(hd:0<d)(hx:Zl x ZX 0 g.h v)(hm:Zl m ZX 0 g.h w)(hK:K<=1000000)(hl:m.Z7.length<=K)
  (hb:∀y∈m.Z7,y.Z9.length<=K/\y.rows.length<=K/\∀r∈y.rows,r.length<=K):∃r,ae C0 d 10 [v,w] g=.val r/\UM ZX 0 .nil r:=by
 have e0:=jV d hx;have e1:=jV d hm;obtain⟨cs,rfl,hc⟩:=hx;have hc:=L1.1 hc;subst hc;obtain⟨cs,rfl,hc⟩:=hm;obtain⟨b,rfl,hN⟩:=fY.1 hc;rw[Zn];refine aI Cp (xs:=[.agg [Zt x.1,Zt x.2.1,Zt x.2.2.1,Z_ x.2.2.2],.agg [Z_ m.Z8,b]]) (by simp only[aD,e0,e1]) (by simp[nS]) bj6 (by decide) hd ?_;clear e0 e1 hc;have hN:=hN.tree (h':=.nil) (ZV _);simp only[sz,simprocAttr,nS];obtain⟨g0,hg0⟩:∃g0,g0=((G.empty.new (Z4 4 [[Zt x.1,Zt x.2.1,Zt x.2.2.1,Z_ x.2.2.2]])).new (Z4 2 [[Z_ m.Z8,b]])).new (Z4 2 [[Z_ 0,.Z6]]):=⟨_,rfl⟩;rw[<-hg0];have f0:TG g0 [Zt x.1,Zt x.2.1,Zt x.2.2.1,Z_ x.2.2.2] m.Z8 b:=by rw[hg0];exact⟨by simp[sx,Za],by simp[sx,Za],by simp[sx]⟩
 have f:g0.nx=3:=by rw[hg0];simp[sx]
 clear hg0;have a:Hp g0 3 (LS []) (λ_=>.Z6) (λk=>.sl 3 []):=⟨λk _=>.inl ⟨rfl,rfl⟩,λk l _ _ _ id h=>(by cases h),by omega⟩;simp only[sz,simprocAttr,qV];refine bk0 (V:=λ_=>.Z6) hK hN hl hb (by simp[St,sx]) (by simp[sx]) (by simp[sx]) a f0 ⟨⟨[],rfl,rfl,λi y hy=>by simp at hy⟩,λi y hy=>by simp at hy⟩ ?_;clear a;intro t g V E ht h5 a c e;simp only[sx,↓reduceIte];exact bk7 hK hl ht h5 a c e
theorem ja(a b c e f:AV)(t:T):bk 0 [a,b,c,e,f] t=f_ (f_ (f_ (f_ (f_ t 0 a) 1 b) 2 c) 3 e) 4 f:=rfl
theorem bj4(h:NR n)(e:List Int):0<=Dl n e/\Dl n e<4611686018427387904:=by have:=rg h e;omega
theorem D1{m n:Nat}(h:m<2^64)(h':n<2^64):bN .andNot (ZW (m:Int)) (ZW (n:Int))=.val (ZW ((EN m n:Nat):Int)):=EF m n h h'
def gk(gr:Int)(b ev:AV)(v value bn bd:Int)(s:Nat):ZM:=Z4 8 [[Z_ gr,b,ev,Z_ v,Z_ value,Z_ bn,Z_ bd,ZW (s:Int)]]
theorem fV(id ep i off:Nat):OV (.ZD id ep i off)=.val (.ZD id ep i off):=rfl
theorem Own.lenF{b:Nat}{v:AV}{sz:Nat}{rows:List (List AV)}(h:Own g b v sz rows):Hx.gz .slice v g=.val (Z_ (rows.length:Int)):=F0 h.rows
def B2(e:List Int)(s j:Nat):List Int:=(Dg e s).take j++List.replicate (e.length - j) 0
theorem LI(hj:j<=e.length):(B2 e s j).length=e.length:=by rw[B2,J6,Rk,mP,aef];omega
theorem LJ{z y:Int}(hj:j<e.length)(hz:(Dg e s)[j]?=some z):((B2 e s j).set j y).set j z=B2 e s (j+1)/\((B2 e s j).set j z)=B2 e s (j+1):=by
 have key:((B2 e s j).set j z)=B2 e s (j+1):=by
  obtain⟨z',h,ht,-⟩:=ah (l:=Dg e s) (j:=j) (by rw[mP];exact hj);rw[hz]at h;injection h with h;subst h;have hl:((Dg e s).take j).length=j:=by rw[Rk,mP];omega
  obtain⟨m,hm⟩:∃m,e.length - j=m+1:=⟨e.length - j - 1,by omega⟩;rw[B2,B2,ht,hm,show e.length - (j+1)=m by omega,X0 _ _ (by omega),hl,Yp,VZ,Va,acq]
  rfl
 exact⟨by rw[List.set_set,key],key⟩
theorem bj3[Z0](hev:ZT ZX k .nil e ev)(hl:e.length<=1000)(hs:s<2^64)
  (hq:g.h.get q=gk gr b ev v value bn bd ks) (hqn:q<g.nx)
  (kk:∀u g',Own g' g.nx u 1 ((Dg e s).map ci)->Ug g g'->K u g'):(ae C0 d 79 [ZZ q,ZW (s:Int)] g).sat K g D:=by
 have rb:=λh=>(hev.tree (h':=h) (ZV k)).ints;have n2:=λg=>hev.len g;have C:=mP e s;rw[rE];refine j9 uy (by simp[gx]) ?_;simp only[sz,simprocAttr,gx,hq,gk,fV,n2];refine bs4 (b:=g.nx) (by simp[aQ];omega) (by simp[aQ];omega) (ZV _) λu1 g1 o1 n1 f1 v1=>?_;have ug1:Ug g g1:=⟨by omega,f1⟩;have z:Own g1 g.nx u1 1 ((B2 e s 0).map ci):=by simpa [B2,ci] using o1
 have n3:gz .slice u1 g1=.val (Z_ (e.length:Int)):=by rw[z.lenF,Ju,LI (Jq _)]
 simp only[sz,simprocAttr,n3,iX,iY];refine b_ (m:=e.length) (by omega) (λj t df g'=>df=[]/\St t [(0,ZZ q),(1,ZW (s:Int)),(5,u1)]/\Ug g g'/\Own g' g.nx u1 1 ((B2 e s j).map ci))
  ⟨rfl,by simp[St,sx],ug1,z⟩ (by simp[sx]) (by simp[sx]) (by decide) (by rintro j t df g v s (rfl|rfl|rfl)<;>simp[St,sx]) ?_ ?_
 ·rintro j t df g2 o ⟨rfl,⟨h0,h1,h5,-⟩,ug2,o2⟩ l p;obtain⟨y,H,-,-⟩:=ah o;have hz:=Eh e s j o;rw[H,Ns]at hz;have B:=LI (e:=e) (s:=s) (j:=j) (by omega);have F:j<(e.map ci).length:=by simpa using o
  have L:(e.map ci)[j]?=some (ci y):=by rw[Zy,H];rfl
  have w1:j<((B2 e s j).map ci).length:=by rw[Ju,B];exact o
  obtain⟨J,f⟩:∃J,((B2 e s j).map ci)[j]?=some J:=⟨_,Zq w1⟩;have w:=jX .i64 s j hs;have a:=qK (s / 2 ^ j) 1 (Nb (Y2 _ _) hs) (by decide);have a:bN .and (ZW ((s / 2 ^ j:Nat):Int)) (ZW 1)=.val (ZW ((s / 2 ^ j &&& 1:Nat):Int)):=a;have r:=mM s j;simp only[sz,simprocAttr,h5,l,o2.rows,w1];refine GE (v:=u1) (sz:=1) (n:=1) (i:=j) (off:=0) (x:=Z_ (-1)) (row':=ci (-1)) o2 f rfl rfl (by rw[Zy]at f;cases hh:(B2 e s j)[j]? with
   |none=>rw[hh]at f;cases f
   |some x=>rw[hh]at f;injection f with f;rw[<-f];rfl) λg3 o3 n3 f3 p3=>?_
  have ug3:Ug g g3:=⟨by have:=ug2.nx;omega,ug2.up.trans p3⟩;have E:g3.h.get q=gk gr b ev v value bn bd ks:=by rw[ug3.up.1 q hqn,hq]
  by_cases c:s.testBit j=true
  ·rw[ZN c]at hz;have c':((s / 2 ^ j &&& 1:Nat):Int)=1:=by
    have:AU s j=true:=by rw[r,c]
    rw[AU,beq_iff_eq]at this;rw[this];rfl
   have I:j<(((B2 e s j).map ci).set j (ci (-1))).length:=by rw[aet];exact w1
   have M:(((B2 e s j).map ci).set j (ci (-1)))[j]?=some (ci (-1)):=by rw[J5 w1]
   simp only[sz,simprocAttr,h0,h1,h5,w,a,c',E,gk,fV,rb,F,L,ci];have A:=o3.rows;simp only[ci]at A I;simp only[sz,simprocAttr,A,I];refine GE (v:=u1) (sz:=1) (n:=1) (i:=j) (off:=0) (x:=Z_ y) (row':=ci y) o3 M rfl rfl rfl λg4 o4 n4 f4 p4=>?_;simp only[sz,simprocAttr];refine⟨⟨by simp[St,sx,h0,h1,h5],⟨by have:=ug3.nx;omega,ug3.up.trans p4⟩,?_⟩,by simp[sx,l],by simp[sx,p]⟩;rw[<-(LJ (y:=-1) o hz).1,MO,MO];exact o4
  ·rw[ZF c]at hz;have c':¬((s / 2 ^ j &&& 1:Nat):Int)=1:=by
    have:AU s j=false:=by rw[r];simpa using c
    rw[AU]at this;have h2:s / 2 ^ j &&& 1≠1:=by simpa using this
    omega
   simp only[sz,simprocAttr,h1,h5,w,a,c'];refine⟨⟨by simp[St,sx,h0,h1,h5],ug3,?_⟩,by simp[sx,l],by simp[sx,p]⟩;rw[<-(LJ (y:=-1) o hz).2,MO];exact o3
 ·rintro t df g2 ⟨rfl,⟨h0,h1,h5,-⟩,ug2,o2⟩;rw[B2,Yp,adY,VM,<-C,Xo]at o2;simp only[sz,simprocAttr,iZ,h5];exact kk _ _ o2 ug2
section
variable {C:ZO}{d:Nat}
theorem bj2{Q:QP}{dst:Option Nat}{xs:List Od}{r:List SI}{df:List ZU}(hs:nZ C f=false)
  (h:Zu C d f (eH t xs) g (λv g'=>U5 C d r Q (qH dst t v) df g') λv g'=>Q (.XJ v) t df g'):U5 C d (⟨dst,none,.call f xs⟩::r) Q t df g:=by
 show qv C d ⟨dst,none,.call f xs⟩ (U5 C d r Q) Q t df g;unfold qv;dsimp only;rw[ZF (by rw[hs];decide)];exact h
end
theorem L4[Z0]{d:Nat}{rd:Option Nat}{z:Int}:(bP C0 (.makeInterface 47 (.const (.int .i64 z)))).run (I C0) d rd t g=.val (.J7 47 (Z_ z)):=by kernel_rfl
theorem bj1[Z0]{d:Nat}{v:AV}(hd:0<d)(hm:Zl n ZX 0 g.h v):ae C0 d 75 [v] g=.val (Z_ (if Dm n then 0 else 50)):=by
 obtain⟨b,rows,rfl,e1,i,-⟩:=bT d hm;rw[Zn];refine cz Jh (xs:=[.agg [Z_ n.Z8,b]]) (by simp only[aD,e1]) (by simp[xi]) hd ?_;simp only[sz,simprocAttr,xi];obtain⟨g0,hg0⟩:∃g0,g0=G.empty.new (Z4 2 [[Z_ n.Z8,b]]):=⟨_,rfl⟩;rw[<-hg0];have f0:g0.h.get 0=Z4 2 [[Z_ n.Z8,b]]:=by rw[hg0];simp[sx]
 have p:g0.nx=1:=by rw[hg0];simp[sx]
 clear hg0;have ld:aO (Z4 2 [[Z_ n.Z8,b]]) 0 0 true 2 0=.val (.agg [Z_ n.Z8,b]):=rfl;simp only[sz,simprocAttr,zm,f0,ld];refine aM (JP (abc d) (n:=n) (i _)) λz hz=>?_;rcases yh hz with⟨j,cs,rfl,e⟩|⟨j,b',cv,sv,oz,o,rfl,hb,f,m,l⟩
 ·obtain⟨a1,a2,k,a4,a,rfl⟩:∃a1 a2 k a4 a,cs=[a1,a2,k,a4,a]:=by
   match cs,e with
   |[a1,a2,k,a4,a],_=>exact⟨a1,a2,k,a4,a,rfl⟩
  simp only[sz,simprocAttr,p,j]
 ·have st:∀g:G,fC (Z4 5 [[Z_ 0,.Z6,.Z6,.Z6,.Z6]]) g 1 0 0 5 0 (.agg [Z_ n.Z8,b',cv,sv,oz])=.upd .undef (g.put 1 (Z4 5 [[Z_ n.Z8,b',cv,sv,oz]])):=λg=>by
   have h1:=hb.2;have h2:=f.2;have c:=m.2;have h4:=l.2;unfold NJ at h1 h2 c h4
   split at h1<;>split at h2<;>split at c<;>split at h4<;>first|rfl|exact h1.elim|exact h2.elim|exact c.elim|exact h4.elim
  simp only[sz,simprocAttr,p,st,j]
theorem Yy(a1 a2 a3 a4 a5 a6 a7 a8:AV):aO (Z4 8 [[a1,a2,a3,a4,a5,a6,a7,a8]]) 0 0 true 2 0=.val (.agg [a1,a2]):=rfl
theorem yg[Z0]{d:Nat}(hd:0<d)(hk:k<=d)(hr:NR n)(hm:∀h,Zl n ZX 0 h (.agg [Z_ n.Z8,b]))(hev:ZT ZX k .nil e ev)(he:EQ n e=true)
  (hq:g.h.get q=gk n.Z8 b ev v value bn bd ks) (kk:Dl n e≠0->K (.Zz []) g) (kp:Dl n e=0->KP (.J7 47 (Z_ 7)) g) :
  Zu C0 d 38 [ZZ q] g K KP:=by
 have a:Di n e=0:=np.2 ⟨bU.2 hr,he⟩;have km:=λg:G=>bs6 (d:=d) (g:=g) (n:=n) (e:=e) (v:=.agg [Z_ n.Z8,b]) hd (hm _) (hev.tree (h':=g.h) (ZV k)) hk;rw[nE,ZN a,a]at km;refine gq pD (by simp[d_]) ?_;unfold d_;dsimp only;rw[cg];show wp C0 d none _ _ _ _ _;simp only[sz,simprocAttr,hq,gk,fV,Yy,km];rw[aV,cg];refine bp (by kernel_rfl) ?_;simp only[sz,simprocAttr];rw[bG];simp only[sz,simprocAttr];rw[ig,aV];unfold gg;refine bp (by kernel_rfl) ?_
 by_cases c:Dl n e=0
 ·simp only[sz,simprocAttr,c];rw[bG];simp only[sz,simprocAttr];show U5 C0 d ([o 22 (.raw (.makeInterface 47 (.const (.int .i64 7))))]++[oz (.raw (.panic (.tmp 22)))]) _ _ _ _;refine cI (by kernel_rfl) ?_;simp only[sz,simprocAttr,L4];refine Px (ty:=47) (v:=Z_ 7) (by simp[sx]) ?_;exact kp c
 ·simp only[sz,simprocAttr,c];rw[bG];simp only[sz,simprocAttr];rw[ig,qj];simp only[sz,simprocAttr];exact kk c
theorem ug[Z0]{d n:Nat}{z:Int}{Q:QP}{df:List ZU}(h:∀t,Q (.XJ (.J7 47 (Z_ z))) t df g):NU C0 d (.ops [o n (.raw (.makeInterface 47 (.const (.int .i64 z)))),oz (.raw (.panic (.tmp n)))]) Q t df g:=by show U5 C0 d ([o n (.raw (.makeInterface 47 (.const (.int .i64 z))))]++[oz (.raw (.panic (.tmp n)))]) _ _ _ _;refine cI (by show (true&&true)=true;rfl) ?_;simp only[sz,simprocAttr,L4];exact Px (ty:=47) (v:=Z_ z) (by simp[sx]) (h _)
theorem Vx(a1 a2 a3 a4 a5 a6 a7 a8:AV):aO (Z4 8 [[a1,a2,a3,a4,a5,a6,a7,a8]]) 0 0 false 1 7=.val a8:=rfl
theorem bj0{a c e:AV}(hb:b.cells=[b]/\b.isTup=false)(hc:c.cells=[c]/\c.isTup=false)(he:e.cells=[e]/\e.isTup=false) :
  dX [Z_ 0,.Z6,.Z6,Z_ 0,Z_ 0,Z_ 0,Z_ 0,ZW 0] [((0,2),.agg [a,b]),((2,1),c),((3,1),e)]=some [a,b,c,e,Z_ 0,Z_ 0,Z_ 0,ZW 0]:=by
 simp[dX,hb,hc,he,eJ,bi,Cd,Cw]
theorem bi_[Z0]{d:Nat}{g0:G}{l:List Int}(hnr:Dm n=true)(hN:ZT ZX 0 .nil n.Z7 b)(hm:∀h,Zl n ZX 0 h (.agg [Z_ n.Z8,b]))(hev:ZT ZX k .nil e ev)
  (hw:ak g.h 1 w=some (l.map ci)) (hwi:∀i,Zi w=some i->i<g.nx) (hll:l.length<=1000) (hok:t8 n e vn)
  (hf0:Fr g g0) (hg0:g0.h.get g.nx=Z4 2 [[Z_ n.Z8,b]]) (hn0:g0.nx=g.nx+1) (h1:ZY t 1=ev) (h2:ZY t 2=Z_ (vn:Int)) (h3:ZY t 3=w) (h4:ZY t 4=ZZ g.nx)
  (kk:B_ n e vn l=0->∀q g',Fr g g'->g.nx<=q->q<g'.nx->g'.h.get q=gk n.Z8 b ev vn (l.head?.getD 0) 0 0 (EP e e.length)->K (ZZ q) g')
  (kp:B_ n e vn l=2->∀g',Fr g g'->KP (.J7 47 (Z_ 2)) g') :
  NU C0 d iL (fnP C0 d [SR.tm 8] K KP) t [] g0:=by
 have hr:=bU.1 hnr;have h6:=hr.l2;obtain⟨C,-,V,W⟩:=hok;obtain⟨h5,-⟩:=eB.1 C;have rv:∀g',Fr g g'->ak g'.h 1 w=some (l.map ci):=λg' hf=>by rw[QW hf hwi,hw]
 have nv:∀g',Fr g g'->gz .slice w g'=.val (Z_ (l.length:Int)):=λg' hf=>by have:=F0 (rv g' hf);rwa [Ju]at this
 have re:=λh=>(hev.tree (h':=h) (ZV k)).ints;have ne:=λg=>hev.len g;obtain⟨b',rows,a,-,-,-,Z,r2,r3,r4⟩:=bT (g:=g) d (hm g.h);injection a with a;injection a with _ a;injection a with a _;subst a;unfold iL;refine bp (by kernel_rfl) ?_;have ld:aO (Z4 2 [[Z_ n.Z8,b]]) 0 0 true 2 0=.val (.agg [Z_ n.Z8,b]):=rfl;have cb:=hN.cell;have ce:=hev.cell;simp only[sz,simprocAttr,h1,h2,h4,hg0,ld,bj0 cb ce (e:=Z_ (vn:Int)) ⟨rfl,rfl⟩];obtain⟨g1,f⟩:∃g1,g1=g0.new (Z4 8 [[Z_ n.Z8,b,ev,Z_ (vn:Int),Z_ 0,Z_ 0,Z_ 0,ZW 0]]):=⟨_,rfl⟩;rw[<-f];have e0:g1.h.get g.nx=Z4 2 [[Z_ n.Z8,b]]:=by rw[f];simp[Za,hg0,hn0]
 have e1:g1.h.get (g.nx+1)=gk n.Z8 b ev vn 0 0 0 0:=by rw[f];simp[Za,hn0,gk]
 have n1:g1.nx=g.nx+2:=by rw[f];simp;omega
 have f1:Fr g g1:=by rw[f];exact hf0.trans (Fr.new _ _)
 clear f;rw[cg];refine bp (by kernel_rfl) ?_;simp only[sz,simprocAttr,h3,nv g1 f1];rw[J9,Mk];unfold ol;have nb:=λg:G=>(hN.tree (h':=g.h) (ZV 0)).len g;obtain⟨nd,M,-,-⟩:=ah (l:=n.Z7) (j:=vn) (by omega);obtain⟨x1,x2,q1,hlt,-⟩:=r3 vn nd M;have P:=r4 (by omega);have J:(IO n)[vn]?.getD 0=nd.Z5:=by simp[IO,M]
 have N:t8 n e vn:=⟨C,by omega,V,W⟩;refine GN (m:=l.length) (by omega) (λj t df g'=>df=[]/\St t [(1,ev),(2,Z_ (vn:Int)),(9,ZZ (g.nx+1)),(46,w)]/\Fr g g'/\g'.nx=g.nx+2/\g'.h.get (g.nx+1)=gk n.Z8 b ev vn (if j=0 then 0 else l.head?.getD 0) 0 0 0/\∀i,i<j->∀z,l[i]?=some z->AQ n vn z)
  ⟨rfl,by simp[St,sx,h1,h2,h3,hn0],f1,n1,e1,λi h=>absurd h (ae9 i)⟩ (by simp[sx]) (by simp[sx]) (by decide)
  (by rintro j t df g v s (rfl|rfl|rfl) ⟨a1,⟨b1,b2,b3,b4,-⟩,c⟩<;>exact⟨a1,by simp[St,sx,b1,b2,b3,b4],c⟩) ?_ ?_
 ·clear h1 h2 h3 h4 e0 e1 n1 f1;rintro j t df g2 L ⟨rfl,⟨h1,h2,h9,E,-⟩,f2,n2,A,p⟩ o H;obtain⟨z,hz,-,X⟩:=ah L;have v1:j<(l.map ci).length:=by simpa using L
  have v2:(l.map ci)[j]?=some (ci z):=by rw[Zy,hz];rfl
  have rw2:=rv g2 f2;have bad2:¬AQ n vn z->B_ n e vn l=2:=λh=>Bh hnr λh2=>h (h2.2 z X);refine bp (by kernel_rfl) ?_;simp only[sz,simprocAttr,E,o,rw2,v1,v2,ci];rw[cg];refine bp (by kernel_rfl) ?_;have ld4:∀x,aO (Z4 8 [[Z_ n.Z8,b,ev,Z_ (vn:Int),x,Z_ 0,Z_ 0,ZW 0]]) 0 0 false 1 1=.val b:=λ_=>rfl
  by_cases c1:z<0
  ·have hf:=bad2 λh=>by have:=h.1;omega
   simp only[sz,simprocAttr,c1];rw[bG];simp only[sz,simprocAttr];exact ug λt=>kp hf g2 f2
  ·by_cases c2:nd.Z5<=z
   ·have hf:=bad2 λh=>by have:=h.2;rw[Ya,J]at this;omega
    simp only[sz,simprocAttr,h2,h9,A,gk,fV,Z,hlt,q1,P,c1,c2];rw[bG];simp only[sz,simprocAttr];exact ug λt=>kp hf g2 f2
   ·have O:AQ n vn z:=⟨by omega,by rw[Ya,J];omega⟩;have r:∀i,i<j+1->∀z',l[i]?=some z'->AQ n vn z':=λi hi z' u=>by
     by_cases e:i=j
     ·subst e;rw[hz]at u;injection u with u;subst u;exact O
     ·exact p i (by omega) z' u
    simp only[sz,simprocAttr,h2,h9,A,gk,fV,Z,hlt,q1,P,c1,c2];rw[bG];simp only[sz,simprocAttr];rw[ig,aV];unfold oo;refine bp (by kernel_rfl) ?_
    by_cases c3:j=0
    ·subst c3;have D:((0:Nat):Int)=0:=rfl;have hh:l.head?.getD 0=z:=by rw[List.head?_eq_getElem?,hz];rfl
     simp only[sz,simprocAttr,o,D];rw[bG];simp only[sz,simprocAttr];refine BH (by kernel_rfl) ?_;simp only[sz,simprocAttr,h9,A,gk,fV];refine⟨⟨rfl,by simp[St,sx,h1,h2,h9,E],⟨?_,λi hi=>?_⟩,?_,?_,r⟩,by simp[sx,o],by simp[sx,H]⟩
     ·simp[n2]
     ·rw[G.put_h,aF];exact f2.2 i hi
     ·simp[n2]
     ·simp[Za,hh,gk]
    ·have D:¬(j:Int)=0:=by omega
     simp only[sz,simprocAttr,o,D];rw[bG];simp only[sz,simprocAttr];rw[ig];rw[ZF c3]at A;exact⟨⟨rfl,by simp[St,sx,h1,h2,h9,E],f2,n2,A,r⟩,by simp[sx,o],by simp[sx,H]⟩
 ·clear h1 h2 h3 h4 e0 e1 n1 f1;rintro t df g2 ⟨rfl,⟨h1,h2,h9,-⟩,f2,n2,A,p⟩;have hf:=Ol (l:=l) hnr N λz hz=>by obtain⟨i,hi⟩:=QG hz;exact p i (tI.1 hi).1 z hi
  have A:g2.h.get (g.nx+1)=gk n.Z8 b ev vn (l.head?.getD 0) 0 0 0:=by
   rw[A]
   by_cases c:l.length=0
   ·rw[ZN c];have:l=[]:=R_ c;subst this;rfl
   ·rw[ZF c]
  rw[Bm,ZN rfl,aV];unfold ox;rw[cg];refine bp (by kernel_rfl) ?_;simp only[sz,simprocAttr,h1,ne];rw[J9,Mk];unfold om;refine GN (m:=e.length) hev.1 (λj t df g'=>df=[]/\St t [(9,ZZ (g.nx+1)),(76,ev)]/\Fr g g'/\g.nx+2<=g'.nx/\g'.h.get (g.nx+1)=gk n.Z8 b ev vn (l.head?.getD 0) 0 0 (EP e j))
   ⟨rfl,by simp[St,sx,h9],f2,by omega,A⟩ (by simp[sx]) (by simp[sx]) (by decide)
   (by rintro j t df g v s (rfl|rfl|rfl) ⟨a1,⟨b1,b2,-⟩,c⟩<;>exact⟨a1,by simp[St,sx,b1,b2],c⟩) ?_ ?_
  ·clear h1 h2 h9 f2 n2 A;rintro j t df g3 L ⟨rfl,⟨h9,F,-⟩,R,n3,Q⟩ B I;obtain⟨y,Y,-,-⟩:=ah L;have u1:j<(e.map ci).length:=by simpa using L
   have u2:(e.map ci)[j]?=some (ci y):=by rw[Zy,Y];rfl
   have hk:=OJ (by omega) Y;have U:=BQ (EP e j) (B7 j) (Ec (by omega)) (wG j);refine bp (by kernel_rfl) ?_;simp only[sz,simprocAttr,F,B,re,u1,u2,ci];refine bp (by kernel_rfl) ?_
   by_cases c:0<=y
   ·rw[ZN c]at hk;simp only[sz,simprocAttr,c];rw[bG];simp only[sz,simprocAttr];show wp C0 d none _ _ _ _ _;simp only[sz,simprocAttr,sf,h9,B,Q,gk,fV,mU,U];refine⟨aK (false::(Zb (true::[]))) [] (by simp[ZL,am,aA]) (by decide) (by simp),⟨rfl,by simp[St,sx,h9,F],⟨?_,λi hi=>?_⟩,?_,?_⟩,by simp[sx,B],by simp[sx,I]⟩
    ·simp;omega
    ·simp[Za,show ¬i=g.nx+1 by omega,R.2 i hi]
    ·simp;omega
    ·simp[Za,hk,gk]
   ·rw[ZF c]at hk;simp only[sz,simprocAttr,c];rw[bG];simp only[sz,simprocAttr];rw[ig];exact⟨⟨rfl,by simp[St,sx,h9,F],R,n3,by rw[hk];exact Q⟩,by simp[sx,B],by simp[sx,I]⟩
  ·rintro t df g3 ⟨rfl,⟨h9,-⟩,R,n3,Q⟩;rw[Bm,ZN rfl,aV];unfold oq;refine bp (by kernel_rfl) ?_;simp only[sz,simprocAttr,h9];rw[o8,qj];simp only[sz,simprocAttr];exact kk hf _ g3 R (by omega) (by omega) Q
theorem Am[Z0]{d:Nat}{l:List Int}(hd:0<d)(hm:∀h,Zl n ZX 0 h (.agg [Z_ n.Z8,b]))(hev:ZT ZX k .nil e ev)
  (hw:ak g.h 1 w=some (l.map ci)) (hwi:∀i,Zi w=some i->i<g.nx) (hll:l.length<=1000)
  (kk:B_ n e v l=0->∀q g',Fr g g'->g.nx<=q->q<g'.nx->g'.h.get q=gk n.Z8 b ev v (l.head?.getD 0) 0 0 (EP e e.length)->K (ZZ q) g')
  (kp:B_ n e v l≠0->∀g',Fr g g'->KP (.J7 47 (Z_ (B_ n e v l))) g') :
  Zu C0 d 36 [.agg [Z_ n.Z8,b],ev,Z_ v,w] g K KP:=by
 have re:=λh=>(hev.tree (h':=h) (ZV k)).ints;have ne:=λg=>hev.len g;have kc:=λg:G=>bj1 (d:=d) (g:=g) (n:=n) (v:=.agg [Z_ n.Z8,b]) hd (hm _);have ke:=λg:G=>Kt (d:=d) (g:=g) (n:=n) (e:=e) (v:=.agg [Z_ n.Z8,b]) hd (hm _) (hev.tree (h':=g.h) (ZV k));refine gq A5 (by simp[l_]) ?_;unfold l_;dsimp only;refine bp (by kernel_rfl) ?_;simp only[sz,simprocAttr];obtain⟨g1,c⟩:∃g1,g1=g.new (Z4 2 [[Z_ n.Z8,b]]):=⟨_,rfl⟩;rw[<-c];have e1:g1.h.get g.nx=Z4 2 [[Z_ n.Z8,b]]:=by rw[c];simp[Za]
 have n1:g1.nx=g.nx+1:=by rw[c];simp
 have f1:Fr g g1:=by rw[c];exact Fr.new _ _
 clear c;have ld:aO (Z4 2 [[Z_ n.Z8,b]]) 0 0 true 2 0=.val (.agg [Z_ n.Z8,b]):=rfl;have ld1:aO (Z4 2 [[Z_ n.Z8,b]]) 0 0 false 1 1=.val b:=rfl;unfold pM;rw[cg];refine bp (by kernel_rfl) ?_
 by_cases hnr:Dm n=true
 rotate_left
 ·have f:Dm n=false:=by simpa using hnr
  have hf:=KY (e:=e) (v:=v) (l:=l) f;simp only[sz,simprocAttr,e1,ld,kc,f];rw[bG];simp only[sz,simprocAttr];refine ug λt=>?_;have:=kp (by rw[hf];decide) g1 f1;rw[hf]at this;exact this
 have hr:=bU.1 hnr;obtain⟨b',rows,a,-,-,hN,z,A,B,C⟩:=bT (g:=g) d (hm g.h);injection a with a;injection a with _ a;injection a with a _;subst a;have nb:=λg:G=>(hN.tree (h':=g.h) (ZV 0)).len g;simp only[sz,simprocAttr,e1,ld,kc,hnr];rw[bG];simp only[sz,simprocAttr];rw[ig,aV];unfold oy;rw[cg];refine bp (by kernel_rfl) ?_;have bad:∀(t:T) (W:PT),¬t8 n e v->NU C0 d (.ops [o 40 (.raw (.makeInterface 47 (.const (.int .i64 2)))),oz (.raw (.panic (.tmp 40)))]) (P6 W (fnP C0 d [SR.tm 8] K KP)) t [] g1:=λt W h=>by have hf:=Bh (l:=l) hnr λh2=>h h2.1;refine ug λt=>?_;have:=kp (by rw[hf];decide) g1 f1;rw[hf]at this;exact this
 by_cases hevd:EQ n e=true
 rotate_left
 ·have j:EQ n e=false:=by simpa using hevd
  have m:Di n e=2:=by rw[Di,hnr,j];rfl
  simp only[sz,simprocAttr,e1,ld,ke,m];rw[bG];simp only[sz,simprocAttr];exact bad _ _ λh=>hevd h.1
 have m:Di n e=0:=np.2 ⟨hnr,hevd⟩;rw[m]at ke;obtain⟨x,-⟩:=eB.1 hevd
 by_cases hv0:v<0
 ·simp only[sz,simprocAttr,e1,ld,ke,hv0];rw[bG];simp only[sz,simprocAttr];exact bad _ _ λh=>by have:=h.2.1;omega
 obtain⟨vn,rfl⟩:=Wu (show 0<=v by omega)
 by_cases hv1:(n.Z7.length:Int)<=(vn:Int)
 ·simp only[sz,simprocAttr,e1,ld,ld1,ke,hv0,nb,hv1];rw[bG];simp only[sz,simprocAttr];exact bad _ _ λh=>by have:=h.2.2.1;omega
 have p:vn<e.length:=by omega
 obtain⟨y,r⟩:∃y,e[vn]?=some y:=⟨_,Zq p⟩;have s:vn<(e.map ci).length:=by simpa using p
 have u:(e.map ci)[vn]?=some (ci y):=by rw[Zy,r];rfl
 by_cases hy0:0<=y
 ·simp only[sz,simprocAttr,e1,ld,ld1,ke,hv0,nb,hv1,re,s,u,ci,hy0];rw[bG];simp only[sz,simprocAttr];exact bad _ _ λh=>by have:=h.2.2.2;rw[Ya,r,Ns]at this;omega
 simp only[sz,simprocAttr,e1,ld,ld1,ke,hv0,nb,hv1,re,s,u,ci,hy0];rw[bG];simp only[sz,simprocAttr];rw[ig,aV];exact bi_ hnr hN hm hev hw hwi hll ⟨hevd,by omega,by omega,by rw[Ya,r,Ns];omega⟩ f1 e1 n1 (by simp[sx]) (by simp[sx]) (by simp[sx]) (by simp[sx]) kk λh g' hf=>by have:=kp (by rw[h];decide) g' hf;rwa [h]at this
section
variable {C:ZO}{d:Nat}
theorem cy{Q:QP}{dst:Option Nat}{xs:List Od}{r:List SI}{df:List ZU}{ys:List AV}(hs:nZ C f=false)(hy:eH t xs=ys)
  (h:Zu C d f ys g (λv g'=>U5 C d r Q (qH dst t v) df g') λv g'=>Q (.XJ v) t df g'):U5 C d (⟨dst,none,.call f xs⟩::r) Q t df g:=by
 subst hy;exact bj2 hs h
end
def yX(bn bd:Int):Prop:=zJ bn bd/\0<=bn/\bn<=bd
theorem M5(a b:AV):aO (Z4 2 [[a,b]]) 0 0 false 1 0=.val a:=rfl
theorem Qs(a b:AV):aO (Z4 2 [[a,b]]) 0 0 false 1 1=.val b:=rfl
theorem uP(a b:AV):aO (Z4 2 [[a,b]]) 0 0 true 2 0=.val (.agg [a,b]):=rfl
theorem zF[Z0]{b0 b1:Int}(hd:0<d)(hq:g.h.get q=gk gr b ev v value b0 b1 ks)(hqn:q<g.nx)
  (kk:yX bn bd->∀g',g.nx<=g'.nx->(∀i,i<g.nx->i≠q->g'.h.get i=g.h.get i)->g'.h.get q=gk gr b ev v value bn bd ks->K (.Zz []) g')
  (kp:¬yX bn bd->∀g',Fr g g'->KP (.J7 47 (Z_ 2)) g'):Zu C0 d 37 [ZZ q,.agg [Z_ bn,Z_ bd]] g K KP:=by
 have kc:=λg:G=>bn8 (d:=d) (g:=g) (x:=bn) (y:=bd) hd;refine gq qF (by simp[eM]) ?_;unfold eM;dsimp only;refine bp (by kernel_rfl) ?_;simp only[sz,simprocAttr];obtain⟨g1,k⟩:∃g1,g1=g.new (Z4 2 [[Z_ bn,Z_ bd]]):=⟨_,rfl⟩;rw[<-k];have e1:g1.h.get g.nx=Z4 2 [[Z_ bn,Z_ bd]]:=by rw[k];simp[Za]
 have n1:g1.nx=g.nx+1:=by rw[k];simp
 have f1:Fr g g1:=by rw[k];exact Fr.new _ _
 clear k;have q1:g1.h.get q=gk gr b ev v value b0 b1 ks:=by rw[f1.2 q hqn,hq]
 unfold gX;rw[cg];refine bp (by kernel_rfl) ?_;have bad:∀(t:T) (W:PT),¬yX bn bd->NU C0 d (.ops [o 19 (.raw (.makeInterface 47 (.const (.int .i64 2)))),oz (.raw (.panic (.tmp 19)))]) (P6 W (fnP C0 d [] K KP)) t [] g1:=λt W h=>ug λt=>kp h g1 f1
 by_cases c1:zJ bn bd
 rotate_left
 ·rw[ZF c1]at kc;simp only[sz,simprocAttr,e1,uP,kc];rw[bG];simp only[sz,simprocAttr];exact bad _ _ λh=>c1 h.1
 rw[ZN c1]at kc
 by_cases c2:bn<0
 ·simp only[sz,simprocAttr,e1,uP,M5,kc,c2];rw[bG];simp only[sz,simprocAttr];exact bad _ _ λh=>by have:=h.2.1;omega
 by_cases c3:bd<bn
 ·simp only[sz,simprocAttr,e1,uP,M5,Qs,kc,c2,c3];rw[bG];simp only[sz,simprocAttr];exact bad _ _ λh=>by have:=h.2.2;omega
 simp only[sz,simprocAttr,e1,uP,M5,Qs,kc,c2,c3];rw[bG];simp only[sz,simprocAttr];rw[ig,aV];unfold gG;refine BH (by kernel_rfl) ?_;simp only[sz,simprocAttr,e1,uP,q1,gk,fV];rw[qj];simp only[sz,simprocAttr];refine kk ⟨c1,by omega,by omega⟩ _ (by simp;omega) (λi hi hne=>?_) ?_
 ·simp[Za,hne,f1.2 i hi]
 ·simp[Za,gk]
def f7(n:Zv)(e:List Int)(v k:Nat):QI:=(Dd n e v)[k]?.getD (0,1)
def BZ(n:Zv)(e:List Int)(s v k:Nat)(bn bd:Int):Bool:=decide (bn.toNat*(f7 n (Dg e s) v k).2.toNat<=(f7 n (Dg e s) v k).1.toNat*bd.toNat)
theorem bi9(c w:Nat)(w0:0<w):∃u u':Nat,Cb c w=((u:Int),(u':Int))/\Nat.gcd u u'=1/\0<u'/\u*w=c*u'/\u<=c/\u'<=w:=by have g0:0<Nat.gcd c w:=ad0 _ w0;refine⟨c / Nat.gcd c w,w / Nat.gcd c w,rfl,Nat.gcd_div_gcd_div_gcd_of_pos_right w0,Nat.div_pos (Nat.le_of_dvd w0 (aeO _ _)) g0,?_,Y2 _ _,Y2 _ _⟩;obtain⟨x,hx⟩:=Nat.gcd_dvd_left c w;obtain⟨y,h⟩:=aeO c w;generalize Nat.gcd c w=z at *;subst hx;subst h;rw[aeX _ g0,aeX _ g0];ac_rfl
theorem Ir(hr:NR n){v:Nat}(hz:Dl n e≠0)(hk:k<((IO n)[v]?.getD 0).toNat):∃u u':Nat,(Dd n e v)[k]?=some ((u:Int),(u':Int))/\f7 n e v k=((u:Int),(u':Int))/\Nat.gcd u u'=1/\0<u'/\u<=4611686018427387903/\u'<=4611686018427387903:=by have h1:=rg hr e;have h2:=Er hr (p:=B8 n e v (k:Int)) (j:=Dj n) hr.wl.2.1;obtain⟨u,u',e1,a,b,-,c,d⟩:=bi9 (GW n (B8 n e v (k:Int)) (Dj n)).toNat (Dl n e).toNat (by omega);have h:=FX (n:=n) (e:=e) hk;rw[e1]at h;exact⟨u,u',h,by rw[f7,h];rfl,a,b,by omega,by omega⟩
theorem bi8{b:Nat}:(0<=yY a b)↔b<=a:=by
 unfold yY
 split
 ·omega
 ·split<;>omega
theorem bi7(a1 a2 a3 a4 a5 a6 a7 a8:AV):aO (Z4 8 [[a1,a2,a3,a4,a5,a6,a7,a8]]) 0 0 false 1 3=.val a4:=rfl
theorem bi6(a1 a2 a3 a4 a5 a6 a7 a8:AV):aO (Z4 8 [[a1,a2,a3,a4,a5,a6,a7,a8]]) 0 0 false 1 4=.val a5:=rfl
theorem bi5(a1 a2 a3 a4 a5 a6 a7 a8:AV):aO (Z4 8 [[a1,a2,a3,a4,a5,a6,a7,a8]]) 0 0 true 2 5=.val (.agg [a6,a7]):=rfl
theorem CP[Z0](hd:0<d)(hr:NR n)(hm:∀h,Zl n ZX 0 h (.agg [Z_ n.Z8,b]))(hev:ZT ZX k .nil e ev)(he:EQ n e=true)(hvl:vn<e.length)(hx:AQ n vn kn)(hz:Dl n (Dg e s)≠0)(hs:s<2^64)(hb:yX bn bd)
  (hq:g.h.get q=gk n.Z8 b ev vn kn bn bd ks) (hqn:q<g.nx) (kk:∀g',Ug g g'->K (.agg [.bool (BZ n e s vn kn bn bd)]) g') :
  wp C0 d none bH.code (Xs C0 d bH.res K) (bk 0 [ZZ q,ZW (s:Int)] .nil) [] g:=by
 have Z:=hr.l2;obtain⟨X,C⟩:=eB.1 he;have h1:=mP e s;obtain⟨⟨⟨Q,R,T,V⟩,A⟩,t,W⟩:=hb;obtain⟨bnn,rfl⟩:=Wu t;obtain⟨bdn,rfl⟩:=Wu (show 0<=bd by omega);have D:kn<((IO n)[vn]?.getD 0).toNat:=by have:=hx.2;rw[Ya]at this;omega
 obtain⟨u,u',p1,p2,p3,p4,p5,p6⟩:=Ir hr (v:=vn) hz D;have kc:=λg:G=>bo_ (d:=d) (g:=g) hd p5 p6 (show bnn<=4611686018427387903 by omega) (show bdn<=4611686018427387903 by omega) p4 (show 0<bdn by omega) p3 (by simpa using A);have Y:BZ n e s vn kn (bnn:Int) (bdn:Int)=decide (0<=yY (u*bdn) (bnn*u')):=by rw[BZ,p2,Yj,decide_eq_true_iff,decide_eq_true_iff,bi8];simp
 have B:∀i,i<e.length->0<=(IO n)[i]?.getD 0:=λi hi=>by have:=C i hi;omega
 have j:EQ n (Dg e s)=true:=bs5 he B;have E:Di n (Dg e s)=0:=np.2 ⟨bU.2 hr,j⟩;have L:wL n (Dg e s) vn=0:=by rw[wL,ZN E,ZN ⟨by omega,by omega⟩,ZF hz]
 have P:wn n (Dg e s) vn=Dd n (Dg e s) vn:=by rw[wn,ZN L,Ya]
 unfold bH;dsimp only;simp only[sz,simprocAttr];obtain⟨g1,a⟩:∃g1,g1=g.new (Z4 1 [[.bool false]]):=⟨_,rfl⟩;rw[<-a];have e1:g1.h.get g.nx=Z4 1 [[.bool false]]:=by rw[a];simp[Za]
 have n1:g1.nx=g.nx+1:=by rw[a];simp
 have N:Ug g g1:=by rw[a];exact Ug.new _ _
 clear a;have q1:g1.h.get q=gk n.Z8 b ev vn kn bnn bdn ks:=by rw[N.up.1 q hqn,hq]
 have m:g1.h.get q=Z4 8 [[Z_ n.Z8,b,ev,Z_ (vn:Int),Z_ (kn:Int),Z_ (bnn:Int),Z_ (bdn:Int),ZW (ks:Int)]]:=q1;unfold gH;simp only[sz,simprocAttr,sf,m,fV,Yy];refine bj3 hev (by omega) hs (by simpa using q1) (by simp;omega) λU g2 o2 ug2=>?_;have n2:g1.nx<=g2.nx:=by have:=ug2.nx;simp at this;omega
 have G2:∀i,i<g1.nx->g2.h.get i=g1.h.get i:=λi hi=>by have:=ug2.up.1 i (by simp;omega);simpa using this
 have l2:∀i∈g2.lg,g1.nx<=i:=λi hi=>by have:=ug2.up.2 i hi;simp at this;omega
 have q2:g2.h.get q=Z4 8 [[Z_ n.Z8,b,ev,Z_ (vn:Int),Z_ (kn:Int),Z_ (bnn:Int),Z_ (bdn:Int),ZW (ks:Int)]]:=by rw[G2 q (by omega),m]
 have ZG:∀g:G,g.h=g2.h->ZT (λ_=>True) 0 g.h (Dg e s) U:=λg hg=>by obtain⟨w,hw,h⟩:=o2.ints (k:=0) (by omega);injection hw with hw;subst hw;rw[hg];exact h
 simp only[sz,simprocAttr,sf,q2,fV,bi7];refine aM (bp_ (n:=n) (e:=Dg e s) (z:=vn) hd (hm _) (ZG _ (by simp)) (by omega)) λr hr5=>?_;obtain⟨r1,r2,rfl,q3,o⟩:=hr5;have o:=ay.1 o;injection o with o;subst o;obtain⟨w1,c,q3⟩:=q3;injection c with c;subst c;rw[P]at q3;rw[L];simp only[sz,simprocAttr,sf];refine⟨?_,?_⟩
 ·simp only[I9,Nq,DI,ML];refine aK (Vk (JO (true::(Vk (Zb []))))) [(0,6),(1,6),(2,6),(3,6),(6,7),(6,8),(6,9),(6,10)] (by simp[ZL,am,aA,su,xQ,dj]) (by decide) ?_;intro pp l x y hx M;simp only[Y0,QA,TP]at l;rcases l with rfl|rfl|rfl|rfl|rfl|rfl|rfl|rfl<;>(simp only[adc,Vb,P5]at hx M;subst hx;subst M)
  ·exact jB rfl rfl rfl λi hi hc=>by simp[aA]at hc
  ·exact jB rfl rfl rfl λi hi hc=>by simp[aA]at hc
  ·exact jB rfl rfl rfl λi hi hc=>by simp[aA]at hc
  ·refine jB rfl rfl rfl λi hi hc=>?_;simp[am,yi]at hc;subst hc;have:=l2 _ hi;omega
  ·exact ui rfl rfl rfl λi hi hc=>by simp[aA]at hc
  ·exact ui rfl rfl rfl λi hi hc=>by simp[aA]at hc
  ·exact ui rfl rfl rfl λi hi hc=>by simp[aA]at hc
  ·refine ui rfl rfl rfl λi hi hc=>?_;simp[am,yi]at hc;subst hc;have:=l2 _ hi;omega
 generalize hG3:lC _ _=g3;have u3:Ug g g3:=by
  rw[<-hG3];refine N.trans ⟨by simp;omega,⟨λi hi=>by simpa using G2 i hi,λi hi=>?_⟩⟩;simp at hi;rcases hi with hi|hi
  ·exact .inr (l2 i hi)
  ·exact .inl hi
 have O:g3.h.get g.nx=Z4 1 [[.bool false]]:=by rw[<-hG3];simp;rw[G2 _ (by omega),e1]
 have H:g3.h.get q=Z4 8 [[Z_ n.Z8,b,ev,Z_ (vn:Int),Z_ (kn:Int),Z_ (bnn:Int),Z_ (bdn:Int),ZW (ks:Int)]]:=by rw[<-hG3];simpa using q2
 clear hG3;obtain⟨rows,f,h2,I,J⟩:=q3.all;obtain⟨row,p,y2⟩:=I kn _ p1;obtain⟨ya,yb,rfl,yc,yd⟩:=u9.1 y2;rw[ay.1 yc,ay.1 yd]at p;have f:∀h',ak h' 2 r1=some rows:=f;have p:rows[kn]?=some [Z_ (u:Int),Z_ (u':Int)]:=p;have hlt:kn<rows.length:=(tI.1 p).1;have F:=J (by omega);unfold gf;simp only[sz,simprocAttr,H,fV,bi6,bi5,f,hlt,p,F,kc];unfold ge;have fb:∀x:Bool,dX [.bool false] [((0,1),.bool x)]=some [.bool x]:=λx=>rfl;have ldt:∀x:Bool,aO (Z4 1 [[.bool x]]) 0 0 true 1 0=.val (.agg [.bool x]):=λx=>rfl;simp only[sz,simprocAttr,fb,O,ldt];rw[<-Y];exact kk _ ⟨by have:=u3.nx;simpa using this,u3.up.trans (Up.put (ZV _) _)⟩
theorem bi4[Z0](hd:0<d)(hr:NR n)(hm:∀h,Zl n ZX 0 h (.agg [Z_ n.Z8,b]))(hev:ZT ZX k .nil e ev)(he:EQ n e=true)(hvl:vn<e.length)(hx:AQ n vn kn)(hz:Dl n (Dg e s)≠0)(hs:s<2^64)(hb:yX bn bd)
  (hq:g.h.get q=gk n.Z8 b ev vn kn bn bd ks) (hqn:q<g.nx) (kk:∀g',Ug g g'->K (.agg [.bool (BZ n e s vn kn bn bd)]) g') :
  (ae C0 d 39 [ZZ q,ZW (s:Int)] g).sat K g D:=by
 rw[nF];exact j9 gO (by simp[bH]) (CP hd hr hm hev he hvl hx hz hs hb hq hqn kk)
theorem bi3[Z0](hd:0<d)(hr:NR n)(hm:∀h,Zl n ZX 0 h (.agg [Z_ n.Z8,b]))(hev:ZT ZX k .nil e ev)(he:EQ n e=true)(hvl:vn<e.length)(hx:AQ n vn kn)(hz:Dl n (Dg e s)≠0)(hs:s<2^64)(hb:yX bn bd)
  (hq:g.h.get q=gk n.Z8 b ev vn kn bn bd ks) (hqn:q<g.nx) (kk:∀g',Ug g g'->K (.agg [.bool (BZ n e s vn kn bn bd)]) g') :
  Zu C0 d 39 [ZZ q,ZW (s:Int)] g K KP :=
 sX gO (by kernel_rfl) (by simp[bH]) (CP hd hr hm hev he hvl hx hz hs hb hq hqn kk)
section
variable {b c:Nat}{l:List Nat}
theorem bi2{C:ZO}{ty kt et:Nat}(hu:C.P.underlying ty=some (.map kt et))(d:Nat)(rd:Option Nat)(t:T)(g:G):(bP C (.mapUpdate ty (.tmp a) (.tmp b) (.tmp c))).run (I C) d rd t g=dT (cL C.P kt) (λt=>ZY t a) (λt=>ZY t b) (λt=>ZY t c) t g:=by obtain⟨h,e1,j⟩:=aT (C:=C) (x:=.tmp a) (o:=.t a) rfl;obtain⟨k,f,l⟩:=aT (C:=C) (x:=.tmp b) (o:=.t b) rfl;obtain⟨e,i,m⟩:=aT (C:=C) (x:=.tmp c) (o:=.t c) rfl;rw[cd (s:=⟨dT (cL C.P kt) h.run k.run e.run⟩) rfl (by simp only[cP,e1,f,i,hu])];rw[show h.run=λt=>ZY t a from funext j,show k.run=λt=>ZY t b from funext l,show e.run=λt=>ZY t c from funext m]
theorem bi1{C:ZO}{ty:Nat}(t:T)(g:G):SO.foot C t g (.raw (.mapUpdate ty (.tmp a) (.tmp b) (.tmp c)))=am (an (ZY t a)):=by
 obtain⟨k,e1,h⟩:=aT (C:=C) (x:=.tmp a) (o:=.t a) rfl;show (aL C _).run t g=_;simp only[aL,e1,h]
 rfl
def G6(x:Bool):AV:=.ZH 40 [.agg [.bool x]] []
def wQ(f:Nat->Bool)(s:Nat):AV×AV:=(ZW (s:Int),G6 (f s))
theorem Yx(a b:Nat):ni (ZW (a:Int)) (ZW (b:Int))=some (decide (a=b)):=by show some (FL (a:Int) (b:Int))=_;rw[mK];congr 1;rw[Yj,decide_eq_true_iff,decide_eq_true_iff];omega
theorem L7{f:Nat->Bool}{a:Nat}{x:AV}:∀{l:List Nat},a ∉ l->L5 (ZW (a:Int)) x (l.map (wQ f))=some (l.map (wQ f)++[(ZW (a:Int),x)])
 |[],_=>rfl
 | b::r,h=>by have h1:a≠b:=λe=>h (by simp[e]);have ih:=L7 (f:=f) (x:=x) (a:=a) (l:=r) λe=>h (by simp[e]);rw[Qv,wQ,L5,Yx,Vf h1];dsimp only;rw[ih];rfl
theorem KW{f:Nat->Bool}{a:Nat}:∀{l:List Nat},a∈l->qg (ZW (a:Int)) (l.map (wQ f))=some (some (G6 (f a)))
 | b::r,h=>by
  rw[Qv,wQ,qg,Yx]
  by_cases e:a=b
  ·subst e;rw[Qe rfl]
  ·rw[Vf e];have:a∈r:=by simpa [e] using h
   exact KW this
def ktH[Z0]:Nat:=match C0.P.underlying 102 with|some (.map k _)=>k|_=>0
def etH[Z0]:Nat:=match C0.P.underlying 102 with|some (.map _ e)=>e|_=>0
theorem Xh[Z0]:C0.P.underlying 102=some (.map ktH etH):=by kernel_rfl
theorem W4[Z0]:cL C0.P ktH=.one (.int .u64):=by kernel_rfl
theorem bi0[Z0]:wm C0.P etH=some .Mq:=by kernel_rfl
theorem bh_[Z0]{rd:Option Nat}{id:Nat}{f:Nat->Bool}(h1:ZY t a=.hmap id)(h2:ZY t b=ZW (k:Int))(h3:ZY t c=G6 (f k))(hk:k ∉ l)(hg:g.h.get id=.map (l.map (wQ f))) :
  (bP C0 (.mapUpdate 102 (.tmp a) (.tmp b) (.tmp c))).run (I C0) d rd t g=.upd .undef (g.put id (.map ((l++[k]).map (wQ f)))):=by
 rw[bi2 Xh,W4];unfold dT;dsimp only;rw[h1,h2,h3,show lQ (.one (.int .u64)) (ZW (k:Int))=true from rfl];simp only[G.get_eq,hg,L7 hk];rw[K0];rfl
theorem Ta[Z0]{rd:Option Nat}{id:Nat}{f:Nat->Bool}(h1:ZY t a=.hmap id)(h2:ZY t b=ZW (k:Int))(hk:k∈l)(hg:g.h.get id=.map (l.map (wQ f))) :
  (bP C0 (.lookup 102 (.tmp a) (.tmp b) false)).run (I C0) d rd t g=.val (G6 (f k)):=by
 have:=Gn (a:=a) (b:=b) (ok:=false) Xh bi0 d rd t g;rw[show (SO.raw (.lookup 102 (.tmp a) (.tmp b) false)).run C0 d rd t g=(bP C0 (.lookup 102 (.tmp a) (.tmp b) false)).run (I C0) d rd t g from rfl]at this;rw[this,W4];unfold cW;dsimp only;rw[h1,h2,show lQ (.one (.int .u64)) (ZW (k:Int))=true from rfl];simp only[G.get_eq,hg,KW hk]
theorem bh9[Z0](d:Nat)(rd:Option Nat)(t:T)(g:G):(bP C0 (.makeMap 102 none)).run (I C0) d rd t g=.upd (.hmap g.nx) (g.new (.map [])):=by kernel_rfl
theorem mC(h:l[j]?=some a):l.take (j+1)=l.take j++[a]:=by obtain⟨x,hx,ht,-⟩:=ah (l:=l) (j:=j) (tI.1 h).1;rw[h]at hx;injection hx with hx;subst hx;exact ht
theorem bh8(h:(ER s)[j]?=some a):a ∉ (ER s).take j:=by
 intro hm;obtain⟨i,hi⟩:=QG hm;rw[aeE]at hi
 split at hi
 ·rename_i k;have h1:=(tI.1 h);have h2:=(tI.1 hi);have:=(acZ.1 (MF s)) i j h2.1 h1.1 k;omega
 ·cases hi
theorem wO[Z0]{b:AV}(hd:0<d)(hr:NR n)(hm:∀h,Zl n ZX 0 h (.agg [Z_ n.Z8,b]))(hev:ZT ZX k .nil e ev)(he:EQ n e=true)(hvl:vn<e.length)(hx:AQ n vn kn)(hz:∀s,s &&& ks=s->Dl n (Dg e s)≠0)(hks:ks<256)(hb:yX bn bd)
  (hq:g.h.get q=gk n.Z8 b ev vn kn bn bd ks) (hqn:q<g.nx) (kk:∀mp g',Fr g g'->g.nx<=mp->mp<g'.nx->g'.h.get mp=.map ((ER ks).map (wQ λs=>BZ n e s vn kn bn bd))->K (.hmap mp) g') :
  wp C0 d none be.code (Xs C0 d be.res K) (bk 0 [ZZ q] .nil) [] g:=by
 obtain⟨F,C⟩:∃F:Nat->Bool,F=λs=>BZ n e s vn kn bn bd:=⟨_,rfl⟩;rw[<-C]at kk;unfold be fk;dsimp only;have v:∀g,Kl (ZZ q) g=.upd (ZZ g.nx) (g.new (Z4 1 [[ZZ q]])):=λg=>rfl;have B:∀(g:G) (id m:Nat),fC (Z4 1 [[.Xu]]) g id 0 0 1 0 (.hmap m)=.upd .undef (g.put id (Z4 1 [[.hmap m]])):=λ_ _ _=>rfl;have A:g.h.get q=Z4 8 [[Z_ n.Z8,b,ev,Z_ (vn:Int),Z_ (kn:Int),Z_ bn,Z_ bd,ZW (ks:Int)]]:=hq;have ks1:=λg:G=>GG (d:=d) (s:=ks) (g:=g) hd;have R:¬g.nx=g.nx+1+1:=by omega
 have U:¬g.nx=g.nx+1:=by omega
 have V:¬q=g.nx+1+1:=by omega
 have W:¬q=g.nx+1:=by omega
 have X:¬q=g.nx:=by omega
 have Y:¬g.nx=g.nx+2:=by omega
 have Z:¬q=g.nx+2:=by omega
 simp only[sz,simprocAttr,v,bh9,B,R,U,V,W,X,Y,Z,A,fV,Vx,ks1];obtain⟨g1,c⟩:∃g1,g1=((((g.new (Z4 1 [[ZZ q]])).new (.map [])).new (Z4 1 [[.Xu]]))).put (g.nx+2) (Z4 1 [[.hmap (g.nx+1)]]):=⟨_,rfl⟩;rw[<-c];have e1:g1.h.get g.nx=Z4 1 [[ZZ q]]:=by rw[c];simp[Za];omega
 have M:g1.h.get (g.nx+1)=.map []:=by rw[c];simp[Za]
 have N:g1.h.get (g.nx+2)=Z4 1 [[.hmap (g.nx+1)]]:=by rw[c];simp[Za]
 have n1:g1.nx=g.nx+3:=by rw[c];simp
 have f1:Fr g g1:=by rw[c];exact⟨by simp;omega,λi hi=>by simp[Za,show ¬i=g.nx+2 by omega,show ¬i=g.nx+1 by omega,show ¬i=g.nx by omega]⟩
 clear c;have q1:g1.h.get q=Z4 8 [[Z_ n.Z8,b,ev,Z_ (vn:Int),Z_ (kn:Int),Z_ bn,Z_ bd,ZW (ks:Int)]]:=by rw[f1.2 q hqn,hq];rfl
 refine TV (ex:=.ret) (by intro h;cases h) hks (by simp[sx]) (by decide)
  (λj x=>(∀i,i<g.nx->x.h.get i=g.h.get i)/\x.h.get g.nx=Z4 1 [[ZZ q]]/\x.h.get (g.nx+2)=Z4 1 [[.hmap (g.nx+1)]]/\x.h.get (g.nx+1)=.map (((ER ks).take j).map (wQ F))) (λ_=>False) ?_ (λ_ _ _ _ h=>h) ?_ ?_ ?_ ?_
 ·rintro j x y - r ⟨a1,a2,l,a4⟩;exact⟨λi hi=>by rw[r i (by omega) (by omega),a1 i hi],by rw[r _ (by omega) (by omega),a2],by rw[r _ (by omega) (by omega),l],by rw[r _ (by omega) (by omega),a4]⟩
 ·exact⟨f1.2,e1,N,by rw[M];rfl⟩
 ·rintro j a g2 f ⟨a1,a2,l,a4⟩ P;have o:=(mO hks).1 (YH f);have O:a<=ks:=by rw[<-o];exact TH
  simp only[eP,sz,simprocAttr];refine⟨Fr.refl _,λg3 hn3 hg3 _=>?_⟩;have b1:g3.h.get g.nx=Z4 1 [[ZZ q]]:=by rw[hg3 _ (by omega),a2]
  have b2:g3.h.get (g.nx+2)=Z4 1 [[.hmap (g.nx+1)]]:=by rw[hg3 _ (by omega),l]
  have E:g3.h.get (g.nx+1)=.map (((ER ks).take j).map (wQ F)):=by rw[hg3 _ (by omega),a4]
  have H:g3.h.get q=gk n.Z8 b ev vn kn bn bd ks:=by rw[hg3 _ (by omega),a1 q hqn,hq]
  have J:∀i,i<g.nx->g3.h.get i=g.h.get i:=λi hi=>by rw[hg3 _ (by omega),a1 i hi]
  have u:F a=BZ n e a vn kn bn bd:=by rw[C]
  simp only[eQ,sz,simprocAttr,sf,b1,b2];refine bi4 hd hr hm hev he hvl hx (hz a o) (by omega) hb (by simpa using H) (by simp;omega) λg4 ug4=>?_;rw[<-u];have n4:g3.nx<=g4.nx:=by have:=ug4.nx;simp at this;omega
  have G4:∀i,i<g3.nx->g4.h.get i=g3.h.get i:=λi hi=>by have:=ug4.up.1 i (by simp;omega);simpa using this
  have Q:∀i∈g4.lg,g3.nx<=i:=λi hi=>by have:=ug4.up.2 i hi;simp at this;omega
  have L:g4.h.get (g.nx+1)=.map (((ER ks).take j).map (wQ F)):=by rw[G4 _ (by omega),E]
  have up:∀(t:T) (g':G) (rd:Option Nat),ZY t 12=.hmap (g.nx+1)->ZY t 13=ZW (a:Int)->ZY t 17=.ZH 40 [.agg [.bool (F a)]] []->g'.h.get (g.nx+1)=.map (((ER ks).take j).map (wQ F)) ->
   (bP C0 (.mapUpdate 102 (.tmp 12) (.tmp 13) (.tmp 17))).run (I C0) d rd t g'=.upd .undef (g'.put (g.nx+1) (.map (((ER ks).take (j+1)).map (wQ F)))):=λt g' rd h1 h2 h3 h4=>by
   rw[bh_ h1 h2 h3 (bh8 f) h4,mC f]
  simp only[sz,simprocAttr,sf,up,L,bi1];refine⟨?_,?_⟩
  ·simp only[I9,Nq,DI,ML];refine aK (JO (true::(false::(true::[])))) [(0,4),(1,4)] (by simp[ZL,am,aA,nV,dj]) (by decide) ?_;intro pp p x y hx D;simp only[Y0,QA,TP]at p;rcases p with rfl|rfl<;>(simp only[adc,Vb,P5]at hx D;subst hx;subst D)
   ·refine jB rfl rfl rfl λi hi hc=>?_;simp[am,yi]at hc;subst hc;have:=Q _ hi;omega
   ·exact jB rfl rfl rfl λi hi hc=>by simp[aA]at hc
  ·have z:=ug4.nx;simp at z;exact⟨by omega,by rw[bJ,G4 _ (by omega)],by rw[bJ,G4 _ (by omega)],.inl ⟨λi hi=>by rw[bJ,G4 _ (by omega),J i hi],by rw[bJ,G4 _ (by omega),b1],by rw[bJ,G4 _ (by omega),b2]⟩⟩
 ·rintro g' ⟨a1,a2,l,a4⟩ hn w;rw[Xo]at a4;simp only[sz,simprocAttr,eR,l];refine jE w ?_;simp only[sz,simprocAttr];refine kk _ _ ⟨by simp;omega,λi hi=>?_⟩ (by omega) (by simp;omega) ?_
  ·simp[Za,show ¬i=g1.nx by omega,a1 i hi]
  ·simp[Za,show ¬g.nx+1=g1.nx by omega];rw[a4]
 ·exact λ_ h=>h.elim
end
def AT(R:Nat->Bool)(s:Nat):Bool:=R s&&(ER s).all λt=>decide (t=s) || !R t
def EO(s:Nat):Nat:=((List.range 8).filter λi=>s.testBit i).length
def zc(a b:Nat):Prop:=EO a<EO b\/(EO a=EO b/\a<b)
def BL[Z0]:Prop:=∀{d b:Nat} {u:AV} {g:G} {L:List Nat} {K:AV->G->Prop} {D:ZU->Prop},0<d->(∀x∈L,x<256)->L.Nodup->Own g b u 1 (L.map cu)->(L=[]->u=.Z6) ->
 (∀(R:List Nat) (g':G),R.Perm L->R.Pairwise zc->Own g' b u 1 (R.map cu)->g.nx<=g'.nx->(∀i,Zi u≠some i->g'.h.get i=g.h.get i)->K (.Zz []) g')->(ae C0 d 85 [u,.ZH 86 [] []] g).sat K g D
theorem Jb(s:Nat):(ER s).length<=256:=by rw[ER,List.length_reverse];exact Y1 (TQ _ _) (by simp)
theorem Uj(h1:a &&& s=a)(h2:s &&& k=s):a &&& k=a:=by rw[<-h1,Nat.and_assoc,h2]
theorem Lh[Z0](hS:BL){fn:Nat}{cap:List AV}{R:Nat->Bool}(hd:0<d)(hks:ks<256)(hq:g.h.get q=gk gr b ev v value bn bd ks)(hqn:q<g.nx)
  (hR:∀a,a &&& ks=a->∀(g1:G) (K':AV->G->Prop) (D:ZU->Prop),g.nx<=g1.nx->(∀i,i<g.nx->g1.h.get i=g.h.get i)->(∀g2,g1.nx<=g2.nx->(∀i,g2.h.get i=g1.h.get i)->K' (.bool (R a)) g2)->(dQ C0 (I C0) d (.ZH fn [] cap) [ZW (a:Int)] g1).sat K' g1 D)
  (kk:∀(u:AV) (g':G) (L:List Nat) (B:Nat),Fr g g'->g.nx<=B->L.Perm ((ER ks).filter (AT R))->L.Pairwise zc->Own g' B u 1 (L.map cu)->K u g') :
  wp C0 d none bX.code (Xs C0 d bX.res K) (bk 0 [ZZ q,.ZH fn [] cap] .nil) [] g:=by
 unfold bX iW;dsimp only;have X:∀g,Kl (.ZH fn [] cap) g=.upd (ZZ g.nx) (g.new (Z4 1 [[.ZH fn [] cap]])):=λg=>rfl;have h5:g.h.get q=Z4 8 [[Z_ gr,b,ev,Z_ v,Z_ value,Z_ bn,Z_ bd,ZW (ks:Int)]]:=hq;have ks1:=λ(g:G) (s:Nat)=>GG (d:=d) (s:=s) (g:=g) hd;have z1:¬q=g.nx+1:=by omega
 have z2:¬q=g.nx:=by omega
 simp only[sz,simprocAttr,X,h5,fV,Vx,ks1,z1,z2];obtain⟨g1,f⟩:∃g1,g1=(g.new (Z4 1 [[.ZH fn [] cap]])).new (Z4 1 [[.Z6]]):=⟨_,rfl⟩;rw[<-f];have e1:g1.h.get g.nx=Z4 1 [[.ZH fn [] cap]]:=by rw[f];simp[Za]
 have e2:g1.h.get (g.nx+1)=Z4 1 [[.Z6]]:=by rw[f];simp[Za]
 have n1:g1.nx=g.nx+2:=by rw[f];simp
 have f1:Fr g g1:=by rw[f];exact (Fr.new _ _).trans (Fr.new _ _)
 clear f;obtain⟨LL,n⟩:∃LL,LL=λj=>((ER ks).take j).filter (AT R):=⟨_,rfl⟩;have J:∀j,(LL j).length<=256:=λj=>by rw[n];refine Y1 (TQ _ _) ?_;rw[Rk];exact Y1 (Nat.min_le_right _ _) (Jb ks)
 refine TV (ex:=.ret) (by intro h;cases h) hks (by simp[sx]) (by decide)
  (λj x=>Fr g x/\x.h.get g.nx=Z4 1 [[.ZH fn [] cap]]/\∃u,x.h.get (g.nx+1)=Z4 1 [[u]]/\Own x (g.nx+4) u 1 ((LL j).map cu)/\(LL j=[]->u=.Z6)/\g.nx+2<=x.nx) (λ_=>False) ?_ (λ_ _ _ _ h=>h) ?_ ?_ ?_ ?_
 ·rintro j x y hn r ⟨a1,a2,u,E,a4,aN,a5⟩;exact⟨⟨by have:=a1.1;omega,λi hi=>by rw[r i (by omega) (by omega),a1.2 i hi]⟩,by rw[r _ (by omega) (by omega),a2],u,by rw[r _ (by omega) (by omega),E],a4.fr hn λi hi=>r i (by have:=(a4.lt hi).1;omega) (by have:=(a4.lt hi).1;omega),aN,by omega⟩
 ·exact⟨f1,e1,.Z6,e2,.inl ⟨rfl,by rw[n];rfl⟩,λ_=>rfl,by omega⟩
 ·rintro j a g2 N ⟨a1,a2,u,E,a4,aN,a5⟩ h4;have A:=(mO hks).1 (YH N);have h7:a<=ks:=by rw[<-A];exact TH
  simp only[iz,sz,simprocAttr];have k:LL (j+1)=LL j++if AT R a=true then [a] else []:=by rw[n];show ((ER ks).take (j+1)).filter (AT R)=_;rw[mC N,ad3,aeh,aes]
  refine⟨⟨by simp,λi hi=>by simp[Za,show ¬i=g2.nx by omega]⟩,λg4 hn4 hg4 hl4=>?_⟩;have F:g4.h.get g2.nx=Z4 1 [[ZW (a:Int)]]:=by rw[hg4 _ (by omega),ZN rfl]
  have c:∀i,i≠g1.nx+1->i≠g2.nx->g4.h.get i=g2.h.get i:=λi h1 h2=>by rw[hg4 i h1,ZF h2,ZF h2]
  have c0:g4.h.get g.nx=Z4 1 [[.ZH fn [] cap]]:=by rw[c _ (by omega) (by omega),a2]
  have H:g4.h.get (g.nx+1)=Z4 1 [[u]]:=by rw[c _ (by omega) (by omega),E]
  have cF:Fr g g4:=⟨by omega,λi hi=>by rw[c i (by omega) (by omega),a1.2 i hi]⟩;have cO:Own g4 (g.nx+4) u 1 ((LL j).map cu):=a4.fr (by omega) λi hi=>c i (by have:=(a4.lt hi).1;omega) (by have:=(a4.lt hi).2;omega);simp only[iB,sz,simprocAttr,c0,F];refine hR a A _ _ _ cF.1 cF.2 λg9 n9 h9=>?_;have F:g9.h.get g2.nx=Z4 1 [[ZW (a:Int)]]:=by rw[h9,F]
  have c0:g9.h.get g.nx=Z4 1 [[.ZH fn [] cap]]:=by rw[h9,c0]
  have H:g9.h.get (g.nx+1)=Z4 1 [[u]]:=by rw[h9,H]
  have cF:Fr g g9:=⟨by have:=cF.1;omega,λi hi=>by rw[h9,cF.2 i hi]⟩;have cO:Own g9 (g.nx+4) u 1 ((LL j).map cu):=cO.fr n9 λi hi=>h9 i;have Z:∃nt t ps ss bd st pe,g9.h.get (g1.nx+1)=.loop nt t ps ss bd g1.nx st pe:=by rw[h9];exact hl4
  by_cases hra:R a=true
  rotate_left
  ·have w:R a=false:=by simpa using hra
   have:AT R a=false:=by rw[AT,w];rfl
   rw[this]at k;simp only[Uc,if_false,VM]at k;simp only[w,sz,simprocAttr];exact⟨n9,h9 _,h9 _,.inl ⟨cF,c0,u,H,by rw[k];exact cO,by rw[k];exact aN,by omega⟩⟩
  simp only[hra,sz,simprocAttr,F,ks1];have l:a<256:=by omega
  refine br7 (ex:=.exit 1) (by intro h;cases h) l (by simp[sx]) (by decide) Z
   (λj2 x=>Fr g9 x/\∀t,t∈(ER a).take j2->t=a\/R t=false) (λx=>Fr g9 x/\∃t,t∈ER a/\t≠a/\R t=true) ?_ ?_ ?_ ?_ ?_ ?_
  ·rintro j2 x y hn r ⟨b1,b2⟩;exact⟨⟨by have:=b1.1;omega,λi hi=>by rw[r i (by omega),b1.2 i hi]⟩,b2⟩
  ·rintro x y hn r ⟨b1,b2⟩;exact⟨⟨by have:=b1.1;omega,λi hi=>by rw[r i (by omega),b1.2 i hi]⟩,b2⟩
  ·exact⟨Fr.refl _,λt h=>by simp at h⟩
  ·rintro j2 p m C ⟨b1,b2⟩ O;have h6:=(mO l).1 (YH C);simp only[iA,sz,simprocAttr];refine⟨ZV _,λg6 hn6 hg6=>?_⟩;have Q:g6.h.get g2.nx=Z4 1 [[ZW (a:Int)]]:=by rw[hg6 _ (by omega),b1.2 _ (by omega),F]
   have d0:g6.h.get g.nx=Z4 1 [[.ZH fn [] cap]]:=by rw[hg6 _ (by omega),b1.2 _ (by omega),c0]
   have dF:Fr g9 g6:=⟨by have:=b1.1;omega,λi hi=>by rw[hg6 i (by omega),b1.2 i hi]⟩;have dF2:Fr g g6:=cF.trans dF;have tk:=mC C
   by_cases et:p=a
   ·have et':(p:Int)=(a:Int):=by omega
    simp only[d9,sz,simprocAttr,Q,et'];refine⟨ZV _,.inl ⟨dF,λt ht=>?_⟩⟩;rw[tk,Tn,Wa]at ht;rcases ht with ht|ht
    ·exact b2 t ht
    ·exact .inl (by rw[ht,et])
   ·have et':¬(p:Int)=(a:Int):=by omega
    simp only[d9,sz,simprocAttr,Q,d0,et'];refine hR p (Uj h6 A) _ _ _ dF2.1 dF2.2 λg8 n8 h8=>?_;have dF8:Fr g9 g8:=⟨by have:=dF.1;omega,λi hi=>by rw[h8,dF.2 i hi]⟩
    by_cases hrt:R p=true
    ·simp only[hrt,sz,simprocAttr];exact⟨n8,h8 _,.inr ⟨dF8,p,YH C,et,hrt⟩⟩
    ·have z:R p=false:=by simpa using hrt
     simp only[z,sz,simprocAttr];refine⟨n8,h8 _,.inl ⟨dF8,λt ht=>?_⟩⟩;rw[tk,Tn,Wa]at ht;rcases ht with ht|ht
     ·exact b2 t ht
     ·exact .inr (by rw[ht,z])
  ·rintro m ⟨b1,b2⟩ O;rw[Xo]at b2;have:AT R a=true:=by
    rw[AT,hra,U2,Xw];intro t ht;rcases b2 t ht with h|h
    ·simp[h]
    ·simp[h]
   rw[this]at k;simp only[if_true]at k;have d5:m.h.get (g.nx+1)=Z4 1 [[u]]:=by rw[b1.2 _ (by omega),H]
   have Q:m.h.get g2.nx=Z4 1 [[ZW (a:Int)]]:=by rw[b1.2 _ (by omega),F]
   simp only[iC,sz,simprocAttr,d5,Q];have cO5:=cO.step b1;refine aP (b:=g.nx+4) (new:=[cu a]) (cO5.fr (g':=_) (by simp) λi hi=>?_) (by simp[sx,sy,cu]) (by simp;omega) (by simp[aQ];have:=J j;omega) λv2 g7 hv2 n2 f2 w2 l2=>?_
   ·have:=(cO5.lt hi).2;simp[Za];omega
   have P:=hv2.cell;have d7:g7.h.get (g.nx+1)=Z4 1 [[u]]:=by rw[f2 _ (by simp;omega) (λe=>by have:=(cO5.lt e).1;omega)];simp[Za,show ¬g.nx+1=m.nx by omega,d5]
   simp only[sz,simprocAttr,d7,P.1,P.2];have o:∀i,i<m.nx->i≠g.nx+1->Zi u≠some i->(g7.put (g.nx+1) (Z4 1 [[v2]])).h.get i=m.h.get i:=λi h1 h2 T=>by simp only[G.put_h,Za,ZF h2];rw[f2 i (by simp;omega) T];simp[Za,show ¬i=m.nx by omega]
   have ha:m.nx+1<=g7.nx:=by simpa using n2
   have hu:∀i,i<g.nx+4->Zi u≠some i:=λi h e=>by have:=(cO5.lt e).1;omega
   have m1:=o g1.nx (by omega) (by omega) (hu _ (by omega));have m2:=o (g1.nx+1) (by omega) (by omega) (hu _ (by omega));have m3:=o g.nx (by omega) (by omega) (hu _ (by omega));have U:Fr g (g7.put (g.nx+1) (Z4 1 [[v2]])):=⟨by simp;omega,λi hi=>by rw[o i (by omega) (by omega) (hu _ (by omega)),b1.2 i (by omega),cF.2 i hi]⟩;simp only[G.put_h,Za]at m1 m2 m3;refine⟨by omega,?_,?_,.inl ⟨U,?_,v2,rfl,?_,λh=>by rw[k]at h;simp at h,by omega⟩⟩
   ·rw[<-h9,<-b1.2 _ (by omega)];exact m1
   ·rw[<-h9,<-b1.2 _ (by omega),<-m2,bJ,bJ]
   ·rw[m3,b1.2 _ (by omega),c0]
   ·rw[k,K0];refine hv2.fr (by simp) λi hi=>?_;have:=(hv2.lt hi).1;simp[Za,show ¬i=g.nx+1 by omega]
  ·rintro m ⟨b1,p,h1,h2,T⟩ O;have:AT R a=false:=by rw[AT,<-HF,Zk,Xw];rintro⟨-,h⟩;have:=h p h1;rw[T]at this;simp[h2]at this
   rw[this]at k;simp only[Uc,if_false,VM]at k;simp only[sz,simprocAttr];exact⟨by have:=b1.1;omega,by rw[b1.2 _ (by omega),h9],by rw[b1.2 _ (by omega),h9],.inl ⟨cF.trans b1,by rw[b1.2 _ (by omega),c0],u,by rw[b1.2 _ (by omega),H],by rw[k];exact cO.step b1,by rw[k];exact aN,by have:=b1.1;omega⟩⟩
 ·intro g2 ⟨a1,a2,u,E,a4,aN,a5⟩ h4;rw[show LL (ER ks).length=(ER ks).filter (AT R) by rw[n];show ((ER ks).take _).filter _=_;rw[Xo]]at a4 aN;simp only[iD,sz,simprocAttr,E];intro Y;have V:∀x∈(ER ks).filter (AT R),x<256:=λx hx=>by
   have:=(mO hks).1 (adO.1 hx).1;have:x<=ks:=by rw[<-this];exact TH
   omega
  have W:((ER ks).filter (AT R)).Nodup:=((MF ks).imp λh=>by omega).filter _;refine hS hd V W a4 aN λL g3 hp hpw ho hn3 hf3=>?_;have hu:∀i,i<g.nx+4->Zi u≠some i:=λi h e=>by have:=(a4.lt e).1;omega
  have d3:g3.h.get (g.nx+1)=Z4 1 [[u]]:=by rw[hf3 _ (hu _ (by omega)),E]
  have M:g3.h.get g1.nx=.ZP true:=by rw[hf3 _ (hu _ (by omega)),Y]
  simp only[sz,simprocAttr,d3];refine jE M ?_;simp only[sz,simprocAttr];refine kk u _ L (g.nx+4) ⟨by simp;omega,λi hi=>?_⟩ (by omega) hp hpw ?_
  ·simp[Za,show ¬i=g1.nx by omega];rw[hf3 i (hu _ (by omega)),a1.2 i hi]
  ·refine ho.fr (by simp) λi hi=>?_;have:=(a4.lt hi).1;simp[Za,show ¬i=g1.nx by omega]
 ·exact λ_ h=>h.elim
def pu(x:Nat):Nat:=(x / 2 ^ 1 &&& 6148914691236517205)+(x &&& 6148914691236517205)
def nD(x:Nat):Nat:=(x / 2 ^ 2 &&& 3689348814741910323)+(x &&& 3689348814741910323)
def c8(x:Nat):Nat:=(x / 2 ^ 4+x) &&& 1085102592571150095
theorem Nc:∀x:Nat,x<256->pu x<256/\nD (pu x)<256/\c8 (nD (pu x))<256/\c8 (nD (pu x))=EO x/\EO x &&& 127=EO x/\EO x<=8:=by decide +kernel
theorem bh7(q:Nat)(h:q<=8):bN .and (Z_ (q:Int)) (Z_ 127)=.val (Z_ (q:Int)) :=
 match q,h with
 |0,_=>by kernel_rfl
 |1,_=>by kernel_rfl
 |2,_=>by kernel_rfl
 |3,_=>by kernel_rfl
 |4,_=>by kernel_rfl
 |5,_=>by kernel_rfl
 |6,_=>by kernel_rfl
 |7,_=>by kernel_rfl
 |8,_=>by kernel_rfl
theorem bh6[Z0]{x:Nat}(hd:0<d)(hx:x<256):ae C0 d 122 [ZW (x:Int)] g=.val (Z_ (EO x:Int)):=by
 obtain⟨h1,h2,a,h4,h5,f⟩:=Nc x hx;rw[Zn];refine cz s8 (xs:=[ZW (x:Int)]) (by simp only[aD,aU]) (by simp[fQ]) hd ?_;have l:∀x:Nat,x<256->bN .shr (ZW (x:Int)) (ZW 1)=.val (ZW ((x / 2 ^ 1:Nat):Int)):=λx h=>jX .u64 x 1 (by omega);have m:∀x:Nat,x<256->bN .shr (ZW (x:Int)) (ZW 2)=.val (ZW ((x / 2 ^ 2:Nat):Int)):=λx h=>jX .u64 x 2 (by omega);have n:∀x:Nat,x<256->bN .shr (ZW (x:Int)) (ZW 4)=.val (ZW ((x / 2 ^ 4:Nat):Int)):=λx h=>jX .u64 x 4 (by omega);have o:∀x:Nat,x<256->bN .shr (ZW (x:Int)) (ZW 8)=.val (ZW 0):=λx h=>by have:=jX .u64 x 8 (by omega);rw[VW (by omega)]at this;exact this
 have p:∀x:Nat,x<256->bN .shr (ZW (x:Int)) (ZW 16)=.val (ZW 0):=λx h=>by have:=jX .u64 x 16 (by omega);rw[VW (by omega)]at this;exact this
 have q:∀x:Nat,x<256->bN .shr (ZW (x:Int)) (ZW 32)=.val (ZW 0):=λx h=>by have:=jX .u64 x 32 (by omega);rw[VW (by omega)]at this;exact this
 have d1:∀x k:Nat,x<256->x / 2 ^ k<256:=λx k h=>Nb (Y2 _ _) h;have a1:∀x:Nat,x<256->bN .and (ZW (x:Int)) (ZW 6148914691236517205)=.val (ZW ((x &&& 6148914691236517205:Nat):Int)):=λx h=>qK x 6148914691236517205 (by omega) (by decide);have a2:∀x:Nat,x<256->bN .and (ZW (x:Int)) (ZW 3689348814741910323)=.val (ZW ((x &&& 3689348814741910323:Nat):Int)):=λx h=>qK x 3689348814741910323 (by omega) (by decide);have e:∀x:Nat,x<512->bN .and (ZW (x:Int)) (ZW 1085102592571150095)=.val (ZW ((x &&& 1085102592571150095:Nat):Int)):=λx h=>qK x 1085102592571150095 (by omega) (by decide);have w1:IntKind.wrap .u64 (((x / 2 ^ 1 &&& 6148914691236517205:Nat):Int)+((x &&& 6148914691236517205:Nat):Int))=((pu x:Nat):Int):=by rw[pu]at h1;rw[du (by omega) (by omega),pu];omega
 obtain⟨y,i⟩:∃y,y=pu x:=⟨_,rfl⟩;rw[<-i]at h1 h2 a h4 w1;have c:IntKind.wrap .u64 (((y / 2 ^ 2 &&& 3689348814741910323:Nat):Int)+((y &&& 3689348814741910323:Nat):Int))=((nD y:Nat):Int):=by rw[nD]at h2;rw[du (by omega) (by omega),nD];omega
 obtain⟨z,hz⟩:∃z,z=nD y:=⟨_,rfl⟩;rw[<-hz]at h2 a h4 c;have j:=d1 z 4 h2;have r:IntKind.wrap .u64 (((z / 2 ^ 4:Nat):Int)+(z:Int))=((z / 2 ^ 4+z:Nat):Int):=by rw[du (by omega) (by omega)];omega
 have b:=e (z / 2 ^ 4+z) (by omega);rw[show z / 2 ^ 4+z &&& 1085102592571150095=c8 z from rfl,h4]at b;rw[h4]at a;have s:IntKind.wrap .u64 ((EO x:Int)+0)=(EO x:Int):=by rw[du (by omega) (by omega)];omega
 have w5:IntKind.wrap .i64 (EO x:Int)=(EO x:Int):=aq;have a4:=bh7 (EO x) f;simp only[sz,simprocAttr,fQ,l x hx,a1 _ (d1 x 1 hx),a1 x hx,w1,m y h1,a2 _ (d1 y 2 h1),a2 y h1,c,n z h2,r,b,o _ a,p _ a,q _ a,s,w5,a4]
theorem Xe[Z0]{x:Nat}(hd:0<d)(hx:x<256):ae C0 d 87 [ZW (x:Int)] g=.val (Z_ (EO x:Int)):=by rw[Zn];refine cz wo (xs:=[ZW (x:Int)]) (by simp only[aD,aU]) (by simp[gU]) hd ?_;have k:=λg=>bh6 (d:=d+1) (g:=g) (abc d) hx;simp only[sz,simprocAttr,gU,k]
def uo(a b:Nat):Int:=if EO a=EO b then (if a<b then -1 else 1) else (EO a:Int) - EO b
theorem OK{b:Nat}:uo a b<0↔zc a b:=by
 unfold uo zc
 repeat' split
 all_goals omega
theorem bh5[Z0]{b:Nat}(hd:0<d)(ha:a<256)(hb:b<256):af (I C0) d g 86 [ZW (a:Int),ZW (b:Int)]=.val (Z_ (uo a b)):=by
 refine cz qG (xs:=[ZW (a:Int),ZW (b:Int)]) (by simp only[aD,aU]) (by simp[ck]) hd ?_;have k:=λg=>Xe (d:=d+1) (g:=g) (abc d) ha;have k2:=λg=>Xe (d:=d+1) (g:=g) (abc d) hb;have p1:=(Nc a ha).2.2.2.2.2;have p2:=(Nc b hb).2.2.2.2.2;have w:bN .sub (Z_ (EO a:Int)) (Z_ (EO b:Int))=.val (Z_ ((EO a:Int) - EO b)):=by rw[I3,aq]
 by_cases c:EO a=EO b
 ·have e:(EO a:Int) - EO b=0:=by omega
  rw[e]at w
  by_cases c2:a<b
  ·have h:(a:Int)<(b:Int):=by omega
   rw[uo,ZN c,ZN c2];simp only[sz,simprocAttr,ck,k,k2,w,h]
  ·have h:¬(a:Int)<(b:Int):=by omega
   rw[uo,ZN c,ZF c2];simp only[sz,simprocAttr,ck,k,k2,w,h]
 ·have e:¬(EO a:Int) - EO b=0:=by omega
  rw[uo,ZF c];simp only[sz,simprocAttr,ck,k,k2,w,e]
theorem Ps[Z0]:C0.P.underlying 47=some (.int .i64):=by kernel_rfl
section
variable {p:Nat}
theorem IF{n:Zv}(h:NR n){p q:Nat->Bool}(hpq:∀i,p i=true->q i=true):∀j:Nat,GW n p j<=GW n q j
 |0=>ael _
 | j+1=>by
  have ih:=IF h hpq j;have hw:=zz h (Ay (λc hc=>(h.cs c hc).1) (j:Int));rw[GW,GW]
  by_cases c:p j=true
  ·rw[ZN c,ZN (hpq j c)];omega
  ·rw[ZF c]
   split<;>omega
theorem yG(h:NR n)(hz:Dl n e≠0):Dl n (Dg e s)≠0:=by
 have h1:Dl n e<=Dl n (Dg e s):=by
  rw[t_,t_];refine IF h (λi hi=>?_) _;rw[Dk,Ee]at hi ⊢;intro k hk;rw[mP]at hk;rw[Eh e s k hk,Ns]
  split
  ·exact hi k hk
  ·exact .inl (by decide)
 have:=bj4 h e;omega
theorem WI[Z0](hd:0<d):af (I C0) d g 40 [.agg [.bool x]]=.val (.bool x):=by refine dA pC (xs:=[.agg [.bool x]]) rfl (by simp[d8]) hd ?_;simp only[sz,simprocAttr,d8,gE]
theorem RI[Z0](hd:0<d):dQ C0 (I C0) d (G6 x) [] g=.val (.bool x):=by
 have e:dQ C0 (I C0) d (G6 x) [] g=af (I C0) d g 40 [.agg [.bool x]]:=by kernel_rfl
 rw[e,WI hd]
theorem bh4[Z0]:((C0.ext 40).isSome || C0.Wd 40)=true:=by kernel_rfl
theorem bh3[Z0]{n:Nat}(h:ZY t n=G6 x):SO.foot C0 t g (.dyn (.t n) [])={ rd:=[],sr:=[],soft:=[],big:=false }:=by
 unfold SO.foot;dsimp only[Od.get];rw[h];unfold G6;dsimp only;rw[bh4]
 rfl
theorem bh2[Z0](d:Nat)(cap xs:List AV)(g:G):dQ C0 (I C0) d (.ZH 48 [] cap) xs g=XV ((I C0).call d 48 (xs++cap) g):=by kernel_rfl
theorem bh1[Z0](d:Nat)(cap xs:List AV)(g:G):dQ C0 (I C0) d (.ZH 52 [] cap) xs g=XV ((I C0).call d 52 (xs++cap) g):=by kernel_rfl
theorem bh0[Z0]{m id:Nat}{F:Nat->Bool}(hd:0<d)(hm:g.h.get m=Z4 1 [[.hmap id]])(hid:g.h.get id=.map ((ER ks).map (wQ F)))(ha:a∈ER ks)(k:∀g2,g.nx<=g2.nx->(∀i,g2.h.get i=g.h.get i)->K (.bool (F a)) g2) :
  (dQ C0 (I C0) d (.ZH 48 [] [ZZ m]) [ZW (a:Int)] g).sat K g D:=by
 rw[bh2];refine j9 wV (by simp[iK]) ?_;have lk:∀(t:T) (rd:Option Nat),ZY t 4=.hmap id->ZY t 5=ZW (a:Int)->(bP C0 (.lookup 102 (.tmp 4) (.tmp 5) false)).run (I C0) d rd t g=.val (G6 (F a)):=λt rd h1 h2=>Ta h1 h2 ha hid;have kc:=λg:G=>RI (x:=F a) (g:=g) hd;simp only[sz,simprocAttr,iK,hm,lk,kc];exact k _ (ZV _) λ_=>rfl
theorem bg_[Z0]{m id:Nat}{F:Nat->Bool}(hd:0<d)(hks:ks<256)(hm:g.h.get m=Z4 1 [[.hmap id]])(hid:g.h.get id=.map ((ER ks).map (wQ F)))(hp:g.h.get p=Z4 1 [[ZZ q]])(hq:g.h.get q=gk gr b ev v value bn bd ks)(ha:a<256)(k:∀g2,g.nx<=g2.nx->(∀i,g2.h.get i=g.h.get i)->K (.bool (!F (EN ks a))) g2) :
  (dQ C0 (I C0) d (.ZH 52 [] [ZZ m,ZZ p]) [ZW (a:Int)] g).sat K g D:=by
 rw[bh1];refine j9 zV (by simp[kP]) ?_;have e:g.h.get q=Z4 8 [[Z_ gr,b,ev,Z_ v,Z_ value,Z_ bn,Z_ bd,ZW (ks:Int)]]:=hq;have c:EN ks a∈ER ks:=by rw[mO hks];apply adb;intro i;simp only[EN,ad2,aeu];cases ks.testBit i<;>cases a.testBit i<;>rfl
 have kn:=D1 (m:=ks) (n:=a) (by omega) (by omega);have lk:∀(t:T) (rd:Option Nat) (g':G),ZY t 5=.hmap id->ZY t 11=ZW ((EN ks a:Nat):Int)->g'.h.get id=.map ((ER ks).map (wQ F))->(bP C0 (.lookup 102 (.tmp 5) (.tmp 11) false)).run (I C0) d rd t g'=.val (G6 (F (EN ks a))):=λt rd g' h1 h2 h3=>Ta h1 h2 c h3;have kc:=λg:G=>RI (x:=F (EN ks a)) (g:=g) hd;simp only[sz,simprocAttr,sf,kP,hm,hp,e,hid,fV,Vx,kn,lk,kc,yB,bh3];refine⟨?_,k _ (by simp;omega) λi=>by simp⟩;simp only[I9,Nq,DI,ML];refine xR (false::(Vk (Zb []))) [] (by simp[ZL]) rfl (by decide) (λpp hpp=>by cases hpp)
theorem bg9[Z0](d:Nat)(a b:AV)(g:G):∃v,(I C0).call d 83 [a,b] g=.ok v g:=by
 have key:=j5 (C:=C0) (d:=d) (f:=83) («as»:=[a,b]) (g:=g) (K:=λv g'=>g'=g) lE (by simp[da]) ?_
 ·cases hc:(I C0).call d 83 [a,b] g with
  |fail=>rw[hc]at key;exact key.elim
  |ok v g'=>rw[hc]at key;exact⟨v,by rw[show g'=g from key]⟩
 have e:uz true (.iface true) .tO .tO=.val (.bool false):=rfl;simp only[da,sx,rm];simp only[sz,simprocAttr,e]
theorem bg8[Z0]{x:Int}{K:G->Prop}(hp:g.h.get p=Z4 1 [[u]])(hq:g.h.get q=Z4 1 [[w]])(hpq:p≠q)(hk:K ((g.put p (Z4 1 [[.Z6]])).put q (Z4 1 [[Z_ x]]))):UN C0 d 83 (.J7 47 (Z_ x)) [ZZ p,ZZ q] g K:=by refine O9 lE (by simp[da]) ?_;unfold da;dsimp only;refine⟨rfl,trivial,?_⟩;refine bg (by kernel_rfl) ?_;have e:uz true (.iface true) (.J7 47 (Z_ x)) .tO=.val (.bool true):=rfl;simp only[sz,simprocAttr,bf];rw[aV];refine bp (by kernel_rfl) ?_;simp only[sz,simprocAttr,e];rw[bG];simp only[sz,simprocAttr];rw[cg];show U5 C0 d ([oM 10 2]++[⟨some 11,none,.raw (.typeAssert (.tmp 10) 20 47 true)⟩,oM 9 11,Vz 12 9 0,Vz 13 9 1,oM 3 12,oM 4 13]) _ _ _ _;refine cI (by kernel_rfl) ?_;simp only[sz,simprocAttr];refine GO (v:=Z_ x) (ik:=.i64) (by simp[sx]) Ps ?_;refine bg (by kernel_rfl) ?_;simp only[sz,simprocAttr,bf,aa];rw[aV,cg];refine bp (by kernel_rfl) ?_;simp only[sz,simprocAttr];rw[bG];simp only[sz,simprocAttr];rw[ig,aV];unfold jQ;refine bp (by kernel_rfl) ?_;simp only[sz,simprocAttr];refine BH (by kernel_rfl) ?_;simp only[sz,simprocAttr,hp,hq,ZF (Vw hpq)];exact⟨rfl,hk⟩
theorem Bk[Z0]{cap:List AV}{err:Int}{L:List Nat}(hs:nZ C0 f=false)(hL:err≠0->L=[])
  (hc:∀g',Fr g g'->Zu C0 d f cap g' (λu g2=>err=0/\Fr g' g2/\Own g2 g'.nx u 1 (L.map cu)) (λv g2=>err≠0/\Fr g' g2/\v=.J7 47 (Z_ err)))
  (kk:∀u g' B,Own g' B u 1 (L.map cu)->K (.Zz [u,Z_ err]) g'):Zu C0 d 44 [.ZH f [] cap] g K KP:=by
 refine gq y6 (by simp[jk]) ?_;unfold jk;dsimp only;refine bp (by kernel_rfl) ?_;simp only[sz,simprocAttr];obtain⟨g1,k⟩:∃g1,g1=(g.new (Z4 1 [[.Z6]])).new (Z4 1 [[Z_ 0]]):=⟨_,rfl⟩;rw[<-k];have b:g1.h.get g.nx=Z4 1 [[.Z6]]:=by rw[k];simp[Za]
 have c:g1.h.get (g.nx+1)=Z4 1 [[Z_ 0]]:=by rw[k];simp[Za]
 have n1:g1.nx=g.nx+2:=by rw[k];simp
 have f1:Fr g g1:=by rw[k];exact (Fr.new _ _).trans (Fr.new _ _)
 clear k;unfold mY;refine bp (by kernel_rfl) ?_;simp only[sz,simprocAttr];rw[u_ (f:=83) (first:=[]) (cap:=[ZZ g.nx,ZZ (g.nx+1)]) (by simp[sx])];simp only[sz,simprocAttr,Em,Eb];rw[cg];show U5 C0 d ([oM 5 0]++[o 6 (.dyn (.t 5) []),Xr 1 2 6,oz (.store 1 (.t 3) (qI 0))]) _ _ _ _;refine cI (by kernel_rfl) ?_;simp only[sz,simprocAttr];refine Pw (f:=f) (first:=[]) (cap:=cap) (by simp[sx,bf]) hs ?_;refine (hc g1 f1).mono ?_ ?_
 ·rintro u g2 ⟨rfl,f2,a⟩;have d2:g2.h.get g.nx=Z4 1 [[.Z6]]:=by rw[f2.2 _ (by omega),b]
  have d3:g2.h.get (g.nx+1)=Z4 1 [[Z_ 0]]:=by rw[f2.2 _ (by omega),c]
  refine bg (by kernel_rfl) ?_;simp only[sz,simprocAttr,bf,d2,d3,a.cell.1,a.cell.2,show ¬g.nx+1=g.nx by omega];rw[aV,o8,qj,mH];obtain⟨v,e⟩:=bg9 d (ZZ g.nx) (ZZ (g.nx+1)) ((g2.put g.nx (Z4 1 [[u]])).put (g.nx+1) (Z4 1 [[Z_ 0]]));refine yA e ?_;simp only[sz,simprocAttr,show ¬g.nx=g.nx+1 by omega];refine kk u _ g1.nx (a.fr (by simp) λi hi=>?_);have:=(a.lt hi).1;simp[Za,show ¬i=g.nx+1 by omega,show ¬i=g.nx by omega]
 ·rintro v g2 ⟨he,f2,rfl⟩;have d2:g2.h.get g.nx=Z4 1 [[.Z6]]:=by rw[f2.2 _ (by omega),b]
  have d3:g2.h.get (g.nx+1)=Z4 1 [[Z_ 0]]:=by rw[f2.2 _ (by omega),c]
  refine bg8 (p:=g.nx) (q:=g.nx+1) d2 d3 (by omega) ?_;show yZ C0 d [SR.cell false 1 2,SR.cell false 1 3] _ [] _ K;simp only[sz,simprocAttr,show ¬g.nx=g.nx+1 by omega];refine kk .Z6 _ 0 (.inl ⟨rfl,?_⟩);rw[hL he];rfl
theorem bg7[Z0](d:Nat)(a b:AV)(g:G):∃v,(I C0).call d 74 [a,b] g=.ok v g:=by
 have key:=j5 (C:=C0) (d:=d) (f:=74) («as»:=[a,b]) (g:=g) (K:=λv g'=>g'=g) lD (by simp[c_]) ?_
 ·cases hc:(I C0).call d 74 [a,b] g with
  |fail=>rw[hc]at key;exact key.elim
  |ok v g'=>rw[hc]at key;exact⟨v,by rw[show g'=g from key]⟩
 have e:uz true (.iface true) .tO .tO=.val (.bool false):=rfl;simp only[c_,sx,rm];simp only[sz,simprocAttr,e]
theorem bg6[Z0]{x:Int}{K:G->Prop}(hp:g.h.get p=Z4 1 [[u]])(hq:g.h.get q=Z4 1 [[w]])(hpq:p≠q)(hk:K ((g.put p (Z4 1 [[.bool false]])).put q (Z4 1 [[Z_ x]]))):UN C0 d 74 (.J7 47 (Z_ x)) [ZZ p,ZZ q] g K:=by refine O9 lD (by simp[c_]) ?_;unfold c_;dsimp only;refine⟨rfl,trivial,?_⟩;refine bg (by kernel_rfl) ?_;have e:uz true (.iface true) (.J7 47 (Z_ x)) .tO=.val (.bool true):=rfl;simp only[sz,simprocAttr,bf];rw[aV];refine bp (by kernel_rfl) ?_;simp only[sz,simprocAttr,e];rw[bG];simp only[sz,simprocAttr];rw[cg];show U5 C0 d ([oM 10 2]++[⟨some 11,none,.raw (.typeAssert (.tmp 10) 20 47 true)⟩,oM 9 11,Vz 12 9 0,Vz 13 9 1,oM 3 12,oM 4 13]) _ _ _ _;refine cI (by kernel_rfl) ?_;simp only[sz,simprocAttr];refine GO (v:=Z_ x) (ik:=.i64) (by simp[sx]) Ps ?_;refine bg (by kernel_rfl) ?_;simp only[sz,simprocAttr,bf,aa];rw[aV,cg];refine bp (by kernel_rfl) ?_;simp only[sz,simprocAttr];rw[bG];simp only[sz,simprocAttr];rw[ig,aV];unfold jP;refine bp (by kernel_rfl) ?_;simp only[sz,simprocAttr];refine BH (by kernel_rfl) ?_;simp only[sz,simprocAttr,hp,hq,ZF (Vw hpq)];exact⟨rfl,hk⟩
theorem bg5[Z0]{cap:List AV}{err:Int}{L:Bool}(hs:nZ C0 f=false)(hL:err≠0->L=false)
  (hc:∀g',Fr g g'->Zu C0 d f cap g' (λu g2=>err=0/\Fr g' g2/\u=.bool L) (λv g2=>err≠0/\Fr g' g2/\v=.J7 47 (Z_ err)))
  (kk:∀g',K (.Zz [.bool L,Z_ err]) g'):Zu C0 d 34 [.ZH f [] cap] g K KP:=by
 refine gq y5 (by simp[jj]) ?_;unfold jj;dsimp only;refine bp (by kernel_rfl) ?_;simp only[sz,simprocAttr];obtain⟨g1,k⟩:∃g1,g1=(g.new (Z4 1 [[.bool false]])).new (Z4 1 [[Z_ 0]]):=⟨_,rfl⟩;rw[<-k];have a:g1.h.get g.nx=  Z4 1 [[.bool false]]:=by rw[k];simp[Za]
 have b:g1.h.get (g.nx+1)=Z4 1 [[Z_ 0]]:=by rw[k];simp[Za]
 have n1:g1.nx=g.nx+2:=by rw[k];simp
 have f1:Fr g g1:=by rw[k];exact (Fr.new _ _).trans (Fr.new _ _)
 clear k;unfold mX;refine bp (by kernel_rfl) ?_;simp only[sz,simprocAttr];rw[u_ (f:=74) (first:=[]) (cap:=[ZZ g.nx,ZZ (g.nx+1)]) (by simp[sx])];simp only[sz,simprocAttr,Em,Eb];rw[cg];show U5 C0 d ([oM 5 0]++[o 6 (.dyn (.t 5) []),Xr 1 2 6,oz (.store 1 (.t 3) (qI 0))]) _ _ _ _;refine cI (by kernel_rfl) ?_;simp only[sz,simprocAttr];refine Pw (f:=f) (first:=[]) (cap:=cap) (by simp[sx,bf]) hs ?_;refine (hc g1 f1).mono ?_ ?_
 ·rintro u g2 ⟨rfl,f2,rfl⟩;have d2:g2.h.get g.nx=  Z4 1 [[.bool false]]:=by rw[f2.2 _ (by omega),a]
  have d3:g2.h.get (g.nx+1)=Z4 1 [[Z_ 0]]:=by rw[f2.2 _ (by omega),b]
  refine bg (by kernel_rfl) ?_;simp only[sz,simprocAttr,bf,d2,d3,show ¬g.nx+1=g.nx by omega];rw[aV,o8,qj,mH];obtain⟨v,c⟩:=bg7 d (ZZ g.nx) (ZZ (g.nx+1)) ((g2.put g.nx (Z4 1 [[.bool L]])).put (g.nx+1) (Z4 1 [[Z_ 0]]));refine yA c ?_;simp only[sz,simprocAttr,show ¬g.nx=g.nx+1 by omega];exact kk _
 ·rintro v g2 ⟨he,f2,rfl⟩;have d2:g2.h.get g.nx=  Z4 1 [[.bool false]]:=by rw[f2.2 _ (by omega),a]
  have d3:g2.h.get (g.nx+1)=Z4 1 [[Z_ 0]]:=by rw[f2.2 _ (by omega),b]
  refine bg6 (p:=g.nx) (q:=g.nx+1) d2 d3 (by omega) ?_;show yZ C0 d [SR.cell false 1 2,SR.cell false 1 3] _ [] _ K;simp only[sz,simprocAttr,show ¬g.nx=g.nx+1 by omega];have:=kk;rw[hL he]at this;exact this _
end
instance (x y:Int):Decidable (yX x y):=by unfold yX zJ;infer_instance
def GU(n:Zv)(e:List Int)(v k bn bd:Int):Int:=if B_ n e v [k]=0 then (if yX bn bd then (if Dl n e=0 then 7 else 0) else 2) else B_ n e v [k]
def sV(n:Zv)(e:List Int)(v k bn bd:Int)(s:Nat):Bool:=BZ n e s v.toNat k.toNat bn bd
theorem bg4[Z0]{d:Nat}{g:G}(hd:0<d):ae C0 d 40 [.agg [.bool x]] g=.val (.bool x):=by rw[Zn,WI hd]
structure Rsn (n:Zv) (e:List Int) (vn kn:Nat) (bn bd:Int):Prop where
 r:NR n
 ev:EQ n e=true
 v:vn<e.length
 x:AQ n vn kn
 b:yX bn bd
 z:Dl n e≠0
 l:e.length<=8
section
variable {d k:Nat}{g:G}{n:Zv}{bb ev:AV}{e:List Int}{v a bn bd:Int}{K KP:AV->G->Prop}
theorem bg3[Z0](hd:0<d)(hk:k<=d)(hm:∀h,Zl n ZX 0 h (.agg [Z_ n.Z8,bb]))(hev:ZT ZX k .nil e ev)
  (h0:g.h.get 0=Z4 2 [[Z_ n.Z8,bb]]) (h1:g.h.get 1=Z4 1 [[ev]]) (h2:g.h.get 2=Z4 1 [[Z_ v]]) (h3:g.h.get 3=Z4 1 [[Z_ a]]) (h4:g.h.get 4=Z4 2 [[Z_ bn,Z_ bd]]) (hn:5<=g.nx)
  (kk:GU n e v a bn bd=0->∀g',Fr g g'->K (.bool (sV n e v a bn bd (EP e e.length))) g')
  (kp:GU n e v a bn bd≠0->∀g',Fr g g'->KP (.J7 47 (Z_ (GU n e v a bn bd))) g') :
  Zu C0 d 35 [ZZ 0,ZZ 1,ZZ 2,ZZ 3,ZZ 4] g K KP:=by
 refine gq A4 (by simp[l9]) ?_;unfold l9;dsimp only;refine bp (by kernel_rfl) ?_;simp only[sz,simprocAttr,ja];have ld:aO (Z4 2 [[Z_ n.Z8,bb]]) 0 0 true 2 0=.val (.agg [Z_ n.Z8,bb]):=rfl;rw[cg];show U5 C0 d ([afD 7 2 0,oL 8 1,oL 9 2,oL 10 3,QE 11 10]++[afY 12 36 7 8 9 11,oM 6 12]) _ _ _ _;refine cI (by kernel_rfl) ?_;simp only[sz,simprocAttr,h0,h1,h2,h3,ld,yx];obtain⟨g1,c⟩:∃g1,g1=g.new (Z4 1 [[Z_ a]]):=⟨_,rfl⟩;rw[<-c];have e1:g1.h.get g.nx=Z4 1 [[Z_ a]]:=by rw[c];simp[Za]
 have n1:g1.nx=g.nx+1:=by rw[c];simp
 have f1:Fr g g1:=by rw[c];exact Fr.new _ _
 clear c;refine cy (ys:=[.agg [Z_ n.Z8,bb],ev,Z_ v,.ZG g.nx 0 0 1 none]) (by kernel_rfl) (by simp[sx]) ?_;have j:ak g1.h 1 (.ZG g.nx 0 0 1 none)=some ([a].map ci):=by simp only[ak,e1];rfl
 refine Am (l:=[a]) hd hm hev j (λi hi=>by injection hi with hi;omega) (by simp) (λhf q g2 f2 hq1 hq2 hq=>?_) (λhf g2 f2=>?_)
 rotate_left
 ·have f:GU n e v a bn bd=B_ n e v [a]:=ZF hf;have:=kp (by rw[f];exact hf) g2 (f1.trans f2);rw[f]at this;exact this
 obtain⟨p,⟨he,r,y,z⟩,hx⟩:=mq.1 hf;have hr:=bU.1 p;have w:=hr.l2;obtain⟨vn,rfl⟩:=Wu r;obtain⟨u,-⟩:=eB.1 he;have ha:=hx a (by simp);obtain⟨kn,rfl⟩:=Wu ha.1;have o:vn<e.length:=by omega
 have hq:g2.h.get q=gk n.Z8 bb ev vn kn 0 0 (EP e e.length):=hq;have b:Fr g g2:=f1.trans f2;have G2:∀i,i<5->g2.h.get i=g.h.get i:=λi hi=>b.2 i (by omega);have ldq:aO (Z4 2 [[Z_ bn,Z_ bd]]) 0 0 true 2 0=.val (.agg [Z_ bn,Z_ bd]):=rfl;refine bg (by kernel_rfl) ?_;simp only[sz,simprocAttr,bf];rw[aV,cg];show U5 C0 d ([oM 13 6,afD 14 2 4]++[afW 15 37 13 14]) _ _ _ _;refine cI (by kernel_rfl) ?_;simp only[sz,simprocAttr,G2 4 (by decide),h4,ldq];refine cy (ys:=[ZZ q,.agg [Z_ bn,Z_ bd]]) (by kernel_rfl) (by simp[sx]) ?_;refine zF hd hq hq2 (λhb g3 n3 f3 q3=>?_) (λhb g3 f3=>?_)
 rotate_left
 ·have f:GU n e vn kn bn bd=2:=by rw[GU,ZN hf,ZF hb]
  have:=kp (by rw[f];decide) g3 (b.trans f3);rw[f]at this;exact this
 have m:Fr g g3:=⟨by have:=b.1;omega,λi hi=>by rw[f3 i (by have:=b.1;omega) (by have:=f1.1;omega),b.2 i hi]⟩;refine bg (by kernel_rfl) ?_;simp only[sz,simprocAttr,bf];rw[aV,cg];show U5 C0 d ([oM 16 6]++[TX 17 38 16]) _ _ _ _;refine cI (by kernel_rfl) ?_;simp only[sz,simprocAttr];refine cy (ys:=[ZZ q]) (by kernel_rfl) (by simp[sx]) ?_;refine yg hd hk hr hm hev he q3 (λhz=>?_) (λhz=>?_)
 rotate_left
 ·have f:GU n e vn kn bn bd=7:=by rw[GU,ZN hf,ZN hb,ZN hz]
  have:=kp (by rw[f];decide) g3 m;rw[f]at this;exact this
 have f:GU n e vn kn bn bd=0:=by rw[GU,ZN hf,ZN hb,ZF hz]
 have t:Rsn n e vn kn bn bd:=⟨hr,he,o,ha,hb,hz,by omega⟩;refine bg (by kernel_rfl) ?_;simp only[sz,simprocAttr,bf];rw[aV];have s:g3.h.get q=Z4 8 [[Z_ n.Z8,bb,ev,Z_ (vn:Int),Z_ (kn:Int),Z_ bn,Z_ bd,ZW (EP e e.length:Int)]]:=q3;rw[cg];show U5 C0 d ([oM 18 6,oM 19 6,U3 20 19,oF 21 7 20,oL 22 21]++[afW 23 39 18 22,TX 24 40 23,oM 5 24]) _ _ _ _;refine cI (by kernel_rfl) ?_;simp only[sz,simprocAttr,s,fV,Vx];refine cy (ys:=[ZZ q,ZW (EP e e.length:Int)]) (by kernel_rfl) (by simp[sx]) ?_;refine bi3 hd hr hm hev he o ha (yG hr hz) (Ec (by omega)) hb q3 (by omega) λg4 u4=>?_;have kc:=λg:G=>bg4 (d:=d) (x:=BZ n e (EP e e.length) vn kn bn bd) (g:=g) hd;refine bg (by kernel_rfl) ?_;simp only[sz,simprocAttr,bf,kc];rw[aV,o8,qj,mH];simp only[sz,simprocAttr];exact kk f g4 (m.trans u4.fr)
end
end
end Hx
section
namespace Hx
theorem MJ{a b:Nat}:EN a b=0↔a &&& b=a:=by
 constructor
 ·intro h;apply adb;intro i;have:=congrArg (λx=>x.testBit i) h;simp only[EN,aeu,ad2,Nat.zero_testBit]at this;rw[ad2];revert this;cases a.testBit i<;>cases b.testBit i<;>decide
 ·intro h;rw[EN,h,Nat.xor_self]
def m0(ks k:Nat):List Nat:=(List.range (ks+1)).filter λs=>decide (EN s ks=0)&&decide (EO s=k)
def Do(ks:Nat):List Nat:=(List.range 9).flatMap (m0 ks)
def rD(R:Nat->Bool)(ks:Nat):List Nat:=(Do ks).filter (AT R)
theorem O5(s:Nat):EO s<=8:=by rw[EO];exact Y1 (TQ _ _) (by simp)
theorem yF{ks k s:Nat}:s∈m0 ks k↔s &&& ks=s/\EO s=k:=by
 rw[m0,adO,Q9,Zk,decide_eq_true_iff,decide_eq_true_iff,MJ];constructor
 ·exact λh=>h.2
 ·intro h;have:s<=ks:=by rw[<-h.1];exact TH
  exact⟨by omega,h⟩
theorem Bp{ks s:Nat}:s∈Do ks↔s &&& ks=s:=by
 rw[Do,XP];constructor
 ·rintro⟨k,-,h⟩;exact (yF.1 h).1
 ·intro h;exact⟨EO s,by rw[Q9];have:=O5 s;omega,yF.2 ⟨h,rfl⟩⟩
theorem Ul(ks:Nat):(Do ks).Pairwise zc:=by
 rw[Do,List.pairwise_flatMap];constructor
 ·intro k _;have h:(m0 ks k).Pairwise (·<·):=aea.filter _;refine List.Pairwise.imp_of_mem (λ{a b} ha hb hab=>?_) h;exact .inr ⟨by rw[(yF.1 ha).2,(yF.1 hb).2],hab⟩
 ·refine aea.imp λ{a b} hab x hx y hy=>?_;exact .inl (by rw[(yF.1 hx).2,(yF.1 hy).2];exact hab)
theorem bg2{a:Nat}(h:zc a a):False:=by rcases h with h|h<;>omega
theorem GJ{ks:Nat}(hks:ks<256):(Do ks).Perm (ER ks):=by
 refine (aeG ?_ ?_).2 λa=>by rw[Bp,mO hks]
 ·exact (Ul ks).imp λ{a b} h=>by rintro rfl;exact bg2 h
 ·exact (MF ks).imp λh=>by omega
theorem Tc{ks:Nat}(hks:ks<256){R:Nat->Bool}{L:List Nat}(h:L.Perm ((ER ks).filter (AT R)))(hp:L.Pairwise zc):L=rD R ks:=by refine List.Perm.eq_of_pairwise (λa b _ _ h1 h2=>?_) hp ((Ul ks).filter _) (h.trans ((GJ hks).filter _).symm);rcases h1 with h1|h1<;>rcases h2 with h2|h2<;>omega
def yW(l:List Nat)(R:Nat->Bool)(s:Nat):Bool:=R s&&l.all λt=>decide (t=s) || !(decide (EN t s=0)) || !R t
theorem bg1{ks s:Nat}{R:Nat->Bool}(hks:ks<256)(hs:s &&& ks=s):yW (Do ks) R s=AT R s:=by
 have k:s<256:=by have:s<=ks:=by rw[<-hs];exact TH
                  omega
 rw[yW,AT];congr 1;rw[Yj,Xw,Xw];constructor
 ·intro h t ht;have ht:=(mO k).1 ht;have:=h t (Bp.2 (Uj ht hs));rwa [Qe (MJ.2 ht),Q_,Bool.or_false]at this
 ·intro h t ht
  by_cases c:EN t s=0
  ·rw[Qe c,Q_,Bool.or_false];exact h t ((mO k).2 (MJ.1 c))
  ·rw[Vf c];simp
end Hx
end
namespace Hx
open Go
noncomputable section
variable {g:G}{d k a ks s q vn kn j f:Nat}{e:List Int}{n:Zv}{bn bd v gr value:Int}{K KP:AV->G->Prop}{b ev w u:AV}{t:T}{D:ZU->Prop}{x:Bool}
section
variable {d k:Nat}{g:G}{n:Zv}{bb ev:AV}{e:List Int}{v a bn bd:Int}{K KP:AV->G->Prop}
theorem J0{k:Nat}(h:s &&& k=s)(hk:k<256):s<256:=by
 have:s<=k:=by rw[<-h];exact TH
 omega
theorem Cz{e:List Int}(h:e.length<=8):EP e e.length<256:=by have h1:=S8 e e.length;have h2:2 ^ e.length<=2 ^ 8:=Wl (by decide) h;omega
theorem bg0[Z0](hS:BL)(hd:0<d)(hk:k<=d)(hm:∀h,Zl n ZX 0 h (.agg [Z_ n.Z8,bb]))(hev:ZT ZX k .nil e ev)
  (h0:g.h.get 0=Z4 2 [[Z_ n.Z8,bb]]) (h1:g.h.get 1=Z4 1 [[ev]]) (h2:g.h.get 2=Z4 1 [[Z_ v]]) (h3:g.h.get 3=Z4 1 [[Z_ a]]) (h4:g.h.get 4=Z4 2 [[Z_ bn,Z_ bd]]) (hn:5<=g.nx)
  (kk:GU n e v a bn bd=0->∀u g' B,Fr g g'->g.nx<=B->Own g' B u 1 ((rD (sV n e v a bn bd) (EP e e.length)).map cu)->K u g')
  (kp:GU n e v a bn bd≠0->∀g',Fr g g'->KP (.J7 47 (Z_ (GU n e v a bn bd))) g') :
  Zu C0 d 45 [ZZ 0,ZZ 1,ZZ 2,ZZ 3,ZZ 4] g K KP:=by
 refine gq zW (by simp[kT]) ?_;unfold kT;dsimp only;refine bp (by kernel_rfl) ?_;simp only[sz,simprocAttr,ja];have ld:aO (Z4 2 [[Z_ n.Z8,bb]]) 0 0 true 2 0=.val (.agg [Z_ n.Z8,bb]):=rfl;rw[cg];show U5 C0 d ([afD 8 2 0,oL 9 1,oL 10 2,oL 11 3,QE 12 11]++[afY 13 36 8 9 10 12,oM 6 13]) _ _ _ _;refine cI (by kernel_rfl) ?_;simp only[sz,simprocAttr,h0,h1,h2,h3,ld,yx];obtain⟨g1,c⟩:∃g1,g1=g.new (Z4 1 [[Z_ a]]):=⟨_,rfl⟩;rw[<-c];have e1:g1.h.get g.nx=Z4 1 [[Z_ a]]:=by rw[c];simp[Za]
 have n1:g1.nx=g.nx+1:=by rw[c];simp
 have f1:Fr g g1:=by rw[c];exact Fr.new _ _
 clear c;refine cy (ys:=[.agg [Z_ n.Z8,bb],ev,Z_ v,.ZG g.nx 0 0 1 none]) (by kernel_rfl) (by simp[sx]) ?_;have x:ak g1.h 1 (.ZG g.nx 0 0 1 none)=some ([a].map ci):=by simp only[ak,e1];rfl
 refine Am (l:=[a]) hd hm hev x (λi hi=>by injection hi with hi;omega) (by simp) (λhf q g2 f2 hq1 hq2 hq=>?_) (λhf g2 f2=>?_)
 rotate_left
 ·have j:GU n e v a bn bd=B_ n e v [a]:=ZF hf;have:=kp (by rw[j];exact hf) g2 (f1.trans f2);rw[j]at this;exact this
 obtain⟨z,⟨he,E,N,O⟩,hx⟩:=mq.1 hf;have hr:=bU.1 z;have M:=hr.l2;obtain⟨vn,rfl⟩:=Wu E;obtain⟨J,-⟩:=eB.1 he;have ha:=hx a (by simp);obtain⟨kn,rfl⟩:=Wu ha.1;have y:vn<e.length:=by omega
 have hq:g2.h.get q=gk n.Z8 bb ev vn kn 0 0 (EP e e.length):=hq;have b:Fr g g2:=f1.trans f2;have G2:∀i,i<5->g2.h.get i=g.h.get i:=λi hi=>b.2 i (by omega);have ldq:aO (Z4 2 [[Z_ bn,Z_ bd]]) 0 0 true 2 0=.val (.agg [Z_ bn,Z_ bd]):=rfl;refine bg (by kernel_rfl) ?_;simp only[sz,simprocAttr,bf];rw[aV,cg];show U5 C0 d ([oM 14 6,afD 15 2 4]++[afW 16 37 14 15]) _ _ _ _;refine cI (by kernel_rfl) ?_;simp only[sz,simprocAttr,G2 4 (by decide),h4,ldq];refine cy (ys:=[ZZ q,.agg [Z_ bn,Z_ bd]]) (by kernel_rfl) (by simp[sx]) ?_;refine zF hd hq hq2 (λhb g3 n3 f3 q3=>?_) (λhb g3 f3=>?_)
 rotate_left
 ·have j:GU n e vn kn bn bd=2:=by rw[GU,ZN hf,ZF hb]
  have:=kp (by rw[j];decide) g3 (b.trans f3);rw[j]at this;exact this
 have p:Fr g g3:=⟨by have:=b.1;omega,λi hi=>by rw[f3 i (by have:=b.1;omega) (by have:=f1.1;omega),b.2 i hi]⟩;refine bg (by kernel_rfl) ?_;simp only[sz,simprocAttr,bf];rw[aV,cg];show U5 C0 d ([oM 17 6]++[TX 18 38 17]) _ _ _ _;refine cI (by kernel_rfl) ?_;simp only[sz,simprocAttr];refine cy (ys:=[ZZ q]) (by kernel_rfl) (by simp[sx]) ?_;refine yg hd hk hr hm hev he q3 (λhz=>?_) (λhz=>?_)
 rotate_left
 ·have j:GU n e vn kn bn bd=7:=by rw[GU,ZN hf,ZN hb,ZN hz]
  have:=kp (by rw[j];decide) g3 p;rw[j]at this;exact this
 have j:GU n e vn kn bn bd=0:=by rw[GU,ZN hf,ZN hb,ZF hz]
 have I:Rsn n e vn kn bn bd:=⟨hr,he,y,ha,hb,hz,by omega⟩;refine bg (by kernel_rfl) ?_;simp only[sz,simprocAttr,bf];rw[aV];rw[cg];show U5 C0 d ([oM 19 6]++[TX 20 46 19,o 7 (.alloc [.Xu]),Xr 1 7 20]) _ _ _ _;refine cI (by kernel_rfl) ?_;simp only[sz,simprocAttr];refine cy (ys:=[ZZ q]) (by kernel_rfl) (by simp[sx]) ?_;have r:=Cz (e:=e) (by omega);refine sX fI (by kernel_rfl) (by simp[be]) (wO hd hr hm hev he y ha (λs _=>yG hr hz) r hb q3 (by omega) λmp g4 f4 mp1 mp2 hmp=>?_);refine bg (by kernel_rfl) ?_;have C:∀(g:G) (id m:Nat),fC (Z4 1 [[.Xu]]) g id 0 0 1 0 (.hmap m)=.upd .undef (g.put id (Z4 1 [[.hmap m]])):=λ_ _ _=>rfl;simp only[sz,simprocAttr,bf,C];rw[aV];obtain⟨w,f⟩:∃w,w=(g4.new (Z4 1 [[.Xu]])).put g4.nx (Z4 1 [[.hmap mp]]):=⟨_,rfl⟩;rw[<-f];have d1:w.h.get g4.nx=Z4 1 [[.hmap mp]]:=by rw[f];simp[Za]
 have d2:∀i,i<g4.nx->w.h.get i=g4.h.get i:=λi hi=>by rw[f];simp[Za,show ¬i=g4.nx by omega]
 have d3:w.nx=g4.nx+1:=by rw[f];simp
 have fq:w.h.get q=gk n.Z8 bb ev vn kn bn bd (EP e e.length):=by rw[d2 q (by have:=f4.1;omega),f4.2 q (by omega),q3]
 clear f;rw[cg];show U5 C0 d ([oM 21 6,o 22 (.XZ 48 [] [.t 7])]++[afW 23 47 21 22,oM 5 23]) _ _ _ _;refine cI (by kernel_rfl) ?_;simp only[sz,simprocAttr];refine cy (ys:=[ZZ q,.ZH 48 [] [ZZ g4.nx]]) (by kernel_rfl) (by simp[sx]) ?_;have A:q<w.nx:=by have:=f4.1;omega
 refine sX jF (by kernel_rfl) (by simp[bX]) (Lh (R:=sV n e vn kn bn bd) hS hd r fq A (λs hs g6 K' D n6 h6 hK=>?_) λu g6 L B f6 hB hL hpw ho=>?_)
 ·exact bh0 (F:=λs=>BZ n e s vn kn bn bd) hd (by rw[h6 _ (by omega),d1]) (by rw[h6 _ (by omega),d2 _ mp2,hmp]) ((mO r).2 hs) hK
 ·refine bg (by kernel_rfl) ?_;simp only[sz,simprocAttr,bf];rw[aV,o8,qj,mH];simp only[sz,simprocAttr];have H:Fr g w:=⟨by have:=p.1;have:=f4.1;omega,λi hi=>by have:=p.1;have:=f4.1;rw[d2 i (by omega),f4.2 i (by omega),p.2 i hi]⟩;rw[Tc r hL hpw]at ho;exact kk j u g6 B (H.trans f6) (by have:=H.1;omega) ho
theorem bf_[Z0](hS:BL)(hd:0<d)(hk:k<=d)(hm:∀h,Zl n ZX 0 h (.agg [Z_ n.Z8,bb]))(hev:ZT ZX k .nil e ev)
  (h0:g.h.get 0=Z4 2 [[Z_ n.Z8,bb]]) (h1:g.h.get 1=Z4 1 [[ev]]) (h2:g.h.get 2=Z4 1 [[Z_ v]]) (h3:g.h.get 3=Z4 1 [[Z_ a]]) (h4:g.h.get 4=Z4 2 [[Z_ bn,Z_ bd]]) (hn:5<=g.nx)
  (kk:GU n e v a bn bd=0->∀u g' B,Fr g g'->g.nx<=B->Own g' B u 1 ((rD (λs=>!sV n e v a bn bd (EN (EP e e.length) s)) (EP e e.length)).map cu)->K u g')
  (kp:GU n e v a bn bd≠0->∀g',Fr g g'->KP (.J7 47 (Z_ (GU n e v a bn bd))) g') :
  Zu C0 d 51 [ZZ 0,ZZ 1,ZZ 2,ZZ 3,ZZ 4] g K KP:=by
 refine gq Ck (by simp[nM]) ?_;unfold nM;dsimp only;refine bp (by kernel_rfl) ?_;simp only[sz,simprocAttr,ja];have ld:aO (Z4 2 [[Z_ n.Z8,bb]]) 0 0 true 2 0=.val (.agg [Z_ n.Z8,bb]):=rfl;rw[cg];show U5 C0 d ([afD 8 2 0,oL 9 1,oL 10 2,oL 11 3,QE 12 11]++[afY 13 36 8 9 10 12,o 6 (.alloc [.Ud]),Xr 1 6 13]) _ _ _ _;refine cI (by kernel_rfl) ?_;simp only[sz,simprocAttr,h0,h1,h2,h3,ld,yx];obtain⟨g1,c⟩:∃g1,g1=g.new (Z4 1 [[Z_ a]]):=⟨_,rfl⟩;rw[<-c];have e1:g1.h.get g.nx=Z4 1 [[Z_ a]]:=by rw[c];simp[Za]
 have n1:g1.nx=g.nx+1:=by rw[c];simp
 have f1:Fr g g1:=by rw[c];exact Fr.new _ _
 clear c;refine cy (ys:=[.agg [Z_ n.Z8,bb],ev,Z_ v,.ZG g.nx 0 0 1 none]) (by kernel_rfl) (by simp[sx]) ?_;have C:ak g1.h 1 (.ZG g.nx 0 0 1 none)=some ([a].map ci):=by simp only[ak,e1];rfl
 refine Am (l:=[a]) hd hm hev C (λi hi=>by injection hi with hi;omega) (by simp) (λhf q g2 f2 hq1 A hq=>?_) (λhf g2 f2=>?_)
 rotate_left
 ·have r:GU n e v a bn bd=B_ n e v [a]:=ZF hf;have:=kp (by rw[r];exact hf) g2 (f1.trans f2);rw[r]at this;exact this
 obtain⟨M,⟨he,P,X,Y⟩,hx⟩:=mq.1 hf;have hr:=bU.1 M;have V:=hr.l2;obtain⟨vn,rfl⟩:=Wu P;obtain⟨U,-⟩:=eB.1 he;have ha:=hx a (by simp);obtain⟨kn,rfl⟩:=Wu ha.1;have J:vn<e.length:=by omega
 have hq:g2.h.get q=gk n.Z8 bb ev vn kn 0 0 (EP e e.length):=hq;have b:Fr g g2:=f1.trans f2;have G2:∀i,i<5->g2.h.get i=g.h.get i:=λi hi=>b.2 i (by omega);obtain⟨gb,y⟩:∃gb,gb=(g2.new (Z4 1 [[.Ud]])).put g2.nx (Z4 1 [[ZZ q]]):=⟨_,rfl⟩;have eb:gb.h.get g2.nx=Z4 1 [[ZZ q]]:=by rw[y];simp[Za]
 have ebo:∀i,i<g2.nx->gb.h.get i=g2.h.get i:=λi hi=>by rw[y];simp[Za,show ¬i=g2.nx by omega]
 have nb:gb.nx=g2.nx+1:=by rw[y];simp
 have hq:gb.h.get q=gk n.Z8 bb ev vn kn 0 0 (EP e e.length):=by rw[ebo q A,hq]
 have b:Fr g gb:=⟨by have:=b.1;omega,λi hi=>by rw[ebo i (by have:=b.1;omega),b.2 i hi]⟩;have G2:∀i,i<5->gb.h.get i=g.h.get i:=λi hi=>b.2 i (by omega);obtain⟨p,hp⟩:∃p,p=g2.nx:=⟨_,rfl⟩;have W:q<p:=by omega
 rw[<-hp]at eb;have N:p<gb.nx:=by omega
 have A:q<gb.nx:=by omega
 have I:∀(g:G) (id m:Nat),fC (Z4 1 [[.Ud]]) g id 0 0 1 0 (ZZ m)=.upd .undef (g.put id (Z4 1 [[ZZ m]])):=λ_ _ _=>rfl;have ldq:aO (Z4 2 [[Z_ bn,Z_ bd]]) 0 0 true 2 0=.val (.agg [Z_ bn,Z_ bd]):=rfl;refine bg (by kernel_rfl) ?_;simp only[sz,simprocAttr,bf,I];rw[<-y,<-hp];rw[aV,cg];show U5 C0 d ([oL 14 6,afD 15 2 4]++[afW 16 37 14 15]) _ _ _ _;refine cI (by kernel_rfl) ?_;simp only[sz,simprocAttr,G2 4 (by decide),h4,ldq,eb];refine cy (ys:=[ZZ q,.agg [Z_ bn,Z_ bd]]) (by kernel_rfl) (by simp[sx]) ?_;refine zF hd hq A (λhb g3 n3 f3 q3=>?_) (λhb g3 f3=>?_)
 rotate_left
 ·have r:GU n e vn kn bn bd=2:=by rw[GU,ZN hf,ZF hb]
  have:=kp (by rw[r];decide) g3 (b.trans f3);rw[r]at this;exact this
 have z:g3.h.get p=Z4 1 [[ZZ q]]:=by rw[f3 p N (by omega),eb]
 have w:Fr g g3:=⟨by have:=b.1;omega,λi hi=>by rw[f3 i (by have:=b.1;omega) (by have:=f1.1;omega),b.2 i hi]⟩;refine bg (by kernel_rfl) ?_;simp only[sz,simprocAttr,bf];rw[aV,cg];show U5 C0 d ([oL 17 6]++[TX 18 38 17]) _ _ _ _;refine cI (by kernel_rfl) ?_;simp only[sz,simprocAttr,z];refine cy (ys:=[ZZ q]) (by kernel_rfl) (by simp[sx]) ?_;refine yg hd hk hr hm hev he q3 (λhz=>?_) (λhz=>?_)
 rotate_left
 ·have r:GU n e vn kn bn bd=7:=by rw[GU,ZN hf,ZN hb,ZN hz]
  have:=kp (by rw[r];decide) g3 w;rw[r]at this;exact this
 have r:GU n e vn kn bn bd=0:=by rw[GU,ZN hf,ZN hb,ZF hz]
 have T:Rsn n e vn kn bn bd:=⟨hr,he,J,ha,hb,hz,by omega⟩;refine bg (by kernel_rfl) ?_;simp only[sz,simprocAttr,bf];rw[aV];rw[cg];show U5 C0 d ([oL 19 6]++[TX 20 46 19,o 7 (.alloc [.Xu]),Xr 1 7 20]) _ _ _ _;refine cI (by kernel_rfl) ?_;simp only[sz,simprocAttr,z];refine cy (ys:=[ZZ q]) (by kernel_rfl) (by simp[sx]) ?_;have j:=Cz (e:=e) (by omega);refine sX fI (by kernel_rfl) (by simp[be]) (wO hd hr hm hev he J ha (λs _=>yG hr hz) j hb q3 (by omega) λmp g4 f4 mp1 mp2 hmp=>?_);refine bg (by kernel_rfl) ?_;have O:∀(g:G) (id m:Nat),fC (Z4 1 [[.Xu]]) g id 0 0 1 0 (.hmap m)=.upd .undef (g.put id (Z4 1 [[.hmap m]])):=λ_ _ _=>rfl;simp only[sz,simprocAttr,bf,O];rw[aV];obtain⟨x,f⟩:∃x,x=(g4.new (Z4 1 [[.Xu]])).put g4.nx (Z4 1 [[.hmap mp]]):=⟨_,rfl⟩;rw[<-f];have d1:x.h.get g4.nx=Z4 1 [[.hmap mp]]:=by rw[f];simp[Za]
 have d2:∀i,i<g4.nx->x.h.get i=g4.h.get i:=λi hi=>by rw[f];simp[Za,show ¬i=g4.nx by omega]
 have d3:x.nx=g4.nx+1:=by rw[f];simp
 have fq:x.h.get q=gk n.Z8 bb ev vn kn bn bd (EP e e.length):=by rw[d2 q (by have:=f4.1;omega),f4.2 q (by omega),q3]
 have E:x.h.get p=Z4 1 [[ZZ q]]:=by rw[d2 p (by have:=f4.1;omega),f4.2 p (by omega),z]
 clear f;rw[cg];show U5 C0 d ([oL 21 6,o 22 (.XZ 52 [] [.t 7,.t 6])]++[afW 23 47 21 22,oM 5 23]) _ _ _ _;refine cI (by kernel_rfl) ?_;simp only[sz,simprocAttr,E];refine cy (ys:=[ZZ q,.ZH 52 [] [ZZ g4.nx,ZZ p]]) (by kernel_rfl) (by simp[sx]) ?_;have H:q<x.nx:=by have:=f4.1;omega
 refine sX jF (by kernel_rfl) (by simp[bX]) (Lh (R:=λs=>!sV n e vn kn bn bd (EN (EP e e.length) s)) hS hd j fq H (λs hs g6 K' D n6 h6 hK=>?_) λu g6 L B f6 hB hL hpw ho=>?_)
 ·exact bg_ (F:=λs=>BZ n e s vn kn bn bd) hd j (by rw[h6 _ (by omega),d1]) (by rw[h6 _ (by omega),d2 _ mp2,hmp]) (by rw[h6 _ (by have:=f4.1;omega),E]) (by rw[h6 _ H,fq]) (J0 hs j) hK
 ·refine bg (by kernel_rfl) ?_;simp only[sz,simprocAttr,bf];rw[aV,o8,qj,mH];simp only[sz,simprocAttr];have Q:Fr g x:=⟨by have:=w.1;have:=f4.1;omega,λi hi=>by have:=w.1;have:=f4.1;rw[d2 i (by omega),f4.2 i (by omega),w.2 i hi]⟩;rw[Tc j hL hpw]at ho;exact kk r u g6 B (Q.trans f6) (by have:=Q.1;omega) ho
end
section
variable {a:Int}
def zI(n:Zv)(e:List Int)(v a bn bd:Int):Bool:=decide (GU n e v a bn bd=0)&&sV n e v a bn bd (EP e e.length)
def AN(n:Zv)(e:List Int)(v a bn bd:Int):List Nat:=if GU n e v a bn bd=0 then rD (sV n e v a bn bd) (EP e e.length) else []
def AM(n:Zv)(e:List Int)(v a bn bd:Int):List Nat:=if GU n e v a bn bd=0 then rD (λs=>!sV n e v a bn bd (EN (EP e e.length) s)) (EP e e.length) else []
theorem Pd(h:GU n e v a bn bd=0):e.length<=8:=by
 rw[GU]at h
 split at h
 ·rename_i hf;obtain⟨k,⟨he,-⟩,-⟩:=mq.1 hf;have:=(bU.1 k).l2;have:=(eB.1 he).1;omega
 ·rename_i hf;exact absurd h hf
theorem Td{R:Nat->Bool}(h:ks<256):∀y∈rD R ks,y<256:=λy hy=>by have:=Bp.1 (adO.1 hy).1;exact J0 this h
theorem ON{R:Nat->Bool}(h:ks<256):(rD R ks).length<=256:=by refine Y1 (TQ _ _) ?_;rw[(GJ h).length_eq];exact Jb ks
theorem wF{h:H}{x y:Int}:ZS h d aw (.agg [Z_ x,Z_ y])=some (.agg [Z_ x,Z_ y]):=rfl
theorem bf9[Z0]{P:Nat->Prop}(hd:0<d)(hm:Zl n ZX 0 g.h u)(he:ZT P k g.h e w)(hk:k<=d) :
  ∃r,fF C0 11 d [u,w,Z_ v,Z_ a,.agg [Z_ bn,Z_ bd]] g=.val r/\mQ (One (zI n e v a bn bd)) (One (GU n e v a bn bd)) ZX 0 .nil r:=by
 obtain⟨bb,rows,rfl,e1,c,hN,-⟩:=bT d hm;obtain⟨w',f,b⟩:=aZ he d;rw[adW hk]at b;refine Cx Ds (xs:=[.agg [Z_ n.Z8,bb],w',Z_ v,Z_ a,.agg [Z_ bn,Z_ bd]]) (by simp only[aD,e1,f,aU,wF]) (by simp[pL]) (bM (m:=1) (aE _) (aE _) (by decide) (by decide)) (by decide) hd ?_;unfold pL;dsimp only;refine bp (by kernel_rfl) ?_;have cw:=(b .nil).cell;simp only[sz,simprocAttr,ja,cw.1,cw.2];generalize hg0:G.new _ _=g0;have f0:g0.h.get 0=Z4 2 [[Z_ n.Z8,bb]]:=by rw[<-hg0];simp[Za,sx]
 have f1:g0.h.get 1=Z4 1 [[w']]:=by rw[<-hg0];simp[Za,sx]
 have f2:g0.h.get 2=Z4 1 [[Z_ v]]:=by rw[<-hg0];simp[Za,sx]
 have j:g0.h.get 3=Z4 1 [[Z_ a]]:=by rw[<-hg0];simp[Za,sx]
 have l:g0.h.get 4=Z4 2 [[Z_ bn,Z_ bd]]:=by rw[<-hg0];simp[Za,sx]
 have fn:g0.nx=5:=by rw[<-hg0];simp[sx]
 clear hg0;unfold te;rw[cg];show U5 C0 (d+1) ([o 12 (.XZ 35 [] [.t 5,.t 6,.t 7,.t 8,.t 9])]++[TX 13 34 12,Vz 14 13 0,Vz 15 13 1,oM 10 14,oM 11 15]) _ _ _ _;refine cI (by kernel_rfl) ?_;simp only[sz,simprocAttr];refine cy (ys:=[.ZH 35 [] [ZZ 0,ZZ 1,ZZ 2,ZZ 3,ZZ 4]]) (by kernel_rfl) (by simp[sx]) ?_;refine bg5 (err:=GU n e v a bn bd) (L:=zI n e v a bn bd) (by kernel_rfl) (λh=>by rw[zI,Vf h,afb]) (λg1 h1=>?_) (λg1=>?_)
 ·have fx:∀i,i<5->g1.h.get i=g0.h.get i:=λi hi=>h1.2 i (by omega);refine bg3 (k:=d) (n:=n) (e:=e) (v:=v) (a:=a) (bn:=bn) (bd:=bd) (bb:=bb) (ev:=w') (by omega) (by omega) (λh=>c h) (b .nil) (by rw[fx 0 (by decide),f0]) (by rw[fx 1 (by decide),f1]) (by rw[fx 2 (by decide),f2]) (by rw[fx 3 (by decide),j]) (by rw[fx 4 (by decide),l]) (by have:=h1.1;omega)
   (λhE g2 h2=>⟨hE,h2,by rw[zI,Qe hE,U2]⟩) (λhE g2 h2=>⟨hE,h2,rfl⟩)
 ·refine bg (by kernel_rfl) ?_;simp only[sz,simprocAttr,bf];rw[aV,o8,qj,mH];simp only[sz,simprocAttr];exact⟨λ_=>True,_,_,rfl,cE.2 rfl,ay.2 rfl⟩
theorem bf8[Z0](hS:BL){P:Nat->Prop}(hd:0<d)(hm:Zl n ZX 0 g.h u)(he:ZT P k g.h e w)(hk:k<=d) :
  ∃r,fF C0 13 d [u,w,Z_ v,Z_ a,.agg [Z_ bn,Z_ bd]] g=.val r/\mQ (One (AN n e v a bn bd)) (One (GU n e v a bn bd)) ZX 0 .nil r:=by
 obtain⟨bb,rows,rfl,e1,f,hN,-⟩:=bT d hm;obtain⟨w',j,b⟩:=aZ he d;rw[adW hk]at b;refine Cx Cm (xs:=[.agg [Z_ n.Z8,bb],w',Z_ v,Z_ a,.agg [Z_ bn,Z_ bd]]) (by simp only[aD,e1,j,aU,wF]) (by simp[nN]) (bM (m:=1) (aE _) (aE _) (by decide) (by decide)) (by decide) hd ?_;unfold nN;dsimp only;refine bp (by kernel_rfl) ?_;have cw:=(b .nil).cell;simp only[sz,simprocAttr,ja,cw.1,cw.2];generalize hg0:G.new _ _=g0;have f0:g0.h.get 0=Z4 2 [[Z_ n.Z8,bb]]:=by rw[<-hg0];simp[Za,sx]
 have f1:g0.h.get 1=Z4 1 [[w']]:=by rw[<-hg0];simp[Za,sx]
 have f2:g0.h.get 2=Z4 1 [[Z_ v]]:=by rw[<-hg0];simp[Za,sx]
 have l:g0.h.get 3=Z4 1 [[Z_ a]]:=by rw[<-hg0];simp[Za,sx]
 have p:g0.h.get 4=Z4 2 [[Z_ bn,Z_ bd]]:=by rw[<-hg0];simp[Za,sx]
 have fn:g0.nx=5:=by rw[<-hg0];simp[sx]
 clear hg0;unfold qO;rw[cg];show U5 C0 (d+1) ([o 12 (.XZ 45 [] [.t 5,.t 6,.t 7,.t 8,.t 9])]++[TX 13 44 12,Vz 14 13 0,Vz 15 13 1,oM 10 14,oM 11 15]) _ _ _ _;refine cI (by kernel_rfl) ?_;simp only[sz,simprocAttr];refine cy (ys:=[.ZH 45 [] [ZZ 0,ZZ 1,ZZ 2,ZZ 3,ZZ 4]]) (by kernel_rfl) (by simp[sx]) ?_;refine Bk (err:=GU n e v a bn bd) (L:=AN n e v a bn bd) (by kernel_rfl) (λh=>ZF h) (λg1 h1=>?_) (λu g1 B ho=>?_)
 ·have fx:∀i,i<5->g1.h.get i=g0.h.get i:=λi hi=>h1.2 i (by omega);refine bg0 hS (k:=d) (n:=n) (e:=e) (v:=v) (a:=a) (bn:=bn) (bd:=bd) (bb:=bb) (ev:=w') (by omega) (by omega) (λh=>f h) (b .nil) (by rw[fx 0 (by decide),f0]) (by rw[fx 1 (by decide),f1]) (by rw[fx 2 (by decide),f2]) (by rw[fx 3 (by decide),l]) (by rw[fx 4 (by decide),p]) (by have:=h1.1;omega)
   (λc u g2 B h2 hB ho=>⟨c,h2,?_⟩) (λc g2 h2=>⟨c,h2,rfl⟩)
  rw[AN,ZN c];rcases ho with ho|⟨id,ep,lo,q1,q2,q3,q⟩
  ·exact .inl ho
  ·exact .inr ⟨id,ep,lo,by omega,q2,q3,q⟩
 ·refine bg (by kernel_rfl) ?_;simp only[sz,simprocAttr,bf];rw[aV,o8,qj,mH];simp only[sz,simprocAttr];have hl:(AN n e v a bn bd).length<2^63/\∀y∈AN n e v a bn bd,y<2^64:=by
   rw[AN]
   split
   ·rename_i c;have hk:=Cz (Pd c);exact⟨Nb (ON hk) (by decide),λy hy=>ae2 (Td hk y hy) (by decide)⟩
   ·exact⟨by decide,λy hy=>by cases hy⟩
  exact⟨λ_=>True,_,_,rfl,⟨u,rfl,ho.nats' hl.1 hl.2⟩,ay.2 rfl⟩
theorem bf7[Z0](hS:BL){P:Nat->Prop}(hd:0<d)(hm:Zl n ZX 0 g.h u)(he:ZT P k g.h e w)(hk:k<=d) :
  ∃r,fF C0 15 d [u,w,Z_ v,Z_ a,.agg [Z_ bn,Z_ bd]] g=.val r/\mQ (One (AM n e v a bn bd)) (One (GU n e v a bn bd)) ZX 0 .nil r:=by
 obtain⟨bb,rows,rfl,e1,f,hN,-⟩:=bT d hm;obtain⟨w',j,b⟩:=aZ he d;rw[adW hk]at b;refine Cx Fj (xs:=[.agg [Z_ n.Z8,bb],w',Z_ v,Z_ a,.agg [Z_ bn,Z_ bd]]) (by simp only[aD,e1,j,aU,wF]) (by simp[rR]) (bM (m:=1) (aE _) (aE _) (by decide) (by decide)) (by decide) hd ?_;unfold rR;dsimp only;refine bp (by kernel_rfl) ?_;have cw:=(b .nil).cell;simp only[sz,simprocAttr,ja,cw.1,cw.2];generalize hg0:G.new _ _=g0;have f0:g0.h.get 0=Z4 2 [[Z_ n.Z8,bb]]:=by rw[<-hg0];simp[Za,sx]
 have f1:g0.h.get 1=Z4 1 [[w']]:=by rw[<-hg0];simp[Za,sx]
 have f2:g0.h.get 2=Z4 1 [[Z_ v]]:=by rw[<-hg0];simp[Za,sx]
 have l:g0.h.get 3=Z4 1 [[Z_ a]]:=by rw[<-hg0];simp[Za,sx]
 have p:g0.h.get 4=Z4 2 [[Z_ bn,Z_ bd]]:=by rw[<-hg0];simp[Za,sx]
 have fn:g0.nx=5:=by rw[<-hg0];simp[sx]
 clear hg0;unfold vG;rw[cg];show U5 C0 (d+1) ([o 12 (.XZ 51 [] [.t 5,.t 6,.t 7,.t 8,.t 9])]++[TX 13 44 12,Vz 14 13 0,Vz 15 13 1,oM 10 14,oM 11 15]) _ _ _ _;refine cI (by kernel_rfl) ?_;simp only[sz,simprocAttr];refine cy (ys:=[.ZH 51 [] [ZZ 0,ZZ 1,ZZ 2,ZZ 3,ZZ 4]]) (by kernel_rfl) (by simp[sx]) ?_;refine Bk (err:=GU n e v a bn bd) (L:=AM n e v a bn bd) (by kernel_rfl) (λh=>ZF h) (λg1 h1=>?_) (λu g1 B ho=>?_)
 ·have fx:∀i,i<5->g1.h.get i=g0.h.get i:=λi hi=>h1.2 i (by omega);refine bf_ hS (k:=d) (n:=n) (e:=e) (v:=v) (a:=a) (bn:=bn) (bd:=bd) (bb:=bb) (ev:=w') (by omega) (by omega) (λh=>f h) (b .nil) (by rw[fx 0 (by decide),f0]) (by rw[fx 1 (by decide),f1]) (by rw[fx 2 (by decide),f2]) (by rw[fx 3 (by decide),l]) (by rw[fx 4 (by decide),p]) (by have:=h1.1;omega)
   (λc u g2 B h2 hB ho=>⟨c,h2,?_⟩) (λc g2 h2=>⟨c,h2,rfl⟩)
  rw[AM,ZN c];rcases ho with ho|⟨id,ep,lo,q1,q2,q3,q⟩
  ·exact .inl ho
  ·exact .inr ⟨id,ep,lo,by omega,q2,q3,q⟩
 ·refine bg (by kernel_rfl) ?_;simp only[sz,simprocAttr,bf];rw[aV,o8,qj,mH];simp only[sz,simprocAttr];have hl:(AM n e v a bn bd).length<2^63/\∀y∈AM n e v a bn bd,y<2^64:=by
   rw[AM]
   split
   ·rename_i c;have hk:=Cz (Pd c);exact⟨Nb (ON hk) (by decide),λy hy=>ae2 (Td hk y hy) (by decide)⟩
   ·exact⟨by decide,λy hy=>by cases hy⟩
  exact⟨λ_=>True,_,_,rfl,⟨u,rfl,ho.nats' hl.1 hl.2⟩,ay.2 rfl⟩
end
end
end Hx
section
namespace Hx
open Go Go.Proofs Go.Shelf Go.Sort Go.RowKit
abbrev El (L:List Int):Type:={ x:Int // x∈L }
def rG(L:List Int):El L->Value:=λx=>.int .u64 x.1
def oP(L:List Int):Array (El L):=L.attach.toArray
def eci{L:List Int}(x:El L):List AV:=[.int .u64 x.1]
theorem eW(L:List Int):(oP L).size=L.length:=by simp[oP]
def WD(C:ZO)(d:Nat)(g:G)(f:Nat)(cap:List AV)(L:List Int)(cf:El L->El L->Int):Prop :=∀x y,af (I C) d g f (.int .u64 x.1::.int .u64 y.1::cap)=.val (.int .i64 (cf x y))
def BK(C:ZO)(d:Nat)(g:G)(id len:Nat)(rows:List (List AV))(f:Nat)(cap:List AV)(R:List Int):Prop :=
 ∃(L:List Int) (_:Inhabited (El L)) (cf:El L->El L->Int),rows=L.map (λx=>[.int .u64 x])/\len=L.length/\L.length<4611686018427387904/\(id ∉ cap.flatMap (aB g.h aw)/\∀k∈cap.flatMap (aB g.h aw),k∈aB g.h aw (.ZH f [] cap)) /\
  SWO (ltOf cf)/\WD C d g f cap L cf/\R=(pdq (ltOf cf) (oP L) 0 L.length (Lib.bitLen L.length) true true).toList.map (·.1)
open Classical in
noncomputable def wk(C:ZO):Nat->List AV->G->OR:=λd xs g =>
 match xs with
 | [.ZG id ep 0 len _,.ZH f [] cap]=>match g.h.get id with
  |.cells 1 rows ep' lo false=>if h:ep=ep'/\∃R,BK C d g id len rows f cap R then .upd (.Zz []) (g.put id (.cells 1 (h.2.choose.map λx=>[.int .u64 x]) ep lo false)) else .fail
  |_=>.fail
 |_=>.fail
theorem CK{C:ZO}{d:Nat}{xs:List AV}{g:G}(h:wk C d xs g≠.fail):∃id ep len lim f cap rows lo R,xs=[.ZG id ep 0 len lim,.ZH f [] cap]/\g.h.get id=.cells 1 rows ep lo false/\BK C d g id len rows f cap R /\
  wk C d xs g=.upd (.Zz []) (g.put id (.cells 1 (R.map λx=>[.int .u64 x]) ep lo false)):=by
 unfold wk at h ⊢
 split at h
 ·rename_i id ep len lim f cap
  split at h
  ·rename_i rows ep' lo k
   split at h
   ·rename_i hc;obtain⟨rfl,hR⟩:=hc;refine⟨id,ep,len,lim,f,cap,rows,lo,hR.choose,rfl,k,hR.choose_spec,?_⟩
    first|simp only[k]|skip
    rw[dif_pos ⟨rfl,hR⟩]
   ·exact absurd rfl h
  ·exact absurd rfl h
 ·exact absurd rfl h
section
variable {C:ZO}{A:Nat->Nat->Prop}{bd:Nat}{w:World}{γ:Gm}{hg:Nat->ZM}{nx:Nat}
theorem bf6{ih:IH}{g:G}{f:Nat}{args:List AV}{vs:List Value}{k:IntKind}{z:Int}(hc:Ew C ih)(hm:AB ih)(hr:ZB C A bd w γ hg nx)
  (hx:∀id∈args.flatMap (aB g.h aw),g.h.get id≠.none->hg id=g.h.get id)
  (hv:S9 w γ A bd args vs) (hres:af ih (bd+1) g f args=.val (.int k z)) (cs:List Frame) :
  mI C.P f/\∃w',Stp w γ w' γ/\(∀b,b<w.heap.size->w'.heap[b]?=w.heap[b]?)/\Vi C.P .normal f vs.toArray cs w (.int k z) w':=by
 let γc:Gm:=λ_=>⟨0,0,0,0,0,0,0,false⟩
 let L:Nat->Prop:=λid=>id∈args.flatMap (aB g.h aw)
 let isC:Nat->Prop:=λid=>∃sz rows ep lo fz,g.h.get id=.cells sz rows ep lo fz
 let Ac:Nat->Nat->Prop:=λt b=>(t<=bd/\(A t b\/VA γ b))\/(t=bd+1/\b<w.heap.size/\¬∃id,L id/\isC id/\(γ id).kind=1/\(γ id).blk=b)
 have e:∀b,¬VA γc b:=by rintro b ⟨id,h,_⟩;exact h rfl
 unfold af at hres
 split at hres
 ·cases hres
 rename_i xs0 D;have l:∀t b,t<=bd->b<w.heap.size->¬A t b->¬VA γ b->¬Ac t b/\¬VA γc b:=by
  intro t b h1 _ h2 B;refine⟨?_,e b⟩;rintro (⟨_,h|h⟩|⟨h,_⟩)
  ·exact h2 h
  ·exact B h
  ·omega
 have o:S9 w γc Ac (bd+1) xs0 vs:=by
  refine⟨by rw[nj D];exact hv.1,λi y v hy hvi=>?_⟩;obtain⟨x,h1,h2⟩:=gm D i y hy;refine (Eq (L:=L) hr hx (XM _) (ZV _) l ?_ aw h2 (hv.2 i x v h1 hvi) λid hid=>XP.2 ⟨x,YH h1,hid⟩).1;intro id O p hk t B h4;have ht:t=bd+1:=Nat.le_antisymm h4 B;refine⟨?_,e _⟩;rintro (⟨h,_⟩|⟨_,_,h⟩)
  ·omega
  ·exact h ⟨id,O,p,hk,rfl⟩
 have M:ZB C Ac (bd+1) w γc (λ_=>.none) 0:=by
  refine⟨λid=>rfl,λid h=>absurd rfl h,λi j h=>absurd rfl h,λid h=>absurd rfl h,?_,λgl sz rows h=>?_⟩
  ·rintro t b (⟨_,h|⟨id,h1,h2,B⟩⟩|⟨_,h,_⟩)
   ·exact hr.ab t b h
   ·rw[<-B];exact (hr.lt id h1).2
   ·exact h
  ·have:=hr.Q6 gl sz rows h;exact (nz this (ym this (.inr ⟨_,_,_,_,_,rfl⟩)) l).mono (XM _)
 split at hres
 ·cases hres
 rename_i r g' m;have d:G.empty.h.get=λ_=>ZM.none:=by funext id;simp[G.empty,H.get,Zg]
 obtain⟨E,I⟩:=hc (bd+1) f xs0 G.empty r g' m;obtain⟨u,w',γ',hg',a,N,F⟩:=I Ac w γc (λ_=>.none) 0 vs M (λid h=>by rw[d]at h;exact absurd rfl h) (λid _=>by rw[d])
  (λ_ _ _=>rfl) o .normal cs (.inl rfl)
 have q:Wo g'.h hg':=a.ext (hm _ _ _ _ _ _ m (λid _=>by rw[d])) (λid h=>by rw[d]at h;exact absurd rfl h);have n:∀b,b<w.heap.size->w'.heap[b]?=w.heap[b]?:=λb hb=>a.WB.fr b hb (e b);have J:Stp w γ w' γ:=GF a.WB.sz a.WB.os a.WB.tape a.WB.output a.WB.dr n
 split at hres
 ·cases hres
 rename_i r' s;obtain⟨K,hcl⟩:=Eq (A':=Ac) (γ':=γc) (L:=λ_=>True) a.rel (λid _=>q id) (ZV _) (Jq _) (λt b _ _ h _=>⟨h,e b⟩)
  (λid _ _ hk t _ _=>⟨a.rel.av id (by rw[hk];decide) t,e _⟩) aw s N λ_ _=>trivial
 split at hres
 ·cases hres
 rw[aa]at hres
 split at hres
 ·injection hres with hres;subst hres;cases K;exact⟨E,w',J,n,F⟩
 ·split at hres
  ·cases hres
  ·split at hres
   ·cases hres
   ·rw[aa]at hres
    split at hres<;>cases hres
theorem bf5{W w':World}(h1:W.heap.size<=w'.heap.size)(h2:w'.os=W.os)(h3:w'.tape=W.tape)(h4:w'.output=W.output)(h5:W.drawn<=w'.drawn)(hs:∀b,b<W.heap.size->w'.heap[b]?=W.heap[b]?) :
  ∃q os,w'=Sort.grow (W.drewN q) os:=by
 refine⟨w'.drawn - W.drawn,w'.heap.extract W.heap.size w'.heap.size,?_⟩;obtain⟨h,tp',dr',os',ou'⟩:=w';obtain⟨hp,tp,dr,os,ou⟩:=W;dsimp only at h1 h2 h3 h4 h5 hs;subst h2;subst h3;subst h4;have e1:h=hp++h.extract hp.size h.size:=by
  refine aeC λk=>?_;rw[Array.getElem?_append]
  split
  ·rename_i hk;exact hs k hk
  ·rename_i hk;rw[aeZ]
   by_cases hk2:k<h.size
   ·rw[i6];congr 1;omega
   ·rw[bJ,Array.getElem?_eq_none (by omega)]
 have a:dr'=dr+(dr' - dr):=by omega
 simp only[Sort.grow,World.drewN,World.mk.injEq,true_and,and_true];exact⟨e1,a⟩
theorem bf4{L:List Int} [Inhabited (El L)](blk off m:Nat)(os:Array Obj)(dk:Array (El L)):(sortWorld (rG L) w blk off m dk os).heap.size=w.heap.size+os.size:=by simp[sortWorld,Sort.grow,putRow,mapBlock,Sort.ahead]
theorem bf3{L:List Int} [Inhabited (El L)]{blk off m:Nat}{os:Array Obj}{dk:Array (El L)}{b:Nat}(hb:b<w.heap.size)(hne:b≠blk):(sortWorld (rG L) w blk off m dk os).heap[b]?=w.heap[b]?:=by simp only[sortWorld,Sort.grow,putRow,mapBlock,Sort.ahead];rw[adR (by simpa using hb),ads,ZF (Vw hne)]
theorem bf2{L:List Int} [Inhabited (El L)]{blk off m:Nat}{os:Array Obj}{dk:Array (El L)}{c:Array Value}{e:TypeId}{f:Nat×Nat}(h:w.heap[blk]?=some (.cells c e f)):(sortWorld (rG L) w blk off m dk os).heap[blk]?=some (.cells (Go.Sort.putCells (rG L) off dk c) e f):=by
 have hb:blk<w.heap.size:=(Array.getElem?_eq_some_iff.1 h).1;simp only[sortWorld,Sort.grow,putRow,mapBlock,Sort.ahead];rw[adR (by simpa using hb),ads,ZN rfl,h]
 rfl
theorem LU(hr:ZB C A bd w γ hg nx){id ep:Nat}{rows:List (List AV)}{lo:Bool}(hid:hg id=.cells 1 rows ep lo false){L:List Int} [Inhabited (El L)](hrows:rows.length=L.length)(m:Nat)(os:Array Obj)(dk:Array (El L))(hs:dk.size=L.length) :
  Stp w γ (sortWorld (rG L) w (γ id).blk (γ id).base m dk os) γ/\ZB C A bd (sortWorld (rG L) w (γ id).blk (γ id).base m dk os) γ (upd hg id (.cells 1 (dk.toList.map eci) ep lo false)) nx:=by
 have o:=hr.obj id;rw[hid]at o;obtain⟨u,k2,E,F,G,v,c,e,H,z,I,D⟩:=o;have hk:(γ id).kind≠0:=by rw[u];decide
 have hw:(γ id).wr=true:=by simpa using v
 obtain⟨W,hW⟩:∃W,W=sortWorld (rG L) w (γ id).blk (γ id).base m dk os:=⟨_,rfl⟩;rw[<-hW];have B:W.heap.size=w.heap.size+os.size:=by rw[hW];exact bf4 _ _ _ _ _
 have d:∀b,b<w.heap.size->b≠(γ id).blk->W.heap[b]?=w.heap[b]?:=λb h1 h2=>by rw[hW];exact bf3 h1 h2
 have n:W.heap[(γ id).blk]?=some (.cells (Go.Sort.putCells (rG L) (γ id).base dk c) e (0,0)):=by rw[hW];exact bf2 H
 have s:Stp w γ W γ:=⟨by omega,by rw[hW];rfl,by rw[hW];rfl,by rw[hW];rfl,λb hb hm=>d b hb λe=>hm ⟨id,hk,hw,e.symm⟩,λ_ _ h=>h,λ_ _=>.inl ⟨rfl,rfl⟩,λ_ _=>⟨ZV _,λ_=>⟨rfl,rfl,rfl,rfl,rfl⟩⟩,by rw[hW];exact Nat.le_add_right _ _⟩;refine⟨s,?_⟩;have e:γ=upd γ id (γ id):=by funext k;unfold upd;split<;>simp_all
 have f:(dk.toList.map eci).length=rows.length:=by simp[hs,hrows]
 refine hr.set (gh:=γ id) e s (ZV _) ?_ ?_ ?_ ?_ ?_
 ·simp only[XK];refine⟨u,k2,E,by rw[f];exact F,by rw[f];exact G,v,_,_,n,by rw[f];simpa [Go.Sort.putCells] using z,λi row hi=>?_,λi j row x hi l=>?_⟩
  ·rw[Zy,aee]at hi;obtain⟨y,-,rfl⟩:=hi
   rfl
  ·rw[Zy,aee]at hi;obtain⟨y,t,rfl⟩:=hi;have q:i<dk.size:=by have:=(tI.1 t).1;simpa using this
   have r:j=0:=by have:=(tI.1 l).1;simp[eci]at this;omega
   subst r;simp[eci]at l;subst l;refine⟨rfl,.int .u64 y.1,?_,.int _ _ _⟩;have hcl:(γ id).base+i<c.size:=by rw[hrows]at z;omega
   have p:dk[i]! = y:=by rw[getElem!_pos dk i q];have:=(tI.1 t).2;simpa using this
   rw[show (γ id).base+i*1+0=(γ id).base+i from by omega];simp only[Go.Sort.putCells,Array.getElem?_mapIdx,Np hcl,PW];rw[ZN ⟨by omega,by omega⟩,show (γ id).base+i - (γ id).base=i from by omega,p]
   rfl
 ·have:=hr.lt id hk;exact⟨this.1,by omega⟩
 ·intro j l a eb;exact l (hr.inj j id a hk eb)
 ·exact hr.av id hk
 ·intro j l a _;exact d _ (hr.lt j a).2 λeb=>l (hr.inj j id a hk eb)
theorem bf1(hC:ZK C)(hr:ZB C A bd w γ hg nx){g:G}{id ep f:Nat}{rows:List (List AV)}{lo:Bool}{cap:List AV}{us:List Value}{L:List Int} [hI:Inhabited (El L)]{cf:El L->El L->Int}(hx:∀k∈cap.flatMap (aB g.h aw),g.h.get k≠.none->hg k=g.h.get k)
  (hid:hg id=.cells 1 rows ep lo false) (hrows:rows.length=L.length) (hnot:id ∉ cap.flatMap (aB g.h aw)) (hv:S9 w γ A bd cap us) (hcmp:WD C (bd+1) g f cap L cf) :
  mI C.P f/\CmpLays1 C.P f us.toArray (rG L) cf (γ id).blk (γ id).base L.length w:=by
 have key:∀(m:Nat) (os:Array Obj) (dk:Array (El L)),dk.size=L.length->∀x y:El L,∀cs,mI C.P f/\∃w',Stp (sortWorld (rG L) w (γ id).blk (γ id).base m dk os) γ w' γ/\(∀b,b<(sortWorld (rG L) w (γ id).blk (γ id).base m dk os).heap.size->w'.heap[b]?=(sortWorld (rG L) w (γ id).blk (γ id).base m dk os).heap[b]?) /\
   Vi C.P .normal f (rG L x::rG L y::us).toArray cs (sortWorld (rG L) w (γ id).blk (γ id).base m dk os) (.int .i64 (cf x y)) w':=by
  intro m os dk hs x y cs;obtain⟨o,l⟩:=LU hr hid hrows m os dk hs;have h:=hcmp x y;obtain⟨N,hN⟩:=zN (C:=C) (d:=bd+1) (g:=g) (f:=f) (args:=.int .u64 x.1::.int .u64 y.1::cap);have n:af (Qu C N) (bd+1) g f (.int .u64 x.1::.int .u64 y.1::cap)=af (I C) (bd+1) g f (.int .u64 x.1::.int .u64 y.1::cap):=hN N (ZV _);rw[<-n]at h;have j:=nY hC N;refine bf6 j.call j.ZA.call l (λk hk hn=>?_) ?_ h cs
  ·have c:k∈cap.flatMap (aB g.h aw):=by
    rw[X4,X4,Tn,Tn]at hk;rcases hk with hk|hk|hk
    ·simp[aB,aw]at hk
    ·simp[aB,aw]at hk
    ·exact hk
   rw[dz _ _ (λe=>hnot (by rw[<-e];exact c))];exact hx k c hn
  ·refine⟨by simp[hv.1],λi a v ha hva=>?_⟩
   match i,ha,hva with
   |0,ha,hva=>simp at ha hva;subst ha;subst hva;exact .int _ _ _
   |1,ha,hva=>simp at ha hva;subst ha;subst hva;exact .int _ _ _
   |i+2,ha,hva=>exact (hv.2 i a v (by simpa using ha) (by simpa using hva)).step o
 refine⟨(key 0 #[] (oP L) (eW L) default default []).1,λm os dk hs x y cs=>?_⟩;obtain⟨-,w',s,same,fr,h1,h2,p,h4,h5,fn,q,h7⟩:=key m os dk hs x y cs;refine⟨.returned (.int .i64 (cf x y)),w',fr,⟨rfl,bf5 s.sz s.os s.tape s.output s.dr same⟩,?_,h5,h2,p,h4,fn,by rw[h5];exact q,h7⟩;have e:(#[rG L x,rG L y]++us.toArray:Array Value)=(rG L x::rG L y::us).toArray:=by simp
 rw[e];exact h1
theorem bf0{ρ:Ren}(L0:SlLaysF.n6 C.P ρ)(hent:mI C.P (ρ.f 6))(hC:ZK C):Zm C (ρ.f 6) (wk C):=by
 refine⟨λd xs g hwf=>?_,λd xs g y hy=>?_,λA bd w γ hg nx g xs vs hr hwf hx hf hv hne cs=>?_⟩
 ·apply XF.ZA _ hwf
  by_cases h:wk C d xs g=.fail
  ·rw[h];trivial
  ·obtain⟨id,ep,len,lim,f,cap,rows,lo,R,e1,m,X,o⟩:=CK h;rw[o];exact .inl ⟨_,_,rfl,by rw[m];simp⟩
 ·have h:wk C d xs g≠.fail:=by rw[hy];simp
  obtain⟨id,ep,len,lim,f,cap,rows,lo,R,e1,m,X,o⟩:=CK h;rw[o]at hy;cases hy
 ·obtain⟨id,ep,len,lim,f,cap,rows,lo,R,rfl,m,⟨L,hI,cf,q1,q2,q3,⟨q4,q8⟩,q5,q6,q7⟩,o⟩:=CK hne;rw[o]at hf ⊢;obtain⟨U,V,rfl⟩:∃U V,vs=[U,V]:=by
   have:=hv.1
   match vs,this with
   |[a,b],_=>exact⟨a,b,rfl⟩
  have r1:RV w γ A bd (.ZG id ep 0 len lim) U:=hv.2 0 _ _ rfl rfl;have r2:RV w γ A bd (.ZH f [] cap) V:=hv.2 1 _ _ rfl rfl;have z:id∈[AV.ZG id ep 0 len lim,.ZH f [] cap].flatMap (aB g.h aw):=by simp[X4,aB,aw]
  have l:hg id=.cells 1 rows ep lo false:=by rw[hx id z (by rw[m];simp),m]
  have E:rows.length=L.length:=by rw[q1];simp
  obtain⟨c,G,Z,-⟩:=xW hr r1 l;have hz:(γ id).base+0*1=(γ id).base:=by omega
  rw[hz]at G;subst G;cases r2 with
  | ZH _ _ _ _ vs us hl hl2 h h2 =>
   have N:vs=#[]:=by
    have:vs.size=0:=by simpa using hl.symm
    exact Array.eq_empty_of_size_eq_zero this
   subst N;have O:S9 w γ A bd cap us.toList:=⟨by simpa using hl2,λi x v a b=>h2 i x v a (by simpa using b)⟩;obtain⟨I,q⟩:=bf1 (hI:=hI) hC hr (λk hk hn=>hx k (by rw[X4,X4,Tn,Tn];exact .inr (.inl (q8 k hk))) hn) l E q4 O q6
   have B:=hr.obj id;rw[l]at B;obtain⟨k1,k2,k3,k4,k5,k6,cc,ec,W,k8,k9,T⟩:=B;have Y:Holds (rG L) w (γ id).blk (γ id).base (oP L):=by
    intro j H;rw[eW]at H;have F:rows[j]?=some [.int .u64 L[j]]:=by rw[q1,Zy,Zq H];rfl
    obtain⟨-,v,p1,p2⟩:=T j 0 _ (.int .u64 L[j]) F rfl;cases p2;have hd:(oP L)[j]! = ⟨L[j],E_ H⟩:=by rw[getElem!_pos (oP L) j (by rw[eW];exact H)];simp[oP]
    refine⟨?_,by simp[World.frozen?,W]⟩;rw[hd];show World.cell? w (Zo (γ id).blk ((γ id).base+j))=_;rw[px W];rw[show (γ id).base+j*1+0=(γ id).base+j from by omega]at p1;exact p1
   have t:=Any.slices_SortFunc_eq L0 (rG L) (λ_=>rfl) cf q5 f us.toList.toArray (γ id).blk (γ id).base c (oP L) w I (by rw[eW];exact q) Y (hr.lt id (by rw[k1];decide)).2 (by rw[eW];exact q3);obtain⟨e,w1,fr,⟨he,n,os,Q⟩,p,u,K⟩:=t cs;subst he;obtain⟨m1,d1,kk1,fn,J,D⟩:=K;have M:=(pdq_sorts (ltOf cf) q5 (oP L) 0 (oP L).size (Lib.bitLen (oP L).size) true true (Jq _) (ZV _) (Or.inl rfl)).1.1;obtain⟨s,r⟩:=LU hr l E n os (pdq (ltOf cf) (oP L) 0 (oP L).size (Lib.bitLen (oP L).size) true true) (by rw[M,eW]);rw[<-Q]at s r;have hR:(R.map λx=>[AV.int .u64 x])=(pdq (ltOf cf) (oP L) 0 (oP L).size (Lib.bitLen (oP L).size) true true).toList.map eci:=by rw[q7,Rr,eW];rfl
   rw[hR];refine⟨.tuple #[],w1,γ,_,Oi r s,.Zz _ _ _ rfl λi x v hx'=>by simp at hx',.inr ⟨hent,fr,?_,m1,d1,kk1,u,fn,by rw[<-u];exact J,D⟩⟩;have e:(#[.slice (some ⟨(γ id).blk,(γ id).base,none⟩) (oP L).size c,.func (.func f) #[] us.toList.toArray]:Array Value)=[.slice (some (Zo (γ id).blk (γ id).base)) len c,.func (.func f) #[] us].toArray:=by rw[eW,q2];simp[Zo]
   rw[e]at p;exact p
end
end Hx
end
namespace Hx
open Go
noncomputable section
variable {g:G}{d k a ks s q vn kn j f:Nat}{e:List Int}{n:Zv}{bn bd v gr value:Int}{K KP:AV->G->Prop}{b ev w u:AV}{t:T}{D:ZU->Prop}{x:Bool}
end
end Hx
section
namespace Go.Proofs
open Go.Shelf
def Tryz.sort85_ren:Go.Shelf.Ren:=⟨λ| 6=>85 | 15=>120 | 14=>119 | 28=>149 | 29=>150 | 20=>141 | 21=>142 | 22=>143 | 23=>144 | 24=>145 | 25=>146 | 26=>147 | 27=>148 | 46=>160 | 47=>161 | 48=>162 | 49=>163 | 50=>164 | 57=>171 | n=>n,λ| 22=>50 | 24=>40 | 25=>144 | 3=>3 | 39=>40 | 0=>0 | 53=>188 | 55=>145 | 4=>4 | 46=>212 | 45=>211 | 50=>216 | 5=>5 | 9=>9 | 66=>225 | 70=>229 | 76=>236 | 77=>237 | n=>n,λ| n=>n⟩
theorem Tryz.sort85:Go.Proofs.SlLaysF.n6 Tryz.prog Tryz.sort85_ren:={
 mixed:=by kernel_rfl
 f6:=⟨Tryz.f85.name,by decide,Tryz.func85.trans (congrArg some (by kernel_rfl))⟩
 f14:=⟨Tryz.f119.name,by decide,Tryz.func119.trans (congrArg some (by kernel_rfl))⟩
 f15:=Tryz.func120.trans (congrArg some (by kernel_rfl))
 f20:=⟨Tryz.f141.name,by decide,Tryz.func141.trans (congrArg some (by kernel_rfl))⟩
 f21:=⟨Tryz.f142.name,by decide,Tryz.func142.trans (congrArg some (by kernel_rfl))⟩
 f22:=⟨Tryz.f143.name,by decide,Tryz.func143.trans (congrArg some (by kernel_rfl))⟩
 f23:=⟨Tryz.f144.name,by decide,Tryz.func144.trans (congrArg some (by kernel_rfl))⟩
 f24:=⟨Tryz.f145.name,by decide,Tryz.func145.trans (congrArg some (by kernel_rfl))⟩
 f25:=⟨Tryz.f146.name,by decide,Tryz.func146.trans (congrArg some (by kernel_rfl))⟩
 f26:=⟨Tryz.f147.name,by decide,Tryz.func147.trans (congrArg some (by kernel_rfl))⟩
 f27:=⟨Tryz.f148.name,by decide,Tryz.func148.trans (congrArg some (by kernel_rfl))⟩
 f28:=Tryz.func149.trans (congrArg some (by kernel_rfl))
 f29:=Tryz.func150.trans (congrArg some (by kernel_rfl))
 f46:=⟨Tryz.f160.name,by decide,Tryz.func160.trans (congrArg some (by kernel_rfl))⟩
 f47:=Tryz.func161.trans (congrArg some (by kernel_rfl))
 f48:=Tryz.func162.trans (congrArg some (by kernel_rfl))
 f49:=⟨Tryz.f163.name,by decide,Tryz.func163.trans (congrArg some (by kernel_rfl))⟩
 f50:=⟨Tryz.f164.name,by decide,Tryz.func164.trans (congrArg some (by kernel_rfl))⟩
 f57:=⟨Tryz.f171.name,by decide,Tryz.func171.trans (congrArg some (by kernel_rfl))⟩
 t0:=Tryz.underlying0
 a0:=Tryz.isAgg0
 z0:=Tryz.sizeOf0
 v0:=Tryz.zeroValue0
 t3:=Tryz.underlying3
 a3:=Tryz.isAgg3
 z3:=Tryz.sizeOf3
 v3:=Tryz.zeroValue3
 t4:=Tryz.underlying4
 a4:=Tryz.isAgg4
 z4:=Tryz.sizeOf4
 v4:=Tryz.zeroValue4
 t5:=Tryz.underlying5
 a5:=Tryz.isAgg5
 z5:=Tryz.sizeOf5
 v5:=Tryz.zeroValue5
 t9:=Tryz.underlying9
 a9:=Tryz.isAgg9
 z9:=Tryz.sizeOf9
 v9:=Tryz.zeroValue9
 t22:=Tryz.underlying50
 a22:=Tryz.isAgg50
 z22:=Tryz.sizeOf50
 v22:=Tryz.zeroValue50
 a24:=Tryz.isAgg40
 z24:=Tryz.sizeOf40
 t25:=Tryz.underlying144
 a25:=Tryz.isAgg144
 z25:=Tryz.sizeOf144
 v25:=Tryz.zeroValue144
 t39:=Tryz.underlying40
 a39:=Tryz.isAgg40
 z39:=Tryz.sizeOf40
 v39:=Tryz.zeroValue40
 t45:=Tryz.underlying211
 a45:=Tryz.isAgg211
 z45:=Tryz.sizeOf211
 v45:=Tryz.zeroValue211
 t46:=Tryz.underlying212
 a46:=Tryz.isAgg212
 z46:=Tryz.sizeOf212
 v46:=Tryz.zeroValue212
 t50:=Tryz.underlying216
 a50:=Tryz.isAgg216
 z50:=Tryz.sizeOf216
 v50:=Tryz.zeroValue216
 t53:=Tryz.underlying188
 a53:=Tryz.isAgg188
 z53:=Tryz.sizeOf188
 v53:=Tryz.zeroValue188
 t55:=Tryz.underlying145
 a55:=Tryz.isAgg145
 z55:=Tryz.sizeOf145
 v55:=Tryz.zeroValue145
 t66:=Tryz.underlying225
 a66:=Tryz.isAgg225
 z66:=Tryz.sizeOf225
 v66:=Tryz.zeroValue225
 t70:=Tryz.underlying229
 a70:=Tryz.isAgg229
 z70:=Tryz.sizeOf229
 v70:=Tryz.zeroValue229
 t76:=Tryz.underlying236
 a76:=Tryz.isAgg236
 z76:=Tryz.sizeOf236
 v76:=Tryz.zeroValue236
 t77:=Tryz.underlying237
 a77:=Tryz.isAgg237
 z77:=Tryz.sizeOf237
 v77:=Tryz.zeroValue237 }
end Go.Proofs
end
namespace Hx
open Go
noncomputable section
variable {g:G}{d k a ks s q vn kn j f:Nat}{e:List Int}{n:Zv}{bn bd v gr value:Int}{K KP:AV->G->Prop}{b ev w u:AV}{t:T}{D:ZU->Prop}{x:Bool}
end
end Hx
section
namespace Hx
open Go Go.Proofs Go.Sort Go.Proofs.YtikpmbiklokdiaaGreat
noncomputable section
@[reducible] def iF:Z0:=⟨λ_=>none,λ_ _ _=>.fail⟩
theorem be_(k:Nat)(h:Nat.testBit 567296 k=true):k=11\/k=13\/k=15\/k=19:=by
 have h1:∀k,k<20->Nat.testBit 567296 k=true->k=11\/k=13\/k=15\/k=19:=by decide
 by_cases c:k<20
 ·exact h1 k c h
 ·rw[ae4 (x:=567296) (i:=k) (Vd (by decide:567296<2 ^ 20) (Wl (by decide) (by omega)))]at h;cases h
theorem be9(k:Nat)(h:Nat.testBit 567296 k=true):Gen.XL.ext k=none:=by rcases be_ k h with rfl|rfl|rfl|rfl<;>kernel_rfl
theorem WH(f:Nat->List AV->G->OR):@C0 ⟨λ_=>none,f⟩=Gen.XL.add 85 f:=by
 have he:(@C0 ⟨λ_=>none,f⟩).ext=(Gen.XL.add 85 f).ext:=by
  funext k;show ap (Nat.beq k 85) (some f) (ap (Nat.testBit 567296 k) none (Gen.XL.ext k))=ap (Nat.beq k 85) (some f) (Gen.XL.ext k);congr 1;rw[aa]
  split
  ·rename_i h;rw[be9 k h]
  ·rfl
 show ({ Gen.XL with ext:=(@C0 ⟨λ_=>none,f⟩).ext }:ZO)=Gen.XL.add 85 f;rw[he];rfl
theorem be8{C:ZO}{f:Nat}:Zm C f λ_ _ _=>.fail :=⟨λd xs g hwf=>by apply XF.ZA _ hwf;trivial,(λd xs g y h=>by cases h),λA bd w γ hg nx g xs vs hr hwf hx hf hv hne cs=>absurd rfl hne⟩
theorem RB:ZK (@C0 iF):=by rw[WH];exact Gen.MU.add be8
def yq:Nat->List AV->G->OR:=λd xs g=>match xs with
 |[.Z6,f]=>Qr (@C0 iF) 20000 85 d [.Z6,f] g
 |_=>wk (@C0 iF) d xs g
theorem be7:Zm (@C0 iF) 85 yq:=by
 have h1:Zm (@C0 iF) 85 (Qr (@C0 iF) 20000 85):=D_ RB;have h2:Zm (@C0 iF) 85 (wk (@C0 iF)):=bf0 (C:=@C0 iF) (ρ:=Tryz.sort85_ren) Tryz.sort85 (Hx.H_ Tryz.func85 (by kernel_rfl) (by kernel_rfl)) RB;have key:∀xs:List AV,(∀d g,yq d xs g=Qr (@C0 iF) 20000 85 d xs g)\/(∀d g,yq d xs g=wk (@C0 iF) d xs g):=λxs=>by
  unfold yq
  split
  ·exact .inl λ_ _=>rfl
  ·exact .inr λ_ _=>rfl
 refine⟨λd xs g hwf=>?_,λd xs g y=>?_,λA bd w γ hg nx g xs vs=>?_⟩
 ·rcases key xs with h|h<;>rw[h]
  ·exact h1.ZA d xs g hwf
  ·exact h2.ZA d xs g hwf
 ·rcases key xs with h|h<;>rw[h]
  ·exact h1.Vo d xs g y
  ·exact h2.Vo d xs g y
 ·rcases key xs with h|h<;>rw[h]
  ·exact h1.run A bd w γ hg nx g xs vs
  ·exact h2.run A bd w γ hg nx g xs vs
theorem be6(d:Nat)(g:G):yq (d+1) [.Z6,.ZH 86 [] []] g=.val (.Zz []):=by kernel_rfl
@[reducible] def iN:Z0:=⟨λ_=>none,yq⟩
theorem I4:ZK (@C0 iN):=by rw[WH];exact Gen.MU.add (Zm.XR (C:=@C0 iF) (C':=Gen.XL) rfl rfl be7)
theorem be5{a b c:Nat}(h1:zc a b)(h2:zc b c):zc a c:=by unfold zc at *;omega
theorem be4{L:List Int}{cf:El L->El L->Int}(h:∀x y:El L,cf x y=uo x.1.toNat y.1.toNat)(hL:∀x∈L,0<=x):SWO (ltOf cf):=by
 have e:∀x y:El L,ltOf cf x y=true↔zc x.1.toNat y.1.toNat:=λx y=>by unfold ltOf;rw[h,RY];exact OK
 refine⟨λx=>?_,λx y z h1 h2=>?_,λx y z h1 h2=>?_⟩
 ·rw[<-HF,e];unfold zc;omega
 ·rw[e]at *;exact be5 h1 h2
 ·rw[<-HF,e]at *;unfold zc at *;omega
def cu'(x:Int):List AV:=[ZW x]
theorem be3{C:ZO}{d:Nat}{g:G}{id len:Nat}{L0:List Nat}{R:List Int}(hc:∀x∈L0,∀y∈L0,af (I C) d g 86 [ZW (x:Int),ZW (y:Int)]=.val (Z_ (uo x y)))(hnd:L0.Nodup)
  (h:BK C d g id len (L0.map cu) 86 [] R):∃R0:List Nat,R=R0.map (λx:Nat=>(x:Int))/\R0.Perm L0/\R0.Pairwise zc:=by
 obtain⟨L,hI,cf,q1,q2,q3,K,q5,H,o⟩:=h;have q:L=L0.map (λx:Nat=>(x:Int)):=by have h2:L0.map cu=L.map cu':=q1;have z:=congrArg (List.map λr:List AV=>match r with|[.int _ x]=>x|_=>(0:Int)) h2;simpa [Rr,Function.comp_def,cu,cu'] using z.symm
 have b:∀x:El L,∃n∈L0,x.1=(n:Int):=λx=>by have:=x.2;obtain⟨y,J⟩:=x;dsimp only at this ⊢;rw[q,YY]at this;obtain⟨n,h1,h2⟩:=this;exact⟨n,h1,h2.symm⟩
 have t:∀x y:El L,cf x y=uo x.1.toNat y.1.toNat:=λx y=>by obtain⟨n,E,en⟩:=b x;obtain⟨m,hm,em⟩:=b y;have h1:=hc n E m hm;have h2:=H x y;rw[en,em]at h2 ⊢;rw[h1]at h2;injection h2 with h2;injection h2 with _ h2;exact h2.symm
 obtain⟨D,A⟩:∃D,D=pdq (ltOf cf) (oP L) 0 L.length (Lib.bitLen L.length) true true:=⟨_,rfl⟩;have l:=pdq_sorts (ltOf cf) q5 (oP L) 0 L.length (Lib.bitLen L.length) true true (Jq _) (by rw[eW];exact ZV _) (Or.inl rfl);rw[<-A]at l o;obtain⟨⟨p1,-,p2⟩,p3⟩:=l;rw[eW]at p1;have a:R.Perm L:=by
  have e1:(D.extract 0 L.length)=D:=by rw[<-p1];simp
  have p:((oP L).extract 0 L.length)=oP L:=by rw[<-eW L];simp
  rw[e1,p]at p2;have:=p2.map (λx:El L=>x.1);rw[o];refine this.trans ?_;simp[oP]
 have s:R=(R.map Int.toNat).map (λx:Nat=>(x:Int)):=by
  rw[Rr];symm;refine (Sc λx hx=>?_).trans (List.map_id R);have:=a.mem_iff.1 hx;rw[q,YY]at this;obtain⟨n,-,rfl⟩:=this
  rfl
 have k:(R.map Int.toNat).Perm L0:=by
  have:=a.map Int.toNat;rw[q,Rr]at this;have e:L0.map (Int.toNat ∘ λx:Nat=>(x:Int))=L0:=by
   refine (Sc λx _=>?_).trans (List.map_id L0)
   rfl
  rw[e]at this;exact this
 refine⟨R.map Int.toNat,s,k,?_⟩;have f:(R.map Int.toNat).Nodup:=k.nodup_iff.2 hnd;rw[acZ];intro i j hi v c;have B:R.length=D.size:=by rw[o];simp
 have u:i<D.size:=by rw[Ju]at hi;omega
 have w:j<D.size:=by rw[Ju]at v;omega
 have e1:(R.map Int.toNat)[i]=(D[i]!).1.toNat:=by
  have:(R.map Int.toNat)[i]?=some (D[i]!).1.toNat:=by rw[o,Zy,Zy];simp[u]
  rw[Zq hi]at this;injection this
 have p:(R.map Int.toNat)[j]=(D[j]!).1.toNat:=by
  have:(R.map Int.toNat)[j]?=some (D[j]!).1.toNat:=by rw[o,Zy,Zy];simp[w]
  rw[Zq v]at this;injection this
 have hlt:=p3 i j (Jq _) c (by omega);unfold ltOf at hlt;rw[aeY,t,OK,<-e1,<-p]at hlt;have F:(R.map Int.toNat)[i]≠(R.map Int.toNat)[j]:=λh=>by have:=(acZ.1 f) i j hi v c;exact this h
 unfold zc at *;omega
theorem be2{C:ZO}{d:Nat}{g:G}{id ep len f:Nat}{lim:Option Nat}{cap:List AV}{rows:List (List AV)}{lo:Bool}(h3:g.h.get id=.cells 1 rows ep lo false)(hex:∃R,BK C d g id len rows f cap R) :
  ∃R,BK C d g id len rows f cap R/\wk C d [.ZG id ep 0 len lim,.ZH f [] cap] g=.upd (.Zz []) (g.put id (.cells 1 (R.map λx=>[ZW x]) ep lo false)):=by
 refine⟨hex.choose,hex.choose_spec,?_⟩;simp only[wk,h3];rw[dif_pos ⟨rfl,hex⟩]
theorem Xg:@BL iN:=by
 intro d b u g L0 K D hd j c hu s kk;have e0:@ae (@C0 iN) d 85 [u,.ZH 86 [] []] g=yq d [u,.ZH 86 [] []] g:=by kernel_rfl
 rw[e0];rcases hu with⟨rfl,h0⟩|⟨id,ep,lo,h1,h2,rfl,v⟩
 ·have o:L0=[]:=aey.1 h0;subst o;obtain⟨d',rfl⟩:∃d',d=d'+1:=⟨d - 1,by omega⟩;rw[be6];exact kk [] g (List.Perm.refl _) List.Pairwise.nil (.inl ⟨rfl,rfl⟩) (ZV _) λ_ _=>rfl
 have e1:∀(rows:List (List AV)),yq d [.ZG id ep 0 rows.length none,.ZH 86 [] []] g=wk (@C0 iF) d [.ZG id ep 0 rows.length none,.ZH 86 [] []] g:=λ_=>rfl;rw[e1];have f:L0≠[]:=λh=>by cases s h
 have hc:∀x∈L0,∀y∈L0,af (I (@C0 iF)) d g 86 [ZW (x:Int),ZW (y:Int)]=.val (Z_ (uo x y)):=λx hx y hy=>(letI:=iF;bh5 hd (j x hx) (j y hy));have t:L0.length<=256:=by
  have h:L0.Perm ((List.range 256).filter λx=>decide (x∈L0)):=by refine (aeG c (aeV.filter _)).2 λa=>?_;rw[adO,Q9,decide_eq_true_iff];exact⟨λh=>⟨j a h,h⟩,λh=>h.2⟩
  rw[h.length_eq];exact Y1 (TQ _ _) (by simp)
 have hI:Inhabited (El (L0.map λx:Nat=>(x:Int))):=⟨⟨(L0.head f:Int),YY.2 ⟨_,List.head_mem f,rfl⟩⟩⟩;have l:∃R,BK (@C0 iF) d g id (L0.map cu).length (L0.map cu) 86 [] R:=by
  refine⟨_,L0.map λx:Nat=>(x:Int),hI,λx y=>uo x.1.toNat y.1.toNat,?_,by simp,by simp;omega,⟨by simp,λk hk=>by simp at hk⟩,be4 (λ_ _=>rfl) (λx hx=>?_),λx y=>?_,rfl⟩
  ·rw[Rr];rfl
  ·obtain⟨n,-,rfl⟩:=YY.1 hx;omega
  ·obtain⟨n,o,en⟩:=YY.1 x.2;obtain⟨m,hm,em⟩:=YY.1 y.2;dsimp only;rw[<-en,<-em];exact hc n o m hm
 obtain⟨R,r,q⟩:=be2 (lim:=none) v l;rw[q];obtain⟨R0,rfl,hp,p⟩:=be3 hc c r;refine kk R0 _ hp p (.inr ⟨id,ep,lo,h1,by simpa using h2,?_,?_⟩) (by simp) λi hi=>?_
 ·simp[hp.length_eq]
 ·rw[G.put_h,aY,Rr];rfl
 ·rw[G.put_h,aF (λe=>hi (by rw[e];rfl))]
end
end Hx
end
namespace Hx
open Go
noncomputable section
variable {g:G}{d k a ks s q vn kn j f:Nat}{e:List Int}{n:Zv}{bn bd v gr value:Int}{K KP:AV->G->Prop}{b ev w u:AV}{t:T}{D:ZU->Prop}{x:Bool}
section
set_option linter.unusedSimpArgs false
theorem JQ[Z0]{P:Nat->Prop}{a:Int}(hd:0<d)(hm:Zl n ZX 0 g.h u)(he:ZT P k g.h e w) :
  ae C0 d 41 [u,w,Z_ v,Z_ a,.agg [Z_ bn,Z_ bd]] g=.val (Z_ (GU n e v a bn bd)):=by
 obtain⟨w',q,j⟩:=aZ he d;obtain⟨bb,rows,rfl,e1,i,hN,z,A,B,C⟩:=bT d hm;rw[Zn];refine cz DE (xs:=[.agg [Z_ n.Z8,bb],w',Z_ v,Z_ a,.agg [Z_ bn,Z_ bd]]) (by simp only[aD,e1,q,aU,wF]) (by simp[qf]) hd ?_;simp only[sz,simprocAttr,qf,tP,ja,yx];generalize hg0:G.new _ _=g0;have f0:g0.h.get 0=Z4 2 [[Z_ n.Z8,bb]]:=by rw[<-hg0];simp[Za,sx]
 have fb:g0.h.get 1=Z4 2 [[Z_ bn,Z_ bd]]:=by rw[<-hg0];simp[Za,sx]
 have f1:g0.h.get 2=Z4 1 [[Z_ a]]:=by rw[<-hg0];simp[Za,sx]
 clear hg0;have f:ZT (λ_=>True) 0 g0.h [a] (.ZG 2 0 0 1 none):=by refine⟨by show 1<_;decide,trivial,[[Z_ a]],?_,ay.2 rfl,trivial⟩;show ak g0.h 1 _=_;simp only[ak,f1];rfl
 have kf:=bn0 (d:=d+1) (g:=g0) (n:=n) (e:=e) (l:=[a]) (v:=v) (u:=.agg [Z_ n.Z8,bb]) (by omega) (i _) (j g0.h) f
 by_cases hf:B_ n e v [a]=0
 rotate_left
 ·have b:GU n e v a bn bd=B_ n e v [a]:=ZF hf;simp only[sz,simprocAttr,f0,kf,hf];rw[b]
 obtain⟨p,⟨o,r,s,t⟩,hx⟩:=mq.1 hf;have hr:=bU.1 p;obtain⟨m,-⟩:=eB.1 o;rw[hf]at kf;have kr:=λg:G=>bn_ (d:=d+1) (g:=g) (x:=bn) (y:=bd) (by omega);have c:¬yX bn bd->GU n e v a bn bd=2:=λh=>by rw[GU,ZN hf,ZF h]
 by_cases hq:zJ bn bd
 rotate_left
 ·have b:=c λh=>hq h.1;rw[Vf hq]at kr;simp only[sz,simprocAttr,f0,fb,kf,kr,uP];rw[b]
 rw[Qe hq]at kr
 by_cases h0:bn<0
 ·have b:=c λh=>by have:=h.2.1;omega
  simp only[sz,simprocAttr,f0,fb,kf,kr,uP,M5,Qs,h0];rw[b]
 by_cases h1:bd<bn
 ·have b:=c λh=>by have:=h.2.2;omega
  simp only[sz,simprocAttr,f0,fb,kf,kr,uP,M5,Qs,h0,h1];rw[b]
 have hb:yX bn bd:=⟨hq,by omega,by omega⟩;have km:=λg:G=>Gr (d:=d+1) (g:=g) (n:=n) (v:=.agg [Z_ n.Z8,bb]) (by omega) (i _) hr (j g.h) m
 by_cases hz:Dl n e=0
 ·have b:GU n e v a bn bd=7:=by rw[GU,ZN hf,ZN hb,ZN hz]
  simp only[sz,simprocAttr,f0,fb,kf,kr,km,uP,M5,Qs,h0,h1,hz];rw[b]
 have b:GU n e v a bn bd=0:=by rw[GU,ZN hf,ZN hb,ZF hz]
 simp only[sz,simprocAttr,f0,fb,kf,kr,km,uP,M5,Qs,h0,h1,hz];rw[b]
theorem Gt{a:Int}(h:GU n e v a bn bd=0):∃vn kn:Nat,v=vn/\a=kn/\Rsn n e vn kn bn bd:=by
 rw[GU]at h
 split at h
 ·rename_i hf;obtain⟨k,⟨he,b,d,f⟩,hx⟩:=mq.1 hf;have hr:=bU.1 k;have c:=hr.l2;have:=(eB.1 he).1;have ha:=hx a (by simp);obtain⟨vn,rfl⟩:=Wu b;obtain⟨kn,rfl⟩:=Wu ha.1
  split at h
  ·rename_i hb
   split at h
   ·cases h
   ·rename_i hz;exact⟨vn,kn,rfl,rfl,hr,he,by omega,ha,hb,hz,by omega⟩
  ·cases h
 ·rename_i hf;exact absurd h hf
theorem be1{b:Nat}:(0<=B9 a b)↔b<=a:=by
 unfold B9
 split
 ·constructor<;>intro h<;>omega
 ·split<;>constructor<;>intro h<;>omega
theorem Gq[Z0]{P:Nat->Prop}(hd:0<d)(hm:Zl n ZX 0 g.h u)(he:ZT P k g.h e w)(hR:Rsn n e vn kn bn bd)(hs:s<2^64) :
  ae C0 d 42 [u,w,ZW (s:Int),Z_ (vn:Int),Z_ (kn:Int),.agg [Z_ bn,Z_ bd]] g=.val (.bool (BZ n e s vn kn bn bd)):=by
 obtain⟨w',z,o⟩:=aZ he d;obtain⟨bb,rows,rfl,e1,l,hN,T,U,V,W⟩:=bT d hm;obtain⟨hr,i,M,hx,hb,t,K⟩:=hR;have hz:=yG (s:=s) hr t;obtain⟨I,H⟩:=eB.1 i;have L:=mP e s;obtain⟨⟨⟨A,B,C,D⟩,F⟩,f,E⟩:=hb;obtain⟨bnn,rfl⟩:=Wu f;obtain⟨bdn,rfl⟩:=Wu (show 0<=bd by omega);have j:kn<((IO n)[vn]?.getD 0).toNat:=by have:=hx.2;rw[Ya]at this;omega
 obtain⟨p,p',p1,p2,p3,p4,N,O⟩:=Ir hr (v:=vn) hz j;have kc:=λg:G=>bn7 (d:=d+1) (g:=g) (by omega) N O (show bnn<=4611686018427387903 by omega) (show bdn<=4611686018427387903 by omega);have J:BZ n e s vn kn (bnn:Int) (bdn:Int)=decide (0<=B9 (p*bdn) (bnn*p')):=by rw[BZ,p2,Yj,decide_eq_true_iff,decide_eq_true_iff,be1];simp
 rw[Zn,J];refine dA Fv (xs:=[.agg [Z_ n.Z8,bb],w',ZW (s:Int),Z_ (vn:Int),Z_ (kn:Int),.agg [Z_ (bnn:Int),Z_ (bdn:Int)]]) (by simp only[aD,e1,z,aU,wF]) (by simp[sj]) hd ?_;simp only[sz,simprocAttr,sj,v7,C1];have ldn:aO (Z4 2 [[Z_ n.Z8,bb]]) 0 0 true 2 0=.val (.agg [Z_ n.Z8,bb]):=rfl;generalize hg0:G.new _ _=g0;have f0:g0.h.get 0=Z4 2 [[Z_ n.Z8,bb]]:=by rw[<-hg0];simp[Za,sx]
 have fb:g0.h.get 1=Z4 2 [[Z_ (bnn:Int),Z_ (bdn:Int)]]:=by rw[<-hg0];simp[Za,sx]
 clear hg0;refine aM (bn2 (by omega) (o _) (by omega) hs) λr hr5=>?_;simp only[sz,simprocAttr];refine aM (bo7 (n:=n) (e:=Dg e s) (v:=vn) (by omega) (l _) hr (hr5.sl _) (by omega) (by omega) hz) λq hq=>?_;obtain⟨w1,a,q3⟩:=hq;injection a with a;subst a;obtain⟨rows,b,Q,x,y⟩:=q3.all;obtain⟨row,c,R⟩:=x kn _ p1;obtain⟨ya,yb,rfl,yc,yd⟩:=u9.1 R;rw[ay.1 yc,ay.1 yd]at c;have b:∀h',ak h' 2 q=some rows:=b;have c:rows[kn]?=some [Z_ (p:Int),Z_ (p':Int)]:=c;have hlt:kn<rows.length:=(tI.1 c).1;have m:=y (by omega);simp only[sz,simprocAttr,fb,uP,b,hlt,c,m,kc]
end
end
end Hx
