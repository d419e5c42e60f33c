/- A part of the proof: an interpreter over abstract values, shown right against the model, and what the functions of the chapter compute on it. -/
import Derived.Test.YtkbieohddgjioaaHx11
set_option linter.unusedVariables false
set_option linter.unusedSimpArgs false
set_option linter.unnecessarySimpa false
section
namespace Hx
open Go
noncomputable section
theorem LS.upd {L:List Node}{J:Nat}{x x':Node}(hx:L[J]?=some x)(hl:x'.rows.length=x.rows.length){k:Ky}(h:LS (L.set J x') k):LS L k:=by
 rcases h with h | ⟨i,q,z,h,hz,hq⟩
 ·exact .inl h
 ·rw[List.getElem?_set] at hz
  by_cases e:J=i
  ·subst e;rw[if_pos rfl] at hz
   split at hz
   ·injection hz with hz;subst hz;exact .inr ⟨J,q,x,h,hx,by omega⟩
   ·cases hz
  ·rw[if_neg e] at hz;exact .inr ⟨i,q,z,h,hz,hq⟩
theorem BLs.upd {K J:Nat}{L:List Node}{V:Ky->AV}{E:Ky->En}{rows:List (List AV)}{x':Node}(hO:Oth K L J V E rows)(e0:E (0,0)=.sl 3 rows)(hrow:rows[J]?=some (iZ V J x'.card))(hnd:NdOk K V E J x'):BLs K V E (L.set J x'):=by
 refine ⟨⟨rows,e0,by simp[hO.len],λi z hz=>?_⟩,λi z hz=>?_⟩
 ·rw[List.getElem?_set] at hz
  by_cases e:J=i
  ·subst e;rw[if_pos rfl] at hz
   split at hz
   ·injection hz with hz;subst hz;exact hrow
   ·cases hz
  ·rw[if_neg e] at hz;exact hO.ns i z (Ne.symm e) hz
 ·rw[List.getElem?_set] at hz
  by_cases e:J=i
  ·subst e;rw[if_pos rfl] at hz
   split at hz
   ·injection hz with hz;subst hz;exact hnd
   ·cases hz
  ·rw[if_neg e] at hz;exact hO.nd i z (Ne.symm e) hz
def Node.wr (x:Node)(r:Nat)(y:List Int):Node:=⟨x.card,x.parents,x.rows.set r y⟩
abbrev LBS (W:AV)(J:Nat)(Rw:Int):List (Nat×AV):=[(2,.hptr 0 0 0 0),(3,.hptr 1 0 0 0),(4,.hptr 2 0 0 0),(10,eg 3 W J 0),(11,.int .i64 Rw)]
section
variable {d K J r:Nat}{L:List Node}{x:Node}{bx:i4}{gr Rw:Int}{t t':T}{g gb:G}{V:Ky->AV}{E:Ky->En}{Q:QT}{y y':List Int}
theorem BS.put (hS:BS K J L x bx gr (r:Int) t g V E)(hy:x.rows[r]?=some y)(hHb:Hp gb 3 (LS L) V (ups E (J+1,2+r) (.sl 1 (y'.map ci))))(frb:∀i,i<3->gb.h.get i=g.h.get i)(hyl:y'.length<=K)(st:St t' (LBS (V (0,0)) J (r:Int))) :
  BS K J (L.set J (x.wr r y')) (x.wr r y') bx gr (r:Int) t' gb V (ups E (J+1,2+r) (.sl 1 (y'.map ci))):=by
 obtain ⟨rows,hB⟩:=hS.bt;obtain ⟨rws,hW⟩:=hS.bw;have hr:=(List.getElem?_eq_some_iff.1 hy).1;have hrw:=hW.at_ r y hy;have hJ:=(List.getElem?_eq_some_iff.1 hS.hx).1;have hnd:=xJ (r:=r) (V':=V) (E':=ups E (J+1,2+r) (.sl 1 (y'.map ci))) (y':=y') hB.nd hW.at_ hW.len hr (ac _ _ (by simp<;>omega)) (by rw[ac _ _ (by simp<;>omega),hW.e1,rf hrw]) (ah _ _ _) (λ_ _=>rfl) (λq hq=>ac _ _ (by simp<;>omega)) hyl;have hl:(x.wr r y').rows.length=x.rows.length:=by simp[Node.wr]
 refine ⟨st,hHb.sub λk hk=>LS.upd hS.hx hl hk,by rw[frb 0 (by omega)];exact hS.f0,by rw[frb 1 (by omega)];exact hS.f1,by rw[frb 2 (by omega)];exact hS.f2,BLs.upd hB.oth.e (by rw[ac _ _ (by simp<;>omega)];exact hB.e0) hB.row hnd,by rw[List.getElem?_set_self hJ],.inr ⟨r,rfl,by omega⟩,hS.hK,by simpa using hS.hl⟩
theorem BS.mv (hS:BS K J L x bx gr Rw t g V E)(hh:gb.h=g.h)(hn:g.nx<=gb.nx)(st:St t' (LBS (V (0,0)) J Rw)):BS K J L x bx gr Rw t' gb V E :=
 ⟨st,hS.hp.same hh hn,by rw[hh];exact hS.f0,by rw[hh];exact hS.f1,by rw[hh];exact hS.f2,hS.bl,hS.hx,hS.hR,hS.hK,hS.hl⟩
structure BR (x:Node) (J r:Nat) (y:List Int) (g:G) (V:Ky->AV) (E:Ky->En) (rws:List (List AV)):Prop where
 wr:ak g.h 1 (V (J+1,1))=some rws
 rl:r<rws.length
 rw_:rws[r]?=some [V (J+1,2+r)]
 ry:jU (V (J+1,1))=true
 yr:ak g.h 1 (V (J+1,2+r))=some (y.map ci)
 ye:E (J+1,2+r)=.sl 1 (y.map ci)
 yl:y.length<=K
theorem BS.br (hS:BS K J L x bx gr (r:Int) t g V E)(hy:x.rows[r]?=some y):∃rws,BR (K:=K) x J r y g V E rws:=by
 obtain ⟨rows,hB⟩:=hS.bt;obtain ⟨rws,hW⟩:=hS.bw;have hr:=(List.getElem?_eq_some_iff.1 hy).1;have hrl:r<rws.length:=by have:=hW.len;omega
 have hye:=hB.nd.rr r y hy;exact ⟨rws,hW.own.rows,hrl,hW.at_ r y hy,ef hW.own (by omega),(hS.hp.own (LS.s hS.hx (by omega)) hye).rows,hye,hB.nd.len.2.2 y (List.mem_of_getElem? hy)⟩
theorem bc8 (hS:BS K J L x bx gr Rw t g V E)(fin:qp Q) :
  wp C0 d none (sQ [oM 213 11,o 214 (.bin .geq (.t 213) (qI 0)),oM 215 214,og 216 215 true (.mv (.t 10)),og 217 215 true (.nilc (.t 216)),og 218 215 true (.fad 2 (.t 217)),og 219 215 true (.load false 1 (.t 218)),og 220 215 true (.mv (.t 11)),og 221 215 true (.ixs 1 (.t 219) (.t 220)),og 222 215 true (.load false 1 (.t 221)),og 223 215 true (.len .slice (.t 222)),og 224 215 true (.bin .gtr (.t 223) (qI 0)),o 225 (.pick (.t 215) (.t 224) (.k (.bool false)))] (.cond (.t 225) (.seq (.feet [0,1,3,7,0,0,32,96,224,0,992,2016,4064,8160,16383,32767] [oM 226 10,o 227 (.nilc (.t 226)),oF 228 2 227,oL 229 228,oM 230 11,oM 231 10,o 232 (.nilc (.t 231)),oF 233 2 232,oL 234 233,oM 235 11,oX 236 234 235,oL 237 236,oN 238 237,o 239 (.mks 1 8 [.int .i64 0] (.t 238) (.t 238)),oX 240 229 230,oz (.store 1 (.t 240) (.t 239))]) (.feet [0,1,3,7,0,31,63,0,128,511,1023] [oM 241 10,o 242 (.nilc (.t 241)),oF 243 2 242,oL 244 243,oM 245 11,oX 246 244 245,oL 247 246,oF 248 0 3,oL 249 248,o 250 (.ixs 1 (.t 247) (qI 0)),oz (.store 1 (.t 250) (.t 249))])) (.skip))) Q t [] g:=by
 obtain ⟨h2,h3,h4,h10,h11,-⟩:=hS.st;obtain ⟨rows,hB⟩:=hS.bt;obtain ⟨rws,hW⟩:=hS.bw;have hK:=hS.hK;have hl:=hS.hl;have hnx:=hS.hp.nx;rcases hS.hR with ⟨rfl,h0⟩ | ⟨r,rfl,hr⟩
 ·simp only[sz,simprocAttr,h11,show decide ((-1:Int) >= 0)=false from rfl];exact hS.fin0 fin (by simp[sx,h3]) (by simp[sx,h4])
 ·obtain ⟨y,hy⟩:∃y,x.rows[r]?=some y:=⟨_,List.getElem?_eq_getElem hr⟩;have hrw:=hW.at_ r y hy;have hkL:LS L (J+1,2+r):=LS.s hS.hx (by omega);have hyo:=hS.hp.own hkL (hB.nd.rr r y hy);have hyl:=hB.nd.len.2.2 y (List.mem_of_getElem? hy);have ly:=dC hyo.rows;rw[List.length_map] at ly;have hrl:r<rws.length:=by have:=hW.len;omega
  have hryw:jU (V (J+1,1))=true:=ef hW.own (by omega);simp only[sz,simprocAttr,h10,h11,show decide ((r:Int) >= 0)=true from by simp,bc hB.ry,bi hB.ry,hB.own.rows,hB.hlt,hB.row,hW.own.rows,hrl,hrw,ly];refine a9 (λhb=>?_) (λhb=>?_)
  ·have hpos:0<y.length:=by simpa using hb
   obtain ⟨A,hA⟩:∃A,A=SC.feet [0,1,3,7,0,31,63,0,128,511,1023] [oM 241 10,o 242 (.nilc (.t 241)),oF 243 2 242,oL 244 243,oM 245 11,oX 246 244 245,oL 247 246,oF 248 0 3,oL 249 248,o 250 (.ixs 1 (.t 247) (qI 0)),oz (.store 1 (.t 250) (.t 249))]:=⟨_,rfl⟩;rw[<-hA];refine bS (P:=λt' df g'=>df=[]/\∃L' x' V' E',BS K J L' x' bx gr (r:Int) t' g' V' E'/\x'.rows[r]?=some (List.replicate y.length 0)) ?_ ?_
   ·simp only[sz,simprocAttr,sf,h10,h11,bc hB.ry,bi hB.ry,hB.own.rows,hB.hlt,hB.row,hW.own.rows,hrl,hrw,ly];refine jQ (b:=3) (n:=y.length) (by unfold aP;omega) (by unfold aP;omega) (by first | (simp;done) | (simp;omega)) λW ga hWo na fra vW lga=>?_;simp only[sy] at na fra vW lga;have hHa:=(hS.hp.step (g':=G.mk g.h g.nx []) (Nat.le_refl _) (λ_ _ _=>rfl)).set (g':=ga) (k:=(J+1,2+r)) (v':=W) (e':=.sl 1 ((List.replicate y.length (0:Int)).map ci)) hkL (by rw[List.map_replicate];exact hWo) (by show g.nx<=ga.nx;omega) (λi _ hi _=>fra i (by have hi:i<g.nx:=hi;omega)) (.inr ⟨_,by rw[bG hWo];exact vW,by show g.nx<=_;omega⟩);have e11:ups V (J+1,2+r) W (J+1,1)=V (J+1,1):=ac _ _ (by simp<;>omega);have hE1:ups E (J+1,2+r) (.sl 1 ((List.replicate y.length (0:Int)).map ci)) (J+1,1)=.sl 1 rws:=by rw[ac _ _ (by simp<;>omega)];exact hW.e1
    have rwa:ak ga.h 1 (V (J+1,1))=some rws:=by rw[<-e11];exact (hHa.own (LS.s hS.hx (by omega)) hE1).rows
    simp only[sz,simprocAttr,sf,rwa,hrl];refine (hHa.same (g':=_) (by simp) (by simp<;>omega)).putv (k:=(J+1,1)) (i:=r) (off:=0) (n:=1) (LS.s hS.hx (by omega)) e11 (row':=[W]) hE1 hrw (by rw[hWo.cell.1];rfl) hWo.cell.2 (by rw[hWo.cell.1];rfl) λgb hHb nb frb fob=>?_;simp only[sy] at nb frb fob ⊢;refine ⟨?_,L.set J (x.wr r (List.replicate y.length 0)),x.wr r (List.replicate y.length 0),_,_,⟨?_,(hHb.same (g':=_) (by simp) (by simp<;>omega)).sub λk hk=>LS.upd hS.hx (by simp[Node.wr]) hk,?_,?_,?_,BLs.upd hB.oth.v.e.e ?_ ?_ ?_,by rw[List.getElem?_set_self (List.getElem?_eq_some_iff.1 hS.hx).1],.inr ⟨r,rfl,by simpa [Node.wr] using hr⟩,hK,by simpa using hl⟩,by simp[Node.wr,hr]⟩
    ·simp only[List.reverse_cons,List.reverse_nil,List.nil_append,List.cons_append];refine aC [false,false,false,false,false,false,false,false,false,false,false,false,false,true,false,true] [(0,13),(1,13),(2,13),(3,13),(4,13)] (by simp[All2,af,au]) (by decide) ?_;have ro1:=hB.own.refs_lt;rintro p hp x y hx hy;simp only[List.mem_cons,List.not_mem_nil,or_false] at hp;rcases hp with rfl | rfl | rfl | rfl | rfl<;>(simp at hx hy;subst hx;subst hy;refine bH rfl rfl rfl rfl ?_ ?_ ?_<;>simp[af,au,iE hB.ry,lga]<;>first | omega | (intro h;have:=ro1 _ h;omega) | (intro i' hi' e;have:=ro1 i' hi';omega) | (intro i' hi';have:=ro1 i' hi';omega) | skip)
    ·simp[St,sx,h2,h3,h4,h10,h11,ac]
    ·simp only[bumpG_h];rw[frb 0 (by omega)];(try simp);rw[fra 0 (by omega),hS.f0]
    ·simp only[bumpG_h];rw[frb 1 (by omega),ac _ _ (by simp<;>omega)];(try simp);rw[fra 1 (by omega),hS.f1]
    ·simp only[bumpG_h];rw[frb 2 (by omega)];(try simp);rw[fra 2 (by omega),hS.f2]
    ·rw[ac _ _ (by simp<;>omega),ac _ _ (by simp<;>omega),hB.e0]
    ·rw[iZ,ac _ _ (by simp<;>omega),ac _ _ (by simp<;>omega)];exact hB.row
    ·exact xJ (r:=r) (y':=List.replicate y.length 0) hB.nd hW.at_ hW.len hr (by rw[ac _ _ (by simp<;>omega),ac _ _ (by simp<;>omega)]) (by rw[ah,ah]) (by rw[ac _ _ (by simp<;>omega),ah]) (λq hq=>ac _ _ (by simp<;>omega)) (λq hq=>by rw[ac _ _ (by simp<;>omega),ac _ _ (by simp<;>omega)]) (by simpa using hyl)
   clear h2 h3 h4 h10 h11 hB hW hkL hyo hS hrw hrl hryw;rintro t df g2 ⟨rfl,L',x',V',E',hS,hy'⟩;rw[hA];obtain ⟨h2,h3,h4,h10,h11,-⟩:=hS.st;obtain ⟨rows,hB⟩:=hS.bt;obtain ⟨rws,hR⟩:=hS.br hy';have u1:0<((List.replicate y.length (0:Int)).map ci).length:=by simpa using hpos
   have u2:((List.replicate y.length (0:Int)).map ci)[0]?=some (ci 0):=by simp[hpos]
   have u3:=hR.yr;have u4:=hR.rl;simp only[sz,simprocAttr,sf,h3,h10,h11,hS.f1,bc hB.ry,bi hB.ry,hB.own.rows,hB.hlt,hB.row,hR.wr,u4,hR.rw_,y0 u3 u1];refine (hS.hp.same (g':=_) (by simp) (by simp<;>omega)).put (k:=(J+1,2+r)) (i:=0) (off:=0) (n:=1) (row:=ci 0) (row':=ci gr) (LS.s hS.hx (by have:=(List.getElem?_eq_some_iff.1 hy').1;omega)) hR.ye u2 rfl rfl rfl λgb hHb nb frb fob=>?_;simp only[sy] at nb frb fob ⊢;refine ⟨?_,?_⟩
   ·simp only[List.reverse_cons,List.reverse_nil,List.nil_append,List.cons_append];exact aC [false,false,false,false,false,false,false,false,false,false,true] [] (by simp[All2,af,au]) (by decide) (by simp)
   rw[<-List.map_set] at hHb;have hS2:=hS.put (t':=t) hy' (hHb.same (g':=G.mk gb.h gb.nx []) rfl (Nat.le_refl _)) (λi hi=>by have:=frb i hi;simpa using this) (by simpa using hR.yl) (by simp[St,h2,h3,h4,h10,h11]);exact fin _ _ gr _ _ (by simp[sx,h3]) (by simp[sx,h4]) (by simpa using hS2.f1) (by simpa using hS2.f2) (hS2.sl.heap (by simp)) (by have:=hS2.hK;have:=hS2.hl;omega)
  ·simp only[sx];exact hS.fin0 fin (by simp[sx,h3]) (by simp[sx,h4])
theorem Gv {n:Nat}(hn:n<=1000000)(hy0:y.length=n)(hyr:x.rows[r]?=some y)(hS:BS K J L x bx gr (r:Int) t g V E)(h12:tat t 12=.int .i64 0)(h13:tat t 13=.int .i64 ((n:Int) - 1))
  (fin:∀t g L x E,BS K J L x bx gr (r:Int) t g V E->Q (.exit 5) t [] g):wpL (wp C0 d none dj) Q t [] g:=by
 obtain ⟨FR,hFR⟩:∃FR,FR=SC.feet [0,1,3,7,0,31,63,0,0,256,768,1792,0,7936,16128,0,65280,130816,262143,524287] [oM 279 10,o 280 (.nilc (.t 279)),oF 281 2 280,oL 282 281,oM 283 11,oX 284 282 283,oL 285 284,oM 286 12,oM 287 10,o 288 (.nilc (.t 287)),oF 289 2 288,oL 290 289,oM 291 11,oX 292 290 291,oL 293 292,oM 294 13,oX 295 293 294,oL 296 295,oX 297 285 286,oz (.store 1 (.t 297) (.t 296))]:=⟨_,rfl⟩;simp only[dj];rw[<-hFR];refine aV (n / 2) (by omega) (λj t df g=>df=[]/\∃L x y E,BS K J L x bx gr (r:Int) t g V E/\x.rows[r]?=some y/\y.length=n/\tat t 13=.int .i64 ((n:Int) - 1 - (j:Int)))
  ⟨rfl,L,x,y,E,hS,hyr,hy0,by simp[h13]⟩ h12 (by decide) ?_ ?_ ?_ ?_
 ·rintro j t df g v s (rfl | rfl | rfl) ⟨rfl,L,x,y,E,hS,h⟩<;>exact ⟨rfl,L,x,y,E,⟨by have:=hS.st;simpa [St,sx] using this,hS.hp,hS.f0,hS.f1,hS.f2,hS.bl,hS.hx,hS.hR,hS.hK,hS.hl⟩,by simpa [sx] using h⟩
 ·rintro j t df g hj ⟨rfl,L,x,y,E,hS,hyr,hyn,h13⟩ h12;simp only[sz,simprocAttr,h12,h13];refine ⟨by congr 1;exact decide_eq_decide.2 (by omega),⟨L,x,y,E,⟨by have:=hS.st;simpa [St,sx] using this,hS.hp,hS.f0,hS.f1,hS.f2,hS.bl,hS.hx,hS.hR,hS.hK,hS.hl⟩,hyr,hyn⟩⟩
 ·rintro j t df g hj ⟨rfl,L,x,y,E,hS,hyr,hyn,h13⟩ h12;have hk:((n:Int) - 1 - (j:Int))=((n - 1 - j:Nat):Int):=by omega
  rw[hk] at h13;obtain ⟨z,hz⟩:∃z,y[j]?=some z:=⟨_,List.getElem?_eq_getElem (by omega)⟩;obtain ⟨z',hz'⟩:∃z,y[n - 1 - j]?=some z:=⟨_,List.getElem?_eq_getElem (by omega)⟩;refine bS (P:=λt' df g'=>df=[]/\g'=g/\BS K J L x bx gr (r:Int) t' g V E/\St t' [(12,.int .i64 (j:Int)),(13,.int .i64 ((n - 1 - j:Nat):Int)),(14,.int .i64 z)]) ?_ ?_
  ·obtain ⟨h2,h3,h4,h10,h11,-⟩:=hS.st;obtain ⟨rows,hB⟩:=hS.bt;obtain ⟨rws,hR⟩:=hS.br hyr;have u1:j<(y.map ci).length:=by simp;omega
   have u2:(y.map ci)[j]?=some (ci z):=by rw[List.getElem?_map,hz];rfl
   have hryy:=q9 hR.yr u1;simp only[sz,simprocAttr,h10,h11,h12,bc hB.ry,bi hB.ry,hB.own.rows,hB.hlt,hB.row,hR.wr,hR.rl,hR.rw_,hR.yr,u1,u2,ci];exact ⟨⟨by simp[St,sx,h2,h3,h4,h10,h11],hS.hp,hS.f0,hS.f1,hS.f2,hS.bl,hS.hx,hS.hR,hS.hK,hS.hl⟩,by simp[St,sx,h12,h13]⟩
  clear hS h12 h13;rintro t df g1 ⟨rfl,rfl,hS,h12,h13,h14,-⟩;rw[hFR];refine bS (P:=λt' df g'=>df=[]/\∃L x E,BS K J L x bx gr (r:Int) t' g' V E/\x.rows[r]?=some (y.set j z')/\St t' [(12,.int .i64 (j:Int)),(13,.int .i64 ((n - 1 - j:Nat):Int)),(14,.int .i64 z)]) ?_ ?_
  ·obtain ⟨h2,h3,h4,h10,h11,-⟩:=hS.st;obtain ⟨rows,hB⟩:=hS.bt;obtain ⟨rws,hR⟩:=hS.br hyr;have u1:j<(y.map ci).length:=by simp;omega
   have u2:(y.map ci)[j]?=some (ci z):=by rw[List.getElem?_map,hz];rfl
   have u3:n - 1 - j<(y.map ci).length:=by simp;omega
   have u4:(y.map ci)[n - 1 - j]?=some (ci z'):=by rw[List.getElem?_map,hz'];rfl
   have hryy:=q9 hR.yr u1;have hrl:=hR.rl;simp only[sz,simprocAttr,sf,h10,h11,h12,h13,bc hB.ry,bi hB.ry,hB.own.rows,hB.hlt,hB.row,hR.wr,hrl,hR.rw_,hR.yr,u1,u3,u4,ci];refine (hS.hp.same (g':=_) (by simp) (by simp;omega)).put (k:=(J+1,2+r)) (i:=j) (off:=0) (n:=1) (row:=ci z) (row':=ci z') (LS.s hS.hx (by have:=(List.getElem?_eq_some_iff.1 hyr).1;omega)) hR.ye u2 rfl rfl rfl λgb hHb nb frb fob=>?_;simp only[sy] at nb frb fob ⊢;rw[<-List.map_set] at hHb;have hS2:=hS.put (t':=t) hyr (hHb.same (g':=G.mk gb.h gb.nx []) rfl (Nat.le_refl _)) (λi hi=>by have:=frb i hi;simpa using this) (by simpa using hR.yl) (by simp[St,h2,h3,h4,h10,h11]);refine ⟨?_,_,_,_,hS2.mv (by simp) (by simp) (by simp[St,sx,h2,h3,h4,h10,h11]),by simp[Node.wr,(List.getElem?_eq_some_iff.1 hyr).1],by simp[St,sx,h12,h13,h14]⟩;simp only[List.reverse_cons,List.reverse_nil,List.nil_append,List.cons_append];exact aC [false,false,false,false,false,false,false,false,false,false,false,false,false,false,false,false,false,false,false,true] [] (by simp[All2,af,au]) (by decide) (by simp)
  clear hS h12 h13 h14 hyr;rintro t df g2 ⟨rfl,L,x,E,hS,hyr,h12,h13,h14,-⟩;refine bS (P:=λt' df g'=>df=[]/\∃L x E,BS K J L x bx gr (r:Int) t' g' V E/\x.rows[r]?=some ((y.set j z').set (n - 1 - j) z)/\St t' [(12,.int .i64 (j:Int)),(13,.int .i64 ((n - 1 - j:Nat):Int))]) ?_ ?_
  ·obtain ⟨h2,h3,h4,h10,h11,-⟩:=hS.st;obtain ⟨rows,hB⟩:=hS.bt;obtain ⟨rws,hR⟩:=hS.br hyr;have u3:n - 1 - j<((y.set j z').map ci).length:=by simp;omega
   obtain ⟨w,hw⟩:∃w,(y.set j z')[n - 1 - j]?=some w:=⟨_,List.getElem?_eq_getElem (by simp;omega)⟩;have u4:((y.set j z').map ci)[n - 1 - j]?=some (ci w):=by rw[List.getElem?_map,hw];rfl
   have hryy:=q9 hR.yr u3;have hrl:=hR.rl;have hyr':=hR.yr;simp only[sz,simprocAttr,h10,h11,h13,h14,bc hB.ry,bi hB.ry,hB.own.rows,hB.hlt,hB.row,hR.wr,hrl,hR.rw_,hyr',u3];refine hS.hp.put (k:=(J+1,2+r)) (i:=n - 1 - j) (off:=0) (n:=1) (row:=ci w) (row':=ci z) (LS.s hS.hx (by have:=(List.getElem?_eq_some_iff.1 hyr).1;omega)) hR.ye u4 rfl rfl rfl λgb hHb nb frb fob=>?_;simp only[sx,sy];rw[<-List.map_set] at hHb;have hS2:=hS.put (t':=t) hyr hHb frb (by simpa using hR.yl) (by simp[St,h2,h3,h4,h10,h11]);exact ⟨_,_,_,⟨by simp[St,sx,h2,h3,h4,h10,h11],hS2.hp,hS2.f0,hS2.f1,hS2.f2,hS2.bl,hS2.hx,hS2.hR,hS2.hK,hS2.hl⟩,by simp[Node.wr,(List.getElem?_eq_some_iff.1 hyr).1],by simp[St,sx,h12,h13]⟩
  clear hS h12 h13 h14 hyr;rintro t df g3 ⟨rfl,L,x,E,hS,hyr,h12,h13,-⟩;simp only[sz,simprocAttr,h12,h13];refine ⟨L,x,(y.set j z').set (n - 1 - j) z,E,hS.mv rfl (Nat.le_refl _) (by have:=hS.st;simpa [St,sx] using this),hyr,by simp[hyn],?_⟩;rw[aB (by omega) (by omega)];congr 1;omega
 ·rintro t df g ⟨rfl,L,x,y,E,hS,-⟩;exact fin t g L x E hS
theorem bc9 (hS:BS K J L x bx gr Rw t g V E)(fin:qp λe t df g=>Q e t df g) :
  wp C0 d none (sQ [oM 253 11,o 254 (.bin .geq (.t 253) (qI 0))] (.cond (.t 254) (.seq (.quiet [oM 255 10,o 256 (.nilc (.t 255)),oF 257 2 256,oL 258 257,oM 259 11,oX 260 258 259,oL 261 260,oN 262 261,o 263 (.bin .sub (.t 262) (qI 1)),oK 12 0,oM 13 263]) (.blk 5 (.loop dj))) (.skip))) Q t [] g:=by
 obtain ⟨h2,h3,h4,h10,h11,-⟩:=hS.st;obtain ⟨rows,hB⟩:=hS.bt;rcases hS.hR with ⟨rfl,h0⟩ | ⟨r,rfl,hr⟩
 ·simp only[sx,SO.run,↓reduceIte,h11];exact ⟨λh=>by simp at h,λ_=>hS.fin0 fin (by simp[sx,h3]) (by simp[sx,h4])⟩
 ·simp only[sx,SO.run,↓reduceIte,h11];refine ⟨λ_=>?_,λh=>by simp at h⟩;obtain ⟨y,hy⟩:∃y,x.rows[r]?=some y:=⟨_,List.getElem?_eq_getElem hr⟩;obtain ⟨rws,hR⟩:=hS.br hy;have ly:=dC hR.yr;rw[List.length_map] at ly;have hyl:=hR.yl;have hK:=hS.hK;have w9:IntKind.wrap .i64 ((y.length:Int) - 1)=(y.length:Int) - 1:=aB (by omega) (by omega);simp only[sx,sy,SO.run,↓reduceIte,Nat.reduceEqDiff,h10,h11,bc hB.ry,bi hB.ry,hB.own.rows,hB.hlt,hB.row,hR.wr,hR.rl,hR.rw_,ly,w9,Option.isSome_some,Option.getD_some];refine Gv (n:=y.length) (L:=L) (x:=x) (y:=y) (E:=E) (by omega) rfl hy ⟨by simp[St,sx,h2,h3,h4,h10,h11],hS.hp,hS.f0,hS.f1,hS.f2,hS.bl,hS.hx,hS.hR,hS.hK,hS.hl⟩ (by simp[sx]) (by simp[sx]) ?_;intro t g L x E hS;obtain ⟨h2,h3,h4,h10,h11,-⟩:=hS.st;simp only[sx,↓reduceIte];exact hS.fin0 fin h3 h4
end
end
end Hx
end
section
namespace Hx
open Go
noncomputable section
def Gq:VS:=λP k h v=>∃m:Net,m.nodes.length<=1000002/\Agg m P k h v
theorem Hz:Snb Gq 1:=kT λm=>gF _
theorem bk5 {d:Nat}{t:T}{g:G}{gr:Int}{nv:AV}{nds:List Node}(h3:tat t 3=.hptr 1 0 0 0)(h4:tat t 4=.hptr 2 0 0 0)(e1:g.h.get 1=.cells 2 [[.int .i64 gr,nv]] 0 false false)(e2:g.h.get 2=.cells 2 [[.int .i64 0,.nils]] 0 false false)
  (hn:SlR P3 0 g.h nds nv) (hnl:nds.length<=1000002):wp C0 d none dk (fnQ C0 d [SR.cell true 2 4] λv g'=>∃P,Gq P 0 g'.h v) t [] g:=by
 simp only[sz,simprocAttr,dk,h3,h4,e1,e2];refine ⟨P3,⟨gr,nds⟩,hnl,_,rfl,?_⟩;exact Rp.mono (P:=P3) (h:=g.h) (eU.2 ⟨nv,rfl,hn⟩) (λi hi=>⟨hi,by rw[aD _ _ _ (by have:3<=i:=hi;omega)]⟩) (Nat.le_refl _)
theorem bk6 {d K J:Nat}{L:List Node}{x:Node}{bx:i4}{gr Rw:Int}{t:T}{g:G}{V:Ky->AV}{E:Ky->En}{Q:QT}(hS:BS K J L x bx gr Rw t g V E)
  (last:qp (kB 4 (kS (wp C0 d none dk Q) Q))):wp C0 d none fH Q t [] g:=by
 have w8:bx.1.toNat<256:=bx.1.toNat_lt;obtain ⟨h2,h3,h4,h10,h11,-⟩:=hS.st;have mv:∀{t':T},St t' (LBS (V (0,0)) J Rw)->BS K J L x bx gr Rw t' g V E:=λh=>hS.mv rfl (Nat.le_refl _) h;simp only[sz,simprocAttr,fH,h2,hS.f0,u8v,cH .u8 (show (0:Int)<=(bx.1.toNat:Int) by omega) (show (0:Int)<12 by decide)];refine a9 (λhb=>?_) (λhb=>?_)
 ·exact bc0 (mv (by simp[St,sx,h2,h3,h4,h10,h11])) last
 simp only[sz,simprocAttr];refine a9 (λhb=>?_) (λhb=>?_)
 ·exact bc1 (mv (by simp[St,sx,h2,h3,h4,h10,h11])) last
 simp only[sz,simprocAttr];refine a9 (λhb=>?_) (λhb=>?_)
 ·exact bc2 (mv (by simp[St,sx,h2,h3,h4,h10,h11])) last
 simp only[sz,simprocAttr];refine a9 (λhb=>?_) (λhb=>?_)
 ·exact bc3 (mv (by simp[St,sx,h2,h3,h4,h10,h11])) last
 simp only[sz,simprocAttr];refine a9 (λhb=>?_) (λhb=>?_)
 ·exact bc4 (mv (by simp[St,sx,h2,h3,h4,h10,h11])) last
 simp only[sz,simprocAttr];refine a9 (λhb=>?_) (λhb=>?_)
 ·exact bc5 (mv (by simp[St,sx,h2,h3,h4,h10,h11])) last
 simp only[sz,simprocAttr];refine a9 (λhb=>?_) (λhb=>?_)
 ·exact bc6 (mv (by simp[St,sx,h2,h3,h4,h10,h11])) last
 simp only[sz,simprocAttr];refine a9 (λhb=>?_) (λhb=>?_)
 ·exact bc7 (mv (by simp[St,sx,h2,h3,h4,h10,h11])) last
 simp only[sz,simprocAttr];refine a9 (λhb=>?_) (λhb=>?_)
 ·exact bc8 (mv (by simp[St,sx,h2,h3,h4,h10,h11])) last
 simp only[sz,simprocAttr];refine a9 (λhb=>?_) (λhb=>?_)
 ·exact bc9 (mv (by simp[St,sx,h2,h3,h4,h10,h11])) last
 simp only[sz,simprocAttr];refine a9 (λhb=>?_) (λhb=>?_)
 ·exact Jv (mv (by simp[St,sx,h2,h3,h4,h10,h11])) last
 exact Jw (mv (by simp[St,sx,h2,h3,h4,h10,h11])) last
theorem bk7 {d K:Nat}{bx:i4}{gr:Int}{b:AV}{L:List Node}{t:T}{g:G}{V:Ky->AV}{E:Ky->En}(hK:K<=1000000)(hl:L.length<=K)
  (ht:St t [(2,.hptr 0 0 0 0),(3,.hptr 1 0 0 0),(4,.hptr 2 0 0 0)]) (h5:tat t 5=V (0,0)) (hH:Hp g 3 (LS L) V E) (hB:BBn g [u8v bx.1,u8v bx.2.1,u8v bx.2.2.1,.int .i64 bx.2.2.2] gr b) (hD:BLs K V E L) :
  wp C0 d none fI (fnQ C0 d [SR.cell true 2 4] λv g'=>∃P,Gq P 0 g'.h v) t [] g:=by
 obtain ⟨h2,h3,h4,-⟩:=ht;obtain ⟨b0,b1,b2⟩:=hB;obtain ⟨rows,e1,e2,e3⟩:=hD.ns;have o1:=hH.own LS.z e1;have len1:=dC o1.rows;rw[e2] at len1;have hnx:=hH.nx;unfold fI;refine bT (P:=λt df g'=>df=[]/\Hp g' 3 (LS L) V E/\St t [(2,.hptr 0 0 0 0),(3,.hptr 1 0 0 0),(4,.hptr 2 0 0 0),(5,V (0,0))]/\g'.h.get 0=.cells 4 [[u8v bx.1,u8v bx.2.1,u8v bx.2.2.1,.int .i64 bx.2.2.2]] 0 false false/\g'.h.get 1=.cells 2 [[.int .i64 gr,V (0,0)]] 0 false false/\g'.h.get 2=.cells 2 [[.int .i64 0,.nils]] 0 false false) ?_ ?_
 ·simp only[sz,simprocAttr,h3,h5,b1,o1.cell.1,o1.cell.2];exact ⟨hH.step (by simp) λi hi _=>by simp[H.get_put];omega,by simp[St,sx,h2,h3,h4,h5],by simp[b0],by simp[b2]⟩
 clear b0 b1 b2 h2 h3 h4 h5 hH o1 hnx;rintro t df g1 hg;obtain ⟨rfl,hH,⟨h2,h3,h4,h5,-⟩,f0,f1,f2⟩:=hg;have o1:=hH.own LS.z e1;have hsl:=hD.sl hH (by omega) (by omega);simp only[sz,simprocAttr,h5,len1];refine a9 (λhb=>?_) (λhb=>?_)
 ·simp only[sz,simprocAttr,h3,h4,f1,f2];refine ⟨P3,⟨gr,L⟩,by dsimp only;omega,_,rfl,?_⟩;exact Rp.mono (P:=P3) (h:=g1.h) (eU.2 ⟨_,rfl,hsl⟩) (λi hi=>⟨hi,by rw[aD _ _ _ (by have:3<=i:=hi;omega)]⟩) (Nat.le_refl _)
 have hn0:0<L.length:=by have:=of_decide_eq_false hb;omega
 have at8:bx.2.1.toNat<256:=bx.2.1.toNat_lt;have em:((bx.2.1.toNat:Int) % (L.length:Int))=((bx.2.1.toNat % L.length:Nat):Int):=by omega
 have hJ:bx.2.1.toNat % L.length<L.length:=Nat.mod_lt _ hn0;obtain ⟨J,hJe⟩:∃J,J=bx.2.1.toNat % L.length:=⟨_,rfl⟩;rw[<-hJe] at em hJ;obtain ⟨x,hx⟩:∃x,L[J]?=some x:=⟨_,List.getElem?_eq_getElem hJ⟩;have hJr:J<rows.length:=by omega
 have hrow:rows[J]?=some [.int .i64 x.card,V (J+1,0),V (J+1,1)]:=e3 J x hx;have hry:jU (V (0,0))=true:=ef o1 (by omega);obtain ⟨rws,q1,q2,q3⟩:=(hD.nd J x hx).rs;have hlen:=(hD.nd J x hx).len;have o2:=hH.own (LS.s hx (by omega)) q1;have len2:=dC o2.rows;rw[q2] at len2;rw[ya,qP];refine bT (P:=λt df g'=>df=[]/\g'=g1/\St t [(2,.hptr 0 0 0 0),(3,.hptr 1 0 0 0),(4,.hptr 2 0 0 0),(10,eg 3 (V (0,0)) J 0)]) ?_ ?_
 ·simp only[sz,simprocAttr,h2,h3,h4,h5,f0,len1,u8v,aB (show -9223372036854775808<=(bx.2.1.toNat:Int) by omega) (show (bx.2.1.toNat:Int)<9223372036854775808 by omega),cH .i64 (show (0:Int)<=(bx.2.1.toNat:Int) by omega) (show 0<(L.length:Int) by omega),em,o1.rows,hJr,St]
 clear h2 h3 h4 h5;rintro t df g' ⟨rfl,rfl,h2,h3,h4,h10,-⟩;have r8:bx.2.2.1.toNat<256:=bx.2.2.1.toNat_lt;refine bT (P:=λt df g''=>df=[]/\g''=g'/\St t (LBS (V (0,0)) J (-1))) ?_ ?_
 ·simp only[sz,simprocAttr,h2,h3,h4,h10,St]
 clear h2 h3 h4 h10;rintro t df g'' ⟨rfl,rfl,h2,h3,h4,h10,h11,-⟩;refine bS (P:=λt df g3=>df=[]/\g3=g''/\∃Rw:Int,((Rw = -1/\x.rows.length=0)\/∃r:Nat,Rw=(r:Int)/\r<x.rows.length)/\St t (LBS (V (0,0)) J Rw)) ?_ ?_
 ·simp only[sz,simprocAttr,h10,bc hry,bi hry,o1.rows,hJr,hrow,len2];refine a9 (λhb=>?_) (λhb=>?_)
  ·have hpos:0<x.rows.length:=by simpa using hb
   have em2:((bx.2.2.1.toNat:Int) % (x.rows.length:Int))=((bx.2.2.1.toNat % x.rows.length:Nat):Int):=by omega
   have hm:=Nat.mod_lt bx.2.2.1.toNat hpos;simp only[sz,simprocAttr,h2,h10,f0,u8v,aB (show -9223372036854775808<=(bx.2.2.1.toNat:Int) by omega) (show (bx.2.2.1.toNat:Int)<9223372036854775808 by omega),bc hry,bi hry,o1.rows,hJr,hrow,len2,cH .i64 (show (0:Int)<=(bx.2.2.1.toNat:Int) by omega) (show 0<(x.rows.length:Int) by omega),em2];exact ⟨_,.inr ⟨_,rfl,hm⟩,by simp[St,sx,h2,h3,h4,h10]⟩
  ·have h0:x.rows.length=0:=by have:=of_decide_eq_false hb;omega
   simp only[sx,sy];exact ⟨-1,.inl ⟨rfl,h0⟩,by simp[St,sx,h2,h3,h4,h10,h11]⟩
 clear h2 h3 h4 h10 h11;rintro t df g3 ⟨rfl,rfl,Rw,hR,ht⟩;refine bk6 (K:=K) (L:=L) (x:=x) (bx:=bx) (gr:=gr) ⟨ht,hH,f0,f1,f2,hD,hx,hR,hK,hl⟩ ?_;intro t g gr nv nds h3 h4 e1 e2 s1 s2;rw[xB,qP];exact bk5 h3 h4 e1 e2 s1 s2
theorem Gw {d K:Nat}{g:G}{x:i4}{m:Net}{v w:AV}(hd:0<d)(hx:Agg x NoP 0 g.h v)(hm:Agg m NoP 0 g.h w)(hK:K<=1000000)(hl:m.nodes.length<=K)
  (hb:∀y∈m.nodes,y.parents.length<=K/\y.rows.length<=K/\∀r∈y.rows,r.length<=K):∃r,ay C0 d N.ay [v,w] g=.val r/\Gq NoP 0 .nil r:=by
 have e0:=js d hx;have e1:=js d hm;obtain ⟨cs,rfl,hc⟩:=hx;have hc:=uF.1 hc;subst hc;obtain ⟨cs,rfl,hc⟩:=hm;obtain ⟨b,rfl,hN⟩:=eU.1 hc;rw[pQ];refine bK rL (xs:=[.agg [u8v x.1,u8v x.2.1,u8v x.2.2.1,.int .i64 x.2.2.2],.agg [.int .i64 m.grain,b]]) (by simp only[aJ,e0,e1]) (by simp[iO]) Hz (by decide) hd ?_;clear e0 e1 hc;have hN:=hN.tree (h':=.nil) (Nat.le_refl _);simp only[sz,simprocAttr,iO];obtain ⟨g0,hg0⟩:∃g0,g0=((G.empty.new (.cells 4 [[u8v x.1,u8v x.2.1,u8v x.2.2.1,.int .i64 x.2.2.2]] 0 false false)).new (.cells 2 [[.int .i64 m.grain,b]] 0 false false)).new (.cells 2 [[.int .i64 0,.nils]] 0 false false):=⟨_,rfl⟩;rw[<-hg0];have f0:BBn g0 [u8v x.1,u8v x.2.1,u8v x.2.2.1,.int .i64 x.2.2.2] m.grain b:=by rw[hg0];exact ⟨by simp[sx,H.get_put],by simp[sx,H.get_put],by simp[sx]⟩
 have f3:g0.nx=3:=by rw[hg0];simp[sx]
 clear hg0;have hH:Hp g0 3 (LS []) (λ_=>.nils) (λk=>.sl 3 []):=⟨λk _=>.inl ⟨rfl,rfl⟩,λk l _ _ _ id h=>(by cases h),by omega⟩;simp only[sz,simprocAttr,kg];refine IY (V:=λ_=>.nils) hK hN hl hb (by simp[St,sx]) (by simp[sx]) (by simp[sx]) hH f0 ⟨⟨[],rfl,rfl,λi y hy=>by simp at hy⟩,λi y hy=>by simp at hy⟩ ?_;clear hH;intro t g V E ht h5 hH hB hD;simp only[sx,↓reduceIte];exact bk7 hK hl ht h5 hH hB hD
theorem j_ {α:Type} [Rp α]{x:α}{P:Nat->Prop}{cs:List AV}(h:Rp.rp NoP 0 .nil x cs)(h':H):Agg x P 0 h' (.agg cs):=⟨_,rfl,Rp.tree h (Nat.le_refl _)⟩
end
end Hx
end
section
namespace Hx
open Go
abbrev Sp:Type:=Int×Int×Int
def S.sp (l:List Sp)(i:Nat):Sp:=l[i]?.getD (0,0,0)
def S.ax (l:List Sp)(i:Nat)(e:Int):Bool:=(List.range i).any λj=>decide ((S.sp l j).1 = -1)&&(decide ((S.sp l j).2.1=e) || decide ((S.sp l j).2.2=e))
def S.aK (l:List Sp)(i:Nat)(v:Int):Bool:=(List.range i).any λj=>decide ((S.sp l j).1=v)
def S.aI (l:List Sp)(i:Nat):Bool:=decide (0<=(S.sp l i).2.1)&&decide ((S.sp l i).2.1<(i:Int))&&decide (0<=(S.sp l i).2.2)&&decide ((S.sp l i).2.2<(i:Int))&&!decide ((S.sp l i).2.1=(S.sp l i).2.2)
def S.an (l:List Sp)(n:Nat)(i:Nat):Bool:=decide (0<=(S.sp l i).1)&&decide ((S.sp l i).1<(n:Int))&&decide ((S.sp l i).2.1 = -1)&&decide ((S.sp l i).2.2 = -1)
def S.aU (l:List Sp)(n:Nat)(i:Nat):Bool:=if (S.sp l i).1 = -1 then S.aI l i&&!S.ax l i (S.sp l i).2.1&&!S.ax l i (S.sp l i).2.2 else S.an l n i&&!S.aK l i (S.sp l i).1
def S.ck (l:List Sp)(n:Nat):Bool:=decide ((l.length:Int)=2*(n:Int) - 1)&&(List.range l.length).all (S.aU l n)&&((List.range n).all λv=>S.aK l l.length (v:Int))&&((List.range (l.length - 1)).all λe=>S.ax l l.length (e:Int))
def S.am (l:List Sp)(e:Int):Nat->Nat
 | 0=>0
 | j+1=>S.am l e j+if (S.sp l j).1 = -1/\((S.sp l j).2.1=e\/(S.sp l j).2.2=e) then 1 else 0
def S.aR (l:List Sp)(n:Nat)(i:Nat):Bool:=(S.an l n i || decide ((S.sp l i).1 = -1)&&S.aI l i)&&(!S.an l n i || (List.range l.length).all λj=>decide (j=i) || !decide ((S.sp l j).1=(S.sp l i).1)) &&
 decide (S.am l (i:Int) l.length=if i+1<l.length then 1 else 0)
def S.rt (l:List Sp)(n:Nat):Bool:=decide ((l.length:Int)=2*(n:Int) - 1)&&(List.range l.length).all (S.aR l n)
theorem fu {l:List Sp}{i:Nat}{e:Int}:S.ax l i e=true↔∃j,j<i/\(S.sp l j).1 = -1/\((S.sp l j).2.1=e\/(S.sp l j).2.2=e):=by simp[S.ax,List.any_eq_true]
theorem o9 {l:List Sp}{i:Nat}{v:Int}:S.aK l i v=true↔∃j,j<i/\(S.sp l j).1=v:=by simp[S.aK,List.any_eq_true]
theorem iB {l:List Sp}{i:Nat}:S.aI l i=true↔0<=(S.sp l i).2.1/\(S.sp l i).2.1<(i:Int)/\0<=(S.sp l i).2.2/\(S.sp l i).2.2<(i:Int)/\(S.sp l i).2.1≠(S.sp l i).2.2:=by simp[S.aI,and_assoc]
theorem qQ {l:List Sp}{n i:Nat}:S.an l n i=true↔0<=(S.sp l i).1/\(S.sp l i).1<(n:Int)/\(S.sp l i).2.1 = -1/\(S.sp l i).2.2 = -1:=by simp[S.an,and_assoc]
theorem tE {l:List Sp}{e:Int}:∀{j},(∀k,k<j->¬((S.sp l k).1 = -1/\((S.sp l k).2.1=e\/(S.sp l k).2.2=e)))->S.am l e j=0
 | 0,_=>rfl
 | j+1,h=>by rw[S.am,tE λk hk=>h k (by omega),if_neg (h j (by omega))]
theorem Bm {l:List Sp}{e:Int}:∀{j k},k<j->(S.sp l k).1 = -1/\((S.sp l k).2.1=e\/(S.sp l k).2.2=e)->(∀i,i<j->i≠k->¬((S.sp l i).1 = -1/\((S.sp l i).2.1=e\/(S.sp l i).2.2=e)))->S.am l e j=1
 | j+1,k,hk,h,hn=>by
  rw[S.am]
  by_cases c:k=j
  ·subst c;rw[tE λi hi=>hn i (by omega) (by omega),if_pos h]
  ·rw[Bm (k:=k) (by omega) h λi hi=>hn i (by omega),if_neg (hn j (by omega) (by omega))]
theorem Bo {l:List Sp}{e:Int}:∀{j i k},i<k->k<j->(S.sp l k).1 = -1/\((S.sp l k).2.1=e\/(S.sp l k).2.2=e)->(S.sp l i).1 = -1/\((S.sp l i).2.1=e\/(S.sp l i).2.2=e)->2<=S.am l e j
 | j+1,i,k,hik,hk,h,h'=>by
  have mono:∀a,∀{b},b<a->(S.sp l b).1 = -1/\((S.sp l b).2.1=e\/(S.sp l b).2.2=e)->1<=S.am l e a:=by
   intro a
   induction a with
   | zero=>intro b hb;omega
   | succ a ih =>
    intro b hb hh;rw[S.am]
    by_cases c:b=a
    ·subst c;rw[if_pos hh];omega
    ·have:=ih (b:=b) (by omega) hh;omega
  rw[S.am]
  by_cases c:k=j
  ·subst c;have:=mono k hik h';rw[if_pos h];omega
  ·have:=Bo hik (by omega) h h' (j:=j);omega
theorem Bn {l:List Sp}{e:Int}:∀{j},0<S.am l e j->∃k,k<j/\(S.sp l k).1 = -1/\((S.sp l k).2.1=e\/(S.sp l k).2.2=e)
 | 0,h=>by simp[S.am] at h
 | j+1,h=>by
  rw[S.am] at h
  by_cases c:(S.sp l j).1 = -1/\((S.sp l j).2.1=e\/(S.sp l j).2.2=e)
  ·exact ⟨j,by omega,c⟩
  ·rw[if_neg c] at h;obtain ⟨k,hk,hh⟩:=Bn (j:=j) (by omega);exact ⟨k,by omega,hh⟩
def S.bi (l:List Sp)(j:Nat):List Int:=(List.range j).flatMap λk=>if (S.sp l k).1 = -1 then [(S.sp l k).2.1,(S.sp l k).2.2] else []
def S.be (l:List Sp)(j:Nat):List Int:=(List.range j).flatMap λk=>if (S.sp l k).1 = -1 then [] else [(S.sp l k).1]
theorem wK (l:List Sp)(j:Nat):S.bi l (j+1)=S.bi l j++if (S.sp l j).1 = -1 then [(S.sp l j).2.1,(S.sp l j).2.2] else []:=by simp[S.bi,List.range_succ,List.flatMap_append]
theorem za (l:List Sp)(j:Nat):S.be l (j+1)=S.be l j++if (S.sp l j).1 = -1 then [] else [(S.sp l j).1]:=by simp[S.be,List.range_succ,List.flatMap_append]
theorem zA (l:List Sp):∀j,(S.bi l j).length+2*(S.be l j).length=2*j
 | 0=>rfl
 | j+1=>by
  have:=zA l j;rw[wK,za,List.length_append,List.length_append]
  by_cases c:(S.sp l j).1 = -1
  ·rw[if_pos c,if_pos c];simp;omega
  ·rw[if_neg c,if_neg c];simp;omega
theorem zc {l:List Sp}{e:Int}{j:Nat}:e∈S.bi l j↔∃k,k<j/\(S.sp l k).1 = -1/\((S.sp l k).2.1=e\/(S.sp l k).2.2=e):=by
 simp only[S.bi,List.mem_flatMap,List.mem_range];constructor
 ·rintro ⟨k,hk,h⟩
  by_cases c:(S.sp l k).1 = -1
  ·rw[if_pos c] at h;simp only[List.mem_cons,List.not_mem_nil,or_false] at h;exact ⟨k,hk,c,h.imp Eq.symm Eq.symm⟩
  ·rw[if_neg c] at h;simp at h
 ·rintro ⟨k,hk,c,h⟩;refine ⟨k,hk,?_⟩;rw[if_pos c];simp only[List.mem_cons,List.not_mem_nil,or_false];exact h.imp Eq.symm Eq.symm
theorem xG {l:List Sp}{v:Int}{j:Nat}:v∈S.be l j↔∃k,k<j/\(S.sp l k).1≠-1/\(S.sp l k).1=v:=by
 simp only[S.be,List.mem_flatMap,List.mem_range];constructor
 ·rintro ⟨k,hk,h⟩
  by_cases c:(S.sp l k).1 = -1
  ·rw[if_pos c] at h;simp at h
  ·rw[if_neg c] at h;exact ⟨k,hk,c,by simpa using (List.mem_singleton.1 h).symm⟩
 ·rintro ⟨k,hk,c,h⟩;exact ⟨k,hk,by rw[if_neg c,h];simp⟩
theorem tv {a b:List Int}(ha:a.Nodup)(h:∀x∈a,x∈b):a.length<=b.length:=by
 induction a generalizing b with
 | nil=>simp
 | cons x a ih =>
  rw[List.nodup_cons] at ha;have hx:=h x (by simp);have:=ih (b:=b.erase x) ha.2 λy hy=>(List.mem_erase_of_ne (λe:y=x=>ha.1 (by rw[<-e];exact hy))).2 (h y (by simp[hy]));rw[List.length_erase_of_mem hx] at this;have:=List.length_pos_of_mem hx;simp;omega
theorem IZ {l:List Sp}{n:Nat}(hn:1<=n):S.ck l n=S.rt l n:=by
 apply Bool.eq_iff_iff.2;simp only[S.ck,S.rt,Bool.and_eq_true,decide_eq_true_eq,List.all_eq_true,List.mem_range];constructor
 ·rintro ⟨⟨⟨hl,hel⟩,hlv⟩,hus⟩;refine ⟨hl,λi hi=>?_⟩;have form:∀k,k<l.length->((S.sp l k).1 = -1->S.aI l k=true/\S.ax l k (S.sp l k).2.1=false/\S.ax l k (S.sp l k).2.2=false)/\((S.sp l k).1≠-1->S.an l n k=true/\S.aK l k (S.sp l k).1=false):=λk hk=>by
   have:=hel k hk;unfold S.aU at this;constructor
   ·intro c;rw[if_pos c] at this;simpa [and_assoc] using this
   ·intro c;rw[if_neg c] at this;simpa using this
  have noref:∀(k m:Nat) (e:Int),k<m->m<l.length->(S.sp l k).1 = -1/\((S.sp l k).2.1=e\/(S.sp l k).2.2=e)->(S.sp l m).1 = -1/\((S.sp l m).2.1=e\/(S.sp l m).2.2=e)->False:=λk m e hkm hm h1 h2=>by
   obtain ⟨-,u1,u2⟩:=(form m hm).1 h2.1;have hu:S.ax l m e=true:=fu.2 ⟨k,hkm,h1⟩;rcases h2.2 with h | h
   ·rw[h,hu] at u1;cases u1
   ·rw[h,hu] at u2;cases u2
  simp only[S.aR,Bool.and_eq_true,Bool.or_eq_true,decide_eq_true_eq,Bool.not_eq_true',List.all_eq_true,List.mem_range];refine ⟨⟨?_,?_⟩,?_⟩
  ·by_cases c:(S.sp l i).1 = -1
   ·exact .inr ⟨c,((form i hi).1 c).1⟩
   ·exact .inl ((form i hi).2 c).1
  ·by_cases c:(S.sp l i).1 = -1
   ·left;rw[Bool.eq_false_iff];intro h;have:=(qQ.1 h).1;omega
   ·right;intro j hj
    by_cases e:j=i
    ·exact .inl e
    ·right;rw[decide_eq_false_iff_not];intro h;rcases Nat.lt_or_gt_of_ne e with h1 | h1
     ·have:=((form i hi).2 c).2;rw[o9.2 ⟨j,h1,h⟩] at this;cases this
     ·have:=((form j hj).2 (by rw[h];exact c)).2;rw[o9.2 ⟨i,h1,h.symm⟩] at this;cases this
  ·by_cases c:i+1<l.length
   ·rw[if_pos c];obtain ⟨k,hk,hh⟩:=fu.1 (hus i (by omega));refine Bm hk hh λm hm hmk hh2=>?_;rcases Nat.lt_or_gt_of_ne hmk with h | h
    ·exact noref m k _ h hk hh2 hh
    ·exact noref k m _ h hm hh hh2
   ·rw[if_neg c];refine tE λk hk hh=>?_;have:=iB.1 ((form k hk).1 hh.1).1;omega
 ·rintro ⟨hl,hrt⟩;have form:∀k,k<l.length->((S.sp l k).1 = -1->S.aI l k=true)/\((S.sp l k).1≠-1->S.an l n k=true/\∀j,j<l.length->j≠k->(S.sp l j).1≠(S.sp l k).1)/\S.am l (k:Int) l.length=if k+1<l.length then 1 else 0:=λk hk=>by
   have:=hrt k hk;simp only[S.aR,Bool.and_eq_true,Bool.or_eq_true,decide_eq_true_eq,Bool.not_eq_true',List.all_eq_true,List.mem_range] at this;obtain ⟨⟨h1,h2⟩,h3⟩:=this;refine ⟨λc=>?_,λc=>?_,h3⟩
   ·rcases h1 with h | h
    ·have:=(qQ.1 h).1;omega
    ·exact h.2
   ·have hlf:S.an l n k=true:=by
     rcases h1 with h | h
     ·exact h
     ·exact absurd h.1 c
    refine ⟨hlf,λj hj hjk h=>?_⟩;rcases h2 with h2 | h2
    ·rw[hlf] at h2;cases h2
    ·rcases h2 j hj with h' | h'
     ·exact hjk h'
     ·rw[decide_eq_false_iff_not] at h';exact h' h
  have once:∀(k m:Nat) (e:Int),0<=e->e<(l.length:Int)->k<m->m<l.length->(S.sp l k).1 = -1/\((S.sp l k).2.1=e\/(S.sp l k).2.2=e)->(S.sp l m).1 = -1/\((S.sp l m).2.1=e\/(S.sp l m).2.2=e)->False:=λk m e h0 h1 hkm hm hk hh=>by
   obtain ⟨q,rfl⟩:=Int.eq_ofNat_of_zero_le h0;have:=Bo hkm hm hh hk;rw[(form q (by omega)).2.2] at this
   split at this<;>omega
  have elok:∀i,i<l.length->S.aU l n i=true:=λi hi=>by
   unfold S.aU
   by_cases c:(S.sp l i).1 = -1
   ·have hj:=(form i hi).1 c;obtain ⟨a1,a2,a3,a4,a5⟩:=iB.1 hj;have nu:∀e,0<=e->e<(l.length:Int)->((S.sp l i).2.1=e\/(S.sp l i).2.2=e)->S.ax l i e=false:=λe h0 h1 hh=>by rw[Bool.eq_false_iff];intro h;obtain ⟨k,hk,hh2⟩:=fu.1 h;exact once k i e h0 h1 hk hi hh2 ⟨c,hh⟩
    rw[if_pos c,hj,nu _ a1 (by omega) (.inl rfl),nu _ a3 (by omega) (.inr rfl)]
    rfl
   ·obtain ⟨h1,h2⟩:=(form i hi).2.1 c;have:S.aK l i (S.sp l i).1=false:=by rw[Bool.eq_false_iff];intro h;obtain ⟨j,hj,hh⟩:=o9.1 h;exact h2 j (by omega) (by omega) hh
    rw[if_neg c,h1,this];rfl
  have refnd:∀j,j<=l.length->(S.bi l j).Nodup:=by
   intro j
   induction j with
   | zero=>intro _;exact List.nodup_nil
   | succ j ih =>
    intro hj;rw[wK]
    by_cases c:(S.sp l j).1 = -1
    ·obtain ⟨a1,a2,a3,a4,a5⟩:=iB.1 ((form j (by omega)).1 c);rw[if_pos c,List.nodup_append];refine ⟨ih (by omega),by simp[a5],λa ha b hb hab=>?_⟩;subst hab;obtain ⟨k,hk,hh⟩:=zc.1 ha;simp only[List.mem_cons,List.not_mem_nil,or_false] at hb;rcases hb with hb | hb
     ·exact once k j a (by omega) (by omega) hk (by omega) hh ⟨c,.inl hb.symm⟩
     ·exact once k j a (by omega) (by omega) hk (by omega) hh ⟨c,.inr hb.symm⟩
    ·rw[if_neg c,List.append_nil];exact ih (by omega)
  have lvnd:∀j,j<=l.length->(S.be l j).Nodup:=by
   intro j
   induction j with
   | zero=>intro _;exact List.nodup_nil
   | succ j ih =>
    intro hj;rw[za]
    by_cases c:(S.sp l j).1 = -1
    ·rw[if_pos c,List.append_nil];exact ih (by omega)
    ·rw[if_neg c,List.nodup_append];refine ⟨ih (by omega),by simp,λa ha b hb hab=>?_⟩;subst hab;obtain ⟨k,hk,-,hh⟩:=xG.1 ha;have hb:=List.mem_singleton.1 hb;exact ((form j (by omega)).2.1 c).2 k (by omega) (by omega) (by rw[hh,hb])
  have r1:(S.bi l l.length).length<=l.length - 1:=by
   have:=tv (b:=(List.range (l.length - 1)).map λi:Nat=>(i:Int)) (refnd _ (Nat.le_refl _)) λe he=>by obtain ⟨k,hk,c,hh⟩:=zc.1 he;obtain ⟨a1,a2,a3,a4,a5⟩:=iB.1 ((form k hk).1 c);refine List.mem_map.2 ⟨e.toNat,List.mem_range.2 ?_,?_⟩<;>rcases hh with h | h<;>omega
   simpa using this
  have nleaf:n<=(S.be l l.length).length:=by have:=zA l l.length;omega
  refine ⟨⟨⟨hl,elok⟩,λv hv=>?_⟩,λe he=>?_⟩
  ·rw[o9];apply Classical.byContradiction;intro hno;have hnm:(v:Int) ∉ S.be l l.length:=λh=>by obtain ⟨k,hk,-,hh⟩:=xG.1 h;exact hno ⟨k,hk,hh⟩
   have:=tv (a:=(v:Int)::S.be l l.length) (b:=(List.range n).map λi:Nat=>(i:Int)) (List.nodup_cons.2 ⟨hnm,lvnd _ (Nat.le_refl _)⟩) λe he=>by
    rcases List.mem_cons.1 he with rfl | he
    ·exact List.mem_map.2 ⟨v,List.mem_range.2 hv,rfl⟩
    ·obtain ⟨k,hk,c,hh⟩:=xG.1 he;obtain ⟨b1,b2,-⟩:=qQ.1 ((form k hk).2.1 c).1;exact List.mem_map.2 ⟨e.toNat,List.mem_range.2 (by omega),by omega⟩
   simp at this;omega
  ·obtain ⟨-,-,hb⟩:=form e (by omega);rw[if_pos (by omega)] at hb;exact fu.2 (Bn (by omega))
end Hx
end
section
namespace Hx
open Go
abbrev Br:Type:=Int×Nat
def S.aq (st:List Sp×Br)(b:Br):List Sp×Br:=(st.1++[(-1,st.2.1,b.1)],((st.1.length:Int),st.2.2 ||| b.2))
def S.aE (l:List Br)(x:Br):List Br:=(l.filter λb=>decide (b.1<x.1))++x::l.filter λb=>decide (x.1<b.1)
def S.jn (w:Nat->Bool)(st:List Sp×List Br):List Sp×List Br :=
 match st.2.filter λb=>w b.2 with
 | []=>st
 | b::bs=>((bs.foldl S.aq (st.1,b)).1,S.aE (st.2.filter λb=>!w b.2) (bs.foldl S.aq (st.1,b)).2)
structure MkI (m:Nat) (st:List Sp×List Br):Prop where
 ln:st.1.length+st.2.length=2*m
 l1:m<=st.1.length
 lf:∀v,v<m->S.sp st.1 v=((v:Int),-1,-1)
 jn:∀i,m<=i->i<st.1.length->(S.sp st.1 i).1 = -1/\S.aI st.1 i=true
 so:st.2.Pairwise λa b=>a.1<b.1
 op:∀e,(∃b∈st.2,b.1=e)↔0<=e/\e<(st.1.length:Int)/\S.ax st.1 st.1.length e=false
 on:∀i j e,i<j->j<st.1.length->(S.sp st.1 i).1 = -1/\((S.sp st.1 i).2.1=e\/(S.sp st.1 i).2.2=e)->(S.sp st.1 j).1 = -1/\((S.sp st.1 j).2.1=e\/(S.sp st.1 j).2.2=e)->False
theorem qj {l m:List Sp}{i:Nat}(h:i<l.length):S.sp (l++m) i=S.sp l i:=by simp[S.sp,List.getElem?_append_left h]
theorem rk {l:List Sp}{x:Sp}:S.sp (l++[x]) l.length=x:=by simp[S.sp]
theorem HF {l:List Sp}{x:Sp}{e:Int}:S.ax (l++[x]) (l++[x]).length e=(S.ax l l.length e || (decide (x.1 = -1)&&(decide (x.2.1=e) || decide (x.2.2=e)))):=by
 apply Bool.eq_iff_iff.2;rw[fu,Bool.or_eq_true,fu];simp only[List.length_append,List.length_singleton,Bool.and_eq_true,Bool.or_eq_true,decide_eq_true_eq];constructor
 ·rintro ⟨j,hj,h⟩
  by_cases c:j<l.length
  ·rw[qj c] at h;exact .inl ⟨j,c,h⟩
  ·have:j=l.length:=by omega
   subst this;rw[rk] at h;exact .inr h
 ·rintro (⟨j,hj,h⟩ | h)
  ·exact ⟨j,by omega,by rw[qj hj];exact h⟩
  ·exact ⟨l.length,by omega,by rw[rk];exact h⟩
theorem Fk {m:Nat}{l:List Sp}{o:List Br}{a b:Br}{w:Nat}(h:MkI m (l,o))(ha:a∈o)(hb:b∈o)(hab:a.1≠b.1):MkI m (l++[(-1,a.1,b.1)],(o.filter λc=>!decide (c.1=a.1)&&!decide (c.1=b.1))++[((l.length:Int),w)]):=by
 obtain ⟨h1,h2,h3,h4,h5,h6,h7⟩:=h;have ea:=(h6 a.1).1 ⟨a,ha,rfl⟩;have eb:=(h6 b.1).1 ⟨b,hb,rfl⟩;dsimp only at h1 h2 h3 h4 h5 h6 h7 ea eb;have hlen:(o.filter λc=>!decide (c.1=a.1)&&!decide (c.1=b.1)).length+2=o.length:=by
  have key:∀(o:List Br) (x:Int),o.Pairwise (λa b=>a.1<b.1)->(∃c∈o,c.1=x)->(o.filter λc=>!decide (c.1=x)).length+1=o.length:=by
   intro o x hp hx
   induction o with
   | nil=>obtain ⟨c,hc,-⟩:=hx;simp at hc
   | cons c o ih =>
    rw[List.pairwise_cons] at hp
    by_cases e:c.1=x
    ·have hno:∀d∈o,d.1≠x:=λd hd he=>by have:=hp.1 d hd;omega
     rw[List.filter_cons_of_neg (by simp[e]),List.filter_eq_self.2 (λd hd=>by simpa using hno d hd)]
     rfl
    ·obtain ⟨d,hd,hdx⟩:=hx;have hd:d∈o:=by
      rcases List.mem_cons.1 hd with h | h
      ·subst h;exact absurd hdx e
      ·exact h
     rw[List.filter_cons_of_pos (by simpa using e),List.length_cons,List.length_cons,<-ih hp.2 ⟨d,hd,hdx⟩]
  have k1:=key o b.1 h5 ⟨b,hb,rfl⟩;have k2:=key (o.filter λc=>!decide (c.1=b.1)) a.1 (h5.filter _) ⟨a,List.mem_filter.2 ⟨ha,by simpa using hab⟩,rfl⟩;rw[List.filter_filter] at k2;omega
 constructor
 ·simp;omega
 ·simp;omega
 ·intro v hv;rw[qj (by omega)];exact h3 v hv
 ·intro i hi hil;rw[List.length_append,List.length_singleton] at hil
  by_cases c:i<l.length
  ·have:=h4 i hi c;have e1:S.aI (l++[(-1,a.1,b.1)]) i=S.aI l i:=by unfold S.aI;rw[qj c]
   rw[e1,qj c];exact this
  ·have:i=l.length:=by omega
   subst this;refine ⟨by rw[rk],iB.2 ?_⟩;rw[rk];exact ⟨ea.1,ea.2.1,eb.1,eb.2.1,hab⟩
 ·rw[List.pairwise_append];refine ⟨h5.filter _,List.pairwise_singleton _ _,λc hc d hd=>?_⟩;have hd:=List.mem_singleton.1 hd;subst hd;have:=(h6 c.1).1 ⟨c,(List.mem_filter.1 hc).1,rfl⟩;exact this.2.1
 ·intro e;dsimp only;rw[HF,Bool.or_eq_false_iff];constructor
  ·rintro ⟨c,hc,rfl⟩;rcases List.mem_append.1 hc with hc | hc
   ·obtain ⟨hc,hn⟩:=List.mem_filter.1 hc;have:=(h6 c.1).1 ⟨c,hc,rfl⟩;simp only[Bool.and_eq_true,Bool.not_eq_true',decide_eq_false_iff_not] at hn;refine ⟨this.1,by simp;omega,this.2.2,?_⟩;have n1:¬a.1=c.1:=λe=>hn.1 e.symm;have n2:¬b.1=c.1:=λe=>hn.2 e.symm;simp[n1,n2]
   ·have hc:=List.mem_singleton.1 hc;subst hc;refine ⟨by simp,by simp;omega,?_,?_⟩
    ·rw[Bool.eq_false_iff];intro h;obtain ⟨j,hj,hh⟩:=fu.1 h
     by_cases c:m<=j
     ·have:=iB.1 (h4 j c hj).2;omega
     ·have:=h3 j (by omega);rw[this] at hh;have:=hh.1;dsimp only at this;omega
    ·have n1:¬a.1=(l.length:Int):=by omega
     have n2:¬b.1=(l.length:Int):=by omega
     simp[n1,n2]
  ·rintro ⟨e0,e1,e2,e3⟩
   by_cases c:e=(l.length:Int)
   ·exact ⟨_,List.mem_append_right _ (List.mem_singleton.2 rfl),c.symm⟩
   ·obtain ⟨d,hd,hde⟩:=(h6 e).2 ⟨e0,by simp at e1;omega,e2⟩;refine ⟨d,List.mem_append_left _ (List.mem_filter.2 ⟨hd,?_⟩),hde⟩;simp only[decide_true,Bool.true_and,Bool.or_eq_false_iff,decide_eq_false_iff_not] at e3;simp only[Bool.and_eq_true,Bool.not_eq_true',decide_eq_false_iff_not];exact ⟨λh=>e3.1 (by rw[<-h,hde]),λh=>e3.2 (by rw[<-h,hde])⟩
 ·intro i j e hij hj hi' hj';dsimp only at hij hj hi' hj';rw[List.length_append,List.length_singleton] at hj;rw[qj (by omega)] at hi'
  by_cases c:j<l.length
  ·rw[qj c] at hj';exact h7 i j e hij c hi' hj'
  ·have:j=l.length:=by omega
   subst this;rw[rk] at hj';have hu:S.ax l l.length e=true:=fu.2 ⟨i,hij,hi'⟩;rcases hj'.2 with h | h
   ·dsimp only at h;rw[<-h,ea.2.2] at hu;cases hu
   ·dsimp only at h;rw[<-h,eb.2.2] at hu;cases hu
theorem AX {o:List Br}(h:o.Pairwise λa b=>a.1<b.1){a b:Br}(ha:a∈o)(hb:b∈o)(e:a.1=b.1):a=b:=by
 induction o with
 | nil=>simp at ha
 | cons c o ih =>
  rw[List.pairwise_cons] at h;rcases List.mem_cons.1 ha with h1 | h1<;>rcases List.mem_cons.1 hb with h2 | h2
  ·rw[h1,h2]
  ·have:=h.1 b h2;rw[h1] at e;omega
  ·have:=h.1 a h1;rw[h2] at e;omega
  ·exact ih h.2 h1 h2
theorem yV {o:List Br}(h:o.Pairwise λa b=>a.1<b.1){x:Br}(hx:x∈o):S.aE (o.filter λc=>!decide (c.1=x.1)) x=o:=by
 unfold S.aE;rw[List.filter_filter,List.filter_filter];have e1:∀o:List Br,(o.filter λc=>decide (c.1<x.1)&&!decide (c.1=x.1))=o.filter λc=>decide (c.1<x.1):=λo=>List.filter_congr λc _=>by
  by_cases hc:c.1<x.1
  ·have:¬c.1=x.1:=by omega
   simp[hc,this]
  ·simp[hc]
 have e2:∀o:List Br,(o.filter λc=>decide (x.1<c.1)&&!decide (c.1=x.1))=o.filter λc=>decide (x.1<c.1):=λo=>List.filter_congr λc _=>by
  by_cases hc:x.1<c.1
  ·have:¬c.1=x.1:=by omega
   simp[hc,this]
  ·simp[hc]
 rw[e1,e2];clear e1 e2
 induction o with
 | nil=>simp at hx
 | cons c o ih =>
  rw[List.pairwise_cons] at h;rcases List.mem_cons.1 hx with rfl | hx'
  ·have h1:o.filter (λc=>decide (c.1<x.1))=[]:=List.filter_eq_nil_iff.2 λd hd=>by have:=h.1 d hd;simp;omega
   have h2:o.filter (λc=>decide (x.1<c.1))=o:=List.filter_eq_self.2 λd hd=>by have:=h.1 d hd;simpa using this
   simp[h1,h2]
  ·have:=h.1 x hx';have n1:¬x.1<c.1:=by omega
   rw[List.filter_cons_of_pos (by simpa using this),List.filter_cons_of_neg (by simpa using n1),List.cons_append,ih h.2 hx']
theorem ze {m:Nat}:∀(bs:List Br) (l:List Sp) (o:List Br) (a:Br),MkI m (l,o)->a∈o->(∀b∈bs,b∈o)->(a::bs).Pairwise (λa b=>a.1≠b.1) ->
  MkI m ((bs.foldl S.aq (l,a)).1,S.aE (o.filter λc=>!decide (c.1∈(a::bs).map (·.1))) (bs.foldl S.aq (l,a)).2)
 | [],l,o,a,h,ha,_,_=>by have:=yV h.so ha;simp only[List.foldl_nil,List.map_cons,List.map_nil,List.mem_singleton];rw[this];exact h
 | c::cs,l,o,a,h,ha,hb,hd=>by
  rw[List.pairwise_cons,List.pairwise_cons] at hd;have hac:=hd.1 c (by simp);have hj:=Fk (w:=a.2 ||| c.2) h ha (hb c (by simp)) hac;have klt:∀b∈o,b.1<(l.length:Int):=λb hbo=>((h.op b.1).1 ⟨b,hbo,rfl⟩).2.1;have ih:=ze cs _ _ ((l.length:Int),a.2 ||| c.2) hj (by simp) (λb hbc=>by
   refine List.mem_append_left _ (List.mem_filter.2 ⟨hb b (by simp[hbc]),?_⟩);have n1:=hd.1 b (by simp[hbc]);have n2:=hd.2.1 b hbc;have n3:¬b.1=a.1:=λe=>n1 e.symm;have n4:¬b.1=c.1:=λe=>n2 e.symm;simp[n3,n4]) (List.pairwise_cons.2 ⟨λb hbc=>by have:=klt b (hb b (by simp[hbc]));dsimp only;omega,hd.2.2⟩)
  have e:(((o.filter λd=>!decide (d.1=a.1)&&!decide (d.1=c.1))++[((l.length:Int),a.2 ||| c.2)]).filter λd=>!decide (d.1∈((((l.length:Int),a.2 ||| c.2):Br)::cs).map (·.1)))=o.filter λd=>!decide (d.1∈(a::c::cs).map (·.1)):=by
   rw[List.filter_append,List.filter_filter];have:([((l.length:Int),a.2 ||| c.2)]:List Br).filter (λd=>!decide (d.1∈((((l.length:Int),a.2 ||| c.2):Br)::cs).map (·.1)))=[]:=by rw[List.filter_eq_nil_iff];intro d hd;rw[List.mem_singleton.1 hd];simp
   rw[this,List.append_nil];refine List.filter_congr λd hd=>?_;have:=klt d hd;have n:¬d.1=(l.length:Int):=by omega
   simp only[List.map_cons,List.mem_cons,n,false_or]
   by_cases c1:d.1=a.1<;>by_cases c2:d.1=c.1<;>by_cases c3:d.1∈cs.map (·.1)<;>simp[c1,c2,c3]
  rw[e] at ih;exact ih
theorem Fj {m:Nat}{w:Nat->Bool}{st:List Sp×List Br}(h:MkI m st):MkI m (S.jn w st):=by
 unfold S.jn
 split
 ·exact h
 ·rename_i b bs hf;have hmem:∀c,c∈b::bs↔c∈st.2/\w c.2=true:=λc=>by rw[<-hf,List.mem_filter]
  have hp:(b::bs).Pairwise λa b=>a.1≠b.1:=by rw[<-hf];exact (h.so.filter _).imp λh e=>by omega
  have key:=ze bs st.1 st.2 b h ((hmem b).1 (by simp)).1 (λc hc=>((hmem c).1 (by simp[hc])).1) hp;have e:(st.2.filter λc=>!decide (c.1∈(b::bs).map (·.1)))=st.2.filter λc=>!w c.2:=List.filter_congr λc hc=>by
   congr 1;apply Bool.eq_iff_iff.2;rw[decide_eq_true_eq];constructor
   ·intro hm;obtain ⟨d,hd,hde⟩:=List.mem_map.1 hm;have hd':=(hmem d).1 hd;rw[<-AX h.so hd'.1 hc hde];exact hd'.2
   ·intro hw;exact List.mem_map.2 ⟨c,(hmem c).2 ⟨hc,hw⟩,rfl⟩
  rw[e] at key;exact key
def S.aC (fam:List Nat):List Sp×List Br:=((List.range fam.length).map λv:Nat=>(((v:Int),-1,-1):Sp),(List.range fam.length).map λv:Nat=>(((v:Int),fam[v]?.getD 0):Br))
def S.aJ (fam:List Nat)(order:List Int):Nat->List Sp×List Br
 | 0=>S.aC fam
 | j+1=>S.jn (λs=>s.testBit (order[j]?.getD 0).toNat) (S.aJ fam order j)
def S.mk (fam:List Nat)(order:List Int):List Sp×List Br:=S.jn (λ_=>true) (S.aJ fam order order.length)
theorem Fm (fam:List Nat):MkI fam.length (S.aC fam):=by
 have hs:∀v,v<fam.length->S.sp (S.aC fam).1 v=((v:Int),-1,-1):=λv hv=>by simp[S.sp,S.aC,hv]
 have hl:(S.aC fam).1.length=fam.length:=by simp[S.aC]
 have hu:∀e,S.ax (S.aC fam).1 (S.aC fam).1.length e=false:=λe=>by rw[Bool.eq_false_iff];intro h;obtain ⟨j,hj,hh⟩:=fu.1 h;rw[hs j (by omega)] at hh;have:=hh.1;dsimp only at this;omega
 constructor
 ·simp[S.aC];omega
 ·omega
 ·exact hs
 ·intro i h1 h2;omega
 ·rw[S.aC,List.pairwise_map];exact List.pairwise_lt_range.imp λh=>by dsimp only;omega
 ·intro e;rw[hu,hl];constructor
  ·rintro ⟨b,hb,rfl⟩;obtain ⟨v,hv,rfl⟩:=List.mem_map.1 hb;have:=List.mem_range.1 hv;dsimp only;exact ⟨by omega,by omega,rfl⟩
  ·rintro ⟨h0,h1,-⟩;exact ⟨_,List.mem_map.2 ⟨e.toNat,List.mem_range.2 (by omega),rfl⟩,by dsimp only;omega⟩
 ·intro i j e _ hj hi' _;rw[hs i (by omega)] at hi';have:=hi'.1;dsimp only at this;omega
theorem zd (fam:List Nat)(order:List Int):∀j,MkI fam.length (S.aJ fam order j)
 | 0=>Fm fam
 | j+1=>Fj (zd fam order j)
theorem Fo {fam:List Nat}{order:List Int}(hm:1<=fam.length):S.ck (S.mk fam order).1 fam.length=true/\((S.mk fam order).1.length:Int)=2*(fam.length:Int) - 1/\∀v,v<fam.length->S.sp (S.mk fam order).1 v=((v:Int),-1,-1):=by
 have h0:=zd fam order order.length;have h:=Fj (w:=λ_=>true) h0;have hne:(S.aJ fam order order.length).2≠[]:=λe=>by
  have h1:=h0.ln;have h2:=h0.op ((S.aJ fam order order.length).1.length - 1:Int);have h3:=h0.l1;rw[e] at h2;have:=h2.2 ⟨by omega,by omega,by
   rw[Bool.eq_false_iff];intro hu;obtain ⟨j,hj,hh⟩:=fu.1 hu
   by_cases c:fam.length<=j
   ·have:=iB.1 (h0.jn j c hj).2;omega
   ·have:=h0.lf j (by omega);rw[this] at hh;have:=hh.1;dsimp only at this;omega⟩
  obtain ⟨b,hb,-⟩:=this;simp at hb
 have ho:(S.mk fam order).2.length=1:=by
  unfold S.mk S.jn
  split
  ·rename_i hf;rw[List.filter_eq_self.2 λ_ _=>rfl] at hf;exact absurd hf hne
  ·have:(S.aJ fam order order.length).2.filter (λ_=>!true)=[]:=List.filter_eq_nil_iff.2 λ_ _=>by simp
   dsimp only;rw[this];simp[S.aE]
 have hln:=h.ln;have hl:(S.mk fam order).1.length=2*fam.length - 1:=by have:(S.mk fam order).1.length+(S.mk fam order).2.length=2*fam.length:=hln;omega
 have h:MkI fam.length ((S.mk fam order).1,(S.mk fam order).2):=h;obtain ⟨L,hL⟩:∃L,L=(S.mk fam order).1:=⟨_,rfl⟩;obtain ⟨O,hO⟩:∃O,O=(S.mk fam order).2:=⟨_,rfl⟩;rw[<-hL,<-hO] at h;rw[<-hO] at ho;rw[<-hL] at hl ⊢;obtain ⟨-,-,h3,h4,h5,h6,h7⟩:=h;dsimp only at h3 h4 h5 h6 h7;obtain ⟨x,rfl⟩:=List.length_eq_one_iff.1 ho;have unus:∀e,S.ax L L.length e=true->0<=e/\e<(L.length:Int) - 1:=λe he=>by
  obtain ⟨j,hj,hh⟩:=fu.1 he
  by_cases c:fam.length<=j
  ·have:=iB.1 (h4 j c hj).2;omega
  ·have:=h3 j (by omega);rw[this] at hh;have:=hh.1;dsimp only at this;omega
 have hx:x.1=(L.length:Int) - 1:=by obtain ⟨b,hb,hbe⟩:=(h6 ((L.length:Int) - 1)).2 ⟨by omega,by omega,by rw[Bool.eq_false_iff];intro hu;have:=unus _ hu;omega⟩;rw[<-List.mem_singleton.1 hb,hbe]
 refine ⟨?_,by omega,h3⟩;simp only[S.ck,Bool.and_eq_true,decide_eq_true_eq,List.all_eq_true,List.mem_range];refine ⟨⟨⟨by omega,λi hi=>?_⟩,λv hv=>o9.2 ⟨v,by omega,by rw[h3 v hv]⟩⟩,λe he=>?_⟩
 ·unfold S.aU
  by_cases c:i<fam.length
  ·rw[h3 i c];have hb:S.aK L i (i:Int)=false:=by rw[Bool.eq_false_iff];intro hu;obtain ⟨j,hj,hh⟩:=o9.1 hu;rw[h3 j (by omega)] at hh;dsimp only at hh;omega
   have hlf:S.an L fam.length i=true:=qQ.2 (by rw[h3 i c];dsimp only;exact ⟨by omega,by omega,rfl,rfl⟩);dsimp only;rw[if_neg (by omega),hlf,hb];rfl
  ·obtain ⟨a1,a2⟩:=h4 i (by omega) hi;have nu:∀e,((S.sp L i).2.1=e\/(S.sp L i).2.2=e)->S.ax L i e=false:=λe hh=>by rw[Bool.eq_false_iff];intro hu;obtain ⟨j,hj,hh2⟩:=fu.1 hu;exact h7 j i e hj hi hh2 ⟨a1,hh⟩
   rw[if_pos a1,a2,nu _ (.inl rfl),nu _ (.inr rfl)];rfl
 ·apply Classical.byContradiction;intro hu;rw[Bool.not_eq_true] at hu;obtain ⟨b,hb,hbe⟩:=(h6 (e:Int)).2 ⟨by omega,by omega,hu⟩;rw[List.mem_singleton.1 hb] at hbe;omega
end Hx
end
section
namespace Hx
open Go
structure Fl (l:List Sp) (o:List Br) (f:List Nat) (op:List Bool):Prop where
 lf:f.length=l.length
 lo:op.length=l.length
 so:o.Pairwise λa b=>a.1<b.1
 bd:∀c∈o,0<=c.1/\c.1<(l.length:Int)
 fo:∀i:Nat,i<l.length->(op[i]?=some true↔∃c∈o,c.1=(i:Int))
 ff:∀c∈o,f[c.1.toNat]?=some c.2
def S.wt (o:List Br)(w:Nat->Bool)(j:Nat):List Int:=(o.filter λc=>decide (c.1<(j:Int))&&w c.2).map (·.1)
theorem HG {o:List Br}{w:Nat->Bool}(h:∀c∈o,0<=c.1):S.wt o w 0=[]:=by rw[S.wt,List.filter_eq_nil_iff.2 λc hc=>by have:=h c hc;simp;omega];rfl
theorem IQ {o:List Br}{w:Nat->Bool}{m:Nat}(h:∀c∈o,c.1<(m:Int)):S.wt o w m=(o.filter λc=>w c.2).map (·.1):=by rw[S.wt];congr 1;exact List.filter_congr λc hc=>by simp[h c hc]
theorem CC {w:Nat->Bool}{i:Nat}:∀{o:List Br},o.Pairwise (λa b=>a.1<b.1)->(∀c∈o,0<=c.1) ->
  (∀c∈o,c.1=(i:Int)->S.wt o w (i+1)=S.wt o w i++if w c.2 then [(i:Int)] else [])/\((∀c∈o,c.1≠(i:Int))->S.wt o w (i+1)=S.wt o w i)
 | [],_,_=>⟨λc hc=>(by cases hc),λ_=>rfl⟩
 | c::o,hp,hn=>by
  rw[List.pairwise_cons] at hp;obtain ⟨ih1,ih2⟩:=CC (w:=w) (i:=i) hp.2 λd hd=>hn d (by simp[hd]);have step:∀j:Nat,S.wt (c::o) w j=(if c.1<(j:Int)/\w c.2=true then [c.1] else [])++S.wt o w j:=λj=>by
   unfold S.wt;rw[List.filter_cons]
   by_cases h:c.1<(j:Int)/\w c.2=true
   ·rw[if_pos (by simp[h.1,h.2]),if_pos h];rfl
   ·rw[if_neg (by simpa using h),if_neg h];rfl
  constructor
  ·intro e he hei;rcases List.mem_cons.1 he with rfl | he
   ·
    have hz:∀j:Nat,j<=i+1->S.wt o w j=[]:=λj hj=>by unfold S.wt;rw[List.filter_eq_nil_iff.2 λd hd=>by have:=hp.1 d hd;simp;omega];rfl
    rw[step,step,hz (i+1) (Nat.le_refl _),hz i (by omega),List.append_nil,List.append_nil];have n1:¬e.1<(i:Int):=by omega
    have n2:e.1<((i+1:Nat):Int):=by omega
    by_cases h:w e.2=true
    ·rw[if_pos ⟨n2,h⟩,if_neg (λh=>n1 h.1),if_pos h,hei];rfl
    ·rw[if_neg (λh'=>h h'.2),if_neg (λh=>n1 h.1),if_neg h];rfl
   ·rw[step,step,ih1 e he hei,<-List.append_assoc];congr 2;have:=hp.1 e he;have n1:c.1<(i:Int)↔c.1<((i+1:Nat):Int):=by omega
    simp only[n1]
  ·intro hne;rw[step,step,ih2 λd hd=>hne d (by simp[hd])];have:=hne c (by simp);have n1:c.1<((i+1:Nat):Int)↔c.1<(i:Int):=by omega
   simp only[n1]
theorem GN {l:List Sp}{o:List Br}{f:List Nat}{op:List Bool}{a b:Br}(h:Fl l o f op)(ha:a∈o)(hb:b∈o)(hab:a.1≠b.1) :
  Fl (l++[(-1,a.1,b.1)]) ((o.filter λc=>!decide (c.1=a.1)&&!decide (c.1=b.1))++[((l.length:Int),a.2 ||| b.2)]) (f++[a.2 ||| b.2]) (((op.set a.1.toNat false).set b.1.toNat false)++[true]):=by
 obtain ⟨h1,h2,h3,h4,h5,h6⟩:=h;have ba:=h4 a ha;have bb:=h4 b hb;refine ⟨by simp[h1],by simp[h2],?_,?_,?_,?_⟩
 ·rw[List.pairwise_append];refine ⟨h3.filter _,List.pairwise_singleton _ _,λc hc d hd=>?_⟩;have hd:=List.mem_singleton.1 hd;subst hd;exact (h4 c (List.mem_filter.1 hc).1).2
 ·intro c hc;rcases List.mem_append.1 hc with hc | hc
  ·have:=h4 c (List.mem_filter.1 hc).1;simp;omega
  ·have hc:=List.mem_singleton.1 hc;subst hc;simp;omega
 ·intro i hi;have hi2:i<l.length+1:=by simpa using hi
  by_cases e:i=l.length
  ·subst e;constructor
   ·intro _;exact ⟨_,List.mem_append_right _ (List.mem_singleton.2 rfl),rfl⟩
   ·intro _;rw[List.getElem?_append_right (by simp[h2])];simp[h2]
  ·have hil:i<l.length:=by omega
   rw[List.getElem?_append_left (by simp[h2];exact hil),List.getElem?_set,List.getElem?_set]
   by_cases e1:b.1.toNat=i
   ·constructor
    ·intro hh;rw[if_pos e1] at hh;split at hh<;>simp at hh
    ·rintro ⟨c,hc,hci⟩;rcases List.mem_append.1 hc with hc | hc
     ·have:=(List.mem_filter.1 hc).2;simp at this;omega
     ·have hc:=List.mem_singleton.1 hc;subst hc;dsimp only at hci;omega
   ·rw[if_neg e1]
    by_cases e2:a.1.toNat=i
    ·constructor
     ·intro hh;rw[if_pos e2] at hh;split at hh<;>simp at hh
     ·rintro ⟨c,hc,hci⟩;rcases List.mem_append.1 hc with hc | hc
      ·have:=(List.mem_filter.1 hc).2;simp at this;omega
      ·have hc:=List.mem_singleton.1 hc;subst hc;dsimp only at hci;omega
    ·rw[if_neg e2,h5 i hil];constructor
     ·rintro ⟨c,hc,hci⟩;refine ⟨c,List.mem_append_left _ (List.mem_filter.2 ⟨hc,?_⟩),hci⟩;have n1:¬c.1=a.1:=by omega
      have n2:¬c.1=b.1:=by omega
      simp[n1,n2]
     ·rintro ⟨c,hc,hci⟩;rcases List.mem_append.1 hc with hc | hc
      ·exact ⟨c,(List.mem_filter.1 hc).1,hci⟩
      ·have hc:=List.mem_singleton.1 hc;subst hc;dsimp only at hci;omega
 ·intro c hc;rcases List.mem_append.1 hc with hc | hc
  ·have hco:=(List.mem_filter.1 hc).1;have:=h4 c hco;rw[List.getElem?_append_left (by omega)];exact h6 c hco
  ·have hc:=List.mem_singleton.1 hc;subst hc;dsimp only;rw[List.getElem?_append_right (by omega)];simp[h1]
end Hx
end
section
namespace Hx
open Go
def S.aM (s:(List Sp×Br)×List Nat×List Bool)(c:Br):(List Sp×Br)×List Nat×List Bool:=(S.aq s.1 c,s.2.1++[s.1.2.2 ||| c.2],((s.2.2.set s.1.2.1.toNat false).set c.1.toNat false)++[true])
theorem xw:∀(bs:List Br) (s:(List Sp×Br)×List Nat×List Bool),(bs.foldl S.aM s).1=bs.foldl S.aq s.1
 | [],_=>rfl
 | b::bs,s=>by rw[List.foldl_cons,List.foldl_cons,xw bs,S.aM]
theorem xr:∀(bs:List Br) (l:List Sp) (o:List Br) (a:Br) (f:List Nat) (op:List Bool),Fl l o f op->a∈o->(∀b∈bs,b∈o)->(a::bs).Pairwise (λa b=>a.1≠b.1) ->
  Fl (bs.foldl S.aq (l,a)).1 (S.aE (o.filter λc=>!decide (c.1∈(a::bs).map (·.1))) (bs.foldl S.aq (l,a)).2) (bs.foldl S.aM ((l,a),f,op)).2.1 (bs.foldl S.aM ((l,a),f,op)).2.2
 | [],l,o,a,f,op,h,ha,_,_=>by have:=yV h.so ha;simp only[List.foldl_nil,List.map_cons,List.map_nil,List.mem_singleton];rw[this];exact h
 | c::cs,l,o,a,f,op,h,ha,hb,hd=>by
  rw[List.pairwise_cons,List.pairwise_cons] at hd;have hac:=hd.1 c (by simp);have hj:=GN h ha (hb c (by simp)) hac;have klt:∀b∈o,b.1<(l.length:Int):=λb hbo=>(h.bd b hbo).2;have ih:=xr cs _ _ ((l.length:Int),a.2 ||| c.2) _ _ hj (by simp) (λb hbc=>by
   refine List.mem_append_left _ (List.mem_filter.2 ⟨hb b (by simp[hbc]),?_⟩);have n1:=hd.1 b (by simp[hbc]);have n2:=hd.2.1 b hbc;have n3:¬b.1=a.1:=λe=>n1 e.symm;have n4:¬b.1=c.1:=λe=>n2 e.symm;simp[n3,n4]) (List.pairwise_cons.2 ⟨λb hbc=>by have:=klt b (hb b (by simp[hbc]));dsimp only;omega,hd.2.2⟩)
  have e:(((o.filter λd=>!decide (d.1=a.1)&&!decide (d.1=c.1))++[((l.length:Int),a.2 ||| c.2)]).filter λd=>!decide (d.1∈((((l.length:Int),a.2 ||| c.2):Br)::cs).map (·.1)))=o.filter λd=>!decide (d.1∈(a::c::cs).map (·.1)):=by
   rw[List.filter_append,List.filter_filter];have:([((l.length:Int),a.2 ||| c.2)]:List Br).filter (λd=>!decide (d.1∈((((l.length:Int),a.2 ||| c.2):Br)::cs).map (·.1)))=[]:=by rw[List.filter_eq_nil_iff];intro d hd;rw[List.mem_singleton.1 hd];simp
   rw[this,List.append_nil];refine List.filter_congr λd hd=>?_;have:=klt d hd;have n:¬d.1=(l.length:Int):=by omega
   simp only[List.map_cons,List.mem_cons,n,false_or]
   by_cases c1:d.1=a.1<;>by_cases c2:d.1=c.1<;>by_cases c3:d.1∈cs.map (·.1)<;>simp[c1,c2,c3]
  rw[e] at ih;exact ih
theorem HM {l:List Sp}{o:List Br}{f:List Nat}{op:List Bool}{w:Nat->Bool}(h:Fl l o f op):(o.filter (λc=>w c.2)=[]->S.jn w (l,o)=(l,o)) /\
  ∀b bs,o.filter (λc=>w c.2)=b::bs->Fl (S.jn w (l,o)).1 (S.jn w (l,o)).2 (bs.foldl S.aM ((l,b),f,op)).2.1 (bs.foldl S.aM ((l,b),f,op)).2.2/\(S.jn w (l,o)).1=(bs.foldl S.aM ((l,b),f,op)).1.1:=by
 constructor
 ·intro hf;unfold S.jn;dsimp only;rw[hf]
 ·intro b bs hf;have hmem:∀c,c∈b::bs↔c∈o/\w c.2=true:=λc=>by rw[<-hf,List.mem_filter]
  have hp:(b::bs).Pairwise λa b=>a.1≠b.1:=by rw[<-hf];exact (h.so.filter _).imp λh e=>by omega
  have key:=xr bs l o b f op h ((hmem b).1 (by simp)).1 (λc hc=>((hmem c).1 (by simp[hc])).1) hp;have e:(o.filter λc=>!decide (c.1∈(b::bs).map (·.1)))=o.filter λc=>!w c.2:=List.filter_congr λc hc=>by
   congr 1;apply Bool.eq_iff_iff.2;rw[decide_eq_true_eq];constructor
   ·intro hm;obtain ⟨d,hd,hde⟩:=List.mem_map.1 hm;have hd':=(hmem d).1 hd;rw[<-AX h.so hd'.1 hc hde];exact hd'.2
   ·intro hw;exact List.mem_map.2 ⟨c,(hmem c).2 ⟨hc,hw⟩,rfl⟩
  rw[e] at key;have ej:S.jn w (l,o)=((bs.foldl S.aq (l,b)).1,S.aE (o.filter λc=>!w c.2) (bs.foldl S.aq (l,b)).2):=by unfold S.jn;dsimp only;rw[hf]
  rw[ej];exact ⟨key,by rw[xw]⟩
theorem GO (fam:List Nat):Fl (S.aC fam).1 (S.aC fam).2 fam (List.replicate fam.length true):=by
 have hl:(S.aC fam).1.length=fam.length:=by simp[S.aC]
 refine ⟨hl.symm,by simp[hl],?_,?_,?_,?_⟩
 ·rw[S.aC,List.pairwise_map];exact List.pairwise_lt_range.imp λh=>by dsimp only;omega
 ·intro c hc;obtain ⟨v,hv,rfl⟩:=List.mem_map.1 hc;have:=List.mem_range.1 hv;rw[hl];dsimp only;omega
 ·intro i hi;rw[hl] at hi;constructor
  ·intro _;exact ⟨_,List.mem_map.2 ⟨i,List.mem_range.2 hi,rfl⟩,rfl⟩
  ·intro _;rw[List.getElem?_replicate,if_pos hi]
 ·intro c hc;obtain ⟨v,hv,rfl⟩:=List.mem_map.1 hc;have:=List.mem_range.1 hv;dsimp only;rw[Int.toNat_natCast,List.getElem?_eq_getElem this];rfl
end Hx
end
section
namespace Hx
open Go
noncomputable section
def cs3 (x:Sp):List AV:=[.int .i64 x.1,.int .i64 x.2.1,.int .i64 x.2.2]
def cb (x:Bool):List AV:=[.bool x]
theorem FS {P:Nat->Prop}{k:Nat}{h:H}{x:Sp}{cs:List AV}:Rp.rp P k h x cs↔cs=cs3 x:=by
 obtain ⟨a,b,c⟩:=x;rw[pj];constructor
 ·rintro ⟨p,q,rfl,h1,h2⟩;obtain ⟨q1,q2,rfl,h3,h4⟩:=pj.1 h2;rw[bj.1 h1,bj.1 h3,bj.1 h4];rfl
 ·rintro rfl;exact ⟨[.int .i64 a],_,rfl,bj.2 rfl,pj.2 ⟨[.int .i64 b],[.int .i64 c],rfl,bj.2 rfl,bj.2 rfl⟩⟩
theorem SlR.sps {P:Nat->Prop}{k:Nat}{h:H}{l:List Sp}{v:AV}(r:SlR P k h l v):ak h 3 v=some (l.map cs3):=by obtain ⟨rows,h1,h2⟩:=r.rows;rw[show (3:Nat)=Rp.sz Sp from rfl,h1,h2.eq_map (f:=cs3) λa b r=>FS.1 r]
theorem SlR.bools {P:Nat->Prop}{k:Nat}{h:H}{l:List Bool}{v:AV}(r:SlR P k h l v):ak h 1 v=some (l.map cb):=by obtain ⟨rows,h1,h2⟩:=r.rows;rw[show (1:Nat)=Rp.sz Bool from rfl,h1,h2.eq_map (f:=cb) λa b r=>q_.1 r]
theorem Own.sps {g:G}{b:Nat}{v:AV}{l:List Sp}{k:Nat}(h:Own g b v 3 (l.map cs3))(hl:l.length<9223372036854775808):One l (λ_=>True) k g.h v :=
 ⟨v,rfl,Own.sl (α:=Sp) h hl (All2.of_map (λa=>FS.2 rfl) l) λ_ _=>trivial⟩
theorem Own.bools {g:G}{b:Nat}{v:AV}{l:List Bool}(h:Own g b v 1 (l.map cb))(hl:l.length<9223372036854775808):SlR (λi=>vid v=some i) 0 g.h l v :=
 Own.sl (α:=Bool) h hl (All2.of_map (λa=>q_.2 rfl) l) λ_ h=>h
theorem Er (b:Bool):C5 false .bool (.bool false) (.bool b)=.val (.bool (!b)):=by cases b<;>rfl
theorem mQ {g:G}{b:Nat}{v:AV}{sz n i off:Nat}{rows:List (List AV)}{row row':List AV}{x:AV}{K:AV->G->Prop}{D:ADf->Prop}(hv:Own g b v sz rows)(hr:rows[i]?=some row)
  (hl:x.cells.length=n) (ht:x.isTup=false) (hp:bB row off x.cells=some row')
  (k:∀g',Own g' b v sz (rows.set i row')->g'.nx=g.nx->(∀i,vid v≠some i->g'.h.get i=g.h.get i)->(∀j∈g'.lg,j∈g.lg\/vid v=some j)->K .undef g'):(jY n (eg sz v i off) x g).sat K g D:=by
 rcases hv with ⟨rfl,rfl⟩ | ⟨id,ep,lo,h1,h2,rfl,h3⟩
 ·simp at hr
 ·simp only[eg,Nat.zero_add];rw[uP h3 hr rfl ht hl hp];refine k _ (.inr ⟨id,ep,lo,h1,by simpa using h2,by simp,by simp[bh]⟩) (by simp) (λi hne=>?_) (λj hj=>?_)
  ·rw[G.put_h,aD _ _ _ (λe=>hne (by rw[e];rfl))]
  ·simp at hj;rcases hj with rfl | hj
   ·exact .inr rfl
   ·exact .inl hj
def S.bk (l:List Bool):Int:=if false∈l then (l.idxOf false:Int) else -1
theorem Ev {l:List Bool}:(0:Int)<=S.bk l↔false∈l:=by
 unfold S.bk
 split
 ·rename_i h;simp[h]
 ·rename_i h;simp[h]
theorem CJ {d k:Nat}{g:G}{P:Nat->Prop}{v:AV}{l:List Bool}(hd:0<d)(hv:SlR P k g.h l v):ay C0 d N.a7 [v,.bool false] g=.val (.int .i64 (S.bk l)):=by
 obtain ⟨v',e,r1⟩:=dF hv d;have vl:∀g,d8 .slice v' g=.val (.int .i64 (l.length:Int)):=λg=>(r1 .nil).len g;have ri:=λh=>(r1 h).bools;rw[j6];refine o4 lO (xs:=[v',.bool false]) (by simp only[aJ,e];rfl) (by simp[dm]) hd ?_;simp only[sz,simprocAttr,dm,vl,eL];refine bN (m:=l.length) hv.1 (λj t df g=>df=[]/\St t [(0,v'),(1,.bool false)]/\false ∉ l.take j) ⟨rfl,by simp[St,sx],by simp⟩ (by simp[sx]) (by simp[sx]) (by decide)
  (by rintro j t df g v s (rfl | rfl | rfl)<;>simp[sx,St]) ?_ ?_
 ·rintro j t df g hj ⟨rfl,⟨h0,h1,-⟩,hno⟩ h8 h7;obtain ⟨y,hy,htk,hm⟩:=aq hj;have z1:j<(l.map cb).length:=by simpa using hj
  have z2:(l.map cb)[j]?=some (cb y):=by rw[List.getElem?_map,hy];rfl
  cases y with
  | false =>
   have hl:l=l.take j++false::l.drop (j+1):=by
    have:l.drop j=false::l.drop (j+1):=by rw[List.drop_eq_getElem_cons hj];congr 1;rw[List.getElem?_eq_getElem hj] at hy;injection hy
    rw[<-this,List.take_append_drop]
   have hf:S.bk l=(j:Int):=by
    unfold S.bk;rw[if_pos hm];have:l.idxOf false=j:=by
     conv=>lhs;rw[hl]
     rw[List.idxOf_append,if_neg hno,List.idxOf_cons_self,List.length_take];omega
    rw[this]
   simp only[sz,simprocAttr,h0,h1,h8,ri,z1,z2,cb,Er,hf]
  | true =>
   simp only[sz,simprocAttr,h0,h1,h8,ri,z1,z2,cb,Er];simp[St,sx,h0,h1,h7,h8,htk,hno]
 ·rintro t df g ⟨rfl,-,hno⟩;rw[List.take_length] at hno;simp only[sz,simprocAttr,eM,S.bk,hno]
theorem qv {d k:Nat}{g:G}{P:Nat->Prop}{v:AV}{l:List Bool}(hd:0<d)(hv:SlR P k g.h l v):ay C0 d N.aI [v,.bool false] g=.val (.bool (decide (false∈l))):=by obtain ⟨v',e,r1⟩:=dF hv d;have ki:=λg=>CJ (d:=d+1) (g:=g) (Nat.succ_pos d) (r1 g.h);have hd2:decide ((0:Int)<=S.bk l)=decide (false∈l):=decide_eq_decide.2 Ev;rw[iJ];refine e6 jx (xs:=[v',.bool false]) (by simp only[aJ,e];rfl) (by simp[cE]) hd ?_;simp only[sz,simprocAttr,cE,ki,<-hd2]
theorem Do {d:Nat}{g:G}{v:AV}{n:Net}(hd:0<d)(hm:Agg n NoP 0 g.h v):ay C0 d N.aO [v] g=.val (.int .i64 (if S.au n then 0 else 50)):=by
 obtain ⟨b,rows,rfl,e1,hm',-⟩:=gy d hm;rw[tL];refine o4 xl (xs:=[.agg [.int .i64 n.grain,b]]) (by simp only[aJ,e1]) (by simp[nW]) hd ?_;simp only[sz,simprocAttr,nW];obtain ⟨g0,hg0⟩:∃g0,g0=G.empty.new (.cells 2 [[.int .i64 n.grain,b]] 0 false false):=⟨_,rfl⟩;rw[<-hg0];have f0:g0.h.get 0=.cells 2 [[.int .i64 n.grain,b]] 0 false false:=by rw[hg0];simp[sx]
 have n0:g0.nx=1:=by rw[hg0];simp[sx]
 clear hg0;have ld:bm (.cells 2 [[.int .i64 n.grain,b]] 0 false false) 0 0 true 2 0=.val (.agg [.int .i64 n.grain,b]):=rfl;simp only[sz,simprocAttr,pE,f0,ld];refine cF (Cd (Nat.succ_pos d) (n:=n) (hm' _)) λz hz=>?_;rcases zz hz with ⟨hn,cs,rfl,hcs⟩ | ⟨hn,b',cv,sv,oz,o,rfl,hb,hcv,hsv,hoz⟩
 ·obtain ⟨a1,a2,a3,a4,a5,rfl⟩:∃a1 a2 a3 a4 a5,cs=[a1,a2,a3,a4,a5]:=by
   match cs,hcs with
   | [a1,a2,a3,a4,a5],_=>exact ⟨a1,a2,a3,a4,a5,rfl⟩
  simp only[sz,simprocAttr,n0,hn]
 ·have st:∀g:G,jm (.cells 5 [[.int .i64 0,.nils,.nils,.nils,.nils]] 0 false false) g 1 0 0 5 0 (.agg [.int .i64 n.grain,b',cv,sv,oz])=.upd .undef (g.put 1 (.cells 5 [[.int .i64 n.grain,b',cv,sv,oz]] 0 false false)):=λg=>by
   have h1:=hb.2;have h2:=hcv.2;have h3:=hsv.2;have h4:=hoz.2;unfold SlV at h1 h2 h3 h4
   split at h1<;>split at h2<;>split at h3<;>split at h4<;>first | rfl | exact h1.elim | exact h2.elim | exact h3.elim | exact h4.elim
  simp only[sz,simprocAttr,n0,st,hn]
def S.aB (l:List Sp)(n j:Nat):List Bool:=(List.range n).map λv:Nat=>S.aK l j (v:Int)
def S.aw (l:List Sp)(j:Nat):List Bool:=(List.range l.length).map λe:Nat=>S.ax l j (e:Int)
theorem zT (l:List Sp)(j:Nat)(e:Int):S.ax l (j+1) e=(S.ax l j e || (decide ((S.sp l j).1 = -1)&&(decide ((S.sp l j).2.1=e) || decide ((S.sp l j).2.2=e)))):=by simp[S.ax,List.range_succ,List.any_append]
theorem y5 (l:List Sp)(j:Nat)(v:Int):S.aK l (j+1) v=(S.aK l j v || decide ((S.sp l j).1=v)):=by simp[S.aK,List.range_succ,List.any_append]
theorem o_ (l:List Sp)(n j:Nat):(S.aB l n j).length=n:=by simp[S.aB]
theorem jj (l:List Sp)(j:Nat):(S.aw l j).length=l.length:=by simp[S.aw]
theorem xD {l:List Sp}{n j v:Nat}(h:v<n):(S.aB l n j)[v]?=some (S.aK l j (v:Int)):=by simp[S.aB,h]
theorem tx {l:List Sp}{j e:Nat}(h:e<l.length):(S.aw l j)[e]?=some (S.ax l j (e:Int)):=by simp[S.aw,h]
theorem Gf {l:List Sp}{j:Nat}(h:¬(S.sp l j).1 = -1):S.aw l (j+1)=S.aw l j:=by refine List.map_congr_left λe _=>?_;rw[zT];simp[h]
theorem Fe {l:List Sp}{n j:Nat}(h:(S.sp l j).1 = -1):S.aB l n (j+1)=S.aB l n j:=by
 refine List.map_congr_left λe _=>?_;rw[y5,h];have:¬(-1:Int)=(e:Int):=by omega
 simp[this]
theorem Ff {l:List Sp}{n j v:Nat}(hv:v<n)(h:(S.sp l j).1=(v:Int)):S.aB l n (j+1)=(S.aB l n j).set v true:=by
 apply List.ext_getElem?;intro i;rw[List.getElem?_set]
 by_cases c:i<n
 ·rw[xD c,xD c,y5,h,o_]
  by_cases e:v=i
  ·subst e;simp[c]
  ·have:¬(v:Int)=(i:Int):=by omega
   simp[e,this]
 ·rw[List.getElem?_eq_none (by rw[o_];omega),List.getElem?_eq_none (by rw[o_];omega)];have:¬v=i:=by omega
  simp[this]
theorem Ge {l:List Sp}{j b c:Nat}(hb:b<l.length)(hc:c<l.length)(h:(S.sp l j).1 = -1)(h1:(S.sp l j).2.1=(b:Int))(h2:(S.sp l j).2.2=(c:Int)):S.aw l (j+1)=((S.aw l j).set b true).set c true:=by
 apply List.ext_getElem?;intro i;rw[List.getElem?_set,List.getElem?_set,List.length_set,jj]
 by_cases e:i<l.length
 ·rw[tx e,tx e,zT,h,h1,h2]
  by_cases e1:c=i
  ·subst e1;simp[e]
  ·by_cases e2:b=i
   ·subst e2;simp[e,e1]
   ·have n1:¬(b:Int)=(i:Int):=by omega
    have n2:¬(c:Int)=(i:Int):=by omega
    simp[e1,e2,n1,n2]
 ·rw[List.getElem?_eq_none (by rw[jj];omega),List.getElem?_eq_none (by rw[jj];omega)];have n1:¬c=i:=by omega
  have n2:¬b=i:=by omega
  simp[n1,n2]
theorem Dh {l:List Sp}{n j:Nat}:false ∉ S.aB l n j↔((List.range n).all λv:Nat=>S.aK l j (v:Int))=true:=by simp[S.aB]
theorem DT {l:List Sp}{m:Nat}(hm:m<=l.length):false ∉ (S.aw l l.length).take m↔((List.range m).all λe:Nat=>S.ax l l.length (e:Int))=true:=by rw[S.aw,<-List.map_take,List.take_range,Nat.min_eq_left hm];simp
theorem AW (l:List Bool)(i:Nat):(l.map cb).set i (cb true)=(l.set i true).map cb:=by rw[List.map_set]
def S.aO (n:Net)(l:List Sp):Int:=if S.au n then (if S.ck l n.nodes.length then 0 else 130) else 50
theorem Bl (n:Int)(h:-1000<=n/\n<=1000):IntKind.wrap .i64 (IntKind.wrap .i64 (2*n) - 1)=2*n - 1:=by rw[aB (x:=2*n) (by omega) (by omega),aB (by omega) (by omega)]
set_option maxRecDepth 20000 in
theorem CO {d k:Nat}{g:G}{P:Nat->Prop}{v w:AV}{n:Net}{l:List Sp}(hd:0<d)(hm:Agg n NoP 0 g.h v)(hl:SlR P k g.h l w):ay C0 d N.ap [v,w] g=.val (.int .i64 (S.aO n l)):=by
 obtain ⟨b,rows,rfl,e1,hm',hN,-⟩:=gy d hm;obtain ⟨w',e2,hw'⟩:=dF hl d;have wl:∀g,d8 .slice w' g=.val (.int .i64 (l.length:Int)):=λg=>(hw' .nil).len g;have ws:=λh=>(hw' h).sps;have hlen:=hl.1;rw[nM];refine o4 pV (xs:=[.agg [.int .i64 n.grain,b],w']) (by simp only[aJ,e1,e2]) (by simp[gg]) hd ?_;simp only[sz,simprocAttr,gg];obtain ⟨g0,hg0⟩:∃g0,g0=G.empty.new (.cells 2 [[.int .i64 n.grain,b]] 0 false false):=⟨_,rfl⟩;rw[<-hg0];have f0:g0.h.get 0=.cells 2 [[.int .i64 n.grain,b]] 0 false false:=by rw[hg0];simp[sx]
 have n0:g0.nx=1:=by rw[hg0];simp[sx]
 clear hg0;have ld:bm (.cells 2 [[.int .i64 n.grain,b]] 0 false false) 0 0 true 2 0=.val (.agg [.int .i64 n.grain,b]):=rfl;have nc:=Do (d:=d+1) (g:=g0) (Nat.succ_pos d) (n:=n) (hm' _);have nl:=λg=>hN.len g;simp only[i_]
 by_cases c0:S.au n=true
 rotate_left
 ·have hs:S.aO n l=50:=by rw[S.aO,if_neg c0]
  rw[if_neg c0] at nc;simp only[sz,simprocAttr,f0,ld,nc,hs]
 rw[if_pos c0] at nc;have hr:=ed.1 c0;have hl1:=hr.l1;have hl2:=hr.l2;have w2:=Bl (n.nodes.length:Int) (by omega);have hs:S.aO n l=if S.ck l n.nodes.length then 0 else 130:=by rw[S.aO,if_pos c0]
 by_cases c1:(l.length:Int)=2*(n.nodes.length:Int) - 1
 rotate_left
 ·have hs:S.aO n l=130:=by rw[hs,if_neg];simp[S.ck,c1]
  simp only[sz,simprocAttr,f0,ld,nc,nl,wl,w2,c1,hs]
 have c1':decide ((l.length:Int)=2*(n.nodes.length:Int) - 1)=true:=decide_eq_true c1;have bad:∀i,i<l.length->S.aU l n.nodes.length i=false->S.aO n l=130:=λi hi h=>by rw[hs,if_neg];intro hc;simp only[S.ck,Bool.and_eq_true,List.all_eq_true,List.mem_range] at hc;have:=hc.1.1.2 i hi;rw[h] at this;cases this
 refine bS (P:=λt' df g'=>df=[]/\g'=g0/\St t' [(1,w'),(2,.hptr 0 0 0 0)]) ?_ ?_
 ·simp only[sz,simprocAttr,f0,ld,nc];simp[St,sx]
 rintro t df g1 ⟨rfl,rfl,h1,h2,-⟩;refine bS (P:=λt' df g'=>df=[]/\g'=g1/\St t' [(1,w'),(6,.int .i64 (n.nodes.length:Int))]) ?_ ?_
 ·simp only[sz,simprocAttr,h1,h2,f0,nl];simp[St,sx,h1]
 rintro t df g2 ⟨rfl,rfl,h1,h6,-⟩;refine bS (P:=λt' df g'=>df=[]/\g'=g2/\St t' [(1,w'),(6,.int .i64 (n.nodes.length:Int))]) ?_ ?_
 ·simp only[sz,simprocAttr,h1,h6,wl,w2,c1];simp[St,sx,h1,h6]
 rintro t df g3 ⟨rfl,rfl,h1,h6,-⟩;refine bS (P:=λt' df g'=>df=[]/\∃lv us,St t' [(1,w'),(6,.int .i64 (n.nodes.length:Int)),(7,lv),(8,us)]/\Own g' 0 lv 1 ((List.replicate n.nodes.length false).map cb)/\Own g' 0 us 1 ((List.replicate l.length false).map cb)/\∃iL iU,vid lv=some iL/\vid us=some iU/\iL≠iU) ?_ ?_
 ·simp only[sz,simprocAttr,sf,h6];refine jQ (b:=0) (bytes:=1) (n:=n.nodes.length) (by unfold aP;omega) (by unfold aP;omega) (Nat.zero_le _) λcv g4 hcv n2 fr2 v2 lg2=>?_;simp only[sy] at n2 fr2 v2 lg2;simp only[sz,simprocAttr,sf,h1,h6,wl,lg2];refine jQ (b:=0) (bytes:=1) (n:=l.length) (by unfold aP;omega) (by unfold aP;omega) (Nat.zero_le _) λsv g5 hsv n3 fr3 v3 lg3=>?_;simp only[sy] at n3 fr3 v3 lg3;simp only[sz,simprocAttr,sf,lg3,hcv.cell.1,hcv.cell.2,hsv.cell.1,hsv.cell.2];refine ⟨?_,cv,sv,?_,?_,?_,_,_,v2,v3,by omega⟩
  ·simp only[List.reverse_cons,List.reverse_nil,List.nil_append,List.cons_append,G.new_lg,G.put_lg,setLog_lg];refine aC [false,true,false,false,true,false,false] [(1,2),(1,3),(0,4),(1,4),(4,5)] (by simp[All2,af,au]) (by decide) ?_;rintro p hp x y hx hy;simp only[List.mem_cons,List.not_mem_nil,or_false] at hp;rcases hp with rfl | rfl | rfl | rfl | rfl<;>(simp at hx hy;subst hx;subst hy;refine bH rfl rfl rfl rfl ?_ ?_ ?_<;>simp[af,au,ae]<;>omega)
  ·simp[St,sx,h1,h6]
  ·have:Own g4 0 cv 1 ((List.replicate n.nodes.length false).map cb):=by simpa [cb] using hcv
   exact this.fr (by first | (simp;done) | (simp;omega)) λi hi=>by have:=eH v2 hi;have:=fr3 i (by omega);simpa using this
  ·have:Own g5 0 sv 1 ((List.replicate l.length false).map cb):=by simpa [cb] using hsv
   exact this.fr (by first | (simp;done) | (simp;omega)) λi hi=>by simp
 rintro t df g ⟨rfl,lv,us,⟨h1,h6,h7,h8,-⟩,oL,oU,iL,iU,vL,vU,hne⟩;have e3:List.replicate n.nodes.length false=S.aB l n.nodes.length 0:=(List.eq_replicate_iff.2 ⟨o_ _ _ _,λb hb=>by simp[S.aB,S.aK] at hb;exact hb.2⟩).symm;have e4:List.replicate l.length false=S.aw l 0:=(List.eq_replicate_iff.2 ⟨jj _ _,λb hb=>by simp[S.aw,S.ax] at hb;exact hb.2⟩).symm;rw[e3] at oL;rw[e4] at oU;clear e3 e4 f0 n0 nc;simp only[sz,simprocAttr,h1,wl,ik];refine bN (m:=l.length) hlen (λj t df g=>df=[]/\St t [(1,w'),(30,w'),(6,.int .i64 (n.nodes.length:Int)),(7,lv),(8,us)]/\Own g 0 lv 1 ((S.aB l n.nodes.length j).map cb)/\Own g 0 us 1 ((S.aw l j).map cb)/\∀i,i<j->S.aU l n.nodes.length i=true)
  ⟨rfl,by simp[St,sx,h1,h6,h7,h8],oL,oU,λi hi=>by omega⟩ (by simp[sx]) (by simp[sx]) (by decide) (by rintro j t df g v s (rfl | rfl | rfl)<;>simp[sx,St]) ?_ ?_
 ·clear h1 h6 h7 h8 oL oU;rintro j t df g hj ⟨rfl,⟨h1,h30,h6,h7,h8,-⟩,oL,oU,hok⟩ h32 h31;obtain ⟨x,hx,-,-⟩:=aq hj;have hsp:S.sp l j=x:=by rw[S.sp,hx];rfl
  have u1:j<(l.map cs3).length:=by simpa using hj
  have u2:(l.map cs3)[j]?=some (cs3 x):=by rw[List.getElem?_map,hx];rfl
  obtain ⟨a,b,c⟩:=x;have u3:cs3 (a,b,c)=[.int .i64 a,.int .i64 b,.int .i64 c]:=rfl;rw[u3] at u2;have hel:=λh=>bad j hj h;unfold S.aU S.aI S.an at hel;rw[hsp] at hel;dsimp only at hel
  by_cases ca:a = -1
  ·subst ca;rw[if_pos rfl] at hel
   by_cases c1:b<0
   ·have:=hel (by have:¬0<=b:=by omega
                  simp[this])
    simp only[sz,simprocAttr,h30,h32,ws,u1,u2,c1,this]
   by_cases c2:(j:Int)<=b
   ·have:=hel (by have:¬b<(j:Int):=by omega
                  simp[this])
    simp only[sz,simprocAttr,h30,h32,ws,u1,u2,c1,c2,this]
   by_cases c3:c<0
   ·have:=hel (by have:¬0<=c:=by omega
                  simp[this])
    simp only[sz,simprocAttr,h30,h32,ws,u1,u2,c1,c2,c3,this]
   by_cases c4:(j:Int)<=c
   ·have:=hel (by have:¬c<(j:Int):=by omega
                  simp[this])
    simp only[sz,simprocAttr,h30,h32,ws,u1,u2,c1,c2,c3,c4,this]
   by_cases c5:b=c
   ·have:=hel (by simp[c5]);simp only[sz,simprocAttr,h30,h32,ws,u1,u2,c1,c2,c3,c4,c5,this]
   obtain ⟨B,rfl⟩:=Int.eq_ofNat_of_zero_le (show 0<=b by omega);obtain ⟨C,rfl⟩:=Int.eq_ofNat_of_zero_le (show 0<=c by omega);have hB:B<l.length:=by omega
   have hC:C<l.length:=by omega
   have r1:=λ(g':G) (f:∀i,i<g.nx->g'.h.get i=g.h.get i) (hn:g.nx<=g'.nx)=>(oU.fr hn λi hi=>f i (oU.lt hi).2).rows;have z1:B<((S.aw l j).map cb).length:=by simpa [jj] using hB
   have z2:((S.aw l j).map cb)[B]?=some (cb (S.ax l j (B:Int))):=by rw[List.getElem?_map,tx hB];rfl
   have z3:C<((S.aw l j).map cb).length:=by simpa [jj] using hC
   have z4:((S.aw l j).map cb)[C]?=some (cb (S.ax l j (C:Int))):=by rw[List.getElem?_map,tx hC];rfl
   have hUl:=λi (hi:vid us=some i)=>(oU.lt hi).2;have hUf:∀g':G,g.nx<=g'.nx->(∀i,i<g.nx->g'.h.get i=g.h.get i)->ak g'.h 1 us=some ((S.aw l j).map cb):=λg' hn f=>(oU.fr hn λi hi=>f i (hUl i hi)).rows;simp only[sz,simprocAttr,h30,h32,ws,u1,u2,c1,c2,c3,c4,c5];obtain ⟨g',hg'⟩:∃g',g'=((g.new (AObj.cells 3 [[AV.int IntKind.i64 0,AV.int IntKind.i64 0,AV.int IntKind.i64 0]] 0 false false)).put g.nx (AObj.cells 3 [[AV.int IntKind.i64 (-1),AV.int IntKind.i64 (B:Int),AV.int IntKind.i64 (C:Int)]] 0 false false)):=⟨_,rfl⟩;rw[<-hg'];have kq:g'.h.get g.nx=.cells 3 [[.int .i64 (-1),.int .i64 (B:Int),.int .i64 (C:Int)]] 0 false false:=by rw[hg'];simp[H.get_put]
   have kn:g'.nx=g.nx+1:=by rw[hg'];simp
   have kf:∀i,i<g.nx->g'.h.get i=g.h.get i:=λi hi=>by rw[hg'];simp[H.get_put,show ¬i=g.nx by omega]
   have oU':Own g' 0 us 1 ((S.aw l j).map cb):=oU.fr (by omega) λi hi=>kf i (oU.lt hi).2;have oL':Own g' 0 lv 1 ((S.aB l n.nodes.length j).map cb):=oL.fr (by omega) λi hi=>kf i (oL.lt hi).2;have hq:¬vid us=some g.nx:=λh=>by have:=(oU.lt h).2;omega
   have hq2:¬vid lv=some g.nx:=λh=>by have:=(oL.lt h).2;omega
   clear hg' kf oU oL;cases cB:S.ax l j (B:Int) with
   | true =>
    have:=hel (by simp[cB]);rw[cB] at z2;simp only[sz,simprocAttr,h8,oU'.rows,z1,z2,cb,this]
   | false =>
    cases cC:S.ax l j (C:Int) with
    | true =>
     have:=hel (by simp[cC]);rw[cB] at z2;rw[cC] at z4;simp only[sz,simprocAttr,h8,oU'.rows,z1,z2,z3,z4,cb,kq,this]
    | false =>
     rw[cB] at z2;rw[cC] at z4;have hok':∀i,i<j+1->S.aU l n.nodes.length i=true:=λi hi=>by
      by_cases e:i=j
      ·subst e;rw[S.aU,S.aI,hsp];have d1:(B:Int)<(i:Int):=by omega
       have d2:(C:Int)<(i:Int):=by omega
       simp[cB,cC,d1,d2,c5]
      ·exact hok i (by omega)
     have hu2:S.aw l (j+1)=((S.aw l j).set B true).set C true:=Ge hB hC (by rw[hsp]) (by rw[hsp]) (by rw[hsp]);have hl2:S.aB l n.nodes.length (j+1)=S.aB l n.nodes.length j:=Fe (by rw[hsp]);simp only[sz,simprocAttr,sf,h8,oU'.rows,z1,z2,z3,z4,cb,kq];refine mQ (v:=us) (sz:=1) (n:=1) (i:=B) (off:=0) (x:=.bool true) (row:=cb false) (row':=cb true) (oU'.fr (by first | (simp;done) | (simp;omega)) λi _=>by simp) z2 rfl rfl rfl λg2 o2 n2 f2 p2=>?_;have k2:g2.h.get g.nx=.cells 3 [[.int .i64 (-1),.int .i64 (B:Int),.int .i64 (C:Int)]] 0 false false:=by rw[f2 _ hq];simpa using kq
     simp only[sy] at n2;have z5:C<(((S.aw l j).map cb).set B (cb true)).length:=by simpa using z3
     have z6:(((S.aw l j).map cb).set B (cb true))[C]?=some (cb false):=by rw[List.getElem?_set_ne (by omega)];exact z4
     simp only[sz,simprocAttr,sf,h8,k2,o2.rows,z5];refine mQ (v:=us) (sz:=1) (n:=1) (i:=C) (off:=0) (x:=.bool true) (row:=cb false) (row':=cb true) (o2.fr (by first | (simp;done) | (simp;omega)) λi _=>by simp) z6 rfl rfl rfl λg3 o3 n3 f3 p3=>?_;simp only[sy] at n3;simp only[sz,simprocAttr,sf];refine ⟨?_,⟨?_,?_,?_,hok'⟩,?_⟩
     ·simp only[List.reverse_cons,List.reverse_nil,List.nil_append,List.cons_append,G.new_lg,G.put_lg,setLog_lg];refine aC [false,false,false,false,false,false,false,true,false,true] [(3,7),(4,7),(5,7)] (by simp[All2,af,au]) (by decide) ?_;rintro p hp x y hx hy;simp only[List.mem_cons,List.not_mem_nil,or_false] at hp;have hw:∀i∈g2.lg,¬i=g.nx:=λi hi e=>by
       rcases p2 i hi with h | h
       ·simp at h
       ·exact hq (by rw[h,e])
      rcases hp with rfl | rfl | rfl<;>(simp at hx hy;subst hx;subst hy;refine bH rfl rfl rfl rfl ?_ ?_ ?_<;>simp[af,au,ae]<;>exact hw)
     ·simp[St,sx,h1,h30,h6,h7,h8]
     ·rw[hl2];refine oL'.fr (by first | (simp;done) | (simp;omega)) λi hi=>?_;have d1:¬vid us=some i:=λe=>hne (by rw[eH vL hi,eH vU e]);have e1:=f3 i d1;have e2:=f2 i d1;simp at e1 e2;simp[e1,e2]
     ·rw[hu2,<-AW,<-AW];exact o3.fr (by first | (simp;done) | (simp;omega)) λi _=>by simp
     ·simp[sx,h31,h32]
  ·rw[if_neg ca] at hel
   by_cases c1:a<0
   ·have:=hel (by have:¬0<=a:=by omega
                  simp[this])
    simp only[sz,simprocAttr,h30,h32,ws,u1,u2,ca,c1,this]
   by_cases c2:(n.nodes.length:Int)<=a
   ·have:=hel (by have:¬a<(n.nodes.length:Int):=by omega
                  simp[this])
    simp only[sz,simprocAttr,h30,h32,h6,ws,u1,u2,ca,c1,c2,this]
   by_cases c3:b = -1
   rotate_left
   ·have:=hel (by simp[c3]);simp only[sz,simprocAttr,h30,h32,h6,ws,u1,u2,ca,c1,c2,c3,this]
   by_cases c4:c = -1
   rotate_left
   ·have:=hel (by simp[c4]);simp only[sz,simprocAttr,h30,h32,h6,ws,u1,u2,ca,c1,c2,c3,c4,this]
   obtain ⟨A,rfl⟩:=Int.eq_ofNat_of_zero_le (show 0<=a by omega);have hA:A<n.nodes.length:=by omega
   subst c3 c4;have z1:A<((S.aB l n.nodes.length j).map cb).length:=by simpa [o_] using hA
   have z2:((S.aB l n.nodes.length j).map cb)[A]?=some (cb (S.aK l j (A:Int))):=by rw[List.getElem?_map,xD hA];rfl
   simp only[sz,simprocAttr,h30,h32,h6,ws,u1,u2,ca,c1,c2];obtain ⟨g',hg'⟩:∃g',g'=((g.new (AObj.cells 3 [[AV.int IntKind.i64 0,AV.int IntKind.i64 0,AV.int IntKind.i64 0]] 0 false false)).put g.nx (AObj.cells 3 [[AV.int IntKind.i64 (A:Int),AV.int IntKind.i64 (-1),AV.int IntKind.i64 (-1)]] 0 false false)):=⟨_,rfl⟩;rw[<-hg'];have kq:g'.h.get g.nx=.cells 3 [[.int .i64 (A:Int),.int .i64 (-1),.int .i64 (-1)]] 0 false false:=by rw[hg'];simp[H.get_put]
   have kn:g'.nx=g.nx+1:=by rw[hg'];simp
   have kf:∀i,i<g.nx->g'.h.get i=g.h.get i:=λi hi=>by rw[hg'];simp[H.get_put,show ¬i=g.nx by omega]
   have oU':Own g' 0 us 1 ((S.aw l j).map cb):=oU.fr (by omega) λi hi=>kf i (oU.lt hi).2;have oL':Own g' 0 lv 1 ((S.aB l n.nodes.length j).map cb):=oL.fr (by omega) λi hi=>kf i (oL.lt hi).2;clear hg' kf oU oL;cases cA:S.aK l j (A:Int) with
   | true =>
    have:=hel (by simp[cA]);rw[cA] at z2;simp only[sz,simprocAttr,h7,oL'.rows,z1,z2,cb,kq,this]
   | false =>
    rw[cA] at z2;have hok':∀i,i<j+1->S.aU l n.nodes.length i=true:=λi hi=>by
     by_cases e:i=j
     ·subst e;rw[S.aU,S.an,hsp];simp[ca,cA,hA]
     ·exact hok i (by omega)
    have hu2:S.aw l (j+1)=S.aw l j:=Gf (by rw[hsp];exact ca);have hl2:S.aB l n.nodes.length (j+1)=(S.aB l n.nodes.length j).set A true:=Ff hA (by rw[hsp]);simp only[sz,simprocAttr,h7,oL'.rows,z1,z2,cb,kq];refine bM (v:=lv) (sz:=1) (n:=1) (i:=A) (off:=0) (x:=.bool true) (row:=cb false) (row':=cb true) oL' z2 rfl rfl rfl λg3 o3 n3 f3=>?_;simp only[sz,simprocAttr];refine ⟨⟨?_,?_,?_,hok'⟩,?_⟩
    ·simp[St,sx,h1,h30,h6,h7,h8]
    ·rw[hl2,<-AW];exact o3
    ·rw[hu2];exact oU'.fr (by omega) λi hi=>f3 i λe=>hne (by rw[eH vL e,eH vU hi])
    ·simp[sx,h31,h32]
 ·clear h1 h6 h7 h8 oL oU;rintro t df g ⟨rfl,⟨h1,h30,h6,h7,h8,-⟩,oL,oU,hok⟩;have sL:=oL.bools (by rw[o_];omega);have sU:=oU.bools (by rw[jj];omega);have q1:=qv (d:=d+1) (g:=g) (Nat.succ_pos d) sL;obtain ⟨y,y1,-,y2⟩:=tu (α:=Bool) oU (n:=l.length - 1) (by intro e;have h0:((S.aw l l.length).map cb).length=0:=(by rw[e];rfl);rw[List.length_map,jj] at h0;omega) (by simp[jj]);have sU2:=y2 _ _ _ g.h (λi _=>rfl) sU;have q2:=qv (d:=d+1) (g:=g) (Nat.succ_pos d) sU2;have e5:IntKind.wrap .i64 ((l.length:Int) - 1)=((l.length - 1:Nat):Int):=by rw[aB (by omega) (by omega)];omega
  have y1:mP 1 us none (some (.int .i64 ((l.length - 1:Nat):Int))) g=.val y:=y1;have hck:S.ck l n.nodes.length=(decide (false ∉ S.aB l n.nodes.length l.length)&&decide (false ∉ (S.aw l l.length).take (l.length - 1))):=by
   have a1:(List.range l.length).all (S.aU l n.nodes.length)=true:=by rw[List.all_eq_true];exact λi hi=>hok i (List.mem_range.1 hi)
   rw[S.ck,c1',a1];have b1:decide (false ∉ S.aB l n.nodes.length l.length)=(List.range n.nodes.length).all λv:Nat=>S.aK l l.length (v:Int):=Bool.eq_iff_iff.2 (by rw[decide_eq_true_eq];exact Dh);have b2:decide (false ∉ (S.aw l l.length).take (l.length - 1))=(List.range (l.length - 1)).all λe:Nat=>S.ax l l.length (e:Int):=Bool.eq_iff_iff.2 (by rw[decide_eq_true_eq];exact DT (Nat.sub_le _ _));rw[b1,b2,Bool.true_and,Bool.true_and]
  rw[hck] at hs
  by_cases d1:false∈S.aB l n.nodes.length l.length
  ·have hs:S.aO n l=130:=by rw[hs];simp[d1]
   simp only[sz,simprocAttr,cK,h7,h30,q1,d1,hs]
  ·by_cases d2:false∈(S.aw l l.length).take (l.length - 1)
   ·have hs:S.aO n l=130:=by rw[hs];simp[d1,d2]
    simp only[sz,simprocAttr,cK,h7,h8,h1,wl,e5,y1,q1,q2,List.head?_nil,List.head?_cons,d1,d2,hs]
   ·have hs:S.aO n l=0:=by rw[hs];simp[d1,d2]
    simp only[sz,simprocAttr,cK,h7,h8,h1,wl,e5,y1,q1,q2,List.head?_nil,List.head?_cons,d1,d2,hs]
theorem uH {l:List Sp}{n i:Nat}(hi:i<l.length)(h:S.aR l n i=false):S.rt l n=false:=by rw[Bool.eq_false_iff];intro h2;simp only[S.rt,Bool.and_eq_true,List.all_eq_true,List.mem_range] at h2;have:=h2.2 i hi;rw[h] at this;cases this
theorem Jl {d n i q k:Nat}{w:AV}{l:List Sp}{a b c:Int}{Q:QT}{t:T}{g:G}(hw:SlR NoP k .nil l w)(hl:l.length<=1000000)(hi:i<l.length)(hsp:S.sp l i=(a,b,c))
  (hq:g.h.get q=.cells 3 [[.int .i64 a,.int .i64 b,.int .i64 c]] 0 false false)
  (ht:St t [(0,w),(1,.int .i64 (n:Int)),(5,.int .i64 (i:Int)),(6,.hptr q 0 0 0),(7,.bool (S.an l n i)),(9,.int .i64 0),(10,.int .i64 0)])
  (bad:∀t,S.aR l n i=false->tat t 4=.bool false->Q .ret t [] g)
  (fin:∀t,St t [(0,w),(1,.int .i64 (n:Int)),(5,.int .i64 (i:Int)),(9,.int .i64 (S.am l (i:Int) l.length:Int))]->(!S.an l n i || (List.range l.length).all λj=>decide (j=i) || !decide ((S.sp l j).1=(S.sp l i).1))=true->Q (.exit 2) t [] g) :
  wpL (wp C0 d none gZ) Q t [] g:=by
 obtain ⟨h0,h1,h5,h6,h7,h9,h10,-⟩:=ht;have ws:=λh=>(hw.tree (h':=h) (Nat.le_refl k)).sps;have wl:=λg=>hw.len g;simp only[gZ,l9];refine aV l.length (by omega) (λj t df g'=>df=[]/\g'=g/\St t [(0,w),(1,.int .i64 (n:Int)),(5,.int .i64 (i:Int)),(6,.hptr q 0 0 0),(7,.bool (S.an l n i)),(9,.int .i64 (S.am l (i:Int) j:Int))]/\(S.an l n i=true->∀k,k<j->k≠i->(S.sp l k).1≠(S.sp l i).1))
  ⟨rfl,rfl,by simp[St,S.am,h0,h1,h5,h6,h7,h9],λ_ k hk=>by omega⟩ h10 (by decide) (by rintro j t df g v s (rfl | rfl | rfl)<;>simp[sx,St]) ?_ ?_ ?_
 ·clear h0 h1 h5 h6 h7 h9 h10;rintro j t df g' hj ⟨rfl,rfl,⟨h0,h1,h5,h6,h7,h9,-⟩,r⟩ h10;simp only[sz,simprocAttr,h0,h10,wl];exact ⟨by simp[St,sx,h0,h1,h5,h6,h7,h9],r⟩
 ·clear h0 h1 h5 h6 h7 h9 h10;rintro j t df g' hj ⟨rfl,rfl,⟨h0,h1,h5,h6,h7,h9,-⟩,hno⟩ h10;obtain ⟨⟨a',b',c'⟩,hx,-,-⟩:=aq hj;have hspj:S.sp l j=(a',b',c'):=by rw[S.sp,hx];rfl
  have u1:j<(l.map cs3).length:=by simpa using hj
  have u2:(l.map cs3)[j]?=some [.int .i64 a',.int .i64 b',.int .i64 c']:=by rw[List.getElem?_map,hx];rfl
  have hb1:S.am l (i:Int) j<=j:=by
   clear hno h9 hj hx hspj u1 u2 h10
   induction j with
   | zero=>exact Nat.le_refl _
   | succ j ih=>rw[S.am];split<;>omega
  have wB:IntKind.wrap .i64 ((S.am l (i:Int) j:Int)+1)=(S.am l (i:Int) j:Int)+1:=aB (by omega) (by omega);have ea:(S.sp l i).1=a:=by rw[hsp]
  have hry:jU w=true:=q9 (ws .nil) u1
  by_cases cbad:j≠i/\S.an l n i=true/\a'=a
  ·obtain ⟨e1,e2,e3⟩:=cbad;have hrf:S.aR l n i=false:=by
    rw[Bool.eq_false_iff];intro h;simp only[S.aR,e2,Bool.and_eq_true,Bool.or_eq_true,Bool.not_true,Bool.false_eq_true,false_or,List.all_eq_true,List.mem_range,decide_eq_true_eq,Bool.not_eq_true',decide_eq_false_iff_not] at h;rcases h.1.2 j hj with h2 | h2
    ·exact e1 h2
    ·exact h2 (by rw[hspj,ea];exact e3)
   rw[e2] at h7;subst e3;have d1:decide ((j:Int)=(i:Int))=false:=decide_eq_false (by omega);simp only[sz,simprocAttr,h0,h5,h6,h7,h10,d1,ws,u1,u2,hry,hq];refine bad _ hrf ?_;simp[sx]
  have hno':S.an l n i=true->∀k,k<j+1->k≠i->(S.sp l k).1≠(S.sp l i).1:=λh k hk hki=>by
   by_cases e:k=j
   ·subst e;rw[hspj,ea];exact λe3=>cbad ⟨hki,h,e3⟩
   ·exact hno h k (by omega) hki
  refine bS (P:=λt' df g''=>df=[]/\g''=g'/\St t' [(0,w),(1,.int .i64 (n:Int)),(5,.int .i64 (i:Int)),(6,.hptr q 0 0 0),(7,.bool (S.an l n i)),(9,.int .i64 (S.am l (i:Int) j:Int)),(10,.int .i64 (j:Int))]) ?_ ?_
  ·by_cases e1:j=i
   ·have d1:decide ((j:Int)=(i:Int))=true:=decide_eq_true (by omega);simp only[sz,simprocAttr,h5,h10,d1];simp[St,sx,h0,h1,h5,h6,h7,h9,h10]
   ·have d1:decide ((j:Int)=(i:Int))=false:=decide_eq_false (by omega);cases e2:S.an l n i with
    | false =>
     rw[e2] at h7;simp only[sz,simprocAttr,h5,h7,h10,d1];simp[St,sx,h0,h1,h5,h6,h7,h9,h10]
    | true =>
     rw[e2] at h7;have e3:¬a'=a:=λe3=>cbad ⟨e1,e2,e3⟩;simp only[sz,simprocAttr,h0,h5,h6,h7,h10,d1,ws,u1,u2,hry,hq,e3];simp[St,sx,h0,h1,h5,h6,h7,h9,h10]
  rintro t df g'' ⟨rfl,rfl,h0,h1,h5,h6,h7,h9,h10,-⟩;have hst:S.am l (i:Int) (j+1)=S.am l (i:Int) j+if a' = -1/\(b'=(i:Int)\/c'=(i:Int)) then 1 else 0:=by rw[S.am,hspj]
  have w9:IntKind.wrap .i64 ((S.am l (i:Int) j:Int)+1)=((S.am l (i:Int) j+1:Nat):Int):=by rw[wB];omega
  by_cases ca:a' = -1
  ·subst ca
   by_cases cb:b'=(i:Int)
   ·subst cb;rw[if_pos ⟨rfl,.inl rfl⟩] at hst;simp only[sz,simprocAttr,h0,h5,h9,h10,ws,u1,u2,hry,w9];exact ⟨by rw[hst];simp[St,sx,h0,h1,h5,h6,h7],hno'⟩
   ·by_cases cc:c'=(i:Int)
    ·subst cc;rw[if_pos ⟨rfl,.inr rfl⟩] at hst;simp only[sz,simprocAttr,h0,h5,h9,h10,ws,u1,u2,hry,cb,w9];exact ⟨by rw[hst];simp[St,sx,h0,h1,h5,h6,h7],hno'⟩
    ·rw[if_neg (λh=>h.2.elim cb cc)] at hst;simp only[sz,simprocAttr,h0,h5,h10,ws,u1,u2,hry,cb,cc];exact ⟨by rw[hst];simp[St,sx,h0,h1,h5,h6,h7,h9],hno'⟩
  ·rw[if_neg (λh=>ca h.1)] at hst;simp only[sz,simprocAttr,h0,h5,h10,ws,u1,u2,hry,ca];exact ⟨by rw[hst];simp[St,sx,h0,h1,h5,h6,h7,h9],hno'⟩
 ·rintro t df g' ⟨rfl,rfl,⟨h0,h1,h5,h6,h7,h9,-⟩,hno⟩;refine fin t (by simp[St,h0,h1,h5,h9]) ?_;cases hlf:S.an l n i with
  | false=>rfl
  | true =>
   simp only[Bool.not_true,Bool.false_or,List.all_eq_true,List.mem_range,Bool.or_eq_true,decide_eq_true_eq,Bool.not_eq_true',decide_eq_false_iff_not];intro k hk
   by_cases e:k=i
   ·exact .inl e
   ·exact .inr (hno hlf k hk e)
theorem Hr {l:List Sp}{n i:Nat}(h1:S.an l n i=true\/(S.sp l i).1 = -1/\S.aI l i=true)(h2:(!S.an l n i || (List.range l.length).all λj=>decide (j=i) || !decide ((S.sp l j).1=(S.sp l i).1))=true)(h3:S.am l (i:Int) l.length=if i+1<l.length then 1 else 0):S.aR l n i=true:=by
 rw[S.aR,h2,h3];simp;rcases h1 with h | h
 ·exact .inl h
 ·exact .inr h
theorem FW {l:List Sp}{n i:Nat}(h1:S.an l n i=false)(h2:(decide ((S.sp l i).1 = -1)&&S.aI l i)=false):S.aR l n i=false:=by rw[S.aR,h1,h2];rfl
theorem FX {l:List Sp}{n i:Nat}(h3:¬S.am l (i:Int) l.length=if i+1<l.length then 1 else 0):S.aR l n i=false:=by rw[S.aR,decide_eq_false h3,Bool.and_false]
set_option maxRecDepth 20000 in
theorem Jm {d n k:Nat}{g:G}{P:Nat->Prop}{v:AV}{l:List Sp}(hd:0<d)(hn:n<=1000)(hl:l.length<=1000000)(hv:SlR P k g.h l v):ay C0 d N.aZ [v,.int .i64 (n:Int)] g=.val (.bool (S.rt l n)):=by
 obtain ⟨w,e,hw'⟩:=dF hv d;rw[rI];refine e6 t7 (xs:=[w,.int .i64 (n:Int)]) (by simp only[aJ,e,gc 0]) (by simp[ia]) hd ?_;have wl:∀g,d8 .slice w g=.val (.int .i64 (l.length:Int)):=λg=>(hw' .nil).len g;have ws:=λh=>(hw' h).sps;have w2:IntKind.wrap .i64 (IntKind.wrap .i64 (2*(n:Int)) - 1)=2*(n:Int) - 1:=Bl _ (by omega)
 by_cases c0:(l.length:Int)=2*(n:Int) - 1
 rotate_left
 ·have hs:S.rt l n=false:=by simp[S.rt,c0]
  simp only[sz,simprocAttr,ia,wl,w2,c0,hs]
 simp only[sz,simprocAttr,ia,wl,w2,c0,l8,l_];refine aV l.length (by omega) (λj t df g=>df=[]/\St t [(0,w),(1,.int .i64 (n:Int))]/\∀i,i<j->S.aR l n i=true)
  ⟨rfl,by simp[St,sx],λi hi=>by omega⟩ (by simp[sx]) (by decide) (by rintro j t df g v s (rfl | rfl | rfl)<;>simp[sx,St]) ?_ ?_ ?_
 ·rintro j t df g hj ⟨rfl,⟨h0,h1,-⟩,r⟩ h5;simp only[sz,simprocAttr,h0,h5,wl];exact ⟨by simp[St,sx,h0,h1],r⟩
 ·rintro i t df g hi ⟨rfl,⟨h0,h1,-⟩,hok⟩ h5;obtain ⟨⟨a,b,c⟩,hx,-,-⟩:=aq hi;have hsp:S.sp l i=(a,b,c):=by rw[S.sp,hx];rfl
  have u1:i<(l.map cs3).length:=by simpa using hi
  have u2:(l.map cs3)[i]?=some [.int .i64 a,.int .i64 b,.int .i64 c]:=by rw[List.getElem?_map,hx];rfl
  have elf:S.an l n i=(decide (0<=a)&&decide (a<(n:Int))&&decide (b = -1)&&decide (c = -1)):=by rw[S.an,hsp]
  have ejn:S.aI l i=(decide (0<=b)&&decide (b<(i:Int))&&decide (0<=c)&&decide (c<(i:Int))&&!decide (b=c)):=by rw[S.aI,hsp]
  refine bS (P:=λt' df g'=>df=[]/\St t' [(0,w),(1,.int .i64 (n:Int)),(5,.int .i64 (i:Int)),(6,.hptr g.nx 0 0 0)]/\g'.h.get g.nx=.cells 3 [[.int .i64 a,.int .i64 b,.int .i64 c]] 0 false false) ?_ ?_
  ·simp only[sz,simprocAttr,h0,h5,ws,u1,u2];simp[St,sx,h0,h1,h5]
  rintro t df g1 ⟨rfl,⟨h0,h1,h5,h6,-⟩,hq⟩;refine bS (P:=λt' df g'=>df=[]/\g'=g1/\St t' [(0,w),(1,.int .i64 (n:Int)),(5,.int .i64 (i:Int)),(6,.hptr g.nx 0 0 0),(7,.bool (S.an l n i))]) ?_ ?_
  ·by_cases c1:0<=a
   rotate_left
   ·have e1:S.an l n i=false:=by rw[elf];simp[c1]
    simp only[sz,simprocAttr,h6,hq,c1];simp[St,sx,h0,h1,h5,h6,e1]
   by_cases c2:a<(n:Int)
   rotate_left
   ·have e1:S.an l n i=false:=by rw[elf];simp[c2]
    simp only[sz,simprocAttr,h1,h6,hq,c1,c2];simp[St,sx,h0,h1,h5,h6,e1]
   by_cases c3:b = -1
   rotate_left
   ·have e1:S.an l n i=false:=by rw[elf];simp[c3]
    simp only[sz,simprocAttr,h1,h6,hq,c1,c2,c3];simp[St,sx,h0,h1,h5,h6,e1]
   by_cases c4:c = -1
   rotate_left
   ·have e1:S.an l n i=false:=by rw[elf];simp[c4]
    simp only[sz,simprocAttr,h1,h6,hq,c1,c2,c3,c4];simp[St,sx,h0,h1,h5,h6,e1]
   have e1:S.an l n i=true:=by rw[elf];simp[c1,c2,c3,c4]
   simp only[sz,simprocAttr,h1,h6,hq,c1,c2,c3,c4];simp[St,sx,h0,h1,h5,h6,e1]
  rintro t df g2 ⟨rfl,rfl,h0,h1,h5,h6,h7,-⟩;obtain ⟨jb,hjb⟩:∃jb,jb=(decide ((S.sp l i).1 = -1)&&S.aI l i):=⟨_,rfl⟩;refine bS (P:=λt' df g'=>df=[]/\g'=g2/\St t' [(0,w),(1,.int .i64 (n:Int)),(5,.int .i64 (i:Int)),(6,.hptr g.nx 0 0 0),(7,.bool (S.an l n i)),(8,.bool jb)]) ?_ ?_
  ·rw[hsp,ejn] at hjb
   by_cases c0:a = -1
   rotate_left
   ·have e1:jb=false:=by rw[hjb];simp[c0]
    simp only[sz,simprocAttr,h6,hq,c0];simp[St,sx,h0,h1,h5,h6,h7,e1]
   subst c0
   by_cases c1:0<=b
   rotate_left
   ·have e1:jb=false:=by rw[hjb];simp[c1]
    simp only[sz,simprocAttr,h5,h6,hq,c1];simp[St,sx,h0,h1,h5,h6,h7,e1]
   by_cases c2:b<(i:Int)
   rotate_left
   ·have e1:jb=false:=by rw[hjb];simp[c2]
    simp only[sz,simprocAttr,h5,h6,hq,c1,c2];simp[St,sx,h0,h1,h5,h6,h7,e1]
   by_cases c3:0<=c
   rotate_left
   ·have e1:jb=false:=by rw[hjb];simp[c3]
    simp only[sz,simprocAttr,h5,h6,hq,c1,c2,c3];simp[St,sx,h0,h1,h5,h6,h7,e1]
   by_cases c4:c<(i:Int)
   rotate_left
   ·have e1:jb=false:=by rw[hjb];simp[c4]
    simp only[sz,simprocAttr,h5,h6,hq,c1,c2,c3,c4];simp[St,sx,h0,h1,h5,h6,h7,e1]
   by_cases c5:b=c
   ·have e1:jb=false:=by rw[hjb];simp[c5]
    subst c5;simp only[sz,simprocAttr,h5,h6,hq,c1,c2,c3,c4];simp[St,sx,h0,h1,h5,h6,h7,e1]
   have e1:jb=true:=by rw[hjb];simp[c1,c2,c3,c4,c5]
   simp only[sz,simprocAttr,h5,h6,hq,c1,c2,c3,c4,c5];simp[St,sx,h0,h1,h5,h6,h7,e1]
  rintro t df g3 ⟨rfl,rfl,h0,h1,h5,h6,h7,h8,-⟩
  by_cases hor:S.an l n i=false/\jb=false
  ·have hf:=uH hi (FW hor.1 (by rw[<-hjb];exact hor.2));rw[hor.1] at h7;rw[hor.2] at h8;simp only[sz,simprocAttr,h7,h8,hf]
  have h1':S.an l n i=true\/(S.sp l i).1 = -1/\S.aI l i=true:=by
   cases e1:S.an l n i with
   | true=>exact .inl rfl
   | false =>
    cases e2:jb with
    | false=>exact absurd ⟨e1,e2⟩ hor
    | true =>
     rw[e2] at hjb;have:=hjb.symm;simp only[Bool.and_eq_true,decide_eq_true_eq] at this;exact .inr this
  refine bS (P:=λt' df g'=>df=[]/\g'=g3/\St t' [(0,w),(1,.int .i64 (n:Int)),(5,.int .i64 (i:Int)),(6,.hptr g.nx 0 0 0),(7,.bool (S.an l n i))]) ?_ ?_
  ·cases e1:S.an l n i with
   | true =>
    rw[e1] at h7;simp only[sz,simprocAttr,h7];simp[St,sx,h0,h1,h5,h6,h7]
   | false =>
    cases e2:jb with
    | false=>exact absurd ⟨e1,e2⟩ hor
    | true =>
     rw[e1] at h7;rw[e2] at h8;simp only[sz,simprocAttr,h7,h8];simp[St,sx,h0,h1,h5,h6,h7]
  rintro t df g4 ⟨rfl,rfl,h0,h1,h5,h6,h7,-⟩;simp only[sz,simprocAttr];refine Jl (n:=n) (q:=g.nx) (a:=a) (b:=b) (c:=c) (hw' .nil) hl hi hsp hq (by simp[St,sx,h0,h1,h5,h6,h7]) ?_ ?_
  ·intro t hf h4;have hf:=uH hi hf;simp only[sz,simprocAttr,h4,hf]
  ·intro t ht h2;obtain ⟨h0,h1,h5,h9,-⟩:=ht;have w1:IntKind.wrap .i64 ((l.length:Int) - 1)=(l.length:Int) - 1:=aB (by omega) (by omega);have good:S.am l (i:Int) l.length=(if i+1<l.length then 1 else 0)->∀k,k<i+1->S.aR l n k=true:=λh3 k hk=>by
    by_cases e:k=i
    ·subst e;exact Hr h1' h2 h3
    ·exact hok k (by omega)
   have nog:¬S.am l (i:Int) l.length=(if i+1<l.length then 1 else 0)->S.rt l n=false:=λh=>uH hi (FX h)
   by_cases c:i+1<l.length
   ·rw[if_pos c] at good nog;have d1:decide ((i:Int)<(l.length:Int) - 1)=true:=decide_eq_true (by omega);have d2:decide ((i:Int)=(l.length:Int) - 1)=false:=decide_eq_false (by omega)
    by_cases cB:S.am l (i:Int) l.length=1
    ·have d3:decide ((S.am l (i:Int) l.length:Int)=1)=true:=decide_eq_true (by omega);simp only[sz,simprocAttr,c7,h0,h5,h9,wl,w1,d1,d2,d3];exact ⟨by simp[St,sx,h0,h1],good cB⟩
    ·have d3:decide ((S.am l (i:Int) l.length:Int)=1)=false:=decide_eq_false (by omega);have:=nog cB;simp only[sz,simprocAttr,c7,h0,h5,h9,wl,w1,d1,d2,d3,this]
   ·rw[if_neg c] at good nog;have d1:decide ((i:Int)<(l.length:Int) - 1)=false:=decide_eq_false (by omega);have d2:decide ((i:Int)=(l.length:Int) - 1)=true:=decide_eq_true (by omega)
    by_cases cB:S.am l (i:Int) l.length=0
    ·have d3:decide ((S.am l (i:Int) l.length:Int)=0)=true:=decide_eq_true (by omega);simp only[sz,simprocAttr,c7,h0,h5,h9,wl,w1,d1,d2,d3];exact ⟨by simp[St,sx,h0,h1],good cB⟩
    ·have d3:decide ((S.am l (i:Int) l.length:Int)=0)=false:=decide_eq_false (by omega);have:=nog cB;simp only[sz,simprocAttr,c7,h0,h5,h9,wl,w1,d1,d2,d3,this]
 ·rintro t df g ⟨rfl,-,hok⟩;have:S.rt l n=true:=by rw[S.rt,decide_eq_true c0,Bool.true_and,List.all_eq_true];exact λi hi=>hok i (List.mem_range.1 hi)
  simp only[sz,simprocAttr,ma,this]
end
end Hx
end
