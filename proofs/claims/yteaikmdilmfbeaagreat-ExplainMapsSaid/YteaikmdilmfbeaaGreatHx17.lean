/- A part of the proof: an interpreter over abstract values, shown right against the model, and what the functions of the chapter compute on it. -/
import Derived.Test.YteaikmdilmfbeaaGreatHx16
set_option linter.unusedVariables false
set_option linter.unusedSimpArgs false
set_option linter.unnecessarySimpa false
section
namespace Hx
open Go
noncomputable section
theorem LS.upd {L:List Node}{J:Nat}{x x':Node}(hx:L[J]?=some x)(hl:x'.rows.length=x.rows.length){k:Ky}(h:LS (L.set J x') k):LS L k:=by
 rcases h with h | ⟨i,q,z,h,hz,hq⟩
 ·exact .inl h
 ·rw[List.getElem?_set] at hz
  by_cases e:J=i
  ·subst e;rw[if_pos rfl] at hz
   split at hz
   ·injection hz with hz;subst hz;exact .inr ⟨J,q,x,h,hx,by omega⟩
   ·cases hz
  ·rw[if_neg e] at hz;exact .inr ⟨i,q,z,h,hz,hq⟩
theorem BLs.upd {K J:Nat}{L:List Node}{V:Ky->AV}{E:Ky->En}{rows:List (List AV)}{x':Node}(hO:Oth K L J V E rows)(e0:E (0,0)=.sl 3 rows)(hrow:rows[J]?=some (ko V J x'.card))(hnd:NdOk K V E J x'):BLs K V E (L.set J x'):=by
 refine ⟨⟨rows,e0,by simp[hO.len],λi z hz=>?_⟩,λi z hz=>?_⟩
 ·rw[List.getElem?_set] at hz
  by_cases e:J=i
  ·subst e;rw[if_pos rfl] at hz
   split at hz
   ·injection hz with hz;subst hz;exact hrow
   ·cases hz
  ·rw[if_neg e] at hz;exact hO.ns i z (Ne.symm e) hz
 ·rw[List.getElem?_set] at hz
  by_cases e:J=i
  ·subst e;rw[if_pos rfl] at hz
   split at hz
   ·injection hz with hz;subst hz;exact hnd
   ·cases hz
  ·rw[if_neg e] at hz;exact hO.nd i z (Ne.symm e) hz
def Node.wr (x:Node)(r:Nat)(y:List Int):Node:=⟨x.card,x.parents,x.rows.set r y⟩
abbrev LBS (W:AV)(J:Nat)(Rw:Int):List (Nat×AV):=[(2,.hptr 0 0 0 0),(3,.hptr 1 0 0 0),(4,.hptr 2 0 0 0),(10,iz 3 W J 0),(11,.int .i64 Rw)]
section
variable {d K J r:Nat}{L:List Node}{x:Node}{bx:kH}{gr Rw:Int}{t t':T}{g gb:G}{V:Ky->AV}{E:Ky->En}{Q:QT}{y y':List Int}
theorem BS.put (hS:BS K J L x bx gr (r:Int) t g V E)(hy:x.rows[r]?=some y)(hHb:Hp gb 3 (LS L) V (ups E (J+1,2+r) (.sl 1 (y'.map ci))))(frb:∀i,i<3->gb.h.get i=g.h.get i)(hyl:y'.length<=K)(st:St t' (LBS (V (0,0)) J (r:Int))) :
  BS K J (L.set J (x.wr r y')) (x.wr r y') bx gr (r:Int) t' gb V (ups E (J+1,2+r) (.sl 1 (y'.map ci))):=by
 obtain ⟨rows,hB⟩:=hS.bt;obtain ⟨rws,hW⟩:=hS.bw;have hr:=(List.getElem?_eq_some_iff.1 hy).1;have hrw:=hW.at_ r y hy;have hJ:=(List.getElem?_eq_some_iff.1 hS.hx).1;have hnd:=Cu (r:=r) (V':=V) (E':=ups E (J+1,2+r) (.sl 1 (y'.map ci))) (y':=y') hB.nd hW.at_ hW.len hr (ae _ _ (by simp<;>omega)) (by rw[ae _ _ (by simp<;>omega),hW.e1,vS hrw]) (aq _ _ _) (λ_ _=>rfl) (λq hq=>ae _ _ (by simp<;>omega)) hyl;have hl:(x.wr r y').rows.length=x.rows.length:=by simp[Node.wr]
 refine ⟨st,hHb.sub λk hk=>LS.upd hS.hx hl hk,by rw[frb 0 (by omega)];exact hS.f0,by rw[frb 1 (by omega)];exact hS.f1,by rw[frb 2 (by omega)];exact hS.f2,BLs.upd hB.oth.e (by rw[ae _ _ (by simp<;>omega)];exact hB.e0) hB.row hnd,by rw[List.getElem?_set_self hJ],.inr ⟨r,rfl,by omega⟩,hS.hK,by simpa using hS.hl⟩
theorem BS.mv (hS:BS K J L x bx gr Rw t g V E)(hh:gb.h=g.h)(hn:g.nx<=gb.nx)(st:St t' (LBS (V (0,0)) J Rw)):BS K J L x bx gr Rw t' gb V E :=
 ⟨st,hS.hp.same hh hn,by rw[hh];exact hS.f0,by rw[hh];exact hS.f1,by rw[hh];exact hS.f2,hS.bl,hS.hx,hS.hR,hS.hK,hS.hl⟩
structure BR (x:Node) (J r:Nat) (y:List Int) (g:G) (V:Ky->AV) (E:Ky->En) (rws:List (List AV)):Prop where
 wr:ak g.h 1 (V (J+1,1))=some rws
 rl:r<rws.length
 rw_:rws[r]?=some [V (J+1,2+r)]
 ry:lT (V (J+1,1))=true
 yr:ak g.h 1 (V (J+1,2+r))=some (y.map ci)
 ye:E (J+1,2+r)=.sl 1 (y.map ci)
 yl:y.length<=K
theorem BS.br (hS:BS K J L x bx gr (r:Int) t g V E)(hy:x.rows[r]?=some y):∃rws,BR (K:=K) x J r y g V E rws:=by
 obtain ⟨rows,hB⟩:=hS.bt;obtain ⟨rws,hW⟩:=hS.bw;have hr:=(List.getElem?_eq_some_iff.1 hy).1;have hrl:r<rws.length:=by have:=hW.len;omega
 have hye:=hB.nd.rr r y hy;exact ⟨rws,hW.own.rows,hrl,hW.at_ r y hy,eL hW.own (by omega),(hS.hp.own (LS.s hS.hx (by omega)) hye).rows,hye,hB.nd.len.2.2 y (List.mem_of_getElem? hy)⟩
theorem bc8 (hS:BS K J L x bx gr Rw t g V E)(fin:vy Q) :
  wp C0 d none (sQ [oM 213 11,o 214 (.bin .geq (.t 213) (qI 0)),oM 215 214,og 216 215 true (.mv (.t 10)),og 217 215 true (.nilc (.t 216)),og 218 215 true (.fad 2 (.t 217)),og 219 215 true (.load false 1 (.t 218)),og 220 215 true (.mv (.t 11)),og 221 215 true (.ixs 1 (.t 219) (.t 220)),og 222 215 true (.load false 1 (.t 221)),og 223 215 true (.len .slice (.t 222)),og 224 215 true (.bin .gtr (.t 223) (qI 0)),o 225 (.pick (.t 215) (.t 224) (.k (.bool false)))] (.cond (.t 225) (.seq (.feet [0,1,3,7,0,0,32,96,224,0,992,2016,4064,8160,16383,32767] [oM 226 10,o 227 (.nilc (.t 226)),oF 228 2 227,oL 229 228,oM 230 11,oM 231 10,o 232 (.nilc (.t 231)),oF 233 2 232,oL 234 233,oM 235 11,oX 236 234 235,oL 237 236,oN 238 237,o 239 (.mks 1 8 [.int .i64 0] (.t 238) (.t 238)),oX 240 229 230,oz (.store 1 (.t 240) (.t 239))]) (.feet [0,1,3,7,0,31,63,0,128,511,1023] [oM 241 10,o 242 (.nilc (.t 241)),oF 243 2 242,oL 244 243,oM 245 11,oX 246 244 245,oL 247 246,oF 248 0 3,oL 249 248,o 250 (.ixs 1 (.t 247) (qI 0)),oz (.store 1 (.t 250) (.t 249))])) (.skip))) Q t [] g:=by
 obtain ⟨h2,h3,h4,h10,h11,-⟩:=hS.st;obtain ⟨rows,hB⟩:=hS.bt;obtain ⟨rws,hW⟩:=hS.bw;have hK:=hS.hK;have hl:=hS.hl;have hnx:=hS.hp.nx;rcases hS.hR with ⟨rfl,h0⟩ | ⟨r,rfl,hr⟩
 ·simp only[sz,simprocAttr,h11,show decide ((-1:Int) >= 0)=false from rfl];exact hS.fin0 fin (by simp[sx,h3]) (by simp[sx,h4])
 ·obtain ⟨y,hy⟩:∃y,x.rows[r]?=some y:=⟨_,List.getElem?_eq_getElem hr⟩;have hrw:=hW.at_ r y hy;have hkL:LS L (J+1,2+r):=LS.s hS.hx (by omega);have hyo:=hS.hp.own hkL (hB.nd.rr r y hy);have hyl:=hB.nd.len.2.2 y (List.mem_of_getElem? hy);have ly:=bZ hyo.rows;rw[List.length_map] at ly;have hrl:r<rws.length:=by have:=hW.len;omega
  have hryw:lT (V (J+1,1))=true:=eL hW.own (by omega);simp only[sz,simprocAttr,h10,h11,show decide ((r:Int) >= 0)=true from by simp,bz hB.ry,bE hB.ry,hB.own.rows,hB.hlt,hB.row,hW.own.rows,hrl,hrw,ly];refine ba (λhb=>?_) (λhb=>?_)
  ·have hpos:0<y.length:=by simpa using hb
   obtain ⟨A,hA⟩:∃A,A=SC.feet [0,1,3,7,0,31,63,0,128,511,1023] [oM 241 10,o 242 (.nilc (.t 241)),oF 243 2 242,oL 244 243,oM 245 11,oX 246 244 245,oL 247 246,oF 248 0 3,oL 249 248,o 250 (.ixs 1 (.t 247) (qI 0)),oz (.store 1 (.t 250) (.t 249))]:=⟨_,rfl⟩;rw[<-hA];refine jH (P:=λt' df g'=>df=[]/\∃L' x' V' E',BS K J L' x' bx gr (r:Int) t' g' V' E'/\x'.rows[r]?=some (List.replicate y.length 0)) ?_ ?_
   ·simp only[sz,simprocAttr,sf,h10,h11,bz hB.ry,bE hB.ry,hB.own.rows,hB.hlt,hB.row,hW.own.rows,hrl,hrw,ly];refine px (b:=3) (n:=y.length) (by unfold aM;omega) (by unfold aM;omega) (by first | (simp;done) | (simp;omega)) λW ga hWo na fra vW lga=>?_;simp only[sy] at na fra vW lga;have hHa:=(hS.hp.step (g':=G.mk g.h g.nx []) (Nat.le_refl _) (λ_ _ _=>rfl)).set (g':=ga) (k:=(J+1,2+r)) (v':=W) (e':=.sl 1 ((List.replicate y.length (0:Int)).map ci)) hkL (by rw[List.map_replicate];exact hWo) (by show g.nx<=ga.nx;omega) (λi _ hi _=>fra i (by have hi:i<g.nx:=hi;omega)) (.inr ⟨_,by rw[bW hWo];exact vW,by show g.nx<=_;omega⟩);have e11:ups V (J+1,2+r) W (J+1,1)=V (J+1,1):=ae _ _ (by simp<;>omega);have hE1:ups E (J+1,2+r) (.sl 1 ((List.replicate y.length (0:Int)).map ci)) (J+1,1)=.sl 1 rws:=by rw[ae _ _ (by simp<;>omega)];exact hW.e1
    have rwa:ak ga.h 1 (V (J+1,1))=some rws:=by rw[<-e11];exact (hHa.own (LS.s hS.hx (by omega)) hE1).rows
    simp only[sz,simprocAttr,sf,rwa,hrl];refine (hHa.same (g':=_) (by simp) (by simp<;>omega)).putv (k:=(J+1,1)) (i:=r) (off:=0) (n:=1) (LS.s hS.hx (by omega)) e11 (row':=[W]) hE1 hrw (by rw[hWo.cell.1];rfl) hWo.cell.2 (by rw[hWo.cell.1];rfl) λgb hHb nb frb fob=>?_;simp only[sy] at nb frb fob ⊢;refine ⟨?_,L.set J (x.wr r (List.replicate y.length 0)),x.wr r (List.replicate y.length 0),_,_,⟨?_,(hHb.same (g':=_) (by simp) (by simp<;>omega)).sub λk hk=>LS.upd hS.hx (by simp[Node.wr]) hk,?_,?_,?_,BLs.upd hB.oth.v.e.e ?_ ?_ ?_,by rw[List.getElem?_set_self (List.getElem?_eq_some_iff.1 hS.hx).1],.inr ⟨r,rfl,by simpa [Node.wr] using hr⟩,hK,by simpa using hl⟩,by simp[Node.wr,hr]⟩
    ·simp only[List.reverse_cons,List.reverse_nil,List.nil_append,List.cons_append];refine aK [false,false,false,false,false,false,false,false,false,false,false,false,false,true,false,true] [(0,13),(1,13),(2,13),(3,13),(4,13)] (by simp[All2,ap,aC]) (by decide) ?_;have ro1:=hB.own.refs_lt;rintro p hp x y hx hy;simp only[List.mem_cons,List.not_mem_nil,or_false] at hp;rcases hp with rfl | rfl | rfl | rfl | rfl<;>(simp at hx hy;subst hx;subst hy;refine dK rfl rfl rfl rfl ?_ ?_ ?_<;>simp[ap,aC,gT hB.ry,lga]<;>first | omega | (intro h;have:=ro1 _ h;omega) | (intro i' hi' e;have:=ro1 i' hi';omega) | (intro i' hi';have:=ro1 i' hi';omega) | skip)
    ·simp[St,sx,h2,h3,h4,h10,h11,ae]
    ·simp only[bumpG_h];rw[frb 0 (by omega)];(try simp);rw[fra 0 (by omega),hS.f0]
    ·simp only[bumpG_h];rw[frb 1 (by omega),ae _ _ (by simp<;>omega)];(try simp);rw[fra 1 (by omega),hS.f1]
    ·simp only[bumpG_h];rw[frb 2 (by omega)];(try simp);rw[fra 2 (by omega),hS.f2]
    ·rw[ae _ _ (by simp<;>omega),ae _ _ (by simp<;>omega),hB.e0]
    ·rw[ko,ae _ _ (by simp<;>omega),ae _ _ (by simp<;>omega)];exact hB.row
    ·exact Cu (r:=r) (y':=List.replicate y.length 0) hB.nd hW.at_ hW.len hr (by rw[ae _ _ (by simp<;>omega),ae _ _ (by simp<;>omega)]) (by rw[aq,aq]) (by rw[ae _ _ (by simp<;>omega),aq]) (λq hq=>ae _ _ (by simp<;>omega)) (λq hq=>by rw[ae _ _ (by simp<;>omega),ae _ _ (by simp<;>omega)]) (by simpa using hyl)
   clear h2 h3 h4 h10 h11 hB hW hkL hyo hS hrw hrl hryw;rintro t df g2 ⟨rfl,L',x',V',E',hS,hy'⟩;rw[hA];obtain ⟨h2,h3,h4,h10,h11,-⟩:=hS.st;obtain ⟨rows,hB⟩:=hS.bt;obtain ⟨rws,hR⟩:=hS.br hy';have u1:0<((List.replicate y.length (0:Int)).map ci).length:=by simpa using hpos
   have u2:((List.replicate y.length (0:Int)).map ci)[0]?=some (ci 0):=by simp[hpos]
   have u3:=hR.yr;have u4:=hR.rl;simp only[sz,simprocAttr,sf,h3,h10,h11,hS.f1,bz hB.ry,bE hB.ry,hB.own.rows,hB.hlt,hB.row,hR.wr,u4,hR.rw_,yL u3 u1];refine (hS.hp.same (g':=_) (by simp) (by simp<;>omega)).put (k:=(J+1,2+r)) (i:=0) (off:=0) (n:=1) (row:=ci 0) (row':=ci gr) (LS.s hS.hx (by have:=(List.getElem?_eq_some_iff.1 hy').1;omega)) hR.ye u2 rfl rfl rfl λgb hHb nb frb fob=>?_;simp only[sy] at nb frb fob ⊢;refine ⟨?_,?_⟩
   ·simp only[List.reverse_cons,List.reverse_nil,List.nil_append,List.cons_append];exact aK [false,false,false,false,false,false,false,false,false,false,true] [] (by simp[All2,ap,aC]) (by decide) (by simp)
   rw[<-List.map_set] at hHb;have hS2:=hS.put (t':=t) hy' (hHb.same (g':=G.mk gb.h gb.nx []) rfl (Nat.le_refl _)) (λi hi=>by have:=frb i hi;simpa using this) (by simpa using hR.yl) (by simp[St,h2,h3,h4,h10,h11]);exact fin _ _ gr _ _ (by simp[sx,h3]) (by simp[sx,h4]) (by simpa using hS2.f1) (by simpa using hS2.f2) (hS2.sl.heap (by simp))
  ·simp only[sx];exact hS.fin0 fin (by simp[sx,h3]) (by simp[sx,h4])
theorem MZ {n:Nat}(hn:n<=1000000)(hy0:y.length=n)(hyr:x.rows[r]?=some y)(hS:BS K J L x bx gr (r:Int) t g V E)(h12:tat t 12=.int .i64 0)(h13:tat t 13=.int .i64 ((n:Int) - 1))
  (fin:∀t g L x E,BS K J L x bx gr (r:Int) t g V E->Q (.exit 5) t [] g):wpL (wp C0 d none dQ) Q t [] g:=by
 obtain ⟨FR,hFR⟩:∃FR,FR=SC.feet [0,1,3,7,0,31,63,0,0,256,768,1792,0,7936,16128,0,65280,130816,262143,524287] [oM 279 10,o 280 (.nilc (.t 279)),oF 281 2 280,oL 282 281,oM 283 11,oX 284 282 283,oL 285 284,oM 286 12,oM 287 10,o 288 (.nilc (.t 287)),oF 289 2 288,oL 290 289,oM 291 11,oX 292 290 291,oL 293 292,oM 294 13,oX 295 293 294,oL 296 295,oX 297 285 286,oz (.store 1 (.t 297) (.t 296))]:=⟨_,rfl⟩;simp only[dQ];rw[<-hFR];refine bu (n / 2) (by omega) (λj t df g=>df=[]/\∃L x y E,BS K J L x bx gr (r:Int) t g V E/\x.rows[r]?=some y/\y.length=n/\tat t 13=.int .i64 ((n:Int) - 1 - (j:Int)))
  ⟨rfl,L,x,y,E,hS,hyr,hy0,by simp[h13]⟩ h12 (by decide) ?_ ?_ ?_ ?_
 ·rintro j t df g v s (rfl | rfl | rfl) ⟨rfl,L,x,y,E,hS,h⟩<;>exact ⟨rfl,L,x,y,E,⟨by have:=hS.st;simpa [St,sx] using this,hS.hp,hS.f0,hS.f1,hS.f2,hS.bl,hS.hx,hS.hR,hS.hK,hS.hl⟩,by simpa [sx] using h⟩
 ·rintro j t df g hj ⟨rfl,L,x,y,E,hS,hyr,hyn,h13⟩ h12;simp only[sz,simprocAttr,h12,h13];refine ⟨by congr 1;exact decide_eq_decide.2 (by omega),⟨L,x,y,E,⟨by have:=hS.st;simpa [St,sx] using this,hS.hp,hS.f0,hS.f1,hS.f2,hS.bl,hS.hx,hS.hR,hS.hK,hS.hl⟩,hyr,hyn⟩⟩
 ·rintro j t df g hj ⟨rfl,L,x,y,E,hS,hyr,hyn,h13⟩ h12;have hk:((n:Int) - 1 - (j:Int))=((n - 1 - j:Nat):Int):=by omega
  rw[hk] at h13;obtain ⟨z,hz⟩:∃z,y[j]?=some z:=⟨_,List.getElem?_eq_getElem (by omega)⟩;obtain ⟨z',hz'⟩:∃z,y[n - 1 - j]?=some z:=⟨_,List.getElem?_eq_getElem (by omega)⟩;refine jH (P:=λt' df g'=>df=[]/\g'=g/\BS K J L x bx gr (r:Int) t' g V E/\St t' [(12,.int .i64 (j:Int)),(13,.int .i64 ((n - 1 - j:Nat):Int)),(14,.int .i64 z)]) ?_ ?_
  ·obtain ⟨h2,h3,h4,h10,h11,-⟩:=hS.st;obtain ⟨rows,hB⟩:=hS.bt;obtain ⟨rws,hR⟩:=hS.br hyr;have u1:j<(y.map ci).length:=by simp;omega
   have u2:(y.map ci)[j]?=some (ci z):=by rw[List.getElem?_map,hz];rfl
   have hryy:=yx hR.yr u1;simp only[sz,simprocAttr,h10,h11,h12,bz hB.ry,bE hB.ry,hB.own.rows,hB.hlt,hB.row,hR.wr,hR.rl,hR.rw_,hR.yr,u1,u2,ci];exact ⟨⟨by simp[St,sx,h2,h3,h4,h10,h11],hS.hp,hS.f0,hS.f1,hS.f2,hS.bl,hS.hx,hS.hR,hS.hK,hS.hl⟩,by simp[St,sx,h12,h13]⟩
  clear hS h12 h13;rintro t df g1 ⟨rfl,rfl,hS,h12,h13,h14,-⟩;rw[hFR];refine jH (P:=λt' df g'=>df=[]/\∃L x E,BS K J L x bx gr (r:Int) t' g' V E/\x.rows[r]?=some (y.set j z')/\St t' [(12,.int .i64 (j:Int)),(13,.int .i64 ((n - 1 - j:Nat):Int)),(14,.int .i64 z)]) ?_ ?_
  ·obtain ⟨h2,h3,h4,h10,h11,-⟩:=hS.st;obtain ⟨rows,hB⟩:=hS.bt;obtain ⟨rws,hR⟩:=hS.br hyr;have u1:j<(y.map ci).length:=by simp;omega
   have u2:(y.map ci)[j]?=some (ci z):=by rw[List.getElem?_map,hz];rfl
   have u3:n - 1 - j<(y.map ci).length:=by simp;omega
   have u4:(y.map ci)[n - 1 - j]?=some (ci z'):=by rw[List.getElem?_map,hz'];rfl
   have hryy:=yx hR.yr u1;have hrl:=hR.rl;simp only[sz,simprocAttr,sf,h10,h11,h12,h13,bz hB.ry,bE hB.ry,hB.own.rows,hB.hlt,hB.row,hR.wr,hrl,hR.rw_,hR.yr,u1,u3,u4,ci];refine (hS.hp.same (g':=_) (by simp) (by simp;omega)).put (k:=(J+1,2+r)) (i:=j) (off:=0) (n:=1) (row:=ci z) (row':=ci z') (LS.s hS.hx (by have:=(List.getElem?_eq_some_iff.1 hyr).1;omega)) hR.ye u2 rfl rfl rfl λgb hHb nb frb fob=>?_;simp only[sy] at nb frb fob ⊢;rw[<-List.map_set] at hHb;have hS2:=hS.put (t':=t) hyr (hHb.same (g':=G.mk gb.h gb.nx []) rfl (Nat.le_refl _)) (λi hi=>by have:=frb i hi;simpa using this) (by simpa using hR.yl) (by simp[St,h2,h3,h4,h10,h11]);refine ⟨?_,_,_,_,hS2.mv (by simp) (by simp) (by simp[St,sx,h2,h3,h4,h10,h11]),by simp[Node.wr,(List.getElem?_eq_some_iff.1 hyr).1],by simp[St,sx,h12,h13,h14]⟩;simp only[List.reverse_cons,List.reverse_nil,List.nil_append,List.cons_append];exact aK [false,false,false,false,false,false,false,false,false,false,false,false,false,false,false,false,false,false,false,true] [] (by simp[All2,ap,aC]) (by decide) (by simp)
  clear hS h12 h13 h14 hyr;rintro t df g2 ⟨rfl,L,x,E,hS,hyr,h12,h13,h14,-⟩;refine jH (P:=λt' df g'=>df=[]/\∃L x E,BS K J L x bx gr (r:Int) t' g' V E/\x.rows[r]?=some ((y.set j z').set (n - 1 - j) z)/\St t' [(12,.int .i64 (j:Int)),(13,.int .i64 ((n - 1 - j:Nat):Int))]) ?_ ?_
  ·obtain ⟨h2,h3,h4,h10,h11,-⟩:=hS.st;obtain ⟨rows,hB⟩:=hS.bt;obtain ⟨rws,hR⟩:=hS.br hyr;have u3:n - 1 - j<((y.set j z').map ci).length:=by simp;omega
   obtain ⟨w,hw⟩:∃w,(y.set j z')[n - 1 - j]?=some w:=⟨_,List.getElem?_eq_getElem (by simp;omega)⟩;have u4:((y.set j z').map ci)[n - 1 - j]?=some (ci w):=by rw[List.getElem?_map,hw];rfl
   have hryy:=yx hR.yr u3;have hrl:=hR.rl;have hyr':=hR.yr;simp only[sz,simprocAttr,h10,h11,h13,h14,bz hB.ry,bE hB.ry,hB.own.rows,hB.hlt,hB.row,hR.wr,hrl,hR.rw_,hyr',u3];refine hS.hp.put (k:=(J+1,2+r)) (i:=n - 1 - j) (off:=0) (n:=1) (row:=ci w) (row':=ci z) (LS.s hS.hx (by have:=(List.getElem?_eq_some_iff.1 hyr).1;omega)) hR.ye u4 rfl rfl rfl λgb hHb nb frb fob=>?_;simp only[sx,sy];rw[<-List.map_set] at hHb;have hS2:=hS.put (t':=t) hyr hHb frb (by simpa using hR.yl) (by simp[St,h2,h3,h4,h10,h11]);exact ⟨_,_,_,⟨by simp[St,sx,h2,h3,h4,h10,h11],hS2.hp,hS2.f0,hS2.f1,hS2.f2,hS2.bl,hS2.hx,hS2.hR,hS2.hK,hS2.hl⟩,by simp[Node.wr,(List.getElem?_eq_some_iff.1 hyr).1],by simp[St,sx,h12,h13]⟩
  clear hS h12 h13 h14 hyr;rintro t df g3 ⟨rfl,L,x,E,hS,hyr,h12,h13,-⟩;simp only[sz,simprocAttr,h12,h13];refine ⟨L,x,(y.set j z').set (n - 1 - j) z,E,hS.mv rfl (Nat.le_refl _) (by have:=hS.st;simpa [St,sx] using this),hyr,by simp[hyn],?_⟩;rw[ax (by omega) (by omega)];congr 1;omega
 ·rintro t df g ⟨rfl,L,x,y,E,hS,-⟩;exact fin t g L x E hS
theorem bc9 (hS:BS K J L x bx gr Rw t g V E)(fin:vy λe t df g=>Q e t df g) :
  wp C0 d none (sQ [oM 253 11,o 254 (.bin .geq (.t 253) (qI 0))] (.cond (.t 254) (.seq (.quiet [oM 255 10,o 256 (.nilc (.t 255)),oF 257 2 256,oL 258 257,oM 259 11,oX 260 258 259,oL 261 260,oN 262 261,o 263 (.bin .sub (.t 262) (qI 1)),oK 12 0,oM 13 263]) (.blk 5 (.loop dQ))) (.skip))) Q t [] g:=by
 obtain ⟨h2,h3,h4,h10,h11,-⟩:=hS.st;obtain ⟨rows,hB⟩:=hS.bt;rcases hS.hR with ⟨rfl,h0⟩ | ⟨r,rfl,hr⟩
 ·simp only[sx,SO.run,↓reduceIte,h11];exact ⟨λh=>by simp at h,λ_=>hS.fin0 fin (by simp[sx,h3]) (by simp[sx,h4])⟩
 ·simp only[sx,SO.run,↓reduceIte,h11];refine ⟨λ_=>?_,λh=>by simp at h⟩;obtain ⟨y,hy⟩:∃y,x.rows[r]?=some y:=⟨_,List.getElem?_eq_getElem hr⟩;obtain ⟨rws,hR⟩:=hS.br hy;have ly:=bZ hR.yr;rw[List.length_map] at ly;have hyl:=hR.yl;have hK:=hS.hK;have w9:IntKind.wrap .i64 ((y.length:Int) - 1)=(y.length:Int) - 1:=ax (by omega) (by omega);simp only[sx,sy,SO.run,↓reduceIte,Nat.reduceEqDiff,h10,h11,bz hB.ry,bE hB.ry,hB.own.rows,hB.hlt,hB.row,hR.wr,hR.rl,hR.rw_,ly,w9,Option.isSome_some,Option.getD_some];refine MZ (n:=y.length) (L:=L) (x:=x) (y:=y) (E:=E) (by omega) rfl hy ⟨by simp[St,sx,h2,h3,h4,h10,h11],hS.hp,hS.f0,hS.f1,hS.f2,hS.bl,hS.hx,hS.hR,hS.hK,hS.hl⟩ (by simp[sx]) (by simp[sx]) ?_;intro t g L x E hS;obtain ⟨h2,h3,h4,h10,h11,-⟩:=hS.st;simp only[sx,↓reduceIte];exact hS.fin0 fin h3 h4
end
end
end Hx
end
section
namespace Hx
open Go
noncomputable section
def Md:VS:=λP k h v=>∃m:Net,True/\Agg m P k h v
theorem M4:Snb Md 1:=mY λm=>cd _
theorem bk5 {d:Nat}{t:T}{g:G}{gr:Int}{nv:AV}{nds:List Node}(h3:tat t 3=.hptr 1 0 0 0)(h4:tat t 4=.hptr 2 0 0 0)(e1:g.h.get 1=.cells 2 [[.int .i64 gr,nv]] 0 false false)(e2:g.h.get 2=.cells 2 [[.int .i64 0,.nils]] 0 false false)
  (hn:SlR P3 0 g.h nds nv):wp C0 d none dO (fnQ C0 d [SR.cell true 2 4] λv g'=>∃P,Md P 0 g'.h v) t [] g:=by
 simp only[sz,simprocAttr,dO,h3,h4,e1,e2];refine ⟨P3,⟨gr,nds⟩,trivial,_,rfl,?_⟩;exact Rp.mono (P:=P3) (h:=g.h) (cA.2 ⟨nv,rfl,hn⟩) (λi hi=>⟨hi,by rw[au _ _ _ (by have:3<=i:=hi;omega)]⟩) (Nat.le_refl _)
theorem bk6 {d K J:Nat}{L:List Node}{x:Node}{bx:kH}{gr Rw:Int}{t:T}{g:G}{V:Ky->AV}{E:Ky->En}{Q:QT}(hS:BS K J L x bx gr Rw t g V E)
  (last:vy (kB 4 (kS (wp C0 d none dO Q) Q))):wp C0 d none gJ Q t [] g:=by
 have w8:bx.1.toNat<256:=bx.1.toNat_lt;obtain ⟨h2,h3,h4,h10,h11,-⟩:=hS.st;have mv:∀{t':T},St t' (LBS (V (0,0)) J Rw)->BS K J L x bx gr Rw t' g V E:=λh=>hS.mv rfl (Nat.le_refl _) h;simp only[sz,simprocAttr,gJ,h2,hS.f0,u8v,iF .u8 (show (0:Int)<=(bx.1.toNat:Int) by omega) (show (0:Int)<12 by decide)];refine ba (λhb=>?_) (λhb=>?_)
 ·exact bc0 (mv (by simp[St,sx,h2,h3,h4,h10,h11])) last
 simp only[sz,simprocAttr];refine ba (λhb=>?_) (λhb=>?_)
 ·exact bc1 (mv (by simp[St,sx,h2,h3,h4,h10,h11])) last
 simp only[sz,simprocAttr];refine ba (λhb=>?_) (λhb=>?_)
 ·exact bc2 (mv (by simp[St,sx,h2,h3,h4,h10,h11])) last
 simp only[sz,simprocAttr];refine ba (λhb=>?_) (λhb=>?_)
 ·exact bc3 (mv (by simp[St,sx,h2,h3,h4,h10,h11])) last
 simp only[sz,simprocAttr];refine ba (λhb=>?_) (λhb=>?_)
 ·exact bc4 (mv (by simp[St,sx,h2,h3,h4,h10,h11])) last
 simp only[sz,simprocAttr];refine ba (λhb=>?_) (λhb=>?_)
 ·exact bc5 (mv (by simp[St,sx,h2,h3,h4,h10,h11])) last
 simp only[sz,simprocAttr];refine ba (λhb=>?_) (λhb=>?_)
 ·exact bc6 (mv (by simp[St,sx,h2,h3,h4,h10,h11])) last
 simp only[sz,simprocAttr];refine ba (λhb=>?_) (λhb=>?_)
 ·exact bc7 (mv (by simp[St,sx,h2,h3,h4,h10,h11])) last
 simp only[sz,simprocAttr];refine ba (λhb=>?_) (λhb=>?_)
 ·exact bc8 (mv (by simp[St,sx,h2,h3,h4,h10,h11])) last
 simp only[sz,simprocAttr];refine ba (λhb=>?_) (λhb=>?_)
 ·exact bc9 (mv (by simp[St,sx,h2,h3,h4,h10,h11])) last
 simp only[sz,simprocAttr];refine ba (λhb=>?_) (λhb=>?_)
 ·exact Pe (mv (by simp[St,sx,h2,h3,h4,h10,h11])) last
 exact Pc (mv (by simp[St,sx,h2,h3,h4,h10,h11])) last
theorem bk7 {d K:Nat}{bx:kH}{gr:Int}{b:AV}{L:List Node}{t:T}{g:G}{V:Ky->AV}{E:Ky->En}(hK:K<=1000000)(hl:L.length<=K)
  (ht:St t [(2,.hptr 0 0 0 0),(3,.hptr 1 0 0 0),(4,.hptr 2 0 0 0)]) (h5:tat t 5=V (0,0)) (hH:Hp g 3 (LS L) V E) (hB:BBn g [u8v bx.1,u8v bx.2.1,u8v bx.2.2.1,.int .i64 bx.2.2.2] gr b) (hD:BLs K V E L) :
  wp C0 d none gw (fnQ C0 d [SR.cell true 2 4] λv g'=>∃P,Md P 0 g'.h v) t [] g:=by
 obtain ⟨h2,h3,h4,-⟩:=ht;obtain ⟨b0,b1,b2⟩:=hB;obtain ⟨rows,e1,e2,e3⟩:=hD.ns;have o1:=hH.own LS.z e1;have len1:=bZ o1.rows;rw[e2] at len1;have hnx:=hH.nx;unfold gw;refine eo (P:=λt df g'=>df=[]/\Hp g' 3 (LS L) V E/\St t [(2,.hptr 0 0 0 0),(3,.hptr 1 0 0 0),(4,.hptr 2 0 0 0),(5,V (0,0))]/\g'.h.get 0=.cells 4 [[u8v bx.1,u8v bx.2.1,u8v bx.2.2.1,.int .i64 bx.2.2.2]] 0 false false/\g'.h.get 1=.cells 2 [[.int .i64 gr,V (0,0)]] 0 false false/\g'.h.get 2=.cells 2 [[.int .i64 0,.nils]] 0 false false) ?_ ?_
 ·simp only[sz,simprocAttr,h3,h5,b1,o1.cell.1,o1.cell.2];exact ⟨hH.step (by simp) λi hi _=>by simp[H.get_put];omega,by simp[St,sx,h2,h3,h4,h5],by simp[b0],by simp[b2]⟩
 clear b0 b1 b2 h2 h3 h4 h5 hH o1 hnx;rintro t df g1 hg;obtain ⟨rfl,hH,⟨h2,h3,h4,h5,-⟩,f0,f1,f2⟩:=hg;have o1:=hH.own LS.z e1;have hsl:=hD.sl hH (by omega) (by omega);simp only[sz,simprocAttr,h5,len1];refine ba (λhb=>?_) (λhb=>?_)
 ·simp only[sz,simprocAttr,h3,h4,f1,f2];refine ⟨P3,⟨gr,L⟩,trivial,_,rfl,?_⟩;exact Rp.mono (P:=P3) (h:=g1.h) (cA.2 ⟨_,rfl,hsl⟩) (λi hi=>⟨hi,by rw[au _ _ _ (by have:3<=i:=hi;omega)]⟩) (Nat.le_refl _)
 have hn0:0<L.length:=by have:=of_decide_eq_false hb;omega
 have at8:bx.2.1.toNat<256:=bx.2.1.toNat_lt;have em:((bx.2.1.toNat:Int) % (L.length:Int))=((bx.2.1.toNat % L.length:Nat):Int):=by omega
 have hJ:bx.2.1.toNat % L.length<L.length:=Nat.mod_lt _ hn0;obtain ⟨J,hJe⟩:∃J,J=bx.2.1.toNat % L.length:=⟨_,rfl⟩;rw[<-hJe] at em hJ;obtain ⟨x,hx⟩:∃x,L[J]?=some x:=⟨_,List.getElem?_eq_getElem hJ⟩;have hJr:J<rows.length:=by omega
 have hrow:rows[J]?=some [.int .i64 x.card,V (J+1,0),V (J+1,1)]:=e3 J x hx;have hry:lT (V (0,0))=true:=eL o1 (by omega);obtain ⟨rws,q1,q2,q3⟩:=(hD.nd J x hx).rs;have hlen:=(hD.nd J x hx).len;have o2:=hH.own (LS.s hx (by omega)) q1;have len2:=bZ o2.rows;rw[q2] at len2;rw[yy,tj];refine eo (P:=λt df g'=>df=[]/\g'=g1/\St t [(2,.hptr 0 0 0 0),(3,.hptr 1 0 0 0),(4,.hptr 2 0 0 0),(10,iz 3 (V (0,0)) J 0)]) ?_ ?_
 ·simp only[sz,simprocAttr,h2,h3,h4,h5,f0,len1,u8v,ax (show -9223372036854775808<=(bx.2.1.toNat:Int) by omega) (show (bx.2.1.toNat:Int)<9223372036854775808 by omega),iF .i64 (show (0:Int)<=(bx.2.1.toNat:Int) by omega) (show 0<(L.length:Int) by omega),em,o1.rows,hJr,St]
 clear h2 h3 h4 h5;rintro t df g' ⟨rfl,rfl,h2,h3,h4,h10,-⟩;have r8:bx.2.2.1.toNat<256:=bx.2.2.1.toNat_lt;refine eo (P:=λt df g''=>df=[]/\g''=g'/\St t (LBS (V (0,0)) J (-1))) ?_ ?_
 ·simp only[sz,simprocAttr,h2,h3,h4,h10,St]
 clear h2 h3 h4 h10;rintro t df g'' ⟨rfl,rfl,h2,h3,h4,h10,h11,-⟩;refine jH (P:=λt df g3=>df=[]/\g3=g''/\∃Rw:Int,((Rw = -1/\x.rows.length=0)\/∃r:Nat,Rw=(r:Int)/\r<x.rows.length)/\St t (LBS (V (0,0)) J Rw)) ?_ ?_
 ·simp only[sz,simprocAttr,h10,bz hry,bE hry,o1.rows,hJr,hrow,len2];refine ba (λhb=>?_) (λhb=>?_)
  ·have hpos:0<x.rows.length:=by simpa using hb
   have em2:((bx.2.2.1.toNat:Int) % (x.rows.length:Int))=((bx.2.2.1.toNat % x.rows.length:Nat):Int):=by omega
   have hm:=Nat.mod_lt bx.2.2.1.toNat hpos;simp only[sz,simprocAttr,h2,h10,f0,u8v,ax (show -9223372036854775808<=(bx.2.2.1.toNat:Int) by omega) (show (bx.2.2.1.toNat:Int)<9223372036854775808 by omega),bz hry,bE hry,o1.rows,hJr,hrow,len2,iF .i64 (show (0:Int)<=(bx.2.2.1.toNat:Int) by omega) (show 0<(x.rows.length:Int) by omega),em2];exact ⟨_,.inr ⟨_,rfl,hm⟩,by simp[St,sx,h2,h3,h4,h10]⟩
  ·have h0:x.rows.length=0:=by have:=of_decide_eq_false hb;omega
   simp only[sx,sy];exact ⟨-1,.inl ⟨rfl,h0⟩,by simp[St,sx,h2,h3,h4,h10,h11]⟩
 clear h2 h3 h4 h10 h11;rintro t df g3 ⟨rfl,rfl,Rw,hR,ht⟩;refine bk6 (K:=K) (L:=L) (x:=x) (bx:=bx) (gr:=gr) ⟨ht,hH,f0,f1,f2,hD,hx,hR,hK,hl⟩ ?_;intro t g gr nv nds h3 h4 e1 e2 s1;rw[Co,tj];exact bk5 h3 h4 e1 e2 s1
theorem MX {d K:Nat}{g:G}{x:kH}{m:Net}{v w:AV}(hd:0<d)(hx:Agg x NoP 0 g.h v)(hm:Agg m NoP 0 g.h w)(hK:K<=1000000)(hl:m.nodes.length<=K)
  (hb:∀y∈m.nodes,y.parents.length<=K/\y.rows.length<=K/\∀r∈y.rows,r.length<=K):∃r,am C0 d N.aM [v,w] g=.val r/\Md NoP 0 .nil r:=by
 have e0:=jJ d hx;have e1:=jJ d hm;obtain ⟨cs,rfl,hc⟩:=hx;have hc:=yD.1 hc;subst hc;obtain ⟨cs,rfl,hc⟩:=hm;obtain ⟨b,rfl,hN⟩:=cA.1 hc;rw[uh];refine aP wJ (xs:=[.agg [u8v x.1,u8v x.2.1,u8v x.2.2.1,.int .i64 x.2.2.2],.agg [.int .i64 m.grain,b]]) (by simp only[aE,e0,e1]) (by simp[kh]) M4 (by decide) hd ?_;clear e0 e1 hc;have hN:=hN.tree (h':=.nil) (Nat.le_refl _);simp only[sz,simprocAttr,kh];obtain ⟨g0,hg0⟩:∃g0,g0=((G.empty.new (.cells 4 [[u8v x.1,u8v x.2.1,u8v x.2.2.1,.int .i64 x.2.2.2]] 0 false false)).new (.cells 2 [[.int .i64 m.grain,b]] 0 false false)).new (.cells 2 [[.int .i64 0,.nils]] 0 false false):=⟨_,rfl⟩;rw[<-hg0];have f0:BBn g0 [u8v x.1,u8v x.2.1,u8v x.2.2.1,.int .i64 x.2.2.2] m.grain b:=by rw[hg0];exact ⟨by simp[sx,H.get_put],by simp[sx,H.get_put],by simp[sx]⟩
 have f3:g0.nx=3:=by rw[hg0];simp[sx]
 clear hg0;have hH:Hp g0 3 (LS []) (λ_=>.nils) (λk=>.sl 3 []):=⟨λk _=>.inl ⟨rfl,rfl⟩,λk l _ _ _ id h=>(by cases h),by omega⟩;simp only[sz,simprocAttr,nu];refine OZ (V:=λ_=>.nils) hK hN hl hb (by simp[St,sx]) (by simp[sx]) (by simp[sx]) hH f0 ⟨⟨[],rfl,rfl,λi y hy=>by simp at hy⟩,λi y hy=>by simp at hy⟩ ?_;clear hH;intro t g V E ht h5 hH hB hD;simp only[sx,↓reduceIte];exact bk7 hK hl ht h5 hH hB hD
theorem jA {α:Type} [Rp α]{x:α}{P:Nat->Prop}{cs:List AV}(h:Rp.rp NoP 0 .nil x cs)(h':H):Agg x P 0 h' (.agg cs):=⟨_,rfl,Rp.tree h (Nat.le_refl _)⟩
def K3:Nat->Prop:=λk=>k<=2
def LT1 (w z:AV)(p:Nat):List (Nat×AV):=[(1,w),(2,z),(6,.hptr 1 0 0 0),(8,.hptr 3 0 0 0),(11,.hptr 4 0 0 0),(14,.hptr p 0 0 0)]
structure TbH (l cl:List Int) (p:Nat) (V:Nat->AV) (E:Nat->En) (g:G):Prop where
 hp:Hp g 5 K3 V E
 v0:V 0=.hptr p 0 0 0
 e0:E 0=.bx [V 1,V 2,.nils]
 e1:E 1=.sl 1 (l.map ci)
 e2:E 2=.sl 1 (cl.map ci)
structure TbB (g0:G) (cs vars:List Int) (w z:AV) (p j:Nat) (t:T) (g:G):Prop where
 st:St t (LT1 w z p)
 h15:tat t 15=.int .i64 (S.af (S.ae cs (vars.take j)))
 h57:tat t 57=z
 hd:∃V E,TbH (vars.take j) (S.ae cs (vars.take j)) p V E g
 fr:∀i,i<5->g.h.get i=g0.h.get i
def K4:Nat->Prop:=λk=>k<=3
structure TbW (g0:G) (l cl W:List Int) (p r m:Nat) (V:Nat->AV) (E:Nat->En) (g:G):Prop where
 hp:Hp g 5 K4 V E
 v0:V 0=.hptr p 0 0 0
 e0:E 0=.bx [V 1,V 2,V 3]
 e1:E 1=.sl 1 (l.map ci)
 e2:E 2=.sl 1 (cl.map ci)
 e3:E 3=.sl 1 (W.map ci)
 nw:∀i,eid (V 3)=some i->g0.nx<=i
 fr:∀i,i<g0.nx->i≠p->g.h.get i=g0.h.get i
def S.pk (n:Net)(e vars:List Int)(i:Int)(w:Nat):Bool:=S.pe n e w&&decide (S.ak (S.ae (S.aa n) vars) (S.ae (S.ah (S.aa n) (w:Int)) vars)=i)
def S.aA (n:Net)(e vars:List Int)(j:Nat):List Int:=(List.range (S.af (S.ae (S.aa n) vars)).toNat).map λi:Nat=>S.ap n (S.pk n e vars (i:Int)) j
structure TbJ (g0:G) (n:Net) (e vars:List Int) (m j:Nat) (h:H):Prop where
 fr:∀i,i<g0.nx->i≠m->h.get i=g0.h.get i
 hm:∃L:List (Int×Int),h.get m=.map (mcl ik L)/\∀k,mgt L k=S.ap n (S.pk n e vars k) j
set_option maxRecDepth 20000 in
theorem H3 {n:Net}{e vars:List Int}{j:Nat}(h:S.pe n e j=false):S.aA n e vars (j+1)=S.aA n e vars j :=
 List.map_congr_left λi _=>by rw[S.ap,S.pk,h];simp
theorem ic (n:Net)(e vars:List Int)(j:Nat):(S.aA n e vars j).length=(S.af (S.ae (S.aa n) vars)).toNat:=by simp[S.aA]
theorem jD {n:Net}{e vars:List Int}{j i:Nat}(hi:i<(S.af (S.ae (S.aa n) vars)).toNat):(S.aA n e vars j)[i]?=some (S.ap n (S.pk n e vars (i:Int)) j):=by simp[S.aA,hi]
theorem Iq {n:Net}{e vars:List Int}{j i:Nat}(h:S.pe n e j=true)(hi:i<(S.af (S.ae (S.aa n) vars)).toNat)(hK:S.ak (S.ae (S.aa n) vars) (S.ae (S.ah (S.aa n) (j:Int)) vars)=(i:Int)) :
  (S.aA n e vars j).set i (S.ap n (S.pk n e vars (i:Int)) j+S.wt n j)=S.aA n e vars (j+1):=by
 refine List.ext_getElem? λq=>?_
 by_cases hq:q<(S.af (S.ae (S.aa n) vars)).toNat
 ·rw[jD hq,List.getElem?_set]
  by_cases e1:i=q
  ·subst e1;rw[if_pos rfl,if_pos (by rw[ic];exact hi),S.ap,S.pk,h,hK];simp[S.wt]
  ·rw[if_neg e1,jD hq,S.ap,S.pk,h,hK];have:¬((i:Int)=(q:Int)):=by omega
   simp[this]
 ·rw[List.getElem?_eq_none (by rw[List.length_set,ic];omega),List.getElem?_eq_none (by rw[ic];omega)]
structure RtH (l W:List Int) (C:AV) (V:Nat->AV) (E:Nat->En) (g:G):Prop where
 hp:Hp g 2 K4 V E
 v0:V 0=.hptr 2 0 0 0
 e0:E 0=.bx [V 1,C,V 3]
 e1:E 1=.sl 1 (l.map ci)
 e3:E 3=.sl 1 (W.map ci)
def S.ax (W:List Int):Nat->Nat
 | 0=>0
 | j+1=>if W[S.ax W j]?.getD 0<W[j+1]?.getD 0 then j+1 else S.ax W j
theorem FN (W:List Int):∀j,S.ax W j<=j
 | 0=>Nat.le_refl _
 | j+1=>by have:=FN W j;rw[S.ax];split<;>omega
def S.bO (n:Net)(e vars:List Int):Nat:=S.ax (S.aA n e vars (S.an n)) (S.nc (S.ae (S.aa n) vars) - 1)
def S.be (n:Net)(e vars:List Int):List Int:=S.ah (S.ae (S.aa n) vars) (S.bO n e vars:Int)
def S.bF (n:Net)(e vars:List Int):Int:=(S.aA n e vars (S.an n))[S.bO n e vars]?.getD 0
theorem Ib {d k:Nat}{P:Nat->Prop}{g:G}{l:List Int}{v:AV}{K:AV->G->Prop}{D:ADf->Prop}(hv:SlR P k g.h l v)(hP:∀i,P i->i<g.nx)(hl2:l.length<=1000)(kk:∀u g',Own g' g.nx u 1 (l.map ci)->Fr g g'->(∀i∈g'.lg,i∈g.lg\/g.nx<=i)->K u g') :
  (am C0 d N.aO [v] g).sat K g D:=by
 rw[oZ];refine Cn qZ (by simp[cW]) ?_
 by_cases hn:v=.nils
 ·subst hn;have hl:l=[]:=by have h:=hv.2;unfold SlV at h;exact h
  have hne:DZ false .slice .nils .nils=.val (.bool true):=rfl;simp only[sz,simprocAttr,cW,hne];exact kk _ _ (.inl ⟨rfl,by rw[hl];rfl⟩) (Fr.refl g) λi hi=>.inl hi
 ·have hne:DZ false .slice v .nils=.val (.bool false):=by
   have h:=hv.2;unfold SlV at h
   split at h
   ·exact absurd rfl hn
   ·rfl
   ·rfl
   ·rfl
   ·exact h.elim
  simp only[sz,simprocAttr,cW,hne];refine bh (b:=g.nx) (v:=.hsl g.nx 0 0 0 none) (rows:=[]) (new:=l.map ci) (.inr ⟨g.nx,0,false,Nat.le_refl _,by simp,rfl,by simp[H.get_put]⟩) ?_ (by simp) (by simp[aM];omega) λu g1 hu n1 f1 _ l1=>?_
  ·refine SlR.ints (P:=P) (k:=k) (hv.far8 λi hi=>?_);have:=hP i hi;simp[H.get_put,show ¬i=g.nx by omega]
  ·simp only[sz,simprocAttr];refine kk u g1 (by simpa using hu) ⟨by simp at n1;omega,λi hi=>by rw[f1 i (by simp;omega) (by simp[vid];omega)];simp[H.get_put,show ¬i=g.nx by omega]⟩ λi hi=>?_;rcases l1 i hi with h | h
   ·simp at h;rcases h with rfl | h
    ·exact .inr (Nat.le_refl _)
    ·exact .inl h
   ·exact .inr h
theorem KN {α:Type} [Rp α]{k:Nat}{h h':H}{l:List α}{v:AV}(hv:SlR NoP k h l v)(n:Nat):aG h' (n+1) v=[]:=by
 have r:=hv.2;unfold SlV at r
 split at r
 ·rfl
 ·rfl
 ·rfl
 ·exact r.1.elim
 ·exact r.elim
theorem Lf (h:H)(n t sz i off:Nat)(rows:List (List AV)):aG h n (.tptr t sz rows i off)=[]:=by cases n<;>rfl
theorem IB (n:Net)(e vars:List Int):S.aA n e vars 0=List.replicate (S.nc (S.ae (S.aa n) vars)) 0:=by
 refine List.ext_getElem? λi=>?_
 by_cases hi:i<(S.af (S.ae (S.aa n) vars)).toNat
 ·rw[jD hi,List.getElem?_replicate,S.nc,if_pos hi];rfl
 ·rw[List.getElem?_eq_none (by rw[ic];omega),List.getElem?_eq_none (by rw[List.length_replicate,S.nc];omega)]
theorem IX {n:Net}{e vars:List Int}{j i:Nat}(hj:j<S.an n)(hi:i<(S.af (S.ae (S.aa n) vars)).toNat)(hK:S.bo n vars j=(i:Int)) :
  ∃y x,(S.aA n e vars j)[i]?=some y/\(S.bh n e)[j]?=some x/\(S.aA n e vars j).set i (y+x)=S.aA n e vars (j+1)/\(S.aA n e vars (j+1))[i]?=some (y+x):=by
 refine ⟨_,_,jD hi,MQ hj,?_,?_⟩
 ·cases c:S.pe n e j with
  | true =>
   rw[if_pos rfl];exact Iq c hi hK
  | false =>
   rw[H3 c,if_neg (by decide),Int.add_zero];refine List.ext_getElem? λq=>?_;rw[List.getElem?_set]
   by_cases e1:i=q
   ·subst e1;rw[if_pos rfl,if_pos (by rw[ic];exact hi),jD hi]
   ·rw[if_neg e1]
 ·rw[jD hi,S.ap,S.pk];have:decide (S.ak (S.ae (S.aa n) vars) (S.ae (S.ah (S.aa n) (j:Int)) vars)=(i:Int))=true:=decide_eq_true hK;rw[this,Bool.and_true]
  rfl
theorem Fs {C:Cfg}{d:Nat}{r:List SR}{t:T}{g:G}{K:AV->G->Prop}{i j:Nat}(hi:g.h.get i=.dfr true)(hj:g.h.get j=.dfr true)(hij:i≠j)(h:wG r t ((g.put i (.dfr false)).put j (.dfr false)) λvs=>K (iI vs) ((g.put i (.dfr false)).put j (.dfr false))):wL C d r t [.mark i,.mark j] g K:=by
 unfold wL;have:eF (I C) d [.mark i,.mark j] g=some ((g.put i (.dfr false)).put j (.dfr false)):=by
  have hj':(g.put i (.dfr false)).h.get j=.dfr true:=by simp[H.get_put,show ¬j=i by omega,hj]
  simp only[eF,G.get_eq,hi,hj']
 rw[this];exact h
def LBs (p:Nat):List (Nat×AV):=[(1,.hptr 0 0 0 0),(4,.hptr p 0 0 0)]
theorem MU {d k:Nat}{g:G}{n:Net}{e vars:List Int}{m:Int}{q:AV}(hd:k<d)(hr:NR n)(hq:C4 n vars (S.bG n vars) (S.bh n e) m k q)(hp:S.aw vars (n.nodes.length:Int)=true) :
  ∃r,am C0 d N.bu [q] g=.val r/\yK (One (S.be n e vars)) (One (S.bF n e vars)) NoP 0 .nil r:=by
 have hq0:=hq;obtain ⟨t0,b,vw,ow,ww,e0,ht,hb,hv,ho,hww⟩:=hq0;have hl8:=hr.l2;have hvl:=dq hp (by omega);have hpv:=bD hp;have hpb:=bJ (ps:=vars) hr.cs (λp hpm=>by rw[aB];exact hpv p hpm);have hlp:(S.ae (S.aa n) vars).length=vars.length:=by simp[S.ae]
 have hcs:CsOk (S.ae (S.aa n) vars):=⟨hpb,by omega⟩;obtain ⟨N1,N2,N3⟩:=hcs.nc;obtain ⟨W1,W2,W3⟩:=hr.wl;have hol:(S.bG n vars).length<=n.nodes.length:=Ap _ _;have hd1:0<d+1:=Nat.succ_pos d;have hbx:∀g:G,Ea q g=.upd (.hptr g.nx 0 0 0) (g.new (.cells 1 [[q]] 0 false false)):=λg=>by rw[e0];rfl
 have iq:∀h,aG h aH q=[]:=λh=>by rw[e0];exact Lf h _ _ _ _ _ _
 have iv:∀h,aG h aH vw=[]:=λh=>KN hv _;have hfd:Ip 2 q=.val (.tptr t0 6 [[.int .i64 n.grain,b,vw,ow,ww,.int .i64 m]] 0 2):=by rw[e0];exact dA _ _ _ _ _ _
 have hnq:BZ q=.val q:=by rw[e0];rfl
 rw[nT];refine aP pL (xs:=[q]) (by rw[e0];simp only[aE,tp]) (by simp[ei]) (f_ (m:=1) (aJ _) (aJ _) (by decide) (by decide)) (by decide) (by omega) ?_;simp only[sz,simprocAttr,ei,hbx];obtain ⟨G0,hG0⟩:∃G0,G0=G.empty.new (.cells 1 [[q]] 0 false false):=⟨_,rfl⟩;have z0:G0.h.get 0=.cells 1 [[q]] 0 false false:=by rw[hG0];simp[H.get_put,show G.empty.nx=0 from rfl]
 have zn:G0.nx=1:=by rw[hG0];rfl
 rw[<-hG0];clear hG0;unfold gU;refine jH (P:=λt' df g'=>df=[]/\∃A p,St t' (LBs p)/\g'.h.get 0=.cells 1 [[q]] 0 false false/\g'.h.get A=.cells 1 ((List.replicate (S.nc (S.ae (S.aa n) vars)) 0).map ci) 0 false false/\g'.h.get p=.cells 1 [[.hsl A 0 0 (S.nc (S.ae (S.aa n) vars)) none]] 0 false false/\0<A/\A<p/\p<g'.nx) ?_ ?_
 ·simp only[sz,simprocAttr,sf,hnq,hfd,bC,z0];refine aR (B0 hd1 hq hpv (hv.tree (Nat.le_refl _)) (by omega)) λrc hrc=>?_;have ks:=λg:G=>E6 (d:=d+1) (g:=g) hd1 (hrc.sl g.h);have ir:∀h,aG h aH rc=[]:=λh=>KN (hrc.sl .nil) _;rw[pG hpb (by omega),<-N3] at ks;simp only[sz,simprocAttr,sf,ks];refine Js N2 λg1 m1 n1 u1 l1=>?_;simp only[sx,sy,sf] at m1 n1 u1 l1;have y0:g1.h.get 0=.cells 1 [[q]] 0 false false:=by rw[u1.1 0 (by omega)];simpa using z0
  have it:an (AV.tptr t0 6 [[.int .i64 n.grain,b,vw,ow,ww,.int .i64 m]] 0 2)=[]:=rfl;simp only[sz,simprocAttr,sf];refine ⟨?_,?_⟩
  ·simp only[List.reverse_cons,List.reverse_nil,List.nil_append,List.cons_append];refine aK [false,false,false,false,false,false,false,true,true,true] [(0,8),(1,8),(2,8),(3,8),(4,8),(5,8),(6,8),(7,8)] (by simp[All2,ap,aC,fG,qA]) (by decide) ?_;rintro p hp x y hx hy;simp only[List.mem_cons,List.not_mem_nil,or_false] at hp;rcases hp with rfl | rfl | rfl | rfl | rfl | rfl | rfl | rfl<;>(simp[fG,qA,hY,iq,iv,ir,sx] at hx hy;subst hx;subst hy;refine dK rfl rfl rfl rfl ?_ ?_ ?_<;>simp[ap,aC,jO,it,l1]<;>omega)
  ·refine ⟨G0.nx+7,g1.nx+1,by simp[St,LBs,sx],?_,?_,?_,by omega,by omega,by simp⟩
   ·simp[H.get_put,show ¬0=g1.nx+1 by omega,y0]
   ·simp[H.get_put,show ¬G0.nx+7=g1.nx+1 by omega,m1]
   ·simp[H.get_put]
 rintro t df g1 ⟨rfl,A,p,⟨h1,h4,-⟩,f0,fA,fp,hA,hAp,hpn⟩;refine jH (P:=λt' df g'=>∃dm,df=[.mark dm]/\g'.h.get dm=.dfr true/\p<dm/\dm<g'.nx/\St t' (LBs p)/\g'.h.get 0=.cells 1 [[q]] 0 false false/\(∃lo,g'.h.get A=.cells 1 ((S.aA n e vars (S.an n)).map ci) 0 lo false)/\g'.h.get p=.cells 1 [[.hsl A 0 0 (S.nc (S.ae (S.aa n) vars)) none]] 0 false false) ?_ ?_
 ·simp only[sz,simprocAttr,h1,f0];refine aR (Q:=λr=>∃tg,r=.clo N.aa [] [.tptr tg 1 [[q]] 0 0]) (by obtain ⟨tg,h⟩:=Gk (g:=g1) (Nat.lt_succ_of_lt hd) hq;exact ⟨_,h,tg,rfl⟩) ?_;rintro r ⟨tg,rfl⟩;simp only[sz,simprocAttr];refine Gs (n:=n) (vars:=vars) (oth:=S.bG n vars) (mw:=S.bh n e) (m:=m) (k:=k) (tg:=tg) hd1 hr hq hpv (by omega) NQ (by omega) (pP _ _ _) (by simp[sx]) (by decide) (by decide)
   (λj g'=>g'.h.get 0=.cells 1 [[q]] 0 false false/\(∃lo,g'.h.get A=.cells 1 ((S.aA n e vars j).map ci) 0 lo false)/\g'.h.get p=.cells 1 [[.hsl A 0 0 (S.nc (S.ae (S.aa n) vars)) none]] 0 false false) ?_ ⟨f0,⟨false,?_⟩,fp⟩ ?_ ?_
  ·rintro j g3 g4 hU ⟨a1,a2,a3⟩;exact ⟨by rw[hU _ (by omega),a1],by rw[hU _ (by omega)];exact a2,by rw[hU _ (by omega),a3]⟩
  ·rw[fA,IB]
  ·rintro j x u g3 hj hx ⟨a1,⟨lo,a2⟩,a3⟩ hn3 hu;simp only[sz,simprocAttr,fT];refine ⟨?_,λg5 n5 f5=>?_⟩
   ·exact O4 _ _ _
   have hin:=dk (λc hc=>(hr.cs c hc).1) (j:Int);have hC:=gx hin (ps:=vars) (λp hpm=>by rw[aB];exact hpv p hpm);have hoi:=L7 hr hpv j;obtain ⟨fn,hfn⟩:=Int.eq_ofNat_of_zero_le hoi.1;have hfl:fn<(S.af (S.ae (S.aa n) vars)).toNat:=by have:(S.bQ n vars:Int)=S.af (S.ae (S.aa n) vars):=N3;omega
   obtain ⟨y,x',hy,hx',hset,hnew⟩:=IX (e:=e) hj hfl hfn;rw[hx] at hx';injection hx' with hx';subst hx';have hyb:0<=y+x/\y+x<=171992678400000000:=by rw[jD hfl] at hnew;injection hnew with hnew;rw[<-hnew];exact td hr (by omega)
   have f6:∀i,i<g3.nx->i≠g1.nx+1->g5.h.get i=g3.h.get i:=λi h1 h2=>by rw[f5 i h2,if_neg (by omega),if_neg (by omega)]
   have gp5:g5.h.get g3.nx=.cells 2 [[.int .i64 (S.bo n (S.bG n vars) j),.int .i64 x]] 0 false false:=by rw[f5 _ (by omega),if_pos rfl]
   have b0:g5.h.get 0=.cells 1 [[q]] 0 false false:=by rw[f6 0 (by omega) (by omega),a1]
   have bA:g5.h.get A=.cells 1 ((S.aA n e vars j).map ci) 0 lo false:=by rw[f6 A (by omega) (by omega),a2]
   have bp:g5.h.get p=.cells 1 [[.hsl A 0 0 (S.nc (S.ae (S.aa n) vars)) none]] 0 false false:=by rw[f6 p (by omega) (by omega),a3]
   have hu5:SlR (λi=>vid u=some i) 0 g5.h (S.ae (S.ah (S.aa n) (j:Int)) vars) u:=by have h1:SlR (λi=>vid u=some i) 0 g3.h (S.ae (S.ah (S.aa n) (j:Int)) vars) u:=hu.sl (α:=Int) (by simp[S.ae];omega) (All2.of_map (λa=>aV.2 rfl) _) λi hi=>hi;exact h1.far8 λi hi=>by have:=hu.lt hi;exact f6 i (by omega) (by omega)
   have kn:=λ(g:G) (h:SlR (λi=>vid u=some i) 0 g.h (S.ae (S.ah (S.aa n) (j:Int)) vars) u)=>Fq (d:=d+1) (g:=g) (l:=S.ae (S.ah (S.aa n) (j:Int)) vars) (w:=u) hd1 hr hq hp h hC;have hox:S.ak (S.ae (S.aa n) vars) (S.ae (S.ah (S.aa n) (j:Int)) vars)=(fn:Int):=hfn;rw[hox] at kn;have oA:Own g5 0 (.hsl A 0 0 (S.nc (S.ae (S.aa n) vars)) none) 1 ((S.aA n e vars j).map ci):=.inr ⟨A,0,lo,by omega,by omega,by rw[List.length_map,ic];rfl,bA⟩;have z1:fn<((S.aA n e vars j).map ci).length:=by rw[List.length_map,ic];exact hfl
   have z2:((S.aA n e vars j).map ci)[fn]?=some (ci y):=by rw[List.getElem?_map,hy];rfl
   have ru:=oA.rows;have w1:IntKind.wrap .i64 (y+x)=y+x:=ax (by omega) (by omega);simp only[gc,sz,simprocAttr,sf,h1,h4,b0,bp];rw[kn _ ?hx]
   case hx=>simpa using hu5
   simp only[sz,simprocAttr,sf,ru,z1,z2,ci,gp5,w1];refine bQ (b:=0) (v:=.hsl A 0 0 (S.nc (S.ae (S.aa n) vars)) none) (sz:=1) (n:=1) (i:=fn) (off:=0) (x:=.int .i64 (y+x)) (row:=ci y) (row':=ci (y+x)) (oA.fr (by simp<;>omega) (λi' hi'=>by simp)) z2 rfl rfl rfl λg6 o6 n6 f7=>?_;rw[<-List.map_set,hset] at o6;have f8:∀i',i'≠A->g6.h.get i'=g5.h.get i':=λi' hi'=>by rw[f7 i' (by simpa [vid] using λh:A=i'=>hi' h.symm)];simp
   simp only[sy] at n6;simp only[sz,simprocAttr,sf];refine ⟨?_,?_⟩
   ·simp only[List.reverse_cons,List.reverse_nil,List.nil_append,List.cons_append];exact aK [false,false,false,false,false,false,false,false,false,false,true] [] (by simp[All2,ap,aC,lC]) (by decide) (by simp)
   rcases o6 with ⟨h,-⟩ | ⟨id,ep,lo2,-,-,h,hg⟩
   ·cases h
   injection h with e1 e2;subst e1;subst e2;refine ⟨by simp;omega,λi h1 h2=>by simp[f8 i (by omega)],.inl ⟨rfl,by rw[f8 0 (by omega),b0],⟨lo2,by simpa using hg⟩,by rw[f8 p (by omega),bp]⟩⟩
  ·rintro g' ⟨a1,a2,a3⟩ hn hdf;simp only[sz,simprocAttr];exact ⟨g1.nx,rfl,hdf,by omega,by omega,by simp[St,LBs,sx,h1,h4],a1,a2,a3⟩
 rintro t df g2 ⟨dm,rfl,hdm,hdm1,hdm2,⟨h1,h4,-⟩,f0,⟨lo,fA⟩,fp⟩;obtain ⟨cs,hcse⟩:∃cs,cs=S.ae (S.aa n) vars:=⟨_,rfl⟩;obtain ⟨W,hW⟩:∃W,W=S.aA n e vars (S.an n):=⟨_,rfl⟩;have hWl:W.length=S.nc cs:=by rw[hW,ic,hcse];rfl
 have hWb:∀i,i<S.nc cs->0<=W[i]?.getD 0:=λi hi=>by rw[hW,jD (by rw[hcse] at hi;exact hi)];exact (td hr W2).1
 have hB:S.be n e vars=S.ah cs (S.ax W (S.nc cs - 1):Int):=by rw[hcse,hW];rfl
 have hB2:S.bF n e vars=W[S.ax W (S.nc cs - 1)]?.getD 0:=by rw[hcse,hW];rfl
 rw[hB,hB2];rw[<-hW] at fA;rw[<-hcse] at hcs N1 N2 N3 hpb hlp fp;have hcc:=λc hc=>(hcs.b c hc).1;simp only[gi];refine eo (P:=λt' df g'=>df=[.mark dm]/\g'.nx=g2.nx+2/\(∀i,i<g2.nx->g'.h.get i=g2.h.get i)/\g'.h.get g2.nx=.cells 1 [[.nils]] 0 false false/\g'.h.get (g2.nx+1)=.cells 1 [[.int .i64 (-1)]] 0 false false/\St t' ((7,.hptr g2.nx 0 0 0)::(8,.hptr (g2.nx+1) 0 0 0)::LBs p)) ?_ ?_
 ·have hst:∀(g:G) (i:Nat),lj (.cells 1 [[.nils]] 0 false false) g i 0 0 1 0 .nils=.upd .undef (g.put i (.cells 1 [[.nils]] 0 false false)):=λg i=>rfl;simp only[sz,simprocAttr,H.get_put,hst,show ¬g2.nx=g2.nx+1 by omega,show ¬g2.nx+1=g2.nx by omega];simp[St,LBs,sx,h1,h4,H.get_put];intro i hi;rw[if_neg (by omega),if_neg (by omega),if_neg (by omega),if_neg (by omega)]
 rintro t df g3 ⟨rfl,n3,f3,e7,e8,h7,h8,h1,h4,-⟩;rw[dF,dF];simp only[sz,simprocAttr,h1,f3 0 (by omega),f0,hnq,hfd,bC];refine aR (B0 hd1 hq hpv (hv.tree (Nat.le_refl _)) (by omega)) λrc hrc=>?_;rw[<-hcse] at hrc;obtain ⟨z,kz,hz⟩:=yu (d:=d+1) (g:=aI g3 []) (w:=rc) (cs:=cs) hd1 (hrc.sl _);simp only[sz,simprocAttr,kz];refine BE (cs:=cs) (w:=z) hcs hz (by simp[sx]) (by decide) (by decide)
  (λj g'=>(∃lo,g'.h.get A=.cells 1 (W.map ci) 0 lo false)/\g'.h.get p=.cells 1 [[.hsl A 0 0 (S.nc cs) none]] 0 false false/\g'.h.get dm=.dfr true/\g'.h.get (g2.nx+1)=.cells 1 [[.int .i64 (if j=0 then -1 else W[S.ax W (j - 1)]?.getD 0)]] 0 false false /\
   ∃u,g'.h.get g2.nx=.cells 1 [[u]] 0 false false/\(j=0\/Own g' (g3.nx+3) u 1 ((S.ah cs (S.ax W (j - 1):Int)).map ci)))
  (λ_=>False) ?_ (λ_ _ _ h=>h) ?_ ?_ ?_ (λ_ h=>h.elim)
 ·rintro j g4 g5 ⟨hU,hn,hf⟩ ⟨⟨lo,a1⟩,a2,a3,a4,u,a5,a6⟩;exact ⟨⟨lo,by rw[hU.1 _ (by omega),a1]⟩,by rw[hU.1 _ (by omega),a2],by rw[hU.1 _ (by omega),a3],by rw[hU.1 _ (by omega),a4],u,by rw[hU.1 _ (by omega),a5],a6.imp id λh=>h.fr hn λi hi=>by have:=h.lt hi;exact hf i (by omega) (by omega)⟩
 ·exact ⟨⟨lo,by rw[f3 _ (by omega),fA]⟩,by rw[f3 _ (by omega),fp],by rw[f3 _ (by omega),hdm],e8,.nils,e7,.inl rfl⟩
 ·rintro j u g4 hj ⟨⟨lo,a1⟩,a2,a3,a4,u0,a5,a6⟩ hn4 hu;simp only[sz,simprocAttr,fR];refine ⟨Fr.refl _,λg5 n5 f5 u5=>?_⟩;have b1:g5.h.get A=.cells 1 (W.map ci) 0 lo false:=by rw[f5 _ (by omega),a1]
  have b2:g5.h.get p=.cells 1 [[.hsl A 0 0 (S.nc cs) none]] 0 false false:=by rw[f5 _ (by omega),a2]
  have b3:g5.h.get dm=.dfr true:=by rw[f5 _ (by omega),a3]
  have b4:=f5 (g2.nx+1) (by omega);rw[a4] at b4;have b5:g5.h.get g2.nx=.cells 1 [[u0]] 0 false false:=by rw[f5 _ (by omega),a5]
  have hu5:SlR (λi=>g3.nx+2<=i/\i<g4.nx) 0 g5.h (S.ah cs (j:Int)) u:=hu.far8 λi hi=>f5 i (by omega);have oA:Own g5 0 (.hsl A 0 0 (S.nc cs) none) 1 (W.map ci):=.inr ⟨A,0,lo,by omega,by omega,by rw[List.length_map,hWl],b1⟩;have ru:=oA.rows;obtain ⟨y,hy,-,-⟩:=af (l:=W) (j:=j) (by omega);have z1:j<(W.map ci).length:=by rw[List.length_map];omega
  have z2:(W.map ci)[j]?=some (ci y):=by rw[List.getElem?_map,hy];rfl
  have hyb:=hWb j hj;rw[hy,Option.getD_some] at hyb;obtain ⟨Gm,hG⟩:∃Gm,Gm=(if j=0 then (-1:Int) else W[S.ax W (j - 1)]?.getD 0):=⟨_,rfl⟩;rw[<-hG] at b4;have hwl:(S.ah cs (j:Int)).length<=8:=by rw[cL];exact hcs.l
  by_cases c:Gm<y
  ·have ham:S.ax W j=j:=by
    cases j with
    | zero=>rfl
    | succ j =>
     rw[if_neg (by omega),Nat.add_sub_cancel] at hG;rw[S.ax,hy,Option.getD_some,<-hG,if_pos c]
   simp only[dl,sz,simprocAttr,sf,h1,h4,h7,h8,b2,b4,ru,z1,z2,ci,c];refine Ib (l:=S.ah cs (j:Int)) (P:=λi=>g3.nx+2<=i/\i<g4.nx) (k:=0) (by simpa using hu5) (λi hi=>by simp;omega) (by omega) λu' g6 o6 fr6 l6=>?_;simp only[sy] at o6 fr6 l6;have f7:∀i,i<g5.nx->g6.h.get i=g5.h.get i:=λi hi=>by have:=fr6.2 i (by simp;omega);simpa using this
   have n6:g5.nx+1<=g6.nx:=by have:=fr6.1;simp at this;omega
   have oA6:Own g6 0 (.hsl A 0 0 (S.nc cs) none) 1 (W.map ci):=oA.fr (by omega) λi hi=>f7 i (by have:=oA.lt hi;omega);obtain ⟨vc,vt⟩:=o6.cell;simp only[sz,simprocAttr,sf,h4,h7,h8,f7 p (by omega),f7 g2.nx (by omega),f7 (g2.nx+1) (by omega),b2,b4,b5,oA6.rows,z1,z2,ci,vc,vt,show ¬g2.nx+1=g2.nx by omega];refine ⟨?_,?_⟩
   ·simp only[List.reverse_cons,List.reverse_nil,List.nil_append,List.cons_append];refine aK [false,true,false,false,false,false,true,true] [(1,2),(1,3),(1,4),(1,5),(2,6),(3,6),(4,6),(5,6)] (by simp[All2,ap,aC,o4,ch]) (by decide) ?_;rintro p' hp' x y' hx hy';simp only[List.mem_cons,List.not_mem_nil,or_false] at hp';have hl6:∀i∈g6.lg,g5.nx<i:=λi hi=>by have:=l6 i hi;simp at this;omega
    have a5:A<g5.nx:=by omega
    have ir:an (iz 1 (.hsl A 0 0 (S.nc cs) none) j 0)=[A]:=by rw[gT rfl];rfl
    have p5:p<g5.nx:=by omega
    have fresh:∀y:Foot,y.wr=[]->y.lk.big=false->(∀i∈y.lk.rd,i<g5.nx)->y.lk.sr=[]->∀x:Foot,x.wr=g6.lg->bF x y=true:=λy h1 h2 h3 h4 x h5=>EC (b:=g5.nx) (λi hi=>by rw[h5] at hi;exact Nat.le_of_lt (hl6 i hi)) h1 h2 h3 h4;rcases hp' with rfl | rfl | rfl | rfl | rfl | rfl | rfl | rfl<;>(simp at hx hy';subst hx;subst hy')
    ·exact fresh _ rfl rfl (by simp[ap,jO,p5]) rfl _ rfl
    ·exact fresh _ rfl rfl (by simp[aC]) rfl _ rfl
    ·exact fresh _ rfl rfl (by simp[ap,yX,a5]) rfl _ rfl
    ·exact fresh _ rfl rfl (by simp[ap,ir,a5]) rfl _ rfl
    all_goals (refine dK rfl rfl rfl rfl ?_ ?_ ?_<;>simp[ap,aC,jO,yX,ir]<;>omega)
   have e1:∀i,i<g5.nx->i≠g2.nx->i≠g2.nx+1->(if i=g2.nx+1 then AObj.cells 1 [[AV.int .i64 y]] 0 false false else if i=g2.nx then .cells 1 [[u']] 0 false false else g6.h.get i)=g5.h.get i:=λi h1 h2 h3=>by rw[if_neg h3,if_neg h2,f7 i h1]
   refine ⟨by simp<;>omega,λi h1 h2=>?_,.inl ⟨rfl,⟨lo,?_⟩,?_,?_,?_,u',?_,.inr ?_⟩⟩
   ·simpa [H.get_put] using e1 i h2 (by omega) (by omega)
   ·simpa [H.get_put,b1] using e1 A (by omega) (by omega) (by omega)
   ·simp[H.get_put,show ¬p=g2.nx+1 by omega,show ¬p=g2.nx by omega]
   ·simpa [H.get_put,b3] using e1 dm (by omega) (by omega) (by omega)
   ·simp[ham,hy]
   ·simp
   ·rw[ham];refine Own.fr (g:=g6) ?_ (by simp<;>omega) λi hi=>?_
    ·rcases o6 with h | ⟨id,ep,lo6,h1,h2⟩
     ·exact .inl h
     ·exact .inr ⟨id,ep,lo6,by omega,h2⟩
    ·have:=o6.lt hi;simp[H.get_put,show ¬i=g2.nx+1 by omega,show ¬i=g2.nx by omega]
  ·have ham:S.ax W j=S.ax W (j - 1)/\j≠0:=by
    cases j with
    | zero=>rw[if_pos rfl] at hG;omega
    | succ j =>
     rw[if_neg (by omega),Nat.add_sub_cancel] at hG;rw[S.ax,hy,Option.getD_some,<-hG,if_neg c];exact ⟨rfl,by omega⟩
   simp only[dl,sz,simprocAttr,sf,h1,h4,h7,h8,b2,b4,ru,z1,z2,ci,c];refine ⟨Nat.le_refl _,λ_ _ _=>rfl,.inl ⟨rfl,⟨lo,b1⟩,b3,?_,u0,b5,.inr ?_⟩⟩
   ·rw[ham.1,hG,if_neg ham.2]
   ·rw[ham.1];rcases a6 with h | h
    ·exact absurd h ham.2
    ·exact h.fr (by omega) λi hi=>by have:=h.lt hi;exact f5 i (by omega)
 ·rintro g' ⟨⟨lo,a1⟩,a2,a3,a4,u,a5,a6⟩ hn hdf;rw[if_neg (by omega)] at a4;have o7:Own g' (g3.nx+3) u 1 ((S.ah cs (S.ax W (S.nc cs - 1):Int)).map ci):=a6.elim (λh=>by omega) id;simp only[sz,simprocAttr,fW,h7,h8,a4,a5];show wL C0 (d+1) _ _ [.mark g3.nx,.mark dm] g' _;refine Fs hdf a3 (by omega) ?_;simp only[sz,simprocAttr];have o8:Own ((g'.put g3.nx (.dfr false)).put dm (.dfr false)) (g3.nx+3) u 1 ((S.ah cs (S.ax W (S.nc cs - 1):Int)).map ci):=o7.fr (by simp) λi hi=>by have:=o7.lt hi;simp[H.get_put,show ¬i=g3.nx by omega,show ¬i=dm by omega]
  exact ⟨λ_=>True,_,_,rfl,o8.ints (by rw[cL];have:=hcs.l;omega),aV.2 rfl⟩
theorem Jb {d:Nat}{g:G}{x y:Nat}(hd:0<d)(hx:x<=4611686018427387903)(hy0:0<y)(hy:y<=4611686018427387903) :
  am C0 d N.aR [.int .i64 (x:Int),.int .i64 (y:Int)] g=.val (.agg [.int .i64 (S.aO x y).1,.int .i64 (S.aO x y).2]):=by
 have key:∃r,am C0 d N.aR [.int .i64 (x:Int),.int .i64 (y:Int)] g=.val r/\Agg (S.aO x y) NoP 0 .nil r:=by
  obtain ⟨q0,q1,q2,q3⟩:=BQ (x:=x) hy0;rw[xf];refine aP zf (xs:=[.int .i64 (x:Int),.int .i64 (y:Int)]) (by simp only[aE,cX 0]) (by simp[nJ]) (cd _) (by decide) hd ?_;have hm:max (x:Int) (-(x:Int))=(x:Int):=by omega
  simp only[sz,simprocAttr,nJ,qP,Hw (show x<9223372036854775808 by omega),hm];refine eV (λb t df g=>df=[]/\∃a:Nat,St t [(0,.int .i64 (x:Int)),(1,.int .i64 (y:Int)),(4,.hptr 0 0 0 0),(5,.int .i64 (a:Int)),(6,.int .i64 (b:Int))]/\Nat.gcd a b=Nat.gcd x y/\a<9223372036854775808/\b<=y/\g.h.get 0=.cells 2 [[.int .i64 0,.int .i64 0]] 0 false false/\g.nx=1) y
   ⟨rfl,x,by simp[St,sx],rfl,by omega,Nat.le_refl _,by simp[H.get_put,show G.empty.nx=0 from rfl],by simp[show G.empty.nx=0 from rfl]⟩ ?_
  rintro b t df g ⟨rfl,a,⟨h0,h1,h4,h5,h6,-⟩,hgc,ha,hby,g0,gn⟩
  by_cases hb:b=0
  ·subst hb;rw[Nat.gcd_zero_right] at hgc;subst hgc;have fw:d6 [.int .i64 0,.int .i64 0] [((0,1),.int .i64 ((x / Nat.gcd x y:Nat):Int)),((1,1),.int .i64 ((y / Nat.gcd x y:Nat):Int))]=some [.int .i64 ((x / Nat.gcd x y:Nat):Int),.int .i64 ((y / Nat.gcd x y:Nat):Int)]:=rfl;simp only[jk,pB,sz,simprocAttr,sf,h0,h1,h4,h5,h6,sY (show x<9223372036854775808 by omega) q0,sY (show y<9223372036854775808 by omega) q0,fw,g0];refine ⟨?_,⟨λ_=>True,qX.2 rfl⟩⟩;simp only[List.reverse_cons,List.reverse_nil,List.nil_append,List.cons_append];exact aK [false,false,false,false,false,false,false,true] [] (by simp[All2,ap,aC]) (by decide) (by simp)
  ·have hb':¬(b:Int)=0:=by omega
   have hlt:=Nat.mod_lt a (Nat.pos_of_ne_zero hb);simp only[jk,sz,simprocAttr,h5,h6,hb',yk (x:=a) (Nat.pos_of_ne_zero hb)];refine ⟨a % b,hlt,b,?_,?_,by omega,by omega,g0,gn⟩
   ·simp[St,sx,h0,h1,h4,h5,h6]
   ·rw[<-hgc,Nat.gcd_comm a b,Nat.gcd_comm b (a % b),<-Nat.gcd_rec]
 obtain ⟨r,hr,hc⟩:=key;rw[hr,qX.1 hc]
def S.aJ (n:Net)(e vars:List Int):Int:=if S.aH n e vars=0 then (if S.bc n e=0 then 7 else 0) else S.aH n e vars
def S.aY (n:Net)(e vars:List Int):List Int:=if S.aJ n e vars=0 then S.be n e vars else []
def S.aR (n:Net)(e vars:List Int):QI:=if S.aJ n e vars=0 then S.aO (S.bF n e vars).toNat (S.bc n e).toNat else (0,0)
def Di (n:Net)(e vars:List Int):VS:=OM (One (S.aY n e vars)) (Agg (S.aR n e vars)) (One (S.aJ n e vars))
theorem G6 (n:Net)(e vars:List Int):Snb (Di n e vars) 2:=Kc (m:=2) (aJ _) (cd _) (aJ _) (by decide) (by decide) (by decide)
theorem B7 {n:Net}{e vars:List Int}{r:AV}(h:Di n e vars NoP 0 .nil r):∃a,r=.tup [a,.agg [.int .i64 (S.aR n e vars).1,.int .i64 (S.aR n e vars).2],.int .i64 (S.aJ n e vars)]/\SlR NoP 0 .nil (S.aY n e vars) a:=by obtain ⟨a,b,c,rfl,⟨a',ha',ha⟩,hb,hc⟩:=h;injection ha' with ha';subst ha';have hc:=aV.1 hc;injection hc with hc;rw[qX.1 hb,hc];exact ⟨_,rfl,ha⟩
theorem uO {n:Net}{e vars:List Int}{P:Nat->Prop}{h:H}{E:Int}(hE:S.aJ n e vars=E)(h0:E≠0):Di n e vars P 0 h (.tup [.nils,.agg [.int .i64 0,.int .i64 0],.int .i64 E]):=by
 have hL:S.aY n e vars=[]:=by rw[S.aY,if_neg (by rw[hE];exact h0)]
 have hQ:S.aR n e vars=(0,0):=by rw[S.aR,if_neg (by rw[hE];exact h0)]
 unfold Di;rw[hL,hQ,hE];exact ⟨_,_,_,rfl,⟨.nils,rfl,by simp,rfl⟩,qX.2 rfl,aV.2 rfl⟩
theorem xD {n:Net}(hr:NR n)(e vars:List Int):0<=S.bF n e vars/\S.bF n e vars<=171992678400000000:=by
 have hw:=hr.wl.2.1;unfold S.bF
 by_cases c:S.bO n e vars<(S.af (S.ae (S.aa n) vars)).toNat
 ·rw[jD c];exact td hr hw
 ·rw[List.getElem?_eq_none (by rw[ic];omega)];decide
theorem Ms {d k1 k2:Nat}{P1 P2:Nat->Prop}{g:G}{n:Net}{e vars:List Int}{v w u:AV}(hd:0<d)(hm:Agg n NoP 0 g.h v)(he:SlR P1 k1 g.h e w)(hv:SlR P2 k2 g.h vars u)(hk2:k2<=d) :
  ∃r,am C0 d N.bL [v,w,u] g=.val r/\Di n e vars NoP 0 .nil r:=by
 obtain ⟨b,rows,rfl,e1,hm',hN,r1,r2,r3,r4⟩:=cY d hm;obtain ⟨w',e2,hw'⟩:=aN he d;obtain ⟨u',e3,hu'⟩:=aN hv d;rw[wM];refine aP y9 (xs:=[.agg [.int .i64 n.grain,b],w',u']) (by simp only[aE,e1,e2,e3]) (by simp[oe]) (G6 n e vars) (by decide) hd ?_;have fw0:d6 [.int .i64 0,.int .i64 0] []=some [.int .i64 0,.int .i64 0]:=rfl;simp only[sz,simprocAttr,oe,qz];refine aR (C5 (n:=n) (e:=e) (vars:=vars) (kv:=max k2 d) (by omega) (hm' _) (hw' _) (hu' _)) λr hns=>?_;rcases Lh hns with ⟨c,p,rfl,hp⟩ | ⟨c,rfl⟩
 ·obtain ⟨⟨hr,hev⟩,hpl⟩:=EH.1 c
  by_cases c2:S.bc n e=0
  ·have hE:S.aJ n e vars=7:=by rw[S.aJ,if_pos c,if_pos c2]
   have hp0:=hp;obtain ⟨t0,bb,vw,ow,ww,rfl,-⟩:=hp0;simp only[sz,simprocAttr,iB,dA,bC,c2,fw0];exact ⟨λ_=>True,uO hE (by decide)⟩
  ·have hE:S.aJ n e vars=0:=by rw[S.aJ,if_pos c,if_neg c2]
   have hp0:=hp;obtain ⟨t0,bb,vw,ow,ww,rfl,-⟩:=hp0;simp only[sz,simprocAttr,iB,dA,bC,c2];refine aR (MU (Nat.lt_succ_of_le (Nat.max_le.2 ⟨hk2,Nat.le_refl d⟩)) hr hp hpl) ?_;rintro r ⟨a,c',rfl,⟨a',ha',ha⟩,hc'⟩;injection ha' with ha';subst ha';have hc':=aV.1 hc';injection hc' with hc';subst hc';have hb:=xD hr e vars;have hm0:=xw hr e;obtain ⟨bw,hbw⟩:=Int.eq_ofNat_of_zero_le hb.1;obtain ⟨ms,hms⟩:=Int.eq_ofNat_of_zero_le hm0.1;have hQ:S.aR n e vars=S.aO bw ms:=by rw[S.aR,if_pos hE,hbw,hms];rfl
   have hL:S.aY n e vars=S.be n e vars:=by rw[S.aY,if_pos hE]
   have kr:=λg=>Jb (d:=d+1) (g:=g) (x:=bw) (y:=ms) (by omega) (by omega) (by omega) (by omega);obtain ⟨ac,at'⟩:=ha.cell;simp only[sz,simprocAttr,iB,dA,bC,hbw,hms,kr,ac,at'];refine ⟨λ_=>True,?_⟩;unfold Di;rw[hL,hQ,hE];exact ⟨_,_,_,rfl,⟨_,rfl,ha.wide (Nat.le_refl 0)⟩,qX.2 rfl,aV.2 rfl⟩
 ·have hE:S.aJ n e vars=S.aH n e vars:=by rw[S.aJ,if_neg c]
  simp only[sz,simprocAttr,c,fw0];exact ⟨λ_=>True,uO hE c⟩
def S.ba (n:Net)(e vars l:List Int):Int:=S.ap n (λw=>S.pe n e w&&S.bk n vars l w) (S.an n)
theorem Lc {d k1 k2 k3:Nat}{P1 P2 P3:Nat->Prop}{g:G}{n:Net}{e vars l:List Int}{v w u z:AV}(hd:0<d)(hm:Agg n NoP 0 g.h v)(he:SlR P1 k1 g.h e w)(hv:SlR P2 k2 g.h vars u)(hl:SlR P3 k3 g.h l z)(hr:NR n)(hel:e.length=n.nodes.length)(hp:S.aw vars (n.nodes.length:Int)=true)(hbl:l.length<=vars.length) :
  am C0 d N.aD [v,w,u,z] g=.val (.int .i64 (S.ba n e vars l)):=by
 obtain ⟨b,rows,rfl,e1,hm',hN,-⟩:=cY d hm;obtain ⟨w',e2,hw'⟩:=aN he d;obtain ⟨u',e3,hu'⟩:=aN hv d;obtain ⟨z',e4,hz'⟩:=aN hl d;obtain ⟨W1,W2,W3⟩:=hr.wl;have hd1:=Nat.succ_pos d;have hw:=λg=>yG (d:=d+1) (g:=g) (P:=NoP) (k:=0) hd1 (hm' g.h) hr;rw[vY];refine dM x9 (xs:=[.agg [.int .i64 n.grain,b],w',u',z']) (by simp only[aE,e1,e2,e3,e4]) (by simp[lY]) hd ?_;simp only[sz,simprocAttr,lY,oC,m7,mV];refine bu (S.an n) (by omega) (λj t df g=>df=[]/\g.h.get 0=.cells 2 [[.int .i64 n.grain,b]] 0 false false/\St t [(1,w'),(2,u'),(3,z'),(4,.hptr 0 0 0 0),(9,.int .i64 (S.ap n (λw=>S.pe n e w&&S.bk n vars l w) j))])
  ⟨rfl,by simp[H.get_put,show G.empty.nx=0 from rfl],by simp[St,sx,S.ap,show G.empty.nx=0 from rfl]⟩ (by simp[sx]) (by decide)
  (by rintro i t df g v s (rfl | rfl | rfl) ⟨a1,a2,⟨b1,b2,b3,b4,b5,-⟩⟩<;>exact ⟨a1,a2,by simp[St,sx,b1,b2,b3,b4,b5]⟩) ?_ ?_ ?_
 ·rintro j t df g3 hj ⟨rfl,g0,⟨h1,h2,h3,h4,h9,-⟩⟩ h10;simp only[sz,simprocAttr,h4,h10,g0,hw];simp[St,sx,h1,h2,h3,h4,h9]
 ·rintro j t df g3 hj ⟨rfl,g0,⟨h1,h2,h3,h4,h9,-⟩⟩ h10;have hvl:=cL (S.aa n) (j:Int);rw[aB] at hvl;simp only[sz,simprocAttr,h4,h10,g0];refine aR (ug (d:=d+1) (P:=NoP) (k:=0) (w:=j) hd1 (hm' _) hr (by omega)) λrv hrv=>?_;have hma:=λg=>xh (d:=d+1) (g:=g) (P:=NoP) (P2:=NoP) (k:=0) (k2:=max k1 d) (vals:=S.ah (S.aa n) (j:Int)) (e:=e) hd1 (hrv.sl g.h) (hw' g.h) (by omega);have hbe:=λg:G=>FA (d:=d+1) (g:=g) (vals:=S.ah (S.aa n) (j:Int)) (vars:=vars) (l:=l) hd1 (hrv.sl g.h) (hu' g.h) (hz' g.h) (by rw[hvl];exact bD hp) hbl;have hpe:S.aM (S.ah (S.aa n) (j:Int)) e=S.pe n e j:=rfl;have hbg:decide ((S.ae (S.ah (S.aa n) (j:Int)) vars).take l.length=l)=S.bk n vars l j:=rfl;rw[hpe] at hma;rw[hbg] at hbe;have hwt:∀g,am C0 (d+1) N.ay [.agg [.int .i64 n.grain,b],.int .i64 (j:Int)] g=.val (.int .i64 (S.wt n j)):=λg=>At (d:=d+1) (g:=g) (w:=j) hd1 (hm' g.h) hr (by omega);cases c1:S.pe n e j with
  | false =>
   rw[c1] at hma;simp only[sz,simprocAttr,h1,h2,h3,hma];exact ⟨⟨g0,by simp[St,sx,h1,h2,h3,h4,h9,S.ap,c1]⟩,by simp[sx,h10]⟩
  | true =>
   rw[c1] at hma;cases c2:S.bk n vars l j with
   | false =>
    rw[c2] at hbe;simp only[sz,simprocAttr,h1,h2,h3,hma,hbe];exact ⟨⟨g0,by simp[St,sx,h1,h2,h3,h4,h9,S.ap,c2]⟩,by simp[sx,h10]⟩
   | true =>
    rw[c2] at hbe;have s1:S.ap n (λw=>S.pe n e w&&S.bk n vars l w) (j+1)=S.ap n (λw=>S.pe n e w&&S.bk n vars l w) j+S.wt n j:=by rw[S.ap,c1,c2];rfl
    have s2:=td hr (p:=λw=>S.pe n e w&&S.bk n vars l w) (j:=j+1) (by omega);have w1:IntKind.wrap .i64 (S.ap n (λw=>S.pe n e w&&S.bk n vars l w) j+S.wt n j)=S.ap n (λw=>S.pe n e w&&S.bk n vars l w) (j+1):=by rw[<-s1,ax (by omega) (by omega)]
    simp only[sz,simprocAttr,h1,h2,h3,h4,h9,h10,g0,hma,hbe,hwt,w1];simp[St,sx,h1,h2,h3,h4,h10]
 ·rintro t df g ⟨rfl,-,⟨-,-,-,-,h9,-⟩⟩;simp only[sz,simprocAttr,nk,h9,S.ba]
theorem Ht {n:Net}{e vars:List Int}{i:Nat}(hr:NR n)(hp:S.aw vars (n.nodes.length:Int)=true)(hcs:CsOk (S.ae (S.aa n) vars))(hi:i<S.nc (S.ae (S.aa n) vars)) :
  (S.aA n e vars (S.an n))[i]?=some (S.ba n e vars (S.ah (S.ae (S.aa n) vars) (i:Int))):=by
 rw[jD hi];congr 1;refine zc λw _=>?_;have hin:=dk (λc hc=>(hr.cs c hc).1) (w:Int);have hC:=gx hin (ps:=vars) (λp hpm=>by rw[aB];exact bD hp p hpm);have hc1:=λc hc=>(hcs.b c hc).1;rw[S.pk];congr 1;rw[S.bk,cL,<-hC.len,List.take_length];refine decide_eq_decide.2 ⟨λh=>?_,λh=>?_⟩
 ·rw[<-h,gD hc1 hC]
 ·rw[h,yE hcs i hi]
theorem J2 {d k1 k2:Nat}{P1 P2:Nat->Prop}{g:G}{n:Net}{e vars:List Int}{v w u:AV}(hd:0<d)(hm:Agg n NoP 0 g.h v)(he:SlR P1 k1 g.h e w)(hv:SlR P2 k2 g.h vars u)(hr:NR n)(hel:e.length=n.nodes.length)(hp:S.aw vars (n.nodes.length:Int)=true) :
  ∃r,am C0 d N.bQ [v,w,u] g=.val r/\IT 0 (S.be n e vars) r:=by
 obtain ⟨b,rows,rfl,e1,hm',hN,-⟩:=cY d hm;obtain ⟨w',e2,hw'⟩:=aN he d;obtain ⟨u',e3,hu'⟩:=aN hv d;have hl8:=hr.l2;have hpn:=dq hp (by omega);have hpb:=bJ (ps:=vars) hr.cs (λp hpm=>by rw[aB];exact bD hp p hpm);have hlp:(S.ae (S.aa n) vars).length=vars.length:=by simp[S.ae]
 have hcs:CsOk (S.ae (S.aa n) vars):=⟨hpb,by omega⟩;obtain ⟨N1,N2,N3⟩:=hcs.nc;obtain ⟨cs,hcse⟩:∃cs,cs=S.ae (S.aa n) vars:=⟨_,rfl⟩;obtain ⟨W,hW⟩:∃W,W=S.aA n e vars (S.an n):=⟨_,rfl⟩;have hWi:∀i,i<S.nc cs->W[i]?=some (S.ba n e vars (S.ah cs (i:Int))):=λi hi=>by rw[hW,hcse];exact Ht hr hp hcs (by rw[<-hcse];exact hi)
 have hB:S.be n e vars=S.ah cs (S.ax W (S.nc cs - 1):Int):=by rw[hcse,hW];rfl
 rw[hB];rw[<-hcse] at hpb hlp hcs N1 N2 N3;have hd1:=Nat.succ_pos d;have kw:=λ(g:G) (x:AV) (i:Nat) (hx:SlR NoP 0 .nil (S.ah cs (i:Int)) x)=>Lc (d:=d+1) (g:=g) (l:=S.ah cs (i:Int)) hd1 (hm' g.h) (hw' g.h) (hu' g.h) (hx.wide (P:=NoP) (h':=g.h) (k':=0) (Nat.le_refl 0)) hr hel hp (by rw[cL];omega);rw[xK];refine aP AG (xs:=[.agg [.int .i64 n.grain,b],w',u']) (by simp only[aE,e1,e2,e3]) (by simp[qq]) (aJ _) (by decide) hd ?_;simp only[sz,simprocAttr,qq,rt];refine aR (EI (n:=n) (l:=vars) hd1 (hm' _) (hu' _) hl8 (by omega) (bD hp)) λrc hrc=>?_;rw[<-hcse] at hrc;simp only[sz,simprocAttr];refine aR (LL hd1 (hrc.sl _) hcs) λra hra=>?_;obtain ⟨ra',e5,hra⟩:=hra;injection e5 with e5;subst e5;obtain ⟨rs,s1,s2,s3,s4⟩:=SlR.all hra;have s1:∀h',ak h' 1 ra=some rs:=s1;have al:(S.a_ cs (S.nc cs)).length=S.nc cs:=by simp[S.a_]
 have hat:∀i,i<S.nc cs->∃x,rs[i]?=some [x]/\SlR NoP 0 .nil (S.ah cs (i:Int)) x:=λi hi=>by obtain ⟨row,q1,q2⟩:=s3 i (S.ah cs (i:Int)) (by simp[S.a_,hi]);obtain ⟨x,rfl,hx⟩:=di.1 q2;exact ⟨x,q1,hx⟩
 have lr:∀g,dt .slice ra g=.val (.int .i64 (S.nc cs:Int)):=λg=>by rw[bZ (s1 .nil)];congr 3;omega
 obtain ⟨x0,x1,x2⟩:=hat 0 (by omega);have y0:0<rs.length:=by omega
 have hi0:∀g,AQ 1 ra (.int .i64 0) g=.val (iz 1 ra 0 0):=λg=>yL (s1 g.h) y0 g rfl;simp only[sz,simprocAttr,hi0,s1,y0,x1];refine eV (λm t df g=>df=[]/\∃(j:Nat) (x:AV),m=S.nc cs - j/\1<=j/\j<=S.nc cs/\g.h.get 0=.cells 2 [[.int .i64 n.grain,b]] 0 false false/\SlR NoP 0 .nil (S.ah cs (S.ax W (j - 1):Int)) x/\St t [(1,w'),(2,u'),(3,.hptr 0 0 0 0),(7,ra),(8,x),(9,.int .i64 (j:Int))]) (S.nc cs - 1)
  ⟨rfl,1,x0,rfl,Nat.le_refl _,N1,by simp[H.get_put,show G.empty.nx=0 from rfl],x2,by simp[St,sx]⟩ ?_
 rintro m t df g ⟨rfl,j,x,rfl,j1,j2,g0,hx,⟨h1,h2,h3,h7,h8,h9,-⟩⟩
 by_cases c:j<S.nc cs
 ·have c':(j:Int)<(S.nc cs:Int):=by omega
  obtain ⟨y,y1,y2⟩:=hat j c;have hlt:j<rs.length:=by omega
  have hal:=FN W (j - 1);have ka:W[S.ax W (j - 1)]?.getD 0=S.ba n e vars (S.ah cs (S.ax W (j - 1):Int)):=by rw[hWi _ (by omega)];rfl
  have kb:W[j]?.getD 0=S.ba n e vars (S.ah cs (j:Int)):=by rw[hWi _ c];rfl
  have kam:S.ax W j=if S.ba n e vars (S.ah cs (S.ax W (j - 1):Int))<S.ba n e vars (S.ah cs (j:Int)) then j else S.ax W (j - 1):=by obtain ⟨i,rfl⟩:∃i,j=i+1:=⟨j - 1,by omega⟩;rw[Nat.add_sub_cancel] at ka ⊢;rw[S.ax,ka,kb]
  have w1:IntKind.wrap .i64 ((j:Int)+1)=((j+1:Nat):Int):=by rw[ax (by omega) (by omega)];rfl
  have k1:=λg=>kw g y j y2;have k2:=λg=>kw g x (S.ax W (j - 1)) hx
  by_cases c2:S.ba n e vars (S.ah cs (S.ax W (j - 1):Int))<S.ba n e vars (S.ah cs (j:Int))
  ·rw[if_pos c2] at kam;simp only[sz,simprocAttr,gk,ku,h1,h2,h3,h7,h8,h9,lr,c',s1,hlt,y1,g0,k1,k2,c2,w1];exact ⟨S.nc cs - (j+1),by omega,j+1,y,rfl,by omega,by omega,by rw[Nat.add_sub_cancel,kam];exact y2,by simp[St,sx,h1,h2,h3,h7]⟩
  ·rw[if_neg c2] at kam;simp only[sz,simprocAttr,gk,ku,h1,h2,h3,h7,h8,h9,lr,c',s1,hlt,y1,g0,k1,k2,c2,w1];exact ⟨S.nc cs - (j+1),by omega,j+1,x,rfl,by omega,by omega,by rw[Nat.add_sub_cancel,kam];exact hx,by simp[St,sx,h1,h2,h3,h7,h8]⟩
 ·have e6:j=S.nc cs:=by omega
  have c':¬(j:Int)<(S.nc cs:Int):=by omega
  subst e6;simp only[sz,simprocAttr,gk,qS,h7,h8,h9,lr,c'];exact ⟨NoP,x,rfl,hx.tree (Nat.le_refl 0)⟩
theorem LR {d k1 k2:Nat}{P1 P2:Nat->Prop}{g:G}{n:Net}{e vars:List Int}{v w u:AV}(hd:0<d)(hm:Agg n NoP 0 g.h v)(he:SlR P1 k1 g.h e w)(hv:SlR P2 k2 g.h vars u) :
  ∃r,am C0 d N.bS [v,w,u] g=.val r/\Di n e vars NoP 0 .nil r:=by
 obtain ⟨b,rows,rfl,e1,hm',hN,-⟩:=cY d hm;obtain ⟨w',e2,hw'⟩:=aN he d;obtain ⟨u',e3,hu'⟩:=aN hv d;have hd1:=Nat.succ_pos d;have ke:=λg=>Mp (d:=d+1) (g:=g) hd1 (hm' g.h) (hw' g.h) (hu' g.h);rw[ze];refine aP CT (xs:=[.agg [.int .i64 n.grain,b],w',u']) (by simp only[aE,e1,e2,e3]) (by simp[jW]) (G6 n e vars) (by decide) hd ?_;have fw0:d6 [.int .i64 0,.int .i64 0] []=some [.int .i64 0,.int .i64 0]:=rfl
 by_cases c:S.aH n e vars=0
 ·obtain ⟨⟨hr,hev⟩,hpl⟩:=EH.1 c;have hel:=(DV hev).1;have km:=λg=>Kb (d:=d+1) (g:=g) hd1 (hm' g.h) hr (hw' g.h) hel;have hm0:=xw hr e
  by_cases c2:S.bc n e=0
  ·have hE:S.aJ n e vars=7:=by rw[S.aJ,if_pos c,if_pos c2]
   simp only[sz,simprocAttr,jW,jB,ke,c,km,c2,fw0];exact ⟨λ_=>True,uO hE (by decide)⟩
  ·have hE:S.aJ n e vars=0:=by rw[S.aJ,if_pos c,if_neg c2]
   simp only[sz,simprocAttr,jW,jB,ke,c,km,c2];refine aR (J2 (n:=n) (e:=e) (vars:=vars) hd1 (hm' _) (hw' _) (hu' _) hr hel hpl) λrb hrb=>?_;have hb:=xD hr e vars;obtain ⟨bw,hbw⟩:=Int.eq_ofNat_of_zero_le hb.1;obtain ⟨ms,hms⟩:=Int.eq_ofNat_of_zero_le hm0.1;have hl8:=hr.l2;have hpn:=dq hpl (by omega);have hpb:=bJ (ps:=vars) hr.cs (λp hpm=>by rw[aB];exact bD hpl p hpm);have hlp:(S.ae (S.aa n) vars).length=vars.length:=by simp[S.ae]
   have hcs:CsOk (S.ae (S.aa n) vars):=⟨hpb,by omega⟩;have hlt:S.bO n e vars<S.nc (S.ae (S.aa n) vars):=by have h1:=FN (S.aA n e vars (S.an n)) (S.nc (S.ae (S.aa n) vars) - 1);have h2:=hcs.nc.1;unfold S.bO;omega
   have hwt:S.ba n e vars (S.be n e vars)=(bw:Int):=by
    have:=Ht (e:=e) hr hpl hcs hlt;have h2:S.bF n e vars=S.ba n e vars (S.be n e vars):=by rw[S.bF,this];rfl
    rw[<-h2,hbw]
   have kw:=λg:G=>Lc (d:=d+1) (g:=g) (l:=S.be n e vars) hd1 (hm' g.h) (hw' g.h) (hu' g.h) (hrb.sl g.h) hr hel hpl (by rw[S.be,cL];omega);have hQ:S.aR n e vars=S.aO bw ms:=by rw[S.aR,if_pos hE,hbw,hms];rfl
   have hL:S.aY n e vars=S.be n e vars:=by rw[S.aY,if_pos hE]
   have kr:=λg=>Oh (d:=d+1) (g:=g) (x:=bw) (y:=ms) hd1 (by omega) (by omega) (by omega);simp only[sz,simprocAttr,kw,hwt,hms,kr];refine ⟨λ_=>True,?_⟩;unfold Di;rw[hL,hQ,hE];exact ⟨_,_,_,rfl,⟨_,rfl,(hrb.sl .nil).wide (Nat.le_refl 0)⟩,qX.2 rfl,aV.2 rfl⟩
 ·have hE:S.aJ n e vars=S.aH n e vars:=by rw[S.aJ,if_neg c]
  simp only[sz,simprocAttr,jW,jB,ke,c,fw0];exact ⟨λ_=>True,uO hE c⟩
theorem ny {l:List Int}{n:Int}{i:Nat}:S.aG l n i=true↔0<=l[i]?.getD 0/\l[i]?.getD 0<n/\(i=0\/l[i - 1]?.getD 0<l[i]?.getD 0):=by simp[S.aG,and_assoc]
theorem Eg {l:List Int}{n m:Int}(h:S.aw l n=true)(hn:n<=m):S.aw l m=true:=by refine List.all_eq_true.2 λi hi=>?_;have:=ny.1 (List.all_eq_true.1 h i hi);exact ny.2 ⟨this.1,by omega,this.2.2⟩
theorem Dw {l:List Int}{j:Nat}(h:S.aw l (j:Int)=true):S.aw (l++[(j:Int)]) ((j+1:Nat):Int)=true:=by
 refine List.all_eq_true.2 λi hi=>?_;have hi:=List.mem_range.1 hi;rw[List.length_append,List.length_singleton] at hi;rw[ny]
 by_cases c:i<l.length
 ·have:=ny.1 (List.all_eq_true.1 h i (List.mem_range.2 c));rw[List.getElem?_append_left c,List.getElem?_append_left (by omega)];exact ⟨this.1,by omega,this.2.2⟩
 ·have e:i=l.length:=by omega
  subst e;rw[List.getElem?_append_right (Nat.le_refl _),Nat.sub_self,List.getElem?_cons_zero,Option.getD_some];refine ⟨by omega,by omega,?_⟩
  by_cases c0:l.length=0
  ·exact .inl c0
  ·right;rw[List.getElem?_append_left (by omega),List.getElem?_eq_getElem (by omega),Option.getD_some];exact (bD h _ (List.getElem_mem _)).2
def OO (m:Nat):VS:=λP k h v=>∃l:List Int,S.aw l (m:Int)=true/\Ix l P k h v
theorem MY (m:Nat):Snb (OO m) 0:=mY λl=>sA l
theorem Ko {d m:Nat}{s:UInt8}{g:G}(hd:0<d)(hm:m<=8):∃r,am C0 d N.bF [u8v s,.int .i64 (m:Int)] g=.val r/\OO m NoP 0 .nil r:=by
 rw[wc];refine aP yO (xs:=[u8v s,.int .i64 (m:Int)]) (by simp only[aE,u8v,cX]) (by simp[oh]) (MY m) (by decide) hd ?_;simp only[sz,simprocAttr,oh,oB,pq];refine bu m (by omega) (λj t df g=>df=[]/\St t [(0,u8v s),(1,.int .i64 (m:Int))]/\∃l:List Int,S.aw l (j:Int)=true/\Own g 0 (tat t 5) 1 (l.map ci)) ⟨rfl,by simp[St,sx],[],by decide,.inl ⟨by simp[sx],rfl⟩⟩ (by simp[sx]) (by decide)
  (by rintro i t df g v s (rfl | rfl | rfl) ⟨a1,⟨b1,b2,-⟩,c1⟩<;>exact ⟨a1,by simp[St,sx,b1,b2],by simpa [sx] using c1⟩) ?_ ?_ ?_
 ·rintro j t df g hj ⟨rfl,⟨h0,h1,-⟩,l,hl,ho⟩ h6
  by_cases c:j<m
  ·have c1:(j:Int)<(m:Int):=by omega
   have c2:(j:Int)<8:=by omega
   simp only[sz,simprocAttr,h0,h1,h6,c1,c2];exact ⟨by simp[St,sx,h0,h1],l,hl,ho⟩
  ·have c1:¬(j:Int)<(m:Int):=by omega
   simp only[sz,simprocAttr,h0,h1,h6,c1];exact ⟨by simp[St,sx,h0,h1],l,hl,ho⟩
 ·rintro j t df g hj ⟨rfl,⟨h0,h1,-⟩,l,hl,ho⟩ h6;obtain ⟨z1,hz1⟩:=wy s.toNat j;obtain ⟨z2,hz2⟩:=wj z1 1;have hz2':cE .and (.int .u8 (z1:Int)) (.int .u8 1)=.val (.int .u8 z2):=hz2;have w1:IntKind.wrap .u64 (j:Int)=(j:Int):=tf (by omega) (by omega);have hll:=dq hl (by omega)
  by_cases c:z2=1
  ·simp only[sz,simprocAttr,h0,h6,u8v,w1,hz1,hz2',c];refine bh (ho.fr (g':=_) (by simp<;>omega) (λi hi=>?_)) (new:=[[.int .i64 (j:Int)]]) ?_ (by simp<;>omega) (by simp[aM]<;>omega) λv5 g5 o5 n5 f5 w5 _=>?_
   ·have:=ho.lt hi;simp[H.get_put];omega
   ·simp[ak,H.get_put];rfl
   simp only[sz,simprocAttr];refine ⟨⟨by simp[St,sx,h0,h1,u8v],_,Dw hl,?_⟩,by simp[sx,h6]⟩;simpa [sx,ci] using o5
  ·simp only[sz,simprocAttr,h0,h6,u8v,w1,hz1,hz2',c];exact ⟨by simp[St,sx,h0,h1,u8v],l,Eg hl (by omega),ho⟩
 ·rintro t df g ⟨rfl,-,l,hl,ho⟩;have hll:=dq hl (by omega);simp only[kB,sz,simprocAttr,oI];refine ⟨λ_=>True,l,hl,ho.sl (α:=Int) (by omega) (All2.of_map (λa=>aV.2 rfl) _) λ_ _=>trivial,?_⟩;rcases ho with ⟨h,-⟩ | ⟨id,ep,lo,-,-,h,-⟩<;>(rw[h];intro _ _ _ e;cases e)
def OE:VS:=λP k h v=>∃x:Net×Net,Drafted x.1/\Agg x P k h v
theorem Mf {d:Nat}{g:G}{x:ue}{y:kH}{xs ys:List AV}(hd:0<d)(hx:Rp.rp NoP 0 .nil x xs)(hy:Rp.rp NoP 0 .nil y ys) :
  ∃r,am C0 d N.bO [.agg xs,.agg ys] g=.val r/\OE NoP 0 .nil r:=by
 have e1:=jJ d (jA (P:=NoP) hx g.h);have e2:=jJ d (jA (P:=NoP) hy g.h);obtain ⟨a1,a2,ex,-⟩:=wW.1 hx;have hxl:xs.length=3:=by rw[ex];rfl
 have hyl:ys.length=4:=by rw[yD.1 hy];rfl
 clear ex a1 a2;rw[xZ];refine aP AY (xs:=[.agg xs,.agg ys]) (by simp only[aE,e1,e2]) (by simp[qw]) (mY λo=>cd _) (by decide) hd ?_;simp only[sz,simprocAttr,qw];obtain ⟨g0,hg0⟩:∃g0,g0=((G.empty.new (AObj.cells xs.length [xs] 0 false false)).new (AObj.cells ys.length [ys] 0 false false)).new (.cells 4 [[.int .i64 0,.nils,.int .i64 0,.nils]] 0 false false):=⟨_,rfl⟩;rw[<-hg0];have f0:g0.h.get 0=.cells 3 [xs] 0 false false:=by rw[hg0,hxl];simp[sx,H.get_put]
 have f1:g0.h.get 1=.cells 4 [ys] 0 false false:=by rw[hg0,hyl];simp[sx,H.get_put]
 have f2:g0.h.get 2=.cells 4 [[.int .i64 0,.nils,.int .i64 0,.nils]] 0 false false:=by rw[hg0];simp[sx]
 have f3:g0.nx=3:=by rw[hg0];simp[sx]
 clear hg0;have ld0:cy (.cells 3 [xs] 0 false false) 0 0 true 3 0=.val (.agg xs):=by
  match xs,hxl with
  | [a,b,c],_=>rfl
 have ld1:cy (.cells 4 [ys] 0 false false) 0 0 true 4 0=.val (.agg ys):=by
  match ys,hyl with
  | [a,b,c,d],_=>rfl
 obtain ⟨rn,en,n,hdr,cn,rfl,hcn⟩:=HN (g:=g0) (d:=d+1) (Nat.succ_pos d) (jA (P:=NoP) hx g0.h);obtain ⟨b,rfl,hNb⟩:=cA.1 hcn;have hbd:∀y∈n.nodes,y.parents.length<=1000/\y.rows.length<=1000/\∀r∈y.rows,r.length<=1000:=hdr.b;have hn5:=hdr.l;simp only[sz,simprocAttr,rT,f0,ld0,en];simp only[sz,simprocAttr,sf,f1,f2,f3,ld1];refine aR (MX (K:=1000) (Nat.succ_pos d) (jA (P:=NoP) hy _) (jA (P:=NoP) hcn _) (by decide) (by omega) hbd) ?_;rintro r ⟨m,-,cm,rfl,hcm⟩;obtain ⟨b2,rfl,hNm⟩:=cA.1 hcm;have fw:d6 [.int .i64 0,.nils,.int .i64 0,.nils] [((0,2),.agg [.int .i64 n.grain,b]),((2,2),.agg [.int .i64 m.grain,b2])]=some [.int .i64 n.grain,b,.int .i64 m.grain,b2]:=rfl;simp only[sz,simprocAttr,sf,f1,f2,f3,fw,t9];refine ⟨?_,?_⟩
 ·simp only[List.reverse_cons,List.reverse_nil,List.nil_append,List.cons_append];exact aK [false,false,false,false,false,true] [] (by simp[All2,ap,aC]) (by decide) (by simp)
 exact ⟨NoP,(n,m),hdr,_,rfl,_,_,rfl,Rp.tree hcn (Nat.le_refl _),Rp.tree hcm (Nat.le_refl _)⟩
def OK (S1 S2 S3 S4 S5 S6:VS):VS:=λP k h v=>∃a b c d e f,v=.agg [a,b,c,d,e,f]/\S1 P k h a/\S2 P k h b/\S3 P k h c/\S4 P k h d/\S5 P k h e/\S6 P k h f
theorem K0 {S1 S2 S3 S4 S5 S6:VS}(h1:Snb S1 0)(h2:Snb S2 0)(h3:Snb S3 0)(h4:Snb S4 0)(h5:Snb S5 0)(h6:Snb S6 0):Snb (OK S1 S2 S3 S4 S5 S6) 1:=by
 refine ⟨λ{P k h v n} d r hn=>?_,λ{k h v n} r hn=>?_⟩
 ·obtain ⟨n,rfl⟩:∃q,n=q+1:=⟨n - 1,by omega⟩;obtain ⟨a,b,c,d2,e,f,rfl,r1,r2,r3,r4,r5,r6⟩:=r;obtain ⟨a',e1,q1⟩:=h1.snap (n:=n) d r1 (by omega);obtain ⟨b',e2,q2⟩:=h2.snap (n:=n) d r2 (by omega);obtain ⟨c',e3,q3⟩:=h3.snap (n:=n) d r3 (by omega);obtain ⟨d',e4,q4⟩:=h4.snap (n:=n) d r4 (by omega);obtain ⟨e',e5,q5⟩:=h5.snap (n:=n) d r5 (by omega);obtain ⟨f',e6,q6⟩:=h6.snap (n:=n) d r6 (by omega);exact ⟨.agg [a',b',c',d',e',f'],by simp only[Hx.snap,aE,e1,e2,e3,e4,e5,e6],a',b',c',d',e',f',rfl,q1,q2,q3,q4,q5,q6⟩
 ·obtain ⟨n,rfl⟩:∃q,n=q+1:=⟨n - 1,by omega⟩;obtain ⟨a,b,c,d2,e,f,rfl,r1,r2,r3,r4,r5,r6⟩:=r;obtain ⟨m1,e1,l1⟩:=h1.tag (n:=n) r1 (by omega);obtain ⟨m2,e2,l2⟩:=h2.tag (n:=n) r2 (by omega);obtain ⟨m3,e3,l3⟩:=h3.tag (n:=n) r3 (by omega);obtain ⟨m4,e4,l4⟩:=h4.tag (n:=n) r4 (by omega);obtain ⟨m5,e5,l5⟩:=h5.tag (n:=n) r5 (by omega);obtain ⟨m6,e6,l6⟩:=h6.tag (n:=n) r6 (by omega);refine ⟨Nat.max m1 (Nat.max m2 (Nat.max m3 (Nat.max m4 (Nat.max m5 (Nat.max m6 0))))),by simp only[dS,fB,e1,e2,e3,e4,e5,e6],?_⟩;show max m1 (max m2 (max m3 (max m4 (max m5 (max m6 0)))))<=k;omega
def OX (n:Net)(E O:List Int):VS:=λP k h v=>∃x:List Int×List Int,(S.aF n x.1=true/\S.aw x.2 (n.nodes.length:Int)=true)/\OK (One x.1) (Ix x.2) (Ix (E.take 10)) (Ix x.2) (One x.1) (Ix (O.take 10)) P k h v
theorem Hz {w:AV}{l:List Int}(hw:SlR NoP 0 .nil l w)(hr:Raw w)(c:Nat) :
  ∃w',(∀g,pd 1 w none (some (.int .i64 (min (l.length:Int) (c:Int)))) g=.val w')/\SlR NoP 0 .nil (l.take c) w'/\Sl1 w':=by
 have hm:min (l.length:Int) (c:Int)=((min l.length c:Nat):Int):=by omega
 have h1:Sl1 w:=by
  rcases hr with rfl | ⟨rows,rfl⟩
  ·intro _ _ _ e;cases e
  ·intro _ _ _ e;injection e with _ e;exact e.symm
 obtain ⟨w',q1,q2⟩:=Oj hw h1 (c:=min l.length c) (by omega);rw[hm];have ht:l.take (min l.length c)=l.take c:=by rw[Nat.min_comm,<-List.take_take,List.take_length]
 refine ⟨w',q1,ht ▸ q2,?_⟩;have q0:=q1 G.empty;rcases hr with rfl | ⟨rows,rfl⟩
 ·have hl:l=[]:=hw.2;subst hl;have:w'=.nils:=by
   have:pd 1 .nils none (some (.int .i64 ((min ([]:List Int).length c:Nat):Int))) G.empty=.val .nils:=by rw[show min ([]:List Int).length c=0 by simp];rfl
   rw[this] at q0;injection q0 with q0;exact q0.symm
  subst this;intro _ _ _ e;cases e
 ·intro t s rs e;subst e;simp only[pd,j_] at q0;revert q0
  split
  ·intro h;cases h
  ·split
   ·intro h;cases h
   ·rw[show Nat.beq 1 1=true from rfl,bif'_true];intro h;injection h with h;injection h with _ h;exact h.symm
theorem FV {d:Nat}{g:G}{n:Net}{vs:List UInt8}{s:UInt8}{E O:List Int}{ew ow:AV}{cn:List AV}(hd:0<d)(hv:vs.length=9)(hE:SlR NoP 0 .nil E ew)(hEr:Raw ew)(hO:SlR NoP 0 .nil O ow)(hOr:Raw ow)(hcn:Rp.rp NoP 0 .nil n cn)(hdr:Drafted n) :
  ∃r,am C0 d N.bh [.agg (vs.map u8v++[u8v s,ew,ow]),.agg cn] g=.val r/\OX n E O NoP 0 .nil r:=by
 have e2:=jJ d (jA (P:=NoP) hcn g.h);obtain ⟨b,rfl,hN⟩:=cA.1 hcn;obtain ⟨AA,hAA⟩:∃AA,AA=vs.map u8v++[u8v s,ew,ow]:=⟨_,rfl⟩;have q1:=jG (h:=g.h) d (hE.tree (h':=g.h) (Nat.le_refl 0));have q2:=jG (h:=g.h) d (hO.tree (h':=g.h) (Nat.le_refl 0));have e1:Hx.snap g.h d aH (.agg AA)=some (.agg AA):=by
  rw[hAA]
  match vs,hv with
  | [v0,v1,v2,v3,v4,v5,v6,v7,v8],_ =>
   have q1:Hx.snap g.h d 23 ew=some ew:=by rcases hEr with rfl | ⟨rows,rfl⟩<;>rfl
   have q2:Hx.snap g.h d 23 ow=some ow:=by rcases hOr with rfl | ⟨rows,rfl⟩<;>rfl
   show (match aE (Hx.snap g.h d 23) [u8v v0,u8v v1,u8v v2,u8v v3,u8v v4,u8v v5,u8v v6,u8v v7,u8v v8,u8v s,ew,ow] with | some xs=>some (AV.agg xs) | none=>none)=_;simp only[aE,q1,q2]
   rfl
 have hl12:AA.length=12:=by rw[hAA];simp[hv]
 have ldA:cy (.cells 12 [AA] 0 false false) 0 0 true 9 0=.val (.agg (vs.map u8v)):=by
  rw[hAA]
  match vs,hv with
  | [v0,v1,v2,v3,v4,v5,v6,v7,v8],_=>rfl
 have ldS:cy (.cells 12 [AA] 0 false false) 0 0 false 1 9=.val (u8v s):=by
  rw[hAA]
  match vs,hv with
  | [v0,v1,v2,v3,v4,v5,v6,v7,v8],_=>rfl
 have ldE:cy (.cells 12 [AA] 0 false false) 0 0 false 1 10=.val ew:=by
  rw[hAA]
  match vs,hv with
  | [v0,v1,v2,v3,v4,v5,v6,v7,v8],_=>rcases hEr with rfl | ⟨rows,rfl⟩<;>rfl
 have ldO:cy (.cells 12 [AA] 0 false false) 0 0 false 1 11=.val ow:=by
  rw[hAA]
  match vs,hv with
  | [v0,v1,v2,v3,v4,v5,v6,v7,v8],_=>rcases hOr with rfl | ⟨rows,rfl⟩<;>rfl
 have lE:=hE.len;have lO:=hO.len;have lN:=(hN.tree (h':=.nil) (Nat.le_refl 0)).len;have hn5:=hdr.l;have hcard:∀x∈n.nodes,0<x.card:=λx hx=>by rcases hdr.c x hx with h | h<;>omega
 obtain ⟨w1,hw1,hw2,hw3⟩:=Hz hE hEr 10;obtain ⟨w2,hw4,hw5,hw6⟩:=Hz hO hOr 10;have hw1':∀g,pd 1 ew none (some (.int .i64 (min (E.length:Int) 10))) g=.val w1:=hw1;have hw4':∀g,pd 1 ow none (some (.int .i64 (min (O.length:Int) 10))) g=.val w2:=hw4;rw[sV,<-hAA];refine aP uz (xs:=[.agg AA,.agg [.int .i64 n.grain,b]]) (by simp only[aE,e1,e2]) (by simp[iA]) (mY λo=>K0 (aJ _) (sA _) (sA _) (sA _) (aJ _) (sA _)) (by decide) hd ?_;simp only[sz,simprocAttr,iA];obtain ⟨g0,hg0⟩:∃g0,g0=((G.empty.new (AObj.cells AA.length [AA] 0 false false)).new (AObj.cells 2 [[.int .i64 n.grain,b]] 0 false false)).new (.cells 6 [[.nils,.nils,.nils,.nils,.nils,.nils]] 0 false false):=⟨_,rfl⟩;rw[<-hg0];have f0:g0.h.get 0=.cells 12 [AA] 0 false false:=by rw[hg0,hl12];simp[sx,H.get_put]
 have f1:g0.h.get 1=.cells 2 [[.int .i64 n.grain,b]] 0 false false:=by rw[hg0];simp[sx,H.get_put]
 have f2:g0.h.get 2=.cells 6 [[.nils,.nils,.nils,.nils,.nils,.nils]] 0 false false:=by rw[hg0];simp[sx]
 clear hg0;unfold kK;simp only[sz,simprocAttr,f0,f1,ldA];refine aR (K8 (m:=n) (Nat.succ_pos d) hv (jA (P:=NoP) hcn _) (by omega) hcard) ?_;rintro z ⟨ev,hev,hz⟩;have hz:SlR NoP 0 .nil ev z:=IT.sl (k:=0) hz .nil;simp only[sz,simprocAttr,f0,f1,ldS,lN];refine aR (Ko (m:=n.nodes.length) (Nat.succ_pos d) (by omega)) ?_;rintro y ⟨vars,hvp,hy1,hy2⟩;have fw2:∀{p q:AV},(p.cells=[p]/\p.isTup=false)->(q.cells=[q]/\q.isTup=false)->d6 [.nils,.nils] [((0,1),p),((1,1),q)]=some [p,q]:=λhp hq=>by
  simp[d6,hp,hq,jT]
  rfl
 have fw6:∀{a b c d e f:AV},d6 [.nils,.nils,.nils,.nils,.nils,.nils] [((0,2),.agg [a,b]),((2,2),.agg [c,d]),((4,2),.agg [e,f])]=some [a,b,c,d,e,f]:=λ{a b c d e f}=>rfl;simp only[sz,simprocAttr,sf,f0,f1,f2,ldE,ldO,lE,lO,List.head?_nil,List.head?_cons,hw1',hw4',fw2 hz.cell hy1.cell,fw2 hw2.cell hy1.cell,fw2 hz.cell hw5.cell,fw6];refine ⟨?_,?_⟩
 ·simp only[List.reverse_cons,List.reverse_nil,List.nil_append,List.cons_append];exact aK [false,false,false,false,false,false,false,false,false,false,false,false,false,false,false,false,false,false,false,false,false,false,true] [] (by simp[All2,ap,aC]) (by decide) (by simp)
 have wd:∀{l:List Int} {v:AV} (h:H),SlR NoP 0 .nil l v->SlR NoP 0 h l v:=λh r=>r.tree (Nat.le_refl 0);exact ⟨NoP,(ev,vars),⟨hev,hvp⟩,_,_,_,_,_,_,rfl,⟨_,rfl,wd _ hz⟩,⟨wd _ hy1,hy2⟩,⟨wd _ hw2,hw3⟩,⟨wd _ hy1,hy2⟩,⟨_,rfl,wd _ hz⟩,⟨wd _ hw5,hw6⟩⟩
theorem xa0 (id:Nat):Jk 2 1 (.hptr id 0 0 0) (.int .i64 0)=.val (.hptr id 0 0 0):=rfl
theorem xa1 (id:Nat):Jk 2 1 (.hptr id 0 0 0) (.int .i64 1)=.val (.hptr id 0 0 1):=rfl
theorem OA (a b:AV):cy (.cells 2 [[a,b]] 0 false false) 0 0 false 1 0=.val a:=rfl
theorem O6 (a b:AV):cy (.cells 2 [[a,b]] 0 false false) 0 0 false 1 1=.val b:=rfl
theorem N6 (a b:AV):cy (.cells 2 [[a,b]] 0 false false) 0 0 true 2 0=.val (.agg [a,b]):=rfl
theorem FI (g:G):am C0 1 N.bX [] g=.val (.bool true):=by kernel_rfl
theorem Ph {a b c d e f:AV}(j:Nat)(hj:j<3):ixV true 3 2 (.agg [a,b,c,d,e,f]) (.int .i64 (j:Int))=.val (.agg [if j=0 then a else if j=1 then c else e,if j=0 then b else if j=1 then d else f]):=by
 have:j=0\/j=1\/j=2:=by omega
 rcases this with rfl | rfl | rfl<;>rfl
theorem N9 (a b:Int):DZ true (.flat [.int .i64,.int .i64]) (.agg [.int .i64 a,.int .i64 b]) (.agg [.int .i64 a,.int .i64 b])=.val (.bool false):=by
 have ha:FD a a=true:=by rw[tb];simp
 have hb:FD b b=true:=by rw[tb];simp
 simp only[DZ,eqA,dx,dR,nS,ha,hb]
 rfl
def LM5 (nets:AV)(i:Nat):List (Nat×AV):=[(3,.hptr 0 0 0 0),(4,.hptr 1 0 0 0),(5,.hptr 2 0 0 0),(21,nets),(22,.int .i64 (i:Int))]
theorem O3 {p8 i0:Nat}{n:Net}{e1 v1 e2 v2 e3 v3:List Int}{b a1 a2 a3 a4 a5 a6 nets:AV}{Q:QT}{t:T}{g:G}(hm:∀h,Agg n NoP 0 h (.agg [.int .i64 n.grain,b]))
  (q1:SlR NoP 0 .nil e1 a1) (q2:SlR NoP 0 .nil v1 a2) (q3:SlR NoP 0 .nil e2 a3) (q4:SlR NoP 0 .nil v2 a4) (q5:SlR NoP 0 .nil e3 a5) (q6:SlR NoP 0 .nil v3 a6)
  (g8:g.h.get p8=.cells 2 [[.int .i64 n.grain,b]] 0 false false) (b8:p8<g.nx)
  (ht:St t ((8,.hptr p8 0 0 0)::(28,.agg [a1,a2,a3,a4,a5,a6])::LM5 nets i0)) (h29:tat t 29=.int .i64 0)
  (fin:∀t g',St t (LM5 nets i0)->g.nx<=g'.nx->(∀i,i<g.nx->g'.h.get i=g.h.get i)->Q (.exit 2) t [] g'):wpL (wp C0 1 none dP) Q t [] g:=by
 simp only[dP];refine xG (m:=3) rfl (by omega) (λj t df g'=>df=[]/\St t ((8,.hptr p8 0 0 0)::(28,.agg [a1,a2,a3,a4,a5,a6])::LM5 nets i0)/\g.nx<=g'.nx/\(∀i,i<g.nx->g'.h.get i=g.h.get i)) ⟨rfl,ht,Nat.le_refl _,λ_ _=>rfl⟩ h29 (by decide) ?_ ?_ ?_
 ·rintro j t df g v s (rfl | rfl | rfl) ⟨a1,⟨b1,b2,b3,b4,b5,b6,b7,-⟩,c⟩<;>exact ⟨a1,by simp[St,LM5,sx,b1,b2,b3,b4,b5,b6,b7],c⟩
 ·clear ht h29;rintro j t df g1 hj ⟨rfl,⟨h8,h28,h3,h4,h5,h21,h22,-⟩,hn,hf⟩ h29;obtain ⟨ev,ew,vars,vw,he,hv,hea,hva⟩:∃(ev:List Int) (ew:AV) (vars:List Int) (vw:AV),SlR NoP 0 .nil ev ew/\SlR NoP 0 .nil vars vw/\(if j=0 then a1 else if j=1 then a3 else a5)=ew/\(if j=0 then a2 else if j=1 then a4 else a6)=vw:=by
   have:j=0\/j=1\/j=2:=by omega
   rcases this with rfl | rfl | rfl
   ·exact ⟨e1,a1,v1,a2,q1,q2,rfl,rfl⟩
   ·exact ⟨e2,a3,v2,a4,q3,q4,rfl,rfl⟩
   ·exact ⟨e3,a5,v3,a6,q5,q6,rfl,rfl⟩
  have g8':g1.h.get p8=.cells 2 [[.int .i64 n.grain,b]] 0 false false:=by rw[hf _ b8,g8]
  have hp8:¬p8=g1.nx:=by omega
  refine eo (P:=λt' df g2=>df=[]/\g2.nx=g1.nx+1/\(∀i,i<g1.nx->g2.h.get i=g1.h.get i)/\g2.h.get g1.nx=.cells 2 [[ew,vw]] 0 false false/\St t' ((10,.hptr g1.nx 0 0 0)::(29,.int .i64 (j:Int))::(8,.hptr p8 0 0 0)::(28,.agg [a1,a2,a3,a4,a5,a6])::LM5 nets i0)) ?_ ?_
  ·simp only[sz,simprocAttr,h28,h29,Ph j hj,hea,hva];simp[St,LM5,sx,h8,h28,h29,h3,h4,h5,h21,h22];intro i hi;rw[if_neg (by omega),if_neg (by omega)]
  rintro t df g2 ⟨rfl,n2,f2,c2,h10,h29,h8,h28,h3,h4,h5,h21,h22,-⟩;have g8b:g2.h.get p8=.cells 2 [[.int .i64 n.grain,b]] 0 false false:=by rw[f2 p8 (by omega),g8']
  refine eo (P:=λt' df g3=>df=[]/\g3.nx=g1.nx+2/\(∀i,i<g2.nx->g3.h.get i=g2.h.get i)/\g3.h.get (g1.nx+1)=.cells 2 [[.int .i64 (S.aR n ev vars).1,.int .i64 (S.aR n ev vars).2]] 0 false false/\∃x1,SlR NoP 0 .nil (S.aY n ev vars) x1/\St t' ((12,.hptr (g1.nx+1) 0 0 0)::(11,x1)::(13,.int .i64 (S.aJ n ev vars))::(10,.hptr g1.nx 0 0 0)::(29,.int .i64 (j:Int))::(8,.hptr p8 0 0 0)::(28,.agg [a1,a2,a3,a4,a5,a6])::LM5 nets i0)) ?_ ?_
  ·simp only[sz,simprocAttr,h8,h10,g8b,c2,xa0,xa1,OA,O6,N6];refine aR (Ms (n:=n) (e:=ev) (vars:=vars) (by decide) (hm _) (he.tree (Nat.le_refl 0)) (hv.tree (Nat.le_refl 0)) (by decide)) λr hr=>?_;obtain ⟨x1,rfl,hx1⟩:=B7 hr;simp only[sz,simprocAttr,n2];refine ⟨λi hi=>by rw[if_neg (by omega),if_neg (by omega)],x1,hx1,by simp[St,LM5,sx,h8,h10,h28,h29,h3,h4,h5,h21,h22]⟩
  rintro t df g3 ⟨rfl,n3,f3,c3,x1,hx1,h12,h11,h13,h10,h29,h8,h28,h3,h4,h5,h21,h22,-⟩;have g8c:g3.h.get p8=.cells 2 [[.int .i64 n.grain,b]] 0 false false:=by rw[f3 p8 (by omega),g8b]
  have c2':g3.h.get g1.nx=.cells 2 [[ew,vw]] 0 false false:=by rw[f3 _ (by omega),c2]
  refine eo (P:=λt' df g4=>df=[]/\g4.nx=g1.nx+3/\(∀i,i<g3.nx->g4.h.get i=g3.h.get i)/\g4.h.get (g1.nx+2)=.cells 2 [[.int .i64 (S.aR n ev vars).1,.int .i64 (S.aR n ev vars).2]] 0 false false/\∃x2,SlR NoP 0 .nil (S.aY n ev vars) x2/\St t' ((15,.hptr (g1.nx+2) 0 0 0)::(14,x2)::(16,.int .i64 (S.aJ n ev vars))::(12,.hptr (g1.nx+1) 0 0 0)::(11,x1)::(13,.int .i64 (S.aJ n ev vars))::(29,.int .i64 (j:Int))::(8,.hptr p8 0 0 0)::(28,.agg [a1,a2,a3,a4,a5,a6])::LM5 nets i0)) ?_ ?_
  ·simp only[sz,simprocAttr,h8,h10,g8c,c2',xa0,xa1,OA,O6,N6];refine aR (LR (n:=n) (e:=ev) (vars:=vars) (by decide) (hm _) (he.tree (Nat.le_refl 0)) (hv.tree (Nat.le_refl 0))) λr hr=>?_;obtain ⟨x2,rfl,hx2⟩:=B7 hr;simp only[sz,simprocAttr,n3];refine ⟨λi hi=>by rw[if_neg (by omega),if_neg (by omega)],x2,hx2,by simp[St,LM5,sx,h8,h11,h12,h13,h28,h29,h3,h4,h5,h21,h22]⟩
  rintro t df g4 ⟨rfl,n4,f4,c4,x2,hx2,h15,h14,h16,h12,h11,h13,h29,h8,h28,h3,h4,h5,h21,h22,-⟩;have c3':g4.h.get (g1.nx+1)=.cells 2 [[.int .i64 (S.aR n ev vars).1,.int .i64 (S.aR n ev vars).2]] 0 false false:=by rw[f4 _ (by omega),c3]
  have kq:=λg:G=>Ld (d:=1) (g:=g) (P:=NoP) (P2:=NoP) (k:=0) (k2:=0) (l:=S.aY n ev vars) (l2:=S.aY n ev vars) (by decide) (hx1.tree (Nat.le_refl 0)) (hx2.tree (Nat.le_refl 0));simp only[sz,simprocAttr,h11,h12,h13,h14,h15,h16,c3',c4,N6,N9,kq,decide_true];refine ⟨⟨by simp[St,LM5,sx,h8,h28,h3,h4,h5,h21,h22],by omega,λi hi=>?_⟩,by simp[sx,h29]⟩;rw[f4 i (by omega),f3 i (by omega),f2 i (by omega),hf i hi]
 ·rintro t df g' ⟨rfl,⟨-,-,ht⟩,hn,hf⟩;exact fin t g' ht hn hf
theorem wm {x:ue}{y:kH}{u1 u2 ew ow:AV}{vs:List UInt8}{s:UInt8}{E O:List Int}(hx:Agg x NoP 0 .nil u1)(hy:Agg y NoP 0 .nil u2)
  (hv:vs.length=9) (hE:SlR NoP 0 .nil E ew) (hEr:Raw ew) (hO:SlR NoP 0 .nil O ow) (hOr:Raw ow) :
  ∃g',(I C0).call 1 N.bW [u1,u2,.agg (vs.map u8v++[u8v s,ew,ow])] G.empty=.ok (.bool true) g':=by
 obtain ⟨xs,rfl,qx⟩:=hx;obtain ⟨ys,rfl,qy⟩:=hy;obtain ⟨a1',a2',e1,-⟩:=wW.1 qx;have hxl:xs.length=3:=by rw[e1];rfl
 have hyl:ys.length=4:=by rw[yD.1 qy];rfl
 clear e1 a1' a2';obtain ⟨AA,hAA⟩:∃AA,AA=vs.map u8v++[u8v s,ew,ow]:=⟨_,rfl⟩;have hAl:AA.length=12:=by rw[hAA];simp[hv]
 rw[<-hAA];have key:=sX (C:=C0) (d:=1) (f:=N.bW) («as»:=[.agg xs,.agg ys,.agg AA]) (g:=G.empty) (K:=λv g'=>v=.bool true) sO (by simp[fK]) ?_
 ·cases hc:(I C0).call 1 N.bW [.agg xs,.agg ys,.agg AA] G.empty with
  | fail=>rw[hc] at key;exact key.elim
  | ok v g'=>rw[hc] at key;exact ⟨g',by rw[show v=.bool true from key]⟩
 simp only[sz,simprocAttr,fK];obtain ⟨g0,hg0⟩:∃g0,g0=((G.empty.new (AObj.cells xs.length [xs] 0 false false)).new (AObj.cells ys.length [ys] 0 false false)).new (AObj.cells AA.length [AA] 0 false false):=⟨_,rfl⟩;rw[<-hg0];have f0:g0.h.get 0=.cells 3 [xs] 0 false false:=by rw[hg0,hxl];simp[sx,H.get_put]
 have f1:g0.h.get 1=.cells 4 [ys] 0 false false:=by rw[hg0,hyl];simp[sx,H.get_put]
 have f2:g0.h.get 2=.cells 12 [AA] 0 false false:=by rw[hg0,hAl];simp[sx,H.get_put]
 have f4:g0.nx=3:=by rw[hg0];simp[sx]
 clear hg0;have ld0:cy (.cells 3 [xs] 0 false false) 0 0 true 3 0=.val (.agg xs):=by
  match xs,hxl with
  | [a,b,c],_=>rfl
 have ld1:cy (.cells 4 [ys] 0 false false) 0 0 true 4 0=.val (.agg ys):=by
  match ys,hyl with
  | [a,b,c,d],_=>rfl
 have ld2:cy (.cells 12 [AA] 0 false false) 0 0 true 12 0=.val (.agg AA):=by
  match AA,hAl with
  | [a0,a1,a2,a3,a4,a5,a6,a7,a8,a9,a10,a11],_=>rfl
 simp only[sz,simprocAttr,iZ,FI,f0,f1,ld0,ld1];refine aR (Mf (by decide) qx qy) ?_;rintro r ⟨⟨n,m⟩,hdr,cs,rfl,c1,c2,rfl,hn1,hn2⟩;obtain ⟨b,rfl,hb1⟩:=cA.1 hn1;obtain ⟨b2,rfl,hb2⟩:=cA.1 hn2;have hM:∀h,Agg n NoP 0 h (.agg [.int .i64 n.grain,b]):=λh=>jA hn1 h;have hM2:∀h,Agg m NoP 0 h (.agg [.int .i64 m.grain,b2]):=λh=>jA hn2 h;simp only[sz,simprocAttr,List.cons_append,List.nil_append];obtain ⟨nets,hnets⟩:∃nets,nets=AV.agg [.int .i64 n.grain,b,.int .i64 m.grain,b2]:=⟨_,rfl⟩;rw[<-hnets];simp only[iH,ie];refine xG (m:=2) rfl (by omega) (λj t df g=>df=[]/\St t [(3,.hptr 0 0 0 0),(4,.hptr 1 0 0 0),(5,.hptr 2 0 0 0),(21,nets)]/\g0.nx<=g.nx/\∀i,i<g0.nx->g.h.get i=g0.h.get i) ⟨rfl,by simp[St,sx],Nat.le_refl _,λ_ _=>rfl⟩ (by simp[sx]) (by decide) ?_ ?_ ?_
 ·rintro j t df g v s (rfl | rfl | rfl) ⟨a1,⟨b1,b2,b3,b4,-⟩,c⟩<;>exact ⟨a1,by simp[St,sx,b1,b2,b3,b4],c⟩
 ·rintro j t df g1 hj ⟨rfl,⟨h3,h4,h5,h21,-⟩,hn,hf⟩ h22;obtain ⟨n1,bb,hm1,hix⟩:∃(n1:Net) (bb:AV),(∀h,Agg n1 NoP 0 h (.agg [.int .i64 n1.grain,bb]))/\ixV true 2 2 nets (.int .i64 (j:Int))=.val (.agg [.int .i64 n1.grain,bb]):=by
   rw[hnets];have:j=0\/j=1:=by omega
   rcases this with rfl | rfl
   ·exact ⟨n,b,hM,rfl⟩
   ·exact ⟨m,b2,hM2,rfl⟩
  have e0:g1.h.get 0=.cells 3 [xs] 0 false false:=by rw[hf 0 (by omega),f0]
  have e2:g1.h.get 2=.cells 12 [AA] 0 false false:=by rw[hf 2 (by omega),f2]
  simp only[sz,simprocAttr,h3,h5,h21,h22,hix,show ¬2=g1.nx by omega,show ¬0=g1.nx by omega,e2,ld2,e0,ld0];refine aR (HN (by decide) (jA (P:=NoP) qx _)) ?_;rintro r ⟨n0,hd0,cn,rfl,hcn⟩;simp only[sz,simprocAttr];rw[hAA];refine aR (FV (n:=n0) (E:=E) (O:=O) (by decide) hv hE hEr hO hOr hcn hd0) ?_;rintro r ⟨⟨ev,vars⟩,⟨hev,hvp⟩,a1,a2,a3,a4,a5,a6,rfl,q1,q2,q3,q4,q5,q6⟩;simp only[sz,simprocAttr];have wd:∀{l:List Int} {v:AV} {h:H},SlR NoP 0 h l v->SlR NoP 0 .nil l v:=λr=>r.tree (Nat.le_refl 0);obtain ⟨w1,hw1,q1⟩:=q1;obtain ⟨w5,hw5,q5⟩:=q5;injection hw1 with hw1;injection hw5 with hw5;subst hw1;subst hw5;refine O3 (p8:=g1.nx) (i0:=j) (n:=n1) (b:=bb) (nets:=nets) (e1:=ev) (v1:=vars) (v2:=vars) (e3:=ev) hm1 q1 q2.1 q3.1 q4.1 q5 q6.1 (by simp[H.get_put]) (by simp) (by simp[St,LM5,sx,h3,h4,h5,h21,h22]) (by simp[sx]) ?_;rintro t6 g6 ⟨h3,h4,h5,h21,h22,-⟩ n6 f6;simp only[sz,simprocAttr];refine ⟨⟨by simp[St,h3,h4,h5,h21],?_,λi hi=>?_⟩,h22⟩
  ·have:g1.nx<=g6.nx:=Nat.le_trans (by simp) n6;omega
  ·rw[f6 i (by simp;omega)];simp[H.get_put,show ¬i=g1.nx by omega,hf i hi]
 ·rintro t df g1 ⟨rfl,-⟩;simp only[sz,simprocAttr,iJ]
end
end Hx
end
