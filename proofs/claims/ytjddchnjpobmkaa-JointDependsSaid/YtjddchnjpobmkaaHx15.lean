/- A part of the proof: an interpreter over abstract values, shown right against the model, and what the functions of the chapter compute on it. -/
import Derived.OpenShut
import Derived.DataReads
import Derived.Test.YtjddchnjpobmkaaHx14
set_option linter.unusedVariables false
set_option linter.unusedSimpArgs false
set_option linter.unnecessarySimpa false
section
namespace Hx
open Go
noncomputable section
theorem LS.upd {L:List Node}{J:Nat}{x x':Node}(hx:L[J]?=some x)(hl:x'.rows.length=x.rows.length){k:Ky}(h:LS (L.set J x') k):LS L k:=by
 rcases h with h | ⟨i,q,z,h,hz,hq⟩
 ·exact .inl h
 ·rw[List.getElem?_set] at hz
  by_cases e:J=i
  ·subst e
   rw[if_pos rfl] at hz
   split at hz
   ·injection hz with hz;subst hz
    exact .inr ⟨J,q,x,h,hx,by omega⟩
   ·cases hz
  ·rw[if_neg e] at hz
   exact .inr ⟨i,q,z,h,hz,hq⟩
theorem BLs.upd {K J:Nat}{L:List Node}{V:Ky->AV}{E:Ky->En}{rows:List (List AV)}{x':Node}(hO:Oth K L J V E rows)(e0:E (0,0)=.sl 3 rows)(hrow:rows[J]?=some (iW V J x'.card))(hnd:NdOk K V E J x'):BLs K V E (L.set J x'):=by
 refine ⟨⟨rows,e0,by simp[hO.len],fun i z hz=>?_⟩,fun i z hz=>?_⟩
 ·rw[List.getElem?_set] at hz
  by_cases e:J=i
  ·subst e
   rw[if_pos rfl] at hz
   split at hz
   ·injection hz with hz;subst hz;exact hrow
   ·cases hz
  ·rw[if_neg e] at hz
   exact hO.ns i z (Ne.symm e) hz
 ·rw[List.getElem?_set] at hz
  by_cases e:J=i
  ·subst e
   rw[if_pos rfl] at hz
   split at hz
   ·injection hz with hz;subst hz;exact hnd
   ·cases hz
  ·rw[if_neg e] at hz
   exact hO.nd i z (Ne.symm e) hz
def Node.wr (x:Node)(r:Nat)(y:List Int):Node:=⟨x.card,x.parents,x.rows.set r y⟩
abbrev LBS (W:AV)(J:Nat)(Rw:Int):List (Nat×AV):=[(2,.hptr 0 0 0 0),(3,.hptr 1 0 0 0),(4,.hptr 2 0 0 0),(10,iY 3 W J 0),(11,.int .i64 Rw)]
section
variable {d K J r:Nat}{L:List Node}{x:Node}{bx:jB}{gr Rw:Int}{t t':T}{g gb:G}{V:Ky->AV}{E:Ky->En}{Q:QT}{y y':List Int}
theorem BS.put (hS:BS K J L x bx gr (r:Int) t g V E)(hy:x.rows[r]?=some y)(hHb:Hp gb 3 (LS L) V (ups E (J+1,2+r) (.sl 1 (y'.map ci))))(frb:∀i,i<3->gb.h.get i=g.h.get i)(hyl:y'.length<=K)(st:St t' (LBS (V (0,0)) J (r:Int))) :
  BS K J (L.set J (x.wr r y')) (x.wr r y') bx gr (r:Int) t' gb V (ups E (J+1,2+r) (.sl 1 (y'.map ci))):=by
 obtain ⟨rows,hB⟩:=hS.bt
 obtain ⟨rws,hW⟩:=hS.bw
 have hr:=(List.getElem?_eq_some_iff.1 hy).1
 have hrw:=hW.at_ r y hy
 have hJ:=(List.getElem?_eq_some_iff.1 hS.hx).1
 have hnd:=xL (r:=r) (V':=V) (E':=ups E (J+1,2+r) (.sl 1 (y'.map ci))) (y':=y') hB.nd hW.at_ hW.len hr (ac _ _ (by simp<;>omega)) (by rw[ac _ _ (by simp<;>omega),hW.e1,qS hrw]) (ah _ _ _) (fun _ _=>rfl) (fun q hq=>ac _ _ (by simp<;>omega)) hyl
 have hl:(x.wr r y').rows.length=x.rows.length:=by simp[Node.wr]
 refine ⟨st,hHb.sub fun k hk=>LS.upd hS.hx hl hk,by rw[frb 0 (by omega)];exact hS.f0,by rw[frb 1 (by omega)];exact hS.f1,by rw[frb 2 (by omega)];exact hS.f2,BLs.upd hB.oth.e (by rw[ac _ _ (by simp<;>omega)];exact hB.e0) hB.row hnd,by rw[List.getElem?_set_self hJ],.inr ⟨r,rfl,by omega⟩,hS.hK,by simpa using hS.hl⟩
theorem BS.mv (hS:BS K J L x bx gr Rw t g V E)(hh:gb.h=g.h)(hn:g.nx<=gb.nx)(st:St t' (LBS (V (0,0)) J Rw)):BS K J L x bx gr Rw t' gb V E :=
 ⟨st,hS.hp.same hh hn,by rw[hh];exact hS.f0,by rw[hh];exact hS.f1,by rw[hh];exact hS.f2,hS.bl,hS.hx,hS.hR,hS.hK,hS.hl⟩
structure BR (x:Node) (J r:Nat) (y:List Int) (g:G) (V:Ky->AV) (E:Ky->En) (rws:List (List AV)):Prop where
 wr:ae g.h 1 (V (J+1,1))=some rws
 rl:r<rws.length
 rw_:rws[r]?=some [V (J+1,2+r)]
 ry:iB (V (J+1,1))=true
 yr:ae g.h 1 (V (J+1,2+r))=some (y.map ci)
 ye:E (J+1,2+r)=.sl 1 (y.map ci)
 yl:y.length<=K
theorem BS.br (hS:BS K J L x bx gr (r:Int) t g V E)(hy:x.rows[r]?=some y):∃rws,BR (K:=K) x J r y g V E rws:=by
 obtain ⟨rows,hB⟩:=hS.bt
 obtain ⟨rws,hW⟩:=hS.bw
 have hr:=(List.getElem?_eq_some_iff.1 hy).1
 have hrl:r<rws.length:=by have:=hW.len;omega
 have hye:=hB.nd.rr r y hy
 exact ⟨rws,hW.own.rows,hrl,hW.at_ r y hy,d9 hW.own (by omega),(hS.hp.own (LS.s hS.hx (by omega)) hye).rows,hye,hB.nd.len.2.2 y (List.mem_of_getElem? hy)⟩
theorem bc8 (hS:BS K J L x bx gr Rw t g V E)(fin:qA Q) :
  wp C0 d none (sQ [oM 213 11,o 214 (.bin .geq (.t 213) (qI 0)),oM 215 214,og 216 215 true (.mv (.t 10)),og 217 215 true (.nilc (.t 216)),og 218 215 true (.fad 2 (.t 217)),og 219 215 true (.load false 1 (.t 218)),og 220 215 true (.mv (.t 11)),og 221 215 true (.ixs 1 (.t 219) (.t 220)),og 222 215 true (.load false 1 (.t 221)),og 223 215 true (.len .slice (.t 222)),og 224 215 true (.bin .gtr (.t 223) (qI 0)),o 225 (.pick (.t 215) (.t 224) (.k (.bool false)))] (.cond (.t 225) (.seq (.feet [0,1,3,7,0,0,32,96,224,0,992,2016,4064,8160,16383,32767] [oM 226 10,o 227 (.nilc (.t 226)),oF 228 2 227,oL 229 228,oM 230 11,oM 231 10,o 232 (.nilc (.t 231)),oF 233 2 232,oL 234 233,oM 235 11,oX 236 234 235,oL 237 236,oN 238 237,o 239 (.mks 1 8 [.int .i64 0] (.t 238) (.t 238)),oX 240 229 230,oz (.store 1 (.t 240) (.t 239))]) (.feet [0,1,3,7,0,31,63,0,128,511,1023] [oM 241 10,o 242 (.nilc (.t 241)),oF 243 2 242,oL 244 243,oM 245 11,oX 246 244 245,oL 247 246,oF 248 0 3,oL 249 248,o 250 (.ixs 1 (.t 247) (qI 0)),oz (.store 1 (.t 250) (.t 249))])) (.skip))) Q t [] g:=by
 obtain ⟨h2,h3,h4,h10,h11,-⟩:=hS.st
 obtain ⟨rows,hB⟩:=hS.bt
 obtain ⟨rws,hW⟩:=hS.bw
 have hK:=hS.hK
 have hl:=hS.hl
 have hnx:=hS.hp.nx
 rcases hS.hR with ⟨rfl,h0⟩ | ⟨r,rfl,hr⟩
 ·simp only[sz,simprocAttr,h11,show decide ((-1:Int) >= 0)=false from rfl]
  exact hS.fin0 fin (by simp[sx,h3]) (by simp[sx,h4])
 ·obtain ⟨y,hy⟩:∃y,x.rows[r]?=some y:=⟨_,List.getElem?_eq_getElem hr⟩
  have hrw:=hW.at_ r y hy
  have hkL:LS L (J+1,2+r):=LS.s hS.hx (by omega)
  have hyo:=hS.hp.own hkL (hB.nd.rr r y hy)
  have hyl:=hB.nd.len.2.2 y (List.mem_of_getElem? hy)
  have ly:=bJ hyo.rows
  rw[List.length_map] at ly
  have hrl:r<rws.length:=by have:=hW.len;omega
  have hryw:iB (V (J+1,1))=true:=d9 hW.own (by omega)
  simp only[sz,simprocAttr,h10,h11,show decide ((r:Int) >= 0)=true from by simp,bf hB.ry,bh hB.ry,hB.own.rows,hB.hlt,hB.row,hW.own.rows,hrl,hrw,ly]
  refine aY (fun hb=>?_) (fun hb=>?_)
  ·have hpos:0<y.length:=by simpa using hb
   obtain ⟨A,hA⟩:∃A,A=SC.feet [0,1,3,7,0,31,63,0,128,511,1023] [oM 241 10,o 242 (.nilc (.t 241)),oF 243 2 242,oL 244 243,oM 245 11,oX 246 244 245,oL 247 246,oF 248 0 3,oL 249 248,o 250 (.ixs 1 (.t 247) (qI 0)),oz (.store 1 (.t 250) (.t 249))]:=⟨_,rfl⟩
   rw[<-hA]
   refine dk (P:=fun t' df g'=>df=[]/\∃L' x' V' E',BS K J L' x' bx gr (r:Int) t' g' V' E'/\x'.rows[r]?=some (List.replicate y.length 0)) ?_ ?_
   ·simp only[sz,simprocAttr,sf,h10,h11,bf hB.ry,bh hB.ry,hB.own.rows,hB.hlt,hB.row,hW.own.rows,hrl,hrw,ly]
    refine ks (b:=3) (n:=y.length) (by unfold aU;omega) (by unfold aU;omega) (by first | (simp;done) | (simp;omega)) fun W ga hWo na fra vW lga=>?_
    simp only[sy] at na fra vW lga
    have hHa:=(hS.hp.step (g':=G.mk g.h g.nx []) (Nat.le_refl _) (fun _ _ _=>rfl)).set (g':=ga) (k:=(J+1,2+r)) (v':=W) (e':=.sl 1 ((List.replicate y.length (0:Int)).map ci)) hkL (by rw[List.map_replicate];exact hWo) (by show g.nx<=ga.nx;omega) (fun i _ hi _=>fra i (by have hi:i<g.nx:=hi;omega)) (.inr ⟨_,by rw[bE hWo];exact vW,by show g.nx<=_;omega⟩)
    have e11:ups V (J+1,2+r) W (J+1,1)=V (J+1,1):=ac _ _ (by simp<;>omega)
    have hE1:ups E (J+1,2+r) (.sl 1 ((List.replicate y.length (0:Int)).map ci)) (J+1,1)=.sl 1 rws:=by rw[ac _ _ (by simp<;>omega)];exact hW.e1
    have rwa:ae ga.h 1 (V (J+1,1))=some rws:=by rw[<-e11];exact (hHa.own (LS.s hS.hx (by omega)) hE1).rows
    simp only[sz,simprocAttr,sf,rwa,hrl]
    refine (hHa.same (g':=_) (by simp) (by simp<;>omega)).putv (k:=(J+1,1)) (i:=r) (off:=0) (n:=1) (LS.s hS.hx (by omega)) e11 (row':=[W]) hE1 hrw (by rw[hWo.cell.1];rfl) hWo.cell.2 (by rw[hWo.cell.1];rfl) fun gb hHb nb frb fob=>?_
    simp only[sy] at nb frb fob ⊢
    refine ⟨?_,L.set J (x.wr r (List.replicate y.length 0)),x.wr r (List.replicate y.length 0),_,_,⟨?_,(hHb.same (g':=_) (by simp) (by simp<;>omega)).sub fun k hk=>LS.upd hS.hx (by simp[Node.wr]) hk,?_,?_,?_,BLs.upd hB.oth.v.e.e ?_ ?_ ?_,by rw[List.getElem?_set_self (List.getElem?_eq_some_iff.1 hS.hx).1],.inr ⟨r,rfl,by simpa [Node.wr] using hr⟩,hK,by simpa using hl⟩,by simp[Node.wr,hr]⟩
    ·simp only[List.reverse_cons,List.reverse_nil,List.nil_append,List.cons_append]
     refine aN [false,false,false,false,false,false,false,false,false,false,false,false,false,true,false,true] [(0,13),(1,13),(2,13),(3,13),(4,13)] (by simp[All2,ak,ay]) (by decide) ?_
     have ro1:=hB.own.refs_lt
     rintro p hp x y hx hy
     simp only[List.mem_cons,List.not_mem_nil,or_false] at hp
     rcases hp with rfl | rfl | rfl | rfl | rfl<;>(simp at hx hy;subst hx;subst hy;refine c_ rfl rfl rfl rfl ?_ ?_ ?_<;>simp[ak,ay,iz hB.ry,lga]<;>first | omega | (intro h;have:=ro1 _ h;omega) | (intro i' hi' e;have:=ro1 i' hi';omega) | (intro i' hi';have:=ro1 i' hi';omega) | skip)
    ·simp[St,sx,h2,h3,h4,h10,h11,ac]
    ·simp only[bumpG_h];rw[frb 0 (by omega)];(try simp);rw[fra 0 (by omega),hS.f0]
    ·simp only[bumpG_h];rw[frb 1 (by omega),ac _ _ (by simp<;>omega)];(try simp);rw[fra 1 (by omega),hS.f1]
    ·simp only[bumpG_h];rw[frb 2 (by omega)];(try simp);rw[fra 2 (by omega),hS.f2]
    ·rw[ac _ _ (by simp<;>omega),ac _ _ (by simp<;>omega),hB.e0]
    ·rw[iW,ac _ _ (by simp<;>omega),ac _ _ (by simp<;>omega)];exact hB.row
    ·exact xL (r:=r) (y':=List.replicate y.length 0) hB.nd hW.at_ hW.len hr (by rw[ac _ _ (by simp<;>omega),ac _ _ (by simp<;>omega)]) (by rw[ah,ah]) (by rw[ac _ _ (by simp<;>omega),ah]) (fun q hq=>ac _ _ (by simp<;>omega)) (fun q hq=>by rw[ac _ _ (by simp<;>omega),ac _ _ (by simp<;>omega)]) (by simpa using hyl)
   clear h2 h3 h4 h10 h11 hB hW hkL hyo hS hrw hrl hryw
   rintro t df g2 ⟨rfl,L',x',V',E',hS,hy'⟩
   rw[hA]
   obtain ⟨h2,h3,h4,h10,h11,-⟩:=hS.st
   obtain ⟨rows,hB⟩:=hS.bt
   obtain ⟨rws,hR⟩:=hS.br hy'
   have u1:0<((List.replicate y.length (0:Int)).map ci).length:=by simpa using hpos
   have u2:((List.replicate y.length (0:Int)).map ci)[0]?=some (ci 0):=by simp[hpos]
   have u3:=hR.yr
   have u4:=hR.rl
   simp only[sz,simprocAttr,sf,h3,h10,h11,hS.f1,bf hB.ry,bh hB.ry,hB.own.rows,hB.hlt,hB.row,hR.wr,u4,hR.rw_,yM u3 u1]
   refine (hS.hp.same (g':=_) (by simp) (by simp<;>omega)).put (k:=(J+1,2+r)) (i:=0) (off:=0) (n:=1) (row:=ci 0) (row':=ci gr) (LS.s hS.hx (by have:=(List.getElem?_eq_some_iff.1 hy').1;omega)) hR.ye u2 rfl rfl rfl fun gb hHb nb frb fob=>?_
   simp only[sy] at nb frb fob ⊢
   refine ⟨?_,?_⟩
   ·simp only[List.reverse_cons,List.reverse_nil,List.nil_append,List.cons_append]
    exact aN [false,false,false,false,false,false,false,false,false,false,true] [] (by simp[All2,ak,ay]) (by decide) (by simp)
   rw[<-List.map_set] at hHb
   have hS2:=hS.put (t':=t) hy' (hHb.same (g':=G.mk gb.h gb.nx []) rfl (Nat.le_refl _)) (fun i hi=>by have:=frb i hi;simpa using this) (by simpa using hR.yl) (by simp[St,h2,h3,h4,h10,h11])
   exact fin _ _ gr _ _ (by simp[sx,h3]) (by simp[sx,h4]) (by simpa using hS2.f1) (by simpa using hS2.f2) (hS2.sl.heap (by simp))
  ·simp only[sx]
   exact hS.fin0 fin (by simp[sx,h3]) (by simp[sx,h4])
theorem Ga {n:Nat}(hn:n<=1000000)(hy0:y.length=n)(hyr:x.rows[r]?=some y)(hS:BS K J L x bx gr (r:Int) t g V E)(h12:tat t 12=.int .i64 0)(h13:tat t 13=.int .i64 ((n:Int) - 1))
  (fin:∀t g L x E,BS K J L x bx gr (r:Int) t g V E->Q (.exit 5) t [] g):wpL (wp C0 d none dq) Q t [] g:=by
 obtain ⟨FR,hFR⟩:∃FR,FR=SC.feet [0,1,3,7,0,31,63,0,0,256,768,1792,0,7936,16128,0,65280,130816,262143,524287] [oM 279 10,o 280 (.nilc (.t 279)),oF 281 2 280,oL 282 281,oM 283 11,oX 284 282 283,oL 285 284,oM 286 12,oM 287 10,o 288 (.nilc (.t 287)),oF 289 2 288,oL 290 289,oM 291 11,oX 292 290 291,oL 293 292,oM 294 13,oX 295 293 294,oL 296 295,oX 297 285 286,oz (.store 1 (.t 297) (.t 296))]:=⟨_,rfl⟩
 simp only[dq]
 rw[<-hFR]
 refine bi (n / 2) (by omega) (fun j t df g=>df=[]/\∃L x y E,BS K J L x bx gr (r:Int) t g V E/\x.rows[r]?=some y/\y.length=n/\tat t 13=.int .i64 ((n:Int) - 1 - (j:Int)))
  ⟨rfl,L,x,y,E,hS,hyr,hy0,by simp[h13]⟩ h12 (by decide) ?_ ?_ ?_ ?_
 ·rintro j t df g v s (rfl | rfl | rfl) ⟨rfl,L,x,y,E,hS,h⟩<;>exact ⟨rfl,L,x,y,E,⟨by have:=hS.st;simpa [St,sx] using this,hS.hp,hS.f0,hS.f1,hS.f2,hS.bl,hS.hx,hS.hR,hS.hK,hS.hl⟩,by simpa [sx] using h⟩
 ·rintro j t df g hj ⟨rfl,L,x,y,E,hS,hyr,hyn,h13⟩ h12
  simp only[sz,simprocAttr,h12,h13]
  refine ⟨by congr 1;exact decide_eq_decide.2 (by omega),⟨L,x,y,E,⟨by have:=hS.st;simpa [St,sx] using this,hS.hp,hS.f0,hS.f1,hS.f2,hS.bl,hS.hx,hS.hR,hS.hK,hS.hl⟩,hyr,hyn⟩⟩
 ·rintro j t df g hj ⟨rfl,L,x,y,E,hS,hyr,hyn,h13⟩ h12
  have hk:((n:Int) - 1 - (j:Int))=((n - 1 - j:Nat):Int):=by omega
  rw[hk] at h13
  obtain ⟨z,hz⟩:∃z,y[j]?=some z:=⟨_,List.getElem?_eq_getElem (by omega)⟩
  obtain ⟨z',hz'⟩:∃z,y[n - 1 - j]?=some z:=⟨_,List.getElem?_eq_getElem (by omega)⟩
  refine dk (P:=fun t' df g'=>df=[]/\g'=g/\BS K J L x bx gr (r:Int) t' g V E/\St t' [(12,.int .i64 (j:Int)),(13,.int .i64 ((n - 1 - j:Nat):Int)),(14,.int .i64 z)]) ?_ ?_
  ·obtain ⟨h2,h3,h4,h10,h11,-⟩:=hS.st
   obtain ⟨rows,hB⟩:=hS.bt
   obtain ⟨rws,hR⟩:=hS.br hyr
   have u1:j<(y.map ci).length:=by simp;omega
   have u2:(y.map ci)[j]?=some (ci z):=by rw[List.getElem?_map,hz];rfl
   have hryy:=pz hR.yr u1
   simp only[sz,simprocAttr,h10,h11,h12,bf hB.ry,bh hB.ry,hB.own.rows,hB.hlt,hB.row,hR.wr,hR.rl,hR.rw_,hR.yr,u1,u2,ci]
   exact ⟨⟨by simp[St,sx,h2,h3,h4,h10,h11],hS.hp,hS.f0,hS.f1,hS.f2,hS.bl,hS.hx,hS.hR,hS.hK,hS.hl⟩,by simp[St,sx,h12,h13]⟩
  clear hS h12 h13
  rintro t df g1 ⟨rfl,rfl,hS,h12,h13,h14,-⟩
  rw[hFR]
  refine dk (P:=fun t' df g'=>df=[]/\∃L x E,BS K J L x bx gr (r:Int) t' g' V E/\x.rows[r]?=some (y.set j z')/\St t' [(12,.int .i64 (j:Int)),(13,.int .i64 ((n - 1 - j:Nat):Int)),(14,.int .i64 z)]) ?_ ?_
  ·obtain ⟨h2,h3,h4,h10,h11,-⟩:=hS.st
   obtain ⟨rows,hB⟩:=hS.bt
   obtain ⟨rws,hR⟩:=hS.br hyr
   have u1:j<(y.map ci).length:=by simp;omega
   have u2:(y.map ci)[j]?=some (ci z):=by rw[List.getElem?_map,hz];rfl
   have u3:n - 1 - j<(y.map ci).length:=by simp;omega
   have u4:(y.map ci)[n - 1 - j]?=some (ci z'):=by rw[List.getElem?_map,hz'];rfl
   have hryy:=pz hR.yr u1
   have hrl:=hR.rl
   simp only[sz,simprocAttr,sf,h10,h11,h12,h13,bf hB.ry,bh hB.ry,hB.own.rows,hB.hlt,hB.row,hR.wr,hrl,hR.rw_,hR.yr,u1,u3,u4,ci]
   refine (hS.hp.same (g':=_) (by simp) (by simp;omega)).put (k:=(J+1,2+r)) (i:=j) (off:=0) (n:=1) (row:=ci z) (row':=ci z') (LS.s hS.hx (by have:=(List.getElem?_eq_some_iff.1 hyr).1;omega)) hR.ye u2 rfl rfl rfl fun gb hHb nb frb fob=>?_
   simp only[sy] at nb frb fob ⊢
   rw[<-List.map_set] at hHb
   have hS2:=hS.put (t':=t) hyr (hHb.same (g':=G.mk gb.h gb.nx []) rfl (Nat.le_refl _)) (fun i hi=>by have:=frb i hi;simpa using this) (by simpa using hR.yl) (by simp[St,h2,h3,h4,h10,h11])
   refine ⟨?_,_,_,_,hS2.mv (by simp) (by simp) (by simp[St,sx,h2,h3,h4,h10,h11]),by simp[Node.wr,(List.getElem?_eq_some_iff.1 hyr).1],by simp[St,sx,h12,h13,h14]⟩
   simp only[List.reverse_cons,List.reverse_nil,List.nil_append,List.cons_append]
   exact aN [false,false,false,false,false,false,false,false,false,false,false,false,false,false,false,false,false,false,false,true] [] (by simp[All2,ak,ay]) (by decide) (by simp)
  clear hS h12 h13 h14 hyr
  rintro t df g2 ⟨rfl,L,x,E,hS,hyr,h12,h13,h14,-⟩
  refine dk (P:=fun t' df g'=>df=[]/\∃L x E,BS K J L x bx gr (r:Int) t' g' V E/\x.rows[r]?=some ((y.set j z').set (n - 1 - j) z)/\St t' [(12,.int .i64 (j:Int)),(13,.int .i64 ((n - 1 - j:Nat):Int))]) ?_ ?_
  ·obtain ⟨h2,h3,h4,h10,h11,-⟩:=hS.st
   obtain ⟨rows,hB⟩:=hS.bt
   obtain ⟨rws,hR⟩:=hS.br hyr
   have u3:n - 1 - j<((y.set j z').map ci).length:=by simp;omega
   obtain ⟨w,hw⟩:∃w,(y.set j z')[n - 1 - j]?=some w:=⟨_,List.getElem?_eq_getElem (by simp;omega)⟩
   have u4:((y.set j z').map ci)[n - 1 - j]?=some (ci w):=by rw[List.getElem?_map,hw];rfl
   have hryy:=pz hR.yr u3
   have hrl:=hR.rl
   have hyr':=hR.yr
   simp only[sz,simprocAttr,h10,h11,h13,h14,bf hB.ry,bh hB.ry,hB.own.rows,hB.hlt,hB.row,hR.wr,hrl,hR.rw_,hyr',u3]
   refine hS.hp.put (k:=(J+1,2+r)) (i:=n - 1 - j) (off:=0) (n:=1) (row:=ci w) (row':=ci z) (LS.s hS.hx (by have:=(List.getElem?_eq_some_iff.1 hyr).1;omega)) hR.ye u4 rfl rfl rfl fun gb hHb nb frb fob=>?_
   simp only[sx,sy]
   rw[<-List.map_set] at hHb
   have hS2:=hS.put (t':=t) hyr hHb frb (by simpa using hR.yl) (by simp[St,h2,h3,h4,h10,h11])
   exact ⟨_,_,_,⟨by simp[St,sx,h2,h3,h4,h10,h11],hS2.hp,hS2.f0,hS2.f1,hS2.f2,hS2.bl,hS2.hx,hS2.hR,hS2.hK,hS2.hl⟩,by simp[Node.wr,(List.getElem?_eq_some_iff.1 hyr).1],by simp[St,sx,h12,h13]⟩
  clear hS h12 h13 h14 hyr
  rintro t df g3 ⟨rfl,L,x,E,hS,hyr,h12,h13,-⟩
  simp only[sz,simprocAttr,h12,h13]
  refine ⟨L,x,(y.set j z').set (n - 1 - j) z,E,hS.mv rfl (Nat.le_refl _) (by have:=hS.st;simpa [St,sx] using this),hyr,by simp[hyn],?_⟩
  rw[aA (by omega) (by omega)]
  congr 1
  omega
 ·rintro t df g ⟨rfl,L,x,y,E,hS,-⟩
  exact fin t g L x E hS
theorem bc9 (hS:BS K J L x bx gr Rw t g V E)(fin:qA fun e t df g=>Q e t df g) :
  wp C0 d none (sQ [oM 253 11,o 254 (.bin .geq (.t 253) (qI 0))] (.cond (.t 254) (.seq (.quiet [oM 255 10,o 256 (.nilc (.t 255)),oF 257 2 256,oL 258 257,oM 259 11,oX 260 258 259,oL 261 260,oN 262 261,o 263 (.bin .sub (.t 262) (qI 1)),oK 12 0,oM 13 263]) (.blk 5 (.loop dq))) (.skip))) Q t [] g:=by
 obtain ⟨h2,h3,h4,h10,h11,-⟩:=hS.st
 obtain ⟨rows,hB⟩:=hS.bt
 rcases hS.hR with ⟨rfl,h0⟩ | ⟨r,rfl,hr⟩
 ·simp only[sx,SO.run,↓reduceIte,h11]
  exact ⟨fun h=>by simp at h,fun _=>hS.fin0 fin (by simp[sx,h3]) (by simp[sx,h4])⟩
 ·simp only[sx,SO.run,↓reduceIte,h11]
  refine ⟨fun _=>?_,fun h=>by simp at h⟩
  obtain ⟨y,hy⟩:∃y,x.rows[r]?=some y:=⟨_,List.getElem?_eq_getElem hr⟩
  obtain ⟨rws,hR⟩:=hS.br hy
  have ly:=bJ hR.yr
  rw[List.length_map] at ly
  have hyl:=hR.yl
  have hK:=hS.hK
  have w9:IntKind.wrap .i64 ((y.length:Int) - 1)=(y.length:Int) - 1:=aA (by omega) (by omega)
  simp only[sx,sy,SO.run,↓reduceIte,Nat.reduceEqDiff,h10,h11,bf hB.ry,bh hB.ry,hB.own.rows,hB.hlt,hB.row,hR.wr,hR.rl,hR.rw_,ly,w9,Option.isSome_some,Option.getD_some]
  refine Ga (n:=y.length) (L:=L) (x:=x) (y:=y) (E:=E) (by omega) rfl hy ⟨by simp[St,sx,h2,h3,h4,h10,h11],hS.hp,hS.f0,hS.f1,hS.f2,hS.bl,hS.hx,hS.hR,hS.hK,hS.hl⟩ (by simp[sx]) (by simp[sx]) ?_
  intro t g L x E hS
  obtain ⟨h2,h3,h4,h10,h11,-⟩:=hS.st
  simp only[sx,↓reduceIte]
  exact hS.fin0 fin h3 h4
end
end
end Hx
end
section
namespace Hx
open Go
noncomputable section
def GT:VS:=fun P k h v=>∃m:Net,True/\Agg m P k h v
theorem F8:Snb GT 1:=jk fun m=>dI _
theorem bk5 {d:Nat}{t:T}{g:G}{gr:Int}{nv:AV}{nds:List Node}(h3:tat t 3=.hptr 1 0 0 0)(h4:tat t 4=.hptr 2 0 0 0)(e1:g.h.get 1=.cells 2 [[.int .i64 gr,nv]] 0 false false)(e2:g.h.get 2=.cells 2 [[.int .i64 0,.nils]] 0 false false)
  (hn:SlR P3 0 g.h nds nv):wp C0 d none dw (fnQ C0 d [SR.cell true 2 4] fun v g'=>∃P,GT P 0 g'.h v) t [] g:=by
 simp only[sz,simprocAttr,dw,h3,h4,e1,e2]
 refine ⟨P3,⟨gr,nds⟩,trivial,_,rfl,?_⟩
 exact Rp.mono (P:=P3) (h:=g.h) (d5.2 ⟨nv,rfl,hn⟩) (fun i hi=>⟨hi,by rw[aJ _ _ _ (by have:3<=i:=hi;omega)]⟩) (Nat.le_refl _)
theorem bk6 {d K J:Nat}{L:List Node}{x:Node}{bx:jB}{gr Rw:Int}{t:T}{g:G}{V:Ky->AV}{E:Ky->En}{Q:QT}(hS:BS K J L x bx gr Rw t g V E)
  (last:qA (kB 4 (kS (wp C0 d none dw Q) Q))):wp C0 d none fe Q t [] g:=by
 have w8:bx.1.toNat<256:=bx.1.toNat_lt
 obtain ⟨h2,h3,h4,h10,h11,-⟩:=hS.st
 have mv:∀{t':T},St t' (LBS (V (0,0)) J Rw)->BS K J L x bx gr Rw t' g V E:=fun h=>hS.mv rfl (Nat.le_refl _) h
 simp only[sz,simprocAttr,fe,h2,hS.f0,u8v,ir .u8 (show (0:Int)<=(bx.1.toNat:Int) by omega) (show (0:Int)<12 by decide)]
 refine aY (fun hb=>?_) (fun hb=>?_)
 ·exact bc0 (mv (by simp[St,sx,h2,h3,h4,h10,h11])) last
 simp only[sz,simprocAttr]
 refine aY (fun hb=>?_) (fun hb=>?_)
 ·exact bc1 (mv (by simp[St,sx,h2,h3,h4,h10,h11])) last
 simp only[sz,simprocAttr]
 refine aY (fun hb=>?_) (fun hb=>?_)
 ·exact bc2 (mv (by simp[St,sx,h2,h3,h4,h10,h11])) last
 simp only[sz,simprocAttr]
 refine aY (fun hb=>?_) (fun hb=>?_)
 ·exact bc3 (mv (by simp[St,sx,h2,h3,h4,h10,h11])) last
 simp only[sz,simprocAttr]
 refine aY (fun hb=>?_) (fun hb=>?_)
 ·exact bc4 (mv (by simp[St,sx,h2,h3,h4,h10,h11])) last
 simp only[sz,simprocAttr]
 refine aY (fun hb=>?_) (fun hb=>?_)
 ·exact bc5 (mv (by simp[St,sx,h2,h3,h4,h10,h11])) last
 simp only[sz,simprocAttr]
 refine aY (fun hb=>?_) (fun hb=>?_)
 ·exact bc6 (mv (by simp[St,sx,h2,h3,h4,h10,h11])) last
 simp only[sz,simprocAttr]
 refine aY (fun hb=>?_) (fun hb=>?_)
 ·exact bc7 (mv (by simp[St,sx,h2,h3,h4,h10,h11])) last
 simp only[sz,simprocAttr]
 refine aY (fun hb=>?_) (fun hb=>?_)
 ·exact bc8 (mv (by simp[St,sx,h2,h3,h4,h10,h11])) last
 simp only[sz,simprocAttr]
 refine aY (fun hb=>?_) (fun hb=>?_)
 ·exact bc9 (mv (by simp[St,sx,h2,h3,h4,h10,h11])) last
 simp only[sz,simprocAttr]
 refine aY (fun hb=>?_) (fun hb=>?_)
 ·exact IW (mv (by simp[St,sx,h2,h3,h4,h10,h11])) last
 exact I6 (mv (by simp[St,sx,h2,h3,h4,h10,h11])) last
theorem bk7 {d K:Nat}{bx:jB}{gr:Int}{b:AV}{L:List Node}{t:T}{g:G}{V:Ky->AV}{E:Ky->En}(hK:K<=1000000)(hl:L.length<=K)
  (ht:St t [(2,.hptr 0 0 0 0),(3,.hptr 1 0 0 0),(4,.hptr 2 0 0 0)]) (h5:tat t 5=V (0,0)) (hH:Hp g 3 (LS L) V E) (hB:BBn g [u8v bx.1,u8v bx.2.1,u8v bx.2.2.1,.int .i64 bx.2.2.2] gr b) (hD:BLs K V E L) :
  wp C0 d none fj (fnQ C0 d [SR.cell true 2 4] fun v g'=>∃P,GT P 0 g'.h v) t [] g:=by
 obtain ⟨h2,h3,h4,-⟩:=ht
 obtain ⟨b0,b1,b2⟩:=hB
 obtain ⟨rows,e1,e2,e3⟩:=hD.ns
 have o1:=hH.own LS.z e1
 have len1:=bJ o1.rows
 rw[e2] at len1
 have hnx:=hH.nx
 unfold fj
 refine aO (P:=fun t df g'=>df=[]/\Hp g' 3 (LS L) V E/\St t [(2,.hptr 0 0 0 0),(3,.hptr 1 0 0 0),(4,.hptr 2 0 0 0),(5,V (0,0))]/\g'.h.get 0=.cells 4 [[u8v bx.1,u8v bx.2.1,u8v bx.2.2.1,.int .i64 bx.2.2.2]] 0 false false/\g'.h.get 1=.cells 2 [[.int .i64 gr,V (0,0)]] 0 false false/\g'.h.get 2=.cells 2 [[.int .i64 0,.nils]] 0 false false) ?_ ?_
 ·simp only[sz,simprocAttr,h3,h5,b1,o1.cell.1,o1.cell.2]
  exact ⟨hH.step (by simp) fun i hi _=>by simp[H.get_put];omega,by simp[St,sx,h2,h3,h4,h5],by simp[b0],by simp[b2]⟩
 clear b0 b1 b2 h2 h3 h4 h5 hH o1 hnx
 rintro t df g1 hg
 obtain ⟨rfl,hH,⟨h2,h3,h4,h5,-⟩,f0,f1,f2⟩:=hg
 have o1:=hH.own LS.z e1
 have hsl:=hD.sl hH (by omega) (by omega)
 simp only[sz,simprocAttr,h5,len1]
 refine aY (fun hb=>?_) (fun hb=>?_)
 ·simp only[sz,simprocAttr,h3,h4,f1,f2]
  refine ⟨P3,⟨gr,L⟩,trivial,_,rfl,?_⟩
  exact Rp.mono (P:=P3) (h:=g1.h) (d5.2 ⟨_,rfl,hsl⟩) (fun i hi=>⟨hi,by rw[aJ _ _ _ (by have:3<=i:=hi;omega)]⟩) (Nat.le_refl _)
 have hn0:0<L.length:=by have:=of_decide_eq_false hb;omega
 have at8:bx.2.1.toNat<256:=bx.2.1.toNat_lt
 have em:((bx.2.1.toNat:Int) % (L.length:Int))=((bx.2.1.toNat % L.length:Nat):Int):=by omega
 have hJ:bx.2.1.toNat % L.length<L.length:=Nat.mod_lt _ hn0
 obtain ⟨J,hJe⟩:∃J,J=bx.2.1.toNat % L.length:=⟨_,rfl⟩
 rw[<-hJe] at em hJ
 obtain ⟨x,hx⟩:∃x,L[J]?=some x:=⟨_,List.getElem?_eq_getElem hJ⟩
 have hJr:J<rows.length:=by omega
 have hrow:rows[J]?=some [.int .i64 x.card,V (J+1,0),V (J+1,1)]:=e3 J x hx
 have hry:iB (V (0,0))=true:=d9 o1 (by omega)
 obtain ⟨rws,q1,q2,q3⟩:=(hD.nd J x hx).rs
 have hlen:=(hD.nd J x hx).len
 have o2:=hH.own (LS.s hx (by omega)) q1
 have len2:=bJ o2.rows
 rw[q2] at len2
 rw[xY,pi]
 refine aO (P:=fun t df g'=>df=[]/\g'=g1/\St t [(2,.hptr 0 0 0 0),(3,.hptr 1 0 0 0),(4,.hptr 2 0 0 0),(10,iY 3 (V (0,0)) J 0)]) ?_ ?_
 ·simp only[sz,simprocAttr,h2,h3,h4,h5,f0,len1,u8v,aA (show -9223372036854775808<=(bx.2.1.toNat:Int) by omega) (show (bx.2.1.toNat:Int)<9223372036854775808 by omega),ir .i64 (show (0:Int)<=(bx.2.1.toNat:Int) by omega) (show 0<(L.length:Int) by omega),em,o1.rows,hJr,St]
 clear h2 h3 h4 h5
 rintro t df g' ⟨rfl,rfl,h2,h3,h4,h10,-⟩
 have r8:bx.2.2.1.toNat<256:=bx.2.2.1.toNat_lt
 refine aO (P:=fun t df g''=>df=[]/\g''=g'/\St t (LBS (V (0,0)) J (-1))) ?_ ?_
 ·simp only[sz,simprocAttr,h2,h3,h4,h10,St]
 clear h2 h3 h4 h10
 rintro t df g'' ⟨rfl,rfl,h2,h3,h4,h10,h11,-⟩
 refine dk (P:=fun t df g3=>df=[]/\g3=g''/\∃Rw:Int,((Rw = -1/\x.rows.length=0)\/∃r:Nat,Rw=(r:Int)/\r<x.rows.length)/\St t (LBS (V (0,0)) J Rw)) ?_ ?_
 ·simp only[sz,simprocAttr,h10,bf hry,bh hry,o1.rows,hJr,hrow,len2]
  refine aY (fun hb=>?_) (fun hb=>?_)
  ·have hpos:0<x.rows.length:=by simpa using hb
   have em2:((bx.2.2.1.toNat:Int) % (x.rows.length:Int))=((bx.2.2.1.toNat % x.rows.length:Nat):Int):=by omega
   have hm:=Nat.mod_lt bx.2.2.1.toNat hpos
   simp only[sz,simprocAttr,h2,h10,f0,u8v,aA (show -9223372036854775808<=(bx.2.2.1.toNat:Int) by omega) (show (bx.2.2.1.toNat:Int)<9223372036854775808 by omega),bf hry,bh hry,o1.rows,hJr,hrow,len2,ir .i64 (show (0:Int)<=(bx.2.2.1.toNat:Int) by omega) (show 0<(x.rows.length:Int) by omega),em2]
   exact ⟨_,.inr ⟨_,rfl,hm⟩,by simp[St,sx,h2,h3,h4,h10]⟩
  ·have h0:x.rows.length=0:=by have:=of_decide_eq_false hb;omega
   simp only[sx,sy]
   exact ⟨-1,.inl ⟨rfl,h0⟩,by simp[St,sx,h2,h3,h4,h10,h11]⟩
 clear h2 h3 h4 h10 h11
 rintro t df g3 ⟨rfl,rfl,Rw,hR,ht⟩
 refine bk6 (K:=K) (L:=L) (x:=x) (bx:=bx) (gr:=gr) ⟨ht,hH,f0,f1,f2,hD,hx,hR,hK,hl⟩ ?_
 intro t g gr nv nds h3 h4 e1 e2 s1
 rw[xC,pi]
 exact bk5 h3 h4 e1 e2 s1
theorem Ha {d K:Nat}{g:G}{x:jB}{m:Net}{v w:AV}(hd:0<d)(hx:Agg x NoP 0 g.h v)(hm:Agg m NoP 0 g.h w)(hK:K<=1000000)(hl:m.nodes.length<=K)
  (hb:∀y∈m.nodes,y.parents.length<=K/\y.rows.length<=K/\∀r∈y.rows,r.length<=K):∃r,au C0 d N.aN [v,w] g=.val r/\GT NoP 0 .nil r:=by
 have e0:=gK d hx
 have e1:=gK d hm
 obtain ⟨cs,rfl,hc⟩:=hx
 have hc:=zA.1 hc
 subst hc
 obtain ⟨cs,rfl,hc⟩:=hm
 obtain ⟨b,rfl,hN⟩:=d5.1 hc
 rw[qr]
 refine bz rF (xs:=[.agg [u8v x.1,u8v x.2.1,u8v x.2.2.1,.int .i64 x.2.2.2],.agg [.int .i64 m.grain,b]]) (by simp only[aE,e0,e1]) (by simp[iS]) F8 (by decide) hd ?_
 clear e0 e1 hc
 have hN:=hN.tree (h':=.nil) (Nat.le_refl _)
 simp only[sz,simprocAttr,iS]
 obtain ⟨g0,hg0⟩:∃g0,g0=((G.empty.new (.cells 4 [[u8v x.1,u8v x.2.1,u8v x.2.2.1,.int .i64 x.2.2.2]] 0 false false)).new (.cells 2 [[.int .i64 m.grain,b]] 0 false false)).new (.cells 2 [[.int .i64 0,.nils]] 0 false false):=⟨_,rfl⟩
 rw[<-hg0]
 have f0:BBn g0 [u8v x.1,u8v x.2.1,u8v x.2.2.1,.int .i64 x.2.2.2] m.grain b:=by rw[hg0];exact ⟨by simp[sx,H.get_put],by simp[sx,H.get_put],by simp[sx]⟩
 have f3:g0.nx=3:=by rw[hg0];simp[sx]
 clear hg0
 have hH:Hp g0 3 (LS []) (fun _=>.nils) (fun k=>.sl 3 []):=⟨fun k _=>.inl ⟨rfl,rfl⟩,fun k l _ _ _ id h=>(by cases h),by omega⟩
 simp only[sz,simprocAttr,kC]
 refine IE (V:=fun _=>.nils) hK hN hl hb (by simp[St,sx]) (by simp[sx]) (by simp[sx]) hH f0 ⟨⟨[],rfl,rfl,fun i y hy=>by simp at hy⟩,fun i y hy=>by simp at hy⟩ ?_
 clear hH
 intro t g V E ht h5 hH hB hD
 simp only[sx,↓reduceIte]
 exact bk7 hK hl ht h5 hH hB hD
def Aq:SC:=sQ [o 89 (.ixa 3 1 (.t 12) (qI 0)),oL 90 89,o 91 (.ixa 3 1 (.t 12) (qI 1)),oL 92 91,o 93 (.bin .or (.t 90) (.t 92)),o 94 (.ixa 3 1 (.t 12) (qI 2)),oL 95 94,o 96 (.bin .or (.t 93) (.t 95)),oF 97 1 10,oL 98 97,oN 99 98,o 100 (.bin .shr (.t 96) (.t 99)),o 101 (.bin .neq (.t 100) (.k (.int .u64 0))),oM 102 101,og 103 102 false (.ixa 3 1 (.t 12) (qI 0)),og 104 102 false (.load false 1 (.t 103)),og 105 102 false (.ixa 3 1 (.t 12) (qI 1)),og 106 102 false (.load false 1 (.t 105)),og 107 102 false (.bin .and (.t 104) (.t 106)),og 108 102 false (.bin .neq (.t 107) (.k (.int .u64 0))),o 109 (.pick (.t 102) (.k (.bool true)) (.t 108)),oM 110 109,og 111 110 false (.ixa 3 1 (.t 12) (qI 0)),og 112 110 false (.load false 1 (.t 111)),og 113 110 false (.ixa 3 1 (.t 12) (qI 2)),og 114 110 false (.load false 1 (.t 113)),og 115 110 false (.bin .and (.t 112) (.t 114)),og 116 110 false (.bin .neq (.t 115) (.k (.int .u64 0))),o 117 (.pick (.t 110) (.k (.bool true)) (.t 116)),oM 118 117,og 119 118 false (.ixa 3 1 (.t 12) (qI 1)),og 120 118 false (.load false 1 (.t 119)),og 121 118 false (.ixa 3 1 (.t 12) (qI 2)),og 122 118 false (.load false 1 (.t 121)),og 123 118 false (.bin .and (.t 120) (.t 122)),og 124 118 false (.bin .neq (.t 123) (.k (.int .u64 0))),o 125 (.pick (.t 118) (.k (.bool true)) (.t 124)),oM 88 125] (.cond (.t 88) (.ops [oK 15 2]) (.skip))
def FG:SC:=sQ [o 72 (.ix true 3 3 (.t 69) (.t 70)),o 12 (.alloc [.int .u64 0,.int .u64 0,.int .u64 0]),oz (.store 3 (.t 12) (.t 72))] (sQ [o 74 (.load true 2 (.t 10)),o 75 (.ixa 3 1 (.t 12) (qI 0)),oL 76 75,o 77 (.ixa 3 1 (.t 12) (qI 1)),oL 78 77,o 79 (.ixa 3 1 (.t 12) (qI 2)),oL 80 79,o 81 (.call N.an [.t 74,.t 76,.t 78,.t 80]),oM 73 81,o 82 (.ext (.t 73) 0),o 83 (.ext (.t 73) 1),oM 13 82,oM 14 83] (sQ [oK 15 0] (.seq (.blk 4 (sQ [o 85 (.load true 2 (.t 10)),o 86 (.call N.au [.t 85]),o 87 (.not (.t 86)),oM 84 87] (.cond (.t 84) (.ops [oK 15 50]) Aq))) bM)))
def LDj (v5:AV)(all:Nat)(c29 i30:AV)(p:Nat)(c69:AV)(j:Nat):List (Nat×AV):=[(10,.hptr p 0 0 0),(69,c69),(70,.int .i64 (j:Int)),(5,v5),(8,.int .u64 (all:Int)),(29,c29),(30,i30)]
theorem ixq (q k:Nat)(h:k<3):iA 3 1 (.hptr q 0 0 0) (.int .i64 (k:Int))=.val (.hptr q 0 0 k):=by
 have:=zO 3 1 q 0 0 0 .i64 h;simpa using this
theorem Gi {xs ys zs q p all j:Nat}{n:Net}{b v5 c29 i30 c69:AV}{l:Nat}{e:Int}{w:Bool}{Q:QT}{t:T}{g:G}(hx:xs<18446744073709551616)(hy:ys<18446744073709551616)(hz:zs<18446744073709551616)(hb:∀g,eO .slice b g=.val (.int .i64 (l:Int)))
  (ht:St t ((12,.hptr q 0 0 0)::(13,.bool w)::(14,.int .i64 e)::(15,.int .i64 0)::LDj v5 all c29 i30 p c69 j)) (kq:g.h.get q=.cells 3 [[.int .u64 (xs:Int),.int .u64 (ys:Int),.int .u64 (zs:Int)]] 0 false false) (kp:g.h.get p=.cells 2 [[.int .i64 n.grain,b]] 0 false false)
  (fin:∀t',St t' ((12,.hptr q 0 0 0)::(13,.bool w)::(14,.int .i64 e)::(15,.int .i64 (if S.ba l xs ys zs then 2 else 0))::LDj v5 all c29 i30 p c69 j)->Q .norm t' [] g):wp C0 1 none Aq Q t [] g:=by
 have i0:iA 3 1 (.hptr q 0 0 0) (.int .i64 0)=.val (.hptr q 0 0 0):=ixq q 0 (by omega)
 have i1:iA 3 1 (.hptr q 0 0 0) (.int .i64 1)=.val (.hptr q 0 0 1):=ixq q 1 (by omega)
 have i2:iA 3 1 (.hptr q 0 0 0) (.int .i64 2)=.val (.hptr q 0 0 2):=ixq q 2 (by omega)
 have o1:=eL xs ys hx hy
 have o2:=eL (xs ||| ys) zs (oy hx hy) hz
 have s1:=mZ .i64 (xs ||| ys ||| zs) l (oy (oy hx hy) hz)
 have a1:=eG xs ys hx hy
 have a2:=eG xs zs hx hz
 have a3':=eG ys zs hy hz
 have hB:S.ba l xs ys zs=((!decide ((xs ||| ys ||| zs) / 2 ^ l=0)) || !decide (xs &&& ys=0) || !decide (xs &&& zs=0) || !decide (ys &&& zs=0)):=rfl
 unfold Aq
 obtain ⟨h12,h13,h14,h15,h10,h69,h70,h5,h8,h29,h30,-⟩:=ht
 generalize (xs ||| ys ||| zs) / 2 ^ l=A at *
 generalize xs &&& ys=B at *
 generalize xs &&& zs=C at *
 generalize ys &&& zs=D at *
 have dz:∀m:Nat,decide ((m:Int)=0)=decide (m=0):=fun m=>by rw[Bool.eq_iff_iff];simp
 have d1:=dz A
 have d2:=dz B
 have d3:=dz C
 have d4:=dz D
 by_cases c1:A=0
 ·rw[decide_eq_true c1] at d1 hB
  by_cases c2:B=0
  ·rw[decide_eq_true c2] at d2 hB
   by_cases c3:C=0
   ·rw[decide_eq_true c3] at d3 hB
    by_cases c4:D=0
    ·rw[decide_eq_true c4] at d4 hB
     simp only[sz,simprocAttr,h10,h12,kq,kp,hb,i0,i1,i2,o1,o2,s1,a1,a2,a3',d1,d2,d3,d4]
     refine fin _ ?_
     have hB:S.ba l xs ys zs=false:=by simpa using hB
     rw[hB]
     simp[St,LDj,sx,h12,h13,h14,h15,h10,h69,h70,h5,h8,h29,h30]
    ·rw[decide_eq_false c4] at d4 hB
     simp only[sz,simprocAttr,h10,h12,kq,kp,hb,i0,i1,i2,o1,o2,s1,a1,a2,a3',d1,d2,d3,d4]
     refine fin _ ?_
     have hB:S.ba l xs ys zs=true:=by simpa using hB
     rw[hB]
     simp[St,LDj,sx,h12,h13,h14,h15,h10,h69,h70,h5,h8,h29,h30]
   ·rw[decide_eq_false c3] at d3 hB
    simp only[sz,simprocAttr,h10,h12,kq,kp,hb,i0,i1,i2,o1,o2,s1,a1,a2,a3',d1,d2,d3]
    refine fin _ ?_
    have hB:S.ba l xs ys zs=true:=by simpa using hB
    rw[hB]
    simp[St,LDj,sx,h12,h13,h14,h15,h10,h69,h70,h5,h8,h29,h30]
  ·rw[decide_eq_false c2] at d2 hB
   simp only[sz,simprocAttr,h10,h12,kq,kp,hb,i0,i1,i2,o1,o2,s1,a1,a2,a3',d1,d2]
   refine fin _ ?_
   have hB:S.ba l xs ys zs=true:=by simpa using hB
   rw[hB]
   simp[St,LDj,sx,h12,h13,h14,h15,h10,h69,h70,h5,h8,h29,h30]
 ·rw[decide_eq_false c1] at d1 hB
  simp only[sz,simprocAttr,h10,h12,kq,kp,hb,i0,i1,i2,o1,o2,s1,a1,a2,a3',d1]
  refine fin _ ?_
  have hB:S.ba l xs ys zs=true:=by simpa using hB
  rw[hB]
  simp[St,LDj,sx,h12,h13,h14,h15,h10,h69,h70,h5,h8,h29,h30]
theorem HX {xs ys zs p all j:Nat}{n:Net}{b v5 c29 i30 c69:AV}{Q:QT}{t:T}{g:G}(hm:∀h,Agg n NoP 0 h (.agg [.int .i64 n.grain,b]))(hx:xs<18446744073709551616)(hy:ys<18446744073709551616)(hz:zs<18446744073709551616)
  (ht:St t (LDj v5 all c29 i30 p c69 j)) (hix:ixV true 3 3 c69 (.int .i64 (j:Int))=.val (.agg [.int .u64 (xs:Int),.int .u64 (ys:Int),.int .u64 (zs:Int)])) (hp:p<g.nx) (hg:g.h.get p=.cells 2 [[.int .i64 n.grain,b]] 0 false false)
  (fin:∀t g',St t (LDj v5 all c29 i30 p c69 j)->Fr g g'->Q .norm t [] g'):wp C0 1 none FG Q t [] g:=by
 have lb:∀g,eO .slice b g=.val (.int .i64 (n.nodes.length:Int)):=by
  obtain ⟨b',rows,eb,e1,hm',hN,r1,r2,r3,r4⟩:=eS (g:=g) 0 (hm _)
  injection eb with eb;injection eb with _ eb;injection eb with eb _
  subst eb
  exact hN.len
 have kD:∀g,au C0 1 N.an [.agg [.int .i64 n.grain,b],.int .u64 (xs:Int),.int .u64 (ys:Int),.int .u64 (zs:Int)] g=.val (.tup [.bool (S.aN n xs ys zs),.int .i64 (S.aH n xs ys zs)]):=fun g=>Bd (by decide) (hm _) hx hy hz
 have kR:∀g,au C0 1 N.au [.agg [.int .i64 n.grain,b]] g=.val (.bool (S.aw n)):=fun g=>Dw (by decide) (hm _)
 obtain ⟨q,hq⟩:∃q,q=g.nx:=⟨_,rfl⟩
 have i0:iA 3 1 (.hptr q 0 0 0) (.int .i64 0)=.val (.hptr q 0 0 0):=ixq q 0 (by omega)
 have i1:iA 3 1 (.hptr q 0 0 0) (.int .i64 1)=.val (.hptr q 0 0 1):=ixq q 1 (by omega)
 have i2:iA 3 1 (.hptr q 0 0 0) (.int .i64 2)=.val (.hptr q 0 0 2):=ixq q 2 (by omega)
 unfold FG
 have st1:∀(g:G) (i:Nat) (x y z:Int),hZ (.cells 3 [[.int .u64 0,.int .u64 0,.int .u64 0]] 0 false false) g i 0 0 3 0 (.agg [.int .u64 x,.int .u64 y,.int .u64 z])=.upd .undef (g.put i (.cells 3 [[.int .u64 x,.int .u64 y,.int .u64 z]] 0 false false)):=fun _ _ _ _ _=>rfl
 refine aO (P:=fun t' df g'=>df=[]/\Fr g g'/\g'.nx=q+1/\g'.h.get q=.cells 3 [[.int .u64 (xs:Int),.int .u64 (ys:Int),.int .u64 (zs:Int)]] 0 false false/\St t' ((12,.hptr q 0 0 0)::LDj v5 all c29 i30 p c69 j)) ?_ ?_
 ·obtain ⟨h10,h69,h70,h5,h8,h29,h30,-⟩:=ht
  simp only[sz,simprocAttr,h69,h70,hix,st1]
  refine ⟨Cs _ _ _,?_,?_,?_⟩
  ·simp[hq]
  ·simp[hq]
  ·simp[St,LDj,sx,h10,h69,h70,h5,h8,h29,h30,hq]
 clear ht
 rintro t df g1 ⟨rfl,f1,n1,kq,ht⟩
 have kp:g1.h.get p=.cells 2 [[.int .i64 n.grain,b]] 0 false false:=by rw[f1.2 p hp,hg]
 refine aO (P:=fun t' df g'=>df=[]/\g'=g1/\St t' ((12,.hptr q 0 0 0)::(13,.bool (S.aN n xs ys zs))::(14,.int .i64 (S.aH n xs ys zs))::LDj v5 all c29 i30 p c69 j)) ?_ ?_
 ·obtain ⟨h12,h10,h69,h70,h5,h8,h29,h30,-⟩:=ht
  simp only[sz,simprocAttr,h10,h12,kp,kq,i0,i1,i2,kD]
  simp[St,LDj,sx,h12,h10,h69,h70,h5,h8,h29,h30]
 clear ht
 rintro t df g2 ⟨rfl,rfl,ht⟩
 refine aO (P:=fun t' df g'=>df=[]/\g'=g2/\St t' ((12,.hptr q 0 0 0)::(13,.bool (S.aN n xs ys zs))::(14,.int .i64 (S.aH n xs ys zs))::(15,.int .i64 0)::LDj v5 all c29 i30 p c69 j)) ?_ ?_
 ·obtain ⟨h12,h13,h14,h10,h69,h70,h5,h8,h29,h30,-⟩:=ht
  simp only[sz,simprocAttr]
  simp[St,LDj,sx,h12,h13,h14,h10,h69,h70,h5,h8,h29,h30]
 clear ht
 rintro t df g3 ⟨rfl,rfl,ht⟩
 refine dk (P:=fun t' df g'=>df=[]/\g'=g3/\St t' ((12,.hptr q 0 0 0)::(13,.bool (S.aN n xs ys zs))::(14,.int .i64 (S.aH n xs ys zs))::(15,.int .i64 (S.aH n xs ys zs))::LDj v5 all c29 i30 p c69 j)) ?_ ?_
 ·rw[iT]
  cases hnr:S.aw n with
  | false =>
   rw[hnr] at kR
   have hE:S.aH n xs ys zs=50:=by rw[S.aH,hnr];rfl
   obtain ⟨h12,h13,h14,h15,h10,h69,h70,h5,h8,h29,h30,-⟩:=ht
   simp only[sz,simprocAttr,h10,kp,kR]
   simp[St,LDj,sx,h12,h13,h14,h10,h69,h70,h5,h8,h29,h30,hE]
  | true =>
   rw[hnr] at kR
   have hE:S.aH n xs ys zs=if S.ba n.nodes.length xs ys zs then 2 else 0:=by rw[S.aH,hnr];rfl
   refine aO (P:=fun t' df g'=>df=[]/\g'=g3/\tat t' 84=.bool false/\St t' ((12,.hptr q 0 0 0)::(13,.bool (S.aN n xs ys zs))::(14,.int .i64 (S.aH n xs ys zs))::(15,.int .i64 0)::LDj v5 all c29 i30 p c69 j)) ?_ ?_
   ·obtain ⟨h12,h13,h14,h15,h10,h69,h70,h5,h8,h29,h30,-⟩:=ht
    simp only[sz,simprocAttr,h10,kp,kR]
    simp[St,LDj,sx,h12,h13,h14,h15,h10,h69,h70,h5,h8,h29,h30]
   clear ht
   rintro t df g4 ⟨rfl,rfl,h84,ht⟩
   simp only[sz,simprocAttr,h84]
   refine Gi hx hy hz lb ht kq kp fun t' ht'=>?_
   rw[<-hE] at ht'
   exact ⟨rfl,rfl,rfl,ht'⟩
 clear ht
 rintro t df g4 ⟨rfl,rfl,h12,h13,h14,h15,h10,h69,h70,h5,h8,h29,h30,-⟩
 have efin:∀t',(∀k,k=10\/k=69\/k=70\/k=5\/k=8\/k=29\/k=30->tat t' k=tat t k)->Q .norm t' [] g4:=fun t' hh=>fin t' g4 ⟨by rw[hh _ (by simp),h10],by rw[hh _ (by simp),h69],by rw[hh _ (by simp),h70],by rw[hh _ (by simp),h5],by rw[hh _ (by simp),h8],by rw[hh _ (by simp),h29],by rw[hh _ (by simp),h30],trivial⟩ f1
 by_cases hE:S.aH n xs ys zs=0
 ·have hnr:S.aw n=true:=by
   cases h:S.aw n with
   | true=>rfl
   | false=>rw[S.aH,h] at hE;cases hE
  have hr:=fw.1 hnr
  have hV:S.aN n xs ys zs=S.bc n xs ys zs:=by rw[S.aN,hE];rfl
  have kF:∀g,au C0 1 N.aA [.agg [.int .i64 n.grain,b],.int .u64 (xs:Int),.int .u64 (ys:Int),.int .u64 (zs:Int)] g=.val (.bool (S.bc n xs ys zs)):=fun g=>AP (by decide) (hm _) hr hx hy hz
  rw[hV] at h13
  have eqb:∀w:Bool,An true .bool (.bool w) (.bool w)=.val (.bool false):=fun w=>by cases w<;>rfl
  rw[hE] at h14 h15
  simp only[sz,simprocAttr,bM,h14,h15,h13,h12,h10,kp,kq,i0,i1,i2,kF,eqb]
  exact efin _ fun k hk=>by rcases hk with rfl | rfl | rfl | rfl | rfl | rfl | rfl<;>simp[sx]
 ·have hV:S.aN n xs ys zs=false:=by rw[S.aN,decide_eq_false hE];rfl
  rw[hV] at h13
  have eqb:An true .bool (.bool false) (.bool false)=.val (.bool false):=rfl
  simp only[sz,simprocAttr,bM,h14,h15,h13,hE,eqb]
  exact efin _ fun k hk=>by rcases hk with rfl | rfl | rfl | rfl | rfl | rfl | rfl<;>simp[sx]
theorem rf {α:Type} [Rp α]{x:α}{P:Nat->Prop}{cs:List AV}(h:Rp.rp NoP 0 .nil x cs)(h':H):Agg x P 0 h' (.agg cs):=⟨_,rfl,Rp.tree h (Nat.le_refl _)⟩
theorem yE (g:G):au C0 1 N.be [] g=.val (.bool true):=by kernel_rfl
theorem dB {m n:Nat}(h:m<18446744073709551616):m &&& n<18446744073709551616:=Nat.lt_of_le_of_lt Nat.and_le_left h
theorem uF {m n:Nat}(h:m<18446744073709551616)(h':n<18446744073709551616):m ^^^ n<18446744073709551616:=Nat.xor_lt_two_pow (n:=64) h h'
def djc (x0 x1 x2 y0 y1 y2 z0 z1 z2:Nat):AV:=.agg [.int .u64 (x0:Int),.int .u64 (x1:Int),.int .u64 (x2:Int),.int .u64 (y0:Int),.int .u64 (y1:Int),.int .u64 (y2:Int),.int .u64 (z0:Int),.int .u64 (z1:Int),.int .u64 (z2:Int)]
def Cq:SC:=sQ [o 32 (.ix true 2 2 (.t 29) (.t 30)),o 10 (.alloc [.int .i64 0,.nils]),oz (.store 2 (.t 10) (.t 32))] (sQ [o 33 (.load true 3 (.t 5)),o 34 (.ixa 3 1 (.t 5) (qI 0)),oL 35 34,oM 36 8,o 37 (.bin .and (.t 35) (.t 36)),o 38 (.ixa 3 1 (.t 5) (qI 1)),oL 39 38,oM 40 8,o 41 (.bin .and (.t 39) (.t 40)),o 42 (.ixa 3 1 (.t 5) (qI 2)),oL 43 42,oM 44 8,o 45 (.bin .and (.t 43) (.t 44)),o 46 (.build [.int .u64 0,.int .u64 0,.int .u64 0] [(0,1),(1,1),(2,1)] [.t 37,.t 41,.t 45]),o 47 (.ixa 3 1 (.t 5) (qI 0)),oL 48 47,oM 49 8,o 50 (.bin .and (.t 48) (.t 49)),o 51 (.ixa 3 1 (.t 5) (qI 1)),oL 52 51,oM 53 8,o 54 (.bin .and (.t 52) (.t 53)),o 55 (.ixa 3 1 (.t 5) (qI 0)),oL 56 55,o 57 (.bin .andNot (.t 54) (.t 56)),o 58 (.ixa 3 1 (.t 5) (qI 2)),oL 59 58,oM 60 8,o 61 (.bin .and (.t 59) (.t 60)),o 62 (.ixa 3 1 (.t 5) (qI 0)),oL 63 62,o 64 (.bin .andNot (.t 61) (.t 63)),o 65 (.ixa 3 1 (.t 5) (qI 1)),oL 66 65,o 67 (.bin .andNot (.t 64) (.t 66)),o 68 (.build [.int .u64 0,.int .u64 0,.int .u64 0] [(0,1),(1,1),(2,1)] [.t 50,.t 57,.t 67]),o 69 (.build [.int .u64 0,.int .u64 0,.int .u64 0,.int .u64 0,.int .u64 0,.int .u64 0,.int .u64 0,.int .u64 0,.int .u64 0] [(0,3),(3,3),(6,3)] [.t 33,.t 46,.t 68]),oK 70 0] (.blk 2 (.loop dh)))
theorem IQ {a b c all i:Nat}{n:Net}{bb c29:AV}{Q:QT}{t:T}{g:G}(hm:∀h,Agg n NoP 0 h (.agg [.int .i64 n.grain,bb]))(ha:a<18446744073709551616)(hb:b<18446744073709551616)(hc:c<18446744073709551616)(hal:all<18446744073709551616)
  (ht:St t [(5,.hptr 2 0 0 0),(8,.int .u64 (all:Int)),(29,c29),(30,.int .i64 (i:Int))]) (hix:ixV true 2 2 c29 (.int .i64 (i:Int))=.val (.agg [.int .i64 n.grain,bb])) (h2n:2<g.nx) (hg2:g.h.get 2=.cells 3 [[.int .u64 (a:Int),.int .u64 (b:Int),.int .u64 (c:Int)]] 0 false false)
  (fin:∀t g',St t [(5,.hptr 2 0 0 0),(8,.int .u64 (all:Int)),(29,c29),(30,.int .i64 (i:Int))]->Fr g g'->Q .norm t [] g'):wp C0 1 none Cq Q t [] g:=by
 unfold Cq
 obtain ⟨p,hp⟩:∃p,p=g.nx:=⟨_,rfl⟩
 refine aO (P:=fun t' df g'=>df=[]/\Fr g g'/\p<g'.nx/\g'.h.get p=.cells 2 [[.int .i64 n.grain,bb]] 0 false false/\St t' [(10,.hptr p 0 0 0),(5,.hptr 2 0 0 0),(8,.int .u64 (all:Int)),(29,c29),(30,.int .i64 (i:Int))]) ?_ ?_
 ·obtain ⟨h5,h8,h29,h30,-⟩:=ht
  simp only[sz,simprocAttr,h29,h30,hix]
  refine ⟨Cs _ _ _,?_,?_,?_⟩
  ·simp[hp]
  ·simp[hp]
  ·simp[St,sx,h5,h8,h29,h30,hp]
 clear ht
 rintro t df g1 ⟨rfl,f1,hpn,kp,h10,h5,h8,h29,h30,-⟩
 have k2:g1.h.get 2=.cells 3 [[.int .u64 (a:Int),.int .u64 (b:Int),.int .u64 (c:Int)]] 0 false false:=by rw[f1.2 2 h2n,hg2]
 have i0:iA 3 1 (.hptr 2 0 0 0) (.int .i64 0)=.val (.hptr 2 0 0 0):=ixq 2 0 (by omega)
 have i1:iA 3 1 (.hptr 2 0 0 0) (.int .i64 1)=.val (.hptr 2 0 0 1):=ixq 2 1 (by omega)
 have i2:iA 3 1 (.hptr 2 0 0 0) (.int .i64 2)=.val (.hptr 2 0 0 2):=ixq 2 2 (by omega)
 have a1:=eG a all ha hal
 have a2:=eG b all hb hal
 have a3:=eG c all hc hal
 have x1:=np (b &&& all) a (dB hb) ha
 have x2:=np (c &&& all) a (dB hc) ha
 obtain ⟨y1,e1⟩:∃y,y=(b &&& all) ^^^ ((b &&& all) &&& a):=⟨_,rfl⟩
 obtain ⟨y2,e2⟩:∃y,y=(c &&& all) ^^^ ((c &&& all) &&& a):=⟨_,rfl⟩
 have hy1:y1<18446744073709551616:=by rw[e1];exact uF (dB hb) (dB (dB hb))
 have hy2:y2<18446744073709551616:=by rw[e2];exact uF (dB hc) (dB (dB hc))
 rw[<-e1] at x1
 rw[<-e2] at x2
 have x3:=np y2 b hy2 hb
 obtain ⟨y3,e3⟩:∃y,y=y2 ^^^ (y2 &&& b):=⟨_,rfl⟩
 have hy3:y3<18446744073709551616:=by rw[e3];exact uF hy2 (dB hy2)
 rw[<-e3] at x3
 have h1:a &&& all<18446744073709551616:=dB ha
 have h2:b &&& all<18446744073709551616:=dB hb
 have h3:c &&& all<18446744073709551616:=dB hc
 generalize a &&& all=q1 at *
 generalize b &&& all=q2 at *
 generalize c &&& all=q3 at *
 clear e1 e2 e3
 obtain ⟨cc,hcc⟩:∃cc,cc=djc a b c q1 q2 q3 q1 y1 y3:=⟨_,rfl⟩
 have l2:cJ (.cells 3 [[.int .u64 (a:Int),.int .u64 (b:Int),.int .u64 (c:Int)]] 0 false false) 0 0 true 3 0=.val (.agg [.int .u64 (a:Int),.int .u64 (b:Int),.int .u64 (c:Int)]):=rfl
 refine aO (P:=fun t' df g'=>df=[]/\g'=g1/\St t' (LDj (.hptr 2 0 0 0) all c29 (.int .i64 (i:Int)) p cc 0)) ?_ ?_
 ·simp only[sz,simprocAttr,h5,h8,k2,l2,i0,i1,i2,a1,a2,a3,x1,x2,x3]
  simp[St,LDj,sx,h10,h5,h8,h29,h30,hcc,djc]
 clear h10 h5 h8 h29 h30
 rintro t df g2 ⟨rfl,rfl,h10,h69,h70,h5,h8,h29,h30,-⟩
 simp only[iT,k_,dh,fK]
 refine kT (m:=3) rfl (by omega) (fun j t df g=>df=[]/\Fr g2 g/\St t [(10,.hptr p 0 0 0),(69,cc),(5,.hptr 2 0 0 0),(8,.int .u64 (all:Int)),(29,c29),(30,.int .i64 (i:Int))])
  ⟨rfl,Fr.refl _,⟨h10,h69,h5,h8,h29,h30,trivial⟩⟩ h70 (by decide) (by rintro i t df g v s (rfl | rfl | rfl)<;>simp[St,sx]) ?_ ?_
 ·clear h10 h69 h70 h5 h8 h29 h30
  rintro j t df g hj ⟨rfl,hfr,h10,h69,h5,h8,h29,h30,-⟩ h70
  have hl:St t (LDj (.hptr 2 0 0 0) all c29 (.int .i64 (i:Int)) p cc j):=⟨h10,h69,h70,h5,h8,h29,h30,trivial⟩
  have fin':∀t g',St t (LDj (.hptr 2 0 0 0) all c29 (.int .i64 (i:Int)) p cc j)->Fr g g'->kR (fun t df g=>(df=[]/\Fr g2 g/\St t [(10,.hptr p 0 0 0),(69,cc),(5,.hptr 2 0 0 0),(8,.int .u64 (all:Int)),(29,c29),(30,.int .i64 (i:Int))])/\tat t 70=.int .i64 (j:Int)) 3 (kB 2 Q) .norm t [] g':=by
   rintro t g' ⟨h10,h69,h70,h5,h8,h29,h30,-⟩ hf
   exact ⟨⟨rfl,hfr.trans hf,h10,h69,h5,h8,h29,h30,trivial⟩,h70⟩
  have hgp':g.h.get p=.cells 2 [[.int .i64 n.grain,bb]] 0 false false:=by rw[hfr.2 p hpn,kp]
  have hpg:=Nat.lt_of_lt_of_le hpn hfr.1
  subst hcc
  have:j=0\/j=1\/j=2:=by omega
  rcases this with rfl | rfl | rfl
  ·exact HX hm ha hb hc hl rfl hpg hgp' fin'
  ·exact HX hm h1 h2 h3 hl rfl hpg hgp' fin'
  ·exact HX hm h1 hy1 hy3 hl rfl hpg hgp' fin'
 ·rintro t df g ⟨rfl,hfr,h10,h69,h5,h8,h29,h30,-⟩
  simp only[dK,if_true]
  exact fin t g ⟨h5,h8,h29,h30,trivial⟩ (f1.trans hfr)
theorem rm {x:sj}{y:jB}{u1 u2:AV}{a b c:Nat}(hx:Agg x NoP 0 .nil u1)(hy:Agg y NoP 0 .nil u2)(habc:a<18446744073709551616/\b<18446744073709551616/\c<18446744073709551616):∃g',(I C0).call 1 N.ba [u1,u2,.agg [.int .u64 (a:Int),.int .u64 (b:Int),.int .u64 (c:Int)]] G.empty=.ok (.bool true) g':=by
 obtain ⟨ha,hb,hc⟩:=habc
 obtain ⟨xs,rfl,qx⟩:=hx
 obtain ⟨ys,rfl,qy⟩:=hy
 obtain ⟨a1',a2',e1,-⟩:=wk.1 qx
 have hxl:xs.length=3:=by rw[e1];rfl
 have hyl:ys.length=4:=by rw[zA.1 qy];rfl
 clear e1 a1' a2'
 have key:=po (C:=C0) (d:=1) (f:=N.ba) («as»:=[.agg xs,.agg ys,.agg [.int .u64 (a:Int),.int .u64 (b:Int),.int .u64 (c:Int)]]) (g:=G.empty) (K:=fun v g'=>v=.bool true) nN (by simp[d_]) ?_
 ·cases hc':(I C0).call 1 N.ba [.agg xs,.agg ys,.agg [.int .u64 (a:Int),.int .u64 (b:Int),.int .u64 (c:Int)]] G.empty with
  | fail=>rw[hc'] at key;exact key.elim
  | ok v g'=>rw[hc'] at key;exact ⟨g',by rw[show v=.bool true from key]⟩
 simp only[sz,simprocAttr,d_,u_]
 obtain ⟨g0,hg0⟩:∃g0,g0=((G.empty.new (AObj.cells xs.length [xs] 0 false false)).new (AObj.cells ys.length [ys] 0 false false)).new (.cells 3 [[.int .u64 (a:Int),.int .u64 (b:Int),.int .u64 (c:Int)]] 0 false false):=⟨_,rfl⟩
 have f0:g0.h.get 0=.cells 3 [xs] 0 false false:=by rw[hg0,hxl];simp[sx,H.get_put]
 have f1:g0.h.get 1=.cells 4 [ys] 0 false false:=by rw[hg0,hyl];simp[sx,H.get_put]
 have f2:g0.h.get 2=.cells 3 [[.int .u64 (a:Int),.int .u64 (b:Int),.int .u64 (c:Int)]] 0 false false:=by rw[hg0];simp[sx]
 have f3:g0.nx=3:=by rw[hg0];simp[sx]
 have ld0:cJ (.cells 3 [xs] 0 false false) 0 0 true 3 0=.val (.agg xs):=by
  match xs,hxl with
  | [a,b,c],_=>rfl
 have ld1:cJ (.cells 4 [ys] 0 false false) 0 0 true 4 0=.val (.agg ys):=by
  match ys,hyl with
  | [a,b,c,d],_=>rfl
 simp only[fW]
 refine dk (P:=fun t' df g'=>df=[]/\g'=g0/\St t' [(3,.hptr 0 0 0 0),(4,.hptr 1 0 0 0),(5,.hptr 2 0 0 0)]) ?_ ?_
 ·simp only[sz,simprocAttr,yE]
  simp[St,sx,hg0]
 clear hg0
 rintro t df g1 ⟨rfl,rfl,h3,h4,h5,-⟩
 obtain ⟨rn,en,n,hdr,cn,rfl,hcn⟩:=GX (g:=g1) (d:=1) (by decide) (rf (P:=NoP) qx g1.h)
 obtain ⟨bb,rfl,hNb⟩:=d5.1 hcn
 have hM:∀h,Agg n NoP 0 h (.agg [.int .i64 n.grain,bb]):=fun h=>rf hcn h
 refine aO (P:=fun t' df g'=>df=[]/\g'.nx=4/\St t' [(4,.hptr 1 0 0 0),(5,.hptr 2 0 0 0),(7,.hptr 3 0 0 0)]/\g'.h.get 1=.cells 4 [ys] 0 false false/\g'.h.get 2=.cells 3 [[.int .u64 (a:Int),.int .u64 (b:Int),.int .u64 (c:Int)]] 0 false false/\g'.h.get 3=.cells 2 [[.int .i64 n.grain,bb]] 0 false false) ?_ ?_
 ·simp only[sz,simprocAttr,h3,f0,ld0,en]
  simp[St,sx,h4,h5,f1,f2,f3]
 clear f0 f1 f2 f3 h3 h4 h5 en
 rintro t df g2 ⟨rfl,n2,⟨h4,h5,h7,-⟩,f1,f2,f3⟩
 have hN':SlR NoP 0 .nil n.nodes bb:=hNb
 have lb:∀g,eO .slice bb g=.val (.int .i64 (n.nodes.length:Int)):=hN'.len
 have hn5:1<=n.nodes.length/\n.nodes.length<=5:=hdr.l
 obtain ⟨all,hall,hlt⟩:∃all:Nat,IntKind.wrap .u64 ((S.aQ n.nodes.length:Int) - 1)=(all:Int)/\all<18446744073709551616:=by
  generalize n.nodes.length=l at hn5
  have:l=1\/l=2\/l=3\/l=4\/l=5:=by omega
  rcases this with rfl | rfl | rfl | rfl | rfl
  ·exact ⟨1,rfl,by decide⟩
  ·exact ⟨3,rfl,by decide⟩
  ·exact ⟨7,rfl,by decide⟩
  ·exact ⟨15,rfl,by decide⟩
  ·exact ⟨31,rfl,by decide⟩
 have hsh:=kZ .i64 n.nodes.length
 refine aO (P:=fun t' df g'=>df=[]/\g'=g2/\St t' [(4,.hptr 1 0 0 0),(5,.hptr 2 0 0 0),(7,.hptr 3 0 0 0),(8,.int .u64 (all:Int))]) ?_ ?_
 ·simp only[sz,simprocAttr,h7,f3,lb,hsh,hall]
  simp[St,sx,h4,h5,h7]
 clear h4 h5 h7
 rintro t df g3 ⟨rfl,rfl,h4,h5,h7,h8,-⟩
 have hbd:∀y∈n.nodes,y.parents.length<=1000/\y.rows.length<=1000/\∀r∈y.rows,r.length<=1000:=hdr.b
 refine dk (P:=fun t' df g'=>df=[]) ?_ ?_
 ·refine dk (P:=fun t' df g'=>df=[]/\Fr g3 g'/\∃(m:Net) (b2:AV),(∀h,Agg m NoP 0 h (.agg [.int .i64 m.grain,b2]))/\St t' [(5,.hptr 2 0 0 0),(8,.int .u64 (all:Int)),(29,.agg [.int .i64 n.grain,bb,.int .i64 m.grain,b2]),(30,.int .i64 0)]) ?_ ?_
  ·have ld3:cJ (.cells 2 [[.int .i64 n.grain,bb]] 0 false false) 0 0 true 2 0=.val (.agg [.int .i64 n.grain,bb]):=rfl
   simp only[sz,simprocAttr,sf,h4,h7,f1,f3,ld1,ld3]
   refine dT (Ha (K:=1000) (by decide) (rf (P:=NoP) qy _) (rf (P:=NoP) hcn _) (by decide) (by omega) hbd) ?_
   rintro r ⟨m,-,cm,rfl,hcm⟩
   obtain ⟨b2,rfl,hNm⟩:=d5.1 hcm
   have fb:dH [.int .i64 0,.nils,.int .i64 0,.nils] [((0,2),.agg [.int .i64 n.grain,bb]),((2,2),.agg [.int .i64 m.grain,b2])]=some [.int .i64 n.grain,bb,.int .i64 m.grain,b2]:=rfl
   simp only[sz,simprocAttr,sf,fb]
   exact ⟨Fr.refl _,m,b2,fun h=>rf hcm h,by simp[St,sx,h5,h8]⟩
  rintro t df g4 ⟨rfl,f4,m,b2,hM2,h5,h8,h29,h30,-⟩
  have k2:g4.h.get 2=.cells 3 [[.int .u64 (a:Int),.int .u64 (b:Int),.int .u64 (c:Int)]] 0 false false:=by rw[f4.2 2 (by omega),f2]
  have hn4:2<g4.nx:=by have:=f4.1;omega
  simp only[iT,k_,fT,fS]
  refine kT (m:=2) rfl (by omega) (fun i t df g=>df=[]/\Fr g4 g/\St t [(5,.hptr 2 0 0 0),(8,.int .u64 (all:Int)),(29,.agg [.int .i64 n.grain,bb,.int .i64 m.grain,b2])])
   ⟨rfl,Fr.refl _,h5,h8,h29,trivial⟩ h30 (by decide) (by rintro j t df g v s (rfl | rfl | rfl)<;>simp[St,sx]) ?_ ?_
  ·clear h5 h8 h29 h30
   rintro i t df g hi ⟨rfl,hfr,h5,h8,h29,-⟩ h30
   have fin':∀t g',St t [(5,.hptr 2 0 0 0),(8,.int .u64 (all:Int)),(29,.agg [.int .i64 n.grain,bb,.int .i64 m.grain,b2]),(30,.int .i64 (i:Int))]->Fr g g'->(([]:List ADf)=[]/\Fr g4 g'/\St t [(5,.hptr 2 0 0 0),(8,.int .u64 (all:Int)),(29,.agg [.int .i64 n.grain,bb,.int .i64 m.grain,b2])])/\tat t 30=.int .i64 (i:Int):=by
    rintro t g' ⟨h5,h8,h29,h30,-⟩ hf
    exact ⟨⟨rfl,hfr.trans hf,h5,h8,h29,trivial⟩,h30⟩
   have q2:g.h.get 2=.cells 3 [[.int .u64 (a:Int),.int .u64 (b:Int),.int .u64 (c:Int)]] 0 false false:=by rw[hfr.2 2 hn4,k2]
   have n2':2<g.nx:=by have:=hfr.1;omega
   have:i=0\/i=1:=by omega
   rcases this with rfl | rfl
   ·exact IQ hM ha hb hc hlt ⟨h5,h8,h29,h30,trivial⟩ rfl n2' q2 fin'
   ·exact IQ hM2 ha hb hc hlt ⟨h5,h8,h29,h30,trivial⟩ rfl n2' q2 fin'
  ·rintro t df g ⟨rfl,-⟩
   simp only[dK,if_true]
   trivial
 rintro t df g5 rfl
 simp only[sz,simprocAttr,fR]
end
end Hx
end
section
namespace Hx
open Go Go.RowKit Go.ChangeShapes Go.WideShapes
def qs (P:Program):List Field->Nat->Option Nat
 | [],k=>some k
 | f::fs,k=>if f.offset=k then qs P fs (k+P.cellsOf f.type) else none
def nS (P:Program):Nat->TypeId->Bool
 | 0,_=>false
 | n+1,t=>match P.underlying t with
  | some .bool=>true
  | some (.int _)=>true
  | some (.slice e)=>decide (0<P.cellsOf e)&&nS P n e
  | some (.struct fs)=>(qs P fs.toList 0 == some (P.cellsOf t))&&fs.toList.all (fun f=>nS P n f.type)
  | some (.array m e)=>decide (m*P.cellsOf e=P.cellsOf t)&&nS P n e
  | _=>false
def Sh (P:Program):Nat->TypeId->List AV->Prop
 | 0,_,_=>False
 | n+1,t,xs=>match P.underlying t with
  | some .bool=>∃b,xs=[.bool b]
  | some (.int k)=>∃z,xs=[.int k z]/\(Lit.int k z).wf=true
  | some (.slice e)=>xs=[.nils]\/∃rows,xs=[.tsl 0 (P.cellsOf e) rows]/\rows.length<9223372036854775808/\∀row∈rows,Sh P n e row
  | some (.struct fs)=>∃xss,xs=xss.flatten/\All2 (fun (f:Field) ys=>Sh P n f.type ys) fs.toList xss
  | some (.array m e)=>∃xss:List (List AV),xs=xss.flatten/\xss.length=m/\∀ys∈xss,Sh P n e ys
  | _=>False
def zD (P:Program)(w:World)(n:Nat)(t:TypeId)(xs:List AV)(cs:List Value):Prop :=
 RVs0 w xs cs/\(∀y∈xs,y.one=true/\Closed y)/\Sh P n t xs
theorem RVs0.append {w:World}{xs ys:List AV}{cs ds:List Value}(h:RVs0 w xs cs)(h':RVs0 w ys ds):RVs0 w (xs++ys) (cs++ds):=by
 refine ⟨by rw[List.length_append,List.length_append,h.1,h'.1],fun i x v hx hv=>?_⟩
 rcases Nat.lt_or_ge i xs.length with hi | hi
 ·rw[List.getElem?_append_left hi] at hx
  rw[List.getElem?_append_left (by rw[<-h.1];exact hi)] at hv
  exact h.2 i x v hx hv
 ·rw[List.getElem?_append_right hi] at hx
  rw[List.getElem?_append_right (by rw[<-h.1];exact hi),<-h.1] at hv
  exact h'.2 _ x v hx hv
theorem Bv (b o n:Nat):(⟨b,o,none⟩:Addr).add n=adr b (o+n):=by
 unfold Addr.add
 split
 ·rename_i h;subst h;rfl
 ·rfl
variable {H:Type}{enc:TypeId×Value->H}{P:Program}{w:World}
theorem wG:∀{fl:List Field} {k K:Nat},qs P fl k=some K->k<=K
 | [],k,K,h=>by injection h with h;omega
 | f::fl,k,K,h=>by
  unfold qs at h
  split at h
  ·have:=wG h;omega
  ·cases h
theorem Ey {n:Nat}{cs:List Value}:∀{fl:List Field} {k K:Nat},qs P fl k=some K ->
  (∀f∈fl,∃xs,zD P w n f.type xs ((cs.drop f.offset).take (P.cellsOf f.type))) ->
  ∃xss,All2 (fun (f:Field) ys=>Sh P n f.type ys) fl xss/\RVs0 w xss.flatten ((cs.drop k).take (K - k))/\∀y∈xss.flatten,y.one=true/\Closed y
 | [],k,K,h,_=>by
  injection h with h;subst h
  exact ⟨[],trivial,by rw[Nat.sub_self,List.take_zero];exact ⟨rfl,fun i x v hx=>by simp at hx⟩,fun y hy=>by simp at hy⟩
 | f::fl,k,K,h,hg=>by
  unfold qs at h
  split at h
  ·rename_i ho
   subst ho
   obtain ⟨xs,h1,h2,h3⟩:=hg f (by simp)
   obtain ⟨xss,a1,a2,a3⟩:=Ey h fun f' hf'=>hg f' (by simp[hf'])
   have hle:=wG h
   refine ⟨xs::xss,⟨h3,a1⟩,?_,fun y hy=>?_⟩
   ·have e:(cs.drop f.offset).take (K - f.offset)=(cs.drop f.offset).take (P.cellsOf f.type)++(cs.drop (f.offset+P.cellsOf f.type)).take (K - (f.offset+P.cellsOf f.type)):=by
     rw[show K - f.offset=P.cellsOf f.type+(K - (f.offset+P.cellsOf f.type)) by omega,List.take_add,List.drop_drop]
    rw[e,List.flatten_cons]
    exact h1.append a2
   ·rw[List.flatten_cons,List.mem_append] at hy
    rcases hy with hy | hy
    ·exact h2 y hy
    ·exact a3 y hy
  ·cases h
theorem B8 {n:Nat}{e:TypeId}{cs:List Value}:∀{m k:Nat},
  (∀i,i<m->∃xs,zD P w n e xs ((cs.drop ((k+i)*P.cellsOf e)).take (P.cellsOf e))) ->
  ∃xss:List (List AV),xss.length=m/\(∀ys∈xss,Sh P n e ys)/\RVs0 w xss.flatten ((cs.drop (k*P.cellsOf e)).take (m*P.cellsOf e))/\∀y∈xss.flatten,y.one=true/\Closed y
 | 0,k,_=>⟨[],rfl,fun y hy=>by simp at hy,by rw[Nat.zero_mul,List.take_zero];exact ⟨rfl,fun i x v hx=>by simp at hx⟩,fun y hy=>by simp at hy⟩
 | m+1,k,hg=>by
  obtain ⟨xs,h1,h2,h3⟩:=hg 0 (by omega)
  rw[Nat.add_zero] at h1
  obtain ⟨xss,a0,a1,a2,a3⟩:=B8 (m:=m) (k:=k+1) fun i hi=>by
   have:=hg (i+1) (by omega)
   rwa [show k+(i+1)=k+1+i by omega] at this
  refine ⟨xs::xss,by simp[a0],fun ys hy=>?_,?_,fun y hy=>?_⟩
  ·rcases List.mem_cons.1 hy with rfl | hy
   ·exact h3
   ·exact a1 ys hy
  ·have e:(cs.drop (k*P.cellsOf e)).take ((m+1)*P.cellsOf e)=(cs.drop (k*P.cellsOf e)).take (P.cellsOf e)++(cs.drop ((k+1)*P.cellsOf e)).take (m*P.cellsOf e):=by
    rw[show (m+1)*P.cellsOf e=P.cellsOf e+m*P.cellsOf e by rw[Nat.add_mul];omega,List.take_add,List.drop_drop,Nat.add_mul,Nat.one_mul]
   rw[e,List.flatten_cons]
   exact h1.append a2
  ·rw[List.flatten_cons,List.mem_append] at hy
   rcases hy with hy | hy
   ·exact h2 y hy
   ·exact a3 y hy
theorem zJ:∀(n:Nat) (t:TypeId),nS P n t=true->∀(fuel:Nat) (cs:List Value) (x:DataW H×List MemPlace),DataW.trod enc P w 0 (fun _=>true) true fuel t cs=some x->∃xs,zD P w n t xs cs:=by
 intro n
 induction n with
 | zero=>intro t h;simp[nS] at h
 | succ n ih =>
  intro t h fuel cs x hx
  unfold nS at h
  split at h
  ·rename_i hu
   obtain ⟨b,rfl,-⟩:=DataW.trod_bool hu hx
   refine ⟨[.bool b],⟨rfl,fun i x v h1 h2=>?_⟩,fun y hy=>?_,?_⟩
   ·cases i with
    | zero=>simp at h1 h2;subst h1;subst h2;exact .bool _ _
    | succ i=>simp at h1
   ·simp at hy;subst hy;exact ⟨rfl,.bool _⟩
   ·unfold Sh;rw[hu];exact ⟨b,rfl⟩
  ·rename_i k hu
   obtain ⟨z,rfl,-,hwf⟩:=DataW.trod_int hu hx
   refine ⟨[.int k z],⟨rfl,fun i x v h1 h2=>?_⟩,fun y hy=>?_,?_⟩
   ·cases i with
    | zero=>simp at h1 h2;subst h1;subst h2;exact .int _ _ _
    | succ i=>simp at h1
   ·simp at hy;subst hy;exact ⟨rfl,.int _ _⟩
   ·unfold Sh;rw[hu];exact ⟨z,rfl,hwf⟩
  ·rename_i e hu
   rw[Bool.and_eq_true,decide_eq_true_eq] at h
   obtain ⟨hpos,hp⟩:=h
   rcases DataW.trod_slice hu hx with ⟨rfl,-⟩ | ⟨a,len,cap,elems,rest,m,-,rfl,-,-,hlc,hcm,hlen,hel,-,-⟩
   ·refine ⟨[.nils],⟨rfl,fun i x v h1 h2=>?_⟩,fun y hy=>?_,?_⟩
    ·cases i with
     | zero=>simp at h1 h2;subst h1;subst h2;exact .nils _
     | succ i=>simp at h1
    ·simp at hy;subst hy;exact ⟨rfl,.nils⟩
    ·unfold Sh;rw[hu];exact .inl rfl
   ·have each:∀i,i<len->∃xs vs,w.cells? 0 (a.add (i*P.cellsOf e)) (P.cellsOf e)=some vs/\zD P w n e xs vs:=by
     intro i hi
     have:=hel i hi
     rw[List.getElem?_eq_getElem (show i<elems.length by omega),Option.bind_eq_some_iff] at this
     obtain ⟨vs,h1,h2⟩:=this
     obtain ⟨xs,hg⟩:=ih e hp _ _ _ h2
     exact ⟨xs,vs,h1,hg⟩
    let rowf:Nat->List AV:=fun i=>if hi:i<len then Classical.choose (each i hi) else []
    let valf:Nat->List Value:=fun i=>if hi:i<len then Classical.choose (Classical.choose_spec (each i hi)) else []
    have hrow:∀i,i<len->w.cells? 0 (a.add (i*P.cellsOf e)) (P.cellsOf e)=some (valf i)/\zD P w n e (rowf i) (valf i):=by
     intro i hi
     have:=Classical.choose_spec (Classical.choose_spec (each i hi))
     simpa only[rowf,valf,dif_pos hi] using this
    have hget:∀(i:Nat) (row:List AV),((List.range len).map rowf)[i]?=some row->i<len/\row=rowf i:=by
     intro i row h1
     rw[List.getElem?_map] at h1
     rcases Nat.lt_or_ge i len with hi | hi
     ·rw[List.getElem?_range hi] at h1
      injection h1 with h1
      exact ⟨hi,h1.symm⟩
     ·rw[List.getElem?_eq_none (by simpa using hi)] at h1;cases h1
    refine ⟨[.tsl 0 (P.cellsOf e) ((List.range len).map rowf)],⟨rfl,fun i x v h1 h2=>?_⟩,fun y hy=>?_,?_⟩
    ·cases i with
     | succ i=>simp at h1
     | zero =>
      simp at h1 h2;subst h1;subst h2
      rcases Nat.eq_zero_or_pos len with h0 | h0
      ·subst h0
       exact .tnil 0 0 _ a cap (Nat.le_refl _)
      ·obtain ⟨b,o,spot⟩:=a
       have hc0:=World.cells?_some (hrow 0 h0).1
       have hv0:(valf 0)[0]?=some (valf 0)[0]:=List.getElem?_eq_getElem (by rw[hc0.2.1];exact hpos)
       have h00:=hc0.2.2 0 hpos
       rw[hv0] at h00
       have hspot:spot=none:=by simpa [Addr.add] using World.cell?_spot h00
       subst hspot
       have cellat:∀i j row x,((List.range len).map rowf)[i]?=some row->row[j]?=some x->∃v,(valf i)[j]?=some v/\w.cell? (adr b (o+i*P.cellsOf e+j))=some v/\RV w gm0 av0 0 x v:=by
        intro i j row x hr hxj
        obtain ⟨hi,rfl⟩:=hget i row hr
        obtain ⟨q1,q2⟩:=hrow i hi
        have hj:j<(rowf i).length:=(List.getElem?_eq_some_iff.1 hxj).1
        have hj':j<(valf i).length:=by rw[<-q2.1.1];exact hj
        have hcs:=World.cells?_some q1
        have hcell:=hcs.2.2 j (by rw[<-hcs.2.1];exact hj')
        rw[List.getElem?_eq_getElem hj'] at hcell
        refine ⟨_,List.getElem?_eq_getElem hj',?_,q2.1.2 j x _ hxj (List.getElem?_eq_getElem hj')⟩
        rw[Bv,show adr b (o+i*P.cellsOf e)=(⟨b,o+i*P.cellsOf e,none⟩:Addr) from rfl,Bv] at hcell
        exact hcell
       have hb:b<w.heap.size:=by
        have:=A3 h00
        simpa [Addr.add] using this
       have hrl:((List.range len).map rowf).length=len:=by simp
       have key:=RV.tsl (w:=w) (γ:=gm0) (A:=av0) 0 0 (P.cellsOf e) ((List.range len).map rowf) b o cap (fun i j=>(valf i)[j]?.getD undef) (Nat.le_refl _) (by rw[hrl];exact hlc) hb (IM b) (fun h=>h)
        (fun i row hr=>by
         obtain ⟨hi,rfl⟩:=hget i row hr
         obtain ⟨q1,q2⟩:=hrow i hi
         rw[q2.1.1,(World.cells?_some q1).2.1])
        (fun i j row x hr hxj=>by
         obtain ⟨hi,rfl⟩:=hget i row hr
         exact ((hrow i hi).2.2.1 x (List.mem_of_getElem? hxj)).1)
        (fun i j row x hr hxj=>by
         obtain ⟨v,v1,v2,v3⟩:=cellat i j row x hr hxj
         rw[v2,v1];rfl)
        (fun i j row x hr hxj=>by
         obtain ⟨v,v1,v2,v3⟩:=cellat i j row x hr hxj
         rw[v1];exact v3)
        (fun row hr x hx=>by
         obtain ⟨i,hi⟩:=List.getElem?_of_mem hr
         obtain ⟨hi2,rfl⟩:=hget i row hi
         exact ((hrow i hi2).2.2.1 x hx).2)
       rw[hrl] at key
       exact key
    ·simp only[List.mem_singleton] at hy;subst hy
     refine ⟨rfl,.tsl _ _ _ fun row hr x hx=>?_⟩
     obtain ⟨i,hi⟩:=List.getElem?_of_mem hr
     obtain ⟨hi2,rfl⟩:=hget i row hi
     exact ((hrow i hi2).2.2.1 x hx).2
    ·unfold Sh;rw[hu]
     refine .inr ⟨_,rfl,?_,fun row hr=>?_⟩
     ·rw[List.length_map,List.length_range]
      have:maxLen<9223372036854775808:=by decide
      omega
     ·obtain ⟨i,hi⟩:=List.getElem?_of_mem hr
      obtain ⟨hi2,rfl⟩:=hget i row hi
      exact (hrow i hi2).2.2.2
  ·rename_i fs hu
   rw[Bool.and_eq_true] at h
   obtain ⟨hc,hp⟩:=h
   have hc:qs P fs.toList 0=some (P.cellsOf t):=eq_of_beq hc
   obtain ⟨ys,m,-,-,hl,hyl,hel⟩:=DataW.trod_struct hu hx
   obtain ⟨xss,a1,a2,a3⟩:=Ey (w:=w) (n:=n) (cs:=cs) hc fun f hf=>by
    obtain ⟨i,hi,e⟩:=List.mem_iff_getElem.1 hf
    have hfi:fs[i]?=some f:=by rw[<-Array.getElem?_toList,List.getElem?_eq_getElem hi,e]
    have:=hel i f hfi
    rw[List.getElem?_eq_getElem (show i<ys.length by rw[hyl];simpa using hi)] at this
    exact ih f.type (List.all_eq_true.1 hp f hf) _ _ _ this
   rw[List.drop_zero,Nat.sub_zero,<-hl,List.take_length] at a2
   refine ⟨xss.flatten,a2,a3,?_⟩
   unfold Sh;rw[hu];exact ⟨xss,rfl,a1⟩
  ·rename_i m e hu
   rw[Bool.and_eq_true,decide_eq_true_eq] at h
   obtain ⟨hc,hp⟩:=h
   obtain ⟨ys,q,-,-,hl,hyl,hel⟩:=DataW.trod_array hu hx
   obtain ⟨xss,a0,a1,a2,a3⟩:=B8 (w:=w) (n:=n) (e:=e) (cs:=cs) (m:=m) (k:=0) fun i hi=>by
    have:=hel i hi
    rw[List.getElem?_eq_getElem (show i<ys.length by omega)] at this
    rw[Nat.zero_add]
    exact ih e hp _ _ _ this
   rw[Nat.zero_mul,List.drop_zero,hc,<-hl,List.take_length] at a2
   refine ⟨xss.flatten,a2,a3,?_⟩
   unfold Sh;rw[hu];exact ⟨xss,rfl,a0,a1⟩
  ·cases h
theorem H5 {n:Nat}{t:TypeId}{xs:List AV}(hu:P.underlying t=some (.int .i64))(h:Sh P n t xs):∃x:Int,Rp.rp NoP 0 .nil x xs:=by
 cases n with
 | zero=>exact h.elim
 | succ n =>
  unfold Sh at h;rw[hu] at h
  obtain ⟨z,rfl,-⟩:=h
  exact ⟨z,a_.2 rfl⟩
theorem sP {n:Nat}{t:TypeId}{xs:List AV}(hu:P.underlying t=some (.int .u8))(h:Sh P n t xs):∃x:UInt8,Rp.rp NoP 0 .nil x xs:=by
 cases n with
 | zero=>exact h.elim
 | succ n =>
  unfold Sh at h;rw[hu] at h
  obtain ⟨z,rfl,hw⟩:=h
  simp only[Lit.wf,IntKind.min,IntKind.max,IntKind.signed,IntKind.bits,Bool.and_eq_true] at hw
  refine ⟨UInt8.ofNat z.toNat,iy.2 ?_⟩
  have h1:0<=z:=by simpa using hw.1
  have h2:z<=255:=by simpa using hw.2
  have h3:(UInt8.ofNat z.toNat).toNat=z.toNat:=UInt8.toNat_ofNat_of_lt' (by show z.toNat<256;omega)
  rw[h3,Int.toNat_of_nonneg h1]
theorem xO {α:Type} [Rp α]{n:Nat}{t e:TypeId}{xs:List AV}(hu:P.underlying t=some (.slice e))(hsz:P.cellsOf e=Rp.sz α)(hel:∀ys,Sh P n e ys->∃y:α,Rp.rp NoP 0 .nil y ys)(h:Sh P (n+1) t xs) :
  ∃l:List α,Rp.rp NoP 0 .nil l xs:=by
 unfold Sh at h;rw[hu] at h
 rcases h with rfl | ⟨rows,rfl,hl,hr⟩
 ·exact ⟨[],.nils,rfl,by simp,rfl⟩
 ·have:∀rows:List (List AV),(∀row∈rows,Sh P n e row)->∃l:List α,All2 (Rp.rp NoP 0 .nil) l rows:=by
   intro rows
   induction rows with
   | nil=>intro _;exact ⟨[],trivial⟩
   | cons r rows ih =>
    intro h
    obtain ⟨y,hy⟩:=hel r (h r (by simp))
    obtain ⟨l,hl⟩:=ih fun row hrow=>h row (by simp[hrow])
    exact ⟨y::l,hy,hl⟩
  obtain ⟨l,ha⟩:=this rows hr
  exact ⟨l,_,rfl,by rw[ha.len];exact hl,Nat.le_refl _,.inl hsz,ha⟩
theorem Em {n m:Nat}{t e:TypeId}{xs:List AV}(hu:P.underlying t=some (.array m e))(h:Sh P (n+1) t xs):∃xss:List (List AV),xs=xss.flatten/\xss.length=m/\∀ys∈xss,Sh P n e ys:=by
 unfold Sh at h;rw[hu] at h;exact h
theorem rJ {n:Nat}{t:TypeId}{fs:Array Field}{xs:List AV}(hu:P.underlying t=some (.struct fs))(h:Sh P (n+1) t xs):∃xss,xs=xss.flatten/\All2 (fun (f:Field) ys=>Sh P n f.type ys) fs.toList xss:=by
 unfold Sh at h;rw[hu] at h;exact h
end Hx
end
