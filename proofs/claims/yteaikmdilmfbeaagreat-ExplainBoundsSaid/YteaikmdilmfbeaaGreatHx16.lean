/- A part of the proof: an interpreter over abstract values, shown right against the model, and what the functions of the chapter compute on it. -/
import Derived.OpenShut
import Derived.DataReads
import Derived.Test.YteaikmdilmfbeaaGreatHx15
set_option linter.unusedVariables false
set_option linter.unusedSimpArgs false
set_option linter.unnecessarySimpa false
section
namespace Hx
open Go
noncomputable section
theorem LS.upd {L:List Node}{J:Nat}{x x':Node}(hx:L[J]?=some x)(hl:x'.rows.length=x.rows.length){k:Ky}(h:LS (L.set J x') k):LS L k:=by
 rcases h with h | ⟨i,q,z,h,hz,hq⟩
 ·exact .inl h
 ·rw[List.getElem?_set] at hz
  by_cases e:J=i
  ·subst e
   rw[if_pos rfl] at hz
   split at hz
   ·injection hz with hz;subst hz
    exact .inr ⟨J,q,x,h,hx,by omega⟩
   ·cases hz
  ·rw[if_neg e] at hz
   exact .inr ⟨i,q,z,h,hz,hq⟩
theorem BLs.upd {K J:Nat}{L:List Node}{V:Ky->AV}{E:Ky->En}{rows:List (List AV)}{x':Node}(hO:Oth K L J V E rows)(e0:E (0,0)=.sl 3 rows)(hrow:rows[J]?=some (jI V J x'.card))(hnd:NdOk K V E J x'):BLs K V E (L.set J x'):=by
 refine ⟨⟨rows,e0,by simp[hO.len],fun i z hz=>?_⟩,fun i z hz=>?_⟩
 ·rw[List.getElem?_set] at hz
  by_cases e:J=i
  ·subst e
   rw[if_pos rfl] at hz
   split at hz
   ·injection hz with hz;subst hz;exact hrow
   ·cases hz
  ·rw[if_neg e] at hz
   exact hO.ns i z (Ne.symm e) hz
 ·rw[List.getElem?_set] at hz
  by_cases e:J=i
  ·subst e
   rw[if_pos rfl] at hz
   split at hz
   ·injection hz with hz;subst hz;exact hnd
   ·cases hz
  ·rw[if_neg e] at hz
   exact hO.nd i z (Ne.symm e) hz
def Node.wr (x:Node)(r:Nat)(y:List Int):Node:=⟨x.card,x.parents,x.rows.set r y⟩
abbrev LBS (W:AV)(J:Nat)(Rw:Int):List (Nat×AV):=[(2,.hptr 0 0 0 0),(3,.hptr 1 0 0 0),(4,.hptr 2 0 0 0),(10,iQ 3 W J 0),(11,.int .i64 Rw)]
section
variable {d K J r:Nat}{L:List Node}{x:Node}{bx:jU}{gr Rw:Int}{t t':T}{g gb:G}{V:Ky->AV}{E:Ky->En}{Q:QT}{y y':List Int}
theorem BS.put (hS:BS K J L x bx gr (r:Int) t g V E)(hy:x.rows[r]?=some y)(hHb:Hp gb 3 (LS L) V (ups E (J+1,2+r) (.sl 1 (y'.map ci))))(frb:∀i,i<3->gb.h.get i=g.h.get i)(hyl:y'.length<=K)(st:St t' (LBS (V (0,0)) J (r:Int))) :
  BS K J (L.set J (x.wr r y')) (x.wr r y') bx gr (r:Int) t' gb V (ups E (J+1,2+r) (.sl 1 (y'.map ci))):=by
 obtain ⟨rows,hB⟩:=hS.bt
 obtain ⟨rws,hW⟩:=hS.bw
 have hr:=(List.getElem?_eq_some_iff.1 hy).1
 have hrw:=hW.at_ r y hy
 have hJ:=(List.getElem?_eq_some_iff.1 hS.hx).1
 have hnd:=zL (r:=r) (V':=V) (E':=ups E (J+1,2+r) (.sl 1 (y'.map ci))) (y':=y') hB.nd hW.at_ hW.len hr (ac _ _ (by simp<;>omega)) (by rw[ac _ _ (by simp<;>omega),hW.e1,tp hrw]) (an _ _ _) (fun _ _=>rfl) (fun q hq=>ac _ _ (by simp<;>omega)) hyl
 have hl:(x.wr r y').rows.length=x.rows.length:=by simp[Node.wr]
 refine ⟨st,hHb.sub fun k hk=>LS.upd hS.hx hl hk,by rw[frb 0 (by omega)];exact hS.f0,by rw[frb 1 (by omega)];exact hS.f1,by rw[frb 2 (by omega)];exact hS.f2,BLs.upd hB.oth.e (by rw[ac _ _ (by simp<;>omega)];exact hB.e0) hB.row hnd,by rw[List.getElem?_set_self hJ],.inr ⟨r,rfl,by omega⟩,hS.hK,by simpa using hS.hl⟩
theorem BS.mv (hS:BS K J L x bx gr Rw t g V E)(hh:gb.h=g.h)(hn:g.nx<=gb.nx)(st:St t' (LBS (V (0,0)) J Rw)):BS K J L x bx gr Rw t' gb V E :=
 ⟨st,hS.hp.same hh hn,by rw[hh];exact hS.f0,by rw[hh];exact hS.f1,by rw[hh];exact hS.f2,hS.bl,hS.hx,hS.hR,hS.hK,hS.hl⟩
structure BR (x:Node) (J r:Nat) (y:List Int) (g:G) (V:Ky->AV) (E:Ky->En) (rws:List (List AV)):Prop where
 wr:af g.h 1 (V (J+1,1))=some rws
 rl:r<rws.length
 rw_:rws[r]?=some [V (J+1,2+r)]
 ry:km (V (J+1,1))=true
 yr:af g.h 1 (V (J+1,2+r))=some (y.map ci)
 ye:E (J+1,2+r)=.sl 1 (y.map ci)
 yl:y.length<=K
theorem BS.br (hS:BS K J L x bx gr (r:Int) t g V E)(hy:x.rows[r]?=some y):∃rws,BR (K:=K) x J r y g V E rws:=by
 obtain ⟨rows,hB⟩:=hS.bt
 obtain ⟨rws,hW⟩:=hS.bw
 have hr:=(List.getElem?_eq_some_iff.1 hy).1
 have hrl:r<rws.length:=by have:=hW.len;omega
 have hye:=hB.nd.rr r y hy
 exact ⟨rws,hW.own.rows,hrl,hW.at_ r y hy,eL hW.own (by omega),(hS.hp.own (LS.s hS.hx (by omega)) hye).rows,hye,hB.nd.len.2.2 y (List.mem_of_getElem? hy)⟩
theorem bc8 (hS:BS K J L x bx gr Rw t g V E)(fin:td Q) :
  wp C0 d none (sQ [oM 213 11,o 214 (.bin .geq (.t 213) (qI 0)),oM 215 214,og 216 215 true (.mv (.t 10)),og 217 215 true (.nilc (.t 216)),og 218 215 true (.fad 2 (.t 217)),og 219 215 true (.load false 1 (.t 218)),og 220 215 true (.mv (.t 11)),og 221 215 true (.ixs 1 (.t 219) (.t 220)),og 222 215 true (.load false 1 (.t 221)),og 223 215 true (.len .slice (.t 222)),og 224 215 true (.bin .gtr (.t 223) (qI 0)),o 225 (.pick (.t 215) (.t 224) (.k (.bool false)))] (.cond (.t 225) (.seq (.feet [0,1,3,7,0,0,32,96,224,0,992,2016,4064,8160,16383,32767] [oM 226 10,o 227 (.nilc (.t 226)),oF 228 2 227,oL 229 228,oM 230 11,oM 231 10,o 232 (.nilc (.t 231)),oF 233 2 232,oL 234 233,oM 235 11,oX 236 234 235,oL 237 236,oN 238 237,o 239 (.mks 1 8 [.int .i64 0] (.t 238) (.t 238)),oX 240 229 230,oz (.store 1 (.t 240) (.t 239))]) (.feet [0,1,3,7,0,31,63,0,128,511,1023] [oM 241 10,o 242 (.nilc (.t 241)),oF 243 2 242,oL 244 243,oM 245 11,oX 246 244 245,oL 247 246,oF 248 0 3,oL 249 248,o 250 (.ixs 1 (.t 247) (qI 0)),oz (.store 1 (.t 250) (.t 249))])) (.skip))) Q t [] g:=by
 obtain ⟨h2,h3,h4,h10,h11,-⟩:=hS.st
 obtain ⟨rows,hB⟩:=hS.bt
 obtain ⟨rws,hW⟩:=hS.bw
 have hK:=hS.hK
 have hl:=hS.hl
 have hnx:=hS.hp.nx
 rcases hS.hR with ⟨rfl,h0⟩ | ⟨r,rfl,hr⟩
 ·simp only[sz,simprocAttr,h11,show decide ((-1:Int) >= 0)=false from rfl]
  exact hS.fin0 fin (by simp[sx,h3]) (by simp[sx,h4])
 ·obtain ⟨y,hy⟩:∃y,x.rows[r]?=some y:=⟨_,List.getElem?_eq_getElem hr⟩
  have hrw:=hW.at_ r y hy
  have hkL:LS L (J+1,2+r):=LS.s hS.hx (by omega)
  have hyo:=hS.hp.own hkL (hB.nd.rr r y hy)
  have hyl:=hB.nd.len.2.2 y (List.mem_of_getElem? hy)
  have ly:=ea hyo.rows
  rw[List.length_map] at ly
  have hrl:r<rws.length:=by have:=hW.len;omega
  have hryw:km (V (J+1,1))=true:=eL hW.own (by omega)
  simp only[sz,simprocAttr,h10,h11,show decide ((r:Int) >= 0)=true from by simp,bk hB.ry,bz hB.ry,hB.own.rows,hB.hlt,hB.row,hW.own.rows,hrl,hrw,ly]
  refine be (fun hb=>?_) (fun hb=>?_)
  ·have hpos:0<y.length:=by simpa using hb
   obtain ⟨A,hA⟩:∃A,A=SC.feet [0,1,3,7,0,31,63,0,128,511,1023] [oM 241 10,o 242 (.nilc (.t 241)),oF 243 2 242,oL 244 243,oM 245 11,oX 246 244 245,oL 247 246,oF 248 0 3,oL 249 248,o 250 (.ixs 1 (.t 247) (qI 0)),oz (.store 1 (.t 250) (.t 249))]:=⟨_,rfl⟩
   rw[<-hA]
   refine jW (P:=fun t' df g'=>df=[]/\∃L' x' V' E',BS K J L' x' bx gr (r:Int) t' g' V' E'/\x'.rows[r]?=some (List.replicate y.length 0)) ?_ ?_
   ·simp only[sz,simprocAttr,sf,h10,h11,bk hB.ry,bz hB.ry,hB.own.rows,hB.hlt,hB.row,hW.own.rows,hrl,hrw,ly]
    refine nA (b:=3) (n:=y.length) (by unfold aO;omega) (by unfold aO;omega) (by first | (simp;done) | (simp;omega)) fun W ga hWo na fra vW lga=>?_
    simp only[sy] at na fra vW lga
    have hHa:=(hS.hp.step (g':=G.mk g.h g.nx []) (Nat.le_refl _) (fun _ _ _=>rfl)).set (g':=ga) (k:=(J+1,2+r)) (v':=W) (e':=.sl 1 ((List.replicate y.length (0:Int)).map ci)) hkL (by rw[List.map_replicate];exact hWo) (by show g.nx<=ga.nx;omega) (fun i _ hi _=>fra i (by have hi:i<g.nx:=hi;omega)) (.inr ⟨_,by rw[bP hWo];exact vW,by show g.nx<=_;omega⟩)
    have e11:ups V (J+1,2+r) W (J+1,1)=V (J+1,1):=ac _ _ (by simp<;>omega)
    have hE1:ups E (J+1,2+r) (.sl 1 ((List.replicate y.length (0:Int)).map ci)) (J+1,1)=.sl 1 rws:=by rw[ac _ _ (by simp<;>omega)];exact hW.e1
    have rwa:af ga.h 1 (V (J+1,1))=some rws:=by rw[<-e11];exact (hHa.own (LS.s hS.hx (by omega)) hE1).rows
    simp only[sz,simprocAttr,sf,rwa,hrl]
    refine (hHa.same (g':=_) (by simp) (by simp<;>omega)).putv (k:=(J+1,1)) (i:=r) (off:=0) (n:=1) (LS.s hS.hx (by omega)) e11 (row':=[W]) hE1 hrw (by rw[hWo.cell.1];rfl) hWo.cell.2 (by rw[hWo.cell.1];rfl) fun gb hHb nb frb fob=>?_
    simp only[sy] at nb frb fob ⊢
    refine ⟨?_,L.set J (x.wr r (List.replicate y.length 0)),x.wr r (List.replicate y.length 0),_,_,⟨?_,(hHb.same (g':=_) (by simp) (by simp<;>omega)).sub fun k hk=>LS.upd hS.hx (by simp[Node.wr]) hk,?_,?_,?_,BLs.upd hB.oth.v.e.e ?_ ?_ ?_,by rw[List.getElem?_set_self (List.getElem?_eq_some_iff.1 hS.hx).1],.inr ⟨r,rfl,by simpa [Node.wr] using hr⟩,hK,by simpa using hl⟩,by simp[Node.wr,hr]⟩
    ·simp only[List.reverse_cons,List.reverse_nil,List.nil_append,List.cons_append]
     refine aJ [false,false,false,false,false,false,false,false,false,false,false,false,false,true,false,true] [(0,13),(1,13),(2,13),(3,13),(4,13)] (by simp[All2,am,aB]) (by decide) ?_
     have ro1:=hB.own.refs_lt
     rintro p hp x y hx hy
     simp only[List.mem_cons,List.not_mem_nil,or_false] at hp
     rcases hp with rfl | rfl | rfl | rfl | rfl<;>(simp at hx hy;subst hx;subst hy;refine dX rfl rfl rfl rfl ?_ ?_ ?_<;>simp[am,aB,jl hB.ry,lga]<;>first | omega | (intro h;have:=ro1 _ h;omega) | (intro i' hi' e;have:=ro1 i' hi';omega) | (intro i' hi';have:=ro1 i' hi';omega) | skip)
    ·simp[St,sx,h2,h3,h4,h10,h11,ac]
    ·simp only[bumpG_h];rw[frb 0 (by omega)];(try simp);rw[fra 0 (by omega),hS.f0]
    ·simp only[bumpG_h];rw[frb 1 (by omega),ac _ _ (by simp<;>omega)];(try simp);rw[fra 1 (by omega),hS.f1]
    ·simp only[bumpG_h];rw[frb 2 (by omega)];(try simp);rw[fra 2 (by omega),hS.f2]
    ·rw[ac _ _ (by simp<;>omega),ac _ _ (by simp<;>omega),hB.e0]
    ·rw[jI,ac _ _ (by simp<;>omega),ac _ _ (by simp<;>omega)];exact hB.row
    ·exact zL (r:=r) (y':=List.replicate y.length 0) hB.nd hW.at_ hW.len hr (by rw[ac _ _ (by simp<;>omega),ac _ _ (by simp<;>omega)]) (by rw[an,an]) (by rw[ac _ _ (by simp<;>omega),an]) (fun q hq=>ac _ _ (by simp<;>omega)) (fun q hq=>by rw[ac _ _ (by simp<;>omega),ac _ _ (by simp<;>omega)]) (by simpa using hyl)
   clear h2 h3 h4 h10 h11 hB hW hkL hyo hS hrw hrl hryw
   rintro t df g2 ⟨rfl,L',x',V',E',hS,hy'⟩
   rw[hA]
   obtain ⟨h2,h3,h4,h10,h11,-⟩:=hS.st
   obtain ⟨rows,hB⟩:=hS.bt
   obtain ⟨rws,hR⟩:=hS.br hy'
   have u1:0<((List.replicate y.length (0:Int)).map ci).length:=by simpa using hpos
   have u2:((List.replicate y.length (0:Int)).map ci)[0]?=some (ci 0):=by simp[hpos]
   have u3:=hR.yr
   have u4:=hR.rl
   simp only[sz,simprocAttr,sf,h3,h10,h11,hS.f1,bk hB.ry,bz hB.ry,hB.own.rows,hB.hlt,hB.row,hR.wr,u4,hR.rw_,A8 u3 u1]
   refine (hS.hp.same (g':=_) (by simp) (by simp<;>omega)).put (k:=(J+1,2+r)) (i:=0) (off:=0) (n:=1) (row:=ci 0) (row':=ci gr) (LS.s hS.hx (by have:=(List.getElem?_eq_some_iff.1 hy').1;omega)) hR.ye u2 rfl rfl rfl fun gb hHb nb frb fob=>?_
   simp only[sy] at nb frb fob ⊢
   refine ⟨?_,?_⟩
   ·simp only[List.reverse_cons,List.reverse_nil,List.nil_append,List.cons_append]
    exact aJ [false,false,false,false,false,false,false,false,false,false,true] [] (by simp[All2,am,aB]) (by decide) (by simp)
   rw[<-List.map_set] at hHb
   have hS2:=hS.put (t':=t) hy' (hHb.same (g':=G.mk gb.h gb.nx []) rfl (Nat.le_refl _)) (fun i hi=>by have:=frb i hi;simpa using this) (by simpa using hR.yl) (by simp[St,h2,h3,h4,h10,h11])
   exact fin _ _ gr _ _ (by simp[sx,h3]) (by simp[sx,h4]) (by simpa using hS2.f1) (by simpa using hS2.f2) (hS2.sl.heap (by simp))
  ·simp only[sx]
   exact hS.fin0 fin (by simp[sx,h3]) (by simp[sx,h4])
theorem IJ {n:Nat}(hn:n<=1000000)(hy0:y.length=n)(hyr:x.rows[r]?=some y)(hS:BS K J L x bx gr (r:Int) t g V E)(h12:tat t 12=.int .i64 0)(h13:tat t 13=.int .i64 ((n:Int) - 1))
  (fin:∀t g L x E,BS K J L x bx gr (r:Int) t g V E->Q (.exit 5) t [] g):wpL (wp C0 d none dL) Q t [] g:=by
 obtain ⟨FR,hFR⟩:∃FR,FR=SC.feet [0,1,3,7,0,31,63,0,0,256,768,1792,0,7936,16128,0,65280,130816,262143,524287] [oM 279 10,o 280 (.nilc (.t 279)),oF 281 2 280,oL 282 281,oM 283 11,oX 284 282 283,oL 285 284,oM 286 12,oM 287 10,o 288 (.nilc (.t 287)),oF 289 2 288,oL 290 289,oM 291 11,oX 292 290 291,oL 293 292,oM 294 13,oX 295 293 294,oL 296 295,oX 297 285 286,oz (.store 1 (.t 297) (.t 296))]:=⟨_,rfl⟩
 simp only[dL]
 rw[<-hFR]
 refine a_ (n / 2) (by omega) (fun j t df g=>df=[]/\∃L x y E,BS K J L x bx gr (r:Int) t g V E/\x.rows[r]?=some y/\y.length=n/\tat t 13=.int .i64 ((n:Int) - 1 - (j:Int)))
  ⟨rfl,L,x,y,E,hS,hyr,hy0,by simp[h13]⟩ h12 (by decide) ?_ ?_ ?_ ?_
 ·rintro j t df g v s (rfl | rfl | rfl) ⟨rfl,L,x,y,E,hS,h⟩<;>exact ⟨rfl,L,x,y,E,⟨by have:=hS.st;simpa [St,sx] using this,hS.hp,hS.f0,hS.f1,hS.f2,hS.bl,hS.hx,hS.hR,hS.hK,hS.hl⟩,by simpa [sx] using h⟩
 ·rintro j t df g hj ⟨rfl,L,x,y,E,hS,hyr,hyn,h13⟩ h12
  simp only[sz,simprocAttr,h12,h13]
  refine ⟨by congr 1;exact decide_eq_decide.2 (by omega),⟨L,x,y,E,⟨by have:=hS.st;simpa [St,sx] using this,hS.hp,hS.f0,hS.f1,hS.f2,hS.bl,hS.hx,hS.hR,hS.hK,hS.hl⟩,hyr,hyn⟩⟩
 ·rintro j t df g hj ⟨rfl,L,x,y,E,hS,hyr,hyn,h13⟩ h12
  have hk:((n:Int) - 1 - (j:Int))=((n - 1 - j:Nat):Int):=by omega
  rw[hk] at h13
  obtain ⟨z,hz⟩:∃z,y[j]?=some z:=⟨_,List.getElem?_eq_getElem (by omega)⟩
  obtain ⟨z',hz'⟩:∃z,y[n - 1 - j]?=some z:=⟨_,List.getElem?_eq_getElem (by omega)⟩
  refine jW (P:=fun t' df g'=>df=[]/\g'=g/\BS K J L x bx gr (r:Int) t' g V E/\St t' [(12,.int .i64 (j:Int)),(13,.int .i64 ((n - 1 - j:Nat):Int)),(14,.int .i64 z)]) ?_ ?_
  ·obtain ⟨h2,h3,h4,h10,h11,-⟩:=hS.st
   obtain ⟨rows,hB⟩:=hS.bt
   obtain ⟨rws,hR⟩:=hS.br hyr
   have u1:j<(y.map ci).length:=by simp;omega
   have u2:(y.map ci)[j]?=some (ci z):=by rw[List.getElem?_map,hz];rfl
   have hryy:=vF hR.yr u1
   simp only[sz,simprocAttr,h10,h11,h12,bk hB.ry,bz hB.ry,hB.own.rows,hB.hlt,hB.row,hR.wr,hR.rl,hR.rw_,hR.yr,u1,u2,ci]
   exact ⟨⟨by simp[St,sx,h2,h3,h4,h10,h11],hS.hp,hS.f0,hS.f1,hS.f2,hS.bl,hS.hx,hS.hR,hS.hK,hS.hl⟩,by simp[St,sx,h12,h13]⟩
  clear hS h12 h13
  rintro t df g1 ⟨rfl,rfl,hS,h12,h13,h14,-⟩
  rw[hFR]
  refine jW (P:=fun t' df g'=>df=[]/\∃L x E,BS K J L x bx gr (r:Int) t' g' V E/\x.rows[r]?=some (y.set j z')/\St t' [(12,.int .i64 (j:Int)),(13,.int .i64 ((n - 1 - j:Nat):Int)),(14,.int .i64 z)]) ?_ ?_
  ·obtain ⟨h2,h3,h4,h10,h11,-⟩:=hS.st
   obtain ⟨rows,hB⟩:=hS.bt
   obtain ⟨rws,hR⟩:=hS.br hyr
   have u1:j<(y.map ci).length:=by simp;omega
   have u2:(y.map ci)[j]?=some (ci z):=by rw[List.getElem?_map,hz];rfl
   have u3:n - 1 - j<(y.map ci).length:=by simp;omega
   have u4:(y.map ci)[n - 1 - j]?=some (ci z'):=by rw[List.getElem?_map,hz'];rfl
   have hryy:=vF hR.yr u1
   have hrl:=hR.rl
   simp only[sz,simprocAttr,sf,h10,h11,h12,h13,bk hB.ry,bz hB.ry,hB.own.rows,hB.hlt,hB.row,hR.wr,hrl,hR.rw_,hR.yr,u1,u3,u4,ci]
   refine (hS.hp.same (g':=_) (by simp) (by simp;omega)).put (k:=(J+1,2+r)) (i:=j) (off:=0) (n:=1) (row:=ci z) (row':=ci z') (LS.s hS.hx (by have:=(List.getElem?_eq_some_iff.1 hyr).1;omega)) hR.ye u2 rfl rfl rfl fun gb hHb nb frb fob=>?_
   simp only[sy] at nb frb fob ⊢
   rw[<-List.map_set] at hHb
   have hS2:=hS.put (t':=t) hyr (hHb.same (g':=G.mk gb.h gb.nx []) rfl (Nat.le_refl _)) (fun i hi=>by have:=frb i hi;simpa using this) (by simpa using hR.yl) (by simp[St,h2,h3,h4,h10,h11])
   refine ⟨?_,_,_,_,hS2.mv (by simp) (by simp) (by simp[St,sx,h2,h3,h4,h10,h11]),by simp[Node.wr,(List.getElem?_eq_some_iff.1 hyr).1],by simp[St,sx,h12,h13,h14]⟩
   simp only[List.reverse_cons,List.reverse_nil,List.nil_append,List.cons_append]
   exact aJ [false,false,false,false,false,false,false,false,false,false,false,false,false,false,false,false,false,false,false,true] [] (by simp[All2,am,aB]) (by decide) (by simp)
  clear hS h12 h13 h14 hyr
  rintro t df g2 ⟨rfl,L,x,E,hS,hyr,h12,h13,h14,-⟩
  refine jW (P:=fun t' df g'=>df=[]/\∃L x E,BS K J L x bx gr (r:Int) t' g' V E/\x.rows[r]?=some ((y.set j z').set (n - 1 - j) z)/\St t' [(12,.int .i64 (j:Int)),(13,.int .i64 ((n - 1 - j:Nat):Int))]) ?_ ?_
  ·obtain ⟨h2,h3,h4,h10,h11,-⟩:=hS.st
   obtain ⟨rows,hB⟩:=hS.bt
   obtain ⟨rws,hR⟩:=hS.br hyr
   have u3:n - 1 - j<((y.set j z').map ci).length:=by simp;omega
   obtain ⟨w,hw⟩:∃w,(y.set j z')[n - 1 - j]?=some w:=⟨_,List.getElem?_eq_getElem (by simp;omega)⟩
   have u4:((y.set j z').map ci)[n - 1 - j]?=some (ci w):=by rw[List.getElem?_map,hw];rfl
   have hryy:=vF hR.yr u3
   have hrl:=hR.rl
   have hyr':=hR.yr
   simp only[sz,simprocAttr,h10,h11,h13,h14,bk hB.ry,bz hB.ry,hB.own.rows,hB.hlt,hB.row,hR.wr,hrl,hR.rw_,hyr',u3]
   refine hS.hp.put (k:=(J+1,2+r)) (i:=n - 1 - j) (off:=0) (n:=1) (row:=ci w) (row':=ci z) (LS.s hS.hx (by have:=(List.getElem?_eq_some_iff.1 hyr).1;omega)) hR.ye u4 rfl rfl rfl fun gb hHb nb frb fob=>?_
   simp only[sx,sy]
   rw[<-List.map_set] at hHb
   have hS2:=hS.put (t':=t) hyr hHb frb (by simpa using hR.yl) (by simp[St,h2,h3,h4,h10,h11])
   exact ⟨_,_,_,⟨by simp[St,sx,h2,h3,h4,h10,h11],hS2.hp,hS2.f0,hS2.f1,hS2.f2,hS2.bl,hS2.hx,hS2.hR,hS2.hK,hS2.hl⟩,by simp[Node.wr,(List.getElem?_eq_some_iff.1 hyr).1],by simp[St,sx,h12,h13]⟩
  clear hS h12 h13 h14 hyr
  rintro t df g3 ⟨rfl,L,x,E,hS,hyr,h12,h13,-⟩
  simp only[sz,simprocAttr,h12,h13]
  refine ⟨L,x,(y.set j z').set (n - 1 - j) z,E,hS.mv rfl (Nat.le_refl _) (by have:=hS.st;simpa [St,sx] using this),hyr,by simp[hyn],?_⟩
  rw[aF (by omega) (by omega)]
  congr 1
  omega
 ·rintro t df g ⟨rfl,L,x,y,E,hS,-⟩
  exact fin t g L x E hS
theorem bc9 (hS:BS K J L x bx gr Rw t g V E)(fin:td fun e t df g=>Q e t df g) :
  wp C0 d none (sQ [oM 253 11,o 254 (.bin .geq (.t 253) (qI 0))] (.cond (.t 254) (.seq (.quiet [oM 255 10,o 256 (.nilc (.t 255)),oF 257 2 256,oL 258 257,oM 259 11,oX 260 258 259,oL 261 260,oN 262 261,o 263 (.bin .sub (.t 262) (qI 1)),oK 12 0,oM 13 263]) (.blk 5 (.loop dL))) (.skip))) Q t [] g:=by
 obtain ⟨h2,h3,h4,h10,h11,-⟩:=hS.st
 obtain ⟨rows,hB⟩:=hS.bt
 rcases hS.hR with ⟨rfl,h0⟩ | ⟨r,rfl,hr⟩
 ·simp only[sx,SO.run,↓reduceIte,h11]
  exact ⟨fun h=>by simp at h,fun _=>hS.fin0 fin (by simp[sx,h3]) (by simp[sx,h4])⟩
 ·simp only[sx,SO.run,↓reduceIte,h11]
  refine ⟨fun _=>?_,fun h=>by simp at h⟩
  obtain ⟨y,hy⟩:∃y,x.rows[r]?=some y:=⟨_,List.getElem?_eq_getElem hr⟩
  obtain ⟨rws,hR⟩:=hS.br hy
  have ly:=ea hR.yr
  rw[List.length_map] at ly
  have hyl:=hR.yl
  have hK:=hS.hK
  have w9:IntKind.wrap .i64 ((y.length:Int) - 1)=(y.length:Int) - 1:=aF (by omega) (by omega)
  simp only[sx,sy,SO.run,↓reduceIte,Nat.reduceEqDiff,h10,h11,bk hB.ry,bz hB.ry,hB.own.rows,hB.hlt,hB.row,hR.wr,hR.rl,hR.rw_,ly,w9,Option.isSome_some,Option.getD_some]
  refine IJ (n:=y.length) (L:=L) (x:=x) (y:=y) (E:=E) (by omega) rfl hy ⟨by simp[St,sx,h2,h3,h4,h10,h11],hS.hp,hS.f0,hS.f1,hS.f2,hS.bl,hS.hx,hS.hR,hS.hK,hS.hl⟩ (by simp[sx]) (by simp[sx]) ?_
  intro t g L x E hS
  obtain ⟨h2,h3,h4,h10,h11,-⟩:=hS.st
  simp only[sx,↓reduceIte]
  exact hS.fin0 fin h3 h4
end
end
end Hx
end
section
namespace Hx
open Go
noncomputable section
def I4:VS:=fun P k h v=>∃m:Net,True/\Agg m P k h v
theorem IQ:Snb I4 1:=mb fun m=>dI _
theorem bk5 {d:Nat}{t:T}{g:G}{gr:Int}{nv:AV}{nds:List Node}(h3:tat t 3=.hptr 1 0 0 0)(h4:tat t 4=.hptr 2 0 0 0)(e1:g.h.get 1=.cells 2 [[.int .i64 gr,nv]] 0 false false)(e2:g.h.get 2=.cells 2 [[.int .i64 0,.nils]] 0 false false)
  (hn:SlR P3 0 g.h nds nv):wp C0 d none dO (fnQ C0 d [SR.cell true 2 4] fun v g'=>∃P,I4 P 0 g'.h v) t [] g:=by
 simp only[sz,simprocAttr,dO,h3,h4,e1,e2]
 refine ⟨P3,⟨gr,nds⟩,trivial,_,rfl,?_⟩
 exact Rp.mono (P:=P3) (h:=g.h) (ck.2 ⟨nv,rfl,hn⟩) (fun i hi=>⟨hi,by rw[ap _ _ _ (by have:3<=i:=hi;omega)]⟩) (Nat.le_refl _)
theorem bk6 {d K J:Nat}{L:List Node}{x:Node}{bx:jU}{gr Rw:Int}{t:T}{g:G}{V:Ky->AV}{E:Ky->En}{Q:QT}(hS:BS K J L x bx gr Rw t g V E)
  (last:td (kB 4 (kS (wp C0 d none dO Q) Q))):wp C0 d none gw Q t [] g:=by
 have w8:bx.1.toNat<256:=bx.1.toNat_lt
 obtain ⟨h2,h3,h4,h10,h11,-⟩:=hS.st
 have mv:∀{t':T},St t' (LBS (V (0,0)) J Rw)->BS K J L x bx gr Rw t' g V E:=fun h=>hS.mv rfl (Nat.le_refl _) h
 simp only[sz,simprocAttr,gw,h2,hS.f0,u8v,it .u8 (show (0:Int)<=(bx.1.toNat:Int) by omega) (show (0:Int)<12 by decide)]
 refine be (fun hb=>?_) (fun hb=>?_)
 ·exact bc0 (mv (by simp[St,sx,h2,h3,h4,h10,h11])) last
 simp only[sz,simprocAttr]
 refine be (fun hb=>?_) (fun hb=>?_)
 ·exact bc1 (mv (by simp[St,sx,h2,h3,h4,h10,h11])) last
 simp only[sz,simprocAttr]
 refine be (fun hb=>?_) (fun hb=>?_)
 ·exact bc2 (mv (by simp[St,sx,h2,h3,h4,h10,h11])) last
 simp only[sz,simprocAttr]
 refine be (fun hb=>?_) (fun hb=>?_)
 ·exact bc3 (mv (by simp[St,sx,h2,h3,h4,h10,h11])) last
 simp only[sz,simprocAttr]
 refine be (fun hb=>?_) (fun hb=>?_)
 ·exact bc4 (mv (by simp[St,sx,h2,h3,h4,h10,h11])) last
 simp only[sz,simprocAttr]
 refine be (fun hb=>?_) (fun hb=>?_)
 ·exact bc5 (mv (by simp[St,sx,h2,h3,h4,h10,h11])) last
 simp only[sz,simprocAttr]
 refine be (fun hb=>?_) (fun hb=>?_)
 ·exact bc6 (mv (by simp[St,sx,h2,h3,h4,h10,h11])) last
 simp only[sz,simprocAttr]
 refine be (fun hb=>?_) (fun hb=>?_)
 ·exact bc7 (mv (by simp[St,sx,h2,h3,h4,h10,h11])) last
 simp only[sz,simprocAttr]
 refine be (fun hb=>?_) (fun hb=>?_)
 ·exact bc8 (mv (by simp[St,sx,h2,h3,h4,h10,h11])) last
 simp only[sz,simprocAttr]
 refine be (fun hb=>?_) (fun hb=>?_)
 ·exact bc9 (mv (by simp[St,sx,h2,h3,h4,h10,h11])) last
 simp only[sz,simprocAttr]
 refine be (fun hb=>?_) (fun hb=>?_)
 ·exact Lk (mv (by simp[St,sx,h2,h3,h4,h10,h11])) last
 exact Ll (mv (by simp[St,sx,h2,h3,h4,h10,h11])) last
theorem bk7 {d K:Nat}{bx:jU}{gr:Int}{b:AV}{L:List Node}{t:T}{g:G}{V:Ky->AV}{E:Ky->En}(hK:K<=1000000)(hl:L.length<=K)
  (ht:St t [(2,.hptr 0 0 0 0),(3,.hptr 1 0 0 0),(4,.hptr 2 0 0 0)]) (h5:tat t 5=V (0,0)) (hH:Hp g 3 (LS L) V E) (hB:BBn g [u8v bx.1,u8v bx.2.1,u8v bx.2.2.1,.int .i64 bx.2.2.2] gr b) (hD:BLs K V E L) :
  wp C0 d none gu (fnQ C0 d [SR.cell true 2 4] fun v g'=>∃P,I4 P 0 g'.h v) t [] g:=by
 obtain ⟨h2,h3,h4,-⟩:=ht
 obtain ⟨b0,b1,b2⟩:=hB
 obtain ⟨rows,e1,e2,e3⟩:=hD.ns
 have o1:=hH.own LS.z e1
 have len1:=ea o1.rows
 rw[e2] at len1
 have hnx:=hH.nx
 unfold gu
 refine jg (P:=fun t df g'=>df=[]/\Hp g' 3 (LS L) V E/\St t [(2,.hptr 0 0 0 0),(3,.hptr 1 0 0 0),(4,.hptr 2 0 0 0),(5,V (0,0))]/\g'.h.get 0=.cells 4 [[u8v bx.1,u8v bx.2.1,u8v bx.2.2.1,.int .i64 bx.2.2.2]] 0 false false/\g'.h.get 1=.cells 2 [[.int .i64 gr,V (0,0)]] 0 false false/\g'.h.get 2=.cells 2 [[.int .i64 0,.nils]] 0 false false) ?_ ?_
 ·simp only[sz,simprocAttr,h3,h5,b1,o1.cell.1,o1.cell.2]
  exact ⟨hH.step (by simp) fun i hi _=>by simp[H.get_put];omega,by simp[St,sx,h2,h3,h4,h5],by simp[b0],by simp[b2]⟩
 clear b0 b1 b2 h2 h3 h4 h5 hH o1 hnx
 rintro t df g1 hg
 obtain ⟨rfl,hH,⟨h2,h3,h4,h5,-⟩,f0,f1,f2⟩:=hg
 have o1:=hH.own LS.z e1
 have hsl:=hD.sl hH (by omega) (by omega)
 simp only[sz,simprocAttr,h5,len1]
 refine be (fun hb=>?_) (fun hb=>?_)
 ·simp only[sz,simprocAttr,h3,h4,f1,f2]
  refine ⟨P3,⟨gr,L⟩,trivial,_,rfl,?_⟩
  exact Rp.mono (P:=P3) (h:=g1.h) (ck.2 ⟨_,rfl,hsl⟩) (fun i hi=>⟨hi,by rw[ap _ _ _ (by have:3<=i:=hi;omega)]⟩) (Nat.le_refl _)
 have hn0:0<L.length:=by have:=of_decide_eq_false hb;omega
 have at8:bx.2.1.toNat<256:=bx.2.1.toNat_lt
 have em:((bx.2.1.toNat:Int) % (L.length:Int))=((bx.2.1.toNat % L.length:Nat):Int):=by omega
 have hJ:bx.2.1.toNat % L.length<L.length:=Nat.mod_lt _ hn0
 obtain ⟨J,hJe⟩:∃J,J=bx.2.1.toNat % L.length:=⟨_,rfl⟩
 rw[<-hJe] at em hJ
 obtain ⟨x,hx⟩:∃x,L[J]?=some x:=⟨_,List.getElem?_eq_getElem hJ⟩
 have hJr:J<rows.length:=by omega
 have hrow:rows[J]?=some [.int .i64 x.card,V (J+1,0),V (J+1,1)]:=e3 J x hx
 have hry:km (V (0,0))=true:=eL o1 (by omega)
 obtain ⟨rws,q1,q2,q3⟩:=(hD.nd J x hx).rs
 have hlen:=(hD.nd J x hx).len
 have o2:=hH.own (LS.s hx (by omega)) q1
 have len2:=ea o2.rows
 rw[q2] at len2
 rw[vI,qT]
 refine jg (P:=fun t df g'=>df=[]/\g'=g1/\St t [(2,.hptr 0 0 0 0),(3,.hptr 1 0 0 0),(4,.hptr 2 0 0 0),(10,iQ 3 (V (0,0)) J 0)]) ?_ ?_
 ·simp only[sz,simprocAttr,h2,h3,h4,h5,f0,len1,u8v,aF (show -9223372036854775808<=(bx.2.1.toNat:Int) by omega) (show (bx.2.1.toNat:Int)<9223372036854775808 by omega),it .i64 (show (0:Int)<=(bx.2.1.toNat:Int) by omega) (show 0<(L.length:Int) by omega),em,o1.rows,hJr,St]
 clear h2 h3 h4 h5
 rintro t df g' ⟨rfl,rfl,h2,h3,h4,h10,-⟩
 have r8:bx.2.2.1.toNat<256:=bx.2.2.1.toNat_lt
 refine jg (P:=fun t df g''=>df=[]/\g''=g'/\St t (LBS (V (0,0)) J (-1))) ?_ ?_
 ·simp only[sz,simprocAttr,h2,h3,h4,h10,St]
 clear h2 h3 h4 h10
 rintro t df g'' ⟨rfl,rfl,h2,h3,h4,h10,h11,-⟩
 refine jW (P:=fun t df g3=>df=[]/\g3=g''/\∃Rw:Int,((Rw = -1/\x.rows.length=0)\/∃r:Nat,Rw=(r:Int)/\r<x.rows.length)/\St t (LBS (V (0,0)) J Rw)) ?_ ?_
 ·simp only[sz,simprocAttr,h10,bk hry,bz hry,o1.rows,hJr,hrow,len2]
  refine be (fun hb=>?_) (fun hb=>?_)
  ·have hpos:0<x.rows.length:=by simpa using hb
   have em2:((bx.2.2.1.toNat:Int) % (x.rows.length:Int))=((bx.2.2.1.toNat % x.rows.length:Nat):Int):=by omega
   have hm:=Nat.mod_lt bx.2.2.1.toNat hpos
   simp only[sz,simprocAttr,h2,h10,f0,u8v,aF (show -9223372036854775808<=(bx.2.2.1.toNat:Int) by omega) (show (bx.2.2.1.toNat:Int)<9223372036854775808 by omega),bk hry,bz hry,o1.rows,hJr,hrow,len2,it .i64 (show (0:Int)<=(bx.2.2.1.toNat:Int) by omega) (show 0<(x.rows.length:Int) by omega),em2]
   exact ⟨_,.inr ⟨_,rfl,hm⟩,by simp[St,sx,h2,h3,h4,h10]⟩
  ·have h0:x.rows.length=0:=by have:=of_decide_eq_false hb;omega
   simp only[sx,sy]
   exact ⟨-1,.inl ⟨rfl,h0⟩,by simp[St,sx,h2,h3,h4,h10,h11]⟩
 clear h2 h3 h4 h10 h11
 rintro t df g3 ⟨rfl,rfl,Rw,hR,ht⟩
 refine bk6 (K:=K) (L:=L) (x:=x) (bx:=bx) (gr:=gr) ⟨ht,hH,f0,f1,f2,hD,hx,hR,hK,hl⟩ ?_
 intro t g gr nv nds h3 h4 e1 e2 s1
 rw[Af,qT]
 exact bk5 h3 h4 e1 e2 s1
theorem I8 {d K:Nat}{g:G}{x:jU}{m:Net}{v w:AV}(hd:0<d)(hx:Agg x NoP 0 g.h v)(hm:Agg m NoP 0 g.h w)(hK:K<=1000000)(hl:m.nodes.length<=K)
  (hb:∀y∈m.nodes,y.parents.length<=K/\y.rows.length<=K/\∀r∈y.rows,r.length<=K):∃r,au C0 d N.aE [v,w] g=.val r/\I4 NoP 0 .nil r:=by
 have e0:=jy d hx
 have e1:=jy d hm
 obtain ⟨cs,rfl,hc⟩:=hx
 have hc:=wU.1 hc
 subst hc
 obtain ⟨cs,rfl,hc⟩:=hm
 obtain ⟨b,rfl,hN⟩:=ck.1 hc
 rw[sn]
 refine bp uy (xs:=[.agg [u8v x.1,u8v x.2.1,u8v x.2.2.1,.int .i64 x.2.2.2],.agg [.int .i64 m.grain,b]]) (by simp only[aD,e0,e1]) (by simp[jE]) IQ (by decide) hd ?_
 clear e0 e1 hc
 have hN:=hN.tree (h':=.nil) (Nat.le_refl _)
 simp only[sz,simprocAttr,jE]
 obtain ⟨g0,hg0⟩:∃g0,g0=((G.empty.new (.cells 4 [[u8v x.1,u8v x.2.1,u8v x.2.2.1,.int .i64 x.2.2.2]] 0 false false)).new (.cells 2 [[.int .i64 m.grain,b]] 0 false false)).new (.cells 2 [[.int .i64 0,.nils]] 0 false false):=⟨_,rfl⟩
 rw[<-hg0]
 have f0:BBn g0 [u8v x.1,u8v x.2.1,u8v x.2.2.1,.int .i64 x.2.2.2] m.grain b:=by rw[hg0];exact ⟨by simp[sx,H.get_put],by simp[sx,H.get_put],by simp[sx]⟩
 have f3:g0.nx=3:=by rw[hg0];simp[sx]
 clear hg0
 have hH:Hp g0 3 (LS []) (fun _=>.nils) (fun k=>.sl 3 []):=⟨fun k _=>.inl ⟨rfl,rfl⟩,fun k l _ _ _ id h=>(by cases h),by omega⟩
 simp only[sz,simprocAttr,lR]
 refine KO (V:=fun _=>.nils) hK hN hl hb (by simp[St,sx]) (by simp[sx]) (by simp[sx]) hH f0 ⟨⟨[],rfl,rfl,fun i y hy=>by simp at hy⟩,fun i y hy=>by simp at hy⟩ ?_
 clear hH
 intro t g V E ht h5 hH hB hD
 simp only[sx,↓reduceIte]
 exact bk7 hK hl ht h5 hH hB hD
theorem HL (a b c e f:AV)(t:T):bH 0 [a,b,c,e,f] t=dF (dF (dF (dF (dF t 0 a) 1 b) 2 c) 3 e) 4 f:=rfl
theorem jf {α:Type} [Rp α]{x:α}{P:Nat->Prop}{cs:List AV}(h:Rp.rp NoP 0 .nil x cs)(h':H):Agg x P 0 h' (.agg cs):=⟨_,rfl,Rp.tree h (Nat.le_refl _)⟩
theorem l0 {l:List Int}{n:Int}{i:Nat}:S.aI l n i=true↔0<=l[i]?.getD 0/\l[i]?.getD 0<n/\(i=0\/l[i - 1]?.getD 0<l[i]?.getD 0):=by
 simp[S.aI,and_assoc]
theorem Bs {l:List Int}{n m:Int}(h:S.aq l n=true)(hn:n<=m):S.aq l m=true:=by
 refine List.all_eq_true.2 fun i hi=>?_
 have:=l0.1 (List.all_eq_true.1 h i hi)
 exact l0.2 ⟨this.1,by omega,this.2.2⟩
theorem B8 {l:List Int}{j:Nat}(h:S.aq l (j:Int)=true):S.aq (l++[(j:Int)]) ((j+1:Nat):Int)=true:=by
 refine List.all_eq_true.2 fun i hi=>?_
 have hi:=List.mem_range.1 hi
 rw[List.length_append,List.length_singleton] at hi
 rw[l0]
 by_cases c:i<l.length
 ·have:=l0.1 (List.all_eq_true.1 h i (List.mem_range.2 c))
  rw[List.getElem?_append_left c,List.getElem?_append_left (by omega)]
  exact ⟨this.1,by omega,this.2.2⟩
 ·have e:i=l.length:=by omega
  subst e
  rw[List.getElem?_append_right (Nat.le_refl _),Nat.sub_self,List.getElem?_cons_zero,Option.getD_some]
  refine ⟨by omega,by omega,?_⟩
  by_cases c0:l.length=0
  ·exact .inl c0
  ·right
   rw[List.getElem?_append_left (by omega),List.getElem?_eq_getElem (by omega),Option.getD_some]
   exact (bZ h _ (List.getElem_mem _)).2
def K0 (m:Nat):VS:=fun P k h v=>∃l:List Int,S.aq l (m:Int)=true/\ET l P k h v
theorem IC (m:Nat):Snb (K0 m) 0:=mb fun l=>qi l
theorem HD {d m:Nat}{s:UInt8}{g:G}(hd:0<d)(hm:m<=8):∃r,au C0 d N.aZ [u8v s,.int .i64 (m:Int)] g=.val r/\K0 m NoP 0 .nil r:=by
 rw[ui]
 refine bp xH (xs:=[u8v s,.int .i64 (m:Int)]) (by simp only[aD,u8v,eW]) (by simp[mo]) (IC m) (by decide) hd ?_
 simp only[sz,simprocAttr,mo,m9,mX]
 refine a_ m (by omega) (fun j t df g=>df=[]/\St t [(0,u8v s),(1,.int .i64 (m:Int))]/\∃l:List Int,S.aq l (j:Int)=true/\Own g 0 (tat t 5) 1 (l.map ci)) ⟨rfl,by simp[St,sx],[],by decide,.inl ⟨by simp[sx],rfl⟩⟩ (by simp[sx]) (by decide)
  (by rintro i t df g v s (rfl | rfl | rfl) ⟨a1,⟨b1,b2,-⟩,c1⟩<;>exact ⟨a1,by simp[St,sx,b1,b2],by simpa [sx] using c1⟩) ?_ ?_ ?_
 ·rintro j t df g hj ⟨rfl,⟨h0,h1,-⟩,l,hl,ho⟩ h6
  by_cases c:j<m
  ·have c1:(j:Int)<(m:Int):=by omega
   have c2:(j:Int)<8:=by omega
   simp only[sz,simprocAttr,h0,h1,h6,c1,c2]
   exact ⟨by simp[St,sx,h0,h1],l,hl,ho⟩
  ·have c1:¬(j:Int)<(m:Int):=by omega
   simp only[sz,simprocAttr,h0,h1,h6,c1]
   exact ⟨by simp[St,sx,h0,h1],l,hl,ho⟩
 ·rintro j t df g hj ⟨rfl,⟨h0,h1,-⟩,l,hl,ho⟩ h6
  obtain ⟨z1,hz1⟩:=uF s.toNat j
  obtain ⟨z2,hz2⟩:=tY z1 1
  have hz2':cN .and (.int .u8 (z1:Int)) (.int .u8 1)=.val (.int .u8 z2):=hz2
  have w1:IntKind.wrap .u64 (j:Int)=(j:Int):=qR (by omega) (by omega)
  have hll:=cX hl (by omega)
  by_cases c:z2=1
  ·simp only[sz,simprocAttr,h0,h6,u8v,w1,hz1,hz2',c]
   refine cF (ho.fr (g':=_) (by simp<;>omega) (fun i hi=>?_)) (new:=[[.int .i64 (j:Int)]]) ?_ (by simp<;>omega) (by simp[aO]<;>omega) fun v5 g5 o5 n5 f5 w5 _=>?_
   ·have:=ho.lt hi
    simp[H.get_put];omega
   ·simp[af,H.get_put];rfl
   simp only[sz,simprocAttr]
   refine ⟨⟨by simp[St,sx,h0,h1,u8v],_,B8 hl,?_⟩,by simp[sx,h6]⟩
   simpa [sx,ci] using o5
  ·simp only[sz,simprocAttr,h0,h6,u8v,w1,hz1,hz2',c]
   exact ⟨by simp[St,sx,h0,h1,u8v],l,Bs hl (by omega),ho⟩
 ·rintro t df g ⟨rfl,-,l,hl,ho⟩
  have hll:=cX hl (by omega)
  simp only[kB,sz,simprocAttr,np]
  refine ⟨fun _=>True,l,hl,ho.sl (α:=Int) (by omega) (All2.of_map (fun a=>aU.2 rfl) _) fun _ _=>trivial,?_⟩
  rcases ho with ⟨h,-⟩ | ⟨id,ep,lo,-,-,h,-⟩<;>(rw[h];intro _ _ _ e;cases e)
def KQ:VS:=fun P k h v=>∃x:Net×Net,Drafted x.1/\Agg x P k h v
theorem Jr {d:Nat}{g:G}{x:sA}{y:jU}{xs ys:List AV}(hd:0<d)(hx:Rp.rp NoP 0 .nil x xs)(hy:Rp.rp NoP 0 .nil y ys) :
  ∃r,au C0 d N.aS [.agg xs,.agg ys] g=.val r/\KQ NoP 0 .nil r:=by
 have e1:=jy d (jf (P:=NoP) hx g.h)
 have e2:=jy d (jf (P:=NoP) hy g.h)
 obtain ⟨a1,a2,ex,-⟩:=ut.1 hx
 have hxl:xs.length=3:=by rw[ex];rfl
 have hyl:ys.length=4:=by rw[wU.1 hy];rfl
 clear ex a1 a2
 rw[vp]
 refine bp yd (xs:=[.agg xs,.agg ys]) (by simp only[aD,e1,e2]) (by simp[oV]) (mb fun o=>dI _) (by decide) hd ?_
 simp only[sz,simprocAttr,oV]
 obtain ⟨g0,hg0⟩:∃g0,g0=((G.empty.new (AObj.cells xs.length [xs] 0 false false)).new (AObj.cells ys.length [ys] 0 false false)).new (.cells 4 [[.int .i64 0,.nils,.int .i64 0,.nils]] 0 false false):=⟨_,rfl⟩
 rw[<-hg0]
 have f0:g0.h.get 0=.cells 3 [xs] 0 false false:=by rw[hg0,hxl];simp[sx,H.get_put]
 have f1:g0.h.get 1=.cells 4 [ys] 0 false false:=by rw[hg0,hyl];simp[sx,H.get_put]
 have f2:g0.h.get 2=.cells 4 [[.int .i64 0,.nils,.int .i64 0,.nils]] 0 false false:=by rw[hg0];simp[sx]
 have f3:g0.nx=3:=by rw[hg0];simp[sx]
 clear hg0
 have ld0:cw (.cells 3 [xs] 0 false false) 0 0 true 3 0=.val (.agg xs):=by
  match xs,hxl with
  | [a,b,c],_=>rfl
 have ld1:cw (.cells 4 [ys] 0 false false) 0 0 true 4 0=.val (.agg ys):=by
  match ys,hyl with
  | [a,b,c,d],_=>rfl
 obtain ⟨rn,en,n,hdr,cn,rfl,hcn⟩:=EH (g:=g0) (d:=d+1) (Nat.succ_pos d) (jf (P:=NoP) hx g0.h)
 obtain ⟨b,rfl,hNb⟩:=ck.1 hcn
 have hbd:∀y∈n.nodes,y.parents.length<=1000/\y.rows.length<=1000/\∀r∈y.rows,r.length<=1000:=hdr.b
 have hn5:=hdr.l
 simp only[sz,simprocAttr,pY,f0,ld0,en]
 simp only[sz,simprocAttr,sf,f1,f2,f3,ld1]
 refine bo (I8 (K:=1000) (Nat.succ_pos d) (jf (P:=NoP) hy _) (jf (P:=NoP) hcn _) (by decide) (by omega) hbd) ?_
 rintro r ⟨m,-,cm,rfl,hcm⟩
 obtain ⟨b2,rfl,hNm⟩:=ck.1 hcm
 have fw:eo [.int .i64 0,.nils,.int .i64 0,.nils] [((0,2),.agg [.int .i64 n.grain,b]),((2,2),.agg [.int .i64 m.grain,b2])]=some [.int .i64 n.grain,b,.int .i64 m.grain,b2]:=rfl
 simp only[sz,simprocAttr,sf,f1,f2,f3,fw,sR]
 refine ⟨?_,?_⟩
 ·simp only[List.reverse_cons,List.reverse_nil,List.nil_append,List.cons_append]
  exact aJ [false,false,false,false,false,true] [] (by simp[All2,am,aB]) (by decide) (by simp)
 exact ⟨NoP,(n,m),hdr,_,rfl,_,_,rfl,Rp.tree hcn (Nat.le_refl _),Rp.tree hcm (Nat.le_refl _)⟩
def K9 (S1 S2 S3 S4 S5 S6:VS):VS:=fun P k h v=>∃a b c d e f,v=.agg [a,b,c,d,e,f]/\S1 P k h a/\S2 P k h b/\S3 P k h c/\S4 P k h d/\S5 P k h e/\S6 P k h f
theorem Gp {S1 S2 S3 S4 S5 S6:VS}(h1:Snb S1 0)(h2:Snb S2 0)(h3:Snb S3 0)(h4:Snb S4 0)(h5:Snb S5 0)(h6:Snb S6 0):Snb (K9 S1 S2 S3 S4 S5 S6) 1:=by
 refine ⟨fun {P k h v n} d r hn=>?_,fun {k h v n} r hn=>?_⟩
 ·obtain ⟨n,rfl⟩:∃q,n=q+1:=⟨n - 1,by omega⟩
  obtain ⟨a,b,c,d2,e,f,rfl,r1,r2,r3,r4,r5,r6⟩:=r
  obtain ⟨a',e1,q1⟩:=h1.snap (n:=n) d r1 (by omega)
  obtain ⟨b',e2,q2⟩:=h2.snap (n:=n) d r2 (by omega)
  obtain ⟨c',e3,q3⟩:=h3.snap (n:=n) d r3 (by omega)
  obtain ⟨d',e4,q4⟩:=h4.snap (n:=n) d r4 (by omega)
  obtain ⟨e',e5,q5⟩:=h5.snap (n:=n) d r5 (by omega)
  obtain ⟨f',e6,q6⟩:=h6.snap (n:=n) d r6 (by omega)
  exact ⟨.agg [a',b',c',d',e',f'],by simp only[Hx.snap,aD,e1,e2,e3,e4,e5,e6],a',b',c',d',e',f',rfl,q1,q2,q3,q4,q5,q6⟩
 ·obtain ⟨n,rfl⟩:∃q,n=q+1:=⟨n - 1,by omega⟩
  obtain ⟨a,b,c,d2,e,f,rfl,r1,r2,r3,r4,r5,r6⟩:=r
  obtain ⟨m1,e1,l1⟩:=h1.tag (n:=n) r1 (by omega)
  obtain ⟨m2,e2,l2⟩:=h2.tag (n:=n) r2 (by omega)
  obtain ⟨m3,e3,l3⟩:=h3.tag (n:=n) r3 (by omega)
  obtain ⟨m4,e4,l4⟩:=h4.tag (n:=n) r4 (by omega)
  obtain ⟨m5,e5,l5⟩:=h5.tag (n:=n) r5 (by omega)
  obtain ⟨m6,e6,l6⟩:=h6.tag (n:=n) r6 (by omega)
  refine ⟨Nat.max m1 (Nat.max m2 (Nat.max m3 (Nat.max m4 (Nat.max m5 (Nat.max m6 0))))),by simp only[d6,fL,e1,e2,e3,e4,e5,e6],?_⟩
  show max m1 (max m2 (max m3 (max m4 (max m5 (max m6 0)))))<=k
  omega
def Lc (n:Net)(E O:List Int):VS:=fun P k h v=>∃x:List Int×List Int,(S.aD n x.1=true/\S.aq x.2 (n.nodes.length:Int)=true)/\K9 (One x.1) (ET x.2) (ET (E.take 10)) (ET x.2) (One x.1) (ET (O.take 10)) P k h v
theorem zu {w:AV}{l:List Int}(hw:SlR NoP 0 .nil l w)(hr:Raw w)(c:Nat) :
  ∃w',(∀g,nL 1 w none (some (.int .i64 (min (l.length:Int) (c:Int)))) g=.val w')/\SlR NoP 0 .nil (l.take c) w'/\Sl1 w':=by
 have hm:min (l.length:Int) (c:Int)=((min l.length c:Nat):Int):=by omega
 have h1:Sl1 w:=by
  rcases hr with rfl | ⟨rows,rfl⟩
  ·intro _ _ _ e;cases e
  ·intro _ _ _ e;injection e with _ e;exact e.symm
 obtain ⟨w',q1,q2⟩:=If hw h1 (c:=min l.length c) (by omega)
 rw[hm]
 have ht:l.take (min l.length c)=l.take c:=by rw[Nat.min_comm,<-List.take_take,List.take_length]
 refine ⟨w',q1,ht ▸ q2,?_⟩
 have q0:=q1 G.empty
 rcases hr with rfl | ⟨rows,rfl⟩
 ·have hl:l=[]:=hw.2
  subst hl
  have:w'=.nils:=by
   have:nL 1 .nils none (some (.int .i64 ((min ([]:List Int).length c:Nat):Int))) G.empty=.val .nils:=by rw[show min ([]:List Int).length c=0 by simp];rfl
   rw[this] at q0;injection q0 with q0;exact q0.symm
  subst this
  intro _ _ _ e;cases e
 ·intro t s rs e
  subst e
  simp only[nL,jF] at q0
  revert q0
  split
  ·intro h;cases h
  ·split
   ·intro h;cases h
   ·rw[show Nat.beq 1 1=true from rfl,bif'_true]
    intro h
    injection h with h
    injection h with _ h
    exact h.symm
theorem De {d:Nat}{g:G}{n:Net}{vs:List UInt8}{s:UInt8}{E O:List Int}{ew ow:AV}{cn:List AV}(hd:0<d)(hv:vs.length=9)(hE:SlR NoP 0 .nil E ew)(hEr:Raw ew)(hO:SlR NoP 0 .nil O ow)(hOr:Raw ow)(hcn:Rp.rp NoP 0 .nil n cn)(hdr:Drafted n) :
  ∃r,au C0 d N.bm [.agg (vs.map u8v++[u8v s,ew,ow]),.agg cn] g=.val r/\Lc n E O NoP 0 .nil r:=by
 have e2:=jy d (jf (P:=NoP) hcn g.h)
 obtain ⟨b,rfl,hN⟩:=ck.1 hcn
 obtain ⟨AA,hAA⟩:∃AA,AA=vs.map u8v++[u8v s,ew,ow]:=⟨_,rfl⟩
 have q1:=qN (h:=g.h) d (hE.tree (h':=g.h) (Nat.le_refl 0))
 have q2:=qN (h:=g.h) d (hO.tree (h':=g.h) (Nat.le_refl 0))
 have e1:Hx.snap g.h d aE (.agg AA)=some (.agg AA):=by
  rw[hAA]
  match vs,hv with
  | [v0,v1,v2,v3,v4,v5,v6,v7,v8],_ =>
   have q1:Hx.snap g.h d 23 ew=some ew:=by
    rcases hEr with rfl | ⟨rows,rfl⟩<;>rfl
   have q2:Hx.snap g.h d 23 ow=some ow:=by
    rcases hOr with rfl | ⟨rows,rfl⟩<;>rfl
   show (match aD (Hx.snap g.h d 23) [u8v v0,u8v v1,u8v v2,u8v v3,u8v v4,u8v v5,u8v v6,u8v v7,u8v v8,u8v s,ew,ow] with | some xs=>some (AV.agg xs) | none=>none)=_
   simp only[aD,q1,q2]
   rfl
 have hl12:AA.length=12:=by rw[hAA];simp[hv]
 have ldA:cw (.cells 12 [AA] 0 false false) 0 0 true 9 0=.val (.agg (vs.map u8v)):=by
  rw[hAA]
  match vs,hv with
  | [v0,v1,v2,v3,v4,v5,v6,v7,v8],_=>rfl
 have ldS:cw (.cells 12 [AA] 0 false false) 0 0 false 1 9=.val (u8v s):=by
  rw[hAA]
  match vs,hv with
  | [v0,v1,v2,v3,v4,v5,v6,v7,v8],_=>rfl
 have ldE:cw (.cells 12 [AA] 0 false false) 0 0 false 1 10=.val ew:=by
  rw[hAA]
  match vs,hv with
  | [v0,v1,v2,v3,v4,v5,v6,v7,v8],_=>rcases hEr with rfl | ⟨rows,rfl⟩<;>rfl
 have ldO:cw (.cells 12 [AA] 0 false false) 0 0 false 1 11=.val ow:=by
  rw[hAA]
  match vs,hv with
  | [v0,v1,v2,v3,v4,v5,v6,v7,v8],_=>rcases hOr with rfl | ⟨rows,rfl⟩<;>rfl
 have lE:=hE.len
 have lO:=hO.len
 have lN:=(hN.tree (h':=.nil) (Nat.le_refl 0)).len
 have hn5:=hdr.l
 have hcard:∀x∈n.nodes,0<x.card:=fun x hx=>by rcases hdr.c x hx with h | h<;>omega
 obtain ⟨w1,hw1,hw2,hw3⟩:=zu hE hEr 10
 obtain ⟨w2,hw4,hw5,hw6⟩:=zu hO hOr 10
 have hw1':∀g,nL 1 ew none (some (.int .i64 (min (E.length:Int) 10))) g=.val w1:=hw1
 have hw4':∀g,nL 1 ow none (some (.int .i64 (min (O.length:Int) 10))) g=.val w2:=hw4
 rw[pS,<-hAA]
 refine bp sO (xs:=[.agg AA,.agg [.int .i64 n.grain,b]]) (by simp only[aD,e1,e2]) (by simp[iB]) (mb fun o=>Gp (bi _) (qi _) (qi _) (qi _) (bi _) (qi _)) (by decide) hd ?_
 simp only[sz,simprocAttr,iB]
 obtain ⟨g0,hg0⟩:∃g0,g0=((G.empty.new (AObj.cells AA.length [AA] 0 false false)).new (AObj.cells 2 [[.int .i64 n.grain,b]] 0 false false)).new (.cells 6 [[.nils,.nils,.nils,.nils,.nils,.nils]] 0 false false):=⟨_,rfl⟩
 rw[<-hg0]
 have f0:g0.h.get 0=.cells 12 [AA] 0 false false:=by rw[hg0,hl12];simp[sx,H.get_put]
 have f1:g0.h.get 1=.cells 2 [[.int .i64 n.grain,b]] 0 false false:=by rw[hg0];simp[sx,H.get_put]
 have f2:g0.h.get 2=.cells 6 [[.nils,.nils,.nils,.nils,.nils,.nils]] 0 false false:=by rw[hg0];simp[sx]
 clear hg0
 unfold jO
 simp only[sz,simprocAttr,f0,f1,ldA]
 refine bo (HZ (m:=n) (Nat.succ_pos d) hv (jf (P:=NoP) hcn _) (by omega) hcard) ?_
 rintro z ⟨ev,hev,hz⟩
 have hz:SlR NoP 0 .nil ev z:=IT.sl (k:=0) hz .nil
 simp only[sz,simprocAttr,f0,f1,ldS,lN]
 refine bo (HD (m:=n.nodes.length) (Nat.succ_pos d) (by omega)) ?_
 rintro y ⟨vars,hvp,hy1,hy2⟩
 have fw2:∀{p q:AV},(p.cells=[p]/\p.isTup=false)->(q.cells=[q]/\q.isTup=false)->eo [.nils,.nils] [((0,1),p),((1,1),q)]=some [p,q]:=fun hp hq=>by
  simp[eo,hp,hq,gR]
  rfl
 have fw6:∀{a b c d e f:AV},eo [.nils,.nils,.nils,.nils,.nils,.nils] [((0,2),.agg [a,b]),((2,2),.agg [c,d]),((4,2),.agg [e,f])]=some [a,b,c,d,e,f]:=fun {a b c d e f}=>rfl
 simp only[sz,simprocAttr,sf,f0,f1,f2,ldE,ldO,lE,lO,List.head?_nil,List.head?_cons,hw1',hw4',fw2 hz.cell hy1.cell,fw2 hw2.cell hy1.cell,fw2 hz.cell hw5.cell,fw6]
 refine ⟨?_,?_⟩
 ·simp only[List.reverse_cons,List.reverse_nil,List.nil_append,List.cons_append]
  exact aJ [false,false,false,false,false,false,false,false,false,false,false,false,false,false,false,false,false,false,false,false,false,false,true] [] (by simp[All2,am,aB]) (by decide) (by simp)
 have wd:∀{l:List Int} {v:AV} (h:H),SlR NoP 0 .nil l v->SlR NoP 0 h l v:=fun h r=>r.tree (Nat.le_refl 0)
 exact ⟨NoP,(ev,vars),⟨hev,hvp⟩,_,_,_,_,_,_,rfl,⟨_,rfl,wd _ hz⟩,⟨wd _ hy1,hy2⟩,⟨wd _ hw2,hw3⟩,⟨wd _ hy1,hy2⟩,⟨_,rfl,wd _ hz⟩,⟨wd _ hw5,hw6⟩⟩
theorem Kz {a b:AV}(j:Nat)(hj:j<2):ixV false 2 1 (.agg [a,b]) (.int .i64 (j:Int))=.val (if j=0 then a else b):=by
 have:j=0\/j=1:=by omega
 rcases this with rfl | rfl<;>rfl
theorem xa0 (id:Nat):HM 2 1 (.hptr id 0 0 0) (.int .i64 0)=.val (.hptr id 0 0 0):=rfl
theorem xa1 (id:Nat):HM 2 1 (.hptr id 0 0 0) (.int .i64 1)=.val (.hptr id 0 0 1):=rfl
theorem Jx (a b:AV):cw (.cells 2 [[a,b]] 0 false false) 0 0 false 1 0=.val a:=rfl
theorem Fg (a b:AV):cw (.cells 2 [[a,b]] 0 false false) 0 0 false 1 1=.val b:=rfl
theorem Gr (a b:AV):cw (.cells 2 [[a,b]] 0 false false) 0 0 true 2 0=.val (.agg [a,b]):=rfl
def LO (lw ow nets ask:AV)(i j:Nat):List (Nat×AV):=[(3,lw),(4,ow),(5,.hptr 0 0 0 0),(7,.hptr 2 0 0 0),(28,nets),(29,.int .i64 (i:Int)),(35,ask),(36,.int .i64 (j:Int))]
def LBo (p12 p14:Nat)(R:List (Nat×AV)):List (Nat×AV):=(12,.hptr p12 0 0 0)::(14,.hptr p14 0 0 0)::R
theorem KX {p12 p14 i0 j0 k1 k2:Nat}{P1 P2 P3 P4:Nat->Prop}{n:Net}{e vars l1 l2:List Int}{b ew vw o1 o2 lw ow nets ask:AV}{Q:QT}{t:T}{g:G}(hm:∀h,Agg n NoP 0 h (.agg [.int .i64 n.grain,b]))(he:SlR P1 0 g.h e ew)(hv:SlR P2 0 g.h vars vw)(hv1:Sl1 vw)(h1:SlR P3 k1 g.h l1 o1)(h2:SlR P4 k2 g.h l2 o2)
  (g12:g.h.get p12=.cells 2 [[.int .i64 n.grain,b]] 0 false false) (g14:g.h.get p14=.cells 2 [[ew,vw]] 0 false false)
  (ht:St t ((95,.agg [o1,o2])::LBo p12 p14 (LO lw ow nets ask i0 j0))) (h96:tat t 96=.int .i64 0)
  (fin:∀t,St t (LBo p12 p14 (LO lw ow nets ask i0 j0))->Q (.exit 6) t [] g):wpL (wp C0 1 none da) Q t [] g:=by
 simp only[da,fX]
 refine qw (m:=2) rfl (by omega) (fun j t df g'=>df=[]/\g'=g/\St t ((95,.agg [o1,o2])::LBo p12 p14 (LO lw ow nets ask i0 j0))) ⟨rfl,rfl,ht⟩ h96 (by decide) ?_ ?_ ?_
 ·rintro j t df g v s (rfl | rfl | rfl) ⟨a1,a2,⟨b1,b2,b3,b4,b5,b6,b7,b8,b9,b10,b11,-⟩⟩<;>exact ⟨a1,a2,by simp[St,LBo,LO,sx,b1,b2,b3,b4,b5,b6,b7,b8,b9,b10,b11]⟩
 ·rintro j t df g' hj ⟨rfl,rfl,⟨h95,h12,h14,h3,h4,h5,h7,h28,h29,h35,h36,-⟩⟩ h96
  obtain ⟨l,o,P,k,hl,ho⟩:∃(l:List Int) (o:AV) (P:Nat->Prop) (k:Nat),SlR P k g'.h l o/\(if j=0 then o1 else o2)=o:=by
   by_cases c:j=0
   ·exact ⟨l1,o1,P3,k1,h1,if_pos c⟩
   ·exact ⟨l2,o2,P4,k2,h2,if_neg c⟩
  have kb:=Fl (d:=1) (g:=g') (by decide) (hm g'.h) he hv (by omega) hl
  have ke:=Jn (d:=1) (g:=g') (by decide) (hm g'.h) he hv
  by_cases c:S.aF n e vars=0
  ·obtain ⟨⟨hr,hev⟩,hpl⟩:=BM.1 c
   have kg:=I5 (d:=1) (g:=g') (by decide) (hm g'.h) hv hv1 hl hr hpl
   by_cases c2:S.aR n vars l=true
   ·have hbl:l.length<=vars.length:=by
     rw[S.aR,Bool.and_eq_true] at c2;exact of_decide_eq_true c2.1
    have kr:=EZ (d:=1) (g:=g') (by decide) (hm g'.h) he hv hl hr (AM hev).1 hpl hbl
    have hE:S.aN n e vars l=0:=by rw[S.aN,if_pos c,if_pos c2]
    have hV:S.aT n e vars l=S.bE n e vars (S.am n vars) l:=by rw[S.aT,if_pos hE,IF hr]
    rw[hE,hV] at kb
    rw[c] at ke
    rw[c2] at kg
    simp only[sz,simprocAttr,h95,h96,Kz j hj,ho,h12,h14,g12,g14,xa0,xa1,Jx,Fg,Gr,kb,ke,kg]
    simp only[sz,simprocAttr,bT,bQ,h95,h96,h12,h14,g12,g14,xa0,xa1,Jx,Fg,Gr,kr]
    simp[St,LBo,LO,sx,h95,h12,h14,h3,h4,h5,h7,h28,h29,h35,h36,h96]
   ·have hE:S.aN n e vars l=2:=by rw[S.aN,if_pos c,if_neg c2]
    have hV:S.aT n e vars l=0:=by rw[S.aT,hE];rfl
    rw[Bool.not_eq_true] at c2
    rw[hE,hV] at kb
    rw[c] at ke
    rw[c2] at kg
    simp only[sz,simprocAttr,h95,h96,Kz j hj,ho,h12,h14,g12,g14,xa0,xa1,Jx,Fg,Gr,kb,ke,kg]
    simp only[sz,simprocAttr,bT,bQ]
    simp[St,LBo,LO,sx,h95,h12,h14,h3,h4,h5,h7,h28,h29,h35,h36,h96]
  ·have hE:S.aN n e vars l=S.aF n e vars:=by rw[S.aN,if_neg c]
   have hV:S.aT n e vars l=0:=by rw[S.aT,hE,if_neg c]
   rw[hE,hV] at kb
   simp only[sz,simprocAttr,h95,h96,Kz j hj,ho,h12,h14,g12,g14,xa0,xa1,Jx,Fg,Gr,kb,ke,c]
   simp only[sz,simprocAttr,bT,bQ,c]
   simp[St,LBo,LO,sx,h95,h12,h14,h3,h4,h5,h7,h28,h29,h35,h36,h96]
 ·rintro t df g' ⟨rfl,rfl,-,ht⟩
  exact fin t ht
def LBe (p12 p14 p15:Nat)(R:List (Nat×AV)):List (Nat×AV):=(15,.hptr p15 0 0 0)::LBo p12 p14 R
theorem K2 {p12 p14 p15 B i0 j0:Nat}{n:Net}{vars:List Int}{us:List UInt8}{b vw lw ow nets ask od:AV}{P:Nat->Prop}{Q:QT}{t:T}{g:G}(hN:SlR NoP 0 .nil n.nodes b)(hus:SlR NoP 0 .nil us lw)(hv:SlR NoP 0 .nil vars vw)(hvl:vars.length<=10)
  (g12:g.h.get p12=.cells 2 [[.int .i64 n.grain,b]] 0 false false) (g15:g.h.get p15=.cells 2 [[od,.nils]] 0 false false) (b12:p12<B) (b15:p15<B) (hne:p12≠p15) (hB:B<=g.nx)
  (ht:St t ((46,vw)::LBe p12 p14 p15 (LO lw ow nets ask i0 j0))) (h48:tat t 48=.int .i64 0) (h47:tat t 47=.int .i64 (vars.length:Int))
  (fin:∀t g' (bl:List Int) (u:AV),St t (LBe p12 p14 p15 (LO lw ow nets ask i0 j0))->g'.h.get p15=.cells 2 [[od,u]] 0 false false->Own g' B u 1 (bl.map ci)->bl.length<=10->(∀i,i<B->i≠p15->g'.h.get i=g.h.get i)->B<=g'.nx->Q (.exit 4) t [] g'):wpL (wp C0 1 none bS) Q t [] g:=by
 have rv:=fun h=>(hv.tree (h':=h) (Nat.le_refl _)).ints
 have lU:=(hus.tree (h':=.nil) (Nat.le_refl 0)).len
 have lN:=(hN.tree (h':=.nil) (Nat.le_refl 0)).len
 obtain ⟨ur,ur1,ur2,ur3,ur4⟩:=hus.all
 have ur1:∀h',af h' 1 lw=some ur:=ur1
 simp only[bS,fP]
 refine aX (m:=vars.length) (by omega) (fun j t df g'=>df=[]/\St t ((46,vw)::LBe p12 p14 p15 (LO lw ow nets ask i0 j0))/\(∀i,i<B->i≠p15->g'.h.get i=g.h.get i)/\B<=g'.nx/\∃(bl:List Int) (u:AV),g'.h.get p15=.cells 2 [[od,u]] 0 false false/\Own g' B u 1 (bl.map ci)/\bl.length<=j) ⟨rfl,ht,fun _ _ _=>rfl,hB,[],.nils,g15,.inl ⟨rfl,rfl⟩,by simp⟩ h48 h47 (by decide) ?_ ?_ ?_
 ·rintro j t df g v s (rfl | rfl | rfl) ⟨a1,⟨b1,b2,b3,b4,b5,b6,b7,b8,b9,b10,b11,b12,-⟩,c⟩<;>exact ⟨a1,by simp[St,LBe,LBo,LO,sx,b1,b2,b3,b4,b5,b6,b7,b8,b9,b10,b11,b12],c⟩
 ·rintro j t df g1 hj ⟨rfl,⟨h46,h15,h12,h14,h3,h4,h5,h7,h28,h29,h35,h36,-⟩,hf,hn,bl,u,g15,ho,hbl⟩ h48 h47
  have g12':g1.h.get p12=.cells 2 [[.int .i64 n.grain,b]] 0 false false:=by rw[hf _ b12 hne,g12]
  obtain ⟨x,hx,-,-⟩:=ae hj
  have z1:j<(vars.map ci).length:=by simpa using hj
  have z2:(vars.map ci)[j]?=some (ci x):=by rw[List.getElem?_map,hx];rfl
  by_cases c1:j<us.length
  ·have c1':(j:Int)<(us.length:Int):=by omega
   by_cases c2:(0:Int)<=x
   ·by_cases c3:x<(n.nodes.length:Int)
    ·obtain ⟨pn,y,rows,pa,ra,rfl,hy,r1,r2,r3,r4,hym,r5⟩:=vN hN c2 c3
     by_cases c4:(0:Int)<y.card
     ·obtain ⟨q,hq,-,-⟩:=ae (l:=us) (j:=j) c1
      obtain ⟨row,ur5,ur6⟩:=ur3 j q hq
      have ur6:=dj.1 ur6
      subst ur6
      have u1:j<ur.length:=by omega
      have hq8:q.toNat<256:=q.toNat_lt
      have w1:IntKind.wrap .i64 (q.toNat:Int)=(q.toNat:Int):=aF (by omega) (by omega)
      have w2:cN .rem (.int .i64 (q.toNat:Int)) (.int .i64 y.card)=.val (.int .i64 ((q.toNat:Int) % y.card)):=GN (by omega) (by omega) c4
      simp only[sz,simprocAttr,h46,h48,rv,z1,z2,ci,h3,lU,c1',h12,g12',lN,c2,c3,r1,r2,r3,r4,c4]
      simp only[sz,simprocAttr,sf,h15,xa1,g15,Fg,h3,ur1,u1,ur5,w1,h12,g12',r1,r2,r3,r4,w2]
      refine lV (ho.fr (g':=_) (by simp<;>omega) (fun i hi=>?_)) (new:=[[.int .i64 ((q.toNat:Int) % y.card)]]) ?_ (by simp<;>omega) (by simp[aO]<;>omega) fun v5 g5 o5 n5 f5 w5 l5=>?_
      ·have:=ho.lt hi
       simp[H.get_put];omega
      ·simp[af,H.get_put];rfl
      have lu:=fun i (h:vid u=some i)=>ho.lt h
      simp only[sx,sy] at n5 f5 l5
      have n5':g1.nx<g5.nx:=by omega
      have f6:∀i,i<B->g5.h.get i=g1.h.get i:=fun i hi=>by
       rw[f5 i (by omega) fun h=>by have:=lu i h;omega]
       simp;omega
      obtain ⟨vc,vt⟩:=o5.cell
      simp only[sz,simprocAttr,sf,f6 p15 b15,g15,xa1,h15,vc,vt]
      refine ⟨?_,?_⟩
      ·simp only[List.reverse_cons,List.reverse_nil,List.nil_append,List.cons_append]
       refine aJ [false,false,false,false,false,false,false,false,false,false,false,false,false,false,true,true,false,true] [(0,14),(1,14)] (by simp[All2,am,aB]) (by decide) ?_
       rintro p hp x y hx hy
       simp only[List.mem_cons,List.not_mem_nil,or_false] at hp
       rcases hp with rfl | rfl<;>(simp at hx hy;subst hx;subst hy;refine dX rfl rfl rfl rfl ?_ ?_ ?_<;>simp[am,aB,qd]<;>omega)
      have o6:Own g5 B v5 1 ((bl++[(q.toNat:Int) % y.card]).map ci):=by rw[List.map_append];exact o5
      refine ⟨⟨by simp[St,LBe,LBo,LO,sx,h46,h15,h12,h14,h3,h4,h5,h7,h28,h29,h35,h36],fun i h1 h2=>by simp[h2,f6 i h1,hf i h1 h2],by first | omega | (simp<;>omega),bl++[(q.toNat:Int) % y.card],v5,by simp,o6.fr (by simp<;>omega) fun i hi=>?_,by simp;omega⟩,by simp[sx,h48],by simp[sx,h47]⟩
      have hx2:=(o5.lt hi).1
      have:i≠p15:=by omega
      simp
      rw[ap _ _ _ this]
     ·simp only[sz,simprocAttr,h46,h48,rv,z1,z2,ci,h3,lU,c1',h12,g12',lN,c2,c3,r1,r2,r3,r4,c4]
      exact ⟨⟨by simp[St,LBe,LBo,LO,sx,h46,h15,h12,h14,h3,h4,h5,h7,h28,h29,h35,h36],hf,hn,bl,u,g15,ho,by omega⟩,h47⟩
    ·simp only[sz,simprocAttr,h46,h48,rv,z1,z2,ci,h3,lU,c1',h12,g12',lN,c2,c3]
     exact ⟨⟨by simp[St,LBe,LBo,LO,sx,h46,h15,h12,h14,h3,h4,h5,h7,h28,h29,h35,h36],hf,hn,bl,u,g15,ho,by omega⟩,h47⟩
   ·simp only[sz,simprocAttr,h46,h48,rv,z1,z2,ci,h3,lU,c1',c2]
    exact ⟨⟨by simp[St,LBe,LBo,LO,sx,h46,h15,h12,h14,h3,h4,h5,h7,h28,h29,h35,h36],hf,hn,bl,u,g15,ho,by omega⟩,h47⟩
  ·have c1':¬(j:Int)<(us.length:Int):=by omega
   simp only[sz,simprocAttr,h46,h48,rv,z1,z2,ci,h3,lU,c1']
   exact ⟨⟨by simp[St,LBe,LBo,LO,sx,h46,h15,h12,h14,h3,h4,h5,h7,h28,h29,h35,h36],hf,hn,bl,u,g15,ho,by omega⟩,h47⟩
 ·rintro t df g' ⟨rfl,⟨-,ht⟩,hf,hn,bl,u,g15,ho,hbl⟩
  exact fin t g' bl u ht g15 ho (by omega) hf hn
theorem CE (g:G):au C0 1 N.bE [] g=.val (.bool true):=by kernel_rfl
theorem Li {a b c d e f:AV}(j:Nat)(hj:j<3):ixV true 3 2 (.agg [a,b,c,d,e,f]) (.int .i64 (j:Int))=.val (.agg [if j=0 then a else if j=1 then c else e,if j=0 then b else if j=1 then d else f]):=by
 have:j=0\/j=1\/j=2:=by omega
 rcases this with rfl | rfl | rfl<;>rfl
theorem KW {p12 i0:Nat}{n:Net}{Od:List Int}{e1 v1 e2 v2 e3 v3:List Int}{us:List UInt8}{b a1 a2 a3 a4 a5 a6 lw ow nets:AV}{Q:QT}{t:T}{g:G}(hm:∀h,Agg n NoP 0 h (.agg [.int .i64 n.grain,b]))(hus:SlR NoP 0 .nil us lw)(hO:SlR NoP 0 .nil Od ow)(hOr:Raw ow)
  (q1:SlR NoP 0 .nil e1 a1) (q2:SlR NoP 0 .nil v1 a2/\Sl1 a2) (q3:SlR NoP 0 .nil e2 a3) (q4:SlR NoP 0 .nil v2 a4/\Sl1 a4) (q5:SlR NoP 0 .nil e3 a5) (q6:SlR NoP 0 .nil v3 a6/\Sl1 a6) (l1:v1.length<=10) (l2:v2.length<=10) (l3:v3.length<=10)
  (g12:g.h.get p12=.cells 2 [[.int .i64 n.grain,b]] 0 false false) (b12:p12<g.nx)
  (ht:St t ((12,.hptr p12 0 0 0)::LO lw ow nets (.agg [a1,a2,a3,a4,a5,a6]) i0 0))
  (fin:∀t g',St t [(3,lw),(4,ow),(5,.hptr 0 0 0 0),(7,.hptr 2 0 0 0),(28,nets),(29,.int .i64 (i0:Int))]->g.nx<=g'.nx->(∀i,i<g.nx->g'.h.get i=g.h.get i)->Q (.exit 2) t [] g'):wpL (wp C0 1 none c_) Q t [] g:=by
 obtain ⟨w2,hw4,hw5,hw6⟩:=zu hO hOr 10
 have hw4':∀g,nL 1 ow none (some (.int .i64 (min (Od.length:Int) 10))) g=.val w2:=hw4
 have lOd:=hO.len
 obtain ⟨h12,h3,h4,h5,h7,h28,h29,h35,h36,-⟩:=ht
 simp only[c_,fT]
 refine qw (m:=3) rfl (by omega) (fun j t df g'=>df=[]/\St t [(12,.hptr p12 0 0 0),(3,lw),(4,ow),(5,.hptr 0 0 0 0),(7,.hptr 2 0 0 0),(28,nets),(29,.int .i64 (i0:Int)),(35,.agg [a1,a2,a3,a4,a5,a6])]/\g.nx<=g'.nx/\(∀i,i<g.nx->g'.h.get i=g.h.get i)) ⟨rfl,by simp[St,h12,h3,h4,h5,h7,h28,h29,h35],Nat.le_refl _,fun _ _=>rfl⟩ h36 (by decide) ?_ ?_ ?_
 ·rintro j t df g v s (rfl | rfl | rfl) ⟨a1,⟨b1,b2,b3,b4,b5,b6,b7,b8,-⟩,c⟩<;>exact ⟨a1,by simp[St,sx,b1,b2,b3,b4,b5,b6,b7,b8],c⟩
 ·clear h12 h3 h4 h5 h7 h28 h29 h35 h36
  rintro j t df g1 hj ⟨rfl,⟨h12,h3,h4,h5,h7,h28,h29,h35,-⟩,hn,hf⟩ h36
  obtain ⟨ev,ew,vars,vw,he,hv,hv1,hvl,hea,hva⟩:∃(ev:List Int) (ew:AV) (vars:List Int) (vw:AV),SlR NoP 0 .nil ev ew/\SlR NoP 0 .nil vars vw/\Sl1 vw/\vars.length<=10/\(if j=0 then a1 else if j=1 then a3 else a5)=ew/\(if j=0 then a2 else if j=1 then a4 else a6)=vw:=by
   have:j=0\/j=1\/j=2:=by omega
   rcases this with rfl | rfl | rfl
   ·exact ⟨e1,a1,v1,a2,q1,q2.1,q2.2,l1,rfl,rfl⟩
   ·exact ⟨e2,a3,v2,a4,q3,q4.1,q4.2,l2,rfl,rfl⟩
   ·exact ⟨e3,a5,v3,a6,q5,q6.1,q6.2,l3,rfl,rfl⟩
  have g12':g1.h.get p12=.cells 2 [[.int .i64 n.grain,b]] 0 false false:=by rw[hf _ b12,g12]
  have fw:eo [.nils,.nils] [((0,1),w2),((1,1),.nils)]=some [w2,.nils]:=by
   simp[eo,hw5.cell,gR]
   rfl
  have lv:=hv.len
  simp only[sz,simprocAttr,h35,h36,Li j hj,hea,hva]
  simp only[sz,simprocAttr,h4,lOd,List.head?_nil,List.head?_cons,hw4',fw]
  simp only[sz,simprocAttr,xa1,show ¬g1.nx=g1.nx+1 by omega,Fg,lv]
  have k14:∀g2:G,g2.nx=g1.nx+2->g2.h.get g1.nx=.cells 2 [[ew,vw]] 0 false false->g2.h.get (g1.nx+1)=.cells 2 [[w2,.nils]] 0 false false->(∀i,i<g1.nx->g2.h.get i=g1.h.get i)->∀t',St t' ((46,vw)::LBe p12 g1.nx (g1.nx+1) (LO lw ow nets (.agg [a1,a2,a3,a4,a5,a6]) i0 j))->tat t' 48=.int .i64 0->tat t' 47=.int .i64 (vars.length:Int) ->
    wpL (wp C0 1 none bS) (kB 4 (kS (wp C0 1 none cZ (kR (fun t df g_1=>(df=[]/\St t [(12,.hptr p12 0 0 0),(3,lw),(4,ow),(5,.hptr 0 0 0 0),(7,.hptr 2 0 0 0),(28,nets),(29,.int .i64 (i0:Int)),(35,.agg [a1,a2,a3,a4,a5,a6])]/\g.nx<=g_1.nx/\∀i,i<g.nx->g_1.h.get i=g.h.get i)/\tat t 36=.int .i64 (j:Int)) 3 Q)) (kR (fun t df g_1=>(df=[]/\St t [(12,.hptr p12 0 0 0),(3,lw),(4,ow),(5,.hptr 0 0 0 0),(7,.hptr 2 0 0 0),(28,nets),(29,.int .i64 (i0:Int)),(35,.agg [a1,a2,a3,a4,a5,a6])]/\g.nx<=g_1.nx/\∀i,i<g.nx->g_1.h.get i=g.h.get i)/\tat t 36=.int .i64 (j:Int)) 3 Q))) t' [] g2:=by
   intro g2 n2 m14 m15 mf t' ht' h48 h47
   obtain ⟨rows0,hN0⟩:∃x,x=b:=⟨_,rfl⟩
   obtain ⟨cs,hcs,hrp⟩:=hm .nil
   injection hcs with hcs
   subst hcs
   obtain ⟨b',hb',hN⟩:=ck.1 hrp
   injection hb' with _ hb'
   injection hb' with hb'
   subst hb'
   refine K2 (B:=g1.nx+2) (P:=NoP) hN hus hv hvl (by rw[mf _ (by omega),g12']) m15 (by omega) (by omega) (by omega) (by omega) ht' h48 h47 ?_
   intro t6 g6 bl u ht6 g15 hO6 hbl hf6 hn6
   have s12:g6.h.get p12=.cells 2 [[.int .i64 n.grain,b]] 0 false false:=by rw[hf6 _ (by omega) (by omega),mf _ (by omega),g12']
   have s14:g6.h.get g1.nx=.cells 2 [[ew,vw]] 0 false false:=by rw[hf6 _ (by omega) (by omega),m14]
   have wd:∀{l:List Int} {v:AV} (h:H),SlR NoP 0 .nil l v->SlR NoP 0 h l v:=fun h r=>r.tree (Nat.le_refl 0)
   have hbs:SlR (fun i=>vid u=some i) 0 g6.h bl u:=hO6.sl (α:=Int) (by omega) (All2.of_map (fun a=>aU.2 rfl) _) fun i hi=>hi
   obtain ⟨h15,h12,h14,h3,h4,h5,h7,h28,h29,h35,h36,-⟩:=ht6
   simp only[kB,sz,simprocAttr,cZ,h15,g15,Gr]
   refine KX (lw:=lw) (ow:=ow) (nets:=nets) (ask:=.agg [a1,a2,a3,a4,a5,a6]) (i0:=i0) (j0:=j) (n:=n) (e:=ev) (vars:=vars) (l1:=Od.take 10) (l2:=bl) hm (wd _ he) (wd _ hv) hv1 (wd _ hw5) hbs s12 s14 (by simp[St,LBo,LO,sx,h12,h14,h3,h4,h5,h7,h28,h29,h35,h36]) (by simp[sx]) ?_
   rintro t7 ⟨h12,h14,h3,h4,h5,h7,h28,h29,h35,h36,-⟩
   simp only[kB,sz,simprocAttr]
   refine ⟨⟨by simp[St,h12,h3,h4,h5,h7,h28,h29,h35],by omega,fun i hi=>?_⟩,h36⟩
   rw[hf6 i (by omega) (by omega),mf i (by omega),hf i hi]
  refine k14 _ ?_ ?_ ?_ ?_ _ ?_ ?_ ?_
  ·simp
  ·simp[H.get_put]
  ·simp[H.get_put]
  ·intro i hi
   simp[H.get_put,show ¬i=g1.nx by omega,show ¬i=g1.nx+1 by omega]
  ·simp[St,LBe,LBo,LO,sx,h12,h3,h4,h5,h7,h28,h29,h35,h36]
  ·simp[sx]
  ·simp[sx]
 ·rintro t df g' ⟨rfl,⟨h12,h3,h4,h5,h7,h28,h29,h35,-⟩,hn,hf⟩
  exact fin t g' ⟨h3,h4,h5,h7,h28,h29,trivial⟩ hn hf
theorem sT {x:sA}{y:jU}{u1 u2 lw ew ow dw:AV}{vs us:List UInt8}{s:UInt8}{E O D:List Int}(hx:Agg x NoP 0 .nil u1)(hy:Agg y NoP 0 .nil u2)
  (hv:vs.length=9) (hE:SlR NoP 0 .nil E ew) (hEr:Raw ew) (hO:SlR NoP 0 .nil O ow) (hOr:Raw ow) (hl:SlR NoP 0 .nil us lw) (hD:SlR NoP 0 .nil D dw) (hDr:Raw dw) :
  ∃g',(I C0).call 1 N.bD [u1,u2,.agg (vs.map u8v++[u8v s,ew,ow]),lw,dw] G.empty=.ok (.bool true) g':=by
 obtain ⟨xs,rfl,qx⟩:=hx
 obtain ⟨ys,rfl,qy⟩:=hy
 obtain ⟨a1',a2',e1,-⟩:=ut.1 qx
 have hxl:xs.length=3:=by rw[e1];rfl
 have hyl:ys.length=4:=by rw[wU.1 qy];rfl
 clear e1 a1' a2'
 obtain ⟨AA,hAA⟩:∃AA,AA=vs.map u8v++[u8v s,ew,ow]:=⟨_,rfl⟩
 have hAl:AA.length=12:=by rw[hAA];simp[hv]
 rw[<-hAA]
 have key:=qO (C:=C0) (d:=1) (f:=N.bD) («as»:=[.agg xs,.agg ys,.agg AA,lw,dw]) (g:=G.empty) (K:=fun v g'=>v=.bool true) ou (by simp[eg]) ?_
 ·cases hc:(I C0).call 1 N.bD [.agg xs,.agg ys,.agg AA,lw,dw] G.empty with
  | fail=>rw[hc] at key;exact key.elim
  | ok v g'=>rw[hc] at key;exact ⟨g',by rw[show v=.bool true from key]⟩
 simp only[sz,simprocAttr,eg,HL]
 obtain ⟨g0,hg0⟩:∃g0,g0=((G.empty.new (AObj.cells xs.length [xs] 0 false false)).new (AObj.cells ys.length [ys] 0 false false)).new (AObj.cells AA.length [AA] 0 false false):=⟨_,rfl⟩
 rw[<-hg0]
 have f0:g0.h.get 0=.cells 3 [xs] 0 false false:=by rw[hg0,hxl];simp[sx,H.get_put]
 have f1:g0.h.get 1=.cells 4 [ys] 0 false false:=by rw[hg0,hyl];simp[sx,H.get_put]
 have f2:g0.h.get 2=.cells 12 [AA] 0 false false:=by rw[hg0,hAl];simp[sx,H.get_put]
 have f4:g0.nx=3:=by rw[hg0];simp[sx]
 clear hg0
 have ld0:cw (.cells 3 [xs] 0 false false) 0 0 true 3 0=.val (.agg xs):=by
  match xs,hxl with
  | [a,b,c],_=>rfl
 have ld1:cw (.cells 4 [ys] 0 false false) 0 0 true 4 0=.val (.agg ys):=by
  match ys,hyl with
  | [a,b,c,d],_=>rfl
 have ld2:cw (.cells 12 [AA] 0 false false) 0 0 true 12 0=.val (.agg AA):=by
  match AA,hAl with
  | [a0,a1,a2,a3,a4,a5,a6,a7,a8,a9,a10,a11],_=>rfl
 simp only[sz,simprocAttr,gQ,CE,f0,f1,ld0,ld1]
 refine bo (Jr (by decide) qx qy) ?_
 rintro r ⟨⟨n,m⟩,hdr,cs,rfl,c1,c2,rfl,hn1,hn2⟩
 obtain ⟨b,rfl,hb1⟩:=ck.1 hn1
 obtain ⟨b2,rfl,hb2⟩:=ck.1 hn2
 have hM:∀h,Agg n NoP 0 h (.agg [.int .i64 n.grain,b]):=fun h=>jf hn1 h
 have hM2:∀h,Agg m NoP 0 h (.agg [.int .i64 m.grain,b2]):=fun h=>jf hn2 h
 simp only[sz,simprocAttr,List.cons_append,List.nil_append]
 obtain ⟨nets,hnets⟩:∃nets,nets=AV.agg [.int .i64 n.grain,b,.int .i64 m.grain,b2]:=⟨_,rfl⟩
 rw[<-hnets]
 simp only[fD,fW]
 refine qw (m:=2) rfl (by omega) (fun j t df g=>df=[]/\St t [(3,lw),(4,dw),(5,.hptr 0 0 0 0),(7,.hptr 2 0 0 0),(28,nets)]/\g0.nx<=g.nx/\∀i,i<g0.nx->g.h.get i=g0.h.get i) ⟨rfl,by simp[St,sx],Nat.le_refl _,fun _ _=>rfl⟩ (by simp[sx]) (by decide) ?_ ?_ ?_
 ·rintro j t df g v s (rfl | rfl | rfl) ⟨a1,⟨b1,b2,b3,b4,b5,-⟩,c⟩<;>exact ⟨a1,by simp[St,sx,b1,b2,b3,b4,b5],c⟩
 ·rintro j t df g1 hj ⟨rfl,⟨h3,h4,h5,h7,h28,-⟩,hn,hf⟩ h29
  obtain ⟨n1,bb,hm1,hix⟩:∃(n1:Net) (bb:AV),(∀h,Agg n1 NoP 0 h (.agg [.int .i64 n1.grain,bb]))/\ixV true 2 2 nets (.int .i64 (j:Int))=.val (.agg [.int .i64 n1.grain,bb]):=by
   rw[hnets]
   have:j=0\/j=1:=by omega
   rcases this with rfl | rfl
   ·exact ⟨n,b,hM,rfl⟩
   ·exact ⟨m,b2,hM2,rfl⟩
  have e0:g1.h.get 0=.cells 3 [xs] 0 false false:=by rw[hf 0 (by omega),f0]
  have e2:g1.h.get 2=.cells 12 [AA] 0 false false:=by rw[hf 2 (by omega),f2]
  simp only[sz,simprocAttr,h28,h29,hix,h7,show ¬2=g1.nx by omega,show ¬0=g1.nx by omega,e2,ld2,h5,e0,ld0]
  refine bo (EH (by decide) (jf (P:=NoP) qx _)) ?_
  rintro r ⟨n0,hd0,cn,rfl,hcn⟩
  simp only[sz,simprocAttr]
  rw[hAA]
  refine bo (De (n:=n0) (E:=E) (O:=O) (by decide) hv hE hEr hO hOr hcn hd0) ?_
  rintro r ⟨⟨ev,vars⟩,⟨hev,hvp⟩,a1,a2,a3,a4,a5,a6,rfl,q1,q2,q3,q4,q5,q6⟩
  have hn5:=hd0.l
  have hvl:vars.length<=10:=by have:(vars.length:Int)<=_:=cX hvp (by omega);omega
  simp only[sz,simprocAttr]
  have wd:∀{l:List Int} {v:AV} {h:H},SlR NoP 0 h l v->SlR NoP 0 .nil l v:=fun r=>r.tree (Nat.le_refl 0)
  obtain ⟨w1,hw1,q1⟩:=q1
  obtain ⟨w5,hw5,q5⟩:=q5
  injection hw1 with hw1
  injection hw5 with hw5
  subst hw1;subst hw5
  refine KW (p12:=g1.nx) (i0:=j) (n:=n1) (Od:=D) (b:=bb) (lw:=lw) (ow:=dw) (nets:=nets) (us:=us) (e1:=ev) (v1:=vars) (v2:=vars) (e3:=ev) hm1 hl hD hDr q1 q2 q3.1 q4 q5 q6 hvl hvl (by rw[List.length_take];omega) (by simp[H.get_put]) (by simp) (by simp[St,LO,sx,h3,h4,h5,h7,h28,h29]) ?_
  rintro t6 g6 ⟨h3,h4,h5,h7,h28,h29,-⟩ n6 f6
  simp only[sz,simprocAttr]
  refine ⟨⟨by simp[St,h3,h4,h5,h7,h28],?_,fun i hi=>?_⟩,h29⟩
  ·have:g1.nx<=g6.nx:=Nat.le_trans (by simp) n6
   omega
  ·rw[f6 i (by simp;omega)]
   simp[H.get_put,show ¬i=g1.nx by omega,hf i hi]
 ·rintro t df g1 ⟨rfl,-⟩
  simp only[sz,simprocAttr,fm]
end
end Hx
end
section
namespace Hx
open Go Go.RowKit Go.ChangeShapes Go.WideShapes
def sG (P:Program):List Field->Nat->Option Nat
 | [],k=>some k
 | f::fs,k=>if f.offset=k then sG P fs (k+P.cellsOf f.type) else none
def sM (P:Program):Nat->TypeId->Bool
 | 0,_=>false
 | n+1,t=>match P.underlying t with
  | some .bool=>true
  | some (.int _)=>true
  | some (.slice e)=>decide (0<P.cellsOf e)&&sM P n e
  | some (.struct fs)=>(sG P fs.toList 0 == some (P.cellsOf t))&&fs.toList.all (fun f=>sM P n f.type)
  | some (.array m e)=>decide (m*P.cellsOf e=P.cellsOf t)&&sM P n e
  | _=>false
def Sh (P:Program):Nat->TypeId->List AV->Prop
 | 0,_,_=>False
 | n+1,t,xs=>match P.underlying t with
  | some .bool=>∃b,xs=[.bool b]
  | some (.int k)=>∃z,xs=[.int k z]/\(Lit.int k z).wf=true
  | some (.slice e)=>xs=[.nils]\/∃rows,xs=[.tsl 0 (P.cellsOf e) rows]/\rows.length<9223372036854775808/\∀row∈rows,Sh P n e row
  | some (.struct fs)=>∃xss,xs=xss.flatten/\All2 (fun (f:Field) ys=>Sh P n f.type ys) fs.toList xss
  | some (.array m e)=>∃xss:List (List AV),xs=xss.flatten/\xss.length=m/\∀ys∈xss,Sh P n e ys
  | _=>False
def AB (P:Program)(w:World)(n:Nat)(t:TypeId)(xs:List AV)(cs:List Value):Prop :=
 RVs0 w xs cs/\(∀y∈xs,y.one=true/\Closed y)/\Sh P n t xs
theorem RVs0.append {w:World}{xs ys:List AV}{cs ds:List Value}(h:RVs0 w xs cs)(h':RVs0 w ys ds):RVs0 w (xs++ys) (cs++ds):=by
 refine ⟨by rw[List.length_append,List.length_append,h.1,h'.1],fun i x v hx hv=>?_⟩
 rcases Nat.lt_or_ge i xs.length with hi | hi
 ·rw[List.getElem?_append_left hi] at hx
  rw[List.getElem?_append_left (by rw[<-h.1];exact hi)] at hv
  exact h.2 i x v hx hv
 ·rw[List.getElem?_append_right hi] at hx
  rw[List.getElem?_append_right (by rw[<-h.1];exact hi),<-h.1] at hv
  exact h'.2 _ x v hx hv
theorem EG (b o n:Nat):(⟨b,o,none⟩:Addr).add n=adr b (o+n):=by
 unfold Addr.add
 split
 ·rename_i h;subst h;rfl
 ·rfl
variable {H:Type}{enc:TypeId×Value->H}{P:Program}{w:World}
theorem yH:∀{fl:List Field} {k K:Nat},sG P fl k=some K->k<=K
 | [],k,K,h=>by injection h with h;omega
 | f::fl,k,K,h=>by
  unfold sG at h
  split at h
  ·have:=yH h;omega
  ·cases h
theorem Gl {n:Nat}{cs:List Value}:∀{fl:List Field} {k K:Nat},sG P fl k=some K ->
  (∀f∈fl,∃xs,AB P w n f.type xs ((cs.drop f.offset).take (P.cellsOf f.type))) ->
  ∃xss,All2 (fun (f:Field) ys=>Sh P n f.type ys) fl xss/\RVs0 w xss.flatten ((cs.drop k).take (K - k))/\∀y∈xss.flatten,y.one=true/\Closed y
 | [],k,K,h,_=>by
  injection h with h;subst h
  exact ⟨[],trivial,by rw[Nat.sub_self,List.take_zero];exact ⟨rfl,fun i x v hx=>by simp at hx⟩,fun y hy=>by simp at hy⟩
 | f::fl,k,K,h,hg=>by
  unfold sG at h
  split at h
  ·rename_i ho
   subst ho
   obtain ⟨xs,h1,h2,h3⟩:=hg f (by simp)
   obtain ⟨xss,a1,a2,a3⟩:=Gl h fun f' hf'=>hg f' (by simp[hf'])
   have hle:=yH h
   refine ⟨xs::xss,⟨h3,a1⟩,?_,fun y hy=>?_⟩
   ·have e:(cs.drop f.offset).take (K - f.offset)=(cs.drop f.offset).take (P.cellsOf f.type)++(cs.drop (f.offset+P.cellsOf f.type)).take (K - (f.offset+P.cellsOf f.type)):=by
     rw[show K - f.offset=P.cellsOf f.type+(K - (f.offset+P.cellsOf f.type)) by omega,List.take_add,List.drop_drop]
    rw[e,List.flatten_cons]
    exact h1.append a2
   ·rw[List.flatten_cons,List.mem_append] at hy
    rcases hy with hy | hy
    ·exact h2 y hy
    ·exact a3 y hy
  ·cases h
theorem Ep {n:Nat}{e:TypeId}{cs:List Value}:∀{m k:Nat},
  (∀i,i<m->∃xs,AB P w n e xs ((cs.drop ((k+i)*P.cellsOf e)).take (P.cellsOf e))) ->
  ∃xss:List (List AV),xss.length=m/\(∀ys∈xss,Sh P n e ys)/\RVs0 w xss.flatten ((cs.drop (k*P.cellsOf e)).take (m*P.cellsOf e))/\∀y∈xss.flatten,y.one=true/\Closed y
 | 0,k,_=>⟨[],rfl,fun y hy=>by simp at hy,by rw[Nat.zero_mul,List.take_zero];exact ⟨rfl,fun i x v hx=>by simp at hx⟩,fun y hy=>by simp at hy⟩
 | m+1,k,hg=>by
  obtain ⟨xs,h1,h2,h3⟩:=hg 0 (by omega)
  rw[Nat.add_zero] at h1
  obtain ⟨xss,a0,a1,a2,a3⟩:=Ep (m:=m) (k:=k+1) fun i hi=>by
   have:=hg (i+1) (by omega)
   rwa [show k+(i+1)=k+1+i by omega] at this
  refine ⟨xs::xss,by simp[a0],fun ys hy=>?_,?_,fun y hy=>?_⟩
  ·rcases List.mem_cons.1 hy with rfl | hy
   ·exact h3
   ·exact a1 ys hy
  ·have e:(cs.drop (k*P.cellsOf e)).take ((m+1)*P.cellsOf e)=(cs.drop (k*P.cellsOf e)).take (P.cellsOf e)++(cs.drop ((k+1)*P.cellsOf e)).take (m*P.cellsOf e):=by
    rw[show (m+1)*P.cellsOf e=P.cellsOf e+m*P.cellsOf e by rw[Nat.add_mul];omega,List.take_add,List.drop_drop,Nat.add_mul,Nat.one_mul]
   rw[e,List.flatten_cons]
   exact h1.append a2
  ·rw[List.flatten_cons,List.mem_append] at hy
   rcases hy with hy | hy
   ·exact h2 y hy
   ·exact a3 y hy
theorem wi:∀(n:Nat) (t:TypeId),sM P n t=true->∀(fuel:Nat) (cs:List Value) (x:DataW H×List MemPlace),DataW.trod enc P w 0 (fun _=>true) true fuel t cs=some x->∃xs,AB P w n t xs cs:=by
 intro n
 induction n with
 | zero=>intro t h;simp[sM] at h
 | succ n ih =>
  intro t h fuel cs x hx
  unfold sM at h
  split at h
  ·rename_i hu
   obtain ⟨b,rfl,-⟩:=DataW.trod_bool hu hx
   refine ⟨[.bool b],⟨rfl,fun i x v h1 h2=>?_⟩,fun y hy=>?_,?_⟩
   ·cases i with
    | zero=>simp at h1 h2;subst h1;subst h2;exact .bool _ _
    | succ i=>simp at h1
   ·simp at hy;subst hy;exact ⟨rfl,.bool _⟩
   ·unfold Sh;rw[hu];exact ⟨b,rfl⟩
  ·rename_i k hu
   obtain ⟨z,rfl,-,hwf⟩:=DataW.trod_int hu hx
   refine ⟨[.int k z],⟨rfl,fun i x v h1 h2=>?_⟩,fun y hy=>?_,?_⟩
   ·cases i with
    | zero=>simp at h1 h2;subst h1;subst h2;exact .int _ _ _
    | succ i=>simp at h1
   ·simp at hy;subst hy;exact ⟨rfl,.int _ _⟩
   ·unfold Sh;rw[hu];exact ⟨z,rfl,hwf⟩
  ·rename_i e hu
   rw[Bool.and_eq_true,decide_eq_true_eq] at h
   obtain ⟨hpos,hp⟩:=h
   rcases DataW.trod_slice hu hx with ⟨rfl,-⟩ | ⟨a,len,cap,elems,rest,m,-,rfl,-,-,hlc,hcm,hlen,hel,-,-⟩
   ·refine ⟨[.nils],⟨rfl,fun i x v h1 h2=>?_⟩,fun y hy=>?_,?_⟩
    ·cases i with
     | zero=>simp at h1 h2;subst h1;subst h2;exact .nils _
     | succ i=>simp at h1
    ·simp at hy;subst hy;exact ⟨rfl,.nils⟩
    ·unfold Sh;rw[hu];exact .inl rfl
   ·have each:∀i,i<len->∃xs vs,w.cells? 0 (a.add (i*P.cellsOf e)) (P.cellsOf e)=some vs/\AB P w n e xs vs:=by
     intro i hi
     have:=hel i hi
     rw[List.getElem?_eq_getElem (show i<elems.length by omega),Option.bind_eq_some_iff] at this
     obtain ⟨vs,h1,h2⟩:=this
     obtain ⟨xs,hg⟩:=ih e hp _ _ _ h2
     exact ⟨xs,vs,h1,hg⟩
    let rowf:Nat->List AV:=fun i=>if hi:i<len then Classical.choose (each i hi) else []
    let valf:Nat->List Value:=fun i=>if hi:i<len then Classical.choose (Classical.choose_spec (each i hi)) else []
    have hrow:∀i,i<len->w.cells? 0 (a.add (i*P.cellsOf e)) (P.cellsOf e)=some (valf i)/\AB P w n e (rowf i) (valf i):=by
     intro i hi
     have:=Classical.choose_spec (Classical.choose_spec (each i hi))
     simpa only[rowf,valf,dif_pos hi] using this
    have hget:∀(i:Nat) (row:List AV),((List.range len).map rowf)[i]?=some row->i<len/\row=rowf i:=by
     intro i row h1
     rw[List.getElem?_map] at h1
     rcases Nat.lt_or_ge i len with hi | hi
     ·rw[List.getElem?_range hi] at h1
      injection h1 with h1
      exact ⟨hi,h1.symm⟩
     ·rw[List.getElem?_eq_none (by simpa using hi)] at h1;cases h1
    refine ⟨[.tsl 0 (P.cellsOf e) ((List.range len).map rowf)],⟨rfl,fun i x v h1 h2=>?_⟩,fun y hy=>?_,?_⟩
    ·cases i with
     | succ i=>simp at h1
     | zero =>
      simp at h1 h2;subst h1;subst h2
      rcases Nat.eq_zero_or_pos len with h0 | h0
      ·subst h0
       exact .tnil 0 0 _ a cap (Nat.le_refl _)
      ·obtain ⟨b,o,spot⟩:=a
       have hc0:=World.cells?_some (hrow 0 h0).1
       have hv0:(valf 0)[0]?=some (valf 0)[0]:=List.getElem?_eq_getElem (by rw[hc0.2.1];exact hpos)
       have h00:=hc0.2.2 0 hpos
       rw[hv0] at h00
       have hspot:spot=none:=by simpa [Addr.add] using World.cell?_spot h00
       subst hspot
       have cellat:∀i j row x,((List.range len).map rowf)[i]?=some row->row[j]?=some x->∃v,(valf i)[j]?=some v/\w.cell? (adr b (o+i*P.cellsOf e+j))=some v/\RV w gm0 av0 0 x v:=by
        intro i j row x hr hxj
        obtain ⟨hi,rfl⟩:=hget i row hr
        obtain ⟨q1,q2⟩:=hrow i hi
        have hj:j<(rowf i).length:=(List.getElem?_eq_some_iff.1 hxj).1
        have hj':j<(valf i).length:=by rw[<-q2.1.1];exact hj
        have hcs:=World.cells?_some q1
        have hcell:=hcs.2.2 j (by rw[<-hcs.2.1];exact hj')
        rw[List.getElem?_eq_getElem hj'] at hcell
        refine ⟨_,List.getElem?_eq_getElem hj',?_,q2.1.2 j x _ hxj (List.getElem?_eq_getElem hj')⟩
        rw[EG,show adr b (o+i*P.cellsOf e)=(⟨b,o+i*P.cellsOf e,none⟩:Addr) from rfl,EG] at hcell
        exact hcell
       have hb:b<w.heap.size:=by
        have:=Df h00
        simpa [Addr.add] using this
       have hrl:((List.range len).map rowf).length=len:=by simp
       have key:=RV.tsl (w:=w) (γ:=gm0) (A:=av0) 0 0 (P.cellsOf e) ((List.range len).map rowf) b o cap (fun i j=>(valf i)[j]?.getD undef) (Nat.le_refl _) (by rw[hrl];exact hlc) hb (KU b) (fun h=>h)
        (fun i row hr=>by
         obtain ⟨hi,rfl⟩:=hget i row hr
         obtain ⟨q1,q2⟩:=hrow i hi
         rw[q2.1.1,(World.cells?_some q1).2.1])
        (fun i j row x hr hxj=>by
         obtain ⟨hi,rfl⟩:=hget i row hr
         exact ((hrow i hi).2.2.1 x (List.mem_of_getElem? hxj)).1)
        (fun i j row x hr hxj=>by
         obtain ⟨v,v1,v2,v3⟩:=cellat i j row x hr hxj
         rw[v2,v1];rfl)
        (fun i j row x hr hxj=>by
         obtain ⟨v,v1,v2,v3⟩:=cellat i j row x hr hxj
         rw[v1];exact v3)
        (fun row hr x hx=>by
         obtain ⟨i,hi⟩:=List.getElem?_of_mem hr
         obtain ⟨hi2,rfl⟩:=hget i row hi
         exact ((hrow i hi2).2.2.1 x hx).2)
       rw[hrl] at key
       exact key
    ·simp only[List.mem_singleton] at hy;subst hy
     refine ⟨rfl,.tsl _ _ _ fun row hr x hx=>?_⟩
     obtain ⟨i,hi⟩:=List.getElem?_of_mem hr
     obtain ⟨hi2,rfl⟩:=hget i row hi
     exact ((hrow i hi2).2.2.1 x hx).2
    ·unfold Sh;rw[hu]
     refine .inr ⟨_,rfl,?_,fun row hr=>?_⟩
     ·rw[List.length_map,List.length_range]
      have:maxLen<9223372036854775808:=by decide
      omega
     ·obtain ⟨i,hi⟩:=List.getElem?_of_mem hr
      obtain ⟨hi2,rfl⟩:=hget i row hi
      exact (hrow i hi2).2.2.2
  ·rename_i fs hu
   rw[Bool.and_eq_true] at h
   obtain ⟨hc,hp⟩:=h
   have hc:sG P fs.toList 0=some (P.cellsOf t):=eq_of_beq hc
   obtain ⟨ys,m,-,-,hl,hyl,hel⟩:=DataW.trod_struct hu hx
   obtain ⟨xss,a1,a2,a3⟩:=Gl (w:=w) (n:=n) (cs:=cs) hc fun f hf=>by
    obtain ⟨i,hi,e⟩:=List.mem_iff_getElem.1 hf
    have hfi:fs[i]?=some f:=by rw[<-Array.getElem?_toList,List.getElem?_eq_getElem hi,e]
    have:=hel i f hfi
    rw[List.getElem?_eq_getElem (show i<ys.length by rw[hyl];simpa using hi)] at this
    exact ih f.type (List.all_eq_true.1 hp f hf) _ _ _ this
   rw[List.drop_zero,Nat.sub_zero,<-hl,List.take_length] at a2
   refine ⟨xss.flatten,a2,a3,?_⟩
   unfold Sh;rw[hu];exact ⟨xss,rfl,a1⟩
  ·rename_i m e hu
   rw[Bool.and_eq_true,decide_eq_true_eq] at h
   obtain ⟨hc,hp⟩:=h
   obtain ⟨ys,q,-,-,hl,hyl,hel⟩:=DataW.trod_array hu hx
   obtain ⟨xss,a0,a1,a2,a3⟩:=Ep (w:=w) (n:=n) (e:=e) (cs:=cs) (m:=m) (k:=0) fun i hi=>by
    have:=hel i hi
    rw[List.getElem?_eq_getElem (show i<ys.length by omega)] at this
    rw[Nat.zero_add]
    exact ih e hp _ _ _ this
   rw[Nat.zero_mul,List.drop_zero,hc,<-hl,List.take_length] at a2
   refine ⟨xss.flatten,a2,a3,?_⟩
   unfold Sh;rw[hu];exact ⟨xss,rfl,a0,a1⟩
  ·cases h
theorem Cr {n:Nat}{t:TypeId}{xs:List AV}(hu:P.underlying t=some (.int .i64))(h:Sh P n t xs):∃x:Int,Rp.rp NoP 0 .nil x xs:=by
 cases n with
 | zero=>exact h.elim
 | succ n =>
  unfold Sh at h;rw[hu] at h
  obtain ⟨z,rfl,-⟩:=h
  exact ⟨z,aU.2 rfl⟩
theorem iz {n:Nat}{t:TypeId}{xs:List AV}(hu:P.underlying t=some (.int .u8))(h:Sh P n t xs):∃x:UInt8,Rp.rp NoP 0 .nil x xs:=by
 cases n with
 | zero=>exact h.elim
 | succ n =>
  unfold Sh at h;rw[hu] at h
  obtain ⟨z,rfl,hw⟩:=h
  simp only[Lit.wf,IntKind.min,IntKind.max,IntKind.signed,IntKind.bits,Bool.and_eq_true] at hw
  refine ⟨UInt8.ofNat z.toNat,dj.2 ?_⟩
  have h1:0<=z:=by simpa using hw.1
  have h2:z<=255:=by simpa using hw.2
  have h3:(UInt8.ofNat z.toNat).toNat=z.toNat:=UInt8.toNat_ofNat_of_lt' (by show z.toNat<256;omega)
  rw[h3,Int.toNat_of_nonneg h1]
theorem rh {α:Type} [Rp α]{n:Nat}{t e:TypeId}{xs:List AV}(hu:P.underlying t=some (.slice e))(hsz:P.cellsOf e=Rp.sz α)(hel:∀ys,Sh P n e ys->∃y:α,Rp.rp NoP 0 .nil y ys)(h:Sh P (n+1) t xs) :
  ∃l:List α,Rp.rp NoP 0 .nil l xs:=by
 unfold Sh at h;rw[hu] at h
 rcases h with rfl | ⟨rows,rfl,hl,hr⟩
 ·exact ⟨[],.nils,rfl,by simp,rfl⟩
 ·have:∀rows:List (List AV),(∀row∈rows,Sh P n e row)->∃l:List α,All2 (Rp.rp NoP 0 .nil) l rows:=by
   intro rows
   induction rows with
   | nil=>intro _;exact ⟨[],trivial⟩
   | cons r rows ih =>
    intro h
    obtain ⟨y,hy⟩:=hel r (h r (by simp))
    obtain ⟨l,hl⟩:=ih fun row hrow=>h row (by simp[hrow])
    exact ⟨y::l,hy,hl⟩
  obtain ⟨l,ha⟩:=this rows hr
  exact ⟨l,_,rfl,by rw[ha.len];exact hl,Nat.le_refl _,.inl hsz,ha⟩
theorem F4 {n m:Nat}{t e:TypeId}{xs:List AV}(hu:P.underlying t=some (.array m e))(h:Sh P (n+1) t xs):∃xss:List (List AV),xs=xss.flatten/\xss.length=m/\∀ys∈xss,Sh P n e ys:=by
 unfold Sh at h;rw[hu] at h;exact h
theorem nH {n:Nat}{t:TypeId}{fs:Array Field}{xs:List AV}(hu:P.underlying t=some (.struct fs))(h:Sh P (n+1) t xs):∃xss,xs=xss.flatten/\All2 (fun (f:Field) ys=>Sh P n f.type ys) fs.toList xss:=by
 unfold Sh at h;rw[hu] at h;exact h
end Hx
end
